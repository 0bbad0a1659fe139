import Derived.Test.YtgdlaibocecehaaGreatDoorRVr
import Derived.Test.YtgdlaibocecehaaGreatDoorRVq
import Derived.Test.YtgdlaibocecehaaGreatDoorRVm
import Derived.Test.YtgdlaibocecehaaGreatDoorRVs
import Derived.OpenShut
set_option linter.unusedVariables false
set_option linter.unusedSimpArgs false
namespace Go.AE
open IntKind renaming i64→aA
open Go.Proofs Go.Proofs.YtgdlaibocecehaaGreatDoor Go.RowKit
def LU(s:ByteArray)(n:Int):ByteArray:=if n<s.size then s.extract 0 n.toNat else s
def UR:Mod
 |[.c (.p (.s s)),.c (.p (.i .i64 n))]=>some (0≤n,.c (.p (.s (LU s n))))
 |_=>none
def xW:Mod
 |[]=>some (True,bV true)
 |_=>none
def UO(L:List Int)(S:List Se):Mod
 |[x]=>match BY x L with
  |some p=>some ((p∧L.length≤9223372036854775807)∧S=jD L (oA L),aX gK 13 S)
  |none=>none
 |_=>none
def aED(L:List Int)(kd fu wi off k n d:Int)(nm:ByteArray)(mc:Nat)(f:Nat→Nat→PV)(bc:Nat)(g:Nat→Nat→PV)(c:Nat)(e:Nat→Nat→PV):Mod
 |[x]=>match BY x L with
  |some p=>some ((p∧L.length≤9223372036854775807)∧vZ (iW L 100 40)=[.i .i64 kd,.i .i64 fu,.i .i64 wi,.i .i64 off,.i .i64 k,.i .i64 n,.i .i64 d,.s nm,.l 3 mc f,.l 1 bc g,.l 11 c e],.a [.p (.i .i64 kd),.p (.i .i64 fu),.p (.i .i64 wi),.p (.i .i64 off),.p (.i .i64 k),.p (.i .i64 n),.p (.i .i64 d),.p (.s nm),.p (.l 3 mc f),.p (.l 1 bc g),.p (.l 11 c e)])
  |none=>none
 |_=>none
def aL9(L:List Int)(S:List Se):Ext:=fB [(6,UO L S),(5,UW S)]
def aL8(Q N:List Int)(kd fu wi off k n d:Int)(nm:ByteArray)(mc:Nat)(f:Nat→Nat→PV)(bc:Nat)(g:Nat→Nat→PV)(c:Nat)(e:Nat→Nat→PV):Ext:=fB [(8,aED Q kd fu wi off k n d nm mc f bc g c e),(7,aEC N)]
def aL7:Ext:=fB [(10,UR),(9,aEL)]
def aL6(D:List De)(t:Nat):Ext:=fB [(11,aAU D t),(12,aAU D t),(13,xW)]
theorem tSh(s:ByteArray)(n:Int):cJ dX (cS Tryz.prog Tryz.f10) (iR Tryz.f10 [.c (.p (.s s)),iV n]) (cP [] (bB Tryz.prog Tryz.f10))=bT (decide (n<(↑s.size:Int))) (.rq (0≤(↑0:Int)∧(↑0:Int)≤n∧n≤(↑s.size:Int)) (.done .ret (St.mk [V.c (C.p (PV.s (s.extract (↑0:Int).toNat n.toNat)))] [])))
 (.done .ret (St.mk [V.c (C.p (PV.s s))] [])):=by kernel_rfl
theorem aV4(L Q N:List Int)(at_ x:Int)(s:ByteArray)(S:List Se):cJ (aL9 L S) (dH 2 (cS Tryz.prog Tryz.f3)) (iR Tryz.f3 [aX aW 1 L,aX aW 1 Q,aX aW 1 N,iV at_,iV x,sV s]) (cP (fO 55 [1,2,3,4,5,13]) (bB Tryz.prog Tryz.f3))=Tr.rq (((L.length=L.length∧∀(e o:Nat),e<L.length→o<1→aJ aW L e o=aJ aW L e o)∧L.length≤9223372036854775807)∧S=jD L (oA L))
 (.rq ((S.length=S.length∧∀(e o:Nat),e<S.length→o<13→aJ gK S e o=aJ gK S e o)∧S.length≤1000)
 (.done .normal
 (bU 55 [(1,.c (.p (.l 1 Q.length (aJ aW Q)))),(2,.c (.p (.l 1 N.length (aJ aW N)))),(3,.c (.p (.i .i64 at_))),(4,.c (.p (.i .i64 x))),(5,.c (.p (.s s))),(13,.c (.p (.l 12 (List.map Se.d S).length (aJ bQ (List.map Se.d S)))))] []))):=by kernel_rfl
theorem aV3(Q N:List Int)(at_ x:Int)(s:ByteArray)(D:List De)(kd fu wi off k n d:Int)(nm:ByteArray)(mc:Nat)(f:Nat→Nat→PV)(bc:Nat)(g:Nat→Nat→PV)(c:Nat)(e:Nat→Nat→PV):cJ (aL8 Q N kd fu wi off k n d nm mc f bc g c e) (dH 1 (bJ 2 (cS Tryz.prog Tryz.f3))) (bU 55 [(1,aX aW 1 Q),(2,aX aW 1 N),(3,iV at_),(4,iV x),(5,sV s),(13,aX bQ 12 D)] []) (cP (fO 55 [3,4,5,13,14]) (bB Tryz.prog Tryz.f3))=Tr.rq
 (((Q.length=Q.length∧∀(e o:Nat),e<Q.length→o<1→aJ aW Q e o=aJ aW Q e o)∧Q.length≤9223372036854775807) ∧
 vZ (iW Q 100 40) =
 [PV.i aA kd,PV.i aA fu,PV.i aA wi,PV.i aA off,PV.i aA k,PV.i aA n,PV.i aA d,PV.s nm,PV.l 3 mc f,PV.l 1 bc g,PV.l 11 c e])
 (.rq (N.length=N.length∧∀(e o:Nat),e<N.length→o<1→aJ aW N e o=aJ aW N e o)
 (.done .normal
 (bU 55 [(3,.c (.p (.i .i64 at_))),(4,.c (.p (.i .i64 x))),(5,.c (.p (.s s))),(13,.c (.p (.l 12 D.length (aJ bQ D)))),(14,.c (.ptr 0 0))] [.cells 35 (pH (ByteArray.mk #[104,111,116]) (1+cC N 2 3) kd fu wi off k n d nm mc f bc g c e (cC N 3 2==0) (ruN N) (ruD N) (1+cC N 4 3) (1+cC N 5 3) (cC N 6 9))]))):=by kernel_rfl
theorem aV2(at_ x:Int)(s:ByteArray)(D:List De)(na:ByteArray)(ve:Int)(kd fu wi off k n d:Int)(nm:ByteArray)(mc:Nat)(f:Nat→Nat→PV)(bc:Nat)(g:Nat→Nat→PV)(c:Nat)(e:Nat→Nat→PV)(ab:Bool)(nu de ho cl dl:Int):cJ aL7 (dH 1 (bJ 3 (cS Tryz.prog Tryz.f3))) (bU 55 [(3,iV at_),(4,iV x),(5,sV s),(13,aX bQ 12 D),(14,.c (.ptr 0 0))] [.cells 35 (pH na ve kd fu wi off k n d nm mc f bc g c e ab nu de ho cl dl)]) (cP (fO 55 [13,14,15]) (bB Tryz.prog Tryz.f3))=Tr.rq (Int.ofNat 0≤Int.ofNat 20)
 (.rq (inR aA at_)
 (.done .normal
 (bU 55 [(13,.c (.p (.l 12 D.length (aJ bQ D)))),(14,.c (.ptr 0 0)),(15,.c (.ptr 1 0))] [.cells 35 (pH na ve kd fu wi off k n d nm mc f bc g c e ab nu de ho cl dl),.cells 35 (pH (if cM at_ 9=0 then LU s 20 else na) (bI (cM at_ 9) 1 x ve) (bI (cM at_ 9) 8 0 (bI (cM at_ 9) 7 x kd)) (bI (cM at_ 9) 8 0 fu) (bI (cM at_ 9) 8 0 wi) (bI (cM at_ 9) 8 0 off) (bI (cM at_ 9) 8 0 k) (bI (cM at_ 9) 8 1 n) (bI (cM at_ 9) 8 1 d) (if cM at_ 9=8 then ByteArray.mk #[] else nm) (if cM at_ 9=8 then 0 else mc) (if cM at_ 9=8 then aJ bY [] else f) (if cM at_ 9=8 then 0 else bc) (if cM at_ 9=8 then aJ bM [] else g) (if cM at_ 9=8 then 0 else c) e ab (bI (cM at_ 9) 6 x nu) (bI (cM at_ 9) 5 x de) (bI (cM at_ 9) 2 x ho) (bI (cM at_ 9) 3 x cl) (bI (cM at_ 9) 4 x dl))]))):=by kernel_rfl
theorem aV1(D:List De)(t:Nat)(na:ByteArray)(ve:Int)(kd fu wi off k n d:Int)(nm:ByteArray)(mc:Nat)(f:Nat→Nat→PV)(bc:Nat)(g:Nat→Nat→PV)(c:Nat)(e:Nat→Nat→PV)(ab:Bool)(nu de ho cl dl:Int)(na':ByteArray)(ve' kd' fu' wi' off' k' n' d':Int)(nm':ByteArray)(mc':Nat)(f':Nat→Nat→PV)(bc':Nat)(g':Nat→Nat→PV)(c':Nat)(e':Nat→Nat→PV)(ab':Bool)(nu' de' ho' cl' dl':Int):cJ (aL6 D t) (bJ 4 (cS Tryz.prog Tryz.f3)) (bU 55 [(13,aX bQ 12 D),(14,.c (.ptr 0 0)),(15,.c (.ptr 1 0))] [.cells 35 (pH na ve kd fu wi off k n d nm mc f bc g c e ab nu de ho cl dl),.cells 35 (pH na' ve' kd' fu' wi' off' k' n' d' nm' mc' f' bc' g' c' e' ab' nu' de' ho' cl' dl')]) (cP [] (bB Tryz.prog Tryz.f3))=Tr.rq
 ((D.length=D.length∧∀(e o:Nat),e<D.length→o<12→aJ bQ D e o=aJ bQ D e o) ∧
 lO t
 [PV.i aA kd,PV.i aA fu,PV.i aA wi,PV.i aA off,PV.i aA k,PV.i aA n,PV.i aA d,PV.s nm,PV.l 3 mc f,PV.l 1 bc g,
 PV.l 11 c e] ∧
 inR aA nu∧inR aA de)
 (.rq
 ((D.length=D.length∧∀(e o:Nat),e<D.length→o<12→aJ bQ D e o=aJ bQ D e o) ∧
 lO t
 [PV.i aA kd,PV.i aA fu,PV.i aA wi,PV.i aA off,PV.i aA k,PV.i aA n,PV.i aA d,PV.s nm,PV.l 3 mc f,PV.l 1 bc g,
 PV.l 11 c e] ∧
 inR aA nu∧inR aA de)
 (bT
 (oT D t na ve ho cl dl nu de
 [PV.i aA kd,PV.i aA fu,PV.i aA wi,PV.i aA off,PV.i aA k,PV.i aA n,PV.i aA d,PV.s nm,PV.l 3 mc f,PV.l 1 bc g,
 PV.l 11 c e] ==
 oT D t na ve ho cl dl nu de
 [PV.i aA kd,PV.i aA fu,PV.i aA wi,PV.i aA off,PV.i aA k,PV.i aA n,PV.i aA d,PV.s nm,PV.l 3 mc f,PV.l 1 bc g,
 PV.l 11 c e])
 (.rq
 ((D.length=D.length∧∀(e o:Nat),e<D.length→o<12→aJ bQ D e o=aJ bQ D e o) ∧
 lO t
 [PV.i aA kd',PV.i aA fu',PV.i aA wi',PV.i aA off',PV.i aA k',PV.i aA n',PV.i aA d',PV.s nm',PV.l 3 mc' f',
 PV.l 1 bc' g',PV.l 11 c' e'] ∧
 inR aA nu'∧inR aA de')
 (.rq
 ((D.length=D.length∧∀(e o:Nat),e<D.length→o<12→aJ bQ D e o=aJ bQ D e o) ∧
 lO t
 [PV.i aA kd',PV.i aA fu',PV.i aA wi',PV.i aA off',PV.i aA k',PV.i aA n',PV.i aA d',PV.s nm',PV.l 3 mc' f',
 PV.l 1 bc' g',PV.l 11 c' e'] ∧
 inR aA nu'∧inR aA de')
 (bT
 (oT D t na' ve' ho' cl' dl' nu' de'
 [PV.i aA kd',PV.i aA fu',PV.i aA wi',PV.i aA off',PV.i aA k',PV.i aA n',PV.i aA d',PV.s nm',PV.l 3 mc' f',
 PV.l 1 bc' g',PV.l 11 c' e'] ==
 oT D t na' ve' ho' cl' dl' nu' de'
 [PV.i aA kd',PV.i aA fu',PV.i aA wi',PV.i aA off',PV.i aA k',PV.i aA n',PV.i aA d',PV.s nm',PV.l 3 mc' f',
 PV.l 1 bc' g',PV.l 11 c' e'])
 (.rq
 (lO t
 [PV.i aA kd,PV.i aA fu,PV.i aA wi,PV.i aA off,PV.i aA k,PV.i aA n,PV.i aA d,PV.s nm,PV.l 3 mc f,PV.l 1 bc g,
 PV.l 11 c e] ∧
 inR aA nu∧inR aA de)
 (.rq
 (lO t
 [PV.i aA kd,PV.i aA fu,PV.i aA wi,PV.i aA off,PV.i aA k,PV.i aA n,PV.i aA d,PV.s nm,PV.l 3 mc f,PV.l 1 bc g,
 PV.l 11 c e] ∧
 inR aA nu∧inR aA de)
 (bT
 (oT [] t na ve ho cl dl nu de
 [PV.i aA kd,PV.i aA fu,PV.i aA wi,PV.i aA off,PV.i aA k,PV.i aA n,PV.i aA d,PV.s nm,PV.l 3 mc f,
 PV.l 1 bc g,PV.l 11 c e] ==
 oT [] t na ve ho cl dl nu de
 [PV.i aA kd,PV.i aA fu,PV.i aA wi,PV.i aA off,PV.i aA k,PV.i aA n,PV.i aA d,PV.s nm,PV.l 3 mc f,
 PV.l 1 bc g,PV.l 11 c e])
 (.rq True (.done .ret (St.mk [V.c (C.p (PV.b true))] []))) (.done .ret (St.mk [V.c (C.p (PV.b false))] [])))))
 (.done .ret (St.mk [V.c (C.p (PV.b false))] [])))))
 (.done .ret (St.mk [V.c (C.p (PV.b false))] [])))):=by kernel_rfl
theorem AJ(L:List Int):∀(k:Nat) (y:Se),y∈jD L k→y.d.L.length≤1000
 |0,y,h=>by cases h
 |k+1,y,h=>by
  rw[CL]at h
  rcases List.mem_append.1 h with h|h
  ·exact AJ L k y h
  ·obtain rfl:=List.mem_singleton.1 h
   show (YP _).length≤1000
   unfold YP;split
   ·decide
   ·split
    ·decide
    ·split<;>decide
theorem OO(L:List Int):oA L≤4:=by
 have:=cY L 1 (m:=4) (by omega)
 unfold oA;omega
theorem aAO(L:List Int):wW ((jD L (oA L)).map Se.d):=by
 refine⟨?_,fun d hd=>?_⟩
 ·rw[List.length_map,rV]
  have:=OO L
  omega
 ·obtain⟨y,hy,rfl⟩:=List.mem_map.1 hd
  exact AJ L _ y hy
section
variable {G:Nat→Option Obj}
set_option maxRecDepth 100000 in
theorem aI8:dD Tryz.prog G 10 UR:=by
 intro args p v hm hp h;unfold UR at hm
 split at hm;rotate_left;· cases hm
 rename_i s n;obtain⟨rfl,rfl⟩:=bA hm
 refine fR Tryz.func10 (by kernel_rfl) rfl ?_ h
 refine cO.evH aT (tSh s n) ?_;simp only[bD,aS,aI,bK,decide_eq_true_eq,decide_eq_false_iff_not];refine⟨fun c1=>⟨⟨by omega,by omega,by omega⟩,⟨?_⟩⟩,fun c1=>⟨?_⟩⟩
 ·unfold LU;rw[if_pos c1];exact eL.refl _
 ·unfold LU;rw[if_neg c1];exact eL.refl _
theorem aI4{L:List Int}(hI:oM L)(S:List Se):dD Tryz.prog G 6 (UO L S):=by
 intro args p v hm hp h;unfold UO at hm
 split at hm;rotate_left;· cases hm
 split at hm;rotate_left;· cases hm
 rename_i x _ q hq;obtain⟨rfl,rfl⟩:=bA hm;obtain⟨h1,rfl⟩:=hp;exact aI5 (G:=G) hI [x] _ _ (by simp only[UP,hq]) h1 h
theorem aN4{L:List Int}(hI:oM L)(kd fu wi off k n d:Int)(nm:ByteArray)(mc:Nat)(f:Nat→Nat→PV)(bc:Nat)(g:Nat→Nat→PV)(c:Nat)(e:Nat→Nat→PV):dD Tryz.prog G 8 (aED L kd fu wi off k n d nm mc f bc g c e):=by
 intro args p v hm hp h;unfold aED at hm
 split at hm;rotate_left;· cases hm
 split at hm;rotate_left;· cases hm
 rename_i x _ q hq;obtain⟨rfl,rfl⟩:=bA hm;obtain⟨h1,h2⟩:=hp
 have:=aQ1 (G:=G) hI [x] _ _ (by simp only[aNZ,hq];rfl) h1 h
 rw[h2]at this;exact this
set_option maxRecDepth 100000 in
theorem rulesValid_fn(hG:yM G)(hLv:dD Tryz.prog G 13 xW){L Q N:List Int}(hI:oM L)(hQ:oM Q)(hN:oM N)(lL:L.length≤9223372036854775807)(lQ:Q.length≤9223372036854775807){at_ x:Int}(hat:inR .i64 at_)(hx:inR .i64 x)(s:ByteArray)(h:List AO) :
  lW Tryz.prog G 3 [aX aW 1 L,aX aW 1 Q,aX aW 1 N,iV at_,iV x,sV s] h fun v h'=>v=bV true∧h'=h:=by
 have tr:∀K:List Int,(True∧∀(e o:Nat),e<K.length→o<1→True):=fun _=>⟨trivial,fun _ _ _ _=>trivial⟩
 have hqr:∀j,0≤(iW Q 100 40).getD j default∧(iW Q 100 40).getD j default≤1000002:=fun j=>tU _ _ _ _
 obtain⟨⟨kd,fu,wi,off,k,n,d,nm,ML,BL,c,e,hcs,hn,hd,hL,hc,hk⟩,hno⟩:=aPY hqr
 have hEQ:BP 4 10 [.i .i64 kd,.i .i64 fu,.i .i64 wi,.i .i64 off,.i .i64 k,.i .i64 n,.i .i64 d,.s nm,.l 3 ML.length (aJ bY ML),.l 1 BL.length (aJ bM BL),.l 11 c e]:=hcs▸aPY hqr
 clear hno hk
 obtain⟨S,hS⟩:∃S,S=jD L (oA L):=⟨_,rfl⟩
 have hDs:wW (S.map Se.d):=by rw[hS];exact aAO L
 have hSl:S.length≤1000:=by rw[hS,rV];have:=OO L;omega
 have hs1:bO Tryz.prog G (aL9 L S):=cD (by simp;exact⟨aI4 hI S,aIF S⟩)
 have hs2:bO Tryz.prog G (aL8 Q N kd fu wi off k n d nm ML.length (aJ bY ML) BL.length (aJ bM BL) c e):=cD (by simp;exact⟨aN4 hQ _ _ _ _ _ _ _ _ _ _ _ _ _ _,aMZ hN⟩)
 have hs3:bO Tryz.prog G aL7:=cD (by simp;exact⟨aI8,aNN⟩)
 have hs4:bO Tryz.prog G (aL6 (S.map Se.d) 4):=cD (by simp;exact⟨aN1 hG hDs 4 (by decide),aN0 hG hDs 4 (by decide),hLv⟩)
 refine fR Tryz.func3 (by kernel_rfl) rfl ?_ h
 refine cO.evG hs1 2 (aV4 L Q N at_ x s S) ?_;simp only[aS,aI,aZ];refine⟨⟨⟨tr L,lL⟩,hS⟩,⟨⟨trivial,fun _ _ _ _=>trivial⟩,hSl⟩,⟨?_⟩⟩
 generalize S.map Se.d=D at hDs hs4 ⊢
 refine cO.evG hs2 1 (aV3 Q N at_ x s D kd fu wi off k n d nm ML.length (aJ bY ML) BL.length (aJ bM BL) c e) ?_;simp only[aS,aI,aZ];refine⟨⟨⟨tr Q,lQ⟩,hcs⟩,tr N,⟨?_⟩⟩
 have hru:inR .i64 (ruN N)∧inR .i64 (ruD N):=by
  have p0:=cY N 0 (m:=25) (by omega)
  have p1:=cY N 0 (m:=12) (by omega)
  unfold ruN ruD;simp only[inR];split<;>omega
 have p2:=cY N 2 (m:=3) (by omega)
 refine cO.evG hs3 1 (aV2 at_ x s D _ _ kd fu wi off k n d nm ML.length (aJ bY ML) BL.length (aJ bM BL) c e _ _ _ _ _ _) ?_;simp only[aS,aI,aZ];refine⟨by decide,hat,⟨?_⟩⟩
 have hb:=aR9 hEQ (by decide) (cM at_ 9) x
 refine cO.evH hs4 (aV1 D 4 _ _ kd fu wi off k n d nm ML.length (aJ bY ML) BL.length (aJ bM BL) c e _ _ _ _ _ _ _ _ _ _ _ _ _ _ _ _ _ _ _ _ _ _ _ _ _ _ _ _) ?_
 have nA:lO 4 [.i .i64 kd,.i .i64 fu,.i .i64 wi,.i .i64 off,.i .i64 k,.i .i64 n,.i .i64 d,.s nm,.l 3 ML.length (aJ bY ML),.l 1 BL.length (aJ bM BL),.l 11 c e]:=⟨hEQ.1,by have:=hEQ.2;omega⟩
 have bI_in:∀(j:Nat) {y:Int},inR .i64 y→inR .i64 (bI (cM at_ 9) j x y):=fun j y hy=>by unfold bI;split<;>assumption
 simp only[bD,aS,aI,bK,beq_self_eq_true]
 have tD:(True∧∀(e o:Nat),e<D.length→o<12→True):=⟨trivial,fun _ _ _ _=>trivial⟩
 have cA:=And.intro nA hru
 have cB:lO 4 _∧_∧_:=⟨⟨hb.1,by have:=hb.2;omega⟩,bI_in 6 hru.1,bI_in 5 hru.2⟩
 exact⟨⟨tD,cA⟩,⟨tD,cA⟩,fun _=>⟨⟨tD,cB⟩,⟨tD,cB⟩,fun _=>⟨cA,cA,fun _=>⟨trivial,⟨eL.refl _⟩⟩,fun h=>absurd h (by decide)⟩,fun h=>absurd h (by decide)⟩,fun h=>absurd h (by decide)⟩
end
theorem wf_in{x:Int}(h:(Lit.int .i64 x).wf=true):inR .i64 x:=by
 have:=bounds_i64 h
 exact⟨this.1,this.2⟩
theorem row_vr{w:World}{a:Option Addr}{len cap:Nat}{zs:List Int}(h:(a=none∧len=0∧cap=0∧zs=[]) ∨
 ∃x:Addr,a=some x∧len≤cap∧cap≤maxLen∧zs.length=cap∧(∀i,i<zs.length→w.cell? (x.add i)=some (.int .i64 (zs.getD i 0)))∧∀n∈zs,(Lit.int .i64 n).wf=true) :
  ∃L,(oM L∧L.length≤9223372036854775807)∧VR Bt.nil (fun b=>b<w.heap.size) w (aX aW 1 L) (.slice a len cap):=by
 rcases h with⟨rfl,rfl,rfl,rfl⟩|⟨x,rfl,h1,h2,h3,h4,h5⟩
 ·exact⟨[],⟨(fun x hx=>by cases hx),by simp⟩,none,0,rfl,Nat.le_refl _,Nat.zero_le _,fun h=>absurd h (Nat.lt_irrefl 0)⟩
 ·have hl:(zs.take len).length=len:=by rw[List.length_take];omega
  have hm:maxLen≤9223372036854775807:=by decide
  refine⟨zs.take len,⟨fun y hy=>wf_in (h5 y (List.mem_of_mem_take hy)),by omega⟩,some x,cap,by rw[hl],by rw[hl];exact h1,h2,fun hn=>?_⟩;rw[hl]at hn;refine⟨x,rfl,?_,fun e o he ho=>?_⟩
  ·have:=World.block_lt_of_cell? w _ (h4 0 (by omega))
   rwa [sR]at this
  ·rw[hl]at he
   obtain rfl:o=0:=by omega
   refine⟨_,h4 (e*1+0) (by omega),?_⟩
   show Value.int .i64 (zs.getD (e*1+0) 0)=Value.int .i64 ((zs.take len).getD e default)
   simp[he]
theorem okLives27{G:Nat→Option Obj}(hG:yM G):dD Tryz.prog G 13 xW:=by
 intro args p v hm hp h;unfold xW at hm
 split at hm;rotate_left;· cases hm
 obtain⟨rfl,rfl⟩:=bA hm;refine GJ rfl ?_ h;intro R w vs hr hg ha
 obtain⟨o,h1,h2⟩:=hG
 have hv:=All2.nil2 ha
 obtain rfl:vs = #[]:=by
  apply Array.ext';simpa using hv
 refine(Go.CE.lives27_calls h2 (hg 0 o h1)).mono ?_;rintro e w' ⟨rfl,hb⟩;exact⟨_,rfl,rfl,hb⟩
end Go.AE
