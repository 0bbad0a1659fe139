import Derived.Test.YtgdlaibocecehaaGreatDoorRVn
set_option linter.unusedVariables false
set_option linter.unusedSimpArgs false
namespace Go.AE
open _root_.ByteArray renaming mk→aO
open _root_.Int renaming le_refl→fA,ofNat→aF,toNat→aL
open IntKind renaming i64→aA
open _root_.List renaming cons→fF,getD_eq_getElem?_getD→aG,getElem?_eq_getElem→aN
open _root_.Nat renaming zero_le→bH
open Value renaming slice→dP
open Go.Proofs Go.Proofs.YtgdlaibocecehaaGreatDoor
def GN(D:List De)(t:Nat):Mod
 |[x,.a [.p q0,.p q1,.p q2,.p q3,.p q4,.p q5,.p q6,.p q7,.p q8,.p q9,.p q10]]=>match leR bQ 12 x D with
  |some p=>some (p∧iD t [q0,q1,q2,q3,q4,q5,q6,q7,q8,q9,q10],unE (dY D t [q0,q1,q2,q3,q4,q5,q6,q7,q8,q9,q10]))
  |none=>none
 |_=>none
def NY(D:List De)(t:Nat):Ext:=fB [(100,aEA D),(66,GN D t),(67,jP iD eJ t),(101,VA t)]
theorem aU6(D:List De)(kd fu wi off k n d:Int)(nm:ByteArray)(mc:Nat)(f:Nat→Nat→PV)(bc:Nat)(g:Nat→Nat→PV)(c:Nat)(e:Nat→Nat→PV)(t:Nat):cJ (NY D t) (dH 5 (cS Tryz.prog Tryz.f66)) (iR Tryz.f66 [aX bQ 12 D,.a (cF kd fu wi off k n d nm mc f bc g c e)]) (cP (fO 79 [0,3,4,6,7]) (bB Tryz.prog Tryz.f66))=bT (kd==1)
 (.rq ((D.length=D.length∧∀(e o:Nat),e<D.length→o<12→aJ bQ D e o=aJ bQ D e o)∧∃ML,mc=ML.length∧f=aJ bY ML∧ML.length≤1000)
 (.done .ret
 (St.mk [V.t [V1.a (bG (mZ D nm (eR mK mc f) fu).snd.fst (mZ D nm (eR mK mc f) fu).snd.snd.fst (mZ D nm (eR mK mc f) fu).snd.snd.snd),V1.c (C.p (PV.i aA (mZ D nm (eR mK mc f) fu).fst))]] [])))
 (.done .normal
 (bU 79 [(0,.c (.p (.l 12 D.length (aJ bQ D)))),(3,.c (.ptr 0 0)),(4,.c (.ptr 1 0)),(6,.c (.p (.z (dP none 0 0)))),(7,.c (.p (.i .i64 0)))] [.cells 33 (cF kd fu wi off k n d nm mc f bc g c e),.cells 57 (bG 0 0 0)])):=by kernel_rfl
theorem aU5(D:List De)(kd fu wi off k n d:Int)(nm:ByteArray)(mc:Nat)(f:Nat→Nat→PV)(bc:Nat)(g:Nat→Nat→PV)(c:Nat)(e:Nat→Nat→PV)(t:Nat)(out:List U3)(m i:Nat):cJ (NY D t) (jZ (cS Tryz.prog Tryz.f66) 5) (bU 79 [(0,aX bQ 12 D),(3,.c (.ptr 0 0)),(4,.c (.ptr 1 0)),(6,.c (.sl 2 3 0 m)),(7,iV (i:Nat))] [.cells 33 (cF kd fu wi off k n d nm mc f bc g c e),.cells 57 (bG 0 0 0),.row 57 3 m (cR eX out)]) (cP (fO 79 [0,3,4,6,7]) (bB Tryz.prog Tryz.f66))=bT (decide ((↑i:Int)<(↑c:Int)))
 (.rq (0≤(↑i:Int)∧(↑i:Int)<(↑c:Int))
 (.rq
 ((D.length=D.length∧∀(e o:Nat),e<D.length→o<12→aJ bQ D e o=aJ bQ D e o) ∧
 iD t
 [e (↑i:Int).toNat 0,e (↑i:Int).toNat 1,e (↑i:Int).toNat 2,e (↑i:Int).toNat 3,e (↑i:Int).toNat 4,e (↑i:Int).toNat 5,e (↑i:Int).toNat 6,e (↑i:Int).toNat 7,
 e (↑i:Int).toNat 8,e (↑i:Int).toNat 9,e (↑i:Int).toNat 10])
 (bT
 ((dY D t
 [e (↑i:Int).toNat 0,e (↑i:Int).toNat 1,e (↑i:Int).toNat 2,e (↑i:Int).toNat 3,e (↑i:Int).toNat 4,e (↑i:Int).toNat 5,e (↑i:Int).toNat 6,e (↑i:Int).toNat 7,
 e (↑i:Int).toNat 8,e (↑i:Int).toNat 9,e (↑i:Int).toNat 10]).fst !=
 0)
 (.done .ret
 (St.mk [V.t [V1.a (bG 0 0 0),V1.c (C.p (PV.i aA (dY D t [e (↑i:Int).toNat 0,e (↑i:Int).toNat 1,e (↑i:Int).toNat 2,e (↑i:Int).toNat 3,e (↑i:Int).toNat 4,e (↑i:Int).toNat 5,e (↑i:Int).toNat 6,e (↑i:Int).toNat 7,e (↑i:Int).toNat 8,e (↑i:Int).toNat 9,e (↑i:Int).toNat 10]).fst))]] []))
 (.rq (m=m)
 (.rq (1≤1)
 (.rq
 ((m+1)*24≤140737488355328 ∧
 m+1≤140737488355328 ∧
 ∀(e_1 o:Nat),
 e_1<1 →
 o<3 →
 kZ
 (rR
 [C.p
 (PV.i aA
 (dY D t
 [e (↑i:Int).toNat 0,e (↑i:Int).toNat 1,e (↑i:Int).toNat 2,e (↑i:Int).toNat 3,e (↑i:Int).toNat 4,
 e (↑i:Int).toNat 5,e (↑i:Int).toNat 6,e (↑i:Int).toNat 7,
 e (↑i:Int).toNat 8,e (↑i:Int).toNat 9,
 e (↑i:Int).toNat 10]).snd.fst),
 C.p
 (PV.i aA
 (dY D t
 [e (↑i:Int).toNat 0,e (↑i:Int).toNat 1,e (↑i:Int).toNat 2,e (↑i:Int).toNat 3,
 e (↑i:Int).toNat 4,e (↑i:Int).toNat 5,e (↑i:Int).toNat 6,
 e (↑i:Int).toNat 7,e (↑i:Int).toNat 8,
 e (↑i:Int).toNat 9,e (↑i:Int).toNat 10]).snd.snd.fst),
 C.p
 (PV.i aA
 (dY D t
 [e (↑i:Int).toNat 0,e (↑i:Int).toNat 1,e (↑i:Int).toNat 2,e (↑i:Int).toNat 3,
 e (↑i:Int).toNat 4,e (↑i:Int).toNat 5,e (↑i:Int).toNat 6,
 e (↑i:Int).toNat 7,e (↑i:Int).toNat 8,
 e (↑i:Int).toNat 9,e (↑i:Int).toNat 10]).snd.snd.snd)]
 3 1 (e_1+0) o) =
 true)
 (.rq (inR aA ((↑i:Int)+1))
 (.done .normal
 (bU 79 [(0,.c (.p (.l 12 D.length (aJ bQ D)))),(3,.c (.ptr 0 0)),(4,.c (.ptr 1 0)),(6,.c (.sl 2 3 0 (m+1))),(7,.c (.p (.i .i64 ((↑i:Int)+1))))] [.cells 33 (cF kd fu wi off k n d nm mc f bc g c e),.cells 57 (bG 0 0 0),.row 57 3 (m+1) fun e_1 o=>fG [0,1,5] (iZ m (cR eX out) (fun e_2 o=>bN C.top (bG (dY D t [e (↑i:Int).toNat 0,e (↑i:Int).toNat 1,e (↑i:Int).toNat 2,e (↑i:Int).toNat 3,e (↑i:Int).toNat 4,e (↑i:Int).toNat 5,e (↑i:Int).toNat 6,e (↑i:Int).toNat 7,e (↑i:Int).toNat 8,e (↑i:Int).toNat 9,e (↑i:Int).toNat 10]).snd.fst (dY D t [e (↑i:Int).toNat 0,e (↑i:Int).toNat 1,e (↑i:Int).toNat 2,e (↑i:Int).toNat 3,e (↑i:Int).toNat 4,e (↑i:Int).toNat 5,e (↑i:Int).toNat 6,e (↑i:Int).toNat 7,e (↑i:Int).toNat 8,e (↑i:Int).toNat 9,e (↑i:Int).toNat 10]).snd.snd.fst (dY D t [e (↑i:Int).toNat 0,e (↑i:Int).toNat 1,e (↑i:Int).toNat 2,e (↑i:Int).toNat 3,e (↑i:Int).toNat 4,e (↑i:Int).toNat 5,e (↑i:Int).toNat 6,e (↑i:Int).toNat 7,e (↑i:Int).toNat 8,e (↑i:Int).toNat 9,e (↑i:Int).toNat 10]).snd.snd.snd) ((e_2+0)*3+o)) e_1 o)])))))))))
 (.done (.exit 0)
 (bU 79 [(0,.c (.p (.l 12 D.length (aJ bQ D)))),(3,.c (.ptr 0 0)),(4,.c (.ptr 1 0)),(6,.c (.sl 2 3 0 m)),(7,.c (.p (.i .i64 (↑i:Int))))] [.cells 33 (cF kd fu wi off k n d nm mc f bc g c e),.cells 57 (bG 0 0 0),.row 57 3 m fun e o=>fG [0,1,2] (cR eX out e o)])):=by kernel_rfl
theorem aU4(D:List De)(kd fu wi off k n d:Int)(nm:ByteArray)(mc:Nat)(f:Nat→Nat→PV)(bc:Nat)(g:Nat→Nat→PV)(c:Nat)(e:Nat→Nat→PV)(t:Nat)(out:List U3)(m:Nat):cJ (NY D t) (bJ 6 (cS Tryz.prog Tryz.f66)) (bU 79 [(3,.c (.ptr 0 0)),(4,.c (.ptr 1 0)),(6,.c (.sl 2 3 0 m))] [.cells 33 (cF kd fu wi off k n d nm mc f bc g c e),.cells 57 (bG 0 0 0),.row 57 3 m (cR eX out)]) (cP [] (bB Tryz.prog Tryz.f66))=bT (kd==3)
 (.rq (aF 0≤aF 0∧0<(↑m:Int))
 (.rq (0<m)
 (.rq (aF 0≤aF 1∧1<(↑m:Int))
 (.rq (1<m)
 (.rq
 (c=2 ∧
 (iD t (cN e 0)∧iD t (cN e 1)) ∧
 (0≤fu∧fu≤3) ∧
 vU ((out.getD 0 default).fst,(out.getD 0 default).snd.fst,(out.getD 0 default).snd.snd)=true ∧
 vU ((out.getD 1 default).fst,(out.getD 1 default).snd.fst,(out.getD 1 default).snd.snd)=true)
 (.done .ret
 (St.mk [V.t [V1.a (bG (nS fu (lF t (cN e 0) (cN e 1)) ((out.getD (aL 0+0) default).fst,(out.getD (aL 0+0) default).snd.fst,(out.getD (aL 0+0) default).snd.snd) ((out.getD (aL 1+0) default).fst,(out.getD (aL 1+0) default).snd.fst,(out.getD (aL 1+0) default).snd.snd)).snd.fst (nS fu (lF t (cN e 0) (cN e 1)) ((out.getD (aL 0+0) default).fst,(out.getD (aL 0+0) default).snd.fst,(out.getD (aL 0+0) default).snd.snd) ((out.getD (aL 1+0) default).fst,(out.getD (aL 1+0) default).snd.fst,(out.getD (aL 1+0) default).snd.snd)).snd.snd.fst (nS fu (lF t (cN e 0) (cN e 1)) ((out.getD (aL 0+0) default).fst,(out.getD (aL 0+0) default).snd.fst,(out.getD (aL 0+0) default).snd.snd) ((out.getD (aL 1+0) default).fst,(out.getD (aL 1+0) default).snd.fst,(out.getD (aL 1+0) default).snd.snd)).snd.snd.snd),V1.c (C.p (PV.i aA (nS fu (lF t (cN e 0) (cN e 1)) ((out.getD (aL 0+0) default).fst,(out.getD (aL 0+0) default).snd.fst,(out.getD (aL 0+0) default).snd.snd) ((out.getD (aL 1+0) default).fst,(out.getD (aL 1+0) default).snd.fst,(out.getD (aL 1+0) default).snd.snd)).fst))]] [])))))))
 (bT (kd==2)
 (.rq (aF 0≤aF 0∧0<(↑c:Int))
 (.rq (iD t [e 0 0,e 0 1,e 0 2,e 0 3,e 0 4,e 0 5,e 0 6,e 0 7,e 0 8,e 0 9,e 0 10])
 (bT (eJ t [e 0 0,e 0 1,e 0 2,e 0 3,e 0 4,e 0 5,e 0 6,e 0 7,e 0 8,e 0 9,e 0 10])
 (.done .ret (St.mk [V.t [V1.a (bG 0 0 0),V1.c (C.p (PV.i aA 7))]] []))
 (bT (kd==2)
 (bT (fu != 3)
 (.rq (aF 0≤aF 0∧0<(↑m:Int))
 (.rq (0<m)
 (.done .ret
 (St.mk [V.t [V1.a (bG (out.getD (aL 0+0) default).fst (out.getD (aL 0+0) default).snd.fst (out.getD (aL 0+0) default).snd.snd),V1.c (C.p (PV.i aA 0))]] []))))
 (.done .ret (St.mk [V.t [V1.a (bG 0 0 0),V1.c (C.p (PV.i aA 0))]] [])))
 (.done .ret (St.mk [V.t [V1.a (bG 0 0 0),V1.c (C.p (PV.i aA 0))]] []))))))
 (bT (kd==2)
 (bT (fu != 3)
 (.rq (aF 0≤aF 0∧0<(↑m:Int))
 (.rq (0<m)
 (.done .ret
 (St.mk [V.t [V1.a (bG (out.getD (aL 0+0) default).fst (out.getD (aL 0+0) default).snd.fst (out.getD (aL 0+0) default).snd.snd),V1.c (C.p (PV.i aA 0))]] []))))
 (.done .ret (St.mk [V.t [V1.a (bG 0 0 0),V1.c (C.p (PV.i aA 0))]] [])))
 (.done .ret (St.mk [V.t [V1.a (bG 0 0 0),V1.c (C.p (PV.i aA 0))]] [])))):=by kernel_rfl
theorem VC{u:U3}(h:(lB u).1=0):vU (lB u).2=true:=by
 unfold lB at h ⊢;split at h
 ·rename_i h1;rw[if_pos h1];exact h1
 ·exact absurd h (by decide)
theorem aM9{D:List De}{nm:ByteArray}{ML:List Mt}{fu:Int}(h:(mZ D nm ML fu).1=0):vU (mZ D nm ML fu).2=true:=by
 unfold mZ at h ⊢;split at h
 ·exact absurd h (by decide)
 rename_i h1;rw[if_neg h1];split at h
 ·exact absurd h (by decide)
 rename_i h2;rw[if_neg h2];split at h
 ·exact absurd h (by decide)
 rename_i h3;rw[if_neg h3];exact VC h
theorem aOV{fu:Int}{r:Bool}{a b:U3}(ha:vU a=true)(h:(nS fu r a b).1=0):vU (nS fu r a b).2=true:=by
 unfold nS at h ⊢;split at h
 ·exact absurd h (by decide)
 rename_i h1;rw[if_neg h1];split at h
 ·rename_i h2;rw[if_pos h2];exact VC h
 rename_i h2;rw[if_neg h2];split at h
 ·rename_i h3;rw[if_pos h3];exact VC h
 rename_i h3;rw[if_neg h3];split at h
 ·rename_i h4;rw[if_pos h4];exact ha
 ·exact absurd h (by decide)
def tX(fu:Int)(r:Bool)(x:Int×U3):Int×U3:=if x.1≠0 then (x.1,kM) else if r=true then (7,kM) else if fu=3 then (0,kM) else (0,x.2)
def opE(fu:Int)(r:Bool)(x y:Int×U3):Int×U3:=if x.1≠0 then (x.1,kM) else if y.1≠0 then (y.1,kM) else nS fu r x.2 y.2
theorem xB(D:List De)(t:Nat)(kd fu wi off k n d:Int)(nm:ByteArray)(ML:List Mt)(q9:PV)(c:Nat)(e:Nat→Nat→PV):dY D (t+1) [.i .i64 kd,.i .i64 fu,.i .i64 wi,.i .i64 off,.i .i64 k,.i .i64 n,.i .i64 d,.s nm,.l 3 ML.length (aJ bY ML),q9,.l 11 c e] =
  if kd=1 then mZ D nm ML fu else if kd=2 then tX fu (eJ t (cN e 0)) (dY D t (cN e 0)) else if kd=3 then opE fu (lF t (cN e 0) (cN e 1)) (dY D t (cN e 0)) (dY D t (cN e 1)) else (0,kM):=by
 show (if kd=1 then mZ D nm (eR mK ML.length (aJ bY ML)) fu else _)=_
 rw[kI];rfl
theorem uK(D:List De):∀(t:Nat) (cs:List PV),iD t cs→(dY D t cs).1=0→vU (dY D t cs).2=true
 |0,_,h,_=>h.1.elim
 |t+1,cs,h,h0=>by
  obtain⟨⟨kd,fu,wi,off,k,n,d,nm,ML,BL,c,e,rfl,-,-,-,-,hk⟩,hch⟩:=h;obtain⟨hkd,-,hS⟩:=IY hk hch;rw[xB]at h0 ⊢
  rcases hkd with⟨rfl,rfl⟩|⟨rfl,rfl⟩|⟨rfl,rfl⟩|⟨rfl,rfl⟩
  ·rfl
  ·exact aM9 h0
  ·have h0:(tX fu (eJ t (cN e 0)) (dY D t (cN e 0))).1=0:=h0
   show vU (tX fu (eJ t (cN e 0)) (dY D t (cN e 0))).2=true
   unfold tX at h0 ⊢;split at h0
   ·rename_i h1;exact absurd h0 h1
   rename_i h1;rw[if_neg h1];split at h0
   ·exact absurd h0 (by decide)
   rename_i h2;rw[if_neg h2];split
   ·rfl
   ·exact uK D t _ (hS 0 (by omega)) (by simpa using h1)
  ·have h0:(opE fu (lF t (cN e 0) (cN e 1)) (dY D t (cN e 0)) (dY D t (cN e 1))).1=0:=h0
   show vU (opE fu (lF t (cN e 0) (cN e 1)) (dY D t (cN e 0)) (dY D t (cN e 1))).2=true
   unfold opE at h0 ⊢;split at h0
   ·rename_i h1;exact absurd h0 h1
   rename_i h1;rw[if_neg h1];split at h0
   ·rename_i h2;exact absurd h0 h2
   rename_i h2;rw[if_neg h2];exact aOV (uK D t _ (hS 0 (by omega)) (by simpa using h1)) h0
def aET(D:List De)(t:Nat)(e:Nat→Nat→PV)(j:Nat):U3:=(dY D t (cN e j)).2
def qP(D:List De)(t:Nat)(e:Nat→Nat→PV)(i:Nat):List U3:=(List.range i).map (aET D t e)
theorem VI(D:List De)(t:Nat)(e:Nat→Nat→PV)(i:Nat):qP D t e (i+1)=qP D t e i++[aET D t e i]:=by simp[qP,List.range_succ]
theorem zQ(D:List De)(t:Nat)(e:Nat→Nat→PV)(i:Nat):(qP D t e i).length=i:=by simp[qP]
section
variable {G:Nat→Option Obj}
set_option maxRecDepth 100000 in
theorem aQ5{D:List De}(hD:wW D):∀t,dD Tryz.prog G 66 (GN D t):=by
 intro t;induction t with
 |zero=>
  intro args p v hm hp h;unfold GN at hm
  split at hm;rotate_left;· cases hm
  split at hm;rotate_left;· cases hm
  obtain⟨rfl,rfl⟩:=bA hm;exact hp.2.1.elim
 |succ t ih=>
  intro args p v hm hp h;unfold GN at hm
  split at hm;rotate_left;· cases hm
  rename_i x q0 q1 q2 q3 q4 q5 q6 q7 q8 q9 q10
  split at hm;rotate_left;· cases hm
  rename_i q hx;obtain⟨rfl,rfl⟩:=bA hm;clear hm;obtain⟨hq,⟨kd,fu,wi,off,k,n,d,nm,ML,BL,c,e,hcs,hn,hd,hL,hc,hk⟩,hch⟩:=hp;simp only[fF.injEq,and_true]at hcs;obtain⟨rfl,rfl,rfl,rfl,rfl,rfl,rfl,rfl,rfl,rfl,rfl⟩:=hcs;obtain⟨hkd,hfu,hS⟩:=IY hk hch;refine lW.args (args':=[aX bQ 12 D,.a ((fun(mc:Nat) (f:Nat→Nat→PV) (bc:Nat) (g:Nat→Nat→PV)=>((cF kd fu wi off k n d nm mc f bc g c e):List C)) ML.length (aJ bY ML) BL.length (aJ bM BL))]) ?_ (.cons (wI hx hq) (.cons (.refl _) .nil));clear hx hq
  have hs:bO Tryz.prog G (NY D t):=cD (by simp;exact⟨aMX hD,ih,MT t,aNH t⟩)
  refine fR Tryz.func66 (by kernel_rfl) rfl ?_ h
  rw[xB];refine cO.evG hs 5 (aU6 D kd fu wi off k n d nm ML.length (aJ bY ML) BL.length (aJ bM BL) c e t) ?_;simp only[bD,aS,aI,bK,aZ,beq_iff_eq,beq_eq_false_iff_ne,ne_eq,kI];refine⟨fun c1=>⟨⟨⟨trivial,fun _ _ _ _=>trivial⟩,ML,rfl,rfl,hL.1⟩,⟨?_⟩⟩,fun c1=>⟨?_⟩⟩
  ·rw[if_pos c1];exact eL.refl _
  rw[if_neg c1]
  refine cO.loop' (l:=bJ 5 (cS Tryz.prog Tryz.f66)) (b:=inr (inr (bN .skip (cS Tryz.prog Tryz.f66) 5))) (r:=bJ 6 (cS Tryz.prog Tryz.f66)) (id:=0) (by kernel_rfl) (σ:=Nat)
    (fun i=>(fun(mc:Nat) (f:Nat→Nat→PV) (bc:Nat) (g:Nat→Nat→PV) (out:List U3) (m i:Nat)=>bU 79 [(0,aX bQ 12 D),(3,.c (.ptr 0 0)),(4,.c (.ptr 1 0)),(6,.c (.sl 2 3 0 m)),(7,iV (i:Nat))] [.cells 33 (cF kd fu wi off k n d nm mc f bc g c e),.cells 57 (bG 0 0 0),.row 57 3 m (cR eX out)]) ML.length (aJ bY ML) BL.length (aJ bM BL) (qP D t e i) i i) (fun i=>i≤c∧∀j,j<i→(dY D t (cN e j)).1=0) (fun i=>c-i) 0 ⟨bH _,fun j hj=>absurd hj (Nat.not_lt_zero j)⟩ ((pF 57 3 (cR eX []) 6 (by kernel_rfl)).trans (aP (by kernel_rfl))) ?_
  rintro i ⟨hi,hz⟩ Q1 q1n q1e -;refine cO.evH hs (aU5 D kd fu wi off k n d nm ML.length (aJ bY ML) BL.length (aJ bM BL) c e t (qP D t e i) i i) ?_;simp only[bD,aS,aI,bK,aZ,fE,decide_eq_true_eq,decide_eq_false_iff_not,bne_iff_ne,bne_eq_false_iff_eq,ne_eq,show (↑i:Int).toNat=i from rfl,inR];refine⟨fun c2=>?_,fun c2=>⟨q1e _ ?_⟩⟩
  ·have hlt:i<c:=by omega
   refine⟨⟨by omega,by omega⟩,⟨⟨trivial,fun _ _ _ _=>trivial⟩,hS i hlt⟩,fun c3=>?_,fun c3=>⟨trivial,Nat.le_refl _,⟨by omega,by omega,fun e' o he ho=>?_⟩,⟨by omega,by omega⟩,⟨q1n (i+1) _ ⟨by omega,fun j hj=>?_⟩ (by omega) ?_⟩⟩⟩
   ·have c3:¬(dY D t (cN e i)).1=0:=c3
    refine uL (x:=(dY D t (cN e i)).1) ?_
    rcases hkd with h1|h1|⟨rfl,rfl⟩|⟨rfl,rfl⟩
    ·omega
    ·omega
    ·obtain rfl:i=0:=by omega
     rw[if_pos rfl];unfold tX;rw[if_pos c3]
    ·rw[if_neg (by decide),if_pos rfl]
     unfold opE
     rcases Nat.lt_or_ge 0 i with h1|h1
     ·obtain rfl:i=1:=by omega
      rw[if_neg (by rw[hz 0 (by omega)];decide),if_pos c3]
     ·obtain rfl:i=0:=by omega
      rw[if_pos c3]
   ·obtain rfl:e'=0:=by omega
    match o,ho with
    |0,_|1,_|2,_=>rfl
   ·rcases Nat.lt_or_ge j i with h1|h1
    ·exact hz j h1
    ·obtain rfl:j=i:=by omega
     exact c3
   ·show cW G _ ((fun(mc:Nat) (f:Nat→Nat→PV) (bc:Nat) (g:Nat→Nat→PV) (out:List U3) (m i:Nat)=>bU 79 [(0,aX bQ 12 D),(3,.c (.ptr 0 0)),(4,.c (.ptr 1 0)),(6,.c (.sl 2 3 0 m)),(7,iV (i:Nat))] [.cells 33 (cF kd fu wi off k n d nm mc f bc g c e),.cells 57 (bG 0 0 0),.row 57 3 m (cR eX out)]) ML.length (aJ bY ML) BL.length (aJ bM BL) (qP D t e (i+1)) (i+1) (i+1))
    rw[VI];refine kP ⟨rfl,rfl,⟨rfl,rfl,rfl,fun e' o he ho=>BD (ρ:=[0,1,5]) (zQ D t e i) (x:=aET D t e i) (fun o ho=>?_) he ho⟩,trivial⟩
    match o,ho with
    |0,_|1,_|2,_=>rfl
  obtain rfl:i=c:=by omega
  clear q1n q1e c2
  refine cO.pre (fW (fO 79 [3,4,6]) _) (cO.pre (aP (st':=(fun(mc:Nat) (f:Nat→Nat→PV) (bc:Nat) (g:Nat→Nat→PV) (c:Nat) (out:List U3) (m:Nat)=>(bU 79 [(3,.c (.ptr 0 0)),(4,.c (.ptr 1 0)),(6,.c (.sl 2 3 0 m))] [.cells 33 (cF kd fu wi off k n d nm mc f bc g c e),.cells 57 (bG 0 0 0),.row 57 3 m (cR eX out)]:St)) ML.length (aJ bY ML) BL.length (aJ bM BL) i (qP D t e i) i) (by kernel_rfl)) ?_)
  refine cO.evH hs (aU4 D kd fu wi off k n d nm ML.length (aJ bY ML) BL.length (aJ bM BL) i e t (qP D t e i) i) ?_
  have g0:0<i→(qP D t e i).getD 0 default=aET D t e 0:=fun h1=>by
   rw[aG,aN (by rw[zQ];exact h1)];simp[qP]
  have g1:1<i→(qP D t e i).getD 1 default=aET D t e 1:=fun h1=>by
   rw[aG,aN (by rw[zQ];exact h1)];simp[qP]
  have e0:aL 0+0=0:=rfl
  have e1:aL 1+0=1:=rfl
  rw[e0,e1];simp only[bD,aS,aI,bK,beq_iff_eq,beq_eq_false_iff_ne,bne_iff_ne,bne_eq_false_iff_eq,ne_eq];refine⟨fun c3=>?_,fun c3=>⟨fun c4=>?_,fun c4=>⟨fun c5=>absurd c5 c4,fun _=>⟨?_⟩⟩⟩⟩
  ·have hi2:i=2:=by omega
   have z0:=hz 0 (by omega)
   have z1:=hz 1 (by omega)
   rw[g0 (by omega),g1 (by omega)];refine⟨⟨fA _,by omega⟩,by omega,⟨by decide,by omega⟩,by omega,⟨hi2,⟨hS 0 (by omega),hS 1 (by omega)⟩,hfu c3,uK D t _ (hS 0 (by omega)) z0,uK D t _ (hS 1 (by omega)) z1⟩,⟨?_⟩⟩;rw[if_neg (by omega),if_pos c3];unfold opE;rw[if_neg (by rw[z0];decide),if_neg (by rw[z1];decide)];exact eL.refl _
  ·have hi1:i=1:=by omega
   have z0:=hz 0 (by omega)
   rw[g0 (by omega),if_pos c4];unfold tX;rw[if_neg (by rw[z0];decide)];refine⟨⟨fA _,by omega⟩,hS 0 (by omega),fun r=>⟨?_⟩,fun r=>⟨fun _=>⟨fun c6=>⟨⟨fA _,by omega⟩,by omega,⟨?_⟩⟩,fun c6=>⟨?_⟩⟩,fun c5=>absurd c4 c5⟩⟩
   ·rw[if_pos (show eJ t (cN e 0)=true from r)];exact eL.refl _
   ·rw[if_neg (by rw[show eJ t (cN e 0)=false from r];decide),if_neg c6];exact eL.refl _
   ·rw[if_neg (by rw[show eJ t (cN e 0)=false from r];decide),if_pos c6];exact eL.refl _
  ·rw[if_neg c4,if_neg c3];exact eL.refl _
end
def byE(t:Nat)(cs:List PV):V:=.t [.c (.p (AT bM 1 (if rE t cs=0 then (if eJ t cs=true then [] else mW t cs) else []))),.c (.p (.b (decide (rE t cs=0)&&eJ t cs)))]
def aAY(t:Nat):Mod
 |[.a [.p q0,.p q1,.p q2,.p q3,.p q4,.p q5,.p q6,.p q7,.p q8,.p q9,.p q10]]=>some (lO t [q0,q1,q2,q3,q4,q5,q6,q7,q8,q9,q10],byE t [q0,q1,q2,q3,q4,q5,q6,q7,q8,q9,q10])
 |_=>none
def aLS(t:Nat):Ext:=fB [(47,jF lO rE t),(67,jP iD eJ t),(68,oS nT mW t)]
def aLT(t:Nat):Ext:=fB [(62,jF iJ yQ t),(64,jP iD eJ t),(65,oS nT mW t)]
theorem aS4(kd fu wi off k n d:Int)(nm:ByteArray)(mc:Nat)(f:Nat→Nat→PV)(BL:List ByteArray)(c:Nat)(e:Nat→Nat→PV)(t:Nat):cJ (aLS t) (cS Tryz.prog Tryz.f35) (iR Tryz.f35 [.a (cF kd fu wi off k n d nm mc f BL.length (aJ bM BL) c e)]) (cP [] (bB Tryz.prog Tryz.f35))=Tr.rq
 (lO t
 [PV.i aA kd,PV.i aA fu,PV.i aA wi,PV.i aA off,PV.i aA k,PV.i aA n,PV.i aA d,PV.s nm,PV.l 3 mc f,
 PV.l 1 BL.length (aJ bM BL),PV.l 11 c e])
 (bT
 (rE t
 [PV.i aA kd,PV.i aA fu,PV.i aA wi,PV.i aA off,PV.i aA k,PV.i aA n,PV.i aA d,PV.s nm,PV.l 3 mc f,
 PV.l 1 BL.length (aJ bM BL),PV.l 11 c e] !=
 0)
 (.done .ret (St.mk [V.t [V1.c (C.p (PV.z (dP none 0 0))),V1.c (C.p (PV.b false))]] []))
 (.rq
 (iD t
 [PV.i aA kd,PV.i aA fu,PV.i aA wi,PV.i aA off,PV.i aA k,PV.i aA n,PV.i aA d,PV.s nm,PV.l 3 mc f,
 PV.l 1 BL.length (aJ bM BL),PV.l 11 c e])
 (bT
 (eJ t
 [PV.i aA kd,PV.i aA fu,PV.i aA wi,PV.i aA off,PV.i aA k,PV.i aA n,PV.i aA d,PV.s nm,PV.l 3 mc f,
 PV.l 1 BL.length (aJ bM BL),PV.l 11 c e])
 (.done .ret (St.mk [V.t [V1.c (C.p (PV.z (dP none 0 0))),V1.c (C.p (PV.b true))]] []))
 (.rq
 (nT t
 [PV.i aA kd,PV.i aA fu,PV.i aA wi,PV.i aA off,PV.i aA k,PV.i aA n,PV.i aA d,PV.s nm,PV.l 3 mc f,
 PV.l 1 BL.length (aJ bM BL),PV.l 11 c e])
 (.done .ret
 (St.mk [V.t [V1.c (C.p (PV.l 1 (mW t [PV.i aA kd,PV.i aA fu,PV.i aA wi,PV.i aA off,PV.i aA k,PV.i aA n,PV.i aA d,PV.s nm,PV.l 3 mc f,PV.l 1 BL.length (aJ bM BL),PV.l 11 c e]).length (aJ bM (mW t [PV.i aA kd,PV.i aA fu,PV.i aA wi,PV.i aA off,PV.i aA k,PV.i aA n,PV.i aA d,PV.s nm,PV.l 3 mc f,PV.l 1 BL.length (aJ bM BL),PV.l 11 c e])))),V1.c (C.p (PV.b false))]] [])))))):=by kernel_rfl
theorem aS5(kd fu wi off k n d:Int)(nm:ByteArray)(mc:Nat)(f:Nat→Nat→PV)(BL:List ByteArray)(c:Nat)(e:Nat→Nat→PV)(t:Nat):cJ (aLT t) (cS Tryz.prog Tryz.f33) (iR Tryz.f33 [.a (cF kd fu wi off k n d nm mc f BL.length (aJ bM BL) c e)]) (cP [] (bB Tryz.prog Tryz.f33))=Tr.rq
 (iJ t
 [PV.i aA kd,PV.i aA fu,PV.i aA wi,PV.i aA off,PV.i aA k,PV.i aA n,PV.i aA d,PV.s nm,PV.l 3 mc f,
 PV.l 1 BL.length (aJ bM BL),PV.l 11 c e])
 (bT
 (yQ t
 [PV.i aA kd,PV.i aA fu,PV.i aA wi,PV.i aA off,PV.i aA k,PV.i aA n,PV.i aA d,PV.s nm,PV.l 3 mc f,
 PV.l 1 BL.length (aJ bM BL),PV.l 11 c e] !=
 0)
 (.done .ret (St.mk [V.t [V1.c (C.p (PV.z (dP none 0 0))),V1.c (C.p (PV.b false))]] []))
 (.rq
 (iD t
 [PV.i aA kd,PV.i aA fu,PV.i aA wi,PV.i aA off,PV.i aA k,PV.i aA n,PV.i aA d,PV.s nm,PV.l 3 mc f,
 PV.l 1 BL.length (aJ bM BL),PV.l 11 c e])
 (bT
 (eJ t
 [PV.i aA kd,PV.i aA fu,PV.i aA wi,PV.i aA off,PV.i aA k,PV.i aA n,PV.i aA d,PV.s nm,PV.l 3 mc f,
 PV.l 1 BL.length (aJ bM BL),PV.l 11 c e])
 (.done .ret (St.mk [V.t [V1.c (C.p (PV.z (dP none 0 0))),V1.c (C.p (PV.b true))]] []))
 (.rq
 (nT t
 [PV.i aA kd,PV.i aA fu,PV.i aA wi,PV.i aA off,PV.i aA k,PV.i aA n,PV.i aA d,PV.s nm,PV.l 3 mc f,
 PV.l 1 BL.length (aJ bM BL),PV.l 11 c e])
 (.done .ret
 (St.mk [V.t [V1.c (C.p (PV.l 1 (mW t [PV.i aA kd,PV.i aA fu,PV.i aA wi,PV.i aA off,PV.i aA k,PV.i aA n,PV.i aA d,PV.s nm,PV.l 3 mc f,PV.l 1 BL.length (aJ bM BL),PV.l 11 c e]).length (aJ bM (mW t [PV.i aA kd,PV.i aA fu,PV.i aA wi,PV.i aA off,PV.i aA k,PV.i aA n,PV.i aA d,PV.s nm,PV.l 3 mc f,PV.l 1 BL.length (aJ bM BL),PV.l 11 c e])))),V1.c (C.p (PV.b false))]] [])))))):=by kernel_rfl
def ofE(D:List De)(t:Nat)(cs:List PV):Int×U3:=if rE t cs=0 then dY D t cs else (rE t cs,kM)
theorem yP{t:Nat}{cs:List PV}(h:iJ t cs)(h0:rE t cs=0):iD t cs:=by
 refine⟨h,?_⟩;unfold rE at h0;split at h0
 ·exact absurd h0 (by decide)
 split at h0
 ·exact absurd h0 (by decide)
 exact h0
def aAW(D:List De)(t:Nat):Mod
 |[x,.a [.p q0,.p q1,.p q2,.p q3,.p q4,.p q5,.p q6,.p q7,.p q8,.p q9,.p q10]]=>match leR bQ 12 x D with
  |some p=>some (p∧lO t [q0,q1,q2,q3,q4,q5,q6,q7,q8,q9,q10],unE (ofE D t [q0,q1,q2,q3,q4,q5,q6,q7,q8,q9,q10]))
  |none=>none
 |_=>none
def aLF(D:List De)(t:Nat):Ext:=fB [(47,jF lO rE t),(66,GN D t)]
theorem aU7(D:List De)(kd fu wi off k n d:Int)(nm:ByteArray)(mc:Nat)(f:Nat→Nat→PV)(bc:Nat)(g:Nat→Nat→PV)(c:Nat)(e:Nat→Nat→PV)(t:Nat):cJ (aLF D t) (cS Tryz.prog Tryz.f34) (iR Tryz.f34 [aX bQ 12 D,.a (cF kd fu wi off k n d nm mc f bc g c e)]) (cP [] (bB Tryz.prog Tryz.f34))=Tr.rq
 (lO t
 [PV.i aA kd,PV.i aA fu,PV.i aA wi,PV.i aA off,PV.i aA k,PV.i aA n,PV.i aA d,PV.s nm,PV.l 3 mc f,PV.l 1 bc g,PV.l 11 c e])
 (bT
 (rE t
 [PV.i aA kd,PV.i aA fu,PV.i aA wi,PV.i aA off,PV.i aA k,PV.i aA n,PV.i aA d,PV.s nm,PV.l 3 mc f,PV.l 1 bc g,
 PV.l 11 c e] !=
 0)
 (.done .ret
 (St.mk [V.t [V1.a (bG 0 0 0),V1.c (C.p (PV.i aA (rE t [PV.i aA kd,PV.i aA fu,PV.i aA wi,PV.i aA off,PV.i aA k,PV.i aA n,PV.i aA d,PV.s nm,PV.l 3 mc f,PV.l 1 bc g,PV.l 11 c e])))]] []))
 (.rq
 ((D.length=D.length∧∀(e o:Nat),e<D.length→o<12→aJ bQ D e o=aJ bQ D e o) ∧
 iD t
 [PV.i aA kd,PV.i aA fu,PV.i aA wi,PV.i aA off,PV.i aA k,PV.i aA n,PV.i aA d,PV.s nm,PV.l 3 mc f,PV.l 1 bc g,
 PV.l 11 c e])
 (.done .ret
 (St.mk [V.t [V1.a (bG (dY D t [PV.i aA kd,PV.i aA fu,PV.i aA wi,PV.i aA off,PV.i aA k,PV.i aA n,PV.i aA d,PV.s nm,PV.l 3 mc f,PV.l 1 bc g,PV.l 11 c e]).snd.fst (dY D t [PV.i aA kd,PV.i aA fu,PV.i aA wi,PV.i aA off,PV.i aA k,PV.i aA n,PV.i aA d,PV.s nm,PV.l 3 mc f,PV.l 1 bc g,PV.l 11 c e]).snd.snd.fst (dY D t [PV.i aA kd,PV.i aA fu,PV.i aA wi,PV.i aA off,PV.i aA k,PV.i aA n,PV.i aA d,PV.s nm,PV.l 3 mc f,PV.l 1 bc g,PV.l 11 c e]).snd.snd.snd),V1.c (C.p (PV.i aA (dY D t [PV.i aA kd,PV.i aA fu,PV.i aA wi,PV.i aA off,PV.i aA k,PV.i aA n,PV.i aA d,PV.s nm,PV.l 3 mc f,PV.l 1 bc g,PV.l 11 c e]).fst))]] [])))):=by kernel_rfl
section
variable {G:Nat→Option Obj}
set_option maxRecDepth 100000 in
theorem aQ4{D:List De}(hD:wW D)(t:Nat)(ht:t≤1000):dD Tryz.prog G 34 (aAW D t):=by
 intro args p v hm hp h;unfold aAW at hm
 split at hm;rotate_left;· cases hm
 rename_i x q0 q1 q2 q3 q4 q5 q6 q7 q8 q9 q10
 split at hm;rotate_left;· cases hm
 rename_i q hx;obtain⟨rfl,rfl⟩:=bA hm;clear hm;obtain⟨hq,hN⟩:=hp
 have hN0:=hN
 cases t with
 |zero=>exact hN.1.elim
 |succ t=>
  obtain⟨⟨kd,fu,wi,off,k,n,d,nm,ML,BL,c,e,hcs,-⟩,-⟩:=hN;simp only[fF.injEq,and_true]at hcs;obtain⟨rfl,rfl,rfl,rfl,rfl,rfl,rfl,rfl,rfl,rfl,rfl⟩:=hcs;refine lW.args (args':=[aX bQ 12 D,.a (iP [.i .i64 kd,.i .i64 fu,.i .i64 wi,.i .i64 off,.i .i64 k,.i .i64 n,.i .i64 d,.s nm,.l 3 ML.length (aJ bY ML),.l 1 BL.length (aJ bM BL),.l 11 c e])]) ?_ (.cons (wI hx hq) (.cons (.refl _) .nil));clear hx hq
  have hs:bO Tryz.prog G (aLF D (t+1)):=cD (by simp;exact⟨zA (t+1) ht,aQ5 hD (t+1)⟩)
  refine fR Tryz.func34 (by kernel_rfl) rfl ?_ h
  refine cO.evH hs (aU7 D kd fu wi off k n d nm ML.length (aJ bY ML) BL.length (aJ bM BL) c e (t+1)) ?_;simp only[bD,aS,aI,bK,bne_iff_ne,bne_eq_false_iff_eq,ne_eq];refine⟨hN0,fun h1=>⟨?_⟩,fun h1=>⟨⟨⟨trivial,fun _ _ _ _=>trivial⟩,yP hN0.1 h1⟩,⟨?_⟩⟩⟩
  ·unfold ofE;rw[if_neg h1];exact eL.refl _
  ·unfold ofE;rw[if_pos h1];exact eL.refl _
end
section
variable {G:Nat→Option Obj}
set_option maxRecDepth 100000 in
theorem aNK(t:Nat)(ht:t≤1000):dD Tryz.prog G 35 (aAY t):=by
 intro args p v hm hp h;unfold aAY at hm
 split at hm;rotate_left;· cases hm
 rename_i q0 q1 q2 q3 q4 q5 q6 q7 q8 q9 q10;obtain⟨rfl,rfl⟩:=bA hm;clear hm
 have hN0:=hp
 cases t with
 |zero=>exact hp.1.elim
 |succ t=>
  obtain⟨⟨kd,fu,wi,off,k,n,d,nm,ML,BL,c,e,hcs,-⟩,-⟩:=hp;simp only[fF.injEq,and_true]at hcs;obtain⟨rfl,rfl,rfl,rfl,rfl,rfl,rfl,rfl,rfl,rfl,rfl⟩:=hcs
  have hs:bO Tryz.prog G (aLS (t+1)):=cD (by simp;exact⟨zA (t+1) ht,MT (t+1),aKS (t+1)⟩)
  refine fR Tryz.func35 (by kernel_rfl) rfl ?_ h
  refine cO.evH hs (aS4 kd fu wi off k n d nm ML.length (aJ bY ML) BL c e (t+1)) ?_;simp only[bD,aS,aI,bK,bne_iff_ne,bne_eq_false_iff_eq,ne_eq];refine⟨hN0,fun h1=>⟨?_⟩,fun h1=>⟨yP hN0.1 h1,fun r=>⟨?_⟩,fun r=>⟨⟨yP hN0.1 h1,r⟩,⟨?_⟩⟩⟩⟩
  ·unfold byE;rw[if_neg h1,decide_eq_false h1];exact eL.t (.cons (eL.p (jT.nil 1 _)) (.cons (eL.refl _) .nil))
  ·unfold byE;rw[if_pos h1,if_pos r,decide_eq_true h1,r];exact eL.t (.cons (eL.p (jT.nil 1 _)) (.cons (eL.refl _) .nil))
  ·unfold byE;rw[if_pos h1,if_neg (by rw[r];decide),decide_eq_true h1,r];exact eL.refl _
set_option maxRecDepth 100000 in
theorem aQ9(hG:yM G)(t:Nat)(ht:t≤1000):dD Tryz.prog G 33 (aAY t):=by
 intro args p v hm hp h;unfold aAY at hm
 split at hm;rotate_left;· cases hm
 rename_i q0 q1 q2 q3 q4 q5 q6 q7 q8 q9 q10;obtain⟨rfl,rfl⟩:=bA hm;clear hm
 have hN0:=hp
 cases t with
 |zero=>exact hp.1.elim
 |succ t=>
  obtain⟨⟨kd,fu,wi,off,k,n,d,nm,ML,BL,c,e,hcs,-⟩,-⟩:=hp;simp only[fF.injEq,and_true]at hcs;obtain⟨rfl,rfl,rfl,rfl,rfl,rfl,rfl,rfl,rfl,rfl,rfl⟩:=hcs
  have hs:bO Tryz.prog G (aLT (t+1)):=cD (by simp;exact⟨DV hG (t+1) ht,MR (t+1),aDK (t+1)⟩)
  refine fR Tryz.func33 (by kernel_rfl) rfl ?_ h
  refine cO.evH hs (aS5 kd fu wi off k n d nm ML.length (aJ bY ML) BL c e (t+1)) ?_;simp only[bD,aS,aI,bK,bne_iff_ne,bne_eq_false_iff_eq,ne_eq,SV hN0.1];refine⟨hN0.1,fun h1=>⟨?_⟩,fun h1=>⟨yP hN0.1 h1,fun r=>⟨?_⟩,fun r=>⟨⟨yP hN0.1 h1,r⟩,⟨?_⟩⟩⟩⟩
  ·unfold byE;rw[if_neg h1,decide_eq_false h1];exact eL.t (.cons (eL.p (jT.nil 1 _)) (.cons (eL.refl _) .nil))
  ·unfold byE;rw[if_pos h1,if_pos r,decide_eq_true h1,r];exact eL.t (.cons (eL.p (jT.nil 1 _)) (.cons (eL.refl _) .nil))
  ·unfold byE;rw[if_pos h1,if_neg (by rw[r];decide),decide_eq_true h1,r];exact eL.refl _
end
theorem tBn(na:ByteArray)(ve kd fu wi off k n d:Int)(nm:ByteArray)(mc:Nat)(f:Nat→Nat→PV)(bc:Nat)(g:Nat→Nat→PV)(c:Nat)(e:Nat→Nat→PV)(ab:Bool)(nu de ho cl dl:Int)(at_ x:Int)(s:ByteArray):cJ aBE (cS Tryz.prog Tryz.f9) (iR Tryz.f9 [.a (pH na ve kd fu wi off k n d nm mc f bc g c e ab nu de ho cl dl),iV at_,iV x,sV s]) (cP [] (bB Tryz.prog Tryz.f9))=Tr.rq (inR aA at_∧aF 0<aF 9)
 (bT (cM at_ 9==0)
 (.done .ret
 (St.mk [V.a (pH s ve kd fu wi off k n d nm mc f bc g c e ab nu de ho cl dl)] []))
 (bT (cM at_ 9==1)
 (.done .ret
 (St.mk [V.a (pH na x kd fu wi off k n d nm mc f bc g c e ab nu de ho cl dl)] []))
 (bT (cM at_ 9==2)
 (.done .ret
 (St.mk [V.a (pH na ve kd fu wi off k n d nm mc f bc g c e ab nu de x cl dl)] []))
 (bT (cM at_ 9==3)
 (.done .ret
 (St.mk [V.a (pH na ve kd fu wi off k n d nm mc f bc g c e ab nu de ho x dl)] []))
 (bT (cM at_ 9==4)
 (.done .ret
 (St.mk [V.a (pH na ve kd fu wi off k n d nm mc f bc g c e ab nu de ho cl x)] []))
 (bT (cM at_ 9==5)
 (.done .ret
 (St.mk [V.a (pH na ve kd fu wi off k n d nm mc f bc g c e ab nu x ho cl dl)] []))
 (bT (cM at_ 9==6)
 (.done .ret
 (St.mk [V.a (pH na ve kd fu wi off k n d nm mc f bc g c e ab x de ho cl dl)] []))
 (bT (cM at_ 9==7)
 (.done .ret
 (St.mk [V.a (pH na ve x fu wi off k n d nm mc f bc g c e ab nu de ho cl dl)] []))
 (.done .ret
 (St.mk [V.a (aPT na ve 0 0 0 0 0 1 1 (aO #[]) ab nu de ho cl dl)] [])))))))))):=by kernel_rfl
def bI(a:Int)(j:Nat)(x y:Int):Int:=if a=(j:Int) then x else y
def aLX(a x:Int)(s:ByteArray)(na:ByteArray)(ve kd fu wi off k n d:Int)(nm:ByteArray)(mc:Nat)(f:Nat→Nat→PV)(bc:Nat)(g:Nat→Nat→PV)(c:Nat)(e:Nat→Nat→PV)(ab:Bool)(nu de ho cl dl:Int):List PV:=[.s (if a=0 then s else na),.i .i64 (bI a 1 x ve),.i .i64 (bI a 8 0 (bI a 7 x kd)),.i .i64 (bI a 8 0 fu),.i .i64 (bI a 8 0 wi),.i .i64 (bI a 8 0 off),.i .i64 (bI a 8 0 k),.i .i64 (bI a 8 1 n),.i .i64 (bI a 8 1 d),.s (if a=8 then ⟨#[]⟩ else nm),.l 3 (if a=8 then 0 else mc) (if a=8 then aJ bY [] else f),.l 1 (if a=8 then 0 else bc) (if a=8 then aJ bM [] else g),.l 11 (if a=8 then 0 else c) e,.b ab,.i .i64 (bI a 6 x nu),.i .i64 (bI a 5 x de),.i .i64 (bI a 2 x ho),.i .i64 (bI a 3 x cl),.i .i64 (bI a 4 x dl)]
def aEL:Mod
 |[.a [.p (.s na),.p (.i .i64 ve),.p (.i .i64 kd),.p (.i .i64 fu),.p (.i .i64 wi),.p (.i .i64 off),.p (.i .i64 k),.p (.i .i64 n),.p (.i .i64 d),.p (.s nm),.p (.l 3 mc f),.p (.l 1 bc g),.p (.l 11 c e),.p (.b ab),.p (.i .i64 nu),.p (.i .i64 de),.p (.i .i64 ho),.p (.i .i64 cl),.p (.i .i64 dl)],.c (.p (.i .i64 at_)),.c (.p (.i .i64 x)),.c (.p (.s s))]=>some (inR .i64 at_,.a (iP (aLX (cM at_ 9) x s na ve kd fu wi off k n d nm mc f bc g c e ab nu de ho cl dl)))
 |_=>none
theorem aJY(n:Int):0≤cM n 9∧cM n 9<9:=⟨Int.emod_nonneg _ (by omega),Int.emod_lt_of_pos _ (by omega)⟩
section
variable {G:Nat→Option Obj}
set_option maxRecDepth 100000 in
theorem aNN:dD Tryz.prog G 9 aEL:=by
 intro args p v hm hp h;unfold aEL at hm
 split at hm;rotate_left;· cases hm
 rename_i na ve kd fu wi off k n d nm mc f bc g c e ab nu de ho cl dl at_ x s;obtain⟨rfl,rfl⟩:=bA hm;clear hm
 refine fR Tryz.func9 (by kernel_rfl) rfl ?_ h
 refine cO.evH pS (tBn na ve kd fu wi off k n d nm mc f bc g c e ab nu de ho cl dl at_ x s) ?_;simp only[bD,aS,aI,bK,beq_iff_eq,beq_eq_false_iff_ne,ne_eq]
 have hr:=aJY at_
 generalize cM at_ 9=a at hr ⊢
 refine⟨⟨hp,by decide⟩,fun h=>⟨?_⟩,fun h0=>⟨fun h=>⟨?_⟩,fun h1=>⟨fun h=>⟨?_⟩,fun h2=>⟨fun h=>⟨?_⟩,fun h3=>⟨fun h=>⟨?_⟩,fun h4=>⟨fun h=>⟨?_⟩,fun h5=>⟨fun h=>⟨?_⟩,fun h6=>⟨fun h=>⟨?_⟩,fun h7=>⟨?_⟩⟩⟩⟩⟩⟩⟩⟩⟩
 all_goals first|(subst h;exact eL.refl _)|skip
 obtain rfl:a=8:=by omega
 exact eL.a (xs:=[.s na,.i .i64 ve,.i .i64 0,.i .i64 0,.i .i64 0,.i .i64 0,.i .i64 0,.i .i64 1,.i .i64 1,.s ⟨#[]⟩,.z (.slice none 0 0),.z (.slice none 0 0),.z (.slice none 0 0),.b ab,.i .i64 nu,.i .i64 de,.i .i64 ho,.i .i64 cl,.i .i64 dl]) (vs:=aLX 8 x s na ve kd fu wi off k n d nm mc f bc g c e ab nu de ho cl dl)
  (.cons (.refl _) (.cons (.refl _) (.cons (.refl _) (.cons (.refl _) (.cons (.refl _) (.cons (.refl _) (.cons (.refl _) (.cons (.refl _) (.cons (.refl _) (.cons (.refl _) (.cons (jT.nil 3 _) (.cons (jT.nil 1 _) (.cons (jT.nil 11 e) (.cons (.refl _) (.cons (.refl _) (.cons (.refl _) (.cons (.refl _) (.cons (.refl _) (.cons (.refl _) .nil)))))))))))))))))))
end
theorem tRu(L:List Int)(kd fu wi off k n d:Int)(nm:ByteArray)(mc:Nat)(f:Nat→Nat→PV)(bc:Nat)(g:Nat→Nat→PV)(c:Nat)(e:Nat→Nat→PV):cJ (qT L) (cS Tryz.prog Tryz.f7) (iR Tryz.f7 [aX aW 1 L,.a (cF kd fu wi off k n d nm mc f bc g c e)]) (cP [] (bB Tryz.prog Tryz.f7))=Tr.rq ((L.length=L.length∧∀(e o:Nat),e<L.length→o<1→aJ aW L e o=aJ aW L e o)∧aF 0<aF 25)
 (.rq (inR aA (cC L 0 25-8))
 (.rq ((L.length=L.length∧∀(e o:Nat),e<L.length→o<1→aJ aW L e o=aJ aW L e o)∧aF 0<aF 4)
 (bT (cC L 1 4==0)
 (.rq ((L.length=L.length∧∀(e o:Nat),e<L.length→o<1→aJ aW L e o=aJ aW L e o)∧aF 0<aF 12)
 (.rq (inR aA (2*cC L 0 12))
 (.rq (inR aA (2*cC L 0 12-5))
 (.rq ((L.length=L.length∧∀(e o:Nat),e<L.length→o<1→aJ aW L e o=aJ aW L e o)∧aF 0<aF 3)
 (.rq (inR aA (1+cC L 2 3))
 (.rq ((L.length=L.length∧∀(e o:Nat),e<L.length→o<1→aJ aW L e o=aJ aW L e o)∧aF 0<aF 2)
 (.rq ((L.length=L.length∧∀(e o:Nat),e<L.length→o<1→aJ aW L e o=aJ aW L e o)∧aF 0<aF 3)
 (.rq (inR aA (1+cC L 4 3))
 (.rq ((L.length=L.length∧∀(e o:Nat),e<L.length→o<1→aJ aW L e o=aJ aW L e o)∧aF 0<aF 3)
 (.rq (inR aA (1+cC L 5 3))
 (.rq ((L.length=L.length∧∀(e o:Nat),e<L.length→o<1→aJ aW L e o=aJ aW L e o)∧aF 0<aF 9)
 (.done .ret
 (St.mk [V.a (pH (aO #[104,111,116]) (1+cC L 2 3) kd fu wi off k n d nm mc f bc g c e (cC L 3 2==0) (2*cC L 0 12-5) 2 (1+cC L 4 3) (1+cC L 5 3) (cC L 6 9))] [])))))))))))))
 (.rq ((L.length=L.length∧∀(e o:Nat),e<L.length→o<1→aJ aW L e o=aJ aW L e o)∧aF 0<aF 3)
 (.rq (inR aA (1+cC L 2 3))
 (.rq ((L.length=L.length∧∀(e o:Nat),e<L.length→o<1→aJ aW L e o=aJ aW L e o)∧aF 0<aF 2)
 (.rq ((L.length=L.length∧∀(e o:Nat),e<L.length→o<1→aJ aW L e o=aJ aW L e o)∧aF 0<aF 3)
 (.rq (inR aA (1+cC L 4 3))
 (.rq ((L.length=L.length∧∀(e o:Nat),e<L.length→o<1→aJ aW L e o=aJ aW L e o)∧aF 0<aF 3)
 (.rq (inR aA (1+cC L 5 3))
 (.rq ((L.length=L.length∧∀(e o:Nat),e<L.length→o<1→aJ aW L e o=aJ aW L e o)∧aF 0<aF 9)
 (.done .ret
 (St.mk [V.a (pH (aO #[104,111,116]) (1+cC L 2 3) kd fu wi off k n d nm mc f bc g c e (cC L 3 2==0) (cC L 0 25-8) 1 (1+cC L 4 3) (1+cC L 5 3) (cC L 6 9))] []))))))))))))):=by kernel_rfl
def ruN(L:List Int):Int:=if cC L 1 4=0 then 2*cC L 0 12-5 else cC L 0 25-8
def ruD(L:List Int):Int:=if cC L 1 4=0 then 2 else 1
def aCX(L:List Int)(E:List PV):List PV:=.s ⟨#[104,111,116]⟩::.i .i64 (1+cC L 2 3)::(E++[.b (cC L 3 2==0),.i .i64 (ruN L),.i .i64 (ruD L),.i .i64 (1+cC L 4 3),.i .i64 (1+cC L 5 3),.i .i64 (cC L 6 9)])
def aEC(L:List Int):Mod
 |[x,.a [.p (.i .i64 kd),.p (.i .i64 fu),.p (.i .i64 wi),.p (.i .i64 off),.p (.i .i64 k),.p (.i .i64 n),.p (.i .i64 d),.p (.s nm),.p (.l 3 mc f),.p (.l 1 bc g),.p (.l 11 c e)]]=>match BY x L with
  |some p=>some (p,.a (iP (aCX L [.i .i64 kd,.i .i64 fu,.i .i64 wi,.i .i64 off,.i .i64 k,.i .i64 n,.i .i64 d,.s nm,.l 3 mc f,.l 1 bc g,.l 11 c e])))
  |none=>none
 |_=>none
section
variable {G:Nat→Option Obj}
set_option maxRecDepth 100000 in
theorem aMZ{L:List Int}(hI:oM L):dD Tryz.prog G 7 (aEC L):=by
 intro args p v hm hp h;unfold aEC at hm
 split at hm;rotate_left;· cases hm
 rename_i x kd fu wi off k n d nm mc f bc g c e
 split at hm;rotate_left;· cases hm
 rename_i q hx;obtain⟨rfl,rfl⟩:=bA hm;clear hm;refine lW.args (args':=[aX aW 1 L,.a (cF kd fu wi off k n d nm mc f bc g c e)]) ?_ (.cons (mO hx hp) (.cons (.refl _) .nil))
 refine fR Tryz.func7 (by kernel_rfl) rfl ?_ h
 refine cO.evH (kB hI) (tRu L kd fu wi off k n d nm mc f bc g c e) ?_
 have p0:=cY L 0 (m:=25) (by omega)
 have p1:=cY L 0 (m:=12) (by omega)
 have p2:=cY L 2 (m:=3) (by omega)
 have p4:=cY L 4 (m:=3) (by omega)
 have p5:=cY L 5 (m:=3) (by omega)
 have r:∀m:Int,0<m→(L.length=L.length∧∀(e o:Nat),e<L.length→o<1→aJ aW L e o=aJ aW L e o)∧0<m:=fun m hm=>⟨⟨rfl,fun _ _ _ _=>rfl⟩,hm⟩
 have s:∀m:Int,0<m→(True∧∀(e o:Nat),e<L.length→o<1→True)∧0<m:=fun m hm=>⟨⟨trivial,fun _ _ _ _=>trivial⟩,hm⟩
 have f1:cC L 1 4=0→ruN L=2*cC L 0 12-5∧ruD L=2:=fun h1=>by unfold ruN ruD;rw[if_pos h1,if_pos h1];exact⟨rfl,rfl⟩
 have f2:¬cC L 1 4=0→ruN L=cC L 0 25-8∧ruD L=1:=fun h1=>by unfold ruN ruD;rw[if_neg h1,if_neg h1];exact⟨rfl,rfl⟩
 rw[aS,aS,aS,bD];refine⟨r 25 (by decide),by simp only[inR];omega,r 4 (by decide),fun h1=>?_,fun h1=>?_⟩
 ·have h1:=f1 (by simpa using h1)
  simp only[aS,aI,bK,inR];unfold aCX;rw[h1.1,h1.2];exact⟨s 12 (by decide),⟨by omega,by omega⟩,⟨by omega,by omega⟩,s 3 (by decide),⟨by omega,by omega⟩,s 2 (by decide),s 3 (by decide),⟨by omega,by omega⟩,s 3 (by decide),⟨by omega,by omega⟩,s 9 (by decide),⟨eL.refl _⟩⟩
 ·have h1:=f2 (by simpa using h1)
  simp only[aS,aI,bK,inR];unfold aCX;rw[h1.1,h1.2];exact⟨s 3 (by decide),⟨by omega,by omega⟩,s 2 (by decide),s 3 (by decide),⟨by omega,by omega⟩,s 3 (by decide),⟨by omega,by omega⟩,s 9 (by decide),⟨eL.refl _⟩⟩
end
def nF:Nat→Nat→PV:=fun _ _=>.b false
def lM(l:List (List PV)):Nat→Nat→PV:=fun e o=>bN (.b false) (bN [] l e) o
def nG(op:Int)(X Y:List PV):List PV:=[.i .i64 3,.i .i64 op,.i .i64 0,.i .i64 0,.i .i64 0,.i .i64 0,.i .i64 0,.s ⟨#[]⟩,.l 3 0 (aJ bY []),.l 1 0 (aJ bM []),.l 11 2 (lM [X,Y])]
def aEK:Mod
 |[.c (.p (.i .i64 op)),.a [.p (.i .i64 akd),.p (.i .i64 afu),.p (.i .i64 awi),.p (.i .i64 aoff),.p (.i .i64 ak),.p (.i .i64 an),.p (.i .i64 ad),.p (.s anm),.p (.l 3 amc af),.p (.l 1 abc ag),.p (.l 11 ac ae)],.a [.p (.i .i64 bkd),.p (.i .i64 bfu),.p (.i .i64 bwi),.p (.i .i64 boff),.p (.i .i64 bk),.p (.i .i64 bn),.p (.i .i64 bd),.p (.s bnm),.p (.l 3 bmc bf),.p (.l 1 bbc bg),.p (.l 11 bc be)]]=>some (True,.a (iP (nG op [.i .i64 akd,.i .i64 afu,.i .i64 awi,.i .i64 aoff,.i .i64 ak,.i .i64 an,.i .i64 ad,.s anm,.l 3 amc af,.l 1 abc ag,.l 11 ac ae] [.i .i64 bkd,.i .i64 bfu,.i .i64 bwi,.i .i64 boff,.i .i64 bk,.i .i64 bn,.i .i64 bd,.s bnm,.l 3 bmc bf,.l 1 bbc bg,.l 11 bc be])))
 |_=>none
theorem tBo(op:Int)(akd afu awi aoff ak an ad:Int)(anm:ByteArray)(amc:Nat)(af:Nat→Nat→PV)(abc:Nat)(ag:Nat→Nat→PV)(ac:Nat)(ae:Nat→Nat→PV)(bkd bfu bwi boff bk bn bd:Int)(bnm:ByteArray)(bmc:Nat)(bf:Nat→Nat→PV)(bbc:Nat)(bg:Nat→Nat→PV)(bc:Nat)(be:Nat→Nat→PV):cJ dX (cS Tryz.prog Tryz.f29) (iR Tryz.f29 [iV op,.a (cF akd afu awi aoff ak an ad anm amc af abc ag ac ae),.a (cF bkd bfu bwi boff bk bn bd bnm bmc bf bbc bg bc be)]) (cP [] (bB Tryz.prog Tryz.f29))=Tr.rq
 (2≤2 ∧
 ∀(e o:Nat),
 e<2 →
 o<11 →
 BJ
 (bN C.top
 (aKE akd afu awi aoff ak an ad anm amc af abc ag ac ae bkd bfu bwi boff bk bn bd bnm bmc bf bbc bg bc be)
 ((e+0)*11+o)) =
 true)
 (.done .ret
 (St.mk [V.a [C.p (PV.i aA 3),C.p (PV.i aA op),C.p (PV.i aA 0),C.p (PV.i aA 0),C.p (PV.i aA 0),C.p (PV.i aA 0),C.p (PV.i aA 0),C.p (PV.s (aO #[])),C.p (PV.z (dP none 0 0)),C.p (PV.z (dP none 0 0)),C.p (PV.l 11 2 fun e o=>tE (bN C.top (aKE akd afu awi aoff ak an ad anm amc af abc ag ac ae bkd bfu bwi boff bk bn bd bnm bmc bf bbc bg bc be) ((e+0)*11+o)))]] [])):=by kernel_rfl
section
variable {G:Nat→Option Obj}
set_option maxRecDepth 100000 in
theorem aNL:dD Tryz.prog G 29 aEK:=by
 intro args p v hm hp h;unfold aEK at hm
 split at hm;rotate_left;· cases hm
 rename_i op akd afu awi aoff ak an ad anm amc af abc ag ac ae bkd bfu bwi boff bk bn bd bnm bmc bf bbc bg bc be;obtain⟨rfl,rfl⟩:=bA hm;clear hm
 refine fR Tryz.func29 (by kernel_rfl) rfl ?_ h
 refine cO.evH aT (tBo op akd afu awi aoff ak an ad anm amc af abc ag ac ae bkd bfu bwi boff bk bn bd bnm bmc bf bbc bg bc be) ?_;simp only[aS,aI,bK];refine⟨⟨Nat.le_refl _,fun e o he ho=>?_⟩,⟨?_⟩⟩
 ·match e,he,o,ho with
  |0,_,0,_|0,_,1,_|0,_,2,_|0,_,3,_|0,_,4,_|0,_,5,_|0,_,6,_|0,_,7,_|0,_,8,_|0,_,9,_|0,_,10,_|1,_,0,_|1,_,1,_|1,_,2,_|1,_,3,_|1,_,4,_|1,_,5,_|1,_,6,_|1,_,7,_|1,_,8,_|1,_,9,_|1,_,10,_=>rfl
 ·refine eL.a (xs:=[.i .i64 3,.i .i64 op,.i .i64 0,.i .i64 0,.i .i64 0,.i .i64 0,.i .i64 0,.s ⟨#[]⟩,.z (.slice none 0 0),.z (.slice none 0 0),_]) (.cons (.refl _) (.cons (.refl _) (.cons (.refl _) (.cons (.refl _) (.cons (.refl _) (.cons (.refl _) (.cons (.refl _) (.cons (.refl _) (.cons (jT.nil 3 _) (.cons (jT.nil 1 _) (.cons (jT.l fun e o he ho=>?_) .nil)))))))))))
  match e,he,o,ho with
  |0,_,0,_|0,_,1,_|0,_,2,_|0,_,3,_|0,_,4,_|0,_,5,_|0,_,6,_|0,_,7,_|0,_,8,_|0,_,9,_|0,_,10,_|1,_,0,_|1,_,1,_|1,_,2,_|1,_,3,_|1,_,4,_|1,_,5,_|1,_,6,_|1,_,7,_|1,_,8,_|1,_,9,_|1,_,10,_=>exact jT.refl _
end
def BP(t:Nat)(m:Int)(cs:List PV):Prop:=iJ t cs∧kC t cs≤m
theorem aJ4{t:Nat}{X:List PV}(h:iJ t X)(r:List (List PV)):cN (lM (X::r)) 0=X:=by
 cases t with
 |zero=>exact h.elim
 |succ t=>
  obtain⟨kd,fu,wi,off,k,n,d,nm,ML,BL,c,e,rfl,-⟩:=h;rfl
theorem aQI{t:Nat}{X:List PV}(h:iJ t X)(Y:List PV)(r:List (List PV)):cN (lM (Y::X::r)) 1=X:=by
 cases t with
 |zero=>exact h.elim
 |succ t=>
  obtain⟨kd,fu,wi,off,k,n,d,nm,ML,BL,c,e,rfl,-⟩:=h;rfl
theorem YO(t:Nat){kd fu wi off k n d:Int}{nm:ByteArray}{ML:List Mt}{BL:List ByteArray}{e:Nat→Nat→PV}(hn:inR .i64 n)(hd:inR .i64 d)(hM:ML.length≤1000)(hB:BL.length≤1000) :
  BP (t+1) 1 [.i .i64 kd,.i .i64 fu,.i .i64 wi,.i .i64 off,.i .i64 k,.i .i64 n,.i .i64 d,.s nm,.l 3 ML.length (aJ bY ML),.l 1 BL.length (aJ bM BL),.l 11 0 e]:=
 ⟨⟨kd,fu,wi,off,k,n,d,nm,ML,BL,0,e,rfl,hn,hd,⟨hM,hB⟩,by omega,fun i hi=>absurd hi (Nat.not_lt_zero i)⟩,fA _⟩
theorem aQ0{t:Nat}{m:Int}{X:List PV}(h:BP t m X){kd fu wi off k n d:Int}{nm:ByteArray}{ML:List Mt}{BL:List ByteArray}(hn:inR .i64 n)(hd:inR .i64 d)(hM:ML.length≤1000)(hB:BL.length≤1000) :
  BP (t+1) (1+m) [.i .i64 kd,.i .i64 fu,.i .i64 wi,.i .i64 off,.i .i64 k,.i .i64 n,.i .i64 d,.s nm,.l 3 ML.length (aJ bY ML),.l 1 BL.length (aJ bM BL),.l 11 1 (lM [X])]:=by
 refine⟨⟨kd,fu,wi,off,k,n,d,nm,ML,BL,1,lM [X],rfl,hn,hd,⟨hM,hB⟩,by omega,fun i hi=>?_⟩,?_⟩
 ·obtain rfl:i=0:=by omega
  rw[aJ4 h.1];exact h.1
 ·show 1+(0+kC t (cN (lM [X]) 0))≤1+m
  rw[aJ4 h.1]
  have:=h.2
  omega
theorem aS3{t:Nat}{m1 m2:Int}{X Y:List PV}(h:BP t m1 X)(h2:BP t m2 Y){kd fu wi off k n d:Int}{nm:ByteArray}{ML:List Mt}{BL:List ByteArray}(hn:inR .i64 n)(hd:inR .i64 d)(hM:ML.length≤1000)(hB:BL.length≤1000) :
  BP (t+1) (1+(m1+m2)) [.i .i64 kd,.i .i64 fu,.i .i64 wi,.i .i64 off,.i .i64 k,.i .i64 n,.i .i64 d,.s nm,.l 3 ML.length (aJ bY ML),.l 1 BL.length (aJ bM BL),.l 11 2 (lM [X,Y])]:=by
 refine⟨⟨kd,fu,wi,off,k,n,d,nm,ML,BL,2,lM [X,Y],rfl,hn,hd,⟨hM,hB⟩,by omega,fun i hi=>?_⟩,?_⟩
 ·match i,hi with
  |0,_=>rw[aJ4 h.1];exact h.1
  |1,_=>rw[aQI h2.1];exact h2.1
 ·show 1+(0+kC t (cN (lM [X,Y]) 0)+kC t (cN (lM [X,Y]) 1))≤1+(m1+m2)
  rw[aJ4 h.1,aQI h2.1]
  have:=h.2
  have:=h2.2
  omega
theorem nV:inR .i64 0:=by simp only[inR];omega
theorem BB{t:Nat}{m1 m2:Int}{X Y:List PV}(h:BP t m1 X)(h2:BP t m2 Y)(op:Int):BP (t+1) (1+(m1+m2)) (nG op X Y):=
 aS3 (ML:=[]) (BL:=[]) h h2 nV nV (bH _) (bH _)
theorem iJ.up:∀ {t:Nat} {cs:List PV},iJ t cs→iJ (t+1) cs
 |0,_,h=>h.elim
 |t+1,cs,h=>by
  obtain⟨kd,fu,wi,off,k,n,d,nm,ML,BL,c,e,h1,hn,hd,hL,hc,hk⟩:=h;exact⟨kd,fu,wi,off,k,n,d,nm,ML,BL,c,e,h1,hn,hd,hL,hc,fun i hi=>(hk i hi).up⟩
theorem CQ{F F':Nat→Int}:∀ {c:Nat},(∀i,i<c→F i=F' i)→jW F c=jW F' c
 |0,_=>rfl
 |c+1,h=>by
  show jW F c+F c=jW F' c+F' c
  rw[CQ fun i hi=>h i (by omega),h c (by omega)]
theorem YD:∀ {t:Nat} {cs:List PV},iJ t cs→kC (t+1) cs=kC t cs
 |0,_,h=>h.elim
 |t+1,cs,h=>by
  obtain⟨kd,fu,wi,off,k,n,d,nm,ML,BL,c,e,rfl,hn,hd,hL,hc,hk⟩:=h
  show 1+jW (fun i=>kC (t+1) (cN e i)) c=1+jW (fun i=>kC t (cN e i)) c
  rw[CQ fun i hi=>YD (hk i hi)]
theorem BP.up{t:Nat}{m:Int}{cs:List PV}(h:BP t m cs):BP (t+1) m cs:=⟨h.1.up,by rw[YD h.1];exact h.2⟩
theorem BP.le{t:Nat}{m m':Int}{cs:List PV}(h:BP t m cs)(hm:m≤m'):BP t m' cs:=⟨h.1,Int.le_trans h.2 hm⟩
theorem aR9{t:Nat}{m:Int}{kd fu wi off k n d:Int}{nm:ByteArray}{mc:Nat}{f:Nat→Nat→PV}{bc:Nat}{g:Nat→Nat→PV}{c:Nat}{e:Nat→Nat→PV}(h:BP t m [.i .i64 kd,.i .i64 fu,.i .i64 wi,.i .i64 off,.i .i64 k,.i .i64 n,.i .i64 d,.s nm,.l 3 mc f,.l 1 bc g,.l 11 c e])(hm:1≤m)(a x:Int) :
  BP t m [.i .i64 (bI a 8 0 (bI a 7 x kd)),.i .i64 (bI a 8 0 fu),.i .i64 (bI a 8 0 wi),.i .i64 (bI a 8 0 off),.i .i64 (bI a 8 0 k),.i .i64 (bI a 8 1 n),.i .i64 (bI a 8 1 d),.s (if a=8 then ⟨#[]⟩ else nm),.l 3 (if a=8 then 0 else mc) (if a=8 then aJ bY [] else f),.l 1 (if a=8 then 0 else bc) (if a=8 then aJ bM [] else g),.l 11 (if a=8 then 0 else c) e]:=by
 cases t with
 |zero=>exact h.1.elim
 |succ t=>
  have one_in:inR .i64 1:=by simp only[inR];omega
  by_cases ha:a=8
  ·subst ha
   exact(YO t (ML:=[]) (BL:=[]) (e:=e) one_in one_in (bH _) (bH _)).le hm
  ·obtain⟨⟨kd',fu',wi',off',k',n',d',nm',ML,BL,c',e',hcs,hn,hd,hL,hc,hk⟩,hno⟩:=h
   simp only[fF.injEq,and_true,PV.i.injEq,true_and,PV.s.injEq,PV.l.injEq]at hcs;obtain⟨rfl,rfl,rfl,rfl,rfl,rfl,rfl,rfl,⟨rfl,rfl⟩,⟨rfl,rfl⟩,rfl,rfl⟩:=hcs
   have b8:∀u v:Int,bI a 8 u v=v:=fun u v=>if_neg ha
   rw[b8,b8,b8,b8,b8,b8,b8,if_neg ha,if_neg ha,if_neg ha,if_neg ha,if_neg ha,if_neg ha];exact⟨⟨_,_,_,_,_,_,_,_,ML,BL,c,e,rfl,hn,hd,hL,hc,hk⟩,hno⟩
end Go.AE
