import Derived.WalkKit
import Derived.Sort.LotA
import Derived.Test.YtfjihbmehhccoaaF2
import Derived.Test.YtfjihbmehhccoaaFD
import Derived.Test.YtfjihbmehhccoaaF1
set_option linter.unusedVariables false
set_option linter.unusedSimpArgs false
namespace Go.AE.Gp
open _root_.Array renaming getElem?_eq_some_iff→bL,toList_inj→fN
open _root_.Bool renaming and_eq_true→aO,not_eq_false'→gA,not_eq_true'→eP,or_eq_true→cC
open _root_.ByteArray renaming mk→aG
open _root_.Int renaming ofNat→dI
open IntKind renaming i64→aC
open _root_.List renaming all_eq_true→fL,drop_eq_getElem_cons→dX,getD_eq_getElem?_getD→aD,getElem?_append_left→cD,getElem?_append_right→cR,getElem?_eq_getElem→aM,getElem?_eq_none→bU,getElem_mem→jI,getElem_of_mem→fU,length_append→aV,length_set→cB,length_take→cU,mem_append→dF,mem_cons→eQ,mem_iff_getElem?→eU,mem_singleton→eN,pairwise_iff_getElem→dL,take_append_drop→gS
open _root_.Nat renaming beq→cA,ble→eI,eq_of_beq_eq_true→aR,le_of_ble_eq_true→iE,le_refl→aW,lt_or_ge→cS,zero_le→bW
open Op renaming bytesLess→cZ
open Region renaming binds→fV,ready→eY,waitsFor→cV,waitsFor_spec→dU
open _root_.Go.Proofs.Try renaming f105→gV,f52→gT,prog→aB
open _root_.UInt8 renaming lt_iff_toNat_lt→gC
open Value renaming slice→bA
open Go.Sort
abbrev Lb:=ByteArray×ByteArray
theorem sC:∀ {a b c:List UInt8},cZ a b=true→cZ b c=true→cZ a c=true
 |_,[],_,h,_=>by cases ‹List UInt8› <;> simp[cZ]at h
 |_,_::_,[],_,h=>by simp[cZ]at h
 |[],_::_,_::_,_,_=>by simp[cZ]
 |x::a,y::b,z::c,h,k=>by
  have hx:=gC (a:=x) (b:=y)
  have hy:=gC (a:=y) (b:=z)
  have hz:=gC (a:=x) (b:=z)
  simp only[cZ,cC,decide_eq_true_eq,aO,beq_iff_eq]at h k ⊢
  rcases h with h|⟨rfl,h⟩
  ·rcases k with k|⟨rfl,k⟩
   ·exact .inl (hz.2 (Nat.lt_trans (hx.1 h) (hy.1 k)))
   ·exact .inl h
  ·rcases k with k|⟨rfl,k⟩
   ·exact .inl k
   ·exact .inr ⟨rfl,sC h k⟩
theorem sD:∀ {a b:List UInt8},cZ a b=false→a≠b→cZ b a=true
 |[],[],_,h=>absurd rfl h
 |[],_::_,h,_=>by simp[cZ]at h
 |_::_,[],_,_=>by simp[cZ]
 |x::a,y::b,h,hn=>by
  have hx:=gC (a:=x) (b:=y)
  have hy:=gC (a:=y) (b:=x)
  simp only[cZ,Bool.or_eq_false_iff,decide_eq_false_iff_not,Bool.and_eq_false_iff,beq_eq_false_iff_ne,cC,decide_eq_true_eq,aO,beq_iff_eq]at h ⊢;obtain⟨h1,h2⟩:=h
  by_cases he:x=y
  ·subst he
   rcases h2 with h2|h2
   ·exact absurd rfl h2
   ·exact .inr ⟨rfl,sD h2 fun e=>hn (by rw[e])⟩
  ·refine .inl (hy.2 ?_)
   have h3:x.toNat≠y.toNat:=fun e=>he (UInt8.toNat_inj.1 e)
   have h4:¬x.toNat<y.toNat:=fun e=>h1 (hx.2 e)
   omega
def aP0(a b:ByteArray):Bool:=cZ a.toList b.toList
def aPF(a b:ByteArray):Int:=if aP0 a b=true then -1 else if a=b then 0 else 1
def aPG:List Lb→List Lb→Int
 |[],[]=>0
 |[],_::_ => -1
 |_::_,[]=>1
 |x::xs,y::ys=>if x=y then aPG xs ys else if x.1=y.1 then aPF x.2 y.2 else aPF x.1 y.1
section
variable (key:Int→List Lb)
def sX(st:List (List Int)×Option Int)(i:Int):List (List Int)×Option Int:=
 (match st.2 with
  |none=>st.1++[[i]]
  |some j=>if key j=key i then st.1.dropLast++[st.1.getLastD []++[i]] else st.1++[[i]],some i)
end
def aOM(x:List Lb)(K:List (List Lb)):Nat→Nat
 |0=>0
 |k+1=>if aPG x (K.getD k [])<0 then aOM x K k else k+1
def mN(x:List Lb)(K:List (List Lb)):List (List Lb):=
 let p:=aOM x K K.length
 if 0<p∧x=K.getD (p-1) [] then K else K.take p++[x]++K.drop p
end Go.AE.Gp
namespace Go.AE
open _root_.Array renaming getElem?_eq_some_iff→bL,toList_inj→fN
open _root_.Bool renaming and_eq_true→aO,not_eq_false'→gA,not_eq_true'→eP,or_eq_true→cC
open _root_.ByteArray renaming mk→aG
open _root_.Int renaming ofNat→dI
open IntKind renaming i64→aC
open _root_.List renaming all_eq_true→fL,drop_eq_getElem_cons→dX,getD_eq_getElem?_getD→aD,getElem?_append_left→cD,getElem?_append_right→cR,getElem?_eq_getElem→aM,getElem?_eq_none→bU,getElem_mem→jI,getElem_of_mem→fU,length_append→aV,length_set→cB,length_take→cU,mem_append→dF,mem_cons→eQ,mem_iff_getElem?→eU,mem_singleton→eN,pairwise_iff_getElem→dL,take_append_drop→gS
open _root_.Nat renaming beq→cA,ble→eI,eq_of_beq_eq_true→aR,le_of_ble_eq_true→iE,le_refl→aW,lt_or_ge→cS,zero_le→bW
open Op renaming bytesLess→cZ
open Region renaming binds→fV,ready→eY,waitsFor→cV,waitsFor_spec→dU
open _root_.Go.Proofs.Try renaming f105→gV,f52→gT,prog→aB
open _root_.UInt8 renaming lt_iff_toNat_lt→gC
open Value renaming slice→bA
open Go.Proofs Go.Proofs.Ytfjihbmehhccoaa Gp Go.RowKit
def KC:Mod
 |[.c (.p (.l 2 n f)),.c (.p (.l 2 m g))]=>some ((kA aN 2 (bO cT n f) n f∧kA aN 2 (bO cT m g) m g)∧(n≤1000000∨m≤1000000),bV (decide (bO cT n f=bO cT m g)))
 |_=>none
theorem aKR(A B:List (ByteArray×ByteArray)):dC eW (dH 4 (cW aB Try.f81)) (nH Try.f81 [aU aN 2 A,aU aN 2 B]) (lL [] (eZ 26 [0,1,5]) (bI aB Try.f81))=bT ((↑A.length:Int) != (↑B.length:Int)) (.done .ret (St.mk [V.c (C.p (PV.b false))] []))
 (.done .normal
 (bS 26 [(0,.c (.p (.l 2 A.length (aE aN A)))),(1,.c (.p (.l 2 B.length (aE aN B)))),(5,.c (.p (.i .i64 0)))] [])):=by kernel_rfl
theorem aKQ(A B:List (ByteArray×ByteArray))(i:Int):dC eW (gR (cW aB Try.f81) 4) (bS 26 [(0,aU aN 2 A),(1,aU aN 2 B),(5,iV i)] []) (lL [] (eZ 26 [0,1,5]) (bI aB Try.f81))=bT (decide (i<(↑A.length:Int)))
 (.rq (0≤i∧i<(↑A.length:Int))
 (.rq (0≤i∧i<(↑B.length:Int))
 (bT
 (match true with
 |true => !((A.getD i.toNat default).fst.toList==(B.getD i.toNat default).fst.toList&&((A.getD i.toNat default).snd.toList==(B.getD i.toNat default).snd.toList&&true))
 |false=>(A.getD i.toNat default).fst.toList==(B.getD i.toNat default).fst.toList&&((A.getD i.toNat default).snd.toList==(B.getD i.toNat default).snd.toList&&true))
 (.done .ret (St.mk [V.c (C.p (PV.b false))] []))
 (.rq (eV aC (i+1))
 (.done .normal
 (bS 26 [(0,.c (.p (.l 2 A.length (aE aN A)))),(1,.c (.p (.l 2 B.length (aE aN B)))),(5,.c (.p (.i .i64 (i+1))))] []))))))
 (.done (.exit 0)
 (bS 26 [(0,.c (.p (.l 2 A.length (aE aN A)))),(1,.c (.p (.l 2 B.length (aE aN B)))),(5,.c (.p (.i .i64 i)))] [])):=by kernel_rfl
theorem aKP(A B:List (ByteArray×ByteArray))(i:Int):dC eW (bJ 5 (cW aB Try.f81)) (bS 26 [(0,aU aN 2 A),(1,aU aN 2 B),(5,iV i)] []) (lL [] [] (bI aB Try.f81))=Tr.done X.ret (St.mk [V.c (C.p (PV.b true))] []):=by kernel_rfl
theorem TO{α:Type}[Inhabited α]{A B:List α}(hl:A.length=B.length)(h:∀k,k<A.length→A.getD k default=B.getD k default):A=B:=by
 apply List.ext_getElem hl;intro k h1 h2
 have:=h k h1
 simpa[h1,h2] using this
theorem qB(a b:ByteArray):(a.toList==b.toList)=decide (a=b):=by
 rw[Bool.eq_iff_iff,decide_eq_true_iff,beq_iff_eq,ByteArray.toList_eq,ByteArray.toList_eq];exact⟨fun h=>ByteArray.ext (fN.mp h),fun h=>by rw[h]⟩
section
variable {G:Nat→Option Obj}
set_option maxRecDepth 100000 in
theorem UT:iO aB G 81 KC:=by
 intro args p v hm hp h;unfold KC at hm
 split at hm;rotate_left;· cases hm
 rename_i n f m g;obtain⟨rfl,rfl⟩:=eM hm;obtain⟨⟨hA,hB⟩,hn⟩:=hp
 generalize bO cT n f=A at hA
 generalize bO cT m g=B at hB
 refine jN.args (args':=[aU aN 2 A,aU aN 2 B]) ?_ (.cons hA.le (.cons hB.le .nil))
 have hlen:A.length≤1000000∨B.length≤1000000:=by rw[hA.1,hB.1];exact hn
 clear hA hB hn
 refine pW Try.func81 (by kernel_rfl) rfl ?_ h
 refine eJ.ev aX 4 [] (eZ 26 [0,1,5]) rfl (aKR A B) ?_;simp only[bZ,iD,fI,cG];refine⟨fun h1=>iF.of_eq ?_,fun h1=>?_⟩
 ·have h1:A.length≠B.length:=by simp at h1;omega
  rw[decide_eq_false (fun e=>h1 (by rw[e]))];rfl
 ·have h1:A.length=B.length:=by simp at h1;omega
  refine eJ.loop (l:=bJ 4 (cW aB Try.f81)) (b:=inr (inr (bF .skip (cW aB Try.f81) 4))) (r:=bJ 5 (cW aB Try.f81)) (id:=0) (by kernel_rfl)
    (fun i:Int=>bS 26 [(0,aU aN 2 A),(1,aU aN 2 B),(5,iV i)] []) (fun i=>0≤i∧i≤A.length∧∀k,k<i.toNat→A.getD k default=B.getD k default) (fun i=>(A.length-i).toNat) 0 ⟨by omega,by omega,fun k hk=>absurd hk (by simp)⟩ (aJ (by kernel_rfl)) ?_
  rintro i ⟨i0,i1,hi⟩;refine eJ.evA aX [] (eZ 26 [0,1,5]) rfl (aKQ A B i) ?_
  have key:((A.getD i.toNat default).fst.toList==(B.getD i.toNat default).fst.toList&&((A.getD i.toNat default).snd.toList==(B.getD i.toNat default).snd.toList&&true))=decide (A.getD i.toNat default=B.getD i.toNat default):=by
   rw[qB,qB,Bool.and_true,Bool.eq_iff_iff];simp[Prod.ext_iff]
  rw[key]
  have bad:A.getD i.toNat default≠B.getD i.toNat default→iF (V.c (C.p (PV.b false))) (bV (decide (A=B))):=fun hne=>by
   rw[decide_eq_false (fun e=>hne (by rw[e]))];exact iF.refl _
  have good:i<A.length→A.getD i.toNat default=B.getD i.toNat default→∃j:Int,(0≤j∧j≤A.length∧∀k,k<j.toNat→A.getD k default=B.getD k default)∧(A.length-j).toNat<(A.length-i).toNat∧cQ G (bS 26 [(0,V.c (C.p (PV.l 2 A.length (aE aN A)))),(1,V.c (C.p (PV.l 2 B.length (aE aN B)))),(5,V.c (C.p (PV.i aC (i+1))))] []) ((fun i:Int=>bS 26 [(0,aU aN 2 A),(1,aU aN 2 B),(5,iV i)] []) j):=fun hlt he=>
   ⟨i+1,⟨by omega,by omega,fun k hk=>by
     by_cases hk':k<i.toNat
     ·exact hi k hk'
     ·obtain rfl:k=i.toNat:=by omega
      exact he⟩,by omega,aJ (by kernel_rfl)⟩
  have after:¬i<A.length→eJ aB G (bI aB Try.f81) (bV (decide (A=B))) (bJ 5 (cW aB Try.f81)) (bS 26 [(0,V.c (C.p (PV.l 2 A.length (aE aN A)))),(1,V.c (C.p (PV.l 2 B.length (aE aN B)))),(5,V.c (C.p (PV.i aC i)))] []) (fun _ _=>False):=fun hlt=>by
   refine eJ.evA aX [] [] rfl (aKP A B i) ?_;simp only[iD,fI];rw[decide_eq_true (TO h1 fun k hk=>hi k (by omega))];exact iF.refl _
  simp only[bZ,bB,aL,fI,cG,jQ,decide_eq_true_eq,decide_eq_false_iff_not,eP,gA,eV,if_true]
  repeat' (first|apply And.intro|intro _)
  all_goals first|trivial|(clear bad good after hi;omega)|exact⟨after ‹_›⟩|exact⟨bad ‹_›⟩|exact⟨good ‹_› ‹_›⟩
end
def hG(L:List Int)(i m:Int):Int:=if i<0∨L.length≤i then 0 else kD (L.getD i.toNat default) m
def MY:Mod
 |[x,.c (.p (.i .i64 i)),.c (.p (.i .i64 m))]=>match BK x with
  |some (p,A)=>some (p∧(∀t∈A,eV .i64 t)∧0<m,iV (hG A i m))
  |none=>none
 |_=>none
def SX(n:Int):List (ByteArray×ByteArray):=
 if kD n 4=1 then [(⟨#[104,111,115,116]⟩,⟨#[97]⟩)]
 else if kD n 4=2 then [(⟨#[104,111,115,116]⟩,⟨#[98]⟩)]
 else if kD n 4=3 then [(⟨#[104,111,115,116]⟩,⟨#[98]⟩),(⟨#[122,111,110,101]⟩,⟨#[120]⟩)]
 else []
def zK:Mod
 |[.c (.p (.i .i64 n))]=>some (eV .i64 n,aU aN 2 (SX n))
 |_=>none
def jZ(a b:Pg):Bool:=decide (a.L=b.L)&&(decide (a.ru=b.ru)&&(decide (a.ve=b.ve)&&decide (a.st=b.st)))
def KD:Mod
 |[x,y]=>match wC x,wC y with
  |some (p,a),some (q,b)=>some ((p∧q)∧(a.L.length≤1000000∨b.L.length≤1000000),bV (jZ a b))
  |_,_=>none
 |_=>none
def aJK:Ext:=jV [(21,MY),(41,zK)]
def aJR:Ext:=jV [(81,KC)]
theorem aNO(L:List Int)(i m:Int):dC aMT (cW aB Try.f21) (nH Try.f21 [aU aS 1 L,iV i,iV m]) (lL [] [] (bI aB Try.f21))=bT (decide (i<0)) (.done .ret (St.mk [V.c (C.p (PV.i aC 0))] []))
 (bT (decide ((↑L.length:Int)≤i)) (.done .ret (St.mk [V.c (C.p (PV.i aC 0))] []))
 (.rq (0≤i∧i<(↑L.length:Int)) (.rq (eV aC (L.getD i.toNat default)∧0<m) (.done .ret (St.mk [V.c (C.p (PV.i aC (kD (L.getD i.toNat default) m)))] []))))):=by kernel_rfl
theorem aR5(n:Int):dC aMT (cW aB Try.f41) (nH Try.f41 [iV n]) (lL [] [] (bI aB Try.f41))=Tr.rq (eV aC n∧dI 0<dI 4)
 (bT (kD n 4==1)
 (.rq (1≤1∧∀(e o:Nat),e<1→o<2→BA (bF C.top [C.p (PV.s (aG #[104,111,115,116])),C.p (PV.s (aG #[97]))] ((e+0)*2+o))=true)
 (.done .ret (St.mk [V.c (C.p (PV.l 2 1 fun e o=>mI (bF C.top [C.p (PV.s (aG #[104,111,115,116])),C.p (PV.s (aG #[97]))] ((e+0)*2+o))))] [])))
 (bT (kD n 4==2)
 (.rq (1≤1∧∀(e o:Nat),e<1→o<2→BA (bF C.top [C.p (PV.s (aG #[104,111,115,116])),C.p (PV.s (aG #[98]))] ((e+0)*2+o))=true)
 (.done .ret (St.mk [V.c (C.p (PV.l 2 1 fun e o=>mI (bF C.top [C.p (PV.s (aG #[104,111,115,116])),C.p (PV.s (aG #[98]))] ((e+0)*2+o))))] [])))
 (bT (kD n 4==3)
 (.rq
 (2≤2 ∧
 ∀(e o:Nat),
 e<2 →
 o<2 →
 BA
 (bF C.top [C.p (PV.s (aG #[104,111,115,116])),C.p (PV.s (aG #[98])),C.p (PV.s (aG #[122,111,110,101])),C.p (PV.s (aG #[120]))]
 ((e+0)*2+o)) =
 true)
 (.done .ret
 (St.mk [V.c (C.p (PV.l 2 2 fun e o=>mI (bF C.top [C.p (PV.s (aG #[104,111,115,116])),C.p (PV.s (aG #[98])),C.p (PV.s (aG #[122,111,110,101])),C.p (PV.s (aG #[120]))] ((e+0)*2+o))))] [])))
 (.done .ret (St.mk [V.c (C.p (PV.z (bA none 0 0)))] []))))):=by kernel_rfl
theorem aKO(a0 a2 a4 a5 b0 b2 b4 b5:Int)(a1 a6 b1 b6:ByteArray)(a3 b3:List (ByteArray×ByteArray)):dC aJR (cW aB Try.f55) (nH Try.f55 [pgW a0 a1 a2 a3 a4 a5 a6,pgW b0 b1 b2 b3 b4 b5 b6]) (lL [] [] (bI aB Try.f55))=Tr.rq
 ((kA aN 2 (bO cT a3.length (aE aN a3)) a3.length (aE aN a3)∧kA aN 2 (bO cT b3.length (aE aN b3)) b3.length (aE aN b3))∧(a3.length≤1000000∨b3.length≤1000000))
 (bT (decide (bO cT a3.length (aE aN a3)=bO cT b3.length (aE aN b3)))
 (bT (a1.toList==b1.toList) (bT (a2==b2) (.done .ret (St.mk [V.c (C.p (PV.b (a4==b4)))] [])) (.done .ret (St.mk [V.c (C.p (PV.b false))] [])))
 (.done .ret (St.mk [V.c (C.p (PV.b false))] [])))
 (.done .ret (St.mk [V.c (C.p (PV.b false))] []))):=by kernel_rfl
theorem aNP(L:List Int)(i:Int):FH aJK (kM aB Try.f13) (nH Try.f13 [aU aS 1 L,iV i]) (lL [] [] (bI aB Try.f13))=Tr.rq (kA aS 1 (bO gI L.length (aE aS L)) L.length (aE aS L)∧(∀(t:Int),t∈bO gI L.length (aE aS L)→eV aC t)∧dI 0<dI 8)
 (.rq (0≤hG (bO gI L.length (aE aS L)) i 8∧dI 0<dI 7∧eV aC (hG (bO gI L.length (aE aS L)) i 8 / 7))
 (.rq (0≤hG (bO gI L.length (aE aS L)) i 8 / 7∧hG (bO gI L.length (aE aS L)) i 8 / 7<(↑2:Int))
 (.rq ((hG (bO gI L.length (aE aS L)) i 8 / 7).toNat+0<2)
 (.rq (eV aC (i+1))
 (.rq (kA aS 1 (bO gI L.length (aE aS L)) L.length (aE aS L)∧(∀(t:Int),t∈bO gI L.length (aE aS L)→eV aC t)∧dI 0<dI 8)
 (.rq (0≤hG (bO gI L.length (aE aS L)) (i+1) 8∧dI 0<dI 7∧eV aC (hG (bO gI L.length (aE aS L)) (i+1) 8 / 7))
 (.rq (eV aC (1+hG (bO gI L.length (aE aS L)) (i+1) 8 / 7))
 (.rq (eV aC (i+2))
 (.rq (kA aS 1 (bO gI L.length (aE aS L)) L.length (aE aS L)∧(∀(t:Int),t∈bO gI L.length (aE aS L)→eV aC t)∧dI 0<dI 4)
 (.rq (0≤hG (bO gI L.length (aE aS L)) (i+2) 4∧dI 0<dI 2∧eV aC (hG (bO gI L.length (aE aS L)) (i+2) 4 / 2))
 (.rq (eV aC (hG (bO gI L.length (aE aS L)) (i+2) 4 / 2))
 (.rq (eV aC (i+3))
 (.rq
 (kA aS 1 (bO gI L.length (aE aS L)) L.length (aE aS L)∧(∀(t:Int),t∈bO gI L.length (aE aS L)→eV aC t)∧dI 0<dI 6)
 (.rq (eV aC (i+4))
 (.rq
 (kA aS 1 (bO gI L.length (aE aS L)) L.length (aE aS L) ∧
 (∀(t:Int),t∈bO gI L.length (aE aS L)→eV aC t)∧dI 0<dI 4)
 (.rq (eV aC (hG (bO gI L.length (aE aS L)) (i+3) 6+hG (bO gI L.length (aE aS L)) (i+4) 4))
 (.rq (eV aC (i+5))
 (.rq
 (kA aS 1 (bO gI L.length (aE aS L)) L.length (aE aS L) ∧
 (∀(t:Int),t∈bO gI L.length (aE aS L)→eV aC t)∧dI 0<dI 3)
 (.rq (0≤hG (bO gI L.length (aE aS L)) (i+5) 3∧hG (bO gI L.length (aE aS L)) (i+5) 3<(↑3:Int))
 (.rq ((hG (bO gI L.length (aE aS L)) (i+5) 3).toNat+0<3)
 (.done .ret
 (St.mk [V.a [C.p (PV.i aC 0),C.p (PV.s (bF (aG #[]) [aG #[104,111,116],aG #[99,111,108,100]] ((hG (bO gI L.length (aE aS L)) i 8 / 7).toNat+0))),C.p (PV.i aC (1+hG (bO gI L.length (aE aS L)) (i+1) 8 / 7)),C.p (PV.l 2 (SX (hG (bO gI L.length (aE aS L)) (i+2) 4 / 2)).length (aE aN (SX (hG (bO gI L.length (aE aS L)) (i+2) 4 / 2)))),C.p (PV.i aC (hG (bO gI L.length (aE aS L)) (i+3) 6)),C.p (PV.i aC (hG (bO gI L.length (aE aS L)) (i+3) 6+hG (bO gI L.length (aE aS L)) (i+4) 4)),C.p (PV.s (bF (aG #[]) [aG #[],aG #[111,112,115],aG #[97,98,99,100,101,102,103,104,105,106,107,108,109,110,111,112]] ((hG (bO gI L.length (aE aS L)) (i+5) 3).toNat+0)))]] [])))))))))))))))))))))):=by kernel_rfl
def nI(L:List Int)(i:Int):Pg:=⟨0,bF ⟨#[]⟩ [⟨#[104,111,116]⟩,⟨#[99,111,108,100]⟩] (hG L i 8 / 7).toNat,1+hG L (i+1) 8 / 7,SX (hG L (i+2) 4 / 2),hG L (i+3) 6,hG L (i+3) 6+hG L (i+4) 4,bF ⟨#[]⟩ [⟨#[]⟩,⟨#[111,112,115]⟩,⟨#[97,98,99,100,101,102,103,104,105,106,107,108,109,110,111,112]⟩] (hG L (i+5) 3).toNat⟩
def tW(i:Int):Prop := -1000≤i∧i≤1000000
def aCO:Mod
 |[x,.c (.p (.i .i64 i))]=>match BK x with
  |some (p,A)=>some (p∧(∀t∈A,eV .i64 t)∧tW i,uO (nI A i))
  |none=>none
 |_=>none
theorem oZ{L:List Int}{i m:Int}(h:0<m):0≤hG L i m∧hG L i m<m:=by
 unfold hG;split
 ·omega
 ·exact⟨Int.emod_nonneg _ (by omega),Int.emod_lt_of_pos _ h⟩
section
variable {G:Nat→Option Obj}
set_option maxRecDepth 100000 in
theorem RJ:iO aB G 21 MY:=by
 intro args p v hm hp h;unfold MY at hm
 split at hm;rotate_left;· cases hm
 split at hm;rotate_left;· cases hm
 rename_i x i m _ q L hx;obtain⟨rfl,rfl⟩:=eM hm;obtain⟨hL,hI,hm0⟩:=hp;refine jN.args (args':=[aU aS 1 L,iV i,iV m]) ?_ (.cons (oG hx hL) (.cons (.refl _) (.cons (.refl _) .nil)))
 refine pW Try.func21 (by kernel_rfl) rfl ?_ h
 refine eJ.evA FG [] [] rfl (aNO L i m) ?_
 have bad:(i<0∨L.length≤i)→iF (V.c (C.p (PV.i .i64 0))) (iV (hG L i m)):=fun hi=>by
  unfold hG;rw[if_pos hi];exact iF.refl _
 have good:¬(i<0∨L.length≤i)→iF (iV (kD (L.getD i.toNat default) m)) (iV (hG L i m)):=fun hi=>by
  unfold hG;rw[if_neg hi];exact iF.refl _
 have hin:¬(i<0∨L.length≤i)→eV .i64 (L.getD i.toNat default):=fun hi=>hI _ (rI (by omega))
 clear hm hx;simp only[bZ,bB,aL,fI,decide_eq_true_eq,decide_eq_false_iff_not];refine⟨fun h1=>⟨bad (.inl h1)⟩,fun h1=>⟨fun h2=>⟨bad (.inr h2)⟩,fun h2=>⟨⟨by omega,by omega⟩,⟨hin (by omega),hm0⟩,⟨good (by omega)⟩⟩⟩⟩
theorem aJ3(x y:ByteArray):kA aN 2 [(x,y)] 1 fun e o=>mI (bF C.top [C.p (.s x),C.p (.s y)] ((e+0)*2+o)):=⟨rfl,fun e o he ho=>by
 obtain rfl:e=0:=by omega
 have:o=0∨o=1:=by omega
 rcases this with rfl|rfl<;>rfl⟩
theorem aP5(x y z w:ByteArray):kA aN 2 [(x,y),(z,w)] 2 fun e o=>mI (bF C.top [C.p (.s x),C.p (.s y),C.p (.s z),C.p (.s w)] ((e+0)*2+o)):=⟨rfl,fun e o he ho=>by
 have:e=0∨e=1:=by omega
 have h2:o=0∨o=1:=by omega
 rcases this with rfl|rfl<;>rcases h2 with rfl|rfl<;>rfl⟩
set_option maxRecDepth 100000 in
theorem RM:iO aB G 41 zK:=by
 intro args p v hm hp h;unfold zK at hm
 split at hm;rotate_left;· cases hm
 rename_i n;obtain⟨rfl,rfl⟩:=eM hm
 refine pW Try.func41 (by kernel_rfl) rfl ?_ h
 refine eJ.evA FG [] [] rfl (aR5 n) ?_;simp only[bZ,bB,aL,fI,beq_iff_eq,beq_eq_false_iff_ne,ne_eq];unfold SX;refine⟨⟨hp,by decide⟩,fun h1=>⟨⟨by decide,fun e o he ho=>?_⟩,⟨?_⟩⟩,fun h1=>⟨fun h2=>⟨⟨by decide,fun e o he ho=>?_⟩,⟨?_⟩⟩,fun h2=>⟨fun h3=>⟨⟨by decide,fun e o he ho=>?_⟩,⟨?_⟩⟩,fun h3=>⟨?_⟩⟩⟩⟩
 ·obtain rfl:e=0:=by omega
  have:o=0∨o=1:=by omega
  rcases this with rfl|rfl<;>rfl
 ·rw[if_pos h1];exact(aJ3 _ _).le
 ·obtain rfl:e=0:=by omega
  have:o=0∨o=1:=by omega
  rcases this with rfl|rfl<;>rfl
 ·rw[if_neg h1,if_pos h2];exact(aJ3 _ _).le
 ·have:e=0∨e=1:=by omega
  have h2:o=0∨o=1:=by omega
  rcases this with rfl|rfl<;>rcases h2 with rfl|rfl<;>rfl
 ·rw[if_neg h1,if_neg h2,if_pos h3];exact(aP5 _ _ _ _).le
 ·rw[if_neg h1,if_neg h2,if_neg h3];exact iF.p (lE.nil 2 _)
theorem OE:bH aB G aJK:=dY (by simp;exact⟨RJ,RM⟩)
theorem ON:bH aB G aJR:=dY (by simp;exact UT)
set_option maxRecDepth 100000 in
theorem aGV:iO aB G 13 aCO:=by
 intro args p v hm hp h;unfold aCO at hm
 split at hm;rotate_left;· cases hm
 split at hm;rotate_left;· cases hm
 rename_i x i _ q L hx;obtain⟨rfl,rfl⟩:=eM hm;obtain⟨hL,hI,hi0,hi1⟩:=hp;refine jN.args (args':=[aU aS 1 L,iV i]) ?_ (.cons (oG hx hL) (.cons (.refl _) .nil));clear hm hx hL
 refine GF OE Try.func13 (by kernel_rfl) rfl (aNP L i) ?_ h
 simp only[bZ,bB,iD,KF,iN,eV]
 have p1:=oZ (L:=L) (i:=i) (m:=8) (by omega)
 have p2:=oZ (L:=L) (i:=i+1) (m:=8) (by omega)
 have p3:=oZ (L:=L) (i:=i+2) (m:=4) (by omega)
 have p4:=oZ (L:=L) (i:=i+3) (m:=6) (by omega)
 have p5:=oZ (L:=L) (i:=i+4) (m:=4) (by omega)
 have p6:=oZ (L:=L) (i:=i+5) (m:=3) (by omega)
 repeat' (first|exact dJ _ _ _|exact hI|omega|decide|exact⟨_,rfl,iF.refl _⟩|apply And.intro)
end
structure Cw {α:Type} (F:α→α→Int):Prop where
 anti:∀a b,F a b = - F b a
 zero:∀a b,F a b=0↔a=b
 le:∀a b c,F a b≤0→F b c≤0→F a c≤0
def YQ(p:Pg):ByteArray×Int×List (ByteArray×ByteArray)×Int×Int×Int×ByteArray:=(p.ru,p.ve,p.L,p.st,p.kd,p.se,p.to)
theorem NK{a b:Pg}(h:YQ a=YQ b):a=b:=by
 obtain⟨a1,a2,a3,a4,a5,a6,a7⟩:=a;obtain⟨b1,b2,b3,b4,b5,b6,b7⟩:=b;unfold YQ at h;simp only[Prod.mk.injEq]at h;obtain⟨h1,h2,h3,h4,h5,h6,h7⟩:=h;subst h1;subst h2;subst h3;subst h4;subst h5;subst h6;subst h7;rfl
instance:DecidableEq Pg:=fun a b=>decidable_of_iff (YQ a=YQ b) ⟨NK,fun h=>by rw[h]⟩
def leP:V→List Pg→Option Prop
 |.c (.p (.l 7 n f)),A=>some (n=A.length∧∀e o,e<n→o<7→lE (f e o) (aE aI A e o))
 |.c (.p (.z (.slice none 0 0))),A=>some (A=[])
 |_,_=>none
theorem SS{x:V}{A:List Pg}{p:Prop}(h:leP x A=some p)(hp:p):iF x (aU aI 7 A):=by
 unfold leP at h;split at h
 ·injection h with h
  subst h;obtain⟨rfl,h2⟩:=hp;exact iF.p (lE.l h2)
 ·injection h with h
  subst h;subst hp;exact iF.p (lE.nil 7 _)
 ·cases h
def aOZ(A B:List Pg):Mod
 |[x,y]=>match leP x A,leP y B with
  |some p,some q=>some ((p∧q)∧A.length≤1000000∧∀a∈A,a.L.length≤1000000,bV (decide (A=B)))
  |_,_=>none
 |_=>none
def TJ:Ext:=jV [(55,KD)]
theorem tE1(A B:List Pg):dC eW (dH 4 (cW aB Try.f23)) (nH Try.f23 [aU aI 7 A,aU aI 7 B]) (iA (eZ 68 [0,1,5]) (bI aB Try.f23))=bT ((↑A.length:Int) != (↑B.length:Int)) (.done .ret (St.mk [V.c (C.p (PV.b false))] []))
 (.done .normal
 (bS 68 [(0,.c (.p (.l 7 A.length (aE aI A)))),(1,.c (.p (.l 7 B.length (aE aI B)))),(5,.c (.p (.i .i64 0)))] [])):=by kernel_rfl
theorem tE2(A B:List Pg)(i:Nat):dC TJ (gR (cW aB Try.f23) 4) (bS 68 [(0,aU aI 7 A),(1,aU aI 7 B),(5,iV (i:Nat))] []) (iA (eZ 68 [0,1,5]) (bI aB Try.f23))=bT (decide ((↑i:Int)<(↑A.length:Int)))
 (.rq (0≤(↑i:Int)∧(↑i:Int)<(↑A.length:Int))
 (.rq (0≤(↑i:Int)∧(↑i:Int)<(↑B.length:Int))
 (.rq
 ((kA aN 2 (bO cT (A.getD (↑i:Int).toNat default).L.length (aE aN (A.getD (↑i:Int).toNat default).L)) (A.getD (↑i:Int).toNat default).L.length
 (aE aN (A.getD (↑i:Int).toNat default).L) ∧
 kA aN 2 (bO cT (B.getD (↑i:Int).toNat default).L.length (aE aN (B.getD (↑i:Int).toNat default).L)) (B.getD (↑i:Int).toNat default).L.length
 (aE aN (B.getD (↑i:Int).toNat default).L)) ∧
 ((Pg.mk (A.getD (↑i:Int).toNat default).kd (A.getD (↑i:Int).toNat default).ru (A.getD (↑i:Int).toNat default).ve
 (bO cT (A.getD (↑i:Int).toNat default).L.length (aE aN (A.getD (↑i:Int).toNat default).L)) (A.getD (↑i:Int).toNat default).st (A.getD (↑i:Int).toNat default).se
 (A.getD (↑i:Int).toNat default).to).L.length ≤
 1000000 ∨
 (Pg.mk (B.getD (↑i:Int).toNat default).kd (B.getD (↑i:Int).toNat default).ru (B.getD (↑i:Int).toNat default).ve
 (bO cT (B.getD (↑i:Int).toNat default).L.length (aE aN (B.getD (↑i:Int).toNat default).L)) (B.getD (↑i:Int).toNat default).st (B.getD (↑i:Int).toNat default).se
 (B.getD (↑i:Int).toNat default).to).L.length ≤
 1000000))
 (bT
 (!jZ
 (Pg.mk (A.getD (↑i:Int).toNat default).kd (A.getD (↑i:Int).toNat default).ru (A.getD (↑i:Int).toNat default).ve
 (bO cT (A.getD (↑i:Int).toNat default).L.length (aE aN (A.getD (↑i:Int).toNat default).L)) (A.getD (↑i:Int).toNat default).st (A.getD (↑i:Int).toNat default).se
 (A.getD (↑i:Int).toNat default).to)
 (Pg.mk (B.getD (↑i:Int).toNat default).kd (B.getD (↑i:Int).toNat default).ru (B.getD (↑i:Int).toNat default).ve
 (bO cT (B.getD (↑i:Int).toNat default).L.length (aE aN (B.getD (↑i:Int).toNat default).L)) (B.getD (↑i:Int).toNat default).st (B.getD (↑i:Int).toNat default).se
 (B.getD (↑i:Int).toNat default).to))
 (.done .ret (St.mk [V.c (C.p (PV.b false))] []))
 (.rq (0≤(↑i:Int)∧(↑i:Int)<(↑A.length:Int))
 (.rq (0≤(↑i:Int)∧(↑i:Int)<(↑B.length:Int))
 (bT ((A.getD (↑i:Int).toNat default).kd != (B.getD (↑i:Int).toNat default).kd) (.done .ret (St.mk [V.c (C.p (PV.b false))] []))
 (.rq (0≤(↑i:Int)∧(↑i:Int)<(↑A.length:Int))
 (.rq (0≤(↑i:Int)∧(↑i:Int)<(↑B.length:Int))
 (bT ((A.getD (↑i:Int).toNat default).se != (B.getD (↑i:Int).toNat default).se) (.done .ret (St.mk [V.c (C.p (PV.b false))] []))
 (.rq (0≤(↑i:Int)∧(↑i:Int)<(↑A.length:Int))
 (.rq (0≤(↑i:Int)∧(↑i:Int)<(↑B.length:Int))
 (bT (!(A.getD (↑i:Int).toNat default).to.toList==(B.getD (↑i:Int).toNat default).to.toList) (.done .ret (St.mk [V.c (C.p (PV.b false))] []))
 (.rq (eV aC ((↑i:Int)+1))
 (.done .normal
 (bS 68 [(0,.c (.p (.l 7 A.length (aE aI A)))),(1,.c (.p (.l 7 B.length (aE aI B)))),(5,.c (.p (.i .i64 ((↑i:Int)+1))))] []))))))))))))))))
 (.done (.exit 0)
 (bS 68 [(0,.c (.p (.l 7 A.length (aE aI A)))),(1,.c (.p (.l 7 B.length (aE aI B)))),(5,.c (.p (.i .i64 (↑i:Int))))] [])):=by kernel_rfl
theorem tE3(A B:List Pg)(i:Nat):dC eW (bJ 5 (cW aB Try.f23)) (bS 68 [(0,aU aI 7 A),(1,aU aI 7 B),(5,iV (i:Nat))] []) (iA [] (bI aB Try.f23))=Tr.done X.ret (St.mk [V.c (C.p (PV.b true))] []):=by kernel_rfl
theorem aL9{a b:Pg}(h1:jZ a b=true)(h2:a.kd=b.kd)(h3:a.se=b.se)(h4:a.to=b.to):a=b:=by
 unfold jZ at h1;simp only[aO,decide_eq_true_eq]at h1;obtain⟨q1,q2,q3,q4⟩:=h1;refine NK ?_;unfold YQ;rw[q1,q2,q3,q4,h2,h3,h4]
theorem QL(a:Pg):jZ a a=true:=by unfold jZ;simp
section
variable {G:Nat→Option Obj}
set_option maxRecDepth 100000 in
theorem UW:iO aB G 55 KD:=by
 intro args p v hm hp h;unfold KD at hm
 split at hm;rotate_left;· cases hm
 split at hm;rotate_left;· cases hm
 rename_i x y _ _ p1 a p2 b hx hy;obtain⟨rfl,rfl⟩:=eM hm;obtain⟨⟨hA,hB⟩,hl⟩:=hp;refine jN.args (args':=[uO a,uO b]) ?_ (.cons (lZ hx hA) (.cons (lZ hy hB) .nil));clear hm hx hy;obtain⟨a0,a1,a2,a3,a4,a5,a6⟩:=a;obtain⟨b0,b1,b2,b3,b4,b5,b6⟩:=b
 refine pW Try.func55 (by kernel_rfl) rfl ?_ h
 refine eJ.evA ON [] [] rfl (aKO a0 a2 a4 a5 b0 b2 b4 b5 a1 a6 b1 b6 a3 b3) ?_;simp only[bZ,bB,aL,fI,gK,qB]
 have e:jZ ⟨a0,a1,a2,a3,a4,a5,a6⟩ ⟨b0,b1,b2,b3,b4,b5,b6⟩=(decide (a3=b3)&&(decide (a1=b1)&&(decide (a2=b2)&&decide (a4=b4)))):=rfl
 have e4:(a4==b4)=decide (a4=b4):=by rw[Bool.eq_iff_iff];simp
 have e2:(a2==b2)=decide (a2=b2):=by rw[Bool.eq_iff_iff];simp
 rw[e,e4,e2];refine⟨⟨⟨dJ _ _ _,dJ _ _ _⟩,hl⟩,fun h1=>⟨fun h2=>⟨fun h3=>⟨?_⟩,fun h3=>⟨?_⟩⟩,fun h2=>⟨?_⟩⟩,fun h1=>⟨?_⟩⟩
 ·rw[h1,h2,h3];exact iF.refl _
 ·rw[h1,h2,h3];exact iF.refl _
 ·rw[h1,h2];exact iF.refl _
 ·rw[h1];exact iF.refl _
theorem yJ:bH aB G TJ:=dY (by simp;exact UW)
set_option maxRecDepth 100000 in
theorem aOR(A B:List Pg):iO aB G 23 (aOZ A B):=by
 intro args p v hm hp h;unfold aOZ at hm
 split at hm;rotate_left;· cases hm
 split at hm;rotate_left;· cases hm
 rename_i x y _ _ p1 p2 hx hy;obtain⟨rfl,rfl⟩:=eM hm;obtain⟨⟨hA,hB⟩,hlen,hLL⟩:=hp;refine jN.args (args':=[aU aI 7 A,aU aI 7 B]) ?_ (.cons (SS hx hA) (.cons (SS hy hB) .nil));clear hA hB hm hx hy
 refine pW Try.func23 (by kernel_rfl) rfl ?_ h
 refine eJ.evG aX 4 (tE1 A B) ?_;simp only[bZ,aL,fI,cG,bne_iff_ne,bne_eq_false_iff_eq,ne_eq];refine⟨fun h1=>⟨iF.of_eq ?_⟩,fun h1=>⟨?_⟩⟩
 ·rw[decide_eq_false (fun e=>h1 (by rw[e]))];rfl
 have h1:A.length=B.length:=by omega
 refine eJ.loop' (l:=bJ 4 (cW aB Try.f23)) (b:=inr (inr (bF .skip (cW aB Try.f23) 4))) (r:=bJ 5 (cW aB Try.f23)) (id:=0) (by kernel_rfl) (σ:=Nat)
   (fun i=>bS 68 [(0,aU aI 7 A),(1,aU aI 7 B),(5,iV (i:Nat))] []) (fun i=>i≤A.length∧A.take i=B.take i) (fun i=>A.length-i) 0 ⟨bW _,rfl⟩ (aJ (by kernel_rfl)) ?_
 rintro i ⟨hi,hc⟩ Q1 q1n q1e -;refine eJ.evH yJ (tE2 A B i) ?_;simp only[bZ,bB,aL,fI,cG,jQ,decide_eq_true_eq,decide_eq_false_iff_not,bne_iff_ne,bne_eq_false_iff_eq,ne_eq,eV,show (↑i:Int).toNat=i from rfl,gK,qB,eP,gA];refine⟨fun h2=>?_,fun h2=>⟨q1e _ ?_⟩⟩
 ·have hA:i<A.length:=by omega
  have hB:i<B.length:=by omega
  have tA:=sR hA
  have tB:=sR hB
  have mA:A.getD i default∈A:=by
   rw[aD,aM hA];exact jI _
  have ne:A.getD i default≠B.getD i default→A≠B:=fun h e=>h (by rw[e])
  have hLa:=hLL _ mA
  generalize A.getD i default=a at tA ne hLa ⊢
  generalize B.getD i default=b at tB ne ⊢
  have bad:a≠b→iF (V.c (C.p (PV.b false))) (bV (decide (A=B))):=fun hq=>by
   rw[decide_eq_false (ne hq)];exact iF.refl _
  refine⟨by omega,by omega,⟨⟨dJ _ _ _,dJ _ _ _⟩,.inl hLa⟩,fun c1=>⟨bad fun e=>?_⟩,fun c1=>⟨by omega,by omega,fun c2=>⟨bad fun e=>c2 (by rw[e])⟩,fun c2=>⟨by omega,by omega,fun c3=>⟨bad fun e=>c3 (by rw[e])⟩,fun c3=>⟨by omega,by omega,fun c4=>⟨bad fun e=>c4 (by rw[e])⟩,fun c4=>⟨by omega,⟨q1n (i+1) _ ⟨by omega,?_⟩ (by omega) (aJ (by kernel_rfl))⟩⟩⟩⟩⟩⟩
  ·subst e
   have:jZ a a=false:=c1
   rw[QL]at this;cases this
  ·have:jZ a b=true:=c1
   rw[tA,tB,hc,aL9 this c2 c3 c4]
 ·rw[List.take_of_length_le (by omega),List.take_of_length_le (by omega)]at hc
  refine eJ.evH aX (tE3 A B i) ?_;simp only[aL,fI];rw[decide_eq_true hc];exact⟨iF.refl _⟩
end
def oR(st:St):oB→Option Nat
 |.app _ _ _ _ x _=>match st.ev x with
  |.c (.sl id _ _ _)=>some id
  |_=>none
 |_=>none
def KPZ(id0:Option Nat)(h h':List AO):Prop:=(∀id,id0≠some id→id<h.length→bF .gone h' id=bF .gone h id)∧h.length≤h'.length∧∀id,id0=some id→(bF .gone h id).kp=false
theorem KPZ.ck{id0:Option Nat}{h h':List AO}(k:KPZ id0 h h'):CK h h':=by
 intro id x hx hid
 by_cases e:id0=some id
 ·have:=k.2.2 id e
  rw[hid,hx]at this;cases this
 ·rw[k.1 id e (fY hid (yC hx))];exact hid
theorem NJ{h:List AO}{id:Nat}{x:AO}(hn:(bF .gone h id).kp=false):KPZ (some id) h (fB x (fA .gone h id)):=by
 refine⟨fun i hi hl=>?_,by rw[kP,eR,cB];omega,fun i hi=>by injection hi with hi;subst hi;exact hn⟩;rw[fH _ _ _ (by rw[eR,cB];exact hl),cO _ _ _ (fun e=>hi (by rw[e]))]
theorem aD2{h:List AO}{x:AO}:KPZ none h (fB x h):=⟨fun i _ hl=>fH _ _ _ hl,by rw[kP];omega,fun i hi=>by cases hi⟩
section
variable {P:Program} {G:Nat→Option Obj} {ops:Array Oper} {al:List AI} {ext:Ext} {U:Nat→Prop} {F:St} {own:Nat→Nat→Prop}
variable {β0 β β':Bt} {R0 R R':Nat→Prop} {w0 w w':World} {a:Act} {listed:Array Bool}
theorem ZV{op:oB}(ho:op.isApp=true){st st':St}(hag:dR st st' op.sls)(hh:st'.h=st.h){k:V→List AO→Tr}{K:X→St→Prop}(h:(iR ext st k op).holds P G K) :
  (iR ext st' (fun v h'=>.rq ((k v h').holds P G K∧KPZ (oR st op) st.h h') (.done .normal st')) op).holds P G fun _ _=>True:=by
 cases op<;>simp only[oB.isApp,Bool.false_eq_true]at ho;rename_i ty sz bytes z x y
 have ex:st'.ev x=st.ev x:=cN (dR.left hag)
 have ey:st'.ev y=st.ev y:=cN (dR.right hag)
 have src:∀ {kk kk':Nat→(Nat→Nat→C)→Tr} {K K':X→St→Prop},(∀m g,(kk m g).holds P G K→(kk' m g).holds P G K')→(nO st sz y kk).holds P G K→(nO st' sz y kk').holds P G K':=by
  intro kk kk' K K' hk h;simp only[nO,ey,hh]at h ⊢;split at h
  ·rename_i e1;(try rw[e1]);exact hk _ _ h
  ·rename_i e1;(try rw[e1]);obtain⟨c1,c2⟩:=bX h;exact eK c1 (hk _ _ c2)
  ·rename_i e1
   (try rw[e1])
   (try dsimp only at h ⊢)
   split at h
   ·rename_i e2;(try rw[e2]);obtain⟨c1,c2,c3⟩:=bX h;exact eK c1 ⟨c2,hk _ _ c3⟩
   ·exact h.elim
  ·exact h.elim
 simp only[iR]at h ⊢;obtain⟨c1,h⟩:=bX h;refine eK c1 ?_
 rcases pR h with⟨h,hoff⟩|⟨id,sz',off,len,e1,e2,h⟩
 ·have hoff':(EA st' x (BP st' ty sz x fun n f old=>nO st' sz y fun m g=>
      .rq ((n+m)*bytes≤140737488355328∧n+m≤140737488355328∧∀e o,e<m→o<sz→iH (g e o)=true) (.rq ((k (.c (.sl (fF st'.h) sz 0 (n+m))) (fB (.row ty sz (n+m) (fC n f g)) (lC st'.h old))).holds P G K∧KPZ (oR st (.app ty sz bytes z x y)) st.h (fB (.row ty sz (n+m) (fC n f g)) (lC st'.h old))) (.done .normal st')))
      (LH st' (fun v h'=>.rq ((k v h').holds P G K∧KPZ (oR st (.app ty sz bytes z x y)) st.h h') (.done .normal st')) ty sz bytes x y)).holds P G fun _ _=>True:=by
    have hd:(BP st' ty sz x fun n f old=>nO st' sz y fun m g=>
     .rq ((n+m)*bytes≤140737488355328∧n+m≤140737488355328∧∀e o,e<m→o<sz→iH (g e o)=true) (.rq ((k (.c (.sl (fF st'.h) sz 0 (n+m))) (fB (.row ty sz (n+m) (fC n f g)) (lC st'.h old))).holds P G K∧KPZ (oR st (.app ty sz bytes z x y)) st.h (fB (.row ty sz (n+m) (fC n f g)) (lC st'.h old))) (.done .normal st'))).holds P G fun _ _=>True:=by
     simp only[BP,ex,hh]at h ⊢;split at h
     ·rename_i e1
      have ea:oR st (.app ty sz bytes z x y)=none:=by unfold oR;dsimp only;rw[e1]
      (try rw[e1])
      refine src (fun m g q=>?_) h;exact⟨q.1,⟨q.2,by rw[ea];exact aD2⟩,trivial⟩
     ·rename_i e1
      have ea:∀ {i sz0 f l},st.ev x=.c (.sl i sz0 f l)→oR st (.app ty sz bytes z x y)=some i:=fun e=>by unfold oR;dsimp only;rw[e]
      have ea:=ea e1
      (try rw[e1])
      (try dsimp only at h ⊢)
      split at h
      ·rename_i e2
       (try rw[e2])
       obtain⟨c1,c2,c3⟩:=bX h;refine eK c1 ⟨c2,src (fun m g q=>?_) c3⟩;exact⟨q.1,⟨q.2,by rw[ea];exact NJ (by rw[e2];rfl)⟩,trivial⟩
      ·exact h.elim
     ·exact h.elim
    unfold EA;rw[ex];split
    ·rename_i e1
     have:=hoff _ _ _ _ e1
     subst this;exact hd
    ·exact hd
  exact hoff'
 ·have ea:oR st (.app ty sz bytes z x y)=some id:=by unfold oR;dsimp only;rw[e1]
  unfold EA;rw[ex,e1];dsimp only
  have hb:cA off 0=false:=by
   cases hq:cA off 0 with
   |false=>rfl
   |true=>exact absurd (aR hq) e2
  rw[hb]
  change (LH st' (fun v h'=>.rq ((k v h').holds P G K∧KPZ (oR st (.app ty sz bytes z x y)) st.h h') (.done .normal st')) ty sz bytes x y).holds P G fun _ _=>True
  simp only[LH,ex,e1,hh]at h ⊢;split at h
  ·rename_i e3
   (try rw[e3])
   obtain⟨c1,c2,c3⟩:=bX h
   have hck:∀x':AO,KPZ (oR st (.app ty sz bytes z x y)) st.h (fB x' (fA .gone st.h id)):=fun x'=>by rw[ea];exact NJ (by rw[e3];rfl)
   refine eK c1 ⟨c2,src (fun m g q=>?_) c3⟩;exact⟨q.1,⟨⟨q.2.1,hck _⟩,trivial⟩,⟨⟨q.2.2,hck _⟩,trivial⟩⟩
  ·exact h.elim
theorem HH{ai:AI}{o:Nat→Prop}(hat:UB P G ext ai F o)(hd:ai.op.hd=true)(hlb:kY F ai.op=true){F2:St}(hck:CK F.h F2.h)(hown:∀x mk id,sW F ai.op=some (x,mk)→(∀s,ai.dst=some s→s<F.t.length→bF (.c .top) F.t s=mk id)→bF .gone F.h id=x→o id→id<F.h.length→bF .gone F2.h id=bF .gone F.h id∧id<F2.h.length)(htl:F2.t.length=F.t.length)
  (hs1:∀s∈ai.sls,bF (.c .top) F2.t s=bF (.c .top) F.t s) (hs2:∀s,ai.dst=some s→bF (.c .top) F2.t s=bF (.c .top) F.t s):UB P G ext ai F2 o:=by
 intro tM hag
 have hag1:dR F ⟨tM,F.h⟩ ai.sls:=fun s hs=>(hag s hs).trans (hs1 s hs)
 rcases hat tM hag1 with⟨hw,hd'⟩|⟨hw,v,hd',hk⟩|⟨hw,x,mk,id,hn,hd',hx,hid,ho⟩
 ·exact .inl ⟨hw,fun s h1 h2=>(hs2 s h1).trans (hd' s h1 (by omega))⟩
 ·refine .inr (.inl ⟨hw,v,fun s h1 h2=>(hs2 s h1).trans (hd' s h1 (by omega)),fun k' K' h=>?_⟩)
  cases hnw:ai.op.nw with
  |true=>exact(RR hnw hk).elim
  |false=>exact SU hd hnw (DV (st:=F) (dR.right hag1) hlb) hck (hk (fun v _=>k' v F2.h) K' h)
 ·have hn':sW F ai.op=some (x,mk):=by rw[←hn];exact(sA (st:=F) (st':=⟨tM,F.h⟩) (dR.right hag1)).symm
  obtain⟨q1,q2⟩:=hown x mk id hn' hd' hx ho hid;refine .inr (.inr ⟨hw,x,mk,id,?_,fun s h1 h2=>(hs2 s h1).trans (hd' s h1 (by omega)),q1.trans hx,q2,ho⟩);rw[←hn];exact sA (st:=⟨tM,F.h⟩) (st':=⟨tM,F2.h⟩) (fun _ _=>rfl)
structure sO (ops:Array Oper) (al:List AI) (N:Nat):Prop where
 back:∀i o,ops[i]?=some o→∀e∈o.after,fV .any e=true→e.on<i
 dst:∀i j x y d,al[i]?=some x→al[j]?=some y→i<N→j<N→i≠j→x.dst=some d→y.dst≠some d
 dep:∀i j x y d,al[i]?=some x→al[j]?=some y→i<N→j<N→y.dst=some d→d∈x.sls→cV .any ops i j=true
 tl1:∀i,i<N→N<ops.size→∃j,i<j∧j≤N∧cV .any ops j i=true
 tl2:∀t,N<t→t<ops.size→cV .any ops t (t-1)=true
 len:al.length=ops.size
 le:N≤ops.size
variable {N:Nat}
theorem GQ(hok:sO ops al N)(inv:HeadInv .any ops N listed){i i0:Nat}(h0:i0<N)(hu:listed.getD i0 false=false)(hi:i∈eY .any ops listed):i<N:=by
 rcases cS i N with h|h
 case inl=>exact h
 obtain⟨q1,o,q2,q3⟩:=mem_ready.1 hi
 have his:i<ops.size:=(bL.1 q2).1
 by_cases e:i=N
 ·subst e
  have key:∀(k i0:Nat),i-i0≤k→i0<i→listed.getD i0 false=true:=by
   intro k;induction k with
   |zero=>intro i0 h1 h2;omega
   |succ k ih=>
    intro i0 h1 h2;obtain⟨j,j1,j2,j3⟩:=hok.tl1 i0 h2 his;obtain⟨o',ho',e,he,hb,hon⟩:=dU j3
    by_cases ej:j=i
    ·subst ej
     rw[q2]at ho';injection ho' with ho';subst ho'
     have:=q3 e he hb
     rwa [hon]at this
    ·have:=inv.closed j o' ho' (ih j (by omega) (by omega)) e he hb
     rwa [hon]at this
  rw[key (i-i0) i0 (aW _) h0]at hu;cases hu
 ·obtain⟨o',ho',e',he,hb,hon⟩:=dU (hok.tl2 i (by omega) his)
  rw[q2]at ho';injection ho' with ho';subst ho'
  have:=q3 e' he hb
  rw[hon,getD_both (inv.tail (i-1) (by omega) (by omega))]at this;cases this
theorem xK(hok:sO ops al N)(inv:HeadInv .any ops N listed)(hc:0<rJ listed N):∃i0,i0<N∧listed.getD i0 false=false∧i0∈eY .any ops listed:=by
 obtain⟨i0,hi0,hu0,hb0⟩:=qT hc
 have hi0s:i0<ops.size:=by have:=hok.le;omega
 exact⟨i0,hi0,hu0,mem_ready.2 ⟨getD_in (by rw[inv.size];exact hi0s) hu0,ops[i0],by simp[hi0s],fun e he hb=>hb0 e.on (hok.back i0 _ (by simp[hi0s]) e he hb)⟩⟩
theorem AM(hok:sO ops al N){i:Nat}{ai:AI}{o:Oper}(hi:i<N)(ha:al[i]?=some ai)(ho:ops[i]?=some o)(q3:∀e∈o.after,fV .any e=true→listed.getD e.on false=true) :
  ∀s∈ai.sls,∀j aj,j<N→al[j]?=some aj→aj.dst=some s→listed.getD j false=true:=by
 intro s hs j aj hj hja hd;obtain⟨o',ho',e,he,hb,hon⟩:=dU (hok.dep i j ai aj s ha hja hi hj hd hs);rw[ho]at ho';injection ho' with ho';subst ho'
 have:=q3 e he hb
 rwa [hon]at this
def pP:List Bool→List Bool→List Bool
 |x::r,y::s=>(x||y)::pP r s
 |[],s=>s
 |r,[]=>r
theorem VA:∀(u v:List Bool) (i:Nat),bF false (pP u v) i=(bF false u i||bF false v i)
 |[],v,i=>by cases i<;>simp[pP,bF]
 |x::r,[],i=>by simp[pP,bF]
 |x::r,y::s,0=>rfl
 |x::r,y::s,i+1=>VA r s i
def gE(m:List Bool)(i:Nat):Prop:=bF false m i=true
theorem gJ{u v:List Bool}{i:Nat}:gE (pP u v) i↔gE u i∨gE v i:=by unfold gE;rw[VA,cC]
structure vE (ops:Array Oper) (al:List AI) (N:Nat) (v m:List Bool):Prop where
 mlt:∀i,gE m i→i<N
 vlt:∀i,gE v i→i<N
 mv:∀i,gE m i→¬gE v i
 hd:∀i ai,gE m i→al[i]?=some ai→ai.op.hd=true
 m1:∀i j x y d,(gE v i∨gE m i)→j<N→¬(gE v j∨gE m j)→al[i]?=some x→al[j]?=some y→y.dst=some d→d ∉ x.sls
 m2:∀i j x y d,gE v i→j<N→¬gE v j→al[i]?=some x→al[j]?=some y→y.dst=some d→d ∉ x.sls
structure AD (ops:Array Oper) (al:List AI) (N:Nat) (u:List Bool) (n:Nat):Prop where
 nN:n<N
 nu:¬gE u n
 out:∀i,i<N→¬gE u i→i≠n→∃j,j<i∧¬gE u j∧cV .any ops i j=true
structure IZ (P:Program) (G:Nat→Option Obj) (ops:Array Oper) (al:List AI) (N:Nat) (ext:Ext) (u:List Bool) (F:St) (own:Nat→Nat→Prop) (β0:Bt) (R0:Nat→Prop) (w0:World) (listed:Array Bool) (a:Act) (w:World) (β:Bt) (R:Nat→Prop):Prop where
 inv:HeadInv .any ops N listed
 un:∀i,i<N→¬gE u i→listed.getD i false=false
 dx:DX G al (gE u) F own β0 R0 w0 listed a w β R
 opAt:∀i ai,gE u i→al[i]?=some ai→listed.getD i false=false→UB P G ext ai F (own i)∧ai.op.hd=true
 od:∀i j id,gE u i→gE u j→j≠i→own i id→¬own j id
 ob:∀i id,gE u i→own i id→id<F.h.length
theorem uK(hok:sO ops al N){v m:List Bool}(hst:vE ops al N v m){st:St}{n1:Nat}{S:Nat→St}(h0:S 0=st)(hn1:(lJ m al).length=n1)(hr:CI P G ext (lJ m al) n1 S)
  (I:IZ P G ops al N ext v st own β0 R0 w0 listed a w β R) (hlate:∀i ai,gE v i→al[i]?=some ai→listed.getD i false=false→kY st ai.op=true):∃own',IZ P G ops al N ext (pP v m) (S n1) own' β0 R0 w0 listed a w β R:=by
 have hle0:=hr.le (i:=0) (j:=n1) (bW _) (aW _)
 rw[h0]at hle0
 have hl1:∀q x,(lJ m al)[q]?=some x→∃j,gE m j∧al[j]?=some x∧oY m j=q:=fun q x hq=>nP hq
 have hp1:∀i ai,al[i]?=some ai→gE m i→(lJ m al)[oY m i]?=some ai∧oY m i<n1:=fun i ai ha hd=>by
  have h1:=xI hd ha
  exact⟨h1,by rw[←hn1];exact(List.getElem?_eq_some_iff.1 h1).1⟩
 have waits_lt:∀i j,cV .any ops i j=true→j<i:=fun i j hw=>by
  obtain⟨o',ho',e,he,hb,hon⟩:=dU hw
  have:=hok.back i o' ho' e he hb
  omega
 have slot:∀s,(∀j aj,gE m j→al[j]?=some aj→aj.dst≠some s)→bF (.c .top) (S n1).t s=bF (.c .top) st.t s:=fun s hs=>hle0.2.2.2 s fun q aj _ _ hq hd=>by
  obtain⟨j,j1,j2,_⟩:=hl1 q aj hq;exact hs j aj j1 j2 hd
 open Classical in
 let own2:Nat→Nat→Prop:=fun i=>if gE m i then aFL S (oY m i) else own i
 have o2m:∀i,gE m i→own2 i=aFL S (oY m i):=fun i h=>by show (if _ then _ else _)=_;rw[if_pos h]
 have o2v:∀i,¬gE m i→own2 i=own i:=fun i h=>by show (if _ then _ else _)=_;rw[if_neg h]
 have nm:∀i,gE v i→¬gE m i:=fun i h k=>hst.mv i k h
 have hmal:∀i,gE m i→∃ai,al[i]?=some ai:=fun i h=>⟨al[i]'(by have:=hst.mlt i h;have:=hok.len;have:=hok.le;omega),aM _⟩
 have low:∀i id,gE v i→own i id→id<st.h.length:=I.ob
 have high:∀i id,gE m i→aFL S (oY m i) id→st.h.length≤id∧id<(S n1).h.length:=fun i id hi ⟨b1,b2⟩=>by
  obtain⟨ai,hai⟩:=hmal i hi
  have hp:=(hp1 i ai hai hi).2
  have q1:=(hr.le (i:=0) (j:=oY m i) (bW _) (by omega)).2.1
  have q2:=(hr.le (i:=oY m i+1) (j:=n1) (by omega) (aW _)).2.1
  rw[h0]at q1;omega
 refine⟨own2,I.inv,fun i hi hu=>I.un i hi (fun h=>hu (gJ.2 (.inl h))),⟨I.dx.gr,aHX I.dx.hs hle0.2.1 hle0.2.2.1,I.dx.df,by rw[I.dx.sz,hle0.1],?_,?_⟩,?_,?_,?_⟩
 ·intro s u' hu hnd
  rw[slot s (fun j aj hj hja hdd=>hnd j aj (gJ.2 (.inr hj)) hja (I.un j (hst.mlt j hj) (hst.mv j hj)) hdd)];exact I.dx.sl s u' hu (fun j aj hj hja hjl=>hnd j aj (gJ.2 (.inl hj)) hja hjl)
 ·intro i hi hil id hid
  rcases gJ.1 hi with h|h
  ·rw[o2v i (nm i h)]at hid
   exact I.dx.fr i h hil id hid
  ·rw[o2m i h]at hid
   cases hb:β id with
   |none=>rfl
   |some x=>have:=I.dx.hs.dom id x hb;have:=(high i id h hid).1;omega
 ·intro i ai hi hai hil
  by_cases hm:gE m i
  ·rw[o2m i hm]
   refine⟨aAR hr (hp1 i ai hai hm).2 (hp1 i ai hai hm).1 ?_ ?_,hst.hd i ai hm hai⟩
   ·intro s hs q aj hq _ hj hdj
    obtain⟨j,j1,j2,j3⟩:=hl1 q aj hj
    have hlt:=waits_lt i j (hok.dep i j ai aj s hai j2 (hst.mlt i hm) (hst.mlt j j1) hdj hs)
    have:=BY (bs:=m) j1 hlt
    omega
   ·intro s hs q aj hq _ hj hdj
    obtain⟨j,j1,j2,j3⟩:=hl1 q aj hj;exact hok.dst i j ai aj s hai j2 (hst.mlt i hm) (hst.mlt j j1) (fun e=>by rw[←e]at j3;omega) hs hdj
  ·have hv:gE v i:=(gJ.1 hi).resolve_right hm
   rw[o2v i hm];obtain⟨q1,q2⟩:=I.opAt i ai hv hai hil;refine⟨HH q1 q2 (hlate i ai hv hai hil) (fun id x hx hid=>?_) (fun x mk id _ _ _ ho hl=>⟨hle0.2.2.1 id hl,by have:=hle0.2.1;omega⟩) hle0.1 (fun s hs=>slot s fun j aj hj hja hd=>hst.m2 i j ai aj s hv (hst.mlt j hj) (hst.mv j hj) hai hja hd hs) (fun s hs=>slot s fun j aj hj hja hd=>hok.dst i j ai aj s hai hja (hst.vlt i hv) (hst.mlt j hj) (fun e=>hm (e▸hj)) hs hd),q2⟩;rw[hle0.2.2.1 id (fY hid (yC hx))];exact hid
 ·intro i j id hi hj hne h1 h2
  by_cases hmi:gE m i
  ·rw[o2m i hmi]at h1
   by_cases hmj:gE m j
   ·rw[o2m j hmj]at h2
    obtain⟨ai,hai⟩:=hmal i hmi;obtain⟨aj,haj⟩:=hmal j hmj;obtain⟨a1,a2⟩:=h1;obtain⟨b1,b2⟩:=h2
    rcases cS i j with h|h
    ·have h3:=BY (bs:=m) hmi h
     have:=(hr.le (i:=oY m i+1) (j:=oY m j) (by omega) (by have:=(hp1 j aj haj hmj).2;omega)).2.1
     omega
    ·have h3:=BY (bs:=m) hmj (show j<i by omega)
     have:=(hr.le (i:=oY m j+1) (j:=oY m i) (by omega) (by have:=(hp1 i ai hai hmi).2;omega)).2.1
     omega
   ·rw[o2v j hmj]at h2
    have:=low j id ((gJ.1 hj).resolve_right hmj) h2
    have:=(high i id hmi h1).1
    omega
  ·rw[o2v i hmi]at h1
   have q:=low i id ((gJ.1 hi).resolve_right hmi) h1
   by_cases hmj:gE m j
   ·rw[o2m j hmj]at h2
    have:=(high j id hmj h2).1
    omega
   ·rw[o2v j hmj]at h2
    exact I.od i j id ((gJ.1 hi).resolve_right hmi) ((gJ.1 hj).resolve_right hmj) hne h1 h2
 ·intro i id hi hid
  by_cases hmi:gE m i
  ·rw[o2m i hmi]at hid;exact(high i id hmi hid).2
  ·rw[o2v i hmi]at hid
   have:=low i id ((gJ.1 hi).resolve_right hmi) hid
   have:=hle0.2.1
   omega
theorem IZ.next(hext:bH P G ext)(hok:sO ops al N)(hal:eE P ops ops.toList=some al){u:List Bool}{Q:Exit→Act→World→Prop}(I:IZ P G ops al N ext u F own β0 R0 w0 listed a w β R){i:Nat}(hi:i∈eY .any ops listed)(hin:i<N)(hiu:gE u i)(hul:∀j,gE u j→j<N){K:Act→World→Prop}
  (hK:∀a' w' β' R',IZ P G ops al N ext u F own β0 R0 w0 (listed.setIfInBounds i true) a' w' β' R'→K a' w'):wpOp P ops Q i K a w:=by
 obtain⟨q1,o,q2,q3⟩:=mem_ready.1 hi
 have his:i<ops.size:=(bL.1 q2).1
 have hun:=getD_both q1
 have hil:i<listed.size:=by rw[I.inv.size];exact his
 obtain⟨ai,ha,hco⟩:=(jG hal).2 i o (by simpa using q2);obtain⟨hat,hhd⟩:=I.opAt i ai hiu ha hun
 refine I.dx.step hext hiu hil ha q2 hco hun hat (fun s hs j aj hj hja hd=>AM hok hin ha q2 q3 s hs j aj (hul j hj) hja hd) (fun j id hj hji h1=>I.od i j id hiu hj hji h1) fun a' w' β' R' hI'=>hK _ _ _ _ ⟨I.inv.set hi hin,fun j hj hju=>?_,hI',fun j aj hj hja hjl=>?_,I.od,I.ob⟩
 ·rw[getD_set_ne false (fun e:i=j=>hju (by rw[←e];exact hiu))];exact I.un j hj hju
 ·obtain⟨h3,h4⟩:=lW hjl hil
  exact I.opAt j aj hj hja h3
theorem aJ2(hext:bH P G ext)(hok:sO ops al N)(hal:eE P ops ops.toList=some al){u:List Bool}{n:Nat}(hn:AD ops al N u n)(hul:∀j,gE u j→j<N){Q:Exit→Act→World→Prop}
  (hM:∀(listed:Array Bool) (a:Act) (w:World) (β:Bt) (R:Nat→Prop) (o:Oper),ops[n]?=some o→n∈eY .any ops listed→IZ P G ops al N ext u F own β0 R0 w0 listed a w β R→(∀i,i<n→Ch ops n i→listed.getD i false=true) →
   (∀s∈AI.sls ((al[n]?).getD ⟨none,.mv (.t 0),none⟩),∀j aj,j<N→al[j]?=some aj→aj.dst=some s→listed.getD j false=true) →
   wpOp P ops Q n (wpAny P .any ops Q (rJ listed N-1+(ops.size-N)) (listed.setIfInBounds n true)) a w) :
  ∀(f:Nat) (listed:Array Bool) (a:Act) (w:World) (β:Bt) (R:Nat→Prop),rJ listed N=f→IZ P G ops al N ext u F own β0 R0 w0 listed a w β R→wpAny P .any ops Q (f+(ops.size-N)) listed a w:=by
 intro f;induction f with
 |zero=>
  intro listed a w β R hc I
  have:=mP hc n hn.nN
  rw[I.un n hn.nN hn.nu]at this;cases this
 |succ f ih=>
  intro listed a w β R hc I;rw[show f+1+(ops.size-N)=(f+(ops.size-N))+1 by omega];obtain⟨i0,hi0,hu0,hr0⟩:=xK hok I.inv (by omega);refine⟨fun h=>(by rw[h]at hr0;cases hr0),fun i hi=>?_⟩;obtain⟨q1,o,q2,q3⟩:=mem_ready.1 hi
  have his:i<ops.size:=(bL.1 q2).1
  have hin:=GQ hok I.inv hi0 hu0 hi
  have hun:=getD_both q1
  have hil:i<listed.size:=by rw[I.inv.size];exact his
  obtain⟨ai,ha,hco⟩:=(jG hal).2 i o (by simpa using q2)
  by_cases e:i=n
  ·subst e
   have:=hM listed a w β R o q2 hi I (fun j hj hcj=>TT I.inv q2 q3 i j (by omega) hj hcj) (fun s hs j aj hj hja hd=>by
     rw[ha]at hs
     exact AM hok hin ha q2 q3 s hs j aj hj hja hd)
   rwa [hc,Nat.add_sub_cancel]at this
  ·have hiu:gE u i:=Classical.byContradiction fun hnu=>by
     obtain⟨j,h1,h2,h3⟩:=hn.out i hin hnu e;obtain⟨o',ho',e,he,hb,hon⟩:=dU h3;rw[q2]at ho';injection ho' with ho';subst ho'
     have:=q3 e he hb
     rw[hon,I.un j (by omega) h2]at this;cases this
   exact I.next hext hok hal hi hin hiu hul fun a' w' β' R' I'=>ih _ a' w' β' R' (by have:=oH hil hun hin;omega) I'
theorem aPC(hext:bH P G ext)(hok:sO ops al N)(hal:eE P ops ops.toList=some al){u:List Bool}(hall:∀i,i<N→gE u i)(hul:∀j,gE u j→j<N){Q:Exit→Act→World→Prop}
  (hT:∀a w β R,hZ G β R F a w→Gr β0 R0 w0 β R w→wpList P ops Q (ops.toList.drop N) a w) :
  ∀(f:Nat) (listed:Array Bool) (a:Act) (w:World) (β:Bt) (R:Nat→Prop),rJ listed N=f→IZ P G ops al N ext u F own β0 R0 w0 listed a w β R→wpAny P .any ops Q (f+(ops.size-N)) listed a w:=by
 intro f;induction f with
 |zero=>
  intro listed a w β R hc I;rw[Nat.zero_add]
  have hall':=mP hc
  have hsim:hZ G β R F a w:=by
   refine⟨I.dx.df,dD.of_get (by simp[I.dx.sz]) ?_,I.dx.hs⟩;intro s y z hx hy
   have h1:=I.dx.sl s z (by simpa using hy) fun i ai hi _ hl=>by rw[hall' i (hul i hi)]at hl;cases hl
   rw[fT,aD,hx]at h1;exact h1
  have:=xC hok.back (ops.toList.drop N) N listed a w (fun j=>by simp[List.getElem?_drop]) I.inv.size (fun i hi _=>hall' i hi) I.inv.tail (fun t ht hts=>hok.tl2 t ht hts) (hT a w β R hsim I.dx.gr)
  simpa using this
 |succ f ih=>
  intro listed a w β R hc I;rw[show f+1+(ops.size-N)=(f+(ops.size-N))+1 by omega];obtain⟨i0,hi0,hu0,hr0⟩:=xK hok I.inv (by omega);refine⟨fun h=>(by rw[h]at hr0;cases hr0),fun i hi=>?_⟩;obtain⟨q1,o,q2,q3⟩:=mem_ready.1 hi
  have his:i<ops.size:=(bL.1 q2).1
  have hin:=GQ hok I.inv hi0 hu0 hi
  have hun:=getD_both q1
  have hil:i<listed.size:=by rw[I.inv.size];exact his
  exact I.next hext hok hal hi hin (hall i hin) hul fun a' w' β' R' I'=>ih _ a' w' β' R' (by have:=oH hil hun hin;omega) I'
def mH:Nat→List Bool
 |0=>[true]
 |n+1=>false::mH n
theorem lB:∀ {n i:Nat},gE (mH n) i↔i=n
 |0,0=>by simp[gE,mH,bF]
 |0,i+1=>by simp[gE,mH,bF]
 |n+1,0=>by simp[gE,mH,bF]
 |n+1,i+1=>by
  have:=lB (n:=n) (i:=i)
  unfold gE at this ⊢;simp only[mH,bF];rw[this];omega
def vK:List Bool→List Bool→List Bool
 |[],_=>[]
 |x::r,[]=>x::vK r []
 |x::r,y::s=>(x && !y)::vK r s
theorem xV:∀(u c:List Bool) (i:Nat),bF false (vK u c) i=(bF false u i && !bF false c i)
 |[],c,i=>by cases i<;>simp[vK,bF]
 |x::r,[],0=>by simp[vK,bF]
 |x::r,[],i+1=>by simpa[vK,bF] using xV r [] i
 |x::r,y::s,0=>by simp[vK,bF]
 |x::r,y::s,i+1=>by simpa[vK,bF] using xV r s i
def WK(st:St)(id0:Option Nat)(x:AI):Bool:=match x.op.isBsl with
 |false=>true
 |true=>match x.dst with
  |some d=>match bF (.c .top) st.t d with
   |.c (.sl id _ _ _)=>match id0 with
    |some i => !(cA i id)
    |none=>true
   |_=>false
  |none=>false
def HY(st:St)(id0:Option Nat):List AI→Bool
 |[]=>true
 |x::r=>kY st x.op&&(WK st id0 x&&HY st id0 r)
theorem HX{st:St}{id0:Option Nat}:∀ {l:List AI} {q:Nat} {x:AI},HY st id0 l=true→l[q]?=some x→kY st x.op=true∧WK st id0 x=true
 |[],_,_,_,h=>by simp at h
 |y::r,0,x,h,hx=>by
  simp at hx;subst hx;simp only[HY,aO]at h;exact⟨h.1,h.2.1⟩
 |y::r,q+1,x,h,hx=>by
  simp only[HY,aO]at h;exact HX h.2.2 (by simpa using hx)
theorem aIF(hext:bH P G ext)(hok:sO ops al N)(hal:eE P ops ops.toList=some al){u:List Bool}{n:Nat}(hn:AD ops al N u n)(hul:∀j,gE u j→j<N){mm:AI}(hmm:al[n]?=some mm)(hma:mm.op.isApp=true)(hmg:mm.guard=none){dM:Nat}(hmd:mm.dst=some dM)
  (hm1:∀i j x y d,gE u i→j<N→¬gE u j→al[i]?=some x→al[j]?=some y→y.dst=some d→d ∉ x.sls)
  (hz:HY F (oR F mm.op) (lJ (vK u (IV ops.toList n n)) al)=true) {kk:St→Tr} {K:X→St→Prop} (h:(iR ext F (fun v h'=>kk ⟨lU F.t mm.dst v,h'⟩) mm.op).holds P G K) {Q:Exit→Act→World→Prop}
  {o:Oper} (ho:ops[n]?=some o) (hrdy:n∈eY .any ops listed) (I:IZ P G ops al N ext u F own β0 R0 w0 listed a w β R) (hch:∀i,i<n→Ch ops n i→listed.getD i false=true)
  (hrd:∀s∈AI.sls mm,∀j aj,j<N→al[j]?=some aj→aj.dst=some s→listed.getD j false=true) {K2:Act→World→Prop}
  (hK:∀st' own' a' w' β' R',(kk st').holds P G K→IZ P G ops al N ext (pP u (mH n)) st' own' β0 R0 w0 (listed.setIfInBounds n true) a' w' β' R'→(∀i ai,gE (pP u (mH n)) i→al[i]?=some ai→(listed.setIfInBounds n true).getD i false=false→kY st' ai.op=true)→K2 a' w'):wpOp P ops Q n K2 a w:=by
 obtain⟨q1,o',q2,q3⟩:=mem_ready.1 hrdy;rw[ho]at q2;injection q2 with q2;subst q2
 have hns:n<ops.size:=(bL.1 ho).1
 have hun:=getD_both q1
 have hil:n<listed.size:=by rw[I.inv.size];exact hns
 obtain⟨ai,ha,hco⟩:=(jG hal).2 n o (by simpa using ho);rw[hmm]at ha;injection ha with ha;subst ha;simp only[pZ,Option.bind_eq_bind,Option.bind_eq_some_iff,Option.pure_def,Option.some.injEq]at hco;obtain⟨aop,hop,g,hgd,rfl⟩:=hco;dsimp only at hma hmg hmd hz h;subst hmg;obtain⟨tM,hsim,htM⟩:=I.dx.mask
 have hag:dR F ⟨tM,F.h⟩ aop.sls:=fun s hs=>htM s (fun j aj h1 h2 h3 h4=>by
  rw[hrd s (by simp[AI.sls,hs]) j aj (hul j h1) h2 h4]at h3;cases h3)
 unfold wpOp;simp only[ho]
 have hw':=kF (o:=o) (ai:=⟨o.dst,aop,none⟩) hsim hgd (b:=true) rfl
 rw[hw'];simp only[if_true]
 have h1:=ZV (P:=P) (G:=G) (ext:=ext) hma (st':=⟨tM,F.h⟩) hag rfl h
 refine .inl ((nT hsim hop hext h1).wp ?_);rintro x' w' ⟨β',R',x,hh,⟨⟨hkk,hkp⟩,_⟩,r2,r3,r4,r5⟩;rw[hmd]at hkk
 have hkp:KPZ (oR F aop) F.h hh:=hkp
 have slot:∀s,s≠dM→bF (.c .top) (fA x F.t dM) s=bF (.c .top) F.t s:=fun s hs=>cO _ _ _ (fun e=>hs e.symm)
 have unl:∀i,gE (pP u (mH n)) i→(listed.setIfInBounds n true).getD i false=false→gE u i∧i≠n∧listed.getD i false=false:=fun i hi hl=>by
  obtain⟨h3,h4⟩:=lW hl hil
  have hne:i≠n:=by first|exact h4|exact fun e=>h4 e.symm
  exact⟨(gJ.1 hi).resolve_right (fun e=>hne (lB.1 e)),hne,h3⟩
 have late:∀i ai,gE u i→al[i]?=some ai→listed.getD i false=false→kY F ai.op=true∧WK F (oR F aop) ai=true:=fun i ai hi hai hl=>by
  have hc:bF false (vK u (IV ops.toList n n)) i=true:=by
   rw[xV]
   have h1:bF false u i=true:=hi
   rw[h1];cases hq:bF false (IV ops.toList n n) i with
   |false=>rfl
   |true=>
    have hlen:=aC8 hq
    rw[wR]at hlen
    have hne:i≠n:=fun e=>hn.nu (e▸hi)
    rw[hch i (by omega) hq]at hl;cases hl
  exact HX hz (xI hc hai)
 refine hK ⟨fA x F.t dM,hh⟩ (fun i=>if i=n then fun _=>False else own i) _ w' β' R' hkk ⟨I.inv.set hrdy hn.nN,fun i hi hiu=>?_,⟨I.dx.gr.trans r4,r3,?_,?_,?_,?_⟩,?_,?_,?_⟩ ?_
 ·have h2:¬gE u i:=fun e=>hiu (gJ.2 (.inl e))
  have h3:i≠n:=fun e=>hiu (gJ.2 (.inr (lB.2 e)))
  rw[getD_set_ne false (fun e=>h3 e.symm)];exact I.un i hi h2
 ·cases o.dst<;>exact I.dx.df
 ·rw[hmd]
  show (a.tmps.setIfInBounds dM x').size=(fA x F.t dM).length
  rw[Array.size_setIfInBounds,eR,cB];exact I.dx.sz
 ·intro s u' hu hnd
  rw[hmd]at hu
  have hu:(a.tmps.setIfInBounds dM x')[s]?=some u':=hu
  by_cases e:dM=s
  ·subst e
   have hss:dM<a.tmps.size:=by
    rcases cS dM a.tmps.size with h|h
    ·exact h
    ·rw[Array.getElem?_eq_none (by simpa using h)]at hu;cases hu
   simp[hss]at hu;subst hu
   show VR β' R' w' (bF (.c .top) (fA x F.t dM) dM) x'
   rw[dV _ _ _ (by rw[←I.dx.sz];exact hss)];exact r2
  ·have hu':a.tmps[s]?=some u':=by rwa [Array.getElem?_setIfInBounds_ne e]at hu
   show VR β' R' w' (bF (.c .top) (fA x F.t dM) s) u'
   rw[slot s (fun h=>e h.symm)];exact VR.keep r4.keeps (I.dx.sl s u' hu' (fun j aj hj hja hjl=>hnd j aj (gJ.2 (.inl hj)) hja (by rw[getD_set_ne false (fun h=>hn.nu (by rw[h];exact hj))];exact hjl)))
 ·intro i hi hl id hid
  obtain⟨h2,h3,h4⟩:=unl i hi hl;rw[if_neg h3]at hid;rw[r5 id (I.ob i id h2 hid)];exact I.dx.fr i h2 h4 id hid
 ·intro i ai hi hai hl
  obtain⟨h2,h3,h4⟩:=unl i hi hl;rw[if_neg h3];obtain⟨q4,q5⟩:=I.opAt i ai h2 hai h4;obtain⟨q6,q7⟩:=late i ai h2 hai h4;refine⟨HH q4 q5 q6 hkp.ck (fun y mk id hnb hds hy ho' hid=>?_) (by show (fA x F.t dM).length=_;rw[eR,cB]) (fun s hs=>slot s fun e=>hm1 i n ai _ dM h2 hn.nN hn.nu hai hmm hmd (e▸hs)) (fun s hs=>slot s fun e=>hok.dst i n ai _ s hai hmm (hul i h2) hn.nN h3 hs (by rw[hmd,e])),q5⟩
  have hne:oR F aop≠some id:=fun e=>by
   cases hb:ai.op.isBsl with
   |false=>
    obtain⟨ty,vs,rfl⟩:=RT hb hnb
    have:=hkp.2.2 id e
    rw[hy]at this;cases this
   |true=>
    unfold WK at q7;rw[hb]at q7;dsimp only at q7;cases hd:ai.dst with
    |none=>rw[hd]at q7;cases q7
    |some d=>
     rw[hd]at q7;dsimp only at q7
     have hdl:d<F.t.length:=by
      rcases cS d F.t.length with h|h
      ·exact h
      ·rw[fT,aD,bU h]at q7;cases q7
     have hv:=hds d hd hdl
     cases hop2:ai.op<;>rw[hop2]at hb<;>try cases hb
     rw[hop2]at hnb;simp only[sW]at hnb;split at hnb
     ·split at hnb
      ·injection hnb with hnb
       injection hnb with _ hnb;subst hnb;rw[hv,e]at q7;simp at q7
      ·cases hnb
     ·cases hnb
  exact⟨hkp.1 id hne hid,by have:=hkp.2.1;show id<hh.length;omega⟩
 ·intro i j id hi hj hne h1 h2
  by_cases ei:i=n
  ·rw[if_pos ei]at h1;exact h1
  by_cases ej:j=n
  ·rw[if_pos ej]at h2;exact h2
  rw[if_neg ei]at h1;rw[if_neg ej]at h2;exact I.od i j id ((gJ.1 hi).resolve_right (fun e=>ei (lB.1 e))) ((gJ.1 hj).resolve_right (fun e=>ej (lB.1 e))) hne h1 h2
 ·intro i id hi hid
  by_cases ei:i=n
  ·rw[if_pos ei]at hid;exact hid.elim
  rw[if_neg ei]at hid
  have:=I.ob i id ((gJ.1 hi).resolve_right (fun e=>ei (lB.1 e))) hid
  have:=hkp.2.1
  show id<hh.length
  omega
 ·intro i ai hi hai hl
  obtain⟨h2,h3,h4⟩:=unl i hi hl
  have q6:=(late i ai h2 hai h4).1
  refine DV (st:=F) (fun s hs=>?_) q6
  exact slot s fun e=>hm1 i n ai _ dM h2 hn.nN hn.nu hai hmm hmd (e▸(by simp[AI.sls,hs]))
def GB{α:Type}:List α→Nat→Option α
 |[],_=>none
 |x::_,0=>some x
 |_::r,n+1=>GB r n
theorem pA{α:Type}:∀(l:List α) (n:Nat),GB l n=l[n]?
 |[],n=>by simp[GB]
 |x::r,0=>rfl
 |x::r,n+1=>by simpa[GB] using pA r n
noncomputable def MB(ext:Ext)(al:List AI)(os:List Oper)(kT:St→Tr):List Bool→List (List Bool×Nat)→List Bool→St→Tr
 |_,[],m,st=>iX (iW ext) (lJ m al) st kT
 |v,(m,n)::r,mE,st=>iX (iW ext) (lJ m al) st fun st1=>match GB al n with
  |some mm=>mZ (mm.op.isApp&&(nog mm.guard&&(isS mm.dst&&HY st1 (oR st1 mm.op) (lJ (vK (pP v m) (IV os n n)) al)))) (iR ext st1 (fun x h'=>MB ext al os kT (pP (pP v m) (mH n)) r mE ⟨lU st1.t mm.dst x,h'⟩) mm.op)
  |none=>.fail
def uH(ops:Array Oper)(al:List AI)(N:Nat):List Bool→List (List Bool×Nat)→List Bool→Prop
 |v,[],m=>vE ops al N v m∧∀i,i<N→gE (pP v m) i
 |v,(m,n)::r,mE=>vE ops al N v m∧AD ops al N (pP v m) n∧uH ops al N (pP (pP v m) (mH n)) r mE
theorem LZ(hext:bH P G ext)(hok:sO ops al N)(hal:eE P ops ops.toList=some al){kT:St→Tr}{K:X→St→Prop}{Q:Exit→Act→World→Prop}
  (hT:∀st' a w β R,(kT st').holds P G K→hZ G β R st' a w→Gr β0 R0 w0 β R w→wpList P ops Q (ops.toList.drop N) a w) :
  ∀(r:List (List Bool×Nat)) (v mE:List Bool) (st:St) (own:Nat→Nat→Prop) (listed:Array Bool) (a:Act) (w:World) (β:Bt) (R:Nat→Prop),uH ops al N v r mE→(MB ext al ops.toList kT v r mE st).holds P G K→IZ P G ops al N ext v st own β0 R0 w0 listed a w β R→(∀i ai,gE v i→al[i]?=some ai→listed.getD i false=false→kY st ai.op=true)→wpAny P .any ops Q (rJ listed N+(ops.size-N)) listed a w
 |[],v,mE,st,own,listed,a,w,β,R,hS,h,I,hl=>by
  obtain⟨hst,hall⟩:=hS
  obtain⟨S,h0,hk0,hstep⟩:=mK hext (lJ mE al) st (fun ai hai=>by
   obtain⟨q,hq⟩:=eU.1 hai;obtain⟨j,h1,h2,_⟩:=nP hq
   exact hst.hd j ai h1 h2) h
  have hr:CI P G ext (lJ mE al) (lJ mE al).length S:=⟨aW _,fun i ai _ ha=>hstep i ai ha⟩
  obtain⟨own',I'⟩:=uK hok hst h0 rfl hr I hl;exact aPC hext hok hal hall (fun j hj=>by rcases gJ.1 hj with h|h;exact hst.vlt j h;exact hst.mlt j h) (fun a w β R s1 s2=>hT _ a w β R hk0 s1 s2) _ listed a w β R rfl I'
 |(m,n)::r,v,mE,st,own,listed,a,w,β,R,hS,h,I,hl=>by
  obtain⟨hst,hn,hS⟩:=hS
  obtain⟨S,h0,hk0,hstep⟩:=mK hext (lJ m al) st (fun ai hai=>by
   obtain⟨q,hq⟩:=eU.1 hai;obtain⟨j,h1,h2,_⟩:=nP hq
   exact hst.hd j ai h1 h2) h
  have hr:CI P G ext (lJ m al) (lJ m al).length S:=⟨aW _,fun i ai _ ha=>hstep i ai ha⟩
  obtain⟨own',I'⟩:=uK hok hst h0 rfl hr I hl
  have hul:∀j,gE (pP v m) j→j<N:=fun j hj=>by rcases gJ.1 hj with h|h;exact hst.vlt j h;exact hst.mlt j h
  rw[pA]at hk0;split at hk0
  case h_2=>exact hk0.elim
  rename_i mm hmm;obtain⟨c1,hk⟩:=bX hk0;simp only[aO]at c1;obtain⟨c1,c2,c3,c4⟩:=c1
  have hmg:mm.guard=none:=by
   cases hg:mm.guard with
   |none=>rfl
   |some _=>rw[hg]at c2;cases c2
  obtain⟨dM,hmd⟩:∃d,mm.dst=some d:=by
   cases hg:mm.dst with
   |some d=>exact⟨d,rfl⟩
   |none=>rw[hg]at c3;cases c3
  refine aJ2 hext hok hal hn hul ?_ _ listed a w β R rfl I';intro listed a w β R o ho hrdy I2 hch hrd
  rw[hmm]at hrd;refine aIF hext hok hal hn hul hmm c1 hmg hmd (fun i j x y d hi hj hnj=>hst.m1 i j x y d (gJ.1 hi) hj (fun e=>hnj (gJ.2 e))) c4 (kk:=fun st'=>MB ext al ops.toList kT (pP (pP v m) (mH n)) r mE st') hk ho hrdy I2 hch hrd ?_;intro st' own'' a' w' β' R' hk' I3 hl3
  have hns:n<ops.size:=(bL.1 ho).1
  obtain⟨q1,_⟩:=mem_ready.1 hrdy
  have hc:=oH (listed:=listed) (i:=n) (by rw[I2.inv.size];exact hns) (getD_both q1) hn.nN
  rw[show rJ listed N-1=rJ (listed.setIfInBounds n true) N by omega];exact LZ hext hok hal hT r _ mE st' own'' _ a' w' β' R' hS hk' I3 hl3
theorem QQ(hext:bH P G ext){id:Nat}(hm:P.follows .mixedOrders=true)(hal:eE P ops ops.toList=some al)(hok:sO ops al N){r:List (List Bool×Nat)}{m:List Bool}(hS:uH ops al N [] r m){st:St}{kT:St→Tr}{K:X→St→Prop}
  (h:(MB ext al ops.toList kT [] r m st).holds P G K) {Q:Exit→Act→World→Prop} {a:Act} {w:World} (hs:hZ G β R st a w)
  (hT:∀st' a' w' β' R',(kT st').holds P G K→hZ G β' R' st' a' w'→Gr β R w β' R' w'→wpList P ops Q (ops.toList.drop N) a' w'):(Code.region id ops true).wp P Q a w:=by
 refine wp_region_any hm ?_;obtain⟨hs',hg⟩:=hs.drawn (w.drawn+1)
 have no:∀i,¬gE [] i:=fun i h=>by cases i<;>cases h
 have key:=LZ (β0:=β) (R0:=R) (w0:=w) (Q:=Q) hext hok hal hT r [] m st (fun _ _=>False) (Array.replicate ops.size false) a { w with drawn:=w.drawn+1 } β R hS h ⟨⟨by simp,fun j oj _ hl=>(by rw[getD_replicate_false]at hl;cases hl),fun t _ ht=>getD_in (by simpa using ht) (getD_replicate_false _ _)⟩,fun i _ _=>getD_replicate_false _ _,⟨hg,hs'.hs,hs.df,by have:=hs'.tm.length;simpa using this.symm,fun s u hu _=>?_,fun i hi=>absurd hi (no i)⟩,fun i ai hi=>absurd hi (no i),fun i j id hi=>absurd hi (no i),fun i id hi=>absurd hi (no i)⟩ (fun i ai hi=>absurd hi (no i))
 ·rwa [uY hok.le,show N+(ops.size-N)=ops.size by have:=hok.le;omega]at key
 ·have hv:=bR (x:=.tmp s) hs' rfl
  have e:a.eval (.tmp s)=u:=by show a.tmps.getD s undef=u;simp[hu]
  rw[e]at hv;exact hv
theorem jY.regz{ext:Ext}(hext:bH P G ext){rid:Nat}(hm:P.follows .mixedOrders=true)(hal:eE P ops ops.toList=some al)(hok:sO ops al N){r:List (List Bool×Nat)}{m:List Bool}(hS:uH ops al N [] r m){st:St}{K1:X→St→Prop}
  (hh:(MB ext al ops.toList (fun s=>iX ext (al.drop N) s fun s'=>.done .normal s') [] r m st).holds P G K1):jY P G (.raw (.region rid ops true)) st K1:=by
 refine jY.raw fun β R a w hs=>?_
 refine QQ hext hm hal hok hS hh hs ?_;intro st' a' w' β' R' hk hs' hg
 exact kI hext (ops.toList.drop N) (al.drop N) st' a' w' β' R' (oQ N hal) hk hs' (fun a2 w2 β2 R2 st2 q1 q2 q3=>⟨β2,R2,st2,q1,q2,(hg.trans q3).toFr,(hg.trans q3).rm⟩)
def nA:Nat→(Nat→Bool)→Bool
 |0,_=>true
 |n+1,f=>f n&&nA n f
theorem kE{f:Nat→Bool}:∀ {n:Nat},nA n f=true→∀i,i<n→f i=true
 |n+1,h,i,hi=>by
  simp only[nA,aO]at h
  by_cases e:i=n
  ·subst e;exact h.1
  ·exact kE h.2 i (by omega)
def EH(d:Option Nat)(l:List Nat):Bool:=match d with
 |some a=>l.any fun b=>cA a b
 |none=>false
theorem xW{d:Nat}{l:List Nat}:EH (some d) l=true↔d∈l:=by
 unfold EH;rw[List.any_eq_true];exact⟨fun⟨x,h1,h2⟩=>by rw[aR h2];exact h1,fun h=>⟨d,h,Nat.beq_refl d⟩⟩
def aIT:Option Nat→Option Nat→Bool
 |some a,some b=>cA a b
 |_,_=>false
def zX(al:List AI)(i:Nat):Option Nat:=match GB al i with
 |some x=>x.dst
 |none=>none
def DD(al:List AI)(i:Nat):List Nat:=match GB al i with
 |some x=>x.sls
 |none=>[]
theorem yO{al:List AI}{i:Nat}{x:AI}(h:al[i]?=some x):zX al i=x.dst:=by unfold zX;rw[pA,h]
theorem JL{al:List AI}{i:Nat}{x:AI}(h:al[i]?=some x):DD al i=x.sls:=by unfold DD;rw[pA,h]
def WP(os:List Oper)(i:Nat):Bool:=match GB os i with
 |some o=>o.after.toList.all fun e => !fV .any e||Nat.blt e.on i
 |none=>true
def aB0(ops:Array Oper)(al:List AI)(N:Nat):Bool:=
 nA ops.size (WP ops.toList)&&(nA N (fun i=>nA N fun j=>cA i j || !aIT (zX al i) (zX al j))&&(nA N (fun i=>nA N fun j => !EH (zX al j) (DD al i)||cV .any ops i j) &&
 (nA N (fun i=>eI ops.size N||cV .any ops N i)&&(nA ops.size (fun t=>eI t N||cV .any ops t (t-1))&&(cA (fF al) ops.size&&eI N ops.size)))))
theorem aFC(h:aB0 ops al N=true):sO ops al N:=by
 unfold aB0 at h;simp only[aO]at h;obtain⟨h1,h2,h3,h4,h5,h6,h7⟩:=h;refine⟨fun i o ho e he hb=>?_,fun i j x y d hx hy hi hj hij hd hd'=>?_,fun i j x y d hx hy hi hj hd hs=>?_,fun i hi hN=>?_,fun t ht hts=>?_,by rw[←eH];exact aR h6,iE h7⟩
 ·have:=kE h1 i (bL.1 ho).1
  unfold WP at this;rw[pA,show ops.toList[i]?=some o by simpa using ho]at this
  have:=fL.1 this e (by simpa using he)
  rw[hb]at this;simpa using this
 ·have:=kE (kE h2 i hi) j hj
  rw[yO hx,yO hy,hd,hd']at this
  have e1:cA i j=false:=by
   cases hq:cA i j with
   |false=>rfl
   |true=>exact absurd (aR hq) hij
  rw[e1]at this;simp[aIT]at this
 ·have:=kE (kE h3 i hi) j hj
  rw[JL hx,yO hy,hd,xW.2 hs]at this;simpa using this
 ·have:=kE h4 i hi
  rw[show eI ops.size N=false by
   cases hq:eI ops.size N with
   |false=>rfl
   |true=>have:=iE hq;omega]at this
  exact⟨N,hi,aW _,by simpa using this⟩
 ·have:=kE h5 t hts
  rw[show eI t N=false by
   cases hq:eI t N with
   |false=>rfl
   |true=>have:=iE hq;omega]at this
  simpa using this
def hdO(al:List AI)(i:Nat):Bool:=match GB al i with
 |some x=>x.op.hd
 |none=>true
def yZ(al:List AI)(N:Nat)(v m:List Bool):Bool:=
 eI (fF v) N&&(eI (fF m) N&&(nA N (fun i => !(bF false m i&&bF false v i))&&(nA N (fun i => !bF false m i||hdO al i) &&
 (nA N (fun i=>nA N fun j => !(bF false (pP v m) i)||(bF false (pP v m) j || !EH (zX al j) (DD al i)))&&nA N (fun i=>nA N fun j => !(bF false v i)||(bF false v j || !EH (zX al j) (DD al i)))))))
theorem KQ{m:List Bool}{i:Nat}(h:gE m i):i<fF m:=by rw[eH];exact aC8 h
theorem xG{v m:List Bool}(h:yZ al N v m=true):vE ops al N v m:=by
 unfold yZ at h;simp only[aO]at h;obtain⟨h1,h2,h3,h4,h5,h6⟩:=h
 have h1:=iE h1
 have h2:=iE h2
 have hm:∀i,gE m i→i<N:=fun i hi=>by have:=KQ hi;omega
 have hv:∀i,gE v i→i<N:=fun i hi=>by have:=KQ hi;omega
 have key:∀ {u:List Bool},(∀i,gE u i→i<N)→nA N (fun i=>nA N fun j => !(bF false u i)||(bF false u j || !EH (zX al j) (DD al i)))=true→∀i j x y d,gE u i→j<N→¬gE u j→al[i]?=some x→al[j]?=some y→y.dst=some d→d ∉ x.sls:=by
  intro u hu hq i j x y d hi hj hnj hx hy hd hmem
  have:=kE (kE hq i (hu i hi)) j hj
  rw[show bF false u i=true from hi,show bF false u j=false by simpa[gE] using hnj,JL hx,yO hy,hd,xW.2 hmem]at this;simp at this
 refine⟨hm,hv,fun i hi hvi=>?_,fun i ai hi hai=>?_,fun i j x y d hi hj hnj=>key (fun i hi=>by rcases gJ.1 hi with h|h;exact hv i h;exact hm i h) h5 i j x y d (gJ.2 hi) hj (fun e=>hnj (gJ.1 e)),key hv h6⟩
 ·have:=kE h3 i (hm i hi)
  rw[show bF false m i=true from hi,show bF false v i=true from hvi]at this;simp at this
 ·have:=kE h4 i (hm i hi)
  rw[show bF false m i=true from hi]at this;unfold hdO at this;rw[pA,hai]at this;simpa using this
def aCC(ops:Array Oper)(N:Nat)(u:List Bool)(n:Nat):Bool:=
 Nat.blt n N&&(!(bF false u n)&&nA N (fun i=>bF false u i||(cA i n || !nA i (fun j=>bF false u j || !cV .any ops i j))))
theorem yS{f:Nat→Bool}:∀ {n:Nat},nA n f=false→∃i,i<n∧f i=false
 |0,h=>by cases h
 |n+1,h=>by
  simp only[nA,Bool.and_eq_false_iff]at h
  rcases h with h|h
  ·exact⟨n,by omega,h⟩
  ·obtain⟨i,h1,h2⟩:=yS h
   exact⟨i,by omega,h2⟩
theorem aH6{u:List Bool}{n:Nat}(h:aCC ops N u n=true):AD ops al N u n:=by
 unfold aCC at h;simp only[aO]at h;obtain⟨h1,h2,h3⟩:=h;refine⟨by simpa using h1,fun e=>(by rw[show bF false u n=true from e]at h2;cases h2),fun i hi hu hne=>?_⟩
 have:=kE h3 i hi
 have e1:cA i n=false:=by
  cases hq:cA i n with
  |false=>rfl
  |true=>exact absurd (aR hq) hne
 rw[show bF false u i=false by simpa[gE] using hu,e1]at this;simp only[Bool.false_or,eP]at this;obtain⟨j,h4,h5⟩:=yS this;simp only[Bool.or_eq_false_iff,gA]at h5;exact⟨j,h4,fun e=>(by rw[show bF false u j=true from e]at h5;cases h5.1),h5.2⟩
def xF(ops:Array Oper)(al:List AI)(N:Nat):List Bool→List (List Bool×Nat)→List Bool→Bool
 |v,[],m=>yZ al N v m&&nA N (bF false (pP v m))
 |v,(m,n)::r,mE=>yZ al N v m&&(aCC ops N (pP v m) n&&xF ops al N (pP (pP v m) (mH n)) r mE)
theorem GR:∀ {r:List (List Bool×Nat)} {v mE:List Bool},xF ops al N v r mE=true→uH ops al N v r mE
 |[],v,mE,h=>by
  simp only[xF,aO]at h;exact⟨xG h.1,fun i hi=>kE h.2 i hi⟩
 |(m,n)::r,v,mE,h=>by
  simp only[xF,aO]at h;exact⟨xG h.1,aH6 h.2.1,GR h.2.2⟩
end
noncomputable def UO:Array Oper:=JQ (bF .skip (cW aB Try.f54) 2)
noncomputable def aN3:List AI:=match eE aB UO UO.toList with
 |some al=>al
 |none=>[]
noncomputable def UN:Array Oper:=JQ (bF .skip (eX (inr (bF .skip (gR (cW aB gT) 3) 2))) 5)
noncomputable def aN2:List AI:=match eE aB UN UN.toList with
 |some al=>al
 |none=>[]
theorem aSC(M:List Pg)(p:Pg):dC eW (dH 2 (cW aB Try.f54)) (nH Try.f54 [.a [.p (bY aI 7 M)],.a [.p (.i .i64 p.kd),.p (.s p.ru),.p (.i .i64 p.ve),.p (bY aN 2 p.L),.p (.i .i64 p.st),.p (.i .i64 p.se),.p (.s p.to)]]) (iA (eZ 15 [2,3,4,5]) (bI aB Try.f54))=Tr.done X.normal
 (bS 15 [(2,.c (.ptr 0 0)),(3,.c (.ptr 1 0)),(4,.c (.ptr 2 0)),(5,.c (.p (.z (bA none 0 0))))] [.cells 27 [.p (.l 7 M.length (aE aI M))],.cells 31 [.p (.i .i64 p.kd),.p (.s p.ru),.p (.i .i64 p.ve),.p (.l 2 p.L.length (aE aN p.L)),.p (.i .i64 p.st),.p (.i .i64 p.se),.p (.s p.to)],.cells 27 [.p (.z (bA none 0 0))]]):=by kernel_rfl
theorem aSB(M:List Pg)(p:Pg):MB eW aN3 UO.toList (fun s=>iX eW (aN3.drop 7) s fun s'=>.done .normal s') [] [([true,true,true,false,true,true],3),([],6)] [] (bS 15 [(2,.c (.ptr 0 0)),(3,.c (.ptr 1 0)),(4,.c (.ptr 2 0)),(5,.c (.p (.z (.slice none 0 0))))] [.cells 27 [.p (bY aI 7 M)],.cells 31 [.p (.i .i64 p.kd),.p (.s p.ru),.p (.i .i64 p.ve),.p (bY aN 2 p.L),.p (.i .i64 p.st),.p (.i .i64 p.se),.p (.s p.to)],.cells 27 [.p (.z (.slice none 0 0))]])=Tr.rq ((0+M.length)*88≤140737488355328∧0+M.length≤140737488355328∧∀(e o:Nat),e<M.length→o<7→iH (C.p (aE aI M e o))=true)
  (Tr.rq (0+M.length=0+M.length)
   (Tr.rq (1≤1)
    (Tr.rq
     ((0+M.length+1)*88≤140737488355328 ∧
       0+M.length+1≤140737488355328 ∧
        ∀(e o:Nat),
         e<1 →
          o<7 →
           iH
             (lM
              [C.p (PV.i aC p.kd),C.p (PV.s p.ru),C.p (PV.i aC p.ve),C.p (PV.l 2 p.L.length (aE aN p.L)),C.p (PV.i aC p.st),C.p (PV.i aC p.se),
               C.p (PV.s p.to)]
              7 1 (e+0) o) =
            true)
     (Tr.done X.normal
      (bS 15 [(2,V.c (C.ptr 0 0)),(3,V.c (C.ptr 1 0)),(4,V.c (C.ptr 2 0)),(5,V.c (C.sl 5 7 0 (0+M.length+1))),(6,V.c (C.p (PV.z (bA none 0 0)))),(7,V.c (C.ptr 0 0)),(8,V.c (C.p (PV.l 7 M.length (aE aI M)))),(9,V.c (C.sl 4 7 0 (0+M.length))),(10,V.a [C.p (PV.i aC p.kd),C.p (PV.s p.ru),C.p (PV.i aC p.ve),C.p (PV.l 2 p.L.length (aE aN p.L)),C.p (PV.i aC p.st),C.p (PV.i aC p.se),C.p (PV.s p.to)]),(11,V.c (C.sl 3 7 0 1)),(12,V.c (C.sl 5 7 0 (0+M.length+1)))] [AO.cells 27 [C.p (PV.l 7 M.length (aE aI M))],AO.cells 31 [C.p (PV.i aC p.kd),C.p (PV.s p.ru),C.p (PV.i aC p.ve),C.p (PV.l 2 p.L.length (aE aN p.L)),C.p (PV.i aC p.st),C.p (PV.i aC p.se),C.p (PV.s p.to)],AO.cells 27 [C.p (PV.z (bA none 0 0))],AO.row 31 7 1 fun e o=>bF C.top [C.p (PV.i aC p.kd),C.p (PV.s p.ru),C.p (PV.i aC p.ve),C.p (PV.l 2 p.L.length (aE aN p.L)),C.p (PV.i aC p.st),C.p (PV.i aC p.se),C.p (PV.s p.to)] (e*7+o),AO.gone,AO.row 31 7 (0+M.length+1) (fC (0+M.length) (fC 0 (fun x x_1=>C.top) fun e o=>C.p (aE aI M e o)) fun e o=>bF C.top [C.p (PV.i aC p.kd),C.p (PV.s p.ru),C.p (PV.i aC p.ve),C.p (PV.l 2 p.L.length (aE aN p.L)),C.p (PV.i aC p.st),C.p (PV.i aC p.se),C.p (PV.s p.to)] ((e+0)*7+o))]))))):=by kernel_rfl
theorem aQ1(A out:List Int)(k i j:Nat):MB eW aN2 UN.toList (fun s=>iX eW (aN2.drop 15) s fun s'=>.done .normal s') [] [([true,true,true,true,false,true,true,true,true,true,false,true,true,true,false],4),([],10),([],14)] [] (bS 62 [(0,aU aS 1 A),(3,.c (.sl 0 1 0 k)),(4,iV (i:Nat)),(5,iV (j:Nat)),(6,.c (.p (.z (.slice none 0 0))))] [.row 3 1 k (aQ aS out)])=Tr.rq (0≤(↑0:Int)∧(↑0:Int)≤(↑j:Int)∧(↑j:Int)≤(↑k:Int))
  (Tr.rq (0≤(↑i:Int)∧(↑i:Int)<(↑A.length:Int))
   (Tr.rq (0≤(↑j:Int)∧(↑j:Int)≤(↑k:Int)∧(↑k:Int)≤(↑k:Int))
    (Tr.rq (0+((↑j:Int).toNat-0)≤k)
     (Tr.rq
      ((0+((↑j:Int).toNat-0))*8≤140737488355328∧0+((↑j:Int).toNat-0)≤140737488355328∧∀(e o:Nat),e<(↑j:Int).toNat-0→o<1→iH (aQ aS out (e+0) o)=true)
      (Tr.rq (0+((↑j:Int).toNat-0)=0+((↑j:Int).toNat-0))
       (Tr.rq (1≤1)
        (Tr.rq
         ((0+((↑j:Int).toNat-0)+1)*8≤140737488355328 ∧
           0+((↑j:Int).toNat-0)+1≤140737488355328∧∀(e o:Nat),e<1→o<1→iH (lM [C.p (PV.i aC (A.getD (↑i:Int).toNat default))] 1 1 (e+0) o)=true)
         (Tr.rq (0+((↑j:Int).toNat-0)+1=0+((↑j:Int).toNat-0)+1)
          (Tr.rq (0+(↑j:Int).toNat+((↑k:Int).toNat-(↑j:Int).toNat)≤k)
           (Tr.rq
            ((0+((↑j:Int).toNat-0)+1+((↑k:Int).toNat-(↑j:Int).toNat))*8≤140737488355328 ∧
              0+((↑j:Int).toNat-0)+1+((↑k:Int).toNat-(↑j:Int).toNat)≤140737488355328 ∧
               ∀(e o:Nat),e<(↑k:Int).toNat-(↑j:Int).toNat→o<1→iH (aQ aS out (e+(0+(↑j:Int).toNat)) o)=true)
            (Tr.done X.normal
             (bS 62 [(0,V.c (C.p (PV.l 1 A.length (aE aS A)))),(3,V.c (C.sl 0 1 0 k)),(4,V.c (C.p (PV.i aC (↑i:Int)))),(5,V.c (C.p (PV.i aC (↑j:Int)))),(6,V.c (C.sl 4 1 0 (0+((↑j:Int).toNat-(↑0:Int).toNat)+1+((↑k:Int).toNat-(↑j:Int).toNat)))),(45,V.c (C.p (PV.z (bA none 0 0)))),(46,V.c (C.sl 0 1 0 k)),(47,V.c (C.p (PV.i aC (↑j:Int)))),(48,V.c (C.sl 0 1 0 ((↑j:Int).toNat-(↑0:Int).toNat))),(49,V.c (C.sl 2 1 0 (0+((↑j:Int).toNat-(↑0:Int).toNat)))),(50,V.c (C.p (PV.l 1 A.length (aE aS A)))),(51,V.c (C.p (PV.i aC (↑i:Int)))),(52,V.c (C.lp 1 A.length (aE aS A) (↑i:Int).toNat 0)),(53,V.c (C.p (PV.i aC (A.getD (↑i:Int).toNat default)))),(54,V.c (C.sl 1 1 0 1)),(55,V.c (C.sl 3 1 0 (0+((↑j:Int).toNat-(↑0:Int).toNat)+1))),(56,V.c (C.sl 0 1 0 k)),(57,V.c (C.p (PV.i aC (↑j:Int)))),(58,V.c (C.sl 0 1 (0+(↑j:Int).toNat) ((↑k:Int).toNat-(↑j:Int).toNat))),(59,V.c (C.sl 4 1 0 (0+((↑j:Int).toNat-(↑0:Int).toNat)+1+((↑k:Int).toNat-(↑j:Int).toNat))))] [AO.row 3 1 k (aQ aS out),AO.row 3 1 1 fun e o=>bF C.top [C.p (PV.i aC (A.getD (↑i:Int).toNat default))] (e*1+o),AO.gone,AO.gone,AO.row 3 1 (0+((↑j:Int).toNat-(↑0:Int).toNat)+1+((↑k:Int).toNat-(↑j:Int).toNat)) (fC (0+((↑j:Int).toNat-0)+1) (fC (0+((↑j:Int).toNat-0)) (fC 0 (fun x x_1=>C.top) fun e o=>aQ aS out (e+0) o) fun e o=>bF C.top [C.p (PV.i aC (A.getD (↑i:Int).toNat default))] ((e+0)*1+o)) fun e o=>aQ aS out (e+(0+(↑j:Int).toNat)) o)])))))))))))):=by kernel_rfl
theorem aSA(M:List Pg)(n:Nat):dC eW (bJ 3 (cW aB Try.f54)) (bS 15 [(4,.c (.ptr 0 0)),(5,.c (.sl 1 7 0 n))] [.cells 27 [.p (.z (.slice none 0 0))],.row 31 7 n (aQ aI M)]) (iA [] (bI aB Try.f54))=Tr.rq (0+n≤n∧∀(e o:Nat),e<n→o<7→BA (aQ aI M (e+0) o)=true) (.done .ret (St.mk [V.a [C.p (PV.l 7 n fun e o=>mI (aQ aI M (e+0) o))]] [])):=by kernel_rfl
theorem tS1(A:List Int):dC eW (dH 3 (cW aB gT)) (nH gT [aU aS 1 A]) (iA (eZ 62 [0,3,4]) (bI aB gT))=Tr.done X.normal
 (bS 62 [(0,.c (.p (.l 1 A.length (aE aS A)))),(3,.c (.p (.z (bA none 0 0)))),(4,.c (.p (.i .i64 0)))] []):=by kernel_rfl
theorem tS2(A out:List Int)(k i:Nat):dC eW (dH 2 (gR (cW aB gT) 3)) (bS 62 [(0,aU aS 1 A),(3,.c (.sl 0 1 0 k)),(4,iV (i:Nat))] [.row 3 1 k (aQ aS out)]) (iA (eZ 62 [0,3,4]) (bI aB gT))=bT (decide ((↑i:Int)<(↑A.length:Int)))
 (.done .normal
 (bS 62 [(0,.c (.p (.l 1 A.length (aE aS A)))),(3,.c (.sl 0 1 0 k)),(4,.c (.p (.i .i64 (↑i:Int))))] [.row 3 1 k fun e o=>bP [0] (aQ aS out e o)]))
 (.done (.exit 0)
 (bS 62 [(0,.c (.p (.l 1 A.length (aE aS A)))),(3,.c (.sl 0 1 0 k)),(4,.c (.p (.i .i64 (↑i:Int))))] [.row 3 1 k fun e o=>bP [0] (aQ aS out e o)])):=by kernel_rfl
theorem tS3(A out:List Int)(k i:Nat):dC eW (dH 1 (eX (inr (bF .skip (gR (cW aB gT) 3) 2)))) (bS 62 [(0,aU aS 1 A),(3,.c (.sl 0 1 0 k)),(4,iV (i:Nat))] [.row 3 1 k (aQ aS out)]) (iA (eZ 62 [0,3,4,5]) (bI aB gT))=Tr.done X.normal
 (bS 62 [(0,.c (.p (.l 1 A.length (aE aS A)))),(3,.c (.sl 0 1 0 k)),(4,.c (.p (.i .i64 (↑i:Int)))),(5,.c (.p (.i .i64 (↑k:Int))))] [.row 3 1 k fun e o=>bP [0] (aQ aS out e o)]):=by kernel_rfl
theorem tS4(A out:List Int)(k i j:Nat):dC eW (gR (eX (inr (bF .skip (gR (cW aB gT) 3) 2))) 1) (bS 62 [(0,aU aS 1 A),(3,.c (.sl 0 1 0 k)),(4,iV (i:Nat)),(5,iV (j:Nat))] [.row 3 1 k (aQ aS out)]) (iA (eZ 62 [0,3,4,5]) (bI aB gT))=bT (decide (0<(↑j:Int)))
 (.rq (eV aC ((↑j:Int)-1))
 (.rq (0≤(↑j:Int)-1∧(↑j:Int)-1<(↑k:Int))
 (.rq (((↑j:Int)-1).toNat+0<k)
 (.rq (0≤(↑i:Int)∧(↑i:Int)<(↑A.length:Int))
 (bT (decide (A.getD (↑i:Int).toNat default<out.getD (((↑j:Int)-1).toNat+0) default))
 (.rq (eV aC ((↑j:Int)-1))
 (.done .normal
 (bS 62 [(0,.c (.p (.l 1 A.length (aE aS A)))),(3,.c (.sl 0 1 0 k)),(4,.c (.p (.i .i64 (↑i:Int)))),(5,.c (.p (.i .i64 ((↑j:Int)-1))))] [.row 3 1 k fun e o=>bP [0] (aQ aS out e o)])))
 (.done (.exit 2)
 (bS 62 [(0,.c (.p (.l 1 A.length (aE aS A)))),(3,.c (.sl 0 1 0 k)),(4,.c (.p (.i .i64 (↑i:Int)))),(5,.c (.p (.i .i64 (↑j:Int))))] [.row 3 1 k fun e o=>bP [0] (aQ aS out e o)])))))))
 (.done (.exit 2)
 (bS 62 [(0,.c (.p (.l 1 A.length (aE aS A)))),(3,.c (.sl 0 1 0 k)),(4,.c (.p (.i .i64 (↑i:Int)))),(5,.c (.p (.i .i64 (↑j:Int))))] [.row 3 1 k fun e o=>bP [0] (aQ aS out e o)])):=by kernel_rfl
theorem tS5(A out:List Int)(k i j:Nat):dC eW (dH 3 (bJ 2 (eX (inr (bF .skip (gR (cW aB gT) 3) 2))))) (bS 62 [(0,aU aS 1 A),(3,.c (.sl 0 1 0 k)),(4,iV (i:Nat)),(5,iV (j:Nat))] [.row 3 1 k (aQ aS out)]) (iA (eZ 62 [0,3,4,5,6]) (bI aB gT))=bT (decide (0<(↑j:Int)))
 (.rq (eV aC ((↑j:Int)-1))
 (.rq (0≤(↑j:Int)-1∧(↑j:Int)-1<(↑k:Int))
 (.rq (((↑j:Int)-1).toNat+0<k)
 (.rq (0≤(↑i:Int)∧(↑i:Int)<(↑A.length:Int))
 (bT (out.getD (((↑j:Int)-1).toNat+0) default==A.getD (↑i:Int).toNat default)
 (.done (.exit 1)
 (bS 62 [(0,.c (.p (.l 1 A.length (aE aS A)))),(3,.c (.sl 0 1 0 k)),(4,.c (.p (.i .i64 (↑i:Int)))),(5,.c (.p (.i .i64 (↑j:Int))))] [.row 3 1 k fun e o=>bP [0] (aQ aS out e o)]))
 (.done .normal
 (bS 62 [(0,.c (.p (.l 1 A.length (aE aS A)))),(3,.c (.sl 0 1 0 k)),(4,.c (.p (.i .i64 (↑i:Int)))),(5,.c (.p (.i .i64 (↑j:Int)))),(6,.c (.p (.z (bA none 0 0))))] [.row 3 1 k fun e o=>bP [0] (aQ aS out e o)])))))))
 (.done .normal
 (bS 62 [(0,.c (.p (.l 1 A.length (aE aS A)))),(3,.c (.sl 0 1 0 k)),(4,.c (.p (.i .i64 (↑i:Int)))),(5,.c (.p (.i .i64 (↑j:Int)))),(6,.c (.p (.z (bA none 0 0))))] [.row 3 1 k fun e o=>bP [0] (aQ aS out e o)])):=by kernel_rfl
theorem tS6(A out:List Int)(k i:Nat):dC eW (bJ 6 (eX (inr (bF .skip (gR (cW aB gT) 3) 2)))) (bS 62 [(0,aU aS 1 A),(4,iV (i:Nat)),(6,.c (.sl 0 1 0 k))] [.row 3 1 k (aQ aS out)]) (iA (eZ 62 [0,3,4]) (bI aB gT))=Tr.done X.normal
 (bS 62 [(0,.c (.p (.l 1 A.length (aE aS A)))),(3,.c (.sl 0 1 0 k)),(4,.c (.p (.i .i64 (↑i:Int))))] [.row 3 1 k fun e o=>bP [0] (aQ aS out e o)]):=by kernel_rfl
theorem tS7(A out:List Int)(k i:Nat):dC eW (bJ 3 (gR (cW aB gT) 3)) (bS 62 [(0,aU aS 1 A),(3,.c (.sl 0 1 0 k)),(4,iV (i:Nat))] [.row 3 1 k (aQ aS out)]) (iA (eZ 62 [0,3,4]) (bI aB gT))=Tr.rq (eV aC ((↑i:Int)+1))
 (.done .normal
 (bS 62 [(0,.c (.p (.l 1 A.length (aE aS A)))),(3,.c (.sl 0 1 0 k)),(4,.c (.p (.i .i64 ((↑i:Int)+1))))] [.row 3 1 k fun e o=>bP [0] (aQ aS out e o)])):=by kernel_rfl
theorem tS8(A out:List Int)(k i:Nat):dC eW (bJ 4 (cW aB gT)) (bS 62 [(0,aU aS 1 A),(3,.c (.sl 0 1 0 k)),(4,iV (i:Nat))] [.row 3 1 k (aQ aS out)]) (iA [] (bI aB gT))=Tr.rq (0+k≤k∧∀(e o:Nat),e<k→o<1→BA (aQ aS out (e+0) o)=true) (.done .ret (St.mk [V.c (C.p (PV.l 1 k fun e o=>mI (aQ aS out (e+0) o)))] [])):=by kernel_rfl
def leL:V→List Pg→Option Prop
 |.a [c],M=>leP (.c c) M
 |_,_=>none
theorem wL{x:V}{M:List Pg}{p:Prop}(h:leL x M=some p)(hp:p):iF x (.a [.p (bY aI 7 M)]):=by
 unfold leL at h;split at h
 ·rename_i c
  have:=SS h hp
  rintro β R w u ⟨us,rfl,hu⟩;refine⟨us,rfl,?_⟩
  match hus:us.toList,hu with
  |[y],⟨h1,_⟩=>exact⟨this β R w y h1,trivial⟩
 ·cases h
def BL(M:List Pg):V:=.a [.p (bY aI 7 M)]
def VK(M:List Pg):Mod
 |[x,y]=>match leL x M,wC y with
  |some p,some (q,a)=>some ((p∧q)∧M.length≤1000000,BL (M++[a]))
  |_,_=>none
 |_=>none
def mJ(L:List Int):List Int:=kH (iC L)
def aM7:Mod
 |[x]=>match BK x with
  |some (p,A)=>some (p∧A.length≤1000000,aU aS 1 (mJ A))
  |none=>none
 |_=>none
theorem aL3{out:List Int}{x:Int}{j:Nat}(hs:out.Pairwise (· < ·))(hj:j≤out.length)(h1:∀m,j≤m→m<out.length→x<out.getD m default)(h2:j=0∨out.getD (j-1) default<x):(out.take j++([x]++out.drop j)).Pairwise (· < ·):=by
 have hd:∀y∈out.drop j,x<y:=fun y hy=>by
  obtain⟨m,hm,rfl⟩:=fU hy;rw[List.getElem_drop]
  have hm':j+m<out.length:=by rw[List.length_drop]at hm;omega
  have:=h1 (j+m) (by omega) hm'
  simpa[hm'] using this
 have ht:∀y∈out.take j,y<x:=fun y hy=>by
  obtain⟨m,hm,rfl⟩:=fU hy;rw[cU]at hm;rw[List.getElem_take]
  rcases h2 with h2|h2
  ·omega
  ·have hj1:j-1<out.length:=by omega
   have e:out.getD (j-1) default=out[j-1]:=by simp[hj1]
   rw[e]at h2
   by_cases e2:m=j-1
   ·subst e2;exact h2
   ·have:=(dL.1 hs) m (j-1) (by omega) hj1 (by omega)
    omega
 refine List.pairwise_append.2 ⟨hs.sublist (List.take_sublist _ _),?_,fun a ha b hb=>?_⟩
 ·show (x::out.drop j).Pairwise (· < ·)
  exact List.pairwise_cons.2 ⟨hd,hs.sublist (List.drop_sublist _ _)⟩
 ·have q1:=ht a ha
  rcases dF.1 hb with h|h
  ·rw[eN.1 h];exact q1
  ·have:=hd b h;omega
theorem aHS{out:List Int}{x:Int}{j k:Nat}(hk:out.length=k)(hj:j≤k){e o:Nat}(he:e<j+1+(k-j))(ho:o<1) :
  fC (0+(j-0)+1) (fC (0+(j-0)) (fC 0 (fun _ _=>C.top) fun e o=>aQ aS out (e+0) o) fun e o=>bF C.top [C.p (PV.i aC x)] ((e+0)*1+o)) (fun e o=>aQ aS out (e+(0+j)) o) e o=aQ aS (out.take j++([x]++out.drop j)) e o:=by
 obtain rfl:o=0:=by omega
 have rc:∀(L:List Int) (e o:Nat),aQ aS L e o=.p (.i .i64 (L.getD e default)):=fun _ _ _=>rfl
 unfold fC;rw[rc]
 have ht:(out.take j).length=j:=by rw[cU];omega
 by_cases h1:e<j
 ·rw[if_pos (by omega),if_pos (by omega),if_neg (by omega)]
  dsimp only;rw[rc];congr 2;rw[aD,aD,cD (by omega),List.getElem?_take,if_pos h1];rfl
 ·by_cases h2:e=j
  ·subst h2
   rw[if_pos (by omega),if_neg (by omega)];dsimp only
   have:(e-(0+(e-0))+0)*1+0=0:=by omega
   rw[this]
   show C.p _=C.p _
   congr 2;rw[aD,cR (by omega),ht,Nat.sub_self];rfl
  ·rw[if_neg (by omega)]
   dsimp only;rw[rc];congr 2;rw[aD,aD,cR (by omega),ht,cR (by simp;omega),List.getElem?_drop];congr 2;simp;omega
section
variable {G:Nat→Option Obj}
theorem eJ.raw{P:Program}{rs:List AR}{v:V}{ext:Ext}(hext:bH P G ext){rid:Nat}{ops:Array Oper}{al:List AI}{N:Nat}(hm:P.follows .mixedOrders=true)(hal:eE P ops ops.toList=some al)(hok:aB0 ops al N=true){r:List (List Bool×Nat)}{m:List Bool}(hS:xF ops al N [] r m=true){l r':List dG}{st:St}{Q:X→St→Prop}(hl:l=.raw (.region rid ops true)::r'){tree:Tr}
  (ht:MB ext al ops.toList (fun s=>iX ext (al.drop N) s fun s'=>.done .normal s') [] r m st=tree) (h:tree.holds P G fun e s=>e=.normal∧eJ P G rs v r' s Q):eJ P G rs v l st Q:=by
 subst hl;subst ht;refine jY.mono (jY.regz hext hm hal (aFC hok) (GR hS) h) ?_;rintro e s ⟨rfl,h⟩;exact h
set_option maxRecDepth 100000 in
theorem aC2(M:List Pg):iO aB G 54 (VK M):=by
 intro args p v hm hp h;unfold VK at hm
 split at hm;rotate_left;· cases hm
 split at hm;rotate_left;· cases hm
 rename_i x y _ _ p1 p2 a hx hy;obtain⟨rfl,rfl⟩:=eM hm;obtain⟨⟨hA,hB⟩,hlen⟩:=hp;refine jN.args (args':=[BL M,uO a]) ?_ (.cons (wL hx hA) (.cons (lZ hy hB) .nil));clear hm hx hy hA hB
 refine pW Try.func54 (by kernel_rfl) rfl ?_ h
 refine eJ.evG aX 2 (aSC M a) ?_;simp only[bZ,bB,aL,cG];refine⟨?_⟩
 refine eJ.raw (ext:=eW) (N:=7) (al:=aN3) (ops:=UO) (rid:=2) (r':=bJ 3 (cW aB Try.f54)) aX (by kernel_rfl) (by kernel_rfl) (by kernel_rfl) (by kernel_rfl) (by kernel_rfl) (aSB M a) ?_
 simp only[bZ,bB,aL]
 have one:∀(e o:Nat),e<M.length→o<7→iH (C.p (aE aI M e o))=true:=fun e o he ho=>by
  have:o=0∨o=1∨o=2∨o=3∨o=4∨o=5∨o=6:=by omega
  rcases this with rfl|rfl|rfl|rfl|rfl|rfl|rfl<;>rfl
 have one2:∀(e o:Nat),e<1→o<7→iH (lM [C.p (.i .i64 a.kd),C.p (.s a.ru),C.p (.i .i64 a.ve),C.p (.l 2 a.L.length (aE aN a.L)),C.p (.i .i64 a.st),C.p (.i .i64 a.se),C.p (.s a.to)] 7 1 (e+0) o)=true:=fun e o he ho=>by
  obtain rfl:e=0:=by omega
  have:o=0∨o=1∨o=2∨o=3∨o=4∨o=5∨o=6:=by omega
  rcases this with rfl|rfl|rfl|rfl|rfl|rfl|rfl<;>rfl
 refine⟨⟨by omega,by omega,one⟩,trivial,aW _,⟨by omega,by omega,one2⟩,⟨trivial,?_⟩⟩;refine eJ.pre (fG (eZ 15 [4,5]) _) (eJ.pre (st2:=bS 15 [(4,.c (.ptr 0 0)),(5,.c (.sl 1 7 0 (M.length+1)))] [.cells 27 [.p (.z (.slice none 0 0))],.row 31 7 (M.length+1) (aQ aI (M++[a]))]) ?_ ?_)
 ·refine(aJ (st':=bS 15 [(4,.c (.ptr 0 0)),(5,.c (.sl 1 7 0 (0+M.length+1)))] [.cells 27 [.p (.z (.slice none 0 0))],.row 31 7 (0+M.length+1) fun e o=>bP [2,5] (fC (0+M.length) (fC 0 (fun _ _=>C.top) fun e o=>C.p (aE aI M e o)) (fun e o=>bF C.top [C.p (.i .i64 a.kd),C.p (.s a.ru),C.p (.i .i64 a.ve),C.p (bY aN 2 a.L),C.p (.i .i64 a.st),C.p (.i .i64 a.se),C.p (.s a.to)] ((e+0)*7+o)) e o)]) (by kernel_rfl)).trans ?_
  rw[show 0+M.length+1=M.length+1 by omega];refine iG ⟨rfl,⟨rfl,rfl,rfl,fun e o he ho=>?_⟩,trivial⟩
  have:=oT (enc:=aI) (ρ:=[2,5]) (L:=M) (n:=M.length) (sz:=7) (x:=a) (g:=fun e o=>bF C.top [C.p (.i .i64 a.kd),C.p (.s a.ru),C.p (.i .i64 a.ve),C.p (bY aN 2 a.L),C.p (.i .i64 a.st),C.p (.i .i64 a.se),C.p (.s a.to)] ((e+0)*7+o)) rfl (HA a.kd a.ve a.st a.se a.ru a.to a.L) he ho
  rw[←this];rw[show 0+M.length=M.length by omega];congr 1
 ·have hl:(M++[a]).length=M.length+1:=by simp
  rw[←hl];refine eJ.evH aX (aSA (M++[a]) (M++[a]).length) ?_;simp only[bB,aL,fI];exact⟨⟨by omega,fun _ _ _ _=>rfl⟩,⟨iF.refl _⟩⟩
set_option maxRecDepth 100000 in
theorem aIX:iO aB G 52 aM7:=by
 intro args p v hm hp h;unfold aM7 at hm
 split at hm;rotate_left;· cases hm
 split at hm;rotate_left;· cases hm
 rename_i x _ q A hx;obtain⟨rfl,rfl⟩:=eM hm;obtain⟨hA,hlen⟩:=hp;refine jN.args (args':=[aU aS 1 A]) ?_ (.cons (oG hx hA) .nil);clear hA hm hx
 refine pW Try.func52 (by kernel_rfl) rfl ?_ h
 refine eJ.evG aX 3 (tS1 A) ?_;simp only[bZ,aL,fI,cG];refine⟨?_⟩
 have sl:∀i,(mJ (A.take i)).length≤i:=fun i=>by
  have h1:=nF (iC (A.take i))
  rw[kB,cU]at h1;unfold mJ;omega
 refine eJ.loop' (l:=bJ 3 (cW aB gT)) (b:=inr (inr (bF .skip (cW aB gT) 3))) (r:=bJ 4 (cW aB gT)) (id:=0) (by kernel_rfl) (σ:=Nat)
   (fun i=>(fun out k=>bS 62 [(0,aU aS 1 A),(3,.c (.sl 0 1 0 k)),(4,iV (i:Nat))] [.row 3 1 k (aQ aS out)]) (mJ (A.take i)) (mJ (A.take i)).length) (fun i=>i≤A.length) (fun i=>A.length-i) 0 (bW _) ((lT 3 1 (aQ aS []) 3 (by kernel_rfl)).trans ?_) ?_
 ·have e:mJ (A.take 0)=[]:=List.eq_nil_of_length_eq_zero (by have:=sl 0;omega)
  rw[e]
  exact aJ (by kernel_rfl)
 intro i hi Q1 q1n q1e _
 obtain⟨out,hout⟩:∃out,out=mJ (A.take i):=⟨_,rfl⟩
 have hol:=sl i
 rw[←hout]at hol ⊢
 have hlt:=qD (A.take i)
 have hmem:=oJ (A.take i)
 change (mJ (A.take i)).Pairwise _ at hlt
 change ∀t,t∈mJ (A.take i)↔_ at hmem
 rw[←hout]at hlt hmem;refine eJ.evG aX 2 (tS2 A out out.length i) ?_;simp only[bZ,aL,cG,jQ,decide_eq_true_eq,decide_eq_false_iff_not];refine⟨fun h1=>⟨?_⟩,fun h1=>⟨q1e _ ?_⟩⟩
 ·have hlA:i<A.length:=by omega
  have hts:=sR hlA
  have fin:∀st out' k',out'=mJ (A.take (i+1))→k'=out'.length→cQ G st ((fun out k=>bS 62 [(0,aU aS 1 A),(3,.c (.sl 0 1 0 k)),(4,iV (i:Nat))] [.row 3 1 k (aQ aS out)]) out' k')→eJ aB G (bI aB gT) (aU aS 1 (mJ A)) (bJ 3 (gR (cW aB gT) 3)) st Q1:=fun st out' k' ho hk hw=>by
   subst hk;refine eJ.pre hw (eJ.evH aX (tS7 A out' out'.length i) ?_);simp only[bB,aL,cG,eV];refine⟨by omega,⟨q1n (i+1) _ (by omega) (by omega) ?_⟩⟩;subst ho
   exact aJ (by kernel_rfl)
  refine eJ.blk' (l:=bJ 2 (gR (cW aB gT) 3)) (id:=1) (a:=inr (bF .skip (gR (cW aB gT) 3) 2)) (r:=bJ 3 (gR (cW aB gT) 3)) (by kernel_rfl) ?_
  intro Q2 q2n q2e _;refine eJ.evG aX 1 (tS3 A out out.length i) ?_;simp only[aL,cG];refine⟨?_⟩
  obtain⟨x,hx⟩:∃x,x=A.getD i default:=⟨_,rfl⟩
  refine eJ.loop' (l:=bJ 1 (eX (inr (bF .skip (gR (cW aB gT) 3) 2)))) (b:=inr (inr (bF .skip (eX (inr (bF .skip (gR (cW aB gT) 3) 2))) 1))) (r:=bJ 2 (eX (inr (bF .skip (gR (cW aB gT) 3) 2)))) (id:=2) (by kernel_rfl) (σ:=Nat)
    (fun j=>(fun k=>bS 62 [(0,aU aS 1 A),(3,.c (.sl 0 1 0 k)),(4,iV (i:Nat)),(5,iV (j:Nat))] [.row 3 1 k (aQ aS out)]) out.length) (fun j=>j≤out.length∧∀m,j≤m→m<out.length→x<out.getD m default) (fun j=>j) out.length ⟨aW _,fun m h1 h2=>by omega⟩ (aJ (by kernel_rfl)) ?_
  rintro j ⟨hj,hgt⟩ Q3 q3n q3e -
  have after:(j=0∨¬x<out.getD (j-1) default)→∀st,cQ G st ((fun k=>bS 62 [(0,aU aS 1 A),(3,.c (.sl 0 1 0 k)),(4,iV (i:Nat)),(5,iV (j:Nat))] [.row 3 1 k (aQ aS out)]) out.length)→eJ aB G (bI aB gT) (aU aS 1 (mJ A)) (bJ 2 (eX (inr (bF .skip (gR (cW aB gT) 3) 2)))) st Q2:=by
   intro hq st hw;refine eJ.pre hw (eJ.evG aX 3 (tS5 A out out.length i j) ?_);simp only[bZ,bB,aL,cG,jQ,decide_eq_true_eq,decide_eq_false_iff_not,beq_iff_eq,beq_eq_false_iff_ne,ne_eq,eV,show (↑i:Int).toNat=i from rfl,Nat.add_zero]
   have ej:((j:Int)-1).toNat=j-1:=by omega
   rw[ej,←hx]
   have raw:(j=0∨out.getD (j-1) default<x)→∀st,cQ G st ((fun k=>bS 62 [(0,aU aS 1 A),(3,.c (.sl 0 1 0 k)),(4,iV (i:Nat)),(5,iV (j:Nat)),(6,.c (.p (.z (.slice none 0 0))))] [.row 3 1 k (aQ aS out)]) out.length)→eJ aB G (bI aB gT) (aU aS 1 (mJ A)) (bJ 3 (bJ 2 (eX (inr (bF .skip (gR (cW aB gT) 3) 2))))) st Q2:=by
    intro hq2 st hw
    refine eJ.pre hw (eJ.raw (ext:=eW) (N:=15) (al:=aN2) (ops:=UN) (rid:=10) (r':=bJ 6 (eX (inr (bF .skip (gR (cW aB gT) 3) 2)))) aX (by kernel_rfl) (by kernel_rfl) (by kernel_rfl) (by kernel_rfl) (by kernel_rfl) (aQ1 A out out.length i j) ?_)
    simp only[bZ,bB,aL]
    have e1:(j:Int).toNat=j:=rfl
    have e2:(out.length:Int).toNat=out.length:=rfl
    rw[e1,e2];refine⟨⟨by decide,by omega,by omega⟩,⟨by omega,by omega⟩,⟨by omega,by omega,by omega⟩,by omega,⟨by omega,by omega,fun _ _ _ _=>rfl⟩,trivial,aW _,⟨by omega,by omega,fun e o he ho=>?_⟩,trivial,by omega,⟨by omega,by omega,fun _ _ _ _=>rfl⟩,⟨trivial,?_⟩⟩
    ·obtain rfl:e=0:=by omega
     obtain rfl:o=0:=by omega
     rfl
    have hnew:out.take j++([x]++out.drop j)=mJ (A.take (i+1)):=by
     refine pX (aL3 hlt hj hgt hq2) (qD _) fun t=>?_
     show _↔t∈kH (iC (A.take (i+1)))
     rw[oJ,hts,dF,dF (s:=A.take i),←hmem,←hx,←gS j out,dF,dF];simp only[gS];constructor
     ·rintro (h|h|h)
      ·exact .inl (.inl h)
      ·exact .inr h
      ·exact .inl (.inr h)
     ·rintro ((h|h)|h)
      ·exact .inl h
      ·exact .inr (.inr h)
      ·exact .inr (.inl h)
    have hnl:(out.take j++([x]++out.drop j)).length=j+1+(out.length-j):=by simp;omega
    refine eJ.pre (fG (eZ 62 [0,4,6]) _) (eJ.pre (st2:=(fun out k=>bS 62 [(0,aU aS 1 A),(4,iV (i:Nat)),(6,.c (.sl 0 1 0 k))] [.row 3 1 k (aQ aS out)]) (out.take j++([x]++out.drop j)) (j+1+(out.length-j))) ?_ ?_)
    ·refine(aJ (st':=bS 62 [(0,aU aS 1 A),(4,iV (i:Nat)),(6,.c (.sl 0 1 0 (0+(j-0)+1+(out.length-j))))] [.row 3 1 (0+(j-0)+1+(out.length-j)) fun e o=>bP [4] (fC (0+(j-0)+1) (fC (0+(j-0)) (fC 0 (fun _ _=>C.top) fun e o=>aQ aS out (e+0) o) fun e o=>bF C.top [C.p (PV.i aC (A.getD i default))] ((e+0)*1+o)) (fun e o=>aQ aS out (e+(0+j)) o) e o)]) (by kernel_rfl)).trans ?_
     rw[show 0+(j-0)+1+(out.length-j)=j+1+(out.length-j) by omega,←hx];refine iG ⟨⟨rfl,rfl,rfl,fun e o he ho=>?_⟩,trivial⟩;exact(congrArg (bP [4]) (aHS rfl hj he ho)).trans rfl
    ·refine eJ.evH aX (tS6 A _ _ i) ?_
     simp only[aL,cG]
     exact⟨q2n _ (fin _ _ _ hnew hnl.symm (aJ (by kernel_rfl)))⟩
   refine⟨fun h2=>⟨by omega,by omega,by omega,by omega,fun h3=>⟨q2e _ (fin _ out _ ?_ rfl ?_)⟩,fun h3=>⟨raw ?_ _ (aJ (by kernel_rfl))⟩⟩,fun h2=>⟨raw (.inl (by omega)) _ (aJ (by kernel_rfl))⟩⟩
   ·refine pX hlt (qD _) fun t=>?_
    show _↔t∈kH (iC (A.take (i+1)))
    rw[oJ,hts,dF,hmem,←hx]
    have hxo:x∈A.take i:=by
     rw[←hmem,←h3];exact rI (by omega)
    constructor
    ·exact fun h=>.inl h
    ·rintro (h|h)
     ·exact h
     ·rw[eN.1 h];exact hxo
   ·exact(fG (eZ 62 [0,3,4]) _).trans (aJ (by kernel_rfl))
   ·rcases hq with h|h
    ·exact .inl h
    ·right;omega
  refine eJ.evH aX (tS4 A out out.length i j) ?_;simp only[bZ,bB,aL,cG,jQ,decide_eq_true_eq,decide_eq_false_iff_not,eV,show (↑i:Int).toNat=i from rfl,Nat.add_zero]
  have ej:((j:Int)-1).toNat=j-1:=by omega
  rw[ej,←hx]
  refine⟨fun h2=>⟨by omega,by omega,by omega,by omega,fun h3=>⟨by omega,⟨q3n (j-1) _ ⟨by omega,fun m hm1 hm2=>?_⟩ (by omega) ?_⟩⟩,fun h3=>⟨q3e _ (after (.inr h3) _ (aJ (by kernel_rfl)))⟩⟩,fun h2=>⟨q3e _ (after (.inl (by omega)) _ (aJ (by kernel_rfl)))⟩⟩
  ·by_cases e:m=j-1
   ·subst e;exact h3
   ·exact hgt m (by omega) hm2
  ·have e:(j:Int)-1=((j-1:Nat):Int):=by omega
   rw[e]
   exact aJ (by kernel_rfl)
 ·obtain rfl:i=A.length:=by omega
  rw[List.take_length]at hout;refine eJ.evH aX (tS8 A out out.length A.length) ?_;simp only[bB,aL,fI];refine⟨⟨by omega,fun _ _ _ _=>rfl⟩,⟨?_⟩⟩;rw[←hout];exact iF.refl _
end
end Go.AE
namespace Go.Proofs.Ytfjihbmehhccoaa
open _root_.Array renaming getElem?_eq_some_iff→bL,toList_inj→fN
open _root_.Bool renaming and_eq_true→aO,not_eq_false'→gA,not_eq_true'→eP,or_eq_true→cC
open _root_.ByteArray renaming mk→aG
open _root_.Int renaming ofNat→dI
open IntKind renaming i64→aC
open _root_.List renaming all_eq_true→fL,drop_eq_getElem_cons→dX,getD_eq_getElem?_getD→aD,getElem?_append_left→cD,getElem?_append_right→cR,getElem?_eq_getElem→aM,getElem?_eq_none→bU,getElem_mem→jI,getElem_of_mem→fU,length_append→aV,length_set→cB,length_take→cU,mem_append→dF,mem_cons→eQ,mem_iff_getElem?→eU,mem_singleton→eN,pairwise_iff_getElem→dL,take_append_drop→gS
open _root_.Nat renaming beq→cA,ble→eI,eq_of_beq_eq_true→aR,le_of_ble_eq_true→iE,le_refl→aW,lt_or_ge→cS,zero_le→bW
open Op renaming bytesLess→cZ
open Region renaming binds→fV,ready→eY,waitsFor→cV,waitsFor_spec→dU
open _root_.Go.Proofs.Try renaming f105→gV,f52→gT,prog→aB
open _root_.UInt8 renaming lt_iff_toNat_lt→gC
open Value renaming slice→bA
theorem JC(a b:ByteArray):(a.toList==b.toList)=true↔a=b:=by
 rw[beq_iff_eq,ByteArray.toList_eq,ByteArray.toList_eq];exact⟨fun h=>ByteArray.ext (fN.mp h),fun h=>by rw[h]⟩
theorem TX(a b:ByteArray):(a.toList==b.toList)=decide (a=b):=by
 rw[Bool.eq_iff_iff,JC,decide_eq_true_iff]
theorem sC:∀ {a b c:List UInt8},cZ a b=true→cZ b c=true→cZ a c=true
 |_,[],_,h,_=>by cases ‹List UInt8› <;> simp[cZ]at h
 |_,_::_,[],_,h=>by simp[cZ]at h
 |[],_::_,_::_,_,_=>by simp[cZ]
 |x::a,y::b,z::c,h,k=>by
  have hx:=gC (a:=x) (b:=y)
  have hy:=gC (a:=y) (b:=z)
  have hz:=gC (a:=x) (b:=z)
  simp only[cZ,cC,decide_eq_true_eq,aO,beq_iff_eq]at h k ⊢
  rcases h with h|⟨rfl,h⟩
  ·rcases k with k|⟨rfl,k⟩
   ·exact .inl (hz.2 (Nat.lt_trans (hx.1 h) (hy.1 k)))
   ·exact .inl h
  ·rcases k with k|⟨rfl,k⟩
   ·exact .inl k
   ·exact .inr ⟨rfl,sC h k⟩
theorem sD:∀ {a b:List UInt8},cZ a b=false→a≠b→cZ b a=true
 |[],[],_,h=>absurd rfl h
 |[],_::_,h,_=>by simp[cZ]at h
 |_::_,[],_,_=>by simp[cZ]
 |x::a,y::b,h,hn=>by
  have hx:=gC (a:=x) (b:=y)
  have hy:=gC (a:=y) (b:=x)
  simp only[cZ,Bool.or_eq_false_iff,decide_eq_false_iff_not,Bool.and_eq_false_iff,beq_eq_false_iff_ne,cC,decide_eq_true_eq,aO,beq_iff_eq]at h ⊢;obtain⟨h1,h2⟩:=h
  by_cases he:x=y
  ·subst he
   rcases h2 with h2|h2
   ·exact absurd rfl h2
   ·exact .inr ⟨rfl,sD h2 fun e=>hn (by rw[e])⟩
  ·refine .inl (hy.2 ?_)
   have h3:x.toNat≠y.toNat:=fun e=>he (UInt8.toNat_inj.1 e)
   have h4:¬x.toNat<y.toNat:=fun e=>h1 (hx.2 e)
   omega
theorem GS{a b c:ByteArray}(h:vG a b=true)(k:vG b c=true):vG a c=true:=sC h k
theorem XF{a b:ByteArray}(h:vG a b=false)(hn:a≠b):vG b a=true:=sD h fun e=>hn (by
 have:=(JC a b).1 (by rw[beq_iff_eq];exact e)
 exact this)
def mN(out:List Lb)(x:Lb):Nat:=(out.takeWhile fun y=>vG y.1 x.1).length
def zI:List Lb→List Lb→List Lb×Int
 |[],out=>(out,0)
 |x::r,out=>
  if jC x.1=false then ([],8)
  else if x.2.toList.isEmpty=true∨jO x.2=false then ([],1)
  else if (out[mN out x]?).any (fun y=>decide (y.1=x.1))=true then ([],10)
  else zI r (out.take (mN out x)++x::out.drop (mN out x))
def lK(L:List Lb):List Lb×Int:=if 8<L.length then ([],4) else zI L []
def rB(L:List Lb):Bool:=decide ((lK L).2=0)&&decide ((lK L).1=L)
def Srt(l:List Lb):Prop:=l.Pairwise fun a b=>vG a.1 b.1=true
theorem sF(out:List Lb)(x:Lb):out.take (mN out x)=out.takeWhile (fun y=>vG y.1 x.1)∧out.drop (mN out x)=out.dropWhile (fun y=>vG y.1 x.1):=by
 have h:=List.takeWhile_append_dropWhile (p:=fun y:Lb=>vG y.1 x.1) (l:=out)
 unfold mN;constructor
 ·have h2:=List.take_left (l₁:=out.takeWhile fun y=>vG y.1 x.1) (l₂:=out.dropWhile fun y=>vG y.1 x.1)
  rwa [h]at h2
 ·have h2:=List.drop_left (l₁:=out.takeWhile fun y=>vG y.1 x.1) (l₂:=out.dropWhile fun y=>vG y.1 x.1)
  rwa [h]at h2
theorem vO{p:Lb→Bool}:∀ {l:List Lb},(∀y∈l,p y=true)→l.takeWhile p=l
 |[],_=>rfl
 |x::l,h=>by
  rw[List.takeWhile_cons,if_pos (h x (List.mem_cons_self ..)),vO fun y hy=>h y (List.mem_cons_of_mem _ hy)]
theorem aF5{out:List Lb}{x:Lb}(h:Srt out)(hx:(out[mN out x]?).any (fun y=>decide (y.1=x.1))≠true):Srt (out.take (mN out x)++x::out.drop (mN out x)):=by
 have hs:=h
 rw[←gS (mN out x) out]at hs;unfold Srt at hs ⊢;rw[List.pairwise_append]at hs ⊢;obtain⟨h1,h2,h3⟩:=hs
 have hA:∀a∈out.take (mN out x),vG a.1 x.1=true:=by
  rw[(sF out x).1];intro a ha
  exact fL.1 List.all_takeWhile a ha
 have hB:∀b∈out.drop (mN out x),vG x.1 b.1=true:=by
  cases hd:out.drop (mN out x) with
  |nil=>intro b hb;cases hb
  |cons b r=>
   have hb0:out[mN out x]?=some b:=by
    have:=congrArg (·[0]?) hd
    simpa using this
   have hne:b.1≠x.1:=by
    rw[hb0]at hx;simpa using hx
   have hlt:vG b.1 x.1=false:=by
    have h5:=(sF out x).2
    rw[hd]at h5
    have:=List.head?_dropWhile_not (fun y:Lb=>vG y.1 x.1) out
    rw[←h5]at this;simpa using this
   have hb:=XF hlt hne
   rw[hd]at h2;intro y hy
   rcases eQ.1 hy with rfl|hy
   ·exact hb
   ·exact GS hb ((List.pairwise_cons.1 h2).1 y hy)
 refine⟨h1,List.pairwise_cons.2 ⟨hB,h2⟩,?_⟩;intro a ha b hb
 rcases eQ.1 hb with rfl|hb
 ·exact hA a ha
 ·exact h3 a ha b hb
theorem VC:∀ {xs out s:List Lb},zI xs out=(s,0)→Srt out→Srt s∧∀x∈xs,jC x.1=true∧x.2.toList.isEmpty=false∧jO x.2=true
 |[],out,s,h,hs=>by
  simp only[zI,Prod.mk.injEq]at h;exact⟨h.1▸hs,fun _ hx=>by cases hx⟩
 |x::r,out,s,h,hs=>by
  unfold zI at h;split at h
  ·simp at h
  ·rename_i h1
   split at h
   ·simp at h
   ·rename_i h2
    split at h
    ·simp at h
    ·rename_i h3
     obtain⟨q1,q2⟩:=VC h (aF5 hs h3);refine⟨q1,fun y hy=>?_⟩
     rcases eQ.1 hy with rfl|hy
     ·simp only[not_or,Bool.not_eq_true,Bool.not_eq_false]at h1 h2
      exact⟨h1,h2⟩
     ·exact q2 y hy
theorem aBJ{L:List Lb}{i:Nat}(hv:lO (fun k=>L.getD k default) L.length=true)(hi:i<L.length):jC (L.getD i default).1=true∧(L.getD i default).2.toList.isEmpty=false∧jO (L.getD i default).2=true∧(0<i→vG (L.getD (i-1) default).1 (L.getD i default).1=true):=by
 unfold lO at hv;rw[aO,zF]at hv
 have:=hv.2 i hi
 unfold okl at this;simp only[aO,cC,decide_eq_true_eq,eP]at this;obtain⟨⟨⟨h1,h2⟩,h3⟩,h4⟩:=this;refine⟨h1,h2,h3,fun h0=>?_⟩
 rcases h4 with h4|h4
 ·omega
 ·exact h4
theorem LR{L:List Lb}(hv:lO (fun k=>L.getD k default) L.length=true):∀(i j:Nat),j<i→i<L.length→vG (L.getD j default).1 (L.getD i default).1=true
 |0,_,h,_=>by omega
 |i+1,j,h,hi=>by
  have h1:=(aBJ hv hi).2.2.2 (by omega)
  simp only[Nat.add_sub_cancel]at h1
  by_cases hj:j=i
  ·subst hj;exact h1
  ·exact GS (LR hv i j (by omega) (by omega)) h1
theorem EF{L:List Lb}(hv:lO (fun k=>L.getD k default) L.length=true):∀(m i:Nat),i+m=L.length→zI (L.drop i) (L.take i)=(L,0)
 |0,i,h=>by
  rw[List.drop_of_length_le (by omega),List.take_of_length_le (by omega)];rfl
 |m+1,i,h=>by
  have hi:i<L.length:=by omega
  rw[dX hi];obtain⟨h1,h2,h3,_⟩:=aBJ hv hi
  have hx:L.getD i default=L[i]:=by simp[hi]
  rw[hx]at h1 h2 h3
  have hall:∀y∈L.take i,vG y.1 L[i].1=true:=by
   intro y hy;obtain⟨j,hj,rfl⟩:=fU hy
   have hj':j<i:=by simp at hj;omega
   have:=LR hv i j hj' hi
   rw[hx]at this
   have e:L.getD j default=L[j]'(by omega):=by simp[show j<L.length by omega]
   rw[e]at this;rw[List.getElem_take];exact this
  have hk:mN (L.take i) L[i]=i:=by
   unfold mN;rw[vO hall];simp;omega
  have hn:(L.take i)[i]?=none:=by rw[bU];simp;omega
  unfold zI;rw[if_neg (by simp[h1]),if_neg (by simp[h2,h3]),hk,hn,if_neg (by simp)]
  have e:(L.take i).take i++L[i]::(L.take i).drop i=L.take (i+1):=by
   rw[List.take_take,Nat.min_self,List.drop_of_length_le (by simp;omega),List.take_add_one];simp[hi]
  rw[e];exact EF hv m (i+1) (by omega)
theorem MH(L:List Lb):rB L=lO (fun k=>L.getD k default) L.length:=by
 rw[Bool.eq_iff_iff];unfold rB;rw[aO,decide_eq_true_iff,decide_eq_true_iff];constructor
 ·rintro⟨h1,h2⟩
  unfold lK at h1 h2;split at h1
  ·cases h1
  ·rename_i h8
   rw[if_neg h8]at h2
   have h3:zI L []=(L,0):=Prod.ext h2 h1
   obtain⟨q1,q2⟩:=VC h3 List.Pairwise.nil;unfold lO;rw[aO,zF,decide_eq_true_iff];refine⟨by omega,fun k hk=>?_⟩
   have e:L.getD k default=L[k]:=by simp[hk]
   obtain⟨a1,a2,a3⟩:=q2 L[k] (jI hk);unfold okl;simp only[aO,cC,decide_eq_true_eq,eP];rw[e];refine⟨⟨⟨a1,a2⟩,a3⟩,?_⟩
   by_cases h0:k=0
   ·exact .inl h0
   ·refine .inr ?_
    have e':L.getD (k-1) default=L[k-1]'(by omega):=by simp[show k-1<L.length by omega]
    rw[e'];exact dL.1 q1 (k-1) k (by omega) hk (by omega)
 ·intro hv
  have h8:¬8<L.length:=by
   unfold lO at hv;rw[aO,decide_eq_true_iff]at hv;omega
  have:=EF hv L.length 0 (by omega)
  unfold lK;rw[if_neg h8];simp at this;rw[this];exact⟨rfl,rfl⟩
end Go.Proofs.Ytfjihbmehhccoaa
namespace Go.AE
open _root_.Array renaming getElem?_eq_some_iff→bL,toList_inj→fN
open _root_.Bool renaming and_eq_true→aO,not_eq_false'→gA,not_eq_true'→eP,or_eq_true→cC
open _root_.ByteArray renaming mk→aG
open _root_.Int renaming ofNat→dI
open IntKind renaming i64→aC
open _root_.List renaming all_eq_true→fL,drop_eq_getElem_cons→dX,getD_eq_getElem?_getD→aD,getElem?_append_left→cD,getElem?_append_right→cR,getElem?_eq_getElem→aM,getElem?_eq_none→bU,getElem_mem→jI,getElem_of_mem→fU,length_append→aV,length_set→cB,length_take→cU,mem_append→dF,mem_cons→eQ,mem_iff_getElem?→eU,mem_singleton→eN,pairwise_iff_getElem→dL,take_append_drop→gS
open _root_.Nat renaming beq→cA,ble→eI,eq_of_beq_eq_true→aR,le_of_ble_eq_true→iE,le_refl→aW,lt_or_ge→cS,zero_le→bW
open Op renaming bytesLess→cZ
open Region renaming binds→fV,ready→eY,waitsFor→cV,waitsFor_spec→dU
open _root_.Go.Proofs.Try renaming f105→gV,f52→gT,prog→aB
open _root_.UInt8 renaming lt_iff_toNat_lt→gC
open Value renaming slice→bA
open Go.Proofs Go.Proofs.Ytfjihbmehhccoaa
def VH:Mod
 |[.c (.p (.s s))]=>some (True,bV (jC s))
 |_=>none
def RZ:Mod
 |[.c (.p (.s s))]=>some (True,bV (jO s))
 |_=>none
def aPB:Ext:=jV [(104,KB)]
theorem aF2(n:Int):FH eW (kM aB Try.f104) (nH Try.f104 [.c (.p (.i .u8 n))]) (lL [] [] (bI aB Try.f104))=bT (decide (97≤n)) (.done .ret (St.mk [V.c (C.p (PV.b (decide (n≤122))))] [])) (.done .ret (St.mk [V.c (C.p (PV.b false))] [])):=by kernel_rfl
theorem aKU(s:ByteArray):dC eW (dH 4 (cW aB Try.f79)) (nH Try.f79 [sV s]) (lL [] (eZ 48 [0,3]) (bI aB Try.f79))=bT (decide ((↑s.size:Int)<1)) (.done .ret (St.mk [V.c (C.p (PV.b false))] []))
 (bT (decide (16<(↑s.size:Int))) (.done .ret (St.mk [V.c (C.p (PV.b false))] []))
 (.done .normal
 (bS 48 [(0,.c (.p (.s s))),(3,.c (.p (.i .i64 0)))] []))):=by kernel_rfl
theorem aKT(s:ByteArray)(i:Int):dC aPB (gR (cW aB Try.f79) 4) (bS 48 [(0,sV s),(3,iV i)] []) (lL [] (eZ 48 [0,3]) (bI aB Try.f79))=bT (decide (i<(↑s.size:Int)))
 (.rq (0≤i∧i<(↑s.size:Int))
 (bT (decide (48≤kN s i.toNat))
 (.rq (0≤i∧i<(↑s.size:Int))
 (bT (decide (kN s i.toNat≤57))
 (.rq (0≤i∧i<(↑s.size:Int))
 (.rq True
 (bT (!qN (kN s i.toNat))
 (bT (i==0) (.done .ret (St.mk [V.c (C.p (PV.b false))] []))
 (.rq (eV aC (i+1))
 (.done .normal
 (bS 48 [(0,.c (.p (.s s))),(3,.c (.p (.i .i64 (i+1))))] []))))
 (.rq (eV aC (i+1))
 (.done .normal
 (bS 48 [(0,.c (.p (.s s))),(3,.c (.p (.i .i64 (i+1))))] []))))))
 (.rq (0≤i∧i<(↑s.size:Int))
 (.rq (0≤i∧i<(↑s.size:Int))
 (.rq True
 (bT (!qN (kN s i.toNat))
 (bT (i==0) (.done .ret (St.mk [V.c (C.p (PV.b false))] []))
 (bT (!kN s i.toNat==95) (.done .ret (St.mk [V.c (C.p (PV.b false))] []))
 (.rq (eV aC (i+1))
 (.done .normal
 (bS 48 [(0,.c (.p (.s s))),(3,.c (.p (.i .i64 (i+1))))] [])))))
 (.rq (eV aC (i+1))
 (.done .normal
 (bS 48 [(0,.c (.p (.s s))),(3,.c (.p (.i .i64 (i+1))))] [])))))))))
 (.rq (0≤i∧i<(↑s.size:Int))
 (.rq (0≤i∧i<(↑s.size:Int))
 (.rq True
 (bT (!qN (kN s i.toNat))
 (bT (i==0) (.done .ret (St.mk [V.c (C.p (PV.b false))] []))
 (bT (!kN s i.toNat==95) (.done .ret (St.mk [V.c (C.p (PV.b false))] []))
 (.rq (eV aC (i+1))
 (.done .normal
 (bS 48 [(0,.c (.p (.s s))),(3,.c (.p (.i .i64 (i+1))))] [])))))
 (.rq (eV aC (i+1))
 (.done .normal
 (bS 48 [(0,.c (.p (.s s))),(3,.c (.p (.i .i64 (i+1))))] [])))))))))
 (.done (.exit 0)
 (bS 48 [(0,.c (.p (.s s))),(3,.c (.p (.i .i64 i)))] [])):=by kernel_rfl
theorem aKS(s:ByteArray)(i:Int):dC eW (bJ 5 (cW aB Try.f79)) (bS 48 [(0,sV s),(3,iV i)] []) (lL [] [] (bI aB Try.f79))=Tr.done X.ret (St.mk [V.c (C.p (PV.b true))] []):=by kernel_rfl
theorem aF1(s:ByteArray):dC eW (dH 4 (cW aB Try.f114)) (nH Try.f114 [sV s]) (lL [] (eZ 43 [0,3]) (bI aB Try.f114))=bT (decide (16<(↑s.size:Int))) (.done .ret (St.mk [V.c (C.p (PV.b false))] []))
 (.done .normal
 (bS 43 [(0,.c (.p (.s s))),(3,.c (.p (.i .i64 0)))] [])):=by kernel_rfl
theorem aF0(s:ByteArray)(i:Int):dC eW (gR (cW aB Try.f114) 4) (bS 43 [(0,sV s),(3,iV i)] []) (lL [] (eZ 43 [0,3]) (bI aB Try.f114))=bT (decide (i<(↑s.size:Int)))
 (.rq (0≤i∧i<(↑s.size:Int))
 (bT (decide (kN s i.toNat<33)) (.done .ret (St.mk [V.c (C.p (PV.b false))] []))
 (bT (decide (126<kN s i.toNat)) (.done .ret (St.mk [V.c (C.p (PV.b false))] []))
 (bT (kN s i.toNat==34) (.done .ret (St.mk [V.c (C.p (PV.b false))] []))
 (bT (kN s i.toNat==92) (.done .ret (St.mk [V.c (C.p (PV.b false))] []))
 (bT (kN s i.toNat==44) (.done .ret (St.mk [V.c (C.p (PV.b false))] []))
 (bT (kN s i.toNat==123) (.done .ret (St.mk [V.c (C.p (PV.b false))] []))
 (bT (kN s i.toNat==125) (.done .ret (St.mk [V.c (C.p (PV.b false))] []))
 (.rq (eV aC (i+1))
 (.done .normal
 (bS 43 [(0,.c (.p (.s s))),(3,.c (.p (.i .i64 (i+1))))] [])))))))))))
 (.done (.exit 0)
 (bS 43 [(0,.c (.p (.s s))),(3,.c (.p (.i .i64 i)))] [])):=by kernel_rfl
theorem aEZ(s:ByteArray)(i:Int):dC eW (bJ 5 (cW aB Try.f114)) (bS 43 [(0,sV s),(3,iV i)] []) (lL [] [] (bI aB Try.f114))=Tr.done X.ret (St.mk [V.c (C.p (PV.b true))] []):=by kernel_rfl
theorem IY(s:ByteArray)(k:Nat):kN s k=PlainAid.bt s k:=by
 unfold kN PlainAid.bt;split
 ·rename_i h
  have h':k<s.data.toList.length:=by simpa using h
  rw[aD,aM h'];simp[ByteArray.getElem_eq_getElem_data]
 ·rename_i h
  have h':s.data.toList.length≤k:=by simpa using h
  rw[aD,bU h'];rfl
section
variable {G:Nat→Option Obj}
theorem aBT:iO aB G 104 KB:=by
 intro args p v hm hp h;unfold KB at hm;split at hm
 ·rename_i n
  injection hm with hm;injection hm with e1 e2;subst e1;subst e2
  refine GF aX Try.func104 (by kernel_rfl) rfl (aF2 n) ?_ h
  simp only[bZ,bB,iD,KF];refine⟨fun h1=>?_,fun h1=>?_⟩
  ·refine⟨_,rfl,iF.of_eq ?_⟩
   unfold qN;rw[h1];rfl
  ·refine⟨_,rfl,iF.of_eq ?_⟩
   unfold qN;rw[h1];rfl
 ·cases hm
theorem TL:bH aB G aPB:=dY (by simp;exact aBT)
theorem UR(k:Nat)(c:Int):okc k c=true↔(97≤c∧c≤122)∨(k≠0∧(c=95∨(48≤c∧c≤57))):=by simp[okc]
theorem UQ(c:Int):okv c=true↔33≤c∧c≤126∧c≠34∧c≠92∧c≠44∧c≠123∧c≠125:=by
 simp[okv];omega
theorem NC(c:Int):qN c=true↔97≤c∧c≤122:=by simp[qN]
set_option maxRecDepth 100000 in
theorem aBS:iO aB G 79 VH:=by
 intro args p v hm hp h;unfold VH at hm;split at hm
 ·rename_i s
  injection hm with hm;injection hm with e1 e2;subst e1;subst e2
  refine pW Try.func79 (by kernel_rfl) rfl ?_ h
  refine eJ.ev aX 4 [] (eZ 48 [0,3]) rfl (aKU s) ?_;simp only[bZ,iD,fI,cG];refine⟨fun h1=>iF.of_eq ?_,fun h1=>⟨fun h2=>iF.of_eq ?_,fun h2=>?_⟩⟩
  ·have h1:((s.size:Nat):Int)<1:=by simpa using h1
   have:jC s=false:=by unfold jC;rw[decide_eq_false (by omega)];rfl
   rw[this];rfl
  ·have h2:(16:Int)<s.size:=by simpa using h2
   have:jC s=false:=by unfold jC;rw[decide_eq_false (show ¬s.size≤16 by omega),Bool.and_false];rfl
   rw[this];rfl
  ·have h1:¬((s.size:Nat):Int)<1:=by simpa using h1
   have h2:¬(16:Int)<s.size:=by simpa using h2
   refine eJ.loop (l:=bJ 4 (cW aB Try.f79)) (b:=inr (inr (bF .skip (cW aB Try.f79) 4))) (r:=bJ 5 (cW aB Try.f79)) (id:=0) (by kernel_rfl)
     (fun i:Int=>bS 48 [(0,sV s),(3,iV i)] []) (fun i=>0≤i∧i≤s.size∧GA (PlainAid.bt s) i.toNat=true) (fun i=>(s.size-i).toNat) 0 ⟨by omega,by omega,rfl⟩ (aJ (by kernel_rfl)) ?_
   rintro i ⟨i0,i1,hi⟩;refine eJ.evA TL [] (eZ 48 [0,3]) rfl (aKT s i) ?_
   have hb:=IY s i.toNat
   generalize kN s i.toNat=c at hb
   have hsucc:(i+1).toNat=i.toNat+1:=by omega
   have bad:i<s.size→¬((97≤c∧c≤122)∨(i.toNat≠0∧(c=95∨(48≤c∧c≤57))))→iF (V.c (C.p (PV.b false))) (bV (jC s)):=fun hlt hc=>by
    rw[uR (k:=i.toNat) (by omega) (by rw[←hb,←Bool.not_eq_true,UR];exact hc)];exact iF.refl _
   have good:i<s.size→((97≤c∧c≤122)∨(i.toNat≠0∧(c=95∨(48≤c∧c≤57))))→∃s':Int,(0≤s'∧s'≤s.size∧GA (PlainAid.bt s) s'.toNat=true)∧(s.size-s').toNat<(s.size-i).toNat∧cQ G (bS 48 [(0,V.c (C.p (PV.s s))),(3,V.c (C.p (PV.i .i64 (i+1))))] []) (bS 48 [(0,sV s),(3,iV s')] []):=fun hlt hc=>
    ⟨i+1,⟨by omega,by omega,by rw[hsucc,uP,hi,←hb,(UR _ _).2 hc];rfl⟩,by omega,aJ (by kernel_rfl)⟩
   have after:¬i<s.size→eJ aB G (bI aB Try.f79) (bV (jC s)) (bJ 5 (cW aB Try.f79)) (bS 48 [(0,V.c (C.p (PV.s s))),(3,V.c (C.p (PV.i .i64 i)))] []) (fun _ _=>False):=fun hlt=>by
    refine eJ.evA aX [] [] rfl (aKS s i) ?_
    have:jC s=true:=by
     obtain rfl:i=s.size:=by omega
     unfold jC;rw[decide_eq_true (by omega),decide_eq_true (show s.size≤16 by omega)];simpa using hi
    simp only[iD,fI];rw[this];exact iF.refl _
   simp only[bZ,bB,aL,fI,cG,jQ,decide_eq_true_eq,decide_eq_false_iff_not,eP,gA,beq_iff_eq,beq_eq_false_iff_ne,NC,←Bool.not_eq_true,eV,if_true]
   repeat' (first|apply And.intro|intro _)
   all_goals first|trivial|(clear bad good after;omega)|exact⟨after ‹_›⟩|exact⟨bad ‹_› (by clear bad good after;omega)⟩|exact⟨good ‹_› (by clear bad good after;omega)⟩
 ·cases hm
set_option maxRecDepth 100000 in
theorem aGJ:iO aB G 114 RZ:=by
 intro args p v hm hp h;unfold RZ at hm;split at hm
 ·rename_i s
  injection hm with hm;injection hm with e1 e2;subst e1;subst e2
  refine pW Try.func114 (by kernel_rfl) rfl ?_ h
  refine eJ.ev aX 4 [] (eZ 43 [0,3]) rfl (aF1 s) ?_;simp only[bZ,iD,fI,cG];refine⟨fun h2=>iF.of_eq ?_,fun h2=>?_⟩
  ·have h2:(16:Int)<s.size:=by simpa using h2
   have:jO s=false:=by unfold jO;rw[decide_eq_false (show ¬s.size≤16 by omega)];rfl
   rw[this];rfl
  ·have h2:¬(16:Int)<s.size:=by simpa using h2
   refine eJ.loop (l:=bJ 4 (cW aB Try.f114)) (b:=inr (inr (bF .skip (cW aB Try.f114) 4))) (r:=bJ 5 (cW aB Try.f114)) (id:=0) (by kernel_rfl)
     (fun i:Int=>bS 43 [(0,sV s),(3,iV i)] []) (fun i=>0≤i∧i≤s.size∧vR (PlainAid.bt s) i.toNat=true) (fun i=>(s.size-i).toNat) 0 ⟨by omega,by omega,rfl⟩ (aJ (by kernel_rfl)) ?_
   rintro i ⟨i0,i1,hi⟩;refine eJ.evA aX [] (eZ 43 [0,3]) rfl (aF0 s i) ?_
   have hb:=IY s i.toNat
   generalize kN s i.toNat=c at hb
   have hsucc:(i+1).toNat=i.toNat+1:=by omega
   have bad:i<s.size→¬(33≤c∧c≤126∧c≠34∧c≠92∧c≠44∧c≠123∧c≠125)→iF (V.c (C.p (PV.b false))) (bV (jO s)):=fun hlt hc=>by
    rw[rM (k:=i.toNat) (by omega) (by rw[←hb,←Bool.not_eq_true,UQ];exact hc)];exact iF.refl _
   have good:i<s.size→(33≤c∧c≤126∧c≠34∧c≠92∧c≠44∧c≠123∧c≠125)→∃s':Int,(0≤s'∧s'≤s.size∧vR (PlainAid.bt s) s'.toNat=true)∧(s.size-s').toNat<(s.size-i).toNat∧cQ G (bS 43 [(0,V.c (C.p (PV.s s))),(3,V.c (C.p (PV.i .i64 (i+1))))] []) (bS 43 [(0,sV s),(3,iV s')] []):=fun hlt hc=>
    ⟨i+1,⟨by omega,by omega,by rw[hsucc,DY,hi,←hb,(UQ _).2 hc];rfl⟩,by omega,aJ (by kernel_rfl)⟩
   have after:¬i<s.size→eJ aB G (bI aB Try.f114) (bV (jO s)) (bJ 5 (cW aB Try.f114)) (bS 43 [(0,V.c (C.p (PV.s s))),(3,V.c (C.p (PV.i .i64 i)))] []) (fun _ _=>False):=fun hlt=>by
    refine eJ.evA aX [] [] rfl (aEZ s i) ?_
    have:jO s=true:=by
     obtain rfl:i=s.size:=by omega
     unfold jO;rw[decide_eq_true (show s.size≤16 by omega)];simpa using hi
    simp only[iD,fI];rw[this];exact iF.refl _
   simp only[bZ,bB,aL,fI,cG,jQ,decide_eq_true_eq,decide_eq_false_iff_not,eP,gA,beq_iff_eq,beq_eq_false_iff_ne,eV,if_true]
   repeat' (first|apply And.intro|intro _)
   all_goals first|trivial|(clear bad good after;omega)|exact⟨after ‹_›⟩|exact⟨bad ‹_› (by clear bad good after;omega)⟩|exact⟨good ‹_› (by clear bad good after;omega)⟩
 ·cases hm
end
def aCI:Mod
 |[.c (.p (.l 2 n f))]=>some (kA aN 2 (bO cT n f) n f,.t [.c (.p (bY aN 2 (lK (bO cT n f)).1)),.c (.p (.i .i64 (lK (bO cT n f)).2))])
 |_=>none
def aJI:Ext:=jV [(79,VH),(114,RZ)]
theorem aNX(L:List (ByteArray×ByteArray)):dC eW (dH 5 (cW aB gV)) (nH gV [aU aN 2 L]) (lL [] (eZ 95 [0,4,5]) (bI aB gV))=bT (decide (8<(↑L.length:Int))) (.done .ret (St.mk [V.t [V1.c (C.p (PV.z (bA none 0 0))),V1.c (C.p (PV.i aC 4))]] []))
 (.done .normal
 (bS 95 [(0,.c (.p (.l 2 L.length (aE aN L)))),(4,.c (.p (.z (bA none 0 0)))),(5,.c (.p (.i .i64 0)))] [])):=by kernel_rfl
theorem aNW(L out:List (ByteArray×ByteArray))(i:Int):dC eW (dH 2 (gR (cW aB gV) 5)) (bS 95 [(0,aU aN 2 L),(4,.c (.sl 0 2 0 out.length)),(5,iV i)] [.row 56 2 out.length (aQ aN out)]) (lL [0] (eZ 95 [0,4,5]) (bI aB gV))=bT (decide (i<(↑L.length:Int)))
 (.done .normal
 (bS 95 [(0,.c (.p (.l 2 L.length (aE aN L)))),(4,.c (.sl 0 2 0 out.length)),(5,.c (.p (.i .i64 i)))] [.row 56 2 out.length fun e o=>bP [0] (aQ aN out e o)]))
 (.done (.exit 0)
 (bS 95 [(0,.c (.p (.l 2 L.length (aE aN L)))),(4,.c (.sl 0 2 0 out.length)),(5,.c (.p (.i .i64 i)))] [.row 56 2 out.length fun e o=>bP [0] (aQ aN out e o)])):=by kernel_rfl
theorem aNV(L out:List (ByteArray×ByteArray))(i:Int):dC aJI (dH 6 (eX (inr (bF .skip (gR (cW aB gV) 5) 2)))) (bS 95 [(0,aU aN 2 L),(4,.c (.sl 0 2 0 out.length)),(5,iV i)] [.row 56 2 out.length (aQ aN out)]) (lL [0] (eZ 95 [0,4,5,6,7]) (bI aB gV))=Tr.rq (0≤i∧i<(↑L.length:Int))
 (.rq True
 (bT (!jC (L.getD i.toNat default).fst) (.done .ret (St.mk [V.t [V1.c (C.p (PV.z (bA none 0 0))),V1.c (C.p (PV.i aC 8))]] []))
 (.rq (0≤i∧i<(↑L.length:Int))
 (bT ((L.getD i.toNat default).snd.toList==(aG #[]).toList) (.done .ret (St.mk [V.t [V1.c (C.p (PV.z (bA none 0 0))),V1.c (C.p (PV.i aC 1))]] []))
 (.rq (0≤i∧i<(↑L.length:Int))
 (.rq True
 (bT (!jO (L.getD i.toNat default).snd) (.done .ret (St.mk [V.t [V1.c (C.p (PV.z (bA none 0 0))),V1.c (C.p (PV.i aC 1))]] []))
 (.done .normal
 (bS 95 [(0,.c (.p (.l 2 L.length (aE aN L)))),(4,.c (.sl 0 2 0 out.length)),(5,.c (.p (.i .i64 i))),(6,.c (.p (.z (bA none 0 0)))),(7,.c (.p (.i .i64 0)))] [.row 56 2 out.length fun e o=>bP [0] (aQ aN out e o)]))))))))):=by kernel_rfl
theorem aNU(L out nx:List (ByteArray×ByteArray))(i:Int)(k:Nat):dC eW (dH 2 (gR (eX (inr (bF .skip (gR (cW aB gV) 5) 2))) 6)) (bS 95 [(0,aU aN 2 L),(4,.c (.sl 0 2 0 out.length)),(5,iV i),(6,.c (.sl 1 2 0 k)),(7,iV (k:Nat))] [.row 56 2 out.length (aQ aN out),.row 56 2 k (aQ aN nx)]) (lL [0,1] (eZ 95 [0,4,5,6,7]) (bI aB gV))=bT (decide ((↑k:Int)<(↑out.length:Int)))
 (.rq (0≤(↑k:Int)∧(↑k:Int)<(↑out.length:Int))
 (.rq ((↑k:Int).toNat+0<out.length)
 (.rq (0≤i∧i<(↑L.length:Int))
 (bT (cZ (out.getD ((↑k:Int).toNat+0) default).fst.toList (L.getD i.toNat default).fst.toList)
 (.done .normal
 (bS 95 [(0,.c (.p (.l 2 L.length (aE aN L)))),(4,.c (.sl 0 2 0 out.length)),(5,.c (.p (.i .i64 i))),(6,.c (.sl 1 2 0 k)),(7,.c (.p (.i .i64 (↑k:Int))))] [.row 56 2 out.length fun e o=>bP [0,1] (aQ aN out e o),.row 56 2 k fun e o=>bP [0,1] (aQ aN nx e o)]))
 (.done (.exit 2)
 (bS 95 [(0,.c (.p (.l 2 L.length (aE aN L)))),(4,.c (.sl 0 2 0 out.length)),(5,.c (.p (.i .i64 i))),(6,.c (.sl 1 2 0 k)),(7,.c (.p (.i .i64 (↑k:Int))))] [.row 56 2 out.length fun e o=>bP [0,1] (aQ aN out e o),.row 56 2 k fun e o=>bP [0,1] (aQ aN nx e o)]))))))
 (.done (.exit 2)
 (bS 95 [(0,.c (.p (.l 2 L.length (aE aN L)))),(4,.c (.sl 0 2 0 out.length)),(5,.c (.p (.i .i64 i))),(6,.c (.sl 1 2 0 k)),(7,.c (.p (.i .i64 (↑k:Int))))] [.row 56 2 out.length fun e o=>bP [0,1] (aQ aN out e o),.row 56 2 k fun e o=>bP [0,1] (aQ aN nx e o)])):=by kernel_rfl
theorem aNT(L out nx:List (ByteArray×ByteArray))(i:Int)(k:Nat):dC eW (bJ 2 (gR (eX (inr (bF .skip (gR (cW aB gV) 5) 2))) 6)) (bS 95 [(0,aU aN 2 L),(4,.c (.sl 0 2 0 out.length)),(5,iV i),(6,.c (.sl 1 2 0 k)),(7,iV (k:Nat))] [.row 56 2 out.length (aQ aN out),.row 56 2 k (aQ aN nx)]) (lL [0,3] (eZ 95 [0,4,5,6,7]) (bI aB gV))=Tr.rq (0≤(↑k:Int)∧(↑k:Int)<(↑out.length:Int))
 (.rq ((↑k:Int).toNat+0<out.length)
 (.rq (k=k)
 (.rq (1≤1)
 (.rq
 ((k+1)*32≤140737488355328 ∧
 k+1≤140737488355328 ∧
 ∀(e o:Nat),e<1→o<2→iH (lM [C.p (PV.s (out.getD ((↑k:Int).toNat+0) default).fst),C.p (PV.s (out.getD ((↑k:Int).toNat+0) default).snd)] 2 1 (e+0) o)=true)
 (.rq (eV aC ((↑k:Int)+1))
 (.done .normal
 (bS 95 [(0,.c (.p (.l 2 L.length (aE aN L)))),(4,.c (.sl 0 2 0 out.length)),(5,.c (.p (.i .i64 i))),(6,.c (.sl 1 2 0 (k+1))),(7,.c (.p (.i .i64 ((↑k:Int)+1))))] [.row 56 2 out.length fun e o=>bP [0,3] (aQ aN out e o),.row 56 2 (k+1) fun e o=>bP [0,3] (fC k (aQ aN nx) (fun e o=>bF C.top [C.p (PV.s (out.getD ((↑k:Int).toNat+0) default).fst),C.p (PV.s (out.getD ((↑k:Int).toNat+0) default).snd)] ((e+0)*2+o)) e o)]))))))):=by kernel_rfl
theorem aNS(L out nx:List (ByteArray×ByteArray))(i:Int)(k:Nat):dC eW (bJ 7 (eX (inr (bF .skip (gR (cW aB gV) 5) 2)))) (bS 95 [(0,aU aN 2 L),(4,.c (.sl 0 2 0 out.length)),(5,iV i),(6,.c (.sl 1 2 0 k)),(7,iV (k:Nat))] [.row 56 2 out.length (aQ aN out),.row 56 2 k (aQ aN nx)]) (lL [4] (eZ 95 [0,4,5]) (bI aB gV))=bT (decide ((↑k:Int)<(↑out.length:Int)))
 (.rq (0≤(↑k:Int)∧(↑k:Int)<(↑out.length:Int))
 (.rq ((↑k:Int).toNat+0<out.length)
 (.rq (0≤i∧i<(↑L.length:Int))
 (bT ((out.getD ((↑k:Int).toNat+0) default).fst.toList==(L.getD i.toNat default).fst.toList)
 (.done .ret (St.mk [V.t [V1.c (C.p (PV.z (bA none 0 0))),V1.c (C.p (PV.i aC 10))]] []))
 (.rq (0≤i∧i<(↑L.length:Int))
 (.rq (k=k)
 (.rq (1≤1)
 (.rq
 ((k+1)*32≤140737488355328 ∧
 k+1≤140737488355328∧∀(e o:Nat),e<1→o<2→iH (lM [C.p (PV.s (L.getD i.toNat default).fst),C.p (PV.s (L.getD i.toNat default).snd)] 2 1 (e+0) o)=true)
 (.rq (0≤(↑k:Int)∧(↑k:Int)≤(↑out.length:Int)∧(↑out.length:Int)≤(↑out.length:Int))
 (.rq (k+1=k+1)
 (.rq (0+(↑k:Int).toNat+((↑out.length:Int).toNat-(↑k:Int).toNat)≤out.length)
 (.rq
 ((k+1+((↑out.length:Int).toNat-(↑k:Int).toNat))*32≤140737488355328 ∧
 k+1+((↑out.length:Int).toNat-(↑k:Int).toNat)≤140737488355328 ∧
 ∀(e o:Nat),e<(↑out.length:Int).toNat-(↑k:Int).toNat→o<2→iH (aQ aN out (e+(0+(↑k:Int).toNat)) o)=true)
 (.done .normal
 (bS 95 [(0,.c (.p (.l 2 L.length (aE aN L)))),(4,.c (.sl 0 2 0 (k+1+((↑out.length:Int).toNat-(↑k:Int).toNat)))),(5,.c (.p (.i .i64 i)))] [.row 56 2 (k+1+((↑out.length:Int).toNat-(↑k:Int).toNat)) fun e o=>bP [4] (fC (k+1) (fC k (aQ aN nx) fun e o=>bF C.top [C.p (PV.s (L.getD i.toNat default).fst),C.p (PV.s (L.getD i.toNat default).snd)] ((e+0)*2+o)) (fun e o=>aQ aN out (e+(0+(↑k:Int).toNat)) o) e o)]))))))))))))))
 (.rq (0≤i∧i<(↑L.length:Int))
 (.rq (k=k)
 (.rq (1≤1)
 (.rq
 ((k+1)*32≤140737488355328 ∧
 k+1≤140737488355328∧∀(e o:Nat),e<1→o<2→iH (lM [C.p (PV.s (L.getD i.toNat default).fst),C.p (PV.s (L.getD i.toNat default).snd)] 2 1 (e+0) o)=true)
 (.rq (0≤(↑k:Int)∧(↑k:Int)≤(↑out.length:Int)∧(↑out.length:Int)≤(↑out.length:Int))
 (.rq (k+1=k+1)
 (.rq (0+(↑k:Int).toNat+((↑out.length:Int).toNat-(↑k:Int).toNat)≤out.length)
 (.rq
 ((k+1+((↑out.length:Int).toNat-(↑k:Int).toNat))*32≤140737488355328 ∧
 k+1+((↑out.length:Int).toNat-(↑k:Int).toNat)≤140737488355328 ∧
 ∀(e o:Nat),e<(↑out.length:Int).toNat-(↑k:Int).toNat→o<2→iH (aQ aN out (e+(0+(↑k:Int).toNat)) o)=true)
 (.done .normal
 (bS 95 [(0,.c (.p (.l 2 L.length (aE aN L)))),(4,.c (.sl 0 2 0 (k+1+((↑out.length:Int).toNat-(↑k:Int).toNat)))),(5,.c (.p (.i .i64 i)))] [.row 56 2 (k+1+((↑out.length:Int).toNat-(↑k:Int).toNat)) fun e o=>bP [4] (fC (k+1) (fC k (aQ aN nx) fun e o=>bF C.top [C.p (PV.s (L.getD i.toNat default).fst),C.p (PV.s (L.getD i.toNat default).snd)] ((e+0)*2+o)) (fun e o=>aQ aN out (e+(0+(↑k:Int).toNat)) o) e o)])))))))))):=by kernel_rfl
theorem aNR(L out:List (ByteArray×ByteArray))(i:Int):dC eW (bJ 3 (gR (cW aB gV) 5)) (bS 95 [(0,aU aN 2 L),(4,.c (.sl 0 2 0 out.length)),(5,iV i)] [.row 56 2 out.length (aQ aN out)]) (lL [0] (eZ 95 [0,4,5]) (bI aB gV))=Tr.rq (eV aC (i+1))
 (.done .normal
 (bS 95 [(0,.c (.p (.l 2 L.length (aE aN L)))),(4,.c (.sl 0 2 0 out.length)),(5,.c (.p (.i .i64 (i+1))))] [.row 56 2 out.length fun e o=>bP [0] (aQ aN out e o)])):=by kernel_rfl
theorem aNQ(L out:List (ByteArray×ByteArray))(i:Int):dC eW (bJ 6 (cW aB gV)) (bS 95 [(0,aU aN 2 L),(4,.c (.sl 0 2 0 out.length)),(5,iV i)] [.row 56 2 out.length (aQ aN out)]) (lL [] [] (bI aB gV))=Tr.rq (0+out.length≤out.length∧∀(e o:Nat),e<out.length→o<2→BA (aQ aN out (e+0) o)=true)
 (.done .ret (St.mk [V.t [V1.c (C.p (PV.l 2 out.length fun e o=>mI (aQ aN out (e+0) o))),V1.c (C.p (PV.i aC 0))]] [])):=by kernel_rfl
section
variable {G:Nat→Option Obj}
theorem OB:bH aB G aJI:=dY (by simp;exact⟨aBS,aGJ⟩)
theorem VT(out:List (ByteArray×ByteArray))(x:ByteArray×ByteArray):mN out x≤out.length:=by
 have h:=List.takeWhile_append_dropWhile (p:=fun y:Lb=>vG y.1 x.1) (l:=out)
 have:=congrArg List.length h
 rw[aV]at this;unfold mN;omega
theorem aHT{out:List (ByteArray×ByteArray)}{x:ByteArray×ByteArray}{k:Nat}(hk:k<mN out x):vG (out.getD k default).1 x.1=true:=by
 have h1:=(sF out x).1
 have hl:=VT out x
 have hm:out.getD k default∈out.takeWhile (fun y=>vG y.1 x.1):=by
  rw[←h1,aD,aM (by omega)];exact List.mem_take_iff_getElem.2 ⟨k,by omega,rfl⟩
 exact fL.1 (List.all_takeWhile (p:=fun y:Lb=>vG y.1 x.1) (l:=out)) _ hm
theorem aHU{out:List (ByteArray×ByteArray)}{x:ByteArray×ByteArray}(hk:mN out x<out.length):vG (out.getD (mN out x) default).1 x.1=false:=by
 have h5:=(sF out x).2
 rw[dX hk]at h5
 have:=List.head?_dropWhile_not (fun y:Lb=>vG y.1 x.1) out
 rw[←h5]at this;rw[aD,aM hk];exact this
theorem ZD(s:ByteArray):(s.toList==(aG #[]).toList)=s.toList.isEmpty:=by
 have:(aG #[]).toList=[]:=by rw[ByteArray.toList_eq]
 rw[this];cases h:s.toList<;>rfl
theorem YI{L out:List (ByteArray×ByteArray)}{i:Nat}(hi:i<L.length):zI (L.drop i) out =
  if jC (L.getD i default).1=false then ([],8)
  else if (L.getD i default).2.toList.isEmpty=true∨jO (L.getD i default).2=false then ([],1)
  else if (out[mN out (L.getD i default)]?).any (fun y=>decide (y.1=(L.getD i default).1))=true then ([],10)
  else zI (L.drop (i+1)) (out.take (mN out (L.getD i default))++L.getD i default::out.drop (mN out (L.getD i default))):=by
 have e:L.getD i default=L[i]:=by simp[hi]
 rw[dX hi,e];rfl
set_option maxRecDepth 100000 in
theorem aLT:iO aB G 105 aCI:=by
 intro args p v hm hp h;unfold aCI at hm
 split at hm;rotate_left;· cases hm
 rename_i n f;obtain⟨rfl,rfl⟩:=eM hm
 have hL:kA aN 2 (bO cT n f) n f:=hp
 clear hp hm
 generalize bO cT n f=L at hL
 refine jN.args (args':=[aU aN 2 L]) ?_ (.cons hL.le .nil);clear hL
 generalize hv:V.t [V1.c (C.p (bY aN 2 (lK L).1)),V1.c (C.p (PV.i .i64 (lK L).2))]=v
 have err:∀e:Int,lK L=([],e)→iF (V.t [V1.c (C.p (PV.z (bA none 0 0))),V1.c (C.p (PV.i .i64 e))]) v:=by
  intro e he;rw[←hv,he];exact iF.t (.cons (iF.p (lE.nil 2 _)) (.cons (iF.refl _) .nil))
 refine pW Try.func105 (by kernel_rfl) rfl ?_ h
 refine eJ.ev aX 5 [] (eZ 95 [0,4,5]) rfl (aNX L) ?_;simp only[bZ,iD,fI,cG,decide_eq_true_eq,decide_eq_false_iff_not];refine⟨fun h1=>err 4 (by unfold lK;rw[if_pos (by omega)]),fun h8=>?_⟩
 have hnew:lK L=zI L []:=by unfold lK;rw[if_neg (by omega)]
 rw[hnew]at err hv
 refine eJ.loop' (l:=bJ 5 (cW aB gV)) (b:=inr (inr (bF .skip (cW aB gV) 5))) (r:=bJ 6 (cW aB gV)) (id:=0) (by kernel_rfl) (σ:=Int×List (ByteArray×ByteArray))
   (fun(i,out)=>bS 95 [(0,aU aN 2 L),(4,.c (.sl 0 2 0 out.length)),(5,iV i)] [.row 56 2 out.length (aQ aN out)]) (fun(i,out)=>0≤i∧i≤L.length∧out.length≤i.toNat∧zI (L.drop i.toNat) out=zI L []) (fun(i,_)=>(L.length-i).toNat) (0,[]) ⟨by omega,by omega,by simp,rfl⟩
   ((lT 56 2 (aQ aN []) 4 (by kernel_rfl)).trans (aJ (by kernel_rfl))) ?_
 rintro⟨i,out⟩ ⟨i0,i1,hlen,hinv⟩ Q1 q1n q1e -;refine eJ.ev aX 2 [0] (eZ 95 [0,4,5]) rfl (aNW L out i) ?_;simp only[bZ,aL,jQ,cG,decide_eq_true_eq,decide_eq_false_iff_not];refine⟨fun hlt=>⟨?_⟩,fun hge=>⟨?_⟩⟩
 ·refine eJ.blk' (l:=bJ 2 (gR (cW aB gV) 5)) (id:=1) (a:=inr (bF .skip (gR (cW aB gV) 5) 2)) (r:=bJ 3 (gR (cW aB gV) 5)) (by kernel_rfl) ?_
  intro Q2 q2n _ _;refine eJ.ev OB 6 [0] (eZ 95 [0,4,5,6,7]) rfl (aNV L out i) ?_
  have hstep:=YI (L:=L) (out:=out) (i:=i.toNat) (by omega)
  rw[hinv]at hstep;rw[ZD]
  generalize hx:L.getD i.toNat default=x at hstep
  simp only[bZ,bB,aL,fI,cG,eP,gA];refine⟨⟨i0,hlt⟩,trivial,fun c1=>⟨err 8 (by rw[hstep,if_pos c1])⟩,fun c1=>⟨⟨i0,hlt⟩,fun c2=>⟨err 1 (by rw[hstep,if_neg (by simp[c1]),if_pos (.inl c2)])⟩,fun c2=>⟨⟨i0,hlt⟩,trivial,fun c3=>⟨err 1 (by rw[hstep,if_neg (by simp[c1]),if_pos (.inr c3)])⟩,fun c3=>⟨?_⟩⟩⟩⟩;rw[if_neg (by simp[c1]),if_neg (by simp[c2,c3])]at hstep
  have hins:=VT out x
  refine eJ.loop' (l:=bJ 6 (eX (inr (bF .skip (gR (cW aB gV) 5) 2)))) (b:=inr (inr (bF .skip (eX (inr (bF .skip (gR (cW aB gV) 5) 2))) 6))) (r:=bJ 7 (eX (inr (bF .skip (gR (cW aB gV) 5) 2)))) (id:=2) (by kernel_rfl) (σ:=Nat)
    (fun k=>(fun nx=>bS 95 [(0,aU aN 2 L),(4,.c (.sl 0 2 0 out.length)),(5,iV i),(6,.c (.sl 1 2 0 k)),(7,iV (k:Nat))] [.row 56 2 out.length (aQ aN out),.row 56 2 k (aQ aN nx)]) (out.take k)) (fun k=>k≤mN out x) (fun k=>mN out x-k) 0 (bW _)
    ((lT 56 2 (aQ aN []) 6 (by kernel_rfl)).trans (aJ (by kernel_rfl))) ?_
  intro k hk Q3 q3n q3e _
  have hnx:(out.take k).length=k:=by rw[cU];omega
  refine eJ.ev aX 2 [0,1] (eZ 95 [0,4,5,6,7]) rfl (aNU L out (out.take k) i k) ?_;rw[hx]
  have post:k=mN out x→eJ aB G (bI aB gV) v (bJ 7 (eX (inr (bF .skip (gR (cW aB gV) 5) 2)))) ((fun nx=>bS 95 [(0,aU aN 2 L),(4,.c (.sl 0 2 0 out.length)),(5,iV i),(6,.c (.sl 1 2 0 k)),(7,iV (k:Nat))] [.row 56 2 out.length (aQ aN out),.row 56 2 k (aQ aN nx)]) (out.take k)) Q2:=by
   intro hk2
   have hfin:(out[k]?).any (fun y=>decide (y.1=x.1))=decide (k<out.length∧(out.getD k default).1=x.1):=by
    by_cases hkl:k<out.length
    ·simp[hkl]
    ·rw[bU (by omega)];simp[hkl]
   rw[←hk2,hfin]at hstep;refine eJ.evA aX [4] (eZ 95 [0,4,5]) rfl (aNS L out (out.take k) i k) ?_;rw[hx]
   have fin:¬(k<out.length∧(out.getD k default).1=x.1)→Q2 .normal (bS 95 [(0,V.c (C.p (PV.l 2 L.length (aE aN L)))),(4,V.c (C.sl 0 2 0 (k+1+((↑out.length:Int).toNat-(↑k:Int).toNat)))),(5,V.c (C.p (PV.i aC i)))] [AO.row 56 2 (k+1+((↑out.length:Int).toNat-(↑k:Int).toNat)) fun e o=>bP [4] (fC (k+1) (fC k (aQ aN (out.take k)) fun e o=>bF C.top [C.p (PV.s x.fst),C.p (PV.s x.snd)] ((e+0)*2+o)) (fun e o=>aQ aN out (e+(0+(↑k:Int).toNat)) o) e o)]):=by
    intro hno;rw[if_neg (by simpa using hno)]at hstep
    have hl2:k+1+((↑out.length:Int).toNat-(↑k:Int).toNat)=(out.take k++x::out.drop k).length:=by
     rw[aV,List.length_cons,List.length_drop,hnx];omega
    rw[hl2];refine q2n _ (eJ.pre (st2:=(fun(i,out)=>bS 95 [(0,aU aN 2 L),(4,.c (.sl 0 2 0 out.length)),(5,iV i)] [.row 56 2 out.length (aQ aN out)]) (i,out.take k++x::out.drop k)) ?_ ?_)
    ·refine iG ?_
     refine⟨⟨rfl,rfl,rfl,fun e o he ho=>?_⟩,trivial⟩;rw[←hl2]at he;simp only[fC]
     by_cases h1:e<k
     ·rw[if_pos (by omega),if_pos h1]
      show aQ aN (out.take k) e o=aQ aN _ e o
      unfold aQ aE;simp[cD (show e<(out.take k).length by omega)]
     ·by_cases h2:e=k
      ·subst h2
       rw[if_pos (by omega),if_neg (by omega)]
       have e1:(out.take e++x::out.drop e).getD e default=x:=by
        rw[aD,cR (by omega),hnx];simp
       show _=C.p (aN ((out.take e++x::out.drop e).getD e default) o)
       rw[e1,Nat.sub_self]
       have ho':o=0∨o=1:=by omega
       rcases ho' with rfl|rfl<;>rfl
      ·rw[if_neg (by omega)]
       have e1:(out.take k++x::out.drop k).getD e default=out.getD (e-1) default:=by
        rw[aD,aD,cR (by omega),hnx,show e-k=(e-k-1)+1 by omega,List.getElem?_cons_succ,List.getElem?_drop,show k+(e-k-1)=e-1 by omega]
       show _=C.p (aN ((out.take k++x::out.drop k).getD e default) o)
       rw[e1,show e-(k+1)+(0+(↑k:Int).toNat)=e-1 by omega];rfl
    ·refine eJ.evA aX [0] (eZ 95 [0,4,5]) rfl (aNR L (out.take k++x::out.drop k) i) ?_
     simp only[bB,aL,cG,eV]
     refine⟨by omega,⟨q1n (i+1,out.take k++x::out.drop k) _ ⟨by omega,by omega,by rw[←hl2];omega,?_⟩ (by simp only;omega) (aJ (by kernel_rfl))⟩⟩
     rw[show (i+1).toNat=i.toNat+1 by omega];exact hstep.symm
   have one:∀e o:Nat,e<1→o<2→iH (bF C.top [C.p (PV.s x.fst),C.p (PV.s x.snd)] ((e+0)*2+o))=true:=by
    intro e o he ho
    obtain rfl:e=0:=by omega
    have ho':o=0∨o=1:=by omega
    rcases ho' with rfl|rfl<;>rfl
   have one':∀e o:Nat,e<(↑out.length:Int).toNat-(↑k:Int).toNat→o<2→iH (aQ aN out (e+(0+(↑k:Int).toNat)) o)=true:=by
    intro e o he ho
    have ho':o=0∨o=1:=by omega
    rcases ho' with rfl|rfl<;>rfl
   have dup:k<out.length→(out.getD k default).1=x.1→iF (V.t [V1.c (C.p (PV.z (bA none 0 0))),V1.c (C.p (PV.i .i64 10))]) v:=fun h1 h2=>err 10 (by rw[hstep,if_pos (by simpa using⟨h1,h2⟩)])
   have hlast:(↑i:Int)<L.length:=hlt
   simp only[bZ,bB,aL,fI,cG,decide_eq_true_eq,decide_eq_false_iff_not,TX,show (↑k:Int).toNat+0=k from rfl]
   refine⟨fun h1=>⟨⟨by omega,h1⟩,by omega,⟨i0,hlt⟩,fun h2=>⟨dup (by omega) h2⟩,fun h2=>⟨⟨i0,hlt⟩,trivial,aW _,⟨by omega,by omega,one⟩,⟨by omega,by omega,by omega⟩,trivial,by omega,⟨by omega,by omega,one'⟩,⟨fin (fun h=>h2 h.2)⟩⟩⟩,
     fun h1=>⟨⟨i0,hlt⟩,trivial,aW _,⟨by omega,by omega,one⟩,⟨by omega,by omega,by omega⟩,trivial,by omega,⟨by omega,by omega,one'⟩,⟨fin (fun h=>h1 (by omega))⟩⟩⟩
  simp only[bZ,bB,aL,jQ,cG,decide_eq_true_eq,decide_eq_false_iff_not,show (↑k:Int).toNat+0=k from rfl];refine⟨fun h1=>⟨⟨by omega,h1⟩,by omega,⟨i0,hlt⟩,fun h2=>⟨?_⟩,fun h2=>⟨q3e _ (post ?_)⟩⟩,fun h1=>⟨q3e _ (post (by omega))⟩⟩
  ·refine eJ.evA aX [0,3] (eZ 95 [0,4,5,6,7]) rfl (aNT L out (out.take k) i k) ?_
   have hk2:k<mN out x:=by
    rcases cS k (mN out x) with h|h
    ·exact h
    ·have e1:k=mN out x:=by omega
     have:=aHU (out:=out) (x:=x) (by omega)
     rw[←e1]at this;unfold vG at this;rw[h2]at this;cases this
   have ht:out.take (k+1)=out.take k++[out.getD k default]:=by
    rw[List.take_add_one,aD,aM (show k<out.length by omega)];rfl
   simp only[bB,aL,cG,eV,show (↑k:Int).toNat+0=k from rfl];refine⟨⟨by omega,h1⟩,by omega,trivial,aW _,⟨by omega,by omega,fun e o he ho=>?_⟩,by omega,⟨q3n (k+1) _ (by omega) (by omega) ?_⟩⟩
   ·obtain rfl:e=0:=by omega
    have ho':o=0∨o=1:=by omega
    rcases ho' with rfl|rfl<;>rfl
   ·show cQ G _ ((fun nx=>(fun k=>bS 95 [(0,aU aN 2 L),(4,.c (.sl 0 2 0 out.length)),(5,iV i),(6,.c (.sl 1 2 0 k)),(7,iV (k:Nat))] [.row 56 2 out.length (aQ aN out),.row 56 2 k (aQ aN nx)]) (k+1)) (out.take (k+1)))
    rw[ht];refine iG ?_;refine⟨⟨rfl,rfl,rfl,fun e o he ho=>rfl⟩,⟨rfl,rfl,rfl,fun e o he ho=>oT hnx ?_ he ho⟩,trivial⟩;intro o ho
    have ho':o=0∨o=1:=by omega
    rcases ho' with rfl|rfl<;>rfl
  ·rcases cS k (mN out x) with h|h
   ·have:=aHT h
    unfold vG at this;rw[h2]at this;cases this
   ·omega
 ·refine q1e _ (eJ.evA aX [] [] rfl (aNQ L out i) ?_)
  simp only[bB,aL,fI];refine⟨⟨by omega,fun _ _ _ _=>rfl⟩,⟨?_⟩⟩;rw[List.drop_of_length_le (by omega)]at hinv;rw[←hv,←hinv];exact iF.refl _
theorem MV{L:List (ByteArray×ByteArray)}(h:(lK L).2=0):L.length≤8:=by
 unfold lK at h;split at h
 ·cases h
 ·omega
end
def EJ:Mod
 |[.c (.p (.l 2 n f))]=>some (kA aN 2 (bO cT n f) n f,bV (lO (fun k=>(bO cT n f).getD k default) n))
 |_=>none
def aJH:Ext:=jV [(105,aCI),(81,KC)]
theorem aF3(L:List (ByteArray×ByteArray)):dC aJH (cW aB Try.f80) (nH Try.f80 [aU aN 2 L]) (lL [] [] (bI aB Try.f80))=Tr.rq (kA aN 2 (bO cT L.length (aE aN L)) L.length (aE aN L))
 (bT ((lK (bO cT L.length (aE aN L))).snd==0)
 (.rq
 ((kA aN 2 (bO cT (lK (bO cT L.length (aE aN L))).fst.length (aE aN (lK (bO cT L.length (aE aN L))).fst)) (lK (bO cT L.length (aE aN L))).fst.length
 (aE aN (lK (bO cT L.length (aE aN L))).fst) ∧
 kA aN 2 (bO cT L.length (aE aN L)) L.length (aE aN L)) ∧
 ((lK (bO cT L.length (aE aN L))).fst.length≤1000000∨L.length≤1000000))
 (.done .ret
 (St.mk [V.c (C.p (PV.b (decide (bO cT (lK (bO cT L.length (aE aN L))).fst.length (aE aN (lK (bO cT L.length (aE aN L))).fst)=bO cT L.length (aE aN L)))))] [])))
 (.done .ret (St.mk [V.c (C.p (PV.b false))] []))):=by kernel_rfl
section
variable {G:Nat→Option Obj}
theorem OA:bH aB G aJH:=dY (by simp;exact⟨aLT,UT⟩)
set_option maxRecDepth 100000 in
theorem YC:iO aB G 80 EJ:=by
 intro args p v hm hp h;unfold EJ at hm
 split at hm;rotate_left;· cases hm
 rename_i n f;obtain⟨rfl,rfl⟩:=eM hm
 have hL:kA aN 2 (bO cT n f) n f:=hp
 clear hp hm
 generalize bO cT n f=L at hL
 refine jN.args (args':=[aU aN 2 L]) ?_ (.cons hL.le .nil);rw[←hL.1,←MH];clear hL
 refine pW Try.func80 (by kernel_rfl) rfl ?_ h
 refine eJ.evA OA [] [] rfl (aF3 L) ?_
 have h1:(lK L).2=0→rB L=decide ((lK L).1=L):=fun h=>by unfold rB;rw[decide_eq_true h];rfl
 have h2:(lK L).2≠0→rB L=false:=fun h=>by unfold rB;rw[decide_eq_false h];rfl
 simp only[bZ,bB,aL,fI,gK,beq_iff_eq,beq_eq_false_iff_ne];refine⟨dJ _ _ _,fun c=>⟨⟨⟨dJ _ _ _,dJ _ _ _⟩,?_⟩,⟨?_⟩⟩,fun c=>⟨?_⟩⟩
 ·have:=MV c;omega
 ·rw[h1 c];exact iF.refl _
 ·rw[h2 c];exact iF.refl _
end
end Go.AE
