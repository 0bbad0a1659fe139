import Derived.WalkKit
import Derived.Sort.LotA
import Derived.Test.YtfjihbmehhccoaaB2
import Derived.Test.YtfjihbmehhccoaaBD
import Derived.Test.YtfjihbmehhccoaaB1
set_option linter.unusedVariables false
set_option linter.unusedSimpArgs false
namespace Go.AE.Gp
open _root_.Array renaming getElem?_eq_some_iff→bH,toList_inj→fO
open _root_.Bool renaming and_eq_true→aQ,not_eq_false'→fX,not_eq_true'→eQ,or_eq_true→bU
open _root_.ByteArray renaming mk→aH
open _root_.Int renaming ofNat→dR
open IntKind renaming i64→aC
open _root_.List renaming all_eq_true→fN,drop_eq_getElem_cons→dG,getD_eq_getElem?_getD→aD,getElem?_append_left→cG,getElem?_append_right→cV,getElem?_drop→jN,getElem?_eq_getElem→aK,getElem?_eq_none→cB,getElem_mem→jQ,getElem_of_mem→gA,length_append→aL,length_set→cE,length_take→eR,mem_append→dK,mem_cons→fC,mem_iff_getElem?→dO,mem_singleton→eO,pairwise_iff_getElem→dZ,take_append_drop→fL
open _root_.Nat renaming beq→cA,ble→dV,eq_of_beq_eq_true→aS,le_of_ble_eq_true→gV,le_refl→aW,lt_or_ge→cL,zero_le→bX
open Op renaming bytesLess→dH
open Region renaming binds→fR,ready→eH,waitsFor→cY,waitsFor_spec→dB
open _root_.Go.Proofs.Try renaming f105→gZ,f52→gX,prog→aB
open _root_.UInt8 renaming lt_iff_toNat_lt→gJ
open Value renaming slice→bB
open Go.Sort
abbrev Lb:=ByteArray×ByteArray
theorem tE:∀ {a b c:List UInt8},dH a b=true→dH b c=true→dH a c=true
 |_,[],_,h,_=>by cases ‹List UInt8› <;> simp[dH]at h
 |_,_::_,[],_,h=>by simp[dH]at h
 |[],_::_,_::_,_,_=>by simp[dH]
 |x::a,y::b,z::c,h,k=>by
  have hx:=gJ (a:=x) (b:=y)
  have hy:=gJ (a:=y) (b:=z)
  have hz:=gJ (a:=x) (b:=z)
  simp only[dH,bU,decide_eq_true_eq,aQ,beq_iff_eq]at h k ⊢
  rcases h with h|⟨rfl,h⟩
  ·rcases k with k|⟨rfl,k⟩
   ·exact .inl (hz.2 (Nat.lt_trans (hx.1 h) (hy.1 k)))
   ·exact .inl h
  ·rcases k with k|⟨rfl,k⟩
   ·exact .inl k
   ·exact .inr ⟨rfl,tE h k⟩
theorem tG:∀ {a b:List UInt8},dH a b=false→a≠b→dH b a=true
 |[],[],_,h=>absurd rfl h
 |[],_::_,h,_=>by simp[dH]at h
 |_::_,[],_,_=>by simp[dH]
 |x::a,y::b,h,hn=>by
  have hx:=gJ (a:=x) (b:=y)
  have hy:=gJ (a:=y) (b:=x)
  simp only[dH,Bool.or_eq_false_iff,decide_eq_false_iff_not,Bool.and_eq_false_iff,beq_eq_false_iff_ne,bU,decide_eq_true_eq,aQ,beq_iff_eq]at h ⊢;obtain⟨h1,h2⟩:=h
  by_cases he:x=y
  ·subst he
   rcases h2 with h2|h2
   ·exact absurd rfl h2
   ·exact .inr ⟨rfl,tG h2 fun e=>hn (by rw[e])⟩
  ·refine .inl (hy.2 ?_)
   have h3:x.toNat≠y.toNat:=fun e=>he (UInt8.toNat_inj.1 e)
   have h4:¬x.toNat<y.toNat:=fun e=>h1 (hx.2 e)
   omega
def aQQ(a b:ByteArray):Bool:=dH a.toList b.toList
def aR4(a b:ByteArray):Int:=if aQQ a b=true then -1 else if a=b then 0 else 1
def aR5:List Lb→List Lb→Int
 |[],[]=>0
 |[],_::_ => -1
 |_::_,[]=>1
 |x::xs,y::ys=>if x=y then aR5 xs ys else if x.1=y.1 then aR4 x.2 y.2 else aR4 x.1 y.1
section
variable (key:Int→List Lb)
def uH(st:List (List Int)×Option Int)(i:Int):List (List Int)×Option Int:=
 (match st.2 with
  |none=>st.1++[[i]]
  |some j=>if key j=key i then st.1.dropLast++[st.1.getLastD []++[i]] else st.1++[[i]],some i)
end
def aQD(x:List Lb)(K:List (List Lb)):Nat→Nat
 |0=>0
 |k+1=>if aR5 x (K.getD k [])<0 then aQD x K k else k+1
def nF(x:List Lb)(K:List (List Lb)):List (List Lb):=
 let p:=aQD x K K.length
 if 0<p∧x=K.getD (p-1) [] then K else K.take p++[x]++K.drop p
end Go.AE.Gp
namespace Go.AE
open _root_.Array renaming getElem?_eq_some_iff→bH,toList_inj→fO
open _root_.Bool renaming and_eq_true→aQ,not_eq_false'→fX,not_eq_true'→eQ,or_eq_true→bU
open _root_.ByteArray renaming mk→aH
open _root_.Int renaming ofNat→dR
open IntKind renaming i64→aC
open _root_.List renaming all_eq_true→fN,drop_eq_getElem_cons→dG,getD_eq_getElem?_getD→aD,getElem?_append_left→cG,getElem?_append_right→cV,getElem?_drop→jN,getElem?_eq_getElem→aK,getElem?_eq_none→cB,getElem_mem→jQ,getElem_of_mem→gA,length_append→aL,length_set→cE,length_take→eR,mem_append→dK,mem_cons→fC,mem_iff_getElem?→dO,mem_singleton→eO,pairwise_iff_getElem→dZ,take_append_drop→fL
open _root_.Nat renaming beq→cA,ble→dV,eq_of_beq_eq_true→aS,le_of_ble_eq_true→gV,le_refl→aW,lt_or_ge→cL,zero_le→bX
open Op renaming bytesLess→dH
open Region renaming binds→fR,ready→eH,waitsFor→cY,waitsFor_spec→dB
open _root_.Go.Proofs.Try renaming f105→gZ,f52→gX,prog→aB
open _root_.UInt8 renaming lt_iff_toNat_lt→gJ
open Value renaming slice→bB
open Go.Proofs Go.Proofs.Ytfjihbmehhccoaa Gp Go.RowKit
def LO:Mod
 |[.c (.p (.l 2 n f)),.c (.p (.l 2 m g))]=>some ((kI aN 2 (bS cS n f) n f∧kI aN 2 (bS cS m g) m g)∧(n≤1000000∨m≤1000000),bV (decide (bS cS n f=bS cS m g)))
 |_=>none
theorem aMD(A B:List (ByteArray×ByteArray)):dF fH (dL 4 (dC aB Try.f81)) (oB Try.f81 [aU aN 2 A,aU aN 2 B]) (mC [] (fJ 26 [0,1,5]) (bK aB Try.f81))=bT ((↑A.length:Int) != (↑B.length:Int)) (.done .ret (St.mk [V.c (C.p (PV.b false))] []))
 (.done .normal
 (bY 26 [(0,.c (.p (.l 2 A.length (aE aN A)))),(1,.c (.p (.l 2 B.length (aE aN B)))),(5,.c (.p (.i .i64 0)))] [])):=by kernel_rfl
theorem aMC(A B:List (ByteArray×ByteArray))(i:Int):dF fH (gQ (dC aB Try.f81) 4) (bY 26 [(0,aU aN 2 A),(1,aU aN 2 B),(5,iV i)] []) (mC [] (fJ 26 [0,1,5]) (bK aB Try.f81))=bT (decide (i<(↑A.length:Int)))
 (.rq (0≤i∧i<(↑A.length:Int))
 (.rq (0≤i∧i<(↑B.length:Int))
 (bT
 (match true with
 |true => !((A.getD i.toNat default).fst.toList==(B.getD i.toNat default).fst.toList&&((A.getD i.toNat default).snd.toList==(B.getD i.toNat default).snd.toList&&true))
 |false=>(A.getD i.toNat default).fst.toList==(B.getD i.toNat default).fst.toList&&((A.getD i.toNat default).snd.toList==(B.getD i.toNat default).snd.toList&&true))
 (.done .ret (St.mk [V.c (C.p (PV.b false))] []))
 (.rq (eW aC (i+1))
 (.done .normal
 (bY 26 [(0,.c (.p (.l 2 A.length (aE aN A)))),(1,.c (.p (.l 2 B.length (aE aN B)))),(5,.c (.p (.i .i64 (i+1))))] []))))))
 (.done (.exit 0)
 (bY 26 [(0,.c (.p (.l 2 A.length (aE aN A)))),(1,.c (.p (.l 2 B.length (aE aN B)))),(5,.c (.p (.i .i64 i)))] [])):=by kernel_rfl
theorem aMB(A B:List (ByteArray×ByteArray))(i:Int):dF fH (bL 5 (dC aB Try.f81)) (bY 26 [(0,aU aN 2 A),(1,aU aN 2 B),(5,iV i)] []) (mC [] [] (bK aB Try.f81))=Tr.done X.ret (St.mk [V.c (C.p (PV.b true))] []):=by kernel_rfl
theorem VB{α:Type}[Inhabited α]{A B:List α}(hl:A.length=B.length)(h:∀k,k<A.length→A.getD k default=B.getD k default):A=B:=by
 apply List.ext_getElem hl;intro k h1 h2
 have:=h k h1
 simpa[h1,h2] using this
theorem qR(a b:ByteArray):(a.toList==b.toList)=decide (a=b):=by
 rw[Bool.eq_iff_iff,decide_eq_true_iff,beq_iff_eq,ByteArray.toList_eq,ByteArray.toList_eq];exact⟨fun h=>ByteArray.ext (fO.mp h),fun h=>by rw[h]⟩
section
variable {G:Nat→Option Obj}
set_option maxRecDepth 100000 in
theorem WM:iW aB G 81 LO:=by
 intro args p v hm hp h;unfold LO at hm
 split at hm;rotate_left;· cases hm
 rename_i n f m g;obtain⟨rfl,rfl⟩:=eY hm;obtain⟨⟨hA,hB⟩,hn⟩:=hp
 generalize bS cS n f=A at hA
 generalize bS cS m g=B at hB
 refine jW.args (args':=[aU aN 2 A,aU aN 2 B]) ?_ (.cons hA.le (.cons hB.le .nil))
 have hlen:A.length≤1000000∨B.length≤1000000:=by rw[hA.1,hB.1];exact hn
 clear hA hB hn
 refine qN Try.func81 (by kernel_rfl) rfl ?_ h
 refine eG.ev aY 4 [] (fJ 26 [0,1,5]) rfl (aMD A B) ?_;simp only[cD,iA,fP,cC];refine⟨fun h1=>iE.of_eq ?_,fun h1=>?_⟩
 ·have h1:A.length≠B.length:=by simp at h1;omega
  rw[decide_eq_false (fun e=>h1 (by rw[e]))];rfl
 ·have h1:A.length=B.length:=by simp at h1;omega
  refine eG.loop (l:=bL 4 (dC aB Try.f81)) (b:=inr (inr (bC .skip (dC aB Try.f81) 4))) (r:=bL 5 (dC aB Try.f81)) (id:=0) (by kernel_rfl)
    (fun i:Int=>bY 26 [(0,aU aN 2 A),(1,aU aN 2 B),(5,iV i)] []) (fun i=>0≤i∧i≤A.length∧∀k,k<i.toNat→A.getD k default=B.getD k default) (fun i=>(A.length-i).toNat) 0 ⟨by omega,by omega,fun k hk=>absurd hk (by simp)⟩ (aI (by kernel_rfl)) ?_
  rintro i ⟨i0,i1,hi⟩;refine eG.evA aY [] (fJ 26 [0,1,5]) rfl (aMC A B i) ?_
  have key:((A.getD i.toNat default).fst.toList==(B.getD i.toNat default).fst.toList&&((A.getD i.toNat default).snd.toList==(B.getD i.toNat default).snd.toList&&true))=decide (A.getD i.toNat default=B.getD i.toNat default):=by
   rw[qR,qR,Bool.and_true,Bool.eq_iff_iff];simp[Prod.ext_iff]
  rw[key]
  have bad:A.getD i.toNat default≠B.getD i.toNat default→iE (V.c (C.p (PV.b false))) (bV (decide (A=B))):=fun hne=>by
   rw[decide_eq_false (fun e=>hne (by rw[e]))];exact iE.refl _
  have good:i<A.length→A.getD i.toNat default=B.getD i.toNat default→∃j:Int,(0≤j∧j≤A.length∧∀k,k<j.toNat→A.getD k default=B.getD k default)∧(A.length-j).toNat<(A.length-i).toNat∧cW G (bY 26 [(0,V.c (C.p (PV.l 2 A.length (aE aN A)))),(1,V.c (C.p (PV.l 2 B.length (aE aN B)))),(5,V.c (C.p (PV.i aC (i+1))))] []) ((fun i:Int=>bY 26 [(0,aU aN 2 A),(1,aU aN 2 B),(5,iV i)] []) j):=fun hlt he=>
   ⟨i+1,⟨by omega,by omega,fun k hk=>by
     by_cases hk':k<i.toNat
     ·exact hi k hk'
     ·obtain rfl:k=i.toNat:=by omega
      exact he⟩,by omega,aI (by kernel_rfl)⟩
  have after:¬i<A.length→eG aB G (bK aB Try.f81) (bV (decide (A=B))) (bL 5 (dC aB Try.f81)) (bY 26 [(0,V.c (C.p (PV.l 2 A.length (aE aN A)))),(1,V.c (C.p (PV.l 2 B.length (aE aN B)))),(5,V.c (C.p (PV.i aC i)))] []) (fun _ _=>False):=fun hlt=>by
   refine eG.evA aY [] [] rfl (aMB A B i) ?_;simp only[iA,fP];rw[decide_eq_true (VB h1 fun k hk=>hi k (by omega))];exact iE.refl _
  simp only[cD,bA,aP,fP,cC,jZ,decide_eq_true_eq,decide_eq_false_iff_not,eQ,fX,eW,if_true]
  repeat' (first|apply And.intro|intro _)
  all_goals first|trivial|(clear bad good after hi;omega)|exact⟨after ‹_›⟩|exact⟨bad ‹_›⟩|exact⟨good ‹_› ‹_›⟩
end
def iG(L:List Int)(i m:Int):Int:=if i<0∨L.length≤i then 0 else nK (L.getD i.toNat default) m
def OO:Mod
 |[x,.c (.p (.i .i64 i)),.c (.p (.i .i64 m))]=>match CM x with
  |some (p,A)=>some (p∧(∀t∈A,eW .i64 t)∧0<m,iV (iG A i m))
  |none=>none
 |_=>none
def UN(n:Int):List (ByteArray×ByteArray):=
 if nK n 4=1 then [(⟨#[104,111,115,116]⟩,⟨#[97]⟩)]
 else if nK n 4=2 then [(⟨#[104,111,115,116]⟩,⟨#[98]⟩)]
 else if nK n 4=3 then [(⟨#[104,111,115,116]⟩,⟨#[98]⟩),(⟨#[122,111,110,101]⟩,⟨#[120]⟩)]
 else []
def AN:Mod
 |[.c (.p (.i .i64 n))]=>some (eW .i64 n,aU aN 2 (UN n))
 |_=>none
def kO(a b:Pg):Bool:=decide (a.L=b.L)&&(decide (a.ru=b.ru)&&(decide (a.ve=b.ve)&&decide (a.st=b.st)))
def LP:Mod
 |[x,y]=>match xF x,xF y with
  |some (p,a),some (q,b)=>some ((p∧q)∧(a.L.length≤1000000∨b.L.length≤1000000),bV (kO a b))
  |_,_=>none
 |_=>none
def aL5:Ext:=kH [(21,OO),(41,AN)]
def aLC:Ext:=kH [(81,LO)]
theorem aPA(L:List Int)(i m:Int):dF aOG (dC aB Try.f21) (oB Try.f21 [aU aT 1 L,iV i,iV m]) (mC [] [] (bK aB Try.f21))=bT (decide (i<0)) (.done .ret (St.mk [V.c (C.p (PV.i aC 0))] []))
 (bT (decide ((↑L.length:Int)≤i)) (.done .ret (St.mk [V.c (C.p (PV.i aC 0))] []))
 (.rq (0≤i∧i<(↑L.length:Int)) (.rq (eW aC (L.getD i.toNat default)∧0<m) (.done .ret (St.mk [V.c (C.p (PV.i aC (nK (L.getD i.toNat default) m)))] []))))):=by kernel_rfl
theorem aSV(n:Int):dF aOG (dC aB Try.f41) (oB Try.f41 [iV n]) (mC [] [] (bK aB Try.f41))=Tr.rq (eW aC n∧dR 0<dR 4)
 (bT (nK n 4==1)
 (.rq (1≤1∧∀(e o:Nat),e<1→o<2→BZ (bC C.top [C.p (PV.s (aH #[104,111,115,116])),C.p (PV.s (aH #[97]))] ((e+0)*2+o))=true)
 (.done .ret (St.mk [V.c (C.p (PV.l 2 1 fun e o=>mZ (bC C.top [C.p (PV.s (aH #[104,111,115,116])),C.p (PV.s (aH #[97]))] ((e+0)*2+o))))] [])))
 (bT (nK n 4==2)
 (.rq (1≤1∧∀(e o:Nat),e<1→o<2→BZ (bC C.top [C.p (PV.s (aH #[104,111,115,116])),C.p (PV.s (aH #[98]))] ((e+0)*2+o))=true)
 (.done .ret (St.mk [V.c (C.p (PV.l 2 1 fun e o=>mZ (bC C.top [C.p (PV.s (aH #[104,111,115,116])),C.p (PV.s (aH #[98]))] ((e+0)*2+o))))] [])))
 (bT (nK n 4==3)
 (.rq
 (2≤2 ∧
 ∀(e o:Nat),
 e<2 →
 o<2 →
 BZ
 (bC C.top [C.p (PV.s (aH #[104,111,115,116])),C.p (PV.s (aH #[98])),C.p (PV.s (aH #[122,111,110,101])),C.p (PV.s (aH #[120]))]
 ((e+0)*2+o)) =
 true)
 (.done .ret
 (St.mk [V.c (C.p (PV.l 2 2 fun e o=>mZ (bC C.top [C.p (PV.s (aH #[104,111,115,116])),C.p (PV.s (aH #[98])),C.p (PV.s (aH #[122,111,110,101])),C.p (PV.s (aH #[120]))] ((e+0)*2+o))))] [])))
 (.done .ret (St.mk [V.c (C.p (PV.z (bB none 0 0)))] []))))):=by kernel_rfl
theorem aMA(a0 a2 a4 a5 b0 b2 b4 b5:Int)(a1 a6 b1 b6:ByteArray)(a3 b3:List (ByteArray×ByteArray)):dF aLC (dC aB Try.f55) (oB Try.f55 [pgW a0 a1 a2 a3 a4 a5 a6,pgW b0 b1 b2 b3 b4 b5 b6]) (mC [] [] (bK aB Try.f55))=Tr.rq
 ((kI aN 2 (bS cS a3.length (aE aN a3)) a3.length (aE aN a3)∧kI aN 2 (bS cS b3.length (aE aN b3)) b3.length (aE aN b3))∧(a3.length≤1000000∨b3.length≤1000000))
 (bT (decide (bS cS a3.length (aE aN a3)=bS cS b3.length (aE aN b3)))
 (bT (a1.toList==b1.toList) (bT (a2==b2) (.done .ret (St.mk [V.c (C.p (PV.b (a4==b4)))] [])) (.done .ret (St.mk [V.c (C.p (PV.b false))] [])))
 (.done .ret (St.mk [V.c (C.p (PV.b false))] [])))
 (.done .ret (St.mk [V.c (C.p (PV.b false))] []))):=by kernel_rfl
theorem aPB(L:List Int)(i:Int):GC aL5 (lD aB Try.f13) (oB Try.f13 [aU aT 1 L,iV i]) (mC [] [] (bK aB Try.f13))=Tr.rq (kI aT 1 (bS gH L.length (aE aT L)) L.length (aE aT L)∧(∀(t:Int),t∈bS gH L.length (aE aT L)→eW aC t)∧dR 0<dR 8)
 (.rq (0≤iG (bS gH L.length (aE aT L)) i 8∧dR 0<dR 7∧eW aC (iG (bS gH L.length (aE aT L)) i 8 / 7))
 (.rq (0≤iG (bS gH L.length (aE aT L)) i 8 / 7∧iG (bS gH L.length (aE aT L)) i 8 / 7<(↑2:Int))
 (.rq ((iG (bS gH L.length (aE aT L)) i 8 / 7).toNat+0<2)
 (.rq (eW aC (i+1))
 (.rq (kI aT 1 (bS gH L.length (aE aT L)) L.length (aE aT L)∧(∀(t:Int),t∈bS gH L.length (aE aT L)→eW aC t)∧dR 0<dR 8)
 (.rq (0≤iG (bS gH L.length (aE aT L)) (i+1) 8∧dR 0<dR 7∧eW aC (iG (bS gH L.length (aE aT L)) (i+1) 8 / 7))
 (.rq (eW aC (1+iG (bS gH L.length (aE aT L)) (i+1) 8 / 7))
 (.rq (eW aC (i+2))
 (.rq (kI aT 1 (bS gH L.length (aE aT L)) L.length (aE aT L)∧(∀(t:Int),t∈bS gH L.length (aE aT L)→eW aC t)∧dR 0<dR 4)
 (.rq (0≤iG (bS gH L.length (aE aT L)) (i+2) 4∧dR 0<dR 2∧eW aC (iG (bS gH L.length (aE aT L)) (i+2) 4 / 2))
 (.rq (eW aC (iG (bS gH L.length (aE aT L)) (i+2) 4 / 2))
 (.rq (eW aC (i+3))
 (.rq
 (kI aT 1 (bS gH L.length (aE aT L)) L.length (aE aT L)∧(∀(t:Int),t∈bS gH L.length (aE aT L)→eW aC t)∧dR 0<dR 6)
 (.rq (eW aC (i+4))
 (.rq
 (kI aT 1 (bS gH L.length (aE aT L)) L.length (aE aT L) ∧
 (∀(t:Int),t∈bS gH L.length (aE aT L)→eW aC t)∧dR 0<dR 4)
 (.rq (eW aC (iG (bS gH L.length (aE aT L)) (i+3) 6+iG (bS gH L.length (aE aT L)) (i+4) 4))
 (.rq (eW aC (i+5))
 (.rq
 (kI aT 1 (bS gH L.length (aE aT L)) L.length (aE aT L) ∧
 (∀(t:Int),t∈bS gH L.length (aE aT L)→eW aC t)∧dR 0<dR 3)
 (.rq (0≤iG (bS gH L.length (aE aT L)) (i+5) 3∧iG (bS gH L.length (aE aT L)) (i+5) 3<(↑3:Int))
 (.rq ((iG (bS gH L.length (aE aT L)) (i+5) 3).toNat+0<3)
 (.done .ret
 (St.mk [V.a [C.p (PV.i aC 0),C.p (PV.s (bC (aH #[]) [aH #[104,111,116],aH #[99,111,108,100]] ((iG (bS gH L.length (aE aT L)) i 8 / 7).toNat+0))),C.p (PV.i aC (1+iG (bS gH L.length (aE aT L)) (i+1) 8 / 7)),C.p (PV.l 2 (UN (iG (bS gH L.length (aE aT L)) (i+2) 4 / 2)).length (aE aN (UN (iG (bS gH L.length (aE aT L)) (i+2) 4 / 2)))),C.p (PV.i aC (iG (bS gH L.length (aE aT L)) (i+3) 6)),C.p (PV.i aC (iG (bS gH L.length (aE aT L)) (i+3) 6+iG (bS gH L.length (aE aT L)) (i+4) 4)),C.p (PV.s (bC (aH #[]) [aH #[],aH #[111,112,115],aH #[97,98,99,100,101,102,103,104,105,106,107,108,109,110,111,112]] ((iG (bS gH L.length (aE aT L)) (i+5) 3).toNat+0)))]] [])))))))))))))))))))))):=by kernel_rfl
def mP(L:List Int)(i:Int):Pg:=⟨0,bC ⟨#[]⟩ [⟨#[104,111,116]⟩,⟨#[99,111,108,100]⟩] (iG L i 8 / 7).toNat,1+iG L (i+1) 8 / 7,UN (iG L (i+2) 4 / 2),iG L (i+3) 6,iG L (i+3) 6+iG L (i+4) 4,bC ⟨#[]⟩ [⟨#[]⟩,⟨#[111,112,115]⟩,⟨#[97,98,99,100,101,102,103,104,105,106,107,108,109,110,111,112]⟩] (iG L (i+5) 3).toNat⟩
def rI(i:Int):Prop := -1000≤i∧i≤1000000
def aED:Mod
 |[x,.c (.p (.i .i64 i))]=>match CM x with
  |some (p,A)=>some (p∧(∀t∈A,eW .i64 t)∧rI i,uK (mP A i))
  |none=>none
 |_=>none
theorem pQ{L:List Int}{i m:Int}(h:0<m):0≤iG L i m∧iG L i m<m:=by
 unfold iG;split
 ·omega
 ·exact⟨Int.emod_nonneg _ (by omega),Int.emod_lt_of_pos _ h⟩
section
variable {G:Nat→Option Obj}
set_option maxRecDepth 100000 in
theorem TB:iW aB G 21 OO:=by
 intro args p v hm hp h;unfold OO at hm
 split at hm;rotate_left;· cases hm
 split at hm;rotate_left;· cases hm
 rename_i x i m _ q L hx;obtain⟨rfl,rfl⟩:=eY hm;obtain⟨hL,hI,hm0⟩:=hp;refine jW.args (args':=[aU aT 1 L,iV i,iV m]) ?_ (.cons (oZ hx hL) (.cons (.refl _) (.cons (.refl _) .nil)))
 refine qN Try.func21 (by kernel_rfl) rfl ?_ h
 refine eG.evA GA [] [] rfl (aPA L i m) ?_
 have bad:(i<0∨L.length≤i)→iE (V.c (C.p (PV.i .i64 0))) (iV (iG L i m)):=fun hi=>by
  unfold iG;rw[if_pos hi];exact iE.refl _
 have good:¬(i<0∨L.length≤i)→iE (iV (nK (L.getD i.toNat default) m)) (iV (iG L i m)):=fun hi=>by
  unfold iG;rw[if_neg hi];exact iE.refl _
 have hin:¬(i<0∨L.length≤i)→eW .i64 (L.getD i.toNat default):=fun hi=>hI _ (sF (by omega))
 clear hm hx;simp only[cD,bA,aP,fP,decide_eq_true_eq,decide_eq_false_iff_not];refine⟨fun h1=>⟨bad (.inl h1)⟩,fun h1=>⟨fun h2=>⟨bad (.inr h2)⟩,fun h2=>⟨⟨by omega,by omega⟩,⟨hin (by omega),hm0⟩,⟨good (by omega)⟩⟩⟩⟩
theorem aKN(x y:ByteArray):kI aN 2 [(x,y)] 1 fun e o=>mZ (bC C.top [C.p (.s x),C.p (.s y)] ((e+0)*2+o)):=⟨rfl,fun e o he ho=>by
 obtain rfl:e=0:=by omega
 have:o=0∨o=1:=by omega
 rcases this with rfl|rfl<;>rfl⟩
theorem aQW(x y z w:ByteArray):kI aN 2 [(x,y),(z,w)] 2 fun e o=>mZ (bC C.top [C.p (.s x),C.p (.s y),C.p (.s z),C.p (.s w)] ((e+0)*2+o)):=⟨rfl,fun e o he ho=>by
 have:e=0∨e=1:=by omega
 have h2:o=0∨o=1:=by omega
 rcases this with rfl|rfl<;>rcases h2 with rfl|rfl<;>rfl⟩
set_option maxRecDepth 100000 in
theorem TD:iW aB G 41 AN:=by
 intro args p v hm hp h;unfold AN at hm
 split at hm;rotate_left;· cases hm
 rename_i n;obtain⟨rfl,rfl⟩:=eY hm
 refine qN Try.func41 (by kernel_rfl) rfl ?_ h
 refine eG.evA GA [] [] rfl (aSV n) ?_;simp only[cD,bA,aP,fP,beq_iff_eq,beq_eq_false_iff_ne,ne_eq];unfold UN;refine⟨⟨hp,by decide⟩,fun h1=>⟨⟨by decide,fun e o he ho=>?_⟩,⟨?_⟩⟩,fun h1=>⟨fun h2=>⟨⟨by decide,fun e o he ho=>?_⟩,⟨?_⟩⟩,fun h2=>⟨fun h3=>⟨⟨by decide,fun e o he ho=>?_⟩,⟨?_⟩⟩,fun h3=>⟨?_⟩⟩⟩⟩
 ·obtain rfl:e=0:=by omega
  have:o=0∨o=1:=by omega
  rcases this with rfl|rfl<;>rfl
 ·rw[if_pos h1];exact(aKN _ _).le
 ·obtain rfl:e=0:=by omega
  have:o=0∨o=1:=by omega
  rcases this with rfl|rfl<;>rfl
 ·rw[if_neg h1,if_pos h2];exact(aKN _ _).le
 ·have:e=0∨e=1:=by omega
  have h2:o=0∨o=1:=by omega
  rcases this with rfl|rfl<;>rcases h2 with rfl|rfl<;>rfl
 ·rw[if_neg h1,if_neg h2,if_pos h3];exact(aQW _ _ _ _).le
 ·rw[if_neg h1,if_neg h2,if_neg h3];exact iE.p (lY.nil 2 _)
theorem PX:bG aB G aL5:=eC (by simp;exact⟨TB,TD⟩)
theorem QF:bG aB G aLC:=eC (by simp;exact WM)
set_option maxRecDepth 100000 in
theorem aIJ:iW aB G 13 aED:=by
 intro args p v hm hp h;unfold aED at hm
 split at hm;rotate_left;· cases hm
 split at hm;rotate_left;· cases hm
 rename_i x i _ q L hx;obtain⟨rfl,rfl⟩:=eY hm;obtain⟨hL,hI,hi0,hi1⟩:=hp;refine jW.args (args':=[aU aT 1 L,iV i]) ?_ (.cons (oZ hx hL) (.cons (.refl _) .nil));clear hm hx hL
 refine HI PX Try.func13 (by kernel_rfl) rfl (aPB L i) ?_ h
 simp only[cD,bA,iA,KF,iS,eW]
 have p1:=pQ (L:=L) (i:=i) (m:=8) (by omega)
 have p2:=pQ (L:=L) (i:=i+1) (m:=8) (by omega)
 have p3:=pQ (L:=L) (i:=i+2) (m:=4) (by omega)
 have p4:=pQ (L:=L) (i:=i+3) (m:=6) (by omega)
 have p5:=pQ (L:=L) (i:=i+4) (m:=4) (by omega)
 have p6:=pQ (L:=L) (i:=i+5) (m:=3) (by omega)
 repeat' (first|exact dP _ _ _|exact hI|omega|decide|exact⟨_,rfl,iE.refl _⟩|apply And.intro)
end
structure Cw {α:Type} (F:α→α→Int):Prop where
 anti:∀a b,F a b = - F b a
 zero:∀a b,F a b=0↔a=b
 le:∀a b c,F a b≤0→F b c≤0→F a c≤0
def aAL(p:Pg):ByteArray×Int×List (ByteArray×ByteArray)×Int×Int×Int×ByteArray:=(p.ru,p.ve,p.L,p.st,p.kd,p.se,p.to)
theorem PA{a b:Pg}(h:aAL a=aAL b):a=b:=by
 obtain⟨a1,a2,a3,a4,a5,a6,a7⟩:=a;obtain⟨b1,b2,b3,b4,b5,b6,b7⟩:=b;unfold aAL at h;simp only[Prod.mk.injEq]at h;obtain⟨h1,h2,h3,h4,h5,h6,h7⟩:=h;subst h1;subst h2;subst h3;subst h4;subst h5;subst h6;subst h7;rfl
instance:DecidableEq Pg:=fun a b=>decidable_of_iff (aAL a=aAL b) ⟨PA,fun h=>by rw[h]⟩
def leP:V→List Pg→Option Prop
 |.c (.p (.l 7 n f)),A=>some (n=A.length∧∀e o,e<n→o<7→lY (f e o) (aE aG A e o))
 |.c (.p (.z (.slice none 0 0))),A=>some (A=[])
 |_,_=>none
theorem UJ{x:V}{A:List Pg}{p:Prop}(h:leP x A=some p)(hp:p):iE x (aU aG 7 A):=by
 unfold leP at h;split at h
 ·injection h with h
  subst h;obtain⟨rfl,h2⟩:=hp;exact iE.p (lY.l h2)
 ·injection h with h
  subst h;subst hp;exact iE.p (lY.nil 7 _)
 ·cases h
def aQP(A B:List Pg):Mod
 |[x,y]=>match leP x A,leP y B with
  |some p,some q=>some ((p∧q)∧A.length≤1000000∧∀a∈A,a.L.length≤1000000,bV (decide (A=B)))
  |_,_=>none
 |_=>none
def UY:Ext:=kH [(55,LP)]
theorem tE1(A B:List Pg):dF fH (dL 4 (dC aB Try.f23)) (oB Try.f23 [aU aG 7 A,aU aG 7 B]) (gW (fJ 68 [0,1,5]) (bK aB Try.f23))=bT ((↑A.length:Int) != (↑B.length:Int)) (.done .ret (St.mk [V.c (C.p (PV.b false))] []))
 (.done .normal
 (bY 68 [(0,.c (.p (.l 7 A.length (aE aG A)))),(1,.c (.p (.l 7 B.length (aE aG B)))),(5,.c (.p (.i .i64 0)))] [])):=by kernel_rfl
theorem tE2(A B:List Pg)(i:Nat):dF UY (gQ (dC aB Try.f23) 4) (bY 68 [(0,aU aG 7 A),(1,aU aG 7 B),(5,iV (i:Nat))] []) (gW (fJ 68 [0,1,5]) (bK aB Try.f23))=bT (decide ((↑i:Int)<(↑A.length:Int)))
 (.rq (0≤(↑i:Int)∧(↑i:Int)<(↑A.length:Int))
 (.rq (0≤(↑i:Int)∧(↑i:Int)<(↑B.length:Int))
 (.rq
 ((kI aN 2 (bS cS (A.getD (↑i:Int).toNat default).L.length (aE aN (A.getD (↑i:Int).toNat default).L)) (A.getD (↑i:Int).toNat default).L.length
 (aE aN (A.getD (↑i:Int).toNat default).L) ∧
 kI aN 2 (bS cS (B.getD (↑i:Int).toNat default).L.length (aE aN (B.getD (↑i:Int).toNat default).L)) (B.getD (↑i:Int).toNat default).L.length
 (aE aN (B.getD (↑i:Int).toNat default).L)) ∧
 ((Pg.mk (A.getD (↑i:Int).toNat default).kd (A.getD (↑i:Int).toNat default).ru (A.getD (↑i:Int).toNat default).ve
 (bS cS (A.getD (↑i:Int).toNat default).L.length (aE aN (A.getD (↑i:Int).toNat default).L)) (A.getD (↑i:Int).toNat default).st (A.getD (↑i:Int).toNat default).se
 (A.getD (↑i:Int).toNat default).to).L.length ≤
 1000000 ∨
 (Pg.mk (B.getD (↑i:Int).toNat default).kd (B.getD (↑i:Int).toNat default).ru (B.getD (↑i:Int).toNat default).ve
 (bS cS (B.getD (↑i:Int).toNat default).L.length (aE aN (B.getD (↑i:Int).toNat default).L)) (B.getD (↑i:Int).toNat default).st (B.getD (↑i:Int).toNat default).se
 (B.getD (↑i:Int).toNat default).to).L.length ≤
 1000000))
 (bT
 (!kO
 (Pg.mk (A.getD (↑i:Int).toNat default).kd (A.getD (↑i:Int).toNat default).ru (A.getD (↑i:Int).toNat default).ve
 (bS cS (A.getD (↑i:Int).toNat default).L.length (aE aN (A.getD (↑i:Int).toNat default).L)) (A.getD (↑i:Int).toNat default).st (A.getD (↑i:Int).toNat default).se
 (A.getD (↑i:Int).toNat default).to)
 (Pg.mk (B.getD (↑i:Int).toNat default).kd (B.getD (↑i:Int).toNat default).ru (B.getD (↑i:Int).toNat default).ve
 (bS cS (B.getD (↑i:Int).toNat default).L.length (aE aN (B.getD (↑i:Int).toNat default).L)) (B.getD (↑i:Int).toNat default).st (B.getD (↑i:Int).toNat default).se
 (B.getD (↑i:Int).toNat default).to))
 (.done .ret (St.mk [V.c (C.p (PV.b false))] []))
 (.rq (0≤(↑i:Int)∧(↑i:Int)<(↑A.length:Int))
 (.rq (0≤(↑i:Int)∧(↑i:Int)<(↑B.length:Int))
 (bT ((A.getD (↑i:Int).toNat default).kd != (B.getD (↑i:Int).toNat default).kd) (.done .ret (St.mk [V.c (C.p (PV.b false))] []))
 (.rq (0≤(↑i:Int)∧(↑i:Int)<(↑A.length:Int))
 (.rq (0≤(↑i:Int)∧(↑i:Int)<(↑B.length:Int))
 (bT ((A.getD (↑i:Int).toNat default).se != (B.getD (↑i:Int).toNat default).se) (.done .ret (St.mk [V.c (C.p (PV.b false))] []))
 (.rq (0≤(↑i:Int)∧(↑i:Int)<(↑A.length:Int))
 (.rq (0≤(↑i:Int)∧(↑i:Int)<(↑B.length:Int))
 (bT (!(A.getD (↑i:Int).toNat default).to.toList==(B.getD (↑i:Int).toNat default).to.toList) (.done .ret (St.mk [V.c (C.p (PV.b false))] []))
 (.rq (eW aC ((↑i:Int)+1))
 (.done .normal
 (bY 68 [(0,.c (.p (.l 7 A.length (aE aG A)))),(1,.c (.p (.l 7 B.length (aE aG B)))),(5,.c (.p (.i .i64 ((↑i:Int)+1))))] []))))))))))))))))
 (.done (.exit 0)
 (bY 68 [(0,.c (.p (.l 7 A.length (aE aG A)))),(1,.c (.p (.l 7 B.length (aE aG B)))),(5,.c (.p (.i .i64 (↑i:Int))))] [])):=by kernel_rfl
theorem tE3(A B:List Pg)(i:Nat):dF fH (bL 5 (dC aB Try.f23)) (bY 68 [(0,aU aG 7 A),(1,aU aG 7 B),(5,iV (i:Nat))] []) (gW [] (bK aB Try.f23))=Tr.done X.ret (St.mk [V.c (C.p (PV.b true))] []):=by kernel_rfl
theorem aMV{a b:Pg}(h1:kO a b=true)(h2:a.kd=b.kd)(h3:a.se=b.se)(h4:a.to=b.to):a=b:=by
 unfold kO at h1;simp only[aQ,decide_eq_true_eq]at h1;obtain⟨q1,q2,q3,q4⟩:=h1;refine PA ?_;unfold aAL;rw[q1,q2,q3,q4,h2,h3,h4]
theorem SE(a:Pg):kO a a=true:=by unfold kO;simp
section
variable {G:Nat→Option Obj}
set_option maxRecDepth 100000 in
theorem WP:iW aB G 55 LP:=by
 intro args p v hm hp h;unfold LP at hm
 split at hm;rotate_left;· cases hm
 split at hm;rotate_left;· cases hm
 rename_i x y _ _ p1 a p2 b hx hy;obtain⟨rfl,rfl⟩:=eY hm;obtain⟨⟨hA,hB⟩,hl⟩:=hp;refine jW.args (args':=[uK a,uK b]) ?_ (.cons (mT hx hA) (.cons (mT hy hB) .nil));clear hm hx hy;obtain⟨a0,a1,a2,a3,a4,a5,a6⟩:=a;obtain⟨b0,b1,b2,b3,b4,b5,b6⟩:=b
 refine qN Try.func55 (by kernel_rfl) rfl ?_ h
 refine eG.evA QF [] [] rfl (aMA a0 a2 a4 a5 b0 b2 b4 b5 a1 a6 b1 b6 a3 b3) ?_;simp only[cD,bA,aP,fP,gN,qR]
 have e:kO ⟨a0,a1,a2,a3,a4,a5,a6⟩ ⟨b0,b1,b2,b3,b4,b5,b6⟩=(decide (a3=b3)&&(decide (a1=b1)&&(decide (a2=b2)&&decide (a4=b4)))):=rfl
 have e4:(a4==b4)=decide (a4=b4):=by rw[Bool.eq_iff_iff];simp
 have e2:(a2==b2)=decide (a2=b2):=by rw[Bool.eq_iff_iff];simp
 rw[e,e4,e2];refine⟨⟨⟨dP _ _ _,dP _ _ _⟩,hl⟩,fun h1=>⟨fun h2=>⟨fun h3=>⟨?_⟩,fun h3=>⟨?_⟩⟩,fun h2=>⟨?_⟩⟩,fun h1=>⟨?_⟩⟩
 ·rw[h1,h2,h3];exact iE.refl _
 ·rw[h1,h2,h3];exact iE.refl _
 ·rw[h1,h2];exact iE.refl _
 ·rw[h1];exact iE.refl _
theorem zH:bG aB G UY:=eC (by simp;exact WP)
set_option maxRecDepth 100000 in
theorem aQI(A B:List Pg):iW aB G 23 (aQP A B):=by
 intro args p v hm hp h;unfold aQP at hm
 split at hm;rotate_left;· cases hm
 split at hm;rotate_left;· cases hm
 rename_i x y _ _ p1 p2 hx hy;obtain⟨rfl,rfl⟩:=eY hm;obtain⟨⟨hA,hB⟩,hlen,hLL⟩:=hp;refine jW.args (args':=[aU aG 7 A,aU aG 7 B]) ?_ (.cons (UJ hx hA) (.cons (UJ hy hB) .nil));clear hA hB hm hx hy
 refine qN Try.func23 (by kernel_rfl) rfl ?_ h
 refine eG.evG aY 4 (tE1 A B) ?_;simp only[cD,aP,fP,cC,bne_iff_ne,bne_eq_false_iff_eq,ne_eq];refine⟨fun h1=>⟨iE.of_eq ?_⟩,fun h1=>⟨?_⟩⟩
 ·rw[decide_eq_false (fun e=>h1 (by rw[e]))];rfl
 have h1:A.length=B.length:=by omega
 refine eG.loop' (l:=bL 4 (dC aB Try.f23)) (b:=inr (inr (bC .skip (dC aB Try.f23) 4))) (r:=bL 5 (dC aB Try.f23)) (id:=0) (by kernel_rfl) (σ:=Nat)
   (fun i=>bY 68 [(0,aU aG 7 A),(1,aU aG 7 B),(5,iV (i:Nat))] []) (fun i=>i≤A.length∧A.take i=B.take i) (fun i=>A.length-i) 0 ⟨bX _,rfl⟩ (aI (by kernel_rfl)) ?_
 rintro i ⟨hi,hc⟩ Q1 q1n q1e -;refine eG.evH zH (tE2 A B i) ?_;simp only[cD,bA,aP,fP,cC,jZ,decide_eq_true_eq,decide_eq_false_iff_not,bne_iff_ne,bne_eq_false_iff_eq,ne_eq,eW,show (↑i:Int).toNat=i from rfl,gN,qR,eQ,fX];refine⟨fun h2=>?_,fun h2=>⟨q1e _ ?_⟩⟩
 ·have hA:i<A.length:=by omega
  have hB:i<B.length:=by omega
  have tA:=uA hA
  have tB:=uA hB
  have mA:A.getD i default∈A:=by
   rw[aD,aK hA];exact jQ _
  have ne:A.getD i default≠B.getD i default→A≠B:=fun h e=>h (by rw[e])
  have hLa:=hLL _ mA
  generalize A.getD i default=a at tA ne hLa ⊢
  generalize B.getD i default=b at tB ne ⊢
  have bad:a≠b→iE (V.c (C.p (PV.b false))) (bV (decide (A=B))):=fun hq=>by
   rw[decide_eq_false (ne hq)];exact iE.refl _
  refine⟨by omega,by omega,⟨⟨dP _ _ _,dP _ _ _⟩,.inl hLa⟩,fun c1=>⟨bad fun e=>?_⟩,fun c1=>⟨by omega,by omega,fun c2=>⟨bad fun e=>c2 (by rw[e])⟩,fun c2=>⟨by omega,by omega,fun c3=>⟨bad fun e=>c3 (by rw[e])⟩,fun c3=>⟨by omega,by omega,fun c4=>⟨bad fun e=>c4 (by rw[e])⟩,fun c4=>⟨by omega,⟨q1n (i+1) _ ⟨by omega,?_⟩ (by omega) (aI (by kernel_rfl))⟩⟩⟩⟩⟩⟩
  ·subst e
   have:kO a a=false:=c1
   rw[SE]at this;cases this
  ·have:kO a b=true:=c1
   rw[tA,tB,hc,aMV this c2 c3 c4]
 ·rw[List.take_of_length_le (by omega),List.take_of_length_le (by omega)]at hc
  refine eG.evH aY (tE3 A B i) ?_;simp only[aP,fP];rw[decide_eq_true hc];exact⟨iE.refl _⟩
end
def pK(st:St):nT→Option Nat
 |.app _ _ _ _ x _=>match st.ev x with
  |.c (.sl id _ _ _)=>some id
  |_=>none
 |_=>none
def KPZ(id0:Option Nat)(h h':List AO):Prop:=(∀id,id0≠some id→id<h.length→bC .gone h' id=bC .gone h id)∧h.length≤h'.length∧∀id,id0=some id→(bC .gone h id).kp=false
theorem KPZ.ck{id0:Option Nat}{h h':List AO}(k:KPZ id0 h h'):CK h h':=by
 intro id x hx hid
 by_cases e:id0=some id
 ·have:=k.2.2 id e
  rw[hid,hx]at this;cases this
 ·rw[k.1 id e (fZ hid (vZ hx))];exact hid
theorem OZ{h:List AO}{id:Nat}{x:AO}(hn:(bC .gone h id).kp=false):KPZ (some id) h (fB x (eT .gone h id)):=by
 refine⟨fun i hi hl=>?_,by rw[kF,eV,cE];omega,fun i hi=>by injection hi with hi;subst hi;exact hn⟩;rw[fM _ _ _ (by rw[eV,cE];exact hl),cP _ _ _ (fun e=>hi (by rw[e]))]
theorem aES{h:List AO}{x:AO}:KPZ none h (fB x h):=⟨fun i _ hl=>fM _ _ _ hl,by rw[kF];omega,fun i hi=>by cases hi⟩
section
variable {P:Program} {G:Nat→Option Obj} {ops:Array Oper} {al:List AI} {ext:Ext} {U:Nat→Prop} {F:St} {own:Nat→Nat→Prop}
variable {β0 β β':Bt} {R0 R R':Nat→Prop} {w0 w w':World} {a:Act} {listed:Array Bool}
theorem aBF{op:nT}(ho:op.isApp=true){st st':St}(hag:dU st st' op.sls)(hh:st'.h=st.h){k:V→List AO→Tr}{K:X→St→Prop}(h:(iU ext st k op).holds P G K) :
  (iU ext st' (fun v h'=>.rq ((k v h').holds P G K∧KPZ (pK st op) st.h h') (.done .normal st')) op).holds P G fun _ _=>True:=by
 cases op<;>simp only[nT.isApp,Bool.false_eq_true]at ho;rename_i ty sz bytes z x y
 have ex:st'.ev x=st.ev x:=cQ (dU.left hag)
 have ey:st'.ev y=st.ev y:=cQ (dU.right hag)
 have src:∀ {kk kk':Nat→(Nat→Nat→C)→Tr} {K K':X→St→Prop},(∀m g,(kk m g).holds P G K→(kk' m g).holds P G K')→(nD st sz y kk).holds P G K→(nD st' sz y kk').holds P G K':=by
  intro kk kk' K K' hk h;simp only[nD,ey,hh]at h ⊢;split at h
  ·rename_i e1;(try rw[e1]);exact hk _ _ h
  ·rename_i e1;(try rw[e1]);obtain⟨c1,c2⟩:=bZ h;exact eB c1 (hk _ _ c2)
  ·rename_i e1
   (try rw[e1])
   (try dsimp only at h ⊢)
   split at h
   ·rename_i e2;(try rw[e2]);obtain⟨c1,c2,c3⟩:=bZ h;exact eB c1 ⟨c2,hk _ _ c3⟩
   ·exact h.elim
  ·exact h.elim
 simp only[iU]at h ⊢;obtain⟨c1,h⟩:=bZ h;refine eB c1 ?_
 rcases oM h with⟨h,hoff⟩|⟨id,sz',off,len,e1,e2,h⟩
 ·have hoff':(yS st' x (xT st' ty sz x fun n f old=>nD st' sz y fun m g=>
      .rq ((n+m)*bytes≤140737488355328∧n+m≤140737488355328∧∀e o,e<m→o<sz→iQ (g e o)=true) (.rq ((k (.c (.sl (fG st'.h) sz 0 (n+m))) (fB (.row ty sz (n+m) (fI n f g)) (lB st'.h old))).holds P G K∧KPZ (pK st (.app ty sz bytes z x y)) st.h (fB (.row ty sz (n+m) (fI n f g)) (lB st'.h old))) (.done .normal st')))
      (CU st' (fun v h'=>.rq ((k v h').holds P G K∧KPZ (pK st (.app ty sz bytes z x y)) st.h h') (.done .normal st')) ty sz bytes x y)).holds P G fun _ _=>True:=by
    have hd:(xT st' ty sz x fun n f old=>nD st' sz y fun m g=>
     .rq ((n+m)*bytes≤140737488355328∧n+m≤140737488355328∧∀e o,e<m→o<sz→iQ (g e o)=true) (.rq ((k (.c (.sl (fG st'.h) sz 0 (n+m))) (fB (.row ty sz (n+m) (fI n f g)) (lB st'.h old))).holds P G K∧KPZ (pK st (.app ty sz bytes z x y)) st.h (fB (.row ty sz (n+m) (fI n f g)) (lB st'.h old))) (.done .normal st'))).holds P G fun _ _=>True:=by
     simp only[xT,ex,hh]at h ⊢;split at h
     ·rename_i e1
      have ea:pK st (.app ty sz bytes z x y)=none:=by unfold pK;dsimp only;rw[e1]
      (try rw[e1])
      refine src (fun m g q=>?_) h;exact⟨q.1,⟨q.2,by rw[ea];exact aES⟩,trivial⟩
     ·rename_i e1
      have ea:∀ {i sz0 f l},st.ev x=.c (.sl i sz0 f l)→pK st (.app ty sz bytes z x y)=some i:=fun e=>by unfold pK;dsimp only;rw[e]
      have ea:=ea e1
      (try rw[e1])
      (try dsimp only at h ⊢)
      split at h
      ·rename_i e2
       (try rw[e2])
       obtain⟨c1,c2,c3⟩:=bZ h;refine eB c1 ⟨c2,src (fun m g q=>?_) c3⟩;exact⟨q.1,⟨q.2,by rw[ea];exact OZ (by rw[e2];rfl)⟩,trivial⟩
      ·exact h.elim
     ·exact h.elim
    unfold yS;rw[ex];split
    ·rename_i e1
     have:=hoff _ _ _ _ e1
     subst this;exact hd
    ·exact hd
  exact hoff'
 ·have ea:pK st (.app ty sz bytes z x y)=some id:=by unfold pK;dsimp only;rw[e1]
  unfold yS;rw[ex,e1];dsimp only
  have hb:cA off 0=false:=by
   cases hq:cA off 0 with
   |false=>rfl
   |true=>exact absurd (aS hq) e2
  rw[hb]
  change (CU st' (fun v h'=>.rq ((k v h').holds P G K∧KPZ (pK st (.app ty sz bytes z x y)) st.h h') (.done .normal st')) ty sz bytes x y).holds P G fun _ _=>True
  simp only[CU,ex,e1,hh]at h ⊢;split at h
  ·rename_i e3
   (try rw[e3])
   obtain⟨c1,c2,c3⟩:=bZ h
   have hck:∀x':AO,KPZ (pK st (.app ty sz bytes z x y)) st.h (fB x' (eT .gone st.h id)):=fun x'=>by rw[ea];exact OZ (by rw[e3];rfl)
   refine eB c1 ⟨c2,src (fun m g q=>?_) c3⟩;exact⟨q.1,⟨⟨q.2.1,hck _⟩,trivial⟩,⟨⟨q.2.2,hck _⟩,trivial⟩⟩
  ·exact h.elim
theorem IY{ai:AI}{o:Nat→Prop}(hat:HU P G ext ai F o)(hd:ai.op.hd=true)(hlb:kZ F ai.op=true){F2:St}(hck:CK F.h F2.h)(hown:∀x mk id,uF F ai.op=some (x,mk)→(∀s,ai.dst=some s→s<F.t.length→bC (.c .top) F.t s=mk id)→bC .gone F.h id=x→o id→id<F.h.length→bC .gone F2.h id=bC .gone F.h id∧id<F2.h.length)(htl:F2.t.length=F.t.length)
  (hs1:∀s∈ai.sls,bC (.c .top) F2.t s=bC (.c .top) F.t s) (hs2:∀s,ai.dst=some s→bC (.c .top) F2.t s=bC (.c .top) F.t s):HU P G ext ai F2 o:=by
 intro tM hag
 have hag1:dU F ⟨tM,F.h⟩ ai.sls:=fun s hs=>(hag s hs).trans (hs1 s hs)
 rcases hat tM hag1 with⟨hw,hd'⟩|⟨hw,v,hd',hk⟩|⟨hw,x,mk,id,hn,hd',hx,hid,ho⟩
 ·exact .inl ⟨hw,fun s h1 h2=>(hs2 s h1).trans (hd' s h1 (by omega))⟩
 ·refine .inr (.inl ⟨hw,v,fun s h1 h2=>(hs2 s h1).trans (hd' s h1 (by omega)),fun k' K' h=>?_⟩)
  cases hnw:ai.op.nw with
  |true=>exact(EU hnw hk).elim
  |false=>exact FI hd hnw (AD (st:=F) (dU.right hag1) hlb) hck (hk (fun v _=>k' v F2.h) K' h)
 ·have hn':uF F ai.op=some (x,mk):=by rw[←hn];exact(qJ (st:=F) (st':=⟨tM,F.h⟩) (dU.right hag1)).symm
  obtain⟨q1,q2⟩:=hown x mk id hn' hd' hx ho hid;refine .inr (.inr ⟨hw,x,mk,id,?_,fun s h1 h2=>(hs2 s h1).trans (hd' s h1 (by omega)),q1.trans hx,q2,ho⟩);rw[←hn];exact qJ (st:=⟨tM,F.h⟩) (st':=⟨tM,F2.h⟩) (fun _ _=>rfl)
structure pM (ops:Array Oper) (al:List AI) (N:Nat):Prop where
 back:∀i o,ops[i]?=some o→∀e∈o.after,fR .any e=true→e.on<i
 dst:∀i j x y d,al[i]?=some x→al[j]?=some y→i<N→j<N→i≠j→x.dst=some d→y.dst≠some d
 dep:∀i j x y d,al[i]?=some x→al[j]?=some y→i<N→j<N→y.dst=some d→d∈x.sls→cY .any ops i j=true
 tl1:∀i,i<N→N<ops.size→∃j,i<j∧j≤N∧cY .any ops j i=true
 tl2:∀t,N<t→t<ops.size→cY .any ops t (t-1)=true
 len:al.length=ops.size
 le:N≤ops.size
variable {N:Nat}
theorem zW(hok:pM ops al N)(inv:HeadInv .any ops N listed){i i0:Nat}(h0:i0<N)(hu:listed.getD i0 false=false)(hi:i∈eH .any ops listed):i<N:=by
 rcases cL i N with h|h
 case inl=>exact h
 obtain⟨q1,o,q2,q3⟩:=mem_ready.1 hi
 have his:i<ops.size:=(bH.1 q2).1
 by_cases e:i=N
 ·subst e
  have key:∀(k i0:Nat),i-i0≤k→i0<i→listed.getD i0 false=true:=by
   intro k;induction k with
   |zero=>intro i0 h1 h2;omega
   |succ k ih=>
    intro i0 h1 h2;obtain⟨j,j1,j2,j3⟩:=hok.tl1 i0 h2 his;obtain⟨o',ho',e,he,hb,hon⟩:=dB j3
    by_cases ej:j=i
    ·subst ej
     rw[q2]at ho';injection ho' with ho';subst ho'
     have:=q3 e he hb
     rwa [hon]at this
    ·have:=inv.closed j o' ho' (ih j (by omega) (by omega)) e he hb
     rwa [hon]at this
  rw[key (i-i0) i0 (aW _) h0]at hu;cases hu
 ·obtain⟨o',ho',e',he,hb,hon⟩:=dB (hok.tl2 i (by omega) his)
  rw[q2]at ho';injection ho' with ho';subst ho'
  have:=q3 e' he hb
  rw[hon,getD_both (inv.tail (i-1) (by omega) (by omega))]at this;cases this
theorem sS(hok:pM ops al N)(inv:HeadInv .any ops N listed)(hc:0<pJ listed N):∃i0,i0<N∧listed.getD i0 false=false∧i0∈eH .any ops listed:=by
 obtain⟨i0,hi0,hu0,hb0⟩:=pS hc
 have hi0s:i0<ops.size:=by have:=hok.le;omega
 exact⟨i0,hi0,hu0,mem_ready.2 ⟨getD_in (by rw[inv.size];exact hi0s) hu0,ops[i0],by simp[hi0s],fun e he hb=>hb0 e.on (hok.back i0 _ (by simp[hi0s]) e he hb)⟩⟩
theorem uX(hok:pM ops al N){i:Nat}{ai:AI}{o:Oper}(hi:i<N)(ha:al[i]?=some ai)(ho:ops[i]?=some o)(q3:∀e∈o.after,fR .any e=true→listed.getD e.on false=true) :
  ∀s∈ai.sls,∀j aj,j<N→al[j]?=some aj→aj.dst=some s→listed.getD j false=true:=by
 intro s hs j aj hj hja hd;obtain⟨o',ho',e,he,hb,hon⟩:=dB (hok.dep i j ai aj s ha hja hi hj hd hs);rw[ho]at ho';injection ho' with ho';subst ho'
 have:=q3 e he hb
 rwa [hon]at this
def lV:List Bool→List Bool→List Bool
 |x::r,y::s=>(x||y)::lV r s
 |[],s=>s
 |r,[]=>r
theorem WT:∀(u v:List Bool) (i:Nat),bC false (lV u v) i=(bC false u i||bC false v i)
 |[],v,i=>by cases i<;>simp[lV,bC]
 |x::r,[],i=>by simp[lV,bC]
 |x::r,y::s,0=>rfl
 |x::r,y::s,i+1=>WT r s i
def fT(m:List Bool)(i:Nat):Prop:=bC false m i=true
theorem fV{u v:List Bool}{i:Nat}:fT (lV u v) i↔fT u i∨fT v i:=by unfold fT;rw[WT,bU]
structure pC (ops:Array Oper) (al:List AI) (N:Nat) (v m:List Bool):Prop where
 mlt:∀i,fT m i→i<N
 vlt:∀i,fT v i→i<N
 mv:∀i,fT m i→¬fT v i
 hd:∀i ai,fT m i→al[i]?=some ai→ai.op.hd=true
 m1:∀i j x y d,(fT v i∨fT m i)→j<N→¬(fT v j∨fT m j)→al[i]?=some x→al[j]?=some y→y.dst=some d→d ∉ x.sls
 m2:∀i j x y d,fT v i→j<N→¬fT v j→al[i]?=some x→al[j]?=some y→y.dst=some d→d ∉ x.sls
structure xV (ops:Array Oper) (al:List AI) (N:Nat) (u:List Bool) (n:Nat):Prop where
 nN:n<N
 nu:¬fT u n
 out:∀i,i<N→¬fT u i→i≠n→∃j,j<i∧¬fT u j∧cY .any ops i j=true
structure IZ (P:Program) (G:Nat→Option Obj) (ops:Array Oper) (al:List AI) (N:Nat) (ext:Ext) (u:List Bool) (F:St) (own:Nat→Nat→Prop) (β0:Bt) (R0:Nat→Prop) (w0:World) (listed:Array Bool) (a:Act) (w:World) (β:Bt) (R:Nat→Prop):Prop where
 inv:HeadInv .any ops N listed
 un:∀i,i<N→¬fT u i→listed.getD i false=false
 dx:DX G al (fT u) F own β0 R0 w0 listed a w β R
 opAt:∀i ai,fT u i→al[i]?=some ai→listed.getD i false=false→HU P G ext ai F (own i)∧ai.op.hd=true
 od:∀i j id,fT u i→fT u j→j≠i→own i id→¬own j id
 ob:∀i id,fT u i→own i id→id<F.h.length
theorem oI(hok:pM ops al N){v m:List Bool}(hst:pC ops al N v m){st:St}{n1:Nat}{S:Nat→St}(h0:S 0=st)(hn1:(jB m al).length=n1)(hr:xX P G ext (jB m al) n1 S)
  (I:IZ P G ops al N ext v st own β0 R0 w0 listed a w β R) (hlate:∀i ai,fT v i→al[i]?=some ai→listed.getD i false=false→kZ st ai.op=true):∃own',IZ P G ops al N ext (lV v m) (S n1) own' β0 R0 w0 listed a w β R:=by
 have hle0:=hr.le (i:=0) (j:=n1) (bX _) (aW _)
 rw[h0]at hle0
 have hl1:∀q x,(jB m al)[q]?=some x→∃j,fT m j∧al[j]?=some x∧kJ m j=q:=fun q x hq=>lF hq
 have hp1:∀i ai,al[i]?=some ai→fT m i→(jB m al)[kJ m i]?=some ai∧kJ m i<n1:=fun i ai ha hd=>by
  have h1:=rA hd ha
  exact⟨h1,by rw[←hn1];exact(List.getElem?_eq_some_iff.1 h1).1⟩
 have waits_lt:∀i j,cY .any ops i j=true→j<i:=fun i j hw=>by
  obtain⟨o',ho',e,he,hb,hon⟩:=dB hw
  have:=hok.back i o' ho' e he hb
  omega
 have slot:∀s,(∀j aj,fT m j→al[j]?=some aj→aj.dst≠some s)→bC (.c .top) (S n1).t s=bC (.c .top) st.t s:=fun s hs=>hle0.2.2.2 s fun q aj _ _ hq hd=>by
  obtain⟨j,j1,j2,_⟩:=hl1 q aj hq;exact hs j aj j1 j2 hd
 open Classical in
 let own2:Nat→Nat→Prop:=fun i=>if fT m i then yM S (kJ m i) else own i
 have o2m:∀i,fT m i→own2 i=yM S (kJ m i):=fun i h=>by show (if _ then _ else _)=_;rw[if_pos h]
 have o2v:∀i,¬fT m i→own2 i=own i:=fun i h=>by show (if _ then _ else _)=_;rw[if_neg h]
 have nm:∀i,fT v i→¬fT m i:=fun i h k=>hst.mv i k h
 have hmal:∀i,fT m i→∃ai,al[i]?=some ai:=fun i h=>⟨al[i]'(by have:=hst.mlt i h;have:=hok.len;have:=hok.le;omega),aK _⟩
 have low:∀i id,fT v i→own i id→id<st.h.length:=I.ob
 have high:∀i id,fT m i→yM S (kJ m i) id→st.h.length≤id∧id<(S n1).h.length:=fun i id hi ⟨b1,b2⟩=>by
  obtain⟨ai,hai⟩:=hmal i hi
  have hp:=(hp1 i ai hai hi).2
  have q1:=(hr.le (i:=0) (j:=kJ m i) (bX _) (by omega)).2.1
  have q2:=(hr.le (i:=kJ m i+1) (j:=n1) (by omega) (aW _)).2.1
  rw[h0]at q1;omega
 refine⟨own2,I.inv,fun i hi hu=>I.un i hi (fun h=>hu (fV.2 (.inl h))),⟨I.dx.gr,MJ I.dx.hs hle0.2.1 hle0.2.2.1,I.dx.df,by rw[I.dx.sz,hle0.1],?_,?_⟩,?_,?_,?_⟩
 ·intro s u' hu hnd
  rw[slot s (fun j aj hj hja hdd=>hnd j aj (fV.2 (.inr hj)) hja (I.un j (hst.mlt j hj) (hst.mv j hj)) hdd)];exact I.dx.sl s u' hu (fun j aj hj hja hjl=>hnd j aj (fV.2 (.inl hj)) hja hjl)
 ·intro i hi hil id hid
  rcases fV.1 hi with h|h
  ·rw[o2v i (nm i h)]at hid
   exact I.dx.fr i h hil id hid
  ·rw[o2m i h]at hid
   cases hb:β id with
   |none=>rfl
   |some x=>have:=I.dx.hs.dom id x hb;have:=(high i id h hid).1;omega
 ·intro i ai hi hai hil
  by_cases hm:fT m i
  ·rw[o2m i hm]
   refine⟨yJ hr (hp1 i ai hai hm).2 (hp1 i ai hai hm).1 ?_ ?_,hst.hd i ai hm hai⟩
   ·intro s hs q aj hq _ hj hdj
    obtain⟨j,j1,j2,j3⟩:=hl1 q aj hj
    have hlt:=waits_lt i j (hok.dep i j ai aj s hai j2 (hst.mlt i hm) (hst.mlt j j1) hdj hs)
    have:=oW (bs:=m) j1 hlt
    omega
   ·intro s hs q aj hq _ hj hdj
    obtain⟨j,j1,j2,j3⟩:=hl1 q aj hj;exact hok.dst i j ai aj s hai j2 (hst.mlt i hm) (hst.mlt j j1) (fun e=>by rw[←e]at j3;omega) hs hdj
  ·have hv:fT v i:=(fV.1 hi).resolve_right hm
   rw[o2v i hm];obtain⟨q1,q2⟩:=I.opAt i ai hv hai hil;refine⟨IY q1 q2 (hlate i ai hv hai hil) (fun id x hx hid=>?_) (fun x mk id _ _ _ ho hl=>⟨hle0.2.2.1 id hl,by have:=hle0.2.1;omega⟩) hle0.1 (fun s hs=>slot s fun j aj hj hja hd=>hst.m2 i j ai aj s hv (hst.mlt j hj) (hst.mv j hj) hai hja hd hs) (fun s hs=>slot s fun j aj hj hja hd=>hok.dst i j ai aj s hai hja (hst.vlt i hv) (hst.mlt j hj) (fun e=>hm (e▸hj)) hs hd),q2⟩;rw[hle0.2.2.1 id (fZ hid (vZ hx))];exact hid
 ·intro i j id hi hj hne h1 h2
  by_cases hmi:fT m i
  ·rw[o2m i hmi]at h1
   by_cases hmj:fT m j
   ·rw[o2m j hmj]at h2
    obtain⟨ai,hai⟩:=hmal i hmi;obtain⟨aj,haj⟩:=hmal j hmj;obtain⟨a1,a2⟩:=h1;obtain⟨b1,b2⟩:=h2
    rcases cL i j with h|h
    ·have h3:=oW (bs:=m) hmi h
     have:=(hr.le (i:=kJ m i+1) (j:=kJ m j) (by omega) (by have:=(hp1 j aj haj hmj).2;omega)).2.1
     omega
    ·have h3:=oW (bs:=m) hmj (show j<i by omega)
     have:=(hr.le (i:=kJ m j+1) (j:=kJ m i) (by omega) (by have:=(hp1 i ai hai hmi).2;omega)).2.1
     omega
   ·rw[o2v j hmj]at h2
    have:=low j id ((fV.1 hj).resolve_right hmj) h2
    have:=(high i id hmi h1).1
    omega
  ·rw[o2v i hmi]at h1
   have q:=low i id ((fV.1 hi).resolve_right hmi) h1
   by_cases hmj:fT m j
   ·rw[o2m j hmj]at h2
    have:=(high j id hmj h2).1
    omega
   ·rw[o2v j hmj]at h2
    exact I.od i j id ((fV.1 hi).resolve_right hmi) ((fV.1 hj).resolve_right hmj) hne h1 h2
 ·intro i id hi hid
  by_cases hmi:fT m i
  ·rw[o2m i hmi]at hid;exact(high i id hmi hid).2
  ·rw[o2v i hmi]at hid
   have:=low i id ((fV.1 hi).resolve_right hmi) hid
   have:=hle0.2.1
   omega
theorem IZ.next(hext:bG P G ext)(hok:pM ops al N)(hal:fD P ops ops.toList=some al){u:List Bool}{Q:Exit→Act→World→Prop}(I:IZ P G ops al N ext u F own β0 R0 w0 listed a w β R){i:Nat}(hi:i∈eH .any ops listed)(hin:i<N)(hiu:fT u i)(hul:∀j,fT u j→j<N){K:Act→World→Prop}
  (hK:∀a' w' β' R',IZ P G ops al N ext u F own β0 R0 w0 (listed.setIfInBounds i true) a' w' β' R'→K a' w'):wpOp P ops Q i K a w:=by
 obtain⟨q1,o,q2,q3⟩:=mem_ready.1 hi
 have his:i<ops.size:=(bH.1 q2).1
 have hun:=getD_both q1
 have hil:i<listed.size:=by rw[I.inv.size];exact his
 obtain⟨ai,ha,hco⟩:=(gR hal).2 i o (by simpa using q2);obtain⟨hat,hhd⟩:=I.opAt i ai hiu ha hun
 refine I.dx.step hext hiu hil ha q2 hco hun hat (fun s hs j aj hj hja hd=>uX hok hin ha q2 q3 s hs j aj (hul j hj) hja hd) (fun j id hj hji h1=>I.od i j id hiu hj hji h1) fun a' w' β' R' hI'=>hK _ _ _ _ ⟨I.inv.set hi hin,fun j hj hju=>?_,hI',fun j aj hj hja hjl=>?_,I.od,I.ob⟩
 ·rw[getD_set_ne false (fun e:i=j=>hju (by rw[←e];exact hiu))];exact I.un j hj hju
 ·obtain⟨h3,h4⟩:=lR hjl hil
  exact I.opAt j aj hj hja h3
theorem aEL(hext:bG P G ext)(hok:pM ops al N)(hal:fD P ops ops.toList=some al){u:List Bool}{n:Nat}(hn:xV ops al N u n)(hul:∀j,fT u j→j<N){Q:Exit→Act→World→Prop}
  (hM:∀(listed:Array Bool) (a:Act) (w:World) (β:Bt) (R:Nat→Prop) (o:Oper),ops[n]?=some o→n∈eH .any ops listed→IZ P G ops al N ext u F own β0 R0 w0 listed a w β R→(∀i,i<n→Ch ops n i→listed.getD i false=true) →
   (∀s∈AI.sls ((al[n]?).getD ⟨none,.mv (.t 0),none⟩),∀j aj,j<N→al[j]?=some aj→aj.dst=some s→listed.getD j false=true) →
   wpOp P ops Q n (wpAny P .any ops Q (pJ listed N-1+(ops.size-N)) (listed.setIfInBounds n true)) a w) :
  ∀(f:Nat) (listed:Array Bool) (a:Act) (w:World) (β:Bt) (R:Nat→Prop),pJ listed N=f→IZ P G ops al N ext u F own β0 R0 w0 listed a w β R→wpAny P .any ops Q (f+(ops.size-N)) listed a w:=by
 intro f;induction f with
 |zero=>
  intro listed a w β R hc I
  have:=lS hc n hn.nN
  rw[I.un n hn.nN hn.nu]at this;cases this
 |succ f ih=>
  intro listed a w β R hc I;rw[show f+1+(ops.size-N)=(f+(ops.size-N))+1 by omega];obtain⟨i0,hi0,hu0,hr0⟩:=sS hok I.inv (by omega);refine⟨fun h=>(by rw[h]at hr0;cases hr0),fun i hi=>?_⟩;obtain⟨q1,o,q2,q3⟩:=mem_ready.1 hi
  have his:i<ops.size:=(bH.1 q2).1
  have hin:=zW hok I.inv hi0 hu0 hi
  have hun:=getD_both q1
  have hil:i<listed.size:=by rw[I.inv.size];exact his
  obtain⟨ai,ha,hco⟩:=(gR hal).2 i o (by simpa using q2)
  by_cases e:i=n
  ·subst e
   have:=hM listed a w β R o q2 hi I (fun j hj hcj=>GK I.inv q2 q3 i j (by omega) hj hcj) (fun s hs j aj hj hja hd=>by
     rw[ha]at hs
     exact uX hok hin ha q2 q3 s hs j aj hj hja hd)
   rwa [hc,Nat.add_sub_cancel]at this
  ·have hiu:fT u i:=Classical.byContradiction fun hnu=>by
     obtain⟨j,h1,h2,h3⟩:=hn.out i hin hnu e;obtain⟨o',ho',e,he,hb,hon⟩:=dB h3;rw[q2]at ho';injection ho' with ho';subst ho'
     have:=q3 e he hb
     rw[hon,I.un j (by omega) h2]at this;cases this
   exact I.next hext hok hal hi hin hiu hul fun a' w' β' R' I'=>ih _ a' w' β' R' (by have:=lX hil hun hin;omega) I'
theorem aOJ(hext:bG P G ext)(hok:pM ops al N)(hal:fD P ops ops.toList=some al){u:List Bool}(hall:∀i,i<N→fT u i)(hul:∀j,fT u j→j<N){Q:Exit→Act→World→Prop}
  (hT:∀a w β R,iB G β R F a w→Gr β0 R0 w0 β R w→wpList P ops Q (ops.toList.drop N) a w) :
  ∀(f:Nat) (listed:Array Bool) (a:Act) (w:World) (β:Bt) (R:Nat→Prop),pJ listed N=f→IZ P G ops al N ext u F own β0 R0 w0 listed a w β R→wpAny P .any ops Q (f+(ops.size-N)) listed a w:=by
 intro f;induction f with
 |zero=>
  intro listed a w β R hc I;rw[Nat.zero_add]
  have hall':=lS hc
  have hsim:iB G β R F a w:=by
   refine⟨I.dx.df,dJ.of_get (by simp[I.dx.sz]) ?_,I.dx.hs⟩;intro s y z hx hy
   have h1:=I.dx.sl s z (by simpa using hy) fun i ai hi _ hl=>by rw[hall' i (hul i hi)]at hl;cases hl
   rw[fU,aD,hx]at h1;exact h1
  have:=uQ hok.back (ops.toList.drop N) N listed a w (fun j=>by simp[jN]) I.inv.size (fun i hi _=>hall' i hi) I.inv.tail (fun t ht hts=>hok.tl2 t ht hts) (hT a w β R hsim I.dx.gr)
  simpa using this
 |succ f ih=>
  intro listed a w β R hc I;rw[show f+1+(ops.size-N)=(f+(ops.size-N))+1 by omega];obtain⟨i0,hi0,hu0,hr0⟩:=sS hok I.inv (by omega);refine⟨fun h=>(by rw[h]at hr0;cases hr0),fun i hi=>?_⟩;obtain⟨q1,o,q2,q3⟩:=mem_ready.1 hi
  have his:i<ops.size:=(bH.1 q2).1
  have hin:=zW hok I.inv hi0 hu0 hi
  have hun:=getD_both q1
  have hil:i<listed.size:=by rw[I.inv.size];exact his
  exact I.next hext hok hal hi hin (hall i hin) hul fun a' w' β' R' I'=>ih _ a' w' β' R' (by have:=lX hil hun hin;omega) I'
def kN:Nat→List Bool
 |0=>[true]
 |n+1=>false::kN n
theorem lP:∀ {n i:Nat},fT (kN n) i↔i=n
 |0,0=>by simp[fT,kN,bC]
 |0,i+1=>by simp[fT,kN,bC]
 |n+1,0=>by simp[fT,kN,bC]
 |n+1,i+1=>by
  have:=lP (n:=n) (i:=i)
  unfold fT at this ⊢;simp only[kN,bC];rw[this];omega
def uG:List Bool→List Bool→List Bool
 |[],_=>[]
 |x::r,[]=>x::uG r []
 |x::r,y::s=>(x && !y)::uG r s
theorem yV:∀(u c:List Bool) (i:Nat),bC false (uG u c) i=(bC false u i && !bC false c i)
 |[],c,i=>by cases i<;>simp[uG,bC]
 |x::r,[],0=>by simp[uG,bC]
 |x::r,[],i+1=>by simpa[uG,bC] using yV r [] i
 |x::r,y::s,0=>by simp[uG,bC]
 |x::r,y::s,i+1=>by simpa[uG,bC] using yV r s i
def YK(st:St)(id0:Option Nat)(x:AI):Bool:=match x.op.isBsl with
 |false=>true
 |true=>match x.dst with
  |some d=>match bC (.c .top) st.t d with
   |.c (.sl id _ _ _)=>match id0 with
    |some i => !(cA i id)
    |none=>true
   |_=>false
  |none=>false
def JK(st:St)(id0:Option Nat):List AI→Bool
 |[]=>true
 |x::r=>kZ st x.op&&(YK st id0 x&&JK st id0 r)
theorem JJ{st:St}{id0:Option Nat}:∀ {l:List AI} {q:Nat} {x:AI},JK st id0 l=true→l[q]?=some x→kZ st x.op=true∧YK st id0 x=true
 |[],_,_,_,h=>by simp at h
 |y::r,0,x,h,hx=>by
  simp at hx;subst hx;simp only[JK,aQ]at h;exact⟨h.1,h.2.1⟩
 |y::r,q+1,x,h,hx=>by
  simp only[JK,aQ]at h;exact JJ h.2.2 (by simpa using hx)
theorem aK3(hext:bG P G ext)(hok:pM ops al N)(hal:fD P ops ops.toList=some al){u:List Bool}{n:Nat}(hn:xV ops al N u n)(hul:∀j,fT u j→j<N){mm:AI}(hmm:al[n]?=some mm)(hma:mm.op.isApp=true)(hmg:mm.guard=none){dM:Nat}(hmd:mm.dst=some dM)
  (hm1:∀i j x y d,fT u i→j<N→¬fT u j→al[i]?=some x→al[j]?=some y→y.dst=some d→d ∉ x.sls)
  (hz:JK F (pK F mm.op) (jB (uG u (DE ops.toList n n)) al)=true) {kk:St→Tr} {K:X→St→Prop} (h:(iU ext F (fun v h'=>kk ⟨mG F.t mm.dst v,h'⟩) mm.op).holds P G K) {Q:Exit→Act→World→Prop}
  {o:Oper} (ho:ops[n]?=some o) (hrdy:n∈eH .any ops listed) (I:IZ P G ops al N ext u F own β0 R0 w0 listed a w β R) (hch:∀i,i<n→Ch ops n i→listed.getD i false=true)
  (hrd:∀s∈AI.sls mm,∀j aj,j<N→al[j]?=some aj→aj.dst=some s→listed.getD j false=true) {K2:Act→World→Prop}
  (hK:∀st' own' a' w' β' R',(kk st').holds P G K→IZ P G ops al N ext (lV u (kN n)) st' own' β0 R0 w0 (listed.setIfInBounds n true) a' w' β' R'→(∀i ai,fT (lV u (kN n)) i→al[i]?=some ai→(listed.setIfInBounds n true).getD i false=false→kZ st' ai.op=true)→K2 a' w'):wpOp P ops Q n K2 a w:=by
 obtain⟨q1,o',q2,q3⟩:=mem_ready.1 hrdy;rw[ho]at q2;injection q2 with q2;subst q2
 have hns:n<ops.size:=(bH.1 ho).1
 have hun:=getD_both q1
 have hil:n<listed.size:=by rw[I.inv.size];exact hns
 obtain⟨ai,ha,hco⟩:=(gR hal).2 n o (by simpa using ho);rw[hmm]at ha;injection ha with ha;subst ha;simp only[pN,Option.bind_eq_bind,Option.bind_eq_some_iff,Option.pure_def,Option.some.injEq]at hco;obtain⟨aop,hop,g,hgd,rfl⟩:=hco;dsimp only at hma hmg hmd hz h;subst hmg;obtain⟨tM,hsim,htM⟩:=I.dx.mask
 have hag:dU F ⟨tM,F.h⟩ aop.sls:=fun s hs=>htM s (fun j aj h1 h2 h3 h4=>by
  rw[hrd s (by simp[AI.sls,hs]) j aj (hul j h1) h2 h4]at h3;cases h3)
 unfold wpOp;simp only[ho]
 have hw':=kG (o:=o) (ai:=⟨o.dst,aop,none⟩) hsim hgd (b:=true) rfl
 rw[hw'];simp only[if_true]
 have h1:=aBF (P:=P) (G:=G) (ext:=ext) hma (st':=⟨tM,F.h⟩) hag rfl h
 refine .inl ((nO hsim hop hext h1).wp ?_);rintro x' w' ⟨β',R',x,hh,⟨⟨hkk,hkp⟩,_⟩,r2,r3,r4,r5⟩;rw[hmd]at hkk
 have hkp:KPZ (pK F aop) F.h hh:=hkp
 have slot:∀s,s≠dM→bC (.c .top) (eT x F.t dM) s=bC (.c .top) F.t s:=fun s hs=>cP _ _ _ (fun e=>hs e.symm)
 have unl:∀i,fT (lV u (kN n)) i→(listed.setIfInBounds n true).getD i false=false→fT u i∧i≠n∧listed.getD i false=false:=fun i hi hl=>by
  obtain⟨h3,h4⟩:=lR hl hil
  have hne:i≠n:=by first|exact h4|exact fun e=>h4 e.symm
  exact⟨(fV.1 hi).resolve_right (fun e=>hne (lP.1 e)),hne,h3⟩
 have late:∀i ai,fT u i→al[i]?=some ai→listed.getD i false=false→kZ F ai.op=true∧YK F (pK F aop) ai=true:=fun i ai hi hai hl=>by
  have hc:bC false (uG u (DE ops.toList n n)) i=true:=by
   rw[yV]
   have h1:bC false u i=true:=hi
   rw[h1];cases hq:bC false (DE ops.toList n n) i with
   |false=>rfl
   |true=>
    have hlen:=AH hq
    rw[tU]at hlen
    have hne:i≠n:=fun e=>hn.nu (e▸hi)
    rw[hch i (by omega) hq]at hl;cases hl
  exact JJ hz (rA hc hai)
 refine hK ⟨eT x F.t dM,hh⟩ (fun i=>if i=n then fun _=>False else own i) _ w' β' R' hkk ⟨I.inv.set hrdy hn.nN,fun i hi hiu=>?_,⟨I.dx.gr.trans r4,r3,?_,?_,?_,?_⟩,?_,?_,?_⟩ ?_
 ·have h2:¬fT u i:=fun e=>hiu (fV.2 (.inl e))
  have h3:i≠n:=fun e=>hiu (fV.2 (.inr (lP.2 e)))
  rw[getD_set_ne false (fun e=>h3 e.symm)];exact I.un i hi h2
 ·cases o.dst<;>exact I.dx.df
 ·rw[hmd]
  show (a.tmps.setIfInBounds dM x').size=(eT x F.t dM).length
  rw[Array.size_setIfInBounds,eV,cE];exact I.dx.sz
 ·intro s u' hu hnd
  rw[hmd]at hu
  have hu:(a.tmps.setIfInBounds dM x')[s]?=some u':=hu
  by_cases e:dM=s
  ·subst e
   have hss:dM<a.tmps.size:=by
    rcases cL dM a.tmps.size with h|h
    ·exact h
    ·rw[Array.getElem?_eq_none (by simpa using h)]at hu;cases hu
   simp[hss]at hu;subst hu
   show VR β' R' w' (bC (.c .top) (eT x F.t dM) dM) x'
   rw[eA _ _ _ (by rw[←I.dx.sz];exact hss)];exact r2
  ·have hu':a.tmps[s]?=some u':=by rwa [Array.getElem?_setIfInBounds_ne e]at hu
   show VR β' R' w' (bC (.c .top) (eT x F.t dM) s) u'
   rw[slot s (fun h=>e h.symm)];exact VR.keep r4.keeps (I.dx.sl s u' hu' (fun j aj hj hja hjl=>hnd j aj (fV.2 (.inl hj)) hja (by rw[getD_set_ne false (fun h=>hn.nu (by rw[h];exact hj))];exact hjl)))
 ·intro i hi hl id hid
  obtain⟨h2,h3,h4⟩:=unl i hi hl;rw[if_neg h3]at hid;rw[r5 id (I.ob i id h2 hid)];exact I.dx.fr i h2 h4 id hid
 ·intro i ai hi hai hl
  obtain⟨h2,h3,h4⟩:=unl i hi hl;rw[if_neg h3];obtain⟨q4,q5⟩:=I.opAt i ai h2 hai h4;obtain⟨q6,q7⟩:=late i ai h2 hai h4;refine⟨IY q4 q5 q6 hkp.ck (fun y mk id hnb hds hy ho' hid=>?_) (by show (eT x F.t dM).length=_;rw[eV,cE]) (fun s hs=>slot s fun e=>hm1 i n ai _ dM h2 hn.nN hn.nu hai hmm hmd (e▸hs)) (fun s hs=>slot s fun e=>hok.dst i n ai _ s hai hmm (hul i h2) hn.nN h3 hs (by rw[hmd,e])),q5⟩
  have hne:pK F aop≠some id:=fun e=>by
   cases hb:ai.op.isBsl with
   |false=>
    obtain⟨ty,vs,rfl⟩:=FB hb hnb
    have:=hkp.2.2 id e
    rw[hy]at this;cases this
   |true=>
    unfold YK at q7;rw[hb]at q7;dsimp only at q7;cases hd:ai.dst with
    |none=>rw[hd]at q7;cases q7
    |some d=>
     rw[hd]at q7;dsimp only at q7
     have hdl:d<F.t.length:=by
      rcases cL d F.t.length with h|h
      ·exact h
      ·rw[fU,aD,cB h]at q7;cases q7
     have hv:=hds d hd hdl
     cases hop2:ai.op<;>rw[hop2]at hb<;>try cases hb
     rw[hop2]at hnb;simp only[uF]at hnb;split at hnb
     ·split at hnb
      ·injection hnb with hnb
       injection hnb with _ hnb;subst hnb;rw[hv,e]at q7;simp at q7
      ·cases hnb
     ·cases hnb
  exact⟨hkp.1 id hne hid,by have:=hkp.2.1;show id<hh.length;omega⟩
 ·intro i j id hi hj hne h1 h2
  by_cases ei:i=n
  ·rw[if_pos ei]at h1;exact h1
  by_cases ej:j=n
  ·rw[if_pos ej]at h2;exact h2
  rw[if_neg ei]at h1;rw[if_neg ej]at h2;exact I.od i j id ((fV.1 hi).resolve_right (fun e=>ei (lP.1 e))) ((fV.1 hj).resolve_right (fun e=>ej (lP.1 e))) hne h1 h2
 ·intro i id hi hid
  by_cases ei:i=n
  ·rw[if_pos ei]at hid;exact hid.elim
  rw[if_neg ei]at hid
  have:=I.ob i id ((fV.1 hi).resolve_right (fun e=>ei (lP.1 e))) hid
  have:=hkp.2.1
  show id<hh.length
  omega
 ·intro i ai hi hai hl
  obtain⟨h2,h3,h4⟩:=unl i hi hl
  have q6:=(late i ai h2 hai h4).1
  refine AD (st:=F) (fun s hs=>?_) q6
  exact slot s fun e=>hm1 i n ai _ dM h2 hn.nN hn.nu hai hmm hmd (e▸(by simp[AI.sls,hs]))
def EX{α:Type}:List α→Nat→Option α
 |[],_=>none
 |x::_,0=>some x
 |_::r,n+1=>EX r n
theorem oX{α:Type}:∀(l:List α) (n:Nat),EX l n=l[n]?
 |[],n=>by simp[EX]
 |x::r,0=>rfl
 |x::r,n+1=>by simpa[EX] using oX r n
noncomputable def NM(ext:Ext)(al:List AI)(os:List Oper)(kT:St→Tr):List Bool→List (List Bool×Nat)→List Bool→St→Tr
 |_,[],m,st=>iY (iO ext) (jB m al) st kT
 |v,(m,n)::r,mE,st=>iY (iO ext) (jB m al) st fun st1=>match EX al n with
  |some mm=>nH (mm.op.isApp&&(nog mm.guard&&(isS mm.dst&&JK st1 (pK st1 mm.op) (jB (uG (lV v m) (DE os n n)) al)))) (iU ext st1 (fun x h'=>NM ext al os kT (lV (lV v m) (kN n)) r mE ⟨mG st1.t mm.dst x,h'⟩) mm.op)
  |none=>.fail
def vN(ops:Array Oper)(al:List AI)(N:Nat):List Bool→List (List Bool×Nat)→List Bool→Prop
 |v,[],m=>pC ops al N v m∧∀i,i<N→fT (lV v m) i
 |v,(m,n)::r,mE=>pC ops al N v m∧xV ops al N (lV v m) n∧vN ops al N (lV (lV v m) (kN n)) r mE
theorem NL(hext:bG P G ext)(hok:pM ops al N)(hal:fD P ops ops.toList=some al){kT:St→Tr}{K:X→St→Prop}{Q:Exit→Act→World→Prop}
  (hT:∀st' a w β R,(kT st').holds P G K→iB G β R st' a w→Gr β0 R0 w0 β R w→wpList P ops Q (ops.toList.drop N) a w) :
  ∀(r:List (List Bool×Nat)) (v mE:List Bool) (st:St) (own:Nat→Nat→Prop) (listed:Array Bool) (a:Act) (w:World) (β:Bt) (R:Nat→Prop),vN ops al N v r mE→(NM ext al ops.toList kT v r mE st).holds P G K→IZ P G ops al N ext v st own β0 R0 w0 listed a w β R→(∀i ai,fT v i→al[i]?=some ai→listed.getD i false=false→kZ st ai.op=true)→wpAny P .any ops Q (pJ listed N+(ops.size-N)) listed a w
 |[],v,mE,st,own,listed,a,w,β,R,hS,h,I,hl=>by
  obtain⟨hst,hall⟩:=hS
  obtain⟨S,h0,hk0,hstep⟩:=kY hext (jB mE al) st (fun ai hai=>by
   obtain⟨q,hq⟩:=dO.1 hai;obtain⟨j,h1,h2,_⟩:=lF hq
   exact hst.hd j ai h1 h2) h
  have hr:xX P G ext (jB mE al) (jB mE al).length S:=⟨aW _,fun i ai _ ha=>hstep i ai ha⟩
  obtain⟨own',I'⟩:=oI hok hst h0 rfl hr I hl;exact aOJ hext hok hal hall (fun j hj=>by rcases fV.1 hj with h|h;exact hst.vlt j h;exact hst.mlt j h) (fun a w β R s1 s2=>hT _ a w β R hk0 s1 s2) _ listed a w β R rfl I'
 |(m,n)::r,v,mE,st,own,listed,a,w,β,R,hS,h,I,hl=>by
  obtain⟨hst,hn,hS⟩:=hS
  obtain⟨S,h0,hk0,hstep⟩:=kY hext (jB m al) st (fun ai hai=>by
   obtain⟨q,hq⟩:=dO.1 hai;obtain⟨j,h1,h2,_⟩:=lF hq
   exact hst.hd j ai h1 h2) h
  have hr:xX P G ext (jB m al) (jB m al).length S:=⟨aW _,fun i ai _ ha=>hstep i ai ha⟩
  obtain⟨own',I'⟩:=oI hok hst h0 rfl hr I hl
  have hul:∀j,fT (lV v m) j→j<N:=fun j hj=>by rcases fV.1 hj with h|h;exact hst.vlt j h;exact hst.mlt j h
  rw[oX]at hk0;split at hk0
  case h_2=>exact hk0.elim
  rename_i mm hmm;obtain⟨c1,hk⟩:=bZ hk0;simp only[aQ]at c1;obtain⟨c1,c2,c3,c4⟩:=c1
  have hmg:mm.guard=none:=by
   cases hg:mm.guard with
   |none=>rfl
   |some _=>rw[hg]at c2;cases c2
  obtain⟨dM,hmd⟩:∃d,mm.dst=some d:=by
   cases hg:mm.dst with
   |some d=>exact⟨d,rfl⟩
   |none=>rw[hg]at c3;cases c3
  refine aEL hext hok hal hn hul ?_ _ listed a w β R rfl I';intro listed a w β R o ho hrdy I2 hch hrd
  rw[hmm]at hrd;refine aK3 hext hok hal hn hul hmm c1 hmg hmd (fun i j x y d hi hj hnj=>hst.m1 i j x y d (fV.1 hi) hj (fun e=>hnj (fV.2 e))) c4 (kk:=fun st'=>NM ext al ops.toList kT (lV (lV v m) (kN n)) r mE st') hk ho hrdy I2 hch hrd ?_;intro st' own'' a' w' β' R' hk' I3 hl3
  have hns:n<ops.size:=(bH.1 ho).1
  obtain⟨q1,_⟩:=mem_ready.1 hrdy
  have hc:=lX (listed:=listed) (i:=n) (by rw[I2.inv.size];exact hns) (getD_both q1) hn.nN
  rw[show pJ listed N-1=pJ (listed.setIfInBounds n true) N by omega];exact NL hext hok hal hT r _ mE st' own'' _ a' w' β' R' hS hk' I3 hl3
theorem SJ(hext:bG P G ext){id:Nat}(hm:P.follows .mixedOrders=true)(hal:fD P ops ops.toList=some al)(hok:pM ops al N){r:List (List Bool×Nat)}{m:List Bool}(hS:vN ops al N [] r m){st:St}{kT:St→Tr}{K:X→St→Prop}
  (h:(NM ext al ops.toList kT [] r m st).holds P G K) {Q:Exit→Act→World→Prop} {a:Act} {w:World} (hs:iB G β R st a w)
  (hT:∀st' a' w' β' R',(kT st').holds P G K→iB G β' R' st' a' w'→Gr β R w β' R' w'→wpList P ops Q (ops.toList.drop N) a' w'):(Code.region id ops true).wp P Q a w:=by
 refine wp_region_any hm ?_;obtain⟨hs',hg⟩:=hs.drawn (w.drawn+1)
 have no:∀i,¬fT [] i:=fun i h=>by cases i<;>cases h
 have key:=NL (β0:=β) (R0:=R) (w0:=w) (Q:=Q) hext hok hal hT r [] m st (fun _ _=>False) (Array.replicate ops.size false) a { w with drawn:=w.drawn+1 } β R hS h ⟨⟨by simp,fun j oj _ hl=>(by rw[getD_replicate_false]at hl;cases hl),fun t _ ht=>getD_in (by simpa using ht) (getD_replicate_false _ _)⟩,fun i _ _=>getD_replicate_false _ _,⟨hg,hs'.hs,hs.df,by have:=hs'.tm.length;simpa using this.symm,fun s u hu _=>?_,fun i hi=>absurd hi (no i)⟩,fun i ai hi=>absurd hi (no i),fun i j id hi=>absurd hi (no i),fun i id hi=>absurd hi (no i)⟩ (fun i ai hi=>absurd hi (no i))
 ·rwa [rM hok.le,show N+(ops.size-N)=ops.size by have:=hok.le;omega]at key
 ·have hv:=bW (x:=.tmp s) hs' rfl
  have e:a.eval (.tmp s)=u:=by show a.tmps.getD s undef=u;simp[hu]
  rw[e]at hv;exact hv
theorem kM.regz{ext:Ext}(hext:bG P G ext){rid:Nat}(hm:P.follows .mixedOrders=true)(hal:fD P ops ops.toList=some al)(hok:pM ops al N){r:List (List Bool×Nat)}{m:List Bool}(hS:vN ops al N [] r m){st:St}{K1:X→St→Prop}
  (hh:(NM ext al ops.toList (fun s=>iY ext (al.drop N) s fun s'=>.done .normal s') [] r m st).holds P G K1):kM P G (.raw (.region rid ops true)) st K1:=by
 refine kM.raw fun β R a w hs=>?_
 refine SJ hext hm hal hok hS hh hs ?_;intro st' a' w' β' R' hk hs' hg
 exact kW hext (ops.toList.drop N) (al.drop N) st' a' w' β' R' (nS N hal) hk hs' (fun a2 w2 β2 R2 st2 q1 q2 q3=>⟨β2,R2,st2,q1,q2,(hg.trans q3).toFr,(hg.trans q3).rm⟩)
def nB:Nat→(Nat→Bool)→Bool
 |0,_=>true
 |n+1,f=>f n&&nB n f
theorem kB{f:Nat→Bool}:∀ {n:Nat},nB n f=true→∀i,i<n→f i=true
 |n+1,h,i,hi=>by
  simp only[nB,aQ]at h
  by_cases e:i=n
  ·subst e;exact h.1
  ·exact kB h.2 i (by omega)
def CL(d:Option Nat)(l:List Nat):Bool:=match d with
 |some a=>l.any fun b=>cA a b
 |none=>false
theorem yW{d:Nat}{l:List Nat}:CL (some d) l=true↔d∈l:=by
 unfold CL;rw[List.any_eq_true];exact⟨fun⟨x,h1,h2⟩=>by rw[aS h2];exact h1,fun h=>⟨d,h,Nat.beq_refl d⟩⟩
def aKD:Option Nat→Option Nat→Bool
 |some a,some b=>cA a b
 |_,_=>false
def zK(al:List AI)(i:Nat):Option Nat:=match EX al i with
 |some x=>x.dst
 |none=>none
def CJ(al:List AI)(i:Nat):List Nat:=match EX al i with
 |some x=>x.sls
 |none=>[]
theorem zJ{al:List AI}{i:Nat}{x:AI}(h:al[i]?=some x):zK al i=x.dst:=by unfold zK;rw[oX,h]
theorem KU{al:List AI}{i:Nat}{x:AI}(h:al[i]?=some x):CJ al i=x.sls:=by unfold CJ;rw[oX,h]
def YQ(os:List Oper)(i:Nat):Bool:=match EX os i with
 |some o=>o.after.toList.all fun e => !fR .any e||Nat.blt e.on i
 |none=>true
def aCO(ops:Array Oper)(al:List AI)(N:Nat):Bool:=
 nB ops.size (YQ ops.toList)&&(nB N (fun i=>nB N fun j=>cA i j || !aKD (zK al i) (zK al j))&&(nB N (fun i=>nB N fun j => !CL (zK al j) (CJ al i)||cY .any ops i j) &&
 (nB N (fun i=>dV ops.size N||cY .any ops N i)&&(nB ops.size (fun t=>dV t N||cY .any ops t (t-1))&&(cA (fG al) ops.size&&dV N ops.size)))))
theorem aH1(h:aCO ops al N=true):pM ops al N:=by
 unfold aCO at h;simp only[aQ]at h;obtain⟨h1,h2,h3,h4,h5,h6,h7⟩:=h;refine⟨fun i o ho e he hb=>?_,fun i j x y d hx hy hi hj hij hd hd'=>?_,fun i j x y d hx hy hi hj hd hs=>?_,fun i hi hN=>?_,fun t ht hts=>?_,by rw[←eL];exact aS h6,gV h7⟩
 ·have:=kB h1 i (bH.1 ho).1
  unfold YQ at this;rw[oX,show ops.toList[i]?=some o by simpa using ho]at this
  have:=fN.1 this e (by simpa using he)
  rw[hb]at this;simpa using this
 ·have:=kB (kB h2 i hi) j hj
  rw[zJ hx,zJ hy,hd,hd']at this
  have e1:cA i j=false:=by
   cases hq:cA i j with
   |false=>rfl
   |true=>exact absurd (aS hq) hij
  rw[e1]at this;simp[aKD]at this
 ·have:=kB (kB h3 i hi) j hj
  rw[KU hx,zJ hy,hd,yW.2 hs]at this;simpa using this
 ·have:=kB h4 i hi
  rw[show dV ops.size N=false by
   cases hq:dV ops.size N with
   |false=>rfl
   |true=>have:=gV hq;omega]at this
  exact⟨N,hi,aW _,by simpa using this⟩
 ·have:=kB h5 t hts
  rw[show dV t N=false by
   cases hq:dV t N with
   |false=>rfl
   |true=>have:=gV hq;omega]at this
  simpa using this
def hdO(al:List AI)(i:Nat):Bool:=match EX al i with
 |some x=>x.op.hd
 |none=>true
def sM(al:List AI)(N:Nat)(v m:List Bool):Bool:=
 dV (fG v) N&&(dV (fG m) N&&(nB N (fun i => !(bC false m i&&bC false v i))&&(nB N (fun i => !bC false m i||hdO al i) &&
 (nB N (fun i=>nB N fun j => !(bC false (lV v m) i)||(bC false (lV v m) j || !CL (zK al j) (CJ al i)))&&nB N (fun i=>nB N fun j => !(bC false v i)||(bC false v j || !CL (zK al j) (CJ al i)))))))
theorem MD{m:List Bool}{i:Nat}(h:fT m i):i<fG m:=by rw[eL];exact AH h
theorem qB{v m:List Bool}(h:sM al N v m=true):pC ops al N v m:=by
 unfold sM at h;simp only[aQ]at h;obtain⟨h1,h2,h3,h4,h5,h6⟩:=h
 have h1:=gV h1
 have h2:=gV h2
 have hm:∀i,fT m i→i<N:=fun i hi=>by have:=MD hi;omega
 have hv:∀i,fT v i→i<N:=fun i hi=>by have:=MD hi;omega
 have key:∀ {u:List Bool},(∀i,fT u i→i<N)→nB N (fun i=>nB N fun j => !(bC false u i)||(bC false u j || !CL (zK al j) (CJ al i)))=true→∀i j x y d,fT u i→j<N→¬fT u j→al[i]?=some x→al[j]?=some y→y.dst=some d→d ∉ x.sls:=by
  intro u hu hq i j x y d hi hj hnj hx hy hd hmem
  have:=kB (kB hq i (hu i hi)) j hj
  rw[show bC false u i=true from hi,show bC false u j=false by simpa[fT] using hnj,KU hx,zJ hy,hd,yW.2 hmem]at this;simp at this
 refine⟨hm,hv,fun i hi hvi=>?_,fun i ai hi hai=>?_,fun i j x y d hi hj hnj=>key (fun i hi=>by rcases fV.1 hi with h|h;exact hv i h;exact hm i h) h5 i j x y d (fV.2 hi) hj (fun e=>hnj (fV.1 e)),key hv h6⟩
 ·have:=kB h3 i (hm i hi)
  rw[show bC false m i=true from hi,show bC false v i=true from hvi]at this;simp at this
 ·have:=kB h4 i (hm i hi)
  rw[show bC false m i=true from hi]at this;unfold hdO at this;rw[oX,hai]at this;simpa using this
def aDZ(ops:Array Oper)(N:Nat)(u:List Bool)(n:Nat):Bool:=
 Nat.blt n N&&(!(bC false u n)&&nB N (fun i=>bC false u i||(cA i n || !nB i (fun j=>bC false u j || !cY .any ops i j))))
theorem vM{f:Nat→Bool}:∀ {n:Nat},nB n f=false→∃i,i<n∧f i=false
 |0,h=>by cases h
 |n+1,h=>by
  simp only[nB,Bool.and_eq_false_iff]at h
  rcases h with h|h
  ·exact⟨n,by omega,h⟩
  ·obtain⟨i,h1,h2⟩:=vM h
   exact⟨i,by omega,h2⟩
theorem aIV{u:List Bool}{n:Nat}(h:aDZ ops N u n=true):xV ops al N u n:=by
 unfold aDZ at h;simp only[aQ]at h;obtain⟨h1,h2,h3⟩:=h;refine⟨by simpa using h1,fun e=>(by rw[show bC false u n=true from e]at h2;cases h2),fun i hi hu hne=>?_⟩
 have:=kB h3 i hi
 have e1:cA i n=false:=by
  cases hq:cA i n with
  |false=>rfl
  |true=>exact absurd (aS hq) hne
 rw[show bC false u i=false by simpa[fT] using hu,e1]at this;simp only[Bool.false_or,eQ]at this;obtain⟨j,h4,h5⟩:=vM this;simp only[Bool.or_eq_false_iff,fX]at h5;exact⟨j,h4,fun e=>(by rw[show bC false u j=true from e]at h5;cases h5.1),h5.2⟩
def yH(ops:Array Oper)(al:List AI)(N:Nat):List Bool→List (List Bool×Nat)→List Bool→Bool
 |v,[],m=>sM al N v m&&nB N (bC false (lV v m))
 |v,(m,n)::r,mE=>sM al N v m&&(aDZ ops N (lV v m) n&&yH ops al N (lV (lV v m) (kN n)) r mE)
theorem IF:∀ {r:List (List Bool×Nat)} {v mE:List Bool},yH ops al N v r mE=true→vN ops al N v r mE
 |[],v,mE,h=>by
  simp only[yH,aQ]at h;exact⟨qB h.1,fun i hi=>kB h.2 i hi⟩
 |(m,n)::r,v,mE,h=>by
  simp only[yH,aQ]at h;exact⟨qB h.1,aIV h.2.1,IF h.2.2⟩
end
noncomputable def WF:Array Oper:=LA (bC .skip (dC aB Try.f54) 2)
noncomputable def aOR:List AI:=match fD aB WF WF.toList with
 |some al=>al
 |none=>[]
noncomputable def WE:Array Oper:=LA (bC .skip (eZ (inr (bC .skip (gQ (dC aB gX) 3) 2))) 5)
noncomputable def aOQ:List AI:=match fD aB WE WE.toList with
 |some al=>al
 |none=>[]
theorem aU1(M:List Pg)(p:Pg):dF fH (dL 2 (dC aB Try.f54)) (oB Try.f54 [.a [.p (bO aG 7 M)],.a [.p (.i .i64 p.kd),.p (.s p.ru),.p (.i .i64 p.ve),.p (bO aN 2 p.L),.p (.i .i64 p.st),.p (.i .i64 p.se),.p (.s p.to)]]) (gW (fJ 15 [2,3,4,5]) (bK aB Try.f54))=Tr.done X.normal
 (bY 15 [(2,.c (.ptr 0 0)),(3,.c (.ptr 1 0)),(4,.c (.ptr 2 0)),(5,.c (.p (.z (bB none 0 0))))] [.cells 27 [.p (.l 7 M.length (aE aG M))],.cells 31 [.p (.i .i64 p.kd),.p (.s p.ru),.p (.i .i64 p.ve),.p (.l 2 p.L.length (aE aN p.L)),.p (.i .i64 p.st),.p (.i .i64 p.se),.p (.s p.to)],.cells 27 [.p (.z (bB none 0 0))]]):=by kernel_rfl
theorem aU0(M:List Pg)(p:Pg):NM fH aOR WF.toList (fun s=>iY fH (aOR.drop 7) s fun s'=>.done .normal s') [] [([true,true,true,false,true,true],3),([],6)] [] (bY 15 [(2,.c (.ptr 0 0)),(3,.c (.ptr 1 0)),(4,.c (.ptr 2 0)),(5,.c (.p (.z (.slice none 0 0))))] [.cells 27 [.p (bO aG 7 M)],.cells 31 [.p (.i .i64 p.kd),.p (.s p.ru),.p (.i .i64 p.ve),.p (bO aN 2 p.L),.p (.i .i64 p.st),.p (.i .i64 p.se),.p (.s p.to)],.cells 27 [.p (.z (.slice none 0 0))]])=Tr.rq ((0+M.length)*88≤140737488355328∧0+M.length≤140737488355328∧∀(e o:Nat),e<M.length→o<7→iQ (C.p (aE aG M e o))=true)
  (Tr.rq (0+M.length=0+M.length)
   (Tr.rq (1≤1)
    (Tr.rq
     ((0+M.length+1)*88≤140737488355328 ∧
       0+M.length+1≤140737488355328 ∧
        ∀(e o:Nat),
         e<1 →
          o<7 →
           iQ
             (mI
              [C.p (PV.i aC p.kd),C.p (PV.s p.ru),C.p (PV.i aC p.ve),C.p (PV.l 2 p.L.length (aE aN p.L)),C.p (PV.i aC p.st),C.p (PV.i aC p.se),
               C.p (PV.s p.to)]
              7 1 (e+0) o) =
            true)
     (Tr.done X.normal
      (bY 15 [(2,V.c (C.ptr 0 0)),(3,V.c (C.ptr 1 0)),(4,V.c (C.ptr 2 0)),(5,V.c (C.sl 5 7 0 (0+M.length+1))),(6,V.c (C.p (PV.z (bB none 0 0)))),(7,V.c (C.ptr 0 0)),(8,V.c (C.p (PV.l 7 M.length (aE aG M)))),(9,V.c (C.sl 4 7 0 (0+M.length))),(10,V.a [C.p (PV.i aC p.kd),C.p (PV.s p.ru),C.p (PV.i aC p.ve),C.p (PV.l 2 p.L.length (aE aN p.L)),C.p (PV.i aC p.st),C.p (PV.i aC p.se),C.p (PV.s p.to)]),(11,V.c (C.sl 3 7 0 1)),(12,V.c (C.sl 5 7 0 (0+M.length+1)))] [AO.cells 27 [C.p (PV.l 7 M.length (aE aG M))],AO.cells 31 [C.p (PV.i aC p.kd),C.p (PV.s p.ru),C.p (PV.i aC p.ve),C.p (PV.l 2 p.L.length (aE aN p.L)),C.p (PV.i aC p.st),C.p (PV.i aC p.se),C.p (PV.s p.to)],AO.cells 27 [C.p (PV.z (bB none 0 0))],AO.row 31 7 1 fun e o=>bC C.top [C.p (PV.i aC p.kd),C.p (PV.s p.ru),C.p (PV.i aC p.ve),C.p (PV.l 2 p.L.length (aE aN p.L)),C.p (PV.i aC p.st),C.p (PV.i aC p.se),C.p (PV.s p.to)] (e*7+o),AO.gone,AO.row 31 7 (0+M.length+1) (fI (0+M.length) (fI 0 (fun x x_1=>C.top) fun e o=>C.p (aE aG M e o)) fun e o=>bC C.top [C.p (PV.i aC p.kd),C.p (PV.s p.ru),C.p (PV.i aC p.ve),C.p (PV.l 2 p.L.length (aE aN p.L)),C.p (PV.i aC p.st),C.p (PV.i aC p.se),C.p (PV.s p.to)] ((e+0)*7+o))]))))):=by kernel_rfl
theorem aRR(A out:List Int)(k i j:Nat):NM fH aOQ WE.toList (fun s=>iY fH (aOQ.drop 15) s fun s'=>.done .normal s') [] [([true,true,true,true,false,true,true,true,true,true,false,true,true,true,false],4),([],10),([],14)] [] (bY 62 [(0,aU aT 1 A),(3,.c (.sl 0 1 0 k)),(4,iV (i:Nat)),(5,iV (j:Nat)),(6,.c (.p (.z (.slice none 0 0))))] [.row 3 1 k (aO aT out)])=Tr.rq (0≤(↑0:Int)∧(↑0:Int)≤(↑j:Int)∧(↑j:Int)≤(↑k:Int))
  (Tr.rq (0≤(↑i:Int)∧(↑i:Int)<(↑A.length:Int))
   (Tr.rq (0≤(↑j:Int)∧(↑j:Int)≤(↑k:Int)∧(↑k:Int)≤(↑k:Int))
    (Tr.rq (0+((↑j:Int).toNat-0)≤k)
     (Tr.rq
      ((0+((↑j:Int).toNat-0))*8≤140737488355328∧0+((↑j:Int).toNat-0)≤140737488355328∧∀(e o:Nat),e<(↑j:Int).toNat-0→o<1→iQ (aO aT out (e+0) o)=true)
      (Tr.rq (0+((↑j:Int).toNat-0)=0+((↑j:Int).toNat-0))
       (Tr.rq (1≤1)
        (Tr.rq
         ((0+((↑j:Int).toNat-0)+1)*8≤140737488355328 ∧
           0+((↑j:Int).toNat-0)+1≤140737488355328∧∀(e o:Nat),e<1→o<1→iQ (mI [C.p (PV.i aC (A.getD (↑i:Int).toNat default))] 1 1 (e+0) o)=true)
         (Tr.rq (0+((↑j:Int).toNat-0)+1=0+((↑j:Int).toNat-0)+1)
          (Tr.rq (0+(↑j:Int).toNat+((↑k:Int).toNat-(↑j:Int).toNat)≤k)
           (Tr.rq
            ((0+((↑j:Int).toNat-0)+1+((↑k:Int).toNat-(↑j:Int).toNat))*8≤140737488355328 ∧
              0+((↑j:Int).toNat-0)+1+((↑k:Int).toNat-(↑j:Int).toNat)≤140737488355328 ∧
               ∀(e o:Nat),e<(↑k:Int).toNat-(↑j:Int).toNat→o<1→iQ (aO aT out (e+(0+(↑j:Int).toNat)) o)=true)
            (Tr.done X.normal
             (bY 62 [(0,V.c (C.p (PV.l 1 A.length (aE aT A)))),(3,V.c (C.sl 0 1 0 k)),(4,V.c (C.p (PV.i aC (↑i:Int)))),(5,V.c (C.p (PV.i aC (↑j:Int)))),(6,V.c (C.sl 4 1 0 (0+((↑j:Int).toNat-(↑0:Int).toNat)+1+((↑k:Int).toNat-(↑j:Int).toNat)))),(45,V.c (C.p (PV.z (bB none 0 0)))),(46,V.c (C.sl 0 1 0 k)),(47,V.c (C.p (PV.i aC (↑j:Int)))),(48,V.c (C.sl 0 1 0 ((↑j:Int).toNat-(↑0:Int).toNat))),(49,V.c (C.sl 2 1 0 (0+((↑j:Int).toNat-(↑0:Int).toNat)))),(50,V.c (C.p (PV.l 1 A.length (aE aT A)))),(51,V.c (C.p (PV.i aC (↑i:Int)))),(52,V.c (C.lp 1 A.length (aE aT A) (↑i:Int).toNat 0)),(53,V.c (C.p (PV.i aC (A.getD (↑i:Int).toNat default)))),(54,V.c (C.sl 1 1 0 1)),(55,V.c (C.sl 3 1 0 (0+((↑j:Int).toNat-(↑0:Int).toNat)+1))),(56,V.c (C.sl 0 1 0 k)),(57,V.c (C.p (PV.i aC (↑j:Int)))),(58,V.c (C.sl 0 1 (0+(↑j:Int).toNat) ((↑k:Int).toNat-(↑j:Int).toNat))),(59,V.c (C.sl 4 1 0 (0+((↑j:Int).toNat-(↑0:Int).toNat)+1+((↑k:Int).toNat-(↑j:Int).toNat))))] [AO.row 3 1 k (aO aT out),AO.row 3 1 1 fun e o=>bC C.top [C.p (PV.i aC (A.getD (↑i:Int).toNat default))] (e*1+o),AO.gone,AO.gone,AO.row 3 1 (0+((↑j:Int).toNat-(↑0:Int).toNat)+1+((↑k:Int).toNat-(↑j:Int).toNat)) (fI (0+((↑j:Int).toNat-0)+1) (fI (0+((↑j:Int).toNat-0)) (fI 0 (fun x x_1=>C.top) fun e o=>aO aT out (e+0) o) fun e o=>bC C.top [C.p (PV.i aC (A.getD (↑i:Int).toNat default))] ((e+0)*1+o)) fun e o=>aO aT out (e+(0+(↑j:Int).toNat)) o)])))))))))))):=by kernel_rfl
theorem aTZ(M:List Pg)(n:Nat):dF fH (bL 3 (dC aB Try.f54)) (bY 15 [(4,.c (.ptr 0 0)),(5,.c (.sl 1 7 0 n))] [.cells 27 [.p (.z (.slice none 0 0))],.row 31 7 n (aO aG M)]) (gW [] (bK aB Try.f54))=Tr.rq (0+n≤n∧∀(e o:Nat),e<n→o<7→BZ (aO aG M (e+0) o)=true) (.done .ret (St.mk [V.a [C.p (PV.l 7 n fun e o=>mZ (aO aG M (e+0) o))]] [])):=by kernel_rfl
theorem tS1(A:List Int):dF fH (dL 3 (dC aB gX)) (oB gX [aU aT 1 A]) (gW (fJ 62 [0,3,4]) (bK aB gX))=Tr.done X.normal
 (bY 62 [(0,.c (.p (.l 1 A.length (aE aT A)))),(3,.c (.p (.z (bB none 0 0)))),(4,.c (.p (.i .i64 0)))] []):=by kernel_rfl
theorem tS2(A out:List Int)(k i:Nat):dF fH (dL 2 (gQ (dC aB gX) 3)) (bY 62 [(0,aU aT 1 A),(3,.c (.sl 0 1 0 k)),(4,iV (i:Nat))] [.row 3 1 k (aO aT out)]) (gW (fJ 62 [0,3,4]) (bK aB gX))=bT (decide ((↑i:Int)<(↑A.length:Int)))
 (.done .normal
 (bY 62 [(0,.c (.p (.l 1 A.length (aE aT A)))),(3,.c (.sl 0 1 0 k)),(4,.c (.p (.i .i64 (↑i:Int))))] [.row 3 1 k fun e o=>bQ [0] (aO aT out e o)]))
 (.done (.exit 0)
 (bY 62 [(0,.c (.p (.l 1 A.length (aE aT A)))),(3,.c (.sl 0 1 0 k)),(4,.c (.p (.i .i64 (↑i:Int))))] [.row 3 1 k fun e o=>bQ [0] (aO aT out e o)])):=by kernel_rfl
theorem tS3(A out:List Int)(k i:Nat):dF fH (dL 1 (eZ (inr (bC .skip (gQ (dC aB gX) 3) 2)))) (bY 62 [(0,aU aT 1 A),(3,.c (.sl 0 1 0 k)),(4,iV (i:Nat))] [.row 3 1 k (aO aT out)]) (gW (fJ 62 [0,3,4,5]) (bK aB gX))=Tr.done X.normal
 (bY 62 [(0,.c (.p (.l 1 A.length (aE aT A)))),(3,.c (.sl 0 1 0 k)),(4,.c (.p (.i .i64 (↑i:Int)))),(5,.c (.p (.i .i64 (↑k:Int))))] [.row 3 1 k fun e o=>bQ [0] (aO aT out e o)]):=by kernel_rfl
theorem tS4(A out:List Int)(k i j:Nat):dF fH (gQ (eZ (inr (bC .skip (gQ (dC aB gX) 3) 2))) 1) (bY 62 [(0,aU aT 1 A),(3,.c (.sl 0 1 0 k)),(4,iV (i:Nat)),(5,iV (j:Nat))] [.row 3 1 k (aO aT out)]) (gW (fJ 62 [0,3,4,5]) (bK aB gX))=bT (decide (0<(↑j:Int)))
 (.rq (eW aC ((↑j:Int)-1))
 (.rq (0≤(↑j:Int)-1∧(↑j:Int)-1<(↑k:Int))
 (.rq (((↑j:Int)-1).toNat+0<k)
 (.rq (0≤(↑i:Int)∧(↑i:Int)<(↑A.length:Int))
 (bT (decide (A.getD (↑i:Int).toNat default<out.getD (((↑j:Int)-1).toNat+0) default))
 (.rq (eW aC ((↑j:Int)-1))
 (.done .normal
 (bY 62 [(0,.c (.p (.l 1 A.length (aE aT A)))),(3,.c (.sl 0 1 0 k)),(4,.c (.p (.i .i64 (↑i:Int)))),(5,.c (.p (.i .i64 ((↑j:Int)-1))))] [.row 3 1 k fun e o=>bQ [0] (aO aT out e o)])))
 (.done (.exit 2)
 (bY 62 [(0,.c (.p (.l 1 A.length (aE aT A)))),(3,.c (.sl 0 1 0 k)),(4,.c (.p (.i .i64 (↑i:Int)))),(5,.c (.p (.i .i64 (↑j:Int))))] [.row 3 1 k fun e o=>bQ [0] (aO aT out e o)])))))))
 (.done (.exit 2)
 (bY 62 [(0,.c (.p (.l 1 A.length (aE aT A)))),(3,.c (.sl 0 1 0 k)),(4,.c (.p (.i .i64 (↑i:Int)))),(5,.c (.p (.i .i64 (↑j:Int))))] [.row 3 1 k fun e o=>bQ [0] (aO aT out e o)])):=by kernel_rfl
theorem tS5(A out:List Int)(k i j:Nat):dF fH (dL 3 (bL 2 (eZ (inr (bC .skip (gQ (dC aB gX) 3) 2))))) (bY 62 [(0,aU aT 1 A),(3,.c (.sl 0 1 0 k)),(4,iV (i:Nat)),(5,iV (j:Nat))] [.row 3 1 k (aO aT out)]) (gW (fJ 62 [0,3,4,5,6]) (bK aB gX))=bT (decide (0<(↑j:Int)))
 (.rq (eW aC ((↑j:Int)-1))
 (.rq (0≤(↑j:Int)-1∧(↑j:Int)-1<(↑k:Int))
 (.rq (((↑j:Int)-1).toNat+0<k)
 (.rq (0≤(↑i:Int)∧(↑i:Int)<(↑A.length:Int))
 (bT (out.getD (((↑j:Int)-1).toNat+0) default==A.getD (↑i:Int).toNat default)
 (.done (.exit 1)
 (bY 62 [(0,.c (.p (.l 1 A.length (aE aT A)))),(3,.c (.sl 0 1 0 k)),(4,.c (.p (.i .i64 (↑i:Int)))),(5,.c (.p (.i .i64 (↑j:Int))))] [.row 3 1 k fun e o=>bQ [0] (aO aT out e o)]))
 (.done .normal
 (bY 62 [(0,.c (.p (.l 1 A.length (aE aT A)))),(3,.c (.sl 0 1 0 k)),(4,.c (.p (.i .i64 (↑i:Int)))),(5,.c (.p (.i .i64 (↑j:Int)))),(6,.c (.p (.z (bB none 0 0))))] [.row 3 1 k fun e o=>bQ [0] (aO aT out e o)])))))))
 (.done .normal
 (bY 62 [(0,.c (.p (.l 1 A.length (aE aT A)))),(3,.c (.sl 0 1 0 k)),(4,.c (.p (.i .i64 (↑i:Int)))),(5,.c (.p (.i .i64 (↑j:Int)))),(6,.c (.p (.z (bB none 0 0))))] [.row 3 1 k fun e o=>bQ [0] (aO aT out e o)])):=by kernel_rfl
theorem tS6(A out:List Int)(k i:Nat):dF fH (bL 6 (eZ (inr (bC .skip (gQ (dC aB gX) 3) 2)))) (bY 62 [(0,aU aT 1 A),(4,iV (i:Nat)),(6,.c (.sl 0 1 0 k))] [.row 3 1 k (aO aT out)]) (gW (fJ 62 [0,3,4]) (bK aB gX))=Tr.done X.normal
 (bY 62 [(0,.c (.p (.l 1 A.length (aE aT A)))),(3,.c (.sl 0 1 0 k)),(4,.c (.p (.i .i64 (↑i:Int))))] [.row 3 1 k fun e o=>bQ [0] (aO aT out e o)]):=by kernel_rfl
theorem tS7(A out:List Int)(k i:Nat):dF fH (bL 3 (gQ (dC aB gX) 3)) (bY 62 [(0,aU aT 1 A),(3,.c (.sl 0 1 0 k)),(4,iV (i:Nat))] [.row 3 1 k (aO aT out)]) (gW (fJ 62 [0,3,4]) (bK aB gX))=Tr.rq (eW aC ((↑i:Int)+1))
 (.done .normal
 (bY 62 [(0,.c (.p (.l 1 A.length (aE aT A)))),(3,.c (.sl 0 1 0 k)),(4,.c (.p (.i .i64 ((↑i:Int)+1))))] [.row 3 1 k fun e o=>bQ [0] (aO aT out e o)])):=by kernel_rfl
theorem tS8(A out:List Int)(k i:Nat):dF fH (bL 4 (dC aB gX)) (bY 62 [(0,aU aT 1 A),(3,.c (.sl 0 1 0 k)),(4,iV (i:Nat))] [.row 3 1 k (aO aT out)]) (gW [] (bK aB gX))=Tr.rq (0+k≤k∧∀(e o:Nat),e<k→o<1→BZ (aO aT out (e+0) o)=true) (.done .ret (St.mk [V.c (C.p (PV.l 1 k fun e o=>mZ (aO aT out (e+0) o)))] [])):=by kernel_rfl
def leL:V→List Pg→Option Prop
 |.a [c],M=>leP (.c c) M
 |_,_=>none
theorem xP{x:V}{M:List Pg}{p:Prop}(h:leL x M=some p)(hp:p):iE x (.a [.p (bO aG 7 M)]):=by
 unfold leL at h;split at h
 ·rename_i c
  have:=UJ h hp
  rintro β R w u ⟨us,rfl,hu⟩;refine⟨us,rfl,?_⟩
  match hus:us.toList,hu with
  |[y],⟨h1,_⟩=>exact⟨this β R w y h1,trivial⟩
 ·cases h
def CN(M:List Pg):V:=.a [.p (bO aG 7 M)]
def XD(M:List Pg):Mod
 |[x,y]=>match leL x M,xF y with
  |some p,some (q,a)=>some ((p∧q)∧M.length≤1000000,CN (M++[a]))
  |_,_=>none
 |_=>none
def nA(L:List Int):List Int:=kU (iM L)
def aNU:Mod
 |[x]=>match CM x with
  |some (p,A)=>some (p∧A.length≤1000000,aU aT 1 (nA A))
  |none=>none
 |_=>none
theorem aMP{out:List Int}{x:Int}{j:Nat}(hs:out.Pairwise (· < ·))(hj:j≤out.length)(h1:∀m,j≤m→m<out.length→x<out.getD m default)(h2:j=0∨out.getD (j-1) default<x):(out.take j++([x]++out.drop j)).Pairwise (· < ·):=by
 have hd:∀y∈out.drop j,x<y:=fun y hy=>by
  obtain⟨m,hm,rfl⟩:=gA hy;rw[List.getElem_drop]
  have hm':j+m<out.length:=by rw[List.length_drop]at hm;omega
  have:=h1 (j+m) (by omega) hm'
  simpa[hm'] using this
 have ht:∀y∈out.take j,y<x:=fun y hy=>by
  obtain⟨m,hm,rfl⟩:=gA hy;rw[eR]at hm;rw[List.getElem_take]
  rcases h2 with h2|h2
  ·omega
  ·have hj1:j-1<out.length:=by omega
   have e:out.getD (j-1) default=out[j-1]:=by simp[hj1]
   rw[e]at h2
   by_cases e2:m=j-1
   ·subst e2;exact h2
   ·have:=(dZ.1 hs) m (j-1) (by omega) hj1 (by omega)
    omega
 refine List.pairwise_append.2 ⟨hs.sublist (List.take_sublist _ _),?_,fun a ha b hb=>?_⟩
 ·show (x::out.drop j).Pairwise (· < ·)
  exact List.pairwise_cons.2 ⟨hd,hs.sublist (List.drop_sublist _ _)⟩
 ·have q1:=ht a ha
  rcases dK.1 hb with h|h
  ·rw[eO.1 h];exact q1
  ·have:=hd b h;omega
theorem aJI{out:List Int}{x:Int}{j k:Nat}(hk:out.length=k)(hj:j≤k){e o:Nat}(he:e<j+1+(k-j))(ho:o<1) :
  fI (0+(j-0)+1) (fI (0+(j-0)) (fI 0 (fun _ _=>C.top) fun e o=>aO aT out (e+0) o) fun e o=>bC C.top [C.p (PV.i aC x)] ((e+0)*1+o)) (fun e o=>aO aT out (e+(0+j)) o) e o=aO aT (out.take j++([x]++out.drop j)) e o:=by
 obtain rfl:o=0:=by omega
 have rc:∀(L:List Int) (e o:Nat),aO aT L e o=.p (.i .i64 (L.getD e default)):=fun _ _ _=>rfl
 unfold fI;rw[rc]
 have ht:(out.take j).length=j:=by rw[eR];omega
 by_cases h1:e<j
 ·rw[if_pos (by omega),if_pos (by omega),if_neg (by omega)]
  dsimp only;rw[rc];congr 2;rw[aD,aD,cG (by omega),List.getElem?_take,if_pos h1];rfl
 ·by_cases h2:e=j
  ·subst h2
   rw[if_pos (by omega),if_neg (by omega)];dsimp only
   have:(e-(0+(e-0))+0)*1+0=0:=by omega
   rw[this]
   show C.p _=C.p _
   congr 2;rw[aD,cV (by omega),ht,Nat.sub_self];rfl
  ·rw[if_neg (by omega)]
   dsimp only;rw[rc];congr 2;rw[aD,aD,cV (by omega),ht,cV (by simp;omega),jN];congr 2;simp;omega
section
variable {G:Nat→Option Obj}
theorem eG.raw{P:Program}{rs:List AR}{v:V}{ext:Ext}(hext:bG P G ext){rid:Nat}{ops:Array Oper}{al:List AI}{N:Nat}(hm:P.follows .mixedOrders=true)(hal:fD P ops ops.toList=some al)(hok:aCO ops al N=true){r:List (List Bool×Nat)}{m:List Bool}(hS:yH ops al N [] r m=true){l r':List dQ}{st:St}{Q:X→St→Prop}(hl:l=.raw (.region rid ops true)::r'){tree:Tr}
  (ht:NM ext al ops.toList (fun s=>iY ext (al.drop N) s fun s'=>.done .normal s') [] r m st=tree) (h:tree.holds P G fun e s=>e=.normal∧eG P G rs v r' s Q):eG P G rs v l st Q:=by
 subst hl;subst ht;refine kM.mono (kM.regz hext hm hal (aH1 hok) (IF hS) h) ?_;rintro e s ⟨rfl,h⟩;exact h
set_option maxRecDepth 100000 in
theorem aDR(M:List Pg):iW aB G 54 (XD M):=by
 intro args p v hm hp h;unfold XD at hm
 split at hm;rotate_left;· cases hm
 split at hm;rotate_left;· cases hm
 rename_i x y _ _ p1 p2 a hx hy;obtain⟨rfl,rfl⟩:=eY hm;obtain⟨⟨hA,hB⟩,hlen⟩:=hp;refine jW.args (args':=[CN M,uK a]) ?_ (.cons (xP hx hA) (.cons (mT hy hB) .nil));clear hm hx hy hA hB
 refine qN Try.func54 (by kernel_rfl) rfl ?_ h
 refine eG.evG aY 2 (aU1 M a) ?_;simp only[cD,bA,aP,cC];refine⟨?_⟩
 refine eG.raw (ext:=fH) (N:=7) (al:=aOR) (ops:=WF) (rid:=2) (r':=bL 3 (dC aB Try.f54)) aY (by kernel_rfl) (by kernel_rfl) (by kernel_rfl) (by kernel_rfl) (by kernel_rfl) (aU0 M a) ?_
 simp only[cD,bA,aP]
 have one:∀(e o:Nat),e<M.length→o<7→iQ (C.p (aE aG M e o))=true:=fun e o he ho=>by
  have:o=0∨o=1∨o=2∨o=3∨o=4∨o=5∨o=6:=by omega
  rcases this with rfl|rfl|rfl|rfl|rfl|rfl|rfl<;>rfl
 have one2:∀(e o:Nat),e<1→o<7→iQ (mI [C.p (.i .i64 a.kd),C.p (.s a.ru),C.p (.i .i64 a.ve),C.p (.l 2 a.L.length (aE aN a.L)),C.p (.i .i64 a.st),C.p (.i .i64 a.se),C.p (.s a.to)] 7 1 (e+0) o)=true:=fun e o he ho=>by
  obtain rfl:e=0:=by omega
  have:o=0∨o=1∨o=2∨o=3∨o=4∨o=5∨o=6:=by omega
  rcases this with rfl|rfl|rfl|rfl|rfl|rfl|rfl<;>rfl
 refine⟨⟨by omega,by omega,one⟩,trivial,aW _,⟨by omega,by omega,one2⟩,⟨trivial,?_⟩⟩;refine eG.pre (gB (fJ 15 [4,5]) _) (eG.pre (st2:=bY 15 [(4,.c (.ptr 0 0)),(5,.c (.sl 1 7 0 (M.length+1)))] [.cells 27 [.p (.z (.slice none 0 0))],.row 31 7 (M.length+1) (aO aG (M++[a]))]) ?_ ?_)
 ·refine(aI (st':=bY 15 [(4,.c (.ptr 0 0)),(5,.c (.sl 1 7 0 (0+M.length+1)))] [.cells 27 [.p (.z (.slice none 0 0))],.row 31 7 (0+M.length+1) fun e o=>bQ [2,5] (fI (0+M.length) (fI 0 (fun _ _=>C.top) fun e o=>C.p (aE aG M e o)) (fun e o=>bC C.top [C.p (.i .i64 a.kd),C.p (.s a.ru),C.p (.i .i64 a.ve),C.p (bO aN 2 a.L),C.p (.i .i64 a.st),C.p (.i .i64 a.se),C.p (.s a.to)] ((e+0)*7+o)) e o)]) (by kernel_rfl)).trans ?_
  rw[show 0+M.length+1=M.length+1 by omega];refine jF ⟨rfl,⟨rfl,rfl,rfl,fun e o he ho=>?_⟩,trivial⟩
  have:=pP (enc:=aG) (ρ:=[2,5]) (L:=M) (n:=M.length) (sz:=7) (x:=a) (g:=fun e o=>bC C.top [C.p (.i .i64 a.kd),C.p (.s a.ru),C.p (.i .i64 a.ve),C.p (bO aN 2 a.L),C.p (.i .i64 a.st),C.p (.i .i64 a.se),C.p (.s a.to)] ((e+0)*7+o)) rfl (IU a.kd a.ve a.st a.se a.ru a.to a.L) he ho
  rw[←this];rw[show 0+M.length=M.length by omega];congr 1
 ·have hl:(M++[a]).length=M.length+1:=by simp
  rw[←hl];refine eG.evH aY (aTZ (M++[a]) (M++[a]).length) ?_;simp only[bA,aP,fP];exact⟨⟨by omega,fun _ _ _ _=>rfl⟩,⟨iE.refl _⟩⟩
set_option maxRecDepth 100000 in
theorem aKH:iW aB G 52 aNU:=by
 intro args p v hm hp h;unfold aNU at hm
 split at hm;rotate_left;· cases hm
 split at hm;rotate_left;· cases hm
 rename_i x _ q A hx;obtain⟨rfl,rfl⟩:=eY hm;obtain⟨hA,hlen⟩:=hp;refine jW.args (args':=[aU aT 1 A]) ?_ (.cons (oZ hx hA) .nil);clear hA hm hx
 refine qN Try.func52 (by kernel_rfl) rfl ?_ h
 refine eG.evG aY 3 (tS1 A) ?_;simp only[cD,aP,fP,cC];refine⟨?_⟩
 have sl:∀i,(nA (A.take i)).length≤i:=fun i=>by
  have h1:=nY (iM (A.take i))
  rw[kP,eR]at h1;unfold nA;omega
 refine eG.loop' (l:=bL 3 (dC aB gX)) (b:=inr (inr (bC .skip (dC aB gX) 3))) (r:=bL 4 (dC aB gX)) (id:=0) (by kernel_rfl) (σ:=Nat)
   (fun i=>(fun out k=>bY 62 [(0,aU aT 1 A),(3,.c (.sl 0 1 0 k)),(4,iV (i:Nat))] [.row 3 1 k (aO aT out)]) (nA (A.take i)) (nA (A.take i)).length) (fun i=>i≤A.length) (fun i=>A.length-i) 0 (bX _) ((mM 3 1 (aO aT []) 3 (by kernel_rfl)).trans ?_) ?_
 ·have e:nA (A.take 0)=[]:=List.eq_nil_of_length_eq_zero (by have:=sl 0;omega)
  rw[e]
  exact aI (by kernel_rfl)
 intro i hi Q1 q1n q1e _
 obtain⟨out,hout⟩:∃out,out=nA (A.take i):=⟨_,rfl⟩
 have hol:=sl i
 rw[←hout]at hol ⊢
 have hlt:=qT (A.take i)
 have hmem:=pB (A.take i)
 change (nA (A.take i)).Pairwise _ at hlt
 change ∀t,t∈nA (A.take i)↔_ at hmem
 rw[←hout]at hlt hmem;refine eG.evG aY 2 (tS2 A out out.length i) ?_;simp only[cD,aP,cC,jZ,decide_eq_true_eq,decide_eq_false_iff_not];refine⟨fun h1=>⟨?_⟩,fun h1=>⟨q1e _ ?_⟩⟩
 ·have hlA:i<A.length:=by omega
  have hts:=uA hlA
  have fin:∀st out' k',out'=nA (A.take (i+1))→k'=out'.length→cW G st ((fun out k=>bY 62 [(0,aU aT 1 A),(3,.c (.sl 0 1 0 k)),(4,iV (i:Nat))] [.row 3 1 k (aO aT out)]) out' k')→eG aB G (bK aB gX) (aU aT 1 (nA A)) (bL 3 (gQ (dC aB gX) 3)) st Q1:=fun st out' k' ho hk hw=>by
   subst hk;refine eG.pre hw (eG.evH aY (tS7 A out' out'.length i) ?_);simp only[bA,aP,cC,eW];refine⟨by omega,⟨q1n (i+1) _ (by omega) (by omega) ?_⟩⟩;subst ho
   exact aI (by kernel_rfl)
  refine eG.blk' (l:=bL 2 (gQ (dC aB gX) 3)) (id:=1) (a:=inr (bC .skip (gQ (dC aB gX) 3) 2)) (r:=bL 3 (gQ (dC aB gX) 3)) (by kernel_rfl) ?_
  intro Q2 q2n q2e _;refine eG.evG aY 1 (tS3 A out out.length i) ?_;simp only[aP,cC];refine⟨?_⟩
  obtain⟨x,hx⟩:∃x,x=A.getD i default:=⟨_,rfl⟩
  refine eG.loop' (l:=bL 1 (eZ (inr (bC .skip (gQ (dC aB gX) 3) 2)))) (b:=inr (inr (bC .skip (eZ (inr (bC .skip (gQ (dC aB gX) 3) 2))) 1))) (r:=bL 2 (eZ (inr (bC .skip (gQ (dC aB gX) 3) 2)))) (id:=2) (by kernel_rfl) (σ:=Nat)
    (fun j=>(fun k=>bY 62 [(0,aU aT 1 A),(3,.c (.sl 0 1 0 k)),(4,iV (i:Nat)),(5,iV (j:Nat))] [.row 3 1 k (aO aT out)]) out.length) (fun j=>j≤out.length∧∀m,j≤m→m<out.length→x<out.getD m default) (fun j=>j) out.length ⟨aW _,fun m h1 h2=>by omega⟩ (aI (by kernel_rfl)) ?_
  rintro j ⟨hj,hgt⟩ Q3 q3n q3e -
  have after:(j=0∨¬x<out.getD (j-1) default)→∀st,cW G st ((fun k=>bY 62 [(0,aU aT 1 A),(3,.c (.sl 0 1 0 k)),(4,iV (i:Nat)),(5,iV (j:Nat))] [.row 3 1 k (aO aT out)]) out.length)→eG aB G (bK aB gX) (aU aT 1 (nA A)) (bL 2 (eZ (inr (bC .skip (gQ (dC aB gX) 3) 2)))) st Q2:=by
   intro hq st hw;refine eG.pre hw (eG.evG aY 3 (tS5 A out out.length i j) ?_);simp only[cD,bA,aP,cC,jZ,decide_eq_true_eq,decide_eq_false_iff_not,beq_iff_eq,beq_eq_false_iff_ne,ne_eq,eW,show (↑i:Int).toNat=i from rfl,Nat.add_zero]
   have ej:((j:Int)-1).toNat=j-1:=by omega
   rw[ej,←hx]
   have raw:(j=0∨out.getD (j-1) default<x)→∀st,cW G st ((fun k=>bY 62 [(0,aU aT 1 A),(3,.c (.sl 0 1 0 k)),(4,iV (i:Nat)),(5,iV (j:Nat)),(6,.c (.p (.z (.slice none 0 0))))] [.row 3 1 k (aO aT out)]) out.length)→eG aB G (bK aB gX) (aU aT 1 (nA A)) (bL 3 (bL 2 (eZ (inr (bC .skip (gQ (dC aB gX) 3) 2))))) st Q2:=by
    intro hq2 st hw
    refine eG.pre hw (eG.raw (ext:=fH) (N:=15) (al:=aOQ) (ops:=WE) (rid:=10) (r':=bL 6 (eZ (inr (bC .skip (gQ (dC aB gX) 3) 2)))) aY (by kernel_rfl) (by kernel_rfl) (by kernel_rfl) (by kernel_rfl) (by kernel_rfl) (aRR A out out.length i j) ?_)
    simp only[cD,bA,aP]
    have e1:(j:Int).toNat=j:=rfl
    have e2:(out.length:Int).toNat=out.length:=rfl
    rw[e1,e2];refine⟨⟨by decide,by omega,by omega⟩,⟨by omega,by omega⟩,⟨by omega,by omega,by omega⟩,by omega,⟨by omega,by omega,fun _ _ _ _=>rfl⟩,trivial,aW _,⟨by omega,by omega,fun e o he ho=>?_⟩,trivial,by omega,⟨by omega,by omega,fun _ _ _ _=>rfl⟩,⟨trivial,?_⟩⟩
    ·obtain rfl:e=0:=by omega
     obtain rfl:o=0:=by omega
     rfl
    have hnew:out.take j++([x]++out.drop j)=nA (A.take (i+1)):=by
     refine qO (aMP hlt hj hgt hq2) (qT _) fun t=>?_
     show _↔t∈kU (iM (A.take (i+1)))
     rw[pB,hts,dK,dK (s:=A.take i),←hmem,←hx,←fL j out,dK,dK];simp only[fL];constructor
     ·rintro (h|h|h)
      ·exact .inl (.inl h)
      ·exact .inr h
      ·exact .inl (.inr h)
     ·rintro ((h|h)|h)
      ·exact .inl h
      ·exact .inr (.inr h)
      ·exact .inr (.inl h)
    have hnl:(out.take j++([x]++out.drop j)).length=j+1+(out.length-j):=by simp;omega
    refine eG.pre (gB (fJ 62 [0,4,6]) _) (eG.pre (st2:=(fun out k=>bY 62 [(0,aU aT 1 A),(4,iV (i:Nat)),(6,.c (.sl 0 1 0 k))] [.row 3 1 k (aO aT out)]) (out.take j++([x]++out.drop j)) (j+1+(out.length-j))) ?_ ?_)
    ·refine(aI (st':=bY 62 [(0,aU aT 1 A),(4,iV (i:Nat)),(6,.c (.sl 0 1 0 (0+(j-0)+1+(out.length-j))))] [.row 3 1 (0+(j-0)+1+(out.length-j)) fun e o=>bQ [4] (fI (0+(j-0)+1) (fI (0+(j-0)) (fI 0 (fun _ _=>C.top) fun e o=>aO aT out (e+0) o) fun e o=>bC C.top [C.p (PV.i aC (A.getD i default))] ((e+0)*1+o)) (fun e o=>aO aT out (e+(0+j)) o) e o)]) (by kernel_rfl)).trans ?_
     rw[show 0+(j-0)+1+(out.length-j)=j+1+(out.length-j) by omega,←hx];refine jF ⟨⟨rfl,rfl,rfl,fun e o he ho=>?_⟩,trivial⟩;exact(congrArg (bQ [4]) (aJI rfl hj he ho)).trans rfl
    ·refine eG.evH aY (tS6 A _ _ i) ?_
     simp only[aP,cC]
     exact⟨q2n _ (fin _ _ _ hnew hnl.symm (aI (by kernel_rfl)))⟩
   refine⟨fun h2=>⟨by omega,by omega,by omega,by omega,fun h3=>⟨q2e _ (fin _ out _ ?_ rfl ?_)⟩,fun h3=>⟨raw ?_ _ (aI (by kernel_rfl))⟩⟩,fun h2=>⟨raw (.inl (by omega)) _ (aI (by kernel_rfl))⟩⟩
   ·refine qO hlt (qT _) fun t=>?_
    show _↔t∈kU (iM (A.take (i+1)))
    rw[pB,hts,dK,hmem,←hx]
    have hxo:x∈A.take i:=by
     rw[←hmem,←h3];exact sF (by omega)
    constructor
    ·exact fun h=>.inl h
    ·rintro (h|h)
     ·exact h
     ·rw[eO.1 h];exact hxo
   ·exact(gB (fJ 62 [0,3,4]) _).trans (aI (by kernel_rfl))
   ·rcases hq with h|h
    ·exact .inl h
    ·right;omega
  refine eG.evH aY (tS4 A out out.length i j) ?_;simp only[cD,bA,aP,cC,jZ,decide_eq_true_eq,decide_eq_false_iff_not,eW,show (↑i:Int).toNat=i from rfl,Nat.add_zero]
  have ej:((j:Int)-1).toNat=j-1:=by omega
  rw[ej,←hx]
  refine⟨fun h2=>⟨by omega,by omega,by omega,by omega,fun h3=>⟨by omega,⟨q3n (j-1) _ ⟨by omega,fun m hm1 hm2=>?_⟩ (by omega) ?_⟩⟩,fun h3=>⟨q3e _ (after (.inr h3) _ (aI (by kernel_rfl)))⟩⟩,fun h2=>⟨q3e _ (after (.inl (by omega)) _ (aI (by kernel_rfl)))⟩⟩
  ·by_cases e:m=j-1
   ·subst e;exact h3
   ·exact hgt m (by omega) hm2
  ·have e:(j:Int)-1=((j-1:Nat):Int):=by omega
   rw[e]
   exact aI (by kernel_rfl)
 ·obtain rfl:i=A.length:=by omega
  rw[List.take_length]at hout;refine eG.evH aY (tS8 A out out.length A.length) ?_;simp only[bA,aP,fP];refine⟨⟨by omega,fun _ _ _ _=>rfl⟩,⟨?_⟩⟩;rw[←hout];exact iE.refl _
end
end Go.AE
namespace Go.Proofs.Ytfjihbmehhccoaa
open _root_.Array renaming getElem?_eq_some_iff→bH,toList_inj→fO
open _root_.Bool renaming and_eq_true→aQ,not_eq_false'→fX,not_eq_true'→eQ,or_eq_true→bU
open _root_.ByteArray renaming mk→aH
open _root_.Int renaming ofNat→dR
open IntKind renaming i64→aC
open _root_.List renaming all_eq_true→fN,drop_eq_getElem_cons→dG,getD_eq_getElem?_getD→aD,getElem?_append_left→cG,getElem?_append_right→cV,getElem?_drop→jN,getElem?_eq_getElem→aK,getElem?_eq_none→cB,getElem_mem→jQ,getElem_of_mem→gA,length_append→aL,length_set→cE,length_take→eR,mem_append→dK,mem_cons→fC,mem_iff_getElem?→dO,mem_singleton→eO,pairwise_iff_getElem→dZ,take_append_drop→fL
open _root_.Nat renaming beq→cA,ble→dV,eq_of_beq_eq_true→aS,le_of_ble_eq_true→gV,le_refl→aW,lt_or_ge→cL,zero_le→bX
open Op renaming bytesLess→dH
open Region renaming binds→fR,ready→eH,waitsFor→cY,waitsFor_spec→dB
open _root_.Go.Proofs.Try renaming f105→gZ,f52→gX,prog→aB
open _root_.UInt8 renaming lt_iff_toNat_lt→gJ
open Value renaming slice→bB
theorem KJ(a b:ByteArray):(a.toList==b.toList)=true↔a=b:=by
 rw[beq_iff_eq,ByteArray.toList_eq,ByteArray.toList_eq];exact⟨fun h=>ByteArray.ext (fO.mp h),fun h=>by rw[h]⟩
theorem VM(a b:ByteArray):(a.toList==b.toList)=decide (a=b):=by
 rw[Bool.eq_iff_iff,KJ,decide_eq_true_iff]
theorem tE:∀ {a b c:List UInt8},dH a b=true→dH b c=true→dH a c=true
 |_,[],_,h,_=>by cases ‹List UInt8› <;> simp[dH]at h
 |_,_::_,[],_,h=>by simp[dH]at h
 |[],_::_,_::_,_,_=>by simp[dH]
 |x::a,y::b,z::c,h,k=>by
  have hx:=gJ (a:=x) (b:=y)
  have hy:=gJ (a:=y) (b:=z)
  have hz:=gJ (a:=x) (b:=z)
  simp only[dH,bU,decide_eq_true_eq,aQ,beq_iff_eq]at h k ⊢
  rcases h with h|⟨rfl,h⟩
  ·rcases k with k|⟨rfl,k⟩
   ·exact .inl (hz.2 (Nat.lt_trans (hx.1 h) (hy.1 k)))
   ·exact .inl h
  ·rcases k with k|⟨rfl,k⟩
   ·exact .inl k
   ·exact .inr ⟨rfl,tE h k⟩
theorem tG:∀ {a b:List UInt8},dH a b=false→a≠b→dH b a=true
 |[],[],_,h=>absurd rfl h
 |[],_::_,h,_=>by simp[dH]at h
 |_::_,[],_,_=>by simp[dH]
 |x::a,y::b,h,hn=>by
  have hx:=gJ (a:=x) (b:=y)
  have hy:=gJ (a:=y) (b:=x)
  simp only[dH,Bool.or_eq_false_iff,decide_eq_false_iff_not,Bool.and_eq_false_iff,beq_eq_false_iff_ne,bU,decide_eq_true_eq,aQ,beq_iff_eq]at h ⊢;obtain⟨h1,h2⟩:=h
  by_cases he:x=y
  ·subst he
   rcases h2 with h2|h2
   ·exact absurd rfl h2
   ·exact .inr ⟨rfl,tG h2 fun e=>hn (by rw[e])⟩
  ·refine .inl (hy.2 ?_)
   have h3:x.toNat≠y.toNat:=fun e=>he (UInt8.toNat_inj.1 e)
   have h4:¬x.toNat<y.toNat:=fun e=>h1 (hx.2 e)
   omega
theorem IG{a b c:ByteArray}(h:wK a b=true)(k:wK b c=true):wK a c=true:=tE h k
theorem ZG{a b:ByteArray}(h:wK a b=false)(hn:a≠b):wK b a=true:=tG h fun e=>hn (by
 have:=(KJ a b).1 (by rw[beq_iff_eq];exact e)
 exact this)
def nF(out:List Lb)(x:Lb):Nat:=(out.takeWhile fun y=>wK y.1 x.1).length
def AK:List Lb→List Lb→List Lb×Int
 |[],out=>(out,0)
 |x::r,out=>
  if jK x.1=false then ([],8)
  else if x.2.toList.isEmpty=true∨jY x.2=false then ([],1)
  else if (out[nF out x]?).any (fun y=>decide (y.1=x.1))=true then ([],10)
  else AK r (out.take (nF out x)++x::out.drop (nF out x))
def mB(L:List Lb):List Lb×Int:=if 8<L.length then ([],4) else AK L []
def rW(L:List Lb):Bool:=decide ((mB L).2=0)&&decide ((mB L).1=L)
def Srt(l:List Lb):Prop:=l.Pairwise fun a b=>wK a.1 b.1=true
theorem tL(out:List Lb)(x:Lb):out.take (nF out x)=out.takeWhile (fun y=>wK y.1 x.1)∧out.drop (nF out x)=out.dropWhile (fun y=>wK y.1 x.1):=by
 have h:=List.takeWhile_append_dropWhile (p:=fun y:Lb=>wK y.1 x.1) (l:=out)
 unfold nF;constructor
 ·have h2:=List.take_left (l₁:=out.takeWhile fun y=>wK y.1 x.1) (l₂:=out.dropWhile fun y=>wK y.1 x.1)
  rwa [h]at h2
 ·have h2:=List.drop_left (l₁:=out.takeWhile fun y=>wK y.1 x.1) (l₂:=out.dropWhile fun y=>wK y.1 x.1)
  rwa [h]at h2
theorem wP{p:Lb→Bool}:∀ {l:List Lb},(∀y∈l,p y=true)→l.takeWhile p=l
 |[],_=>rfl
 |x::l,h=>by
  rw[List.takeWhile_cons,if_pos (h x (List.mem_cons_self ..)),wP fun y hy=>h y (List.mem_cons_of_mem _ hy)]
theorem aGV{out:List Lb}{x:Lb}(h:Srt out)(hx:(out[nF out x]?).any (fun y=>decide (y.1=x.1))≠true):Srt (out.take (nF out x)++x::out.drop (nF out x)):=by
 have hs:=h
 rw[←fL (nF out x) out]at hs;unfold Srt at hs ⊢;rw[List.pairwise_append]at hs ⊢;obtain⟨h1,h2,h3⟩:=hs
 have hA:∀a∈out.take (nF out x),wK a.1 x.1=true:=by
  rw[(tL out x).1];intro a ha
  exact fN.1 List.all_takeWhile a ha
 have hB:∀b∈out.drop (nF out x),wK x.1 b.1=true:=by
  cases hd:out.drop (nF out x) with
  |nil=>intro b hb;cases hb
  |cons b r=>
   have hb0:out[nF out x]?=some b:=by
    have:=congrArg (·[0]?) hd
    simpa using this
   have hne:b.1≠x.1:=by
    rw[hb0]at hx;simpa using hx
   have hlt:wK b.1 x.1=false:=by
    have h5:=(tL out x).2
    rw[hd]at h5
    have:=List.head?_dropWhile_not (fun y:Lb=>wK y.1 x.1) out
    rw[←h5]at this;simpa using this
   have hb:=ZG hlt hne
   rw[hd]at h2;intro y hy
   rcases fC.1 hy with rfl|hy
   ·exact hb
   ·exact IG hb ((List.pairwise_cons.1 h2).1 y hy)
 refine⟨h1,List.pairwise_cons.2 ⟨hB,h2⟩,?_⟩;intro a ha b hb
 rcases fC.1 hb with rfl|hb
 ·exact hA a ha
 ·exact h3 a ha b hb
theorem WX:∀ {xs out s:List Lb},AK xs out=(s,0)→Srt out→Srt s∧∀x∈xs,jK x.1=true∧x.2.toList.isEmpty=false∧jY x.2=true
 |[],out,s,h,hs=>by
  simp only[AK,Prod.mk.injEq]at h;exact⟨h.1▸hs,fun _ hx=>by cases hx⟩
 |x::r,out,s,h,hs=>by
  unfold AK at h;split at h
  ·simp at h
  ·rename_i h1
   split at h
   ·simp at h
   ·rename_i h2
    split at h
    ·simp at h
    ·rename_i h3
     obtain⟨q1,q2⟩:=WX h (aGV hs h3);refine⟨q1,fun y hy=>?_⟩
     rcases fC.1 hy with rfl|hy
     ·simp only[not_or,Bool.not_eq_true,Bool.not_eq_false]at h1 h2
      exact⟨h1,h2⟩
     ·exact q2 y hy
theorem aDA{L:List Lb}{i:Nat}(hv:mD (fun k=>L.getD k default) L.length=true)(hi:i<L.length):jK (L.getD i default).1=true∧(L.getD i default).2.toList.isEmpty=false∧jY (L.getD i default).2=true∧(0<i→wK (L.getD (i-1) default).1 (L.getD i default).1=true):=by
 unfold mD at hv;rw[aQ,AF]at hv
 have:=hv.2 i hi
 unfold okl at this;simp only[aQ,bU,decide_eq_true_eq,eQ]at this;obtain⟨⟨⟨h1,h2⟩,h3⟩,h4⟩:=this;refine⟨h1,h2,h3,fun h0=>?_⟩
 rcases h4 with h4|h4
 ·omega
 ·exact h4
theorem NB{L:List Lb}(hv:mD (fun k=>L.getD k default) L.length=true):∀(i j:Nat),j<i→i<L.length→wK (L.getD j default).1 (L.getD i default).1=true
 |0,_,h,_=>by omega
 |i+1,j,h,hi=>by
  have h1:=(aDA hv hi).2.2.2 (by omega)
  simp only[Nat.add_sub_cancel]at h1
  by_cases hj:j=i
  ·subst hj;exact h1
  ·exact IG (NB hv i j (by omega) (by omega)) h1
theorem EZ{L:List Lb}(hv:mD (fun k=>L.getD k default) L.length=true):∀(m i:Nat),i+m=L.length→AK (L.drop i) (L.take i)=(L,0)
 |0,i,h=>by
  rw[List.drop_of_length_le (by omega),List.take_of_length_le (by omega)];rfl
 |m+1,i,h=>by
  have hi:i<L.length:=by omega
  rw[dG hi];obtain⟨h1,h2,h3,_⟩:=aDA hv hi
  have hx:L.getD i default=L[i]:=by simp[hi]
  rw[hx]at h1 h2 h3
  have hall:∀y∈L.take i,wK y.1 L[i].1=true:=by
   intro y hy;obtain⟨j,hj,rfl⟩:=gA hy
   have hj':j<i:=by simp at hj;omega
   have:=NB hv i j hj' hi
   rw[hx]at this
   have e:L.getD j default=L[j]'(by omega):=by simp[show j<L.length by omega]
   rw[e]at this;rw[List.getElem_take];exact this
  have hk:nF (L.take i) L[i]=i:=by
   unfold nF;rw[wP hall];simp;omega
  have hn:(L.take i)[i]?=none:=by rw[cB];simp;omega
  unfold AK;rw[if_neg (by simp[h1]),if_neg (by simp[h2,h3]),hk,hn,if_neg (by simp)]
  have e:(L.take i).take i++L[i]::(L.take i).drop i=L.take (i+1):=by
   rw[List.take_take,Nat.min_self,List.drop_of_length_le (by simp;omega),List.take_add_one];simp[hi]
  rw[e];exact EZ hv m (i+1) (by omega)
theorem NS(L:List Lb):rW L=mD (fun k=>L.getD k default) L.length:=by
 rw[Bool.eq_iff_iff];unfold rW;rw[aQ,decide_eq_true_iff,decide_eq_true_iff];constructor
 ·rintro⟨h1,h2⟩
  unfold mB at h1 h2;split at h1
  ·cases h1
  ·rename_i h8
   rw[if_neg h8]at h2
   have h3:AK L []=(L,0):=Prod.ext h2 h1
   obtain⟨q1,q2⟩:=WX h3 List.Pairwise.nil;unfold mD;rw[aQ,AF,decide_eq_true_iff];refine⟨by omega,fun k hk=>?_⟩
   have e:L.getD k default=L[k]:=by simp[hk]
   obtain⟨a1,a2,a3⟩:=q2 L[k] (jQ hk);unfold okl;simp only[aQ,bU,decide_eq_true_eq,eQ];rw[e];refine⟨⟨⟨a1,a2⟩,a3⟩,?_⟩
   by_cases h0:k=0
   ·exact .inl h0
   ·refine .inr ?_
    have e':L.getD (k-1) default=L[k-1]'(by omega):=by simp[show k-1<L.length by omega]
    rw[e'];exact dZ.1 q1 (k-1) k (by omega) hk (by omega)
 ·intro hv
  have h8:¬8<L.length:=by
   unfold mD at hv;rw[aQ,decide_eq_true_iff]at hv;omega
  have:=EZ hv L.length 0 (by omega)
  unfold mB;rw[if_neg h8];simp at this;rw[this];exact⟨rfl,rfl⟩
end Go.Proofs.Ytfjihbmehhccoaa
namespace Go.AE
open _root_.Array renaming getElem?_eq_some_iff→bH,toList_inj→fO
open _root_.Bool renaming and_eq_true→aQ,not_eq_false'→fX,not_eq_true'→eQ,or_eq_true→bU
open _root_.ByteArray renaming mk→aH
open _root_.Int renaming ofNat→dR
open IntKind renaming i64→aC
open _root_.List renaming all_eq_true→fN,drop_eq_getElem_cons→dG,getD_eq_getElem?_getD→aD,getElem?_append_left→cG,getElem?_append_right→cV,getElem?_drop→jN,getElem?_eq_getElem→aK,getElem?_eq_none→cB,getElem_mem→jQ,getElem_of_mem→gA,length_append→aL,length_set→cE,length_take→eR,mem_append→dK,mem_cons→fC,mem_iff_getElem?→dO,mem_singleton→eO,pairwise_iff_getElem→dZ,take_append_drop→fL
open _root_.Nat renaming beq→cA,ble→dV,eq_of_beq_eq_true→aS,le_of_ble_eq_true→gV,le_refl→aW,lt_or_ge→cL,zero_le→bX
open Op renaming bytesLess→dH
open Region renaming binds→fR,ready→eH,waitsFor→cY,waitsFor_spec→dB
open _root_.Go.Proofs.Try renaming f105→gZ,f52→gX,prog→aB
open _root_.UInt8 renaming lt_iff_toNat_lt→gJ
open Value renaming slice→bB
open Go.Proofs Go.Proofs.Ytfjihbmehhccoaa
def XB:Mod
 |[.c (.p (.s s))]=>some (True,bV (jK s))
 |_=>none
def TO:Mod
 |[.c (.p (.s s))]=>some (True,bV (jY s))
 |_=>none
def aR2:Ext:=kH [(104,LN)]
theorem aGS(n:Int):GC fH (lD aB Try.f104) (oB Try.f104 [.c (.p (.i .u8 n))]) (mC [] [] (bK aB Try.f104))=bT (decide (97≤n)) (.done .ret (St.mk [V.c (C.p (PV.b (decide (n≤122))))] [])) (.done .ret (St.mk [V.c (C.p (PV.b false))] [])):=by kernel_rfl
theorem aMG(s:ByteArray):dF fH (dL 4 (dC aB Try.f79)) (oB Try.f79 [sV s]) (mC [] (fJ 48 [0,3]) (bK aB Try.f79))=bT (decide ((↑s.size:Int)<1)) (.done .ret (St.mk [V.c (C.p (PV.b false))] []))
 (bT (decide (16<(↑s.size:Int))) (.done .ret (St.mk [V.c (C.p (PV.b false))] []))
 (.done .normal
 (bY 48 [(0,.c (.p (.s s))),(3,.c (.p (.i .i64 0)))] []))):=by kernel_rfl
theorem aMF(s:ByteArray)(i:Int):dF aR2 (gQ (dC aB Try.f79) 4) (bY 48 [(0,sV s),(3,iV i)] []) (mC [] (fJ 48 [0,3]) (bK aB Try.f79))=bT (decide (i<(↑s.size:Int)))
 (.rq (0≤i∧i<(↑s.size:Int))
 (bT (decide (48≤lE s i.toNat))
 (.rq (0≤i∧i<(↑s.size:Int))
 (bT (decide (lE s i.toNat≤57))
 (.rq (0≤i∧i<(↑s.size:Int))
 (.rq True
 (bT (!rG (lE s i.toNat))
 (bT (i==0) (.done .ret (St.mk [V.c (C.p (PV.b false))] []))
 (.rq (eW aC (i+1))
 (.done .normal
 (bY 48 [(0,.c (.p (.s s))),(3,.c (.p (.i .i64 (i+1))))] []))))
 (.rq (eW aC (i+1))
 (.done .normal
 (bY 48 [(0,.c (.p (.s s))),(3,.c (.p (.i .i64 (i+1))))] []))))))
 (.rq (0≤i∧i<(↑s.size:Int))
 (.rq (0≤i∧i<(↑s.size:Int))
 (.rq True
 (bT (!rG (lE s i.toNat))
 (bT (i==0) (.done .ret (St.mk [V.c (C.p (PV.b false))] []))
 (bT (!lE s i.toNat==95) (.done .ret (St.mk [V.c (C.p (PV.b false))] []))
 (.rq (eW aC (i+1))
 (.done .normal
 (bY 48 [(0,.c (.p (.s s))),(3,.c (.p (.i .i64 (i+1))))] [])))))
 (.rq (eW aC (i+1))
 (.done .normal
 (bY 48 [(0,.c (.p (.s s))),(3,.c (.p (.i .i64 (i+1))))] [])))))))))
 (.rq (0≤i∧i<(↑s.size:Int))
 (.rq (0≤i∧i<(↑s.size:Int))
 (.rq True
 (bT (!rG (lE s i.toNat))
 (bT (i==0) (.done .ret (St.mk [V.c (C.p (PV.b false))] []))
 (bT (!lE s i.toNat==95) (.done .ret (St.mk [V.c (C.p (PV.b false))] []))
 (.rq (eW aC (i+1))
 (.done .normal
 (bY 48 [(0,.c (.p (.s s))),(3,.c (.p (.i .i64 (i+1))))] [])))))
 (.rq (eW aC (i+1))
 (.done .normal
 (bY 48 [(0,.c (.p (.s s))),(3,.c (.p (.i .i64 (i+1))))] [])))))))))
 (.done (.exit 0)
 (bY 48 [(0,.c (.p (.s s))),(3,.c (.p (.i .i64 i)))] [])):=by kernel_rfl
theorem aME(s:ByteArray)(i:Int):dF fH (bL 5 (dC aB Try.f79)) (bY 48 [(0,sV s),(3,iV i)] []) (mC [] [] (bK aB Try.f79))=Tr.done X.ret (St.mk [V.c (C.p (PV.b true))] []):=by kernel_rfl
theorem aGR(s:ByteArray):dF fH (dL 4 (dC aB Try.f114)) (oB Try.f114 [sV s]) (mC [] (fJ 43 [0,3]) (bK aB Try.f114))=bT (decide (16<(↑s.size:Int))) (.done .ret (St.mk [V.c (C.p (PV.b false))] []))
 (.done .normal
 (bY 43 [(0,.c (.p (.s s))),(3,.c (.p (.i .i64 0)))] [])):=by kernel_rfl
theorem aGQ(s:ByteArray)(i:Int):dF fH (gQ (dC aB Try.f114) 4) (bY 43 [(0,sV s),(3,iV i)] []) (mC [] (fJ 43 [0,3]) (bK aB Try.f114))=bT (decide (i<(↑s.size:Int)))
 (.rq (0≤i∧i<(↑s.size:Int))
 (bT (decide (lE s i.toNat<33)) (.done .ret (St.mk [V.c (C.p (PV.b false))] []))
 (bT (decide (126<lE s i.toNat)) (.done .ret (St.mk [V.c (C.p (PV.b false))] []))
 (bT (lE s i.toNat==34) (.done .ret (St.mk [V.c (C.p (PV.b false))] []))
 (bT (lE s i.toNat==92) (.done .ret (St.mk [V.c (C.p (PV.b false))] []))
 (bT (lE s i.toNat==44) (.done .ret (St.mk [V.c (C.p (PV.b false))] []))
 (bT (lE s i.toNat==123) (.done .ret (St.mk [V.c (C.p (PV.b false))] []))
 (bT (lE s i.toNat==125) (.done .ret (St.mk [V.c (C.p (PV.b false))] []))
 (.rq (eW aC (i+1))
 (.done .normal
 (bY 43 [(0,.c (.p (.s s))),(3,.c (.p (.i .i64 (i+1))))] [])))))))))))
 (.done (.exit 0)
 (bY 43 [(0,.c (.p (.s s))),(3,.c (.p (.i .i64 i)))] [])):=by kernel_rfl
theorem aGP(s:ByteArray)(i:Int):dF fH (bL 5 (dC aB Try.f114)) (bY 43 [(0,sV s),(3,iV i)] []) (mC [] [] (bK aB Try.f114))=Tr.done X.ret (St.mk [V.c (C.p (PV.b true))] []):=by kernel_rfl
theorem KG(s:ByteArray)(k:Nat):lE s k=PlainAid.bt s k:=by
 unfold lE PlainAid.bt;split
 ·rename_i h
  have h':k<s.data.toList.length:=by simpa using h
  rw[aD,aK h'];simp[ByteArray.getElem_eq_getElem_data]
 ·rename_i h
  have h':s.data.toList.length≤k:=by simpa using h
  rw[aD,cB h'];rfl
section
variable {G:Nat→Option Obj}
theorem aDJ:iW aB G 104 LN:=by
 intro args p v hm hp h;unfold LN at hm;split at hm
 ·rename_i n
  injection hm with hm;injection hm with e1 e2;subst e1;subst e2
  refine HI aY Try.func104 (by kernel_rfl) rfl (aGS n) ?_ h
  simp only[cD,bA,iA,KF];refine⟨fun h1=>?_,fun h1=>?_⟩
  ·refine⟨_,rfl,iE.of_eq ?_⟩
   unfold rG;rw[h1];rfl
  ·refine⟨_,rfl,iE.of_eq ?_⟩
   unfold rG;rw[h1];rfl
 ·cases hm
theorem VA:bG aB G aR2:=eC (by simp;exact aDJ)
theorem WJ(k:Nat)(c:Int):okc k c=true↔(97≤c∧c≤122)∨(k≠0∧(c=95∨(48≤c∧c≤57))):=by simp[okc]
theorem WH(c:Int):okv c=true↔33≤c∧c≤126∧c≠34∧c≠92∧c≠44∧c≠123∧c≠125:=by
 simp[okv];omega
theorem OT(c:Int):rG c=true↔97≤c∧c≤122:=by simp[rG]
set_option maxRecDepth 100000 in
theorem aDI:iW aB G 79 XB:=by
 intro args p v hm hp h;unfold XB at hm;split at hm
 ·rename_i s
  injection hm with hm;injection hm with e1 e2;subst e1;subst e2
  refine qN Try.func79 (by kernel_rfl) rfl ?_ h
  refine eG.ev aY 4 [] (fJ 48 [0,3]) rfl (aMG s) ?_;simp only[cD,iA,fP,cC];refine⟨fun h1=>iE.of_eq ?_,fun h1=>⟨fun h2=>iE.of_eq ?_,fun h2=>?_⟩⟩
  ·have h1:((s.size:Nat):Int)<1:=by simpa using h1
   have:jK s=false:=by unfold jK;rw[decide_eq_false (by omega)];rfl
   rw[this];rfl
  ·have h2:(16:Int)<s.size:=by simpa using h2
   have:jK s=false:=by unfold jK;rw[decide_eq_false (show ¬s.size≤16 by omega),Bool.and_false];rfl
   rw[this];rfl
  ·have h1:¬((s.size:Nat):Int)<1:=by simpa using h1
   have h2:¬(16:Int)<s.size:=by simpa using h2
   refine eG.loop (l:=bL 4 (dC aB Try.f79)) (b:=inr (inr (bC .skip (dC aB Try.f79) 4))) (r:=bL 5 (dC aB Try.f79)) (id:=0) (by kernel_rfl)
     (fun i:Int=>bY 48 [(0,sV s),(3,iV i)] []) (fun i=>0≤i∧i≤s.size∧HA (PlainAid.bt s) i.toNat=true) (fun i=>(s.size-i).toNat) 0 ⟨by omega,by omega,rfl⟩ (aI (by kernel_rfl)) ?_
   rintro i ⟨i0,i1,hi⟩;refine eG.evA VA [] (fJ 48 [0,3]) rfl (aMF s i) ?_
   have hb:=KG s i.toNat
   generalize lE s i.toNat=c at hb
   have hsucc:(i+1).toNat=i.toNat+1:=by omega
   have bad:i<s.size→¬((97≤c∧c≤122)∨(i.toNat≠0∧(c=95∨(48≤c∧c≤57))))→iE (V.c (C.p (PV.b false))) (bV (jK s)):=fun hlt hc=>by
    rw[vV (k:=i.toNat) (by omega) (by rw[←hb,←Bool.not_eq_true,WJ];exact hc)];exact iE.refl _
   have good:i<s.size→((97≤c∧c≤122)∨(i.toNat≠0∧(c=95∨(48≤c∧c≤57))))→∃s':Int,(0≤s'∧s'≤s.size∧HA (PlainAid.bt s) s'.toNat=true)∧(s.size-s').toNat<(s.size-i).toNat∧cW G (bY 48 [(0,V.c (C.p (PV.s s))),(3,V.c (C.p (PV.i .i64 (i+1))))] []) (bY 48 [(0,sV s),(3,iV s')] []):=fun hlt hc=>
    ⟨i+1,⟨by omega,by omega,by rw[hsucc,vT,hi,←hb,(WJ _ _).2 hc];rfl⟩,by omega,aI (by kernel_rfl)⟩
   have after:¬i<s.size→eG aB G (bK aB Try.f79) (bV (jK s)) (bL 5 (dC aB Try.f79)) (bY 48 [(0,V.c (C.p (PV.s s))),(3,V.c (C.p (PV.i .i64 i)))] []) (fun _ _=>False):=fun hlt=>by
    refine eG.evA aY [] [] rfl (aME s i) ?_
    have:jK s=true:=by
     obtain rfl:i=s.size:=by omega
     unfold jK;rw[decide_eq_true (by omega),decide_eq_true (show s.size≤16 by omega)];simpa using hi
    simp only[iA,fP];rw[this];exact iE.refl _
   simp only[cD,bA,aP,fP,cC,jZ,decide_eq_true_eq,decide_eq_false_iff_not,eQ,fX,beq_iff_eq,beq_eq_false_iff_ne,OT,←Bool.not_eq_true,eW,if_true]
   repeat' (first|apply And.intro|intro _)
   all_goals first|trivial|(clear bad good after;omega)|exact⟨after ‹_›⟩|exact⟨bad ‹_› (by clear bad good after;omega)⟩|exact⟨good ‹_› (by clear bad good after;omega)⟩
 ·cases hm
set_option maxRecDepth 100000 in
theorem aI7:iW aB G 114 TO:=by
 intro args p v hm hp h;unfold TO at hm;split at hm
 ·rename_i s
  injection hm with hm;injection hm with e1 e2;subst e1;subst e2
  refine qN Try.func114 (by kernel_rfl) rfl ?_ h
  refine eG.ev aY 4 [] (fJ 43 [0,3]) rfl (aGR s) ?_;simp only[cD,iA,fP,cC];refine⟨fun h2=>iE.of_eq ?_,fun h2=>?_⟩
  ·have h2:(16:Int)<s.size:=by simpa using h2
   have:jY s=false:=by unfold jY;rw[decide_eq_false (show ¬s.size≤16 by omega)];rfl
   rw[this];rfl
  ·have h2:¬(16:Int)<s.size:=by simpa using h2
   refine eG.loop (l:=bL 4 (dC aB Try.f114)) (b:=inr (inr (bC .skip (dC aB Try.f114) 4))) (r:=bL 5 (dC aB Try.f114)) (id:=0) (by kernel_rfl)
     (fun i:Int=>bY 43 [(0,sV s),(3,iV i)] []) (fun i=>0≤i∧i≤s.size∧wS (PlainAid.bt s) i.toNat=true) (fun i=>(s.size-i).toNat) 0 ⟨by omega,by omega,rfl⟩ (aI (by kernel_rfl)) ?_
   rintro i ⟨i0,i1,hi⟩;refine eG.evA aY [] (fJ 43 [0,3]) rfl (aGQ s i) ?_
   have hb:=KG s i.toNat
   generalize lE s i.toNat=c at hb
   have hsucc:(i+1).toNat=i.toNat+1:=by omega
   have bad:i<s.size→¬(33≤c∧c≤126∧c≠34∧c≠92∧c≠44∧c≠123∧c≠125)→iE (V.c (C.p (PV.b false))) (bV (jY s)):=fun hlt hc=>by
    rw[sK (k:=i.toNat) (by omega) (by rw[←hb,←Bool.not_eq_true,WH];exact hc)];exact iE.refl _
   have good:i<s.size→(33≤c∧c≤126∧c≠34∧c≠92∧c≠44∧c≠123∧c≠125)→∃s':Int,(0≤s'∧s'≤s.size∧wS (PlainAid.bt s) s'.toNat=true)∧(s.size-s').toNat<(s.size-i).toNat∧cW G (bY 43 [(0,V.c (C.p (PV.s s))),(3,V.c (C.p (PV.i .i64 (i+1))))] []) (bY 43 [(0,sV s),(3,iV s')] []):=fun hlt hc=>
    ⟨i+1,⟨by omega,by omega,by rw[hsucc,ER,hi,←hb,(WH _).2 hc];rfl⟩,by omega,aI (by kernel_rfl)⟩
   have after:¬i<s.size→eG aB G (bK aB Try.f114) (bV (jY s)) (bL 5 (dC aB Try.f114)) (bY 43 [(0,V.c (C.p (PV.s s))),(3,V.c (C.p (PV.i .i64 i)))] []) (fun _ _=>False):=fun hlt=>by
    refine eG.evA aY [] [] rfl (aGP s i) ?_
    have:jY s=true:=by
     obtain rfl:i=s.size:=by omega
     unfold jY;rw[decide_eq_true (show s.size≤16 by omega)];simpa using hi
    simp only[iA,fP];rw[this];exact iE.refl _
   simp only[cD,bA,aP,fP,cC,jZ,decide_eq_true_eq,decide_eq_false_iff_not,eQ,fX,beq_iff_eq,beq_eq_false_iff_ne,eW,if_true]
   repeat' (first|apply And.intro|intro _)
   all_goals first|trivial|(clear bad good after;omega)|exact⟨after ‹_›⟩|exact⟨bad ‹_› (by clear bad good after;omega)⟩|exact⟨good ‹_› (by clear bad good after;omega)⟩
 ·cases hm
end
def aE7:Mod
 |[.c (.p (.l 2 n f))]=>some (kI aN 2 (bS cS n f) n f,.t [.c (.p (bO aN 2 (mB (bS cS n f)).1)),.c (.p (.i .i64 (mB (bS cS n f)).2))])
 |_=>none
def aL3:Ext:=kH [(79,XB),(114,TO)]
theorem aPJ(L:List (ByteArray×ByteArray)):dF fH (dL 5 (dC aB gZ)) (oB gZ [aU aN 2 L]) (mC [] (fJ 95 [0,4,5]) (bK aB gZ))=bT (decide (8<(↑L.length:Int))) (.done .ret (St.mk [V.t [V1.c (C.p (PV.z (bB none 0 0))),V1.c (C.p (PV.i aC 4))]] []))
 (.done .normal
 (bY 95 [(0,.c (.p (.l 2 L.length (aE aN L)))),(4,.c (.p (.z (bB none 0 0)))),(5,.c (.p (.i .i64 0)))] [])):=by kernel_rfl
theorem aPI(L out:List (ByteArray×ByteArray))(i:Int):dF fH (dL 2 (gQ (dC aB gZ) 5)) (bY 95 [(0,aU aN 2 L),(4,.c (.sl 0 2 0 out.length)),(5,iV i)] [.row 56 2 out.length (aO aN out)]) (mC [0] (fJ 95 [0,4,5]) (bK aB gZ))=bT (decide (i<(↑L.length:Int)))
 (.done .normal
 (bY 95 [(0,.c (.p (.l 2 L.length (aE aN L)))),(4,.c (.sl 0 2 0 out.length)),(5,.c (.p (.i .i64 i)))] [.row 56 2 out.length fun e o=>bQ [0] (aO aN out e o)]))
 (.done (.exit 0)
 (bY 95 [(0,.c (.p (.l 2 L.length (aE aN L)))),(4,.c (.sl 0 2 0 out.length)),(5,.c (.p (.i .i64 i)))] [.row 56 2 out.length fun e o=>bQ [0] (aO aN out e o)])):=by kernel_rfl
theorem aPH(L out:List (ByteArray×ByteArray))(i:Int):dF aL3 (dL 6 (eZ (inr (bC .skip (gQ (dC aB gZ) 5) 2)))) (bY 95 [(0,aU aN 2 L),(4,.c (.sl 0 2 0 out.length)),(5,iV i)] [.row 56 2 out.length (aO aN out)]) (mC [0] (fJ 95 [0,4,5,6,7]) (bK aB gZ))=Tr.rq (0≤i∧i<(↑L.length:Int))
 (.rq True
 (bT (!jK (L.getD i.toNat default).fst) (.done .ret (St.mk [V.t [V1.c (C.p (PV.z (bB none 0 0))),V1.c (C.p (PV.i aC 8))]] []))
 (.rq (0≤i∧i<(↑L.length:Int))
 (bT ((L.getD i.toNat default).snd.toList==(aH #[]).toList) (.done .ret (St.mk [V.t [V1.c (C.p (PV.z (bB none 0 0))),V1.c (C.p (PV.i aC 1))]] []))
 (.rq (0≤i∧i<(↑L.length:Int))
 (.rq True
 (bT (!jY (L.getD i.toNat default).snd) (.done .ret (St.mk [V.t [V1.c (C.p (PV.z (bB none 0 0))),V1.c (C.p (PV.i aC 1))]] []))
 (.done .normal
 (bY 95 [(0,.c (.p (.l 2 L.length (aE aN L)))),(4,.c (.sl 0 2 0 out.length)),(5,.c (.p (.i .i64 i))),(6,.c (.p (.z (bB none 0 0)))),(7,.c (.p (.i .i64 0)))] [.row 56 2 out.length fun e o=>bQ [0] (aO aN out e o)]))))))))):=by kernel_rfl
theorem aPG(L out nx:List (ByteArray×ByteArray))(i:Int)(k:Nat):dF fH (dL 2 (gQ (eZ (inr (bC .skip (gQ (dC aB gZ) 5) 2))) 6)) (bY 95 [(0,aU aN 2 L),(4,.c (.sl 0 2 0 out.length)),(5,iV i),(6,.c (.sl 1 2 0 k)),(7,iV (k:Nat))] [.row 56 2 out.length (aO aN out),.row 56 2 k (aO aN nx)]) (mC [0,1] (fJ 95 [0,4,5,6,7]) (bK aB gZ))=bT (decide ((↑k:Int)<(↑out.length:Int)))
 (.rq (0≤(↑k:Int)∧(↑k:Int)<(↑out.length:Int))
 (.rq ((↑k:Int).toNat+0<out.length)
 (.rq (0≤i∧i<(↑L.length:Int))
 (bT (dH (out.getD ((↑k:Int).toNat+0) default).fst.toList (L.getD i.toNat default).fst.toList)
 (.done .normal
 (bY 95 [(0,.c (.p (.l 2 L.length (aE aN L)))),(4,.c (.sl 0 2 0 out.length)),(5,.c (.p (.i .i64 i))),(6,.c (.sl 1 2 0 k)),(7,.c (.p (.i .i64 (↑k:Int))))] [.row 56 2 out.length fun e o=>bQ [0,1] (aO aN out e o),.row 56 2 k fun e o=>bQ [0,1] (aO aN nx e o)]))
 (.done (.exit 2)
 (bY 95 [(0,.c (.p (.l 2 L.length (aE aN L)))),(4,.c (.sl 0 2 0 out.length)),(5,.c (.p (.i .i64 i))),(6,.c (.sl 1 2 0 k)),(7,.c (.p (.i .i64 (↑k:Int))))] [.row 56 2 out.length fun e o=>bQ [0,1] (aO aN out e o),.row 56 2 k fun e o=>bQ [0,1] (aO aN nx e o)]))))))
 (.done (.exit 2)
 (bY 95 [(0,.c (.p (.l 2 L.length (aE aN L)))),(4,.c (.sl 0 2 0 out.length)),(5,.c (.p (.i .i64 i))),(6,.c (.sl 1 2 0 k)),(7,.c (.p (.i .i64 (↑k:Int))))] [.row 56 2 out.length fun e o=>bQ [0,1] (aO aN out e o),.row 56 2 k fun e o=>bQ [0,1] (aO aN nx e o)])):=by kernel_rfl
theorem aPF(L out nx:List (ByteArray×ByteArray))(i:Int)(k:Nat):dF fH (bL 2 (gQ (eZ (inr (bC .skip (gQ (dC aB gZ) 5) 2))) 6)) (bY 95 [(0,aU aN 2 L),(4,.c (.sl 0 2 0 out.length)),(5,iV i),(6,.c (.sl 1 2 0 k)),(7,iV (k:Nat))] [.row 56 2 out.length (aO aN out),.row 56 2 k (aO aN nx)]) (mC [0,3] (fJ 95 [0,4,5,6,7]) (bK aB gZ))=Tr.rq (0≤(↑k:Int)∧(↑k:Int)<(↑out.length:Int))
 (.rq ((↑k:Int).toNat+0<out.length)
 (.rq (k=k)
 (.rq (1≤1)
 (.rq
 ((k+1)*32≤140737488355328 ∧
 k+1≤140737488355328 ∧
 ∀(e o:Nat),e<1→o<2→iQ (mI [C.p (PV.s (out.getD ((↑k:Int).toNat+0) default).fst),C.p (PV.s (out.getD ((↑k:Int).toNat+0) default).snd)] 2 1 (e+0) o)=true)
 (.rq (eW aC ((↑k:Int)+1))
 (.done .normal
 (bY 95 [(0,.c (.p (.l 2 L.length (aE aN L)))),(4,.c (.sl 0 2 0 out.length)),(5,.c (.p (.i .i64 i))),(6,.c (.sl 1 2 0 (k+1))),(7,.c (.p (.i .i64 ((↑k:Int)+1))))] [.row 56 2 out.length fun e o=>bQ [0,3] (aO aN out e o),.row 56 2 (k+1) fun e o=>bQ [0,3] (fI k (aO aN nx) (fun e o=>bC C.top [C.p (PV.s (out.getD ((↑k:Int).toNat+0) default).fst),C.p (PV.s (out.getD ((↑k:Int).toNat+0) default).snd)] ((e+0)*2+o)) e o)]))))))):=by kernel_rfl
theorem aPE(L out nx:List (ByteArray×ByteArray))(i:Int)(k:Nat):dF fH (bL 7 (eZ (inr (bC .skip (gQ (dC aB gZ) 5) 2)))) (bY 95 [(0,aU aN 2 L),(4,.c (.sl 0 2 0 out.length)),(5,iV i),(6,.c (.sl 1 2 0 k)),(7,iV (k:Nat))] [.row 56 2 out.length (aO aN out),.row 56 2 k (aO aN nx)]) (mC [4] (fJ 95 [0,4,5]) (bK aB gZ))=bT (decide ((↑k:Int)<(↑out.length:Int)))
 (.rq (0≤(↑k:Int)∧(↑k:Int)<(↑out.length:Int))
 (.rq ((↑k:Int).toNat+0<out.length)
 (.rq (0≤i∧i<(↑L.length:Int))
 (bT ((out.getD ((↑k:Int).toNat+0) default).fst.toList==(L.getD i.toNat default).fst.toList)
 (.done .ret (St.mk [V.t [V1.c (C.p (PV.z (bB none 0 0))),V1.c (C.p (PV.i aC 10))]] []))
 (.rq (0≤i∧i<(↑L.length:Int))
 (.rq (k=k)
 (.rq (1≤1)
 (.rq
 ((k+1)*32≤140737488355328 ∧
 k+1≤140737488355328∧∀(e o:Nat),e<1→o<2→iQ (mI [C.p (PV.s (L.getD i.toNat default).fst),C.p (PV.s (L.getD i.toNat default).snd)] 2 1 (e+0) o)=true)
 (.rq (0≤(↑k:Int)∧(↑k:Int)≤(↑out.length:Int)∧(↑out.length:Int)≤(↑out.length:Int))
 (.rq (k+1=k+1)
 (.rq (0+(↑k:Int).toNat+((↑out.length:Int).toNat-(↑k:Int).toNat)≤out.length)
 (.rq
 ((k+1+((↑out.length:Int).toNat-(↑k:Int).toNat))*32≤140737488355328 ∧
 k+1+((↑out.length:Int).toNat-(↑k:Int).toNat)≤140737488355328 ∧
 ∀(e o:Nat),e<(↑out.length:Int).toNat-(↑k:Int).toNat→o<2→iQ (aO aN out (e+(0+(↑k:Int).toNat)) o)=true)
 (.done .normal
 (bY 95 [(0,.c (.p (.l 2 L.length (aE aN L)))),(4,.c (.sl 0 2 0 (k+1+((↑out.length:Int).toNat-(↑k:Int).toNat)))),(5,.c (.p (.i .i64 i)))] [.row 56 2 (k+1+((↑out.length:Int).toNat-(↑k:Int).toNat)) fun e o=>bQ [4] (fI (k+1) (fI k (aO aN nx) fun e o=>bC C.top [C.p (PV.s (L.getD i.toNat default).fst),C.p (PV.s (L.getD i.toNat default).snd)] ((e+0)*2+o)) (fun e o=>aO aN out (e+(0+(↑k:Int).toNat)) o) e o)]))))))))))))))
 (.rq (0≤i∧i<(↑L.length:Int))
 (.rq (k=k)
 (.rq (1≤1)
 (.rq
 ((k+1)*32≤140737488355328 ∧
 k+1≤140737488355328∧∀(e o:Nat),e<1→o<2→iQ (mI [C.p (PV.s (L.getD i.toNat default).fst),C.p (PV.s (L.getD i.toNat default).snd)] 2 1 (e+0) o)=true)
 (.rq (0≤(↑k:Int)∧(↑k:Int)≤(↑out.length:Int)∧(↑out.length:Int)≤(↑out.length:Int))
 (.rq (k+1=k+1)
 (.rq (0+(↑k:Int).toNat+((↑out.length:Int).toNat-(↑k:Int).toNat)≤out.length)
 (.rq
 ((k+1+((↑out.length:Int).toNat-(↑k:Int).toNat))*32≤140737488355328 ∧
 k+1+((↑out.length:Int).toNat-(↑k:Int).toNat)≤140737488355328 ∧
 ∀(e o:Nat),e<(↑out.length:Int).toNat-(↑k:Int).toNat→o<2→iQ (aO aN out (e+(0+(↑k:Int).toNat)) o)=true)
 (.done .normal
 (bY 95 [(0,.c (.p (.l 2 L.length (aE aN L)))),(4,.c (.sl 0 2 0 (k+1+((↑out.length:Int).toNat-(↑k:Int).toNat)))),(5,.c (.p (.i .i64 i)))] [.row 56 2 (k+1+((↑out.length:Int).toNat-(↑k:Int).toNat)) fun e o=>bQ [4] (fI (k+1) (fI k (aO aN nx) fun e o=>bC C.top [C.p (PV.s (L.getD i.toNat default).fst),C.p (PV.s (L.getD i.toNat default).snd)] ((e+0)*2+o)) (fun e o=>aO aN out (e+(0+(↑k:Int).toNat)) o) e o)])))))))))):=by kernel_rfl
theorem aPD(L out:List (ByteArray×ByteArray))(i:Int):dF fH (bL 3 (gQ (dC aB gZ) 5)) (bY 95 [(0,aU aN 2 L),(4,.c (.sl 0 2 0 out.length)),(5,iV i)] [.row 56 2 out.length (aO aN out)]) (mC [0] (fJ 95 [0,4,5]) (bK aB gZ))=Tr.rq (eW aC (i+1))
 (.done .normal
 (bY 95 [(0,.c (.p (.l 2 L.length (aE aN L)))),(4,.c (.sl 0 2 0 out.length)),(5,.c (.p (.i .i64 (i+1))))] [.row 56 2 out.length fun e o=>bQ [0] (aO aN out e o)])):=by kernel_rfl
theorem aPC(L out:List (ByteArray×ByteArray))(i:Int):dF fH (bL 6 (dC aB gZ)) (bY 95 [(0,aU aN 2 L),(4,.c (.sl 0 2 0 out.length)),(5,iV i)] [.row 56 2 out.length (aO aN out)]) (mC [] [] (bK aB gZ))=Tr.rq (0+out.length≤out.length∧∀(e o:Nat),e<out.length→o<2→BZ (aO aN out (e+0) o)=true)
 (.done .ret (St.mk [V.t [V1.c (C.p (PV.l 2 out.length fun e o=>mZ (aO aN out (e+0) o))),V1.c (C.p (PV.i aC 0))]] [])):=by kernel_rfl
section
variable {G:Nat→Option Obj}
theorem PT:bG aB G aL3:=eC (by simp;exact⟨aDI,aI7⟩)
theorem XN(out:List (ByteArray×ByteArray))(x:ByteArray×ByteArray):nF out x≤out.length:=by
 have h:=List.takeWhile_append_dropWhile (p:=fun y:Lb=>wK y.1 x.1) (l:=out)
 have:=congrArg List.length h
 rw[aL]at this;unfold nF;omega
theorem aJJ{out:List (ByteArray×ByteArray)}{x:ByteArray×ByteArray}{k:Nat}(hk:k<nF out x):wK (out.getD k default).1 x.1=true:=by
 have h1:=(tL out x).1
 have hl:=XN out x
 have hm:out.getD k default∈out.takeWhile (fun y=>wK y.1 x.1):=by
  rw[←h1,aD,aK (by omega)];exact List.mem_take_iff_getElem.2 ⟨k,by omega,rfl⟩
 exact fN.1 (List.all_takeWhile (p:=fun y:Lb=>wK y.1 x.1) (l:=out)) _ hm
theorem aJK{out:List (ByteArray×ByteArray)}{x:ByteArray×ByteArray}(hk:nF out x<out.length):wK (out.getD (nF out x) default).1 x.1=false:=by
 have h5:=(tL out x).2
 rw[dG hk]at h5
 have:=List.head?_dropWhile_not (fun y:Lb=>wK y.1 x.1) out
 rw[←h5]at this;rw[aD,aK hk];exact this
theorem aAY(s:ByteArray):(s.toList==(aH #[]).toList)=s.toList.isEmpty:=by
 have:(aH #[]).toList=[]:=by rw[ByteArray.toList_eq]
 rw[this];cases h:s.toList<;>rfl
theorem aAB{L out:List (ByteArray×ByteArray)}{i:Nat}(hi:i<L.length):AK (L.drop i) out =
  if jK (L.getD i default).1=false then ([],8)
  else if (L.getD i default).2.toList.isEmpty=true∨jY (L.getD i default).2=false then ([],1)
  else if (out[nF out (L.getD i default)]?).any (fun y=>decide (y.1=(L.getD i default).1))=true then ([],10)
  else AK (L.drop (i+1)) (out.take (nF out (L.getD i default))++L.getD i default::out.drop (nF out (L.getD i default))):=by
 have e:L.getD i default=L[i]:=by simp[hi]
 rw[dG hi,e];rfl
set_option maxRecDepth 100000 in
theorem aNG:iW aB G 105 aE7:=by
 intro args p v hm hp h;unfold aE7 at hm
 split at hm;rotate_left;· cases hm
 rename_i n f;obtain⟨rfl,rfl⟩:=eY hm
 have hL:kI aN 2 (bS cS n f) n f:=hp
 clear hp hm
 generalize bS cS n f=L at hL
 refine jW.args (args':=[aU aN 2 L]) ?_ (.cons hL.le .nil);clear hL
 generalize hv:V.t [V1.c (C.p (bO aN 2 (mB L).1)),V1.c (C.p (PV.i .i64 (mB L).2))]=v
 have err:∀e:Int,mB L=([],e)→iE (V.t [V1.c (C.p (PV.z (bB none 0 0))),V1.c (C.p (PV.i .i64 e))]) v:=by
  intro e he;rw[←hv,he];exact iE.t (.cons (iE.p (lY.nil 2 _)) (.cons (iE.refl _) .nil))
 refine qN Try.func105 (by kernel_rfl) rfl ?_ h
 refine eG.ev aY 5 [] (fJ 95 [0,4,5]) rfl (aPJ L) ?_;simp only[cD,iA,fP,cC,decide_eq_true_eq,decide_eq_false_iff_not];refine⟨fun h1=>err 4 (by unfold mB;rw[if_pos (by omega)]),fun h8=>?_⟩
 have hnew:mB L=AK L []:=by unfold mB;rw[if_neg (by omega)]
 rw[hnew]at err hv
 refine eG.loop' (l:=bL 5 (dC aB gZ)) (b:=inr (inr (bC .skip (dC aB gZ) 5))) (r:=bL 6 (dC aB gZ)) (id:=0) (by kernel_rfl) (σ:=Int×List (ByteArray×ByteArray))
   (fun(i,out)=>bY 95 [(0,aU aN 2 L),(4,.c (.sl 0 2 0 out.length)),(5,iV i)] [.row 56 2 out.length (aO aN out)]) (fun(i,out)=>0≤i∧i≤L.length∧out.length≤i.toNat∧AK (L.drop i.toNat) out=AK L []) (fun(i,_)=>(L.length-i).toNat) (0,[]) ⟨by omega,by omega,by simp,rfl⟩
   ((mM 56 2 (aO aN []) 4 (by kernel_rfl)).trans (aI (by kernel_rfl))) ?_
 rintro⟨i,out⟩ ⟨i0,i1,hlen,hinv⟩ Q1 q1n q1e -;refine eG.ev aY 2 [0] (fJ 95 [0,4,5]) rfl (aPI L out i) ?_;simp only[cD,aP,jZ,cC,decide_eq_true_eq,decide_eq_false_iff_not];refine⟨fun hlt=>⟨?_⟩,fun hge=>⟨?_⟩⟩
 ·refine eG.blk' (l:=bL 2 (gQ (dC aB gZ) 5)) (id:=1) (a:=inr (bC .skip (gQ (dC aB gZ) 5) 2)) (r:=bL 3 (gQ (dC aB gZ) 5)) (by kernel_rfl) ?_
  intro Q2 q2n _ _;refine eG.ev PT 6 [0] (fJ 95 [0,4,5,6,7]) rfl (aPH L out i) ?_
  have hstep:=aAB (L:=L) (out:=out) (i:=i.toNat) (by omega)
  rw[hinv]at hstep;rw[aAY]
  generalize hx:L.getD i.toNat default=x at hstep
  simp only[cD,bA,aP,fP,cC,eQ,fX];refine⟨⟨i0,hlt⟩,trivial,fun c1=>⟨err 8 (by rw[hstep,if_pos c1])⟩,fun c1=>⟨⟨i0,hlt⟩,fun c2=>⟨err 1 (by rw[hstep,if_neg (by simp[c1]),if_pos (.inl c2)])⟩,fun c2=>⟨⟨i0,hlt⟩,trivial,fun c3=>⟨err 1 (by rw[hstep,if_neg (by simp[c1]),if_pos (.inr c3)])⟩,fun c3=>⟨?_⟩⟩⟩⟩;rw[if_neg (by simp[c1]),if_neg (by simp[c2,c3])]at hstep
  have hins:=XN out x
  refine eG.loop' (l:=bL 6 (eZ (inr (bC .skip (gQ (dC aB gZ) 5) 2)))) (b:=inr (inr (bC .skip (eZ (inr (bC .skip (gQ (dC aB gZ) 5) 2))) 6))) (r:=bL 7 (eZ (inr (bC .skip (gQ (dC aB gZ) 5) 2)))) (id:=2) (by kernel_rfl) (σ:=Nat)
    (fun k=>(fun nx=>bY 95 [(0,aU aN 2 L),(4,.c (.sl 0 2 0 out.length)),(5,iV i),(6,.c (.sl 1 2 0 k)),(7,iV (k:Nat))] [.row 56 2 out.length (aO aN out),.row 56 2 k (aO aN nx)]) (out.take k)) (fun k=>k≤nF out x) (fun k=>nF out x-k) 0 (bX _)
    ((mM 56 2 (aO aN []) 6 (by kernel_rfl)).trans (aI (by kernel_rfl))) ?_
  intro k hk Q3 q3n q3e _
  have hnx:(out.take k).length=k:=by rw[eR];omega
  refine eG.ev aY 2 [0,1] (fJ 95 [0,4,5,6,7]) rfl (aPG L out (out.take k) i k) ?_;rw[hx]
  have post:k=nF out x→eG aB G (bK aB gZ) v (bL 7 (eZ (inr (bC .skip (gQ (dC aB gZ) 5) 2)))) ((fun nx=>bY 95 [(0,aU aN 2 L),(4,.c (.sl 0 2 0 out.length)),(5,iV i),(6,.c (.sl 1 2 0 k)),(7,iV (k:Nat))] [.row 56 2 out.length (aO aN out),.row 56 2 k (aO aN nx)]) (out.take k)) Q2:=by
   intro hk2
   have hfin:(out[k]?).any (fun y=>decide (y.1=x.1))=decide (k<out.length∧(out.getD k default).1=x.1):=by
    by_cases hkl:k<out.length
    ·simp[hkl]
    ·rw[cB (by omega)];simp[hkl]
   rw[←hk2,hfin]at hstep;refine eG.evA aY [4] (fJ 95 [0,4,5]) rfl (aPE L out (out.take k) i k) ?_;rw[hx]
   have fin:¬(k<out.length∧(out.getD k default).1=x.1)→Q2 .normal (bY 95 [(0,V.c (C.p (PV.l 2 L.length (aE aN L)))),(4,V.c (C.sl 0 2 0 (k+1+((↑out.length:Int).toNat-(↑k:Int).toNat)))),(5,V.c (C.p (PV.i aC i)))] [AO.row 56 2 (k+1+((↑out.length:Int).toNat-(↑k:Int).toNat)) fun e o=>bQ [4] (fI (k+1) (fI k (aO aN (out.take k)) fun e o=>bC C.top [C.p (PV.s x.fst),C.p (PV.s x.snd)] ((e+0)*2+o)) (fun e o=>aO aN out (e+(0+(↑k:Int).toNat)) o) e o)]):=by
    intro hno;rw[if_neg (by simpa using hno)]at hstep
    have hl2:k+1+((↑out.length:Int).toNat-(↑k:Int).toNat)=(out.take k++x::out.drop k).length:=by
     rw[aL,List.length_cons,List.length_drop,hnx];omega
    rw[hl2];refine q2n _ (eG.pre (st2:=(fun(i,out)=>bY 95 [(0,aU aN 2 L),(4,.c (.sl 0 2 0 out.length)),(5,iV i)] [.row 56 2 out.length (aO aN out)]) (i,out.take k++x::out.drop k)) ?_ ?_)
    ·refine jF ?_
     refine⟨⟨rfl,rfl,rfl,fun e o he ho=>?_⟩,trivial⟩;rw[←hl2]at he;simp only[fI]
     by_cases h1:e<k
     ·rw[if_pos (by omega),if_pos h1]
      show aO aN (out.take k) e o=aO aN _ e o
      unfold aO aE;simp[cG (show e<(out.take k).length by omega)]
     ·by_cases h2:e=k
      ·subst h2
       rw[if_pos (by omega),if_neg (by omega)]
       have e1:(out.take e++x::out.drop e).getD e default=x:=by
        rw[aD,cV (by omega),hnx];simp
       show _=C.p (aN ((out.take e++x::out.drop e).getD e default) o)
       rw[e1,Nat.sub_self]
       have ho':o=0∨o=1:=by omega
       rcases ho' with rfl|rfl<;>rfl
      ·rw[if_neg (by omega)]
       have e1:(out.take k++x::out.drop k).getD e default=out.getD (e-1) default:=by
        rw[aD,aD,cV (by omega),hnx,show e-k=(e-k-1)+1 by omega,List.getElem?_cons_succ,jN,show k+(e-k-1)=e-1 by omega]
       show _=C.p (aN ((out.take k++x::out.drop k).getD e default) o)
       rw[e1,show e-(k+1)+(0+(↑k:Int).toNat)=e-1 by omega];rfl
    ·refine eG.evA aY [0] (fJ 95 [0,4,5]) rfl (aPD L (out.take k++x::out.drop k) i) ?_
     simp only[bA,aP,cC,eW]
     refine⟨by omega,⟨q1n (i+1,out.take k++x::out.drop k) _ ⟨by omega,by omega,by rw[←hl2];omega,?_⟩ (by simp only;omega) (aI (by kernel_rfl))⟩⟩
     rw[show (i+1).toNat=i.toNat+1 by omega];exact hstep.symm
   have one:∀e o:Nat,e<1→o<2→iQ (bC C.top [C.p (PV.s x.fst),C.p (PV.s x.snd)] ((e+0)*2+o))=true:=by
    intro e o he ho
    obtain rfl:e=0:=by omega
    have ho':o=0∨o=1:=by omega
    rcases ho' with rfl|rfl<;>rfl
   have one':∀e o:Nat,e<(↑out.length:Int).toNat-(↑k:Int).toNat→o<2→iQ (aO aN out (e+(0+(↑k:Int).toNat)) o)=true:=by
    intro e o he ho
    have ho':o=0∨o=1:=by omega
    rcases ho' with rfl|rfl<;>rfl
   have dup:k<out.length→(out.getD k default).1=x.1→iE (V.t [V1.c (C.p (PV.z (bB none 0 0))),V1.c (C.p (PV.i .i64 10))]) v:=fun h1 h2=>err 10 (by rw[hstep,if_pos (by simpa using⟨h1,h2⟩)])
   have hlast:(↑i:Int)<L.length:=hlt
   simp only[cD,bA,aP,fP,cC,decide_eq_true_eq,decide_eq_false_iff_not,VM,show (↑k:Int).toNat+0=k from rfl]
   refine⟨fun h1=>⟨⟨by omega,h1⟩,by omega,⟨i0,hlt⟩,fun h2=>⟨dup (by omega) h2⟩,fun h2=>⟨⟨i0,hlt⟩,trivial,aW _,⟨by omega,by omega,one⟩,⟨by omega,by omega,by omega⟩,trivial,by omega,⟨by omega,by omega,one'⟩,⟨fin (fun h=>h2 h.2)⟩⟩⟩,
     fun h1=>⟨⟨i0,hlt⟩,trivial,aW _,⟨by omega,by omega,one⟩,⟨by omega,by omega,by omega⟩,trivial,by omega,⟨by omega,by omega,one'⟩,⟨fin (fun h=>h1 (by omega))⟩⟩⟩
  simp only[cD,bA,aP,jZ,cC,decide_eq_true_eq,decide_eq_false_iff_not,show (↑k:Int).toNat+0=k from rfl];refine⟨fun h1=>⟨⟨by omega,h1⟩,by omega,⟨i0,hlt⟩,fun h2=>⟨?_⟩,fun h2=>⟨q3e _ (post ?_)⟩⟩,fun h1=>⟨q3e _ (post (by omega))⟩⟩
  ·refine eG.evA aY [0,3] (fJ 95 [0,4,5,6,7]) rfl (aPF L out (out.take k) i k) ?_
   have hk2:k<nF out x:=by
    rcases cL k (nF out x) with h|h
    ·exact h
    ·have e1:k=nF out x:=by omega
     have:=aJK (out:=out) (x:=x) (by omega)
     rw[←e1]at this;unfold wK at this;rw[h2]at this;cases this
   have ht:out.take (k+1)=out.take k++[out.getD k default]:=by
    rw[List.take_add_one,aD,aK (show k<out.length by omega)];rfl
   simp only[bA,aP,cC,eW,show (↑k:Int).toNat+0=k from rfl];refine⟨⟨by omega,h1⟩,by omega,trivial,aW _,⟨by omega,by omega,fun e o he ho=>?_⟩,by omega,⟨q3n (k+1) _ (by omega) (by omega) ?_⟩⟩
   ·obtain rfl:e=0:=by omega
    have ho':o=0∨o=1:=by omega
    rcases ho' with rfl|rfl<;>rfl
   ·show cW G _ ((fun nx=>(fun k=>bY 95 [(0,aU aN 2 L),(4,.c (.sl 0 2 0 out.length)),(5,iV i),(6,.c (.sl 1 2 0 k)),(7,iV (k:Nat))] [.row 56 2 out.length (aO aN out),.row 56 2 k (aO aN nx)]) (k+1)) (out.take (k+1)))
    rw[ht];refine jF ?_;refine⟨⟨rfl,rfl,rfl,fun e o he ho=>rfl⟩,⟨rfl,rfl,rfl,fun e o he ho=>pP hnx ?_ he ho⟩,trivial⟩;intro o ho
    have ho':o=0∨o=1:=by omega
    rcases ho' with rfl|rfl<;>rfl
  ·rcases cL k (nF out x) with h|h
   ·have:=aJJ h
    unfold wK at this;rw[h2]at this;cases this
   ·omega
 ·refine q1e _ (eG.evA aY [] [] rfl (aPC L out i) ?_)
  simp only[bA,aP,fP];refine⟨⟨by omega,fun _ _ _ _=>rfl⟩,⟨?_⟩⟩;rw[List.drop_of_length_le (by omega)]at hinv;rw[←hv,←hinv];exact iE.refl _
theorem OL{L:List (ByteArray×ByteArray)}(h:(mB L).2=0):L.length≤8:=by
 unfold mB at h;split at h
 ·cases h
 ·omega
end
def FD:Mod
 |[.c (.p (.l 2 n f))]=>some (kI aN 2 (bS cS n f) n f,bV (mD (fun k=>(bS cS n f).getD k default) n))
 |_=>none
def aL2:Ext:=kH [(105,aE7),(81,LO)]
theorem aGT(L:List (ByteArray×ByteArray)):dF aL2 (dC aB Try.f80) (oB Try.f80 [aU aN 2 L]) (mC [] [] (bK aB Try.f80))=Tr.rq (kI aN 2 (bS cS L.length (aE aN L)) L.length (aE aN L))
 (bT ((mB (bS cS L.length (aE aN L))).snd==0)
 (.rq
 ((kI aN 2 (bS cS (mB (bS cS L.length (aE aN L))).fst.length (aE aN (mB (bS cS L.length (aE aN L))).fst)) (mB (bS cS L.length (aE aN L))).fst.length
 (aE aN (mB (bS cS L.length (aE aN L))).fst) ∧
 kI aN 2 (bS cS L.length (aE aN L)) L.length (aE aN L)) ∧
 ((mB (bS cS L.length (aE aN L))).fst.length≤1000000∨L.length≤1000000))
 (.done .ret
 (St.mk [V.c (C.p (PV.b (decide (bS cS (mB (bS cS L.length (aE aN L))).fst.length (aE aN (mB (bS cS L.length (aE aN L))).fst)=bS cS L.length (aE aN L)))))] [])))
 (.done .ret (St.mk [V.c (C.p (PV.b false))] []))):=by kernel_rfl
section
variable {G:Nat→Option Obj}
theorem PS:bG aB G aL2:=eC (by simp;exact⟨aNG,WM⟩)
set_option maxRecDepth 100000 in
theorem aA3:iW aB G 80 FD:=by
 intro args p v hm hp h;unfold FD at hm
 split at hm;rotate_left;· cases hm
 rename_i n f;obtain⟨rfl,rfl⟩:=eY hm
 have hL:kI aN 2 (bS cS n f) n f:=hp
 clear hp hm
 generalize bS cS n f=L at hL
 refine jW.args (args':=[aU aN 2 L]) ?_ (.cons hL.le .nil);rw[←hL.1,←NS];clear hL
 refine qN Try.func80 (by kernel_rfl) rfl ?_ h
 refine eG.evA PS [] [] rfl (aGT L) ?_
 have h1:(mB L).2=0→rW L=decide ((mB L).1=L):=fun h=>by unfold rW;rw[decide_eq_true h];rfl
 have h2:(mB L).2≠0→rW L=false:=fun h=>by unfold rW;rw[decide_eq_false h];rfl
 simp only[cD,bA,aP,fP,gN,beq_iff_eq,beq_eq_false_iff_ne];refine⟨dP _ _ _,fun c=>⟨⟨⟨dP _ _ _,dP _ _ _⟩,?_⟩,⟨?_⟩⟩,fun c=>⟨?_⟩⟩
 ·have:=OL c;omega
 ·rw[h1 c];exact iE.refl _
 ·rw[h2 c];exact iE.refl _
end
end Go.AE
