/- Pages: Gp, P24, P25, P26, P27, P28, Ae42, P31, P32, NewL, P33, P34, as far as they are used here. -/
import Derived.WalkKit
import Derived.Sort.LotA
import Derived.Test.YtfjihbmehhccoaaT2
import Derived.Test.YtfjihbmehhccoaaTD
import Derived.Test.YtfjihbmehhccoaaT1
namespace Go.AE.Gp
set_option linter.unusedVariables false
set_option linter.unusedSimpArgs false
open Go.Sort
abbrev Lb:=ByteArray × ByteArray
theorem less_trans:∀ {a b c:List UInt8},Op.bytesLess a b=true→Op.bytesLess b c=true→Op.bytesLess a c=true
 | _,[],_,h,_ => by cases ‹List UInt8› <;> simp [Op.bytesLess] at h
 | _,_::_,[],_,h => by simp [Op.bytesLess] at h
 | [],_::_,_::_,_,_ => by simp [Op.bytesLess]
 | x::a,y::b,z::c,h,k => by
   have hx:=UInt8.lt_iff_toNat_lt (a:=x) (b:=y)
   have hy:=UInt8.lt_iff_toNat_lt (a:=y) (b:=z)
   have hz:=UInt8.lt_iff_toNat_lt (a:=x) (b:=z)
   simp only [Op.bytesLess,Bool.or_eq_true,decide_eq_true_eq,Bool.and_eq_true,beq_iff_eq] at h k ⊢
   rcases h with h | ⟨rfl,h⟩
   · rcases k with k | ⟨rfl,k⟩
     · exact .inl (hz.2 (Nat.lt_trans (hx.1 h) (hy.1 k)))
     · exact .inl h
   · rcases k with k | ⟨rfl,k⟩
     · exact .inl k
     · exact .inr ⟨rfl,less_trans h k⟩
theorem less_total:∀ {a b:List UInt8},Op.bytesLess a b=false→a≠b→Op.bytesLess b a=true
 | [],[],_,h => absurd rfl h
 | [],_::_,h,_ => by simp [Op.bytesLess] at h
 | _::_,[],_,_ => by simp [Op.bytesLess]
 | x::a,y::b,h,hn => by
   have hx:=UInt8.lt_iff_toNat_lt (a:=x) (b:=y)
   have hy:=UInt8.lt_iff_toNat_lt (a:=y) (b:=x)
   simp only [Op.bytesLess,Bool.or_eq_false_iff,decide_eq_false_iff_not,Bool.and_eq_false_iff,beq_eq_false_iff_ne,Bool.or_eq_true,decide_eq_true_eq,Bool.and_eq_true,beq_iff_eq] at h ⊢
   obtain ⟨h1,h2⟩:=h
   by_cases he:x=y
   · subst he
     rcases h2 with h2 | h2
     · exact absurd rfl h2
     · exact .inr ⟨rfl,less_total h2 fun e => hn (by rw [e])⟩
   · refine .inl (hy.2 ?_)
     have h3:x.toNat≠y.toNat:=fun e => he (UInt8.toNat_inj.1 e)
     have h4:¬ x.toNat<y.toNat:=fun e => h1 (hx.2 e)
     omega
def lessS (a b:ByteArray):Bool:=Op.bytesLess a.toList b.toList
def cmpS (a b:ByteArray):Int:=if lessS a b=true then -1 else if a=b then 0 else 1
def cmpL:List Lb→List Lb→Int
 | [],[] => 0
 | [],_::_ => -1
 | _::_,[] => 1
 | x::xs,y::ys => if x=y then cmpL xs ys else if x.1=y.1 then cmpS x.2 y.2 else cmpS x.1 y.1
section
variable (key:Int→List Lb)
def gadd (st:List (List Int) × Option Int) (i:Int):List (List Int) × Option Int :=
 (match st.2 with
  | none => st.1 ++ [[i]]
  | some j => if key j=key i then st.1.dropLast ++ [st.1.getLastD [] ++ [i]] else st.1 ++ [[i]],some i)
end
def posK (x:List Lb) (K:List (List Lb)):Nat→Nat
 | 0 => 0
 | k+1 => if cmpL x (K.getD k [])<0 then posK x K k else k+1
def insK (x:List Lb) (K:List (List Lb)):List (List Lb) :=
 let p:=posK x K K.length
 if 0<p∧x=K.getD (p - 1) [] then K else K.take p ++ [x] ++ K.drop p
end Go.AE.Gp
namespace Go.AE
open Go.Proofs Go.Proofs.Ytfjihbmehhccoaa Gp Go.RowKit
set_option linter.unusedVariables false
set_option linter.unusedSimpArgs false
def mLSame:Mod
 | [.c (.p (.l 2 n f)),.c (.p (.l 2 m g))] => some ((IsL enc2 2 (decL dec2 n f) n f∧IsL enc2 2 (decL dec2 m g) m g)∧(n≤1000000∨m≤1000000),bV (decide (decL dec2 n f=decL dec2 m g)))
 | _ => none
theorem tSame1 (A B:List (ByteArray × ByteArray)):exTs ext0 (takeL 4 (pcs Try.prog Try.f81)) (st0 Try.f81 [listV enc2 2 A,listV enc2 2 B]) (endF [] (msk 26 [0,1,5]) (resOf Try.prog Try.f81))=bT ((↑A.length:Int) != (↑B.length:Int)) (.done .ret (St.mk [V.c (C.p (PV.b false))] []))
 (.done .normal
 (cst 26 [(0,.c (.p (.l 2 A.length (rowP enc2 A)))),(1,.c (.p (.l 2 B.length (rowP enc2 B)))),(5,.c (.p (.i .i64 0)))] [])):=by kernel_rfl
theorem tSame2 (A B:List (ByteArray × ByteArray)) (i:Int):exTs ext0 (lpB (pcs Try.prog Try.f81) 4) (cst 26 [(0,listV enc2 2 A),(1,listV enc2 2 B),(5,iV i)] []) (endF [] (msk 26 [0,1,5]) (resOf Try.prog Try.f81))=bT (decide (i<(↑A.length:Int)))
 (.rq (0≤i∧i<(↑A.length:Int))
 (.rq (0≤i∧i<(↑B.length:Int))
 (bT
 (match true with
 | true => !((A.getD i.toNat default).fst.toList == (B.getD i.toNat default).fst.toList && ((A.getD i.toNat default).snd.toList == (B.getD i.toNat default).snd.toList && true))
 | false => (A.getD i.toNat default).fst.toList == (B.getD i.toNat default).fst.toList && ((A.getD i.toNat default).snd.toList == (B.getD i.toNat default).snd.toList && true))
 (.done .ret (St.mk [V.c (C.p (PV.b false))] []))
 (.rq (inR IntKind.i64 (i+1))
 (.done .normal
 (cst 26 [(0,.c (.p (.l 2 A.length (rowP enc2 A)))),(1,.c (.p (.l 2 B.length (rowP enc2 B)))),(5,.c (.p (.i .i64 (i+1))))] []))))))
 (.done (.exit 0)
 (cst 26 [(0,.c (.p (.l 2 A.length (rowP enc2 A)))),(1,.c (.p (.l 2 B.length (rowP enc2 B)))),(5,.c (.p (.i .i64 i)))] [])):=by kernel_rfl
theorem tSame3 (A B:List (ByteArray × ByteArray)) (i:Int):exTs ext0 (dropL 5 (pcs Try.prog Try.f81)) (cst 26 [(0,listV enc2 2 A),(1,listV enc2 2 B),(5,iV i)] []) (endF [] [] (resOf Try.prog Try.f81))=Tr.done X.ret (St.mk [V.c (C.p (PV.b true))] []):=by kernel_rfl
theorem eq_of_getD {α:Type} [Inhabited α] {A B:List α} (hl:A.length=B.length) (h:∀ k,k<A.length→A.getD k default=B.getD k default):A=B:=by
 apply List.ext_getElem hl
 intro k h1 h2
 have:=h k h1
 simpa [h1,h2] using this
theorem beq_bytes2 (a b:ByteArray):(a.toList == b.toList)=decide (a=b):=by
 rw [Bool.eq_iff_iff,decide_eq_true_iff,beq_iff_eq,ByteArray.toList_eq,ByteArray.toList_eq]
 exact ⟨fun h => ByteArray.ext (Array.toList_inj.mp h),fun h => by rw [h]⟩
section
variable {G:Nat→Option Obj}
set_option maxRecDepth 100000 in
theorem okLSame:ModOK Try.prog G 81 mLSame:=by
 intro args p v hm hp h
 unfold mLSame at hm
 split at hm;rotate_left;· cases hm
 rename_i n f m g
 obtain ⟨rfl,rfl⟩:=some_pair hm
 obtain ⟨⟨hA,hB⟩,hn⟩:=hp
 generalize decL dec2 n f=A at hA
 generalize decL dec2 m g=B at hB
 refine FnS.args (args':=[listV enc2 2 A,listV enc2 2 B]) ?_ (.cons hA.le (.cons hB.le .nil))
 have hlen:A.length≤1000000∨B.length≤1000000:=by rw [hA.1,hB.1];exact hn
 clear hA hB hn
 refine fn_S Try.func81 (by kernel_rfl) rfl ?_ h
 refine ExS.ev ext0_sound 4 [] (msk 26 [0,1,5]) rfl (tSame1 A B) ?_
 simp only [holds_bT,holds_done,kf_ret',kf_normal]
 refine ⟨fun h1 => VLe.of_eq ?_,fun h1 => ?_⟩
 · have h1:A.length≠B.length:=by simp at h1;omega
   rw [decide_eq_false (fun e => h1 (by rw [e]))];rfl
 · have h1:A.length=B.length:=by simp at h1;omega
   refine ExS.loop (l:=dropL 4 (pcs Try.prog Try.f81)) (b:=inr (inr (nth .skip (pcs Try.prog Try.f81) 4))) (r:=dropL 5 (pcs Try.prog Try.f81)) (id:=0) (by kernel_rfl)
     (fun i:Int => cst 26 [(0,listV enc2 2 A),(1,listV enc2 2 B),(5,iV i)] []) (fun i => 0≤i∧i≤A.length∧∀ k,k<i.toNat→A.getD k default=B.getD k default) (fun i => (A.length - i).toNat) 0 ⟨by omega,by omega,fun k hk => absurd hk (by simp)⟩ (weak_of_eq (by kernel_rfl)) ?_
   rintro i ⟨i0,i1,hi⟩
   refine ExS.evA ext0_sound [] (msk 26 [0,1,5]) rfl (tSame2 A B i) ?_
   have key:((A.getD i.toNat default).fst.toList == (B.getD i.toNat default).fst.toList && ((A.getD i.toNat default).snd.toList == (B.getD i.toNat default).snd.toList && true))=decide (A.getD i.toNat default=B.getD i.toNat default):=by
    rw [beq_bytes2,beq_bytes2,Bool.and_true,Bool.eq_iff_iff]
    simp [Prod.ext_iff]
   rw [key]
   have bad:A.getD i.toNat default≠B.getD i.toNat default→VLe (V.c (C.p (PV.b false))) (bV (decide (A=B))):=fun hne => by
    rw [decide_eq_false (fun e => hne (by rw [e]))];exact VLe.refl _
   have good:i<A.length→A.getD i.toNat default=B.getD i.toNat default→∃ j:Int,(0≤j∧j≤A.length∧∀ k,k<j.toNat→A.getD k default=B.getD k default)∧(A.length - j).toNat<(A.length - i).toNat∧WeakS G (cst 26 [(0,V.c (C.p (PV.l 2 A.length (rowP enc2 A)))),(1,V.c (C.p (PV.l 2 B.length (rowP enc2 B)))),(5,V.c (C.p (PV.i IntKind.i64 (i+1))))] []) ((fun i:Int => cst 26 [(0,listV enc2 2 A),(1,listV enc2 2 B),(5,iV i)] []) j):=fun hlt he =>
    ⟨i+1,⟨by omega,by omega,fun k hk => by
      by_cases hk':k<i.toNat
      · exact hi k hk'
      · obtain rfl:k=i.toNat:=by omega
        exact he⟩,by omega,weak_of_eq (by kernel_rfl)⟩
   have after:¬ i<A.length→ExS Try.prog G (resOf Try.prog Try.f81) (bV (decide (A=B))) (dropL 5 (pcs Try.prog Try.f81)) (cst 26 [(0,V.c (C.p (PV.l 2 A.length (rowP enc2 A)))),(1,V.c (C.p (PV.l 2 B.length (rowP enc2 B)))),(5,V.c (C.p (PV.i IntKind.i64 i)))] []) (fun _ _ => False):=fun hlt => by
    refine ExS.evA ext0_sound [] [] rfl (tSame3 A B i) ?_
    simp only [holds_done,kf_ret']
    rw [decide_eq_true (eq_of_getD h1 fun k hk => hi k (by omega))]
    exact VLe.refl _
   simp only [holds_bT,holds_rq,holds_leaf,kf_ret',kf_normal,kf_exit,decide_eq_true_eq,decide_eq_false_iff_not,Bool.not_eq_true',Bool.not_eq_false',inR,if_true]
   repeat' (first | apply And.intro | intro _)
   all_goals first | trivial | (clear bad good after hi;omega) | exact ⟨after ‹_›⟩ | exact ⟨bad ‹_›⟩ | exact ⟨good ‹_› ‹_›⟩
end
end Go.AE
namespace Go.AE
set_option linter.unusedVariables false
set_option linter.unusedSimpArgs false
open Go.Proofs Go.Proofs.Ytfjihbmehhccoaa Gp Go.RowKit
def pickZ (L:List Int) (i m:Int):Int:=if i<0∨L.length≤i then 0 else aroundZ (L.getD i.toNat default) m
def mPick:Mod
 | [x,.c (.p (.i .i64 i)),.c (.p (.i .i64 m))] => match liOf x with
   | some (p,A) => some (p∧(∀ t∈A,inR .i64 t)∧0<m,iV (pickZ A i m))
   | none => none
 | _ => none
def labZ (n:Int):List (ByteArray × ByteArray) :=
 if aroundZ n 4=1 then [(⟨#[104,111,115,116]⟩,⟨#[97]⟩)]
 else if aroundZ n 4=2 then [(⟨#[104,111,115,116]⟩,⟨#[98]⟩)]
 else if aroundZ n 4=3 then [(⟨#[104,111,115,116]⟩,⟨#[98]⟩),(⟨#[122,111,110,101]⟩,⟨#[120]⟩)]
 else []
def mLabels10:Mod
 | [.c (.p (.i .i64 n))] => some (inR .i64 n,listV enc2 2 (labZ n))
 | _ => none
def sameM (a b:Pg):Bool:=decide (a.L=b.L) && (decide (a.ru=b.ru) && (decide (a.ve=b.ve) && decide (a.st=b.st)))
def mGSame:Mod
 | [x,y] => match pgOf x,pgOf y with
   | some (p,a),some (q,b) => some ((p∧q)∧(a.L.length≤1000000∨b.L.length≤1000000),bV (sameM a b))
   | _,_ => none
 | _ => none
def extPk:Ext:=extOf [(21,mPick),(41,mLabels10)]
def extLs:Ext:=extOf [(81,mLSame)]
theorem tPick (L:List Int) (i m:Int):exTs extA (pcs Try.prog Try.f21) (st0 Try.f21 [listV encI 1 L,iV i,iV m]) (endF [] [] (resOf Try.prog Try.f21))=bT (decide (i<0)) (.done .ret (St.mk [V.c (C.p (PV.i IntKind.i64 0))] []))
 (bT (decide ((↑L.length:Int)≤i)) (.done .ret (St.mk [V.c (C.p (PV.i IntKind.i64 0))] []))
 (.rq (0≤i∧i<(↑L.length:Int)) (.rq (inR IntKind.i64 (L.getD i.toNat default)∧0<m) (.done .ret (St.mk [V.c (C.p (PV.i IntKind.i64 (aroundZ (L.getD i.toNat default) m)))] []))))):=by kernel_rfl
theorem tLab (n:Int):exTs extA (pcs Try.prog Try.f41) (st0 Try.f41 [iV n]) (endF [] [] (resOf Try.prog Try.f41))=Tr.rq (inR IntKind.i64 n∧Int.ofNat 0<Int.ofNat 4)
 (bT (aroundZ n 4 == 1)
 (.rq (1≤1∧∀ (e o:Nat),e<1→o<2→isF (nth C.top [C.p (PV.s (ByteArray.mk #[104,111,115,116])),C.p (PV.s (ByteArray.mk #[97]))] ((e+0) * 2+o))=true)
 (.done .ret (St.mk [V.c (C.p (PV.l 2 1 fun e o => unP (nth C.top [C.p (PV.s (ByteArray.mk #[104,111,115,116])),C.p (PV.s (ByteArray.mk #[97]))] ((e+0) * 2+o))))] [])))
 (bT (aroundZ n 4 == 2)
 (.rq (1≤1∧∀ (e o:Nat),e<1→o<2→isF (nth C.top [C.p (PV.s (ByteArray.mk #[104,111,115,116])),C.p (PV.s (ByteArray.mk #[98]))] ((e+0) * 2+o))=true)
 (.done .ret (St.mk [V.c (C.p (PV.l 2 1 fun e o => unP (nth C.top [C.p (PV.s (ByteArray.mk #[104,111,115,116])),C.p (PV.s (ByteArray.mk #[98]))] ((e+0) * 2+o))))] [])))
 (bT (aroundZ n 4 == 3)
 (.rq
 (2≤2 ∧
 ∀ (e o:Nat),
 e<2 →
 o<2 →
 isF
 (nth C.top [C.p (PV.s (ByteArray.mk #[104,111,115,116])),C.p (PV.s (ByteArray.mk #[98])),C.p (PV.s (ByteArray.mk #[122,111,110,101])),C.p (PV.s (ByteArray.mk #[120]))]
 ((e+0) * 2+o)) =
 true)
 (.done .ret
 (St.mk [V.c (C.p (PV.l 2 2 fun e o => unP (nth C.top [C.p (PV.s (ByteArray.mk #[104,111,115,116])),C.p (PV.s (ByteArray.mk #[98])),C.p (PV.s (ByteArray.mk #[122,111,110,101])),C.p (PV.s (ByteArray.mk #[120]))] ((e+0) * 2+o))))] [])))
 (.done .ret (St.mk [V.c (C.p (PV.z (Value.slice none 0 0)))] []))))):=by kernel_rfl
theorem tSameG (a0 a2 a4 a5 b0 b2 b4 b5:Int) (a1 a6 b1 b6:ByteArray) (a3 b3:List (ByteArray × ByteArray)):exTs extLs (pcs Try.prog Try.f55) (st0 Try.f55 [pgW a0 a1 a2 a3 a4 a5 a6,pgW b0 b1 b2 b3 b4 b5 b6]) (endF [] [] (resOf Try.prog Try.f55))=Tr.rq
 ((IsL enc2 2 (decL dec2 a3.length (rowP enc2 a3)) a3.length (rowP enc2 a3)∧IsL enc2 2 (decL dec2 b3.length (rowP enc2 b3)) b3.length (rowP enc2 b3))∧(a3.length≤1000000∨b3.length≤1000000))
 (bT (decide (decL dec2 a3.length (rowP enc2 a3)=decL dec2 b3.length (rowP enc2 b3)))
 (bT (a1.toList == b1.toList) (bT (a2 == b2) (.done .ret (St.mk [V.c (C.p (PV.b (a4 == b4)))] [])) (.done .ret (St.mk [V.c (C.p (PV.b false))] [])))
 (.done .ret (St.mk [V.c (C.p (PV.b false))] [])))
 (.done .ret (St.mk [V.c (C.p (PV.b false))] []))):=by kernel_rfl
theorem tPage (L:List Int) (i:Int):exT extPk (codeOf Try.prog Try.f13) (st0 Try.f13 [listV encI 1 L,iV i]) (endF [] [] (resOf Try.prog Try.f13))=Tr.rq (IsL encI 1 (decL decI L.length (rowP encI L)) L.length (rowP encI L)∧(∀ (t:Int),t∈decL decI L.length (rowP encI L)→inR IntKind.i64 t)∧Int.ofNat 0<Int.ofNat 8)
 (.rq (0≤pickZ (decL decI L.length (rowP encI L)) i 8∧Int.ofNat 0<Int.ofNat 7∧inR IntKind.i64 (pickZ (decL decI L.length (rowP encI L)) i 8 / 7))
 (.rq (0≤pickZ (decL decI L.length (rowP encI L)) i 8 / 7∧pickZ (decL decI L.length (rowP encI L)) i 8 / 7<(↑2:Int))
 (.rq ((pickZ (decL decI L.length (rowP encI L)) i 8 / 7).toNat+0<2)
 (.rq (inR IntKind.i64 (i+1))
 (.rq (IsL encI 1 (decL decI L.length (rowP encI L)) L.length (rowP encI L)∧(∀ (t:Int),t∈decL decI L.length (rowP encI L)→inR IntKind.i64 t)∧Int.ofNat 0<Int.ofNat 8)
 (.rq (0≤pickZ (decL decI L.length (rowP encI L)) (i+1) 8∧Int.ofNat 0<Int.ofNat 7∧inR IntKind.i64 (pickZ (decL decI L.length (rowP encI L)) (i+1) 8 / 7))
 (.rq (inR IntKind.i64 (1+pickZ (decL decI L.length (rowP encI L)) (i+1) 8 / 7))
 (.rq (inR IntKind.i64 (i+2))
 (.rq (IsL encI 1 (decL decI L.length (rowP encI L)) L.length (rowP encI L)∧(∀ (t:Int),t∈decL decI L.length (rowP encI L)→inR IntKind.i64 t)∧Int.ofNat 0<Int.ofNat 4)
 (.rq (0≤pickZ (decL decI L.length (rowP encI L)) (i+2) 4∧Int.ofNat 0<Int.ofNat 2∧inR IntKind.i64 (pickZ (decL decI L.length (rowP encI L)) (i+2) 4 / 2))
 (.rq (inR IntKind.i64 (pickZ (decL decI L.length (rowP encI L)) (i+2) 4 / 2))
 (.rq (inR IntKind.i64 (i+3))
 (.rq
 (IsL encI 1 (decL decI L.length (rowP encI L)) L.length (rowP encI L)∧(∀ (t:Int),t∈decL decI L.length (rowP encI L)→inR IntKind.i64 t)∧Int.ofNat 0<Int.ofNat 6)
 (.rq (inR IntKind.i64 (i+4))
 (.rq
 (IsL encI 1 (decL decI L.length (rowP encI L)) L.length (rowP encI L) ∧
 (∀ (t:Int),t∈decL decI L.length (rowP encI L)→inR IntKind.i64 t)∧Int.ofNat 0<Int.ofNat 4)
 (.rq (inR IntKind.i64 (pickZ (decL decI L.length (rowP encI L)) (i+3) 6+pickZ (decL decI L.length (rowP encI L)) (i+4) 4))
 (.rq (inR IntKind.i64 (i+5))
 (.rq
 (IsL encI 1 (decL decI L.length (rowP encI L)) L.length (rowP encI L) ∧
 (∀ (t:Int),t∈decL decI L.length (rowP encI L)→inR IntKind.i64 t)∧Int.ofNat 0<Int.ofNat 3)
 (.rq (0≤pickZ (decL decI L.length (rowP encI L)) (i+5) 3∧pickZ (decL decI L.length (rowP encI L)) (i+5) 3<(↑3:Int))
 (.rq ((pickZ (decL decI L.length (rowP encI L)) (i+5) 3).toNat+0<3)
 (.done .ret
 (St.mk [V.a [C.p (PV.i IntKind.i64 0),C.p (PV.s (nth (ByteArray.mk #[]) [ByteArray.mk #[104,111,116],ByteArray.mk #[99,111,108,100]] ((pickZ (decL decI L.length (rowP encI L)) i 8 / 7).toNat+0))),C.p (PV.i IntKind.i64 (1+pickZ (decL decI L.length (rowP encI L)) (i+1) 8 / 7)),C.p (PV.l 2 (labZ (pickZ (decL decI L.length (rowP encI L)) (i+2) 4 / 2)).length (rowP enc2 (labZ (pickZ (decL decI L.length (rowP encI L)) (i+2) 4 / 2)))),C.p (PV.i IntKind.i64 (pickZ (decL decI L.length (rowP encI L)) (i+3) 6)),C.p (PV.i IntKind.i64 (pickZ (decL decI L.length (rowP encI L)) (i+3) 6+pickZ (decL decI L.length (rowP encI L)) (i+4) 4)),C.p (PV.s (nth (ByteArray.mk #[]) [ByteArray.mk #[],ByteArray.mk #[111,112,115],ByteArray.mk #[97,98,99,100,101,102,103,104,105,106,107,108,109,110,111,112]] ((pickZ (decL decI L.length (rowP encI L)) (i+5) 3).toNat+0)))]] [])))))))))))))))))))))):=by kernel_rfl
def pageZ (L:List Int) (i:Int):Pg:=⟨0,nth ⟨#[]⟩ [⟨#[104,111,116]⟩,⟨#[99,111,108,100]⟩] (pickZ L i 8 / 7).toNat,1+pickZ L (i+1) 8 / 7,labZ (pickZ L (i+2) 4 / 2),pickZ L (i+3) 6,pickZ L (i+3) 6+pickZ L (i+4) 4,nth ⟨#[]⟩ [⟨#[]⟩,⟨#[111,112,115]⟩,⟨#[97,98,99,100,101,102,103,104,105,106,107,108,109,110,111,112]⟩] (pickZ L (i+5) 3).toNat⟩
def inPos (i:Int):Prop:=-1000≤i∧i≤1000000
def mGPage:Mod
 | [x,.c (.p (.i .i64 i))] => match liOf x with
   | some (p,A) => some (p∧(∀ t∈A,inR .i64 t)∧inPos i,pgV (pageZ A i))
   | none => none
 | _ => none
theorem pick_in {L:List Int} {i m:Int} (h:0<m):0≤pickZ L i m∧pickZ L i m<m:=by
 unfold pickZ
 split
 · omega
 · exact ⟨Int.emod_nonneg _ (by omega),Int.emod_lt_of_pos _ h⟩
section
variable {G:Nat→Option Obj}
set_option maxRecDepth 100000 in
theorem okPick:ModOK Try.prog G 21 mPick:=by
 intro args p v hm hp h
 unfold mPick at hm
 split at hm;rotate_left;· cases hm
 split at hm;rotate_left;· cases hm
 rename_i x i m _ q L hx
 obtain ⟨rfl,rfl⟩:=some_pair hm
 obtain ⟨hL,hI,hm0⟩:=hp
 refine FnS.args (args':=[listV encI 1 L,iV i,iV m]) ?_ (.cons (liOf_le hx hL) (.cons (.refl _) (.cons (.refl _) .nil)))
 refine fn_S Try.func21 (by kernel_rfl) rfl ?_ h
 refine ExS.evA extA_sound [] [] rfl (tPick L i m) ?_
 have bad:(i<0∨L.length≤i)→VLe (V.c (C.p (PV.i .i64 0))) (iV (pickZ L i m)):=fun hi => by
  unfold pickZ;rw [if_pos hi];exact VLe.refl _
 have good:¬ (i<0∨L.length≤i)→VLe (iV (aroundZ (L.getD i.toNat default) m)) (iV (pickZ L i m)):=fun hi => by
  unfold pickZ;rw [if_neg hi];exact VLe.refl _
 have hin:¬ (i<0∨L.length≤i)→inR .i64 (L.getD i.toNat default):=fun hi => hI _ (getD_memI (by omega))
 clear hm hx
 simp only [holds_bT,holds_rq,holds_leaf,kf_ret',decide_eq_true_eq,decide_eq_false_iff_not]
 refine ⟨fun h1 => ⟨bad (.inl h1)⟩,fun h1 => ⟨fun h2 => ⟨bad (.inr h2)⟩,fun h2 => ⟨⟨by omega,by omega⟩,⟨hin (by omega),hm0⟩,⟨good (by omega)⟩⟩⟩⟩
theorem isL2L (x y:ByteArray):IsL enc2 2 [(x,y)] 1 fun e o => unP (nth C.top [C.p (.s x),C.p (.s y)] ((e+0) * 2+o)):=⟨rfl,fun e o he ho => by
 obtain rfl:e=0:=by omega
 have:o=0∨o=1:=by omega
 rcases this with rfl | rfl <;> rfl⟩
theorem isL4L (x y z w:ByteArray):IsL enc2 2 [(x,y),(z,w)] 2 fun e o => unP (nth C.top [C.p (.s x),C.p (.s y),C.p (.s z),C.p (.s w)] ((e+0) * 2+o)):=⟨rfl,fun e o he ho => by
 have:e=0∨e=1:=by omega
 have h2:o=0∨o=1:=by omega
 rcases this with rfl | rfl <;> rcases h2 with rfl | rfl <;> rfl⟩
set_option maxRecDepth 100000 in
theorem okLabels10:ModOK Try.prog G 41 mLabels10:=by
 intro args p v hm hp h
 unfold mLabels10 at hm
 split at hm;rotate_left;· cases hm
 rename_i n
 obtain ⟨rfl,rfl⟩:=some_pair hm
 refine fn_S Try.func41 (by kernel_rfl) rfl ?_ h
 refine ExS.evA extA_sound [] [] rfl (tLab n) ?_
 simp only [holds_bT,holds_rq,holds_leaf,kf_ret',beq_iff_eq,beq_eq_false_iff_ne,ne_eq]
 unfold labZ
 refine ⟨⟨hp,by decide⟩,fun h1 => ⟨⟨by decide,fun e o he ho => ?_⟩,⟨?_⟩⟩,fun h1 => ⟨fun h2 => ⟨⟨by decide,fun e o he ho => ?_⟩,⟨?_⟩⟩,fun h2 => ⟨fun h3 => ⟨⟨by decide,fun e o he ho => ?_⟩,⟨?_⟩⟩,fun h3 => ⟨?_⟩⟩⟩⟩
 · obtain rfl:e=0:=by omega
   have:o=0∨o=1:=by omega
   rcases this with rfl | rfl <;> rfl
 · rw [if_pos h1];exact (isL2L _ _).le
 · obtain rfl:e=0:=by omega
   have:o=0∨o=1:=by omega
   rcases this with rfl | rfl <;> rfl
 · rw [if_neg h1,if_pos h2];exact (isL2L _ _).le
 · have:e=0∨e=1:=by omega
   have h2:o=0∨o=1:=by omega
   rcases this with rfl | rfl <;> rcases h2 with rfl | rfl <;> rfl
 · rw [if_neg h1,if_neg h2,if_pos h3];exact (isL4L _ _ _ _).le
 · rw [if_neg h1,if_neg h2,if_neg h3];exact VLe.p (PLe.nil 2 _)
theorem extPk_sound:SoundExt Try.prog G extPk:=extOf_sound (by simp;exact ⟨okPick,okLabels10⟩)
theorem extLs_sound:SoundExt Try.prog G extLs:=extOf_sound (by simp;exact okLSame)
set_option maxRecDepth 100000 in
theorem okGPage:ModOK Try.prog G 13 mGPage:=by
 intro args p v hm hp h
 unfold mGPage at hm
 split at hm;rotate_left;· cases hm
 split at hm;rotate_left;· cases hm
 rename_i x i _ q L hx
 obtain ⟨rfl,rfl⟩:=some_pair hm
 obtain ⟨hL,hI,hi0,hi1⟩:=hp
 refine FnS.args (args':=[listV encI 1 L,iV i]) ?_ (.cons (liOf_le hx hL) (.cons (.refl _) .nil))
 clear hm hx hL
 refine fn_T extPk_sound Try.func13 (by kernel_rfl) rfl (tPage L i) ?_ h
 simp only [holds_bT,holds_rq,holds_done,KF,decI_row,inR]
 have p1:=pick_in (L:=L) (i:=i) (m:=8) (by omega)
 have p2:=pick_in (L:=L) (i:=i+1) (m:=8) (by omega)
 have p3:=pick_in (L:=L) (i:=i+2) (m:=4) (by omega)
 have p4:=pick_in (L:=L) (i:=i+3) (m:=6) (by omega)
 have p5:=pick_in (L:=L) (i:=i+4) (m:=4) (by omega)
 have p6:=pick_in (L:=L) (i:=i+5) (m:=3) (by omega)
 repeat' (first | exact isL_row _ _ _ | exact hI | omega | decide | exact ⟨_,rfl,VLe.refl _⟩ | apply And.intro)
end
end Go.AE
namespace Go.AE
set_option linter.unusedVariables false
set_option linter.unusedSimpArgs false
open Go.Proofs Go.Proofs.Ytfjihbmehhccoaa Gp Go.RowKit
structure Cw {α:Type} (F:α→α→Int):Prop where
 anti:∀ a b,F a b = - F b a
 zero:∀ a b,F a b=0↔a=b
 le:∀ a b c,F a b≤0→F b c≤0→F a c≤0
def keyP (p:Pg):ByteArray × Int × List (ByteArray × ByteArray) × Int × Int × Int × ByteArray:=(p.ru,p.ve,p.L,p.st,p.kd,p.se,p.to)
theorem keyP_inj {a b:Pg} (h:keyP a=keyP b):a=b:=by
 obtain ⟨a1,a2,a3,a4,a5,a6,a7⟩:=a
 obtain ⟨b1,b2,b3,b4,b5,b6,b7⟩:=b
 unfold keyP at h
 simp only [Prod.mk.injEq] at h
 obtain ⟨h1,h2,h3,h4,h5,h6,h7⟩:=h
 subst h1;subst h2;subst h3;subst h4;subst h5;subst h6;subst h7
 rfl
instance:DecidableEq Pg:=fun a b => decidable_of_iff (keyP a=keyP b) ⟨keyP_inj,fun h => by rw [h]⟩
end Go.AE
namespace Go.AE
set_option linter.unusedVariables false
set_option linter.unusedSimpArgs false
open Go.Proofs Go.Proofs.Ytfjihbmehhccoaa Gp Go.RowKit
def leP:V→List Pg→Option Prop
 | .c (.p (.l 7 n f)),A => some (n=A.length∧∀ e o,e<n→o<7→PLe (f e o) (rowP encPg A e o))
 | .c (.p (.z (.slice none 0 0))),A => some (A=[])
 | _,_ => none
theorem leP_le {x:V} {A:List Pg} {p:Prop} (h:leP x A=some p) (hp:p):VLe x (listV encPg 7 A):=by
 unfold leP at h
 split at h
 · injection h with h
   subst h
   obtain ⟨rfl,h2⟩:=hp
   exact VLe.p (PLe.l h2)
 · injection h with h
   subst h
   subst hp
   exact VLe.p (PLe.nil 7 _)
 · cases h
def mEqX (A B:List Pg):Mod
 | [x,y] => match leP x A,leP y B with
   | some p,some q => some ((p∧q)∧A.length≤1000000∧∀ a∈A,a.L.length≤1000000,bV (decide (A=B)))
   | _,_ => none
 | _ => none
def extSmG:Ext:=extOf [(55,mGSame)]
theorem tE1 (A B:List Pg):exTs ext0 (takeL 4 (pcs Try.prog Try.f23)) (st0 Try.f23 [listV encPg 7 A,listV encPg 7 B]) (endG (msk 68 [0,1,5]) (resOf Try.prog Try.f23))=bT ((↑A.length:Int) != (↑B.length:Int)) (.done .ret (St.mk [V.c (C.p (PV.b false))] []))
 (.done .normal
 (cst 68 [(0,.c (.p (.l 7 A.length (rowP encPg A)))),(1,.c (.p (.l 7 B.length (rowP encPg B)))),(5,.c (.p (.i .i64 0)))] [])):=by kernel_rfl
theorem tE2 (A B:List Pg) (i:Nat):exTs extSmG (lpB (pcs Try.prog Try.f23) 4) (cst 68 [(0,listV encPg 7 A),(1,listV encPg 7 B),(5,iV (i:Nat))] []) (endG (msk 68 [0,1,5]) (resOf Try.prog Try.f23))=bT (decide ((↑i:Int)<(↑A.length:Int)))
 (.rq (0≤(↑i:Int)∧(↑i:Int)<(↑A.length:Int))
 (.rq (0≤(↑i:Int)∧(↑i:Int)<(↑B.length:Int))
 (.rq
 ((IsL enc2 2 (decL dec2 (A.getD (↑i:Int).toNat default).L.length (rowP enc2 (A.getD (↑i:Int).toNat default).L)) (A.getD (↑i:Int).toNat default).L.length
 (rowP enc2 (A.getD (↑i:Int).toNat default).L) ∧
 IsL enc2 2 (decL dec2 (B.getD (↑i:Int).toNat default).L.length (rowP enc2 (B.getD (↑i:Int).toNat default).L)) (B.getD (↑i:Int).toNat default).L.length
 (rowP enc2 (B.getD (↑i:Int).toNat default).L)) ∧
 ((Pg.mk (A.getD (↑i:Int).toNat default).kd (A.getD (↑i:Int).toNat default).ru (A.getD (↑i:Int).toNat default).ve
 (decL dec2 (A.getD (↑i:Int).toNat default).L.length (rowP enc2 (A.getD (↑i:Int).toNat default).L)) (A.getD (↑i:Int).toNat default).st (A.getD (↑i:Int).toNat default).se
 (A.getD (↑i:Int).toNat default).to).L.length ≤
 1000000 ∨
 (Pg.mk (B.getD (↑i:Int).toNat default).kd (B.getD (↑i:Int).toNat default).ru (B.getD (↑i:Int).toNat default).ve
 (decL dec2 (B.getD (↑i:Int).toNat default).L.length (rowP enc2 (B.getD (↑i:Int).toNat default).L)) (B.getD (↑i:Int).toNat default).st (B.getD (↑i:Int).toNat default).se
 (B.getD (↑i:Int).toNat default).to).L.length ≤
 1000000))
 (bT
 (!sameM
 (Pg.mk (A.getD (↑i:Int).toNat default).kd (A.getD (↑i:Int).toNat default).ru (A.getD (↑i:Int).toNat default).ve
 (decL dec2 (A.getD (↑i:Int).toNat default).L.length (rowP enc2 (A.getD (↑i:Int).toNat default).L)) (A.getD (↑i:Int).toNat default).st (A.getD (↑i:Int).toNat default).se
 (A.getD (↑i:Int).toNat default).to)
 (Pg.mk (B.getD (↑i:Int).toNat default).kd (B.getD (↑i:Int).toNat default).ru (B.getD (↑i:Int).toNat default).ve
 (decL dec2 (B.getD (↑i:Int).toNat default).L.length (rowP enc2 (B.getD (↑i:Int).toNat default).L)) (B.getD (↑i:Int).toNat default).st (B.getD (↑i:Int).toNat default).se
 (B.getD (↑i:Int).toNat default).to))
 (.done .ret (St.mk [V.c (C.p (PV.b false))] []))
 (.rq (0≤(↑i:Int)∧(↑i:Int)<(↑A.length:Int))
 (.rq (0≤(↑i:Int)∧(↑i:Int)<(↑B.length:Int))
 (bT ((A.getD (↑i:Int).toNat default).kd != (B.getD (↑i:Int).toNat default).kd) (.done .ret (St.mk [V.c (C.p (PV.b false))] []))
 (.rq (0≤(↑i:Int)∧(↑i:Int)<(↑A.length:Int))
 (.rq (0≤(↑i:Int)∧(↑i:Int)<(↑B.length:Int))
 (bT ((A.getD (↑i:Int).toNat default).se != (B.getD (↑i:Int).toNat default).se) (.done .ret (St.mk [V.c (C.p (PV.b false))] []))
 (.rq (0≤(↑i:Int)∧(↑i:Int)<(↑A.length:Int))
 (.rq (0≤(↑i:Int)∧(↑i:Int)<(↑B.length:Int))
 (bT (!(A.getD (↑i:Int).toNat default).to.toList == (B.getD (↑i:Int).toNat default).to.toList) (.done .ret (St.mk [V.c (C.p (PV.b false))] []))
 (.rq (inR IntKind.i64 ((↑i:Int)+1))
 (.done .normal
 (cst 68 [(0,.c (.p (.l 7 A.length (rowP encPg A)))),(1,.c (.p (.l 7 B.length (rowP encPg B)))),(5,.c (.p (.i .i64 ((↑i:Int)+1))))] []))))))))))))))))
 (.done (.exit 0)
 (cst 68 [(0,.c (.p (.l 7 A.length (rowP encPg A)))),(1,.c (.p (.l 7 B.length (rowP encPg B)))),(5,.c (.p (.i .i64 (↑i:Int))))] [])):=by kernel_rfl
theorem tE3 (A B:List Pg) (i:Nat):exTs ext0 (dropL 5 (pcs Try.prog Try.f23)) (cst 68 [(0,listV encPg 7 A),(1,listV encPg 7 B),(5,iV (i:Nat))] []) (endG [] (resOf Try.prog Try.f23))=Tr.done X.ret (St.mk [V.c (C.p (PV.b true))] []):=by kernel_rfl
end Go.AE
namespace Go.AE
set_option linter.unusedVariables false
set_option linter.unusedSimpArgs false
open Go.Proofs Go.Proofs.Ytfjihbmehhccoaa Gp Go.RowKit
theorem pg_ext {a b:Pg} (h1:sameM a b=true) (h2:a.kd=b.kd) (h3:a.se=b.se) (h4:a.to=b.to):a=b:=by
 unfold sameM at h1
 simp only [Bool.and_eq_true,decide_eq_true_eq] at h1
 obtain ⟨q1,q2,q3,q4⟩:=h1
 refine keyP_inj ?_
 unfold keyP
 rw [q1,q2,q3,q4,h2,h3,h4]
theorem sameM_self (a:Pg):sameM a a=true:=by unfold sameM;simp
section
variable {G:Nat→Option Obj}
set_option maxRecDepth 100000 in
theorem okGSame:ModOK Try.prog G 55 mGSame:=by
 intro args p v hm hp h
 unfold mGSame at hm
 split at hm;rotate_left;· cases hm
 split at hm;rotate_left;· cases hm
 rename_i x y _ _ p1 a p2 b hx hy
 obtain ⟨rfl,rfl⟩:=some_pair hm
 obtain ⟨⟨hA,hB⟩,hl⟩:=hp
 refine FnS.args (args':=[pgV a,pgV b]) ?_ (.cons (pgOf_le hx hA) (.cons (pgOf_le hy hB) .nil))
 clear hm hx hy
 obtain ⟨a0,a1,a2,a3,a4,a5,a6⟩:=a
 obtain ⟨b0,b1,b2,b3,b4,b5,b6⟩:=b
 refine fn_S Try.func55 (by kernel_rfl) rfl ?_ h
 refine ExS.evA extLs_sound [] [] rfl (tSameG a0 a2 a4 a5 b0 b2 b4 b5 a1 a6 b1 b6 a3 b3) ?_
 simp only [holds_bT,holds_rq,holds_leaf,kf_ret',dec2_row,beq_bytes2]
 have e:sameM ⟨a0,a1,a2,a3,a4,a5,a6⟩ ⟨b0,b1,b2,b3,b4,b5,b6⟩=(decide (a3=b3) && (decide (a1=b1) && (decide (a2=b2) && decide (a4=b4)))):=rfl
 have e4:(a4 == b4)=decide (a4=b4):=by rw [Bool.eq_iff_iff];simp
 have e2:(a2 == b2)=decide (a2=b2):=by rw [Bool.eq_iff_iff];simp
 rw [e,e4,e2]
 refine ⟨⟨⟨isL_row _ _ _,isL_row _ _ _⟩,hl⟩,fun h1 => ⟨fun h2 => ⟨fun h3 => ⟨?_⟩,fun h3 => ⟨?_⟩⟩,fun h2 => ⟨?_⟩⟩,fun h1 => ⟨?_⟩⟩
 · rw [h1,h2,h3];exact VLe.refl _
 · rw [h1,h2,h3];exact VLe.refl _
 · rw [h1,h2];exact VLe.refl _
 · rw [h1];exact VLe.refl _
theorem extSmG_sound:SoundExt Try.prog G extSmG:=extOf_sound (by simp;exact okGSame)
set_option maxRecDepth 100000 in
theorem okEqX (A B:List Pg):ModOK Try.prog G 23 (mEqX A B):=by
 intro args p v hm hp h
 unfold mEqX at hm
 split at hm;rotate_left;· cases hm
 split at hm;rotate_left;· cases hm
 rename_i x y _ _ p1 p2 hx hy
 obtain ⟨rfl,rfl⟩:=some_pair hm
 obtain ⟨⟨hA,hB⟩,hlen,hLL⟩:=hp
 refine FnS.args (args':=[listV encPg 7 A,listV encPg 7 B]) ?_ (.cons (leP_le hx hA) (.cons (leP_le hy hB) .nil))
 clear hA hB hm hx hy
 refine fn_S Try.func23 (by kernel_rfl) rfl ?_ h
 refine ExS.evG ext0_sound 4 (tE1 A B) ?_
 simp only [holds_bT,holds_leaf,kf_ret',kf_normal,bne_iff_ne,bne_eq_false_iff_eq,ne_eq]
 refine ⟨fun h1 => ⟨VLe.of_eq ?_⟩,fun h1 => ⟨?_⟩⟩
 · rw [decide_eq_false (fun e => h1 (by rw [e]))];rfl
 have h1:A.length=B.length:=by omega
 refine ExS.loop' (l:=dropL 4 (pcs Try.prog Try.f23)) (b:=inr (inr (nth .skip (pcs Try.prog Try.f23) 4))) (r:=dropL 5 (pcs Try.prog Try.f23)) (id:=0) (by kernel_rfl) (σ:=Nat)
   (fun i => cst 68 [(0,listV encPg 7 A),(1,listV encPg 7 B),(5,iV (i:Nat))] []) (fun i => i≤A.length∧A.take i=B.take i) (fun i => A.length - i) 0 ⟨Nat.zero_le _,rfl⟩ (weak_of_eq (by kernel_rfl)) ?_
 rintro i ⟨hi,hc⟩ Q1 q1n q1e -
 refine ExS.evH extSmG_sound (tE2 A B i) ?_
 simp only [holds_bT,holds_rq,holds_leaf,kf_ret',kf_normal,kf_exit,decide_eq_true_eq,decide_eq_false_iff_not,bne_iff_ne,bne_eq_false_iff_eq,ne_eq,inR,show (↑i:Int).toNat=i from rfl,dec2_row,beq_bytes2,Bool.not_eq_true',Bool.not_eq_false']
 refine ⟨fun h2 => ?_,fun h2 => ⟨q1e _ ?_⟩⟩
 · have hA:i<A.length:=by omega
   have hB:i<B.length:=by omega
   have tA:=takeD hA
   have tB:=takeD hB
   have mA:A.getD i default∈A:=by
    rw [List.getD_eq_getElem?_getD,List.getElem?_eq_getElem hA];exact List.getElem_mem _
   have ne:A.getD i default≠B.getD i default→A≠B:=fun h e => h (by rw [e])
   have hLa:=hLL _ mA
   generalize A.getD i default=a at tA ne hLa ⊢
   generalize B.getD i default=b at tB ne ⊢
   have bad:a≠b→VLe (V.c (C.p (PV.b false))) (bV (decide (A=B))):=fun hq => by
    rw [decide_eq_false (ne hq)];exact VLe.refl _
   refine ⟨by omega,by omega,⟨⟨isL_row _ _ _,isL_row _ _ _⟩,.inl hLa⟩,fun c1 => ⟨bad fun e => ?_⟩,fun c1 => ⟨by omega,by omega,fun c2 => ⟨bad fun e => c2 (by rw [e])⟩,fun c2 => ⟨by omega,by omega,fun c3 => ⟨bad fun e => c3 (by rw [e])⟩,fun c3 => ⟨by omega,by omega,fun c4 => ⟨bad fun e => c4 (by rw [e])⟩,fun c4 => ⟨by omega,⟨q1n (i+1) _ ⟨by omega,?_⟩ (by omega) (weak_of_eq (by kernel_rfl))⟩⟩⟩⟩⟩⟩
   · subst e
     have:sameM a a=false:=c1
     rw [sameM_self] at this;cases this
   · have:sameM a b=true:=c1
     rw [tA,tB,hc,pg_ext this c2 c3 c4]
 · rw [List.take_of_length_le (by omega),List.take_of_length_le (by omega)] at hc
   refine ExS.evH ext0_sound (tE3 A B i) ?_
   simp only [holds_leaf,kf_ret']
   rw [decide_eq_true hc]
   exact ⟨VLe.refl _⟩
end
end Go.AE
namespace Go.AE
set_option linter.unusedVariables false
set_option linter.unusedSimpArgs false
open Go.RowKit
def appId (st:St):AOp→Option Nat
 | .app _ _ _ _ x _ => match st.ev x with
   | .c (.sl id _ _ _) => some id
   | _ => none
 | _ => none
def KPZ (id0:Option Nat) (h h':List AO):Prop:=(∀ id,id0≠some id→id<h.length→nth .gone h' id=nth .gone h id)∧h.length≤h'.length∧∀ id,id0=some id→(nth .gone h id).kp=false
theorem KPZ.ck {id0:Option Nat} {h h':List AO} (k:KPZ id0 h h'):CK h h':=by
 intro id x hx hid
 by_cases e:id0=some id
 · have:=k.2.2 id e
   rw [hid,hx] at this;cases this
 · rw [k.1 id e (nth_gone hid (kp_gone hx))];exact hid
theorem kpz_gone {h:List AO} {id:Nat} {x:AO} (hn:(nth .gone h id).kp=false):KPZ (some id) h (snoc x (upd .gone h id)):=by
 refine ⟨fun i hi hl => ?_,by rw [snoc_length,upd_eq,List.length_set];omega,fun i hi => by injection hi with hi;subst hi;exact hn⟩
 rw [nth_snoc_lt _ _ _ (by rw [upd_eq,List.length_set];exact hl),nth_upd_ne _ _ _ (fun e => hi (by rw [e]))]
theorem kpz_snoc {h:List AO} {x:AO}:KPZ none h (snoc x h):=⟨fun i _ hl => nth_snoc_lt _ _ _ hl,by rw [snoc_length];omega,fun i hi => by cases hi⟩
section
variable {P:Program} {G:Nat→Option Obj} {ops:Array Oper} {al:List AI} {ext:Ext} {U:Nat→Prop} {F:St} {own:Nat→Nat→Prop}
variable {β0 β β':Bt} {R0 R R':Nat→Prop} {w0 w w':World} {a:Act} {listed:Array Bool}
theorem app_moveZ {op:AOp} (ho:op.isApp=true) {st st':St} (hag:Agree st st' op.sls) (hh:st'.h=st.h) {k:V→List AO→Tr} {K:X→St→Prop} (h:(opT ext st k op).holds P G K) :
  (opT ext st' (fun v h' => .rq ((k v h').holds P G K∧KPZ (appId st op) st.h h') (.done .normal st')) op).holds P G fun _ _ => True:=by
 cases op <;> simp only [AOp.isApp,Bool.false_eq_true] at ho
 rename_i ty sz bytes z x y
 have ex:st'.ev x=st.ev x:=ev_agree (Agree.left hag)
 have ey:st'.ev y=st.ev y:=ev_agree (Agree.right hag)
 have src:∀ {kk kk':Nat→(Nat→Nat→C)→Tr} {K K':X→St→Prop},(∀ m g,(kk m g).holds P G K→(kk' m g).holds P G K')→(srcA st sz y kk).holds P G K→(srcA st' sz y kk').holds P G K':=by
  intro kk kk' K K' hk h
  simp only [srcA,ey,hh] at h ⊢
  split at h
  · rename_i e1;(try rw [e1]);exact hk _ _ h
  · rename_i e1;(try rw [e1]);obtain ⟨c1,c2⟩:=chk_true h;exact chk_intro c1 (hk _ _ c2)
  · rename_i e1
    (try rw [e1])
    (try dsimp only at h ⊢)
    split at h
    · rename_i e2;(try rw [e2]);obtain ⟨c1,c2,c3⟩:=chk_true h;exact chk_intro c1 ⟨c2,hk _ _ c3⟩
    · exact h.elim
  · exact h.elim
 simp only [opT] at h ⊢
 obtain ⟨c1,h⟩:=chk_true h
 refine chk_intro c1 ?_
 rcases offA_sound h with ⟨h,hoff⟩ | ⟨id,sz',off,len,e1,e2,h⟩
 · have hoff':(offA st' x (dstA st' ty sz x fun n f old => srcA st' sz y fun m g =>
       .rq ((n+m) * bytes≤140737488355328∧n+m≤140737488355328∧∀ e o,e<m→o<sz→oneC (g e o)=true) (.rq ((k (.c (.sl (lenL st'.h) sz 0 (n+m))) (snoc (.row ty sz (n+m) (appF n f g)) (goneO st'.h old))).holds P G K∧KPZ (appId st (.app ty sz bytes z x y)) st.h (snoc (.row ty sz (n+m) (appF n f g)) (goneO st'.h old))) (.done .normal st')))
       (appO st' (fun v h' => .rq ((k v h').holds P G K∧KPZ (appId st (.app ty sz bytes z x y)) st.h h') (.done .normal st')) ty sz bytes x y)).holds P G fun _ _ => True:=by
     have hd:(dstA st' ty sz x fun n f old => srcA st' sz y fun m g =>
      .rq ((n+m) * bytes≤140737488355328∧n+m≤140737488355328∧∀ e o,e<m→o<sz→oneC (g e o)=true) (.rq ((k (.c (.sl (lenL st'.h) sz 0 (n+m))) (snoc (.row ty sz (n+m) (appF n f g)) (goneO st'.h old))).holds P G K∧KPZ (appId st (.app ty sz bytes z x y)) st.h (snoc (.row ty sz (n+m) (appF n f g)) (goneO st'.h old))) (.done .normal st'))).holds P G fun _ _ => True:=by
      simp only [dstA,ex,hh] at h ⊢
      split at h
      · rename_i e1
        have ea:appId st (.app ty sz bytes z x y)=none:=by unfold appId;dsimp only;rw [e1]
        (try rw [e1])
        refine src (fun m g q => ?_) h
        exact ⟨q.1,⟨q.2,by rw [ea];exact kpz_snoc⟩,trivial⟩
      · rename_i e1
        have ea:∀ {i sz0 f l},st.ev x=.c (.sl i sz0 f l)→appId st (.app ty sz bytes z x y)=some i:=fun e => by unfold appId;dsimp only;rw [e]
        have ea:=ea e1
        (try rw [e1])
        (try dsimp only at h ⊢)
        split at h
        · rename_i e2
          (try rw [e2])
          obtain ⟨c1,c2,c3⟩:=chk_true h
          refine chk_intro c1 ⟨c2,src (fun m g q => ?_) c3⟩
          exact ⟨q.1,⟨q.2,by rw [ea];exact kpz_gone (by rw [e2];rfl)⟩,trivial⟩
        · exact h.elim
      · exact h.elim
     unfold offA
     rw [ex]
     split
     · rename_i e1
       have:=hoff _ _ _ _ e1
       subst this
       exact hd
     · exact hd
   exact hoff'
 · have ea:appId st (.app ty sz bytes z x y)=some id:=by unfold appId;dsimp only;rw [e1]
   unfold offA
   rw [ex,e1]
   dsimp only
   have hb:Nat.beq off 0=false:=by
    cases hq:Nat.beq off 0 with
    | false => rfl
    | true => exact absurd (Nat.eq_of_beq_eq_true hq) e2
   rw [hb]
   change (appO st' (fun v h' => .rq ((k v h').holds P G K∧KPZ (appId st (.app ty sz bytes z x y)) st.h h') (.done .normal st')) ty sz bytes x y).holds P G fun _ _ => True
   simp only [appO,ex,e1,hh] at h ⊢
   split at h
   · rename_i e3
     (try rw [e3])
     obtain ⟨c1,c2,c3⟩:=chk_true h
     have hck:∀ x':AO,KPZ (appId st (.app ty sz bytes z x y)) st.h (snoc x' (upd .gone st.h id)):=fun x' => by rw [ea];exact kpz_gone (by rw [e3];rfl)
     refine chk_intro c1 ⟨c2,src (fun m g q => ?_) c3⟩
     exact ⟨q.1,⟨⟨q.2.1,hck _⟩,trivial⟩,⟨⟨q.2.2,hck _⟩,trivial⟩⟩
   · exact h.elim
theorem opAt_move {ai:AI} {o:Nat→Prop} (hat:OpAt P G ext ai F o) (hd:ai.op.hd=true) (hlb:lateB F ai.op=true) {F2:St} (hck:CK F.h F2.h) (hown:∀ x mk id,newB F ai.op=some (x,mk)→(∀ s,ai.dst=some s→s<F.t.length→nth (.c .top) F.t s=mk id)→nth .gone F.h id=x→o id→id<F.h.length→nth .gone F2.h id=nth .gone F.h id∧id<F2.h.length) (htl:F2.t.length=F.t.length)
  (hs1:∀ s∈ai.sls,nth (.c .top) F2.t s=nth (.c .top) F.t s) (hs2:∀ s,ai.dst=some s→nth (.c .top) F2.t s=nth (.c .top) F.t s):OpAt P G ext ai F2 o:=by
 intro tM hag
 have hag1:Agree F ⟨tM,F.h⟩ ai.sls:=fun s hs => (hag s hs).trans (hs1 s hs)
 rcases hat tM hag1 with ⟨hw,hd'⟩ | ⟨hw,v,hd',hk⟩ | ⟨hw,x,mk,id,hn,hd',hx,hid,ho⟩
 · exact .inl ⟨hw,fun s h1 h2 => (hs2 s h1).trans (hd' s h1 (by omega))⟩
 · refine .inr (.inl ⟨hw,v,fun s h1 h2 => (hs2 s h1).trans (hd' s h1 (by omega)),fun k' K' h => ?_⟩)
   cases hnw:ai.op.nw with
   | true => exact (nw_no_keep hnw hk).elim
   | false => exact late_moveX hd hnw (opL_of (st:=F) (Agree.right hag1) hlb) hck (hk (fun v _ => k' v F2.h) K' h)
 · have hn':newB F ai.op=some (x,mk):=by rw [← hn];exact (newB_agree (st:=F) (st':=⟨tM,F.h⟩) (Agree.right hag1)).symm
   obtain ⟨q1,q2⟩:=hown x mk id hn' hd' hx ho hid
   refine .inr (.inr ⟨hw,x,mk,id,?_,fun s h1 h2 => (hs2 s h1).trans (hd' s h1 (by omega)),q1.trans hx,q2,ho⟩)
   rw [← hn]
   exact newB_agree (st:=⟨tM,F.h⟩) (st':=⟨tM,F2.h⟩) (fun _ _ => rfl)
structure RegZ (ops:Array Oper) (al:List AI) (N:Nat):Prop where
 back:∀ i o,ops[i]? = some o→∀ e∈o.after,Region.binds .any e=true→e.on<i
 dst:∀ i j x y d,al[i]? = some x→al[j]? = some y→i<N→j<N→i≠j→x.dst=some d→y.dst≠some d
 dep:∀ i j x y d,al[i]? = some x→al[j]? = some y→i<N→j<N→y.dst=some d→d∈x.sls→Region.waitsFor .any ops i j=true
 tl1:∀ i,i<N→N<ops.size→∃ j,i<j∧j≤N∧Region.waitsFor .any ops j i=true
 tl2:∀ t,N<t→t<ops.size→Region.waitsFor .any ops t (t - 1)=true
 len:al.length=ops.size
 le:N≤ops.size
variable {N:Nat}
theorem tail_notZ (hok:RegZ ops al N) (inv:HeadInv .any ops N listed) {i i0:Nat} (h0:i0<N) (hu:listed.getD i0 false=false) (hi:i∈Region.ready .any ops listed):i<N:=by
 rcases Nat.lt_or_ge i N with h | h
 case inl => exact h
 obtain ⟨q1,o,q2,q3⟩:=mem_ready.1 hi
 have his:i<ops.size:=(Array.getElem?_eq_some_iff.1 q2).1
 by_cases e:i=N
 · subst e
   have key:∀ (k i0:Nat),i - i0≤k→i0<i→listed.getD i0 false=true:=by
    intro k
    induction k with
    | zero => intro i0 h1 h2;omega
    | succ k ih =>
      intro i0 h1 h2
      obtain ⟨j,j1,j2,j3⟩:=hok.tl1 i0 h2 his
      obtain ⟨o',ho',e,he,hb,hon⟩:=Region.waitsFor_spec j3
      by_cases ej:j=i
      · subst ej
        rw [q2] at ho';injection ho' with ho';subst ho'
        have:=q3 e he hb
        rwa [hon] at this
      · have:=inv.closed j o' ho' (ih j (by omega) (by omega)) e he hb
        rwa [hon] at this
   rw [key (i - i0) i0 (Nat.le_refl _) h0] at hu;cases hu
 · obtain ⟨o',ho',e',he,hb,hon⟩:=Region.waitsFor_spec (hok.tl2 i (by omega) his)
   rw [q2] at ho';injection ho' with ho';subst ho'
   have:=q3 e' he hb
   rw [hon,getD_both (inv.tail (i - 1) (by omega) (by omega))] at this;cases this
theorem ready_firstZ (hok:RegZ ops al N) (inv:HeadInv .any ops N listed) (hc:0<cnt listed N):∃ i0,i0<N∧listed.getD i0 false=false∧i0∈Region.ready .any ops listed:=by
 obtain ⟨i0,hi0,hu0,hb0⟩:=cnt_pos hc
 have hi0s:i0<ops.size:=by have:=hok.le;omega
 exact ⟨i0,hi0,hu0,mem_ready.2 ⟨getD_in (by rw [inv.size];exact hi0s) hu0,ops[i0],by simp [hi0s],fun e he hb => hb0 e.on (hok.back i0 _ (by simp [hi0s]) e he hb)⟩⟩
theorem reads_doneZ (hok:RegZ ops al N) {i:Nat} {ai:AI} {o:Oper} (hi:i<N) (ha:al[i]? = some ai) (ho:ops[i]? = some o) (q3:∀ e∈o.after,Region.binds .any e=true→listed.getD e.on false=true) :
  ∀ s∈ai.sls,∀ j aj,j<N→al[j]? = some aj→aj.dst=some s→listed.getD j false=true:=by
 intro s hs j aj hj hja hd
 obtain ⟨o',ho',e,he,hb,hon⟩:=Region.waitsFor_spec (hok.dep i j ai aj s ha hja hi hj hd hs)
 rw [ho] at ho';injection ho' with ho';subst ho'
 have:=q3 e he hb
 rwa [hon] at this
def orB:List Bool→List Bool→List Bool
 | x::r,y::s => (x || y)::orB r s
 | [],s => s
 | r,[] => r
theorem nth_orB:∀ (u v:List Bool) (i:Nat),nth false (orB u v) i=(nth false u i || nth false v i)
 | [],v,i => by cases i <;> simp [orB,nth]
 | x::r,[],i => by simp [orB,nth]
 | x::r,y::s,0 => rfl
 | x::r,y::s,i+1 => nth_orB r s i
def isIn (m:List Bool) (i:Nat):Prop:=nth false m i=true
theorem isIn_or {u v:List Bool} {i:Nat}:isIn (orB u v) i↔isIn u i∨isIn v i:=by unfold isIn;rw [nth_orB,Bool.or_eq_true]
structure StageOK (ops:Array Oper) (al:List AI) (N:Nat) (v m:List Bool):Prop where
 mlt:∀ i,isIn m i→i<N
 vlt:∀ i,isIn v i→i<N
 mv:∀ i,isIn m i→¬ isIn v i
 hd:∀ i ai,isIn m i→al[i]? = some ai→ai.op.hd=true
 m1:∀ i j x y d,(isIn v i∨isIn m i)→j<N→¬ (isIn v j∨isIn m j)→al[i]? = some x→al[j]? = some y→y.dst=some d→d ∉ x.sls
 m2:∀ i j x y d,isIn v i→j<N→¬ isIn v j→al[i]? = some x→al[j]? = some y→y.dst=some d→d ∉ x.sls
structure NextOK (ops:Array Oper) (al:List AI) (N:Nat) (u:List Bool) (n:Nat):Prop where
 nN:n<N
 nu:¬ isIn u n
 out:∀ i,i<N→¬ isIn u i→i≠n→∃ j,j<i∧¬ isIn u j∧Region.waitsFor .any ops i j=true
structure IZ (P:Program) (G:Nat→Option Obj) (ops:Array Oper) (al:List AI) (N:Nat) (ext:Ext) (u:List Bool) (F:St) (own:Nat→Nat→Prop) (β0:Bt) (R0:Nat→Prop) (w0:World) (listed:Array Bool) (a:Act) (w:World) (β:Bt) (R:Nat→Prop):Prop where
 inv:HeadInv .any ops N listed
 un:∀ i,i<N→¬ isIn u i→listed.getD i false=false
 dx:DX G al (isIn u) F own β0 R0 w0 listed a w β R
 opAt:∀ i ai,isIn u i→al[i]? = some ai→listed.getD i false=false→OpAt P G ext ai F (own i)∧ai.op.hd=true
 od:∀ i j id,isIn u i→isIn u j→j≠i→own i id→¬ own j id
 ob:∀ i id,isIn u i→own i id→id<F.h.length
theorem stage_run (hok:RegZ ops al N) {v m:List Bool} (hst:StageOK ops al N v m) {st:St} {n1:Nat} {S:Nat→St} (h0:S 0=st) (hn1:(selL m al).length=n1) (hr:Run P G ext (selL m al) n1 S)
  (I:IZ P G ops al N ext v st own β0 R0 w0 listed a w β R) (hlate:∀ i ai,isIn v i→al[i]? = some ai→listed.getD i false=false→lateB st ai.op=true):∃ own',IZ P G ops al N ext (orB v m) (S n1) own' β0 R0 w0 listed a w β R:=by
 have hle0:=hr.le (i:=0) (j:=n1) (Nat.zero_le _) (Nat.le_refl _)
 rw [h0] at hle0
 have hl1:∀ q x,(selL m al)[q]? = some x→∃ j,isIn m j∧al[j]? = some x∧posL m j=q:=fun q x hq => selL_from hq
 have hp1:∀ i ai,al[i]? = some ai→isIn m i→(selL m al)[posL m i]? = some ai∧posL m i<n1:=fun i ai ha hd => by
  have h1:=selL_at hd ha
  exact ⟨h1,by rw [← hn1];exact (List.getElem?_eq_some_iff.1 h1).1⟩
 have waits_lt:∀ i j,Region.waitsFor .any ops i j=true→j<i:=fun i j hw => by
  obtain ⟨o',ho',e,he,hb,hon⟩:=Region.waitsFor_spec hw
  have:=hok.back i o' ho' e he hb
  omega
 have slot:∀ s,(∀ j aj,isIn m j→al[j]? = some aj→aj.dst≠some s)→nth (.c .top) (S n1).t s=nth (.c .top) st.t s:=fun s hs => hle0.2.2.2 s fun q aj _ _ hq hd => by
  obtain ⟨j,j1,j2,_⟩:=hl1 q aj hq
  exact hs j aj j1 j2 hd
 open Classical in
 let own2:Nat→Nat→Prop:=fun i => if isIn m i then ownR S (posL m i) else own i
 have o2m:∀ i,isIn m i→own2 i=ownR S (posL m i):=fun i h => by show (if _ then _ else _)=_;rw [if_pos h]
 have o2v:∀ i,¬ isIn m i→own2 i=own i:=fun i h => by show (if _ then _ else _)=_;rw [if_neg h]
 have nm:∀ i,isIn v i→¬ isIn m i:=fun i h k => hst.mv i k h
 have hmal:∀ i,isIn m i→∃ ai,al[i]? = some ai:=fun i h => ⟨al[i]'(by have:=hst.mlt i h;have:=hok.len;have:=hok.le;omega),List.getElem?_eq_getElem _⟩
 have low:∀ i id,isIn v i→own i id→id<st.h.length:=I.ob
 have high:∀ i id,isIn m i→ownR S (posL m i) id→st.h.length≤id∧id<(S n1).h.length:=fun i id hi ⟨b1,b2⟩ => by
  obtain ⟨ai,hai⟩:=hmal i hi
  have hp:=(hp1 i ai hai hi).2
  have q1:=(hr.le (i:=0) (j:=posL m i) (Nat.zero_le _) (by omega)).2.1
  have q2:=(hr.le (i:=posL m i+1) (j:=n1) (by omega) (Nat.le_refl _)).2.1
  rw [h0] at q1
  omega
 refine ⟨own2,I.inv,fun i hi hu => I.un i hi (fun h => hu (isIn_or.2 (.inl h))),⟨I.dx.gr,hs_more I.dx.hs hle0.2.1 hle0.2.2.1,I.dx.df,by rw [I.dx.sz,hle0.1],?_,?_⟩,?_,?_,?_⟩
 · intro s u' hu hnd
   rw [slot s (fun j aj hj hja hdd => hnd j aj (isIn_or.2 (.inr hj)) hja (I.un j (hst.mlt j hj) (hst.mv j hj)) hdd)]
   exact I.dx.sl s u' hu (fun j aj hj hja hjl => hnd j aj (isIn_or.2 (.inl hj)) hja hjl)
 · intro i hi hil id hid
   rcases isIn_or.1 hi with h | h
   · rw [o2v i (nm i h)] at hid
     exact I.dx.fr i h hil id hid
   · rw [o2m i h] at hid
     cases hb:β id with
     | none => rfl
     | some x => have:=I.dx.hs.dom id x hb;have:=(high i id h hid).1;omega
 · intro i ai hi hai hil
   by_cases hm:isIn m i
   · rw [o2m i hm]
     refine ⟨run_opAt hr (hp1 i ai hai hm).2 (hp1 i ai hai hm).1 ?_ ?_,hst.hd i ai hm hai⟩
     · intro s hs q aj hq _ hj hdj
       obtain ⟨j,j1,j2,j3⟩:=hl1 q aj hj
       have hlt:=waits_lt i j (hok.dep i j ai aj s hai j2 (hst.mlt i hm) (hst.mlt j j1) hdj hs)
       have:=posL_lt (bs:=m) j1 hlt
       omega
     · intro s hs q aj hq _ hj hdj
       obtain ⟨j,j1,j2,j3⟩:=hl1 q aj hj
       exact hok.dst i j ai aj s hai j2 (hst.mlt i hm) (hst.mlt j j1) (fun e => by rw [← e] at j3;omega) hs hdj
   · have hv:isIn v i:=(isIn_or.1 hi).resolve_right hm
     rw [o2v i hm]
     obtain ⟨q1,q2⟩:=I.opAt i ai hv hai hil
     refine ⟨opAt_move q1 q2 (hlate i ai hv hai hil) (fun id x hx hid => ?_) (fun x mk id _ _ _ ho hl => ⟨hle0.2.2.1 id hl,by have:=hle0.2.1;omega⟩) hle0.1 (fun s hs => slot s fun j aj hj hja hd => hst.m2 i j ai aj s hv (hst.mlt j hj) (hst.mv j hj) hai hja hd hs) (fun s hs => slot s fun j aj hj hja hd => hok.dst i j ai aj s hai hja (hst.vlt i hv) (hst.mlt j hj) (fun e => hm (e ▸ hj)) hs hd),q2⟩
     rw [hle0.2.2.1 id (nth_gone hid (kp_gone hx))];exact hid
 · intro i j id hi hj hne h1 h2
   by_cases hmi:isIn m i
   · rw [o2m i hmi] at h1
     by_cases hmj:isIn m j
     · rw [o2m j hmj] at h2
       obtain ⟨ai,hai⟩:=hmal i hmi
       obtain ⟨aj,haj⟩:=hmal j hmj
       obtain ⟨a1,a2⟩:=h1
       obtain ⟨b1,b2⟩:=h2
       rcases Nat.lt_or_ge i j with h | h
       · have h3:=posL_lt (bs:=m) hmi h
         have:=(hr.le (i:=posL m i+1) (j:=posL m j) (by omega) (by have:=(hp1 j aj haj hmj).2;omega)).2.1
         omega
       · have h3:=posL_lt (bs:=m) hmj (show j<i by omega)
         have:=(hr.le (i:=posL m j+1) (j:=posL m i) (by omega) (by have:=(hp1 i ai hai hmi).2;omega)).2.1
         omega
     · rw [o2v j hmj] at h2
       have:=low j id ((isIn_or.1 hj).resolve_right hmj) h2
       have:=(high i id hmi h1).1
       omega
   · rw [o2v i hmi] at h1
     have q:=low i id ((isIn_or.1 hi).resolve_right hmi) h1
     by_cases hmj:isIn m j
     · rw [o2m j hmj] at h2
       have:=(high j id hmj h2).1
       omega
     · rw [o2v j hmj] at h2
       exact I.od i j id ((isIn_or.1 hi).resolve_right hmi) ((isIn_or.1 hj).resolve_right hmj) hne h1 h2
 · intro i id hi hid
   by_cases hmi:isIn m i
   · rw [o2m i hmi] at hid;exact (high i id hmi hid).2
   · rw [o2v i hmi] at hid
     have:=low i id ((isIn_or.1 hi).resolve_right hmi) hid
     have:=hle0.2.1
     omega
theorem IZ.next (hext:SoundExt P G ext) (hok:RegZ ops al N) (hal:cOpers P ops ops.toList=some al) {u:List Bool} {Q:Exit→Act→World→Prop} (I:IZ P G ops al N ext u F own β0 R0 w0 listed a w β R) {i:Nat} (hi:i∈Region.ready .any ops listed) (hin:i<N) (hiu:isIn u i) (hul:∀ j,isIn u j→j<N) {K:Act→World→Prop}
  (hK:∀ a' w' β' R',IZ P G ops al N ext u F own β0 R0 w0 (listed.setIfInBounds i true) a' w' β' R'→K a' w'):wpOp P ops Q i K a w:=by
 obtain ⟨q1,o,q2,q3⟩:=mem_ready.1 hi
 have his:i<ops.size:=(Array.getElem?_eq_some_iff.1 q2).1
 have hun:=getD_both q1
 have hil:i<listed.size:=by rw [I.inv.size];exact his
 obtain ⟨ai,ha,hco⟩:=(cOpers_get hal).2 i o (by simpa using q2)
 obtain ⟨hat,hhd⟩:=I.opAt i ai hiu ha hun
 refine I.dx.step hext hiu hil ha q2 hco hun hat (fun s hs j aj hj hja hd => reads_doneZ hok hin ha q2 q3 s hs j aj (hul j hj) hja hd) (fun j id hj hji h1 => I.od i j id hiu hj hji h1) fun a' w' β' R' hI' => hK _ _ _ _ ⟨I.inv.set hi hin,fun j hj hju => ?_,hI',fun j aj hj hja hjl => ?_,I.od,I.ob⟩
 · rw [getD_set_ne false (fun e:i=j => hju (by rw [← e];exact hiu))];exact I.un j hj hju
 · obtain ⟨h3,h4⟩:=getD_set_other hjl hil
   exact I.opAt j aj hj hja h3
theorem loopZ (hext:SoundExt P G ext) (hok:RegZ ops al N) (hal:cOpers P ops ops.toList=some al) {u:List Bool} {n:Nat} (hn:NextOK ops al N u n) (hul:∀ j,isIn u j→j<N) {Q:Exit→Act→World→Prop}
  (hM:∀ (listed:Array Bool) (a:Act) (w:World) (β:Bt) (R:Nat→Prop) (o:Oper),ops[n]? = some o→n∈Region.ready .any ops listed→IZ P G ops al N ext u F own β0 R0 w0 listed a w β R→(∀ i,i<n→Ch ops n i→listed.getD i false=true) →
   (∀ s∈AI.sls ((al[n]?).getD ⟨none,.mv (.t 0),none⟩),∀ j aj,j<N→al[j]? = some aj→aj.dst=some s→listed.getD j false=true) →
   wpOp P ops Q n (wpAny P .any ops Q (cnt listed N - 1+(ops.size - N)) (listed.setIfInBounds n true)) a w) :
  ∀ (f:Nat) (listed:Array Bool) (a:Act) (w:World) (β:Bt) (R:Nat→Prop),cnt listed N=f→IZ P G ops al N ext u F own β0 R0 w0 listed a w β R→wpAny P .any ops Q (f+(ops.size - N)) listed a w:=by
 intro f
 induction f with
 | zero =>
   intro listed a w β R hc I
   have:=cnt_zero hc n hn.nN
   rw [I.un n hn.nN hn.nu] at this;cases this
 | succ f ih =>
   intro listed a w β R hc I
   rw [show f+1+(ops.size - N)=(f+(ops.size - N))+1 by omega]
   obtain ⟨i0,hi0,hu0,hr0⟩:=ready_firstZ hok I.inv (by omega)
   refine ⟨fun h => (by rw [h] at hr0;cases hr0),fun i hi => ?_⟩
   obtain ⟨q1,o,q2,q3⟩:=mem_ready.1 hi
   have his:i<ops.size:=(Array.getElem?_eq_some_iff.1 q2).1
   have hin:=tail_notZ hok I.inv hi0 hu0 hi
   have hun:=getD_both q1
   have hil:i<listed.size:=by rw [I.inv.size];exact his
   obtain ⟨ai,ha,hco⟩:=(cOpers_get hal).2 i o (by simpa using q2)
   by_cases e:i=n
   · subst e
     have:=hM listed a w β R o q2 hi I (fun j hj hcj => ch_listedX I.inv q2 q3 i j (by omega) hj hcj) (fun s hs j aj hj hja hd => by
       rw [ha] at hs
       exact reads_doneZ hok hin ha q2 q3 s hs j aj hj hja hd)
     rwa [hc,Nat.add_sub_cancel] at this
   · have hiu:isIn u i:=Classical.byContradiction fun hnu => by
       obtain ⟨j,h1,h2,h3⟩:=hn.out i hin hnu e
       obtain ⟨o',ho',e,he,hb,hon⟩:=Region.waitsFor_spec h3
       rw [q2] at ho';injection ho' with ho';subst ho'
       have:=q3 e he hb
       rw [hon,I.un j (by omega) h2] at this;cases this
     exact I.next hext hok hal hi hin hiu hul fun a' w' β' R' I' => ih _ a' w' β' R' (by have:=cnt_set hil hun hin;omega) I'
theorem endZ (hext:SoundExt P G ext) (hok:RegZ ops al N) (hal:cOpers P ops ops.toList=some al) {u:List Bool} (hall:∀ i,i<N→isIn u i) (hul:∀ j,isIn u j→j<N) {Q:Exit→Act→World→Prop}
  (hT:∀ a w β R,Sim G β R F a w→Gr β0 R0 w0 β R w→wpList P ops Q (ops.toList.drop N) a w) :
  ∀ (f:Nat) (listed:Array Bool) (a:Act) (w:World) (β:Bt) (R:Nat→Prop),cnt listed N=f→IZ P G ops al N ext u F own β0 R0 w0 listed a w β R→wpAny P .any ops Q (f+(ops.size - N)) listed a w:=by
 intro f
 induction f with
 | zero =>
   intro listed a w β R hc I
   rw [Nat.zero_add]
   have hall':=cnt_zero hc
   have hsim:Sim G β R F a w:=by
    refine ⟨I.dx.df,All2.of_get (by simp [I.dx.sz]) ?_,I.dx.hs⟩
    intro s y z hx hy
    have h1:=I.dx.sl s z (by simpa using hy) fun i ai hi _ hl => by rw [hall' i (hul i hi)] at hl;cases hl
    rw [nth_eq,List.getD_eq_getElem?_getD,hx] at h1
    exact h1
   have:=tail_any hok.back (ops.toList.drop N) N listed a w (fun j => by simp [List.getElem?_drop]) I.inv.size (fun i hi _ => hall' i hi) I.inv.tail (fun t ht hts => hok.tl2 t ht hts) (hT a w β R hsim I.dx.gr)
   simpa using this
 | succ f ih =>
   intro listed a w β R hc I
   rw [show f+1+(ops.size - N)=(f+(ops.size - N))+1 by omega]
   obtain ⟨i0,hi0,hu0,hr0⟩:=ready_firstZ hok I.inv (by omega)
   refine ⟨fun h => (by rw [h] at hr0;cases hr0),fun i hi => ?_⟩
   obtain ⟨q1,o,q2,q3⟩:=mem_ready.1 hi
   have his:i<ops.size:=(Array.getElem?_eq_some_iff.1 q2).1
   have hin:=tail_notZ hok I.inv hi0 hu0 hi
   have hun:=getD_both q1
   have hil:i<listed.size:=by rw [I.inv.size];exact his
   exact I.next hext hok hal hi hin (hall i hin) hul fun a' w' β' R' I' => ih _ a' w' β' R' (by have:=cnt_set hil hun hin;omega) I'
def unitB:Nat→List Bool
 | 0 => [true]
 | n+1 => false::unitB n
theorem isIn_unit:∀ {n i:Nat},isIn (unitB n) i↔i=n
 | 0,0 => by simp [isIn,unitB,nth]
 | 0,i+1 => by simp [isIn,unitB,nth]
 | n+1,0 => by simp [isIn,unitB,nth]
 | n+1,i+1 => by
   have:=isIn_unit (n:=n) (i:=i)
   unfold isIn at this ⊢
   simp only [unitB,nth]
   rw [this];omega
def latB:List Bool→List Bool→List Bool
 | [],_ => []
 | x::r,[] => x::latB r []
 | x::r,y::s => (x && !y)::latB r s
theorem nth_latB:∀ (u c:List Bool) (i:Nat),nth false (latB u c) i=(nth false u i && !nth false c i)
 | [],c,i => by cases i <;> simp [latB,nth]
 | x::r,[],0 => by simp [latB,nth]
 | x::r,[],i+1 => by simpa [latB,nth] using nth_latB r [] i
 | x::r,y::s,0 => by simp [latB,nth]
 | x::r,y::s,i+1 => by simpa [latB,nth] using nth_latB r s i
def bslOK (st:St) (id0:Option Nat) (x:AI):Bool:=match x.op.isBsl with
 | false => true
 | true => match x.dst with
   | some d => match nth (.c .top) st.t d with
     | .c (.sl id _ _ _) => match id0 with
       | some i => !(Nat.beq i id)
       | none => true
     | _ => false
   | none => false
def lateZ (st:St) (id0:Option Nat):List AI→Bool
 | [] => true
 | x::r => lateB st x.op && (bslOK st id0 x && lateZ st id0 r)
theorem lateZ_mem {st:St} {id0:Option Nat}:∀ {l:List AI} {q:Nat} {x:AI},lateZ st id0 l=true→l[q]? = some x→lateB st x.op=true∧bslOK st id0 x=true
 | [],_,_,_,h => by simp at h
 | y::r,0,x,h,hx => by
   simp at hx;subst hx
   simp only [lateZ,Bool.and_eq_true] at h
   exact ⟨h.1,h.2.1⟩
 | y::r,q+1,x,h,hx => by
   simp only [lateZ,Bool.and_eq_true] at h
   exact lateZ_mem h.2.2 (by simpa using hx)
theorem anchorZ (hext:SoundExt P G ext) (hok:RegZ ops al N) (hal:cOpers P ops ops.toList=some al) {u:List Bool} {n:Nat} (hn:NextOK ops al N u n) (hul:∀ j,isIn u j→j<N) {mm:AI} (hmm:al[n]? = some mm) (hma:mm.op.isApp=true) (hmg:mm.guard=none) {dM:Nat} (hmd:mm.dst=some dM)
  (hm1:∀ i j x y d,isIn u i→j<N→¬ isIn u j→al[i]? = some x→al[j]? = some y→y.dst=some d→d ∉ x.sls)
  (hz:lateZ F (appId F mm.op) (selL (latB u (chB ops.toList n n)) al)=true) {kk:St→Tr} {K:X→St→Prop} (h:(opT ext F (fun v h' => kk ⟨putT F.t mm.dst v,h'⟩) mm.op).holds P G K) {Q:Exit→Act→World→Prop}
  {o:Oper} (ho:ops[n]? = some o) (hrdy:n∈Region.ready .any ops listed) (I:IZ P G ops al N ext u F own β0 R0 w0 listed a w β R) (hch:∀ i,i<n→Ch ops n i→listed.getD i false=true)
  (hrd:∀ s∈AI.sls mm,∀ j aj,j<N→al[j]? = some aj→aj.dst=some s→listed.getD j false=true) {K2:Act→World→Prop}
  (hK:∀ st' own' a' w' β' R',(kk st').holds P G K→IZ P G ops al N ext (orB u (unitB n)) st' own' β0 R0 w0 (listed.setIfInBounds n true) a' w' β' R'→(∀ i ai,isIn (orB u (unitB n)) i→al[i]? = some ai→(listed.setIfInBounds n true).getD i false=false→lateB st' ai.op=true)→K2 a' w'):wpOp P ops Q n K2 a w:=by
 obtain ⟨q1,o',q2,q3⟩:=mem_ready.1 hrdy
 rw [ho] at q2;injection q2 with q2;subst q2
 have hns:n<ops.size:=(Array.getElem?_eq_some_iff.1 ho).1
 have hun:=getD_both q1
 have hil:n<listed.size:=by rw [I.inv.size];exact hns
 obtain ⟨ai,ha,hco⟩:=(cOpers_get hal).2 n o (by simpa using ho)
 rw [hmm] at ha;injection ha with ha;subst ha
 simp only [cOper,Option.bind_eq_bind,Option.bind_eq_some_iff,Option.pure_def,Option.some.injEq] at hco
 obtain ⟨aop,hop,g,hgd,rfl⟩:=hco
 dsimp only at hma hmg hmd hz h
 subst hmg
 obtain ⟨tM,hsim,htM⟩:=I.dx.mask
 have hag:Agree F ⟨tM,F.h⟩ aop.sls:=fun s hs => htM s (fun j aj h1 h2 h3 h4 => by
  rw [hrd s (by simp [AI.sls,hs]) j aj (hul j h1) h2 h4] at h3;cases h3)
 unfold wpOp
 simp only [ho]
 have hw':=gwant_sound (o:=o) (ai:=⟨o.dst,aop,none⟩) hsim hgd (b:=true) rfl
 rw [hw']
 simp only [if_true]
 have h1:=app_moveZ (P:=P) (G:=G) (ext:=ext) hma (st':=⟨tM,F.h⟩) hag rfl h
 refine .inl ((opT_sound hsim hop hext h1).wp ?_)
 rintro x' w' ⟨β',R',x,hh,⟨⟨hkk,hkp⟩,_⟩,r2,r3,r4,r5⟩
 rw [hmd] at hkk
 have hkp:KPZ (appId F aop) F.h hh:=hkp
 have slot:∀ s,s≠dM→nth (.c .top) (upd x F.t dM) s=nth (.c .top) F.t s:=fun s hs => nth_upd_ne _ _ _ (fun e => hs e.symm)
 have unl:∀ i,isIn (orB u (unitB n)) i→(listed.setIfInBounds n true).getD i false=false→isIn u i∧i≠n∧listed.getD i false=false:=fun i hi hl => by
  obtain ⟨h3,h4⟩:=getD_set_other hl hil
  have hne:i≠n:=by first | exact h4 | exact fun e => h4 e.symm
  exact ⟨(isIn_or.1 hi).resolve_right (fun e => hne (isIn_unit.1 e)),hne,h3⟩
 have late:∀ i ai,isIn u i→al[i]? = some ai→listed.getD i false=false→lateB F ai.op=true∧bslOK F (appId F aop) ai=true:=fun i ai hi hai hl => by
  have hc:nth false (latB u (chB ops.toList n n)) i=true:=by
   rw [nth_latB]
   have h1:nth false u i=true:=hi
   rw [h1]
   cases hq:nth false (chB ops.toList n n) i with
   | false => rfl
   | true =>
     have hlen:=nth_lt hq
     rw [chB_length] at hlen
     have hne:i≠n:=fun e => hn.nu (e ▸ hi)
     rw [hch i (by omega) hq] at hl;cases hl
  exact lateZ_mem hz (selL_at hc hai)
 refine hK ⟨upd x F.t dM,hh⟩ (fun i => if i=n then fun _ => False else own i) _ w' β' R' hkk ⟨I.inv.set hrdy hn.nN,fun i hi hiu => ?_,⟨I.dx.gr.trans r4,r3,?_,?_,?_,?_⟩,?_,?_,?_⟩ ?_
 · have h2:¬ isIn u i:=fun e => hiu (isIn_or.2 (.inl e))
   have h3:i≠n:=fun e => hiu (isIn_or.2 (.inr (isIn_unit.2 e)))
   rw [getD_set_ne false (fun e => h3 e.symm)];exact I.un i hi h2
 · cases o.dst <;> exact I.dx.df
 · rw [hmd]
   show (a.tmps.setIfInBounds dM x').size=(upd x F.t dM).length
   rw [Array.size_setIfInBounds,upd_eq,List.length_set];exact I.dx.sz
 · intro s u' hu hnd
   rw [hmd] at hu
   have hu:(a.tmps.setIfInBounds dM x')[s]? = some u':=hu
   by_cases e:dM=s
   · subst e
     have hss:dM<a.tmps.size:=by
      rcases Nat.lt_or_ge dM a.tmps.size with h | h
      · exact h
      · rw [Array.getElem?_eq_none (by simpa using h)] at hu;cases hu
     simp [hss] at hu
     subst hu
     show VR β' R' w' (nth (.c .top) (upd x F.t dM) dM) x'
     rw [nth_upd_eq _ _ _ (by rw [← I.dx.sz];exact hss)]
     exact r2
   · have hu':a.tmps[s]? = some u':=by rwa [Array.getElem?_setIfInBounds_ne e] at hu
     show VR β' R' w' (nth (.c .top) (upd x F.t dM) s) u'
     rw [slot s (fun h => e h.symm)]
     exact VR.keep r4.keeps (I.dx.sl s u' hu' (fun j aj hj hja hjl => hnd j aj (isIn_or.2 (.inl hj)) hja (by rw [getD_set_ne false (fun h => hn.nu (by rw [h];exact hj))];exact hjl)))
 · intro i hi hl id hid
   obtain ⟨h2,h3,h4⟩:=unl i hi hl
   rw [if_neg h3] at hid
   rw [r5 id (I.ob i id h2 hid)]
   exact I.dx.fr i h2 h4 id hid
 · intro i ai hi hai hl
   obtain ⟨h2,h3,h4⟩:=unl i hi hl
   rw [if_neg h3]
   obtain ⟨q4,q5⟩:=I.opAt i ai h2 hai h4
   obtain ⟨q6,q7⟩:=late i ai h2 hai h4
   refine ⟨opAt_move q4 q5 q6 hkp.ck (fun y mk id hnb hds hy ho' hid => ?_) (by show (upd x F.t dM).length=_;rw [upd_eq,List.length_set]) (fun s hs => slot s fun e => hm1 i n ai _ dM h2 hn.nN hn.nu hai hmm hmd (e ▸ hs)) (fun s hs => slot s fun e => hok.dst i n ai _ s hai hmm (hul i h2) hn.nN h3 hs (by rw [hmd,e])),q5⟩
   have hne:appId F aop≠some id:=fun e => by
    cases hb:ai.op.isBsl with
    | false =>
      obtain ⟨ty,vs,rfl⟩:=newB_cells hb hnb
      have:=hkp.2.2 id e
      rw [hy] at this;cases this
    | true =>
      unfold bslOK at q7
      rw [hb] at q7
      dsimp only at q7
      cases hd:ai.dst with
      | none => rw [hd] at q7;cases q7
      | some d =>
        rw [hd] at q7
        dsimp only at q7
        have hdl:d<F.t.length:=by
         rcases Nat.lt_or_ge d F.t.length with h | h
         · exact h
         · rw [nth_eq,List.getD_eq_getElem?_getD,List.getElem?_eq_none h] at q7;cases q7
        have hv:=hds d hd hdl
        cases hop2:ai.op <;> rw [hop2] at hb <;> try cases hb
        rw [hop2] at hnb
        simp only [newB] at hnb
        split at hnb
        · split at hnb
          · injection hnb with hnb
            injection hnb with _ hnb
            subst hnb
            rw [hv,e] at q7
            simp at q7
          · cases hnb
        · cases hnb
   exact ⟨hkp.1 id hne hid,by have:=hkp.2.1;show id<hh.length;omega⟩
 · intro i j id hi hj hne h1 h2
   by_cases ei:i=n
   · rw [if_pos ei] at h1;exact h1
   by_cases ej:j=n
   · rw [if_pos ej] at h2;exact h2
   rw [if_neg ei] at h1
   rw [if_neg ej] at h2
   exact I.od i j id ((isIn_or.1 hi).resolve_right (fun e => ei (isIn_unit.1 e))) ((isIn_or.1 hj).resolve_right (fun e => ej (isIn_unit.1 e))) hne h1 h2
 · intro i id hi hid
   by_cases ei:i=n
   · rw [if_pos ei] at hid;exact hid.elim
   rw [if_neg ei] at hid
   have:=I.ob i id ((isIn_or.1 hi).resolve_right (fun e => ei (isIn_unit.1 e))) hid
   have:=hkp.2.1
   show id<hh.length
   omega
 · intro i ai hi hai hl
   obtain ⟨h2,h3,h4⟩:=unl i hi hl
   have q6:=(late i ai h2 hai h4).1
   refine opL_of (st:=F) (fun s hs => ?_) q6
   exact slot s fun e => hm1 i n ai _ dM h2 hn.nN hn.nu hai hmm hmd (e ▸ (by simp [AI.sls,hs]))
def nthO {α:Type}:List α→Nat→Option α
 | [],_ => none
 | x::_,0 => some x
 | _::r,n+1 => nthO r n
theorem nthO_eq {α:Type}:∀ (l:List α) (n:Nat),nthO l n=l[n]?
 | [],n => by simp [nthO]
 | x::r,0 => rfl
 | x::r,n+1 => by simpa [nthO] using nthO_eq r n
noncomputable def runZ (ext:Ext) (al:List AI) (os:List Oper) (kT:St→Tr):List Bool→List (List Bool × Nat)→List Bool→St→Tr
 | _,[],m,st => regT (pureX ext) (selL m al) st kT
 | v,(m,n)::r,mE,st => regT (pureX ext) (selL m al) st fun st1 => match nthO al n with
   | some mm => chk (mm.op.isApp && (nog mm.guard && (isS mm.dst && lateZ st1 (appId st1 mm.op) (selL (latB (orB v m) (chB os n n)) al)))) (opT ext st1 (fun x h' => runZ ext al os kT (orB (orB v m) (unitB n)) r mE ⟨putT st1.t mm.dst x,h'⟩) mm.op)
   | none => .fail
def StagesOK (ops:Array Oper) (al:List AI) (N:Nat):List Bool→List (List Bool × Nat)→List Bool→Prop
 | v,[],m => StageOK ops al N v m∧∀ i,i<N→isIn (orB v m) i
 | v,(m,n)::r,mE => StageOK ops al N v m∧NextOK ops al N (orB v m) n∧StagesOK ops al N (orB (orB v m) (unitB n)) r mE
theorem runZ_any (hext:SoundExt P G ext) (hok:RegZ ops al N) (hal:cOpers P ops ops.toList=some al) {kT:St→Tr} {K:X→St→Prop} {Q:Exit→Act→World→Prop}
  (hT:∀ st' a w β R,(kT st').holds P G K→Sim G β R st' a w→Gr β0 R0 w0 β R w→wpList P ops Q (ops.toList.drop N) a w) :
  ∀ (r:List (List Bool × Nat)) (v mE:List Bool) (st:St) (own:Nat→Nat→Prop) (listed:Array Bool) (a:Act) (w:World) (β:Bt) (R:Nat→Prop),StagesOK ops al N v r mE→(runZ ext al ops.toList kT v r mE st).holds P G K→IZ P G ops al N ext v st own β0 R0 w0 listed a w β R→(∀ i ai,isIn v i→al[i]? = some ai→listed.getD i false=false→lateB st ai.op=true)→wpAny P .any ops Q (cnt listed N+(ops.size - N)) listed a w
 | [],v,mE,st,own,listed,a,w,β,R,hS,h,I,hl => by
   obtain ⟨hst,hall⟩:=hS
   obtain ⟨S,h0,hk0,hstep⟩:=regT_run hext (selL mE al) st (fun ai hai => by
    obtain ⟨q,hq⟩:=List.mem_iff_getElem?.1 hai
    obtain ⟨j,h1,h2,_⟩:=selL_from hq
    exact hst.hd j ai h1 h2) h
   have hr:Run P G ext (selL mE al) (selL mE al).length S:=⟨Nat.le_refl _,fun i ai _ ha => hstep i ai ha⟩
   obtain ⟨own',I'⟩:=stage_run hok hst h0 rfl hr I hl
   exact endZ hext hok hal hall (fun j hj => by rcases isIn_or.1 hj with h | h;exact hst.vlt j h;exact hst.mlt j h) (fun a w β R s1 s2 => hT _ a w β R hk0 s1 s2) _ listed a w β R rfl I'
 | (m,n)::r,v,mE,st,own,listed,a,w,β,R,hS,h,I,hl => by
   obtain ⟨hst,hn,hS⟩:=hS
   obtain ⟨S,h0,hk0,hstep⟩:=regT_run hext (selL m al) st (fun ai hai => by
    obtain ⟨q,hq⟩:=List.mem_iff_getElem?.1 hai
    obtain ⟨j,h1,h2,_⟩:=selL_from hq
    exact hst.hd j ai h1 h2) h
   have hr:Run P G ext (selL m al) (selL m al).length S:=⟨Nat.le_refl _,fun i ai _ ha => hstep i ai ha⟩
   obtain ⟨own',I'⟩:=stage_run hok hst h0 rfl hr I hl
   have hul:∀ j,isIn (orB v m) j→j<N:=fun j hj => by rcases isIn_or.1 hj with h | h;exact hst.vlt j h;exact hst.mlt j h
   rw [nthO_eq] at hk0
   split at hk0
   case h_2 => exact hk0.elim
   rename_i mm hmm
   obtain ⟨c1,hk⟩:=chk_true hk0
   simp only [Bool.and_eq_true] at c1
   obtain ⟨c1,c2,c3,c4⟩:=c1
   have hmg:mm.guard=none:=by
    cases hg:mm.guard with
    | none => rfl
    | some _ => rw [hg] at c2;cases c2
   obtain ⟨dM,hmd⟩:∃ d,mm.dst=some d:=by
    cases hg:mm.dst with
    | some d => exact ⟨d,rfl⟩
    | none => rw [hg] at c3;cases c3
   refine loopZ hext hok hal hn hul ?_ _ listed a w β R rfl I'
   intro listed a w β R o ho hrdy I2 hch hrd
   rw [hmm] at hrd
   refine anchorZ hext hok hal hn hul hmm c1 hmg hmd (fun i j x y d hi hj hnj => hst.m1 i j x y d (isIn_or.1 hi) hj (fun e => hnj (isIn_or.2 e))) c4 (kk:=fun st' => runZ ext al ops.toList kT (orB (orB v m) (unitB n)) r mE st') hk ho hrdy I2 hch hrd ?_
   intro st' own'' a' w' β' R' hk' I3 hl3
   have hns:n<ops.size:=(Array.getElem?_eq_some_iff.1 ho).1
   obtain ⟨q1,_⟩:=mem_ready.1 hrdy
   have hc:=cnt_set (listed:=listed) (i:=n) (by rw [I2.inv.size];exact hns) (getD_both q1) hn.nN
   rw [show cnt listed N - 1=cnt (listed.setIfInBounds n true) N by omega]
   exact runZ_any hext hok hal hT r _ mE st' own'' _ a' w' β' R' hS hk' I3 hl3
theorem regz_sound (hext:SoundExt P G ext) {id:Nat} (hm:P.follows .mixedOrders=true) (hal:cOpers P ops ops.toList=some al) (hok:RegZ ops al N) {r:List (List Bool × Nat)} {m:List Bool} (hS:StagesOK ops al N [] r m) {st:St} {kT:St→Tr} {K:X→St→Prop}
  (h:(runZ ext al ops.toList kT [] r m st).holds P G K) {Q:Exit→Act→World→Prop} {a:Act} {w:World} (hs:Sim G β R st a w)
  (hT:∀ st' a' w' β' R',(kT st').holds P G K→Sim G β' R' st' a' w'→Gr β R w β' R' w'→wpList P ops Q (ops.toList.drop N) a' w'):(Code.region id ops true).wp P Q a w:=by
 refine wp_region_any hm ?_
 obtain ⟨hs',hg⟩:=hs.drawn (w.drawn+1)
 have no:∀ i,¬ isIn [] i:=fun i h => by cases i <;> cases h
 have key:=runZ_any (β0:=β) (R0:=R) (w0:=w) (Q:=Q) hext hok hal hT r [] m st (fun _ _ => False) (Array.replicate ops.size false) a { w with drawn:=w.drawn+1 } β R hS h ⟨⟨by simp,fun j oj _ hl => (by rw [getD_replicate_false] at hl;cases hl),fun t _ ht => getD_in (by simpa using ht) (getD_replicate_false _ _)⟩,fun i _ _ => getD_replicate_false _ _,⟨hg,hs'.hs,hs.df,by have:=hs'.tm.length;simpa using this.symm,fun s u hu _ => ?_,fun i hi => absurd hi (no i)⟩,fun i ai hi => absurd hi (no i),fun i j id hi => absurd hi (no i),fun i id hi => absurd hi (no i)⟩ (fun i ai hi => absurd hi (no i))
 · rwa [cnt_all hok.le,show N+(ops.size - N)=ops.size by have:=hok.le;omega] at key
 · have hv:=ev_sound (x:=.tmp s) hs' rfl
   have e:a.eval (.tmp s)=u:=by show a.tmps.getD s undef=u;simp [hu]
   rw [e] at hv
   exact hv
theorem ExA.regz {ext:Ext} (hext:SoundExt P G ext) {rid:Nat} (hm:P.follows .mixedOrders=true) (hal:cOpers P ops ops.toList=some al) (hok:RegZ ops al N) {r:List (List Bool × Nat)} {m:List Bool} (hS:StagesOK ops al N [] r m) {st:St} {K1:X→St→Prop}
  (hh:(runZ ext al ops.toList (fun s => regT ext (al.drop N) s fun s' => .done .normal s') [] r m st).holds P G K1):ExA P G (.raw (.region rid ops true)) st K1:=by
 refine ExA.raw fun β R a w hs => ?_
 refine regz_sound hext hm hal hok hS hh hs ?_
 intro st' a' w' β' R' hk hs' hg
 exact regT_sound hext (ops.toList.drop N) (al.drop N) st' a' w' β' R' (cOpers_drop N hal) hk hs' (fun a2 w2 β2 R2 st2 q1 q2 q3 => ⟨β2,R2,st2,q1,q2,(hg.trans q3).toFr,(hg.trans q3).rm⟩)
def allN:Nat→(Nat→Bool)→Bool
 | 0,_ => true
 | n+1,f => f n && allN n f
theorem allN_at {f:Nat→Bool}:∀ {n:Nat},allN n f=true→∀ i,i<n→f i=true
 | n+1,h,i,hi => by
   simp only [allN,Bool.and_eq_true] at h
   by_cases e:i=n
   · subst e;exact h.1
   · exact allN_at h.2 i (by omega)
def memD (d:Option Nat) (l:List Nat):Bool:=match d with
 | some a => l.any fun b => Nat.beq a b
 | none => false
theorem memD_iff {d:Nat} {l:List Nat}:memD (some d) l=true↔d∈l:=by
 unfold memD
 rw [List.any_eq_true]
 exact ⟨fun ⟨x,h1,h2⟩ => by rw [Nat.eq_of_beq_eq_true h2];exact h1,fun h => ⟨d,h,Nat.beq_refl d⟩⟩
def sameD:Option Nat→Option Nat→Bool
 | some a,some b => Nat.beq a b
 | _,_ => false
def dstO (al:List AI) (i:Nat):Option Nat:=match nthO al i with
 | some x => x.dst
 | none => none
def slsO (al:List AI) (i:Nat):List Nat:=match nthO al i with
 | some x => x.sls
 | none => []
theorem dstO_eq {al:List AI} {i:Nat} {x:AI} (h:al[i]? = some x):dstO al i=x.dst:=by unfold dstO;rw [nthO_eq,h]
theorem slsO_eq {al:List AI} {i:Nat} {x:AI} (h:al[i]? = some x):slsO al i=x.sls:=by unfold slsO;rw [nthO_eq,h]
def afterOK (os:List Oper) (i:Nat):Bool:=match nthO os i with
 | some o => o.after.toList.all fun e => !Region.binds .any e || Nat.blt e.on i
 | none => true
def regZB (ops:Array Oper) (al:List AI) (N:Nat):Bool :=
 allN ops.size (afterOK ops.toList) && (allN N (fun i => allN N fun j => Nat.beq i j || !sameD (dstO al i) (dstO al j)) && (allN N (fun i => allN N fun j => !memD (dstO al j) (slsO al i) || Region.waitsFor .any ops i j) &&
 (allN N (fun i => Nat.ble ops.size N || Region.waitsFor .any ops N i) && (allN ops.size (fun t => Nat.ble t N || Region.waitsFor .any ops t (t - 1)) && (Nat.beq (lenL al) ops.size && Nat.ble N ops.size)))))
theorem regZ_of (h:regZB ops al N=true):RegZ ops al N:=by
 unfold regZB at h
 simp only [Bool.and_eq_true] at h
 obtain ⟨h1,h2,h3,h4,h5,h6,h7⟩:=h
 refine ⟨fun i o ho e he hb => ?_,fun i j x y d hx hy hi hj hij hd hd' => ?_,fun i j x y d hx hy hi hj hd hs => ?_,fun i hi hN => ?_,fun t ht hts => ?_,by rw [← lenL_eq];exact Nat.eq_of_beq_eq_true h6,Nat.le_of_ble_eq_true h7⟩
 · have:=allN_at h1 i (Array.getElem?_eq_some_iff.1 ho).1
   unfold afterOK at this
   rw [nthO_eq,show ops.toList[i]? = some o by simpa using ho] at this
   have:=List.all_eq_true.1 this e (by simpa using he)
   rw [hb] at this
   simpa using this
 · have:=allN_at (allN_at h2 i hi) j hj
   rw [dstO_eq hx,dstO_eq hy,hd,hd'] at this
   have e1:Nat.beq i j=false:=by
    cases hq:Nat.beq i j with
    | false => rfl
    | true => exact absurd (Nat.eq_of_beq_eq_true hq) hij
   rw [e1] at this
   simp [sameD] at this
 · have:=allN_at (allN_at h3 i hi) j hj
   rw [slsO_eq hx,dstO_eq hy,hd,memD_iff.2 hs] at this
   simpa using this
 · have:=allN_at h4 i hi
   rw [show Nat.ble ops.size N=false by
    cases hq:Nat.ble ops.size N with
    | false => rfl
    | true => have:=Nat.le_of_ble_eq_true hq;omega] at this
   exact ⟨N,hi,Nat.le_refl _,by simpa using this⟩
 · have:=allN_at h5 t hts
   rw [show Nat.ble t N=false by
    cases hq:Nat.ble t N with
    | false => rfl
    | true => have:=Nat.le_of_ble_eq_true hq;omega] at this
   simpa using this
def hdO (al:List AI) (i:Nat):Bool:=match nthO al i with
 | some x => x.op.hd
 | none => true
def stageB (al:List AI) (N:Nat) (v m:List Bool):Bool :=
 Nat.ble (lenL v) N && (Nat.ble (lenL m) N && (allN N (fun i => !(nth false m i && nth false v i)) && (allN N (fun i => !nth false m i || hdO al i) &&
 (allN N (fun i => allN N fun j => !(nth false (orB v m) i) || (nth false (orB v m) j || !memD (dstO al j) (slsO al i))) && allN N (fun i => allN N fun j => !(nth false v i) || (nth false v j || !memD (dstO al j) (slsO al i)))))))
theorem isIn_lt {m:List Bool} {i:Nat} (h:isIn m i):i<lenL m:=by rw [lenL_eq];exact nth_lt h
theorem stage_of {v m:List Bool} (h:stageB al N v m=true):StageOK ops al N v m:=by
 unfold stageB at h
 simp only [Bool.and_eq_true] at h
 obtain ⟨h1,h2,h3,h4,h5,h6⟩:=h
 have h1:=Nat.le_of_ble_eq_true h1
 have h2:=Nat.le_of_ble_eq_true h2
 have hm:∀ i,isIn m i→i<N:=fun i hi => by have:=isIn_lt hi;omega
 have hv:∀ i,isIn v i→i<N:=fun i hi => by have:=isIn_lt hi;omega
 have key:∀ {u:List Bool},(∀ i,isIn u i→i<N)→allN N (fun i => allN N fun j => !(nth false u i) || (nth false u j || !memD (dstO al j) (slsO al i)))=true→∀ i j x y d,isIn u i→j<N→¬ isIn u j→al[i]? = some x→al[j]? = some y→y.dst=some d→d ∉ x.sls:=by
  intro u hu hq i j x y d hi hj hnj hx hy hd hmem
  have:=allN_at (allN_at hq i (hu i hi)) j hj
  rw [show nth false u i=true from hi,show nth false u j=false by simpa [isIn] using hnj,slsO_eq hx,dstO_eq hy,hd,memD_iff.2 hmem] at this
  simp at this
 refine ⟨hm,hv,fun i hi hvi => ?_,fun i ai hi hai => ?_,fun i j x y d hi hj hnj => key (fun i hi => by rcases isIn_or.1 hi with h | h;exact hv i h;exact hm i h) h5 i j x y d (isIn_or.2 hi) hj (fun e => hnj (isIn_or.1 e)),key hv h6⟩
 · have:=allN_at h3 i (hm i hi)
   rw [show nth false m i=true from hi,show nth false v i=true from hvi] at this
   simp at this
 · have:=allN_at h4 i (hm i hi)
   rw [show nth false m i=true from hi] at this
   unfold hdO at this
   rw [nthO_eq,hai] at this
   simpa using this
def nextB (ops:Array Oper) (N:Nat) (u:List Bool) (n:Nat):Bool :=
 Nat.blt n N && (!(nth false u n) && allN N (fun i => nth false u i || (Nat.beq i n || !allN i (fun j => nth false u j || !Region.waitsFor .any ops i j))))
theorem allN_not {f:Nat→Bool}:∀ {n:Nat},allN n f=false→∃ i,i<n∧f i=false
 | 0,h => by cases h
 | n+1,h => by
   simp only [allN,Bool.and_eq_false_iff] at h
   rcases h with h | h
   · exact ⟨n,by omega,h⟩
   · obtain ⟨i,h1,h2⟩:=allN_not h
     exact ⟨i,by omega,h2⟩
theorem next_of {u:List Bool} {n:Nat} (h:nextB ops N u n=true):NextOK ops al N u n:=by
 unfold nextB at h
 simp only [Bool.and_eq_true] at h
 obtain ⟨h1,h2,h3⟩:=h
 refine ⟨by simpa using h1,fun e => (by rw [show nth false u n=true from e] at h2;cases h2),fun i hi hu hne => ?_⟩
 have:=allN_at h3 i hi
 have e1:Nat.beq i n=false:=by
  cases hq:Nat.beq i n with
  | false => rfl
  | true => exact absurd (Nat.eq_of_beq_eq_true hq) hne
 rw [show nth false u i=false by simpa [isIn] using hu,e1] at this
 simp only [Bool.false_or,Bool.not_eq_true'] at this
 obtain ⟨j,h4,h5⟩:=allN_not this
 simp only [Bool.or_eq_false_iff,Bool.not_eq_false'] at h5
 exact ⟨j,h4,fun e => (by rw [show nth false u j=true from e] at h5;cases h5.1),h5.2⟩
def stagesB (ops:Array Oper) (al:List AI) (N:Nat):List Bool→List (List Bool × Nat)→List Bool→Bool
 | v,[],m => stageB al N v m && allN N (nth false (orB v m))
 | v,(m,n)::r,mE => stageB al N v m && (nextB ops N (orB v m) n && stagesB ops al N (orB (orB v m) (unitB n)) r mE)
theorem stages_of:∀ {r:List (List Bool × Nat)} {v mE:List Bool},stagesB ops al N v r mE=true→StagesOK ops al N v r mE
 | [],v,mE,h => by
   simp only [stagesB,Bool.and_eq_true] at h
   exact ⟨stage_of h.1,fun i hi => allN_at h.2 i hi⟩
 | (m,n)::r,v,mE,h => by
   simp only [stagesB,Bool.and_eq_true] at h
   exact ⟨stage_of h.1,next_of h.2.1,stages_of h.2.2⟩
end
end Go.AE
namespace Go.AE
set_option linter.unusedVariables false
set_option linter.unusedSimpArgs false
open Go.Proofs Go.Proofs.Ytfjihbmehhccoaa Gp Go.RowKit
noncomputable def opsAd:Array Oper:=rawOps (nth .skip (pcs Try.prog Try.f54) 2)
noncomputable def alAd:List AI:=match cOpers Try.prog opsAd opsAd.toList with
 | some al => al
 | none => []
noncomputable def opsSt:Array Oper:=rawOps (nth .skip (flat (inr (nth .skip (lpB (pcs Try.prog Try.f52) 3) 2))) 5)
noncomputable def alSt:List AI:=match cOpers Try.prog opsSt opsSt.toList with
 | some al => al
 | none => []
theorem tAd1 (M:List Pg) (p:Pg):exTs ext0 (takeL 2 (pcs Try.prog Try.f54)) (st0 Try.f54 [.a [.p (listP encPg 7 M)],.a [.p (.i .i64 p.kd),.p (.s p.ru),.p (.i .i64 p.ve),.p (listP enc2 2 p.L),.p (.i .i64 p.st),.p (.i .i64 p.se),.p (.s p.to)]]) (endG (msk 15 [2,3,4,5]) (resOf Try.prog Try.f54))=Tr.done X.normal
 (cst 15 [(2,.c (.ptr 0 0)),(3,.c (.ptr 1 0)),(4,.c (.ptr 2 0)),(5,.c (.p (.z (Value.slice none 0 0))))] [.cells 27 [.p (.l 7 M.length (rowP encPg M))],.cells 31 [.p (.i .i64 p.kd),.p (.s p.ru),.p (.i .i64 p.ve),.p (.l 2 p.L.length (rowP enc2 p.L)),.p (.i .i64 p.st),.p (.i .i64 p.se),.p (.s p.to)],.cells 27 [.p (.z (Value.slice none 0 0))]]):=by kernel_rfl
theorem tAd2 (M:List Pg) (p:Pg):runZ ext0 alAd opsAd.toList (fun s => regT ext0 (alAd.drop 7) s fun s' => .done .normal s') [] [([true,true,true,false,true,true],3),([],6)] [] (cst 15 [(2,.c (.ptr 0 0)),(3,.c (.ptr 1 0)),(4,.c (.ptr 2 0)),(5,.c (.p (.z (.slice none 0 0))))] [.cells 27 [.p (listP encPg 7 M)],.cells 31 [.p (.i .i64 p.kd),.p (.s p.ru),.p (.i .i64 p.ve),.p (listP enc2 2 p.L),.p (.i .i64 p.st),.p (.i .i64 p.se),.p (.s p.to)],.cells 27 [.p (.z (.slice none 0 0))]])=Tr.rq ((0+M.length) * 88≤140737488355328∧0+M.length≤140737488355328∧∀ (e o:Nat),e<M.length→o<7→oneC (C.p (rowP encPg M e o))=true)
  (Tr.rq (0+M.length=0+M.length)
   (Tr.rq (1≤1)
    (Tr.rq
     ((0+M.length+1) * 88≤140737488355328 ∧
       0+M.length+1≤140737488355328 ∧
         ∀ (e o:Nat),
           e<1 →
             o<7 →
               oneC
                 (bslF
                  [C.p (PV.i IntKind.i64 p.kd),C.p (PV.s p.ru),C.p (PV.i IntKind.i64 p.ve),C.p (PV.l 2 p.L.length (rowP enc2 p.L)),C.p (PV.i IntKind.i64 p.st),C.p (PV.i IntKind.i64 p.se),
                   C.p (PV.s p.to)]
                  7 1 (e+0) o) =
                true)
     (Tr.done X.normal
      (cst 15 [(2,V.c (C.ptr 0 0)),(3,V.c (C.ptr 1 0)),(4,V.c (C.ptr 2 0)),(5,V.c (C.sl 5 7 0 (0+M.length+1))),(6,V.c (C.p (PV.z (Value.slice none 0 0)))),(7,V.c (C.ptr 0 0)),(8,V.c (C.p (PV.l 7 M.length (rowP encPg M)))),(9,V.c (C.sl 4 7 0 (0+M.length))),(10,V.a [C.p (PV.i IntKind.i64 p.kd),C.p (PV.s p.ru),C.p (PV.i IntKind.i64 p.ve),C.p (PV.l 2 p.L.length (rowP enc2 p.L)),C.p (PV.i IntKind.i64 p.st),C.p (PV.i IntKind.i64 p.se),C.p (PV.s p.to)]),(11,V.c (C.sl 3 7 0 1)),(12,V.c (C.sl 5 7 0 (0+M.length+1)))] [AO.cells 27 [C.p (PV.l 7 M.length (rowP encPg M))],AO.cells 31 [C.p (PV.i IntKind.i64 p.kd),C.p (PV.s p.ru),C.p (PV.i IntKind.i64 p.ve),C.p (PV.l 2 p.L.length (rowP enc2 p.L)),C.p (PV.i IntKind.i64 p.st),C.p (PV.i IntKind.i64 p.se),C.p (PV.s p.to)],AO.cells 27 [C.p (PV.z (Value.slice none 0 0))],AO.row 31 7 1 fun e o => nth C.top [C.p (PV.i IntKind.i64 p.kd),C.p (PV.s p.ru),C.p (PV.i IntKind.i64 p.ve),C.p (PV.l 2 p.L.length (rowP enc2 p.L)),C.p (PV.i IntKind.i64 p.st),C.p (PV.i IntKind.i64 p.se),C.p (PV.s p.to)] (e * 7+o),AO.gone,AO.row 31 7 (0+M.length+1) (appF (0+M.length) (appF 0 (fun x x_1 => C.top) fun e o => C.p (rowP encPg M e o)) fun e o => nth C.top [C.p (PV.i IntKind.i64 p.kd),C.p (PV.s p.ru),C.p (PV.i IntKind.i64 p.ve),C.p (PV.l 2 p.L.length (rowP enc2 p.L)),C.p (PV.i IntKind.i64 p.st),C.p (PV.i IntKind.i64 p.se),C.p (PV.s p.to)] ((e+0) * 7+o))]))))):=by kernel_rfl
theorem tSt2 (A out:List Int) (k i j:Nat):runZ ext0 alSt opsSt.toList (fun s => regT ext0 (alSt.drop 15) s fun s' => .done .normal s') [] [([true,true,true,true,false,true,true,true,true,true,false,true,true,true,false],4),([],10),([],14)] [] (cst 62 [(0,listV encI 1 A),(3,.c (.sl 0 1 0 k)),(4,iV (i:Nat)),(5,iV (j:Nat)),(6,.c (.p (.z (.slice none 0 0))))] [.row 3 1 k (rowC encI out)])=Tr.rq (0≤(↑0:Int)∧(↑0:Int)≤(↑j:Int)∧(↑j:Int)≤(↑k:Int))
  (Tr.rq (0≤(↑i:Int)∧(↑i:Int)<(↑A.length:Int))
   (Tr.rq (0≤(↑j:Int)∧(↑j:Int)≤(↑k:Int)∧(↑k:Int)≤(↑k:Int))
    (Tr.rq (0+((↑j:Int).toNat - 0)≤k)
     (Tr.rq
      ((0+((↑j:Int).toNat - 0)) * 8≤140737488355328∧0+((↑j:Int).toNat - 0)≤140737488355328∧∀ (e o:Nat),e<(↑j:Int).toNat - 0→o<1→oneC (rowC encI out (e+0) o)=true)
      (Tr.rq (0+((↑j:Int).toNat - 0)=0+((↑j:Int).toNat - 0))
       (Tr.rq (1≤1)
        (Tr.rq
         ((0+((↑j:Int).toNat - 0)+1) * 8≤140737488355328 ∧
           0+((↑j:Int).toNat - 0)+1≤140737488355328∧∀ (e o:Nat),e<1→o<1→oneC (bslF [C.p (PV.i IntKind.i64 (A.getD (↑i:Int).toNat default))] 1 1 (e+0) o)=true)
         (Tr.rq (0+((↑j:Int).toNat - 0)+1=0+((↑j:Int).toNat - 0)+1)
          (Tr.rq (0+(↑j:Int).toNat+((↑k:Int).toNat - (↑j:Int).toNat)≤k)
           (Tr.rq
            ((0+((↑j:Int).toNat - 0)+1+((↑k:Int).toNat - (↑j:Int).toNat)) * 8≤140737488355328 ∧
              0+((↑j:Int).toNat - 0)+1+((↑k:Int).toNat - (↑j:Int).toNat)≤140737488355328 ∧
                ∀ (e o:Nat),e<(↑k:Int).toNat - (↑j:Int).toNat→o<1→oneC (rowC encI out (e+(0+(↑j:Int).toNat)) o)=true)
            (Tr.done X.normal
             (cst 62 [(0,V.c (C.p (PV.l 1 A.length (rowP encI A)))),(3,V.c (C.sl 0 1 0 k)),(4,V.c (C.p (PV.i IntKind.i64 (↑i:Int)))),(5,V.c (C.p (PV.i IntKind.i64 (↑j:Int)))),(6,V.c (C.sl 4 1 0 (0+((↑j:Int).toNat - (↑0:Int).toNat)+1+((↑k:Int).toNat - (↑j:Int).toNat)))),(45,V.c (C.p (PV.z (Value.slice none 0 0)))),(46,V.c (C.sl 0 1 0 k)),(47,V.c (C.p (PV.i IntKind.i64 (↑j:Int)))),(48,V.c (C.sl 0 1 0 ((↑j:Int).toNat - (↑0:Int).toNat))),(49,V.c (C.sl 2 1 0 (0+((↑j:Int).toNat - (↑0:Int).toNat)))),(50,V.c (C.p (PV.l 1 A.length (rowP encI A)))),(51,V.c (C.p (PV.i IntKind.i64 (↑i:Int)))),(52,V.c (C.lp 1 A.length (rowP encI A) (↑i:Int).toNat 0)),(53,V.c (C.p (PV.i IntKind.i64 (A.getD (↑i:Int).toNat default)))),(54,V.c (C.sl 1 1 0 1)),(55,V.c (C.sl 3 1 0 (0+((↑j:Int).toNat - (↑0:Int).toNat)+1))),(56,V.c (C.sl 0 1 0 k)),(57,V.c (C.p (PV.i IntKind.i64 (↑j:Int)))),(58,V.c (C.sl 0 1 (0+(↑j:Int).toNat) ((↑k:Int).toNat - (↑j:Int).toNat))),(59,V.c (C.sl 4 1 0 (0+((↑j:Int).toNat - (↑0:Int).toNat)+1+((↑k:Int).toNat - (↑j:Int).toNat))))] [AO.row 3 1 k (rowC encI out),AO.row 3 1 1 fun e o => nth C.top [C.p (PV.i IntKind.i64 (A.getD (↑i:Int).toNat default))] (e * 1+o),AO.gone,AO.gone,AO.row 3 1 (0+((↑j:Int).toNat - (↑0:Int).toNat)+1+((↑k:Int).toNat - (↑j:Int).toNat)) (appF (0+((↑j:Int).toNat - 0)+1) (appF (0+((↑j:Int).toNat - 0)) (appF 0 (fun x x_1 => C.top) fun e o => rowC encI out (e+0) o) fun e o => nth C.top [C.p (PV.i IntKind.i64 (A.getD (↑i:Int).toNat default))] ((e+0) * 1+o)) fun e o => rowC encI out (e+(0+(↑j:Int).toNat)) o)])))))))))))):=by kernel_rfl
theorem tAd3 (M:List Pg) (n:Nat):exTs ext0 (dropL 3 (pcs Try.prog Try.f54)) (cst 15 [(4,.c (.ptr 0 0)),(5,.c (.sl 1 7 0 n))] [.cells 27 [.p (.z (.slice none 0 0))],.row 31 7 n (rowC encPg M)]) (endG [] (resOf Try.prog Try.f54))=Tr.rq (0+n≤n∧∀ (e o:Nat),e<n→o<7→isF (rowC encPg M (e+0) o)=true) (.done .ret (St.mk [V.a [C.p (PV.l 7 n fun e o => unP (rowC encPg M (e+0) o))]] [])):=by kernel_rfl
theorem tS1 (A:List Int):exTs ext0 (takeL 3 (pcs Try.prog Try.f52)) (st0 Try.f52 [listV encI 1 A]) (endG (msk 62 [0,3,4]) (resOf Try.prog Try.f52))=Tr.done X.normal
 (cst 62 [(0,.c (.p (.l 1 A.length (rowP encI A)))),(3,.c (.p (.z (Value.slice none 0 0)))),(4,.c (.p (.i .i64 0)))] []):=by kernel_rfl
theorem tS2 (A out:List Int) (k i:Nat):exTs ext0 (takeL 2 (lpB (pcs Try.prog Try.f52) 3)) (cst 62 [(0,listV encI 1 A),(3,.c (.sl 0 1 0 k)),(4,iV (i:Nat))] [.row 3 1 k (rowC encI out)]) (endG (msk 62 [0,3,4]) (resOf Try.prog Try.f52))=bT (decide ((↑i:Int)<(↑A.length:Int)))
 (.done .normal
 (cst 62 [(0,.c (.p (.l 1 A.length (rowP encI A)))),(3,.c (.sl 0 1 0 k)),(4,.c (.p (.i .i64 (↑i:Int))))] [.row 3 1 k fun e o => renC [0] (rowC encI out e o)]))
 (.done (.exit 0)
 (cst 62 [(0,.c (.p (.l 1 A.length (rowP encI A)))),(3,.c (.sl 0 1 0 k)),(4,.c (.p (.i .i64 (↑i:Int))))] [.row 3 1 k fun e o => renC [0] (rowC encI out e o)])):=by kernel_rfl
theorem tS3 (A out:List Int) (k i:Nat):exTs ext0 (takeL 1 (flat (inr (nth .skip (lpB (pcs Try.prog Try.f52) 3) 2)))) (cst 62 [(0,listV encI 1 A),(3,.c (.sl 0 1 0 k)),(4,iV (i:Nat))] [.row 3 1 k (rowC encI out)]) (endG (msk 62 [0,3,4,5]) (resOf Try.prog Try.f52))=Tr.done X.normal
 (cst 62 [(0,.c (.p (.l 1 A.length (rowP encI A)))),(3,.c (.sl 0 1 0 k)),(4,.c (.p (.i .i64 (↑i:Int)))),(5,.c (.p (.i .i64 (↑k:Int))))] [.row 3 1 k fun e o => renC [0] (rowC encI out e o)]):=by kernel_rfl
theorem tS4 (A out:List Int) (k i j:Nat):exTs ext0 (lpB (flat (inr (nth .skip (lpB (pcs Try.prog Try.f52) 3) 2))) 1) (cst 62 [(0,listV encI 1 A),(3,.c (.sl 0 1 0 k)),(4,iV (i:Nat)),(5,iV (j:Nat))] [.row 3 1 k (rowC encI out)]) (endG (msk 62 [0,3,4,5]) (resOf Try.prog Try.f52))=bT (decide (0<(↑j:Int)))
 (.rq (inR IntKind.i64 ((↑j:Int) - 1))
 (.rq (0≤(↑j:Int) - 1∧(↑j:Int) - 1<(↑k:Int))
 (.rq (((↑j:Int) - 1).toNat+0<k)
 (.rq (0≤(↑i:Int)∧(↑i:Int)<(↑A.length:Int))
 (bT (decide (A.getD (↑i:Int).toNat default<out.getD (((↑j:Int) - 1).toNat+0) default))
 (.rq (inR IntKind.i64 ((↑j:Int) - 1))
 (.done .normal
 (cst 62 [(0,.c (.p (.l 1 A.length (rowP encI A)))),(3,.c (.sl 0 1 0 k)),(4,.c (.p (.i .i64 (↑i:Int)))),(5,.c (.p (.i .i64 ((↑j:Int) - 1))))] [.row 3 1 k fun e o => renC [0] (rowC encI out e o)])))
 (.done (.exit 2)
 (cst 62 [(0,.c (.p (.l 1 A.length (rowP encI A)))),(3,.c (.sl 0 1 0 k)),(4,.c (.p (.i .i64 (↑i:Int)))),(5,.c (.p (.i .i64 (↑j:Int))))] [.row 3 1 k fun e o => renC [0] (rowC encI out e o)])))))))
 (.done (.exit 2)
 (cst 62 [(0,.c (.p (.l 1 A.length (rowP encI A)))),(3,.c (.sl 0 1 0 k)),(4,.c (.p (.i .i64 (↑i:Int)))),(5,.c (.p (.i .i64 (↑j:Int))))] [.row 3 1 k fun e o => renC [0] (rowC encI out e o)])):=by kernel_rfl
theorem tS5 (A out:List Int) (k i j:Nat):exTs ext0 (takeL 3 (dropL 2 (flat (inr (nth .skip (lpB (pcs Try.prog Try.f52) 3) 2))))) (cst 62 [(0,listV encI 1 A),(3,.c (.sl 0 1 0 k)),(4,iV (i:Nat)),(5,iV (j:Nat))] [.row 3 1 k (rowC encI out)]) (endG (msk 62 [0,3,4,5,6]) (resOf Try.prog Try.f52))=bT (decide (0<(↑j:Int)))
 (.rq (inR IntKind.i64 ((↑j:Int) - 1))
 (.rq (0≤(↑j:Int) - 1∧(↑j:Int) - 1<(↑k:Int))
 (.rq (((↑j:Int) - 1).toNat+0<k)
 (.rq (0≤(↑i:Int)∧(↑i:Int)<(↑A.length:Int))
 (bT (out.getD (((↑j:Int) - 1).toNat+0) default == A.getD (↑i:Int).toNat default)
 (.done (.exit 1)
 (cst 62 [(0,.c (.p (.l 1 A.length (rowP encI A)))),(3,.c (.sl 0 1 0 k)),(4,.c (.p (.i .i64 (↑i:Int)))),(5,.c (.p (.i .i64 (↑j:Int))))] [.row 3 1 k fun e o => renC [0] (rowC encI out e o)]))
 (.done .normal
 (cst 62 [(0,.c (.p (.l 1 A.length (rowP encI A)))),(3,.c (.sl 0 1 0 k)),(4,.c (.p (.i .i64 (↑i:Int)))),(5,.c (.p (.i .i64 (↑j:Int)))),(6,.c (.p (.z (Value.slice none 0 0))))] [.row 3 1 k fun e o => renC [0] (rowC encI out e o)])))))))
 (.done .normal
 (cst 62 [(0,.c (.p (.l 1 A.length (rowP encI A)))),(3,.c (.sl 0 1 0 k)),(4,.c (.p (.i .i64 (↑i:Int)))),(5,.c (.p (.i .i64 (↑j:Int)))),(6,.c (.p (.z (Value.slice none 0 0))))] [.row 3 1 k fun e o => renC [0] (rowC encI out e o)])):=by kernel_rfl
theorem tS6 (A out:List Int) (k i:Nat):exTs ext0 (dropL 6 (flat (inr (nth .skip (lpB (pcs Try.prog Try.f52) 3) 2)))) (cst 62 [(0,listV encI 1 A),(4,iV (i:Nat)),(6,.c (.sl 0 1 0 k))] [.row 3 1 k (rowC encI out)]) (endG (msk 62 [0,3,4]) (resOf Try.prog Try.f52))=Tr.done X.normal
 (cst 62 [(0,.c (.p (.l 1 A.length (rowP encI A)))),(3,.c (.sl 0 1 0 k)),(4,.c (.p (.i .i64 (↑i:Int))))] [.row 3 1 k fun e o => renC [0] (rowC encI out e o)]):=by kernel_rfl
theorem tS7 (A out:List Int) (k i:Nat):exTs ext0 (dropL 3 (lpB (pcs Try.prog Try.f52) 3)) (cst 62 [(0,listV encI 1 A),(3,.c (.sl 0 1 0 k)),(4,iV (i:Nat))] [.row 3 1 k (rowC encI out)]) (endG (msk 62 [0,3,4]) (resOf Try.prog Try.f52))=Tr.rq (inR IntKind.i64 ((↑i:Int)+1))
 (.done .normal
 (cst 62 [(0,.c (.p (.l 1 A.length (rowP encI A)))),(3,.c (.sl 0 1 0 k)),(4,.c (.p (.i .i64 ((↑i:Int)+1))))] [.row 3 1 k fun e o => renC [0] (rowC encI out e o)])):=by kernel_rfl
theorem tS8 (A out:List Int) (k i:Nat):exTs ext0 (dropL 4 (pcs Try.prog Try.f52)) (cst 62 [(0,listV encI 1 A),(3,.c (.sl 0 1 0 k)),(4,iV (i:Nat))] [.row 3 1 k (rowC encI out)]) (endG [] (resOf Try.prog Try.f52))=Tr.rq (0+k≤k∧∀ (e o:Nat),e<k→o<1→isF (rowC encI out (e+0) o)=true) (.done .ret (St.mk [V.c (C.p (PV.l 1 k fun e o => unP (rowC encI out (e+0) o)))] [])):=by kernel_rfl
end Go.AE
namespace Go.AE
set_option linter.unusedVariables false
set_option linter.unusedSimpArgs false
open Go.Proofs Go.Proofs.Ytfjihbmehhccoaa Gp Go.RowKit
def leL:V→List Pg→Option Prop
 | .a [c],M => leP (.c c) M
 | _,_ => none
theorem leL_le {x:V} {M:List Pg} {p:Prop} (h:leL x M=some p) (hp:p):VLe x (.a [.p (listP encPg 7 M)]):=by
 unfold leL at h
 split at h
 · rename_i c
   have:=leP_le h hp
   rintro β R w u ⟨us,rfl,hu⟩
   refine ⟨us,rfl,?_⟩
   match hus:us.toList,hu with
   | [y],⟨h1,_⟩ => exact ⟨this β R w y h1,trivial⟩
 · cases h
def ledV (M:List Pg):V:=.a [.p (listP encPg 7 M)]
def mAddX (M:List Pg):Mod
 | [x,y] => match leL x M,pgOf y with
   | some p,some (q,a) => some ((p∧q)∧M.length≤1000000,ledV (M ++ [a]))
   | _,_ => none
 | _ => none
def setL (L:List Int):List Int:=compI (sortI L)
def mSet:Mod
 | [x] => match liOf x with
   | some (p,A) => some (p∧A.length≤1000000,listV encI 1 (setL A))
   | none => none
 | _ => none
theorem set_in {out:List Int} {x:Int} {j:Nat} (hs:out.Pairwise (· < ·)) (hj:j≤out.length) (h1:∀ m,j≤m→m<out.length→x<out.getD m default) (h2:j=0∨out.getD (j - 1) default<x):(out.take j ++ ([x] ++ out.drop j)).Pairwise (· < ·):=by
 have hd:∀ y∈out.drop j,x<y:=fun y hy => by
  obtain ⟨m,hm,rfl⟩:=List.getElem_of_mem hy
  rw [List.getElem_drop]
  have hm':j+m<out.length:=by rw [List.length_drop] at hm;omega
  have:=h1 (j+m) (by omega) hm'
  simpa [hm'] using this
 have ht:∀ y∈out.take j,y<x:=fun y hy => by
  obtain ⟨m,hm,rfl⟩:=List.getElem_of_mem hy
  rw [List.length_take] at hm
  rw [List.getElem_take]
  rcases h2 with h2 | h2
  · omega
  · have hj1:j - 1<out.length:=by omega
    have e:out.getD (j - 1) default=out[j - 1]:=by simp [hj1]
    rw [e] at h2
    by_cases e2:m=j - 1
    · subst e2;exact h2
    · have:=(List.pairwise_iff_getElem.1 hs) m (j - 1) (by omega) hj1 (by omega)
      omega
 refine List.pairwise_append.2 ⟨hs.sublist (List.take_sublist _ _),?_,fun a ha b hb => ?_⟩
 · show (x::out.drop j).Pairwise (· < ·)
   exact List.pairwise_cons.2 ⟨hd,hs.sublist (List.drop_sublist _ _)⟩
 · have q1:=ht a ha
   rcases List.mem_append.1 hb with h | h
   · rw [List.mem_singleton.1 h];exact q1
   · have:=hd b h;omega
theorem ins_row {out:List Int} {x:Int} {j k:Nat} (hk:out.length=k) (hj:j≤k) {e o:Nat} (he:e<j+1+(k - j)) (ho:o<1) :
  appF (0+(j - 0)+1) (appF (0+(j - 0)) (appF 0 (fun _ _ => C.top) fun e o => rowC encI out (e+0) o) fun e o => nth C.top [C.p (PV.i IntKind.i64 x)] ((e+0) * 1+o)) (fun e o => rowC encI out (e+(0+j)) o) e o=rowC encI (out.take j ++ ([x] ++ out.drop j)) e o:=by
 obtain rfl:o=0:=by omega
 have rc:∀ (L:List Int) (e o:Nat),rowC encI L e o=.p (.i .i64 (L.getD e default)):=fun _ _ _ => rfl
 unfold appF
 rw [rc]
 have ht:(out.take j).length=j:=by rw [List.length_take];omega
 by_cases h1:e<j
 · rw [if_pos (by omega),if_pos (by omega),if_neg (by omega)]
   dsimp only
   rw [rc]
   congr 2
   rw [List.getD_eq_getElem?_getD,List.getD_eq_getElem?_getD,List.getElem?_append_left (by omega),List.getElem?_take,if_pos h1]
   rfl
 · by_cases h2:e=j
   · subst h2
     rw [if_pos (by omega),if_neg (by omega)]
     dsimp only
     have:(e - (0+(e - 0))+0) * 1+0=0:=by omega
     rw [this]
     show C.p _=C.p _
     congr 2
     rw [List.getD_eq_getElem?_getD,List.getElem?_append_right (by omega),ht,Nat.sub_self]
     rfl
   · rw [if_neg (by omega)]
     dsimp only
     rw [rc]
     congr 2
     rw [List.getD_eq_getElem?_getD,List.getD_eq_getElem?_getD,List.getElem?_append_right (by omega),ht,List.getElem?_append_right (by simp;omega),List.getElem?_drop]
     congr 2
     simp
     omega
section
variable {G:Nat→Option Obj}
theorem ExS.raw {P:Program} {rs:List AR} {v:V} {ext:Ext} (hext:SoundExt P G ext) {rid:Nat} {ops:Array Oper} {al:List AI} {N:Nat} (hm:P.follows .mixedOrders=true) (hal:cOpers P ops ops.toList=some al) (hok:regZB ops al N=true) {r:List (List Bool × Nat)} {m:List Bool} (hS:stagesB ops al N [] r m=true) {l r':List ACode} {st:St} {Q:X→St→Prop} (hl:l=.raw (.region rid ops true)::r') {tree:Tr}
  (ht:runZ ext al ops.toList (fun s => regT ext (al.drop N) s fun s' => .done .normal s') [] r m st=tree) (h:tree.holds P G fun e s => e=.normal∧ExS P G rs v r' s Q):ExS P G rs v l st Q:=by
 subst hl;subst ht
 refine ExA.mono (ExA.regz hext hm hal (regZ_of hok) (stages_of hS) h) ?_
 rintro e s ⟨rfl,h⟩
 exact h
set_option maxRecDepth 100000 in
theorem okAddX (M:List Pg):ModOK Try.prog G 54 (mAddX M):=by
 intro args p v hm hp h
 unfold mAddX at hm
 split at hm;rotate_left;· cases hm
 split at hm;rotate_left;· cases hm
 rename_i x y _ _ p1 p2 a hx hy
 obtain ⟨rfl,rfl⟩:=some_pair hm
 obtain ⟨⟨hA,hB⟩,hlen⟩:=hp
 refine FnS.args (args':=[ledV M,pgV a]) ?_ (.cons (leL_le hx hA) (.cons (pgOf_le hy hB) .nil))
 clear hm hx hy hA hB
 refine fn_S Try.func54 (by kernel_rfl) rfl ?_ h
 refine ExS.evG ext0_sound 2 (tAd1 M a) ?_
 simp only [holds_bT,holds_rq,holds_leaf,kf_normal]
 refine ⟨?_⟩
 refine ExS.raw (ext:=ext0) (N:=7) (al:=alAd) (ops:=opsAd) (rid:=2) (r':=dropL 3 (pcs Try.prog Try.f54)) ext0_sound (by kernel_rfl) (by kernel_rfl) (by kernel_rfl) (by kernel_rfl) (by kernel_rfl) (tAd2 M a) ?_
 simp only [holds_bT,holds_rq,holds_leaf]
 have one:∀ (e o:Nat),e<M.length→o<7→oneC (C.p (rowP encPg M e o))=true:=fun e o he ho => by
  have:o=0∨o=1∨o=2∨o=3∨o=4∨o=5∨o=6:=by omega
  rcases this with rfl | rfl | rfl | rfl | rfl | rfl | rfl <;> rfl
 have one2:∀ (e o:Nat),e<1→o<7→oneC (bslF [C.p (.i .i64 a.kd),C.p (.s a.ru),C.p (.i .i64 a.ve),C.p (.l 2 a.L.length (rowP enc2 a.L)),C.p (.i .i64 a.st),C.p (.i .i64 a.se),C.p (.s a.to)] 7 1 (e+0) o)=true:=fun e o he ho => by
  obtain rfl:e=0:=by omega
  have:o=0∨o=1∨o=2∨o=3∨o=4∨o=5∨o=6:=by omega
  rcases this with rfl | rfl | rfl | rfl | rfl | rfl | rfl <;> rfl
 refine ⟨⟨by omega,by omega,one⟩,trivial,Nat.le_refl _,⟨by omega,by omega,one2⟩,⟨trivial,?_⟩⟩
 refine ExS.pre (weak_gc (msk 15 [4,5]) _) (ExS.pre (st2:=cst 15 [(4,.c (.ptr 0 0)),(5,.c (.sl 1 7 0 (M.length+1)))] [.cells 27 [.p (.z (.slice none 0 0))],.row 31 7 (M.length+1) (rowC encPg (M ++ [a]))]) ?_ ?_)
 · refine (weak_of_eq (st':=cst 15 [(4,.c (.ptr 0 0)),(5,.c (.sl 1 7 0 (0+M.length+1)))] [.cells 27 [.p (.z (.slice none 0 0))],.row 31 7 (0+M.length+1) fun e o => renC [2,5] (appF (0+M.length) (appF 0 (fun _ _ => C.top) fun e o => C.p (rowP encPg M e o)) (fun e o => nth C.top [C.p (.i .i64 a.kd),C.p (.s a.ru),C.p (.i .i64 a.ve),C.p (listP enc2 2 a.L),C.p (.i .i64 a.st),C.p (.i .i64 a.se),C.p (.s a.to)] ((e+0) * 7+o)) e o)]) (by kernel_rfl)).trans ?_
   rw [show 0+M.length+1=M.length+1 by omega]
   refine weak_cst ⟨rfl,⟨rfl,rfl,rfl,fun e o he ho => ?_⟩,trivial⟩
   have:=app1' (enc:=encPg) (ρ:=[2,5]) (L:=M) (n:=M.length) (sz:=7) (x:=a) (g:=fun e o => nth C.top [C.p (.i .i64 a.kd),C.p (.s a.ru),C.p (.i .i64 a.ve),C.p (listP enc2 2 a.L),C.p (.i .i64 a.st),C.p (.i .i64 a.se),C.p (.s a.to)] ((e+0) * 7+o)) rfl (pg_at a.kd a.ve a.st a.se a.ru a.to a.L) he ho
   rw [← this]
   rw [show 0+M.length=M.length by omega]
   congr 1
 · have hl:(M ++ [a]).length=M.length+1:=by simp
   rw [← hl]
   refine ExS.evH ext0_sound (tAd3 (M ++ [a]) (M ++ [a]).length) ?_
   simp only [holds_rq,holds_leaf,kf_ret']
   exact ⟨⟨by omega,fun _ _ _ _ => rfl⟩,⟨VLe.refl _⟩⟩
set_option maxRecDepth 100000 in
theorem okSet:ModOK Try.prog G 52 mSet:=by
 intro args p v hm hp h
 unfold mSet at hm
 split at hm;rotate_left;· cases hm
 split at hm;rotate_left;· cases hm
 rename_i x _ q A hx
 obtain ⟨rfl,rfl⟩:=some_pair hm
 obtain ⟨hA,hlen⟩:=hp
 refine FnS.args (args':=[listV encI 1 A]) ?_ (.cons (liOf_le hx hA) .nil)
 clear hA hm hx
 refine fn_S Try.func52 (by kernel_rfl) rfl ?_ h
 refine ExS.evG ext0_sound 3 (tS1 A) ?_
 simp only [holds_bT,holds_leaf,kf_ret',kf_normal]
 refine ⟨?_⟩
 have sl:∀ i,(setL (A.take i)).length≤i:=fun i => by
  have h1:=compI_length (sortI (A.take i))
  rw [sortI_length,List.length_take] at h1
  unfold setL;omega
 refine ExS.loop' (l:=dropL 3 (pcs Try.prog Try.f52)) (b:=inr (inr (nth .skip (pcs Try.prog Try.f52) 3))) (r:=dropL 4 (pcs Try.prog Try.f52)) (id:=0) (by kernel_rfl) (σ:=Nat)
   (fun i => (fun out k => cst 62 [(0,listV encI 1 A),(3,.c (.sl 0 1 0 k)),(4,iV (i:Nat))] [.row 3 1 k (rowC encI out)]) (setL (A.take i)) (setL (A.take i)).length) (fun i => i≤A.length) (fun i => A.length - i) 0 (Nat.zero_le _) ((weak_nil 3 1 (rowC encI []) 3 (by kernel_rfl)).trans ?_) ?_
 · have e:setL (A.take 0)=[]:=List.eq_nil_of_length_eq_zero (by have:=sl 0;omega)
   rw [e]
   exact weak_of_eq (by kernel_rfl)
 intro i hi Q1 q1n q1e _
 obtain ⟨out,hout⟩:∃ out,out=setL (A.take i):=⟨_,rfl⟩
 have hol:=sl i
 rw [← hout] at hol ⊢
 have hlt:=all_lt (A.take i)
 have hmem:=all_mem (A.take i)
 change (setL (A.take i)).Pairwise _ at hlt
 change ∀ t,t∈setL (A.take i)↔_ at hmem
 rw [← hout] at hlt hmem
 refine ExS.evG ext0_sound 2 (tS2 A out out.length i) ?_
 simp only [holds_bT,holds_leaf,kf_normal,kf_exit,decide_eq_true_eq,decide_eq_false_iff_not]
 refine ⟨fun h1 => ⟨?_⟩,fun h1 => ⟨q1e _ ?_⟩⟩
 · have hlA:i<A.length:=by omega
   have hts:=takeD hlA
   have fin:∀ st out' k',out'=setL (A.take (i+1))→k'=out'.length→WeakS G st ((fun out k => cst 62 [(0,listV encI 1 A),(3,.c (.sl 0 1 0 k)),(4,iV (i:Nat))] [.row 3 1 k (rowC encI out)]) out' k')→ExS Try.prog G (resOf Try.prog Try.f52) (listV encI 1 (setL A)) (dropL 3 (lpB (pcs Try.prog Try.f52) 3)) st Q1:=fun st out' k' ho hk hw => by
    subst hk
    refine ExS.pre hw (ExS.evH ext0_sound (tS7 A out' out'.length i) ?_)
    simp only [holds_rq,holds_leaf,kf_normal,inR]
    refine ⟨by omega,⟨q1n (i+1) _ (by omega) (by omega) ?_⟩⟩
    subst ho
    exact weak_of_eq (by kernel_rfl)
   refine ExS.blk' (l:=dropL 2 (lpB (pcs Try.prog Try.f52) 3)) (id:=1) (a:=inr (nth .skip (lpB (pcs Try.prog Try.f52) 3) 2)) (r:=dropL 3 (lpB (pcs Try.prog Try.f52) 3)) (by kernel_rfl) ?_
   intro Q2 q2n q2e _
   refine ExS.evG ext0_sound 1 (tS3 A out out.length i) ?_
   simp only [holds_leaf,kf_normal]
   refine ⟨?_⟩
   obtain ⟨x,hx⟩:∃ x,x=A.getD i default:=⟨_,rfl⟩
   refine ExS.loop' (l:=dropL 1 (flat (inr (nth .skip (lpB (pcs Try.prog Try.f52) 3) 2)))) (b:=inr (inr (nth .skip (flat (inr (nth .skip (lpB (pcs Try.prog Try.f52) 3) 2))) 1))) (r:=dropL 2 (flat (inr (nth .skip (lpB (pcs Try.prog Try.f52) 3) 2)))) (id:=2) (by kernel_rfl) (σ:=Nat)
     (fun j => (fun k => cst 62 [(0,listV encI 1 A),(3,.c (.sl 0 1 0 k)),(4,iV (i:Nat)),(5,iV (j:Nat))] [.row 3 1 k (rowC encI out)]) out.length) (fun j => j≤out.length∧∀ m,j≤m→m<out.length→x<out.getD m default) (fun j => j) out.length ⟨Nat.le_refl _,fun m h1 h2 => by omega⟩ (weak_of_eq (by kernel_rfl)) ?_
   rintro j ⟨hj,hgt⟩ Q3 q3n q3e -
   have after:(j=0∨¬ x<out.getD (j - 1) default)→∀ st,WeakS G st ((fun k => cst 62 [(0,listV encI 1 A),(3,.c (.sl 0 1 0 k)),(4,iV (i:Nat)),(5,iV (j:Nat))] [.row 3 1 k (rowC encI out)]) out.length)→ExS Try.prog G (resOf Try.prog Try.f52) (listV encI 1 (setL A)) (dropL 2 (flat (inr (nth .skip (lpB (pcs Try.prog Try.f52) 3) 2)))) st Q2:=by
    intro hq st hw
    refine ExS.pre hw (ExS.evG ext0_sound 3 (tS5 A out out.length i j) ?_)
    simp only [holds_bT,holds_rq,holds_leaf,kf_normal,kf_exit,decide_eq_true_eq,decide_eq_false_iff_not,beq_iff_eq,beq_eq_false_iff_ne,ne_eq,inR,show (↑i:Int).toNat=i from rfl,Nat.add_zero]
    have ej:((j:Int) - 1).toNat=j - 1:=by omega
    rw [ej,← hx]
    have raw:(j=0∨out.getD (j - 1) default<x)→∀ st,WeakS G st ((fun k => cst 62 [(0,listV encI 1 A),(3,.c (.sl 0 1 0 k)),(4,iV (i:Nat)),(5,iV (j:Nat)),(6,.c (.p (.z (.slice none 0 0))))] [.row 3 1 k (rowC encI out)]) out.length)→ExS Try.prog G (resOf Try.prog Try.f52) (listV encI 1 (setL A)) (dropL 3 (dropL 2 (flat (inr (nth .skip (lpB (pcs Try.prog Try.f52) 3) 2))))) st Q2:=by
     intro hq2 st hw
     refine ExS.pre hw (ExS.raw (ext:=ext0) (N:=15) (al:=alSt) (ops:=opsSt) (rid:=10) (r':=dropL 6 (flat (inr (nth .skip (lpB (pcs Try.prog Try.f52) 3) 2)))) ext0_sound (by kernel_rfl) (by kernel_rfl) (by kernel_rfl) (by kernel_rfl) (by kernel_rfl) (tSt2 A out out.length i j) ?_)
     simp only [holds_bT,holds_rq,holds_leaf]
     have e1:(j:Int).toNat=j:=rfl
     have e2:(out.length:Int).toNat=out.length:=rfl
     rw [e1,e2]
     refine ⟨⟨by decide,by omega,by omega⟩,⟨by omega,by omega⟩,⟨by omega,by omega,by omega⟩,by omega,⟨by omega,by omega,fun _ _ _ _ => rfl⟩,trivial,Nat.le_refl _,⟨by omega,by omega,fun e o he ho => ?_⟩,trivial,by omega,⟨by omega,by omega,fun _ _ _ _ => rfl⟩,⟨trivial,?_⟩⟩
     · obtain rfl:e=0:=by omega
       obtain rfl:o=0:=by omega
       rfl
     have hnew:out.take j ++ ([x] ++ out.drop j)=setL (A.take (i+1)):=by
      refine eq_of_lt (set_in hlt hj hgt hq2) (all_lt _) fun t => ?_
      show _↔t∈compI (sortI (A.take (i+1)))
      rw [all_mem,hts,List.mem_append,List.mem_append (s:=A.take i),← hmem,← hx,← List.take_append_drop j out,List.mem_append,List.mem_append]
      simp only [List.take_append_drop]
      constructor
      · rintro (h | h | h)
        · exact .inl (.inl h)
        · exact .inr h
        · exact .inl (.inr h)
      · rintro ((h | h) | h)
        · exact .inl h
        · exact .inr (.inr h)
        · exact .inr (.inl h)
     have hnl:(out.take j ++ ([x] ++ out.drop j)).length=j+1+(out.length - j):=by simp;omega
     refine ExS.pre (weak_gc (msk 62 [0,4,6]) _) (ExS.pre (st2:=(fun out k => cst 62 [(0,listV encI 1 A),(4,iV (i:Nat)),(6,.c (.sl 0 1 0 k))] [.row 3 1 k (rowC encI out)]) (out.take j ++ ([x] ++ out.drop j)) (j+1+(out.length - j))) ?_ ?_)
     · refine (weak_of_eq (st':=cst 62 [(0,listV encI 1 A),(4,iV (i:Nat)),(6,.c (.sl 0 1 0 (0+(j - 0)+1+(out.length - j))))] [.row 3 1 (0+(j - 0)+1+(out.length - j)) fun e o => renC [4] (appF (0+(j - 0)+1) (appF (0+(j - 0)) (appF 0 (fun _ _ => C.top) fun e o => rowC encI out (e+0) o) fun e o => nth C.top [C.p (PV.i IntKind.i64 (A.getD i default))] ((e+0) * 1+o)) (fun e o => rowC encI out (e+(0+j)) o) e o)]) (by kernel_rfl)).trans ?_
       rw [show 0+(j - 0)+1+(out.length - j)=j+1+(out.length - j) by omega,← hx]
       refine weak_cst ⟨⟨rfl,rfl,rfl,fun e o he ho => ?_⟩,trivial⟩
       exact (congrArg (renC [4]) (ins_row rfl hj he ho)).trans rfl
     · refine ExS.evH ext0_sound (tS6 A _ _ i) ?_
       simp only [holds_leaf,kf_normal]
       exact ⟨q2n _ (fin _ _ _ hnew hnl.symm (weak_of_eq (by kernel_rfl)))⟩
    refine ⟨fun h2 => ⟨by omega,by omega,by omega,by omega,fun h3 => ⟨q2e _ (fin _ out _ ?_ rfl ?_)⟩,fun h3 => ⟨raw ?_ _ (weak_of_eq (by kernel_rfl))⟩⟩,fun h2 => ⟨raw (.inl (by omega)) _ (weak_of_eq (by kernel_rfl))⟩⟩
    · refine eq_of_lt hlt (all_lt _) fun t => ?_
      show _↔t∈compI (sortI (A.take (i+1)))
      rw [all_mem,hts,List.mem_append,hmem,← hx]
      have hxo:x∈A.take i:=by
       rw [← hmem,← h3]
       exact getD_memI (by omega)
      constructor
      · exact fun h => .inl h
      · rintro (h | h)
        · exact h
        · rw [List.mem_singleton.1 h];exact hxo
    · exact (weak_gc (msk 62 [0,3,4]) _).trans (weak_of_eq (by kernel_rfl))
    · rcases hq with h | h
      · exact .inl h
      · right;omega
   refine ExS.evH ext0_sound (tS4 A out out.length i j) ?_
   simp only [holds_bT,holds_rq,holds_leaf,kf_normal,kf_exit,decide_eq_true_eq,decide_eq_false_iff_not,inR,show (↑i:Int).toNat=i from rfl,Nat.add_zero]
   have ej:((j:Int) - 1).toNat=j - 1:=by omega
   rw [ej,← hx]
   refine ⟨fun h2 => ⟨by omega,by omega,by omega,by omega,fun h3 => ⟨by omega,⟨q3n (j - 1) _ ⟨by omega,fun m hm1 hm2 => ?_⟩ (by omega) ?_⟩⟩,fun h3 => ⟨q3e _ (after (.inr h3) _ (weak_of_eq (by kernel_rfl)))⟩⟩,fun h2 => ⟨q3e _ (after (.inl (by omega)) _ (weak_of_eq (by kernel_rfl)))⟩⟩
   · by_cases e:m=j - 1
     · subst e;exact h3
     · exact hgt m (by omega) hm2
   · have e:(j:Int) - 1=((j - 1:Nat):Int):=by omega
     rw [e]
     exact weak_of_eq (by kernel_rfl)
 · obtain rfl:i=A.length:=by omega
   rw [List.take_length] at hout
   refine ExS.evH ext0_sound (tS8 A out out.length A.length) ?_
   simp only [holds_rq,holds_leaf,kf_ret']
   refine ⟨⟨by omega,fun _ _ _ _ => rfl⟩,⟨?_⟩⟩
   rw [← hout]
   exact VLe.refl _
end
end Go.AE
namespace Go.Proofs.Ytfjihbmehhccoaa
theorem beq_bytes (a b:ByteArray):(a.toList == b.toList)=true↔a=b:=by
 rw [beq_iff_eq,ByteArray.toList_eq,ByteArray.toList_eq]
 exact ⟨fun h => ByteArray.ext (Array.toList_inj.mp h),fun h => by rw [h]⟩
theorem beq_bytes' (a b:ByteArray):(a.toList == b.toList)=decide (a=b):=by
 rw [Bool.eq_iff_iff,beq_bytes,decide_eq_true_iff]
theorem less_trans:∀ {a b c:List UInt8},Op.bytesLess a b=true→Op.bytesLess b c=true→Op.bytesLess a c=true
 | _,[],_,h,_ => by cases ‹List UInt8› <;> simp [Op.bytesLess] at h
 | _,_::_,[],_,h => by simp [Op.bytesLess] at h
 | [],_::_,_::_,_,_ => by simp [Op.bytesLess]
 | x::a,y::b,z::c,h,k => by
   have hx:=UInt8.lt_iff_toNat_lt (a:=x) (b:=y)
   have hy:=UInt8.lt_iff_toNat_lt (a:=y) (b:=z)
   have hz:=UInt8.lt_iff_toNat_lt (a:=x) (b:=z)
   simp only [Op.bytesLess,Bool.or_eq_true,decide_eq_true_eq,Bool.and_eq_true,beq_iff_eq] at h k ⊢
   rcases h with h | ⟨rfl,h⟩
   · rcases k with k | ⟨rfl,k⟩
     · exact .inl (hz.2 (Nat.lt_trans (hx.1 h) (hy.1 k)))
     · exact .inl h
   · rcases k with k | ⟨rfl,k⟩
     · exact .inl k
     · exact .inr ⟨rfl,less_trans h k⟩
theorem less_total:∀ {a b:List UInt8},Op.bytesLess a b=false→a≠b→Op.bytesLess b a=true
 | [],[],_,h => absurd rfl h
 | [],_::_,h,_ => by simp [Op.bytesLess] at h
 | _::_,[],_,_ => by simp [Op.bytesLess]
 | x::a,y::b,h,hn => by
   have hx:=UInt8.lt_iff_toNat_lt (a:=x) (b:=y)
   have hy:=UInt8.lt_iff_toNat_lt (a:=y) (b:=x)
   simp only [Op.bytesLess,Bool.or_eq_false_iff,decide_eq_false_iff_not,Bool.and_eq_false_iff,beq_eq_false_iff_ne,Bool.or_eq_true,decide_eq_true_eq,Bool.and_eq_true,beq_iff_eq] at h ⊢
   obtain ⟨h1,h2⟩:=h
   by_cases he:x=y
   · subst he
     rcases h2 with h2 | h2
     · exact absurd rfl h2
     · exact .inr ⟨rfl,less_total h2 fun e => hn (by rw [e])⟩
   · refine .inl (hy.2 ?_)
     have h3:x.toNat≠y.toNat:=fun e => he (UInt8.toNat_inj.1 e)
     have h4:¬ x.toNat<y.toNat:=fun e => h1 (hx.2 e)
     omega
theorem slt_trans {a b c:ByteArray} (h:slt a b=true) (k:slt b c=true):slt a c=true:=less_trans h k
theorem slt_total {a b:ByteArray} (h:slt a b=false) (hn:a≠b):slt b a=true:=less_total h fun e => hn (by
 have:=(beq_bytes a b).1 (by rw [beq_iff_eq];exact e)
 exact this)
def insK (out:List Lb) (x:Lb):Nat:=(out.takeWhile fun y => slt y.1 x.1).length
def newL:List Lb→List Lb→List Lb × Int
 | [],out => (out,0)
 | x::r,out =>
   if nameB x.1=false then ([],8)
   else if x.2.toList.isEmpty=true∨valueB x.2=false then ([],1)
   else if (out[insK out x]?).any (fun y => decide (y.1=x.1))=true then ([],10)
   else newL r (out.take (insK out x) ++ x::out.drop (insK out x))
def newLs (L:List Lb):List Lb × Int:=if 8<L.length then ([],4) else newL L []
def refValid (L:List Lb):Bool:=decide ((newLs L).2=0) && decide ((newLs L).1=L)
def Srt (l:List Lb):Prop:=l.Pairwise fun a b => slt a.1 b.1=true
theorem insK_split (out:List Lb) (x:Lb):out.take (insK out x)=out.takeWhile (fun y => slt y.1 x.1)∧out.drop (insK out x)=out.dropWhile (fun y => slt y.1 x.1):=by
 have h:=List.takeWhile_append_dropWhile (p:=fun y:Lb => slt y.1 x.1) (l:=out)
 unfold insK
 constructor
 · have h2:=List.take_left (l₁:=out.takeWhile fun y => slt y.1 x.1) (l₂:=out.dropWhile fun y => slt y.1 x.1)
   rwa [h] at h2
 · have h2:=List.drop_left (l₁:=out.takeWhile fun y => slt y.1 x.1) (l₂:=out.dropWhile fun y => slt y.1 x.1)
   rwa [h] at h2
theorem takeWhile_all {p:Lb→Bool}:∀ {l:List Lb},(∀ y∈l,p y=true)→l.takeWhile p=l
 | [],_ => rfl
 | x::l,h => by
   rw [List.takeWhile_cons,if_pos (h x (List.mem_cons_self ..)),takeWhile_all fun y hy => h y (List.mem_cons_of_mem _ hy)]
theorem srt_ins {out:List Lb} {x:Lb} (h:Srt out) (hx:(out[insK out x]?).any (fun y => decide (y.1=x.1))≠true):Srt (out.take (insK out x) ++ x::out.drop (insK out x)):=by
 have hs:=h
 rw [← List.take_append_drop (insK out x) out] at hs
 unfold Srt at hs ⊢
 rw [List.pairwise_append] at hs ⊢
 obtain ⟨h1,h2,h3⟩:=hs
 have hA:∀ a∈out.take (insK out x),slt a.1 x.1=true:=by
  rw [(insK_split out x).1]
  intro a ha
  exact List.all_eq_true.1 List.all_takeWhile a ha
 have hB:∀ b∈out.drop (insK out x),slt x.1 b.1=true:=by
  cases hd:out.drop (insK out x) with
  | nil => intro b hb;cases hb
  | cons b r =>
    have hb0:out[insK out x]? = some b:=by
     have:=congrArg (·[0]?) hd
     simpa using this
    have hne:b.1≠x.1:=by
     rw [hb0] at hx
     simpa using hx
    have hlt:slt b.1 x.1=false:=by
     have h5:=(insK_split out x).2
     rw [hd] at h5
     have:=List.head?_dropWhile_not (fun y:Lb => slt y.1 x.1) out
     rw [← h5] at this
     simpa using this
    have hb:=slt_total hlt hne
    rw [hd] at h2
    intro y hy
    rcases List.mem_cons.1 hy with rfl | hy
    · exact hb
    · exact slt_trans hb ((List.pairwise_cons.1 h2).1 y hy)
 refine ⟨h1,List.pairwise_cons.2 ⟨hB,h2⟩,?_⟩
 intro a ha b hb
 rcases List.mem_cons.1 hb with rfl | hb
 · exact hA a ha
 · exact h3 a ha b hb
theorem newL_ok:∀ {xs out s:List Lb},newL xs out=(s,0)→Srt out→Srt s∧∀ x∈xs,nameB x.1=true∧x.2.toList.isEmpty=false∧valueB x.2=true
 | [],out,s,h,hs => by
   simp only [newL,Prod.mk.injEq] at h
   exact ⟨h.1 ▸ hs,fun _ hx => by cases hx⟩
 | x::r,out,s,h,hs => by
   unfold newL at h
   split at h
   · simp at h
   · rename_i h1
     split at h
     · simp at h
     · rename_i h2
       split at h
       · simp at h
       · rename_i h3
         obtain ⟨q1,q2⟩:=newL_ok h (srt_ins hs h3)
         refine ⟨q1,fun y hy => ?_⟩
         rcases List.mem_cons.1 hy with rfl | hy
         · simp only [not_or,Bool.not_eq_true,Bool.not_eq_false] at h1 h2
           exact ⟨h1,h2⟩
         · exact q2 y hy
theorem okl_at {L:List Lb} {i:Nat} (hv:validL (fun k => L.getD k default) L.length=true) (hi:i<L.length):nameB (L.getD i default).1=true∧(L.getD i default).2.toList.isEmpty=false∧valueB (L.getD i default).2=true∧(0<i→slt (L.getD (i - 1) default).1 (L.getD i default).1=true):=by
 unfold validL at hv
 rw [Bool.and_eq_true,oklUp_iff] at hv
 have:=hv.2 i hi
 unfold okl at this
 simp only [Bool.and_eq_true,Bool.or_eq_true,decide_eq_true_eq,Bool.not_eq_true'] at this
 obtain ⟨⟨⟨h1,h2⟩,h3⟩,h4⟩:=this
 refine ⟨h1,h2,h3,fun h0 => ?_⟩
 rcases h4 with h4 | h4
 · omega
 · exact h4
theorem valid_lt {L:List Lb} (hv:validL (fun k => L.getD k default) L.length=true):∀ (i j:Nat),j<i→i<L.length→slt (L.getD j default).1 (L.getD i default).1=true
 | 0,_,h,_ => by omega
 | i+1,j,h,hi => by
   have h1:=(okl_at hv hi).2.2.2 (by omega)
   simp only [Nat.add_sub_cancel] at h1
   by_cases hj:j=i
   · subst hj;exact h1
   · exact slt_trans (valid_lt hv i j (by omega) (by omega)) h1
theorem newL_valid {L:List Lb} (hv:validL (fun k => L.getD k default) L.length=true):∀ (m i:Nat),i+m=L.length→newL (L.drop i) (L.take i)=(L,0)
 | 0,i,h => by
   rw [List.drop_of_length_le (by omega),List.take_of_length_le (by omega)]
   rfl
 | m+1,i,h => by
   have hi:i<L.length:=by omega
   rw [List.drop_eq_getElem_cons hi]
   obtain ⟨h1,h2,h3,_⟩:=okl_at hv hi
   have hx:L.getD i default=L[i]:=by simp [hi]
   rw [hx] at h1 h2 h3
   have hall:∀ y∈L.take i,slt y.1 L[i].1=true:=by
    intro y hy
    obtain ⟨j,hj,rfl⟩:=List.getElem_of_mem hy
    have hj':j<i:=by simp at hj;omega
    have:=valid_lt hv i j hj' hi
    rw [hx] at this
    have e:L.getD j default=L[j]'(by omega):=by simp [show j<L.length by omega]
    rw [e] at this
    rw [List.getElem_take]
    exact this
   have hk:insK (L.take i) L[i]=i:=by
    unfold insK
    rw [takeWhile_all hall]
    simp;omega
   have hn:(L.take i)[i]? = none:=by rw [List.getElem?_eq_none];simp;omega
   unfold newL
   rw [if_neg (by simp [h1]),if_neg (by simp [h2,h3]),hk,hn,if_neg (by simp)]
   have e:(L.take i).take i ++ L[i]::(L.take i).drop i=L.take (i+1):=by
    rw [List.take_take,Nat.min_self,List.drop_of_length_le (by simp;omega),List.take_add_one]
    simp [hi]
   rw [e]
   exact newL_valid hv m (i+1) (by omega)
theorem refValid_eq (L:List Lb):refValid L=validL (fun k => L.getD k default) L.length:=by
 rw [Bool.eq_iff_iff]
 unfold refValid
 rw [Bool.and_eq_true,decide_eq_true_iff,decide_eq_true_iff]
 constructor
 · rintro ⟨h1,h2⟩
   unfold newLs at h1 h2
   split at h1
   · cases h1
   · rename_i h8
     rw [if_neg h8] at h2
     have h3:newL L []=(L,0):=Prod.ext h2 h1
     obtain ⟨q1,q2⟩:=newL_ok h3 List.Pairwise.nil
     unfold validL
     rw [Bool.and_eq_true,oklUp_iff,decide_eq_true_iff]
     refine ⟨by omega,fun k hk => ?_⟩
     have e:L.getD k default=L[k]:=by simp [hk]
     obtain ⟨a1,a2,a3⟩:=q2 L[k] (List.getElem_mem hk)
     unfold okl
     simp only [Bool.and_eq_true,Bool.or_eq_true,decide_eq_true_eq,Bool.not_eq_true']
     rw [e]
     refine ⟨⟨⟨a1,a2⟩,a3⟩,?_⟩
     by_cases h0:k=0
     · exact .inl h0
     · refine .inr ?_
       have e':L.getD (k - 1) default=L[k - 1]'(by omega):=by simp [show k - 1<L.length by omega]
       rw [e']
       exact List.pairwise_iff_getElem.1 q1 (k - 1) k (by omega) hk (by omega)
 · intro hv
   have h8:¬ 8<L.length:=by
    unfold validL at hv
    rw [Bool.and_eq_true,decide_eq_true_iff] at hv
    omega
   have:=newL_valid hv L.length 0 (by omega)
   unfold newLs
   rw [if_neg h8]
   simp at this
   rw [this]
   exact ⟨rfl,rfl⟩
end Go.Proofs.Ytfjihbmehhccoaa
namespace Go.AE
set_option linter.unusedVariables false
set_option linter.unusedSimpArgs false
open Go.Proofs Go.Proofs.Ytfjihbmehhccoaa
def mName:Mod
 | [.c (.p (.s s))] => some (True,bV (nameB s))
 | _ => none
def mValue:Mod
 | [.c (.p (.s s))] => some (True,bV (valueB s))
 | _ => none
def extL:Ext:=extOf [(104,mLetter)]
theorem tLetter (n:Int):exT ext0 (codeOf Try.prog Try.f104) (st0 Try.f104 [.c (.p (.i .u8 n))]) (endF [] [] (resOf Try.prog Try.f104))=bT (decide (97≤n)) (.done .ret (St.mk [V.c (C.p (PV.b (decide (n≤122))))] [])) (.done .ret (St.mk [V.c (C.p (PV.b false))] [])):=by kernel_rfl
theorem tName1 (s:ByteArray):exTs ext0 (takeL 4 (pcs Try.prog Try.f79)) (st0 Try.f79 [sV s]) (endF [] (msk 48 [0,3]) (resOf Try.prog Try.f79))=bT (decide ((↑s.size:Int)<1)) (.done .ret (St.mk [V.c (C.p (PV.b false))] []))
 (bT (decide (16<(↑s.size:Int))) (.done .ret (St.mk [V.c (C.p (PV.b false))] []))
 (.done .normal
 (cst 48 [(0,.c (.p (.s s))),(3,.c (.p (.i .i64 0)))] []))):=by kernel_rfl
theorem tName2 (s:ByteArray) (i:Int):exTs extL (lpB (pcs Try.prog Try.f79) 4) (cst 48 [(0,sV s),(3,iV i)] []) (endF [] (msk 48 [0,3]) (resOf Try.prog Try.f79))=bT (decide (i<(↑s.size:Int)))
 (.rq (0≤i∧i<(↑s.size:Int))
 (bT (decide (48≤byteAt s i.toNat))
 (.rq (0≤i∧i<(↑s.size:Int))
 (bT (decide (byteAt s i.toNat≤57))
 (.rq (0≤i∧i<(↑s.size:Int))
 (.rq True
 (bT (!letterB (byteAt s i.toNat))
 (bT (i == 0) (.done .ret (St.mk [V.c (C.p (PV.b false))] []))
 (.rq (inR IntKind.i64 (i+1))
 (.done .normal
 (cst 48 [(0,.c (.p (.s s))),(3,.c (.p (.i .i64 (i+1))))] []))))
 (.rq (inR IntKind.i64 (i+1))
 (.done .normal
 (cst 48 [(0,.c (.p (.s s))),(3,.c (.p (.i .i64 (i+1))))] []))))))
 (.rq (0≤i∧i<(↑s.size:Int))
 (.rq (0≤i∧i<(↑s.size:Int))
 (.rq True
 (bT (!letterB (byteAt s i.toNat))
 (bT (i == 0) (.done .ret (St.mk [V.c (C.p (PV.b false))] []))
 (bT (!byteAt s i.toNat == 95) (.done .ret (St.mk [V.c (C.p (PV.b false))] []))
 (.rq (inR IntKind.i64 (i+1))
 (.done .normal
 (cst 48 [(0,.c (.p (.s s))),(3,.c (.p (.i .i64 (i+1))))] [])))))
 (.rq (inR IntKind.i64 (i+1))
 (.done .normal
 (cst 48 [(0,.c (.p (.s s))),(3,.c (.p (.i .i64 (i+1))))] [])))))))))
 (.rq (0≤i∧i<(↑s.size:Int))
 (.rq (0≤i∧i<(↑s.size:Int))
 (.rq True
 (bT (!letterB (byteAt s i.toNat))
 (bT (i == 0) (.done .ret (St.mk [V.c (C.p (PV.b false))] []))
 (bT (!byteAt s i.toNat == 95) (.done .ret (St.mk [V.c (C.p (PV.b false))] []))
 (.rq (inR IntKind.i64 (i+1))
 (.done .normal
 (cst 48 [(0,.c (.p (.s s))),(3,.c (.p (.i .i64 (i+1))))] [])))))
 (.rq (inR IntKind.i64 (i+1))
 (.done .normal
 (cst 48 [(0,.c (.p (.s s))),(3,.c (.p (.i .i64 (i+1))))] [])))))))))
 (.done (.exit 0)
 (cst 48 [(0,.c (.p (.s s))),(3,.c (.p (.i .i64 i)))] [])):=by kernel_rfl
theorem tName3 (s:ByteArray) (i:Int):exTs ext0 (dropL 5 (pcs Try.prog Try.f79)) (cst 48 [(0,sV s),(3,iV i)] []) (endF [] [] (resOf Try.prog Try.f79))=Tr.done X.ret (St.mk [V.c (C.p (PV.b true))] []):=by kernel_rfl
theorem tValue1 (s:ByteArray):exTs ext0 (takeL 4 (pcs Try.prog Try.f114)) (st0 Try.f114 [sV s]) (endF [] (msk 43 [0,3]) (resOf Try.prog Try.f114))=bT (decide (16<(↑s.size:Int))) (.done .ret (St.mk [V.c (C.p (PV.b false))] []))
 (.done .normal
 (cst 43 [(0,.c (.p (.s s))),(3,.c (.p (.i .i64 0)))] [])):=by kernel_rfl
theorem tValue2 (s:ByteArray) (i:Int):exTs ext0 (lpB (pcs Try.prog Try.f114) 4) (cst 43 [(0,sV s),(3,iV i)] []) (endF [] (msk 43 [0,3]) (resOf Try.prog Try.f114))=bT (decide (i<(↑s.size:Int)))
 (.rq (0≤i∧i<(↑s.size:Int))
 (bT (decide (byteAt s i.toNat<33)) (.done .ret (St.mk [V.c (C.p (PV.b false))] []))
 (bT (decide (126<byteAt s i.toNat)) (.done .ret (St.mk [V.c (C.p (PV.b false))] []))
 (bT (byteAt s i.toNat == 34) (.done .ret (St.mk [V.c (C.p (PV.b false))] []))
 (bT (byteAt s i.toNat == 92) (.done .ret (St.mk [V.c (C.p (PV.b false))] []))
 (bT (byteAt s i.toNat == 44) (.done .ret (St.mk [V.c (C.p (PV.b false))] []))
 (bT (byteAt s i.toNat == 123) (.done .ret (St.mk [V.c (C.p (PV.b false))] []))
 (bT (byteAt s i.toNat == 125) (.done .ret (St.mk [V.c (C.p (PV.b false))] []))
 (.rq (inR IntKind.i64 (i+1))
 (.done .normal
 (cst 43 [(0,.c (.p (.s s))),(3,.c (.p (.i .i64 (i+1))))] [])))))))))))
 (.done (.exit 0)
 (cst 43 [(0,.c (.p (.s s))),(3,.c (.p (.i .i64 i)))] [])):=by kernel_rfl
theorem tValue3 (s:ByteArray) (i:Int):exTs ext0 (dropL 5 (pcs Try.prog Try.f114)) (cst 43 [(0,sV s),(3,iV i)] []) (endF [] [] (resOf Try.prog Try.f114))=Tr.done X.ret (St.mk [V.c (C.p (PV.b true))] []):=by kernel_rfl
theorem byteAt_bt (s:ByteArray) (k:Nat):byteAt s k=PlainAid.bt s k:=by
 unfold byteAt PlainAid.bt
 split
 · rename_i h
   have h':k<s.data.toList.length:=by simpa using h
   rw [List.getD_eq_getElem?_getD,List.getElem?_eq_getElem h']
   simp [ByteArray.getElem_eq_getElem_data]
 · rename_i h
   have h':s.data.toList.length≤k:=by simpa using h
   rw [List.getD_eq_getElem?_getD,List.getElem?_eq_none h']
   rfl
section
variable {G:Nat→Option Obj}
theorem okLetter:ModOK Try.prog G 104 mLetter:=by
 intro args p v hm hp h
 unfold mLetter at hm
 split at hm
 · rename_i n
   injection hm with hm
   injection hm with e1 e2
   subst e1;subst e2
   refine fn_T ext0_sound Try.func104 (by kernel_rfl) rfl (tLetter n) ?_ h
   simp only [holds_bT,holds_rq,holds_done,KF]
   refine ⟨fun h1 => ?_,fun h1 => ?_⟩
   · refine ⟨_,rfl,VLe.of_eq ?_⟩
     unfold letterB;rw [h1];rfl
   · refine ⟨_,rfl,VLe.of_eq ?_⟩
     unfold letterB;rw [h1];rfl
 · cases hm
theorem extL_sound:SoundExt Try.prog G extL:=extOf_sound (by simp;exact okLetter)
theorem okc_iff (k:Nat) (c:Int):okc k c=true↔(97≤c∧c≤122)∨(k≠0∧(c=95∨(48≤c∧c≤57))):=by simp [okc]
theorem okv_iff (c:Int):okv c=true↔33≤c∧c≤126∧c≠34∧c≠92∧c≠44∧c≠123∧c≠125:=by
 simp [okv];omega
theorem letterB_iff (c:Int):letterB c=true↔97≤c∧c≤122:=by simp [letterB]
set_option maxRecDepth 100000 in
theorem okName:ModOK Try.prog G 79 mName:=by
 intro args p v hm hp h
 unfold mName at hm
 split at hm
 · rename_i s
   injection hm with hm
   injection hm with e1 e2
   subst e1;subst e2
   refine fn_S Try.func79 (by kernel_rfl) rfl ?_ h
   refine ExS.ev ext0_sound 4 [] (msk 48 [0,3]) rfl (tName1 s) ?_
   simp only [holds_bT,holds_done,kf_ret',kf_normal]
   refine ⟨fun h1 => VLe.of_eq ?_,fun h1 => ⟨fun h2 => VLe.of_eq ?_,fun h2 => ?_⟩⟩
   · have h1:((s.size:Nat):Int)<1:=by simpa using h1
     have:nameB s=false:=by unfold nameB;rw [decide_eq_false (by omega)];rfl
     rw [this];rfl
   · have h2:(16:Int)<s.size:=by simpa using h2
     have:nameB s=false:=by unfold nameB;rw [decide_eq_false (show ¬ s.size≤16 by omega),Bool.and_false];rfl
     rw [this];rfl
   · have h1:¬ ((s.size:Nat):Int)<1:=by simpa using h1
     have h2:¬ (16:Int)<s.size:=by simpa using h2
     refine ExS.loop (l:=dropL 4 (pcs Try.prog Try.f79)) (b:=inr (inr (nth .skip (pcs Try.prog Try.f79) 4))) (r:=dropL 5 (pcs Try.prog Try.f79)) (id:=0) (by kernel_rfl)
       (fun i:Int => cst 48 [(0,sV s),(3,iV i)] []) (fun i => 0≤i∧i≤s.size∧okUp (PlainAid.bt s) i.toNat=true) (fun i => (s.size - i).toNat) 0 ⟨by omega,by omega,rfl⟩ (weak_of_eq (by kernel_rfl)) ?_
     rintro i ⟨i0,i1,hi⟩
     refine ExS.evA extL_sound [] (msk 48 [0,3]) rfl (tName2 s i) ?_
     have hb:=byteAt_bt s i.toNat
     generalize byteAt s i.toNat=c at hb
     have hsucc:(i+1).toNat=i.toNat+1:=by omega
     have bad:i<s.size→¬ ((97≤c∧c≤122)∨(i.toNat≠0∧(c=95∨(48≤c∧c≤57))))→VLe (V.c (C.p (PV.b false))) (bV (nameB s)):=fun hlt hc => by
      rw [nameB_bad (k:=i.toNat) (by omega) (by rw [← hb,← Bool.not_eq_true,okc_iff];exact hc)];exact VLe.refl _
     have good:i<s.size→((97≤c∧c≤122)∨(i.toNat≠0∧(c=95∨(48≤c∧c≤57))))→∃ s':Int,(0≤s'∧s'≤s.size∧okUp (PlainAid.bt s) s'.toNat=true)∧(s.size - s').toNat<(s.size - i).toNat∧WeakS G (cst 48 [(0,V.c (C.p (PV.s s))),(3,V.c (C.p (PV.i .i64 (i+1))))] []) (cst 48 [(0,sV s),(3,iV s')] []):=fun hlt hc =>
      ⟨i+1,⟨by omega,by omega,by rw [hsucc,okUp_succ,hi,← hb,(okc_iff _ _).2 hc];rfl⟩,by omega,weak_of_eq (by kernel_rfl)⟩
     have after:¬ i<s.size→ExS Try.prog G (resOf Try.prog Try.f79) (bV (nameB s)) (dropL 5 (pcs Try.prog Try.f79)) (cst 48 [(0,V.c (C.p (PV.s s))),(3,V.c (C.p (PV.i .i64 i)))] []) (fun _ _ => False):=fun hlt => by
      refine ExS.evA ext0_sound [] [] rfl (tName3 s i) ?_
      have:nameB s=true:=by
       obtain rfl:i=s.size:=by omega
       unfold nameB
       rw [decide_eq_true (by omega),decide_eq_true (show s.size≤16 by omega)]
       simpa using hi
      simp only [holds_done,kf_ret']
      rw [this]
      exact VLe.refl _
     simp only [holds_bT,holds_rq,holds_leaf,kf_ret',kf_normal,kf_exit,decide_eq_true_eq,decide_eq_false_iff_not,Bool.not_eq_true',Bool.not_eq_false',beq_iff_eq,beq_eq_false_iff_ne,letterB_iff,← Bool.not_eq_true,inR,if_true]
     repeat' (first | apply And.intro | intro _)
     all_goals first | trivial | (clear bad good after;omega) | exact ⟨after ‹_›⟩ | exact ⟨bad ‹_› (by clear bad good after;omega)⟩ | exact ⟨good ‹_› (by clear bad good after;omega)⟩
 · cases hm
set_option maxRecDepth 100000 in
theorem okValue:ModOK Try.prog G 114 mValue:=by
 intro args p v hm hp h
 unfold mValue at hm
 split at hm
 · rename_i s
   injection hm with hm
   injection hm with e1 e2
   subst e1;subst e2
   refine fn_S Try.func114 (by kernel_rfl) rfl ?_ h
   refine ExS.ev ext0_sound 4 [] (msk 43 [0,3]) rfl (tValue1 s) ?_
   simp only [holds_bT,holds_done,kf_ret',kf_normal]
   refine ⟨fun h2 => VLe.of_eq ?_,fun h2 => ?_⟩
   · have h2:(16:Int)<s.size:=by simpa using h2
     have:valueB s=false:=by unfold valueB;rw [decide_eq_false (show ¬ s.size≤16 by omega)];rfl
     rw [this];rfl
   · have h2:¬ (16:Int)<s.size:=by simpa using h2
     refine ExS.loop (l:=dropL 4 (pcs Try.prog Try.f114)) (b:=inr (inr (nth .skip (pcs Try.prog Try.f114) 4))) (r:=dropL 5 (pcs Try.prog Try.f114)) (id:=0) (by kernel_rfl)
       (fun i:Int => cst 43 [(0,sV s),(3,iV i)] []) (fun i => 0≤i∧i≤s.size∧okvUp (PlainAid.bt s) i.toNat=true) (fun i => (s.size - i).toNat) 0 ⟨by omega,by omega,rfl⟩ (weak_of_eq (by kernel_rfl)) ?_
     rintro i ⟨i0,i1,hi⟩
     refine ExS.evA ext0_sound [] (msk 43 [0,3]) rfl (tValue2 s i) ?_
     have hb:=byteAt_bt s i.toNat
     generalize byteAt s i.toNat=c at hb
     have hsucc:(i+1).toNat=i.toNat+1:=by omega
     have bad:i<s.size→¬ (33≤c∧c≤126∧c≠34∧c≠92∧c≠44∧c≠123∧c≠125)→VLe (V.c (C.p (PV.b false))) (bV (valueB s)):=fun hlt hc => by
      rw [valueB_bad (k:=i.toNat) (by omega) (by rw [← hb,← Bool.not_eq_true,okv_iff];exact hc)];exact VLe.refl _
     have good:i<s.size→(33≤c∧c≤126∧c≠34∧c≠92∧c≠44∧c≠123∧c≠125)→∃ s':Int,(0≤s'∧s'≤s.size∧okvUp (PlainAid.bt s) s'.toNat=true)∧(s.size - s').toNat<(s.size - i).toNat∧WeakS G (cst 43 [(0,V.c (C.p (PV.s s))),(3,V.c (C.p (PV.i .i64 (i+1))))] []) (cst 43 [(0,sV s),(3,iV s')] []):=fun hlt hc =>
      ⟨i+1,⟨by omega,by omega,by rw [hsucc,okvUp_succ,hi,← hb,(okv_iff _).2 hc];rfl⟩,by omega,weak_of_eq (by kernel_rfl)⟩
     have after:¬ i<s.size→ExS Try.prog G (resOf Try.prog Try.f114) (bV (valueB s)) (dropL 5 (pcs Try.prog Try.f114)) (cst 43 [(0,V.c (C.p (PV.s s))),(3,V.c (C.p (PV.i .i64 i)))] []) (fun _ _ => False):=fun hlt => by
      refine ExS.evA ext0_sound [] [] rfl (tValue3 s i) ?_
      have:valueB s=true:=by
       obtain rfl:i=s.size:=by omega
       unfold valueB
       rw [decide_eq_true (show s.size≤16 by omega)]
       simpa using hi
      simp only [holds_done,kf_ret']
      rw [this]
      exact VLe.refl _
     simp only [holds_bT,holds_rq,holds_leaf,kf_ret',kf_normal,kf_exit,decide_eq_true_eq,decide_eq_false_iff_not,Bool.not_eq_true',Bool.not_eq_false',beq_iff_eq,beq_eq_false_iff_ne,inR,if_true]
     repeat' (first | apply And.intro | intro _)
     all_goals first | trivial | (clear bad good after;omega) | exact ⟨after ‹_›⟩ | exact ⟨bad ‹_› (by clear bad good after;omega)⟩ | exact ⟨good ‹_› (by clear bad good after;omega)⟩
 · cases hm
end
end Go.AE
namespace Go.AE
set_option linter.unusedVariables false
set_option linter.unusedSimpArgs false
open Go.Proofs Go.Proofs.Ytfjihbmehhccoaa
def mRNew:Mod
 | [.c (.p (.l 2 n f))] => some (IsL enc2 2 (decL dec2 n f) n f,.t [.c (.p (listP enc2 2 (newLs (decL dec2 n f)).1)),.c (.p (.i .i64 (newLs (decL dec2 n f)).2))])
 | _ => none
def extRN:Ext:=extOf [(79,mName),(114,mValue)]
theorem tNew1 (L:List (ByteArray × ByteArray)):exTs ext0 (takeL 5 (pcs Try.prog Try.f105)) (st0 Try.f105 [listV enc2 2 L]) (endF [] (msk 95 [0,4,5]) (resOf Try.prog Try.f105))=bT (decide (8<(↑L.length:Int))) (.done .ret (St.mk [V.t [V1.c (C.p (PV.z (Value.slice none 0 0))),V1.c (C.p (PV.i IntKind.i64 4))]] []))
 (.done .normal
 (cst 95 [(0,.c (.p (.l 2 L.length (rowP enc2 L)))),(4,.c (.p (.z (Value.slice none 0 0)))),(5,.c (.p (.i .i64 0)))] [])):=by kernel_rfl
theorem tNew2 (L out:List (ByteArray × ByteArray)) (i:Int):exTs ext0 (takeL 2 (lpB (pcs Try.prog Try.f105) 5)) (cst 95 [(0,listV enc2 2 L),(4,.c (.sl 0 2 0 out.length)),(5,iV i)] [.row 56 2 out.length (rowC enc2 out)]) (endF [0] (msk 95 [0,4,5]) (resOf Try.prog Try.f105))=bT (decide (i<(↑L.length:Int)))
 (.done .normal
 (cst 95 [(0,.c (.p (.l 2 L.length (rowP enc2 L)))),(4,.c (.sl 0 2 0 out.length)),(5,.c (.p (.i .i64 i)))] [.row 56 2 out.length fun e o => renC [0] (rowC enc2 out e o)]))
 (.done (.exit 0)
 (cst 95 [(0,.c (.p (.l 2 L.length (rowP enc2 L)))),(4,.c (.sl 0 2 0 out.length)),(5,.c (.p (.i .i64 i)))] [.row 56 2 out.length fun e o => renC [0] (rowC enc2 out e o)])):=by kernel_rfl
theorem tNew3 (L out:List (ByteArray × ByteArray)) (i:Int):exTs extRN (takeL 6 (flat (inr (nth .skip (lpB (pcs Try.prog Try.f105) 5) 2)))) (cst 95 [(0,listV enc2 2 L),(4,.c (.sl 0 2 0 out.length)),(5,iV i)] [.row 56 2 out.length (rowC enc2 out)]) (endF [0] (msk 95 [0,4,5,6,7]) (resOf Try.prog Try.f105))=Tr.rq (0≤i∧i<(↑L.length:Int))
 (.rq True
 (bT (!nameB (L.getD i.toNat default).fst) (.done .ret (St.mk [V.t [V1.c (C.p (PV.z (Value.slice none 0 0))),V1.c (C.p (PV.i IntKind.i64 8))]] []))
 (.rq (0≤i∧i<(↑L.length:Int))
 (bT ((L.getD i.toNat default).snd.toList == (ByteArray.mk #[]).toList) (.done .ret (St.mk [V.t [V1.c (C.p (PV.z (Value.slice none 0 0))),V1.c (C.p (PV.i IntKind.i64 1))]] []))
 (.rq (0≤i∧i<(↑L.length:Int))
 (.rq True
 (bT (!valueB (L.getD i.toNat default).snd) (.done .ret (St.mk [V.t [V1.c (C.p (PV.z (Value.slice none 0 0))),V1.c (C.p (PV.i IntKind.i64 1))]] []))
 (.done .normal
 (cst 95 [(0,.c (.p (.l 2 L.length (rowP enc2 L)))),(4,.c (.sl 0 2 0 out.length)),(5,.c (.p (.i .i64 i))),(6,.c (.p (.z (Value.slice none 0 0)))),(7,.c (.p (.i .i64 0)))] [.row 56 2 out.length fun e o => renC [0] (rowC enc2 out e o)]))))))))):=by kernel_rfl
theorem tNew4 (L out nx:List (ByteArray × ByteArray)) (i:Int) (k:Nat):exTs ext0 (takeL 2 (lpB (flat (inr (nth .skip (lpB (pcs Try.prog Try.f105) 5) 2))) 6)) (cst 95 [(0,listV enc2 2 L),(4,.c (.sl 0 2 0 out.length)),(5,iV i),(6,.c (.sl 1 2 0 k)),(7,iV (k:Nat))] [.row 56 2 out.length (rowC enc2 out),.row 56 2 k (rowC enc2 nx)]) (endF [0,1] (msk 95 [0,4,5,6,7]) (resOf Try.prog Try.f105))=bT (decide ((↑k:Int)<(↑out.length:Int)))
 (.rq (0≤(↑k:Int)∧(↑k:Int)<(↑out.length:Int))
 (.rq ((↑k:Int).toNat+0<out.length)
 (.rq (0≤i∧i<(↑L.length:Int))
 (bT (Op.bytesLess (out.getD ((↑k:Int).toNat+0) default).fst.toList (L.getD i.toNat default).fst.toList)
 (.done .normal
 (cst 95 [(0,.c (.p (.l 2 L.length (rowP enc2 L)))),(4,.c (.sl 0 2 0 out.length)),(5,.c (.p (.i .i64 i))),(6,.c (.sl 1 2 0 k)),(7,.c (.p (.i .i64 (↑k:Int))))] [.row 56 2 out.length fun e o => renC [0,1] (rowC enc2 out e o),.row 56 2 k fun e o => renC [0,1] (rowC enc2 nx e o)]))
 (.done (.exit 2)
 (cst 95 [(0,.c (.p (.l 2 L.length (rowP enc2 L)))),(4,.c (.sl 0 2 0 out.length)),(5,.c (.p (.i .i64 i))),(6,.c (.sl 1 2 0 k)),(7,.c (.p (.i .i64 (↑k:Int))))] [.row 56 2 out.length fun e o => renC [0,1] (rowC enc2 out e o),.row 56 2 k fun e o => renC [0,1] (rowC enc2 nx e o)]))))))
 (.done (.exit 2)
 (cst 95 [(0,.c (.p (.l 2 L.length (rowP enc2 L)))),(4,.c (.sl 0 2 0 out.length)),(5,.c (.p (.i .i64 i))),(6,.c (.sl 1 2 0 k)),(7,.c (.p (.i .i64 (↑k:Int))))] [.row 56 2 out.length fun e o => renC [0,1] (rowC enc2 out e o),.row 56 2 k fun e o => renC [0,1] (rowC enc2 nx e o)])):=by kernel_rfl
theorem tNew5 (L out nx:List (ByteArray × ByteArray)) (i:Int) (k:Nat):exTs ext0 (dropL 2 (lpB (flat (inr (nth .skip (lpB (pcs Try.prog Try.f105) 5) 2))) 6)) (cst 95 [(0,listV enc2 2 L),(4,.c (.sl 0 2 0 out.length)),(5,iV i),(6,.c (.sl 1 2 0 k)),(7,iV (k:Nat))] [.row 56 2 out.length (rowC enc2 out),.row 56 2 k (rowC enc2 nx)]) (endF [0,3] (msk 95 [0,4,5,6,7]) (resOf Try.prog Try.f105))=Tr.rq (0≤(↑k:Int)∧(↑k:Int)<(↑out.length:Int))
 (.rq ((↑k:Int).toNat+0<out.length)
 (.rq (k=k)
 (.rq (1≤1)
 (.rq
 ((k+1) * 32≤140737488355328 ∧
 k+1≤140737488355328 ∧
 ∀ (e o:Nat),e<1→o<2→oneC (bslF [C.p (PV.s (out.getD ((↑k:Int).toNat+0) default).fst),C.p (PV.s (out.getD ((↑k:Int).toNat+0) default).snd)] 2 1 (e+0) o)=true)
 (.rq (inR IntKind.i64 ((↑k:Int)+1))
 (.done .normal
 (cst 95 [(0,.c (.p (.l 2 L.length (rowP enc2 L)))),(4,.c (.sl 0 2 0 out.length)),(5,.c (.p (.i .i64 i))),(6,.c (.sl 1 2 0 (k+1))),(7,.c (.p (.i .i64 ((↑k:Int)+1))))] [.row 56 2 out.length fun e o => renC [0,3] (rowC enc2 out e o),.row 56 2 (k+1) fun e o => renC [0,3] (appF k (rowC enc2 nx) (fun e o => nth C.top [C.p (PV.s (out.getD ((↑k:Int).toNat+0) default).fst),C.p (PV.s (out.getD ((↑k:Int).toNat+0) default).snd)] ((e+0) * 2+o)) e o)]))))))):=by kernel_rfl
theorem tNew6 (L out nx:List (ByteArray × ByteArray)) (i:Int) (k:Nat):exTs ext0 (dropL 7 (flat (inr (nth .skip (lpB (pcs Try.prog Try.f105) 5) 2)))) (cst 95 [(0,listV enc2 2 L),(4,.c (.sl 0 2 0 out.length)),(5,iV i),(6,.c (.sl 1 2 0 k)),(7,iV (k:Nat))] [.row 56 2 out.length (rowC enc2 out),.row 56 2 k (rowC enc2 nx)]) (endF [4] (msk 95 [0,4,5]) (resOf Try.prog Try.f105))=bT (decide ((↑k:Int)<(↑out.length:Int)))
 (.rq (0≤(↑k:Int)∧(↑k:Int)<(↑out.length:Int))
 (.rq ((↑k:Int).toNat+0<out.length)
 (.rq (0≤i∧i<(↑L.length:Int))
 (bT ((out.getD ((↑k:Int).toNat+0) default).fst.toList == (L.getD i.toNat default).fst.toList)
 (.done .ret (St.mk [V.t [V1.c (C.p (PV.z (Value.slice none 0 0))),V1.c (C.p (PV.i IntKind.i64 10))]] []))
 (.rq (0≤i∧i<(↑L.length:Int))
 (.rq (k=k)
 (.rq (1≤1)
 (.rq
 ((k+1) * 32≤140737488355328 ∧
 k+1≤140737488355328∧∀ (e o:Nat),e<1→o<2→oneC (bslF [C.p (PV.s (L.getD i.toNat default).fst),C.p (PV.s (L.getD i.toNat default).snd)] 2 1 (e+0) o)=true)
 (.rq (0≤(↑k:Int)∧(↑k:Int)≤(↑out.length:Int)∧(↑out.length:Int)≤(↑out.length:Int))
 (.rq (k+1=k+1)
 (.rq (0+(↑k:Int).toNat+((↑out.length:Int).toNat - (↑k:Int).toNat)≤out.length)
 (.rq
 ((k+1+((↑out.length:Int).toNat - (↑k:Int).toNat)) * 32≤140737488355328 ∧
 k+1+((↑out.length:Int).toNat - (↑k:Int).toNat)≤140737488355328 ∧
 ∀ (e o:Nat),e<(↑out.length:Int).toNat - (↑k:Int).toNat→o<2→oneC (rowC enc2 out (e+(0+(↑k:Int).toNat)) o)=true)
 (.done .normal
 (cst 95 [(0,.c (.p (.l 2 L.length (rowP enc2 L)))),(4,.c (.sl 0 2 0 (k+1+((↑out.length:Int).toNat - (↑k:Int).toNat)))),(5,.c (.p (.i .i64 i)))] [.row 56 2 (k+1+((↑out.length:Int).toNat - (↑k:Int).toNat)) fun e o => renC [4] (appF (k+1) (appF k (rowC enc2 nx) fun e o => nth C.top [C.p (PV.s (L.getD i.toNat default).fst),C.p (PV.s (L.getD i.toNat default).snd)] ((e+0) * 2+o)) (fun e o => rowC enc2 out (e+(0+(↑k:Int).toNat)) o) e o)]))))))))))))))
 (.rq (0≤i∧i<(↑L.length:Int))
 (.rq (k=k)
 (.rq (1≤1)
 (.rq
 ((k+1) * 32≤140737488355328 ∧
 k+1≤140737488355328∧∀ (e o:Nat),e<1→o<2→oneC (bslF [C.p (PV.s (L.getD i.toNat default).fst),C.p (PV.s (L.getD i.toNat default).snd)] 2 1 (e+0) o)=true)
 (.rq (0≤(↑k:Int)∧(↑k:Int)≤(↑out.length:Int)∧(↑out.length:Int)≤(↑out.length:Int))
 (.rq (k+1=k+1)
 (.rq (0+(↑k:Int).toNat+((↑out.length:Int).toNat - (↑k:Int).toNat)≤out.length)
 (.rq
 ((k+1+((↑out.length:Int).toNat - (↑k:Int).toNat)) * 32≤140737488355328 ∧
 k+1+((↑out.length:Int).toNat - (↑k:Int).toNat)≤140737488355328 ∧
 ∀ (e o:Nat),e<(↑out.length:Int).toNat - (↑k:Int).toNat→o<2→oneC (rowC enc2 out (e+(0+(↑k:Int).toNat)) o)=true)
 (.done .normal
 (cst 95 [(0,.c (.p (.l 2 L.length (rowP enc2 L)))),(4,.c (.sl 0 2 0 (k+1+((↑out.length:Int).toNat - (↑k:Int).toNat)))),(5,.c (.p (.i .i64 i)))] [.row 56 2 (k+1+((↑out.length:Int).toNat - (↑k:Int).toNat)) fun e o => renC [4] (appF (k+1) (appF k (rowC enc2 nx) fun e o => nth C.top [C.p (PV.s (L.getD i.toNat default).fst),C.p (PV.s (L.getD i.toNat default).snd)] ((e+0) * 2+o)) (fun e o => rowC enc2 out (e+(0+(↑k:Int).toNat)) o) e o)])))))))))):=by kernel_rfl
theorem tNew7 (L out:List (ByteArray × ByteArray)) (i:Int):exTs ext0 (dropL 3 (lpB (pcs Try.prog Try.f105) 5)) (cst 95 [(0,listV enc2 2 L),(4,.c (.sl 0 2 0 out.length)),(5,iV i)] [.row 56 2 out.length (rowC enc2 out)]) (endF [0] (msk 95 [0,4,5]) (resOf Try.prog Try.f105))=Tr.rq (inR IntKind.i64 (i+1))
 (.done .normal
 (cst 95 [(0,.c (.p (.l 2 L.length (rowP enc2 L)))),(4,.c (.sl 0 2 0 out.length)),(5,.c (.p (.i .i64 (i+1))))] [.row 56 2 out.length fun e o => renC [0] (rowC enc2 out e o)])):=by kernel_rfl
theorem tNew8 (L out:List (ByteArray × ByteArray)) (i:Int):exTs ext0 (dropL 6 (pcs Try.prog Try.f105)) (cst 95 [(0,listV enc2 2 L),(4,.c (.sl 0 2 0 out.length)),(5,iV i)] [.row 56 2 out.length (rowC enc2 out)]) (endF [] [] (resOf Try.prog Try.f105))=Tr.rq (0+out.length≤out.length∧∀ (e o:Nat),e<out.length→o<2→isF (rowC enc2 out (e+0) o)=true)
 (.done .ret (St.mk [V.t [V1.c (C.p (PV.l 2 out.length fun e o => unP (rowC enc2 out (e+0) o))),V1.c (C.p (PV.i IntKind.i64 0))]] [])):=by kernel_rfl
section
variable {G:Nat→Option Obj}
theorem extRN_sound:SoundExt Try.prog G extRN:=extOf_sound (by simp;exact ⟨okName,okValue⟩)
theorem insK_le (out:List (ByteArray × ByteArray)) (x:ByteArray × ByteArray):insK out x≤out.length:=by
 have h:=List.takeWhile_append_dropWhile (p:=fun y:Lb => slt y.1 x.1) (l:=out)
 have:=congrArg List.length h
 rw [List.length_append] at this
 unfold insK;omega
theorem insK_lt {out:List (ByteArray × ByteArray)} {x:ByteArray × ByteArray} {k:Nat} (hk:k<insK out x):slt (out.getD k default).1 x.1=true:=by
 have h1:=(insK_split out x).1
 have hl:=insK_le out x
 have hm:out.getD k default∈out.takeWhile (fun y => slt y.1 x.1):=by
  rw [← h1,List.getD_eq_getElem?_getD,List.getElem?_eq_getElem (by omega)]
  exact List.mem_take_iff_getElem.2 ⟨k,by omega,rfl⟩
 exact List.all_eq_true.1 (List.all_takeWhile (p:=fun y:Lb => slt y.1 x.1) (l:=out)) _ hm
theorem insK_at {out:List (ByteArray × ByteArray)} {x:ByteArray × ByteArray} (hk:insK out x<out.length):slt (out.getD (insK out x) default).1 x.1=false:=by
 have h5:=(insK_split out x).2
 rw [List.drop_eq_getElem_cons hk] at h5
 have:=List.head?_dropWhile_not (fun y:Lb => slt y.1 x.1) out
 rw [← h5] at this
 rw [List.getD_eq_getElem?_getD,List.getElem?_eq_getElem hk]
 exact this
theorem empty_iff (s:ByteArray):(s.toList == (ByteArray.mk #[]).toList)=s.toList.isEmpty:=by
 have:(ByteArray.mk #[]).toList=[]:=by rw [ByteArray.toList_eq]
 rw [this]
 cases h:s.toList <;> rfl
theorem newL_step {L out:List (ByteArray × ByteArray)} {i:Nat} (hi:i<L.length):newL (L.drop i) out =
  if nameB (L.getD i default).1=false then ([],8)
  else if (L.getD i default).2.toList.isEmpty=true∨valueB (L.getD i default).2=false then ([],1)
  else if (out[insK out (L.getD i default)]?).any (fun y => decide (y.1=(L.getD i default).1))=true then ([],10)
  else newL (L.drop (i+1)) (out.take (insK out (L.getD i default)) ++ L.getD i default::out.drop (insK out (L.getD i default))):=by
 have e:L.getD i default=L[i]:=by simp [hi]
 rw [List.drop_eq_getElem_cons hi,e]
 rfl
set_option maxRecDepth 100000 in
theorem okRNew:ModOK Try.prog G 105 mRNew:=by
 intro args p v hm hp h
 unfold mRNew at hm
 split at hm;rotate_left;· cases hm
 rename_i n f
 obtain ⟨rfl,rfl⟩:=some_pair hm
 have hL:IsL enc2 2 (decL dec2 n f) n f:=hp
 clear hp hm
 generalize decL dec2 n f=L at hL
 refine FnS.args (args':=[listV enc2 2 L]) ?_ (.cons hL.le .nil)
 clear hL
 generalize hv:V.t [V1.c (C.p (listP enc2 2 (newLs L).1)),V1.c (C.p (PV.i .i64 (newLs L).2))]=v
 have err:∀ e:Int,newLs L=([],e)→VLe (V.t [V1.c (C.p (PV.z (Value.slice none 0 0))),V1.c (C.p (PV.i .i64 e))]) v:=by
  intro e he
  rw [← hv,he]
  exact VLe.t (.cons (VLe.p (PLe.nil 2 _)) (.cons (VLe.refl _) .nil))
 refine fn_S Try.func105 (by kernel_rfl) rfl ?_ h
 refine ExS.ev ext0_sound 5 [] (msk 95 [0,4,5]) rfl (tNew1 L) ?_
 simp only [holds_bT,holds_done,kf_ret',kf_normal,decide_eq_true_eq,decide_eq_false_iff_not]
 refine ⟨fun h1 => err 4 (by unfold newLs;rw [if_pos (by omega)]),fun h8 => ?_⟩
 have hnew:newLs L=newL L []:=by unfold newLs;rw [if_neg (by omega)]
 rw [hnew] at err hv
 refine ExS.loop' (l:=dropL 5 (pcs Try.prog Try.f105)) (b:=inr (inr (nth .skip (pcs Try.prog Try.f105) 5))) (r:=dropL 6 (pcs Try.prog Try.f105)) (id:=0) (by kernel_rfl) (σ:=Int × List (ByteArray × ByteArray))
   (fun (i,out) => cst 95 [(0,listV enc2 2 L),(4,.c (.sl 0 2 0 out.length)),(5,iV i)] [.row 56 2 out.length (rowC enc2 out)]) (fun (i,out) => 0≤i∧i≤L.length∧out.length≤i.toNat∧newL (L.drop i.toNat) out=newL L []) (fun (i,_) => (L.length - i).toNat) (0,[]) ⟨by omega,by omega,by simp,rfl⟩
   ((weak_nil 56 2 (rowC enc2 []) 4 (by kernel_rfl)).trans (weak_of_eq (by kernel_rfl))) ?_
 rintro ⟨i,out⟩ ⟨i0,i1,hlen,hinv⟩ Q1 q1n q1e -
 refine ExS.ev ext0_sound 2 [0] (msk 95 [0,4,5]) rfl (tNew2 L out i) ?_
 simp only [holds_bT,holds_leaf,kf_exit,kf_normal,decide_eq_true_eq,decide_eq_false_iff_not]
 refine ⟨fun hlt => ⟨?_⟩,fun hge => ⟨?_⟩⟩
 · refine ExS.blk' (l:=dropL 2 (lpB (pcs Try.prog Try.f105) 5)) (id:=1) (a:=inr (nth .skip (lpB (pcs Try.prog Try.f105) 5) 2)) (r:=dropL 3 (lpB (pcs Try.prog Try.f105) 5)) (by kernel_rfl) ?_
   intro Q2 q2n _ _
   refine ExS.ev extRN_sound 6 [0] (msk 95 [0,4,5,6,7]) rfl (tNew3 L out i) ?_
   have hstep:=newL_step (L:=L) (out:=out) (i:=i.toNat) (by omega)
   rw [hinv] at hstep
   rw [empty_iff]
   generalize hx:L.getD i.toNat default=x at hstep
   simp only [holds_bT,holds_rq,holds_leaf,kf_ret',kf_normal,Bool.not_eq_true',Bool.not_eq_false']
   refine ⟨⟨i0,hlt⟩,trivial,fun c1 => ⟨err 8 (by rw [hstep,if_pos c1])⟩,fun c1 => ⟨⟨i0,hlt⟩,fun c2 => ⟨err 1 (by rw [hstep,if_neg (by simp [c1]),if_pos (.inl c2)])⟩,fun c2 => ⟨⟨i0,hlt⟩,trivial,fun c3 => ⟨err 1 (by rw [hstep,if_neg (by simp [c1]),if_pos (.inr c3)])⟩,fun c3 => ⟨?_⟩⟩⟩⟩
   rw [if_neg (by simp [c1]),if_neg (by simp [c2,c3])] at hstep
   have hins:=insK_le out x
   refine ExS.loop' (l:=dropL 6 (flat (inr (nth .skip (lpB (pcs Try.prog Try.f105) 5) 2)))) (b:=inr (inr (nth .skip (flat (inr (nth .skip (lpB (pcs Try.prog Try.f105) 5) 2))) 6))) (r:=dropL 7 (flat (inr (nth .skip (lpB (pcs Try.prog Try.f105) 5) 2)))) (id:=2) (by kernel_rfl) (σ:=Nat)
     (fun k => (fun nx => cst 95 [(0,listV enc2 2 L),(4,.c (.sl 0 2 0 out.length)),(5,iV i),(6,.c (.sl 1 2 0 k)),(7,iV (k:Nat))] [.row 56 2 out.length (rowC enc2 out),.row 56 2 k (rowC enc2 nx)]) (out.take k)) (fun k => k≤insK out x) (fun k => insK out x - k) 0 (Nat.zero_le _)
     ((weak_nil 56 2 (rowC enc2 []) 6 (by kernel_rfl)).trans (weak_of_eq (by kernel_rfl))) ?_
   intro k hk Q3 q3n q3e _
   have hnx:(out.take k).length=k:=by rw [List.length_take];omega
   refine ExS.ev ext0_sound 2 [0,1] (msk 95 [0,4,5,6,7]) rfl (tNew4 L out (out.take k) i k) ?_
   rw [hx]
   have post:k=insK out x→ExS Try.prog G (resOf Try.prog Try.f105) v (dropL 7 (flat (inr (nth .skip (lpB (pcs Try.prog Try.f105) 5) 2)))) ((fun nx => cst 95 [(0,listV enc2 2 L),(4,.c (.sl 0 2 0 out.length)),(5,iV i),(6,.c (.sl 1 2 0 k)),(7,iV (k:Nat))] [.row 56 2 out.length (rowC enc2 out),.row 56 2 k (rowC enc2 nx)]) (out.take k)) Q2:=by
    intro hk2
    have hfin:(out[k]?).any (fun y => decide (y.1=x.1))=decide (k<out.length∧(out.getD k default).1=x.1):=by
     by_cases hkl:k<out.length
     · simp [hkl]
     · rw [List.getElem?_eq_none (by omega)];simp [hkl]
    rw [← hk2,hfin] at hstep
    refine ExS.evA ext0_sound [4] (msk 95 [0,4,5]) rfl (tNew6 L out (out.take k) i k) ?_
    rw [hx]
    have fin:¬ (k<out.length∧(out.getD k default).1=x.1)→Q2 .normal (cst 95 [(0,V.c (C.p (PV.l 2 L.length (rowP enc2 L)))),(4,V.c (C.sl 0 2 0 (k+1+((↑out.length:Int).toNat - (↑k:Int).toNat)))),(5,V.c (C.p (PV.i IntKind.i64 i)))] [AO.row 56 2 (k+1+((↑out.length:Int).toNat - (↑k:Int).toNat)) fun e o => renC [4] (appF (k+1) (appF k (rowC enc2 (out.take k)) fun e o => nth C.top [C.p (PV.s x.fst),C.p (PV.s x.snd)] ((e+0) * 2+o)) (fun e o => rowC enc2 out (e+(0+(↑k:Int).toNat)) o) e o)]):=by
     intro hno
     rw [if_neg (by simpa using hno)] at hstep
     have hl2:k+1+((↑out.length:Int).toNat - (↑k:Int).toNat)=(out.take k ++ x::out.drop k).length:=by
      rw [List.length_append,List.length_cons,List.length_drop,hnx];omega
     rw [hl2]
     refine q2n _ (ExS.pre (st2:=(fun (i,out) => cst 95 [(0,listV enc2 2 L),(4,.c (.sl 0 2 0 out.length)),(5,iV i)] [.row 56 2 out.length (rowC enc2 out)]) (i,out.take k ++ x::out.drop k)) ?_ ?_)
     · refine weak_cst ?_
       refine ⟨⟨rfl,rfl,rfl,fun e o he ho => ?_⟩,trivial⟩
       rw [← hl2] at he
       simp only [appF]
       by_cases h1:e<k
       · rw [if_pos (by omega),if_pos h1]
         show rowC enc2 (out.take k) e o=rowC enc2 _ e o
         unfold rowC rowP
         simp [List.getElem?_append_left (show e<(out.take k).length by omega)]
       · by_cases h2:e=k
         · subst h2
           rw [if_pos (by omega),if_neg (by omega)]
           have e1:(out.take e ++ x::out.drop e).getD e default=x:=by
            rw [List.getD_eq_getElem?_getD,List.getElem?_append_right (by omega),hnx];simp
           show _=C.p (enc2 ((out.take e ++ x::out.drop e).getD e default) o)
           rw [e1,Nat.sub_self]
           have ho':o=0∨o=1:=by omega
           rcases ho' with rfl | rfl <;> rfl
         · rw [if_neg (by omega)]
           have e1:(out.take k ++ x::out.drop k).getD e default=out.getD (e - 1) default:=by
            rw [List.getD_eq_getElem?_getD,List.getD_eq_getElem?_getD,List.getElem?_append_right (by omega),hnx,show e - k=(e - k - 1)+1 by omega,List.getElem?_cons_succ,List.getElem?_drop,show k+(e - k - 1)=e - 1 by omega]
           show _=C.p (enc2 ((out.take k ++ x::out.drop k).getD e default) o)
           rw [e1,show e - (k+1)+(0+(↑k:Int).toNat)=e - 1 by omega]
           rfl
     · refine ExS.evA ext0_sound [0] (msk 95 [0,4,5]) rfl (tNew7 L (out.take k ++ x::out.drop k) i) ?_
       simp only [holds_rq,holds_leaf,kf_normal,inR]
       refine ⟨by omega,⟨q1n (i+1,out.take k ++ x::out.drop k) _ ⟨by omega,by omega,by rw [← hl2];omega,?_⟩ (by simp only;omega) (weak_of_eq (by kernel_rfl))⟩⟩
       rw [show (i+1).toNat=i.toNat+1 by omega]
       exact hstep.symm
    have one:∀ e o:Nat,e<1→o<2→oneC (nth C.top [C.p (PV.s x.fst),C.p (PV.s x.snd)] ((e+0) * 2+o))=true:=by
     intro e o he ho
     obtain rfl:e=0:=by omega
     have ho':o=0∨o=1:=by omega
     rcases ho' with rfl | rfl <;> rfl
    have one':∀ e o:Nat,e<(↑out.length:Int).toNat - (↑k:Int).toNat→o<2→oneC (rowC enc2 out (e+(0+(↑k:Int).toNat)) o)=true:=by
     intro e o he ho
     have ho':o=0∨o=1:=by omega
     rcases ho' with rfl | rfl <;> rfl
    have dup:k<out.length→(out.getD k default).1=x.1→VLe (V.t [V1.c (C.p (PV.z (Value.slice none 0 0))),V1.c (C.p (PV.i .i64 10))]) v:=fun h1 h2 => err 10 (by rw [hstep,if_pos (by simpa using ⟨h1,h2⟩)])
    have hlast:(↑i:Int)<L.length:=hlt
    simp only [holds_bT,holds_rq,holds_leaf,kf_ret',kf_normal,decide_eq_true_eq,decide_eq_false_iff_not,beq_bytes',show (↑k:Int).toNat+0=k from rfl]
    refine ⟨fun h1 => ⟨⟨by omega,h1⟩,by omega,⟨i0,hlt⟩,fun h2 => ⟨dup (by omega) h2⟩,fun h2 => ⟨⟨i0,hlt⟩,trivial,Nat.le_refl _,⟨by omega,by omega,one⟩,⟨by omega,by omega,by omega⟩,trivial,by omega,⟨by omega,by omega,one'⟩,⟨fin (fun h => h2 h.2)⟩⟩⟩,
      fun h1 => ⟨⟨i0,hlt⟩,trivial,Nat.le_refl _,⟨by omega,by omega,one⟩,⟨by omega,by omega,by omega⟩,trivial,by omega,⟨by omega,by omega,one'⟩,⟨fin (fun h => h1 (by omega))⟩⟩⟩
   simp only [holds_bT,holds_rq,holds_leaf,kf_exit,kf_normal,decide_eq_true_eq,decide_eq_false_iff_not,show (↑k:Int).toNat+0=k from rfl]
   refine ⟨fun h1 => ⟨⟨by omega,h1⟩,by omega,⟨i0,hlt⟩,fun h2 => ⟨?_⟩,fun h2 => ⟨q3e _ (post ?_)⟩⟩,fun h1 => ⟨q3e _ (post (by omega))⟩⟩
   · refine ExS.evA ext0_sound [0,3] (msk 95 [0,4,5,6,7]) rfl (tNew5 L out (out.take k) i k) ?_
     have hk2:k<insK out x:=by
      rcases Nat.lt_or_ge k (insK out x) with h | h
      · exact h
      · have e1:k=insK out x:=by omega
        have:=insK_at (out:=out) (x:=x) (by omega)
        rw [← e1] at this
        unfold slt at this
        rw [h2] at this
        cases this
     have ht:out.take (k+1)=out.take k ++ [out.getD k default]:=by
      rw [List.take_add_one,List.getD_eq_getElem?_getD,List.getElem?_eq_getElem (show k<out.length by omega)]
      rfl
     simp only [holds_rq,holds_leaf,kf_normal,inR,show (↑k:Int).toNat+0=k from rfl]
     refine ⟨⟨by omega,h1⟩,by omega,trivial,Nat.le_refl _,⟨by omega,by omega,fun e o he ho => ?_⟩,by omega,⟨q3n (k+1) _ (by omega) (by omega) ?_⟩⟩
     · obtain rfl:e=0:=by omega
       have ho':o=0∨o=1:=by omega
       rcases ho' with rfl | rfl <;> rfl
     · show WeakS G _ ((fun nx => (fun k => cst 95 [(0,listV enc2 2 L),(4,.c (.sl 0 2 0 out.length)),(5,iV i),(6,.c (.sl 1 2 0 k)),(7,iV (k:Nat))] [.row 56 2 out.length (rowC enc2 out),.row 56 2 k (rowC enc2 nx)]) (k+1)) (out.take (k+1)))
       rw [ht]
       refine weak_cst ?_
       refine ⟨⟨rfl,rfl,rfl,fun e o he ho => rfl⟩,⟨rfl,rfl,rfl,fun e o he ho => app1' hnx ?_ he ho⟩,trivial⟩
       intro o ho
       have ho':o=0∨o=1:=by omega
       rcases ho' with rfl | rfl <;> rfl
   · rcases Nat.lt_or_ge k (insK out x) with h | h
     · have:=insK_lt h
       unfold slt at this
       rw [h2] at this
       cases this
     · omega
 · refine q1e _ (ExS.evA ext0_sound [] [] rfl (tNew8 L out i) ?_)
   simp only [holds_rq,holds_leaf,kf_ret']
   refine ⟨⟨by omega,fun _ _ _ _ => rfl⟩,⟨?_⟩⟩
   rw [List.drop_of_length_le (by omega)] at hinv
   rw [← hv,← hinv]
   exact VLe.refl _
theorem newLs_small {L:List (ByteArray × ByteArray)} (h:(newLs L).2=0):L.length≤8:=by
 unfold newLs at h
 split at h
 · cases h
 · omega
end
def mRLValid:Mod
 | [.c (.p (.l 2 n f))] => some (IsL enc2 2 (decL dec2 n f) n f,bV (validL (fun k => (decL dec2 n f).getD k default) n))
 | _ => none
def extRV:Ext:=extOf [(105,mRNew),(81,mLSame)]
theorem tLValid (L:List (ByteArray × ByteArray)):exTs extRV (pcs Try.prog Try.f80) (st0 Try.f80 [listV enc2 2 L]) (endF [] [] (resOf Try.prog Try.f80))=Tr.rq (IsL enc2 2 (decL dec2 L.length (rowP enc2 L)) L.length (rowP enc2 L))
 (bT ((newLs (decL dec2 L.length (rowP enc2 L))).snd == 0)
 (.rq
 ((IsL enc2 2 (decL dec2 (newLs (decL dec2 L.length (rowP enc2 L))).fst.length (rowP enc2 (newLs (decL dec2 L.length (rowP enc2 L))).fst)) (newLs (decL dec2 L.length (rowP enc2 L))).fst.length
 (rowP enc2 (newLs (decL dec2 L.length (rowP enc2 L))).fst) ∧
 IsL enc2 2 (decL dec2 L.length (rowP enc2 L)) L.length (rowP enc2 L)) ∧
 ((newLs (decL dec2 L.length (rowP enc2 L))).fst.length≤1000000∨L.length≤1000000))
 (.done .ret
 (St.mk [V.c (C.p (PV.b (decide (decL dec2 (newLs (decL dec2 L.length (rowP enc2 L))).fst.length (rowP enc2 (newLs (decL dec2 L.length (rowP enc2 L))).fst)=decL dec2 L.length (rowP enc2 L)))))] [])))
 (.done .ret (St.mk [V.c (C.p (PV.b false))] []))):=by kernel_rfl
section
variable {G:Nat→Option Obj}
theorem extRV_sound:SoundExt Try.prog G extRV:=extOf_sound (by simp;exact ⟨okRNew,okLSame⟩)
set_option maxRecDepth 100000 in
theorem okRLValid:ModOK Try.prog G 80 mRLValid:=by
 intro args p v hm hp h
 unfold mRLValid at hm
 split at hm;rotate_left;· cases hm
 rename_i n f
 obtain ⟨rfl,rfl⟩:=some_pair hm
 have hL:IsL enc2 2 (decL dec2 n f) n f:=hp
 clear hp hm
 generalize decL dec2 n f=L at hL
 refine FnS.args (args':=[listV enc2 2 L]) ?_ (.cons hL.le .nil)
 rw [← hL.1,← refValid_eq]
 clear hL
 refine fn_S Try.func80 (by kernel_rfl) rfl ?_ h
 refine ExS.evA extRV_sound [] [] rfl (tLValid L) ?_
 have h1:(newLs L).2=0→refValid L=decide ((newLs L).1=L):=fun h => by unfold refValid;rw [decide_eq_true h];rfl
 have h2:(newLs L).2≠0→refValid L=false:=fun h => by unfold refValid;rw [decide_eq_false h];rfl
 simp only [holds_bT,holds_rq,holds_leaf,kf_ret',dec2_row,beq_iff_eq,beq_eq_false_iff_ne]
 refine ⟨isL_row _ _ _,fun c => ⟨⟨⟨isL_row _ _ _,isL_row _ _ _⟩,?_⟩,⟨?_⟩⟩,fun c => ⟨?_⟩⟩
 · have:=newLs_small c;omega
 · rw [h1 c];exact VLe.refl _
 · rw [h2 c];exact VLe.refl _
end
end Go.AE
