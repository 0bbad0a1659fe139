/- AE contracts: cmp.Compare, labels.Compare, ref05.order, Compare, in, Keep, Same, labels.Keep. -/
import Derived.Test.YtfjihbmehhccoaaP23
import Derived.Test.YtfjihbmehhccoaaGp
import Derived.Test.YtfjihbmehhccoaaAeD
namespace Go.AE
open Go.Proofs Go.Proofs.Ytfjihbmehhccoaa Gp Go.RowKit
set_option linter.unusedVariables false
set_option linter.unusedSimpArgs false

def cmpZ (a b : Int) : Int := if a < b then -1 else if b < a then 1 else 0
def mNanS : Mod
  | [.c (.p (.s a))] => some (True, bV false)
  | _ => none
def mNanI : Mod
  | [.c (.p (.i .i64 a))] => some (True, bV false)
  | _ => none
def mCmpS : Mod
  | [.c (.p (.s a)), .c (.p (.s b))] => some (True, iV (cmpS a b))
  | _ => none
def mCmpI : Mod
  | [.c (.p (.i .i64 a)), .c (.p (.i .i64 b))] => some (True, iV (cmpZ a b))
  | _ => none
def mCmpL : Mod
  | [.c (.p (.l 2 n f)), .c (.p (.l 2 m g))] => some ((IsL enc2 2 (decL dec2 n f) n f ∧ IsL enc2 2 (decL dec2 m g) m g) ∧ n ≤ 1000000, iV (cmpL (decL dec2 n f) (decL dec2 m g)))
  | _ => none
def mLSame : Mod
  | [.c (.p (.l 2 n f)), .c (.p (.l 2 m g))] => some ((IsL enc2 2 (decL dec2 n f) n f ∧ IsL enc2 2 (decL dec2 m g) m g) ∧ (n ≤ 1000000 ∨ m ≤ 1000000), bV (decide (decL dec2 n f = decL dec2 m g)))
  | _ => none
def extCm : Ext := extOf [(84, mNanS), (85, mNanI)]
def extCL : Ext := extOf [(59, mCmpS), (60, mCmpI)]
def extOr : Ext := extOf [(86, mCmpS)]
theorem tNS (a : ByteArray) : exT ext0 (codeOf Try.prog Try.f84) (st0 Try.f84 [sV a]) (endF [] [] (resOf Try.prog Try.f84)) = Tr.done X.ret (St.mk [V.c (C.p (PV.b !a.toList == a.toList))] []) := by kernel_rfl
theorem tNI (a : Int) : exT ext0 (codeOf Try.prog Try.f85) (st0 Try.f85 [iV a]) (endF [] [] (resOf Try.prog Try.f85)) = Tr.done X.ret (St.mk [V.c (C.p (PV.b (a != a)))] []) := by kernel_rfl
theorem tCS (a b : ByteArray) : exT extCm (codeOf Try.prog Try.f59) (st0 Try.f59 [sV a, sV b]) (endF [] [] (resOf Try.prog Try.f59)) = Tr.rq True
    (Tr.rq True
      (bT (Op.bytesLess a.toList b.toList) (Tr.done X.ret (St.mk [V.c (C.p (PV.i IntKind.i64 (-1)))] []))
        (bT (!(Op.bytesLess a.toList b.toList || a.toList == b.toList)) (Tr.done X.ret (St.mk [V.c (C.p (PV.i IntKind.i64 1))] [])) (Tr.done X.ret (St.mk [V.c (C.p (PV.i IntKind.i64 0))] []))))) := by kernel_rfl
theorem tCI (a b : Int) : exT extCm (codeOf Try.prog Try.f60) (st0 Try.f60 [iV a, iV b]) (endF [] [] (resOf Try.prog Try.f60)) = Tr.rq True
    (Tr.rq True
      (bT (decide (a < b)) (Tr.done X.ret (St.mk [V.c (C.p (PV.i IntKind.i64 (-1)))] []))
        (bT (decide (b < a)) (Tr.done X.ret (St.mk [V.c (C.p (PV.i IntKind.i64 1))] [])) (Tr.done X.ret (St.mk [V.c (C.p (PV.i IntKind.i64 0))] []))))) := by kernel_rfl
theorem tOr (a b : ByteArray) : exT ext0 (codeOf Try.prog Try.f86) (st0 Try.f86 [sV a, sV b]) (endF [] [] (resOf Try.prog Try.f86)) = bT (Op.bytesLess a.toList b.toList) (Tr.done X.ret (St.mk [V.c (C.p (PV.i IntKind.i64 (-1)))] []))
    (bT (!(Op.bytesLess a.toList b.toList || a.toList == b.toList)) (Tr.done X.ret (St.mk [V.c (C.p (PV.i IntKind.i64 1))] [])) (Tr.done X.ret (St.mk [V.c (C.p (PV.i IntKind.i64 0))] []))) := by kernel_rfl
theorem tCm1 (A B : List (ByteArray × ByteArray)) : exTs extCL (takeL 2 (pcs Try.prog Try.f61)) (st0 Try.f61 [listV enc2 2 A, listV enc2 2 B]) (endG (msk 62 [0, 1, 10, 11]) (resOf Try.prog Try.f61)) = Tr.done X.normal
    (cst 62 [(0, V.c (C.p (PV.l 2 A.length (rowP enc2 A)))), (1, V.c (C.p (PV.l 2 B.length (rowP enc2 B)))), (10, V.c (C.p (PV.i IntKind.i64 (if (↑B.length : Int) < (↑A.length : Int) then (↑B.length : Int) else (↑A.length : Int))))), (11, V.c (C.p (PV.i IntKind.i64 0)))] []) := by kernel_rfl
theorem tCm2 (A B : List (ByteArray × ByteArray)) (n : Int) (i : Nat) : exTs extCL (lpB (pcs Try.prog Try.f61) 2) (cst 62 [(0, listV enc2 2 A), (1, listV enc2 2 B), (10, iV n), (11, iV (i : Nat))] []) (endG (msk 62 [0, 1, 10, 11]) (resOf Try.prog Try.f61)) = bT (decide ((↑i : Int) < n))
    (Tr.rq (0 ≤ (↑i : Int) ∧ (↑i : Int) < (↑A.length : Int))
      (Tr.rq (0 ≤ (↑i : Int) ∧ (↑i : Int) < (↑B.length : Int))
        (bT
          (match false with
          | true =>
            !((A.getD (↑i : Int).toNat default).fst.toList == (B.getD (↑i : Int).toNat default).fst.toList &&
                ((A.getD (↑i : Int).toNat default).snd.toList == (B.getD (↑i : Int).toNat default).snd.toList && true))
          | false =>
            (A.getD (↑i : Int).toNat default).fst.toList == (B.getD (↑i : Int).toNat default).fst.toList &&
              ((A.getD (↑i : Int).toNat default).snd.toList == (B.getD (↑i : Int).toNat default).snd.toList && true))
          (Tr.rq (inR IntKind.i64 ((↑i : Int) + 1))
            (Tr.done X.normal
              (cst 62 [(0, V.c (C.p (PV.l 2 A.length (rowP enc2 A)))), (1, V.c (C.p (PV.l 2 B.length (rowP enc2 B)))), (10, V.c (C.p (PV.i IntKind.i64 n))), (11, V.c (C.p (PV.i IntKind.i64 ((↑i : Int) + 1))))] [])))
          (Tr.rq (0 ≤ (↑i : Int) ∧ (↑i : Int) < (↑A.length : Int))
            (Tr.rq (0 ≤ (↑i : Int) ∧ (↑i : Int) < (↑B.length : Int))
              (bT (!(A.getD (↑i : Int).toNat default).fst.toList == (B.getD (↑i : Int).toNat default).fst.toList)
                (Tr.rq (0 ≤ (↑i : Int) ∧ (↑i : Int) < (↑A.length : Int))
                  (Tr.rq (0 ≤ (↑i : Int) ∧ (↑i : Int) < (↑B.length : Int))
                    (Tr.rq True (Tr.done X.ret (St.mk [V.c (C.p (PV.i IntKind.i64 (cmpS (A.getD (↑i : Int).toNat default).fst (B.getD (↑i : Int).toNat default).fst)))] [])))))
                (Tr.rq (0 ≤ (↑i : Int) ∧ (↑i : Int) < (↑A.length : Int))
                  (Tr.rq (0 ≤ (↑i : Int) ∧ (↑i : Int) < (↑B.length : Int))
                    (Tr.rq True (Tr.done X.ret (St.mk [V.c (C.p (PV.i IntKind.i64 (cmpS (A.getD (↑i : Int).toNat default).snd (B.getD (↑i : Int).toNat default).snd)))] [])))))))))))
    (Tr.done (X.exit 0)
      (cst 62 [(0, V.c (C.p (PV.l 2 A.length (rowP enc2 A)))), (1, V.c (C.p (PV.l 2 B.length (rowP enc2 B)))), (10, V.c (C.p (PV.i IntKind.i64 n))), (11, V.c (C.p (PV.i IntKind.i64 (↑i : Int))))] [])) := by kernel_rfl
theorem tCm3 (A B : List (ByteArray × ByteArray)) (n : Int) (i : Nat) : exTs extCL (dropL 3 (pcs Try.prog Try.f61)) (cst 62 [(0, listV enc2 2 A), (1, listV enc2 2 B), (10, iV n), (11, iV (i : Nat))] []) (endG [] (resOf Try.prog Try.f61)) = Tr.rq True (Tr.done X.ret (St.mk [V.c (C.p (PV.i IntKind.i64 (cmpZ (↑A.length : Int) (↑B.length : Int))))] [])) := by kernel_rfl
theorem tD1 (A B : List (ByteArray × ByteArray)) : exTs extOr (takeL 2 (pcs Try.prog Try.f64)) (st0 Try.f64 [listV enc2 2 A, listV enc2 2 B]) (endG (msk 56 [0, 1, 5]) (resOf Try.prog Try.f64)) = Tr.done X.normal
    (cst 56 [(0, V.c (C.p (PV.l 2 A.length (rowP enc2 A)))), (1, V.c (C.p (PV.l 2 B.length (rowP enc2 B)))), (5, V.c (C.p (PV.i IntKind.i64 0)))] []) := by kernel_rfl
theorem tD2 (A B : List (ByteArray × ByteArray)) (i : Nat) : exTs extOr (lpB (pcs Try.prog Try.f64) 2) (cst 56 [(0, listV enc2 2 A), (1, listV enc2 2 B), (5, iV (i : Nat))] []) (endG (msk 56 [0, 1, 5]) (resOf Try.prog Try.f64)) = bT (decide ((↑i : Int) < (↑A.length : Int)))
    (bT (decide ((↑i : Int) < (↑B.length : Int)))
      (Tr.rq (0 ≤ (↑i : Int) ∧ (↑i : Int) < (↑A.length : Int))
        (Tr.rq (0 ≤ (↑i : Int) ∧ (↑i : Int) < (↑B.length : Int))
          (Tr.rq True
            (bT (cmpS (A.getD (↑i : Int).toNat default).fst (B.getD (↑i : Int).toNat default).fst == 0)
              (Tr.rq (0 ≤ (↑i : Int) ∧ (↑i : Int) < (↑A.length : Int))
                (Tr.rq (0 ≤ (↑i : Int) ∧ (↑i : Int) < (↑B.length : Int))
                  (Tr.rq True
                    (bT (cmpS (A.getD (↑i : Int).toNat default).snd (B.getD (↑i : Int).toNat default).snd != 0)
                      (Tr.done X.ret (St.mk [V.c (C.p (PV.i IntKind.i64 (cmpS (A.getD (↑i : Int).toNat default).snd (B.getD (↑i : Int).toNat default).snd)))] []))
                      (Tr.rq (inR IntKind.i64 ((↑i : Int) + 1))
                        (Tr.done X.normal
                          (cst 56 [(0, V.c (C.p (PV.l 2 A.length (rowP enc2 A)))), (1, V.c (C.p (PV.l 2 B.length (rowP enc2 B)))), (5, V.c (C.p (PV.i IntKind.i64 ((↑i : Int) + 1))))] [])))))))
              (bT (cmpS (A.getD (↑i : Int).toNat default).fst (B.getD (↑i : Int).toNat default).fst != 0)
                (Tr.done X.ret (St.mk [V.c (C.p (PV.i IntKind.i64 (cmpS (A.getD (↑i : Int).toNat default).fst (B.getD (↑i : Int).toNat default).fst)))] []))
                (Tr.rq (inR IntKind.i64 ((↑i : Int) + 1))
                  (Tr.done X.normal
                    (cst 56 [(0, V.c (C.p (PV.l 2 A.length (rowP enc2 A)))), (1, V.c (C.p (PV.l 2 B.length (rowP enc2 B)))), (5, V.c (C.p (PV.i IntKind.i64 ((↑i : Int) + 1))))] []))))))))
      (Tr.done (X.exit 0)
        (cst 56 [(0, V.c (C.p (PV.l 2 A.length (rowP enc2 A)))), (1, V.c (C.p (PV.l 2 B.length (rowP enc2 B)))), (5, V.c (C.p (PV.i IntKind.i64 (↑i : Int))))] [])))
    (Tr.done (X.exit 0)
      (cst 56 [(0, V.c (C.p (PV.l 2 A.length (rowP enc2 A)))), (1, V.c (C.p (PV.l 2 B.length (rowP enc2 B)))), (5, V.c (C.p (PV.i IntKind.i64 (↑i : Int))))] [])) := by kernel_rfl
theorem tD3 (A B : List (ByteArray × ByteArray)) (i : Nat) : exTs ext0 (dropL 3 (pcs Try.prog Try.f64)) (cst 56 [(0, listV enc2 2 A), (1, listV enc2 2 B), (5, iV (i : Nat))] []) (endG [] (resOf Try.prog Try.f64)) = bT (decide ((↑A.length : Int) < (↑B.length : Int))) (Tr.done X.ret (St.mk [V.c (C.p (PV.i IntKind.i64 (-1)))] []))
    (bT (decide ((↑B.length : Int) < (↑A.length : Int))) (Tr.done X.ret (St.mk [V.c (C.p (PV.i IntKind.i64 1))] [])) (Tr.done X.ret (St.mk [V.c (C.p (PV.i IntKind.i64 0))] []))) := by kernel_rfl
theorem tSame1 (A B : List (ByteArray × ByteArray)) : exTs ext0 (takeL 4 (pcs Try.prog Try.f81)) (st0 Try.f81 [listV enc2 2 A, listV enc2 2 B]) (endF [] (msk 26 [0, 1, 5]) (resOf Try.prog Try.f81)) = bT ((↑A.length : Int) != (↑B.length : Int)) (Tr.done X.ret (St.mk [V.c (C.p (PV.b false))] []))
    (Tr.done X.normal
      (cst 26 [(0, V.c (C.p (PV.l 2 A.length (rowP enc2 A)))), (1, V.c (C.p (PV.l 2 B.length (rowP enc2 B)))), (5, V.c (C.p (PV.i IntKind.i64 0)))] [])) := by kernel_rfl
theorem tSame2 (A B : List (ByteArray × ByteArray)) (i : Int) : exTs ext0 (lpB (pcs Try.prog Try.f81) 4) (cst 26 [(0, listV enc2 2 A), (1, listV enc2 2 B), (5, iV i)] []) (endF [] (msk 26 [0, 1, 5]) (resOf Try.prog Try.f81)) = bT (decide (i < (↑A.length : Int)))
    (Tr.rq (0 ≤ i ∧ i < (↑A.length : Int))
      (Tr.rq (0 ≤ i ∧ i < (↑B.length : Int))
        (bT
          (match true with
          | true => !((A.getD i.toNat default).fst.toList == (B.getD i.toNat default).fst.toList && ((A.getD i.toNat default).snd.toList == (B.getD i.toNat default).snd.toList && true))
          | false => (A.getD i.toNat default).fst.toList == (B.getD i.toNat default).fst.toList && ((A.getD i.toNat default).snd.toList == (B.getD i.toNat default).snd.toList && true))
          (Tr.done X.ret (St.mk [V.c (C.p (PV.b false))] []))
          (Tr.rq (inR IntKind.i64 (i + 1))
            (Tr.done X.normal
              (cst 26 [(0, V.c (C.p (PV.l 2 A.length (rowP enc2 A)))), (1, V.c (C.p (PV.l 2 B.length (rowP enc2 B)))), (5, V.c (C.p (PV.i IntKind.i64 (i + 1))))] []))))))
    (Tr.done (X.exit 0)
      (cst 26 [(0, V.c (C.p (PV.l 2 A.length (rowP enc2 A)))), (1, V.c (C.p (PV.l 2 B.length (rowP enc2 B)))), (5, V.c (C.p (PV.i IntKind.i64 i)))] [])) := by kernel_rfl
theorem tSame3 (A B : List (ByteArray × ByteArray)) (i : Int) : exTs ext0 (dropL 5 (pcs Try.prog Try.f81)) (cst 26 [(0, listV enc2 2 A), (1, listV enc2 2 B), (5, iV i)] []) (endF [] [] (resOf Try.prog Try.f81)) = Tr.done X.ret (St.mk [V.c (C.p (PV.b true))] []) := by kernel_rfl
theorem drop_cons {A : List (ByteArray × ByteArray)} {i : Nat} (h : i < A.length) : A.drop i = A.getD i default :: A.drop (i + 1) := by
  rw [List.drop_eq_getElem_cons h, List.getD_eq_getElem?_getD, List.getElem?_eq_getElem h]; rfl
theorem cmpL_step {A B : List (ByteArray × ByteArray)} {i : Nat} (h1 : i < A.length) (h2 : i < B.length) : cmpL (A.drop i) (B.drop i) = if A.getD i default = B.getD i default then cmpL (A.drop (i + 1)) (B.drop (i + 1)) else if (A.getD i default).1 = (B.getD i default).1 then cmpS (A.getD i default).2 (B.getD i default).2 else cmpS (A.getD i default).1 (B.getD i default).1 := by
  rw [drop_cons h1, drop_cons h2, cmpL]
theorem cmpL_end {A B : List (ByteArray × ByteArray)} {i : Nat} (h1 : i ≤ A.length) (h2 : i ≤ B.length) (h3 : ¬ (i < A.length ∧ i < B.length)) : cmpL (A.drop i) (B.drop i) = cmpZ A.length B.length := by
  unfold cmpZ
  by_cases e1 : i = A.length
  · rw [List.drop_of_length_le (show A.length ≤ i by omega)]
    by_cases e2 : i = B.length
    · rw [List.drop_of_length_le (show B.length ≤ i by omega), if_neg (by omega), if_neg (by omega)]; rfl
    · rw [drop_cons (show i < B.length by omega), if_pos (by omega)]; rfl
  · have e2 : i = B.length := by omega
    rw [List.drop_of_length_le (show B.length ≤ i by omega), drop_cons (show i < A.length by omega), if_neg (by omega), if_pos (by omega)]; rfl
theorem take_snocL {A : List (ByteArray × ByteArray)} {i : Nat} (h : i < A.length) : A.take (i + 1) = A.take i ++ [A.getD i default] := by
  rw [List.take_add_one, List.getD_eq_getElem?_getD, List.getElem?_eq_getElem h]; rfl
theorem pairs_eq (a b : ByteArray × ByteArray) : (decide (a.fst = b.fst) && (decide (a.snd = b.snd) && true)) = decide (a = b) := by
  rw [Bool.and_true, Bool.eq_iff_iff]
  simp [Prod.ext_iff]
theorem eq_of_getD {α : Type} [Inhabited α] {A B : List α} (hl : A.length = B.length) (h : ∀ k, k < A.length → A.getD k default = B.getD k default) : A = B := by
  apply List.ext_getElem hl
  intro k h1 h2
  have := h k h1
  simpa [h1, h2] using this

theorem beq_bytes2 (a b : ByteArray) : (a.toList == b.toList) = decide (a = b) := by
  rw [Bool.eq_iff_iff, decide_eq_true_iff, beq_iff_eq, ByteArray.toList_eq, ByteArray.toList_eq]
  exact ⟨fun h => ByteArray.ext (Array.toList_inj.mp h), fun h => by rw [h]⟩
section
variable {G : Nat → Option Obj}
theorem okNanS : ModOK Try.prog G 84 mNanS := by
  intro args p v hm hp h
  unfold mNanS at hm
  split at hm; rotate_left; · cases hm
  rename_i a
  obtain ⟨rfl, rfl⟩ := some_pair hm
  refine fn_T ext0_sound Try.func84 (by kernel_rfl) rfl (tNS a) ?_ h
  simp only [holds_done, KF]
  exact ⟨_, rfl, VLe.of_eq (by simp [bV])⟩
theorem okNanI : ModOK Try.prog G 85 mNanI := by
  intro args p v hm hp h
  unfold mNanI at hm
  split at hm; rotate_left; · cases hm
  rename_i a
  obtain ⟨rfl, rfl⟩ := some_pair hm
  refine fn_T ext0_sound Try.func85 (by kernel_rfl) rfl (tNI a) ?_ h
  simp only [holds_done, KF]
  exact ⟨_, rfl, VLe.of_eq (by simp [bV])⟩
theorem extCm_sound : SoundExt Try.prog G extCm := extOf_sound (by simp; exact ⟨okNanS, okNanI⟩)
theorem cmpS_cases (a b : ByteArray) : (Op.bytesLess a.toList b.toList = true → cmpS a b = -1) ∧ (Op.bytesLess a.toList b.toList = false → (Op.bytesLess a.toList b.toList || decide (a = b)) = false → cmpS a b = 1) ∧ (Op.bytesLess a.toList b.toList = false → (Op.bytesLess a.toList b.toList || decide (a = b)) = true → cmpS a b = 0) := by
  unfold cmpS lessS
  refine ⟨fun h => if_pos h, fun h k => ?_, fun h k => ?_⟩
  · rw [h] at k ⊢
    rw [if_neg (by simp), if_neg (by simpa using k)]
  · rw [h] at k ⊢
    rw [if_neg (by simp), if_pos (by simpa using k)]
theorem okCmpS : ModOK Try.prog G 59 mCmpS := by
  intro args p v hm hp h
  unfold mCmpS at hm
  split at hm; rotate_left; · cases hm
  rename_i a b
  obtain ⟨rfl, rfl⟩ := some_pair hm
  obtain ⟨c1, c2, c3⟩ := cmpS_cases a b
  refine fn_T extCm_sound Try.func59 (by kernel_rfl) rfl (tCS a b) ?_ h
  simp only [holds_bT, holds_rq, holds_done, KF, beq_bytes2, Bool.not_eq_true', Bool.not_eq_false']
  exact ⟨trivial, trivial, fun h => ⟨_, rfl, VLe.of_eq (by rw [c1 h]; rfl)⟩, fun h => ⟨fun k => ⟨_, rfl, VLe.of_eq (by rw [c2 h k]; rfl)⟩, fun k => ⟨_, rfl, VLe.of_eq (by rw [c3 h k]; rfl)⟩⟩⟩
theorem okOrder : ModOK Try.prog G 86 mCmpS := by
  intro args p v hm hp h
  unfold mCmpS at hm
  split at hm; rotate_left; · cases hm
  rename_i a b
  obtain ⟨rfl, rfl⟩ := some_pair hm
  obtain ⟨c1, c2, c3⟩ := cmpS_cases a b
  refine fn_T ext0_sound Try.func86 (by kernel_rfl) rfl (tOr a b) ?_ h
  simp only [holds_bT, holds_rq, holds_done, KF, beq_bytes2, Bool.not_eq_true', Bool.not_eq_false']
  exact ⟨fun h => ⟨_, rfl, VLe.of_eq (by rw [c1 h]; rfl)⟩, fun h => ⟨fun k => ⟨_, rfl, VLe.of_eq (by rw [c2 h k]; rfl)⟩, fun k => ⟨_, rfl, VLe.of_eq (by rw [c3 h k]; rfl)⟩⟩⟩
theorem okCmpI : ModOK Try.prog G 60 mCmpI := by
  intro args p v hm hp h
  unfold mCmpI at hm
  split at hm; rotate_left; · cases hm
  rename_i a b
  obtain ⟨rfl, rfl⟩ := some_pair hm
  refine fn_T extCm_sound Try.func60 (by kernel_rfl) rfl (tCI a b) ?_ h
  simp only [holds_bT, holds_rq, holds_done, KF, decide_eq_true_eq, decide_eq_false_iff_not]
  unfold cmpZ
  exact ⟨trivial, trivial, fun h => ⟨_, rfl, VLe.of_eq (by rw [if_pos h]; rfl)⟩, fun h => ⟨fun k => ⟨_, rfl, VLe.of_eq (by rw [if_neg h, if_pos k]; rfl)⟩, fun k => ⟨_, rfl, VLe.of_eq (by rw [if_neg h, if_neg k]; rfl)⟩⟩⟩
theorem extCL_sound : SoundExt Try.prog G extCL := extOf_sound (by simp; exact ⟨okCmpS, okCmpI⟩)
theorem extOr_sound : SoundExt Try.prog G extOr := extOf_sound (by simp; exact okOrder)
set_option maxRecDepth 100000 in
theorem okCompare : ModOK Try.prog G 61 mCmpL := by
  intro args p v hm hp h
  unfold mCmpL at hm
  split at hm; rotate_left; · cases hm
  rename_i n f m g
  obtain ⟨rfl, rfl⟩ := some_pair hm
  obtain ⟨⟨hA, hB⟩, hn⟩ := hp
  have hlen : (decL dec2 n f).length ≤ 1000000 := by rw [hA.1]; exact hn
  generalize decL dec2 n f = A at hA hlen
  generalize decL dec2 m g = B at hB
  refine FnS.args (args' := [listV enc2 2 A, listV enc2 2 B]) ?_ (.cons hA.le (.cons hB.le .nil))
  clear hA hB hn
  refine fn_S Try.func61 (by kernel_rfl) rfl ?_ h
  refine ExS.evG extCL_sound 2 (tCm1 A B) ?_
  simp only [holds_leaf, kf_normal]
  refine ⟨?_⟩
  have hmn : (if (B.length : Int) < (A.length : Int) then (B.length : Int) else (A.length : Int)) = (min A.length B.length : Nat) := by
    split <;> omega
  rw [hmn]
  refine ExS.loop' (l := dropL 2 (pcs Try.prog Try.f61)) (b := inr (inr (nth .skip (pcs Try.prog Try.f61) 2))) (r := dropL 3 (pcs Try.prog Try.f61)) (id := 0) (by kernel_rfl) (σ := Nat)
    (fun i => (fun n => cst 62 [(0, listV enc2 2 A), (1, listV enc2 2 B), (10, iV n), (11, iV (i : Nat))] []) ((min A.length B.length : Nat) : Int)) (fun i => i ≤ min A.length B.length ∧ cmpL A B = cmpL (A.drop i) (B.drop i)) (fun i => min A.length B.length - i) 0 ⟨Nat.zero_le _, rfl⟩ (weak_of_eq (by kernel_rfl)) ?_
  rintro i ⟨hi, hc⟩ Q1 q1n q1e -
  refine ExS.evH extCL_sound (tCm2 A B ((min A.length B.length : Nat) : Int) i) ?_
  simp only [holds_bT, holds_rq, holds_leaf, kf_ret', kf_normal, kf_exit, decide_eq_true_eq, decide_eq_false_iff_not, pairs_eq, beq_bytes2, Bool.not_eq_true', Bool.not_eq_false', inR, show (↑i : Int).toNat = i from rfl]
  have st := fun (h1 : i < A.length) (h2 : i < B.length) => cmpL_step h1 h2
  refine ⟨fun h1 => ?_, fun h1 => ⟨q1e _ ?_⟩⟩
  · have a1 : i < A.length := by omega
    have a2 : i < B.length := by omega
    have st := st a1 a2
    refine ⟨by omega, by omega, fun c1 => ⟨by omega, ⟨q1n (i + 1) _ ⟨by omega, ?_⟩ (by omega) (weak_of_eq (by kernel_rfl))⟩⟩, fun c1 => ⟨by omega, by omega, fun c2 => ⟨by omega, by omega, trivial, ⟨VLe.of_eq ?_⟩⟩, fun c2 => ⟨by omega, by omega, trivial, ⟨VLe.of_eq ?_⟩⟩⟩⟩
    · rw [hc, st, if_pos c1]
    · rw [hc, st, if_neg c1, if_neg c2]; rfl
    · rw [hc, st, if_neg c1, if_pos c2]; rfl
  · refine ExS.evH extCL_sound (tCm3 A B ((min A.length B.length : Nat) : Int) i) ?_
    simp only [holds_rq, holds_leaf, kf_ret']
    refine ⟨trivial, ⟨VLe.of_eq ?_⟩⟩
    rw [hc, cmpL_end (by omega) (by omega) (by omega)]; rfl
set_option maxRecDepth 100000 in
theorem okCompareR : ModOK Try.prog G 64 mCmpL := by
  intro args p v hm hp h
  unfold mCmpL at hm
  split at hm; rotate_left; · cases hm
  rename_i n f m g
  obtain ⟨rfl, rfl⟩ := some_pair hm
  obtain ⟨⟨hA, hB⟩, hn⟩ := hp
  have hlen : (decL dec2 n f).length ≤ 1000000 := by rw [hA.1]; exact hn
  generalize decL dec2 n f = A at hA hlen
  generalize decL dec2 m g = B at hB
  refine FnS.args (args' := [listV enc2 2 A, listV enc2 2 B]) ?_ (.cons hA.le (.cons hB.le .nil))
  clear hA hB hn
  refine fn_S Try.func64 (by kernel_rfl) rfl ?_ h
  refine ExS.evG extOr_sound 2 (tD1 A B) ?_
  simp only [holds_leaf, kf_normal]
  refine ⟨?_⟩
  refine ExS.loop' (l := dropL 2 (pcs Try.prog Try.f64)) (b := inr (inr (nth .skip (pcs Try.prog Try.f64) 2))) (r := dropL 3 (pcs Try.prog Try.f64)) (id := 0) (by kernel_rfl) (σ := Nat)
    (fun i => cst 56 [(0, listV enc2 2 A), (1, listV enc2 2 B), (5, iV (i : Nat))] []) (fun i => i ≤ min A.length B.length ∧ cmpL A B = cmpL (A.drop i) (B.drop i)) (fun i => min A.length B.length - i) 0 ⟨Nat.zero_le _, rfl⟩ (weak_of_eq (by kernel_rfl)) ?_
  rintro i ⟨hi, hc⟩ Q1 q1n q1e -
  have after : ¬ (i < A.length ∧ i < B.length) → ExS Try.prog G (resOf Try.prog Try.f64) (iV (cmpL A B)) (dropL 3 (pcs Try.prog Try.f64)) (cst 56 [(0, listV enc2 2 A), (1, listV enc2 2 B), (5, iV (i : Nat))] []) (fun _ _ => False) := fun hge => by
    have he := cmpL_end (A := A) (B := B) (i := i) (by omega) (by omega) hge
    rw [← hc] at he
    refine ExS.evH ext0_sound (tD3 A B i) ?_
    rw [he]
    unfold cmpZ
    simp only [holds_bT, holds_rq, holds_leaf, kf_ret', decide_eq_true_eq, decide_eq_false_iff_not]
    exact ⟨fun h1 => ⟨VLe.of_eq (by rw [if_pos h1]; rfl)⟩, fun h1 => ⟨fun h2 => ⟨VLe.of_eq (by rw [if_neg h1, if_pos h2]; rfl)⟩, fun h2 => ⟨VLe.of_eq (by rw [if_neg h1, if_neg h2]; rfl)⟩⟩⟩
  refine ExS.evH extOr_sound (tD2 A B i) ?_
  simp only [holds_bT, holds_rq, holds_leaf, kf_ret', kf_normal, kf_exit, decide_eq_true_eq, decide_eq_false_iff_not, beq_iff_eq, beq_eq_false_iff_ne, bne_iff_ne, bne_eq_false_iff_eq, ne_eq, Decidable.not_not, inR, show (↑i : Int).toNat = i from rfl]
  refine ⟨fun h1 => ⟨fun h2 => ?_, fun h2 => ⟨q1e _ (after (by omega))⟩⟩, fun h1 => ⟨q1e _ (after (by omega))⟩⟩
  have a1 : i < A.length := by omega
  have a2 : i < B.length := by omega
  have st := cmpL_step a1 a2
  refine ⟨by omega, by omega, trivial, fun c1 => ⟨by omega, by omega, trivial, fun c2 => ⟨VLe.of_eq ?_⟩, fun c2 => ⟨by omega, ⟨q1n (i + 1) _ ⟨by omega, ?_⟩ (by omega) (weak_of_eq (by kernel_rfl))⟩⟩⟩, fun c1 => ⟨fun c2 => ⟨VLe.of_eq ?_⟩, fun c2 => absurd c2 c1⟩⟩
  · have e1 := cmpS_zero.1 c1
    have e2 : A.getD i default ≠ B.getD i default := fun e => c2 (cmpS_zero.2 (by rw [e]))
    rw [hc, st, if_neg e2, if_pos e1]; rfl
  · have e1 := cmpS_zero.1 c1
    have e2 := cmpS_zero.1 c2
    rw [hc, st, if_pos (Prod.ext e1 e2)]
  · have e1 : (A.getD i default).1 ≠ (B.getD i default).1 := fun e => c1 (cmpS_zero.2 e)
    rw [hc, st, if_neg (fun e => e1 (by rw [e])), if_neg e1]; rfl
set_option maxRecDepth 100000 in
theorem okLSame : ModOK Try.prog G 81 mLSame := by
  intro args p v hm hp h
  unfold mLSame at hm
  split at hm; rotate_left; · cases hm
  rename_i n f m g
  obtain ⟨rfl, rfl⟩ := some_pair hm
  obtain ⟨⟨hA, hB⟩, hn⟩ := hp
  generalize decL dec2 n f = A at hA
  generalize decL dec2 m g = B at hB
  refine FnS.args (args' := [listV enc2 2 A, listV enc2 2 B]) ?_ (.cons hA.le (.cons hB.le .nil))
  have hlen : A.length ≤ 1000000 ∨ B.length ≤ 1000000 := by rw [hA.1, hB.1]; exact hn
  clear hA hB hn
  refine fn_S Try.func81 (by kernel_rfl) rfl ?_ h
  refine ExS.ev ext0_sound 4 [] (msk 26 [0, 1, 5]) rfl (tSame1 A B) ?_
  simp only [holds_bT, holds_done, kf_ret', kf_normal]
  refine ⟨fun h1 => VLe.of_eq ?_, fun h1 => ?_⟩
  · have h1 : A.length ≠ B.length := by simp at h1; omega
    rw [decide_eq_false (fun e => h1 (by rw [e]))]; rfl
  · have h1 : A.length = B.length := by simp at h1; omega
    refine ExS.loop (l := dropL 4 (pcs Try.prog Try.f81)) (b := inr (inr (nth .skip (pcs Try.prog Try.f81) 4))) (r := dropL 5 (pcs Try.prog Try.f81)) (id := 0) (by kernel_rfl)
      (fun i : Int => cst 26 [(0, listV enc2 2 A), (1, listV enc2 2 B), (5, iV i)] []) (fun i => 0 ≤ i ∧ i ≤ A.length ∧ ∀ k, k < i.toNat → A.getD k default = B.getD k default) (fun i => (A.length - i).toNat) 0 ⟨by omega, by omega, fun k hk => absurd hk (by simp)⟩ (weak_of_eq (by kernel_rfl)) ?_
    rintro i ⟨i0, i1, hi⟩
    refine ExS.evA ext0_sound [] (msk 26 [0, 1, 5]) rfl (tSame2 A B i) ?_
    have key : ((A.getD i.toNat default).fst.toList == (B.getD i.toNat default).fst.toList && ((A.getD i.toNat default).snd.toList == (B.getD i.toNat default).snd.toList && true)) = decide (A.getD i.toNat default = B.getD i.toNat default) := by
      rw [beq_bytes2, beq_bytes2, Bool.and_true, Bool.eq_iff_iff]
      simp [Prod.ext_iff]
    rw [key]
    have bad : A.getD i.toNat default ≠ B.getD i.toNat default → VLe (V.c (C.p (PV.b false))) (bV (decide (A = B))) := fun hne => by
      rw [decide_eq_false (fun e => hne (by rw [e]))]; exact VLe.refl _
    have good : i < A.length → A.getD i.toNat default = B.getD i.toNat default → ∃ j : Int, (0 ≤ j ∧ j ≤ A.length ∧ ∀ k, k < j.toNat → A.getD k default = B.getD k default) ∧ (A.length - j).toNat < (A.length - i).toNat ∧ WeakS G (cst 26 [(0, V.c (C.p (PV.l 2 A.length (rowP enc2 A)))), (1, V.c (C.p (PV.l 2 B.length (rowP enc2 B)))), (5, V.c (C.p (PV.i IntKind.i64 (i + 1))))] []) ((fun i : Int => cst 26 [(0, listV enc2 2 A), (1, listV enc2 2 B), (5, iV i)] []) j) := fun hlt he =>
      ⟨i + 1, ⟨by omega, by omega, fun k hk => by
        by_cases hk' : k < i.toNat
        · exact hi k hk'
        · obtain rfl : k = i.toNat := by omega
          exact he⟩, by omega, weak_of_eq (by kernel_rfl)⟩
    have after : ¬ i < A.length → ExS Try.prog G (resOf Try.prog Try.f81) (bV (decide (A = B))) (dropL 5 (pcs Try.prog Try.f81)) (cst 26 [(0, V.c (C.p (PV.l 2 A.length (rowP enc2 A)))), (1, V.c (C.p (PV.l 2 B.length (rowP enc2 B)))), (5, V.c (C.p (PV.i IntKind.i64 i)))] []) (fun _ _ => False) := fun hlt => by
      refine ExS.evA ext0_sound [] [] rfl (tSame3 A B i) ?_
      simp only [holds_done, kf_ret']
      rw [decide_eq_true (eq_of_getD h1 fun k hk => hi k (by omega))]
      exact VLe.refl _
    simp only [holds_bT, holds_rq, holds_leaf, kf_ret', kf_normal, kf_exit, decide_eq_true_eq, decide_eq_false_iff_not, Bool.not_eq_true', Bool.not_eq_false', inR, if_true]
    repeat' (first | apply And.intro | intro _)
    all_goals first | trivial | (clear bad good after hi; omega) | exact ⟨after ‹_›⟩ | exact ⟨bad ‹_›⟩ | exact ⟨good ‹_› ‹_›⟩
end
end Go.AE
