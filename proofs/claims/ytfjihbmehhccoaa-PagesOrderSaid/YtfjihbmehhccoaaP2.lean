/- AE contracts: slices.Clone of labels, pages.separate, New. -/
import Derived.Test.YtfjihbmehhccoaaP1
namespace Go.AE
set_option linter.unusedVariables false
set_option linter.unusedSimpArgs false
open Go.Proofs Go.Proofs.Ytfjihbmehhccoaa Go.RowKit
def mClone : Mod
  | [x] => match lbOf x with
    | some (p, L) => some (p ∧ L.length ≤ 1000000, listV enc2 2 L)
    | none => none
  | _ => none
def mSep : Mod
  | [x] => match pgOf x with
    | some (p, ⟨kd, ru, ve, L, st, se, to⟩) => some (p ∧ L.length ≤ 1000000, pgW kd ru ve L st se to)
    | none => none
  | _ => none
def extClo : Ext := extOf [(78, mClone)]
theorem tClone (L : List (ByteArray × ByteArray)) : exT ext0 (codeOf Try.prog Try.f78) (st0 Try.f78 [listV enc2 2 L]) (endF [] [] (resOf Try.prog Try.f78)) = bT (decide (0 < L.length))
    (Tr.rq (0 = 0)
      (Tr.rq ((0 + L.length) * 32 ≤ 140737488355328 ∧ 0 + L.length ≤ 140737488355328 ∧ ∀ (e o : Nat), e < L.length → o < 2 → oneC (C.p (rowP enc2 L e o)) = true)
        (Tr.rq (0 + (0 + L.length) ≤ 0 + L.length ∧ ∀ (e o : Nat), e < 0 + L.length → o < 2 → isF (appF 0 (fun e o => nth C.top [] (e * 2 + o)) (fun e o => C.p (rowP enc2 L e o)) (e + 0) o) = true)
          (Tr.done X.ret (St.mk [V.c (C.p (PV.l 2 (0 + L.length) fun e o => unP (appF 0 (fun e o => nth C.top [] (e * 2 + o)) (fun e o => C.p (rowP enc2 L e o)) (e + 0) o)))] [])))))
    ((Tr.done X.ret (St.mk [V.c (C.p (PV.z (Value.slice none 0 0)))] [])).alt
      (Tr.rq (0 = 0)
        (Tr.rq ((0 + L.length) * 32 ≤ 140737488355328 ∧ 0 + L.length ≤ 140737488355328 ∧ ∀ (e o : Nat), e < L.length → o < 2 → oneC (C.p (rowP enc2 L e o)) = true)
          (Tr.rq (0 + (0 + L.length) ≤ 0 + L.length ∧ ∀ (e o : Nat), e < 0 + L.length → o < 2 → isF (appF 0 (fun e o => nth C.top [] (e * 2 + o)) (fun e o => C.p (rowP enc2 L e o)) (e + 0) o) = true)
            (Tr.done X.ret (St.mk [V.c (C.p (PV.l 2 (0 + L.length) fun e o => unP (appF 0 (fun e o => nth C.top [] (e * 2 + o)) (fun e o => C.p (rowP enc2 L e o)) (e + 0) o)))] [])))))) := by kernel_rfl
theorem tSep (kd ve st se : Int) (ru to : ByteArray) (L : List (ByteArray × ByteArray)) : exT extClo (codeOf Try.prog Try.f49) (st0 Try.f49 [pgW kd ru ve L st se to]) (endF [] [] (resOf Try.prog Try.f49)) = Tr.rq (IsL enc2 2 (decL dec2 L.length (rowP enc2 L)) L.length (rowP enc2 L) ∧ (decL dec2 L.length (rowP enc2 L)).length ≤ 1000000)
    (Tr.done X.ret
      (St.mk [V.a [C.p (PV.i IntKind.i64 kd), C.p (PV.s ru), C.p (PV.i IntKind.i64 ve), C.p (PV.l 2 (decL dec2 L.length (rowP enc2 L)).length (rowP enc2 (decL dec2 L.length (rowP enc2 L)))), C.p (PV.i IntKind.i64 st), C.p (PV.i IntKind.i64 se), C.p (PV.s to)]] [])) := by kernel_rfl
section
variable {G : Nat → Option Obj}
theorem okClone : ModOK Try.prog G 78 mClone := by
  intro args p v hm hp h
  unfold mClone at hm
  split at hm; rotate_left; · cases hm
  split at hm; rotate_left; · cases hm
  rename_i x _ q L hx
  obtain ⟨rfl, rfl⟩ := some_pair hm
  refine FnS.args (args' := [listV enc2 2 L]) ?_ (.cons (lbOf_le hx hp.1) .nil)
  obtain ⟨_, hL⟩ := hp
  refine fn_T ext0_sound Try.func78 (by kernel_rfl) rfl (tClone L) ?_ h
  simp only [holds_alt, holds_bT, holds_rq, holds_done, KF]
  clear hm hx
  have one : ∀ (e o : Nat), oneC (C.p (rowP enc2 L e o)) = true := fun e o => by
    unfold rowP enc2; split <;> rfl
  have row : ∀ (e o : Nat), appF 0 (fun e o => nth C.top [] (e * 2 + o)) (fun e o => C.p (rowP enc2 L e o)) (e + 0) o = C.p (rowP enc2 L e o) := fun e o => rfl
  have key : VLe (V.c (C.p (PV.l 2 (0 + L.length) fun e o => unP (appF 0 (fun e o => nth C.top [] (e * 2 + o)) (fun e o => C.p (rowP enc2 L e o)) (e + 0) o)))) (listV enc2 2 L) := by
    rw [Nat.zero_add]
    exact VLe.refl _
  have big : (0 + L.length) * 32 ≤ 140737488355328 ∧ 0 + L.length ≤ 140737488355328 ∧ ∀ (e o : Nat), e < L.length → o < 2 → oneC (C.p (rowP enc2 L e o)) = true := ⟨by omega, by omega, fun e o _ _ => one e o⟩
  have fin := fun (e o : Nat) (_ : e < 0 + L.length) (_ : o < 2) => show isF (appF 0 (fun e o => nth C.top [] (e * 2 + o)) (fun e o => C.p (rowP enc2 L e o)) (e + 0) o) = true from rfl
  refine ⟨fun _ => ⟨trivial, big, ⟨by omega, fin⟩, _, rfl, key⟩, fun h0 => ⟨⟨_, rfl, ?_⟩, trivial, big, ⟨by omega, fin⟩, _, rfl, key⟩⟩
  have h0 : L.length = 0 := by have := of_decide_eq_false h0; omega
  obtain rfl := List.eq_nil_of_length_eq_zero h0
  exact VLe.p (PLe.nil 2 _)
theorem extClo_sound : SoundExt Try.prog G extClo := extOf_sound (by simp; exact okClone)
theorem okSep : ModOK Try.prog G 49 mSep := by
  intro args p v hm hp h
  unfold mSep at hm
  split at hm; rotate_left; · cases hm
  split at hm; rotate_left; · cases hm
  rename_i x _ q kd ru ve L st se to hx
  obtain ⟨rfl, rfl⟩ := some_pair hm
  refine FnS.args (args' := [pgV ⟨kd, ru, ve, L, st, se, to⟩]) ?_ (.cons (pgOf_le hx hp.1) .nil)
  refine fn_T extClo_sound Try.func49 (by kernel_rfl) rfl (tSep kd ve st se ru to L) ?_ h
  simp only [holds_alt, holds_bT, holds_rq, holds_done, KF]
  clear hm hx
  rw [dec2_row]
  exact ⟨⟨isL_row _ _ _, hp.2⟩, _, rfl, VLe.refl _⟩
end
end Go.AE
