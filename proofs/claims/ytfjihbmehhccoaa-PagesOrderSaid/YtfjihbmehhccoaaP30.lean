/- The law PagesOrder. -/
import Derived.Test.YtfjihbmehhccoaaP29
namespace Go.AE
set_option linter.unusedVariables false
set_option linter.unusedSimpArgs false
open Go.Proofs Go.Proofs.Ytfjihbmehhccoaa Gp Go.RowKit
theorem orL_in : ∀ (l : List Int), (∀ x ∈ l, -1 ≤ x ∧ x ≤ 1) → -1 ≤ orL l ∧ orL l ≤ 1
  | [], _ => by unfold orL; omega
  | x :: r, h => by
    unfold orL
    split
    · exact h x (List.mem_cons_self ..)
    · exact orL_in r fun y hy => h y (List.mem_cons_of_mem _ hy)
theorem cmpS_in (a b : ByteArray) : -1 ≤ cmpS a b ∧ cmpS a b ≤ 1 := by unfold cmpS; split <;> (try split) <;> omega
theorem cmpZ_in (a b : Int) : -1 ≤ cmpZ a b ∧ cmpZ a b ≤ 1 := by unfold cmpZ; split <;> (try split) <;> omega
theorem cmpL_in : ∀ (a b : List (ByteArray × ByteArray)), -1 ≤ cmpL a b ∧ cmpL a b ≤ 1
  | [], [] => by simp [cmpL]
  | [], _ :: _ => by simp [cmpL]
  | _ :: _, [] => by simp [cmpL]
  | x :: xs, y :: ys => by
    rw [cmpL]
    split
    · exact cmpL_in xs ys
    · split <;> exact cmpS_in _ _
theorem cmpP_in (a b : Pg) : inR .i64 (-cmpP a b) := by
  have := orL_in (cmpsP a b) (by
    unfold cmpsP
    intro x hx
    simp only [List.mem_cons, List.not_mem_nil, or_false] at hx
    rcases hx with rfl | rfl | rfl | rfl | rfl | rfl | rfl
    · exact cmpS_in _ _
    · exact cmpZ_in _ _
    · exact cmpL_in _ _
    · exact cmpZ_in _ _
    · exact cmpZ_in _ _
    · exact cmpZ_in _ _
    · exact cmpS_in _ _)
  unfold cmpP inR
  omega
theorem zeroB (p q : Pg) : ((cmpP p q == 0) == decide ([p] = [q])) = true := by
  have := cmpP_zero p q
  by_cases h : p = q
  · subst h; simp [this.2 rfl]
  · have h2 : ¬ cmpP p q = 0 := fun e => h (this.1 e)
    simp [h, h2]
theorem pgF (p : Pg) : ∀ e o : Nat, e < 1 → o < 7 → isF (nth C.top [C.p (.i .i64 p.kd), C.p (.s p.ru), C.p (.i .i64 p.ve), C.p (.l 2 p.L.length (rowP enc2 p.L)), C.p (.i .i64 p.st), C.p (.i .i64 p.se), C.p (.s p.to)] (e * 7 + o)) = true := by
  intro e o he ho
  obtain rfl : e = 0 := by omega
  have : o = 0 ∨ o = 1 ∨ o = 2 ∨ o = 3 ∨ o = 4 ∨ o = 5 ∨ o = 6 := by omega
  rcases this with rfl | rfl | rfl | rfl | rfl | rfl | rfl <;> rfl
theorem pgL (p : Pg) : ∀ e o : Nat, e < 1 → o < 7 → PLe (unP (bslF [C.p (.i .i64 p.kd), C.p (.s p.ru), C.p (.i .i64 p.ve), C.p (.l 2 p.L.length (rowP enc2 p.L)), C.p (.i .i64 p.st), C.p (.i .i64 p.se), C.p (.s p.to)] 7 1 (e + 0) o)) (rowP encPg [p] e o) := by
  intro e o he ho
  obtain rfl : e = 0 := by omega
  refine PLe.of_eq ?_
  have : o = 0 ∨ o = 1 ∨ o = 2 ∨ o = 3 ∨ o = 4 ∨ o = 5 ∨ o = 6 := by omega
  rcases this with rfl | rfl | rfl | rfl | rfl | rfl | rfl <;> rfl
theorem lab_len (n : Int) : (labZ n).length ≤ 1000000 := by
  unfold labZ
  split
  · decide
  · split
    · decide
    · split <;> decide
section
variable {G : Nat → Option Obj}
theorem extW1_sound : SoundExt Try.prog G extW1 := extOf_sound (by simp; exact okGPage)
theorem extW2_sound (a b : Pg) : SoundExt Try.prog G (extW2 a b) := extH_sound (by simp; exact ⟨okPComp.lift, okGComp.lift, frzA_ok (okEqX [a] [b])⟩)
theorem extW3_sound : SoundExt Try.prog G extW3 := extOf_sound (by simp; exact ⟨okPComp, okLives31⟩)
set_option maxRecDepth 100000 in
theorem stepW00 (p q r : Pg) (hp : p.L.length ≤ 1000000) (hq : q.L.length ≤ 1000000) (hr : r.L.length ≤ 1000000) {Q : X → St → Prop} (hn : ∀ st, WeakS G st (cst 103 [(5, .c (.ptr 0 0)), (7, iV 0), (8, iV 1)] [.cells 60 [.p (.i .i64 p.kd), .p (.s p.ru), .p (.i .i64 p.ve), .p (listP enc2 2 p.L), .p (.i .i64 p.st), .p (.i .i64 p.se), .p (.s p.to), .p (.i .i64 q.kd), .p (.s q.ru), .p (.i .i64 q.ve), .p (listP enc2 2 q.L), .p (.i .i64 q.st), .p (.i .i64 q.se), .p (.s q.to), .p (.i .i64 r.kd), .p (.s r.ru), .p (.i .i64 r.ve), .p (listP enc2 2 r.L), .p (.i .i64 r.st), .p (.i .i64 r.se), .p (.s r.to)]]) → Q .normal st) : ExS Try.prog G (resOf Try.prog Try.f8) (bV true) (lpB (flat (inr (nth .skip (lpB (pcs Try.prog Try.f8) 5) 2))) 1) (cst 103 [(5, .c (.ptr 0 0)), (7, iV 0), (8, iV 0)] [.cells 60 [.p (.i .i64 p.kd), .p (.s p.ru), .p (.i .i64 p.ve), .p (listP enc2 2 p.L), .p (.i .i64 p.st), .p (.i .i64 p.se), .p (.s p.to), .p (.i .i64 q.kd), .p (.s q.ru), .p (.i .i64 q.ve), .p (listP enc2 2 q.L), .p (.i .i64 q.st), .p (.i .i64 q.se), .p (.s q.to), .p (.i .i64 r.kd), .p (.s r.ru), .p (.i .i64 r.ve), .p (listP enc2 2 r.L), .p (.i .i64 r.st), .p (.i .i64 r.se), .p (.s r.to)]]) Q := by
  refine ExS.evH (keep := msk 103 [5, 7, 8]) (extW2_sound p p) (tWI00 p q r) ?_
  simp only [holds_bT, holds_rq, holds_leaf, kf_ret', kf_normal, dec2_row]
  refine ⟨by decide, by decide, ⟨⟨isL_row _ _ _, isL_row _ _ _⟩, hp, hp⟩, by decide, by decide, ⟨⟨⟨⟨rfl, by decide⟩, trivial, trivial⟩, pgF p⟩, ⟨⟨trivial, ⟨rfl, by decide⟩, trivial⟩, pgF p⟩, ⟨⟨rfl, pgL p⟩, rfl, pgL p⟩, Nat.le_of_ble_eq_true rfl, fun x hx => by rw [List.mem_singleton.1 hx]; exact hp⟩, by decide, by decide, ⟨⟨isL_row _ _ _, isL_row _ _ _⟩, hp, hp⟩, fun h => by simp at h, fun _ => ⟨by decide, by decide, ⟨⟨isL_row _ _ _, isL_row _ _ _⟩, hp, hp⟩, cmpP_in p p, fun h => ?_, fun _ => ⟨fun h => ?_, fun _ => ⟨⟨by decide, by decide⟩, ⟨hn _ (weak_of_eq (by kernel_rfl))⟩⟩⟩⟩⟩
  · have h : (cmpP p p != -cmpP p p) = true := h
    rw [bne_iff_ne] at h
    exact absurd (cmpP_anti p p) h
  · have h : (!((cmpP p p == 0) == decide True)) = true := h
    rw [(cmpP_zero p p).2 rfl] at h
    simp at h
set_option maxRecDepth 100000 in
theorem stepW01 (p q r : Pg) (hp : p.L.length ≤ 1000000) (hq : q.L.length ≤ 1000000) (hr : r.L.length ≤ 1000000) {Q : X → St → Prop} (hn : ∀ st, WeakS G st (cst 103 [(5, .c (.ptr 0 0)), (7, iV 0), (8, iV 2)] [.cells 60 [.p (.i .i64 p.kd), .p (.s p.ru), .p (.i .i64 p.ve), .p (listP enc2 2 p.L), .p (.i .i64 p.st), .p (.i .i64 p.se), .p (.s p.to), .p (.i .i64 q.kd), .p (.s q.ru), .p (.i .i64 q.ve), .p (listP enc2 2 q.L), .p (.i .i64 q.st), .p (.i .i64 q.se), .p (.s q.to), .p (.i .i64 r.kd), .p (.s r.ru), .p (.i .i64 r.ve), .p (listP enc2 2 r.L), .p (.i .i64 r.st), .p (.i .i64 r.se), .p (.s r.to)]]) → Q .normal st) : ExS Try.prog G (resOf Try.prog Try.f8) (bV true) (lpB (flat (inr (nth .skip (lpB (pcs Try.prog Try.f8) 5) 2))) 1) (cst 103 [(5, .c (.ptr 0 0)), (7, iV 0), (8, iV 1)] [.cells 60 [.p (.i .i64 p.kd), .p (.s p.ru), .p (.i .i64 p.ve), .p (listP enc2 2 p.L), .p (.i .i64 p.st), .p (.i .i64 p.se), .p (.s p.to), .p (.i .i64 q.kd), .p (.s q.ru), .p (.i .i64 q.ve), .p (listP enc2 2 q.L), .p (.i .i64 q.st), .p (.i .i64 q.se), .p (.s q.to), .p (.i .i64 r.kd), .p (.s r.ru), .p (.i .i64 r.ve), .p (listP enc2 2 r.L), .p (.i .i64 r.st), .p (.i .i64 r.se), .p (.s r.to)]]) Q := by
  refine ExS.evH (keep := msk 103 [5, 7, 8]) (extW2_sound p q) (tWI01 p q r) ?_
  simp only [holds_bT, holds_rq, holds_leaf, kf_ret', kf_normal, dec2_row]
  refine ⟨by decide, by decide, ⟨⟨isL_row _ _ _, isL_row _ _ _⟩, hp, hq⟩, by decide, by decide, ⟨⟨⟨⟨rfl, by decide⟩, trivial, trivial⟩, pgF p⟩, ⟨⟨trivial, ⟨rfl, by decide⟩, trivial⟩, pgF q⟩, ⟨⟨rfl, pgL p⟩, rfl, pgL q⟩, Nat.le_of_ble_eq_true rfl, fun x hx => by rw [List.mem_singleton.1 hx]; exact hp⟩, by decide, by decide, ⟨⟨isL_row _ _ _, isL_row _ _ _⟩, hp, hq⟩, fun h => by simp at h, fun _ => ⟨by decide, by decide, ⟨⟨isL_row _ _ _, isL_row _ _ _⟩, hq, hp⟩, cmpP_in q p, fun h => ?_, fun _ => ⟨fun h => ?_, fun _ => ⟨⟨by decide, by decide⟩, ⟨hn _ (weak_of_eq (by kernel_rfl))⟩⟩⟩⟩⟩
  · have h : (cmpP p q != -cmpP q p) = true := h
    rw [bne_iff_ne] at h
    exact absurd (cmpP_anti p q) h
  · have h : (!((cmpP p q == 0) == decide ([p] = [q]))) = true := h
    rw [zeroB] at h
    cases h
set_option maxRecDepth 100000 in
theorem stepW02 (p q r : Pg) (hp : p.L.length ≤ 1000000) (hq : q.L.length ≤ 1000000) (hr : r.L.length ≤ 1000000) {Q : X → St → Prop} (hn : ∀ st, WeakS G st (cst 103 [(5, .c (.ptr 0 0)), (7, iV 0), (8, iV 3)] [.cells 60 [.p (.i .i64 p.kd), .p (.s p.ru), .p (.i .i64 p.ve), .p (listP enc2 2 p.L), .p (.i .i64 p.st), .p (.i .i64 p.se), .p (.s p.to), .p (.i .i64 q.kd), .p (.s q.ru), .p (.i .i64 q.ve), .p (listP enc2 2 q.L), .p (.i .i64 q.st), .p (.i .i64 q.se), .p (.s q.to), .p (.i .i64 r.kd), .p (.s r.ru), .p (.i .i64 r.ve), .p (listP enc2 2 r.L), .p (.i .i64 r.st), .p (.i .i64 r.se), .p (.s r.to)]]) → Q .normal st) : ExS Try.prog G (resOf Try.prog Try.f8) (bV true) (lpB (flat (inr (nth .skip (lpB (pcs Try.prog Try.f8) 5) 2))) 1) (cst 103 [(5, .c (.ptr 0 0)), (7, iV 0), (8, iV 2)] [.cells 60 [.p (.i .i64 p.kd), .p (.s p.ru), .p (.i .i64 p.ve), .p (listP enc2 2 p.L), .p (.i .i64 p.st), .p (.i .i64 p.se), .p (.s p.to), .p (.i .i64 q.kd), .p (.s q.ru), .p (.i .i64 q.ve), .p (listP enc2 2 q.L), .p (.i .i64 q.st), .p (.i .i64 q.se), .p (.s q.to), .p (.i .i64 r.kd), .p (.s r.ru), .p (.i .i64 r.ve), .p (listP enc2 2 r.L), .p (.i .i64 r.st), .p (.i .i64 r.se), .p (.s r.to)]]) Q := by
  refine ExS.evH (keep := msk 103 [5, 7, 8]) (extW2_sound p r) (tWI02 p q r) ?_
  simp only [holds_bT, holds_rq, holds_leaf, kf_ret', kf_normal, dec2_row]
  refine ⟨by decide, by decide, ⟨⟨isL_row _ _ _, isL_row _ _ _⟩, hp, hr⟩, by decide, by decide, ⟨⟨⟨⟨rfl, by decide⟩, trivial, trivial⟩, pgF p⟩, ⟨⟨trivial, ⟨rfl, by decide⟩, trivial⟩, pgF r⟩, ⟨⟨rfl, pgL p⟩, rfl, pgL r⟩, Nat.le_of_ble_eq_true rfl, fun x hx => by rw [List.mem_singleton.1 hx]; exact hp⟩, by decide, by decide, ⟨⟨isL_row _ _ _, isL_row _ _ _⟩, hp, hr⟩, fun h => by simp at h, fun _ => ⟨by decide, by decide, ⟨⟨isL_row _ _ _, isL_row _ _ _⟩, hr, hp⟩, cmpP_in r p, fun h => ?_, fun _ => ⟨fun h => ?_, fun _ => ⟨⟨by decide, by decide⟩, ⟨hn _ (weak_of_eq (by kernel_rfl))⟩⟩⟩⟩⟩
  · have h : (cmpP p r != -cmpP r p) = true := h
    rw [bne_iff_ne] at h
    exact absurd (cmpP_anti p r) h
  · have h : (!((cmpP p r == 0) == decide ([p] = [r]))) = true := h
    rw [zeroB] at h
    cases h
set_option maxRecDepth 100000 in
theorem stepW10 (p q r : Pg) (hp : p.L.length ≤ 1000000) (hq : q.L.length ≤ 1000000) (hr : r.L.length ≤ 1000000) {Q : X → St → Prop} (hn : ∀ st, WeakS G st (cst 103 [(5, .c (.ptr 0 0)), (7, iV 1), (8, iV 1)] [.cells 60 [.p (.i .i64 p.kd), .p (.s p.ru), .p (.i .i64 p.ve), .p (listP enc2 2 p.L), .p (.i .i64 p.st), .p (.i .i64 p.se), .p (.s p.to), .p (.i .i64 q.kd), .p (.s q.ru), .p (.i .i64 q.ve), .p (listP enc2 2 q.L), .p (.i .i64 q.st), .p (.i .i64 q.se), .p (.s q.to), .p (.i .i64 r.kd), .p (.s r.ru), .p (.i .i64 r.ve), .p (listP enc2 2 r.L), .p (.i .i64 r.st), .p (.i .i64 r.se), .p (.s r.to)]]) → Q .normal st) : ExS Try.prog G (resOf Try.prog Try.f8) (bV true) (lpB (flat (inr (nth .skip (lpB (pcs Try.prog Try.f8) 5) 2))) 1) (cst 103 [(5, .c (.ptr 0 0)), (7, iV 1), (8, iV 0)] [.cells 60 [.p (.i .i64 p.kd), .p (.s p.ru), .p (.i .i64 p.ve), .p (listP enc2 2 p.L), .p (.i .i64 p.st), .p (.i .i64 p.se), .p (.s p.to), .p (.i .i64 q.kd), .p (.s q.ru), .p (.i .i64 q.ve), .p (listP enc2 2 q.L), .p (.i .i64 q.st), .p (.i .i64 q.se), .p (.s q.to), .p (.i .i64 r.kd), .p (.s r.ru), .p (.i .i64 r.ve), .p (listP enc2 2 r.L), .p (.i .i64 r.st), .p (.i .i64 r.se), .p (.s r.to)]]) Q := by
  refine ExS.evH (keep := msk 103 [5, 7, 8]) (extW2_sound q p) (tWI10 p q r) ?_
  simp only [holds_bT, holds_rq, holds_leaf, kf_ret', kf_normal, dec2_row]
  refine ⟨by decide, by decide, ⟨⟨isL_row _ _ _, isL_row _ _ _⟩, hq, hp⟩, by decide, by decide, ⟨⟨⟨⟨rfl, by decide⟩, trivial, trivial⟩, pgF q⟩, ⟨⟨trivial, ⟨rfl, by decide⟩, trivial⟩, pgF p⟩, ⟨⟨rfl, pgL q⟩, rfl, pgL p⟩, Nat.le_of_ble_eq_true rfl, fun x hx => by rw [List.mem_singleton.1 hx]; exact hq⟩, by decide, by decide, ⟨⟨isL_row _ _ _, isL_row _ _ _⟩, hq, hp⟩, fun h => by simp at h, fun _ => ⟨by decide, by decide, ⟨⟨isL_row _ _ _, isL_row _ _ _⟩, hp, hq⟩, cmpP_in p q, fun h => ?_, fun _ => ⟨fun h => ?_, fun _ => ⟨⟨by decide, by decide⟩, ⟨hn _ (weak_of_eq (by kernel_rfl))⟩⟩⟩⟩⟩
  · have h : (cmpP q p != -cmpP p q) = true := h
    rw [bne_iff_ne] at h
    exact absurd (cmpP_anti q p) h
  · have h : (!((cmpP q p == 0) == decide ([q] = [p]))) = true := h
    rw [zeroB] at h
    cases h
set_option maxRecDepth 100000 in
theorem stepW11 (p q r : Pg) (hp : p.L.length ≤ 1000000) (hq : q.L.length ≤ 1000000) (hr : r.L.length ≤ 1000000) {Q : X → St → Prop} (hn : ∀ st, WeakS G st (cst 103 [(5, .c (.ptr 0 0)), (7, iV 1), (8, iV 2)] [.cells 60 [.p (.i .i64 p.kd), .p (.s p.ru), .p (.i .i64 p.ve), .p (listP enc2 2 p.L), .p (.i .i64 p.st), .p (.i .i64 p.se), .p (.s p.to), .p (.i .i64 q.kd), .p (.s q.ru), .p (.i .i64 q.ve), .p (listP enc2 2 q.L), .p (.i .i64 q.st), .p (.i .i64 q.se), .p (.s q.to), .p (.i .i64 r.kd), .p (.s r.ru), .p (.i .i64 r.ve), .p (listP enc2 2 r.L), .p (.i .i64 r.st), .p (.i .i64 r.se), .p (.s r.to)]]) → Q .normal st) : ExS Try.prog G (resOf Try.prog Try.f8) (bV true) (lpB (flat (inr (nth .skip (lpB (pcs Try.prog Try.f8) 5) 2))) 1) (cst 103 [(5, .c (.ptr 0 0)), (7, iV 1), (8, iV 1)] [.cells 60 [.p (.i .i64 p.kd), .p (.s p.ru), .p (.i .i64 p.ve), .p (listP enc2 2 p.L), .p (.i .i64 p.st), .p (.i .i64 p.se), .p (.s p.to), .p (.i .i64 q.kd), .p (.s q.ru), .p (.i .i64 q.ve), .p (listP enc2 2 q.L), .p (.i .i64 q.st), .p (.i .i64 q.se), .p (.s q.to), .p (.i .i64 r.kd), .p (.s r.ru), .p (.i .i64 r.ve), .p (listP enc2 2 r.L), .p (.i .i64 r.st), .p (.i .i64 r.se), .p (.s r.to)]]) Q := by
  refine ExS.evH (keep := msk 103 [5, 7, 8]) (extW2_sound q q) (tWI11 p q r) ?_
  simp only [holds_bT, holds_rq, holds_leaf, kf_ret', kf_normal, dec2_row]
  refine ⟨by decide, by decide, ⟨⟨isL_row _ _ _, isL_row _ _ _⟩, hq, hq⟩, by decide, by decide, ⟨⟨⟨⟨rfl, by decide⟩, trivial, trivial⟩, pgF q⟩, ⟨⟨trivial, ⟨rfl, by decide⟩, trivial⟩, pgF q⟩, ⟨⟨rfl, pgL q⟩, rfl, pgL q⟩, Nat.le_of_ble_eq_true rfl, fun x hx => by rw [List.mem_singleton.1 hx]; exact hq⟩, by decide, by decide, ⟨⟨isL_row _ _ _, isL_row _ _ _⟩, hq, hq⟩, fun h => by simp at h, fun _ => ⟨by decide, by decide, ⟨⟨isL_row _ _ _, isL_row _ _ _⟩, hq, hq⟩, cmpP_in q q, fun h => ?_, fun _ => ⟨fun h => ?_, fun _ => ⟨⟨by decide, by decide⟩, ⟨hn _ (weak_of_eq (by kernel_rfl))⟩⟩⟩⟩⟩
  · have h : (cmpP q q != -cmpP q q) = true := h
    rw [bne_iff_ne] at h
    exact absurd (cmpP_anti q q) h
  · have h : (!((cmpP q q == 0) == decide True)) = true := h
    rw [(cmpP_zero q q).2 rfl] at h
    simp at h
set_option maxRecDepth 100000 in
theorem stepW12 (p q r : Pg) (hp : p.L.length ≤ 1000000) (hq : q.L.length ≤ 1000000) (hr : r.L.length ≤ 1000000) {Q : X → St → Prop} (hn : ∀ st, WeakS G st (cst 103 [(5, .c (.ptr 0 0)), (7, iV 1), (8, iV 3)] [.cells 60 [.p (.i .i64 p.kd), .p (.s p.ru), .p (.i .i64 p.ve), .p (listP enc2 2 p.L), .p (.i .i64 p.st), .p (.i .i64 p.se), .p (.s p.to), .p (.i .i64 q.kd), .p (.s q.ru), .p (.i .i64 q.ve), .p (listP enc2 2 q.L), .p (.i .i64 q.st), .p (.i .i64 q.se), .p (.s q.to), .p (.i .i64 r.kd), .p (.s r.ru), .p (.i .i64 r.ve), .p (listP enc2 2 r.L), .p (.i .i64 r.st), .p (.i .i64 r.se), .p (.s r.to)]]) → Q .normal st) : ExS Try.prog G (resOf Try.prog Try.f8) (bV true) (lpB (flat (inr (nth .skip (lpB (pcs Try.prog Try.f8) 5) 2))) 1) (cst 103 [(5, .c (.ptr 0 0)), (7, iV 1), (8, iV 2)] [.cells 60 [.p (.i .i64 p.kd), .p (.s p.ru), .p (.i .i64 p.ve), .p (listP enc2 2 p.L), .p (.i .i64 p.st), .p (.i .i64 p.se), .p (.s p.to), .p (.i .i64 q.kd), .p (.s q.ru), .p (.i .i64 q.ve), .p (listP enc2 2 q.L), .p (.i .i64 q.st), .p (.i .i64 q.se), .p (.s q.to), .p (.i .i64 r.kd), .p (.s r.ru), .p (.i .i64 r.ve), .p (listP enc2 2 r.L), .p (.i .i64 r.st), .p (.i .i64 r.se), .p (.s r.to)]]) Q := by
  refine ExS.evH (keep := msk 103 [5, 7, 8]) (extW2_sound q r) (tWI12 p q r) ?_
  simp only [holds_bT, holds_rq, holds_leaf, kf_ret', kf_normal, dec2_row]
  refine ⟨by decide, by decide, ⟨⟨isL_row _ _ _, isL_row _ _ _⟩, hq, hr⟩, by decide, by decide, ⟨⟨⟨⟨rfl, by decide⟩, trivial, trivial⟩, pgF q⟩, ⟨⟨trivial, ⟨rfl, by decide⟩, trivial⟩, pgF r⟩, ⟨⟨rfl, pgL q⟩, rfl, pgL r⟩, Nat.le_of_ble_eq_true rfl, fun x hx => by rw [List.mem_singleton.1 hx]; exact hq⟩, by decide, by decide, ⟨⟨isL_row _ _ _, isL_row _ _ _⟩, hq, hr⟩, fun h => by simp at h, fun _ => ⟨by decide, by decide, ⟨⟨isL_row _ _ _, isL_row _ _ _⟩, hr, hq⟩, cmpP_in r q, fun h => ?_, fun _ => ⟨fun h => ?_, fun _ => ⟨⟨by decide, by decide⟩, ⟨hn _ (weak_of_eq (by kernel_rfl))⟩⟩⟩⟩⟩
  · have h : (cmpP q r != -cmpP r q) = true := h
    rw [bne_iff_ne] at h
    exact absurd (cmpP_anti q r) h
  · have h : (!((cmpP q r == 0) == decide ([q] = [r]))) = true := h
    rw [zeroB] at h
    cases h
set_option maxRecDepth 100000 in
theorem stepW20 (p q r : Pg) (hp : p.L.length ≤ 1000000) (hq : q.L.length ≤ 1000000) (hr : r.L.length ≤ 1000000) {Q : X → St → Prop} (hn : ∀ st, WeakS G st (cst 103 [(5, .c (.ptr 0 0)), (7, iV 2), (8, iV 1)] [.cells 60 [.p (.i .i64 p.kd), .p (.s p.ru), .p (.i .i64 p.ve), .p (listP enc2 2 p.L), .p (.i .i64 p.st), .p (.i .i64 p.se), .p (.s p.to), .p (.i .i64 q.kd), .p (.s q.ru), .p (.i .i64 q.ve), .p (listP enc2 2 q.L), .p (.i .i64 q.st), .p (.i .i64 q.se), .p (.s q.to), .p (.i .i64 r.kd), .p (.s r.ru), .p (.i .i64 r.ve), .p (listP enc2 2 r.L), .p (.i .i64 r.st), .p (.i .i64 r.se), .p (.s r.to)]]) → Q .normal st) : ExS Try.prog G (resOf Try.prog Try.f8) (bV true) (lpB (flat (inr (nth .skip (lpB (pcs Try.prog Try.f8) 5) 2))) 1) (cst 103 [(5, .c (.ptr 0 0)), (7, iV 2), (8, iV 0)] [.cells 60 [.p (.i .i64 p.kd), .p (.s p.ru), .p (.i .i64 p.ve), .p (listP enc2 2 p.L), .p (.i .i64 p.st), .p (.i .i64 p.se), .p (.s p.to), .p (.i .i64 q.kd), .p (.s q.ru), .p (.i .i64 q.ve), .p (listP enc2 2 q.L), .p (.i .i64 q.st), .p (.i .i64 q.se), .p (.s q.to), .p (.i .i64 r.kd), .p (.s r.ru), .p (.i .i64 r.ve), .p (listP enc2 2 r.L), .p (.i .i64 r.st), .p (.i .i64 r.se), .p (.s r.to)]]) Q := by
  refine ExS.evH (keep := msk 103 [5, 7, 8]) (extW2_sound r p) (tWI20 p q r) ?_
  simp only [holds_bT, holds_rq, holds_leaf, kf_ret', kf_normal, dec2_row]
  refine ⟨by decide, by decide, ⟨⟨isL_row _ _ _, isL_row _ _ _⟩, hr, hp⟩, by decide, by decide, ⟨⟨⟨⟨rfl, by decide⟩, trivial, trivial⟩, pgF r⟩, ⟨⟨trivial, ⟨rfl, by decide⟩, trivial⟩, pgF p⟩, ⟨⟨rfl, pgL r⟩, rfl, pgL p⟩, Nat.le_of_ble_eq_true rfl, fun x hx => by rw [List.mem_singleton.1 hx]; exact hr⟩, by decide, by decide, ⟨⟨isL_row _ _ _, isL_row _ _ _⟩, hr, hp⟩, fun h => by simp at h, fun _ => ⟨by decide, by decide, ⟨⟨isL_row _ _ _, isL_row _ _ _⟩, hp, hr⟩, cmpP_in p r, fun h => ?_, fun _ => ⟨fun h => ?_, fun _ => ⟨⟨by decide, by decide⟩, ⟨hn _ (weak_of_eq (by kernel_rfl))⟩⟩⟩⟩⟩
  · have h : (cmpP r p != -cmpP p r) = true := h
    rw [bne_iff_ne] at h
    exact absurd (cmpP_anti r p) h
  · have h : (!((cmpP r p == 0) == decide ([r] = [p]))) = true := h
    rw [zeroB] at h
    cases h
set_option maxRecDepth 100000 in
theorem stepW21 (p q r : Pg) (hp : p.L.length ≤ 1000000) (hq : q.L.length ≤ 1000000) (hr : r.L.length ≤ 1000000) {Q : X → St → Prop} (hn : ∀ st, WeakS G st (cst 103 [(5, .c (.ptr 0 0)), (7, iV 2), (8, iV 2)] [.cells 60 [.p (.i .i64 p.kd), .p (.s p.ru), .p (.i .i64 p.ve), .p (listP enc2 2 p.L), .p (.i .i64 p.st), .p (.i .i64 p.se), .p (.s p.to), .p (.i .i64 q.kd), .p (.s q.ru), .p (.i .i64 q.ve), .p (listP enc2 2 q.L), .p (.i .i64 q.st), .p (.i .i64 q.se), .p (.s q.to), .p (.i .i64 r.kd), .p (.s r.ru), .p (.i .i64 r.ve), .p (listP enc2 2 r.L), .p (.i .i64 r.st), .p (.i .i64 r.se), .p (.s r.to)]]) → Q .normal st) : ExS Try.prog G (resOf Try.prog Try.f8) (bV true) (lpB (flat (inr (nth .skip (lpB (pcs Try.prog Try.f8) 5) 2))) 1) (cst 103 [(5, .c (.ptr 0 0)), (7, iV 2), (8, iV 1)] [.cells 60 [.p (.i .i64 p.kd), .p (.s p.ru), .p (.i .i64 p.ve), .p (listP enc2 2 p.L), .p (.i .i64 p.st), .p (.i .i64 p.se), .p (.s p.to), .p (.i .i64 q.kd), .p (.s q.ru), .p (.i .i64 q.ve), .p (listP enc2 2 q.L), .p (.i .i64 q.st), .p (.i .i64 q.se), .p (.s q.to), .p (.i .i64 r.kd), .p (.s r.ru), .p (.i .i64 r.ve), .p (listP enc2 2 r.L), .p (.i .i64 r.st), .p (.i .i64 r.se), .p (.s r.to)]]) Q := by
  refine ExS.evH (keep := msk 103 [5, 7, 8]) (extW2_sound r q) (tWI21 p q r) ?_
  simp only [holds_bT, holds_rq, holds_leaf, kf_ret', kf_normal, dec2_row]
  refine ⟨by decide, by decide, ⟨⟨isL_row _ _ _, isL_row _ _ _⟩, hr, hq⟩, by decide, by decide, ⟨⟨⟨⟨rfl, by decide⟩, trivial, trivial⟩, pgF r⟩, ⟨⟨trivial, ⟨rfl, by decide⟩, trivial⟩, pgF q⟩, ⟨⟨rfl, pgL r⟩, rfl, pgL q⟩, Nat.le_of_ble_eq_true rfl, fun x hx => by rw [List.mem_singleton.1 hx]; exact hr⟩, by decide, by decide, ⟨⟨isL_row _ _ _, isL_row _ _ _⟩, hr, hq⟩, fun h => by simp at h, fun _ => ⟨by decide, by decide, ⟨⟨isL_row _ _ _, isL_row _ _ _⟩, hq, hr⟩, cmpP_in q r, fun h => ?_, fun _ => ⟨fun h => ?_, fun _ => ⟨⟨by decide, by decide⟩, ⟨hn _ (weak_of_eq (by kernel_rfl))⟩⟩⟩⟩⟩
  · have h : (cmpP r q != -cmpP q r) = true := h
    rw [bne_iff_ne] at h
    exact absurd (cmpP_anti r q) h
  · have h : (!((cmpP r q == 0) == decide ([r] = [q]))) = true := h
    rw [zeroB] at h
    cases h
set_option maxRecDepth 100000 in
theorem stepW22 (p q r : Pg) (hp : p.L.length ≤ 1000000) (hq : q.L.length ≤ 1000000) (hr : r.L.length ≤ 1000000) {Q : X → St → Prop} (hn : ∀ st, WeakS G st (cst 103 [(5, .c (.ptr 0 0)), (7, iV 2), (8, iV 3)] [.cells 60 [.p (.i .i64 p.kd), .p (.s p.ru), .p (.i .i64 p.ve), .p (listP enc2 2 p.L), .p (.i .i64 p.st), .p (.i .i64 p.se), .p (.s p.to), .p (.i .i64 q.kd), .p (.s q.ru), .p (.i .i64 q.ve), .p (listP enc2 2 q.L), .p (.i .i64 q.st), .p (.i .i64 q.se), .p (.s q.to), .p (.i .i64 r.kd), .p (.s r.ru), .p (.i .i64 r.ve), .p (listP enc2 2 r.L), .p (.i .i64 r.st), .p (.i .i64 r.se), .p (.s r.to)]]) → Q .normal st) : ExS Try.prog G (resOf Try.prog Try.f8) (bV true) (lpB (flat (inr (nth .skip (lpB (pcs Try.prog Try.f8) 5) 2))) 1) (cst 103 [(5, .c (.ptr 0 0)), (7, iV 2), (8, iV 2)] [.cells 60 [.p (.i .i64 p.kd), .p (.s p.ru), .p (.i .i64 p.ve), .p (listP enc2 2 p.L), .p (.i .i64 p.st), .p (.i .i64 p.se), .p (.s p.to), .p (.i .i64 q.kd), .p (.s q.ru), .p (.i .i64 q.ve), .p (listP enc2 2 q.L), .p (.i .i64 q.st), .p (.i .i64 q.se), .p (.s q.to), .p (.i .i64 r.kd), .p (.s r.ru), .p (.i .i64 r.ve), .p (listP enc2 2 r.L), .p (.i .i64 r.st), .p (.i .i64 r.se), .p (.s r.to)]]) Q := by
  refine ExS.evH (keep := msk 103 [5, 7, 8]) (extW2_sound r r) (tWI22 p q r) ?_
  simp only [holds_bT, holds_rq, holds_leaf, kf_ret', kf_normal, dec2_row]
  refine ⟨by decide, by decide, ⟨⟨isL_row _ _ _, isL_row _ _ _⟩, hr, hr⟩, by decide, by decide, ⟨⟨⟨⟨rfl, by decide⟩, trivial, trivial⟩, pgF r⟩, ⟨⟨trivial, ⟨rfl, by decide⟩, trivial⟩, pgF r⟩, ⟨⟨rfl, pgL r⟩, rfl, pgL r⟩, Nat.le_of_ble_eq_true rfl, fun x hx => by rw [List.mem_singleton.1 hx]; exact hr⟩, by decide, by decide, ⟨⟨isL_row _ _ _, isL_row _ _ _⟩, hr, hr⟩, fun h => by simp at h, fun _ => ⟨by decide, by decide, ⟨⟨isL_row _ _ _, isL_row _ _ _⟩, hr, hr⟩, cmpP_in r r, fun h => ?_, fun _ => ⟨fun h => ?_, fun _ => ⟨⟨by decide, by decide⟩, ⟨hn _ (weak_of_eq (by kernel_rfl))⟩⟩⟩⟩⟩
  · have h : (cmpP r r != -cmpP r r) = true := h
    rw [bne_iff_ne] at h
    exact absurd (cmpP_anti r r) h
  · have h : (!((cmpP r r == 0) == decide True)) = true := h
    rw [(cmpP_zero r r).2 rfl] at h
    simp at h
theorem weak_less {st : St} {id : Nat} {x y : AO} (hid : nth .gone st.h id = x) (hx : x.live = true) (hy : y.live = true) (ho : ∀ (β : Bt) (R : Nat → Prop) (w : World) b o, OR β R w x b o → OR β R w y b o) : WeakS G st ⟨st.t, upd y st.h id⟩ :=
  fun β R a w hs => ⟨β, R, ⟨hs.df, hs.tm, hs_lessS hs.hs hid hx hy (ho β R w)⟩, Fr.refl _ _ _, fun _ hb => hb⟩
theorem cells_less {ty : TypeId} {xs vs : List C} (h : VLe (.a xs) (.a vs)) (β : Bt) (R : Nat → Prop) (w : World) (b o : Nat) : OR β R w (.cells ty xs) b o → OR β R w (.cells ty vs) b o := by
  rintro ⟨cs, h1, h2⟩
  obtain ⟨us, h3, h4⟩ := h β R w (.agg cs) ⟨cs, rfl, h2⟩
  injection h3 with h3
  subst h3
  exact ⟨cs, h1, h4⟩
set_option maxRecDepth 100000 in
set_option maxHeartbeats 2000000 in
theorem pagesOrder_fn (A : List Int) (k0 k1 k2 : Int) (hA : ∀ t ∈ A, inR .i64 t) (h : List AO) : FnS Try.prog G 8 [listV encI 1 A, .a [.p (.i .i64 k0), .p (.i .i64 k1), .p (.i .i64 k2)]] h fun x h' => x = bV true ∧ h' = h := by
  refine fn_S Try.func8 (by kernel_rfl) rfl ?_ h
  refine ExS.evG ext0_sound 3 (tW0 A k0 k1 k2) ?_
  simp only [holds_bT, holds_rq, holds_leaf, kf_normal]
  refine ⟨?_⟩
  have hz : VLe (.a (mapP [.i .i64 0, .s ⟨#[]⟩, .i .i64 0, .z (.slice none 0 0), .i .i64 0, .i .i64 0, .s ⟨#[]⟩, .i .i64 0, .s ⟨#[]⟩, .i .i64 0, .z (.slice none 0 0), .i .i64 0, .i .i64 0, .s ⟨#[]⟩, .i .i64 0, .s ⟨#[]⟩, .i .i64 0, .z (.slice none 0 0), .i .i64 0, .i .i64 0, .s ⟨#[]⟩])) (.a (mapP [.i .i64 0, .s ⟨#[]⟩, .i .i64 0, listP enc2 2 [], .i .i64 0, .i .i64 0, .s ⟨#[]⟩, .i .i64 0, .s ⟨#[]⟩, .i .i64 0, listP enc2 2 [], .i .i64 0, .i .i64 0, .s ⟨#[]⟩, .i .i64 0, .s ⟨#[]⟩, .i .i64 0, listP enc2 2 [], .i .i64 0, .i .i64 0, .s ⟨#[]⟩])) := VLe.a (.cons (.refl _) (.cons (.refl _) (.cons (.refl _) (.cons (PLe.nil 2 _) (.cons (.refl _) (.cons (.refl _) (.cons (.refl _) (.cons (.refl _) (.cons (.refl _) (.cons (.refl _) (.cons (PLe.nil 2 _) (.cons (.refl _) (.cons (.refl _) (.cons (.refl _) (.cons (.refl _) (.cons (.refl _) (.cons (.refl _) (.cons (PLe.nil 2 _) (.cons (.refl _) (.cons (.refl _) (.cons (.refl _) (.nil))))))))))))))))))))))
  refine ExS.pre (weak_less (id := 1) (x := .cells 60 (mapP [.i .i64 0, .s ⟨#[]⟩, .i .i64 0, .z (.slice none 0 0), .i .i64 0, .i .i64 0, .s ⟨#[]⟩, .i .i64 0, .s ⟨#[]⟩, .i .i64 0, .z (.slice none 0 0), .i .i64 0, .i .i64 0, .s ⟨#[]⟩, .i .i64 0, .s ⟨#[]⟩, .i .i64 0, .z (.slice none 0 0), .i .i64 0, .i .i64 0, .s ⟨#[]⟩])) (y := .cells 60 (mapP [.i .i64 0, .s ⟨#[]⟩, .i .i64 0, listP enc2 2 [], .i .i64 0, .i .i64 0, .s ⟨#[]⟩, .i .i64 0, .s ⟨#[]⟩, .i .i64 0, listP enc2 2 [], .i .i64 0, .i .i64 0, .s ⟨#[]⟩, .i .i64 0, .s ⟨#[]⟩, .i .i64 0, listP enc2 2 [], .i .i64 0, .i .i64 0, .s ⟨#[]⟩])) (by kernel_rfl) rfl rfl (cells_less hz)) ?_
  clear hz
  refine ExS.loop' (l := dropL 3 (pcs Try.prog Try.f8)) (b := inr (inr (nth .skip (pcs Try.prog Try.f8) 3))) (r := dropL 4 (pcs Try.prog Try.f8)) (id := 0) (by kernel_rfl) (σ := Nat × Pg × Pg × Pg)
    (fun (j, p, q, r) => cst 103 [(0, listV encI 1 A), (3, .c (.ptr 0 0)), (5, .c (.ptr 1 0)), (6, iV (j : Nat))] [.cells 59 [.p (.i .i64 k0), .p (.i .i64 k1), .p (.i .i64 k2)], .cells 60 [.p (.i .i64 p.kd), .p (.s p.ru), .p (.i .i64 p.ve), .p (listP enc2 2 p.L), .p (.i .i64 p.st), .p (.i .i64 p.se), .p (.s p.to), .p (.i .i64 q.kd), .p (.s q.ru), .p (.i .i64 q.ve), .p (listP enc2 2 q.L), .p (.i .i64 q.st), .p (.i .i64 q.se), .p (.s q.to), .p (.i .i64 r.kd), .p (.s r.ru), .p (.i .i64 r.ve), .p (listP enc2 2 r.L), .p (.i .i64 r.st), .p (.i .i64 r.se), .p (.s r.to)]]) (fun (j, p, q, r) => j ≤ 3 ∧ p.L.length ≤ 1000000 ∧ q.L.length ≤ 1000000 ∧ r.L.length ≤ 1000000) (fun (j, _) => 3 - j) (0, ⟨0, ⟨#[]⟩, 0, [], 0, 0, ⟨#[]⟩⟩, ⟨0, ⟨#[]⟩, 0, [], 0, 0, ⟨#[]⟩⟩, ⟨0, ⟨#[]⟩, 0, [], 0, 0, ⟨#[]⟩⟩) ⟨by decide, Nat.zero_le _, Nat.zero_le _, Nat.zero_le _⟩ (weak_of_eq (by kernel_rfl)) ?_
  rintro ⟨j, p, q, r⟩ ⟨hj, hp, hq, hr⟩ Q1 q1n q1e -
  have hj : j = 0 ∨ j = 1 ∨ j = 2 ∨ j = 3 := by omega
  rcases hj with rfl | rfl | rfl | rfl
  · refine ExS.pre (weak_of_eq (st' := cst 103 [(0, listV encI 1 A), (3, .c (.ptr 0 0)), (5, .c (.ptr 1 0)), (6, iV 0)] [.cells 59 [.p (.i .i64 k0), .p (.i .i64 k1), .p (.i .i64 k2)], .cells 60 [.p (.i .i64 p.kd), .p (.s p.ru), .p (.i .i64 p.ve), .p (listP enc2 2 p.L), .p (.i .i64 p.st), .p (.i .i64 p.se), .p (.s p.to), .p (.i .i64 q.kd), .p (.s q.ru), .p (.i .i64 q.ve), .p (listP enc2 2 q.L), .p (.i .i64 q.st), .p (.i .i64 q.se), .p (.s q.to), .p (.i .i64 r.kd), .p (.s r.ru), .p (.i .i64 r.ve), .p (listP enc2 2 r.L), .p (.i .i64 r.st), .p (.i .i64 r.se), .p (.s r.to)]]) (by kernel_rfl)) (ExS.evH extW1_sound (tWA0 A k0 k1 k2 p q r) ?_)
    simp only [holds_bT, holds_rq, holds_leaf, kf_normal, kf_exit, decI_row]
    exact ⟨⟨by decide, by decide⟩, ⟨isL_row _ _ _, hA, by decide, by decide⟩, by decide, by decide, by decide, ⟨by decide, by decide⟩, ⟨q1n (0 + 1, ⟨k0, (pageZ A (6 * 0)).ru, (pageZ A (6 * 0)).ve, (pageZ A (6 * 0)).L, (pageZ A (6 * 0)).st, (pageZ A (6 * 0)).se, (pageZ A (6 * 0)).to⟩, q, r) _ ⟨by decide, lab_len _, hq, hr⟩ (by simp only; omega) (weak_of_eq (by kernel_rfl))⟩⟩
  · refine ExS.pre (weak_of_eq (st' := cst 103 [(0, listV encI 1 A), (3, .c (.ptr 0 0)), (5, .c (.ptr 1 0)), (6, iV 1)] [.cells 59 [.p (.i .i64 k0), .p (.i .i64 k1), .p (.i .i64 k2)], .cells 60 [.p (.i .i64 p.kd), .p (.s p.ru), .p (.i .i64 p.ve), .p (listP enc2 2 p.L), .p (.i .i64 p.st), .p (.i .i64 p.se), .p (.s p.to), .p (.i .i64 q.kd), .p (.s q.ru), .p (.i .i64 q.ve), .p (listP enc2 2 q.L), .p (.i .i64 q.st), .p (.i .i64 q.se), .p (.s q.to), .p (.i .i64 r.kd), .p (.s r.ru), .p (.i .i64 r.ve), .p (listP enc2 2 r.L), .p (.i .i64 r.st), .p (.i .i64 r.se), .p (.s r.to)]]) (by kernel_rfl)) (ExS.evH extW1_sound (tWA1 A k0 k1 k2 p q r) ?_)
    simp only [holds_bT, holds_rq, holds_leaf, kf_normal, kf_exit, decI_row]
    exact ⟨⟨by decide, by decide⟩, ⟨isL_row _ _ _, hA, by decide, by decide⟩, by decide, by decide, by decide, ⟨by decide, by decide⟩, ⟨q1n (1 + 1, p, ⟨k1, (pageZ A (6 * 1)).ru, (pageZ A (6 * 1)).ve, (pageZ A (6 * 1)).L, (pageZ A (6 * 1)).st, (pageZ A (6 * 1)).se, (pageZ A (6 * 1)).to⟩, r) _ ⟨by decide, hp, lab_len _, hr⟩ (by simp only; omega) (weak_of_eq (by kernel_rfl))⟩⟩
  · refine ExS.pre (weak_of_eq (st' := cst 103 [(0, listV encI 1 A), (3, .c (.ptr 0 0)), (5, .c (.ptr 1 0)), (6, iV 2)] [.cells 59 [.p (.i .i64 k0), .p (.i .i64 k1), .p (.i .i64 k2)], .cells 60 [.p (.i .i64 p.kd), .p (.s p.ru), .p (.i .i64 p.ve), .p (listP enc2 2 p.L), .p (.i .i64 p.st), .p (.i .i64 p.se), .p (.s p.to), .p (.i .i64 q.kd), .p (.s q.ru), .p (.i .i64 q.ve), .p (listP enc2 2 q.L), .p (.i .i64 q.st), .p (.i .i64 q.se), .p (.s q.to), .p (.i .i64 r.kd), .p (.s r.ru), .p (.i .i64 r.ve), .p (listP enc2 2 r.L), .p (.i .i64 r.st), .p (.i .i64 r.se), .p (.s r.to)]]) (by kernel_rfl)) (ExS.evH extW1_sound (tWA2 A k0 k1 k2 p q r) ?_)
    simp only [holds_bT, holds_rq, holds_leaf, kf_normal, kf_exit, decI_row]
    exact ⟨⟨by decide, by decide⟩, ⟨isL_row _ _ _, hA, by decide, by decide⟩, by decide, by decide, by decide, ⟨by decide, by decide⟩, ⟨q1n (2 + 1, p, q, ⟨k2, (pageZ A (6 * 2)).ru, (pageZ A (6 * 2)).ve, (pageZ A (6 * 2)).L, (pageZ A (6 * 2)).st, (pageZ A (6 * 2)).se, (pageZ A (6 * 2)).to⟩) _ ⟨by decide, hp, hq, lab_len _⟩ (by simp only; omega) (weak_of_eq (by kernel_rfl))⟩⟩
  · refine ExS.pre (weak_of_eq (st' := cst 103 [(0, listV encI 1 A), (3, .c (.ptr 0 0)), (5, .c (.ptr 1 0)), (6, iV 3)] [.cells 59 [.p (.i .i64 k0), .p (.i .i64 k1), .p (.i .i64 k2)], .cells 60 [.p (.i .i64 p.kd), .p (.s p.ru), .p (.i .i64 p.ve), .p (listP enc2 2 p.L), .p (.i .i64 p.st), .p (.i .i64 p.se), .p (.s p.to), .p (.i .i64 q.kd), .p (.s q.ru), .p (.i .i64 q.ve), .p (listP enc2 2 q.L), .p (.i .i64 q.st), .p (.i .i64 q.se), .p (.s q.to), .p (.i .i64 r.kd), .p (.s r.ru), .p (.i .i64 r.ve), .p (listP enc2 2 r.L), .p (.i .i64 r.st), .p (.i .i64 r.se), .p (.s r.to)]]) (by kernel_rfl)) (ExS.evH extW1_sound (tWA3 A k0 k1 k2 p q r) ?_)
    simp only [holds_leaf, kf_exit]
    refine ⟨q1e _ ?_⟩
    clear q1n q1e
    refine ExS.pre ((weak_gc (msk 103 [5]) _).trans (weak_of_eq (st' := cst 103 [(5, .c (.ptr 0 0))] [.cells 60 [.p (.i .i64 p.kd), .p (.s p.ru), .p (.i .i64 p.ve), .p (listP enc2 2 p.L), .p (.i .i64 p.st), .p (.i .i64 p.se), .p (.s p.to), .p (.i .i64 q.kd), .p (.s q.ru), .p (.i .i64 q.ve), .p (listP enc2 2 q.L), .p (.i .i64 q.st), .p (.i .i64 q.se), .p (.s q.to), .p (.i .i64 r.kd), .p (.s r.ru), .p (.i .i64 r.ve), .p (listP enc2 2 r.L), .p (.i .i64 r.st), .p (.i .i64 r.se), .p (.s r.to)]]) (by kernel_rfl))) (ExS.evG ext0_sound 1 (tWB p q r) ?_)
    simp only [holds_leaf, kf_normal]
    refine ⟨?_⟩
    refine ExS.loop' (l := dropL 1 (dropL 4 (pcs Try.prog Try.f8))) (b := inr (inr (nth .skip (pcs Try.prog Try.f8) 5))) (r := dropL 6 (pcs Try.prog Try.f8)) (id := 2) (by kernel_rfl) (σ := Nat)
      (fun i => cst 103 [(5, .c (.ptr 0 0)), (7, iV (i : Nat))] [.cells 60 [.p (.i .i64 p.kd), .p (.s p.ru), .p (.i .i64 p.ve), .p (listP enc2 2 p.L), .p (.i .i64 p.st), .p (.i .i64 p.se), .p (.s p.to), .p (.i .i64 q.kd), .p (.s q.ru), .p (.i .i64 q.ve), .p (listP enc2 2 q.L), .p (.i .i64 q.st), .p (.i .i64 q.se), .p (.s q.to), .p (.i .i64 r.kd), .p (.s r.ru), .p (.i .i64 r.ve), .p (listP enc2 2 r.L), .p (.i .i64 r.st), .p (.i .i64 r.se), .p (.s r.to)]]) (fun i => i ≤ 3) (fun i => 3 - i) 0 (Nat.zero_le _) (weak_of_eq (by kernel_rfl)) ?_
    intro i hi Q2 q2n q2e _
    refine ExS.evG ext0_sound 2 (tWC p q r i) ?_
    simp only [holds_bT, holds_leaf, kf_normal, kf_exit, decide_eq_true_eq, decide_eq_false_iff_not]
    refine ⟨fun h1 => ⟨?_⟩, fun h1 => ⟨q2e _ ?_⟩⟩
    · refine ExS.blk' (l := dropL 2 (lpB (pcs Try.prog Try.f8) 5)) (id := 3) (a := inr (nth .skip (lpB (pcs Try.prog Try.f8) 5) 2)) (r := dropL 3 (lpB (pcs Try.prog Try.f8) 5)) (by kernel_rfl) ?_
      intro Q3 q3n _ _
      refine ExS.evG ext0_sound 1 (tWD p q r i) ?_
      simp only [holds_leaf, kf_normal]
      refine ⟨?_⟩
      have fin : ∀ st, WeakS G st (cst 103 [(5, .c (.ptr 0 0)), (7, iV (i : Nat))] [.cells 60 [.p (.i .i64 p.kd), .p (.s p.ru), .p (.i .i64 p.ve), .p (listP enc2 2 p.L), .p (.i .i64 p.st), .p (.i .i64 p.se), .p (.s p.to), .p (.i .i64 q.kd), .p (.s q.ru), .p (.i .i64 q.ve), .p (listP enc2 2 q.L), .p (.i .i64 q.st), .p (.i .i64 q.se), .p (.s q.to), .p (.i .i64 r.kd), .p (.s r.ru), .p (.i .i64 r.ve), .p (listP enc2 2 r.L), .p (.i .i64 r.st), .p (.i .i64 r.se), .p (.s r.to)]]) → Q3 .normal st := fun st hw => by
        refine q3n _ (ExS.pre hw (ExS.evH ext0_sound (tWE p q r i) ?_))
        simp only [holds_rq, holds_leaf, kf_normal, inR]
        exact ⟨by omega, ⟨q2n (i + 1) _ (by omega) (by omega) (weak_of_eq (by kernel_rfl))⟩⟩
      refine ExS.loop' (l := dropL 1 (flat (inr (nth .skip (lpB (pcs Try.prog Try.f8) 5) 2)))) (b := inr (inr (nth .skip (flat (inr (nth .skip (lpB (pcs Try.prog Try.f8) 5) 2))) 1))) (r := dropL 2 (flat (inr (nth .skip (lpB (pcs Try.prog Try.f8) 5) 2)))) (id := 4) (by kernel_rfl) (σ := Nat)
        (fun k => cst 103 [(5, .c (.ptr 0 0)), (7, iV (i : Nat)), (8, iV (k : Nat))] [.cells 60 [.p (.i .i64 p.kd), .p (.s p.ru), .p (.i .i64 p.ve), .p (listP enc2 2 p.L), .p (.i .i64 p.st), .p (.i .i64 p.se), .p (.s p.to), .p (.i .i64 q.kd), .p (.s q.ru), .p (.i .i64 q.ve), .p (listP enc2 2 q.L), .p (.i .i64 q.st), .p (.i .i64 q.se), .p (.s q.to), .p (.i .i64 r.kd), .p (.s r.ru), .p (.i .i64 r.ve), .p (listP enc2 2 r.L), .p (.i .i64 r.st), .p (.i .i64 r.se), .p (.s r.to)]]) (fun k => k ≤ 3) (fun k => 3 - k) 0 (Nat.zero_le _) (weak_of_eq (by kernel_rfl)) ?_
      intro k hk Q4 q4n q4e _
      have hi3 : i = 0 ∨ i = 1 ∨ i = 2 := by omega
      have hk3 : k = 0 ∨ k = 1 ∨ k = 2 ∨ k = 3 := by omega
      rcases hi3 with rfl | rfl | rfl
      · rcases hk3 with rfl | rfl | rfl | rfl
        · exact ExS.pre (weak_of_eq (by kernel_rfl)) (stepW00 p q r hp hq hr fun st hw => q4n 1 st (by decide) (by decide) (hw.trans (weak_of_eq (by kernel_rfl))))
        · exact ExS.pre (weak_of_eq (by kernel_rfl)) (stepW01 p q r hp hq hr fun st hw => q4n 2 st (by decide) (by decide) (hw.trans (weak_of_eq (by kernel_rfl))))
        · exact ExS.pre (weak_of_eq (by kernel_rfl)) (stepW02 p q r hp hq hr fun st hw => q4n 3 st (by decide) (by decide) (hw.trans (weak_of_eq (by kernel_rfl))))
        · refine ExS.pre (weak_of_eq (by kernel_rfl)) (ExS.evH (extW2_sound p p) (tWI03 p q r) ?_)
          simp only [holds_leaf, kf_exit]
          refine ⟨q4e _ ?_⟩
          refine ExS.evH (keep := msk 103 [5, 7]) ext0_sound (tree := .done .normal (cst 103 [(5, .c (.ptr 0 0)), (7, iV 0)] [.cells 60 [.p (.i .i64 p.kd), .p (.s p.ru), .p (.i .i64 p.ve), .p (listP enc2 2 p.L), .p (.i .i64 p.st), .p (.i .i64 p.se), .p (.s p.to), .p (.i .i64 q.kd), .p (.s q.ru), .p (.i .i64 q.ve), .p (listP enc2 2 q.L), .p (.i .i64 q.st), .p (.i .i64 q.se), .p (.s q.to), .p (.i .i64 r.kd), .p (.s r.ru), .p (.i .i64 r.ve), .p (listP enc2 2 r.L), .p (.i .i64 r.st), .p (.i .i64 r.se), .p (.s r.to)]])) (by kernel_rfl) ?_
          exact fin _ (weak_of_eq (by kernel_rfl))
      · rcases hk3 with rfl | rfl | rfl | rfl
        · exact ExS.pre (weak_of_eq (by kernel_rfl)) (stepW10 p q r hp hq hr fun st hw => q4n 1 st (by decide) (by decide) (hw.trans (weak_of_eq (by kernel_rfl))))
        · exact ExS.pre (weak_of_eq (by kernel_rfl)) (stepW11 p q r hp hq hr fun st hw => q4n 2 st (by decide) (by decide) (hw.trans (weak_of_eq (by kernel_rfl))))
        · exact ExS.pre (weak_of_eq (by kernel_rfl)) (stepW12 p q r hp hq hr fun st hw => q4n 3 st (by decide) (by decide) (hw.trans (weak_of_eq (by kernel_rfl))))
        · refine ExS.pre (weak_of_eq (by kernel_rfl)) (ExS.evH (extW2_sound q p) (tWI13 p q r) ?_)
          simp only [holds_leaf, kf_exit]
          refine ⟨q4e _ ?_⟩
          refine ExS.evH (keep := msk 103 [5, 7]) ext0_sound (tree := .done .normal (cst 103 [(5, .c (.ptr 0 0)), (7, iV 1)] [.cells 60 [.p (.i .i64 p.kd), .p (.s p.ru), .p (.i .i64 p.ve), .p (listP enc2 2 p.L), .p (.i .i64 p.st), .p (.i .i64 p.se), .p (.s p.to), .p (.i .i64 q.kd), .p (.s q.ru), .p (.i .i64 q.ve), .p (listP enc2 2 q.L), .p (.i .i64 q.st), .p (.i .i64 q.se), .p (.s q.to), .p (.i .i64 r.kd), .p (.s r.ru), .p (.i .i64 r.ve), .p (listP enc2 2 r.L), .p (.i .i64 r.st), .p (.i .i64 r.se), .p (.s r.to)]])) (by kernel_rfl) ?_
          exact fin _ (weak_of_eq (by kernel_rfl))
      · rcases hk3 with rfl | rfl | rfl | rfl
        · exact ExS.pre (weak_of_eq (by kernel_rfl)) (stepW20 p q r hp hq hr fun st hw => q4n 1 st (by decide) (by decide) (hw.trans (weak_of_eq (by kernel_rfl))))
        · exact ExS.pre (weak_of_eq (by kernel_rfl)) (stepW21 p q r hp hq hr fun st hw => q4n 2 st (by decide) (by decide) (hw.trans (weak_of_eq (by kernel_rfl))))
        · exact ExS.pre (weak_of_eq (by kernel_rfl)) (stepW22 p q r hp hq hr fun st hw => q4n 3 st (by decide) (by decide) (hw.trans (weak_of_eq (by kernel_rfl))))
        · refine ExS.pre (weak_of_eq (by kernel_rfl)) (ExS.evH (extW2_sound r p) (tWI23 p q r) ?_)
          simp only [holds_leaf, kf_exit]
          refine ⟨q4e _ ?_⟩
          refine ExS.evH (keep := msk 103 [5, 7]) ext0_sound (tree := .done .normal (cst 103 [(5, .c (.ptr 0 0)), (7, iV 2)] [.cells 60 [.p (.i .i64 p.kd), .p (.s p.ru), .p (.i .i64 p.ve), .p (listP enc2 2 p.L), .p (.i .i64 p.st), .p (.i .i64 p.se), .p (.s p.to), .p (.i .i64 q.kd), .p (.s q.ru), .p (.i .i64 q.ve), .p (listP enc2 2 q.L), .p (.i .i64 q.st), .p (.i .i64 q.se), .p (.s q.to), .p (.i .i64 r.kd), .p (.s r.ru), .p (.i .i64 r.ve), .p (listP enc2 2 r.L), .p (.i .i64 r.st), .p (.i .i64 r.se), .p (.s r.to)]])) (by kernel_rfl) ?_
          exact fin _ (weak_of_eq (by kernel_rfl))
    · refine ExS.pre ((weak_gc (msk 103 [5]) _).trans (weak_of_eq (st' := cst 103 [(5, .c (.ptr 0 0))] [.cells 60 [.p (.i .i64 p.kd), .p (.s p.ru), .p (.i .i64 p.ve), .p (listP enc2 2 p.L), .p (.i .i64 p.st), .p (.i .i64 p.se), .p (.s p.to), .p (.i .i64 q.kd), .p (.s q.ru), .p (.i .i64 q.ve), .p (listP enc2 2 q.L), .p (.i .i64 q.st), .p (.i .i64 q.se), .p (.s q.to), .p (.i .i64 r.kd), .p (.s r.ru), .p (.i .i64 r.ve), .p (listP enc2 2 r.L), .p (.i .i64 r.st), .p (.i .i64 r.se), .p (.s r.to)]]) (by kernel_rfl))) (ExS.evH extW3_sound (tWF p q r) ?_)
      simp only [holds_bT, holds_rq, holds_leaf, kf_ret', dec2_row, decide_eq_true_eq, decide_eq_false_iff_not]
      refine ⟨⟨⟨isL_row _ _ _, isL_row _ _ _⟩, hp, hq⟩, fun _ => ⟨trivial, ⟨VLe.of_eq rfl⟩⟩, fun c1 => ⟨⟨⟨isL_row _ _ _, isL_row _ _ _⟩, hq, hr⟩, fun _ => ⟨trivial, ⟨VLe.of_eq rfl⟩⟩, fun c2 => ⟨⟨⟨isL_row _ _ _, isL_row _ _ _⟩, hp, hr⟩, fun _ => ⟨trivial, ⟨VLe.of_eq rfl⟩⟩, fun c3 => ?_⟩⟩⟩
      have c1 : ¬ 0 < cmpP p q := c1
      have c2 : ¬ 0 < cmpP q r := c2
      have c3 : ¬ cmpP p r ≤ 0 := c3
      exact absurd (cmpP_le p q r (by omega) (by omega)) c3
end
end Go.AE
