/- AE contracts: frac.gcd[int], frac.sum. -/
import Derived.Test.YtplnkainmfkfgaaDoorN8
namespace Go.AE
open Go.Proofs
set_option linter.unusedVariables false
set_option linter.unusedSimpArgs false
def extSu : Ext := extOf [(45, mProduct)]

theorem tGc1 (a b : Int) : exTs ext0 (takeL 1 (pcs Tryd.prog Tryd.f28)) (st0 Tryd.f28 [iV a, iV b]) (endG (msk 12 [0, 1]) (resOf Tryd.prog Tryd.f28)) = Tr.done X.normal
    (cst 12 [(0, V.c (C.p (PV.i IntKind.i64 a))), (1, V.c (C.p (PV.i IntKind.i64 b)))] []) := by kernel_rfl
theorem tGc2 (a b : Int) : exTs ext0 (lpB (pcs Tryd.prog Tryd.f28) 1) (cst 12 [(0, iV a), (1, iV b)] []) (endG (msk 12 [0, 1]) (resOf Tryd.prog Tryd.f28)) = bT (b != 0)
    (Tr.rq (0 ≤ a ∧ 0 < b)
      (Tr.done X.normal
        (cst 12 [(0, V.c (C.p (PV.i IntKind.i64 b))), (1, V.c (C.p (PV.i IntKind.i64 (a % b))))] [])))
    (Tr.done (X.exit 0)
      (cst 12 [(0, V.c (C.p (PV.i IntKind.i64 a))), (1, V.c (C.p (PV.i IntKind.i64 b)))] [])) := by kernel_rfl
theorem tGc3 (a b : Int) : exTs ext0 (dropL 2 (pcs Tryd.prog Tryd.f28)) (cst 12 [(0, iV a), (1, iV b)] []) (endG [] (resOf Tryd.prog Tryd.f28)) = Tr.done X.ret (St.mk [V.c (C.p (PV.i IntKind.i64 a))] []) := by kernel_rfl
theorem tSu (a b c d : Int) : exTs extSu (pcs Tryd.prog Tryd.f30) (st0 Tryd.f30 [iV a, iV b, iV c, iV d]) (endG [] (resOf Tryd.prog Tryd.f30)) = Tr.rq (shI a ∧ shI b)
    (Tr.rq (shI c ∧ shI d)
      (bT (decide (a * b < 0) == decide (c * d < 0))
        (Tr.rq (0 ≤ absZ (a * b) ∧ (0 ≤ absZ (c * d) ∧ absZ (c * d) < 18446744073709551616) ∧ Int.ofNat 0 ≤ Int.ofNat 0 ∧ Int.ofNat 0 ≤ Int.ofNat 1)
          (Tr.rq
            (Int.ofNat 0 ≤ Int.ofNat 0 ∧
              (Int.ofNat 0 ≤ Int.ofNat 0 ∧ Int.ofNat 0 < Int.ofNat 18446744073709551616) ∧
                0 ≤ (absZ (a * b) + absZ (c * d) + 0) / 18446744073709551616 ∧ (absZ (a * b) + absZ (c * d) + 0) / 18446744073709551616 ≤ 1)
            (bT (decide (a * b < 0))
              (Tr.done X.ret
                (St.mk [V.a [C.p (PV.i IntKind.u64 ((0 + 0 + (absZ (a * b) + absZ (c * d) + 0) / 18446744073709551616) % 18446744073709551616)), C.p (PV.i IntKind.u64 ((absZ (a * b) + absZ (c * d) + 0) % 18446744073709551616)), C.p (PV.b true)]] []))
              (Tr.done X.ret
                (St.mk [V.a [C.p (PV.i IntKind.u64 ((0 + 0 + (absZ (a * b) + absZ (c * d) + 0) / 18446744073709551616) % 18446744073709551616)), C.p (PV.i IntKind.u64 ((absZ (a * b) + absZ (c * d) + 0) % 18446744073709551616)), C.p (PV.b (decide (c * d < 0)))]] [])))))
        (bT
          (match false with
          | true => !(0 == 0 && (absZ (a * b) == 0 && (decide (a * b < 0) == false && true)))
          | false => 0 == 0 && (absZ (a * b) == 0 && (decide (a * b < 0) == false && true)))
          (Tr.rq (0 ≤ absZ (a * b) ∧ (0 ≤ absZ (c * d) ∧ absZ (c * d) < 18446744073709551616) ∧ Int.ofNat 0 ≤ Int.ofNat 0 ∧ Int.ofNat 0 ≤ Int.ofNat 1)
            (Tr.rq
              (Int.ofNat 0 ≤ Int.ofNat 0 ∧
                (Int.ofNat 0 ≤ Int.ofNat 0 ∧ Int.ofNat 0 < Int.ofNat 18446744073709551616) ∧
                  0 ≤ (absZ (a * b) + absZ (c * d) + 0) / 18446744073709551616 ∧ (absZ (a * b) + absZ (c * d) + 0) / 18446744073709551616 ≤ 1)
              (bT (decide (a * b < 0))
                (Tr.done X.ret
                  (St.mk [V.a [C.p (PV.i IntKind.u64 ((0 + 0 + (absZ (a * b) + absZ (c * d) + 0) / 18446744073709551616) % 18446744073709551616)), C.p (PV.i IntKind.u64 ((absZ (a * b) + absZ (c * d) + 0) % 18446744073709551616)), C.p (PV.b true)]] []))
                (Tr.done X.ret
                  (St.mk [V.a [C.p (PV.i IntKind.u64 ((0 + 0 + (absZ (a * b) + absZ (c * d) + 0) / 18446744073709551616) % 18446744073709551616)), C.p (PV.i IntKind.u64 ((absZ (a * b) + absZ (c * d) + 0) % 18446744073709551616)), C.p (PV.b (decide (c * d < 0)))]] [])))))
          (bT
            (match false with
            | true => !(0 == 0 && (absZ (c * d) == 0 && (decide (c * d < 0) == false && true)))
            | false => 0 == 0 && (absZ (c * d) == 0 && (decide (c * d < 0) == false && true)))
            (Tr.rq (0 ≤ absZ (a * b) ∧ (0 ≤ absZ (c * d) ∧ absZ (c * d) < 18446744073709551616) ∧ Int.ofNat 0 ≤ Int.ofNat 0 ∧ Int.ofNat 0 ≤ Int.ofNat 1)
              (Tr.rq
                (Int.ofNat 0 ≤ Int.ofNat 0 ∧
                  (Int.ofNat 0 ≤ Int.ofNat 0 ∧ Int.ofNat 0 < Int.ofNat 18446744073709551616) ∧
                    0 ≤ (absZ (a * b) + absZ (c * d) + 0) / 18446744073709551616 ∧ (absZ (a * b) + absZ (c * d) + 0) / 18446744073709551616 ≤ 1)
                (bT (decide (a * b < 0))
                  (Tr.done X.ret
                    (St.mk [V.a [C.p (PV.i IntKind.u64 ((0 + 0 + (absZ (a * b) + absZ (c * d) + 0) / 18446744073709551616) % 18446744073709551616)), C.p (PV.i IntKind.u64 ((absZ (a * b) + absZ (c * d) + 0) % 18446744073709551616)), C.p (PV.b true)]] []))
                  (Tr.done X.ret
                    (St.mk [V.a [C.p (PV.i IntKind.u64 ((0 + 0 + (absZ (a * b) + absZ (c * d) + 0) / 18446744073709551616) % 18446744073709551616)), C.p (PV.i IntKind.u64 ((absZ (a * b) + absZ (c * d) + 0) % 18446744073709551616)), C.p (PV.b (decide (c * d < 0)))]] [])))))
            (bT (decide (absZ (a * b) < absZ (c * d)))
              (Tr.rq (0 ≤ absZ (c * d) ∧ (0 ≤ absZ (a * b) ∧ absZ (a * b) < 18446744073709551616) ∧ Int.ofNat 0 ≤ Int.ofNat 0 ∧ Int.ofNat 0 ≤ Int.ofNat 1)
                (Tr.rq
                  (Int.ofNat 0 ≤ Int.ofNat 0 ∧
                    (Int.ofNat 0 ≤ Int.ofNat 0 ∧ Int.ofNat 0 < Int.ofNat 18446744073709551616) ∧
                      (0 ≤ if absZ (c * d) < absZ (a * b) + 0 then (1 : Int) else 0) ∧ (if absZ (c * d) < absZ (a * b) + 0 then (1 : Int) else 0) ≤ 1)
                  (bT ((0 + 18446744073709551616 - 0 - if absZ (c * d) < absZ (a * b) + 0 then (1 : Int) else 0) % 18446744073709551616 == 0)
                    (bT ((absZ (c * d) + 18446744073709551616 - absZ (a * b) - 0) % 18446744073709551616 == 0)
                      (Tr.done X.ret (St.mk [V.a [C.p (PV.i IntKind.u64 0), C.p (PV.i IntKind.u64 0), C.p (PV.b false)]] []))
                      (Tr.done X.ret
                        (St.mk [V.a [C.p (PV.i IntKind.u64 ((0 + 18446744073709551616 - 0 - if absZ (c * d) < absZ (a * b) + 0 then (1 : Int) else 0) % 18446744073709551616)), C.p (PV.i IntKind.u64 ((absZ (c * d) + 18446744073709551616 - absZ (a * b) - 0) % 18446744073709551616)), C.p (PV.b (decide (c * d < 0)))]] [])))
                    (Tr.done X.ret
                      (St.mk [V.a [C.p (PV.i IntKind.u64 ((0 + 18446744073709551616 - 0 - if absZ (c * d) < absZ (a * b) + 0 then (1 : Int) else 0) % 18446744073709551616)), C.p (PV.i IntKind.u64 ((absZ (c * d) + 18446744073709551616 - absZ (a * b) - 0) % 18446744073709551616)), C.p (PV.b (decide (c * d < 0)))]] [])))))
              (Tr.rq (0 ≤ absZ (a * b) ∧ (0 ≤ absZ (c * d) ∧ absZ (c * d) < 18446744073709551616) ∧ Int.ofNat 0 ≤ Int.ofNat 0 ∧ Int.ofNat 0 ≤ Int.ofNat 1)
                (Tr.rq
                  (Int.ofNat 0 ≤ Int.ofNat 0 ∧
                    (Int.ofNat 0 ≤ Int.ofNat 0 ∧ Int.ofNat 0 < Int.ofNat 18446744073709551616) ∧
                      (0 ≤ if absZ (a * b) < absZ (c * d) + 0 then (1 : Int) else 0) ∧ (if absZ (a * b) < absZ (c * d) + 0 then (1 : Int) else 0) ≤ 1)
                  (bT ((0 + 18446744073709551616 - 0 - if absZ (a * b) < absZ (c * d) + 0 then (1 : Int) else 0) % 18446744073709551616 == 0)
                    (bT ((absZ (a * b) + 18446744073709551616 - absZ (c * d) - 0) % 18446744073709551616 == 0)
                      (Tr.done X.ret (St.mk [V.a [C.p (PV.i IntKind.u64 0), C.p (PV.i IntKind.u64 0), C.p (PV.b false)]] []))
                      (Tr.done X.ret
                        (St.mk [V.a [C.p (PV.i IntKind.u64 ((0 + 18446744073709551616 - 0 - if absZ (a * b) < absZ (c * d) + 0 then (1 : Int) else 0) % 18446744073709551616)), C.p (PV.i IntKind.u64 ((absZ (a * b) + 18446744073709551616 - absZ (c * d) - 0) % 18446744073709551616)), C.p (PV.b (decide (a * b < 0)))]] [])))
                    (Tr.done X.ret
                      (St.mk [V.a [C.p (PV.i IntKind.u64 ((0 + 18446744073709551616 - 0 - if absZ (a * b) < absZ (c * d) + 0 then (1 : Int) else 0) % 18446744073709551616)), C.p (PV.i IntKind.u64 ((absZ (a * b) + 18446744073709551616 - absZ (c * d) - 0) % 18446744073709551616)), C.p (PV.b (decide (a * b < 0)))]] [])))))))))) := by kernel_rfl
theorem widL {p q p' q' : Int} {r r' : Bool} (h1 : p = p') (h2 : q = q') (h3 : r = r') : Leaf (VLe (.a [.p (.i .u64 p), .p (.i .u64 q), .p (.b r)]) (.a [.p (.i .u64 p'), .p (.i .u64 q'), .p (.b r')])) := ⟨VLe.of_eq (by rw [h1, h2, h3])⟩
section
variable {G : Nat → Option Obj}
set_option maxRecDepth 100000 in
theorem okGcdI : ModOK Tryd.prog G 28 mGcdI := by
  intro args p v hm hp h
  unfold mGcdI at hm
  split at hm; rotate_left; · cases hm
  rename_i a b
  obtain ⟨rfl, rfl⟩ := some_pairQ hm
  clear hm
  obtain ⟨⟨a0, a1⟩, b0, b1⟩ := hp
  refine fn_S Tryd.func28 (by kernel_rfl) rfl ?_ h
  refine ExS.evG ext0_sound 1 (tGc1 a b) ?_
  simp only [holds_leaf, kf_normal]
  refine ⟨?_⟩
  refine ExS.loop' (l := dropL 1 (pcs Tryd.prog Tryd.f28)) (b := inr (inr (nth .skip (pcs Tryd.prog Tryd.f28) 1))) (r := dropL 2 (pcs Tryd.prog Tryd.f28)) (id := 0) (by kernel_rfl) (σ := Int × Int)
    (fun x => (fun a b => cst 12 [(0, iV a), (1, iV b)] []) x.1 x.2) (fun x => 0 ≤ x.1 ∧ 0 ≤ x.2 ∧ gcdZ x.1 x.2 = gcdZ a b) (fun x => x.2.toNat) (a, b) ⟨a0, b0, rfl⟩ (weak_of_eq (by kernel_rfl)) ?_
  rintro ⟨x, y⟩ ⟨hx, hy, hg⟩ Q1 q1n q1e -
  dsimp only at hx hy hg q1n q1e ⊢
  refine ExS.evH ext0_sound (tGc2 x y) ?_
  simp only [holds_bT, holds_rq, holds_leaf, kf_normal, kf_exit, bne_iff_ne, bne_eq_false_iff_eq, ne_eq]
  refine ⟨fun h1 => ⟨by omega, ⟨q1n (y, x % y) _ ⟨hy, Int.emod_nonneg _ (by omega), ?_⟩ ?_ ?_⟩⟩, fun h1 => ⟨q1e _ ?_⟩⟩
  · simp only
    rw [gcdZ_step hx (by omega), hg]
  · simp only
    have := Int.emod_lt_of_pos x (show 0 < y by omega)
    have := Int.emod_nonneg x (show y ≠ 0 by omega)
    omega
  · exact weak_of_eq (by kernel_rfl)
  · subst h1
    rw [gcdZ_zero hx] at hg
    subst hg
    refine ExS.evH ext0_sound (tGc3 (gcdZ a b) 0) ?_
    simp only [holds_leaf, kf_ret']
    exact ⟨VLe.refl _⟩
theorem extSu_sound : SoundExt Tryd.prog G extSu := extOf_sound (by simp; exact okProduct)
set_option maxRecDepth 100000 in
theorem okSumS : ModOK Tryd.prog G 30 mSumS := by
  intro args p v hm hp h
  unfold mSumS at hm
  split at hm; rotate_left; · cases hm
  rename_i a b c d
  obtain ⟨rfl, rfl⟩ := some_pairQ hm
  clear hm
  obtain ⟨⟨ha, hb⟩, hc, hd⟩ := hp
  refine fn_S Tryd.func30 (by kernel_rfl) rfl ?_ h
  refine ExS.evH extSu_sound (tSu a b c d) ?_
  have m1 := mulB (x := a) (y := b) ha hb
  have m2 := mulB (x := c) (y := d) hc hd
  generalize a * b = X at *
  generalize c * d = Y at *
  have nX : X < 0 → absZ X = -X := fun h => by unfold absZ; rw [if_pos h]
  have pX : 0 ≤ X → absZ X = X := fun h => by unfold absZ; rw [if_neg (by omega)]
  have nY : Y < 0 → absZ Y = -Y := fun h => by unfold absZ; rw [if_pos h]
  have pY : 0 ≤ Y → absZ Y = Y := fun h => by unfold absZ; rw [if_neg (by omega)]
  have nXY : X + Y < 0 → absZ (X + Y) = -(X + Y) := fun h => by unfold absZ; rw [if_pos h]
  have pXY : 0 ≤ X + Y → absZ (X + Y) = X + Y := fun h => by unfold absZ; rw [if_neg (by omega)]
  have hzX : (absZ X == 0) = decide (X = 0) := by
    rw [Bool.eq_iff_iff]
    unfold absZ
    split <;> simp <;> omega
  have hzY : (absZ Y == 0) = decide (Y = 0) := by
    rw [Bool.eq_iff_iff]
    unfold absZ
    split <;> simp <;> omega
  simp only [holds_bT, holds_rq, holds_leaf, kf_ret', hzX, hzY, show Int.ofNat 0 = 0 from rfl, show Int.ofNat 1 = 1 from rfl, show Int.ofNat 18446744073709551616 = 18446744073709551616 from rfl]
  refine ⟨⟨ha, hb⟩, ⟨hc, hd⟩, ?_⟩
  clear ha hb hc hd hzX hzY
  have sX : (X < 0 ∧ absZ X = -X) ∨ (0 ≤ X ∧ absZ X = X) := by
    by_cases h : X < 0
    · exact .inl ⟨h, nX h⟩
    · exact .inr ⟨by omega, pX (by omega)⟩
  have sY : (Y < 0 ∧ absZ Y = -Y) ∨ (0 ≤ Y ∧ absZ Y = Y) := by
    by_cases h : Y < 0
    · exact .inl ⟨h, nY h⟩
    · exact .inr ⟨by omega, pY (by omega)⟩
  have sS : (X + Y < 0 ∧ absZ (X + Y) = -(X + Y)) ∨ (0 ≤ X + Y ∧ absZ (X + Y) = X + Y) := by
    by_cases h : X + Y < 0
    · exact .inl ⟨h, nXY h⟩
    · exact .inr ⟨by omega, pXY (by omega)⟩
  clear nX pX nY pY nXY pXY
  generalize absZ X = x at *
  generalize absZ Y = y at *
  generalize absZ (X + Y) = s at *
  have b1 : ∀ {p q : Prop} [Decidable p] [Decidable q], (decide p == decide q) = true → (p ↔ q) := by
    intro p q _ _ h
    simpa using h
  have b2 : ∀ {p q : Prop} [Decidable p] [Decidable q], (decide p == decide q) = false → ¬ (p ↔ q) := by
    intro p q _ _ h h'
    have : decide p = decide q := decide_eq_decide.2 h'
    rw [this] at h
    simp at h
  have i0 : ∀ {p q : Prop} [Decidable p] [Decidable q], (p ↔ q) → decide p = decide q := fun h => decide_eq_decide.2 h
  have c1 : ∀ {z : Int} {k : Bool}, ((0 : Int) == 0 && (decide (z = 0) && (k == false && true))) = true → z = 0 := by
    intro z k h
    simp at h
    exact h.1
  have c2 : ∀ {z : Int}, ((0 : Int) == 0 && (decide (z = 0) && (decide (z < 0) == false && true))) = false → z ≠ 0 := by
    intro z h hz
    subst hz
    simp at h
  have tl : ∀ {p : Prop} [Decidable p], p → true = decide p := fun h => (decide_eq_true h).symm
  have fl : ∀ {p : Prop} [Decidable p], ¬ p → false = decide p := fun h => (decide_eq_false h).symm
  refine ⟨fun h1 => ?_, fun h1 => ⟨fun h2 => ?_, fun h2 => ⟨fun h3 => ?_, fun h3 => ⟨fun h4 => ?_, fun h4 => ?_⟩⟩⟩⟩
  · have h1 := b1 h1
    refine ⟨by omega, by omega, fun h5 => widL (by omega) (by omega) (tl ?_), fun h5 => widL (by omega) (by omega) (i0 ?_)⟩
    · have := of_decide_eq_true h5; omega
    · have := of_decide_eq_false h5; omega
  · have h1 := b2 h1
    have h2 := c1 h2
    refine ⟨by omega, by omega, fun h5 => ?_, fun h5 => widL (by omega) (by omega) (i0 (by omega))⟩
    have := of_decide_eq_true h5; omega
  · have h1 := b2 h1
    have h2 := c2 h2
    have h3 := c1 h3
    refine ⟨by omega, by omega, fun h5 => ?_, fun h5 => ?_⟩
    · have := of_decide_eq_true h5
      exact widL (by omega) (by omega) (tl (by omega))
    · have := of_decide_eq_false h5; omega
  all_goals
    have h1 := b2 h1
    have h2 := c2 h2
    have h3 := c2 h3
  · have h4 := of_decide_eq_true h4
    have e1 : (if y < x + 0 then (1 : Int) else 0) = 0 := if_neg (by omega)
    rw [e1]
    refine ⟨by omega, by omega, fun h5 => ⟨fun h6 => ?_, fun h6 => ?_⟩, fun h5 => by simp at h5⟩
    · have h6 : (y + 18446744073709551616 - x - 0) % 18446744073709551616 = 0 := by simpa using h6
      exact widL (by omega) (by omega) (fl (by omega))
    · have h6 : ¬ (y + 18446744073709551616 - x - 0) % 18446744073709551616 = 0 := by simpa using h6
      exact widL (by omega) (by omega) (i0 (by omega))
  · have h4 := of_decide_eq_false h4
    have e1 : (if x < y + 0 then (1 : Int) else 0) = 0 := if_neg (by omega)
    rw [e1]
    refine ⟨by omega, by omega, fun h5 => ⟨fun h6 => ?_, fun h6 => ?_⟩, fun h5 => by simp at h5⟩
    · have h6 : (x + 18446744073709551616 - y - 0) % 18446744073709551616 = 0 := by simpa using h6
      exact widL (by omega) (by omega) (fl (by omega))
    · have h6 : ¬ (x + 18446744073709551616 - y - 0) % 18446744073709551616 = 0 := by simpa using h6
      exact widL (by omega) (by omega) (i0 (by omega))
end
end Go.AE
