/- The ladder of escalations, in plain numbers; the walk of AlertLadder. -/
import Derived.Test.YtlaknbcmidjiaaaDoorAl5
import Derived.Test.YtlaknbcmidjiaaaDoorAlOnceW
namespace Go.Proofs.YtlaknbcmidjiaaaDoor
open Go.RowKit

/-- The alert ahead of tick k: not acknowledged, L times escalated; or acknowledged at tick a. -/
def LadI (d n a k L : Nat) (st si : Int) : Prop :=
  (k ≤ a ∧ L = min ((k - 1) / d) (min n 16) ∧ ((L = 0 ∧ st = 2 ∧ si = 0) ∨ (0 < L ∧ st = 4 ∧ si = d * L))) ∨ (a < k ∧ L ≤ 16 ∧ st = 3 ∧ si = a)
/-- What the law expects of tick k. -/
def ladUp (d n a k L : Nat) : Bool := decide (k ≤ a) && (k % d == 0) && decide (L < min n 16)
theorem lad_vis {st si : Int} {L k : Nat} (h : (L = 0 ∧ st = 2) ∨ (0 < L ∧ L ≤ 16 ∧ st = 4) ∨ (L ≤ 16 ∧ st = 3)) (h0 : 0 ≤ si) (h1 : si ≤ k) (h2 : k ≤ 1000) : visB hot 1 noL 0 st si L k = true := by
  refine hot_vis st si L k (by omega) (by omega) h0 h1 (by omega) ?_
  unfold lvB
  rcases h with ⟨rfl, rfl⟩ | ⟨h3, h4, rfl⟩ | ⟨h4, rfl⟩
  · decide
  · have e : lev ((4 : Int).toNat * 2) = 1 ∧ lev ((4 : Int).toNat * 2 + 1) = 16 := by decide
    rw [e.1, e.2]; simp; omega
  · have e : lev ((3 : Int).toNat * 2) = 0 ∧ lev ((3 : Int).toNat * 2 + 1) = 16 := by decide
    rw [e.1, e.2]; simp; omega
theorem lad_step {d n a k L : Nat} {st si : Int} (hd : 1 ≤ d ∧ d ≤ 5) (hk : 1 ≤ k ∧ k ≤ 99) (h : LadI d n a k L st si) :
    ∃ (st' si' : Int), escD (visB hot 1 noL 0 st si L k) st si L k d n = (st', si', ((L + (if ladUp d n a k L = true then 1 else 0) : Nat) : Int), ladUp d n a k L) ∧ 0 ≤ si' ∧
      (k ≠ a → LadI d n a (k + 1) (L + (if ladUp d n a k L = true then 1 else 0)) st' si') ∧
      (k = a → (st' = 2 ∨ st' = 4) ∧ visB hot 1 noL 0 st' si' ((L + (if ladUp d n a k L = true then 1 else 0) : Nat) : Int) k = true ∧ LadI d n a (k + 1) (L + (if ladUp d n a k L = true then 1 else 0)) 3 k) := by
  obtain ⟨hd1, hd2⟩ := hd
  have hdd : d = 1 ∨ d = 2 ∨ d = 3 ∨ d = 4 ∨ d = 5 := by omega
  have hLb : L ≤ 16 ∧ 0 ≤ si ∧ si ≤ k := by
    rcases h with ⟨h1, h2, h3⟩ | ⟨h1, h2, h3, h4⟩
    · rcases h3 with ⟨h4, h5, h6⟩ | ⟨h4, h5, h6⟩
      · omega
      · rcases hdd with rfl | rfl | rfl | rfl | rfl <;> omega
    · omega
  have hv : visB hot 1 noL 0 st si L k = true := by
    refine lad_vis ?_ hLb.2.1 hLb.2.2 (by omega)
    rcases h with ⟨h1, h2, h3⟩ | ⟨h1, h2, h3, h4⟩
    · rcases h3 with ⟨h4, h5, h6⟩ | ⟨h4, h5, h6⟩
      · exact .inl ⟨h4, h5⟩
      · exact .inr (.inl ⟨h4, hLb.1, h5⟩)
    · exact .inr (.inr ⟨h2, h3⟩)
  rw [hv]
  by_cases hu : ladUp d n a k L = true
  · rw [if_pos hu, hu]
    simp only [ladUp, Bool.and_eq_true, decide_eq_true_eq, beq_iff_eq] at hu
    obtain ⟨⟨u1, u2⟩, u3⟩ := hu
    rcases h with ⟨h1, h2, h3⟩ | ⟨h1, h2, h3, h4⟩
    · refine ⟨4, k, ?_, by omega, fun hne => .inl ?_, fun he => ⟨.inr rfl, lad_vis (.inr (.inl ⟨by omega, by omega, rfl⟩)) (by omega) (by omega) (by omega), .inr ?_⟩⟩
      · unfold escD
        rw [if_neg (by simp; omega), if_neg ?_]
        · push_cast; rfl
        · rcases h3 with ⟨h4, h5, h6⟩ | ⟨h4, h5, h6⟩ <;> rcases hdd with rfl | rfl | rfl | rfl | rfl <;> omega
      · rcases h3 with ⟨h4, h5, h6⟩ | ⟨h4, h5, h6⟩ <;> rcases hdd with rfl | rfl | rfl | rfl | rfl <;> omega
      · omega
    · omega
  · rw [if_neg hu]
    have hu' : ladUp d n a k L = false := by simpa using hu
    rw [hu', Nat.add_zero]
    have hneg : a < k ∨ k % d ≠ 0 ∨ min n 16 ≤ L := by
      simp only [ladUp, Bool.and_eq_true, decide_eq_true_eq, beq_iff_eq, not_and, Nat.not_lt] at hu
      by_cases a1 : k ≤ a
      · by_cases a2 : k % d = 0
        · exact .inr (.inr (hu ⟨a1, a2⟩))
        · exact .inr (.inl a2)
      · exact .inl (by omega)
    refine ⟨st, si, ?_, hLb.2.1, fun hne => ?_, fun he => ?_⟩
    · unfold escD
      by_cases hc : (true = false) ∨ (st ≠ 2 ∧ st ≠ 4)
      · rw [if_pos hc]
      · rw [if_neg hc, if_pos ?_]
        rcases h with ⟨h1, h2, h3⟩ | ⟨h1, h2, h3, h4⟩
        · rcases h3 with ⟨h4, h5, h6⟩ | ⟨h4, h5, h6⟩ <;> rcases hdd with rfl | rfl | rfl | rfl | rfl <;> omega
        · exact absurd (Or.inr ⟨by omega, by omega⟩) hc
    · rcases h with ⟨h1, h2, h3⟩ | ⟨h1, h2, h3, h4⟩
      · refine .inl ⟨by omega, ?_, h3⟩
        rcases h3 with ⟨h4, h5, h6⟩ | ⟨h4, h5, h6⟩ <;> rcases hdd with rfl | rfl | rfl | rfl | rfl <;> omega
      · exact .inr ⟨by omega, h2, h3, h4⟩
    · rcases h with ⟨h1, h2, h3⟩ | ⟨h1, h2, h3, h4⟩
      · refine ⟨?_, hv, .inr ⟨by omega, hLb.1, rfl, by omega⟩⟩
        rcases h3 with ⟨h4, h5, h6⟩ | ⟨h4, h5, h6⟩ <;> omega
      · omega
theorem lad_no {d n a k L : Nat} (hu : ladUp d n a k L = false) : a < k ∨ k % d ≠ 0 ∨ min n 16 ≤ L := by
  by_cases a1 : k ≤ a
  · by_cases a2 : k % d = 0
    · by_cases a3 : L < min n 16
      · simp [ladUp, a1, a2] at hu; omega
      · exact .inr (.inr (by omega))
    · exact .inr (.inl a2)
  · exact .inl (by omega)
theorem lad_yes {d n a k L : Nat} (hu : ladUp d n a k L = true) : k ≤ a ∧ k % d = 0 ∧ L < min n 16 := by
  simp only [ladUp, Bool.and_eq_true, decide_eq_true_eq, beq_iff_eq] at hu
  exact ⟨hu.1.1, hu.1.2, hu.2⟩
theorem lad_start (d n a : Nat) (ha : 1 ≤ a) : LadI d n a 1 0 2 0 := .inl ⟨ha, by simp, .inl ⟨rfl, rfl, rfl⟩⟩
end Go.Proofs.YtlaknbcmidjiaaaDoor
