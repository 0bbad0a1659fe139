/- Plain: trying all truth values gives the verdicts that the least and the greatest condition give. -/
import Derived.Test.YtlaknbcmidjiaaaDoorTruths
namespace Go.Proofs.YtlaknbcmidjiaaaDoor

/-- The number of Mays before place k. -/
def maysF (f : Nat → Int) : Nat → Nat
  | 0 => 0
  | k + 1 => maysF f k + (if f k = 1 then 1 else 0)
theorem maysF_le (f : Nat → Int) : ∀ k, maysF f k ≤ k
  | 0 => Nat.le_refl _
  | k + 1 => by have := maysF_le f k; unfold maysF; split <;> omega
theorem maysF_mono (f : Nat → Int) {j k : Nat} (h : j ≤ k) : maysF f j ≤ maysF f k := by
  induction k with
  | zero => obtain rfl : j = 0 := by omega
            exact Nat.le_refl _
  | succ k ih =>
    by_cases hj : j = k + 1
    · subst hj; exact Nat.le_refl _
    · have := ih (by omega)
      show _ ≤ maysF f k + _
      omega
theorem chF_zero (f : Nat → Int) : ∀ k, chF f 0 k = 0
  | 0 => rfl
  | k + 1 => by unfold chF; rw [chF_zero f k]; split <;> rfl
theorem trF_zero (f : Nat → Int) (k : Nat) : trF f 0 k = (f k == 2) := by
  unfold trF
  split
  · rename_i h; rw [chF_zero, h]; rfl
  · rfl
/-- All ones: what is left behind k places is all ones still. -/
theorem chF_ones (f : Nat → Int) (m : Nat) : ∀ k, maysF f k ≤ m → chF f ((2 ^ m : Nat) - 1 : Int) k = ((2 ^ (m - maysF f k) : Nat) : Int) - 1
  | 0, _ => rfl
  | k + 1, h => by
    have h1 : maysF f k ≤ m := Nat.le_trans (maysF_mono f (Nat.le_succ k)) h
    have ih := chF_ones f m k h1
    unfold chF
    by_cases hf : f k = 1
    · rw [if_pos hf, ih]
      have e : maysF f (k + 1) = maysF f k + 1 := by simp [maysF, hf]
      rw [e] at h ⊢
      have e2 : 2 ^ (m - maysF f k) = 2 * 2 ^ (m - (maysF f k + 1)) := by
        rw [show m - maysF f k = (m - (maysF f k + 1)) + 1 by omega, Nat.pow_succ, Nat.mul_comm]
      rw [e2]
      omega
    · rw [if_neg hf, ih]
      have e : maysF f (k + 1) = maysF f k := by simp [maysF, hf]
      rw [e]
theorem trF_ones {f : Nat → Int} {n k : Nat} (hk : k < n) (hv : 0 ≤ f k ∧ f k ≤ 2) : trF f ((2 ^ maysF f n : Nat) - 1 : Int) k = (f k != 0) := by
  unfold trF
  by_cases hf : f k = 1
  · rw [if_pos hf, chF_ones f _ k (maysF_mono f (by omega)), hf]
    have h1 : maysF f k + 1 ≤ maysF f n := by
      have e : maysF f (k + 1) = maysF f k + 1 := by simp [maysF, hf]
      rw [← e]; exact maysF_mono f hk
    have e2 : 2 ^ (maysF f n - maysF f k) = 2 * 2 ^ (maysF f n - (maysF f k + 1)) := by
      rw [show maysF f n - maysF f k = (maysF f n - (maysF f k + 1)) + 1 by omega, Nat.pow_succ, Nat.mul_comm]
    rw [e2]
    have : (((2 * 2 ^ (maysF f n - (maysF f k + 1)) : Nat) : Int) - 1) % 2 = 1 := by omega
    rw [this]; rfl
  · rw [if_neg hf]
    have hc : f k = 0 ∨ f k = 2 := by omega
    rcases hc with h | h <;> rw [h] <;> rfl
theorem laF_low {f g : Nat → Int} {n : Nat} (hg : ∀ k, k < n → 0 ≤ g k ∧ g k ≤ 2) : ∀ k, k ≤ n → laF (trF f 0) (trF g ((2 ^ maysF g n : Nat) - 1 : Int)) k = lowF f g k
  | 0, _ => rfl
  | k + 1, h => by
    show (trF f 0 k || (laF _ _ k && !trF g _ k)) = ((f k == 2) || (lowF f g k && !(g k != 0)))
    rw [laF_low hg k (by omega), trF_zero, trF_ones (by omega) (hg k (by omega))]
theorem laF_high {f g : Nat → Int} {n : Nat} (hf : ∀ k, k < n → 0 ≤ f k ∧ f k ≤ 2) : ∀ k, k ≤ n → laF (trF f ((2 ^ maysF f n : Nat) - 1 : Int)) (trF g 0) k = highF f g k
  | 0, _ => rfl
  | k + 1, h => by
    show (trF f _ k || (laF _ _ k && !trF g 0 k)) = ((f k != 0) || (highF f g k && !(g k == 2)))
    rw [laF_high hf k (by omega), trF_zero, trF_ones (by omega) (hf k (by omega))]
/-- The condition at place i by the choices x and y. -/
def onF (f g : Nat → Int) (x y i : Nat) : Bool := laF (trF f x) (trF g y) (i + 1)
/-- What is found sometimes and always, behind y inner rounds from S on. -/
def syF (f g : Nat → Int) (S : Nat → Bool) (x : Nat) : Nat → Nat → Bool
  | 0 => S
  | y + 1 => fun i => syF f g S x y i || onF f g x y i
def sxF (f g : Nat → Int) (b : Nat) : Nat → Nat → Bool
  | 0 => fun _ => false
  | x + 1 => syF f g (sxF f g b x) x b
def ayF (f g : Nat → Int) (S : Nat → Bool) (x : Nat) : Nat → Nat → Bool
  | 0 => S
  | y + 1 => fun i => ayF f g S x y i && onF f g x y i
def axF (f g : Nat → Int) (b : Nat) : Nat → Nat → Bool
  | 0 => fun _ => true
  | x + 1 => ayF f g (axF f g b x) x b
theorem syF_iff (f g : Nat → Int) (S : Nat → Bool) (x i : Nat) : ∀ y, syF f g S x y i = true ↔ S i = true ∨ ∃ d, d < y ∧ onF f g x d i = true
  | 0 => by simp [syF]
  | y + 1 => by
    simp only [syF, Bool.or_eq_true, syF_iff f g S x i y]
    constructor
    · rintro ((h | ⟨d, hd, h⟩) | h)
      · exact .inl h
      · exact .inr ⟨d, by omega, h⟩
      · exact .inr ⟨y, by omega, h⟩
    · rintro (h | ⟨d, hd, h⟩)
      · exact .inl (.inl h)
      · by_cases e : d = y
        · subst e; exact .inr h
        · exact .inl (.inr ⟨d, by omega, h⟩)
theorem sxF_iff (f g : Nat → Int) (b i : Nat) : ∀ x, sxF f g b x i = true ↔ ∃ c d, c < x ∧ d < b ∧ onF f g c d i = true
  | 0 => by simp [sxF]
  | x + 1 => by
    show syF f g (sxF f g b x) x b i = true ↔ _
    rw [syF_iff, sxF_iff f g b i x]
    constructor
    · rintro (⟨c, d, hc, hd, h⟩ | ⟨d, hd, h⟩)
      · exact ⟨c, d, by omega, hd, h⟩
      · exact ⟨x, d, by omega, hd, h⟩
    · rintro ⟨c, d, hc, hd, h⟩
      by_cases e : c = x
      · subst e; exact .inr ⟨d, hd, h⟩
      · exact .inl ⟨c, d, by omega, hd, h⟩
theorem ayF_iff (f g : Nat → Int) (S : Nat → Bool) (x i : Nat) : ∀ y, ayF f g S x y i = true ↔ S i = true ∧ ∀ d, d < y → onF f g x d i = true
  | 0 => by simp [ayF]
  | y + 1 => by
    simp only [ayF, Bool.and_eq_true, ayF_iff f g S x i y]
    constructor
    · rintro ⟨⟨h1, h2⟩, h3⟩
      refine ⟨h1, fun d hd => ?_⟩
      by_cases e : d = y
      · subst e; exact h3
      · exact h2 d (by omega)
    · rintro ⟨h1, h2⟩
      exact ⟨⟨h1, fun d hd => h2 d (by omega)⟩, h2 y (by omega)⟩
theorem axF_iff (f g : Nat → Int) (b i : Nat) : ∀ x, axF f g b x i = true ↔ ∀ c d, c < x → d < b → onF f g c d i = true
  | 0 => by simp [axF]
  | x + 1 => by
    show ayF f g (axF f g b x) x b i = true ↔ _
    rw [ayF_iff, axF_iff f g b i x]
    constructor
    · rintro ⟨h1, h2⟩ c d hc hd
      by_cases e : c = x
      · subst e; exact h2 d hd
      · exact h1 c d (by omega) hd
    · exact fun h => ⟨fun c d hc hd => h c d (by omega) hd, fun d hd => h x d (by omega) hd⟩
theorem pow_pos' (m : Nat) : 0 < 2 ^ m := Nat.pow_pos (by omega)
theorem cast_ones (m : Nat) : (((2 ^ m - 1 : Nat) : Nat) : Int) = ((2 ^ m : Nat) : Int) - 1 := by have := pow_pos' m; omega
theorem sometimes_eq {f g : Nat → Int} {n i : Nat} (hi : i < n) (hf : ∀ k, k < n → 0 ≤ f k ∧ f k ≤ 2) : sxF f g (2 ^ maysF g n) (2 ^ maysF f n) i = highF f g (i + 1) := by
  rw [Bool.eq_iff_iff, sxF_iff]
  constructor
  · rintro ⟨c, d, _, _, h⟩
    exact (between f g c d (i + 1)).2 h
  · intro h
    refine ⟨2 ^ maysF f n - 1, 0, by have := pow_pos' (maysF f n); omega, pow_pos' _, ?_⟩
    unfold onF
    rw [cast_ones]
    exact (laF_high (g := g) hf (i + 1) (by omega)).trans h
theorem always_eq {f g : Nat → Int} {n i : Nat} (hi : i < n) (hg : ∀ k, k < n → 0 ≤ g k ∧ g k ≤ 2) : axF f g (2 ^ maysF g n) (2 ^ maysF f n) i = lowF f g (i + 1) := by
  rw [Bool.eq_iff_iff, axF_iff]
  constructor
  · intro h
    have := h 0 (2 ^ maysF g n - 1) (pow_pos' _) (by have := pow_pos' (maysF g n); omega)
    unfold onF at this
    rw [cast_ones] at this
    exact (laF_low (f := f) hg (i + 1) (by omega)).symm.trans this
  · intro h c d _ _
    exact (between f g c d (i + 1)).1 h
end Go.Proofs.YtlaknbcmidjiaaaDoor
