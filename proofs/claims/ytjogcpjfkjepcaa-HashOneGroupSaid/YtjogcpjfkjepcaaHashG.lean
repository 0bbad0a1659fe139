/- Plain facts: words of bytes that differ within one group, and what that does to the sums. -/
import Derived.Test.YtjogcpjfkjepcaaHashT
namespace Go.Proofs.Ytjogcpjfkjepcaa
open Go.RowKit

theorem wdF_inj {f g : Nat → Int} (hf : Byt f) (hg : Byt g) (i m : Nat) : wdF f i m = wdF g i m ↔ ∀ k, k < m → f (i + k) = g (i + k) := by
  induction m with
  | zero => exact ⟨fun _ k hk => absurd hk (by omega), fun _ => rfl⟩
  | succ m ih =>
    obtain ⟨a1, a2⟩ := wdF_bounds hf i m
    obtain ⟨b1, b2⟩ := wdF_bounds hg i m
    simp only [wdF]
    have hp : (0 : Int) < 256 ^ m := Int.pow_pos (by decide)
    constructor
    · intro e
      have ef : (wdF f i m + f (i + m) * 256 ^ m) / 256 ^ m = f (i + m) := by
        rw [Int.add_mul_ediv_right _ _ (by omega), Int.ediv_eq_zero_of_lt a1 a2, Int.zero_add]
      have eg : (wdF g i m + g (i + m) * 256 ^ m) / 256 ^ m = g (i + m) := by
        rw [Int.add_mul_ediv_right _ _ (by omega), Int.ediv_eq_zero_of_lt b1 b2, Int.zero_add]
      have e1 : f (i + m) = g (i + m) := by rw [← ef, ← eg, e]
      have e2 : wdF f i m = wdF g i m := by rw [e1] at e; omega
      intro k hk
      rcases Nat.lt_or_ge k m with h | h
      · exact (ih.1 e2) k h
      · obtain rfl : k = m := by omega
        exact e1
    · intro h
      rw [ih.2 fun k hk => h k (by omega), h m (by omega)]
theorem wdF_congr2 {f g : Nat → Int} (i m : Nat) (h : ∀ k, i ≤ k → k < i + m → f k = g k) : wdF f i m = wdF g i m := by
  induction m with
  | zero => rfl
  | succ m ih => rw [wdF, wdF, ih fun k h1 hk => h k h1 (by omega), h (i + m) (by omega) (by omega)]
theorem words_set {f g : Nat → Int} {n q : Nat} (h : ∀ k, k < n → k / 8 ≠ q → f k = g k) :
    wordsF g n ((n + 7) / 8) = (wordsF f n ((n + 7) / 8)).set q (wdF g (8 * q) (min 8 (n - 8 * q))) := by
  apply List.ext_getElem
  · simp [wordsF]
  · intro j h1 h2
    rw [List.getElem_set]
    split
    · next e => subst e; simp [wordsF]
    · next e =>
      simp only [wordsF, List.getElem_map, List.getElem_range]
      have hj : j < (n + 7) / 8 := by simpa [wordsF] using h1
      exact (wdF_congr2 _ _ fun k hk1 hk => h k (by omega) (by omega)).symm
theorem toI_bounds (x : Int) : -9223372036854775808 ≤ toI x ∧ toI x ≤ 9223372036854775807 := by unfold toI wrap64; omega
theorem toI_inj {a b : Int} (ha : U64 a) (hb : U64 b) : toI a = toI b ↔ a = b := by
  unfold toI wrap64
  obtain ⟨h1, h2⟩ := ha
  obtain ⟨h3, h4⟩ := hb
  omega
/-- Bytes that differ within one group alone: the hash tells. -/
theorem sumS_group (s : ByteArray) {f g : Nat → Int} (hf : Byt f) (hg : Byt g) {n q : Nat} (hn : n ≤ 1000) (hq : q < (n + 7) / 8) (h : ∀ k, k < n → k / 8 ≠ q → f k = g k) :
    sumS s (bytesL f n) = sumS s (bytesL g n) ↔ ∀ k, k < n → f k = g k := by
  have e : bytesL g n = (bytesL f n).set q (toI (wdF g (8 * q) (min 8 (n - 8 * q)))) := by
    unfold bytesL
    rw [words_set h, List.map_set, List.set_append_left _ _ (by rw [List.length_map, wordsF_length]; exact hq)]
  have hlen : q < (bytesL f n).length := by
    unfold bytesL
    rw [List.length_append, List.length_map, wordsF_length]
    omega
  rw [e, sumS_set s _ q _ hlen ?_ (toI_bounds _)]
  · have hg1 : (bytesL f n)[q]? = some (toI (wdF f (8 * q) (min 8 (n - 8 * q)))) := by
      unfold bytesL
      rw [List.getElem?_append_left (by rw [List.length_map, wordsF_length]; exact hq)]
      simp [wordsF, hq]
    have hg0 : (bytesL f n)[q] = toI (wdF f (8 * q) (min 8 (n - 8 * q))) := by
      rw [List.getElem?_eq_getElem hlen] at hg1
      injection hg1
    rw [hg0, toI_inj (wdF_u64 hf _ _ (by omega)) (wdF_u64 hg _ _ (by omega)), wdF_inj hf hg]
    constructor
    · intro h2 k hk
      by_cases hk8 : k / 8 = q
      · have := h2 (k - 8 * q) (by omega)
        rwa [show 8 * q + (k - 8 * q) = k by omega] at this
      · exact h k hk hk8
    · intro h2 k hk
      exact h2 _ (by omega)
  · intro z hz
    unfold bytesL at hz
    rcases List.mem_append.1 hz with h1 | h1
    · obtain ⟨y, _, rfl⟩ := List.mem_map.1 h1
      exact toI_bounds y
    · simp at h1
      omega
/-- Labels that differ within one group alone: the sum tells. -/
theorem sumI_label {f g : Nat → Int} (hf : Byt f) (hg : Byt g) {n q : Nat} (hn : n ≤ 1000) (hq : q < (n + 7) / 8) (h : ∀ k, k < n → k / 8 ≠ q → f k = g k) (l : List Int) (hl1000 : l.length ≤ 1000) :
    sumI (wordsF f n ((n + 7) / 8)) n l = sumI (wordsF g n ((n + 7) / 8)) n l ↔ ∀ k, k < n → f k = g k := by
  have hl : q < (wordsF f n ((n + 7) / 8)).length := by rw [wordsF_length]; exact hq
  have e2 := words_set h
  obtain ⟨W, hW⟩ : ∃ W, W = wordsF f n ((n + 7) / 8) := ⟨_, rfl⟩
  have hU : ∀ z ∈ W, U64 z := by rw [hW]; exact wordsF_u64 hf _ _
  have hWq : W[q]? = some (wdF f (8 * q) (min 8 (n - 8 * q))) := by rw [hW]; simp [wordsF, hq]
  rw [← hW] at hl e2 ⊢
  have e1 : W = W.take q ++ W[q] :: W.drop (q + 1) := by rw [← List.drop_eq_getElem_cons hl, List.take_append_drop]
  have e3 : wordsF g n ((n + 7) / 8) = W.take q ++ wdF g (8 * q) (min 8 (n - 8 * q)) :: W.drop (q + 1) := by rw [e2, List.set_eq_take_append_cons_drop]; simp [hl]
  rw [e3]
  conv => lhs; lhs; rw [e1]
  rw [List.getElem?_eq_getElem hl] at hWq
  have hWq' : W[q] = wdF f (8 * q) (min 8 (n - 8 * q)) := by injection hWq
  rw [hWq']
  have hr : ∀ z ∈ W.drop (q + 1), U64 z := fun z hz => hU z (List.mem_of_mem_drop hz)
  have h0 : U64 0 := by constructor <;> decide
  have hnn : U64 (n : Int) := ⟨by omega, by omega⟩
  have hll : U64 (l.length : Int) := ⟨by omega, by omega⟩
  have hm : ∀ z ∈ l.map u64, U64 z := fun z hz => by obtain ⟨k, _, rfl⟩ := List.mem_map.1 hz; exact u64_U64 k
  have ec : ∀ z, mixL (mixL 0 (W.take q)) (z :: W.drop (q + 1)) = mixL (mixI (mixL 0 (W.take q)) z) (W.drop (q + 1)) := fun z => rfl
  rw [sumI, sumI, mixI_left (mixL_u64 (mixI_u64 _ _) _) (mixL_u64 (mixI_u64 _ _) _) h0, mixL_left _ hm (mixI_u64 _ _) (mixI_u64 _ _), mixI_left (mixI_u64 _ _) (mixI_u64 _ _) hll,
    mixI_left (mixL_u64 h0 _) (mixL_u64 h0 _) hnn, mixL_append, mixL_append, ec, ec, mixL_left _ hr (mixI_u64 _ _) (mixI_u64 _ _), mixI_right (mixL_u64 h0 _) (wdF_u64 hf _ _ (by omega)) (wdF_u64 hg _ _ (by omega)), wdF_inj hf hg]
  constructor
  · intro h2 k hk
    by_cases hk8 : k / 8 = q
    · have := h2 (k - 8 * q) (by omega)
      rwa [show 8 * q + (k - 8 * q) = k by omega] at this
    · exact h k hk hk8
  · intro h2 k hk
    exact h2 _ (by omega)
end Go.Proofs.Ytjogcpjfkjepcaa
