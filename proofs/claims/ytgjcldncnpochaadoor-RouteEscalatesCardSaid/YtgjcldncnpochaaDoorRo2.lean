/- Plain: the rotas that ref29.Rota makes, if not dirty, are valid; the persons on duty, level by level. -/
import Derived.Test.YtgjcldncnpochaaDoorS17
namespace Go.AE
set_option linter.unusedVariables false
set_option linter.unusedSimpArgs false
open Go.Proofs Go.Proofs.YtgjcldncnpochaaDoor

theorem scanR_of {P : Int} : ∀ {L : List Sh}, (∀ x ∈ L, nameB x.1 = true ∧ badS P x = false) → scanR P L = 0
  | [], _ => rfl
  | x :: r, h => by
    obtain ⟨h1, h2⟩ := h x (List.mem_cons_self ..)
    unfold scanR
    rw [if_neg (by rw [h1]; decide), if_neg (by rw [h2]; decide)]
    exact scanR_of fun y hy => h y (List.mem_cons_of_mem _ hy)
theorem names4_ok (k : Nat) (hk : k < 4) : nameB (names4.getD k default) = true := by
  have : k = 0 ∨ k = 1 ∨ k = 2 ∨ k = 3 := by omega
  rcases this with rfl | rfl | rfl | rfl <;> decide
theorem shF_false (P n : Int) (i : Nat) : shF false P n i = sh2 i P n (sh1 i (shS P n)) := by
  have e : ∀ p : Prop, ¬ (false = true ∧ p) := fun p h => by cases h.1
  unfold shF sh5 sh4 sh3
  rw [if_neg (e _), if_neg (e _), if_neg (e _)]
theorem badS_of {P : Int} {x : Sh} (h0 : 0 ≤ x.2.1) (h1 : x.2.1 < x.2.2) (h2 : x.2.2 ≤ P) : badS P x = false := by
  unfold badS
  simp only [Bool.or_eq_false_iff, decide_eq_false_iff_not]
  omega
theorem shF_ok {P n : Int} (hP : 1 ≤ P) (hn : 0 ≤ n) (i : Nat) : nameB (shF false P n i).1 = true ∧ badS P (shF false P n i) = false := by
  rw [shF_false]
  have f1 := Int.emod_nonneg (n / 4) (show P ≠ 0 by omega)
  have f2 := Int.emod_lt_of_pos (n / 4) (show 0 < P by omega)
  have u1 := Int.emod_nonneg (n / 64) (show P - n / 4 % P ≠ 0 by omega)
  have u2 := Int.emod_lt_of_pos (n / 64) (show 0 < P - n / 4 % P by omega)
  have hnm : nameB (names4.getD (n % 4).toNat default) = true := names4_ok _ (by omega)
  unfold sh2 sh1 shS
  split
  · split
    · exact ⟨hnm, badS_of (by simp only; omega) (by simp only; omega) (by simp only; omega)⟩
    · exact ⟨hnm, badS_of (by simp only; omega) (by simp only; omega) (by simp only; omega)⟩
  · split
    · exact ⟨hnm, badS_of (by simp only; omega) (by simp only; omega) (by simp only; omega)⟩
    · exact ⟨hnm, badS_of (by simp only; omega) (by simp only; omega) (by simp only; omega)⟩
theorem rotaP_range (L : List Int) : 1 ≤ rotaP L ∧ rotaP L ≤ 12 := by
  have hP := pickZ_range L 0 (m := 12) (by omega)
  unfold rotaP
  omega
theorem rotaS_scan (L : List Int) (k : Nat) : ∀ x ∈ rotaS false L k, nameB x.1 = true ∧ badS (rotaP L) x = false := by
  intro x hx
  obtain ⟨i, _, rfl⟩ := List.mem_map.1 hx
  exact shF_ok (rotaP_range L).1 (pickZ_range L _ (by omega)).1 i
theorem rotaL_valid (L : List Int) : rotaZ (rotaP L) (rotaL false L) = 0 := by
  have hr := rotaP_range L
  have hK := pickZ_range L 1 (m := 6) (by omega)
  have hk : rotaK L ≤ 6 := by unfold rotaK; omega
  unfold rotaL
  split
  · refine (rotaZ_cases (by omega) (by rw [List.length_append, rotaS_length]; simp only [List.length]; omega)).2.1 (scanR_of ?_) ?_
    · intro x hx
      rcases List.mem_append.1 hx with hx | hx
      · exact rotaS_scan L _ x hx
      · obtain rfl := List.mem_singleton.1 hx
        exact ⟨by show nameB ⟨#[101, 118, 101]⟩ = true; decide, badS_of (by simp only; omega) (by simp only; omega) (by simp only; omega)⟩
    · intro t h0 h1
      exact covB_iff.2 ⟨_, List.mem_append.2 (.inr (List.mem_singleton.2 rfl)), h0, h1⟩
  · rename_i h
    cases Classical.em (rotaZ (rotaP L) (rotaS false L (rotaK L)) = 0) with
    | inl h' => exact h'
    | inr h' => exact absurd ⟨rfl, h'⟩ h
theorem persF_nodup {a : Int} : ∀ {L : List Sh} {acc : List ByteArray}, acc.Nodup → (persF a L acc).Nodup
  | [], _, h => h
  | x :: r, acc, h => by
    unfold persF
    refine persF_nodup ?_
    split
    · rename_i hc
      rw [List.nodup_append]
      refine ⟨h, by simp, fun y hy z hz => ?_⟩
      obtain rfl := List.mem_singleton.1 hz
      rintro rfl
      rw [hasS_iff.2 hy] at hc
      cases hc.2
    · exact h
theorem persF_from {a : Int} : ∀ {L : List Sh} {acc : List ByteArray} {s : ByteArray}, s ∈ persF a L acc → s ∈ acc ∨ ∃ x ∈ L, x.1 = s ∧ x.2.1 ≤ a ∧ a < x.2.2
  | [], _, _, h => .inl h
  | x :: r, acc, s, h => by
    unfold persF at h
    rcases persF_from h with h | ⟨y, y1, y2⟩
    · split at h
      · rename_i hc
        rcases List.mem_append.1 h with h | h
        · exact .inl h
        · exact .inr ⟨x, List.mem_cons_self .., (List.mem_singleton.1 h).symm, hc.1⟩
      · exact .inl h
    · exact .inr ⟨y, List.mem_cons_of_mem _ y1, y2⟩
/-- The person of a level. -/
def lvl (q : List ByteArray) (k : Nat) : ByteArray := q.getD (min k (q.length - 1)) default
theorem lvl_mem {q : List ByteArray} (h : 0 < q.length) (k : Nat) : lvl q k ∈ q := by
  have hi : min k (q.length - 1) < q.length := by omega
  unfold lvl
  rw [List.getD_eq_getElem?_getD, List.getElem?_eq_getElem hi]
  exact List.getElem_mem hi
theorem lvl_inj {q : List ByteArray} (hd : q.Nodup) (h : 0 < q.length) {j k : Nat} (hjk : j < k) (e : lvl q j = lvl q k) : q.length ≤ k := by
  unfold lvl at e
  have h1 : min j (q.length - 1) < q.length := by omega
  have h2 : min k (q.length - 1) < q.length := by omega
  rw [List.getD_eq_getElem?_getD, List.getD_eq_getElem?_getD, List.getElem?_eq_getElem h1, List.getElem?_eq_getElem h2] at e
  have := (List.getElem_inj hd).1 (Option.some.inj (congrArg some e))
  omega
theorem lvl_last {q : List ByteArray} {k : Nat} (h : q.length ≤ k) (h0 : 0 < k) : lvl q k = lvl q (k - 1) := by
  unfold lvl
  congr 1
  omega
theorem dutyZ_lvl {P : Int} {R : List Sh} {t : Int} {k : Nat} (hz : rotaZ P R = 0) (h0 : 0 ≤ t) (h1 : t ≤ 1048576) : dutyZ P R t k = (lvl (pers (t % P) R) k, 0) := by
  obtain ⟨⟨hP, _⟩, _, _, hful⟩ := rotaZ_ok hz
  have hpos := pers_pos (hful (t % P) (Int.emod_nonneg _ (by omega)) (Int.emod_lt_of_pos _ (by omega)))
  unfold dutyZ
  rw [if_neg (by omega), if_neg (by omega), if_neg (by omega)]
  unfold lvl
  have : (min (k : Int) ((pers (t % P) R).length - 1)).toNat = min k ((pers (t % P) R).length - 1) := by omega
  rw [this]
end Go.AE
