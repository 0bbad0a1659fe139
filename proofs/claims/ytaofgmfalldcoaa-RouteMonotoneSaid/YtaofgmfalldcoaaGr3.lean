/- Plain: the graphs that ref29.Acyclic makes are valid; roots of the firing nodes; one edge more, one firing node less. -/
import Derived.Test.YtaofgmfalldcoaaS10
namespace Go.AE
set_option linter.unusedVariables false
set_option linter.unusedSimpArgs false
open Go.Proofs Go.Proofs.Ytaofgmfalldcoaa

/-- What the edges of an acyclic graph are: different, among the nodes, and rising in the rank. -/
def Rises (N t : Int) (E : List Ed) : Prop := ∀ e ∈ E, (0 ≤ e.1 ∧ e.1 < N) ∧ (0 ≤ e.2 ∧ e.2 < N) ∧ (e.1 - t) % N < (e.2 - t) % N
theorem scan_ok {N : Int} : ∀ {r s : List Ed}, (∀ e ∈ r, badE N e = false) → (s ++ r).Nodup → scanE N s r = 0
  | [], _, _, _ => by unfold scanE; rfl
  | e :: r, s, h, hn => by
    unfold scanE
    rw [if_neg (by rw [h e (List.mem_cons_self ..)]; decide), if_neg]
    · exact scan_ok (fun x hx => h x (List.mem_cons_of_mem _ hx)) (by simpa using hn)
    · intro he
      rw [List.nodup_append] at hn
      exact hn.2.2 e he e (List.mem_cons_self ..) rfl
theorem rise_path {N t : Int} {E : List Ed} (h : Rises N t E) {a b : Int} (hp : Path E a b) : (a - t) % N < (b - t) % N := by
  induction hp with
  | single k => exact (h _ k).2.2
  | tail _ k ih => exact Int.lt_trans ih (h _ k).2.2
theorem rank_add {N a t : Int} (hN : 0 < N) (h0 : 0 ≤ a) (h1 : a < N) : ((a + t) % N - t) % N = a := by
  rw [Int.emod_sub_emod]
  rw [show a + t - t = a by omega]
  exact Int.emod_eq_of_lt h0 h1
theorem acStep_ok {N t n : Int} {E : List Ed} (hN : 1 < N) (hn : 0 ≤ n) (h : Rises N t E) (hd : E.Nodup) : Rises N t (acStep N t n E) ∧ (acStep N t n E).Nodup := by
  unfold acStep
  split
  · exact ⟨h, hd⟩
  · rename_i h1
    split
    · exact ⟨h, hd⟩
    · rename_i h2
      have a1 := Int.emod_nonneg n (show N ≠ 0 by omega)
      have a2 := Int.emod_lt_of_pos n (show 0 < N by omega)
      have b1 := Int.emod_nonneg (n / N) (show N ≠ 0 by omega)
      have b2 := Int.emod_lt_of_pos (n / N) (show 0 < N by omega)
      generalize n % N = a at *
      generalize n / N % N = b at *
      refine ⟨?_, ?_⟩
      · intro e he
        rcases List.mem_append.1 he with he | he
        · exact h e he
        · obtain rfl := List.mem_singleton.1 he
          refine ⟨⟨Int.emod_nonneg _ (by omega), Int.emod_lt_of_pos _ (by omega)⟩, ⟨Int.emod_nonneg _ (by omega), Int.emod_lt_of_pos _ (by omega)⟩, ?_⟩
          show ((min a b + t) % N - t) % N < ((max a b + t) % N - t) % N
          rw [rank_add (by omega) (by omega) (by omega), rank_add (by omega) (by omega) (by omega)]
          omega
      · rw [List.nodup_append]
        refine ⟨hd, by simp, fun x hx y hy => ?_⟩
        obtain rfl := List.mem_singleton.1 hy
        rintro rfl
        exact h2 hx
theorem acE_ok (L : List Int) (hN : 1 < acN L) : ∀ k, Rises (acN L) (pickZ L 1 8) (acE L k) ∧ (acE L k).Nodup
  | 0 => ⟨(fun e he => by cases he), List.nodup_nil⟩
  | k + 1 => acStep_ok hN (pickZ_range L _ (by omega)).1 (acE_ok L hN k).1 (acE_ok L hN k).2
theorem acG_ok (L : List Int) : Rises (acN L) (pickZ L 1 8) (acG L) ∧ (acG L).Nodup := by
  by_cases h : 1 < acN L
  · exact acE_ok L h _
  · have : acG L = [] := by unfold acG acK; rw [if_neg h]; rfl
    rw [this]
    exact ⟨(fun e he => by cases he), List.nodup_nil⟩
theorem rises_valid {N t : Int} {E : List Ed} (h0 : 0 ≤ N) (h1 : N ≤ 200) (h : Rises N t E) (hd : E.Nodup) : validZ N E = 0 := by
  unfold validZ
  rw [if_neg (by omega), if_neg, if_neg]
  · rintro ⟨k, _, hk⟩
    exact absurd (rise_path h hk) (Int.lt_irrefl _)
  · rw [scan_ok (s := []) (fun e he => ?_) (by simpa using hd)]
    · simp
    · obtain ⟨q1, q2, q3⟩ := h e he
      unfold badE
      simp only [Bool.or_eq_false_iff, decide_eq_false_iff_not]
      exact ⟨⟨⟨⟨by omega, by omega⟩, by omega⟩, by omega⟩, fun e => by rw [e] at q3; exact absurd q3 (Int.lt_irrefl _)⟩
theorem acG_valid (L : List Int) : validZ (acN L) (acG L) = 0 := by
  have := pickZ_range L 0 (m := 9) (by omega)
  have hN : 0 ≤ acN L ∧ acN L < 9 := this
  exact rises_valid (by omega) (by omega) (acG_ok L).1 (acG_ok L).2
/-- Up the paths: a firing node from which a path leads to k has a root above it. -/
theorem root_above {N t : Int} {E : List Ed} {F : List Bool} (hN : 0 < N) (h : Rises N t E) (hl : (F.length : Int) = N) : ∀ (m s : Nat), ((s : Int) - t) % N < m → F.getD s false = true → ∃ r : Nat, F.getD r false = true ∧ ¬ (∃ q : Nat, F.getD q false = true ∧ Path E q r) ∧ (r = s ∨ Path E r s)
  | 0, s, h1, _ => absurd h1 (Int.not_lt.2 (Int.emod_nonneg _ (by omega)))
  | m + 1, s, h1, h2 => by
    by_cases hc : ∃ q : Nat, F.getD q false = true ∧ Path E q s
    · obtain ⟨q, q1, q2⟩ := hc
      obtain ⟨r, r1, r2, r3⟩ := root_above hN h hl m q (by have := rise_path h q2; omega) q1
      refine ⟨r, r1, r2, .inr ?_⟩
      rcases r3 with rfl | r3
      · exact q2
      · exact r3.trans q2
    · exact ⟨s, h2, hc, .inl rfl⟩
end Go.AE
