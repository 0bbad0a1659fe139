/- Plain: a search with a queue. -/
import Derived.Test.YtkpladkcppeciaaGr
namespace Go.AE
set_option linter.unusedVariables false
set_option linter.unusedSimpArgs false
/-! ### A search from several nodes, with a queue; D was taken from the queue q -/
structure QI (n : Nat) (E : List Ed) (S : List Bool) (out : List Bool) (D q : List Int) : Prop where
  len : out.length = n
  range : ∀ b ∈ q, 0 ≤ b ∧ b < n
  path : ∀ k : Nat, k < n → out.getD k false = true → ∃ s : Nat, S.getD s false = true ∧ Path E s k
  orig : ∀ b ∈ D ++ q, (S.getD b.toNat false = true ∧ 0 ≤ b) ∨ out.getD b.toNat false = true
  mem : ∀ k : Nat, k < n → out.getD k false = true → (k : Int) ∈ D ++ q
  starts : ∀ s : Nat, S.getD s false = true → (s : Int) ∈ D ++ q
  done : ∀ u ∈ D, ∀ b, (u, b) ∈ E → out.getD b.toNat false = true
/-- In the middle of a round: the node u was taken, the first j of its edges' ends are done. -/
structure QJ (n : Nat) (E : List Ed) (S : List Bool) (out : List Bool) (D q : List Int) (u : Int) (N : List Int) (j : Nat) : Prop where
  len : out.length = n
  range : ∀ b ∈ q, 0 ≤ b ∧ b < n
  path : ∀ k : Nat, k < n → out.getD k false = true → ∃ s : Nat, S.getD s false = true ∧ Path E s k
  orig : ∀ b ∈ D ++ u :: q, (S.getD b.toNat false = true ∧ 0 ≤ b) ∨ out.getD b.toNat false = true
  mem : ∀ k : Nat, k < n → out.getD k false = true → (k : Int) ∈ D ++ u :: q
  starts : ∀ s : Nat, S.getD s false = true → (s : Int) ∈ D ++ u :: q
  done : ∀ u ∈ D, ∀ b, (u, b) ∈ E → out.getD b.toNat false = true
  now : ∀ k, k < j → out.getD (N.getD k default).toNat false = true
/-- The ends of the edges from u. -/
def adj (E : List Ed) (u : Int) : List Int := (E.filter fun e => decide (e.1 = u)).map (·.2)
theorem mem_adj {E : List Ed} {u b : Int} : b ∈ adj E u ↔ (u, b) ∈ E := by
  unfold adj
  simp only [List.mem_map, List.mem_filter, decide_eq_true_eq]
  constructor
  · rintro ⟨⟨x, y⟩, ⟨h1, h2⟩, h3⟩
    dsimp only at h2 h3
    subst h2; subst h3; exact h1
  · intro h; exact ⟨(u, b), ⟨h, rfl⟩, rfl⟩
theorem adj_snoc (E : List Ed) (e : Ed) (u : Int) : adj (E ++ [e]) u = if e.1 = u then adj E u ++ [e.2] else adj E u := by
  unfold adj
  rw [List.filter_append, List.map_append]
  by_cases h : e.1 = u
  · rw [if_pos h]; simp [h]
  · rw [if_neg h]; simp [h]
theorem QI.start {n : Nat} {E : List Ed} {S q : List Bool} {out : List Bool} {D : List Int} {u : Int} {q : List Int} (h : QI n E S out D (u :: q)) : QJ n E S out D q u (adj E u) 0 :=
  ⟨h.len, fun b hb => h.range b (by simp [hb]), h.path, h.orig, h.mem, h.starts, h.done, fun k hk => absurd hk (Nat.not_lt_zero k)⟩
theorem QJ.skip {n : Nat} {E : List Ed} {S out : List Bool} {D q N : List Int} {u : Int} {j : Nat} (h : QJ n E S out D q u N j) (hx : out.getD (N.getD j default).toNat false = true) : QJ n E S out D q u N (j + 1) :=
  ⟨h.len, h.range, h.path, h.orig, h.mem, h.starts, h.done, fun k hk => by
    by_cases e : k = j
    · subst e; exact hx
    · exact h.now k (by omega)⟩
theorem mem_more {D q : List Int} {u x b : Int} : b ∈ D ++ u :: (q ++ [x]) ↔ b ∈ D ++ u :: q ∨ b = x := by simp [or_assoc]
theorem QJ.add {n : Nat} {E : List Ed} {S out : List Bool} {D q : List Int} {u : Int} {j : Nat} (hE : InN n E) (h : QJ n E S out D q u (adj E u) j) (hj : j < (adj E u).length) : QJ n E S (out.set ((adj E u).getD j default).toNat true) D (q ++ [(adj E u).getD j default]) u (adj E u) (j + 1) := by
  generalize hx : (adj E u).getD j default = x
  have hxm : (u, x) ∈ E := by
    rw [← mem_adj, ← hx, List.getD_eq_getElem?_getD, List.getElem?_eq_getElem hj]
    exact List.getElem_mem hj
  have hr := hE _ hxm
  have hxn : x.toNat < out.length := by rw [h.len]; omega
  refine ⟨by simp [h.len], ?_, ?_, ?_, ?_, ?_, ?_, ?_⟩
  · intro b hb
    rcases List.mem_append.1 hb with hb | hb
    · exact h.range b hb
    · simp at hb; subst hb; exact hr.2.2
  · intro k hk hk'
    rcases (getD_set_b hxn).1 hk' with e | e
    · have hkx : (k : Int) = x := by omega
      rcases h.orig u (by simp) with ⟨h1, h2⟩ | h1
      · refine ⟨u.toNat, h1, ?_⟩
        rw [hkx, show ((u.toNat : Nat) : Int) = u by omega]
        exact .one hxm
      · obtain ⟨s, h2, h3⟩ := h.path u.toNat (by omega) h1
        refine ⟨s, h2, ?_⟩
        rw [show ((u.toNat : Nat) : Int) = u by omega] at h3
        rw [hkx]
        exact h3.snoc hxm
    · exact h.path k hk e
  · intro b hb
    have hb' : b ∈ D ++ u :: q ∨ b = x := mem_more.1 hb
    rcases hb' with hb | rfl
    · rcases h.orig b hb with h1 | h1
      · exact .inl h1
      · exact .inr (out_mono hxn h1)
    · exact .inr ((getD_set_b hxn).2 (.inl rfl))
  · intro k hk hk'
    rcases (getD_set_b hxn).1 hk' with e | e
    · have hkx : (k : Int) = x := by omega
      exact mem_more.2 (.inr hkx)
    · exact mem_more.2 (.inl (h.mem k hk e))
  · intro s hs
    exact mem_more.2 (.inl (h.starts s hs))
  · intro v hv b hb
    exact out_mono hxn (h.done v hv b hb)
  · intro k hk
    by_cases e : k = j
    · subst e; rw [hx]; exact (getD_set_b hxn).2 (.inl rfl)
    · exact out_mono hxn (h.now k (by omega))
theorem QJ.fin {n : Nat} {E : List Ed} {S out : List Bool} {D q : List Int} {u : Int} (h : QJ n E S out D q u (adj E u) (adj E u).length) : QI n E S out (D ++ [u]) q := by
  refine ⟨h.len, h.range, h.path, fun b hb => h.orig b (by simpa using hb), fun k hk hk' => by simpa using h.mem k hk hk', fun s hs => by simpa using h.starts s hs, fun v hv b hb => ?_⟩
  rcases List.mem_append.1 hv with hv | hv
  · exact h.done v hv b hb
  · simp at hv; subst hv
    obtain ⟨j, hj, e⟩ := List.getElem_of_mem (mem_adj.2 hb)
    have := h.now j hj
    have e2 : (adj E v).getD j default = b := by rw [List.getD_eq_getElem?_getD, List.getElem?_eq_getElem hj]; exact e
    rwa [e2] at this
theorem QI.fin {n : Nat} {E : List Ed} {S out : List Bool} {D : List Int} (hE : InN n E) (h : QI n E S out D []) : out = rcS n E S := by
  refine bools_ext (by rw [h.len, rcS_length]) fun k hk => ?_
  rw [h.len] at hk
  rw [rcS_at hk]
  constructor
  · exact h.path k hk
  · rintro ⟨s, hs, hp⟩
    have := Path.closed (S := fun b => out.getD b.toNat false = true ∧ 0 ≤ b ∧ b < n) (fun b hb => ⟨h.done s (by simpa using h.starts s hs) b hb, (hE _ hb).2.2⟩) (fun b c hb hbc => by
      have hm := h.mem b.toNat (by omega) hb.1
      rw [show ((b.toNat : Nat) : Int) = b by omega] at hm
      exact ⟨h.done b (by simpa using hm) c hbc, (hE _ hbc).2.2⟩) hp
    simpa using this.1
/-- The starts, in order. -/
def stL (S : List Bool) (i : Nat) : List Int := ((List.range i).filter fun k => S.getD k false).map fun (k : Nat) => (k : Int)
theorem stL_succ (S : List Bool) (i : Nat) : stL S (i + 1) = if S.getD i false = true then stL S i ++ [(i : Int)] else stL S i := by
  unfold stL
  rw [List.range_succ, List.filter_append, List.map_append]
  by_cases h : S.getD i false = true
  · rw [if_pos h]; simp only [List.filter_cons, h, if_true, List.filter_nil, List.map_cons, List.map_nil]
  · rw [if_neg h]
    have h' : S.getD i false = false := by simpa using h
    simp only [List.filter_cons, h', Bool.false_eq_true, if_false, List.filter_nil, List.map_nil, List.append_nil]
theorem stL_length (S : List Bool) (i : Nat) : (stL S i).length ≤ i := by
  unfold stL
  rw [List.length_map]
  exact Nat.le_trans (List.length_filter_le _ _) (by simp)
theorem QI.init {n : Nat} {E : List Ed} {S : List Bool} (hS : S.length = n) : QI n E S (List.replicate n false) [] (stL S n) := by
  have hm : ∀ b ∈ stL S n, ∃ k : Nat, k < n ∧ S.getD k false = true ∧ b = k := by
    intro b hb
    unfold stL at hb
    simp only [List.mem_map, List.mem_filter, List.mem_range] at hb
    obtain ⟨k, ⟨h1, h2⟩, h3⟩ := hb
    exact ⟨k, h1, h2, h3.symm⟩
  refine ⟨by simp, ?_, ?_, ?_, ?_, ?_, by simp⟩
  · intro b hb
    obtain ⟨k, h1, h2, rfl⟩ := hm b hb
    omega
  · intro k hk h; simp [hk] at h
  · intro b hb
    obtain ⟨k, h1, h2, rfl⟩ := hm b (by simpa using hb)
    exact .inl ⟨h2, by omega⟩
  · intro k hk h; simp [hk] at h
  · intro s hs
    have hsn : s < n := by
      rcases Nat.lt_or_ge s n with h | h
      · exact h
      · rw [List.getD_eq_getElem?_getD, List.getElem?_eq_none (by omega)] at hs; cases hs
    unfold stL
    simp only [List.nil_append, List.mem_map, List.mem_filter, List.mem_range]
    exact ⟨s, ⟨hsn, hs⟩, rfl⟩
end Go.AE
