/- AE, part 39: a row of numbers that a callee writes anew (slices.Sort, slices.Compact by their shelf contracts). -/
import Derived.Test.YtfjihbmehhccoaaAeC
import Derived.Sort.Row
import Derived.Sort.Grow
namespace Go.AE
set_option linter.unusedVariables false
set_option linter.unusedSimpArgs false
open Go.RowKit Go.Sort
section
variable {P : Program} {G : Nat → Option Obj} {β : Bt} {R : Nat → Prop} {w w' : World} {h : List AO}
/-- A block is written, and the heap grows. -/
theorem hs_writeS (hh : HS G β R w h) {id b o : Nat} (hid : β id = some (b, o)) (hl : (nth .gone h id).live = true) {x : AO} (hos : w'.os = w.os) (htp : w'.tape = w.tape) (hou : w'.output = w.output)
    (hsz : w.heap.size ≤ w'.heap.size) (hw : ∀ j, j < w.heap.size → j ≠ b → w'.heap[j]? = w.heap[j]?) (hx : Keeps β R w β R w' → KeepQ β w β w' → OR β R w' x b o) :
    HS G β R w' (upd x h id) ∧ Gr β R w β R w' := by
  have hnb : ∀ b', R b' → b' ≠ b := fun b' hb e => hh.sep id b o hid hl (e ▸ hb)
  have gr : Gr β R w β R w' := {
    os := hos, tape := htp, output := hou, size := hsz
    rs := fun b' hb => hw b' (hh.rlt b' hb) (hnb b' hb)
    fr := fun b' hlt hn => hw b' hlt (fun e => hn (.inl ⟨id, o, e ▸ hid⟩))
    ex := fun _ hi => .inl hi
    rx := fun b' hb => .inl hb
    bm := fun _ _ hi => hi
    rm := fun _ hb => hb }
  have hidl := hh.dom id _ hid
  have hqb : ∀ b' ad, β.q b' = some ad → b' ≠ b := fun b' ad hb e => by
    have := (hh.ql b' ad hb).2.2 id o (e ▸ hid)
    rw [hl] at this; cases this
  have kq : KeepQ β w β w' := fun b' ad hb => ⟨hb, hw b' (hh.ql b' ad hb).1 (hqb b' ad hb)⟩
  refine ⟨⟨?_, ?_, ?_, ?_, ?_, ?_, ?_, ?_⟩, gr⟩
  · intro i y hi; rw [upd_eq, List.length_set]; exact hh.dom i y hi
  · intro i j b1 o1 o2 hi hj li lj
    have li' : (nth .gone h i).live = true := by
      by_cases e : id = i
      · subst e; exact hl
      · rw [nth_upd_ne _ _ _ e] at li; exact li
    have lj' : (nth .gone h j).live = true := by
      by_cases e : id = j
      · subst e; exact hl
      · rw [nth_upd_ne _ _ _ e] at lj; exact lj
    exact hh.inj i j b1 o1 o2 hi hj li' lj'
  · intro i b1 o1 hi li
    have li' : (nth .gone h i).live = true := by
      by_cases e : id = i
      · subst e; exact hl
      · rw [nth_upd_ne _ _ _ e] at li; exact li
    exact hh.sep i b1 o1 hi li'
  · intro i b1 o1 hi; exact Nat.lt_of_lt_of_le (hh.lt i b1 o1 hi) hsz
  · intro b1 hb; exact Nat.lt_of_lt_of_le (hh.rlt b1 hb) hsz
  · intro i b1 o1 hi
    by_cases e : id = i
    · subst e
      rw [nth_upd_eq _ _ _ hidl]
      rw [hid] at hi; injection hi with hi; injection hi with h1 h2; subst h1; subst h2
      exact hx gr.keeps kq
    · rw [nth_upd_ne _ _ _ e]
      by_cases eb : b1 = b
      · subst eb
        cases hn : (nth .gone h i).live with
        | false => exact OR.dead gr.keeps hn (hh.obj i b1 o1 hi)
        | true => exact absurd (hh.inj id i b1 o o1 hid hi hl hn) e
      · exact OR.keep gr.keeps (kq.at b1) (hw b1 (hh.lt i b1 o1 hi) eb) (hh.obj i b1 o1 hi)
  · intro b1 ob hb
    obtain ⟨h1, h2⟩ := hh.gl b1 ob hb
    exact ⟨h1, (hw b1 (hh.rlt b1 h1) (hnb b1 h1)).trans h2⟩
  · intro b1 ad hb
    obtain ⟨h1, h2, h3⟩ := hh.ql b1 ad hb
    refine ⟨Nat.lt_of_lt_of_le h1 hsz, h2, fun i o1 hi => ?_⟩
    by_cases e : id = i
    · subst e
      rw [hid] at hi; injection hi with hi; injection hi with q1 q2
      exact absurd q1.symm (hqb b1 ad hb)
    · rw [nth_upd_ne _ _ _ e]; exact h3 i o1 hi
/-- A row whose cells read the same. -/
theorem hs_sameS (hh : HS G β R w h) {id : Nat} {ty : TypeId} {sz n : Nat} {f f' : Nat → Nat → C} (hid : nth .gone h id = .row ty sz n f) (hf : ∀ e o, e < n → o < sz → f e o = f' e o) : HS G β R w (upd (.row ty sz n f') h id) := by
  have hlid := nth_gone hid (by simp)
  have hl : ∀ i, (nth .gone (upd (.row ty sz n f') h id) i).live = (nth .gone h i).live := fun i => by
    by_cases e : id = i
    · subst e; rw [nth_upd_eq _ _ _ hlid, hid]; rfl
    · rw [nth_upd_ne _ _ _ e]
  refine ⟨?_, ?_, ?_, hh.lt, hh.rlt, ?_, hh.gl, ?_⟩
  · intro i y hi; rw [upd_eq, List.length_set]; exact hh.dom i y hi
  · intro i j b o1 o2 hi hj li lj
    rw [hl] at li lj
    exact hh.inj i j b o1 o2 hi hj li lj
  · intro i b o hi li
    rw [hl] at li
    exact hh.sep i b o hi li
  · intro i b o hi
    by_cases e : id = i
    · subst e
      rw [nth_upd_eq _ _ _ hlid]
      have := hh.obj id b o hi
      rw [hid] at this
      obtain ⟨cs, h1, h2, h3, h4⟩ := this
      exact ⟨cs, h1, h2, h3, fun e k he hk => by rw [← hf e k he hk]; exact h4 e k he hk⟩
    · rw [nth_upd_ne _ _ _ e]; exact hh.obj i b o hi
  · intro b ad hb
    obtain ⟨h1, h2, h3⟩ := hh.ql b ad hb
    exact ⟨h1, h2, fun i o hi => by rw [hl]; exact h3 i o hi⟩
theorem heap_grow_old {w : World} {os : Array Obj} {i : Nat} (hi : i < w.heap.size) : (grow w os).heap[i]? = w.heap[i]? := by
  unfold grow
  simp [Array.getElem?_append_left hi]
theorem heap_putRow_other {α : Type} [Inhabited α] (enc : α → Value) {w : World} {blk off i : Nat} {d : Array α} (hi : i ≠ blk) : (putRow enc w blk off d).heap[i]? = w.heap[i]? := by
  unfold putRow mapBlock
  simp [Array.getElem?_modify, Ne.symm hi]
theorem heap_putRow_same {α : Type} [Inhabited α] (enc : α → Value) {w : World} {blk off : Nat} {d : Array α} {cs : Array Value} {ty : TypeId} {fr : Nat × Nat} (hb : w.heap[blk]? = some (.cells cs ty fr)) : (putRow enc w blk off d).heap[blk]? = some (.cells (putCells enc off d cs) ty fr) := by
  unfold putRow mapBlock
  simp [Array.getElem?_modify, hb, onCells]
theorem putCells_size {α : Type} [Inhabited α] (enc : α → Value) (off : Nat) (d : Array α) (c : Array Value) : (putCells enc off d c).size = c.size := by simp [putCells]
theorem putCells_at {α : Type} [Inhabited α] (enc : α → Value) {d : Array α} {c : Array Value} {i : Nat} (hi : i < d.size) (hc : i < c.size) : (putCells enc 0 d c)[i]? = some (enc d[i]!) := by
  unfold putCells
  simp [Array.getElem?_mapIdx, hc, hi]
theorem sorted_fn {f : FuncId} {id : Nat} {ty : TypeId} {L ys : List Int} {g : Nat → Nat → C} (hid : nth .gone h id = .row ty 1 L.length g) (hg : ∀ e o, e < L.length → o < 1 → g e o = rowC encI L e o) (hy : ys.length = L.length)
    (hc : ∀ (w : World) (blk cap : Nat), Holds (Value.int .i64) w blk 0 L.toArray → blk < w.heap.size → L.length ≤ cap → Calls P f #[.slice (some ⟨blk, 0, none⟩) L.length cap] w fun e w' => e = .returned (.tuple #[]) ∧ ∃ n os, w' = grow (putRow (Value.int .i64) (Go.Sort.ahead w n) blk 0 ys.toArray) os)
    (h0 : ∀ (w : World) (p : Option Addr) (cap : Nat), L.length = 0 → Calls P f #[.slice p 0 cap] w fun e w' => e = .returned (.tuple #[]) ∧ w' = w) :
    FnS P G f [.c (.sl id 1 0 L.length)] h fun x h' => x = .t [] ∧ h' = upd (.row ty 1 L.length (rowC encI ys)) h id := by
  intro β R w vs ha hh
  have hlive : (nth .gone h id).live = true := by rw [hid]; rfl
  have hlid := nth_gone hid (by simp)
  obtain ⟨u1, hvs⟩ : ∃ u1, vs = #[u1] := by
    have hl := ha.length
    have : vs.size = 1 := by simpa using hl.symm
    exact ⟨vs[0], by apply Array.ext (by simpa using this); intro i h1 h2; match i, h1, h2 with | 0, _, _ => rfl⟩
  subst hvs
  obtain ⟨⟨A, c, rfl, h1, h2, h3⟩, _⟩ := ha
  by_cases hz : L.length = 0
  · rw [hz] at h3 ⊢
    refine (h0 w A c hz).mono ?_
    rintro e w' ⟨rfl, rfl⟩
    refine ⟨_, β, R, .t [], _, rfl, ⟨rfl, rfl⟩, ⟨#[], rfl, trivial⟩, ?_, Gr.refl _ _ _, fun _ _ => rfl⟩
    rw [hz] at hid
    exact hs_sameS hh hid (fun e o he ho => absurd he (Nat.not_lt_zero _))
  rcases h3 with ⟨h3, h7, h8⟩ | ⟨blk, N, h7, h8, h9⟩
  · exact absurd h7 hz
  · have hob := hh.obj id blk N h7
    rw [hid] at hob
    obtain ⟨cs, g1, g2, g3, g4⟩ := hob
    have hlt := hh.lt id blk N h7
    have e0 : 0 * 1 = 0 := rfl
    rw [e0] at h8
    subst h8
    have hold : Holds (Value.int .i64) w blk 0 L.toArray := fun j hj => by
      have hj' : j < L.length := by simpa using hj
      obtain ⟨u, q1, q2⟩ := g4 j 0 hj' (by omega)
      rw [hg j 0 hj' (by omega)] at q2
      have q2 : u = .int .i64 (L.getD j default) := q2
      rw [Nat.mul_one, Nat.add_zero] at q1
      refine ⟨?_, ?_⟩
      · rw [Nat.zero_add]
        simp only [World.cell?, g1]
        rw [q1, q2]
        simp [List.getD_eq_getElem?_getD, hj']
      · simp [World.frozen?, g1]
    refine (hc w blk c hold hlt h1).mono ?_
    rintro e w' ⟨rfl, n, os, rfl⟩
    have hW := hs_writeS hh h7 hlive (x := .row ty 1 L.length (rowC encI ys)) (w' := grow (putRow (Value.int .i64) (Go.Sort.ahead w n) blk 0 ys.toArray) os) rfl rfl rfl (by
      rw [size_grow, size_putRow]; exact Nat.le_add_right _ _) (fun j hj hne => by
      rw [heap_grow_old (by rw [size_putRow]; exact hj), heap_putRow_other _ hne]; rfl) (fun _ _ => by
      have hb : (grow (putRow (Value.int .i64) (Go.Sort.ahead w n) blk 0 ys.toArray) os).heap[blk]? = some (.cells (putCells (Value.int .i64) 0 ys.toArray cs) ty (0, 0)) := by
        rw [heap_grow_old (by rw [size_putRow]; exact hlt), heap_putRow_same _ (w := Go.Sort.ahead w n) g1]
      refine ⟨_, hb, by rw [putCells_size]; exact g2, g3, fun e k he hk => ?_⟩
      obtain rfl : k = 0 := by omega
      refine ⟨.int .i64 (ys.getD e default), ?_, rfl⟩
      rw [Nat.mul_one, Nat.add_zero, putCells_at (Value.int .i64) (by simp; omega) (by omega)]
      simp [List.getD_eq_getElem?_getD, show e < ys.length by omega])
    exact ⟨_, β, R, .t [], _, rfl, ⟨rfl, rfl⟩, ⟨#[], rfl, trivial⟩, hW.1, hW.2, fun _ _ => rfl⟩
end
end Go.AE
