/- AE, part 40: shorter rows; slices.Compact by its shelf contract; calls with a list of two lists, one of them still written. -/
import Derived.Test.YtfjihbmehhccoaaAe39
import Derived.Test.YtfjihbmehhccoaaAe30
namespace Go.AE
set_option linter.unusedVariables false
set_option linter.unusedSimpArgs false
open Go.RowKit Go.Sort
section
variable {P : Program} {G : Nat → Option Obj} {β : Bt} {R : Nat → Prop} {w w' : World} {h : List AO} {st : St}
theorem hs_lessS (hh : HS G β R w h) {id : Nat} {x y : AO} (hid : nth .gone h id = x) (hx : x.live = true) (hy : y.live = true) (ho : ∀ b o, OR β R w x b o → OR β R w y b o) : HS G β R w (upd y h id) := by
  have hlid := nth_gone hid (by cases x <;> first | exact fun h => AO.noConfusion h | cases hx)
  have hl : ∀ i, (nth .gone (upd y h id) i).live = (nth .gone h i).live := fun i => by
    by_cases e : id = i
    · subst e; rw [nth_upd_eq _ _ _ hlid, hid, hx, hy]
    · rw [nth_upd_ne _ _ _ e]
  refine ⟨?_, ?_, ?_, hh.lt, hh.rlt, ?_, hh.gl, ?_⟩
  · intro i y hi; rw [upd_eq, List.length_set]; exact hh.dom i y hi
  · intro i j b o1 o2 hi hj li lj
    rw [hl] at li lj
    exact hh.inj i j b o1 o2 hi hj li lj
  · intro i b o hi li
    rw [hl] at li
    exact hh.sep i b o hi li
  · intro i b o hi
    by_cases e : id = i
    · subst e
      rw [nth_upd_eq _ _ _ hlid]
      have := hh.obj id b o hi
      rw [hid] at this
      exact ho b o this
    · rw [nth_upd_ne _ _ _ e]; exact hh.obj i b o hi
  · intro b ad hb
    obtain ⟨h1, h2, h3⟩ := hh.ql b ad hb
    exact ⟨h1, h2, fun i o hi => by rw [hl]; exact h3 i o hi⟩
/-- A row of which less is told. -/
theorem weak_short {id : Nat} {ty : TypeId} {sz n : Nat} {f : Nat → Nat → C} (k : Nat) (hid : nth .gone st.h id = .row ty sz n f) (hk : k ≤ n) : WeakS G st ⟨st.t, upd (.row ty sz k f) st.h id⟩ := by
  intro β R a w hs
  refine ⟨β, R, ⟨hs.df, hs.tm, hs_lessS hs.hs hid rfl rfl fun b o => ?_⟩, Fr.refl _ _ _, fun _ hb => hb⟩
  rintro ⟨cs, h1, h2, h3, h4⟩
  exact ⟨cs, h1, h2, Nat.le_trans (Nat.mul_le_mul_right _ hk) h3, fun e o he ho => h4 e o (by omega) ho⟩
theorem compact_fn {f : FuncId} {id : Nat} {ty : TypeId} {L ys : List Int} {g : Nat → Nat → C} (hid : nth .gone h id = .row ty 1 L.length g) (hg : ∀ e o, e < L.length → o < 1 → g e o = rowC encI L e o) (hy : ys.length ≤ L.length) 
    (hc : ∀ (w : World) (blk cap : Nat), Holds (Value.int .i64) w blk 0 L.toArray → blk < w.heap.size → L.length ≤ cap → Calls P f #[.slice (some ⟨blk, 0, none⟩) L.length cap] w fun e w' => e = .returned (.slice (some ⟨blk, 0, none⟩) ys.length cap) ∧ ∃ n, w' = putRow (Value.int .i64) (Go.Sort.ahead w n) blk 0 (ys ++ List.replicate (L.length - ys.length) 0).toArray)
    (h0 : ∀ (w : World) (p : Option Addr) (cap : Nat), L.length = 0 → Calls P f #[.slice p 0 cap] w fun e w' => e = .returned (.slice p 0 cap) ∧ w' = w) :
    FnS P G f [.c (.sl id 1 0 L.length)] h fun x h' => x = .c (.sl id 1 0 ys.length) ∧ h' = upd (.row ty 1 ys.length (rowC encI ys)) h id := by
  intro β R w vs ha hh
  have hlive : (nth .gone h id).live = true := by rw [hid]; rfl
  have hlid := nth_gone hid (by simp)
  obtain ⟨u1, hvs⟩ : ∃ u1, vs = #[u1] := by
    have hl := ha.length
    have : vs.size = 1 := by simpa using hl.symm
    exact ⟨vs[0], by apply Array.ext (by simpa using this); intro i h1 h2; match i, h1, h2 with | 0, _, _ => rfl⟩
  subst hvs
  obtain ⟨⟨A, c, rfl, h1, h2, h3⟩, _⟩ := ha
  by_cases hz : L.length = 0
  · have hy0 : ys.length = 0 := by omega
    rw [hz] at h3 ⊢
    refine (h0 w A c hz).mono ?_
    rintro e w' ⟨rfl, rfl⟩
    refine ⟨_, β, R, _, _, rfl, ⟨rfl, rfl⟩, ?_, ?_, Gr.refl _ _ _, fun _ _ => rfl⟩
    · rw [hy0]
      exact ⟨A, c, rfl, Nat.zero_le _, h2, h3⟩
    rw [hz] at hid
    rw [hy0]
    exact hs_sameS hh hid (fun e o he ho => absurd he (Nat.not_lt_zero _))
  rcases h3 with ⟨h3, h7, h8⟩ | ⟨blk, N, h7, h8, h9⟩
  · exact absurd h7 hz
  · have hob := hh.obj id blk N h7
    rw [hid] at hob
    obtain ⟨cs, g1, g2, g3, g4⟩ := hob
    have hlt := hh.lt id blk N h7
    have e0 : 0 * 1 = 0 := rfl
    rw [e0] at h8
    subst h8
    have hold : Holds (Value.int .i64) w blk 0 L.toArray := fun j hj => by
      have hj' : j < L.length := by simpa using hj
      obtain ⟨u, q1, q2⟩ := g4 j 0 hj' (by omega)
      rw [hg j 0 hj' (by omega)] at q2
      have q2 : u = .int .i64 (L.getD j default) := q2
      rw [Nat.mul_one, Nat.add_zero] at q1
      refine ⟨?_, ?_⟩
      · rw [Nat.zero_add]
        simp only [World.cell?, g1]
        rw [q1, q2]
        simp [List.getD_eq_getElem?_getD, hj']
      · simp [World.frozen?, g1]
    refine (hc w blk c hold hlt h1).mono ?_
    rintro e w' ⟨rfl, n, rfl⟩
    have hW := hs_writeS hh h7 hlive (x := .row ty 1 ys.length (rowC encI ys)) (w' := putRow (Value.int .i64) (Go.Sort.ahead w n) blk 0 (ys ++ List.replicate (L.length - ys.length) 0).toArray) rfl rfl rfl (by
      rw [size_putRow]; exact Nat.le_refl _) (fun j hj hne => by
      rw [heap_putRow_other _ hne]; rfl) (fun _ _ => by
      have hb : (putRow (Value.int .i64) (Go.Sort.ahead w n) blk 0 (ys ++ List.replicate (L.length - ys.length) 0).toArray).heap[blk]? = some (.cells (putCells (Value.int .i64) 0 (ys ++ List.replicate (L.length - ys.length) 0).toArray cs) ty (0, 0)) := by
        rw [heap_putRow_same _ (w := Go.Sort.ahead w n) g1]
      refine ⟨_, hb, by rw [putCells_size]; exact g2, by omega, fun e k he hk => ?_⟩
      obtain rfl : k = 0 := by omega
      refine ⟨.int .i64 (ys.getD e default), ?_, rfl⟩
      rw [Nat.mul_one, Nat.add_zero, putCells_at (Value.int .i64) (by simp; omega) (by omega)]
      have e2 : (ys ++ List.replicate (L.length - ys.length) 0).toArray[e]! = ys.getD e default := by
        rw [List.getD_eq_getElem?_getD, List.getElem!_toArray, List.getElem!_eq_getElem?_getD, List.getElem?_append_left he]
      rw [e2])
    exact ⟨_, β, R, _, _, rfl, ⟨rfl, rfl⟩, ⟨_, c, rfl, by omega, h2, .inr ⟨blk, N, h7, rfl, h9⟩⟩, hW.1, hW.2, fun _ _ => rfl⟩
end
/-- What a cell holds, as plain data. -/
def vwP (h : List AO) (c : C) (k : PV → Tr) : Tr := vwC h c fun c' => match c' with
  | .p x => k x
  | _ => .fail
def pairF (a b : PV) : Nat → Nat → PV := fun e _ => match e with
  | 0 => a
  | _ => b
/-- Function f0 by its model, called with a new list of two lists. -/
def catX (f0 : FuncId) (m : ModH) (rest : Ext) : Ext := fun f args h k => match Nat.beq f0 f with
  | true => match args with
    | [.c (.sl id 1 0 2)] => match nth .gone h id with
      | .row _ 1 2 g => vwP h (g 0 0) fun a => vwP h (g 1 0) fun b => mutK m h k [.c (.p (.l 1 2 (pairF a b)))]
      | _ => .fail
    | _ => .fail
  | false => rest f args h k
section
variable {P : Program} {G : Nat → Option Obj} {β : Bt} {R : Nat → Prop} {w : World} {h : List AO}
theorem vwP_sound (hh : HS G β R w h) {c : C} {u : Value} (hc : CR β R w c u) {k : PV → Tr} {K : X → St → Prop} (hk : (vwP h c k).holds P G K) : ∃ x, PR (allR w) w x u ∧ (k x).holds P G K := by
  obtain ⟨c', h1, h2⟩ := vwC_sound hh hc hk
  cases c' <;> first | exact h2.elim | exact ⟨_, h1, h2⟩
theorem vwP_val {c : C} {k : PV → Tr} {K : X → St → Prop} (hk : (vwP h c k).holds P G K) : ∃ x, (k x).holds P G K ∧ ∀ (k' : PV → Tr) (K' : X → St → Prop), (k' x).holds P G K' → (vwP h c k').holds P G K' := by
  obtain ⟨c', h1, h2⟩ := vwC_val hk
  cases c' <;> first | exact h1.elim | exact ⟨_, h1, fun k' K' hq => h2 _ K' hq⟩
theorem catX_sound {f0 : FuncId} {m : ModH} {rest : Ext} (hm : ModHOK P G f0 m) (hr : SoundExt P G rest) : SoundExt P G (catX f0 m rest) := by
  refine ⟨?_, ?_⟩
  · intro f args h k K hh
    unfold catX at hh
    split at hh
    · rename_i hb
      obtain rfl := Nat.eq_of_beq_eq_true hb
      split at hh; rotate_left; · exact hh.elim
      split at hh; rotate_left; · exact hh.elim
      rename_i id _ ty g hid
      intro β R w vs ha hs
      obtain ⟨u1, hvs⟩ : ∃ u1, vs = #[u1] := by
        have hl := ha.length
        have : vs.size = 1 := by simpa using hl.symm
        exact ⟨vs[0], by apply Array.ext (by simpa using this); intro i h1 h2; match i, h1, h2 with | 0, _, _ => rfl⟩
      subst hvs
      obtain ⟨⟨A, c, rfl, h1, h2, h3⟩, _⟩ := ha
      rcases h3 with ⟨_, h7, _⟩ | ⟨blk, N, h7, h8, h9⟩
      · cases h7
      have hob := hs.obj id blk N h7
      rw [hid] at hob
      obtain ⟨cs, g1, g2, g3, g4⟩ := hob
      obtain ⟨u0, q1, q2⟩ := g4 0 0 (by omega) (by omega)
      obtain ⟨u1, q3, q4⟩ := g4 1 0 (by omega) (by omega)
      obtain ⟨a, a1, hh⟩ := vwP_sound hs q2.cr hh
      obtain ⟨b, b1, hh⟩ := vwP_sound hs q4.cr hh
      subst h8
      have hp : PR (allR w) w (.l 1 2 (pairF a b)) (.slice (some ⟨blk, 0 * 1, none⟩) 2 c) := by
       refine ⟨_, c, rfl, h1, h2, fun _ => ?_⟩
       refine ⟨_, rfl, hs.lt id blk N h7, fun e o he ho => ?_⟩
       obtain rfl : o = 0 := by omega
       have he : e = 0 ∨ e = 1 := by omega
       rcases he with rfl | rfl
       · refine ⟨u0, ?_, a1⟩
         simpa [World.cell?, Addr.add, g1] using q1
       · refine ⟨u1, ?_, b1⟩
         simpa [World.cell?, Addr.add, g1] using q3
      exact mutK_fn hm hs (args' := [.c (.p (.l 1 2 (pairF a b)))]) (vs := #[.slice (some ⟨blk, 0 * 1, none⟩) 2 c]) ⟨hp, trivial⟩ hh
    · exact hr.fn _ _ _ _ _ hh
  · intro f args h k K hh
    unfold catX at hh ⊢
    split at hh
    · split at hh; rotate_left; · exact hh.elim
      split at hh; rotate_left; · exact hh.elim
      obtain ⟨a, a1, a2⟩ := vwP_val hh
      obtain ⟨b, b1, b2⟩ := vwP_val a1
      obtain ⟨v, h', h3, h4⟩ := mutK_val b1
      refine ⟨v, h', h3, fun k' K' hk => ?_⟩
      exact a2 (fun a => vwP h _ fun b => mutK m h k' [.c (.p (.l 1 2 (pairF a b)))]) K' (b2 (fun b => mutK m h k' [.c (.p (.l 1 2 (pairF a b)))]) K' (h4 k' K' hk))
    · exact hr.val _ _ _ _ _ hh
end
end Go.AE
