/- strings.Builder at this program (after the shelf's Builder1, at a dump whose copyCheck refuses another place), and what labels.Text answers. -/
import Derived.Test.YtfjihbmehhccoaaLbl2
import Derived.Shelf.Strings.Builder1
import Derived.Lib.Builder
namespace Go.Proofs.Ytfjihbmehhccoaa
open Go.RowKit
set_option linter.unusedVariables false
set_option linter.unusedSimpArgs false

theorem sizeBuilder : ∃ j, Go.Proofs.Try.prog.info? 128 = some j ∧ j.size = 2 := Option.map_eq_some_iff.1 (show (Go.Proofs.Try.prog.info? 128).map (·.size) = some 2 by kernel_rfl)
theorem liesBuilder : liesAt Go.Proofs.Try.prog Go.Proofs.Try.prog.depth 128 (2 / Go.Proofs.Try.prog.cellsOf 128) 0 128 1 = true := by kernel_rfl
theorem infoByte : (Go.Proofs.Try.prog.info? 5).map (fun i => (i.zero, i.size, i.bytes)) = some (some (.int .u8 0), 1, 1) := by kernel_rfl

/-- Every block that is neither a builder nor a row of bytes stays as it is. -/
def KT (w w' : World) : Prop := ∀ (k : Nat) (cs : Array Value) (T : TypeId) (fr : Nat × Nat), w.heap[k]? = some (.cells cs T fr) → T ≠ 128 → T ≠ 5 → w'.heap[k]? = some (.cells cs T fr)
theorem KT.refl (w : World) : KT w w := fun _ _ _ _ h _ _ => h
theorem KT.trans {a b c : World} (h : KT a b) (k : KT b c) : KT a c := fun i cs T fr e h1 h2 => k i cs T fr (h i cs T fr e h1 h2) h1 h2
theorem KT.alloc (w : World) (o : Obj) : KT w (w.alloc o) := fun k cs T fr e _ _ => by
  have hk : k < w.heap.size := by
    rcases Nat.lt_or_ge k w.heap.size with h' | h'
    · exact h'
    · simp [Array.getElem?_eq_none h'] at e
  rw [Lib.alloc_old w o k hk]; exact e
theorem KT.setCell {w : World} {b j : Nat} {cs : Array Value} {fr : Nat × Nat} (h : w.heap[b]? = some (.cells cs 128 fr)) (v : Value) : KT w (w.setCell ⟨b, j, none⟩ v) := fun k ds T fs e h1 _ => by
  rw [Below.heap_setCell _ _ _ _ (fun he => by
    have he : k = b := he
    subst he
    rw [h] at e
    injection e with e
    injection e with _ e2 _
    exact h1 e2.symm)]
  exact e
theorem KT.grown {w w' : World} {B n : Nat} {v : Value} {xs : List Value} (hown : w.ownsRow B 5 1 v n xs) (hg : w.grownBy w' v.ownBlock) : KT w w' := fun k cs T fr e _ h2 => by
  have hk : k < w.heap.size := by
    rcases Nat.lt_or_ge k w.heap.size with h' | h'
    · exact h'
    · simp [Array.getElem?_eq_none h'] at e
  rw [hg.block k hk (fun he => Lib.ownBlock_ne hown e h2 he.symm)]
  exact e

set_option maxHeartbeats 1000000 in
set_option maxRecDepth 100000 in
theorem copyCheck_used (b : Nat) (w : World) (h0 : w.cell? ⟨b, 0, none⟩ = some (.pointer (some ⟨b, 0, none⟩))) :
    Calls Try.prog 108 #[.pointer (some ⟨b, 0, none⟩)] w fun e w' => e = .returned (.tuple #[]) ∧ w' = w := by
  obtain ⟨j, hj, _⟩ := sizeBuilder
  go_enter Try.func108, Try.ntmps108
  go_wp2
  rw [Lib.run_neq_ptr_same w _ Try.underlying126 hj]
  go_wp2
  go_end0
  exact ⟨rfl, rfl⟩

set_option maxHeartbeats 1000000 in
set_option maxRecDepth 100000 in
theorem copyCheck_fresh (b : Nat) (w : World) (h0 : w.cell? ⟨b, 0, none⟩ = some (.pointer none)) (hsh : w.shape? b = some (128, 2)) (hfz : w.frozen? ⟨b, 0, none⟩ = false) :
    Calls Try.prog 108 #[.pointer (some ⟨b, 0, none⟩)] w fun e w' => e = .returned (.tuple #[]) ∧ w' = w.setCell ⟨b, 0, none⟩ (.pointer (some ⟨b, 0, none⟩)) := by
  obtain ⟨j, hj, hjs⟩ := sizeBuilder
  go_enter Try.func108, Try.ntmps108
  go_wp2
  rw [Lib.run_to_unsafe w ⟨b, 0, none⟩ Try.underlying126 Try.underlying157 hj (by rw [hjs]; decide) hsh (Nat.zero_lt_succ 1)]
  simp only [Result.andThen]
  rw [Oper.upon_value]
  go_wp2
  rw [run_callFunc_extern Try.func116 (by kernel_rfl) (by kernel_rfl) (by kernel_rfl) (e := Extern.AbiNoEscape.same) (by kernel_rfl)]
  rw [Lib.run_noEscape]
  simp only [Result.andThen]
  rw [Oper.upon_value]
  go_wp2
  rw [Lib.run_from_unsafe w ⟨b, 0, none⟩ Try.underlying157 Try.underlying126 hj hsh liesBuilder]
  simp only [Result.andThen]
  rw [Oper.upon_value]
  go_wp2
  go_end0
  exact ⟨rfl, rfl⟩

theorem copyCheck (B b : Nat) (bs : List Value) (w : World) (h : Lib.IsBuilder 128 5 B b bs w) :
    Calls Try.prog 108 #[.pointer (some ⟨b, 0, none⟩)] w fun e w' => e = .returned (.tuple #[]) ∧ (Lib.BuilderAt 128 5 B b (.pointer (some ⟨b, 0, none⟩)) bs w' ∧ Below B w w' ∧ KT w w') := by
  rcases h with h | h
  · have h0 := h
    refine (copyCheck_fresh b w h.cell0 h.shape h.frozen0).mono ?_
    rintro e w' ⟨rfl, rfl⟩
    obtain ⟨_, v, hv, _⟩ := h
    exact ⟨rfl, h0.used _, (Below.refl B w).setCell (p := ⟨b, 0, none⟩) h0.1 _, KT.setCell hv _⟩
  · refine (copyCheck_used b w h.cell0).mono ?_
    rintro e w' ⟨rfl, rfl⟩
    exact ⟨rfl, h, Below.refl B _, KT.refl _⟩

set_option maxHeartbeats 2000000 in
set_option maxRecDepth 100000 in
theorem bWriteByte (B b : Nat) (bs : List Value) (c : Int) (w : World) (h : Lib.IsBuilder 128 5 B b bs w) (hlen : bs.length + 1 ≤ 140737488355328) (hBw : B ≤ w.heap.size) :
    Calls Try.prog 90 #[.pointer (some ⟨b, 0, none⟩), .int .u8 c] w fun e w' => e = .returned .nilIface ∧ (Lib.BuilderAt 128 5 B b (.pointer (some ⟨b, 0, none⟩)) (bs ++ [.int .u8 c]) w' ∧ Below B w w' ∧ KT w w') := by
  obtain ⟨i0, hi, hz0, hz1, hz2⟩ := info_parts infoByte
  go_enter Try.func90, Try.ntmps90
  go_wp2_with (go_at_call 108; refine (copyCheck B b bs _ h).mono ?_)
  rintro e w1 ⟨rfl, h1, hb1, hk1⟩
  obtain ⟨hB, v, hbk, hown, hne⟩ := h1
  have c0 : w1.cell? ⟨b, 0, none⟩ = some (.pointer (some ⟨b, 0, none⟩)) := by rw [Lib.cell_of_heap hbk]; rfl
  have c1 : w1.cell? ⟨b, 1, none⟩ = some v := by rw [Lib.cell_of_heap hbk]; rfl
  go_wp2_with (at_builtin; refine wpList_append_own _ rfl _ _ 63 rfl B 5 i0 (.int .u8 0) 1 1 Try.underlying63 hi hz0 hz1 hz2 rfl (by decide) _ _ _ rfl (hown.alloc _) ⟨w1.heap.size, 0, none⟩ 1 1 [.int .u8 c] rfl rfl ?c1 ?c2 ?c3 ?c4 ?c5 ?_)
  case c1 =>
    intro j u hj
    match j, hj with
    | 0, hj => simp at hj; subst hj; simp [Addr.add]
  case c2 => intro u hu; simp at hu; subst hu; rfl
  case c3 => unfold maxLen; omega
  case c4 => omega
  case c5 => have := hb1.size; simp; omega
  intro v' w2 hown' hgrow _
  have hlt : b < w1.heap.size := by
    rcases Nat.lt_or_ge b w1.heap.size with h' | h'
    · exact h'
    · simp [Array.getElem?_eq_none h'] at hbk
  have hb2 : w2.heap[b]? = some (.cells #[.pointer (some ⟨b, 0, none⟩), v] 128 (0, 0)) := by
    rw [hgrow.block b (by simp; omega) (fun e => hne e.symm), Lib.alloc_old w1 _ b hlt]
    exact hbk
  have d0 : w2.cell? ⟨b, 0, none⟩ = some (.pointer (some ⟨b, 0, none⟩)) := by rw [Lib.cell_of_heap hb2]; rfl
  have d1 : w2.cell? ⟨b, 1, none⟩ = some v := by rw [Lib.cell_of_heap hb2]; rfl
  have f1 : w2.frozen? ⟨b, 1, none⟩ = false := Lib.frozen_of_heap hb2 1
  obtain ⟨g, cap, rfl⟩ : ∃ g cap, v' = .slice (some ⟨g, 0, none⟩) (bs.length + 1) cap := by
    rcases hown'.2 with ⟨_, h0⟩ | ⟨g, cap, cur, hv, _⟩
    · omega
    · exact ⟨g, cap, hv⟩
  go_wp2
  go_ret
  refine ⟨rfl, ?_, ?_, ?_⟩
  · exact Lib.BuilderAt.put (T := 128) (e := 5) hB hb2 (bs' := bs ++ [.int .u8 c]) (by simpa using hown') (by decide)
  · exact ((hb1.alloc (by have := hb1.size; omega) _).grown hgrow (by have := hb1.size; simp; omega) (fun k hk => (hown.lt k hk).1)).setCell (p := ⟨b, 1, none⟩) hB _
  · exact ((hk1.trans (KT.alloc _ _)).trans (KT.grown (hown.alloc _) hgrow)).trans (KT.setCell hb2 _)

set_option maxHeartbeats 2000000 in
set_option maxRecDepth 100000 in
theorem bWriteString (B b : Nat) (bs : List Value) (s : ByteArray) (w : World) (h : Lib.IsBuilder 128 5 B b bs w) (hlen : bs.length + s.size ≤ 140737488355328) (hBw : B ≤ w.heap.size) :
    Calls Try.prog 91 #[.pointer (some ⟨b, 0, none⟩), .string s] w fun e w' => e = .returned (.tuple #[.int .i64 s.size, .nilIface]) ∧ (Lib.BuilderAt 128 5 B b (.pointer (some ⟨b, 0, none⟩)) (bs ++ Lib.strCells s) w' ∧ Below B w w' ∧ KT w w') := by
  obtain ⟨i0, hi, hz0, hz1, hz2⟩ := info_parts infoByte
  go_enter Try.func91, Try.ntmps91
  go_wp2_with (go_at_call 108; refine (copyCheck B b bs _ h).mono ?_)
  rintro e w1 ⟨rfl, h1, hb1, hk1⟩
  obtain ⟨hB, v, hbk, hown, hne⟩ := h1
  have c0 : w1.cell? ⟨b, 0, none⟩ = some (.pointer (some ⟨b, 0, none⟩)) := by rw [Lib.cell_of_heap hbk]; rfl
  have c1 : w1.cell? ⟨b, 1, none⟩ = some v := by rw [Lib.cell_of_heap hbk]; rfl
  go_wp2_with (at_builtin; refine Lib.wpList_append_own_string _ rfl _ _ 63 9 rfl B 5 i0 Try.underlying63 Try.underlying9 hi hz0 hz1 hz2 _ _ _ rfl hown s rfl ?c3 ?c4 ?c5 ?_)
  case c3 => unfold maxLen; omega
  case c4 => omega
  case c5 => have := hb1.size; omega
  intro v' w2 hown' hgrow _
  have hlt : b < w1.heap.size := by
    rcases Nat.lt_or_ge b w1.heap.size with h' | h'
    · exact h'
    · simp [Array.getElem?_eq_none h'] at hbk
  have hb2 : w2.heap[b]? = some (.cells #[.pointer (some ⟨b, 0, none⟩), v] 128 (0, 0)) := by
    rw [hgrow.block b hlt (fun e => hne e.symm)]
    exact hbk
  have d0 : w2.cell? ⟨b, 0, none⟩ = some (.pointer (some ⟨b, 0, none⟩)) := by rw [Lib.cell_of_heap hb2]; rfl
  have d1 : w2.cell? ⟨b, 1, none⟩ = some v := by rw [Lib.cell_of_heap hb2]; rfl
  have f1 : w2.frozen? ⟨b, 1, none⟩ = false := Lib.frozen_of_heap hb2 1
  obtain ⟨ao, n', cap, rfl⟩ : ∃ ao n' cap, v' = .slice ao n' cap := by
    rcases hown'.2 with ⟨hv, _⟩ | ⟨g, cap, cur, hv, _⟩
    · exact ⟨_, _, _, hv⟩
    · exact ⟨_, _, _, hv⟩
  go_wp2
  go_ret2
  refine ⟨rfl, ?_, ?_, ?_⟩
  · exact Lib.BuilderAt.put (T := 128) (e := 5) hB hb2 (bs' := bs ++ Lib.strCells s) (by simpa [Lib.strCells_length] using hown') (by decide)
  · exact (hb1.grown hgrow (by have := hb1.size; omega) (fun k hk => (hown.lt k hk).1)).setCell (p := ⟨b, 1, none⟩) hB _
  · exact (hk1.trans (KT.grown hown hgrow)).trans (KT.setCell hb2 _)

/-! ### String -/
def lays169_ren : Go.Shelf.Ren := ⟨fun | 169 => 92 | n => n, fun | 70 => 126 | 9 => 9 | 0 => 0 | 72 => 128 | 37 => 63 | 127 => 150 | 3 => 3 | 5 => 5 | n => n, fun | n => n⟩
theorem lays169 : Go.Proofs.Lays.n169 Try.prog lays169_ren := {
  mixed := by kernel_rfl
  f169 := Try.func92.trans (congrArg some (by kernel_rfl))
  t0 := Try.underlying0
  a0 := Try.isAgg0
  z0 := Try.sizeOf0
  v0 := Try.zeroValue0
  t3 := Try.underlying3
  a3 := Try.isAgg3
  z3 := Try.sizeOf3
  v3 := Try.zeroValue3
  t9 := Try.underlying9
  a9 := Try.isAgg9
  z9 := Try.sizeOf9
  v9 := Try.zeroValue9
  t37 := Try.underlying63
  a37 := Try.isAgg63
  z37 := Try.sizeOf63
  v37 := Try.zeroValue63
  t70 := Try.underlying126
  a70 := Try.isAgg126
  z70 := Try.sizeOf126
  v70 := Try.zeroValue126
  t72 := Try.underlying128
  a72 := Try.isAgg128
  z72 := Try.sizeOf128
  v72 := Try.zeroValue128
  t127 := Try.underlying150
  a127 := Try.isAgg150
  z127 := Try.sizeOf150
  v127 := Try.zeroValue150 }
theorem extra169 : Go.Proofs.Builder.Extra Try.prog lays169_ren := {
  sizeBuilder := by kernel_rfl
  liesBuilder := by kernel_rfl
  t5 := Try.underlying5
  a5 := Try.isAgg5
  z5 := Try.sizeOf5
  v5 := Try.zeroValue5
  infoByte := by kernel_rfl
  cellsByte := by kernel_rfl
  sizeByte := by kernel_rfl
  neB5 := by decide }
theorem bString (B b : Nat) (l : List UInt8) (w : World) (h : Lib.IsBuilder 128 5 B b (Lib.byteCells l) w) (hBw : B ≤ w.heap.size) :
    Calls Try.prog 92 #[.pointer (some ⟨b, 0, none⟩)] w fun e w' => e = .returned (.string ⟨l.toArray⟩) ∧ Below B w w' := Go.Proofs.Any.Builder_String_any lays169 extra169 B b l w h hBw

/-! ### labels.Text -/
def labB (f : Nat → Lb) (k : Nat) : List UInt8 := (if 0 < k then [44] else []) ++ (f k).1.data.toList ++ [61, 34] ++ (f k).2.data.toList ++ [34]
def bodyB (f : Nat → Lb) (n : Nat) : List UInt8 := (List.range n).flatMap (labB f)
theorem bodyB_succ (f : Nat → Lb) (n : Nat) : bodyB f (n + 1) = bodyB f n ++ labB f n := by simp [bodyB, List.range_succ]
def textB (f : Nat → Lb) (n : Nat) : List UInt8 := 123 :: (bodyB f n ++ [125])
theorem bodyB_mono (f : Nat → Lb) {k n : Nat} (h : k ≤ n) : (bodyB f k).length ≤ (bodyB f n).length := by
  induction n with
  | zero => obtain rfl : k = 0 := by omega
            exact Nat.le_refl _
  | succ n ih =>
    rcases Nat.lt_or_ge n k with h1 | h1
    · obtain rfl : k = n + 1 := by omega
      exact Nat.le_refl _
    · refine Nat.le_trans (ih h1) ?_
      rw [bodyB_succ, List.length_append]; omega
theorem bodyB_three (f : Nat → Lb) (n : Nat) : n * 3 ≤ (bodyB f n).length := by
  induction n with
  | zero => simp
  | succ n ih =>
    rw [bodyB_succ, List.length_append]
    have : 3 ≤ (labB f n).length := by simp [labB]; omega
    omega
theorem Below.of_le {B B' : Nat} {w w' : World} (h : Below B w w') (hB : B' ≤ B) : Below B' w w' := h.mono hB
theorem cells_c (l : List UInt8) (c : Int) (x : UInt8) (h : c = x.toNat) : Lib.byteCells l ++ [.int .u8 c] = Lib.byteCells (l ++ [x]) := by subst h; simp [Lib.byteCells]
theorem cells_s (l : List UInt8) (s : ByteArray) : Lib.byteCells l ++ Lib.strCells s = Lib.byteCells (l ++ s.data.toList) := by simp [Lib.byteCells, Lib.strCells]
theorem KT.cell {w w' : World} (h : KT w w') {b i : Nat} {cs : Array Value} {T : TypeId} (hb : w.heap[b]? = some (.cells cs T (0, 0))) (h1 : T ≠ 128) (h2 : T ≠ 5) : w'.heap[b]? = some (.cells cs T (0, 0)) := h b cs T (0, 0) hb h1 h2
/-- A builder under an allocation. -/
theorem builder_alloc {B b : Nat} {p : Value} {bs : List Value} {w : World} (h : Lib.BuilderAt 128 5 B b p bs w) (o : Obj) : Lib.BuilderAt 128 5 B b p bs (w.alloc o) := by
  obtain ⟨hB, v, hb, hown, hne⟩ := h
  refine ⟨hB, v, ?_, hown.alloc _, hne⟩
  rw [Lib.alloc_old w o b (Lib.BuilderAt.lt ⟨hB, v, hb, hown, hne⟩)]
  exact hb

set_option maxRecDepth 100000 in
set_option maxHeartbeats 4000000 in
theorem lText_any (A : Option Addr) (n c : Nat) (f : Nat → Lb) (w : World) (hR : RdL w w.heap.size A n f) (hlen : (textB f n).length ≤ 1000000) :
    Calls Try.prog 74 #[.slice A n c] w fun e w' => e = .returned (.string ⟨(textB f n).toArray⟩) ∧ Below w.heap.size w w' := by
  have hbody : (bodyB f n).length ≤ 999998 := by simp [textB] at hlen; omega
  clear hlen
  have hn : n ≤ 400000 := by have := bodyB_three f n; omega
  have hfresh := Lib.fresh_isBuilder 128 5 w
  go_enter Try.func74, Try.ntmps74
  go_wp2_with (go_at_call 90; refine (bWriteByte w.heap.size w.heap.size [] 123 _ hfresh (by simp) (by simp)).mono ?_)
  rintro e w1 ⟨rfl, h1, hb1, _⟩
  have B1 : Below w.heap.size w w1 := ((Below.refl _ _).alloc (Nat.le_refl _) _).trans hb1
  clear hb1 hfresh
  have h1 : Lib.BuilderAt 128 5 w.heap.size w.heap.size (.pointer (some ⟨w.heap.size, 0, none⟩)) (Lib.byteCells (123 :: bodyB f 0)) w1 := h1
  go_wp2
  go_loopw [9] (fun i wr => ∃ k : Nat, k ≤ n ∧ i = .int .i64 k ∧ Lib.BuilderAt 128 5 w.heap.size w.heap.size (.pointer (some ⟨w.heap.size, 0, none⟩)) (Lib.byteCells (123 :: bodyB f k)) wr ∧ Below w.heap.size w wr) (fun i _ => n - (intOf i).toNat)
  case atStart => exact ⟨0, Nat.zero_le _, rfl, h1, B1⟩
  case round =>
    obtain ⟨k, hk, rfl, hW, hB⟩ := hrel
    clear h1 B1
    by_cases hlt : k < n
    · obtain ⟨ad, rfl, hab, hc0, hc1⟩ := (RdL.at_ (Rd.below hR hB) hlt)
      have hl1 : (bodyB f (k + 1)).length ≤ 999998 := Nat.le_trans (bodyB_mono f hlt) hbody
      rw [bodyB_succ, List.length_append] at hl1
      have hlab : labB f k = (if 0 < k then [44] else []) ++ (f k).1.data.toList ++ [61, 34] ++ (f k).2.data.toList ++ [34] := rfl
      obtain ⟨nm, hnm⟩ : ∃ nm, nm = (f k).1 := ⟨_, rfl⟩
      obtain ⟨vv, hvv⟩ : ∃ vv, vv = (f k).2 := ⟨_, rfl⟩
      rw [← hnm] at hc0
      rw [← hvv] at hc1
      rw [← hnm, ← hvv] at hlab
      have HL := Lib.hid hlab
      obtain ⟨L, hL⟩ : ∃ L, L = bodyB f k := ⟨_, rfl⟩
      have HL2 := Lib.hid hL
      rw [hlab, ← hL] at hl1
      rw [← hL] at hW
      have hs1 : nm.data.toList.length = nm.size := Array.length_toList
      have hs2 : vv.data.toList.length = vv.size := Array.length_toList
      simp only [List.length_append, List.length_cons, List.length_nil, hs1, hs2] at hl1
      clear hnm hvv hlab hL
      by_cases h0 : 0 < k
      · have hi2 : (0 : Int) < k := by omega
        have hl2 : (if 0 < k then [(44 : UInt8)] else []).length = 1 := by rw [if_pos h0]; rfl
        rw [hl2] at hl1
        go_wp2_with fail
        refine (bWriteByte w.heap.size w.heap.size _ 44 _ (Or.inr (builder_alloc hW _)) (by rw [Lib.byteCells_length]; simp only [List.length_cons]; omega) (by have := hB.size; simp; omega)).mono ?_
        rintro e w2 ⟨rfl, hW2, hb2, hk2⟩
        rw [cells_c _ 44 44 rfl] at hW2
        have B2 : Below w.heap.size w w2 := (hB.alloc hB.size _).trans hb2
        have hx2 : w2.heap[wr.heap.size]? = some (.cells #[.string nm, .string vv] 56 (0, 0)) := hk2 _ _ _ _ (heap_alloc_new wr _) (by decide) (by decide)
        have c0 : w2.cell? ⟨wr.heap.size, 0, none⟩ = some (.string nm) := by rw [Lib.cell_of_heap hx2]; rfl
        go_wp2_with fail
        refine (bWriteString w.heap.size w.heap.size _ nm _ (Or.inr hW2) (by rw [Lib.byteCells_length]; simp only [List.length_append, List.length_cons, List.length_nil]; omega) (by have := B2.size; omega)).mono ?_
        rintro e w3 ⟨rfl, hW3, hb3, hk3⟩
        rw [cells_s] at hW3
        have B3 : Below w.heap.size w w3 := B2.trans hb3
        have hx3 : w3.heap[wr.heap.size]? = some (.cells #[.string nm, .string vv] 56 (0, 0)) := hk3 _ _ _ _ hx2 (by decide) (by decide)
        go_wp2_with fail
        refine (bWriteString w.heap.size w.heap.size _ ⟨#[61, 34]⟩ _ (Or.inr hW3) (by rw [Lib.byteCells_length]; simp only [List.length_append, List.length_cons, List.length_nil, hs1]; show _ + 2 ≤ _; omega) (by have := B3.size; omega)).mono ?_
        rintro e w4 ⟨rfl, hW4, hb4, hk4⟩
        rw [cells_s] at hW4
        have B4 : Below w.heap.size w w4 := B3.trans hb4
        have hx4 : w4.heap[wr.heap.size]? = some (.cells #[.string nm, .string vv] 56 (0, 0)) := hk4 _ _ _ _ hx3 (by decide) (by decide)
        have c1 : w4.cell? ⟨wr.heap.size, 1, none⟩ = some (.string vv) := by rw [Lib.cell_of_heap hx4]; rfl
        go_wp2_with fail
        refine (bWriteString w.heap.size w.heap.size _ vv _ (Or.inr hW4) (by rw [Lib.byteCells_length]; simp only [List.length_append, List.length_cons, List.length_nil, hs1]; show _ + 2 + _ ≤ _; omega) (by have := B4.size; omega)).mono ?_
        rintro e w5 ⟨rfl, hW5, hb5, hk5⟩
        rw [cells_s] at hW5
        have B5 : Below w.heap.size w w5 := B4.trans hb5
        go_wp2_with fail
        refine (bWriteByte w.heap.size w.heap.size _ 34 _ (Or.inr hW5) (by rw [Lib.byteCells_length]; simp only [List.length_append, List.length_cons, List.length_nil, hs1, hs2]; show _ + 2 + _ + 1 ≤ _; omega) (by have := B5.size; omega)).mono ?_
        rintro e w6 ⟨rfl, hW6, hb6, hk6⟩
        rw [cells_c _ 34 34 rfl] at hW6
        have B6 : Below w.heap.size w w6 := B5.trans hb6
        go_wp2
        go_roundw
        case rel => exact ⟨k + 1, by omega, by go_num, by
          have e : 123 :: bodyB f (k + 1) = 123 :: L ++ [44] ++ nm.data.toList ++ (⟨#[61, 34]⟩ : ByteArray).data.toList ++ vv.data.toList ++ [34] := by rw [bodyB_succ, HL.out, ← HL2.out]; simp [h0, List.append_assoc]
          rw [e]; exact hW6, B6⟩
        case measure => simp [intOf]; omega
      · have hl2 : (if 0 < k then [(44 : UInt8)] else []).length = 0 := by rw [if_neg h0]; rfl
        rw [hl2] at hl1
        have hi : decide (0 < (k : Int)) = false := by simp; omega
        have B2 : Below w.heap.size w (wr.alloc (.cells #[.string nm, .string vv] 56)) := hB.alloc hB.size _
        have hW2 := builder_alloc hW (.cells #[.string nm, .string vv] 56)
        go_wp2_with fail
        refine (bWriteString w.heap.size w.heap.size _ nm _ (Or.inr hW2) (by rw [Lib.byteCells_length]; simp only [List.length_append, List.length_cons, List.length_nil]; omega) (by have := B2.size; omega)).mono ?_
        rintro e w3 ⟨rfl, hW3, hb3, hk3⟩
        rw [cells_s] at hW3
        have B3 : Below w.heap.size w w3 := B2.trans hb3
        have hx3 : w3.heap[wr.heap.size]? = some (.cells #[.string nm, .string vv] 56 (0, 0)) := hk3 _ _ _ _ (heap_alloc_new wr _) (by decide) (by decide)
        go_wp2_with fail
        refine (bWriteString w.heap.size w.heap.size _ ⟨#[61, 34]⟩ _ (Or.inr hW3) (by rw [Lib.byteCells_length]; simp only [List.length_append, List.length_cons, List.length_nil, hs1]; show _ + 2 ≤ _; omega) (by have := B3.size; omega)).mono ?_
        rintro e w4 ⟨rfl, hW4, hb4, hk4⟩
        rw [cells_s] at hW4
        have B4 : Below w.heap.size w w4 := B3.trans hb4
        have hx4 : w4.heap[wr.heap.size]? = some (.cells #[.string nm, .string vv] 56 (0, 0)) := hk4 _ _ _ _ hx3 (by decide) (by decide)
        have c1 : w4.cell? ⟨wr.heap.size, 1, none⟩ = some (.string vv) := by rw [Lib.cell_of_heap hx4]; rfl
        go_wp2_with fail
        refine (bWriteString w.heap.size w.heap.size _ vv _ (Or.inr hW4) (by rw [Lib.byteCells_length]; simp only [List.length_append, List.length_cons, List.length_nil, hs1]; show _ + 2 + _ ≤ _; omega) (by have := B4.size; omega)).mono ?_
        rintro e w5 ⟨rfl, hW5, hb5, hk5⟩
        rw [cells_s] at hW5
        have B5 : Below w.heap.size w w5 := B4.trans hb5
        go_wp2_with fail
        refine (bWriteByte w.heap.size w.heap.size _ 34 _ (Or.inr hW5) (by rw [Lib.byteCells_length]; simp only [List.length_append, List.length_cons, List.length_nil, hs1, hs2]; show _ + 2 + _ + 1 ≤ _; omega) (by have := B5.size; omega)).mono ?_
        rintro e w6 ⟨rfl, hW6, hb6, hk6⟩
        rw [cells_c _ 34 34 rfl] at hW6
        have B6 : Below w.heap.size w w6 := B5.trans hb6
        go_wp2
        go_roundw
        case rel => exact ⟨k + 1, by omega, by go_num, by
          have e : 123 :: bodyB f (k + 1) = 123 :: L ++ nm.data.toList ++ (⟨#[61, 34]⟩ : ByteArray).data.toList ++ vv.data.toList ++ [34] := by rw [bodyB_succ, HL.out, ← HL2.out]; simp [h0, List.append_assoc]
          rw [e]; exact hW6, B6⟩
        case measure => simp [intOf]; omega
    · obtain rfl : k = n := by omega
      go_wp2_with fail
      refine (bWriteByte w.heap.size w.heap.size _ 125 _ (Or.inr hW) (by rw [Lib.byteCells_length]; simp only [List.length_cons]; omega) (by have := hB.size; omega)).mono ?_
      rintro e w2 ⟨rfl, hW2, hb2, _⟩
      rw [cells_c _ 125 125 rfl] at hW2
      have B2 : Below w.heap.size w w2 := hB.trans hb2
      go_wp2_with fail
      refine (bString w.heap.size w.heap.size _ _ (Or.inr hW2) (by have := B2.size; simpa using this)).mono ?_
      rintro e w3 ⟨rfl, hb3⟩
      go_wp2
      go_ret
      exact ⟨rfl, B2.trans hb3⟩
end Go.Proofs.Ytfjihbmehhccoaa
