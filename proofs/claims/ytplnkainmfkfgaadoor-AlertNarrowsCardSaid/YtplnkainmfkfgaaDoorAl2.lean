/- What slices.Clone of labels, alert.separate and alert.change hand back, for every alert. -/
import Derived.Test.YtplnkainmfkfgaaDoorAl
import Derived.Test.YtplnkainmfkfgaaDoorWords2
import Derived.Deep.Onto
namespace Go.Proofs.YtplnkainmfkfgaaDoor
open Go.RowKit

theorem Tryd.infoLabel : (Tryd.prog.info? 82).map (fun i => (i.zero, i.size, i.bytes)) = some (some (.agg #[.string ByteArray.empty, .string ByteArray.empty]), 2, 32) := by kernel_rfl
theorem lcell_one (f : Nat → Lb) (k : Nat) : (lcell f k).oneCell' = true := rfl

set_option maxRecDepth 100000 in
set_option maxHeartbeats 1000000 in
theorem cloneL_any (A : Option Addr) (n c : Nat) (f : Nat → Lb) (w : World) (hn : n ≤ 1000000) (hR : RdL w w.heap.size A n f) :
    Calls Tryd.prog 49 #[.slice A n c] w fun e w' => ∃ v, e = .returned v ∧ w'.ownsRow w.heap.size 82 2 v n (vl (lcell f) (n * 2)) ∧ Below w.heap.size w w' := by
  obtain ⟨i0, hi, hz0, hz1, hz2⟩ := info_parts Tryd.infoLabel
  have hnil := fun (w : World) (A : Option Addr) (n c : Nat) => Lib.run_eql_slice_nil (P := Tryd.prog) w 50 82 A n c 0 0 Tryd.underlying50
  rcases A with _ | ad
  · obtain rfl : n = 0 := by
      rcases Nat.eq_zero_or_pos n with h0 | h0
      · exact h0
      · obtain ⟨ad, h, _⟩ := hR (by omega)
        cases h
    go_enter Tryd.func49, Tryd.ntmps49
    go_wp2
    go_ret
    exact ⟨_, rfl, World.ownsRow_nil _ _ _ _, Below.refl _ _⟩
  · go_enter Tryd.func49, Tryd.ntmps49
    go_wp2_with (at_builtin; refine wpList_append_rds _ rfl (.tmp 5) (.tmp 6) 50 rfl w.heap.size 82 i0 (.agg #[.string ByteArray.empty, .string ByteArray.empty]) 2 32 Tryd.underlying50 hi hz0 hz1 hz2 rfl (by decide) _ 0 [] rfl (World.ownsRow_made (size := 2) w #[] 0 (Nat.le_refl _) (Nat.zero_le _) rfl) w.heap.size (some ad) n c (lcell f) rfl (Rd.alloc hR (Nat.le_refl _) _) (lcell_one f) (by unfold maxLen; omega) (by omega) (by simp) ?_; intro v' w1 hown' hgrow hat hnil')
    go_ret
    refine ⟨v', rfl, by simpa using hown', ?_⟩
    refine ((Below.refl _ _).alloc (Nat.le_refl _) _).grown hgrow (by simp) (fun k e => ?_)
    have : w.heap.size = k := by injection e
    omega

/-- Two new blocks, behind calls that change nothing that was there. -/
theorem two_after {w w' : World} {X Y : Array Value} {t u : TypeId} (hb : Below ((w.alloc (.cells X t)).alloc (.cells Y u)).heap.size ((w.alloc (.cells X t)).alloc (.cells Y u)) w') :
    (∀ i, w'.cell? ⟨w.heap.size, i, none⟩ = X[i]?) ∧ (∀ i, w'.cell? ⟨w.heap.size + 1, i, none⟩ = Y[i]?) ∧ (∀ i, w'.frozen? ⟨w.heap.size, i, none⟩ = false) ∧ (∀ i, w'.frozen? ⟨w.heap.size + 1, i, none⟩ = false) ∧ w.heap.size + 1 < w'.heap.size := by
  have hx : w'.heap[w.heap.size]? = some (.cells X t (0, 0)) := by
    rw [hb.block _ (by simp; omega), Below.heap_alloc _ _ _ (by simp)]
    exact heap_alloc_new w _
  have hy : w'.heap[w.heap.size + 1]? = some (.cells Y u (0, 0)) := by
    rw [hb.block _ (by simp)]
    have := heap_alloc_new (w.alloc (.cells X t)) (.cells Y u)
    rwa [World.size_alloc] at this
  refine ⟨fun i => cell_of_row _ _ i X t (0, 0) hx, fun i => cell_of_row _ _ i Y u (0, 0) hy, fun i => frozen_of_row _ _ i X t hx, fun i => frozen_of_row _ _ i Y u hy, ?_⟩
  have := hb.size
  simp at this
  omega
/-- An alert as the walk holds it. -/
abbrev alV (r : ByteArray) (ver : Int) (v : Value) (st si le : Int) : Value := .agg #[.string r, .int .i64 ver, v, .int .i64 st, .int .i64 si, .int .i64 le]

set_option maxRecDepth 100000 in
set_option maxHeartbeats 1000000 in
theorem aSeparate_any (r : ByteArray) (ver : Int) (A : Option Addr) (n c : Nat) (f : Nat → Lb) (st si le : Int) (w : World) (hn : n ≤ 1000000) (hR : RdL w w.heap.size A n f) :
    Calls Tryd.prog 34 #[.agg #[.string r, .int .i64 ver, .slice A n c, .int .i64 st, .int .i64 si, .int .i64 le]] w fun e w' => ∃ v, e = .returned (.agg #[.string r, .int .i64 ver, v, .int .i64 st, .int .i64 si, .int .i64 le]) ∧ w'.ownsRow w.heap.size 82 2 v n (vl (lcell f) (n * 2)) ∧ Below w.heap.size w w' := by
  have hbo : Below w.heap.size w ((w.alloc (.cells #[.string r, .int .i64 ver, .slice A n c, .int .i64 st, .int .i64 si, .int .i64 le] 52)).alloc (.cells #[.string ⟨#[]⟩, .int .i64 0, .slice none 0 0, .int .i64 0, .int .i64 0, .int .i64 0] 52)) := ((Below.refl _ _).alloc (Nat.le_refl _) _).alloc (by simp) _
  go_enter Tryd.func34, Tryd.ntmps34
  go_wp2_with fail
  refine (cloneL_any A n c f _ hn (Rd.next hR hbo)).mono ?_
  rintro e w2 ⟨v, rfl, hown, hb2⟩
  obtain ⟨kx, ky, fx, fy, hlt⟩ := two_after hb2
  have B2 : Below w.heap.size w w2 := hbo.trans (hb2.mono (by simp; omega))
  obtain ⟨A2, c2, rfl, hc2, hc2m, hR2⟩ := Rd.of_vl hown
  have x0 := kx 0
  have x1 := kx 1
  have x2 := kx 2
  have x3 := kx 3
  have x4 := kx 4
  have x5 := kx 5
  have y0 := ky 0
  have y1 := ky 1
  have y2 := ky 2
  have y3 := ky 3
  have y4 := ky 4
  have y5 := ky 5
  have g2 := fx 2
  have g0 := fy 0
  have g1 := fy 1
  have g3 := fy 2
  have g4 := fy 3
  have g5 := fy 4
  have g6 := fy 5
  simp only [List.getElem?_toArray, List.getElem?_cons_zero, List.getElem?_cons_succ] at x0 x1 x2 x3 x4 x5 y0 y1 y2 y3 y4 y5
  clear kx ky fx fy hR2 hb2
  go_wp2
  refine bodyPost_ret (v := .agg #[.string r, .int .i64 ver, .slice A2 n c2, .int .i64 st, .int .i64 si, .int .i64 le]) (by simp [results, Tryd.results34, go_sem, y0, y1, y2, y3, y4, y5]) rfl ⟨_, rfl, ?_, ?_⟩
  · refine World.ownsRow.mono ?_ hbo.size
    exact ownsRow_setCell_below (ownsRow_setCell_below (ownsRow_setCell_below (ownsRow_setCell_below (ownsRow_setCell_below (ownsRow_setCell_below (ownsRow_setCell_below hown (by simp; omega) _) (by simp) _) (by simp) _) (by simp) _) (by simp) _) (by simp) _) (by simp) _
  · exact ((((((B2.setCell (p := ⟨w.heap.size, 2, none⟩) (by simp) _).setCell (p := ⟨w.heap.size + 1, 0, none⟩) (by simp) _).setCell (p := ⟨w.heap.size + 1, 1, none⟩) (by simp) _).setCell (p := ⟨w.heap.size + 1, 2, none⟩) (by simp) _).setCell (p := ⟨w.heap.size + 1, 3, none⟩) (by simp) _).setCell (p := ⟨w.heap.size + 1, 4, none⟩) (by simp) _).setCell (p := ⟨w.heap.size + 1, 5, none⟩) (by simp) _
end Go.Proofs.YtplnkainmfkfgaaDoor
