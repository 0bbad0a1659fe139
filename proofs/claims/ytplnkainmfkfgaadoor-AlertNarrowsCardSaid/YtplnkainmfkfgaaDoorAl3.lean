/- What alert.change hands back, for every alert. -/
import Derived.Test.YtplnkainmfkfgaaDoorAl2
import Derived.Deep.DeepCutAuto
namespace Go.Proofs.YtplnkainmfkfgaaDoor
open Go.RowKit

/-- The cells of a block of six. -/
theorem Bk.six {w : World} {b : Nat} {t : TypeId} {v0 v1 v2 v3 v4 v5 : Value} (h : Bk w b t #[v0, v1, v2, v3, v4, v5]) :
    w.cell? ⟨b, 0, none⟩ = some v0 ∧ w.cell? ⟨b, 1, none⟩ = some v1 ∧ w.cell? ⟨b, 2, none⟩ = some v2 ∧ w.cell? ⟨b, 3, none⟩ = some v3 ∧ w.cell? ⟨b, 4, none⟩ = some v4 ∧ w.cell? ⟨b, 5, none⟩ = some v5 :=
  ⟨h.cell 0, h.cell 1, h.cell 2, h.cell 3, h.cell 4, h.cell 5⟩
theorem Bk.sixf {w : World} {b : Nat} {t : TypeId} {cs : Array Value} (h : Bk w b t cs) :
    w.frozen? ⟨b, 0, none⟩ = false ∧ w.frozen? ⟨b, 1, none⟩ = false ∧ w.frozen? ⟨b, 2, none⟩ = false ∧ w.frozen? ⟨b, 3, none⟩ = false ∧ w.frozen? ⟨b, 4, none⟩ = false ∧ w.frozen? ⟨b, 5, none⟩ = false :=
  ⟨h.frozen 0, h.frozen 1, h.frozen 2, h.frozen 3, h.frozen 4, h.frozen 5⟩
theorem bk_two {w w' : World} {X Y : Array Value} {t u : TypeId} (hb : Below ((w.alloc (.cells X t)).alloc (.cells Y u)).heap.size ((w.alloc (.cells X t)).alloc (.cells Y u)) w') : Bk w' w.heap.size t X ∧ Bk w' (w.heap.size + 1) u Y := by
  refine ⟨((Bk.new w t X).alloc _).next hb, ?_⟩
  have := (Bk.new (w.alloc (.cells X t)) u Y).next hb
  rwa [World.size_alloc] at this

set_option maxRecDepth 100000 in
set_option maxHeartbeats 2000000 in
theorem aChange_any (r : ByteArray) (ver : Int) (A : Option Addr) (n c : Nat) (f : Nat → Lb) (st si le st2 si2 le2 : Int) (w : World) (hn : n ≤ 1000000) (hR : RdL w w.heap.size A n f) :
    Calls Tryd.prog 35 #[.agg #[.string r, .int .i64 ver, .slice A n c, .int .i64 st, .int .i64 si, .int .i64 le], .int .i64 st2, .int .i64 si2, .int .i64 le2] w fun e w' => ∃ v, e = .returned (.agg #[.string r, .int .i64 ver, v, .int .i64 st2, .int .i64 si2, .int .i64 le2]) ∧ w'.ownsRow w.heap.size 82 2 v n (vl (lcell f) (n * 2)) ∧ Below w.heap.size w w' := by
  have hbo : Below w.heap.size w ((w.alloc (.cells #[.string r, .int .i64 ver, .slice A n c, .int .i64 st, .int .i64 si, .int .i64 le] 52)).alloc (.cells #[.string ⟨#[]⟩, .int .i64 0, .slice none 0 0, .int .i64 0, .int .i64 0, .int .i64 0] 52)) := ((Below.refl _ _).alloc (Nat.le_refl _) _).alloc (by simp) _
  go_enter Tryd.func35, Tryd.ntmps35
  go_wp2_with fail
  refine (aSeparate_any r ver A n c f st si le _ hn (Rd.next hR hbo)).mono ?_
  rintro e w2 ⟨v, rfl, hown, hb2⟩
  obtain ⟨X2, Y2⟩ := bk_two hb2
  have B2 : Below w.heap.size w w2 := hbo.trans (hb2.mono (by simp; omega))
  obtain ⟨A2, c2, rfl, hc2, hc2m, hR2⟩ := Rd.of_vl hown
  clear hR2 hb2
  obtain ⟨x0, x1, x2, x3, x4, x5⟩ := X2.six
  obtain ⟨f0, f1, f2, f3, f4, f5⟩ := X2.sixf
  go_upto_region 2 with (fail)
  clear x0 x1 x2 x3 x4 x5 f0 f1 f2 f3 f4 f5
  have X3 := X2.set6 (.string r) (.int .i64 ver) (.slice A2 n c2) (.int .i64 st) (.int .i64 si) (.int .i64 le)
  have Y3 := bk6 Y2 (b' := w.heap.size) (by omega) (.string r) (.int .i64 ver) (.slice A2 n c2) (.int .i64 st) (.int .i64 si) (.int .i64 le)
  have O3 := own6 hown (b := w.heap.size) (by simp; omega) (.string r) (.int .i64 ver) (.slice A2 n c2) (.int .i64 st) (.int .i64 si) (.int .i64 le)
  have B3 := below6 B2 (Nat.le_refl _) (.string r) (.int .i64 ver) (.slice A2 n c2) (.int .i64 st) (.int .i64 si) (.int .i64 le)
  obtain ⟨W3, hW3⟩ : ∃ W3, W3 = ((((((w2.setCell ⟨w.heap.size, 0, none⟩ (.string r)).setCell ⟨w.heap.size, 1, none⟩ (.int .i64 ver)).setCell ⟨w.heap.size, 2, none⟩ (.slice A2 n c2)).setCell ⟨w.heap.size, 3, none⟩ (.int .i64 st)).setCell ⟨w.heap.size, 4, none⟩ (.int .i64 si)).setCell ⟨w.heap.size, 5, none⟩ (.int .i64 le)) := ⟨_, rfl⟩
  rw [← hW3] at X3 Y3 O3 B3 ⊢
  clear hW3 X2 Y2 hown B2
  obtain ⟨x0, x1, x2, x3, x4, x5⟩ := X3.six
  obtain ⟨f0, f1, f2, f3, f4, f5⟩ := X3.sixf
  go_upto_region 3 with (fail)
  clear x0 x1 x2 x3 x4 x5 f0 f1 f2 f3 f4 f5
  have X4 : Bk _ w.heap.size 52 #[.string r, .int .i64 ver, .slice A2 n c2, .int .i64 st2, .int .i64 si2, .int .i64 le2] := ((X3.set 3 (.int .i64 st2)).set 4 (.int .i64 si2)).set 5 (.int .i64 le2)
  have Y4 := ((Y3.far (p := ⟨w.heap.size, 3, none⟩) (by simp) (.int .i64 st2)).far (p := ⟨w.heap.size, 4, none⟩) (by simp) (.int .i64 si2)).far (p := ⟨w.heap.size, 5, none⟩) (by simp) (.int .i64 le2)
  have O4 := ownsRow_setCell_below (ownsRow_setCell_below (ownsRow_setCell_below O3 (a := ⟨w.heap.size, 3, none⟩) (by simp; omega) (.int .i64 st2)) (a := ⟨w.heap.size, 4, none⟩) (by simp; omega) (.int .i64 si2)) (a := ⟨w.heap.size, 5, none⟩) (by simp; omega) (.int .i64 le2)
  have B4 := ((B3.setCell (p := ⟨w.heap.size, 3, none⟩) (Nat.le_refl _) (.int .i64 st2)).setCell (p := ⟨w.heap.size, 4, none⟩) (Nat.le_refl _) (.int .i64 si2)).setCell (p := ⟨w.heap.size, 5, none⟩) (Nat.le_refl _) (.int .i64 le2)
  obtain ⟨W4, hW4⟩ : ∃ W4, W4 = ((W3.setCell ⟨w.heap.size, 3, none⟩ (.int .i64 st2)).setCell ⟨w.heap.size, 4, none⟩ (.int .i64 si2)).setCell ⟨w.heap.size, 5, none⟩ (.int .i64 le2) := ⟨_, rfl⟩
  rw [← hW4] at X4 Y4 O4 B4 ⊢
  clear hW4 X3 Y3 O3 B3
  obtain ⟨x0, x1, x2, x3, x4, x5⟩ := X4.six
  obtain ⟨y0, y1, y2, y3, y4, y5⟩ := Y4.six
  obtain ⟨f0, f1, f2, f3, f4, f5⟩ := Y4.sixf
  go_wp2
  have Y5 := Y4.set6 (.string r) (.int .i64 ver) (.slice A2 n c2) (.int .i64 st2) (.int .i64 si2) (.int .i64 le2)
  obtain ⟨y0', y1', y2', y3', y4', y5'⟩ := Y5.six
  refine bodyPost_ret (v := .agg #[.string r, .int .i64 ver, .slice A2 n c2, .int .i64 st2, .int .i64 si2, .int .i64 le2]) (by simp [results, Tryd.results35, go_sem, y0, y1, y2, y3, y4, y5]) rfl ⟨_, rfl, ?_, ?_⟩
  · exact World.ownsRow.mono (own6 O4 (b := w.heap.size + 1) (by simp) _ _ _ _ _ _) hbo.size
  · exact below6 B4 (by omega) _ _ _ _ _ _
end Go.Proofs.YtplnkainmfkfgaaDoor
