/- What the rows' list gives: the package's table of levels holds what its text lays. -/
import Derived.Test.YtplnkainmfkfgaaDoorRows
import Derived.Test.YtplnkainmfkfgaaDoorAl
import Derived.ProofKit
import Derived.OpenShut
import Derived.Lib.LaidTab
namespace Go.Proofs.YtplnkainmfkfgaaDoor
open Go.ChangeShapes Go.WideShapes Go.ChangeAt Go.RowKit

theorem gLev : Tryd.prog.globalNamed "intervalmon/alert.levels" = some 0 := by kernel_rfl
theorem gLevType : (Tryd.prog.globals[0]?).map (·.type) = some 89 := by kernel_rfl
theorem cellsA52 : Tryd.prog.cellsOf 89 = 10 := by kernel_rfl
theorem cellsA2 : Tryd.prog.cellsOf 88 = 2 := by kernel_rfl
theorem cellsInt : Tryd.prog.cellsOf 3 = 1 := by kernel_rfl
theorem lev_of_laid {W : World} (h : laidMetH Tryd.prog [("intervalmon/alert.levels", Rows.laid_intervalmon_alert_levels)] W) : Lev W := by
  obtain ⟨ps, ⟨g', t', cs, fuel, p, q, hg', ht', hvar, hd, _, _⟩, _⟩ := h
  obtain rfl := Option.some.inj (gLev.symm.trans hg')
  obtain rfl := Option.some.inj (gLevType.symm.trans ht')
  obtain ⟨xs, m, _, ex, _, hl, hel⟩ := DataW.trod_array Tryd.underlying89 hd
  simp only [Prod.mk.injEq] at ex
  have hdat : xs.map (·.1) = [Lib.tabData .i64 [0, 0], Lib.tabData .i64 [0, 0], Lib.tabData .i64 [0, 0], Lib.tabData .i64 [0, 16], Lib.tabData .i64 [1, 16]] := by
    have := ex.1
    unfold Rows.laid_intervalmon_alert_levels at this
    injection this with this
    exact this.symm
  rw [cellsA2] at hel
  have key : ∀ (i : Nat) (zs : List Int), i < 5 → (xs.map (·.1))[i]? = some (Lib.tabData .i64 zs) → (cs.toList.drop (i * 2)).take 2 = zs.map fun z => Value.int .i64 z := by
    intro i zs hi hz
    have hi' : i < xs.length := by omega
    have h1 := hel i hi
    rw [List.getElem?_map, List.getElem?_eq_getElem hi'] at hz
    rw [List.getElem?_eq_getElem hi'] at h1
    have hz' : (xs[i]).1 = Lib.tabData .i64 zs := by injection hz
    have h2 : xs[i] = (Lib.tabData .i64 zs, (xs[i]).2) := Prod.ext hz' rfl
    rw [h2] at h1
    exact Lib.cells_of_tab Tryd.underlying88 Tryd.underlying3 cellsInt cellsA2 h1
  have at_ : ∀ (i j : Nat) (zs : List Int) (z : Int), i < 5 → j < 2 → (xs.map (·.1))[i]? = some (Lib.tabData .i64 zs) → zs[j]? = some z → W.cell? ⟨0, i * 2 + j, none⟩ = some (.int .i64 z) := by
    intro i j zs z hi hj hz hzj
    rw [World.var?_cell gLev hvar (i * 2 + j), ← Array.getElem?_toList]
    have h1 := congrArg (·[j]?) (key i zs hi hz)
    simp only [List.getElem?_take, List.getElem?_drop, List.getElem?_map, hzj] at h1
    rw [if_pos hj] at h1
    exact h1
  rw [hdat] at at_
  intro k hk
  have hk' : k = 0 ∨ k = 1 ∨ k = 2 ∨ k = 3 ∨ k = 4 ∨ k = 5 ∨ k = 6 ∨ k = 7 ∨ k = 8 ∨ k = 9 := by omega
  rcases hk' with rfl | rfl | rfl | rfl | rfl | rfl | rfl | rfl | rfl | rfl
  · exact at_ 0 0 _ _ (by omega) (by omega) rfl rfl
  · exact at_ 0 1 _ _ (by omega) (by omega) rfl rfl
  · exact at_ 1 0 _ _ (by omega) (by omega) rfl rfl
  · exact at_ 1 1 _ _ (by omega) (by omega) rfl rfl
  · exact at_ 2 0 _ _ (by omega) (by omega) rfl rfl
  · exact at_ 2 1 _ _ (by omega) (by omega) rfl rfl
  · exact at_ 3 0 _ _ (by omega) (by omega) rfl rfl
  · exact at_ 3 1 _ _ (by omega) (by omega) rfl rfl
  · exact at_ 4 0 _ _ (by omega) (by omega) rfl rfl
  · exact at_ 4 1 _ _ (by omega) (by omega) rfl rfl
end Go.Proofs.YtplnkainmfkfgaaDoor
