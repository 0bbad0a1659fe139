/- AE: the package's table of levels in the law's world. -/
import Derived.Test.YtgjcldncnpochaaDoorE2
namespace Go.AE
set_option linter.unusedVariables false
set_option linter.unusedSimpArgs false
open Go.Proofs Go.Proofs.YtgjcldncnpochaaDoor Go.RowKit
/-- The block of the package's table. -/
def Gw (w : World) (b : Nat) : Option Obj := if b = 0 then w.heap[0]? else none
theorem gw_ok (w : World) : ∀ b o, Gw w b = some o → w.heap[b]? = some o := by
  intro b o h
  unfold Gw at h
  split at h
  · rename_i hb; rw [hb]; exact h
  · cases h
theorem levG_gw {w : World} (hL : Lev w) : LevG (Gw w) := by
  intro w' h k hk
  have hp := hL.pos
  have h0 : w.heap[0]? = some w.heap[0] := Array.getElem?_eq_getElem hp
  have h1 := h 0 w.heap[0] (by unfold Gw; rw [if_pos rfl]; exact h0)
  rw [← hL k hk]
  exact cell_same (by rw [h0]; exact h1)
end Go.AE
