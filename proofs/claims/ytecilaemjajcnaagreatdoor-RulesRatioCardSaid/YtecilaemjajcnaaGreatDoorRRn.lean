/- Pages: Li27, as far as they are used here. -/
import Derived.Test.YtecilaemjajcnaaGreatDoorRRj
import Derived.Test.YtecilaemjajcnaaGreatDoorRRh
import Derived.Test.YtecilaemjajcnaaGreatDoorProg
import Derived.KernelRfl
namespace Go.CE
set_option maxRecDepth 100000
open Go.RowKit
theorem lives27_run (o : Obj) : isTr (goQ Go.Proofs.Tryz.prog 4000 60 (.fn 12) [] (hG o gw) 1) = true := by kernel_rfl
theorem lives27_calls {o : Obj} (ho : GlbOK o gw) {w : World} (hw : w.heap[0]? = some o) : Calls Go.Proofs.Tryz.prog 12 #[] w fun e w' => e = .returned (.bool true) ∧ Below w.heap.size w w' :=
  calls_closedG (goQ_ok _ 4000 60) (lives27_run o) ho hw
end Go.CE
