import Derived.Test.YtgdlaibocecehaaGreatDoorRVj
import Derived.Test.YtgdlaibocecehaaGreatDoorRVh
import Derived.Test.YtgdlaibocecehaaGreatDoorProg
import Derived.KernelRfl
set_option linter.unusedVariables false
set_option linter.unusedSimpArgs false
namespace Go.CE
set_option maxRecDepth 100000
open Go.RowKit
theorem QT(o:Obj):aJ6 (goQ Go.Proofs.Tryz.prog 4000 60 (.fn 13) [] (hG o gw) 1)=true:=by kernel_rfl
theorem lives27_calls{o:Obj}(ho:GlbOK o gw){w:World}(hw:w.heap[0]?=some o):Calls Go.Proofs.Tryz.prog 13 #[] w fun e w'=>e=.returned (.bool true)∧Below w.heap.size w w':=
 II (aOH _ 4000 60) (QT o) ho hw
end Go.CE
