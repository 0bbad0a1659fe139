/- AE contracts: ref29.Valid, ref29.Inhibited. -/
import Derived.Test.YtkpladkcppeciaaS4
namespace Go.AE
set_option linter.unusedSimpArgs false
open Go.Proofs Go.Proofs.Ytkpladkcppeciaa
set_option linter.unusedVariables false
def gZ (N : Int) (E : List Ed) : V := .a [.p (.i .i64 N), .p (listP encE 2 E)]
section
variable {G : Nat → Option Obj}
end
end Go.AE
