/- AE contracts: ref29.Firing, SameBools, law29.graph. -/
import Derived.Test.YtkpladkcppeciaaS8
import Derived.Test.YtkpladkcppeciaaAe27
namespace Go.AE
open Go.Proofs Go.Proofs.Ytkpladkcppeciaa
set_option linter.unusedVariables false
set_option linter.unusedSimpArgs false
def fir : Nat → Int → List Bool
  | 0, _ => []
  | n + 1, b => decide (b % 2 = 1) :: fir n (b / 2)
def firing (n : Nat) (bits : Int) : List Bool := fir n (aroundZ bits 256)
def mFiring : Mod
  | [.c (.p (.i .i64 N)), .c (.p (.i .i64 b))] => some ((0 ≤ N ∧ N ≤ 1000000) ∧ inR .i64 b, listV encB 1 (firing N.toNat b))
  | _ => none
def mFiringH : ModH
  | [.c (.p (.i .i64 N)), .c (.p (.i .i64 b))], h => some ((0 ≤ N ∧ N ≤ 1000000) ∧ inR .i64 b, .c (.sl (lenL h) 1 0 N.toNat), snoc (.row 4 1 N.toNat fun e o => .p (rowP encB (firing N.toNat b) e o)) h)
  | _, _ => none
def mGraph : Mod
  | [.a [.p (.i .i64 N), .p (.l 2 n f)]] => some (True, .a [.p (.i .i64 N), .p (.l 2 n f)])
  | _ => none

theorem fir_length : ∀ (n : Nat) (b : Int), (fir n b).length = n
  | 0, _ => rfl
  | n + 1, b => by simp [fir, fir_length n]
theorem firing_length (n : Nat) (b : Int) : (firing n b).length = n := fir_length n _
section
variable {G : Nat → Option Obj}
end
end Go.AE
