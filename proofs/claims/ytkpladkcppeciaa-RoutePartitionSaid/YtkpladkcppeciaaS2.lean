/- AE contracts: law29.shifts. -/
import Derived.Test.YtkpladkcppeciaaS1
namespace Go.AE
set_option linter.unusedSimpArgs false
open Go.Proofs Go.Proofs.Ytkpladkcppeciaa
set_option linter.unusedVariables false

def mShifts : Mod
  | [.c (.p (.l 3 n f))] => some (IsL enc3 3 (decL dec3 n f) n f ∧ n ≤ 1000000, listV enc3 3 (decL dec3 n f))
  | _ => none

theorem sh_at (x : Sh) : ∀ o : Nat, o < 3 → (fun e o : Nat => nth C.top [C.p (PV.s x.1), C.p (PV.i .i64 x.2.1), C.p (PV.i .i64 x.2.2)] ((e + 0) * 3 + o)) 0 o = .p (enc3 x o) := by
  intro o ho
  have ho' : o = 0 ∨ o = 1 ∨ o = 2 := by omega
  rcases ho' with rfl | rfl | rfl <;> rfl
theorem sh_one (x : Sh) : ∀ e o : Nat, e < 1 → o < 3 → oneC (nth C.top [C.p (PV.s x.1), C.p (PV.i .i64 x.2.1), C.p (PV.i .i64 x.2.2)] ((e + 0) * 3 + o)) = true := by
  intro e o he ho
  obtain rfl : e = 0 := by omega
  have ho' : o = 0 ∨ o = 1 ∨ o = 2 := by omega
  rcases ho' with rfl | rfl | rfl <;> rfl
section
variable {G : Nat → Option Obj}
end
end Go.AE
