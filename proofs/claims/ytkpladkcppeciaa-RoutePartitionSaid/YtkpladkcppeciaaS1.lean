/- AE contracts: ref29.covered. -/
import Derived.Test.YtkpladkcppeciaaR2N
namespace Go.AE
set_option linter.unusedVariables false
set_option linter.unusedSimpArgs false
open Go.Proofs Go.Proofs.Ytkpladkcppeciaa

/-- A shift: person, from, until. -/
abbrev Sh := ByteArray × Int × Int
def enc3 (x : Sh) (o : Nat) : PV := match o with
  | 0 => .s x.1
  | 1 => .i .i64 x.2.1
  | _ => .i .i64 x.2.2
def dec3 (f : Nat → PV) : Sh := (strOf (f 0), intOfP (f 1), intOfP (f 2))
def covB (L : List Sh) (t : Int) : Bool := L.any fun x => decide (x.2.1 ≤ t) && decide (t < x.2.2)
def mCovered : Mod
  | [.c (.p (.l 3 n f)), .c (.p (.i .i64 t))] => some (IsL enc3 3 (decL dec3 n f) n f ∧ n ≤ 1000000, bV (covB (decL dec3 n f) t))
  | _ => none

theorem dec3_row (L : List Sh) : decL dec3 L.length (rowP enc3 L) = L := decL_row (fun _ => rfl) L
theorem some_pair {p q : Prop} {v u : V} (h : some (p, v) = some (q, u)) : p = q ∧ v = u := by
  injection h with h
  injection h with h1 h2
  exact ⟨h1, h2⟩
section
variable {G : Nat → Option Obj}
end
end Go.AE
