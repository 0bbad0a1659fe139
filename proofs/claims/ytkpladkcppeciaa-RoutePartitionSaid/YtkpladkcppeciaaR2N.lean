/- AE contracts: ref05.Name. -/
import Derived.Test.YtkpladkcppeciaaR1
import Derived.Test.YtkpladkcppeciaaAeC
import Derived.Test.YtkpladkcppeciaaLblN
namespace Go.AE
set_option linter.unusedVariables false
set_option linter.unusedSimpArgs false
open Go.Proofs Go.Proofs.Ytkpladkcppeciaa

def mName : Mod
  | [.c (.p (.s s))] => some (True, bV (nameB s))
  | _ => none
theorem byteAt_bt (s : ByteArray) (k : Nat) : byteAt s k = PlainAid.bt s k := by
  unfold byteAt PlainAid.bt
  split
  · rename_i h
    have h' : k < s.data.toList.length := by simpa using h
    rw [List.getD_eq_getElem?_getD, List.getElem?_eq_getElem h']
    simp [ByteArray.getElem_eq_getElem_data]
  · rename_i h
    have h' : s.data.toList.length ≤ k := by simpa using h
    rw [List.getD_eq_getElem?_getD, List.getElem?_eq_none h']
    rfl
section
variable {G : Nat → Option Obj}
theorem okc_iff (k : Nat) (c : Int) : okc k c = true ↔ (97 ≤ c ∧ c ≤ 122) ∨ (k ≠ 0 ∧ (c = 95 ∨ (48 ≤ c ∧ c ≤ 57))) := by simp [okc]
theorem letterB_iff (c : Int) : letterB c = true ↔ 97 ≤ c ∧ c ≤ 122 := by simp [letterB]
end
end Go.AE
