/- Keys of the ledger's maps are lawful. -/
import Derived.Test.YtfjihbmehhccoaaP11
namespace Go.AE
set_option linter.unusedVariables false
set_option linter.unusedSimpArgs false
open Go.Proofs Go.Proofs.Ytfjihbmehhccoaa Go.RowKit
section
theorem kInt (d : Nat) (n : Int) (h : inR .i64 n) : (Try.prog).keyLits (d+1) 3 [.int .i64 n] = some [.int .i64 n] := by
  unfold Program.keyLits
  rw [Try.underlying3]
  have : (Lit.int .i64 n).wf = true := by
    unfold inR at h
    have e1 : IntKind.i64.min = -9223372036854775808 := by decide
    have e2 : IntKind.i64.max = 9223372036854775807 := by decide
    simp [Lit.wf, e1, e2]
    exact h
  simp [this]
theorem kStr (d : Nat) (s : ByteArray) (h : s.size ≤ 1000000) : (Try.prog).keyLits (d+1) 9 [.string s] = some [.string s.data.toList] := by
  unfold Program.keyLits
  rw [Try.underlying9]
  have : s.size ≤ maxLen := Nat.le_trans h (by decide)
  simp [this]
theorem c3 : (Try.prog).cellsOf 3 = 1 := by kernel_rfl
theorem c9 : (Try.prog).cellsOf 9 = 1 := by kernel_rfl
theorem c79 : (Try.prog).cellsOf 79 = 3 := by kernel_rfl
theorem c81 : (Try.prog).cellsOf 81 = 4 := by kernel_rfl
theorem k79 : (Try.prog).keyType 79 = true := by kernel_rfl
theorem k81 : (Try.prog).keyType 81 = true := by kernel_rfl
theorem szP : ∃ n, (Try.prog).types.size + 1 = n + 3 := ⟨(Try.prog).types.size + 1 - 3, by
  have : Nat.ble 2 (Try.prog).types.size = true := by kernel_rfl
  have := Nat.le_of_ble_eq_true this
  omega⟩
theorem kGr (d : Nat) (ru tx : ByteArray) (ve : Int) (h1 : ru.size ≤ 1000000) (h2 : inR .i64 ve) (h3 : tx.size ≤ 1000000) : (Try.prog).keyLits (d+2) 79 [.string ru, .int .i64 ve, .string tx] = some [.string ru.data.toList, .int .i64 ve, .string tx.data.toList] := by
  unfold Program.keyLits
  rw [Try.underlying79]
  simp [c79, c3, c9, kInt d ve h2, kStr d ru h1, kStr d tx h3]
theorem okGr_of (ru tx : ByteArray) (ve : Int) (h1 : ru.size ≤ 1000000) (h2 : inR .i64 ve) (h3 : tx.size ≤ 1000000) : okK Try.prog 79 (gKey ru ve tx) = true := by
  obtain ⟨n, hn⟩ := szP
  unfold okK keyOf
  rw [Try.underlying79, hn, k79]
  simp [gKey, Value.formed, Try.underlying79, c79, Value.cells, kGr (n + 1) ru tx ve h1 h2 h3]
theorem okMu_of (ru tx : ByteArray) (ve st : Int) (h1 : ru.size ≤ 1000000) (h2 : inR .i64 ve) (h3 : tx.size ≤ 1000000) (h4 : inR .i64 st) : okK Try.prog 81 (mKey ru ve tx st) = true := by
  obtain ⟨n, hn⟩ := szP
  unfold okK keyOf
  rw [Try.underlying81, hn, k81]
  have e : (Try.prog).keyLits (n + 3) 81 [.string ru, .int .i64 ve, .string tx, .int .i64 st] = some [.string ru.data.toList, .int .i64 ve, .string tx.data.toList, .int .i64 st] := by
    unfold Program.keyLits
    rw [Try.underlying81]
    simp [c79, c3, c81, kInt (n+1) st h4, kGr n ru tx ve h1 h2 h3]
  simp [mKey, Value.formed, Try.underlying81, c81, Value.cells, e]
theorem okIn_of (st : Int) (h4 : inR .i64 st) : okK Try.prog 3 (.int .i64 st) = true := by
  unfold okK keyOf mapKey
  rw [Try.underlying3]
  have : (Lit.int .i64 st).wf = true := by
    unfold inR at h4
    have e1 : IntKind.i64.min = -9223372036854775808 := by decide
    have e2 : IntKind.i64.max = 9223372036854775807 := by decide
    simp [Lit.wf, e1, e2]
    exact h4
  simp [this]
end
end Go.AE
