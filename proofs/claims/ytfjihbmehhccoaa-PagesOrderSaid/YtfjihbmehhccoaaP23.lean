/- From the kit's frame of a law to the walk: slices of integers that came in. -/
import Derived.Test.YtfjihbmehhccoaaP22
import Derived.OpenShut
namespace Go.AE
set_option linter.unusedVariables false
set_option linter.unusedSimpArgs false
open Go.Proofs Go.Proofs.Ytfjihbmehhccoaa Go.RowKit
theorem wf_in {x : Int} (h : (Lit.int .i64 x).wf = true) : inR .i64 x := by
  have := bounds_i64 h
  exact ⟨this.1, this.2⟩
theorem row_vr {w : World} {a : Option Addr} {len cap : Nat} {zs : List Int} (h : (a = none ∧ len = 0 ∧ cap = 0 ∧ zs = []) ∨
  ∃ x : Addr, a = some x ∧ len ≤ cap ∧ cap ≤ maxLen ∧ zs.length = cap ∧ (∀ i, i < zs.length → w.cell? (x.add i) = some (.int .i64 (zs.getD i 0))) ∧ ∀ n ∈ zs, (Lit.int .i64 n).wf = true) :
    ∃ L, (∀ t ∈ L, inR .i64 t) ∧ L.length ≤ 9223372036854775807 ∧ VR Bt.nil (fun b => b < w.heap.size) w (listV encI 1 L) (.slice a len cap) := by
  rcases h with ⟨rfl, rfl, rfl, rfl⟩ | ⟨x, rfl, h1, h2, h3, h4, h5⟩
  · exact ⟨[], (fun x hx => by cases hx), Nat.zero_le _, none, 0, rfl, Nat.le_refl _, Nat.zero_le _, fun h => absurd h (Nat.lt_irrefl 0)⟩
  · have hl : (zs.take len).length = len := by rw [List.length_take]; omega
    refine ⟨zs.take len, fun y hy => wf_in (h5 y (List.mem_of_mem_take hy)), by rw [hl]; simp only [maxLen] at h2; omega, some x, cap, by rw [hl], by rw [hl]; exact h1, h2, fun hn => ?_⟩
    rw [hl] at hn
    refine ⟨x, rfl, ?_, fun e o he ho => ?_⟩
    · have := World.block_lt_of_cell? w _ (h4 0 (by omega))
      rwa [addr_block] at this
    · rw [hl] at he
      obtain rfl : o = 0 := by omega
      refine ⟨_, h4 (e * 1 + 0) (by omega), ?_⟩
      show Value.int .i64 (zs.getD (e * 1 + 0) 0) = Value.int .i64 ((zs.take len).getD e default)
      simp [he]
end Go.AE
