/- AE, part 41: a model with blocks, called with owned rows that are gone behind the call. -/
import Derived.Test.YtfjihbmehhccoaaAe28
namespace Go.AE
set_option linter.unusedVariables false
set_option linter.unusedSimpArgs false
open Go.RowKit
section
variable {P : Program} {G : Nat → Option Obj}
def frzMH (m : ModH) : List Nat → ModH
  | [], args, h => m args h
  | id :: r, args, h => match nth .gone h id with
    | .row _ sz n f => match frzMH m r (args.map (fzV id f)) (upd .gone h id) with
      | some (p, v, h') => some ((conVs id sz n args ∧ ∀ e o, e < n → o < sz → isF (f e o) = true) ∧ p, v, h')
      | none => none
    | _ => none
def frzAH (m : ModH) : ModH := fun args h => frzMH m (slVs args).eraseDups args h
theorem frzMH_ok {fn : FuncId} {m : ModH} (hm : ModHOK P G fn m) : ∀ ids, ModHOK P G fn (frzMH m ids)
  | [] => hm
  | id :: r => by
    intro args h p v h' he hp
    unfold frzMH at he
    split at he
    · rename_i ty sz n f hid
      split at he
      · rename_i p' v' h2 hq
        injection he with he
        injection he with e1 he
        injection he with e2 e3
        subst e1; subst e2; subst e3
        obtain ⟨⟨hc, hf⟩, hp⟩ := hp
        intro β R w vs ha hh
        obtain ⟨β', R', k1, k2, k3, k4⟩ := frz_core hh hid hf
        have ih := frzMH_ok hm r _ _ _ _ _ hq hp β' R' w vs (fzVs_ok k2.keeps k4 hc ha) k1
        refine ih.mono ?_
        rintro e w' ⟨u, β2, R2, x, h3, q1, q2, q3, q4, q5, q6⟩
        refine ⟨u, β2, R2, x, h3, q1, q2, q3, q4, k2.trans q5, fun i hi => ?_⟩
        rw [q6 i (by rw [upd_eq, List.length_set]; exact hi), k3 i]
      · cases he
    · cases he
theorem frzAH_ok {fn : FuncId} {m : ModH} (hm : ModHOK P G fn m) : ModHOK P G fn (frzAH m) := fun args h => frzMH_ok hm _ args h
end
end Go.AE
