/- AE contracts: slices.Sort at []int. -/
import Derived.Test.YtfjihbmehhccoaaP6
import Derived.Test.YtfjihbmehhccoaaAeE
import Derived.Test.YtfjihbmehhccoaaShelf
namespace Go.AE
set_option linter.unusedVariables false
set_option linter.unusedSimpArgs false
open Go.Proofs Go.Proofs.Ytfjihbmehhccoaa Go.RowKit
def sortI (L : List Int) : List Int := L.mergeSort fun x y => decide (x ≤ y)
theorem sortI_length (L : List Int) : (sortI L).length = L.length := by unfold sortI; exact List.length_mergeSort L
def rowI (L : List Int) (f : Nat → Nat → C) : Prop := ∀ e o, e < L.length → o < 1 → f e o = rowC encI L e o
def mSortI (L : List Int) : ModH
  | [.c (.sl id 1 0 n)], h => match nth .gone h id with
    | .row 3 1 n' f => some (n = L.length ∧ n' = L.length ∧ rowI L f ∧ L.length ≤ 1000000, .t [], upd (.row 3 1 L.length (rowC encI (sortI L))) h id)
    | _ => none
  | _, _ => none
section
variable {G : Nat → Option Obj}
theorem okSortI (L : List Int) : ModHOK Try.prog G 44 (mSortI L) := by
  intro args h p v h' hm hp
  unfold mSortI at hm
  split at hm; rotate_left; · cases hm
  split at hm; rotate_left; · cases hm
  rename_i id n h n' f hid
  obtain ⟨rfl, rfl, rfl⟩ := some_three hm
  obtain ⟨rfl, rfl, hf, hL⟩ := hp
  refine sorted_fn hid hf (sortI_length L) (fun w blk cap hH hb _ => ?_) (fun w p cap _ => ?_)
  · exact Try.slices_Sort_int blk 0 cap L w hH hb (by omega)
  · exact Try.slices_Sort_int_none p cap w
end
end Go.AE
