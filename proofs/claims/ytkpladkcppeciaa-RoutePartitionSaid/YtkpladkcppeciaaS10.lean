/- AE contracts: ref29.Acyclic, ref29.Any. -/
import Derived.Test.YtkpladkcppeciaaS9
namespace Go.AE
open Go.Proofs Go.Proofs.Ytkpladkcppeciaa
set_option linter.unusedVariables false
set_option linter.unusedSimpArgs false
def acStep (N t n : Int) (E : List Ed) : List Ed :=
  if n % N = n / N % N then E else
    if ((min (n % N) (n / N % N) + t) % N, (max (n % N) (n / N % N) + t) % N) ∈ E then E else E ++ [((min (n % N) (n / N % N) + t) % N, (max (n % N) (n / N % N) + t) % N)]
def acN (L : List Int) : Int := pickZ L 0 9
def acE (L : List Int) : Nat → List Ed
  | 0 => []
  | k + 1 => acStep (acN L) (pickZ L 1 8) (pickZ L ((k : Int) + 2) 10000) (acE L k)
def acK (L : List Int) : Nat := if 1 < acN L then min (L.length - 2) 12 else 0
def acG (L : List Int) : List Ed := acE L (acK L)
def anyE (L : List Int) : List Ed :=
  if pickZ L (L.length - 1) 1000 % 3 = 0 then acG L ++ [(pickZ L (L.length - 1) 1000 / 3 % 9 - 1, pickZ L (L.length - 1) 1000 / 27 % 10 - 1)]
  else if pickZ L (L.length - 1) 1000 % 3 = 1 ∧ 0 < (acG L).length then
    acG L ++ [if pickZ L (L.length - 1) 1000 % 2 = 1 then (((acG L).getD (pickZ L (L.length - 1) 1000 / 3 % (acG L).length).toNat default).2, ((acG L).getD (pickZ L (L.length - 1) 1000 / 3 % (acG L).length).toNat default).1) else (acG L).getD (pickZ L (L.length - 1) 1000 / 3 % (acG L).length).toNat default]
  else acG L
def mAcyclic : Mod
  | [.c (.p (.l 1 n f))] => some (IsL encI 1 (decL decI n f) n f ∧ Ints (decL decI n f), gZ (acN (decL decI n f)) (acG (decL decI n f)))
  | _ => none
def mAcyclicH : ModH
  | [.c (.p (.l 1 n f))], h => some (IsL encI 1 (decL decI n f) n f ∧ Ints (decL decI n f), .a [.p (.i .i64 (acN (decL decI n f))), .sl (lenL h) 2 0 (acG (decL decI n f)).length], snoc (.row 49 2 (acG (decL decI n f)).length fun e o => .p (rowP encE (acG (decL decI n f)) e o)) h)
  | _, _ => none
def mAny : Mod
  | [.c (.p (.l 1 n f))] => some ((IsL encI 1 (decL decI n f) n f ∧ Ints (decL decI n f)) ∧ n ≤ 9223372036854775807, gZ (acN (decL decI n f)) (anyE (decL decI n f)))
  | _ => none
def extP : Ext := extOf [(14, mPick)]
theorem aroundZ_range {n m : Int} (hm : 0 < m) : 0 ≤ aroundZ n m ∧ aroundZ n m < m := ⟨Int.emod_nonneg _ (by omega), Int.emod_lt_of_pos _ hm⟩
theorem pickZ_range (L : List Int) (i : Int) {m : Int} (hm : 0 < m) : 0 ≤ pickZ L i m ∧ pickZ L i m < m := by
  unfold pickZ
  split
  · omega
  · exact aroundZ_range hm
theorem acE_length (L : List Int) : ∀ k, (acE L k).length ≤ k
  | 0 => Nat.le_refl _
  | k + 1 => by
    have := acE_length L k
    unfold acE acStep
    split
    · omega
    · split
      · omega
      · simp; omega
theorem acG_length (L : List Int) : (acG L).length ≤ 12 := by
  refine Nat.le_trans (acE_length L _) ?_
  unfold acK
  split <;> omega
theorem edge_one (a b : Int) : ∀ e o : Nat, e < 1 → o < 2 → oneC (nth C.top [C.p (PV.i .i64 a), C.p (PV.i .i64 b)] ((e + 0) * 2 + o)) = true := by
  intro e o he ho
  obtain rfl : e = 0 := by omega
  have ho' : o = 0 ∨ o = 1 := by omega
  rcases ho' with rfl | rfl <;> rfl
theorem edge_at (a b : Int) : ∀ o : Nat, o < 2 → (fun e o : Nat => nth C.top [C.p (PV.i .i64 a), C.p (PV.i .i64 b)] ((e + 0) * 2 + o)) 0 o = .p (encE (a, b) o) := by
  intro o ho
  have ho' : o = 0 ∨ o = 1 := by omega
  rcases ho' with rfl | rfl <;> rfl
theorem if_min (a b : Int) : (if b < a then b else a) = min a b := by rw [Int.min_def]; split <;> split <;> omega
theorem if_max (a b : Int) : (if a < b then b else a) = max a b := by rw [Int.max_def]; split <;> split <;> omega
theorem mem_take_succ {E : List Ed} {k : Nat} (hk : k < E.length) {x : Ed} : x ∈ E.take (k + 1) ↔ x ∈ E.take k ∨ E.getD k default = x := by
  have e : E.getD k default = E[k] := by rw [List.getD_eq_getElem?_getD, List.getElem?_eq_getElem hk]; rfl
  rw [List.take_add_one, List.getElem?_eq_getElem hk, e, List.mem_append]
  simp only [Option.toList, List.mem_singleton, eq_comm]
section
variable {G : Nat → Option Obj}
theorem extP_sound : SoundExt Try.prog G extP := extOf_sound (by simp; exact okPick)
end
end Go.AE
