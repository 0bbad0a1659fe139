/- What the reference helpers Bound and Verdicts answer. -/
import Derived.Test.YtlaknbcmidjiaaaDoorRef01
namespace Go.Proofs.YtlaknbcmidjiaaaDoor
open Go.RowKit

set_option maxHeartbeats 1000000 in
theorem rBound_any (n : Int) (m : Nat) (hn : -9223372036854775808 ≤ n ∧ n ≤ 9223372036854775807) (hm : m ≤ 2305843009213693951) (w : World) :
    Calls Tryd.prog 32 #[.int .i64 n, .int .i64 m] w fun e w' => e = .returned (.int .i64 ((aroundI n (2 * m + 1) : Nat) - (m : Int))) ∧ w = w' := by
  have hlt := aroundI_lt n (2 * m + 1) (by omega)
  go_enter Tryd.func32, Tryd.ntmps32
  go_wp2_with fail
  refine (around_any n (2 * m + 1) hn (by omega) (by omega) _).mono ?_
  rintro e w' ⟨rfl, rfl⟩
  obtain ⟨k, hk⟩ : ∃ k, k = aroundI n (2 * m + 1) := ⟨_, rfl⟩
  rw [← hk] at hlt ⊢
  have HK := Lib.hid hk
  clear hk
  go_wp2
  go_ret
  exact ⟨ret_int (by rw [← HK.out]), rfl⟩

/-- The verdict of a number. -/
def vF (g : Nat → Int) (k : Nat) : Int := (aroundI (g k) 3 : Nat)
theorem vF_in (g : Nat → Int) (k : Nat) : 0 ≤ vF g k ∧ vF g k ≤ 2 := by
  have := aroundI_lt (g k) 3 (by omega)
  unfold vF
  omega
theorem around_v (g : Nat → Int) (k : Nat) (hg : -9223372036854775808 ≤ g k ∧ g k ≤ 9223372036854775807) (w : World) :
    Calls Tryd.prog 27 #[.int .i64 (g k), .int .i64 3] w fun e w' => e = .returned (.int .i64 (vF g k)) ∧ w = w' := around_any (g k) 3 hg (by omega) (by omega) w

set_option maxRecDepth 100000 in
set_option maxHeartbeats 2000000 in
theorem rVerdicts_any (A : Option Addr) (len cap m : Nat) (hlen : len ≤ 9223372036854775807) (hm : m ≤ 1000) (g : Nat → Int) (hg : ∀ k, -9223372036854775808 ≤ g k ∧ g k ≤ 9223372036854775807) (w : World) (hR : Rd w w.heap.size A len fun k => .int .i64 (g k)) :
    Calls Tryd.prog 23 #[.slice A len cap, .int .i64 m] w fun e w' => ∃ v, e = .returned v ∧ w'.ownsRow w.heap.size 3 1 v (min len m) ((gl (vF g) (min len m)).map (Value.int .i64)) ∧ Below w.heap.size w w' := by
  obtain ⟨i0, hi, hz0, hz1, hz2⟩ := info_parts Tryd.infoInt
  obtain ⟨N, hN⟩ : ∃ N, N = min len m := ⟨_, rfl⟩
  rw [← hN]
  go_enter Tryd.func23, Tryd.ntmps23
  go_wp2_with fail
  go_loopw [5, 6] (fun v i wr => ∃ k : Nat, k ≤ N ∧ i = .int .i64 k ∧ wr.ownsRow w.heap.size 3 1 v k ((gl (vF g) k).map (Value.int .i64)) ∧ Below w.heap.size w wr) (fun _ i _ => N - (intOf i).toNat)
  case atStart => exact ⟨0, Nat.zero_le _, rfl, World.ownsRow_nil _ _ _ _, Below.refl _ _⟩
  case round =>
    obtain ⟨k, hk, rfl, hown, hB⟩ := hrel
    by_cases hlt : k < N
    · obtain ⟨ad, rfl, hab, hac⟩ := (hR.below hB).at_ (show k < len by omega)
      have h1 : (k : Int) < len := by omega
      have h2 : (k : Int) < m := by omega
      clear hN
      go_wp2_with (first
        | (go_at_call 27; refine (around_v g k (hg k) _).mono ?_; rintro e w' ⟨rfl, rfl⟩)
        | (at_builtin; refine wpList_append_own _ rfl _ _ 22 rfl w.heap.size 3 i0 (.int .i64 0) 1 8 Tryd.underlying22 hi hz0 hz1 hz2 rfl (by decide) _ _ _ rfl (hown.alloc _) ⟨wr.heap.size, 0, none⟩ 1 1 [.int .i64 (vF g k)] rfl rfl (cell_one_new _ _ _) (by simp [Value.oneCell']) (by unfold maxLen; omega) (by omega) (by have := hB.size; simp; omega) ?_; intro v' w1 hown' hgrow _))
      go_roundw
      case rel => exact ⟨k + 1, by omega, by go_num, by rw [gl_succ, List.map_append]; exact hown', (hB.alloc hB.size _).grown hgrow (by have := hB.size; simp; omega) (fun k e => (hown.lt k e).1)⟩
      case measure => simp [intOf]; omega
    · obtain rfl : k = N := by omega
      by_cases hl : k < len
      · have h1 : (k : Int) < len := by omega
        have h2 : (m : Int) ≤ k := by omega
        clear hN
        go_wp2
        go_ret
        exact ⟨_, rfl, hown, hB⟩
      · have h1 : (len : Int) ≤ k := by omega
        clear hN
        go_wp2
        go_ret
        exact ⟨_, rfl, hown, hB⟩
end Go.Proofs.YtlaknbcmidjiaaaDoor
