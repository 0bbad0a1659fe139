/- What hash.groups yields over a byte slice, for every slice shorter than 2^47. -/
import Derived.Test.YtjogcpjfkjepcaaProg
import Derived.Test.YtjogcpjfkjepcaaHashLib
import Derived.RangeFuncNested
import Derived.RangeFuncBound
import Derived.RangeFuncCalls
import Derived.RangeFuncLeaves
import Derived.Shelf.Abstract
import Derived.Shelf.RegionOpen
import Derived.WalkKit
import Derived.OwnWalkIn
import Derived.TacticsInMore
import Derived.LoopNIn
import Derived.LoopIn
import Derived.Lib.Hide
import Derived.Test.YtjogcpjfkjepcaaWords
import Derived.Test.YtjogcpjfkjepcaaHash
namespace Go.Proofs.Ytjogcpjfkjepcaa
open Go.RowKit Go.Shelf
attribute [local go_sem] Oper.semAt_some

set_option maxRecDepth 100000 in
set_option maxHeartbeats 2000000 in
theorem grpB1_in (F : Fence) (n : Nat) (h6 : F.fn 30) (hro : F.round = none) (hn : 1 ≤ n) (l Bn n₀ : Nat) (A : Option Addr) (len cap : Nat) (g : Nat → Int) (hg : Byt g) (hs : len ≤ 140737488351232) (J Jx : List Int → World → Prop)
    (hY : ∀ pre x W, J pre W → pre.length < (len + 7) / 8 → YieldAt F (n - 1) Try.prog l #[.int .u64 x] W fun e W' =>
      (e = .returned (.bool true) ∧ J (pre ++ [x]) W' ∧ KpB Bn n₀ W W') ∨ (e = .returned (.bool false) ∧ Jx (pre ++ [x]) W'))
    (W : World) (hBn : W.cell? ⟨Bn, 0, none⟩ = some (.slice A len cap)) (hR0 : Rd W n₀ A len fun k => .int .u8 (g k)) (h0 : J [] W) :
    CallsIn F n Try.prog 30 #[.func (.yield l) #[] #[], .pointer (some ⟨Bn, 0, none⟩)] W fun e W' => (∃ v, e = .returned v) ∧
      ((∃ ys, ys = wordsF (g) len ((len + 7) / 8) ∧ J ys W') ∨ (∃ pre, (∃ k, k ≤ (len + 7) / 8 ∧ pre = wordsF (g) len k) ∧ Jx pre W')) := by

  refine callsIn_of_wp Try.func30 rfl h6 ?_ hro
  simp only [Try.ntmps30, List.size_toArray, List.length_cons, List.length_nil, Nat.reduceAdd, Nat.reduceSub, Array.replicate_succ, Array.replicate_zero, List.push_toArray, List.append_toArray, List.nil_append, List.cons_append]
  gi_wp2
  gi_loopw [3] (fun i wr => ∃ k : Nat, k ≤ (len + 7) / 8 ∧ i = .int .i64 (8 * (k : Int)) ∧ J (wordsF (g) len k) wr ∧ KpB Bn n₀ W wr) (fun i _ => len + 8 - (intOf i).toNat)
  case atStart => exact ⟨0, Nat.zero_le _, rfl, h0, KpB.refl _⟩
  case round =>
    obtain ⟨k, hk, rfl, hJs, hnx⟩ := hrel
    have hcx : wr.cell? ⟨Bn, 0, none⟩ = some (.slice A len cap) := hnx.2.trans hBn
    by_cases hlt : 8 * k < len
    · have hdec : decide (8 * (k : Int) < (len : Int)) = true := by simp; omega
      gi_wp2
      gi_loopw [4, 5] (fun x j wq => ∃ m : Nat, m ≤ min 8 (len - 8 * k) ∧ j = .int .i64 (8 * (k : Int) + (m : Int)) ∧ x = .int .u64 (wdF (g) (8 * k) m) ∧ wq = wr) (fun _ j _ => len + 8 - (intOf j).toNat)
      case atStart => exact ⟨0, Nat.zero_le _, rfl, rfl, rfl⟩
      case round =>
        obtain ⟨m, hm, rfl, rfl, rfl⟩ := hrel
        by_cases hlm : m < min 8 (len - 8 * k)
        · have h8 : m < 8 := by omega
          have h9 : 8 * k + m < len := by omega
          obtain ⟨ad, hA, hab, hac⟩ := (hR0.below hnx.1).at_ h9
          subst hA
          have hor := Lib.hid (or_step (hg) (8 * k) m h8)
          gi_wp2
          go_roundw
          case rel => exact ⟨m + 1, by omega, by go_num, by rw [← hor.out], trivial⟩
          case measure => simp [intOf]; omega
        · have HM := Lib.hid (show m = min 8 (len - 8 * k) by omega)
          obtain ⟨fn, tmps, assign, body, hy, hR⟩ := hY _ (wdF (g) (8 * k) m) wr hJs (by rw [wordsF_length]; omega)
          by_cases h10 : 8 * k + m < len
          · have h10' : 8 * (k : Int) + (m : Int) < (len : Int) := by omega
            have h9' : 8 ≤ (m : Int) := by omega
            gi_wp2
            refine hR.mono ?_
            rintro e W3 (⟨rfl, hJ3, hk3⟩ | ⟨rfl, hJx3⟩)
            · gi_wp2
              go_roundw
              case rel => exact ⟨k + 1, by omega, by go_num, by rw [wordsF_succ, ← HM.out]; exact hJ3, kpB_t hnx hk3⟩
              case measure => simp [intOf]; omega
            · gi_wp2
              refine bodyPost_ret (results_none rfl _ _ _) rfl ?_
              exact ⟨⟨_, rfl⟩, .inr ⟨_, ⟨k + 1, by omega, by rw [wordsF_succ, ← HM.out]⟩, hJx3⟩⟩
          · have h9' : (len : Int) ≤ 8 * (k : Int) + (m : Int) := by omega
            gi_wp2
            refine hR.mono ?_
            rintro e W3 (⟨rfl, hJ3, hk3⟩ | ⟨rfl, hJx3⟩)
            · gi_wp2
              go_roundw
              case rel => exact ⟨k + 1, by omega, by go_num, by rw [wordsF_succ, ← HM.out]; exact hJ3, kpB_t hnx hk3⟩
              case measure => simp [intOf]; omega
            · gi_wp2
              refine bodyPost_ret (results_none rfl _ _ _) rfl ?_
              exact ⟨⟨_, rfl⟩, .inr ⟨_, ⟨k + 1, by omega, by rw [wordsF_succ, ← HM.out]⟩, hJx3⟩⟩
    · obtain rfl : k = (len + 7) / 8 := by omega
      gi_wp2
      go_end0
      exact ⟨⟨_, rfl⟩, .inl ⟨_, rfl, hJs⟩⟩

set_option maxHeartbeats 1000000 in
theorem grpB_in (F : Fence) (n : Nat) (h5 : F.fn 28) (hro : F.round = none) (A : Option Addr) (len cap : Nat) (w : World) :
    CallsIn F n Try.prog 28 #[.slice A len cap] w fun e w' => e = .returned (.func (.func 30) #[] #[.pointer (some ⟨w.heap.size, 0, none⟩)]) ∧ w' = w.alloc (.cells #[.slice A len cap] 30) := by
  refine callsIn_of_wp Try.func28 rfl h5 ?_ hro
  simp only [Try.ntmps28, List.size_toArray, List.length_cons, List.length_nil, Nat.reduceAdd, Nat.reduceSub, Array.replicate_succ, Array.replicate_zero, List.push_toArray, List.append_toArray, List.nil_append, List.cons_append]
  gi_wp2
  go_ret
  exact ⟨rfl, rfl⟩

theorem grpB_stops (F : Fence) (n : Nat) (h7 : F.fn 30) (hro : F.round = none) (hn : 1 ≤ n) (Bs n₀ : Nat) (A : Option Addr) (len cap : Nat) (g : Nat → Int) (hg : Byt g) (hs : len ≤ 140737488351232) (w : World) (hBs : Bs < w.heap.size)
    (hn₀ : n₀ ≤ w.heap.size) (hR0 : Rd w n₀ A len fun k => .int .u8 (g k)) (hc : w.cell? ⟨Bs, 0, none⟩ = some (.slice A len cap)) :
    SeqStopsK F n Try.prog 30 #[.pointer (some ⟨Bs, 0, none⟩)] (fun x : Int => #[Value.int .u64 x]) (KpB Bs n₀) (fun ys => ys = wordsF (g) len ((len + 7) / 8))
      (fun pre => ∃ k, k ≤ (len + 7) / 8 ∧ pre = wordsF (g) len k) ((len + 7) / 8) w := fun l J Jx W hW _ _ hY h0 => by
  have hc' := (hW.cell (p := ⟨Bs, 0, none⟩) hBs).trans hc
  exact grpB1_in F n h7 hro hn l Bs n₀ A len cap g hg hs J Jx hY W hc' (hR0.below (hW.mono hn₀)) h0


end Go.Proofs.Ytjogcpjfkjepcaa
