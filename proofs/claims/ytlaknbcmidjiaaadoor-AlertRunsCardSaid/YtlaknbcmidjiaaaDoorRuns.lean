/- What alert.Runs and its reference answer, for every first tick up to 2^41 and every list shorter than a million. -/
import Derived.Test.YtlaknbcmidjiaaaDoorHyst
namespace Go.Proofs.YtlaknbcmidjiaaaDoor
open Go.RowKit

def runsF (a : Int) (f : Nat → Int) : Nat → List Int
  | 0 => []
  | k + 1 => runsF a f k ++ if f k = 2 ∧ (k = 0 ∨ f (k - 1) ≠ 2) then [a + k] else []
theorem runsF_len (a : Int) (f : Nat → Int) (k : Nat) : (runsF a f k).length ≤ k := by
  induction k with
  | zero => simp [runsF]
  | succ k ih => unfold runsF; split <;> simp <;> omega
theorem runsF_yes {a : Int} {f : Nat → Int} {k : Nat} (h : f k = 2 ∧ (k = 0 ∨ f (k - 1) ≠ 2)) : runsF a f (k + 1) = runsF a f k ++ [a + k] := by rw [runsF, if_pos h]
theorem runsF_no {a : Int} {f : Nat → Int} {k : Nat} (h : ¬ (f k = 2 ∧ (k = 0 ∨ f (k - 1) ≠ 2))) : runsF a f (k + 1) = runsF a f k := by rw [runsF, if_neg h, List.append_nil]

set_option maxRecDepth 100000 in
set_option maxHeartbeats 2000000 in
theorem aRuns_any (a : Int) (ha : -2199023255552 ≤ a ∧ a ≤ 2199023255552) (A : Option Addr) (n c : Nat) (hn : n ≤ 1000000) (f : Nat → Int) (w : World) (hA : Rd w w.heap.size A n fun k => .int .i64 (f k)) :
    Calls Tryd.prog 34 #[.int .i64 a, .slice A n c] w fun e w' => ∃ v, e = .returned v ∧ w'.ownsRow w.heap.size 3 1 v (runsF a f n).length ((runsF a f n).map (Value.int .i64)) ∧ Below w.heap.size w w' := by
  obtain ⟨i0, hi, hz0, hz1, hz2⟩ := info_parts Tryd.infoInt
  go_enter Tryd.func34, Tryd.ntmps34
  go_wp2_with fail
  go_loopw [5, 10] (fun v i wr => ∃ k : Nat, k ≤ n ∧ i = .int .i64 k ∧ wr.ownsRow w.heap.size 3 1 v (runsF a f k).length ((runsF a f k).map (Value.int .i64)) ∧ Below w.heap.size w wr) (fun _ i _ => n - (intOf i).toNat)
  case atStart => exact ⟨0, Nat.zero_le _, rfl, World.ownsRow_nil _ _ _ _, Below.refl _ _⟩
  case round =>
    obtain ⟨k, hk, rfl, hown, hB⟩ := hrel
    have hlen := runsF_len a f k
    obtain ⟨m, hm⟩ : ∃ m, m = (runsF a f k).length := ⟨_, rfl⟩
    rw [← hm] at hown hlen
    have HM := Lib.hid hm
    clear hm
    by_cases hlt : k < n
    · obtain ⟨ad, hA1, hab, hac⟩ := (hA.below hB).at_ hlt
      have hi0 : (0 : Int) ≤ k := by omega
      have hsm : IntKind.i64.wrap (a + k) = a + k := IntWalk.i64_in _ (by omega)
      obtain ⟨x, hx⟩ : ∃ x, x = f k := ⟨_, rfl⟩
      rw [← hx] at hac
      have HX := Lib.hid hx
      clear hx
      by_cases h2 : x = 2
      · by_cases h0 : k = 0
        · have HY := Lib.hid (runsF_yes (a := a) (f := f) (k := k) ⟨by rw [← HX.out]; exact h2, .inl h0⟩)
          have e0 : ((k : Int) == 0) = true := by simp; omega
          have e1 : (x == 2) = true := by simp [h2]
          subst hA1
          clear h2 h0
          go_wp2_with (at_builtin; refine wpList_append_own _ rfl _ _ 22 rfl w.heap.size 3 i0 (.int .i64 0) 1 8 Tryd.underlying22 hi hz0 hz1 hz2 rfl (by decide) _ _ _ rfl (hown.alloc _) ⟨wr.heap.size, 0, none⟩ 1 1 [.int .i64 (a + k)] rfl rfl (cell_one_new _ _ _) (by simp [Value.oneCell']) (by unfold maxLen; omega) (by omega) (by have := hB.size; simp; omega) ?_; intro v' w1 hown' hgrow _)
          go_roundw
          case rel => exact ⟨k + 1, by omega, by go_num, by rw [HY.out, List.length_append, ← HM.out, List.map_append]; exact hown', (hB.alloc hB.size _).grown hgrow (by have := hB.size; simp; omega) (fun k e => (hown.lt k e).1)⟩
          case measure => simp [intOf]; omega
        · have e0 : ((k : Int) == 0) = false := by simp; omega
          have e1 : (x == 2) = true := by simp [h2]
          obtain ⟨ad', hA2, _, hac2⟩ := (hA.below hB).at_ (show k - 1 < n by omega)
          subst hA1
          obtain rfl : ad = ad' := by injection hA2
          obtain ⟨y, hy⟩ : ∃ y, y = f (k - 1) := ⟨_, rfl⟩
          rw [← hy] at hac2
          have HYY := Lib.hid hy
          have hk1 : (0 : Int) ≤ (k : Int) - 1 := by omega
          have hk2 : (k : Int) - 1 < n := by omega
          have hk3 : ((k : Int) - 1).toNat = k - 1 := by omega
          have hk5 : (1 : Int) ≤ k := by omega
          clear hy hA2
          by_cases h3 : y = 2
          · have HN := Lib.hid (runsF_no (a := a) (f := f) (k := k) (fun h => by rcases h.2 with h' | h'; exact h0 h'; exact h' (by rw [← HYY.out]; exact h3)))
            have e3 : (y != 2) = false := by simp [h3]
            clear h2 h0 h3
            go_wp2
            go_roundw
            case rel => exact ⟨k + 1, by omega, by go_num, by rw [HN.out, ← HM.out]; exact hown, hB⟩
            case measure => simp [intOf]; omega
          · have HY := Lib.hid (runsF_yes (a := a) (f := f) (k := k) ⟨by rw [← HX.out]; exact h2, .inr (by rw [← HYY.out]; exact h3)⟩)
            have e3 : (y != 2) = true := by simp [h3]
            clear h2 h0 h3
            go_wp2_with (at_builtin; refine wpList_append_own _ rfl _ _ 22 rfl w.heap.size 3 i0 (.int .i64 0) 1 8 Tryd.underlying22 hi hz0 hz1 hz2 rfl (by decide) _ _ _ rfl (hown.alloc _) ⟨wr.heap.size, 0, none⟩ 1 1 [.int .i64 (a + k)] rfl rfl (cell_one_new _ _ _) (by simp [Value.oneCell']) (by unfold maxLen; omega) (by omega) (by have := hB.size; simp; omega) ?_; intro v' w1 hown' hgrow _)
            go_roundw
            case rel => exact ⟨k + 1, by omega, by go_num, by rw [HY.out, List.length_append, ← HM.out, List.map_append]; exact hown', (hB.alloc hB.size _).grown hgrow (by have := hB.size; simp; omega) (fun k e => (hown.lt k e).1)⟩
            case measure => simp [intOf]; omega
      · have HN := Lib.hid (runsF_no (a := a) (f := f) (k := k) (fun h => h2 (by rw [HX.out]; exact h.1)))
        have e1 : (x == 2) = false := by simp [h2]
        subst hA1
        clear h2
        go_wp2
        go_roundw
        case rel => exact ⟨k + 1, by omega, by go_num, by rw [HN.out, ← HM.out]; exact hown, hB⟩
        case measure => simp [intOf]; omega
    · obtain rfl : k = n := by omega
      go_wp2
      go_ret
      exact ⟨_, rfl, by rw [← HM.out]; exact hown, hB⟩

set_option maxRecDepth 100000 in
set_option maxHeartbeats 2000000 in
theorem rRuns_any (a : Int) (ha : -2199023255552 ≤ a ∧ a ≤ 2199023255552) (A : Option Addr) (n c : Nat) (hn : n ≤ 1000000) (f : Nat → Int) (w : World) (hA : Rd w w.heap.size A n fun k => .int .i64 (f k)) :
    Calls Tryd.prog 35 #[.int .i64 a, .slice A n c] w fun e w' => ∃ v, e = .returned v ∧ w'.ownsRow w.heap.size 3 1 v (runsF a f n).length ((runsF a f n).map (Value.int .i64)) ∧ Below w.heap.size w w' := by
  obtain ⟨i0, hi, hz0, hz1, hz2⟩ := info_parts Tryd.infoInt
  go_enter Tryd.func35, Tryd.ntmps35
  go_wp2_with fail
  go_loopw [5, 6, 7] (fun v b i wr => ∃ k : Nat, k ≤ n ∧ i = .int .i64 k ∧ b = .bool (decide (k ≠ 0) && (f (k - 1) == 2)) ∧ wr.ownsRow w.heap.size 3 1 v (runsF a f k).length ((runsF a f k).map (Value.int .i64)) ∧ Below w.heap.size w wr) (fun _ _ i _ => n - (intOf i).toNat)
  case atStart => exact ⟨0, Nat.zero_le _, rfl, rfl, World.ownsRow_nil _ _ _ _, Below.refl _ _⟩
  case round =>
    obtain ⟨k, hk, rfl, hb, hown, hB⟩ := hrel
    obtain ⟨bb, hbb⟩ : ∃ bb, bb = (decide (k ≠ 0) && (f (k - 1) == 2)) := ⟨_, rfl⟩
    rw [← hbb] at hb
    have HBB := Lib.hid hbb
    subst hb
    clear hbb
    have hlen := runsF_len a f k
    obtain ⟨m, hm⟩ : ∃ m, m = (runsF a f k).length := ⟨_, rfl⟩
    rw [← hm] at hown hlen
    have HM := Lib.hid hm
    clear hm
    by_cases hlt : k < n
    · obtain ⟨ad, rfl, hab, hac⟩ := (hA.below hB).at_ hlt
      have hi0 : (0 : Int) ≤ k := by omega
      have hsm : IntKind.i64.wrap (a + k) = a + k := IntWalk.i64_in _ (by omega)
      obtain ⟨x, hx⟩ : ∃ x, x = f k := ⟨_, rfl⟩
      rw [← hx] at hac
      have HX := Lib.hid hx
      clear hx
      by_cases h2 : x = 2
      · have e1 : (x == 2) = true := by simp [h2]
        have HN1 := Lib.hid (show (decide (k + 1 ≠ 0) && (f (k + 1 - 1) == 2)) = true by rw [show k + 1 - 1 = k by omega, ← HX.out, e1]; simp)
        cases bb
        · have HY := Lib.hid (runsF_yes (a := a) (f := f) (k := k) ⟨by rw [← HX.out]; exact h2, by
            have h := HBB.out
            by_cases h0 : k = 0
            · exact .inl h0
            · right
              intro h4
              rw [decide_eq_true h0, h4] at h
              cases h⟩)
          clear h2
          go_wp2_with (at_builtin; refine wpList_append_own _ rfl _ _ 22 rfl w.heap.size 3 i0 (.int .i64 0) 1 8 Tryd.underlying22 hi hz0 hz1 hz2 rfl (by decide) _ _ _ rfl (hown.alloc _) ⟨wr.heap.size, 0, none⟩ 1 1 [.int .i64 (a + k)] rfl rfl (cell_one_new _ _ _) (by simp [Value.oneCell']) (by unfold maxLen; omega) (by omega) (by have := hB.size; simp; omega) ?_; intro v' w1 hown' hgrow _)
          go_roundw
          case rel => exact ⟨k + 1, by omega, by go_num, by rw [HN1.out], by rw [HY.out, List.length_append, ← HM.out, List.map_append]; exact hown', (hB.alloc hB.size _).grown hgrow (by have := hB.size; simp; omega) (fun k e => (hown.lt k e).1)⟩
          case measure => simp [intOf]; omega
        · have HN := Lib.hid (runsF_no (a := a) (f := f) (k := k) (fun h => by
            have h5 := HBB.out
            rcases h.2 with h' | h'
            · rw [decide_eq_false (by simpa using h')] at h5; cases h5
            · have h7 : (f (k - 1) == 2) = false := by simp [h']
              rw [h7, Bool.and_false] at h5; cases h5))
          clear h2
          go_wp2
          go_roundw
          case rel => exact ⟨k + 1, by omega, by go_num, by rw [HN1.out], by rw [HN.out, ← HM.out]; exact hown, hB⟩
          case measure => simp [intOf]; omega
      · have HN := Lib.hid (runsF_no (a := a) (f := f) (k := k) (fun h => h2 (by rw [HX.out]; exact h.1)))
        have e1 : (x == 2) = false := by simp [h2]
        have HN1 := Lib.hid (show (decide (k + 1 ≠ 0) && (f (k + 1 - 1) == 2)) = false by rw [show k + 1 - 1 = k by omega, ← HX.out, e1]; simp)
        clear h2
        go_wp2
        go_roundw
        case rel => exact ⟨k + 1, by omega, by go_num, by rw [HN1.out], by rw [HN.out, ← HM.out]; exact hown, hB⟩
        case measure => simp [intOf]; omega
    · obtain rfl : k = n := by omega
      go_wp2
      go_ret
      exact ⟨_, rfl, by rw [← HM.out]; exact hown, hB⟩
end Go.Proofs.YtlaknbcmidjiaaaDoor
