/- Contracts of the references of package hash. -/
import Derived.Test.YtjogcpjfkjepcaaHashC
import Derived.WalkSpells
import Derived.WalkLawsBesides
namespace Go.Proofs.Ytjogcpjfkjepcaa
open Go.RowKit

theorem Try.infoByte : (Try.prog.info? 5).map (fun i => (i.zero, i.size, i.bytes)) = some (some (.int .u8 0), 1, 1) := by kernel_rfl
theorem Try.infoU64 : (Try.prog.info? 25).map (fun i => (i.zero, i.size, i.bytes)) = some (some (.int .u64 0), 1, 8) := by kernel_rfl

theorem vl_int (q : IntKind) (g : Nat → Int) (n : Nat) : vl (fun k => .int q (g k)) n = (gl g n).map (Value.int q) := by simp [vl, gl]
theorem ret_int {k : IntKind} {a b : Int} (h : a = b) : Ending.returned (.int k a) = .returned (.int k b) := by rw [h]
/-- The first m bytes. -/
def shortB (s : ByteArray) (m : Nat) : ByteArray := if m < s.size then s.extract 0 m else s
theorem shortB_size (s : ByteArray) (m : Nat) : (shortB s m).size ≤ m := by
  unfold shortB
  split
  · simp; omega
  · omega
set_option maxHeartbeats 400000 in
theorem short_any (s : ByteArray) (m : Nat) (hm : m ≤ 1000) (w : World) :
    Calls Try.prog 11 #[.string s, .int .i64 m] w fun e w' => e = .returned (.string (shortB s m)) ∧ w = w' := by
  by_cases h : m < s.size
  · go_enter Try.func11, Try.ntmps11
    go_wp2
    go_ret
    exact ⟨by unfold shortB; rw [if_pos h]; rfl, rfl⟩
  · go_enter Try.func11, Try.ntmps11
    go_wp2
    go_ret
    exact ⟨by unfold shortB; rw [if_neg h]; rfl, rfl⟩

set_option maxHeartbeats 400000 in
theorem ints_any (A : Option Addr) (len cap m : Nat) (hlc : len ≤ cap) (hlen : cap ≤ maxLen) (hm : m ≤ 1000) (g : Nat → Int) (w : World) (hR : Rd w w.heap.size A len fun k => .int .i64 (g k)) :
    Calls Try.prog 12 #[.slice A len cap, .int .i64 m] w fun e w' => ∃ v, e = .returned v ∧ w'.ownsRow w.heap.size 3 1 v (min len m) ((gl g (min len m)).map (Value.int .i64)) ∧ Below w.heap.size w w' := by
  unfold maxLen at hlen
  obtain ⟨i0, hi, hz0, hz1, hz2⟩ := info_parts Try.infoInt
  by_cases h : len ≤ m
  · obtain hmin : min len m = len := by omega
    have HM := Lib.hid hmin
    clear hmin
    go_enter Try.func12, Try.ntmps12
    go_wp2_with (at_builtin; refine wpList_append_rd _ rfl (.tmp 6) (.tmp 12) 22 rfl w.heap.size 3 i0 (.int .i64 0) 8 Try.underlying22 hi hz0 hz1 hz2 rfl (.slice none 0 0) 0 [] rfl (World.ownsRow_nil _ _ _ _) w.heap.size A len cap (fun k => .int .i64 (g k)) rfl hR (fun _ => rfl) (by unfold maxLen; omega) (by omega) (Nat.le_refl _) ?_; intro v' w1 hown' hgrow hat hnil)
    go_ret
    refine ⟨v', rfl, ?_, (Below.refl _ _).grown hgrow (Nat.le_refl _) (fun k e => by cases e)⟩
    try rw [HM.out]
    rw [vl_int] at hown'
    simpa using hown'
  · obtain hmin : min len m = m := by omega
    have HM := Lib.hid hmin
    clear hmin
    go_enter Try.func12, Try.ntmps12
    go_wp2_with (at_builtin; refine wpList_append_rd _ rfl (.tmp 6) (.tmp 12) 22 rfl w.heap.size 3 i0 (.int .i64 0) 8 Try.underlying22 hi hz0 hz1 hz2 rfl (.slice none 0 0) 0 [] rfl (World.ownsRow_nil _ _ _ _) w.heap.size A m cap (fun k => .int .i64 (g k)) rfl (hR.take (by omega)) (fun _ => rfl) (by unfold maxLen; omega) (by omega) (Nat.le_refl _) ?_; intro v' w1 hown' hgrow hat hnil)
    go_ret
    refine ⟨v', rfl, ?_, (Below.refl _ _).grown hgrow (Nat.le_refl _) (fun k e => by cases e)⟩
    try rw [HM.out]
    rw [vl_int] at hown'
    simpa using hown'
set_option maxHeartbeats 400000 in
theorem few_any (A : Option Addr) (len cap m : Nat) (hlc : len ≤ cap) (hlen : cap ≤ maxLen) (hm : m ≤ 1000) (g : Nat → Int) (w : World) (hR : Rd w w.heap.size A len fun k => .int .u8 (g k)) :
    Calls Try.prog 16 #[.slice A len cap, .int .i64 m] w fun e w' => ∃ v, e = .returned v ∧ w'.ownsRow w.heap.size 5 1 v (min len m) ((gl g (min len m)).map (Value.int .u8)) ∧ Below w.heap.size w w' := by
  unfold maxLen at hlen
  obtain ⟨i0, hi, hz0, hz1, hz2⟩ := info_parts Try.infoByte
  by_cases h : len ≤ m
  · obtain hmin : min len m = len := by omega
    have HM := Lib.hid hmin
    clear hmin
    go_enter Try.func16, Try.ntmps16
    go_wp2_with (at_builtin; refine wpList_append_rd _ rfl (.tmp 6) (.tmp 12) 30 rfl w.heap.size 5 i0 (.int .u8 0) 1 Try.underlying30 hi hz0 hz1 hz2 rfl (.slice none 0 0) 0 [] rfl (World.ownsRow_nil _ _ _ _) w.heap.size A len cap (fun k => .int .u8 (g k)) rfl hR (fun _ => rfl) (by unfold maxLen; omega) (by omega) (Nat.le_refl _) ?_; intro v' w1 hown' hgrow hat hnil)
    go_ret
    refine ⟨v', rfl, ?_, (Below.refl _ _).grown hgrow (Nat.le_refl _) (fun k e => by cases e)⟩
    try rw [HM.out]
    rw [vl_int] at hown'
    simpa using hown'
  · obtain hmin : min len m = m := by omega
    have HM := Lib.hid hmin
    clear hmin
    go_enter Try.func16, Try.ntmps16
    go_wp2_with (at_builtin; refine wpList_append_rd _ rfl (.tmp 6) (.tmp 12) 30 rfl w.heap.size 5 i0 (.int .u8 0) 1 Try.underlying30 hi hz0 hz1 hz2 rfl (.slice none 0 0) 0 [] rfl (World.ownsRow_nil _ _ _ _) w.heap.size A m cap (fun k => .int .u8 (g k)) rfl (hR.take (by omega)) (fun _ => rfl) (by unfold maxLen; omega) (by omega) (Nat.le_refl _) ?_; intro v' w1 hown' hgrow hat hnil)
    go_ret
    refine ⟨v', rfl, ?_, (Below.refl _ _).grown hgrow (Nat.le_refl _) (fun k e => by cases e)⟩
    try rw [HM.out]
    rw [vl_int] at hown'
    simpa using hown'

/-- n modulo m, never negative. -/
def aroundI (n : Int) (m : Nat) : Nat := ((if n < 0 then -(n + 1) else n) % m).toNat
theorem aroundI_lt (n : Int) (m : Nat) (hm : 0 < m) : aroundI n m < m := by
  unfold aroundI
  have h1 := Int.emod_nonneg (if n < 0 then -(n + 1) else n) (show (m : Int) ≠ 0 by omega)
  have h2 := Int.emod_lt_of_pos (if n < 0 then -(n + 1) else n) (show (0 : Int) < m by omega)
  omega
set_option maxHeartbeats 400000 in
theorem around_any (n : Int) (m : Nat) (hn : -9223372036854775808 ≤ n ∧ n ≤ 9223372036854775807) (hm : 0 < m) (hm2 : m ≤ 1000000) (w : World) :
    Calls Try.prog 21 #[.int .i64 n, .int .i64 m] w fun e w' => e = .returned (.int .i64 (aroundI n m)) ∧ w = w' := by
  have e : ((aroundI n m : Nat) : Int) = (if n < 0 then -(n + 1) else n) % m := by
    unfold aroundI
    have h1 := Int.emod_nonneg (if n < 0 then -(n + 1) else n) (show (m : Int) ≠ 0 by omega)
    omega
  rw [e]
  clear e
  have hm0 : ((m : Int) == 0) = false := by simp; omega
  by_cases h : n < 0
  · rw [if_pos h]
    go_enter Try.func21, Try.ntmps21
    go_wp2
    go_ret
    exact ⟨ret_int (by rw [← Int.neg_tmod, Int.tmod_eq_emod_of_nonneg (by omega)]), rfl⟩
  · rw [if_neg h]
    have h' : 0 ≤ n := by omega
    go_enter Try.func21, Try.ntmps21
    go_wp2
    go_ret
    exact ⟨rfl, rfl⟩

/-- Horner's number of the m bytes from i on. -/
def hor (g : Nat → Int) : Nat → Nat → Int
  | _, 0 => 0
  | i, m + 1 => 256 * hor g (i + 1) m + g i
theorem hor_eq (g : Nat → Int) (i m : Nat) : hor g i m = wdF g i m := by
  have key : ∀ m i, wdF g i (m + 1) = 256 * wdF g (i + 1) m + g i := by
    intro m
    induction m with
    | zero => intro i; simp [wdF]
    | succ m ih =>
      intro i
      rw [wdF, ih, wdF, Int.pow_succ, show i + 1 + m = i + (m + 1) by omega]
      rw [Int.mul_add, Int.mul_comm (256 ^ m) 256, ← Int.mul_assoc, ← Int.mul_assoc, Int.mul_comm (g (i + (m + 1))) 256]
      omega
  induction m generalizing i with
  | zero => simp [hor, wdF]
  | succ m ih => rw [hor, key, ih]

set_option maxHeartbeats 2000000 in
theorem words_any (A : Option Addr) (len cap : Nat) (hlen : len ≤ 1000000) (g : Nat → Int) (hg : Byt g) (w : World) (hR : Rd w w.heap.size A len fun k => .int .u8 (g k)) :
    Calls Try.prog 23 #[.slice A len cap] w fun e w' => ∃ v, e = .returned v ∧ w'.ownsRow w.heap.size 25 1 v ((len + 7) / 8) ((wordsF g len ((len + 7) / 8)).map (Value.int .u64)) ∧ Below w.heap.size w w' := by
  obtain ⟨i0, hi, hz0, hz1, hz2⟩ := info_parts Try.infoU64
  go_enter Try.func23, Try.ntmps23
  go_wp2
  go_loopw [3, 4] (fun v i wr => ∃ k : Nat, k ≤ (len + 7) / 8 ∧ i = .int .i64 (8 * (k : Int)) ∧ wr.ownsRow w.heap.size 25 1 v k ((wordsF g len k).map (Value.int .u64)) ∧ Below w.heap.size w wr) (fun _ i _ => len + 8 - (intOf i).toNat)
  case atStart => exact ⟨0, Nat.zero_le _, rfl, World.ownsRow_nil _ _ _ _, Below.refl _ _⟩
  case round =>
    obtain ⟨k, hk, rfl, hown, hB⟩ := hrel
    by_cases hlt : 8 * k < len
    · have hdec : decide (8 * (k : Int) < (len : Int)) = true := by simp; omega
      obtain ⟨M, hM⟩ : ∃ M, M = min 8 (len - 8 * k) := ⟨_, rfl⟩
      have hM8 : M ≤ 8 := by omega
      have hM1 : 8 * k + M ≤ len := by omega
      have hM2 : 8 * k + M = len ∨ M = 8 := by omega
      have HM := Lib.hid hM
      clear hM
      have HM2 := Lib.hid hM2
      clear hM2
      by_cases h8 : 8 * k + 8 ≤ len
      all_goals
        go_wp2
        go_loop [5, 6] (fun x i => ∃ j : Nat, j ≤ M ∧ i = .int .i64 (8 * (k : Int) + (j : Int) - 1) ∧ x = .int .u64 (hor g (8 * k + j) (M - j))) (fun _ i => ((intOf i) + 1 - 8 * k).toNat)
        case atStart => exact ⟨M, Nat.le_refl _, by have := HM2.out; have e : (M : Int) = 8 ∨ (8 * (k : Int) + M = len) := (by omega); first | (rw [show (M : Int) = 8 by omega]) | (rw [show 8 * (k : Int) + (M : Int) = len by omega]), by rw [Nat.sub_self]; rfl⟩
        case round =>
          obtain ⟨j, hj, rfl, rfl⟩ := hrel
          by_cases hj0 : j = 0
          · subst hj0
            go_wp2_with (at_builtin; refine wpList_append_own _ rfl _ _ 40 rfl w.heap.size 25 i0 (.int .u64 0) 1 8 Try.underlying40 hi hz0 hz1 hz2 rfl (by decide) _ _ _ rfl (hown.alloc _) ⟨wr.heap.size, 0, none⟩ 1 1 [.int .u64 (hor g (8 * k) M)] rfl rfl (cell_one_new _ _ _) (by simp [Value.oneCell']) (by unfold maxLen; omega) (by omega) (by have := hB.size; simp; omega) ?_; intro v' w1 hown' hgrow _)
            go_roundw
            case rel => exact ⟨k + 1, by omega, by go_num, by rw [wordsF_succ, ← HM.out, ← hor_eq]; simpa using hown', (hB.alloc hB.size _).grown hgrow (by have := hB.size; simp; omega) (fun k e => (hown.lt k e).1)⟩
            case measure => simp [intOf]; omega
          · obtain ⟨j, rfl⟩ : ∃ j', j = j' + 1 := ⟨j - 1, by omega⟩
            clear hj0
            obtain ⟨ad, rfl, hab, hac⟩ := (hR.below hB).at_ (show 8 * k + j < len by omega)
            have hh : hor g (8 * k + j) (M - j) = 256 * hor g (8 * k + (j + 1)) (M - (j + 1)) + g (8 * k + j) := by
              rw [show M - j = (M - (j + 1)) + 1 by omega]; rfl
            have HH := Lib.hid hh
            clear hh
            have b1 := wdF_u64 hg (8 * k + j) (M - j) (by omega)
            rw [← hor_eq] at b1
            have b2 := wdF_u64 hg (8 * k + (j + 1)) (M - (j + 1)) (by omega)
            rw [← hor_eq] at b2
            have b3 := hg (8 * k + j)
            have e1 : IntKind.u64.wrap (256 * hor g (8 * k + (j + 1)) (M - (j + 1))) = 256 * hor g (8 * k + (j + 1)) (M - (j + 1)) := IntWalk.u64_in _ (by have := HH.out; omega)
            have E1 := Lib.hid e1
            clear e1
            go_wp2
            go_round
            case rel => exact ⟨j, by omega, by go_num, by rw [E1.out, ← HH.out, IntWalk.u64_in _ b1]⟩
            case measure => simp [intOf]; omega
    · obtain rfl : k = (len + 7) / 8 := by omega
      go_wp2
      go_ret
      exact ⟨_, rfl, hown, hB⟩
end Go.Proofs.Ytjogcpjfkjepcaa
