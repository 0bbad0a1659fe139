/- What the references Truths and Latch answer, and that the latch of any choice lies between the least and the greatest condition. -/
import Derived.Test.YtlaknbcmidjiaaaDoorHyst
namespace Go.Proofs.YtlaknbcmidjiaaaDoor
open Go.RowKit

theorem Tryd.infoBool : (Tryd.prog.info? 4).map (fun i => (i.zero, i.size, i.bytes)) = some (some (.bool false), 1, 1) := by kernel_rfl
/-- What is left of the choice behind k places. -/
def chF (f : Nat → Int) (c : Int) : Nat → Int
  | 0 => c
  | k + 1 => if f k = 1 then chF f c k / 2 else chF f c k
def trF (f : Nat → Int) (c : Int) (k : Nat) : Bool := if f k = 1 then chF f c k % 2 == 1 else f k == 2
def laF (s c : Nat → Bool) : Nat → Bool
  | 0 => false
  | k + 1 => s k || (laF s c k && !c k)
theorem chF_in (f : Nat → Int) (c : Int) (hc : 0 ≤ c ∧ c ≤ 4611686018427387904) (k : Nat) : 0 ≤ chF f c k ∧ chF f c k ≤ 4611686018427387904 := by
  induction k with
  | zero => exact hc
  | succ k ih => unfold chF; split <;> omega
theorem trF_must {f : Nat → Int} {c : Int} {k : Nat} (h : f k = 2) : trF f c k = true := by unfold trF; rw [if_neg (by omega), h]; rfl
theorem trF_cannot {f : Nat → Int} {c : Int} {k : Nat} (h : f k = 0) : trF f c k = false := by unfold trF; rw [if_neg (by omega), h]; rfl
theorem between (f g : Nat → Int) (c d : Int) (k : Nat) : (lowF f g k = true → laF (trF f c) (trF g d) k = true) ∧ (laF (trF f c) (trF g d) k = true → highF f g k = true) := by
  induction k with
  | zero => exact ⟨fun h => h, fun h => h⟩
  | succ k ih =>
    obtain ⟨h1, h2⟩ := ih
    constructor
    · intro h
      simp only [lowF, laF, Bool.or_eq_true, Bool.and_eq_true, Bool.not_eq_true', beq_iff_eq] at h ⊢
      rcases h with h | ⟨ha, hb⟩
      · exact .inl (trF_must h)
      · right
        have : g k = 0 := by simpa using hb
        exact ⟨h1 ha, trF_cannot this⟩
    · intro h
      simp only [highF, laF, Bool.or_eq_true, Bool.and_eq_true, Bool.not_eq_true', bne_iff_ne] at h ⊢
      rcases h with h | ⟨ha, hb⟩
      · left
        intro h0
        rw [trF_cannot h0] at h
        cases h
      · right
        refine ⟨h2 ha, ?_⟩
        rw [beq_eq_false_iff_ne]
        intro h0
        rw [trF_must h0] at hb
        cases hb

set_option maxRecDepth 100000 in
set_option maxHeartbeats 2000000 in
theorem rTruths_any (A : Option Addr) (n c : Nat) (hn : n ≤ 1000000) (f : Nat → Int) (x : Int) (hx : 0 ≤ x ∧ x ≤ 4611686018427387904) (w : World) (hA : Rd w w.heap.size A n fun k => .int .i64 (f k)) :
    Calls Tryd.prog 29 #[.slice A n c, .int .i64 x] w fun e w' => ∃ v, e = .returned v ∧ w'.ownsRow w.heap.size 4 1 v n (vl (fun k => .bool (trF f x k)) n) ∧ Below w.heap.size w w' := by
  obtain ⟨i0, hi, hz0, hz1, hz2⟩ := info_parts Tryd.infoBool
  go_enter Tryd.func29, Tryd.ntmps29
  go_wp2_with fail
  go_loopw [1, 5, 6] (fun ch v i wr => ∃ k : Nat, k ≤ n ∧ i = .int .i64 k ∧ ch = .int .i64 (chF f x k) ∧ wr.ownsRow w.heap.size 4 1 v k (vl (fun k => .bool (trF f x k)) k) ∧ Below w.heap.size w wr) (fun _ _ i _ => n - (intOf i).toNat)
  case atStart => exact ⟨0, Nat.zero_le _, rfl, rfl, World.ownsRow_nil _ _ _ _, Below.refl _ _⟩
  case round =>
    obtain ⟨k, hk, rfl, rfl, hown, hB⟩ := hrel
    by_cases hlt : k < n
    · obtain ⟨ad, rfl, hab, hac⟩ := (hA.below hB).at_ hlt
      have hi0 : (0 : Int) ≤ k := by omega
      have hch := chF_in f x hx k
      have HC := Lib.hid (show chF f x (k + 1) = if f k = 1 then chF f x k / 2 else chF f x k from rfl)
      have HT := Lib.hid (show trF f x k = if f k = 1 then chF f x k % 2 == 1 else f k == 2 from rfl)
      obtain ⟨y, hy⟩ : ∃ y, y = f k := ⟨_, rfl⟩
      obtain ⟨q, hq⟩ : ∃ q, q = chF f x k := ⟨_, rfl⟩
      rw [← hy] at hac HC HT
      rw [← hq] at HC HT hch ⊢
      clear hy hq
      by_cases h1 : y = 1
      · have e1 : (y == 1) = true := by simp [h1]
        have HT2 := Lib.hid (show trF f x k = (q % 2 == 1) by rw [HT.out, if_pos h1])
        have HC2 := Lib.hid (show chF f x (k + 1) = q / 2 by rw [HC.out, if_pos h1])
        clear h1
        go_wp2_with (at_builtin; refine wpList_append_own _ rfl _ _ 45 rfl w.heap.size 4 i0 (.bool false) 1 1 Tryd.underlying45 hi hz0 hz1 hz2 rfl (by decide) _ _ _ rfl (hown.alloc _) ⟨wr.heap.size, 0, none⟩ 1 1 [.bool (q % 2 == 1)] rfl rfl (cell_one_new _ _ _) (by simp [Value.oneCell']) (by unfold maxLen; omega) (by omega) (by have := hB.size; simp; omega) ?_; intro v' w1 hown' hgrow _)
        go_roundw
        case rel => exact ⟨k + 1, by omega, by go_num, by rw [HC2.out], by rw [vl_succ, HT2.out]; exact hown', (hB.alloc hB.size _).grown hgrow (by have := hB.size; simp; omega) (fun k e => (hown.lt k e).1)⟩
        case measure => simp [intOf]; omega
      · have e1 : (y == 1) = false := by simp [h1]
        have HT2 := Lib.hid (show trF f x k = (y == 2) by rw [HT.out, if_neg h1])
        have HC2 := Lib.hid (show chF f x (k + 1) = q by rw [HC.out, if_neg h1])
        clear h1
        go_wp2_with (at_builtin; refine wpList_append_own _ rfl _ _ 45 rfl w.heap.size 4 i0 (.bool false) 1 1 Tryd.underlying45 hi hz0 hz1 hz2 rfl (by decide) _ _ _ rfl (hown.alloc _) ⟨wr.heap.size, 0, none⟩ 1 1 [.bool (y == 2)] rfl rfl (cell_one_new _ _ _) (by simp [Value.oneCell']) (by unfold maxLen; omega) (by omega) (by have := hB.size; simp; omega) ?_; intro v' w1 hown' hgrow _)
        go_roundw
        case rel => exact ⟨k + 1, by omega, by go_num, by rw [HC2.out], by rw [vl_succ, HT2.out]; exact hown', (hB.alloc hB.size _).grown hgrow (by have := hB.size; simp; omega) (fun k e => (hown.lt k e).1)⟩
        case measure => simp [intOf]; omega
    · obtain rfl : k = n := by omega
      go_wp2
      go_ret
      exact ⟨_, rfl, hown, hB⟩

set_option maxRecDepth 100000 in
set_option maxHeartbeats 2000000 in
theorem rLatch_any (A B : Option Addr) (n m c d : Nat) (hn : n ≤ 1000000) (hnm : n ≤ m) (hm : m ≤ 1000000) (s t : Nat → Bool) (w : World) (hA : Rd w w.heap.size A n fun k => .bool (s k)) (hBB : Rd w w.heap.size B m fun k => .bool (t k)) :
    Calls Tryd.prog 28 #[.slice A n c, .slice B m d] w fun e w' => ∃ v, e = .returned v ∧ w'.ownsRow w.heap.size 4 1 v n (vl (fun k => .bool (laF s t (k + 1))) n) ∧ Below w.heap.size w w' := by
  obtain ⟨i0, hi, hz0, hz1, hz2⟩ := info_parts Tryd.infoBool
  go_enter Tryd.func28, Tryd.ntmps28
  go_wp2_with fail
  go_loopw [5, 6, 7] (fun v o i wr => ∃ k : Nat, k ≤ n ∧ i = .int .i64 k ∧ o = .bool (laF s t k) ∧ wr.ownsRow w.heap.size 4 1 v k (vl (fun k => .bool (laF s t (k + 1))) k) ∧ Below w.heap.size w wr) (fun _ _ i _ => n - (intOf i).toNat)
  case atStart => exact ⟨0, Nat.zero_le _, rfl, rfl, World.ownsRow_nil _ _ _ _, Below.refl _ _⟩
  case round =>
    obtain ⟨k, hk, rfl, rfl, hown, hB⟩ := hrel
    by_cases hlt : k < n
    · obtain ⟨ad, rfl, hab, hac⟩ := (hA.below hB).at_ hlt
      obtain ⟨bd, rfl, hbb, hbc⟩ := (hBB.below hB).at_ (show k < m by omega)
      have hi0 : (0 : Int) ≤ k := by omega
      have hi1 : (k : Int) < n := by omega
      have hi2 : (k : Int) < m := by omega
      have HL := Lib.hid (show laF s t (k + 1) = (s k || (laF s t k && !t k)) from rfl)
      obtain ⟨x, hx⟩ : ∃ x, x = s k := ⟨_, rfl⟩
      obtain ⟨y, hy⟩ : ∃ y, y = t k := ⟨_, rfl⟩
      obtain ⟨o, ho⟩ : ∃ o, o = laF s t k := ⟨_, rfl⟩
      rw [← hx] at hac HL
      rw [← hy] at hbc HL
      rw [← ho] at HL ⊢
      clear hx hy ho
      have go_on : ∀ (b : Bool) (v' : Value) (w1 : World), (x || (o && !y)) = b → w1.ownsRow w.heap.size 4 1 v' (k + 1) (vl (fun k => .bool (laF s t (k + 1))) k ++ [.bool b]) → w1.ownsRow w.heap.size 4 1 v' (k + 1) (vl (fun k => .bool (laF s t (k + 1))) (k + 1)) ∧ laF s t (k + 1) = b := by
        intro b v' w1 h1 h2
        have e : laF s t (k + 1) = b := HL.out.trans h1
        exact ⟨by rw [vl_succ, e]; exact h2, e⟩
      have GO := Lib.hid go_on
      clear go_on
      cases x <;> cases o <;> cases y
      all_goals
        go_wp2_with (at_builtin; refine wpList_append_own _ rfl _ _ 45 rfl w.heap.size 4 i0 (.bool false) 1 1 Tryd.underlying45 hi hz0 hz1 hz2 rfl (by decide) _ _ _ rfl (hown.alloc _) ⟨wr.heap.size, 0, none⟩ 1 1 [_] rfl rfl (cell_one_new _ _ _) (by simp [Value.oneCell']) (by unfold maxLen; omega) (by omega) (by have := hB.size; simp; omega) ?_; intro v' w1 hown' hgrow _)
        obtain ⟨r1, r2⟩ := GO.out _ v' w1 rfl hown'
        have R2 := Lib.hid r2
        clear r2
        go_roundw
        case rel => exact ⟨k + 1, by omega, by go_num, by rw [R2.out]; rfl, r1, (hB.alloc hB.size _).grown hgrow (by have := hB.size; simp; omega) (fun k e => (hown.lt k e).1)⟩
        case measure => simp [intOf]; omega
    · obtain rfl : k = n := by omega
      go_wp2
      go_ret
      exact ⟨_, rfl, hown, hB⟩
end Go.Proofs.YtlaknbcmidjiaaaDoor
