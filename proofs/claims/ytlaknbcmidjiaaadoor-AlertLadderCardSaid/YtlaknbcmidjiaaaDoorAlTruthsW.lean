/- The walk of the law AlertTruths: it returns true and changes nothing that was there. -/
import Derived.Test.YtlaknbcmidjiaaaDoorAlLives
import Derived.Test.YtlaknbcmidjiaaaDoorTruths
import Derived.Test.YtlaknbcmidjiaaaDoorVerd
import Derived.Deep.DeepCutAuto
namespace Go.Proofs.YtlaknbcmidjiaaaDoor
open Go.RowKit

theorem inUp_v (f g : Nat → Int) (hf : ∀ k, 0 ≤ f k ∧ f k ≤ 2) (hg : ∀ k, 0 ≤ g k ∧ g k ≤ 2) (n : Nat) : inUp f g n = true := by
  rw [inUp_iff]
  intro k _
  have h1 := hf k
  have h2 := hg k
  simp [inV]
  omega
theorem gl_v (g : Nat → Int) (n : Nat) : ∀ k : Nat, 0 ≤ (gl (vF g) n)[k]?.getD 0 ∧ (gl (vF g) n)[k]?.getD 0 ≤ 2 := by
  intro k
  by_cases hk : k < n
  · have := vF_in g k
    simp [gl, hk]
    omega
  · simp [gl, List.getElem?_eq_none (show ((List.range n).map (vF g)).length ≤ k by simp; omega)]

set_option maxRecDepth 100000 in
set_option maxHeartbeats 4000000 in
theorem alertTruths_walk (A B : Option Addr) (la ca lb cb : Nat) (g h : Nat → Int) (hg : ∀ k, -9223372036854775808 ≤ g k ∧ g k ≤ 9223372036854775807) (hh : ∀ k, -9223372036854775808 ≤ h k ∧ h k ≤ 9223372036854775807) (x y : Int) (hx : -9223372036854775808 ≤ x ∧ x ≤ 9223372036854775807) (hy : -9223372036854775808 ≤ y ∧ y ≤ 9223372036854775807)
    (w : World) (hla : la ≤ maxLen) (hlb : lb ≤ maxLen) (hA : Rd w w.heap.size A la fun k => .int .i64 (g k)) (hB : Rd w w.heap.size B lb fun k => .int .i64 (h k)) (hL : Lev w) :
    Calls Tryd.prog 7 #[.slice A la ca, .slice B lb cb, .int .i64 x, .int .i64 y] w fun e w' => e = .returned (.bool true) ∧ Below w.heap.size w w' := by
  unfold maxLen at hla hlb
  obtain ⟨N, hN⟩ : ∃ N, N = min (min la lb) 40 := ⟨_, rfl⟩
  have hN1 : N ≤ la := by omega
  have hN2 : N ≤ lb := by omega
  have hN3 : N ≤ 40 := by omega
  go_enter Tryd.func7, Tryd.ntmps7
  go_upto_region 1 with (fail)
  go_cut [9] (fun s wx => s = .int .i64 (N : Int) ∧ wx = w)
  case first =>
    go_wp2_with fail
    all_goals (go_meet; exact ⟨congrArg _ (by omega), rfl⟩)
  case rest =>
    obtain ⟨rfl, rfl⟩ := hcut
    clear hN
    go_wp2_with fail
    refine (rVerdicts_any A la ca N (by omega) (by omega) g hg _ hA).mono ?_
    rintro e w1 ⟨v1, rfl, hown1, hb1⟩
    rw [show min la N = N by omega] at hown1
    obtain ⟨A1, c1, rfl, hc1, hl1, hR1⟩ := Rd.of_ints hown1
    clear hl1 hown1 hc1
    go_wp2_with fail
    refine (rVerdicts_any B lb cb N (by omega) (by omega) h hh _ (hB.next hb1)).mono ?_
    rintro e w2 ⟨v2, rfl, hown2, hb2⟩
    rw [show min lb N = N by omega] at hown2
    obtain ⟨A2, c2, rfl, hc2, hl2, hR2⟩ := Rd.of_ints hown2
    clear hl2 hown2 hc2
    have b2 := hb1.trans (hb2.mono hb1.size)
    have hR1a := hR1.next hb2
    clear hR1
    obtain ⟨f1, hf1, hR1a⟩ : ∃ f1 : Nat → Int, (∀ k, 0 ≤ f1 k ∧ f1 k ≤ 2) ∧ Rd w2 w2.heap.size A1 N fun k => .int .i64 (f1 k) := ⟨_, gl_v g N, hR1a⟩
    obtain ⟨f2, hf2, hR2⟩ : ∃ f2 : Nat → Int, (∀ k, 0 ≤ f2 k ∧ f2 k ≤ 2) ∧ Rd w2 w2.heap.size A2 N fun k => .int .i64 (f2 k) := ⟨_, gl_v h N, hR2⟩
    have HIN := Lib.hid (inUp_v f1 f2 hf1 hf2 N)
    go_wp2_with fail
    refine (aHyst_any A1 A2 N N c1 c2 (by omega) (by omega) f1 f2 _ hR1a hR2).mono ?_
    rintro e w3 ⟨v3, rfl, hown3, hb3⟩
    rw [show min N N = N by omega, hystL, if_pos HIN.out, gl_length] at hown3
    obtain ⟨A3, c3, rfl, hc3, hl3, hR3⟩ := Rd.of_ints hown3
    have b3 := b2.trans (hb3.mono b2.size)
    have hR1b := hR1a.next hb3
    have hR2b := hR2.next hb3
    clear hl3 hown3 hc3 hR1a hR2
    go_wp2_with fail
    refine (around_any x 4611686018427387904 hx (by omega) (by omega) _).mono ?_
    rintro e w' ⟨rfl, rfl⟩
    have hxl := aroundI_lt x 4611686018427387904 (by omega)
    obtain ⟨p, hp⟩ : ∃ p, p = aroundI x 4611686018427387904 := ⟨_, rfl⟩
    rw [← hp] at hxl ⊢
    clear hp
    go_wp2_with fail
    refine (rTruths_any A1 N c1 (by omega) f1 p (by omega) _ hR1b).mono ?_
    rintro e w4 ⟨v4, rfl, hown4, hb4⟩
    have b4 := b3.trans (hb4.mono b3.size)
    obtain ⟨A4, c4, rfl, hc4, hc4m, hR4⟩ := Rd.of_vl (size := 1) (by simpa using hown4)
    have hR2c := hR2b.next hb4
    have hR3c := hR3.next hb4
    clear hown4 hR2b hR1b hR3
    go_wp2_with fail
    refine (around_any y 4611686018427387904 hy (by omega) (by omega) _).mono ?_
    rintro e w' ⟨rfl, rfl⟩
    have hyl := aroundI_lt y 4611686018427387904 (by omega)
    obtain ⟨q, hq⟩ : ∃ q, q = aroundI y 4611686018427387904 := ⟨_, rfl⟩
    rw [← hq] at hyl ⊢
    clear hq
    go_wp2_with fail
    refine (rTruths_any A2 N c2 (by omega) f2 q (by omega) _ hR2c).mono ?_
    rintro e w5 ⟨v5, rfl, hown5, hb5⟩
    have b5 := b4.trans (hb5.mono b4.size)
    obtain ⟨A5, c5, rfl, hc5, hc5m, hR5⟩ := Rd.of_vl (size := 1) (by simpa using hown5)
    have hR4d := hR4.next hb5
    have hR3d := hR3c.next hb5
    clear hown5 hR2c hR3c hR4
    rw [Nat.mul_one] at hR4d hR5
    go_wp2_with fail
    refine (rLatch_any A4 A5 N N c4 c5 (by omega) (by omega) (by omega) _ _ _ hR4d hR5).mono ?_
    rintro e w6 ⟨v6, rfl, hown6, hb6⟩
    have b6 := b5.trans (hb6.mono b5.size)
    obtain ⟨A6, c6, rfl, hc6, hc6m, hR6⟩ := Rd.of_vl (size := 1) (by simpa using hown6)
    have hR3e := hR3d.next hb6
    rw [Nat.mul_one] at hR6
    clear hown6 hR3d hR4d hR5
    have hbet : ∀ k, k < N → ((gl (vdF f1 f2) N)[k]?.getD 0 = 2 → laF (trF f1 p) (trF f2 q) (k + 1) = true) ∧ ((gl (vdF f1 f2) N)[k]?.getD 0 = 0 → laF (trF f1 p) (trF f2 q) (k + 1) = false) := by
      intro k hk
      obtain ⟨h1, h2⟩ := between f1 f2 p q (k + 1)
      have e : (gl (vdF f1 f2) N)[k]?.getD 0 = vdF f1 f2 k := by simp [gl, hk]
      rw [e]
      unfold vdF
      by_cases hlo : lowF f1 f2 (k + 1) = true
      · rw [if_pos hlo]
        exact ⟨fun _ => h1 hlo, fun h => absurd h (by decide)⟩
      · rw [if_neg hlo]
        by_cases hhi : highF f1 f2 (k + 1) = true
        · rw [if_pos hhi]
          exact ⟨fun h => absurd h (by decide), fun h => absurd h (by decide)⟩
        · rw [if_neg hhi]
          refine ⟨fun h => absurd h (by decide), fun _ => ?_⟩
          rw [← Bool.not_eq_true]
          exact fun h => hhi (h2 h)
    have HBET := Lib.hid hbet
    clear hbet
    go_wp2_with fail
    go_loopw [14] (fun i wr => ∃ k : Nat, k ≤ N ∧ i = .int .i64 k ∧ Below w6.heap.size w6 wr) (fun i _ => N - (intOf i).toNat)
    case atStart => exact ⟨0, Nat.zero_le _, rfl, Below.refl _ _⟩
    case round =>
      obtain ⟨k, hk, rfl, hBr⟩ := hrel
      by_cases hlt : k < N
      · obtain ⟨ad, rfl, hab, hac⟩ := (hR3e.below hBr).at_ hlt
        obtain ⟨bd, rfl, hbb, hbc⟩ := (hR6.below hBr).at_ hlt
        have hi0 : (0 : Int) ≤ k := by omega
        have hi1 : (k : Int) < N := by omega
        obtain ⟨t1, t2⟩ := HBET.out k hlt
        obtain ⟨vv, hvv⟩ : ∃ vv, vv = (gl (vdF f1 f2) N)[k]?.getD 0 := ⟨_, rfl⟩
        obtain ⟨oo, hoo⟩ : ∃ oo, oo = laF (trF f1 p) (trF f2 q) (k + 1) := ⟨_, rfl⟩
        rw [← hvv] at hac t1 t2
        rw [← hoo] at hbc t1 t2
        clear hvv hoo
        by_cases g2 : vv = 2
        · obtain rfl := t1 g2
          have e2 : (vv == 2) = true := by simp [g2]
          have e0 : (vv == 0) = false := by simp; omega
          clear g2 t1 t2
          go_wp2
          go_roundw
          case rel => exact ⟨k + 1, by omega, by go_num, hBr⟩
          case measure => simp [intOf]; omega
        · have e2 : (vv == 2) = false := by simp [g2]
          by_cases g0 : vv = 0
          · obtain rfl := t2 g0
            have e0 : (vv == 0) = true := by simp [g0]
            clear g2 g0 t1 t2
            go_wp2
            go_roundw
            case rel => exact ⟨k + 1, by omega, by go_num, hBr⟩
            case measure => simp [intOf]; omega
          · have e0 : (vv == 0) = false := by simp [g0]
            clear g2 g0 t1 t2
            go_wp2
            go_roundw
            case rel => exact ⟨k + 1, by omega, by go_num, hBr⟩
            case measure => simp [intOf]; omega
      · obtain rfl : k = N := by omega
        have b7 := b6.trans (hBr.mono b6.size)
        go_wp2_with fail
        refine (lives_any _ (hL.next b7)).mono ?_
        rintro e w8 ⟨rfl, hb8⟩
        go_wp2
        go_ret
        exact ⟨rfl, b7.trans (hb8.mono b7.size)⟩
end Go.Proofs.YtlaknbcmidjiaaaDoor
