/- The walk of the law AlertRuns: it returns true and changes nothing that was there. -/
import Derived.Test.YtlaknbcmidjiaaaDoorAlLives
import Derived.Test.YtlaknbcmidjiaaaDoorRuns
import Derived.Test.YtlaknbcmidjiaaaDoorVerd
namespace Go.Proofs.YtlaknbcmidjiaaaDoor
open Go.RowKit

set_option maxRecDepth 100000 in
set_option maxHeartbeats 4000000 in
theorem alertRuns_walk (a : Int) (ha : -9223372036854775808 ≤ a ∧ a ≤ 9223372036854775807) (A : Option Addr) (len cap : Nat) (g : Nat → Int) (hg : ∀ k, -9223372036854775808 ≤ g k ∧ g k ≤ 9223372036854775807) (w : World) (hlc : len ≤ cap) (hcm : cap ≤ maxLen) (hR : Rd w w.heap.size A len fun k => .int .i64 (g k)) (hL : Lev w) :
    Calls Tryd.prog 10 #[.int .i64 a, .slice A len cap] w fun e w' => e = .returned (.bool true) ∧ Below w.heap.size w w' := by
  have hlen : len ≤ 9223372036854775807 := by unfold maxLen at hcm; omega
  have hlt := aroundI_lt a (2 * 1099511627776 + 1) (by omega)
  go_enter Tryd.func10, Tryd.ntmps10
  go_wp2_with fail
  refine (rBound_any a 1099511627776 ha (by omega) _).mono ?_
  rintro e w' ⟨rfl, rfl⟩
  obtain ⟨b, hb⟩ : ∃ b : Int, b = ((aroundI a (2 * 1099511627776 + 1) : Nat) : Int) - ((1099511627776 : Nat) : Int) := ⟨_, rfl⟩
  rw [← hb]
  have hbb : -2199023255552 ≤ b ∧ b ≤ 2199023255552 := by omega
  clear hb hlt
  go_wp2_with fail
  refine (ints_any A len cap 30 hlc hcm (by decide) g _ hR).mono ?_
  rintro e w1 ⟨v1, rfl, hown1, hb1⟩
  obtain ⟨A1, c1, rfl, hc1, hl1, hR1⟩ := Rd.of_ints hown1
  clear hl1 hown1 hc1
  obtain ⟨n, hn⟩ : ∃ n, n = min len 30 := ⟨_, rfl⟩
  rw [← hn] at hR1 ⊢
  have hn30 : n ≤ 30 := by omega
  go_wp2_with fail
  refine (rVerdicts_any A len cap 30 hlen (by decide) g hg _ (hR.next hb1)).mono ?_
  rintro e w2 ⟨v2, rfl, hown2, hb2⟩
  obtain ⟨A2, c2, rfl, hc2, hl2, hR2⟩ := Rd.of_ints hown2
  clear hl2 hown2 hc2
  rw [← hn] at hR2 ⊢
  clear hn
  have b2 := hb1.trans (hb2.mono hb1.size)
  have hR1a := hR1.next hb2
  clear hR1
  obtain ⟨f1, hR1a⟩ : ∃ f1 : Nat → Int, Rd w2 w2.heap.size A1 n fun k => .int .i64 (f1 k) := ⟨_, hR1a⟩
  obtain ⟨f2, hR2⟩ : ∃ f2 : Nat → Int, Rd w2 w2.heap.size A2 n fun k => .int .i64 (f2 k) := ⟨_, hR2⟩
  go_wp2_with fail
  refine (aRuns_any b hbb A1 n c1 (by omega) f1 _ hR1a).mono ?_
  rintro e w3 ⟨v3, rfl, hown3, hb3⟩
  have l1 := runsF_len b f1 n
  have l2 := runsF_len b f2 n
  go_wp2_with fail
  refine (rRuns_any b hbb A1 n c1 (by omega) f1 _ (hR1a.next hb3)).mono ?_
  rintro e w4 ⟨v4, rfl, hown4, hb4⟩
  have hown3' := own_next hown3 hb4
  have b4 := (b2.trans (hb3.mono b2.size)).trans (hb4.mono (Nat.le_trans b2.size hb3.size))
  clear hown3
  go_wp2_with fail
  refine (same_own (by omega) hown3' hown4).mono ?_
  rintro e w5 ⟨rfl, hb5⟩
  have b5 := b4.trans (hb5.mono b4.size)
  have hR2a := (hR2.next hb3).next (hb4.trans (hb5.mono hb4.size))
  clear hown3' hown4 hR1a hR2
  go_wp2_with fail
  refine (aRuns_any b hbb A2 n c2 (by omega) f2 _ hR2a).mono ?_
  rintro e w6 ⟨v6, rfl, hown6, hb6⟩
  have b6 := b5.trans (hb6.mono b5.size)
  go_wp2_with fail
  refine (rRuns_any b hbb A2 n c2 (by omega) f2 _ (hR2a.next hb6)).mono ?_
  rintro e w7 ⟨v7, rfl, hown7, hb7⟩
  have hown6' := own_next hown6 hb7
  have b7 := b6.trans (hb7.mono b6.size)
  clear hown6 hR2a
  go_wp2_with fail
  refine (same_own (by omega) hown6' hown7).mono ?_
  rintro e w8 ⟨rfl, hb8⟩
  have b8 := b7.trans (hb8.mono b7.size)
  clear hown6' hown7
  go_wp2_with fail
  refine (lives_any _ (hL.next b8)).mono ?_
  rintro e w9 ⟨rfl, hb9⟩
  go_wp2
  go_ret
  exact ⟨rfl, b8.trans (hb9.mono b8.size)⟩
end Go.Proofs.YtlaknbcmidjiaaaDoor
