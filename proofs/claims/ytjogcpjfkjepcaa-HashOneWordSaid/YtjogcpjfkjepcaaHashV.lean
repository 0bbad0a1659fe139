/- The walks of the laws HashPairs, HashArguments and HashGroups: each returns true and changes nothing that was there. -/
import Derived.Test.YtjogcpjfkjepcaaHashW
namespace Go.Proofs.Ytjogcpjfkjepcaa
open Go.RowKit

theorem toI_u64 {a b : Int} (ha : U64 a) (hb : U64 b) : u64 (toI a) = u64 (toI b) ↔ a = b := by rw [u64_toI ha, u64_toI hb]
set_option maxHeartbeats 2000000 in
theorem hashPairs_walk (a b c : Int) (ha : U64 a) (hb : U64 b) (w : World) :
    Calls Try.prog 9 #[.int .u64 a, .int .u64 b, .int .u64 c] w fun e w' => e = .returned (.bool true) ∧ Below w.heap.size w w' := by
  have n1 : ((sumS ⟨#[112, 97, 105, 114]⟩ [toI a, toI c] == sumS ⟨#[112, 97, 105, 114]⟩ [toI b, toI c]) == (a == b)) = true := by
    rw [beq_iff_eq, Bool.eq_iff_iff, beq_iff_eq, beq_iff_eq]
    exact (sumS_one _ [] [toI c] (toI a) (toI b)).trans (toI_u64 ha hb)
  have n2 : ((sumS ⟨#[112, 97, 105, 114]⟩ [toI c, toI a] == sumS ⟨#[112, 97, 105, 114]⟩ [toI c, toI b]) == (a == b)) = true := by
    rw [beq_iff_eq, Bool.eq_iff_iff, beq_iff_eq, beq_iff_eq]
    exact (sumS_one _ [toI c] [] (toI a) (toI b)).trans (toI_u64 ha hb)
  have N1 := Lib.hid n1
  have N2 := Lib.hid n2
  clear n1 n2
  go_enter Try.func9, Try.ntmps9
  go_wp2_with fail
  refine (pairS_any a c _).mono ?_
  rintro e w1 ⟨rfl, hb1⟩
  go_wp2_with fail
  refine (pairS_any b c _).mono ?_
  rintro e w2 ⟨rfl, hb2⟩
  have n1 := N1.out
  go_wp2_with fail
  refine (pairS_any c a _).mono ?_
  rintro e w3 ⟨rfl, hb3⟩
  go_wp2_with fail
  refine (pairS_any c b _).mono ?_
  rintro e w4 ⟨rfl, hb4⟩
  clear n1
  have n2 := N2.out
  go_wp2_with fail
  refine (pairS_any a b _).mono ?_
  rintro e w5 ⟨rfl, hb5⟩
  clear n2
  go_wp2_with fail
  refine (sum_lit _ (by decide) [toI a, toI b] (by simp) w5).mono ?_
  rintro e w6 ⟨rfl, hb6⟩
  go_wp2_with fail
  refine (lives_any _).mono ?_
  rintro e w7 ⟨rfl, hb7⟩
  go_wp2
  go_ret
  have b2 := hb1.trans (hb2.mono hb1.size)
  have b3 := b2.trans (hb3.mono b2.size)
  have b4 := b3.trans (hb4.mono b3.size)
  have b5 := b4.trans (hb5.mono b4.size)
  have b6 := b5.trans (hb6.mono b5.size)
  exact ⟨rfl, b6.trans (hb7.mono b6.size)⟩

theorem agreeB_refl (f : Nat → Int) (n : Nat) : agreeB f f n = true := (agreeB_iff f f n).2 fun _ _ => rfl
set_option maxHeartbeats 2000000 in
theorem hashArguments_walk (A B : Option Addr) (len cap len2 cap2 : Nat) (g h : Nat → Int) (hh : Byt h) (w : World) (hlc : len ≤ cap) (hcm : cap ≤ maxLen) (hlc2 : len2 ≤ cap2) (hcm2 : cap2 ≤ maxLen) (hR : Rd w w.heap.size A len fun k => .int .i64 (g k)) (hR2 : Rd w w.heap.size B len2 fun k => .int .u8 (h k)) :
    Calls Try.prog 10 #[.slice A len cap, .slice B len2 cap2] w fun e w' => e = .returned (.bool true) ∧ Below w.heap.size w w' := by
  go_enter Try.func10, Try.ntmps10
  go_wp2_with fail
  refine (ints_any A len cap 10 hlc hcm (by decide) g _ hR).mono ?_
  rintro e w1 ⟨v1, rfl, hown1, hb1⟩
  obtain ⟨A1, c1, rfl, hc1, hl1, hR1⟩ := Rd.of_ints hown1
  clear hl1 hown1 hc1
  obtain ⟨n, hn⟩ : ∃ n, n = min len 10 := ⟨_, rfl⟩
  rw [← hn] at hR1 ⊢
  have hn12 : n ≤ 10 := by omega
  have HN := Lib.hid hn
  clear hn
  go_wp2_with fail
  refine (few_any B len2 cap2 30 hlc2 hcm2 (by decide) h _ (hR2.next hb1)).mono ?_
  rintro e w2 ⟨v2, rfl, hown2, hb2⟩
  obtain ⟨A2, c2, rfl, hc2, hl2, hR3⟩ := Rd.of_ints hown2
  clear hl2 hown2 hc2
  obtain ⟨m, hm⟩ : ∃ m, m = min len2 30 := ⟨_, rfl⟩
  rw [← hm] at hR3 ⊢
  have hm12 : m ≤ 30 := by omega
  have HM := Lib.hid hm
  clear hm
  have b2 := hb1.trans (hb2.mono hb1.size)
  have hR1a := hR1.next hb2
  clear hR1
  go_wp2_with fail
  refine (sumS_any _ (by decide) A1 n c1 (by omega) _ _ hR1a).mono ?_
  rintro e w3 ⟨rfl, hb3⟩
  have b3 := b2.trans (hb3.mono b2.size)
  have hR1b := hR1a.next hb3
  have hR3b := hR3.next hb3
  clear hR1a hR3
  go_wp2_with fail
  refine (bytesS_any _ (by decide) A2 m c2 (by omega) _ (byt_gl hh m) _ hR3b).mono ?_
  rintro e w4 ⟨rfl, hb4⟩
  have b4 := b3.trans (hb4.mono b3.size)
  have hR1c := hR1b.next hb4
  have hR3c := hR3b.next hb4
  clear hR1b hR3b
  go_wp2_with fail
  refine (ints_any A len cap 10 hlc hcm (by decide) g _ (hR.next b4)).mono ?_
  rintro e w5 ⟨v5, rfl, hown5, hb5⟩
  obtain ⟨A5, c5, rfl, hc5, hl5, hR5⟩ := Rd.of_ints hown5
  clear hl5 hown5 hc5
  rw [← HN.out] at hR5 ⊢
  have b5 := b4.trans (hb5.mono b4.size)
  have hR1d := hR1c.next hb5
  have hR3d := hR3c.next hb5
  clear hR1c hR3c
  have ag1 := Lib.hid (agreeB_refl (fun k => (gl g n)[k]?.getD 0) n)
  have ag2 := Lib.hid (agreeB_refl (fun k => (gl h m)[k]?.getD 0) m)
  go_wp2_with fail
  refine (sameInts_any A1 A5 n n c1 c5 (by omega) (by omega) _ _ _ hR1d hR5).mono ?_
  rintro e w6 ⟨rfl, hb6⟩
  rw [ag1.out, decide_eq_true rfl, Bool.and_true]
  have b6 := b5.trans (hb6.mono b5.size)
  have hR1e := hR1d.next hb6
  have hR3e := hR3d.next hb6
  clear hR1d hR3d hR5
  go_wp2_with fail
  refine (few_any B len2 cap2 30 hlc2 hcm2 (by decide) h _ (hR2.next b6)).mono ?_
  rintro e w7 ⟨v7, rfl, hown7, hb7⟩
  obtain ⟨A7, c7, rfl, hc7, hl7, hR7⟩ := Rd.of_ints hown7
  clear hl7 hown7 hc7
  rw [← HM.out] at hR7 ⊢
  have b7 := b6.trans (hb7.mono b6.size)
  have hR1f := hR1e.next hb7
  have hR3f := hR3e.next hb7
  clear hR1e hR3e
  go_wp2_with fail
  refine (sameBytes_any A2 A7 m m c2 c7 (by omega) (by omega) _ _ _ hR3f hR7).mono ?_
  rintro e w8 ⟨rfl, hb8⟩
  rw [ag2.out, decide_eq_true rfl, Bool.and_true]
  have b8 := b7.trans (hb8.mono b7.size)
  have hR1g := hR1f.next hb8
  have hR3g := hR3f.next hb8
  clear hR1f hR3f hR7
  go_wp2_with fail
  refine (sumS_any _ (by decide) A1 n c1 (by omega) _ _ hR1g).mono ?_
  rintro e w9 ⟨rfl, hb9⟩
  have b9 := b8.trans (hb9.mono b8.size)
  have hR3h := hR3g.next hb9
  clear hR1g hR3g
  go_wp2_with fail
  refine (bytesS_any _ (by decide) A2 m c2 (by omega) _ (byt_gl hh m) _ hR3h).mono ?_
  rintro e w10 ⟨rfl, hb10⟩
  have b10 := b9.trans (hb10.mono b9.size)
  clear hR3h
  go_wp2_with fail
  refine (lives_any _).mono ?_
  rintro e w11 ⟨rfl, hb11⟩
  go_wp2
  go_ret
  exact ⟨rfl, b10.trans (hb11.mono b10.size)⟩
end Go.Proofs.Ytjogcpjfkjepcaa
