/- The walk of the law AlertLadder: it returns true and changes nothing that was there. -/
import Derived.Test.YtlaknbcmidjiaaaDoorLad
namespace Go.Proofs.YtlaknbcmidjiaaaDoor
open Go.RowKit

theorem escC (wc : World) (hL : Lev wc) (A : Option Addr) (c : Nat) (st si le tk dl lv st' si' le' : Int) (up : Bool) (hd : escD (visB hot 1 noL 0 st si le tk) st si le tk dl lv = (st', si', le', up))
    (hb1 : -9223372036854775808 ≤ si ∧ si ≤ 9223372036854775807) (hb2 : -9223372036854775808 ≤ le ∧ le ≤ 9223372036854775807) :
    Calls Tryd.prog 21 #[.agg #[.string hot, .int .i64 1, .slice A 0 c, .int .i64 st, .int .i64 si, .int .i64 le], .int .i64 tk, .int .i64 dl, .int .i64 lv] wc fun e w' =>
      ∃ A c, e = .returned (.tuple #[.agg #[.string hot, .int .i64 1, .slice A 0 c, .int .i64 st', .int .i64 si', .int .i64 le'], .bool up]) ∧ Below wc.heap.size wc w' := by
  refine (aEsc_any hot 1 A 0 c noL st si le tk dl lv wc (by omega) RdL.nil hL hb1 hb2).mono ?_
  rintro e w' ⟨v, rfl, hown, hb⟩
  obtain ⟨A1, c1, rfl, _, _, _⟩ := Rd.of_vl hown
  rw [hd]
  exact ⟨A1, c1, rfl, hb⟩
theorem ackC (wc : World) (hL : Lev wc) (A : Option Addr) (c : Nat) (st si le tk : Int) (hv : visB hot 1 noL 0 st si le tk = true) (hs : st = 2 ∨ st = 4) :
    Calls Tryd.prog 30 #[.agg #[.string hot, .int .i64 1, .slice A 0 c, .int .i64 st, .int .i64 si, .int .i64 le], .int .i64 tk] wc fun e w' =>
      ∃ A c, e = .returned (.tuple #[.agg #[.string hot, .int .i64 1, .slice A 0 c, .int .i64 3, .int .i64 tk, .int .i64 le], .int .i64 0]) ∧ Below wc.heap.size wc w' := by
  refine (aAck_any hot 1 A 0 c noL st si le tk wc (by omega) RdL.nil hL).mono ?_
  rintro e w' ⟨hb, h⟩
  rw [hv, if_neg (by decide), if_pos hs] at h
  obtain ⟨v, rfl, hown⟩ := h
  obtain ⟨A1, c1, rfl, _, _, _⟩ := Rd.of_vl hown
  exact ⟨A1, c1, rfl, hb⟩
theorem aroundC (wc : World) (n : Int) (m p : Nat) (hp : p = aroundI n m) (hm : 0 < m) (hm2 : m ≤ 1000) (hn : -9223372036854775808 ≤ n ∧ n ≤ 9223372036854775807) :
    Calls Tryd.prog 27 #[.int .i64 n, .int .i64 m] wc fun e w' => e = .returned (.int .i64 (p : Int)) ∧ wc = w' := by
  refine (around_any n m hn hm (by omega) wc).mono ?_
  rintro e w' ⟨rfl, rfl⟩
  exact ⟨by rw [hp], rfl⟩
theorem ladI_st {d n a k L : Nat} {st si : Int} (h : LadI d n a k L st si) (hd : 1 ≤ d ∧ d ≤ 5) (hk : 1 ≤ k ∧ k ≤ 100) (ha : 1 ≤ a) : L ≤ 16 ∧ 0 ≤ si ∧ si ≤ 100 ∧ alB hot 1 noL 0 st si L = true := by
  have hdd : d = 1 ∨ d = 2 ∨ d = 3 ∨ d = 4 ∨ d = 5 := by omega
  have hb : L ≤ 16 ∧ 0 ≤ si ∧ si ≤ (100 : Nat) := by
    rcases h with ⟨h1, h2, h3⟩ | ⟨h1, h2, h3, h4⟩
    · rcases h3 with ⟨h4, h5, h6⟩ | ⟨h4, h5, h6⟩ <;> rcases hdd with rfl | rfl | rfl | rfl | rfl <;> omega
    · omega
  refine ⟨hb.1, hb.2.1, by omega, ?_⟩
  have hv : visB hot 1 noL 0 st si L (100 : Nat) = true := by
    refine lad_vis ?_ hb.2.1 hb.2.2 (by omega)
    rcases h with ⟨h1, h2, h3⟩ | ⟨h1, h2, h3, h4⟩
    · rcases h3 with ⟨h4, h5, h6⟩ | ⟨h4, h5, h6⟩
      · exact .inl ⟨h4, h5⟩
      · exact .inr (.inl ⟨h4, hb.1, h5⟩)
    · exact .inr (.inr ⟨h2, h3⟩)
  simp only [visB, Bool.and_eq_true] at hv
  exact hv.1.1

set_option maxRecDepth 100000 in
set_option maxHeartbeats 4000000 in
theorem alertLadder_walk (x y z : Int) (hx : -9223372036854775808 ≤ x ∧ x ≤ 9223372036854775807) (hy : -9223372036854775808 ≤ y ∧ y ≤ 9223372036854775807) (hz : -9223372036854775808 ≤ z ∧ z ≤ 9223372036854775807)
    (w : World) (hL : Lev w) :
    Calls Tryd.prog 11 #[.int .i64 x, .int .i64 y, .int .i64 z] w fun e w' => e = .returned (.bool true) ∧ Below w.heap.size w w' := by
  have h5 := aroundI_lt x 5 (by omega)
  have h21 := aroundI_lt y 21 (by omega)
  have h150 := aroundI_lt z 150 (by omega)
  obtain ⟨d0, hd0⟩ : ∃ d0, d0 = aroundI x 5 := ⟨_, rfl⟩
  obtain ⟨n, hn⟩ : ∃ n, n = aroundI y 21 := ⟨_, rfl⟩
  obtain ⟨a0, ha0⟩ : ∃ a0, a0 = aroundI z 150 := ⟨_, rfl⟩
  rw [← hd0] at h5
  rw [← hn] at h21
  rw [← ha0] at h150
  have HD0 := Lib.hid hd0
  have HN := Lib.hid hn
  have HA0 := Lib.hid ha0
  clear hd0 hn ha0
  go_enter Tryd.func11, Tryd.ntmps11
  go_wp2_with fail
  refine (aroundC _ x 5 d0 HD0.out (by omega) (by omega) hx).mono ?_
  rintro e w' ⟨rfl, rfl⟩
  go_wp2_with fail
  refine (aroundC _ y 21 n HN.out (by omega) (by omega) hy).mono ?_
  rintro e w' ⟨rfl, rfl⟩
  go_wp2_with fail
  refine (aroundC _ z 150 a0 HA0.out (by omega) (by omega) hz).mono ?_
  rintro e w' ⟨rfl, rfl⟩
  obtain ⟨d, hd⟩ : ∃ d : Nat, (1 + (d0 : Int)) = d := ⟨1 + d0, by push_cast; rfl⟩
  obtain ⟨a, ha⟩ : ∃ a : Nat, (1 + (a0 : Int)) = a := ⟨1 + a0, by push_cast; rfl⟩
  have hd15 : 1 ≤ d ∧ d ≤ 5 := by omega
  have ha1 : 1 ≤ a ∧ a ≤ 150 := by omega
  go_wp2_with fail
  refine (stepC _ hL none 0 0 0 0 2 0 (2, 0, 0, true) (by decide +kernel)).mono ?_
  rintro e w1 ⟨A1, c1, rfl, hb1⟩
  clear hd ha h5 h150 HD0 HA0 HN
  have K0 := Bk.new w1 25 #[.string hot, .int .i64 1, .slice A1 0 c1, .int .i64 2, .int .i64 0, .int .i64 0]
  have B0 := hb1.alloc hb1.size (.cells #[.string hot, .int .i64 1, .slice A1 0 c1, .int .i64 2, .int .i64 0, .int .i64 0] 25)
  go_upto_region 5 with (fail)
  generalize hW1 : w1.alloc (.cells #[.string hot, .int .i64 1, .slice A1 0 c1, .int .i64 2, .int .i64 0, .int .i64 0] 25) = W1
  rw [hW1] at K0 B0
  clear hW1
  obtain ⟨b, hb⟩ : ∃ b, b = w1.heap.size := ⟨_, rfl⟩
  rw [← hb] at K0 ⊢
  have hwb : w.heap.size ≤ b := by rw [hb]; exact hb1.size
  clear hb
  go_wp2_with fail
  go_loopw [12, 13] (fun lv t wr => ∃ (k L : Nat) (A2 : Option Addr) (c2 : Nat) (st si : Int), 1 ≤ k ∧ k ≤ 100 ∧ t = .int .i64 k ∧ lv = .int .i64 L ∧ LadI d n a k L st si ∧ Bk wr b 25 #[.string hot, .int .i64 1, .slice A2 0 c2, .int .i64 st, .int .i64 si, .int .i64 L] ∧ Below w.heap.size w wr) (fun _ t _ => 100 - (intOf t).toNat)
  case atStart => exact ⟨1, 0, A1, c1, 2, 0, by omega, by omega, rfl, rfl, lad_start d n a ha1.1, K0, B0⟩
  case round =>
    obtain ⟨k, L, A2, c2, st, si, hk1, hk2, rfl, rfl, hI, hK, hBr⟩ := hrel
    obtain ⟨hL16, hs0, hs1, hval⟩ := ladI_st hI hd15 ⟨hk1, hk2⟩ ha1.1
    have hL2 : Lev wr := hL.next hBr
    obtain ⟨k0, k1, k2, k3, k4, k5⟩ := hK.six
    by_cases hlt : k < 100
    · obtain ⟨st', si', hE, hsp, hnx, hat⟩ := lad_step hd15 ⟨hk1, by omega⟩ hI
      have HVAL := Lib.hid hval
      clear hval hI
      cases hu : ladUp d n a k L
      · rw [hu] at hE hnx hat
        simp only [Bool.false_eq_true, if_false, Nat.add_zero] at hE hnx hat
        have HE := Lib.hid hE
        have HNX := Lib.hid hnx
        have HAT := Lib.hid hat
        have hu := lad_no hu
        have hmod : (k : Int) % (d : Int) = ((k % d : Nat) : Int) := by push_cast; rfl
        have hC : (a < k) ∨ (k ≤ a ∧ ¬ (k : Int) % (d : Int) = 0) ∨ (k ≤ a ∧ (k : Int) % (d : Int) = 0 ∧ 16 < (n : Int) ∧ 16 ≤ (L : Int)) ∨ (k ≤ a ∧ (k : Int) % (d : Int) = 0 ∧ ¬ 16 < (n : Int) ∧ (n : Int) ≤ L) := by
          omega
        clear hE hnx hat hu hmod
        rcases hC with hka | ⟨hka, hkd⟩ | ⟨hka, hkd, h16, hLm⟩ | ⟨hka, hkd, h16, hLm⟩
        all_goals
          go_wp2_with fail
          refine (escC _ hL2 A2 c2 st si L k d n _ _ _ _ HE.out (by omega) (by omega)).mono ?_
          rintro e w2 ⟨A3, c3, rfl, hb2⟩
          have N3 := Bk.new w2 25 #[.string hot, .int .i64 1, .slice A3 0 c3, .int .i64 st', .int .i64 si', .int .i64 (L : Int)]
          have K3 := (hK.next hb2).alloc (.cells #[.string hot, .int .i64 1, .slice A3 0 c3, .int .i64 st', .int .i64 si', .int .i64 (L : Int)] 25)
          have B3 := belowA (hBr.trans (hb2.mono hBr.size)) (.cells #[.string hot, .int .i64 1, .slice A3 0 c3, .int .i64 st', .int .i64 si', .int .i64 (L : Int)] 25)
          clear k0 k1 k2 k3 k4 k5
          go_upto_region 12 with (fail)
          generalize hW3 : w2.alloc (.cells #[.string hot, .int .i64 1, .slice A3 0 c3, .int .i64 st', .int .i64 si', .int .i64 (L : Int)] 25) = W3
          rw [hW3] at N3 K3 B3
          clear hW3
          obtain ⟨nb, hnb⟩ : ∃ nb, nb = w2.heap.size := ⟨_, rfl⟩
          rw [← hnb] at N3 ⊢
          clear hnb hb2 hK
          obtain ⟨n0, n1, n2, n3, n4, n5⟩ := N3.six
          obtain ⟨k0, k1, k2, k3, k4, k5⟩ := K3.six
          obtain ⟨f0, f1, f2, f3, f4, f5⟩ := K3.sixf
          go_upto_if 63 with (fail)
          generalize hW4 : ((((((W3.setCell ⟨b, 0, none⟩ (.string hot)).setCell ⟨b, 1, none⟩ (.int .i64 1)).setCell ⟨b, 2, none⟩ (.slice A3 0 c3)).setCell ⟨b, 3, none⟩ (.int .i64 st')).setCell ⟨b, 4, none⟩ (.int .i64 si')).setCell ⟨b, 5, none⟩ (.int .i64 (L : Int))) = W4
          obtain ⟨K4, B4⟩ : Bk W4 b 25 #[.string hot, .int .i64 1, .slice A3 0 c3, .int .i64 st', .int .i64 si', .int .i64 (L : Int)] ∧ Below w.heap.size w W4 := by rw [← hW4]; exact ⟨K3.set6 _ _ _ _ _ _, below6 B3 hwb _ _ _ _ _ _⟩
          clear hW4 n0 n1 n2 n3 n4 n5 k0 k1 k2 k3 k4 k5 f0 f1 f2 f3 f4 f5 N3 K3 B3
          by_cases hat : k = a
          · have hbe : ((k : Int) == (a : Int)) = true := by simp [hat]
            obtain ⟨hs24, hvis, hI3⟩ := HAT.out hat
            have HI3 := Lib.hid hI3
            clear hat hI3
            obtain ⟨k0, k1, k2, k3, k4, k5⟩ := K4.six
            go_wp2_with fail
            refine (ackC _ (hL.next B4) A3 c3 st' si' _ k hvis hs24).mono ?_
            rintro e w5 ⟨A5, c5, rfl, hb5⟩
            have N6 := Bk.new w5 25 #[.string hot, .int .i64 1, .slice A5 0 c5, .int .i64 3, .int .i64 k, .int .i64 (L : Int)]
            have K6 := (K4.next hb5).alloc (.cells #[.string hot, .int .i64 1, .slice A5 0 c5, .int .i64 3, .int .i64 k, .int .i64 (L : Int)] 25)
            have B6 := belowA (B4.trans (hb5.mono B4.size)) (.cells #[.string hot, .int .i64 1, .slice A5 0 c5, .int .i64 3, .int .i64 k, .int .i64 (L : Int)] 25)
            clear k0 k1 k2 k3 k4 k5
            go_upto_region 19 with (fail)
            generalize hW6 : w5.alloc (.cells #[.string hot, .int .i64 1, .slice A5 0 c5, .int .i64 3, .int .i64 k, .int .i64 (L : Int)] 25) = W6
            rw [hW6] at N6 K6 B6
            clear hW6
            obtain ⟨nb, hnb⟩ : ∃ nb, nb = w5.heap.size := ⟨_, rfl⟩
            rw [← hnb] at N6 ⊢
            clear hnb hb5 K4
            obtain ⟨n0, n1, n2, n3, n4, n5⟩ := N6.six
            obtain ⟨k0, k1, k2, k3, k4, k5⟩ := K6.six
            obtain ⟨f0, f1, f2, f3, f4, f5⟩ := K6.sixf
            go_wp2
            go_roundw
            case rel => exact ⟨k + 1, L, A5, c5, 3, k, by omega, by omega, by go_num, by go_num, HI3.out, K6.set6 _ _ _ _ _ _, below6 B6 hwb _ _ _ _ _ _⟩
            case measure => simp [intOf]; omega
          · have hbe : ((k : Int) == (a : Int)) = false := by simp; omega
            have HI3 := Lib.hid (HNX.out hat)
            clear hat
            go_wp2
            go_roundw
            case rel => exact ⟨k + 1, L, A3, c3, st', si', by omega, by omega, by go_num, by go_num, HI3.out, K4, B4⟩
            case measure => simp [intOf]; omega
      · rw [hu] at hE hnx hat
        simp only [if_true] at hE hnx hat
        rw [show ((L + 1 : Nat) : Int) = (L : Int) + 1 by push_cast; rfl] at hE hat
        have HE := Lib.hid hE
        have HNX := Lib.hid hnx
        have HAT := Lib.hid hat
        have hu := lad_yes hu
        have hmod : (k : Int) % (d : Int) = ((k % d : Nat) : Int) := by push_cast; rfl
        have hC : k ≤ a ∧ (k : Int) % (d : Int) = 0 ∧ ((16 < (n : Int) ∧ (L : Int) < 16) ∨ (¬ 16 < (n : Int) ∧ (L : Int) < n)) := by omega
        clear hE hnx hat hu hmod
        obtain ⟨hka, hkd, ⟨h16, hLm⟩ | ⟨h16, hLm⟩⟩ := hC
        all_goals
          go_wp2_with fail
          refine (escC _ hL2 A2 c2 st si L k d n _ _ _ _ HE.out (by omega) (by omega)).mono ?_
          rintro e w2 ⟨A3, c3, rfl, hb2⟩
          have N3 := Bk.new w2 25 #[.string hot, .int .i64 1, .slice A3 0 c3, .int .i64 st', .int .i64 si', .int .i64 ((L : Int) + 1)]
          have K3 := (hK.next hb2).alloc (.cells #[.string hot, .int .i64 1, .slice A3 0 c3, .int .i64 st', .int .i64 si', .int .i64 ((L : Int) + 1)] 25)
          have B3 := belowA (hBr.trans (hb2.mono hBr.size)) (.cells #[.string hot, .int .i64 1, .slice A3 0 c3, .int .i64 st', .int .i64 si', .int .i64 ((L : Int) + 1)] 25)
          clear k0 k1 k2 k3 k4 k5
          go_upto_region 12 with (fail)
          generalize hW3 : w2.alloc (.cells #[.string hot, .int .i64 1, .slice A3 0 c3, .int .i64 st', .int .i64 si', .int .i64 ((L : Int) + 1)] 25) = W3
          rw [hW3] at N3 K3 B3
          clear hW3
          obtain ⟨nb, hnb⟩ : ∃ nb, nb = w2.heap.size := ⟨_, rfl⟩
          rw [← hnb] at N3 ⊢
          clear hnb hb2 hK
          obtain ⟨n0, n1, n2, n3, n4, n5⟩ := N3.six
          obtain ⟨k0, k1, k2, k3, k4, k5⟩ := K3.six
          obtain ⟨f0, f1, f2, f3, f4, f5⟩ := K3.sixf
          go_upto_if 63 with (fail)
          generalize hW4 : ((((((W3.setCell ⟨b, 0, none⟩ (.string hot)).setCell ⟨b, 1, none⟩ (.int .i64 1)).setCell ⟨b, 2, none⟩ (.slice A3 0 c3)).setCell ⟨b, 3, none⟩ (.int .i64 st')).setCell ⟨b, 4, none⟩ (.int .i64 si')).setCell ⟨b, 5, none⟩ (.int .i64 ((L : Int) + 1))) = W4
          obtain ⟨K4, B4⟩ : Bk W4 b 25 #[.string hot, .int .i64 1, .slice A3 0 c3, .int .i64 st', .int .i64 si', .int .i64 ((L : Int) + 1)] ∧ Below w.heap.size w W4 := by rw [← hW4]; exact ⟨K3.set6 _ _ _ _ _ _, below6 B3 hwb _ _ _ _ _ _⟩
          clear hW4 n0 n1 n2 n3 n4 n5 k0 k1 k2 k3 k4 k5 f0 f1 f2 f3 f4 f5 N3 K3 B3
          by_cases hat : k = a
          · have hbe : ((k : Int) == (a : Int)) = true := by simp [hat]
            obtain ⟨hs24, hvis, hI3⟩ := HAT.out hat
            have HI3 := Lib.hid hI3
            clear hat hI3
            obtain ⟨k0, k1, k2, k3, k4, k5⟩ := K4.six
            go_wp2_with fail
            refine (ackC _ (hL.next B4) A3 c3 st' si' _ k hvis hs24).mono ?_
            rintro e w5 ⟨A5, c5, rfl, hb5⟩
            have N6 := Bk.new w5 25 #[.string hot, .int .i64 1, .slice A5 0 c5, .int .i64 3, .int .i64 k, .int .i64 ((L : Int) + 1)]
            have K6 := (K4.next hb5).alloc (.cells #[.string hot, .int .i64 1, .slice A5 0 c5, .int .i64 3, .int .i64 k, .int .i64 ((L : Int) + 1)] 25)
            have B6 := belowA (B4.trans (hb5.mono B4.size)) (.cells #[.string hot, .int .i64 1, .slice A5 0 c5, .int .i64 3, .int .i64 k, .int .i64 ((L : Int) + 1)] 25)
            clear k0 k1 k2 k3 k4 k5
            go_upto_region 19 with (fail)
            generalize hW6 : w5.alloc (.cells #[.string hot, .int .i64 1, .slice A5 0 c5, .int .i64 3, .int .i64 k, .int .i64 ((L : Int) + 1)] 25) = W6
            rw [hW6] at N6 K6 B6
            clear hW6
            obtain ⟨nb, hnb⟩ : ∃ nb, nb = w5.heap.size := ⟨_, rfl⟩
            rw [← hnb] at N6 ⊢
            clear hnb hb5 K4
            obtain ⟨n0, n1, n2, n3, n4, n5⟩ := N6.six
            obtain ⟨k0, k1, k2, k3, k4, k5⟩ := K6.six
            obtain ⟨f0, f1, f2, f3, f4, f5⟩ := K6.sixf
            go_wp2
            go_roundw
            case rel => exact ⟨k + 1, (L + 1 : Nat), A5, c5, 3, k, by omega, by omega, by go_num, by go_num, HI3.out, K6.set6 _ _ _ _ _ _, below6 B6 hwb _ _ _ _ _ _⟩
            case measure => simp [intOf]; omega
          · have hbe : ((k : Int) == (a : Int)) = false := by simp; omega
            have HI3 := Lib.hid (HNX.out hat)
            clear hat
            go_wp2
            go_roundw
            case rel => exact ⟨k + 1, (L + 1 : Nat), A3, c3, st', si', by omega, by omega, by go_num, by go_num, HI3.out, K4, B4⟩
            case measure => simp [intOf]; omega
    · obtain rfl : k = 100 := by omega
      have HVAL := Lib.hid hval
      clear hI hval
      go_wp2_with fail
      refine (aValid_any hot 1 A2 0 c2 noL st si L _ RdL.nil hL2).mono ?_
      rintro e w7 ⟨rfl, hb7⟩
      rw [HVAL.out]
      go_wp2_with fail
      refine (lives_any _ (hL2.next hb7)).mono ?_
      rintro e w8 ⟨rfl, hb8⟩
      go_wp2
      go_ret
      have b7 := hBr.trans (hb7.mono hBr.size)
      exact ⟨rfl, b7.trans (hb8.mono b7.size)⟩
end Go.Proofs.YtlaknbcmidjiaaaDoor
