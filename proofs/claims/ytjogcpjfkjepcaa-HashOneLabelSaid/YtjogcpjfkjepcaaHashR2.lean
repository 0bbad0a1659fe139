/- Contracts of the references of package hash: mix, Sum, Bytes, Pair, the comparisons. -/
import Derived.Test.YtjogcpjfkjepcaaHashR
import Derived.Lib.ConvBytes
import Derived.Deep.QuietTactic
import Derived.BigQuiet
import Derived.WalkSmall
namespace Go.Proofs.Ytjogcpjfkjepcaa
open Go.RowKit

set_option maxHeartbeats 400000 in
theorem rmix_any (s x : Int) (w : World) :
    Calls Try.prog 27 #[.int .u64 s, .int .u64 x] w fun e w' => e = .returned (.int .u64 (mixI s x)) ∧ w = w' := by
  go_enter Try.func27, Try.ntmps27
  go_wp2
  go_ret
  refine ⟨ret_int ?_, rfl⟩
  have h := bounds_u64 (wf_wrap .u64 (bits BinOp.xor IntKind.u64 s x * 11400714819323198485))
  rw [IntWalk.u64_quo _ _ ⟨h.1, h.2, by decide⟩]
  rfl

theorem mixL_take (s : Int) (l : List Int) (k : Nat) (h : k < l.length) : mixL s (l.take (k + 1)) = mixI (mixL s (l.take k)) (l[k]?.getD 0) := by
  rw [List.take_succ_eq_append_getElem h, mixL_snoc]
  simp [h]
/-- A string made into bytes. -/
theorem conv_bytes {P : Program} (w : World) (src dst e : TypeId) (s : ByteArray) {u : TypeDesc} (hs : P.underlying src = some u) (hd : P.underlying dst = some (.slice e)) (he : P.underlying e = some (.int .u8)) (hsz : s.size ≤ maxLen) :
    ∃ W1 c, (convert src dst (.string s)).run P w = .ok (.slice (some ⟨w.heap.size, 0, none⟩) s.size c) W1 ∧ s.size ≤ c ∧ c ≤ maxLen ∧ Below w.heap.size w W1 ∧ w.heap.size < W1.heap.size ∧ Rd W1 W1.heap.size (some ⟨w.heap.size, 0, none⟩) s.size fun k => .int .u8 (PlainAid.bt s k) := by
  refine ⟨_, _, Lib.run_convert_string_bytes w src dst e s hs hd he, grownCap_ge _ _ _ _, grownCap_le_maxLen _ _ _ _ hsz, ⟨?_, ?_, ?_, ?_, ?_⟩, ?_, ?_⟩
  · rfl
  · rfl
  · rfl
  · rw [Lib.bytesWorld_size]; omega
  · exact fun k hk => Lib.bytesWorld_at_old w e s k hk
  · rw [Lib.bytesWorld_size]; omega
  · refine fun hn => ⟨_, rfl, by rw [Lib.bytesWorld_size]; simp, fun k hk => ?_⟩
    have h := Lib.bytesWorld_cell w e s k hk
    have e0 : ((⟨w.heap.size, 0, none⟩ : Addr).add k) = ⟨w.heap.size, k, none⟩ := by unfold Addr.add; split <;> simp_all
    rw [e0, h]
    show some _ = some (Value.int .u8 (PlainAid.bt s k))
    unfold PlainAid.bt
    rw [dif_pos hk]
    have e1 : s.data.toList.getD k 0 = s[k] := by
      have hk' : k < s.data.toList.length := by simpa using hk
      rw [List.getD_eq_getElem?_getD, List.getElem?_eq_getElem hk', Option.getD_some, Array.getElem_toList]
      rfl
    rw [e1]

set_option maxHeartbeats 1000000 in
theorem rSum_any (s : ByteArray) (hs : s.size ≤ 1000000) (A : Option Addr) (len cap : Nat) (hlen : len ≤ 1000000) (g : Nat → Int) (w : World) (hR : Rd w w.heap.size A len fun k => .int .i64 (g k)) :
    Calls Try.prog 14 #[.string s, .slice A len cap] w fun e W' => e = .returned (.int .u64 (sumI (wordsF (PlainAid.bt s) s.size ((s.size + 7) / 8)) s.size (gl g len))) ∧ Below w.heap.size w W' := by
  obtain ⟨W1, c1, hconv, hc1, hc1', hb1, hz1, hR1⟩ := conv_bytes (P := Try.prog) w 9 30 5 s Try.underlying9 Try.underlying30 Try.underlying5 (by unfold maxLen; omega)
  go_enter Try.func14, Try.ntmps14
  go_wp2_with (go_at_call 23; refine (words_any _ _ _ hs _ (byt_bt s) _ hR1).mono ?_; rintro e w2 ⟨v, rfl, hown, hb2⟩)
  clear hconv
  obtain ⟨A2, c2, rfl, hc2, hl2, hR2⟩ := Rd.of_ints hown
  have HL2 := Lib.hid hl2
  clear hl2
  have hb3 : Below w.heap.size w w2 := hb1.trans (hb2.mono hb1.size)
  have hRr : Rd w2 w.heap.size A len fun k => .int .i64 (g k) := hR.below hb3
  clear hown
  obtain ⟨WL, hWL⟩ : ∃ WL, WL = wordsF (PlainAid.bt s) s.size ((s.size + 7) / 8) := ⟨_, rfl⟩
  rw [← hWL] at hR2 HL2
  have HWL := Lib.hid hWL
  clear hWL
  obtain ⟨N1, hN1⟩ : ∃ N1, N1 = (s.size + 7) / 8 := ⟨_, rfl⟩
  rw [← hN1] at hR2 HL2 ⊢
  have hN1' : N1 ≤ 200000 := by omega
  clear hN1
  go_wp2_with fail
  go_loop [5, 7] (fun x i => ∃ k : Nat, k ≤ N1 ∧ i = .int .i64 k ∧ x = .int .u64 (mixL 0 (WL.take k))) (fun _ i => N1 - (intOf i).toNat)
  case atStart => exact ⟨0, Nat.zero_le _, rfl, rfl⟩
  case round =>
    obtain ⟨k, hk, rfl, rfl⟩ := hrel
    by_cases hlt : k < N1
    · obtain ⟨ad, rfl, hab, hac⟩ := hR2.at_ hlt
      go_wp2_with (go_at_call 27; refine (rmix_any _ _ _).mono ?_; rintro e w' ⟨rfl, rfl⟩)
      go_round
      case rel => exact ⟨k + 1, by omega, by go_num, by rw [mixL_take _ _ _ (by have := HL2.out; omega)]⟩
      case measure => simp [intOf]; omega
    · obtain rfl : k = N1 := by omega
      rw [List.take_of_length_le (by have := HL2.out; omega)]
      go_wp2_with (go_at_call 27; refine (rmix_any _ _ _).mono ?_; rintro e w' ⟨rfl, rfl⟩)
      go_loop [5, 8] (fun x i => ∃ j : Nat, j ≤ len ∧ i = .int .i64 j ∧ x = .int .u64 (mixL (mixI (mixI (mixL 0 WL) s.size) len) ((gl g j).map u64))) (fun _ i => len - (intOf i).toNat)
      case atStart => exact ⟨0, Nat.zero_le _, rfl, rfl⟩
      case round =>
        obtain ⟨j, hj, rfl, rfl⟩ := hrel
        by_cases hlj : j < len
        · obtain ⟨ad, rfl, hab, hac⟩ := hRr.at_ hlj
          go_wp2_with (go_at_call 27; refine (rmix_any _ _ _).mono ?_; rintro e w' ⟨rfl, rfl⟩)
          go_round
          case rel => exact ⟨j + 1, by omega, by go_num, by rw [gl_succ, List.map_append, List.map_singleton, mixL_snoc]; rfl⟩
          case measure => simp [intOf]; omega
        · obtain rfl : j = len := by omega
          go_wp2_with (go_at_call 27; refine (rmix_any _ _ _).mono ?_; rintro e w' ⟨rfl, rfl⟩)
          go_ret
          exact ⟨ret_int (by rw [sumI, gl_length, ← HWL.out]), hb3⟩

set_option maxHeartbeats 1000000 in
theorem rBytes_any (s : ByteArray) (hs : s.size ≤ 1000000) (A : Option Addr) (len cap : Nat) (hlen : len ≤ 1000000) (g : Nat → Int) (hg : Byt g) (w : World) (hR : Rd w w.heap.size A len fun k => .int .u8 (g k)) :
    Calls Try.prog 18 #[.string s, .slice A len cap] w fun e W' => e = .returned (.int .u64 (sumI (wordsF (PlainAid.bt s) s.size ((s.size + 7) / 8)) s.size (bytesL g len))) ∧ Below w.heap.size w W' := by
  obtain ⟨i0, hi, hz0, hz1, hz2⟩ := info_parts Try.infoInt
  go_enter Try.func18, Try.ntmps18
  go_wp2_with (go_at_call 23; refine (words_any _ _ _ hlen _ hg _ hR).mono ?_; rintro e w2 ⟨v, rfl, hown, hb2⟩)
  obtain ⟨A2, c2, rfl, hc2, hl2, hR2⟩ := Rd.of_ints hown
  have HL2 := Lib.hid hl2
  clear hl2 hown
  obtain ⟨WL, hWL⟩ : ∃ WL, WL = wordsF g len ((len + 7) / 8) := ⟨_, rfl⟩
  rw [← hWL] at hR2 HL2
  have HWL := Lib.hid hWL
  clear hWL
  obtain ⟨N1, hN1⟩ : ∃ N1, N1 = (len + 7) / 8 := ⟨_, rfl⟩
  rw [← hN1] at hR2 HL2 ⊢
  have hN1' : N1 ≤ 200000 := by omega
  clear hN1
  go_wp2_with fail
  go_loopw [6, 7] (fun v i wr => ∃ k : Nat, k ≤ N1 ∧ i = .int .i64 k ∧ wr.ownsRow w2.heap.size 3 1 v k (((WL.take k).map toI).map (Value.int .i64)) ∧ Below w2.heap.size w2 wr) (fun _ i _ => N1 - (intOf i).toNat)
  case atStart => exact ⟨0, Nat.zero_le _, rfl, World.ownsRow_nil _ _ _ _, Below.refl _ _⟩
  case round =>
    obtain ⟨k, hk, rfl, hown, hB⟩ := hrel
    by_cases hlt : k < N1
    · obtain ⟨ad, rfl, hab, hac⟩ := (hR2.below hB).at_ hlt
      have et : ((WL.take (k + 1)).map toI).map (Value.int .i64) = ((WL.take k).map toI).map (Value.int .i64) ++ [.int .i64 (toI (WL[k]?.getD 0))] := by
        have h : k < WL.length := by have := HL2.out; omega
        rw [List.take_succ_eq_append_getElem h, List.map_append, List.map_append, List.getElem?_eq_getElem h]; rfl
      have ET := Lib.hid et
      clear et
      go_wp2_with (at_builtin; refine wpList_append_own _ rfl _ _ 22 rfl w2.heap.size 3 i0 (.int .i64 0) 1 8 Try.underlying22 hi hz0 hz1 hz2 rfl (by decide) _ _ _ rfl (hown.alloc _) ⟨wr.heap.size, 0, none⟩ 1 1 [.int .i64 (toI (WL[k]?.getD 0))] rfl rfl (cell_one_new _ _ _) (by simp [Value.oneCell']) (by unfold maxLen; omega) (by omega) (by have := hB.size; simp; omega) ?_; intro v' w1 hown' hgrow _)
      go_roundw
      case rel => exact ⟨k + 1, by omega, by go_num, by rw [ET.out]; exact hown', (hB.alloc hB.size _).grown hgrow (by have := hB.size; simp; omega) (fun k e => (hown.lt k e).1)⟩
      case measure => simp [intOf]; omega
    · obtain rfl : k = N1 := by omega
      rw [List.take_of_length_le (by have := HL2.out; omega)] at hown
      go_wp2_with (at_builtin; refine wpList_append_own _ rfl _ _ 22 rfl w2.heap.size 3 i0 (.int .i64 0) 1 8 Try.underlying22 hi hz0 hz1 hz2 rfl (by decide) _ _ _ rfl (hown.alloc _) ⟨wr.heap.size, 0, none⟩ 1 1 [.int .i64 (len : Int)] rfl rfl (cell_one_new _ _ _) (by simp [Value.oneCell']) (by unfold maxLen; omega) (by omega) (by have := hB.size; simp; omega) ?_; intro v' w1 hown' hgrow _)
      have hb1 : Below w2.heap.size w2 w1 := (hB.alloc hB.size _).grown hgrow (by have := hB.size; simp; omega) (fun k e => (hown.lt k e).1)
      have e : (WL.map toI).map (Value.int .i64) ++ [.int .i64 (len : Int)] = (bytesL g len).map (Value.int .i64) := by rw [bytesL, ← HWL.out]; simp
      rw [e] at hown'
      obtain ⟨A3, c3, rfl, hc3, hl3, hR3⟩ := Rd.of_ints hown'
      refine (rSum_any s hs _ _ _ (by omega) _ _ hR3).mono ?_
      rintro e' w3 ⟨rfl, hb3⟩
      have hgl := gl_getD (bytesL g len)
      rw [hl3] at hgl
      rw [hgl]
      have hb4 : Below w.heap.size w w3 := hb2.trans ((hb1.trans (hb3.mono hb1.size)).mono hb2.size)
      clear e hgl hl3 hown' hR3 hgrow hown
      go_wp2
      go_ret
      exact ⟨rfl, hb4⟩

set_option maxHeartbeats 1000000 in
theorem rPair_any (a b : Int) (w : World) :
    Calls Try.prog 20 #[.int .u64 a, .int .u64 b] w fun e W' => e = .returned (.int .u64 (sumI (wordsF (PlainAid.bt ⟨#[112, 97, 105, 114]⟩) 4 1) 4 [toI a, toI b])) ∧ Below w.heap.size w W' := by
  go_enter Try.func20, Try.ntmps20
  go_wp2_with fail
  have hrow := World.ownsRow_lit (base := w.heap.size) (e := 3) (size := 1) w #[.int .i64 (toI a), .int .i64 (toI b)] 2 (Nat.le_refl _) (by decide) rfl
  obtain ⟨A', c', hv, hc', hl', hR'⟩ := Rd.of_ints (zs := [toI a, toI b]) (q := .i64) hrow
  obtain ⟨rfl, rfl⟩ : some ⟨w.heap.size, 0, none⟩ = A' ∧ 2 = c' := by injection hv with h1 h2 h3; exact ⟨h1, h3⟩
  refine (rSum_any _ (by decide) _ 2 2 (by omega) _ _ hR').mono ?_
  rintro e w2 ⟨rfl, hb2⟩
  clear hR' hrow hv
  go_wp2
  go_ret
  exact ⟨rfl, ((Below.refl _ _).alloc (Nat.le_refl _) _).trans (hb2.mono (by simp))⟩

/-- Two rows agree on their first n places. -/
def agreeB (f g : Nat → Int) (n : Nat) : Bool := (List.range n).all fun k => f k == g k
theorem agreeB_succ (f g : Nat → Int) (n : Nat) : agreeB f g (n + 1) = (agreeB f g n && (f n == g n)) := by simp [agreeB, List.range_succ]
theorem agreeB_iff (f g : Nat → Int) (n : Nat) : agreeB f g n = true ↔ ∀ k, k < n → f k = g k := by simp [agreeB]

set_option maxHeartbeats 1000000 in
theorem sameBytes_any (A B : Option Addr) (n m c d : Nat) (hn : n ≤ 1000000) (hm : m ≤ 1000000) (f g : Nat → Int) (w : World) (hA : Rd w w.heap.size A n fun k => .int .u8 (f k)) (hB : Rd w w.heap.size B m fun k => .int .u8 (g k)) :
    Calls Try.prog 22 #[.slice A n c, .slice B m d] w fun e w' => e = .returned (.bool (decide (n = m) && agreeB f g n)) ∧ Below w.heap.size w w' := by
  by_cases hnm : n = m
  · subst hnm
    go_enter Try.func22, Try.ntmps22
    go_wp2_with fail
    go_loopw [5] (fun i wr => ∃ k : Nat, k ≤ n ∧ i = .int .i64 k ∧ agreeB f g k = true ∧ Below w.heap.size w wr) (fun i _ => n - (intOf i).toNat)
    case atStart => exact ⟨0, Nat.zero_le _, rfl, rfl, Below.refl _ _⟩
    case round =>
      obtain ⟨k, hk, rfl, hag, hBr⟩ := hrel
      have HAG := Lib.hid hag
      clear hag
      by_cases hlt : k < n
      · obtain ⟨ad, rfl, hab, hac⟩ := (hA.below hBr).at_ hlt
        obtain ⟨bd, rfl, hbb, hbc⟩ := (hB.below hBr).at_ hlt
        have hi0 : (0 : Int) ≤ k := by omega
        have hi1 : (k : Int) < n := by omega
        by_cases hfg : f k = g k
        · have e1 : (f k != g k) = false := by simp [hfg]
          have HFG := Lib.hid hfg
          clear hfg
          go_wp2_with fail
          go_quiet (fail)
          go_wp2
          go_roundw
          case rel => exact ⟨k + 1, by omega, by go_num, by rw [agreeB_succ, HAG.out, HFG.out]; simp, below_drewN hBr _⟩
          case measure => simp [intOf]; omega
        · have e1 : (f k != g k) = true := by simp [hfg]
          have HFG := Lib.hid hfg
          clear hfg
          go_wp2_with fail
          go_quiet (fail)
          go_wp2
          go_ret
          refine ⟨?_, below_drewN hBr _⟩
          have : agreeB f g n = false := by
            rw [← Bool.not_eq_true, agreeB_iff]
            exact fun h => HFG.out (h k hlt)
          rw [this]; simp
      · obtain rfl : k = n := by omega
        go_wp2
        go_ret
        exact ⟨by rw [HAG.out]; simp, hBr⟩
  · have h1 : ((n : Int) == (m : Int)) = false := by simp; omega
    have h2 : ((n : Int) != (m : Int)) = true := by simp; omega
    go_enter Try.func22, Try.ntmps22
    go_wp2
    go_ret
    exact ⟨by simp [hnm], Below.refl _ _⟩
set_option maxHeartbeats 1000000 in
theorem sameInts_any (A B : Option Addr) (n m c d : Nat) (hn : n ≤ 1000000) (hm : m ≤ 1000000) (f g : Nat → Int) (w : World) (hA : Rd w w.heap.size A n fun k => .int .i64 (f k)) (hB : Rd w w.heap.size B m fun k => .int .i64 (g k)) :
    Calls Try.prog 24 #[.slice A n c, .slice B m d] w fun e w' => e = .returned (.bool (decide (n = m) && agreeB f g n)) ∧ Below w.heap.size w w' := by
  by_cases hnm : n = m
  · subst hnm
    go_enter Try.func24, Try.ntmps24
    go_wp2_with fail
    go_loopw [5] (fun i wr => ∃ k : Nat, k ≤ n ∧ i = .int .i64 k ∧ agreeB f g k = true ∧ Below w.heap.size w wr) (fun i _ => n - (intOf i).toNat)
    case atStart => exact ⟨0, Nat.zero_le _, rfl, rfl, Below.refl _ _⟩
    case round =>
      obtain ⟨k, hk, rfl, hag, hBr⟩ := hrel
      have HAG := Lib.hid hag
      clear hag
      by_cases hlt : k < n
      · obtain ⟨ad, rfl, hab, hac⟩ := (hA.below hBr).at_ hlt
        obtain ⟨bd, rfl, hbb, hbc⟩ := (hB.below hBr).at_ hlt
        have hi0 : (0 : Int) ≤ k := by omega
        have hi1 : (k : Int) < n := by omega
        by_cases hfg : f k = g k
        · have e1 : (f k != g k) = false := by simp [hfg]
          have HFG := Lib.hid hfg
          clear hfg
          go_wp2_with fail
          go_quiet (fail)
          go_wp2
          go_roundw
          case rel => exact ⟨k + 1, by omega, by go_num, by rw [agreeB_succ, HAG.out, HFG.out]; simp, below_drewN hBr _⟩
          case measure => simp [intOf]; omega
        · have e1 : (f k != g k) = true := by simp [hfg]
          have HFG := Lib.hid hfg
          clear hfg
          go_wp2_with fail
          go_quiet (fail)
          go_wp2
          go_ret
          refine ⟨?_, below_drewN hBr _⟩
          have : agreeB f g n = false := by
            rw [← Bool.not_eq_true, agreeB_iff]
            exact fun h => HFG.out (h k hlt)
          rw [this]; simp
      · obtain rfl : k = n := by omega
        go_wp2
        go_ret
        exact ⟨by rw [HAG.out]; simp, hBr⟩
  · have h1 : ((n : Int) == (m : Int)) = false := by simp; omega
    have h2 : ((n : Int) != (m : Int)) = true := by simp; omega
    go_enter Try.func24, Try.ntmps24
    go_wp2
    go_ret
    exact ⟨by simp [hnm], Below.refl _ _⟩
end Go.Proofs.Ytjogcpjfkjepcaa
