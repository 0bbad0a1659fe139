/- The walk of the law HashGroups: it returns true and changes nothing that was there. -/
import Derived.Test.YtjogcpjfkjepcaaHashV
namespace Go.Proofs.Ytjogcpjfkjepcaa
open Go.RowKit

theorem own_cap {w : World} {base e n c : Nat} {A : Option Addr} {xs : List Value} (h : w.ownsRow base e 1 (.slice A n c) n xs) : c ≤ maxLen := by
  rcases h.2 with ⟨h', _⟩ | ⟨g, cap, cur, h', _, _, _, hcm, _⟩
  · injection h' with _ _ h3; subst h3; exact Nat.zero_le _
  · injection h' with _ _ h3; subst h3; exact hcm
theorem wdF_congr {f g : Nat → Int} (i m : Nat) (h : ∀ k, k < i + m → f k = g k) : wdF f i m = wdF g i m := by
  induction m with
  | zero => rfl
  | succ m ih => rw [wdF, wdF, ih fun k hk => h k (by omega), h (i + m) (by omega)]
theorem words_longer {f g : Nat → Int} {n : Nat} (hn : n % 8 ≠ 0) (h : ∀ k, k < n → f k = g k) (h0 : f n = 0) : wordsF f (n + 1) ((n + 1 + 7) / 8) = wordsF g n ((n + 7) / 8) := by
  have e : (n + 1 + 7) / 8 = (n + 7) / 8 := by omega
  rw [e]
  unfold wordsF
  refine List.map_congr_left fun j hj => ?_
  have hj' : j < (n + 7) / 8 := by simpa using hj
  by_cases h8 : 8 * j + 8 ≤ n
  · rw [show min 8 (n + 1 - 8 * j) = 8 by omega, show min 8 (n - 8 * j) = 8 by omega]
    exact wdF_congr _ _ fun k hk => h k (by omega)
  · rw [show min 8 (n + 1 - 8 * j) = (n - 8 * j) + 1 by omega, show min 8 (n - 8 * j) = n - 8 * j by omega, wdF, show 8 * j + (n - 8 * j) = n by omega, h0, Int.zero_mul, Int.add_zero]
    exact wdF_congr _ _ fun k hk => h k (by omega)
theorem sumS_longer (s : ByteArray) {f g : Nat → Int} {n : Nat} (hn60 : n ≤ 1000) (hn : n % 8 ≠ 0) (h : ∀ k, k < n → f k = g k) (h0 : f n = 0) : sumS s (bytesL f (n + 1)) ≠ sumS s (bytesL g n) := by
  unfold bytesL
  rw [words_longer hn h h0]
  intro e
  have := (sumS_one s ((wordsF g n ((n + 7) / 8)).map toI) [] ((n + 1 : Nat) : Int) (n : Int)).1 e
  rw [u64_i64_inj (by omega) (by omega)] at this
  omega

set_option maxHeartbeats 4000000 in
theorem hashGroups_walk (s0 : ByteArray) (A : Option Addr) (len cap : Nat) (g : Nat → Int) (hg : Byt g) (w : World) (hlc : len ≤ cap) (hcm : cap ≤ maxLen) (hR : Rd w w.heap.size A len fun k => .int .u8 (g k)) :
    Calls Try.prog 8 #[.string s0, .slice A len cap] w fun e w' => e = .returned (.bool true) ∧ Below w.heap.size w w' := by
  have hss := shortB_size s0 20
  obtain ⟨i0, hi, hz0, hz1, hz2⟩ := info_parts Try.infoInt
  obtain ⟨i1, hi', hz0', hz1', hz2'⟩ := info_parts Try.infoByte
  go_enter Try.func8, Try.ntmps8
  go_wp2_with (first
    | (go_at_call 11; refine (short_any s0 20 (by decide) _).mono ?_; rintro e w' ⟨rfl, rfl⟩)
    | (go_at_call 16; refine (few_any A len cap 60 hlc hcm (by decide) g _ hR).mono ?_; rintro e w1 ⟨v, rfl, hown, hb1⟩))
  obtain ⟨s, hs⟩ : ∃ s, s = shortB s0 20 := ⟨_, rfl⟩
  rw [← hs] at hss ⊢
  clear hs
  obtain ⟨A1, c1, rfl, hc1, hl1, hR1⟩ := Rd.of_ints hown
  have hc1m := own_cap hown
  clear hl1 hown
  obtain ⟨n, hn⟩ : ∃ n, n = min len 60 := ⟨_, rfl⟩
  rw [← hn] at hR1 hc1 ⊢
  have hn12 : n ≤ 60 := by omega
  clear hn
  obtain ⟨f, hf, hR1⟩ : ∃ f, Byt f ∧ Rd w1 w1.heap.size A1 n fun k => .int .u8 (f k) := ⟨_, byt_gl hg n, hR1⟩
  go_wp2_with fail
  refine (words_any _ _ _ (by omega) _ hf _ hR1).mono ?_
  rintro e w2 ⟨v, rfl, hown, hb2⟩
  obtain ⟨A2, c2, rfl, hc2, hl2, hR2⟩ := Rd.of_ints hown
  have HL2 := Lib.hid hl2
  clear hl2 hown
  obtain ⟨WL, hWL⟩ : ∃ WL, WL = wordsF f n ((n + 7) / 8) := ⟨_, rfl⟩
  rw [← hWL] at hR2 HL2
  have HWL := Lib.hid hWL
  clear hWL
  obtain ⟨N1, hN1⟩ : ∃ N1, N1 = (n + 7) / 8 := ⟨_, rfl⟩
  rw [← hN1] at hR2 HL2 hc2 ⊢
  have hN1' : N1 ≤ 200 := by omega
  have HN1 := Lib.hid hN1
  clear hN1
  go_wp2_with fail
  go_loopw [8, 9] (fun v i wr => ∃ k : Nat, k ≤ N1 ∧ i = .int .i64 k ∧ wr.ownsRow w2.heap.size 3 1 v k (((WL.take k).map toI).map (Value.int .i64)) ∧ Below w2.heap.size w2 wr) (fun _ i _ => N1 - (intOf i).toNat)
  case atStart => exact ⟨0, Nat.zero_le _, rfl, World.ownsRow_nil _ _ _ _, Below.refl _ _⟩
  case round =>
    obtain ⟨k, hk, rfl, hown, hB⟩ := hrel
    by_cases hlt : k < N1
    · obtain ⟨ad, rfl, hab, hac⟩ := (hR2.below hB).at_ hlt
      have et : ((WL.take (k + 1)).map toI).map (Value.int .i64) = ((WL.take k).map toI).map (Value.int .i64) ++ [.int .i64 (toI (WL[k]?.getD 0))] := by
        have h : k < WL.length := by have := HL2.out; omega
        rw [List.take_succ_eq_append_getElem h, List.map_append, List.map_append, List.getElem?_eq_getElem h]; rfl
      have ET := Lib.hid et
      clear et
      go_wp2_with (at_builtin; refine wpList_append_own _ rfl _ _ 22 rfl w2.heap.size 3 i0 (.int .i64 0) 1 8 Try.underlying22 hi hz0 hz1 hz2 rfl (by decide) _ _ _ rfl (hown.alloc _) ⟨wr.heap.size, 0, none⟩ 1 1 [.int .i64 (toI (WL[k]?.getD 0))] rfl rfl (cell_one_new _ _ _) (by simp [Value.oneCell']) (by unfold maxLen; omega) (by omega) (by have := hB.size; simp; omega) ?_; intro v' w1 hown' hgrow _)
      go_roundw
      case rel => exact ⟨k + 1, by omega, by go_num, by rw [ET.out]; exact hown', (hB.alloc hB.size _).grown hgrow (by have := hB.size; simp; omega) (fun k e => (hown.lt k e).1)⟩
      case measure => simp [intOf]; omega
    · obtain rfl : k = N1 := by omega
      rw [List.take_of_length_le (by have := HL2.out; omega)] at hown
      have b3 : Below w1.heap.size w1 wr := hb2.trans (hB.mono hb2.size)
      clear hR2
      go_wp2_with fail
      refine (bytesS_any s (by omega) A1 n c1 (by omega) _ hf _ (hR1.next b3)).mono ?_
      rintro e w3 ⟨rfl, hb3⟩
      have hown3 : w3.ownsRow w2.heap.size 3 1 _ k ((WL.map toI).map (Value.int .i64)) := own_ints hown hb3
      have b4 := b3.trans (hb3.mono b3.size)
      have b23 := hB.trans (hb3.mono hB.size)
      clear hown
      go_wp2_with (at_builtin; refine wpList_append_own _ rfl _ _ 22 rfl w2.heap.size 3 i0 (.int .i64 0) 1 8 Try.underlying22 hi hz0 hz1 hz2 rfl (by decide) _ _ _ rfl (hown3.alloc _) ⟨w3.heap.size, 0, none⟩ 1 1 [.int .i64 (n : Int)] rfl rfl (cell_one_new _ _ _) (by simp [Value.oneCell']) (by unfold maxLen; omega) (by omega) (by have := b23.size; simp; omega) ?_; intro v' w4 hown4 hgrow _)
      have b5 : Below w1.heap.size w1 w4 := (b4.alloc b4.size _).grown hgrow (by have := b4.size; simp; omega) (fun k e => by have h1 := (hown3.lt k e).1; have h2 := hb2.size; omega)
      have e4 : (WL.map toI).map (Value.int .i64) ++ [.int .i64 (n : Int)] = (bytesL f n).map (Value.int .i64) := by rw [bytesL, ← HWL.out]; simp
      rw [e4] at hown4
      obtain ⟨A4, c4, rfl, hc4, hl4, hR4⟩ := Rd.of_ints hown4
      have hgl := gl_getD (bytesL f n)
      rw [hl4] at hgl
      have HGL := Lib.hid hgl
      clear e4 hgl hl4 hown4 hgrow hown3
      refine (sumS_any s (by omega) A4 _ c4 (by omega) _ _ hR4).mono ?_
      rintro e w5 ⟨rfl, hb5⟩
      rw [HGL.out]
      have b6 := b5.trans (hb5.mono b5.size)
      clear hR4
      go_wp2_with fail
      refine (few_any A1 n c1 60 hc1 hc1m (by decide) f _ (hR1.next b6)).mono ?_
      rintro e w6 ⟨v6, rfl, hown6, hb6⟩
      rw [show min n 60 = n by omega] at hown6
      have b7 := b6.trans (hb6.mono b6.size)
      have hlast : ∀ m, m % 8 ≠ 0 → n = m → sumS s (bytesL (fun k => (gl f n ++ [0])[k]?.getD 0) (n + 1)) ≠ sumS s (bytesL f n) := by
        rintro m hm rfl
        refine sumS_longer s (by omega) hm (fun k hk => ?_) ?_
        · simp [gl, hk, List.getElem?_append]
        · simp [gl]
      have HLAST := Lib.hid hlast
      clear hlast
      by_cases h8 : n % 8 = 0
      · have h8' : ((n : Int) % 8 == 0) = true := by simp; omega
        clear h8
        go_wp2_with (at_builtin; refine wpList_append_own _ rfl _ _ 30 rfl w5.heap.size 5 i1 (.int .u8 0) 1 1 Try.underlying30 hi' hz0' hz1' hz2' rfl (by decide) _ _ _ rfl (hown6.alloc _) ⟨w6.heap.size, 0, none⟩ 1 1 [.int .u8 0] rfl rfl (cell_one_new _ _ _) (by simp [Value.oneCell']) (by unfold maxLen; omega) (by omega) (by have := hb6.size; simp; omega) ?_; intro v7 w7 hown7 hgrow7 _)
        have b8 : Below w1.heap.size w1 w7 := (b7.alloc b7.size _).grown hgrow7 (by have := b7.size; simp; omega) (fun k e => by have h1 := (hown6.lt k e).1; have h2 := b6.size; omega)
        have e7 : (gl f n).map (Value.int .u8) ++ [.int .u8 0] = (gl f n ++ [0]).map (Value.int .u8) := by simp
        rw [e7] at hown7
        obtain ⟨A7, c7, rfl, hc7, hl7, hR7⟩ := Rd.of_ints hown7
        clear e7 hown7 hgrow7 hown6 hl7
        have hby : Byt fun k => (gl f n ++ [0])[k]?.getD 0 := byt_list _ fun z hz => by
          rcases List.mem_append.1 hz with h | h
          · simp only [gl, List.mem_map] at h
            obtain ⟨k, _, rfl⟩ := h
            exact hf k
          · simp at h; omega
        refine (lives_any _).mono ?_
        rintro e w8 ⟨rfl, hb8⟩
        go_wp2
        go_ret
        have b9 := b8.trans (hb8.mono b8.size)
        exact ⟨rfl, hb1.trans (b9.mono hb1.size)⟩
      · have h8' : ((n : Int) % 8 == 0) = false := by simp; omega
        have hne : (sumS s (bytesL (fun k => (gl f n ++ [0])[k]?.getD 0) (n + 1)) != sumS s (bytesL f n)) = true := by rw [bne_iff_ne]; exact HLAST.out n h8 rfl
        have HNE := Lib.hid hne
        clear h8 hne
        go_wp2_with (at_builtin; refine wpList_append_own _ rfl _ _ 30 rfl w5.heap.size 5 i1 (.int .u8 0) 1 1 Try.underlying30 hi' hz0' hz1' hz2' rfl (by decide) _ _ _ rfl (hown6.alloc _) ⟨w6.heap.size, 0, none⟩ 1 1 [.int .u8 0] rfl rfl (cell_one_new _ _ _) (by simp [Value.oneCell']) (by unfold maxLen; omega) (by omega) (by have := hb6.size; simp; omega) ?_; intro v7 w7 hown7 hgrow7 _)
        have b8 : Below w1.heap.size w1 w7 := (b7.alloc b7.size _).grown hgrow7 (by have := b7.size; simp; omega) (fun k e => by have h1 := (hown6.lt k e).1; have h2 := b6.size; omega)
        have e7 : (gl f n).map (Value.int .u8) ++ [.int .u8 0] = (gl f n ++ [0]).map (Value.int .u8) := by simp
        rw [e7] at hown7
        obtain ⟨A7, c7, rfl, hc7, hl7, hR7⟩ := Rd.of_ints hown7
        clear e7 hown7 hgrow7 hown6 hl7
        have hby : Byt fun k => (gl f n ++ [0])[k]?.getD 0 := byt_list _ fun z hz => by
          rcases List.mem_append.1 hz with h | h
          · simp only [gl, List.mem_map] at h
            obtain ⟨k, _, rfl⟩ := h
            exact hf k
          · simp at h; omega
        refine (bytesS_any s (by omega) A7 _ c7 (by omega) _ hby _ hR7).mono ?_
        rintro e w8 ⟨rfl, hb8⟩
        have b9 := b8.trans (hb8.mono b8.size)
        clear hR7
        go_wp2_with fail
        refine (bytesS_any s (by omega) A1 n c1 (by omega) _ hf _ (hR1.next b9)).mono ?_
        rintro e w9 ⟨rfl, hb9⟩
        have b10 := b9.trans (hb9.mono b9.size)
        have hne := HNE.out
        go_wp2_with fail
        refine (lives_any _).mono ?_
        rintro e w10 ⟨rfl, hb10⟩
        go_wp2
        go_ret
        have b11 := b10.trans (hb10.mono b10.size)
        exact ⟨rfl, hb1.trans (b11.mono hb1.size)⟩
end Go.Proofs.Ytjogcpjfkjepcaa
