/- The walk of the law HashOneLabel: it returns true and changes nothing that was there. -/
import Derived.Test.YtjogcpjfkjepcaaHashO
import Derived.Laws.IdiomStrings
namespace Go.Proofs.Ytjogcpjfkjepcaa
open Go.RowKit

/-- The string of the bytes f 0, .., f (n - 1). -/
def strF (f : Nat → Int) (n : Nat) : ByteArray := ⟨((List.range n).map fun k => UInt8.ofNat (f k).toNat).toArray⟩
theorem strF_size (f : Nat → Int) (n : Nat) : (strF f n).size = n := by simp [strF, ByteArray.size]
theorem bt_strF {f : Nat → Int} (hf : Byt f) {n k : Nat} (hk : k < n) : PlainAid.bt (strF f n) k = f k := by
  obtain ⟨h1, h2⟩ := hf k
  unfold PlainAid.bt
  rw [dif_pos (by rw [strF_size]; exact hk)]
  have e : (strF f n)[k]'(by rw [strF_size]; exact hk) = UInt8.ofNat (f k).toNat := by
    have hk' : k < (strF f n).data.size := by simp [strF]; exact hk
    show (strF f n).data[k]'hk' = _
    simp [strF]
  rw [e, UInt8.toNat_ofNat']
  omega
theorem conv_back {P : Program} (w : World) (src dst e : TypeId) (B : Nat) (A : Option Addr) (n cap : Nat) (f : Nat → Int) (hf : Byt f) (hn : 0 < n) (hs : P.underlying src = some (.slice e)) (he : P.underlying e = some (.int .u8)) (hd : P.underlying dst = some .string)
    (hR : Rd w B A n fun k => .int .u8 (f k)) : (convert src dst (.slice A n cap)).run P w = .ok (.string (strF f n)) w := by
  obtain ⟨ad, rfl, _, hc⟩ := hR hn
  have h := run_convert_bytes_back (P := P) w src dst e ad cap ((List.range n).map fun k => UInt8.ofNat (f k).toNat) hs he hd (fun j hj => by
    have hj' : j < n := by simpa using hj
    obtain ⟨h1, h2⟩ := hf j
    rw [hc j hj']
    simp only [List.getElem_map, List.getElem_range]
    rw [UInt8.toNat_ofNat']
    congr 2
    omega)
  rw [List.length_map, List.length_range] at h
  exact h
theorem wordsF_congr {f g : Nat → Int} {n : Nat} (h : ∀ k, k < n → f k = g k) : wordsF f n ((n + 7) / 8) = wordsF g n ((n + 7) / 8) := by
  unfold wordsF
  refine List.map_congr_left fun j hj => ?_
  exact wdF_congr2 _ _ fun k _ hk => h k (by omega)
theorem sumS_str {f : Nat → Int} (hf : Byt f) (n : Nat) (l : List Int) : sumS (strF f n) l = sumI (wordsF f n ((n + 7) / 8)) n l := by
  unfold sumS
  rw [strF_size, wordsF_congr fun k hk => bt_strF hf hk]
theorem bits_xor_u8_nat (a b : Nat) (ha : a < 256) (hb : b < 256) : bits .xor .u8 (a : Int) (b : Int) = ((a ^^^ b : Nat) : Int) := by
  have hx : a ^^^ b < 2 ^ 8 := Nat.xor_lt_two_pow (by omega) (by omega)
  have h1 : (BitVec.ofInt 8 (a : Int)).toNat = a := by
    rw [BitVec.ofInt_natCast, BitVec.toNat_ofNat]; exact Nat.mod_eq_of_lt (by omega)
  have h2 : (BitVec.ofInt 8 (b : Int)).toNat = b := by
    rw [BitVec.ofInt_natCast, BitVec.toNat_ofNat]; exact Nat.mod_eq_of_lt (by omega)
  show IntKind.u8.wrap ((BitVec.ofInt 8 (a : Int) ^^^ BitVec.ofInt 8 (b : Int)).toNat : Int) = _
  rw [BitVec.toNat_xor, h1, h2, IntKind.wrap_u8]
  omega
theorem xor_self_iff {a b : Int} (ha : 0 ≤ a ∧ a ≤ 255) (hb : 0 ≤ b ∧ b ≤ 255) : a = bits BinOp.xor IntKind.u8 a b ↔ b = 0 := by
  obtain ⟨x, rfl⟩ := Int.eq_ofNat_of_zero_le ha.1
  obtain ⟨y, rfl⟩ := Int.eq_ofNat_of_zero_le hb.1
  rw [bits_xor_u8_nat x y (by omega) (by omega)]
  constructor
  · intro e
    have e' : x ^^^ 0 = x ^^^ y := by rw [Nat.xor_zero]; omega
    have := xor_right_inj e'
    omega
  · intro e
    obtain rfl : y = 0 := by omega
    rw [Nat.xor_zero]

set_option maxHeartbeats 4000000 in
theorem hashOneLabel_walk (s0 : ByteArray) (A : Option Addr) (len cap : Nat) (g : Nat → Int) (at_ by_ : Int) (hat : -9223372036854775808 ≤ at_ ∧ at_ ≤ 9223372036854775807) (hby : 0 ≤ by_ ∧ by_ ≤ 255) (w : World) (hlc : len ≤ cap) (hcm : cap ≤ maxLen) (hR : Rd w w.heap.size A len fun k => .int .i64 (g k)) :
    Calls Try.prog 7 #[.string s0, .slice A len cap, .int .i64 at_, .int .u8 by_] w fun e w' => e = .returned (.bool true) ∧ Below w.heap.size w w' := by
  have hss := shortB_size s0 29
  go_enter Try.func7, Try.ntmps7
  go_wp2_with (go_at_call 12; refine (ints_any A len cap 6 hlc hcm (by decide) g _ hR).mono ?_; rintro e w1 ⟨v1, rfl, hown, hb1⟩)
  refine (short_any s0 29 (by decide) _).mono ?_
  rintro e w' ⟨rfl, rfl⟩
  go_wp2_with fail
  obtain ⟨t, ht⟩ : ∃ t, t = shortB s0 29 ++ ⟨#[120]⟩ := ⟨_, rfl⟩
  rw [← ht]
  have hm : t.size = (shortB s0 29).size + 1 := by rw [ht]; simp [ByteArray.size_append]; rfl
  have hm1 : 1 ≤ t.size := by omega
  have hm2 : t.size ≤ 30 := by omega
  clear ht hm
  obtain ⟨n, hn⟩ : ∃ n, n = min len 6 := ⟨_, rfl⟩
  rw [← hn] at hown
  have hn12 : n ≤ 6 := by omega
  clear hn hss
  obtain ⟨A1, d1, rfl, hd1, hl1, hR1⟩ := Rd.of_ints hown
  have HL1 := Lib.hid hl1
  clear hl1 hown
  obtain ⟨W1, c1, hconv, hc1, hc1', hbw1, hz1, hRw1⟩ := conv_bytes (P := Try.prog) w1 9 30 5 t Try.underlying9 Try.underlying30 Try.underlying5 (by unfold maxLen; omega)
  have hft : Byt (PlainAid.bt t) := byt_bt t
  obtain ⟨f, hf⟩ : ∃ f, f = PlainAid.bt t := ⟨_, rfl⟩
  rw [← hf] at hRw1 hft
  clear hf
  obtain ⟨m, hme⟩ : ∃ m, m = t.size := ⟨_, rfl⟩
  rw [← hme] at hconv hc1 hRw1 hm1 hm2
  clear hme
  have hR2 := hR1.next hbw1
  have b1 := hb1.trans (hbw1.mono hb1.size)
  have hR1s := hR1
  clear hR1
  rw [hconv]
  clear hconv
  go_wp2_with fail
  refine (few_any _ m c1 30 hc1 hc1' (by decide) f _ hRw1).mono ?_
  rintro e w3 ⟨v3, rfl, hown3, hb3⟩
  rw [show min m 30 = m by omega] at hown3
  have hRa3 := hRw1.below hb3
  have hR3 := hR2.next hb3
  have b3 := b1.trans (hb3.mono b1.size)
  clear hRw1 hR2
  obtain ⟨m', rfl⟩ : ∃ m', m = m' + 1 := ⟨m - 1, by omega⟩
  obtain ⟨gb, cb, rfl⟩ := ownsRow_succ hown3
  have hgb := hown3.lt gb rfl
  go_wp2_with fail
  refine (around_any at_ (m' + 1) hat (by omega) (by omega) _).mono ?_
  rintro e w' ⟨rfl, rfl⟩
  have hk := aroundI_lt at_ (m' + 1) (by omega)
  obtain ⟨k, hke⟩ : ∃ k, k = aroundI at_ (m' + 1) := ⟨_, rfl⟩
  rw [← hke] at hk ⊢
  clear hke
  have hfz := hown3.frozenAt k
  obtain ⟨y0, hy0⟩ : ∃ y0, y0 = f k := ⟨_, rfl⟩
  have hc0 : w3.cell? ⟨gb, k, none⟩ = some (.int .u8 y0) := by
    rw [hown3.cellAt k (by omega), List.getElem?_map, hy0]
    simp [gl, hk]
  have hown4 := (hown3.stored k (.int .u8 (bits BinOp.xor IntKind.u8 y0 by_))).1
  rw [← List.map_set] at hown4
  have HO4 := Lib.hid hown4
  have HY0 := Lib.hid hy0
  clear hown4 hown3 hy0
  go_wp2
  obtain ⟨W, hW⟩ : ∃ W, W = w3.setCell ⟨gb, k, none⟩ (.int .u8 (bits BinOp.xor IntKind.u8 y0 by_)) := ⟨_, rfl⟩
  rw [← hW] at HO4 ⊢
  have hRa : Rd W W1.heap.size (some ⟨w1.heap.size, 0, none⟩) (m' + 1) fun k => .int .u8 (f k) := by
    rw [hW]
    exact hRa3.setCell (p := ⟨gb, k, none⟩) hgb.1 _
  have hRb := Rd.of_lit HO4.out
  have bW : Below w.heap.size w W := by
    rw [hW]
    exact b3.setCell (p := ⟨gb, k, none⟩) (by have := b1.size; simp; omega) _
  have hRl : Rd W W.heap.size A1 n fun k => .int .i64 ((gl g n)[k]?.getD 0) := by
    rw [hW]
    have hle : w1.heap.size ≤ gb := by have := hbw1.size; omega
    exact ((hR1s.below (hbw1.trans (hb3.mono hbw1.size))).setCell (p := ⟨gb, k, none⟩) hle _).more (by have h1 := hbw1.size; have h2 := hb3.size; simp; omega)
  have hRa' : Rd W W.heap.size (some ⟨w1.heap.size, 0, none⟩) (m' + 1) fun k => .int .u8 (f k) := hRa.more (by rw [hW]; have := hb3.size; simp; omega)
  have hmem : ∀ z ∈ gl f (m' + 1), 0 ≤ z ∧ z ≤ 255 := fun z hz => by
    simp only [gl, List.mem_map] at hz
    obtain ⟨j, _, rfl⟩ := hz
    exact hft j
  have hfb : Byt fun j => ((gl f (m' + 1)).set k (bits BinOp.xor IntKind.u8 y0 by_))[j]?.getD 0 := byt_list _ (mem_set_byt hmem _ _ _)
  obtain ⟨f2, hf2⟩ : ∃ f2 : Nat → Int, f2 = fun j => ((gl f (m' + 1)).set k (bits BinOp.xor IntKind.u8 y0 by_))[j]?.getD 0 := ⟨_, rfl⟩
  have hf2a : ∀ j, j < m' + 1 → j ≠ k → f j = f2 j := fun j hj hne => by
    rw [hf2]; show f j = ((gl f (m' + 1)).set k (bits BinOp.xor IntKind.u8 y0 by_))[j]?.getD 0
    rw [set_other hne]; simp [gl, hj]
  have hf2b : f2 k = bits BinOp.xor IntKind.u8 y0 by_ := by
    rw [hf2]; show ((gl f (m' + 1)).set k (bits BinOp.xor IntKind.u8 y0 by_))[k]?.getD 0 = _
    rw [List.getElem?_set_self (by rw [gl_length]; exact hk)]; rfl
  have hRb' : Rd W W.heap.size (some ⟨gb, 0, none⟩) (m' + 1) fun j => .int .u8 (f2 j) := by rw [hf2]; exact hRb
  rw [← hf2] at hfb
  have hfin : ((sumS (strF f (m' + 1)) (gl g n) == sumS (strF f2 (m' + 1)) (gl g n)) == (by_ == 0)) = true := by
    rw [beq_iff_eq, Bool.eq_iff_iff, beq_iff_eq, beq_iff_eq, sumS_str hft, sumS_str hfb, sumI_label hft hfb (by omega) (q := k / 8) (by omega) (fun j hj hne => hf2a j hj (by rintro rfl; exact hne rfl)) _ (by rw [gl_length]; omega)]
    constructor
    · intro h
      have := h k hk
      rw [hf2b, ← HY0.out] at this
      exact (xor_self_iff (by rw [HY0.out]; exact hft k) hby).1 this
    · intro h j hj
      by_cases hjk : j = k
      · subst hjk
        rw [hf2b, ← HY0.out]
        exact (xor_self_iff (by rw [HY0.out]; exact hft j) hby).2 h
      · exact hf2a j hj hjk
  have cva : ∀ w', Below W.heap.size W w' → (convert 30 9 (.slice (some ⟨w1.heap.size, 0, none⟩) (m' + 1) c1)).run Try.prog w' = .ok (.string (strF f (m' + 1))) w' := fun w' h => conv_back w' 30 9 5 _ _ _ _ f hft (by omega) Try.underlying30 Try.underlying5 Try.underlying9 (hRa'.next h)
  have cvb : ∀ w', Below W.heap.size W w' → (convert 30 9 (.slice (some ⟨gb, 0, none⟩) (m' + 1) cb)).run Try.prog w' = .ok (.string (strF f2 (m' + 1))) w' := fun w' h => conv_back w' 30 9 5 _ _ _ _ f2 hfb (by omega) Try.underlying30 Try.underlying5 Try.underlying9 (hRb'.next h)
  have CVA := Lib.hid cva
  have CVB := Lib.hid cvb
  have hsa := Nat.le_trans (Nat.le_of_eq (strF_size f (m' + 1))) (show m' + 1 ≤ 1000 by omega)
  have hsb := Nat.le_trans (Nat.le_of_eq (strF_size f2 (m' + 1))) (show m' + 1 ≤ 1000 by omega)
  obtain ⟨sa, hsae⟩ : ∃ sa, sa = strF f (m' + 1) := ⟨_, rfl⟩
  obtain ⟨sb, hsbe⟩ : ∃ sb, sb = strF f2 (m' + 1) := ⟨_, rfl⟩
  rw [← hsae] at hfin hsa CVA
  rw [← hsbe] at hfin hsb CVB
  have hn1000 : n ≤ 1000 := by omega
  clear hW HO4 hc0 hfz hgb hRa hRb hRa' hRb' hf2 hf2a hf2b hfb hmem cva cvb hsae hsbe hRa3 hR3 HY0 hft hR1s
  have hbW := Below.refl W.heap.size W
  go_region_held3 (fun w' => Below W.heap.size W w' ∧ (convert 30 9 (.slice (some ⟨w1.heap.size, 0, none⟩) (m' + 1) c1)).run Try.prog w' = .ok (.string sa) w' ∧ (convert 30 9 (.slice (some ⟨gb, 0, none⟩) (m' + 1) cb)).run Try.prog w' = .ok (.string sb) w')
    (first | exact ⟨by assumption, CVA.out _ (by assumption), CVB.out _ (by assumption)⟩ | exact ⟨hbW.drew, CVA.out _ hbW.drew, CVB.out _ hbW.drew⟩)
    (first
      | (go_at_call 13; (with_reducible refine (sumW W _ (by assumption) sa hsa A1 n d1 hn1000 (gl g n) HL1.out hRl).mono ?_); rintro e w' ⟨rfl, hbx⟩)
      | (go_at_call 13; (with_reducible refine (sumW W _ (by assumption) sb hsb A1 n d1 hn1000 (gl g n) HL1.out hRl).mono ?_); rintro e w' ⟨rfl, hbx⟩)
      | (go_at_call 15; (with_reducible refine (livesW W _ (by assumption)).mono ?_); rintro e w' ⟨rfl, hbx⟩))
  go_wp2
  go_ret
  exact ⟨rfl, bW.trans (hbx.mono bW.size)⟩
end Go.Proofs.Ytjogcpjfkjepcaa
