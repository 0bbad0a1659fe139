/- The walk of the law HashOneGroup: it returns true and changes nothing that was there. -/
import Derived.Test.YtjogcpjfkjepcaaHashG
namespace Go.Proofs.Ytjogcpjfkjepcaa
open Go.RowKit

theorem byt_of_list {l : List Int} (h : ∀ z ∈ l, 0 ≤ z ∧ z ≤ 255) : Byt fun k => l[k]?.getD 0 := byt_list l h
theorem mem_set_byt {l : List Int} (h : ∀ z ∈ l, 0 ≤ z ∧ z ≤ 255) (k : Nat) (a b : Int) : ∀ z ∈ l.set k (bits BinOp.xor IntKind.u8 a b), 0 ≤ z ∧ z ≤ 255 := fun z hz => by
  rcases List.mem_or_eq_of_mem_set hz with h1 | rfl
  · exact h z h1
  · exact bounds_u8 (wf_bits _ _ _ _)

theorem grp_fin (s : ByteArray) {f g : Nat → Int} (hf : Byt f) (hg : Byt g) {n k : Nat} (hn : n ≤ 1000) (hk : k < n) (h : ∀ j, j < n → j / 8 ≠ k / 8 → f j = g j) :
    ((sumS s (bytesL f n) == sumS s (bytesL g n)) == agreeB f g n) = true := by
  rw [beq_iff_eq, Bool.eq_iff_iff, beq_iff_eq, agreeB_iff]
  exact sumS_group s hf hg hn (by omega) h
theorem set_other {l : List Int} {k j : Nat} {x : Int} (h : j ≠ k) : (l.set k x)[j]?.getD 0 = l[j]?.getD 0 := by
  rw [List.getElem?_set_ne (by omega)]
theorem Rd.of_lit {w : World} {base e n c gb : Nat} {q : IntKind} {zs : List Int} (h : w.ownsRow base e 1 (.slice (some ⟨gb, 0, none⟩) n c) n (zs.map (Value.int q))) : Rd w w.heap.size (some ⟨gb, 0, none⟩) n fun k => .int q (zs[k]?.getD 0) := by
  obtain ⟨A', c', hv', _, _, hr'⟩ := Rd.of_ints h
  have : some ⟨gb, 0, none⟩ = A' := by injection hv'
  rw [this]
  exact hr'

set_option maxHeartbeats 4000000 in
theorem hashOneGroup_walk (s0 : ByteArray) (A : Option Addr) (len cap : Nat) (g : Nat → Int) (hg : Byt g) (at_ one two : Int) (hat : -9223372036854775808 ≤ at_ ∧ at_ ≤ 9223372036854775807) (w : World) (hlc : len ≤ cap) (hcm : cap ≤ maxLen) (hR : Rd w w.heap.size A len fun k => .int .u8 (g k)) :
    Calls Try.prog 6 #[.string s0, .slice A len cap, .int .i64 at_, .int .u8 one, .int .u8 two] w fun e w' => e = .returned (.bool true) ∧ Below w.heap.size w w' := by
  have hss := shortB_size s0 20
  obtain ⟨i1, hi', hz0', hz1', hz2'⟩ := info_parts Try.infoByte
  go_enter Try.func6, Try.ntmps6
  go_wp2_with (go_at_call 11; refine (short_any s0 20 (by decide) _).mono ?_; rintro e w' ⟨rfl, rfl⟩)
  obtain ⟨s, hs⟩ : ∃ s, s = shortB s0 20 := ⟨_, rfl⟩
  rw [← hs] at hss ⊢
  clear hs
  refine (few_any A len cap 39 hlc hcm (by decide) g _ hR).mono ?_
  rintro e w1 ⟨v1, rfl, hown, hb1⟩
  obtain ⟨n, hn⟩ : ∃ n, n = min len 39 := ⟨_, rfl⟩
  rw [← hn] at hown
  have hn12 : n ≤ 39 := by omega
  clear hn
  go_wp2_with (at_builtin; refine wpList_append_own _ rfl _ _ 30 rfl w.heap.size 5 i1 (.int .u8 0) 1 1 Try.underlying30 hi' hz0' hz1' hz2' rfl (by decide) _ _ _ rfl (hown.alloc _) ⟨w1.heap.size, 0, none⟩ 1 1 [.int .u8 65] rfl rfl (cell_one_new _ _ _) (by simp [Value.oneCell']) (by unfold maxLen; omega) (by omega) (by have := hb1.size; simp; omega) ?_; intro v2 w2 hown2 hgrow2 _)
  have b2 : Below w.heap.size w w2 := (hb1.alloc hb1.size _).grown hgrow2 (by have := hb1.size; simp; omega) (fun k e => (hown.lt k e).1)
  have e2 : (gl g n).map (Value.int .u8) ++ [.int .u8 65] = (gl g n ++ [65]).map (Value.int .u8) := by simp
  rw [e2] at hown2
  have hLl : (gl g n ++ [65]).length = n + 1 := by simp [gl]
  have hLb : ∀ z ∈ gl g n ++ [65], 0 ≤ z ∧ z ≤ 255 := fun z hz => by
    rcases List.mem_append.1 hz with h | h
    · simp only [gl, List.mem_map] at h
      obtain ⟨k, _, rfl⟩ := h
      exact hg k
    · simp at h; omega
  obtain ⟨L, hL⟩ : ∃ L, L = gl g n ++ [65] := ⟨_, rfl⟩
  rw [← hL] at hown2 hLl hLb
  have HLl := Lib.hid hLl
  have HLb := Lib.hid hLb
  clear hL hLl hLb e2 hgrow2 hown
  obtain ⟨A2, c2, rfl, hc2, hl2, hR2⟩ := Rd.of_ints hown2
  have hc2m := own_cap hown2
  clear hl2 hown2
  refine (few_any A2 (n + 1) c2 40 hc2 hc2m (by decide) _ _ hR2).mono ?_
  rintro e w3 ⟨v3, rfl, hown3, hb3⟩
  rw [show min (n + 1) 40 = n + 1 by omega] at hown3
  have hgl := gl_getD L
  rw [HLl.out] at hgl
  rw [hgl] at hown3
  have hR3 : Rd w3 w2.heap.size A2 (n + 1) fun k => .int .u8 (L[k]?.getD 0) := hR2.below hb3
  have b3 := b2.trans (hb3.mono b2.size)
  clear hR2 hgl
  obtain ⟨gb, cb, rfl⟩ := ownsRow_succ hown3
  have hgb := hown3.lt gb rfl
  go_wp2_with fail
  refine (around_any at_ (n + 1) hat (by omega) (by omega) _).mono ?_
  rintro e w' ⟨rfl, rfl⟩
  have hk := aroundI_lt at_ (n + 1) (by omega)
  obtain ⟨k, hke⟩ : ∃ k, k = aroundI at_ (n + 1) := ⟨_, rfl⟩
  rw [← hke] at hk ⊢
  clear hke
  have hcell : ∀ j, j < n + 1 → w3.cell? ⟨gb, j, none⟩ = some (.int .u8 (L[j]?.getD 0)) := fun j hj => by
    have hjl : j < L.length := by rw [HLl.out]; exact hj
    rw [hown3.cellAt j (by omega), List.getElem?_map, List.getElem?_eq_getElem hjl]; rfl
  have hfz := hown3.frozenAt k
  have hfz1 := hown3.frozenAt (k + 1)
  obtain ⟨y0, hy0⟩ : ∃ y0, y0 = L[k]?.getD 0 := ⟨_, rfl⟩
  obtain ⟨y1, hy1⟩ : ∃ y1, y1 = L[k + 1]?.getD 0 := ⟨_, rfl⟩
  have hc0 := hcell k hk
  rw [← hy0] at hc0
  have hc1 : k + 1 < n + 1 → w3.cell? ⟨gb, k + 1, none⟩ = some (.int .u8 y1) := fun h => by rw [hy1]; exact hcell _ h
  have hown4 := (hown3.stored k (.int .u8 (bits BinOp.xor IntKind.u8 y0 one))).1
  have hown5 := (hown4.stored (k + 1) (.int .u8 (bits BinOp.xor IntKind.u8 y1 two))).1
  rw [← List.map_set, ← List.map_set] at hown5
  rw [← List.map_set] at hown4
  have HO4 := Lib.hid hown4
  have HO5 := Lib.hid hown5
  clear hown4 hown5 hown3 hcell hy0 hy1
  have hs1000 : s.size ≤ 1000 := by omega
  by_cases h1 : k + 1 < n + 1 ∧ (k + 1) % 8 ≠ 0
  · obtain ⟨h1, h2⟩ := h1
    have h2' : (((k : Int) + 1) % 8 != 0) = true := by simp; omega
    have hc1 := hc1 h1
    go_wp2_with fail
    obtain ⟨W, hW⟩ : ∃ W, W = (w3.setCell ⟨gb, k, none⟩ (.int .u8 (bits BinOp.xor IntKind.u8 y0 one))).setCell ⟨gb, k + 1, none⟩ (.int .u8 (bits BinOp.xor IntKind.u8 y1 two)) := ⟨_, rfl⟩
    rw [← hW] at HO5 ⊢
    have hRa : Rd W W.heap.size A2 (n + 1) fun k => .int .u8 (L[k]?.getD 0) := by
      rw [hW]
      exact ((hR3.setCell (p := ⟨gb, k, none⟩) hgb.1 _).setCell (p := ⟨gb, k + 1, none⟩) hgb.1 _).more (by simp; have := hb3.size; omega)
    have hRb := Rd.of_lit HO5.out
    have bW : Below w.heap.size w W := by
      rw [hW]
      exact (b3.setCell (p := ⟨gb, k, none⟩) (by have := b2.size; simp; omega) _).setCell (p := ⟨gb, k + 1, none⟩) (by have := b2.size; simp; omega) _
    have hfa : Byt fun k => L[k]?.getD 0 := byt_list _ HLb.out
    have hfb : Byt fun j => ((L.set k (bits BinOp.xor IntKind.u8 y0 one)).set (k + 1) (bits BinOp.xor IntKind.u8 y1 two))[j]?.getD 0 := byt_list _ (mem_set_byt (mem_set_byt HLb.out _ _ _) _ _ _)
    have hfin := Lib.hid (grp_fin s hfa hfb (n := n + 1) (by omega) hk (fun j hj hne => by rw [set_other (by omega), set_other (by omega)]))
    clear hW HO4 HO5 hc0 hc1 hfz hfz1 hR3 hgb
    refine (bytesS_any s hs1000 A2 (n + 1) c2 (by omega) _ hfa _ hRa).mono ?_
    rintro e w4 ⟨rfl, hb4⟩
    have b4 := bW.trans (hb4.mono bW.size)
    have hRa4 := hRa.next hb4
    have hRb4 := hRb.next hb4
    clear hRa hRb
    go_wp2_with fail
    refine (bytesS_any s hs1000 _ (n + 1) cb (by omega) _ hfb _ hRb4).mono ?_
    rintro e w5 ⟨rfl, hb5⟩
    have b5 := b4.trans (hb5.mono b4.size)
    have hRa5 := hRa4.next hb5
    have hRb5 := hRb4.next hb5
    clear hRa4 hRb4
    go_wp2_with fail
    refine (sameBytes_any A2 _ (n + 1) (n + 1) c2 cb (by omega) (by omega) _ _ _ hRa5 hRb5).mono ?_
    rintro e w6 ⟨rfl, hb6⟩
    rw [decide_eq_true rfl, Bool.true_and]
    have b6 := b5.trans (hb6.mono b5.size)
    clear hRa5 hRb5
    have hfin' := hfin.out
    go_wp2_with fail
    refine (lives_any _).mono ?_
    rintro e w7 ⟨rfl, hb7⟩
    go_wp2
    go_ret
    exact ⟨rfl, b6.trans (hb7.mono b6.size)⟩
  · have h2' : (((k : Int) + 1) % 8 != 0) = false ∨ ¬ (k + 1 < n + 1) := by
      by_cases h3 : k + 1 < n + 1
      · left; simp; omega
      · right; exact h3
    clear h1 hc1 hfz1 HO5
    by_cases h3 : k + 1 < n + 1
    all_goals
      have h4 : k + 1 < n + 1 → (((k : Int) + 1) % 8 != 0) = false := fun h => by rcases h2' with h' | h'; exact h'; exact absurd h h'
      clear h2'
      try have h5 := h4 h3
      clear h4
      go_wp2_with fail
      obtain ⟨W, hW⟩ : ∃ W, W = w3.setCell ⟨gb, k, none⟩ (.int .u8 (bits BinOp.xor IntKind.u8 y0 one)) := ⟨_, rfl⟩
      rw [← hW] at HO4 ⊢
      have hRa : Rd W W.heap.size A2 (n + 1) fun k => .int .u8 (L[k]?.getD 0) := by
        rw [hW]
        exact (hR3.setCell (p := ⟨gb, k, none⟩) hgb.1 _).more (by simp; have := hb3.size; omega)
      have hRb := Rd.of_lit HO4.out
      have bW : Below w.heap.size w W := by
        rw [hW]
        exact b3.setCell (p := ⟨gb, k, none⟩) (by have := b2.size; simp; omega) _
      have hfa : Byt fun k => L[k]?.getD 0 := byt_list _ HLb.out
      have hfb : Byt fun j => (L.set k (bits BinOp.xor IntKind.u8 y0 one))[j]?.getD 0 := byt_list _ (mem_set_byt HLb.out _ _ _)
      have hfin := Lib.hid (grp_fin s hfa hfb (n := n + 1) (by omega) hk (fun j hj hne => by rw [set_other (by rintro rfl; exact hne rfl)]))
      clear hW HO4 hc0 hfz hR3 hgb
      refine (bytesS_any s hs1000 A2 (n + 1) c2 (by omega) _ hfa _ hRa).mono ?_
      rintro e w4 ⟨rfl, hb4⟩
      have b4 := bW.trans (hb4.mono bW.size)
      have hRa4 := hRa.next hb4
      have hRb4 := hRb.next hb4
      clear hRa hRb
      go_wp2_with fail
      refine (bytesS_any s hs1000 _ (n + 1) cb (by omega) _ hfb _ hRb4).mono ?_
      rintro e w5 ⟨rfl, hb5⟩
      have b5 := b4.trans (hb5.mono b4.size)
      have hRa5 := hRa4.next hb5
      have hRb5 := hRb4.next hb5
      clear hRa4 hRb4
      go_wp2_with fail
      refine (sameBytes_any A2 _ (n + 1) (n + 1) c2 cb (by omega) (by omega) _ _ _ hRa5 hRb5).mono ?_
      rintro e w6 ⟨rfl, hb6⟩
      rw [decide_eq_true rfl, Bool.true_and]
      have b6 := b5.trans (hb6.mono b5.size)
      clear hRa5 hRb5
      have hfin' := hfin.out
      go_wp2_with fail
      refine (lives_any _).mono ?_
      rintro e w7 ⟨rfl, hb7⟩
      go_wp2
      go_ret
      exact ⟨rfl, b6.trans (hb7.mono b6.size)⟩
end Go.Proofs.Ytjogcpjfkjepcaa
