/- The walk of the law HashOneWord: it returns true and changes nothing that was there. -/
import Derived.Test.YtjogcpjfkjepcaaHashU
import Derived.Deep.RegionHeld3
namespace Go.Proofs.Ytjogcpjfkjepcaa
open Go.RowKit

theorem sumS_set (s : ByteArray) (l : List Int) (k : Nat) (v : Int) (hk : k < l.length) (hl : ∀ z ∈ l, -9223372036854775808 ≤ z ∧ z ≤ 9223372036854775807) (hv : -9223372036854775808 ≤ v ∧ v ≤ 9223372036854775807) :
    sumS s l = sumS s (l.set k v) ↔ l[k] = v := by
  have e1 : l = l.take k ++ l[k] :: l.drop (k + 1) := by rw [← List.drop_eq_getElem_cons hk, List.take_append_drop]
  have e2 : l.set k v = l.take k ++ v :: l.drop (k + 1) := List.set_eq_take_append_cons_drop .. |>.trans (by simp [hk])
  rw [e2]
  conv => lhs; lhs; rw [e1]
  rw [sumS_one, u64_i64_inj (hl _ (List.getElem_mem hk)) hv]

/-- Sum in a world that has grown since W. -/
theorem sumW (W wc : World) {q : Prop} (hbq : Below W.heap.size W wc ∧ q) (s : ByteArray) (hs : s.size ≤ 1000) (A : Option Addr) (len cap : Nat) (hlen : len ≤ 1000) (l : List Int) (hl : l.length = len) (hR : Rd W W.heap.size A len fun k => .int .i64 (l[k]?.getD 0)) :
    Calls Try.prog 13 #[.string s, .slice A len cap] wc fun e W' => e = .returned (.int .u64 (sumS s l)) ∧ Below W.heap.size W W' := by
  have hb := hbq.1
  refine (sumS_any s hs A len cap hlen _ wc (hR.next hb)).mono ?_
  rintro e w' ⟨rfl, hb'⟩
  subst hl
  rw [gl_getD]
  exact ⟨rfl, hb.trans (hb'.mono hb.size)⟩
theorem livesW (W wc : World) {q : Prop} (hbq : Below W.heap.size W wc ∧ q) : Calls Try.prog 15 #[] wc fun e W' => e = .returned (.bool true) ∧ Below W.heap.size W W' := by
  have hb := hbq.1
  refine (lives_any wc).mono ?_
  rintro e w' ⟨rfl, hb'⟩
  exact ⟨rfl, hb.trans (hb'.mono hb.size)⟩

set_option maxHeartbeats 4000000 in
theorem hashOneWord_walk (s0 : ByteArray) (A : Option Addr) (len cap : Nat) (g : Nat → Int) (hg : ∀ k, -9223372036854775808 ≤ g k ∧ g k ≤ 9223372036854775807) (at_ v : Int) (hat : -9223372036854775808 ≤ at_ ∧ at_ ≤ 9223372036854775807) (hv : -9223372036854775808 ≤ v ∧ v ≤ 9223372036854775807) (w : World) (hlc : len ≤ cap) (hcm : cap ≤ maxLen) (hR : Rd w w.heap.size A len fun k => .int .i64 (g k)) :
    Calls Try.prog 5 #[.string s0, .slice A len cap, .int .i64 at_, .int .i64 v] w fun e w' => e = .returned (.bool true) ∧ Below w.heap.size w w' := by
  have hss := shortB_size s0 20
  obtain ⟨i0, hi, hz0, hz1, hz2⟩ := info_parts Try.infoInt
  go_enter Try.func5, Try.ntmps5
  go_wp2_with (go_at_call 11; refine (short_any s0 20 (by decide) _).mono ?_; rintro e w' ⟨rfl, rfl⟩)
  obtain ⟨s, hs⟩ : ∃ s, s = shortB s0 20 := ⟨_, rfl⟩
  rw [← hs] at hss ⊢
  clear hs
  refine (ints_any A len cap 9 hlc hcm (by decide) g _ hR).mono ?_
  rintro e w1 ⟨v1, rfl, hown, hb1⟩
  obtain ⟨n, hn⟩ : ∃ n, n = min len 9 := ⟨_, rfl⟩
  rw [← hn] at hown
  have hn12 : n ≤ 9 := by omega
  clear hn
  go_wp2_with (at_builtin; refine wpList_append_own _ rfl _ _ 22 rfl w.heap.size 3 i0 (.int .i64 0) 1 8 Try.underlying22 hi hz0 hz1 hz2 rfl (by decide) _ _ _ rfl (hown.alloc _) ⟨w1.heap.size, 0, none⟩ 1 1 [.int .i64 7] rfl rfl (cell_one_new _ _ _) (by simp [Value.oneCell']) (by unfold maxLen; omega) (by omega) (by have := hb1.size; simp; omega) ?_; intro v2 w2 hown2 hgrow2 _)
  have b2 : Below w.heap.size w w2 := (hb1.alloc hb1.size _).grown hgrow2 (by have := hb1.size; simp; omega) (fun k e => (hown.lt k e).1)
  have e2 : (gl g n).map (Value.int .i64) ++ [.int .i64 7] = (gl g n ++ [7]).map (Value.int .i64) := by simp
  rw [e2] at hown2
  have hLl : (gl g n ++ [7]).length = n + 1 := by simp [gl]
  have hLb : ∀ z ∈ gl g n ++ [7], -9223372036854775808 ≤ z ∧ z ≤ 9223372036854775807 := fun z hz => by
    rcases List.mem_append.1 hz with h | h
    · simp only [gl, List.mem_map] at h
      obtain ⟨k, _, rfl⟩ := h
      exact hg k
    · simp at h; omega
  obtain ⟨L, hL⟩ : ∃ L, L = gl g n ++ [7] := ⟨_, rfl⟩
  rw [← hL] at hown2 hLl hLb
  have HLl := Lib.hid hLl
  have HLb := Lib.hid hLb
  clear hL hLl hLb e2 hgrow2 hown
  obtain ⟨A2, c2, rfl, hc2, hl2, hR2⟩ := Rd.of_ints hown2
  have hc2m := own_cap hown2
  clear hl2 hown2
  refine (ints_any A2 (n + 1) c2 10 hc2 hc2m (by decide) _ _ hR2).mono ?_
  rintro e w3 ⟨v3, rfl, hown3, hb3⟩
  rw [show min (n + 1) 10 = n + 1 by omega] at hown3
  have hgl := gl_getD L
  rw [HLl.out] at hgl
  rw [hgl] at hown3
  have hR3 : Rd w3 w2.heap.size A2 (n + 1) fun k => .int .i64 (L[k]?.getD 0) := hR2.below hb3
  have b3 := b2.trans (hb3.mono b2.size)
  clear hR2 hgl
  obtain ⟨gb, cb, rfl⟩ := ownsRow_succ hown3
  have hgb := hown3.lt gb rfl
  go_wp2_with fail
  refine (around_any at_ (n + 1) hat (by omega) (by omega) _).mono ?_
  rintro e w' ⟨rfl, rfl⟩
  have hk := aroundI_lt at_ (n + 1) (by omega)
  obtain ⟨k, hke⟩ : ∃ k, k = aroundI at_ (n + 1) := ⟨_, rfl⟩
  rw [← hke] at hk ⊢
  clear hke
  have hcl := hown3.cellAt k (by omega)
  have hfz := hown3.frozenAt k
  rw [List.getElem?_eq_getElem (by rw [List.length_map, HLl.out]; exact hk)] at hcl
  obtain ⟨hown4, hgrow4⟩ := hown3.stored k (.int .i64 v)
  have HO4 := Lib.hid hown4
  have HG4 := Lib.hid hgrow4
  clear hown4 hgrow4 hown3
  go_wp2
  obtain ⟨W, hW⟩ : ∃ W, W = w3.setCell ⟨gb, k, none⟩ (.int .i64 v) := ⟨_, rfl⟩
  rw [← hW] at HO4 HG4 ⊢
  have hRa : Rd W W.heap.size A2 (n + 1) fun k => .int .i64 (L[k]?.getD 0) := by
    rw [hW]
    exact (hR3.setCell (p := ⟨gb, k, none⟩) hgb.1 _).more (by simp; have := hb3.size; omega)
  have hRb : Rd W W.heap.size (some ⟨gb, 0, none⟩) (n + 1) fun j => .int .i64 ((L.set k v)[j]?.getD 0) := by
    have h4 := HO4.out
    rw [← List.map_set] at h4
    obtain ⟨A', c', hv', _, _, hr'⟩ := Rd.of_ints h4
    have : some ⟨gb, 0, none⟩ = A' := by injection hv'
    rw [this]
    exact hr'
  have bW : Below w.heap.size w W := by
    rw [hW]
    exact b3.setCell (p := ⟨gb, k, none⟩) (by have := b2.size; simp; omega) _
  have hkl : k < L.length := by rw [HLl.out]; exact hk
  have hfin : ((sumS s L == sumS s (L.set k v)) == (L[k]?.getD 0 == v)) = true := by
    rw [beq_iff_eq, Bool.eq_iff_iff, beq_iff_eq, beq_iff_eq, List.getElem?_eq_getElem hkl, Option.getD_some]
    exact sumS_set s L k v hkl HLb.out hv
  have hsl : (L.set k v).length = n + 1 := by rw [List.length_set]; exact HLl.out
  have HSL := Lib.hid hsl
  clear hW HO4 HG4 hcl hfz hR3 hsl hgb hkl
  obtain ⟨ad, rfl, hab, hac⟩ := hRa.at_ hk
  have hbW := Below.refl W.heap.size W
  have hs1000 : s.size ≤ 1000 := by omega
  have hn1000 : n + 1 ≤ 1000 := by omega
  have hk1 : (0 : Int) ≤ k := by omega
  have hk2 : (k : Int) < (n : Int) + 1 := by omega
  go_region_held3 (fun w' => Below W.heap.size W w' ∧ w'.cell? (ad.add k) = some (.int .i64 (L[k]?.getD 0)))
    (first | exact ⟨by assumption, by assumption⟩ | (exact ⟨Below.drew (by assumption), by assumption⟩) | (exact ⟨by assumption, (Below.cell (by assumption) (by rw [add_block]; exact hab)).trans hac⟩) | (exact ⟨Below.drew (by assumption), (Below.cell (by assumption) (by rw [add_block]; exact hab)).trans hac⟩))
    (first
      | (go_at_call 13; (with_reducible refine (sumW W _ (by assumption) s hs1000 (some ad) (n + 1) c2 hn1000 L HLl.out hRa).mono ?_); rintro e w' ⟨rfl, hbx⟩)
      | (go_at_call 13; (with_reducible refine (sumW W _ (by assumption) s hs1000 (some ⟨gb, 0, none⟩) (n + 1) cb hn1000 (L.set k v) HSL.out hRb).mono ?_); rintro e w' ⟨rfl, hbx⟩)
      | (go_at_call 15; (with_reducible refine (livesW W _ (by assumption)).mono ?_); rintro e w' ⟨rfl, hbx⟩))
  go_wp2
  go_ret
  exact ⟨rfl, bW.trans (hbx.mono bW.size)⟩
end Go.Proofs.Ytjogcpjfkjepcaa
