/- The walks of the laws on package hash. -/
import Derived.Test.YtjogcpjfkjepcaaHashL
namespace Go.Proofs.Ytjogcpjfkjepcaa
open Go.RowKit

theorem rd_of_row {k : IntKind} {w : World} {a : Option Addr} {len cap : Nat} {zs : List Int} (h : (a = none ∧ len = 0 ∧ cap = 0 ∧ zs = []) ∨
  ∃ x : Addr, a = some x ∧ len ≤ cap ∧ cap ≤ maxLen ∧ zs.length = cap ∧ (∀ i, i < zs.length → w.cell? (x.add i) = some (.int k (zs.getD i 0))) ∧ ∀ n ∈ zs, (Lit.int k n).wf = true) :
    Rd w w.heap.size a len (fun i => .int k (zs[i]?.getD 0)) ∧ len ≤ cap ∧ cap ≤ maxLen ∧ ((Lit.int k 0).wf = true → ∀ i : Nat, (Lit.int k (zs[i]?.getD 0)).wf = true) := by
  rcases h with ⟨rfl, rfl, rfl, rfl⟩ | ⟨x, rfl, h1, h2, h3, h4, h5⟩
  · exact ⟨Rd.nil, Nat.le_refl _, Nat.zero_le _, fun h i => by simpa using h⟩
  · refine ⟨fun hn => ⟨x, rfl, ?_, fun i hi => ?_⟩, h1, h2, fun h i => ?_⟩
    · have := World.block_lt_of_cell? w _ (h4 0 (by omega))
      rwa [add_block] at this
    · rw [h4 i (by omega), List.getD_eq_getElem?_getD]
    · by_cases hi : i < zs.length
      · rw [List.getElem?_eq_getElem hi]
        exact h5 _ (List.getElem_mem hi)
      · rw [List.getElem?_eq_none (Nat.le_of_not_lt hi)]
        exact h
/-- A row of ints of the call's own, for the next call. -/
theorem own_ints {w w' : World} {base n : Nat} {e : TypeId} {v : Value} {q : IntKind} {zs : List Int} (h : w.ownsRow base e 1 v n (zs.map (Value.int q))) (hb : Below w.heap.size w w') : w'.ownsRow base e 1 v n (zs.map (Value.int q)) :=
  h.kept (row := none) ⟨hb.os, hb.tape, hb.output, hb.size, fun k hk _ => hb.block k hk⟩ (by cases v.ownBlock <;> simp)

theorem Rd.next {w w' : World} {A : Option Addr} {n : Nat} {f : Nat → Value} (h : Rd w w.heap.size A n f) (hb : Below w.heap.size w w') : Rd w' w'.heap.size A n f := (h.below hb).more hb.size
theorem sumS_any (s : ByteArray) (hs : s.size ≤ 1000) (A : Option Addr) (len cap : Nat) (hlen : len ≤ 1000) (g : Nat → Int) (w : World) (hR : Rd w w.heap.size A len fun k => .int .i64 (g k)) :
    Calls Try.prog 13 #[.string s, .slice A len cap] w fun e W' => e = .returned (.int .u64 (sumS s (gl g len))) ∧ Below w.heap.size w W' := sum_any s (by omega) A len cap (by omega) g w hR
theorem rSumS_any (s : ByteArray) (hs : s.size ≤ 1000) (A : Option Addr) (len cap : Nat) (hlen : len ≤ 1000) (g : Nat → Int) (w : World) (hR : Rd w w.heap.size A len fun k => .int .i64 (g k)) :
    Calls Try.prog 14 #[.string s, .slice A len cap] w fun e W' => e = .returned (.int .u64 (sumS s (gl g len))) ∧ Below w.heap.size w W' := rSum_any s (by omega) A len cap (by omega) g w hR
theorem bytesS_any (s : ByteArray) (hs : s.size ≤ 1000) (A : Option Addr) (len cap : Nat) (hlen : len ≤ 1000) (g : Nat → Int) (hg : Byt g) (w : World) (hR : Rd w w.heap.size A len fun k => .int .u8 (g k)) :
    Calls Try.prog 17 #[.string s, .slice A len cap] w fun e W' => e = .returned (.int .u64 (sumS s (bytesL g len))) ∧ Below w.heap.size w W' := bytes_any s (by omega) A len cap (by omega) g hg w hR
theorem rBytesS_any (s : ByteArray) (hs : s.size ≤ 1000) (A : Option Addr) (len cap : Nat) (hlen : len ≤ 1000) (g : Nat → Int) (hg : Byt g) (w : World) (hR : Rd w w.heap.size A len fun k => .int .u8 (g k)) :
    Calls Try.prog 18 #[.string s, .slice A len cap] w fun e W' => e = .returned (.int .u64 (sumS s (bytesL g len))) ∧ Below w.heap.size w W' := rBytes_any s (by omega) A len cap (by omega) g hg w hR
theorem pairS_any (a b : Int) (w : World) : Calls Try.prog 19 #[.int .u64 a, .int .u64 b] w fun e W' => e = .returned (.int .u64 (sumS ⟨#[112, 97, 105, 114]⟩ [toI a, toI b])) ∧ Below w.heap.size w W' := pair_any a b w
theorem rPairS_any (a b : Int) (w : World) : Calls Try.prog 20 #[.int .u64 a, .int .u64 b] w fun e W' => e = .returned (.int .u64 (sumS ⟨#[112, 97, 105, 114]⟩ [toI a, toI b])) ∧ Below w.heap.size w W' := rPair_any a b w
theorem byt_gl {g : Nat → Int} (h : Byt g) (n : Nat) : Byt fun k => (gl g n)[k]?.getD 0 := byt_list _ fun z hz => by
  simp only [gl, List.mem_map] at hz
  obtain ⟨k, _, rfl⟩ := hz
  exact h k

set_option maxHeartbeats 2000000 in
theorem hashSum_walk (s0 : ByteArray) (A : Option Addr) (len cap : Nat) (g : Nat → Int) (w : World) (hlc : len ≤ cap) (hcm : cap ≤ maxLen) (hR : Rd w w.heap.size A len fun k => .int .i64 (g k)) :
    Calls Try.prog 3 #[.string s0, .slice A len cap] w fun e w' => e = .returned (.bool true) ∧ Below w.heap.size w w' := by
  have hss := shortB_size s0 40
  go_enter Try.func3, Try.ntmps3
  go_wp2_with (first
    | (go_at_call 11; refine (short_any s0 40 (by decide) _).mono ?_; rintro e w' ⟨rfl, rfl⟩)
    | (go_at_call 12; refine (ints_any A len cap 12 hlc hcm (by decide) g _ hR).mono ?_; rintro e w1 ⟨v, rfl, hown, hb1⟩))
  obtain ⟨s, hs⟩ : ∃ s, s = shortB s0 40 := ⟨_, rfl⟩
  rw [← hs] at hss ⊢
  clear hs
  obtain ⟨A1, c1, rfl, hc1, hl1, hR1⟩ := Rd.of_ints hown
  clear hl1 hown
  obtain ⟨n, hn⟩ : ∃ n, n = min len 12 := ⟨_, rfl⟩
  rw [← hn] at hR1 ⊢
  have hn12 : n ≤ 12 := by omega
  clear hn
  go_wp2_with fail
  refine (sumS_any s (by omega) A1 n c1 (by omega) _ _ hR1).mono ?_
  rintro e w2 ⟨rfl, hb2⟩
  go_wp2_with fail
  refine (rSumS_any s (by omega) A1 n c1 (by omega) _ _ (hR1.next hb2)).mono ?_
  rintro e w3 ⟨rfl, hb3⟩
  go_wp2_with fail
  refine (sumS_any s (by omega) none 0 0 (by omega) (fun _ => 0) _ Rd.nil).mono ?_
  rintro e w4 ⟨rfl, hb4⟩
  go_wp2_with fail
  refine (rSumS_any s (by omega) none 0 0 (by omega) (fun _ => 0) _ Rd.nil).mono ?_
  rintro e w5 ⟨rfl, hb5⟩
  go_wp2_with fail
  refine (lives_any _).mono ?_
  rintro e w6 ⟨rfl, hb6⟩
  go_wp2
  go_ret
  have b2 := hb1.trans (hb2.mono hb1.size)
  have b3 := b2.trans (hb3.mono b2.size)
  have b4 := b3.trans (hb4.mono b3.size)
  have b5 := b4.trans (hb5.mono b4.size)
  exact ⟨rfl, b5.trans (hb6.mono b5.size)⟩

set_option maxHeartbeats 2000000 in
theorem hashBytes_walk (s0 : ByteArray) (A : Option Addr) (len cap : Nat) (g : Nat → Int) (hg : Byt g) (x y : Int) (w : World) (hlc : len ≤ cap) (hcm : cap ≤ maxLen) (hR : Rd w w.heap.size A len fun k => .int .u8 (g k)) :
    Calls Try.prog 4 #[.string s0, .slice A len cap, .int .u64 x, .int .u64 y] w fun e w' => e = .returned (.bool true) ∧ Below w.heap.size w w' := by
  have hss := shortB_size s0 20
  go_enter Try.func4, Try.ntmps4
  go_wp2_with (first
    | (go_at_call 11; refine (short_any s0 20 (by decide) _).mono ?_; rintro e w' ⟨rfl, rfl⟩)
    | (go_at_call 16; refine (few_any A len cap 60 hlc hcm (by decide) g _ hR).mono ?_; rintro e w1 ⟨v, rfl, hown, hb1⟩))
  obtain ⟨s, hs⟩ : ∃ s, s = shortB s0 20 := ⟨_, rfl⟩
  rw [← hs] at hss ⊢
  clear hs
  obtain ⟨A1, c1, rfl, hc1, hl1, hR1⟩ := Rd.of_ints hown
  clear hl1 hown
  obtain ⟨n, hn⟩ : ∃ n, n = min len 60 := ⟨_, rfl⟩
  rw [← hn] at hR1 ⊢
  have hn12 : n ≤ 60 := by omega
  clear hn
  go_wp2_with fail
  refine (bytesS_any s (by omega) A1 n c1 (by omega) _ (byt_gl hg n) _ hR1).mono ?_
  rintro e w2 ⟨rfl, hb2⟩
  go_wp2_with fail
  refine (rBytesS_any s (by omega) A1 n c1 (by omega) _ (byt_gl hg n) _ (hR1.next hb2)).mono ?_
  rintro e w3 ⟨rfl, hb3⟩
  go_wp2_with fail
  refine (pairS_any x y _).mono ?_
  rintro e w4 ⟨rfl, hb4⟩
  go_wp2_with fail
  refine (rPairS_any x y _).mono ?_
  rintro e w5 ⟨rfl, hb5⟩
  go_wp2_with fail
  refine (lives_any _).mono ?_
  rintro e w6 ⟨rfl, hb6⟩
  go_wp2
  go_ret
  have b2 := hb1.trans (hb2.mono hb1.size)
  have b3 := b2.trans (hb3.mono b2.size)
  have b4 := b3.trans (hb4.mono b3.size)
  have b5 := b4.trans (hb5.mono b4.size)
  exact ⟨rfl, b5.trans (hb6.mono b5.size)⟩
end Go.Proofs.Ytjogcpjfkjepcaa
