/- The helpers of the reference package 01 that other laws use: Ints, Around, Bound, Pick, SameInts. -/
import Derived.Test.YtplnkainmfkfgaaDoorWords
import Derived.Test.YtplnkainmfkfgaaDoorWords2
import Derived.Test.YtplnkainmfkfgaaDoorProg
import Derived.WalkKit
import Derived.Lib.Hide
import Derived.WalkSpells
import Derived.WalkLawsBesides
import Derived.OpenShut
import Derived.Deep.QuietTactic
import Derived.BigQuiet
import Derived.WalkSmall
namespace Go.Proofs.YtplnkainmfkfgaaDoor
open Go.RowKit

theorem Tryd.infoInt : (Tryd.prog.info? 3).map (fun i => (i.zero, i.size, i.bytes)) = some (some (.int .i64 0), 1, 8) := by kernel_rfl
/-- g 0, .., g (n - 1). -/
def gl (g : Nat → Int) (n : Nat) : List Int := (List.range n).map g
theorem gl_succ (g : Nat → Int) (n : Nat) : gl g (n + 1) = gl g n ++ [g n] := by simp [gl, List.range_succ]
theorem gl_length (g : Nat → Int) (n : Nat) : (gl g n).length = n := by simp [gl]

theorem gl_getD (zs : List Int) : gl (fun k => zs[k]?.getD 0) zs.length = zs := by
  apply List.ext_getElem
  · simp [gl]
  · intro i h1 h2
    simp [gl, h2]
/-- A row of the call's own that holds integers reads so. -/
theorem Rd.of_ints {w : World} {base : Nat} {e : TypeId} {v : Value} {q : IntKind} {n : Nat} {zs : List Int} (h : w.ownsRow base e 1 v n (zs.map (Value.int q))) : ∃ A c, v = .slice A n c ∧ n ≤ c ∧ zs.length = n ∧ Rd w w.heap.size A n fun k => .int q (zs[k]?.getD 0) := by
  obtain ⟨A, c, e1, hc, hr⟩ := Rd.of_own h
  have hl : zs.length = n := by have := h.1; simpa using this
  refine ⟨A, c, e1, hc, hl, hr.congr fun k hk => ?_⟩
  simp [show k < zs.length by omega]

theorem vl_int (q : IntKind) (g : Nat → Int) (n : Nat) : vl (fun k => .int q (g k)) n = (gl g n).map (Value.int q) := by simp [vl, gl]
theorem ret_int {k : IntKind} {a b : Int} (h : a = b) : Ending.returned (.int k a) = .returned (.int k b) := by rw [h]
theorem own_cap {w : World} {base e n c : Nat} {A : Option Addr} {xs : List Value} (h : w.ownsRow base e 1 (.slice A n c) n xs) : c ≤ maxLen := by
  rcases h.2 with ⟨h', _⟩ | ⟨g, cap, cur, h', _, _, _, hcm, _⟩
  · injection h' with _ _ h3; subst h3; exact Nat.zero_le _
  · injection h' with _ _ h3; subst h3; exact hcm
/-- A literal slice of integers. -/
theorem Rd.lit (w : World) (t : TypeId) (q : IntKind) (zs : List Int) (hm : zs.length ≤ maxLen) :
    Rd (w.alloc (.cells (zs.map (Value.int q)).toArray t)) (w.alloc (.cells (zs.map (Value.int q)).toArray t)).heap.size (some ⟨w.heap.size, 0, none⟩) zs.length fun k => .int q (zs[k]?.getD 0) := by
  have hrow := World.ownsRow_lit (base := w.heap.size) (e := t) (size := 1) w (zs.map (Value.int q)).toArray zs.length (Nat.le_refl _) hm (by simp)
  obtain ⟨A', c', hv, hc', hl', hR'⟩ := Rd.of_ints (zs := zs) (q := q) (by simpa using hrow)
  have : some ⟨w.heap.size, 0, none⟩ = A' := by injection hv
  subst this
  simpa using hR'
/-- n modulo m, never negative. -/
def aroundI (n : Int) (m : Nat) : Nat := ((if n < 0 then -(n + 1) else n) % m).toNat
theorem aroundI_lt (n : Int) (m : Nat) (hm : 0 < m) : aroundI n m < m := by
  unfold aroundI
  have h1 := Int.emod_nonneg (if n < 0 then -(n + 1) else n) (show (m : Int) ≠ 0 by omega)
  have h2 := Int.emod_lt_of_pos (if n < 0 then -(n + 1) else n) (show (0 : Int) < m by omega)
  omega
set_option maxHeartbeats 400000 in
theorem around_any (n : Int) (m : Nat) (hn : -9223372036854775808 ≤ n ∧ n ≤ 9223372036854775807) (hm : 0 < m) (hm2 : m ≤ 4611686018427387904) (w : World) :
    Calls Tryd.prog 15 #[.int .i64 n, .int .i64 m] w fun e w' => e = .returned (.int .i64 (aroundI n m)) ∧ w = w' := by
  have e : ((aroundI n m : Nat) : Int) = (if n < 0 then -(n + 1) else n) % m := by
    unfold aroundI
    have h1 := Int.emod_nonneg (if n < 0 then -(n + 1) else n) (show (m : Int) ≠ 0 by omega)
    omega
  rw [e]
  clear e
  have hm0 : ((m : Int) == 0) = false := by simp; omega
  by_cases h : n < 0
  · rw [if_pos h]
    go_enter Tryd.func15, Tryd.ntmps15
    go_wp2
    go_ret
    exact ⟨ret_int (by rw [← Int.neg_tmod, Int.tmod_eq_emod_of_nonneg (by omega)]), rfl⟩
  · rw [if_neg h]
    have h' : 0 ≤ n := by omega
    go_enter Tryd.func15, Tryd.ntmps15
    go_wp2
    go_ret
    exact ⟨rfl, rfl⟩
/-- Two rows agree on their first n places. -/
def agreeB (f g : Nat → Int) (n : Nat) : Bool := (List.range n).all fun k => f k == g k
theorem agreeB_succ (f g : Nat → Int) (n : Nat) : agreeB f g (n + 1) = (agreeB f g n && (f n == g n)) := by simp [agreeB, List.range_succ]
theorem agreeB_iff (f g : Nat → Int) (n : Nat) : agreeB f g n = true ↔ ∀ k, k < n → f k = g k := by simp [agreeB]

set_option maxHeartbeats 1000000 in
theorem sameInts_any (A B : Option Addr) (n m c d : Nat) (hn : n ≤ 1000000) (hm : m ≤ 1000000) (f g : Nat → Int) (w : World) (hA : Rd w w.heap.size A n fun k => .int .i64 (f k)) (hB : Rd w w.heap.size B m fun k => .int .i64 (g k)) :
    Calls Tryd.prog 23 #[.slice A n c, .slice B m d] w fun e w' => e = .returned (.bool (decide (n = m) && agreeB f g n)) ∧ Below w.heap.size w w' := by
  by_cases hnm : n = m
  · subst hnm
    go_enter Tryd.func23, Tryd.ntmps23
    go_wp2_with fail
    go_loopw [5] (fun i wr => ∃ k : Nat, k ≤ n ∧ i = .int .i64 k ∧ agreeB f g k = true ∧ Below w.heap.size w wr) (fun i _ => n - (intOf i).toNat)
    case atStart => exact ⟨0, Nat.zero_le _, rfl, rfl, Below.refl _ _⟩
    case round =>
      obtain ⟨k, hk, rfl, hag, hBr⟩ := hrel
      have HAG := Lib.hid hag
      clear hag
      by_cases hlt : k < n
      · obtain ⟨ad, rfl, hab, hac⟩ := (hA.below hBr).at_ hlt
        obtain ⟨bd, rfl, hbb, hbc⟩ := (hB.below hBr).at_ hlt
        have hi0 : (0 : Int) ≤ k := by omega
        have hi1 : (k : Int) < n := by omega
        by_cases hfg : f k = g k
        · have e1 : (f k != g k) = false := by simp [hfg]
          have HFG := Lib.hid hfg
          clear hfg
          go_wp2_with fail
          go_quiet (fail)
          go_wp2
          go_roundw
          case rel => exact ⟨k + 1, by omega, by go_num, by rw [agreeB_succ, HAG.out, HFG.out]; simp, below_drewN hBr _⟩
          case measure => simp [intOf]; omega
        · have e1 : (f k != g k) = true := by simp [hfg]
          have HFG := Lib.hid hfg
          clear hfg
          go_wp2_with fail
          go_quiet (fail)
          go_wp2
          go_ret
          refine ⟨?_, below_drewN hBr _⟩
          have : agreeB f g n = false := by
            rw [← Bool.not_eq_true, agreeB_iff]
            exact fun h => HFG.out (h k hlt)
          rw [this]; simp
      · obtain rfl : k = n := by omega
        go_wp2
        go_ret
        exact ⟨by rw [HAG.out]; simp, hBr⟩
  · have h1 : ((n : Int) == (m : Int)) = false := by simp; omega
    have h2 : ((n : Int) != (m : Int)) = true := by simp; omega
    go_enter Tryd.func23, Tryd.ntmps23
    go_wp2
    go_ret
    exact ⟨by simp [hnm], Below.refl _ _⟩
theorem rd_of_row {k : IntKind} {w : World} {a : Option Addr} {len cap : Nat} {zs : List Int} (h : (a = none ∧ len = 0 ∧ cap = 0 ∧ zs = []) ∨
  ∃ x : Addr, a = some x ∧ len ≤ cap ∧ cap ≤ maxLen ∧ zs.length = cap ∧ (∀ i, i < zs.length → w.cell? (x.add i) = some (.int k (zs.getD i 0))) ∧ ∀ n ∈ zs, (Lit.int k n).wf = true) :
    Rd w w.heap.size a len (fun i => .int k (zs[i]?.getD 0)) ∧ len ≤ cap ∧ cap ≤ maxLen ∧ ((Lit.int k 0).wf = true → ∀ i : Nat, (Lit.int k (zs[i]?.getD 0)).wf = true) := by
  rcases h with ⟨rfl, rfl, rfl, rfl⟩ | ⟨x, rfl, h1, h2, h3, h4, h5⟩
  · exact ⟨Rd.nil, Nat.le_refl _, Nat.zero_le _, fun h i => by simpa using h⟩
  · refine ⟨fun hn => ⟨x, rfl, ?_, fun i hi => ?_⟩, h1, h2, fun h i => ?_⟩
    · have := World.block_lt_of_cell? w _ (h4 0 (by omega))
      rwa [add_block] at this
    · rw [h4 i (by omega), List.getD_eq_getElem?_getD]
    · by_cases hi : i < zs.length
      · rw [List.getElem?_eq_getElem hi]
        exact h5 _ (List.getElem_mem hi)
      · rw [List.getElem?_eq_none (Nat.le_of_not_lt hi)]
        exact h
/-- Two rows of the call's own with one list of integers: SameInts says true. -/
theorem same_own {w : World} {b c n : Nat} {v u : Value} {zs : List Int} (hn : n ≤ 1000000) (h3 : w.ownsRow b 3 1 v n (zs.map (Value.int .i64))) (h4 : w.ownsRow c 3 1 u n (zs.map (Value.int .i64))) :
    Calls Tryd.prog 23 #[v, u] w fun e w' => e = .returned (.bool true) ∧ Below w.heap.size w w' := by
  obtain ⟨A, a, rfl, _, _, hA⟩ := Rd.of_ints h3
  obtain ⟨B, d, rfl, _, _, hB⟩ := Rd.of_ints h4
  refine (sameInts_any A B n n a d hn hn _ _ w hA hB).mono ?_
  rintro e w' ⟨rfl, hb⟩
  exact ⟨by rw [decide_eq_true rfl, (agreeB_iff _ _ _).2 fun _ _ => rfl]; rfl, hb⟩
end Go.Proofs.YtplnkainmfkfgaaDoor
