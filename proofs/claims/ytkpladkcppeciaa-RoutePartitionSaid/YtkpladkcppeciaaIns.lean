/- slices.insertionSortCmpFunc at []int, with a comparison whose contract ends in Below; slices.SortStableFunc at fewer than 20 elements. -/
import Derived.Test.YtkpladkcppeciaaProg
import Derived.WalkKit
import Derived.Sort.WalkA
import Derived.Deep.LoopGhost
import Derived.Deep.QuietTactic
import Derived.BigQuiet
import Derived.BigRegion
import Derived.Lib.QuietBelow
import Derived.Lib.Hide
import Derived.Laws.Rows
import Derived.IntWalk
namespace Go.Proofs.Ytkpladkcppeciaa
set_option linter.unusedVariables false
set_option linter.unusedSimpArgs false
open Go.RowKit Go.Sort Go.Lib

/-- A world that the sort passes through: the row holds d, all else of w0 is as it was. -/
structure SB (w0 : World) (blk off N : Nat) (d : Array Int) (W : World) : Prop where
  os : W.os = w0.os
  tape : W.tape = w0.tape
  output : W.output = w0.output
  size : w0.heap.size ≤ W.heap.size
  lt : blk < w0.heap.size
  block : ∀ k, k < w0.heap.size → k ≠ blk → W.heap[k]? = w0.heap[k]?
  row : ∃ cs, W.heap[blk]? = some (.cells cs 3 (0, 0)) ∧ cs.size = N ∧ off + d.size ≤ N ∧ ∀ i, i < d.size → cs[off + i]? = some (.int .i64 d[i]!)
section
variable {w0 W W' : World} {blk off N : Nat} {d : Array Int}
theorem SB.cell (h : SB w0 blk off N d W) {i : Nat} (hi : i < d.size) : W.cell? ⟨blk, off + i, none⟩ = some (.int .i64 d[i]!) := by
  obtain ⟨cs, h1, h2, h3, h4⟩ := h.row
  unfold World.cell?
  rw [h1]
  exact h4 i hi
theorem SB.frz (h : SB w0 blk off N d W) (i : Nat) : W.frozen? ⟨blk, off + i, none⟩ = false := by
  obtain ⟨cs, h1, _⟩ := h.row
  unfold World.frozen?
  rw [h1]
  simp
theorem SB.below (h : SB w0 blk off N d W) (hb : Below W.heap.size W W') : SB w0 blk off N d W' := by
  have hl := Nat.lt_of_lt_of_le h.lt h.size
  refine ⟨hb.os.trans h.os, hb.tape.trans h.tape, hb.output.trans h.output, Nat.le_trans h.size hb.size, h.lt, fun k hk hne => (hb.block k (Nat.lt_of_lt_of_le hk h.size)).trans (h.block k hk hne), ?_⟩
  obtain ⟨cs, h1, h2⟩ := h.row
  exact ⟨cs, (hb.block blk hl).trans h1, h2⟩
theorem SB.set (h : SB w0 blk off N d W) {i : Nat} (hi : i < d.size) (x : Int) : SB w0 blk off N (d.setIfInBounds i x) (W.setCell ⟨blk, off + i, none⟩ (.int .i64 x)) := by
  obtain ⟨cs, h1, h2, h3, h4⟩ := h.row
  refine ⟨h.os, h.tape, h.output, by rw [World.size_setCell]; exact h.size, h.lt, fun k hk hne => (Below.heap_setCell W _ _ k hne).trans (h.block k hk hne), _, heap_setCell_same W blk (off + i) cs _ _ h1, by simpa using h2, by simpa using h3, fun j hj => ?_⟩
  have hj' : j < d.size := by simpa using hj
  by_cases e : j = i
  · subst e
    rw [Array.getElem?_setIfInBounds_self_of_lt (by omega)]
    simp [hj']
  · rw [Array.getElem?_setIfInBounds_ne (by omega), h4 j hj']
    simp [Array.getElem!_eq_getD, Array.getD_eq_getD_getElem?, Array.getElem?_setIfInBounds, Ne.symm e]
theorem SB.swap (h : SB w0 blk off N d W) {i j : Nat} (hi : i < d.size) (hj : j < d.size) : SB w0 blk off N (swp d i j) ((W.setCell ⟨blk, off + i, none⟩ (.int .i64 d[j]!)).setCell ⟨blk, off + j, none⟩ (.int .i64 d[i]!)).drew := by
  have h2 := (h.set hi d[j]!).set (i := j) (by simpa using hj) d[i]!
  exact ⟨h2.os, h2.tape, h2.output, h2.size, h2.lt, h2.block, h2.row⟩
end
/-- What is asked of the comparison. -/
def CmpB (g : Nat) (cb : Array Value) (cf : Int → Int → Int) (ok : Int → Prop) (blk off N n : Nat) (w : World) : Prop :=
  ∀ (W : World) (dk : Array Int), dk.size = n → SB w blk off N dk W → ∀ x y : Int, ok x → ok y → Calls Try.prog g (#[.int .i64 x, .int .i64 y] ++ cb) W fun e w' => e = .returned (.int .i64 (cf x y)) ∧ Below W.heap.size W w'
def ltC (cf : Int → Int → Int) (x y : Int) : Bool := decide (cf x y < 0)
theorem ok_swp {ok : Int → Prop} {d : Array Int} {i j : Nat} (h : ∀ p, p < d.size → ok d[p]!) (hi : i < d.size) (hj : j < d.size) : ∀ p, p < (swp d i j).size → ok (swp d i j)[p]! := by
  intro p hp
  have hp : p < d.size := by simpa [swp] using hp
  unfold swp
  by_cases h1 : p = j
  · subst h1; have := h i hi; simpa [hj] using this
  · by_cases h2 : p = i
    · subst h2
      have := h j hj
      have e : (if p < d.size then some d[j] else none).getD 0 = d[j] := by rw [if_pos hi]; rfl
      simp [Array.getElem!_eq_getD, Array.getD_eq_getD_getElem?, Array.getElem?_setIfInBounds, hj, Ne.symm h1] at this ⊢
      rw [e]; exact this
    · have := h p hp
      simpa [Array.getElem!_eq_getD, Array.getD_eq_getD_getElem?, Array.getElem?_setIfInBounds, Ne.symm h1, Ne.symm h2] using this
theorem size_swpB (d : Array Int) (i j : Nat) : (swp d i j).size = d.size := by simp [swp]

set_option maxHeartbeats 4000000 in
set_option maxRecDepth 1000000 in
theorem ins_any (cf : Int → Int → Int) (ok : Int → Prop) (g : Nat) (cb : Array Value) (blk off N cap b : Nat) (d : Array Int) (w : World)
    (eg : ∀ args w, (callFunc g args).run Try.prog w = .ok (.enter g args) w) (hcmp : CmpB g cb cf ok blk off N d.size w) (hS : SB w blk off N d w) (hok : ∀ p, p < d.size → ok d[p]!) (hb : b ≤ d.size) (hsz : d.size < 4611686018427387904) :
    Calls Try.prog 38 #[.slice (some ⟨blk, off, none⟩) d.size cap, .int .i64 0, .int .i64 b, .func (.func g) #[] cb] w fun e w' =>
      e = .returned (.tuple #[]) ∧ SB w blk off N (insertionSort (ltC cf) d 0 b) w' := by
  have HC : Aside _ := hcmp
  have S0 : Aside (SB w blk off N d w) := hS
  have K0 : Aside (∀ p, p < d.size → ok d[p]!) := hok
  clear hcmp hS hok
  go_enter Try.func38, Try.ntmps38
  go_wp2
  go_loopg [8] b (fun g1 vi wr => ∃ (i : Nat) (dk : Array Int), vi = .int .i64 i ∧ 0 < i ∧ i ≤ b + 1 ∧ b + 1 - i ≤ g1 + 1 ∧ dk.size = d.size ∧ Aside (SB w blk off N dk wr) ∧ Aside (∀ p, p < dk.size → ok dk[p]!) ∧ Hid (insOuter (ltC cf) 0 b i dk = insOuter (ltC cf) 0 b 1 d))
  case atStart => exact ⟨1, d, by go_num, by omega, by omega, by omega, rfl, S0, K0, rfl⟩
  case round =>
    clear S0 K0
    obtain ⟨i, dk, rfl, hai, hib, hg1, hsk, S1, K1, HO⟩ := hrel
    by_cases hlt : i < b
    · have hltz : (i : Int) < (b : Int) := by omega
      go_wp2
      go_loopg [9] i (fun g2 vj wr2 => ∃ (j : Nat) (dj : Array Int), vj = .int .i64 j ∧ j ≤ i ∧ j ≤ g2 ∧ dj.size = d.size ∧ Aside (SB w blk off N dj wr2) ∧ Aside (∀ p, p < dj.size → ok dj[p]!) ∧ Hid (insInner (ltC cf) 0 j dj = insInner (ltC cf) 0 i dk))
      case atStart => exact ⟨i, dk, rfl, Nat.le_refl _, Nat.le_refl _, hsk, S1, K1, rfl⟩
      case round =>
        clear S1 K1
        obtain ⟨j, dj, rfl, hji, hg2, hsj, SJ, KJ, HI⟩ := hrel
        have out : (j ≤ 0 ∨ (ltC cf) dj[j]! dj[j - 1]! = false) → Hid (insOuter (ltC cf) 0 b (i + 1) dj = insOuter (ltC cf) 0 b 1 d) := fun hs => by
          show _ = _
          rw [← HO.out, insOuter_go _ _ _ _ _ hlt, ← HI.out, insInner_stop _ _ _ _ hs]
        have OUT : Aside _ := out
        clear out
        by_cases hja : 0 < j
        · obtain ⟨jp, rfl⟩ : ∃ jp, j = jp + 1 := ⟨j - 1, by omega⟩
          obtain ⟨x, hx⟩ : ∃ x, x = dj[jp + 1]! := ⟨_, rfl⟩
          obtain ⟨y, hy⟩ : ∃ y, y = dj[jp]! := ⟨_, rfl⟩
          have cx : ∀ dr os, (grow (redrawn wr dr) os).cell? ⟨blk, off + (jp + 1), none⟩ = some (.int .i64 x) := fun dr os => cell_regrown (by rw [hx]; exact SJ.out.cell (by omega)) dr os
          have cy : ∀ dr os, (grow (redrawn wr dr) os).cell? ⟨blk, off + jp, none⟩ = some (.int .i64 y) := fun dr os => cell_regrown (by rw [hy]; exact SJ.out.cell (by omega)) dr os
          have hc : ∀ dr os, Calls Try.prog g (#[.int .i64 x, .int .i64 y] ++ cb) (grow (redrawn wr dr) os) fun e w'' => e = .returned (.int .i64 (cf x y)) ∧ ∃ p : Regrown, w'' = grow (redrawn wr p.d) p.os := fun dr os =>
            Calls.regrown_of (HC.out _ dj hsj (SJ.out.below (below_regrown wr dr os)) x y (by rw [hx]; exact KJ.out _ (by omega)) (by rw [hy]; exact KJ.out _ (by omega)))
          have p0 : (0 : Int) < (jp : Int) + 1 := by omega
          have p1 : (0 : Int) ≤ (jp : Int) + 1 := by omega
          have e1 : ((jp : Int) + 1).toNat = jp + 1 := by omega
          have b1 : (jp : Int) + 1 < (d.size : Int) := by omega
          have b0 : (jp : Int) < (d.size : Int) := by omega
          have r1 : IntKind.i64.wrap ((jp : Int) + 1) = (jp : Int) + 1 := by rw [IntKind.wrap_i64]; omega
          have r0 : IntKind.i64.wrap (jp : Int) = (jp : Int) := by rw [IntKind.wrap_i64]; omega
          have HX : Hid (x = dj[jp + 1]!) := hx
          have HY : Hid (y = dj[jp]!) := hy
          clear hx hy
          by_cases hlv : cf x y < 0
          · have hlv' : decide (cf x y < 0) = true := decide_eq_true hlv
            go_wp2_with fail
            refine wp_region_quiet_below (by kernel_rfl) (by kernel_rfl) ?_
            repeat (quiet_step (exact hc _ _))
            refine wpQuiet_nil ?_
            intro _ hw'
            obtain ⟨⟨dq, osq⟩, hw''⟩ := hw'
            subst hw''
            have S2 : Aside (SB w blk off N dj (grow (redrawn wr dq) osq)) := SJ.out.below (below_regrown wr dq osq)
            clear cx cy hc SJ
            generalize grow (redrawn wr dq) osq = w2 at S2 ⊢
            clear dq osq
            go_wp2_with fail
            obtain ⟨j1, hj1⟩ : ∃ j1, j1 = jp + 1 := ⟨_, rfl⟩
            have cx : w2.cell? ⟨blk, off + j1, none⟩ = some (.int .i64 x) := by rw [HX.out, hj1]; exact S2.out.cell (by omega)
            have cy : w2.cell? ⟨blk, off + jp, none⟩ = some (.int .i64 y) := by rw [HY.out]; exact S2.out.cell (by omega)
            have fx : w2.frozen? ⟨blk, off + j1, none⟩ = false := S2.out.frz j1
            have fy : w2.frozen? ⟨blk, off + jp, none⟩ = false := S2.out.frz jp
            have S3 : Aside (SB w blk off N (swp dj (jp + 1) jp) ((w2.setCell ⟨blk, off + j1, none⟩ (.int .i64 y)).setCell ⟨blk, off + jp, none⟩ (.int .i64 x)).drew) := by rw [HX.out, HY.out, hj1]; exact S2.out.swap (by omega) (by omega)
            have e2 : ((jp : Int) + 1).toNat = j1 := by omega
            have J1 : Hid (j1 = jp + 1) := hj1
            clear hj1 e1
            go_big_region
            clear cx cy fx fy
            generalize ((w2.setCell ⟨blk, off + j1, none⟩ (.int .i64 y)).setCell ⟨blk, off + jp, none⟩ (.int .i64 x)).drew = w3 at S3 ⊢
            clear e2
            go_wp2
            go_roundg jp
            case measure => omega
            case rel =>
              have K3 : Aside (∀ p, p < (swp dj (jp + 1) jp).size → ok (swp dj (jp + 1) jp)[p]!) := ok_swp KJ.out (by omega) (by omega)
              exact ⟨jp, swp dj (jp + 1) jp, by first | rfl | go_num | (congr 1; omega), by omega, Nat.le_refl _, by rw [size_swpB]; exact hsj, S3, K3, (show Hid _ from by rw [← HI.out, insInner_go (ltC cf) 0 (jp + 1) dj (by omega) (by rw [Nat.add_sub_cancel, ← HX.out, ← HY.out]; exact hlv')]; exact rfl)⟩
          · have hlv' : decide (cf x y < 0) = false := decide_eq_false hlv
            go_wp2_with fail
            refine wp_region_quiet_below (by kernel_rfl) (by kernel_rfl) ?_
            repeat (quiet_step (exact hc _ _))
            refine wpQuiet_nil ?_
            intro _ hw'
            obtain ⟨⟨dq, osq⟩, hw''⟩ := hw'
            subst hw''
            have S2 : Aside (SB w blk off N dj (grow (redrawn wr dq) osq)) := SJ.out.below (below_regrown wr dq osq)
            clear cx cy hc SJ
            generalize grow (redrawn wr dq) osq = w2 at S2 ⊢
            clear dq osq
            go_wp2
            go_roundg (b - (i + 1))
            case measure => omega
            case rel => exact ⟨i + 1, dj, by go_num, by omega, by omega, by omega, hsj, S2, KJ, OUT.out (Or.inr (by rw [Nat.add_sub_cancel, ← HX.out, ← HY.out]; exact hlv'))⟩
        · have hjaz : decide ((j : Int) > 0) = false := decide_eq_false (by omega)
          have hjaz' : ¬ (0 : Int) < (j : Int) := by omega
          go_wp2_with fail
          go_big_region
          all_goals go_wp2
          go_roundg (b - (i + 1))
          case measure => omega
          case rel => exact ⟨i + 1, dj, by go_num, by omega, by omega, by omega, hsj, SJ.out.below ⟨rfl, rfl, rfl, Nat.le_refl _, fun _ _ => rfl⟩, KJ, OUT.out (Or.inl (by omega))⟩
    · have hltz : ¬ (i : Int) < (b : Int) := by omega
      go_wp2
      go_end0
      exact ⟨rfl, by unfold Sort.insertionSort; rw [← HO.out, insOuter_stop _ _ _ _ _ hlt]; exact S1.out⟩
theorem eins : ∀ args w, (callFunc 38 args).run Try.prog w = .ok (.enter 38 args) w := fun args w => by
  simp [callFunc, Try.func38, Try.f38]
set_option maxHeartbeats 4000000 in
set_option maxRecDepth 1000000 in
/-- Nothing to sort. -/
theorem ins_none (A : Option Addr) (cap : Nat) (f : Value) (w : World) : Calls Try.prog 38 #[.slice A 0 cap, .int .i64 0, .int .i64 0, f] w fun e w' => e = .returned (.tuple #[]) ∧ w' = w := by
  go_enter Try.func38, Try.ntmps38
  go_wp2
  refine wp_loop_rounds 1 ?_
  rw [rounds_succ]
  go_wp2
  go_end0
  exact ⟨rfl, rfl⟩
set_option maxHeartbeats 4000000 in
set_option maxRecDepth 1000000 in
/-- slices.stableCmpFunc at fewer than 20 elements. -/
theorem stable_any (A : Option Addr) (n cap : Nat) (f : Value) (w : World) (Q : World → Prop) (hn : n < 20)
    (hi : Calls Try.prog 38 #[.slice A n cap, .int .i64 0, .int .i64 n, f] w fun e w' => e = .returned (.tuple #[]) ∧ Q w') :
    Calls Try.prog 29 #[.slice A n cap, .int .i64 n, f] w fun e w' => e = .returned (.tuple #[]) ∧ Q w' := by
  have d1 : ¬ (20 : Int) ≤ (n : Int) := by omega
  have d2 : ¬ (20 : Int) < (n : Int) := by omega
  go_enter Try.func29, Try.ntmps29
  go_wp2
  refine wp_loop_rounds 1 ?_
  rw [rounds_succ]
  go_wp2_with (go_at_call 38; refine hi.mono ?_; rintro e w' ⟨rfl, hq⟩)
  refine wp_loop_rounds 1 ?_
  rw [rounds_succ]
  go_wp2
  go_end0
  exact ⟨rfl, hq⟩
set_option maxHeartbeats 4000000 in
set_option maxRecDepth 1000000 in
theorem sort_any (A : Option Addr) (n cap : Nat) (f : Value) (w : World) (Q : World → Prop) (hn : n < 20)
    (hi : Calls Try.prog 38 #[.slice A n cap, .int .i64 0, .int .i64 n, f] w fun e w' => e = .returned (.tuple #[]) ∧ Q w') :
    Calls Try.prog 19 #[.slice A n cap, f] w fun e w' => e = .returned (.tuple #[]) ∧ Q w' := by
  have hs := stable_any A n cap f w Q hn hi
  clear hi
  go_enter Try.func19, Try.ntmps19
  go_wp2_with (go_at_call 29; refine hs.mono ?_; rintro e w' ⟨rfl, hq⟩)
  go_end0
  exact ⟨rfl, hq⟩
end Go.Proofs.Ytkpladkcppeciaa
