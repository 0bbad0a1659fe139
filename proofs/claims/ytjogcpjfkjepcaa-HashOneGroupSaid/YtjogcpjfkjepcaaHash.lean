/- What hash.mix, hash.groups over a string, and hash.Sum answer, for every label and list of integers shorter than 2^47. -/
import Derived.Test.YtjogcpjfkjepcaaProg
import Derived.Test.YtjogcpjfkjepcaaHashLib
import Derived.RangeFuncNested
import Derived.RangeFuncBound
import Derived.RangeFuncCalls
import Derived.RangeFuncLeaves
import Derived.Shelf.Abstract
import Derived.Shelf.RegionOpen
import Derived.WalkKit
import Derived.OwnWalkIn
import Derived.TacticsInMore
import Derived.LoopNIn
import Derived.LoopIn
import Derived.Lib.Hide
import Derived.Test.YtjogcpjfkjepcaaWords
namespace Go.Proofs.Ytjogcpjfkjepcaa
open Go.RowKit Go.Shelf
attribute [local go_sem] Oper.semAt_some

set_option maxHeartbeats 400000 in
theorem mix_in (F : Fence) (n : Nat) (h : F.fn 26) (hro : F.round = none) (s x : Int) (w : World) :
    CallsIn F n Try.prog 26 #[.int .u64 s, .int .u64 x] w fun e w' => e = .returned (.int .u64 (mixI s x)) ∧ w = w' := by
  refine callsIn_of_wp Try.func26 rfl h ?_ hro
  simp only [Try.ntmps26, List.size_toArray, List.length_cons, List.length_nil, Nat.reduceAdd, Nat.reduceSub, Array.replicate_succ, Array.replicate_zero, List.push_toArray, List.append_toArray, List.nil_append, List.cons_append]
  gi_wp2
  go_ret
  exact ⟨rfl, rfl⟩

/-- What a round keeps: all that lay below n₀, and the box of the sequence. -/
def KpB (Bn n₀ : Nat) (W W' : World) : Prop := Below n₀ W W' ∧ W'.cell? ⟨Bn, 0, none⟩ = W.cell? ⟨Bn, 0, none⟩
theorem KpB.refl {Bn n₀ : Nat} (W : World) : KpB Bn n₀ W W := ⟨Below.refl _ _, rfl⟩
theorem kpB_t {Bn n₀ : Nat} {A B C : World} (h : KpB Bn n₀ A B) (k : KpB Bn n₀ B C) : KpB Bn n₀ A C := ⟨h.1.trans k.1, k.2.trans h.2⟩
theorem kpB_b {Bn n₀ : Nat} {w : World} (hn : n₀ ≤ w.heap.size) (hB : Bn < w.heap.size) (W : World) (l : Nat) (o o' : Obj) (hl : w.heap.size ≤ l) (h : W.heap[l]? = some o) (h1 : o.isCells = false) (h2 : o.isWalk = false) : KpB Bn n₀ W (W.putObj l o') :=
  ⟨belowK_b hn W l o o' hl h h1 h2, (belowK_b (n₀ := Bn + 1) (w := w) hB W l o o' hl h h1 h2).cell (p := ⟨Bn, 0, none⟩) (by simp)⟩

set_option maxRecDepth 100000 in
set_option maxHeartbeats 2000000 in
theorem grpS1_in (F : Fence) (n : Nat) (h6 : F.fn 29) (hro : F.round = none) (hn : 1 ≤ n) (l Bn n₀ : Nat) (s : ByteArray) (hs : s.size ≤ 140737488351232) (J Jx : List Int → World → Prop)
    (hY : ∀ pre x W, J pre W → pre.length < (s.size + 7) / 8 → YieldAt F (n - 1) Try.prog l #[.int .u64 x] W fun e W' =>
      (e = .returned (.bool true) ∧ J (pre ++ [x]) W' ∧ KpB Bn n₀ W W') ∨ (e = .returned (.bool false) ∧ Jx (pre ++ [x]) W'))
    (W : World) (hBn : W.cell? ⟨Bn, 0, none⟩ = some (.string s)) (h0 : J [] W) :
    CallsIn F n Try.prog 29 #[.func (.yield l) #[] #[], .pointer (some ⟨Bn, 0, none⟩)] W fun e W' => (∃ v, e = .returned v) ∧
      ((∃ ys, ys = wordsF (PlainAid.bt s) s.size ((s.size + 7) / 8) ∧ J ys W') ∨ (∃ pre, (∃ k, k ≤ (s.size + 7) / 8 ∧ pre = wordsF (PlainAid.bt s) s.size k) ∧ Jx pre W')) := by

  have hbt := PlainAid.get_bt s
  refine callsIn_of_wp Try.func29 rfl h6 ?_ hro
  simp only [Try.ntmps29, List.size_toArray, List.length_cons, List.length_nil, Nat.reduceAdd, Nat.reduceSub, Array.replicate_succ, Array.replicate_zero, List.push_toArray, List.append_toArray, List.nil_append, List.cons_append]
  gi_wp2
  gi_loopw [3] (fun i wr => ∃ k : Nat, k ≤ (s.size + 7) / 8 ∧ i = .int .i64 (8 * (k : Int)) ∧ J (wordsF (PlainAid.bt s) s.size k) wr ∧ KpB Bn n₀ W wr) (fun i _ => s.size + 8 - (intOf i).toNat)
  case atStart => exact ⟨0, Nat.zero_le _, rfl, h0, KpB.refl _⟩
  case round =>
    obtain ⟨k, hk, rfl, hJs, hnx⟩ := hrel
    have hcx : wr.cell? ⟨Bn, 0, none⟩ = some (.string s) := hnx.2.trans hBn
    by_cases hlt : 8 * k < s.size
    · have hdec : decide (8 * (k : Int) < (s.size : Int)) = true := by simp; omega
      gi_wp2
      gi_loopw [4, 5] (fun x j wq => ∃ m : Nat, m ≤ min 8 (s.size - 8 * k) ∧ j = .int .i64 (8 * (k : Int) + (m : Int)) ∧ x = .int .u64 (wdF (PlainAid.bt s) (8 * k) m) ∧ wq = wr) (fun _ j _ => s.size + 8 - (intOf j).toNat)
      case atStart => exact ⟨0, Nat.zero_le _, rfl, rfl, rfl⟩
      case round =>
        obtain ⟨m, hm, rfl, rfl, rfl⟩ := hrel
        by_cases hlm : m < min 8 (s.size - 8 * k)
        · have h8 : m < 8 := by omega
          have h9 : 8 * k + m < s.size := by omega
          have hor := Lib.hid (or_step (byt_bt s) (8 * k) m h8)
          gi_wp2
          go_roundw
          case rel => exact ⟨m + 1, by omega, by go_num, by rw [← hor.out], trivial⟩
          case measure => simp [intOf]; omega
        · have HM := Lib.hid (show m = min 8 (s.size - 8 * k) by omega)
          obtain ⟨fn, tmps, assign, body, hy, hR⟩ := hY _ (wdF (PlainAid.bt s) (8 * k) m) wr hJs (by rw [wordsF_length]; omega)
          by_cases h10 : 8 * k + m < s.size
          · have h10' : 8 * (k : Int) + (m : Int) < (s.size : Int) := by omega
            have h9' : 8 ≤ (m : Int) := by omega
            gi_wp2
            refine hR.mono ?_
            rintro e W3 (⟨rfl, hJ3, hk3⟩ | ⟨rfl, hJx3⟩)
            · gi_wp2
              go_roundw
              case rel => exact ⟨k + 1, by omega, by go_num, by rw [wordsF_succ, ← HM.out]; exact hJ3, kpB_t hnx hk3⟩
              case measure => simp [intOf]; omega
            · gi_wp2
              refine bodyPost_ret (results_none rfl _ _ _) rfl ?_
              exact ⟨⟨_, rfl⟩, .inr ⟨_, ⟨k + 1, by omega, by rw [wordsF_succ, ← HM.out]⟩, hJx3⟩⟩
          · have h9' : (s.size : Int) ≤ 8 * (k : Int) + (m : Int) := by omega
            gi_wp2
            refine hR.mono ?_
            rintro e W3 (⟨rfl, hJ3, hk3⟩ | ⟨rfl, hJx3⟩)
            · gi_wp2
              go_roundw
              case rel => exact ⟨k + 1, by omega, by go_num, by rw [wordsF_succ, ← HM.out]; exact hJ3, kpB_t hnx hk3⟩
              case measure => simp [intOf]; omega
            · gi_wp2
              refine bodyPost_ret (results_none rfl _ _ _) rfl ?_
              exact ⟨⟨_, rfl⟩, .inr ⟨_, ⟨k + 1, by omega, by rw [wordsF_succ, ← HM.out]⟩, hJx3⟩⟩
    · obtain rfl : k = (s.size + 7) / 8 := by omega
      gi_wp2
      go_end0
      exact ⟨⟨_, rfl⟩, .inl ⟨_, rfl, hJs⟩⟩

set_option maxHeartbeats 1000000 in
theorem grpS_in (F : Fence) (n : Nat) (h5 : F.fn 25) (hro : F.round = none) (s : ByteArray) (w : World) :
    CallsIn F n Try.prog 25 #[.string s] w fun e w' => e = .returned (.func (.func 29) #[] #[.pointer (some ⟨w.heap.size, 0, none⟩)]) ∧ w' = w.alloc (.cells #[.string s] 9) := by
  refine callsIn_of_wp Try.func25 rfl h5 ?_ hro
  simp only [Try.ntmps25, List.size_toArray, List.length_cons, List.length_nil, Nat.reduceAdd, Nat.reduceSub, Array.replicate_succ, Array.replicate_zero, List.push_toArray, List.append_toArray, List.nil_append, List.cons_append]
  gi_wp2
  go_ret
  exact ⟨rfl, rfl⟩

theorem grpS_stops (F : Fence) (n : Nat) (h7 : F.fn 29) (hro : F.round = none) (hn : 1 ≤ n) (Bs n₀ : Nat) (s : ByteArray) (hs : s.size ≤ 140737488351232) (w : World) (hBs : Bs < w.heap.size)
    (hc : w.cell? ⟨Bs, 0, none⟩ = some (.string s)) :
    SeqStopsK F n Try.prog 29 #[.pointer (some ⟨Bs, 0, none⟩)] (fun x : Int => #[Value.int .u64 x]) (KpB Bs n₀) (fun ys => ys = wordsF (PlainAid.bt s) s.size ((s.size + 7) / 8))
      (fun pre => ∃ k, k ≤ (s.size + 7) / 8 ∧ pre = wordsF (PlainAid.bt s) s.size k) ((s.size + 7) / 8) w := fun l J Jx W hW _ _ hY h0 => by
  have hc' := (hW.cell (p := ⟨Bs, 0, none⟩) hBs).trans hc
  exact grpS1_in F n h7 hro hn l Bs n₀ s hs J Jx hY W hc' h0

/-- g 0, .., g (n - 1). -/
def gl (g : Nat → Int) (n : Nat) : List Int := (List.range n).map g
theorem gl_succ (g : Nat → Int) (n : Nat) : gl g (n + 1) = gl g n ++ [g n] := by simp [gl, List.range_succ]
theorem gl_length (g : Nat → Int) (n : Nat) : (gl g n).length = n := by simp [gl]

set_option maxRecDepth 100000 in
set_option maxHeartbeats 2000000 in
theorem sum_in (F : Fence) (n : Nat) (h3 : F.fn 13) (h5 : F.fn 25) (h6 : F.fn 26) (h7 : F.fn 29) (hro : F.round = none) (hn : 4 ≤ n) (s : ByteArray) (hs : s.size ≤ 140737488351232) (A : Option Addr) (len cap : Nat) (hlen : len ≤ 140737488351232) (g : Nat → Int) (w : World) (hR : Rd w w.heap.size A len fun k => .int .i64 (g k)) :
    CallsIn F n Try.prog 13 #[.string s, .slice A len cap] w fun e W' => e = .returned (.int .u64 (sumI (wordsF (PlainAid.bt s) s.size ((s.size + 7) / 8)) s.size (gl g len))) ∧ Below w.heap.size w W' := by
  have h1 : 1 ≤ n := by omega
  have h2 : 1 ≤ n - 1 - 1 := by omega
  refine callsIn_of_wp_marks Try.func13 rfl h3 ?_ hro
  simp only [Try.ntmps13, List.size_toArray, List.length_cons, List.length_nil, Nat.reduceAdd, Nat.reduceSub, Array.replicate_succ, Array.replicate_zero, List.push_toArray, List.append_toArray, List.nil_append, List.cons_append]
  gi_wp2_with (gi_at_call 25; refine (grpS_in F (n - 1) h5 hro _ _).mono ?_; rintro e w' ⟨rfl, rfl⟩)
  have bS := Boxed.new w 25 (.int .u64 0)
  have bN := Boxed.new (w.alloc (.cells #[.int .u64 0] 25)) 9 (.string s)
  rw [World.size_alloc] at bN
  have hB0 : Below w.heap.size w ((w.alloc (.cells #[.int .u64 0] 25)).alloc (.cells #[.string s] 9)) := ((Below.refl _ w).alloc (Nat.le_refl _) _).alloc (by simp) _
  refine wpIn_rangeFunc_ownG hro h1 (gf := 29) (lb := #[.pointer (some ⟨w.heap.size + 1, 0, none⟩)]) rfl h7 (enters_of Try.func29 (by kernel_rfl) rfl)
    (grpS_stops F (n - 1) h7 hro (by omega) (w.heap.size + 1) w.heap.size s hs _ (by simp) bN.cell) kpB_t (kpB_b (by simp; omega) (by simp)) (Below.refl _ _) (fun _ => rfl)
    (fun pre W => (W.cell? ⟨w.heap.size, 0, none⟩ = some (.int .u64 (mixL 0 pre)) ∧ W.frozen? ⟨w.heap.size, 0, none⟩ = false) ∧ Below w.heap.size w W)
    (fun _ _ _ => False)
    (OwnFrom.and (Own.from (fun s A B row hs hg hr => ⟨cell_kept hs.1 hg hr, (frozen_kept hs.1 hg hr).trans hs.2⟩) _) (ownFrom_below (Nat.le_refl _) (by simp; omega)))
    (fun _ _ _ _ _ hs _ _ => hs)
    ⟨⟨(bS.alloc _).cell, (bS.alloc _).frozen⟩, hB0⟩
    (fun x => { tmps := #[.string s, .slice A len cap, undef, undef, .int .u64 0, .pointer (some ⟨w.heap.size, 0, none⟩), .int .u64 x, undef, undef, .string s, .func (.func 29) #[] #[.pointer (some ⟨w.heap.size + 1, 0, none⟩)], .int .u64 x, undef, undef, undef, undef, undef, undef, undef, undef, undef, undef, undef, undef, undef, undef, undef, undef, undef, undef, undef, undef, undef, undef, undef, undef, undef, undef], defers := [] }) ?assign ?body ?done ?stop
  case assign =>
    intro l x W K hK
    gi_wp2
    exact hK
  case body =>
    rintro l pre x W ⟨⟨hc, hf⟩, hB⟩ _
    gi_wp2_with (gi_at_call 26; refine (CallsIn.inRound l (mix_in F _ h6 hro _ _ _)).mono ?_; rintro e w' ⟨rfl, rfl⟩)
    exact ⟨(KeepsOthers.setCell _ _ _).from _, ⟨(Below.refl w.heap.size W).setCell (p := ⟨w.heap.size, 0, none⟩) (Nat.le_refl _) _, World.cell?_setCell_other _ _ _ _ (by simp)⟩, ⟨by rw [mixL_snoc]; exact World.cell?_setCell_same' _ _ _ (by rw [hc]; rfl), by rw [World.frozen?_setCell]; exact hf⟩, hB.setCell (p := ⟨w.heap.size, 0, none⟩) (Nat.le_refl _) _⟩
  case done =>
    rintro D ys W hD rfl ⟨⟨hc, hf⟩, hB⟩ hK
    gi_wp2_with (gi_at_call 26; refine (mix_in F _ h6 hro _ _ _).mono ?_; rintro e w' ⟨rfl, rfl⟩)
    obtain ⟨S0, hS0⟩ : ∃ S0, S0 = mixI (mixI (mixL 0 (wordsF (PlainAid.bt s) s.size ((s.size + 7) / 8))) s.size) len := ⟨_, rfl⟩
    have HS0 := Lib.hid hS0
    rw [← hS0]
    clear hS0
    have hne : w.heap.size ≠ D := by simp at hD; omega
    gi_loopw [27] (fun i wr => ∃ k : Nat, k ≤ len ∧ i = .int .i64 k ∧ wr.cell? ⟨w.heap.size, 0, none⟩ = some (.int .u64 (mixL S0 ((gl g k).map u64))) ∧ wr.frozen? ⟨w.heap.size, 0, none⟩ = false ∧ Below w.heap.size w wr ∧ wr.heap[D]? = some (.deferred (some []))) (fun i _ => len - (intOf i).toNat)
    case atStart =>
      refine ⟨0, Nat.zero_le _, rfl, World.cell?_setCell_same' _ _ _ (by rw [World.cell?_setCell_same' _ _ _ (by rw [hc]; rfl)]; rfl), by rw [World.frozen?_setCell, World.frozen?_setCell]; exact hf, (hB.setCell (p := ⟨w.heap.size, 0, none⟩) (Nat.le_refl _) _).setCell (p := ⟨w.heap.size, 0, none⟩) (Nat.le_refl _) _, ?_⟩
      exact (KeepsOthers.setCell _ ⟨w.heap.size, 0, none⟩ _).same D _ ((KeepsOthers.setCell W ⟨w.heap.size, 0, none⟩ _).same D _ hK rfl) rfl
    case round =>
      obtain ⟨k, hk, rfl, hcr, hfr, hBr, hKr⟩ := hrel
      by_cases hlt : k < len
      · obtain ⟨ad, rfl, hab, hac⟩ := (hR.below hBr).at_ hlt
        gi_wp2_with (gi_at_call 26; refine (mix_in F _ h6 hro _ _ _).mono ?_; rintro e w' ⟨rfl, rfl⟩)
        go_roundw
        case rel => exact ⟨k + 1, by omega, by go_num, by rw [gl_succ, List.map_append, List.map_singleton, mixL_snoc]; exact World.cell?_setCell_same' _ _ _ (by rw [hcr]; rfl), by rw [World.frozen?_setCell]; exact hfr, hBr.setCell (p := ⟨w.heap.size, 0, none⟩) (Nat.le_refl _) _, (KeepsOthers.setCell _ ⟨w.heap.size, 0, none⟩ _).same D _ hKr rfl⟩
        case measure => simp [intOf]; omega
      · obtain rfl : k = len := by omega
        gi_wp2_with (gi_at_call 26; refine (mix_in F _ h6 hro _ _ _).mono ?_; rintro e w' ⟨rfl, rfl⟩)
        refine ⟨by simp, .inl ⟨_, _, rfl, run_takeDeferred hKr, ?_⟩⟩
        exact ⟨_, results_tmp rfl _ _ _, by rw [sumI, gl_length g k, ← HS0.out]; rfl, hBr.trans (belowK_b (w := w) (Nat.le_refl _) _ D _ _ (by simp at hD; omega) hKr rfl rfl)⟩
  case stop =>
    rintro D c pre W _ _ h _
    exact h.elim

end Go.Proofs.Ytjogcpjfkjepcaa
