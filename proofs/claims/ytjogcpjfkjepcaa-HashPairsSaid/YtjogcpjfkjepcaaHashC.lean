/- What hash.Bytes and hash.Pair answer, for every label and byte slice shorter than 2^47. -/
import Derived.Test.YtjogcpjfkjepcaaProg
import Derived.Test.YtjogcpjfkjepcaaHashLib
import Derived.RangeFuncNested
import Derived.RangeFuncBound
import Derived.RangeFuncCalls
import Derived.RangeFuncLeaves
import Derived.Shelf.Abstract
import Derived.Shelf.RegionOpen
import Derived.WalkKit
import Derived.OwnWalkIn
import Derived.TacticsInMore
import Derived.LoopNIn
import Derived.LoopIn
import Derived.Lib.Hide
import Derived.Test.YtjogcpjfkjepcaaWords
import Derived.Test.YtjogcpjfkjepcaaHash
import Derived.Test.YtjogcpjfkjepcaaHashB
import Derived.Laws.MakeOwn
namespace Go.Proofs.Ytjogcpjfkjepcaa
open Go.RowKit Go.Shelf
attribute [local go_sem] Oper.semAt_some

theorem Try.infoInt : (Try.prog.info? 3).map (fun i => (i.zero, i.size, i.bytes)) = some (some (.int .i64 0), 1, 8) := by kernel_rfl
/-- The integers that Bytes hashes. -/
def toI (x : Int) : Int := wrap64 x
def bytesL (g : Nat → Int) (len : Nat) : List Int := (wordsF g len ((len + 7) / 8)).map toI ++ [(len : Int)]
theorem gl_getD (zs : List Int) : gl (fun k => zs[k]?.getD 0) zs.length = zs := by
  apply List.ext_getElem
  · simp [gl]
  · intro i h1 h2
    simp [gl, h2]
/-- A row of the call's own that holds integers reads so. -/
theorem Rd.of_ints {w : World} {base : Nat} {e : TypeId} {v : Value} {q : IntKind} {n : Nat} {zs : List Int} (h : w.ownsRow base e 1 v n (zs.map (Value.int q))) : ∃ A c, v = .slice A n c ∧ n ≤ c ∧ zs.length = n ∧ Rd w w.heap.size A n fun k => .int q (zs[k]?.getD 0) := by
  obtain ⟨A, c, e1, hc, hr⟩ := Rd.of_own h
  have hl : zs.length = n := by have := h.1; simpa using this
  refine ⟨A, c, e1, hc, hl, hr.congr fun k hk => ?_⟩
  simp [show k < zs.length by omega]

/-- A block that is no cells is no owned row's. -/
theorem own_ne {w : World} {base size n D : Nat} {e : TypeId} {v : Value} {xs : List Value} {o : Obj} (h : w.ownsRow base e size v n xs) (hD : w.heap[D]? = some o) (ho : o.isCells = false) : some D ≠ v.ownBlock := by
  rcases h.2 with ⟨rfl, _⟩ | ⟨g', cap', cur, rfl, _, hgb, _⟩
  · intro e'; cases e'
  · intro e'
    have : D = g' := by injection e'
    subst this
    rw [hD] at hgb
    cases hgb
    cases ho

set_option maxRecDepth 100000 in
set_option maxHeartbeats 2000000 in
theorem bytes_in (F : Fence) (n : Nat) (h2 : F.fn 17) (h8 : F.fn 28) (h9 : F.fn 30) (h3 : F.fn 13) (h5 : F.fn 25) (h6 : F.fn 26) (h7 : F.fn 29) (hro : F.round = none) (hn : 6 ≤ n) (s : ByteArray) (hs : s.size ≤ 140737488351232) (A : Option Addr) (len cap : Nat) (hlen : len ≤ 140737488351232) (g : Nat → Int) (hg : Byt g) (w : World) (hR : Rd w w.heap.size A len fun k => .int .u8 (g k)) :
    CallsIn F n Try.prog 17 #[.string s, .slice A len cap] w fun e W' => e = .returned (.int .u64 (sumI (wordsF (PlainAid.bt s) s.size ((s.size + 7) / 8)) s.size (bytesL g len))) ∧ Below w.heap.size w W' := by
  have h1 : 1 ≤ n := by omega
  obtain ⟨i0, hi, hz0, hz1, hz2⟩ := info_parts Try.infoInt
  obtain ⟨MC, hMC, hmk⟩ : ∃ MC : Array Value, MC.size = len / 8 + 2 ∧ ∀ W : World, (Instr.makeSlice 22 (.int .i64 0) (.int .i64 ((len : Int) / 8 + 2))).run Try.prog W = .ok (.slice (some ⟨W.heap.size, 0, none⟩) 0 (len / 8 + 2)) (W.alloc (.cells MC 3)) := by
    refine ⟨_, size_madeCells (Value.cells (.int .i64 0)) (len / 8 + 2), fun W => ?_⟩
    have hr := run_make (P := Try.prog) W 22 3 i0 _ Try.underlying22 hi hz0 .i64 .i64 0 ((len : Int) / 8 + 2) (by omega) (by omega) (by rw [hz2]; omega) (by omega)
    have e : ((len : Int) / 8 + 2).toNat = len / 8 + 2 := by omega
    rw [e, hz1, Nat.mul_one] at hr
    exact hr
  have HMC := Lib.hid hMC
  clear hMC
  refine callsIn_of_wp_marks Try.func17 rfl h2 ?_ hro
  simp only [Try.ntmps17, List.size_toArray, List.length_cons, List.length_nil, Nat.reduceAdd, Nat.reduceSub, Array.replicate_succ, Array.replicate_zero, List.push_toArray, List.append_toArray, List.nil_append, List.cons_append]
  gi_wp2_with (gi_at_call 28; refine (grpB_in F (n - 1) h8 hro _ _ _ _).mono ?_; rintro e w' ⟨rfl, rfl⟩)
  have bS := Boxed.new (w.alloc (.cells MC 3)) 22 (.slice (some ⟨w.heap.size, 0, none⟩) 0 (len / 8 + 2))
  rw [World.size_alloc] at bS
  have bN := Boxed.new ((w.alloc (.cells MC 3)).alloc (.cells #[.slice (some ⟨w.heap.size, 0, none⟩) 0 (len / 8 + 2)] 22)) 30 (.slice A len cap)
  simp only [World.size_alloc] at bN
  have hO0 := World.ownsRow_made (base := w.heap.size) (e := 3) (size := 1) w MC (len / 8 + 2) (Nat.le_refl _) (by unfold maxLen; omega) (by rw [HMC.out]; omega)
  have hB0 : Below w.heap.size w (((w.alloc (.cells MC 3)).alloc (.cells #[.slice (some ⟨w.heap.size, 0, none⟩) 0 (len / 8 + 2)] 22)).alloc (.cells #[.slice A len cap] 30)) := (((Below.refl _ w).alloc (Nat.le_refl _) _).alloc (by simp) _).alloc (by simp; omega) _
  refine wpIn_rangeFunc_ownG hro h1 (gf := 30) (lb := #[.pointer (some ⟨w.heap.size + 1 + 1, 0, none⟩)]) rfl h9 (enters_of Try.func30 (by kernel_rfl) rfl)
    (grpB_stops F (n - 1) h9 hro (by omega) (w.heap.size + 1 + 1) w.heap.size A len cap g hg hlen _ (by simp) (by simp; omega) (hR.below hB0) bN.cell) kpB_t (kpB_b (by simp; omega) (by simp)) (Below.refl _ _) (fun _ => rfl)
    (fun (pre : List Int) W => ((∃ v, Boxed W (w.heap.size + 1) 22 v ∧ W.ownsRow w.heap.size 3 1 v pre.length ((pre.map toI).map (Value.int .i64)) ∧ True) ∧ Boxed W (w.heap.size + 1 + 1) 30 (.slice A len cap)) ∧ Below w.heap.size w W)
    (fun _ _ _ => False)
    (OwnFrom.and (OwnFrom.and (Own.from (holdsRow_own w.heap.size (w.heap.size + 1) 22 3 1 (fun pre : List Int => pre.length) (fun pre : List Int => (pre.map toI).map (Value.int .i64)) (fun _ _ => True)) _) (Own.from (boxed_own _ _ _) _)) (ownFrom_below (Nat.le_refl _) (by simp; omega)))
    (fun _ _ _ _ _ hs _ _ => hs)
    ⟨⟨⟨_, bS.alloc _, (hO0.alloc _).alloc _, trivial⟩, bN⟩, hB0⟩
    (fun x => { tmps := #[.string s, .slice A len cap, undef, undef, .int .u64 0, .pointer (some ⟨w.heap.size + 1, 0, none⟩), .int .u64 x, .slice A len cap, .int .i64 len, .int .i64 (len / 8), .int .i64 (len / 8 + 2), .slice (some ⟨w.heap.size, 0, none⟩) 0 (len / 8 + 2), .slice A len cap, .func (.func 30) #[] #[.pointer (some ⟨w.heap.size + 1 + 1, 0, none⟩)], .int .u64 x, undef, undef, undef, undef, undef, undef, undef, undef, undef, undef, undef, undef], defers := [] }) ?assign ?body ?done ?stop
  case assign =>
    intro l x W K hK
    gi_wp2
    exact hK
  case body =>
    rintro l pre x W ⟨⟨⟨v, hv, hrow, _⟩, hbx⟩, hB⟩ hlt
    have hc := hv.cell
    gi_wp2_with (gi_at_builtin; refine wpListIn_append_own _ rfl _ _ 22 rfl w.heap.size 3 i0 (.int .i64 0) 1 8 Try.underlying22 hi hz0 hz1 hz2 rfl (by decide) _ _ _ rfl (hrow.alloc _) ⟨W.heap.size, 0, none⟩ 1 1 [.int .i64 (toI x)] rfl rfl (cell_one_new _ _ _) (by simp [Value.oneCell']) (by unfold maxLen; omega) (by omega) (by have := hB.size; simp; omega) ?_; intro v' w1 hown' hgrow _; obtain ⟨g', cap', rfl⟩ := ownsRow_succ hown'; obtain ⟨hv1, hv2, hr2, hk2, hb2⟩ := hv.appended (by decide) hrow hB.size (by omega) hown' hgrow; have hc1 := hv1.cell; have hf1 := hv1.frozen; have hbx1 := (hbx.alloc _).kept hgrow (hbx.not_row (by decide) hrow))
    have hbx2 := hbx1.other (B' := w.heap.size + 1) (by omega) (.slice (some ⟨g', 0, none⟩) (pre.length + 1) cap')
    refine ⟨hk2.from _, ⟨hb2, ?_⟩, ⟨⟨_, hv2, by simpa using hr2, trivial⟩, ?_⟩, hB.trans hb2⟩
    · exact hbx2.cell.trans hbx.cell.symm
    · exact hbx2
  case done =>
    rintro D ys W hD rfl ⟨⟨⟨v, hv, hrow, _⟩, hbx⟩, hB⟩ hK
    have hc := hv.cell
    rw [wordsF_length] at hrow
    gi_wp2_with (gi_at_builtin; refine wpListIn_append_own _ rfl _ _ 22 rfl w.heap.size 3 i0 (.int .i64 0) 1 8 Try.underlying22 hi hz0 hz1 hz2 rfl (by decide) _ _ _ rfl (hrow.alloc _) ⟨W.heap.size, 0, none⟩ 1 1 [.int .i64 (len : Int)] rfl rfl (cell_one_new _ _ _) (by simp [Value.oneCell']) (by unfold maxLen; omega) (by omega) (by have := hB.size; simp; omega) ?_; intro v' w1 hown' hgrow _)
    have hb1 : Below w.heap.size w w1 := (hB.alloc hB.size _).grown hgrow (by have := hB.size; simp; omega) (fun k e => (hrow.lt k e).1)
    have hK1 : w1.heap[D]? = some (.deferred (some [])) := by
      have e1 := (Below.heap_alloc W (.cells #[.int .i64 (len : Int)] 3) D (Array.getElem?_eq_some_iff.1 hK).1).trans hK
      exact (hgrow.block D (Array.getElem?_eq_some_iff.1 e1).1 (own_ne (hrow.alloc _) e1 rfl)).trans e1
    have hlen' : (((wordsF g len ((len + 7) / 8)).map toI).map (Value.int .i64) ++ [.int .i64 (len : Int)]) = (bytesL g len).map (Value.int .i64) := by simp [bytesL]
    rw [hlen'] at hown'
    obtain ⟨A', c', rfl, hc', hl', hR'⟩ := Rd.of_ints hown'
    refine (sum_in F (n - 1) h3 h5 h6 h7 hro (by omega) s hs A' _ c' (by omega) _ w1 hR').mono ?_
    rintro e w2 ⟨rfl, hb2⟩
    have hK2 : w2.heap[D]? = some (.deferred (some [])) := (hb2.block D (Array.getElem?_eq_some_iff.1 hK1).1).trans hK1
    have hgl := gl_getD (bytesL g len)
    rw [hl'] at hgl
    rw [hgl]
    have hb3 : Below w.heap.size w w2 := hb1.trans (hb2.mono hb1.size)
    clear hgl hlen' hown' hR' hgrow
    gi_wp2
    refine ⟨by simp, .inl ⟨_, _, rfl, run_takeDeferred hK2, ?_⟩⟩
    exact ⟨_, results_tmp rfl _ _ _, rfl, hb3.trans (belowK_b (w := w) (Nat.le_refl _) _ D _ _ (by simp at hD; omega) hK2 rfl rfl)⟩
  case stop =>
    rintro D c pre W _ _ h _
    exact h.elim

theorem u64_toI {x : Int} (h : U64 x) : u64 (toI x) = x := by
  obtain ⟨h1, h2⟩ := h
  unfold u64 toI wrap64
  rw [IntKind.wrap_u64]
  omega

set_option maxHeartbeats 1000000 in
theorem pair_in (F : Fence) (n : Nat) (h2 : F.fn 19) (h3 : F.fn 13) (h5 : F.fn 25) (h6 : F.fn 26) (h7 : F.fn 29) (hro : F.round = none) (hn : 5 ≤ n) (a b : Int) (w : World) :
    CallsIn F n Try.prog 19 #[.int .u64 a, .int .u64 b] w fun e W' => e = .returned (.int .u64 (sumI (wordsF (PlainAid.bt ⟨#[112, 97, 105, 114]⟩) 4 1) 4 [toI a, toI b])) ∧ Below w.heap.size w W' := by
  have h1 : 1 ≤ n := by omega
  refine callsIn_of_wp Try.func19 rfl h2 ?_ hro
  simp only [Try.ntmps19, List.size_toArray, List.length_cons, List.length_nil, Nat.reduceAdd, Nat.reduceSub, Array.replicate_succ, Array.replicate_zero, List.push_toArray, List.append_toArray, List.nil_append, List.cons_append]
  gi_wp2_with fail
  have hrow := World.ownsRow_lit (base := w.heap.size) (e := 3) (size := 1) w #[.int .i64 (toI a), .int .i64 (toI b)] 2 (Nat.le_refl _) (by decide) rfl
  obtain ⟨A', c', hv, hc', hl', hR'⟩ := Rd.of_ints (zs := [toI a, toI b]) (q := .i64) hrow
  obtain ⟨rfl, rfl⟩ : some ⟨w.heap.size, 0, none⟩ = A' ∧ 2 = c' := by injection hv with h1 h2 h3; exact ⟨h1, h3⟩
  refine (sum_in F (n - 1) h3 h5 h6 h7 hro (by omega) _ (by decide) _ 2 2 (by omega) _ _ hR').mono ?_
  rintro e w2 ⟨rfl, hb2⟩
  clear hR' hrow hv
  gi_wp2
  go_ret
  exact ⟨rfl, ((Below.refl _ _).alloc (Nat.le_refl _) _).trans (hb2.mono (by simp))⟩

/-- The three, for plain walks. -/
theorem sum_any (s : ByteArray) (hs : s.size ≤ 140737488351232) (A : Option Addr) (len cap : Nat) (hlen : len ≤ 140737488351232) (g : Nat → Int) (w : World) (hR : Rd w w.heap.size A len fun k => .int .i64 (g k)) :
    Calls Try.prog 13 #[.string s, .slice A len cap] w fun e W' => e = .returned (.int .u64 (sumI (wordsF (PlainAid.bt s) s.size ((s.size + 7) / 8)) s.size (gl g len))) ∧ Below w.heap.size w W' :=
  callsIn_wide.1 (sum_in Fence.wide 4 trivial trivial trivial trivial rfl (by omega) s hs A len cap hlen g w hR)
theorem bytes_any (s : ByteArray) (hs : s.size ≤ 140737488351232) (A : Option Addr) (len cap : Nat) (hlen : len ≤ 140737488351232) (g : Nat → Int) (hg : Byt g) (w : World) (hR : Rd w w.heap.size A len fun k => .int .u8 (g k)) :
    Calls Try.prog 17 #[.string s, .slice A len cap] w fun e W' => e = .returned (.int .u64 (sumI (wordsF (PlainAid.bt s) s.size ((s.size + 7) / 8)) s.size (bytesL g len))) ∧ Below w.heap.size w W' :=
  callsIn_wide.1 (bytes_in Fence.wide 6 trivial trivial trivial trivial trivial trivial trivial rfl (by omega) s hs A len cap hlen g hg w hR)
theorem pair_any (a b : Int) (w : World) :
    Calls Try.prog 19 #[.int .u64 a, .int .u64 b] w fun e W' => e = .returned (.int .u64 (sumI (wordsF (PlainAid.bt ⟨#[112, 97, 105, 114]⟩) 4 1) 4 [toI a, toI b])) ∧ Below w.heap.size w W' :=
  callsIn_wide.1 (pair_in Fence.wide 5 trivial trivial trivial trivial trivial rfl (by omega) a b w)

end Go.Proofs.Ytjogcpjfkjepcaa
