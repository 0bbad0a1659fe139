/- What alert.Hysteresis and alert.Runs answer, for every two lists of integers shorter than a million. -/
import Derived.Test.YtplnkainmfkfgaaDoorRef01
import Derived.Deep.DeepCutAuto
import Derived.Laws.MakeOwn
import Derived.Deep.Onto
namespace Go.Proofs.YtplnkainmfkfgaaDoor
open Go.RowKit

/-- The least and the greatest condition, behind k places. -/
def lowF (f g : Nat → Int) : Nat → Bool
  | 0 => false
  | k + 1 => (f k == 2) || (lowF f g k && !(g k != 0))
def highF (f g : Nat → Int) : Nat → Bool
  | 0 => false
  | k + 1 => (f k != 0) || (highF f g k && !(g k == 2))
def vdF (f g : Nat → Int) (k : Nat) : Int := if lowF f g (k + 1) = true then 2 else if highF f g (k + 1) = true then 1 else 0
def inV (x : Int) : Bool := decide (0 ≤ x) && decide (x ≤ 2)
def inUp (f g : Nat → Int) (n : Nat) : Bool := (List.range n).all fun k => inV (f k) && inV (g k)
theorem inUp_succ (f g : Nat → Int) (n : Nat) : inUp f g (n + 1) = (inUp f g n && (inV (f n) && inV (g n))) := by simp [inUp, List.range_succ]
theorem inUp_iff (f g : Nat → Int) (n : Nat) : inUp f g n = true ↔ ∀ k, k < n → (inV (f k) && inV (g k)) = true := by simp [inUp]
def hystL (f g : Nat → Int) (n : Nat) : List Int := if inUp f g n = true then gl (vdF f g) n else []
theorem hystL_bad {f g : Nat → Int} {n k : Nat} (hk : k < n) (h : (inV (f k) && inV (g k)) = false) : hystL f g n = [] := by
  unfold hystL
  rw [if_neg]
  rw [inUp_iff]
  intro h2
  rw [h2 k hk] at h
  cases h

set_option maxHeartbeats 1000000 in
theorem aAdvance_any (b : Nat) (s c h : Bool) (w : World) (hc : w.cell? ⟨b, 0, none⟩ = some (.bool h)) (hf : w.frozen? ⟨b, 0, none⟩ = false) :
    Calls Tryd.prog 20 #[.pointer (some ⟨b, 0, none⟩), .bool s, .bool c] w fun e w' => e = .returned (.bool (s || (h && !c))) ∧ w' = w.setCell ⟨b, 0, none⟩ (.bool (s || (h && !c))) := by
  cases s <;> cases h
  all_goals
    go_enter Tryd.func20, Tryd.ntmps20
    go_wp2
    go_ret
    exact ⟨rfl, rfl⟩

set_option maxRecDepth 100000 in
set_option maxHeartbeats 4000000 in
theorem aHyst_any (A B : Option Addr) (n m c d : Nat) (hn : n ≤ 1000000) (hm : m ≤ 1000000) (f g : Nat → Int) (w : World) (hA : Rd w w.heap.size A n fun k => .int .i64 (f k)) (hB : Rd w w.heap.size B m fun k => .int .i64 (g k)) :
    Calls Tryd.prog 10 #[.slice A n c, .slice B m d] w fun e w' => ∃ v, e = .returned v ∧ w'.ownsRow w.heap.size 3 1 v (hystL f g (min n m)).length ((hystL f g (min n m)).map (Value.int .i64)) ∧ Below w.heap.size w w' := by
  obtain ⟨i0, hi, hz0, hz1, hz2⟩ := info_parts Tryd.infoInt
  obtain ⟨N, hN⟩ : ∃ N, N = min n m := ⟨_, rfl⟩
  have hNn : N ≤ n := by omega
  have hNm : N ≤ m := by omega
  obtain ⟨MC, hMC, hmk⟩ : ∃ MC : Array Value, MC.size = N ∧ ∀ W : World, (Instr.makeSlice 22 (.int .i64 0) (.int .i64 (N : Int))).run Tryd.prog W = .ok (.slice (some ⟨W.heap.size, 0, none⟩) 0 N) (W.alloc (.cells MC 3)) := by
    refine ⟨_, size_madeCells (Value.cells (.int .i64 0)) N, fun W => ?_⟩
    have hr := run_make (P := Tryd.prog) W 22 3 i0 _ Tryd.underlying22 hi hz0 .i64 .i64 0 (N : Int) (by omega) (by omega) (by rw [hz2]; omega) (by omega)
    have e : ((N : Int)).toNat = N := by omega
    rw [e, hz1, Nat.mul_one] at hr
    exact hr
  have HMC := Lib.hid hMC
  clear hMC
  rw [← hN]
  by_cases hnm : n ≤ m
  · have hmin : decide ((n : Int) ≤ m) = true := by simp; omega
    obtain rfl : N = n := by omega
    clear hN
    go_enter Tryd.func10, Tryd.ntmps10
    go_wp2_with fail
    have B0 : Below w.heap.size w (((w.alloc (.cells #[.bool false] 48)).alloc (.cells #[.bool false] 48)).alloc (.cells MC 3)) := (((Below.refl _ w).alloc (Nat.le_refl _) _).alloc (by simp) _).alloc (by simp; omega) _
    have O0 := World.ownsRow_made (base := w.heap.size + 1 + 1) (e := 3) (size := 1) ((w.alloc (.cells #[.bool false] 48)).alloc (.cells #[.bool false] 48)) MC N (by simp) (by unfold maxLen; omega) (by rw [HMC.out]; omega)
    simp only [World.size_alloc] at O0
    have L0 := ((Bk.new w 48 #[.bool false]).alloc (.cells #[.bool false] 48)).alloc (.cells MC 3)
    have H0 := (Bk.new (w.alloc (.cells #[.bool false] 48)) 48 #[.bool false]).alloc (.cells MC 3)
    rw [World.size_alloc] at H0
    go_loopw [10, 26] (fun v i wr => ∃ k : Nat, k ≤ N ∧ i = .int .i64 k ∧ inUp f g k = true ∧ wr.ownsRow (w.heap.size + 1 + 1) 3 1 v k ((gl (vdF f g) k).map (Value.int .i64)) ∧ Bk wr w.heap.size 48 #[.bool (lowF f g k)] ∧ Bk wr (w.heap.size + 1) 48 #[.bool (highF f g k)] ∧ Below w.heap.size w wr) (fun _ i _ => N - (intOf i).toNat)
    case atStart => exact ⟨0, Nat.zero_le _, rfl, rfl, O0, L0, H0, B0⟩
    case round =>
      obtain ⟨k, hk, rfl, hin, hown, hL, hH, hBr⟩ := hrel
      have HIN := Lib.hid hin
      clear hin
      by_cases hlt : k < N
      · obtain ⟨ad, rfl, hab, hac⟩ := (hA.below hBr).at_ (show k < _ by omega)
        obtain ⟨bd, rfl, hbb, hbc⟩ := (hB.below hBr).at_ (show k < _ by omega)
        have hi0 : (0 : Int) ≤ k := by omega
        have hi1 : (k : Int) < N := by omega
        have hi2 : (k : Int) < m := by omega
        have HLO := Lib.hid (show lowF f g (k + 1) = ((f k == 2) || (lowF f g k && !(g k != 0))) from rfl)
        have HHI := Lib.hid (show highF f g (k + 1) = ((f k != 0) || (highF f g k && !(g k == 2))) from rfl)
        obtain ⟨s, hs⟩ : ∃ s, s = f k := ⟨_, rfl⟩
        obtain ⟨x, hx⟩ : ∃ x, x = g k := ⟨_, rfl⟩
        obtain ⟨lo, hlo⟩ : ∃ lo, lo = lowF f g k := ⟨_, rfl⟩
        obtain ⟨hg, hhg⟩ : ∃ hg, hg = highF f g k := ⟨_, rfl⟩
        rw [← hs] at hac HLO HHI
        rw [← hx] at hbc HLO HHI
        rw [← hlo] at hL HLO
        rw [← hhg] at hH HHI
        have HS := Lib.hid hs
        have HX := Lib.hid hx
        clear hs hx hlo hhg
        by_cases hv : (inV s && inV x) = true
        · have HINK := Lib.hid (show (inV (f k) && inV (g k)) = true by rw [← HS.out, ← HX.out]; exact hv)
          have hv' : 0 ≤ s ∧ s ≤ 2 ∧ 0 ≤ x ∧ x ≤ 2 := by simp [inV] at hv; omega
          clear hv
          have d1 : decide (s < 0) = false := by simp; omega
          have d2 : decide (2 < s) = false := by simp; omega
          have d3 : decide (x < 0) = false := by simp; omega
          have d4 : decide (2 < x) = false := by simp; omega
          go_wp2_with fail
          go_quiet (fail)
          have hLd : Bk (wr.drewN nq) w.heap.size 48 #[.bool lo] := hL
          have hHd : Bk (wr.drewN nq) (w.heap.size + 1) 48 #[.bool hg] := hH
          have Od : (wr.drewN nq).ownsRow (w.heap.size + 1 + 1) 3 1 u10 k ((gl (vdF f g) k).map (Value.int .i64)) := hown
          have Bd := below_drewN hBr nq
          generalize wr.drewN nq = wd at hLd hHd Od Bd ⊢
          clear hL hH hown hBr hac hbc
          go_wp2_with fail
          refine (aAdvance_any w.heap.size (s == 2) (x != 0) lo _ (hLd.cell 0) (hLd.frozen 0)).mono ?_
          rintro e w4 ⟨rfl, rfl⟩
          go_wp2_with fail
          refine (aAdvance_any (w.heap.size + 1) (s != 0) (x == 2) hg _ ((hHd.far (p := ⟨w.heap.size, 0, none⟩) (by simp) _).cell 0) ((hHd.far (p := ⟨w.heap.size, 0, none⟩) (by simp) _).frozen 0)).mono ?_
          rintro e w5 ⟨rfl, rfl⟩
          rw [← HLO.out, ← HHI.out]
          have L5 := (hLd.set 0 (.bool (lowF f g (k + 1)))).far (p := ⟨w.heap.size + 1, 0, none⟩) (by simp) (.bool (highF f g (k + 1)))
          have H5 := (hHd.far (p := ⟨w.heap.size, 0, none⟩) (by simp) (.bool (lowF f g (k + 1)))).set 0 (.bool (highF f g (k + 1)))
          have O5 := ownsRow_setCell_below (ownsRow_setCell_below Od (a := ⟨w.heap.size, 0, none⟩) (by simp; omega) (.bool (lowF f g (k + 1)))) (a := ⟨w.heap.size + 1, 0, none⟩) (by simp) (.bool (highF f g (k + 1)))
          have B5 := (Bd.setCell (p := ⟨w.heap.size, 0, none⟩) (Nat.le_refl _) (.bool (lowF f g (k + 1)))).setCell (p := ⟨w.heap.size + 1, 0, none⟩) (by simp) (.bool (highF f g (k + 1)))
          obtain ⟨W5, hW5⟩ : ∃ W5, W5 = (wd.setCell ⟨w.heap.size, 0, none⟩ (.bool (lowF f g (k + 1)))).setCell ⟨w.heap.size + 1, 0, none⟩ (.bool (highF f g (k + 1))) := ⟨_, rfl⟩
          rw [← hW5] at L5 H5 O5 B5 ⊢
          have hlt5 : w.heap.size + 1 + 1 ≤ W5.heap.size := H5.lt
          have L5' : Bk W5 w.heap.size 48 #[.bool (lowF f g (k + 1))] := L5
          have H5' : Bk W5 (w.heap.size + 1) 48 #[.bool (highF f g (k + 1))] := H5
          have HL5 := Lib.hid L5'
          have HH5 := Lib.hid H5'
          clear hW5 hLd hHd Od Bd L5 H5 L5' H5' HLO HHI
          obtain ⟨l', hl'⟩ : ∃ l', l' = lowF f g (k + 1) := ⟨_, rfl⟩
          obtain ⟨h', hh'⟩ : ∃ h', h' = highF f g (k + 1) := ⟨_, rfl⟩
          have HV := Lib.hid (show vdF f g k = if l' = true then 2 else if h' = true then 1 else 0 by rw [hl', hh']; rfl)
          rw [← hl', ← hh']
          clear hl' hh'
          have fin : ∀ (x : Int) (v' : Value) (w6 : World), vdF f g k = x → w6.ownsRow (w.heap.size + 1 + 1) 3 1 v' (k + 1) ((gl (vdF f g) k).map (Value.int .i64) ++ [.int .i64 x]) → (W5.alloc (.cells #[.int .i64 x] 3)).grownBy w6 (u10 : Value).ownBlock →
              w6.ownsRow (w.heap.size + 1 + 1) 3 1 v' (k + 1) ((gl (vdF f g) (k + 1)).map (Value.int .i64)) ∧ Bk w6 w.heap.size 48 #[.bool (lowF f g (k + 1))] ∧ Bk w6 (w.heap.size + 1) 48 #[.bool (highF f g (k + 1))] ∧ Below w.heap.size w w6 := by
            intro x v' w6 hx' ho hgr
            refine ⟨by rw [gl_succ, List.map_append, List.map_singleton, hx']; exact ho, ?_, ?_, ?_⟩
            · exact (hgr.block _ ((HL5.out).alloc _).lt (fun e => by have := (O5.lt _ e.symm).1; omega)).trans ((HL5.out).alloc _)
            · exact (hgr.block _ ((HH5.out).alloc _).lt (fun e => by have := (O5.lt _ e.symm).1; omega)).trans ((HH5.out).alloc _)
            · exact (B5.alloc B5.size _).grown hgr (by have := B5.size; simp; omega) (fun j e => by have := (O5.lt j e).1; omega)
          have FIN := Lib.hid fin
          have HINU := Lib.hid (show inUp f g (k + 1) = true by rw [inUp_succ, HIN.out, HINK.out]; rfl)
          clear fin
          cases l'
          · cases h'
            · go_wp2_with (at_builtin; refine wpList_append_own _ rfl _ _ 22 rfl (w.heap.size + 1 + 1) 3 i0 (.int .i64 0) 1 8 Tryd.underlying22 hi hz0 hz1 hz2 rfl (by decide) _ _ _ rfl (O5.alloc _) ⟨W5.heap.size, 0, none⟩ 1 1 [.int .i64 0] rfl rfl (cell_one_new _ _ _) (by simp [Value.oneCell']) (by unfold maxLen; omega) (by omega) (by simp; omega) ?_; intro v' w6 hown6 hgrow6 _)
              obtain ⟨r1, r2, r3, r4⟩ := FIN.out 0 v' w6 (by rw [HV.out]; rfl) hown6 hgrow6
              go_roundw
              case rel => exact ⟨k + 1, by omega, by go_num, HINU.out, r1, r2, r3, r4⟩
              case measure => simp [intOf]; omega
            · go_wp2_with (at_builtin; refine wpList_append_own _ rfl _ _ 22 rfl (w.heap.size + 1 + 1) 3 i0 (.int .i64 0) 1 8 Tryd.underlying22 hi hz0 hz1 hz2 rfl (by decide) _ _ _ rfl (O5.alloc _) ⟨W5.heap.size, 0, none⟩ 1 1 [.int .i64 1] rfl rfl (cell_one_new _ _ _) (by simp [Value.oneCell']) (by unfold maxLen; omega) (by omega) (by simp; omega) ?_; intro v' w6 hown6 hgrow6 _)
              obtain ⟨r1, r2, r3, r4⟩ := FIN.out 1 v' w6 (by rw [HV.out]; rfl) hown6 hgrow6
              go_roundw
              case rel => exact ⟨k + 1, by omega, by go_num, HINU.out, r1, r2, r3, r4⟩
              case measure => simp [intOf]; omega
          · go_wp2_with (at_builtin; refine wpList_append_own _ rfl _ _ 22 rfl (w.heap.size + 1 + 1) 3 i0 (.int .i64 0) 1 8 Tryd.underlying22 hi hz0 hz1 hz2 rfl (by decide) _ _ _ rfl (O5.alloc _) ⟨W5.heap.size, 0, none⟩ 1 1 [.int .i64 2] rfl rfl (cell_one_new _ _ _) (by simp [Value.oneCell']) (by unfold maxLen; omega) (by omega) (by simp; omega) ?_; intro v' w6 hown6 hgrow6 _)
            obtain ⟨r1, r2, r3, r4⟩ := FIN.out 2 v' w6 (by rw [HV.out]; rfl) hown6 hgrow6
            go_roundw
            case rel => exact ⟨k + 1, by omega, by go_num, HINU.out, r1, r2, r3, r4⟩
            case measure => simp [intOf]; omega
        · have HBAD := Lib.hid (hystL_bad hlt (show (inV (f k) && inV (g k)) = false by rw [← HS.out, ← HX.out]; simpa using hv))
          have hv' : s < 0 ∨ 2 < s ∨ x < 0 ∨ 2 < x := by simp [inV] at hv; omega
          clear hv
          by_cases g1 : s < 0
          · go_wp2_with fail
            go_quiet (fail)
            go_wp2
            go_ret
            exact ⟨_, rfl, by rw [HBAD.out]; exact World.ownsRow_nil _ _ _ _, below_drewN hBr _⟩
          · have d1 : decide (s < 0) = false := by simp; omega
            by_cases g2 : 2 < s
            · go_wp2_with fail
              go_quiet (fail)
              go_wp2
              go_ret
              exact ⟨_, rfl, by rw [HBAD.out]; exact World.ownsRow_nil _ _ _ _, below_drewN hBr _⟩
            · have d2 : decide (2 < s) = false := by simp; omega
              by_cases g3 : x < 0
              · go_wp2_with fail
                go_quiet (fail)
                go_wp2
                go_ret
                exact ⟨_, rfl, by rw [HBAD.out]; exact World.ownsRow_nil _ _ _ _, below_drewN hBr _⟩
              · have d3 : decide (x < 0) = false := by simp; omega
                have d4 : decide (2 < x) = true := by simp; omega
                go_wp2_with fail
                go_quiet (fail)
                go_wp2
                go_ret
                exact ⟨_, rfl, by rw [HBAD.out]; exact World.ownsRow_nil _ _ _ _, below_drewN hBr _⟩
      · obtain rfl : k = N := by omega
        go_wp2
        go_ret
        exact ⟨_, rfl, by unfold hystL; rw [if_pos HIN.out, gl_length]; exact World.ownsRow.mono hown (by omega), hBr⟩
  · have hmin : decide ((n : Int) ≤ m) = false := by simp; omega
    obtain rfl : N = m := by omega
    clear hN
    go_enter Tryd.func10, Tryd.ntmps10
    go_wp2_with fail
    have B0 : Below w.heap.size w (((w.alloc (.cells #[.bool false] 48)).alloc (.cells #[.bool false] 48)).alloc (.cells MC 3)) := (((Below.refl _ w).alloc (Nat.le_refl _) _).alloc (by simp) _).alloc (by simp; omega) _
    have O0 := World.ownsRow_made (base := w.heap.size + 1 + 1) (e := 3) (size := 1) ((w.alloc (.cells #[.bool false] 48)).alloc (.cells #[.bool false] 48)) MC N (by simp) (by unfold maxLen; omega) (by rw [HMC.out]; omega)
    simp only [World.size_alloc] at O0
    have L0 := ((Bk.new w 48 #[.bool false]).alloc (.cells #[.bool false] 48)).alloc (.cells MC 3)
    have H0 := (Bk.new (w.alloc (.cells #[.bool false] 48)) 48 #[.bool false]).alloc (.cells MC 3)
    rw [World.size_alloc] at H0
    go_loopw [10, 26] (fun v i wr => ∃ k : Nat, k ≤ N ∧ i = .int .i64 k ∧ inUp f g k = true ∧ wr.ownsRow (w.heap.size + 1 + 1) 3 1 v k ((gl (vdF f g) k).map (Value.int .i64)) ∧ Bk wr w.heap.size 48 #[.bool (lowF f g k)] ∧ Bk wr (w.heap.size + 1) 48 #[.bool (highF f g k)] ∧ Below w.heap.size w wr) (fun _ i _ => N - (intOf i).toNat)
    case atStart => exact ⟨0, Nat.zero_le _, rfl, rfl, O0, L0, H0, B0⟩
    case round =>
      obtain ⟨k, hk, rfl, hin, hown, hL, hH, hBr⟩ := hrel
      have HIN := Lib.hid hin
      clear hin
      by_cases hlt : k < N
      · obtain ⟨ad, rfl, hab, hac⟩ := (hA.below hBr).at_ (show k < _ by omega)
        obtain ⟨bd, rfl, hbb, hbc⟩ := (hB.below hBr).at_ (show k < _ by omega)
        have hi0 : (0 : Int) ≤ k := by omega
        have hi1 : (k : Int) < N := by omega
        have hi2 : (k : Int) < n := by omega
        have HLO := Lib.hid (show lowF f g (k + 1) = ((f k == 2) || (lowF f g k && !(g k != 0))) from rfl)
        have HHI := Lib.hid (show highF f g (k + 1) = ((f k != 0) || (highF f g k && !(g k == 2))) from rfl)
        obtain ⟨s, hs⟩ : ∃ s, s = f k := ⟨_, rfl⟩
        obtain ⟨x, hx⟩ : ∃ x, x = g k := ⟨_, rfl⟩
        obtain ⟨lo, hlo⟩ : ∃ lo, lo = lowF f g k := ⟨_, rfl⟩
        obtain ⟨hg, hhg⟩ : ∃ hg, hg = highF f g k := ⟨_, rfl⟩
        rw [← hs] at hac HLO HHI
        rw [← hx] at hbc HLO HHI
        rw [← hlo] at hL HLO
        rw [← hhg] at hH HHI
        have HS := Lib.hid hs
        have HX := Lib.hid hx
        clear hs hx hlo hhg
        by_cases hv : (inV s && inV x) = true
        · have HINK := Lib.hid (show (inV (f k) && inV (g k)) = true by rw [← HS.out, ← HX.out]; exact hv)
          have hv' : 0 ≤ s ∧ s ≤ 2 ∧ 0 ≤ x ∧ x ≤ 2 := by simp [inV] at hv; omega
          clear hv
          have d1 : decide (s < 0) = false := by simp; omega
          have d2 : decide (2 < s) = false := by simp; omega
          have d3 : decide (x < 0) = false := by simp; omega
          have d4 : decide (2 < x) = false := by simp; omega
          go_wp2_with fail
          go_quiet (fail)
          have hLd : Bk (wr.drewN nq) w.heap.size 48 #[.bool lo] := hL
          have hHd : Bk (wr.drewN nq) (w.heap.size + 1) 48 #[.bool hg] := hH
          have Od : (wr.drewN nq).ownsRow (w.heap.size + 1 + 1) 3 1 u10 k ((gl (vdF f g) k).map (Value.int .i64)) := hown
          have Bd := below_drewN hBr nq
          generalize wr.drewN nq = wd at hLd hHd Od Bd ⊢
          clear hL hH hown hBr hac hbc
          go_wp2_with fail
          refine (aAdvance_any w.heap.size (s == 2) (x != 0) lo _ (hLd.cell 0) (hLd.frozen 0)).mono ?_
          rintro e w4 ⟨rfl, rfl⟩
          go_wp2_with fail
          refine (aAdvance_any (w.heap.size + 1) (s != 0) (x == 2) hg _ ((hHd.far (p := ⟨w.heap.size, 0, none⟩) (by simp) _).cell 0) ((hHd.far (p := ⟨w.heap.size, 0, none⟩) (by simp) _).frozen 0)).mono ?_
          rintro e w5 ⟨rfl, rfl⟩
          rw [← HLO.out, ← HHI.out]
          have L5 := (hLd.set 0 (.bool (lowF f g (k + 1)))).far (p := ⟨w.heap.size + 1, 0, none⟩) (by simp) (.bool (highF f g (k + 1)))
          have H5 := (hHd.far (p := ⟨w.heap.size, 0, none⟩) (by simp) (.bool (lowF f g (k + 1)))).set 0 (.bool (highF f g (k + 1)))
          have O5 := ownsRow_setCell_below (ownsRow_setCell_below Od (a := ⟨w.heap.size, 0, none⟩) (by simp; omega) (.bool (lowF f g (k + 1)))) (a := ⟨w.heap.size + 1, 0, none⟩) (by simp) (.bool (highF f g (k + 1)))
          have B5 := (Bd.setCell (p := ⟨w.heap.size, 0, none⟩) (Nat.le_refl _) (.bool (lowF f g (k + 1)))).setCell (p := ⟨w.heap.size + 1, 0, none⟩) (by simp) (.bool (highF f g (k + 1)))
          obtain ⟨W5, hW5⟩ : ∃ W5, W5 = (wd.setCell ⟨w.heap.size, 0, none⟩ (.bool (lowF f g (k + 1)))).setCell ⟨w.heap.size + 1, 0, none⟩ (.bool (highF f g (k + 1))) := ⟨_, rfl⟩
          rw [← hW5] at L5 H5 O5 B5 ⊢
          have hlt5 : w.heap.size + 1 + 1 ≤ W5.heap.size := H5.lt
          have L5' : Bk W5 w.heap.size 48 #[.bool (lowF f g (k + 1))] := L5
          have H5' : Bk W5 (w.heap.size + 1) 48 #[.bool (highF f g (k + 1))] := H5
          have HL5 := Lib.hid L5'
          have HH5 := Lib.hid H5'
          clear hW5 hLd hHd Od Bd L5 H5 L5' H5' HLO HHI
          obtain ⟨l', hl'⟩ : ∃ l', l' = lowF f g (k + 1) := ⟨_, rfl⟩
          obtain ⟨h', hh'⟩ : ∃ h', h' = highF f g (k + 1) := ⟨_, rfl⟩
          have HV := Lib.hid (show vdF f g k = if l' = true then 2 else if h' = true then 1 else 0 by rw [hl', hh']; rfl)
          rw [← hl', ← hh']
          clear hl' hh'
          have fin : ∀ (x : Int) (v' : Value) (w6 : World), vdF f g k = x → w6.ownsRow (w.heap.size + 1 + 1) 3 1 v' (k + 1) ((gl (vdF f g) k).map (Value.int .i64) ++ [.int .i64 x]) → (W5.alloc (.cells #[.int .i64 x] 3)).grownBy w6 (u10 : Value).ownBlock →
              w6.ownsRow (w.heap.size + 1 + 1) 3 1 v' (k + 1) ((gl (vdF f g) (k + 1)).map (Value.int .i64)) ∧ Bk w6 w.heap.size 48 #[.bool (lowF f g (k + 1))] ∧ Bk w6 (w.heap.size + 1) 48 #[.bool (highF f g (k + 1))] ∧ Below w.heap.size w w6 := by
            intro x v' w6 hx' ho hgr
            refine ⟨by rw [gl_succ, List.map_append, List.map_singleton, hx']; exact ho, ?_, ?_, ?_⟩
            · exact (hgr.block _ ((HL5.out).alloc _).lt (fun e => by have := (O5.lt _ e.symm).1; omega)).trans ((HL5.out).alloc _)
            · exact (hgr.block _ ((HH5.out).alloc _).lt (fun e => by have := (O5.lt _ e.symm).1; omega)).trans ((HH5.out).alloc _)
            · exact (B5.alloc B5.size _).grown hgr (by have := B5.size; simp; omega) (fun j e => by have := (O5.lt j e).1; omega)
          have FIN := Lib.hid fin
          have HINU := Lib.hid (show inUp f g (k + 1) = true by rw [inUp_succ, HIN.out, HINK.out]; rfl)
          clear fin
          cases l'
          · cases h'
            · go_wp2_with (at_builtin; refine wpList_append_own _ rfl _ _ 22 rfl (w.heap.size + 1 + 1) 3 i0 (.int .i64 0) 1 8 Tryd.underlying22 hi hz0 hz1 hz2 rfl (by decide) _ _ _ rfl (O5.alloc _) ⟨W5.heap.size, 0, none⟩ 1 1 [.int .i64 0] rfl rfl (cell_one_new _ _ _) (by simp [Value.oneCell']) (by unfold maxLen; omega) (by omega) (by simp; omega) ?_; intro v' w6 hown6 hgrow6 _)
              obtain ⟨r1, r2, r3, r4⟩ := FIN.out 0 v' w6 (by rw [HV.out]; rfl) hown6 hgrow6
              go_roundw
              case rel => exact ⟨k + 1, by omega, by go_num, HINU.out, r1, r2, r3, r4⟩
              case measure => simp [intOf]; omega
            · go_wp2_with (at_builtin; refine wpList_append_own _ rfl _ _ 22 rfl (w.heap.size + 1 + 1) 3 i0 (.int .i64 0) 1 8 Tryd.underlying22 hi hz0 hz1 hz2 rfl (by decide) _ _ _ rfl (O5.alloc _) ⟨W5.heap.size, 0, none⟩ 1 1 [.int .i64 1] rfl rfl (cell_one_new _ _ _) (by simp [Value.oneCell']) (by unfold maxLen; omega) (by omega) (by simp; omega) ?_; intro v' w6 hown6 hgrow6 _)
              obtain ⟨r1, r2, r3, r4⟩ := FIN.out 1 v' w6 (by rw [HV.out]; rfl) hown6 hgrow6
              go_roundw
              case rel => exact ⟨k + 1, by omega, by go_num, HINU.out, r1, r2, r3, r4⟩
              case measure => simp [intOf]; omega
          · go_wp2_with (at_builtin; refine wpList_append_own _ rfl _ _ 22 rfl (w.heap.size + 1 + 1) 3 i0 (.int .i64 0) 1 8 Tryd.underlying22 hi hz0 hz1 hz2 rfl (by decide) _ _ _ rfl (O5.alloc _) ⟨W5.heap.size, 0, none⟩ 1 1 [.int .i64 2] rfl rfl (cell_one_new _ _ _) (by simp [Value.oneCell']) (by unfold maxLen; omega) (by omega) (by simp; omega) ?_; intro v' w6 hown6 hgrow6 _)
            obtain ⟨r1, r2, r3, r4⟩ := FIN.out 2 v' w6 (by rw [HV.out]; rfl) hown6 hgrow6
            go_roundw
            case rel => exact ⟨k + 1, by omega, by go_num, HINU.out, r1, r2, r3, r4⟩
            case measure => simp [intOf]; omega
        · have HBAD := Lib.hid (hystL_bad hlt (show (inV (f k) && inV (g k)) = false by rw [← HS.out, ← HX.out]; simpa using hv))
          have hv' : s < 0 ∨ 2 < s ∨ x < 0 ∨ 2 < x := by simp [inV] at hv; omega
          clear hv
          by_cases g1 : s < 0
          · go_wp2_with fail
            go_quiet (fail)
            go_wp2
            go_ret
            exact ⟨_, rfl, by rw [HBAD.out]; exact World.ownsRow_nil _ _ _ _, below_drewN hBr _⟩
          · have d1 : decide (s < 0) = false := by simp; omega
            by_cases g2 : 2 < s
            · go_wp2_with fail
              go_quiet (fail)
              go_wp2
              go_ret
              exact ⟨_, rfl, by rw [HBAD.out]; exact World.ownsRow_nil _ _ _ _, below_drewN hBr _⟩
            · have d2 : decide (2 < s) = false := by simp; omega
              by_cases g3 : x < 0
              · go_wp2_with fail
                go_quiet (fail)
                go_wp2
                go_ret
                exact ⟨_, rfl, by rw [HBAD.out]; exact World.ownsRow_nil _ _ _ _, below_drewN hBr _⟩
              · have d3 : decide (x < 0) = false := by simp; omega
                have d4 : decide (2 < x) = true := by simp; omega
                go_wp2_with fail
                go_quiet (fail)
                go_wp2
                go_ret
                exact ⟨_, rfl, by rw [HBAD.out]; exact World.ownsRow_nil _ _ _ _, below_drewN hBr _⟩
      · obtain rfl : k = N := by omega
        go_wp2
        go_ret
        exact ⟨_, rfl, by unfold hystL; rw [if_pos HIN.out, gl_length]; exact World.ownsRow.mono hown (by omega), hBr⟩
end Go.Proofs.YtplnkainmfkfgaaDoor
