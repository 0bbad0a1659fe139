/- What alert.Valid and alert.visible answer, for every alert, where the package's table holds what its text lays. -/
import Derived.Test.YtplnkainmfkfgaaDoorLbl2
namespace Go.Proofs.YtplnkainmfkfgaaDoor
open Go.RowKit

/-- The package's table of levels, a row a state: least, greatest. -/
def lev (k : Nat) : Int := [0, 0, 0, 0, 0, 0, 0, 16, 1, 16].getD k 0
def Lev (w : World) : Prop := ∀ k, k < 10 → w.cell? ⟨0, k, none⟩ = some (.int .i64 (lev k))
theorem Lev.pos {w : World} (h : Lev w) : 0 < w.heap.size := World.block_lt_of_cell? w _ (h 0 (by omega))
theorem Lev.below {w w' : World} {B : Nat} (h : Lev w) (hB : 0 < B) (hb : Below B w w') : Lev w' := fun k hk => (hb.cell (p := ⟨0, k, none⟩) hB).trans (h k hk)
theorem Lev.next {w w' : World} (h : Lev w) (hb : Below w.heap.size w w') : Lev w' := h.below h.pos hb

/-- The levels that a state allows. -/
def lvB (st le : Int) : Bool := decide (lev (st.toNat * 2) ≤ le) && decide (le ≤ lev (st.toNat * 2 + 1))
def alB (r : ByteArray) (ver : Int) (f : Nat → Lb) (n : Nat) (st si le : Int) : Bool :=
  nameB r && decide (1 ≤ ver) && validL f n && decide (0 ≤ st) && decide (st ≤ 4) && decide (0 ≤ si) && decide (si ≤ 1048576) && lvB st le

theorem six_after {w w' : World} {v0 v1 v2 v3 v4 v5 : Value} {t : TypeId} (hb : Below (w.alloc (.cells #[v0, v1, v2, v3, v4, v5] t)).heap.size (w.alloc (.cells #[v0, v1, v2, v3, v4, v5] t)) w') :
    w'.cell? ⟨w.heap.size, 0, none⟩ = some v0 ∧ w'.cell? ⟨w.heap.size, 1, none⟩ = some v1 ∧ w'.cell? ⟨w.heap.size, 2, none⟩ = some v2 ∧ w'.cell? ⟨w.heap.size, 3, none⟩ = some v3 ∧ w'.cell? ⟨w.heap.size, 4, none⟩ = some v4 ∧ w'.cell? ⟨w.heap.size, 5, none⟩ = some v5 :=
  ⟨cell_after hb 0 rfl, cell_after hb 1 rfl, cell_after hb 2 rfl, cell_after hb 3 rfl, cell_after hb 4 rfl, cell_after hb 5 rfl⟩

set_option maxRecDepth 100000 in
set_option maxHeartbeats 4000000 in
theorem aValid_any (r : ByteArray) (ver : Int) (A : Option Addr) (n c : Nat) (f : Nat → Lb) (st si le : Int) (w : World) (hR : RdL w w.heap.size A n f) (hL : Lev w) :
    Calls Tryd.prog 48 #[.agg #[.string r, .int .i64 ver, .slice A n c, .int .i64 st, .int .i64 si, .int .i64 le]] w fun e w' => e = .returned (.bool (alB r ver f n st si le)) ∧ Below w.heap.size w w' := by
  have hal : alB r ver f n st si le = (nameB r && decide (1 ≤ ver) && validL f n && decide (0 ≤ st) && decide (st ≤ 4) && decide (0 ≤ si) && decide (si ≤ 1048576) && lvB st le) := rfl
  have HAL := Lib.hid hal
  clear hal
  have hbo : Below w.heap.size w (w.alloc (.cells #[.string r, .int .i64 ver, .slice A n c, .int .i64 st, .int .i64 si, .int .i64 le] 52)) := (Below.refl _ _).alloc (Nat.le_refl _) _
  go_enter Tryd.func48, Tryd.ntmps48
  go_wp2_with fail
  refine (lName_any r _).mono ?_
  rintro e w2 ⟨rfl, hb2⟩
  obtain ⟨c0, c1, c2, c3, c4, c5⟩ := six_after hb2
  have B2 : Below w.heap.size w w2 := hbo.trans (hb2.mono (by simp))
  by_cases h1 : nameB r = true
  · have H1 := Lib.hid h1
    rw [h1]
    clear h1
    by_cases h2 : 1 ≤ ver
    · have d2 : decide (ver < 1) = false := by simp; omega
      go_wp2_with fail
      refine (lValid_any A n c f _ (Rd.next hR B2)).mono ?_
      rintro e w3 ⟨rfl, hb3⟩
      have B3 : Below w.heap.size w w3 := B2.trans (hb3.mono B2.size)
      have hlt : w.heap.size < w2.heap.size := by have := hb2.size; simp at this; omega
      replace c3 := (hb3.cell (p := ⟨w.heap.size, 3, none⟩) hlt).trans c3
      replace c4 := (hb3.cell (p := ⟨w.heap.size, 4, none⟩) hlt).trans c4
      replace c5 := (hb3.cell (p := ⟨w.heap.size, 5, none⟩) hlt).trans c5
      have hL3 := Lib.hid (hL.next B3)
      clear c0 c1 c2
      by_cases h3 : validL f n = true
      · have H3 := Lib.hid h3
        rw [h3]
        clear h3
        by_cases h4 : 0 ≤ st
        · have d4 : decide (st < 0) = false := by simp; omega
          by_cases h5 : st ≤ 4
          · have d5 : decide (4 < st) = false := by simp; omega
            by_cases h6 : 0 ≤ si
            · have d6 : decide (si < 0) = false := by simp; omega
              by_cases h7 : si ≤ 1048576
              · have d7 : decide (1048576 < si) = false := by simp; omega
                have hst : st = 0 ∨ st = 1 ∨ st = 2 ∨ st = 3 ∨ st = 4 := by omega
                have HALL : Hid (alB r ver f n st si le = lvB st le) := by
                  show alB r ver f n st si le = lvB st le
                  rw [HAL.out, H1.out, H3.out, decide_eq_true h2, decide_eq_true h4, decide_eq_true h5, decide_eq_true h6, decide_eq_true h7]
                  simp
                clear HAL H1 H3 d4 d5 h2 h6
                rcases hst with rfl | rfl | rfl | rfl | rfl
                · have l0 : w3.cell? ⟨0, 0, none⟩ = some (.int .i64 0) := hL3.out 0 (by omega)
                  have l1 : w3.cell? ⟨0, 1, none⟩ = some (.int .i64 0) := hL3.out 1 (by omega)
                  have HLV := Lib.hid (show lvB 0 le = (decide (0 ≤ le) && decide (le ≤ 0)) from rfl)
                  by_cases h8 : 0 ≤ le
                  · have d8 : decide (0 ≤ le) = true := by simp; omega
                    go_wp2_with fail
                    go_quiet (fail)
                    go_wp2
                    go_ret
                    exact ⟨by rw [HALL.out, HLV.out, d8, Bool.true_and]; rfl, below_drewN B3 _⟩
                  · have d8 : decide (0 ≤ le) = false := by simp; omega
                    go_wp2_with fail
                    go_quiet (fail)
                    go_wp2
                    go_ret
                    exact ⟨by rw [HALL.out, HLV.out, d8, Bool.false_and]; rfl, below_drewN B3 _⟩
                · have l0 : w3.cell? ⟨0, 2, none⟩ = some (.int .i64 0) := hL3.out 2 (by omega)
                  have l1 : w3.cell? ⟨0, 3, none⟩ = some (.int .i64 0) := hL3.out 3 (by omega)
                  have HLV := Lib.hid (show lvB 1 le = (decide (0 ≤ le) && decide (le ≤ 0)) from rfl)
                  by_cases h8 : 0 ≤ le
                  · have d8 : decide (0 ≤ le) = true := by simp; omega
                    go_wp2_with fail
                    go_quiet (fail)
                    go_wp2
                    go_ret
                    exact ⟨by rw [HALL.out, HLV.out, d8, Bool.true_and]; rfl, below_drewN B3 _⟩
                  · have d8 : decide (0 ≤ le) = false := by simp; omega
                    go_wp2_with fail
                    go_quiet (fail)
                    go_wp2
                    go_ret
                    exact ⟨by rw [HALL.out, HLV.out, d8, Bool.false_and]; rfl, below_drewN B3 _⟩
                · have l0 : w3.cell? ⟨0, 4, none⟩ = some (.int .i64 0) := hL3.out 4 (by omega)
                  have l1 : w3.cell? ⟨0, 5, none⟩ = some (.int .i64 0) := hL3.out 5 (by omega)
                  have HLV := Lib.hid (show lvB 2 le = (decide (0 ≤ le) && decide (le ≤ 0)) from rfl)
                  by_cases h8 : 0 ≤ le
                  · have d8 : decide (0 ≤ le) = true := by simp; omega
                    go_wp2_with fail
                    go_quiet (fail)
                    go_wp2
                    go_ret
                    exact ⟨by rw [HALL.out, HLV.out, d8, Bool.true_and]; rfl, below_drewN B3 _⟩
                  · have d8 : decide (0 ≤ le) = false := by simp; omega
                    go_wp2_with fail
                    go_quiet (fail)
                    go_wp2
                    go_ret
                    exact ⟨by rw [HALL.out, HLV.out, d8, Bool.false_and]; rfl, below_drewN B3 _⟩
                · have l0 : w3.cell? ⟨0, 6, none⟩ = some (.int .i64 0) := hL3.out 6 (by omega)
                  have l1 : w3.cell? ⟨0, 7, none⟩ = some (.int .i64 16) := hL3.out 7 (by omega)
                  have HLV := Lib.hid (show lvB 3 le = (decide (0 ≤ le) && decide (le ≤ 16)) from rfl)
                  by_cases h8 : 0 ≤ le
                  · have d8 : decide (0 ≤ le) = true := by simp; omega
                    go_wp2_with fail
                    go_quiet (fail)
                    go_wp2
                    go_ret
                    exact ⟨by rw [HALL.out, HLV.out, d8, Bool.true_and]; rfl, below_drewN B3 _⟩
                  · have d8 : decide (0 ≤ le) = false := by simp; omega
                    go_wp2_with fail
                    go_quiet (fail)
                    go_wp2
                    go_ret
                    exact ⟨by rw [HALL.out, HLV.out, d8, Bool.false_and]; rfl, below_drewN B3 _⟩
                · have l0 : w3.cell? ⟨0, 8, none⟩ = some (.int .i64 1) := hL3.out 8 (by omega)
                  have l1 : w3.cell? ⟨0, 9, none⟩ = some (.int .i64 16) := hL3.out 9 (by omega)
                  have HLV := Lib.hid (show lvB 4 le = (decide (1 ≤ le) && decide (le ≤ 16)) from rfl)
                  by_cases h8 : 1 ≤ le
                  · have d8 : decide (1 ≤ le) = true := by simp; omega
                    go_wp2_with fail
                    go_quiet (fail)
                    go_wp2
                    go_ret
                    exact ⟨by rw [HALL.out, HLV.out, d8, Bool.true_and]; rfl, below_drewN B3 _⟩
                  · have d8 : decide (1 ≤ le) = false := by simp; omega
                    go_wp2_with fail
                    go_quiet (fail)
                    go_wp2
                    go_ret
                    exact ⟨by rw [HALL.out, HLV.out, d8, Bool.false_and]; rfl, below_drewN B3 _⟩
              · have d7 : decide (1048576 < si) = true := by simp; omega
                have dd : decide (si ≤ 1048576) = false := by simp; omega
                have HALL := Lib.hid (show alB r ver f n st si le = false by rw [HAL.out, dd]; simp)
                clear dd
                go_wp2
                go_ret
                exact ⟨by rw [HALL.out]; rfl, B3⟩
            · have d6 : decide (si < 0) = true := by simp; omega
              have dd : decide (0 ≤ si) = false := by simp; omega
              have HALL := Lib.hid (show alB r ver f n st si le = false by rw [HAL.out, dd]; simp)
              clear dd
              go_wp2
              go_ret
              exact ⟨by rw [HALL.out]; rfl, B3⟩
          · have d5 : decide (4 < st) = true := by simp; omega
            have dd : decide (st ≤ 4) = false := by simp; omega
            have HALL := Lib.hid (show alB r ver f n st si le = false by rw [HAL.out, dd]; simp)
            clear dd
            go_wp2
            go_ret
            exact ⟨by rw [HALL.out]; rfl, B3⟩
        · have d4 : decide (st < 0) = true := by simp; omega
          have dd : decide (0 ≤ st) = false := by simp; omega
          have HALL := Lib.hid (show alB r ver f n st si le = false by rw [HAL.out, dd]; simp)
          clear dd
          go_wp2
          go_ret
          exact ⟨by rw [HALL.out]; rfl, B3⟩
      · have H3 := Lib.hid (show validL f n = false by simpa using h3)
        rw [H3.out]
        clear h3
        have HALL := Lib.hid (show alB r ver f n st si le = false by rw [HAL.out, H3.out]; simp)
        go_wp2
        go_ret
        exact ⟨by rw [HALL.out]; rfl, B3⟩
    · have d2 : decide (ver < 1) = true := by simp; omega
      have dd : decide (1 ≤ ver) = false := by simp; omega
      have HALL := Lib.hid (show alB r ver f n st si le = false by rw [HAL.out, dd]; simp)
      clear dd
      go_wp2
      go_ret
      exact ⟨by rw [HALL.out]; rfl, B2⟩
  · have H1 := Lib.hid (show nameB r = false by simpa using h1)
    rw [H1.out]
    clear h1
    have HALL := Lib.hid (show alB r ver f n st si le = false by rw [HAL.out, H1.out]; simp)
    go_wp2
    go_ret
    exact ⟨by rw [HALL.out]; rfl, B2⟩

set_option maxRecDepth 100000 in
set_option maxHeartbeats 2000000 in
theorem aVisible_any (r : ByteArray) (ver : Int) (A : Option Addr) (n c : Nat) (f : Nat → Lb) (st si le tk : Int) (w : World) (hR : RdL w w.heap.size A n f) (hL : Lev w) :
    Calls Tryd.prog 33 #[.agg #[.string r, .int .i64 ver, .slice A n c, .int .i64 st, .int .i64 si, .int .i64 le], .int .i64 tk] w fun e w' => e = .returned (.bool (alB r ver f n st si le && decide (si ≤ tk) && decide (tk ≤ 1048576))) ∧ Below w.heap.size w w' := by
  have hbo : Below w.heap.size w (w.alloc (.cells #[.string r, .int .i64 ver, .slice A n c, .int .i64 st, .int .i64 si, .int .i64 le] 52)) := (Below.refl _ _).alloc (Nat.le_refl _) _
  go_enter Tryd.func33, Tryd.ntmps33
  go_wp2_with fail
  refine (aValid_any r ver A n c f st si le _ (Rd.next hR hbo) (hL.next hbo)).mono ?_
  rintro e w2 ⟨rfl, hb2⟩
  obtain ⟨c0, c1, c2, c3, c4, c5⟩ := six_after hb2
  have B2 : Below w.heap.size w w2 := hbo.trans (hb2.mono (by simp))
  by_cases h1 : alB r ver f n st si le = true
  · have H1 := Lib.hid h1
    rw [h1]
    clear h1
    by_cases h2 : si ≤ tk
    · have d2 : decide (si ≤ tk) = true := by simp; omega
      go_wp2
      go_ret
      exact ⟨by rw [H1.out, d2]; simp, B2⟩
    · have d2 : decide (si ≤ tk) = false := by simp; omega
      go_wp2
      go_ret
      exact ⟨by rw [H1.out, d2]; simp, B2⟩
  · have H1 := Lib.hid (show alB r ver f n st si le = false by simpa using h1)
    rw [H1.out]
    clear h1
    go_wp2
    go_ret
    exact ⟨by rw [H1.out]; simp, B2⟩
end Go.Proofs.YtplnkainmfkfgaaDoor
