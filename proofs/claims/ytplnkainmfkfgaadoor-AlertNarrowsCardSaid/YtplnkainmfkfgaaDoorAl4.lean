/- What alert.Step, alert.Escalate and alert.Ack hand back, for every alert. -/
import Derived.Test.YtplnkainmfkfgaaDoorAl3
namespace Go.Proofs.YtplnkainmfkfgaaDoor
open Go.RowKit

/-- Can the alert be looked at at the tick? -/
def visB (r : ByteArray) (ver : Int) (f : Nat → Lb) (n : Nat) (st si le tk : Int) : Bool := alB r ver f n st si le && decide (si ≤ tk) && decide (tk ≤ 1048576)
/-- State, since, level, and whether a must begins. -/
def stepD (vis : Bool) (st si le vd tk : Int) : Int × Int × Int × Bool :=
  if vis = false then (st, si, le, false)
  else if vd = 0 ∧ st ≠ 0 then (0, tk, 0, false)
  else if vd = 1 ∧ st = 0 then (1, tk, 0, false)
  else if vd = 2 ∧ (st = 0 ∨ st = 1) then (2, tk, 0, true)
  else (st, si, le, false)
def escD (vis : Bool) (st si le tk dl lv : Int) : Int × Int × Int × Bool :=
  if vis = false ∨ (st ≠ 2 ∧ st ≠ 4) then (st, si, le, false)
  else if dl < 0 ∨ tk - si < dl ∨ lv ≤ le ∨ 16 ≤ le then (st, si, le, false)
  else (4, tk, le + 1, true)
/-- The alert that is handed back, with its labels' row the call's own. -/
def AlRes (r : ByteArray) (ver : Int) (f : Nat → Lb) (n : Nat) (w : World) (d : Int × Int × Int × Bool) (e : Ending) (w' : World) : Prop :=
  ∃ v, e = .returned (.tuple #[.agg #[.string r, .int .i64 ver, v, .int .i64 d.1, .int .i64 d.2.1, .int .i64 d.2.2.1], .bool d.2.2.2]) ∧ w'.ownsRow w.heap.size 82 2 v n (vl (lcell f) (n * 2)) ∧ Below w.heap.size w w'

set_option maxRecDepth 100000 in
set_option maxHeartbeats 4000000 in
theorem aStep_any (r : ByteArray) (ver : Int) (A : Option Addr) (n c : Nat) (f : Nat → Lb) (st si le vd tk : Int) (w : World) (hn : n ≤ 1000000) (hR : RdL w w.heap.size A n f) (hL : Lev w) :
    Calls Tryd.prog 21 #[.agg #[.string r, .int .i64 ver, .slice A n c, .int .i64 st, .int .i64 si, .int .i64 le], .int .i64 vd, .int .i64 tk] w fun e w' => AlRes r ver f n w (stepD (visB r ver f n st si le tk) st si le vd tk) e w' := by
  have HV := Lib.hid (show visB r ver f n st si le tk = (alB r ver f n st si le && decide (si ≤ tk) && decide (tk ≤ 1048576)) from rfl)
  have hbo : Below w.heap.size w ((w.alloc (.cells #[.string r, .int .i64 ver, .slice A n c, .int .i64 st, .int .i64 si, .int .i64 le] 52)).alloc (.cells #[.string ⟨#[]⟩, .int .i64 0, .slice none 0 0, .int .i64 0, .int .i64 0, .int .i64 0] 52)) := ((Below.refl _ _).alloc (Nat.le_refl _) _).alloc (by simp) _
  go_enter Tryd.func21, Tryd.ntmps21
  go_wp2_with fail
  refine (aVisible_any r ver A n c f st si le tk _ (Rd.next hR hbo) (hL.next hbo)).mono ?_
  rintro e w2 ⟨rfl, hb2⟩
  obtain ⟨X2, Y2⟩ := bk_two hb2
  have B2 : Below w.heap.size w w2 := hbo.trans (hb2.mono (by simp; omega))
  have hlt2 : w.heap.size + 1 < w2.heap.size := Y2.lt
  clear hb2
  obtain ⟨x0, x1, x2, x3, x4, x5⟩ := X2.six
  rw [← HV.out]
  by_cases hv : visB r ver f n st si le tk = true
  · rw [hv]
    have HV2 := Lib.hid hv
    clear hv
    have hd : ∀ d, stepD true st si le vd tk = d → stepD (visB r ver f n st si le tk) st si le vd tk = d := fun d h => by rw [HV2.out]; exact h
    have HD := Lib.hid hd
    clear hd
    by_cases h1 : vd = 0
    · subst h1
      by_cases h2 : st = 0
      · subst h2
        go_wp2_with fail
        refine (aSeparate_any r ver A n c f _ _ _ _ hn (Rd.next hR B2)).mono ?_
        rintro e w3 ⟨v, rfl, hown, hb3⟩
        obtain ⟨A2, c2, rfl, hc2, hc2m, hR2⟩ := Rd.of_vl hown
        have Y3 := Y2.next hb3
        have B3 := B2.trans (hb3.mono B2.size)
        clear hR2 hb3 x0 x1 x2 x3 x4 x5 X2 Y2
        obtain ⟨y0, y1, y2, y3, y4, y5⟩ := Y3.six
        obtain ⟨f0, f1, f2, f3, f4, f5⟩ := Y3.sixf
        go_wp2
        refine bodyPost_ret (v := .tuple #[.agg #[.string r, .int .i64 ver, .slice A2 n c2, .int .i64 0, .int .i64 si, .int .i64 le], .bool false]) (by simp [results, Tryd.results21, go_sem, y0, y1, y2, y3, y4, y5]) rfl ⟨.slice A2 n c2, ?_, ?_, ?_⟩
        · show Ending.returned _ = Ending.returned _; rw [HD.out _ (show stepD true 0 si le 0 tk = (0, si, le, false) by simp [stepD])]
        · exact World.ownsRow.mono (own6 hown (b := w.heap.size + 1) hlt2 _ _ _ _ _ _) B2.size
        · exact below6 B3 (by omega) _ _ _ _ _ _
      · have e2 : (st != 0) = true := by simp [h2]
        go_wp2_with fail
        refine (aChange_any r ver A n c f _ _ _ 0 tk 0 _ hn (Rd.next hR B2)).mono ?_
        rintro e w3 ⟨v, rfl, hown, hb3⟩
        obtain ⟨A2, c2, rfl, hc2, hc2m, hR2⟩ := Rd.of_vl hown
        have Y3 := Y2.next hb3
        have B3 := B2.trans (hb3.mono B2.size)
        clear hR2 hb3 x0 x1 x2 x3 x4 x5 X2 Y2
        obtain ⟨y0, y1, y2, y3, y4, y5⟩ := Y3.six
        obtain ⟨f0, f1, f2, f3, f4, f5⟩ := Y3.sixf
        go_wp2
        refine bodyPost_ret (v := .tuple #[.agg #[.string r, .int .i64 ver, .slice A2 n c2, .int .i64 0, .int .i64 tk, .int .i64 0], .bool false]) (by simp [results, Tryd.results21, go_sem, y0, y1, y2, y3, y4, y5]) rfl ⟨.slice A2 n c2, ?_, ?_, ?_⟩
        · show Ending.returned _ = Ending.returned _; rw [HD.out _ (show stepD true st si le 0 tk = (0, tk, 0, false) by simp [stepD, h2])]
        · exact World.ownsRow.mono (own6 hown (b := w.heap.size + 1) hlt2 _ _ _ _ _ _) B2.size
        · exact below6 B3 (by omega) _ _ _ _ _ _
    · have e1 : (vd == 0) = false := by simp [h1]
      by_cases h3 : vd = 1
      · subst h3
        by_cases h2 : st = 0
        · subst h2
          go_wp2_with fail
          refine (aChange_any r ver A n c f _ _ _ 1 tk 0 _ hn (Rd.next hR B2)).mono ?_
          rintro e w3 ⟨v, rfl, hown, hb3⟩
          obtain ⟨A2, c2, rfl, hc2, hc2m, hR2⟩ := Rd.of_vl hown
          have Y3 := Y2.next hb3
          have B3 := B2.trans (hb3.mono B2.size)
          clear hR2 hb3 x0 x1 x2 x3 x4 x5 X2 Y2
          obtain ⟨y0, y1, y2, y3, y4, y5⟩ := Y3.six
          obtain ⟨f0, f1, f2, f3, f4, f5⟩ := Y3.sixf
          go_wp2
          refine bodyPost_ret (v := .tuple #[.agg #[.string r, .int .i64 ver, .slice A2 n c2, .int .i64 1, .int .i64 tk, .int .i64 0], .bool false]) (by simp [results, Tryd.results21, go_sem, y0, y1, y2, y3, y4, y5]) rfl ⟨.slice A2 n c2, ?_, ?_, ?_⟩
          · show Ending.returned _ = Ending.returned _; rw [HD.out _ (show stepD true 0 si le 1 tk = (1, tk, 0, false) by simp [stepD])]
          · exact World.ownsRow.mono (own6 hown (b := w.heap.size + 1) hlt2 _ _ _ _ _ _) B2.size
          · exact below6 B3 (by omega) _ _ _ _ _ _
        · have e2 : (st == 0) = false := by simp [h2]
          go_wp2_with fail
          refine (aSeparate_any r ver A n c f _ _ _ _ hn (Rd.next hR B2)).mono ?_
          rintro e w3 ⟨v, rfl, hown, hb3⟩
          obtain ⟨A2, c2, rfl, hc2, hc2m, hR2⟩ := Rd.of_vl hown
          have Y3 := Y2.next hb3
          have B3 := B2.trans (hb3.mono B2.size)
          clear hR2 hb3 x0 x1 x2 x3 x4 x5 X2 Y2
          obtain ⟨y0, y1, y2, y3, y4, y5⟩ := Y3.six
          obtain ⟨f0, f1, f2, f3, f4, f5⟩ := Y3.sixf
          go_wp2
          refine bodyPost_ret (v := .tuple #[.agg #[.string r, .int .i64 ver, .slice A2 n c2, .int .i64 st, .int .i64 si, .int .i64 le], .bool false]) (by simp [results, Tryd.results21, go_sem, y0, y1, y2, y3, y4, y5]) rfl ⟨.slice A2 n c2, ?_, ?_, ?_⟩
          · show Ending.returned _ = Ending.returned _; rw [HD.out _ (show stepD true st si le 1 tk = (st, si, le, false) by simp [stepD, h2])]
          · exact World.ownsRow.mono (own6 hown (b := w.heap.size + 1) hlt2 _ _ _ _ _ _) B2.size
          · exact below6 B3 (by omega) _ _ _ _ _ _
      · have e3 : (vd == 1) = false := by simp [h3]
        by_cases h4 : vd = 2
        · subst h4
          by_cases h2 : st = 0
          · subst h2
            go_wp2_with fail
            refine (aChange_any r ver A n c f _ _ _ 2 tk 0 _ hn (Rd.next hR B2)).mono ?_
            rintro e w3 ⟨v, rfl, hown, hb3⟩
            obtain ⟨A2, c2, rfl, hc2, hc2m, hR2⟩ := Rd.of_vl hown
            have Y3 := Y2.next hb3
            have B3 := B2.trans (hb3.mono B2.size)
            clear hR2 hb3 x0 x1 x2 x3 x4 x5 X2 Y2
            obtain ⟨y0, y1, y2, y3, y4, y5⟩ := Y3.six
            obtain ⟨f0, f1, f2, f3, f4, f5⟩ := Y3.sixf
            go_wp2
            refine bodyPost_ret (v := .tuple #[.agg #[.string r, .int .i64 ver, .slice A2 n c2, .int .i64 2, .int .i64 tk, .int .i64 0], .bool true]) (by simp [results, Tryd.results21, go_sem, y0, y1, y2, y3, y4, y5]) rfl ⟨.slice A2 n c2, ?_, ?_, ?_⟩
            · show Ending.returned _ = Ending.returned _; rw [HD.out _ (show stepD true 0 si le 2 tk = (2, tk, 0, true) by simp [stepD])]
            · exact World.ownsRow.mono (own6 hown (b := w.heap.size + 1) hlt2 _ _ _ _ _ _) B2.size
            · exact below6 B3 (by omega) _ _ _ _ _ _
          · have e2 : (st == 0) = false := by simp [h2]
            by_cases h5 : st = 1
            · subst h5
              go_wp2_with fail
              refine (aChange_any r ver A n c f _ _ _ 2 tk 0 _ hn (Rd.next hR B2)).mono ?_
              rintro e w3 ⟨v, rfl, hown, hb3⟩
              obtain ⟨A2, c2, rfl, hc2, hc2m, hR2⟩ := Rd.of_vl hown
              have Y3 := Y2.next hb3
              have B3 := B2.trans (hb3.mono B2.size)
              clear hR2 hb3 x0 x1 x2 x3 x4 x5 X2 Y2
              obtain ⟨y0, y1, y2, y3, y4, y5⟩ := Y3.six
              obtain ⟨f0, f1, f2, f3, f4, f5⟩ := Y3.sixf
              go_wp2
              refine bodyPost_ret (v := .tuple #[.agg #[.string r, .int .i64 ver, .slice A2 n c2, .int .i64 2, .int .i64 tk, .int .i64 0], .bool true]) (by simp [results, Tryd.results21, go_sem, y0, y1, y2, y3, y4, y5]) rfl ⟨.slice A2 n c2, ?_, ?_, ?_⟩
              · show Ending.returned _ = Ending.returned _; rw [HD.out _ (show stepD true 1 si le 2 tk = (2, tk, 0, true) by simp [stepD])]
              · exact World.ownsRow.mono (own6 hown (b := w.heap.size + 1) hlt2 _ _ _ _ _ _) B2.size
              · exact below6 B3 (by omega) _ _ _ _ _ _
            · have e5 : (st == 1) = false := by simp [h5]
              go_wp2_with fail
              refine (aSeparate_any r ver A n c f _ _ _ _ hn (Rd.next hR B2)).mono ?_
              rintro e w3 ⟨v, rfl, hown, hb3⟩
              obtain ⟨A2, c2, rfl, hc2, hc2m, hR2⟩ := Rd.of_vl hown
              have Y3 := Y2.next hb3
              have B3 := B2.trans (hb3.mono B2.size)
              clear hR2 hb3 x0 x1 x2 x3 x4 x5 X2 Y2
              obtain ⟨y0, y1, y2, y3, y4, y5⟩ := Y3.six
              obtain ⟨f0, f1, f2, f3, f4, f5⟩ := Y3.sixf
              go_wp2
              refine bodyPost_ret (v := .tuple #[.agg #[.string r, .int .i64 ver, .slice A2 n c2, .int .i64 st, .int .i64 si, .int .i64 le], .bool false]) (by simp [results, Tryd.results21, go_sem, y0, y1, y2, y3, y4, y5]) rfl ⟨.slice A2 n c2, ?_, ?_, ?_⟩
              · show Ending.returned _ = Ending.returned _; rw [HD.out _ (show stepD true st si le 2 tk = (st, si, le, false) by simp [stepD, h2, h5])]
              · exact World.ownsRow.mono (own6 hown (b := w.heap.size + 1) hlt2 _ _ _ _ _ _) B2.size
              · exact below6 B3 (by omega) _ _ _ _ _ _
        · have e4 : (vd == 2) = false := by simp [h4]
          go_wp2_with fail
          refine (aSeparate_any r ver A n c f _ _ _ _ hn (Rd.next hR B2)).mono ?_
          rintro e w3 ⟨v, rfl, hown, hb3⟩
          obtain ⟨A2, c2, rfl, hc2, hc2m, hR2⟩ := Rd.of_vl hown
          have Y3 := Y2.next hb3
          have B3 := B2.trans (hb3.mono B2.size)
          clear hR2 hb3 x0 x1 x2 x3 x4 x5 X2 Y2
          obtain ⟨y0, y1, y2, y3, y4, y5⟩ := Y3.six
          obtain ⟨f0, f1, f2, f3, f4, f5⟩ := Y3.sixf
          go_wp2
          refine bodyPost_ret (v := .tuple #[.agg #[.string r, .int .i64 ver, .slice A2 n c2, .int .i64 st, .int .i64 si, .int .i64 le], .bool false]) (by simp [results, Tryd.results21, go_sem, y0, y1, y2, y3, y4, y5]) rfl ⟨.slice A2 n c2, ?_, ?_, ?_⟩
          · show Ending.returned _ = Ending.returned _; rw [HD.out _ (show stepD true st si le vd tk = (st, si, le, false) by simp [stepD, h1, h3, h4])]
          · exact World.ownsRow.mono (own6 hown (b := w.heap.size + 1) hlt2 _ _ _ _ _ _) B2.size
          · exact below6 B3 (by omega) _ _ _ _ _ _
  · have HV2 := Lib.hid (show visB r ver f n st si le tk = false by simpa using hv)
    rw [HV2.out]
    clear hv
    go_wp2_with fail
    refine (aSeparate_any r ver A n c f _ _ _ _ hn (Rd.next hR B2)).mono ?_
    rintro e w3 ⟨v, rfl, hown, hb3⟩
    obtain ⟨A2, c2, rfl, hc2, hc2m, hR2⟩ := Rd.of_vl hown
    have Y3 := Y2.next hb3
    have B3 := B2.trans (hb3.mono B2.size)
    clear hR2 hb3 x0 x1 x2 x3 x4 x5 X2 Y2
    obtain ⟨y0, y1, y2, y3, y4, y5⟩ := Y3.six
    obtain ⟨f0, f1, f2, f3, f4, f5⟩ := Y3.sixf
    go_wp2
    refine bodyPost_ret (v := .tuple #[.agg #[.string r, .int .i64 ver, .slice A2 n c2, .int .i64 st, .int .i64 si, .int .i64 le], .bool false]) (by simp [results, Tryd.results21, go_sem, y0, y1, y2, y3, y4, y5]) rfl ⟨.slice A2 n c2, ?_, ?_, ?_⟩
    · rw [HV2.out]; rfl
    · exact World.ownsRow.mono (own6 hown (b := w.heap.size + 1) hlt2 _ _ _ _ _ _) B2.size
    · exact below6 B3 (by omega) _ _ _ _ _ _

set_option maxRecDepth 100000 in
set_option maxHeartbeats 4000000 in
theorem aEsc_any (r : ByteArray) (ver : Int) (A : Option Addr) (n c : Nat) (f : Nat → Lb) (st si le tk dl lv : Int) (w : World) (hn : n ≤ 1000000) (hR : RdL w w.heap.size A n f) (hL : Lev w) (hb1 : -9223372036854775808 ≤ si ∧ si ≤ 9223372036854775807) (hb2' : -9223372036854775808 ≤ le ∧ le ≤ 9223372036854775807) :
    Calls Tryd.prog 22 #[.agg #[.string r, .int .i64 ver, .slice A n c, .int .i64 st, .int .i64 si, .int .i64 le], .int .i64 tk, .int .i64 dl, .int .i64 lv] w fun e w' => AlRes r ver f n w (escD (visB r ver f n st si le tk) st si le tk dl lv) e w' := by
  have HV := Lib.hid (show visB r ver f n st si le tk = (alB r ver f n st si le && decide (si ≤ tk) && decide (tk ≤ 1048576)) from rfl)
  have hbo : Below w.heap.size w ((w.alloc (.cells #[.string r, .int .i64 ver, .slice A n c, .int .i64 st, .int .i64 si, .int .i64 le] 52)).alloc (.cells #[.string ⟨#[]⟩, .int .i64 0, .slice none 0 0, .int .i64 0, .int .i64 0, .int .i64 0] 52)) := ((Below.refl _ _).alloc (Nat.le_refl _) _).alloc (by simp) _
  go_enter Tryd.func22, Tryd.ntmps22
  go_wp2_with fail
  refine (aVisible_any r ver A n c f st si le tk _ (Rd.next hR hbo) (hL.next hbo)).mono ?_
  rintro e w2 ⟨rfl, hb2⟩
  obtain ⟨X2, Y2⟩ := bk_two hb2
  have B2 : Below w.heap.size w w2 := hbo.trans (hb2.mono (by simp; omega))
  have hlt2 : w.heap.size + 1 < w2.heap.size := Y2.lt
  clear hb2
  obtain ⟨x0, x1, x2, x3, x4, x5⟩ := X2.six
  rw [← HV.out]
  by_cases hv : visB r ver f n st si le tk = true
  · rw [hv]
    have HV2 := Lib.hid hv
    have hvb : 0 ≤ si ∧ si ≤ tk ∧ tk ≤ 1048576 := by
      rw [HV.out] at hv
      simp [alB] at hv
      omega
    clear hv
    have hd : ∀ d, escD true st si le tk dl lv = d → escD (visB r ver f n st si le tk) st si le tk dl lv = d := fun d h => by rw [HV2.out]; exact h
    have HD := Lib.hid hd
    clear hd
    by_cases h1 : st = 2 ∨ st = 4
    · have e1 : (st != 2) = true → (st != 4) = false := fun h => by simp at h ⊢; omega
      by_cases h0 : dl < 0
      · rcases h1 with rfl | rfl
        · clear e1
          go_wp2_with fail
          refine (aSeparate_any r ver A n c f _ _ _ _ hn (Rd.next hR B2)).mono ?_
          rintro e w3 ⟨v, rfl, hown, hb3⟩
          obtain ⟨A2, c2, rfl, hc2, hc2m, hR2⟩ := Rd.of_vl hown
          have Y3 := Y2.next hb3
          have B3 := B2.trans (hb3.mono B2.size)
          clear hR2 hb3 x0 x1 x2 x3 x4 x5 X2 Y2
          obtain ⟨y0, y1, y2, y3, y4, y5⟩ := Y3.six
          obtain ⟨f0, f1, f2, f3, f4, f5⟩ := Y3.sixf
          go_wp2
          refine bodyPost_ret (v := .tuple #[.agg #[.string r, .int .i64 ver, .slice A2 n c2, .int .i64 2, .int .i64 si, .int .i64 le], .bool false]) (by simp [results, Tryd.results22, go_sem, y0, y1, y2, y3, y4, y5]) rfl ⟨.slice A2 n c2, ?_, ?_, ?_⟩
          · show Ending.returned _ = Ending.returned _; rw [HD.out _ (show escD true 2 si le tk dl lv = (2, si, le, false) by simp [escD]; omega)]
          · exact World.ownsRow.mono (own6 hown (b := w.heap.size + 1) hlt2 _ _ _ _ _ _) B2.size
          · exact below6 B3 (by omega) _ _ _ _ _ _
        · clear e1
          go_wp2_with fail
          refine (aSeparate_any r ver A n c f _ _ _ _ hn (Rd.next hR B2)).mono ?_
          rintro e w3 ⟨v, rfl, hown, hb3⟩
          obtain ⟨A2, c2, rfl, hc2, hc2m, hR2⟩ := Rd.of_vl hown
          have Y3 := Y2.next hb3
          have B3 := B2.trans (hb3.mono B2.size)
          clear hR2 hb3 x0 x1 x2 x3 x4 x5 X2 Y2
          obtain ⟨y0, y1, y2, y3, y4, y5⟩ := Y3.six
          obtain ⟨f0, f1, f2, f3, f4, f5⟩ := Y3.sixf
          go_wp2
          refine bodyPost_ret (v := .tuple #[.agg #[.string r, .int .i64 ver, .slice A2 n c2, .int .i64 4, .int .i64 si, .int .i64 le], .bool false]) (by simp [results, Tryd.results22, go_sem, y0, y1, y2, y3, y4, y5]) rfl ⟨.slice A2 n c2, ?_, ?_, ?_⟩
          · show Ending.returned _ = Ending.returned _; rw [HD.out _ (show escD true 4 si le tk dl lv = (4, si, le, false) by simp [escD]; omega)]
          · exact World.ownsRow.mono (own6 hown (b := w.heap.size + 1) hlt2 _ _ _ _ _ _) B2.size
          · exact below6 B3 (by omega) _ _ _ _ _ _
      · have d0 : decide (dl < 0) = false := by simp; omega
        by_cases h2 : tk - si < dl
        · rcases h1 with rfl | rfl
          · clear e1
            go_wp2_with fail
            refine (aSeparate_any r ver A n c f _ _ _ _ hn (Rd.next hR B2)).mono ?_
            rintro e w3 ⟨v, rfl, hown, hb3⟩
            obtain ⟨A2, c2, rfl, hc2, hc2m, hR2⟩ := Rd.of_vl hown
            have Y3 := Y2.next hb3
            have B3 := B2.trans (hb3.mono B2.size)
            clear hR2 hb3 x0 x1 x2 x3 x4 x5 X2 Y2
            obtain ⟨y0, y1, y2, y3, y4, y5⟩ := Y3.six
            obtain ⟨f0, f1, f2, f3, f4, f5⟩ := Y3.sixf
            go_wp2
            refine bodyPost_ret (v := .tuple #[.agg #[.string r, .int .i64 ver, .slice A2 n c2, .int .i64 2, .int .i64 si, .int .i64 le], .bool false]) (by simp [results, Tryd.results22, go_sem, y0, y1, y2, y3, y4, y5]) rfl ⟨.slice A2 n c2, ?_, ?_, ?_⟩
            · show Ending.returned _ = Ending.returned _; rw [HD.out _ (show escD true 2 si le tk dl lv = (2, si, le, false) by simp [escD]; omega)]
            · exact World.ownsRow.mono (own6 hown (b := w.heap.size + 1) hlt2 _ _ _ _ _ _) B2.size
            · exact below6 B3 (by omega) _ _ _ _ _ _
          · clear e1
            go_wp2_with fail
            refine (aSeparate_any r ver A n c f _ _ _ _ hn (Rd.next hR B2)).mono ?_
            rintro e w3 ⟨v, rfl, hown, hb3⟩
            obtain ⟨A2, c2, rfl, hc2, hc2m, hR2⟩ := Rd.of_vl hown
            have Y3 := Y2.next hb3
            have B3 := B2.trans (hb3.mono B2.size)
            clear hR2 hb3 x0 x1 x2 x3 x4 x5 X2 Y2
            obtain ⟨y0, y1, y2, y3, y4, y5⟩ := Y3.six
            obtain ⟨f0, f1, f2, f3, f4, f5⟩ := Y3.sixf
            go_wp2
            refine bodyPost_ret (v := .tuple #[.agg #[.string r, .int .i64 ver, .slice A2 n c2, .int .i64 4, .int .i64 si, .int .i64 le], .bool false]) (by simp [results, Tryd.results22, go_sem, y0, y1, y2, y3, y4, y5]) rfl ⟨.slice A2 n c2, ?_, ?_, ?_⟩
            · show Ending.returned _ = Ending.returned _; rw [HD.out _ (show escD true 4 si le tk dl lv = (4, si, le, false) by simp [escD]; omega)]
            · exact World.ownsRow.mono (own6 hown (b := w.heap.size + 1) hlt2 _ _ _ _ _ _) B2.size
            · exact below6 B3 (by omega) _ _ _ _ _ _
        · have d2 : decide (tk - si < dl) = false := by simp; omega
          by_cases h3 : lv ≤ le
          · rcases h1 with rfl | rfl
            · clear e1
              go_wp2_with fail
              refine (aSeparate_any r ver A n c f _ _ _ _ hn (Rd.next hR B2)).mono ?_
              rintro e w3 ⟨v, rfl, hown, hb3⟩
              obtain ⟨A2, c2, rfl, hc2, hc2m, hR2⟩ := Rd.of_vl hown
              have Y3 := Y2.next hb3
              have B3 := B2.trans (hb3.mono B2.size)
              clear hR2 hb3 x0 x1 x2 x3 x4 x5 X2 Y2
              obtain ⟨y0, y1, y2, y3, y4, y5⟩ := Y3.six
              obtain ⟨f0, f1, f2, f3, f4, f5⟩ := Y3.sixf
              go_wp2
              refine bodyPost_ret (v := .tuple #[.agg #[.string r, .int .i64 ver, .slice A2 n c2, .int .i64 2, .int .i64 si, .int .i64 le], .bool false]) (by simp [results, Tryd.results22, go_sem, y0, y1, y2, y3, y4, y5]) rfl ⟨.slice A2 n c2, ?_, ?_, ?_⟩
              · show Ending.returned _ = Ending.returned _; rw [HD.out _ (show escD true 2 si le tk dl lv = (2, si, le, false) by simp [escD]; omega)]
              · exact World.ownsRow.mono (own6 hown (b := w.heap.size + 1) hlt2 _ _ _ _ _ _) B2.size
              · exact below6 B3 (by omega) _ _ _ _ _ _
            · clear e1
              go_wp2_with fail
              refine (aSeparate_any r ver A n c f _ _ _ _ hn (Rd.next hR B2)).mono ?_
              rintro e w3 ⟨v, rfl, hown, hb3⟩
              obtain ⟨A2, c2, rfl, hc2, hc2m, hR2⟩ := Rd.of_vl hown
              have Y3 := Y2.next hb3
              have B3 := B2.trans (hb3.mono B2.size)
              clear hR2 hb3 x0 x1 x2 x3 x4 x5 X2 Y2
              obtain ⟨y0, y1, y2, y3, y4, y5⟩ := Y3.six
              obtain ⟨f0, f1, f2, f3, f4, f5⟩ := Y3.sixf
              go_wp2
              refine bodyPost_ret (v := .tuple #[.agg #[.string r, .int .i64 ver, .slice A2 n c2, .int .i64 4, .int .i64 si, .int .i64 le], .bool false]) (by simp [results, Tryd.results22, go_sem, y0, y1, y2, y3, y4, y5]) rfl ⟨.slice A2 n c2, ?_, ?_, ?_⟩
              · show Ending.returned _ = Ending.returned _; rw [HD.out _ (show escD true 4 si le tk dl lv = (4, si, le, false) by simp [escD]; omega)]
              · exact World.ownsRow.mono (own6 hown (b := w.heap.size + 1) hlt2 _ _ _ _ _ _) B2.size
              · exact below6 B3 (by omega) _ _ _ _ _ _
          · have d3 : decide (lv ≤ le) = false := by simp; omega
            by_cases h4 : 16 ≤ le
            · rcases h1 with rfl | rfl
              · clear e1
                go_wp2_with fail
                refine (aSeparate_any r ver A n c f _ _ _ _ hn (Rd.next hR B2)).mono ?_
                rintro e w3 ⟨v, rfl, hown, hb3⟩
                obtain ⟨A2, c2, rfl, hc2, hc2m, hR2⟩ := Rd.of_vl hown
                have Y3 := Y2.next hb3
                have B3 := B2.trans (hb3.mono B2.size)
                clear hR2 hb3 x0 x1 x2 x3 x4 x5 X2 Y2
                obtain ⟨y0, y1, y2, y3, y4, y5⟩ := Y3.six
                obtain ⟨f0, f1, f2, f3, f4, f5⟩ := Y3.sixf
                go_wp2
                refine bodyPost_ret (v := .tuple #[.agg #[.string r, .int .i64 ver, .slice A2 n c2, .int .i64 2, .int .i64 si, .int .i64 le], .bool false]) (by simp [results, Tryd.results22, go_sem, y0, y1, y2, y3, y4, y5]) rfl ⟨.slice A2 n c2, ?_, ?_, ?_⟩
                · show Ending.returned _ = Ending.returned _; rw [HD.out _ (show escD true 2 si le tk dl lv = (2, si, le, false) by simp [escD]; omega)]
                · exact World.ownsRow.mono (own6 hown (b := w.heap.size + 1) hlt2 _ _ _ _ _ _) B2.size
                · exact below6 B3 (by omega) _ _ _ _ _ _
              · clear e1
                go_wp2_with fail
                refine (aSeparate_any r ver A n c f _ _ _ _ hn (Rd.next hR B2)).mono ?_
                rintro e w3 ⟨v, rfl, hown, hb3⟩
                obtain ⟨A2, c2, rfl, hc2, hc2m, hR2⟩ := Rd.of_vl hown
                have Y3 := Y2.next hb3
                have B3 := B2.trans (hb3.mono B2.size)
                clear hR2 hb3 x0 x1 x2 x3 x4 x5 X2 Y2
                obtain ⟨y0, y1, y2, y3, y4, y5⟩ := Y3.six
                obtain ⟨f0, f1, f2, f3, f4, f5⟩ := Y3.sixf
                go_wp2
                refine bodyPost_ret (v := .tuple #[.agg #[.string r, .int .i64 ver, .slice A2 n c2, .int .i64 4, .int .i64 si, .int .i64 le], .bool false]) (by simp [results, Tryd.results22, go_sem, y0, y1, y2, y3, y4, y5]) rfl ⟨.slice A2 n c2, ?_, ?_, ?_⟩
                · show Ending.returned _ = Ending.returned _; rw [HD.out _ (show escD true 4 si le tk dl lv = (4, si, le, false) by simp [escD]; omega)]
                · exact World.ownsRow.mono (own6 hown (b := w.heap.size + 1) hlt2 _ _ _ _ _ _) B2.size
                · exact below6 B3 (by omega) _ _ _ _ _ _
            · have d4 : decide (16 ≤ le) = false := by simp; omega
              rcases h1 with rfl | rfl
              · clear e1
                go_wp2_with fail
                refine (aChange_any r ver A n c f _ _ _ 4 tk (le + 1) _ hn (Rd.next hR B2)).mono ?_
                rintro e w3 ⟨v, rfl, hown, hb3⟩
                obtain ⟨A2, c2, rfl, hc2, hc2m, hR2⟩ := Rd.of_vl hown
                have Y3 := Y2.next hb3
                have B3 := B2.trans (hb3.mono B2.size)
                clear hR2 hb3 x0 x1 x2 x3 x4 x5 X2 Y2
                obtain ⟨y0, y1, y2, y3, y4, y5⟩ := Y3.six
                obtain ⟨f0, f1, f2, f3, f4, f5⟩ := Y3.sixf
                go_wp2
                refine bodyPost_ret (v := .tuple #[.agg #[.string r, .int .i64 ver, .slice A2 n c2, .int .i64 4, .int .i64 tk, .int .i64 (le + 1)], .bool true]) (by simp [results, Tryd.results22, go_sem, y0, y1, y2, y3, y4, y5]) rfl ⟨.slice A2 n c2, ?_, ?_, ?_⟩
                · show Ending.returned _ = Ending.returned _; rw [HD.out _ (show escD true 2 si le tk dl lv = (4, tk, le + 1, true) by simp [escD]; omega)]
                · exact World.ownsRow.mono (own6 hown (b := w.heap.size + 1) hlt2 _ _ _ _ _ _) B2.size
                · exact below6 B3 (by omega) _ _ _ _ _ _
              · clear e1
                go_wp2_with fail
                refine (aChange_any r ver A n c f _ _ _ 4 tk (le + 1) _ hn (Rd.next hR B2)).mono ?_
                rintro e w3 ⟨v, rfl, hown, hb3⟩
                obtain ⟨A2, c2, rfl, hc2, hc2m, hR2⟩ := Rd.of_vl hown
                have Y3 := Y2.next hb3
                have B3 := B2.trans (hb3.mono B2.size)
                clear hR2 hb3 x0 x1 x2 x3 x4 x5 X2 Y2
                obtain ⟨y0, y1, y2, y3, y4, y5⟩ := Y3.six
                obtain ⟨f0, f1, f2, f3, f4, f5⟩ := Y3.sixf
                go_wp2
                refine bodyPost_ret (v := .tuple #[.agg #[.string r, .int .i64 ver, .slice A2 n c2, .int .i64 4, .int .i64 tk, .int .i64 (le + 1)], .bool true]) (by simp [results, Tryd.results22, go_sem, y0, y1, y2, y3, y4, y5]) rfl ⟨.slice A2 n c2, ?_, ?_, ?_⟩
                · show Ending.returned _ = Ending.returned _; rw [HD.out _ (show escD true 4 si le tk dl lv = (4, tk, le + 1, true) by simp [escD]; omega)]
                · exact World.ownsRow.mono (own6 hown (b := w.heap.size + 1) hlt2 _ _ _ _ _ _) B2.size
                · exact below6 B3 (by omega) _ _ _ _ _ _
    · have e1 : (st != 2) = true := by simp; omega
      have e2 : (st != 4) = true := by simp; omega
      go_wp2_with fail
      refine (aSeparate_any r ver A n c f _ _ _ _ hn (Rd.next hR B2)).mono ?_
      rintro e w3 ⟨v, rfl, hown, hb3⟩
      obtain ⟨A2, c2, rfl, hc2, hc2m, hR2⟩ := Rd.of_vl hown
      have Y3 := Y2.next hb3
      have B3 := B2.trans (hb3.mono B2.size)
      clear hR2 hb3 x0 x1 x2 x3 x4 x5 X2 Y2
      obtain ⟨y0, y1, y2, y3, y4, y5⟩ := Y3.six
      obtain ⟨f0, f1, f2, f3, f4, f5⟩ := Y3.sixf
      go_wp2
      refine bodyPost_ret (v := .tuple #[.agg #[.string r, .int .i64 ver, .slice A2 n c2, .int .i64 st, .int .i64 si, .int .i64 le], .bool false]) (by simp [results, Tryd.results22, go_sem, y0, y1, y2, y3, y4, y5]) rfl ⟨.slice A2 n c2, ?_, ?_, ?_⟩
      · show Ending.returned _ = Ending.returned _; rw [HD.out _ (show escD true st si le tk dl lv = (st, si, le, false) by rw [escD, if_pos (by right; constructor <;> omega)])]
      · exact World.ownsRow.mono (own6 hown (b := w.heap.size + 1) hlt2 _ _ _ _ _ _) B2.size
      · exact below6 B3 (by omega) _ _ _ _ _ _
  · have HV2 := Lib.hid (show visB r ver f n st si le tk = false by simpa using hv)
    rw [HV2.out]
    clear hv
    go_wp2_with fail
    refine (aSeparate_any r ver A n c f _ _ _ _ hn (Rd.next hR B2)).mono ?_
    rintro e w3 ⟨v, rfl, hown, hb3⟩
    obtain ⟨A2, c2, rfl, hc2, hc2m, hR2⟩ := Rd.of_vl hown
    have Y3 := Y2.next hb3
    have B3 := B2.trans (hb3.mono B2.size)
    clear hR2 hb3 x0 x1 x2 x3 x4 x5 X2 Y2
    obtain ⟨y0, y1, y2, y3, y4, y5⟩ := Y3.six
    obtain ⟨f0, f1, f2, f3, f4, f5⟩ := Y3.sixf
    go_wp2
    refine bodyPost_ret (v := .tuple #[.agg #[.string r, .int .i64 ver, .slice A2 n c2, .int .i64 st, .int .i64 si, .int .i64 le], .bool false]) (by simp [results, Tryd.results22, go_sem, y0, y1, y2, y3, y4, y5]) rfl ⟨.slice A2 n c2, ?_, ?_, ?_⟩
    · rw [HV2.out]; rfl
    · exact World.ownsRow.mono (own6 hown (b := w.heap.size + 1) hlt2 _ _ _ _ _ _) B2.size
    · exact below6 B3 (by omega) _ _ _ _ _ _
end Go.Proofs.YtplnkainmfkfgaaDoor
