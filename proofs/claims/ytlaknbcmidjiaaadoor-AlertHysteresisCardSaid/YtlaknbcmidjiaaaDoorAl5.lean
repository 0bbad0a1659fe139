/- What alert.Ack hands back, for every alert. -/
import Derived.Test.YtlaknbcmidjiaaaDoorAl4
namespace Go.Proofs.YtlaknbcmidjiaaaDoor
open Go.RowKit

/-- The alert and the error that Ack hands back: a refusal has the zero alert. -/
def AckRes (r : ByteArray) (ver : Int) (f : Nat → Lb) (n : Nat) (w : World) (vis : Bool) (st le tk : Int) (e : Ending) (w' : World) : Prop :=
  Below w.heap.size w w' ∧
  if vis = false then e = .returned (.tuple #[.agg #[.string ⟨#[]⟩, .int .i64 0, .slice none 0 0, .int .i64 0, .int .i64 0, .int .i64 0], .int .i64 1])
  else if st = 2 ∨ st = 4 then ∃ v, e = .returned (.tuple #[.agg #[.string r, .int .i64 ver, v, .int .i64 3, .int .i64 tk, .int .i64 le], .int .i64 0]) ∧ w'.ownsRow w.heap.size 35 2 v n (vl (lcell f) (n * 2))
  else e = .returned (.tuple #[.agg #[.string ⟨#[]⟩, .int .i64 0, .slice none 0 0, .int .i64 0, .int .i64 0, .int .i64 0], .int .i64 20])

set_option maxRecDepth 100000 in
set_option maxHeartbeats 4000000 in
theorem aAck_any (r : ByteArray) (ver : Int) (A : Option Addr) (n c : Nat) (f : Nat → Lb) (st si le tk : Int) (w : World) (hn : n ≤ 1000000) (hR : RdL w w.heap.size A n f) (hL : Lev w) :
    Calls Tryd.prog 30 #[.agg #[.string r, .int .i64 ver, .slice A n c, .int .i64 st, .int .i64 si, .int .i64 le], .int .i64 tk] w fun e w' => AckRes r ver f n w (visB r ver f n st si le tk) st le tk e w' := by
  have HV := Lib.hid (show visB r ver f n st si le tk = (alB r ver f n st si le && decide (si ≤ tk) && decide (tk ≤ 1048576)) from rfl)
  have hbo : Below w.heap.size w ((w.alloc (.cells #[.string r, .int .i64 ver, .slice A n c, .int .i64 st, .int .i64 si, .int .i64 le] 25)).alloc (.cells #[.string ⟨#[]⟩, .int .i64 0, .slice none 0 0, .int .i64 0, .int .i64 0, .int .i64 0] 25)) := ((Below.refl _ _).alloc (Nat.le_refl _) _).alloc (by simp) _
  go_enter Tryd.func30, Tryd.ntmps30
  go_wp2_with fail
  refine (aVisible_any r ver A n c f st si le tk _ (Rd.next hR hbo) (hL.next hbo)).mono ?_
  rintro e w2 ⟨rfl, hb2⟩
  obtain ⟨X2, Y2⟩ := bk_two hb2
  have B2 : Below w.heap.size w w2 := hbo.trans (hb2.mono (by simp; omega))
  have hlt2 : w.heap.size + 1 < w2.heap.size := Y2.lt
  clear hb2
  obtain ⟨x0, x1, x2, x3, x4, x5⟩ := X2.six
  obtain ⟨y0, y1, y2, y3, y4, y5⟩ := Y2.six
  obtain ⟨f0, f1, f2, f3, f4, f5⟩ := Y2.sixf
  rw [← HV.out]
  have hz : ∀ (k : Int) (wz : World), wz = ((((((w2.setCell ⟨w.heap.size + 1, 0, none⟩ (.string ⟨#[]⟩)).setCell ⟨w.heap.size + 1, 1, none⟩ (.int .i64 0)).setCell ⟨w.heap.size + 1, 2, none⟩ (.slice none 0 0)).setCell ⟨w.heap.size + 1, 3, none⟩ (.int .i64 0)).setCell ⟨w.heap.size + 1, 4, none⟩ (.int .i64 0)).setCell ⟨w.heap.size + 1, 5, none⟩ (.int .i64 0)) →
      Bk wz (w.heap.size + 1) 25 #[.string ⟨#[]⟩, .int .i64 0, .slice none 0 0, .int .i64 0, .int .i64 0, .int .i64 0] ∧ Below w.heap.size w wz := by
    rintro k wz rfl
    exact ⟨Y2.set6 _ _ _ _ _ _, below6 B2 (by omega) _ _ _ _ _ _⟩
  have HZ := Lib.hid hz
  clear hz
  by_cases hv : visB r ver f n st si le tk = true
  · rw [hv]
    have HV2 := Lib.hid hv
    clear hv
    by_cases h1 : st = 2 ∨ st = 4
    · have e1 : (st != 2) = true → (st != 4) = false := fun h => by simp at h ⊢; omega
      have HH := Lib.hid h1
      have go : ∀ b1 b2 : Bool, (st != 2) = b1 → (st != 4) = b2 → (b1 && b2) = false := by
        rintro b1 b2 rfl rfl; simp; omega
      clear h1 e1
      by_cases h2 : st = 2
      · subst h2
        go_wp2_with fail
        refine (aChange_any r ver A n c f _ _ _ 3 tk le _ hn (Rd.next hR B2)).mono ?_
        rintro e w3 ⟨v, rfl, hown, hb3⟩
        obtain ⟨A2, c2, rfl, hc2, hc2m, hR2⟩ := Rd.of_vl hown
        have Y3 := Y2.next hb3
        have B3 := B2.trans (hb3.mono B2.size)
        clear hR2 hb3 x0 x1 x2 x3 x4 x5 X2 Y2 y0 y1 y2 y3 y4 y5 f0 f1 f2 f3 f4 f5 go
        obtain ⟨y0, y1, y2, y3, y4, y5⟩ := Y3.six
        obtain ⟨f0, f1, f2, f3, f4, f5⟩ := Y3.sixf
        go_wp2
        refine bodyPost_ret (v := .tuple #[.agg #[.string r, .int .i64 ver, .slice A2 n c2, .int .i64 3, .int .i64 tk, .int .i64 le], .int .i64 0]) (by simp [results, Tryd.results30, go_sem, y0, y1, y2, y3, y4, y5]) rfl ?_
        unfold AckRes
        rw [if_neg (by rw [HV2.out]; decide), if_pos (by decide)]
        exact ⟨below6 B3 (by omega) _ _ _ _ _ _, .slice A2 n c2, rfl, World.ownsRow.mono (own6 hown (b := w.heap.size + 1) hlt2 _ _ _ _ _ _) B2.size⟩
      · obtain rfl : st = 4 := by have := HH.out; omega
        clear h2
        go_wp2_with fail
        refine (aChange_any r ver A n c f _ _ _ 3 tk le _ hn (Rd.next hR B2)).mono ?_
        rintro e w3 ⟨v, rfl, hown, hb3⟩
        obtain ⟨A2, c2, rfl, hc2, hc2m, hR2⟩ := Rd.of_vl hown
        have Y3 := Y2.next hb3
        have B3 := B2.trans (hb3.mono B2.size)
        clear hR2 hb3 x0 x1 x2 x3 x4 x5 X2 Y2 y0 y1 y2 y3 y4 y5 f0 f1 f2 f3 f4 f5 go
        obtain ⟨y0, y1, y2, y3, y4, y5⟩ := Y3.six
        obtain ⟨f0, f1, f2, f3, f4, f5⟩ := Y3.sixf
        go_wp2
        refine bodyPost_ret (v := .tuple #[.agg #[.string r, .int .i64 ver, .slice A2 n c2, .int .i64 3, .int .i64 tk, .int .i64 le], .int .i64 0]) (by simp [results, Tryd.results30, go_sem, y0, y1, y2, y3, y4, y5]) rfl ?_
        unfold AckRes
        rw [if_neg (by rw [HV2.out]; decide), if_pos (by decide)]
        exact ⟨below6 B3 (by omega) _ _ _ _ _ _, .slice A2 n c2, rfl, World.ownsRow.mono (own6 hown (b := w.heap.size + 1) hlt2 _ _ _ _ _ _) B2.size⟩
    · have e2 : (st != 2) = true := by simp; omega
      have e4 : (st != 4) = true := by simp; omega
      have HH := Lib.hid h1
      clear h1
      go_wp2_with fail
      generalize hwz : ((((((w2.setCell ⟨w.heap.size + 1, 0, none⟩ (.string ⟨#[]⟩)).setCell ⟨w.heap.size + 1, 1, none⟩ (.int .i64 0)).setCell ⟨w.heap.size + 1, 2, none⟩ (.slice none 0 0)).setCell ⟨w.heap.size + 1, 3, none⟩ (.int .i64 0)).setCell ⟨w.heap.size + 1, 4, none⟩ (.int .i64 0)).setCell ⟨w.heap.size + 1, 5, none⟩ (.int .i64 0)) = wz
      obtain ⟨Z, BZ⟩ := HZ.out 0 wz hwz.symm
      clear hwz
      obtain ⟨z0, z1, z2, z3, z4, z5⟩ := Z.six
      refine bodyPost_ret (v := .tuple #[.agg #[.string ⟨#[]⟩, .int .i64 0, .slice none 0 0, .int .i64 0, .int .i64 0, .int .i64 0], .int .i64 20]) (by simp [results, Tryd.results30, go_sem, z0, z1, z2, z3, z4, z5]) rfl ?_
      unfold AckRes
      rw [if_neg (by rw [HV2.out]; decide), if_neg HH.out]
      exact ⟨BZ, rfl⟩
  · have hv' : visB r ver f n st si le tk = false := by simpa using hv
    rw [hv']
    have HV2 := Lib.hid hv'
    clear hv hv'
    go_wp2_with fail
    generalize hwz : ((((((w2.setCell ⟨w.heap.size + 1, 0, none⟩ (.string ⟨#[]⟩)).setCell ⟨w.heap.size + 1, 1, none⟩ (.int .i64 0)).setCell ⟨w.heap.size + 1, 2, none⟩ (.slice none 0 0)).setCell ⟨w.heap.size + 1, 3, none⟩ (.int .i64 0)).setCell ⟨w.heap.size + 1, 4, none⟩ (.int .i64 0)).setCell ⟨w.heap.size + 1, 5, none⟩ (.int .i64 0)) = wz
    obtain ⟨Z, BZ⟩ := HZ.out 0 wz hwz.symm
    clear hwz
    obtain ⟨z0, z1, z2, z3, z4, z5⟩ := Z.six
    refine bodyPost_ret (v := .tuple #[.agg #[.string ⟨#[]⟩, .int .i64 0, .slice none 0 0, .int .i64 0, .int .i64 0, .int .i64 0], .int .i64 1]) (by simp [results, Tryd.results30, go_sem, z0, z1, z2, z3, z4, z5]) rfl ?_
    unfold AckRes
    rw [if_pos HV2.out]
    exact ⟨BZ, rfl⟩
end Go.Proofs.YtlaknbcmidjiaaaDoor
