/- The documented examples of package alert (lives), where the package's table holds what its text lays. -/
import Derived.Test.YtplnkainmfkfgaaDoorAl4
import Derived.Test.YtplnkainmfkfgaaDoorAl3
import Derived.Test.YtplnkainmfkfgaaDoorHyst
namespace Go.Proofs.YtplnkainmfkfgaaDoor
open Go.RowKit

theorem RdL.nil {w : World} {B : Nat} {A : Option Addr} {f : Nat → Lb} : RdL w B A 0 f := by unfold RdL; rw [Nat.zero_mul]; exact Rd.nil
/-- The name hot. -/
def hot : ByteArray := ⟨#[104, 111, 116]⟩
theorem hot_name : nameB hot = true := by decide
def noL : Nat → Lb := fun _ => (hot, hot)
theorem hot_vis (st si le tk : Int) (h1 : 0 ≤ st) (h2 : st ≤ 4) (h3 : 0 ≤ si) (h4 : si ≤ tk) (h5 : tk ≤ 1048576) (h6 : lvB st le = true) : visB hot 1 noL 0 st si le tk = true := by
  unfold visB alB
  rw [hot_name, decide_eq_true h1, decide_eq_true h2, decide_eq_true h3, decide_eq_true h4, decide_eq_true h5, h6, decide_eq_true (show si ≤ 1048576 by omega)]
  rfl

set_option maxRecDepth 100000 in
set_option maxHeartbeats 4000000 in
theorem lives_any (w : World) (hL : Lev w) : Calls Tryd.prog 11 #[] w fun e w' => e = .returned (.bool true) ∧ Below w.heap.size w w' := by
  have s1 : stepD (visB hot 1 noL 0 0 0 0 5) 0 0 0 2 5 = (2, 5, 0, true) := by rw [hot_vis 0 0 0 5 (by decide) (by decide) (by decide) (by decide) (by decide) (by decide)]; rfl
  have s2 : stepD (visB hot 1 noL 0 2 5 0 6) 2 5 0 1 6 = (2, 5, 0, false) := by rw [hot_vis 2 5 0 6 (by decide) (by decide) (by decide) (by decide) (by decide) (by decide)]; rfl
  have s3 : escD (visB hot 1 noL 0 2 5 0 8) 2 5 0 8 3 2 = (4, 8, 1, true) := by rw [hot_vis 2 5 0 8 (by decide) (by decide) (by decide) (by decide) (by decide) (by decide)]; rfl
  have S1 := Lib.hid s1
  have S2 := Lib.hid s2
  have S3 := Lib.hid s3
  clear s1 s2 s3
  have b0 : Below w.heap.size w (w.alloc (.cells #[.string hot, .int .i64 1, .slice none 0 0, .int .i64 0, .int .i64 0, .int .i64 0] 52)) := (Below.refl _ _).alloc (Nat.le_refl _) _
  go_enter Tryd.func11, Tryd.ntmps11
  go_wp2_with fail
  refine (aStep_any hot 1 none 0 0 noL 0 0 0 2 5 _ (by omega) RdL.nil (hL.next b0)).mono ?_
  rintro e w1 ⟨v, rfl, hown, hb1⟩
  obtain ⟨A1, c1, rfl, hc1, hc1m, hR1⟩ := Rd.of_vl hown
  rw [S1.out]
  have b1 : Below w.heap.size w w1 := b0.trans (hb1.mono b0.size)
  clear hown hc1 hc1m hR1 hb1 S1 b0
  have P1 := Bk.new w1 52 #[.string hot, .int .i64 1, .slice A1 0 c1, .int .i64 2, .int .i64 5, .int .i64 0]
  have b1' := b1.alloc b1.size (.cells #[.string hot, .int .i64 1, .slice A1 0 c1, .int .i64 2, .int .i64 5, .int .i64 0] 52)
  go_wp2_with fail
  refine (aStep_any hot 1 A1 0 c1 noL 2 5 0 1 6 _ (by omega) RdL.nil (hL.next b1')).mono ?_
  rintro e w2 ⟨v, rfl, hown, hb2⟩
  obtain ⟨A2, c2, rfl, hc2, hc2m, hR2⟩ := Rd.of_vl hown
  rw [S2.out]
  have b2 := b1'.trans (hb2.mono b1'.size)
  have P1' := P1.next hb2
  clear hown hc2 hc2m hR2 hb2 S2 b1' P1
  have P2 := Bk.new w2 52 #[.string hot, .int .i64 1, .slice A2 0 c2, .int .i64 2, .int .i64 5, .int .i64 0]
  have b2' := b2.alloc b2.size (.cells #[.string hot, .int .i64 1, .slice A2 0 c2, .int .i64 2, .int .i64 5, .int .i64 0] 52)
  have P1'' := P1'.alloc (.cells #[.string hot, .int .i64 1, .slice A2 0 c2, .int .i64 2, .int .i64 5, .int .i64 0] 52)
  clear P1'
  go_wp2_with fail
  refine (aEsc_any hot 1 A2 0 c2 noL 2 5 0 8 3 2 _ (by omega) RdL.nil (hL.next b2') (by decide) (by decide)).mono ?_
  rintro e w3 ⟨v, rfl, hown, hb3⟩
  obtain ⟨A3, c3, rfl, hc3, hc3m, hR3⟩ := Rd.of_vl hown
  rw [S3.out]
  have b3 := b2'.trans (hb3.mono b2'.size)
  have Q1 := P1''.next hb3
  have Q2 := P2.next hb3
  clear hown hc3 hc3m hR3 hb3 S3 b2' P2 P1''
  have P3 := Bk.new w3 52 #[.string hot, .int .i64 1, .slice A3 0 c3, .int .i64 4, .int .i64 8, .int .i64 1]
  have b3' := b3.alloc b3.size (.cells #[.string hot, .int .i64 1, .slice A3 0 c3, .int .i64 4, .int .i64 8, .int .i64 1] 52)
  have Q1' := Q1.alloc (.cells #[.string hot, .int .i64 1, .slice A3 0 c3, .int .i64 4, .int .i64 8, .int .i64 1] 52)
  have Q2' := Q2.alloc (.cells #[.string hot, .int .i64 1, .slice A3 0 c3, .int .i64 4, .int .i64 8, .int .i64 1] 52)
  clear Q1 Q2
  go_wp2_with fail
  obtain ⟨W4, hW4⟩ : ∃ W4, W4 = w3.alloc (.cells #[.string hot, .int .i64 1, .slice A3 0 c3, .int .i64 4, .int .i64 8, .int .i64 1] 52) := ⟨_, rfl⟩
  have hsz : w3.heap.size + 1 = W4.heap.size := by rw [hW4, World.size_alloc]
  rw [← hW4] at P3 b3' Q1' Q2' ⊢
  rw [hsz]
  clear hW4
  have ra : Rd (W4.alloc (.cells #[.int .i64 2, .int .i64 0, .int .i64 1] 3)) (W4.alloc (.cells #[.int .i64 2, .int .i64 0, .int .i64 1] 3)).heap.size (some ⟨W4.heap.size, 0, none⟩) 3 (fun k => .int .i64 ([2, 0, 1][k]?.getD 0)) := Rd.lit W4 3 .i64 [2, 0, 1] (by decide)
  have rb : Rd ((W4.alloc (.cells #[.int .i64 2, .int .i64 0, .int .i64 1] 3)).alloc (.cells #[.int .i64 0, .int .i64 1, .int .i64 0] 3)) ((W4.alloc (.cells #[.int .i64 2, .int .i64 0, .int .i64 1] 3)).alloc (.cells #[.int .i64 0, .int .i64 1, .int .i64 0] 3)).heap.size (some ⟨(W4.alloc (.cells #[.int .i64 2, .int .i64 0, .int .i64 1] 3)).heap.size, 0, none⟩) 3 (fun k => .int .i64 ([0, 1, 0][k]?.getD 0)) := Rd.lit _ 3 .i64 [0, 1, 0] (by decide)
  have ra' := (ra.alloc (Nat.le_refl _) (.cells #[.int .i64 0, .int .i64 1, .int .i64 0] 3)).more (show _ ≤ ((W4.alloc (.cells #[.int .i64 2, .int .i64 0, .int .i64 1] 3)).alloc (.cells #[.int .i64 0, .int .i64 1, .int .i64 0] 3)).heap.size by simp)
  rw [World.size_alloc W4] at rb
  have b4 := (b3'.alloc b3'.size (.cells #[.int .i64 2, .int .i64 0, .int .i64 1] 3)).alloc (by have := b3'.size; simp; omega) (.cells #[.int .i64 0, .int .i64 1, .int .i64 0] 3)
  have Q1b := (Q1'.alloc (.cells #[.int .i64 2, .int .i64 0, .int .i64 1] 3)).alloc (.cells #[.int .i64 0, .int .i64 1, .int .i64 0] 3)
  have Q2b := (Q2'.alloc (.cells #[.int .i64 2, .int .i64 0, .int .i64 1] 3)).alloc (.cells #[.int .i64 0, .int .i64 1, .int .i64 0] 3)
  have P3b := (P3.alloc (.cells #[.int .i64 2, .int .i64 0, .int .i64 1] 3)).alloc (.cells #[.int .i64 0, .int .i64 1, .int .i64 0] 3)
  refine (aHyst_any _ _ 3 3 3 3 (by omega) (by omega) _ _ _ ra' rb).mono ?_
  rintro e w5 ⟨v, rfl, hown, hb5⟩
  have eh : hystL (fun k => [2, 0, 1][k]?.getD 0) (fun k => [0, 1, 0][k]?.getD 0) (min 3 3) = [2, 1, 1] := by decide
  rw [eh] at hown
  have b5 := b4.trans (hb5.mono b4.size)
  have Q1c := Q1b.next hb5
  have Q2c := Q2b.next hb5
  have P3c := P3b.next hb5
  obtain ⟨A5, c5, rfl, hc5, hl5, hR5⟩ := Rd.of_ints (zs := [2, 1, 1]) hown
  clear hown eh hc5 hl5 hb5 Q1b Q2b P3b ra rb ra' Q1' Q2' P3 b4 b3' hsz
  obtain ⟨_, _, _, p3, p4, _⟩ := Q1c.six
  obtain ⟨_, _, _, q3, q4, _⟩ := Q2c.six
  obtain ⟨_, _, _, r3, r4, r5⟩ := P3c.six
  go_wp2_with fail
  have rc : Rd (w5.alloc (.cells #[.int .i64 2, .int .i64 1, .int .i64 1] 3)) (w5.alloc (.cells #[.int .i64 2, .int .i64 1, .int .i64 1] 3)).heap.size (some ⟨w5.heap.size, 0, none⟩) 3 (fun k => .int .i64 ([2, 1, 1][k]?.getD 0)) := Rd.lit w5 3 .i64 [2, 1, 1] (by decide)
  refine (sameInts_any A5 _ 3 3 c5 3 (by omega) (by omega) _ _ _ (hR5.next ((Below.refl _ _).alloc (Nat.le_refl _) _)) rc).mono ?_
  rintro e w6 ⟨rfl, hb6⟩
  rw [decide_eq_true rfl, (agreeB_iff _ _ _).2 (fun _ _ => rfl), Bool.true_and]
  clear rc hR5 p3 p4 q3 q4 r3 r4 r5 Q1c Q2c P3c
  go_wp2
  go_ret
  exact ⟨rfl, (b5.alloc b5.size _).trans (hb6.mono (by have := b5.size; simp; omega))⟩
end Go.Proofs.YtplnkainmfkfgaaDoor
