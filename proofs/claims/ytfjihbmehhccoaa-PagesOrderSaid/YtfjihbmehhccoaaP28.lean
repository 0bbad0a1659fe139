/- AE contracts: ref31.Same, Equal, Compare, cmp.Or, pages.Compare: the proofs. -/
import Derived.Test.YtfjihbmehhccoaaP27
namespace Go.AE
set_option linter.unusedVariables false
set_option linter.unusedSimpArgs false
open Go.Proofs Go.Proofs.Ytfjihbmehhccoaa Gp Go.RowKit
theorem orL_drop {A : List Int} {i : Nat} (hi : i < A.length) : orL (A.drop i) = if A.getD i default ≠ 0 then A.getD i default else orL (A.drop (i + 1)) := by
  rw [List.drop_eq_getElem_cons hi, List.getD_eq_getElem?_getD, List.getElem?_eq_getElem hi]
  rfl
theorem pg_ext {a b : Pg} (h1 : sameM a b = true) (h2 : a.kd = b.kd) (h3 : a.se = b.se) (h4 : a.to = b.to) : a = b := by
  unfold sameM at h1
  simp only [Bool.and_eq_true, decide_eq_true_eq] at h1
  obtain ⟨q1, q2, q3, q4⟩ := h1
  refine keyP_inj ?_
  unfold keyP
  rw [q1, q2, q3, q4, h2, h3, h4]
theorem sameM_self (a : Pg) : sameM a a = true := by unfold sameM; simp
section
variable {G : Nat → Option Obj}
set_option maxRecDepth 100000 in
theorem okGSame : ModOK Try.prog G 55 mGSame := by
  intro args p v hm hp h
  unfold mGSame at hm
  split at hm; rotate_left; · cases hm
  split at hm; rotate_left; · cases hm
  rename_i x y _ _ p1 a p2 b hx hy
  obtain ⟨rfl, rfl⟩ := some_pair hm
  obtain ⟨⟨hA, hB⟩, hl⟩ := hp
  refine FnS.args (args' := [pgV a, pgV b]) ?_ (.cons (pgOf_le hx hA) (.cons (pgOf_le hy hB) .nil))
  clear hm hx hy
  obtain ⟨a0, a1, a2, a3, a4, a5, a6⟩ := a
  obtain ⟨b0, b1, b2, b3, b4, b5, b6⟩ := b
  refine fn_S Try.func55 (by kernel_rfl) rfl ?_ h
  refine ExS.evA extLs_sound [] [] rfl (tSameG a0 a2 a4 a5 b0 b2 b4 b5 a1 a6 b1 b6 a3 b3) ?_
  simp only [holds_bT, holds_rq, holds_leaf, kf_ret', dec2_row, beq_bytes2]
  have e : sameM ⟨a0, a1, a2, a3, a4, a5, a6⟩ ⟨b0, b1, b2, b3, b4, b5, b6⟩ = (decide (a3 = b3) && (decide (a1 = b1) && (decide (a2 = b2) && decide (a4 = b4)))) := rfl
  have e4 : (a4 == b4) = decide (a4 = b4) := by rw [Bool.eq_iff_iff]; simp
  have e2 : (a2 == b2) = decide (a2 = b2) := by rw [Bool.eq_iff_iff]; simp
  rw [e, e4, e2]
  refine ⟨⟨⟨isL_row _ _ _, isL_row _ _ _⟩, hl⟩, fun h1 => ⟨fun h2 => ⟨fun h3 => ⟨?_⟩, fun h3 => ⟨?_⟩⟩, fun h2 => ⟨?_⟩⟩, fun h1 => ⟨?_⟩⟩
  · rw [h1, h2, h3]; exact VLe.refl _
  · rw [h1, h2, h3]; exact VLe.refl _
  · rw [h1, h2]; exact VLe.refl _
  · rw [h1]; exact VLe.refl _
theorem extSmG_sound : SoundExt Try.prog G extSmG := extOf_sound (by simp; exact okGSame)
set_option maxRecDepth 100000 in
theorem okEqX (A B : List Pg) : ModOK Try.prog G 23 (mEqX A B) := by
  intro args p v hm hp h
  unfold mEqX at hm
  split at hm; rotate_left; · cases hm
  split at hm; rotate_left; · cases hm
  rename_i x y _ _ p1 p2 hx hy
  obtain ⟨rfl, rfl⟩ := some_pair hm
  obtain ⟨⟨hA, hB⟩, hlen, hLL⟩ := hp
  refine FnS.args (args' := [listV encPg 7 A, listV encPg 7 B]) ?_ (.cons (leP_le hx hA) (.cons (leP_le hy hB) .nil))
  clear hA hB hm hx hy
  refine fn_S Try.func23 (by kernel_rfl) rfl ?_ h
  refine ExS.evG ext0_sound 4 (tE1 A B) ?_
  simp only [holds_bT, holds_leaf, kf_ret', kf_normal, bne_iff_ne, bne_eq_false_iff_eq, ne_eq]
  refine ⟨fun h1 => ⟨VLe.of_eq ?_⟩, fun h1 => ⟨?_⟩⟩
  · rw [decide_eq_false (fun e => h1 (by rw [e]))]; rfl
  have h1 : A.length = B.length := by omega
  refine ExS.loop' (l := dropL 4 (pcs Try.prog Try.f23)) (b := inr (inr (nth .skip (pcs Try.prog Try.f23) 4))) (r := dropL 5 (pcs Try.prog Try.f23)) (id := 0) (by kernel_rfl) (σ := Nat)
    (fun i => cst 68 [(0, listV encPg 7 A), (1, listV encPg 7 B), (5, iV (i : Nat))] []) (fun i => i ≤ A.length ∧ A.take i = B.take i) (fun i => A.length - i) 0 ⟨Nat.zero_le _, rfl⟩ (weak_of_eq (by kernel_rfl)) ?_
  rintro i ⟨hi, hc⟩ Q1 q1n q1e -
  refine ExS.evH extSmG_sound (tE2 A B i) ?_
  simp only [holds_bT, holds_rq, holds_leaf, kf_ret', kf_normal, kf_exit, decide_eq_true_eq, decide_eq_false_iff_not, bne_iff_ne, bne_eq_false_iff_eq, ne_eq, inR, show (↑i : Int).toNat = i from rfl, dec2_row, beq_bytes2, Bool.not_eq_true', Bool.not_eq_false']
  refine ⟨fun h2 => ?_, fun h2 => ⟨q1e _ ?_⟩⟩
  · have hA : i < A.length := by omega
    have hB : i < B.length := by omega
    have tA := takeD hA
    have tB := takeD hB
    have mA : A.getD i default ∈ A := by
      rw [List.getD_eq_getElem?_getD, List.getElem?_eq_getElem hA]; exact List.getElem_mem _
    have ne : A.getD i default ≠ B.getD i default → A ≠ B := fun h e => h (by rw [e])
    have hLa := hLL _ mA
    generalize A.getD i default = a at tA ne hLa ⊢
    generalize B.getD i default = b at tB ne ⊢
    have bad : a ≠ b → VLe (V.c (C.p (PV.b false))) (bV (decide (A = B))) := fun hq => by
      rw [decide_eq_false (ne hq)]; exact VLe.refl _
    refine ⟨by omega, by omega, ⟨⟨isL_row _ _ _, isL_row _ _ _⟩, .inl hLa⟩, fun c1 => ⟨bad fun e => ?_⟩, fun c1 => ⟨by omega, by omega, fun c2 => ⟨bad fun e => c2 (by rw [e])⟩, fun c2 => ⟨by omega, by omega, fun c3 => ⟨bad fun e => c3 (by rw [e])⟩, fun c3 => ⟨by omega, by omega, fun c4 => ⟨bad fun e => c4 (by rw [e])⟩, fun c4 => ⟨by omega, ⟨q1n (i + 1) _ ⟨by omega, ?_⟩ (by omega) (weak_of_eq (by kernel_rfl))⟩⟩⟩⟩⟩⟩
    · subst e
      have : sameM a a = false := c1
      rw [sameM_self] at this; cases this
    · have : sameM a b = true := c1
      rw [tA, tB, hc, pg_ext this c2 c3 c4]
  · rw [List.take_of_length_le (by omega), List.take_of_length_le (by omega)] at hc
    refine ExS.evH ext0_sound (tE3 A B i) ?_
    simp only [holds_leaf, kf_ret']
    rw [decide_eq_true hc]
    exact ⟨VLe.refl _⟩
set_option maxRecDepth 100000 in
theorem or_fn (A : List Int) (hlen : A.length ≤ 1000000) (h : List AO) : FnS Try.prog G 58 [listV encI 1 A] h fun x h' => x = iV (orL A) ∧ h' = h := by
  refine fn_S Try.func58 (by kernel_rfl) rfl ?_ h
  refine ExS.evG ext0_sound 3 (tO1 A) ?_
  simp only [holds_bT, holds_leaf, kf_ret', kf_normal]
  refine ⟨?_⟩
  refine ExS.loop' (l := dropL 3 (pcs Try.prog Try.f58)) (b := inr (inr (nth .skip (pcs Try.prog Try.f58) 3))) (r := dropL 4 (pcs Try.prog Try.f58)) (id := 0) (by kernel_rfl) (σ := Nat)
    (fun i => cst 18 [(3, iV 0), (6, listV encI 1 A), (7, iV (A.length : Nat)), (8, iV (i : Nat))] []) (fun i => i ≤ A.length ∧ orL A = orL (A.drop i)) (fun i => A.length - i) 0 ⟨Nat.zero_le _, rfl⟩ (weak_of_eq (by kernel_rfl)) ?_
  rintro i ⟨hi, hc⟩ Q1 q1n q1e -
  refine ExS.evH ext0_sound (tO2 A i) ?_
  simp only [holds_bT, holds_rq, holds_leaf, kf_ret', kf_normal, kf_exit, decide_eq_true_eq, decide_eq_false_iff_not, bne_iff_ne, bne_eq_false_iff_eq, ne_eq, inR, show (↑i : Int).toNat = i from rfl]
  refine ⟨fun h2 => ⟨by omega, fun c1 => ⟨VLe.of_eq ?_⟩, fun c1 => ⟨by omega, ⟨q1n (i + 1) _ ⟨by omega, ?_⟩ (by omega) (weak_of_eq (by kernel_rfl))⟩⟩⟩, fun h2 => ⟨q1e _ ?_⟩⟩
  · rw [hc, orL_drop (by omega), if_pos c1]; rfl
  · rw [hc, orL_drop (by omega), if_neg (by simpa using c1)]
  · obtain rfl : i = A.length := by omega
    rw [List.drop_length] at hc
    refine ExS.evH ext0_sound (tO3 A A.length) ?_
    simp only [holds_leaf, kf_ret']
    rw [hc]
    exact ⟨VLe.refl _⟩
theorem okOrX (A : List Int) : ModOK Try.prog G 58 (mOrX A) := by
  intro args p v hm hp h
  unfold mOrX at hm
  split at hm; rotate_left; · cases hm
  split at hm; rotate_left; · cases hm
  rename_i x _ q hx
  obtain ⟨rfl, rfl⟩ := some_pair hm
  exact FnS.args (args' := [listV encI 1 A]) (or_fn A hp.2 h) (.cons (leI_le hx hp.1) .nil)
theorem okTexts : ModOK Try.prog G 62 mCmpS := by
  intro args p v hm hp h
  unfold mCmpS at hm
  split at hm; rotate_left; · cases hm
  rename_i a b
  obtain ⟨rfl, rfl⟩ := some_pair hm
  obtain ⟨c1, c2, c3⟩ := cmpS_cases a b
  refine fn_T ext0_sound Try.func62 (by kernel_rfl) rfl (tTexts a b) ?_ h
  simp only [holds_bT, holds_rq, holds_done, KF, beq_bytes2, Bool.not_eq_true', Bool.not_eq_false']
  exact ⟨fun h => ⟨_, rfl, VLe.of_eq (by rw [c1 h]; rfl)⟩, fun h => ⟨fun k => ⟨_, rfl, VLe.of_eq (by rw [c2 h k]; rfl)⟩, fun k => ⟨_, rfl, VLe.of_eq (by rw [c3 h k]; rfl)⟩⟩⟩
theorem okOrdG : ModOK Try.prog G 63 mCmpI := by
  intro args p v hm hp h
  unfold mCmpI at hm
  split at hm; rotate_left; · cases hm
  rename_i a b
  obtain ⟨rfl, rfl⟩ := some_pair hm
  refine fn_T ext0_sound Try.func63 (by kernel_rfl) rfl (tOrdG a b) ?_ h
  simp only [holds_bT, holds_rq, holds_done, KF, decide_eq_true_eq, decide_eq_false_iff_not]
  unfold cmpZ
  refine ⟨fun h => ⟨_, rfl, VLe.of_eq ?_⟩, fun h => ⟨fun k => ⟨_, rfl, VLe.of_eq ?_⟩, fun k => ⟨_, rfl, VLe.of_eq ?_⟩⟩⟩
  · rw [if_pos h]; rfl
  · rw [if_neg h, if_pos k]; rfl
  · rw [if_neg h, if_neg k]; rfl
theorem extPc_sound (a b : Pg) : SoundExt Try.prog G (extPc a b) := extH_sound (by simp; exact ⟨okCmpS.lift, okCmpI.lift, okCompare.lift, frzA_ok (okOrX _)⟩)
theorem extGc_sound : SoundExt Try.prog G extGc := extOf_sound (by simp; exact ⟨okTexts, okOrdG, okCompareR⟩)
theorem isL7 (a b c d e f g : Int) : IsL encI 1 [a, b, c, d, e, f, g] 7 fun e' o => unP (nth C.top [C.p (.i .i64 a), C.p (.i .i64 b), C.p (.i .i64 c), C.p (.i .i64 d), C.p (.i .i64 e), C.p (.i .i64 f), C.p (.i .i64 g)] ((e' + 0) * 1 + o)) := ⟨rfl, fun e' o he ho => by
  obtain rfl : o = 0 := by omega
  have : e' = 0 ∨ e' = 1 ∨ e' = 2 ∨ e' = 3 ∨ e' = 4 ∨ e' = 5 ∨ e' = 6 := by omega
  rcases this with rfl | rfl | rfl | rfl | rfl | rfl | rfl <;> rfl⟩
set_option maxRecDepth 100000 in
theorem okPComp : ModOK Try.prog G 32 mPComp := by
  intro args p v hm hp h
  unfold mPComp at hm
  split at hm; rotate_left; · cases hm
  split at hm; rotate_left; · cases hm
  rename_i x y _ _ p1 a p2 b hx hy
  obtain ⟨rfl, rfl⟩ := some_pair hm
  obtain ⟨⟨hA, hB⟩, hl, hl2⟩ := hp
  refine FnS.args (args' := [pgV a, pgV b]) ?_ (.cons (pgOf_le hx hA) (.cons (pgOf_le hy hB) .nil))
  clear hm hx hy
  obtain ⟨a0, a1, a2, a3, a4, a5, a6⟩ := a
  obtain ⟨b0, b1, b2, b3, b4, b5, b6⟩ := b
  refine fn_S Try.func32 (by kernel_rfl) rfl ?_ h
  refine ExS.evH (extPc_sound _ _) (tPC a0 a2 a4 a5 b0 b2 b4 b5 a1 a6 b1 b6 a3 b3) ?_
  simp only [holds_bT, holds_rq, holds_leaf, kf_ret', dec2_row]
  refine ⟨trivial, trivial, ⟨⟨isL_row _ _ _, isL_row _ _ _⟩, hl⟩, trivial, trivial, trivial, trivial, ⟨⟨⟨⟨rfl, by decide⟩, trivial⟩, fun e o he ho => ?_⟩, isL7 _ _ _ _ _ _ _, Nat.le_of_ble_eq_true rfl⟩, ⟨VLe.refl _⟩⟩
  obtain rfl : o = 0 := by omega
  have : e = 0 ∨ e = 1 ∨ e = 2 ∨ e = 3 ∨ e = 4 ∨ e = 5 ∨ e = 6 := by omega
  rcases this with rfl | rfl | rfl | rfl | rfl | rfl | rfl <;> rfl
set_option maxRecDepth 100000 in
theorem okGComp : ModOK Try.prog G 33 mPComp := by
  intro args p v hm hp h
  unfold mPComp at hm
  split at hm; rotate_left; · cases hm
  split at hm; rotate_left; · cases hm
  rename_i x y _ _ p1 a p2 b hx hy
  obtain ⟨rfl, rfl⟩ := some_pair hm
  obtain ⟨⟨hA, hB⟩, hl, hl2⟩ := hp
  refine FnS.args (args' := [pgV a, pgV b]) ?_ (.cons (pgOf_le hx hA) (.cons (pgOf_le hy hB) .nil))
  clear hm hx hy
  obtain ⟨a0, a1, a2, a3, a4, a5, a6⟩ := a
  obtain ⟨b0, b1, b2, b3, b4, b5, b6⟩ := b
  refine fn_S Try.func33 (by kernel_rfl) rfl ?_ h
  refine ExS.evG extGc_sound 3 (tGC a0 a2 a4 a5 b0 b2 b4 b5 a1 a6 b1 b6 a3 b3) ?_
  simp only [holds_bT, holds_rq, holds_leaf, kf_normal, dec2_row]
  refine ⟨trivial, trivial, ⟨⟨isL_row _ _ _, isL_row _ _ _⟩, hl⟩, trivial, trivial, trivial, trivial, ⟨?_⟩⟩
  have eA : cmpP ⟨a0, a1, a2, a3, a4, a5, a6⟩ ⟨b0, b1, b2, b3, b4, b5, b6⟩ = orL [cmpS a1 b1, cmpZ a2 b2, cmpL a3 b3, cmpZ a4 b4, cmpZ a0 b0, cmpZ a5 b5, cmpS a6 b6] := rfl
  rw [eA]
  generalize cmpS a1 b1 = c0
  generalize cmpZ a2 b2 = c1
  generalize cmpL a3 b3 = c2
  generalize cmpZ a4 b4 = c3
  generalize cmpZ a0 b0 = c4
  generalize cmpZ a5 b5 = c5
  generalize cmpS a6 b6 = c6
  refine ExS.pre (weak_frz (j := 5) (id := 0) (ty := 3) (sz := 1) (n := 7) (off := 0) (len := 7) (f := fun e o => renC [2] (nth C.top [C.p (.i .i64 c0), C.p (.i .i64 c1), C.p (.i .i64 c2), C.p (.i .i64 c3), C.p (.i .i64 c4), C.p (.i .i64 c5), C.p (.i .i64 c6)] (e * 1 + o))) (by kernel_rfl) (by kernel_rfl) (by omega) (fun e o he ho => ?_)) ?_
  · obtain rfl : o = 0 := by omega
    have : e = 0 ∨ e = 1 ∨ e = 2 ∨ e = 3 ∨ e = 4 ∨ e = 5 ∨ e = 6 := by omega
    rcases this with rfl | rfl | rfl | rfl | rfl | rfl | rfl <;> rfl
  refine ExS.pre (weak_slot (j := 5) (y := listV encI 1 [c0, c1, c2, c3, c4, c5, c6]) (VLe.p (PLe.l fun e o he ho => PLe.of_eq ?_))) ?_
  · obtain rfl : o = 0 := by omega
    have he : e < 7 := he
    have : e = 0 ∨ e = 1 ∨ e = 2 ∨ e = 3 ∨ e = 4 ∨ e = 5 ∨ e = 6 := by omega
    rcases this with rfl | rfl | rfl | rfl | rfl | rfl | rfl <;> rfl
  refine ExS.pre ((weak_gc (msk 56 [5, 6]) _).trans (weak_of_eq (st' := (fun A i => cst 56 [(5, listV encI 1 A), (6, iV (i : Nat))] []) [c0, c1, c2, c3, c4, c5, c6] 0) (by kernel_rfl))) ?_
  have hl7 : [c0, c1, c2, c3, c4, c5, c6].length = 7 := rfl
  generalize [c0, c1, c2, c3, c4, c5, c6] = A at hl7 ⊢
  refine ExS.loop' (l := dropL 3 (pcs Try.prog Try.f33)) (b := inr (inr (nth .skip (pcs Try.prog Try.f33) 3))) (r := dropL 4 (pcs Try.prog Try.f33)) (id := 0) (by kernel_rfl) (σ := Nat)
    (fun i => cst 56 [(5, listV encI 1 A), (6, iV (i : Nat))] []) (fun i => i ≤ A.length ∧ orL A = orL (A.drop i)) (fun i => A.length - i) 0 ⟨Nat.zero_le _, rfl⟩ (weak_of_eq (by kernel_rfl)) ?_
  rintro i ⟨hi, hc⟩ Q1 q1n q1e -
  refine ExS.evH ext0_sound (tGC2 A i) ?_
  simp only [holds_bT, holds_rq, holds_leaf, kf_ret', kf_normal, kf_exit, decide_eq_true_eq, decide_eq_false_iff_not, bne_iff_ne, bne_eq_false_iff_eq, ne_eq, inR, show (↑i : Int).toNat = i from rfl]
  refine ⟨fun h2 => ⟨by omega, fun c1 => ⟨by omega, ⟨VLe.of_eq ?_⟩⟩, fun c1 => ⟨by omega, ⟨q1n (i + 1) _ ⟨by omega, ?_⟩ (by omega) (weak_of_eq (by kernel_rfl))⟩⟩⟩, fun h2 => ⟨q1e _ ?_⟩⟩
  · rw [hc, orL_drop (by omega), if_pos c1]; rfl
  · rw [hc, orL_drop (by omega), if_neg (by simpa using c1)]
  · obtain rfl : i = A.length := by omega
    rw [List.drop_length] at hc
    refine ExS.evH ext0_sound (tGC3 A A.length) ?_
    simp only [holds_leaf, kf_ret']
    rw [hc]
    exact ⟨VLe.refl _⟩
end
end Go.AE
