/- AE contracts: frac.abs, Valid, Compare, interval.Valid, AtLeast, AtMost (from those of frac.gcd[int] and frac.sum). -/
import Derived.Test.YtplnkainmfkfgaaDoorN6
namespace Go.AE
open Go.Proofs
set_option linter.unusedVariables false
set_option linter.unusedSimpArgs false
def mGcdI : Mod
  | [.c (.p (.i .i64 a)), .c (.p (.i .i64 b))] => some ((0 ≤ a ∧ a ≤ 1073741824) ∧ 0 ≤ b ∧ b ≤ 1073741824, iV (gcdZ a b))
  | _ => none
def mAbsI : Mod
  | [.c (.p (.i .i64 n))] => some (-1073741824 ≤ n ∧ n ≤ 1073741824, iV (absZ n))
  | _ => none
def shI (a : Int) : Prop := -1073741824 ≤ a ∧ a ≤ 1073741824
def mSumS : Mod
  | [.c (.p (.i .i64 a)), .c (.p (.i .i64 b)), .c (.p (.i .i64 c)), .c (.p (.i .i64 d))] => some ((shI a ∧ shI b) ∧ shI c ∧ shI d, .a [.p (.i .u64 0), .p (.i .u64 (absZ (a * b + c * d))), .p (.b (decide (a * b + c * d < 0)))])
  | _ => none
def mFValid : Mod
  | [.a [.p (.i .i64 n), .p (.i .i64 d)]] => some (vQ (n, d), bV true)
  | _ => none
def mFCmp : Mod
  | [.a [.p (.i .i64 n), .p (.i .i64 d)], .a [.p (.i .i64 m), .p (.i .i64 e)]] => some (vQ (n, d) ∧ vQ (m, e), iV (cmpQ (n, d) (m, e)))
  | _ => none
def mIValid : Mod
  | [.a [.p (.i .i64 n), .p (.i .i64 d), .p (.i .i64 m), .p (.i .i64 e)]] => some (vQ (n, d) ∧ vQ (m, e), bV (decide (cmpQ (n, d) (m, e) ≤ 0)))
  | _ => none
def atLeastQ (x : Iv) (c : Qf) : Int := if 0 ≤ cmpQ x.1 c then 2 else if cmpQ x.2 c < 0 then 0 else 1
def atMostQ (x : Iv) (c : Qf) : Int := if cmpQ x.2 c ≤ 0 then 2 else if 0 < cmpQ x.1 c then 0 else 1
def mAtLeast : Mod
  | [.a [.p (.i .i64 n), .p (.i .i64 d), .p (.i .i64 m), .p (.i .i64 e)], .a [.p (.i .i64 r), .p (.i .i64 s)]] => some ((vQ (n, d) ∧ vQ (m, e)) ∧ cmpQ (n, d) (m, e) ≤ 0 ∧ vQ (r, s), iV (atLeastQ ((n, d), (m, e)) (r, s)))
  | _ => none
def mAtMost : Mod
  | [.a [.p (.i .i64 n), .p (.i .i64 d), .p (.i .i64 m), .p (.i .i64 e)], .a [.p (.i .i64 r), .p (.i .i64 s)]] => some ((vQ (n, d) ∧ vQ (m, e)) ∧ cmpQ (n, d) (m, e) ≤ 0 ∧ vQ (r, s), iV (atMostQ ((n, d), (m, e)) (r, s)))
  | _ => none
def extFv : Ext := extOf [(29, mAbsI), (28, mGcdI)]
def extFc : Ext := extOf [(17, mFValid), (30, mSumS)]
def extIv : Ext := extOf [(17, mFValid), (18, mFCmp)]
def extIa : Ext := extOf [(17, mFValid), (18, mFCmp), (16, mIValid)]

theorem tAb (n : Int) : exTs ext0 (pcs Tryd.prog Tryd.f29) (st0 Tryd.f29 [iV n]) (endG [] (resOf Tryd.prog Tryd.f29)) = bT (decide (n < 0)) (Tr.rq (inR IntKind.i64 (-n)) (Tr.done X.ret (St.mk [V.c (C.p (PV.i IntKind.i64 (-n)))] []))) (Tr.done X.ret (St.mk [V.c (C.p (PV.i IntKind.i64 n))] [])) := by kernel_rfl
theorem tFv (n d : Int) : exTs extFv (pcs Tryd.prog Tryd.f17) (st0 Tryd.f17 [.a [.p (.i .i64 n), .p (.i .i64 d)]]) (endG [] (resOf Tryd.prog Tryd.f17)) = bT (decide (d < 1)) (Tr.done X.ret (St.mk [V.c (C.p (PV.b false))] []))
    (bT (decide (4611686018427387904 < d)) (Tr.done X.ret (St.mk [V.c (C.p (PV.b false))] []))
      (bT (decide (n < -4611686018427387904)) (Tr.done X.ret (St.mk [V.c (C.p (PV.b false))] []))
        (bT (decide (4611686018427387904 < n)) (Tr.done X.ret (St.mk [V.c (C.p (PV.b false))] []))
          (Tr.rq (-1073741824 ≤ n ∧ n ≤ 1073741824) (Tr.rq ((0 ≤ absZ n ∧ absZ n ≤ 1073741824) ∧ 0 ≤ d ∧ d ≤ 1073741824) (Tr.done X.ret (St.mk [V.c (C.p (PV.b (gcdZ (absZ n) d == 1)))] []))))))) := by kernel_rfl
theorem tFc (n d m e : Int) : exTs extFc (pcs Tryd.prog Tryd.f18) (st0 Tryd.f18 [.a [.p (.i .i64 n), .p (.i .i64 d)], .a [.p (.i .i64 m), .p (.i .i64 e)]]) (endG [] (resOf Tryd.prog Tryd.f18)) = Tr.rq (vQ (n, d))
    (Tr.rq (vQ (m, e))
      (Tr.rq (inR IntKind.i64 (-m))
        (Tr.rq ((shI n ∧ shI e) ∧ shI (-m) ∧ shI d)
          (bT
            (match false with
            | true => !(0 == 0 && (absZ (n * e + -m * d) == 0 && (decide (n * e + -m * d < 0) == false && true)))
            | false => 0 == 0 && (absZ (n * e + -m * d) == 0 && (decide (n * e + -m * d < 0) == false && true)))
            (Tr.done X.ret (St.mk [V.c (C.p (PV.i IntKind.i64 0))] []))
            (bT (decide (n * e + -m * d < 0)) (Tr.done X.ret (St.mk [V.c (C.p (PV.i IntKind.i64 (-1)))] [])) (Tr.done X.ret (St.mk [V.c (C.p (PV.i IntKind.i64 1))] []))))))) := by kernel_rfl
theorem tIv (n d m e : Int) : exTs extIv (pcs Tryd.prog Tryd.f16) (st0 Tryd.f16 [.a [.p (.i .i64 n), .p (.i .i64 d), .p (.i .i64 m), .p (.i .i64 e)]]) (endG [] (resOf Tryd.prog Tryd.f16)) = Tr.rq (vQ (n, d)) (Tr.rq (vQ (m, e)) (Tr.rq (vQ (n, d) ∧ vQ (m, e)) (Tr.done X.ret (St.mk [V.c (C.p (PV.b (decide (cmpQ (n, d) (m, e) ≤ 0))))] [])))) := by kernel_rfl
theorem tIa (n d m e r s : Int) : exTs extIa (pcs Tryd.prog Tryd.f7) (st0 Tryd.f7 [.a [.p (.i .i64 n), .p (.i .i64 d), .p (.i .i64 m), .p (.i .i64 e)], .a [.p (.i .i64 r), .p (.i .i64 s)]]) (endG [] (resOf Tryd.prog Tryd.f7)) = Tr.rq (vQ (n, d) ∧ vQ (m, e))
    (bT (!decide (cmpQ (n, d) (m, e) ≤ 0)) (Tr.done X.ret (St.mk [V.c (C.p (PV.i IntKind.i64 1))] []))
      (Tr.rq (vQ (r, s))
        (Tr.rq (vQ (n, d) ∧ vQ (r, s))
          (bT (decide (0 ≤ cmpQ (n, d) (r, s))) (Tr.done X.ret (St.mk [V.c (C.p (PV.i IntKind.i64 2))] []))
            (Tr.rq (vQ (m, e) ∧ vQ (r, s))
              (bT (decide (cmpQ (m, e) (r, s) < 0)) (Tr.done X.ret (St.mk [V.c (C.p (PV.i IntKind.i64 0))] [])) (Tr.done X.ret (St.mk [V.c (C.p (PV.i IntKind.i64 1))] [])))))))) := by kernel_rfl
theorem tIm (n d m e r s : Int) : exTs extIa (pcs Tryd.prog Tryd.f9) (st0 Tryd.f9 [.a [.p (.i .i64 n), .p (.i .i64 d), .p (.i .i64 m), .p (.i .i64 e)], .a [.p (.i .i64 r), .p (.i .i64 s)]]) (endG [] (resOf Tryd.prog Tryd.f9)) = Tr.rq (vQ (n, d) ∧ vQ (m, e))
    (bT (!decide (cmpQ (n, d) (m, e) ≤ 0)) (Tr.done X.ret (St.mk [V.c (C.p (PV.i IntKind.i64 1))] []))
      (Tr.rq (vQ (r, s))
        (Tr.rq (vQ (m, e) ∧ vQ (r, s))
          (bT (decide (cmpQ (m, e) (r, s) ≤ 0)) (Tr.done X.ret (St.mk [V.c (C.p (PV.i IntKind.i64 2))] []))
            (Tr.rq (vQ (n, d) ∧ vQ (r, s))
              (bT (decide (0 < cmpQ (n, d) (r, s))) (Tr.done X.ret (St.mk [V.c (C.p (PV.i IntKind.i64 0))] [])) (Tr.done X.ret (St.mk [V.c (C.p (PV.i IntKind.i64 1))] [])))))))) := by kernel_rfl
theorem vQ_gcd {n d : Int} (h : vQ (n, d)) : gcdZ (absZ n) d = 1 := by
  obtain ⟨-, h1, h2⟩ := h
  simp only at h1 h2
  unfold redQ at h2
  injection h2 with h3 h4
  have hg := gcdZ_pos (a := absZ n) (show 0 < d by omega)
  have hv := (gcdZ_dvd (absZ_nn n) (show 0 ≤ d by omega)).2
  generalize gcdZ (absZ n) d = g at *
  obtain ⟨k, rfl⟩ := hv
  rw [Int.mul_ediv_cancel_left _ (by omega)] at h4
  apply Classical.byContradiction
  intro hne
  have hk : 0 < k := by omega
  have := Int.mul_le_mul_of_nonneg_right (show 2 ≤ g by omega) (Int.le_of_lt hk)
  omega
section
variable {G : Nat → Option Obj}
set_option maxRecDepth 100000 in
theorem okAbsI : ModOK Tryd.prog G 29 mAbsI := by
  intro args p v hm hp h
  unfold mAbsI at hm
  split at hm; rotate_left; · cases hm
  rename_i n
  obtain ⟨rfl, rfl⟩ := some_pairQ hm
  clear hm
  refine fn_S Tryd.func29 (by kernel_rfl) rfl ?_ h
  refine ExS.evH ext0_sound (tAb n) ?_
  simp only [holds_bT, holds_rq, holds_leaf, kf_ret', decide_eq_true_eq, decide_eq_false_iff_not, inR]
  refine ⟨fun h1 => ⟨by omega, ⟨VLe.of_eq ?_⟩⟩, fun h1 => ⟨VLe.of_eq ?_⟩⟩
  · unfold absZ; rw [if_pos h1]; rfl
  · unfold absZ; rw [if_neg h1]; rfl
set_option maxRecDepth 100000 in
theorem okFValid (hg : ModOK Tryd.prog G 28 mGcdI) : ModOK Tryd.prog G 17 mFValid := by
  intro args p v hm hp h
  unfold mFValid at hm
  split at hm; rotate_left; · cases hm
  rename_i n d
  obtain ⟨rfl, rfl⟩ := some_pairQ hm
  clear hm
  have hs : SoundExt Tryd.prog G extFv := extOf_sound (by simp; exact ⟨okAbsI, hg⟩)
  refine fn_S Tryd.func17 (by kernel_rfl) rfl ?_ h
  refine ExS.evH hs (tFv n d) ?_
  rw [vQ_gcd hp]
  obtain ⟨h1, h2, -⟩ := hp
  simp only at h1 h2
  have := absZ_nn n
  have : absZ n ≤ 1073741824 := by unfold absZ; split <;> omega
  simp only [holds_bT, holds_rq, holds_leaf, kf_ret', decide_eq_true_eq, decide_eq_false_iff_not]
  refine ⟨fun h => by omega, fun _ => ⟨fun h => by omega, fun _ => ⟨fun h => by omega, fun _ => ⟨fun h => by omega, fun _ => ⟨h1, by omega, ⟨VLe.of_eq rfl⟩⟩⟩⟩⟩⟩
set_option maxRecDepth 100000 in
theorem okFCmp (hg : ModOK Tryd.prog G 28 mGcdI) (hq : ModOK Tryd.prog G 30 mSumS) : ModOK Tryd.prog G 18 mFCmp := by
  intro args p v hm hp h
  unfold mFCmp at hm
  split at hm; rotate_left; · cases hm
  rename_i n d m e
  obtain ⟨rfl, rfl⟩ := some_pairQ hm
  clear hm
  have hs : SoundExt Tryd.prog G extFc := extOf_sound (by simp; exact ⟨okFValid hg, hq⟩)
  refine fn_S Tryd.func18 (by kernel_rfl) rfl ?_ h
  refine ExS.evH hs (tFc n d m e) ?_
  obtain ⟨p1, p2⟩ := hp
  have q1 := p1
  have q2 := p2
  obtain ⟨b1, b2, -⟩ := p1
  obtain ⟨b3, b4, -⟩ := p2
  simp only at b1 b2 b3 b4
  have hc : cmpQ (n, d) (m, e) = if n * e + -m * d < 0 then -1 else if n * e + -m * d = 0 then 0 else 1 := by
    unfold cmpQ
    rw [Int.neg_mul]
    simp only
    generalize n * e = x
    generalize m * d = y
    repeat' split
    all_goals omega
  rw [hc]
  generalize n * e + -m * d = x
  have hz : (absZ x == 0) = decide (x = 0) := by
    rw [Bool.eq_iff_iff]
    unfold absZ
    split <;> simp <;> omega
  simp only [holds_bT, holds_rq, holds_leaf, kf_ret', hz, shI, inR]
  refine ⟨q1, q2, by omega, by omega, fun h1 => ⟨VLe.of_eq ?_⟩, fun h1 => ⟨fun h2 => ⟨VLe.of_eq ?_⟩, fun h2 => ⟨VLe.of_eq ?_⟩⟩⟩
  · have : x = 0 := by
      simp at h1
      exact h1.1
    subst this; rfl
  · rw [if_pos (by simpa using h2)]; rfl
  · have h3 : ¬ x < 0 := by simpa using h2
    have h4 : ¬ x = 0 := by
      intro h4
      subst h4
      simp at h1
    rw [if_neg h3, if_neg h4]; rfl
set_option maxRecDepth 100000 in
theorem okIValid (hg : ModOK Tryd.prog G 28 mGcdI) (hq : ModOK Tryd.prog G 30 mSumS) : ModOK Tryd.prog G 16 mIValid := by
  intro args p v hm hp h
  unfold mIValid at hm
  split at hm; rotate_left; · cases hm
  rename_i n d m e
  obtain ⟨rfl, rfl⟩ := some_pairQ hm
  clear hm
  have hs : SoundExt Tryd.prog G extIv := extOf_sound (by simp; exact ⟨okFValid hg, okFCmp hg hq⟩)
  refine fn_S Tryd.func16 (by kernel_rfl) rfl ?_ h
  refine ExS.evH hs (tIv n d m e) ?_
  simp only [holds_bT, holds_rq, holds_leaf, kf_ret']
  exact ⟨hp.1, hp.2, hp, ⟨VLe.of_eq rfl⟩⟩
set_option maxRecDepth 100000 in
theorem okAtLeast (hg : ModOK Tryd.prog G 28 mGcdI) (hq : ModOK Tryd.prog G 30 mSumS) : ModOK Tryd.prog G 7 mAtLeast := by
  intro args p v hm hp h
  unfold mAtLeast at hm
  split at hm; rotate_left; · cases hm
  rename_i n d m e r s
  obtain ⟨rfl, rfl⟩ := some_pairQ hm
  clear hm
  have hs : SoundExt Tryd.prog G extIa := extOf_sound (by simp; exact ⟨okFValid hg, okFCmp hg hq, okIValid hg hq⟩)
  obtain ⟨h1, h2, h3⟩ := hp
  refine fn_S Tryd.func7 (by kernel_rfl) rfl ?_ h
  refine ExS.evH hs (tIa n d m e r s) ?_
  rw [decide_eq_true h2]
  simp only [holds_bT, holds_rq, holds_leaf, kf_ret', decide_eq_true_eq, decide_eq_false_iff_not, Bool.not_true, Bool.false_eq_true, false_implies, true_implies, true_and]
  unfold atLeastQ
  simp only
  refine ⟨h1, h3, ⟨h1.1, h3⟩, fun c => ⟨VLe.of_eq ?_⟩, fun c => ⟨⟨h1.2, h3⟩, fun c2 => ⟨VLe.of_eq ?_⟩, fun c2 => ⟨VLe.of_eq ?_⟩⟩⟩
  · rw [if_pos c]; rfl
  · rw [if_neg c, if_pos c2]; rfl
  · rw [if_neg c, if_neg c2]; rfl
set_option maxRecDepth 100000 in
theorem okAtMost (hg : ModOK Tryd.prog G 28 mGcdI) (hq : ModOK Tryd.prog G 30 mSumS) : ModOK Tryd.prog G 9 mAtMost := by
  intro args p v hm hp h
  unfold mAtMost at hm
  split at hm; rotate_left; · cases hm
  rename_i n d m e r s
  obtain ⟨rfl, rfl⟩ := some_pairQ hm
  clear hm
  have hs : SoundExt Tryd.prog G extIa := extOf_sound (by simp; exact ⟨okFValid hg, okFCmp hg hq, okIValid hg hq⟩)
  obtain ⟨h1, h2, h3⟩ := hp
  refine fn_S Tryd.func9 (by kernel_rfl) rfl ?_ h
  refine ExS.evH hs (tIm n d m e r s) ?_
  rw [decide_eq_true h2]
  simp only [holds_bT, holds_rq, holds_leaf, kf_ret', decide_eq_true_eq, decide_eq_false_iff_not, Bool.not_true, Bool.false_eq_true, false_implies, true_implies, true_and]
  unfold atMostQ
  simp only
  refine ⟨h1, h3, ⟨h1.2, h3⟩, fun c => ⟨VLe.of_eq ?_⟩, fun c => ⟨⟨h1.1, h3⟩, fun c2 => ⟨VLe.of_eq ?_⟩, fun c2 => ⟨VLe.of_eq ?_⟩⟩⟩
  · rw [if_pos c]; rfl
  · rw [if_neg c, if_pos c2]; rfl
  · rw [if_neg c, if_neg c2]; rfl
end
end Go.AE
