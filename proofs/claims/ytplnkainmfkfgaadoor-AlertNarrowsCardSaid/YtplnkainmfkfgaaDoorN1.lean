/- AE contracts: ref03.From, Size, common, New, Valid, short. -/
import Derived.Test.YtplnkainmfkfgaaDoorAe31
import Derived.Test.YtplnkainmfkfgaaDoorR1
namespace Go.AE
open Go.Proofs
set_option linter.unusedVariables false
set_option linter.unusedSimpArgs false
/-- A fraction. -/
abbrev Qf := Int × Int
def u6V (n : Int) : V := .c (.p (.i .u64 n))
def frV (a : Qf) : V := .a [.p (.i .i64 a.1), .p (.i .i64 a.2)]
def natV (n : Int) : V := .a [.p (.i .u64 (n % 4294967296)), .p (.i .u64 (n / 4294967296)), .p (.i .u64 0), .p (.i .u64 0), .p (.i .u64 0), .p (.i .u64 0), .p (.i .u64 0), .p (.i .u64 0)]
def absZ (n : Int) : Int := if n < 0 then -n else n
def gcdZ (a b : Int) : Int := (Nat.gcd a.toNat b.toNat : Nat)
/-- In lowest terms. -/
def redQ (n d : Int) : Qf := (n / gcdZ (absZ n) d, d / gcdZ (absZ n) d)
def okQ (n d : Int) : Prop := (-4611686018427387904 ≤ n ∧ n ≤ 4611686018427387904) ∧ 1 ≤ d ∧ d ≤ 4611686018427387904
def mFrom : Mod
  | [.c (.p (.i .u64 n))] => some (0 ≤ n ∧ n ≤ 18446744073709551615, natV n)
  | _ => none
def mSize : Mod
  | [.c (.p (.i .i64 n))] => some (-4611686018427387904 ≤ n ∧ n ≤ 4611686018427387904, u6V (absZ n))
  | _ => none
def mCommon : Mod
  | [.c (.p (.i .u64 a)), .c (.p (.i .u64 b))] => some (0 ≤ a ∧ 0 ≤ b, u6V (gcdZ a b))
  | _ => none
def frE (a : Qf) (e : Int) : V := .t [.a [.p (.i .i64 a.1), .p (.i .i64 a.2)], .c (.p (.i .i64 e))]
def mNewQ : Mod
  | [.c (.p (.i .i64 n)), .c (.p (.i .i64 d))] => some (okQ n d, frE (redQ n d) 0)
  | _ => none
def mValidQ : Mod
  | [.a [.p (.i .i64 n), .p (.i .i64 d)]] => some (okQ n d, bV (decide (redQ n d = (n, d))))
  | _ => none
def mShort : Mod
  | [.a [.p (.i .i64 n), .p (.i .i64 d)]] => some (okQ n d, bV (decide (absZ n ≤ 1073741824) && decide (d ≤ 1073741824)))
  | _ => none
def extNw : Ext := extOf [(31, mSize), (32, mCommon)]
def extVl : Ext := extOf [(19, mNewQ)]
def extSh : Ext := extOf [(31, mSize)]

theorem tFr (n : Int) : exT ext0 (codeOf Tryd.prog Tryd.f40) (st0 Tryd.f40 [u6V n]) (endF [] [] (resOf Tryd.prog Tryd.f40)) = Tr.rq (0 ≤ n ∧ Int.ofNat 0 < Int.ofNat 4294967296)
    (Tr.rq (0 ≤ n ∧ Int.ofNat 0 < Int.ofNat 4294967296 ∧ inR IntKind.u64 (n / 4294967296))
      (Tr.done X.ret
        (St.mk [V.a [C.p (PV.i IntKind.u64 (n % 4294967296)), C.p (PV.i IntKind.u64 (n / 4294967296)), C.p (PV.i IntKind.u64 0), C.p (PV.i IntKind.u64 0), C.p (PV.i IntKind.u64 0), C.p (PV.i IntKind.u64 0), C.p (PV.i IntKind.u64 0), C.p (PV.i IntKind.u64 0)]] []))) := by kernel_rfl
theorem tSz (n : Int) : exT ext0 (codeOf Tryd.prog Tryd.f31) (st0 Tryd.f31 [iV n]) (endF [] [] (resOf Tryd.prog Tryd.f31)) = bT (decide (n < 0)) (Tr.done X.ret (St.mk [V.c (C.p (PV.i IntKind.u64 (IntKind.u64.wrap (-IntKind.u64.wrap n))))] [])) (Tr.done X.ret (St.mk [V.c (C.p (PV.i IntKind.u64 (IntKind.u64.wrap n)))] [])) := by kernel_rfl
theorem tCo1 (a b : Int) : exTs ext0 (takeL 1 (pcs Tryd.prog Tryd.f32)) (st0 Tryd.f32 [u6V a, u6V b]) (endG (msk 14 [0, 1]) (resOf Tryd.prog Tryd.f32)) = Tr.done X.normal
    (cst 14 [(0, V.c (C.p (PV.i IntKind.u64 a))), (1, V.c (C.p (PV.i IntKind.u64 b)))] []) := by kernel_rfl
theorem tCo2 (a b : Int) : exTs ext0 (lpB (pcs Tryd.prog Tryd.f32) 1) (cst 14 [(0, u6V a), (1, u6V b)] []) (endG (msk 14 [0, 1]) (resOf Tryd.prog Tryd.f32)) = bT (b != 0)
    (Tr.rq (0 ≤ a ∧ 0 < b)
      (Tr.done X.normal
        (cst 14 [(0, V.c (C.p (PV.i IntKind.u64 b))), (1, V.c (C.p (PV.i IntKind.u64 (a % b))))] [])))
    (Tr.done (X.exit 0)
      (cst 14 [(0, V.c (C.p (PV.i IntKind.u64 a))), (1, V.c (C.p (PV.i IntKind.u64 b)))] [])) := by kernel_rfl
theorem tCo3 (a b : Int) : exTs ext0 (dropL 2 (pcs Tryd.prog Tryd.f32)) (cst 14 [(0, u6V a), (1, u6V b)] []) (endG [] (resOf Tryd.prog Tryd.f32)) = Tr.done X.ret (St.mk [V.c (C.p (PV.i IntKind.u64 a))] []) := by kernel_rfl
theorem tNw (n d : Int) : exT extNw (codeOf Tryd.prog Tryd.f19) (st0 Tryd.f19 [iV n, iV d]) (endF [] [] (resOf Tryd.prog Tryd.f19)) = bT (d == 0) (Tr.done X.ret (St.mk [V.t [V1.a [C.p (PV.i IntKind.i64 0), C.p (PV.i IntKind.i64 0)], V1.c (C.p (PV.i IntKind.i64 6))]] []))
    (Tr.rq (-4611686018427387904 ≤ n ∧ n ≤ 4611686018427387904)
      (Tr.rq (-4611686018427387904 ≤ d ∧ d ≤ 4611686018427387904)
        (bT (decide (9223372036854775807 < absZ n)) (Tr.done X.ret (St.mk [V.t [V1.a [C.p (PV.i IntKind.i64 0), C.p (PV.i IntKind.i64 0)], V1.c (C.p (PV.i IntKind.i64 5))]] []))
          (bT (decide (9223372036854775807 < absZ d)) (Tr.done X.ret (St.mk [V.t [V1.a [C.p (PV.i IntKind.i64 0), C.p (PV.i IntKind.i64 0)], V1.c (C.p (PV.i IntKind.i64 5))]] []))
            (Tr.rq (0 ≤ absZ n ∧ 0 ≤ absZ d)
              (Tr.rq (0 ≤ absZ n ∧ 0 < gcdZ (absZ n) (absZ d) ∧ inR IntKind.u64 (absZ n / gcdZ (absZ n) (absZ d)))
                (Tr.rq (0 ≤ absZ d ∧ 0 < gcdZ (absZ n) (absZ d) ∧ inR IntKind.u64 (absZ d / gcdZ (absZ n) (absZ d)))
                  (bT (decide (4611686018427387904 < absZ n / gcdZ (absZ n) (absZ d)))
                    (Tr.done X.ret (St.mk [V.t [V1.a [C.p (PV.i IntKind.i64 0), C.p (PV.i IntKind.i64 0)], V1.c (C.p (PV.i IntKind.i64 5))]] []))
                    (bT (decide (4611686018427387904 < absZ d / gcdZ (absZ n) (absZ d)))
                      (Tr.done X.ret (St.mk [V.t [V1.a [C.p (PV.i IntKind.i64 0), C.p (PV.i IntKind.i64 0)], V1.c (C.p (PV.i IntKind.i64 5))]] []))
                      (bT (!decide (n < 0) == decide (d < 0))
                        (Tr.rq (inR IntKind.i64 (-IntKind.i64.wrap (absZ n / gcdZ (absZ n) (absZ d))))
                          (Tr.done X.ret
                            (St.mk [V.t [V1.a [C.p (PV.i IntKind.i64 (-IntKind.i64.wrap (absZ n / gcdZ (absZ n) (absZ d)))), C.p (PV.i IntKind.i64 (IntKind.i64.wrap (absZ d / gcdZ (absZ n) (absZ d))))], V1.c (C.p (PV.i IntKind.i64 0))]] [])))
                        (Tr.done X.ret
                          (St.mk [V.t [V1.a [C.p (PV.i IntKind.i64 (IntKind.i64.wrap (absZ n / gcdZ (absZ n) (absZ d)))), C.p (PV.i IntKind.i64 (IntKind.i64.wrap (absZ d / gcdZ (absZ n) (absZ d))))], V1.c (C.p (PV.i IntKind.i64 0))]] [])))))))))))) := by kernel_rfl
theorem tVl (n d : Int) : exT extVl (codeOf Tryd.prog Tryd.f37) (st0 Tryd.f37 [frV (n, d)]) (endF [] [] (resOf Tryd.prog Tryd.f37)) = bT (decide ((n, d).snd < 1)) (Tr.done X.ret (St.mk [V.c (C.p (PV.b false))] []))
    (Tr.rq (okQ (n, d).fst (n, d).snd)
      (Tr.done X.ret
        (St.mk [V.c (C.p (PV.b (match false with | true => !((n, d).fst == (redQ (n, d).fst (n, d).snd).fst && ((n, d).snd == (redQ (n, d).fst (n, d).snd).snd && true)) | false => (n, d).fst == (redQ (n, d).fst (n, d).snd).fst && ((n, d).snd == (redQ (n, d).fst (n, d).snd).snd && true))))] []))) := by kernel_rfl
theorem tSh (n d : Int) : exT extSh (codeOf Tryd.prog Tryd.f38) (st0 Tryd.f38 [frV (n, d)]) (endF [] [] (resOf Tryd.prog Tryd.f38)) = Tr.rq (-4611686018427387904 ≤ (n, d).fst ∧ (n, d).fst ≤ 4611686018427387904)
    (bT (decide (absZ (n, d).fst ≤ 1073741824)) (Tr.done X.ret (St.mk [V.c (C.p (PV.b (decide ((n, d).snd ≤ 1073741824))))] [])) (Tr.done X.ret (St.mk [V.c (C.p (PV.b false))] []))) := by kernel_rfl
theorem some_pairQ {p q : Prop} {v u : V} (e : some (p, v) = some (q, u)) : p = q ∧ v = u := by
  injection e with e
  injection e with h1 h2
  exact ⟨h1, h2⟩
theorem absZ_nn (n : Int) : 0 ≤ absZ n := by unfold absZ; split <;> omega
theorem gcdZ_comm (a b : Int) : gcdZ a b = gcdZ b a := by unfold gcdZ; rw [Nat.gcd_comm]
theorem gcdZ_step {a b : Int} (ha : 0 ≤ a) (hb : 0 < b) : gcdZ b (a % b) = gcdZ a b := by
  unfold gcdZ
  obtain ⟨x, rfl⟩ := Int.eq_ofNat_of_zero_le ha
  obtain ⟨y, rfl⟩ := Int.eq_ofNat_of_zero_le (Int.le_of_lt hb)
  rw [show ((x : Int) % (y : Int)).toNat = x % y by omega]
  simp only [Int.toNat_natCast]
  rw [Nat.gcd_comm x y, Nat.gcd_rec y x, Nat.gcd_comm]
theorem gcdZ_zero {a : Int} (ha : 0 ≤ a) : gcdZ a 0 = a := by
  unfold gcdZ
  simp; omega
theorem gcdZ_pos {a b : Int} (hb : 0 < b) : 0 < gcdZ a b := by
  unfold gcdZ
  have : 0 < Nat.gcd a.toNat b.toNat := Nat.gcd_pos_of_pos_right _ (by omega)
  omega
theorem gcdZ_dvd {a b : Int} (ha : 0 ≤ a) (hb : 0 ≤ b) : gcdZ a b ∣ a ∧ gcdZ a b ∣ b := by
  unfold gcdZ
  obtain ⟨x, rfl⟩ := Int.eq_ofNat_of_zero_le ha
  obtain ⟨y, rfl⟩ := Int.eq_ofNat_of_zero_le hb
  simp only [Int.toNat_natCast]
  exact ⟨Int.natCast_dvd_natCast.2 (Nat.gcd_dvd_left x y), Int.natCast_dvd_natCast.2 (Nat.gcd_dvd_right x y)⟩
theorem div_le_of {a g : Int} (ha : 0 ≤ a) (hg : 0 < g) : 0 ≤ a / g ∧ a / g ≤ a := ⟨Int.ediv_nonneg ha (Int.le_of_lt hg), Int.ediv_le_self g ha⟩
theorem neg_div {n g : Int} (hg : 0 < g) (h : g ∣ -n) : -(-n / g) = n / g := by
  obtain ⟨k, hk⟩ := h
  have hn : n = g * -k := by rw [Int.mul_neg]; omega
  rw [hk, hn, Int.mul_ediv_cancel_left _ (by omega), Int.mul_ediv_cancel_left _ (by omega)]
section
variable {G : Nat → Option Obj}
theorem okFrom : ModOK Tryd.prog G 40 mFrom := by
  intro args p v hm hp h
  unfold mFrom at hm
  split at hm; rotate_left; · cases hm
  rename_i n
  obtain ⟨rfl, rfl⟩ := some_pairQ hm
  refine fn_T ext0_sound Tryd.func40 (by kernel_rfl) rfl (tFr n) ?_ h
  simp only [holds_rq, holds_done, KF, inR]
  exact ⟨⟨hp.1, by decide⟩, ⟨hp.1, by decide, by omega, by omega⟩, _, rfl, VLe.refl _⟩
theorem okSize : ModOK Tryd.prog G 31 mSize := by
  intro args p v hm hp h
  unfold mSize at hm
  split at hm; rotate_left; · cases hm
  rename_i n
  obtain ⟨rfl, rfl⟩ := some_pairQ hm
  refine fn_T ext0_sound Tryd.func31 (by kernel_rfl) rfl (tSz n) ?_ h
  simp only [holds_bT, holds_done, KF, decide_eq_true_eq, decide_eq_false_iff_not]
  have hw : ∀ m : Int, IntKind.u64.wrap m = m % 18446744073709551616 := fun m => by rw [IntKind.wrap_u64]
  refine ⟨fun h1 => ⟨_, rfl, VLe.of_eq ?_⟩, fun h1 => ⟨_, rfl, VLe.of_eq ?_⟩⟩
  · have : IntKind.u64.wrap (-IntKind.u64.wrap n) = absZ n := by
      rw [hw, hw]; unfold absZ; rw [if_pos h1]; omega
    rw [this]; rfl
  · have : IntKind.u64.wrap n = absZ n := by
      rw [hw]; unfold absZ; rw [if_neg h1]; omega
    rw [this]; rfl
set_option maxRecDepth 100000 in
theorem okCommon : ModOK Tryd.prog G 32 mCommon := by
  intro args p v hm hp h
  unfold mCommon at hm
  split at hm; rotate_left; · cases hm
  rename_i a b
  obtain ⟨rfl, rfl⟩ := some_pairQ hm
  refine fn_S Tryd.func32 (by kernel_rfl) rfl ?_ h
  refine ExS.evG ext0_sound 1 (tCo1 a b) ?_
  simp only [holds_leaf, kf_normal]
  refine ⟨?_⟩
  refine ExS.loop' (l := dropL 1 (pcs Tryd.prog Tryd.f32)) (b := inr (inr (nth .skip (pcs Tryd.prog Tryd.f32) 1))) (r := dropL 2 (pcs Tryd.prog Tryd.f32)) (id := 0) (by kernel_rfl) (σ := Int × Int)
    (fun x => (fun a b => cst 14 [(0, u6V a), (1, u6V b)] []) x.1 x.2) (fun x => 0 ≤ x.1 ∧ 0 ≤ x.2 ∧ gcdZ x.1 x.2 = gcdZ a b) (fun x => x.2.toNat) (a, b) ⟨hp.1, hp.2, rfl⟩ (weak_of_eq (by kernel_rfl)) ?_
  rintro ⟨x, y⟩ ⟨hx, hy, hg⟩ Q1 q1n q1e -
  dsimp only at hx hy hg q1n q1e ⊢
  refine ExS.evH ext0_sound (tCo2 x y) ?_
  simp only [holds_bT, holds_rq, holds_leaf, kf_normal, kf_exit, bne_iff_ne, bne_eq_false_iff_eq, ne_eq]
  refine ⟨fun h1 => ⟨by omega, ⟨q1n (y, x % y) _ ⟨hy, Int.emod_nonneg _ (by omega), ?_⟩ ?_ (weak_of_eq (by kernel_rfl))⟩⟩, fun h1 => ⟨q1e _ ?_⟩⟩
  · simp only
    rw [gcdZ_step hx (by omega), hg]
  · simp only
    have := Int.emod_lt_of_pos x (show 0 < y by omega)
    have := Int.emod_nonneg x (show y ≠ 0 by omega)
    omega
  · subst h1
    rw [gcdZ_zero hx] at hg
    subst hg
    refine ExS.evH ext0_sound (tCo3 (gcdZ a b) 0) ?_
    simp only [holds_leaf, kf_ret']
    exact ⟨VLe.refl _⟩
theorem extNw_sound : SoundExt Tryd.prog G extNw := extOf_sound (by simp; exact ⟨okSize, okCommon⟩)
theorem okNewQ : ModOK Tryd.prog G 19 mNewQ := by
  intro args p v hm hp h
  unfold mNewQ at hm
  split at hm; rotate_left; · cases hm
  rename_i n d
  obtain ⟨rfl, rfl⟩ := some_pairQ hm
  obtain ⟨⟨n0, n1⟩, d0, d1⟩ := hp
  have hd : absZ d = d := by unfold absZ; rw [if_neg (by omega)]
  have hn := absZ_nn n
  have hn1 : absZ n ≤ 4611686018427387904 := by unfold absZ; split <;> omega
  refine fn_T extNw_sound Tryd.func19 (by kernel_rfl) rfl (tNw n d) ?_ h
  rw [hd]
  have hg := gcdZ_pos (a := absZ n) (show 0 < d by omega)
  obtain ⟨v1, v2⟩ := gcdZ_dvd hn (show 0 ≤ d by omega)
  have q1 := div_le_of hn hg
  have q2 := div_le_of (show 0 ≤ d by omega) hg
  have hred : redQ n d = (n / gcdZ (absZ n) d, d / gcdZ (absZ n) d) := rfl
  have hneg : n < 0 → -(absZ n / gcdZ (absZ n) d) = n / gcdZ (absZ n) d := fun h => by
    have : absZ n = -n := by unfold absZ; rw [if_pos h]
    rw [this] at v1 ⊢
    exact neg_div (by rw [this] at hg; exact hg) v1
  have hpos : ¬ n < 0 → absZ n = n := fun h => by unfold absZ; rw [if_neg h]
  simp only [holds_bT, holds_rq, holds_done, KF, decide_eq_true_eq, decide_eq_false_iff_not, beq_iff_eq, beq_eq_false_iff_ne, ne_eq, inR]
  generalize gcdZ (absZ n) d = g at *
  have w1 : IntKind.i64.wrap (absZ n / g) = absZ n / g := wrap_in (k := .i64) (by simp only [inR]; omega)
  have w2 : IntKind.i64.wrap (d / g) = d / g := wrap_in (k := .i64) (by simp only [inR]; omega)
  refine ⟨fun h1 => by omega, fun _ => ⟨by omega, by omega, fun h1 => by omega, fun _ => ⟨fun h1 => by omega, fun _ => ⟨by omega, by omega, by omega, fun h1 => by omega, fun _ => ⟨fun h1 => by omega, fun _ => ⟨fun h1 => ⟨?_, _, rfl, VLe.of_eq ?_⟩, fun h1 => ⟨_, rfl, VLe.of_eq ?_⟩⟩⟩⟩⟩⟩⟩
  · rw [w1]; omega
  · have hnn : n < 0 := by
      rw [decide_eq_false (show ¬ d < 0 by omega)] at h1
      simpa using h1
    rw [w1, w2, hneg hnn, hred]; rfl
  · have hnn : ¬ n < 0 := by
      rw [decide_eq_false (show ¬ d < 0 by omega)] at h1
      simpa using h1
    rw [w1, w2, hpos hnn, hred]; rfl
theorem extVl_sound : SoundExt Tryd.prog G extVl := extOf_sound (by simp; exact okNewQ)
theorem extSh_sound : SoundExt Tryd.prog G extSh := extOf_sound (by simp; exact okSize)
theorem okValidQ : ModOK Tryd.prog G 37 mValidQ := by
  intro args p v hm hp h
  unfold mValidQ at hm
  split at hm; rotate_left; · cases hm
  rename_i n d
  obtain ⟨rfl, rfl⟩ := some_pairQ hm
  refine fn_T extVl_sound Tryd.func37 (by kernel_rfl) rfl (tVl n d) ?_ h
  simp only [holds_bT, holds_rq, holds_done, KF, decide_eq_true_eq, decide_eq_false_iff_not]
  have := hp.2.1
  refine ⟨fun h1 => by omega, fun _ => ⟨hp, _, rfl, VLe.of_eq ?_⟩⟩
  have : (n == (redQ n d).fst && (d == (redQ n d).snd && true)) = decide (redQ n d = (n, d)) := by
    rw [Bool.eq_iff_iff]
    simp [Prod.ext_iff]
    constructor
    · rintro ⟨h1, h2⟩; exact ⟨h1.symm, h2.symm⟩
    · rintro ⟨h1, h2⟩; exact ⟨h1.symm, h2.symm⟩
  rw [this]; rfl
theorem okShort : ModOK Tryd.prog G 38 mShort := by
  intro args p v hm hp h
  unfold mShort at hm
  split at hm; rotate_left; · cases hm
  rename_i n d
  obtain ⟨rfl, rfl⟩ := some_pairQ hm
  refine fn_T extSh_sound Tryd.func38 (by kernel_rfl) rfl (tSh n d) ?_ h
  simp only [holds_bT, holds_rq, holds_done, KF, decide_eq_true_eq, decide_eq_false_iff_not]
  refine ⟨hp.1, fun h1 => ⟨_, rfl, VLe.of_eq (by rw [decide_eq_true h1]; rfl)⟩, fun h1 => ⟨_, rfl, VLe.of_eq (by rw [decide_eq_false h1]; rfl)⟩⟩
end
end Go.AE
