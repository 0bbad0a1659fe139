/- AE contracts: ref03.Compare, Add, Sub, Mul, Small. -/
import Derived.Test.YtplnkainmfkfgaaDoorN2
namespace Go.AE
open Go.Proofs
set_option linter.unusedVariables false
set_option linter.unusedSimpArgs false
/-- A short valid fraction. -/
def vQ (a : Qf) : Prop := (-1073741824 ≤ a.1 ∧ a.1 ≤ 1073741824) ∧ (1 ≤ a.2 ∧ a.2 ≤ 1073741824) ∧ redQ a.1 a.2 = a
def cmpQ (a b : Qf) : Int := if a.1 * b.2 < b.1 * a.2 then -1 else if b.1 * a.2 < a.1 * b.2 then 1 else 0
def addQ (a b : Qf) : Qf := redQ (a.1 * b.2 + b.1 * a.2) (a.2 * b.2)
def subQ (a b : Qf) : Qf := addQ a (-b.1, b.2)
def mulQ (a b : Qf) : Qf := redQ (a.1 * b.1) (a.2 * b.2)
def smQ (n : Int) : Qf := redQ (aroundZ n 1000000007 % 101 - 50) (1 + aroundZ n 1000000007 / 101 % 12)
def mCmpQ : Mod
  | [.a [.p (.i .i64 n), .p (.i .i64 d)], .a [.p (.i .i64 m), .p (.i .i64 e)]] => some (vQ (n, d) ∧ vQ (m, e), iV (cmpQ (n, d) (m, e)))
  | _ => none
def mAddQ : Mod
  | [.a [.p (.i .i64 n), .p (.i .i64 d)], .a [.p (.i .i64 m), .p (.i .i64 e)]] => some (vQ (n, d) ∧ vQ (m, e), frE (addQ (n, d) (m, e)) 0)
  | _ => none
def mSubQ : Mod
  | [.a [.p (.i .i64 n), .p (.i .i64 d)], .a [.p (.i .i64 m), .p (.i .i64 e)]] => some (vQ (n, d) ∧ vQ (m, e), frE (subQ (n, d) (m, e)) 0)
  | _ => none
def mMulQ : Mod
  | [.a [.p (.i .i64 n), .p (.i .i64 d)], .a [.p (.i .i64 m), .p (.i .i64 e)]] => some (vQ (n, d) ∧ vQ (m, e), frE (mulQ (n, d) (m, e)) 0)
  | _ => none
def extCq : Ext := extOf [(37, mValidQ), (31, mSize), (40, mFrom), (39, mTimes), (43, mLess)]
def extAq : Ext := extOf [(37, mValidQ), (38, mShort), (19, mNewQ)]
def extBq : Ext := extOf [(37, mValidQ), (27, mAddQ)]
def extSq : Ext := extOf [(15, mAround), (19, mNewQ)]

def mSmallQ : Mod
  | [.c (.p (.i .i64 n))] => some (inR .i64 n, frV (smQ n))
  | _ => none
theorem tCq1 (n d m e : Int) : exTs extCq (takeL 9 (pcs Tryd.prog Tryd.f36)) (st0 Tryd.f36 [.a [.p (.i .i64 n), .p (.i .i64 d)], .a [.p (.i .i64 m), .p (.i .i64 e)]]) (endG (msk 59 [2, 3]) (resOf Tryd.prog Tryd.f36)) = Tr.rq (okQ n d)
    (Tr.rq (okQ m e)
      (bT (!decide (redQ n d = (n, d))) (Tr.done X.ret (St.mk [V.c (C.p (PV.i IntKind.i64 0))] []))
        (bT (!decide (redQ m e = (m, e))) (Tr.done X.ret (St.mk [V.c (C.p (PV.i IntKind.i64 0))] []))
          (bT (decide (n < 0))
            (bT (decide (0 ≤ m)) (Tr.done X.ret (St.mk [V.c (C.p (PV.i IntKind.i64 (-1)))] []))
              (bT (decide (0 ≤ n))
                (bT (decide (m < 0)) (Tr.done X.ret (St.mk [V.c (C.p (PV.i IntKind.i64 1))] []))
                  (Tr.done X.normal
                    (cst 59 [(2, V.c (C.ptr 0 0)), (3, V.c (C.ptr 1 0))] [AO.cells 26 [C.p (PV.i IntKind.i64 n), C.p (PV.i IntKind.i64 d)], AO.cells 26 [C.p (PV.i IntKind.i64 m), C.p (PV.i IntKind.i64 e)]])))
                (Tr.done X.normal
                  (cst 59 [(2, V.c (C.ptr 0 0)), (3, V.c (C.ptr 1 0))] [AO.cells 26 [C.p (PV.i IntKind.i64 n), C.p (PV.i IntKind.i64 d)], AO.cells 26 [C.p (PV.i IntKind.i64 m), C.p (PV.i IntKind.i64 e)]]))))
            (bT (decide (0 ≤ n))
              (bT (decide (m < 0)) (Tr.done X.ret (St.mk [V.c (C.p (PV.i IntKind.i64 1))] []))
                (Tr.done X.normal
                  (cst 59 [(2, V.c (C.ptr 0 0)), (3, V.c (C.ptr 1 0))] [AO.cells 26 [C.p (PV.i IntKind.i64 n), C.p (PV.i IntKind.i64 d)], AO.cells 26 [C.p (PV.i IntKind.i64 m), C.p (PV.i IntKind.i64 e)]])))
              (Tr.done X.normal
                (cst 59 [(2, V.c (C.ptr 0 0)), (3, V.c (C.ptr 1 0))] [AO.cells 26 [C.p (PV.i IntKind.i64 n), C.p (PV.i IntKind.i64 d)], AO.cells 26 [C.p (PV.i IntKind.i64 m), C.p (PV.i IntKind.i64 e)]]))))))) := by kernel_rfl
theorem tCq2 (n d m e : Int) : exTs extCq (dropL 9 (pcs Tryd.prog Tryd.f36)) (cst 59 [(2, .c (.ptr 0 0)), (3, .c (.ptr 1 0))] [.cells 26 [.p (.i .i64 n), .p (.i .i64 d)], .cells 26 [.p (.i .i64 m), .p (.i .i64 e)]]) (endG [] (resOf Tryd.prog Tryd.f36)) = Tr.rq (-4611686018427387904 ≤ n ∧ n ≤ 4611686018427387904)
    (Tr.rq (0 ≤ absZ n ∧ absZ n ≤ 18446744073709551615)
      (Tr.rq (0 ≤ IntKind.u64.wrap e ∧ IntKind.u64.wrap e ≤ 18446744073709551615)
        (Tr.rq
          ((absZ n / 4294967296 = 0 ∧
              [C.p (PV.i IntKind.u64 0), C.p (PV.i IntKind.u64 0), C.p (PV.i IntKind.u64 0), C.p (PV.i IntKind.u64 0), C.p (PV.i IntKind.u64 0), C.p (PV.i IntKind.u64 0)] = z6 ∧
                IntKind.u64.wrap e / 4294967296 = 0 ∧
                  [C.p (PV.i IntKind.u64 0), C.p (PV.i IntKind.u64 0), C.p (PV.i IntKind.u64 0), C.p (PV.i IntKind.u64 0), C.p (PV.i IntKind.u64 0), C.p (PV.i IntKind.u64 0)] = z6) ∧
            (0 ≤ absZ n % 4294967296 ∧ absZ n % 4294967296 < 4294967296) ∧ 0 ≤ IntKind.u64.wrap e % 4294967296 ∧ IntKind.u64.wrap e % 4294967296 < 4294967296)
          (Tr.rq (-4611686018427387904 ≤ m ∧ m ≤ 4611686018427387904)
            (Tr.rq (0 ≤ absZ m ∧ absZ m ≤ 18446744073709551615)
              (Tr.rq (0 ≤ IntKind.u64.wrap d ∧ IntKind.u64.wrap d ≤ 18446744073709551615)
                (Tr.rq
                  ((absZ m / 4294967296 = 0 ∧
                      [C.p (PV.i IntKind.u64 0), C.p (PV.i IntKind.u64 0), C.p (PV.i IntKind.u64 0), C.p (PV.i IntKind.u64 0), C.p (PV.i IntKind.u64 0), C.p (PV.i IntKind.u64 0)] = z6 ∧
                        IntKind.u64.wrap d / 4294967296 = 0 ∧
                          [C.p (PV.i IntKind.u64 0), C.p (PV.i IntKind.u64 0), C.p (PV.i IntKind.u64 0), C.p (PV.i IntKind.u64 0), C.p (PV.i IntKind.u64 0), C.p (PV.i IntKind.u64 0)] = z6) ∧
                    (0 ≤ absZ m % 4294967296 ∧ absZ m % 4294967296 < 4294967296) ∧ 0 ≤ IntKind.u64.wrap d % 4294967296 ∧ IntKind.u64.wrap d % 4294967296 < 4294967296)
                  (Tr.rq
                    ([C.p (PV.i IntKind.u64 0), C.p (PV.i IntKind.u64 0), C.p (PV.i IntKind.u64 0), C.p (PV.i IntKind.u64 0), C.p (PV.i IntKind.u64 0), C.p (PV.i IntKind.u64 0)] = z6 ∧
                      [C.p (PV.i IntKind.u64 0), C.p (PV.i IntKind.u64 0), C.p (PV.i IntKind.u64 0), C.p (PV.i IntKind.u64 0), C.p (PV.i IntKind.u64 0), C.p (PV.i IntKind.u64 0)] = z6)
                    (bT (decide (n < 0))
                      (Tr.rq
                        (inR IntKind.i64
                          (-lessD (absZ n % 4294967296 * (IntKind.u64.wrap e % 4294967296) % 4294967296) (absZ n % 4294967296 * (IntKind.u64.wrap e % 4294967296) / 4294967296)
                              (absZ m % 4294967296 * (IntKind.u64.wrap d % 4294967296) % 4294967296) (absZ m % 4294967296 * (IntKind.u64.wrap d % 4294967296) / 4294967296)))
                        (Tr.done X.ret
                          (St.mk [V.c (C.p (PV.i IntKind.i64 (-lessD (absZ n % 4294967296 * (IntKind.u64.wrap e % 4294967296) % 4294967296) (absZ n % 4294967296 * (IntKind.u64.wrap e % 4294967296) / 4294967296) (absZ m % 4294967296 * (IntKind.u64.wrap d % 4294967296) % 4294967296) (absZ m % 4294967296 * (IntKind.u64.wrap d % 4294967296) / 4294967296))))] [])))
                      (Tr.done X.ret
                        (St.mk [V.c (C.p (PV.i IntKind.i64 (lessD (absZ n % 4294967296 * (IntKind.u64.wrap e % 4294967296) % 4294967296) (absZ n % 4294967296 * (IntKind.u64.wrap e % 4294967296) / 4294967296) (absZ m % 4294967296 * (IntKind.u64.wrap d % 4294967296) % 4294967296) (absZ m % 4294967296 * (IntKind.u64.wrap d % 4294967296) / 4294967296))))] []))))))))))) := by kernel_rfl
theorem tAq (n d m e : Int) : exTs extAq (takeL 9 (pcs Tryd.prog Tryd.f27)) (st0 Tryd.f27 [.a [.p (.i .i64 n), .p (.i .i64 d)], .a [.p (.i .i64 m), .p (.i .i64 e)]]) (endG [] (resOf Tryd.prog Tryd.f27)) = Tr.rq (okQ n d)
    (Tr.rq (okQ m e)
      (bT (!decide (redQ n d = (n, d))) (Tr.done X.ret (St.mk [V.t [V1.a [C.p (PV.i IntKind.i64 0), C.p (PV.i IntKind.i64 0)], V1.c (C.p (PV.i IntKind.i64 1))]] []))
        (bT (!decide (redQ m e = (m, e))) (Tr.done X.ret (St.mk [V.t [V1.a [C.p (PV.i IntKind.i64 0), C.p (PV.i IntKind.i64 0)], V1.c (C.p (PV.i IntKind.i64 1))]] []))
          (Tr.rq (okQ n d)
            (Tr.rq (okQ m e)
              (bT (decide (absZ n ≤ 1073741824) && decide (d ≤ 1073741824))
                (bT (decide (absZ m ≤ 1073741824) && decide (e ≤ 1073741824))
                  (Tr.rq (inR IntKind.i64 (n * e))
                    (Tr.rq (inR IntKind.i64 (m * d))
                      (Tr.rq (inR IntKind.i64 (n * e + m * d))
                        (Tr.rq (inR IntKind.i64 (d * e))
                          (Tr.rq (okQ (n * e + m * d) (d * e))
                            (Tr.done X.ret
                              (St.mk [V.t [V1.a [C.p (PV.i IntKind.i64 (redQ (n * e + m * d) (d * e)).fst), C.p (PV.i IntKind.i64 (redQ (n * e + m * d) (d * e)).snd)], V1.c (C.p (PV.i IntKind.i64 0))]] [])))))))
                  (Tr.done X.normal
                    (cst 117 [] [])))
                (Tr.done X.normal
                  (cst 117 [] [])))))))) := by kernel_rfl
theorem tBq (n d m e : Int) : exTs extBq (pcs Tryd.prog Tryd.f25) (st0 Tryd.f25 [.a [.p (.i .i64 n), .p (.i .i64 d)], .a [.p (.i .i64 m), .p (.i .i64 e)]]) (endG [] (resOf Tryd.prog Tryd.f25)) = Tr.rq (okQ m e)
    (bT (!decide (redQ m e = (m, e))) (Tr.done X.ret (St.mk [V.t [V1.a [C.p (PV.i IntKind.i64 0), C.p (PV.i IntKind.i64 0)], V1.c (C.p (PV.i IntKind.i64 1))]] []))
      (Tr.rq (inR IntKind.i64 (-m))
        (Tr.rq (vQ (n, d) ∧ vQ (-m, e))
          (Tr.done X.ret (St.mk [V.t [V1.a [C.p (PV.i IntKind.i64 (addQ (n, d) (-m, e)).fst), C.p (PV.i IntKind.i64 (addQ (n, d) (-m, e)).snd)], V1.c (C.p (PV.i IntKind.i64 0))]] []))))) := by kernel_rfl
theorem tMq (n d m e : Int) : exTs extAq (takeL 9 (pcs Tryd.prog Tryd.f26)) (st0 Tryd.f26 [.a [.p (.i .i64 n), .p (.i .i64 d)], .a [.p (.i .i64 m), .p (.i .i64 e)]]) (endG [] (resOf Tryd.prog Tryd.f26)) = Tr.rq (okQ n d)
    (Tr.rq (okQ m e)
      (bT (!decide (redQ n d = (n, d))) (Tr.done X.ret (St.mk [V.t [V1.a [C.p (PV.i IntKind.i64 0), C.p (PV.i IntKind.i64 0)], V1.c (C.p (PV.i IntKind.i64 1))]] []))
        (bT (!decide (redQ m e = (m, e))) (Tr.done X.ret (St.mk [V.t [V1.a [C.p (PV.i IntKind.i64 0), C.p (PV.i IntKind.i64 0)], V1.c (C.p (PV.i IntKind.i64 1))]] []))
          (Tr.rq (okQ n d)
            (Tr.rq (okQ m e)
              (bT (decide (absZ n ≤ 1073741824) && decide (d ≤ 1073741824))
                (bT (decide (absZ m ≤ 1073741824) && decide (e ≤ 1073741824))
                  (Tr.rq (inR IntKind.i64 (n * m))
                    (Tr.rq (inR IntKind.i64 (d * e))
                      (Tr.rq (okQ (n * m) (d * e))
                        (Tr.done X.ret (St.mk [V.t [V1.a [C.p (PV.i IntKind.i64 (redQ (n * m) (d * e)).fst), C.p (PV.i IntKind.i64 (redQ (n * m) (d * e)).snd)], V1.c (C.p (PV.i IntKind.i64 0))]] [])))))
                  (Tr.done X.normal
                    (cst 70 [] [])))
                (Tr.done X.normal
                  (cst 70 [] [])))))))) := by kernel_rfl
theorem tSq (n : Int) : exTs extSq (pcs Tryd.prog Tryd.f8) (st0 Tryd.f8 [iV n]) (endG [] (resOf Tryd.prog Tryd.f8)) = Tr.rq (inR IntKind.i64 n ∧ Int.ofNat 0 < Int.ofNat 1000000007)
    (Tr.rq (0 ≤ aroundZ n 1000000007 ∧ Int.ofNat 0 < Int.ofNat 101)
      (Tr.rq (inR IntKind.i64 (aroundZ n 1000000007 % 101 - 50))
        (Tr.rq (0 ≤ aroundZ n 1000000007 ∧ Int.ofNat 0 < Int.ofNat 101 ∧ inR IntKind.i64 (aroundZ n 1000000007 / 101))
          (Tr.rq (0 ≤ aroundZ n 1000000007 / 101 ∧ Int.ofNat 0 < Int.ofNat 12)
            (Tr.rq (inR IntKind.i64 (1 + aroundZ n 1000000007 / 101 % 12))
              (Tr.rq (okQ (aroundZ n 1000000007 % 101 - 50) (1 + aroundZ n 1000000007 / 101 % 12))
                (Tr.done X.ret
                  (St.mk [V.a [C.p (PV.i IntKind.i64 (redQ (aroundZ n 1000000007 % 101 - 50) (1 + aroundZ n 1000000007 / 101 % 12)).fst), C.p (PV.i IntKind.i64 (redQ (aroundZ n 1000000007 % 101 - 50) (1 + aroundZ n 1000000007 / 101 % 12)).snd)]] [])))))))) := by kernel_rfl
theorem mulB {x y : Int} (hx : -1073741824 ≤ x ∧ x ≤ 1073741824) (hy : -1073741824 ≤ y ∧ y ≤ 1073741824) : -1152921504606846976 ≤ x * y ∧ x * y ≤ 1152921504606846976 := by
  have h : (x * y).natAbs ≤ 1073741824 * 1073741824 := by rw [Int.natAbs_mul]; exact Nat.mul_le_mul (by omega) (by omega)
  omega
theorem lessD_eq {x y : Int} (hx : 0 ≤ x) (hy : 0 ≤ y) : lessD (x % 4294967296) (x / 4294967296) (y % 4294967296) (y / 4294967296) = if x < y then -1 else if y < x then 1 else 0 := by
  unfold lessD
  repeat' split
  all_goals omega
theorem absZ_neg (n : Int) : absZ (-n) = absZ n := by unfold absZ; split <;> split <;> omega
theorem redQ_neg {n d : Int} (hd : 0 < d) (h : redQ n d = (n, d)) : redQ (-n) d = (-n, d) := by
  unfold redQ at h ⊢
  rw [absZ_neg]
  injection h with h1 h2
  have hg := gcdZ_pos (a := absZ n) hd
  have hv := (gcdZ_dvd (absZ_nn n) (show 0 ≤ d by omega)).1
  generalize gcdZ (absZ n) d = g at *
  have hv2 : g ∣ n := by
    unfold absZ at hv
    split at hv
    · exact (Int.dvd_neg).1 hv
    · exact hv
  rw [Int.neg_ediv_of_dvd hv2, h1, h2]
theorem vQ_neg {n d : Int} (h : vQ (n, d)) : vQ (-n, d) := by
  obtain ⟨h1, h2, h3⟩ := h
  simp only at h1 h2 h3
  exact ⟨by simp only; omega, h2, redQ_neg (by omega) h3⟩
theorem vQ.ok {n d : Int} (h : vQ (n, d)) : okQ n d := by
  obtain ⟨h1, h2, h3⟩ := h
  simp only at h1 h2
  unfold okQ; omega
theorem vQ.red {n d : Int} (h : vQ (n, d)) : redQ n d = (n, d) := h.2.2
section
variable {G : Nat → Option Obj}
theorem extCq_sound : SoundExt Tryd.prog G extCq := extOf_sound (by simp; exact ⟨okValidQ, okSize, okFrom, okTimes, okLess⟩)
theorem extAq_sound : SoundExt Tryd.prog G extAq := extOf_sound (by simp; exact ⟨okValidQ, okShort, okNewQ⟩)
theorem extSq_sound : SoundExt Tryd.prog G extSq := extOf_sound (by simp; exact ⟨okAround, okNewQ⟩)
set_option maxRecDepth 100000 in
theorem okCmpQ : ModOK Tryd.prog G 36 mCmpQ := by
  intro args p v hm hp h
  unfold mCmpQ at hm
  split at hm; rotate_left; · cases hm
  rename_i n d m e
  obtain ⟨rfl, rfl⟩ := some_pairQ hm
  obtain ⟨hp, hq⟩ := hp
  have k1 := hp.ok
  have k2 := hq.ok
  have r1 := hp.red
  have r2 := hq.red
  obtain ⟨b1, b2, -⟩ := hp
  obtain ⟨b3, b4, -⟩ := hq
  simp only at b1 b2 b3 b4
  clear hm
  refine fn_S Tryd.func36 (by kernel_rfl) rfl ?_ h
  refine ExS.evG extCq_sound 9 (tCq1 n d m e) ?_
  simp only [r1, r2, decide_true, Bool.not_true, holds_bT, holds_rq, holds_leaf, kf_normal, kf_ret', decide_eq_true_eq, decide_eq_false_iff_not, Bool.false_eq_true, false_implies, true_implies, true_and]
  have main : (n < 0 → m < 0) → (0 ≤ n → 0 ≤ m) → ExS Tryd.prog G (resOf Tryd.prog Tryd.f36) (iV (cmpQ (n, d) (m, e))) (dropL 9 (pcs Tryd.prog Tryd.f36)) (cst 59 [(2, .c (.ptr 0 0)), (3, .c (.ptr 1 0))] [.cells 26 [.p (.i .i64 n), .p (.i .i64 d)], .cells 26 [.p (.i .i64 m), .p (.i .i64 e)]]) (fun _ _ => False) := by
    intro c1 c2
    refine ExS.evH extCq_sound (tCq2 n d m e) ?_
    have w1 : IntKind.u64.wrap e = e := wrap_in (k := .u64) (by simp only [inR]; omega)
    have w2 : IntKind.u64.wrap d = d := wrap_in (k := .u64) (by simp only [inR]; omega)
    rw [w1, w2]
    have a1 : 0 ≤ absZ n ∧ absZ n ≤ 1073741824 := by unfold absZ; split <;> omega
    have a2 : 0 ≤ absZ m ∧ absZ m ≤ 1073741824 := by unfold absZ; split <;> omega
    have z1 : absZ n % 4294967296 = absZ n := by omega
    have z2 : absZ m % 4294967296 = absZ m := by omega
    have z3 : d % 4294967296 = d := by omega
    have z4 : e % 4294967296 = e := by omega
    rw [z1, z2, z3, z4, lessD_eq (Int.mul_nonneg a1.1 (by omega)) (Int.mul_nonneg a2.1 (by omega))]
    simp only [holds_bT, holds_rq, holds_leaf, kf_normal, kf_ret', decide_eq_true_eq, decide_eq_false_iff_not, inR]
    refine ⟨by omega, by omega, by omega, ⟨⟨by omega, rfl, by omega, rfl⟩, by omega, by omega⟩, by omega, by omega, by omega, ⟨⟨by omega, rfl, by omega, rfl⟩, by omega, by omega⟩, ⟨rfl, rfl⟩, fun h1 => ⟨?_, ⟨VLe.of_eq ?_⟩⟩, fun h1 => ⟨VLe.of_eq ?_⟩⟩
    · (repeat' split) <;> omega
    · have := c1 h1
      have e1 : absZ n = -n := by unfold absZ; rw [if_pos h1]
      have e2 : absZ m = -m := by unfold absZ; rw [if_pos this]
      rw [e1, e2, Int.neg_mul, Int.neg_mul]
      unfold cmpQ
      simp only
      generalize n * e = x
      generalize m * d = y
      by_cases g1 : x < y
      · rw [if_neg (by omega), if_pos (by omega), if_pos g1]; rfl
      · by_cases g2 : y < x
        · rw [if_pos (by omega), if_neg g1, if_pos g2]; rfl
        · rw [if_neg (by omega), if_neg (by omega), if_neg g1, if_neg g2]; rfl
    · have := c2 (by omega)
      have e1 : absZ n = n := by unfold absZ; rw [if_neg h1]
      have e2 : absZ m = m := by unfold absZ; rw [if_neg (by omega)]
      rw [e1, e2]; rfl
  refine ⟨k1, k2, fun h1 => ⟨fun h2 => ⟨VLe.of_eq ?_⟩, fun h2 => ⟨fun h3 => by omega, fun h3 => ⟨main (by omega) (by omega)⟩⟩⟩, fun h1 => ⟨fun h2 => ⟨fun h3 => ⟨VLe.of_eq ?_⟩, fun h3 => ⟨main (by omega) (by omega)⟩⟩, fun h2 => by omega⟩⟩
  · have g1 : n * e < 0 := Int.mul_neg_of_neg_of_pos h1 (by omega)
    have g2 : 0 ≤ m * d := Int.mul_nonneg h2 (by omega)
    unfold cmpQ; simp only; rw [if_pos (by omega)]; rfl
  · have g1 : m * d < 0 := Int.mul_neg_of_neg_of_pos h3 (by omega)
    have g2 : 0 ≤ n * e := Int.mul_nonneg h2 (by omega)
    unfold cmpQ; simp only; rw [if_neg (by omega), if_pos (by omega)]; rfl
theorem shortB {n d : Int} (h : vQ (n, d)) : (decide (absZ n ≤ 1073741824) && decide (d ≤ 1073741824)) = true := by
  obtain ⟨h1, h2, -⟩ := h
  simp only at h1 h2
  have : absZ n ≤ 1073741824 := by unfold absZ; split <;> omega
  rw [decide_eq_true this, decide_eq_true h2.2]; rfl
set_option maxRecDepth 100000 in
theorem okAddQ : ModOK Tryd.prog G 27 mAddQ := by
  intro args p v hm hp h
  unfold mAddQ at hm
  split at hm; rotate_left; · cases hm
  rename_i n d m e
  obtain ⟨rfl, rfl⟩ := some_pairQ hm
  obtain ⟨hp, hq⟩ := hp
  have k1 := hp.ok
  have k2 := hq.ok
  have r1 := hp.red
  have r2 := hq.red
  have s1 := shortB hp
  have s2 := shortB hq
  obtain ⟨b1, b2, -⟩ := hp
  obtain ⟨b3, b4, -⟩ := hq
  simp only at b1 b2 b3 b4
  clear hm
  refine fn_S Tryd.func27 (by kernel_rfl) rfl ?_ h
  refine ExS.evG extAq_sound 9 (tAq n d m e) ?_
  simp only [r1, r2, s1, s2, decide_true, Bool.not_true, holds_bT, holds_rq, holds_leaf, kf_normal, kf_ret', Bool.false_eq_true, Bool.true_eq_false, false_implies, true_implies, true_and, and_true, reduceCtorEq]
  have m1 := mulB (x := n) (y := e) b1 (by omega)
  have m2 := mulB (x := m) (y := d) b3 (by omega)
  have m3 := mulB (x := d) (y := e) (by omega) (by omega)
  have m4 : 0 < d * e := Int.mul_pos (by omega) (by omega)
  refine ⟨k1, k2, k1, k2, by simp only [inR]; omega, by simp only [inR]; omega, by simp only [inR]; omega, by simp only [inR]; omega, by unfold okQ; omega, ⟨VLe.of_eq rfl⟩⟩
set_option maxRecDepth 100000 in
theorem okMulQ : ModOK Tryd.prog G 26 mMulQ := by
  intro args p v hm hp h
  unfold mMulQ at hm
  split at hm; rotate_left; · cases hm
  rename_i n d m e
  obtain ⟨rfl, rfl⟩ := some_pairQ hm
  obtain ⟨hp, hq⟩ := hp
  have k1 := hp.ok
  have k2 := hq.ok
  have r1 := hp.red
  have r2 := hq.red
  have s1 := shortB hp
  have s2 := shortB hq
  obtain ⟨b1, b2, -⟩ := hp
  obtain ⟨b3, b4, -⟩ := hq
  simp only at b1 b2 b3 b4
  clear hm
  refine fn_S Tryd.func26 (by kernel_rfl) rfl ?_ h
  refine ExS.evG extAq_sound 9 (tMq n d m e) ?_
  simp only [r1, r2, s1, s2, decide_true, Bool.not_true, holds_bT, holds_rq, holds_leaf, kf_normal, kf_ret', Bool.false_eq_true, Bool.true_eq_false, false_implies, true_implies, true_and, and_true, reduceCtorEq]
  have m1 := mulB (x := n) (y := m) b1 b3
  have m3 := mulB (x := d) (y := e) (by omega) (by omega)
  have m4 : 0 < d * e := Int.mul_pos (by omega) (by omega)
  refine ⟨k1, k2, k1, k2, by simp only [inR]; omega, by simp only [inR]; omega, by unfold okQ; omega, ⟨VLe.of_eq rfl⟩⟩
theorem extBq_sound : SoundExt Tryd.prog G extBq := extOf_sound (by simp; exact ⟨okValidQ, okAddQ⟩)
set_option maxRecDepth 100000 in
theorem okSubQ : ModOK Tryd.prog G 25 mSubQ := by
  intro args p v hm hp h
  unfold mSubQ at hm
  split at hm; rotate_left; · cases hm
  rename_i n d m e
  obtain ⟨rfl, rfl⟩ := some_pairQ hm
  obtain ⟨hp, hq⟩ := hp
  have k2 := hq.ok
  have r2 := hq.red
  have hq' := vQ_neg hq
  obtain ⟨b3, b4, -⟩ := hq
  simp only at b3 b4
  clear hm
  refine fn_S Tryd.func25 (by kernel_rfl) rfl ?_ h
  refine ExS.evH extBq_sound (tBq n d m e) ?_
  simp only [r2, decide_true, Bool.not_true, holds_bT, holds_rq, holds_leaf, kf_normal, kf_ret', Bool.false_eq_true, Bool.true_eq_false, false_implies, true_implies, true_and, and_true, reduceCtorEq]
  exact ⟨k2, by simp only [inR]; omega, ⟨hp, hq'⟩, ⟨VLe.of_eq rfl⟩⟩
theorem aroundZ_rng (n : Int) {m : Int} (hm : 0 < m) : 0 ≤ aroundZ n m ∧ aroundZ n m < m := by
  unfold aroundZ
  exact ⟨Int.emod_nonneg _ (by omega), Int.emod_lt_of_pos _ hm⟩
set_option maxRecDepth 100000 in
theorem okSmallQ : ModOK Tryd.prog G 8 mSmallQ := by
  intro args p v hm hp h
  unfold mSmallQ at hm
  split at hm; rotate_left; · cases hm
  rename_i n
  obtain ⟨rfl, rfl⟩ := some_pairQ hm
  clear hm
  refine fn_S Tryd.func8 (by kernel_rfl) rfl ?_ h
  refine ExS.evH extSq_sound (tSq n) ?_
  have := aroundZ_rng n (show (0 : Int) < 1000000007 by decide)
  simp only [holds_bT, holds_rq, holds_leaf, kf_normal, kf_ret', inR, okQ]
  refine ⟨⟨hp, by decide⟩, ⟨by omega, by decide⟩, by omega, ⟨by omega, by decide, by omega⟩, ⟨by omega, by decide⟩, by omega, by omega, ⟨VLe.of_eq rfl⟩⟩
end
end Go.AE
