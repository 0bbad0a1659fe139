/- AE contracts: math/bits.Mul64 at small numbers, frac.product. -/
import Derived.Test.YtplnkainmfkfgaaDoorN7
namespace Go.AE
open Go.Proofs
set_option linter.unusedVariables false
set_option linter.unusedSimpArgs false
def mMul64 : Mod
  | [.c (.p (.i .u64 a)), .c (.p (.i .u64 b))] => some ((0 ≤ a ∧ a ≤ 1073741824) ∧ 0 ≤ b ∧ b ≤ 1073741824, .t [.c (.p (.i .u64 0)), .c (.p (.i .u64 (a * b)))])
  | _ => none
def mProduct : Mod
  | [.c (.p (.i .i64 a)), .c (.p (.i .i64 b))] => some (shI a ∧ shI b, .a [.p (.i .u64 0), .p (.i .u64 (absZ (a * b))), .p (.b (decide (a * b < 0)))])
  | _ => none
def extPr : Ext := extOf [(29, mAbsI), (52, mMul64)]

theorem tMu (a b : Int) : exTs ext0 (pcs Tryd.prog Tryd.f52) (st0 Tryd.f52 [u6V a, u6V b]) (endG [] (resOf Tryd.prog Tryd.f52)) = Tr.rq (Int.ofNat 0 ≤ Int.ofNat 32)
    (Tr.rq (Int.ofNat 0 ≤ Int.ofNat 32)
      (Tr.rq (Int.ofNat 0 ≤ Int.ofNat 32)
        (Tr.rq (Int.ofNat 0 ≤ Int.ofNat 32)
          (Tr.rq (Int.ofNat 0 ≤ Int.ofNat 32)
            (Tr.done X.ret
              (St.mk [V.t [V1.c (C.p (PV.i IntKind.u64 (IntKind.u64.wrap (IntKind.u64.wrap (IntKind.u64.wrap (a.fdiv (2 ^ min (Int.toNat 32) IntKind.u64.bits) * b.fdiv (2 ^ min (Int.toNat 32) IntKind.u64.bits)) + (IntKind.u64.wrap (IntKind.u64.wrap (a.fdiv (2 ^ min (Int.toNat 32) IntKind.u64.bits) * IntKind.u64.wrap (↑(BitVec.ofInt IntKind.u64.bits b &&& BitVec.ofInt IntKind.u64.bits 4294967295).toNat : Int)) + (IntKind.u64.wrap (IntKind.u64.wrap (↑(BitVec.ofInt IntKind.u64.bits a &&& BitVec.ofInt IntKind.u64.bits 4294967295).toNat : Int) * IntKind.u64.wrap (↑(BitVec.ofInt IntKind.u64.bits b &&& BitVec.ofInt IntKind.u64.bits 4294967295).toNat : Int))).fdiv (2 ^ min (Int.toNat 32) IntKind.u64.bits))).fdiv (2 ^ min (Int.toNat 32) IntKind.u64.bits)) + (IntKind.u64.wrap (IntKind.u64.wrap (↑(BitVec.ofInt IntKind.u64.bits (IntKind.u64.wrap (IntKind.u64.wrap (a.fdiv (2 ^ min (Int.toNat 32) IntKind.u64.bits) * IntKind.u64.wrap (↑(BitVec.ofInt IntKind.u64.bits b &&& BitVec.ofInt IntKind.u64.bits 4294967295).toNat : Int)) + (IntKind.u64.wrap (IntKind.u64.wrap (↑(BitVec.ofInt IntKind.u64.bits a &&& BitVec.ofInt IntKind.u64.bits 4294967295).toNat : Int) * IntKind.u64.wrap (↑(BitVec.ofInt IntKind.u64.bits b &&& BitVec.ofInt IntKind.u64.bits 4294967295).toNat : Int))).fdiv (2 ^ min (Int.toNat 32) IntKind.u64.bits))) &&& BitVec.ofInt IntKind.u64.bits 4294967295).toNat : Int) + IntKind.u64.wrap (IntKind.u64.wrap (↑(BitVec.ofInt IntKind.u64.bits a &&& BitVec.ofInt IntKind.u64.bits 4294967295).toNat : Int) * b.fdiv (2 ^ min (Int.toNat 32) IntKind.u64.bits)))).fdiv (2 ^ min (Int.toNat 32) IntKind.u64.bits))))), V1.c (C.p (PV.i IntKind.u64 (IntKind.u64.wrap (a * b))))]] [])))))) := by kernel_rfl
theorem tPr (a b : Int) : exTs extPr (pcs Tryd.prog Tryd.f45) (st0 Tryd.f45 [iV a, iV b]) (endG [] (resOf Tryd.prog Tryd.f45)) = Tr.rq (-1073741824 ≤ a ∧ a ≤ 1073741824)
    (Tr.rq (-1073741824 ≤ b ∧ b ≤ 1073741824)
      (Tr.rq ((0 ≤ IntKind.u64.wrap (absZ a) ∧ IntKind.u64.wrap (absZ a) ≤ 1073741824) ∧ 0 ≤ IntKind.u64.wrap (absZ b) ∧ IntKind.u64.wrap (absZ b) ≤ 1073741824)
        (bT (IntKind.u64.wrap (absZ a) * IntKind.u64.wrap (absZ b) == 0) (Tr.done X.ret (St.mk [V.a [C.p (PV.i IntKind.u64 0), C.p (PV.i IntKind.u64 0), C.p (PV.b false)]] []))
          (Tr.done X.ret (St.mk [V.a [C.p (PV.i IntKind.u64 0), C.p (PV.i IntKind.u64 (IntKind.u64.wrap (absZ a) * IntKind.u64.wrap (absZ b))), C.p (PV.b !decide (a < 0) == decide (b < 0))]] []))))) := by kernel_rfl
theorem and32 {x : Int} (h0 : 0 ≤ x) (h1 : x < 18446744073709551616) : IntKind.u64.wrap (↑(BitVec.ofInt IntKind.u64.bits x &&& BitVec.ofInt IntKind.u64.bits 4294967295).toNat : Int) = x % 4294967296 := by
  obtain ⟨n, rfl⟩ := Int.eq_ofNat_of_zero_le h0
  have e : (BitVec.ofInt IntKind.u64.bits (n : Int) &&& BitVec.ofInt IntKind.u64.bits 4294967295).toNat = n % 4294967296 := by
    show (BitVec.ofInt 64 (n : Int) &&& BitVec.ofInt 64 4294967295).toNat = n % 4294967296
    rw [BitVec.toNat_and, BitVec.toNat_ofInt, BitVec.toNat_ofInt]
    have e1 : ((n : Int) % ((2 ^ 64 : Nat) : Int)).toNat = n := by omega
    have e2 : ((4294967295 : Int) % ((2 ^ 64 : Nat) : Int)).toNat = 2 ^ 32 - 1 := by decide
    rw [e1, e2, Nat.and_two_pow_sub_one_eq_mod]
  rw [e, IntKind.wrap_u64]
  omega
theorem shr32 {x : Int} (h0 : 0 ≤ x) : x.fdiv (2 ^ min (Int.toNat 32) IntKind.u64.bits) = x / 4294967296 := by
  show x.fdiv (2 ^ 32) = _
  rw [Int.fdiv_eq_ediv_of_nonneg _ (by decide)]
  rfl
section
variable {G : Nat → Option Obj}
set_option maxRecDepth 100000 in
theorem okMul64 : ModOK Tryd.prog G 52 mMul64 := by
  intro args p v hm hp h
  unfold mMul64 at hm
  split at hm; rotate_left; · cases hm
  rename_i a b
  obtain ⟨rfl, rfl⟩ := some_pairQ hm
  clear hm
  obtain ⟨⟨a0, a1⟩, b0, b1⟩ := hp
  refine fn_S Tryd.func52 (by kernel_rfl) rfl ?_ h
  refine ExS.evH ext0_sound (tMu a b) ?_
  have m1 := mulB (x := a) (y := b) (by omega) (by omega)
  have m0 : 0 ≤ a * b := Int.mul_nonneg a0 b0
  have ha : a % 4294967296 = a := by omega
  have hb : b % 4294967296 = b := by omega
  have ha2 : a / 4294967296 = 0 := by omega
  have hb2 : b / 4294967296 = 0 := by omega
  have hw : IntKind.u64.wrap (a * b) = a * b := by rw [IntKind.wrap_u64]; omega
  rw [and32 a0 (by omega), and32 b0 (by omega), shr32 a0, shr32 b0, ha, hb, ha2, hb2, hw, shr32 m0, Int.zero_mul, Int.zero_mul, Int.mul_zero]
  generalize a * b = x at *
  have w0 : IntKind.u64.wrap 0 = 0 := by rw [IntKind.wrap_u64]; rfl
  have w1 : IntKind.u64.wrap (IntKind.u64.wrap 0 + x / 4294967296) = x / 4294967296 := by rw [w0, IntKind.wrap_u64]; omega
  rw [w1, and32 (by omega) (by omega), shr32 (by omega), w0]
  have w2 : IntKind.u64.wrap (x / 4294967296 % 4294967296 + 0) = x / 4294967296 := by rw [IntKind.wrap_u64]; omega
  rw [w2, shr32 (by omega)]
  have w3 : IntKind.u64.wrap (IntKind.u64.wrap (0 + x / 4294967296 / 4294967296) + x / 4294967296 / 4294967296) = 0 := by rw [IntKind.wrap_u64, IntKind.wrap_u64]; omega
  rw [w3]
  simp only [holds_rq, holds_leaf, kf_ret']
  exact ⟨by decide, by decide, by decide, by decide, by decide, ⟨VLe.refl _⟩⟩
theorem extPr_sound : SoundExt Tryd.prog G extPr := extOf_sound (by simp; exact ⟨okAbsI, okMul64⟩)
theorem absZ_mul (a b : Int) : absZ a * absZ b = absZ (a * b) := by
  have h : ∀ x : Int, absZ x = (x.natAbs : Int) := fun x => by unfold absZ; split <;> omega
  rw [h, h, h, Int.natAbs_mul]; rfl
set_option maxRecDepth 100000 in
theorem okProduct : ModOK Tryd.prog G 45 mProduct := by
  intro args p v hm hp h
  unfold mProduct at hm
  split at hm; rotate_left; · cases hm
  rename_i a b
  obtain ⟨rfl, rfl⟩ := some_pairQ hm
  clear hm
  obtain ⟨ha, hb⟩ := hp
  refine fn_S Tryd.func45 (by kernel_rfl) rfl ?_ h
  refine ExS.evH extPr_sound (tPr a b) ?_
  have ha' := ha
  have hb' := hb
  unfold shI at ha hb
  have w1 : IntKind.u64.wrap (absZ a) = absZ a := by rw [IntKind.wrap_u64]; unfold absZ; split <;> omega
  have w2 : IntKind.u64.wrap (absZ b) = absZ b := by rw [IntKind.wrap_u64]; unfold absZ; split <;> omega
  rw [w1, w2, absZ_mul]
  have z1 : 0 ≤ absZ a ∧ absZ a ≤ 1073741824 := by unfold absZ; split <;> omega
  have z2 : 0 ≤ absZ b ∧ absZ b ≤ 1073741824 := by unfold absZ; split <;> omega
  simp only [holds_bT, holds_rq, holds_leaf, kf_ret', beq_iff_eq, beq_eq_false_iff_ne, ne_eq]
  refine ⟨ha, hb, ⟨z1, z2⟩, fun h1 => ⟨VLe.of_eq ?_⟩, fun h1 => ⟨VLe.of_eq ?_⟩⟩
  · have : a * b = 0 := by unfold absZ at h1; split at h1 <;> omega
    rw [this]; rfl
  · have h2 : a * b ≠ 0 := fun h2 => h1 (by rw [h2]; rfl)
    have : (!decide (a < 0) == decide (b < 0)) = decide (a * b < 0) := by
      by_cases c1 : a < 0
      · by_cases c2 : b < 0
        · have := Int.mul_pos_of_neg_of_neg c1 c2
          rw [decide_eq_true c1, decide_eq_true c2, decide_eq_false (by omega)]; rfl
        · have c3 : 0 < b := by
            have : b ≠ 0 := fun e => h2 (by rw [e, Int.mul_zero])
            omega
          have := Int.mul_neg_of_neg_of_pos c1 c3
          rw [decide_eq_true c1, decide_eq_false c2, decide_eq_true this]; rfl
      · have c4 : 0 < a := by
          have : a ≠ 0 := fun e => h2 (by rw [e, Int.zero_mul])
          omega
        by_cases c2 : b < 0
        · have := Int.mul_neg_of_pos_of_neg c4 c2
          rw [decide_eq_false c1, decide_eq_true c2, decide_eq_true this]; rfl
        · have := Int.mul_nonneg (Int.le_of_lt c4) (show 0 ≤ b by omega)
          rw [decide_eq_false c1, decide_eq_false c2, decide_eq_false (by omega)]; rfl
    rw [this]
end
end Go.AE
