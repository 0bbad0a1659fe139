/- AE contracts: ref01.Around, ref01.Pick, ref05.letter. -/
import Derived.Test.YtfjihbmehhccoaaAeC
import Derived.Test.YtfjihbmehhccoaaProg
namespace Go.AE
set_option linter.unusedVariables false
set_option linter.unusedSimpArgs false
open Go.Proofs

def aroundZ (n m : Int) : Int := (if n < 0 then -(n + 1) else n) % m
def letterB (n : Int) : Bool := decide (97 ≤ n) && decide (n ≤ 122)
def mAround : Mod
  | [.c (.p (.i .i64 n)), .c (.p (.i .i64 m))] => some (inR .i64 n ∧ 0 < m, iV (aroundZ n m))
  | _ => none
def mLetter : Mod
  | [.c (.p (.i .u8 n))] => some (True, bV (letterB n))
  | _ => none
def ext0 : Ext := extOf []
def extA : Ext := extOf [(14, mAround)]

theorem tAround (n m : Int) : exT ext0 (codeOf Try.prog Try.f14) (st0 Try.f14 [iV n, iV m]) (endF [] [] (resOf Try.prog Try.f14)) = bT (decide (n < 0)) (Tr.rq (inR IntKind.i64 (n + 1)) (Tr.rq (inR IntKind.i64 (-(n + 1))) (Tr.rq (0 ≤ -(n + 1) ∧ 0 < m) (Tr.done X.ret (St.mk [V.c (C.p (PV.i IntKind.i64 (-(n + 1) % m)))] [])))))
    (Tr.rq (0 ≤ n ∧ 0 < m) (Tr.done X.ret (St.mk [V.c (C.p (PV.i IntKind.i64 (n % m)))] []))) := by kernel_rfl
section
variable {G : Nat → Option Obj}
theorem ext0_sound {P : Program} : SoundExt P G ext0 := extOf_sound (by simp)
theorem okAround : ModOK Try.prog G 14 mAround := by
  intro args p v hm hp h
  unfold mAround at hm
  split at hm
  · rename_i n m
    injection hm with hm
    injection hm with e1 e2
    subst e1; subst e2
    obtain ⟨hn, hm⟩ := hp
    simp only [inR] at hn
    refine fn_T ext0_sound Try.func14 (by kernel_rfl) rfl (tAround n m) ?_ h
    simp only [holds_bT, holds_rq, holds_done, KF]
    refine ⟨fun h1 => ?_, fun h1 => ?_⟩
    · have h1 : n < 0 := by simpa using h1
      refine ⟨by simp only [inR]; omega, by simp only [inR]; omega, by omega, _, rfl, VLe.of_eq ?_⟩
      unfold aroundZ; rw [if_pos h1]; rfl
    · have h1 : ¬ n < 0 := by simpa using h1
      refine ⟨by omega, _, rfl, VLe.of_eq ?_⟩
      unfold aroundZ; rw [if_neg h1]; rfl
  · cases hm
theorem extA_sound : SoundExt Try.prog G extA := extOf_sound (by simp; exact okAround)
end
end Go.AE
