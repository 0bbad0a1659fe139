/- AE contracts: law29.lives. -/
import Derived.Test.YtkpladkcppeciaaS13
import Derived.Test.YtkpladkcppeciaaLv
import Derived.Test.YtkpladkcppeciaaAe28
namespace Go.AE
open Go.Proofs Go.Proofs.Ytkpladkcppeciaa
set_option linter.unusedVariables false
set_option linter.unusedSimpArgs false
/-- The closed calls of lives. -/
def mLvI : Mod := fun args => some (VLes args [gZ 3 lvE, listV encB 1 lvF], listV encB 1 [false, false, true])
def mLvD : Mod
  | [.c (.p (.i .i64 10)), x, .c (.p (.i .i64 15)), .c (.p (.i .i64 2))] => some (VLe x (listV enc3 3 lvR), dutyV (lvBob, 0))
  | [.c (.p (.i .i64 10)), x, .c (.p (.i .i64 8)), .c (.p (.i .i64 1))] => some (VLe x (listV enc3 3 lvR), dutyV (lvAnn, 0))
  | _ => none
def lvC (e o : Nat) : C := renC [2] (nth C.top [.p (.s ⟨#[97, 110, 110]⟩), .p (.i .i64 0), .p (.i .i64 10), .p (.s ⟨#[98, 111, 98]⟩), .p (.i .i64 4), .p (.i .i64 6)] (e * 3 + o))
noncomputable def extLv : Ext := extH [(24, frzA mLvI), (25, liftM mLvD)]
def mLives : Mod
  | [] => some (True, bV true)
  | _ => none

theorem tL1 (u : Unit) : exTs extLv (takeL 3 (pcs Try.prog Try.f10)) (st0 Try.f10 []) (endG (msk 62 [1, 2]) (resOf Try.prog Try.f10)) = Tr.rq
    ((conVs 0 2 2 [V.a [C.p (PV.i IntKind.i64 3), C.sl 0 2 0 2], V.c (C.sl 1 1 0 3)] ∧
        ∀ (e o : Nat), e < 2 → o < 2 → isF (nth C.top [C.p (PV.i IntKind.i64 0), C.p (PV.i IntKind.i64 1), C.p (PV.i IntKind.i64 1), C.p (PV.i IntKind.i64 2)] (e * 2 + o)) = true) ∧
      (conVs 1 1 3
            [V.a
                [C.p (PV.i IntKind.i64 3),
                  C.p (PV.l 2 2 fun e o => unP (nth C.top [C.p (PV.i IntKind.i64 0), C.p (PV.i IntKind.i64 1), C.p (PV.i IntKind.i64 1), C.p (PV.i IntKind.i64 2)] ((e + 0) * 2 + o)))],
              V.c (C.sl 1 1 0 3)] ∧
          ∀ (e o : Nat), e < 3 → o < 1 → isF (nth C.top [C.p (PV.b true), C.p (PV.b false), C.p (PV.b true)] (e * 1 + o)) = true) ∧
        VLes
          [V.a
              [C.p (PV.i IntKind.i64 3),
                C.p (PV.l 2 2 fun e o => unP (nth C.top [C.p (PV.i IntKind.i64 0), C.p (PV.i IntKind.i64 1), C.p (PV.i IntKind.i64 1), C.p (PV.i IntKind.i64 2)] ((e + 0) * 2 + o)))],
            V.c (C.p (PV.l 1 3 fun e o => unP (nth C.top [C.p (PV.b true), C.p (PV.b false), C.p (PV.b true)] ((e + 0) * 1 + o))))]
          [gZ 3 lvE, listV encB 1 lvF])
    (Tr.done X.normal
      (cst 62 [(1, V.c (C.p (PV.l 1 3 (rowP encB [false, false, true])))), (2, V.c (C.sl 0 3 0 2))] [AO.row 54 3 2 fun e o => renC [2] (nth C.top [C.p (PV.s (ByteArray.mk #[97, 110, 110])), C.p (PV.i IntKind.i64 0), C.p (PV.i IntKind.i64 10), C.p (PV.s (ByteArray.mk #[98, 111, 98])), C.p (PV.i IntKind.i64 4), C.p (PV.i IntKind.i64 6)] (e * 3 + o))])) := by kernel_rfl
theorem tL2 (f : Nat → Nat → PV) : exTs extLv (dropL 3 (pcs Try.prog Try.f10)) (cst 62 [(1, listV encB 1 [false, false, true]), (2, .c (.p (.l 3 2 f)))] []) (endG [] (resOf Try.prog Try.f10)) = Tr.rq (VLe (V.c (C.p (PV.l 3 2 f))) (listV enc3 3 lvR))
    (Tr.rq (VLe (V.c (C.p (PV.l 3 2 f))) (listV enc3 3 lvR))
      (Tr.rq (Int.ofNat 0 ≤ Int.ofNat 0 ∧ 0 < (↑3 : Int))
        (Tr.rq (Int.ofNat 0 ≤ Int.ofNat 1 ∧ 1 < (↑3 : Int)) (Tr.rq (Int.ofNat 0 ≤ Int.ofNat 2 ∧ 2 < (↑3 : Int)) (Tr.done X.ret (St.mk [V.c (C.p (PV.b true))] [])))))) := by kernel_rfl
section
variable {G : Nat → Option Obj}
theorem okLvI : ModOK Try.prog G 24 mLvI := by
  intro args p v hm hp h
  obtain ⟨rfl, rfl⟩ := some_pair hm
  refine FnS.args ?_ hp
  have := okGInhib (G := G) [gZ 3 lvE, listV encB 1 lvF] _ _ rfl ⟨⟨by rw [decE_row]; exact isL_row _ _ _, by decide⟩, by rw [decB_row]; exact isL_row _ _ _, by decide⟩ h
  rw [decE_row, decB_row, lv_inh] at this
  exact this
theorem okLvD : ModOK Try.prog G 25 mLvD := by
  intro args p v hm hp h
  unfold mLvD at hm
  split at hm
  · obtain ⟨rfl, rfl⟩ := some_pair hm
    rename_i x
    refine FnS.args (args' := [iV 10, listV enc3 3 lvR, iV 15, iV 2]) ?_ (.cons (.refl _) (.cons hp (.cons (.refl _) (.cons (.refl _) .nil))))
    have := okOnDuty (G := G) [iV 10, listV enc3 3 lvR, iV 15, iV 2] _ _ rfl ⟨by rw [dec3_row]; exact isL_row _ _ _, by decide⟩ h
    rw [dec3_row, lv_duty1] at this
    exact this
  · obtain ⟨rfl, rfl⟩ := some_pair hm
    rename_i x _
    refine FnS.args (args' := [iV 10, listV enc3 3 lvR, iV 8, iV 1]) ?_ (.cons (.refl _) (.cons hp (.cons (.refl _) (.cons (.refl _) .nil))))
    have := okOnDuty (G := G) [iV 10, listV enc3 3 lvR, iV 8, iV 1] _ _ rfl ⟨by rw [dec3_row]; exact isL_row _ _ _, by decide⟩ h
    rw [dec3_row, lv_duty2] at this
    exact this
  · cases hm
theorem extLv_sound : SoundExt Try.prog G extLv := extH_sound (by simp; exact ⟨frzA_ok okLvI, okLvD.lift⟩)
set_option maxRecDepth 100000 in
theorem okLives : ModOK Try.prog G 10 mLives := by
  intro args p v hm hp h
  unfold mLives at hm
  split at hm; rotate_left; · cases hm
  obtain ⟨rfl, rfl⟩ := some_pair hm
  refine fn_S Try.func10 (by kernel_rfl) rfl ?_ h
  refine ExS.evG extLv_sound 3 (tL1 ()) ?_
  simp only [holds_rq, holds_leaf, kf_normal]
  refine ⟨⟨⟨by simp [conVs, conV, conC, conCs], ?_⟩, ⟨by simp [conVs, conV, conC, conCs], ?_⟩, .cons (VLe.a2 (.refl _) (PLe.l ?_)) (.cons (VLe.p (PLe.l ?_)) .nil)⟩, ⟨?_⟩⟩
  · intro e o he ho
    have he : e = 0 ∨ e = 1 := by omega
    have ho : o = 0 ∨ o = 1 := by omega
    rcases he with rfl | rfl <;> rcases ho with rfl | rfl <;> rfl
  · intro e o he ho
    obtain rfl : o = 0 := by omega
    have he : e = 0 ∨ e = 1 ∨ e = 2 := by omega
    rcases he with rfl | rfl | rfl <;> rfl
  · intro e o he ho
    have he : e = 0 ∨ e = 1 := by have he : e < 2 := he; omega
    have ho : o = 0 ∨ o = 1 := by omega
    rcases he with rfl | rfl <;> rcases ho with rfl | rfl <;> exact PLe.refl _
  · intro e o he ho
    obtain rfl : o = 0 := by omega
    have he : e = 0 ∨ e = 1 ∨ e = 2 := by have he : e < 3 := he; omega
    rcases he with rfl | rfl | rfl <;> exact PLe.refl _
  refine ExS.pre (st2 := cst 62 [(1, listV encB 1 [false, false, true]), (2, .c (.p (.l 3 2 fun e o => unP (lvC (e + 0) o))))] []) ((weak_frz (j := 2) (id := 0) (ty := 54) (sz := 3) (n := 2) (off := 0) (len := 2) (f := lvC) (by kernel_rfl) (by kernel_rfl) (by omega) ?_).trans ((weak_gc (msk 62 [1, 2]) _).trans (weak_of_eq (by kernel_rfl)))) ?_
  · intro e o he ho
    have he : e = 0 ∨ e = 1 := by omega
    have ho : o = 0 ∨ o = 1 ∨ o = 2 := by omega
    rcases he with rfl | rfl <;> rcases ho with rfl | rfl | rfl <;> rfl
  have hle : VLe (.c (.p (.l 3 2 fun e o => unP (lvC (e + 0) o)))) (listV enc3 3 lvR) := by
    refine VLe.p (PLe.l fun e o he ho => ?_)
    have he : e = 0 ∨ e = 1 := by have he : e < 2 := he; omega
    have ho : o = 0 ∨ o = 1 ∨ o = 2 := by omega
    rcases he with rfl | rfl <;> rcases ho with rfl | rfl | rfl <;> exact PLe.refl _
  refine ExS.evH extLv_sound (tL2 (fun e o => unP (lvC (e + 0) o))) ?_
  simp only [holds_bT, holds_rq, holds_leaf, kf_ret']
  exact ⟨hle, hle, ⟨Int.le_refl _, by decide⟩, ⟨by decide, by decide⟩, ⟨by decide, by decide⟩, ⟨VLe.refl _⟩⟩
end
end Go.AE
