/- AE contracts: ref05.Name. -/
import Derived.Test.YtaofgmfalldcoaaR1
import Derived.Test.YtaofgmfalldcoaaAeC
import Derived.Test.YtaofgmfalldcoaaLblN
namespace Go.AE
set_option linter.unusedVariables false
set_option linter.unusedSimpArgs false
open Go.Proofs Go.Proofs.Ytaofgmfalldcoaa

def mName : Mod
  | [.c (.p (.s s))] => some (True, bV (nameB s))
  | _ => none
def extL : Ext := extOf [(37, mLetter)]

theorem tName1 (s : ByteArray) : exTs ext0 (takeL 4 (pcs Try.prog Try.f33)) (st0 Try.f33 [sV s]) (endF [] (msk 48 [0, 3]) (resOf Try.prog Try.f33)) = bT (decide ((↑s.size : Int) < 1)) (Tr.done X.ret (St.mk [V.c (C.p (PV.b false))] []))
    (bT (decide (16 < (↑s.size : Int))) (Tr.done X.ret (St.mk [V.c (C.p (PV.b false))] []))
      (Tr.done X.normal
        (cst 48 [(0, V.c (C.p (PV.s s))), (3, V.c (C.p (PV.i IntKind.i64 0)))] []))) := by kernel_rfl
theorem tName2 (s : ByteArray) (i : Int) : exTs extL (lpB (pcs Try.prog Try.f33) 4) (cst 48 [(0, sV s), (3, iV i)] []) (endF [] (msk 48 [0, 3]) (resOf Try.prog Try.f33)) = bT (decide (i < (↑s.size : Int)))
    (Tr.rq (0 ≤ i ∧ i < (↑s.size : Int))
      (bT (decide (48 ≤ byteAt s i.toNat))
        (Tr.rq (0 ≤ i ∧ i < (↑s.size : Int))
          (bT (decide (byteAt s i.toNat ≤ 57))
            (Tr.rq (0 ≤ i ∧ i < (↑s.size : Int))
              (Tr.rq True
                (bT (!letterB (byteAt s i.toNat))
                  (bT (i == 0) (Tr.done X.ret (St.mk [V.c (C.p (PV.b false))] []))
                    (Tr.rq (inR IntKind.i64 (i + 1))
                      (Tr.done X.normal
                        (cst 48 [(0, V.c (C.p (PV.s s))), (3, V.c (C.p (PV.i IntKind.i64 (i + 1))))] []))))
                  (Tr.rq (inR IntKind.i64 (i + 1))
                    (Tr.done X.normal
                      (cst 48 [(0, V.c (C.p (PV.s s))), (3, V.c (C.p (PV.i IntKind.i64 (i + 1))))] []))))))
            (Tr.rq (0 ≤ i ∧ i < (↑s.size : Int))
              (Tr.rq (0 ≤ i ∧ i < (↑s.size : Int))
                (Tr.rq True
                  (bT (!letterB (byteAt s i.toNat))
                    (bT (i == 0) (Tr.done X.ret (St.mk [V.c (C.p (PV.b false))] []))
                      (bT (!byteAt s i.toNat == 95) (Tr.done X.ret (St.mk [V.c (C.p (PV.b false))] []))
                        (Tr.rq (inR IntKind.i64 (i + 1))
                          (Tr.done X.normal
                            (cst 48 [(0, V.c (C.p (PV.s s))), (3, V.c (C.p (PV.i IntKind.i64 (i + 1))))] [])))))
                    (Tr.rq (inR IntKind.i64 (i + 1))
                      (Tr.done X.normal
                        (cst 48 [(0, V.c (C.p (PV.s s))), (3, V.c (C.p (PV.i IntKind.i64 (i + 1))))] [])))))))))
        (Tr.rq (0 ≤ i ∧ i < (↑s.size : Int))
          (Tr.rq (0 ≤ i ∧ i < (↑s.size : Int))
            (Tr.rq True
              (bT (!letterB (byteAt s i.toNat))
                (bT (i == 0) (Tr.done X.ret (St.mk [V.c (C.p (PV.b false))] []))
                  (bT (!byteAt s i.toNat == 95) (Tr.done X.ret (St.mk [V.c (C.p (PV.b false))] []))
                    (Tr.rq (inR IntKind.i64 (i + 1))
                      (Tr.done X.normal
                        (cst 48 [(0, V.c (C.p (PV.s s))), (3, V.c (C.p (PV.i IntKind.i64 (i + 1))))] [])))))
                (Tr.rq (inR IntKind.i64 (i + 1))
                  (Tr.done X.normal
                    (cst 48 [(0, V.c (C.p (PV.s s))), (3, V.c (C.p (PV.i IntKind.i64 (i + 1))))] [])))))))))
    (Tr.done (X.exit 0)
      (cst 48 [(0, V.c (C.p (PV.s s))), (3, V.c (C.p (PV.i IntKind.i64 i)))] [])) := by kernel_rfl
theorem tName3 (s : ByteArray) (i : Int) : exTs ext0 (dropL 5 (pcs Try.prog Try.f33)) (cst 48 [(0, sV s), (3, iV i)] []) (endF [] [] (resOf Try.prog Try.f33)) = Tr.done X.ret (St.mk [V.c (C.p (PV.b true))] []) := by kernel_rfl
theorem byteAt_bt (s : ByteArray) (k : Nat) : byteAt s k = PlainAid.bt s k := by
  unfold byteAt PlainAid.bt
  split
  · rename_i h
    have h' : k < s.data.toList.length := by simpa using h
    rw [List.getD_eq_getElem?_getD, List.getElem?_eq_getElem h']
    simp [ByteArray.getElem_eq_getElem_data]
  · rename_i h
    have h' : s.data.toList.length ≤ k := by simpa using h
    rw [List.getD_eq_getElem?_getD, List.getElem?_eq_none h']
    rfl
section
variable {G : Nat → Option Obj}
theorem extL_sound : SoundExt Try.prog G extL := extOf_sound (by simp; exact okLetter)
theorem okc_iff (k : Nat) (c : Int) : okc k c = true ↔ (97 ≤ c ∧ c ≤ 122) ∨ (k ≠ 0 ∧ (c = 95 ∨ (48 ≤ c ∧ c ≤ 57))) := by simp [okc]
theorem letterB_iff (c : Int) : letterB c = true ↔ 97 ≤ c ∧ c ≤ 122 := by simp [letterB]
set_option maxRecDepth 100000 in
theorem okName : ModOK Try.prog G 33 mName := by
  intro args p v hm hp h
  unfold mName at hm
  split at hm
  · rename_i s
    injection hm with hm
    injection hm with e1 e2
    subst e1; subst e2
    refine fn_S Try.func33 (by kernel_rfl) rfl ?_ h
    refine ExS.ev ext0_sound 4 [] (msk 48 [0, 3]) rfl (tName1 s) ?_
    simp only [holds_bT, holds_done, kf_ret', kf_normal]
    refine ⟨fun h1 => VLe.of_eq ?_, fun h1 => ⟨fun h2 => VLe.of_eq ?_, fun h2 => ?_⟩⟩
    · have h1 : ((s.size : Nat) : Int) < 1 := by simpa using h1
      have : nameB s = false := by unfold nameB; rw [decide_eq_false (by omega)]; rfl
      rw [this]; rfl
    · have h2 : (16 : Int) < s.size := by simpa using h2
      have : nameB s = false := by unfold nameB; rw [decide_eq_false (show ¬ s.size ≤ 16 by omega), Bool.and_false]; rfl
      rw [this]; rfl
    · have h1 : ¬ ((s.size : Nat) : Int) < 1 := by simpa using h1
      have h2 : ¬ (16 : Int) < s.size := by simpa using h2
      refine ExS.loop (l := dropL 4 (pcs Try.prog Try.f33)) (b := inr (inr (nth .skip (pcs Try.prog Try.f33) 4))) (r := dropL 5 (pcs Try.prog Try.f33)) (id := 0) (by kernel_rfl)
        (fun i : Int => cst 48 [(0, sV s), (3, iV i)] []) (fun i => 0 ≤ i ∧ i ≤ s.size ∧ okUp (PlainAid.bt s) i.toNat = true) (fun i => (s.size - i).toNat) 0 ⟨by omega, by omega, rfl⟩ (weak_of_eq (by kernel_rfl)) ?_
      rintro i ⟨i0, i1, hi⟩
      refine ExS.evA extL_sound [] (msk 48 [0, 3]) rfl (tName2 s i) ?_
      have hb := byteAt_bt s i.toNat
      generalize byteAt s i.toNat = c at hb
      have hsucc : (i + 1).toNat = i.toNat + 1 := by omega
      have bad : i < s.size → ¬ ((97 ≤ c ∧ c ≤ 122) ∨ (i.toNat ≠ 0 ∧ (c = 95 ∨ (48 ≤ c ∧ c ≤ 57)))) → VLe (V.c (C.p (PV.b false))) (bV (nameB s)) := fun hlt hc => by
        rw [nameB_bad (k := i.toNat) (by omega) (by rw [← hb, ← Bool.not_eq_true, okc_iff]; exact hc)]; exact VLe.refl _
      have good : i < s.size → ((97 ≤ c ∧ c ≤ 122) ∨ (i.toNat ≠ 0 ∧ (c = 95 ∨ (48 ≤ c ∧ c ≤ 57)))) → ∃ s' : Int, (0 ≤ s' ∧ s' ≤ s.size ∧ okUp (PlainAid.bt s) s'.toNat = true) ∧ (s.size - s').toNat < (s.size - i).toNat ∧ WeakS G (cst 48 [(0, V.c (C.p (PV.s s))), (3, V.c (C.p (PV.i .i64 (i + 1))))] []) (cst 48 [(0, sV s), (3, iV s')] []) := fun hlt hc =>
        ⟨i + 1, ⟨by omega, by omega, by rw [hsucc, okUp_succ, hi, ← hb, (okc_iff _ _).2 hc]; rfl⟩, by omega, weak_of_eq (by kernel_rfl)⟩
      have after : ¬ i < s.size → ExS Try.prog G (resOf Try.prog Try.f33) (bV (nameB s)) (dropL 5 (pcs Try.prog Try.f33)) (cst 48 [(0, V.c (C.p (PV.s s))), (3, V.c (C.p (PV.i .i64 i)))] []) (fun _ _ => False) := fun hlt => by
        refine ExS.evA ext0_sound [] [] rfl (tName3 s i) ?_
        have : nameB s = true := by
          obtain rfl : i = s.size := by omega
          unfold nameB
          rw [decide_eq_true (by omega), decide_eq_true (show s.size ≤ 16 by omega)]
          simpa using hi
        simp only [holds_done, kf_ret']
        rw [this]
        exact VLe.refl _
      simp only [holds_bT, holds_rq, holds_leaf, kf_ret', kf_normal, kf_exit, decide_eq_true_eq, decide_eq_false_iff_not, Bool.not_eq_true', Bool.not_eq_false', beq_iff_eq, beq_eq_false_iff_ne, letterB_iff, ← Bool.not_eq_true, inR, if_true]
      repeat' (first | apply And.intro | intro _)
      all_goals first | trivial | (clear bad good after; omega) | exact ⟨after ‹_›⟩ | exact ⟨bad ‹_› (by clear bad good after; omega)⟩ | exact ⟨good ‹_› (by clear bad good after; omega)⟩
  · cases hm
end
end Go.AE
