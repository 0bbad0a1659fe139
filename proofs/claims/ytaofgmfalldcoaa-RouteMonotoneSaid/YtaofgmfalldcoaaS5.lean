/- AE contracts: ref29.Valid, ref29.Inhibited. -/
import Derived.Test.YtaofgmfalldcoaaS4
namespace Go.AE
set_option linter.unusedSimpArgs false
open Go.Proofs Go.Proofs.Ytaofgmfalldcoaa
set_option linter.unusedVariables false

def gZ (N : Int) (E : List Ed) : V := .a [.p (.i .i64 N), .p (listP encE 2 E)]
noncomputable def mGValidR : Mod
  | [.a [.p (.i .i64 N), .p (.l 2 n f)]] => some (IsL encE 2 (decL decE n f) n f ∧ n ≤ 1000000, iV (validZ N (decL decE n f)))
  | _ => none
noncomputable def extRR : Ext := extOf [(21, mReachedR)]

theorem tV1 (N : Int) (E : List Ed) : exTs ext0 (takeL 4 (pcs Try.prog Try.f14)) (st0 Try.f14 [gZ N E]) (endG (msk 88 [1, 3]) (resOf Try.prog Try.f14)) = bT (decide (N < 0)) (Tr.done X.ret (St.mk [V.c (C.p (PV.i IntKind.i64 4))] []))
    (bT (decide (200 < N)) (Tr.done X.ret (St.mk [V.c (C.p (PV.i IntKind.i64 4))] []))
      (Tr.done X.normal
        (cst 88 [(1, V.c (C.ptr 0 0)), (3, V.c (C.p (PV.i IntKind.i64 0)))] [AO.cells 25 [C.p (PV.i IntKind.i64 N), C.p (PV.l 2 E.length (rowP encE E))]]))) := by kernel_rfl
theorem tV2 (N : Int) (E : List Ed) (i : Nat) : exTs ext0 (takeL 2 (lpB (pcs Try.prog Try.f14) 4)) (cst 88 [(1, .c (.ptr 0 0)), (3, iV (i : Nat))] [.cells 25 [.p (.i .i64 N), .p (listP encE 2 E)]]) (endG (msk 88 [1, 3]) (resOf Try.prog Try.f14)) = bT (decide ((↑i : Int) < (↑E.length : Int)))
    (Tr.done X.normal
      (cst 88 [(1, V.c (C.ptr 0 0)), (3, V.c (C.p (PV.i IntKind.i64 (↑i : Int))))] [AO.cells 25 [C.p (PV.i IntKind.i64 N), C.p (PV.l 2 E.length (rowP encE E))]]))
    (Tr.done (X.exit 0)
      (cst 88 [(1, V.c (C.ptr 0 0)), (3, V.c (C.p (PV.i IntKind.i64 (↑i : Int))))] [AO.cells 25 [C.p (PV.i IntKind.i64 N), C.p (PV.l 2 E.length (rowP encE E))]])) := by kernel_rfl
theorem tV3 (N : Int) (E : List Ed) (i : Nat) : exTs ext0 (takeL 5 (flat (inr (nth .skip (lpB (pcs Try.prog Try.f14) 4) 2)))) (cst 88 [(1, .c (.ptr 0 0)), (3, iV (i : Nat))] [.cells 25 [.p (.i .i64 N), .p (listP encE 2 E)]]) (endG (msk 88 [1, 3, 6]) (resOf Try.prog Try.f14)) = Tr.rq (0 ≤ (↑i : Int) ∧ (↑i : Int) < (↑E.length : Int))
    (Tr.rq (0 ≤ (↑i : Int) ∧ (↑i : Int) < (↑E.length : Int))
      (bT (decide ((E.getD (↑i : Int).toNat default).fst < 0)) (Tr.done X.ret (St.mk [V.c (C.p (PV.i IntKind.i64 1))] []))
        (bT (decide (N ≤ (E.getD (↑i : Int).toNat default).fst)) (Tr.done X.ret (St.mk [V.c (C.p (PV.i IntKind.i64 1))] []))
          (bT (decide ((E.getD (↑i : Int).toNat default).snd < 0)) (Tr.done X.ret (St.mk [V.c (C.p (PV.i IntKind.i64 1))] []))
            (bT (decide (N ≤ (E.getD (↑i : Int).toNat default).snd)) (Tr.done X.ret (St.mk [V.c (C.p (PV.i IntKind.i64 1))] []))
              (bT ((E.getD (↑i : Int).toNat default).fst == (E.getD (↑i : Int).toNat default).snd) (Tr.done X.ret (St.mk [V.c (C.p (PV.i IntKind.i64 1))] []))
                (Tr.done X.normal
                  (cst 88 [(1, V.c (C.ptr 0 0)), (3, V.c (C.p (PV.i IntKind.i64 (↑i : Int)))), (6, V.c (C.p (PV.i IntKind.i64 0)))] [AO.cells 25 [C.p (PV.i IntKind.i64 N), C.p (PV.l 2 E.length (rowP encE E))]])))))))) := by kernel_rfl
theorem tV4 (N : Int) (E : List Ed) (i k : Nat) : exTs ext0 (lpB (flat (inr (nth .skip (lpB (pcs Try.prog Try.f14) 4) 2))) 5) (cst 88 [(1, .c (.ptr 0 0)), (3, iV (i : Nat)), (6, iV (k : Nat))] [.cells 25 [.p (.i .i64 N), .p (listP encE 2 E)]]) (endG (msk 88 [1, 3, 6]) (resOf Try.prog Try.f14)) = bT (decide ((↑k : Int) < (↑i : Int)))
    (Tr.rq (0 ≤ (↑k : Int) ∧ (↑k : Int) < (↑E.length : Int))
      (Tr.rq (0 ≤ (↑i : Int) ∧ (↑i : Int) < (↑E.length : Int))
        (bT
          (match false with
          | true => !((E.getD (↑k : Int).toNat default).fst == (E.getD (↑i : Int).toNat default).fst && ((E.getD (↑k : Int).toNat default).snd == (E.getD (↑i : Int).toNat default).snd && true))
          | false => (E.getD (↑k : Int).toNat default).fst == (E.getD (↑i : Int).toNat default).fst && ((E.getD (↑k : Int).toNat default).snd == (E.getD (↑i : Int).toNat default).snd && true))
          (Tr.done X.ret (St.mk [V.c (C.p (PV.i IntKind.i64 10))] []))
          (Tr.rq (inR IntKind.i64 ((↑k : Int) + 1))
            (Tr.done X.normal
              (cst 88 [(1, V.c (C.ptr 0 0)), (3, V.c (C.p (PV.i IntKind.i64 (↑i : Int)))), (6, V.c (C.p (PV.i IntKind.i64 ((↑k : Int) + 1))))] [AO.cells 25 [C.p (PV.i IntKind.i64 N), C.p (PV.l 2 E.length (rowP encE E))]]))))))
    (Tr.done (X.exit 2)
      (cst 88 [(1, V.c (C.ptr 0 0)), (3, V.c (C.p (PV.i IntKind.i64 (↑i : Int)))), (6, V.c (C.p (PV.i IntKind.i64 (↑k : Int))))] [AO.cells 25 [C.p (PV.i IntKind.i64 N), C.p (PV.l 2 E.length (rowP encE E))]])) := by kernel_rfl
theorem tV5 (N : Int) (E : List Ed) (i k : Nat) : exTs ext0 (dropL 3 (lpB (pcs Try.prog Try.f14) 4)) (cst 88 [(1, .c (.ptr 0 0)), (3, iV (i : Nat)), (6, iV (k : Nat))] [.cells 25 [.p (.i .i64 N), .p (listP encE 2 E)]]) (endG (msk 88 [1, 3]) (resOf Try.prog Try.f14)) = Tr.rq (inR IntKind.i64 ((↑i : Int) + 1))
    (Tr.done X.normal
      (cst 88 [(1, V.c (C.ptr 0 0)), (3, V.c (C.p (PV.i IntKind.i64 ((↑i : Int) + 1))))] [AO.cells 25 [C.p (PV.i IntKind.i64 N), C.p (PV.l 2 E.length (rowP encE E))]])) := by kernel_rfl
theorem tV6 (N : Int) (E : List Ed) (i : Nat) : exTs ext0 (takeL 1 (dropL 5 (pcs Try.prog Try.f14))) (cst 88 [(1, .c (.ptr 0 0)), (3, iV (i : Nat))] [.cells 25 [.p (.i .i64 N), .p (listP encE 2 E)]]) (endG (msk 88 [1, 7]) (resOf Try.prog Try.f14)) = Tr.done X.normal
    (cst 88 [(1, V.c (C.ptr 0 0)), (7, V.c (C.p (PV.i IntKind.i64 0)))] [AO.cells 25 [C.p (PV.i IntKind.i64 N), C.p (PV.l 2 E.length (rowP encE E))]]) := by kernel_rfl
theorem tV7 (N : Int) (E : List Ed) (i : Nat) : exTs extRR (lpB (pcs Try.prog Try.f14) 6) (cst 88 [(1, .c (.ptr 0 0)), (7, iV (i : Nat))] [.cells 25 [.p (.i .i64 N), .p (listP encE 2 E)]]) (endG (msk 88 [1, 7]) (resOf Try.prog Try.f14)) = bT (decide ((↑i : Int) < N))
    (Tr.rq ((0 ≤ N ∧ N ≤ 1000000) ∧ IsL encE 2 (decL decE E.length (rowP encE E)) E.length (rowP encE E) ∧ E.length ≤ 1000000 ∧ InN N.toNat (decL decE E.length (rowP encE E)))
      (Tr.rq (0 ≤ (↑i : Int) ∧ (↑i : Int) < (↑(rc1 N.toNat (decL decE E.length (rowP encE E)) (↑i : Int)).length : Int))
        (bT ((rc1 N.toNat (decL decE E.length (rowP encE E)) (↑i : Int)).getD (↑i : Int).toNat default) (Tr.done X.ret (St.mk [V.c (C.p (PV.i IntKind.i64 13))] []))
          (Tr.rq (inR IntKind.i64 ((↑i : Int) + 1))
            (Tr.done X.normal
              (cst 88 [(1, V.c (C.ptr 0 0)), (7, V.c (C.p (PV.i IntKind.i64 ((↑i : Int) + 1))))] [AO.cells 25 [C.p (PV.i IntKind.i64 N), C.p (PV.l 2 E.length (rowP encE E))]]))))))
    (Tr.done (X.exit 4)
      (cst 88 [(1, V.c (C.ptr 0 0)), (7, V.c (C.p (PV.i IntKind.i64 (↑i : Int))))] [AO.cells 25 [C.p (PV.i IntKind.i64 N), C.p (PV.l 2 E.length (rowP encE E))]])) := by kernel_rfl
theorem tV8 (N : Int) (E : List Ed) (i : Nat) : exTs ext0 (dropL 7 (pcs Try.prog Try.f14)) (cst 88 [(1, .c (.ptr 0 0)), (7, iV (i : Nat))] [.cells 25 [.p (.i .i64 N), .p (listP encE 2 E)]]) (endG [] (resOf Try.prog Try.f14)) = Tr.done X.ret (St.mk [V.c (C.p (PV.i IntKind.i64 0))] []) := by kernel_rfl
section
variable {G : Nat → Option Obj}
theorem extRR_sound : SoundExt Try.prog G extRR := extOf_sound (by simp; exact okReachedR)
set_option maxRecDepth 100000 in
theorem okGValidR : ModOK Try.prog G 14 mGValidR := by
  intro args p v hm hp h
  unfold mGValidR at hm
  split at hm; rotate_left; · cases hm
  rename_i N n0 f
  obtain ⟨rfl, rfl⟩ := some_pair hm
  obtain ⟨hL, hn⟩ := hp
  have hlen : (decL decE n0 f).length ≤ 1000000 := by rw [hL.1]; exact hn
  generalize decL decE n0 f = E at hL hlen
  refine FnS.args (args' := [gZ N E]) ?_ (.cons (VLe.a2 (.refl _) (PLe.of_isL hL)) .nil)
  clear hL
  refine fn_S Try.func14 (by kernel_rfl) rfl ?_ h
  refine ExS.evG ext0_sound 4 (tV1 N E) ?_
  simp only [holds_bT, holds_rq, holds_leaf, kf_normal, kf_ret', decide_eq_true_eq, decide_eq_false_iff_not]
  have err : ∀ c : Int, validZ N E = c → VLe (V.c (C.p (PV.i .i64 c))) (iV (validZ N E)) := fun c h => VLe.of_eq (by rw [h]; rfl)
  have big : (N < 0 ∨ 200 < N) → validZ N E = 4 := fun h => by unfold validZ; rw [if_pos h]
  refine ⟨fun c1 => ⟨err 4 (big (.inl c1))⟩, fun c1 => ⟨fun c2 => ⟨err 4 (big (.inr c2))⟩, fun c2 => ⟨?_⟩⟩⟩
  have hN : ¬ (N < 0 ∨ 200 < N) := by omega
  have ser : ∀ c : Int, c ≠ 0 → scanE N [] E = c → validZ N E = c := fun c h1 h2 => by unfold validZ; rw [if_neg hN, if_pos (by rw [h2]; exact h1), h2]
  refine ExS.loop' (l := dropL 4 (pcs Try.prog Try.f14)) (b := inr (inr (nth .skip (pcs Try.prog Try.f14) 4))) (r := dropL 5 (pcs Try.prog Try.f14)) (id := 0) (by kernel_rfl) (σ := Nat)
    (fun i => cst 88 [(1, .c (.ptr 0 0)), (3, iV (i : Nat))] [.cells 25 [.p (.i .i64 N), .p (listP encE 2 E)]]) (fun i => i ≤ E.length ∧ scanE N (E.take i) (E.drop i) = scanE N [] E) (fun i => E.length - i) 0 ⟨Nat.zero_le _, rfl⟩ (weak_of_eq (by kernel_rfl)) ?_
  rintro i ⟨hi, hsc⟩ Q1 q1n q1e -
  refine ExS.evG ext0_sound 2 (tV2 N E i) ?_
  simp only [holds_bT, holds_leaf, kf_normal, kf_exit, decide_eq_true_eq, decide_eq_false_iff_not]
  refine ⟨fun h1 => ⟨?_⟩, fun h1 => ⟨q1e _ ?_⟩⟩
  · refine ExS.blk' (l := dropL 2 (lpB (pcs Try.prog Try.f14) 4)) (id := 1) (a := inr (nth .skip (lpB (pcs Try.prog Try.f14) 4) 2)) (r := dropL 3 (lpB (pcs Try.prog Try.f14) 4)) (by kernel_rfl) ?_
    intro Q2 q2n _ _
    refine ExS.evG ext0_sound 5 (tV3 N E i) ?_
    have hst := scan_step (N := N) (show i < E.length by omega)
    rw [hsc] at hst
    generalize hx : E.getD i default = x at hst
    have bad : badE N x = true → VLe (V.c (C.p (PV.i .i64 1))) (iV (validZ N E)) := fun hb => err 1 (ser 1 (by decide) (by rw [hst, if_pos hb]))
    simp only [holds_bT, holds_rq, holds_leaf, kf_normal, kf_ret', decide_eq_true_eq, decide_eq_false_iff_not, beq_iff_eq, beq_eq_false_iff_ne, show (↑i : Int).toNat = i from rfl, hx]
    refine ⟨by omega, by omega, fun c1 => ⟨bad (by simp [badE, c1])⟩, fun c1 => ⟨fun c2 => ⟨bad (by simp [badE, c2])⟩, fun c2 => ⟨fun c3 => ⟨bad (by simp [badE, c3])⟩, fun c3 => ⟨fun c4 => ⟨bad (by simp [badE, c4])⟩, fun c4 => ⟨fun c5 => ⟨bad (by simp [badE, c5])⟩, fun c5 => ⟨?_⟩⟩⟩⟩⟩⟩
    have hb : badE N x = false := by simp [badE]; omega
    rw [if_neg (by rw [hb]; decide)] at hst
    refine ExS.loop' (l := dropL 5 (flat (inr (nth .skip (lpB (pcs Try.prog Try.f14) 4) 2)))) (b := inr (inr (nth .skip (flat (inr (nth .skip (lpB (pcs Try.prog Try.f14) 4) 2))) 5))) (r := dropL 6 (flat (inr (nth .skip (lpB (pcs Try.prog Try.f14) 4) 2)))) (id := 2) (by kernel_rfl) (σ := Nat)
      (fun k => cst 88 [(1, .c (.ptr 0 0)), (3, iV (i : Nat)), (6, iV (k : Nat))] [.cells 25 [.p (.i .i64 N), .p (listP encE 2 E)]]) (fun k => k ≤ i ∧ ∀ k', k' < k → E.getD k' default ≠ x) (fun k => i - k) 0 ⟨Nat.zero_le _, fun k hk => absurd hk (Nat.not_lt_zero k)⟩ (weak_of_eq (by kernel_rfl)) ?_
    rintro k ⟨hk, hno⟩ Q3 q3n q3e -
    refine ExS.evH ext0_sound (tV4 N E i k) ?_
    simp only [holds_bT, holds_rq, holds_leaf, kf_normal, kf_exit, kf_ret', decide_eq_true_eq, decide_eq_false_iff_not, Bool.and_eq_true, Bool.and_eq_false_iff, beq_iff_eq, beq_eq_false_iff_ne, inR, show (↑i : Int).toNat = i from rfl, show (↑k : Int).toNat = k from rfl, Bool.and_true, hx]
    refine ⟨fun h2 => ⟨by omega, by omega, fun c6 => ⟨?_⟩, fun c6 => ⟨by omega, ⟨q3n (k + 1) _ ⟨by omega, fun k' hk' => ?_⟩ (by omega) (weak_of_eq (by kernel_rfl))⟩⟩⟩, fun h2 => ⟨q3e _ ?_⟩⟩
    · have he : E.getD k default = x := Prod.ext c6.1 c6.2
      have hm : x ∈ E.take i := by
        rw [← he, List.getD_eq_getElem?_getD, List.getElem?_eq_getElem (show k < E.length by omega)]
        exact List.mem_take_iff_getElem.2 ⟨k, by omega, rfl⟩
      exact err 10 (ser 10 (by decide) (by rw [hst, if_pos hm]))
    · by_cases e : k' = k
      · subst e
        intro he
        rw [he] at c6
        rcases c6 with c6 | c6 <;> exact c6 rfl
      · exact hno k' (by omega)
    · obtain rfl : k = i := by omega
      have hm : x ∉ E.take k := fun hm => by
        obtain ⟨j, hj, e⟩ := List.mem_take_iff_getElem.1 hm
        refine hno j (by omega) ?_
        rw [List.getD_eq_getElem?_getD, List.getElem?_eq_getElem (by omega)]
        exact e
      rw [if_neg hm] at hst
      refine ⟨_, WeakS.refl _, q2n _ ?_⟩
      refine ExS.evH ext0_sound (tV5 N E k k) ?_
      simp only [holds_rq, holds_leaf, kf_normal, inR]
      exact ⟨by omega, ⟨q1n (k + 1) _ ⟨by omega, hst.symm⟩ (by omega) (weak_of_eq (by kernel_rfl))⟩⟩
  · obtain rfl : i = E.length := by omega
    have hs0 : scanE N [] E = 0 := by rw [← hsc, List.drop_length]; rfl
    have hE := scan_in hs0
    have hcyc : ∀ k : Nat, (k : Int) < N → Path E k k → validZ N E = 13 := fun k h1 h2 => by unfold validZ; rw [if_neg hN, if_neg (by simp [hs0]), if_pos ⟨k, h1, h2⟩]
    refine ExS.evG ext0_sound 1 (tV6 N E E.length) ?_
    simp only [holds_leaf, kf_normal]
    refine ⟨?_⟩
    refine ExS.loop' (l := dropL 6 (pcs Try.prog Try.f14)) (b := inr (inr (nth .skip (pcs Try.prog Try.f14) 6))) (r := dropL 7 (pcs Try.prog Try.f14)) (id := 4) (by kernel_rfl) (σ := Nat)
      (fun i => cst 88 [(1, .c (.ptr 0 0)), (7, iV (i : Nat))] [.cells 25 [.p (.i .i64 N), .p (listP encE 2 E)]]) (fun i => (i : Int) ≤ N ∧ ∀ k : Nat, k < i → ¬ Path E k k) (fun i => N.toNat - i) 0 ⟨by simp; omega, fun k hk => absurd hk (Nat.not_lt_zero k)⟩ (weak_of_eq (by kernel_rfl)) ?_
    rintro i ⟨hi, hno⟩ Q1 q1n q1e -
    refine ExS.evH extRR_sound (tV7 N E i) ?_
    have hat : (i : Int) < N → ((rc1 N.toNat E i).getD i false = true ↔ Path E i i) := fun h => rc1_at (by omega)
    simp only [holds_bT, holds_rq, holds_leaf, kf_normal, kf_exit, kf_ret', decide_eq_true_eq, decide_eq_false_iff_not, inR, decE_row, rc1_length, show (↑i : Int).toNat = i from rfl, show (default : Bool) = false from rfl]
    refine ⟨fun h1 => ⟨⟨⟨by omega, by omega⟩, isL_row _ _ _, hlen, hE⟩, ⟨by omega, by omega⟩, fun c1 => ⟨err 13 (hcyc i h1 ((hat h1).1 c1))⟩, fun c1 => ⟨by omega, ⟨q1n (i + 1) _ ⟨by omega, fun k hk => ?_⟩ (by omega) (weak_of_eq (by kernel_rfl))⟩⟩⟩, fun h1 => ⟨q1e _ ?_⟩⟩
    · by_cases e : k = i
      · subst e
        intro hp
        rw [(hat h1).2 hp] at c1; cases c1
      · exact hno k (by omega)
    · refine ExS.evH ext0_sound (tV8 N E i) ?_
      simp only [holds_leaf, kf_ret']
      refine ⟨err 0 ?_⟩
      unfold validZ
      rw [if_neg hN, if_neg (by simp [hs0]), if_neg]
      rintro ⟨k, h1, h2⟩
      exact hno k (by omega) h2
end
end Go.AE
