/- AE contracts: labels.Name, route.ValidRota, ref29.ValidRota. -/
import Derived.Test.YtkpladkcppeciaaS10
import Derived.Test.YtkpladkcppeciaaRo
namespace Go.AE
open Go.Proofs Go.Proofs.Ytkpladkcppeciaa
set_option linter.unusedVariables false
set_option linter.unusedSimpArgs false

def mLName : Mod
  | [.c (.p (.s s))] => some (True, bV (nameB s))
  | _ => none
noncomputable def mRota : Mod
  | [.c (.p (.i .i64 P)), .c (.p (.l 3 n f))] => some (IsL enc3 3 (decL dec3 n f) n f ∧ n ≤ 1000000, iV (rotaZ P (decL dec3 n f)))
  | _ => none
def extLN : Ext := extOf [(41, mLName)]
theorem tVa (P : Int) (L : List Sh) : exTs ext0 (takeL 6 (pcs Try.prog Try.f34)) (st0 Try.f34 [iV P, listV enc3 3 L]) (endG (msk 68 [0, 1, 19, 20, 21]) (resOf Try.prog Try.f34)) = bT (decide (P < 1)) (Tr.done X.ret (St.mk [V.c (C.p (PV.i IntKind.i64 5))] []))
    (bT (decide (1048576 < P)) (Tr.done X.ret (St.mk [V.c (C.p (PV.i IntKind.i64 5))] []))
      (bT (decide (200 < (↑L.length : Int))) (Tr.done X.ret (St.mk [V.c (C.p (PV.i IntKind.i64 4))] []))
        (Tr.done X.normal
          (cst 68 [(0, V.c (C.p (PV.i IntKind.i64 P))), (1, V.c (C.p (PV.l 3 L.length (rowP enc3 L)))), (19, V.c (C.p (PV.l 3 L.length (rowP enc3 L)))), (20, V.c (C.p (PV.i IntKind.i64 (↑L.length : Int)))), (21, V.c (C.p (PV.i IntKind.i64 0)))] [])))) := by kernel_rfl
theorem tVb (P : Int) (L : List Sh) (i : Nat) : exTs extLN (lpB (pcs Try.prog Try.f34) 6) (cst 68 [(0, iV P), (1, listV enc3 3 L), (19, listV enc3 3 L), (20, iV (L.length : Nat)), (21, iV (i : Nat))] []) (endG (msk 68 [0, 1, 19, 20, 21]) (resOf Try.prog Try.f34)) = bT (decide ((↑i : Int) < (↑L.length : Int)))
    (Tr.rq (0 ≤ (↑i : Int) ∧ (↑i : Int) < (↑L.length : Int))
      (Tr.rq True
        (bT (!nameB (L.getD (↑i : Int).toNat default).fst) (Tr.done X.ret (St.mk [V.c (C.p (PV.i IntKind.i64 8))] []))
          (bT (decide ((L.getD (↑i : Int).toNat default).snd.fst < 0)) (Tr.done X.ret (St.mk [V.c (C.p (PV.i IntKind.i64 5))] []))
            (bT (decide ((L.getD (↑i : Int).toNat default).snd.snd ≤ (L.getD (↑i : Int).toNat default).snd.fst)) (Tr.done X.ret (St.mk [V.c (C.p (PV.i IntKind.i64 5))] []))
              (bT (decide (P < (L.getD (↑i : Int).toNat default).snd.snd)) (Tr.done X.ret (St.mk [V.c (C.p (PV.i IntKind.i64 5))] []))
                (Tr.rq (inR IntKind.i64 ((↑i : Int) + 1))
                  (Tr.done X.normal
                    (cst 68 [(0, V.c (C.p (PV.i IntKind.i64 P))), (1, V.c (C.p (PV.l 3 L.length (rowP enc3 L)))), (19, V.c (C.p (PV.l 3 L.length (rowP enc3 L)))), (20, V.c (C.p (PV.i IntKind.i64 (↑L.length : Int)))), (21, V.c (C.p (PV.i IntKind.i64 ((↑i : Int) + 1))))] [])))))))))
    (Tr.done (X.exit 0)
      (cst 68 [(0, V.c (C.p (PV.i IntKind.i64 P))), (1, V.c (C.p (PV.l 3 L.length (rowP enc3 L)))), (19, V.c (C.p (PV.l 3 L.length (rowP enc3 L)))), (20, V.c (C.p (PV.i IntKind.i64 (↑L.length : Int)))), (21, V.c (C.p (PV.i IntKind.i64 (↑i : Int))))] [])) := by kernel_rfl
theorem tVc (P : Int) (L : List Sh) (i : Nat) : exTs ext0 (takeL 2 (dropL 7 (pcs Try.prog Try.f34))) (cst 68 [(0, iV P), (1, listV enc3 3 L), (19, listV enc3 3 L), (20, iV (L.length : Nat)), (21, iV (i : Nat))] []) (endG (msk 68 [0, 1, 7]) (resOf Try.prog Try.f34)) = Tr.done X.normal
    (cst 68 [(0, V.c (C.p (PV.i IntKind.i64 P))), (1, V.c (C.p (PV.l 3 L.length (rowP enc3 L)))), (7, V.c (C.p (PV.i IntKind.i64 0)))] []) := by kernel_rfl
theorem tVd (P t : Int) (L : List Sh) : exTs ext0 (takeL 2 (lpB (pcs Try.prog Try.f34) 9)) (cst 68 [(0, iV P), (1, listV enc3 3 L), (7, iV t)] []) (endG (msk 68 [0, 1, 7]) (resOf Try.prog Try.f34)) = bT (decide (t < P))
    (Tr.done X.normal
      (cst 68 [(0, V.c (C.p (PV.i IntKind.i64 P))), (1, V.c (C.p (PV.l 3 L.length (rowP enc3 L)))), (7, V.c (C.p (PV.i IntKind.i64 t)))] []))
    (Tr.done (X.exit 2)
      (cst 68 [(0, V.c (C.p (PV.i IntKind.i64 P))), (1, V.c (C.p (PV.l 3 L.length (rowP enc3 L)))), (7, V.c (C.p (PV.i IntKind.i64 t)))] [])) := by kernel_rfl
theorem tVe (P t : Int) (L : List Sh) : exTs ext0 (takeL 1 (flat (inr (nth .skip (lpB (pcs Try.prog Try.f34) 9) 2)))) (cst 68 [(0, iV P), (1, listV enc3 3 L), (7, iV t)] []) (endG (msk 68 [0, 1, 7, 49, 50, 51]) (resOf Try.prog Try.f34)) = Tr.done X.normal
    (cst 68 [(0, V.c (C.p (PV.i IntKind.i64 P))), (1, V.c (C.p (PV.l 3 L.length (rowP enc3 L)))), (7, V.c (C.p (PV.i IntKind.i64 t))), (49, V.c (C.p (PV.l 3 L.length (rowP enc3 L)))), (50, V.c (C.p (PV.i IntKind.i64 (↑L.length : Int)))), (51, V.c (C.p (PV.i IntKind.i64 0)))] []) := by kernel_rfl
theorem tVf (P t : Int) (L : List Sh) (j : Nat) : exTs ext0 (lpB (flat (inr (nth .skip (lpB (pcs Try.prog Try.f34) 9) 2))) 1) (cst 68 [(0, iV P), (1, listV enc3 3 L), (7, iV t), (49, listV enc3 3 L), (50, iV (L.length : Nat)), (51, iV (j : Nat))] []) (endG (msk 68 [0, 1, 7, 49, 50, 51]) (resOf Try.prog Try.f34)) = bT (decide ((↑j : Int) < (↑L.length : Int)))
    (Tr.rq (0 ≤ (↑j : Int) ∧ (↑j : Int) < (↑L.length : Int))
      (bT (decide ((L.getD (↑j : Int).toNat default).snd.fst ≤ t))
        (bT (decide (t < (L.getD (↑j : Int).toNat default).snd.snd))
          (Tr.done (X.exit 3)
            (cst 68 [(0, V.c (C.p (PV.i IntKind.i64 P))), (1, V.c (C.p (PV.l 3 L.length (rowP enc3 L)))), (7, V.c (C.p (PV.i IntKind.i64 (L.getD (↑j : Int).toNat default).snd.snd))), (49, V.c (C.p (PV.l 3 L.length (rowP enc3 L)))), (50, V.c (C.p (PV.i IntKind.i64 (↑L.length : Int)))), (51, V.c (C.p (PV.i IntKind.i64 (↑j : Int))))] []))
          (Tr.rq (inR IntKind.i64 ((↑j : Int) + 1))
            (Tr.done X.normal
              (cst 68 [(0, V.c (C.p (PV.i IntKind.i64 P))), (1, V.c (C.p (PV.l 3 L.length (rowP enc3 L)))), (7, V.c (C.p (PV.i IntKind.i64 t))), (49, V.c (C.p (PV.l 3 L.length (rowP enc3 L)))), (50, V.c (C.p (PV.i IntKind.i64 (↑L.length : Int)))), (51, V.c (C.p (PV.i IntKind.i64 ((↑j : Int) + 1))))] []))))
        (Tr.rq (inR IntKind.i64 ((↑j : Int) + 1))
          (Tr.done X.normal
            (cst 68 [(0, V.c (C.p (PV.i IntKind.i64 P))), (1, V.c (C.p (PV.l 3 L.length (rowP enc3 L)))), (7, V.c (C.p (PV.i IntKind.i64 t))), (49, V.c (C.p (PV.l 3 L.length (rowP enc3 L)))), (50, V.c (C.p (PV.i IntKind.i64 (↑L.length : Int)))), (51, V.c (C.p (PV.i IntKind.i64 ((↑j : Int) + 1))))] [])))))
    (Tr.done (X.exit 4)
      (cst 68 [(0, V.c (C.p (PV.i IntKind.i64 P))), (1, V.c (C.p (PV.l 3 L.length (rowP enc3 L)))), (7, V.c (C.p (PV.i IntKind.i64 t))), (49, V.c (C.p (PV.l 3 L.length (rowP enc3 L)))), (50, V.c (C.p (PV.i IntKind.i64 (↑L.length : Int)))), (51, V.c (C.p (PV.i IntKind.i64 (↑j : Int))))] [])) := by kernel_rfl
theorem tVg (P t : Int) (L : List Sh) (j : Nat) : exTs ext0 (dropL 2 (flat (inr (nth .skip (lpB (pcs Try.prog Try.f34) 9) 2)))) (cst 68 [(0, iV P), (1, listV enc3 3 L), (7, iV t), (49, listV enc3 3 L), (50, iV (L.length : Nat)), (51, iV (j : Nat))] []) (endG [] (resOf Try.prog Try.f34)) = Tr.done X.ret (St.mk [V.c (C.p (PV.i IntKind.i64 9))] []) := by kernel_rfl
theorem tVh (P t : Int) (L : List Sh) : exTs ext0 (dropL 10 (pcs Try.prog Try.f34)) (cst 68 [(0, iV P), (1, listV enc3 3 L), (7, iV t)] []) (endG [] (resOf Try.prog Try.f34)) = Tr.done X.ret (St.mk [V.c (C.p (PV.i IntKind.i64 0))] []) := by kernel_rfl
section
variable {G : Nat → Option Obj}
theorem okLName : ModOK Try.prog G 41 mLName := by
  intro args p v hm hp h
  unfold mLName at hm
  split at hm; rotate_left; · cases hm
  rename_i s
  obtain ⟨rfl, rfl⟩ := some_pair hm
  refine fn_kit rfl ?_ h
  intro R w vs hr hg ha
  obtain ⟨u, l, e, hu, ha⟩ := All2.nth2 ha
  obtain rfl := All2.nil2 ha
  have hu : u = .string s := hu
  subst hu
  cases vs
  rename_i lv_
  have e : lv_ = _ := e
  subst e
  refine (lName_any s w).mono ?_
  rintro e w' ⟨rfl, hb⟩
  exact ⟨_, rfl, rfl, hb⟩
theorem extLN_sound : SoundExt Try.prog G extLN := extOf_sound (by simp; exact okLName)
set_option maxRecDepth 100000 in
theorem okValidRota : ModOK Try.prog G 34 mRota := by
  intro args p v hm hp h
  unfold mRota at hm
  split at hm; rotate_left; · cases hm
  rename_i P n f
  obtain ⟨rfl, rfl⟩ := some_pair hm
  obtain ⟨hL, hn⟩ := hp
  have hlen : (decL dec3 n f).length ≤ 1000000 := by rw [hL.1]; exact hn
  generalize decL dec3 n f = L at hL hlen
  refine FnS.args (args' := [iV P, listV enc3 3 L]) ?_ (.cons (.refl _) (.cons hL.le .nil))
  clear hL
  refine fn_S Try.func34 (by kernel_rfl) rfl ?_ h
  have err : ∀ c : Int, rotaZ P L = c → VLe (V.c (C.p (PV.i .i64 c))) (iV (rotaZ P L)) := fun c h => VLe.of_eq (by rw [h]; rfl)
  have big : (P < 1 ∨ 1048576 < P) → rotaZ P L = 5 := fun h => by unfold rotaZ; rw [if_pos h]
  refine ExS.evG ext0_sound 6 (tVa P L) ?_
  simp only [holds_bT, holds_rq, holds_leaf, kf_normal, kf_ret', decide_eq_true_eq, decide_eq_false_iff_not]
  refine ⟨fun c1 => ⟨err 5 (big (.inl c1))⟩, fun c1 => ⟨fun c2 => ⟨err 5 (big (.inr c2))⟩, fun c2 => ⟨fun c3 => ⟨err 4 ?_⟩, fun c3 => ⟨?_⟩⟩⟩⟩
  · unfold rotaZ; rw [if_neg (by omega), if_pos (by omega)]
  obtain ⟨ser, full, nfull⟩ := rotaZ_cases (P := P) (L := L) (by omega) (by omega)
  refine ExS.loop' (l := dropL 6 (pcs Try.prog Try.f34)) (b := inr (inr (nth .skip (pcs Try.prog Try.f34) 6))) (r := dropL 7 (pcs Try.prog Try.f34)) (id := 0) (by kernel_rfl) (σ := Nat)
    (fun i => cst 68 [(0, iV P), (1, listV enc3 3 L), (19, listV enc3 3 L), (20, iV (L.length : Nat)), (21, iV (i : Nat))] []) (fun i => i ≤ L.length ∧ scanR P (L.drop i) = scanR P L) (fun i => L.length - i) 0 ⟨Nat.zero_le _, rfl⟩ (weak_of_eq (by kernel_rfl)) ?_
  rintro i ⟨hi, hsc⟩ Q1 q1n q1e -
  refine ExS.evH extLN_sound (tVb P L i) ?_
  simp only [holds_bT, holds_rq, holds_leaf, kf_normal, kf_exit, kf_ret', decide_eq_true_eq, decide_eq_false_iff_not, inR, Bool.not_eq_true', Bool.not_eq_false', show (↑i : Int).toNat = i from rfl]
  refine ⟨fun h1 => ?_, fun h1 => ⟨q1e _ ?_⟩⟩
  · have hst := scanR_drop (P := P) (L := L) (i := i) (by omega)
    rw [hsc] at hst
    generalize L.getD i default = x at hst
    have bad : nameB x.1 = true → badS P x = true → VLe (V.c (C.p (PV.i .i64 5))) (iV (rotaZ P L)) := fun h2 hb => err 5 (ser 5 (by decide) (by rw [hst, if_neg (by rw [h2]; decide), if_pos hb]))
    refine ⟨by omega, trivial, fun c4 => ⟨err 8 (ser 8 (by decide) (by rw [hst, if_pos c4]))⟩, fun c4 => ⟨fun c5 => ⟨bad c4 (by simp [badS, c5])⟩, fun c5 => ⟨fun c6 => ⟨bad c4 (by simp [badS, c6])⟩, fun c6 => ⟨fun c7 => ⟨bad c4 (by simp [badS, c7])⟩, fun c7 => ⟨by omega, ⟨q1n (i + 1) _ ⟨by omega, ?_⟩ (by omega) (weak_of_eq (by kernel_rfl))⟩⟩⟩⟩⟩⟩
    have hb : badS P x = false := by simp [badS]; omega
    rw [if_neg (by rw [c4]; decide), if_neg (by rw [hb]; decide)] at hst
    exact hst.symm
  · obtain rfl : i = L.length := by omega
    have hs0 : scanR P L = 0 := by rw [← hsc, List.drop_length]; rfl
    have hok := scanR_ok hs0
    refine ExS.evG ext0_sound 2 (tVc P L L.length) ?_
    simp only [holds_leaf, kf_normal]
    refine ⟨?_⟩
    clear q1n q1e
    refine ExS.loop' (l := dropL 9 (pcs Try.prog Try.f34)) (b := inr (inr (nth .skip (pcs Try.prog Try.f34) 9))) (r := dropL 10 (pcs Try.prog Try.f34)) (id := 2) (by kernel_rfl) (σ := Int)
      (fun t => cst 68 [(0, iV P), (1, listV enc3 3 L), (7, iV t)] []) (fun t => 0 ≤ t ∧ t ≤ P ∧ ∀ s : Int, 0 ≤ s → s < t → covB L s = true) (fun t => (P - t).toNat) 0 ⟨by omega, by omega, fun s h1 h2 => by omega⟩ (weak_of_eq (by kernel_rfl)) ?_
    rintro t ⟨ht, htP, hcov⟩ Q1 q1n q1e -
    refine ExS.evG ext0_sound 2 (tVd P t L) ?_
    simp only [holds_bT, holds_leaf, kf_normal, kf_exit, decide_eq_true_eq, decide_eq_false_iff_not]
    refine ⟨fun h2 => ⟨?_⟩, fun h2 => ⟨q1e _ ?_⟩⟩
    · refine ExS.blk' (l := dropL 2 (lpB (pcs Try.prog Try.f34) 9)) (id := 3) (a := inr (nth .skip (lpB (pcs Try.prog Try.f34) 9) 2)) (r := dropL 3 (lpB (pcs Try.prog Try.f34) 9)) (by kernel_rfl) ?_
      intro Q2 _ q2e _
      refine ExS.evG ext0_sound 1 (tVe P t L) ?_
      simp only [holds_leaf, kf_normal]
      refine ⟨?_⟩
      refine ExS.loop' (l := dropL 1 (flat (inr (nth .skip (lpB (pcs Try.prog Try.f34) 9) 2)))) (b := inr (inr (nth .skip (flat (inr (nth .skip (lpB (pcs Try.prog Try.f34) 9) 2))) 1))) (r := dropL 2 (flat (inr (nth .skip (lpB (pcs Try.prog Try.f34) 9) 2)))) (id := 4) (by kernel_rfl) (σ := Nat)
        (fun j => cst 68 [(0, iV P), (1, listV enc3 3 L), (7, iV t), (49, listV enc3 3 L), (50, iV (L.length : Nat)), (51, iV (j : Nat))] []) (fun j => j ≤ L.length ∧ ∀ k, k < j → ¬ ((L.getD k default).2.1 ≤ t ∧ t < (L.getD k default).2.2)) (fun j => L.length - j) 0 ⟨Nat.zero_le _, fun k hk => absurd hk (Nat.not_lt_zero k)⟩ (weak_of_eq (by kernel_rfl)) ?_
      rintro j ⟨hj, hno⟩ Q3 q3n q3e q3x
      refine ExS.evH ext0_sound (tVf P t L j) ?_
      have nx : j < L.length → ¬ ((L.getD j default).2.1 ≤ t ∧ t < (L.getD j default).2.2) → Leaf (Q3 .normal ((fun j : Nat => cst 68 [(0, iV P), (1, listV enc3 3 L), (7, iV t), (49, listV enc3 3 L), (50, iV (L.length : Nat)), (51, iV (j : Nat))] []) (j + 1))) := fun h3 h4 => ⟨q3n (j + 1) _ ⟨by omega, fun k hk => by
        by_cases e : k = j
        · subst e; exact h4
        · exact hno k (by omega)⟩ (by omega) (WeakS.refl _)⟩
      simp only [holds_bT, holds_rq, holds_leaf, kf_normal, kf_exit, decide_eq_true_eq, decide_eq_false_iff_not, inR, show (↑j : Int).toNat = j from rfl]
      refine ⟨fun h3 => ⟨by omega, fun c4 => ⟨fun c5 => ⟨q3x 3 _ (by decide) (q2e _ ⟨_, WeakS.refl _, q1n (L.getD j default).2.2 _ ?_ ?_ ?_⟩)⟩, fun c5 => ⟨by omega, nx (by omega) (fun h => c5 h.2)⟩⟩, fun c4 => ⟨by omega, nx (by omega) (fun h => c4 h.1)⟩⟩, fun h3 => ⟨q3e _ ?_⟩⟩
      · have hm : L.getD j default ∈ L := by
          rw [List.getD_eq_getElem?_getD, List.getElem?_eq_getElem (show j < L.length by omega)]
          exact List.getElem_mem _
        have hk := hok _ hm
        refine ⟨by omega, by omega, fun s hs1 hs2 => ?_⟩
        by_cases e : s < t
        · exact hcov s hs1 e
        · exact covB_iff.2 ⟨_, hm, by omega, hs2⟩
      · have hm : L.getD j default ∈ L := by
          rw [List.getD_eq_getElem?_getD, List.getElem?_eq_getElem (show j < L.length by omega)]
          exact List.getElem_mem _
        have hk := hok _ hm
        omega
      · exact (weak_gc (msk 68 [0, 1, 7]) _).trans (weak_of_eq (by kernel_rfl))
      · obtain rfl : j = L.length := by omega
        refine ExS.evH ext0_sound (tVg P t L L.length) ?_
        simp only [holds_leaf, kf_ret']
        refine ⟨err 9 (nfull hs0 fun hf => ?_)⟩
        obtain ⟨x, hx, h4, h5⟩ := covB_iff.1 (hf t ht h2)
        obtain ⟨k, hk, rfl⟩ := List.getElem_of_mem hx
        refine hno k hk ?_
        rw [List.getD_eq_getElem?_getD, List.getElem?_eq_getElem hk]
        exact ⟨h4, h5⟩
    · refine ExS.evH ext0_sound (tVh P t L) ?_
      simp only [holds_leaf, kf_ret']
      exact ⟨err 0 (full hs0 fun s h3 h4 => hcov s h3 (by omega))⟩
end
end Go.AE
