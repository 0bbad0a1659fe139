/- AE contracts: ref29.Inhibited. -/
import Derived.Test.YtaofgmfalldcoaaS5
namespace Go.AE
set_option linter.unusedSimpArgs false
open Go.Proofs Go.Proofs.Ytaofgmfalldcoaa
set_option linter.unusedVariables false

noncomputable def mGInhibR : Mod
  | [.a [.p (.i .i64 N), .p (.l 2 n f)], .c (.p (.l 1 m g))] => some ((IsL encE 2 (decL decE n f) n f ∧ n ≤ 1000000) ∧ IsL encB 1 (decL decB m g) m g ∧ m ≤ 1000000, listV encB 1 (inhZ N (decL decE n f) (decL decB m g)))
  | _ => none
noncomputable def extRV : Ext := extOf [(14, mGValidR), (21, mReachedR)]

theorem tJ1 (N : Int) (E : List Ed) (F : List Bool) : exTs extRV (takeL 3 (pcs Try.prog Try.f19)) (st0 Try.f19 [gZ N E, listV encB 1 F]) (endG (msk 62 [1, 2]) (resOf Try.prog Try.f19)) = Tr.rq (IsL encE 2 (decL decE E.length (rowP encE E)) E.length (rowP encE E) ∧ E.length ≤ 1000000)
    (bT (validZ N (decL decE E.length (rowP encE E)) != 0) (Tr.done X.ret (St.mk [V.c (C.p (PV.z (Value.slice none 0 0)))] []))
      (bT ((↑F.length : Int) != N) (Tr.done X.ret (St.mk [V.c (C.p (PV.z (Value.slice none 0 0)))] []))
        (Tr.done X.normal
          (cst 62 [(1, V.c (C.p (PV.l 1 F.length (rowP encB F)))), (2, V.c (C.ptr 0 0))] [AO.cells 25 [C.p (PV.i IntKind.i64 N), C.p (PV.l 2 E.length (rowP encE E))]])))) := by kernel_rfl
theorem tJ1b (n : Nat) (E : List Ed) (F : List Bool) : exTs extRV (takeL 2 (dropL 3 (pcs Try.prog Try.f19))) (cst 62 [(1, listV encB 1 F), (2, .c (.ptr 0 0))] [.cells 25 [.p (.i .i64 (n : Nat)), .p (listP encE 2 E)]]) (endG (msk 62 [1, 2, 5, 6]) (resOf Try.prog Try.f19)) = Tr.rq (0 ≤ (↑n : Int) ∧ (↑n : Int) ≤ (↑n : Int) ∧ (↑n : Int) * (↑1 : Int) ≤ 140737488355328 ∧ (↑n : Int) ≤ 140737488355328)
    (Tr.done X.normal
      (cst 62 [(1, V.c (C.p (PV.l 1 F.length (rowP encB F)))), (2, V.c (C.ptr 0 0)), (5, V.c (C.sl 1 1 0 (↑n : Int).toNat)), (6, V.c (C.p (PV.i IntKind.i64 0)))] [AO.cells 25 [C.p (PV.i IntKind.i64 (↑n : Int)), C.p (PV.l 2 E.length (rowP encE E))], AO.row 4 1 (↑n : Int).toNat fun e o => renC [0, 1] (C.p (nth (PV.b false) [PV.b false] o))])) := by kernel_rfl
theorem tJ2 (n i : Nat) (E : List Ed) (F out : List Bool) : exTs ext0 (takeL 2 (lpB (pcs Try.prog Try.f19) 5)) (cst 62 [(1, listV encB 1 F), (2, .c (.ptr 0 0)), (5, .c (.sl 1 1 0 n)), (6, iV (i : Nat))] [.cells 25 [.p (.i .i64 (n : Nat)), .p (listP encE 2 E)], .row 4 1 n (rowC encB out)]) (endG (msk 62 [1, 2, 5, 6]) (resOf Try.prog Try.f19)) = bT (decide ((↑i : Int) < (↑n : Int)))
    (Tr.done X.normal
      (cst 62 [(1, V.c (C.p (PV.l 1 F.length (rowP encB F)))), (2, V.c (C.ptr 0 0)), (5, V.c (C.sl 1 1 0 n)), (6, V.c (C.p (PV.i IntKind.i64 (↑i : Int))))] [AO.cells 25 [C.p (PV.i IntKind.i64 (↑n : Int)), C.p (PV.l 2 E.length (rowP encE E))], AO.row 4 1 n fun e o => renC [0, 1] (rowC encB out e o)]))
    (Tr.done (X.exit 0)
      (cst 62 [(1, V.c (C.p (PV.l 1 F.length (rowP encB F)))), (2, V.c (C.ptr 0 0)), (5, V.c (C.sl 1 1 0 n)), (6, V.c (C.p (PV.i IntKind.i64 (↑i : Int))))] [AO.cells 25 [C.p (PV.i IntKind.i64 (↑n : Int)), C.p (PV.l 2 E.length (rowP encE E))], AO.row 4 1 n fun e o => renC [0, 1] (rowC encB out e o)])) := by kernel_rfl
theorem tJ3 (n i : Nat) (E : List Ed) (F out : List Bool) : exTs extRV (takeL 4 (flat (inr (nth .skip (lpB (pcs Try.prog Try.f19) 5) 2)))) (cst 62 [(1, listV encB 1 F), (2, .c (.ptr 0 0)), (5, .c (.sl 1 1 0 n)), (6, iV (i : Nat))] [.cells 25 [.p (.i .i64 (n : Nat)), .p (listP encE 2 E)], .row 4 1 n (rowC encB out)]) (endG (msk 62 [1, 2, 5, 6, 7, 8]) (resOf Try.prog Try.f19)) = Tr.rq (0 ≤ (↑i : Int) ∧ (↑i : Int) < (↑F.length : Int))
    (bT (!F.getD (↑i : Int).toNat default)
      (Tr.done (X.exit 1)
        (cst 62 [(1, V.c (C.p (PV.l 1 F.length (rowP encB F)))), (2, V.c (C.ptr 0 0)), (5, V.c (C.sl 1 1 0 n)), (6, V.c (C.p (PV.i IntKind.i64 (↑i : Int))))] [AO.cells 25 [C.p (PV.i IntKind.i64 (↑n : Int)), C.p (PV.l 2 E.length (rowP encE E))], AO.row 4 1 n fun e o => renC [0, 1] (rowC encB out e o)]))
      (Tr.rq
        ((0 ≤ (↑n : Int) ∧ (↑n : Int) ≤ 1000000) ∧ IsL encE 2 (decL decE E.length (rowP encE E)) E.length (rowP encE E) ∧ E.length ≤ 1000000 ∧ InN (↑n : Int).toNat (decL decE E.length (rowP encE E)))
        (Tr.done X.normal
          (cst 62 [(1, V.c (C.p (PV.l 1 F.length (rowP encB F)))), (2, V.c (C.ptr 0 0)), (5, V.c (C.sl 1 1 0 n)), (6, V.c (C.p (PV.i IntKind.i64 (↑i : Int)))), (7, V.c (C.p (PV.l 1 (rc1 (↑n : Int).toNat (decL decE E.length (rowP encE E)) (↑i : Int)).length (rowP encB (rc1 (↑n : Int).toNat (decL decE E.length (rowP encE E)) (↑i : Int)))))), (8, V.c (C.p (PV.i IntKind.i64 0)))] [AO.cells 25 [C.p (PV.i IntKind.i64 (↑n : Int)), C.p (PV.l 2 E.length (rowP encE E))], AO.row 4 1 n fun e o => renC [0, 1] (rowC encB out e o)])))) := by kernel_rfl
theorem tJ4 (n i k : Nat) (E : List Ed) (F out r : List Bool) : exTs ext0 (lpB (flat (inr (nth .skip (lpB (pcs Try.prog Try.f19) 5) 2))) 4) (cst 62 [(1, listV encB 1 F), (2, .c (.ptr 0 0)), (5, .c (.sl 1 1 0 n)), (6, iV (i : Nat)), (7, listV encB 1 r), (8, iV (k : Nat))] [.cells 25 [.p (.i .i64 (n : Nat)), .p (listP encE 2 E)], .row 4 1 n (rowC encB out)]) (endG (msk 62 [1, 2, 5, 6, 7, 8]) (resOf Try.prog Try.f19)) = bT (decide ((↑k : Int) < (↑n : Int)))
    (Tr.rq (0 ≤ (↑k : Int) ∧ (↑k : Int) < (↑n : Int))
      (Tr.rq ((↑k : Int).toNat + 0 < n)
        (bT (out.getD ((↑k : Int).toNat + 0) default)
          (Tr.rq (0 ≤ (↑k : Int) ∧ (↑k : Int) < (↑n : Int))
            (Tr.rq ((↑k : Int).toNat + 0 < n)
              (Tr.rq (inR IntKind.i64 ((↑k : Int) + 1))
                (Tr.done X.normal
                  (cst 62 [(1, V.c (C.p (PV.l 1 F.length (rowP encB F)))), (2, V.c (C.ptr 0 0)), (5, V.c (C.sl 1 1 0 n)), (6, V.c (C.p (PV.i IntKind.i64 (↑i : Int)))), (7, V.c (C.p (PV.l 1 r.length (rowP encB r)))), (8, V.c (C.p (PV.i IntKind.i64 ((↑k : Int) + 1))))] [AO.cells 25 [C.p (PV.i IntKind.i64 (↑n : Int)), C.p (PV.l 2 E.length (rowP encE E))], AO.row 4 1 n fun e o => renC [0, 1] (if e = (↑k : Int).toNat + 0 then if 0 ≤ o ∧ o < 1 then nth C.top [C.p (PV.b true)] (o - 0) else rowC encB out e o else rowC encB out e o)])))))
          (Tr.rq (0 ≤ (↑k : Int) ∧ (↑k : Int) < (↑r.length : Int))
            (bT (r.getD (↑k : Int).toNat default)
              (Tr.rq (0 ≤ (↑k : Int) ∧ (↑k : Int) < (↑F.length : Int))
                (Tr.rq (0 ≤ (↑k : Int) ∧ (↑k : Int) < (↑n : Int))
                  (Tr.rq ((↑k : Int).toNat + 0 < n)
                    (Tr.rq (inR IntKind.i64 ((↑k : Int) + 1))
                      (Tr.done X.normal
                        (cst 62 [(1, V.c (C.p (PV.l 1 F.length (rowP encB F)))), (2, V.c (C.ptr 0 0)), (5, V.c (C.sl 1 1 0 n)), (6, V.c (C.p (PV.i IntKind.i64 (↑i : Int)))), (7, V.c (C.p (PV.l 1 r.length (rowP encB r)))), (8, V.c (C.p (PV.i IntKind.i64 ((↑k : Int) + 1))))] [AO.cells 25 [C.p (PV.i IntKind.i64 (↑n : Int)), C.p (PV.l 2 E.length (rowP encE E))], AO.row 4 1 n fun e o => renC [0, 1] (if e = (↑k : Int).toNat + 0 then if 0 ≤ o ∧ o < 1 then nth C.top [C.p (PV.b (F.getD (↑k : Int).toNat default))] (o - 0) else rowC encB out e o else rowC encB out e o)]))))))
              (Tr.rq (0 ≤ (↑k : Int) ∧ (↑k : Int) < (↑n : Int))
                (Tr.rq ((↑k : Int).toNat + 0 < n)
                  (Tr.rq (inR IntKind.i64 ((↑k : Int) + 1))
                    (Tr.done X.normal
                      (cst 62 [(1, V.c (C.p (PV.l 1 F.length (rowP encB F)))), (2, V.c (C.ptr 0 0)), (5, V.c (C.sl 1 1 0 n)), (6, V.c (C.p (PV.i IntKind.i64 (↑i : Int)))), (7, V.c (C.p (PV.l 1 r.length (rowP encB r)))), (8, V.c (C.p (PV.i IntKind.i64 ((↑k : Int) + 1))))] [AO.cells 25 [C.p (PV.i IntKind.i64 (↑n : Int)), C.p (PV.l 2 E.length (rowP encE E))], AO.row 4 1 n fun e o => renC [0, 1] (if e = (↑k : Int).toNat + 0 then if 0 ≤ o ∧ o < 1 then nth C.top [C.p (PV.b false)] (o - 0) else rowC encB out e o else rowC encB out e o)]))))))))))
    (Tr.done (X.exit 2)
      (cst 62 [(1, V.c (C.p (PV.l 1 F.length (rowP encB F)))), (2, V.c (C.ptr 0 0)), (5, V.c (C.sl 1 1 0 n)), (6, V.c (C.p (PV.i IntKind.i64 (↑i : Int)))), (7, V.c (C.p (PV.l 1 r.length (rowP encB r)))), (8, V.c (C.p (PV.i IntKind.i64 (↑k : Int))))] [AO.cells 25 [C.p (PV.i IntKind.i64 (↑n : Int)), C.p (PV.l 2 E.length (rowP encE E))], AO.row 4 1 n fun e o => renC [0, 1] (rowC encB out e o)])) := by kernel_rfl
theorem tJ5 (n i k : Nat) (E : List Ed) (F out r : List Bool) : exTs ext0 (dropL 3 (lpB (pcs Try.prog Try.f19) 5)) (cst 62 [(1, listV encB 1 F), (2, .c (.ptr 0 0)), (5, .c (.sl 1 1 0 n)), (6, iV (i : Nat)), (7, listV encB 1 r), (8, iV (k : Nat))] [.cells 25 [.p (.i .i64 (n : Nat)), .p (listP encE 2 E)], .row 4 1 n (rowC encB out)]) (endG (msk 62 [1, 2, 5, 6]) (resOf Try.prog Try.f19)) = Tr.rq (inR IntKind.i64 ((↑i : Int) + 1))
    (Tr.done X.normal
      (cst 62 [(1, V.c (C.p (PV.l 1 F.length (rowP encB F)))), (2, V.c (C.ptr 0 0)), (5, V.c (C.sl 1 1 0 n)), (6, V.c (C.p (PV.i IntKind.i64 ((↑i : Int) + 1))))] [AO.cells 25 [C.p (PV.i IntKind.i64 (↑n : Int)), C.p (PV.l 2 E.length (rowP encE E))], AO.row 4 1 n fun e o => renC [0, 1] (rowC encB out e o)])) := by kernel_rfl
theorem tJ5b (n i : Nat) (E : List Ed) (F out : List Bool) : exTs ext0 (dropL 3 (lpB (pcs Try.prog Try.f19) 5)) (cst 62 [(1, listV encB 1 F), (2, .c (.ptr 0 0)), (5, .c (.sl 1 1 0 n)), (6, iV (i : Nat))] [.cells 25 [.p (.i .i64 (n : Nat)), .p (listP encE 2 E)], .row 4 1 n (rowC encB out)]) (endG (msk 62 [1, 2, 5, 6]) (resOf Try.prog Try.f19)) = Tr.rq (inR IntKind.i64 ((↑i : Int) + 1))
    (Tr.done X.normal
      (cst 62 [(1, V.c (C.p (PV.l 1 F.length (rowP encB F)))), (2, V.c (C.ptr 0 0)), (5, V.c (C.sl 1 1 0 n)), (6, V.c (C.p (PV.i IntKind.i64 ((↑i : Int) + 1))))] [AO.cells 25 [C.p (PV.i IntKind.i64 (↑n : Int)), C.p (PV.l 2 E.length (rowP encE E))], AO.row 4 1 n fun e o => renC [0, 1] (rowC encB out e o)])) := by kernel_rfl
theorem tJ6 (n i : Nat) (E : List Ed) (F out : List Bool) : exTs ext0 (dropL 6 (pcs Try.prog Try.f19)) (cst 62 [(1, listV encB 1 F), (2, .c (.ptr 0 0)), (5, .c (.sl 1 1 0 n)), (6, iV (i : Nat))] [.cells 25 [.p (.i .i64 (n : Nat)), .p (listP encE 2 E)], .row 4 1 n (rowC encB out)]) (endG [] (resOf Try.prog Try.f19)) = Tr.rq (0 + n ≤ n ∧ ∀ (e o : Nat), e < n → o < 1 → isF (rowC encB out (e + 0) o) = true) (Tr.done X.ret (St.mk [V.c (C.p (PV.l 1 n fun e o => unP (rowC encB out (e + 0) o)))] [])) := by kernel_rfl
section
variable {G : Nat → Option Obj}
theorem extRV_sound : SoundExt Try.prog G extRV := extOf_sound (by simp; exact ⟨okGValidR, okReachedR⟩)
set_option maxRecDepth 100000 in
theorem okGInhibR : ModOK Try.prog G 19 mGInhibR := by
  intro args p v hm hp h
  unfold mGInhibR at hm
  split at hm; rotate_left; · cases hm
  rename_i N n0 f m g
  obtain ⟨rfl, rfl⟩ := some_pair hm
  obtain ⟨⟨hL, hn⟩, hL2, hm2⟩ := hp
  have hlen : (decL decE n0 f).length ≤ 1000000 := by rw [hL.1]; exact hn
  have hlenF : (decL decB m g).length ≤ 1000000 := by rw [hL2.1]; exact hm2
  generalize decL decE n0 f = E at hL hlen
  generalize decL decB m g = F at hL2 hlenF
  refine FnS.args (args' := [gZ N E, listV encB 1 F]) ?_ (.cons (VLe.a2 (.refl _) (PLe.of_isL hL)) (.cons hL2.le .nil))
  clear hL hL2
  refine fn_S Try.func19 (by kernel_rfl) rfl ?_ h
  refine ExS.evG extRV_sound 3 (tJ1 N E F) ?_
  simp only [holds_bT, holds_rq, holds_leaf, kf_normal, kf_ret', decide_eq_true_eq, decide_eq_false_iff_not, bne_iff_ne, bne_eq_false_iff_eq, decE_row]
  have nil : ¬ (validZ N E = 0 ∧ (F.length : Int) = N) → VLe (V.c (C.p (PV.z (Value.slice none 0 0)))) (listV encB 1 (inhZ N E F)) := fun h => by
    unfold inhZ; rw [if_neg h]; exact VLe.p (PLe.nil 1 _)
  refine ⟨⟨isL_row _ _ _, hlen⟩, fun c1 => ⟨nil (fun h => c1 h.1)⟩, fun c1 => ⟨fun c2 => ⟨nil (fun h => c2 h.2)⟩, fun c2 => ⟨?_⟩⟩⟩
  obtain ⟨n, hnn⟩ : ∃ n, F.length = n := ⟨_, rfl⟩
  have hval : inhZ N E F = inh n E F := by unfold inhZ; rw [if_pos ⟨c1, c2⟩, hnn]
  rw [hval]
  obtain ⟨hN, hsc, _⟩ := validZ_ok c1
  have c2 : N = n := by omega
  subst c2
  have hE : InN n E := by have := scan_in hsc; simpa using this
  clear nil c1 hval
  refine ExS.evG extRV_sound 2 (tJ1b n E F) ?_
  simp only [holds_rq, holds_leaf, kf_normal]
  refine ⟨by omega, ⟨?_⟩⟩
  refine ExS.loop' (l := dropL 5 (pcs Try.prog Try.f19)) (b := inr (inr (nth .skip (pcs Try.prog Try.f19) 5))) (r := dropL 6 (pcs Try.prog Try.f19)) (id := 0) (by kernel_rfl) (σ := Nat × List Bool)
    (fun (i, out) => cst 62 [(1, listV encB 1 F), (2, .c (.ptr 0 0)), (5, .c (.sl 1 1 0 n)), (6, iV (i : Nat))] [.cells 25 [.p (.i .i64 (n : Nat)), .p (listP encE 2 E)], .row 4 1 n (rowC encB out)]) (fun (i, out) => i ≤ n ∧ out.length = n ∧ ∀ k, k < n → (out.getD k false = true ↔ InhI E F i k)) (fun (i, _) => n - i) (0, List.replicate n false) ⟨Nat.zero_le _, by simp, fun k hk => ⟨fun h => by simp [hk] at h, fun ⟨s, h, _⟩ => absurd h (Nat.not_lt_zero s)⟩⟩
    (weak_cst ⟨rfl, ⟨rfl, rfl, rfl, fun e o he ho => rep_row he ho⟩, trivial⟩) ?_
  rintro ⟨i, out⟩ ⟨hi, ho, hI⟩ Q1 q1n q1e -
  refine ExS.evG ext0_sound 2 (tJ2 n i E F out) ?_
  simp only [holds_bT, holds_leaf, kf_normal, kf_exit, decide_eq_true_eq, decide_eq_false_iff_not]
  refine ⟨fun h1 => ⟨?_⟩, fun h1 => ⟨q1e _ ?_⟩⟩
  · refine ExS.blk' (l := dropL 2 (lpB (pcs Try.prog Try.f19) 5)) (id := 1) (a := inr (nth .skip (lpB (pcs Try.prog Try.f19) 5) 2)) (r := dropL 3 (lpB (pcs Try.prog Try.f19) 5)) (by kernel_rfl) ?_
    intro Q2 q2n q2e _
    have hin : i < n := by omega
    refine ExS.evG extRV_sound 4 (tJ3 n i E F out) ?_
    simp only [holds_bT, holds_rq, holds_leaf, kf_normal, kf_exit, decE_row, Bool.not_eq_true', Bool.not_eq_false', show (↑i : Int).toNat = i from rfl, show (↑n : Int).toNat = n from rfl, show (default : Bool) = false from rfl]
    refine ⟨by omega, fun c1 => ⟨q2e _ ?_⟩, fun c1 => ⟨⟨by omega, isL_row _ _ _, hlen, hE⟩, ⟨?_⟩⟩⟩
    · refine ExS.evH ext0_sound (tJ5b n i E F out) ?_
      simp only [holds_rq, holds_leaf, kf_normal, inR]
      refine ⟨by omega, ⟨q1n (i + 1, out) _ ⟨by omega, ho, fun k hk => ?_⟩ (by simp only; omega) (weak_of_eq (by kernel_rfl))⟩⟩
      rw [hI k hk, InhI.succ]
      exact ⟨.inl, fun h => h.resolve_right (fun h => by rw [c1] at h; cases h.1)⟩
    · refine ExS.loop' (l := dropL 4 (flat (inr (nth .skip (lpB (pcs Try.prog Try.f19) 5) 2)))) (b := inr (inr (nth .skip (flat (inr (nth .skip (lpB (pcs Try.prog Try.f19) 5) 2))) 4))) (r := dropL 5 (flat (inr (nth .skip (lpB (pcs Try.prog Try.f19) 5) 2)))) (id := 2) (by kernel_rfl) (σ := Nat × List Bool)
        (fun (k, out) => (fun r => cst 62 [(1, listV encB 1 F), (2, .c (.ptr 0 0)), (5, .c (.sl 1 1 0 n)), (6, iV (i : Nat)), (7, listV encB 1 r), (8, iV (k : Nat))] [.cells 25 [.p (.i .i64 (n : Nat)), .p (listP encE 2 E)], .row 4 1 n (rowC encB out)]) (rc1 n E i)) (fun (k, out) => k ≤ n ∧ out.length = n ∧ ∀ j, j < n → (out.getD j false = true ↔ if j < k then InhI E F (i + 1) j else InhI E F i j)) (fun (k, _) => n - k) (0, out) ⟨Nat.zero_le _, ho, fun j hj => by rw [if_neg (Nat.not_lt_zero j)]; exact hI j hj⟩ (weak_of_eq (by kernel_rfl)) ?_
      clear hI ho
      rintro ⟨k, out⟩ ⟨hk, ho, hI⟩ Q3 q3n q3e -
      refine ExS.evH ext0_sound (tJ4 n i k E F out (rc1 n E i)) ?_
      have hrl := rc1_length n E i
      have hrc := fun (h : k < n) => rc1_at (E := E) (a := (i : Int)) h
      have hset : k < n → ∀ x : Bool, (x = true ↔ InhI E F (i + 1) k) → ∀ j, j < n → ((out.set k x).getD j false = true ↔ if j < k + 1 then InhI E F (i + 1) j else InhI E F i j) := by
        intro h x hx j hj
        rw [getD_set_x (by omega)]
        by_cases e : j = k
        · subst e; rw [if_pos rfl, if_pos (by omega)]; exact hx
        · rw [if_neg e, hI j hj]
          by_cases e2 : j < k
          · rw [if_pos e2, if_pos (by omega)]
          · rw [if_neg e2, if_neg (by omega)]
      have hout : k < n → (out.getD k false = true ↔ InhI E F i k) := fun h => by rw [hI k h, if_neg (by omega)]
      have go : ∀ x : Bool, k < n → (x = true ↔ InhI E F (i + 1) k) → ∀ st, WeakS G st ((fun k out r => cst 62 [(1, listV encB 1 F), (2, .c (.ptr 0 0)), (5, .c (.sl 1 1 0 n)), (6, iV (i : Nat)), (7, listV encB 1 r), (8, iV (k : Nat))] [.cells 25 [.p (.i .i64 (n : Nat)), .p (listP encE 2 E)], .row 4 1 n (rowC encB out)]) (k + 1) (out.set k x) (rc1 n E i)) → Q3 .normal st := fun x h1 h2 st hst =>
        q3n (k + 1, out.set k x) st ⟨by omega, by simp [ho], hset h1 x h2⟩ (by simp only; omega) hst
      simp only [holds_bT, holds_rq, holds_leaf, kf_normal, kf_exit, decide_eq_true_eq, decide_eq_false_iff_not, inR, show (↑k : Int).toNat = k from rfl, show ∀ x : Nat, x + 0 = x from fun _ => rfl, show (default : Bool) = false from rfl]
      refine ⟨fun h2 => ⟨by omega, by omega, fun c2 => ⟨by omega, by omega, by omega, ⟨?_⟩⟩, fun c2 => ⟨by omega, fun c3 => ⟨by omega, by omega, by omega, by omega, ⟨?_⟩⟩, fun c3 => ⟨by omega, by omega, by omega, ⟨?_⟩⟩⟩⟩, fun h2 => ⟨q3e _ ?_⟩⟩
      · have hkn : k < n := by omega
        refine go true hkn ⟨fun _ => InhI.succ.2 (.inl ((hout hkn).1 c2)), fun _ => rfl⟩ _ (weak_cst ?_)
        exact ⟨rfl, ⟨rfl, rfl, rfl, fun e o he ho' => set1 (ρ := [0, 1]) ho hkn rfl he ho'⟩, trivial⟩
      · have hkn : k < n := by omega
        refine go (F.getD k false) hkn ?_ _ (weak_cst (by exact ⟨rfl, ⟨rfl, rfl, rfl, fun e o he ho' => set1 (ρ := [0, 1]) ho hkn rfl he ho'⟩, trivial⟩))
        rw [InhI.succ]
        refine ⟨fun h => .inr ⟨c1, (hrc hkn).1 c3, h⟩, fun h => ?_⟩
        rcases h with h | h
        · rw [(hout hkn).2 h] at c2; cases c2
        · exact h.2.2
      · have hkn : k < n := by omega
        refine go false hkn ?_ _ (weak_cst (by exact ⟨rfl, ⟨rfl, rfl, rfl, fun e o he ho' => set1 (ρ := [0, 1]) ho hkn rfl he ho'⟩, trivial⟩))
        rw [InhI.succ]
        refine ⟨(fun h => by cases h), fun h => ?_⟩
        rcases h with h | h
        · rw [(hout hkn).2 h] at c2; cases c2
        · rw [(hrc hkn).2 h.2.1] at c3; cases c3
      · obtain rfl : k = n := by omega
        refine ⟨_, WeakS.refl _, q2n _ ?_⟩
        refine ExS.evH ext0_sound (tJ5 k i k E F out (rc1 k E i)) ?_
        simp only [holds_rq, holds_leaf, kf_normal, inR]
        exact ⟨by omega, ⟨q1n (i + 1, out) _ ⟨by omega, ho, fun j hj => by rw [hI j hj, if_pos hj]⟩ (by simp only; omega) (weak_of_eq (by kernel_rfl))⟩⟩
  · obtain rfl : i = n := by omega
    refine ExS.evH ext0_sound (tJ6 i i E F out) ?_
    simp only [holds_rq, holds_leaf, kf_ret']
    refine ⟨⟨by omega, fun _ _ _ _ => rfl⟩, ⟨?_⟩⟩
    rw [← inh_fin hnn ho hI]
    refine VLe.p ?_
    unfold listP
    rw [ho]
    exact PLe.refl _
end
end Go.AE
