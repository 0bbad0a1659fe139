/- AE contracts: ref29.Persons, ref29.OnDuty, law29.duty. -/
import Derived.Test.YtaofgmfalldcoaaS13
namespace Go.AE
open Go.Proofs Go.Proofs.Ytaofgmfalldcoaa
set_option linter.unusedVariables false
set_option linter.unusedSimpArgs false

def mPersons : Mod
  | [.c (.p (.i .i64 P)), .c (.p (.l 3 n f)), .c (.p (.i .i64 t))] => some ((IsL enc3 3 (decL dec3 n f) n f ∧ n ≤ 1000000) ∧ 0 ≤ t ∧ 0 < P, listV encS 1 (pers (t % P) (decL dec3 n f)))
  | _ => none
noncomputable def extRD : Ext := extOf [(26, mRota), (38, mPersons)]
noncomputable def extLD : Ext := extOf [(25, mShifts), (28, mDuty), (35, mDuty)]
noncomputable def mLDuty : Mod
  | [.c (.p (.i .i64 P)), .c (.p (.l 3 n f)), .c (.p (.i .i64 t)), .c (.p (.i .i64 l))] => some (IsL enc3 3 (decL dec3 n f) n f ∧ n ≤ 1000000, bV true)
  | _ => none

theorem tPa (P t : Int) (L : List Sh) : exTs ext0 (takeL 3 (pcs Try.prog Try.f38)) (st0 Try.f38 [iV P, listV enc3 3 L, iV t]) (endG (msk 69 [0, 1, 2, 7, 8]) (resOf Try.prog Try.f38)) = Tr.done X.normal
    (cst 69 [(0, V.c (C.p (PV.i IntKind.i64 P))), (1, V.c (C.p (PV.l 3 L.length (rowP enc3 L)))), (2, V.c (C.p (PV.i IntKind.i64 t))), (7, V.c (C.p (PV.z (Value.slice none 0 0)))), (8, V.c (C.p (PV.i IntKind.i64 0)))] []) := by kernel_rfl
theorem tPb (P t : Int) (L : List Sh) (A : List ByteArray) (m i : Nat) : exTs ext0 (takeL 2 (lpB (pcs Try.prog Try.f38) 3)) (cst 69 [(0, iV P), (1, listV enc3 3 L), (2, iV t), (7, .c (.sl 0 1 0 m)), (8, iV (i : Nat))] [.row 9 1 m (rowC encS A)]) (endG (msk 69 [0, 1, 2, 7, 8]) (resOf Try.prog Try.f38)) = bT (decide ((↑i : Int) < (↑L.length : Int)))
    (Tr.done X.normal
      (cst 69 [(0, V.c (C.p (PV.i IntKind.i64 P))), (1, V.c (C.p (PV.l 3 L.length (rowP enc3 L)))), (2, V.c (C.p (PV.i IntKind.i64 t))), (7, V.c (C.sl 0 1 0 m)), (8, V.c (C.p (PV.i IntKind.i64 (↑i : Int))))] [AO.row 9 1 m fun e o => renC [0] (rowC encS A e o)]))
    (Tr.done (X.exit 0)
      (cst 69 [(0, V.c (C.p (PV.i IntKind.i64 P))), (1, V.c (C.p (PV.l 3 L.length (rowP enc3 L)))), (2, V.c (C.p (PV.i IntKind.i64 t))), (7, V.c (C.sl 0 1 0 m)), (8, V.c (C.p (PV.i IntKind.i64 (↑i : Int))))] [AO.row 9 1 m fun e o => renC [0] (rowC encS A e o)])) := by kernel_rfl
theorem tPc (P t : Int) (L : List Sh) (A : List ByteArray) (m i : Nat) : exTs ext0 (takeL 3 (flat (inr (nth .skip (lpB (pcs Try.prog Try.f38) 3) 2)))) (cst 69 [(0, iV P), (1, listV enc3 3 L), (2, iV t), (7, .c (.sl 0 1 0 m)), (8, iV (i : Nat))] [.row 9 1 m (rowC encS A)]) (endG (msk 69 [0, 1, 2, 7, 8, 9, 10, 11]) (resOf Try.prog Try.f38)) = Tr.rq (0 ≤ t ∧ 0 < P)
    (Tr.done X.normal
      (cst 69 [(0, V.c (C.p (PV.i IntKind.i64 P))), (1, V.c (C.p (PV.l 3 L.length (rowP enc3 L)))), (2, V.c (C.p (PV.i IntKind.i64 t))), (7, V.c (C.sl 0 1 0 m)), (8, V.c (C.p (PV.i IntKind.i64 (↑i : Int)))), (9, V.c (C.p (PV.i IntKind.i64 (t % P)))), (10, V.c (C.p (PV.b false))), (11, V.c (C.p (PV.i IntKind.i64 0)))] [AO.row 9 1 m fun e o => renC [0] (rowC encS A e o)])) := by kernel_rfl
theorem tPd (P t a : Int) (L : List Sh) (A : List ByteArray) (m i k : Nat) (kn : Bool) : exTs ext0 (lpB (flat (inr (nth .skip (lpB (pcs Try.prog Try.f38) 3) 2))) 3) (cst 69 [(0, iV P), (1, listV enc3 3 L), (2, iV t), (7, .c (.sl 0 1 0 m)), (8, iV (i : Nat)), (9, iV a), (10, bV kn), (11, iV (k : Nat))] [.row 9 1 m (rowC encS A)]) (endG (msk 69 [0, 1, 2, 7, 8, 9, 10, 11]) (resOf Try.prog Try.f38)) = bT (decide ((↑k : Int) < (↑m : Int)))
    (bT kn
      (Tr.rq (inR IntKind.i64 ((↑k : Int) + 1))
        (Tr.done X.normal
          (cst 69 [(0, V.c (C.p (PV.i IntKind.i64 P))), (1, V.c (C.p (PV.l 3 L.length (rowP enc3 L)))), (2, V.c (C.p (PV.i IntKind.i64 t))), (7, V.c (C.sl 0 1 0 m)), (8, V.c (C.p (PV.i IntKind.i64 (↑i : Int)))), (9, V.c (C.p (PV.i IntKind.i64 a))), (10, V.c (C.p (PV.b true))), (11, V.c (C.p (PV.i IntKind.i64 ((↑k : Int) + 1))))] [AO.row 9 1 m fun e o => renC [0] (rowC encS A e o)])))
      (Tr.rq (0 ≤ (↑k : Int) ∧ (↑k : Int) < (↑m : Int))
        (Tr.rq ((↑k : Int).toNat + 0 < m)
          (Tr.rq (0 ≤ (↑i : Int) ∧ (↑i : Int) < (↑L.length : Int))
            (Tr.rq (inR IntKind.i64 ((↑k : Int) + 1))
              (Tr.done X.normal
                (cst 69 [(0, V.c (C.p (PV.i IntKind.i64 P))), (1, V.c (C.p (PV.l 3 L.length (rowP enc3 L)))), (2, V.c (C.p (PV.i IntKind.i64 t))), (7, V.c (C.sl 0 1 0 m)), (8, V.c (C.p (PV.i IntKind.i64 (↑i : Int)))), (9, V.c (C.p (PV.i IntKind.i64 a))), (10, V.c (C.p (PV.b ((A.getD ((↑k : Int).toNat + 0) default).toList == (L.getD (↑i : Int).toNat default).fst.toList)))), (11, V.c (C.p (PV.i IntKind.i64 ((↑k : Int) + 1))))] [AO.row 9 1 m fun e o => renC [0] (rowC encS A e o)])))))))
    (Tr.done (X.exit 2)
      (cst 69 [(0, V.c (C.p (PV.i IntKind.i64 P))), (1, V.c (C.p (PV.l 3 L.length (rowP enc3 L)))), (2, V.c (C.p (PV.i IntKind.i64 t))), (7, V.c (C.sl 0 1 0 m)), (8, V.c (C.p (PV.i IntKind.i64 (↑i : Int)))), (9, V.c (C.p (PV.i IntKind.i64 a))), (10, V.c (C.p (PV.b kn))), (11, V.c (C.p (PV.i IntKind.i64 (↑k : Int))))] [AO.row 9 1 m fun e o => renC [0] (rowC encS A e o)])) := by kernel_rfl
theorem tPe (P t a : Int) (L : List Sh) (A : List ByteArray) (m i k : Nat) (kn : Bool) : exTs ext0 (dropL 4 (flat (inr (nth .skip (lpB (pcs Try.prog Try.f38) 3) 2)))) (cst 69 [(0, iV P), (1, listV enc3 3 L), (2, iV t), (7, .c (.sl 0 1 0 m)), (8, iV (i : Nat)), (9, iV a), (10, bV kn), (11, iV (k : Nat))] [.row 9 1 m (rowC encS A)]) (endG (msk 69 [0, 1, 2, 7, 8]) (resOf Try.prog Try.f38)) = Tr.rq (0 ≤ (↑i : Int) ∧ (↑i : Int) < (↑L.length : Int))
    (bT (decide ((L.getD (↑i : Int).toNat default).snd.fst ≤ a))
      (Tr.rq (0 ≤ (↑i : Int) ∧ (↑i : Int) < (↑L.length : Int))
        (bT (decide (a < (L.getD (↑i : Int).toNat default).snd.snd))
          (bT (!kn)
            (Tr.rq (0 ≤ (↑i : Int) ∧ (↑i : Int) < (↑L.length : Int))
              (Tr.rq (m = m)
                (Tr.rq (1 ≤ 1)
                  (Tr.rq
                    ((m + 1) * 16 ≤ 140737488355328 ∧
                      m + 1 ≤ 140737488355328 ∧ ∀ (e o : Nat), e < 1 → o < 1 → oneC (nth C.top [C.p (PV.s (L.getD (↑i : Int).toNat default).fst)] ((e + 0) * 1 + o)) = true)
                    (Tr.done X.normal
                      (cst 69 [(0, V.c (C.p (PV.i IntKind.i64 P))), (1, V.c (C.p (PV.l 3 L.length (rowP enc3 L)))), (2, V.c (C.p (PV.i IntKind.i64 t))), (7, V.c (C.sl 0 1 0 (m + 1))), (8, V.c (C.p (PV.i IntKind.i64 (↑i : Int))))] [AO.row 9 1 (m + 1) fun e o => renC [2] (appF m (rowC encS A) (fun e o => nth C.top [C.p (PV.s (L.getD (↑i : Int).toNat default).fst)] ((e + 0) * 1 + o)) e o)]))))))
            (Tr.done X.normal
              (cst 69 [(0, V.c (C.p (PV.i IntKind.i64 P))), (1, V.c (C.p (PV.l 3 L.length (rowP enc3 L)))), (2, V.c (C.p (PV.i IntKind.i64 t))), (7, V.c (C.sl 0 1 0 m)), (8, V.c (C.p (PV.i IntKind.i64 (↑i : Int))))] [AO.row 9 1 m fun e o => renC [0] (rowC encS A e o)])))
          (Tr.done X.normal
            (cst 69 [(0, V.c (C.p (PV.i IntKind.i64 P))), (1, V.c (C.p (PV.l 3 L.length (rowP enc3 L)))), (2, V.c (C.p (PV.i IntKind.i64 t))), (7, V.c (C.sl 0 1 0 m)), (8, V.c (C.p (PV.i IntKind.i64 (↑i : Int))))] [AO.row 9 1 m fun e o => renC [0] (rowC encS A e o)]))))
      (Tr.done X.normal
        (cst 69 [(0, V.c (C.p (PV.i IntKind.i64 P))), (1, V.c (C.p (PV.l 3 L.length (rowP enc3 L)))), (2, V.c (C.p (PV.i IntKind.i64 t))), (7, V.c (C.sl 0 1 0 m)), (8, V.c (C.p (PV.i IntKind.i64 (↑i : Int))))] [AO.row 9 1 m fun e o => renC [0] (rowC encS A e o)]))) := by kernel_rfl
theorem tPf (P t : Int) (L : List Sh) (A : List ByteArray) (m i : Nat) : exTs ext0 (dropL 3 (lpB (pcs Try.prog Try.f38) 3)) (cst 69 [(0, iV P), (1, listV enc3 3 L), (2, iV t), (7, .c (.sl 0 1 0 m)), (8, iV (i : Nat))] [.row 9 1 m (rowC encS A)]) (endG (msk 69 [0, 1, 2, 7, 8]) (resOf Try.prog Try.f38)) = Tr.rq (inR IntKind.i64 ((↑i : Int) + 1))
    (Tr.done X.normal
      (cst 69 [(0, V.c (C.p (PV.i IntKind.i64 P))), (1, V.c (C.p (PV.l 3 L.length (rowP enc3 L)))), (2, V.c (C.p (PV.i IntKind.i64 t))), (7, V.c (C.sl 0 1 0 m)), (8, V.c (C.p (PV.i IntKind.i64 ((↑i : Int) + 1))))] [AO.row 9 1 m fun e o => renC [0] (rowC encS A e o)])) := by kernel_rfl
theorem tPg (P t : Int) (L : List Sh) (A : List ByteArray) (m i : Nat) : exTs ext0 (dropL 4 (pcs Try.prog Try.f38)) (cst 69 [(0, iV P), (1, listV enc3 3 L), (2, iV t), (7, .c (.sl 0 1 0 m)), (8, iV (i : Nat))] [.row 9 1 m (rowC encS A)]) (endG [] (resOf Try.prog Try.f38)) = Tr.rq (0 + m ≤ m ∧ ∀ (e o : Nat), e < m → o < 1 → isF (rowC encS A (e + 0) o) = true) (Tr.done X.ret (St.mk [V.c (C.p (PV.l 1 m fun e o => unP (rowC encS A (e + 0) o)))] [])) := by kernel_rfl
theorem tRD (P t l : Int) (L : List Sh) : exTs extRD (pcs Try.prog Try.f35) (st0 Try.f35 [iV P, listV enc3 3 L, iV t, iV l]) (endG [] (resOf Try.prog Try.f35)) = Tr.rq (IsL enc3 3 (decL dec3 L.length (rowP enc3 L)) L.length (rowP enc3 L) ∧ L.length ≤ 1000000)
    (bT (rotaZ P (decL dec3 L.length (rowP enc3 L)) != 0)
      (Tr.done X.ret (St.mk [V.t [V1.c (C.p (PV.s (ByteArray.mk #[]))), V1.c (C.p (PV.i IntKind.i64 (rotaZ P (decL dec3 L.length (rowP enc3 L)))))]] []))
      (bT (decide (t < 0)) (Tr.done X.ret (St.mk [V.t [V1.c (C.p (PV.s (ByteArray.mk #[]))), V1.c (C.p (PV.i IntKind.i64 5))]] []))
        (bT (decide (1048576 < t)) (Tr.done X.ret (St.mk [V.t [V1.c (C.p (PV.s (ByteArray.mk #[]))), V1.c (C.p (PV.i IntKind.i64 5))]] []))
          (bT (decide (l < 0)) (Tr.done X.ret (St.mk [V.t [V1.c (C.p (PV.s (ByteArray.mk #[]))), V1.c (C.p (PV.i IntKind.i64 1))]] []))
            (Tr.rq ((IsL enc3 3 (decL dec3 L.length (rowP enc3 L)) L.length (rowP enc3 L) ∧ L.length ≤ 1000000) ∧ 0 ≤ t ∧ 0 < P)
              (Tr.rq (inR IntKind.i64 ((↑(pers (t % P) (decL dec3 L.length (rowP enc3 L))).length : Int) - 1))
                (Tr.rq
                  ((0 ≤ if (↑(pers (t % P) (decL dec3 L.length (rowP enc3 L))).length : Int) - 1 < l then (↑(pers (t % P) (decL dec3 L.length (rowP enc3 L))).length : Int) - 1 else l) ∧
                    (if (↑(pers (t % P) (decL dec3 L.length (rowP enc3 L))).length : Int) - 1 < l then (↑(pers (t % P) (decL dec3 L.length (rowP enc3 L))).length : Int) - 1 else l) <
                      (↑(pers (t % P) (decL dec3 L.length (rowP enc3 L))).length : Int))
                  (Tr.done X.ret
                    (St.mk [V.t [V1.c (C.p (PV.s ((pers (t % P) (decL dec3 L.length (rowP enc3 L))).getD (if (↑(pers (t % P) (decL dec3 L.length (rowP enc3 L))).length : Int) - 1 < l then (↑(pers (t % P) (decL dec3 L.length (rowP enc3 L))).length : Int) - 1 else l).toNat default))), V1.c (C.p (PV.i IntKind.i64 0))]] []))))))))) := by kernel_rfl
theorem tLD (P t l : Int) (L : List Sh) : exTs extLD (pcs Try.prog Try.f27) (st0 Try.f27 [iV P, listV enc3 3 L, iV t, iV l]) (endG [] (resOf Try.prog Try.f27)) = Tr.rq (IsL enc3 3 (decL dec3 L.length (rowP enc3 L)) L.length (rowP enc3 L) ∧ L.length ≤ 1000000)
    (Tr.rq
      (IsL enc3 3 (decL dec3 (decL dec3 L.length (rowP enc3 L)).length (rowP enc3 (decL dec3 L.length (rowP enc3 L)))) (decL dec3 L.length (rowP enc3 L)).length
          (rowP enc3 (decL dec3 L.length (rowP enc3 L))) ∧
        (decL dec3 L.length (rowP enc3 L)).length ≤ 1000000)
      (Tr.rq (IsL enc3 3 (decL dec3 L.length (rowP enc3 L)) L.length (rowP enc3 L) ∧ L.length ≤ 1000000)
        (bT ((dutyZ P (decL dec3 (decL dec3 L.length (rowP enc3 L)).length (rowP enc3 (decL dec3 L.length (rowP enc3 L)))) t l).fst.toList == (dutyZ P (decL dec3 L.length (rowP enc3 L)) t l).fst.toList)
          (Tr.done X.ret
            (St.mk [V.c (C.p (PV.b ((dutyZ P (decL dec3 (decL dec3 L.length (rowP enc3 L)).length (rowP enc3 (decL dec3 L.length (rowP enc3 L)))) t l).snd == (dutyZ P (decL dec3 L.length (rowP enc3 L)) t l).snd)))] []))
          (Tr.done X.ret (St.mk [V.c (C.p (PV.b false))] []))))) := by kernel_rfl
section
variable {G : Nat → Option Obj}
set_option maxRecDepth 100000 in
theorem okPersons : ModOK Try.prog G 38 mPersons := by
  intro args p v hm hp h
  unfold mPersons at hm
  split at hm; rotate_left; · cases hm
  rename_i P n f t
  obtain ⟨rfl, rfl⟩ := some_pair hm
  obtain ⟨⟨hL, hn⟩, ht0, hP0⟩ := hp
  have hlen : (decL dec3 n f).length ≤ 1000000 := by rw [hL.1]; exact hn
  generalize decL dec3 n f = L at hL hlen
  refine FnS.args (args' := [iV P, listV enc3 3 L, iV t]) ?_ (.cons (.refl _) (.cons hL.le (.cons (.refl _) .nil)))
  clear hL
  refine fn_S Try.func38 (by kernel_rfl) rfl ?_ h
  generalize hW : pers (t % P) L = W
  refine ExS.evG ext0_sound 3 (tPa P t L) ?_
  simp only [holds_done, kf_normal]
  refine ExS.loop' (l := dropL 3 (pcs Try.prog Try.f38)) (b := inr (inr (nth .skip (pcs Try.prog Try.f38) 3))) (r := dropL 4 (pcs Try.prog Try.f38)) (id := 0) (by kernel_rfl) (σ := Nat × List ByteArray)
    (fun x => (fun (i : Nat) (A : List ByteArray) (m : Nat) => cst 69 [(0, iV P), (1, listV enc3 3 L), (2, iV t), (7, .c (.sl 0 1 0 m)), (8, iV (i : Nat))] [.row 9 1 m (rowC encS A)]) x.1 x.2 x.2.length) (fun x => x.1 ≤ L.length ∧ x.2.length ≤ x.1 ∧ persF (t % P) (L.drop x.1) x.2 = W) (fun x => L.length - x.1) (0, []) ⟨Nat.zero_le _, Nat.le_refl _, hW⟩
    ((weak_nil 9 1 (rowC encS []) 7 (by kernel_rfl)).trans (weak_of_eq (by kernel_rfl))) ?_
  rintro ⟨i, A⟩ ⟨hi, hA, hno⟩ Q q1n q1e -
  dsimp only at hi hA hno q1n q1e ⊢
  refine ExS.evG ext0_sound 2 (tPb P t L A A.length i) ?_
  simp only [holds_bT, holds_rq, holds_leaf, kf_ret', kf_normal, kf_exit, decide_eq_true_eq, decide_eq_false_iff_not]
  refine ⟨fun h1 => ⟨?_⟩, fun h1 => ⟨q1e _ ?_⟩⟩
  rotate_left
  · rw [List.drop_of_length_le (by omega)] at hno
    obtain rfl : A = W := hno
    refine ExS.evH ext0_sound (tPg P t L A A.length i) ?_
    simp only [holds_rq, holds_leaf, kf_ret']
    exact ⟨⟨by omega, fun _ _ _ _ => rfl⟩, ⟨VLe.refl _⟩⟩
  have hst := persF_drop (a := t % P) (L := L) (i := i) (acc := A) (by omega)
  rw [hno] at hst
  refine ExS.blk' (l := dropL 2 (lpB (pcs Try.prog Try.f38) 3)) (id := 1) (a := inr (nth .skip (lpB (pcs Try.prog Try.f38) 3) 2)) (r := dropL 3 (lpB (pcs Try.prog Try.f38) 3)) (by kernel_rfl) ?_
  intro Q2 q2n q2e _
  have fin : ∀ (A' : List ByteArray) st, A'.length ≤ i + 1 → persF (t % P) (L.drop (i + 1)) A' = W → WeakS G st ((fun (i : Nat) (A : List ByteArray) (m : Nat) => cst 69 [(0, iV P), (1, listV enc3 3 L), (2, iV t), (7, .c (.sl 0 1 0 m)), (8, iV (i : Nat))] [.row 9 1 m (rowC encS A)]) i A' A'.length) → ExS Try.prog G (resOf Try.prog Try.f38) (listV encS 1 W) (dropL 3 (lpB (pcs Try.prog Try.f38) 3)) st Q := fun A' st hA' hno' hst => by
    refine ExS.pre hst (ExS.evH ext0_sound (tPf P t L A' A'.length i) ?_)
    simp only [holds_rq, holds_leaf, kf_normal, inR]
    exact ⟨by omega, ⟨q1n (i + 1, A') _ ⟨by show i + 1 ≤ L.length; omega, hA', hno'⟩ (by show L.length - (i + 1) < L.length - i; omega) (weak_of_eq (by kernel_rfl))⟩⟩
  refine ExS.evG ext0_sound 3 (tPc P t L A A.length i) ?_
  simp only [holds_rq, holds_leaf, kf_normal]
  refine ⟨⟨ht0, hP0⟩, ⟨?_⟩⟩
  generalize t % P = a at *
  refine ExS.loop' (l := dropL 3 (flat (inr (nth .skip (lpB (pcs Try.prog Try.f38) 3) 2)))) (b := inr (inr (nth .skip (flat (inr (nth .skip (lpB (pcs Try.prog Try.f38) 3) 2))) 3))) (r := dropL 4 (flat (inr (nth .skip (lpB (pcs Try.prog Try.f38) 3) 2)))) (id := 2) (by kernel_rfl) (σ := Nat × Bool)
    (fun (k, kn) => (fun (m : Nat) => cst 69 [(0, iV P), (1, listV enc3 3 L), (2, iV t), (7, .c (.sl 0 1 0 m)), (8, iV (i : Nat)), (9, iV a), (10, bV kn), (11, iV (k : Nat))] [.row 9 1 m (rowC encS A)]) A.length) (fun (k, kn) => k ≤ A.length ∧ (kn = true ↔ (L.getD i default).1 ∈ A.take k)) (fun (k, _) => A.length - k) (0, false) ⟨Nat.zero_le _, by simp⟩ (weak_of_eq (by kernel_rfl)) ?_
  rintro ⟨k, kn⟩ ⟨hk, hkn⟩ Q3 q3n q3e -
  refine ExS.evH ext0_sound (tPd P t a L A A.length i k kn) ?_
  have hmt : k < A.length → ((L.getD i default).1 ∈ A.take (k + 1) ↔ (L.getD i default).1 ∈ A.take k ∨ (L.getD i default).1 = A.getD k default) := fun h => by
    rw [List.take_add_one, List.mem_append, List.getD_eq_getElem?_getD (l := A), List.getElem?_eq_getElem h]
    simp only [Option.toList, List.mem_singleton, Option.getD_some]
  simp only [holds_bT, holds_rq, holds_leaf, kf_normal, kf_exit, decide_eq_true_eq, decide_eq_false_iff_not, inR, beq_bytes2, show (↑k : Int).toNat = k from rfl, show (↑i : Int).toNat = i from rfl, show ∀ x : Nat, x + 0 = x from fun _ => rfl]
  refine ⟨fun h4 => ⟨fun c2 => ⟨by omega, ⟨q3n (k + 1, true) _ ⟨by omega, ?_⟩ (by simp only; omega) (weak_of_eq (by kernel_rfl))⟩⟩, fun c2 => ⟨by omega, by omega, by omega, by omega, ⟨q3n (k + 1, decide (A.getD k default = (L.getD i default).1)) _ ⟨by omega, ?_⟩ (by simp only; omega) (weak_of_eq (by kernel_rfl))⟩⟩⟩, fun h4 => ⟨q3e _ ?_⟩⟩
  · rw [hmt (by omega)]
    exact ⟨fun _ => .inl (hkn.1 c2), fun _ => rfl⟩
  · rw [hmt (by omega), decide_eq_true_iff]
    have hno : (L.getD i default).1 ∉ A.take k := fun h => by rw [hkn.2 h] at c2; cases c2
    exact ⟨fun e => .inr e.symm, fun h => (h.resolve_left hno).symm⟩
  · obtain rfl : k = A.length := by omega
    rw [List.take_length, ← hasS_iff] at hkn
    obtain rfl : kn = hasS (L.getD i default).1 A := by rw [Bool.eq_iff_iff]; exact hkn
    refine ExS.evH ext0_sound (tPe P t a L A A.length i A.length (hasS (L.getD i default).1 A)) ?_
    have hsame : ¬ (((L.getD i default).2.1 ≤ a ∧ a < (L.getD i default).2.2) ∧ hasS (L.getD i default).1 A = false) → persF a (L.drop (i + 1)) A = W := fun hc => by
      rw [if_neg hc] at hst
      exact hst.symm
    simp only [holds_bT, holds_rq, holds_leaf, kf_normal, decide_eq_true_eq, decide_eq_false_iff_not, Bool.not_eq_true', Bool.not_eq_false', show (↑i : Int).toNat = i from rfl]
    refine ⟨by omega, fun c1 => ⟨by omega, fun c2 => ⟨fun c3 => ⟨by omega, trivial, Nat.le_refl _, ⟨by omega, by omega, ?_⟩, ⟨q2n _ (fin (A ++ [(L.getD i default).1]) _ ?_ ?_ ?_)⟩⟩, fun c3 => ⟨q2n _ (fin A _ (by omega) (hsame ?_) (weak_of_eq (by kernel_rfl)))⟩⟩, fun c2 => ⟨q2n _ (fin A _ (by omega) (hsame ?_) (weak_of_eq (by kernel_rfl)))⟩⟩, fun c1 => ⟨q2n _ (fin A _ (by omega) (hsame ?_) (weak_of_eq (by kernel_rfl)))⟩⟩
    · intro e o he ho
      obtain rfl : e = 0 := by omega
      obtain rfl : o = 0 := by omega
      rfl
    · rw [List.length_append]
      exact Nat.succ_le_succ hA
    · rw [if_pos ⟨⟨c1, c2⟩, c3⟩] at hst
      exact hst.symm
    · rw [show (A ++ [(L.getD i default).1]).length = A.length + 1 by simp]
      refine weak_cst ?_
      exact ⟨⟨rfl, rfl, rfl, fun e o he ho => app1' rfl (fun o ho => by obtain rfl : o = 0 := by omega
                                                                        rfl) he ho⟩, trivial⟩
    · rintro ⟨-, c4⟩; rw [c3] at c4; cases c4
    · rintro ⟨⟨-, c4⟩, -⟩; exact c2 c4
    · rintro ⟨⟨c4, -⟩, -⟩; exact c1 c4
theorem extRD_sound : SoundExt Try.prog G extRD := extOf_sound (by simp; exact ⟨okValidRotaR, okPersons⟩)
set_option maxRecDepth 100000 in
theorem okOnDutyR : ModOK Try.prog G 35 mDuty := by
  intro args p v hm hp h
  unfold mDuty at hm
  split at hm; rotate_left; · cases hm
  rename_i P n f t l
  obtain ⟨rfl, rfl⟩ := some_pair hm
  obtain ⟨hL, hn⟩ := hp
  have hlen : (decL dec3 n f).length ≤ 1000000 := by rw [hL.1]; exact hn
  generalize decL dec3 n f = L at hL hlen
  refine FnS.args (args' := [iV P, listV enc3 3 L, iV t, iV l]) ?_ (.cons (.refl _) (.cons hL.le (.cons (.refl _) (.cons (.refl _) .nil))))
  clear hL
  refine fn_S Try.func35 (by kernel_rfl) rfl ?_ h
  refine ExS.evH extRD_sound (tRD P t l L) ?_
  simp only [holds_bT, holds_rq, holds_leaf, kf_normal, kf_ret', decide_eq_true_eq, decide_eq_false_iff_not, dec3_row]
  have hout : ∀ (a : ByteArray) (c : Int), dutyZ P L t l = (a, c) → Leaf (VLe (V.t [V1.c (C.p (PV.s a)), V1.c (C.p (PV.i .i64 c))]) (dutyV (dutyZ P L t l))) := fun a c h => ⟨VLe.of_eq (by rw [h]; rfl)⟩
  refine ⟨⟨isL_row _ _ _, hlen⟩, fun h1 => hout _ _ ?_, fun h1 => ?_⟩
  · unfold dutyZ; rw [if_pos (by simpa using h1)]
  have hz : rotaZ P L = 0 := by simpa using h1
  obtain ⟨⟨hP, hP'⟩, hl2, hsc, hful⟩ := rotaZ_ok hz
  have hd : ¬ t < 0 → ¬ 1048576 < t → ¬ l < 0 → dutyZ P L t l = ((pers (t % P) L).getD (min l ((pers (t % P) L).length - 1)).toNat default, 0) := fun h2 h3 h4 => by
    unfold dutyZ; rw [if_neg (by omega), if_neg (by omega), if_neg h4]
  have hpos := pers_pos (hful (t % P) (Int.emod_nonneg _ (by omega)) (Int.emod_lt_of_pos _ (by omega)))
  have hpl : (pers (t % P) L).length ≤ 0 + L.length := persF_length L []
  have e1 : (if ((pers (t % P) L).length : Int) - 1 < l then ((pers (t % P) L).length : Int) - 1 else l) = min l ((pers (t % P) L).length - 1) := by
    rw [Int.min_def]; split <;> split <;> omega
  rw [e1]
  refine ⟨fun h2 => hout _ _ ?_, fun h2 => ⟨fun h3 => hout _ _ ?_, fun h3 => ⟨fun h4 => hout _ _ ?_, fun h4 => ⟨⟨⟨isL_row _ _ _, hlen⟩, by omega, by omega⟩, ⟨by omega, by omega⟩, ⟨by omega, by omega⟩, hout _ _ (hd h2 h3 h4)⟩⟩⟩⟩
  · unfold dutyZ; rw [if_neg (by omega), if_pos (by omega)]
  · unfold dutyZ; rw [if_neg (by omega), if_pos (by omega)]
  · unfold dutyZ; rw [if_neg (by omega), if_neg (by omega), if_pos h4]
theorem extLD_sound : SoundExt Try.prog G extLD := extOf_sound (by simp; exact ⟨okShifts, okOnDuty, okOnDutyR⟩)
set_option maxRecDepth 100000 in
theorem okLDuty : ModOK Try.prog G 27 mLDuty := by
  intro args p v hm hp h
  unfold mLDuty at hm
  split at hm; rotate_left; · cases hm
  rename_i P n f t l
  obtain ⟨rfl, rfl⟩ := some_pair hm
  obtain ⟨hL, hn⟩ := hp
  have hlen : (decL dec3 n f).length ≤ 1000000 := by rw [hL.1]; exact hn
  generalize decL dec3 n f = L at hL hlen
  refine FnS.args (args' := [iV P, listV enc3 3 L, iV t, iV l]) ?_ (.cons (.refl _) (.cons hL.le (.cons (.refl _) (.cons (.refl _) .nil))))
  clear hL
  refine fn_S Try.func27 (by kernel_rfl) rfl ?_ h
  refine ExS.evH extLD_sound (tLD P t l L) ?_
  simp only [holds_bT, holds_rq, holds_leaf, kf_normal, kf_ret', dec3_row, beq_self_eq_true]
  refine ⟨⟨isL_row _ _ _, hlen⟩, ⟨isL_row _ _ _, hlen⟩, ⟨isL_row _ _ _, hlen⟩, fun _ => ⟨VLe.refl _⟩, fun h => by cases h⟩
end
end Go.AE
