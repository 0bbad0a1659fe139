/- AE contracts: slices.Index and slices.Contains at []string. -/
import Derived.Test.YtkpladkcppeciaaS2
namespace Go.AE
set_option linter.unusedSimpArgs false
open Go.Proofs Go.Proofs.Ytkpladkcppeciaa
set_option linter.unusedVariables false

/-- The first place of s from place i on. -/
def idxS (s : ByteArray) : List ByteArray → Nat → Int
  | [], _ => -1
  | x :: r, i => if s = x then i else idxS s r (i + 1)
def hasS (s : ByteArray) (L : List ByteArray) : Bool := L.any fun x => decide (s = x)
def mIndexS : Mod
  | [.c (.p (.l 1 n f)), .c (.p (.s s))] => some (IsL encS 1 (decL decS n f) n f ∧ n ≤ 1000000, iV (idxS s (decL decS n f) 0))
  | _ => none
def mContainsS : Mod
  | [.c (.p (.l 1 n f)), .c (.p (.s s))] => some (IsL encS 1 (decL decS n f) n f ∧ n ≤ 1000000, bV (hasS s (decL decS n f)))
  | _ => none
def extIx : Ext := extOf [(42, mIndexS)]

theorem tI1 (L : List ByteArray) (s : ByteArray) : exTs ext0 (takeL 2 (pcs Try.prog Try.f42)) (st0 Try.f42 [listV encS 1 L, sV s]) (endG (msk 19 [0, 1, 7, 8]) (resOf Try.prog Try.f42)) = Tr.done X.normal
    (cst 19 [(0, V.c (C.p (PV.l 1 L.length (rowP encS L)))), (1, V.c (C.p (PV.s s))), (7, V.c (C.p (PV.i IntKind.i64 (↑L.length : Int)))), (8, V.c (C.p (PV.i IntKind.i64 0)))] []) := by kernel_rfl
theorem tI2 (L : List ByteArray) (s : ByteArray) (i : Nat) : exTs ext0 (lpB (pcs Try.prog Try.f42) 2) (cst 19 [(0, listV encS 1 L), (1, sV s), (7, iV (L.length : Nat)), (8, iV (i : Nat))] []) (endG (msk 19 [0, 1, 7, 8]) (resOf Try.prog Try.f42)) = bT (decide ((↑i : Int) < (↑L.length : Int)))
    (Tr.rq (0 ≤ (↑i : Int) ∧ (↑i : Int) < (↑L.length : Int))
      (bT (s.toList == (L.getD (↑i : Int).toNat default).toList) (Tr.done X.ret (St.mk [V.c (C.p (PV.i IntKind.i64 (↑i : Int)))] []))
        (Tr.rq (inR IntKind.i64 ((↑i : Int) + 1))
          (Tr.done X.normal
            (cst 19 [(0, V.c (C.p (PV.l 1 L.length (rowP encS L)))), (1, V.c (C.p (PV.s s))), (7, V.c (C.p (PV.i IntKind.i64 (↑L.length : Int)))), (8, V.c (C.p (PV.i IntKind.i64 ((↑i : Int) + 1))))] [])))))
    (Tr.done (X.exit 0)
      (cst 19 [(0, V.c (C.p (PV.l 1 L.length (rowP encS L)))), (1, V.c (C.p (PV.s s))), (7, V.c (C.p (PV.i IntKind.i64 (↑L.length : Int)))), (8, V.c (C.p (PV.i IntKind.i64 (↑i : Int))))] [])) := by kernel_rfl
theorem tI3 (L : List ByteArray) (s : ByteArray) (i : Nat) : exTs ext0 (dropL 3 (pcs Try.prog Try.f42)) (cst 19 [(0, listV encS 1 L), (1, sV s), (7, iV (L.length : Nat)), (8, iV (i : Nat))] []) (endG [] (resOf Try.prog Try.f42)) = Tr.done X.ret (St.mk [V.c (C.p (PV.i IntKind.i64 (-1)))] []) := by kernel_rfl
theorem tO1 (L : List ByteArray) (s : ByteArray) : exTs extIx (pcs Try.prog Try.f35) (st0 Try.f35 [listV encS 1 L, sV s]) (endG [] (resOf Try.prog Try.f35)) = Tr.rq (IsL encS 1 (decL decS L.length (rowP encS L)) L.length (rowP encS L) ∧ L.length ≤ 1000000)
    (Tr.done X.ret (St.mk [V.c (C.p (PV.b (decide (0 ≤ idxS s (decL decS L.length (rowP encS L)) 0))))] [])) := by kernel_rfl
theorem beq_bytes2 (a b : ByteArray) : (a.toList == b.toList) = decide (a = b) := by
  rw [Bool.eq_iff_iff, decide_eq_true_iff, beq_iff_eq, ByteArray.toList_eq, ByteArray.toList_eq]
  exact ⟨fun h => ByteArray.ext (Array.toList_inj.mp h), fun h => by rw [h]⟩
theorem idxS_mem (s : ByteArray) : ∀ (L : List ByteArray) (i : Nat), 0 ≤ idxS s L i ↔ s ∈ L
  | [], i => by simp [idxS]
  | x :: r, i => by
    unfold idxS
    split
    · rename_i h; simp [h]
    · rename_i h; rw [idxS_mem s r (i + 1)]; simp [h]
section
variable {G : Nat → Option Obj}
set_option maxRecDepth 100000 in
theorem okIndexS : ModOK Try.prog G 42 mIndexS := by
  intro args p v hm hp h
  unfold mIndexS at hm
  split at hm; rotate_left; · cases hm
  rename_i n f s
  obtain ⟨rfl, rfl⟩ := some_pair hm
  obtain ⟨hL, hn⟩ := hp
  have hlen : (decL decS n f).length ≤ 1000000 := by rw [hL.1]; exact hn
  generalize decL decS n f = L at hL hlen
  refine FnS.args (args' := [listV encS 1 L, sV s]) ?_ (.cons hL.le (.cons (.refl _) .nil))
  clear hL
  refine fn_S Try.func42 (by kernel_rfl) rfl ?_ h
  refine ExS.evG ext0_sound 2 (tI1 L s) ?_
  simp only [holds_done, kf_normal]
  refine ExS.loop' (l := dropL 2 (pcs Try.prog Try.f42)) (b := inr (inr (nth .skip (pcs Try.prog Try.f42) 2))) (r := dropL 3 (pcs Try.prog Try.f42)) (id := 0) (by kernel_rfl) (σ := Nat)
    (fun i => cst 19 [(0, listV encS 1 L), (1, sV s), (7, iV (L.length : Nat)), (8, iV (i : Nat))] []) (fun i => i ≤ L.length ∧ idxS s (L.drop i) i = idxS s L 0) (fun i => L.length - i) 0 ⟨Nat.zero_le _, rfl⟩ (weak_of_eq (by kernel_rfl)) ?_
  rintro i ⟨hi, hno⟩ Q q1n q1e -
  refine ExS.evH ext0_sound (tI2 L s i) ?_
  have hst : i < L.length → idxS s L 0 = if s = L.getD i default then (i : Int) else idxS s (L.drop (i + 1)) (i + 1) := fun h1 => by
    rw [← hno, List.drop_eq_getElem_cons h1]
    have e : L.getD i default = L[i] := by simp [h1]
    rw [e]
    rfl
  simp only [holds_bT, holds_rq, holds_leaf, kf_ret', kf_normal, kf_exit, decide_eq_true_eq, decide_eq_false_iff_not, beq_bytes2, inR, show (↑i : Int).toNat = i from rfl]
  refine ⟨fun h1 => ⟨⟨by omega, h1⟩, fun c1 => ⟨VLe.of_eq ?_⟩, fun c1 => ⟨by omega, ⟨q1n (i + 1) _ ⟨by omega, ?_⟩ (by omega) (weak_of_eq (by kernel_rfl))⟩⟩⟩, fun h1 => ⟨q1e _ ?_⟩⟩
  · rw [hst (by omega), if_pos c1]; rfl
  · rw [hst (by omega), if_neg c1]
  · refine ExS.evH ext0_sound (tI3 L s i) ?_
    simp only [holds_done, kf_ret']
    rw [List.drop_of_length_le (by omega)] at hno
    rw [← hno]
    exact VLe.refl _
theorem extIx_sound : SoundExt Try.prog G extIx := extOf_sound (by simp; exact okIndexS)
set_option maxRecDepth 100000 in
theorem okContainsS : ModOK Try.prog G 35 mContainsS := by
  intro args p v hm hp h
  unfold mContainsS at hm
  split at hm; rotate_left; · cases hm
  rename_i n f s
  obtain ⟨rfl, rfl⟩ := some_pair hm
  obtain ⟨hL, hn⟩ := hp
  have hlen : (decL decS n f).length ≤ 1000000 := by rw [hL.1]; exact hn
  generalize decL decS n f = L at hL hlen
  refine FnS.args (args' := [listV encS 1 L, sV s]) ?_ (.cons hL.le (.cons (.refl _) .nil))
  clear hL
  refine fn_S Try.func35 (by kernel_rfl) rfl ?_ h
  refine ExS.evH extIx_sound (tO1 L s) ?_
  simp only [holds_rq, holds_done, kf_ret', decS_row]
  refine ⟨⟨isL_row _ _ _, hlen⟩, VLe.of_eq ?_⟩
  have : decide (0 ≤ idxS s L 0) = hasS s L := by
    rw [Bool.eq_iff_iff, decide_eq_true_iff, idxS_mem]
    unfold hasS
    simp
  rw [this]; rfl
end
end Go.AE
