/- AE contracts: ref01.Pick, ref29.Reached. -/
import Derived.Test.YtkpladkcppeciaaS3
import Derived.Test.YtkpladkcppeciaaGr
import Derived.Test.YtkpladkcppeciaaAe26
namespace Go.AE
set_option linter.unusedSimpArgs false
open Go.Proofs Go.Proofs.Ytkpladkcppeciaa
set_option linter.unusedVariables false
def encE (x : Ed) (o : Nat) : PV := match o with
  | 0 => .i .i64 x.1
  | _ => .i .i64 x.2
def decE (f : Nat → PV) : Ed := (intOfP (f 0), intOfP (f 1))
/-- A graph. -/
def gV (n : Nat) (E : List Ed) : V := .a [.p (.i .i64 (n : Nat)), .p (listP encE 2 E)]
def pickZ (L : List Int) (i m : Int) : Int := if i < 0 ∨ L.length ≤ i then 0 else aroundZ (L.getD i.toNat default) m
def Ints (L : List Int) : Prop := ∀ x ∈ L, inR .i64 x
def mPick : Mod
  | [.c (.p (.l 1 n f)), .c (.p (.i .i64 i)), .c (.p (.i .i64 m))] => some (IsL encI 1 (decL decI n f) n f ∧ Ints (decL decI n f) ∧ 0 < m, iV (pickZ (decL decI n f) i m))
  | _ => none
theorem tPick (L : List Int) (i m : Int) : exTs extA (pcs Try.prog Try.f14) (st0 Try.f14 [listV encI 1 L, iV i, iV m]) (endF [] [] (resOf Try.prog Try.f14)) = bT (decide (i < 0)) (Tr.done X.ret (St.mk [V.c (C.p (PV.i IntKind.i64 0))] []))
    (bT (decide ((↑L.length : Int) ≤ i)) (Tr.done X.ret (St.mk [V.c (C.p (PV.i IntKind.i64 0))] []))
      (Tr.rq (0 ≤ i ∧ i < (↑L.length : Int)) (Tr.rq (inR IntKind.i64 (L.getD i.toNat default) ∧ 0 < m) (Tr.done X.ret (St.mk [V.c (C.p (PV.i IntKind.i64 (aroundZ (L.getD i.toNat default) m)))] []))))) := by kernel_rfl
theorem decE_row (L : List Ed) : decL decE L.length (rowP encE L) = L := decL_row (fun _ => rfl) L
theorem getD_mem {L : List Int} {i : Nat} (h : i < L.length) : L.getD i default ∈ L := by
  rw [List.getD_eq_getElem?_getD, List.getElem?_eq_getElem h]
  exact List.getElem_mem h
theorem getD_memE {L : List Ed} {i : Nat} (h : i < L.length) : L.getD i default ∈ L := by
  rw [List.getD_eq_getElem?_getD, List.getElem?_eq_getElem h]
  exact List.getElem_mem h
theorem one_row {ρ : List Nat} {a : Int} {e o : Nat} (he : e < 1) (ho : o < 1) : renC ρ (nth C.top [C.p (PV.i IntKind.i64 a)] (e * 1 + o)) = rowC encI [a] e o := by
  obtain rfl : e = 0 := by omega
  obtain rfl : o = 0 := by omega
  rfl
theorem PLe.of_isL {α : Type} [Inhabited α] {enc : α → Nat → PV} {sz : Nat} {L : List α} {n : Nat} {f : Nat → Nat → PV} (h : IsL enc sz L n f) : PLe (.l sz n f) (listP enc sz L) := by
  obtain ⟨rfl, h2⟩ := h
  exact PLe.l fun e o he ho => PLe.of_eq (h2 e o he ho)
theorem VLe.a2 {x y x' y' : PV} (h : PLe x x') (k : PLe y y') : VLe (.a [.p x, .p y]) (.a [.p x', .p y']) := by
  rintro β R w u ⟨us, rfl, hu⟩
  refine ⟨us, rfl, ?_⟩
  match hus : us.toList, hu with
  | [u1, u2], hu => exact ⟨h _ _ _ hu.1, k _ _ _ hu.2.1, trivial⟩
theorem int_one (a : Int) : ∀ e o : Nat, e < 1 → o < 1 → oneC (nth C.top [C.p (PV.i .i64 a)] ((e + 0) * 1 + o)) = true := by
  intro e o he ho
  obtain rfl : e = 0 := by omega
  obtain rfl : o = 0 := by omega
  rfl
theorem int_at (a : Int) : ∀ o : Nat, o < 1 → (fun e o : Nat => nth C.top [C.p (PV.i .i64 a)] ((e + 0) * 1 + o)) 0 o = .p (encI a o) := by
  intro o ho
  obtain rfl : o = 0 := by omega
  rfl
theorem int_at0 (a : Int) : ∀ o : Nat, o < 1 → (fun e o : Nat => nth C.top [C.p (PV.i .i64 a)] (e * 1 + o)) 0 o = .p (encI a o) := by
  intro o ho
  obtain rfl : o = 0 := by omega
  rfl
section
variable {G : Nat → Option Obj}
set_option maxRecDepth 100000 in
theorem okPick : ModOK Try.prog G 14 mPick := by
  intro args p v hm hp h
  unfold mPick at hm
  split at hm; rotate_left; · cases hm
  rename_i n f i m
  obtain ⟨rfl, rfl⟩ := some_pair hm
  obtain ⟨hL, hI, hm0⟩ := hp
  generalize decL decI n f = L at hL hI
  refine FnS.args (args' := [listV encI 1 L, iV i, iV m]) ?_ (.cons hL.le (.cons (.refl _) (.cons (.refl _) .nil)))
  refine fn_S Try.func14 (by kernel_rfl) rfl ?_ h
  refine ExS.evA extA_sound [] [] rfl (tPick L i m) ?_
  have bad : (i < 0 ∨ L.length ≤ i) → VLe (V.c (C.p (PV.i .i64 0))) (iV (pickZ L i m)) := fun hi => by
    unfold pickZ; rw [if_pos hi]; exact VLe.refl _
  have good : ¬ (i < 0 ∨ L.length ≤ i) → VLe (iV (aroundZ (L.getD i.toNat default) m)) (iV (pickZ L i m)) := fun hi => by
    unfold pickZ; rw [if_neg hi]; exact VLe.refl _
  have hin : ¬ (i < 0 ∨ L.length ≤ i) → inR .i64 (L.getD i.toNat default) := fun hi => hI _ (getD_mem (by omega))
  simp only [holds_bT, holds_rq, holds_leaf, kf_ret', decide_eq_true_eq, decide_eq_false_iff_not]
  repeat' (first | apply And.intro | intro _)
  all_goals first | (clear bad good hin; omega) | exact ⟨bad (by clear bad good hin; omega)⟩ | exact ⟨good (by clear bad good hin; omega)⟩ | exact (hin (by clear bad good hin; omega)).1 | exact (hin (by clear bad good hin; omega)).2
end
end Go.AE
