/- AE contracts: ref01.Pick, ref29.Reached. -/
import Derived.Test.YtaofgmfalldcoaaS3
import Derived.Test.YtaofgmfalldcoaaGr
import Derived.Test.YtaofgmfalldcoaaAe26
namespace Go.AE
set_option linter.unusedSimpArgs false
open Go.Proofs Go.Proofs.Ytaofgmfalldcoaa
set_option linter.unusedVariables false

def encE (x : Ed) (o : Nat) : PV := match o with
  | 0 => .i .i64 x.1
  | _ => .i .i64 x.2
def decE (f : Nat → PV) : Ed := (intOfP (f 0), intOfP (f 1))
/-- A graph. -/
def gV (n : Nat) (E : List Ed) : V := .a [.p (.i .i64 (n : Nat)), .p (listP encE 2 E)]
def pickZ (L : List Int) (i m : Int) : Int := if i < 0 ∨ L.length ≤ i then 0 else aroundZ (L.getD i.toNat default) m
def Ints (L : List Int) : Prop := ∀ x ∈ L, inR .i64 x
def mPick : Mod
  | [.c (.p (.l 1 n f)), .c (.p (.i .i64 i)), .c (.p (.i .i64 m))] => some (IsL encI 1 (decL decI n f) n f ∧ Ints (decL decI n f) ∧ 0 < m, iV (pickZ (decL decI n f) i m))
  | _ => none
noncomputable def mReachedR : Mod
  | [.a [.p (.i .i64 N), .p (.l 2 n f)], .c (.p (.i .i64 a))] => some ((0 ≤ N ∧ N ≤ 1000000) ∧ IsL encE 2 (decL decE n f) n f ∧ n ≤ 1000000 ∧ InN N.toNat (decL decE n f), listV encB 1 (rc1 N.toNat (decL decE n f) a))
  | _ => none

theorem tPick (L : List Int) (i m : Int) : exTs extA (pcs Try.prog Try.f29) (st0 Try.f29 [listV encI 1 L, iV i, iV m]) (endF [] [] (resOf Try.prog Try.f29)) = bT (decide (i < 0)) (Tr.done X.ret (St.mk [V.c (C.p (PV.i IntKind.i64 0))] []))
    (bT (decide ((↑L.length : Int) ≤ i)) (Tr.done X.ret (St.mk [V.c (C.p (PV.i IntKind.i64 0))] []))
      (Tr.rq (0 ≤ i ∧ i < (↑L.length : Int)) (Tr.rq (inR IntKind.i64 (L.getD i.toNat default) ∧ 0 < m) (Tr.done X.ret (St.mk [V.c (C.p (PV.i IntKind.i64 (aroundZ (L.getD i.toNat default) m)))] []))))) := by kernel_rfl
theorem tR1 (n : Nat) (E : List Ed) (a : Int) : exTs ext0 (takeL 4 (pcs Try.prog Try.f21)) (st0 Try.f21 [gV n E, iV a]) (endG (msk 60 [2, 5, 6, 7]) (resOf Try.prog Try.f21)) = Tr.rq (0 ≤ (↑n : Int) ∧ (↑n : Int) ≤ (↑n : Int) ∧ (↑n : Int) * (↑1 : Int) ≤ 140737488355328 ∧ (↑n : Int) ≤ 140737488355328)
    (Tr.done X.normal
      (cst 60 [(2, V.c (C.ptr 0 0)), (5, V.c (C.sl 1 1 0 (↑n : Int).toNat)), (6, V.c (C.sl 2 1 0 1)), (7, V.c (C.p (PV.i IntKind.i64 0)))] [AO.cells 25 [C.p (PV.i IntKind.i64 (↑n : Int)), C.p (PV.l 2 E.length (rowP encE E))], AO.row 4 1 (↑n : Int).toNat fun e o => renC [0, 1, 2] (C.p (nth (PV.b false) [PV.b false] o)), AO.row 3 1 1 fun e o => renC [0, 1, 2] (nth C.top [C.p (PV.i IntKind.i64 a)] (e * 1 + o))])) := by kernel_rfl
theorem tR2 (n m i : Nat) (E : List Ed) (out : List Bool) (nx : List Int) : exTs ext0 (takeL 2 (lpB (pcs Try.prog Try.f21) 4)) (cst 60 [(2, .c (.ptr 0 0)), (5, .c (.sl 1 1 0 n)), (6, .c (.sl 2 1 0 m)), (7, iV (i : Nat))] [.cells 25 [.p (.i .i64 (n : Nat)), .p (listP encE 2 E)], .row 4 1 n (rowC encB out), .row 3 1 m (rowC encI nx)]) (endG (msk 60 [2, 5, 6, 7]) (resOf Try.prog Try.f21)) = bT (decide ((↑i : Int) < (↑m : Int)))
    (Tr.done X.normal
      (cst 60 [(2, V.c (C.ptr 0 0)), (5, V.c (C.sl 1 1 0 n)), (6, V.c (C.sl 2 1 0 m)), (7, V.c (C.p (PV.i IntKind.i64 (↑i : Int))))] [AO.cells 25 [C.p (PV.i IntKind.i64 (↑n : Int)), C.p (PV.l 2 E.length (rowP encE E))], AO.row 4 1 n fun e o => renC [0, 1, 2] (rowC encB out e o), AO.row 3 1 m fun e o => renC [0, 1, 2] (rowC encI nx e o)]))
    (Tr.done (X.exit 0)
      (cst 60 [(2, V.c (C.ptr 0 0)), (5, V.c (C.sl 1 1 0 n)), (6, V.c (C.sl 2 1 0 m)), (7, V.c (C.p (PV.i IntKind.i64 (↑i : Int))))] [AO.cells 25 [C.p (PV.i IntKind.i64 (↑n : Int)), C.p (PV.l 2 E.length (rowP encE E))], AO.row 4 1 n fun e o => renC [0, 1, 2] (rowC encB out e o), AO.row 3 1 m fun e o => renC [0, 1, 2] (rowC encI nx e o)])) := by kernel_rfl
theorem tR3 (n m i : Nat) (E : List Ed) (out : List Bool) (nx : List Int) : exTs ext0 (takeL 1 (flat (inr (nth .skip (lpB (pcs Try.prog Try.f21) 4) 2)))) (cst 60 [(2, .c (.ptr 0 0)), (5, .c (.sl 1 1 0 n)), (6, .c (.sl 2 1 0 m)), (7, iV (i : Nat))] [.cells 25 [.p (.i .i64 (n : Nat)), .p (listP encE 2 E)], .row 4 1 n (rowC encB out), .row 3 1 m (rowC encI nx)]) (endG (msk 60 [2, 5, 6, 7, 8]) (resOf Try.prog Try.f21)) = Tr.done X.normal
    (cst 60 [(2, V.c (C.ptr 0 0)), (5, V.c (C.sl 1 1 0 n)), (6, V.c (C.sl 2 1 0 m)), (7, V.c (C.p (PV.i IntKind.i64 (↑i : Int)))), (8, V.c (C.p (PV.i IntKind.i64 0)))] [AO.cells 25 [C.p (PV.i IntKind.i64 (↑n : Int)), C.p (PV.l 2 E.length (rowP encE E))], AO.row 4 1 n fun e o => renC [0, 1, 2] (rowC encB out e o), AO.row 3 1 m fun e o => renC [0, 1, 2] (rowC encI nx e o)]) := by kernel_rfl
theorem tR4 (n m i k : Nat) (E : List Ed) (out : List Bool) (nx : List Int) : exTs ext0 (lpB (flat (inr (nth .skip (lpB (pcs Try.prog Try.f21) 4) 2))) 1) (cst 60 [(2, .c (.ptr 0 0)), (5, .c (.sl 1 1 0 n)), (6, .c (.sl 2 1 0 m)), (7, iV (i : Nat)), (8, iV (k : Nat))] [.cells 25 [.p (.i .i64 (n : Nat)), .p (listP encE 2 E)], .row 4 1 n (rowC encB out), .row 3 1 m (rowC encI nx)]) (endG (msk 60 [2, 5, 6, 7, 8]) (resOf Try.prog Try.f21)) = bT (decide ((↑k : Int) < (↑E.length : Int)))
    (Tr.rq (0 ≤ (↑k : Int) ∧ (↑k : Int) < (↑E.length : Int))
      (Tr.rq (0 ≤ (↑k : Int) ∧ (↑k : Int) < (↑E.length : Int))
        (Tr.rq (0 ≤ (↑i : Int) ∧ (↑i : Int) < (↑m : Int))
          (Tr.rq ((↑i : Int).toNat + 0 < m)
            (bT ((E.getD (↑k : Int).toNat default).fst == nx.getD ((↑i : Int).toNat + 0) default)
              (Tr.rq (0 ≤ (E.getD (↑k : Int).toNat default).snd ∧ (E.getD (↑k : Int).toNat default).snd < (↑n : Int))
                (Tr.rq ((E.getD (↑k : Int).toNat default).snd.toNat + 0 < n)
                  (bT (!out.getD ((E.getD (↑k : Int).toNat default).snd.toNat + 0) default)
                    (Tr.rq (0 ≤ (E.getD (↑k : Int).toNat default).snd ∧ (E.getD (↑k : Int).toNat default).snd < (↑n : Int))
                      (Tr.rq ((E.getD (↑k : Int).toNat default).snd.toNat + 0 < n)
                        (Tr.rq (m = m)
                          (Tr.rq (1 ≤ 1)
                            (Tr.rq
                              ((m + 1) * 8 ≤ 140737488355328 ∧
                                m + 1 ≤ 140737488355328 ∧ ∀ (e o : Nat), e < 1 → o < 1 → oneC (nth C.top [C.p (PV.i IntKind.i64 (E.getD (↑k : Int).toNat default).snd)] ((e + 0) * 1 + o)) = true)
                              (Tr.rq (inR IntKind.i64 ((↑k : Int) + 1))
                                (Tr.done X.normal
                                  (cst 60 [(2, V.c (C.ptr 0 0)), (5, V.c (C.sl 1 1 0 n)), (6, V.c (C.sl 2 1 0 (m + 1))), (7, V.c (C.p (PV.i IntKind.i64 (↑i : Int)))), (8, V.c (C.p (PV.i IntKind.i64 ((↑k : Int) + 1))))] [AO.cells 25 [C.p (PV.i IntKind.i64 (↑n : Int)), C.p (PV.l 2 E.length (rowP encE E))], AO.row 4 1 n fun e o => renC [0, 1, 4] (if e = (E.getD (↑k : Int).toNat default).snd.toNat + 0 then if 0 ≤ o ∧ o < 1 then nth C.top [C.p (PV.b true)] (o - 0) else rowC encB out e o else rowC encB out e o), AO.row 3 1 (m + 1) fun e o => renC [0, 1, 4] (appF m (rowC encI nx) (fun e o => nth C.top [C.p (PV.i IntKind.i64 (E.getD (↑k : Int).toNat default).snd)] ((e + 0) * 1 + o)) e o)]))))))))
                    (Tr.rq (inR IntKind.i64 ((↑k : Int) + 1))
                      (Tr.done X.normal
                        (cst 60 [(2, V.c (C.ptr 0 0)), (5, V.c (C.sl 1 1 0 n)), (6, V.c (C.sl 2 1 0 m)), (7, V.c (C.p (PV.i IntKind.i64 (↑i : Int)))), (8, V.c (C.p (PV.i IntKind.i64 ((↑k : Int) + 1))))] [AO.cells 25 [C.p (PV.i IntKind.i64 (↑n : Int)), C.p (PV.l 2 E.length (rowP encE E))], AO.row 4 1 n fun e o => renC [0, 1, 2] (rowC encB out e o), AO.row 3 1 m fun e o => renC [0, 1, 2] (rowC encI nx e o)]))))))
              (Tr.rq (inR IntKind.i64 ((↑k : Int) + 1))
                (Tr.done X.normal
                  (cst 60 [(2, V.c (C.ptr 0 0)), (5, V.c (C.sl 1 1 0 n)), (6, V.c (C.sl 2 1 0 m)), (7, V.c (C.p (PV.i IntKind.i64 (↑i : Int)))), (8, V.c (C.p (PV.i IntKind.i64 ((↑k : Int) + 1))))] [AO.cells 25 [C.p (PV.i IntKind.i64 (↑n : Int)), C.p (PV.l 2 E.length (rowP encE E))], AO.row 4 1 n fun e o => renC [0, 1, 2] (rowC encB out e o), AO.row 3 1 m fun e o => renC [0, 1, 2] (rowC encI nx e o)]))))))))
    (Tr.done (X.exit 2)
      (cst 60 [(2, V.c (C.ptr 0 0)), (5, V.c (C.sl 1 1 0 n)), (6, V.c (C.sl 2 1 0 m)), (7, V.c (C.p (PV.i IntKind.i64 (↑i : Int)))), (8, V.c (C.p (PV.i IntKind.i64 (↑k : Int))))] [AO.cells 25 [C.p (PV.i IntKind.i64 (↑n : Int)), C.p (PV.l 2 E.length (rowP encE E))], AO.row 4 1 n fun e o => renC [0, 1, 2] (rowC encB out e o), AO.row 3 1 m fun e o => renC [0, 1, 2] (rowC encI nx e o)])) := by kernel_rfl
theorem tR5 (n m i k : Nat) (E : List Ed) (out : List Bool) (nx : List Int) : exTs ext0 (dropL 3 (lpB (pcs Try.prog Try.f21) 4)) (cst 60 [(2, .c (.ptr 0 0)), (5, .c (.sl 1 1 0 n)), (6, .c (.sl 2 1 0 m)), (7, iV (i : Nat)), (8, iV (k : Nat))] [.cells 25 [.p (.i .i64 (n : Nat)), .p (listP encE 2 E)], .row 4 1 n (rowC encB out), .row 3 1 m (rowC encI nx)]) (endG (msk 60 [2, 5, 6, 7]) (resOf Try.prog Try.f21)) = Tr.rq (inR IntKind.i64 ((↑i : Int) + 1))
    (Tr.done X.normal
      (cst 60 [(2, V.c (C.ptr 0 0)), (5, V.c (C.sl 1 1 0 n)), (6, V.c (C.sl 2 1 0 m)), (7, V.c (C.p (PV.i IntKind.i64 ((↑i : Int) + 1))))] [AO.cells 25 [C.p (PV.i IntKind.i64 (↑n : Int)), C.p (PV.l 2 E.length (rowP encE E))], AO.row 4 1 n fun e o => renC [0, 1, 2] (rowC encB out e o), AO.row 3 1 m fun e o => renC [0, 1, 2] (rowC encI nx e o)])) := by kernel_rfl
theorem tR6 (n m i : Nat) (E : List Ed) (out : List Bool) (nx : List Int) : exTs ext0 (dropL 5 (pcs Try.prog Try.f21)) (cst 60 [(2, .c (.ptr 0 0)), (5, .c (.sl 1 1 0 n)), (6, .c (.sl 2 1 0 m)), (7, iV (i : Nat))] [.cells 25 [.p (.i .i64 (n : Nat)), .p (listP encE 2 E)], .row 4 1 n (rowC encB out), .row 3 1 m (rowC encI nx)]) (endG [] (resOf Try.prog Try.f21)) = Tr.rq (0 + n ≤ n ∧ ∀ (e o : Nat), e < n → o < 1 → isF (rowC encB out (e + 0) o) = true) (Tr.done X.ret (St.mk [V.c (C.p (PV.l 1 n fun e o => unP (rowC encB out (e + 0) o)))] [])) := by kernel_rfl
theorem decE_row (L : List Ed) : decL decE L.length (rowP encE L) = L := decL_row (fun _ => rfl) L
theorem getD_mem {L : List Int} {i : Nat} (h : i < L.length) : L.getD i default ∈ L := by
  rw [List.getD_eq_getElem?_getD, List.getElem?_eq_getElem h]
  exact List.getElem_mem h
theorem getD_memE {L : List Ed} {i : Nat} (h : i < L.length) : L.getD i default ∈ L := by
  rw [List.getD_eq_getElem?_getD, List.getElem?_eq_getElem h]
  exact List.getElem_mem h
theorem one_row {ρ : List Nat} {a : Int} {e o : Nat} (he : e < 1) (ho : o < 1) : renC ρ (nth C.top [C.p (PV.i IntKind.i64 a)] (e * 1 + o)) = rowC encI [a] e o := by
  obtain rfl : e = 0 := by omega
  obtain rfl : o = 0 := by omega
  rfl
theorem PLe.of_isL {α : Type} [Inhabited α] {enc : α → Nat → PV} {sz : Nat} {L : List α} {n : Nat} {f : Nat → Nat → PV} (h : IsL enc sz L n f) : PLe (.l sz n f) (listP enc sz L) := by
  obtain ⟨rfl, h2⟩ := h
  exact PLe.l fun e o he ho => PLe.of_eq (h2 e o he ho)
theorem VLe.a2 {x y x' y' : PV} (h : PLe x x') (k : PLe y y') : VLe (.a [.p x, .p y]) (.a [.p x', .p y']) := by
  rintro β R w u ⟨us, rfl, hu⟩
  refine ⟨us, rfl, ?_⟩
  match hus : us.toList, hu with
  | [u1, u2], hu => exact ⟨h _ _ _ hu.1, k _ _ _ hu.2.1, trivial⟩
theorem int_one (a : Int) : ∀ e o : Nat, e < 1 → o < 1 → oneC (nth C.top [C.p (PV.i .i64 a)] ((e + 0) * 1 + o)) = true := by
  intro e o he ho
  obtain rfl : e = 0 := by omega
  obtain rfl : o = 0 := by omega
  rfl
theorem int_at (a : Int) : ∀ o : Nat, o < 1 → (fun e o : Nat => nth C.top [C.p (PV.i .i64 a)] ((e + 0) * 1 + o)) 0 o = .p (encI a o) := by
  intro o ho
  obtain rfl : o = 0 := by omega
  rfl
theorem int_at0 (a : Int) : ∀ o : Nat, o < 1 → (fun e o : Nat => nth C.top [C.p (PV.i .i64 a)] (e * 1 + o)) 0 o = .p (encI a o) := by
  intro o ho
  obtain rfl : o = 0 := by omega
  rfl
section
variable {G : Nat → Option Obj}
set_option maxRecDepth 100000 in
theorem okPick : ModOK Try.prog G 29 mPick := by
  intro args p v hm hp h
  unfold mPick at hm
  split at hm; rotate_left; · cases hm
  rename_i n f i m
  obtain ⟨rfl, rfl⟩ := some_pair hm
  obtain ⟨hL, hI, hm0⟩ := hp
  generalize decL decI n f = L at hL hI
  refine FnS.args (args' := [listV encI 1 L, iV i, iV m]) ?_ (.cons hL.le (.cons (.refl _) (.cons (.refl _) .nil)))
  refine fn_S Try.func29 (by kernel_rfl) rfl ?_ h
  refine ExS.evA extA_sound [] [] rfl (tPick L i m) ?_
  have bad : (i < 0 ∨ L.length ≤ i) → VLe (V.c (C.p (PV.i .i64 0))) (iV (pickZ L i m)) := fun hi => by
    unfold pickZ; rw [if_pos hi]; exact VLe.refl _
  have good : ¬ (i < 0 ∨ L.length ≤ i) → VLe (iV (aroundZ (L.getD i.toNat default) m)) (iV (pickZ L i m)) := fun hi => by
    unfold pickZ; rw [if_neg hi]; exact VLe.refl _
  have hin : ¬ (i < 0 ∨ L.length ≤ i) → inR .i64 (L.getD i.toNat default) := fun hi => hI _ (getD_mem (by omega))
  simp only [holds_bT, holds_rq, holds_leaf, kf_ret', decide_eq_true_eq, decide_eq_false_iff_not]
  repeat' (first | apply And.intro | intro _)
  all_goals first | (clear bad good hin; omega) | exact ⟨bad (by clear bad good hin; omega)⟩ | exact ⟨good (by clear bad good hin; omega)⟩ | exact (hin (by clear bad good hin; omega)).1 | exact (hin (by clear bad good hin; omega)).2
set_option maxRecDepth 100000 in
theorem okReachedR : ModOK Try.prog G 21 mReachedR := by
  intro args p v hm hp h
  unfold mReachedR at hm
  split at hm; rotate_left; · cases hm
  rename_i N n0 f a
  obtain ⟨rfl, rfl⟩ := some_pair hm
  obtain ⟨⟨hN0, hN1⟩, hL, hn, hE⟩ := hp
  obtain ⟨n, rfl⟩ : ∃ n : Nat, N = n := ⟨N.toNat, by omega⟩
  have hlen : (decL decE n0 f).length ≤ 1000000 := by rw [hL.1]; exact hn
  rw [show (↑n : Int).toNat = n from rfl] at hE ⊢
  generalize decL decE n0 f = E at hL hlen hE
  refine FnS.args (args' := [gV n E, iV a]) ?_ (.cons (VLe.a2 (.refl _) (PLe.of_isL hL)) (.cons (.refl _) .nil))
  clear hL
  have hn1 : n ≤ 1000000 := by omega
  refine fn_S Try.func21 (by kernel_rfl) rfl ?_ h
  refine ExS.evG ext0_sound 4 (tR1 n E a) ?_
  simp only [holds_rq, holds_done, kf_normal]
  refine ⟨by omega, ?_⟩
  refine ExS.loop' (l := dropL 4 (pcs Try.prog Try.f21)) (b := inr (inr (nth .skip (pcs Try.prog Try.f21) 4))) (r := dropL 5 (pcs Try.prog Try.f21)) (id := 0) (by kernel_rfl) (σ := Nat × List Bool × List Int)
    (fun (i, out, q) => (fun nx m => cst 60 [(2, .c (.ptr 0 0)), (5, .c (.sl 1 1 0 n)), (6, .c (.sl 2 1 0 m)), (7, iV (i : Nat))] [.cells 25 [.p (.i .i64 (n : Nat)), .p (listP encE 2 E)], .row 4 1 n (rowC encB out), .row 3 1 m (rowC encI nx)]) (a :: q) (q.length + 1)) (fun (i, out, q) => RI n E a out q ∧ i ≤ q.length + 1 ∧ Cl E out (a :: q) i) (fun (i, _, _) => n + 1 - i) (0, List.replicate n false, []) ⟨RI.init n E a, by omega, fun j hj => absurd hj (Nat.not_lt_zero j)⟩
    (weak_cst ⟨rfl, ⟨rfl, rfl, rfl, fun e o he ho => rep_row he ho⟩, ⟨rfl, rfl, rfl, fun e o he ho => one_row he ho⟩, trivial⟩) ?_
  rintro ⟨i, out, q⟩ ⟨hR, hi, hC⟩ Q1 q1n q1e -
  have hq := hR.cnt
  refine ExS.evG ext0_sound 2 (tR2 n (q.length + 1) i E out (a :: q)) ?_
  simp only [holds_bT, holds_leaf, kf_normal, kf_exit, decide_eq_true_eq, decide_eq_false_iff_not]
  refine ⟨fun h1 => ⟨?_⟩, fun h1 => ⟨q1e _ ?_⟩⟩
  · refine ExS.blk' (l := dropL 2 (lpB (pcs Try.prog Try.f21) 4)) (id := 1) (a := inr (nth .skip (lpB (pcs Try.prog Try.f21) 4) 2)) (r := dropL 3 (lpB (pcs Try.prog Try.f21) 4)) (by kernel_rfl) ?_
    intro Q2 q2n _ _
    refine ExS.evG ext0_sound 1 (tR3 n (q.length + 1) i E out (a :: q)) ?_
    simp only [holds_done, kf_normal]
    refine ExS.loop' (l := dropL 1 (flat (inr (nth .skip (lpB (pcs Try.prog Try.f21) 4) 2)))) (b := inr (inr (nth .skip (flat (inr (nth .skip (lpB (pcs Try.prog Try.f21) 4) 2))) 1))) (r := dropL 2 (flat (inr (nth .skip (lpB (pcs Try.prog Try.f21) 4) 2)))) (id := 2) (by kernel_rfl) (σ := Nat × List Bool × List Int)
      (fun (k, out, q) => (fun nx m => cst 60 [(2, .c (.ptr 0 0)), (5, .c (.sl 1 1 0 n)), (6, .c (.sl 2 1 0 m)), (7, iV (i : Nat)), (8, iV (k : Nat))] [.cells 25 [.p (.i .i64 (n : Nat)), .p (listP encE 2 E)], .row 4 1 n (rowC encB out), .row 3 1 m (rowC encI nx)]) (a :: q) (q.length + 1))
      (fun (k, out, q) => RI n E a out q ∧ i < q.length + 1 ∧ Cl E out (a :: q) i ∧ k ≤ E.length ∧ ∀ k', k' < k → (E.getD k' default).1 = (a :: q).getD i default → out.getD (E.getD k' default).2.toNat false = true)
      (fun (k, _, _) => E.length - k) (0, out, q) ⟨hR, by omega, hC, Nat.zero_le _, fun k hk => absurd hk (Nat.not_lt_zero k)⟩ (weak_of_eq (by kernel_rfl)) ?_
    clear hR hC hq h1 hi
    rintro ⟨k, out, q⟩ ⟨hR, hi, hC, hk, hD⟩ Q3 q3n q3e -
    have hq := hR.cnt
    refine ExS.evH ext0_sound (tR4 n (q.length + 1) i k E out (a :: q)) ?_
    simp only [holds_bT, holds_rq, holds_leaf, kf_normal, kf_exit, decide_eq_true_eq, decide_eq_false_iff_not, beq_iff_eq, beq_eq_false_iff_ne, inR, Bool.not_eq_true', Bool.not_eq_false', show (↑k : Int).toNat = k from rfl, show (↑i : Int).toNat = i from rfl, show ∀ x : Nat, x + 0 = x from fun _ => rfl, show (default : Bool) = false from rfl]
    have hdec : k < E.length → ∀ (out' : List Bool) (q' : List Int), (∀ b, out.getD b false = true → out'.getD b false = true) → (a :: q').getD i default = (a :: q).getD i default → ((E.getD k default).1 = (a :: q).getD i default → out'.getD (E.getD k default).2.toNat false = true) →
        ∀ k', k' < k + 1 → (E.getD k' default).1 = (a :: q').getD i default → out'.getD (E.getD k' default).2.toNat false = true := by
      intro _ out' q' h1 h2 h3 k' hk' he
      rw [h2] at he
      by_cases e : k' = k
      · subst e; exact h3 he
      · exact h1 _ (hD k' (by omega) he)
    have hmem : k < E.length → E.getD k default ∈ E := fun h => getD_memE h
    refine ⟨fun h2 => ?_, fun h2 => ⟨q3e _ ?_⟩⟩
    · have hkE : k < E.length := by omega
      have hr := hE _ (hmem hkE)
      have hbn : (E.getD k default).2.toNat < out.length := by rw [hR.len]; omega
      refine ⟨by omega, by omega, by omega, by omega, fun c1 => ⟨by omega, by omega, fun c2 => ⟨by omega, by omega, trivial, Nat.le_refl _, ⟨by omega, by omega, int_one _⟩, by omega, ⟨?_⟩⟩, fun c2 => ⟨by omega, ⟨?_⟩⟩⟩, fun c1 => ⟨by omega, ⟨?_⟩⟩⟩
      · have hu : (a :: q).getD i default ∈ a :: q := getD_mem (by simpa using hi)
        have he : ((a :: q).getD i default, (E.getD k default).2) ∈ E := by have := hmem hkE; rw [show E.getD k default = ((E.getD k default).1, (E.getD k default).2) from rfl, c1] at this; exact this
        refine q3n (k + 1, out.set (E.getD k default).2.toNat true, q ++ [(E.getD k default).2]) _ ⟨hR.step hE hu he c2, by simp; omega, hC.step (nx := a :: q) (by simp; omega) hbn, by omega, hdec hkE _ _ (fun b h => out_mono hbn h) ?_ (fun _ => (getD_set_b hbn).2 (.inl rfl))⟩ (by simp only; omega) ?_
        · exact getD_snoc (q := a :: q) (by simpa using hi)
        · show WeakS G _ ((fun k out nx m => cst 60 [(2, .c (.ptr 0 0)), (5, .c (.sl 1 1 0 n)), (6, .c (.sl 2 1 0 m)), (7, iV (i : Nat)), (8, iV (k : Nat))] [.cells 25 [.p (.i .i64 (n : Nat)), .p (listP encE 2 E)], .row 4 1 n (rowC encB out), .row 3 1 m (rowC encI nx)]) (k + 1) (out.set (E.getD k default).2.toNat true) (a :: q ++ [(E.getD k default).2]) ((q ++ [(E.getD k default).2]).length + 1))
          rw [show (q ++ [(E.getD k default).2]).length + 1 = q.length + 1 + 1 by simp]
          refine weak_cst ?_
          exact ⟨rfl, ⟨rfl, rfl, rfl, fun e o he ho => set1 (ρ := [0, 1, 4]) hR.len (by omega) rfl he ho⟩, ⟨rfl, rfl, rfl, fun e o he ho => app1' (ρ := [0, 1, 4]) (L := a :: q) (n := q.length + 1) (sz := 1) rfl (int_at0 _) he ho⟩, trivial⟩
      · exact q3n (k + 1, out, q) _ ⟨hR, hi, hC, by omega, hdec hkE out q (fun _ h => h) rfl (fun _ => c2)⟩ (by simp only; omega) (weak_of_eq (by kernel_rfl))
      · exact q3n (k + 1, out, q) _ ⟨hR, hi, hC, by omega, hdec hkE out q (fun _ h => h) rfl (fun h => absurd h c1)⟩ (by simp only; omega) (weak_of_eq (by kernel_rfl))
    · obtain rfl : k = E.length := by omega
      refine ⟨_, WeakS.refl _, q2n _ ?_⟩
      refine ExS.evH ext0_sound (tR5 n (q.length + 1) i E.length E out (a :: q)) ?_
      simp only [holds_rq, holds_leaf, kf_normal, inR]
      refine ⟨by omega, ⟨q1n (i + 1, out, q) _ ⟨hR, by omega, fun j hj b hb => ?_⟩ (by simp only; omega) (weak_of_eq (by kernel_rfl))⟩⟩
      by_cases e : j = i
      · subst e
        obtain ⟨k', hk', he⟩ := List.getElem_of_mem hb
        have hg : E.getD k' default = ((a :: q).getD j default, b) := by rw [List.getD_eq_getElem?_getD, List.getElem?_eq_getElem hk']; exact he
        have := hD k' hk' (by rw [hg])
        rwa [hg] at this
      · exact hC j (by omega) b hb
  · have hiq : i = q.length + 1 := by omega
    subst hiq
    refine ExS.evH ext0_sound (tR6 n (q.length + 1) (q.length + 1) E out (a :: q)) ?_
    simp only [holds_rq, holds_leaf, kf_ret']
    refine ⟨⟨by omega, fun _ _ _ _ => rfl⟩, ⟨?_⟩⟩
    rw [← hR.fin hE hC]
    refine VLe.p ?_
    unfold listP
    rw [hR.len]
    exact PLe.refl _
end
end Go.AE
