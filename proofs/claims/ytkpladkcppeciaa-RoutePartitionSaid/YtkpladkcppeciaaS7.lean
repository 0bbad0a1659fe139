/- AE contracts: route.reached. -/
import Derived.Test.YtkpladkcppeciaaS5
import Derived.Test.YtkpladkcppeciaaGr2
namespace Go.AE
open Go.Proofs Go.Proofs.Ytkpladkcppeciaa
set_option linter.unusedVariables false
set_option linter.unusedSimpArgs false

noncomputable def mReachedH : ModH
  | [.a [.p (.i .i64 N), .p (.l 2 n f)], .c (.p (.l 1 m g))], h => some (((0 ≤ N ∧ N ≤ 1000000) ∧ IsL encE 2 (decL decE n f) n f ∧ n ≤ 1000000 ∧ InN N.toNat (decL decE n f)) ∧ IsL encB 1 (decL decB m g) m g ∧ m = N.toNat,
      .c (.sl (lenL h) 1 0 N.toNat), snoc (.row 4 1 N.toNat fun e o => .p (rowP encB (rcS N.toNat (decL decE n f) (decL decB m g)) e o)) h)
  | _, _ => none

theorem tQ1 (n : Nat) (E : List Ed) (S : List Bool) : exTs ext0 (takeL 3 (takeL 10 (pcs Try.prog Try.f33))) (st0 Try.f33 [gV n E, listV encB 1 S]) (endG (msk 86 [1, 2, 5, 18, 19, 20]) []) = Tr.rq (0 ≤ (↑n : Int) ∧ (↑n : Int) ≤ (↑n : Int) ∧ (↑n : Int) * (↑24 : Int) ≤ 140737488355328 ∧ (↑n : Int) ≤ 140737488355328)
    (Tr.done X.normal
      (cst 86 [(1, V.c (C.p (PV.l 1 S.length (rowP encB S)))), (2, V.c (C.ptr 0 0)), (5, V.c (C.sl 1 1 0 (↑n : Int).toNat)), (18, V.c (C.p (PV.l 2 E.length (rowP encE E)))), (19, V.c (C.p (PV.i IntKind.i64 (↑E.length : Int)))), (20, V.c (C.p (PV.i IntKind.i64 0)))] [AO.cells 52 [C.p (PV.i IntKind.i64 (↑n : Int)), C.p (PV.l 2 E.length (rowP encE E))], AO.row 22 1 (↑n : Int).toNat fun e o => renC [0, 1] (C.p (nth (PV.b false) [PV.z (Value.slice none 0 0)] o))])) := by kernel_rfl
theorem tQ2 (n i : Nat) (E : List Ed) (S : List Bool) (NX : Nat → List Int) : exTs ext0 (takeL 2 (lpB (takeL 10 (pcs Try.prog Try.f33)) 3)) (cst 86 [(1, listV encB 1 S), (2, .c (.ptr 0 0)), (5, .c (.sl 1 1 0 n)), (18, listV encE 2 E), (19, iV (E.length : Nat)), (20, iV (i : Nat))] [.cells 52 [.p (.i .i64 (n : Nat)), .p (listP encE 2 E)], .row 22 1 n (fun e _ => .own 3 1 (NX e).length (rowP encI (NX e)))]) (endG (msk 86 [1, 2, 5, 18, 19, 20]) []) = bT (decide ((↑i : Int) < (↑E.length : Int)))
    (Tr.done X.normal
      (cst 86 [(1, V.c (C.p (PV.l 1 S.length (rowP encB S)))), (2, V.c (C.ptr 0 0)), (5, V.c (C.sl 1 1 0 n)), (18, V.c (C.p (PV.l 2 E.length (rowP encE E)))), (19, V.c (C.p (PV.i IntKind.i64 (↑E.length : Int)))), (20, V.c (C.p (PV.i IntKind.i64 (↑i : Int))))] [AO.cells 52 [C.p (PV.i IntKind.i64 (↑n : Int)), C.p (PV.l 2 E.length (rowP encE E))], AO.row 22 1 n fun e o => renC [0, 1] (C.own 3 1 (NX e).length (rowP encI (NX e)))]))
    (Tr.done (X.exit 0)
      (cst 86 [(1, V.c (C.p (PV.l 1 S.length (rowP encB S)))), (2, V.c (C.ptr 0 0)), (5, V.c (C.sl 1 1 0 n)), (18, V.c (C.p (PV.l 2 E.length (rowP encE E)))), (19, V.c (C.p (PV.i IntKind.i64 (↑E.length : Int)))), (20, V.c (C.p (PV.i IntKind.i64 (↑i : Int))))] [AO.cells 52 [C.p (PV.i IntKind.i64 (↑n : Int)), C.p (PV.l 2 E.length (rowP encE E))], AO.row 22 1 n fun e o => renC [0, 1] (C.own 3 1 (NX e).length (rowP encI (NX e)))])) := by kernel_rfl
theorem tQ3 (n i : Nat) (E : List Ed) (S : List Bool) (NX : Nat → List Int) : exTs ext0 (takeL 1 (flat (inr (nth .skip (lpB (takeL 10 (pcs Try.prog Try.f33)) 3) 2)))) (cst 86 [(1, listV encB 1 S), (2, .c (.ptr 0 0)), (5, .c (.sl 1 1 0 n)), (18, listV encE 2 E), (19, iV (E.length : Nat)), (20, iV (i : Nat))] [.cells 52 [.p (.i .i64 (n : Nat)), .p (listP encE 2 E)], .row 22 1 n (fun e _ => .own 3 1 (NX e).length (rowP encI (NX e)))]) (endG (msk 86 [1, 2, 5, 7, 18, 19, 20]) []) = Tr.rq (0 ≤ (↑i : Int) ∧ (↑i : Int) < (↑E.length : Int))
    (Tr.done X.normal
      (cst 86 [(1, V.c (C.p (PV.l 1 S.length (rowP encB S)))), (2, V.c (C.ptr 0 0)), (5, V.c (C.sl 1 1 0 n)), (7, V.c (C.ptr 2 0)), (18, V.c (C.p (PV.l 2 E.length (rowP encE E)))), (19, V.c (C.p (PV.i IntKind.i64 (↑E.length : Int)))), (20, V.c (C.p (PV.i IntKind.i64 (↑i : Int))))] [AO.cells 52 [C.p (PV.i IntKind.i64 (↑n : Int)), C.p (PV.l 2 E.length (rowP encE E))], AO.row 22 1 n fun e o => renC [0, 1, 2] (C.own 3 1 (NX e).length (rowP encI (NX e))), AO.cells 49 [C.p (PV.i IntKind.i64 (E.getD (↑i : Int).toNat default).fst), C.p (PV.i IntKind.i64 (E.getD (↑i : Int).toNat default).snd)]])) := by kernel_rfl
theorem tQ4 (n i e0 m : Nat) (a b : Int) (E : List Ed) (S : List Bool) (A : List Int) (NX : Nat → List Int) : exTs ext0 (dropL 1 (flat (inr (nth .skip (lpB (takeL 10 (pcs Try.prog Try.f33)) 3) 2)))) (cst 86 [(1, listV encB 1 S), (2, .c (.ptr 0 0)), (5, .c (.sl 1 1 0 n)), (7, .c (.ptr 2 0)), (18, listV encE 2 E), (19, iV (E.length : Nat)), (20, iV (i : Nat))] [.cells 52 [.p (.i .i64 (n : Nat)), .p (listP encE 2 E)], .foc 22 1 n e0 [.sl 3 1 0 m] (fun e _ => .own 3 1 (NX e).length (rowP encI (NX e))), .cells 49 [.p (.i .i64 a), .p (.i .i64 b)], .row 3 1 m (rowC encI A)]) (endG (msk 86 [1, 2, 5, 18, 19, 20]) []) = Tr.rq (0 ≤ a ∧ a < (↑n : Int))
    (Tr.rq (a.toNat + 0 = e0)
      (Tr.rq (m = m)
        (Tr.rq (1 ≤ 1)
          (Tr.rq ((m + 1) * 8 ≤ 140737488355328 ∧ m + 1 ≤ 140737488355328 ∧ ∀ (e o : Nat), e < 1 → o < 1 → oneC (nth C.top [C.p (PV.i IntKind.i64 b)] ((e + 0) * 1 + o)) = true)
            (Tr.rq (0 ≤ a ∧ a < (↑n : Int))
              (Tr.rq (a.toNat + 0 = e0)
                (Tr.done X.normal
                  (cst 86 [(1, V.c (C.p (PV.l 1 S.length (rowP encB S)))), (2, V.c (C.ptr 0 0)), (5, V.c (C.sl 1 1 0 n)), (18, V.c (C.p (PV.l 2 E.length (rowP encE E)))), (19, V.c (C.p (PV.i IntKind.i64 (↑E.length : Int)))), (20, V.c (C.p (PV.i IntKind.i64 (↑i : Int))))] [AO.cells 52 [C.p (PV.i IntKind.i64 (↑n : Int)), C.p (PV.l 2 E.length (rowP encE E))], AO.foc 22 1 n e0 [C.sl 2 1 0 (m + 1)] fun e o => renC [0, 1, 5] (C.own 3 1 (NX e).length (rowP encI (NX e))), AO.row 3 1 (m + 1) fun e o => renC [0, 1, 5] (appF m (rowC encI A) (fun e o => nth C.top [C.p (PV.i IntKind.i64 b)] ((e + 0) * 1 + o)) e o)])))))))) := by kernel_rfl
theorem tQ5 (n i : Nat) (E : List Ed) (S : List Bool) (NX : Nat → List Int) : exTs ext0 (dropL 3 (lpB (takeL 10 (pcs Try.prog Try.f33)) 3)) (cst 86 [(1, listV encB 1 S), (2, .c (.ptr 0 0)), (5, .c (.sl 1 1 0 n)), (18, listV encE 2 E), (19, iV (E.length : Nat)), (20, iV (i : Nat))] [.cells 52 [.p (.i .i64 (n : Nat)), .p (listP encE 2 E)], .row 22 1 n (fun e _ => .own 3 1 (NX e).length (rowP encI (NX e)))]) (endG (msk 86 [1, 2, 5, 18, 19, 20]) []) = Tr.rq (inR IntKind.i64 ((↑i : Int) + 1))
    (Tr.done X.normal
      (cst 86 [(1, V.c (C.p (PV.l 1 S.length (rowP encB S)))), (2, V.c (C.ptr 0 0)), (5, V.c (C.sl 1 1 0 n)), (18, V.c (C.p (PV.l 2 E.length (rowP encE E)))), (19, V.c (C.p (PV.i IntKind.i64 (↑E.length : Int)))), (20, V.c (C.p (PV.i IntKind.i64 ((↑i : Int) + 1))))] [AO.cells 52 [C.p (PV.i IntKind.i64 (↑n : Int)), C.p (PV.l 2 E.length (rowP encE E))], AO.row 22 1 n fun e o => renC [0, 1] (C.own 3 1 (NX e).length (rowP encI (NX e)))])) := by kernel_rfl
theorem tQ6 (n i : Nat) (E : List Ed) (S : List Bool) (NL : List (List Int)) : exTs ext0 (takeL 3 (dropL 4 (takeL 10 (pcs Try.prog Try.f33)))) (cst 86 [(1, listV encB 1 S), (2, .c (.ptr 0 0)), (5, listV (fun (x : List Int) _ => listP encI 1 x) 1 NL)] [.cells 52 [.p (.i .i64 (n : Nat)), .p (listP encE 2 E)]]) (endG (msk 86 [1, 2, 5, 8, 9, 42, 43]) []) = Tr.rq (0 ≤ (↑n : Int) ∧ (↑n : Int) ≤ (↑n : Int) ∧ (↑n : Int) * (↑1 : Int) ≤ 140737488355328 ∧ (↑n : Int) ≤ 140737488355328)
    (Tr.done X.normal
      (cst 86 [(1, V.c (C.p (PV.l 1 S.length (rowP encB S)))), (2, V.c (C.ptr 0 0)), (5, V.c (C.p (PV.l 1 NL.length (rowP (fun x x_1 => PV.l 1 x.length (rowP encI x)) NL)))), (8, V.c (C.sl 1 1 0 (↑n : Int).toNat)), (9, V.c (C.p (PV.z (Value.slice none 0 0)))), (42, V.c (C.p (PV.i IntKind.i64 (↑n : Int)))), (43, V.c (C.p (PV.i IntKind.i64 0)))] [AO.cells 52 [C.p (PV.i IntKind.i64 (↑n : Int)), C.p (PV.l 2 E.length (rowP encE E))], AO.row 4 1 (↑n : Int).toNat fun e o => renC [0, 1] (C.p (nth (PV.b false) [PV.b false] o))])) := by kernel_rfl
theorem tQ7 (n m i : Nat) (E : List Ed) (S : List Bool) (q : List Int) (NL : List (List Int)) : exTs ext0 (lpB (takeL 10 (pcs Try.prog Try.f33)) 7) (cst 86 [(1, listV encB 1 S), (2, .c (.ptr 0 0)), (5, listV (fun (x : List Int) _ => listP encI 1 x) 1 NL), (8, .c (.sl 1 1 0 n)), (9, .c (.sl 2 1 0 m)), (42, iV (n : Nat)), (43, iV (i : Nat))] [.cells 52 [.p (.i .i64 (n : Nat)), .p (listP encE 2 E)], .row 4 1 n (rowC encB (List.replicate n false)), .row 3 1 m (rowC encI q)]) (endG (msk 86 [1, 2, 5, 8, 9, 42, 43]) []) = bT (decide ((↑i : Int) < (↑n : Int)))
    (Tr.rq (0 ≤ (↑i : Int) ∧ (↑i : Int) < (↑S.length : Int))
      (bT (S.getD (↑i : Int).toNat default)
        (Tr.rq (m = m)
          (Tr.rq (1 ≤ 1)
            (Tr.rq ((m + 1) * 8 ≤ 140737488355328 ∧ m + 1 ≤ 140737488355328 ∧ ∀ (e o : Nat), e < 1 → o < 1 → oneC (nth C.top [C.p (PV.i IntKind.i64 (↑i : Int))] ((e + 0) * 1 + o)) = true)
              (Tr.rq (inR IntKind.i64 ((↑i : Int) + 1))
                (Tr.done X.normal
                  (cst 86 [(1, V.c (C.p (PV.l 1 S.length (rowP encB S)))), (2, V.c (C.ptr 0 0)), (5, V.c (C.p (PV.l 1 NL.length (rowP (fun x x_1 => PV.l 1 x.length (rowP encI x)) NL)))), (8, V.c (C.sl 1 1 0 n)), (9, V.c (C.sl 2 1 0 (m + 1))), (42, V.c (C.p (PV.i IntKind.i64 (↑n : Int)))), (43, V.c (C.p (PV.i IntKind.i64 ((↑i : Int) + 1))))] [AO.cells 52 [C.p (PV.i IntKind.i64 (↑n : Int)), C.p (PV.l 2 E.length (rowP encE E))], AO.row 4 1 n fun e o => renC [0, 1, 4] (rowC encB (List.replicate n false) e o), AO.row 3 1 (m + 1) fun e o => renC [0, 1, 4] (appF m (rowC encI q) (fun e o => nth C.top [C.p (PV.i IntKind.i64 (↑i : Int))] ((e + 0) * 1 + o)) e o)]))))))
        (Tr.rq (inR IntKind.i64 ((↑i : Int) + 1))
          (Tr.done X.normal
            (cst 86 [(1, V.c (C.p (PV.l 1 S.length (rowP encB S)))), (2, V.c (C.ptr 0 0)), (5, V.c (C.p (PV.l 1 NL.length (rowP (fun x x_1 => PV.l 1 x.length (rowP encI x)) NL)))), (8, V.c (C.sl 1 1 0 n)), (9, V.c (C.sl 2 1 0 m)), (42, V.c (C.p (PV.i IntKind.i64 (↑n : Int)))), (43, V.c (C.p (PV.i IntKind.i64 ((↑i : Int) + 1))))] [AO.cells 52 [C.p (PV.i IntKind.i64 (↑n : Int)), C.p (PV.l 2 E.length (rowP encE E))], AO.row 4 1 n fun e o => renC [0, 1, 2] (rowC encB (List.replicate n false) e o), AO.row 3 1 m fun e o => renC [0, 1, 2] (rowC encI q e o)])))))
    (Tr.done (X.exit 2)
      (cst 86 [(1, V.c (C.p (PV.l 1 S.length (rowP encB S)))), (2, V.c (C.ptr 0 0)), (5, V.c (C.p (PV.l 1 NL.length (rowP (fun x x_1 => PV.l 1 x.length (rowP encI x)) NL)))), (8, V.c (C.sl 1 1 0 n)), (9, V.c (C.sl 2 1 0 m)), (42, V.c (C.p (PV.i IntKind.i64 (↑n : Int)))), (43, V.c (C.p (PV.i IntKind.i64 (↑i : Int))))] [AO.cells 52 [C.p (PV.i IntKind.i64 (↑n : Int)), C.p (PV.l 2 E.length (rowP encE E))], AO.row 4 1 n fun e o => renC [0, 1, 2] (rowC encB (List.replicate n false) e o), AO.row 3 1 m fun e o => renC [0, 1, 2] (rowC encI q e o)])) := by kernel_rfl
theorem tQ8 (n m l off : Nat) (E : List Ed) (out : List Bool) (Q : List Int) (NL : List (List Int)) : exTs ext0 (takeL 2 (lpB (takeL 10 (pcs Try.prog Try.f33)) 8)) (cst 86 [(2, .c (.ptr 0 0)), (5, listV (fun (x : List Int) _ => listP encI 1 x) 1 NL), (8, .c (.sl 1 1 0 n)), (9, .c (.sl 2 1 off m))] [.cells 52 [.p (.i .i64 (n : Nat)), .p (listP encE 2 E)], .row 4 1 n (rowC encB out), .row 3 1 l (rowC encI Q)]) (endG (msk 86 [2, 5, 8, 9]) []) = bT (decide (0 < (↑m : Int)))
    (Tr.done X.normal
      (cst 86 [(2, V.c (C.ptr 0 0)), (5, V.c (C.p (PV.l 1 NL.length (rowP (fun x x_1 => PV.l 1 x.length (rowP encI x)) NL)))), (8, V.c (C.sl 1 1 0 n)), (9, V.c (C.sl 2 1 off m))] [AO.cells 52 [C.p (PV.i IntKind.i64 (↑n : Int)), C.p (PV.l 2 E.length (rowP encE E))], AO.row 4 1 n fun e o => renC [0, 1, 2] (rowC encB out e o), AO.row 3 1 l fun e o => renC [0, 1, 2] (rowC encI Q e o)]))
    (Tr.done (X.exit 4)
      (cst 86 [(2, V.c (C.ptr 0 0)), (5, V.c (C.p (PV.l 1 NL.length (rowP (fun x x_1 => PV.l 1 x.length (rowP encI x)) NL)))), (8, V.c (C.sl 1 1 0 n)), (9, V.c (C.sl 2 1 off m))] [AO.cells 52 [C.p (PV.i IntKind.i64 (↑n : Int)), C.p (PV.l 2 E.length (rowP encE E))], AO.row 4 1 n fun e o => renC [0, 1, 2] (rowC encB out e o), AO.row 3 1 l fun e o => renC [0, 1, 2] (rowC encI Q e o)])) := by kernel_rfl
theorem tQ9 (n m l off : Nat) (E : List Ed) (out : List Bool) (Q : List Int) (NL : List (List Int)) : exTs ext0 (takeL 3 (flat (inr (nth .skip (lpB (takeL 10 (pcs Try.prog Try.f33)) 8) 2)))) (cst 86 [(2, .c (.ptr 0 0)), (5, listV (fun (x : List Int) _ => listP encI 1 x) 1 NL), (8, .c (.sl 1 1 0 n)), (9, .c (.sl 2 1 off m))] [.cells 52 [.p (.i .i64 (n : Nat)), .p (listP encE 2 E)], .row 4 1 n (rowC encB out), .row 3 1 l (rowC encI Q)]) (endG (msk 86 [2, 5, 8, 9, 66, 67, 68]) []) = Tr.rq (Int.ofNat 0 ≤ Int.ofNat 0 ∧ 0 < (↑m : Int))
    (Tr.rq (0 + off < l)
      (Tr.rq (Int.ofNat 0 ≤ Int.ofNat 1 ∧ 1 ≤ (↑m : Int) ∧ (↑m : Int) ≤ (↑m : Int))
        (Tr.rq (0 ≤ Q.getD (0 + off) default ∧ Q.getD (0 + off) default < (↑NL.length : Int))
          (Tr.done X.normal
            (cst 86 [(2, V.c (C.ptr 0 0)), (5, V.c (C.p (PV.l 1 NL.length (rowP (fun x x_1 => PV.l 1 x.length (rowP encI x)) NL)))), (8, V.c (C.sl 1 1 0 n)), (9, V.c (C.sl 2 1 (off + Int.toNat 1) ((↑m : Int).toNat - Int.toNat 1))), (66, V.c (C.p (PV.l 1 (NL.getD (Q.getD (Int.toNat 0 + off) default).toNat default).length (rowP encI (NL.getD (Q.getD (Int.toNat 0 + off) default).toNat default))))), (67, V.c (C.p (PV.i IntKind.i64 (↑(NL.getD (Q.getD (Int.toNat 0 + off) default).toNat default).length : Int)))), (68, V.c (C.p (PV.i IntKind.i64 0)))] [AO.cells 52 [C.p (PV.i IntKind.i64 (↑n : Int)), C.p (PV.l 2 E.length (rowP encE E))], AO.row 4 1 n fun e o => renC [0, 1, 2] (rowC encB out e o), AO.row 3 1 l fun e o => renC [0, 1, 2] (rowC encI Q e o)]))))) := by kernel_rfl
theorem tQa (n m l off j : Nat) (E : List Ed) (out : List Bool) (Q A : List Int) (NL : List (List Int)) : exTs ext0 (lpB (flat (inr (nth .skip (lpB (takeL 10 (pcs Try.prog Try.f33)) 8) 2))) 3) (cst 86 [(2, .c (.ptr 0 0)), (5, listV (fun (x : List Int) _ => listP encI 1 x) 1 NL), (8, .c (.sl 1 1 0 n)), (9, .c (.sl 2 1 off m)), (66, listV encI 1 A), (67, iV (A.length : Nat)), (68, iV (j : Nat))] [.cells 52 [.p (.i .i64 (n : Nat)), .p (listP encE 2 E)], .row 4 1 n (rowC encB out), .row 3 1 l (rowC encI Q)]) (endG (msk 86 [2, 5, 8, 9, 66, 67, 68]) []) = bT (decide ((↑j : Int) < (↑A.length : Int)))
    (Tr.rq (0 ≤ (↑j : Int) ∧ (↑j : Int) < (↑A.length : Int))
      (Tr.rq (0 ≤ A.getD (↑j : Int).toNat default ∧ A.getD (↑j : Int).toNat default < (↑n : Int))
        (Tr.rq ((A.getD (↑j : Int).toNat default).toNat + 0 < n)
          (bT (!out.getD ((A.getD (↑j : Int).toNat default).toNat + 0) default)
            (Tr.rq (0 ≤ A.getD (↑j : Int).toNat default ∧ A.getD (↑j : Int).toNat default < (↑n : Int))
              (Tr.rq ((A.getD (↑j : Int).toNat default).toNat + 0 < n)
                (bT (off.beq 0)
                  (Tr.rq (m = l)
                    (Tr.rq (1 ≤ 1)
                      (Tr.rq
                        ((l + 1) * 8 ≤ 140737488355328 ∧
                          l + 1 ≤ 140737488355328 ∧ ∀ (e o : Nat), e < 1 → o < 1 → oneC (nth C.top [C.p (PV.i IntKind.i64 (A.getD (↑j : Int).toNat default))] ((e + 0) * 1 + o)) = true)
                        (Tr.rq (inR IntKind.i64 ((↑j : Int) + 1))
                          (Tr.done X.normal
                            (cst 86 [(2, V.c (C.ptr 0 0)), (5, V.c (C.p (PV.l 1 NL.length (rowP (fun x x_1 => PV.l 1 x.length (rowP encI x)) NL)))), (8, V.c (C.sl 1 1 0 n)), (9, V.c (C.sl 2 1 0 (l + 1))), (66, V.c (C.p (PV.l 1 A.length (rowP encI A)))), (67, V.c (C.p (PV.i IntKind.i64 (↑A.length : Int)))), (68, V.c (C.p (PV.i IntKind.i64 ((↑j : Int) + 1))))] [AO.cells 52 [C.p (PV.i IntKind.i64 (↑n : Int)), C.p (PV.l 2 E.length (rowP encE E))], AO.row 4 1 n fun e o => renC [0, 1, 4] (if e = (A.getD (↑j : Int).toNat default).toNat + 0 then if 0 ≤ o ∧ o < 1 then nth C.top [C.p (PV.b true)] (o - 0) else rowC encB out e o else rowC encB out e o), AO.row 3 1 (l + 1) fun e o => renC [0, 1, 4] (appF l (rowC encI Q) (fun e o => nth C.top [C.p (PV.i IntKind.i64 (A.getD (↑j : Int).toNat default))] ((e + 0) * 1 + o)) e o)]))))))
                  (Tr.rq (off + m = l ∧ ∀ (e o : Nat), e < l → o < 1 → oneC (rowC encI Q e o) = true)
                    (Tr.rq (1 ≤ 1)
                      (Tr.rq
                        ((m + 1) * 8 ≤ 140737488355328 ∧
                          m + 1 ≤ 140737488355328 ∧ ∀ (e o : Nat), e < 1 → o < 1 → oneC (nth C.top [C.p (PV.i IntKind.i64 (A.getD (↑j : Int).toNat default))] ((e + 0) * 1 + o)) = true)
                        ((Tr.rq (inR IntKind.i64 ((↑j : Int) + 1))
                              (Tr.done X.normal
                                (cst 86 [(2, V.c (C.ptr 0 0)), (5, V.c (C.p (PV.l 1 NL.length (rowP (fun x x_1 => PV.l 1 x.length (rowP encI x)) NL)))), (8, V.c (C.sl 1 1 0 n)), (9, V.c (C.sl 2 1 off (m + 1))), (66, V.c (C.p (PV.l 1 A.length (rowP encI A)))), (67, V.c (C.p (PV.i IntKind.i64 (↑A.length : Int)))), (68, V.c (C.p (PV.i IntKind.i64 ((↑j : Int) + 1))))] [AO.cells 52 [C.p (PV.i IntKind.i64 (↑n : Int)), C.p (PV.l 2 E.length (rowP encE E))], AO.row 4 1 n fun e o => renC [0, 1, 4] (if e = (A.getD (↑j : Int).toNat default).toNat + 0 then if 0 ≤ o ∧ o < 1 then nth C.top [C.p (PV.b true)] (o - 0) else rowC encB out e o else rowC encB out e o), AO.row 3 1 (off + m + 1) fun e o => renC [0, 1, 4] (appF (off + m) (rowC encI Q) (fun e o => nth C.top [C.p (PV.i IntKind.i64 (A.getD (↑j : Int).toNat default))] ((e + 0) * 1 + o)) e o)]))).alt
                          (Tr.rq (inR IntKind.i64 ((↑j : Int) + 1))
                            (Tr.done X.normal
                              (cst 86 [(2, V.c (C.ptr 0 0)), (5, V.c (C.p (PV.l 1 NL.length (rowP (fun x x_1 => PV.l 1 x.length (rowP encI x)) NL)))), (8, V.c (C.sl 1 1 0 n)), (9, V.c (C.sl 2 1 0 (m + 1))), (66, V.c (C.p (PV.l 1 A.length (rowP encI A)))), (67, V.c (C.p (PV.i IntKind.i64 (↑A.length : Int)))), (68, V.c (C.p (PV.i IntKind.i64 ((↑j : Int) + 1))))] [AO.cells 52 [C.p (PV.i IntKind.i64 (↑n : Int)), C.p (PV.l 2 E.length (rowP encE E))], AO.row 4 1 n fun e o => renC [0, 1, 4] (if e = (A.getD (↑j : Int).toNat default).toNat + 0 then if 0 ≤ o ∧ o < 1 then nth C.top [C.p (PV.b true)] (o - 0) else rowC encB out e o else rowC encB out e o), AO.row 3 1 (m + 1) fun e o => renC [0, 1, 4] (appF m (fun e o => rowC encI Q (e + off) o) (fun e o => nth C.top [C.p (PV.i IntKind.i64 (A.getD (↑j : Int).toNat default))] ((e + 0) * 1 + o)) e o)]))))))))))
            (Tr.rq (inR IntKind.i64 ((↑j : Int) + 1))
              (Tr.done X.normal
                (cst 86 [(2, V.c (C.ptr 0 0)), (5, V.c (C.p (PV.l 1 NL.length (rowP (fun x x_1 => PV.l 1 x.length (rowP encI x)) NL)))), (8, V.c (C.sl 1 1 0 n)), (9, V.c (C.sl 2 1 off m)), (66, V.c (C.p (PV.l 1 A.length (rowP encI A)))), (67, V.c (C.p (PV.i IntKind.i64 (↑A.length : Int)))), (68, V.c (C.p (PV.i IntKind.i64 ((↑j : Int) + 1))))] [AO.cells 52 [C.p (PV.i IntKind.i64 (↑n : Int)), C.p (PV.l 2 E.length (rowP encE E))], AO.row 4 1 n fun e o => renC [0, 1, 2] (rowC encB out e o), AO.row 3 1 l fun e o => renC [0, 1, 2] (rowC encI Q e o)])))))))
    (Tr.done (X.exit 6)
      (cst 86 [(2, V.c (C.ptr 0 0)), (5, V.c (C.p (PV.l 1 NL.length (rowP (fun x x_1 => PV.l 1 x.length (rowP encI x)) NL)))), (8, V.c (C.sl 1 1 0 n)), (9, V.c (C.sl 2 1 off m)), (66, V.c (C.p (PV.l 1 A.length (rowP encI A)))), (67, V.c (C.p (PV.i IntKind.i64 (↑A.length : Int)))), (68, V.c (C.p (PV.i IntKind.i64 (↑j : Int))))] [AO.cells 52 [C.p (PV.i IntKind.i64 (↑n : Int)), C.p (PV.l 2 E.length (rowP encE E))], AO.row 4 1 n fun e o => renC [0, 1, 2] (rowC encB out e o), AO.row 3 1 l fun e o => renC [0, 1, 2] (rowC encI Q e o)])) := by kernel_rfl
theorem tQb (n m l off : Nat) (E : List Ed) (out : List Bool) (Q : List Int) (NL : List (List Int)) : exTs ext0 (takeL 1 (dropL 9 (takeL 10 (pcs Try.prog Try.f33)))) (cst 86 [(2, .c (.ptr 0 0)), (5, listV (fun (x : List Int) _ => listP encI 1 x) 1 NL), (8, .c (.sl 1 1 0 n)), (9, .c (.sl 2 1 off m))] [.cells 52 [.p (.i .i64 (n : Nat)), .p (listP encE 2 E)], .row 4 1 n (rowC encB out), .row 3 1 l (rowC encI Q)]) (endG (msk 86 [4]) []) = Tr.done X.normal
    (cst 86 [(4, V.c (C.sl 0 1 0 n))] [AO.row 4 1 n fun e o => renC [1] (rowC encB out e o)]) := by kernel_rfl
theorem some_three {p q : Prop} {v u : V} {h h' : List AO} (e : some (p, v, h) = some (q, u, h')) : p = q ∧ v = u ∧ h = h' := by
  injection e with e
  injection e with h1 e
  injection e with h2 h3
  exact ⟨h1, h2, h3⟩
def nxL (n : Nat) (E : List Ed) : List (List Int) := (List.range n).map fun (e : Nat) => adj E e
theorem nxL_at {n : Nat} {E : List Ed} {e : Nat} (he : e < n) : (nxL n E).getD e default = adj E e := by
  unfold nxL
  simp [he]
theorem nxL_length (n : Nat) (E : List Ed) : (nxL n E).length = n := by simp [nxL]
theorem nx_le (n : Nat) (E : List Ed) : VLe (V.c (C.p (PV.l 1 n fun e o => unP (renC [0, 1] (.own 3 1 (adj E (e + 0 : Nat)).length (rowP encI (adj E (e + 0 : Nat)))))))) (listV (fun (x : List Int) _ => listP encI 1 x) 1 (nxL n E)) := by
  unfold listV listP
  rw [nxL_length]
  refine VLe.p (PLe.l fun e o he ho => PLe.of_eq ?_)
  show PV.l 1 (adj E e).length (rowP encI (adj E e)) = PV.l 1 ((nxL n E).getD e default).length (rowP encI ((nxL n E).getD e default))
  rw [nxL_at he]
section
variable {G : Nat → Option Obj}
set_option maxRecDepth 100000 in
theorem okReachedH : ModHOK Try.prog G 33 mReachedH := by
  intro args h p v h' hm hp
  unfold mReachedH at hm
  split at hm; rotate_left; · cases hm
  rename_i N n0 f m0 g
  obtain ⟨rfl, rfl, rfl⟩ := some_three hm
  obtain ⟨⟨⟨hN0, hN1⟩, hL, hn, hE⟩, hL2, hm0⟩ := hp
  obtain ⟨n, rfl⟩ : ∃ n : Nat, N = n := ⟨N.toNat, by omega⟩
  have hlen : (decL decE n0 f).length ≤ 1000000 := by rw [hL.1]; exact hn
  have hS : (decL decB m0 g).length = n := by rw [hL2.1]; exact hm0
  rw [show (↑n : Int).toNat = n from rfl] at hE ⊢
  generalize decL decE n0 f = E at hL hlen hE
  generalize decL decB m0 g = S at hL2 hS
  refine FnS.args (args' := [gV n E, listV encB 1 S]) ?_ (.cons (VLe.a2 (.refl _) (PLe.of_isL hL)) (.cons hL2.le .nil))
  clear hL hL2
  have hn1 : n ≤ 1000000 := by omega
  refine fn_rowS (r := 4) (pre := (takeL 10 (pcs Try.prog Try.f33))) Try.func33 (by kernel_rfl) (by kernel_rfl) (by kernel_rfl) rfl ?_ h
  refine ExS.evG ext0_sound 3 (tQ1 n E S) ?_
  simp only [holds_rq, holds_leaf, kf_normal]
  refine ⟨by omega, ⟨?_⟩⟩
  refine ExS.loop' (l := dropL 3 (takeL 10 (pcs Try.prog Try.f33))) (b := inr (inr (nth .skip (takeL 10 (pcs Try.prog Try.f33)) 3))) (r := dropL 4 (takeL 10 (pcs Try.prog Try.f33))) (id := 0) (by kernel_rfl) (σ := Nat)
    (fun i => (fun NX => cst 86 [(1, listV encB 1 S), (2, .c (.ptr 0 0)), (5, .c (.sl 1 1 0 n)), (18, listV encE 2 E), (19, iV (E.length : Nat)), (20, iV (i : Nat))] [.cells 52 [.p (.i .i64 (n : Nat)), .p (listP encE 2 E)], .row 22 1 n (fun e _ => .own 3 1 (NX e).length (rowP encI (NX e)))]) (fun e => adj (E.take i) e)) (fun i => i ≤ E.length) (fun i => E.length - i) 0 (Nat.zero_le _)
    ((weak_rows (id := 1) (ty := 22) (sz := 1) (n := n) (f := fun e o => renC [0, 1] (C.p (nth (PV.b false) [PV.z (Value.slice none 0 0)] o))) (f' := fun _ _ => .own 3 1 0 (rowP encI [])) (by kernel_rfl) (fun e o he ho β R w ad u hu => by
      obtain rfl : o = 0 := by omega
      exact own_nil _ _ _ hu)).trans (weak_of_eq (by kernel_rfl))) ?_
  · intro i hi Q1 q1n q1e _
    refine ExS.evG ext0_sound 2 (tQ2 n i E S (fun e => adj (E.take i) e)) ?_
    simp only [holds_bT, holds_leaf, kf_normal, kf_exit, decide_eq_true_eq, decide_eq_false_iff_not]
    refine ⟨fun h1 => ⟨?_⟩, fun h1 => ⟨q1e _ ?_⟩⟩
    · refine ExS.blk' (l := dropL 2 (lpB (takeL 10 (pcs Try.prog Try.f33)) 3)) (id := 1) (a := inr (nth .skip (lpB (takeL 10 (pcs Try.prog Try.f33)) 3) 2)) (r := dropL 3 (lpB (takeL 10 (pcs Try.prog Try.f33)) 3)) (by kernel_rfl) ?_
      intro Q2 q2n _ _
      have hiE : i < E.length := by omega
      refine ExS.evG ext0_sound 1 (tQ3 n i E S (fun e => adj (E.take i) e)) ?_
      simp only [holds_rq, holds_leaf, kf_normal, show (↑i : Int).toNat = i from rfl]
      refine ⟨by omega, ⟨?_⟩⟩
      have hmem := getD_memE hiE
      have htake : E.take (i + 1) = E.take i ++ [E.getD i default] := by
        rw [List.take_add_one, List.getD_eq_getElem?_getD, List.getElem?_eq_getElem hiE]
        rfl
      generalize E.getD i default = x at hmem htake
      have hr := hE _ hmem
      have hlt : x.1.toNat < n := by omega
      refine ExS.pre (weak_open (id := 1) (e0 := x.1.toNat) (k0 := 0) (ty := 22) (sz := 1) (n := n) (ty' := 3) (sz' := 1) (n' := (adj (E.take i) x.1.toNat).length) (g := rowP encI (adj (E.take i) x.1.toNat)) (f := fun e o => renC [0, 1, 2] (C.own 3 1 (adj (E.take i) e).length (rowP encI (adj (E.take i) e)))) (by kernel_rfl) hlt (by omega) rfl) ?_
      have hal : (adj (E.take i) ((x.1.toNat : Nat) : Int)).length ≤ 1000000 := by
        unfold adj
        rw [List.length_map]
        refine Nat.le_trans (List.length_filter_le _ _) ?_
        rw [List.length_take]; omega
      refine ExS.evH ext0_sound (tQ4 n i x.1.toNat (adj (E.take i) x.1.toNat).length x.1 x.2 E S (adj (E.take i) x.1.toNat) (fun e => adj (E.take i) e)) ?_
      simp only [holds_rq, holds_leaf, kf_normal]
      refine ⟨by omega, rfl, trivial, Nat.le_refl _, ⟨by omega, by omega, int_one _⟩, by omega, rfl, ⟨q2n _ ?_⟩⟩
      refine ExS.pre ((weak_close (id := 1) (m := 2) (e0 := x.1.toNat) (k0 := 0) (ty := 22) (ty' := 3) (sz := 1) (n := n) (sz' := 1) (n' := (adj (E.take i) x.1.toNat).length + 1) (g := rowP encI (adj (E.take i) x.1.toNat ++ [x.2])) (h := fun e o => renC [0, 1, 5] (appF (adj (E.take i) x.1.toNat).length (rowC encI (adj (E.take i) x.1.toNat)) (fun e o => nth C.top [C.p (PV.i IntKind.i64 x.2)] ((e + 0) * 1 + o)) e o)) (vs := [C.sl 2 1 0 ((adj (E.take i) x.1.toNat).length + 1)]) (f := fun e o => renC [0, 1, 5] (C.own 3 1 (adj (E.take i) e).length (rowP encI (adj (E.take i) e)))) (by kernel_rfl) (by kernel_rfl) (fun e o he ho => app1' (ρ := [0, 1, 5]) rfl (int_at _) he ho) (by omega) (by kernel_rfl) (fun k hk hk' => by omega)).trans (weak_gc (msk 86 [1, 2, 5, 18, 19, 20]) _)) ?_
      refine ExS.pre (st2 := (fun NX => cst 86 [(1, listV encB 1 S), (2, .c (.ptr 0 0)), (5, .c (.sl 1 1 0 n)), (18, listV encE 2 E), (19, iV (E.length : Nat)), (20, iV (i : Nat))] [.cells 52 [.p (.i .i64 (n : Nat)), .p (listP encE 2 E)], .row 22 1 n (fun e _ => .own 3 1 (NX e).length (rowP encI (NX e)))]) (fun e => adj (E.take (i + 1)) e)) ?_ ?_
      · refine (weak_of_eq (by kernel_rfl)).trans (weak_cst (h := [.cells 52 [.p (.i .i64 (n : Nat)), .p (listP encE 2 E)], .row 22 1 n (fun e k => renC [0, 1] (if e = x.1.toNat then (if k = 0 then .own 3 1 ((adj (E.take i) x.1.toNat).length + 1) (rowP encI (adj (E.take i) x.1.toNat ++ [x.2])) else nth .top [.sl 2 1 0 ((adj (E.take i) x.1.toNat).length + 1)] k) else renC [0, 1, 5] (.own 3 1 (adj (E.take i) e).length (rowP encI (adj (E.take i) e)))))]) ?_)
        refine ⟨rfl, ⟨rfl, rfl, rfl, fun e o he ho => ?_⟩, trivial⟩
        obtain rfl : o = 0 := by omega
        rw [htake]
        dsimp only
        rw [adj_snoc]
        by_cases e1 : e = x.1.toNat
        · subst e1
          rw [if_pos rfl, if_pos rfl, if_pos (show x.1 = ((x.1.toNat : Nat) : Int) by omega)]
          rw [List.length_append]
          rfl
        · rw [if_neg e1, if_neg (show ¬ x.1 = (e : Int) by omega)]
          rfl
      · refine ExS.evH ext0_sound (tQ5 n i E S (fun e => adj (E.take (i + 1)) e)) ?_
        simp only [holds_rq, holds_leaf, kf_normal, inR]
        exact ⟨by omega, ⟨q1n (i + 1) _ (by omega) (by omega) (weak_of_eq (by kernel_rfl))⟩⟩
    · obtain rfl : i = E.length := by omega
      simp only [List.take_length]
      refine ExS.pre (weak_frz (j := 5) (id := 1) (ty := 22) (sz := 1) (n := n) (off := 0) (len := n) (f := fun e o => renC [0, 1] (.own 3 1 (adj E e).length (rowP encI (adj E e)))) (by kernel_rfl) (by kernel_rfl) (by omega) (fun e o he ho => rfl)) ?_
      refine ExS.pre (weak_slot (j := 5) (y := listV (fun (x : List Int) _ => listP encI 1 x) 1 (nxL n E)) (nx_le n E)) ?_
      refine ExS.pre (weak_gc (msk 86 [1, 2, 5]) _) ?_
      refine ExS.evG ext0_sound 3 (tQ6 n 0 E S (nxL n E)) ?_
      simp only [holds_rq, holds_leaf, kf_normal]
      refine ⟨by omega, ⟨?_⟩⟩
      clear q1n q1e h1 hi
      refine ExS.loop' (l := dropL 7 (takeL 10 (pcs Try.prog Try.f33))) (b := inr (inr (nth .skip (takeL 10 (pcs Try.prog Try.f33)) 7))) (r := dropL 8 (takeL 10 (pcs Try.prog Try.f33))) (id := 2) (by kernel_rfl) (σ := Nat)
        (fun i => (fun q m NL => cst 86 [(1, listV encB 1 S), (2, .c (.ptr 0 0)), (5, listV (fun (x : List Int) _ => listP encI 1 x) 1 NL), (8, .c (.sl 1 1 0 n)), (9, .c (.sl 2 1 0 m)), (42, iV (n : Nat)), (43, iV (i : Nat))] [.cells 52 [.p (.i .i64 (n : Nat)), .p (listP encE 2 E)], .row 4 1 n (rowC encB (List.replicate n false)), .row 3 1 m (rowC encI q)]) (stL S i) (stL S i).length (nxL n E)) (fun i => i ≤ n) (fun i => n - i) 0 (Nat.zero_le _)
        ((weak_nil 3 1 (rowC encI []) 9 (by kernel_rfl)).trans ((weak_of_eq (by kernel_rfl)).trans (weak_cst (h := [.cells 52 [.p (.i .i64 (n : Nat)), .p (listP encE 2 E)], .row 4 1 n (fun e o => renC [0, 1] (C.p (nth (PV.b false) [PV.b false] o))), .row 3 1 0 (rowC encI [])]) ⟨rfl, ⟨rfl, rfl, rfl, fun e o he ho => rep_row he ho⟩, ⟨rfl, rfl, rfl, fun _ _ _ _ => rfl⟩, trivial⟩))) ?_
      intro i hi Q1 q1n q1e _
      refine ExS.evH ext0_sound (tQ7 n (stL S i).length i E S (stL S i) (nxL n E)) ?_
      have hsl := stL_length S i
      have hsu := stL_succ S i
      simp only [holds_bT, holds_rq, holds_leaf, kf_normal, kf_exit, decide_eq_true_eq, decide_eq_false_iff_not, inR, show (↑i : Int).toNat = i from rfl, show (default : Bool) = false from rfl]
      refine ⟨fun h1 => ⟨by omega, fun c1 => ⟨trivial, Nat.le_refl _, ⟨by omega, by omega, int_one _⟩, by omega, ⟨q1n (i + 1) _ (by omega) (by omega) ?_⟩⟩, fun c1 => ⟨by omega, ⟨q1n (i + 1) _ (by omega) (by omega) ?_⟩⟩⟩, fun h1 => ⟨q1e _ ?_⟩⟩
      · rw [if_pos c1] at hsu
        show WeakS G _ ((fun q m i NL => cst 86 [(1, listV encB 1 S), (2, .c (.ptr 0 0)), (5, listV (fun (x : List Int) _ => listP encI 1 x) 1 NL), (8, .c (.sl 1 1 0 n)), (9, .c (.sl 2 1 0 m)), (42, iV (n : Nat)), (43, iV (i : Nat))] [.cells 52 [.p (.i .i64 (n : Nat)), .p (listP encE 2 E)], .row 4 1 n (rowC encB (List.replicate n false)), .row 3 1 m (rowC encI q)]) (stL S (i + 1)) (stL S (i + 1)).length (i + 1) (nxL n E))
        rw [hsu, show (stL S i ++ [(i : Int)]).length = (stL S i).length + 1 by simp]
        refine weak_cst ?_
        exact ⟨rfl, ⟨rfl, rfl, rfl, fun _ _ _ _ => rfl⟩, ⟨rfl, rfl, rfl, fun e o he ho => app1' (ρ := [0, 1, 4]) rfl (int_at _) he ho⟩, trivial⟩
      · rw [if_neg (by rw [c1]; decide)] at hsu
        show WeakS G _ ((fun q m i NL => cst 86 [(1, listV encB 1 S), (2, .c (.ptr 0 0)), (5, listV (fun (x : List Int) _ => listP encI 1 x) 1 NL), (8, .c (.sl 1 1 0 n)), (9, .c (.sl 2 1 0 m)), (42, iV (n : Nat)), (43, iV (i : Nat))] [.cells 52 [.p (.i .i64 (n : Nat)), .p (listP encE 2 E)], .row 4 1 n (rowC encB (List.replicate n false)), .row 3 1 m (rowC encI q)]) (stL S (i + 1)) (stL S (i + 1)).length (i + 1) (nxL n E))
        rw [hsu]
        exact weak_of_eq (by kernel_rfl)
      · obtain rfl : i = n := by omega
        clear q1n q1e h1 hi hsu
        have hQ0 := QI.init (E := E) hS
        have hnF := nF_rep i
        refine ExS.loop' (l := dropL 8 (takeL 10 (pcs Try.prog Try.f33))) (b := inr (inr (nth .skip (takeL 10 (pcs Try.prog Try.f33)) 8))) (r := dropL 9 (takeL 10 (pcs Try.prog Try.f33))) (id := 4) (by kernel_rfl) (σ := List Bool × Nat × List Int × List Int)
          (fun (out, off, Q, D) => (fun n m l NL => cst 86 [(2, .c (.ptr 0 0)), (5, listV (fun (x : List Int) _ => listP encI 1 x) 1 NL), (8, .c (.sl 1 1 0 n)), (9, .c (.sl 2 1 off m))] [.cells 52 [.p (.i .i64 (n : Nat)), .p (listP encE 2 E)], .row 4 1 n (rowC encB out), .row 3 1 l (rowC encI Q)]) i (Q.length - off) Q.length (nxL i E)) (fun (out, off, Q, D) => QI i E S out D (Q.drop off) ∧ off ≤ Q.length ∧ Q.length + nF out ≤ 2 * i) (fun (out, off, Q, D) => (Q.length - off) + nF out) (List.replicate i false, 0, stL S i, []) ⟨hQ0, Nat.zero_le _, by omega⟩ ((weak_gc (msk 86 [2, 5, 8, 9]) _).trans (weak_of_eq (by kernel_rfl))) ?_
        clear hQ0 hnF hsl
        rintro ⟨out, off, Q, D⟩ ⟨hQ, hoff, hbd⟩ Q1 q1n q1e -
        refine ExS.evG ext0_sound 2 (tQ8 i (Q.length - off) Q.length off E out Q (nxL i E)) ?_
        simp only [holds_bT, holds_leaf, kf_normal, kf_exit, decide_eq_true_eq, decide_eq_false_iff_not]
        refine ⟨fun h1 => ⟨?_⟩, fun h1 => ⟨q1e _ ?_⟩⟩
        · refine ExS.blk' (l := dropL 2 (lpB (takeL 10 (pcs Try.prog Try.f33)) 8)) (id := 5) (a := inr (nth .skip (lpB (takeL 10 (pcs Try.prog Try.f33)) 8) 2)) (r := dropL 3 (lpB (takeL 10 (pcs Try.prog Try.f33)) 8)) (by kernel_rfl) ?_
          intro Q2 q2n _ _
          have hlt : off < Q.length := by omega
          have hdr : Q.drop off = Q.getD off default :: Q.drop (off + 1) := by
            rw [List.drop_eq_getElem_cons hlt, List.getD_eq_getElem?_getD, List.getElem?_eq_getElem hlt]; rfl
          rw [hdr] at hQ
          refine ExS.evG ext0_sound 3 (tQ9 i (Q.length - off) Q.length off E out Q (nxL i E)) ?_
          have hu := hQ.range (Q.getD off default) (by simp)
          have hnl := nxL_length i E
          simp only [holds_rq, holds_leaf, kf_normal, Nat.zero_add, show Int.toNat 0 = 0 from rfl]
          generalize Q.getD off default = u at hQ hu
          refine ⟨⟨by decide, by omega⟩, by omega, ⟨by decide, by omega, by omega⟩, by omega, ⟨?_⟩⟩
          rw [nxL_at (show u.toNat < i by omega), show ((u.toNat : Nat) : Int) = u by omega]
          have hstart := hQ.start (q := [])
          refine ExS.loop' (l := dropL 3 (flat (inr (nth .skip (lpB (takeL 10 (pcs Try.prog Try.f33)) 8) 2)))) (b := inr (inr (nth .skip (flat (inr (nth .skip (lpB (takeL 10 (pcs Try.prog Try.f33)) 8) 2))) 3))) (r := dropL 4 (flat (inr (nth .skip (lpB (takeL 10 (pcs Try.prog Try.f33)) 8) 2)))) (id := 6) (by kernel_rfl) (σ := Nat × List Bool × Nat × List Int)
            (fun (j, out, off, Q) => (fun n m l A NL => cst 86 [(2, .c (.ptr 0 0)), (5, listV (fun (x : List Int) _ => listP encI 1 x) 1 NL), (8, .c (.sl 1 1 0 n)), (9, .c (.sl 2 1 off m)), (66, listV encI 1 A), (67, iV (A.length : Nat)), (68, iV (j : Nat))] [.cells 52 [.p (.i .i64 (n : Nat)), .p (listP encE 2 E)], .row 4 1 n (rowC encB out), .row 3 1 l (rowC encI Q)]) i (Q.length - off) Q.length (adj E u) (nxL i E)) (fun (j, out', off', Q') => QJ i E S out' D (Q'.drop off') u (adj E u) j ∧ j ≤ (adj E u).length ∧ off' ≤ Q'.length ∧ Q'.length + nF out' ≤ 2 * i ∧ (Q'.length - off') + nF out' + 1 = (Q.length - off) + nF out) (fun (j, _, _, _) => (adj E u).length - j) (0, out, off + 1, Q) ⟨hstart, Nat.zero_le _, by omega, hbd, by omega⟩ (weak_of_eq (by kernel_rfl)) ?_
          clear hstart hQ hnl
          rintro ⟨j, out', off', Q'⟩ ⟨hJ, hj, ho', hb', hme⟩ Q3 q3n q3e -
          refine ExS.evH ext0_sound (tQa i (Q'.length - off') Q'.length off' j E out' Q' (adj E u) (nxL i E)) ?_
          simp only [holds_bT, holds_rq, holds_alt, holds_leaf, kf_normal, kf_exit, decide_eq_true_eq, decide_eq_false_iff_not, inR, Bool.not_eq_true', Bool.not_eq_false', show (↑j : Int).toNat = j from rfl, show ∀ x : Nat, x + 0 = x from fun _ => rfl, show (default : Bool) = false from rfl]
          have hal2 : (adj E u).length ≤ 1000000 := by
            unfold adj
            rw [List.length_map]
            exact Nat.le_trans (List.length_filter_le _ _) hlen
          have hx : j < (adj E u).length → 0 ≤ (adj E u).getD j default ∧ (adj E u).getD j default < i := fun h => by
            have : (adj E u).getD j default ∈ adj E u := getD_mem h
            exact (hE _ (mem_adj.1 this)).2.2
          have hset : j < (adj E u).length → out'.getD ((adj E u).getD j default).toNat false = false → nF (out'.set ((adj E u).getD j default).toNat true) + 1 = nF out' := fun h c => nF_set (by rw [hJ.len]; have := hx h; omega) c
          have hadd : j < (adj E u).length → QJ i E S (out'.set ((adj E u).getD j default).toNat true) D (Q'.drop off' ++ [(adj E u).getD j default]) u (adj E u) (j + 1) := fun h => hJ.add hE h
          have hrowB : j < (adj E u).length → ∀ e o : Nat, e < i → o < 1 → renC [0, 1, 4] (if e = ((adj E u).getD j default).toNat then (if 0 ≤ o ∧ o < 1 then nth C.top [C.p (PV.b true)] (o - 0) else rowC encB out' e o) else rowC encB out' e o) = rowC encB (out'.set ((adj E u).getD j default).toNat true) e o :=
            fun h e o he ho => set1 (ρ := [0, 1, 4]) hJ.len (by have := hx h; omega) rfl he ho
          have plain : ∀ st, QJ i E S out' D (Q'.drop off') u (adj E u) (j + 1) → j < (adj E u).length → WeakS G st ((fun (j, out, off, Q) => (fun n m l A NL => cst 86 [(2, .c (.ptr 0 0)), (5, listV (fun (x : List Int) _ => listP encI 1 x) 1 NL), (8, .c (.sl 1 1 0 n)), (9, .c (.sl 2 1 off m)), (66, listV encI 1 A), (67, iV (A.length : Nat)), (68, iV (j : Nat))] [.cells 52 [.p (.i .i64 (n : Nat)), .p (listP encE 2 E)], .row 4 1 n (rowC encB out), .row 3 1 l (rowC encI Q)]) i (Q.length - off) Q.length (adj E u) (nxL i E)) (j + 1, out', off', Q')) → Q3 .normal st := fun st h1 h2 h3 => q3n (j + 1, out', off', Q') st ⟨h1, by omega, ho', hb', hme⟩ (by simp only; omega) h3
          have inpl : j < (adj E u).length → out'.getD ((adj E u).getD j default).toNat false = false → ∀ st, WeakS G st ((fun j out off Q m l => (fun n A NL => cst 86 [(2, .c (.ptr 0 0)), (5, listV (fun (x : List Int) _ => listP encI 1 x) 1 NL), (8, .c (.sl 1 1 0 n)), (9, .c (.sl 2 1 off m)), (66, listV encI 1 A), (67, iV (A.length : Nat)), (68, iV (j : Nat))] [.cells 52 [.p (.i .i64 (n : Nat)), .p (listP encE 2 E)], .row 4 1 n (rowC encB out), .row 3 1 l (rowC encI Q)]) i (adj E u) (nxL i E)) (j + 1) (out'.set ((adj E u).getD j default).toNat true) off' (Q' ++ [(adj E u).getD j default]) (Q'.length - off' + 1) (Q'.length + 1)) → Q3 .normal st := fun h1 h2 st h3 => by
            have e1 := hset h1 h2
            refine q3n (j + 1, out'.set ((adj E u).getD j default).toNat true, off', Q' ++ [(adj E u).getD j default]) st ⟨?_, by omega, by simp only [List.length_append, List.length_cons, List.length_nil, List.length_drop]; omega, by simp only [List.length_append, List.length_cons, List.length_nil, List.length_drop]; omega, by simp only [List.length_append, List.length_cons, List.length_nil, List.length_drop]; omega⟩ (by simp only; omega) ?_
            · rw [List.drop_append_of_le_length ho']; exact hadd h1
            · have e2 : (Q' ++ [(adj E u).getD j default]).length - off' = Q'.length - off' + 1 := by simp; omega
              have e3 : (Q' ++ [(adj E u).getD j default]).length = Q'.length + 1 := by simp
              show WeakS G st ((fun j out off Q m l => (fun n A NL => cst 86 [(2, .c (.ptr 0 0)), (5, listV (fun (x : List Int) _ => listP encI 1 x) 1 NL), (8, .c (.sl 1 1 0 n)), (9, .c (.sl 2 1 off m)), (66, listV encI 1 A), (67, iV (A.length : Nat)), (68, iV (j : Nat))] [.cells 52 [.p (.i .i64 (n : Nat)), .p (listP encE 2 E)], .row 4 1 n (rowC encB out), .row 3 1 l (rowC encI Q)]) i (adj E u) (nxL i E)) (j + 1) (out'.set ((adj E u).getD j default).toNat true) off' (Q' ++ [(adj E u).getD j default]) ((Q' ++ [(adj E u).getD j default]).length - off') (Q' ++ [(adj E u).getD j default]).length)
              rw [e2, e3]; exact h3
          refine ⟨fun h2 => ?_, fun h2 => ⟨q3e _ ?_⟩⟩
          · have hjl : j < (adj E u).length := by omega
            have hxr := hx hjl
            refine ⟨by omega, by omega, by omega, fun c1 => ⟨by omega, by omega, fun c2 => ?_, fun c2 => ?_⟩, fun c1 => ⟨by omega, ⟨plain _ (hJ.skip c1) hjl (weak_of_eq (by kernel_rfl))⟩⟩⟩
            · have c2 : off' = 0 := Nat.eq_of_beq_eq_true c2
              subst c2
              refine ⟨by omega, Nat.le_refl _, ⟨by omega, by omega, int_one _⟩, by omega, ⟨inpl hjl c1 _ ?_⟩⟩
              refine weak_cst ?_
              exact ⟨rfl, ⟨rfl, rfl, rfl, hrowB hjl⟩, ⟨rfl, rfl, rfl, fun e o he ho => app1' (ρ := [0, 1, 4]) rfl (int_at0 _) he ho⟩, trivial⟩
            · refine ⟨⟨by omega, fun _ _ _ _ => rfl⟩, Nat.le_refl _, ⟨by omega, by omega, int_one _⟩, ⟨by omega, ⟨inpl hjl c1 _ ?_⟩⟩, by omega, ⟨?_⟩⟩
              · refine weak_cst ?_
                exact ⟨rfl, ⟨rfl, rfl, rfl, hrowB hjl⟩, ⟨rfl, rfl, by omega, fun e o he ho => app1' (ρ := [0, 1, 4]) (by omega) (int_at0 _) he ho⟩, trivial⟩
              · have e1 := hset hjl c1
                refine q3n (j + 1, out'.set ((adj E u).getD j default).toNat true, 0, Q'.drop off' ++ [(adj E u).getD j default]) _ ⟨hadd hjl, by omega, Nat.zero_le _, by simp only [List.length_append, List.length_cons, List.length_nil, List.length_drop]; omega, by simp only [List.length_append, List.length_cons, List.length_nil, List.length_drop]; omega⟩ (by simp only; omega) ?_
                have e3 : (Q'.drop off' ++ [(adj E u).getD j default]).length = Q'.length - off' + 1 := by simp
                show WeakS G _ ((fun j out off Q m l => (fun n A NL => cst 86 [(2, .c (.ptr 0 0)), (5, listV (fun (x : List Int) _ => listP encI 1 x) 1 NL), (8, .c (.sl 1 1 0 n)), (9, .c (.sl 2 1 off m)), (66, listV encI 1 A), (67, iV (A.length : Nat)), (68, iV (j : Nat))] [.cells 52 [.p (.i .i64 (n : Nat)), .p (listP encE 2 E)], .row 4 1 n (rowC encB out), .row 3 1 l (rowC encI Q)]) i (adj E u) (nxL i E)) (j + 1) (out'.set ((adj E u).getD j default).toNat true) 0 (Q'.drop off' ++ [(adj E u).getD j default]) ((Q'.drop off' ++ [(adj E u).getD j default]).length - 0) (Q'.drop off' ++ [(adj E u).getD j default]).length)
                rw [Nat.sub_zero, e3]
                refine weak_cst ?_
                have e4 : (fun e o : Nat => rowC encI Q' (e + off') o) = rowC encI (Q'.drop off') := by
                  funext e o
                  unfold rowC rowP
                  simp [Nat.add_comm]
                rw [e4]
                exact ⟨rfl, ⟨rfl, rfl, rfl, hrowB hjl⟩, ⟨rfl, rfl, rfl, fun e o he ho => app1' (ρ := [0, 1, 4]) (by simp) (int_at0 _) he ho⟩, trivial⟩
          · obtain rfl : j = (adj E u).length := by omega
            refine ⟨_, WeakS.refl _, q2n _ ⟨_, WeakS.refl _, q1n (out', off', Q', D ++ [u]) _ ⟨hJ.fin, ho', hb'⟩ (by simp only; omega) ?_⟩⟩
            exact (weak_gc (msk 86 [2, 5, 8, 9]) _).trans (weak_of_eq (by kernel_rfl))
        · have hQe : Q.drop off = [] := List.drop_of_length_le (by omega)
          rw [hQe] at hQ
          refine ExS.evH ext0_sound (tQb i (Q.length - off) Q.length off E out Q (nxL i E)) ?_
          simp only [holds_leaf, kf_normal]
          refine ⟨trivial, by simp, 0, _, rfl, rfl, fun e o he ho => ?_⟩
          rw [hQ.fin hE]
          rfl
end
end Go.AE
