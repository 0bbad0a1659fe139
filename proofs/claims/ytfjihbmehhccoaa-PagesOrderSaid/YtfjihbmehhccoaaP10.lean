/- AE contracts: slices.Grow of nil, slices.Concat of lists of numbers, slices.Compact. -/
import Derived.Test.YtfjihbmehhccoaaP7
import Derived.Test.YtfjihbmehhccoaaAeE
namespace Go.AE
set_option linter.unusedVariables false
set_option linter.unusedSimpArgs false
open Go.Proofs Go.Proofs.Ytfjihbmehhccoaa Go.RowKit
def mGrow : ModH
  | [.c (.p (.z (.slice none 0 0))), .c (.p (.i .i64 n))], h => some (0 ≤ n ∧ n ≤ 1000000, .c (.sl (lenL h) 1 0 0), snoc (.row 3 1 0 fun e o => .p (rowP encI [] e o)) h)
  | _, _ => none
def extGr : Ext := extH [(77, mGrow)]
def encII (x : List Int) (_ : Nat) : PV := listP encI 1 x
theorem tG1 (n : Nat) : exTs ext0 (takeL 6 (pcs Try.prog Try.f77)) (st0 Try.f77 [.c (.p (.z (.slice none 0 0))), iV n]) (endG (msk 27 [0]) []) = Tr.rq (inR IntKind.i64 (0 - 0))
    (Tr.rq (inR IntKind.i64 ((↑n : Int) - (0 - 0)))
      (bT (decide (0 < (↑n : Int) - (0 - 0)))
        (Tr.rq ((↑(0 : Nat) : Int) = 0 ∧ (0 : Int) = 0)
          (Tr.rq (0 < (↑n : Int) - (0 - 0) ∧ ((↑n : Int) - (0 - 0)) * (↑(8 : Nat) : Int) ≤ 140737488355328 ∧ (↑n : Int) - (0 - 0) ≤ 140737488355328)
            (Tr.rq (0 ≤ (↑(0 : Nat) : Int) ∧ (↑(0 : Nat) : Int) ≤ 0 ∧ 0 ≤ (↑((↑n : Int) - (0 - 0)).toNat : Int))
              (Tr.done X.normal
                (cst 27 [(0, V.c (C.sl 0 1 0 0))] [AO.row 3 1 ((↑n : Int) - (0 - 0)).toNat fun e o => renC [0] (C.p (nth (PV.b false) [PV.i IntKind.i64 0] o))])))))
        (Tr.done X.normal
          (cst 27 [(0, V.c (C.p (PV.z (Value.slice none 0 0))))] [])))) := by kernel_rfl
theorem tC1 (LL : List (List Int)) : exTs ext0 (takeL 3 (pcs Try.prog Try.f46)) (st0 Try.f46 [listV encII 1 LL]) (endG (msk 36 [0, 3, 9, 10, 11]) []) = Tr.done X.normal
    (cst 36 [(0, V.c (C.p (PV.l 1 LL.length (rowP encII LL)))), (3, V.c (C.p (PV.i IntKind.i64 0))), (9, V.c (C.p (PV.l 1 LL.length (rowP encII LL)))), (10, V.c (C.p (PV.i IntKind.i64 (↑LL.length : Int)))), (11, V.c (C.p (PV.i IntKind.i64 0)))] []) := by kernel_rfl
theorem tC2 (LL : List (List Int)) (s i : Nat) : exTs ext0 (lpB (pcs Try.prog Try.f46) 3) (cst 36 [(0, listV encII 1 LL), (3, iV s), (9, listV encII 1 LL), (10, iV (LL.length : Nat)), (11, iV i)] []) (endG (msk 36 [0, 3, 9, 10, 11]) []) = bT (decide ((↑i : Int) < (↑LL.length : Int)))
    (Tr.rq (0 ≤ (↑i : Int) ∧ (↑i : Int) < (↑LL.length : Int))
      (Tr.rq (inR IntKind.i64 ((↑s : Int) + (↑(LL.getD (↑i : Int).toNat default).length : Int)))
        (Tr.rq (inR IntKind.i64 ((↑i : Int) + 1))
          (Tr.done X.normal
            (cst 36 [(0, V.c (C.p (PV.l 1 LL.length (rowP encII LL)))), (3, V.c (C.p (PV.i IntKind.i64 ((↑s : Int) + (↑(LL.getD (↑i : Int).toNat default).length : Int))))), (9, V.c (C.p (PV.l 1 LL.length (rowP encII LL)))), (10, V.c (C.p (PV.i IntKind.i64 (↑LL.length : Int)))), (11, V.c (C.p (PV.i IntKind.i64 ((↑i : Int) + 1))))] [])))))
    (Tr.done (X.exit 0)
      (cst 36 [(0, V.c (C.p (PV.l 1 LL.length (rowP encII LL)))), (3, V.c (C.p (PV.i IntKind.i64 (↑s : Int)))), (9, V.c (C.p (PV.l 1 LL.length (rowP encII LL)))), (10, V.c (C.p (PV.i IntKind.i64 (↑LL.length : Int)))), (11, V.c (C.p (PV.i IntKind.i64 (↑i : Int))))] [])) := by kernel_rfl
theorem tC3 (LL : List (List Int)) (s : Nat) : exTs extGr (takeL 2 (dropL 4 (pcs Try.prog Try.f46))) (cst 36 [(0, listV encII 1 LL), (3, iV s)] []) (endG (msk 36 [6, 25, 26, 27]) []) = Tr.rq (0 ≤ (↑s : Int) ∧ (↑s : Int) ≤ 1000000)
    (Tr.done X.normal
      (cst 36 [(6, V.c (C.sl 0 1 0 0)), (25, V.c (C.p (PV.l 1 LL.length (rowP encII LL)))), (26, V.c (C.p (PV.i IntKind.i64 (↑LL.length : Int)))), (27, V.c (C.p (PV.i IntKind.i64 0)))] [AO.row 3 1 0 fun e o => renC [0] (C.p (PV.i IntKind.i64 ([].getD e default)))])) := by kernel_rfl
theorem tC4 (LL : List (List Int)) (out : List Int) (k i : Nat) : exTs ext0 (lpB (pcs Try.prog Try.f46) 6) (cst 36 [(6, .c (.sl 0 1 0 k)), (25, listV encII 1 LL), (26, iV (LL.length : Nat)), (27, iV i)] [.row 3 1 k (rowC encI out)]) (endG (msk 36 [6, 25, 26, 27]) []) = bT (decide ((↑i : Int) < (↑LL.length : Int)))
    (Tr.rq (0 ≤ (↑i : Int) ∧ (↑i : Int) < (↑LL.length : Int))
      (Tr.rq (k = k)
        (Tr.rq
          ((k + (LL.getD (↑i : Int).toNat default).length) * 8 ≤ 140737488355328 ∧
            k + (LL.getD (↑i : Int).toNat default).length ≤ 140737488355328 ∧
              ∀ (e o : Nat), e < (LL.getD (↑i : Int).toNat default).length → o < 1 → oneC (C.p (rowP encI (LL.getD (↑i : Int).toNat default) e o)) = true)
          (Tr.rq (inR IntKind.i64 ((↑i : Int) + 1))
            (Tr.done X.normal
              (cst 36 [(6, V.c (C.sl 0 1 0 (k + (LL.getD (↑i : Int).toNat default).length))), (25, V.c (C.p (PV.l 1 LL.length (rowP encII LL)))), (26, V.c (C.p (PV.i IntKind.i64 (↑LL.length : Int)))), (27, V.c (C.p (PV.i IntKind.i64 ((↑i : Int) + 1))))] [AO.row 3 1 (k + (LL.getD (↑i : Int).toNat default).length) fun e o => renC [1] (appF k (rowC encI out) (fun e o => C.p (PV.i IntKind.i64 ((LL.getD (↑i : Int).toNat default).getD e default))) e o)]))))))
    (Tr.done (X.exit 2)
      (cst 36 [(6, V.c (C.sl 0 1 0 k)), (25, V.c (C.p (PV.l 1 LL.length (rowP encII LL)))), (26, V.c (C.p (PV.i IntKind.i64 (↑LL.length : Int)))), (27, V.c (C.p (PV.i IntKind.i64 (↑i : Int))))] [AO.row 3 1 k fun e o => renC [0] (rowC encI out e o)])) := by kernel_rfl
end Go.AE
