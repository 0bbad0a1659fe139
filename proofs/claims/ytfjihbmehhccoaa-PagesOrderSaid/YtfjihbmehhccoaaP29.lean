/- AE contracts: PagesOrder: trees. -/
import Derived.Test.YtfjihbmehhccoaaP28
namespace Go.AE
set_option linter.unusedVariables false
set_option linter.unusedSimpArgs false
open Go.Proofs Go.Proofs.Ytfjihbmehhccoaa Gp Go.RowKit
noncomputable def extW1 : Ext := extOf [(13, mGPage)]
noncomputable def extW2 (a b : Pg) : Ext := extH [(32, liftM mPComp), (33, liftM mPComp), (23, frzA (mEqX [a] [b]))]
noncomputable def extW3 : Ext := extOf [(32, mPComp), (19, mLives31)]
theorem tW0 (A : List Int) (k0 k1 k2 : Int) : exTs extW1 (takeL 3 (pcs Try.prog Try.f8)) (st0 Try.f8 [listV encI 1 A, .a [.p (.i .i64 k0), .p (.i .i64 k1), .p (.i .i64 k2)]]) (endG (msk 103 [0, 3, 5, 6]) (resOf Try.prog Try.f8)) = Tr.done X.normal
    (cst 103 [(0, V.c (C.p (PV.l 1 A.length (rowP encI A)))), (3, V.c (C.ptr 0 0)), (5, V.c (C.ptr 1 0)), (6, V.c (C.p (PV.i IntKind.i64 0)))] [AO.cells 59 [C.p (PV.i IntKind.i64 k0), C.p (PV.i IntKind.i64 k1), C.p (PV.i IntKind.i64 k2)], AO.cells 60 [C.p (PV.i IntKind.i64 0), C.p (PV.s (ByteArray.mk #[])), C.p (PV.i IntKind.i64 0), C.p (PV.z (Value.slice none 0 0)), C.p (PV.i IntKind.i64 0), C.p (PV.i IntKind.i64 0), C.p (PV.s (ByteArray.mk #[])), C.p (PV.i IntKind.i64 0), C.p (PV.s (ByteArray.mk #[])), C.p (PV.i IntKind.i64 0), C.p (PV.z (Value.slice none 0 0)), C.p (PV.i IntKind.i64 0), C.p (PV.i IntKind.i64 0), C.p (PV.s (ByteArray.mk #[])), C.p (PV.i IntKind.i64 0), C.p (PV.s (ByteArray.mk #[])), C.p (PV.i IntKind.i64 0), C.p (PV.z (Value.slice none 0 0)), C.p (PV.i IntKind.i64 0), C.p (PV.i IntKind.i64 0), C.p (PV.s (ByteArray.mk #[]))]]) := by kernel_rfl
theorem tWA0 (A : List Int) (k0 k1 k2 : Int) (p q r : Pg) : exTs extW1 (lpB (pcs Try.prog Try.f8) 3) (cst 103 [(0, listV encI 1 A), (3, .c (.ptr 0 0)), (5, .c (.ptr 1 0)), (6, iV 0)] [.cells 59 [.p (.i .i64 k0), .p (.i .i64 k1), .p (.i .i64 k2)], .cells 60 [.p (.i .i64 p.kd), .p (.s p.ru), .p (.i .i64 p.ve), .p (listP enc2 2 p.L), .p (.i .i64 p.st), .p (.i .i64 p.se), .p (.s p.to), .p (.i .i64 q.kd), .p (.s q.ru), .p (.i .i64 q.ve), .p (listP enc2 2 q.L), .p (.i .i64 q.st), .p (.i .i64 q.se), .p (.s q.to), .p (.i .i64 r.kd), .p (.s r.ru), .p (.i .i64 r.ve), .p (listP enc2 2 r.L), .p (.i .i64 r.st), .p (.i .i64 r.se), .p (.s r.to)]]) (endG (msk 103 [0, 3, 5, 6]) (resOf Try.prog Try.f8)) = Tr.rq (inR IntKind.i64 (6 * 0))
    (Tr.rq (IsL encI 1 (decL decI A.length (rowP encI A)) A.length (rowP encI A) ∧ (∀ (t : Int), t ∈ decL decI A.length (rowP encI A) → inR IntKind.i64 t) ∧ inPos (6 * 0))
      (Tr.rq (Int.ofNat 0 ≤ Int.ofNat 0 ∧ 0 < (↑3 : Int))
        (Tr.rq (Int.ofNat 0 ≤ Int.ofNat 0 ∧ 0 < (↑3 : Int))
          (Tr.rq (Int.ofNat 0 ≤ Int.ofNat 0 ∧ 0 < (↑3 : Int))
            (Tr.rq (inR IntKind.i64 (0 + 1))
              (Tr.done X.normal
                (cst 103 [(0, V.c (C.p (PV.l 1 A.length (rowP encI A)))), (3, V.c (C.ptr 0 0)), (5, V.c (C.ptr 1 0)), (6, V.c (C.p (PV.i IntKind.i64 (0 + 1))))] [AO.cells 59 [C.p (PV.i IntKind.i64 k0), C.p (PV.i IntKind.i64 k1), C.p (PV.i IntKind.i64 k2)], AO.cells 60 [C.p (PV.i IntKind.i64 k0), C.p (PV.s (pageZ (decL decI A.length (rowP encI A)) (6 * 0)).ru), C.p (PV.i IntKind.i64 (pageZ (decL decI A.length (rowP encI A)) (6 * 0)).ve), C.p (PV.l 2 (pageZ (decL decI A.length (rowP encI A)) (6 * 0)).L.length (rowP enc2 (pageZ (decL decI A.length (rowP encI A)) (6 * 0)).L)), C.p (PV.i IntKind.i64 (pageZ (decL decI A.length (rowP encI A)) (6 * 0)).st), C.p (PV.i IntKind.i64 (pageZ (decL decI A.length (rowP encI A)) (6 * 0)).se), C.p (PV.s (pageZ (decL decI A.length (rowP encI A)) (6 * 0)).to), C.p (PV.i IntKind.i64 q.kd), C.p (PV.s q.ru), C.p (PV.i IntKind.i64 q.ve), C.p (PV.l 2 q.L.length (rowP enc2 q.L)), C.p (PV.i IntKind.i64 q.st), C.p (PV.i IntKind.i64 q.se), C.p (PV.s q.to), C.p (PV.i IntKind.i64 r.kd), C.p (PV.s r.ru), C.p (PV.i IntKind.i64 r.ve), C.p (PV.l 2 r.L.length (rowP enc2 r.L)), C.p (PV.i IntKind.i64 r.st), C.p (PV.i IntKind.i64 r.se), C.p (PV.s r.to)]]))))))) := by kernel_rfl
theorem tWA1 (A : List Int) (k0 k1 k2 : Int) (p q r : Pg) : exTs extW1 (lpB (pcs Try.prog Try.f8) 3) (cst 103 [(0, listV encI 1 A), (3, .c (.ptr 0 0)), (5, .c (.ptr 1 0)), (6, iV 1)] [.cells 59 [.p (.i .i64 k0), .p (.i .i64 k1), .p (.i .i64 k2)], .cells 60 [.p (.i .i64 p.kd), .p (.s p.ru), .p (.i .i64 p.ve), .p (listP enc2 2 p.L), .p (.i .i64 p.st), .p (.i .i64 p.se), .p (.s p.to), .p (.i .i64 q.kd), .p (.s q.ru), .p (.i .i64 q.ve), .p (listP enc2 2 q.L), .p (.i .i64 q.st), .p (.i .i64 q.se), .p (.s q.to), .p (.i .i64 r.kd), .p (.s r.ru), .p (.i .i64 r.ve), .p (listP enc2 2 r.L), .p (.i .i64 r.st), .p (.i .i64 r.se), .p (.s r.to)]]) (endG (msk 103 [0, 3, 5, 6]) (resOf Try.prog Try.f8)) = Tr.rq (inR IntKind.i64 (6 * 1))
    (Tr.rq (IsL encI 1 (decL decI A.length (rowP encI A)) A.length (rowP encI A) ∧ (∀ (t : Int), t ∈ decL decI A.length (rowP encI A) → inR IntKind.i64 t) ∧ inPos (6 * 1))
      (Tr.rq (Int.ofNat 0 ≤ Int.ofNat 1 ∧ 1 < (↑3 : Int))
        (Tr.rq (Int.ofNat 0 ≤ Int.ofNat 1 ∧ 1 < (↑3 : Int))
          (Tr.rq (Int.ofNat 0 ≤ Int.ofNat 1 ∧ 1 < (↑3 : Int))
            (Tr.rq (inR IntKind.i64 (1 + 1))
              (Tr.done X.normal
                (cst 103 [(0, V.c (C.p (PV.l 1 A.length (rowP encI A)))), (3, V.c (C.ptr 0 0)), (5, V.c (C.ptr 1 0)), (6, V.c (C.p (PV.i IntKind.i64 (1 + 1))))] [AO.cells 59 [C.p (PV.i IntKind.i64 k0), C.p (PV.i IntKind.i64 k1), C.p (PV.i IntKind.i64 k2)], AO.cells 60 [C.p (PV.i IntKind.i64 p.kd), C.p (PV.s p.ru), C.p (PV.i IntKind.i64 p.ve), C.p (PV.l 2 p.L.length (rowP enc2 p.L)), C.p (PV.i IntKind.i64 p.st), C.p (PV.i IntKind.i64 p.se), C.p (PV.s p.to), C.p (PV.i IntKind.i64 k1), C.p (PV.s (pageZ (decL decI A.length (rowP encI A)) (6 * 1)).ru), C.p (PV.i IntKind.i64 (pageZ (decL decI A.length (rowP encI A)) (6 * 1)).ve), C.p (PV.l 2 (pageZ (decL decI A.length (rowP encI A)) (6 * 1)).L.length (rowP enc2 (pageZ (decL decI A.length (rowP encI A)) (6 * 1)).L)), C.p (PV.i IntKind.i64 (pageZ (decL decI A.length (rowP encI A)) (6 * 1)).st), C.p (PV.i IntKind.i64 (pageZ (decL decI A.length (rowP encI A)) (6 * 1)).se), C.p (PV.s (pageZ (decL decI A.length (rowP encI A)) (6 * 1)).to), C.p (PV.i IntKind.i64 r.kd), C.p (PV.s r.ru), C.p (PV.i IntKind.i64 r.ve), C.p (PV.l 2 r.L.length (rowP enc2 r.L)), C.p (PV.i IntKind.i64 r.st), C.p (PV.i IntKind.i64 r.se), C.p (PV.s r.to)]]))))))) := by kernel_rfl
theorem tWA2 (A : List Int) (k0 k1 k2 : Int) (p q r : Pg) : exTs extW1 (lpB (pcs Try.prog Try.f8) 3) (cst 103 [(0, listV encI 1 A), (3, .c (.ptr 0 0)), (5, .c (.ptr 1 0)), (6, iV 2)] [.cells 59 [.p (.i .i64 k0), .p (.i .i64 k1), .p (.i .i64 k2)], .cells 60 [.p (.i .i64 p.kd), .p (.s p.ru), .p (.i .i64 p.ve), .p (listP enc2 2 p.L), .p (.i .i64 p.st), .p (.i .i64 p.se), .p (.s p.to), .p (.i .i64 q.kd), .p (.s q.ru), .p (.i .i64 q.ve), .p (listP enc2 2 q.L), .p (.i .i64 q.st), .p (.i .i64 q.se), .p (.s q.to), .p (.i .i64 r.kd), .p (.s r.ru), .p (.i .i64 r.ve), .p (listP enc2 2 r.L), .p (.i .i64 r.st), .p (.i .i64 r.se), .p (.s r.to)]]) (endG (msk 103 [0, 3, 5, 6]) (resOf Try.prog Try.f8)) = Tr.rq (inR IntKind.i64 (6 * 2))
    (Tr.rq (IsL encI 1 (decL decI A.length (rowP encI A)) A.length (rowP encI A) ∧ (∀ (t : Int), t ∈ decL decI A.length (rowP encI A) → inR IntKind.i64 t) ∧ inPos (6 * 2))
      (Tr.rq (Int.ofNat 0 ≤ Int.ofNat 2 ∧ 2 < (↑3 : Int))
        (Tr.rq (Int.ofNat 0 ≤ Int.ofNat 2 ∧ 2 < (↑3 : Int))
          (Tr.rq (Int.ofNat 0 ≤ Int.ofNat 2 ∧ 2 < (↑3 : Int))
            (Tr.rq (inR IntKind.i64 (2 + 1))
              (Tr.done X.normal
                (cst 103 [(0, V.c (C.p (PV.l 1 A.length (rowP encI A)))), (3, V.c (C.ptr 0 0)), (5, V.c (C.ptr 1 0)), (6, V.c (C.p (PV.i IntKind.i64 (2 + 1))))] [AO.cells 59 [C.p (PV.i IntKind.i64 k0), C.p (PV.i IntKind.i64 k1), C.p (PV.i IntKind.i64 k2)], AO.cells 60 [C.p (PV.i IntKind.i64 p.kd), C.p (PV.s p.ru), C.p (PV.i IntKind.i64 p.ve), C.p (PV.l 2 p.L.length (rowP enc2 p.L)), C.p (PV.i IntKind.i64 p.st), C.p (PV.i IntKind.i64 p.se), C.p (PV.s p.to), C.p (PV.i IntKind.i64 q.kd), C.p (PV.s q.ru), C.p (PV.i IntKind.i64 q.ve), C.p (PV.l 2 q.L.length (rowP enc2 q.L)), C.p (PV.i IntKind.i64 q.st), C.p (PV.i IntKind.i64 q.se), C.p (PV.s q.to), C.p (PV.i IntKind.i64 k2), C.p (PV.s (pageZ (decL decI A.length (rowP encI A)) (6 * 2)).ru), C.p (PV.i IntKind.i64 (pageZ (decL decI A.length (rowP encI A)) (6 * 2)).ve), C.p (PV.l 2 (pageZ (decL decI A.length (rowP encI A)) (6 * 2)).L.length (rowP enc2 (pageZ (decL decI A.length (rowP encI A)) (6 * 2)).L)), C.p (PV.i IntKind.i64 (pageZ (decL decI A.length (rowP encI A)) (6 * 2)).st), C.p (PV.i IntKind.i64 (pageZ (decL decI A.length (rowP encI A)) (6 * 2)).se), C.p (PV.s (pageZ (decL decI A.length (rowP encI A)) (6 * 2)).to)]]))))))) := by kernel_rfl
theorem tWA3 (A : List Int) (k0 k1 k2 : Int) (p q r : Pg) : exTs extW1 (lpB (pcs Try.prog Try.f8) 3) (cst 103 [(0, listV encI 1 A), (3, .c (.ptr 0 0)), (5, .c (.ptr 1 0)), (6, iV 3)] [.cells 59 [.p (.i .i64 k0), .p (.i .i64 k1), .p (.i .i64 k2)], .cells 60 [.p (.i .i64 p.kd), .p (.s p.ru), .p (.i .i64 p.ve), .p (listP enc2 2 p.L), .p (.i .i64 p.st), .p (.i .i64 p.se), .p (.s p.to), .p (.i .i64 q.kd), .p (.s q.ru), .p (.i .i64 q.ve), .p (listP enc2 2 q.L), .p (.i .i64 q.st), .p (.i .i64 q.se), .p (.s q.to), .p (.i .i64 r.kd), .p (.s r.ru), .p (.i .i64 r.ve), .p (listP enc2 2 r.L), .p (.i .i64 r.st), .p (.i .i64 r.se), .p (.s r.to)]]) (endG (msk 103 [0, 3, 5, 6]) (resOf Try.prog Try.f8)) = Tr.done (X.exit 0)
    (cst 103 [(0, V.c (C.p (PV.l 1 A.length (rowP encI A)))), (3, V.c (C.ptr 0 0)), (5, V.c (C.ptr 1 0)), (6, V.c (C.p (PV.i IntKind.i64 3)))] [AO.cells 59 [C.p (PV.i IntKind.i64 k0), C.p (PV.i IntKind.i64 k1), C.p (PV.i IntKind.i64 k2)], AO.cells 60 [C.p (PV.i IntKind.i64 p.kd), C.p (PV.s p.ru), C.p (PV.i IntKind.i64 p.ve), C.p (PV.l 2 p.L.length (rowP enc2 p.L)), C.p (PV.i IntKind.i64 p.st), C.p (PV.i IntKind.i64 p.se), C.p (PV.s p.to), C.p (PV.i IntKind.i64 q.kd), C.p (PV.s q.ru), C.p (PV.i IntKind.i64 q.ve), C.p (PV.l 2 q.L.length (rowP enc2 q.L)), C.p (PV.i IntKind.i64 q.st), C.p (PV.i IntKind.i64 q.se), C.p (PV.s q.to), C.p (PV.i IntKind.i64 r.kd), C.p (PV.s r.ru), C.p (PV.i IntKind.i64 r.ve), C.p (PV.l 2 r.L.length (rowP enc2 r.L)), C.p (PV.i IntKind.i64 r.st), C.p (PV.i IntKind.i64 r.se), C.p (PV.s r.to)]]) := by kernel_rfl
theorem tWB (p q r : Pg) : exTs ext0 (takeL 1 (dropL 4 (pcs Try.prog Try.f8))) (cst 103 [(5, .c (.ptr 0 0))] [.cells 60 [.p (.i .i64 p.kd), .p (.s p.ru), .p (.i .i64 p.ve), .p (listP enc2 2 p.L), .p (.i .i64 p.st), .p (.i .i64 p.se), .p (.s p.to), .p (.i .i64 q.kd), .p (.s q.ru), .p (.i .i64 q.ve), .p (listP enc2 2 q.L), .p (.i .i64 q.st), .p (.i .i64 q.se), .p (.s q.to), .p (.i .i64 r.kd), .p (.s r.ru), .p (.i .i64 r.ve), .p (listP enc2 2 r.L), .p (.i .i64 r.st), .p (.i .i64 r.se), .p (.s r.to)]]) (endG (msk 103 [5, 7]) (resOf Try.prog Try.f8)) = Tr.done X.normal
    (cst 103 [(5, V.c (C.ptr 0 0)), (7, V.c (C.p (PV.i IntKind.i64 0)))] [AO.cells 60 [C.p (PV.i IntKind.i64 p.kd), C.p (PV.s p.ru), C.p (PV.i IntKind.i64 p.ve), C.p (PV.l 2 p.L.length (rowP enc2 p.L)), C.p (PV.i IntKind.i64 p.st), C.p (PV.i IntKind.i64 p.se), C.p (PV.s p.to), C.p (PV.i IntKind.i64 q.kd), C.p (PV.s q.ru), C.p (PV.i IntKind.i64 q.ve), C.p (PV.l 2 q.L.length (rowP enc2 q.L)), C.p (PV.i IntKind.i64 q.st), C.p (PV.i IntKind.i64 q.se), C.p (PV.s q.to), C.p (PV.i IntKind.i64 r.kd), C.p (PV.s r.ru), C.p (PV.i IntKind.i64 r.ve), C.p (PV.l 2 r.L.length (rowP enc2 r.L)), C.p (PV.i IntKind.i64 r.st), C.p (PV.i IntKind.i64 r.se), C.p (PV.s r.to)]]) := by kernel_rfl
theorem tWC (p q r : Pg) (i : Nat) : exTs ext0 (takeL 2 (lpB (pcs Try.prog Try.f8) 5)) (cst 103 [(5, .c (.ptr 0 0)), (7, iV (i : Nat))] [.cells 60 [.p (.i .i64 p.kd), .p (.s p.ru), .p (.i .i64 p.ve), .p (listP enc2 2 p.L), .p (.i .i64 p.st), .p (.i .i64 p.se), .p (.s p.to), .p (.i .i64 q.kd), .p (.s q.ru), .p (.i .i64 q.ve), .p (listP enc2 2 q.L), .p (.i .i64 q.st), .p (.i .i64 q.se), .p (.s q.to), .p (.i .i64 r.kd), .p (.s r.ru), .p (.i .i64 r.ve), .p (listP enc2 2 r.L), .p (.i .i64 r.st), .p (.i .i64 r.se), .p (.s r.to)]]) (endG (msk 103 [5, 7]) (resOf Try.prog Try.f8)) = bT (decide ((↑i : Int) < 3))
    (Tr.done X.normal
      (cst 103 [(5, V.c (C.ptr 0 0)), (7, V.c (C.p (PV.i IntKind.i64 (↑i : Int))))] [AO.cells 60 [C.p (PV.i IntKind.i64 p.kd), C.p (PV.s p.ru), C.p (PV.i IntKind.i64 p.ve), C.p (PV.l 2 p.L.length (rowP enc2 p.L)), C.p (PV.i IntKind.i64 p.st), C.p (PV.i IntKind.i64 p.se), C.p (PV.s p.to), C.p (PV.i IntKind.i64 q.kd), C.p (PV.s q.ru), C.p (PV.i IntKind.i64 q.ve), C.p (PV.l 2 q.L.length (rowP enc2 q.L)), C.p (PV.i IntKind.i64 q.st), C.p (PV.i IntKind.i64 q.se), C.p (PV.s q.to), C.p (PV.i IntKind.i64 r.kd), C.p (PV.s r.ru), C.p (PV.i IntKind.i64 r.ve), C.p (PV.l 2 r.L.length (rowP enc2 r.L)), C.p (PV.i IntKind.i64 r.st), C.p (PV.i IntKind.i64 r.se), C.p (PV.s r.to)]]))
    (Tr.done (X.exit 2)
      (cst 103 [(5, V.c (C.ptr 0 0)), (7, V.c (C.p (PV.i IntKind.i64 (↑i : Int))))] [AO.cells 60 [C.p (PV.i IntKind.i64 p.kd), C.p (PV.s p.ru), C.p (PV.i IntKind.i64 p.ve), C.p (PV.l 2 p.L.length (rowP enc2 p.L)), C.p (PV.i IntKind.i64 p.st), C.p (PV.i IntKind.i64 p.se), C.p (PV.s p.to), C.p (PV.i IntKind.i64 q.kd), C.p (PV.s q.ru), C.p (PV.i IntKind.i64 q.ve), C.p (PV.l 2 q.L.length (rowP enc2 q.L)), C.p (PV.i IntKind.i64 q.st), C.p (PV.i IntKind.i64 q.se), C.p (PV.s q.to), C.p (PV.i IntKind.i64 r.kd), C.p (PV.s r.ru), C.p (PV.i IntKind.i64 r.ve), C.p (PV.l 2 r.L.length (rowP enc2 r.L)), C.p (PV.i IntKind.i64 r.st), C.p (PV.i IntKind.i64 r.se), C.p (PV.s r.to)]])) := by kernel_rfl
theorem tWD (p q r : Pg) (i : Nat) : exTs ext0 (takeL 1 (flat (inr (nth .skip (lpB (pcs Try.prog Try.f8) 5) 2)))) (cst 103 [(5, .c (.ptr 0 0)), (7, iV (i : Nat))] [.cells 60 [.p (.i .i64 p.kd), .p (.s p.ru), .p (.i .i64 p.ve), .p (listP enc2 2 p.L), .p (.i .i64 p.st), .p (.i .i64 p.se), .p (.s p.to), .p (.i .i64 q.kd), .p (.s q.ru), .p (.i .i64 q.ve), .p (listP enc2 2 q.L), .p (.i .i64 q.st), .p (.i .i64 q.se), .p (.s q.to), .p (.i .i64 r.kd), .p (.s r.ru), .p (.i .i64 r.ve), .p (listP enc2 2 r.L), .p (.i .i64 r.st), .p (.i .i64 r.se), .p (.s r.to)]]) (endG (msk 103 [5, 7, 8]) (resOf Try.prog Try.f8)) = Tr.done X.normal
    (cst 103 [(5, V.c (C.ptr 0 0)), (7, V.c (C.p (PV.i IntKind.i64 (↑i : Int)))), (8, V.c (C.p (PV.i IntKind.i64 0)))] [AO.cells 60 [C.p (PV.i IntKind.i64 p.kd), C.p (PV.s p.ru), C.p (PV.i IntKind.i64 p.ve), C.p (PV.l 2 p.L.length (rowP enc2 p.L)), C.p (PV.i IntKind.i64 p.st), C.p (PV.i IntKind.i64 p.se), C.p (PV.s p.to), C.p (PV.i IntKind.i64 q.kd), C.p (PV.s q.ru), C.p (PV.i IntKind.i64 q.ve), C.p (PV.l 2 q.L.length (rowP enc2 q.L)), C.p (PV.i IntKind.i64 q.st), C.p (PV.i IntKind.i64 q.se), C.p (PV.s q.to), C.p (PV.i IntKind.i64 r.kd), C.p (PV.s r.ru), C.p (PV.i IntKind.i64 r.ve), C.p (PV.l 2 r.L.length (rowP enc2 r.L)), C.p (PV.i IntKind.i64 r.st), C.p (PV.i IntKind.i64 r.se), C.p (PV.s r.to)]]) := by kernel_rfl
theorem tWE (p q r : Pg) (i : Nat) : exTs ext0 (dropL 3 (lpB (pcs Try.prog Try.f8) 5)) (cst 103 [(5, .c (.ptr 0 0)), (7, iV (i : Nat))] [.cells 60 [.p (.i .i64 p.kd), .p (.s p.ru), .p (.i .i64 p.ve), .p (listP enc2 2 p.L), .p (.i .i64 p.st), .p (.i .i64 p.se), .p (.s p.to), .p (.i .i64 q.kd), .p (.s q.ru), .p (.i .i64 q.ve), .p (listP enc2 2 q.L), .p (.i .i64 q.st), .p (.i .i64 q.se), .p (.s q.to), .p (.i .i64 r.kd), .p (.s r.ru), .p (.i .i64 r.ve), .p (listP enc2 2 r.L), .p (.i .i64 r.st), .p (.i .i64 r.se), .p (.s r.to)]]) (endG (msk 103 [5, 7]) (resOf Try.prog Try.f8)) = Tr.rq (inR IntKind.i64 ((↑i : Int) + 1))
    (Tr.done X.normal
      (cst 103 [(5, V.c (C.ptr 0 0)), (7, V.c (C.p (PV.i IntKind.i64 ((↑i : Int) + 1))))] [AO.cells 60 [C.p (PV.i IntKind.i64 p.kd), C.p (PV.s p.ru), C.p (PV.i IntKind.i64 p.ve), C.p (PV.l 2 p.L.length (rowP enc2 p.L)), C.p (PV.i IntKind.i64 p.st), C.p (PV.i IntKind.i64 p.se), C.p (PV.s p.to), C.p (PV.i IntKind.i64 q.kd), C.p (PV.s q.ru), C.p (PV.i IntKind.i64 q.ve), C.p (PV.l 2 q.L.length (rowP enc2 q.L)), C.p (PV.i IntKind.i64 q.st), C.p (PV.i IntKind.i64 q.se), C.p (PV.s q.to), C.p (PV.i IntKind.i64 r.kd), C.p (PV.s r.ru), C.p (PV.i IntKind.i64 r.ve), C.p (PV.l 2 r.L.length (rowP enc2 r.L)), C.p (PV.i IntKind.i64 r.st), C.p (PV.i IntKind.i64 r.se), C.p (PV.s r.to)]])) := by kernel_rfl
theorem tWI00 (p q r : Pg) : exTs (extW2 p p) (lpB (flat (inr (nth .skip (lpB (pcs Try.prog Try.f8) 5) 2))) 1) (cst 103 [(5, .c (.ptr 0 0)), (7, iV 0), (8, iV 0)] [.cells 60 [.p (.i .i64 p.kd), .p (.s p.ru), .p (.i .i64 p.ve), .p (listP enc2 2 p.L), .p (.i .i64 p.st), .p (.i .i64 p.se), .p (.s p.to), .p (.i .i64 q.kd), .p (.s q.ru), .p (.i .i64 q.ve), .p (listP enc2 2 q.L), .p (.i .i64 q.st), .p (.i .i64 q.se), .p (.s q.to), .p (.i .i64 r.kd), .p (.s r.ru), .p (.i .i64 r.ve), .p (listP enc2 2 r.L), .p (.i .i64 r.st), .p (.i .i64 r.se), .p (.s r.to)]]) (endG (msk 103 [5, 7, 8]) (resOf Try.prog Try.f8)) = Tr.rq (Int.ofNat 0 ≤ Int.ofNat 0 ∧ 0 < (↑3 : Int))
    (Tr.rq (Int.ofNat 0 ≤ Int.ofNat 0 ∧ 0 < (↑3 : Int))
      (Tr.rq
        ((IsL enc2 2 (decL dec2 p.L.length (rowP enc2 p.L)) p.L.length (rowP enc2 p.L) ∧ IsL enc2 2 (decL dec2 p.L.length (rowP enc2 p.L)) p.L.length (rowP enc2 p.L)) ∧
          (Pg.mk p.kd p.ru p.ve (decL dec2 p.L.length (rowP enc2 p.L)) p.st p.se p.to).L.length ≤ 1000000 ∧
            (Pg.mk p.kd p.ru p.ve (decL dec2 p.L.length (rowP enc2 p.L)) p.st p.se p.to).L.length ≤ 1000000)
        (Tr.rq (Int.ofNat 0 ≤ Int.ofNat 0 ∧ 0 < (↑3 : Int))
          (Tr.rq (Int.ofNat 0 ≤ Int.ofNat 0 ∧ 0 < (↑3 : Int))
            (Tr.rq
              ((conVs 1 7 1 [V.c (C.sl 1 7 0 1), V.c (C.sl 2 7 0 1)] ∧
                  ∀ (e o : Nat),
                    e < 1 →
                      o < 7 →
                        isF
                            (nth C.top
                              [C.p (PV.i IntKind.i64 p.kd), C.p (PV.s p.ru), C.p (PV.i IntKind.i64 p.ve), C.p (PV.l 2 p.L.length (rowP enc2 p.L)), C.p (PV.i IntKind.i64 p.st),
                                C.p (PV.i IntKind.i64 p.se), C.p (PV.s p.to)]
                              (e * 7 + o)) =
                          true) ∧
                (conVs 2 7 1
                      [V.c
                          (C.p
                            (PV.l 7 1 fun e o =>
                              unP
                                (nth C.top
                                  [C.p (PV.i IntKind.i64 p.kd), C.p (PV.s p.ru), C.p (PV.i IntKind.i64 p.ve), C.p (PV.l 2 p.L.length (rowP enc2 p.L)), C.p (PV.i IntKind.i64 p.st),
                                    C.p (PV.i IntKind.i64 p.se), C.p (PV.s p.to)]
                                  ((e + 0) * 7 + o)))),
                        V.c (C.sl 2 7 0 1)] ∧
                    ∀ (e o : Nat),
                      e < 1 →
                        o < 7 →
                          isF
                              (nth C.top
                                [C.p (PV.i IntKind.i64 p.kd), C.p (PV.s p.ru), C.p (PV.i IntKind.i64 p.ve), C.p (PV.l 2 p.L.length (rowP enc2 p.L)), C.p (PV.i IntKind.i64 p.st),
                                  C.p (PV.i IntKind.i64 p.se), C.p (PV.s p.to)]
                                (e * 7 + o)) =
                            true) ∧
                  ((1 = [p].length ∧
                        ∀ (e o : Nat),
                          e < 1 →
                            o < 7 →
                              PLe
                                (unP
                                  (bslF
                                    [C.p (PV.i IntKind.i64 p.kd), C.p (PV.s p.ru), C.p (PV.i IntKind.i64 p.ve), C.p (PV.l 2 p.L.length (rowP enc2 p.L)), C.p (PV.i IntKind.i64 p.st),
                                      C.p (PV.i IntKind.i64 p.se), C.p (PV.s p.to)]
                                    7 1 (e + 0) o))
                                (rowP encPg [p] e o)) ∧
                      1 = [p].length ∧
                        ∀ (e o : Nat),
                          e < 1 →
                            o < 7 →
                              PLe
                                (unP
                                  (bslF
                                    [C.p (PV.i IntKind.i64 p.kd), C.p (PV.s p.ru), C.p (PV.i IntKind.i64 p.ve), C.p (PV.l 2 p.L.length (rowP enc2 p.L)), C.p (PV.i IntKind.i64 p.st),
                                      C.p (PV.i IntKind.i64 p.se), C.p (PV.s p.to)]
                                    7 1 (e + 0) o))
                                (rowP encPg [p] e o)) ∧
                    [p].length ≤ 1000000 ∧ ∀ (a : Pg), a ∈ [p] → a.L.length ≤ 1000000)
              (Tr.rq (Int.ofNat 0 ≤ Int.ofNat 0 ∧ 0 < (↑3 : Int))
                (Tr.rq (Int.ofNat 0 ≤ Int.ofNat 0 ∧ 0 < (↑3 : Int))
                  (Tr.rq
                    ((IsL enc2 2 (decL dec2 p.L.length (rowP enc2 p.L)) p.L.length (rowP enc2 p.L) ∧ IsL enc2 2 (decL dec2 p.L.length (rowP enc2 p.L)) p.L.length (rowP enc2 p.L)) ∧
                      (Pg.mk p.kd p.ru p.ve (decL dec2 p.L.length (rowP enc2 p.L)) p.st p.se p.to).L.length ≤ 1000000 ∧
                        (Pg.mk p.kd p.ru p.ve (decL dec2 p.L.length (rowP enc2 p.L)) p.st p.se p.to).L.length ≤ 1000000)
                    (bT
                      (cmpP (Pg.mk p.kd p.ru p.ve (decL dec2 p.L.length (rowP enc2 p.L)) p.st p.se p.to) (Pg.mk p.kd p.ru p.ve (decL dec2 p.L.length (rowP enc2 p.L)) p.st p.se p.to) !=
                        cmpP (Pg.mk p.kd p.ru p.ve (decL dec2 p.L.length (rowP enc2 p.L)) p.st p.se p.to) (Pg.mk p.kd p.ru p.ve (decL dec2 p.L.length (rowP enc2 p.L)) p.st p.se p.to))
                      (Tr.done X.ret (St.mk [V.c (C.p (PV.b false))] []))
                      (Tr.rq (Int.ofNat 0 ≤ Int.ofNat 0 ∧ 0 < (↑3 : Int))
                        (Tr.rq (Int.ofNat 0 ≤ Int.ofNat 0 ∧ 0 < (↑3 : Int))
                          (Tr.rq
                            ((IsL enc2 2 (decL dec2 p.L.length (rowP enc2 p.L)) p.L.length (rowP enc2 p.L) ∧ IsL enc2 2 (decL dec2 p.L.length (rowP enc2 p.L)) p.L.length (rowP enc2 p.L)) ∧
                              (Pg.mk p.kd p.ru p.ve (decL dec2 p.L.length (rowP enc2 p.L)) p.st p.se p.to).L.length ≤ 1000000 ∧
                                (Pg.mk p.kd p.ru p.ve (decL dec2 p.L.length (rowP enc2 p.L)) p.st p.se p.to).L.length ≤ 1000000)
                            (Tr.rq
                              (inR IntKind.i64
                                (-cmpP (Pg.mk p.kd p.ru p.ve (decL dec2 p.L.length (rowP enc2 p.L)) p.st p.se p.to) (Pg.mk p.kd p.ru p.ve (decL dec2 p.L.length (rowP enc2 p.L)) p.st p.se p.to)))
                              (bT
                                (cmpP (Pg.mk p.kd p.ru p.ve (decL dec2 p.L.length (rowP enc2 p.L)) p.st p.se p.to) (Pg.mk p.kd p.ru p.ve (decL dec2 p.L.length (rowP enc2 p.L)) p.st p.se p.to) !=
                                  -cmpP (Pg.mk p.kd p.ru p.ve (decL dec2 p.L.length (rowP enc2 p.L)) p.st p.se p.to) (Pg.mk p.kd p.ru p.ve (decL dec2 p.L.length (rowP enc2 p.L)) p.st p.se p.to))
                                (Tr.done X.ret (St.mk [V.c (C.p (PV.b false))] []))
                                (bT
                                  (!(cmpP (Pg.mk p.kd p.ru p.ve (decL dec2 p.L.length (rowP enc2 p.L)) p.st p.se p.to) (Pg.mk p.kd p.ru p.ve (decL dec2 p.L.length (rowP enc2 p.L)) p.st p.se p.to) ==
                                        0) ==
                                      decide ([p] = [p]))
                                  (Tr.done X.ret (St.mk [V.c (C.p (PV.b false))] []))
                                  (Tr.rq (inR IntKind.i64 (0 + 1))
                                    (Tr.done X.normal
                                      (cst 103 [(5, V.c (C.ptr 0 0)), (7, V.c (C.p (PV.i IntKind.i64 0))), (8, V.c (C.p (PV.i IntKind.i64 (0 + 1))))] [AO.cells 60 [C.p (PV.i IntKind.i64 p.kd), C.p (PV.s p.ru), C.p (PV.i IntKind.i64 p.ve), C.p (PV.l 2 p.L.length (rowP enc2 p.L)), C.p (PV.i IntKind.i64 p.st), C.p (PV.i IntKind.i64 p.se), C.p (PV.s p.to), C.p (PV.i IntKind.i64 q.kd), C.p (PV.s q.ru), C.p (PV.i IntKind.i64 q.ve), C.p (PV.l 2 q.L.length (rowP enc2 q.L)), C.p (PV.i IntKind.i64 q.st), C.p (PV.i IntKind.i64 q.se), C.p (PV.s q.to), C.p (PV.i IntKind.i64 r.kd), C.p (PV.s r.ru), C.p (PV.i IntKind.i64 r.ve), C.p (PV.l 2 r.L.length (rowP enc2 r.L)), C.p (PV.i IntKind.i64 r.st), C.p (PV.i IntKind.i64 r.se), C.p (PV.s r.to)]])))))))))))))))))) := by kernel_rfl
theorem tWI01 (p q r : Pg) : exTs (extW2 p q) (lpB (flat (inr (nth .skip (lpB (pcs Try.prog Try.f8) 5) 2))) 1) (cst 103 [(5, .c (.ptr 0 0)), (7, iV 0), (8, iV 1)] [.cells 60 [.p (.i .i64 p.kd), .p (.s p.ru), .p (.i .i64 p.ve), .p (listP enc2 2 p.L), .p (.i .i64 p.st), .p (.i .i64 p.se), .p (.s p.to), .p (.i .i64 q.kd), .p (.s q.ru), .p (.i .i64 q.ve), .p (listP enc2 2 q.L), .p (.i .i64 q.st), .p (.i .i64 q.se), .p (.s q.to), .p (.i .i64 r.kd), .p (.s r.ru), .p (.i .i64 r.ve), .p (listP enc2 2 r.L), .p (.i .i64 r.st), .p (.i .i64 r.se), .p (.s r.to)]]) (endG (msk 103 [5, 7, 8]) (resOf Try.prog Try.f8)) = Tr.rq (Int.ofNat 0 ≤ Int.ofNat 0 ∧ 0 < (↑3 : Int))
    (Tr.rq (Int.ofNat 0 ≤ Int.ofNat 1 ∧ 1 < (↑3 : Int))
      (Tr.rq
        ((IsL enc2 2 (decL dec2 p.L.length (rowP enc2 p.L)) p.L.length (rowP enc2 p.L) ∧ IsL enc2 2 (decL dec2 q.L.length (rowP enc2 q.L)) q.L.length (rowP enc2 q.L)) ∧
          (Pg.mk p.kd p.ru p.ve (decL dec2 p.L.length (rowP enc2 p.L)) p.st p.se p.to).L.length ≤ 1000000 ∧
            (Pg.mk q.kd q.ru q.ve (decL dec2 q.L.length (rowP enc2 q.L)) q.st q.se q.to).L.length ≤ 1000000)
        (Tr.rq (Int.ofNat 0 ≤ Int.ofNat 0 ∧ 0 < (↑3 : Int))
          (Tr.rq (Int.ofNat 0 ≤ Int.ofNat 1 ∧ 1 < (↑3 : Int))
            (Tr.rq
              ((conVs 1 7 1 [V.c (C.sl 1 7 0 1), V.c (C.sl 2 7 0 1)] ∧
                  ∀ (e o : Nat),
                    e < 1 →
                      o < 7 →
                        isF
                            (nth C.top
                              [C.p (PV.i IntKind.i64 p.kd), C.p (PV.s p.ru), C.p (PV.i IntKind.i64 p.ve), C.p (PV.l 2 p.L.length (rowP enc2 p.L)), C.p (PV.i IntKind.i64 p.st),
                                C.p (PV.i IntKind.i64 p.se), C.p (PV.s p.to)]
                              (e * 7 + o)) =
                          true) ∧
                (conVs 2 7 1
                      [V.c
                          (C.p
                            (PV.l 7 1 fun e o =>
                              unP
                                (nth C.top
                                  [C.p (PV.i IntKind.i64 p.kd), C.p (PV.s p.ru), C.p (PV.i IntKind.i64 p.ve), C.p (PV.l 2 p.L.length (rowP enc2 p.L)), C.p (PV.i IntKind.i64 p.st),
                                    C.p (PV.i IntKind.i64 p.se), C.p (PV.s p.to)]
                                  ((e + 0) * 7 + o)))),
                        V.c (C.sl 2 7 0 1)] ∧
                    ∀ (e o : Nat),
                      e < 1 →
                        o < 7 →
                          isF
                              (nth C.top
                                [C.p (PV.i IntKind.i64 q.kd), C.p (PV.s q.ru), C.p (PV.i IntKind.i64 q.ve), C.p (PV.l 2 q.L.length (rowP enc2 q.L)), C.p (PV.i IntKind.i64 q.st),
                                  C.p (PV.i IntKind.i64 q.se), C.p (PV.s q.to)]
                                (e * 7 + o)) =
                            true) ∧
                  ((1 = [p].length ∧
                        ∀ (e o : Nat),
                          e < 1 →
                            o < 7 →
                              PLe
                                (unP
                                  (bslF
                                    [C.p (PV.i IntKind.i64 p.kd), C.p (PV.s p.ru), C.p (PV.i IntKind.i64 p.ve), C.p (PV.l 2 p.L.length (rowP enc2 p.L)), C.p (PV.i IntKind.i64 p.st),
                                      C.p (PV.i IntKind.i64 p.se), C.p (PV.s p.to)]
                                    7 1 (e + 0) o))
                                (rowP encPg [p] e o)) ∧
                      1 = [q].length ∧
                        ∀ (e o : Nat),
                          e < 1 →
                            o < 7 →
                              PLe
                                (unP
                                  (bslF
                                    [C.p (PV.i IntKind.i64 q.kd), C.p (PV.s q.ru), C.p (PV.i IntKind.i64 q.ve), C.p (PV.l 2 q.L.length (rowP enc2 q.L)), C.p (PV.i IntKind.i64 q.st),
                                      C.p (PV.i IntKind.i64 q.se), C.p (PV.s q.to)]
                                    7 1 (e + 0) o))
                                (rowP encPg [q] e o)) ∧
                    [p].length ≤ 1000000 ∧ ∀ (a : Pg), a ∈ [p] → a.L.length ≤ 1000000)
              (Tr.rq (Int.ofNat 0 ≤ Int.ofNat 0 ∧ 0 < (↑3 : Int))
                (Tr.rq (Int.ofNat 0 ≤ Int.ofNat 1 ∧ 1 < (↑3 : Int))
                  (Tr.rq
                    ((IsL enc2 2 (decL dec2 p.L.length (rowP enc2 p.L)) p.L.length (rowP enc2 p.L) ∧ IsL enc2 2 (decL dec2 q.L.length (rowP enc2 q.L)) q.L.length (rowP enc2 q.L)) ∧
                      (Pg.mk p.kd p.ru p.ve (decL dec2 p.L.length (rowP enc2 p.L)) p.st p.se p.to).L.length ≤ 1000000 ∧
                        (Pg.mk q.kd q.ru q.ve (decL dec2 q.L.length (rowP enc2 q.L)) q.st q.se q.to).L.length ≤ 1000000)
                    (bT
                      (cmpP (Pg.mk p.kd p.ru p.ve (decL dec2 p.L.length (rowP enc2 p.L)) p.st p.se p.to) (Pg.mk q.kd q.ru q.ve (decL dec2 q.L.length (rowP enc2 q.L)) q.st q.se q.to) !=
                        cmpP (Pg.mk p.kd p.ru p.ve (decL dec2 p.L.length (rowP enc2 p.L)) p.st p.se p.to) (Pg.mk q.kd q.ru q.ve (decL dec2 q.L.length (rowP enc2 q.L)) q.st q.se q.to))
                      (Tr.done X.ret (St.mk [V.c (C.p (PV.b false))] []))
                      (Tr.rq (Int.ofNat 0 ≤ Int.ofNat 1 ∧ 1 < (↑3 : Int))
                        (Tr.rq (Int.ofNat 0 ≤ Int.ofNat 0 ∧ 0 < (↑3 : Int))
                          (Tr.rq
                            ((IsL enc2 2 (decL dec2 q.L.length (rowP enc2 q.L)) q.L.length (rowP enc2 q.L) ∧ IsL enc2 2 (decL dec2 p.L.length (rowP enc2 p.L)) p.L.length (rowP enc2 p.L)) ∧
                              (Pg.mk q.kd q.ru q.ve (decL dec2 q.L.length (rowP enc2 q.L)) q.st q.se q.to).L.length ≤ 1000000 ∧
                                (Pg.mk p.kd p.ru p.ve (decL dec2 p.L.length (rowP enc2 p.L)) p.st p.se p.to).L.length ≤ 1000000)
                            (Tr.rq
                              (inR IntKind.i64
                                (-cmpP (Pg.mk q.kd q.ru q.ve (decL dec2 q.L.length (rowP enc2 q.L)) q.st q.se q.to) (Pg.mk p.kd p.ru p.ve (decL dec2 p.L.length (rowP enc2 p.L)) p.st p.se p.to)))
                              (bT
                                (cmpP (Pg.mk p.kd p.ru p.ve (decL dec2 p.L.length (rowP enc2 p.L)) p.st p.se p.to) (Pg.mk q.kd q.ru q.ve (decL dec2 q.L.length (rowP enc2 q.L)) q.st q.se q.to) !=
                                  -cmpP (Pg.mk q.kd q.ru q.ve (decL dec2 q.L.length (rowP enc2 q.L)) q.st q.se q.to) (Pg.mk p.kd p.ru p.ve (decL dec2 p.L.length (rowP enc2 p.L)) p.st p.se p.to))
                                (Tr.done X.ret (St.mk [V.c (C.p (PV.b false))] []))
                                (bT
                                  (!(cmpP (Pg.mk p.kd p.ru p.ve (decL dec2 p.L.length (rowP enc2 p.L)) p.st p.se p.to) (Pg.mk q.kd q.ru q.ve (decL dec2 q.L.length (rowP enc2 q.L)) q.st q.se q.to) ==
                                        0) ==
                                      decide ([p] = [q]))
                                  (Tr.done X.ret (St.mk [V.c (C.p (PV.b false))] []))
                                  (Tr.rq (inR IntKind.i64 (1 + 1))
                                    (Tr.done X.normal
                                      (cst 103 [(5, V.c (C.ptr 0 0)), (7, V.c (C.p (PV.i IntKind.i64 0))), (8, V.c (C.p (PV.i IntKind.i64 (1 + 1))))] [AO.cells 60 [C.p (PV.i IntKind.i64 p.kd), C.p (PV.s p.ru), C.p (PV.i IntKind.i64 p.ve), C.p (PV.l 2 p.L.length (rowP enc2 p.L)), C.p (PV.i IntKind.i64 p.st), C.p (PV.i IntKind.i64 p.se), C.p (PV.s p.to), C.p (PV.i IntKind.i64 q.kd), C.p (PV.s q.ru), C.p (PV.i IntKind.i64 q.ve), C.p (PV.l 2 q.L.length (rowP enc2 q.L)), C.p (PV.i IntKind.i64 q.st), C.p (PV.i IntKind.i64 q.se), C.p (PV.s q.to), C.p (PV.i IntKind.i64 r.kd), C.p (PV.s r.ru), C.p (PV.i IntKind.i64 r.ve), C.p (PV.l 2 r.L.length (rowP enc2 r.L)), C.p (PV.i IntKind.i64 r.st), C.p (PV.i IntKind.i64 r.se), C.p (PV.s r.to)]])))))))))))))))))) := by kernel_rfl
theorem tWI02 (p q r : Pg) : exTs (extW2 p r) (lpB (flat (inr (nth .skip (lpB (pcs Try.prog Try.f8) 5) 2))) 1) (cst 103 [(5, .c (.ptr 0 0)), (7, iV 0), (8, iV 2)] [.cells 60 [.p (.i .i64 p.kd), .p (.s p.ru), .p (.i .i64 p.ve), .p (listP enc2 2 p.L), .p (.i .i64 p.st), .p (.i .i64 p.se), .p (.s p.to), .p (.i .i64 q.kd), .p (.s q.ru), .p (.i .i64 q.ve), .p (listP enc2 2 q.L), .p (.i .i64 q.st), .p (.i .i64 q.se), .p (.s q.to), .p (.i .i64 r.kd), .p (.s r.ru), .p (.i .i64 r.ve), .p (listP enc2 2 r.L), .p (.i .i64 r.st), .p (.i .i64 r.se), .p (.s r.to)]]) (endG (msk 103 [5, 7, 8]) (resOf Try.prog Try.f8)) = Tr.rq (Int.ofNat 0 ≤ Int.ofNat 0 ∧ 0 < (↑3 : Int))
    (Tr.rq (Int.ofNat 0 ≤ Int.ofNat 2 ∧ 2 < (↑3 : Int))
      (Tr.rq
        ((IsL enc2 2 (decL dec2 p.L.length (rowP enc2 p.L)) p.L.length (rowP enc2 p.L) ∧ IsL enc2 2 (decL dec2 r.L.length (rowP enc2 r.L)) r.L.length (rowP enc2 r.L)) ∧
          (Pg.mk p.kd p.ru p.ve (decL dec2 p.L.length (rowP enc2 p.L)) p.st p.se p.to).L.length ≤ 1000000 ∧
            (Pg.mk r.kd r.ru r.ve (decL dec2 r.L.length (rowP enc2 r.L)) r.st r.se r.to).L.length ≤ 1000000)
        (Tr.rq (Int.ofNat 0 ≤ Int.ofNat 0 ∧ 0 < (↑3 : Int))
          (Tr.rq (Int.ofNat 0 ≤ Int.ofNat 2 ∧ 2 < (↑3 : Int))
            (Tr.rq
              ((conVs 1 7 1 [V.c (C.sl 1 7 0 1), V.c (C.sl 2 7 0 1)] ∧
                  ∀ (e o : Nat),
                    e < 1 →
                      o < 7 →
                        isF
                            (nth C.top
                              [C.p (PV.i IntKind.i64 p.kd), C.p (PV.s p.ru), C.p (PV.i IntKind.i64 p.ve), C.p (PV.l 2 p.L.length (rowP enc2 p.L)), C.p (PV.i IntKind.i64 p.st),
                                C.p (PV.i IntKind.i64 p.se), C.p (PV.s p.to)]
                              (e * 7 + o)) =
                          true) ∧
                (conVs 2 7 1
                      [V.c
                          (C.p
                            (PV.l 7 1 fun e o =>
                              unP
                                (nth C.top
                                  [C.p (PV.i IntKind.i64 p.kd), C.p (PV.s p.ru), C.p (PV.i IntKind.i64 p.ve), C.p (PV.l 2 p.L.length (rowP enc2 p.L)), C.p (PV.i IntKind.i64 p.st),
                                    C.p (PV.i IntKind.i64 p.se), C.p (PV.s p.to)]
                                  ((e + 0) * 7 + o)))),
                        V.c (C.sl 2 7 0 1)] ∧
                    ∀ (e o : Nat),
                      e < 1 →
                        o < 7 →
                          isF
                              (nth C.top
                                [C.p (PV.i IntKind.i64 r.kd), C.p (PV.s r.ru), C.p (PV.i IntKind.i64 r.ve), C.p (PV.l 2 r.L.length (rowP enc2 r.L)), C.p (PV.i IntKind.i64 r.st),
                                  C.p (PV.i IntKind.i64 r.se), C.p (PV.s r.to)]
                                (e * 7 + o)) =
                            true) ∧
                  ((1 = [p].length ∧
                        ∀ (e o : Nat),
                          e < 1 →
                            o < 7 →
                              PLe
                                (unP
                                  (bslF
                                    [C.p (PV.i IntKind.i64 p.kd), C.p (PV.s p.ru), C.p (PV.i IntKind.i64 p.ve), C.p (PV.l 2 p.L.length (rowP enc2 p.L)), C.p (PV.i IntKind.i64 p.st),
                                      C.p (PV.i IntKind.i64 p.se), C.p (PV.s p.to)]
                                    7 1 (e + 0) o))
                                (rowP encPg [p] e o)) ∧
                      1 = [r].length ∧
                        ∀ (e o : Nat),
                          e < 1 →
                            o < 7 →
                              PLe
                                (unP
                                  (bslF
                                    [C.p (PV.i IntKind.i64 r.kd), C.p (PV.s r.ru), C.p (PV.i IntKind.i64 r.ve), C.p (PV.l 2 r.L.length (rowP enc2 r.L)), C.p (PV.i IntKind.i64 r.st),
                                      C.p (PV.i IntKind.i64 r.se), C.p (PV.s r.to)]
                                    7 1 (e + 0) o))
                                (rowP encPg [r] e o)) ∧
                    [p].length ≤ 1000000 ∧ ∀ (a : Pg), a ∈ [p] → a.L.length ≤ 1000000)
              (Tr.rq (Int.ofNat 0 ≤ Int.ofNat 0 ∧ 0 < (↑3 : Int))
                (Tr.rq (Int.ofNat 0 ≤ Int.ofNat 2 ∧ 2 < (↑3 : Int))
                  (Tr.rq
                    ((IsL enc2 2 (decL dec2 p.L.length (rowP enc2 p.L)) p.L.length (rowP enc2 p.L) ∧ IsL enc2 2 (decL dec2 r.L.length (rowP enc2 r.L)) r.L.length (rowP enc2 r.L)) ∧
                      (Pg.mk p.kd p.ru p.ve (decL dec2 p.L.length (rowP enc2 p.L)) p.st p.se p.to).L.length ≤ 1000000 ∧
                        (Pg.mk r.kd r.ru r.ve (decL dec2 r.L.length (rowP enc2 r.L)) r.st r.se r.to).L.length ≤ 1000000)
                    (bT
                      (cmpP (Pg.mk p.kd p.ru p.ve (decL dec2 p.L.length (rowP enc2 p.L)) p.st p.se p.to) (Pg.mk r.kd r.ru r.ve (decL dec2 r.L.length (rowP enc2 r.L)) r.st r.se r.to) !=
                        cmpP (Pg.mk p.kd p.ru p.ve (decL dec2 p.L.length (rowP enc2 p.L)) p.st p.se p.to) (Pg.mk r.kd r.ru r.ve (decL dec2 r.L.length (rowP enc2 r.L)) r.st r.se r.to))
                      (Tr.done X.ret (St.mk [V.c (C.p (PV.b false))] []))
                      (Tr.rq (Int.ofNat 0 ≤ Int.ofNat 2 ∧ 2 < (↑3 : Int))
                        (Tr.rq (Int.ofNat 0 ≤ Int.ofNat 0 ∧ 0 < (↑3 : Int))
                          (Tr.rq
                            ((IsL enc2 2 (decL dec2 r.L.length (rowP enc2 r.L)) r.L.length (rowP enc2 r.L) ∧ IsL enc2 2 (decL dec2 p.L.length (rowP enc2 p.L)) p.L.length (rowP enc2 p.L)) ∧
                              (Pg.mk r.kd r.ru r.ve (decL dec2 r.L.length (rowP enc2 r.L)) r.st r.se r.to).L.length ≤ 1000000 ∧
                                (Pg.mk p.kd p.ru p.ve (decL dec2 p.L.length (rowP enc2 p.L)) p.st p.se p.to).L.length ≤ 1000000)
                            (Tr.rq
                              (inR IntKind.i64
                                (-cmpP (Pg.mk r.kd r.ru r.ve (decL dec2 r.L.length (rowP enc2 r.L)) r.st r.se r.to) (Pg.mk p.kd p.ru p.ve (decL dec2 p.L.length (rowP enc2 p.L)) p.st p.se p.to)))
                              (bT
                                (cmpP (Pg.mk p.kd p.ru p.ve (decL dec2 p.L.length (rowP enc2 p.L)) p.st p.se p.to) (Pg.mk r.kd r.ru r.ve (decL dec2 r.L.length (rowP enc2 r.L)) r.st r.se r.to) !=
                                  -cmpP (Pg.mk r.kd r.ru r.ve (decL dec2 r.L.length (rowP enc2 r.L)) r.st r.se r.to) (Pg.mk p.kd p.ru p.ve (decL dec2 p.L.length (rowP enc2 p.L)) p.st p.se p.to))
                                (Tr.done X.ret (St.mk [V.c (C.p (PV.b false))] []))
                                (bT
                                  (!(cmpP (Pg.mk p.kd p.ru p.ve (decL dec2 p.L.length (rowP enc2 p.L)) p.st p.se p.to) (Pg.mk r.kd r.ru r.ve (decL dec2 r.L.length (rowP enc2 r.L)) r.st r.se r.to) ==
                                        0) ==
                                      decide ([p] = [r]))
                                  (Tr.done X.ret (St.mk [V.c (C.p (PV.b false))] []))
                                  (Tr.rq (inR IntKind.i64 (2 + 1))
                                    (Tr.done X.normal
                                      (cst 103 [(5, V.c (C.ptr 0 0)), (7, V.c (C.p (PV.i IntKind.i64 0))), (8, V.c (C.p (PV.i IntKind.i64 (2 + 1))))] [AO.cells 60 [C.p (PV.i IntKind.i64 p.kd), C.p (PV.s p.ru), C.p (PV.i IntKind.i64 p.ve), C.p (PV.l 2 p.L.length (rowP enc2 p.L)), C.p (PV.i IntKind.i64 p.st), C.p (PV.i IntKind.i64 p.se), C.p (PV.s p.to), C.p (PV.i IntKind.i64 q.kd), C.p (PV.s q.ru), C.p (PV.i IntKind.i64 q.ve), C.p (PV.l 2 q.L.length (rowP enc2 q.L)), C.p (PV.i IntKind.i64 q.st), C.p (PV.i IntKind.i64 q.se), C.p (PV.s q.to), C.p (PV.i IntKind.i64 r.kd), C.p (PV.s r.ru), C.p (PV.i IntKind.i64 r.ve), C.p (PV.l 2 r.L.length (rowP enc2 r.L)), C.p (PV.i IntKind.i64 r.st), C.p (PV.i IntKind.i64 r.se), C.p (PV.s r.to)]])))))))))))))))))) := by kernel_rfl
theorem tWI03 (p q r : Pg) : exTs (extW2 p p) (lpB (flat (inr (nth .skip (lpB (pcs Try.prog Try.f8) 5) 2))) 1) (cst 103 [(5, .c (.ptr 0 0)), (7, iV 0), (8, iV 3)] [.cells 60 [.p (.i .i64 p.kd), .p (.s p.ru), .p (.i .i64 p.ve), .p (listP enc2 2 p.L), .p (.i .i64 p.st), .p (.i .i64 p.se), .p (.s p.to), .p (.i .i64 q.kd), .p (.s q.ru), .p (.i .i64 q.ve), .p (listP enc2 2 q.L), .p (.i .i64 q.st), .p (.i .i64 q.se), .p (.s q.to), .p (.i .i64 r.kd), .p (.s r.ru), .p (.i .i64 r.ve), .p (listP enc2 2 r.L), .p (.i .i64 r.st), .p (.i .i64 r.se), .p (.s r.to)]]) (endG (msk 103 [5, 7, 8]) (resOf Try.prog Try.f8)) = Tr.done (X.exit 4)
    (cst 103 [(5, V.c (C.ptr 0 0)), (7, V.c (C.p (PV.i IntKind.i64 0))), (8, V.c (C.p (PV.i IntKind.i64 3)))] [AO.cells 60 [C.p (PV.i IntKind.i64 p.kd), C.p (PV.s p.ru), C.p (PV.i IntKind.i64 p.ve), C.p (PV.l 2 p.L.length (rowP enc2 p.L)), C.p (PV.i IntKind.i64 p.st), C.p (PV.i IntKind.i64 p.se), C.p (PV.s p.to), C.p (PV.i IntKind.i64 q.kd), C.p (PV.s q.ru), C.p (PV.i IntKind.i64 q.ve), C.p (PV.l 2 q.L.length (rowP enc2 q.L)), C.p (PV.i IntKind.i64 q.st), C.p (PV.i IntKind.i64 q.se), C.p (PV.s q.to), C.p (PV.i IntKind.i64 r.kd), C.p (PV.s r.ru), C.p (PV.i IntKind.i64 r.ve), C.p (PV.l 2 r.L.length (rowP enc2 r.L)), C.p (PV.i IntKind.i64 r.st), C.p (PV.i IntKind.i64 r.se), C.p (PV.s r.to)]]) := by kernel_rfl
theorem tWI10 (p q r : Pg) : exTs (extW2 q p) (lpB (flat (inr (nth .skip (lpB (pcs Try.prog Try.f8) 5) 2))) 1) (cst 103 [(5, .c (.ptr 0 0)), (7, iV 1), (8, iV 0)] [.cells 60 [.p (.i .i64 p.kd), .p (.s p.ru), .p (.i .i64 p.ve), .p (listP enc2 2 p.L), .p (.i .i64 p.st), .p (.i .i64 p.se), .p (.s p.to), .p (.i .i64 q.kd), .p (.s q.ru), .p (.i .i64 q.ve), .p (listP enc2 2 q.L), .p (.i .i64 q.st), .p (.i .i64 q.se), .p (.s q.to), .p (.i .i64 r.kd), .p (.s r.ru), .p (.i .i64 r.ve), .p (listP enc2 2 r.L), .p (.i .i64 r.st), .p (.i .i64 r.se), .p (.s r.to)]]) (endG (msk 103 [5, 7, 8]) (resOf Try.prog Try.f8)) = Tr.rq (Int.ofNat 0 ≤ Int.ofNat 1 ∧ 1 < (↑3 : Int))
    (Tr.rq (Int.ofNat 0 ≤ Int.ofNat 0 ∧ 0 < (↑3 : Int))
      (Tr.rq
        ((IsL enc2 2 (decL dec2 q.L.length (rowP enc2 q.L)) q.L.length (rowP enc2 q.L) ∧ IsL enc2 2 (decL dec2 p.L.length (rowP enc2 p.L)) p.L.length (rowP enc2 p.L)) ∧
          (Pg.mk q.kd q.ru q.ve (decL dec2 q.L.length (rowP enc2 q.L)) q.st q.se q.to).L.length ≤ 1000000 ∧
            (Pg.mk p.kd p.ru p.ve (decL dec2 p.L.length (rowP enc2 p.L)) p.st p.se p.to).L.length ≤ 1000000)
        (Tr.rq (Int.ofNat 0 ≤ Int.ofNat 1 ∧ 1 < (↑3 : Int))
          (Tr.rq (Int.ofNat 0 ≤ Int.ofNat 0 ∧ 0 < (↑3 : Int))
            (Tr.rq
              ((conVs 1 7 1 [V.c (C.sl 1 7 0 1), V.c (C.sl 2 7 0 1)] ∧
                  ∀ (e o : Nat),
                    e < 1 →
                      o < 7 →
                        isF
                            (nth C.top
                              [C.p (PV.i IntKind.i64 q.kd), C.p (PV.s q.ru), C.p (PV.i IntKind.i64 q.ve), C.p (PV.l 2 q.L.length (rowP enc2 q.L)), C.p (PV.i IntKind.i64 q.st),
                                C.p (PV.i IntKind.i64 q.se), C.p (PV.s q.to)]
                              (e * 7 + o)) =
                          true) ∧
                (conVs 2 7 1
                      [V.c
                          (C.p
                            (PV.l 7 1 fun e o =>
                              unP
                                (nth C.top
                                  [C.p (PV.i IntKind.i64 q.kd), C.p (PV.s q.ru), C.p (PV.i IntKind.i64 q.ve), C.p (PV.l 2 q.L.length (rowP enc2 q.L)), C.p (PV.i IntKind.i64 q.st),
                                    C.p (PV.i IntKind.i64 q.se), C.p (PV.s q.to)]
                                  ((e + 0) * 7 + o)))),
                        V.c (C.sl 2 7 0 1)] ∧
                    ∀ (e o : Nat),
                      e < 1 →
                        o < 7 →
                          isF
                              (nth C.top
                                [C.p (PV.i IntKind.i64 p.kd), C.p (PV.s p.ru), C.p (PV.i IntKind.i64 p.ve), C.p (PV.l 2 p.L.length (rowP enc2 p.L)), C.p (PV.i IntKind.i64 p.st),
                                  C.p (PV.i IntKind.i64 p.se), C.p (PV.s p.to)]
                                (e * 7 + o)) =
                            true) ∧
                  ((1 = [q].length ∧
                        ∀ (e o : Nat),
                          e < 1 →
                            o < 7 →
                              PLe
                                (unP
                                  (bslF
                                    [C.p (PV.i IntKind.i64 q.kd), C.p (PV.s q.ru), C.p (PV.i IntKind.i64 q.ve), C.p (PV.l 2 q.L.length (rowP enc2 q.L)), C.p (PV.i IntKind.i64 q.st),
                                      C.p (PV.i IntKind.i64 q.se), C.p (PV.s q.to)]
                                    7 1 (e + 0) o))
                                (rowP encPg [q] e o)) ∧
                      1 = [p].length ∧
                        ∀ (e o : Nat),
                          e < 1 →
                            o < 7 →
                              PLe
                                (unP
                                  (bslF
                                    [C.p (PV.i IntKind.i64 p.kd), C.p (PV.s p.ru), C.p (PV.i IntKind.i64 p.ve), C.p (PV.l 2 p.L.length (rowP enc2 p.L)), C.p (PV.i IntKind.i64 p.st),
                                      C.p (PV.i IntKind.i64 p.se), C.p (PV.s p.to)]
                                    7 1 (e + 0) o))
                                (rowP encPg [p] e o)) ∧
                    [q].length ≤ 1000000 ∧ ∀ (a : Pg), a ∈ [q] → a.L.length ≤ 1000000)
              (Tr.rq (Int.ofNat 0 ≤ Int.ofNat 1 ∧ 1 < (↑3 : Int))
                (Tr.rq (Int.ofNat 0 ≤ Int.ofNat 0 ∧ 0 < (↑3 : Int))
                  (Tr.rq
                    ((IsL enc2 2 (decL dec2 q.L.length (rowP enc2 q.L)) q.L.length (rowP enc2 q.L) ∧ IsL enc2 2 (decL dec2 p.L.length (rowP enc2 p.L)) p.L.length (rowP enc2 p.L)) ∧
                      (Pg.mk q.kd q.ru q.ve (decL dec2 q.L.length (rowP enc2 q.L)) q.st q.se q.to).L.length ≤ 1000000 ∧
                        (Pg.mk p.kd p.ru p.ve (decL dec2 p.L.length (rowP enc2 p.L)) p.st p.se p.to).L.length ≤ 1000000)
                    (bT
                      (cmpP (Pg.mk q.kd q.ru q.ve (decL dec2 q.L.length (rowP enc2 q.L)) q.st q.se q.to) (Pg.mk p.kd p.ru p.ve (decL dec2 p.L.length (rowP enc2 p.L)) p.st p.se p.to) !=
                        cmpP (Pg.mk q.kd q.ru q.ve (decL dec2 q.L.length (rowP enc2 q.L)) q.st q.se q.to) (Pg.mk p.kd p.ru p.ve (decL dec2 p.L.length (rowP enc2 p.L)) p.st p.se p.to))
                      (Tr.done X.ret (St.mk [V.c (C.p (PV.b false))] []))
                      (Tr.rq (Int.ofNat 0 ≤ Int.ofNat 0 ∧ 0 < (↑3 : Int))
                        (Tr.rq (Int.ofNat 0 ≤ Int.ofNat 1 ∧ 1 < (↑3 : Int))
                          (Tr.rq
                            ((IsL enc2 2 (decL dec2 p.L.length (rowP enc2 p.L)) p.L.length (rowP enc2 p.L) ∧ IsL enc2 2 (decL dec2 q.L.length (rowP enc2 q.L)) q.L.length (rowP enc2 q.L)) ∧
                              (Pg.mk p.kd p.ru p.ve (decL dec2 p.L.length (rowP enc2 p.L)) p.st p.se p.to).L.length ≤ 1000000 ∧
                                (Pg.mk q.kd q.ru q.ve (decL dec2 q.L.length (rowP enc2 q.L)) q.st q.se q.to).L.length ≤ 1000000)
                            (Tr.rq
                              (inR IntKind.i64
                                (-cmpP (Pg.mk p.kd p.ru p.ve (decL dec2 p.L.length (rowP enc2 p.L)) p.st p.se p.to) (Pg.mk q.kd q.ru q.ve (decL dec2 q.L.length (rowP enc2 q.L)) q.st q.se q.to)))
                              (bT
                                (cmpP (Pg.mk q.kd q.ru q.ve (decL dec2 q.L.length (rowP enc2 q.L)) q.st q.se q.to) (Pg.mk p.kd p.ru p.ve (decL dec2 p.L.length (rowP enc2 p.L)) p.st p.se p.to) !=
                                  -cmpP (Pg.mk p.kd p.ru p.ve (decL dec2 p.L.length (rowP enc2 p.L)) p.st p.se p.to) (Pg.mk q.kd q.ru q.ve (decL dec2 q.L.length (rowP enc2 q.L)) q.st q.se q.to))
                                (Tr.done X.ret (St.mk [V.c (C.p (PV.b false))] []))
                                (bT
                                  (!(cmpP (Pg.mk q.kd q.ru q.ve (decL dec2 q.L.length (rowP enc2 q.L)) q.st q.se q.to) (Pg.mk p.kd p.ru p.ve (decL dec2 p.L.length (rowP enc2 p.L)) p.st p.se p.to) ==
                                        0) ==
                                      decide ([q] = [p]))
                                  (Tr.done X.ret (St.mk [V.c (C.p (PV.b false))] []))
                                  (Tr.rq (inR IntKind.i64 (0 + 1))
                                    (Tr.done X.normal
                                      (cst 103 [(5, V.c (C.ptr 0 0)), (7, V.c (C.p (PV.i IntKind.i64 1))), (8, V.c (C.p (PV.i IntKind.i64 (0 + 1))))] [AO.cells 60 [C.p (PV.i IntKind.i64 p.kd), C.p (PV.s p.ru), C.p (PV.i IntKind.i64 p.ve), C.p (PV.l 2 p.L.length (rowP enc2 p.L)), C.p (PV.i IntKind.i64 p.st), C.p (PV.i IntKind.i64 p.se), C.p (PV.s p.to), C.p (PV.i IntKind.i64 q.kd), C.p (PV.s q.ru), C.p (PV.i IntKind.i64 q.ve), C.p (PV.l 2 q.L.length (rowP enc2 q.L)), C.p (PV.i IntKind.i64 q.st), C.p (PV.i IntKind.i64 q.se), C.p (PV.s q.to), C.p (PV.i IntKind.i64 r.kd), C.p (PV.s r.ru), C.p (PV.i IntKind.i64 r.ve), C.p (PV.l 2 r.L.length (rowP enc2 r.L)), C.p (PV.i IntKind.i64 r.st), C.p (PV.i IntKind.i64 r.se), C.p (PV.s r.to)]])))))))))))))))))) := by kernel_rfl
theorem tWI11 (p q r : Pg) : exTs (extW2 q q) (lpB (flat (inr (nth .skip (lpB (pcs Try.prog Try.f8) 5) 2))) 1) (cst 103 [(5, .c (.ptr 0 0)), (7, iV 1), (8, iV 1)] [.cells 60 [.p (.i .i64 p.kd), .p (.s p.ru), .p (.i .i64 p.ve), .p (listP enc2 2 p.L), .p (.i .i64 p.st), .p (.i .i64 p.se), .p (.s p.to), .p (.i .i64 q.kd), .p (.s q.ru), .p (.i .i64 q.ve), .p (listP enc2 2 q.L), .p (.i .i64 q.st), .p (.i .i64 q.se), .p (.s q.to), .p (.i .i64 r.kd), .p (.s r.ru), .p (.i .i64 r.ve), .p (listP enc2 2 r.L), .p (.i .i64 r.st), .p (.i .i64 r.se), .p (.s r.to)]]) (endG (msk 103 [5, 7, 8]) (resOf Try.prog Try.f8)) = Tr.rq (Int.ofNat 0 ≤ Int.ofNat 1 ∧ 1 < (↑3 : Int))
    (Tr.rq (Int.ofNat 0 ≤ Int.ofNat 1 ∧ 1 < (↑3 : Int))
      (Tr.rq
        ((IsL enc2 2 (decL dec2 q.L.length (rowP enc2 q.L)) q.L.length (rowP enc2 q.L) ∧ IsL enc2 2 (decL dec2 q.L.length (rowP enc2 q.L)) q.L.length (rowP enc2 q.L)) ∧
          (Pg.mk q.kd q.ru q.ve (decL dec2 q.L.length (rowP enc2 q.L)) q.st q.se q.to).L.length ≤ 1000000 ∧
            (Pg.mk q.kd q.ru q.ve (decL dec2 q.L.length (rowP enc2 q.L)) q.st q.se q.to).L.length ≤ 1000000)
        (Tr.rq (Int.ofNat 0 ≤ Int.ofNat 1 ∧ 1 < (↑3 : Int))
          (Tr.rq (Int.ofNat 0 ≤ Int.ofNat 1 ∧ 1 < (↑3 : Int))
            (Tr.rq
              ((conVs 1 7 1 [V.c (C.sl 1 7 0 1), V.c (C.sl 2 7 0 1)] ∧
                  ∀ (e o : Nat),
                    e < 1 →
                      o < 7 →
                        isF
                            (nth C.top
                              [C.p (PV.i IntKind.i64 q.kd), C.p (PV.s q.ru), C.p (PV.i IntKind.i64 q.ve), C.p (PV.l 2 q.L.length (rowP enc2 q.L)), C.p (PV.i IntKind.i64 q.st),
                                C.p (PV.i IntKind.i64 q.se), C.p (PV.s q.to)]
                              (e * 7 + o)) =
                          true) ∧
                (conVs 2 7 1
                      [V.c
                          (C.p
                            (PV.l 7 1 fun e o =>
                              unP
                                (nth C.top
                                  [C.p (PV.i IntKind.i64 q.kd), C.p (PV.s q.ru), C.p (PV.i IntKind.i64 q.ve), C.p (PV.l 2 q.L.length (rowP enc2 q.L)), C.p (PV.i IntKind.i64 q.st),
                                    C.p (PV.i IntKind.i64 q.se), C.p (PV.s q.to)]
                                  ((e + 0) * 7 + o)))),
                        V.c (C.sl 2 7 0 1)] ∧
                    ∀ (e o : Nat),
                      e < 1 →
                        o < 7 →
                          isF
                              (nth C.top
                                [C.p (PV.i IntKind.i64 q.kd), C.p (PV.s q.ru), C.p (PV.i IntKind.i64 q.ve), C.p (PV.l 2 q.L.length (rowP enc2 q.L)), C.p (PV.i IntKind.i64 q.st),
                                  C.p (PV.i IntKind.i64 q.se), C.p (PV.s q.to)]
                                (e * 7 + o)) =
                            true) ∧
                  ((1 = [q].length ∧
                        ∀ (e o : Nat),
                          e < 1 →
                            o < 7 →
                              PLe
                                (unP
                                  (bslF
                                    [C.p (PV.i IntKind.i64 q.kd), C.p (PV.s q.ru), C.p (PV.i IntKind.i64 q.ve), C.p (PV.l 2 q.L.length (rowP enc2 q.L)), C.p (PV.i IntKind.i64 q.st),
                                      C.p (PV.i IntKind.i64 q.se), C.p (PV.s q.to)]
                                    7 1 (e + 0) o))
                                (rowP encPg [q] e o)) ∧
                      1 = [q].length ∧
                        ∀ (e o : Nat),
                          e < 1 →
                            o < 7 →
                              PLe
                                (unP
                                  (bslF
                                    [C.p (PV.i IntKind.i64 q.kd), C.p (PV.s q.ru), C.p (PV.i IntKind.i64 q.ve), C.p (PV.l 2 q.L.length (rowP enc2 q.L)), C.p (PV.i IntKind.i64 q.st),
                                      C.p (PV.i IntKind.i64 q.se), C.p (PV.s q.to)]
                                    7 1 (e + 0) o))
                                (rowP encPg [q] e o)) ∧
                    [q].length ≤ 1000000 ∧ ∀ (a : Pg), a ∈ [q] → a.L.length ≤ 1000000)
              (Tr.rq (Int.ofNat 0 ≤ Int.ofNat 1 ∧ 1 < (↑3 : Int))
                (Tr.rq (Int.ofNat 0 ≤ Int.ofNat 1 ∧ 1 < (↑3 : Int))
                  (Tr.rq
                    ((IsL enc2 2 (decL dec2 q.L.length (rowP enc2 q.L)) q.L.length (rowP enc2 q.L) ∧ IsL enc2 2 (decL dec2 q.L.length (rowP enc2 q.L)) q.L.length (rowP enc2 q.L)) ∧
                      (Pg.mk q.kd q.ru q.ve (decL dec2 q.L.length (rowP enc2 q.L)) q.st q.se q.to).L.length ≤ 1000000 ∧
                        (Pg.mk q.kd q.ru q.ve (decL dec2 q.L.length (rowP enc2 q.L)) q.st q.se q.to).L.length ≤ 1000000)
                    (bT
                      (cmpP (Pg.mk q.kd q.ru q.ve (decL dec2 q.L.length (rowP enc2 q.L)) q.st q.se q.to) (Pg.mk q.kd q.ru q.ve (decL dec2 q.L.length (rowP enc2 q.L)) q.st q.se q.to) !=
                        cmpP (Pg.mk q.kd q.ru q.ve (decL dec2 q.L.length (rowP enc2 q.L)) q.st q.se q.to) (Pg.mk q.kd q.ru q.ve (decL dec2 q.L.length (rowP enc2 q.L)) q.st q.se q.to))
                      (Tr.done X.ret (St.mk [V.c (C.p (PV.b false))] []))
                      (Tr.rq (Int.ofNat 0 ≤ Int.ofNat 1 ∧ 1 < (↑3 : Int))
                        (Tr.rq (Int.ofNat 0 ≤ Int.ofNat 1 ∧ 1 < (↑3 : Int))
                          (Tr.rq
                            ((IsL enc2 2 (decL dec2 q.L.length (rowP enc2 q.L)) q.L.length (rowP enc2 q.L) ∧ IsL enc2 2 (decL dec2 q.L.length (rowP enc2 q.L)) q.L.length (rowP enc2 q.L)) ∧
                              (Pg.mk q.kd q.ru q.ve (decL dec2 q.L.length (rowP enc2 q.L)) q.st q.se q.to).L.length ≤ 1000000 ∧
                                (Pg.mk q.kd q.ru q.ve (decL dec2 q.L.length (rowP enc2 q.L)) q.st q.se q.to).L.length ≤ 1000000)
                            (Tr.rq
                              (inR IntKind.i64
                                (-cmpP (Pg.mk q.kd q.ru q.ve (decL dec2 q.L.length (rowP enc2 q.L)) q.st q.se q.to) (Pg.mk q.kd q.ru q.ve (decL dec2 q.L.length (rowP enc2 q.L)) q.st q.se q.to)))
                              (bT
                                (cmpP (Pg.mk q.kd q.ru q.ve (decL dec2 q.L.length (rowP enc2 q.L)) q.st q.se q.to) (Pg.mk q.kd q.ru q.ve (decL dec2 q.L.length (rowP enc2 q.L)) q.st q.se q.to) !=
                                  -cmpP (Pg.mk q.kd q.ru q.ve (decL dec2 q.L.length (rowP enc2 q.L)) q.st q.se q.to) (Pg.mk q.kd q.ru q.ve (decL dec2 q.L.length (rowP enc2 q.L)) q.st q.se q.to))
                                (Tr.done X.ret (St.mk [V.c (C.p (PV.b false))] []))
                                (bT
                                  (!(cmpP (Pg.mk q.kd q.ru q.ve (decL dec2 q.L.length (rowP enc2 q.L)) q.st q.se q.to) (Pg.mk q.kd q.ru q.ve (decL dec2 q.L.length (rowP enc2 q.L)) q.st q.se q.to) ==
                                        0) ==
                                      decide ([q] = [q]))
                                  (Tr.done X.ret (St.mk [V.c (C.p (PV.b false))] []))
                                  (Tr.rq (inR IntKind.i64 (1 + 1))
                                    (Tr.done X.normal
                                      (cst 103 [(5, V.c (C.ptr 0 0)), (7, V.c (C.p (PV.i IntKind.i64 1))), (8, V.c (C.p (PV.i IntKind.i64 (1 + 1))))] [AO.cells 60 [C.p (PV.i IntKind.i64 p.kd), C.p (PV.s p.ru), C.p (PV.i IntKind.i64 p.ve), C.p (PV.l 2 p.L.length (rowP enc2 p.L)), C.p (PV.i IntKind.i64 p.st), C.p (PV.i IntKind.i64 p.se), C.p (PV.s p.to), C.p (PV.i IntKind.i64 q.kd), C.p (PV.s q.ru), C.p (PV.i IntKind.i64 q.ve), C.p (PV.l 2 q.L.length (rowP enc2 q.L)), C.p (PV.i IntKind.i64 q.st), C.p (PV.i IntKind.i64 q.se), C.p (PV.s q.to), C.p (PV.i IntKind.i64 r.kd), C.p (PV.s r.ru), C.p (PV.i IntKind.i64 r.ve), C.p (PV.l 2 r.L.length (rowP enc2 r.L)), C.p (PV.i IntKind.i64 r.st), C.p (PV.i IntKind.i64 r.se), C.p (PV.s r.to)]])))))))))))))))))) := by kernel_rfl
theorem tWI12 (p q r : Pg) : exTs (extW2 q r) (lpB (flat (inr (nth .skip (lpB (pcs Try.prog Try.f8) 5) 2))) 1) (cst 103 [(5, .c (.ptr 0 0)), (7, iV 1), (8, iV 2)] [.cells 60 [.p (.i .i64 p.kd), .p (.s p.ru), .p (.i .i64 p.ve), .p (listP enc2 2 p.L), .p (.i .i64 p.st), .p (.i .i64 p.se), .p (.s p.to), .p (.i .i64 q.kd), .p (.s q.ru), .p (.i .i64 q.ve), .p (listP enc2 2 q.L), .p (.i .i64 q.st), .p (.i .i64 q.se), .p (.s q.to), .p (.i .i64 r.kd), .p (.s r.ru), .p (.i .i64 r.ve), .p (listP enc2 2 r.L), .p (.i .i64 r.st), .p (.i .i64 r.se), .p (.s r.to)]]) (endG (msk 103 [5, 7, 8]) (resOf Try.prog Try.f8)) = Tr.rq (Int.ofNat 0 ≤ Int.ofNat 1 ∧ 1 < (↑3 : Int))
    (Tr.rq (Int.ofNat 0 ≤ Int.ofNat 2 ∧ 2 < (↑3 : Int))
      (Tr.rq
        ((IsL enc2 2 (decL dec2 q.L.length (rowP enc2 q.L)) q.L.length (rowP enc2 q.L) ∧ IsL enc2 2 (decL dec2 r.L.length (rowP enc2 r.L)) r.L.length (rowP enc2 r.L)) ∧
          (Pg.mk q.kd q.ru q.ve (decL dec2 q.L.length (rowP enc2 q.L)) q.st q.se q.to).L.length ≤ 1000000 ∧
            (Pg.mk r.kd r.ru r.ve (decL dec2 r.L.length (rowP enc2 r.L)) r.st r.se r.to).L.length ≤ 1000000)
        (Tr.rq (Int.ofNat 0 ≤ Int.ofNat 1 ∧ 1 < (↑3 : Int))
          (Tr.rq (Int.ofNat 0 ≤ Int.ofNat 2 ∧ 2 < (↑3 : Int))
            (Tr.rq
              ((conVs 1 7 1 [V.c (C.sl 1 7 0 1), V.c (C.sl 2 7 0 1)] ∧
                  ∀ (e o : Nat),
                    e < 1 →
                      o < 7 →
                        isF
                            (nth C.top
                              [C.p (PV.i IntKind.i64 q.kd), C.p (PV.s q.ru), C.p (PV.i IntKind.i64 q.ve), C.p (PV.l 2 q.L.length (rowP enc2 q.L)), C.p (PV.i IntKind.i64 q.st),
                                C.p (PV.i IntKind.i64 q.se), C.p (PV.s q.to)]
                              (e * 7 + o)) =
                          true) ∧
                (conVs 2 7 1
                      [V.c
                          (C.p
                            (PV.l 7 1 fun e o =>
                              unP
                                (nth C.top
                                  [C.p (PV.i IntKind.i64 q.kd), C.p (PV.s q.ru), C.p (PV.i IntKind.i64 q.ve), C.p (PV.l 2 q.L.length (rowP enc2 q.L)), C.p (PV.i IntKind.i64 q.st),
                                    C.p (PV.i IntKind.i64 q.se), C.p (PV.s q.to)]
                                  ((e + 0) * 7 + o)))),
                        V.c (C.sl 2 7 0 1)] ∧
                    ∀ (e o : Nat),
                      e < 1 →
                        o < 7 →
                          isF
                              (nth C.top
                                [C.p (PV.i IntKind.i64 r.kd), C.p (PV.s r.ru), C.p (PV.i IntKind.i64 r.ve), C.p (PV.l 2 r.L.length (rowP enc2 r.L)), C.p (PV.i IntKind.i64 r.st),
                                  C.p (PV.i IntKind.i64 r.se), C.p (PV.s r.to)]
                                (e * 7 + o)) =
                            true) ∧
                  ((1 = [q].length ∧
                        ∀ (e o : Nat),
                          e < 1 →
                            o < 7 →
                              PLe
                                (unP
                                  (bslF
                                    [C.p (PV.i IntKind.i64 q.kd), C.p (PV.s q.ru), C.p (PV.i IntKind.i64 q.ve), C.p (PV.l 2 q.L.length (rowP enc2 q.L)), C.p (PV.i IntKind.i64 q.st),
                                      C.p (PV.i IntKind.i64 q.se), C.p (PV.s q.to)]
                                    7 1 (e + 0) o))
                                (rowP encPg [q] e o)) ∧
                      1 = [r].length ∧
                        ∀ (e o : Nat),
                          e < 1 →
                            o < 7 →
                              PLe
                                (unP
                                  (bslF
                                    [C.p (PV.i IntKind.i64 r.kd), C.p (PV.s r.ru), C.p (PV.i IntKind.i64 r.ve), C.p (PV.l 2 r.L.length (rowP enc2 r.L)), C.p (PV.i IntKind.i64 r.st),
                                      C.p (PV.i IntKind.i64 r.se), C.p (PV.s r.to)]
                                    7 1 (e + 0) o))
                                (rowP encPg [r] e o)) ∧
                    [q].length ≤ 1000000 ∧ ∀ (a : Pg), a ∈ [q] → a.L.length ≤ 1000000)
              (Tr.rq (Int.ofNat 0 ≤ Int.ofNat 1 ∧ 1 < (↑3 : Int))
                (Tr.rq (Int.ofNat 0 ≤ Int.ofNat 2 ∧ 2 < (↑3 : Int))
                  (Tr.rq
                    ((IsL enc2 2 (decL dec2 q.L.length (rowP enc2 q.L)) q.L.length (rowP enc2 q.L) ∧ IsL enc2 2 (decL dec2 r.L.length (rowP enc2 r.L)) r.L.length (rowP enc2 r.L)) ∧
                      (Pg.mk q.kd q.ru q.ve (decL dec2 q.L.length (rowP enc2 q.L)) q.st q.se q.to).L.length ≤ 1000000 ∧
                        (Pg.mk r.kd r.ru r.ve (decL dec2 r.L.length (rowP enc2 r.L)) r.st r.se r.to).L.length ≤ 1000000)
                    (bT
                      (cmpP (Pg.mk q.kd q.ru q.ve (decL dec2 q.L.length (rowP enc2 q.L)) q.st q.se q.to) (Pg.mk r.kd r.ru r.ve (decL dec2 r.L.length (rowP enc2 r.L)) r.st r.se r.to) !=
                        cmpP (Pg.mk q.kd q.ru q.ve (decL dec2 q.L.length (rowP enc2 q.L)) q.st q.se q.to) (Pg.mk r.kd r.ru r.ve (decL dec2 r.L.length (rowP enc2 r.L)) r.st r.se r.to))
                      (Tr.done X.ret (St.mk [V.c (C.p (PV.b false))] []))
                      (Tr.rq (Int.ofNat 0 ≤ Int.ofNat 2 ∧ 2 < (↑3 : Int))
                        (Tr.rq (Int.ofNat 0 ≤ Int.ofNat 1 ∧ 1 < (↑3 : Int))
                          (Tr.rq
                            ((IsL enc2 2 (decL dec2 r.L.length (rowP enc2 r.L)) r.L.length (rowP enc2 r.L) ∧ IsL enc2 2 (decL dec2 q.L.length (rowP enc2 q.L)) q.L.length (rowP enc2 q.L)) ∧
                              (Pg.mk r.kd r.ru r.ve (decL dec2 r.L.length (rowP enc2 r.L)) r.st r.se r.to).L.length ≤ 1000000 ∧
                                (Pg.mk q.kd q.ru q.ve (decL dec2 q.L.length (rowP enc2 q.L)) q.st q.se q.to).L.length ≤ 1000000)
                            (Tr.rq
                              (inR IntKind.i64
                                (-cmpP (Pg.mk r.kd r.ru r.ve (decL dec2 r.L.length (rowP enc2 r.L)) r.st r.se r.to) (Pg.mk q.kd q.ru q.ve (decL dec2 q.L.length (rowP enc2 q.L)) q.st q.se q.to)))
                              (bT
                                (cmpP (Pg.mk q.kd q.ru q.ve (decL dec2 q.L.length (rowP enc2 q.L)) q.st q.se q.to) (Pg.mk r.kd r.ru r.ve (decL dec2 r.L.length (rowP enc2 r.L)) r.st r.se r.to) !=
                                  -cmpP (Pg.mk r.kd r.ru r.ve (decL dec2 r.L.length (rowP enc2 r.L)) r.st r.se r.to) (Pg.mk q.kd q.ru q.ve (decL dec2 q.L.length (rowP enc2 q.L)) q.st q.se q.to))
                                (Tr.done X.ret (St.mk [V.c (C.p (PV.b false))] []))
                                (bT
                                  (!(cmpP (Pg.mk q.kd q.ru q.ve (decL dec2 q.L.length (rowP enc2 q.L)) q.st q.se q.to) (Pg.mk r.kd r.ru r.ve (decL dec2 r.L.length (rowP enc2 r.L)) r.st r.se r.to) ==
                                        0) ==
                                      decide ([q] = [r]))
                                  (Tr.done X.ret (St.mk [V.c (C.p (PV.b false))] []))
                                  (Tr.rq (inR IntKind.i64 (2 + 1))
                                    (Tr.done X.normal
                                      (cst 103 [(5, V.c (C.ptr 0 0)), (7, V.c (C.p (PV.i IntKind.i64 1))), (8, V.c (C.p (PV.i IntKind.i64 (2 + 1))))] [AO.cells 60 [C.p (PV.i IntKind.i64 p.kd), C.p (PV.s p.ru), C.p (PV.i IntKind.i64 p.ve), C.p (PV.l 2 p.L.length (rowP enc2 p.L)), C.p (PV.i IntKind.i64 p.st), C.p (PV.i IntKind.i64 p.se), C.p (PV.s p.to), C.p (PV.i IntKind.i64 q.kd), C.p (PV.s q.ru), C.p (PV.i IntKind.i64 q.ve), C.p (PV.l 2 q.L.length (rowP enc2 q.L)), C.p (PV.i IntKind.i64 q.st), C.p (PV.i IntKind.i64 q.se), C.p (PV.s q.to), C.p (PV.i IntKind.i64 r.kd), C.p (PV.s r.ru), C.p (PV.i IntKind.i64 r.ve), C.p (PV.l 2 r.L.length (rowP enc2 r.L)), C.p (PV.i IntKind.i64 r.st), C.p (PV.i IntKind.i64 r.se), C.p (PV.s r.to)]])))))))))))))))))) := by kernel_rfl
theorem tWI13 (p q r : Pg) : exTs (extW2 q p) (lpB (flat (inr (nth .skip (lpB (pcs Try.prog Try.f8) 5) 2))) 1) (cst 103 [(5, .c (.ptr 0 0)), (7, iV 1), (8, iV 3)] [.cells 60 [.p (.i .i64 p.kd), .p (.s p.ru), .p (.i .i64 p.ve), .p (listP enc2 2 p.L), .p (.i .i64 p.st), .p (.i .i64 p.se), .p (.s p.to), .p (.i .i64 q.kd), .p (.s q.ru), .p (.i .i64 q.ve), .p (listP enc2 2 q.L), .p (.i .i64 q.st), .p (.i .i64 q.se), .p (.s q.to), .p (.i .i64 r.kd), .p (.s r.ru), .p (.i .i64 r.ve), .p (listP enc2 2 r.L), .p (.i .i64 r.st), .p (.i .i64 r.se), .p (.s r.to)]]) (endG (msk 103 [5, 7, 8]) (resOf Try.prog Try.f8)) = Tr.done (X.exit 4)
    (cst 103 [(5, V.c (C.ptr 0 0)), (7, V.c (C.p (PV.i IntKind.i64 1))), (8, V.c (C.p (PV.i IntKind.i64 3)))] [AO.cells 60 [C.p (PV.i IntKind.i64 p.kd), C.p (PV.s p.ru), C.p (PV.i IntKind.i64 p.ve), C.p (PV.l 2 p.L.length (rowP enc2 p.L)), C.p (PV.i IntKind.i64 p.st), C.p (PV.i IntKind.i64 p.se), C.p (PV.s p.to), C.p (PV.i IntKind.i64 q.kd), C.p (PV.s q.ru), C.p (PV.i IntKind.i64 q.ve), C.p (PV.l 2 q.L.length (rowP enc2 q.L)), C.p (PV.i IntKind.i64 q.st), C.p (PV.i IntKind.i64 q.se), C.p (PV.s q.to), C.p (PV.i IntKind.i64 r.kd), C.p (PV.s r.ru), C.p (PV.i IntKind.i64 r.ve), C.p (PV.l 2 r.L.length (rowP enc2 r.L)), C.p (PV.i IntKind.i64 r.st), C.p (PV.i IntKind.i64 r.se), C.p (PV.s r.to)]]) := by kernel_rfl
theorem tWI20 (p q r : Pg) : exTs (extW2 r p) (lpB (flat (inr (nth .skip (lpB (pcs Try.prog Try.f8) 5) 2))) 1) (cst 103 [(5, .c (.ptr 0 0)), (7, iV 2), (8, iV 0)] [.cells 60 [.p (.i .i64 p.kd), .p (.s p.ru), .p (.i .i64 p.ve), .p (listP enc2 2 p.L), .p (.i .i64 p.st), .p (.i .i64 p.se), .p (.s p.to), .p (.i .i64 q.kd), .p (.s q.ru), .p (.i .i64 q.ve), .p (listP enc2 2 q.L), .p (.i .i64 q.st), .p (.i .i64 q.se), .p (.s q.to), .p (.i .i64 r.kd), .p (.s r.ru), .p (.i .i64 r.ve), .p (listP enc2 2 r.L), .p (.i .i64 r.st), .p (.i .i64 r.se), .p (.s r.to)]]) (endG (msk 103 [5, 7, 8]) (resOf Try.prog Try.f8)) = Tr.rq (Int.ofNat 0 ≤ Int.ofNat 2 ∧ 2 < (↑3 : Int))
    (Tr.rq (Int.ofNat 0 ≤ Int.ofNat 0 ∧ 0 < (↑3 : Int))
      (Tr.rq
        ((IsL enc2 2 (decL dec2 r.L.length (rowP enc2 r.L)) r.L.length (rowP enc2 r.L) ∧ IsL enc2 2 (decL dec2 p.L.length (rowP enc2 p.L)) p.L.length (rowP enc2 p.L)) ∧
          (Pg.mk r.kd r.ru r.ve (decL dec2 r.L.length (rowP enc2 r.L)) r.st r.se r.to).L.length ≤ 1000000 ∧
            (Pg.mk p.kd p.ru p.ve (decL dec2 p.L.length (rowP enc2 p.L)) p.st p.se p.to).L.length ≤ 1000000)
        (Tr.rq (Int.ofNat 0 ≤ Int.ofNat 2 ∧ 2 < (↑3 : Int))
          (Tr.rq (Int.ofNat 0 ≤ Int.ofNat 0 ∧ 0 < (↑3 : Int))
            (Tr.rq
              ((conVs 1 7 1 [V.c (C.sl 1 7 0 1), V.c (C.sl 2 7 0 1)] ∧
                  ∀ (e o : Nat),
                    e < 1 →
                      o < 7 →
                        isF
                            (nth C.top
                              [C.p (PV.i IntKind.i64 r.kd), C.p (PV.s r.ru), C.p (PV.i IntKind.i64 r.ve), C.p (PV.l 2 r.L.length (rowP enc2 r.L)), C.p (PV.i IntKind.i64 r.st),
                                C.p (PV.i IntKind.i64 r.se), C.p (PV.s r.to)]
                              (e * 7 + o)) =
                          true) ∧
                (conVs 2 7 1
                      [V.c
                          (C.p
                            (PV.l 7 1 fun e o =>
                              unP
                                (nth C.top
                                  [C.p (PV.i IntKind.i64 r.kd), C.p (PV.s r.ru), C.p (PV.i IntKind.i64 r.ve), C.p (PV.l 2 r.L.length (rowP enc2 r.L)), C.p (PV.i IntKind.i64 r.st),
                                    C.p (PV.i IntKind.i64 r.se), C.p (PV.s r.to)]
                                  ((e + 0) * 7 + o)))),
                        V.c (C.sl 2 7 0 1)] ∧
                    ∀ (e o : Nat),
                      e < 1 →
                        o < 7 →
                          isF
                              (nth C.top
                                [C.p (PV.i IntKind.i64 p.kd), C.p (PV.s p.ru), C.p (PV.i IntKind.i64 p.ve), C.p (PV.l 2 p.L.length (rowP enc2 p.L)), C.p (PV.i IntKind.i64 p.st),
                                  C.p (PV.i IntKind.i64 p.se), C.p (PV.s p.to)]
                                (e * 7 + o)) =
                            true) ∧
                  ((1 = [r].length ∧
                        ∀ (e o : Nat),
                          e < 1 →
                            o < 7 →
                              PLe
                                (unP
                                  (bslF
                                    [C.p (PV.i IntKind.i64 r.kd), C.p (PV.s r.ru), C.p (PV.i IntKind.i64 r.ve), C.p (PV.l 2 r.L.length (rowP enc2 r.L)), C.p (PV.i IntKind.i64 r.st),
                                      C.p (PV.i IntKind.i64 r.se), C.p (PV.s r.to)]
                                    7 1 (e + 0) o))
                                (rowP encPg [r] e o)) ∧
                      1 = [p].length ∧
                        ∀ (e o : Nat),
                          e < 1 →
                            o < 7 →
                              PLe
                                (unP
                                  (bslF
                                    [C.p (PV.i IntKind.i64 p.kd), C.p (PV.s p.ru), C.p (PV.i IntKind.i64 p.ve), C.p (PV.l 2 p.L.length (rowP enc2 p.L)), C.p (PV.i IntKind.i64 p.st),
                                      C.p (PV.i IntKind.i64 p.se), C.p (PV.s p.to)]
                                    7 1 (e + 0) o))
                                (rowP encPg [p] e o)) ∧
                    [r].length ≤ 1000000 ∧ ∀ (a : Pg), a ∈ [r] → a.L.length ≤ 1000000)
              (Tr.rq (Int.ofNat 0 ≤ Int.ofNat 2 ∧ 2 < (↑3 : Int))
                (Tr.rq (Int.ofNat 0 ≤ Int.ofNat 0 ∧ 0 < (↑3 : Int))
                  (Tr.rq
                    ((IsL enc2 2 (decL dec2 r.L.length (rowP enc2 r.L)) r.L.length (rowP enc2 r.L) ∧ IsL enc2 2 (decL dec2 p.L.length (rowP enc2 p.L)) p.L.length (rowP enc2 p.L)) ∧
                      (Pg.mk r.kd r.ru r.ve (decL dec2 r.L.length (rowP enc2 r.L)) r.st r.se r.to).L.length ≤ 1000000 ∧
                        (Pg.mk p.kd p.ru p.ve (decL dec2 p.L.length (rowP enc2 p.L)) p.st p.se p.to).L.length ≤ 1000000)
                    (bT
                      (cmpP (Pg.mk r.kd r.ru r.ve (decL dec2 r.L.length (rowP enc2 r.L)) r.st r.se r.to) (Pg.mk p.kd p.ru p.ve (decL dec2 p.L.length (rowP enc2 p.L)) p.st p.se p.to) !=
                        cmpP (Pg.mk r.kd r.ru r.ve (decL dec2 r.L.length (rowP enc2 r.L)) r.st r.se r.to) (Pg.mk p.kd p.ru p.ve (decL dec2 p.L.length (rowP enc2 p.L)) p.st p.se p.to))
                      (Tr.done X.ret (St.mk [V.c (C.p (PV.b false))] []))
                      (Tr.rq (Int.ofNat 0 ≤ Int.ofNat 0 ∧ 0 < (↑3 : Int))
                        (Tr.rq (Int.ofNat 0 ≤ Int.ofNat 2 ∧ 2 < (↑3 : Int))
                          (Tr.rq
                            ((IsL enc2 2 (decL dec2 p.L.length (rowP enc2 p.L)) p.L.length (rowP enc2 p.L) ∧ IsL enc2 2 (decL dec2 r.L.length (rowP enc2 r.L)) r.L.length (rowP enc2 r.L)) ∧
                              (Pg.mk p.kd p.ru p.ve (decL dec2 p.L.length (rowP enc2 p.L)) p.st p.se p.to).L.length ≤ 1000000 ∧
                                (Pg.mk r.kd r.ru r.ve (decL dec2 r.L.length (rowP enc2 r.L)) r.st r.se r.to).L.length ≤ 1000000)
                            (Tr.rq
                              (inR IntKind.i64
                                (-cmpP (Pg.mk p.kd p.ru p.ve (decL dec2 p.L.length (rowP enc2 p.L)) p.st p.se p.to) (Pg.mk r.kd r.ru r.ve (decL dec2 r.L.length (rowP enc2 r.L)) r.st r.se r.to)))
                              (bT
                                (cmpP (Pg.mk r.kd r.ru r.ve (decL dec2 r.L.length (rowP enc2 r.L)) r.st r.se r.to) (Pg.mk p.kd p.ru p.ve (decL dec2 p.L.length (rowP enc2 p.L)) p.st p.se p.to) !=
                                  -cmpP (Pg.mk p.kd p.ru p.ve (decL dec2 p.L.length (rowP enc2 p.L)) p.st p.se p.to) (Pg.mk r.kd r.ru r.ve (decL dec2 r.L.length (rowP enc2 r.L)) r.st r.se r.to))
                                (Tr.done X.ret (St.mk [V.c (C.p (PV.b false))] []))
                                (bT
                                  (!(cmpP (Pg.mk r.kd r.ru r.ve (decL dec2 r.L.length (rowP enc2 r.L)) r.st r.se r.to) (Pg.mk p.kd p.ru p.ve (decL dec2 p.L.length (rowP enc2 p.L)) p.st p.se p.to) ==
                                        0) ==
                                      decide ([r] = [p]))
                                  (Tr.done X.ret (St.mk [V.c (C.p (PV.b false))] []))
                                  (Tr.rq (inR IntKind.i64 (0 + 1))
                                    (Tr.done X.normal
                                      (cst 103 [(5, V.c (C.ptr 0 0)), (7, V.c (C.p (PV.i IntKind.i64 2))), (8, V.c (C.p (PV.i IntKind.i64 (0 + 1))))] [AO.cells 60 [C.p (PV.i IntKind.i64 p.kd), C.p (PV.s p.ru), C.p (PV.i IntKind.i64 p.ve), C.p (PV.l 2 p.L.length (rowP enc2 p.L)), C.p (PV.i IntKind.i64 p.st), C.p (PV.i IntKind.i64 p.se), C.p (PV.s p.to), C.p (PV.i IntKind.i64 q.kd), C.p (PV.s q.ru), C.p (PV.i IntKind.i64 q.ve), C.p (PV.l 2 q.L.length (rowP enc2 q.L)), C.p (PV.i IntKind.i64 q.st), C.p (PV.i IntKind.i64 q.se), C.p (PV.s q.to), C.p (PV.i IntKind.i64 r.kd), C.p (PV.s r.ru), C.p (PV.i IntKind.i64 r.ve), C.p (PV.l 2 r.L.length (rowP enc2 r.L)), C.p (PV.i IntKind.i64 r.st), C.p (PV.i IntKind.i64 r.se), C.p (PV.s r.to)]])))))))))))))))))) := by kernel_rfl
theorem tWI21 (p q r : Pg) : exTs (extW2 r q) (lpB (flat (inr (nth .skip (lpB (pcs Try.prog Try.f8) 5) 2))) 1) (cst 103 [(5, .c (.ptr 0 0)), (7, iV 2), (8, iV 1)] [.cells 60 [.p (.i .i64 p.kd), .p (.s p.ru), .p (.i .i64 p.ve), .p (listP enc2 2 p.L), .p (.i .i64 p.st), .p (.i .i64 p.se), .p (.s p.to), .p (.i .i64 q.kd), .p (.s q.ru), .p (.i .i64 q.ve), .p (listP enc2 2 q.L), .p (.i .i64 q.st), .p (.i .i64 q.se), .p (.s q.to), .p (.i .i64 r.kd), .p (.s r.ru), .p (.i .i64 r.ve), .p (listP enc2 2 r.L), .p (.i .i64 r.st), .p (.i .i64 r.se), .p (.s r.to)]]) (endG (msk 103 [5, 7, 8]) (resOf Try.prog Try.f8)) = Tr.rq (Int.ofNat 0 ≤ Int.ofNat 2 ∧ 2 < (↑3 : Int))
    (Tr.rq (Int.ofNat 0 ≤ Int.ofNat 1 ∧ 1 < (↑3 : Int))
      (Tr.rq
        ((IsL enc2 2 (decL dec2 r.L.length (rowP enc2 r.L)) r.L.length (rowP enc2 r.L) ∧ IsL enc2 2 (decL dec2 q.L.length (rowP enc2 q.L)) q.L.length (rowP enc2 q.L)) ∧
          (Pg.mk r.kd r.ru r.ve (decL dec2 r.L.length (rowP enc2 r.L)) r.st r.se r.to).L.length ≤ 1000000 ∧
            (Pg.mk q.kd q.ru q.ve (decL dec2 q.L.length (rowP enc2 q.L)) q.st q.se q.to).L.length ≤ 1000000)
        (Tr.rq (Int.ofNat 0 ≤ Int.ofNat 2 ∧ 2 < (↑3 : Int))
          (Tr.rq (Int.ofNat 0 ≤ Int.ofNat 1 ∧ 1 < (↑3 : Int))
            (Tr.rq
              ((conVs 1 7 1 [V.c (C.sl 1 7 0 1), V.c (C.sl 2 7 0 1)] ∧
                  ∀ (e o : Nat),
                    e < 1 →
                      o < 7 →
                        isF
                            (nth C.top
                              [C.p (PV.i IntKind.i64 r.kd), C.p (PV.s r.ru), C.p (PV.i IntKind.i64 r.ve), C.p (PV.l 2 r.L.length (rowP enc2 r.L)), C.p (PV.i IntKind.i64 r.st),
                                C.p (PV.i IntKind.i64 r.se), C.p (PV.s r.to)]
                              (e * 7 + o)) =
                          true) ∧
                (conVs 2 7 1
                      [V.c
                          (C.p
                            (PV.l 7 1 fun e o =>
                              unP
                                (nth C.top
                                  [C.p (PV.i IntKind.i64 r.kd), C.p (PV.s r.ru), C.p (PV.i IntKind.i64 r.ve), C.p (PV.l 2 r.L.length (rowP enc2 r.L)), C.p (PV.i IntKind.i64 r.st),
                                    C.p (PV.i IntKind.i64 r.se), C.p (PV.s r.to)]
                                  ((e + 0) * 7 + o)))),
                        V.c (C.sl 2 7 0 1)] ∧
                    ∀ (e o : Nat),
                      e < 1 →
                        o < 7 →
                          isF
                              (nth C.top
                                [C.p (PV.i IntKind.i64 q.kd), C.p (PV.s q.ru), C.p (PV.i IntKind.i64 q.ve), C.p (PV.l 2 q.L.length (rowP enc2 q.L)), C.p (PV.i IntKind.i64 q.st),
                                  C.p (PV.i IntKind.i64 q.se), C.p (PV.s q.to)]
                                (e * 7 + o)) =
                            true) ∧
                  ((1 = [r].length ∧
                        ∀ (e o : Nat),
                          e < 1 →
                            o < 7 →
                              PLe
                                (unP
                                  (bslF
                                    [C.p (PV.i IntKind.i64 r.kd), C.p (PV.s r.ru), C.p (PV.i IntKind.i64 r.ve), C.p (PV.l 2 r.L.length (rowP enc2 r.L)), C.p (PV.i IntKind.i64 r.st),
                                      C.p (PV.i IntKind.i64 r.se), C.p (PV.s r.to)]
                                    7 1 (e + 0) o))
                                (rowP encPg [r] e o)) ∧
                      1 = [q].length ∧
                        ∀ (e o : Nat),
                          e < 1 →
                            o < 7 →
                              PLe
                                (unP
                                  (bslF
                                    [C.p (PV.i IntKind.i64 q.kd), C.p (PV.s q.ru), C.p (PV.i IntKind.i64 q.ve), C.p (PV.l 2 q.L.length (rowP enc2 q.L)), C.p (PV.i IntKind.i64 q.st),
                                      C.p (PV.i IntKind.i64 q.se), C.p (PV.s q.to)]
                                    7 1 (e + 0) o))
                                (rowP encPg [q] e o)) ∧
                    [r].length ≤ 1000000 ∧ ∀ (a : Pg), a ∈ [r] → a.L.length ≤ 1000000)
              (Tr.rq (Int.ofNat 0 ≤ Int.ofNat 2 ∧ 2 < (↑3 : Int))
                (Tr.rq (Int.ofNat 0 ≤ Int.ofNat 1 ∧ 1 < (↑3 : Int))
                  (Tr.rq
                    ((IsL enc2 2 (decL dec2 r.L.length (rowP enc2 r.L)) r.L.length (rowP enc2 r.L) ∧ IsL enc2 2 (decL dec2 q.L.length (rowP enc2 q.L)) q.L.length (rowP enc2 q.L)) ∧
                      (Pg.mk r.kd r.ru r.ve (decL dec2 r.L.length (rowP enc2 r.L)) r.st r.se r.to).L.length ≤ 1000000 ∧
                        (Pg.mk q.kd q.ru q.ve (decL dec2 q.L.length (rowP enc2 q.L)) q.st q.se q.to).L.length ≤ 1000000)
                    (bT
                      (cmpP (Pg.mk r.kd r.ru r.ve (decL dec2 r.L.length (rowP enc2 r.L)) r.st r.se r.to) (Pg.mk q.kd q.ru q.ve (decL dec2 q.L.length (rowP enc2 q.L)) q.st q.se q.to) !=
                        cmpP (Pg.mk r.kd r.ru r.ve (decL dec2 r.L.length (rowP enc2 r.L)) r.st r.se r.to) (Pg.mk q.kd q.ru q.ve (decL dec2 q.L.length (rowP enc2 q.L)) q.st q.se q.to))
                      (Tr.done X.ret (St.mk [V.c (C.p (PV.b false))] []))
                      (Tr.rq (Int.ofNat 0 ≤ Int.ofNat 1 ∧ 1 < (↑3 : Int))
                        (Tr.rq (Int.ofNat 0 ≤ Int.ofNat 2 ∧ 2 < (↑3 : Int))
                          (Tr.rq
                            ((IsL enc2 2 (decL dec2 q.L.length (rowP enc2 q.L)) q.L.length (rowP enc2 q.L) ∧ IsL enc2 2 (decL dec2 r.L.length (rowP enc2 r.L)) r.L.length (rowP enc2 r.L)) ∧
                              (Pg.mk q.kd q.ru q.ve (decL dec2 q.L.length (rowP enc2 q.L)) q.st q.se q.to).L.length ≤ 1000000 ∧
                                (Pg.mk r.kd r.ru r.ve (decL dec2 r.L.length (rowP enc2 r.L)) r.st r.se r.to).L.length ≤ 1000000)
                            (Tr.rq
                              (inR IntKind.i64
                                (-cmpP (Pg.mk q.kd q.ru q.ve (decL dec2 q.L.length (rowP enc2 q.L)) q.st q.se q.to) (Pg.mk r.kd r.ru r.ve (decL dec2 r.L.length (rowP enc2 r.L)) r.st r.se r.to)))
                              (bT
                                (cmpP (Pg.mk r.kd r.ru r.ve (decL dec2 r.L.length (rowP enc2 r.L)) r.st r.se r.to) (Pg.mk q.kd q.ru q.ve (decL dec2 q.L.length (rowP enc2 q.L)) q.st q.se q.to) !=
                                  -cmpP (Pg.mk q.kd q.ru q.ve (decL dec2 q.L.length (rowP enc2 q.L)) q.st q.se q.to) (Pg.mk r.kd r.ru r.ve (decL dec2 r.L.length (rowP enc2 r.L)) r.st r.se r.to))
                                (Tr.done X.ret (St.mk [V.c (C.p (PV.b false))] []))
                                (bT
                                  (!(cmpP (Pg.mk r.kd r.ru r.ve (decL dec2 r.L.length (rowP enc2 r.L)) r.st r.se r.to) (Pg.mk q.kd q.ru q.ve (decL dec2 q.L.length (rowP enc2 q.L)) q.st q.se q.to) ==
                                        0) ==
                                      decide ([r] = [q]))
                                  (Tr.done X.ret (St.mk [V.c (C.p (PV.b false))] []))
                                  (Tr.rq (inR IntKind.i64 (1 + 1))
                                    (Tr.done X.normal
                                      (cst 103 [(5, V.c (C.ptr 0 0)), (7, V.c (C.p (PV.i IntKind.i64 2))), (8, V.c (C.p (PV.i IntKind.i64 (1 + 1))))] [AO.cells 60 [C.p (PV.i IntKind.i64 p.kd), C.p (PV.s p.ru), C.p (PV.i IntKind.i64 p.ve), C.p (PV.l 2 p.L.length (rowP enc2 p.L)), C.p (PV.i IntKind.i64 p.st), C.p (PV.i IntKind.i64 p.se), C.p (PV.s p.to), C.p (PV.i IntKind.i64 q.kd), C.p (PV.s q.ru), C.p (PV.i IntKind.i64 q.ve), C.p (PV.l 2 q.L.length (rowP enc2 q.L)), C.p (PV.i IntKind.i64 q.st), C.p (PV.i IntKind.i64 q.se), C.p (PV.s q.to), C.p (PV.i IntKind.i64 r.kd), C.p (PV.s r.ru), C.p (PV.i IntKind.i64 r.ve), C.p (PV.l 2 r.L.length (rowP enc2 r.L)), C.p (PV.i IntKind.i64 r.st), C.p (PV.i IntKind.i64 r.se), C.p (PV.s r.to)]])))))))))))))))))) := by kernel_rfl
theorem tWI22 (p q r : Pg) : exTs (extW2 r r) (lpB (flat (inr (nth .skip (lpB (pcs Try.prog Try.f8) 5) 2))) 1) (cst 103 [(5, .c (.ptr 0 0)), (7, iV 2), (8, iV 2)] [.cells 60 [.p (.i .i64 p.kd), .p (.s p.ru), .p (.i .i64 p.ve), .p (listP enc2 2 p.L), .p (.i .i64 p.st), .p (.i .i64 p.se), .p (.s p.to), .p (.i .i64 q.kd), .p (.s q.ru), .p (.i .i64 q.ve), .p (listP enc2 2 q.L), .p (.i .i64 q.st), .p (.i .i64 q.se), .p (.s q.to), .p (.i .i64 r.kd), .p (.s r.ru), .p (.i .i64 r.ve), .p (listP enc2 2 r.L), .p (.i .i64 r.st), .p (.i .i64 r.se), .p (.s r.to)]]) (endG (msk 103 [5, 7, 8]) (resOf Try.prog Try.f8)) = Tr.rq (Int.ofNat 0 ≤ Int.ofNat 2 ∧ 2 < (↑3 : Int))
    (Tr.rq (Int.ofNat 0 ≤ Int.ofNat 2 ∧ 2 < (↑3 : Int))
      (Tr.rq
        ((IsL enc2 2 (decL dec2 r.L.length (rowP enc2 r.L)) r.L.length (rowP enc2 r.L) ∧ IsL enc2 2 (decL dec2 r.L.length (rowP enc2 r.L)) r.L.length (rowP enc2 r.L)) ∧
          (Pg.mk r.kd r.ru r.ve (decL dec2 r.L.length (rowP enc2 r.L)) r.st r.se r.to).L.length ≤ 1000000 ∧
            (Pg.mk r.kd r.ru r.ve (decL dec2 r.L.length (rowP enc2 r.L)) r.st r.se r.to).L.length ≤ 1000000)
        (Tr.rq (Int.ofNat 0 ≤ Int.ofNat 2 ∧ 2 < (↑3 : Int))
          (Tr.rq (Int.ofNat 0 ≤ Int.ofNat 2 ∧ 2 < (↑3 : Int))
            (Tr.rq
              ((conVs 1 7 1 [V.c (C.sl 1 7 0 1), V.c (C.sl 2 7 0 1)] ∧
                  ∀ (e o : Nat),
                    e < 1 →
                      o < 7 →
                        isF
                            (nth C.top
                              [C.p (PV.i IntKind.i64 r.kd), C.p (PV.s r.ru), C.p (PV.i IntKind.i64 r.ve), C.p (PV.l 2 r.L.length (rowP enc2 r.L)), C.p (PV.i IntKind.i64 r.st),
                                C.p (PV.i IntKind.i64 r.se), C.p (PV.s r.to)]
                              (e * 7 + o)) =
                          true) ∧
                (conVs 2 7 1
                      [V.c
                          (C.p
                            (PV.l 7 1 fun e o =>
                              unP
                                (nth C.top
                                  [C.p (PV.i IntKind.i64 r.kd), C.p (PV.s r.ru), C.p (PV.i IntKind.i64 r.ve), C.p (PV.l 2 r.L.length (rowP enc2 r.L)), C.p (PV.i IntKind.i64 r.st),
                                    C.p (PV.i IntKind.i64 r.se), C.p (PV.s r.to)]
                                  ((e + 0) * 7 + o)))),
                        V.c (C.sl 2 7 0 1)] ∧
                    ∀ (e o : Nat),
                      e < 1 →
                        o < 7 →
                          isF
                              (nth C.top
                                [C.p (PV.i IntKind.i64 r.kd), C.p (PV.s r.ru), C.p (PV.i IntKind.i64 r.ve), C.p (PV.l 2 r.L.length (rowP enc2 r.L)), C.p (PV.i IntKind.i64 r.st),
                                  C.p (PV.i IntKind.i64 r.se), C.p (PV.s r.to)]
                                (e * 7 + o)) =
                            true) ∧
                  ((1 = [r].length ∧
                        ∀ (e o : Nat),
                          e < 1 →
                            o < 7 →
                              PLe
                                (unP
                                  (bslF
                                    [C.p (PV.i IntKind.i64 r.kd), C.p (PV.s r.ru), C.p (PV.i IntKind.i64 r.ve), C.p (PV.l 2 r.L.length (rowP enc2 r.L)), C.p (PV.i IntKind.i64 r.st),
                                      C.p (PV.i IntKind.i64 r.se), C.p (PV.s r.to)]
                                    7 1 (e + 0) o))
                                (rowP encPg [r] e o)) ∧
                      1 = [r].length ∧
                        ∀ (e o : Nat),
                          e < 1 →
                            o < 7 →
                              PLe
                                (unP
                                  (bslF
                                    [C.p (PV.i IntKind.i64 r.kd), C.p (PV.s r.ru), C.p (PV.i IntKind.i64 r.ve), C.p (PV.l 2 r.L.length (rowP enc2 r.L)), C.p (PV.i IntKind.i64 r.st),
                                      C.p (PV.i IntKind.i64 r.se), C.p (PV.s r.to)]
                                    7 1 (e + 0) o))
                                (rowP encPg [r] e o)) ∧
                    [r].length ≤ 1000000 ∧ ∀ (a : Pg), a ∈ [r] → a.L.length ≤ 1000000)
              (Tr.rq (Int.ofNat 0 ≤ Int.ofNat 2 ∧ 2 < (↑3 : Int))
                (Tr.rq (Int.ofNat 0 ≤ Int.ofNat 2 ∧ 2 < (↑3 : Int))
                  (Tr.rq
                    ((IsL enc2 2 (decL dec2 r.L.length (rowP enc2 r.L)) r.L.length (rowP enc2 r.L) ∧ IsL enc2 2 (decL dec2 r.L.length (rowP enc2 r.L)) r.L.length (rowP enc2 r.L)) ∧
                      (Pg.mk r.kd r.ru r.ve (decL dec2 r.L.length (rowP enc2 r.L)) r.st r.se r.to).L.length ≤ 1000000 ∧
                        (Pg.mk r.kd r.ru r.ve (decL dec2 r.L.length (rowP enc2 r.L)) r.st r.se r.to).L.length ≤ 1000000)
                    (bT
                      (cmpP (Pg.mk r.kd r.ru r.ve (decL dec2 r.L.length (rowP enc2 r.L)) r.st r.se r.to) (Pg.mk r.kd r.ru r.ve (decL dec2 r.L.length (rowP enc2 r.L)) r.st r.se r.to) !=
                        cmpP (Pg.mk r.kd r.ru r.ve (decL dec2 r.L.length (rowP enc2 r.L)) r.st r.se r.to) (Pg.mk r.kd r.ru r.ve (decL dec2 r.L.length (rowP enc2 r.L)) r.st r.se r.to))
                      (Tr.done X.ret (St.mk [V.c (C.p (PV.b false))] []))
                      (Tr.rq (Int.ofNat 0 ≤ Int.ofNat 2 ∧ 2 < (↑3 : Int))
                        (Tr.rq (Int.ofNat 0 ≤ Int.ofNat 2 ∧ 2 < (↑3 : Int))
                          (Tr.rq
                            ((IsL enc2 2 (decL dec2 r.L.length (rowP enc2 r.L)) r.L.length (rowP enc2 r.L) ∧ IsL enc2 2 (decL dec2 r.L.length (rowP enc2 r.L)) r.L.length (rowP enc2 r.L)) ∧
                              (Pg.mk r.kd r.ru r.ve (decL dec2 r.L.length (rowP enc2 r.L)) r.st r.se r.to).L.length ≤ 1000000 ∧
                                (Pg.mk r.kd r.ru r.ve (decL dec2 r.L.length (rowP enc2 r.L)) r.st r.se r.to).L.length ≤ 1000000)
                            (Tr.rq
                              (inR IntKind.i64
                                (-cmpP (Pg.mk r.kd r.ru r.ve (decL dec2 r.L.length (rowP enc2 r.L)) r.st r.se r.to) (Pg.mk r.kd r.ru r.ve (decL dec2 r.L.length (rowP enc2 r.L)) r.st r.se r.to)))
                              (bT
                                (cmpP (Pg.mk r.kd r.ru r.ve (decL dec2 r.L.length (rowP enc2 r.L)) r.st r.se r.to) (Pg.mk r.kd r.ru r.ve (decL dec2 r.L.length (rowP enc2 r.L)) r.st r.se r.to) !=
                                  -cmpP (Pg.mk r.kd r.ru r.ve (decL dec2 r.L.length (rowP enc2 r.L)) r.st r.se r.to) (Pg.mk r.kd r.ru r.ve (decL dec2 r.L.length (rowP enc2 r.L)) r.st r.se r.to))
                                (Tr.done X.ret (St.mk [V.c (C.p (PV.b false))] []))
                                (bT
                                  (!(cmpP (Pg.mk r.kd r.ru r.ve (decL dec2 r.L.length (rowP enc2 r.L)) r.st r.se r.to) (Pg.mk r.kd r.ru r.ve (decL dec2 r.L.length (rowP enc2 r.L)) r.st r.se r.to) ==
                                        0) ==
                                      decide ([r] = [r]))
                                  (Tr.done X.ret (St.mk [V.c (C.p (PV.b false))] []))
                                  (Tr.rq (inR IntKind.i64 (2 + 1))
                                    (Tr.done X.normal
                                      (cst 103 [(5, V.c (C.ptr 0 0)), (7, V.c (C.p (PV.i IntKind.i64 2))), (8, V.c (C.p (PV.i IntKind.i64 (2 + 1))))] [AO.cells 60 [C.p (PV.i IntKind.i64 p.kd), C.p (PV.s p.ru), C.p (PV.i IntKind.i64 p.ve), C.p (PV.l 2 p.L.length (rowP enc2 p.L)), C.p (PV.i IntKind.i64 p.st), C.p (PV.i IntKind.i64 p.se), C.p (PV.s p.to), C.p (PV.i IntKind.i64 q.kd), C.p (PV.s q.ru), C.p (PV.i IntKind.i64 q.ve), C.p (PV.l 2 q.L.length (rowP enc2 q.L)), C.p (PV.i IntKind.i64 q.st), C.p (PV.i IntKind.i64 q.se), C.p (PV.s q.to), C.p (PV.i IntKind.i64 r.kd), C.p (PV.s r.ru), C.p (PV.i IntKind.i64 r.ve), C.p (PV.l 2 r.L.length (rowP enc2 r.L)), C.p (PV.i IntKind.i64 r.st), C.p (PV.i IntKind.i64 r.se), C.p (PV.s r.to)]])))))))))))))))))) := by kernel_rfl
theorem tWI23 (p q r : Pg) : exTs (extW2 r p) (lpB (flat (inr (nth .skip (lpB (pcs Try.prog Try.f8) 5) 2))) 1) (cst 103 [(5, .c (.ptr 0 0)), (7, iV 2), (8, iV 3)] [.cells 60 [.p (.i .i64 p.kd), .p (.s p.ru), .p (.i .i64 p.ve), .p (listP enc2 2 p.L), .p (.i .i64 p.st), .p (.i .i64 p.se), .p (.s p.to), .p (.i .i64 q.kd), .p (.s q.ru), .p (.i .i64 q.ve), .p (listP enc2 2 q.L), .p (.i .i64 q.st), .p (.i .i64 q.se), .p (.s q.to), .p (.i .i64 r.kd), .p (.s r.ru), .p (.i .i64 r.ve), .p (listP enc2 2 r.L), .p (.i .i64 r.st), .p (.i .i64 r.se), .p (.s r.to)]]) (endG (msk 103 [5, 7, 8]) (resOf Try.prog Try.f8)) = Tr.done (X.exit 4)
    (cst 103 [(5, V.c (C.ptr 0 0)), (7, V.c (C.p (PV.i IntKind.i64 2))), (8, V.c (C.p (PV.i IntKind.i64 3)))] [AO.cells 60 [C.p (PV.i IntKind.i64 p.kd), C.p (PV.s p.ru), C.p (PV.i IntKind.i64 p.ve), C.p (PV.l 2 p.L.length (rowP enc2 p.L)), C.p (PV.i IntKind.i64 p.st), C.p (PV.i IntKind.i64 p.se), C.p (PV.s p.to), C.p (PV.i IntKind.i64 q.kd), C.p (PV.s q.ru), C.p (PV.i IntKind.i64 q.ve), C.p (PV.l 2 q.L.length (rowP enc2 q.L)), C.p (PV.i IntKind.i64 q.st), C.p (PV.i IntKind.i64 q.se), C.p (PV.s q.to), C.p (PV.i IntKind.i64 r.kd), C.p (PV.s r.ru), C.p (PV.i IntKind.i64 r.ve), C.p (PV.l 2 r.L.length (rowP enc2 r.L)), C.p (PV.i IntKind.i64 r.st), C.p (PV.i IntKind.i64 r.se), C.p (PV.s r.to)]]) := by kernel_rfl
theorem tWF (p q r : Pg) : exTs extW3 (dropL 6 (pcs Try.prog Try.f8)) (cst 103 [(5, .c (.ptr 0 0))] [.cells 60 [.p (.i .i64 p.kd), .p (.s p.ru), .p (.i .i64 p.ve), .p (listP enc2 2 p.L), .p (.i .i64 p.st), .p (.i .i64 p.se), .p (.s p.to), .p (.i .i64 q.kd), .p (.s q.ru), .p (.i .i64 q.ve), .p (listP enc2 2 q.L), .p (.i .i64 q.st), .p (.i .i64 q.se), .p (.s q.to), .p (.i .i64 r.kd), .p (.s r.ru), .p (.i .i64 r.ve), .p (listP enc2 2 r.L), .p (.i .i64 r.st), .p (.i .i64 r.se), .p (.s r.to)]]) (endG [] (resOf Try.prog Try.f8)) = Tr.rq
    ((IsL enc2 2 (decL dec2 p.L.length (rowP enc2 p.L)) p.L.length (rowP enc2 p.L) ∧ IsL enc2 2 (decL dec2 q.L.length (rowP enc2 q.L)) q.L.length (rowP enc2 q.L)) ∧
      (Pg.mk p.kd p.ru p.ve (decL dec2 p.L.length (rowP enc2 p.L)) p.st p.se p.to).L.length ≤ 1000000 ∧ (Pg.mk q.kd q.ru q.ve (decL dec2 q.L.length (rowP enc2 q.L)) q.st q.se q.to).L.length ≤ 1000000)
    (bT (decide (0 < cmpP (Pg.mk p.kd p.ru p.ve (decL dec2 p.L.length (rowP enc2 p.L)) p.st p.se p.to) (Pg.mk q.kd q.ru q.ve (decL dec2 q.L.length (rowP enc2 q.L)) q.st q.se q.to)))
      (Tr.rq True (Tr.done X.ret (St.mk [V.c (C.p (PV.b true))] [])))
      (Tr.rq
        ((IsL enc2 2 (decL dec2 q.L.length (rowP enc2 q.L)) q.L.length (rowP enc2 q.L) ∧ IsL enc2 2 (decL dec2 r.L.length (rowP enc2 r.L)) r.L.length (rowP enc2 r.L)) ∧
          (Pg.mk q.kd q.ru q.ve (decL dec2 q.L.length (rowP enc2 q.L)) q.st q.se q.to).L.length ≤ 1000000 ∧
            (Pg.mk r.kd r.ru r.ve (decL dec2 r.L.length (rowP enc2 r.L)) r.st r.se r.to).L.length ≤ 1000000)
        (bT (decide (0 < cmpP (Pg.mk q.kd q.ru q.ve (decL dec2 q.L.length (rowP enc2 q.L)) q.st q.se q.to) (Pg.mk r.kd r.ru r.ve (decL dec2 r.L.length (rowP enc2 r.L)) r.st r.se r.to)))
          (Tr.rq True (Tr.done X.ret (St.mk [V.c (C.p (PV.b true))] [])))
          (Tr.rq
            ((IsL enc2 2 (decL dec2 p.L.length (rowP enc2 p.L)) p.L.length (rowP enc2 p.L) ∧ IsL enc2 2 (decL dec2 r.L.length (rowP enc2 r.L)) r.L.length (rowP enc2 r.L)) ∧
              (Pg.mk p.kd p.ru p.ve (decL dec2 p.L.length (rowP enc2 p.L)) p.st p.se p.to).L.length ≤ 1000000 ∧
                (Pg.mk r.kd r.ru r.ve (decL dec2 r.L.length (rowP enc2 r.L)) r.st r.se r.to).L.length ≤ 1000000)
            (bT (decide (cmpP (Pg.mk p.kd p.ru p.ve (decL dec2 p.L.length (rowP enc2 p.L)) p.st p.se p.to) (Pg.mk r.kd r.ru r.ve (decL dec2 r.L.length (rowP enc2 r.L)) r.st r.se r.to) ≤ 0))
              (Tr.rq True (Tr.done X.ret (St.mk [V.c (C.p (PV.b true))] []))) (Tr.done X.ret (St.mk [V.c (C.p (PV.b false))] []))))))) := by kernel_rfl
end Go.AE
