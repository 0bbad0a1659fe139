/- AE: the law RoutePartition. -/
import Derived.Test.YtkpladkcppeciaaT6
namespace Go.AE
open Go.Proofs Go.Proofs.Ytkpladkcppeciaa Gp
set_option linter.unusedVariables false
set_option linter.unusedSimpArgs false
theorem tPt1 (L : List Int) (w v : Int) : exTs extLA (takeL 3 (pcs Try.prog Try.f4)) (st0 Try.f4 [listV encI 1 L, iV w, iV v]) (endG (msk 124 [1, 2, 7, 8]) (resOf Try.prog Try.f4)) = Tr.rq (IsL encI 1 (decL decI L.length (rowP encI L)) L.length (rowP encI L) ∧ Ints (decL decI L.length (rowP encI L)))
    (Tr.rq (inR IntKind.i64 w)
      (Tr.done X.normal
        (cst 124 [(1, V.c (C.p (PV.i IntKind.i64 w))), (2, V.c (C.p (PV.i IntKind.i64 v))), (7, V.c (C.p (PV.l 6 (alL (decL decI L.length (rowP encI L))).length (rowP encAl (alL (decL decI L.length (rowP encI L))))))), (8, V.c (C.sl 0 1 0 (fewL [] w).length))] [AO.row 9 1 (fewL [] w).length fun e o => renC [0] (C.p (PV.s ((fewL [] w).getD e default)))]))) := by kernel_rfl
theorem tPt2 (A : List (List (ByteArray × ByteArray))) (B : List ByteArray) (w v : Int) : exTs extLA (takeL 1 (dropL 3 (pcs Try.prog Try.f4))) (cst 124 [(1, iV w), (2, iV v), (7, listV encAl 6 A), (8, listV encS 1 B)] []) (endG (msk 124 [7, 8, 9]) (resOf Try.prog Try.f4)) = Tr.rq (inR IntKind.i64 w)
    (Tr.rq (inR IntKind.i64 v)
      (Tr.rq ((fewL [] w).length = (fewL [] w).length)
        (Tr.rq (0 + (fewL [] v).length ≤ (fewL [] v).length)
          (Tr.rq
            (((fewL [] w).length + (fewL [] v).length) * 16 ≤ 140737488355328 ∧
              (fewL [] w).length + (fewL [] v).length ≤ 140737488355328 ∧ ∀ (e o : Nat), e < (fewL [] v).length → o < 1 → oneC (C.p (rowP encS (fewL [] v) (e + 0) o)) = true)
            (Tr.done X.normal
              (cst 124 [(7, V.c (C.p (PV.l 6 A.length (rowP encAl A)))), (8, V.c (C.p (PV.l 1 B.length (rowP encS B)))), (9, V.c (C.sl 0 1 0 ((fewL [] w).length + (fewL [] v).length)))] [AO.row 9 1 ((fewL [] w).length + (fewL [] v).length) fun e o => renC [2] (appF (fewL [] w).length (fun e o => C.p (PV.s ((fewL [] w).getD e default))) (fun e o => C.p (PV.s ((fewL [] v).getD (e + 0) default))) e o)])))))) := by kernel_rfl
theorem tPt3 (rk : Int → Nat) (A : List (List (ByteArray × ByteArray))) (B D : List ByteArray) : exTs (extOw rk) (takeL 1 (dropL 4 (pcs Try.prog Try.f4))) (cst 124 [(7, listV encAl 6 A), (8, listV encS 1 B), (9, listV encS 1 D)] []) (endG (msk 124 [7, 8, 9, 10]) (resOf Try.prog Try.f4)) = Tr.rq
    ((IsL encAl 6 (decL decAl A.length (rowP encAl A)) A.length (rowP encAl A) ∧ AlOK (decL decAl A.length (rowP encAl A))) ∧
      IsL encS 1 (decL decS B.length (rowP encS B)) B.length (rowP encS B) ∧ SzS (decL decS B.length (rowP encS B)))
    (Tr.rq
      ((IsL encAl 6 (decL decAl A.length (rowP encAl A)) A.length (rowP encAl A) ∧ A.length ≤ 1000) ∧
        IsL encLI 1
            (decL decLI (grpL (keyA (decL decAl A.length (rowP encAl A)) (decL decS B.length (rowP encS B))) A.length).length
              (rowP encLI (grpL (keyA (decL decAl A.length (rowP encAl A)) (decL decS B.length (rowP encS B))) A.length)))
            (grpL (keyA (decL decAl A.length (rowP encAl A)) (decL decS B.length (rowP encS B))) A.length).length
            (rowP encLI (grpL (keyA (decL decAl A.length (rowP encAl A)) (decL decS B.length (rowP encS B))) A.length)) ∧
          OwnP A.length
            (decL decLI (grpL (keyA (decL decAl A.length (rowP encAl A)) (decL decS B.length (rowP encS B))) A.length).length
              (rowP encLI (grpL (keyA (decL decAl A.length (rowP encAl A)) (decL decS B.length (rowP encS B))) A.length)))
            rk)
      (Tr.done X.normal
        (cst 124 [(7, V.c (C.p (PV.l 6 A.length (rowP encAl A)))), (8, V.c (C.p (PV.l 1 B.length (rowP encS B)))), (9, V.c (C.p (PV.l 1 D.length (rowP encS D)))), (10, V.c (C.p (PV.l 1 (ownL A.length rk).length (rowP encI (ownL A.length rk)))))] []))) := by kernel_rfl
theorem tPt4 (rk : Int → Nat) (A : List (List (ByteArray × ByteArray))) (B D : List ByteArray) (X : List Int) : exTs (extOw rk) (takeL 1 (dropL 5 (pcs Try.prog Try.f4))) (cst 124 [(7, listV encAl 6 A), (8, listV encS 1 B), (9, listV encS 1 D), (10, listV encI 1 X)] []) (endG (msk 124 [7, 8, 10, 11]) (resOf Try.prog Try.f4)) = Tr.rq
    ((IsL encAl 6 (decL decAl A.length (rowP encAl A)) A.length (rowP encAl A) ∧ AlOK (decL decAl A.length (rowP encAl A))) ∧
      IsL encS 1 (decL decS D.length (rowP encS D)) D.length (rowP encS D) ∧ SzS (decL decS D.length (rowP encS D)))
    (Tr.rq
      ((IsL encAl 6 (decL decAl A.length (rowP encAl A)) A.length (rowP encAl A) ∧ A.length ≤ 1000) ∧
        IsL encLI 1
            (decL decLI (grpL (keyA (decL decAl A.length (rowP encAl A)) (decL decS D.length (rowP encS D))) A.length).length
              (rowP encLI (grpL (keyA (decL decAl A.length (rowP encAl A)) (decL decS D.length (rowP encS D))) A.length)))
            (grpL (keyA (decL decAl A.length (rowP encAl A)) (decL decS D.length (rowP encS D))) A.length).length
            (rowP encLI (grpL (keyA (decL decAl A.length (rowP encAl A)) (decL decS D.length (rowP encS D))) A.length)) ∧
          OwnP A.length
            (decL decLI (grpL (keyA (decL decAl A.length (rowP encAl A)) (decL decS D.length (rowP encS D))) A.length).length
              (rowP encLI (grpL (keyA (decL decAl A.length (rowP encAl A)) (decL decS D.length (rowP encS D))) A.length)))
            rk)
      (Tr.done AE.X.normal
        (cst 124 [(7, V.c (C.p (PV.l 6 A.length (rowP encAl A)))), (8, V.c (C.p (PV.l 1 B.length (rowP encS B)))), (10, V.c (C.p (PV.l 1 X.length (rowP encI X)))), (11, V.c (C.p (PV.l 1 (ownL A.length rk).length (rowP encI (ownL A.length rk)))))] []))) := by kernel_rfl
theorem tPt5 (A : List (List (ByteArray × ByteArray))) (B : List ByteArray) (X Y : List Int) : exTs ext0 (takeL 3 (dropL 6 (pcs Try.prog Try.f4))) (cst 124 [(7, listV encAl 6 A), (8, listV encS 1 B), (10, listV encI 1 X), (11, listV encI 1 Y)] []) (endG (msk 124 [7, 8, 10, 11, 12]) (resOf Try.prog Try.f4)) = bT ((↑X.length : Int) != (↑A.length : Int)) (Tr.done AE.X.ret (St.mk [V.c (C.p (PV.b false))] []))
    (bT ((↑Y.length : Int) != (↑A.length : Int)) (Tr.done AE.X.ret (St.mk [V.c (C.p (PV.b false))] []))
      (Tr.done AE.X.normal
        (cst 124 [(7, V.c (C.p (PV.l 6 A.length (rowP encAl A)))), (8, V.c (C.p (PV.l 1 B.length (rowP encS B)))), (10, V.c (C.p (PV.l 1 X.length (rowP encI X)))), (11, V.c (C.p (PV.l 1 Y.length (rowP encI Y)))), (12, V.c (C.p (PV.i IntKind.i64 0)))] []))) := by kernel_rfl
theorem tPt6 (A : List (List (ByteArray × ByteArray))) (B : List ByteArray) (X Y : List Int) (i : Nat) : exTs ext0 (takeL 2 (lpB (pcs Try.prog Try.f4) 9)) (cst 124 [(7, listV encAl 6 A), (8, listV encS 1 B), (10, listV encI 1 X), (11, listV encI 1 Y), (12, iV (i : Nat))] []) (endG (msk 124 [7, 8, 10, 11, 12]) (resOf Try.prog Try.f4)) = bT (decide ((↑i : Int) < (↑A.length : Int)))
    (Tr.done AE.X.normal
      (cst 124 [(7, V.c (C.p (PV.l 6 A.length (rowP encAl A)))), (8, V.c (C.p (PV.l 1 B.length (rowP encS B)))), (10, V.c (C.p (PV.l 1 X.length (rowP encI X)))), (11, V.c (C.p (PV.l 1 Y.length (rowP encI Y)))), (12, V.c (C.p (PV.i IntKind.i64 (↑i : Int))))] []))
    (Tr.done (AE.X.exit 0)
      (cst 124 [(7, V.c (C.p (PV.l 6 A.length (rowP encAl A)))), (8, V.c (C.p (PV.l 1 B.length (rowP encS B)))), (10, V.c (C.p (PV.l 1 X.length (rowP encI X)))), (11, V.c (C.p (PV.l 1 Y.length (rowP encI Y)))), (12, V.c (C.p (PV.i IntKind.i64 (↑i : Int))))] [])) := by kernel_rfl
theorem tPt7 (A : List (List (ByteArray × ByteArray))) (B : List ByteArray) (X Y : List Int) (i : Nat) : exTs ext0 (takeL 1 (flat (inr (nth .skip (lpB (pcs Try.prog Try.f4) 9) 2)))) (cst 124 [(7, listV encAl 6 A), (8, listV encS 1 B), (10, listV encI 1 X), (11, listV encI 1 Y), (12, iV (i : Nat))] []) (endG (msk 124 [7, 8, 10, 11, 12, 13]) (resOf Try.prog Try.f4)) = Tr.done AE.X.normal
    (cst 124 [(7, V.c (C.p (PV.l 6 A.length (rowP encAl A)))), (8, V.c (C.p (PV.l 1 B.length (rowP encS B)))), (10, V.c (C.p (PV.l 1 X.length (rowP encI X)))), (11, V.c (C.p (PV.l 1 Y.length (rowP encI Y)))), (12, V.c (C.p (PV.i IntKind.i64 (↑i : Int)))), (13, V.c (C.p (PV.i IntKind.i64 0)))] []) := by kernel_rfl
theorem tPt8 (A : List (List (ByteArray × ByteArray))) (B : List ByteArray) (X Y : List Int) (i k : Nat) : exTs ext0 (takeL 2 (lpB (flat (inr (nth .skip (lpB (pcs Try.prog Try.f4) 9) 2))) 1)) (cst 124 [(7, listV encAl 6 A), (8, listV encS 1 B), (10, listV encI 1 X), (11, listV encI 1 Y), (12, iV (i : Nat)), (13, iV (k : Nat))] []) (endG (msk 124 [7, 8, 10, 11, 12, 13]) (resOf Try.prog Try.f4)) = bT (decide ((↑k : Int) < (↑A.length : Int)))
    (Tr.done AE.X.normal
      (cst 124 [(7, V.c (C.p (PV.l 6 A.length (rowP encAl A)))), (8, V.c (C.p (PV.l 1 B.length (rowP encS B)))), (10, V.c (C.p (PV.l 1 X.length (rowP encI X)))), (11, V.c (C.p (PV.l 1 Y.length (rowP encI Y)))), (12, V.c (C.p (PV.i IntKind.i64 (↑i : Int)))), (13, V.c (C.p (PV.i IntKind.i64 (↑k : Int))))] []))
    (Tr.done (AE.X.exit 2)
      (cst 124 [(7, V.c (C.p (PV.l 6 A.length (rowP encAl A)))), (8, V.c (C.p (PV.l 1 B.length (rowP encS B)))), (10, V.c (C.p (PV.l 1 X.length (rowP encI X)))), (11, V.c (C.p (PV.l 1 Y.length (rowP encI Y)))), (12, V.c (C.p (PV.i IntKind.i64 (↑i : Int)))), (13, V.c (C.p (PV.i IntKind.i64 (↑k : Int))))] [])) := by kernel_rfl
theorem tPt9 (A : List (List (ByteArray × ByteArray))) (B : List ByteArray) (X Y : List Int) (i k : Nat) : exTs extKC (takeL 1 (flat (inr (nth .skip (lpB (flat (inr (nth .skip (lpB (pcs Try.prog Try.f4) 9) 2))) 1) 2)))) (cst 124 [(7, listV encAl 6 A), (8, listV encS 1 B), (10, listV encI 1 X), (11, listV encI 1 Y), (12, iV (i : Nat)), (13, iV (k : Nat))] []) (endG (msk 124 [7, 8, 10, 11, 12, 13, 14]) (resOf Try.prog Try.f4)) = Tr.rq (0 ≤ (↑i : Int) ∧ (↑i : Int) < (↑A.length : Int))
    (Tr.rq
      ((IsL enc2 2 (decL dec2 (A.getD (↑i : Int).toNat default).length (rowP enc2 (A.getD (↑i : Int).toNat default))) (A.getD (↑i : Int).toNat default).length
            (rowP enc2 (A.getD (↑i : Int).toNat default)) ∧
          SzL (decL dec2 (A.getD (↑i : Int).toNat default).length (rowP enc2 (A.getD (↑i : Int).toNat default)))) ∧
        IsL encS 1 (decL decS B.length (rowP encS B)) B.length (rowP encS B) ∧ SzS (decL decS B.length (rowP encS B)))
      (Tr.rq (0 ≤ (↑k : Int) ∧ (↑k : Int) < (↑A.length : Int))
        (Tr.rq
          ((IsL enc2 2 (decL dec2 (A.getD (↑k : Int).toNat default).length (rowP enc2 (A.getD (↑k : Int).toNat default))) (A.getD (↑k : Int).toNat default).length
                (rowP enc2 (A.getD (↑k : Int).toNat default)) ∧
              SzL (decL dec2 (A.getD (↑k : Int).toNat default).length (rowP enc2 (A.getD (↑k : Int).toNat default)))) ∧
            IsL encS 1 (decL decS B.length (rowP encS B)) B.length (rowP encS B) ∧ SzS (decL decS B.length (rowP encS B)))
          (Tr.rq
            ((IsL enc2 2
                  (decL dec2 (keepL (decL dec2 (A.getD (↑i : Int).toNat default).length (rowP enc2 (A.getD (↑i : Int).toNat default))) (decL decS B.length (rowP encS B))).length
                    (rowP enc2 (keepL (decL dec2 (A.getD (↑i : Int).toNat default).length (rowP enc2 (A.getD (↑i : Int).toNat default))) (decL decS B.length (rowP encS B)))))
                  (keepL (decL dec2 (A.getD (↑i : Int).toNat default).length (rowP enc2 (A.getD (↑i : Int).toNat default))) (decL decS B.length (rowP encS B))).length
                  (rowP enc2 (keepL (decL dec2 (A.getD (↑i : Int).toNat default).length (rowP enc2 (A.getD (↑i : Int).toNat default))) (decL decS B.length (rowP encS B)))) ∧
                IsL enc2 2
                  (decL dec2 (keepL (decL dec2 (A.getD (↑k : Int).toNat default).length (rowP enc2 (A.getD (↑k : Int).toNat default))) (decL decS B.length (rowP encS B))).length
                    (rowP enc2 (keepL (decL dec2 (A.getD (↑k : Int).toNat default).length (rowP enc2 (A.getD (↑k : Int).toNat default))) (decL decS B.length (rowP encS B)))))
                  (keepL (decL dec2 (A.getD (↑k : Int).toNat default).length (rowP enc2 (A.getD (↑k : Int).toNat default))) (decL decS B.length (rowP encS B))).length
                  (rowP enc2 (keepL (decL dec2 (A.getD (↑k : Int).toNat default).length (rowP enc2 (A.getD (↑k : Int).toNat default))) (decL decS B.length (rowP encS B))))) ∧
              (keepL (decL dec2 (A.getD (↑i : Int).toNat default).length (rowP enc2 (A.getD (↑i : Int).toNat default))) (decL decS B.length (rowP encS B))).length ≤ 1000000)
            (Tr.done AE.X.normal
              (cst 124 [(7, V.c (C.p (PV.l 6 A.length (rowP encAl A)))), (8, V.c (C.p (PV.l 1 B.length (rowP encS B)))), (10, V.c (C.p (PV.l 1 X.length (rowP encI X)))), (11, V.c (C.p (PV.l 1 Y.length (rowP encI Y)))), (12, V.c (C.p (PV.i IntKind.i64 (↑i : Int)))), (13, V.c (C.p (PV.i IntKind.i64 (↑k : Int)))), (14, V.c (C.p (PV.i IntKind.i64 (cmpL (decL dec2 (keepL (decL dec2 (A.getD (↑i : Int).toNat default).length (rowP enc2 (A.getD (↑i : Int).toNat default))) (decL decS B.length (rowP encS B))).length (rowP enc2 (keepL (decL dec2 (A.getD (↑i : Int).toNat default).length (rowP enc2 (A.getD (↑i : Int).toNat default))) (decL decS B.length (rowP encS B))))) (decL dec2 (keepL (decL dec2 (A.getD (↑k : Int).toNat default).length (rowP enc2 (A.getD (↑k : Int).toNat default))) (decL decS B.length (rowP encS B))).length (rowP enc2 (keepL (decL dec2 (A.getD (↑k : Int).toNat default).length (rowP enc2 (A.getD (↑k : Int).toNat default))) (decL decS B.length (rowP encS B)))))))))] [])))))) := by kernel_rfl
theorem tPta (A : List (List (ByteArray × ByteArray))) (B : List ByteArray) (X Y : List Int) (c : Int) (i k : Nat) : exTs ext0 (dropL 1 (flat (inr (nth .skip (lpB (flat (inr (nth .skip (lpB (pcs Try.prog Try.f4) 9) 2))) 1) 2)))) (cst 124 [(7, listV encAl 6 A), (8, listV encS 1 B), (10, listV encI 1 X), (11, listV encI 1 Y), (12, iV (i : Nat)), (13, iV (k : Nat)), (14, iV c)] []) (endG (msk 124 [7, 8, 10, 11, 12, 13]) (resOf Try.prog Try.f4)) = bT (decide (c < 0))
    (Tr.rq (0 ≤ (↑i : Int) ∧ (↑i : Int) < (↑X.length : Int))
      (Tr.rq (0 ≤ (↑k : Int) ∧ (↑k : Int) < (↑X.length : Int))
        (bT (decide (X.getD (↑k : Int).toNat default ≤ X.getD (↑i : Int).toNat default)) (Tr.done AE.X.ret (St.mk [V.c (C.p (PV.b false))] []))
          (bT (c == 0)
            (Tr.rq (0 ≤ (↑i : Int) ∧ (↑i : Int) < (↑X.length : Int))
              (Tr.rq (0 ≤ (↑k : Int) ∧ (↑k : Int) < (↑X.length : Int))
                (bT (X.getD (↑i : Int).toNat default != X.getD (↑k : Int).toNat default) (Tr.done AE.X.ret (St.mk [V.c (C.p (PV.b false))] []))
                  (Tr.rq (0 ≤ (↑i : Int) ∧ (↑i : Int) < (↑Y.length : Int))
                    (Tr.rq (0 ≤ (↑k : Int) ∧ (↑k : Int) < (↑Y.length : Int))
                      (bT (Y.getD (↑i : Int).toNat default == Y.getD (↑k : Int).toNat default)
                        (Tr.rq (0 ≤ (↑i : Int) ∧ (↑i : Int) < (↑X.length : Int))
                          (Tr.rq (0 ≤ (↑k : Int) ∧ (↑k : Int) < (↑X.length : Int))
                            (bT (X.getD (↑i : Int).toNat default != X.getD (↑k : Int).toNat default) (Tr.done AE.X.ret (St.mk [V.c (C.p (PV.b false))] []))
                              (Tr.done AE.X.normal
                                (cst 124 [(7, V.c (C.p (PV.l 6 A.length (rowP encAl A)))), (8, V.c (C.p (PV.l 1 B.length (rowP encS B)))), (10, V.c (C.p (PV.l 1 X.length (rowP encI X)))), (11, V.c (C.p (PV.l 1 Y.length (rowP encI Y)))), (12, V.c (C.p (PV.i IntKind.i64 (↑i : Int)))), (13, V.c (C.p (PV.i IntKind.i64 (↑k : Int))))] [])))))
                        (Tr.done AE.X.normal
                          (cst 124 [(7, V.c (C.p (PV.l 6 A.length (rowP encAl A)))), (8, V.c (C.p (PV.l 1 B.length (rowP encS B)))), (10, V.c (C.p (PV.l 1 X.length (rowP encI X)))), (11, V.c (C.p (PV.l 1 Y.length (rowP encI Y)))), (12, V.c (C.p (PV.i IntKind.i64 (↑i : Int)))), (13, V.c (C.p (PV.i IntKind.i64 (↑k : Int))))] []))))))))
            (Tr.rq (0 ≤ (↑i : Int) ∧ (↑i : Int) < (↑Y.length : Int))
              (Tr.rq (0 ≤ (↑k : Int) ∧ (↑k : Int) < (↑Y.length : Int))
                (bT (Y.getD (↑i : Int).toNat default == Y.getD (↑k : Int).toNat default)
                  (Tr.rq (0 ≤ (↑i : Int) ∧ (↑i : Int) < (↑X.length : Int))
                    (Tr.rq (0 ≤ (↑k : Int) ∧ (↑k : Int) < (↑X.length : Int))
                      (bT (X.getD (↑i : Int).toNat default != X.getD (↑k : Int).toNat default) (Tr.done AE.X.ret (St.mk [V.c (C.p (PV.b false))] []))
                        (Tr.done AE.X.normal
                          (cst 124 [(7, V.c (C.p (PV.l 6 A.length (rowP encAl A)))), (8, V.c (C.p (PV.l 1 B.length (rowP encS B)))), (10, V.c (C.p (PV.l 1 X.length (rowP encI X)))), (11, V.c (C.p (PV.l 1 Y.length (rowP encI Y)))), (12, V.c (C.p (PV.i IntKind.i64 (↑i : Int)))), (13, V.c (C.p (PV.i IntKind.i64 (↑k : Int))))] [])))))
                  (Tr.done AE.X.normal
                    (cst 124 [(7, V.c (C.p (PV.l 6 A.length (rowP encAl A)))), (8, V.c (C.p (PV.l 1 B.length (rowP encS B)))), (10, V.c (C.p (PV.l 1 X.length (rowP encI X)))), (11, V.c (C.p (PV.l 1 Y.length (rowP encI Y)))), (12, V.c (C.p (PV.i IntKind.i64 (↑i : Int)))), (13, V.c (C.p (PV.i IntKind.i64 (↑k : Int))))] [])))))))))
    (bT (c == 0)
      (Tr.rq (0 ≤ (↑i : Int) ∧ (↑i : Int) < (↑X.length : Int))
        (Tr.rq (0 ≤ (↑k : Int) ∧ (↑k : Int) < (↑X.length : Int))
          (bT (X.getD (↑i : Int).toNat default != X.getD (↑k : Int).toNat default) (Tr.done AE.X.ret (St.mk [V.c (C.p (PV.b false))] []))
            (Tr.rq (0 ≤ (↑i : Int) ∧ (↑i : Int) < (↑Y.length : Int))
              (Tr.rq (0 ≤ (↑k : Int) ∧ (↑k : Int) < (↑Y.length : Int))
                (bT (Y.getD (↑i : Int).toNat default == Y.getD (↑k : Int).toNat default)
                  (Tr.rq (0 ≤ (↑i : Int) ∧ (↑i : Int) < (↑X.length : Int))
                    (Tr.rq (0 ≤ (↑k : Int) ∧ (↑k : Int) < (↑X.length : Int))
                      (bT (X.getD (↑i : Int).toNat default != X.getD (↑k : Int).toNat default) (Tr.done AE.X.ret (St.mk [V.c (C.p (PV.b false))] []))
                        (Tr.done AE.X.normal
                          (cst 124 [(7, V.c (C.p (PV.l 6 A.length (rowP encAl A)))), (8, V.c (C.p (PV.l 1 B.length (rowP encS B)))), (10, V.c (C.p (PV.l 1 X.length (rowP encI X)))), (11, V.c (C.p (PV.l 1 Y.length (rowP encI Y)))), (12, V.c (C.p (PV.i IntKind.i64 (↑i : Int)))), (13, V.c (C.p (PV.i IntKind.i64 (↑k : Int))))] [])))))
                  (Tr.done AE.X.normal
                    (cst 124 [(7, V.c (C.p (PV.l 6 A.length (rowP encAl A)))), (8, V.c (C.p (PV.l 1 B.length (rowP encS B)))), (10, V.c (C.p (PV.l 1 X.length (rowP encI X)))), (11, V.c (C.p (PV.l 1 Y.length (rowP encI Y)))), (12, V.c (C.p (PV.i IntKind.i64 (↑i : Int)))), (13, V.c (C.p (PV.i IntKind.i64 (↑k : Int))))] []))))))))
      (Tr.rq (0 ≤ (↑i : Int) ∧ (↑i : Int) < (↑Y.length : Int))
        (Tr.rq (0 ≤ (↑k : Int) ∧ (↑k : Int) < (↑Y.length : Int))
          (bT (Y.getD (↑i : Int).toNat default == Y.getD (↑k : Int).toNat default)
            (Tr.rq (0 ≤ (↑i : Int) ∧ (↑i : Int) < (↑X.length : Int))
              (Tr.rq (0 ≤ (↑k : Int) ∧ (↑k : Int) < (↑X.length : Int))
                (bT (X.getD (↑i : Int).toNat default != X.getD (↑k : Int).toNat default) (Tr.done AE.X.ret (St.mk [V.c (C.p (PV.b false))] []))
                  (Tr.done AE.X.normal
                    (cst 124 [(7, V.c (C.p (PV.l 6 A.length (rowP encAl A)))), (8, V.c (C.p (PV.l 1 B.length (rowP encS B)))), (10, V.c (C.p (PV.l 1 X.length (rowP encI X)))), (11, V.c (C.p (PV.l 1 Y.length (rowP encI Y)))), (12, V.c (C.p (PV.i IntKind.i64 (↑i : Int)))), (13, V.c (C.p (PV.i IntKind.i64 (↑k : Int))))] [])))))
            (Tr.done AE.X.normal
              (cst 124 [(7, V.c (C.p (PV.l 6 A.length (rowP encAl A)))), (8, V.c (C.p (PV.l 1 B.length (rowP encS B)))), (10, V.c (C.p (PV.l 1 X.length (rowP encI X)))), (11, V.c (C.p (PV.l 1 Y.length (rowP encI Y)))), (12, V.c (C.p (PV.i IntKind.i64 (↑i : Int)))), (13, V.c (C.p (PV.i IntKind.i64 (↑k : Int))))] [])))))) := by kernel_rfl
theorem tPtb (A : List (List (ByteArray × ByteArray))) (B : List ByteArray) (X Y : List Int) (i k : Nat) : exTs ext0 (dropL 3 (lpB (flat (inr (nth .skip (lpB (pcs Try.prog Try.f4) 9) 2))) 1)) (cst 124 [(7, listV encAl 6 A), (8, listV encS 1 B), (10, listV encI 1 X), (11, listV encI 1 Y), (12, iV (i : Nat)), (13, iV (k : Nat))] []) (endG (msk 124 [7, 8, 10, 11, 12, 13]) (resOf Try.prog Try.f4)) = Tr.rq (inR IntKind.i64 ((↑k : Int) + 1))
    (Tr.done AE.X.normal
      (cst 124 [(7, V.c (C.p (PV.l 6 A.length (rowP encAl A)))), (8, V.c (C.p (PV.l 1 B.length (rowP encS B)))), (10, V.c (C.p (PV.l 1 X.length (rowP encI X)))), (11, V.c (C.p (PV.l 1 Y.length (rowP encI Y)))), (12, V.c (C.p (PV.i IntKind.i64 (↑i : Int)))), (13, V.c (C.p (PV.i IntKind.i64 ((↑k : Int) + 1))))] [])) := by kernel_rfl
theorem tPtc (A : List (List (ByteArray × ByteArray))) (B : List ByteArray) (X Y : List Int) (i : Nat) : exTs ext0 (dropL 3 (lpB (pcs Try.prog Try.f4) 9)) (cst 124 [(7, listV encAl 6 A), (8, listV encS 1 B), (10, listV encI 1 X), (11, listV encI 1 Y), (12, iV (i : Nat))] []) (endG (msk 124 [7, 8, 10, 11, 12]) (resOf Try.prog Try.f4)) = Tr.rq (inR IntKind.i64 ((↑i : Int) + 1))
    (Tr.done AE.X.normal
      (cst 124 [(7, V.c (C.p (PV.l 6 A.length (rowP encAl A)))), (8, V.c (C.p (PV.l 1 B.length (rowP encS B)))), (10, V.c (C.p (PV.l 1 X.length (rowP encI X)))), (11, V.c (C.p (PV.l 1 Y.length (rowP encI Y)))), (12, V.c (C.p (PV.i IntKind.i64 ((↑i : Int) + 1))))] [])) := by kernel_rfl
theorem tPtd (A : List (List (ByteArray × ByteArray))) (B : List ByteArray) (X Y : List Int) (i : Nat) : exTs extLvs (dropL 10 (pcs Try.prog Try.f4)) (cst 124 [(7, listV encAl 6 A), (8, listV encS 1 B), (10, listV encI 1 X), (11, listV encI 1 Y), (12, iV (i : Nat))] []) (endG [] (resOf Try.prog Try.f4)) = Tr.rq True (Tr.done AE.X.ret (St.mk [V.c (C.p (PV.b true))] [])) := by kernel_rfl
/-- The number of a key. -/
def rkK (key : Int → List (ByteArray × ByteArray)) (n : Nat) (x : Int) : Nat := (keysL key n).findIdx fun k => decide (k = key x)
theorem rk_spec (key : Int → List (ByteArray × ByteArray)) {n : Nat} {x : Int} (h0 : 0 ≤ x) (h1 : x < n) : rkK key n x < (keysL key n).length ∧ (keysL key n).getD (rkK key n x) default = key x := by
  have hm : key x ∈ keysL key n := ((keysL_spec key n).2 (key x)).2 ⟨x, mem_idx.2 ⟨h0, h1⟩, rfl⟩
  have hlt : rkK key n x < (keysL key n).length := List.findIdx_lt_length_of_exists ⟨key x, hm, by simp⟩
  refine ⟨hlt, ?_⟩
  have := List.findIdx_getElem (p := fun k => decide (k = key x)) (xs := keysL key n) (w := hlt)
  rw [List.getD_eq_getElem?_getD, List.getElem?_eq_getElem hlt]
  have this : decide ((keysL key n)[rkK key n x] = key x) = true := this
  exact of_decide_eq_true this
theorem inc_lt {K : List (List (ByteArray × ByteArray))} (hK : Inc K) {i j : Nat} (hij : i < j) (hj : j < K.length) : ltL (K.getD i default) (K.getD j default) := by
  rw [List.getD_eq_getElem?_getD, List.getD_eq_getElem?_getD, List.getElem?_eq_getElem hj, List.getElem?_eq_getElem (show i < K.length by omega)]
  exact List.pairwise_iff_getElem.1 hK i j (by omega) hj hij
theorem inc_inj {K : List (List (ByteArray × ByteArray))} (hK : Inc K) {i j : Nat} (hi : i < K.length) (hj : j < K.length) (h : K.getD i default = K.getD j default) : i = j := by
  rcases Nat.lt_trichotomy i j with hl | hl | hl
  · have := inc_lt hK hl hj
    rw [h] at this
    exact absurd this (ltL_irrefl _)
  · exact hl
  · have := inc_lt hK hl hi
    rw [h] at this
    exact absurd this (ltL_irrefl _)
theorem rk_eq (key : Int → List (ByteArray × ByteArray)) {n : Nat} {x : Int} (h0 : 0 ≤ x) (h1 : x < n) {g : Nat} (hg : g < (keysL key n).length) (h : key x = (keysL key n).getD g default) : rkK key n x = g := by
  obtain ⟨a, b⟩ := rk_spec key h0 h1
  exact inc_inj (keysL_spec key n).1 a hg (by rw [b, h])
theorem rk_lt (key : Int → List (ByteArray × ByteArray)) {n : Nat} {x y : Int} (hx : 0 ≤ x ∧ x < n) (hy : 0 ≤ y ∧ y < n) (h : cmpL (key x) (key y) < 0) : rkK key n x < rkK key n y := by
  obtain ⟨a, b⟩ := rk_spec key hx.1 hx.2
  obtain ⟨c, d⟩ := rk_spec key hy.1 hy.2
  rcases Nat.lt_trichotomy (rkK key n x) (rkK key n y) with hl | hl | hl
  · exact hl
  · rw [hl, d] at b
    have h : ltL (key x) (key y) := h
    rw [b] at h
    exact absurd h (ltL_irrefl _)
  · have := inc_lt (keysL_spec key n).1 hl a
    rw [b, d] at this
    exact absurd this (ltL_asymm h)
theorem rk_key (key : Int → List (ByteArray × ByteArray)) {n : Nat} {x y : Int} (hx : 0 ≤ x ∧ x < n) (hy : 0 ≤ y ∧ y < n) : rkK key n x = rkK key n y ↔ key x = key y := by
  obtain ⟨a, b⟩ := rk_spec key hx.1 hx.2
  obtain ⟨c, d⟩ := rk_spec key hy.1 hy.2
  constructor
  · intro h; rw [← b, ← d, h]
  · intro h
    exact rk_eq key hx.1 hx.2 c (by rw [d, h])
theorem grpL_at (key : Int → List (ByteArray × ByteArray)) (n : Nat) {g : Nat} (hg : g < (keysL key n).length) : (grpL key n).getD g default = blockL key n ((keysL key n).getD g default) := by
  unfold grpL
  rw [List.getD_eq_getElem?_getD, List.getElem?_map, List.getElem?_eq_getElem hg, List.getD_eq_getElem?_getD, List.getElem?_eq_getElem hg]
  rfl
theorem grpL_len (key : Int → List (ByteArray × ByteArray)) (n : Nat) : (grpL key n).length = (keysL key n).length := by unfold grpL; rw [List.length_map]
theorem ownP_grp (key : Int → List (ByteArray × ByteArray)) (n : Nat) : OwnP n (grpL key n) (rkK key n) where
  ne g hg := by
    rw [grpL_len] at hg
    rw [grpL_at key n hg]
    obtain ⟨i, hi, he⟩ := ((keysL_spec key n).2 _).1 (getD_memG hg)
    have : i ∈ blockL key n ((keysL key n).getD g default) := (mem_block key).2 ⟨mem_idx.1 hi, he⟩
    exact List.length_pos_of_mem this
  rng g hg x hx := by
    rw [grpL_len] at hg
    rw [grpL_at key n hg] at hx
    obtain ⟨h1, h2⟩ := (mem_block key).1 hx
    exact ⟨h1.1, h1.2, rk_eq key h1.1 h1.2 hg h2⟩
  srt g hg := by
    rw [grpL_len] at hg
    rw [grpL_at key n hg]
    unfold blockL
    exact (idx_sorted n).sublist List.filter_sublist
  all x h0 h1 := by
    obtain ⟨a, b⟩ := rk_spec key h0 h1
    rw [grpL_len, grpL_at key n a]
    exact ⟨a, (mem_block key).2 ⟨⟨h0, h1⟩, b.symm⟩⟩
  cnt := by
    have h := perm_blocks key (keysL key n) (idx n) (keysL_spec key n).1.nodup (fun i hi => ((keysL_spec key n).2 _).2 ⟨i, hi, rfl⟩)
    have h2 := h.length_eq
    rw [idx_length] at h2
    unfold grpL
    rw [← List.flatMap_def]
    exact h2
theorem keep_both {a b : List (ByteArray × ByteArray)} {N M : List ByteArray} (h : keepL a (N ++ M) = keepL b (N ++ M)) : keepL a N = keepL b N := by
  have key : ∀ c : List (ByteArray × ByteArray), keepL c N = keepL (keepL c (N ++ M)) N := fun c => by
    unfold keepL
    rw [List.filter_filter]
    apply List.filter_congr
    intro x _
    rw [List.any_append]
    cases N.any fun s => decide (x.1 = s) <;> simp
  rw [key a, key b, h]
section
variable {G : Nat → Option Obj}
theorem extOw_sound (rk : Int → Nat) : SoundExt Try.prog G (extOw rk) := extOf_sound (by simp; exact ⟨okGroups, okOwn rk⟩)
theorem extKC_sound : SoundExt Try.prog G extKC := extOf_sound (by simp; exact ⟨okKeep, okCompare⟩)
theorem extLvs_sound : SoundExt Try.prog G extLvs := extOf_sound (by simp; exact okLives)
end
end Go.AE
