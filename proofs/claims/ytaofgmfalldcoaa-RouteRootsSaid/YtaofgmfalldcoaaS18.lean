/- AE: the law RouteRoots. -/
import Derived.Test.YtaofgmfalldcoaaS16
import Derived.Test.YtaofgmfalldcoaaGr3
import Derived.Test.YtaofgmfalldcoaaAe31
namespace Go.AE
open Go.Proofs Go.Proofs.Ytaofgmfalldcoaa
set_option linter.unusedVariables false
set_option linter.unusedSimpArgs false

noncomputable def extRoo : Ext := extOf [(20, mAcyclic), (13, mGraph), (16, mFiring), (18, mGInhib), (21, mReachedR), (15, mLives)]

theorem tOo1 (L : List Int) (b : Int) : exTs extRoo (takeL 4 (pcs Try.prog Try.f5)) (st0 Try.f5 [listV encI 1 L, iV b]) (endG (msk 128 [5, 6, 7]) (resOf Try.prog Try.f5)) = Tr.rq (IsL encI 1 (decL decI L.length (rowP encI L)) L.length (rowP encI L) ∧ Ints (decL decI L.length (rowP encI L)))
    (Tr.rq ((0 ≤ acN (decL decI L.length (rowP encI L)) ∧ acN (decL decI L.length (rowP encI L)) ≤ 1000000) ∧ inR IntKind.i64 b)
      (Tr.rq True
        (Tr.rq
          ((IsL encE 2 (decL decE (acG (decL decI L.length (rowP encI L))).length (rowP encE (acG (decL decI L.length (rowP encI L))))) (acG (decL decI L.length (rowP encI L))).length
                (rowP encE (acG (decL decI L.length (rowP encI L)))) ∧
              (acG (decL decI L.length (rowP encI L))).length ≤ 1000000) ∧
            IsL encB 1 (decL decB (firing (acN (decL decI L.length (rowP encI L))).toNat b).length (rowP encB (firing (acN (decL decI L.length (rowP encI L))).toNat b)))
                (firing (acN (decL decI L.length (rowP encI L))).toNat b).length (rowP encB (firing (acN (decL decI L.length (rowP encI L))).toNat b)) ∧
              (firing (acN (decL decI L.length (rowP encI L))).toNat b).length ≤ 1000000)
          (Tr.done X.normal
            (cst 128 [(5, V.c (C.ptr 0 0)), (6, V.c (C.p (PV.l 1 (firing (acN (decL decI L.length (rowP encI L))).toNat b).length (rowP encB (firing (acN (decL decI L.length (rowP encI L))).toNat b))))), (7, V.c (C.p (PV.l 1 (inhZ (acN (decL decI L.length (rowP encI L))) (decL decE (acG (decL decI L.length (rowP encI L))).length (rowP encE (acG (decL decI L.length (rowP encI L))))) (decL decB (firing (acN (decL decI L.length (rowP encI L))).toNat b).length (rowP encB (firing (acN (decL decI L.length (rowP encI L))).toNat b)))).length (rowP encB (inhZ (acN (decL decI L.length (rowP encI L))) (decL decE (acG (decL decI L.length (rowP encI L))).length (rowP encE (acG (decL decI L.length (rowP encI L))))) (decL decB (firing (acN (decL decI L.length (rowP encI L))).toNat b).length (rowP encB (firing (acN (decL decI L.length (rowP encI L))).toNat b))))))))] [AO.cells 25 [C.p (PV.i IntKind.i64 (acN (decL decI L.length (rowP encI L)))), C.p (PV.l 2 (acG (decL decI L.length (rowP encI L))).length (rowP encE (acG (decL decI L.length (rowP encI L)))))]]))))) := by kernel_rfl
theorem tOo2 (n : Nat) (E : List Ed) (F Y : List Bool) : exTs ext0 (takeL 6 (dropL 4 (pcs Try.prog Try.f5))) (cst 128 [(5, .c (.ptr 0 0)), (6, listV encB 1 F), (7, listV encB 1 Y)] [.cells 25 [.p (.i .i64 (n : Nat)), .p (listP encE 2 E)]]) (endG (msk 128 [5, 6, 7, 8, 9, 10, 11]) (resOf Try.prog Try.f5)) = bT ((↑Y.length : Int) != (↑n : Int)) (Tr.done X.ret (St.mk [V.c (C.p (PV.b false))] []))
    (Tr.rq (0 ≤ (↑n : Int) ∧ (↑n : Int) ≤ (↑n : Int) ∧ (↑n : Int) * (↑1 : Int) ≤ 140737488355328 ∧ (↑n : Int) ≤ 140737488355328)
      (Tr.done X.normal
        (cst 128 [(5, V.c (C.ptr 0 0)), (6, V.c (C.p (PV.l 1 F.length (rowP encB F)))), (7, V.c (C.p (PV.l 1 Y.length (rowP encB Y)))), (8, V.c (C.sl 1 1 0 (↑n : Int).toNat)), (9, V.c (C.p (PV.b false))), (10, V.c (C.p (PV.b false))), (11, V.c (C.p (PV.i IntKind.i64 0)))] [AO.cells 25 [C.p (PV.i IntKind.i64 (↑n : Int)), C.p (PV.l 2 E.length (rowP encE E))], AO.row 4 1 (↑n : Int).toNat fun e o => renC [0, 1] (C.p (nth (PV.b false) [PV.b false] o))]))) := by kernel_rfl
theorem tOo3 (n i : Nat) (E : List Ed) (F Y out : List Bool) (fi ro : Bool) : exTs ext0 (takeL 2 (lpB (pcs Try.prog Try.f5) 10)) (cst 128 [(5, .c (.ptr 0 0)), (6, listV encB 1 F), (7, listV encB 1 Y), (8, .c (.sl 1 1 0 n)), (9, bV fi), (10, bV ro), (11, iV (i : Nat))] [.cells 25 [.p (.i .i64 (n : Nat)), .p (listP encE 2 E)], .row 4 1 n (rowC encB out)]) (endG (msk 128 [5, 6, 7, 8, 9, 10, 11]) (resOf Try.prog Try.f5)) = bT (decide ((↑i : Int) < (↑n : Int)))
    (Tr.done X.normal
      (cst 128 [(5, V.c (C.ptr 0 0)), (6, V.c (C.p (PV.l 1 F.length (rowP encB F)))), (7, V.c (C.p (PV.l 1 Y.length (rowP encB Y)))), (8, V.c (C.sl 1 1 0 n)), (9, V.c (C.p (PV.b fi))), (10, V.c (C.p (PV.b ro))), (11, V.c (C.p (PV.i IntKind.i64 (↑i : Int))))] [AO.cells 25 [C.p (PV.i IntKind.i64 (↑n : Int)), C.p (PV.l 2 E.length (rowP encE E))], AO.row 4 1 n fun e o => renC [0, 1] (rowC encB out e o)]))
    (Tr.done (X.exit 0)
      (cst 128 [(5, V.c (C.ptr 0 0)), (6, V.c (C.p (PV.l 1 F.length (rowP encB F)))), (7, V.c (C.p (PV.l 1 Y.length (rowP encB Y)))), (8, V.c (C.sl 1 1 0 n)), (9, V.c (C.p (PV.b fi))), (10, V.c (C.p (PV.b ro))), (11, V.c (C.p (PV.i IntKind.i64 (↑i : Int))))] [AO.cells 25 [C.p (PV.i IntKind.i64 (↑n : Int)), C.p (PV.l 2 E.length (rowP encE E))], AO.row 4 1 n fun e o => renC [0, 1] (rowC encB out e o)])) := by kernel_rfl
theorem tOo4 (n i : Nat) (E : List Ed) (F Y out : List Bool) (fi ro : Bool) : exTs ext0 (takeL 2 (flat (inr (nth .skip (lpB (pcs Try.prog Try.f5) 10) 2)))) (cst 128 [(5, .c (.ptr 0 0)), (6, listV encB 1 F), (7, listV encB 1 Y), (8, .c (.sl 1 1 0 n)), (9, bV fi), (10, bV ro), (11, iV (i : Nat))] [.cells 25 [.p (.i .i64 (n : Nat)), .p (listP encE 2 E)], .row 4 1 n (rowC encB out)]) (endG (msk 128 [5, 6, 7, 8, 9, 10, 11, 56]) (resOf Try.prog Try.f5)) = bT fi
    (Tr.rq (0 ≤ (↑i : Int) ∧ (↑i : Int) < (↑F.length : Int))
      (bT (F.getD (↑i : Int).toNat default)
        (Tr.rq (0 ≤ (↑i : Int) ∧ (↑i : Int) < (↑Y.length : Int))
          (Tr.done X.normal
            (cst 128 [(5, V.c (C.ptr 0 0)), (6, V.c (C.p (PV.l 1 F.length (rowP encB F)))), (7, V.c (C.p (PV.l 1 Y.length (rowP encB Y)))), (8, V.c (C.sl 1 1 0 n)), (9, V.c (C.p (PV.b true))), (10, V.c (C.p (PV.b ro))), (11, V.c (C.p (PV.i IntKind.i64 (↑i : Int)))), (56, V.c (C.p (PV.b !Y.getD (↑i : Int).toNat default)))] [AO.cells 25 [C.p (PV.i IntKind.i64 (↑n : Int)), C.p (PV.l 2 E.length (rowP encE E))], AO.row 4 1 n fun e o => renC [0, 1] (rowC encB out e o)])))
        (Tr.done X.normal
          (cst 128 [(5, V.c (C.ptr 0 0)), (6, V.c (C.p (PV.l 1 F.length (rowP encB F)))), (7, V.c (C.p (PV.l 1 Y.length (rowP encB Y)))), (8, V.c (C.sl 1 1 0 n)), (9, V.c (C.p (PV.b true))), (10, V.c (C.p (PV.b ro))), (11, V.c (C.p (PV.i IntKind.i64 (↑i : Int)))), (56, V.c (C.p (PV.b false)))] [AO.cells 25 [C.p (PV.i IntKind.i64 (↑n : Int)), C.p (PV.l 2 E.length (rowP encE E))], AO.row 4 1 n fun e o => renC [0, 1] (rowC encB out e o)]))))
    (Tr.rq (0 ≤ (↑i : Int) ∧ (↑i : Int) < (↑F.length : Int))
      (Tr.rq (0 ≤ (↑i : Int) ∧ (↑i : Int) < (↑F.length : Int))
        (bT (F.getD (↑i : Int).toNat default)
          (Tr.rq (0 ≤ (↑i : Int) ∧ (↑i : Int) < (↑Y.length : Int))
            (Tr.done X.normal
              (cst 128 [(5, V.c (C.ptr 0 0)), (6, V.c (C.p (PV.l 1 F.length (rowP encB F)))), (7, V.c (C.p (PV.l 1 Y.length (rowP encB Y)))), (8, V.c (C.sl 1 1 0 n)), (9, V.c (C.p (PV.b (F.getD (↑i : Int).toNat default)))), (10, V.c (C.p (PV.b ro))), (11, V.c (C.p (PV.i IntKind.i64 (↑i : Int)))), (56, V.c (C.p (PV.b !Y.getD (↑i : Int).toNat default)))] [AO.cells 25 [C.p (PV.i IntKind.i64 (↑n : Int)), C.p (PV.l 2 E.length (rowP encE E))], AO.row 4 1 n fun e o => renC [0, 1] (rowC encB out e o)])))
          (Tr.done X.normal
            (cst 128 [(5, V.c (C.ptr 0 0)), (6, V.c (C.p (PV.l 1 F.length (rowP encB F)))), (7, V.c (C.p (PV.l 1 Y.length (rowP encB Y)))), (8, V.c (C.sl 1 1 0 n)), (9, V.c (C.p (PV.b (F.getD (↑i : Int).toNat default)))), (10, V.c (C.p (PV.b ro))), (11, V.c (C.p (PV.i IntKind.i64 (↑i : Int)))), (56, V.c (C.p (PV.b false)))] [AO.cells 25 [C.p (PV.i IntKind.i64 (↑n : Int)), C.p (PV.l 2 E.length (rowP encE E))], AO.row 4 1 n fun e o => renC [0, 1] (rowC encB out e o)]))))) := by kernel_rfl
theorem tOo5 (n i : Nat) (E : List Ed) (F Y out : List Bool) (fi ro : Bool) : exTs extRoo (takeL 3 (flat (cndA (nth .skip (flat (inr (nth .skip (lpB (pcs Try.prog Try.f5) 10) 2))) 2)))) ((fun c => cst 128 [(5, .c (.ptr 0 0)), (6, listV encB 1 F), (7, listV encB 1 Y), (8, .c (.sl 1 1 0 n)), (9, bV fi), (10, bV ro), (11, iV (i : Nat)), (56, bV c)] [.cells 25 [.p (.i .i64 (n : Nat)), .p (listP encE 2 E)], .row 4 1 n (rowC encB out)]) true) (endG (msk 128 [5, 6, 7, 8, 9, 10, 11, 12, 13]) (resOf Try.prog Try.f5)) = Tr.rq ((0 ≤ (↑n : Int) ∧ (↑n : Int) ≤ 1000000) ∧ IsL encE 2 (decL decE E.length (rowP encE E)) E.length (rowP encE E) ∧ E.length ≤ 1000000 ∧ InN (↑n : Int).toNat (decL decE E.length (rowP encE E)))
    (Tr.done X.normal
      (cst 128 [(5, V.c (C.ptr 0 0)), (6, V.c (C.p (PV.l 1 F.length (rowP encB F)))), (7, V.c (C.p (PV.l 1 Y.length (rowP encB Y)))), (8, V.c (C.sl 1 1 0 n)), (9, V.c (C.p (PV.b fi))), (10, V.c (C.p (PV.b true))), (11, V.c (C.p (PV.i IntKind.i64 (↑i : Int)))), (12, V.c (C.p (PV.l 1 (rc1 (↑n : Int).toNat (decL decE E.length (rowP encE E)) (↑i : Int)).length (rowP encB (rc1 (↑n : Int).toNat (decL decE E.length (rowP encE E)) (↑i : Int)))))), (13, V.c (C.p (PV.i IntKind.i64 0)))] [AO.cells 25 [C.p (PV.i IntKind.i64 (↑n : Int)), C.p (PV.l 2 E.length (rowP encE E))], AO.row 4 1 n fun e o => renC [0, 1] (rowC encB out e o)])) := by kernel_rfl
theorem tOo6 (n i k : Nat) (E : List Ed) (F Y out rr : List Bool) (fi : Bool) : exTs ext0 (lpB (flat (cndA (nth .skip (flat (inr (nth .skip (lpB (pcs Try.prog Try.f5) 10) 2))) 2))) 3) (cst 128 [(5, .c (.ptr 0 0)), (6, listV encB 1 F), (7, listV encB 1 Y), (8, .c (.sl 1 1 0 n)), (9, bV fi), (10, bV true), (11, iV (i : Nat)), (12, listV encB 1 rr), (13, iV (k : Nat))] [.cells 25 [.p (.i .i64 (n : Nat)), .p (listP encE 2 E)], .row 4 1 n (rowC encB out)]) (endG (msk 128 [5, 6, 7, 8, 9, 10, 11, 12, 13]) (resOf Try.prog Try.f5)) = bT (decide ((↑k : Int) < (↑n : Int)))
    (Tr.rq (0 ≤ (↑k : Int) ∧ (↑k : Int) < (↑n : Int))
      (Tr.rq ((↑k : Int).toNat + 0 < n)
        (bT (out.getD ((↑k : Int).toNat + 0) default)
          (Tr.rq (0 ≤ (↑k : Int) ∧ (↑k : Int) < (↑n : Int))
            (Tr.rq ((↑k : Int).toNat + 0 < n)
              (Tr.rq (inR IntKind.i64 ((↑k : Int) + 1))
                (Tr.done X.normal
                  (cst 128 [(5, V.c (C.ptr 0 0)), (6, V.c (C.p (PV.l 1 F.length (rowP encB F)))), (7, V.c (C.p (PV.l 1 Y.length (rowP encB Y)))), (8, V.c (C.sl 1 1 0 n)), (9, V.c (C.p (PV.b fi))), (10, V.c (C.p (PV.b true))), (11, V.c (C.p (PV.i IntKind.i64 (↑i : Int)))), (12, V.c (C.p (PV.l 1 rr.length (rowP encB rr)))), (13, V.c (C.p (PV.i IntKind.i64 ((↑k : Int) + 1))))] [AO.cells 25 [C.p (PV.i IntKind.i64 (↑n : Int)), C.p (PV.l 2 E.length (rowP encE E))], AO.row 4 1 n fun e o => renC [0, 1] (if e = (↑k : Int).toNat + 0 then if 0 ≤ o ∧ o < 1 then nth C.top [C.p (PV.b true)] (o - 0) else rowC encB out e o else rowC encB out e o)])))))
          (Tr.rq (0 ≤ (↑k : Int) ∧ (↑k : Int) < (↑rr.length : Int))
            (Tr.rq (0 ≤ (↑k : Int) ∧ (↑k : Int) < (↑n : Int))
              (Tr.rq ((↑k : Int).toNat + 0 < n)
                (Tr.rq (inR IntKind.i64 ((↑k : Int) + 1))
                  (Tr.done X.normal
                    (cst 128 [(5, V.c (C.ptr 0 0)), (6, V.c (C.p (PV.l 1 F.length (rowP encB F)))), (7, V.c (C.p (PV.l 1 Y.length (rowP encB Y)))), (8, V.c (C.sl 1 1 0 n)), (9, V.c (C.p (PV.b fi))), (10, V.c (C.p (PV.b true))), (11, V.c (C.p (PV.i IntKind.i64 (↑i : Int)))), (12, V.c (C.p (PV.l 1 rr.length (rowP encB rr)))), (13, V.c (C.p (PV.i IntKind.i64 ((↑k : Int) + 1))))] [AO.cells 25 [C.p (PV.i IntKind.i64 (↑n : Int)), C.p (PV.l 2 E.length (rowP encE E))], AO.row 4 1 n fun e o => renC [0, 1] (if e = (↑k : Int).toNat + 0 then if 0 ≤ o ∧ o < 1 then nth C.top [C.p (PV.b (rr.getD (↑k : Int).toNat default))] (o - 0) else rowC encB out e o else rowC encB out e o)])))))))))
    (Tr.done (X.exit 2)
      (cst 128 [(5, V.c (C.ptr 0 0)), (6, V.c (C.p (PV.l 1 F.length (rowP encB F)))), (7, V.c (C.p (PV.l 1 Y.length (rowP encB Y)))), (8, V.c (C.sl 1 1 0 n)), (9, V.c (C.p (PV.b fi))), (10, V.c (C.p (PV.b true))), (11, V.c (C.p (PV.i IntKind.i64 (↑i : Int)))), (12, V.c (C.p (PV.l 1 rr.length (rowP encB rr)))), (13, V.c (C.p (PV.i IntKind.i64 (↑k : Int))))] [AO.cells 25 [C.p (PV.i IntKind.i64 (↑n : Int)), C.p (PV.l 2 E.length (rowP encE E))], AO.row 4 1 n fun e o => renC [0, 1] (rowC encB out e o)])) := by kernel_rfl
theorem tOo7 (n i : Nat) (E : List Ed) (F Y out : List Bool) (fi ro : Bool) : exTs ext0 (flat (cndB (nth .skip (flat (inr (nth .skip (lpB (pcs Try.prog Try.f5) 10) 2))) 2))) ((fun c => cst 128 [(5, .c (.ptr 0 0)), (6, listV encB 1 F), (7, listV encB 1 Y), (8, .c (.sl 1 1 0 n)), (9, bV fi), (10, bV ro), (11, iV (i : Nat)), (56, bV c)] [.cells 25 [.p (.i .i64 (n : Nat)), .p (listP encE 2 E)], .row 4 1 n (rowC encB out)]) false) (endG (msk 128 [5, 6, 7, 8, 9, 10, 11]) (resOf Try.prog Try.f5)) = Tr.done X.normal
    (cst 128 [(5, V.c (C.ptr 0 0)), (6, V.c (C.p (PV.l 1 F.length (rowP encB F)))), (7, V.c (C.p (PV.l 1 Y.length (rowP encB Y)))), (8, V.c (C.sl 1 1 0 n)), (9, V.c (C.p (PV.b fi))), (10, V.c (C.p (PV.b ro))), (11, V.c (C.p (PV.i IntKind.i64 (↑i : Int))))] [AO.cells 25 [C.p (PV.i IntKind.i64 (↑n : Int)), C.p (PV.l 2 E.length (rowP encE E))], AO.row 4 1 n fun e o => renC [0, 1] (rowC encB out e o)]) := by kernel_rfl
theorem tOo8 (n i : Nat) (E : List Ed) (F Y out : List Bool) (fi ro : Bool) : exTs ext0 (dropL 3 (lpB (pcs Try.prog Try.f5) 10)) (cst 128 [(5, .c (.ptr 0 0)), (6, listV encB 1 F), (7, listV encB 1 Y), (8, .c (.sl 1 1 0 n)), (9, bV fi), (10, bV ro), (11, iV (i : Nat))] [.cells 25 [.p (.i .i64 (n : Nat)), .p (listP encE 2 E)], .row 4 1 n (rowC encB out)]) (endG (msk 128 [5, 6, 7, 8, 9, 10, 11]) (resOf Try.prog Try.f5)) = Tr.rq (inR IntKind.i64 ((↑i : Int) + 1))
    (Tr.done X.normal
      (cst 128 [(5, V.c (C.ptr 0 0)), (6, V.c (C.p (PV.l 1 F.length (rowP encB F)))), (7, V.c (C.p (PV.l 1 Y.length (rowP encB Y)))), (8, V.c (C.sl 1 1 0 n)), (9, V.c (C.p (PV.b fi))), (10, V.c (C.p (PV.b ro))), (11, V.c (C.p (PV.i IntKind.i64 ((↑i : Int) + 1))))] [AO.cells 25 [C.p (PV.i IntKind.i64 (↑n : Int)), C.p (PV.l 2 E.length (rowP encE E))], AO.row 4 1 n fun e o => renC [0, 1] (rowC encB out e o)])) := by kernel_rfl
theorem tOo9 (n i : Nat) (E : List Ed) (F Y out : List Bool) (fi ro : Bool) : exTs ext0 (takeL 1 (dropL 11 (pcs Try.prog Try.f5))) (cst 128 [(5, .c (.ptr 0 0)), (6, listV encB 1 F), (7, listV encB 1 Y), (8, .c (.sl 1 1 0 n)), (9, bV fi), (10, bV ro), (11, iV (i : Nat))] [.cells 25 [.p (.i .i64 (n : Nat)), .p (listP encE 2 E)], .row 4 1 n (rowC encB out)]) (endG (msk 128 [5, 6, 7, 8, 9, 10, 14]) (resOf Try.prog Try.f5)) = Tr.done X.normal
    (cst 128 [(5, V.c (C.ptr 0 0)), (6, V.c (C.p (PV.l 1 F.length (rowP encB F)))), (7, V.c (C.p (PV.l 1 Y.length (rowP encB Y)))), (8, V.c (C.sl 1 1 0 n)), (9, V.c (C.p (PV.b fi))), (10, V.c (C.p (PV.b ro))), (14, V.c (C.p (PV.i IntKind.i64 0)))] [AO.cells 25 [C.p (PV.i IntKind.i64 (↑n : Int)), C.p (PV.l 2 E.length (rowP encE E))], AO.row 4 1 n fun e o => renC [0, 1] (rowC encB out e o)]) := by kernel_rfl
theorem tOo10 (n i : Nat) (E : List Ed) (F Y out : List Bool) (fi ro : Bool) : exTs ext0 (lpB (pcs Try.prog Try.f5) 12) (cst 128 [(5, .c (.ptr 0 0)), (6, listV encB 1 F), (7, listV encB 1 Y), (8, .c (.sl 1 1 0 n)), (9, bV fi), (10, bV ro), (14, iV (i : Nat))] [.cells 25 [.p (.i .i64 (n : Nat)), .p (listP encE 2 E)], .row 4 1 n (rowC encB out)]) (endG (msk 128 [5, 6, 7, 8, 9, 10, 14]) (resOf Try.prog Try.f5)) = bT (decide ((↑i : Int) < (↑n : Int)))
    (Tr.rq (0 ≤ (↑i : Int) ∧ (↑i : Int) < (↑Y.length : Int))
      (bT (Y.getD (↑i : Int).toNat default)
        (Tr.rq (0 ≤ (↑i : Int) ∧ (↑i : Int) < (↑F.length : Int))
          (bT (!F.getD (↑i : Int).toNat default) (Tr.done X.ret (St.mk [V.c (C.p (PV.b false))] []))
            (Tr.rq (0 ≤ (↑i : Int) ∧ (↑i : Int) < (↑n : Int))
              (Tr.rq ((↑i : Int).toNat + 0 < n)
                (bT (!out.getD ((↑i : Int).toNat + 0) default) (Tr.done X.ret (St.mk [V.c (C.p (PV.b false))] []))
                  (Tr.rq (0 ≤ (↑i : Int) ∧ (↑i : Int) < (↑F.length : Int))
                    (bT (F.getD (↑i : Int).toNat default)
                      (Tr.rq (0 ≤ (↑i : Int) ∧ (↑i : Int) < (↑Y.length : Int))
                        (bT (!Y.getD (↑i : Int).toNat default)
                          (Tr.rq (0 ≤ (↑i : Int) ∧ (↑i : Int) < (↑n : Int))
                            (Tr.rq ((↑i : Int).toNat + 0 < n)
                              (bT (out.getD ((↑i : Int).toNat + 0) default) (Tr.done X.ret (St.mk [V.c (C.p (PV.b false))] []))
                                (Tr.rq (inR IntKind.i64 ((↑i : Int) + 1))
                                  (Tr.done X.normal
                                    (cst 128 [(5, V.c (C.ptr 0 0)), (6, V.c (C.p (PV.l 1 F.length (rowP encB F)))), (7, V.c (C.p (PV.l 1 Y.length (rowP encB Y)))), (8, V.c (C.sl 1 1 0 n)), (9, V.c (C.p (PV.b fi))), (10, V.c (C.p (PV.b ro))), (14, V.c (C.p (PV.i IntKind.i64 ((↑i : Int) + 1))))] [AO.cells 25 [C.p (PV.i IntKind.i64 (↑n : Int)), C.p (PV.l 2 E.length (rowP encE E))], AO.row 4 1 n fun e o => renC [0, 1] (rowC encB out e o)]))))))
                          (Tr.rq (inR IntKind.i64 ((↑i : Int) + 1))
                            (Tr.done X.normal
                              (cst 128 [(5, V.c (C.ptr 0 0)), (6, V.c (C.p (PV.l 1 F.length (rowP encB F)))), (7, V.c (C.p (PV.l 1 Y.length (rowP encB Y)))), (8, V.c (C.sl 1 1 0 n)), (9, V.c (C.p (PV.b fi))), (10, V.c (C.p (PV.b ro))), (14, V.c (C.p (PV.i IntKind.i64 ((↑i : Int) + 1))))] [AO.cells 25 [C.p (PV.i IntKind.i64 (↑n : Int)), C.p (PV.l 2 E.length (rowP encE E))], AO.row 4 1 n fun e o => renC [0, 1] (rowC encB out e o)])))))
                      (Tr.rq (inR IntKind.i64 ((↑i : Int) + 1))
                        (Tr.done X.normal
                          (cst 128 [(5, V.c (C.ptr 0 0)), (6, V.c (C.p (PV.l 1 F.length (rowP encB F)))), (7, V.c (C.p (PV.l 1 Y.length (rowP encB Y)))), (8, V.c (C.sl 1 1 0 n)), (9, V.c (C.p (PV.b fi))), (10, V.c (C.p (PV.b ro))), (14, V.c (C.p (PV.i IntKind.i64 ((↑i : Int) + 1))))] [AO.cells 25 [C.p (PV.i IntKind.i64 (↑n : Int)), C.p (PV.l 2 E.length (rowP encE E))], AO.row 4 1 n fun e o => renC [0, 1] (rowC encB out e o)]))))))))))
        (Tr.rq (0 ≤ (↑i : Int) ∧ (↑i : Int) < (↑F.length : Int))
          (bT (F.getD (↑i : Int).toNat default)
            (Tr.rq (0 ≤ (↑i : Int) ∧ (↑i : Int) < (↑Y.length : Int))
              (bT (!Y.getD (↑i : Int).toNat default)
                (Tr.rq (0 ≤ (↑i : Int) ∧ (↑i : Int) < (↑n : Int))
                  (Tr.rq ((↑i : Int).toNat + 0 < n)
                    (bT (out.getD ((↑i : Int).toNat + 0) default) (Tr.done X.ret (St.mk [V.c (C.p (PV.b false))] []))
                      (Tr.rq (inR IntKind.i64 ((↑i : Int) + 1))
                        (Tr.done X.normal
                          (cst 128 [(5, V.c (C.ptr 0 0)), (6, V.c (C.p (PV.l 1 F.length (rowP encB F)))), (7, V.c (C.p (PV.l 1 Y.length (rowP encB Y)))), (8, V.c (C.sl 1 1 0 n)), (9, V.c (C.p (PV.b fi))), (10, V.c (C.p (PV.b ro))), (14, V.c (C.p (PV.i IntKind.i64 ((↑i : Int) + 1))))] [AO.cells 25 [C.p (PV.i IntKind.i64 (↑n : Int)), C.p (PV.l 2 E.length (rowP encE E))], AO.row 4 1 n fun e o => renC [0, 1] (rowC encB out e o)]))))))
                (Tr.rq (inR IntKind.i64 ((↑i : Int) + 1))
                  (Tr.done X.normal
                    (cst 128 [(5, V.c (C.ptr 0 0)), (6, V.c (C.p (PV.l 1 F.length (rowP encB F)))), (7, V.c (C.p (PV.l 1 Y.length (rowP encB Y)))), (8, V.c (C.sl 1 1 0 n)), (9, V.c (C.p (PV.b fi))), (10, V.c (C.p (PV.b ro))), (14, V.c (C.p (PV.i IntKind.i64 ((↑i : Int) + 1))))] [AO.cells 25 [C.p (PV.i IntKind.i64 (↑n : Int)), C.p (PV.l 2 E.length (rowP encE E))], AO.row 4 1 n fun e o => renC [0, 1] (rowC encB out e o)])))))
            (Tr.rq (inR IntKind.i64 ((↑i : Int) + 1))
              (Tr.done X.normal
                (cst 128 [(5, V.c (C.ptr 0 0)), (6, V.c (C.p (PV.l 1 F.length (rowP encB F)))), (7, V.c (C.p (PV.l 1 Y.length (rowP encB Y)))), (8, V.c (C.sl 1 1 0 n)), (9, V.c (C.p (PV.b fi))), (10, V.c (C.p (PV.b ro))), (14, V.c (C.p (PV.i IntKind.i64 ((↑i : Int) + 1))))] [AO.cells 25 [C.p (PV.i IntKind.i64 (↑n : Int)), C.p (PV.l 2 E.length (rowP encE E))], AO.row 4 1 n fun e o => renC [0, 1] (rowC encB out e o)])))))))
    (Tr.done (X.exit 4)
      (cst 128 [(5, V.c (C.ptr 0 0)), (6, V.c (C.p (PV.l 1 F.length (rowP encB F)))), (7, V.c (C.p (PV.l 1 Y.length (rowP encB Y)))), (8, V.c (C.sl 1 1 0 n)), (9, V.c (C.p (PV.b fi))), (10, V.c (C.p (PV.b ro))), (14, V.c (C.p (PV.i IntKind.i64 (↑i : Int))))] [AO.cells 25 [C.p (PV.i IntKind.i64 (↑n : Int)), C.p (PV.l 2 E.length (rowP encE E))], AO.row 4 1 n fun e o => renC [0, 1] (rowC encB out e o)])) := by kernel_rfl
theorem tOo11 (n i : Nat) (E : List Ed) (F Y out : List Bool) (fi ro : Bool) : exTs extRoo (dropL 13 (pcs Try.prog Try.f5)) (cst 128 [(5, .c (.ptr 0 0)), (6, listV encB 1 F), (7, listV encB 1 Y), (8, .c (.sl 1 1 0 n)), (9, bV fi), (10, bV ro), (14, iV (i : Nat))] [.cells 25 [.p (.i .i64 (n : Nat)), .p (listP encE 2 E)], .row 4 1 n (rowC encB out)]) (endG [] (resOf Try.prog Try.f5)) = bT (fi == ro) (Tr.rq True (Tr.done X.ret (St.mk [V.c (C.p (PV.b true))] []))) (Tr.done X.ret (St.mk [V.c (C.p (PV.b false))] [])) := by kernel_rfl
section
variable {G : Nat → Option Obj}
theorem extRoo_sound : SoundExt Try.prog G extRoo := extOf_sound (by simp; exact ⟨okAcyclic, okGraph, okFiring, okGInhib, okReachedR, okLives⟩)
set_option maxRecDepth 100000 in
set_option maxHeartbeats 2000000 in
theorem routeRoots_core {n : Nat} {t : Int} {E : List Ed} {F Y : List Bool} (hn : n < 9) (hE : Rises n t E) (hEl : E.length ≤ 12) (hF : F.length = n) (hYl : Y.length = n)
    (hY : ∀ k, k < n → (Y.getD k false = true ↔ (∃ s : Nat, F.getD s false = true ∧ Path E s k) ∧ F.getD k false = true)) :
    ExS Try.prog G (resOf Try.prog Try.f5) (bV true) (dropL 4 (pcs Try.prog Try.f5)) (cst 128 [(5, .c (.ptr 0 0)), (6, listV encB 1 F), (7, listV encB 1 Y)] [.cells 25 [.p (.i .i64 (n : Nat)), .p (listP encE 2 E)]]) fun _ _ => False := by
  have hIn : InN n E := fun e he => by obtain ⟨h1, h2, _⟩ := hE e he; exact ⟨h1.1, h1.2, h2.1, h2.2⟩
  refine ExS.evG ext0_sound 6 (tOo2 n E F Y) ?_
  simp only [holds_bT, holds_rq, holds_leaf, kf_normal, kf_ret', bne_iff_ne, bne_eq_false_iff_eq, show (↑n : Int).toNat = n from rfl]
  refine ⟨fun h => absurd (by omega) h, fun _ => ⟨by omega, ⟨?_⟩⟩⟩
  refine ExS.loop' (l := dropL 10 (pcs Try.prog Try.f5)) (b := inr (inr (nth .skip (pcs Try.prog Try.f5) 10))) (r := dropL 11 (pcs Try.prog Try.f5)) (id := 0) (by kernel_rfl) (σ := Nat × Bool × Bool × List Bool)
    (fun (i, fi, ro, out) => cst 128 [(5, .c (.ptr 0 0)), (6, listV encB 1 F), (7, listV encB 1 Y), (8, .c (.sl 1 1 0 n)), (9, bV fi), (10, bV ro), (11, iV (i : Nat))] [.cells 25 [.p (.i .i64 (n : Nat)), .p (listP encE 2 E)], .row 4 1 n (rowC encB out)])
    (fun (i, fi, ro, out) => i ≤ n ∧ out.length = n ∧ (fi = true ↔ ∃ s : Nat, s < i ∧ F.getD s false = true) ∧ (ro = true ↔ ∃ s : Nat, s < i ∧ F.getD s false = true ∧ Y.getD s false = false) ∧ ∀ k, k < n → (out.getD k false = true ↔ ∃ s : Nat, (s < i ∧ F.getD s false = true ∧ Y.getD s false = false) ∧ Path E s k))
    (fun (i, _, _, _) => n - i) (0, false, false, List.replicate n false)
    ⟨Nat.zero_le _, by simp, ⟨(fun h => by cases h), fun ⟨s, h, _⟩ => absurd h (Nat.not_lt_zero s)⟩, ⟨(fun h => by cases h), fun ⟨s, h, _⟩ => absurd h (Nat.not_lt_zero s)⟩, fun k hk => ⟨fun h => by simp [hk] at h, fun ⟨s, ⟨h, _⟩, _⟩ => absurd h (Nat.not_lt_zero s)⟩⟩
    (weak_cst ⟨rfl, ⟨rfl, rfl, rfl, fun e o he ho => rep_row he ho⟩, trivial⟩) ?_
  rintro ⟨i, fi, ro, out⟩ ⟨hi, ho, hfi, hro, hout⟩ Q q1n q1e -
  refine ExS.evG ext0_sound 2 (tOo3 n i E F Y out fi ro) ?_
  simp only [holds_bT, holds_leaf, kf_normal, kf_exit, decide_eq_true_eq, decide_eq_false_iff_not]
  refine ⟨fun h1 => ⟨?_⟩, fun h1 => ⟨q1e _ ?_⟩⟩
  · have hin : i < n := by omega
    refine ExS.blk' (l := dropL 2 (lpB (pcs Try.prog Try.f5) 10)) (id := 1) (a := inr (nth .skip (lpB (pcs Try.prog Try.f5) 10) 2)) (r := dropL 3 (lpB (pcs Try.prog Try.f5) 10)) (by kernel_rfl) ?_
    intro Q2 q2n q2e _
    have fin : ∀ (fi' ro' : Bool) (out' : List Bool), out'.length = n → (fi' = true ↔ ∃ s : Nat, s < i + 1 ∧ F.getD s false = true) → (ro' = true ↔ ∃ s : Nat, s < i + 1 ∧ F.getD s false = true ∧ Y.getD s false = false) → (∀ k, k < n → (out'.getD k false = true ↔ ∃ s : Nat, (s < i + 1 ∧ F.getD s false = true ∧ Y.getD s false = false) ∧ Path E s k)) →
        ∀ st, WeakS G st ((fun fi ro out => cst 128 [(5, .c (.ptr 0 0)), (6, listV encB 1 F), (7, listV encB 1 Y), (8, .c (.sl 1 1 0 n)), (9, bV fi), (10, bV ro), (11, iV (i : Nat))] [.cells 25 [.p (.i .i64 (n : Nat)), .p (listP encE 2 E)], .row 4 1 n (rowC encB out)]) fi' ro' out') → ExS Try.prog G (resOf Try.prog Try.f5) (bV true) (dropL 3 (lpB (pcs Try.prog Try.f5) 10)) st Q := fun fi' ro' out' g1 g2 g3 g4 st hst => by
      refine ExS.pre hst (ExS.evH ext0_sound (tOo8 n i E F Y out' fi' ro') ?_)
      simp only [holds_rq, holds_leaf, kf_normal, inR]
      exact ⟨by omega, ⟨q1n (i + 1, fi', ro', out') _ ⟨by omega, g1, g2, g3, g4⟩ (by simp only; omega) (weak_of_eq (by kernel_rfl))⟩⟩
    have ls : ∀ p : Nat → Prop, (∃ s : Nat, s < i + 1 ∧ p s) ↔ (∃ s : Nat, s < i ∧ p s) ∨ p i := fun p => by
      constructor
      · rintro ⟨s, h1, h2⟩
        by_cases e : s = i
        · subst e; exact .inr h2
        · exact .inl ⟨s, by omega, h2⟩
      · rintro (⟨s, h1, h2⟩ | h)
        · exact ⟨s, by omega, h2⟩
        · exact ⟨i, by omega, h⟩
    have next : ∀ (fi' c : Bool), (fi' = true ↔ ∃ s : Nat, s < i + 1 ∧ F.getD s false = true) → (c = true ↔ F.getD i false = true ∧ Y.getD i false = false) → ∀ st, WeakS G st ((fun fi => cst 128 [(5, .c (.ptr 0 0)), (6, listV encB 1 F), (7, listV encB 1 Y), (8, .c (.sl 1 1 0 n)), (9, bV fi), (10, bV ro), (11, iV (i : Nat)), (56, bV c)] [.cells 25 [.p (.i .i64 (n : Nat)), .p (listP encE 2 E)], .row 4 1 n (rowC encB out)]) fi') → ExS Try.prog G (resOf Try.prog Try.f5) (bV true) (dropL 2 (flat (inr (nth .skip (lpB (pcs Try.prog Try.f5) 10) 2)))) st Q2 := fun fi' c hfi' hc st hst => by
      refine ExS.pre hst (ExS.cond (k := 56) (a := cndA (nth .skip (flat (inr (nth .skip (lpB (pcs Try.prog Try.f5) 10) 2))) 2)) (b := cndB (nth .skip (flat (inr (nth .skip (lpB (pcs Try.prog Try.f5) 10) 2))) 2)) (r := []) (x := c) (by kernel_rfl) (by kernel_rfl) ?_ ?_)
      · rintro rfl Q3 q3n q3e
        obtain ⟨hFi, hYi⟩ := hc.1 rfl
        refine ExS.pre (weak_of_eq (st' := (fun fi c => cst 128 [(5, .c (.ptr 0 0)), (6, listV encB 1 F), (7, listV encB 1 Y), (8, .c (.sl 1 1 0 n)), (9, bV fi), (10, bV ro), (11, iV (i : Nat)), (56, bV c)] [.cells 25 [.p (.i .i64 (n : Nat)), .p (listP encE 2 E)], .row 4 1 n (rowC encB out)]) fi' true) (by kernel_rfl)) ?_
        refine ExS.evG extRoo_sound 3 (tOo5 n i E F Y out fi' ro) ?_
        simp only [holds_rq, holds_leaf, kf_normal, decE_row, isL_row, true_and, show (↑n : Int).toNat = n from rfl]
        refine ⟨⟨by omega, by omega, hIn⟩, ⟨?_⟩⟩
        generalize hrr : rc1 n E ↑i = rr
        have hrl : rr.length = n := by rw [← hrr, rc1_length]
        have hra : ∀ k, k < n → (rr.getD k false = true ↔ Path E i k) := fun k hk => by rw [← hrr]; exact rc1_at hk
        refine ExS.loop' (l := dropL 3 (flat (cndA (nth .skip (flat (inr (nth .skip (lpB (pcs Try.prog Try.f5) 10) 2))) 2)))) (b := inr (inr (nth .skip (flat (cndA (nth .skip (flat (inr (nth .skip (lpB (pcs Try.prog Try.f5) 10) 2))) 2))) 3))) (r := []) (id := 2) (by kernel_rfl) (σ := Nat × List Bool)
          (fun (k, out) => (fun fi => cst 128 [(5, .c (.ptr 0 0)), (6, listV encB 1 F), (7, listV encB 1 Y), (8, .c (.sl 1 1 0 n)), (9, bV fi), (10, bV true), (11, iV (i : Nat)), (12, listV encB 1 rr), (13, iV (k : Nat))] [.cells 25 [.p (.i .i64 (n : Nat)), .p (listP encE 2 E)], .row 4 1 n (rowC encB out)]) fi') (fun (k, out1) => k ≤ n ∧ out1.length = n ∧ ∀ j, j < n → out1.getD j false = (out.getD j false || (decide (j < k) && rr.getD j false))) (fun (k, _) => n - k) (0, out) ⟨Nat.zero_le _, ho, fun j hj => by simp⟩ (weak_of_eq (by kernel_rfl)) ?_
        rintro ⟨k, out1⟩ ⟨hk, ho1, hI1⟩ Q4 q4n q4e -
        refine ExS.evH ext0_sound (tOo6 n i k E F Y out1 rr fi') ?_
        have step : ∀ x : Bool, k < n → x = (out1.getD k false || rr.getD k false) → ∀ st, WeakS G st ((fun k out fi => cst 128 [(5, .c (.ptr 0 0)), (6, listV encB 1 F), (7, listV encB 1 Y), (8, .c (.sl 1 1 0 n)), (9, bV fi), (10, bV true), (11, iV (i : Nat)), (12, listV encB 1 rr), (13, iV (k : Nat))] [.cells 25 [.p (.i .i64 (n : Nat)), .p (listP encE 2 E)], .row 4 1 n (rowC encB out)]) (k + 1) (out1.set k x) fi') → Q4 .normal st := fun x h2 hx st hst =>
          q4n (k + 1, out1.set k x) st ⟨by omega, by simp [ho1], fun j hj => by
            rw [getD_set_x (by omega)]
            by_cases e : j = k
            · subst e
              rw [if_pos rfl, hx, hI1 j hj, decide_eq_false (Nat.lt_irrefl j), decide_eq_true (Nat.lt_succ_self j), Bool.false_and, Bool.or_false, Bool.true_and]
            · rw [if_neg e, hI1 j hj]
              have : decide (j < k + 1) = decide (j < k) := by rw [decide_eq_decide]; omega
              rw [this]⟩ (by simp only; omega) hst
        simp only [holds_bT, holds_rq, holds_leaf, kf_normal, kf_exit, decide_eq_true_eq, decide_eq_false_iff_not, inR, show (↑k : Int).toNat = k from rfl, show ∀ x : Nat, x + 0 = x from fun _ => rfl, show (default : Bool) = false from rfl]
        refine ⟨fun h2 => ⟨by omega, by omega, fun c1 => ⟨by omega, by omega, by omega, ⟨?_⟩⟩, fun c1 => ⟨by omega, by omega, by omega, by omega, ⟨?_⟩⟩⟩, fun h2 => ⟨q4e _ ⟨_, WeakS.refl _, q3n _ ⟨_, WeakS.refl _, q2n _ ?_⟩⟩⟩⟩
        · exact step true (by omega) (by rw [c1]; rfl) _ (weak_cst (by exact ⟨rfl, ⟨rfl, rfl, rfl, fun e o he ho' => set1 (ρ := [0, 1]) ho1 (show k < n by omega) rfl he ho'⟩, trivial⟩))
        · exact step (rr.getD k false) (by omega) (by rw [c1]; rfl) _ (weak_cst (by exact ⟨rfl, ⟨rfl, rfl, rfl, fun e o he ho' => set1 (ρ := [0, 1]) ho1 (show k < n by omega) rfl he ho'⟩, trivial⟩))
        · obtain rfl : k = n := by omega
          refine fin fi' true out1 ho1 hfi' ⟨fun _ => ⟨i, by omega, hFi, hYi⟩, fun _ => rfl⟩ (fun j hj => ?_) _ ((weak_gc (msk 128 [5, 6, 7, 8, 9, 10, 11]) _).trans (weak_of_eq (by kernel_rfl)))
          rw [hI1 j hj, Bool.or_eq_true, Bool.and_eq_true, decide_eq_true_iff, hra j hj, hout j hj]
          constructor
          · rintro (⟨s, ⟨a1, a2⟩, a3⟩ | ⟨_, a⟩)
            · exact ⟨s, ⟨by omega, a2⟩, a3⟩
            · exact ⟨i, ⟨by omega, hFi, hYi⟩, a⟩
          · rintro ⟨s, ⟨a1, a2⟩, a3⟩
            by_cases e : s = i
            · subst e; exact .inr ⟨hj, a3⟩
            · exact .inl ⟨s, ⟨by omega, a2⟩, a3⟩
      · rintro rfl Q3 q3n q3e
        have hno : ¬ (F.getD i false = true ∧ Y.getD i false = false) := fun h => by cases hc.2 h
        refine ExS.pre (weak_of_eq (st' := (fun fi c => cst 128 [(5, .c (.ptr 0 0)), (6, listV encB 1 F), (7, listV encB 1 Y), (8, .c (.sl 1 1 0 n)), (9, bV fi), (10, bV ro), (11, iV (i : Nat)), (56, bV c)] [.cells 25 [.p (.i .i64 (n : Nat)), .p (listP encE 2 E)], .row 4 1 n (rowC encB out)]) fi' false) (by kernel_rfl)) ?_
        refine ExS.evH ext0_sound (tOo7 n i E F Y out fi' ro) ?_
        simp only [holds_leaf, kf_normal]
        refine ⟨q3n _ ⟨_, WeakS.refl _, q2n _ (fin fi' ro out ho hfi' ?_ ?_ _ (weak_of_eq (by kernel_rfl)))⟩⟩
        · rw [hro, ls]
          exact ⟨.inl, fun h => h.resolve_right hno⟩
        · intro k hk
          rw [hout k hk]
          constructor
          · rintro ⟨s, ⟨a1, a2⟩, a3⟩; exact ⟨s, ⟨by omega, a2⟩, a3⟩
          · rintro ⟨s, ⟨a1, a2⟩, a3⟩
            have : s ≠ i := fun e => hno (e ▸ a2)
            exact ⟨s, ⟨by omega, a2⟩, a3⟩
    refine ExS.evG ext0_sound 2 (tOo4 n i E F Y out fi ro) ?_
    simp only [holds_bT, holds_rq, holds_leaf, kf_normal, show (↑i : Int).toNat = i from rfl, show (default : Bool) = false from rfl]
    have hcs : F.getD i false = true → ((!Y.getD i false) = true ↔ F.getD i false = true ∧ Y.getD i false = false) := fun h => ⟨fun a => ⟨h, by rwa [Bool.not_eq_true'] at a⟩, fun a => by rw [a.2]; rfl⟩
    have hcf : F.getD i false = false → (false = true ↔ F.getD i false = true ∧ Y.getD i false = false) := fun h => ⟨(fun h => by cases h), fun h' => by rw [h] at h'; cases h'.1⟩
    refine ⟨fun c1 => ⟨by omega, fun c2 => ⟨by omega, ⟨next true (!Y.getD i false) ?_ (hcs c2) _ (weak_of_eq (by kernel_rfl))⟩⟩, fun c2 => ⟨next true false ?_ (hcf c2) _ (weak_of_eq (by kernel_rfl))⟩⟩, fun c1 => ⟨by omega, by omega, fun c2 => ⟨by omega, ⟨next (F.getD i false) (!Y.getD i false) ?_ (hcs c2) _ (weak_of_eq (by kernel_rfl))⟩⟩, fun c2 => ⟨next (F.getD i false) false ?_ (hcf c2) _ (weak_of_eq (by kernel_rfl))⟩⟩⟩
    · rw [ls, ← hfi]; exact ⟨fun _ => .inl c1, fun _ => rfl⟩
    · rw [ls, ← hfi]; exact ⟨fun _ => .inl c1, fun _ => rfl⟩
    · rw [ls, ← hfi, c1]; simp
    · rw [ls, ← hfi, c1]; simp
  · obtain rfl : i = n := by omega
    have root : ∀ s : Nat, F.getD s false = true → s < i := fun s h => by
      by_cases e : s < i
      · exact e
      · rw [List.getD_eq_getElem?_getD, List.getElem?_eq_none (by omega)] at h; cases h
    have hYr : ∀ s, F.getD s false = true → (Y.getD s false = false ↔ ¬ ∃ q : Nat, F.getD q false = true ∧ Path E q s) := fun s h => by
      rw [← Bool.not_eq_true, hY s (root s h)]
      exact ⟨fun a b => a ⟨b, h⟩, fun a b => a b.1⟩
    have up : ∀ s : Nat, F.getD s false = true → ∃ r : Nat, (F.getD r false = true ∧ Y.getD r false = false) ∧ (r = s ∨ Path E r s) := fun s h => by
      have hp : 0 < (i : Int) := by have := root s h; omega
      obtain ⟨r, r1, r2, r3⟩ := root_above hp hE (by omega) i s (Int.emod_lt_of_pos _ hp) h
      exact ⟨r, ⟨r1, (hYr r r1).2 r2⟩, r3⟩
    have hfr : fi = ro := by
      rw [Bool.eq_iff_iff, hfi, hro]
      constructor
      · rintro ⟨s, _, a⟩
        obtain ⟨r, r1, _⟩ := up s a
        exact ⟨r, root r r1.1, r1⟩
      · rintro ⟨s, a, b, _⟩; exact ⟨s, a, b⟩
    refine ExS.evG ext0_sound 1 (tOo9 i i E F Y out fi ro) ?_
    simp only [holds_leaf, kf_normal]
    refine ⟨?_⟩
    refine ExS.loop' (l := dropL 12 (pcs Try.prog Try.f5)) (b := inr (inr (nth .skip (pcs Try.prog Try.f5) 12))) (r := dropL 13 (pcs Try.prog Try.f5)) (id := 4) (by kernel_rfl) (σ := Nat)
      (fun j => (fun n i => cst 128 [(5, .c (.ptr 0 0)), (6, listV encB 1 F), (7, listV encB 1 Y), (8, .c (.sl 1 1 0 n)), (9, bV fi), (10, bV ro), (14, iV (i : Nat))] [.cells 25 [.p (.i .i64 (n : Nat)), .p (listP encE 2 E)], .row 4 1 n (rowC encB out)]) i j) (fun j => j ≤ i) (fun j => i - j) 0 (Nat.zero_le _) (weak_of_eq (by kernel_rfl)) ?_
    intro j hj Q5 q5n q5e _
    refine ExS.evH ext0_sound (tOo10 i j E F Y out fi ro) ?_
    simp only [holds_bT, holds_rq, holds_leaf, kf_normal, kf_exit, kf_ret', decide_eq_true_eq, decide_eq_false_iff_not, inR, show (↑j : Int).toNat = j from rfl, show ∀ x : Nat, x + 0 = x from fun _ => rfl, show (default : Bool) = false from rfl, Bool.not_eq_true', Bool.not_eq_false']
    have nx : j < i → ∀ st, WeakS G st ((fun n i => cst 128 [(5, .c (.ptr 0 0)), (6, listV encB 1 F), (7, listV encB 1 Y), (8, .c (.sl 1 1 0 n)), (9, bV fi), (10, bV ro), (14, iV (i : Nat))] [.cells 25 [.p (.i .i64 (n : Nat)), .p (listP encE 2 E)], .row 4 1 n (rowC encB out)]) i (j + 1)) → Q5 .normal st := fun h st hst => q5n (j + 1) st (by omega) (by omega) hst
    have b1 : j < i → Y.getD j false = true → F.getD j false = true ∧ out.getD j false = true := fun h1 h2 => by
      obtain ⟨⟨s, s1, s2⟩, s3⟩ := (hY j h1).1 h2
      refine ⟨s3, (hout j h1).2 ?_⟩
      obtain ⟨r, r1, r2⟩ := up s s1
      refine ⟨r, ⟨root r r1.1, r1⟩, ?_⟩
      rcases r2 with rfl | r2
      · exact s2
      · exact r2.trans s2
    have b2 : j < i → F.getD j false = true → Y.getD j false = false → out.getD j false = true → False := fun h1 h2 h3 h4 => by
      obtain ⟨s, ⟨_, s1, _⟩, s2⟩ := (hout j h1).1 h4
      rw [(hY j h1).2 ⟨⟨s, s1, s2⟩, h2⟩] at h3; cases h3
    refine ⟨fun h2 => ?_, fun h2 => ⟨q5e _ ?_⟩⟩
    · have hji : j < i := by omega
      have lf : Leaf (Q5 .normal ((fun n i => cst 128 [(5, .c (.ptr 0 0)), (6, listV encB 1 F), (7, listV encB 1 Y), (8, .c (.sl 1 1 0 n)), (9, bV fi), (10, bV ro), (14, iV (i : Nat))] [.cells 25 [.p (.i .i64 (n : Nat)), .p (listP encE 2 E)], .row 4 1 n (rowC encB out)]) i (j + 1))) := ⟨nx hji _ (WeakS.refl _)⟩
      refine ⟨by omega, fun c1 => ?_, fun c1 => ?_⟩
      · obtain ⟨d1, d2⟩ := b1 hji c1
        refine ⟨by omega, fun c2 => ?_, fun c2 => ⟨by omega, by omega, fun c3 => ?_, fun c3 => ⟨by omega, fun c4 => ⟨by omega, fun c5 => ?_, fun c5 => ⟨by omega, lf⟩⟩, fun c4 => ⟨by omega, lf⟩⟩⟩⟩
        · rw [d1] at c2; cases c2
        · rw [d2] at c3; cases c3
        · rw [c1] at c5; cases c5
      · refine ⟨by omega, fun c2 => ⟨by omega, fun c3 => ⟨by omega, by omega, fun c4 => (b2 hji c2 c1 c4).elim, fun c4 => ⟨by omega, lf⟩⟩, fun c3 => ⟨by omega, lf⟩⟩, fun c2 => ⟨by omega, lf⟩⟩
    · refine ExS.evH extRoo_sound (tOo11 i j E F Y out fi ro) ?_
      simp only [holds_bT, holds_rq, holds_leaf, kf_ret', hfr, beq_self_eq_true, Bool.true_eq_false, false_imp_iff, true_imp_iff, and_true, true_and]
      exact ⟨VLe.refl _⟩
set_option maxRecDepth 100000 in
theorem routeRoots_fn {L : List Int} {b : Int} (hI : Ints L) (hb : inR .i64 b) (h : List AO) : FnS Try.prog G 5 [listV encI 1 L, iV b] h fun x h' => x = bV true ∧ h' = h := by
  refine fn_S Try.func5 (by kernel_rfl) rfl ?_ h
  have h2 := acN_range L
  have hlen := acG_length L
  refine ExS.evG extRoo_sound 4 (tOo1 L b) ?_
  simp only [holds_rq, holds_leaf, kf_normal, decI_row, decE_row, decB_row, isL_row, true_and, and_true]
  refine ⟨hI, ⟨⟨by omega, by omega⟩, hb⟩, ⟨by omega, by rw [firing_length]; omega⟩, ⟨?_⟩⟩
  have hv := acG_valid L
  have hr := (acG_ok L).1
  obtain ⟨n, hn⟩ : ∃ n : Nat, acN L = n := ⟨(acN L).toNat, by omega⟩
  generalize acG L = E at *
  rw [hn] at hv hr h2 ⊢
  have hval : inhZ (n : Int) E (firing (n : Int).toNat b) = inh n E (firing n b) := by
    unfold inhZ
    rw [if_pos ⟨hv, by rw [firing_length]; rfl⟩, firing_length]; rfl
  rw [hval]
  exact routeRoots_core (by omega) hr hlen (firing_length n b) (inh_length _ _ _) (fun k hk => inh_at hk)
end
end Go.AE
