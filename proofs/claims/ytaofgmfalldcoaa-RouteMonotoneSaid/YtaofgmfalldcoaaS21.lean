/- AE: route.Inhibited with a new list; the law RouteMonotone. -/
import Derived.Test.YtaofgmfalldcoaaS16
import Derived.Test.YtaofgmfalldcoaaGr3
import Derived.Test.YtaofgmfalldcoaaAe30
namespace Go.AE
open Go.Proofs Go.Proofs.Ytaofgmfalldcoaa
set_option linter.unusedVariables false
set_option linter.unusedSimpArgs false
noncomputable def mGInhibX : ModH
  | [.a [.p (.i .i64 N), .p (.l 2 n f)], .c (.p (.l 1 m g))], h => some ((IsL encE 2 (decL decE n f) n f ∧ n ≤ 1000000) ∧ (IsL encB 1 (decL decB m g) m g ∧ m ≤ 1000000) ∧ validZ N (decL decE n f) = 0 ∧ (m : Int) = N, .c (.sl (lenL h) 1 0 m), snoc (.row 4 1 m fun e o => .p (rowP encB (inh m (decL decE n f) (decL decB m g)) e o)) h)
  | _, _ => none
noncomputable def mGInhib0 : Mod
  | [.a [.p (.i .i64 N), .p (.l 2 n f)], .c (.p (.l 1 m g))] => some ((IsL encE 2 (decL decE n f) n f ∧ n ≤ 1000000) ∧ (IsL encB 1 (decL decB m g) m g ∧ m ≤ 1000000) ∧ ¬ validZ N (decL decE n f) = 0, .c (.p (.z (.slice none 0 0))))
  | _ => none
noncomputable def extMo : Ext := mutX 18 mGInhibX (extH [(20, liftM mAcyclic), (13, liftM mGraph), (16, mFiringH), (11, liftM mAround), (12, liftM mGValid), (15, liftM mLives)])
noncomputable def extMo0 : Ext := mutX 18 (liftM mGInhib0) (extH [(12, liftM mGValid)])

theorem tIx1 (N : Int) (E : List Ed) (F : List Bool) : exTs extGV (takeL 3 (pcs Try.prog Try.f18)) (st0 Try.f18 [gZ N E, listV encB 1 F]) (endG (msk 40 [1, 2]) []) = Tr.rq (IsL encE 2 (decL decE E.length (rowP encE E)) E.length (rowP encE E) ∧ E.length ≤ 1000000)
    (bT (validZ N (decL decE E.length (rowP encE E)) != 0) (Tr.done X.ret (St.mk [V.t []] []))
      (bT ((↑F.length : Int) != N) (Tr.done X.ret (St.mk [V.t []] []))
        (Tr.done X.normal
          (cst 40 [(1, V.c (C.p (PV.l 1 F.length (rowP encB F)))), (2, V.c (C.ptr 0 0))] [AO.cells 31 [C.p (PV.i IntKind.i64 N), C.p (PV.l 2 E.length (rowP encE E))]])))) := by kernel_rfl
theorem tIx2 (n : Nat) (E : List Ed) (F : List Bool) : exTs extGV (takeL 2 (dropL 3 (pcs Try.prog Try.f18))) (cst 40 [(1, listV encB 1 F), (2, .c (.ptr 0 0))] [.cells 31 [.p (.i .i64 (n : Nat)), .p (listP encE 2 E)]]) (endG (msk 40 [1, 2, 5, 21, 22]) []) = Tr.rq
    (((0 ≤ (↑n : Int) ∧ (↑n : Int) ≤ 1000000) ∧ IsL encE 2 (decL decE E.length (rowP encE E)) E.length (rowP encE E) ∧ E.length ≤ 1000000 ∧ InN (↑n : Int).toNat (decL decE E.length (rowP encE E))) ∧
      IsL encB 1 (decL decB F.length (rowP encB F)) F.length (rowP encB F) ∧ F.length = (↑n : Int).toNat)
    (Tr.done X.normal
      (cst 40 [(1, V.c (C.p (PV.l 1 F.length (rowP encB F)))), (2, V.c (C.ptr 0 0)), (5, V.c (C.sl 1 1 0 (↑n : Int).toNat)), (21, V.c (C.p (PV.i IntKind.i64 (↑n : Int)))), (22, V.c (C.p (PV.i IntKind.i64 0)))] [AO.cells 31 [C.p (PV.i IntKind.i64 (↑n : Int)), C.p (PV.l 2 E.length (rowP encE E))], AO.row 4 1 (↑n : Int).toNat fun e o => renC [0, 1] (C.p (PV.b ((rcS (↑n : Int).toNat (decL decE E.length (rowP encE E)) (decL decB F.length (rowP encB F))).getD e default)))])) := by kernel_rfl
theorem tIx3 (n i : Nat) (E : List Ed) (F out : List Bool) : exTs ext0 (lpB (pcs Try.prog Try.f18) 5) (cst 40 [(1, listV encB 1 F), (2, .c (.ptr 0 0)), (5, .c (.sl 1 1 0 n)), (21, iV (n : Nat)), (22, iV (i : Nat))] [.cells 31 [.p (.i .i64 (n : Nat)), .p (listP encE 2 E)], .row 4 1 n (rowC encB out)]) (endG (msk 40 [1, 2, 5, 21, 22]) []) = bT (decide ((↑i : Int) < (↑n : Int)))
    (Tr.rq (0 ≤ (↑i : Int) ∧ (↑i : Int) < (↑n : Int))
      (Tr.rq ((↑i : Int).toNat + 0 < n)
        (bT (out.getD ((↑i : Int).toNat + 0) default)
          (Tr.rq (0 ≤ (↑i : Int) ∧ (↑i : Int) < (↑F.length : Int))
            (Tr.rq (0 ≤ (↑i : Int) ∧ (↑i : Int) < (↑n : Int))
              (Tr.rq ((↑i : Int).toNat + 0 < n)
                (Tr.rq (inR IntKind.i64 ((↑i : Int) + 1))
                  (Tr.done X.normal
                    (cst 40 [(1, V.c (C.p (PV.l 1 F.length (rowP encB F)))), (2, V.c (C.ptr 0 0)), (5, V.c (C.sl 1 1 0 n)), (21, V.c (C.p (PV.i IntKind.i64 (↑n : Int)))), (22, V.c (C.p (PV.i IntKind.i64 ((↑i : Int) + 1))))] [AO.cells 31 [C.p (PV.i IntKind.i64 (↑n : Int)), C.p (PV.l 2 E.length (rowP encE E))], AO.row 4 1 n fun e o => renC [0, 1] (if e = (↑i : Int).toNat + 0 then if 0 ≤ o ∧ o < 1 then nth C.top [C.p (PV.b (F.getD (↑i : Int).toNat default))] (o - 0) else rowC encB out e o else rowC encB out e o)]))))))
          (Tr.rq (0 ≤ (↑i : Int) ∧ (↑i : Int) < (↑n : Int))
            (Tr.rq ((↑i : Int).toNat + 0 < n)
              (Tr.rq (inR IntKind.i64 ((↑i : Int) + 1))
                (Tr.done X.normal
                  (cst 40 [(1, V.c (C.p (PV.l 1 F.length (rowP encB F)))), (2, V.c (C.ptr 0 0)), (5, V.c (C.sl 1 1 0 n)), (21, V.c (C.p (PV.i IntKind.i64 (↑n : Int)))), (22, V.c (C.p (PV.i IntKind.i64 ((↑i : Int) + 1))))] [AO.cells 31 [C.p (PV.i IntKind.i64 (↑n : Int)), C.p (PV.l 2 E.length (rowP encE E))], AO.row 4 1 n fun e o => renC [0, 1] (if e = (↑i : Int).toNat + 0 then if 0 ≤ o ∧ o < 1 then nth C.top [C.p (PV.b false)] (o - 0) else rowC encB out e o else rowC encB out e o)]))))))))
    (Tr.done (X.exit 0)
      (cst 40 [(1, V.c (C.p (PV.l 1 F.length (rowP encB F)))), (2, V.c (C.ptr 0 0)), (5, V.c (C.sl 1 1 0 n)), (21, V.c (C.p (PV.i IntKind.i64 (↑n : Int)))), (22, V.c (C.p (PV.i IntKind.i64 (↑i : Int))))] [AO.cells 31 [C.p (PV.i IntKind.i64 (↑n : Int)), C.p (PV.l 2 E.length (rowP encE E))], AO.row 4 1 n fun e o => renC [0, 1] (rowC encB out e o)])) := by kernel_rfl
theorem tIx4 (n i : Nat) (E : List Ed) (F out : List Bool) : exTs ext0 (takeL 1 (dropL 6 (pcs Try.prog Try.f18))) (cst 40 [(1, listV encB 1 F), (2, .c (.ptr 0 0)), (5, .c (.sl 1 1 0 n)), (21, iV (n : Nat)), (22, iV (i : Nat))] [.cells 31 [.p (.i .i64 (n : Nat)), .p (listP encE 2 E)], .row 4 1 n (rowC encB out)]) (endG (msk 40 [4]) []) = Tr.done X.normal
    (cst 40 [(4, V.c (C.sl 0 1 0 n))] [AO.row 4 1 n fun e o => renC [1] (rowC encB out e o)]) := by kernel_rfl
theorem tM1 (L : List Int) (b fr to sp : Int) : exTs extMo (takeL 3 (pcs Try.prog Try.f6)) (st0 Try.f6 [listV encI 1 L, iV b, iV fr, iV to, iV sp]) (endG (msk 154 [2, 3, 4, 11, 12]) (resOf Try.prog Try.f6)) = Tr.rq (IsL encI 1 (decL decI L.length (rowP encI L)) L.length (rowP encI L) ∧ Ints (decL decI L.length (rowP encI L)))
    (Tr.rq True
      (Tr.rq ((0 ≤ acN (decL decI L.length (rowP encI L)) ∧ acN (decL decI L.length (rowP encI L)) ≤ 1000000) ∧ inR IntKind.i64 b)
        (Tr.done X.normal
          (cst 154 [(2, V.c (C.p (PV.i IntKind.i64 fr))), (3, V.c (C.p (PV.i IntKind.i64 to))), (4, V.c (C.p (PV.i IntKind.i64 sp))), (11, V.c (C.ptr 0 0)), (12, V.c (C.sl 1 1 0 (acN (decL decI L.length (rowP encI L))).toNat))] [AO.cells 31 [C.p (PV.i IntKind.i64 (acN (decL decI L.length (rowP encI L)))), C.p (PV.l 2 (acG (decL decI L.length (rowP encI L))).length (rowP encE (acG (decL decI L.length (rowP encI L)))))], AO.row 4 1 (acN (decL decI L.length (rowP encI L))).toNat fun e o => renC [0, 1] (C.p (PV.b ((firing (acN (decL decI L.length (rowP encI L))).toNat b).getD e default)))])))) := by kernel_rfl
theorem tM2 (n : Nat) (E : List Ed) (F : List Bool) (fr to sp : Int) : exTs extMo (takeL 1 (dropL 3 (pcs Try.prog Try.f6))) (cst 154 [(2, iV fr), (3, iV to), (4, iV sp), (11, .c (.ptr 0 0)), (12, .c (.sl 1 1 0 n))] [.cells 31 [.p (.i .i64 (n : Nat)), .p (listP encE 2 E)], .row 4 1 n (rowC encB F)]) (endG (msk 154 [2, 3, 4, 11, 12, 13]) (resOf Try.prog Try.f6)) = Tr.rq (0 + n ≤ n ∧ ∀ (e o : Nat), e < n → o < 1 → isF (rowC encB F e o) = true)
    (Tr.rq
      (((IsL encE 2 (decL decE E.length (rowP encE E)) E.length (rowP encE E) ∧ E.length ≤ 1000000) ∧
          ((IsL encB 1 (decL decB n fun e o => unP (rowC encB F (e + 0) o)) n fun e o => unP (rowC encB F (e + 0) o)) ∧ n ≤ 1000000) ∧
            validZ (↑n : Int) (decL decE E.length (rowP encE E)) = 0 ∧ (↑n : Int) = (↑n : Int)) ∧
        n = n ∧ ∀ (e o : Nat), e < n → o < 1 → scC (C.p (rowP encB (inh n (decL decE E.length (rowP encE E)) (decL decB n fun e o => unP (rowC encB F (e + 0) o))) e o)) = true)
      (Tr.done X.normal
        (cst 154 [(2, V.c (C.p (PV.i IntKind.i64 fr))), (3, V.c (C.p (PV.i IntKind.i64 to))), (4, V.c (C.p (PV.i IntKind.i64 sp))), (11, V.c (C.ptr 0 0)), (12, V.c (C.sl 1 1 0 n)), (13, V.c (C.sl 2 1 0 n))] [AO.cells 31 [C.p (PV.i IntKind.i64 (↑n : Int)), C.p (PV.l 2 E.length (rowP encE E))], AO.row 4 1 n fun e o => renC [0, 1, 2] (rowC encB F e o), AO.row 4 1 n fun e o => renC [0, 1, 2] (C.p (PV.b ((inh n (decL decE E.length (rowP encE E)) (decL decB n fun e o => unP (rowC encB F (e + 0) o))).getD e default)))]))) := by kernel_rfl
theorem tM3 (n : Nat) (E : List Ed) (F Y : List Bool) (fr to sp : Int) : exTs extMo (takeL 2 (dropL 4 (pcs Try.prog Try.f6))) (cst 154 [(2, iV fr), (3, iV to), (4, iV sp), (11, .c (.ptr 0 0)), (12, .c (.sl 1 1 0 n)), (13, listV encB 1 Y)] [.cells 31 [.p (.i .i64 (n : Nat)), .p (listP encE 2 E)], .row 4 1 n (rowC encB F)]) (endG (msk 154 [2, 3, 4, 11, 12, 13]) (resOf Try.prog Try.f6)) = bT ((↑n : Int) == 0)
    (bT ((↑n : Int) == 0) (bT ((↑Y.length : Int) == 0) (Tr.rq True (Tr.done X.ret (St.mk [V.c (C.p (PV.b true))] []))) (Tr.done X.ret (St.mk [V.c (C.p (PV.b false))] [])))
      (Tr.done X.ret (St.mk [V.c (C.p (PV.b false))] [])))
    (bT ((↑Y.length : Int) != (↑n : Int))
      (bT ((↑n : Int) == 0) (bT ((↑Y.length : Int) == 0) (Tr.rq True (Tr.done X.ret (St.mk [V.c (C.p (PV.b true))] []))) (Tr.done X.ret (St.mk [V.c (C.p (PV.b false))] [])))
        (Tr.done X.ret (St.mk [V.c (C.p (PV.b false))] [])))
      (Tr.done X.normal
        (cst 154 [(2, V.c (C.p (PV.i IntKind.i64 fr))), (3, V.c (C.p (PV.i IntKind.i64 to))), (4, V.c (C.p (PV.i IntKind.i64 sp))), (11, V.c (C.ptr 0 0)), (12, V.c (C.sl 1 1 0 n)), (13, V.c (C.p (PV.l 1 Y.length (rowP encB Y))))] [AO.cells 31 [C.p (PV.i IntKind.i64 (↑n : Int)), C.p (PV.l 2 E.length (rowP encE E))], AO.row 4 1 n fun e o => renC [0, 1] (rowC encB F e o)]))) := by kernel_rfl
theorem tM4 (n : Nat) (E : List Ed) (F Y : List Bool) (fr to sp : Int) : exTs extMo (takeL 2 (dropL 6 (pcs Try.prog Try.f6))) (cst 154 [(2, iV fr), (3, iV to), (4, iV sp), (11, .c (.ptr 0 0)), (12, .c (.sl 1 1 0 n)), (13, listV encB 1 Y)] [.cells 31 [.p (.i .i64 (n : Nat)), .p (listP encE 2 E)], .row 4 1 n (rowC encB F)]) (endG (msk 154 [2, 3, 4, 11, 12, 13, 14]) (resOf Try.prog Try.f6)) = Tr.rq ((0 + E.length) * 16 ≤ 140737488355328 ∧ 0 + E.length ≤ 140737488355328 ∧ ∀ (e o : Nat), e < E.length → o < 2 → oneC (C.p (rowP encE E e o)) = true)
    (Tr.done X.normal
      (cst 154 [(2, V.c (C.p (PV.i IntKind.i64 fr))), (3, V.c (C.p (PV.i IntKind.i64 to))), (4, V.c (C.p (PV.i IntKind.i64 sp))), (11, V.c (C.ptr 0 0)), (12, V.c (C.sl 1 1 0 n)), (13, V.c (C.p (PV.l 1 Y.length (rowP encB Y)))), (14, V.c (C.sl 2 2 0 (0 + E.length)))] [AO.cells 31 [C.p (PV.i IntKind.i64 (↑n : Int)), C.p (PV.l 2 E.length (rowP encE E))], AO.row 4 1 n fun e o => renC [0, 1, 2] (rowC encB F e o), AO.row 27 2 (0 + E.length) fun e o => renC [0, 1, 2] (appF 0 (fun x x_1 => C.top) (fun e o => C.p (rowP encE E e o)) e o)])) := by kernel_rfl
theorem tM5 (n m : Nat) (E E1 : List Ed) (F Y : List Bool) (fr to sp : Int) : exTs extMo (takeL 1 (dropL 8 (pcs Try.prog Try.f6))) (cst 154 [(2, iV fr), (3, iV to), (4, iV sp), (11, .c (.ptr 0 0)), (12, .c (.sl 1 1 0 n)), (13, listV encB 1 Y), (14, .c (.sl 2 2 0 m))] [.cells 31 [.p (.i .i64 (n : Nat)), .p (listP encE 2 E)], .row 4 1 n (rowC encB F), .row 27 2 m (rowC encE E1)]) (endG (msk 154 [4, 11, 12, 13, 15]) (resOf Try.prog Try.f6)) = Tr.rq (inR IntKind.i64 fr ∧ 0 < (↑n : Int))
    (Tr.rq (inR IntKind.i64 to ∧ 0 < (↑n : Int))
      (Tr.rq (m = m)
        (Tr.rq (1 ≤ 1)
          (Tr.rq
            ((m + 1) * 16 ≤ 140737488355328 ∧
              m + 1 ≤ 140737488355328 ∧
                ∀ (e o : Nat), e < 1 → o < 2 → oneC (nth C.top [C.p (PV.i IntKind.i64 (aroundZ fr (↑n : Int))), C.p (PV.i IntKind.i64 (aroundZ to (↑n : Int)))] ((e + 0) * 2 + o)) = true)
            (Tr.done X.normal
              (cst 154 [(4, V.c (C.p (PV.i IntKind.i64 sp))), (11, V.c (C.ptr 0 0)), (12, V.c (C.sl 1 1 0 n)), (13, V.c (C.p (PV.l 1 Y.length (rowP encB Y)))), (15, V.c (C.ptr 2 0))] [AO.cells 31 [C.p (PV.i IntKind.i64 (↑n : Int)), C.p (PV.l 2 E.length (rowP encE E))], AO.row 4 1 n fun e o => renC [0, 1, 4, 5] (rowC encB F e o), AO.cells 31 [C.p (PV.i IntKind.i64 (↑n : Int)), C.sl 3 2 0 (m + 1)], AO.row 27 2 (m + 1) fun e o => renC [0, 1, 4, 5] (appF m (rowC encE E1) (fun e o => nth C.top [C.p (PV.i IntKind.i64 (aroundZ fr (↑n : Int))), C.p (PV.i IntKind.i64 (aroundZ to (↑n : Int)))] ((e + 0) * 2 + o)) e o)])))))) := by kernel_rfl
theorem tM6 (n : Nat) (E E2 : List Ed) (F Y : List Bool) (sp : Int) : exTs extMo (takeL 2 (dropL 9 (pcs Try.prog Try.f6))) (cst 154 [(4, iV sp), (11, .c (.ptr 0 0)), (12, .c (.sl 1 1 0 n)), (13, listV encB 1 Y), (15, .c (.ptr 2 0))] [.cells 31 [.p (.i .i64 (n : Nat)), .p (listP encE 2 E)], .row 4 1 n (rowC encB F), .cells 31 [.p (.i .i64 (n : Nat)), .p (listP encE 2 E2)]]) (endG (msk 154 [4, 11, 12, 13, 15, 16, 17]) (resOf Try.prog Try.f6)) = Tr.rq (0 + n ≤ n ∧ ∀ (e o : Nat), e < n → o < 1 → isF (rowC encB F e o) = true)
    (Tr.rq
      (((IsL encE 2 (decL decE E2.length (rowP encE E2)) E2.length (rowP encE E2) ∧ E2.length ≤ 1000000) ∧
          ((IsL encB 1 (decL decB n fun e o => unP (rowC encB F (e + 0) o)) n fun e o => unP (rowC encB F (e + 0) o)) ∧ n ≤ 1000000) ∧
            validZ (↑n : Int) (decL decE E2.length (rowP encE E2)) = 0 ∧ (↑n : Int) = (↑n : Int)) ∧
        n = n ∧ ∀ (e o : Nat), e < n → o < 1 → scC (C.p (rowP encB (inh n (decL decE E2.length (rowP encE E2)) (decL decB n fun e o => unP (rowC encB F (e + 0) o))) e o)) = true)
      (Tr.done X.normal
        (cst 154 [(4, V.c (C.p (PV.i IntKind.i64 sp))), (11, V.c (C.ptr 0 0)), (12, V.c (C.sl 1 1 0 n)), (13, V.c (C.p (PV.l 1 Y.length (rowP encB Y)))), (15, V.c (C.ptr 2 0)), (16, V.c (C.sl 3 1 0 n)), (17, V.c (C.p (PV.i IntKind.i64 0)))] [AO.cells 31 [C.p (PV.i IntKind.i64 (↑n : Int)), C.p (PV.l 2 E.length (rowP encE E))], AO.row 4 1 n fun e o => renC [0, 1, 2, 3] (rowC encB F e o), AO.cells 31 [C.p (PV.i IntKind.i64 (↑n : Int)), C.p (PV.l 2 E2.length (rowP encE E2))], AO.row 4 1 n fun e o => renC [0, 1, 2, 3] (C.p (PV.b ((inh n (decL decE E2.length (rowP encE E2)) (decL decB n fun e o => unP (rowC encB F (e + 0) o))).getD e default)))]))) := by kernel_rfl
theorem tM7 (n : Nat) (E E2 : List Ed) (F Y : List Bool) (sp : Int) : exTs extMo0 (takeL 2 (dropL 9 (pcs Try.prog Try.f6))) (cst 154 [(4, iV sp), (11, .c (.ptr 0 0)), (12, .c (.sl 1 1 0 n)), (13, listV encB 1 Y), (15, .c (.ptr 2 0))] [.cells 31 [.p (.i .i64 (n : Nat)), .p (listP encE 2 E)], .row 4 1 n (rowC encB F), .cells 31 [.p (.i .i64 (n : Nat)), .p (listP encE 2 E2)]]) (endG (msk 154 [4, 11, 12, 13, 15, 16, 17]) (resOf Try.prog Try.f6)) = Tr.rq (0 + n ≤ n ∧ ∀ (e o : Nat), e < n → o < 1 → isF (rowC encB F e o) = true)
    (Tr.rq
      ((IsL encE 2 (decL decE E2.length (rowP encE E2)) E2.length (rowP encE E2) ∧ E2.length ≤ 1000000) ∧
        ((IsL encB 1 (decL decB n fun e o => unP (rowC encB F (e + 0) o)) n fun e o => unP (rowC encB F (e + 0) o)) ∧ n ≤ 1000000) ∧ ¬validZ (↑n : Int) (decL decE E2.length (rowP encE E2)) = 0)
      (Tr.done X.normal
        (cst 154 [(4, V.c (C.p (PV.i IntKind.i64 sp))), (11, V.c (C.ptr 0 0)), (12, V.c (C.sl 1 1 0 n)), (13, V.c (C.p (PV.l 1 Y.length (rowP encB Y)))), (15, V.c (C.ptr 2 0)), (16, V.c (C.p (PV.z (Value.slice none 0 0)))), (17, V.c (C.p (PV.i IntKind.i64 0)))] [AO.cells 31 [C.p (PV.i IntKind.i64 (↑n : Int)), C.p (PV.l 2 E.length (rowP encE E))], AO.row 4 1 n fun e o => renC [0, 1, 2] (rowC encB F e o), AO.cells 31 [C.p (PV.i IntKind.i64 (↑n : Int)), C.p (PV.l 2 E2.length (rowP encE E2))]]))) := by kernel_rfl
theorem tM8 (n i : Nat) (E E2 : List Ed) (F Y W : List Bool) (sp : Int) : exTs extMo (lpB (pcs Try.prog Try.f6) 11) ((fun yv => cst 154 [(4, iV sp), (11, .c (.ptr 0 0)), (12, .c (.sl 1 1 0 n)), (13, listV encB 1 Y), (15, .c (.ptr 2 0)), (16, yv), (17, iV (i : Nat))] [.cells 31 [.p (.i .i64 (n : Nat)), .p (listP encE 2 E)], .row 4 1 n (rowC encB F), .cells 31 [.p (.i .i64 (n : Nat)), .p (listP encE 2 E2)]]) (listV encB 1 W)) (endG (msk 154 [4, 11, 12, 13, 15, 16, 17]) (resOf Try.prog Try.f6)) = bT (decide ((↑i : Int) < (↑n : Int)))
    (Tr.rq (IsL encE 2 (decL decE E2.length (rowP encE E2)) E2.length (rowP encE E2) ∧ E2.length ≤ 1000000)
      (bT (validZ (↑n : Int) (decL decE E2.length (rowP encE E2)) == 0)
        (bT ((↑W.length : Int) != (↑n : Int)) (Tr.done X.ret (St.mk [V.c (C.p (PV.b false))] []))
          (Tr.rq (0 ≤ (↑i : Int) ∧ (↑i : Int) < (↑Y.length : Int))
            (bT (Y.getD (↑i : Int).toNat default)
              (Tr.rq (0 ≤ (↑i : Int) ∧ (↑i : Int) < (↑W.length : Int))
                (bT (!W.getD (↑i : Int).toNat default) (Tr.done X.ret (St.mk [V.c (C.p (PV.b false))] []))
                  (Tr.rq (inR IntKind.i64 ((↑i : Int) + 1))
                    (Tr.done X.normal
                      (cst 154 [(4, V.c (C.p (PV.i IntKind.i64 sp))), (11, V.c (C.ptr 0 0)), (12, V.c (C.sl 1 1 0 n)), (13, V.c (C.p (PV.l 1 Y.length (rowP encB Y)))), (15, V.c (C.ptr 2 0)), (16, V.c (C.p (PV.l 1 W.length (rowP encB W)))), (17, V.c (C.p (PV.i IntKind.i64 ((↑i : Int) + 1))))] [AO.cells 31 [C.p (PV.i IntKind.i64 (↑n : Int)), C.p (PV.l 2 E.length (rowP encE E))], AO.row 4 1 n fun e o => renC [0, 1, 2] (rowC encB F e o), AO.cells 31 [C.p (PV.i IntKind.i64 (↑n : Int)), C.p (PV.l 2 E2.length (rowP encE E2))]])))))
              (Tr.rq (inR IntKind.i64 ((↑i : Int) + 1))
                (Tr.done X.normal
                  (cst 154 [(4, V.c (C.p (PV.i IntKind.i64 sp))), (11, V.c (C.ptr 0 0)), (12, V.c (C.sl 1 1 0 n)), (13, V.c (C.p (PV.l 1 Y.length (rowP encB Y)))), (15, V.c (C.ptr 2 0)), (16, V.c (C.p (PV.l 1 W.length (rowP encB W)))), (17, V.c (C.p (PV.i IntKind.i64 ((↑i : Int) + 1))))] [AO.cells 31 [C.p (PV.i IntKind.i64 (↑n : Int)), C.p (PV.l 2 E.length (rowP encE E))], AO.row 4 1 n fun e o => renC [0, 1, 2] (rowC encB F e o), AO.cells 31 [C.p (PV.i IntKind.i64 (↑n : Int)), C.p (PV.l 2 E2.length (rowP encE E2))]]))))))
        (Tr.done (X.exit 0)
          (cst 154 [(4, V.c (C.p (PV.i IntKind.i64 sp))), (11, V.c (C.ptr 0 0)), (12, V.c (C.sl 1 1 0 n)), (13, V.c (C.p (PV.l 1 Y.length (rowP encB Y)))), (15, V.c (C.ptr 2 0)), (16, V.c (C.p (PV.l 1 W.length (rowP encB W)))), (17, V.c (C.p (PV.i IntKind.i64 (↑i : Int))))] [AO.cells 31 [C.p (PV.i IntKind.i64 (↑n : Int)), C.p (PV.l 2 E.length (rowP encE E))], AO.row 4 1 n fun e o => renC [0, 1, 2] (rowC encB F e o), AO.cells 31 [C.p (PV.i IntKind.i64 (↑n : Int)), C.p (PV.l 2 E2.length (rowP encE E2))]]))))
    (Tr.done (X.exit 0)
      (cst 154 [(4, V.c (C.p (PV.i IntKind.i64 sp))), (11, V.c (C.ptr 0 0)), (12, V.c (C.sl 1 1 0 n)), (13, V.c (C.p (PV.l 1 Y.length (rowP encB Y)))), (15, V.c (C.ptr 2 0)), (16, V.c (C.p (PV.l 1 W.length (rowP encB W)))), (17, V.c (C.p (PV.i IntKind.i64 (↑i : Int))))] [AO.cells 31 [C.p (PV.i IntKind.i64 (↑n : Int)), C.p (PV.l 2 E.length (rowP encE E))], AO.row 4 1 n fun e o => renC [0, 1, 2] (rowC encB F e o), AO.cells 31 [C.p (PV.i IntKind.i64 (↑n : Int)), C.p (PV.l 2 E2.length (rowP encE E2))]])) := by kernel_rfl
theorem tM9 (n : Nat) (E : List Ed) (F Y : List Bool) (sp : Int) : exTs extMo (takeL 3 (dropL 12 (pcs Try.prog Try.f6))) (cst 154 [(4, iV sp), (11, .c (.ptr 0 0)), (12, .c (.sl 1 1 0 n)), (13, listV encB 1 Y)] [.cells 31 [.p (.i .i64 (n : Nat)), .p (listP encE 2 E)], .row 4 1 n (rowC encB F)]) (endG (msk 154 [11, 12, 13, 18]) (resOf Try.prog Try.f6)) = Tr.rq (inR IntKind.i64 sp ∧ 0 < (↑n : Int))
    (Tr.rq (0 ≤ aroundZ sp (↑n : Int) ∧ aroundZ sp (↑n : Int) < (↑Y.length : Int))
      (bT (!Y.getD (aroundZ sp (↑n : Int)).toNat default) (Tr.rq True (Tr.done X.ret (St.mk [V.c (C.p (PV.b true))] [])))
        (Tr.done X.normal
          (cst 154 [(11, V.c (C.ptr 0 0)), (12, V.c (C.sl 1 1 0 n)), (13, V.c (C.p (PV.l 1 Y.length (rowP encB Y)))), (18, V.c (C.p (PV.i IntKind.i64 (aroundZ sp (↑n : Int)))))] [AO.cells 31 [C.p (PV.i IntKind.i64 (↑n : Int)), C.p (PV.l 2 E.length (rowP encE E))], AO.row 4 1 n fun e o => renC [0, 1] (rowC encB F e o)])))) := by kernel_rfl
theorem tM10 (n : Nat) (E : List Ed) (F Y : List Bool) (kk : Int) : exTs extMo (takeL 1 (dropL 15 (pcs Try.prog Try.f6))) (cst 154 [(11, .c (.ptr 0 0)), (12, .c (.sl 1 1 0 n)), (13, listV encB 1 Y), (18, iV kk)] [.cells 31 [.p (.i .i64 (n : Nat)), .p (listP encE 2 E)], .row 4 1 n (rowC encB F)]) (endG (msk 154 [11, 12, 13, 18]) (resOf Try.prog Try.f6)) = Tr.rq (0 ≤ kk ∧ kk < (↑n : Int))
    (Tr.rq (kk.toNat + 0 < n)
      (Tr.done X.normal
        (cst 154 [(11, V.c (C.ptr 0 0)), (12, V.c (C.sl 1 1 0 n)), (13, V.c (C.p (PV.l 1 Y.length (rowP encB Y)))), (18, V.c (C.p (PV.i IntKind.i64 kk)))] [AO.cells 31 [C.p (PV.i IntKind.i64 (↑n : Int)), C.p (PV.l 2 E.length (rowP encE E))], AO.row 4 1 n fun e o => renC [0, 1] (if e = kk.toNat + 0 then if 0 ≤ o ∧ o < 1 then nth C.top [C.p (PV.b false)] (o - 0) else rowC encB F e o else rowC encB F e o)]))) := by kernel_rfl
theorem tM11 (n : Nat) (E : List Ed) (F Y : List Bool) (kk : Int) : exTs extMo (takeL 2 (dropL 16 (pcs Try.prog Try.f6))) (cst 154 [(11, .c (.ptr 0 0)), (12, .c (.sl 1 1 0 n)), (13, listV encB 1 Y), (18, iV kk)] [.cells 31 [.p (.i .i64 (n : Nat)), .p (listP encE 2 E)], .row 4 1 n (rowC encB F)]) (endG (msk 154 [11, 13, 18, 19, 20]) (resOf Try.prog Try.f6)) = Tr.rq (0 + n ≤ n ∧ ∀ (e o : Nat), e < n → o < 1 → isF (rowC encB F e o) = true)
    (Tr.rq
      (((IsL encE 2 (decL decE E.length (rowP encE E)) E.length (rowP encE E) ∧ E.length ≤ 1000000) ∧
          ((IsL encB 1 (decL decB n fun e o => unP (rowC encB F (e + 0) o)) n fun e o => unP (rowC encB F (e + 0) o)) ∧ n ≤ 1000000) ∧
            validZ (↑n : Int) (decL decE E.length (rowP encE E)) = 0 ∧ (↑n : Int) = (↑n : Int)) ∧
        n = n ∧ ∀ (e o : Nat), e < n → o < 1 → scC (C.p (rowP encB (inh n (decL decE E.length (rowP encE E)) (decL decB n fun e o => unP (rowC encB F (e + 0) o))) e o)) = true)
      (Tr.done X.normal
        (cst 154 [(11, V.c (C.ptr 0 0)), (13, V.c (C.p (PV.l 1 Y.length (rowP encB Y)))), (18, V.c (C.p (PV.i IntKind.i64 kk))), (19, V.c (C.sl 1 1 0 n)), (20, V.c (C.p (PV.i IntKind.i64 0)))] [AO.cells 31 [C.p (PV.i IntKind.i64 (↑n : Int)), C.p (PV.l 2 E.length (rowP encE E))], AO.row 4 1 n fun e o => renC [0, 2] (C.p (PV.b ((inh n (decL decE E.length (rowP encE E)) (decL decB n fun e o => unP (rowC encB F (e + 0) o))).getD e default)))]))) := by kernel_rfl
theorem tM12 (n i : Nat) (E : List Ed) (Y Z : List Bool) (kk : Int) : exTs extMo (lpB (pcs Try.prog Try.f6) 18) (cst 154 [(11, .c (.ptr 0 0)), (13, listV encB 1 Y), (18, iV kk), (19, listV encB 1 Z), (20, iV (i : Nat))] [.cells 31 [.p (.i .i64 (n : Nat)), .p (listP encE 2 E)]]) (endG (msk 154 [11, 13, 18, 19, 20]) (resOf Try.prog Try.f6)) = bT (decide ((↑i : Int) < (↑n : Int)))
    (bT ((↑Z.length : Int) != (↑n : Int)) (Tr.done X.ret (St.mk [V.c (C.p (PV.b false))] []))
      (bT ((↑i : Int) != kk)
        (Tr.rq (0 ≤ (↑i : Int) ∧ (↑i : Int) < (↑Z.length : Int))
          (Tr.rq (0 ≤ (↑i : Int) ∧ (↑i : Int) < (↑Y.length : Int))
            (bT (!Z.getD (↑i : Int).toNat default == Y.getD (↑i : Int).toNat default) (Tr.done X.ret (St.mk [V.c (C.p (PV.b false))] []))
              (Tr.rq (inR IntKind.i64 ((↑i : Int) + 1))
                (Tr.done X.normal
                  (cst 154 [(11, V.c (C.ptr 0 0)), (13, V.c (C.p (PV.l 1 Y.length (rowP encB Y)))), (18, V.c (C.p (PV.i IntKind.i64 kk))), (19, V.c (C.p (PV.l 1 Z.length (rowP encB Z)))), (20, V.c (C.p (PV.i IntKind.i64 ((↑i : Int) + 1))))] [AO.cells 31 [C.p (PV.i IntKind.i64 (↑n : Int)), C.p (PV.l 2 E.length (rowP encE E))]]))))))
        (Tr.rq (inR IntKind.i64 ((↑i : Int) + 1))
          (Tr.done X.normal
            (cst 154 [(11, V.c (C.ptr 0 0)), (13, V.c (C.p (PV.l 1 Y.length (rowP encB Y)))), (18, V.c (C.p (PV.i IntKind.i64 kk))), (19, V.c (C.p (PV.l 1 Z.length (rowP encB Z)))), (20, V.c (C.p (PV.i IntKind.i64 ((↑i : Int) + 1))))] [AO.cells 31 [C.p (PV.i IntKind.i64 (↑n : Int)), C.p (PV.l 2 E.length (rowP encE E))]])))))
    (Tr.done (X.exit 2)
      (cst 154 [(11, V.c (C.ptr 0 0)), (13, V.c (C.p (PV.l 1 Y.length (rowP encB Y)))), (18, V.c (C.p (PV.i IntKind.i64 kk))), (19, V.c (C.p (PV.l 1 Z.length (rowP encB Z)))), (20, V.c (C.p (PV.i IntKind.i64 (↑i : Int))))] [AO.cells 31 [C.p (PV.i IntKind.i64 (↑n : Int)), C.p (PV.l 2 E.length (rowP encE E))]])) := by kernel_rfl
theorem tM13 (n i : Nat) (E : List Ed) (Y Z : List Bool) (kk : Int) : exTs extMo (dropL 19 (pcs Try.prog Try.f6)) (cst 154 [(11, .c (.ptr 0 0)), (13, listV encB 1 Y), (18, iV kk), (19, listV encB 1 Z), (20, iV (i : Nat))] [.cells 31 [.p (.i .i64 (n : Nat)), .p (listP encE 2 E)]]) (endG [] (resOf Try.prog Try.f6)) = Tr.rq (0 ≤ kk ∧ kk < (↑Z.length : Int)) (bT (!Z.getD kk.toNat default) (Tr.rq True (Tr.done X.ret (St.mk [V.c (C.p (PV.b true))] []))) (Tr.done X.ret (St.mk [V.c (C.p (PV.b false))] []))) := by kernel_rfl
theorem inh_mono {n : Nat} {E E' : List Ed} {F : List Bool} (h : ∀ e ∈ E, e ∈ E') {k : Nat} (hk : k < n) (hx : (inh n E F).getD k false = true) : (inh n E' F).getD k false = true := by
  obtain ⟨⟨s, s1, s2⟩, s3⟩ := (inh_at hk).1 hx
  exact (inh_at hk).2 ⟨⟨s, s1, s2.mono h⟩, s3⟩
theorem inh_stop {n : Nat} {E : List Ed} {F : List Bool} {k : Nat} (hac : ¬ Path E k k) (hF : F.length = n) (hk : k < n) (hX : (inh n E F).getD k false = true) : ∀ i, i < n → i ≠ k → (inh n E (F.set k false)).getD i false = (inh n E F).getD i false := by
  intro i hi hne
  have hset : ∀ j, (F.set k false).getD j false = if j = k then false else F.getD j false := fun j => getD_set_x (by omega)
  rw [Bool.eq_iff_iff, inh_at hi, inh_at hi, hset i, if_neg hne]
  constructor
  · rintro ⟨⟨s, s1, s2⟩, s3⟩
    rw [hset] at s1
    by_cases e : s = k
    · rw [if_pos e] at s1; cases s1
    · rw [if_neg e] at s1; exact ⟨⟨s, s1, s2⟩, s3⟩
  · rintro ⟨⟨s, s1, s2⟩, s3⟩
    by_cases e : s = k
    · subst e
      obtain ⟨⟨q, q1, q2⟩, _⟩ := (inh_at hk).1 hX
      have hqk : q ≠ s := fun e => by subst e; exact hac q2
      exact ⟨⟨q, by rw [hset, if_neg hqk]; exact q1, q2.trans s2⟩, s3⟩
    · exact ⟨⟨s, by rw [hset, if_neg e]; exact s1, s2⟩, s3⟩
theorem inh_off {n : Nat} {E : List Ed} {F : List Bool} {k : Nat} (hF : F.length = n) (hk : k < n) : (inh n E (F.set k false)).getD k false = false := by
  rw [← Bool.not_eq_true, inh_at hk]
  rintro ⟨_, h⟩
  rw [getD_set_x (by omega), if_pos rfl] at h
  cases h
section
variable {G : Nat → Option Obj}
set_option maxRecDepth 100000 in
theorem okGInhib0 : ModOK Try.prog G 18 mGInhib0 := by
  intro args p v hm hp h
  unfold mGInhib0 at hm
  split at hm; rotate_left; · cases hm
  rename_i N n0 f m g
  obtain ⟨rfl, rfl⟩ := some_pair hm
  obtain ⟨⟨hL, hn⟩, ⟨hL2, hm2⟩, hv⟩ := hp
  have hlen : (decL decE n0 f).length ≤ 1000000 := by rw [hL.1]; exact hn
  generalize decL decE n0 f = E at hL hlen hv
  generalize decL decB m g = F at hL2
  refine FnS.args (args' := [gZ N E, listV encB 1 F]) ?_ (.cons (VLe.a2 (.refl _) (PLe.of_isL hL)) (.cons hL2.le .nil))
  refine fn_S Try.func18 (by kernel_rfl) rfl ?_ h
  refine ExS.evG extGV_sound 3 (tI01 N E F) ?_
  simp only [holds_bT, holds_rq, holds_leaf, kf_normal, kf_ret', decide_eq_true_eq, decide_eq_false_iff_not, bne_iff_ne, bne_eq_false_iff_eq, decE_row]
  exact ⟨⟨isL_row _ _ _, hlen⟩, fun c1 => ⟨VLe.refl _⟩, fun c1 => absurd c1 hv⟩
set_option maxRecDepth 100000 in
theorem okGInhibX : ModHOK Try.prog G 18 mGInhibX := by
  intro args h p v h' hm hp
  unfold mGInhibX at hm
  split at hm; rotate_left; · cases hm
  rename_i N n0 f n g
  obtain ⟨rfl, rfl, rfl⟩ := some_three hm
  obtain ⟨⟨hL, hn⟩, ⟨hL2, hm2⟩, hv, hmN⟩ := hp
  have hlen : (decL decE n0 f).length ≤ 1000000 := by rw [hL.1]; exact hn
  have hnF : (decL decB n g).length = n := hL2.1
  generalize decL decE n0 f = E at hL hlen hv
  generalize decL decB n g = F at hL2 hnF
  refine FnS.args (args' := [gZ N E, listV encB 1 F]) ?_ (.cons (VLe.a2 (.refl _) (PLe.of_isL hL)) (.cons hL2.le .nil))
  clear hL hL2
  refine fn_rowS (r := 4) (pre := takeL 7 (pcs Try.prog Try.f18)) Try.func18 (by kernel_rfl) (by kernel_rfl) (by kernel_rfl) rfl ?_ h
  refine ExS.evG extGV_sound 3 (tIx1 N E F) ?_
  simp only [holds_bT, holds_rq, holds_leaf, kf_normal, decide_eq_true_eq, decide_eq_false_iff_not, bne_iff_ne, bne_eq_false_iff_eq, decE_row]
  refine ⟨⟨isL_row _ _ _, hlen⟩, fun c1 => absurd hv c1, fun c1 => ⟨fun c2 => absurd (by omega) c2, fun c2 => ⟨?_⟩⟩⟩
  obtain ⟨hN, hsc, _⟩ := validZ_ok hv
  subst hmN
  have hE : InN n E := by have := scan_in hsc; simpa using this
  refine ExS.evG extGV_sound 2 (tIx2 n E F) ?_
  simp only [holds_rq, holds_leaf, kf_normal, decE_row, decB_row, show (↑n : Int).toNat = n from rfl]
  refine ⟨⟨⟨by omega, isL_row _ _ _, hlen, hE⟩, isL_row _ _ _, hnF⟩, ⟨?_⟩⟩
  refine ExS.loop' (l := dropL 5 (takeL 7 (pcs Try.prog Try.f18))) (b := inr (inr (nth .skip (pcs Try.prog Try.f18) 5))) (r := dropL 6 (takeL 7 (pcs Try.prog Try.f18))) (id := 0) (by kernel_rfl) (σ := Nat × List Bool)
    (fun (i, out) => cst 40 [(1, listV encB 1 F), (2, .c (.ptr 0 0)), (5, .c (.sl 1 1 0 n)), (21, iV (n : Nat)), (22, iV (i : Nat))] [.cells 31 [.p (.i .i64 (n : Nat)), .p (listP encE 2 E)], .row 4 1 n (rowC encB out)]) (fun (i, out) => i ≤ n ∧ out.length = n ∧ ∀ k, k < n → out.getD k false = if k < i then (rcS n E F).getD k false && F.getD k false else (rcS n E F).getD k false) (fun (i, _) => n - i) (0, rcS n E F) ⟨Nat.zero_le _, rcS_length _ _ _, fun k hk => by rw [if_neg (Nat.not_lt_zero k)]⟩
    (weak_of_eq (by kernel_rfl)) ?_
  rintro ⟨i, out⟩ ⟨hi, ho, hI⟩ Q1 q1n q1e -
  refine ExS.evH ext0_sound (tIx3 n i E F out) ?_
  have hat : i < n → out.getD i false = (rcS n E F).getD i false := fun h => by rw [hI i h, if_neg (by omega)]
  have go : ∀ x : Bool, i < n → x = ((rcS n E F).getD i false && F.getD i false) → ∀ st, WeakS G st ((fun i out => cst 40 [(1, listV encB 1 F), (2, .c (.ptr 0 0)), (5, .c (.sl 1 1 0 n)), (21, iV (n : Nat)), (22, iV (i : Nat))] [.cells 31 [.p (.i .i64 (n : Nat)), .p (listP encE 2 E)], .row 4 1 n (rowC encB out)]) (i + 1) (out.set i x)) → Q1 .normal st := fun x h1 h2 st hst =>
    q1n (i + 1, out.set i x) st ⟨by omega, by simp [ho], fun k hk => by
      rw [getD_set_x (by omega)]
      by_cases e : k = i
      · subst e; rw [if_pos rfl, if_pos (by omega)]; exact h2
      · rw [if_neg e, hI k hk]
        by_cases e2 : k < i
        · rw [if_pos e2, if_pos (by omega)]
        · rw [if_neg e2, if_neg (by omega)]⟩ (by simp only; omega) hst
  simp only [holds_bT, holds_rq, holds_leaf, kf_normal, kf_exit, decide_eq_true_eq, decide_eq_false_iff_not, inR, show (↑i : Int).toNat = i from rfl, show ∀ x : Nat, x + 0 = x from fun _ => rfl, show (default : Bool) = false from rfl]
  refine ⟨fun h1 => ⟨by omega, by omega, fun c1 => ⟨by omega, by omega, by omega, by omega, ⟨?_⟩⟩, fun c1 => ⟨by omega, by omega, by omega, ⟨?_⟩⟩⟩, fun h1 => ⟨q1e _ ?_⟩⟩
  · have hin : i < n := by omega
    refine go (F.getD i false) hin (by rw [← hat hin, c1]; rfl) _ (weak_cst (by exact ⟨rfl, ⟨rfl, rfl, rfl, fun e o he ho' => set1 (ρ := [0, 1]) ho hin rfl he ho'⟩, trivial⟩))
  · have hin : i < n := by omega
    refine go false hin (by rw [← hat hin, c1]; rfl) _ (weak_cst (by exact ⟨rfl, ⟨rfl, rfl, rfl, fun e o he ho' => set1 (ρ := [0, 1]) ho hin rfl he ho'⟩, trivial⟩))
  · obtain rfl : i = n := by omega
    have : out = inh i E F := by
      refine bools_ext (by rw [ho, inh_length]) fun k hk => ?_
      rw [ho] at hk
      rw [hI k hk, if_pos hk, inh_at hk, Bool.and_eq_true, rcS_at hk]
    subst this
    refine ExS.evH ext0_sound (tIx4 i i E F (inh i E F)) ?_
    simp only [holds_leaf, kf_normal]
    exact ⟨trivial, by simp, 0, _, rfl, rfl, fun e o he ho => rfl⟩
theorem extMo_sound : SoundExt Try.prog G extMo := mutX_sound okGInhibX (extH_sound (by simp; exact ⟨okAcyclic.lift, okGraph.lift, okFiringH, okAround.lift, okGValid.lift, okLives.lift⟩))
theorem extMo0_sound : SoundExt Try.prog G extMo0 := mutX_sound okGInhib0.lift (extH_sound (by simp; exact okGValid.lift))
end
end Go.AE
