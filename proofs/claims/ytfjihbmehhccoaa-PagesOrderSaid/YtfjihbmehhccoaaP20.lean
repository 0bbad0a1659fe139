/- AE contracts: PagesRuns: trees. -/
import Derived.Test.YtfjihbmehhccoaaP18
namespace Go.AE
set_option linter.unusedVariables false
set_option linter.unusedSimpArgs false
open Go.Proofs Go.Proofs.Ytfjihbmehhccoaa Go.RowKit
def mLives31 : Mod
  | [] => some (True, bV true)
  | _ => none
noncomputable def extQ1 : Ext := extH [(14, liftM mAround), (31, liftM mVerd), (30, liftM mRuns), (20, mNew)]
noncomputable def extQ3 (D : Ld) (S T : List Int) (out : List Pg) (D' : Ld) : Ext := extH [(17, mAmendX D S T out D')]
def extQ4 : Ext := extOf [(18, mHas)]
noncomputable def extQ5 (D : Ld) (S U W : List Int) : Ext := extH [(16, mValidX D S U), (27, liftM (mSameX U W)), (19, liftM mLives31)]
theorem tQ1 (A B : List Int) (n : Int) : exTs extQ1 (takeL 3 (pcs Try.prog Try.f7)) (st0 Try.f7 [listV encI 1 A, listV encI 1 B, iV n]) (endG (msk 92 [1, 7, 8]) (resOf Try.prog Try.f7)) = Tr.rq (inR IntKind.i64 n ∧ Int.ofNat 0 < Int.ofNat 1000)
    (Tr.rq
      (IsL encI 1 (decL decI A.length (rowP encI A)) A.length (rowP encI A) ∧
        (∀ (t : Int), t ∈ decL decI A.length (rowP encI A) → inR IntKind.i64 t) ∧ Int.ofNat 0 ≤ Int.ofNat 30 ∧ Int.ofNat 30 ≤ Int.ofNat 1000)
      (Tr.rq
        (IsL encI 1 (decL decI (verdL (decL decI A.length (rowP encI A)) 30).length (rowP encI (verdL (decL decI A.length (rowP encI A)) 30))) (verdL (decL decI A.length (rowP encI A)) 30).length
            (rowP encI (verdL (decL decI A.length (rowP encI A)) 30)) ∧
          (-1000000000 ≤ aroundZ n 1000 ∧ aroundZ n 1000 ≤ 1000000000) ∧
            (decL decI (verdL (decL decI A.length (rowP encI A)) 30).length (rowP encI (verdL (decL decI A.length (rowP encI A)) 30))).length ≤ 1000000)
        (Tr.done X.normal
          (cst 92 [(1, V.c (C.p (PV.l 1 B.length (rowP encI B)))), (7, V.c (C.p (PV.i IntKind.i64 (aroundZ n 1000)))), (8, V.c (C.p (PV.l 1 (runsL (aroundZ n 1000) (decL decI (verdL (decL decI A.length (rowP encI A)) (Int.toNat 30)).length (rowP encI (verdL (decL decI A.length (rowP encI A)) (Int.toNat 30))))).length (rowP encI (runsL (aroundZ n 1000) (decL decI (verdL (decL decI A.length (rowP encI A)) (Int.toNat 30)).length (rowP encI (verdL (decL decI A.length (rowP encI A)) (Int.toNat 30)))))))))] [])))) := by kernel_rfl
theorem tQ2 (B W : List Int) (n : Int) : exTs extQ1 (takeL 5 (dropL 3 (pcs Try.prog Try.f7))) (cst 92 [(1, listV encI 1 B), (7, iV n), (8, listV encI 1 W)] []) (endG (msk 92 [7, 8, 9, 10, 11]) (resOf Try.prog Try.f7)) = Tr.rq
    (IsL encI 1 (decL decI B.length (rowP encI B)) B.length (rowP encI B) ∧
      (∀ (t : Int), t ∈ decL decI B.length (rowP encI B) → inR IntKind.i64 t) ∧ Int.ofNat 0 ≤ Int.ofNat 30 ∧ Int.ofNat 30 ≤ Int.ofNat 1000)
    (Tr.rq
      (IsL encI 1 (decL decI (verdL (decL decI B.length (rowP encI B)) 30).length (rowP encI (verdL (decL decI B.length (rowP encI B)) 30))) (verdL (decL decI B.length (rowP encI B)) 30).length
          (rowP encI (verdL (decL decI B.length (rowP encI B)) 30)) ∧
        (-1000000000 ≤ n ∧ n ≤ 1000000000) ∧ (decL decI (verdL (decL decI B.length (rowP encI B)) 30).length (rowP encI (verdL (decL decI B.length (rowP encI B)) 30))).length ≤ 1000000)
      (Tr.rq True
        (Tr.done X.normal
          (cst 92 [(7, V.c (C.p (PV.i IntKind.i64 n))), (8, V.c (C.p (PV.l 1 W.length (rowP encI W)))), (9, V.c (C.p (PV.l 1 (runsL n (decL decI (verdL (decL decI B.length (rowP encI B)) (Int.toNat 30)).length (rowP encI (verdL (decL decI B.length (rowP encI B)) (Int.toNat 30))))).length (rowP encI (runsL n (decL decI (verdL (decL decI B.length (rowP encI B)) (Int.toNat 30)).length (rowP encI (verdL (decL decI B.length (rowP encI B)) (Int.toNat 30))))))))), (10, V.c (C.ptr 0 0)), (11, V.c (C.p (PV.i IntKind.i64 0)))] [AO.cells 86 [C.sl 1 7 0 0, C.mp 2, C.mp 3], AO.row 31 7 0 fun e o => renC [0, 1, 2, 3] (C.p (rowP encPg ld0.M e o)), AO.mapb (okK Try.prog 81) ld0.gp, AO.mapl (okK Try.prog 79) 3 1 ld0.gs none])))) := by kernel_rfl
theorem tQ3 (D : Ld) (W I : List Int) (n : Int) (i : Nat) : exTs (extFr D) (lpB (pcs Try.prog Try.f7) 8) (cst 92 [(7, iV n), (8, listV encI 1 W), (9, listV encI 1 I), (10, .c (.ptr 0 0)), (11, iV (i : Nat))] (ldH D [])) (endG (msk 92 [7, 8, 9, 10, 11]) (resOf Try.prog Try.f7)) = bT (decide ((↑i : Int) < (↑W.length : Int)))
    (Tr.rq (0 ≤ (↑i : Int) ∧ (↑i : Int) < (↑W.length : Int))
      (Tr.rq (0 ≤ (↑i : Int) ∧ (↑i : Int) < (↑W.length : Int))
        (Tr.rq
          ((True ∧
              D.M.length = D.M.length ∧
                D.M.length = D.M.length ∧
                  (∀ (e o : Nat), e < D.M.length → o < 7 → rowC encPg D.M e o = rowC encPg D.M e o) ∧ okK Try.prog 81 = okK Try.prog 81 ∧ D.gp = D.gp ∧ okK Try.prog 79 = okK Try.prog 79 ∧ D.gs = D.gs) ∧
            ((Pg.mk 0 (ByteArray.mk #[104, 111, 116]) 1 [] (W.getD (↑i : Int).toNat default) (W.getD (↑i : Int).toNat default) (ByteArray.mk #[])).kd = 0 →
              pgOK (Pg.mk 0 (ByteArray.mk #[104, 111, 116]) 1 [] (W.getD (↑i : Int).toNat default) (W.getD (↑i : Int).toNat default) (ByteArray.mk #[])) = true →
                Fits D (Pg.mk 0 (ByteArray.mk #[104, 111, 116]) 1 [] (W.getD (↑i : Int).toNat default) (W.getD (↑i : Int).toNat default) (ByteArray.mk #[]))))
          (bT ((lfire D (Pg.mk 0 (ByteArray.mk #[104, 111, 116]) 1 [] (W.getD (↑i : Int).toNat default) (W.getD (↑i : Int).toNat default) (ByteArray.mk #[]))).fst != 0)
            (Tr.done X.ret (St.mk [V.c (C.p (PV.b false))] []))
            (Tr.rq (inR IntKind.i64 ((↑i : Int) + 1))
              (Tr.done X.normal
                (cst 92 [(7, V.c (C.p (PV.i IntKind.i64 n))), (8, V.c (C.p (PV.l 1 W.length (rowP encI W)))), (9, V.c (C.p (PV.l 1 I.length (rowP encI I)))), (10, V.c (C.ptr 0 0)), (11, V.c (C.p (PV.i IntKind.i64 ((↑i : Int) + 1))))] [AO.cells 86 [C.sl 1 7 0 (lfire D (Pg.mk 0 (ByteArray.mk #[104, 111, 116]) 1 [] (W.getD (↑i : Int).toNat default) (W.getD (↑i : Int).toNat default) (ByteArray.mk #[]))).snd.M.length, C.mp 2, C.mp 3], AO.row 31 7 (lfire D (Pg.mk 0 (ByteArray.mk #[104, 111, 116]) 1 [] (W.getD (↑i : Int).toNat default) (W.getD (↑i : Int).toNat default) (ByteArray.mk #[]))).snd.M.length fun e o => renC [0, 6, 7, 8] (C.p (rowP encPg (lfire D (Pg.mk 0 (ByteArray.mk #[104, 111, 116]) 1 [] (W.getD (↑i : Int).toNat default) (W.getD (↑i : Int).toNat default) (ByteArray.mk #[]))).snd.M e o)), AO.mapb (okK Try.prog 81) (lfire D (Pg.mk 0 (ByteArray.mk #[104, 111, 116]) 1 [] (W.getD (↑i : Int).toNat default) (W.getD (↑i : Int).toNat default) (ByteArray.mk #[]))).snd.gp, AO.mapl (okK Try.prog 79) 3 1 (lfire D (Pg.mk 0 (ByteArray.mk #[104, 111, 116]) 1 [] (W.getD (↑i : Int).toNat default) (W.getD (↑i : Int).toNat default) (ByteArray.mk #[]))).snd.gs none])))))))
    (Tr.done (X.exit 0)
      (cst 92 [(7, V.c (C.p (PV.i IntKind.i64 n))), (8, V.c (C.p (PV.l 1 W.length (rowP encI W)))), (9, V.c (C.p (PV.l 1 I.length (rowP encI I)))), (10, V.c (C.ptr 0 0)), (11, V.c (C.p (PV.i IntKind.i64 (↑i : Int))))] [AO.cells 86 [C.sl 1 7 0 D.M.length, C.mp 2, C.mp 3], AO.row 31 7 D.M.length fun e o => renC [0, 1, 2, 3] (rowC encPg D.M e o), AO.mapb (okK Try.prog 81) D.gp, AO.mapl (okK Try.prog 79) 3 1 D.gs none])) := by kernel_rfl
theorem tQ4 (D D' : Ld) (S W I : List Int) (out : List Pg) (n : Int) : exTs (extQ3 D S I out D') (takeL 2 (dropL 9 (pcs Try.prog Try.f7))) (cst 92 [(7, iV n), (8, listV encI 1 W), (9, listV encI 1 I), (10, .c (.ptr 0 0))] (ldH D [])) (endG (msk 92 [8, 9, 10, 12, 13]) (resOf Try.prog Try.f7)) = Tr.rq (inR IntKind.i64 (n + 50))
    (Tr.rq
      (((True ∧
            D.M.length = D.M.length ∧
              D.M.length = D.M.length ∧
                (∀ (e o : Nat), e < D.M.length → o < 7 → rowC encPg D.M e o = rowC encPg D.M e o) ∧ okK Try.prog 81 = okK Try.prog 81 ∧ D.gp = D.gp ∧ okK Try.prog 79 = okK Try.prog 79 ∧ D.gs = D.gs) ∧
          IsL encI 1 I I.length (rowP encI I)) ∧
        StG D (gKey (ByteArray.mk #[104, 111, 116]) 1 (textLb [])) S ∧
          (2 ≤ 1000000 ∧ 3 ≤ 1000000 ∧ inR IntKind.i64 1 ∧ 0 ≤ 1000000 ∧ (∀ (t : Int), t ∈ S → inR IntKind.i64 t) ∧ S.length + I.length ≤ 100000 ∧ D.M.length ≤ 100000) ∧
            lamend D (ByteArray.mk #[104, 111, 116]) 1 [] S I (n + 50) = (listV encPg 7 out, D'))
      (Tr.done X.normal
        (cst 92 [(8, V.c (C.p (PV.l 1 W.length (rowP encI W)))), (9, V.c (C.p (PV.l 1 I.length (rowP encI I)))), (10, V.c (C.ptr 0 0)), (12, V.c (C.p (PV.l 7 out.length (rowP encPg out)))), (13, V.c (C.p (PV.i IntKind.i64 0)))] [AO.cells 86 [C.sl 1 7 0 D'.M.length, C.mp 2, C.mp 3], AO.row 31 7 D'.M.length fun e o => renC [0, 6, 7, 8] (C.p (rowP encPg D'.M e o)), AO.mapb (okK Try.prog 81) D'.gp, AO.mapl (okK Try.prog 79) 3 1 D'.gs none]))) := by kernel_rfl
theorem tQ5 (D : Ld) (W I : List Int) (out : List Pg) (i : Nat) : exTs extQ4 (lpB (pcs Try.prog Try.f7) 11) (cst 92 [(8, listV encI 1 W), (9, listV encI 1 I), (10, .c (.ptr 0 0)), (12, listV encPg 7 out), (13, iV (i : Nat))] (ldH D [])) (endG (msk 92 [8, 9, 10, 12, 13]) (resOf Try.prog Try.f7)) = bT (decide ((↑i : Int) < (↑out.length : Int)))
    (Tr.rq (0 ≤ (↑i : Int) ∧ (↑i : Int) < (↑out.length : Int))
      (Tr.rq (IsL encI 1 (decL decI W.length (rowP encI W)) W.length (rowP encI W) ∧ (decL decI W.length (rowP encI W)).length ≤ 1000000)
        (Tr.rq (0 ≤ (↑i : Int) ∧ (↑i : Int) < (↑out.length : Int))
          (Tr.rq (IsL encI 1 (decL decI I.length (rowP encI I)) I.length (rowP encI I) ∧ (decL decI I.length (rowP encI I)).length ≤ 1000000)
            (bT (decide ((out.getD (↑i : Int).toNat default).st ∈ decL decI W.length (rowP encI W)) == decide ((out.getD (↑i : Int).toNat default).st ∈ decL decI I.length (rowP encI I)))
              (Tr.done X.ret (St.mk [V.c (C.p (PV.b false))] []))
              (Tr.rq (0 ≤ (↑i : Int) ∧ (↑i : Int) < (↑out.length : Int))
                (bT (!((out.getD (↑i : Int).toNat default).kd == 1) == decide ((out.getD (↑i : Int).toNat default).st ∈ decL decI W.length (rowP encI W)))
                  (Tr.done X.ret (St.mk [V.c (C.p (PV.b false))] []))
                  (Tr.rq (inR IntKind.i64 ((↑i : Int) + 1))
                    (Tr.done X.normal
                      (cst 92 [(8, V.c (C.p (PV.l 1 W.length (rowP encI W)))), (9, V.c (C.p (PV.l 1 I.length (rowP encI I)))), (10, V.c (C.ptr 0 0)), (12, V.c (C.p (PV.l 7 out.length (rowP encPg out)))), (13, V.c (C.p (PV.i IntKind.i64 ((↑i : Int) + 1))))] [AO.cells 86 [C.sl 1 7 0 D.M.length, C.mp 2, C.mp 3], AO.row 31 7 D.M.length fun e o => renC [0, 1, 2, 3] (rowC encPg D.M e o), AO.mapb (okK Try.prog 81) D.gp, AO.mapl (okK Try.prog 79) 3 1 D.gs none]))))))))))
    (Tr.done (X.exit 2)
      (cst 92 [(8, V.c (C.p (PV.l 1 W.length (rowP encI W)))), (9, V.c (C.p (PV.l 1 I.length (rowP encI I)))), (10, V.c (C.ptr 0 0)), (12, V.c (C.p (PV.l 7 out.length (rowP encPg out)))), (13, V.c (C.p (PV.i IntKind.i64 (↑i : Int))))] [AO.cells 86 [C.sl 1 7 0 D.M.length, C.mp 2, C.mp 3], AO.row 31 7 D.M.length fun e o => renC [0, 1, 2, 3] (rowC encPg D.M e o), AO.mapb (okK Try.prog 81) D.gp, AO.mapl (okK Try.prog 79) 3 1 D.gs none])) := by kernel_rfl
theorem tQ6 (D : Ld) (S U I : List Int) : exTs (extQ5 D S U I) (dropL 12 (pcs Try.prog Try.f7)) (cst 92 [(9, listV encI 1 I), (10, .c (.ptr 0 0))] (ldH D [])) (endG [] (resOf Try.prog Try.f7)) = Tr.rq
    ((True ∧
        D.M.length = D.M.length ∧
          D.M.length = D.M.length ∧
            (∀ (e o : Nat), e < D.M.length → o < 7 → rowC encPg D.M e o = rowC encPg D.M e o) ∧ okK Try.prog 81 = okK Try.prog 81 ∧ D.gp = D.gp ∧ okK Try.prog 79 = okK Try.prog 79 ∧ D.gs = D.gs) ∧
      StG D (gKey (ByteArray.mk #[104, 111, 116]) 1 (textLb [])) S ∧
        (2 ≤ 1000000 ∧ 3 ≤ 1000000 ∧ inR IntKind.i64 1 ∧ (∀ (t : Int), t ∈ S → inR IntKind.i64 t) ∧ S.length ≤ 1000000) ∧ lvalid D (ByteArray.mk #[104, 111, 116]) 1 [] S = listV encI 1 U)
    (Tr.rq ((IsL encI 1 U U.length (rowP encI U) ∧ IsL encI 1 I I.length (rowP encI I)) ∧ U.length ≤ 1000000)
      (bT (decide (U = I)) (Tr.rq True (Tr.done X.ret (St.mk [V.c (C.p (PV.b true))] []))) (Tr.done X.ret (St.mk [V.c (C.p (PV.b false))] [])))) := by kernel_rfl
end Go.AE
