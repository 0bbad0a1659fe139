/- AE contracts: (*Ledger).Amend: trees. -/
import Derived.Test.YtfjihbmehhccoaaP12
import Derived.Test.YtfjihbmehhccoaaP9
namespace Go.AE
set_option linter.unusedVariables false
set_option linter.unusedSimpArgs false
open Go.Proofs Go.Proofs.Ytfjihbmehhccoaa Go.RowKit
noncomputable def extTk : Ext := extOf [(45, mTick)]
theorem tM1 (D : Ld) (rest : List AO) (b : Nat) (ve se : Int) (ru : ByteArray) (L : List (ByteArray × ByteArray)) (T : List Int) : exTs extVa (takeL 6 (pcs Try.prog Try.f17)) (stIn Try.f17 [0, 1, 2, 3] [0] [b] [.c (.ptr 0 0), .c (.p (.s ru)), iV ve, listV enc2 2 L, listV encI 1 T, iV se] (ldH D rest)) (endM [0] (msk 95 [0, 4, 13, 14, 34, 35, 36]) (resOf Try.prog Try.f17)) = Tr.rq (IsL enc2 2 (decL dec2 L.length (rowP enc2 L)) L.length (rowP enc2 L))
    (bT (!pgOK (Pg.mk 0 ru ve (decL dec2 L.length (rowP enc2 L)) 0 se (ByteArray.mk #[])))
      (Tr.done X.ret
        (cst 2 [(0, V.c (C.ptr 0 0)), (1, V.c (C.p (PV.z (Value.slice none 0 0))))] [AO.pin 1 b, AO.cells 86 [C.sl 2 7 0 D.M.length, C.mp 3, C.mp 4], AO.row 31 7 D.M.length fun e o => renC [4, 0, 1, 2, 3] (renC [0, 1, 2, 3] (rowC encPg D.M e o)), AO.mapb (okK Try.prog 81) D.gp, AO.mapl (okK Try.prog 79) 3 1 D.gs none]))
      (Tr.done X.normal
        (cst 95 [(0, V.c (C.ptr 0 0)), (4, V.c (C.p (PV.l 1 T.length (rowP encI T)))), (13, V.c (C.ptr 1 0)), (14, V.c (C.mp 2)), (34, V.c (C.p (PV.l 1 T.length (rowP encI T)))), (35, V.c (C.p (PV.i IntKind.i64 (↑T.length : Int)))), (36, V.c (C.p (PV.i IntKind.i64 0)))] [AO.pin 3 b, AO.cells 31 [C.p (PV.i IntKind.i64 0), C.p (PV.s ru), C.p (PV.i IntKind.i64 ve), C.p (PV.l 2 L.length (rowP enc2 L)), C.p (PV.i IntKind.i64 0), C.p (PV.i IntKind.i64 se), C.p (PV.s (ByteArray.mk #[]))], AO.mapb (okK Try.prog 3) fun x => none, AO.cells 86 [C.sl 4 7 0 D.M.length, C.mp 5, C.mp 6], AO.row 31 7 D.M.length fun e o => renC [4, 5, 6, 0, 1, 2, 3] (renC [0, 1, 2, 3] (rowC encPg D.M e o)), AO.mapb (okK Try.prog 81) D.gp, AO.mapl (okK Try.prog 79) 3 1 D.gs none]))) := by kernel_rfl
theorem tM2 (D : Ld) (b i : Nat) (ve se : Int) (ru : ByteArray) (L : List (ByteArray × ByteArray)) (T : List Int) (nw : Value → Option Bool) : exTs extTk (lpB (pcs Try.prog Try.f17) 6) (cst 95 [(0, .c (.ptr 0 0)), (4, listV encI 1 T), (13, .c (.ptr 1 0)), (14, .c (.mp 2)), (34, listV encI 1 T), (35, iV (T.length : Nat)), (36, iV (i : Nat))] [.pin 3 b, .cells 31 [.p (.i .i64 0), .p (.s ru), .p (.i .i64 ve), .p (listP enc2 2 L), .p (.i .i64 0), .p (.i .i64 se), .p (.s ⟨#[]⟩)], .mapb (okK Try.prog 3) nw, .cells 86 [.sl 4 7 0 D.M.length, .mp 5, .mp 6], .row 31 7 D.M.length (rowC encPg D.M), .mapb (okK Try.prog 81) D.gp, .mapl (okK Try.prog 79) 3 1 D.gs none]) (endM [0] (msk 95 [0, 4, 13, 14, 34, 35, 36]) (resOf Try.prog Try.f17)) = bT (decide ((↑i : Int) < (↑T.length : Int)))
    (Tr.rq (0 ≤ (↑i : Int) ∧ (↑i : Int) < (↑T.length : Int))
      (Tr.rq True
        (bT (!tickZ (T.getD (↑i : Int).toNat default))
          (Tr.done X.ret
            (cst 2 [(0, V.c (C.ptr 0 0)), (1, V.c (C.p (PV.z (Value.slice none 0 0))))] [AO.pin 1 b, AO.cells 86 [C.sl 2 7 0 D.M.length, C.mp 3, C.mp 4], AO.row 31 7 D.M.length fun e o => renC [0, 3, 4, 5, 6] (rowC encPg D.M e o), AO.mapb (okK Try.prog 81) D.gp, AO.mapl (okK Try.prog 79) 3 1 D.gs none]))
          (Tr.rq (okK Try.prog 3 = okK Try.prog 3 ∧ okK Try.prog 3 (Value.int IntKind.i64 (T.getD (↑i : Int).toNat default)) = true)
            (Tr.rq (inR IntKind.i64 ((↑i : Int) + 1))
              (Tr.done X.normal
                (cst 95 [(0, V.c (C.ptr 0 0)), (4, V.c (C.p (PV.l 1 T.length (rowP encI T)))), (13, V.c (C.ptr 1 0)), (14, V.c (C.mp 2)), (34, V.c (C.p (PV.l 1 T.length (rowP encI T)))), (35, V.c (C.p (PV.i IntKind.i64 (↑T.length : Int)))), (36, V.c (C.p (PV.i IntKind.i64 ((↑i : Int) + 1))))] [AO.pin 3 b, AO.cells 31 [C.p (PV.i IntKind.i64 0), C.p (PV.s ru), C.p (PV.i IntKind.i64 ve), C.p (PV.l 2 L.length (rowP enc2 L)), C.p (PV.i IntKind.i64 0), C.p (PV.i IntKind.i64 se), C.p (PV.s (ByteArray.mk #[]))], AO.mapb (okK Try.prog 3) (setM nw (Value.int IntKind.i64 (T.getD (↑i : Int).toNat default)) true), AO.cells 86 [C.sl 4 7 0 D.M.length, C.mp 5, C.mp 6], AO.row 31 7 D.M.length fun e o => renC [0, 1, 2, 3, 4, 5, 6] (rowC encPg D.M e o), AO.mapb (okK Try.prog 81) D.gp, AO.mapl (okK Try.prog 79) 3 1 D.gs none])))))))
    (Tr.done (X.exit 0)
      (cst 95 [(0, V.c (C.ptr 0 0)), (4, V.c (C.p (PV.l 1 T.length (rowP encI T)))), (13, V.c (C.ptr 1 0)), (14, V.c (C.mp 2)), (34, V.c (C.p (PV.l 1 T.length (rowP encI T)))), (35, V.c (C.p (PV.i IntKind.i64 (↑T.length : Int)))), (36, V.c (C.p (PV.i IntKind.i64 (↑i : Int))))] [AO.pin 3 b, AO.cells 31 [C.p (PV.i IntKind.i64 0), C.p (PV.s ru), C.p (PV.i IntKind.i64 ve), C.p (PV.l 2 L.length (rowP enc2 L)), C.p (PV.i IntKind.i64 0), C.p (PV.i IntKind.i64 se), C.p (PV.s (ByteArray.mk #[]))], AO.mapb (okK Try.prog 3) nw, AO.cells 86 [C.sl 4 7 0 D.M.length, C.mp 5, C.mp 6], AO.row 31 7 D.M.length fun e o => renC [0, 1, 2, 3, 4, 5, 6] (rowC encPg D.M e o), AO.mapb (okK Try.prog 81) D.gp, AO.mapl (okK Try.prog 79) 3 1 D.gs none])) := by kernel_rfl
theorem tM3 (D : Ld) (b : Nat) (ve se : Int) (ru : ByteArray) (L : List (ByteArray × ByteArray)) (T : List Int) (nw : Value → Option Bool) : exTs extVa (takeL 1 (dropL 7 (pcs Try.prog Try.f17))) (cst 95 [(0, .c (.ptr 0 0)), (4, listV encI 1 T), (13, .c (.ptr 1 0)), (14, .c (.mp 2))] [.pin 3 b, .cells 31 [.p (.i .i64 0), .p (.s ru), .p (.i .i64 ve), .p (listP enc2 2 L), .p (.i .i64 0), .p (.i .i64 se), .p (.s ⟨#[]⟩)], .mapb (okK Try.prog 3) nw, .cells 86 [.sl 4 7 0 D.M.length, .mp 5, .mp 6], .row 31 7 D.M.length (rowC encPg D.M), .mapb (okK Try.prog 81) D.gp, .mapl (okK Try.prog 79) 3 1 D.gs none]) (endM [0] (msk 95 [0, 4, 13, 14, 17]) (resOf Try.prog Try.f17)) = Tr.rq (IsL enc2 2 (decL dec2 L.length (rowP enc2 L)) L.length (rowP enc2 L) ∧ (textLb (decL dec2 L.length (rowP enc2 L))).size ≤ 1000000)
    (Tr.done X.normal
      (cst 95 [(0, V.c (C.ptr 0 0)), (4, V.c (C.p (PV.l 1 T.length (rowP encI T)))), (13, V.c (C.ptr 1 0)), (14, V.c (C.mp 2)), (17, V.c (C.ptr 3 0))] [AO.pin 4 b, AO.cells 31 [C.p (PV.i IntKind.i64 0), C.p (PV.s ru), C.p (PV.i IntKind.i64 ve), C.p (PV.l 2 L.length (rowP enc2 L)), C.p (PV.i IntKind.i64 0), C.p (PV.i IntKind.i64 se), C.p (PV.s (ByteArray.mk #[]))], AO.mapb (okK Try.prog 3) nw, AO.cells 79 [C.p (PV.s ru), C.p (PV.i IntKind.i64 ve), C.p (PV.s (textLb (decL dec2 L.length (rowP enc2 L))))], AO.cells 86 [C.sl 5 7 0 D.M.length, C.mp 6, C.mp 7], AO.row 31 7 D.M.length fun e o => renC [0, 1, 2, 7, 3, 4, 5, 6] (rowC encPg D.M e o), AO.mapb (okK Try.prog 81) D.gp, AO.mapl (okK Try.prog 79) 3 1 D.gs none])) := by kernel_rfl
noncomputable def extCt (A : List Int) : Ext := catX 46 mConcat (extH [(44, mSortI A), (47, mCompI (sortI A))])
noncomputable def extAm (D : Ld) : Ext := extH [(48, mAdd D), (49, liftM mSep)]
theorem tM4 (D : Ld) (b : Nat) (ve se : Int) (ru tx : ByteArray) (L : List (ByteArray × ByteArray)) (S T : List Int) (nw : Value → Option Bool) : exTs (extCt (S ++ T)) (takeL 4 (dropL 1 (dropL 7 (pcs Try.prog Try.f17)))) (cst 95 [(0, .c (.ptr 0 0)), (4, listV encI 1 T), (13, .c (.ptr 1 0)), (14, .c (.mp 2)), (17, .c (.ptr 3 0))] [.pin 4 b, .cells 31 [.p (.i .i64 0), .p (.s ru), .p (.i .i64 ve), .p (listP enc2 2 L), .p (.i .i64 0), .p (.i .i64 se), .p (.s ⟨#[]⟩)], .mapb (okK Try.prog 3) nw, .cells 79 [.p (.s ru), .p (.i .i64 ve), .p (.s tx)], .cells 86 [.sl 5 7 0 D.M.length, .mp 6, .mp 7], .row 31 7 D.M.length (rowC encPg D.M), .mapb (okK Try.prog 81) D.gp, .mapl (okK Try.prog 79) 3 1 D.gs (some (gKey ru ve tx, .sl 8 1 0 S.length)), .row 3 1 S.length (rowC encI S)]) (endM [0] (msk 95 [0, 13, 14, 17, 19, 61, 62, 63]) (resOf Try.prog Try.f17)) = Tr.rq
    ((okK Try.prog 79 = okK Try.prog 79 ∧ okK Try.prog 79 (Value.agg #[Value.string ru, Value.int IntKind.i64 ve, Value.string tx]) = true) ∧
      Value.agg #[Value.string ru, Value.int IntKind.i64 ve, Value.string tx] = gKey ru ve tx)
    (Tr.rq (0 + S.length ≤ S.length ∧ ∀ (e o : Nat), e < S.length → o < 1 → isF (rowC encI S e o) = true)
      (Tr.rq
        ((((IsL encI 1 (decL decI S.length fun e o => unP (rowC encI S (e + 0) o)) S.length fun e o => unP (rowC encI S (e + 0) o)) ∧
              IsL encI 1 (decL decI T.length (rowP encI T)) T.length (rowP encI T)) ∧
            (decL decI S.length fun e o => unP (rowC encI S (e + 0) o)).length + (decL decI T.length (rowP encI T)).length ≤ 1000000) ∧
          ((decL decI S.length fun e o => unP (rowC encI S (e + 0) o)) ++ decL decI T.length (rowP encI T)).length =
              ((decL decI S.length fun e o => unP (rowC encI S (e + 0) o)) ++ decL decI T.length (rowP encI T)).length ∧
            ∀ (e o : Nat),
              e < ((decL decI S.length fun e o => unP (rowC encI S (e + 0) o)) ++ decL decI T.length (rowP encI T)).length →
                o < 1 → scC (C.p (rowP encI ((decL decI S.length fun e o => unP (rowC encI S (e + 0) o)) ++ decL decI T.length (rowP encI T)) e o)) = true)
        (Tr.rq
          (((decL decI S.length fun e o => unP (rowC encI S (e + 0) o)) ++ decL decI T.length (rowP encI T)).length = (S ++ T).length ∧
            ((decL decI S.length fun e o => unP (rowC encI S (e + 0) o)) ++ decL decI T.length (rowP encI T)).length = (S ++ T).length ∧
              (rowI (S ++ T) fun e o => C.p (rowP encI ((decL decI S.length fun e o => unP (rowC encI S (e + 0) o)) ++ decL decI T.length (rowP encI T)) e o)) ∧ (S ++ T).length ≤ 1000000)
          (Tr.rq
            (((decL decI S.length fun e o => unP (rowC encI S (e + 0) o)) ++ decL decI T.length (rowP encI T)).length = (sortI (S ++ T)).length ∧
              (S ++ T).length = (sortI (S ++ T)).length ∧ rowI (sortI (S ++ T)) (rowC encI (sortI (S ++ T))) ∧ (sortI (S ++ T)).length ≤ 1000000)
            (Tr.done X.normal
              (cst 95 [(0, V.c (C.ptr 0 0)), (13, V.c (C.ptr 1 0)), (14, V.c (C.mp 2)), (17, V.c (C.ptr 3 0)), (19, V.c (C.p (PV.z (Value.slice none 0 0)))), (61, V.c (C.sl 4 1 0 (compI (sortI (S ++ T))).length)), (62, V.c (C.p (PV.i IntKind.i64 (↑(compI (sortI (S ++ T))).length : Int)))), (63, V.c (C.p (PV.i IntKind.i64 0)))] [AO.pin 5 b, AO.cells 31 [C.p (PV.i IntKind.i64 0), C.p (PV.s ru), C.p (PV.i IntKind.i64 ve), C.p (PV.l 2 L.length (rowP enc2 L)), C.p (PV.i IntKind.i64 0), C.p (PV.i IntKind.i64 se), C.p (PV.s (ByteArray.mk #[]))], AO.mapb (okK Try.prog 3) nw, AO.cells 79 [C.p (PV.s ru), C.p (PV.i IntKind.i64 ve), C.p (PV.s tx)], AO.row 3 1 (compI (sortI (S ++ T))).length fun e o => renC [0, 1, 2, 3, 10, 4, 5, 6, 7, 8] (rowC encI (compI (sortI (S ++ T))) e o), AO.cells 86 [C.sl 6 7 0 D.M.length, C.mp 7, C.mp 8], AO.row 31 7 D.M.length fun e o => renC [0, 1, 2, 3, 10, 4, 5, 6, 7, 8] (rowC encPg D.M e o), AO.mapb (okK Try.prog 81) D.gp, AO.mapl (okK Try.prog 79) 3 1 D.gs (some (gKey ru ve tx, C.sl 9 1 0 S.length)), AO.row 3 1 S.length fun e o => renC [0, 1, 2, 3, 10, 4, 5, 6, 7, 8] (rowC encI S e o)])))))) := by kernel_rfl
theorem tM5 (D : Ld) (b i k : Nat) (kd ve st se : Int) (ru tx : ByteArray) (L : List (ByteArray × ByteArray)) (A : List Int) (out : List Pg) (nw : Value → Option Bool) : exTs (extAm D) (lpB (pcs Try.prog Try.f17) 12) (cst 95 [(0, .c (.ptr 4 0)), (13, .c (.ptr 5 0)), (14, .c (.mp 6)), (17, .c (.ptr 7 0)), (19, .c (.sl 8 7 0 k)), (61, listV encI 1 A), (62, iV (A.length : Nat)), (63, iV (i : Nat))] (ldH D [.pin 0 b, .cells 31 [.p (.i .i64 kd), .p (.s ru), .p (.i .i64 ve), .p (listP enc2 2 L), .p (.i .i64 st), .p (.i .i64 se), .p (.s ⟨#[]⟩)], .mapb (okK Try.prog 3) nw, .cells 79 [.p (.s ru), .p (.i .i64 ve), .p (.s tx)], .row 31 7 k (rowC encPg out)])) (endM [0] (msk 95 [0, 13, 14, 17, 19, 61, 62, 63]) (resOf Try.prog Try.f17)) = bT (decide ((↑i : Int) < (↑A.length : Int)))
    (Tr.rq (0 ≤ (↑i : Int) ∧ (↑i : Int) < (↑A.length : Int))
      (Tr.rq
        (okK Try.prog 81 = okK Try.prog 81 ∧ okK Try.prog 81 (Value.agg #[Value.string ru, Value.int IntKind.i64 ve, Value.string tx, Value.int IntKind.i64 (A.getD (↑i : Int).toNat default)]) = true)
        (Tr.rq (okK Try.prog 3 = okK Try.prog 3 ∧ okK Try.prog 3 (Value.int IntKind.i64 (A.getD (↑i : Int).toNat default)) = true)
          (bT
            ((D.gp (Value.agg #[Value.string ru, Value.int IntKind.i64 ve, Value.string tx, Value.int IntKind.i64 (A.getD (↑i : Int).toNat default)])).getD false ==
              (nw (Value.int IntKind.i64 (A.getD (↑i : Int).toNat default))).getD false)
            (Tr.rq (inR IntKind.i64 ((↑i : Int) + 1))
              (Tr.done X.normal
                (cst 95 [(0, V.c (C.ptr 0 0)), (13, V.c (C.ptr 1 0)), (14, V.c (C.mp 2)), (17, V.c (C.ptr 3 0)), (19, V.c (C.sl 4 7 0 k)), (61, V.c (C.p (PV.l 1 A.length (rowP encI A)))), (62, V.c (C.p (PV.i IntKind.i64 (↑A.length : Int)))), (63, V.c (C.p (PV.i IntKind.i64 ((↑i : Int) + 1))))] [AO.pin 5 b, AO.cells 31 [C.p (PV.i IntKind.i64 kd), C.p (PV.s ru), C.p (PV.i IntKind.i64 ve), C.p (PV.l 2 L.length (rowP enc2 L)), C.p (PV.i IntKind.i64 st), C.p (PV.i IntKind.i64 se), C.p (PV.s (ByteArray.mk #[]))], AO.mapb (okK Try.prog 3) nw, AO.cells 79 [C.p (PV.s ru), C.p (PV.i IntKind.i64 ve), C.p (PV.s tx)], AO.row 31 7 k fun e o => renC [4, 5, 6, 7, 8, 0, 1, 2, 3] (rowC encPg out e o), AO.cells 86 [C.sl 6 7 0 D.M.length, C.mp 7, C.mp 8], AO.row 31 7 D.M.length fun e o => renC [4, 5, 6, 7, 8, 0, 1, 2, 3] (rowC encPg D.M e o), AO.mapb (okK Try.prog 81) D.gp, AO.mapl (okK Try.prog 79) 3 1 D.gs none])))
            (bT ((D.gp (Value.agg #[Value.string ru, Value.int IntKind.i64 ve, Value.string tx, Value.int IntKind.i64 (A.getD (↑i : Int).toNat default)])).getD false)
              (Tr.rq
                (IsL enc2 2 (decL dec2 L.length (rowP enc2 L)) L.length (rowP enc2 L) ∧
                  (D.M.length = D.M.length ∧
                      D.M.length = D.M.length ∧ rowC encPg D.M = rowC encPg D.M ∧ okK Try.prog 81 = okK Try.prog 81 ∧ D.gp = D.gp ∧ okK Try.prog 79 = okK Try.prog 79 ∧ D.gs = D.gs) ∧
                    Fits D (Pg.mk 1 ru ve (decL dec2 L.length (rowP enc2 L)) (A.getD (↑i : Int).toNat default) se (ByteArray.mk #[])))
                (Tr.rq (IsL enc2 2 (decL dec2 L.length (rowP enc2 L)) L.length (rowP enc2 L) ∧ (decL dec2 L.length (rowP enc2 L)).length ≤ 1000000)
                  (Tr.rq (k = k)
                    (Tr.rq (1 ≤ 1)
                      (Tr.rq
                        ((k + 1) * 88 ≤ 140737488355328 ∧
                          k + 1 ≤ 140737488355328 ∧
                            ∀ (e o : Nat),
                              e < 1 →
                                o < 7 →
                                  oneC
                                      (bslF
                                        [C.p (PV.i IntKind.i64 1), C.p (PV.s ru), C.p (PV.i IntKind.i64 ve),
                                          C.p (PV.l 2 (decL dec2 L.length (rowP enc2 L)).length (rowP enc2 (decL dec2 L.length (rowP enc2 L)))), C.p (PV.i IntKind.i64 (A.getD (↑i : Int).toNat default)),
                                          C.p (PV.i IntKind.i64 se), C.p (PV.s (ByteArray.mk #[]))]
                                        7 1 (e + 0) o) =
                                    true)
                        (Tr.rq (inR IntKind.i64 ((↑i : Int) + 1))
                          (Tr.done X.normal
                            (cst 95 [(0, V.c (C.ptr 0 0)), (13, V.c (C.ptr 1 0)), (14, V.c (C.mp 2)), (17, V.c (C.ptr 3 0)), (19, V.c (C.sl 4 7 0 (k + 1))), (61, V.c (C.p (PV.l 1 A.length (rowP encI A)))), (62, V.c (C.p (PV.i IntKind.i64 (↑A.length : Int)))), (63, V.c (C.p (PV.i IntKind.i64 ((↑i : Int) + 1))))] [AO.pin 5 b, AO.cells 31 [C.p (PV.i IntKind.i64 1), C.p (PV.s ru), C.p (PV.i IntKind.i64 ve), C.p (PV.l 2 L.length (rowP enc2 L)), C.p (PV.i IntKind.i64 (A.getD (↑i : Int).toNat default)), C.p (PV.i IntKind.i64 se), C.p (PV.s (ByteArray.mk #[]))], AO.mapb (okK Try.prog 3) nw, AO.cells 79 [C.p (PV.s ru), C.p (PV.i IntKind.i64 ve), C.p (PV.s tx)], AO.row 31 7 (k + 1) fun e o => renC [4, 5, 6, 7, 15, 0, 11, 12, 13] (appF k (rowC encPg out) (fun e o => nth C.top [C.p (PV.i IntKind.i64 1), C.p (PV.s ru), C.p (PV.i IntKind.i64 ve), C.p (PV.l 2 (decL dec2 L.length (rowP enc2 L)).length (rowP enc2 (decL dec2 L.length (rowP enc2 L)))), C.p (PV.i IntKind.i64 (A.getD (↑i : Int).toNat default)), C.p (PV.i IntKind.i64 se), C.p (PV.s (ByteArray.mk #[]))] ((e + 0) * 7 + o)) e o), AO.cells 86 [C.sl 6 7 0 (ladd D (Pg.mk 1 ru ve (decL dec2 L.length (rowP enc2 L)) (A.getD (↑i : Int).toNat default) se (ByteArray.mk #[]))).M.length, C.mp 7, C.mp 8], AO.row 31 7 (ladd D (Pg.mk 1 ru ve (decL dec2 L.length (rowP enc2 L)) (A.getD (↑i : Int).toNat default) se (ByteArray.mk #[]))).M.length fun e o => renC [4, 5, 6, 7, 15, 0, 11, 12, 13] (C.p (rowP encPg (ladd D (Pg.mk 1 ru ve (decL dec2 L.length (rowP enc2 L)) (A.getD (↑i : Int).toNat default) se (ByteArray.mk #[]))).M e o)), AO.mapb (okK Try.prog 81) (ladd D (Pg.mk 1 ru ve (decL dec2 L.length (rowP enc2 L)) (A.getD (↑i : Int).toNat default) se (ByteArray.mk #[]))).gp, AO.mapl (okK Try.prog 79) 3 1 (ladd D (Pg.mk 1 ru ve (decL dec2 L.length (rowP enc2 L)) (A.getD (↑i : Int).toNat default) se (ByteArray.mk #[]))).gs none]))))))))
              (Tr.rq
                (IsL enc2 2 (decL dec2 L.length (rowP enc2 L)) L.length (rowP enc2 L) ∧
                  (D.M.length = D.M.length ∧
                      D.M.length = D.M.length ∧ rowC encPg D.M = rowC encPg D.M ∧ okK Try.prog 81 = okK Try.prog 81 ∧ D.gp = D.gp ∧ okK Try.prog 79 = okK Try.prog 79 ∧ D.gs = D.gs) ∧
                    Fits D (Pg.mk 2 ru ve (decL dec2 L.length (rowP enc2 L)) (A.getD (↑i : Int).toNat default) se (ByteArray.mk #[])))
                (Tr.rq (IsL enc2 2 (decL dec2 L.length (rowP enc2 L)) L.length (rowP enc2 L) ∧ (decL dec2 L.length (rowP enc2 L)).length ≤ 1000000)
                  (Tr.rq (k = k)
                    (Tr.rq (1 ≤ 1)
                      (Tr.rq
                        ((k + 1) * 88 ≤ 140737488355328 ∧
                          k + 1 ≤ 140737488355328 ∧
                            ∀ (e o : Nat),
                              e < 1 →
                                o < 7 →
                                  oneC
                                      (bslF
                                        [C.p (PV.i IntKind.i64 2), C.p (PV.s ru), C.p (PV.i IntKind.i64 ve),
                                          C.p (PV.l 2 (decL dec2 L.length (rowP enc2 L)).length (rowP enc2 (decL dec2 L.length (rowP enc2 L)))), C.p (PV.i IntKind.i64 (A.getD (↑i : Int).toNat default)),
                                          C.p (PV.i IntKind.i64 se), C.p (PV.s (ByteArray.mk #[]))]
                                        7 1 (e + 0) o) =
                                    true)
                        (Tr.rq (inR IntKind.i64 ((↑i : Int) + 1))
                          (Tr.done X.normal
                            (cst 95 [(0, V.c (C.ptr 0 0)), (13, V.c (C.ptr 1 0)), (14, V.c (C.mp 2)), (17, V.c (C.ptr 3 0)), (19, V.c (C.sl 4 7 0 (k + 1))), (61, V.c (C.p (PV.l 1 A.length (rowP encI A)))), (62, V.c (C.p (PV.i IntKind.i64 (↑A.length : Int)))), (63, V.c (C.p (PV.i IntKind.i64 ((↑i : Int) + 1))))] [AO.pin 5 b, AO.cells 31 [C.p (PV.i IntKind.i64 2), C.p (PV.s ru), C.p (PV.i IntKind.i64 ve), C.p (PV.l 2 L.length (rowP enc2 L)), C.p (PV.i IntKind.i64 (A.getD (↑i : Int).toNat default)), C.p (PV.i IntKind.i64 se), C.p (PV.s (ByteArray.mk #[]))], AO.mapb (okK Try.prog 3) nw, AO.cells 79 [C.p (PV.s ru), C.p (PV.i IntKind.i64 ve), C.p (PV.s tx)], AO.row 31 7 (k + 1) fun e o => renC [4, 5, 6, 7, 15, 0, 11, 12, 13] (appF k (rowC encPg out) (fun e o => nth C.top [C.p (PV.i IntKind.i64 2), C.p (PV.s ru), C.p (PV.i IntKind.i64 ve), C.p (PV.l 2 (decL dec2 L.length (rowP enc2 L)).length (rowP enc2 (decL dec2 L.length (rowP enc2 L)))), C.p (PV.i IntKind.i64 (A.getD (↑i : Int).toNat default)), C.p (PV.i IntKind.i64 se), C.p (PV.s (ByteArray.mk #[]))] ((e + 0) * 7 + o)) e o), AO.cells 86 [C.sl 6 7 0 (ladd D (Pg.mk 2 ru ve (decL dec2 L.length (rowP enc2 L)) (A.getD (↑i : Int).toNat default) se (ByteArray.mk #[]))).M.length, C.mp 7, C.mp 8], AO.row 31 7 (ladd D (Pg.mk 2 ru ve (decL dec2 L.length (rowP enc2 L)) (A.getD (↑i : Int).toNat default) se (ByteArray.mk #[]))).M.length fun e o => renC [4, 5, 6, 7, 15, 0, 11, 12, 13] (C.p (rowP encPg (ladd D (Pg.mk 2 ru ve (decL dec2 L.length (rowP enc2 L)) (A.getD (↑i : Int).toNat default) se (ByteArray.mk #[]))).M e o)), AO.mapb (okK Try.prog 81) (ladd D (Pg.mk 2 ru ve (decL dec2 L.length (rowP enc2 L)) (A.getD (↑i : Int).toNat default) se (ByteArray.mk #[]))).gp, AO.mapl (okK Try.prog 79) 3 1 (ladd D (Pg.mk 2 ru ve (decL dec2 L.length (rowP enc2 L)) (A.getD (↑i : Int).toNat default) se (ByteArray.mk #[]))).gs none])))))))))))))
    (Tr.done (X.exit 2)
      (cst 95 [(0, V.c (C.ptr 0 0)), (13, V.c (C.ptr 1 0)), (14, V.c (C.mp 2)), (17, V.c (C.ptr 3 0)), (19, V.c (C.sl 4 7 0 k)), (61, V.c (C.p (PV.l 1 A.length (rowP encI A)))), (62, V.c (C.p (PV.i IntKind.i64 (↑A.length : Int)))), (63, V.c (C.p (PV.i IntKind.i64 (↑i : Int))))] [AO.pin 5 b, AO.cells 31 [C.p (PV.i IntKind.i64 kd), C.p (PV.s ru), C.p (PV.i IntKind.i64 ve), C.p (PV.l 2 L.length (rowP enc2 L)), C.p (PV.i IntKind.i64 st), C.p (PV.i IntKind.i64 se), C.p (PV.s (ByteArray.mk #[]))], AO.mapb (okK Try.prog 3) nw, AO.cells 79 [C.p (PV.s ru), C.p (PV.i IntKind.i64 ve), C.p (PV.s tx)], AO.row 31 7 k fun e o => renC [4, 5, 6, 7, 8, 0, 1, 2, 3] (rowC encPg out e o), AO.cells 86 [C.sl 6 7 0 D.M.length, C.mp 7, C.mp 8], AO.row 31 7 D.M.length fun e o => renC [4, 5, 6, 7, 8, 0, 1, 2, 3] (rowC encPg D.M e o), AO.mapb (okK Try.prog 81) D.gp, AO.mapl (okK Try.prog 79) 3 1 D.gs none])) := by kernel_rfl
end Go.AE
