/- AE contracts: (*Ledger).Valid. -/
import Derived.Test.YtfjihbmehhccoaaP7
import Derived.Test.YtfjihbmehhccoaaAeE
namespace Go.AE
set_option linter.unusedVariables false
set_option linter.unusedSimpArgs false
open Go.Proofs Go.Proofs.Ytfjihbmehhccoaa Go.RowKit
noncomputable def extSI (L : List Int) : Ext := extH [(44, mSortI L)]
def extVa : Ext := extOf [(42, mPVal), (43, mOf)]
theorem tV1 (D : Ld) (rest : List AO) (b : Nat) (ve : Int) (ru : ByteArray) (L : List (ByteArray × ByteArray)) : exTs extVa (takeL 6 (pcs Try.prog Try.f16)) (stIn Try.f16 [0, 1, 2, 3] [0] [b] [.c (.ptr 0 0), .c (.p (.s ru)), iV ve, listV enc2 2 L] (ldH D rest)) (endM [0] (msk 51 [0, 10, 11]) (resOf Try.prog Try.f16)) = Tr.rq (IsL enc2 2 (decL dec2 L.length (rowP enc2 L)) L.length (rowP enc2 L))
    (bT (!pgOK (Pg.mk 0 ru ve (decL dec2 L.length (rowP enc2 L)) 0 0 (ByteArray.mk #[])))
      (Tr.done X.ret
        (cst 2 [(0, V.c (C.ptr 0 0)), (1, V.c (C.p (PV.z (Value.slice none 0 0))))] [AO.pin 1 b, AO.cells 86 [C.sl 2 7 0 D.M.length, C.mp 3, C.mp 4], AO.row 31 7 D.M.length fun e o => renC [4, 0, 1, 2, 3] (renC [0, 1, 2, 3] (rowC encPg D.M e o)), AO.mapb (okK Try.prog 81) D.gp, AO.mapl (okK Try.prog 79) 3 1 D.gs none]))
      (Tr.rq (IsL enc2 2 (decL dec2 L.length (rowP enc2 L)) L.length (rowP enc2 L) ∧ (textLb (decL dec2 L.length (rowP enc2 L))).size ≤ 1000000)
        (Tr.done X.normal
          (cst 51 [(0, V.c (C.ptr 0 0)), (10, V.c (C.p (PV.z (Value.slice none 0 0)))), (11, V.c (C.ptr 1 0))] [AO.pin 2 b, AO.cells 79 [C.p (PV.s ru), C.p (PV.i IntKind.i64 ve), C.p (PV.s (textLb (decL dec2 L.length (rowP enc2 L))))], AO.cells 86 [C.sl 3 7 0 D.M.length, C.mp 4, C.mp 5], AO.row 31 7 D.M.length fun e o => renC [4, 6, 0, 1, 2, 3] (renC [0, 1, 2, 3] (rowC encPg D.M e o)), AO.mapb (okK Try.prog 81) D.gp, AO.mapl (okK Try.prog 79) 3 1 D.gs none])))) := by kernel_rfl
theorem tV2 (D : Ld) (b : Nat) (ve : Int) (ru tx : ByteArray) (S : List Int) : exTs extVa (takeL 1 (dropL 6 (pcs Try.prog Try.f16))) (cst 51 [(0, .c (.ptr 0 0)), (10, .c (.sl 7 1 0 0)), (11, .c (.ptr 1 0))] [.pin 2 b, .cells 79 [.p (.s ru), .p (.i .i64 ve), .p (.s tx)], .cells 86 [.sl 3 7 0 D.M.length, .mp 4, .mp 5], .row 31 7 D.M.length (rowC encPg D.M), .mapb (okK Try.prog 81) D.gp, .mapl (okK Try.prog 79) 3 1 D.gs (some (gKey ru ve tx, .sl 6 1 0 S.length)), .row 3 1 S.length (rowC encI S), .row 3 1 0 (rowC encI [])]) (endM [0] (msk 51 [0, 10, 11, 29, 30, 31]) (resOf Try.prog Try.f16)) = Tr.rq
    ((okK Try.prog 79 = okK Try.prog 79 ∧ okK Try.prog 79 (Value.agg #[Value.string ru, Value.int IntKind.i64 ve, Value.string tx]) = true) ∧
      Value.agg #[Value.string ru, Value.int IntKind.i64 ve, Value.string tx] = gKey ru ve tx)
    (Tr.done X.normal
      (cst 51 [(0, V.c (C.ptr 0 0)), (10, V.c (C.sl 1 1 0 0)), (11, V.c (C.ptr 2 0)), (29, V.c (C.sl 3 1 0 S.length)), (30, V.c (C.p (PV.i IntKind.i64 (↑S.length : Int)))), (31, V.c (C.p (PV.i IntKind.i64 0)))] [AO.pin 4 b, AO.row 3 1 0 fun e o => renC [0, 7, 1, 6, 2, 3, 4, 5] (rowC encI [] e o), AO.cells 79 [C.p (PV.s ru), C.p (PV.i IntKind.i64 ve), C.p (PV.s tx)], AO.row 3 1 S.length fun e o => renC [0, 7, 1, 6, 2, 3, 4, 5] (rowC encI S e o), AO.cells 86 [C.sl 5 7 0 D.M.length, C.mp 6, C.mp 7], AO.row 31 7 D.M.length fun e o => renC [0, 7, 1, 6, 2, 3, 4, 5] (rowC encPg D.M e o), AO.mapb (okK Try.prog 81) D.gp, AO.mapl (okK Try.prog 79) 3 1 D.gs (some (gKey ru ve tx, C.sl 3 1 0 S.length))])) := by kernel_rfl
theorem tV3 (D : Ld) (b : Nat) (ve : Int) (ru tx : ByteArray) (S out : List Int) (k i : Nat) : exTs extVa (lpB (pcs Try.prog Try.f16) 7) (cst 51 [(0, .c (.ptr 0 0)), (10, .c (.sl 1 1 0 k)), (11, .c (.ptr 2 0)), (29, .c (.sl 3 1 0 S.length)), (30, iV (S.length : Nat)), (31, iV (i : Nat))] [.pin 4 b, .row 3 1 k (rowC encI out), .cells 79 [.p (.s ru), .p (.i .i64 ve), .p (.s tx)], .row 3 1 S.length (rowC encI S), .cells 86 [.sl 5 7 0 D.M.length, .mp 6, .mp 7], .row 31 7 D.M.length (rowC encPg D.M), .mapb (okK Try.prog 81) D.gp, .mapl (okK Try.prog 79) 3 1 D.gs (some (gKey ru ve tx, .sl 3 1 0 S.length))]) (endM [0] (msk 51 [0, 10, 11, 29, 30, 31]) (resOf Try.prog Try.f16)) = bT (decide ((↑i : Int) < (↑S.length : Int)))
    (Tr.rq (0 ≤ (↑i : Int) ∧ (↑i : Int) < (↑S.length : Int))
      (Tr.rq ((↑i : Int).toNat + 0 < S.length)
        (Tr.rq
          (okK Try.prog 81 = okK Try.prog 81 ∧
            okK Try.prog 81 (Value.agg #[Value.string ru, Value.int IntKind.i64 ve, Value.string tx, Value.int IntKind.i64 (S.getD ((↑i : Int).toNat + 0) default)]) = true)
          (bT ((D.gp (Value.agg #[Value.string ru, Value.int IntKind.i64 ve, Value.string tx, Value.int IntKind.i64 (S.getD ((↑i : Int).toNat + 0) default)])).getD false)
            (Tr.rq (k = k)
              (Tr.rq (1 ≤ 1)
                (Tr.rq
                  ((k + 1) * 8 ≤ 140737488355328 ∧
                    k + 1 ≤ 140737488355328 ∧ ∀ (e o : Nat), e < 1 → o < 1 → oneC (bslF [C.p (PV.i IntKind.i64 (S.getD ((↑i : Int).toNat + 0) default))] 1 1 (e + 0) o) = true)
                  (Tr.rq (inR IntKind.i64 ((↑i : Int) + 1))
                    (Tr.done X.normal
                      (cst 51 [(0, V.c (C.ptr 0 0)), (10, V.c (C.sl 1 1 0 (k + 1))), (11, V.c (C.ptr 2 0)), (29, V.c (C.sl 3 1 0 S.length)), (30, V.c (C.p (PV.i IntKind.i64 (↑S.length : Int)))), (31, V.c (C.p (PV.i IntKind.i64 ((↑i : Int) + 1))))] [AO.pin 4 b, AO.row 3 1 (k + 1) fun e o => renC [0, 9, 2, 3, 4, 5, 6, 7] (appF k (rowC encI out) (fun e o => nth C.top [C.p (PV.i IntKind.i64 (S.getD ((↑i : Int).toNat + 0) default))] ((e + 0) * 1 + o)) e o), AO.cells 79 [C.p (PV.s ru), C.p (PV.i IntKind.i64 ve), C.p (PV.s tx)], AO.row 3 1 S.length fun e o => renC [0, 9, 2, 3, 4, 5, 6, 7] (rowC encI S e o), AO.cells 86 [C.sl 5 7 0 D.M.length, C.mp 6, C.mp 7], AO.row 31 7 D.M.length fun e o => renC [0, 9, 2, 3, 4, 5, 6, 7] (rowC encPg D.M e o), AO.mapb (okK Try.prog 81) D.gp, AO.mapl (okK Try.prog 79) 3 1 D.gs (some (gKey ru ve tx, C.sl 3 1 0 S.length))]))))))
            (Tr.rq (inR IntKind.i64 ((↑i : Int) + 1))
              (Tr.done X.normal
                (cst 51 [(0, V.c (C.ptr 0 0)), (10, V.c (C.sl 1 1 0 k)), (11, V.c (C.ptr 2 0)), (29, V.c (C.sl 3 1 0 S.length)), (30, V.c (C.p (PV.i IntKind.i64 (↑S.length : Int)))), (31, V.c (C.p (PV.i IntKind.i64 ((↑i : Int) + 1))))] [AO.pin 4 b, AO.row 3 1 k fun e o => renC [0, 1, 2, 3, 4, 5, 6, 7] (rowC encI out e o), AO.cells 79 [C.p (PV.s ru), C.p (PV.i IntKind.i64 ve), C.p (PV.s tx)], AO.row 3 1 S.length fun e o => renC [0, 1, 2, 3, 4, 5, 6, 7] (rowC encI S e o), AO.cells 86 [C.sl 5 7 0 D.M.length, C.mp 6, C.mp 7], AO.row 31 7 D.M.length fun e o => renC [0, 1, 2, 3, 4, 5, 6, 7] (rowC encPg D.M e o), AO.mapb (okK Try.prog 81) D.gp, AO.mapl (okK Try.prog 79) 3 1 D.gs (some (gKey ru ve tx, C.sl 3 1 0 S.length))])))))))
    (Tr.done (X.exit 0)
      (cst 51 [(0, V.c (C.ptr 0 0)), (10, V.c (C.sl 1 1 0 k)), (11, V.c (C.ptr 2 0)), (29, V.c (C.sl 3 1 0 S.length)), (30, V.c (C.p (PV.i IntKind.i64 (↑S.length : Int)))), (31, V.c (C.p (PV.i IntKind.i64 (↑i : Int))))] [AO.pin 4 b, AO.row 3 1 k fun e o => renC [0, 1, 2, 3, 4, 5, 6, 7] (rowC encI out e o), AO.cells 79 [C.p (PV.s ru), C.p (PV.i IntKind.i64 ve), C.p (PV.s tx)], AO.row 3 1 S.length fun e o => renC [0, 1, 2, 3, 4, 5, 6, 7] (rowC encI S e o), AO.cells 86 [C.sl 5 7 0 D.M.length, C.mp 6, C.mp 7], AO.row 31 7 D.M.length fun e o => renC [0, 1, 2, 3, 4, 5, 6, 7] (rowC encPg D.M e o), AO.mapb (okK Try.prog 81) D.gp, AO.mapl (okK Try.prog 79) 3 1 D.gs (some (gKey ru ve tx, C.sl 3 1 0 S.length))])) := by kernel_rfl
theorem tV4 (D : Ld) (b : Nat) (out : List Int) (k : Nat) : exTs (extSI out) (takeL 1 (dropL 8 (pcs Try.prog Try.f16))) (cst 51 [(0, .c (.ptr 0 0)), (10, .c (.sl 1 1 0 k))] [.pin 2 b, .row 3 1 k (rowC encI out), .cells 86 [.sl 3 7 0 D.M.length, .mp 4, .mp 5], .row 31 7 D.M.length (rowC encPg D.M), .mapb (okK Try.prog 81) D.gp, .mapl (okK Try.prog 79) 3 1 D.gs none]) (endM [0] (msk 51 [0, 10]) (resOf Try.prog Try.f16)) = Tr.rq (k = out.length ∧ k = out.length ∧ rowI out (rowC encI out) ∧ out.length ≤ 1000000)
    (Tr.done X.normal
      (cst 51 [(0, V.c (C.ptr 0 0)), (10, V.c (C.sl 1 1 0 k))] [AO.pin 2 b, AO.row 3 1 out.length fun e o => renC [0, 1, 2, 3, 4, 5] (rowC encI (sortI out) e o), AO.cells 86 [C.sl 3 7 0 D.M.length, C.mp 4, C.mp 5], AO.row 31 7 D.M.length fun e o => renC [0, 1, 2, 3, 4, 5] (rowC encPg D.M e o), AO.mapb (okK Try.prog 81) D.gp, AO.mapl (okK Try.prog 79) 3 1 D.gs none])) := by kernel_rfl
theorem tV5 (D : Ld) (b : Nat) (out : List Int) : exTs ext0 (dropL 9 (pcs Try.prog Try.f16)) (cst 51 [(0, .c (.ptr 0 0)), (10, listV encI 1 out)] [.pin 1 b, .cells 86 [.sl 2 7 0 D.M.length, .mp 3, .mp 4], .row 31 7 D.M.length (rowC encPg D.M), .mapb (okK Try.prog 81) D.gp, .mapl (okK Try.prog 79) 3 1 D.gs none]) (endM [0] [] (resOf Try.prog Try.f16)) = Tr.done X.ret
    (cst 2 [(0, V.c (C.ptr 0 0)), (1, V.c (C.p (PV.l 1 out.length (rowP encI out))))] [AO.pin 1 b, AO.cells 86 [C.sl 2 7 0 D.M.length, C.mp 3, C.mp 4], AO.row 31 7 D.M.length fun e o => renC [0, 1, 2, 3, 4] (rowC encPg D.M e o), AO.mapb (okK Try.prog 81) D.gp, AO.mapl (okK Try.prog 79) 3 1 D.gs none]) := by kernel_rfl
section
variable {G : Nat → Option Obj}
end
end Go.AE
