/- AE: the law RouteEscalates. -/
import Derived.Test.YtgjcldncnpochaaDoorE1
import Derived.Test.YtgjcldncnpochaaDoorS9
import Derived.Test.YtgjcldncnpochaaDoorS13
import Derived.Test.YtgjcldncnpochaaDoorS15
import Derived.Test.YtgjcldncnpochaaDoorGr3
import Derived.Test.YtgjcldncnpochaaDoorRo2
namespace Go.AE
open Go.Proofs Go.Proofs.YtgjcldncnpochaaDoor
set_option linter.unusedVariables false
set_option linter.unusedSimpArgs false
def mAStep0 : Mod
  | [.a [.p (.s r), .p (.i .i64 ver), .p (.z (.slice none 0 0)), .p (.i .i64 st), .p (.i .i64 si), .p (.i .i64 le)], .c (.p (.i .i64 vd)), .c (.p (.i .i64 tk))] => some (True, .t [alV1 (alStep ⟨r, ver, [], st, si, le⟩ vd tk).1, .c (.p (.b (alStep ⟨r, ver, [], st, si, le⟩ vd tk).2))])
  | _ => none
noncomputable def extE : Ext := extOf [(4, mRotaR), (5, mShifts), (7, mAcyclic), (6, mGraph), (8, mAround), (9, mFiring), (10, mAStep0), (11, mAEsc), (12, mDuty), (13, mGInhib), (14, mLives)]
/-- The alert of the law. -/
def al1 : Al := ⟨⟨#[114]⟩, 1, [], 0, 0, 0⟩

theorem tE1 (L M : List Int) (b t : Int) : exTs extE (takeL 8 (pcs Tryd.prog Tryd.f3)) (st0 Tryd.f3 [listV encI 1 L, listV encI 1 M, iV b, iV t]) (endG (msk 187 [9, 11, 12, 13, 14, 15, 16]) (resOf Tryd.prog Tryd.f3)) = Tr.rq (IsL encI 1 (decL decI L.length (rowP encI L)) L.length (rowP encI L) ∧ Ints (decL decI L.length (rowP encI L)))
    (Tr.rq
      (IsL enc3 3 (decL dec3 (rotaL false (decL decI L.length (rowP encI L))).length (rowP enc3 (rotaL false (decL decI L.length (rowP encI L))))) (rotaL false (decL decI L.length (rowP encI L))).length
          (rowP enc3 (rotaL false (decL decI L.length (rowP encI L)))) ∧
        (rotaL false (decL decI L.length (rowP encI L))).length ≤ 1000000)
      (Tr.rq (IsL encI 1 (decL decI M.length (rowP encI M)) M.length (rowP encI M) ∧ Ints (decL decI M.length (rowP encI M)))
        (Tr.rq True
          (Tr.rq (inR IntKind.i64 t ∧ Int.ofNat 0 < Int.ofNat 1000)
            (Tr.rq ((0 ≤ acN (decL decI M.length (rowP encI M)) ∧ acN (decL decI M.length (rowP encI M)) ≤ 1000000) ∧ inR IntKind.i64 b)
              (Tr.rq
                (0 ≤ acN (decL decI M.length (rowP encI M)) ∧
                  acN (decL decI M.length (rowP encI M)) ≤ acN (decL decI M.length (rowP encI M)) ∧
                    acN (decL decI M.length (rowP encI M)) * (↑1 : Int) ≤ 140737488355328 ∧ acN (decL decI M.length (rowP encI M)) ≤ 140737488355328)
                (Tr.done X.normal
                  (cst 187 [(9, V.c (C.p (PV.i IntKind.i64 (rotaP (decL decI L.length (rowP encI L)))))), (11, V.c (C.p (PV.l 3 (decL dec3 (rotaL false (decL decI L.length (rowP encI L))).length (rowP enc3 (rotaL false (decL decI L.length (rowP encI L))))).length (rowP enc3 (decL dec3 (rotaL false (decL decI L.length (rowP encI L))).length (rowP enc3 (rotaL false (decL decI L.length (rowP encI L))))))))), (12, V.c (C.ptr 0 0)), (13, V.c (C.p (PV.i IntKind.i64 (aroundZ t 1000)))), (14, V.c (C.p (PV.l 1 (firing (acN (decL decI M.length (rowP encI M))).toNat b).length (rowP encB (firing (acN (decL decI M.length (rowP encI M))).toNat b))))), (15, V.c (C.sl 1 1 0 (acN (decL decI M.length (rowP encI M))).toNat)), (16, V.c (C.p (PV.i IntKind.i64 0)))] [AO.cells 30 [C.p (PV.i IntKind.i64 (acN (decL decI M.length (rowP encI M)))), C.p (PV.l 2 (acG (decL decI M.length (rowP encI M))).length (rowP encE (acG (decL decI M.length (rowP encI M)))))], AO.row 4 1 (acN (decL decI M.length (rowP encI M))).toNat fun e o => renC [0, 1] (C.p (nth (PV.b false) [PV.b false] o))])))))))) := by kernel_rfl
theorem tE2 (P s : Int) (R : List Sh) (E : List Ed) (F out : List Bool) (n i : Nat) : exTs ext0 (takeL 2 (lpB (pcs Tryd.prog Tryd.f3) 8)) (cst 187 [(9, iV P), (11, listV enc3 3 R), (12, .c (.ptr 0 0)), (13, iV s), (14, listV encB 1 F), (15, .c (.sl 1 1 0 n)), (16, iV (i : Nat))] [.cells 30 [.p (.i .i64 (n : Nat)), .p (listP encE 2 E)], .row 4 1 n (rowC encB out)]) (endG (msk 187 [9, 11, 12, 13, 14, 15, 16]) (resOf Tryd.prog Tryd.f3)) = bT (decide ((↑i : Int) < (↑n : Int)))
    (Tr.done X.normal
      (cst 187 [(9, V.c (C.p (PV.i IntKind.i64 P))), (11, V.c (C.p (PV.l 3 R.length (rowP enc3 R)))), (12, V.c (C.ptr 0 0)), (13, V.c (C.p (PV.i IntKind.i64 s))), (14, V.c (C.p (PV.l 1 F.length (rowP encB F)))), (15, V.c (C.sl 1 1 0 n)), (16, V.c (C.p (PV.i IntKind.i64 (↑i : Int))))] [AO.cells 30 [C.p (PV.i IntKind.i64 (↑n : Int)), C.p (PV.l 2 E.length (rowP encE E))], AO.row 4 1 n fun e o => renC [0, 1] (rowC encB out e o)]))
    (Tr.done (X.exit 0)
      (cst 187 [(9, V.c (C.p (PV.i IntKind.i64 P))), (11, V.c (C.p (PV.l 3 R.length (rowP enc3 R)))), (12, V.c (C.ptr 0 0)), (13, V.c (C.p (PV.i IntKind.i64 s))), (14, V.c (C.p (PV.l 1 F.length (rowP encB F)))), (15, V.c (C.sl 1 1 0 n)), (16, V.c (C.p (PV.i IntKind.i64 (↑i : Int))))] [AO.cells 30 [C.p (PV.i IntKind.i64 (↑n : Int)), C.p (PV.l 2 E.length (rowP encE E))], AO.row 4 1 n fun e o => renC [0, 1] (rowC encB out e o)])) := by kernel_rfl
theorem tE3 (P s : Int) (R : List Sh) (E : List Ed) (F out : List Bool) (n i : Nat) : exTs extE (takeL 7 (flat (inr (nth .skip (lpB (pcs Tryd.prog Tryd.f3) 8) 2)))) (cst 187 [(9, iV P), (11, listV enc3 3 R), (12, .c (.ptr 0 0)), (13, iV s), (14, listV encB 1 F), (15, .c (.sl 1 1 0 n)), (16, iV (i : Nat))] [.cells 30 [.p (.i .i64 (n : Nat)), .p (listP encE 2 E)], .row 4 1 n (rowC encB out)]) (endG (msk 187 [9, 11, 12, 13, 14, 15, 16, 18, 20]) (resOf Tryd.prog Tryd.f3)) = Tr.rq (0 ≤ (↑i : Int) ∧ (↑i : Int) < (↑F.length : Int))
    (bT (F.getD (↑i : Int).toNat default)
      (Tr.rq True
        (Tr.rq (0 ≤ (↑i : Int) ∧ (↑i : Int) < (↑F.length : Int))
          (bT (!(alStep (Al.mk (ByteArray.mk #[114]) 1 [] 0 0 0) 2 s).snd == F.getD (↑i : Int).toNat default) (Tr.done X.ret (St.mk [V.c (C.p (PV.b false))] []))
            (Tr.done X.normal
              (cst 187 [(9, V.c (C.p (PV.i IntKind.i64 P))), (11, V.c (C.p (PV.l 3 R.length (rowP enc3 R)))), (12, V.c (C.ptr 0 0)), (13, V.c (C.p (PV.i IntKind.i64 s))), (14, V.c (C.p (PV.l 1 F.length (rowP encB F)))), (15, V.c (C.sl 1 1 0 n)), (16, V.c (C.p (PV.i IntKind.i64 (↑i : Int)))), (18, V.c (C.ptr 2 0)), (20, V.c (C.p (PV.i IntKind.i64 1)))] [AO.cells 30 [C.p (PV.i IntKind.i64 (↑n : Int)), C.p (PV.l 2 E.length (rowP encE E))], AO.row 4 1 n fun e o => renC [0, 1, 2] (rowC encB out e o), AO.cells 39 [C.p (PV.s (alStep (Al.mk (ByteArray.mk #[114]) 1 [] 0 0 0) 2 s).fst.r), C.p (PV.i IntKind.i64 (alStep (Al.mk (ByteArray.mk #[114]) 1 [] 0 0 0) 2 s).fst.ver), C.p (PV.l 2 0 (rowP enc2 (alStep (Al.mk (ByteArray.mk #[114]) 1 [] 0 0 0) 2 s).fst.L)), C.p (PV.i IntKind.i64 (alStep (Al.mk (ByteArray.mk #[114]) 1 [] 0 0 0) 2 s).fst.st), C.p (PV.i IntKind.i64 (alStep (Al.mk (ByteArray.mk #[114]) 1 [] 0 0 0) 2 s).fst.si), C.p (PV.i IntKind.i64 (alStep (Al.mk (ByteArray.mk #[114]) 1 [] 0 0 0) 2 s).fst.le)]])))))
      (Tr.rq True
        (Tr.rq (0 ≤ (↑i : Int) ∧ (↑i : Int) < (↑F.length : Int))
          (bT (!(alStep (Al.mk (ByteArray.mk #[114]) 1 [] 0 0 0) 1 s).snd == F.getD (↑i : Int).toNat default) (Tr.done X.ret (St.mk [V.c (C.p (PV.b false))] []))
            (Tr.done X.normal
              (cst 187 [(9, V.c (C.p (PV.i IntKind.i64 P))), (11, V.c (C.p (PV.l 3 R.length (rowP enc3 R)))), (12, V.c (C.ptr 0 0)), (13, V.c (C.p (PV.i IntKind.i64 s))), (14, V.c (C.p (PV.l 1 F.length (rowP encB F)))), (15, V.c (C.sl 1 1 0 n)), (16, V.c (C.p (PV.i IntKind.i64 (↑i : Int)))), (18, V.c (C.ptr 2 0)), (20, V.c (C.p (PV.i IntKind.i64 1)))] [AO.cells 30 [C.p (PV.i IntKind.i64 (↑n : Int)), C.p (PV.l 2 E.length (rowP encE E))], AO.row 4 1 n fun e o => renC [0, 1, 2] (rowC encB out e o), AO.cells 39 [C.p (PV.s (alStep (Al.mk (ByteArray.mk #[114]) 1 [] 0 0 0) 1 s).fst.r), C.p (PV.i IntKind.i64 (alStep (Al.mk (ByteArray.mk #[114]) 1 [] 0 0 0) 1 s).fst.ver), C.p (PV.l 2 0 (rowP enc2 (alStep (Al.mk (ByteArray.mk #[114]) 1 [] 0 0 0) 1 s).fst.L)), C.p (PV.i IntKind.i64 (alStep (Al.mk (ByteArray.mk #[114]) 1 [] 0 0 0) 1 s).fst.st), C.p (PV.i IntKind.i64 (alStep (Al.mk (ByteArray.mk #[114]) 1 [] 0 0 0) 1 s).fst.si), C.p (PV.i IntKind.i64 (alStep (Al.mk (ByteArray.mk #[114]) 1 [] 0 0 0) 1 s).fst.le)]])))))) := by kernel_rfl
theorem tE4 (P s : Int) (R : List Sh) (E : List Ed) (F out : List Bool) (n i k : Nat) (a : Al) : exTs ext0 (takeL 2 (lpB (flat (inr (nth .skip (lpB (pcs Tryd.prog Tryd.f3) 8) 2))) 7)) (cst 187 [(9, iV P), (11, listV enc3 3 R), (12, .c (.ptr 0 0)), (13, iV s), (14, listV encB 1 F), (15, .c (.sl 1 1 0 n)), (16, iV (i : Nat)), (18, .c (.ptr 2 0)), (20, iV (k : Nat))] [.cells 30 [.p (.i .i64 (n : Nat)), .p (listP encE 2 E)], .row 4 1 n (rowC encB out), .cells 39 [.p (.s a.r), .p (.i .i64 a.ver), .p (listP enc2 2 a.L), .p (.i .i64 a.st), .p (.i .i64 a.si), .p (.i .i64 a.le)]]) (endG (msk 187 [9, 11, 12, 13, 14, 15, 16, 18, 20]) (resOf Tryd.prog Tryd.f3)) = bT (decide ((↑k : Int) ≤ 3))
    (Tr.done X.normal
      (cst 187 [(9, V.c (C.p (PV.i IntKind.i64 P))), (11, V.c (C.p (PV.l 3 R.length (rowP enc3 R)))), (12, V.c (C.ptr 0 0)), (13, V.c (C.p (PV.i IntKind.i64 s))), (14, V.c (C.p (PV.l 1 F.length (rowP encB F)))), (15, V.c (C.sl 1 1 0 n)), (16, V.c (C.p (PV.i IntKind.i64 (↑i : Int)))), (18, V.c (C.ptr 2 0)), (20, V.c (C.p (PV.i IntKind.i64 (↑k : Int))))] [AO.cells 30 [C.p (PV.i IntKind.i64 (↑n : Int)), C.p (PV.l 2 E.length (rowP encE E))], AO.row 4 1 n fun e o => renC [0, 1, 2] (rowC encB out e o), AO.cells 39 [C.p (PV.s a.r), C.p (PV.i IntKind.i64 a.ver), C.p (PV.l 2 a.L.length (rowP enc2 a.L)), C.p (PV.i IntKind.i64 a.st), C.p (PV.i IntKind.i64 a.si), C.p (PV.i IntKind.i64 a.le)]]))
    (Tr.done (X.exit 2)
      (cst 187 [(9, V.c (C.p (PV.i IntKind.i64 P))), (11, V.c (C.p (PV.l 3 R.length (rowP enc3 R)))), (12, V.c (C.ptr 0 0)), (13, V.c (C.p (PV.i IntKind.i64 s))), (14, V.c (C.p (PV.l 1 F.length (rowP encB F)))), (15, V.c (C.sl 1 1 0 n)), (16, V.c (C.p (PV.i IntKind.i64 (↑i : Int)))), (18, V.c (C.ptr 2 0)), (20, V.c (C.p (PV.i IntKind.i64 (↑k : Int))))] [AO.cells 30 [C.p (PV.i IntKind.i64 (↑n : Int)), C.p (PV.l 2 E.length (rowP encE E))], AO.row 4 1 n fun e o => renC [0, 1, 2] (rowC encB out e o), AO.cells 39 [C.p (PV.s a.r), C.p (PV.i IntKind.i64 a.ver), C.p (PV.l 2 a.L.length (rowP enc2 a.L)), C.p (PV.i IntKind.i64 a.st), C.p (PV.i IntKind.i64 a.si), C.p (PV.i IntKind.i64 a.le)]])) := by kernel_rfl
theorem tE5 (P s : Int) (R : List Sh) (E : List Ed) (F out : List Bool) (n i k : Nat) (a : Al) : exTs extE (flat (inr (nth .skip (lpB (flat (inr (nth .skip (lpB (pcs Tryd.prog Tryd.f3) 8) 2))) 7) 2))) (cst 187 [(9, iV P), (11, listV enc3 3 R), (12, .c (.ptr 0 0)), (13, iV s), (14, listV encB 1 F), (15, .c (.sl 1 1 0 n)), (16, iV (i : Nat)), (18, .c (.ptr 2 0)), (20, iV (k : Nat))] [.cells 30 [.p (.i .i64 (n : Nat)), .p (listP encE 2 E)], .row 4 1 n (rowC encB out), .cells 39 [.p (.s a.r), .p (.i .i64 a.ver), .p (listP enc2 2 a.L), .p (.i .i64 a.st), .p (.i .i64 a.si), .p (.i .i64 a.le)]]) (endG (msk 187 [9, 11, 12, 13, 14, 15, 16, 18, 20]) (resOf Tryd.prog Tryd.f3)) = Tr.rq (inR IntKind.i64 (2 * (↑k : Int)))
    (Tr.rq (inR IntKind.i64 (s + 2 * (↑k : Int)))
      (Tr.rq
        (IsL enc2 2 (decL dec2 a.L.length (rowP enc2 a.L)) a.L.length (rowP enc2 a.L) ∧
          (Al.mk a.r a.ver (decL dec2 a.L.length (rowP enc2 a.L)) a.st a.si a.le).L.length ≤ 1000000 ∧
            inR IntKind.i64 (Al.mk a.r a.ver (decL dec2 a.L.length (rowP enc2 a.L)) a.st a.si a.le).si ∧ inR IntKind.i64 (Al.mk a.r a.ver (decL dec2 a.L.length (rowP enc2 a.L)) a.st a.si a.le).le)
        (Tr.rq (0 ≤ (↑i : Int) ∧ (↑i : Int) < (↑F.length : Int))
          (bT (!(alEsc (Al.mk a.r a.ver (decL dec2 a.L.length (rowP enc2 a.L)) a.st a.si a.le) (s + 2 * (↑k : Int)) 2 3).snd == F.getD (↑i : Int).toNat default)
            (Tr.done X.ret (St.mk [V.c (C.p (PV.b false))] []))
            (bT (!(alEsc (Al.mk a.r a.ver (decL dec2 a.L.length (rowP enc2 a.L)) a.st a.si a.le) (s + 2 * (↑k : Int)) 2 3).snd)
              (Tr.done (X.exit 3)
                (cst 187 [(9, V.c (C.p (PV.i IntKind.i64 P))), (11, V.c (C.p (PV.l 3 R.length (rowP enc3 R)))), (12, V.c (C.ptr 0 0)), (13, V.c (C.p (PV.i IntKind.i64 s))), (14, V.c (C.p (PV.l 1 F.length (rowP encB F)))), (15, V.c (C.sl 1 1 0 n)), (16, V.c (C.p (PV.i IntKind.i64 (↑i : Int)))), (18, V.c (C.ptr 2 0)), (20, V.c (C.p (PV.i IntKind.i64 (↑k : Int))))] [AO.cells 30 [C.p (PV.i IntKind.i64 (↑n : Int)), C.p (PV.l 2 E.length (rowP encE E))], AO.row 4 1 n fun e o => renC [0, 1, 2] (rowC encB out e o), AO.cells 39 [C.p (PV.s a.r), C.p (PV.i IntKind.i64 a.ver), C.p (PV.l 2 a.L.length (rowP enc2 a.L)), C.p (PV.i IntKind.i64 a.st), C.p (PV.i IntKind.i64 a.si), C.p (PV.i IntKind.i64 a.le)]]))
              (Tr.rq (inR IntKind.i64 ((alEsc (Al.mk a.r a.ver (decL dec2 a.L.length (rowP enc2 a.L)) a.st a.si a.le) (s + 2 * (↑k : Int)) 2 3).fst.le - 1))
                (Tr.rq (IsL enc3 3 (decL dec3 R.length (rowP enc3 R)) R.length (rowP enc3 R) ∧ R.length ≤ 1000000)
                  (Tr.rq (IsL enc3 3 (decL dec3 R.length (rowP enc3 R)) R.length (rowP enc3 R) ∧ R.length ≤ 1000000)
                    (Tr.rq (IsL enc3 3 (decL dec3 R.length (rowP enc3 R)) R.length (rowP enc3 R) ∧ R.length ≤ 1000000)
                      (bT
                        ((dutyZ P (decL dec3 R.length (rowP enc3 R)) (s + 2 * (↑k : Int))
                              ((alEsc (Al.mk a.r a.ver (decL dec2 a.L.length (rowP enc2 a.L)) a.st a.si a.le) (s + 2 * (↑k : Int)) 2 3).fst.le - 1)).snd !=
                          0)
                        (Tr.done X.ret (St.mk [V.c (C.p (PV.b false))] []))
                        (bT
                          ((dutyZ P (decL dec3 R.length (rowP enc3 R)) (s + 2 * (↑k : Int))
                                (alEsc (Al.mk a.r a.ver (decL dec2 a.L.length (rowP enc2 a.L)) a.st a.si a.le) (s + 2 * (↑k : Int)) 2 3).fst.le).snd !=
                            0)
                          (Tr.done X.ret (St.mk [V.c (C.p (PV.b false))] []))
                          (bT ((dutyZ P (decL dec3 R.length (rowP enc3 R)) (s + 2 * (↑k : Int)) 100).snd != 0) (Tr.done X.ret (St.mk [V.c (C.p (PV.b false))] []))
                            (bT ((alEsc (Al.mk a.r a.ver (decL dec2 a.L.length (rowP enc2 a.L)) a.st a.si a.le) (s + 2 * (↑k : Int)) 2 3).fst.le != (↑k : Int))
                              (Tr.done X.ret (St.mk [V.c (C.p (PV.b false))] []))
                              (bT
                                (!((dutyZ P (decL dec3 R.length (rowP enc3 R)) (s + 2 * (↑k : Int))
                                            ((alEsc (Al.mk a.r a.ver (decL dec2 a.L.length (rowP enc2 a.L)) a.st a.si a.le) (s + 2 * (↑k : Int)) 2 3).fst.le - 1)).fst.toList ==
                                      (dutyZ P (decL dec3 R.length (rowP enc3 R)) (s + 2 * (↑k : Int))
                                            (alEsc (Al.mk a.r a.ver (decL dec2 a.L.length (rowP enc2 a.L)) a.st a.si a.le) (s + 2 * (↑k : Int)) 2 3).fst.le).fst.toList) ==
                                    ((dutyZ P (decL dec3 R.length (rowP enc3 R)) (s + 2 * (↑k : Int))
                                            ((alEsc (Al.mk a.r a.ver (decL dec2 a.L.length (rowP enc2 a.L)) a.st a.si a.le) (s + 2 * (↑k : Int)) 2 3).fst.le - 1)).fst.toList ==
                                      (dutyZ P (decL dec3 R.length (rowP enc3 R)) (s + 2 * (↑k : Int)) 100).fst.toList))
                                (Tr.done X.ret (St.mk [V.c (C.p (PV.b false))] []))
                                (Tr.done X.normal
                                  (cst 187 [(9, V.c (C.p (PV.i IntKind.i64 P))), (11, V.c (C.p (PV.l 3 R.length (rowP enc3 R)))), (12, V.c (C.ptr 0 0)), (13, V.c (C.p (PV.i IntKind.i64 s))), (14, V.c (C.p (PV.l 1 F.length (rowP encB F)))), (15, V.c (C.sl 1 1 0 n)), (16, V.c (C.p (PV.i IntKind.i64 (↑i : Int)))), (18, V.c (C.ptr 2 0)), (20, V.c (C.p (PV.i IntKind.i64 (↑k : Int))))] [AO.cells 30 [C.p (PV.i IntKind.i64 (↑n : Int)), C.p (PV.l 2 E.length (rowP encE E))], AO.row 4 1 n fun e o => renC [0, 1, 2] (rowC encB out e o), AO.cells 39 [C.p (PV.s (alEsc (Al.mk a.r a.ver (decL dec2 a.L.length (rowP enc2 a.L)) a.st a.si a.le) (s + 2 * (↑k : Int)) 2 3).fst.r), C.p (PV.i IntKind.i64 (alEsc (Al.mk a.r a.ver (decL dec2 a.L.length (rowP enc2 a.L)) a.st a.si a.le) (s + 2 * (↑k : Int)) 2 3).fst.ver), C.p (PV.l 2 (alEsc (Al.mk a.r a.ver (decL dec2 a.L.length (rowP enc2 a.L)) a.st a.si a.le) (s + 2 * (↑k : Int)) 2 3).fst.L.length (rowP enc2 (alEsc (Al.mk a.r a.ver (decL dec2 a.L.length (rowP enc2 a.L)) a.st a.si a.le) (s + 2 * (↑k : Int)) 2 3).fst.L)), C.p (PV.i IntKind.i64 (alEsc (Al.mk a.r a.ver (decL dec2 a.L.length (rowP enc2 a.L)) a.st a.si a.le) (s + 2 * (↑k : Int)) 2 3).fst.st), C.p (PV.i IntKind.i64 (alEsc (Al.mk a.r a.ver (decL dec2 a.L.length (rowP enc2 a.L)) a.st a.si a.le) (s + 2 * (↑k : Int)) 2 3).fst.si), C.p (PV.i IntKind.i64 (alEsc (Al.mk a.r a.ver (decL dec2 a.L.length (rowP enc2 a.L)) a.st a.si a.le) (s + 2 * (↑k : Int)) 2 3).fst.le)]])))))))))))))))) := by kernel_rfl
theorem tE6 (P s : Int) (R : List Sh) (E : List Ed) (F out : List Bool) (n i k : Nat) (a : Al) : exTs ext0 (dropL 3 (lpB (flat (inr (nth .skip (lpB (pcs Tryd.prog Tryd.f3) 8) 2))) 7)) (cst 187 [(9, iV P), (11, listV enc3 3 R), (12, .c (.ptr 0 0)), (13, iV s), (14, listV encB 1 F), (15, .c (.sl 1 1 0 n)), (16, iV (i : Nat)), (18, .c (.ptr 2 0)), (20, iV (k : Nat))] [.cells 30 [.p (.i .i64 (n : Nat)), .p (listP encE 2 E)], .row 4 1 n (rowC encB out), .cells 39 [.p (.s a.r), .p (.i .i64 a.ver), .p (listP enc2 2 a.L), .p (.i .i64 a.st), .p (.i .i64 a.si), .p (.i .i64 a.le)]]) (endG (msk 187 [9, 11, 12, 13, 14, 15, 16, 18, 20]) (resOf Tryd.prog Tryd.f3)) = Tr.rq (inR IntKind.i64 ((↑k : Int) + 1))
    (Tr.done X.normal
      (cst 187 [(9, V.c (C.p (PV.i IntKind.i64 P))), (11, V.c (C.p (PV.l 3 R.length (rowP enc3 R)))), (12, V.c (C.ptr 0 0)), (13, V.c (C.p (PV.i IntKind.i64 s))), (14, V.c (C.p (PV.l 1 F.length (rowP encB F)))), (15, V.c (C.sl 1 1 0 n)), (16, V.c (C.p (PV.i IntKind.i64 (↑i : Int)))), (18, V.c (C.ptr 2 0)), (20, V.c (C.p (PV.i IntKind.i64 ((↑k : Int) + 1))))] [AO.cells 30 [C.p (PV.i IntKind.i64 (↑n : Int)), C.p (PV.l 2 E.length (rowP encE E))], AO.row 4 1 n fun e o => renC [0, 1, 2] (rowC encB out e o), AO.cells 39 [C.p (PV.s a.r), C.p (PV.i IntKind.i64 a.ver), C.p (PV.l 2 a.L.length (rowP enc2 a.L)), C.p (PV.i IntKind.i64 a.st), C.p (PV.i IntKind.i64 a.si), C.p (PV.i IntKind.i64 a.le)]])) := by kernel_rfl
theorem tE7 (P s : Int) (R : List Sh) (E : List Ed) (F out : List Bool) (n i k : Nat) (a : Al) : exTs ext0 (dropL 8 (flat (inr (nth .skip (lpB (pcs Tryd.prog Tryd.f3) 8) 2)))) (cst 187 [(9, iV P), (11, listV enc3 3 R), (12, .c (.ptr 0 0)), (13, iV s), (14, listV encB 1 F), (15, .c (.sl 1 1 0 n)), (16, iV (i : Nat)), (18, .c (.ptr 2 0)), (20, iV (k : Nat))] [.cells 30 [.p (.i .i64 (n : Nat)), .p (listP encE 2 E)], .row 4 1 n (rowC encB out), .cells 39 [.p (.s a.r), .p (.i .i64 a.ver), .p (listP enc2 2 a.L), .p (.i .i64 a.st), .p (.i .i64 a.si), .p (.i .i64 a.le)]]) (endG (msk 187 [9, 11, 12, 13, 14, 15, 16]) (resOf Tryd.prog Tryd.f3)) = bT (a.st == 2)
    (Tr.rq (0 ≤ (↑i : Int) ∧ (↑i : Int) < (↑n : Int))
      (Tr.rq ((↑i : Int).toNat + 0 < n)
        (Tr.done X.normal
          (cst 187 [(9, V.c (C.p (PV.i IntKind.i64 P))), (11, V.c (C.p (PV.l 3 R.length (rowP enc3 R)))), (12, V.c (C.ptr 0 0)), (13, V.c (C.p (PV.i IntKind.i64 s))), (14, V.c (C.p (PV.l 1 F.length (rowP encB F)))), (15, V.c (C.sl 1 1 0 n)), (16, V.c (C.p (PV.i IntKind.i64 (↑i : Int))))] [AO.cells 30 [C.p (PV.i IntKind.i64 (↑n : Int)), C.p (PV.l 2 E.length (rowP encE E))], AO.row 4 1 n fun e o => renC [0, 1] (if e = (↑i : Int).toNat + 0 then if 0 ≤ o ∧ o < 1 then nth C.top [C.p (PV.b true)] (o - 0) else rowC encB out e o else rowC encB out e o)]))))
    (Tr.rq (0 ≤ (↑i : Int) ∧ (↑i : Int) < (↑n : Int))
      (Tr.rq ((↑i : Int).toNat + 0 < n)
        (Tr.done X.normal
          (cst 187 [(9, V.c (C.p (PV.i IntKind.i64 P))), (11, V.c (C.p (PV.l 3 R.length (rowP enc3 R)))), (12, V.c (C.ptr 0 0)), (13, V.c (C.p (PV.i IntKind.i64 s))), (14, V.c (C.p (PV.l 1 F.length (rowP encB F)))), (15, V.c (C.sl 1 1 0 n)), (16, V.c (C.p (PV.i IntKind.i64 (↑i : Int))))] [AO.cells 30 [C.p (PV.i IntKind.i64 (↑n : Int)), C.p (PV.l 2 E.length (rowP encE E))], AO.row 4 1 n fun e o => renC [0, 1] (if e = (↑i : Int).toNat + 0 then if 0 ≤ o ∧ o < 1 then nth C.top [C.p (PV.b (a.st == 4))] (o - 0) else rowC encB out e o else rowC encB out e o)])))) := by kernel_rfl
theorem tE8 (P s : Int) (R : List Sh) (E : List Ed) (F out : List Bool) (n i : Nat) : exTs ext0 (dropL 3 (lpB (pcs Tryd.prog Tryd.f3) 8)) (cst 187 [(9, iV P), (11, listV enc3 3 R), (12, .c (.ptr 0 0)), (13, iV s), (14, listV encB 1 F), (15, .c (.sl 1 1 0 n)), (16, iV (i : Nat))] [.cells 30 [.p (.i .i64 (n : Nat)), .p (listP encE 2 E)], .row 4 1 n (rowC encB out)]) (endG (msk 187 [9, 11, 12, 13, 14, 15, 16]) (resOf Tryd.prog Tryd.f3)) = Tr.rq (inR IntKind.i64 ((↑i : Int) + 1))
    (Tr.done X.normal
      (cst 187 [(9, V.c (C.p (PV.i IntKind.i64 P))), (11, V.c (C.p (PV.l 3 R.length (rowP enc3 R)))), (12, V.c (C.ptr 0 0)), (13, V.c (C.p (PV.i IntKind.i64 s))), (14, V.c (C.p (PV.l 1 F.length (rowP encB F)))), (15, V.c (C.sl 1 1 0 n)), (16, V.c (C.p (PV.i IntKind.i64 ((↑i : Int) + 1))))] [AO.cells 30 [C.p (PV.i IntKind.i64 (↑n : Int)), C.p (PV.l 2 E.length (rowP encE E))], AO.row 4 1 n fun e o => renC [0, 1] (rowC encB out e o)])) := by kernel_rfl
theorem tE9 (E : List Ed) (F W : List Bool) (n : Nat) : exTs extE (takeL 2 (dropL 9 (pcs Tryd.prog Tryd.f3))) (cst 187 [(12, .c (.ptr 0 0)), (14, listV encB 1 F), (15, listV encB 1 W)] [.cells 30 [.p (.i .i64 (n : Nat)), .p (listP encE 2 E)]]) (endG (msk 187 [12, 14, 30, 31]) (resOf Tryd.prog Tryd.f3)) = Tr.rq ((IsL encE 2 (decL decE E.length (rowP encE E)) E.length (rowP encE E) ∧ E.length ≤ 1000000) ∧ IsL encB 1 (decL decB W.length (rowP encB W)) W.length (rowP encB W) ∧ W.length ≤ 1000000)
    (Tr.done X.normal
      (cst 187 [(12, V.c (C.ptr 0 0)), (14, V.c (C.p (PV.l 1 F.length (rowP encB F)))), (30, V.c (C.p (PV.l 1 (inhZ (↑n : Int) (decL decE E.length (rowP encE E)) (decL decB W.length (rowP encB W))).length (rowP encB (inhZ (↑n : Int) (decL decE E.length (rowP encE E)) (decL decB W.length (rowP encB W))))))), (31, V.c (C.p (PV.i IntKind.i64 0)))] [AO.cells 30 [C.p (PV.i IntKind.i64 (↑n : Int)), C.p (PV.l 2 E.length (rowP encE E))]])) := by kernel_rfl
theorem tE10 (E : List Ed) (F Y : List Bool) (n i : Nat) : exTs ext0 (lpB (pcs Tryd.prog Tryd.f3) 11) (cst 187 [(12, .c (.ptr 0 0)), (14, listV encB 1 F), (30, listV encB 1 Y), (31, iV (i : Nat))] [.cells 30 [.p (.i .i64 (n : Nat)), .p (listP encE 2 E)]]) (endG (msk 187 [12, 14, 30, 31]) (resOf Tryd.prog Tryd.f3)) = bT (decide ((↑i : Int) < (↑n : Int)))
    (bT ((↑Y.length : Int) != (↑n : Int)) (Tr.done X.ret (St.mk [V.c (C.p (PV.b false))] []))
      (Tr.rq (0 ≤ (↑i : Int) ∧ (↑i : Int) < (↑Y.length : Int))
        (bT (Y.getD (↑i : Int).toNat default)
          (Tr.rq (0 ≤ (↑i : Int) ∧ (↑i : Int) < (↑F.length : Int))
            (bT (!F.getD (↑i : Int).toNat default) (Tr.done X.ret (St.mk [V.c (C.p (PV.b false))] []))
              (Tr.rq (inR IntKind.i64 ((↑i : Int) + 1))
                (Tr.done X.normal
                  (cst 187 [(12, V.c (C.ptr 0 0)), (14, V.c (C.p (PV.l 1 F.length (rowP encB F)))), (30, V.c (C.p (PV.l 1 Y.length (rowP encB Y)))), (31, V.c (C.p (PV.i IntKind.i64 ((↑i : Int) + 1))))] [AO.cells 30 [C.p (PV.i IntKind.i64 (↑n : Int)), C.p (PV.l 2 E.length (rowP encE E))]])))))
          (Tr.rq (inR IntKind.i64 ((↑i : Int) + 1))
            (Tr.done X.normal
              (cst 187 [(12, V.c (C.ptr 0 0)), (14, V.c (C.p (PV.l 1 F.length (rowP encB F)))), (30, V.c (C.p (PV.l 1 Y.length (rowP encB Y)))), (31, V.c (C.p (PV.i IntKind.i64 ((↑i : Int) + 1))))] [AO.cells 30 [C.p (PV.i IntKind.i64 (↑n : Int)), C.p (PV.l 2 E.length (rowP encE E))]]))))))
    (Tr.done (X.exit 4)
      (cst 187 [(12, V.c (C.ptr 0 0)), (14, V.c (C.p (PV.l 1 F.length (rowP encB F)))), (30, V.c (C.p (PV.l 1 Y.length (rowP encB Y)))), (31, V.c (C.p (PV.i IntKind.i64 (↑i : Int))))] [AO.cells 30 [C.p (PV.i IntKind.i64 (↑n : Int)), C.p (PV.l 2 E.length (rowP encE E))]])) := by kernel_rfl
theorem tE11 (E : List Ed) (F Y : List Bool) (n i : Nat) : exTs extE (dropL 12 (pcs Tryd.prog Tryd.f3)) (cst 187 [(12, .c (.ptr 0 0)), (14, listV encB 1 F), (30, listV encB 1 Y), (31, iV (i : Nat))] [.cells 30 [.p (.i .i64 (n : Nat)), .p (listP encE 2 E)]]) (endG [] (resOf Tryd.prog Tryd.f3)) = Tr.rq True (Tr.done X.ret (St.mk [V.c (C.p (PV.b true))] [])) := by kernel_rfl
theorem lvl_eq_iff {q : List ByteArray} (hd : q.Nodup) (h : 0 < q.length) {i j : Nat} : lvl q i = lvl q j ↔ min i (q.length - 1) = min j (q.length - 1) := by
  unfold lvl
  have h1 : min i (q.length - 1) < q.length := by omega
  have h2 : min j (q.length - 1) < q.length := by omega
  rw [List.getD_eq_getElem?_getD, List.getD_eq_getElem?_getD, List.getElem?_eq_getElem h1, List.getElem?_eq_getElem h2]
  exact ⟨fun e => (List.getElem_inj hd).1 (Option.some.inj (congrArg some e)), fun e => by simp only [e]⟩
/-- The alert after k escalations. -/
def alN (s : Int) (k : Nat) : Al := if k = 0 then ⟨⟨#[114]⟩, 1, [], 2, s, 0⟩ else ⟨⟨#[114]⟩, 1, [], 4, s + 2 * k, k⟩
def alM (s : Int) : Al := ⟨⟨#[114]⟩, 1, [], 1, s, 0⟩
theorem r_ok : nameB ⟨#[114]⟩ = true ∧ validL (fun k => ([] : List (ByteArray × ByteArray)).getD k default) ([] : List (ByteArray × ByteArray)).length = true := by decide
theorem al1_vis {s : Int} (h : 0 ≤ s ∧ s < 1000) : alVis al1 s = true := by
  unfold alVis
  rw [Bool.and_eq_true, Bool.and_eq_true, decide_eq_true_iff, decide_eq_true_iff, alOK_iff]
  refine ⟨⟨⟨r_ok, ?_⟩, ?_⟩, ?_⟩
  · exact ⟨Int.le_refl _, Int.le_refl _, by decide, .inl ⟨.inl rfl, rfl⟩⟩
  · show (0 : Int) ≤ s; omega
  · omega
theorem step2 {s : Int} (h : 0 ≤ s ∧ s < 1000) : alStep al1 2 s = (alN s 0, true) := by
  unfold alStep
  rw [al1_vis h]
  rfl
theorem step1 {s : Int} (h : 0 ≤ s ∧ s < 1000) : alStep al1 1 s = (alM s, false) := by
  unfold alStep
  rw [al1_vis h]
  rfl
theorem alN_st (s : Int) (k : Nat) : (alN s k).st = 2 ∨ (alN s k).st = 4 := by
  unfold alN; split
  · exact .inl rfl
  · exact .inr rfl
theorem alN_le (s : Int) (k : Nat) : (alN s k).le = k := by
  unfold alN; split
  · rename_i h; rw [h]; rfl
  · rfl
theorem alN_si (s : Int) (k : Nat) : (alN s k).si = s + 2 * k := by
  unfold alN; split
  · rename_i h; rw [h]; simp
  · rfl
theorem alN_L (s : Int) (k : Nat) : (alN s k).L = [] := by
  unfold alN; split <;> rfl
theorem esc_N {s : Int} (h : 0 ≤ s ∧ s < 1000) {k : Nat} (hk : k ≤ 2) : alEsc (alN s k) (s + 2 * ((k + 1 : Nat) : Int)) 2 3 = (alN s (k + 1), true) := by
  have hv : alVis (alN s k) (s + 2 * ((k + 1 : Nat) : Int)) = true := by
    unfold alVis
    rw [Bool.and_eq_true, Bool.and_eq_true, decide_eq_true_iff, decide_eq_true_iff, alOK_iff, alN_si]
    refine ⟨⟨⟨?_, ?_⟩, by omega⟩, by omega⟩
    · unfold alN; split <;> exact r_ok
    · rw [alN_le]
      have hs1 : (alN s k).ver = 1 := by unfold alN; split <;> rfl
      have hs2 : (k = 0 ∧ (alN s k).st = 2) ∨ (0 < k ∧ (alN s k).st = 4) := by
        unfold alN; split
        · exact .inl ⟨by assumption, rfl⟩
        · exact .inr ⟨by omega, rfl⟩
      rw [hs1]; omega
  have e1 : (alN s (k + 1)) = ⟨⟨#[114]⟩, 1, [], 4, s + 2 * ((k + 1 : Nat) : Int), ((k + 1 : Nat) : Int)⟩ := by unfold alN; rw [if_neg (by omega)]
  unfold alEsc escD
  rw [hv, alN_le, alN_si, if_neg (by have := alN_st s k; rintro (h | h); cases h; omega), if_neg (by omega), e1]
  unfold alSet
  simp only [Prod.mk.injEq, and_true]
  unfold alN; split <;> simp
theorem esc_M {s : Int} (tk : Int) : (alEsc (alM s) tk 2 3).2 = false := by
  unfold alEsc escD
  rw [if_pos (.inr ⟨by simp [alM], by simp [alM]⟩)]
theorem al_eta (a : Al) : Al.mk a.r a.ver a.L a.st a.si a.le = a := rfl
section
variable {G : Nat → Option Obj}
theorem okAStep0 (hG : LevG G) : ModOK Tryd.prog G 10 mAStep0 := by
  intro args p v hm hp h
  unfold mAStep0 at hm
  split at hm; rotate_left; · cases hm
  rename_i r ver st si le vd tk
  obtain ⟨rfl, rfl⟩ := some_pair hm
  refine FnS.args (args' := [alV ⟨r, ver, [], st, si, le⟩, iV vd, iV tk]) ?_ (.cons ?_ (.cons (.refl _) (.cons (.refl _) .nil)))
  · refine okAStep hG _ _ _ rfl ⟨?_, ?_⟩ h
    · exact isL_row enc2 2 []
    · exact Nat.zero_le _
  · exact VLe.a (xs := [.s r, .i .i64 ver, .z (.slice none 0 0), .i .i64 st, .i .i64 si, .i .i64 le]) (vs := [.s r, .i .i64 ver, listP enc2 2 [], .i .i64 st, .i .i64 si, .i .i64 le]) (.cons (.refl _) (.cons (.refl _) (.cons (PLe.nil 2 _) (.cons (.refl _) (.cons (.refl _) (.cons (.refl _) .nil))))))
theorem extE_sound (hG : LevG G) : SoundExt Tryd.prog G extE := extOf_sound (by simp; exact ⟨okRotaR, okShifts, okAcyclic, okGraph, okAround, okFiring, okAStep0 hG, okAEsc hG, okOnDuty, okGInhib, okLives⟩)
set_option maxRecDepth 100000 in
set_option maxHeartbeats 2000000 in
theorem routeEsc_core (hG : LevG G) {P s : Int} {R : List Sh} {n : Nat} {E : List Ed} {F : List Bool} (hz : rotaZ P R = 0) (hP : 1 ≤ P ∧ P ≤ 12) (hs : 0 ≤ s ∧ s < 1000) (hR : R.length ≤ 7) (hn : n < 9) (hv : validZ n E = 0) (hEl : E.length ≤ 12) (hF : F.length = n) :
    ExS Tryd.prog G (resOf Tryd.prog Tryd.f3) (bV true) (dropL 8 (pcs Tryd.prog Tryd.f3)) ((fun (i : Nat) (out : List Bool) => cst 187 [(9, iV P), (11, listV enc3 3 R), (12, .c (.ptr 0 0)), (13, iV s), (14, listV encB 1 F), (15, .c (.sl 1 1 0 n)), (16, iV (i : Nat))] [.cells 30 [.p (.i .i64 (n : Nat)), .p (listP encE 2 E)], .row 4 1 n (rowC encB out)]) 0 (List.replicate n false)) fun _ _ => False := by
  have hR6 : R.length ≤ 1000000 := by omega
  refine ExS.loop' (l := dropL 8 (pcs Tryd.prog Tryd.f3)) (b := inr (inr (nth .skip (pcs Tryd.prog Tryd.f3) 8))) (r := dropL 9 (pcs Tryd.prog Tryd.f3)) (id := 0) (by kernel_rfl) (σ := Nat × List Bool)
    (fun (i, out) => cst 187 [(9, iV P), (11, listV enc3 3 R), (12, .c (.ptr 0 0)), (13, iV s), (14, listV encB 1 F), (15, .c (.sl 1 1 0 n)), (16, iV (i : Nat))] [.cells 30 [.p (.i .i64 (n : Nat)), .p (listP encE 2 E)], .row 4 1 n (rowC encB out)]) (fun (i, out) => i ≤ n ∧ out.length = n ∧ ∀ k, k < n → out.getD k false = true → F.getD k false = true) (fun (i, _) => n - i) (0, List.replicate n false) ⟨Nat.zero_le _, by simp, fun k hk h => by simp [hk] at h⟩ (weak_of_eq (by kernel_rfl)) ?_
  rintro ⟨i, out⟩ ⟨hi, ho, hout⟩ Q q1n q1e -
  refine ExS.evG ext0_sound 2 (tE2 P s R E F out n i) ?_
  simp only [holds_bT, holds_leaf, kf_normal, kf_exit, decide_eq_true_eq, decide_eq_false_iff_not]
  refine ⟨fun h1 => ⟨?_⟩, fun h1 => ⟨q1e _ ?_⟩⟩
  · have hin : i < n := by omega
    refine ExS.blk' (l := dropL 2 (lpB (pcs Tryd.prog Tryd.f3) 8)) (id := 1) (a := inr (nth .skip (lpB (pcs Tryd.prog Tryd.f3) 8) 2)) (r := dropL 3 (lpB (pcs Tryd.prog Tryd.f3) 8)) (by kernel_rfl) ?_
    intro Q2 q2n q2e _
    have fin : ∀ (a : Al) (k : Nat), (a.st = 2 ∨ a.st = 4 → F.getD i false = true) → ∀ st, WeakS G st (cst 187 [(9, iV P), (11, listV enc3 3 R), (12, .c (.ptr 0 0)), (13, iV s), (14, listV encB 1 F), (15, .c (.sl 1 1 0 n)), (16, iV (i : Nat)), (18, .c (.ptr 2 0)), (20, iV (k : Nat))] [.cells 30 [.p (.i .i64 (n : Nat)), .p (listP encE 2 E)], .row 4 1 n (rowC encB out), .cells 39 [.p (.s a.r), .p (.i .i64 a.ver), .p (listP enc2 2 a.L), .p (.i .i64 a.st), .p (.i .i64 a.si), .p (.i .i64 a.le)]]) → ExS Tryd.prog G (resOf Tryd.prog Tryd.f3) (bV true) (dropL 8 (flat (inr (nth .skip (lpB (pcs Tryd.prog Tryd.f3) 8) 2)))) st Q2 := fun a k ha st hst => by
      have nx : ∀ x : Bool, (x = true → F.getD i false = true) → ∀ st, WeakS G st ((fun out => cst 187 [(9, iV P), (11, listV enc3 3 R), (12, .c (.ptr 0 0)), (13, iV s), (14, listV encB 1 F), (15, .c (.sl 1 1 0 n)), (16, iV (i : Nat))] [.cells 30 [.p (.i .i64 (n : Nat)), .p (listP encE 2 E)], .row 4 1 n (rowC encB out)]) (out.set i x)) → Q2 .normal st := fun x hx st hst => by
        refine q2n _ (ExS.pre hst (ExS.evH ext0_sound (tE8 P s R E F (out.set i x) n i) ?_))
        simp only [holds_rq, holds_leaf, kf_normal, inR]
        refine ⟨by omega, ⟨q1n (i + 1, out.set i x) _ ⟨by omega, by simp [ho], fun k hk h => ?_⟩ (by simp only; omega) (weak_of_eq (by kernel_rfl))⟩⟩
        rw [getD_set_x (by omega)] at h
        by_cases e : k = i
        · subst e; rw [if_pos rfl] at h; exact hx h
        · rw [if_neg e] at h; exact hout k hk h
      refine ExS.pre hst (ExS.evH ext0_sound (tE7 P s R E F out n i k a) ?_)
      simp only [holds_bT, holds_rq, holds_leaf, kf_normal, beq_iff_eq, beq_eq_false_iff_ne, show (↑i : Int).toNat = i from rfl, show ∀ x : Nat, x + 0 = x from fun _ => rfl]
      refine ⟨fun c1 => ⟨by omega, by omega, ⟨nx true (fun _ => ha (.inl c1)) _ (weak_cst (by exact ⟨rfl, ⟨rfl, rfl, rfl, fun e o he ho' => set1 (ρ := [0, 1]) ho hin rfl he ho'⟩, trivial⟩))⟩⟩, fun c1 => ⟨by omega, by omega, ⟨nx (a.st == 4) (fun h => ha (.inr (by simpa using h))) _ (weak_cst (by exact ⟨rfl, ⟨rfl, rfl, rfl, fun e o he ho' => set1 (ρ := [0, 1]) ho hin rfl he ho'⟩, trivial⟩))⟩⟩⟩
    refine ExS.evG (extE_sound hG) 7 (tE3 P s R E F out n i) ?_
    have st2 : alStep (Al.mk (ByteArray.mk #[114]) 1 [] 0 0 0) 2 s = (alN s 0, true) := step2 hs
    have st1 : alStep (Al.mk (ByteArray.mk #[114]) 1 [] 0 0 0) 1 s = (alM s, false) := step1 hs
    cases hFi : F.getD i false with
    | true =>
      simp only [holds_bT, holds_rq, holds_leaf, kf_normal, kf_ret', show (↑i : Int).toNat = i from rfl, show (default : Bool) = false from rfl, hFi, st2, st1, beq_self_eq_true, Bool.not_true, Bool.false_eq_true, Bool.true_eq_false, false_imp_iff, true_imp_iff, and_true, true_and]
      refine ⟨by omega, by omega, ⟨?_⟩⟩
      refine ExS.loop' (l := dropL 7 (flat (inr (nth .skip (lpB (pcs Tryd.prog Tryd.f3) 8) 2)))) (b := inr (inr (nth .skip (flat (inr (nth .skip (lpB (pcs Tryd.prog Tryd.f3) 8) 2))) 7))) (r := dropL 8 (flat (inr (nth .skip (lpB (pcs Tryd.prog Tryd.f3) 8) 2)))) (id := 2) (by kernel_rfl) (σ := Nat)
        (fun j => (fun (k : Nat) (a : Al) => cst 187 [(9, iV P), (11, listV enc3 3 R), (12, .c (.ptr 0 0)), (13, iV s), (14, listV encB 1 F), (15, .c (.sl 1 1 0 n)), (16, iV (i : Nat)), (18, .c (.ptr 2 0)), (20, iV (k : Nat))] [.cells 30 [.p (.i .i64 (n : Nat)), .p (listP encE 2 E)], .row 4 1 n (rowC encB out), .cells 39 [.p (.s a.r), .p (.i .i64 a.ver), .p (listP enc2 2 a.L), .p (.i .i64 a.st), .p (.i .i64 a.si), .p (.i .i64 a.le)]]) (j + 1) (alN s j)) (fun j => j ≤ 3) (fun j => 3 - j) 0 (Nat.zero_le _) (weak_of_eq (by kernel_rfl)) ?_
      intro j hj Q3 q3n q3e _
      refine ExS.evG ext0_sound 2 (tE4 P s R E F out n i (j + 1) (alN s j)) ?_
      simp only [holds_bT, holds_leaf, kf_normal, kf_exit, decide_eq_true_eq, decide_eq_false_iff_not]
      refine ⟨fun h2 => ⟨?_⟩, fun h2 => ⟨q3e _ (fin (alN s j) (j + 1) (fun _ => hFi) _ (weak_of_eq (by kernel_rfl)))⟩⟩
      have hj2 : j ≤ 2 := by omega
      refine ExS.blk' (l := dropL 2 (lpB (flat (inr (nth .skip (lpB (pcs Tryd.prog Tryd.f3) 8) 2))) 7)) (id := 3) (a := inr (nth .skip (lpB (flat (inr (nth .skip (lpB (pcs Tryd.prog Tryd.f3) 8) 2))) 7) 2)) (r := dropL 3 (lpB (flat (inr (nth .skip (lpB (pcs Tryd.prog Tryd.f3) 8) 2))) 7)) (by kernel_rfl) ?_
      intro Q4 q4n q4e _
      refine ExS.evH (extE_sound hG) (tE5 P s R E F out n i (j + 1) (alN s j)) ?_
      have hesc := esc_N hs hj2
      have hle := alN_le s j
      have hle1 := alN_le s (j + 1)
      have hsi := alN_si s j
      have hLn : (alN s j).L.length ≤ 1000000 := by rw [alN_L]; exact Nat.zero_le _
      have tk0 : 0 ≤ s + 2 * ((j + 1 : Nat) : Int) := by omega
      have tk1 : s + 2 * ((j + 1 : Nat) : Int) ≤ 1048576 := by omega
      have d1 : dutyZ P R (s + 2 * ((j + 1 : Nat) : Int)) (((j + 1 : Nat) : Int) - 1) = (lvl (pers ((s + 2 * ((j + 1 : Nat) : Int)) % P) R) j, 0) := by
        rw [show ((j + 1 : Nat) : Int) - 1 = (j : Nat) by omega]; exact dutyZ_lvl hz tk0 tk1
      have d2 : dutyZ P R (s + 2 * ((j + 1 : Nat) : Int)) ((j + 1 : Nat) : Int) = (lvl (pers ((s + 2 * ((j + 1 : Nat) : Int)) % P) R) (j + 1), 0) := dutyZ_lvl hz tk0 tk1
      have d3 : dutyZ P R (s + 2 * ((j + 1 : Nat) : Int)) 100 = (lvl (pers ((s + 2 * ((j + 1 : Nat) : Int)) % P) R) 100, 0) := dutyZ_lvl (k := 100) hz tk0 tk1
      have hpos := pers_pos ((rotaZ_ok hz).2.2.2 ((s + 2 * ((j + 1 : Nat) : Int)) % P) (Int.emod_nonneg _ (by omega)) (Int.emod_lt_of_pos _ (by omega)))
      have hnd : (pers ((s + 2 * ((j + 1 : Nat) : Int)) % P) R).Nodup := persF_nodup List.nodup_nil
      have hpl : (pers ((s + 2 * ((j + 1 : Nat) : Int)) % P) R).length ≤ 0 + R.length := persF_length R []
      simp only [holds_bT, holds_rq, holds_leaf, kf_normal, kf_ret', kf_exit, dec2_row, dec3_row, isL_row, al_eta, hesc, hle1, d1, d2, d3, bne_self_eq_false, beq_bytes2, show (↑i : Int).toNat = i from rfl, show (default : Bool) = false from rfl, hFi, beq_self_eq_true, Bool.not_true, Bool.not_false, Bool.false_eq_true, Bool.true_eq_false, false_imp_iff, true_imp_iff, and_true, true_and, inR]
      generalize pers ((s + 2 * ((j + 1 : Nat) : Int)) % P) R = q at *
      have heq : decide (lvl q j = lvl q (j + 1)) = decide (lvl q j = lvl q 100) := by
        rw [decide_eq_decide, lvl_eq_iff hnd hpos, lvl_eq_iff hnd hpos]
        omega
      rw [heq]
      simp only [beq_self_eq_true, Bool.not_true, Bool.false_eq_true, Bool.true_eq_false, false_imp_iff, true_imp_iff, and_true, true_and]
      refine ⟨by omega, by omega, ⟨hLn, by omega, by omega⟩, by omega, by omega, hR6, hR6, hR6, ⟨q4n _ ?_⟩⟩
      refine ExS.evH ext0_sound (tE6 P s R E F out n i (j + 1) (alN s (j + 1))) ?_
      simp only [holds_rq, holds_leaf, kf_normal, inR]
      exact ⟨by omega, ⟨q3n (j + 1) _ (by omega) (by omega) (weak_of_eq (by kernel_rfl))⟩⟩
    | false =>
      simp only [holds_bT, holds_rq, holds_leaf, kf_normal, kf_ret', show (↑i : Int).toNat = i from rfl, show (default : Bool) = false from rfl, hFi, st2, st1, beq_self_eq_true, Bool.not_true, Bool.false_eq_true, Bool.true_eq_false, false_imp_iff, true_imp_iff, and_true, true_and]
      refine ⟨by omega, by omega, ⟨?_⟩⟩
      refine ExS.loop' (l := dropL 7 (flat (inr (nth .skip (lpB (pcs Tryd.prog Tryd.f3) 8) 2)))) (b := inr (inr (nth .skip (flat (inr (nth .skip (lpB (pcs Tryd.prog Tryd.f3) 8) 2))) 7))) (r := dropL 8 (flat (inr (nth .skip (lpB (pcs Tryd.prog Tryd.f3) 8) 2)))) (id := 2) (by kernel_rfl) (σ := Nat)
        (fun j => (fun (k : Nat) (a : Al) => cst 187 [(9, iV P), (11, listV enc3 3 R), (12, .c (.ptr 0 0)), (13, iV s), (14, listV encB 1 F), (15, .c (.sl 1 1 0 n)), (16, iV (i : Nat)), (18, .c (.ptr 2 0)), (20, iV (k : Nat))] [.cells 30 [.p (.i .i64 (n : Nat)), .p (listP encE 2 E)], .row 4 1 n (rowC encB out), .cells 39 [.p (.s a.r), .p (.i .i64 a.ver), .p (listP enc2 2 a.L), .p (.i .i64 a.st), .p (.i .i64 a.si), .p (.i .i64 a.le)]]) (j + 1) (alM s)) (fun j => j ≤ 3) (fun j => 3 - j) 0 (Nat.zero_le _) (weak_of_eq (by kernel_rfl)) ?_
      intro j hj Q3 q3n q3e _
      refine ExS.evG ext0_sound 2 (tE4 P s R E F out n i (j + 1) (alM s)) ?_
      simp only [holds_bT, holds_leaf, kf_normal, kf_exit, decide_eq_true_eq, decide_eq_false_iff_not]
      refine ⟨fun h2 => ⟨?_⟩, fun h2 => ⟨q3e _ (fin (alM s) (j + 1) (fun h => by
        have h : (1 : Int) = 2 ∨ (1 : Int) = 4 := h
        omega) _ (weak_of_eq (by kernel_rfl)))⟩⟩
      have hj2 : j ≤ 2 := by omega
      refine ExS.blk' (l := dropL 2 (lpB (flat (inr (nth .skip (lpB (pcs Tryd.prog Tryd.f3) 8) 2))) 7)) (id := 3) (a := inr (nth .skip (lpB (flat (inr (nth .skip (lpB (pcs Tryd.prog Tryd.f3) 8) 2))) 7) 2)) (r := dropL 3 (lpB (flat (inr (nth .skip (lpB (pcs Tryd.prog Tryd.f3) 8) 2))) 7)) (by kernel_rfl) ?_
      intro Q4 q4n q4e _
      refine ExS.evH (extE_sound hG) (tE5 P s R E F out n i (j + 1) (alM s)) ?_
      have hesc := esc_M (s := s) (s + 2 * ((j + 1 : Nat) : Int))
      have hLn : (alM s).L.length ≤ 1000000 := Nat.zero_le _
      have h3 : (alM s).si = s := rfl
      have h4 : (alM s).le = 0 := rfl
      simp only [holds_bT, holds_rq, holds_leaf, kf_normal, kf_ret', kf_exit, dec2_row, dec3_row, isL_row, al_eta, hesc, show (↑i : Int).toNat = i from rfl, show (default : Bool) = false from rfl, hFi, beq_self_eq_true, Bool.not_true, Bool.not_false, Bool.false_eq_true, Bool.true_eq_false, false_imp_iff, true_imp_iff, and_true, true_and, inR]
      refine ⟨by omega, by omega, ⟨hLn, by omega, by omega⟩, by omega, ⟨q4e _ ?_⟩⟩
      refine ExS.evH ext0_sound (tE6 P s R E F out n i (j + 1) (alM s)) ?_
      simp only [holds_rq, holds_leaf, kf_normal, inR]
      exact ⟨by omega, ⟨q3n (j + 1) _ (by omega) (by omega) (weak_of_eq (by kernel_rfl))⟩⟩
  · obtain rfl : i = n := by omega
    refine ExS.pre ((weak_frzL (id := 1) (ty := 4) (sz := 1) (n := i) (f := fun e o => renC [0, 1] (rowC encB out e o)) (rowP encB out) (by kernel_rfl) (fun e o he ho => rfl) (fun e o he ho => PLe.refl _) (ps := [(0, i)]) (by kernel_rfl) (by simp)).trans (weak_gc (msk 187 [12, 14, 15]) _)) ?_
    have e15 : listV encB 1 out = .c (.p (.l 1 i (rowP encB out))) := by unfold listV listP; rw [ho]
    refine ExS.pre (st2 := cst 187 [(12, .c (.ptr 0 0)), (14, listV encB 1 F), (15, listV encB 1 out)] [.cells 30 [.p (.i .i64 (i : Nat)), .p (listP encE 2 E)]]) (by rw [e15]; exact weak_of_eq (by kernel_rfl)) ?_
    refine ExS.evG (extE_sound hG) 2 (tE9 E F out i) ?_
    simp only [holds_rq, holds_leaf, kf_normal, decE_row, decB_row, isL_row, true_and]
    refine ⟨⟨by omega, by omega⟩, ⟨?_⟩⟩
    have hval : inhZ (i : Int) E out = inh i E out := by
      unfold inhZ; rw [if_pos ⟨hv, by rw [ho]⟩, ho]
    rw [hval]
    have hYl := inh_length i E out
    have hY : ∀ k, k < i → (inh i E out).getD k false = true → F.getD k false = true := fun k hk h => hout k hk ((inh_at hk).1 h).2
    generalize inh i E out = Y at hYl hY
    refine ExS.loop' (l := dropL 11 (pcs Tryd.prog Tryd.f3)) (b := inr (inr (nth .skip (pcs Tryd.prog Tryd.f3) 11))) (r := dropL 12 (pcs Tryd.prog Tryd.f3)) (id := 4) (by kernel_rfl) (σ := Nat)
      (fun j => (fun n i => cst 187 [(12, .c (.ptr 0 0)), (14, listV encB 1 F), (30, listV encB 1 Y), (31, iV (i : Nat))] [.cells 30 [.p (.i .i64 (n : Nat)), .p (listP encE 2 E)]]) i j) (fun j => j ≤ i) (fun j => i - j) 0 (Nat.zero_le _) (weak_of_eq (by kernel_rfl)) ?_
    intro j hj Q5 q5n q5e _
    refine ExS.evH ext0_sound (tE10 E F Y i j) ?_
    simp only [holds_bT, holds_rq, holds_leaf, kf_normal, kf_exit, kf_ret', decide_eq_true_eq, decide_eq_false_iff_not, inR, bne_iff_ne, bne_eq_false_iff_eq, show (↑j : Int).toNat = j from rfl, show (default : Bool) = false from rfl, Bool.not_eq_true', Bool.not_eq_false']
    refine ⟨fun h2 => ⟨fun c0 => absurd (by omega) c0, fun _ => ⟨by omega, fun c1 => ⟨by omega, fun c2 => ?_, fun c2 => ⟨by omega, ⟨q5n (j + 1) _ (by omega) (by omega) (weak_of_eq (by kernel_rfl))⟩⟩⟩, fun c1 => ⟨by omega, ⟨q5n (j + 1) _ (by omega) (by omega) (weak_of_eq (by kernel_rfl))⟩⟩⟩⟩, fun h2 => ⟨q5e _ ?_⟩⟩
    · rw [hY j (by omega) c1] at c2; cases c2
    · refine ExS.evH (extE_sound hG) (tE11 E F Y i j) ?_
      simp only [holds_rq, holds_leaf, kf_ret', true_and]
      exact ⟨VLe.refl _⟩
set_option maxRecDepth 100000 in
theorem routeEscalates_fn (hG : LevG G) {L M : List Int} {b t : Int} (hI : Ints L) (hJ : Ints M) (hb : inR .i64 b) (ht : inR .i64 t) (h : List AO) : FnS Tryd.prog G 3 [listV encI 1 L, listV encI 1 M, iV b, iV t] h fun x h' => x = bV true ∧ h' = h := by
  refine fn_S Tryd.func3 (by kernel_rfl) rfl ?_ h
  refine ExS.evG (extE_sound hG) 8 (tE1 L M b t) ?_
  have h2 : 0 ≤ acN M ∧ acN M < 9 := pickZ_range M 0 (m := 9) (by omega)
  have hlen := acG_length M
  have hK := pickZ_range L 1 (m := 6) (by omega)
  have hRl : (rotaL false L).length ≤ 7 := by
    have h1 : rotaK L ≤ 6 := by unfold rotaK; omega
    unfold rotaL
    split
    · rw [List.length_append, rotaS_length]; simp only [List.length]; omega
    · rw [rotaS_length]; omega
  have hv := acG_valid M
  have hs : 0 ≤ aroundZ t 1000 ∧ aroundZ t 1000 < 1000 := ⟨Int.emod_nonneg _ (by omega), Int.emod_lt_of_pos _ (by omega)⟩
  simp only [holds_rq, holds_leaf, kf_normal, decI_row, dec3_row, isL_row, ofn_lt, true_and, and_true]
  obtain ⟨n, hn⟩ : ∃ n : Nat, acN M = n := ⟨(acN M).toNat, by omega⟩
  rw [hn] at hv h2 ⊢
  refine ⟨hI, by omega, hJ, ⟨ht, by decide⟩, ⟨⟨by omega, by omega⟩, hb⟩, by omega, ⟨?_⟩⟩
  refine ExS.pre (st2 := (fun (P s : Int) (R : List Sh) (E : List Ed) (F : List Bool) (i : Nat) (out : List Bool) => cst 187 [(9, iV P), (11, listV enc3 3 R), (12, .c (.ptr 0 0)), (13, iV s), (14, listV encB 1 F), (15, .c (.sl 1 1 0 n)), (16, iV (i : Nat))] [.cells 30 [.p (.i .i64 (n : Nat)), .p (listP encE 2 E)], .row 4 1 n (rowC encB out)]) (rotaP L) (aroundZ t 1000) (rotaL false L) (acG M) (firing n b) 0 (List.replicate n false)) (weak_cst ?_) (routeEsc_core hG (rotaL_valid L) (rotaP_range L) hs hRl (by omega) hv hlen (firing_length n b))
  exact ⟨rfl, ⟨rfl, rfl, rfl, fun e o he ho => rep_row he ho⟩, trivial⟩
end
end Go.AE
