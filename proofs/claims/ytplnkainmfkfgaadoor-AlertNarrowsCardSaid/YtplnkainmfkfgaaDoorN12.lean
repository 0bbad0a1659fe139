/- AE: ref01.Pick, the law AlertNarrows. -/
import Derived.Test.YtplnkainmfkfgaaDoorN9
import Derived.Test.YtplnkainmfkfgaaDoorN11
namespace Go.AE
set_option linter.unusedVariables false
set_option linter.unusedSimpArgs false
open Go.Proofs Go.Proofs.YtplnkainmfkfgaaDoor Go.RowKit
def pickZ (L : List Int) (i m : Int) : Int := if i < 0 ∨ L.length ≤ i then 0 else aroundZ (L.getD i.toNat default) m
def Ints (L : List Int) : Prop := ∀ x ∈ L, inR .i64 x
def rowN (F : Nat → Int) (e _o : Nat) : C := .p (.i .i64 (F e))
def mPick : Mod
  | [.c (.p (.l 1 n f)), .c (.p (.i .i64 i)), .c (.p (.i .i64 m))] => some (IsL encI 1 (decL decI n f) n f ∧ Ints (decL decI n f) ∧ 0 < m, iV (pickZ (decL decI n f) i m))
  | _ => none
def extNa : Ext := extOf [(4, mListI), (6, mPick), (5, mPart), (8, mSmallQ), (7, mAtLeast), (9, mAtMost), (11, mLives)]
def extNh : Ext := extH [(10, mAHyst)]

theorem tPick (L : List Int) (i m : Int) : exTs extA (pcs Tryd.prog Tryd.f6) (st0 Tryd.f6 [listV encI 1 L, iV i, iV m]) (endF [] [] (resOf Tryd.prog Tryd.f6)) = bT (decide (i < 0)) (Tr.done X.ret (St.mk [V.c (C.p (PV.i IntKind.i64 0))] []))
    (bT (decide ((↑L.length : Int) ≤ i)) (Tr.done X.ret (St.mk [V.c (C.p (PV.i IntKind.i64 0))] []))
      (Tr.rq (0 ≤ i ∧ i < (↑L.length : Int)) (Tr.rq (inR IntKind.i64 (L.getD i.toNat default) ∧ 0 < m) (Tr.done X.ret (St.mk [V.c (C.p (PV.i IntKind.i64 (aroundZ (L.getD i.toNat default) m)))] []))))) := by kernel_rfl
theorem tNa1 (L M : List Int) (p q : Int) : exTs extNa (takeL 4 (pcs Tryd.prog Tryd.f3)) (st0 Tryd.f3 [listV encI 1 L, listV encI 1 M, iV p, iV q]) (endG (msk 116 [0, 1, 2, 3, 9, 10, 11, 12, 13, 14]) (resOf Tryd.prog Tryd.f3)) = Tr.rq ((IsL encI 1 (decL decI L.length (rowP encI L)) L.length (rowP encI L) ∧ ∀ (k : Nat), k < L.length → inR IntKind.i64 ((decL decI L.length (rowP encI L)).getD k default)) ∧ Ten 10)
    (Tr.done X.normal
      (cst 116 [(0, V.c (C.p (PV.l 1 L.length (rowP encI L)))), (1, V.c (C.p (PV.l 1 M.length (rowP encI M)))), (2, V.c (C.p (PV.i IntKind.i64 p))), (3, V.c (C.p (PV.i IntKind.i64 q))), (9, V.c (C.p (PV.l 4 (listJ (decL decI L.length (rowP encI L)) (min (L.length / 2) 10)).length (rowP encV (listJ (decL decI L.length (rowP encI L)) (min (L.length / 2) 10)))))), (10, V.c (C.p (PV.z (Value.slice none 0 0)))), (11, V.c (C.p (PV.z (Value.slice none 0 0)))), (12, V.c (C.p (PV.z (Value.slice none 0 0)))), (13, V.c (C.p (PV.z (Value.slice none 0 0)))), (14, V.c (C.p (PV.i IntKind.i64 0)))] [])) := by kernel_rfl
theorem tNa2 (L M : List Int) (W : List Iv) (F H F2 H2 : Nat → Int) (p q : Int) (i : Nat) : exTs extNa (lpB (pcs Tryd.prog Tryd.f3) 4) (cst 116 [(0, listV encI 1 L), (1, listV encI 1 M), (2, iV p), (3, iV q), (9, listV encV 4 W), (10, .c (.sl 0 1 0 i)), (11, .c (.sl 1 1 0 i)), (12, .c (.sl 2 1 0 i)), (13, .c (.sl 3 1 0 i)), (14, iV (i : Nat))] [.row 3 1 i (rowN F), .row 3 1 i (rowN H), .row 3 1 i (rowN F2), .row 3 1 i (rowN H2)]) (endG (msk 116 [0, 1, 2, 3, 9, 10, 11, 12, 13, 14]) (resOf Tryd.prog Tryd.f3)) = bT (decide ((↑i : Int) < (↑W.length : Int)))
    (Tr.rq (0 ≤ (↑i : Int) ∧ (↑i : Int) < (↑W.length : Int))
      (Tr.rq (inR IntKind.i64 (2 * (↑i : Int)))
        (Tr.rq (IsL encI 1 (decL decI M.length (rowP encI M)) M.length (rowP encI M) ∧ Ints (decL decI M.length (rowP encI M)) ∧ Int.ofNat 0 < Int.ofNat 9)
          (Tr.rq (inR IntKind.i64 (2 * (↑i : Int)))
            (Tr.rq (inR IntKind.i64 (2 * (↑i : Int) + 1))
              (Tr.rq (IsL encI 1 (decL decI M.length (rowP encI M)) M.length (rowP encI M) ∧ Ints (decL decI M.length (rowP encI M)) ∧ Int.ofNat 0 < Int.ofNat 9)
                (Tr.rq
                  (smallV (((W.getD (↑i : Int).toNat default).fst.fst, (W.getD (↑i : Int).toNat default).fst.snd), (W.getD (↑i : Int).toNat default).snd.fst, (W.getD (↑i : Int).toNat default).snd.snd) ∧
                    inR IntKind.i64 (pickZ (decL decI M.length (rowP encI M)) (2 * (↑i : Int)) 9) ∧ inR IntKind.i64 (pickZ (decL decI M.length (rowP encI M)) (2 * (↑i : Int) + 1) 9))
                  (Tr.rq (0 ≤ (↑i : Int) ∧ (↑i : Int) < (↑W.length : Int))
                    (Tr.rq (inR IntKind.i64 p)
                      (Tr.rq
                        ((vQ ((W.getD (↑i : Int).toNat default).fst.fst, (W.getD (↑i : Int).toNat default).fst.snd) ∧
                            vQ ((W.getD (↑i : Int).toNat default).snd.fst, (W.getD (↑i : Int).toNat default).snd.snd)) ∧
                          cmpQ ((W.getD (↑i : Int).toNat default).fst.fst, (W.getD (↑i : Int).toNat default).fst.snd)
                                ((W.getD (↑i : Int).toNat default).snd.fst, (W.getD (↑i : Int).toNat default).snd.snd) ≤
                              0 ∧
                            vQ ((smQ p).fst, (smQ p).snd))
                        (Tr.rq (i = i)
                          (Tr.rq (1 ≤ 1)
                            (Tr.rq
                              ((i + 1) * 8 ≤ 140737488355328 ∧
                                i + 1 ≤ 140737488355328 ∧
                                  ∀ (e o : Nat),
                                    e < 1 →
                                      o < 1 →
                                        oneC
                                            (nth C.top
                                              [C.p
                                                  (PV.i IntKind.i64
                                                    (atLeastQ
                                                      (((W.getD (↑i : Int).toNat default).fst.fst, (W.getD (↑i : Int).toNat default).fst.snd), (W.getD (↑i : Int).toNat default).snd.fst,
                                                        (W.getD (↑i : Int).toNat default).snd.snd)
                                                      ((smQ p).fst, (smQ p).snd)))]
                                              ((e + 0) * 1 + o)) =
                                          true)
                              (Tr.rq (0 ≤ (↑i : Int) ∧ (↑i : Int) < (↑W.length : Int))
                                (Tr.rq (inR IntKind.i64 q)
                                  (Tr.rq
                                    ((vQ ((W.getD (↑i : Int).toNat default).fst.fst, (W.getD (↑i : Int).toNat default).fst.snd) ∧
                                        vQ ((W.getD (↑i : Int).toNat default).snd.fst, (W.getD (↑i : Int).toNat default).snd.snd)) ∧
                                      cmpQ ((W.getD (↑i : Int).toNat default).fst.fst, (W.getD (↑i : Int).toNat default).fst.snd)
                                            ((W.getD (↑i : Int).toNat default).snd.fst, (W.getD (↑i : Int).toNat default).snd.snd) ≤
                                          0 ∧
                                        vQ ((smQ q).fst, (smQ q).snd))
                                    (Tr.rq (i = i)
                                      (Tr.rq (1 ≤ 1)
                                        (Tr.rq
                                          ((i + 1) * 8 ≤ 140737488355328 ∧
                                            i + 1 ≤ 140737488355328 ∧
                                              ∀ (e o : Nat),
                                                e < 1 →
                                                  o < 1 →
                                                    oneC
                                                        (nth C.top
                                                          [C.p
                                                              (PV.i IntKind.i64
                                                                (atMostQ
                                                                  (((W.getD (↑i : Int).toNat default).fst.fst, (W.getD (↑i : Int).toNat default).fst.snd), (W.getD (↑i : Int).toNat default).snd.fst,
                                                                    (W.getD (↑i : Int).toNat default).snd.snd)
                                                                  ((smQ q).fst, (smQ q).snd)))]
                                                          ((e + 0) * 1 + o)) =
                                                      true)
                                          (Tr.rq (inR IntKind.i64 p)
                                            (Tr.rq
                                              ((vQ
                                                    ((partI
                                                            (((W.getD (↑i : Int).toNat default).fst.fst, (W.getD (↑i : Int).toNat default).fst.snd), (W.getD (↑i : Int).toNat default).snd.fst,
                                                              (W.getD (↑i : Int).toNat default).snd.snd)
                                                            (pickZ (decL decI M.length (rowP encI M)) (2 * (↑i : Int)) 9) (pickZ (decL decI M.length (rowP encI M)) (2 * (↑i : Int) + 1) 9)).fst.fst,
                                                      (partI
                                                            (((W.getD (↑i : Int).toNat default).fst.fst, (W.getD (↑i : Int).toNat default).fst.snd), (W.getD (↑i : Int).toNat default).snd.fst,
                                                              (W.getD (↑i : Int).toNat default).snd.snd)
                                                            (pickZ (decL decI M.length (rowP encI M)) (2 * (↑i : Int)) 9) (pickZ (decL decI M.length (rowP encI M)) (2 * (↑i : Int) + 1) 9)).fst.snd) ∧
                                                  vQ
                                                    ((partI
                                                            (((W.getD (↑i : Int).toNat default).fst.fst, (W.getD (↑i : Int).toNat default).fst.snd), (W.getD (↑i : Int).toNat default).snd.fst,
                                                              (W.getD (↑i : Int).toNat default).snd.snd)
                                                            (pickZ (decL decI M.length (rowP encI M)) (2 * (↑i : Int)) 9) (pickZ (decL decI M.length (rowP encI M)) (2 * (↑i : Int) + 1) 9)).snd.fst,
                                                      (partI
                                                            (((W.getD (↑i : Int).toNat default).fst.fst, (W.getD (↑i : Int).toNat default).fst.snd), (W.getD (↑i : Int).toNat default).snd.fst,
                                                              (W.getD (↑i : Int).toNat default).snd.snd)
                                                            (pickZ (decL decI M.length (rowP encI M)) (2 * (↑i : Int)) 9) (pickZ (decL decI M.length (rowP encI M)) (2 * (↑i : Int) + 1) 9)).snd.snd)) ∧
                                                cmpQ
                                                      ((partI
                                                              (((W.getD (↑i : Int).toNat default).fst.fst, (W.getD (↑i : Int).toNat default).fst.snd), (W.getD (↑i : Int).toNat default).snd.fst,
                                                                (W.getD (↑i : Int).toNat default).snd.snd)
                                                              (pickZ (decL decI M.length (rowP encI M)) (2 * (↑i : Int)) 9) (pickZ (decL decI M.length (rowP encI M)) (2 * (↑i : Int) + 1) 9)).fst.fst,
                                                        (partI
                                                              (((W.getD (↑i : Int).toNat default).fst.fst, (W.getD (↑i : Int).toNat default).fst.snd), (W.getD (↑i : Int).toNat default).snd.fst,
                                                                (W.getD (↑i : Int).toNat default).snd.snd)
                                                              (pickZ (decL decI M.length (rowP encI M)) (2 * (↑i : Int)) 9) (pickZ (decL decI M.length (rowP encI M)) (2 * (↑i : Int) + 1) 9)).fst.snd)
                                                      ((partI
                                                              (((W.getD (↑i : Int).toNat default).fst.fst, (W.getD (↑i : Int).toNat default).fst.snd), (W.getD (↑i : Int).toNat default).snd.fst,
                                                                (W.getD (↑i : Int).toNat default).snd.snd)
                                                              (pickZ (decL decI M.length (rowP encI M)) (2 * (↑i : Int)) 9) (pickZ (decL decI M.length (rowP encI M)) (2 * (↑i : Int) + 1) 9)).snd.fst,
                                                        (partI
                                                              (((W.getD (↑i : Int).toNat default).fst.fst, (W.getD (↑i : Int).toNat default).fst.snd), (W.getD (↑i : Int).toNat default).snd.fst,
                                                                (W.getD (↑i : Int).toNat default).snd.snd)
                                                              (pickZ (decL decI M.length (rowP encI M)) (2 * (↑i : Int)) 9) (pickZ (decL decI M.length (rowP encI M)) (2 * (↑i : Int) + 1) 9)).snd.snd) ≤
                                                    0 ∧
                                                  vQ ((smQ p).fst, (smQ p).snd))
                                              (Tr.rq (i = i)
                                                (Tr.rq (1 ≤ 1)
                                                  (Tr.rq
                                                    ((i + 1) * 8 ≤ 140737488355328 ∧
                                                      i + 1 ≤ 140737488355328 ∧
                                                        ∀ (e o : Nat),
                                                          e < 1 →
                                                            o < 1 →
                                                              oneC
                                                                  (nth C.top
                                                                    [C.p
                                                                        (PV.i IntKind.i64
                                                                          (atLeastQ
                                                                            (((partI
                                                                                      (((W.getD (↑i : Int).toNat default).fst.fst, (W.getD (↑i : Int).toNat default).fst.snd),
                                                                                        (W.getD (↑i : Int).toNat default).snd.fst, (W.getD (↑i : Int).toNat default).snd.snd)
                                                                                      (pickZ (decL decI M.length (rowP encI M)) (2 * (↑i : Int)) 9)
                                                                                      (pickZ (decL decI M.length (rowP encI M)) (2 * (↑i : Int) + 1) 9)).fst.fst,
                                                                                (partI
                                                                                      (((W.getD (↑i : Int).toNat default).fst.fst, (W.getD (↑i : Int).toNat default).fst.snd),
                                                                                        (W.getD (↑i : Int).toNat default).snd.fst, (W.getD (↑i : Int).toNat default).snd.snd)
                                                                                      (pickZ (decL decI M.length (rowP encI M)) (2 * (↑i : Int)) 9)
                                                                                      (pickZ (decL decI M.length (rowP encI M)) (2 * (↑i : Int) + 1) 9)).fst.snd),
                                                                              (partI
                                                                                    (((W.getD (↑i : Int).toNat default).fst.fst, (W.getD (↑i : Int).toNat default).fst.snd),
                                                                                      (W.getD (↑i : Int).toNat default).snd.fst, (W.getD (↑i : Int).toNat default).snd.snd)
                                                                                    (pickZ (decL decI M.length (rowP encI M)) (2 * (↑i : Int)) 9)
                                                                                    (pickZ (decL decI M.length (rowP encI M)) (2 * (↑i : Int) + 1) 9)).snd.fst,
                                                                              (partI
                                                                                    (((W.getD (↑i : Int).toNat default).fst.fst, (W.getD (↑i : Int).toNat default).fst.snd),
                                                                                      (W.getD (↑i : Int).toNat default).snd.fst, (W.getD (↑i : Int).toNat default).snd.snd)
                                                                                    (pickZ (decL decI M.length (rowP encI M)) (2 * (↑i : Int)) 9)
                                                                                    (pickZ (decL decI M.length (rowP encI M)) (2 * (↑i : Int) + 1) 9)).snd.snd)
                                                                            ((smQ p).fst, (smQ p).snd)))]
                                                                    ((e + 0) * 1 + o)) =
                                                                true)
                                                    (Tr.rq (inR IntKind.i64 q)
                                                      (Tr.rq
                                                        ((vQ
                                                              ((partI
                                                                      (((W.getD (↑i : Int).toNat default).fst.fst, (W.getD (↑i : Int).toNat default).fst.snd), (W.getD (↑i : Int).toNat default).snd.fst,
                                                                        (W.getD (↑i : Int).toNat default).snd.snd)
                                                                      (pickZ (decL decI M.length (rowP encI M)) (2 * (↑i : Int)) 9)
                                                                      (pickZ (decL decI M.length (rowP encI M)) (2 * (↑i : Int) + 1) 9)).fst.fst,
                                                                (partI
                                                                      (((W.getD (↑i : Int).toNat default).fst.fst, (W.getD (↑i : Int).toNat default).fst.snd), (W.getD (↑i : Int).toNat default).snd.fst,
                                                                        (W.getD (↑i : Int).toNat default).snd.snd)
                                                                      (pickZ (decL decI M.length (rowP encI M)) (2 * (↑i : Int)) 9)
                                                                      (pickZ (decL decI M.length (rowP encI M)) (2 * (↑i : Int) + 1) 9)).fst.snd) ∧
                                                            vQ
                                                              ((partI
                                                                      (((W.getD (↑i : Int).toNat default).fst.fst, (W.getD (↑i : Int).toNat default).fst.snd), (W.getD (↑i : Int).toNat default).snd.fst,
                                                                        (W.getD (↑i : Int).toNat default).snd.snd)
                                                                      (pickZ (decL decI M.length (rowP encI M)) (2 * (↑i : Int)) 9)
                                                                      (pickZ (decL decI M.length (rowP encI M)) (2 * (↑i : Int) + 1) 9)).snd.fst,
                                                                (partI
                                                                      (((W.getD (↑i : Int).toNat default).fst.fst, (W.getD (↑i : Int).toNat default).fst.snd), (W.getD (↑i : Int).toNat default).snd.fst,
                                                                        (W.getD (↑i : Int).toNat default).snd.snd)
                                                                      (pickZ (decL decI M.length (rowP encI M)) (2 * (↑i : Int)) 9)
                                                                      (pickZ (decL decI M.length (rowP encI M)) (2 * (↑i : Int) + 1) 9)).snd.snd)) ∧
                                                          cmpQ
                                                                ((partI
                                                                        (((W.getD (↑i : Int).toNat default).fst.fst, (W.getD (↑i : Int).toNat default).fst.snd),
                                                                          (W.getD (↑i : Int).toNat default).snd.fst, (W.getD (↑i : Int).toNat default).snd.snd)
                                                                        (pickZ (decL decI M.length (rowP encI M)) (2 * (↑i : Int)) 9)
                                                                        (pickZ (decL decI M.length (rowP encI M)) (2 * (↑i : Int) + 1) 9)).fst.fst,
                                                                  (partI
                                                                        (((W.getD (↑i : Int).toNat default).fst.fst, (W.getD (↑i : Int).toNat default).fst.snd),
                                                                          (W.getD (↑i : Int).toNat default).snd.fst, (W.getD (↑i : Int).toNat default).snd.snd)
                                                                        (pickZ (decL decI M.length (rowP encI M)) (2 * (↑i : Int)) 9)
                                                                        (pickZ (decL decI M.length (rowP encI M)) (2 * (↑i : Int) + 1) 9)).fst.snd)
                                                                ((partI
                                                                        (((W.getD (↑i : Int).toNat default).fst.fst, (W.getD (↑i : Int).toNat default).fst.snd),
                                                                          (W.getD (↑i : Int).toNat default).snd.fst, (W.getD (↑i : Int).toNat default).snd.snd)
                                                                        (pickZ (decL decI M.length (rowP encI M)) (2 * (↑i : Int)) 9)
                                                                        (pickZ (decL decI M.length (rowP encI M)) (2 * (↑i : Int) + 1) 9)).snd.fst,
                                                                  (partI
                                                                        (((W.getD (↑i : Int).toNat default).fst.fst, (W.getD (↑i : Int).toNat default).fst.snd),
                                                                          (W.getD (↑i : Int).toNat default).snd.fst, (W.getD (↑i : Int).toNat default).snd.snd)
                                                                        (pickZ (decL decI M.length (rowP encI M)) (2 * (↑i : Int)) 9)
                                                                        (pickZ (decL decI M.length (rowP encI M)) (2 * (↑i : Int) + 1) 9)).snd.snd) ≤
                                                              0 ∧
                                                            vQ ((smQ q).fst, (smQ q).snd))
                                                        (Tr.rq (i = i)
                                                          (Tr.rq (1 ≤ 1)
                                                            (Tr.rq
                                                              ((i + 1) * 8 ≤ 140737488355328 ∧
                                                                i + 1 ≤ 140737488355328 ∧
                                                                  ∀ (e o : Nat),
                                                                    e < 1 →
                                                                      o < 1 →
                                                                        oneC
                                                                            (nth C.top
                                                                              [C.p
                                                                                  (PV.i IntKind.i64
                                                                                    (atMostQ
                                                                                      (((partI
                                                                                                (((W.getD (↑i : Int).toNat default).fst.fst, (W.getD (↑i : Int).toNat default).fst.snd),
                                                                                                  (W.getD (↑i : Int).toNat default).snd.fst, (W.getD (↑i : Int).toNat default).snd.snd)
                                                                                                (pickZ (decL decI M.length (rowP encI M)) (2 * (↑i : Int)) 9)
                                                                                                (pickZ (decL decI M.length (rowP encI M)) (2 * (↑i : Int) + 1) 9)).fst.fst,
                                                                                          (partI
                                                                                                (((W.getD (↑i : Int).toNat default).fst.fst, (W.getD (↑i : Int).toNat default).fst.snd),
                                                                                                  (W.getD (↑i : Int).toNat default).snd.fst, (W.getD (↑i : Int).toNat default).snd.snd)
                                                                                                (pickZ (decL decI M.length (rowP encI M)) (2 * (↑i : Int)) 9)
                                                                                                (pickZ (decL decI M.length (rowP encI M)) (2 * (↑i : Int) + 1) 9)).fst.snd),
                                                                                        (partI
                                                                                              (((W.getD (↑i : Int).toNat default).fst.fst, (W.getD (↑i : Int).toNat default).fst.snd),
                                                                                                (W.getD (↑i : Int).toNat default).snd.fst, (W.getD (↑i : Int).toNat default).snd.snd)
                                                                                              (pickZ (decL decI M.length (rowP encI M)) (2 * (↑i : Int)) 9)
                                                                                              (pickZ (decL decI M.length (rowP encI M)) (2 * (↑i : Int) + 1) 9)).snd.fst,
                                                                                        (partI
                                                                                              (((W.getD (↑i : Int).toNat default).fst.fst, (W.getD (↑i : Int).toNat default).fst.snd),
                                                                                                (W.getD (↑i : Int).toNat default).snd.fst, (W.getD (↑i : Int).toNat default).snd.snd)
                                                                                              (pickZ (decL decI M.length (rowP encI M)) (2 * (↑i : Int)) 9)
                                                                                              (pickZ (decL decI M.length (rowP encI M)) (2 * (↑i : Int) + 1) 9)).snd.snd)
                                                                                      ((smQ q).fst, (smQ q).snd)))]
                                                                              ((e + 0) * 1 + o)) =
                                                                          true)
                                                              (Tr.rq (inR IntKind.i64 ((↑i : Int) + 1))
                                                                (Tr.done X.normal
                                                                  (cst 116 [(0, V.c (C.p (PV.l 1 L.length (rowP encI L)))), (1, V.c (C.p (PV.l 1 M.length (rowP encI M)))), (2, V.c (C.p (PV.i IntKind.i64 p))), (3, V.c (C.p (PV.i IntKind.i64 q))), (9, V.c (C.p (PV.l 4 W.length (rowP encV W)))), (10, V.c (C.sl 0 1 0 (i + 1))), (11, V.c (C.sl 1 1 0 (i + 1))), (12, V.c (C.sl 2 1 0 (i + 1))), (13, V.c (C.sl 3 1 0 (i + 1))), (14, V.c (C.p (PV.i IntKind.i64 ((↑i : Int) + 1))))] [AO.row 3 1 (i + 1) fun e o => renC [6, 8, 10, 12] (appF i (rowN F) (fun e o => nth C.top [C.p (PV.i IntKind.i64 (atLeastQ (((W.getD (↑i : Int).toNat default).fst.fst, (W.getD (↑i : Int).toNat default).fst.snd), (W.getD (↑i : Int).toNat default).snd.fst, (W.getD (↑i : Int).toNat default).snd.snd) ((smQ p).fst, (smQ p).snd)))] ((e + 0) * 1 + o)) e o), AO.row 3 1 (i + 1) fun e o => renC [6, 8, 10, 12] (appF i (rowN H) (fun e o => nth C.top [C.p (PV.i IntKind.i64 (atMostQ (((W.getD (↑i : Int).toNat default).fst.fst, (W.getD (↑i : Int).toNat default).fst.snd), (W.getD (↑i : Int).toNat default).snd.fst, (W.getD (↑i : Int).toNat default).snd.snd) ((smQ q).fst, (smQ q).snd)))] ((e + 0) * 1 + o)) e o), AO.row 3 1 (i + 1) fun e o => renC [6, 8, 10, 12] (appF i (rowN F2) (fun e o => nth C.top [C.p (PV.i IntKind.i64 (atLeastQ (((partI (((W.getD (↑i : Int).toNat default).fst.fst, (W.getD (↑i : Int).toNat default).fst.snd), (W.getD (↑i : Int).toNat default).snd.fst, (W.getD (↑i : Int).toNat default).snd.snd) (pickZ (decL decI M.length (rowP encI M)) (2 * (↑i : Int)) 9) (pickZ (decL decI M.length (rowP encI M)) (2 * (↑i : Int) + 1) 9)).fst.fst, (partI (((W.getD (↑i : Int).toNat default).fst.fst, (W.getD (↑i : Int).toNat default).fst.snd), (W.getD (↑i : Int).toNat default).snd.fst, (W.getD (↑i : Int).toNat default).snd.snd) (pickZ (decL decI M.length (rowP encI M)) (2 * (↑i : Int)) 9) (pickZ (decL decI M.length (rowP encI M)) (2 * (↑i : Int) + 1) 9)).fst.snd), (partI (((W.getD (↑i : Int).toNat default).fst.fst, (W.getD (↑i : Int).toNat default).fst.snd), (W.getD (↑i : Int).toNat default).snd.fst, (W.getD (↑i : Int).toNat default).snd.snd) (pickZ (decL decI M.length (rowP encI M)) (2 * (↑i : Int)) 9) (pickZ (decL decI M.length (rowP encI M)) (2 * (↑i : Int) + 1) 9)).snd.fst, (partI (((W.getD (↑i : Int).toNat default).fst.fst, (W.getD (↑i : Int).toNat default).fst.snd), (W.getD (↑i : Int).toNat default).snd.fst, (W.getD (↑i : Int).toNat default).snd.snd) (pickZ (decL decI M.length (rowP encI M)) (2 * (↑i : Int)) 9) (pickZ (decL decI M.length (rowP encI M)) (2 * (↑i : Int) + 1) 9)).snd.snd) ((smQ p).fst, (smQ p).snd)))] ((e + 0) * 1 + o)) e o), AO.row 3 1 (i + 1) fun e o => renC [6, 8, 10, 12] (appF i (rowN H2) (fun e o => nth C.top [C.p (PV.i IntKind.i64 (atMostQ (((partI (((W.getD (↑i : Int).toNat default).fst.fst, (W.getD (↑i : Int).toNat default).fst.snd), (W.getD (↑i : Int).toNat default).snd.fst, (W.getD (↑i : Int).toNat default).snd.snd) (pickZ (decL decI M.length (rowP encI M)) (2 * (↑i : Int)) 9) (pickZ (decL decI M.length (rowP encI M)) (2 * (↑i : Int) + 1) 9)).fst.fst, (partI (((W.getD (↑i : Int).toNat default).fst.fst, (W.getD (↑i : Int).toNat default).fst.snd), (W.getD (↑i : Int).toNat default).snd.fst, (W.getD (↑i : Int).toNat default).snd.snd) (pickZ (decL decI M.length (rowP encI M)) (2 * (↑i : Int)) 9) (pickZ (decL decI M.length (rowP encI M)) (2 * (↑i : Int) + 1) 9)).fst.snd), (partI (((W.getD (↑i : Int).toNat default).fst.fst, (W.getD (↑i : Int).toNat default).fst.snd), (W.getD (↑i : Int).toNat default).snd.fst, (W.getD (↑i : Int).toNat default).snd.snd) (pickZ (decL decI M.length (rowP encI M)) (2 * (↑i : Int)) 9) (pickZ (decL decI M.length (rowP encI M)) (2 * (↑i : Int) + 1) 9)).snd.fst, (partI (((W.getD (↑i : Int).toNat default).fst.fst, (W.getD (↑i : Int).toNat default).fst.snd), (W.getD (↑i : Int).toNat default).snd.fst, (W.getD (↑i : Int).toNat default).snd.snd) (pickZ (decL decI M.length (rowP encI M)) (2 * (↑i : Int)) 9) (pickZ (decL decI M.length (rowP encI M)) (2 * (↑i : Int) + 1) 9)).snd.snd) ((smQ q).fst, (smQ q).snd)))] ((e + 0) * 1 + o)) e o)]))))))))))))))))))))))))))))))))
    (Tr.done (X.exit 0)
      (cst 116 [(0, V.c (C.p (PV.l 1 L.length (rowP encI L)))), (1, V.c (C.p (PV.l 1 M.length (rowP encI M)))), (2, V.c (C.p (PV.i IntKind.i64 p))), (3, V.c (C.p (PV.i IntKind.i64 q))), (9, V.c (C.p (PV.l 4 W.length (rowP encV W)))), (10, V.c (C.sl 0 1 0 i)), (11, V.c (C.sl 1 1 0 i)), (12, V.c (C.sl 2 1 0 i)), (13, V.c (C.sl 3 1 0 i)), (14, V.c (C.p (PV.i IntKind.i64 (↑i : Int))))] [AO.row 3 1 i fun e o => renC [0, 1, 2, 3] (C.p (PV.i IntKind.i64 (F e))), AO.row 3 1 i fun e o => renC [0, 1, 2, 3] (C.p (PV.i IntKind.i64 (H e))), AO.row 3 1 i fun e o => renC [0, 1, 2, 3] (C.p (PV.i IntKind.i64 (F2 e))), AO.row 3 1 i fun e o => renC [0, 1, 2, 3] (C.p (PV.i IntKind.i64 (H2 e)))])) := by kernel_rfl
theorem tNa3 (L M : List Int) (W : List Iv) (F H F2 H2 : Nat → Int) (p q : Int) (i : Nat) : exTs extNh (takeL 5 (dropL 5 (pcs Tryd.prog Tryd.f3))) (cst 116 [(0, listV encI 1 L), (1, listV encI 1 M), (2, iV p), (3, iV q), (9, listV encV 4 W), (10, .c (.sl 0 1 0 i)), (11, .c (.sl 1 1 0 i)), (12, .c (.sl 2 1 0 i)), (13, .c (.sl 3 1 0 i)), (14, iV (i : Nat))] [.row 3 1 i (rowN F), .row 3 1 i (rowN H), .row 3 1 i (rowN F2), .row 3 1 i (rowN H2)]) (endG (msk 116 [16, 17, 18]) (resOf Tryd.prog Tryd.f3)) = Tr.rq
    (((i = i ∧ ∀ (e : Nat), e < i → rowN F e 0 = C.p (PV.i IntKind.i64 (intOfP (unP (rowN F e 0))))) ∧ i = i ∧ ∀ (e : Nat), e < i → rowN H e 0 = C.p (PV.i IntKind.i64 (intOfP (unP (rowN H e 0))))) ∧
      i ≤ 1000000 ∧ i ≤ 1000000)
    (Tr.rq
      (((i = i ∧ ∀ (e : Nat), e < i → rowN F2 e 0 = C.p (PV.i IntKind.i64 (intOfP (unP (rowN F2 e 0))))) ∧
          i = i ∧ ∀ (e : Nat), e < i → rowN H2 e 0 = C.p (PV.i IntKind.i64 (intOfP (unP (rowN H2 e 0))))) ∧
        i ≤ 1000000 ∧ i ≤ 1000000)
      (bT ((↑(hystL (fun e => intOfP (unP (rowN F e 0))) (fun e => intOfP (unP (rowN H e 0))) (min i i)).length : Int) != (↑W.length : Int)) (Tr.done X.ret (St.mk [V.c (C.p (PV.b false))] []))
        (bT ((↑(hystL (fun e => intOfP (unP (rowN F2 e 0))) (fun e => intOfP (unP (rowN H2 e 0))) (min i i)).length : Int) != (↑W.length : Int)) (Tr.done X.ret (St.mk [V.c (C.p (PV.b false))] []))
          (Tr.done X.normal
            (cst 116 [(16, V.c (C.p (PV.l 1 (hystL (fun e => intOfP (unP (rowN F e 0))) (fun e => intOfP (unP (rowN H e 0))) (min i i)).length (rowP encI (hystL (fun e => intOfP (unP (rowN F e 0))) (fun e => intOfP (unP (rowN H e 0))) (min i i)))))), (17, V.c (C.p (PV.l 1 (hystL (fun e => intOfP (unP (rowN F2 e 0))) (fun e => intOfP (unP (rowN H2 e 0))) (min i i)).length (rowP encI (hystL (fun e => intOfP (unP (rowN F2 e 0))) (fun e => intOfP (unP (rowN H2 e 0))) (min i i)))))), (18, V.c (C.p (PV.i IntKind.i64 0)))] []))))) := by kernel_rfl
theorem tNa4 (A1 B1 : List Int) (i : Nat) : exTs ext0 (lpB (pcs Tryd.prog Tryd.f3) 10) (cst 116 [(16, listV encI 1 A1), (17, listV encI 1 B1), (18, iV (i : Nat))] []) (endG (msk 116 [16, 17, 18]) (resOf Tryd.prog Tryd.f3)) = bT (decide ((↑i : Int) < (↑A1.length : Int)))
    (Tr.rq (0 ≤ (↑i : Int) ∧ (↑i : Int) < (↑A1.length : Int))
      (bT (A1.getD (↑i : Int).toNat default != 1)
        (Tr.rq (0 ≤ (↑i : Int) ∧ (↑i : Int) < (↑B1.length : Int))
          (Tr.rq (0 ≤ (↑i : Int) ∧ (↑i : Int) < (↑A1.length : Int))
            (bT (B1.getD (↑i : Int).toNat default != A1.getD (↑i : Int).toNat default) (Tr.done X.ret (St.mk [V.c (C.p (PV.b false))] []))
              (Tr.rq (inR IntKind.i64 ((↑i : Int) + 1))
                (Tr.done X.normal
                  (cst 116 [(16, V.c (C.p (PV.l 1 A1.length (rowP encI A1)))), (17, V.c (C.p (PV.l 1 B1.length (rowP encI B1)))), (18, V.c (C.p (PV.i IntKind.i64 ((↑i : Int) + 1))))] []))))))
        (Tr.rq (inR IntKind.i64 ((↑i : Int) + 1))
          (Tr.done X.normal
            (cst 116 [(16, V.c (C.p (PV.l 1 A1.length (rowP encI A1)))), (17, V.c (C.p (PV.l 1 B1.length (rowP encI B1)))), (18, V.c (C.p (PV.i IntKind.i64 ((↑i : Int) + 1))))] [])))))
    (Tr.done (X.exit 2)
      (cst 116 [(16, V.c (C.p (PV.l 1 A1.length (rowP encI A1)))), (17, V.c (C.p (PV.l 1 B1.length (rowP encI B1)))), (18, V.c (C.p (PV.i IntKind.i64 (↑i : Int))))] [])) := by kernel_rfl
theorem tNa5 (A1 B1 : List Int) (i : Nat) : exTs extNa (dropL 11 (pcs Tryd.prog Tryd.f3)) (cst 116 [(16, listV encI 1 A1), (17, listV encI 1 B1), (18, iV (i : Nat))] []) (endG [] (resOf Tryd.prog Tryd.f3)) = Tr.rq True (Tr.done X.ret (St.mk [V.c (C.p (PV.b true))] [])) := by kernel_rfl
theorem getD_mem {L : List Int} {i : Nat} (h : i < L.length) : L.getD i default ∈ L := by
  rw [List.getD_eq_getElem?_getD, List.getElem?_eq_getElem h]
  exact List.getElem_mem h
theorem listJ_getD {L : List Int} {j k : Nat} (h : k < j) : (listJ L j).getD k default = smI (L.getD (2 * k) default) (L.getD (2 * k + 1) default) := by
  unfold listJ
  simp [h]
theorem appN {F : Nat → Int} {i : Nat} {ρ : List Nat} {g : Nat → Nat → C} (h : g 0 0 = .p (.i .i64 (F i))) {e o : Nat} (he : e < i + 1) (ho : o < 1) : renC ρ (appF i (rowN F) g e o) = rowN F e o := by
  obtain rfl : o = 0 := by omega
  unfold appF
  by_cases h1 : e < i
  · rw [if_pos h1]; rfl
  · obtain rfl : e = i := by omega
    rw [if_neg h1, Nat.sub_self, h]; rfl
theorem pmk_eta {α β : Type} (p : α × β) : (p.1, p.2) = p := rfl
theorem pick9 {L : List Int} (h : Ints L) (i : Int) : 0 ≤ pickZ L i 9 ∧ pickZ L i 9 < 9 := by
  unfold pickZ
  split
  · omega
  · exact aroundZ_rng _ (by decide)
section
variable {G : Nat → Option Obj}
set_option maxRecDepth 100000 in
theorem okPick : ModOK Tryd.prog G 6 mPick := by
  intro args p v hm hp h
  unfold mPick at hm
  split at hm; rotate_left; · cases hm
  rename_i n f i m
  obtain ⟨rfl, rfl⟩ := some_pairQ hm
  obtain ⟨hL, hI, hm0⟩ := hp
  generalize decL decI n f = L at hL hI
  refine FnS.args (args' := [listV encI 1 L, iV i, iV m]) ?_ (.cons hL.le (.cons (.refl _) (.cons (.refl _) .nil)))
  refine fn_S Tryd.func6 (by kernel_rfl) rfl ?_ h
  refine ExS.evA extA_sound [] [] rfl (tPick L i m) ?_
  have bad : (i < 0 ∨ L.length ≤ i) → VLe (V.c (C.p (PV.i .i64 0))) (iV (pickZ L i m)) := fun hi => by
    unfold pickZ; rw [if_pos hi]; exact VLe.refl _
  have good : ¬ (i < 0 ∨ L.length ≤ i) → VLe (iV (aroundZ (L.getD i.toNat default) m)) (iV (pickZ L i m)) := fun hi => by
    unfold pickZ; rw [if_neg hi]; exact VLe.refl _
  have hin : ¬ (i < 0 ∨ L.length ≤ i) → inR .i64 (L.getD i.toNat default) := fun hi => hI _ (getD_mem (by omega))
  simp only [holds_bT, holds_rq, holds_leaf, kf_ret', decide_eq_true_eq, decide_eq_false_iff_not]
  repeat' (first | apply And.intro | intro _)
  all_goals first | (clear bad good hin; omega) | exact ⟨bad (by clear bad good hin; omega)⟩ | exact ⟨good (by clear bad good hin; omega)⟩ | exact (hin (by clear bad good hin; omega)).1 | exact (hin (by clear bad good hin; omega)).2
theorem extNa_sound (hG : LevG G) : SoundExt Tryd.prog G extNa := extOf_sound (by simp; exact ⟨okListI, okPick, okPart, okSmallQ, okAtLeast okGcdI okSumS, okAtMost okGcdI okSumS, okLives hG⟩)
theorem extNh_sound : SoundExt Tryd.prog G extNh := extH_sound (by simp; exact okAHyst)
set_option maxRecDepth 100000 in
theorem alertNarrows_fn (hG : LevG G) {L M : List Int} (hI : Ints L) (hJ : Ints M) {p q : Int} (hp : inR .i64 p) (hq : inR .i64 q) (h0 : List AO) :
    FnS Tryd.prog G 3 [listV encI 1 L, listV encI 1 M, iV p, iV q] h0 fun x h' => x = bV true ∧ h' = h0 := by
  refine fn_S Tryd.func3 (by kernel_rfl) rfl ?_ h0
  refine ExS.evG (extNa_sound hG) 4 (tNa1 L M p q) ?_
  have iL := isL_row encI 1 L
  have hW : ∀ k, k < min (L.length / 2) 10 → ∃ a b, (listJ L (min (L.length / 2) 10)).getD k default = smI a b := fun k hk => ⟨_, _, listJ_getD hk⟩
  have hWl : (listJ L (min (L.length / 2) 10)).length ≤ 10 := by rw [listJ_len]; omega
  simp only [holds_rq, holds_leaf, kf_normal, decI_row]
  refine ⟨⟨⟨iL, fun k hk => hI _ (getD_mem hk)⟩, rfl⟩, ⟨?_⟩⟩
  generalize hWW : listJ L (min (L.length / 2) 10) = W at *
  have hWn : W.length = min (L.length / 2) 10 := by rw [← hWW, listJ_len]
  have hWk : ∀ k, k < W.length → smallV (W.getD k default) ∧ leQ (W.getD k default).1 (W.getD k default).2 := fun k hk => by
    obtain ⟨a, b, e⟩ := hW k (by omega)
    rw [e]; exact smI_ok a b
  clear hW hWW
  let pt : Nat → Iv := fun k => partI (W.getD k default) (pickZ M (2 * (k : Int)) 9) (pickZ M (2 * (k : Int) + 1) 9)
  let F : Nat → Int := fun k => atLeastQ (W.getD k default) (smQ p)
  let H : Nat → Int := fun k => atMostQ (W.getD k default) (smQ q)
  let F2 : Nat → Int := fun k => atLeastQ (pt k) (smQ p)
  let H2 : Nat → Int := fun k => atMostQ (pt k) (smQ q)
  refine ExS.loop' (l := dropL 4 (pcs Tryd.prog Tryd.f3)) (b := inr (inr (nth .skip (pcs Tryd.prog Tryd.f3) 4))) (r := dropL 5 (pcs Tryd.prog Tryd.f3)) (id := 0) (by kernel_rfl) (σ := Nat)
    (fun i => cst 116 [(0, listV encI 1 L), (1, listV encI 1 M), (2, iV p), (3, iV q), (9, listV encV 4 W), (10, .c (.sl 0 1 0 i)), (11, .c (.sl 1 1 0 i)), (12, .c (.sl 2 1 0 i)), (13, .c (.sl 3 1 0 i)), (14, iV (i : Nat))] [.row 3 1 i (rowN F), .row 3 1 i (rowN H), .row 3 1 i (rowN F2), .row 3 1 i (rowN H2)]) (fun i => i ≤ W.length) (fun i => W.length - i) 0 (Nat.zero_le _)
    ((weak_nil 3 1 (rowN F) 10 (by kernel_rfl)).trans ((weak_nil 3 1 (rowN H) 11 (by kernel_rfl)).trans ((weak_nil 3 1 (rowN F2) 12 (by kernel_rfl)).trans ((weak_nil 3 1 (rowN H2) 13 (by kernel_rfl)).trans (weak_of_eq (by kernel_rfl)))))) ?_
  intro i hi Q1 q1n q1e _
  refine ExS.evH (extNa_sound hG) (tNa2 L M W F H F2 H2 p q i) ?_
  have k1 := pick9 hJ (2 * (i : Int))
  have k2 := pick9 hJ (2 * (i : Int) + 1)
  have iM := isL_row encI 1 M
  have hs1 := smQ_v p
  have hs2 := smQ_v q
  have hz : ∀ k, k < W.length → fin (F k) (F2 k) ∧ fin (H k) (H2 k) := fun k hk => by
    obtain ⟨h1, h2⟩ := hWk k hk
    obtain ⟨h3, h4, h5, h6⟩ := part_ok h1 h2 (pickZ M (2 * (k : Int)) 9) (pickZ M (2 * (k : Int) + 1) 9)
    exact ⟨atLeast_fin h1.1 h3 hs1 h4 h5 h6, atMost_fin h1.1 h3 hs2 h4 h5 h6⟩
  simp only [holds_bT, holds_rq, holds_leaf, kf_normal, kf_exit, decide_eq_true_eq, decide_eq_false_iff_not, decI_row, pmk_eta, show (↑i : Int).toNat = i from rfl]
  refine ⟨fun c1 => ?_, fun c1 => ⟨q1e _ ?_⟩⟩
  · have hlt : i < W.length := by omega
    obtain ⟨h1, h2⟩ := hWk i hlt
    obtain ⟨h3, h4, h5, h6⟩ := part_ok h1 h2 (pickZ M (2 * (i : Int)) 9) (pickZ M (2 * (i : Int) + 1) 9)
    have h2' := cmp_le.2 h2
    have h5' := cmp_le.2 h5
    have r1 : inR .i64 (pickZ M (2 * (i : Int)) 9) := ⟨by omega, by omega⟩
    have r2 : inR .i64 (pickZ M (2 * (i : Int) + 1) 9) := ⟨by omega, by omega⟩
    have one : ∀ x : Int, ∀ e o, e < 1 → o < 1 → oneC (nth C.top [C.p (PV.i IntKind.i64 x)] ((e + 0) * 1 + o)) = true := by
      intro x e o he ho
      obtain rfl : e = 0 := by omega
      obtain rfl : o = 0 := by omega
      rfl
    have c0 : 0 ≤ (i : Int) ∧ (i : Int) < (W.length : Int) := by omega
    have ci : inR .i64 (2 * (i : Int)) := ⟨by omega, by omega⟩
    have cj : inR .i64 (2 * (i : Int) + 1) := ⟨by omega, by omega⟩
    have ck : inR .i64 ((i : Int) + 1) := ⟨by omega, by omega⟩
    have cM : IsL encI 1 M M.length (rowP encI M) ∧ Ints M ∧ Int.ofNat 0 < Int.ofNat 9 := ⟨iM, hJ, by decide⟩
    have cA : ∀ x : Int, (i + 1) * 8 ≤ 140737488355328 ∧ i + 1 ≤ 140737488355328 ∧ ∀ e o, e < 1 → o < 1 → oneC (nth C.top [C.p (PV.i IntKind.i64 x)] ((e + 0) * 1 + o)) = true := fun x => ⟨by omega, by omega, one x⟩
    refine ⟨c0, ci, cM, ci, cj, cM, ⟨h1, r1, r2⟩, c0, hp, ⟨h1.1, h2', hs1⟩, trivial, by decide, cA _, c0, hq, ⟨h1.1, h2', hs2⟩, trivial, by decide, cA _, hp, ⟨h3, h5', hs1⟩, trivial, by decide, cA _, hq, ⟨h3, h5', hs2⟩, trivial, by decide, cA _, ck, ⟨q1n (i + 1) _ (by omega) (by omega) ?_⟩⟩
    refine weak_cst ?_
    exact ⟨⟨rfl, rfl, rfl, fun e o he ho => appN rfl he ho⟩, ⟨rfl, rfl, rfl, fun e o he ho => appN rfl he ho⟩, ⟨rfl, rfl, rfl, fun e o he ho => appN rfl he ho⟩, ⟨rfl, rfl, rfl, fun e o he ho => appN rfl he ho⟩, trivial⟩
  · obtain rfl : i = W.length := by omega
    refine ExS.evG extNh_sound 5 (tNa3 L M W F H F2 H2 p q W.length) ?_
    obtain ⟨u1, u2⟩ := inUp_fin (n := W.length) (fun k hk => (hz k hk).1) (fun k hk => (hz k hk).2)
    have e1 : hystL F H W.length = gl (vdF F H) W.length := if_pos u1
    have e2 : hystL F2 H2 W.length = gl (vdF F2 H2) W.length := if_pos u2
    have hfe : ∀ F : Nat → Int, (fun e => intOfP (unP (rowN F e 0))) = F := fun F => rfl
    simp only [holds_bT, holds_rq, holds_leaf, kf_normal, kf_ret', hfe, Nat.min_self, e1, e2, gl_length, bne_self_eq_false, Bool.false_eq_true, false_imp_iff, true_imp_iff, true_and, forall_const]
    refine ⟨⟨⟨fun _ _ => rfl, fun _ _ => rfl⟩, by omega, by omega⟩, ⟨⟨fun _ _ => rfl, fun _ _ => rfl⟩, by omega, by omega⟩, ⟨?_⟩⟩
    have hY : ∀ k, k < W.length → (gl (vdF F H) W.length).getD k default ≠ 1 → (gl (vdF F2 H2) W.length).getD k default = (gl (vdF F H) W.length).getD k default := by
      intro k hk hne
      have g : ∀ f : Nat → Int, (gl f W.length).getD k default = f k := fun f => by unfold gl; simp [hk]
      rw [g] at hne ⊢
      rw [g]
      exact vd_fin hk (fun k hk => (hz k hk).1) (fun k hk => (hz k hk).2) hne
    have l1 : (gl (vdF F H) W.length).length = W.length := gl_length _ _
    have l2 : (gl (vdF F2 H2) W.length).length = W.length := gl_length _ _
    have l3 : W.length ≤ 10 := hWl
    generalize gl (vdF F H) W.length = A1 at *
    generalize gl (vdF F2 H2) W.length = B1 at *
    refine ExS.loop' (l := dropL 10 (pcs Tryd.prog Tryd.f3)) (b := inr (inr (nth .skip (pcs Tryd.prog Tryd.f3) 10))) (r := dropL 11 (pcs Tryd.prog Tryd.f3)) (id := 2) (by kernel_rfl) (σ := Nat)
      (fun i => cst 116 [(16, listV encI 1 A1), (17, listV encI 1 B1), (18, iV (i : Nat))] []) (fun i => i ≤ W.length) (fun i => W.length - i) 0 (Nat.zero_le _) (weak_of_eq (by simp only [listV, listP, l1, l2]; rfl)) ?_
    intro i hi Q2 q2n q2e _
    refine ExS.evH ext0_sound (tNa4 A1 B1 i) ?_
    rw [l1, l2]
    simp only [holds_bT, holds_rq, holds_leaf, kf_normal, kf_exit, kf_ret', decide_eq_true_eq, decide_eq_false_iff_not, bne_iff_ne, ne_eq, bne_eq_false_iff_eq, show (↑i : Int).toNat = i from rfl]
    have nx : i < W.length → ∀ st, st = (fun i => cst 116 [(16, listV encI 1 A1), (17, listV encI 1 B1), (18, iV (i : Nat))] []) (i + 1) → Q2 .normal st := fun h st hst => by
      subst hst
      exact q2n (i + 1) _ (by omega) (by omega) (weak_of_eq (by kernel_rfl))
    refine ⟨fun d1 => ⟨⟨by omega, by omega⟩, fun d2 => ⟨⟨by omega, by omega⟩, ⟨by omega, by omega⟩, fun d3 => ?_, fun d3 => ⟨⟨by omega, by omega⟩, ⟨?_⟩⟩⟩, fun d2 => ⟨⟨by omega, by omega⟩, ⟨?_⟩⟩⟩, fun d1 => ⟨q2e _ ?_⟩⟩
    · exact absurd (hY i (by omega) d2) d3
    · exact nx (by omega) _ (by simp only [listV, listP, l1, l2]; rfl)
    · exact nx (by omega) _ (by simp only [listV, listP, l1, l2]; rfl)
    · refine ExS.pre (weak_of_eq (by simp only [listV, listP, l1, l2]; rfl)) (ExS.evH (extNa_sound hG) (tNa5 A1 B1 i) ?_)
      simp only [holds_rq, holds_leaf, kf_ret']
      exact ⟨trivial, ⟨VLe.refl _⟩⟩
end
end Go.AE
