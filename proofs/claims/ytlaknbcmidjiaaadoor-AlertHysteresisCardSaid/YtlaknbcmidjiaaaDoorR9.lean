/- AE: the laws AlertValid, AlertAck. -/
import Derived.Test.YtlaknbcmidjiaaaDoorR8
namespace Go.AE
open Go.Proofs Go.Proofs.YtlaknbcmidjiaaaDoor Go.RowKit

def extLaw : Ext := extOf [(13, mGen), (14, mBent), (15, mRValid), (16, mRValid), (17, mLives), (30, mAAck), (31, mRAck), (20, mRSame), (21, mAEsc), (22, mREsc)]

theorem tLV (L : List Int) (at_ n : Int) : exTs extLaw (pcs Tryd.prog Tryd.f3) (st0 Tryd.f3 [listV encI 1 L, iV at_, iV n]) (endG [] (resOf Tryd.prog Tryd.f3)) = Tr.rq (IsL encI 1 (decL decI L.length (rowP encI L)) L.length (rowP encI L) ∧ Ints (decL decI L.length (rowP encI L)))
    (Tr.rq
      (IsL enc2 2 (decL dec2 (genL (decL decI L.length (rowP encI L))).L.length (rowP enc2 (genL (decL decI L.length (rowP encI L))).L)) (genL (decL decI L.length (rowP encI L))).L.length
          (rowP enc2 (genL (decL decI L.length (rowP encI L))).L) ∧
        inR IntKind.i64 at_ ∧ inR IntKind.i64 n ∧ IsL encI 1 (decL decI L.length (rowP encI L)) L.length (rowP encI L) ∧ Ints (decL decI L.length (rowP encI L)))
      (Tr.rq
        (IsL enc2 2 (decL dec2 (genL (decL decI L.length (rowP encI L))).L.length (rowP enc2 (genL (decL decI L.length (rowP encI L))).L)) (genL (decL decI L.length (rowP encI L))).L.length
          (rowP enc2 (genL (decL decI L.length (rowP encI L))).L))
        (bT
          (alOK
            (Al.mk (genL (decL decI L.length (rowP encI L))).r (genL (decL decI L.length (rowP encI L))).ver
              (decL dec2 (genL (decL decI L.length (rowP encI L))).L.length (rowP enc2 (genL (decL decI L.length (rowP encI L))).L)) (genL (decL decI L.length (rowP encI L))).st
              (genL (decL decI L.length (rowP encI L))).si (genL (decL decI L.length (rowP encI L))).le))
          (Tr.rq
            (IsL enc2 2
              (decL dec2
                (bentA
                      (Al.mk (genL (decL decI L.length (rowP encI L))).r (genL (decL decI L.length (rowP encI L))).ver
                        (decL dec2 (genL (decL decI L.length (rowP encI L))).L.length (rowP enc2 (genL (decL decI L.length (rowP encI L))).L)) (genL (decL decI L.length (rowP encI L))).st
                        (genL (decL decI L.length (rowP encI L))).si (genL (decL decI L.length (rowP encI L))).le)
                      at_ n (decL decI L.length (rowP encI L))).L.length
                (rowP enc2
                  (bentA
                      (Al.mk (genL (decL decI L.length (rowP encI L))).r (genL (decL decI L.length (rowP encI L))).ver
                        (decL dec2 (genL (decL decI L.length (rowP encI L))).L.length (rowP enc2 (genL (decL decI L.length (rowP encI L))).L)) (genL (decL decI L.length (rowP encI L))).st
                        (genL (decL decI L.length (rowP encI L))).si (genL (decL decI L.length (rowP encI L))).le)
                      at_ n (decL decI L.length (rowP encI L))).L))
              (bentA
                    (Al.mk (genL (decL decI L.length (rowP encI L))).r (genL (decL decI L.length (rowP encI L))).ver
                      (decL dec2 (genL (decL decI L.length (rowP encI L))).L.length (rowP enc2 (genL (decL decI L.length (rowP encI L))).L)) (genL (decL decI L.length (rowP encI L))).st
                      (genL (decL decI L.length (rowP encI L))).si (genL (decL decI L.length (rowP encI L))).le)
                    at_ n (decL decI L.length (rowP encI L))).L.length
              (rowP enc2
                (bentA
                    (Al.mk (genL (decL decI L.length (rowP encI L))).r (genL (decL decI L.length (rowP encI L))).ver
                      (decL dec2 (genL (decL decI L.length (rowP encI L))).L.length (rowP enc2 (genL (decL decI L.length (rowP encI L))).L)) (genL (decL decI L.length (rowP encI L))).st
                      (genL (decL decI L.length (rowP encI L))).si (genL (decL decI L.length (rowP encI L))).le)
                    at_ n (decL decI L.length (rowP encI L))).L))
            (Tr.rq
              (IsL enc2 2
                (decL dec2
                  (bentA
                        (Al.mk (genL (decL decI L.length (rowP encI L))).r (genL (decL decI L.length (rowP encI L))).ver
                          (decL dec2 (genL (decL decI L.length (rowP encI L))).L.length (rowP enc2 (genL (decL decI L.length (rowP encI L))).L)) (genL (decL decI L.length (rowP encI L))).st
                          (genL (decL decI L.length (rowP encI L))).si (genL (decL decI L.length (rowP encI L))).le)
                        at_ n (decL decI L.length (rowP encI L))).L.length
                  (rowP enc2
                    (bentA
                        (Al.mk (genL (decL decI L.length (rowP encI L))).r (genL (decL decI L.length (rowP encI L))).ver
                          (decL dec2 (genL (decL decI L.length (rowP encI L))).L.length (rowP enc2 (genL (decL decI L.length (rowP encI L))).L)) (genL (decL decI L.length (rowP encI L))).st
                          (genL (decL decI L.length (rowP encI L))).si (genL (decL decI L.length (rowP encI L))).le)
                        at_ n (decL decI L.length (rowP encI L))).L))
                (bentA
                      (Al.mk (genL (decL decI L.length (rowP encI L))).r (genL (decL decI L.length (rowP encI L))).ver
                        (decL dec2 (genL (decL decI L.length (rowP encI L))).L.length (rowP enc2 (genL (decL decI L.length (rowP encI L))).L)) (genL (decL decI L.length (rowP encI L))).st
                        (genL (decL decI L.length (rowP encI L))).si (genL (decL decI L.length (rowP encI L))).le)
                      at_ n (decL decI L.length (rowP encI L))).L.length
                (rowP enc2
                  (bentA
                      (Al.mk (genL (decL decI L.length (rowP encI L))).r (genL (decL decI L.length (rowP encI L))).ver
                        (decL dec2 (genL (decL decI L.length (rowP encI L))).L.length (rowP enc2 (genL (decL decI L.length (rowP encI L))).L)) (genL (decL decI L.length (rowP encI L))).st
                        (genL (decL decI L.length (rowP encI L))).si (genL (decL decI L.length (rowP encI L))).le)
                      at_ n (decL decI L.length (rowP encI L))).L))
              (bT
                (alOK
                    (Al.mk
                      (bentA
                          (Al.mk (genL (decL decI L.length (rowP encI L))).r (genL (decL decI L.length (rowP encI L))).ver
                            (decL dec2 (genL (decL decI L.length (rowP encI L))).L.length (rowP enc2 (genL (decL decI L.length (rowP encI L))).L)) (genL (decL decI L.length (rowP encI L))).st
                            (genL (decL decI L.length (rowP encI L))).si (genL (decL decI L.length (rowP encI L))).le)
                          at_ n (decL decI L.length (rowP encI L))).r
                      (bentA
                          (Al.mk (genL (decL decI L.length (rowP encI L))).r (genL (decL decI L.length (rowP encI L))).ver
                            (decL dec2 (genL (decL decI L.length (rowP encI L))).L.length (rowP enc2 (genL (decL decI L.length (rowP encI L))).L)) (genL (decL decI L.length (rowP encI L))).st
                            (genL (decL decI L.length (rowP encI L))).si (genL (decL decI L.length (rowP encI L))).le)
                          at_ n (decL decI L.length (rowP encI L))).ver
                      (decL dec2
                        (bentA
                              (Al.mk (genL (decL decI L.length (rowP encI L))).r (genL (decL decI L.length (rowP encI L))).ver
                                (decL dec2 (genL (decL decI L.length (rowP encI L))).L.length (rowP enc2 (genL (decL decI L.length (rowP encI L))).L)) (genL (decL decI L.length (rowP encI L))).st
                                (genL (decL decI L.length (rowP encI L))).si (genL (decL decI L.length (rowP encI L))).le)
                              at_ n (decL decI L.length (rowP encI L))).L.length
                        (rowP enc2
                          (bentA
                              (Al.mk (genL (decL decI L.length (rowP encI L))).r (genL (decL decI L.length (rowP encI L))).ver
                                (decL dec2 (genL (decL decI L.length (rowP encI L))).L.length (rowP enc2 (genL (decL decI L.length (rowP encI L))).L)) (genL (decL decI L.length (rowP encI L))).st
                                (genL (decL decI L.length (rowP encI L))).si (genL (decL decI L.length (rowP encI L))).le)
                              at_ n (decL decI L.length (rowP encI L))).L))
                      (bentA
                          (Al.mk (genL (decL decI L.length (rowP encI L))).r (genL (decL decI L.length (rowP encI L))).ver
                            (decL dec2 (genL (decL decI L.length (rowP encI L))).L.length (rowP enc2 (genL (decL decI L.length (rowP encI L))).L)) (genL (decL decI L.length (rowP encI L))).st
                            (genL (decL decI L.length (rowP encI L))).si (genL (decL decI L.length (rowP encI L))).le)
                          at_ n (decL decI L.length (rowP encI L))).st
                      (bentA
                          (Al.mk (genL (decL decI L.length (rowP encI L))).r (genL (decL decI L.length (rowP encI L))).ver
                            (decL dec2 (genL (decL decI L.length (rowP encI L))).L.length (rowP enc2 (genL (decL decI L.length (rowP encI L))).L)) (genL (decL decI L.length (rowP encI L))).st
                            (genL (decL decI L.length (rowP encI L))).si (genL (decL decI L.length (rowP encI L))).le)
                          at_ n (decL decI L.length (rowP encI L))).si
                      (bentA
                          (Al.mk (genL (decL decI L.length (rowP encI L))).r (genL (decL decI L.length (rowP encI L))).ver
                            (decL dec2 (genL (decL decI L.length (rowP encI L))).L.length (rowP enc2 (genL (decL decI L.length (rowP encI L))).L)) (genL (decL decI L.length (rowP encI L))).st
                            (genL (decL decI L.length (rowP encI L))).si (genL (decL decI L.length (rowP encI L))).le)
                          at_ n (decL decI L.length (rowP encI L))).le) ==
                  alOK
                    (Al.mk
                      (bentA
                          (Al.mk (genL (decL decI L.length (rowP encI L))).r (genL (decL decI L.length (rowP encI L))).ver
                            (decL dec2 (genL (decL decI L.length (rowP encI L))).L.length (rowP enc2 (genL (decL decI L.length (rowP encI L))).L)) (genL (decL decI L.length (rowP encI L))).st
                            (genL (decL decI L.length (rowP encI L))).si (genL (decL decI L.length (rowP encI L))).le)
                          at_ n (decL decI L.length (rowP encI L))).r
                      (bentA
                          (Al.mk (genL (decL decI L.length (rowP encI L))).r (genL (decL decI L.length (rowP encI L))).ver
                            (decL dec2 (genL (decL decI L.length (rowP encI L))).L.length (rowP enc2 (genL (decL decI L.length (rowP encI L))).L)) (genL (decL decI L.length (rowP encI L))).st
                            (genL (decL decI L.length (rowP encI L))).si (genL (decL decI L.length (rowP encI L))).le)
                          at_ n (decL decI L.length (rowP encI L))).ver
                      (decL dec2
                        (bentA
                              (Al.mk (genL (decL decI L.length (rowP encI L))).r (genL (decL decI L.length (rowP encI L))).ver
                                (decL dec2 (genL (decL decI L.length (rowP encI L))).L.length (rowP enc2 (genL (decL decI L.length (rowP encI L))).L)) (genL (decL decI L.length (rowP encI L))).st
                                (genL (decL decI L.length (rowP encI L))).si (genL (decL decI L.length (rowP encI L))).le)
                              at_ n (decL decI L.length (rowP encI L))).L.length
                        (rowP enc2
                          (bentA
                              (Al.mk (genL (decL decI L.length (rowP encI L))).r (genL (decL decI L.length (rowP encI L))).ver
                                (decL dec2 (genL (decL decI L.length (rowP encI L))).L.length (rowP enc2 (genL (decL decI L.length (rowP encI L))).L)) (genL (decL decI L.length (rowP encI L))).st
                                (genL (decL decI L.length (rowP encI L))).si (genL (decL decI L.length (rowP encI L))).le)
                              at_ n (decL decI L.length (rowP encI L))).L))
                      (bentA
                          (Al.mk (genL (decL decI L.length (rowP encI L))).r (genL (decL decI L.length (rowP encI L))).ver
                            (decL dec2 (genL (decL decI L.length (rowP encI L))).L.length (rowP enc2 (genL (decL decI L.length (rowP encI L))).L)) (genL (decL decI L.length (rowP encI L))).st
                            (genL (decL decI L.length (rowP encI L))).si (genL (decL decI L.length (rowP encI L))).le)
                          at_ n (decL decI L.length (rowP encI L))).st
                      (bentA
                          (Al.mk (genL (decL decI L.length (rowP encI L))).r (genL (decL decI L.length (rowP encI L))).ver
                            (decL dec2 (genL (decL decI L.length (rowP encI L))).L.length (rowP enc2 (genL (decL decI L.length (rowP encI L))).L)) (genL (decL decI L.length (rowP encI L))).st
                            (genL (decL decI L.length (rowP encI L))).si (genL (decL decI L.length (rowP encI L))).le)
                          at_ n (decL decI L.length (rowP encI L))).si
                      (bentA
                          (Al.mk (genL (decL decI L.length (rowP encI L))).r (genL (decL decI L.length (rowP encI L))).ver
                            (decL dec2 (genL (decL decI L.length (rowP encI L))).L.length (rowP enc2 (genL (decL decI L.length (rowP encI L))).L)) (genL (decL decI L.length (rowP encI L))).st
                            (genL (decL decI L.length (rowP encI L))).si (genL (decL decI L.length (rowP encI L))).le)
                          at_ n (decL decI L.length (rowP encI L))).le))
                (Tr.rq True (Tr.done X.ret (St.mk [V.c (C.p (PV.b true))] []))) (Tr.done X.ret (St.mk [V.c (C.p (PV.b false))] [])))))
          (Tr.done X.ret (St.mk [V.c (C.p (PV.b false))] []))))) := by kernel_rfl
theorem tLK1 (L : List Int) (at_ n tk : Int) : exTs extLaw (takeL 2 (pcs Tryd.prog Tryd.f9)) (st0 Tryd.f9 [listV encI 1 L, iV at_, iV n, iV tk]) (endG (msk 50 [0, 1, 2, 3, 9]) (resOf Tryd.prog Tryd.f9)) = Tr.done X.normal
    (cst 50 [(0, V.c (C.p (PV.l 1 L.length (rowP encI L)))), (1, V.c (C.p (PV.i IntKind.i64 at_))), (2, V.c (C.p (PV.i IntKind.i64 n))), (3, V.c (C.p (PV.i IntKind.i64 tk))), (9, V.c (C.p (PV.i IntKind.i64 0)))] []) := by kernel_rfl
theorem tLK2 (L : List Int) (at_ n tk : Int) (i : Nat) : exTs extLaw (lpB (pcs Tryd.prog Tryd.f9) 2) (cst 50 [(0, listV encI 1 L), (1, iV at_), (2, iV n), (3, iV tk), (9, iV (i : Nat))] []) (endG (msk 50 [0, 1, 2, 3, 9]) (resOf Tryd.prog Tryd.f9)) = bT (decide ((↑i : Int) < 2))
    (Tr.rq (IsL encI 1 (decL decI L.length (rowP encI L)) L.length (rowP encI L) ∧ Ints (decL decI L.length (rowP encI L)))
      (bT ((↑i : Int) == 1)
        (Tr.rq
          (IsL enc2 2 (decL dec2 (genL (decL decI L.length (rowP encI L))).L.length (rowP enc2 (genL (decL decI L.length (rowP encI L))).L)) (genL (decL decI L.length (rowP encI L))).L.length
              (rowP enc2 (genL (decL decI L.length (rowP encI L))).L) ∧
            inR IntKind.i64 at_ ∧ inR IntKind.i64 n ∧ IsL encI 1 (decL decI L.length (rowP encI L)) L.length (rowP encI L) ∧ Ints (decL decI L.length (rowP encI L)))
          (Tr.rq
            (IsL enc2 2
                (decL dec2
                  (bentA
                        (Al.mk (genL (decL decI L.length (rowP encI L))).r (genL (decL decI L.length (rowP encI L))).ver
                          (decL dec2 (genL (decL decI L.length (rowP encI L))).L.length (rowP enc2 (genL (decL decI L.length (rowP encI L))).L)) (genL (decL decI L.length (rowP encI L))).st
                          (genL (decL decI L.length (rowP encI L))).si (genL (decL decI L.length (rowP encI L))).le)
                        at_ n (decL decI L.length (rowP encI L))).L.length
                  (rowP enc2
                    (bentA
                        (Al.mk (genL (decL decI L.length (rowP encI L))).r (genL (decL decI L.length (rowP encI L))).ver
                          (decL dec2 (genL (decL decI L.length (rowP encI L))).L.length (rowP enc2 (genL (decL decI L.length (rowP encI L))).L)) (genL (decL decI L.length (rowP encI L))).st
                          (genL (decL decI L.length (rowP encI L))).si (genL (decL decI L.length (rowP encI L))).le)
                        at_ n (decL decI L.length (rowP encI L))).L))
                (bentA
                      (Al.mk (genL (decL decI L.length (rowP encI L))).r (genL (decL decI L.length (rowP encI L))).ver
                        (decL dec2 (genL (decL decI L.length (rowP encI L))).L.length (rowP enc2 (genL (decL decI L.length (rowP encI L))).L)) (genL (decL decI L.length (rowP encI L))).st
                        (genL (decL decI L.length (rowP encI L))).si (genL (decL decI L.length (rowP encI L))).le)
                      at_ n (decL decI L.length (rowP encI L))).L.length
                (rowP enc2
                  (bentA
                      (Al.mk (genL (decL decI L.length (rowP encI L))).r (genL (decL decI L.length (rowP encI L))).ver
                        (decL dec2 (genL (decL decI L.length (rowP encI L))).L.length (rowP enc2 (genL (decL decI L.length (rowP encI L))).L)) (genL (decL decI L.length (rowP encI L))).st
                        (genL (decL decI L.length (rowP encI L))).si (genL (decL decI L.length (rowP encI L))).le)
                      at_ n (decL decI L.length (rowP encI L))).L) ∧
              (Al.mk
                      (bentA
                          (Al.mk (genL (decL decI L.length (rowP encI L))).r (genL (decL decI L.length (rowP encI L))).ver
                            (decL dec2 (genL (decL decI L.length (rowP encI L))).L.length (rowP enc2 (genL (decL decI L.length (rowP encI L))).L)) (genL (decL decI L.length (rowP encI L))).st
                            (genL (decL decI L.length (rowP encI L))).si (genL (decL decI L.length (rowP encI L))).le)
                          at_ n (decL decI L.length (rowP encI L))).r
                      (bentA
                          (Al.mk (genL (decL decI L.length (rowP encI L))).r (genL (decL decI L.length (rowP encI L))).ver
                            (decL dec2 (genL (decL decI L.length (rowP encI L))).L.length (rowP enc2 (genL (decL decI L.length (rowP encI L))).L)) (genL (decL decI L.length (rowP encI L))).st
                            (genL (decL decI L.length (rowP encI L))).si (genL (decL decI L.length (rowP encI L))).le)
                          at_ n (decL decI L.length (rowP encI L))).ver
                      (decL dec2
                        (bentA
                              (Al.mk (genL (decL decI L.length (rowP encI L))).r (genL (decL decI L.length (rowP encI L))).ver
                                (decL dec2 (genL (decL decI L.length (rowP encI L))).L.length (rowP enc2 (genL (decL decI L.length (rowP encI L))).L)) (genL (decL decI L.length (rowP encI L))).st
                                (genL (decL decI L.length (rowP encI L))).si (genL (decL decI L.length (rowP encI L))).le)
                              at_ n (decL decI L.length (rowP encI L))).L.length
                        (rowP enc2
                          (bentA
                              (Al.mk (genL (decL decI L.length (rowP encI L))).r (genL (decL decI L.length (rowP encI L))).ver
                                (decL dec2 (genL (decL decI L.length (rowP encI L))).L.length (rowP enc2 (genL (decL decI L.length (rowP encI L))).L)) (genL (decL decI L.length (rowP encI L))).st
                                (genL (decL decI L.length (rowP encI L))).si (genL (decL decI L.length (rowP encI L))).le)
                              at_ n (decL decI L.length (rowP encI L))).L))
                      (bentA
                          (Al.mk (genL (decL decI L.length (rowP encI L))).r (genL (decL decI L.length (rowP encI L))).ver
                            (decL dec2 (genL (decL decI L.length (rowP encI L))).L.length (rowP enc2 (genL (decL decI L.length (rowP encI L))).L)) (genL (decL decI L.length (rowP encI L))).st
                            (genL (decL decI L.length (rowP encI L))).si (genL (decL decI L.length (rowP encI L))).le)
                          at_ n (decL decI L.length (rowP encI L))).st
                      (bentA
                          (Al.mk (genL (decL decI L.length (rowP encI L))).r (genL (decL decI L.length (rowP encI L))).ver
                            (decL dec2 (genL (decL decI L.length (rowP encI L))).L.length (rowP enc2 (genL (decL decI L.length (rowP encI L))).L)) (genL (decL decI L.length (rowP encI L))).st
                            (genL (decL decI L.length (rowP encI L))).si (genL (decL decI L.length (rowP encI L))).le)
                          at_ n (decL decI L.length (rowP encI L))).si
                      (bentA
                          (Al.mk (genL (decL decI L.length (rowP encI L))).r (genL (decL decI L.length (rowP encI L))).ver
                            (decL dec2 (genL (decL decI L.length (rowP encI L))).L.length (rowP enc2 (genL (decL decI L.length (rowP encI L))).L)) (genL (decL decI L.length (rowP encI L))).st
                            (genL (decL decI L.length (rowP encI L))).si (genL (decL decI L.length (rowP encI L))).le)
                          at_ n (decL decI L.length (rowP encI L))).le).L.length ≤
                1000000)
            (Tr.rq
              (IsL enc2 2
                (decL dec2
                  (bentA
                        (Al.mk (genL (decL decI L.length (rowP encI L))).r (genL (decL decI L.length (rowP encI L))).ver
                          (decL dec2 (genL (decL decI L.length (rowP encI L))).L.length (rowP enc2 (genL (decL decI L.length (rowP encI L))).L)) (genL (decL decI L.length (rowP encI L))).st
                          (genL (decL decI L.length (rowP encI L))).si (genL (decL decI L.length (rowP encI L))).le)
                        at_ n (decL decI L.length (rowP encI L))).L.length
                  (rowP enc2
                    (bentA
                        (Al.mk (genL (decL decI L.length (rowP encI L))).r (genL (decL decI L.length (rowP encI L))).ver
                          (decL dec2 (genL (decL decI L.length (rowP encI L))).L.length (rowP enc2 (genL (decL decI L.length (rowP encI L))).L)) (genL (decL decI L.length (rowP encI L))).st
                          (genL (decL decI L.length (rowP encI L))).si (genL (decL decI L.length (rowP encI L))).le)
                        at_ n (decL decI L.length (rowP encI L))).L))
                (bentA
                      (Al.mk (genL (decL decI L.length (rowP encI L))).r (genL (decL decI L.length (rowP encI L))).ver
                        (decL dec2 (genL (decL decI L.length (rowP encI L))).L.length (rowP enc2 (genL (decL decI L.length (rowP encI L))).L)) (genL (decL decI L.length (rowP encI L))).st
                        (genL (decL decI L.length (rowP encI L))).si (genL (decL decI L.length (rowP encI L))).le)
                      at_ n (decL decI L.length (rowP encI L))).L.length
                (rowP enc2
                  (bentA
                      (Al.mk (genL (decL decI L.length (rowP encI L))).r (genL (decL decI L.length (rowP encI L))).ver
                        (decL dec2 (genL (decL decI L.length (rowP encI L))).L.length (rowP enc2 (genL (decL decI L.length (rowP encI L))).L)) (genL (decL decI L.length (rowP encI L))).st
                        (genL (decL decI L.length (rowP encI L))).si (genL (decL decI L.length (rowP encI L))).le)
                      at_ n (decL decI L.length (rowP encI L))).L))
              (bT
                ((alAck
                      (Al.mk
                        (bentA
                            (Al.mk (genL (decL decI L.length (rowP encI L))).r (genL (decL decI L.length (rowP encI L))).ver
                              (decL dec2 (genL (decL decI L.length (rowP encI L))).L.length (rowP enc2 (genL (decL decI L.length (rowP encI L))).L)) (genL (decL decI L.length (rowP encI L))).st
                              (genL (decL decI L.length (rowP encI L))).si (genL (decL decI L.length (rowP encI L))).le)
                            at_ n (decL decI L.length (rowP encI L))).r
                        (bentA
                            (Al.mk (genL (decL decI L.length (rowP encI L))).r (genL (decL decI L.length (rowP encI L))).ver
                              (decL dec2 (genL (decL decI L.length (rowP encI L))).L.length (rowP enc2 (genL (decL decI L.length (rowP encI L))).L)) (genL (decL decI L.length (rowP encI L))).st
                              (genL (decL decI L.length (rowP encI L))).si (genL (decL decI L.length (rowP encI L))).le)
                            at_ n (decL decI L.length (rowP encI L))).ver
                        (decL dec2
                          (bentA
                                (Al.mk (genL (decL decI L.length (rowP encI L))).r (genL (decL decI L.length (rowP encI L))).ver
                                  (decL dec2 (genL (decL decI L.length (rowP encI L))).L.length (rowP enc2 (genL (decL decI L.length (rowP encI L))).L)) (genL (decL decI L.length (rowP encI L))).st
                                  (genL (decL decI L.length (rowP encI L))).si (genL (decL decI L.length (rowP encI L))).le)
                                at_ n (decL decI L.length (rowP encI L))).L.length
                          (rowP enc2
                            (bentA
                                (Al.mk (genL (decL decI L.length (rowP encI L))).r (genL (decL decI L.length (rowP encI L))).ver
                                  (decL dec2 (genL (decL decI L.length (rowP encI L))).L.length (rowP enc2 (genL (decL decI L.length (rowP encI L))).L)) (genL (decL decI L.length (rowP encI L))).st
                                  (genL (decL decI L.length (rowP encI L))).si (genL (decL decI L.length (rowP encI L))).le)
                                at_ n (decL decI L.length (rowP encI L))).L))
                        (bentA
                            (Al.mk (genL (decL decI L.length (rowP encI L))).r (genL (decL decI L.length (rowP encI L))).ver
                              (decL dec2 (genL (decL decI L.length (rowP encI L))).L.length (rowP enc2 (genL (decL decI L.length (rowP encI L))).L)) (genL (decL decI L.length (rowP encI L))).st
                              (genL (decL decI L.length (rowP encI L))).si (genL (decL decI L.length (rowP encI L))).le)
                            at_ n (decL decI L.length (rowP encI L))).st
                        (bentA
                            (Al.mk (genL (decL decI L.length (rowP encI L))).r (genL (decL decI L.length (rowP encI L))).ver
                              (decL dec2 (genL (decL decI L.length (rowP encI L))).L.length (rowP enc2 (genL (decL decI L.length (rowP encI L))).L)) (genL (decL decI L.length (rowP encI L))).st
                              (genL (decL decI L.length (rowP encI L))).si (genL (decL decI L.length (rowP encI L))).le)
                            at_ n (decL decI L.length (rowP encI L))).si
                        (bentA
                            (Al.mk (genL (decL decI L.length (rowP encI L))).r (genL (decL decI L.length (rowP encI L))).ver
                              (decL dec2 (genL (decL decI L.length (rowP encI L))).L.length (rowP enc2 (genL (decL decI L.length (rowP encI L))).L)) (genL (decL decI L.length (rowP encI L))).st
                              (genL (decL decI L.length (rowP encI L))).si (genL (decL decI L.length (rowP encI L))).le)
                            at_ n (decL decI L.length (rowP encI L))).le)
                      tk).snd !=
                  (alAck
                      (Al.mk
                        (bentA
                            (Al.mk (genL (decL decI L.length (rowP encI L))).r (genL (decL decI L.length (rowP encI L))).ver
                              (decL dec2 (genL (decL decI L.length (rowP encI L))).L.length (rowP enc2 (genL (decL decI L.length (rowP encI L))).L)) (genL (decL decI L.length (rowP encI L))).st
                              (genL (decL decI L.length (rowP encI L))).si (genL (decL decI L.length (rowP encI L))).le)
                            at_ n (decL decI L.length (rowP encI L))).r
                        (bentA
                            (Al.mk (genL (decL decI L.length (rowP encI L))).r (genL (decL decI L.length (rowP encI L))).ver
                              (decL dec2 (genL (decL decI L.length (rowP encI L))).L.length (rowP enc2 (genL (decL decI L.length (rowP encI L))).L)) (genL (decL decI L.length (rowP encI L))).st
                              (genL (decL decI L.length (rowP encI L))).si (genL (decL decI L.length (rowP encI L))).le)
                            at_ n (decL decI L.length (rowP encI L))).ver
                        (decL dec2
                          (bentA
                                (Al.mk (genL (decL decI L.length (rowP encI L))).r (genL (decL decI L.length (rowP encI L))).ver
                                  (decL dec2 (genL (decL decI L.length (rowP encI L))).L.length (rowP enc2 (genL (decL decI L.length (rowP encI L))).L)) (genL (decL decI L.length (rowP encI L))).st
                                  (genL (decL decI L.length (rowP encI L))).si (genL (decL decI L.length (rowP encI L))).le)
                                at_ n (decL decI L.length (rowP encI L))).L.length
                          (rowP enc2
                            (bentA
                                (Al.mk (genL (decL decI L.length (rowP encI L))).r (genL (decL decI L.length (rowP encI L))).ver
                                  (decL dec2 (genL (decL decI L.length (rowP encI L))).L.length (rowP enc2 (genL (decL decI L.length (rowP encI L))).L)) (genL (decL decI L.length (rowP encI L))).st
                                  (genL (decL decI L.length (rowP encI L))).si (genL (decL decI L.length (rowP encI L))).le)
                                at_ n (decL decI L.length (rowP encI L))).L))
                        (bentA
                            (Al.mk (genL (decL decI L.length (rowP encI L))).r (genL (decL decI L.length (rowP encI L))).ver
                              (decL dec2 (genL (decL decI L.length (rowP encI L))).L.length (rowP enc2 (genL (decL decI L.length (rowP encI L))).L)) (genL (decL decI L.length (rowP encI L))).st
                              (genL (decL decI L.length (rowP encI L))).si (genL (decL decI L.length (rowP encI L))).le)
                            at_ n (decL decI L.length (rowP encI L))).st
                        (bentA
                            (Al.mk (genL (decL decI L.length (rowP encI L))).r (genL (decL decI L.length (rowP encI L))).ver
                              (decL dec2 (genL (decL decI L.length (rowP encI L))).L.length (rowP enc2 (genL (decL decI L.length (rowP encI L))).L)) (genL (decL decI L.length (rowP encI L))).st
                              (genL (decL decI L.length (rowP encI L))).si (genL (decL decI L.length (rowP encI L))).le)
                            at_ n (decL decI L.length (rowP encI L))).si
                        (bentA
                            (Al.mk (genL (decL decI L.length (rowP encI L))).r (genL (decL decI L.length (rowP encI L))).ver
                              (decL dec2 (genL (decL decI L.length (rowP encI L))).L.length (rowP enc2 (genL (decL decI L.length (rowP encI L))).L)) (genL (decL decI L.length (rowP encI L))).st
                              (genL (decL decI L.length (rowP encI L))).si (genL (decL decI L.length (rowP encI L))).le)
                            at_ n (decL decI L.length (rowP encI L))).le)
                      tk).snd)
                (Tr.done X.ret (St.mk [V.c (C.p (PV.b false))] []))
                (Tr.rq
                  ((IsL enc2 2
                        (decL dec2
                          (alAck
                                  (Al.mk
                                    (bentA
                                        (Al.mk (genL (decL decI L.length (rowP encI L))).r (genL (decL decI L.length (rowP encI L))).ver
                                          (decL dec2 (genL (decL decI L.length (rowP encI L))).L.length (rowP enc2 (genL (decL decI L.length (rowP encI L))).L))
                                          (genL (decL decI L.length (rowP encI L))).st (genL (decL decI L.length (rowP encI L))).si (genL (decL decI L.length (rowP encI L))).le)
                                        at_ n (decL decI L.length (rowP encI L))).r
                                    (bentA
                                        (Al.mk (genL (decL decI L.length (rowP encI L))).r (genL (decL decI L.length (rowP encI L))).ver
                                          (decL dec2 (genL (decL decI L.length (rowP encI L))).L.length (rowP enc2 (genL (decL decI L.length (rowP encI L))).L))
                                          (genL (decL decI L.length (rowP encI L))).st (genL (decL decI L.length (rowP encI L))).si (genL (decL decI L.length (rowP encI L))).le)
                                        at_ n (decL decI L.length (rowP encI L))).ver
                                    (decL dec2
                                      (bentA
                                            (Al.mk (genL (decL decI L.length (rowP encI L))).r (genL (decL decI L.length (rowP encI L))).ver
                                              (decL dec2 (genL (decL decI L.length (rowP encI L))).L.length (rowP enc2 (genL (decL decI L.length (rowP encI L))).L))
                                              (genL (decL decI L.length (rowP encI L))).st (genL (decL decI L.length (rowP encI L))).si (genL (decL decI L.length (rowP encI L))).le)
                                            at_ n (decL decI L.length (rowP encI L))).L.length
                                      (rowP enc2
                                        (bentA
                                            (Al.mk (genL (decL decI L.length (rowP encI L))).r (genL (decL decI L.length (rowP encI L))).ver
                                              (decL dec2 (genL (decL decI L.length (rowP encI L))).L.length (rowP enc2 (genL (decL decI L.length (rowP encI L))).L))
                                              (genL (decL decI L.length (rowP encI L))).st (genL (decL decI L.length (rowP encI L))).si (genL (decL decI L.length (rowP encI L))).le)
                                            at_ n (decL decI L.length (rowP encI L))).L))
                                    (bentA
                                        (Al.mk (genL (decL decI L.length (rowP encI L))).r (genL (decL decI L.length (rowP encI L))).ver
                                          (decL dec2 (genL (decL decI L.length (rowP encI L))).L.length (rowP enc2 (genL (decL decI L.length (rowP encI L))).L))
                                          (genL (decL decI L.length (rowP encI L))).st (genL (decL decI L.length (rowP encI L))).si (genL (decL decI L.length (rowP encI L))).le)
                                        at_ n (decL decI L.length (rowP encI L))).st
                                    (bentA
                                        (Al.mk (genL (decL decI L.length (rowP encI L))).r (genL (decL decI L.length (rowP encI L))).ver
                                          (decL dec2 (genL (decL decI L.length (rowP encI L))).L.length (rowP enc2 (genL (decL decI L.length (rowP encI L))).L))
                                          (genL (decL decI L.length (rowP encI L))).st (genL (decL decI L.length (rowP encI L))).si (genL (decL decI L.length (rowP encI L))).le)
                                        at_ n (decL decI L.length (rowP encI L))).si
                                    (bentA
                                        (Al.mk (genL (decL decI L.length (rowP encI L))).r (genL (decL decI L.length (rowP encI L))).ver
                                          (decL dec2 (genL (decL decI L.length (rowP encI L))).L.length (rowP enc2 (genL (decL decI L.length (rowP encI L))).L))
                                          (genL (decL decI L.length (rowP encI L))).st (genL (decL decI L.length (rowP encI L))).si (genL (decL decI L.length (rowP encI L))).le)
                                        at_ n (decL decI L.length (rowP encI L))).le)
                                  tk).fst.L.length
                          (rowP enc2
                            (alAck
                                  (Al.mk
                                    (bentA
                                        (Al.mk (genL (decL decI L.length (rowP encI L))).r (genL (decL decI L.length (rowP encI L))).ver
                                          (decL dec2 (genL (decL decI L.length (rowP encI L))).L.length (rowP enc2 (genL (decL decI L.length (rowP encI L))).L))
                                          (genL (decL decI L.length (rowP encI L))).st (genL (decL decI L.length (rowP encI L))).si (genL (decL decI L.length (rowP encI L))).le)
                                        at_ n (decL decI L.length (rowP encI L))).r
                                    (bentA
                                        (Al.mk (genL (decL decI L.length (rowP encI L))).r (genL (decL decI L.length (rowP encI L))).ver
                                          (decL dec2 (genL (decL decI L.length (rowP encI L))).L.length (rowP enc2 (genL (decL decI L.length (rowP encI L))).L))
                                          (genL (decL decI L.length (rowP encI L))).st (genL (decL decI L.length (rowP encI L))).si (genL (decL decI L.length (rowP encI L))).le)
                                        at_ n (decL decI L.length (rowP encI L))).ver
                                    (decL dec2
                                      (bentA
                                            (Al.mk (genL (decL decI L.length (rowP encI L))).r (genL (decL decI L.length (rowP encI L))).ver
                                              (decL dec2 (genL (decL decI L.length (rowP encI L))).L.length (rowP enc2 (genL (decL decI L.length (rowP encI L))).L))
                                              (genL (decL decI L.length (rowP encI L))).st (genL (decL decI L.length (rowP encI L))).si (genL (decL decI L.length (rowP encI L))).le)
                                            at_ n (decL decI L.length (rowP encI L))).L.length
                                      (rowP enc2
                                        (bentA
                                            (Al.mk (genL (decL decI L.length (rowP encI L))).r (genL (decL decI L.length (rowP encI L))).ver
                                              (decL dec2 (genL (decL decI L.length (rowP encI L))).L.length (rowP enc2 (genL (decL decI L.length (rowP encI L))).L))
                                              (genL (decL decI L.length (rowP encI L))).st (genL (decL decI L.length (rowP encI L))).si (genL (decL decI L.length (rowP encI L))).le)
                                            at_ n (decL decI L.length (rowP encI L))).L))
                                    (bentA
                                        (Al.mk (genL (decL decI L.length (rowP encI L))).r (genL (decL decI L.length (rowP encI L))).ver
                                          (decL dec2 (genL (decL decI L.length (rowP encI L))).L.length (rowP enc2 (genL (decL decI L.length (rowP encI L))).L))
                                          (genL (decL decI L.length (rowP encI L))).st (genL (decL decI L.length (rowP encI L))).si (genL (decL decI L.length (rowP encI L))).le)
                                        at_ n (decL decI L.length (rowP encI L))).st
                                    (bentA
                                        (Al.mk (genL (decL decI L.length (rowP encI L))).r (genL (decL decI L.length (rowP encI L))).ver
                                          (decL dec2 (genL (decL decI L.length (rowP encI L))).L.length (rowP enc2 (genL (decL decI L.length (rowP encI L))).L))
                                          (genL (decL decI L.length (rowP encI L))).st (genL (decL decI L.length (rowP encI L))).si (genL (decL decI L.length (rowP encI L))).le)
                                        at_ n (decL decI L.length (rowP encI L))).si
                                    (bentA
                                        (Al.mk (genL (decL decI L.length (rowP encI L))).r (genL (decL decI L.length (rowP encI L))).ver
                                          (decL dec2 (genL (decL decI L.length (rowP encI L))).L.length (rowP enc2 (genL (decL decI L.length (rowP encI L))).L))
                                          (genL (decL decI L.length (rowP encI L))).st (genL (decL decI L.length (rowP encI L))).si (genL (decL decI L.length (rowP encI L))).le)
                                        at_ n (decL decI L.length (rowP encI L))).le)
                                  tk).fst.L))
                        (alAck
                                (Al.mk
                                  (bentA
                                      (Al.mk (genL (decL decI L.length (rowP encI L))).r (genL (decL decI L.length (rowP encI L))).ver
                                        (decL dec2 (genL (decL decI L.length (rowP encI L))).L.length (rowP enc2 (genL (decL decI L.length (rowP encI L))).L))
                                        (genL (decL decI L.length (rowP encI L))).st (genL (decL decI L.length (rowP encI L))).si (genL (decL decI L.length (rowP encI L))).le)
                                      at_ n (decL decI L.length (rowP encI L))).r
                                  (bentA
                                      (Al.mk (genL (decL decI L.length (rowP encI L))).r (genL (decL decI L.length (rowP encI L))).ver
                                        (decL dec2 (genL (decL decI L.length (rowP encI L))).L.length (rowP enc2 (genL (decL decI L.length (rowP encI L))).L))
                                        (genL (decL decI L.length (rowP encI L))).st (genL (decL decI L.length (rowP encI L))).si (genL (decL decI L.length (rowP encI L))).le)
                                      at_ n (decL decI L.length (rowP encI L))).ver
                                  (decL dec2
                                    (bentA
                                          (Al.mk (genL (decL decI L.length (rowP encI L))).r (genL (decL decI L.length (rowP encI L))).ver
                                            (decL dec2 (genL (decL decI L.length (rowP encI L))).L.length (rowP enc2 (genL (decL decI L.length (rowP encI L))).L))
                                            (genL (decL decI L.length (rowP encI L))).st (genL (decL decI L.length (rowP encI L))).si (genL (decL decI L.length (rowP encI L))).le)
                                          at_ n (decL decI L.length (rowP encI L))).L.length
                                    (rowP enc2
                                      (bentA
                                          (Al.mk (genL (decL decI L.length (rowP encI L))).r (genL (decL decI L.length (rowP encI L))).ver
                                            (decL dec2 (genL (decL decI L.length (rowP encI L))).L.length (rowP enc2 (genL (decL decI L.length (rowP encI L))).L))
                                            (genL (decL decI L.length (rowP encI L))).st (genL (decL decI L.length (rowP encI L))).si (genL (decL decI L.length (rowP encI L))).le)
                                          at_ n (decL decI L.length (rowP encI L))).L))
                                  (bentA
                                      (Al.mk (genL (decL decI L.length (rowP encI L))).r (genL (decL decI L.length (rowP encI L))).ver
                                        (decL dec2 (genL (decL decI L.length (rowP encI L))).L.length (rowP enc2 (genL (decL decI L.length (rowP encI L))).L))
                                        (genL (decL decI L.length (rowP encI L))).st (genL (decL decI L.length (rowP encI L))).si (genL (decL decI L.length (rowP encI L))).le)
                                      at_ n (decL decI L.length (rowP encI L))).st
                                  (bentA
                                      (Al.mk (genL (decL decI L.length (rowP encI L))).r (genL (decL decI L.length (rowP encI L))).ver
                                        (decL dec2 (genL (decL decI L.length (rowP encI L))).L.length (rowP enc2 (genL (decL decI L.length (rowP encI L))).L))
                                        (genL (decL decI L.length (rowP encI L))).st (genL (decL decI L.length (rowP encI L))).si (genL (decL decI L.length (rowP encI L))).le)
                                      at_ n (decL decI L.length (rowP encI L))).si
                                  (bentA
                                      (Al.mk (genL (decL decI L.length (rowP encI L))).r (genL (decL decI L.length (rowP encI L))).ver
                                        (decL dec2 (genL (decL decI L.length (rowP encI L))).L.length (rowP enc2 (genL (decL decI L.length (rowP encI L))).L))
                                        (genL (decL decI L.length (rowP encI L))).st (genL (decL decI L.length (rowP encI L))).si (genL (decL decI L.length (rowP encI L))).le)
                                      at_ n (decL decI L.length (rowP encI L))).le)
                                tk).fst.L.length
                        (rowP enc2
                          (alAck
                                (Al.mk
                                  (bentA
                                      (Al.mk (genL (decL decI L.length (rowP encI L))).r (genL (decL decI L.length (rowP encI L))).ver
                                        (decL dec2 (genL (decL decI L.length (rowP encI L))).L.length (rowP enc2 (genL (decL decI L.length (rowP encI L))).L))
                                        (genL (decL decI L.length (rowP encI L))).st (genL (decL decI L.length (rowP encI L))).si (genL (decL decI L.length (rowP encI L))).le)
                                      at_ n (decL decI L.length (rowP encI L))).r
                                  (bentA
                                      (Al.mk (genL (decL decI L.length (rowP encI L))).r (genL (decL decI L.length (rowP encI L))).ver
                                        (decL dec2 (genL (decL decI L.length (rowP encI L))).L.length (rowP enc2 (genL (decL decI L.length (rowP encI L))).L))
                                        (genL (decL decI L.length (rowP encI L))).st (genL (decL decI L.length (rowP encI L))).si (genL (decL decI L.length (rowP encI L))).le)
                                      at_ n (decL decI L.length (rowP encI L))).ver
                                  (decL dec2
                                    (bentA
                                          (Al.mk (genL (decL decI L.length (rowP encI L))).r (genL (decL decI L.length (rowP encI L))).ver
                                            (decL dec2 (genL (decL decI L.length (rowP encI L))).L.length (rowP enc2 (genL (decL decI L.length (rowP encI L))).L))
                                            (genL (decL decI L.length (rowP encI L))).st (genL (decL decI L.length (rowP encI L))).si (genL (decL decI L.length (rowP encI L))).le)
                                          at_ n (decL decI L.length (rowP encI L))).L.length
                                    (rowP enc2
                                      (bentA
                                          (Al.mk (genL (decL decI L.length (rowP encI L))).r (genL (decL decI L.length (rowP encI L))).ver
                                            (decL dec2 (genL (decL decI L.length (rowP encI L))).L.length (rowP enc2 (genL (decL decI L.length (rowP encI L))).L))
                                            (genL (decL decI L.length (rowP encI L))).st (genL (decL decI L.length (rowP encI L))).si (genL (decL decI L.length (rowP encI L))).le)
                                          at_ n (decL decI L.length (rowP encI L))).L))
                                  (bentA
                                      (Al.mk (genL (decL decI L.length (rowP encI L))).r (genL (decL decI L.length (rowP encI L))).ver
                                        (decL dec2 (genL (decL decI L.length (rowP encI L))).L.length (rowP enc2 (genL (decL decI L.length (rowP encI L))).L))
                                        (genL (decL decI L.length (rowP encI L))).st (genL (decL decI L.length (rowP encI L))).si (genL (decL decI L.length (rowP encI L))).le)
                                      at_ n (decL decI L.length (rowP encI L))).st
                                  (bentA
                                      (Al.mk (genL (decL decI L.length (rowP encI L))).r (genL (decL decI L.length (rowP encI L))).ver
                                        (decL dec2 (genL (decL decI L.length (rowP encI L))).L.length (rowP enc2 (genL (decL decI L.length (rowP encI L))).L))
                                        (genL (decL decI L.length (rowP encI L))).st (genL (decL decI L.length (rowP encI L))).si (genL (decL decI L.length (rowP encI L))).le)
                                      at_ n (decL decI L.length (rowP encI L))).si
                                  (bentA
                                      (Al.mk (genL (decL decI L.length (rowP encI L))).r (genL (decL decI L.length (rowP encI L))).ver
                                        (decL dec2 (genL (decL decI L.length (rowP encI L))).L.length (rowP enc2 (genL (decL decI L.length (rowP encI L))).L))
                                        (genL (decL decI L.length (rowP encI L))).st (genL (decL decI L.length (rowP encI L))).si (genL (decL decI L.length (rowP encI L))).le)
                                      at_ n (decL decI L.length (rowP encI L))).le)
                                tk).fst.L) ∧
                      IsL enc2 2
                        (decL dec2
                          (alAck
                                  (Al.mk
                                    (bentA
                                        (Al.mk (genL (decL decI L.length (rowP encI L))).r (genL (decL decI L.length (rowP encI L))).ver
                                          (decL dec2 (genL (decL decI L.length (rowP encI L))).L.length (rowP enc2 (genL (decL decI L.length (rowP encI L))).L))
                                          (genL (decL decI L.length (rowP encI L))).st (genL (decL decI L.length (rowP encI L))).si (genL (decL decI L.length (rowP encI L))).le)
                                        at_ n (decL decI L.length (rowP encI L))).r
                                    (bentA
                                        (Al.mk (genL (decL decI L.length (rowP encI L))).r (genL (decL decI L.length (rowP encI L))).ver
                                          (decL dec2 (genL (decL decI L.length (rowP encI L))).L.length (rowP enc2 (genL (decL decI L.length (rowP encI L))).L))
                                          (genL (decL decI L.length (rowP encI L))).st (genL (decL decI L.length (rowP encI L))).si (genL (decL decI L.length (rowP encI L))).le)
                                        at_ n (decL decI L.length (rowP encI L))).ver
                                    (decL dec2
                                      (bentA
                                            (Al.mk (genL (decL decI L.length (rowP encI L))).r (genL (decL decI L.length (rowP encI L))).ver
                                              (decL dec2 (genL (decL decI L.length (rowP encI L))).L.length (rowP enc2 (genL (decL decI L.length (rowP encI L))).L))
                                              (genL (decL decI L.length (rowP encI L))).st (genL (decL decI L.length (rowP encI L))).si (genL (decL decI L.length (rowP encI L))).le)
                                            at_ n (decL decI L.length (rowP encI L))).L.length
                                      (rowP enc2
                                        (bentA
                                            (Al.mk (genL (decL decI L.length (rowP encI L))).r (genL (decL decI L.length (rowP encI L))).ver
                                              (decL dec2 (genL (decL decI L.length (rowP encI L))).L.length (rowP enc2 (genL (decL decI L.length (rowP encI L))).L))
                                              (genL (decL decI L.length (rowP encI L))).st (genL (decL decI L.length (rowP encI L))).si (genL (decL decI L.length (rowP encI L))).le)
                                            at_ n (decL decI L.length (rowP encI L))).L))
                                    (bentA
                                        (Al.mk (genL (decL decI L.length (rowP encI L))).r (genL (decL decI L.length (rowP encI L))).ver
                                          (decL dec2 (genL (decL decI L.length (rowP encI L))).L.length (rowP enc2 (genL (decL decI L.length (rowP encI L))).L))
                                          (genL (decL decI L.length (rowP encI L))).st (genL (decL decI L.length (rowP encI L))).si (genL (decL decI L.length (rowP encI L))).le)
                                        at_ n (decL decI L.length (rowP encI L))).st
                                    (bentA
                                        (Al.mk (genL (decL decI L.length (rowP encI L))).r (genL (decL decI L.length (rowP encI L))).ver
                                          (decL dec2 (genL (decL decI L.length (rowP encI L))).L.length (rowP enc2 (genL (decL decI L.length (rowP encI L))).L))
                                          (genL (decL decI L.length (rowP encI L))).st (genL (decL decI L.length (rowP encI L))).si (genL (decL decI L.length (rowP encI L))).le)
                                        at_ n (decL decI L.length (rowP encI L))).si
                                    (bentA
                                        (Al.mk (genL (decL decI L.length (rowP encI L))).r (genL (decL decI L.length (rowP encI L))).ver
                                          (decL dec2 (genL (decL decI L.length (rowP encI L))).L.length (rowP enc2 (genL (decL decI L.length (rowP encI L))).L))
                                          (genL (decL decI L.length (rowP encI L))).st (genL (decL decI L.length (rowP encI L))).si (genL (decL decI L.length (rowP encI L))).le)
                                        at_ n (decL decI L.length (rowP encI L))).le)
                                  tk).fst.L.length
                          (rowP enc2
                            (alAck
                                  (Al.mk
                                    (bentA
                                        (Al.mk (genL (decL decI L.length (rowP encI L))).r (genL (decL decI L.length (rowP encI L))).ver
                                          (decL dec2 (genL (decL decI L.length (rowP encI L))).L.length (rowP enc2 (genL (decL decI L.length (rowP encI L))).L))
                                          (genL (decL decI L.length (rowP encI L))).st (genL (decL decI L.length (rowP encI L))).si (genL (decL decI L.length (rowP encI L))).le)
                                        at_ n (decL decI L.length (rowP encI L))).r
                                    (bentA
                                        (Al.mk (genL (decL decI L.length (rowP encI L))).r (genL (decL decI L.length (rowP encI L))).ver
                                          (decL dec2 (genL (decL decI L.length (rowP encI L))).L.length (rowP enc2 (genL (decL decI L.length (rowP encI L))).L))
                                          (genL (decL decI L.length (rowP encI L))).st (genL (decL decI L.length (rowP encI L))).si (genL (decL decI L.length (rowP encI L))).le)
                                        at_ n (decL decI L.length (rowP encI L))).ver
                                    (decL dec2
                                      (bentA
                                            (Al.mk (genL (decL decI L.length (rowP encI L))).r (genL (decL decI L.length (rowP encI L))).ver
                                              (decL dec2 (genL (decL decI L.length (rowP encI L))).L.length (rowP enc2 (genL (decL decI L.length (rowP encI L))).L))
                                              (genL (decL decI L.length (rowP encI L))).st (genL (decL decI L.length (rowP encI L))).si (genL (decL decI L.length (rowP encI L))).le)
                                            at_ n (decL decI L.length (rowP encI L))).L.length
                                      (rowP enc2
                                        (bentA
                                            (Al.mk (genL (decL decI L.length (rowP encI L))).r (genL (decL decI L.length (rowP encI L))).ver
                                              (decL dec2 (genL (decL decI L.length (rowP encI L))).L.length (rowP enc2 (genL (decL decI L.length (rowP encI L))).L))
                                              (genL (decL decI L.length (rowP encI L))).st (genL (decL decI L.length (rowP encI L))).si (genL (decL decI L.length (rowP encI L))).le)
                                            at_ n (decL decI L.length (rowP encI L))).L))
                                    (bentA
                                        (Al.mk (genL (decL decI L.length (rowP encI L))).r (genL (decL decI L.length (rowP encI L))).ver
                                          (decL dec2 (genL (decL decI L.length (rowP encI L))).L.length (rowP enc2 (genL (decL decI L.length (rowP encI L))).L))
                                          (genL (decL decI L.length (rowP encI L))).st (genL (decL decI L.length (rowP encI L))).si (genL (decL decI L.length (rowP encI L))).le)
                                        at_ n (decL decI L.length (rowP encI L))).st
                                    (bentA
                                        (Al.mk (genL (decL decI L.length (rowP encI L))).r (genL (decL decI L.length (rowP encI L))).ver
                                          (decL dec2 (genL (decL decI L.length (rowP encI L))).L.length (rowP enc2 (genL (decL decI L.length (rowP encI L))).L))
                                          (genL (decL decI L.length (rowP encI L))).st (genL (decL decI L.length (rowP encI L))).si (genL (decL decI L.length (rowP encI L))).le)
                                        at_ n (decL decI L.length (rowP encI L))).si
                                    (bentA
                                        (Al.mk (genL (decL decI L.length (rowP encI L))).r (genL (decL decI L.length (rowP encI L))).ver
                                          (decL dec2 (genL (decL decI L.length (rowP encI L))).L.length (rowP enc2 (genL (decL decI L.length (rowP encI L))).L))
                                          (genL (decL decI L.length (rowP encI L))).st (genL (decL decI L.length (rowP encI L))).si (genL (decL decI L.length (rowP encI L))).le)
                                        at_ n (decL decI L.length (rowP encI L))).le)
                                  tk).fst.L))
                        (alAck
                                (Al.mk
                                  (bentA
                                      (Al.mk (genL (decL decI L.length (rowP encI L))).r (genL (decL decI L.length (rowP encI L))).ver
                                        (decL dec2 (genL (decL decI L.length (rowP encI L))).L.length (rowP enc2 (genL (decL decI L.length (rowP encI L))).L))
                                        (genL (decL decI L.length (rowP encI L))).st (genL (decL decI L.length (rowP encI L))).si (genL (decL decI L.length (rowP encI L))).le)
                                      at_ n (decL decI L.length (rowP encI L))).r
                                  (bentA
                                      (Al.mk (genL (decL decI L.length (rowP encI L))).r (genL (decL decI L.length (rowP encI L))).ver
                                        (decL dec2 (genL (decL decI L.length (rowP encI L))).L.length (rowP enc2 (genL (decL decI L.length (rowP encI L))).L))
                                        (genL (decL decI L.length (rowP encI L))).st (genL (decL decI L.length (rowP encI L))).si (genL (decL decI L.length (rowP encI L))).le)
                                      at_ n (decL decI L.length (rowP encI L))).ver
                                  (decL dec2
                                    (bentA
                                          (Al.mk (genL (decL decI L.length (rowP encI L))).r (genL (decL decI L.length (rowP encI L))).ver
                                            (decL dec2 (genL (decL decI L.length (rowP encI L))).L.length (rowP enc2 (genL (decL decI L.length (rowP encI L))).L))
                                            (genL (decL decI L.length (rowP encI L))).st (genL (decL decI L.length (rowP encI L))).si (genL (decL decI L.length (rowP encI L))).le)
                                          at_ n (decL decI L.length (rowP encI L))).L.length
                                    (rowP enc2
                                      (bentA
                                          (Al.mk (genL (decL decI L.length (rowP encI L))).r (genL (decL decI L.length (rowP encI L))).ver
                                            (decL dec2 (genL (decL decI L.length (rowP encI L))).L.length (rowP enc2 (genL (decL decI L.length (rowP encI L))).L))
                                            (genL (decL decI L.length (rowP encI L))).st (genL (decL decI L.length (rowP encI L))).si (genL (decL decI L.length (rowP encI L))).le)
                                          at_ n (decL decI L.length (rowP encI L))).L))
                                  (bentA
                                      (Al.mk (genL (decL decI L.length (rowP encI L))).r (genL (decL decI L.length (rowP encI L))).ver
                                        (decL dec2 (genL (decL decI L.length (rowP encI L))).L.length (rowP enc2 (genL (decL decI L.length (rowP encI L))).L))
                                        (genL (decL decI L.length (rowP encI L))).st (genL (decL decI L.length (rowP encI L))).si (genL (decL decI L.length (rowP encI L))).le)
                                      at_ n (decL decI L.length (rowP encI L))).st
                                  (bentA
                                      (Al.mk (genL (decL decI L.length (rowP encI L))).r (genL (decL decI L.length (rowP encI L))).ver
                                        (decL dec2 (genL (decL decI L.length (rowP encI L))).L.length (rowP enc2 (genL (decL decI L.length (rowP encI L))).L))
                                        (genL (decL decI L.length (rowP encI L))).st (genL (decL decI L.length (rowP encI L))).si (genL (decL decI L.length (rowP encI L))).le)
                                      at_ n (decL decI L.length (rowP encI L))).si
                                  (bentA
                                      (Al.mk (genL (decL decI L.length (rowP encI L))).r (genL (decL decI L.length (rowP encI L))).ver
                                        (decL dec2 (genL (decL decI L.length (rowP encI L))).L.length (rowP enc2 (genL (decL decI L.length (rowP encI L))).L))
                                        (genL (decL decI L.length (rowP encI L))).st (genL (decL decI L.length (rowP encI L))).si (genL (decL decI L.length (rowP encI L))).le)
                                      at_ n (decL decI L.length (rowP encI L))).le)
                                tk).fst.L.length
                        (rowP enc2
                          (alAck
                                (Al.mk
                                  (bentA
                                      (Al.mk (genL (decL decI L.length (rowP encI L))).r (genL (decL decI L.length (rowP encI L))).ver
                                        (decL dec2 (genL (decL decI L.length (rowP encI L))).L.length (rowP enc2 (genL (decL decI L.length (rowP encI L))).L))
                                        (genL (decL decI L.length (rowP encI L))).st (genL (decL decI L.length (rowP encI L))).si (genL (decL decI L.length (rowP encI L))).le)
                                      at_ n (decL decI L.length (rowP encI L))).r
                                  (bentA
                                      (Al.mk (genL (decL decI L.length (rowP encI L))).r (genL (decL decI L.length (rowP encI L))).ver
                                        (decL dec2 (genL (decL decI L.length (rowP encI L))).L.length (rowP enc2 (genL (decL decI L.length (rowP encI L))).L))
                                        (genL (decL decI L.length (rowP encI L))).st (genL (decL decI L.length (rowP encI L))).si (genL (decL decI L.length (rowP encI L))).le)
                                      at_ n (decL decI L.length (rowP encI L))).ver
                                  (decL dec2
                                    (bentA
                                          (Al.mk (genL (decL decI L.length (rowP encI L))).r (genL (decL decI L.length (rowP encI L))).ver
                                            (decL dec2 (genL (decL decI L.length (rowP encI L))).L.length (rowP enc2 (genL (decL decI L.length (rowP encI L))).L))
                                            (genL (decL decI L.length (rowP encI L))).st (genL (decL decI L.length (rowP encI L))).si (genL (decL decI L.length (rowP encI L))).le)
                                          at_ n (decL decI L.length (rowP encI L))).L.length
                                    (rowP enc2
                                      (bentA
                                          (Al.mk (genL (decL decI L.length (rowP encI L))).r (genL (decL decI L.length (rowP encI L))).ver
                                            (decL dec2 (genL (decL decI L.length (rowP encI L))).L.length (rowP enc2 (genL (decL decI L.length (rowP encI L))).L))
                                            (genL (decL decI L.length (rowP encI L))).st (genL (decL decI L.length (rowP encI L))).si (genL (decL decI L.length (rowP encI L))).le)
                                          at_ n (decL decI L.length (rowP encI L))).L))
                                  (bentA
                                      (Al.mk (genL (decL decI L.length (rowP encI L))).r (genL (decL decI L.length (rowP encI L))).ver
                                        (decL dec2 (genL (decL decI L.length (rowP encI L))).L.length (rowP enc2 (genL (decL decI L.length (rowP encI L))).L))
                                        (genL (decL decI L.length (rowP encI L))).st (genL (decL decI L.length (rowP encI L))).si (genL (decL decI L.length (rowP encI L))).le)
                                      at_ n (decL decI L.length (rowP encI L))).st
                                  (bentA
                                      (Al.mk (genL (decL decI L.length (rowP encI L))).r (genL (decL decI L.length (rowP encI L))).ver
                                        (decL dec2 (genL (decL decI L.length (rowP encI L))).L.length (rowP enc2 (genL (decL decI L.length (rowP encI L))).L))
                                        (genL (decL decI L.length (rowP encI L))).st (genL (decL decI L.length (rowP encI L))).si (genL (decL decI L.length (rowP encI L))).le)
                                      at_ n (decL decI L.length (rowP encI L))).si
                                  (bentA
                                      (Al.mk (genL (decL decI L.length (rowP encI L))).r (genL (decL decI L.length (rowP encI L))).ver
                                        (decL dec2 (genL (decL decI L.length (rowP encI L))).L.length (rowP enc2 (genL (decL decI L.length (rowP encI L))).L))
                                        (genL (decL decI L.length (rowP encI L))).st (genL (decL decI L.length (rowP encI L))).si (genL (decL decI L.length (rowP encI L))).le)
                                      at_ n (decL decI L.length (rowP encI L))).le)
                                tk).fst.L)) ∧
                    (Al.mk
                            (alAck
                                  (Al.mk
                                    (bentA
                                        (Al.mk (genL (decL decI L.length (rowP encI L))).r (genL (decL decI L.length (rowP encI L))).ver
                                          (decL dec2 (genL (decL decI L.length (rowP encI L))).L.length (rowP enc2 (genL (decL decI L.length (rowP encI L))).L))
                                          (genL (decL decI L.length (rowP encI L))).st (genL (decL decI L.length (rowP encI L))).si (genL (decL decI L.length (rowP encI L))).le)
                                        at_ n (decL decI L.length (rowP encI L))).r
                                    (bentA
                                        (Al.mk (genL (decL decI L.length (rowP encI L))).r (genL (decL decI L.length (rowP encI L))).ver
                                          (decL dec2 (genL (decL decI L.length (rowP encI L))).L.length (rowP enc2 (genL (decL decI L.length (rowP encI L))).L))
                                          (genL (decL decI L.length (rowP encI L))).st (genL (decL decI L.length (rowP encI L))).si (genL (decL decI L.length (rowP encI L))).le)
                                        at_ n (decL decI L.length (rowP encI L))).ver
                                    (decL dec2
                                      (bentA
                                            (Al.mk (genL (decL decI L.length (rowP encI L))).r (genL (decL decI L.length (rowP encI L))).ver
                                              (decL dec2 (genL (decL decI L.length (rowP encI L))).L.length (rowP enc2 (genL (decL decI L.length (rowP encI L))).L))
                                              (genL (decL decI L.length (rowP encI L))).st (genL (decL decI L.length (rowP encI L))).si (genL (decL decI L.length (rowP encI L))).le)
                                            at_ n (decL decI L.length (rowP encI L))).L.length
                                      (rowP enc2
                                        (bentA
                                            (Al.mk (genL (decL decI L.length (rowP encI L))).r (genL (decL decI L.length (rowP encI L))).ver
                                              (decL dec2 (genL (decL decI L.length (rowP encI L))).L.length (rowP enc2 (genL (decL decI L.length (rowP encI L))).L))
                                              (genL (decL decI L.length (rowP encI L))).st (genL (decL decI L.length (rowP encI L))).si (genL (decL decI L.length (rowP encI L))).le)
                                            at_ n (decL decI L.length (rowP encI L))).L))
                                    (bentA
                                        (Al.mk (genL (decL decI L.length (rowP encI L))).r (genL (decL decI L.length (rowP encI L))).ver
                                          (decL dec2 (genL (decL decI L.length (rowP encI L))).L.length (rowP enc2 (genL (decL decI L.length (rowP encI L))).L))
                                          (genL (decL decI L.length (rowP encI L))).st (genL (decL decI L.length (rowP encI L))).si (genL (decL decI L.length (rowP encI L))).le)
                                        at_ n (decL decI L.length (rowP encI L))).st
                                    (bentA
                                        (Al.mk (genL (decL decI L.length (rowP encI L))).r (genL (decL decI L.length (rowP encI L))).ver
                                          (decL dec2 (genL (decL decI L.length (rowP encI L))).L.length (rowP enc2 (genL (decL decI L.length (rowP encI L))).L))
                                          (genL (decL decI L.length (rowP encI L))).st (genL (decL decI L.length (rowP encI L))).si (genL (decL decI L.length (rowP encI L))).le)
                                        at_ n (decL decI L.length (rowP encI L))).si
                                    (bentA
                                        (Al.mk (genL (decL decI L.length (rowP encI L))).r (genL (decL decI L.length (rowP encI L))).ver
                                          (decL dec2 (genL (decL decI L.length (rowP encI L))).L.length (rowP enc2 (genL (decL decI L.length (rowP encI L))).L))
                                          (genL (decL decI L.length (rowP encI L))).st (genL (decL decI L.length (rowP encI L))).si (genL (decL decI L.length (rowP encI L))).le)
                                        at_ n (decL decI L.length (rowP encI L))).le)
                                  tk).fst.r
                            (alAck
                                  (Al.mk
                                    (bentA
                                        (Al.mk (genL (decL decI L.length (rowP encI L))).r (genL (decL decI L.length (rowP encI L))).ver
                                          (decL dec2 (genL (decL decI L.length (rowP encI L))).L.length (rowP enc2 (genL (decL decI L.length (rowP encI L))).L))
                                          (genL (decL decI L.length (rowP encI L))).st (genL (decL decI L.length (rowP encI L))).si (genL (decL decI L.length (rowP encI L))).le)
                                        at_ n (decL decI L.length (rowP encI L))).r
                                    (bentA
                                        (Al.mk (genL (decL decI L.length (rowP encI L))).r (genL (decL decI L.length (rowP encI L))).ver
                                          (decL dec2 (genL (decL decI L.length (rowP encI L))).L.length (rowP enc2 (genL (decL decI L.length (rowP encI L))).L))
                                          (genL (decL decI L.length (rowP encI L))).st (genL (decL decI L.length (rowP encI L))).si (genL (decL decI L.length (rowP encI L))).le)
                                        at_ n (decL decI L.length (rowP encI L))).ver
                                    (decL dec2
                                      (bentA
                                            (Al.mk (genL (decL decI L.length (rowP encI L))).r (genL (decL decI L.length (rowP encI L))).ver
                                              (decL dec2 (genL (decL decI L.length (rowP encI L))).L.length (rowP enc2 (genL (decL decI L.length (rowP encI L))).L))
                                              (genL (decL decI L.length (rowP encI L))).st (genL (decL decI L.length (rowP encI L))).si (genL (decL decI L.length (rowP encI L))).le)
                                            at_ n (decL decI L.length (rowP encI L))).L.length
                                      (rowP enc2
                                        (bentA
                                            (Al.mk (genL (decL decI L.length (rowP encI L))).r (genL (decL decI L.length (rowP encI L))).ver
                                              (decL dec2 (genL (decL decI L.length (rowP encI L))).L.length (rowP enc2 (genL (decL decI L.length (rowP encI L))).L))
                                              (genL (decL decI L.length (rowP encI L))).st (genL (decL decI L.length (rowP encI L))).si (genL (decL decI L.length (rowP encI L))).le)
                                            at_ n (decL decI L.length (rowP encI L))).L))
                                    (bentA
                                        (Al.mk (genL (decL decI L.length (rowP encI L))).r (genL (decL decI L.length (rowP encI L))).ver
                                          (decL dec2 (genL (decL decI L.length (rowP encI L))).L.length (rowP enc2 (genL (decL decI L.length (rowP encI L))).L))
                                          (genL (decL decI L.length (rowP encI L))).st (genL (decL decI L.length (rowP encI L))).si (genL (decL decI L.length (rowP encI L))).le)
                                        at_ n (decL decI L.length (rowP encI L))).st
                                    (bentA
                                        (Al.mk (genL (decL decI L.length (rowP encI L))).r (genL (decL decI L.length (rowP encI L))).ver
                                          (decL dec2 (genL (decL decI L.length (rowP encI L))).L.length (rowP enc2 (genL (decL decI L.length (rowP encI L))).L))
                                          (genL (decL decI L.length (rowP encI L))).st (genL (decL decI L.length (rowP encI L))).si (genL (decL decI L.length (rowP encI L))).le)
                                        at_ n (decL decI L.length (rowP encI L))).si
                                    (bentA
                                        (Al.mk (genL (decL decI L.length (rowP encI L))).r (genL (decL decI L.length (rowP encI L))).ver
                                          (decL dec2 (genL (decL decI L.length (rowP encI L))).L.length (rowP enc2 (genL (decL decI L.length (rowP encI L))).L))
                                          (genL (decL decI L.length (rowP encI L))).st (genL (decL decI L.length (rowP encI L))).si (genL (decL decI L.length (rowP encI L))).le)
                                        at_ n (decL decI L.length (rowP encI L))).le)
                                  tk).fst.ver
                            (decL dec2
                              (alAck
                                      (Al.mk
                                        (bentA
                                            (Al.mk (genL (decL decI L.length (rowP encI L))).r (genL (decL decI L.length (rowP encI L))).ver
                                              (decL dec2 (genL (decL decI L.length (rowP encI L))).L.length (rowP enc2 (genL (decL decI L.length (rowP encI L))).L))
                                              (genL (decL decI L.length (rowP encI L))).st (genL (decL decI L.length (rowP encI L))).si (genL (decL decI L.length (rowP encI L))).le)
                                            at_ n (decL decI L.length (rowP encI L))).r
                                        (bentA
                                            (Al.mk (genL (decL decI L.length (rowP encI L))).r (genL (decL decI L.length (rowP encI L))).ver
                                              (decL dec2 (genL (decL decI L.length (rowP encI L))).L.length (rowP enc2 (genL (decL decI L.length (rowP encI L))).L))
                                              (genL (decL decI L.length (rowP encI L))).st (genL (decL decI L.length (rowP encI L))).si (genL (decL decI L.length (rowP encI L))).le)
                                            at_ n (decL decI L.length (rowP encI L))).ver
                                        (decL dec2
                                          (bentA
                                                (Al.mk (genL (decL decI L.length (rowP encI L))).r (genL (decL decI L.length (rowP encI L))).ver
                                                  (decL dec2 (genL (decL decI L.length (rowP encI L))).L.length (rowP enc2 (genL (decL decI L.length (rowP encI L))).L))
                                                  (genL (decL decI L.length (rowP encI L))).st (genL (decL decI L.length (rowP encI L))).si (genL (decL decI L.length (rowP encI L))).le)
                                                at_ n (decL decI L.length (rowP encI L))).L.length
                                          (rowP enc2
                                            (bentA
                                                (Al.mk (genL (decL decI L.length (rowP encI L))).r (genL (decL decI L.length (rowP encI L))).ver
                                                  (decL dec2 (genL (decL decI L.length (rowP encI L))).L.length (rowP enc2 (genL (decL decI L.length (rowP encI L))).L))
                                                  (genL (decL decI L.length (rowP encI L))).st (genL (decL decI L.length (rowP encI L))).si (genL (decL decI L.length (rowP encI L))).le)
                                                at_ n (decL decI L.length (rowP encI L))).L))
                                        (bentA
                                            (Al.mk (genL (decL decI L.length (rowP encI L))).r (genL (decL decI L.length (rowP encI L))).ver
                                              (decL dec2 (genL (decL decI L.length (rowP encI L))).L.length (rowP enc2 (genL (decL decI L.length (rowP encI L))).L))
                                              (genL (decL decI L.length (rowP encI L))).st (genL (decL decI L.length (rowP encI L))).si (genL (decL decI L.length (rowP encI L))).le)
                                            at_ n (decL decI L.length (rowP encI L))).st
                                        (bentA
                                            (Al.mk (genL (decL decI L.length (rowP encI L))).r (genL (decL decI L.length (rowP encI L))).ver
                                              (decL dec2 (genL (decL decI L.length (rowP encI L))).L.length (rowP enc2 (genL (decL decI L.length (rowP encI L))).L))
                                              (genL (decL decI L.length (rowP encI L))).st (genL (decL decI L.length (rowP encI L))).si (genL (decL decI L.length (rowP encI L))).le)
                                            at_ n (decL decI L.length (rowP encI L))).si
                                        (bentA
                                            (Al.mk (genL (decL decI L.length (rowP encI L))).r (genL (decL decI L.length (rowP encI L))).ver
                                              (decL dec2 (genL (decL decI L.length (rowP encI L))).L.length (rowP enc2 (genL (decL decI L.length (rowP encI L))).L))
                                              (genL (decL decI L.length (rowP encI L))).st (genL (decL decI L.length (rowP encI L))).si (genL (decL decI L.length (rowP encI L))).le)
                                            at_ n (decL decI L.length (rowP encI L))).le)
                                      tk).fst.L.length
                              (rowP enc2
                                (alAck
                                      (Al.mk
                                        (bentA
                                            (Al.mk (genL (decL decI L.length (rowP encI L))).r (genL (decL decI L.length (rowP encI L))).ver
                                              (decL dec2 (genL (decL decI L.length (rowP encI L))).L.length (rowP enc2 (genL (decL decI L.length (rowP encI L))).L))
                                              (genL (decL decI L.length (rowP encI L))).st (genL (decL decI L.length (rowP encI L))).si (genL (decL decI L.length (rowP encI L))).le)
                                            at_ n (decL decI L.length (rowP encI L))).r
                                        (bentA
                                            (Al.mk (genL (decL decI L.length (rowP encI L))).r (genL (decL decI L.length (rowP encI L))).ver
                                              (decL dec2 (genL (decL decI L.length (rowP encI L))).L.length (rowP enc2 (genL (decL decI L.length (rowP encI L))).L))
                                              (genL (decL decI L.length (rowP encI L))).st (genL (decL decI L.length (rowP encI L))).si (genL (decL decI L.length (rowP encI L))).le)
                                            at_ n (decL decI L.length (rowP encI L))).ver
                                        (decL dec2
                                          (bentA
                                                (Al.mk (genL (decL decI L.length (rowP encI L))).r (genL (decL decI L.length (rowP encI L))).ver
                                                  (decL dec2 (genL (decL decI L.length (rowP encI L))).L.length (rowP enc2 (genL (decL decI L.length (rowP encI L))).L))
                                                  (genL (decL decI L.length (rowP encI L))).st (genL (decL decI L.length (rowP encI L))).si (genL (decL decI L.length (rowP encI L))).le)
                                                at_ n (decL decI L.length (rowP encI L))).L.length
                                          (rowP enc2
                                            (bentA
                                                (Al.mk (genL (decL decI L.length (rowP encI L))).r (genL (decL decI L.length (rowP encI L))).ver
                                                  (decL dec2 (genL (decL decI L.length (rowP encI L))).L.length (rowP enc2 (genL (decL decI L.length (rowP encI L))).L))
                                                  (genL (decL decI L.length (rowP encI L))).st (genL (decL decI L.length (rowP encI L))).si (genL (decL decI L.length (rowP encI L))).le)
                                                at_ n (decL decI L.length (rowP encI L))).L))
                                        (bentA
                                            (Al.mk (genL (decL decI L.length (rowP encI L))).r (genL (decL decI L.length (rowP encI L))).ver
                                              (decL dec2 (genL (decL decI L.length (rowP encI L))).L.length (rowP enc2 (genL (decL decI L.length (rowP encI L))).L))
                                              (genL (decL decI L.length (rowP encI L))).st (genL (decL decI L.length (rowP encI L))).si (genL (decL decI L.length (rowP encI L))).le)
                                            at_ n (decL decI L.length (rowP encI L))).st
                                        (bentA
                                            (Al.mk (genL (decL decI L.length (rowP encI L))).r (genL (decL decI L.length (rowP encI L))).ver
                                              (decL dec2 (genL (decL decI L.length (rowP encI L))).L.length (rowP enc2 (genL (decL decI L.length (rowP encI L))).L))
                                              (genL (decL decI L.length (rowP encI L))).st (genL (decL decI L.length (rowP encI L))).si (genL (decL decI L.length (rowP encI L))).le)
                                            at_ n (decL decI L.length (rowP encI L))).si
                                        (bentA
                                            (Al.mk (genL (decL decI L.length (rowP encI L))).r (genL (decL decI L.length (rowP encI L))).ver
                                              (decL dec2 (genL (decL decI L.length (rowP encI L))).L.length (rowP enc2 (genL (decL decI L.length (rowP encI L))).L))
                                              (genL (decL decI L.length (rowP encI L))).st (genL (decL decI L.length (rowP encI L))).si (genL (decL decI L.length (rowP encI L))).le)
                                            at_ n (decL decI L.length (rowP encI L))).le)
                                      tk).fst.L))
                            (alAck
                                  (Al.mk
                                    (bentA
                                        (Al.mk (genL (decL decI L.length (rowP encI L))).r (genL (decL decI L.length (rowP encI L))).ver
                                          (decL dec2 (genL (decL decI L.length (rowP encI L))).L.length (rowP enc2 (genL (decL decI L.length (rowP encI L))).L))
                                          (genL (decL decI L.length (rowP encI L))).st (genL (decL decI L.length (rowP encI L))).si (genL (decL decI L.length (rowP encI L))).le)
                                        at_ n (decL decI L.length (rowP encI L))).r
                                    (bentA
                                        (Al.mk (genL (decL decI L.length (rowP encI L))).r (genL (decL decI L.length (rowP encI L))).ver
                                          (decL dec2 (genL (decL decI L.length (rowP encI L))).L.length (rowP enc2 (genL (decL decI L.length (rowP encI L))).L))
                                          (genL (decL decI L.length (rowP encI L))).st (genL (decL decI L.length (rowP encI L))).si (genL (decL decI L.length (rowP encI L))).le)
                                        at_ n (decL decI L.length (rowP encI L))).ver
                                    (decL dec2
                                      (bentA
                                            (Al.mk (genL (decL decI L.length (rowP encI L))).r (genL (decL decI L.length (rowP encI L))).ver
                                              (decL dec2 (genL (decL decI L.length (rowP encI L))).L.length (rowP enc2 (genL (decL decI L.length (rowP encI L))).L))
                                              (genL (decL decI L.length (rowP encI L))).st (genL (decL decI L.length (rowP encI L))).si (genL (decL decI L.length (rowP encI L))).le)
                                            at_ n (decL decI L.length (rowP encI L))).L.length
                                      (rowP enc2
                                        (bentA
                                            (Al.mk (genL (decL decI L.length (rowP encI L))).r (genL (decL decI L.length (rowP encI L))).ver
                                              (decL dec2 (genL (decL decI L.length (rowP encI L))).L.length (rowP enc2 (genL (decL decI L.length (rowP encI L))).L))
                                              (genL (decL decI L.length (rowP encI L))).st (genL (decL decI L.length (rowP encI L))).si (genL (decL decI L.length (rowP encI L))).le)
                                            at_ n (decL decI L.length (rowP encI L))).L))
                                    (bentA
                                        (Al.mk (genL (decL decI L.length (rowP encI L))).r (genL (decL decI L.length (rowP encI L))).ver
                                          (decL dec2 (genL (decL decI L.length (rowP encI L))).L.length (rowP enc2 (genL (decL decI L.length (rowP encI L))).L))
                                          (genL (decL decI L.length (rowP encI L))).st (genL (decL decI L.length (rowP encI L))).si (genL (decL decI L.length (rowP encI L))).le)
                                        at_ n (decL decI L.length (rowP encI L))).st
                                    (bentA
                                        (Al.mk (genL (decL decI L.length (rowP encI L))).r (genL (decL decI L.length (rowP encI L))).ver
                                          (decL dec2 (genL (decL decI L.length (rowP encI L))).L.length (rowP enc2 (genL (decL decI L.length (rowP encI L))).L))
                                          (genL (decL decI L.length (rowP encI L))).st (genL (decL decI L.length (rowP encI L))).si (genL (decL decI L.length (rowP encI L))).le)
                                        at_ n (decL decI L.length (rowP encI L))).si
                                    (bentA
                                        (Al.mk (genL (decL decI L.length (rowP encI L))).r (genL (decL decI L.length (rowP encI L))).ver
                                          (decL dec2 (genL (decL decI L.length (rowP encI L))).L.length (rowP enc2 (genL (decL decI L.length (rowP encI L))).L))
                                          (genL (decL decI L.length (rowP encI L))).st (genL (decL decI L.length (rowP encI L))).si (genL (decL decI L.length (rowP encI L))).le)
                                        at_ n (decL decI L.length (rowP encI L))).le)
                                  tk).fst.st
                            (alAck
                                  (Al.mk
                                    (bentA
                                        (Al.mk (genL (decL decI L.length (rowP encI L))).r (genL (decL decI L.length (rowP encI L))).ver
                                          (decL dec2 (genL (decL decI L.length (rowP encI L))).L.length (rowP enc2 (genL (decL decI L.length (rowP encI L))).L))
                                          (genL (decL decI L.length (rowP encI L))).st (genL (decL decI L.length (rowP encI L))).si (genL (decL decI L.length (rowP encI L))).le)
                                        at_ n (decL decI L.length (rowP encI L))).r
                                    (bentA
                                        (Al.mk (genL (decL decI L.length (rowP encI L))).r (genL (decL decI L.length (rowP encI L))).ver
                                          (decL dec2 (genL (decL decI L.length (rowP encI L))).L.length (rowP enc2 (genL (decL decI L.length (rowP encI L))).L))
                                          (genL (decL decI L.length (rowP encI L))).st (genL (decL decI L.length (rowP encI L))).si (genL (decL decI L.length (rowP encI L))).le)
                                        at_ n (decL decI L.length (rowP encI L))).ver
                                    (decL dec2
                                      (bentA
                                            (Al.mk (genL (decL decI L.length (rowP encI L))).r (genL (decL decI L.length (rowP encI L))).ver
                                              (decL dec2 (genL (decL decI L.length (rowP encI L))).L.length (rowP enc2 (genL (decL decI L.length (rowP encI L))).L))
                                              (genL (decL decI L.length (rowP encI L))).st (genL (decL decI L.length (rowP encI L))).si (genL (decL decI L.length (rowP encI L))).le)
                                            at_ n (decL decI L.length (rowP encI L))).L.length
                                      (rowP enc2
                                        (bentA
                                            (Al.mk (genL (decL decI L.length (rowP encI L))).r (genL (decL decI L.length (rowP encI L))).ver
                                              (decL dec2 (genL (decL decI L.length (rowP encI L))).L.length (rowP enc2 (genL (decL decI L.length (rowP encI L))).L))
                                              (genL (decL decI L.length (rowP encI L))).st (genL (decL decI L.length (rowP encI L))).si (genL (decL decI L.length (rowP encI L))).le)
                                            at_ n (decL decI L.length (rowP encI L))).L))
                                    (bentA
                                        (Al.mk (genL (decL decI L.length (rowP encI L))).r (genL (decL decI L.length (rowP encI L))).ver
                                          (decL dec2 (genL (decL decI L.length (rowP encI L))).L.length (rowP enc2 (genL (decL decI L.length (rowP encI L))).L))
                                          (genL (decL decI L.length (rowP encI L))).st (genL (decL decI L.length (rowP encI L))).si (genL (decL decI L.length (rowP encI L))).le)
                                        at_ n (decL decI L.length (rowP encI L))).st
                                    (bentA
                                        (Al.mk (genL (decL decI L.length (rowP encI L))).r (genL (decL decI L.length (rowP encI L))).ver
                                          (decL dec2 (genL (decL decI L.length (rowP encI L))).L.length (rowP enc2 (genL (decL decI L.length (rowP encI L))).L))
                                          (genL (decL decI L.length (rowP encI L))).st (genL (decL decI L.length (rowP encI L))).si (genL (decL decI L.length (rowP encI L))).le)
                                        at_ n (decL decI L.length (rowP encI L))).si
                                    (bentA
                                        (Al.mk (genL (decL decI L.length (rowP encI L))).r (genL (decL decI L.length (rowP encI L))).ver
                                          (decL dec2 (genL (decL decI L.length (rowP encI L))).L.length (rowP enc2 (genL (decL decI L.length (rowP encI L))).L))
                                          (genL (decL decI L.length (rowP encI L))).st (genL (decL decI L.length (rowP encI L))).si (genL (decL decI L.length (rowP encI L))).le)
                                        at_ n (decL decI L.length (rowP encI L))).le)
                                  tk).fst.si
                            (alAck
                                  (Al.mk
                                    (bentA
                                        (Al.mk (genL (decL decI L.length (rowP encI L))).r (genL (decL decI L.length (rowP encI L))).ver
                                          (decL dec2 (genL (decL decI L.length (rowP encI L))).L.length (rowP enc2 (genL (decL decI L.length (rowP encI L))).L))
                                          (genL (decL decI L.length (rowP encI L))).st (genL (decL decI L.length (rowP encI L))).si (genL (decL decI L.length (rowP encI L))).le)
                                        at_ n (decL decI L.length (rowP encI L))).r
                                    (bentA
                                        (Al.mk (genL (decL decI L.length (rowP encI L))).r (genL (decL decI L.length (rowP encI L))).ver
                                          (decL dec2 (genL (decL decI L.length (rowP encI L))).L.length (rowP enc2 (genL (decL decI L.length (rowP encI L))).L))
                                          (genL (decL decI L.length (rowP encI L))).st (genL (decL decI L.length (rowP encI L))).si (genL (decL decI L.length (rowP encI L))).le)
                                        at_ n (decL decI L.length (rowP encI L))).ver
                                    (decL dec2
                                      (bentA
                                            (Al.mk (genL (decL decI L.length (rowP encI L))).r (genL (decL decI L.length (rowP encI L))).ver
                                              (decL dec2 (genL (decL decI L.length (rowP encI L))).L.length (rowP enc2 (genL (decL decI L.length (rowP encI L))).L))
                                              (genL (decL decI L.length (rowP encI L))).st (genL (decL decI L.length (rowP encI L))).si (genL (decL decI L.length (rowP encI L))).le)
                                            at_ n (decL decI L.length (rowP encI L))).L.length
                                      (rowP enc2
                                        (bentA
                                            (Al.mk (genL (decL decI L.length (rowP encI L))).r (genL (decL decI L.length (rowP encI L))).ver
                                              (decL dec2 (genL (decL decI L.length (rowP encI L))).L.length (rowP enc2 (genL (decL decI L.length (rowP encI L))).L))
                                              (genL (decL decI L.length (rowP encI L))).st (genL (decL decI L.length (rowP encI L))).si (genL (decL decI L.length (rowP encI L))).le)
                                            at_ n (decL decI L.length (rowP encI L))).L))
                                    (bentA
                                        (Al.mk (genL (decL decI L.length (rowP encI L))).r (genL (decL decI L.length (rowP encI L))).ver
                                          (decL dec2 (genL (decL decI L.length (rowP encI L))).L.length (rowP enc2 (genL (decL decI L.length (rowP encI L))).L))
                                          (genL (decL decI L.length (rowP encI L))).st (genL (decL decI L.length (rowP encI L))).si (genL (decL decI L.length (rowP encI L))).le)
                                        at_ n (decL decI L.length (rowP encI L))).st
                                    (bentA
                                        (Al.mk (genL (decL decI L.length (rowP encI L))).r (genL (decL decI L.length (rowP encI L))).ver
                                          (decL dec2 (genL (decL decI L.length (rowP encI L))).L.length (rowP enc2 (genL (decL decI L.length (rowP encI L))).L))
                                          (genL (decL decI L.length (rowP encI L))).st (genL (decL decI L.length (rowP encI L))).si (genL (decL decI L.length (rowP encI L))).le)
                                        at_ n (decL decI L.length (rowP encI L))).si
                                    (bentA
                                        (Al.mk (genL (decL decI L.length (rowP encI L))).r (genL (decL decI L.length (rowP encI L))).ver
                                          (decL dec2 (genL (decL decI L.length (rowP encI L))).L.length (rowP enc2 (genL (decL decI L.length (rowP encI L))).L))
                                          (genL (decL decI L.length (rowP encI L))).st (genL (decL decI L.length (rowP encI L))).si (genL (decL decI L.length (rowP encI L))).le)
                                        at_ n (decL decI L.length (rowP encI L))).le)
                                  tk).fst.le).L.length ≤
                      1000000)
                  (bT
                    (!alEq
                        (Al.mk
                          (alAck
                                (Al.mk
                                  (bentA
                                      (Al.mk (genL (decL decI L.length (rowP encI L))).r (genL (decL decI L.length (rowP encI L))).ver
                                        (decL dec2 (genL (decL decI L.length (rowP encI L))).L.length (rowP enc2 (genL (decL decI L.length (rowP encI L))).L))
                                        (genL (decL decI L.length (rowP encI L))).st (genL (decL decI L.length (rowP encI L))).si (genL (decL decI L.length (rowP encI L))).le)
                                      at_ n (decL decI L.length (rowP encI L))).r
                                  (bentA
                                      (Al.mk (genL (decL decI L.length (rowP encI L))).r (genL (decL decI L.length (rowP encI L))).ver
                                        (decL dec2 (genL (decL decI L.length (rowP encI L))).L.length (rowP enc2 (genL (decL decI L.length (rowP encI L))).L))
                                        (genL (decL decI L.length (rowP encI L))).st (genL (decL decI L.length (rowP encI L))).si (genL (decL decI L.length (rowP encI L))).le)
                                      at_ n (decL decI L.length (rowP encI L))).ver
                                  (decL dec2
                                    (bentA
                                          (Al.mk (genL (decL decI L.length (rowP encI L))).r (genL (decL decI L.length (rowP encI L))).ver
                                            (decL dec2 (genL (decL decI L.length (rowP encI L))).L.length (rowP enc2 (genL (decL decI L.length (rowP encI L))).L))
                                            (genL (decL decI L.length (rowP encI L))).st (genL (decL decI L.length (rowP encI L))).si (genL (decL decI L.length (rowP encI L))).le)
                                          at_ n (decL decI L.length (rowP encI L))).L.length
                                    (rowP enc2
                                      (bentA
                                          (Al.mk (genL (decL decI L.length (rowP encI L))).r (genL (decL decI L.length (rowP encI L))).ver
                                            (decL dec2 (genL (decL decI L.length (rowP encI L))).L.length (rowP enc2 (genL (decL decI L.length (rowP encI L))).L))
                                            (genL (decL decI L.length (rowP encI L))).st (genL (decL decI L.length (rowP encI L))).si (genL (decL decI L.length (rowP encI L))).le)
                                          at_ n (decL decI L.length (rowP encI L))).L))
                                  (bentA
                                      (Al.mk (genL (decL decI L.length (rowP encI L))).r (genL (decL decI L.length (rowP encI L))).ver
                                        (decL dec2 (genL (decL decI L.length (rowP encI L))).L.length (rowP enc2 (genL (decL decI L.length (rowP encI L))).L))
                                        (genL (decL decI L.length (rowP encI L))).st (genL (decL decI L.length (rowP encI L))).si (genL (decL decI L.length (rowP encI L))).le)
                                      at_ n (decL decI L.length (rowP encI L))).st
                                  (bentA
                                      (Al.mk (genL (decL decI L.length (rowP encI L))).r (genL (decL decI L.length (rowP encI L))).ver
                                        (decL dec2 (genL (decL decI L.length (rowP encI L))).L.length (rowP enc2 (genL (decL decI L.length (rowP encI L))).L))
                                        (genL (decL decI L.length (rowP encI L))).st (genL (decL decI L.length (rowP encI L))).si (genL (decL decI L.length (rowP encI L))).le)
                                      at_ n (decL decI L.length (rowP encI L))).si
                                  (bentA
                                      (Al.mk (genL (decL decI L.length (rowP encI L))).r (genL (decL decI L.length (rowP encI L))).ver
                                        (decL dec2 (genL (decL decI L.length (rowP encI L))).L.length (rowP enc2 (genL (decL decI L.length (rowP encI L))).L))
                                        (genL (decL decI L.length (rowP encI L))).st (genL (decL decI L.length (rowP encI L))).si (genL (decL decI L.length (rowP encI L))).le)
                                      at_ n (decL decI L.length (rowP encI L))).le)
                                tk).fst.r
                          (alAck
                                (Al.mk
                                  (bentA
                                      (Al.mk (genL (decL decI L.length (rowP encI L))).r (genL (decL decI L.length (rowP encI L))).ver
                                        (decL dec2 (genL (decL decI L.length (rowP encI L))).L.length (rowP enc2 (genL (decL decI L.length (rowP encI L))).L))
                                        (genL (decL decI L.length (rowP encI L))).st (genL (decL decI L.length (rowP encI L))).si (genL (decL decI L.length (rowP encI L))).le)
                                      at_ n (decL decI L.length (rowP encI L))).r
                                  (bentA
                                      (Al.mk (genL (decL decI L.length (rowP encI L))).r (genL (decL decI L.length (rowP encI L))).ver
                                        (decL dec2 (genL (decL decI L.length (rowP encI L))).L.length (rowP enc2 (genL (decL decI L.length (rowP encI L))).L))
                                        (genL (decL decI L.length (rowP encI L))).st (genL (decL decI L.length (rowP encI L))).si (genL (decL decI L.length (rowP encI L))).le)
                                      at_ n (decL decI L.length (rowP encI L))).ver
                                  (decL dec2
                                    (bentA
                                          (Al.mk (genL (decL decI L.length (rowP encI L))).r (genL (decL decI L.length (rowP encI L))).ver
                                            (decL dec2 (genL (decL decI L.length (rowP encI L))).L.length (rowP enc2 (genL (decL decI L.length (rowP encI L))).L))
                                            (genL (decL decI L.length (rowP encI L))).st (genL (decL decI L.length (rowP encI L))).si (genL (decL decI L.length (rowP encI L))).le)
                                          at_ n (decL decI L.length (rowP encI L))).L.length
                                    (rowP enc2
                                      (bentA
                                          (Al.mk (genL (decL decI L.length (rowP encI L))).r (genL (decL decI L.length (rowP encI L))).ver
                                            (decL dec2 (genL (decL decI L.length (rowP encI L))).L.length (rowP enc2 (genL (decL decI L.length (rowP encI L))).L))
                                            (genL (decL decI L.length (rowP encI L))).st (genL (decL decI L.length (rowP encI L))).si (genL (decL decI L.length (rowP encI L))).le)
                                          at_ n (decL decI L.length (rowP encI L))).L))
                                  (bentA
                                      (Al.mk (genL (decL decI L.length (rowP encI L))).r (genL (decL decI L.length (rowP encI L))).ver
                                        (decL dec2 (genL (decL decI L.length (rowP encI L))).L.length (rowP enc2 (genL (decL decI L.length (rowP encI L))).L))
                                        (genL (decL decI L.length (rowP encI L))).st (genL (decL decI L.length (rowP encI L))).si (genL (decL decI L.length (rowP encI L))).le)
                                      at_ n (decL decI L.length (rowP encI L))).st
                                  (bentA
                                      (Al.mk (genL (decL decI L.length (rowP encI L))).r (genL (decL decI L.length (rowP encI L))).ver
                                        (decL dec2 (genL (decL decI L.length (rowP encI L))).L.length (rowP enc2 (genL (decL decI L.length (rowP encI L))).L))
                                        (genL (decL decI L.length (rowP encI L))).st (genL (decL decI L.length (rowP encI L))).si (genL (decL decI L.length (rowP encI L))).le)
                                      at_ n (decL decI L.length (rowP encI L))).si
                                  (bentA
                                      (Al.mk (genL (decL decI L.length (rowP encI L))).r (genL (decL decI L.length (rowP encI L))).ver
                                        (decL dec2 (genL (decL decI L.length (rowP encI L))).L.length (rowP enc2 (genL (decL decI L.length (rowP encI L))).L))
                                        (genL (decL decI L.length (rowP encI L))).st (genL (decL decI L.length (rowP encI L))).si (genL (decL decI L.length (rowP encI L))).le)
                                      at_ n (decL decI L.length (rowP encI L))).le)
                                tk).fst.ver
                          (decL dec2
                            (alAck
                                    (Al.mk
                                      (bentA
                                          (Al.mk (genL (decL decI L.length (rowP encI L))).r (genL (decL decI L.length (rowP encI L))).ver
                                            (decL dec2 (genL (decL decI L.length (rowP encI L))).L.length (rowP enc2 (genL (decL decI L.length (rowP encI L))).L))
                                            (genL (decL decI L.length (rowP encI L))).st (genL (decL decI L.length (rowP encI L))).si (genL (decL decI L.length (rowP encI L))).le)
                                          at_ n (decL decI L.length (rowP encI L))).r
                                      (bentA
                                          (Al.mk (genL (decL decI L.length (rowP encI L))).r (genL (decL decI L.length (rowP encI L))).ver
                                            (decL dec2 (genL (decL decI L.length (rowP encI L))).L.length (rowP enc2 (genL (decL decI L.length (rowP encI L))).L))
                                            (genL (decL decI L.length (rowP encI L))).st (genL (decL decI L.length (rowP encI L))).si (genL (decL decI L.length (rowP encI L))).le)
                                          at_ n (decL decI L.length (rowP encI L))).ver
                                      (decL dec2
                                        (bentA
                                              (Al.mk (genL (decL decI L.length (rowP encI L))).r (genL (decL decI L.length (rowP encI L))).ver
                                                (decL dec2 (genL (decL decI L.length (rowP encI L))).L.length (rowP enc2 (genL (decL decI L.length (rowP encI L))).L))
                                                (genL (decL decI L.length (rowP encI L))).st (genL (decL decI L.length (rowP encI L))).si (genL (decL decI L.length (rowP encI L))).le)
                                              at_ n (decL decI L.length (rowP encI L))).L.length
                                        (rowP enc2
                                          (bentA
                                              (Al.mk (genL (decL decI L.length (rowP encI L))).r (genL (decL decI L.length (rowP encI L))).ver
                                                (decL dec2 (genL (decL decI L.length (rowP encI L))).L.length (rowP enc2 (genL (decL decI L.length (rowP encI L))).L))
                                                (genL (decL decI L.length (rowP encI L))).st (genL (decL decI L.length (rowP encI L))).si (genL (decL decI L.length (rowP encI L))).le)
                                              at_ n (decL decI L.length (rowP encI L))).L))
                                      (bentA
                                          (Al.mk (genL (decL decI L.length (rowP encI L))).r (genL (decL decI L.length (rowP encI L))).ver
                                            (decL dec2 (genL (decL decI L.length (rowP encI L))).L.length (rowP enc2 (genL (decL decI L.length (rowP encI L))).L))
                                            (genL (decL decI L.length (rowP encI L))).st (genL (decL decI L.length (rowP encI L))).si (genL (decL decI L.length (rowP encI L))).le)
                                          at_ n (decL decI L.length (rowP encI L))).st
                                      (bentA
                                          (Al.mk (genL (decL decI L.length (rowP encI L))).r (genL (decL decI L.length (rowP encI L))).ver
                                            (decL dec2 (genL (decL decI L.length (rowP encI L))).L.length (rowP enc2 (genL (decL decI L.length (rowP encI L))).L))
                                            (genL (decL decI L.length (rowP encI L))).st (genL (decL decI L.length (rowP encI L))).si (genL (decL decI L.length (rowP encI L))).le)
                                          at_ n (decL decI L.length (rowP encI L))).si
                                      (bentA
                                          (Al.mk (genL (decL decI L.length (rowP encI L))).r (genL (decL decI L.length (rowP encI L))).ver
                                            (decL dec2 (genL (decL decI L.length (rowP encI L))).L.length (rowP enc2 (genL (decL decI L.length (rowP encI L))).L))
                                            (genL (decL decI L.length (rowP encI L))).st (genL (decL decI L.length (rowP encI L))).si (genL (decL decI L.length (rowP encI L))).le)
                                          at_ n (decL decI L.length (rowP encI L))).le)
                                    tk).fst.L.length
                            (rowP enc2
                              (alAck
                                    (Al.mk
                                      (bentA
                                          (Al.mk (genL (decL decI L.length (rowP encI L))).r (genL (decL decI L.length (rowP encI L))).ver
                                            (decL dec2 (genL (decL decI L.length (rowP encI L))).L.length (rowP enc2 (genL (decL decI L.length (rowP encI L))).L))
                                            (genL (decL decI L.length (rowP encI L))).st (genL (decL decI L.length (rowP encI L))).si (genL (decL decI L.length (rowP encI L))).le)
                                          at_ n (decL decI L.length (rowP encI L))).r
                                      (bentA
                                          (Al.mk (genL (decL decI L.length (rowP encI L))).r (genL (decL decI L.length (rowP encI L))).ver
                                            (decL dec2 (genL (decL decI L.length (rowP encI L))).L.length (rowP enc2 (genL (decL decI L.length (rowP encI L))).L))
                                            (genL (decL decI L.length (rowP encI L))).st (genL (decL decI L.length (rowP encI L))).si (genL (decL decI L.length (rowP encI L))).le)
                                          at_ n (decL decI L.length (rowP encI L))).ver
                                      (decL dec2
                                        (bentA
                                              (Al.mk (genL (decL decI L.length (rowP encI L))).r (genL (decL decI L.length (rowP encI L))).ver
                                                (decL dec2 (genL (decL decI L.length (rowP encI L))).L.length (rowP enc2 (genL (decL decI L.length (rowP encI L))).L))
                                                (genL (decL decI L.length (rowP encI L))).st (genL (decL decI L.length (rowP encI L))).si (genL (decL decI L.length (rowP encI L))).le)
                                              at_ n (decL decI L.length (rowP encI L))).L.length
                                        (rowP enc2
                                          (bentA
                                              (Al.mk (genL (decL decI L.length (rowP encI L))).r (genL (decL decI L.length (rowP encI L))).ver
                                                (decL dec2 (genL (decL decI L.length (rowP encI L))).L.length (rowP enc2 (genL (decL decI L.length (rowP encI L))).L))
                                                (genL (decL decI L.length (rowP encI L))).st (genL (decL decI L.length (rowP encI L))).si (genL (decL decI L.length (rowP encI L))).le)
                                              at_ n (decL decI L.length (rowP encI L))).L))
                                      (bentA
                                          (Al.mk (genL (decL decI L.length (rowP encI L))).r (genL (decL decI L.length (rowP encI L))).ver
                                            (decL dec2 (genL (decL decI L.length (rowP encI L))).L.length (rowP enc2 (genL (decL decI L.length (rowP encI L))).L))
                                            (genL (decL decI L.length (rowP encI L))).st (genL (decL decI L.length (rowP encI L))).si (genL (decL decI L.length (rowP encI L))).le)
                                          at_ n (decL decI L.length (rowP encI L))).st
                                      (bentA
                                          (Al.mk (genL (decL decI L.length (rowP encI L))).r (genL (decL decI L.length (rowP encI L))).ver
                                            (decL dec2 (genL (decL decI L.length (rowP encI L))).L.length (rowP enc2 (genL (decL decI L.length (rowP encI L))).L))
                                            (genL (decL decI L.length (rowP encI L))).st (genL (decL decI L.length (rowP encI L))).si (genL (decL decI L.length (rowP encI L))).le)
                                          at_ n (decL decI L.length (rowP encI L))).si
                                      (bentA
                                          (Al.mk (genL (decL decI L.length (rowP encI L))).r (genL (decL decI L.length (rowP encI L))).ver
                                            (decL dec2 (genL (decL decI L.length (rowP encI L))).L.length (rowP enc2 (genL (decL decI L.length (rowP encI L))).L))
                                            (genL (decL decI L.length (rowP encI L))).st (genL (decL decI L.length (rowP encI L))).si (genL (decL decI L.length (rowP encI L))).le)
                                          at_ n (decL decI L.length (rowP encI L))).le)
                                    tk).fst.L))
                          (alAck
                                (Al.mk
                                  (bentA
                                      (Al.mk (genL (decL decI L.length (rowP encI L))).r (genL (decL decI L.length (rowP encI L))).ver
                                        (decL dec2 (genL (decL decI L.length (rowP encI L))).L.length (rowP enc2 (genL (decL decI L.length (rowP encI L))).L))
                                        (genL (decL decI L.length (rowP encI L))).st (genL (decL decI L.length (rowP encI L))).si (genL (decL decI L.length (rowP encI L))).le)
                                      at_ n (decL decI L.length (rowP encI L))).r
                                  (bentA
                                      (Al.mk (genL (decL decI L.length (rowP encI L))).r (genL (decL decI L.length (rowP encI L))).ver
                                        (decL dec2 (genL (decL decI L.length (rowP encI L))).L.length (rowP enc2 (genL (decL decI L.length (rowP encI L))).L))
                                        (genL (decL decI L.length (rowP encI L))).st (genL (decL decI L.length (rowP encI L))).si (genL (decL decI L.length (rowP encI L))).le)
                                      at_ n (decL decI L.length (rowP encI L))).ver
                                  (decL dec2
                                    (bentA
                                          (Al.mk (genL (decL decI L.length (rowP encI L))).r (genL (decL decI L.length (rowP encI L))).ver
                                            (decL dec2 (genL (decL decI L.length (rowP encI L))).L.length (rowP enc2 (genL (decL decI L.length (rowP encI L))).L))
                                            (genL (decL decI L.length (rowP encI L))).st (genL (decL decI L.length (rowP encI L))).si (genL (decL decI L.length (rowP encI L))).le)
                                          at_ n (decL decI L.length (rowP encI L))).L.length
                                    (rowP enc2
                                      (bentA
                                          (Al.mk (genL (decL decI L.length (rowP encI L))).r (genL (decL decI L.length (rowP encI L))).ver
                                            (decL dec2 (genL (decL decI L.length (rowP encI L))).L.length (rowP enc2 (genL (decL decI L.length (rowP encI L))).L))
                                            (genL (decL decI L.length (rowP encI L))).st (genL (decL decI L.length (rowP encI L))).si (genL (decL decI L.length (rowP encI L))).le)
                                          at_ n (decL decI L.length (rowP encI L))).L))
                                  (bentA
                                      (Al.mk (genL (decL decI L.length (rowP encI L))).r (genL (decL decI L.length (rowP encI L))).ver
                                        (decL dec2 (genL (decL decI L.length (rowP encI L))).L.length (rowP enc2 (genL (decL decI L.length (rowP encI L))).L))
                                        (genL (decL decI L.length (rowP encI L))).st (genL (decL decI L.length (rowP encI L))).si (genL (decL decI L.length (rowP encI L))).le)
                                      at_ n (decL decI L.length (rowP encI L))).st
                                  (bentA
                                      (Al.mk (genL (decL decI L.length (rowP encI L))).r (genL (decL decI L.length (rowP encI L))).ver
                                        (decL dec2 (genL (decL decI L.length (rowP encI L))).L.length (rowP enc2 (genL (decL decI L.length (rowP encI L))).L))
                                        (genL (decL decI L.length (rowP encI L))).st (genL (decL decI L.length (rowP encI L))).si (genL (decL decI L.length (rowP encI L))).le)
                                      at_ n (decL decI L.length (rowP encI L))).si
                                  (bentA
                                      (Al.mk (genL (decL decI L.length (rowP encI L))).r (genL (decL decI L.length (rowP encI L))).ver
                                        (decL dec2 (genL (decL decI L.length (rowP encI L))).L.length (rowP enc2 (genL (decL decI L.length (rowP encI L))).L))
                                        (genL (decL decI L.length (rowP encI L))).st (genL (decL decI L.length (rowP encI L))).si (genL (decL decI L.length (rowP encI L))).le)
                                      at_ n (decL decI L.length (rowP encI L))).le)
                                tk).fst.st
                          (alAck
                                (Al.mk
                                  (bentA
                                      (Al.mk (genL (decL decI L.length (rowP encI L))).r (genL (decL decI L.length (rowP encI L))).ver
                                        (decL dec2 (genL (decL decI L.length (rowP encI L))).L.length (rowP enc2 (genL (decL decI L.length (rowP encI L))).L))
                                        (genL (decL decI L.length (rowP encI L))).st (genL (decL decI L.length (rowP encI L))).si (genL (decL decI L.length (rowP encI L))).le)
                                      at_ n (decL decI L.length (rowP encI L))).r
                                  (bentA
                                      (Al.mk (genL (decL decI L.length (rowP encI L))).r (genL (decL decI L.length (rowP encI L))).ver
                                        (decL dec2 (genL (decL decI L.length (rowP encI L))).L.length (rowP enc2 (genL (decL decI L.length (rowP encI L))).L))
                                        (genL (decL decI L.length (rowP encI L))).st (genL (decL decI L.length (rowP encI L))).si (genL (decL decI L.length (rowP encI L))).le)
                                      at_ n (decL decI L.length (rowP encI L))).ver
                                  (decL dec2
                                    (bentA
                                          (Al.mk (genL (decL decI L.length (rowP encI L))).r (genL (decL decI L.length (rowP encI L))).ver
                                            (decL dec2 (genL (decL decI L.length (rowP encI L))).L.length (rowP enc2 (genL (decL decI L.length (rowP encI L))).L))
                                            (genL (decL decI L.length (rowP encI L))).st (genL (decL decI L.length (rowP encI L))).si (genL (decL decI L.length (rowP encI L))).le)
                                          at_ n (decL decI L.length (rowP encI L))).L.length
                                    (rowP enc2
                                      (bentA
                                          (Al.mk (genL (decL decI L.length (rowP encI L))).r (genL (decL decI L.length (rowP encI L))).ver
                                            (decL dec2 (genL (decL decI L.length (rowP encI L))).L.length (rowP enc2 (genL (decL decI L.length (rowP encI L))).L))
                                            (genL (decL decI L.length (rowP encI L))).st (genL (decL decI L.length (rowP encI L))).si (genL (decL decI L.length (rowP encI L))).le)
                                          at_ n (decL decI L.length (rowP encI L))).L))
                                  (bentA
                                      (Al.mk (genL (decL decI L.length (rowP encI L))).r (genL (decL decI L.length (rowP encI L))).ver
                                        (decL dec2 (genL (decL decI L.length (rowP encI L))).L.length (rowP enc2 (genL (decL decI L.length (rowP encI L))).L))
                                        (genL (decL decI L.length (rowP encI L))).st (genL (decL decI L.length (rowP encI L))).si (genL (decL decI L.length (rowP encI L))).le)
                                      at_ n (decL decI L.length (rowP encI L))).st
                                  (bentA
                                      (Al.mk (genL (decL decI L.length (rowP encI L))).r (genL (decL decI L.length (rowP encI L))).ver
                                        (decL dec2 (genL (decL decI L.length (rowP encI L))).L.length (rowP enc2 (genL (decL decI L.length (rowP encI L))).L))
                                        (genL (decL decI L.length (rowP encI L))).st (genL (decL decI L.length (rowP encI L))).si (genL (decL decI L.length (rowP encI L))).le)
                                      at_ n (decL decI L.length (rowP encI L))).si
                                  (bentA
                                      (Al.mk (genL (decL decI L.length (rowP encI L))).r (genL (decL decI L.length (rowP encI L))).ver
                                        (decL dec2 (genL (decL decI L.length (rowP encI L))).L.length (rowP enc2 (genL (decL decI L.length (rowP encI L))).L))
                                        (genL (decL decI L.length (rowP encI L))).st (genL (decL decI L.length (rowP encI L))).si (genL (decL decI L.length (rowP encI L))).le)
                                      at_ n (decL decI L.length (rowP encI L))).le)
                                tk).fst.si
                          (alAck
                                (Al.mk
                                  (bentA
                                      (Al.mk (genL (decL decI L.length (rowP encI L))).r (genL (decL decI L.length (rowP encI L))).ver
                                        (decL dec2 (genL (decL decI L.length (rowP encI L))).L.length (rowP enc2 (genL (decL decI L.length (rowP encI L))).L))
                                        (genL (decL decI L.length (rowP encI L))).st (genL (decL decI L.length (rowP encI L))).si (genL (decL decI L.length (rowP encI L))).le)
                                      at_ n (decL decI L.length (rowP encI L))).r
                                  (bentA
                                      (Al.mk (genL (decL decI L.length (rowP encI L))).r (genL (decL decI L.length (rowP encI L))).ver
                                        (decL dec2 (genL (decL decI L.length (rowP encI L))).L.length (rowP enc2 (genL (decL decI L.length (rowP encI L))).L))
                                        (genL (decL decI L.length (rowP encI L))).st (genL (decL decI L.length (rowP encI L))).si (genL (decL decI L.length (rowP encI L))).le)
                                      at_ n (decL decI L.length (rowP encI L))).ver
                                  (decL dec2
                                    (bentA
                                          (Al.mk (genL (decL decI L.length (rowP encI L))).r (genL (decL decI L.length (rowP encI L))).ver
                                            (decL dec2 (genL (decL decI L.length (rowP encI L))).L.length (rowP enc2 (genL (decL decI L.length (rowP encI L))).L))
                                            (genL (decL decI L.length (rowP encI L))).st (genL (decL decI L.length (rowP encI L))).si (genL (decL decI L.length (rowP encI L))).le)
                                          at_ n (decL decI L.length (rowP encI L))).L.length
                                    (rowP enc2
                                      (bentA
                                          (Al.mk (genL (decL decI L.length (rowP encI L))).r (genL (decL decI L.length (rowP encI L))).ver
                                            (decL dec2 (genL (decL decI L.length (rowP encI L))).L.length (rowP enc2 (genL (decL decI L.length (rowP encI L))).L))
                                            (genL (decL decI L.length (rowP encI L))).st (genL (decL decI L.length (rowP encI L))).si (genL (decL decI L.length (rowP encI L))).le)
                                          at_ n (decL decI L.length (rowP encI L))).L))
                                  (bentA
                                      (Al.mk (genL (decL decI L.length (rowP encI L))).r (genL (decL decI L.length (rowP encI L))).ver
                                        (decL dec2 (genL (decL decI L.length (rowP encI L))).L.length (rowP enc2 (genL (decL decI L.length (rowP encI L))).L))
                                        (genL (decL decI L.length (rowP encI L))).st (genL (decL decI L.length (rowP encI L))).si (genL (decL decI L.length (rowP encI L))).le)
                                      at_ n (decL decI L.length (rowP encI L))).st
                                  (bentA
                                      (Al.mk (genL (decL decI L.length (rowP encI L))).r (genL (decL decI L.length (rowP encI L))).ver
                                        (decL dec2 (genL (decL decI L.length (rowP encI L))).L.length (rowP enc2 (genL (decL decI L.length (rowP encI L))).L))
                                        (genL (decL decI L.length (rowP encI L))).st (genL (decL decI L.length (rowP encI L))).si (genL (decL decI L.length (rowP encI L))).le)
                                      at_ n (decL decI L.length (rowP encI L))).si
                                  (bentA
                                      (Al.mk (genL (decL decI L.length (rowP encI L))).r (genL (decL decI L.length (rowP encI L))).ver
                                        (decL dec2 (genL (decL decI L.length (rowP encI L))).L.length (rowP enc2 (genL (decL decI L.length (rowP encI L))).L))
                                        (genL (decL decI L.length (rowP encI L))).st (genL (decL decI L.length (rowP encI L))).si (genL (decL decI L.length (rowP encI L))).le)
                                      at_ n (decL decI L.length (rowP encI L))).le)
                                tk).fst.le)
                        (Al.mk
                          (alAck
                                (Al.mk
                                  (bentA
                                      (Al.mk (genL (decL decI L.length (rowP encI L))).r (genL (decL decI L.length (rowP encI L))).ver
                                        (decL dec2 (genL (decL decI L.length (rowP encI L))).L.length (rowP enc2 (genL (decL decI L.length (rowP encI L))).L))
                                        (genL (decL decI L.length (rowP encI L))).st (genL (decL decI L.length (rowP encI L))).si (genL (decL decI L.length (rowP encI L))).le)
                                      at_ n (decL decI L.length (rowP encI L))).r
                                  (bentA
                                      (Al.mk (genL (decL decI L.length (rowP encI L))).r (genL (decL decI L.length (rowP encI L))).ver
                                        (decL dec2 (genL (decL decI L.length (rowP encI L))).L.length (rowP enc2 (genL (decL decI L.length (rowP encI L))).L))
                                        (genL (decL decI L.length (rowP encI L))).st (genL (decL decI L.length (rowP encI L))).si (genL (decL decI L.length (rowP encI L))).le)
                                      at_ n (decL decI L.length (rowP encI L))).ver
                                  (decL dec2
                                    (bentA
                                          (Al.mk (genL (decL decI L.length (rowP encI L))).r (genL (decL decI L.length (rowP encI L))).ver
                                            (decL dec2 (genL (decL decI L.length (rowP encI L))).L.length (rowP enc2 (genL (decL decI L.length (rowP encI L))).L))
                                            (genL (decL decI L.length (rowP encI L))).st (genL (decL decI L.length (rowP encI L))).si (genL (decL decI L.length (rowP encI L))).le)
                                          at_ n (decL decI L.length (rowP encI L))).L.length
                                    (rowP enc2
                                      (bentA
                                          (Al.mk (genL (decL decI L.length (rowP encI L))).r (genL (decL decI L.length (rowP encI L))).ver
                                            (decL dec2 (genL (decL decI L.length (rowP encI L))).L.length (rowP enc2 (genL (decL decI L.length (rowP encI L))).L))
                                            (genL (decL decI L.length (rowP encI L))).st (genL (decL decI L.length (rowP encI L))).si (genL (decL decI L.length (rowP encI L))).le)
                                          at_ n (decL decI L.length (rowP encI L))).L))
                                  (bentA
                                      (Al.mk (genL (decL decI L.length (rowP encI L))).r (genL (decL decI L.length (rowP encI L))).ver
                                        (decL dec2 (genL (decL decI L.length (rowP encI L))).L.length (rowP enc2 (genL (decL decI L.length (rowP encI L))).L))
                                        (genL (decL decI L.length (rowP encI L))).st (genL (decL decI L.length (rowP encI L))).si (genL (decL decI L.length (rowP encI L))).le)
                                      at_ n (decL decI L.length (rowP encI L))).st
                                  (bentA
                                      (Al.mk (genL (decL decI L.length (rowP encI L))).r (genL (decL decI L.length (rowP encI L))).ver
                                        (decL dec2 (genL (decL decI L.length (rowP encI L))).L.length (rowP enc2 (genL (decL decI L.length (rowP encI L))).L))
                                        (genL (decL decI L.length (rowP encI L))).st (genL (decL decI L.length (rowP encI L))).si (genL (decL decI L.length (rowP encI L))).le)
                                      at_ n (decL decI L.length (rowP encI L))).si
                                  (bentA
                                      (Al.mk (genL (decL decI L.length (rowP encI L))).r (genL (decL decI L.length (rowP encI L))).ver
                                        (decL dec2 (genL (decL decI L.length (rowP encI L))).L.length (rowP enc2 (genL (decL decI L.length (rowP encI L))).L))
                                        (genL (decL decI L.length (rowP encI L))).st (genL (decL decI L.length (rowP encI L))).si (genL (decL decI L.length (rowP encI L))).le)
                                      at_ n (decL decI L.length (rowP encI L))).le)
                                tk).fst.r
                          (alAck
                                (Al.mk
                                  (bentA
                                      (Al.mk (genL (decL decI L.length (rowP encI L))).r (genL (decL decI L.length (rowP encI L))).ver
                                        (decL dec2 (genL (decL decI L.length (rowP encI L))).L.length (rowP enc2 (genL (decL decI L.length (rowP encI L))).L))
                                        (genL (decL decI L.length (rowP encI L))).st (genL (decL decI L.length (rowP encI L))).si (genL (decL decI L.length (rowP encI L))).le)
                                      at_ n (decL decI L.length (rowP encI L))).r
                                  (bentA
                                      (Al.mk (genL (decL decI L.length (rowP encI L))).r (genL (decL decI L.length (rowP encI L))).ver
                                        (decL dec2 (genL (decL decI L.length (rowP encI L))).L.length (rowP enc2 (genL (decL decI L.length (rowP encI L))).L))
                                        (genL (decL decI L.length (rowP encI L))).st (genL (decL decI L.length (rowP encI L))).si (genL (decL decI L.length (rowP encI L))).le)
                                      at_ n (decL decI L.length (rowP encI L))).ver
                                  (decL dec2
                                    (bentA
                                          (Al.mk (genL (decL decI L.length (rowP encI L))).r (genL (decL decI L.length (rowP encI L))).ver
                                            (decL dec2 (genL (decL decI L.length (rowP encI L))).L.length (rowP enc2 (genL (decL decI L.length (rowP encI L))).L))
                                            (genL (decL decI L.length (rowP encI L))).st (genL (decL decI L.length (rowP encI L))).si (genL (decL decI L.length (rowP encI L))).le)
                                          at_ n (decL decI L.length (rowP encI L))).L.length
                                    (rowP enc2
                                      (bentA
                                          (Al.mk (genL (decL decI L.length (rowP encI L))).r (genL (decL decI L.length (rowP encI L))).ver
                                            (decL dec2 (genL (decL decI L.length (rowP encI L))).L.length (rowP enc2 (genL (decL decI L.length (rowP encI L))).L))
                                            (genL (decL decI L.length (rowP encI L))).st (genL (decL decI L.length (rowP encI L))).si (genL (decL decI L.length (rowP encI L))).le)
                                          at_ n (decL decI L.length (rowP encI L))).L))
                                  (bentA
                                      (Al.mk (genL (decL decI L.length (rowP encI L))).r (genL (decL decI L.length (rowP encI L))).ver
                                        (decL dec2 (genL (decL decI L.length (rowP encI L))).L.length (rowP enc2 (genL (decL decI L.length (rowP encI L))).L))
                                        (genL (decL decI L.length (rowP encI L))).st (genL (decL decI L.length (rowP encI L))).si (genL (decL decI L.length (rowP encI L))).le)
                                      at_ n (decL decI L.length (rowP encI L))).st
                                  (bentA
                                      (Al.mk (genL (decL decI L.length (rowP encI L))).r (genL (decL decI L.length (rowP encI L))).ver
                                        (decL dec2 (genL (decL decI L.length (rowP encI L))).L.length (rowP enc2 (genL (decL decI L.length (rowP encI L))).L))
                                        (genL (decL decI L.length (rowP encI L))).st (genL (decL decI L.length (rowP encI L))).si (genL (decL decI L.length (rowP encI L))).le)
                                      at_ n (decL decI L.length (rowP encI L))).si
                                  (bentA
                                      (Al.mk (genL (decL decI L.length (rowP encI L))).r (genL (decL decI L.length (rowP encI L))).ver
                                        (decL dec2 (genL (decL decI L.length (rowP encI L))).L.length (rowP enc2 (genL (decL decI L.length (rowP encI L))).L))
                                        (genL (decL decI L.length (rowP encI L))).st (genL (decL decI L.length (rowP encI L))).si (genL (decL decI L.length (rowP encI L))).le)
                                      at_ n (decL decI L.length (rowP encI L))).le)
                                tk).fst.ver
                          (decL dec2
                            (alAck
                                    (Al.mk
                                      (bentA
                                          (Al.mk (genL (decL decI L.length (rowP encI L))).r (genL (decL decI L.length (rowP encI L))).ver
                                            (decL dec2 (genL (decL decI L.length (rowP encI L))).L.length (rowP enc2 (genL (decL decI L.length (rowP encI L))).L))
                                            (genL (decL decI L.length (rowP encI L))).st (genL (decL decI L.length (rowP encI L))).si (genL (decL decI L.length (rowP encI L))).le)
                                          at_ n (decL decI L.length (rowP encI L))).r
                                      (bentA
                                          (Al.mk (genL (decL decI L.length (rowP encI L))).r (genL (decL decI L.length (rowP encI L))).ver
                                            (decL dec2 (genL (decL decI L.length (rowP encI L))).L.length (rowP enc2 (genL (decL decI L.length (rowP encI L))).L))
                                            (genL (decL decI L.length (rowP encI L))).st (genL (decL decI L.length (rowP encI L))).si (genL (decL decI L.length (rowP encI L))).le)
                                          at_ n (decL decI L.length (rowP encI L))).ver
                                      (decL dec2
                                        (bentA
                                              (Al.mk (genL (decL decI L.length (rowP encI L))).r (genL (decL decI L.length (rowP encI L))).ver
                                                (decL dec2 (genL (decL decI L.length (rowP encI L))).L.length (rowP enc2 (genL (decL decI L.length (rowP encI L))).L))
                                                (genL (decL decI L.length (rowP encI L))).st (genL (decL decI L.length (rowP encI L))).si (genL (decL decI L.length (rowP encI L))).le)
                                              at_ n (decL decI L.length (rowP encI L))).L.length
                                        (rowP enc2
                                          (bentA
                                              (Al.mk (genL (decL decI L.length (rowP encI L))).r (genL (decL decI L.length (rowP encI L))).ver
                                                (decL dec2 (genL (decL decI L.length (rowP encI L))).L.length (rowP enc2 (genL (decL decI L.length (rowP encI L))).L))
                                                (genL (decL decI L.length (rowP encI L))).st (genL (decL decI L.length (rowP encI L))).si (genL (decL decI L.length (rowP encI L))).le)
                                              at_ n (decL decI L.length (rowP encI L))).L))
                                      (bentA
                                          (Al.mk (genL (decL decI L.length (rowP encI L))).r (genL (decL decI L.length (rowP encI L))).ver
                                            (decL dec2 (genL (decL decI L.length (rowP encI L))).L.length (rowP enc2 (genL (decL decI L.length (rowP encI L))).L))
                                            (genL (decL decI L.length (rowP encI L))).st (genL (decL decI L.length (rowP encI L))).si (genL (decL decI L.length (rowP encI L))).le)
                                          at_ n (decL decI L.length (rowP encI L))).st
                                      (bentA
                                          (Al.mk (genL (decL decI L.length (rowP encI L))).r (genL (decL decI L.length (rowP encI L))).ver
                                            (decL dec2 (genL (decL decI L.length (rowP encI L))).L.length (rowP enc2 (genL (decL decI L.length (rowP encI L))).L))
                                            (genL (decL decI L.length (rowP encI L))).st (genL (decL decI L.length (rowP encI L))).si (genL (decL decI L.length (rowP encI L))).le)
                                          at_ n (decL decI L.length (rowP encI L))).si
                                      (bentA
                                          (Al.mk (genL (decL decI L.length (rowP encI L))).r (genL (decL decI L.length (rowP encI L))).ver
                                            (decL dec2 (genL (decL decI L.length (rowP encI L))).L.length (rowP enc2 (genL (decL decI L.length (rowP encI L))).L))
                                            (genL (decL decI L.length (rowP encI L))).st (genL (decL decI L.length (rowP encI L))).si (genL (decL decI L.length (rowP encI L))).le)
                                          at_ n (decL decI L.length (rowP encI L))).le)
                                    tk).fst.L.length
                            (rowP enc2
                              (alAck
                                    (Al.mk
                                      (bentA
                                          (Al.mk (genL (decL decI L.length (rowP encI L))).r (genL (decL decI L.length (rowP encI L))).ver
                                            (decL dec2 (genL (decL decI L.length (rowP encI L))).L.length (rowP enc2 (genL (decL decI L.length (rowP encI L))).L))
                                            (genL (decL decI L.length (rowP encI L))).st (genL (decL decI L.length (rowP encI L))).si (genL (decL decI L.length (rowP encI L))).le)
                                          at_ n (decL decI L.length (rowP encI L))).r
                                      (bentA
                                          (Al.mk (genL (decL decI L.length (rowP encI L))).r (genL (decL decI L.length (rowP encI L))).ver
                                            (decL dec2 (genL (decL decI L.length (rowP encI L))).L.length (rowP enc2 (genL (decL decI L.length (rowP encI L))).L))
                                            (genL (decL decI L.length (rowP encI L))).st (genL (decL decI L.length (rowP encI L))).si (genL (decL decI L.length (rowP encI L))).le)
                                          at_ n (decL decI L.length (rowP encI L))).ver
                                      (decL dec2
                                        (bentA
                                              (Al.mk (genL (decL decI L.length (rowP encI L))).r (genL (decL decI L.length (rowP encI L))).ver
                                                (decL dec2 (genL (decL decI L.length (rowP encI L))).L.length (rowP enc2 (genL (decL decI L.length (rowP encI L))).L))
                                                (genL (decL decI L.length (rowP encI L))).st (genL (decL decI L.length (rowP encI L))).si (genL (decL decI L.length (rowP encI L))).le)
                                              at_ n (decL decI L.length (rowP encI L))).L.length
                                        (rowP enc2
                                          (bentA
                                              (Al.mk (genL (decL decI L.length (rowP encI L))).r (genL (decL decI L.length (rowP encI L))).ver
                                                (decL dec2 (genL (decL decI L.length (rowP encI L))).L.length (rowP enc2 (genL (decL decI L.length (rowP encI L))).L))
                                                (genL (decL decI L.length (rowP encI L))).st (genL (decL decI L.length (rowP encI L))).si (genL (decL decI L.length (rowP encI L))).le)
                                              at_ n (decL decI L.length (rowP encI L))).L))
                                      (bentA
                                          (Al.mk (genL (decL decI L.length (rowP encI L))).r (genL (decL decI L.length (rowP encI L))).ver
                                            (decL dec2 (genL (decL decI L.length (rowP encI L))).L.length (rowP enc2 (genL (decL decI L.length (rowP encI L))).L))
                                            (genL (decL decI L.length (rowP encI L))).st (genL (decL decI L.length (rowP encI L))).si (genL (decL decI L.length (rowP encI L))).le)
                                          at_ n (decL decI L.length (rowP encI L))).st
                                      (bentA
                                          (Al.mk (genL (decL decI L.length (rowP encI L))).r (genL (decL decI L.length (rowP encI L))).ver
                                            (decL dec2 (genL (decL decI L.length (rowP encI L))).L.length (rowP enc2 (genL (decL decI L.length (rowP encI L))).L))
                                            (genL (decL decI L.length (rowP encI L))).st (genL (decL decI L.length (rowP encI L))).si (genL (decL decI L.length (rowP encI L))).le)
                                          at_ n (decL decI L.length (rowP encI L))).si
                                      (bentA
                                          (Al.mk (genL (decL decI L.length (rowP encI L))).r (genL (decL decI L.length (rowP encI L))).ver
                                            (decL dec2 (genL (decL decI L.length (rowP encI L))).L.length (rowP enc2 (genL (decL decI L.length (rowP encI L))).L))
                                            (genL (decL decI L.length (rowP encI L))).st (genL (decL decI L.length (rowP encI L))).si (genL (decL decI L.length (rowP encI L))).le)
                                          at_ n (decL decI L.length (rowP encI L))).le)
                                    tk).fst.L))
                          (alAck
                                (Al.mk
                                  (bentA
                                      (Al.mk (genL (decL decI L.length (rowP encI L))).r (genL (decL decI L.length (rowP encI L))).ver
                                        (decL dec2 (genL (decL decI L.length (rowP encI L))).L.length (rowP enc2 (genL (decL decI L.length (rowP encI L))).L))
                                        (genL (decL decI L.length (rowP encI L))).st (genL (decL decI L.length (rowP encI L))).si (genL (decL decI L.length (rowP encI L))).le)
                                      at_ n (decL decI L.length (rowP encI L))).r
                                  (bentA
                                      (Al.mk (genL (decL decI L.length (rowP encI L))).r (genL (decL decI L.length (rowP encI L))).ver
                                        (decL dec2 (genL (decL decI L.length (rowP encI L))).L.length (rowP enc2 (genL (decL decI L.length (rowP encI L))).L))
                                        (genL (decL decI L.length (rowP encI L))).st (genL (decL decI L.length (rowP encI L))).si (genL (decL decI L.length (rowP encI L))).le)
                                      at_ n (decL decI L.length (rowP encI L))).ver
                                  (decL dec2
                                    (bentA
                                          (Al.mk (genL (decL decI L.length (rowP encI L))).r (genL (decL decI L.length (rowP encI L))).ver
                                            (decL dec2 (genL (decL decI L.length (rowP encI L))).L.length (rowP enc2 (genL (decL decI L.length (rowP encI L))).L))
                                            (genL (decL decI L.length (rowP encI L))).st (genL (decL decI L.length (rowP encI L))).si (genL (decL decI L.length (rowP encI L))).le)
                                          at_ n (decL decI L.length (rowP encI L))).L.length
                                    (rowP enc2
                                      (bentA
                                          (Al.mk (genL (decL decI L.length (rowP encI L))).r (genL (decL decI L.length (rowP encI L))).ver
                                            (decL dec2 (genL (decL decI L.length (rowP encI L))).L.length (rowP enc2 (genL (decL decI L.length (rowP encI L))).L))
                                            (genL (decL decI L.length (rowP encI L))).st (genL (decL decI L.length (rowP encI L))).si (genL (decL decI L.length (rowP encI L))).le)
                                          at_ n (decL decI L.length (rowP encI L))).L))
                                  (bentA
                                      (Al.mk (genL (decL decI L.length (rowP encI L))).r (genL (decL decI L.length (rowP encI L))).ver
                                        (decL dec2 (genL (decL decI L.length (rowP encI L))).L.length (rowP enc2 (genL (decL decI L.length (rowP encI L))).L))
                                        (genL (decL decI L.length (rowP encI L))).st (genL (decL decI L.length (rowP encI L))).si (genL (decL decI L.length (rowP encI L))).le)
                                      at_ n (decL decI L.length (rowP encI L))).st
                                  (bentA
                                      (Al.mk (genL (decL decI L.length (rowP encI L))).r (genL (decL decI L.length (rowP encI L))).ver
                                        (decL dec2 (genL (decL decI L.length (rowP encI L))).L.length (rowP enc2 (genL (decL decI L.length (rowP encI L))).L))
                                        (genL (decL decI L.length (rowP encI L))).st (genL (decL decI L.length (rowP encI L))).si (genL (decL decI L.length (rowP encI L))).le)
                                      at_ n (decL decI L.length (rowP encI L))).si
                                  (bentA
                                      (Al.mk (genL (decL decI L.length (rowP encI L))).r (genL (decL decI L.length (rowP encI L))).ver
                                        (decL dec2 (genL (decL decI L.length (rowP encI L))).L.length (rowP enc2 (genL (decL decI L.length (rowP encI L))).L))
                                        (genL (decL decI L.length (rowP encI L))).st (genL (decL decI L.length (rowP encI L))).si (genL (decL decI L.length (rowP encI L))).le)
                                      at_ n (decL decI L.length (rowP encI L))).le)
                                tk).fst.st
                          (alAck
                                (Al.mk
                                  (bentA
                                      (Al.mk (genL (decL decI L.length (rowP encI L))).r (genL (decL decI L.length (rowP encI L))).ver
                                        (decL dec2 (genL (decL decI L.length (rowP encI L))).L.length (rowP enc2 (genL (decL decI L.length (rowP encI L))).L))
                                        (genL (decL decI L.length (rowP encI L))).st (genL (decL decI L.length (rowP encI L))).si (genL (decL decI L.length (rowP encI L))).le)
                                      at_ n (decL decI L.length (rowP encI L))).r
                                  (bentA
                                      (Al.mk (genL (decL decI L.length (rowP encI L))).r (genL (decL decI L.length (rowP encI L))).ver
                                        (decL dec2 (genL (decL decI L.length (rowP encI L))).L.length (rowP enc2 (genL (decL decI L.length (rowP encI L))).L))
                                        (genL (decL decI L.length (rowP encI L))).st (genL (decL decI L.length (rowP encI L))).si (genL (decL decI L.length (rowP encI L))).le)
                                      at_ n (decL decI L.length (rowP encI L))).ver
                                  (decL dec2
                                    (bentA
                                          (Al.mk (genL (decL decI L.length (rowP encI L))).r (genL (decL decI L.length (rowP encI L))).ver
                                            (decL dec2 (genL (decL decI L.length (rowP encI L))).L.length (rowP enc2 (genL (decL decI L.length (rowP encI L))).L))
                                            (genL (decL decI L.length (rowP encI L))).st (genL (decL decI L.length (rowP encI L))).si (genL (decL decI L.length (rowP encI L))).le)
                                          at_ n (decL decI L.length (rowP encI L))).L.length
                                    (rowP enc2
                                      (bentA
                                          (Al.mk (genL (decL decI L.length (rowP encI L))).r (genL (decL decI L.length (rowP encI L))).ver
                                            (decL dec2 (genL (decL decI L.length (rowP encI L))).L.length (rowP enc2 (genL (decL decI L.length (rowP encI L))).L))
                                            (genL (decL decI L.length (rowP encI L))).st (genL (decL decI L.length (rowP encI L))).si (genL (decL decI L.length (rowP encI L))).le)
                                          at_ n (decL decI L.length (rowP encI L))).L))
                                  (bentA
                                      (Al.mk (genL (decL decI L.length (rowP encI L))).r (genL (decL decI L.length (rowP encI L))).ver
                                        (decL dec2 (genL (decL decI L.length (rowP encI L))).L.length (rowP enc2 (genL (decL decI L.length (rowP encI L))).L))
                                        (genL (decL decI L.length (rowP encI L))).st (genL (decL decI L.length (rowP encI L))).si (genL (decL decI L.length (rowP encI L))).le)
                                      at_ n (decL decI L.length (rowP encI L))).st
                                  (bentA
                                      (Al.mk (genL (decL decI L.length (rowP encI L))).r (genL (decL decI L.length (rowP encI L))).ver
                                        (decL dec2 (genL (decL decI L.length (rowP encI L))).L.length (rowP enc2 (genL (decL decI L.length (rowP encI L))).L))
                                        (genL (decL decI L.length (rowP encI L))).st (genL (decL decI L.length (rowP encI L))).si (genL (decL decI L.length (rowP encI L))).le)
                                      at_ n (decL decI L.length (rowP encI L))).si
                                  (bentA
                                      (Al.mk (genL (decL decI L.length (rowP encI L))).r (genL (decL decI L.length (rowP encI L))).ver
                                        (decL dec2 (genL (decL decI L.length (rowP encI L))).L.length (rowP enc2 (genL (decL decI L.length (rowP encI L))).L))
                                        (genL (decL decI L.length (rowP encI L))).st (genL (decL decI L.length (rowP encI L))).si (genL (decL decI L.length (rowP encI L))).le)
                                      at_ n (decL decI L.length (rowP encI L))).le)
                                tk).fst.si
                          (alAck
                                (Al.mk
                                  (bentA
                                      (Al.mk (genL (decL decI L.length (rowP encI L))).r (genL (decL decI L.length (rowP encI L))).ver
                                        (decL dec2 (genL (decL decI L.length (rowP encI L))).L.length (rowP enc2 (genL (decL decI L.length (rowP encI L))).L))
                                        (genL (decL decI L.length (rowP encI L))).st (genL (decL decI L.length (rowP encI L))).si (genL (decL decI L.length (rowP encI L))).le)
                                      at_ n (decL decI L.length (rowP encI L))).r
                                  (bentA
                                      (Al.mk (genL (decL decI L.length (rowP encI L))).r (genL (decL decI L.length (rowP encI L))).ver
                                        (decL dec2 (genL (decL decI L.length (rowP encI L))).L.length (rowP enc2 (genL (decL decI L.length (rowP encI L))).L))
                                        (genL (decL decI L.length (rowP encI L))).st (genL (decL decI L.length (rowP encI L))).si (genL (decL decI L.length (rowP encI L))).le)
                                      at_ n (decL decI L.length (rowP encI L))).ver
                                  (decL dec2
                                    (bentA
                                          (Al.mk (genL (decL decI L.length (rowP encI L))).r (genL (decL decI L.length (rowP encI L))).ver
                                            (decL dec2 (genL (decL decI L.length (rowP encI L))).L.length (rowP enc2 (genL (decL decI L.length (rowP encI L))).L))
                                            (genL (decL decI L.length (rowP encI L))).st (genL (decL decI L.length (rowP encI L))).si (genL (decL decI L.length (rowP encI L))).le)
                                          at_ n (decL decI L.length (rowP encI L))).L.length
                                    (rowP enc2
                                      (bentA
                                          (Al.mk (genL (decL decI L.length (rowP encI L))).r (genL (decL decI L.length (rowP encI L))).ver
                                            (decL dec2 (genL (decL decI L.length (rowP encI L))).L.length (rowP enc2 (genL (decL decI L.length (rowP encI L))).L))
                                            (genL (decL decI L.length (rowP encI L))).st (genL (decL decI L.length (rowP encI L))).si (genL (decL decI L.length (rowP encI L))).le)
                                          at_ n (decL decI L.length (rowP encI L))).L))
                                  (bentA
                                      (Al.mk (genL (decL decI L.length (rowP encI L))).r (genL (decL decI L.length (rowP encI L))).ver
                                        (decL dec2 (genL (decL decI L.length (rowP encI L))).L.length (rowP enc2 (genL (decL decI L.length (rowP encI L))).L))
                                        (genL (decL decI L.length (rowP encI L))).st (genL (decL decI L.length (rowP encI L))).si (genL (decL decI L.length (rowP encI L))).le)
                                      at_ n (decL decI L.length (rowP encI L))).st
                                  (bentA
                                      (Al.mk (genL (decL decI L.length (rowP encI L))).r (genL (decL decI L.length (rowP encI L))).ver
                                        (decL dec2 (genL (decL decI L.length (rowP encI L))).L.length (rowP enc2 (genL (decL decI L.length (rowP encI L))).L))
                                        (genL (decL decI L.length (rowP encI L))).st (genL (decL decI L.length (rowP encI L))).si (genL (decL decI L.length (rowP encI L))).le)
                                      at_ n (decL decI L.length (rowP encI L))).si
                                  (bentA
                                      (Al.mk (genL (decL decI L.length (rowP encI L))).r (genL (decL decI L.length (rowP encI L))).ver
                                        (decL dec2 (genL (decL decI L.length (rowP encI L))).L.length (rowP enc2 (genL (decL decI L.length (rowP encI L))).L))
                                        (genL (decL decI L.length (rowP encI L))).st (genL (decL decI L.length (rowP encI L))).si (genL (decL decI L.length (rowP encI L))).le)
                                      at_ n (decL decI L.length (rowP encI L))).le)
                                tk).fst.le))
                    (Tr.done X.ret (St.mk [V.c (C.p (PV.b false))] []))
                    (Tr.rq (inR IntKind.i64 ((↑i : Int) + 1))
                      (Tr.done X.normal
                        (cst 50 [(0, V.c (C.p (PV.l 1 L.length (rowP encI L)))), (1, V.c (C.p (PV.i IntKind.i64 at_))), (2, V.c (C.p (PV.i IntKind.i64 n))), (3, V.c (C.p (PV.i IntKind.i64 tk))), (9, V.c (C.p (PV.i IntKind.i64 ((↑i : Int) + 1))))] [])))))))))
        (Tr.rq
          (IsL enc2 2 (decL dec2 (genL (decL decI L.length (rowP encI L))).L.length (rowP enc2 (genL (decL decI L.length (rowP encI L))).L)) (genL (decL decI L.length (rowP encI L))).L.length
              (rowP enc2 (genL (decL decI L.length (rowP encI L))).L) ∧
            (Al.mk (genL (decL decI L.length (rowP encI L))).r (genL (decL decI L.length (rowP encI L))).ver
                    (decL dec2 (genL (decL decI L.length (rowP encI L))).L.length (rowP enc2 (genL (decL decI L.length (rowP encI L))).L)) (genL (decL decI L.length (rowP encI L))).st
                    (genL (decL decI L.length (rowP encI L))).si (genL (decL decI L.length (rowP encI L))).le).L.length ≤
              1000000)
          (Tr.rq
            (IsL enc2 2 (decL dec2 (genL (decL decI L.length (rowP encI L))).L.length (rowP enc2 (genL (decL decI L.length (rowP encI L))).L)) (genL (decL decI L.length (rowP encI L))).L.length
              (rowP enc2 (genL (decL decI L.length (rowP encI L))).L))
            (bT
              ((alAck
                    (Al.mk (genL (decL decI L.length (rowP encI L))).r (genL (decL decI L.length (rowP encI L))).ver
                      (decL dec2 (genL (decL decI L.length (rowP encI L))).L.length (rowP enc2 (genL (decL decI L.length (rowP encI L))).L)) (genL (decL decI L.length (rowP encI L))).st
                      (genL (decL decI L.length (rowP encI L))).si (genL (decL decI L.length (rowP encI L))).le)
                    tk).snd !=
                (alAck
                    (Al.mk (genL (decL decI L.length (rowP encI L))).r (genL (decL decI L.length (rowP encI L))).ver
                      (decL dec2 (genL (decL decI L.length (rowP encI L))).L.length (rowP enc2 (genL (decL decI L.length (rowP encI L))).L)) (genL (decL decI L.length (rowP encI L))).st
                      (genL (decL decI L.length (rowP encI L))).si (genL (decL decI L.length (rowP encI L))).le)
                    tk).snd)
              (Tr.done X.ret (St.mk [V.c (C.p (PV.b false))] []))
              (Tr.rq
                ((IsL enc2 2
                      (decL dec2
                        (alAck
                                (Al.mk (genL (decL decI L.length (rowP encI L))).r (genL (decL decI L.length (rowP encI L))).ver
                                  (decL dec2 (genL (decL decI L.length (rowP encI L))).L.length (rowP enc2 (genL (decL decI L.length (rowP encI L))).L)) (genL (decL decI L.length (rowP encI L))).st
                                  (genL (decL decI L.length (rowP encI L))).si (genL (decL decI L.length (rowP encI L))).le)
                                tk).fst.L.length
                        (rowP enc2
                          (alAck
                                (Al.mk (genL (decL decI L.length (rowP encI L))).r (genL (decL decI L.length (rowP encI L))).ver
                                  (decL dec2 (genL (decL decI L.length (rowP encI L))).L.length (rowP enc2 (genL (decL decI L.length (rowP encI L))).L)) (genL (decL decI L.length (rowP encI L))).st
                                  (genL (decL decI L.length (rowP encI L))).si (genL (decL decI L.length (rowP encI L))).le)
                                tk).fst.L))
                      (alAck
                              (Al.mk (genL (decL decI L.length (rowP encI L))).r (genL (decL decI L.length (rowP encI L))).ver
                                (decL dec2 (genL (decL decI L.length (rowP encI L))).L.length (rowP enc2 (genL (decL decI L.length (rowP encI L))).L)) (genL (decL decI L.length (rowP encI L))).st
                                (genL (decL decI L.length (rowP encI L))).si (genL (decL decI L.length (rowP encI L))).le)
                              tk).fst.L.length
                      (rowP enc2
                        (alAck
                              (Al.mk (genL (decL decI L.length (rowP encI L))).r (genL (decL decI L.length (rowP encI L))).ver
                                (decL dec2 (genL (decL decI L.length (rowP encI L))).L.length (rowP enc2 (genL (decL decI L.length (rowP encI L))).L)) (genL (decL decI L.length (rowP encI L))).st
                                (genL (decL decI L.length (rowP encI L))).si (genL (decL decI L.length (rowP encI L))).le)
                              tk).fst.L) ∧
                    IsL enc2 2
                      (decL dec2
                        (alAck
                                (Al.mk (genL (decL decI L.length (rowP encI L))).r (genL (decL decI L.length (rowP encI L))).ver
                                  (decL dec2 (genL (decL decI L.length (rowP encI L))).L.length (rowP enc2 (genL (decL decI L.length (rowP encI L))).L)) (genL (decL decI L.length (rowP encI L))).st
                                  (genL (decL decI L.length (rowP encI L))).si (genL (decL decI L.length (rowP encI L))).le)
                                tk).fst.L.length
                        (rowP enc2
                          (alAck
                                (Al.mk (genL (decL decI L.length (rowP encI L))).r (genL (decL decI L.length (rowP encI L))).ver
                                  (decL dec2 (genL (decL decI L.length (rowP encI L))).L.length (rowP enc2 (genL (decL decI L.length (rowP encI L))).L)) (genL (decL decI L.length (rowP encI L))).st
                                  (genL (decL decI L.length (rowP encI L))).si (genL (decL decI L.length (rowP encI L))).le)
                                tk).fst.L))
                      (alAck
                              (Al.mk (genL (decL decI L.length (rowP encI L))).r (genL (decL decI L.length (rowP encI L))).ver
                                (decL dec2 (genL (decL decI L.length (rowP encI L))).L.length (rowP enc2 (genL (decL decI L.length (rowP encI L))).L)) (genL (decL decI L.length (rowP encI L))).st
                                (genL (decL decI L.length (rowP encI L))).si (genL (decL decI L.length (rowP encI L))).le)
                              tk).fst.L.length
                      (rowP enc2
                        (alAck
                              (Al.mk (genL (decL decI L.length (rowP encI L))).r (genL (decL decI L.length (rowP encI L))).ver
                                (decL dec2 (genL (decL decI L.length (rowP encI L))).L.length (rowP enc2 (genL (decL decI L.length (rowP encI L))).L)) (genL (decL decI L.length (rowP encI L))).st
                                (genL (decL decI L.length (rowP encI L))).si (genL (decL decI L.length (rowP encI L))).le)
                              tk).fst.L)) ∧
                  (Al.mk
                          (alAck
                                (Al.mk (genL (decL decI L.length (rowP encI L))).r (genL (decL decI L.length (rowP encI L))).ver
                                  (decL dec2 (genL (decL decI L.length (rowP encI L))).L.length (rowP enc2 (genL (decL decI L.length (rowP encI L))).L)) (genL (decL decI L.length (rowP encI L))).st
                                  (genL (decL decI L.length (rowP encI L))).si (genL (decL decI L.length (rowP encI L))).le)
                                tk).fst.r
                          (alAck
                                (Al.mk (genL (decL decI L.length (rowP encI L))).r (genL (decL decI L.length (rowP encI L))).ver
                                  (decL dec2 (genL (decL decI L.length (rowP encI L))).L.length (rowP enc2 (genL (decL decI L.length (rowP encI L))).L)) (genL (decL decI L.length (rowP encI L))).st
                                  (genL (decL decI L.length (rowP encI L))).si (genL (decL decI L.length (rowP encI L))).le)
                                tk).fst.ver
                          (decL dec2
                            (alAck
                                    (Al.mk (genL (decL decI L.length (rowP encI L))).r (genL (decL decI L.length (rowP encI L))).ver
                                      (decL dec2 (genL (decL decI L.length (rowP encI L))).L.length (rowP enc2 (genL (decL decI L.length (rowP encI L))).L)) (genL (decL decI L.length (rowP encI L))).st
                                      (genL (decL decI L.length (rowP encI L))).si (genL (decL decI L.length (rowP encI L))).le)
                                    tk).fst.L.length
                            (rowP enc2
                              (alAck
                                    (Al.mk (genL (decL decI L.length (rowP encI L))).r (genL (decL decI L.length (rowP encI L))).ver
                                      (decL dec2 (genL (decL decI L.length (rowP encI L))).L.length (rowP enc2 (genL (decL decI L.length (rowP encI L))).L)) (genL (decL decI L.length (rowP encI L))).st
                                      (genL (decL decI L.length (rowP encI L))).si (genL (decL decI L.length (rowP encI L))).le)
                                    tk).fst.L))
                          (alAck
                                (Al.mk (genL (decL decI L.length (rowP encI L))).r (genL (decL decI L.length (rowP encI L))).ver
                                  (decL dec2 (genL (decL decI L.length (rowP encI L))).L.length (rowP enc2 (genL (decL decI L.length (rowP encI L))).L)) (genL (decL decI L.length (rowP encI L))).st
                                  (genL (decL decI L.length (rowP encI L))).si (genL (decL decI L.length (rowP encI L))).le)
                                tk).fst.st
                          (alAck
                                (Al.mk (genL (decL decI L.length (rowP encI L))).r (genL (decL decI L.length (rowP encI L))).ver
                                  (decL dec2 (genL (decL decI L.length (rowP encI L))).L.length (rowP enc2 (genL (decL decI L.length (rowP encI L))).L)) (genL (decL decI L.length (rowP encI L))).st
                                  (genL (decL decI L.length (rowP encI L))).si (genL (decL decI L.length (rowP encI L))).le)
                                tk).fst.si
                          (alAck
                                (Al.mk (genL (decL decI L.length (rowP encI L))).r (genL (decL decI L.length (rowP encI L))).ver
                                  (decL dec2 (genL (decL decI L.length (rowP encI L))).L.length (rowP enc2 (genL (decL decI L.length (rowP encI L))).L)) (genL (decL decI L.length (rowP encI L))).st
                                  (genL (decL decI L.length (rowP encI L))).si (genL (decL decI L.length (rowP encI L))).le)
                                tk).fst.le).L.length ≤
                    1000000)
                (bT
                  (!alEq
                      (Al.mk
                        (alAck
                              (Al.mk (genL (decL decI L.length (rowP encI L))).r (genL (decL decI L.length (rowP encI L))).ver
                                (decL dec2 (genL (decL decI L.length (rowP encI L))).L.length (rowP enc2 (genL (decL decI L.length (rowP encI L))).L)) (genL (decL decI L.length (rowP encI L))).st
                                (genL (decL decI L.length (rowP encI L))).si (genL (decL decI L.length (rowP encI L))).le)
                              tk).fst.r
                        (alAck
                              (Al.mk (genL (decL decI L.length (rowP encI L))).r (genL (decL decI L.length (rowP encI L))).ver
                                (decL dec2 (genL (decL decI L.length (rowP encI L))).L.length (rowP enc2 (genL (decL decI L.length (rowP encI L))).L)) (genL (decL decI L.length (rowP encI L))).st
                                (genL (decL decI L.length (rowP encI L))).si (genL (decL decI L.length (rowP encI L))).le)
                              tk).fst.ver
                        (decL dec2
                          (alAck
                                  (Al.mk (genL (decL decI L.length (rowP encI L))).r (genL (decL decI L.length (rowP encI L))).ver
                                    (decL dec2 (genL (decL decI L.length (rowP encI L))).L.length (rowP enc2 (genL (decL decI L.length (rowP encI L))).L)) (genL (decL decI L.length (rowP encI L))).st
                                    (genL (decL decI L.length (rowP encI L))).si (genL (decL decI L.length (rowP encI L))).le)
                                  tk).fst.L.length
                          (rowP enc2
                            (alAck
                                  (Al.mk (genL (decL decI L.length (rowP encI L))).r (genL (decL decI L.length (rowP encI L))).ver
                                    (decL dec2 (genL (decL decI L.length (rowP encI L))).L.length (rowP enc2 (genL (decL decI L.length (rowP encI L))).L)) (genL (decL decI L.length (rowP encI L))).st
                                    (genL (decL decI L.length (rowP encI L))).si (genL (decL decI L.length (rowP encI L))).le)
                                  tk).fst.L))
                        (alAck
                              (Al.mk (genL (decL decI L.length (rowP encI L))).r (genL (decL decI L.length (rowP encI L))).ver
                                (decL dec2 (genL (decL decI L.length (rowP encI L))).L.length (rowP enc2 (genL (decL decI L.length (rowP encI L))).L)) (genL (decL decI L.length (rowP encI L))).st
                                (genL (decL decI L.length (rowP encI L))).si (genL (decL decI L.length (rowP encI L))).le)
                              tk).fst.st
                        (alAck
                              (Al.mk (genL (decL decI L.length (rowP encI L))).r (genL (decL decI L.length (rowP encI L))).ver
                                (decL dec2 (genL (decL decI L.length (rowP encI L))).L.length (rowP enc2 (genL (decL decI L.length (rowP encI L))).L)) (genL (decL decI L.length (rowP encI L))).st
                                (genL (decL decI L.length (rowP encI L))).si (genL (decL decI L.length (rowP encI L))).le)
                              tk).fst.si
                        (alAck
                              (Al.mk (genL (decL decI L.length (rowP encI L))).r (genL (decL decI L.length (rowP encI L))).ver
                                (decL dec2 (genL (decL decI L.length (rowP encI L))).L.length (rowP enc2 (genL (decL decI L.length (rowP encI L))).L)) (genL (decL decI L.length (rowP encI L))).st
                                (genL (decL decI L.length (rowP encI L))).si (genL (decL decI L.length (rowP encI L))).le)
                              tk).fst.le)
                      (Al.mk
                        (alAck
                              (Al.mk (genL (decL decI L.length (rowP encI L))).r (genL (decL decI L.length (rowP encI L))).ver
                                (decL dec2 (genL (decL decI L.length (rowP encI L))).L.length (rowP enc2 (genL (decL decI L.length (rowP encI L))).L)) (genL (decL decI L.length (rowP encI L))).st
                                (genL (decL decI L.length (rowP encI L))).si (genL (decL decI L.length (rowP encI L))).le)
                              tk).fst.r
                        (alAck
                              (Al.mk (genL (decL decI L.length (rowP encI L))).r (genL (decL decI L.length (rowP encI L))).ver
                                (decL dec2 (genL (decL decI L.length (rowP encI L))).L.length (rowP enc2 (genL (decL decI L.length (rowP encI L))).L)) (genL (decL decI L.length (rowP encI L))).st
                                (genL (decL decI L.length (rowP encI L))).si (genL (decL decI L.length (rowP encI L))).le)
                              tk).fst.ver
                        (decL dec2
                          (alAck
                                  (Al.mk (genL (decL decI L.length (rowP encI L))).r (genL (decL decI L.length (rowP encI L))).ver
                                    (decL dec2 (genL (decL decI L.length (rowP encI L))).L.length (rowP enc2 (genL (decL decI L.length (rowP encI L))).L)) (genL (decL decI L.length (rowP encI L))).st
                                    (genL (decL decI L.length (rowP encI L))).si (genL (decL decI L.length (rowP encI L))).le)
                                  tk).fst.L.length
                          (rowP enc2
                            (alAck
                                  (Al.mk (genL (decL decI L.length (rowP encI L))).r (genL (decL decI L.length (rowP encI L))).ver
                                    (decL dec2 (genL (decL decI L.length (rowP encI L))).L.length (rowP enc2 (genL (decL decI L.length (rowP encI L))).L)) (genL (decL decI L.length (rowP encI L))).st
                                    (genL (decL decI L.length (rowP encI L))).si (genL (decL decI L.length (rowP encI L))).le)
                                  tk).fst.L))
                        (alAck
                              (Al.mk (genL (decL decI L.length (rowP encI L))).r (genL (decL decI L.length (rowP encI L))).ver
                                (decL dec2 (genL (decL decI L.length (rowP encI L))).L.length (rowP enc2 (genL (decL decI L.length (rowP encI L))).L)) (genL (decL decI L.length (rowP encI L))).st
                                (genL (decL decI L.length (rowP encI L))).si (genL (decL decI L.length (rowP encI L))).le)
                              tk).fst.st
                        (alAck
                              (Al.mk (genL (decL decI L.length (rowP encI L))).r (genL (decL decI L.length (rowP encI L))).ver
                                (decL dec2 (genL (decL decI L.length (rowP encI L))).L.length (rowP enc2 (genL (decL decI L.length (rowP encI L))).L)) (genL (decL decI L.length (rowP encI L))).st
                                (genL (decL decI L.length (rowP encI L))).si (genL (decL decI L.length (rowP encI L))).le)
                              tk).fst.si
                        (alAck
                              (Al.mk (genL (decL decI L.length (rowP encI L))).r (genL (decL decI L.length (rowP encI L))).ver
                                (decL dec2 (genL (decL decI L.length (rowP encI L))).L.length (rowP enc2 (genL (decL decI L.length (rowP encI L))).L)) (genL (decL decI L.length (rowP encI L))).st
                                (genL (decL decI L.length (rowP encI L))).si (genL (decL decI L.length (rowP encI L))).le)
                              tk).fst.le))
                  (Tr.done X.ret (St.mk [V.c (C.p (PV.b false))] []))
                  (Tr.rq (inR IntKind.i64 ((↑i : Int) + 1))
                    (Tr.done X.normal
                      (cst 50 [(0, V.c (C.p (PV.l 1 L.length (rowP encI L)))), (1, V.c (C.p (PV.i IntKind.i64 at_))), (2, V.c (C.p (PV.i IntKind.i64 n))), (3, V.c (C.p (PV.i IntKind.i64 tk))), (9, V.c (C.p (PV.i IntKind.i64 ((↑i : Int) + 1))))] []))))))))))
    (Tr.done (X.exit 0)
      (cst 50 [(0, V.c (C.p (PV.l 1 L.length (rowP encI L)))), (1, V.c (C.p (PV.i IntKind.i64 at_))), (2, V.c (C.p (PV.i IntKind.i64 n))), (3, V.c (C.p (PV.i IntKind.i64 tk))), (9, V.c (C.p (PV.i IntKind.i64 (↑i : Int))))] [])) := by kernel_rfl
theorem tLK3 (L : List Int) (at_ n tk : Int) (i : Nat) : exTs extLaw (dropL 3 (pcs Tryd.prog Tryd.f9)) (cst 50 [(0, listV encI 1 L), (1, iV at_), (2, iV n), (3, iV tk), (9, iV (i : Nat))] []) (endG [] (resOf Tryd.prog Tryd.f9)) = Tr.rq True (Tr.done X.ret (St.mk [V.c (C.p (PV.b true))] [])) := by kernel_rfl
theorem al_eta (a : Al) : Al.mk a.r a.ver a.L a.st a.si a.le = a := rfl
theorem alEq_refl (a : Al) : alEq a a = true := by simp [alEq]
section
variable {G : Nat → Option Obj}
theorem extLaw_sound (hG : LevG G) : SoundExt Tryd.prog G extLaw := extOf_sound (by simp; exact ⟨okGen, okBent, okAValid hG, okRValid, okLives hG, okAAck hG, okRAck, okRSame, okAEsc hG, okREsc⟩)
set_option maxRecDepth 100000 in
theorem alertValid_fn (hG : LevG G) {L : List Int} (hI : Ints L) {at_ n : Int} (ha : inR .i64 at_) (hn : inR .i64 n) : FnS Tryd.prog G 3 [listV encI 1 L, iV at_, iV n] [] fun x h' => x = bV true ∧ h' = [] := by
  refine fn_S Tryd.func3 (by kernel_rfl) rfl ?_ []
  refine ExS.evH (extLaw_sound hG) (tLV L at_ n) ?_
  have iL := isL_row encI 1 L
  simp only [holds_bT, holds_rq, holds_leaf, kf_ret', decI_row, dec2_row, al_eta]
  refine ⟨⟨iL, hI⟩, ⟨isL_row _ _ _, ha, hn, iL, hI⟩, isL_row _ _ _, fun _ => ⟨isL_row _ _ _, isL_row _ _ _, ?_⟩, fun c => ?_⟩
  · simp only [beq_self_eq_true, Bool.true_eq_false, false_imp_iff, true_imp_iff, forall_const, and_true, reduceCtorEq]
    exact ⟨trivial, ⟨VLe.refl _⟩⟩
  · rw [gen_ok] at c; cases c
set_option maxRecDepth 100000 in
theorem alertAck_fn (hG : LevG G) {L : List Int} (hI : Ints L) {at_ n tk : Int} (ha : inR .i64 at_) (hn : inR .i64 n) : FnS Tryd.prog G 9 [listV encI 1 L, iV at_, iV n, iV tk] [] fun x h' => x = bV true ∧ h' = [] := by
  refine fn_S Tryd.func9 (by kernel_rfl) rfl ?_ []
  refine ExS.evG (extLaw_sound hG) 2 (tLK1 L at_ n tk) ?_
  simp only [holds_done, kf_normal]
  have iL := isL_row encI 1 L
  refine ExS.loop' (l := dropL 2 (pcs Tryd.prog Tryd.f9)) (b := inr (inr (nth .skip (pcs Tryd.prog Tryd.f9) 2))) (r := dropL 3 (pcs Tryd.prog Tryd.f9)) (id := 0) (by kernel_rfl) (σ := Nat)
    (fun i => cst 50 [(0, listV encI 1 L), (1, iV at_), (2, iV n), (3, iV tk), (9, iV (i : Nat))] []) (fun i => i ≤ 2) (fun i => 2 - i) 0 (by omega) (weak_of_eq (by kernel_rfl)) ?_
  intro i hi Q q1n q1e _
  refine ExS.evH (extLaw_sound hG) (tLK2 L at_ n tk i) ?_
  have l1 : (genL L).L.length ≤ 1000000 := Nat.le_trans (set_len L) (by omega)
  have l2 : (bentA (genL L) at_ n L).L.length ≤ 1000000 := Nat.le_trans (bent_len at_ n L) (by omega)
  have lA : ∀ a : Al, a.L.length ≤ 1000000 → (alAck a tk).1.L.length ≤ 1000000 := by
    intro a h
    unfold alAck
    split
    · exact Nat.zero_le _
    · split
      · exact h
      · exact Nat.zero_le _
  simp only [holds_bT, holds_rq, holds_leaf, kf_ret', kf_normal, kf_exit, decI_row, dec2_row, al_eta, alEq_refl, bne_self_eq_false, decide_eq_true_eq, decide_eq_false_iff_not, beq_iff_eq, beq_eq_false_iff_ne, Bool.not_true, Bool.not_false, Bool.false_eq_true, Bool.true_eq_false, reduceCtorEq, false_imp_iff, true_imp_iff, forall_const, and_true, true_and, inR]
  have iA := fun a : Al => isL_row enc2 2 a.L
  have done_ : i < 2 → Leaf (Q X.normal (cst 50 [(0, V.c (C.p (PV.l 1 L.length (rowP encI L)))), (1, V.c (C.p (PV.i IntKind.i64 at_))), (2, V.c (C.p (PV.i IntKind.i64 n))), (3, V.c (C.p (PV.i IntKind.i64 tk))), (9, V.c (C.p (PV.i IntKind.i64 (↑i + 1))))] [])) :=
    fun h => ⟨q1n (i + 1) _ (by omega) (by omega) (weak_of_eq (by kernel_rfl))⟩
  refine ⟨fun h2 => ⟨⟨iL, hI⟩, fun _ => ⟨⟨iA _, ha, hn, iL, hI⟩, ⟨iA _, l2⟩, iA _, ⟨⟨iA _, iA _⟩, lA _ l2⟩, by omega, done_ (by omega)⟩, fun _ => ⟨⟨iA _, l1⟩, iA _, ⟨⟨iA _, iA _⟩, lA _ l1⟩, by omega, done_ (by omega)⟩⟩, fun h2 => ⟨q1e _ ?_⟩⟩
  refine ExS.evH (extLaw_sound hG) (tLK3 L at_ n tk i) ?_
  simp only [holds_rq, holds_done, kf_ret']
  exact ⟨trivial, VLe.refl _⟩
/-! ### From the law's card to the walk -/
theorem ints_vr {w : World} {A : Option Addr} {len cap : Nat} {g : Nat → Int} (hR : Rd w w.heap.size A len fun k => .int .i64 (g k)) (h1 : len ≤ cap) (h2 : cap ≤ maxLen) : VR (fun _ => none) (fun b => b < w.heap.size) w (listV encI 1 ((List.range len).map g)) (.slice A len cap) := by
  refine ⟨A, cap, by simp, by simpa using h1, h2, fun hn => ?_⟩
  have hn : 0 < len := by simpa using hn
  obtain ⟨ad, e1, e2, e3⟩ := hR hn
  refine ⟨ad, e1, e2, fun e o he ho => ?_⟩
  have he : e < len := by simpa using he
  obtain rfl : o = 0 := by omega
  refine ⟨_, e3 (e * 1 + 0) (by omega), ?_⟩
  show Value.int .i64 (g (e * 1 + 0)) = Value.int .i64 (((List.range len).map g).getD e default)
  simp [he]
theorem ints_in {len : Nat} {g : Nat → Int} (hg : ∀ k, -9223372036854775808 ≤ g k ∧ g k ≤ 9223372036854775807) : Ints ((List.range len).map g) := by
  intro x hx
  obtain ⟨k, _, rfl⟩ := List.mem_map.1 hx
  exact hg k
/-- The block of the package's table. -/
def Gw (w : World) (b : Nat) : Option Obj := if b = 0 then w.heap[0]? else none
theorem gw_ok (w : World) : ∀ b o, Gw w b = some o → w.heap[b]? = some o := by
  intro b o h
  unfold Gw at h
  split at h
  · rename_i hb; rw [hb]; exact h
  · cases h
theorem levG_gw {w : World} (hL : Lev w) : LevG (Gw w) := by
  intro w' h k hk
  have hp := hL.pos
  have h0 : w.heap[0]? = some w.heap[0] := Array.getElem?_eq_getElem hp
  have h1 := h 0 w.heap[0] (by unfold Gw; rw [if_pos rfl]; exact h0)
  rw [← hL k hk]
  exact cell_same (by rw [h0]; exact h1)
theorem alertValid_walk (A : Option Addr) (len cap : Nat) (g : Nat → Int) (hg : ∀ k, -9223372036854775808 ≤ g k ∧ g k ≤ 9223372036854775807) (at_ n : Int) (ha : -9223372036854775808 ≤ at_ ∧ at_ ≤ 9223372036854775807) (hn : -9223372036854775808 ≤ n ∧ n ≤ 9223372036854775807)
    (w : World) (h1 : len ≤ cap) (h2 : cap ≤ maxLen) (hR : Rd w w.heap.size A len fun k => .int .i64 (g k)) (hL : Lev w) : Calls Tryd.prog 3 #[.slice A len cap, .int .i64 at_, .int .i64 n] w fun e w' => e = .returned (.bool true) ∧ Below w.heap.size w w' := by
  refine calls_of_fn ((alertValid_fn (levG_gw hL) (ints_in (len := len) hg) ha hn).mono fun _ _ h => h.1) ?_ (gw_ok w)
  exact ⟨ints_vr hR h1 h2, rfl, rfl, trivial⟩
theorem alertAck_walk (A : Option Addr) (len cap : Nat) (g : Nat → Int) (hg : ∀ k, -9223372036854775808 ≤ g k ∧ g k ≤ 9223372036854775807) (at_ n tk : Int) (ha : -9223372036854775808 ≤ at_ ∧ at_ ≤ 9223372036854775807) (hn : -9223372036854775808 ≤ n ∧ n ≤ 9223372036854775807)
    (w : World) (h1 : len ≤ cap) (h2 : cap ≤ maxLen) (hR : Rd w w.heap.size A len fun k => .int .i64 (g k)) (hL : Lev w) : Calls Tryd.prog 9 #[.slice A len cap, .int .i64 at_, .int .i64 n, .int .i64 tk] w fun e w' => e = .returned (.bool true) ∧ Below w.heap.size w w' := by
  refine calls_of_fn ((alertAck_fn (tk := tk) (levG_gw hL) (ints_in (len := len) hg) ha hn).mono fun _ _ h => h.1) ?_ (gw_ok w)
  exact ⟨ints_vr hR h1 h2, rfl, rfl, rfl, trivial⟩
end
end Go.AE
