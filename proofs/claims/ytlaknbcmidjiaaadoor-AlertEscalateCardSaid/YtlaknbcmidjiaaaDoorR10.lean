/- AE: the law AlertEscalate. -/
import Derived.Test.YtlaknbcmidjiaaaDoorR9
namespace Go.AE
open Go.Proofs Go.Proofs.YtlaknbcmidjiaaaDoor Go.RowKit

theorem tLE1 (L : List Int) (at_ n m0 m1 m2 : Int) : exTs extLaw (takeL 2 (pcs Tryd.prog Tryd.f5)) (st0 Tryd.f5 [listV encI 1 L, iV at_, iV n, .a [.p (.i .i64 m0), .p (.i .i64 m1), .p (.i .i64 m2)]]) (endG (msk 60 [0, 1, 2, 7, 9]) (resOf Tryd.prog Tryd.f5)) = Tr.done X.normal
    (cst 60 [(0, V.c (C.p (PV.l 1 L.length (rowP encI L)))), (1, V.c (C.p (PV.i IntKind.i64 at_))), (2, V.c (C.p (PV.i IntKind.i64 n))), (7, V.c (C.ptr 0 0)), (9, V.c (C.p (PV.i IntKind.i64 0)))] [AO.cells 37 [C.p (PV.i IntKind.i64 m0), C.p (PV.i IntKind.i64 m1), C.p (PV.i IntKind.i64 m2)]]) := by kernel_rfl
theorem tLE2 (L : List Int) (at_ n m0 m1 m2 : Int) (i : Nat) : exTs extLaw (lpB (pcs Tryd.prog Tryd.f5) 2) (cst 60 [(0, listV encI 1 L), (1, iV at_), (2, iV n), (7, .c (.ptr 0 0)), (9, iV (i : Nat))] [.cells 37 [.p (.i .i64 m0), .p (.i .i64 m1), .p (.i .i64 m2)]]) (endG (msk 60 [0, 1, 2, 7, 9]) (resOf Tryd.prog Tryd.f5)) = bT (decide ((↑i : Int) < 2))
    (Tr.rq (IsL encI 1 (decL decI L.length (rowP encI L)) L.length (rowP encI L) ∧ Ints (decL decI L.length (rowP encI L)))
      (bT ((↑i : Int) == 1)
        (Tr.rq
          (IsL enc2 2 (decL dec2 (genL (decL decI L.length (rowP encI L))).L.length (rowP enc2 (genL (decL decI L.length (rowP encI L))).L)) (genL (decL decI L.length (rowP encI L))).L.length
              (rowP enc2 (genL (decL decI L.length (rowP encI L))).L) ∧
            inR IntKind.i64 at_ ∧ inR IntKind.i64 n ∧ IsL encI 1 (decL decI L.length (rowP encI L)) L.length (rowP encI L) ∧ Ints (decL decI L.length (rowP encI L)))
          (Tr.rq
            (IsL enc2 2
                (decL dec2
                  (bentA
                        (Al.mk (genL (decL decI L.length (rowP encI L))).r (genL (decL decI L.length (rowP encI L))).ver
                          (decL dec2 (genL (decL decI L.length (rowP encI L))).L.length (rowP enc2 (genL (decL decI L.length (rowP encI L))).L)) (genL (decL decI L.length (rowP encI L))).st
                          (genL (decL decI L.length (rowP encI L))).si (genL (decL decI L.length (rowP encI L))).le)
                        at_ n (decL decI L.length (rowP encI L))).L.length
                  (rowP enc2
                    (bentA
                        (Al.mk (genL (decL decI L.length (rowP encI L))).r (genL (decL decI L.length (rowP encI L))).ver
                          (decL dec2 (genL (decL decI L.length (rowP encI L))).L.length (rowP enc2 (genL (decL decI L.length (rowP encI L))).L)) (genL (decL decI L.length (rowP encI L))).st
                          (genL (decL decI L.length (rowP encI L))).si (genL (decL decI L.length (rowP encI L))).le)
                        at_ n (decL decI L.length (rowP encI L))).L))
                (bentA
                      (Al.mk (genL (decL decI L.length (rowP encI L))).r (genL (decL decI L.length (rowP encI L))).ver
                        (decL dec2 (genL (decL decI L.length (rowP encI L))).L.length (rowP enc2 (genL (decL decI L.length (rowP encI L))).L)) (genL (decL decI L.length (rowP encI L))).st
                        (genL (decL decI L.length (rowP encI L))).si (genL (decL decI L.length (rowP encI L))).le)
                      at_ n (decL decI L.length (rowP encI L))).L.length
                (rowP enc2
                  (bentA
                      (Al.mk (genL (decL decI L.length (rowP encI L))).r (genL (decL decI L.length (rowP encI L))).ver
                        (decL dec2 (genL (decL decI L.length (rowP encI L))).L.length (rowP enc2 (genL (decL decI L.length (rowP encI L))).L)) (genL (decL decI L.length (rowP encI L))).st
                        (genL (decL decI L.length (rowP encI L))).si (genL (decL decI L.length (rowP encI L))).le)
                      at_ n (decL decI L.length (rowP encI L))).L) ∧
              (Al.mk
                        (bentA
                            (Al.mk (genL (decL decI L.length (rowP encI L))).r (genL (decL decI L.length (rowP encI L))).ver
                              (decL dec2 (genL (decL decI L.length (rowP encI L))).L.length (rowP enc2 (genL (decL decI L.length (rowP encI L))).L)) (genL (decL decI L.length (rowP encI L))).st
                              (genL (decL decI L.length (rowP encI L))).si (genL (decL decI L.length (rowP encI L))).le)
                            at_ n (decL decI L.length (rowP encI L))).r
                        (bentA
                            (Al.mk (genL (decL decI L.length (rowP encI L))).r (genL (decL decI L.length (rowP encI L))).ver
                              (decL dec2 (genL (decL decI L.length (rowP encI L))).L.length (rowP enc2 (genL (decL decI L.length (rowP encI L))).L)) (genL (decL decI L.length (rowP encI L))).st
                              (genL (decL decI L.length (rowP encI L))).si (genL (decL decI L.length (rowP encI L))).le)
                            at_ n (decL decI L.length (rowP encI L))).ver
                        (decL dec2
                          (bentA
                                (Al.mk (genL (decL decI L.length (rowP encI L))).r (genL (decL decI L.length (rowP encI L))).ver
                                  (decL dec2 (genL (decL decI L.length (rowP encI L))).L.length (rowP enc2 (genL (decL decI L.length (rowP encI L))).L)) (genL (decL decI L.length (rowP encI L))).st
                                  (genL (decL decI L.length (rowP encI L))).si (genL (decL decI L.length (rowP encI L))).le)
                                at_ n (decL decI L.length (rowP encI L))).L.length
                          (rowP enc2
                            (bentA
                                (Al.mk (genL (decL decI L.length (rowP encI L))).r (genL (decL decI L.length (rowP encI L))).ver
                                  (decL dec2 (genL (decL decI L.length (rowP encI L))).L.length (rowP enc2 (genL (decL decI L.length (rowP encI L))).L)) (genL (decL decI L.length (rowP encI L))).st
                                  (genL (decL decI L.length (rowP encI L))).si (genL (decL decI L.length (rowP encI L))).le)
                                at_ n (decL decI L.length (rowP encI L))).L))
                        (bentA
                            (Al.mk (genL (decL decI L.length (rowP encI L))).r (genL (decL decI L.length (rowP encI L))).ver
                              (decL dec2 (genL (decL decI L.length (rowP encI L))).L.length (rowP enc2 (genL (decL decI L.length (rowP encI L))).L)) (genL (decL decI L.length (rowP encI L))).st
                              (genL (decL decI L.length (rowP encI L))).si (genL (decL decI L.length (rowP encI L))).le)
                            at_ n (decL decI L.length (rowP encI L))).st
                        (bentA
                            (Al.mk (genL (decL decI L.length (rowP encI L))).r (genL (decL decI L.length (rowP encI L))).ver
                              (decL dec2 (genL (decL decI L.length (rowP encI L))).L.length (rowP enc2 (genL (decL decI L.length (rowP encI L))).L)) (genL (decL decI L.length (rowP encI L))).st
                              (genL (decL decI L.length (rowP encI L))).si (genL (decL decI L.length (rowP encI L))).le)
                            at_ n (decL decI L.length (rowP encI L))).si
                        (bentA
                            (Al.mk (genL (decL decI L.length (rowP encI L))).r (genL (decL decI L.length (rowP encI L))).ver
                              (decL dec2 (genL (decL decI L.length (rowP encI L))).L.length (rowP enc2 (genL (decL decI L.length (rowP encI L))).L)) (genL (decL decI L.length (rowP encI L))).st
                              (genL (decL decI L.length (rowP encI L))).si (genL (decL decI L.length (rowP encI L))).le)
                            at_ n (decL decI L.length (rowP encI L))).le).L.length ≤
                  1000000 ∧
                inR IntKind.i64
                    (Al.mk
                        (bentA
                            (Al.mk (genL (decL decI L.length (rowP encI L))).r (genL (decL decI L.length (rowP encI L))).ver
                              (decL dec2 (genL (decL decI L.length (rowP encI L))).L.length (rowP enc2 (genL (decL decI L.length (rowP encI L))).L)) (genL (decL decI L.length (rowP encI L))).st
                              (genL (decL decI L.length (rowP encI L))).si (genL (decL decI L.length (rowP encI L))).le)
                            at_ n (decL decI L.length (rowP encI L))).r
                        (bentA
                            (Al.mk (genL (decL decI L.length (rowP encI L))).r (genL (decL decI L.length (rowP encI L))).ver
                              (decL dec2 (genL (decL decI L.length (rowP encI L))).L.length (rowP enc2 (genL (decL decI L.length (rowP encI L))).L)) (genL (decL decI L.length (rowP encI L))).st
                              (genL (decL decI L.length (rowP encI L))).si (genL (decL decI L.length (rowP encI L))).le)
                            at_ n (decL decI L.length (rowP encI L))).ver
                        (decL dec2
                          (bentA
                                (Al.mk (genL (decL decI L.length (rowP encI L))).r (genL (decL decI L.length (rowP encI L))).ver
                                  (decL dec2 (genL (decL decI L.length (rowP encI L))).L.length (rowP enc2 (genL (decL decI L.length (rowP encI L))).L)) (genL (decL decI L.length (rowP encI L))).st
                                  (genL (decL decI L.length (rowP encI L))).si (genL (decL decI L.length (rowP encI L))).le)
                                at_ n (decL decI L.length (rowP encI L))).L.length
                          (rowP enc2
                            (bentA
                                (Al.mk (genL (decL decI L.length (rowP encI L))).r (genL (decL decI L.length (rowP encI L))).ver
                                  (decL dec2 (genL (decL decI L.length (rowP encI L))).L.length (rowP enc2 (genL (decL decI L.length (rowP encI L))).L)) (genL (decL decI L.length (rowP encI L))).st
                                  (genL (decL decI L.length (rowP encI L))).si (genL (decL decI L.length (rowP encI L))).le)
                                at_ n (decL decI L.length (rowP encI L))).L))
                        (bentA
                            (Al.mk (genL (decL decI L.length (rowP encI L))).r (genL (decL decI L.length (rowP encI L))).ver
                              (decL dec2 (genL (decL decI L.length (rowP encI L))).L.length (rowP enc2 (genL (decL decI L.length (rowP encI L))).L)) (genL (decL decI L.length (rowP encI L))).st
                              (genL (decL decI L.length (rowP encI L))).si (genL (decL decI L.length (rowP encI L))).le)
                            at_ n (decL decI L.length (rowP encI L))).st
                        (bentA
                            (Al.mk (genL (decL decI L.length (rowP encI L))).r (genL (decL decI L.length (rowP encI L))).ver
                              (decL dec2 (genL (decL decI L.length (rowP encI L))).L.length (rowP enc2 (genL (decL decI L.length (rowP encI L))).L)) (genL (decL decI L.length (rowP encI L))).st
                              (genL (decL decI L.length (rowP encI L))).si (genL (decL decI L.length (rowP encI L))).le)
                            at_ n (decL decI L.length (rowP encI L))).si
                        (bentA
                            (Al.mk (genL (decL decI L.length (rowP encI L))).r (genL (decL decI L.length (rowP encI L))).ver
                              (decL dec2 (genL (decL decI L.length (rowP encI L))).L.length (rowP enc2 (genL (decL decI L.length (rowP encI L))).L)) (genL (decL decI L.length (rowP encI L))).st
                              (genL (decL decI L.length (rowP encI L))).si (genL (decL decI L.length (rowP encI L))).le)
                            at_ n (decL decI L.length (rowP encI L))).le).si ∧
                  inR IntKind.i64
                    (Al.mk
                        (bentA
                            (Al.mk (genL (decL decI L.length (rowP encI L))).r (genL (decL decI L.length (rowP encI L))).ver
                              (decL dec2 (genL (decL decI L.length (rowP encI L))).L.length (rowP enc2 (genL (decL decI L.length (rowP encI L))).L)) (genL (decL decI L.length (rowP encI L))).st
                              (genL (decL decI L.length (rowP encI L))).si (genL (decL decI L.length (rowP encI L))).le)
                            at_ n (decL decI L.length (rowP encI L))).r
                        (bentA
                            (Al.mk (genL (decL decI L.length (rowP encI L))).r (genL (decL decI L.length (rowP encI L))).ver
                              (decL dec2 (genL (decL decI L.length (rowP encI L))).L.length (rowP enc2 (genL (decL decI L.length (rowP encI L))).L)) (genL (decL decI L.length (rowP encI L))).st
                              (genL (decL decI L.length (rowP encI L))).si (genL (decL decI L.length (rowP encI L))).le)
                            at_ n (decL decI L.length (rowP encI L))).ver
                        (decL dec2
                          (bentA
                                (Al.mk (genL (decL decI L.length (rowP encI L))).r (genL (decL decI L.length (rowP encI L))).ver
                                  (decL dec2 (genL (decL decI L.length (rowP encI L))).L.length (rowP enc2 (genL (decL decI L.length (rowP encI L))).L)) (genL (decL decI L.length (rowP encI L))).st
                                  (genL (decL decI L.length (rowP encI L))).si (genL (decL decI L.length (rowP encI L))).le)
                                at_ n (decL decI L.length (rowP encI L))).L.length
                          (rowP enc2
                            (bentA
                                (Al.mk (genL (decL decI L.length (rowP encI L))).r (genL (decL decI L.length (rowP encI L))).ver
                                  (decL dec2 (genL (decL decI L.length (rowP encI L))).L.length (rowP enc2 (genL (decL decI L.length (rowP encI L))).L)) (genL (decL decI L.length (rowP encI L))).st
                                  (genL (decL decI L.length (rowP encI L))).si (genL (decL decI L.length (rowP encI L))).le)
                                at_ n (decL decI L.length (rowP encI L))).L))
                        (bentA
                            (Al.mk (genL (decL decI L.length (rowP encI L))).r (genL (decL decI L.length (rowP encI L))).ver
                              (decL dec2 (genL (decL decI L.length (rowP encI L))).L.length (rowP enc2 (genL (decL decI L.length (rowP encI L))).L)) (genL (decL decI L.length (rowP encI L))).st
                              (genL (decL decI L.length (rowP encI L))).si (genL (decL decI L.length (rowP encI L))).le)
                            at_ n (decL decI L.length (rowP encI L))).st
                        (bentA
                            (Al.mk (genL (decL decI L.length (rowP encI L))).r (genL (decL decI L.length (rowP encI L))).ver
                              (decL dec2 (genL (decL decI L.length (rowP encI L))).L.length (rowP enc2 (genL (decL decI L.length (rowP encI L))).L)) (genL (decL decI L.length (rowP encI L))).st
                              (genL (decL decI L.length (rowP encI L))).si (genL (decL decI L.length (rowP encI L))).le)
                            at_ n (decL decI L.length (rowP encI L))).si
                        (bentA
                            (Al.mk (genL (decL decI L.length (rowP encI L))).r (genL (decL decI L.length (rowP encI L))).ver
                              (decL dec2 (genL (decL decI L.length (rowP encI L))).L.length (rowP enc2 (genL (decL decI L.length (rowP encI L))).L)) (genL (decL decI L.length (rowP encI L))).st
                              (genL (decL decI L.length (rowP encI L))).si (genL (decL decI L.length (rowP encI L))).le)
                            at_ n (decL decI L.length (rowP encI L))).le).le)
            (Tr.rq
              (IsL enc2 2
                  (decL dec2
                    (bentA
                          (Al.mk (genL (decL decI L.length (rowP encI L))).r (genL (decL decI L.length (rowP encI L))).ver
                            (decL dec2 (genL (decL decI L.length (rowP encI L))).L.length (rowP enc2 (genL (decL decI L.length (rowP encI L))).L)) (genL (decL decI L.length (rowP encI L))).st
                            (genL (decL decI L.length (rowP encI L))).si (genL (decL decI L.length (rowP encI L))).le)
                          at_ n (decL decI L.length (rowP encI L))).L.length
                    (rowP enc2
                      (bentA
                          (Al.mk (genL (decL decI L.length (rowP encI L))).r (genL (decL decI L.length (rowP encI L))).ver
                            (decL dec2 (genL (decL decI L.length (rowP encI L))).L.length (rowP enc2 (genL (decL decI L.length (rowP encI L))).L)) (genL (decL decI L.length (rowP encI L))).st
                            (genL (decL decI L.length (rowP encI L))).si (genL (decL decI L.length (rowP encI L))).le)
                          at_ n (decL decI L.length (rowP encI L))).L))
                  (bentA
                        (Al.mk (genL (decL decI L.length (rowP encI L))).r (genL (decL decI L.length (rowP encI L))).ver
                          (decL dec2 (genL (decL decI L.length (rowP encI L))).L.length (rowP enc2 (genL (decL decI L.length (rowP encI L))).L)) (genL (decL decI L.length (rowP encI L))).st
                          (genL (decL decI L.length (rowP encI L))).si (genL (decL decI L.length (rowP encI L))).le)
                        at_ n (decL decI L.length (rowP encI L))).L.length
                  (rowP enc2
                    (bentA
                        (Al.mk (genL (decL decI L.length (rowP encI L))).r (genL (decL decI L.length (rowP encI L))).ver
                          (decL dec2 (genL (decL decI L.length (rowP encI L))).L.length (rowP enc2 (genL (decL decI L.length (rowP encI L))).L)) (genL (decL decI L.length (rowP encI L))).st
                          (genL (decL decI L.length (rowP encI L))).si (genL (decL decI L.length (rowP encI L))).le)
                        at_ n (decL decI L.length (rowP encI L))).L) ∧
                inR IntKind.i64 m0 ∧
                  inR IntKind.i64 m1 ∧
                    inR IntKind.i64 m2 ∧
                      inR IntKind.i64
                          (Al.mk
                              (bentA
                                  (Al.mk (genL (decL decI L.length (rowP encI L))).r (genL (decL decI L.length (rowP encI L))).ver
                                    (decL dec2 (genL (decL decI L.length (rowP encI L))).L.length (rowP enc2 (genL (decL decI L.length (rowP encI L))).L)) (genL (decL decI L.length (rowP encI L))).st
                                    (genL (decL decI L.length (rowP encI L))).si (genL (decL decI L.length (rowP encI L))).le)
                                  at_ n (decL decI L.length (rowP encI L))).r
                              (bentA
                                  (Al.mk (genL (decL decI L.length (rowP encI L))).r (genL (decL decI L.length (rowP encI L))).ver
                                    (decL dec2 (genL (decL decI L.length (rowP encI L))).L.length (rowP enc2 (genL (decL decI L.length (rowP encI L))).L)) (genL (decL decI L.length (rowP encI L))).st
                                    (genL (decL decI L.length (rowP encI L))).si (genL (decL decI L.length (rowP encI L))).le)
                                  at_ n (decL decI L.length (rowP encI L))).ver
                              (decL dec2
                                (bentA
                                      (Al.mk (genL (decL decI L.length (rowP encI L))).r (genL (decL decI L.length (rowP encI L))).ver
                                        (decL dec2 (genL (decL decI L.length (rowP encI L))).L.length (rowP enc2 (genL (decL decI L.length (rowP encI L))).L))
                                        (genL (decL decI L.length (rowP encI L))).st (genL (decL decI L.length (rowP encI L))).si (genL (decL decI L.length (rowP encI L))).le)
                                      at_ n (decL decI L.length (rowP encI L))).L.length
                                (rowP enc2
                                  (bentA
                                      (Al.mk (genL (decL decI L.length (rowP encI L))).r (genL (decL decI L.length (rowP encI L))).ver
                                        (decL dec2 (genL (decL decI L.length (rowP encI L))).L.length (rowP enc2 (genL (decL decI L.length (rowP encI L))).L))
                                        (genL (decL decI L.length (rowP encI L))).st (genL (decL decI L.length (rowP encI L))).si (genL (decL decI L.length (rowP encI L))).le)
                                      at_ n (decL decI L.length (rowP encI L))).L))
                              (bentA
                                  (Al.mk (genL (decL decI L.length (rowP encI L))).r (genL (decL decI L.length (rowP encI L))).ver
                                    (decL dec2 (genL (decL decI L.length (rowP encI L))).L.length (rowP enc2 (genL (decL decI L.length (rowP encI L))).L)) (genL (decL decI L.length (rowP encI L))).st
                                    (genL (decL decI L.length (rowP encI L))).si (genL (decL decI L.length (rowP encI L))).le)
                                  at_ n (decL decI L.length (rowP encI L))).st
                              (bentA
                                  (Al.mk (genL (decL decI L.length (rowP encI L))).r (genL (decL decI L.length (rowP encI L))).ver
                                    (decL dec2 (genL (decL decI L.length (rowP encI L))).L.length (rowP enc2 (genL (decL decI L.length (rowP encI L))).L)) (genL (decL decI L.length (rowP encI L))).st
                                    (genL (decL decI L.length (rowP encI L))).si (genL (decL decI L.length (rowP encI L))).le)
                                  at_ n (decL decI L.length (rowP encI L))).si
                              (bentA
                                  (Al.mk (genL (decL decI L.length (rowP encI L))).r (genL (decL decI L.length (rowP encI L))).ver
                                    (decL dec2 (genL (decL decI L.length (rowP encI L))).L.length (rowP enc2 (genL (decL decI L.length (rowP encI L))).L)) (genL (decL decI L.length (rowP encI L))).st
                                    (genL (decL decI L.length (rowP encI L))).si (genL (decL decI L.length (rowP encI L))).le)
                                  at_ n (decL decI L.length (rowP encI L))).le).si ∧
                        inR IntKind.i64
                          (Al.mk
                              (bentA
                                  (Al.mk (genL (decL decI L.length (rowP encI L))).r (genL (decL decI L.length (rowP encI L))).ver
                                    (decL dec2 (genL (decL decI L.length (rowP encI L))).L.length (rowP enc2 (genL (decL decI L.length (rowP encI L))).L)) (genL (decL decI L.length (rowP encI L))).st
                                    (genL (decL decI L.length (rowP encI L))).si (genL (decL decI L.length (rowP encI L))).le)
                                  at_ n (decL decI L.length (rowP encI L))).r
                              (bentA
                                  (Al.mk (genL (decL decI L.length (rowP encI L))).r (genL (decL decI L.length (rowP encI L))).ver
                                    (decL dec2 (genL (decL decI L.length (rowP encI L))).L.length (rowP enc2 (genL (decL decI L.length (rowP encI L))).L)) (genL (decL decI L.length (rowP encI L))).st
                                    (genL (decL decI L.length (rowP encI L))).si (genL (decL decI L.length (rowP encI L))).le)
                                  at_ n (decL decI L.length (rowP encI L))).ver
                              (decL dec2
                                (bentA
                                      (Al.mk (genL (decL decI L.length (rowP encI L))).r (genL (decL decI L.length (rowP encI L))).ver
                                        (decL dec2 (genL (decL decI L.length (rowP encI L))).L.length (rowP enc2 (genL (decL decI L.length (rowP encI L))).L))
                                        (genL (decL decI L.length (rowP encI L))).st (genL (decL decI L.length (rowP encI L))).si (genL (decL decI L.length (rowP encI L))).le)
                                      at_ n (decL decI L.length (rowP encI L))).L.length
                                (rowP enc2
                                  (bentA
                                      (Al.mk (genL (decL decI L.length (rowP encI L))).r (genL (decL decI L.length (rowP encI L))).ver
                                        (decL dec2 (genL (decL decI L.length (rowP encI L))).L.length (rowP enc2 (genL (decL decI L.length (rowP encI L))).L))
                                        (genL (decL decI L.length (rowP encI L))).st (genL (decL decI L.length (rowP encI L))).si (genL (decL decI L.length (rowP encI L))).le)
                                      at_ n (decL decI L.length (rowP encI L))).L))
                              (bentA
                                  (Al.mk (genL (decL decI L.length (rowP encI L))).r (genL (decL decI L.length (rowP encI L))).ver
                                    (decL dec2 (genL (decL decI L.length (rowP encI L))).L.length (rowP enc2 (genL (decL decI L.length (rowP encI L))).L)) (genL (decL decI L.length (rowP encI L))).st
                                    (genL (decL decI L.length (rowP encI L))).si (genL (decL decI L.length (rowP encI L))).le)
                                  at_ n (decL decI L.length (rowP encI L))).st
                              (bentA
                                  (Al.mk (genL (decL decI L.length (rowP encI L))).r (genL (decL decI L.length (rowP encI L))).ver
                                    (decL dec2 (genL (decL decI L.length (rowP encI L))).L.length (rowP enc2 (genL (decL decI L.length (rowP encI L))).L)) (genL (decL decI L.length (rowP encI L))).st
                                    (genL (decL decI L.length (rowP encI L))).si (genL (decL decI L.length (rowP encI L))).le)
                                  at_ n (decL decI L.length (rowP encI L))).si
                              (bentA
                                  (Al.mk (genL (decL decI L.length (rowP encI L))).r (genL (decL decI L.length (rowP encI L))).ver
                                    (decL dec2 (genL (decL decI L.length (rowP encI L))).L.length (rowP enc2 (genL (decL decI L.length (rowP encI L))).L)) (genL (decL decI L.length (rowP encI L))).st
                                    (genL (decL decI L.length (rowP encI L))).si (genL (decL decI L.length (rowP encI L))).le)
                                  at_ n (decL decI L.length (rowP encI L))).le).le)
              (bT
                (!(alEsc
                        (Al.mk
                          (bentA
                              (Al.mk (genL (decL decI L.length (rowP encI L))).r (genL (decL decI L.length (rowP encI L))).ver
                                (decL dec2 (genL (decL decI L.length (rowP encI L))).L.length (rowP enc2 (genL (decL decI L.length (rowP encI L))).L)) (genL (decL decI L.length (rowP encI L))).st
                                (genL (decL decI L.length (rowP encI L))).si (genL (decL decI L.length (rowP encI L))).le)
                              at_ n (decL decI L.length (rowP encI L))).r
                          (bentA
                              (Al.mk (genL (decL decI L.length (rowP encI L))).r (genL (decL decI L.length (rowP encI L))).ver
                                (decL dec2 (genL (decL decI L.length (rowP encI L))).L.length (rowP enc2 (genL (decL decI L.length (rowP encI L))).L)) (genL (decL decI L.length (rowP encI L))).st
                                (genL (decL decI L.length (rowP encI L))).si (genL (decL decI L.length (rowP encI L))).le)
                              at_ n (decL decI L.length (rowP encI L))).ver
                          (decL dec2
                            (bentA
                                  (Al.mk (genL (decL decI L.length (rowP encI L))).r (genL (decL decI L.length (rowP encI L))).ver
                                    (decL dec2 (genL (decL decI L.length (rowP encI L))).L.length (rowP enc2 (genL (decL decI L.length (rowP encI L))).L)) (genL (decL decI L.length (rowP encI L))).st
                                    (genL (decL decI L.length (rowP encI L))).si (genL (decL decI L.length (rowP encI L))).le)
                                  at_ n (decL decI L.length (rowP encI L))).L.length
                            (rowP enc2
                              (bentA
                                  (Al.mk (genL (decL decI L.length (rowP encI L))).r (genL (decL decI L.length (rowP encI L))).ver
                                    (decL dec2 (genL (decL decI L.length (rowP encI L))).L.length (rowP enc2 (genL (decL decI L.length (rowP encI L))).L)) (genL (decL decI L.length (rowP encI L))).st
                                    (genL (decL decI L.length (rowP encI L))).si (genL (decL decI L.length (rowP encI L))).le)
                                  at_ n (decL decI L.length (rowP encI L))).L))
                          (bentA
                              (Al.mk (genL (decL decI L.length (rowP encI L))).r (genL (decL decI L.length (rowP encI L))).ver
                                (decL dec2 (genL (decL decI L.length (rowP encI L))).L.length (rowP enc2 (genL (decL decI L.length (rowP encI L))).L)) (genL (decL decI L.length (rowP encI L))).st
                                (genL (decL decI L.length (rowP encI L))).si (genL (decL decI L.length (rowP encI L))).le)
                              at_ n (decL decI L.length (rowP encI L))).st
                          (bentA
                              (Al.mk (genL (decL decI L.length (rowP encI L))).r (genL (decL decI L.length (rowP encI L))).ver
                                (decL dec2 (genL (decL decI L.length (rowP encI L))).L.length (rowP enc2 (genL (decL decI L.length (rowP encI L))).L)) (genL (decL decI L.length (rowP encI L))).st
                                (genL (decL decI L.length (rowP encI L))).si (genL (decL decI L.length (rowP encI L))).le)
                              at_ n (decL decI L.length (rowP encI L))).si
                          (bentA
                              (Al.mk (genL (decL decI L.length (rowP encI L))).r (genL (decL decI L.length (rowP encI L))).ver
                                (decL dec2 (genL (decL decI L.length (rowP encI L))).L.length (rowP enc2 (genL (decL decI L.length (rowP encI L))).L)) (genL (decL decI L.length (rowP encI L))).st
                                (genL (decL decI L.length (rowP encI L))).si (genL (decL decI L.length (rowP encI L))).le)
                              at_ n (decL decI L.length (rowP encI L))).le)
                        m0 m1 m2).snd ==
                    (alEsc
                        (Al.mk
                          (bentA
                              (Al.mk (genL (decL decI L.length (rowP encI L))).r (genL (decL decI L.length (rowP encI L))).ver
                                (decL dec2 (genL (decL decI L.length (rowP encI L))).L.length (rowP enc2 (genL (decL decI L.length (rowP encI L))).L)) (genL (decL decI L.length (rowP encI L))).st
                                (genL (decL decI L.length (rowP encI L))).si (genL (decL decI L.length (rowP encI L))).le)
                              at_ n (decL decI L.length (rowP encI L))).r
                          (bentA
                              (Al.mk (genL (decL decI L.length (rowP encI L))).r (genL (decL decI L.length (rowP encI L))).ver
                                (decL dec2 (genL (decL decI L.length (rowP encI L))).L.length (rowP enc2 (genL (decL decI L.length (rowP encI L))).L)) (genL (decL decI L.length (rowP encI L))).st
                                (genL (decL decI L.length (rowP encI L))).si (genL (decL decI L.length (rowP encI L))).le)
                              at_ n (decL decI L.length (rowP encI L))).ver
                          (decL dec2
                            (bentA
                                  (Al.mk (genL (decL decI L.length (rowP encI L))).r (genL (decL decI L.length (rowP encI L))).ver
                                    (decL dec2 (genL (decL decI L.length (rowP encI L))).L.length (rowP enc2 (genL (decL decI L.length (rowP encI L))).L)) (genL (decL decI L.length (rowP encI L))).st
                                    (genL (decL decI L.length (rowP encI L))).si (genL (decL decI L.length (rowP encI L))).le)
                                  at_ n (decL decI L.length (rowP encI L))).L.length
                            (rowP enc2
                              (bentA
                                  (Al.mk (genL (decL decI L.length (rowP encI L))).r (genL (decL decI L.length (rowP encI L))).ver
                                    (decL dec2 (genL (decL decI L.length (rowP encI L))).L.length (rowP enc2 (genL (decL decI L.length (rowP encI L))).L)) (genL (decL decI L.length (rowP encI L))).st
                                    (genL (decL decI L.length (rowP encI L))).si (genL (decL decI L.length (rowP encI L))).le)
                                  at_ n (decL decI L.length (rowP encI L))).L))
                          (bentA
                              (Al.mk (genL (decL decI L.length (rowP encI L))).r (genL (decL decI L.length (rowP encI L))).ver
                                (decL dec2 (genL (decL decI L.length (rowP encI L))).L.length (rowP enc2 (genL (decL decI L.length (rowP encI L))).L)) (genL (decL decI L.length (rowP encI L))).st
                                (genL (decL decI L.length (rowP encI L))).si (genL (decL decI L.length (rowP encI L))).le)
                              at_ n (decL decI L.length (rowP encI L))).st
                          (bentA
                              (Al.mk (genL (decL decI L.length (rowP encI L))).r (genL (decL decI L.length (rowP encI L))).ver
                                (decL dec2 (genL (decL decI L.length (rowP encI L))).L.length (rowP enc2 (genL (decL decI L.length (rowP encI L))).L)) (genL (decL decI L.length (rowP encI L))).st
                                (genL (decL decI L.length (rowP encI L))).si (genL (decL decI L.length (rowP encI L))).le)
                              at_ n (decL decI L.length (rowP encI L))).si
                          (bentA
                              (Al.mk (genL (decL decI L.length (rowP encI L))).r (genL (decL decI L.length (rowP encI L))).ver
                                (decL dec2 (genL (decL decI L.length (rowP encI L))).L.length (rowP enc2 (genL (decL decI L.length (rowP encI L))).L)) (genL (decL decI L.length (rowP encI L))).st
                                (genL (decL decI L.length (rowP encI L))).si (genL (decL decI L.length (rowP encI L))).le)
                              at_ n (decL decI L.length (rowP encI L))).le)
                        m0 m1 m2).snd)
                (Tr.done X.ret (St.mk [V.c (C.p (PV.b false))] []))
                (Tr.rq
                  ((IsL enc2 2
                        (decL dec2
                          (alEsc
                                  (Al.mk
                                    (bentA
                                        (Al.mk (genL (decL decI L.length (rowP encI L))).r (genL (decL decI L.length (rowP encI L))).ver
                                          (decL dec2 (genL (decL decI L.length (rowP encI L))).L.length (rowP enc2 (genL (decL decI L.length (rowP encI L))).L))
                                          (genL (decL decI L.length (rowP encI L))).st (genL (decL decI L.length (rowP encI L))).si (genL (decL decI L.length (rowP encI L))).le)
                                        at_ n (decL decI L.length (rowP encI L))).r
                                    (bentA
                                        (Al.mk (genL (decL decI L.length (rowP encI L))).r (genL (decL decI L.length (rowP encI L))).ver
                                          (decL dec2 (genL (decL decI L.length (rowP encI L))).L.length (rowP enc2 (genL (decL decI L.length (rowP encI L))).L))
                                          (genL (decL decI L.length (rowP encI L))).st (genL (decL decI L.length (rowP encI L))).si (genL (decL decI L.length (rowP encI L))).le)
                                        at_ n (decL decI L.length (rowP encI L))).ver
                                    (decL dec2
                                      (bentA
                                            (Al.mk (genL (decL decI L.length (rowP encI L))).r (genL (decL decI L.length (rowP encI L))).ver
                                              (decL dec2 (genL (decL decI L.length (rowP encI L))).L.length (rowP enc2 (genL (decL decI L.length (rowP encI L))).L))
                                              (genL (decL decI L.length (rowP encI L))).st (genL (decL decI L.length (rowP encI L))).si (genL (decL decI L.length (rowP encI L))).le)
                                            at_ n (decL decI L.length (rowP encI L))).L.length
                                      (rowP enc2
                                        (bentA
                                            (Al.mk (genL (decL decI L.length (rowP encI L))).r (genL (decL decI L.length (rowP encI L))).ver
                                              (decL dec2 (genL (decL decI L.length (rowP encI L))).L.length (rowP enc2 (genL (decL decI L.length (rowP encI L))).L))
                                              (genL (decL decI L.length (rowP encI L))).st (genL (decL decI L.length (rowP encI L))).si (genL (decL decI L.length (rowP encI L))).le)
                                            at_ n (decL decI L.length (rowP encI L))).L))
                                    (bentA
                                        (Al.mk (genL (decL decI L.length (rowP encI L))).r (genL (decL decI L.length (rowP encI L))).ver
                                          (decL dec2 (genL (decL decI L.length (rowP encI L))).L.length (rowP enc2 (genL (decL decI L.length (rowP encI L))).L))
                                          (genL (decL decI L.length (rowP encI L))).st (genL (decL decI L.length (rowP encI L))).si (genL (decL decI L.length (rowP encI L))).le)
                                        at_ n (decL decI L.length (rowP encI L))).st
                                    (bentA
                                        (Al.mk (genL (decL decI L.length (rowP encI L))).r (genL (decL decI L.length (rowP encI L))).ver
                                          (decL dec2 (genL (decL decI L.length (rowP encI L))).L.length (rowP enc2 (genL (decL decI L.length (rowP encI L))).L))
                                          (genL (decL decI L.length (rowP encI L))).st (genL (decL decI L.length (rowP encI L))).si (genL (decL decI L.length (rowP encI L))).le)
                                        at_ n (decL decI L.length (rowP encI L))).si
                                    (bentA
                                        (Al.mk (genL (decL decI L.length (rowP encI L))).r (genL (decL decI L.length (rowP encI L))).ver
                                          (decL dec2 (genL (decL decI L.length (rowP encI L))).L.length (rowP enc2 (genL (decL decI L.length (rowP encI L))).L))
                                          (genL (decL decI L.length (rowP encI L))).st (genL (decL decI L.length (rowP encI L))).si (genL (decL decI L.length (rowP encI L))).le)
                                        at_ n (decL decI L.length (rowP encI L))).le)
                                  m0 m1 m2).fst.L.length
                          (rowP enc2
                            (alEsc
                                  (Al.mk
                                    (bentA
                                        (Al.mk (genL (decL decI L.length (rowP encI L))).r (genL (decL decI L.length (rowP encI L))).ver
                                          (decL dec2 (genL (decL decI L.length (rowP encI L))).L.length (rowP enc2 (genL (decL decI L.length (rowP encI L))).L))
                                          (genL (decL decI L.length (rowP encI L))).st (genL (decL decI L.length (rowP encI L))).si (genL (decL decI L.length (rowP encI L))).le)
                                        at_ n (decL decI L.length (rowP encI L))).r
                                    (bentA
                                        (Al.mk (genL (decL decI L.length (rowP encI L))).r (genL (decL decI L.length (rowP encI L))).ver
                                          (decL dec2 (genL (decL decI L.length (rowP encI L))).L.length (rowP enc2 (genL (decL decI L.length (rowP encI L))).L))
                                          (genL (decL decI L.length (rowP encI L))).st (genL (decL decI L.length (rowP encI L))).si (genL (decL decI L.length (rowP encI L))).le)
                                        at_ n (decL decI L.length (rowP encI L))).ver
                                    (decL dec2
                                      (bentA
                                            (Al.mk (genL (decL decI L.length (rowP encI L))).r (genL (decL decI L.length (rowP encI L))).ver
                                              (decL dec2 (genL (decL decI L.length (rowP encI L))).L.length (rowP enc2 (genL (decL decI L.length (rowP encI L))).L))
                                              (genL (decL decI L.length (rowP encI L))).st (genL (decL decI L.length (rowP encI L))).si (genL (decL decI L.length (rowP encI L))).le)
                                            at_ n (decL decI L.length (rowP encI L))).L.length
                                      (rowP enc2
                                        (bentA
                                            (Al.mk (genL (decL decI L.length (rowP encI L))).r (genL (decL decI L.length (rowP encI L))).ver
                                              (decL dec2 (genL (decL decI L.length (rowP encI L))).L.length (rowP enc2 (genL (decL decI L.length (rowP encI L))).L))
                                              (genL (decL decI L.length (rowP encI L))).st (genL (decL decI L.length (rowP encI L))).si (genL (decL decI L.length (rowP encI L))).le)
                                            at_ n (decL decI L.length (rowP encI L))).L))
                                    (bentA
                                        (Al.mk (genL (decL decI L.length (rowP encI L))).r (genL (decL decI L.length (rowP encI L))).ver
                                          (decL dec2 (genL (decL decI L.length (rowP encI L))).L.length (rowP enc2 (genL (decL decI L.length (rowP encI L))).L))
                                          (genL (decL decI L.length (rowP encI L))).st (genL (decL decI L.length (rowP encI L))).si (genL (decL decI L.length (rowP encI L))).le)
                                        at_ n (decL decI L.length (rowP encI L))).st
                                    (bentA
                                        (Al.mk (genL (decL decI L.length (rowP encI L))).r (genL (decL decI L.length (rowP encI L))).ver
                                          (decL dec2 (genL (decL decI L.length (rowP encI L))).L.length (rowP enc2 (genL (decL decI L.length (rowP encI L))).L))
                                          (genL (decL decI L.length (rowP encI L))).st (genL (decL decI L.length (rowP encI L))).si (genL (decL decI L.length (rowP encI L))).le)
                                        at_ n (decL decI L.length (rowP encI L))).si
                                    (bentA
                                        (Al.mk (genL (decL decI L.length (rowP encI L))).r (genL (decL decI L.length (rowP encI L))).ver
                                          (decL dec2 (genL (decL decI L.length (rowP encI L))).L.length (rowP enc2 (genL (decL decI L.length (rowP encI L))).L))
                                          (genL (decL decI L.length (rowP encI L))).st (genL (decL decI L.length (rowP encI L))).si (genL (decL decI L.length (rowP encI L))).le)
                                        at_ n (decL decI L.length (rowP encI L))).le)
                                  m0 m1 m2).fst.L))
                        (alEsc
                                (Al.mk
                                  (bentA
                                      (Al.mk (genL (decL decI L.length (rowP encI L))).r (genL (decL decI L.length (rowP encI L))).ver
                                        (decL dec2 (genL (decL decI L.length (rowP encI L))).L.length (rowP enc2 (genL (decL decI L.length (rowP encI L))).L))
                                        (genL (decL decI L.length (rowP encI L))).st (genL (decL decI L.length (rowP encI L))).si (genL (decL decI L.length (rowP encI L))).le)
                                      at_ n (decL decI L.length (rowP encI L))).r
                                  (bentA
                                      (Al.mk (genL (decL decI L.length (rowP encI L))).r (genL (decL decI L.length (rowP encI L))).ver
                                        (decL dec2 (genL (decL decI L.length (rowP encI L))).L.length (rowP enc2 (genL (decL decI L.length (rowP encI L))).L))
                                        (genL (decL decI L.length (rowP encI L))).st (genL (decL decI L.length (rowP encI L))).si (genL (decL decI L.length (rowP encI L))).le)
                                      at_ n (decL decI L.length (rowP encI L))).ver
                                  (decL dec2
                                    (bentA
                                          (Al.mk (genL (decL decI L.length (rowP encI L))).r (genL (decL decI L.length (rowP encI L))).ver
                                            (decL dec2 (genL (decL decI L.length (rowP encI L))).L.length (rowP enc2 (genL (decL decI L.length (rowP encI L))).L))
                                            (genL (decL decI L.length (rowP encI L))).st (genL (decL decI L.length (rowP encI L))).si (genL (decL decI L.length (rowP encI L))).le)
                                          at_ n (decL decI L.length (rowP encI L))).L.length
                                    (rowP enc2
                                      (bentA
                                          (Al.mk (genL (decL decI L.length (rowP encI L))).r (genL (decL decI L.length (rowP encI L))).ver
                                            (decL dec2 (genL (decL decI L.length (rowP encI L))).L.length (rowP enc2 (genL (decL decI L.length (rowP encI L))).L))
                                            (genL (decL decI L.length (rowP encI L))).st (genL (decL decI L.length (rowP encI L))).si (genL (decL decI L.length (rowP encI L))).le)
                                          at_ n (decL decI L.length (rowP encI L))).L))
                                  (bentA
                                      (Al.mk (genL (decL decI L.length (rowP encI L))).r (genL (decL decI L.length (rowP encI L))).ver
                                        (decL dec2 (genL (decL decI L.length (rowP encI L))).L.length (rowP enc2 (genL (decL decI L.length (rowP encI L))).L))
                                        (genL (decL decI L.length (rowP encI L))).st (genL (decL decI L.length (rowP encI L))).si (genL (decL decI L.length (rowP encI L))).le)
                                      at_ n (decL decI L.length (rowP encI L))).st
                                  (bentA
                                      (Al.mk (genL (decL decI L.length (rowP encI L))).r (genL (decL decI L.length (rowP encI L))).ver
                                        (decL dec2 (genL (decL decI L.length (rowP encI L))).L.length (rowP enc2 (genL (decL decI L.length (rowP encI L))).L))
                                        (genL (decL decI L.length (rowP encI L))).st (genL (decL decI L.length (rowP encI L))).si (genL (decL decI L.length (rowP encI L))).le)
                                      at_ n (decL decI L.length (rowP encI L))).si
                                  (bentA
                                      (Al.mk (genL (decL decI L.length (rowP encI L))).r (genL (decL decI L.length (rowP encI L))).ver
                                        (decL dec2 (genL (decL decI L.length (rowP encI L))).L.length (rowP enc2 (genL (decL decI L.length (rowP encI L))).L))
                                        (genL (decL decI L.length (rowP encI L))).st (genL (decL decI L.length (rowP encI L))).si (genL (decL decI L.length (rowP encI L))).le)
                                      at_ n (decL decI L.length (rowP encI L))).le)
                                m0 m1 m2).fst.L.length
                        (rowP enc2
                          (alEsc
                                (Al.mk
                                  (bentA
                                      (Al.mk (genL (decL decI L.length (rowP encI L))).r (genL (decL decI L.length (rowP encI L))).ver
                                        (decL dec2 (genL (decL decI L.length (rowP encI L))).L.length (rowP enc2 (genL (decL decI L.length (rowP encI L))).L))
                                        (genL (decL decI L.length (rowP encI L))).st (genL (decL decI L.length (rowP encI L))).si (genL (decL decI L.length (rowP encI L))).le)
                                      at_ n (decL decI L.length (rowP encI L))).r
                                  (bentA
                                      (Al.mk (genL (decL decI L.length (rowP encI L))).r (genL (decL decI L.length (rowP encI L))).ver
                                        (decL dec2 (genL (decL decI L.length (rowP encI L))).L.length (rowP enc2 (genL (decL decI L.length (rowP encI L))).L))
                                        (genL (decL decI L.length (rowP encI L))).st (genL (decL decI L.length (rowP encI L))).si (genL (decL decI L.length (rowP encI L))).le)
                                      at_ n (decL decI L.length (rowP encI L))).ver
                                  (decL dec2
                                    (bentA
                                          (Al.mk (genL (decL decI L.length (rowP encI L))).r (genL (decL decI L.length (rowP encI L))).ver
                                            (decL dec2 (genL (decL decI L.length (rowP encI L))).L.length (rowP enc2 (genL (decL decI L.length (rowP encI L))).L))
                                            (genL (decL decI L.length (rowP encI L))).st (genL (decL decI L.length (rowP encI L))).si (genL (decL decI L.length (rowP encI L))).le)
                                          at_ n (decL decI L.length (rowP encI L))).L.length
                                    (rowP enc2
                                      (bentA
                                          (Al.mk (genL (decL decI L.length (rowP encI L))).r (genL (decL decI L.length (rowP encI L))).ver
                                            (decL dec2 (genL (decL decI L.length (rowP encI L))).L.length (rowP enc2 (genL (decL decI L.length (rowP encI L))).L))
                                            (genL (decL decI L.length (rowP encI L))).st (genL (decL decI L.length (rowP encI L))).si (genL (decL decI L.length (rowP encI L))).le)
                                          at_ n (decL decI L.length (rowP encI L))).L))
                                  (bentA
                                      (Al.mk (genL (decL decI L.length (rowP encI L))).r (genL (decL decI L.length (rowP encI L))).ver
                                        (decL dec2 (genL (decL decI L.length (rowP encI L))).L.length (rowP enc2 (genL (decL decI L.length (rowP encI L))).L))
                                        (genL (decL decI L.length (rowP encI L))).st (genL (decL decI L.length (rowP encI L))).si (genL (decL decI L.length (rowP encI L))).le)
                                      at_ n (decL decI L.length (rowP encI L))).st
                                  (bentA
                                      (Al.mk (genL (decL decI L.length (rowP encI L))).r (genL (decL decI L.length (rowP encI L))).ver
                                        (decL dec2 (genL (decL decI L.length (rowP encI L))).L.length (rowP enc2 (genL (decL decI L.length (rowP encI L))).L))
                                        (genL (decL decI L.length (rowP encI L))).st (genL (decL decI L.length (rowP encI L))).si (genL (decL decI L.length (rowP encI L))).le)
                                      at_ n (decL decI L.length (rowP encI L))).si
                                  (bentA
                                      (Al.mk (genL (decL decI L.length (rowP encI L))).r (genL (decL decI L.length (rowP encI L))).ver
                                        (decL dec2 (genL (decL decI L.length (rowP encI L))).L.length (rowP enc2 (genL (decL decI L.length (rowP encI L))).L))
                                        (genL (decL decI L.length (rowP encI L))).st (genL (decL decI L.length (rowP encI L))).si (genL (decL decI L.length (rowP encI L))).le)
                                      at_ n (decL decI L.length (rowP encI L))).le)
                                m0 m1 m2).fst.L) ∧
                      IsL enc2 2
                        (decL dec2
                          (alEsc
                                  (Al.mk
                                    (bentA
                                        (Al.mk (genL (decL decI L.length (rowP encI L))).r (genL (decL decI L.length (rowP encI L))).ver
                                          (decL dec2 (genL (decL decI L.length (rowP encI L))).L.length (rowP enc2 (genL (decL decI L.length (rowP encI L))).L))
                                          (genL (decL decI L.length (rowP encI L))).st (genL (decL decI L.length (rowP encI L))).si (genL (decL decI L.length (rowP encI L))).le)
                                        at_ n (decL decI L.length (rowP encI L))).r
                                    (bentA
                                        (Al.mk (genL (decL decI L.length (rowP encI L))).r (genL (decL decI L.length (rowP encI L))).ver
                                          (decL dec2 (genL (decL decI L.length (rowP encI L))).L.length (rowP enc2 (genL (decL decI L.length (rowP encI L))).L))
                                          (genL (decL decI L.length (rowP encI L))).st (genL (decL decI L.length (rowP encI L))).si (genL (decL decI L.length (rowP encI L))).le)
                                        at_ n (decL decI L.length (rowP encI L))).ver
                                    (decL dec2
                                      (bentA
                                            (Al.mk (genL (decL decI L.length (rowP encI L))).r (genL (decL decI L.length (rowP encI L))).ver
                                              (decL dec2 (genL (decL decI L.length (rowP encI L))).L.length (rowP enc2 (genL (decL decI L.length (rowP encI L))).L))
                                              (genL (decL decI L.length (rowP encI L))).st (genL (decL decI L.length (rowP encI L))).si (genL (decL decI L.length (rowP encI L))).le)
                                            at_ n (decL decI L.length (rowP encI L))).L.length
                                      (rowP enc2
                                        (bentA
                                            (Al.mk (genL (decL decI L.length (rowP encI L))).r (genL (decL decI L.length (rowP encI L))).ver
                                              (decL dec2 (genL (decL decI L.length (rowP encI L))).L.length (rowP enc2 (genL (decL decI L.length (rowP encI L))).L))
                                              (genL (decL decI L.length (rowP encI L))).st (genL (decL decI L.length (rowP encI L))).si (genL (decL decI L.length (rowP encI L))).le)
                                            at_ n (decL decI L.length (rowP encI L))).L))
                                    (bentA
                                        (Al.mk (genL (decL decI L.length (rowP encI L))).r (genL (decL decI L.length (rowP encI L))).ver
                                          (decL dec2 (genL (decL decI L.length (rowP encI L))).L.length (rowP enc2 (genL (decL decI L.length (rowP encI L))).L))
                                          (genL (decL decI L.length (rowP encI L))).st (genL (decL decI L.length (rowP encI L))).si (genL (decL decI L.length (rowP encI L))).le)
                                        at_ n (decL decI L.length (rowP encI L))).st
                                    (bentA
                                        (Al.mk (genL (decL decI L.length (rowP encI L))).r (genL (decL decI L.length (rowP encI L))).ver
                                          (decL dec2 (genL (decL decI L.length (rowP encI L))).L.length (rowP enc2 (genL (decL decI L.length (rowP encI L))).L))
                                          (genL (decL decI L.length (rowP encI L))).st (genL (decL decI L.length (rowP encI L))).si (genL (decL decI L.length (rowP encI L))).le)
                                        at_ n (decL decI L.length (rowP encI L))).si
                                    (bentA
                                        (Al.mk (genL (decL decI L.length (rowP encI L))).r (genL (decL decI L.length (rowP encI L))).ver
                                          (decL dec2 (genL (decL decI L.length (rowP encI L))).L.length (rowP enc2 (genL (decL decI L.length (rowP encI L))).L))
                                          (genL (decL decI L.length (rowP encI L))).st (genL (decL decI L.length (rowP encI L))).si (genL (decL decI L.length (rowP encI L))).le)
                                        at_ n (decL decI L.length (rowP encI L))).le)
                                  m0 m1 m2).fst.L.length
                          (rowP enc2
                            (alEsc
                                  (Al.mk
                                    (bentA
                                        (Al.mk (genL (decL decI L.length (rowP encI L))).r (genL (decL decI L.length (rowP encI L))).ver
                                          (decL dec2 (genL (decL decI L.length (rowP encI L))).L.length (rowP enc2 (genL (decL decI L.length (rowP encI L))).L))
                                          (genL (decL decI L.length (rowP encI L))).st (genL (decL decI L.length (rowP encI L))).si (genL (decL decI L.length (rowP encI L))).le)
                                        at_ n (decL decI L.length (rowP encI L))).r
                                    (bentA
                                        (Al.mk (genL (decL decI L.length (rowP encI L))).r (genL (decL decI L.length (rowP encI L))).ver
                                          (decL dec2 (genL (decL decI L.length (rowP encI L))).L.length (rowP enc2 (genL (decL decI L.length (rowP encI L))).L))
                                          (genL (decL decI L.length (rowP encI L))).st (genL (decL decI L.length (rowP encI L))).si (genL (decL decI L.length (rowP encI L))).le)
                                        at_ n (decL decI L.length (rowP encI L))).ver
                                    (decL dec2
                                      (bentA
                                            (Al.mk (genL (decL decI L.length (rowP encI L))).r (genL (decL decI L.length (rowP encI L))).ver
                                              (decL dec2 (genL (decL decI L.length (rowP encI L))).L.length (rowP enc2 (genL (decL decI L.length (rowP encI L))).L))
                                              (genL (decL decI L.length (rowP encI L))).st (genL (decL decI L.length (rowP encI L))).si (genL (decL decI L.length (rowP encI L))).le)
                                            at_ n (decL decI L.length (rowP encI L))).L.length
                                      (rowP enc2
                                        (bentA
                                            (Al.mk (genL (decL decI L.length (rowP encI L))).r (genL (decL decI L.length (rowP encI L))).ver
                                              (decL dec2 (genL (decL decI L.length (rowP encI L))).L.length (rowP enc2 (genL (decL decI L.length (rowP encI L))).L))
                                              (genL (decL decI L.length (rowP encI L))).st (genL (decL decI L.length (rowP encI L))).si (genL (decL decI L.length (rowP encI L))).le)
                                            at_ n (decL decI L.length (rowP encI L))).L))
                                    (bentA
                                        (Al.mk (genL (decL decI L.length (rowP encI L))).r (genL (decL decI L.length (rowP encI L))).ver
                                          (decL dec2 (genL (decL decI L.length (rowP encI L))).L.length (rowP enc2 (genL (decL decI L.length (rowP encI L))).L))
                                          (genL (decL decI L.length (rowP encI L))).st (genL (decL decI L.length (rowP encI L))).si (genL (decL decI L.length (rowP encI L))).le)
                                        at_ n (decL decI L.length (rowP encI L))).st
                                    (bentA
                                        (Al.mk (genL (decL decI L.length (rowP encI L))).r (genL (decL decI L.length (rowP encI L))).ver
                                          (decL dec2 (genL (decL decI L.length (rowP encI L))).L.length (rowP enc2 (genL (decL decI L.length (rowP encI L))).L))
                                          (genL (decL decI L.length (rowP encI L))).st (genL (decL decI L.length (rowP encI L))).si (genL (decL decI L.length (rowP encI L))).le)
                                        at_ n (decL decI L.length (rowP encI L))).si
                                    (bentA
                                        (Al.mk (genL (decL decI L.length (rowP encI L))).r (genL (decL decI L.length (rowP encI L))).ver
                                          (decL dec2 (genL (decL decI L.length (rowP encI L))).L.length (rowP enc2 (genL (decL decI L.length (rowP encI L))).L))
                                          (genL (decL decI L.length (rowP encI L))).st (genL (decL decI L.length (rowP encI L))).si (genL (decL decI L.length (rowP encI L))).le)
                                        at_ n (decL decI L.length (rowP encI L))).le)
                                  m0 m1 m2).fst.L))
                        (alEsc
                                (Al.mk
                                  (bentA
                                      (Al.mk (genL (decL decI L.length (rowP encI L))).r (genL (decL decI L.length (rowP encI L))).ver
                                        (decL dec2 (genL (decL decI L.length (rowP encI L))).L.length (rowP enc2 (genL (decL decI L.length (rowP encI L))).L))
                                        (genL (decL decI L.length (rowP encI L))).st (genL (decL decI L.length (rowP encI L))).si (genL (decL decI L.length (rowP encI L))).le)
                                      at_ n (decL decI L.length (rowP encI L))).r
                                  (bentA
                                      (Al.mk (genL (decL decI L.length (rowP encI L))).r (genL (decL decI L.length (rowP encI L))).ver
                                        (decL dec2 (genL (decL decI L.length (rowP encI L))).L.length (rowP enc2 (genL (decL decI L.length (rowP encI L))).L))
                                        (genL (decL decI L.length (rowP encI L))).st (genL (decL decI L.length (rowP encI L))).si (genL (decL decI L.length (rowP encI L))).le)
                                      at_ n (decL decI L.length (rowP encI L))).ver
                                  (decL dec2
                                    (bentA
                                          (Al.mk (genL (decL decI L.length (rowP encI L))).r (genL (decL decI L.length (rowP encI L))).ver
                                            (decL dec2 (genL (decL decI L.length (rowP encI L))).L.length (rowP enc2 (genL (decL decI L.length (rowP encI L))).L))
                                            (genL (decL decI L.length (rowP encI L))).st (genL (decL decI L.length (rowP encI L))).si (genL (decL decI L.length (rowP encI L))).le)
                                          at_ n (decL decI L.length (rowP encI L))).L.length
                                    (rowP enc2
                                      (bentA
                                          (Al.mk (genL (decL decI L.length (rowP encI L))).r (genL (decL decI L.length (rowP encI L))).ver
                                            (decL dec2 (genL (decL decI L.length (rowP encI L))).L.length (rowP enc2 (genL (decL decI L.length (rowP encI L))).L))
                                            (genL (decL decI L.length (rowP encI L))).st (genL (decL decI L.length (rowP encI L))).si (genL (decL decI L.length (rowP encI L))).le)
                                          at_ n (decL decI L.length (rowP encI L))).L))
                                  (bentA
                                      (Al.mk (genL (decL decI L.length (rowP encI L))).r (genL (decL decI L.length (rowP encI L))).ver
                                        (decL dec2 (genL (decL decI L.length (rowP encI L))).L.length (rowP enc2 (genL (decL decI L.length (rowP encI L))).L))
                                        (genL (decL decI L.length (rowP encI L))).st (genL (decL decI L.length (rowP encI L))).si (genL (decL decI L.length (rowP encI L))).le)
                                      at_ n (decL decI L.length (rowP encI L))).st
                                  (bentA
                                      (Al.mk (genL (decL decI L.length (rowP encI L))).r (genL (decL decI L.length (rowP encI L))).ver
                                        (decL dec2 (genL (decL decI L.length (rowP encI L))).L.length (rowP enc2 (genL (decL decI L.length (rowP encI L))).L))
                                        (genL (decL decI L.length (rowP encI L))).st (genL (decL decI L.length (rowP encI L))).si (genL (decL decI L.length (rowP encI L))).le)
                                      at_ n (decL decI L.length (rowP encI L))).si
                                  (bentA
                                      (Al.mk (genL (decL decI L.length (rowP encI L))).r (genL (decL decI L.length (rowP encI L))).ver
                                        (decL dec2 (genL (decL decI L.length (rowP encI L))).L.length (rowP enc2 (genL (decL decI L.length (rowP encI L))).L))
                                        (genL (decL decI L.length (rowP encI L))).st (genL (decL decI L.length (rowP encI L))).si (genL (decL decI L.length (rowP encI L))).le)
                                      at_ n (decL decI L.length (rowP encI L))).le)
                                m0 m1 m2).fst.L.length
                        (rowP enc2
                          (alEsc
                                (Al.mk
                                  (bentA
                                      (Al.mk (genL (decL decI L.length (rowP encI L))).r (genL (decL decI L.length (rowP encI L))).ver
                                        (decL dec2 (genL (decL decI L.length (rowP encI L))).L.length (rowP enc2 (genL (decL decI L.length (rowP encI L))).L))
                                        (genL (decL decI L.length (rowP encI L))).st (genL (decL decI L.length (rowP encI L))).si (genL (decL decI L.length (rowP encI L))).le)
                                      at_ n (decL decI L.length (rowP encI L))).r
                                  (bentA
                                      (Al.mk (genL (decL decI L.length (rowP encI L))).r (genL (decL decI L.length (rowP encI L))).ver
                                        (decL dec2 (genL (decL decI L.length (rowP encI L))).L.length (rowP enc2 (genL (decL decI L.length (rowP encI L))).L))
                                        (genL (decL decI L.length (rowP encI L))).st (genL (decL decI L.length (rowP encI L))).si (genL (decL decI L.length (rowP encI L))).le)
                                      at_ n (decL decI L.length (rowP encI L))).ver
                                  (decL dec2
                                    (bentA
                                          (Al.mk (genL (decL decI L.length (rowP encI L))).r (genL (decL decI L.length (rowP encI L))).ver
                                            (decL dec2 (genL (decL decI L.length (rowP encI L))).L.length (rowP enc2 (genL (decL decI L.length (rowP encI L))).L))
                                            (genL (decL decI L.length (rowP encI L))).st (genL (decL decI L.length (rowP encI L))).si (genL (decL decI L.length (rowP encI L))).le)
                                          at_ n (decL decI L.length (rowP encI L))).L.length
                                    (rowP enc2
                                      (bentA
                                          (Al.mk (genL (decL decI L.length (rowP encI L))).r (genL (decL decI L.length (rowP encI L))).ver
                                            (decL dec2 (genL (decL decI L.length (rowP encI L))).L.length (rowP enc2 (genL (decL decI L.length (rowP encI L))).L))
                                            (genL (decL decI L.length (rowP encI L))).st (genL (decL decI L.length (rowP encI L))).si (genL (decL decI L.length (rowP encI L))).le)
                                          at_ n (decL decI L.length (rowP encI L))).L))
                                  (bentA
                                      (Al.mk (genL (decL decI L.length (rowP encI L))).r (genL (decL decI L.length (rowP encI L))).ver
                                        (decL dec2 (genL (decL decI L.length (rowP encI L))).L.length (rowP enc2 (genL (decL decI L.length (rowP encI L))).L))
                                        (genL (decL decI L.length (rowP encI L))).st (genL (decL decI L.length (rowP encI L))).si (genL (decL decI L.length (rowP encI L))).le)
                                      at_ n (decL decI L.length (rowP encI L))).st
                                  (bentA
                                      (Al.mk (genL (decL decI L.length (rowP encI L))).r (genL (decL decI L.length (rowP encI L))).ver
                                        (decL dec2 (genL (decL decI L.length (rowP encI L))).L.length (rowP enc2 (genL (decL decI L.length (rowP encI L))).L))
                                        (genL (decL decI L.length (rowP encI L))).st (genL (decL decI L.length (rowP encI L))).si (genL (decL decI L.length (rowP encI L))).le)
                                      at_ n (decL decI L.length (rowP encI L))).si
                                  (bentA
                                      (Al.mk (genL (decL decI L.length (rowP encI L))).r (genL (decL decI L.length (rowP encI L))).ver
                                        (decL dec2 (genL (decL decI L.length (rowP encI L))).L.length (rowP enc2 (genL (decL decI L.length (rowP encI L))).L))
                                        (genL (decL decI L.length (rowP encI L))).st (genL (decL decI L.length (rowP encI L))).si (genL (decL decI L.length (rowP encI L))).le)
                                      at_ n (decL decI L.length (rowP encI L))).le)
                                m0 m1 m2).fst.L)) ∧
                    (Al.mk
                            (alEsc
                                  (Al.mk
                                    (bentA
                                        (Al.mk (genL (decL decI L.length (rowP encI L))).r (genL (decL decI L.length (rowP encI L))).ver
                                          (decL dec2 (genL (decL decI L.length (rowP encI L))).L.length (rowP enc2 (genL (decL decI L.length (rowP encI L))).L))
                                          (genL (decL decI L.length (rowP encI L))).st (genL (decL decI L.length (rowP encI L))).si (genL (decL decI L.length (rowP encI L))).le)
                                        at_ n (decL decI L.length (rowP encI L))).r
                                    (bentA
                                        (Al.mk (genL (decL decI L.length (rowP encI L))).r (genL (decL decI L.length (rowP encI L))).ver
                                          (decL dec2 (genL (decL decI L.length (rowP encI L))).L.length (rowP enc2 (genL (decL decI L.length (rowP encI L))).L))
                                          (genL (decL decI L.length (rowP encI L))).st (genL (decL decI L.length (rowP encI L))).si (genL (decL decI L.length (rowP encI L))).le)
                                        at_ n (decL decI L.length (rowP encI L))).ver
                                    (decL dec2
                                      (bentA
                                            (Al.mk (genL (decL decI L.length (rowP encI L))).r (genL (decL decI L.length (rowP encI L))).ver
                                              (decL dec2 (genL (decL decI L.length (rowP encI L))).L.length (rowP enc2 (genL (decL decI L.length (rowP encI L))).L))
                                              (genL (decL decI L.length (rowP encI L))).st (genL (decL decI L.length (rowP encI L))).si (genL (decL decI L.length (rowP encI L))).le)
                                            at_ n (decL decI L.length (rowP encI L))).L.length
                                      (rowP enc2
                                        (bentA
                                            (Al.mk (genL (decL decI L.length (rowP encI L))).r (genL (decL decI L.length (rowP encI L))).ver
                                              (decL dec2 (genL (decL decI L.length (rowP encI L))).L.length (rowP enc2 (genL (decL decI L.length (rowP encI L))).L))
                                              (genL (decL decI L.length (rowP encI L))).st (genL (decL decI L.length (rowP encI L))).si (genL (decL decI L.length (rowP encI L))).le)
                                            at_ n (decL decI L.length (rowP encI L))).L))
                                    (bentA
                                        (Al.mk (genL (decL decI L.length (rowP encI L))).r (genL (decL decI L.length (rowP encI L))).ver
                                          (decL dec2 (genL (decL decI L.length (rowP encI L))).L.length (rowP enc2 (genL (decL decI L.length (rowP encI L))).L))
                                          (genL (decL decI L.length (rowP encI L))).st (genL (decL decI L.length (rowP encI L))).si (genL (decL decI L.length (rowP encI L))).le)
                                        at_ n (decL decI L.length (rowP encI L))).st
                                    (bentA
                                        (Al.mk (genL (decL decI L.length (rowP encI L))).r (genL (decL decI L.length (rowP encI L))).ver
                                          (decL dec2 (genL (decL decI L.length (rowP encI L))).L.length (rowP enc2 (genL (decL decI L.length (rowP encI L))).L))
                                          (genL (decL decI L.length (rowP encI L))).st (genL (decL decI L.length (rowP encI L))).si (genL (decL decI L.length (rowP encI L))).le)
                                        at_ n (decL decI L.length (rowP encI L))).si
                                    (bentA
                                        (Al.mk (genL (decL decI L.length (rowP encI L))).r (genL (decL decI L.length (rowP encI L))).ver
                                          (decL dec2 (genL (decL decI L.length (rowP encI L))).L.length (rowP enc2 (genL (decL decI L.length (rowP encI L))).L))
                                          (genL (decL decI L.length (rowP encI L))).st (genL (decL decI L.length (rowP encI L))).si (genL (decL decI L.length (rowP encI L))).le)
                                        at_ n (decL decI L.length (rowP encI L))).le)
                                  m0 m1 m2).fst.r
                            (alEsc
                                  (Al.mk
                                    (bentA
                                        (Al.mk (genL (decL decI L.length (rowP encI L))).r (genL (decL decI L.length (rowP encI L))).ver
                                          (decL dec2 (genL (decL decI L.length (rowP encI L))).L.length (rowP enc2 (genL (decL decI L.length (rowP encI L))).L))
                                          (genL (decL decI L.length (rowP encI L))).st (genL (decL decI L.length (rowP encI L))).si (genL (decL decI L.length (rowP encI L))).le)
                                        at_ n (decL decI L.length (rowP encI L))).r
                                    (bentA
                                        (Al.mk (genL (decL decI L.length (rowP encI L))).r (genL (decL decI L.length (rowP encI L))).ver
                                          (decL dec2 (genL (decL decI L.length (rowP encI L))).L.length (rowP enc2 (genL (decL decI L.length (rowP encI L))).L))
                                          (genL (decL decI L.length (rowP encI L))).st (genL (decL decI L.length (rowP encI L))).si (genL (decL decI L.length (rowP encI L))).le)
                                        at_ n (decL decI L.length (rowP encI L))).ver
                                    (decL dec2
                                      (bentA
                                            (Al.mk (genL (decL decI L.length (rowP encI L))).r (genL (decL decI L.length (rowP encI L))).ver
                                              (decL dec2 (genL (decL decI L.length (rowP encI L))).L.length (rowP enc2 (genL (decL decI L.length (rowP encI L))).L))
                                              (genL (decL decI L.length (rowP encI L))).st (genL (decL decI L.length (rowP encI L))).si (genL (decL decI L.length (rowP encI L))).le)
                                            at_ n (decL decI L.length (rowP encI L))).L.length
                                      (rowP enc2
                                        (bentA
                                            (Al.mk (genL (decL decI L.length (rowP encI L))).r (genL (decL decI L.length (rowP encI L))).ver
                                              (decL dec2 (genL (decL decI L.length (rowP encI L))).L.length (rowP enc2 (genL (decL decI L.length (rowP encI L))).L))
                                              (genL (decL decI L.length (rowP encI L))).st (genL (decL decI L.length (rowP encI L))).si (genL (decL decI L.length (rowP encI L))).le)
                                            at_ n (decL decI L.length (rowP encI L))).L))
                                    (bentA
                                        (Al.mk (genL (decL decI L.length (rowP encI L))).r (genL (decL decI L.length (rowP encI L))).ver
                                          (decL dec2 (genL (decL decI L.length (rowP encI L))).L.length (rowP enc2 (genL (decL decI L.length (rowP encI L))).L))
                                          (genL (decL decI L.length (rowP encI L))).st (genL (decL decI L.length (rowP encI L))).si (genL (decL decI L.length (rowP encI L))).le)
                                        at_ n (decL decI L.length (rowP encI L))).st
                                    (bentA
                                        (Al.mk (genL (decL decI L.length (rowP encI L))).r (genL (decL decI L.length (rowP encI L))).ver
                                          (decL dec2 (genL (decL decI L.length (rowP encI L))).L.length (rowP enc2 (genL (decL decI L.length (rowP encI L))).L))
                                          (genL (decL decI L.length (rowP encI L))).st (genL (decL decI L.length (rowP encI L))).si (genL (decL decI L.length (rowP encI L))).le)
                                        at_ n (decL decI L.length (rowP encI L))).si
                                    (bentA
                                        (Al.mk (genL (decL decI L.length (rowP encI L))).r (genL (decL decI L.length (rowP encI L))).ver
                                          (decL dec2 (genL (decL decI L.length (rowP encI L))).L.length (rowP enc2 (genL (decL decI L.length (rowP encI L))).L))
                                          (genL (decL decI L.length (rowP encI L))).st (genL (decL decI L.length (rowP encI L))).si (genL (decL decI L.length (rowP encI L))).le)
                                        at_ n (decL decI L.length (rowP encI L))).le)
                                  m0 m1 m2).fst.ver
                            (decL dec2
                              (alEsc
                                      (Al.mk
                                        (bentA
                                            (Al.mk (genL (decL decI L.length (rowP encI L))).r (genL (decL decI L.length (rowP encI L))).ver
                                              (decL dec2 (genL (decL decI L.length (rowP encI L))).L.length (rowP enc2 (genL (decL decI L.length (rowP encI L))).L))
                                              (genL (decL decI L.length (rowP encI L))).st (genL (decL decI L.length (rowP encI L))).si (genL (decL decI L.length (rowP encI L))).le)
                                            at_ n (decL decI L.length (rowP encI L))).r
                                        (bentA
                                            (Al.mk (genL (decL decI L.length (rowP encI L))).r (genL (decL decI L.length (rowP encI L))).ver
                                              (decL dec2 (genL (decL decI L.length (rowP encI L))).L.length (rowP enc2 (genL (decL decI L.length (rowP encI L))).L))
                                              (genL (decL decI L.length (rowP encI L))).st (genL (decL decI L.length (rowP encI L))).si (genL (decL decI L.length (rowP encI L))).le)
                                            at_ n (decL decI L.length (rowP encI L))).ver
                                        (decL dec2
                                          (bentA
                                                (Al.mk (genL (decL decI L.length (rowP encI L))).r (genL (decL decI L.length (rowP encI L))).ver
                                                  (decL dec2 (genL (decL decI L.length (rowP encI L))).L.length (rowP enc2 (genL (decL decI L.length (rowP encI L))).L))
                                                  (genL (decL decI L.length (rowP encI L))).st (genL (decL decI L.length (rowP encI L))).si (genL (decL decI L.length (rowP encI L))).le)
                                                at_ n (decL decI L.length (rowP encI L))).L.length
                                          (rowP enc2
                                            (bentA
                                                (Al.mk (genL (decL decI L.length (rowP encI L))).r (genL (decL decI L.length (rowP encI L))).ver
                                                  (decL dec2 (genL (decL decI L.length (rowP encI L))).L.length (rowP enc2 (genL (decL decI L.length (rowP encI L))).L))
                                                  (genL (decL decI L.length (rowP encI L))).st (genL (decL decI L.length (rowP encI L))).si (genL (decL decI L.length (rowP encI L))).le)
                                                at_ n (decL decI L.length (rowP encI L))).L))
                                        (bentA
                                            (Al.mk (genL (decL decI L.length (rowP encI L))).r (genL (decL decI L.length (rowP encI L))).ver
                                              (decL dec2 (genL (decL decI L.length (rowP encI L))).L.length (rowP enc2 (genL (decL decI L.length (rowP encI L))).L))
                                              (genL (decL decI L.length (rowP encI L))).st (genL (decL decI L.length (rowP encI L))).si (genL (decL decI L.length (rowP encI L))).le)
                                            at_ n (decL decI L.length (rowP encI L))).st
                                        (bentA
                                            (Al.mk (genL (decL decI L.length (rowP encI L))).r (genL (decL decI L.length (rowP encI L))).ver
                                              (decL dec2 (genL (decL decI L.length (rowP encI L))).L.length (rowP enc2 (genL (decL decI L.length (rowP encI L))).L))
                                              (genL (decL decI L.length (rowP encI L))).st (genL (decL decI L.length (rowP encI L))).si (genL (decL decI L.length (rowP encI L))).le)
                                            at_ n (decL decI L.length (rowP encI L))).si
                                        (bentA
                                            (Al.mk (genL (decL decI L.length (rowP encI L))).r (genL (decL decI L.length (rowP encI L))).ver
                                              (decL dec2 (genL (decL decI L.length (rowP encI L))).L.length (rowP enc2 (genL (decL decI L.length (rowP encI L))).L))
                                              (genL (decL decI L.length (rowP encI L))).st (genL (decL decI L.length (rowP encI L))).si (genL (decL decI L.length (rowP encI L))).le)
                                            at_ n (decL decI L.length (rowP encI L))).le)
                                      m0 m1 m2).fst.L.length
                              (rowP enc2
                                (alEsc
                                      (Al.mk
                                        (bentA
                                            (Al.mk (genL (decL decI L.length (rowP encI L))).r (genL (decL decI L.length (rowP encI L))).ver
                                              (decL dec2 (genL (decL decI L.length (rowP encI L))).L.length (rowP enc2 (genL (decL decI L.length (rowP encI L))).L))
                                              (genL (decL decI L.length (rowP encI L))).st (genL (decL decI L.length (rowP encI L))).si (genL (decL decI L.length (rowP encI L))).le)
                                            at_ n (decL decI L.length (rowP encI L))).r
                                        (bentA
                                            (Al.mk (genL (decL decI L.length (rowP encI L))).r (genL (decL decI L.length (rowP encI L))).ver
                                              (decL dec2 (genL (decL decI L.length (rowP encI L))).L.length (rowP enc2 (genL (decL decI L.length (rowP encI L))).L))
                                              (genL (decL decI L.length (rowP encI L))).st (genL (decL decI L.length (rowP encI L))).si (genL (decL decI L.length (rowP encI L))).le)
                                            at_ n (decL decI L.length (rowP encI L))).ver
                                        (decL dec2
                                          (bentA
                                                (Al.mk (genL (decL decI L.length (rowP encI L))).r (genL (decL decI L.length (rowP encI L))).ver
                                                  (decL dec2 (genL (decL decI L.length (rowP encI L))).L.length (rowP enc2 (genL (decL decI L.length (rowP encI L))).L))
                                                  (genL (decL decI L.length (rowP encI L))).st (genL (decL decI L.length (rowP encI L))).si (genL (decL decI L.length (rowP encI L))).le)
                                                at_ n (decL decI L.length (rowP encI L))).L.length
                                          (rowP enc2
                                            (bentA
                                                (Al.mk (genL (decL decI L.length (rowP encI L))).r (genL (decL decI L.length (rowP encI L))).ver
                                                  (decL dec2 (genL (decL decI L.length (rowP encI L))).L.length (rowP enc2 (genL (decL decI L.length (rowP encI L))).L))
                                                  (genL (decL decI L.length (rowP encI L))).st (genL (decL decI L.length (rowP encI L))).si (genL (decL decI L.length (rowP encI L))).le)
                                                at_ n (decL decI L.length (rowP encI L))).L))
                                        (bentA
                                            (Al.mk (genL (decL decI L.length (rowP encI L))).r (genL (decL decI L.length (rowP encI L))).ver
                                              (decL dec2 (genL (decL decI L.length (rowP encI L))).L.length (rowP enc2 (genL (decL decI L.length (rowP encI L))).L))
                                              (genL (decL decI L.length (rowP encI L))).st (genL (decL decI L.length (rowP encI L))).si (genL (decL decI L.length (rowP encI L))).le)
                                            at_ n (decL decI L.length (rowP encI L))).st
                                        (bentA
                                            (Al.mk (genL (decL decI L.length (rowP encI L))).r (genL (decL decI L.length (rowP encI L))).ver
                                              (decL dec2 (genL (decL decI L.length (rowP encI L))).L.length (rowP enc2 (genL (decL decI L.length (rowP encI L))).L))
                                              (genL (decL decI L.length (rowP encI L))).st (genL (decL decI L.length (rowP encI L))).si (genL (decL decI L.length (rowP encI L))).le)
                                            at_ n (decL decI L.length (rowP encI L))).si
                                        (bentA
                                            (Al.mk (genL (decL decI L.length (rowP encI L))).r (genL (decL decI L.length (rowP encI L))).ver
                                              (decL dec2 (genL (decL decI L.length (rowP encI L))).L.length (rowP enc2 (genL (decL decI L.length (rowP encI L))).L))
                                              (genL (decL decI L.length (rowP encI L))).st (genL (decL decI L.length (rowP encI L))).si (genL (decL decI L.length (rowP encI L))).le)
                                            at_ n (decL decI L.length (rowP encI L))).le)
                                      m0 m1 m2).fst.L))
                            (alEsc
                                  (Al.mk
                                    (bentA
                                        (Al.mk (genL (decL decI L.length (rowP encI L))).r (genL (decL decI L.length (rowP encI L))).ver
                                          (decL dec2 (genL (decL decI L.length (rowP encI L))).L.length (rowP enc2 (genL (decL decI L.length (rowP encI L))).L))
                                          (genL (decL decI L.length (rowP encI L))).st (genL (decL decI L.length (rowP encI L))).si (genL (decL decI L.length (rowP encI L))).le)
                                        at_ n (decL decI L.length (rowP encI L))).r
                                    (bentA
                                        (Al.mk (genL (decL decI L.length (rowP encI L))).r (genL (decL decI L.length (rowP encI L))).ver
                                          (decL dec2 (genL (decL decI L.length (rowP encI L))).L.length (rowP enc2 (genL (decL decI L.length (rowP encI L))).L))
                                          (genL (decL decI L.length (rowP encI L))).st (genL (decL decI L.length (rowP encI L))).si (genL (decL decI L.length (rowP encI L))).le)
                                        at_ n (decL decI L.length (rowP encI L))).ver
                                    (decL dec2
                                      (bentA
                                            (Al.mk (genL (decL decI L.length (rowP encI L))).r (genL (decL decI L.length (rowP encI L))).ver
                                              (decL dec2 (genL (decL decI L.length (rowP encI L))).L.length (rowP enc2 (genL (decL decI L.length (rowP encI L))).L))
                                              (genL (decL decI L.length (rowP encI L))).st (genL (decL decI L.length (rowP encI L))).si (genL (decL decI L.length (rowP encI L))).le)
                                            at_ n (decL decI L.length (rowP encI L))).L.length
                                      (rowP enc2
                                        (bentA
                                            (Al.mk (genL (decL decI L.length (rowP encI L))).r (genL (decL decI L.length (rowP encI L))).ver
                                              (decL dec2 (genL (decL decI L.length (rowP encI L))).L.length (rowP enc2 (genL (decL decI L.length (rowP encI L))).L))
                                              (genL (decL decI L.length (rowP encI L))).st (genL (decL decI L.length (rowP encI L))).si (genL (decL decI L.length (rowP encI L))).le)
                                            at_ n (decL decI L.length (rowP encI L))).L))
                                    (bentA
                                        (Al.mk (genL (decL decI L.length (rowP encI L))).r (genL (decL decI L.length (rowP encI L))).ver
                                          (decL dec2 (genL (decL decI L.length (rowP encI L))).L.length (rowP enc2 (genL (decL decI L.length (rowP encI L))).L))
                                          (genL (decL decI L.length (rowP encI L))).st (genL (decL decI L.length (rowP encI L))).si (genL (decL decI L.length (rowP encI L))).le)
                                        at_ n (decL decI L.length (rowP encI L))).st
                                    (bentA
                                        (Al.mk (genL (decL decI L.length (rowP encI L))).r (genL (decL decI L.length (rowP encI L))).ver
                                          (decL dec2 (genL (decL decI L.length (rowP encI L))).L.length (rowP enc2 (genL (decL decI L.length (rowP encI L))).L))
                                          (genL (decL decI L.length (rowP encI L))).st (genL (decL decI L.length (rowP encI L))).si (genL (decL decI L.length (rowP encI L))).le)
                                        at_ n (decL decI L.length (rowP encI L))).si
                                    (bentA
                                        (Al.mk (genL (decL decI L.length (rowP encI L))).r (genL (decL decI L.length (rowP encI L))).ver
                                          (decL dec2 (genL (decL decI L.length (rowP encI L))).L.length (rowP enc2 (genL (decL decI L.length (rowP encI L))).L))
                                          (genL (decL decI L.length (rowP encI L))).st (genL (decL decI L.length (rowP encI L))).si (genL (decL decI L.length (rowP encI L))).le)
                                        at_ n (decL decI L.length (rowP encI L))).le)
                                  m0 m1 m2).fst.st
                            (alEsc
                                  (Al.mk
                                    (bentA
                                        (Al.mk (genL (decL decI L.length (rowP encI L))).r (genL (decL decI L.length (rowP encI L))).ver
                                          (decL dec2 (genL (decL decI L.length (rowP encI L))).L.length (rowP enc2 (genL (decL decI L.length (rowP encI L))).L))
                                          (genL (decL decI L.length (rowP encI L))).st (genL (decL decI L.length (rowP encI L))).si (genL (decL decI L.length (rowP encI L))).le)
                                        at_ n (decL decI L.length (rowP encI L))).r
                                    (bentA
                                        (Al.mk (genL (decL decI L.length (rowP encI L))).r (genL (decL decI L.length (rowP encI L))).ver
                                          (decL dec2 (genL (decL decI L.length (rowP encI L))).L.length (rowP enc2 (genL (decL decI L.length (rowP encI L))).L))
                                          (genL (decL decI L.length (rowP encI L))).st (genL (decL decI L.length (rowP encI L))).si (genL (decL decI L.length (rowP encI L))).le)
                                        at_ n (decL decI L.length (rowP encI L))).ver
                                    (decL dec2
                                      (bentA
                                            (Al.mk (genL (decL decI L.length (rowP encI L))).r (genL (decL decI L.length (rowP encI L))).ver
                                              (decL dec2 (genL (decL decI L.length (rowP encI L))).L.length (rowP enc2 (genL (decL decI L.length (rowP encI L))).L))
                                              (genL (decL decI L.length (rowP encI L))).st (genL (decL decI L.length (rowP encI L))).si (genL (decL decI L.length (rowP encI L))).le)
                                            at_ n (decL decI L.length (rowP encI L))).L.length
                                      (rowP enc2
                                        (bentA
                                            (Al.mk (genL (decL decI L.length (rowP encI L))).r (genL (decL decI L.length (rowP encI L))).ver
                                              (decL dec2 (genL (decL decI L.length (rowP encI L))).L.length (rowP enc2 (genL (decL decI L.length (rowP encI L))).L))
                                              (genL (decL decI L.length (rowP encI L))).st (genL (decL decI L.length (rowP encI L))).si (genL (decL decI L.length (rowP encI L))).le)
                                            at_ n (decL decI L.length (rowP encI L))).L))
                                    (bentA
                                        (Al.mk (genL (decL decI L.length (rowP encI L))).r (genL (decL decI L.length (rowP encI L))).ver
                                          (decL dec2 (genL (decL decI L.length (rowP encI L))).L.length (rowP enc2 (genL (decL decI L.length (rowP encI L))).L))
                                          (genL (decL decI L.length (rowP encI L))).st (genL (decL decI L.length (rowP encI L))).si (genL (decL decI L.length (rowP encI L))).le)
                                        at_ n (decL decI L.length (rowP encI L))).st
                                    (bentA
                                        (Al.mk (genL (decL decI L.length (rowP encI L))).r (genL (decL decI L.length (rowP encI L))).ver
                                          (decL dec2 (genL (decL decI L.length (rowP encI L))).L.length (rowP enc2 (genL (decL decI L.length (rowP encI L))).L))
                                          (genL (decL decI L.length (rowP encI L))).st (genL (decL decI L.length (rowP encI L))).si (genL (decL decI L.length (rowP encI L))).le)
                                        at_ n (decL decI L.length (rowP encI L))).si
                                    (bentA
                                        (Al.mk (genL (decL decI L.length (rowP encI L))).r (genL (decL decI L.length (rowP encI L))).ver
                                          (decL dec2 (genL (decL decI L.length (rowP encI L))).L.length (rowP enc2 (genL (decL decI L.length (rowP encI L))).L))
                                          (genL (decL decI L.length (rowP encI L))).st (genL (decL decI L.length (rowP encI L))).si (genL (decL decI L.length (rowP encI L))).le)
                                        at_ n (decL decI L.length (rowP encI L))).le)
                                  m0 m1 m2).fst.si
                            (alEsc
                                  (Al.mk
                                    (bentA
                                        (Al.mk (genL (decL decI L.length (rowP encI L))).r (genL (decL decI L.length (rowP encI L))).ver
                                          (decL dec2 (genL (decL decI L.length (rowP encI L))).L.length (rowP enc2 (genL (decL decI L.length (rowP encI L))).L))
                                          (genL (decL decI L.length (rowP encI L))).st (genL (decL decI L.length (rowP encI L))).si (genL (decL decI L.length (rowP encI L))).le)
                                        at_ n (decL decI L.length (rowP encI L))).r
                                    (bentA
                                        (Al.mk (genL (decL decI L.length (rowP encI L))).r (genL (decL decI L.length (rowP encI L))).ver
                                          (decL dec2 (genL (decL decI L.length (rowP encI L))).L.length (rowP enc2 (genL (decL decI L.length (rowP encI L))).L))
                                          (genL (decL decI L.length (rowP encI L))).st (genL (decL decI L.length (rowP encI L))).si (genL (decL decI L.length (rowP encI L))).le)
                                        at_ n (decL decI L.length (rowP encI L))).ver
                                    (decL dec2
                                      (bentA
                                            (Al.mk (genL (decL decI L.length (rowP encI L))).r (genL (decL decI L.length (rowP encI L))).ver
                                              (decL dec2 (genL (decL decI L.length (rowP encI L))).L.length (rowP enc2 (genL (decL decI L.length (rowP encI L))).L))
                                              (genL (decL decI L.length (rowP encI L))).st (genL (decL decI L.length (rowP encI L))).si (genL (decL decI L.length (rowP encI L))).le)
                                            at_ n (decL decI L.length (rowP encI L))).L.length
                                      (rowP enc2
                                        (bentA
                                            (Al.mk (genL (decL decI L.length (rowP encI L))).r (genL (decL decI L.length (rowP encI L))).ver
                                              (decL dec2 (genL (decL decI L.length (rowP encI L))).L.length (rowP enc2 (genL (decL decI L.length (rowP encI L))).L))
                                              (genL (decL decI L.length (rowP encI L))).st (genL (decL decI L.length (rowP encI L))).si (genL (decL decI L.length (rowP encI L))).le)
                                            at_ n (decL decI L.length (rowP encI L))).L))
                                    (bentA
                                        (Al.mk (genL (decL decI L.length (rowP encI L))).r (genL (decL decI L.length (rowP encI L))).ver
                                          (decL dec2 (genL (decL decI L.length (rowP encI L))).L.length (rowP enc2 (genL (decL decI L.length (rowP encI L))).L))
                                          (genL (decL decI L.length (rowP encI L))).st (genL (decL decI L.length (rowP encI L))).si (genL (decL decI L.length (rowP encI L))).le)
                                        at_ n (decL decI L.length (rowP encI L))).st
                                    (bentA
                                        (Al.mk (genL (decL decI L.length (rowP encI L))).r (genL (decL decI L.length (rowP encI L))).ver
                                          (decL dec2 (genL (decL decI L.length (rowP encI L))).L.length (rowP enc2 (genL (decL decI L.length (rowP encI L))).L))
                                          (genL (decL decI L.length (rowP encI L))).st (genL (decL decI L.length (rowP encI L))).si (genL (decL decI L.length (rowP encI L))).le)
                                        at_ n (decL decI L.length (rowP encI L))).si
                                    (bentA
                                        (Al.mk (genL (decL decI L.length (rowP encI L))).r (genL (decL decI L.length (rowP encI L))).ver
                                          (decL dec2 (genL (decL decI L.length (rowP encI L))).L.length (rowP enc2 (genL (decL decI L.length (rowP encI L))).L))
                                          (genL (decL decI L.length (rowP encI L))).st (genL (decL decI L.length (rowP encI L))).si (genL (decL decI L.length (rowP encI L))).le)
                                        at_ n (decL decI L.length (rowP encI L))).le)
                                  m0 m1 m2).fst.le).L.length ≤
                      1000000)
                  (bT
                    (!alEq
                        (Al.mk
                          (alEsc
                                (Al.mk
                                  (bentA
                                      (Al.mk (genL (decL decI L.length (rowP encI L))).r (genL (decL decI L.length (rowP encI L))).ver
                                        (decL dec2 (genL (decL decI L.length (rowP encI L))).L.length (rowP enc2 (genL (decL decI L.length (rowP encI L))).L))
                                        (genL (decL decI L.length (rowP encI L))).st (genL (decL decI L.length (rowP encI L))).si (genL (decL decI L.length (rowP encI L))).le)
                                      at_ n (decL decI L.length (rowP encI L))).r
                                  (bentA
                                      (Al.mk (genL (decL decI L.length (rowP encI L))).r (genL (decL decI L.length (rowP encI L))).ver
                                        (decL dec2 (genL (decL decI L.length (rowP encI L))).L.length (rowP enc2 (genL (decL decI L.length (rowP encI L))).L))
                                        (genL (decL decI L.length (rowP encI L))).st (genL (decL decI L.length (rowP encI L))).si (genL (decL decI L.length (rowP encI L))).le)
                                      at_ n (decL decI L.length (rowP encI L))).ver
                                  (decL dec2
                                    (bentA
                                          (Al.mk (genL (decL decI L.length (rowP encI L))).r (genL (decL decI L.length (rowP encI L))).ver
                                            (decL dec2 (genL (decL decI L.length (rowP encI L))).L.length (rowP enc2 (genL (decL decI L.length (rowP encI L))).L))
                                            (genL (decL decI L.length (rowP encI L))).st (genL (decL decI L.length (rowP encI L))).si (genL (decL decI L.length (rowP encI L))).le)
                                          at_ n (decL decI L.length (rowP encI L))).L.length
                                    (rowP enc2
                                      (bentA
                                          (Al.mk (genL (decL decI L.length (rowP encI L))).r (genL (decL decI L.length (rowP encI L))).ver
                                            (decL dec2 (genL (decL decI L.length (rowP encI L))).L.length (rowP enc2 (genL (decL decI L.length (rowP encI L))).L))
                                            (genL (decL decI L.length (rowP encI L))).st (genL (decL decI L.length (rowP encI L))).si (genL (decL decI L.length (rowP encI L))).le)
                                          at_ n (decL decI L.length (rowP encI L))).L))
                                  (bentA
                                      (Al.mk (genL (decL decI L.length (rowP encI L))).r (genL (decL decI L.length (rowP encI L))).ver
                                        (decL dec2 (genL (decL decI L.length (rowP encI L))).L.length (rowP enc2 (genL (decL decI L.length (rowP encI L))).L))
                                        (genL (decL decI L.length (rowP encI L))).st (genL (decL decI L.length (rowP encI L))).si (genL (decL decI L.length (rowP encI L))).le)
                                      at_ n (decL decI L.length (rowP encI L))).st
                                  (bentA
                                      (Al.mk (genL (decL decI L.length (rowP encI L))).r (genL (decL decI L.length (rowP encI L))).ver
                                        (decL dec2 (genL (decL decI L.length (rowP encI L))).L.length (rowP enc2 (genL (decL decI L.length (rowP encI L))).L))
                                        (genL (decL decI L.length (rowP encI L))).st (genL (decL decI L.length (rowP encI L))).si (genL (decL decI L.length (rowP encI L))).le)
                                      at_ n (decL decI L.length (rowP encI L))).si
                                  (bentA
                                      (Al.mk (genL (decL decI L.length (rowP encI L))).r (genL (decL decI L.length (rowP encI L))).ver
                                        (decL dec2 (genL (decL decI L.length (rowP encI L))).L.length (rowP enc2 (genL (decL decI L.length (rowP encI L))).L))
                                        (genL (decL decI L.length (rowP encI L))).st (genL (decL decI L.length (rowP encI L))).si (genL (decL decI L.length (rowP encI L))).le)
                                      at_ n (decL decI L.length (rowP encI L))).le)
                                m0 m1 m2).fst.r
                          (alEsc
                                (Al.mk
                                  (bentA
                                      (Al.mk (genL (decL decI L.length (rowP encI L))).r (genL (decL decI L.length (rowP encI L))).ver
                                        (decL dec2 (genL (decL decI L.length (rowP encI L))).L.length (rowP enc2 (genL (decL decI L.length (rowP encI L))).L))
                                        (genL (decL decI L.length (rowP encI L))).st (genL (decL decI L.length (rowP encI L))).si (genL (decL decI L.length (rowP encI L))).le)
                                      at_ n (decL decI L.length (rowP encI L))).r
                                  (bentA
                                      (Al.mk (genL (decL decI L.length (rowP encI L))).r (genL (decL decI L.length (rowP encI L))).ver
                                        (decL dec2 (genL (decL decI L.length (rowP encI L))).L.length (rowP enc2 (genL (decL decI L.length (rowP encI L))).L))
                                        (genL (decL decI L.length (rowP encI L))).st (genL (decL decI L.length (rowP encI L))).si (genL (decL decI L.length (rowP encI L))).le)
                                      at_ n (decL decI L.length (rowP encI L))).ver
                                  (decL dec2
                                    (bentA
                                          (Al.mk (genL (decL decI L.length (rowP encI L))).r (genL (decL decI L.length (rowP encI L))).ver
                                            (decL dec2 (genL (decL decI L.length (rowP encI L))).L.length (rowP enc2 (genL (decL decI L.length (rowP encI L))).L))
                                            (genL (decL decI L.length (rowP encI L))).st (genL (decL decI L.length (rowP encI L))).si (genL (decL decI L.length (rowP encI L))).le)
                                          at_ n (decL decI L.length (rowP encI L))).L.length
                                    (rowP enc2
                                      (bentA
                                          (Al.mk (genL (decL decI L.length (rowP encI L))).r (genL (decL decI L.length (rowP encI L))).ver
                                            (decL dec2 (genL (decL decI L.length (rowP encI L))).L.length (rowP enc2 (genL (decL decI L.length (rowP encI L))).L))
                                            (genL (decL decI L.length (rowP encI L))).st (genL (decL decI L.length (rowP encI L))).si (genL (decL decI L.length (rowP encI L))).le)
                                          at_ n (decL decI L.length (rowP encI L))).L))
                                  (bentA
                                      (Al.mk (genL (decL decI L.length (rowP encI L))).r (genL (decL decI L.length (rowP encI L))).ver
                                        (decL dec2 (genL (decL decI L.length (rowP encI L))).L.length (rowP enc2 (genL (decL decI L.length (rowP encI L))).L))
                                        (genL (decL decI L.length (rowP encI L))).st (genL (decL decI L.length (rowP encI L))).si (genL (decL decI L.length (rowP encI L))).le)
                                      at_ n (decL decI L.length (rowP encI L))).st
                                  (bentA
                                      (Al.mk (genL (decL decI L.length (rowP encI L))).r (genL (decL decI L.length (rowP encI L))).ver
                                        (decL dec2 (genL (decL decI L.length (rowP encI L))).L.length (rowP enc2 (genL (decL decI L.length (rowP encI L))).L))
                                        (genL (decL decI L.length (rowP encI L))).st (genL (decL decI L.length (rowP encI L))).si (genL (decL decI L.length (rowP encI L))).le)
                                      at_ n (decL decI L.length (rowP encI L))).si
                                  (bentA
                                      (Al.mk (genL (decL decI L.length (rowP encI L))).r (genL (decL decI L.length (rowP encI L))).ver
                                        (decL dec2 (genL (decL decI L.length (rowP encI L))).L.length (rowP enc2 (genL (decL decI L.length (rowP encI L))).L))
                                        (genL (decL decI L.length (rowP encI L))).st (genL (decL decI L.length (rowP encI L))).si (genL (decL decI L.length (rowP encI L))).le)
                                      at_ n (decL decI L.length (rowP encI L))).le)
                                m0 m1 m2).fst.ver
                          (decL dec2
                            (alEsc
                                    (Al.mk
                                      (bentA
                                          (Al.mk (genL (decL decI L.length (rowP encI L))).r (genL (decL decI L.length (rowP encI L))).ver
                                            (decL dec2 (genL (decL decI L.length (rowP encI L))).L.length (rowP enc2 (genL (decL decI L.length (rowP encI L))).L))
                                            (genL (decL decI L.length (rowP encI L))).st (genL (decL decI L.length (rowP encI L))).si (genL (decL decI L.length (rowP encI L))).le)
                                          at_ n (decL decI L.length (rowP encI L))).r
                                      (bentA
                                          (Al.mk (genL (decL decI L.length (rowP encI L))).r (genL (decL decI L.length (rowP encI L))).ver
                                            (decL dec2 (genL (decL decI L.length (rowP encI L))).L.length (rowP enc2 (genL (decL decI L.length (rowP encI L))).L))
                                            (genL (decL decI L.length (rowP encI L))).st (genL (decL decI L.length (rowP encI L))).si (genL (decL decI L.length (rowP encI L))).le)
                                          at_ n (decL decI L.length (rowP encI L))).ver
                                      (decL dec2
                                        (bentA
                                              (Al.mk (genL (decL decI L.length (rowP encI L))).r (genL (decL decI L.length (rowP encI L))).ver
                                                (decL dec2 (genL (decL decI L.length (rowP encI L))).L.length (rowP enc2 (genL (decL decI L.length (rowP encI L))).L))
                                                (genL (decL decI L.length (rowP encI L))).st (genL (decL decI L.length (rowP encI L))).si (genL (decL decI L.length (rowP encI L))).le)
                                              at_ n (decL decI L.length (rowP encI L))).L.length
                                        (rowP enc2
                                          (bentA
                                              (Al.mk (genL (decL decI L.length (rowP encI L))).r (genL (decL decI L.length (rowP encI L))).ver
                                                (decL dec2 (genL (decL decI L.length (rowP encI L))).L.length (rowP enc2 (genL (decL decI L.length (rowP encI L))).L))
                                                (genL (decL decI L.length (rowP encI L))).st (genL (decL decI L.length (rowP encI L))).si (genL (decL decI L.length (rowP encI L))).le)
                                              at_ n (decL decI L.length (rowP encI L))).L))
                                      (bentA
                                          (Al.mk (genL (decL decI L.length (rowP encI L))).r (genL (decL decI L.length (rowP encI L))).ver
                                            (decL dec2 (genL (decL decI L.length (rowP encI L))).L.length (rowP enc2 (genL (decL decI L.length (rowP encI L))).L))
                                            (genL (decL decI L.length (rowP encI L))).st (genL (decL decI L.length (rowP encI L))).si (genL (decL decI L.length (rowP encI L))).le)
                                          at_ n (decL decI L.length (rowP encI L))).st
                                      (bentA
                                          (Al.mk (genL (decL decI L.length (rowP encI L))).r (genL (decL decI L.length (rowP encI L))).ver
                                            (decL dec2 (genL (decL decI L.length (rowP encI L))).L.length (rowP enc2 (genL (decL decI L.length (rowP encI L))).L))
                                            (genL (decL decI L.length (rowP encI L))).st (genL (decL decI L.length (rowP encI L))).si (genL (decL decI L.length (rowP encI L))).le)
                                          at_ n (decL decI L.length (rowP encI L))).si
                                      (bentA
                                          (Al.mk (genL (decL decI L.length (rowP encI L))).r (genL (decL decI L.length (rowP encI L))).ver
                                            (decL dec2 (genL (decL decI L.length (rowP encI L))).L.length (rowP enc2 (genL (decL decI L.length (rowP encI L))).L))
                                            (genL (decL decI L.length (rowP encI L))).st (genL (decL decI L.length (rowP encI L))).si (genL (decL decI L.length (rowP encI L))).le)
                                          at_ n (decL decI L.length (rowP encI L))).le)
                                    m0 m1 m2).fst.L.length
                            (rowP enc2
                              (alEsc
                                    (Al.mk
                                      (bentA
                                          (Al.mk (genL (decL decI L.length (rowP encI L))).r (genL (decL decI L.length (rowP encI L))).ver
                                            (decL dec2 (genL (decL decI L.length (rowP encI L))).L.length (rowP enc2 (genL (decL decI L.length (rowP encI L))).L))
                                            (genL (decL decI L.length (rowP encI L))).st (genL (decL decI L.length (rowP encI L))).si (genL (decL decI L.length (rowP encI L))).le)
                                          at_ n (decL decI L.length (rowP encI L))).r
                                      (bentA
                                          (Al.mk (genL (decL decI L.length (rowP encI L))).r (genL (decL decI L.length (rowP encI L))).ver
                                            (decL dec2 (genL (decL decI L.length (rowP encI L))).L.length (rowP enc2 (genL (decL decI L.length (rowP encI L))).L))
                                            (genL (decL decI L.length (rowP encI L))).st (genL (decL decI L.length (rowP encI L))).si (genL (decL decI L.length (rowP encI L))).le)
                                          at_ n (decL decI L.length (rowP encI L))).ver
                                      (decL dec2
                                        (bentA
                                              (Al.mk (genL (decL decI L.length (rowP encI L))).r (genL (decL decI L.length (rowP encI L))).ver
                                                (decL dec2 (genL (decL decI L.length (rowP encI L))).L.length (rowP enc2 (genL (decL decI L.length (rowP encI L))).L))
                                                (genL (decL decI L.length (rowP encI L))).st (genL (decL decI L.length (rowP encI L))).si (genL (decL decI L.length (rowP encI L))).le)
                                              at_ n (decL decI L.length (rowP encI L))).L.length
                                        (rowP enc2
                                          (bentA
                                              (Al.mk (genL (decL decI L.length (rowP encI L))).r (genL (decL decI L.length (rowP encI L))).ver
                                                (decL dec2 (genL (decL decI L.length (rowP encI L))).L.length (rowP enc2 (genL (decL decI L.length (rowP encI L))).L))
                                                (genL (decL decI L.length (rowP encI L))).st (genL (decL decI L.length (rowP encI L))).si (genL (decL decI L.length (rowP encI L))).le)
                                              at_ n (decL decI L.length (rowP encI L))).L))
                                      (bentA
                                          (Al.mk (genL (decL decI L.length (rowP encI L))).r (genL (decL decI L.length (rowP encI L))).ver
                                            (decL dec2 (genL (decL decI L.length (rowP encI L))).L.length (rowP enc2 (genL (decL decI L.length (rowP encI L))).L))
                                            (genL (decL decI L.length (rowP encI L))).st (genL (decL decI L.length (rowP encI L))).si (genL (decL decI L.length (rowP encI L))).le)
                                          at_ n (decL decI L.length (rowP encI L))).st
                                      (bentA
                                          (Al.mk (genL (decL decI L.length (rowP encI L))).r (genL (decL decI L.length (rowP encI L))).ver
                                            (decL dec2 (genL (decL decI L.length (rowP encI L))).L.length (rowP enc2 (genL (decL decI L.length (rowP encI L))).L))
                                            (genL (decL decI L.length (rowP encI L))).st (genL (decL decI L.length (rowP encI L))).si (genL (decL decI L.length (rowP encI L))).le)
                                          at_ n (decL decI L.length (rowP encI L))).si
                                      (bentA
                                          (Al.mk (genL (decL decI L.length (rowP encI L))).r (genL (decL decI L.length (rowP encI L))).ver
                                            (decL dec2 (genL (decL decI L.length (rowP encI L))).L.length (rowP enc2 (genL (decL decI L.length (rowP encI L))).L))
                                            (genL (decL decI L.length (rowP encI L))).st (genL (decL decI L.length (rowP encI L))).si (genL (decL decI L.length (rowP encI L))).le)
                                          at_ n (decL decI L.length (rowP encI L))).le)
                                    m0 m1 m2).fst.L))
                          (alEsc
                                (Al.mk
                                  (bentA
                                      (Al.mk (genL (decL decI L.length (rowP encI L))).r (genL (decL decI L.length (rowP encI L))).ver
                                        (decL dec2 (genL (decL decI L.length (rowP encI L))).L.length (rowP enc2 (genL (decL decI L.length (rowP encI L))).L))
                                        (genL (decL decI L.length (rowP encI L))).st (genL (decL decI L.length (rowP encI L))).si (genL (decL decI L.length (rowP encI L))).le)
                                      at_ n (decL decI L.length (rowP encI L))).r
                                  (bentA
                                      (Al.mk (genL (decL decI L.length (rowP encI L))).r (genL (decL decI L.length (rowP encI L))).ver
                                        (decL dec2 (genL (decL decI L.length (rowP encI L))).L.length (rowP enc2 (genL (decL decI L.length (rowP encI L))).L))
                                        (genL (decL decI L.length (rowP encI L))).st (genL (decL decI L.length (rowP encI L))).si (genL (decL decI L.length (rowP encI L))).le)
                                      at_ n (decL decI L.length (rowP encI L))).ver
                                  (decL dec2
                                    (bentA
                                          (Al.mk (genL (decL decI L.length (rowP encI L))).r (genL (decL decI L.length (rowP encI L))).ver
                                            (decL dec2 (genL (decL decI L.length (rowP encI L))).L.length (rowP enc2 (genL (decL decI L.length (rowP encI L))).L))
                                            (genL (decL decI L.length (rowP encI L))).st (genL (decL decI L.length (rowP encI L))).si (genL (decL decI L.length (rowP encI L))).le)
                                          at_ n (decL decI L.length (rowP encI L))).L.length
                                    (rowP enc2
                                      (bentA
                                          (Al.mk (genL (decL decI L.length (rowP encI L))).r (genL (decL decI L.length (rowP encI L))).ver
                                            (decL dec2 (genL (decL decI L.length (rowP encI L))).L.length (rowP enc2 (genL (decL decI L.length (rowP encI L))).L))
                                            (genL (decL decI L.length (rowP encI L))).st (genL (decL decI L.length (rowP encI L))).si (genL (decL decI L.length (rowP encI L))).le)
                                          at_ n (decL decI L.length (rowP encI L))).L))
                                  (bentA
                                      (Al.mk (genL (decL decI L.length (rowP encI L))).r (genL (decL decI L.length (rowP encI L))).ver
                                        (decL dec2 (genL (decL decI L.length (rowP encI L))).L.length (rowP enc2 (genL (decL decI L.length (rowP encI L))).L))
                                        (genL (decL decI L.length (rowP encI L))).st (genL (decL decI L.length (rowP encI L))).si (genL (decL decI L.length (rowP encI L))).le)
                                      at_ n (decL decI L.length (rowP encI L))).st
                                  (bentA
                                      (Al.mk (genL (decL decI L.length (rowP encI L))).r (genL (decL decI L.length (rowP encI L))).ver
                                        (decL dec2 (genL (decL decI L.length (rowP encI L))).L.length (rowP enc2 (genL (decL decI L.length (rowP encI L))).L))
                                        (genL (decL decI L.length (rowP encI L))).st (genL (decL decI L.length (rowP encI L))).si (genL (decL decI L.length (rowP encI L))).le)
                                      at_ n (decL decI L.length (rowP encI L))).si
                                  (bentA
                                      (Al.mk (genL (decL decI L.length (rowP encI L))).r (genL (decL decI L.length (rowP encI L))).ver
                                        (decL dec2 (genL (decL decI L.length (rowP encI L))).L.length (rowP enc2 (genL (decL decI L.length (rowP encI L))).L))
                                        (genL (decL decI L.length (rowP encI L))).st (genL (decL decI L.length (rowP encI L))).si (genL (decL decI L.length (rowP encI L))).le)
                                      at_ n (decL decI L.length (rowP encI L))).le)
                                m0 m1 m2).fst.st
                          (alEsc
                                (Al.mk
                                  (bentA
                                      (Al.mk (genL (decL decI L.length (rowP encI L))).r (genL (decL decI L.length (rowP encI L))).ver
                                        (decL dec2 (genL (decL decI L.length (rowP encI L))).L.length (rowP enc2 (genL (decL decI L.length (rowP encI L))).L))
                                        (genL (decL decI L.length (rowP encI L))).st (genL (decL decI L.length (rowP encI L))).si (genL (decL decI L.length (rowP encI L))).le)
                                      at_ n (decL decI L.length (rowP encI L))).r
                                  (bentA
                                      (Al.mk (genL (decL decI L.length (rowP encI L))).r (genL (decL decI L.length (rowP encI L))).ver
                                        (decL dec2 (genL (decL decI L.length (rowP encI L))).L.length (rowP enc2 (genL (decL decI L.length (rowP encI L))).L))
                                        (genL (decL decI L.length (rowP encI L))).st (genL (decL decI L.length (rowP encI L))).si (genL (decL decI L.length (rowP encI L))).le)
                                      at_ n (decL decI L.length (rowP encI L))).ver
                                  (decL dec2
                                    (bentA
                                          (Al.mk (genL (decL decI L.length (rowP encI L))).r (genL (decL decI L.length (rowP encI L))).ver
                                            (decL dec2 (genL (decL decI L.length (rowP encI L))).L.length (rowP enc2 (genL (decL decI L.length (rowP encI L))).L))
                                            (genL (decL decI L.length (rowP encI L))).st (genL (decL decI L.length (rowP encI L))).si (genL (decL decI L.length (rowP encI L))).le)
                                          at_ n (decL decI L.length (rowP encI L))).L.length
                                    (rowP enc2
                                      (bentA
                                          (Al.mk (genL (decL decI L.length (rowP encI L))).r (genL (decL decI L.length (rowP encI L))).ver
                                            (decL dec2 (genL (decL decI L.length (rowP encI L))).L.length (rowP enc2 (genL (decL decI L.length (rowP encI L))).L))
                                            (genL (decL decI L.length (rowP encI L))).st (genL (decL decI L.length (rowP encI L))).si (genL (decL decI L.length (rowP encI L))).le)
                                          at_ n (decL decI L.length (rowP encI L))).L))
                                  (bentA
                                      (Al.mk (genL (decL decI L.length (rowP encI L))).r (genL (decL decI L.length (rowP encI L))).ver
                                        (decL dec2 (genL (decL decI L.length (rowP encI L))).L.length (rowP enc2 (genL (decL decI L.length (rowP encI L))).L))
                                        (genL (decL decI L.length (rowP encI L))).st (genL (decL decI L.length (rowP encI L))).si (genL (decL decI L.length (rowP encI L))).le)
                                      at_ n (decL decI L.length (rowP encI L))).st
                                  (bentA
                                      (Al.mk (genL (decL decI L.length (rowP encI L))).r (genL (decL decI L.length (rowP encI L))).ver
                                        (decL dec2 (genL (decL decI L.length (rowP encI L))).L.length (rowP enc2 (genL (decL decI L.length (rowP encI L))).L))
                                        (genL (decL decI L.length (rowP encI L))).st (genL (decL decI L.length (rowP encI L))).si (genL (decL decI L.length (rowP encI L))).le)
                                      at_ n (decL decI L.length (rowP encI L))).si
                                  (bentA
                                      (Al.mk (genL (decL decI L.length (rowP encI L))).r (genL (decL decI L.length (rowP encI L))).ver
                                        (decL dec2 (genL (decL decI L.length (rowP encI L))).L.length (rowP enc2 (genL (decL decI L.length (rowP encI L))).L))
                                        (genL (decL decI L.length (rowP encI L))).st (genL (decL decI L.length (rowP encI L))).si (genL (decL decI L.length (rowP encI L))).le)
                                      at_ n (decL decI L.length (rowP encI L))).le)
                                m0 m1 m2).fst.si
                          (alEsc
                                (Al.mk
                                  (bentA
                                      (Al.mk (genL (decL decI L.length (rowP encI L))).r (genL (decL decI L.length (rowP encI L))).ver
                                        (decL dec2 (genL (decL decI L.length (rowP encI L))).L.length (rowP enc2 (genL (decL decI L.length (rowP encI L))).L))
                                        (genL (decL decI L.length (rowP encI L))).st (genL (decL decI L.length (rowP encI L))).si (genL (decL decI L.length (rowP encI L))).le)
                                      at_ n (decL decI L.length (rowP encI L))).r
                                  (bentA
                                      (Al.mk (genL (decL decI L.length (rowP encI L))).r (genL (decL decI L.length (rowP encI L))).ver
                                        (decL dec2 (genL (decL decI L.length (rowP encI L))).L.length (rowP enc2 (genL (decL decI L.length (rowP encI L))).L))
                                        (genL (decL decI L.length (rowP encI L))).st (genL (decL decI L.length (rowP encI L))).si (genL (decL decI L.length (rowP encI L))).le)
                                      at_ n (decL decI L.length (rowP encI L))).ver
                                  (decL dec2
                                    (bentA
                                          (Al.mk (genL (decL decI L.length (rowP encI L))).r (genL (decL decI L.length (rowP encI L))).ver
                                            (decL dec2 (genL (decL decI L.length (rowP encI L))).L.length (rowP enc2 (genL (decL decI L.length (rowP encI L))).L))
                                            (genL (decL decI L.length (rowP encI L))).st (genL (decL decI L.length (rowP encI L))).si (genL (decL decI L.length (rowP encI L))).le)
                                          at_ n (decL decI L.length (rowP encI L))).L.length
                                    (rowP enc2
                                      (bentA
                                          (Al.mk (genL (decL decI L.length (rowP encI L))).r (genL (decL decI L.length (rowP encI L))).ver
                                            (decL dec2 (genL (decL decI L.length (rowP encI L))).L.length (rowP enc2 (genL (decL decI L.length (rowP encI L))).L))
                                            (genL (decL decI L.length (rowP encI L))).st (genL (decL decI L.length (rowP encI L))).si (genL (decL decI L.length (rowP encI L))).le)
                                          at_ n (decL decI L.length (rowP encI L))).L))
                                  (bentA
                                      (Al.mk (genL (decL decI L.length (rowP encI L))).r (genL (decL decI L.length (rowP encI L))).ver
                                        (decL dec2 (genL (decL decI L.length (rowP encI L))).L.length (rowP enc2 (genL (decL decI L.length (rowP encI L))).L))
                                        (genL (decL decI L.length (rowP encI L))).st (genL (decL decI L.length (rowP encI L))).si (genL (decL decI L.length (rowP encI L))).le)
                                      at_ n (decL decI L.length (rowP encI L))).st
                                  (bentA
                                      (Al.mk (genL (decL decI L.length (rowP encI L))).r (genL (decL decI L.length (rowP encI L))).ver
                                        (decL dec2 (genL (decL decI L.length (rowP encI L))).L.length (rowP enc2 (genL (decL decI L.length (rowP encI L))).L))
                                        (genL (decL decI L.length (rowP encI L))).st (genL (decL decI L.length (rowP encI L))).si (genL (decL decI L.length (rowP encI L))).le)
                                      at_ n (decL decI L.length (rowP encI L))).si
                                  (bentA
                                      (Al.mk (genL (decL decI L.length (rowP encI L))).r (genL (decL decI L.length (rowP encI L))).ver
                                        (decL dec2 (genL (decL decI L.length (rowP encI L))).L.length (rowP enc2 (genL (decL decI L.length (rowP encI L))).L))
                                        (genL (decL decI L.length (rowP encI L))).st (genL (decL decI L.length (rowP encI L))).si (genL (decL decI L.length (rowP encI L))).le)
                                      at_ n (decL decI L.length (rowP encI L))).le)
                                m0 m1 m2).fst.le)
                        (Al.mk
                          (alEsc
                                (Al.mk
                                  (bentA
                                      (Al.mk (genL (decL decI L.length (rowP encI L))).r (genL (decL decI L.length (rowP encI L))).ver
                                        (decL dec2 (genL (decL decI L.length (rowP encI L))).L.length (rowP enc2 (genL (decL decI L.length (rowP encI L))).L))
                                        (genL (decL decI L.length (rowP encI L))).st (genL (decL decI L.length (rowP encI L))).si (genL (decL decI L.length (rowP encI L))).le)
                                      at_ n (decL decI L.length (rowP encI L))).r
                                  (bentA
                                      (Al.mk (genL (decL decI L.length (rowP encI L))).r (genL (decL decI L.length (rowP encI L))).ver
                                        (decL dec2 (genL (decL decI L.length (rowP encI L))).L.length (rowP enc2 (genL (decL decI L.length (rowP encI L))).L))
                                        (genL (decL decI L.length (rowP encI L))).st (genL (decL decI L.length (rowP encI L))).si (genL (decL decI L.length (rowP encI L))).le)
                                      at_ n (decL decI L.length (rowP encI L))).ver
                                  (decL dec2
                                    (bentA
                                          (Al.mk (genL (decL decI L.length (rowP encI L))).r (genL (decL decI L.length (rowP encI L))).ver
                                            (decL dec2 (genL (decL decI L.length (rowP encI L))).L.length (rowP enc2 (genL (decL decI L.length (rowP encI L))).L))
                                            (genL (decL decI L.length (rowP encI L))).st (genL (decL decI L.length (rowP encI L))).si (genL (decL decI L.length (rowP encI L))).le)
                                          at_ n (decL decI L.length (rowP encI L))).L.length
                                    (rowP enc2
                                      (bentA
                                          (Al.mk (genL (decL decI L.length (rowP encI L))).r (genL (decL decI L.length (rowP encI L))).ver
                                            (decL dec2 (genL (decL decI L.length (rowP encI L))).L.length (rowP enc2 (genL (decL decI L.length (rowP encI L))).L))
                                            (genL (decL decI L.length (rowP encI L))).st (genL (decL decI L.length (rowP encI L))).si (genL (decL decI L.length (rowP encI L))).le)
                                          at_ n (decL decI L.length (rowP encI L))).L))
                                  (bentA
                                      (Al.mk (genL (decL decI L.length (rowP encI L))).r (genL (decL decI L.length (rowP encI L))).ver
                                        (decL dec2 (genL (decL decI L.length (rowP encI L))).L.length (rowP enc2 (genL (decL decI L.length (rowP encI L))).L))
                                        (genL (decL decI L.length (rowP encI L))).st (genL (decL decI L.length (rowP encI L))).si (genL (decL decI L.length (rowP encI L))).le)
                                      at_ n (decL decI L.length (rowP encI L))).st
                                  (bentA
                                      (Al.mk (genL (decL decI L.length (rowP encI L))).r (genL (decL decI L.length (rowP encI L))).ver
                                        (decL dec2 (genL (decL decI L.length (rowP encI L))).L.length (rowP enc2 (genL (decL decI L.length (rowP encI L))).L))
                                        (genL (decL decI L.length (rowP encI L))).st (genL (decL decI L.length (rowP encI L))).si (genL (decL decI L.length (rowP encI L))).le)
                                      at_ n (decL decI L.length (rowP encI L))).si
                                  (bentA
                                      (Al.mk (genL (decL decI L.length (rowP encI L))).r (genL (decL decI L.length (rowP encI L))).ver
                                        (decL dec2 (genL (decL decI L.length (rowP encI L))).L.length (rowP enc2 (genL (decL decI L.length (rowP encI L))).L))
                                        (genL (decL decI L.length (rowP encI L))).st (genL (decL decI L.length (rowP encI L))).si (genL (decL decI L.length (rowP encI L))).le)
                                      at_ n (decL decI L.length (rowP encI L))).le)
                                m0 m1 m2).fst.r
                          (alEsc
                                (Al.mk
                                  (bentA
                                      (Al.mk (genL (decL decI L.length (rowP encI L))).r (genL (decL decI L.length (rowP encI L))).ver
                                        (decL dec2 (genL (decL decI L.length (rowP encI L))).L.length (rowP enc2 (genL (decL decI L.length (rowP encI L))).L))
                                        (genL (decL decI L.length (rowP encI L))).st (genL (decL decI L.length (rowP encI L))).si (genL (decL decI L.length (rowP encI L))).le)
                                      at_ n (decL decI L.length (rowP encI L))).r
                                  (bentA
                                      (Al.mk (genL (decL decI L.length (rowP encI L))).r (genL (decL decI L.length (rowP encI L))).ver
                                        (decL dec2 (genL (decL decI L.length (rowP encI L))).L.length (rowP enc2 (genL (decL decI L.length (rowP encI L))).L))
                                        (genL (decL decI L.length (rowP encI L))).st (genL (decL decI L.length (rowP encI L))).si (genL (decL decI L.length (rowP encI L))).le)
                                      at_ n (decL decI L.length (rowP encI L))).ver
                                  (decL dec2
                                    (bentA
                                          (Al.mk (genL (decL decI L.length (rowP encI L))).r (genL (decL decI L.length (rowP encI L))).ver
                                            (decL dec2 (genL (decL decI L.length (rowP encI L))).L.length (rowP enc2 (genL (decL decI L.length (rowP encI L))).L))
                                            (genL (decL decI L.length (rowP encI L))).st (genL (decL decI L.length (rowP encI L))).si (genL (decL decI L.length (rowP encI L))).le)
                                          at_ n (decL decI L.length (rowP encI L))).L.length
                                    (rowP enc2
                                      (bentA
                                          (Al.mk (genL (decL decI L.length (rowP encI L))).r (genL (decL decI L.length (rowP encI L))).ver
                                            (decL dec2 (genL (decL decI L.length (rowP encI L))).L.length (rowP enc2 (genL (decL decI L.length (rowP encI L))).L))
                                            (genL (decL decI L.length (rowP encI L))).st (genL (decL decI L.length (rowP encI L))).si (genL (decL decI L.length (rowP encI L))).le)
                                          at_ n (decL decI L.length (rowP encI L))).L))
                                  (bentA
                                      (Al.mk (genL (decL decI L.length (rowP encI L))).r (genL (decL decI L.length (rowP encI L))).ver
                                        (decL dec2 (genL (decL decI L.length (rowP encI L))).L.length (rowP enc2 (genL (decL decI L.length (rowP encI L))).L))
                                        (genL (decL decI L.length (rowP encI L))).st (genL (decL decI L.length (rowP encI L))).si (genL (decL decI L.length (rowP encI L))).le)
                                      at_ n (decL decI L.length (rowP encI L))).st
                                  (bentA
                                      (Al.mk (genL (decL decI L.length (rowP encI L))).r (genL (decL decI L.length (rowP encI L))).ver
                                        (decL dec2 (genL (decL decI L.length (rowP encI L))).L.length (rowP enc2 (genL (decL decI L.length (rowP encI L))).L))
                                        (genL (decL decI L.length (rowP encI L))).st (genL (decL decI L.length (rowP encI L))).si (genL (decL decI L.length (rowP encI L))).le)
                                      at_ n (decL decI L.length (rowP encI L))).si
                                  (bentA
                                      (Al.mk (genL (decL decI L.length (rowP encI L))).r (genL (decL decI L.length (rowP encI L))).ver
                                        (decL dec2 (genL (decL decI L.length (rowP encI L))).L.length (rowP enc2 (genL (decL decI L.length (rowP encI L))).L))
                                        (genL (decL decI L.length (rowP encI L))).st (genL (decL decI L.length (rowP encI L))).si (genL (decL decI L.length (rowP encI L))).le)
                                      at_ n (decL decI L.length (rowP encI L))).le)
                                m0 m1 m2).fst.ver
                          (decL dec2
                            (alEsc
                                    (Al.mk
                                      (bentA
                                          (Al.mk (genL (decL decI L.length (rowP encI L))).r (genL (decL decI L.length (rowP encI L))).ver
                                            (decL dec2 (genL (decL decI L.length (rowP encI L))).L.length (rowP enc2 (genL (decL decI L.length (rowP encI L))).L))
                                            (genL (decL decI L.length (rowP encI L))).st (genL (decL decI L.length (rowP encI L))).si (genL (decL decI L.length (rowP encI L))).le)
                                          at_ n (decL decI L.length (rowP encI L))).r
                                      (bentA
                                          (Al.mk (genL (decL decI L.length (rowP encI L))).r (genL (decL decI L.length (rowP encI L))).ver
                                            (decL dec2 (genL (decL decI L.length (rowP encI L))).L.length (rowP enc2 (genL (decL decI L.length (rowP encI L))).L))
                                            (genL (decL decI L.length (rowP encI L))).st (genL (decL decI L.length (rowP encI L))).si (genL (decL decI L.length (rowP encI L))).le)
                                          at_ n (decL decI L.length (rowP encI L))).ver
                                      (decL dec2
                                        (bentA
                                              (Al.mk (genL (decL decI L.length (rowP encI L))).r (genL (decL decI L.length (rowP encI L))).ver
                                                (decL dec2 (genL (decL decI L.length (rowP encI L))).L.length (rowP enc2 (genL (decL decI L.length (rowP encI L))).L))
                                                (genL (decL decI L.length (rowP encI L))).st (genL (decL decI L.length (rowP encI L))).si (genL (decL decI L.length (rowP encI L))).le)
                                              at_ n (decL decI L.length (rowP encI L))).L.length
                                        (rowP enc2
                                          (bentA
                                              (Al.mk (genL (decL decI L.length (rowP encI L))).r (genL (decL decI L.length (rowP encI L))).ver
                                                (decL dec2 (genL (decL decI L.length (rowP encI L))).L.length (rowP enc2 (genL (decL decI L.length (rowP encI L))).L))
                                                (genL (decL decI L.length (rowP encI L))).st (genL (decL decI L.length (rowP encI L))).si (genL (decL decI L.length (rowP encI L))).le)
                                              at_ n (decL decI L.length (rowP encI L))).L))
                                      (bentA
                                          (Al.mk (genL (decL decI L.length (rowP encI L))).r (genL (decL decI L.length (rowP encI L))).ver
                                            (decL dec2 (genL (decL decI L.length (rowP encI L))).L.length (rowP enc2 (genL (decL decI L.length (rowP encI L))).L))
                                            (genL (decL decI L.length (rowP encI L))).st (genL (decL decI L.length (rowP encI L))).si (genL (decL decI L.length (rowP encI L))).le)
                                          at_ n (decL decI L.length (rowP encI L))).st
                                      (bentA
                                          (Al.mk (genL (decL decI L.length (rowP encI L))).r (genL (decL decI L.length (rowP encI L))).ver
                                            (decL dec2 (genL (decL decI L.length (rowP encI L))).L.length (rowP enc2 (genL (decL decI L.length (rowP encI L))).L))
                                            (genL (decL decI L.length (rowP encI L))).st (genL (decL decI L.length (rowP encI L))).si (genL (decL decI L.length (rowP encI L))).le)
                                          at_ n (decL decI L.length (rowP encI L))).si
                                      (bentA
                                          (Al.mk (genL (decL decI L.length (rowP encI L))).r (genL (decL decI L.length (rowP encI L))).ver
                                            (decL dec2 (genL (decL decI L.length (rowP encI L))).L.length (rowP enc2 (genL (decL decI L.length (rowP encI L))).L))
                                            (genL (decL decI L.length (rowP encI L))).st (genL (decL decI L.length (rowP encI L))).si (genL (decL decI L.length (rowP encI L))).le)
                                          at_ n (decL decI L.length (rowP encI L))).le)
                                    m0 m1 m2).fst.L.length
                            (rowP enc2
                              (alEsc
                                    (Al.mk
                                      (bentA
                                          (Al.mk (genL (decL decI L.length (rowP encI L))).r (genL (decL decI L.length (rowP encI L))).ver
                                            (decL dec2 (genL (decL decI L.length (rowP encI L))).L.length (rowP enc2 (genL (decL decI L.length (rowP encI L))).L))
                                            (genL (decL decI L.length (rowP encI L))).st (genL (decL decI L.length (rowP encI L))).si (genL (decL decI L.length (rowP encI L))).le)
                                          at_ n (decL decI L.length (rowP encI L))).r
                                      (bentA
                                          (Al.mk (genL (decL decI L.length (rowP encI L))).r (genL (decL decI L.length (rowP encI L))).ver
                                            (decL dec2 (genL (decL decI L.length (rowP encI L))).L.length (rowP enc2 (genL (decL decI L.length (rowP encI L))).L))
                                            (genL (decL decI L.length (rowP encI L))).st (genL (decL decI L.length (rowP encI L))).si (genL (decL decI L.length (rowP encI L))).le)
                                          at_ n (decL decI L.length (rowP encI L))).ver
                                      (decL dec2
                                        (bentA
                                              (Al.mk (genL (decL decI L.length (rowP encI L))).r (genL (decL decI L.length (rowP encI L))).ver
                                                (decL dec2 (genL (decL decI L.length (rowP encI L))).L.length (rowP enc2 (genL (decL decI L.length (rowP encI L))).L))
                                                (genL (decL decI L.length (rowP encI L))).st (genL (decL decI L.length (rowP encI L))).si (genL (decL decI L.length (rowP encI L))).le)
                                              at_ n (decL decI L.length (rowP encI L))).L.length
                                        (rowP enc2
                                          (bentA
                                              (Al.mk (genL (decL decI L.length (rowP encI L))).r (genL (decL decI L.length (rowP encI L))).ver
                                                (decL dec2 (genL (decL decI L.length (rowP encI L))).L.length (rowP enc2 (genL (decL decI L.length (rowP encI L))).L))
                                                (genL (decL decI L.length (rowP encI L))).st (genL (decL decI L.length (rowP encI L))).si (genL (decL decI L.length (rowP encI L))).le)
                                              at_ n (decL decI L.length (rowP encI L))).L))
                                      (bentA
                                          (Al.mk (genL (decL decI L.length (rowP encI L))).r (genL (decL decI L.length (rowP encI L))).ver
                                            (decL dec2 (genL (decL decI L.length (rowP encI L))).L.length (rowP enc2 (genL (decL decI L.length (rowP encI L))).L))
                                            (genL (decL decI L.length (rowP encI L))).st (genL (decL decI L.length (rowP encI L))).si (genL (decL decI L.length (rowP encI L))).le)
                                          at_ n (decL decI L.length (rowP encI L))).st
                                      (bentA
                                          (Al.mk (genL (decL decI L.length (rowP encI L))).r (genL (decL decI L.length (rowP encI L))).ver
                                            (decL dec2 (genL (decL decI L.length (rowP encI L))).L.length (rowP enc2 (genL (decL decI L.length (rowP encI L))).L))
                                            (genL (decL decI L.length (rowP encI L))).st (genL (decL decI L.length (rowP encI L))).si (genL (decL decI L.length (rowP encI L))).le)
                                          at_ n (decL decI L.length (rowP encI L))).si
                                      (bentA
                                          (Al.mk (genL (decL decI L.length (rowP encI L))).r (genL (decL decI L.length (rowP encI L))).ver
                                            (decL dec2 (genL (decL decI L.length (rowP encI L))).L.length (rowP enc2 (genL (decL decI L.length (rowP encI L))).L))
                                            (genL (decL decI L.length (rowP encI L))).st (genL (decL decI L.length (rowP encI L))).si (genL (decL decI L.length (rowP encI L))).le)
                                          at_ n (decL decI L.length (rowP encI L))).le)
                                    m0 m1 m2).fst.L))
                          (alEsc
                                (Al.mk
                                  (bentA
                                      (Al.mk (genL (decL decI L.length (rowP encI L))).r (genL (decL decI L.length (rowP encI L))).ver
                                        (decL dec2 (genL (decL decI L.length (rowP encI L))).L.length (rowP enc2 (genL (decL decI L.length (rowP encI L))).L))
                                        (genL (decL decI L.length (rowP encI L))).st (genL (decL decI L.length (rowP encI L))).si (genL (decL decI L.length (rowP encI L))).le)
                                      at_ n (decL decI L.length (rowP encI L))).r
                                  (bentA
                                      (Al.mk (genL (decL decI L.length (rowP encI L))).r (genL (decL decI L.length (rowP encI L))).ver
                                        (decL dec2 (genL (decL decI L.length (rowP encI L))).L.length (rowP enc2 (genL (decL decI L.length (rowP encI L))).L))
                                        (genL (decL decI L.length (rowP encI L))).st (genL (decL decI L.length (rowP encI L))).si (genL (decL decI L.length (rowP encI L))).le)
                                      at_ n (decL decI L.length (rowP encI L))).ver
                                  (decL dec2
                                    (bentA
                                          (Al.mk (genL (decL decI L.length (rowP encI L))).r (genL (decL decI L.length (rowP encI L))).ver
                                            (decL dec2 (genL (decL decI L.length (rowP encI L))).L.length (rowP enc2 (genL (decL decI L.length (rowP encI L))).L))
                                            (genL (decL decI L.length (rowP encI L))).st (genL (decL decI L.length (rowP encI L))).si (genL (decL decI L.length (rowP encI L))).le)
                                          at_ n (decL decI L.length (rowP encI L))).L.length
                                    (rowP enc2
                                      (bentA
                                          (Al.mk (genL (decL decI L.length (rowP encI L))).r (genL (decL decI L.length (rowP encI L))).ver
                                            (decL dec2 (genL (decL decI L.length (rowP encI L))).L.length (rowP enc2 (genL (decL decI L.length (rowP encI L))).L))
                                            (genL (decL decI L.length (rowP encI L))).st (genL (decL decI L.length (rowP encI L))).si (genL (decL decI L.length (rowP encI L))).le)
                                          at_ n (decL decI L.length (rowP encI L))).L))
                                  (bentA
                                      (Al.mk (genL (decL decI L.length (rowP encI L))).r (genL (decL decI L.length (rowP encI L))).ver
                                        (decL dec2 (genL (decL decI L.length (rowP encI L))).L.length (rowP enc2 (genL (decL decI L.length (rowP encI L))).L))
                                        (genL (decL decI L.length (rowP encI L))).st (genL (decL decI L.length (rowP encI L))).si (genL (decL decI L.length (rowP encI L))).le)
                                      at_ n (decL decI L.length (rowP encI L))).st
                                  (bentA
                                      (Al.mk (genL (decL decI L.length (rowP encI L))).r (genL (decL decI L.length (rowP encI L))).ver
                                        (decL dec2 (genL (decL decI L.length (rowP encI L))).L.length (rowP enc2 (genL (decL decI L.length (rowP encI L))).L))
                                        (genL (decL decI L.length (rowP encI L))).st (genL (decL decI L.length (rowP encI L))).si (genL (decL decI L.length (rowP encI L))).le)
                                      at_ n (decL decI L.length (rowP encI L))).si
                                  (bentA
                                      (Al.mk (genL (decL decI L.length (rowP encI L))).r (genL (decL decI L.length (rowP encI L))).ver
                                        (decL dec2 (genL (decL decI L.length (rowP encI L))).L.length (rowP enc2 (genL (decL decI L.length (rowP encI L))).L))
                                        (genL (decL decI L.length (rowP encI L))).st (genL (decL decI L.length (rowP encI L))).si (genL (decL decI L.length (rowP encI L))).le)
                                      at_ n (decL decI L.length (rowP encI L))).le)
                                m0 m1 m2).fst.st
                          (alEsc
                                (Al.mk
                                  (bentA
                                      (Al.mk (genL (decL decI L.length (rowP encI L))).r (genL (decL decI L.length (rowP encI L))).ver
                                        (decL dec2 (genL (decL decI L.length (rowP encI L))).L.length (rowP enc2 (genL (decL decI L.length (rowP encI L))).L))
                                        (genL (decL decI L.length (rowP encI L))).st (genL (decL decI L.length (rowP encI L))).si (genL (decL decI L.length (rowP encI L))).le)
                                      at_ n (decL decI L.length (rowP encI L))).r
                                  (bentA
                                      (Al.mk (genL (decL decI L.length (rowP encI L))).r (genL (decL decI L.length (rowP encI L))).ver
                                        (decL dec2 (genL (decL decI L.length (rowP encI L))).L.length (rowP enc2 (genL (decL decI L.length (rowP encI L))).L))
                                        (genL (decL decI L.length (rowP encI L))).st (genL (decL decI L.length (rowP encI L))).si (genL (decL decI L.length (rowP encI L))).le)
                                      at_ n (decL decI L.length (rowP encI L))).ver
                                  (decL dec2
                                    (bentA
                                          (Al.mk (genL (decL decI L.length (rowP encI L))).r (genL (decL decI L.length (rowP encI L))).ver
                                            (decL dec2 (genL (decL decI L.length (rowP encI L))).L.length (rowP enc2 (genL (decL decI L.length (rowP encI L))).L))
                                            (genL (decL decI L.length (rowP encI L))).st (genL (decL decI L.length (rowP encI L))).si (genL (decL decI L.length (rowP encI L))).le)
                                          at_ n (decL decI L.length (rowP encI L))).L.length
                                    (rowP enc2
                                      (bentA
                                          (Al.mk (genL (decL decI L.length (rowP encI L))).r (genL (decL decI L.length (rowP encI L))).ver
                                            (decL dec2 (genL (decL decI L.length (rowP encI L))).L.length (rowP enc2 (genL (decL decI L.length (rowP encI L))).L))
                                            (genL (decL decI L.length (rowP encI L))).st (genL (decL decI L.length (rowP encI L))).si (genL (decL decI L.length (rowP encI L))).le)
                                          at_ n (decL decI L.length (rowP encI L))).L))
                                  (bentA
                                      (Al.mk (genL (decL decI L.length (rowP encI L))).r (genL (decL decI L.length (rowP encI L))).ver
                                        (decL dec2 (genL (decL decI L.length (rowP encI L))).L.length (rowP enc2 (genL (decL decI L.length (rowP encI L))).L))
                                        (genL (decL decI L.length (rowP encI L))).st (genL (decL decI L.length (rowP encI L))).si (genL (decL decI L.length (rowP encI L))).le)
                                      at_ n (decL decI L.length (rowP encI L))).st
                                  (bentA
                                      (Al.mk (genL (decL decI L.length (rowP encI L))).r (genL (decL decI L.length (rowP encI L))).ver
                                        (decL dec2 (genL (decL decI L.length (rowP encI L))).L.length (rowP enc2 (genL (decL decI L.length (rowP encI L))).L))
                                        (genL (decL decI L.length (rowP encI L))).st (genL (decL decI L.length (rowP encI L))).si (genL (decL decI L.length (rowP encI L))).le)
                                      at_ n (decL decI L.length (rowP encI L))).si
                                  (bentA
                                      (Al.mk (genL (decL decI L.length (rowP encI L))).r (genL (decL decI L.length (rowP encI L))).ver
                                        (decL dec2 (genL (decL decI L.length (rowP encI L))).L.length (rowP enc2 (genL (decL decI L.length (rowP encI L))).L))
                                        (genL (decL decI L.length (rowP encI L))).st (genL (decL decI L.length (rowP encI L))).si (genL (decL decI L.length (rowP encI L))).le)
                                      at_ n (decL decI L.length (rowP encI L))).le)
                                m0 m1 m2).fst.si
                          (alEsc
                                (Al.mk
                                  (bentA
                                      (Al.mk (genL (decL decI L.length (rowP encI L))).r (genL (decL decI L.length (rowP encI L))).ver
                                        (decL dec2 (genL (decL decI L.length (rowP encI L))).L.length (rowP enc2 (genL (decL decI L.length (rowP encI L))).L))
                                        (genL (decL decI L.length (rowP encI L))).st (genL (decL decI L.length (rowP encI L))).si (genL (decL decI L.length (rowP encI L))).le)
                                      at_ n (decL decI L.length (rowP encI L))).r
                                  (bentA
                                      (Al.mk (genL (decL decI L.length (rowP encI L))).r (genL (decL decI L.length (rowP encI L))).ver
                                        (decL dec2 (genL (decL decI L.length (rowP encI L))).L.length (rowP enc2 (genL (decL decI L.length (rowP encI L))).L))
                                        (genL (decL decI L.length (rowP encI L))).st (genL (decL decI L.length (rowP encI L))).si (genL (decL decI L.length (rowP encI L))).le)
                                      at_ n (decL decI L.length (rowP encI L))).ver
                                  (decL dec2
                                    (bentA
                                          (Al.mk (genL (decL decI L.length (rowP encI L))).r (genL (decL decI L.length (rowP encI L))).ver
                                            (decL dec2 (genL (decL decI L.length (rowP encI L))).L.length (rowP enc2 (genL (decL decI L.length (rowP encI L))).L))
                                            (genL (decL decI L.length (rowP encI L))).st (genL (decL decI L.length (rowP encI L))).si (genL (decL decI L.length (rowP encI L))).le)
                                          at_ n (decL decI L.length (rowP encI L))).L.length
                                    (rowP enc2
                                      (bentA
                                          (Al.mk (genL (decL decI L.length (rowP encI L))).r (genL (decL decI L.length (rowP encI L))).ver
                                            (decL dec2 (genL (decL decI L.length (rowP encI L))).L.length (rowP enc2 (genL (decL decI L.length (rowP encI L))).L))
                                            (genL (decL decI L.length (rowP encI L))).st (genL (decL decI L.length (rowP encI L))).si (genL (decL decI L.length (rowP encI L))).le)
                                          at_ n (decL decI L.length (rowP encI L))).L))
                                  (bentA
                                      (Al.mk (genL (decL decI L.length (rowP encI L))).r (genL (decL decI L.length (rowP encI L))).ver
                                        (decL dec2 (genL (decL decI L.length (rowP encI L))).L.length (rowP enc2 (genL (decL decI L.length (rowP encI L))).L))
                                        (genL (decL decI L.length (rowP encI L))).st (genL (decL decI L.length (rowP encI L))).si (genL (decL decI L.length (rowP encI L))).le)
                                      at_ n (decL decI L.length (rowP encI L))).st
                                  (bentA
                                      (Al.mk (genL (decL decI L.length (rowP encI L))).r (genL (decL decI L.length (rowP encI L))).ver
                                        (decL dec2 (genL (decL decI L.length (rowP encI L))).L.length (rowP enc2 (genL (decL decI L.length (rowP encI L))).L))
                                        (genL (decL decI L.length (rowP encI L))).st (genL (decL decI L.length (rowP encI L))).si (genL (decL decI L.length (rowP encI L))).le)
                                      at_ n (decL decI L.length (rowP encI L))).si
                                  (bentA
                                      (Al.mk (genL (decL decI L.length (rowP encI L))).r (genL (decL decI L.length (rowP encI L))).ver
                                        (decL dec2 (genL (decL decI L.length (rowP encI L))).L.length (rowP enc2 (genL (decL decI L.length (rowP encI L))).L))
                                        (genL (decL decI L.length (rowP encI L))).st (genL (decL decI L.length (rowP encI L))).si (genL (decL decI L.length (rowP encI L))).le)
                                      at_ n (decL decI L.length (rowP encI L))).le)
                                m0 m1 m2).fst.le))
                    (Tr.done X.ret (St.mk [V.c (C.p (PV.b false))] []))
                    (Tr.rq (inR IntKind.i64 ((↑i : Int) + 1))
                      (Tr.done X.normal
                        (cst 60 [(0, V.c (C.p (PV.l 1 L.length (rowP encI L)))), (1, V.c (C.p (PV.i IntKind.i64 at_))), (2, V.c (C.p (PV.i IntKind.i64 n))), (7, V.c (C.ptr 0 0)), (9, V.c (C.p (PV.i IntKind.i64 ((↑i : Int) + 1))))] [AO.cells 37 [C.p (PV.i IntKind.i64 m0), C.p (PV.i IntKind.i64 m1), C.p (PV.i IntKind.i64 m2)]])))))))))
        (Tr.rq
          (IsL enc2 2 (decL dec2 (genL (decL decI L.length (rowP encI L))).L.length (rowP enc2 (genL (decL decI L.length (rowP encI L))).L)) (genL (decL decI L.length (rowP encI L))).L.length
              (rowP enc2 (genL (decL decI L.length (rowP encI L))).L) ∧
            (Al.mk (genL (decL decI L.length (rowP encI L))).r (genL (decL decI L.length (rowP encI L))).ver
                      (decL dec2 (genL (decL decI L.length (rowP encI L))).L.length (rowP enc2 (genL (decL decI L.length (rowP encI L))).L)) (genL (decL decI L.length (rowP encI L))).st
                      (genL (decL decI L.length (rowP encI L))).si (genL (decL decI L.length (rowP encI L))).le).L.length ≤
                1000000 ∧
              inR IntKind.i64
                  (Al.mk (genL (decL decI L.length (rowP encI L))).r (genL (decL decI L.length (rowP encI L))).ver
                      (decL dec2 (genL (decL decI L.length (rowP encI L))).L.length (rowP enc2 (genL (decL decI L.length (rowP encI L))).L)) (genL (decL decI L.length (rowP encI L))).st
                      (genL (decL decI L.length (rowP encI L))).si (genL (decL decI L.length (rowP encI L))).le).si ∧
                inR IntKind.i64
                  (Al.mk (genL (decL decI L.length (rowP encI L))).r (genL (decL decI L.length (rowP encI L))).ver
                      (decL dec2 (genL (decL decI L.length (rowP encI L))).L.length (rowP enc2 (genL (decL decI L.length (rowP encI L))).L)) (genL (decL decI L.length (rowP encI L))).st
                      (genL (decL decI L.length (rowP encI L))).si (genL (decL decI L.length (rowP encI L))).le).le)
          (Tr.rq
            (IsL enc2 2 (decL dec2 (genL (decL decI L.length (rowP encI L))).L.length (rowP enc2 (genL (decL decI L.length (rowP encI L))).L)) (genL (decL decI L.length (rowP encI L))).L.length
                (rowP enc2 (genL (decL decI L.length (rowP encI L))).L) ∧
              inR IntKind.i64 m0 ∧
                inR IntKind.i64 m1 ∧
                  inR IntKind.i64 m2 ∧
                    inR IntKind.i64
                        (Al.mk (genL (decL decI L.length (rowP encI L))).r (genL (decL decI L.length (rowP encI L))).ver
                            (decL dec2 (genL (decL decI L.length (rowP encI L))).L.length (rowP enc2 (genL (decL decI L.length (rowP encI L))).L)) (genL (decL decI L.length (rowP encI L))).st
                            (genL (decL decI L.length (rowP encI L))).si (genL (decL decI L.length (rowP encI L))).le).si ∧
                      inR IntKind.i64
                        (Al.mk (genL (decL decI L.length (rowP encI L))).r (genL (decL decI L.length (rowP encI L))).ver
                            (decL dec2 (genL (decL decI L.length (rowP encI L))).L.length (rowP enc2 (genL (decL decI L.length (rowP encI L))).L)) (genL (decL decI L.length (rowP encI L))).st
                            (genL (decL decI L.length (rowP encI L))).si (genL (decL decI L.length (rowP encI L))).le).le)
            (bT
              (!(alEsc
                      (Al.mk (genL (decL decI L.length (rowP encI L))).r (genL (decL decI L.length (rowP encI L))).ver
                        (decL dec2 (genL (decL decI L.length (rowP encI L))).L.length (rowP enc2 (genL (decL decI L.length (rowP encI L))).L)) (genL (decL decI L.length (rowP encI L))).st
                        (genL (decL decI L.length (rowP encI L))).si (genL (decL decI L.length (rowP encI L))).le)
                      m0 m1 m2).snd ==
                  (alEsc
                      (Al.mk (genL (decL decI L.length (rowP encI L))).r (genL (decL decI L.length (rowP encI L))).ver
                        (decL dec2 (genL (decL decI L.length (rowP encI L))).L.length (rowP enc2 (genL (decL decI L.length (rowP encI L))).L)) (genL (decL decI L.length (rowP encI L))).st
                        (genL (decL decI L.length (rowP encI L))).si (genL (decL decI L.length (rowP encI L))).le)
                      m0 m1 m2).snd)
              (Tr.done X.ret (St.mk [V.c (C.p (PV.b false))] []))
              (Tr.rq
                ((IsL enc2 2
                      (decL dec2
                        (alEsc
                                (Al.mk (genL (decL decI L.length (rowP encI L))).r (genL (decL decI L.length (rowP encI L))).ver
                                  (decL dec2 (genL (decL decI L.length (rowP encI L))).L.length (rowP enc2 (genL (decL decI L.length (rowP encI L))).L)) (genL (decL decI L.length (rowP encI L))).st
                                  (genL (decL decI L.length (rowP encI L))).si (genL (decL decI L.length (rowP encI L))).le)
                                m0 m1 m2).fst.L.length
                        (rowP enc2
                          (alEsc
                                (Al.mk (genL (decL decI L.length (rowP encI L))).r (genL (decL decI L.length (rowP encI L))).ver
                                  (decL dec2 (genL (decL decI L.length (rowP encI L))).L.length (rowP enc2 (genL (decL decI L.length (rowP encI L))).L)) (genL (decL decI L.length (rowP encI L))).st
                                  (genL (decL decI L.length (rowP encI L))).si (genL (decL decI L.length (rowP encI L))).le)
                                m0 m1 m2).fst.L))
                      (alEsc
                              (Al.mk (genL (decL decI L.length (rowP encI L))).r (genL (decL decI L.length (rowP encI L))).ver
                                (decL dec2 (genL (decL decI L.length (rowP encI L))).L.length (rowP enc2 (genL (decL decI L.length (rowP encI L))).L)) (genL (decL decI L.length (rowP encI L))).st
                                (genL (decL decI L.length (rowP encI L))).si (genL (decL decI L.length (rowP encI L))).le)
                              m0 m1 m2).fst.L.length
                      (rowP enc2
                        (alEsc
                              (Al.mk (genL (decL decI L.length (rowP encI L))).r (genL (decL decI L.length (rowP encI L))).ver
                                (decL dec2 (genL (decL decI L.length (rowP encI L))).L.length (rowP enc2 (genL (decL decI L.length (rowP encI L))).L)) (genL (decL decI L.length (rowP encI L))).st
                                (genL (decL decI L.length (rowP encI L))).si (genL (decL decI L.length (rowP encI L))).le)
                              m0 m1 m2).fst.L) ∧
                    IsL enc2 2
                      (decL dec2
                        (alEsc
                                (Al.mk (genL (decL decI L.length (rowP encI L))).r (genL (decL decI L.length (rowP encI L))).ver
                                  (decL dec2 (genL (decL decI L.length (rowP encI L))).L.length (rowP enc2 (genL (decL decI L.length (rowP encI L))).L)) (genL (decL decI L.length (rowP encI L))).st
                                  (genL (decL decI L.length (rowP encI L))).si (genL (decL decI L.length (rowP encI L))).le)
                                m0 m1 m2).fst.L.length
                        (rowP enc2
                          (alEsc
                                (Al.mk (genL (decL decI L.length (rowP encI L))).r (genL (decL decI L.length (rowP encI L))).ver
                                  (decL dec2 (genL (decL decI L.length (rowP encI L))).L.length (rowP enc2 (genL (decL decI L.length (rowP encI L))).L)) (genL (decL decI L.length (rowP encI L))).st
                                  (genL (decL decI L.length (rowP encI L))).si (genL (decL decI L.length (rowP encI L))).le)
                                m0 m1 m2).fst.L))
                      (alEsc
                              (Al.mk (genL (decL decI L.length (rowP encI L))).r (genL (decL decI L.length (rowP encI L))).ver
                                (decL dec2 (genL (decL decI L.length (rowP encI L))).L.length (rowP enc2 (genL (decL decI L.length (rowP encI L))).L)) (genL (decL decI L.length (rowP encI L))).st
                                (genL (decL decI L.length (rowP encI L))).si (genL (decL decI L.length (rowP encI L))).le)
                              m0 m1 m2).fst.L.length
                      (rowP enc2
                        (alEsc
                              (Al.mk (genL (decL decI L.length (rowP encI L))).r (genL (decL decI L.length (rowP encI L))).ver
                                (decL dec2 (genL (decL decI L.length (rowP encI L))).L.length (rowP enc2 (genL (decL decI L.length (rowP encI L))).L)) (genL (decL decI L.length (rowP encI L))).st
                                (genL (decL decI L.length (rowP encI L))).si (genL (decL decI L.length (rowP encI L))).le)
                              m0 m1 m2).fst.L)) ∧
                  (Al.mk
                          (alEsc
                                (Al.mk (genL (decL decI L.length (rowP encI L))).r (genL (decL decI L.length (rowP encI L))).ver
                                  (decL dec2 (genL (decL decI L.length (rowP encI L))).L.length (rowP enc2 (genL (decL decI L.length (rowP encI L))).L)) (genL (decL decI L.length (rowP encI L))).st
                                  (genL (decL decI L.length (rowP encI L))).si (genL (decL decI L.length (rowP encI L))).le)
                                m0 m1 m2).fst.r
                          (alEsc
                                (Al.mk (genL (decL decI L.length (rowP encI L))).r (genL (decL decI L.length (rowP encI L))).ver
                                  (decL dec2 (genL (decL decI L.length (rowP encI L))).L.length (rowP enc2 (genL (decL decI L.length (rowP encI L))).L)) (genL (decL decI L.length (rowP encI L))).st
                                  (genL (decL decI L.length (rowP encI L))).si (genL (decL decI L.length (rowP encI L))).le)
                                m0 m1 m2).fst.ver
                          (decL dec2
                            (alEsc
                                    (Al.mk (genL (decL decI L.length (rowP encI L))).r (genL (decL decI L.length (rowP encI L))).ver
                                      (decL dec2 (genL (decL decI L.length (rowP encI L))).L.length (rowP enc2 (genL (decL decI L.length (rowP encI L))).L)) (genL (decL decI L.length (rowP encI L))).st
                                      (genL (decL decI L.length (rowP encI L))).si (genL (decL decI L.length (rowP encI L))).le)
                                    m0 m1 m2).fst.L.length
                            (rowP enc2
                              (alEsc
                                    (Al.mk (genL (decL decI L.length (rowP encI L))).r (genL (decL decI L.length (rowP encI L))).ver
                                      (decL dec2 (genL (decL decI L.length (rowP encI L))).L.length (rowP enc2 (genL (decL decI L.length (rowP encI L))).L)) (genL (decL decI L.length (rowP encI L))).st
                                      (genL (decL decI L.length (rowP encI L))).si (genL (decL decI L.length (rowP encI L))).le)
                                    m0 m1 m2).fst.L))
                          (alEsc
                                (Al.mk (genL (decL decI L.length (rowP encI L))).r (genL (decL decI L.length (rowP encI L))).ver
                                  (decL dec2 (genL (decL decI L.length (rowP encI L))).L.length (rowP enc2 (genL (decL decI L.length (rowP encI L))).L)) (genL (decL decI L.length (rowP encI L))).st
                                  (genL (decL decI L.length (rowP encI L))).si (genL (decL decI L.length (rowP encI L))).le)
                                m0 m1 m2).fst.st
                          (alEsc
                                (Al.mk (genL (decL decI L.length (rowP encI L))).r (genL (decL decI L.length (rowP encI L))).ver
                                  (decL dec2 (genL (decL decI L.length (rowP encI L))).L.length (rowP enc2 (genL (decL decI L.length (rowP encI L))).L)) (genL (decL decI L.length (rowP encI L))).st
                                  (genL (decL decI L.length (rowP encI L))).si (genL (decL decI L.length (rowP encI L))).le)
                                m0 m1 m2).fst.si
                          (alEsc
                                (Al.mk (genL (decL decI L.length (rowP encI L))).r (genL (decL decI L.length (rowP encI L))).ver
                                  (decL dec2 (genL (decL decI L.length (rowP encI L))).L.length (rowP enc2 (genL (decL decI L.length (rowP encI L))).L)) (genL (decL decI L.length (rowP encI L))).st
                                  (genL (decL decI L.length (rowP encI L))).si (genL (decL decI L.length (rowP encI L))).le)
                                m0 m1 m2).fst.le).L.length ≤
                    1000000)
                (bT
                  (!alEq
                      (Al.mk
                        (alEsc
                              (Al.mk (genL (decL decI L.length (rowP encI L))).r (genL (decL decI L.length (rowP encI L))).ver
                                (decL dec2 (genL (decL decI L.length (rowP encI L))).L.length (rowP enc2 (genL (decL decI L.length (rowP encI L))).L)) (genL (decL decI L.length (rowP encI L))).st
                                (genL (decL decI L.length (rowP encI L))).si (genL (decL decI L.length (rowP encI L))).le)
                              m0 m1 m2).fst.r
                        (alEsc
                              (Al.mk (genL (decL decI L.length (rowP encI L))).r (genL (decL decI L.length (rowP encI L))).ver
                                (decL dec2 (genL (decL decI L.length (rowP encI L))).L.length (rowP enc2 (genL (decL decI L.length (rowP encI L))).L)) (genL (decL decI L.length (rowP encI L))).st
                                (genL (decL decI L.length (rowP encI L))).si (genL (decL decI L.length (rowP encI L))).le)
                              m0 m1 m2).fst.ver
                        (decL dec2
                          (alEsc
                                  (Al.mk (genL (decL decI L.length (rowP encI L))).r (genL (decL decI L.length (rowP encI L))).ver
                                    (decL dec2 (genL (decL decI L.length (rowP encI L))).L.length (rowP enc2 (genL (decL decI L.length (rowP encI L))).L)) (genL (decL decI L.length (rowP encI L))).st
                                    (genL (decL decI L.length (rowP encI L))).si (genL (decL decI L.length (rowP encI L))).le)
                                  m0 m1 m2).fst.L.length
                          (rowP enc2
                            (alEsc
                                  (Al.mk (genL (decL decI L.length (rowP encI L))).r (genL (decL decI L.length (rowP encI L))).ver
                                    (decL dec2 (genL (decL decI L.length (rowP encI L))).L.length (rowP enc2 (genL (decL decI L.length (rowP encI L))).L)) (genL (decL decI L.length (rowP encI L))).st
                                    (genL (decL decI L.length (rowP encI L))).si (genL (decL decI L.length (rowP encI L))).le)
                                  m0 m1 m2).fst.L))
                        (alEsc
                              (Al.mk (genL (decL decI L.length (rowP encI L))).r (genL (decL decI L.length (rowP encI L))).ver
                                (decL dec2 (genL (decL decI L.length (rowP encI L))).L.length (rowP enc2 (genL (decL decI L.length (rowP encI L))).L)) (genL (decL decI L.length (rowP encI L))).st
                                (genL (decL decI L.length (rowP encI L))).si (genL (decL decI L.length (rowP encI L))).le)
                              m0 m1 m2).fst.st
                        (alEsc
                              (Al.mk (genL (decL decI L.length (rowP encI L))).r (genL (decL decI L.length (rowP encI L))).ver
                                (decL dec2 (genL (decL decI L.length (rowP encI L))).L.length (rowP enc2 (genL (decL decI L.length (rowP encI L))).L)) (genL (decL decI L.length (rowP encI L))).st
                                (genL (decL decI L.length (rowP encI L))).si (genL (decL decI L.length (rowP encI L))).le)
                              m0 m1 m2).fst.si
                        (alEsc
                              (Al.mk (genL (decL decI L.length (rowP encI L))).r (genL (decL decI L.length (rowP encI L))).ver
                                (decL dec2 (genL (decL decI L.length (rowP encI L))).L.length (rowP enc2 (genL (decL decI L.length (rowP encI L))).L)) (genL (decL decI L.length (rowP encI L))).st
                                (genL (decL decI L.length (rowP encI L))).si (genL (decL decI L.length (rowP encI L))).le)
                              m0 m1 m2).fst.le)
                      (Al.mk
                        (alEsc
                              (Al.mk (genL (decL decI L.length (rowP encI L))).r (genL (decL decI L.length (rowP encI L))).ver
                                (decL dec2 (genL (decL decI L.length (rowP encI L))).L.length (rowP enc2 (genL (decL decI L.length (rowP encI L))).L)) (genL (decL decI L.length (rowP encI L))).st
                                (genL (decL decI L.length (rowP encI L))).si (genL (decL decI L.length (rowP encI L))).le)
                              m0 m1 m2).fst.r
                        (alEsc
                              (Al.mk (genL (decL decI L.length (rowP encI L))).r (genL (decL decI L.length (rowP encI L))).ver
                                (decL dec2 (genL (decL decI L.length (rowP encI L))).L.length (rowP enc2 (genL (decL decI L.length (rowP encI L))).L)) (genL (decL decI L.length (rowP encI L))).st
                                (genL (decL decI L.length (rowP encI L))).si (genL (decL decI L.length (rowP encI L))).le)
                              m0 m1 m2).fst.ver
                        (decL dec2
                          (alEsc
                                  (Al.mk (genL (decL decI L.length (rowP encI L))).r (genL (decL decI L.length (rowP encI L))).ver
                                    (decL dec2 (genL (decL decI L.length (rowP encI L))).L.length (rowP enc2 (genL (decL decI L.length (rowP encI L))).L)) (genL (decL decI L.length (rowP encI L))).st
                                    (genL (decL decI L.length (rowP encI L))).si (genL (decL decI L.length (rowP encI L))).le)
                                  m0 m1 m2).fst.L.length
                          (rowP enc2
                            (alEsc
                                  (Al.mk (genL (decL decI L.length (rowP encI L))).r (genL (decL decI L.length (rowP encI L))).ver
                                    (decL dec2 (genL (decL decI L.length (rowP encI L))).L.length (rowP enc2 (genL (decL decI L.length (rowP encI L))).L)) (genL (decL decI L.length (rowP encI L))).st
                                    (genL (decL decI L.length (rowP encI L))).si (genL (decL decI L.length (rowP encI L))).le)
                                  m0 m1 m2).fst.L))
                        (alEsc
                              (Al.mk (genL (decL decI L.length (rowP encI L))).r (genL (decL decI L.length (rowP encI L))).ver
                                (decL dec2 (genL (decL decI L.length (rowP encI L))).L.length (rowP enc2 (genL (decL decI L.length (rowP encI L))).L)) (genL (decL decI L.length (rowP encI L))).st
                                (genL (decL decI L.length (rowP encI L))).si (genL (decL decI L.length (rowP encI L))).le)
                              m0 m1 m2).fst.st
                        (alEsc
                              (Al.mk (genL (decL decI L.length (rowP encI L))).r (genL (decL decI L.length (rowP encI L))).ver
                                (decL dec2 (genL (decL decI L.length (rowP encI L))).L.length (rowP enc2 (genL (decL decI L.length (rowP encI L))).L)) (genL (decL decI L.length (rowP encI L))).st
                                (genL (decL decI L.length (rowP encI L))).si (genL (decL decI L.length (rowP encI L))).le)
                              m0 m1 m2).fst.si
                        (alEsc
                              (Al.mk (genL (decL decI L.length (rowP encI L))).r (genL (decL decI L.length (rowP encI L))).ver
                                (decL dec2 (genL (decL decI L.length (rowP encI L))).L.length (rowP enc2 (genL (decL decI L.length (rowP encI L))).L)) (genL (decL decI L.length (rowP encI L))).st
                                (genL (decL decI L.length (rowP encI L))).si (genL (decL decI L.length (rowP encI L))).le)
                              m0 m1 m2).fst.le))
                  (Tr.done X.ret (St.mk [V.c (C.p (PV.b false))] []))
                  (Tr.rq (inR IntKind.i64 ((↑i : Int) + 1))
                    (Tr.done X.normal
                      (cst 60 [(0, V.c (C.p (PV.l 1 L.length (rowP encI L)))), (1, V.c (C.p (PV.i IntKind.i64 at_))), (2, V.c (C.p (PV.i IntKind.i64 n))), (7, V.c (C.ptr 0 0)), (9, V.c (C.p (PV.i IntKind.i64 ((↑i : Int) + 1))))] [AO.cells 37 [C.p (PV.i IntKind.i64 m0), C.p (PV.i IntKind.i64 m1), C.p (PV.i IntKind.i64 m2)]]))))))))))
    (Tr.done (X.exit 0)
      (cst 60 [(0, V.c (C.p (PV.l 1 L.length (rowP encI L)))), (1, V.c (C.p (PV.i IntKind.i64 at_))), (2, V.c (C.p (PV.i IntKind.i64 n))), (7, V.c (C.ptr 0 0)), (9, V.c (C.p (PV.i IntKind.i64 (↑i : Int))))] [AO.cells 37 [C.p (PV.i IntKind.i64 m0), C.p (PV.i IntKind.i64 m1), C.p (PV.i IntKind.i64 m2)]])) := by kernel_rfl
theorem tLE3 (L : List Int) (at_ n m0 m1 m2 : Int) (i : Nat) : exTs extLaw (dropL 3 (pcs Tryd.prog Tryd.f5)) (cst 60 [(0, listV encI 1 L), (1, iV at_), (2, iV n), (7, .c (.ptr 0 0)), (9, iV (i : Nat))] [.cells 37 [.p (.i .i64 m0), .p (.i .i64 m1), .p (.i .i64 m2)]]) (endG [] (resOf Tryd.prog Tryd.f5)) = Tr.rq True (Tr.done X.ret (St.mk [V.c (C.p (PV.b true))] [])) := by kernel_rfl
theorem gen_in (L : List Int) : inR .i64 (genL L).si ∧ inR .i64 (genL L).le := by
  have p2 := pickZ_range L 2 (m := 50) (by omega)
  have p3 := pickZ_range L 3 (m := 17) (by omega)
  have p4 := pickZ_range L 3 (m := 16) (by omega)
  constructor
  · simp only [inR, genL]; omega
  · simp only [inR, genL]; split <;> (try split) <;> omega
section
variable {G : Nat → Option Obj}
set_option maxRecDepth 100000 in
theorem alertEsc_fn (hG : LevG G) {L : List Int} (hI : Ints L) {at_ n m0 m1 m2 : Int} (ha : inR .i64 at_) (hn : inR .i64 n) (h0 : inR .i64 m0) (h1 : inR .i64 m1) (h2 : inR .i64 m2) : FnS Tryd.prog G 5 [listV encI 1 L, iV at_, iV n, .a [.p (.i .i64 m0), .p (.i .i64 m1), .p (.i .i64 m2)]] [] fun x h' => x = bV true ∧ h' = [] := by
  refine fn_S Tryd.func5 (by kernel_rfl) rfl ?_ []
  refine ExS.evG (extLaw_sound hG) 2 (tLE1 L at_ n m0 m1 m2) ?_
  simp only [holds_done, kf_normal]
  have iL := isL_row encI 1 L
  refine ExS.loop' (l := dropL 2 (pcs Tryd.prog Tryd.f5)) (b := inr (inr (nth .skip (pcs Tryd.prog Tryd.f5) 2))) (r := dropL 3 (pcs Tryd.prog Tryd.f5)) (id := 0) (by kernel_rfl) (σ := Nat)
    (fun i => cst 60 [(0, listV encI 1 L), (1, iV at_), (2, iV n), (7, .c (.ptr 0 0)), (9, iV (i : Nat))] [.cells 37 [.p (.i .i64 m0), .p (.i .i64 m1), .p (.i .i64 m2)]]) (fun i => i ≤ 2) (fun i => 2 - i) 0 (by omega) (weak_of_eq (by kernel_rfl)) ?_
  intro i hi Q q1n q1e _
  refine ExS.evH (extLaw_sound hG) (tLE2 L at_ n m0 m1 m2 i) ?_
  have l1 : (genL L).L.length ≤ 1000000 := Nat.le_trans (set_len L) (by omega)
  have l2 : (bentA (genL L) at_ n L).L.length ≤ 1000000 := Nat.le_trans (bent_len at_ n L) (by omega)
  have g1 := gen_in L
  have g2 := bent_in (at_ := at_) (L := L) hn
  have lA : ∀ a : Al, (alEsc a m0 m1 m2).1.L.length = a.L.length := fun _ => rfl
  have iA := fun a : Al => isL_row enc2 2 a.L
  have done_ : i < 2 → Leaf (Q X.normal ((fun i : Nat => cst 60 [(0, listV encI 1 L), (1, iV at_), (2, iV n), (7, .c (.ptr 0 0)), (9, iV (i : Nat))] [.cells 37 [.p (.i .i64 m0), .p (.i .i64 m1), .p (.i .i64 m2)]]) (i + 1))) := fun h => ⟨q1n (i + 1) _ (by omega) (by omega) (WeakS.refl _)⟩
  have h9 : ∀ x : Bool, (!(x == x)) = false := by intro x; cases x <;> rfl
  simp only [holds_bT, holds_rq, holds_leaf, kf_ret', kf_normal, kf_exit, decI_row, dec2_row, al_eta, alEq_refl, h9, decide_eq_true_eq, decide_eq_false_iff_not, beq_iff_eq, beq_eq_false_iff_ne, Bool.not_true, Bool.not_false, Bool.false_eq_true, Bool.true_eq_false, reduceCtorEq, false_imp_iff, true_imp_iff, forall_const, and_true, true_and]
  refine ⟨fun h2' => ⟨⟨iL, hI⟩, fun _ => ⟨⟨iA _, ha, hn, iL, hI⟩, ⟨iA _, l2, g2.1, g2.2⟩, ⟨iA _, h0, h1, h2, g2.1, g2.2⟩, ⟨⟨iA _, iA _⟩, l2⟩, by simp only [inR]; omega, done_ (by omega)⟩, fun _ => ⟨⟨iA _, l1, g1.1, g1.2⟩, ⟨iA _, h0, h1, h2, g1.1, g1.2⟩, ⟨⟨iA _, iA _⟩, l1⟩, by simp only [inR]; omega, done_ (by omega)⟩⟩, fun h2' => ⟨q1e _ ?_⟩⟩
  refine ExS.evH (extLaw_sound hG) (tLE3 L at_ n m0 m1 m2 i) ?_
  simp only [holds_rq, holds_done, kf_ret']
  exact ⟨trivial, VLe.refl _⟩
theorem alertEsc_walk (A : Option Addr) (len cap : Nat) (g : Nat → Int) (hg : ∀ k, -9223372036854775808 ≤ g k ∧ g k ≤ 9223372036854775807) (at_ n m0 m1 m2 : Int) (ha : -9223372036854775808 ≤ at_ ∧ at_ ≤ 9223372036854775807) (hn : -9223372036854775808 ≤ n ∧ n ≤ 9223372036854775807)
    (h0 : -9223372036854775808 ≤ m0 ∧ m0 ≤ 9223372036854775807) (h1 : -9223372036854775808 ≤ m1 ∧ m1 ≤ 9223372036854775807) (h2 : -9223372036854775808 ≤ m2 ∧ m2 ≤ 9223372036854775807)
    (w : World) (h1' : len ≤ cap) (h2' : cap ≤ maxLen) (hR : Rd w w.heap.size A len fun k => .int .i64 (g k)) (hL : Lev w) : Calls Tryd.prog 5 #[.slice A len cap, .int .i64 at_, .int .i64 n, .agg #[.int .i64 m0, .int .i64 m1, .int .i64 m2]] w fun e w' => e = .returned (.bool true) ∧ Below w.heap.size w w' := by
  refine calls_of_fn ((alertEsc_fn (levG_gw hL) (ints_in (len := len) hg) ha hn h0 h1 h2).mono fun _ _ h => h.1) ?_ (gw_ok w)
  exact ⟨ints_vr hR h1' h2', rfl, rfl, ⟨_, rfl, rfl, rfl, rfl, trivial⟩, trivial⟩
end
end Go.AE
