/- AE: the law AlertStep: the result's labels may be written. -/
import Derived.Test.YtlaknbcmidjiaaaDoorR9
import Derived.Test.YtlaknbcmidjiaaaDoorAe24
namespace Go.AE
open Go.Proofs Go.Proofs.YtlaknbcmidjiaaaDoor Go.RowKit

def alOfH (h : List AO) : V → Option (Prop × Al)
  | .a [.p (.s r), .p (.i .i64 ver), .sl id 2 0 n, .p (.i .i64 st), .p (.i .i64 si), .p (.i .i64 le)] => match nth .gone h id with
    | .row _ 2 m f => some (m = n ∧ ∀ e o, e < n → o < 2 → f e o = .p (rowP enc2 (decL dec2 n fun e o => unP (f e o)) e o), ⟨r, ver, decL dec2 n fun e o => unP (f e o), st, si, le⟩)
    | _ => none
  | _ => none
def mSameH : ModH
  | [x, y], h => match alOfH h x, alOf y with
    | some (p, a), some (q, b) => some ((p ∧ q) ∧ b.L.length ≤ 1000000, bV (alEq a b), h)
    | _, _ => none
  | _, _ => none
def mAStepH : ModH
  | [x, .c (.p (.i .i64 vd)), .c (.p (.i .i64 tk))], h => match alOf x with
    | some (p, a) => some (p ∧ a.L.length ≤ 1000000, .t [.a [.p (.s a.r), .p (.i .i64 a.ver), .sl (lenL h) 2 0 a.L.length, .p (.i .i64 (alStep a vd tk).1.st), .p (.i .i64 (alStep a vd tk).1.si), .p (.i .i64 (alStep a vd tk).1.le)], .c (.p (.b (alStep a vd tk).2))], snoc (.row 35 2 a.L.length fun e o => .p (rowP enc2 a.L e o)) h)
    | none => none
  | _, _ => none
def extT : Ext := extH [(13, liftM mGen), (14, liftM mBent), (17, liftM mLives), (18, mAStepH), (19, liftM mRStep), (20, mSameH)]

theorem tLT1 (L : List Int) (at_ n vd tk : Int) : exTs extT (takeL 2 (pcs Tryd.prog Tryd.f4)) (st0 Tryd.f4 [listV encI 1 L, iV at_, iV n, iV vd, iV tk]) (endG (msk 68 [0, 1, 2, 3, 4, 11]) (resOf Tryd.prog Tryd.f4)) = Tr.done X.normal
    (cst 68 [(0, V.c (C.p (PV.l 1 L.length (rowP encI L)))), (1, V.c (C.p (PV.i IntKind.i64 at_))), (2, V.c (C.p (PV.i IntKind.i64 n))), (3, V.c (C.p (PV.i IntKind.i64 vd))), (4, V.c (C.p (PV.i IntKind.i64 tk))), (11, V.c (C.p (PV.i IntKind.i64 0)))] []) := by kernel_rfl
theorem tLT2 (L : List Int) (at_ n vd tk : Int) (i : Nat) : exTs extT (lpB (pcs Tryd.prog Tryd.f4) 2) (cst 68 [(0, listV encI 1 L), (1, iV at_), (2, iV n), (3, iV vd), (4, iV tk), (11, iV (i : Nat))] []) (endG (msk 68 [0, 1, 2, 3, 4, 11]) (resOf Tryd.prog Tryd.f4)) = bT (decide ((↑i : Int) < 2))
    (Tr.rq (IsL encI 1 (decL decI L.length (rowP encI L)) L.length (rowP encI L) ∧ Ints (decL decI L.length (rowP encI L)))
      (bT ((↑i : Int) == 1)
        (Tr.rq
          (IsL enc2 2 (decL dec2 (genL (decL decI L.length (rowP encI L))).L.length (rowP enc2 (genL (decL decI L.length (rowP encI L))).L)) (genL (decL decI L.length (rowP encI L))).L.length
              (rowP enc2 (genL (decL decI L.length (rowP encI L))).L) ∧
            inR IntKind.i64 at_ ∧ inR IntKind.i64 n ∧ IsL encI 1 (decL decI L.length (rowP encI L)) L.length (rowP encI L) ∧ Ints (decL decI L.length (rowP encI L)))
          (Tr.rq
            (IsL enc2 2
                (decL dec2
                  (bentA
                        (Al.mk (genL (decL decI L.length (rowP encI L))).r (genL (decL decI L.length (rowP encI L))).ver
                          (decL dec2 (genL (decL decI L.length (rowP encI L))).L.length (rowP enc2 (genL (decL decI L.length (rowP encI L))).L)) (genL (decL decI L.length (rowP encI L))).st
                          (genL (decL decI L.length (rowP encI L))).si (genL (decL decI L.length (rowP encI L))).le)
                        at_ n (decL decI L.length (rowP encI L))).L.length
                  (rowP enc2
                    (bentA
                        (Al.mk (genL (decL decI L.length (rowP encI L))).r (genL (decL decI L.length (rowP encI L))).ver
                          (decL dec2 (genL (decL decI L.length (rowP encI L))).L.length (rowP enc2 (genL (decL decI L.length (rowP encI L))).L)) (genL (decL decI L.length (rowP encI L))).st
                          (genL (decL decI L.length (rowP encI L))).si (genL (decL decI L.length (rowP encI L))).le)
                        at_ n (decL decI L.length (rowP encI L))).L))
                (bentA
                      (Al.mk (genL (decL decI L.length (rowP encI L))).r (genL (decL decI L.length (rowP encI L))).ver
                        (decL dec2 (genL (decL decI L.length (rowP encI L))).L.length (rowP enc2 (genL (decL decI L.length (rowP encI L))).L)) (genL (decL decI L.length (rowP encI L))).st
                        (genL (decL decI L.length (rowP encI L))).si (genL (decL decI L.length (rowP encI L))).le)
                      at_ n (decL decI L.length (rowP encI L))).L.length
                (rowP enc2
                  (bentA
                      (Al.mk (genL (decL decI L.length (rowP encI L))).r (genL (decL decI L.length (rowP encI L))).ver
                        (decL dec2 (genL (decL decI L.length (rowP encI L))).L.length (rowP enc2 (genL (decL decI L.length (rowP encI L))).L)) (genL (decL decI L.length (rowP encI L))).st
                        (genL (decL decI L.length (rowP encI L))).si (genL (decL decI L.length (rowP encI L))).le)
                      at_ n (decL decI L.length (rowP encI L))).L) ∧
              (Al.mk
                      (bentA
                          (Al.mk (genL (decL decI L.length (rowP encI L))).r (genL (decL decI L.length (rowP encI L))).ver
                            (decL dec2 (genL (decL decI L.length (rowP encI L))).L.length (rowP enc2 (genL (decL decI L.length (rowP encI L))).L)) (genL (decL decI L.length (rowP encI L))).st
                            (genL (decL decI L.length (rowP encI L))).si (genL (decL decI L.length (rowP encI L))).le)
                          at_ n (decL decI L.length (rowP encI L))).r
                      (bentA
                          (Al.mk (genL (decL decI L.length (rowP encI L))).r (genL (decL decI L.length (rowP encI L))).ver
                            (decL dec2 (genL (decL decI L.length (rowP encI L))).L.length (rowP enc2 (genL (decL decI L.length (rowP encI L))).L)) (genL (decL decI L.length (rowP encI L))).st
                            (genL (decL decI L.length (rowP encI L))).si (genL (decL decI L.length (rowP encI L))).le)
                          at_ n (decL decI L.length (rowP encI L))).ver
                      (decL dec2
                        (bentA
                              (Al.mk (genL (decL decI L.length (rowP encI L))).r (genL (decL decI L.length (rowP encI L))).ver
                                (decL dec2 (genL (decL decI L.length (rowP encI L))).L.length (rowP enc2 (genL (decL decI L.length (rowP encI L))).L)) (genL (decL decI L.length (rowP encI L))).st
                                (genL (decL decI L.length (rowP encI L))).si (genL (decL decI L.length (rowP encI L))).le)
                              at_ n (decL decI L.length (rowP encI L))).L.length
                        (rowP enc2
                          (bentA
                              (Al.mk (genL (decL decI L.length (rowP encI L))).r (genL (decL decI L.length (rowP encI L))).ver
                                (decL dec2 (genL (decL decI L.length (rowP encI L))).L.length (rowP enc2 (genL (decL decI L.length (rowP encI L))).L)) (genL (decL decI L.length (rowP encI L))).st
                                (genL (decL decI L.length (rowP encI L))).si (genL (decL decI L.length (rowP encI L))).le)
                              at_ n (decL decI L.length (rowP encI L))).L))
                      (bentA
                          (Al.mk (genL (decL decI L.length (rowP encI L))).r (genL (decL decI L.length (rowP encI L))).ver
                            (decL dec2 (genL (decL decI L.length (rowP encI L))).L.length (rowP enc2 (genL (decL decI L.length (rowP encI L))).L)) (genL (decL decI L.length (rowP encI L))).st
                            (genL (decL decI L.length (rowP encI L))).si (genL (decL decI L.length (rowP encI L))).le)
                          at_ n (decL decI L.length (rowP encI L))).st
                      (bentA
                          (Al.mk (genL (decL decI L.length (rowP encI L))).r (genL (decL decI L.length (rowP encI L))).ver
                            (decL dec2 (genL (decL decI L.length (rowP encI L))).L.length (rowP enc2 (genL (decL decI L.length (rowP encI L))).L)) (genL (decL decI L.length (rowP encI L))).st
                            (genL (decL decI L.length (rowP encI L))).si (genL (decL decI L.length (rowP encI L))).le)
                          at_ n (decL decI L.length (rowP encI L))).si
                      (bentA
                          (Al.mk (genL (decL decI L.length (rowP encI L))).r (genL (decL decI L.length (rowP encI L))).ver
                            (decL dec2 (genL (decL decI L.length (rowP encI L))).L.length (rowP enc2 (genL (decL decI L.length (rowP encI L))).L)) (genL (decL decI L.length (rowP encI L))).st
                            (genL (decL decI L.length (rowP encI L))).si (genL (decL decI L.length (rowP encI L))).le)
                          at_ n (decL decI L.length (rowP encI L))).le).L.length ≤
                1000000)
            (Tr.rq
              (IsL enc2 2
                (decL dec2
                  (bentA
                        (Al.mk (genL (decL decI L.length (rowP encI L))).r (genL (decL decI L.length (rowP encI L))).ver
                          (decL dec2 (genL (decL decI L.length (rowP encI L))).L.length (rowP enc2 (genL (decL decI L.length (rowP encI L))).L)) (genL (decL decI L.length (rowP encI L))).st
                          (genL (decL decI L.length (rowP encI L))).si (genL (decL decI L.length (rowP encI L))).le)
                        at_ n (decL decI L.length (rowP encI L))).L.length
                  (rowP enc2
                    (bentA
                        (Al.mk (genL (decL decI L.length (rowP encI L))).r (genL (decL decI L.length (rowP encI L))).ver
                          (decL dec2 (genL (decL decI L.length (rowP encI L))).L.length (rowP enc2 (genL (decL decI L.length (rowP encI L))).L)) (genL (decL decI L.length (rowP encI L))).st
                          (genL (decL decI L.length (rowP encI L))).si (genL (decL decI L.length (rowP encI L))).le)
                        at_ n (decL decI L.length (rowP encI L))).L))
                (bentA
                      (Al.mk (genL (decL decI L.length (rowP encI L))).r (genL (decL decI L.length (rowP encI L))).ver
                        (decL dec2 (genL (decL decI L.length (rowP encI L))).L.length (rowP enc2 (genL (decL decI L.length (rowP encI L))).L)) (genL (decL decI L.length (rowP encI L))).st
                        (genL (decL decI L.length (rowP encI L))).si (genL (decL decI L.length (rowP encI L))).le)
                      at_ n (decL decI L.length (rowP encI L))).L.length
                (rowP enc2
                  (bentA
                      (Al.mk (genL (decL decI L.length (rowP encI L))).r (genL (decL decI L.length (rowP encI L))).ver
                        (decL dec2 (genL (decL decI L.length (rowP encI L))).L.length (rowP enc2 (genL (decL decI L.length (rowP encI L))).L)) (genL (decL decI L.length (rowP encI L))).st
                        (genL (decL decI L.length (rowP encI L))).si (genL (decL decI L.length (rowP encI L))).le)
                      at_ n (decL decI L.length (rowP encI L))).L))
              (bT
                (!(alStep
                        (Al.mk
                          (bentA
                              (Al.mk (genL (decL decI L.length (rowP encI L))).r (genL (decL decI L.length (rowP encI L))).ver
                                (decL dec2 (genL (decL decI L.length (rowP encI L))).L.length (rowP enc2 (genL (decL decI L.length (rowP encI L))).L)) (genL (decL decI L.length (rowP encI L))).st
                                (genL (decL decI L.length (rowP encI L))).si (genL (decL decI L.length (rowP encI L))).le)
                              at_ n (decL decI L.length (rowP encI L))).r
                          (bentA
                              (Al.mk (genL (decL decI L.length (rowP encI L))).r (genL (decL decI L.length (rowP encI L))).ver
                                (decL dec2 (genL (decL decI L.length (rowP encI L))).L.length (rowP enc2 (genL (decL decI L.length (rowP encI L))).L)) (genL (decL decI L.length (rowP encI L))).st
                                (genL (decL decI L.length (rowP encI L))).si (genL (decL decI L.length (rowP encI L))).le)
                              at_ n (decL decI L.length (rowP encI L))).ver
                          (decL dec2
                            (bentA
                                  (Al.mk (genL (decL decI L.length (rowP encI L))).r (genL (decL decI L.length (rowP encI L))).ver
                                    (decL dec2 (genL (decL decI L.length (rowP encI L))).L.length (rowP enc2 (genL (decL decI L.length (rowP encI L))).L)) (genL (decL decI L.length (rowP encI L))).st
                                    (genL (decL decI L.length (rowP encI L))).si (genL (decL decI L.length (rowP encI L))).le)
                                  at_ n (decL decI L.length (rowP encI L))).L.length
                            (rowP enc2
                              (bentA
                                  (Al.mk (genL (decL decI L.length (rowP encI L))).r (genL (decL decI L.length (rowP encI L))).ver
                                    (decL dec2 (genL (decL decI L.length (rowP encI L))).L.length (rowP enc2 (genL (decL decI L.length (rowP encI L))).L)) (genL (decL decI L.length (rowP encI L))).st
                                    (genL (decL decI L.length (rowP encI L))).si (genL (decL decI L.length (rowP encI L))).le)
                                  at_ n (decL decI L.length (rowP encI L))).L))
                          (bentA
                              (Al.mk (genL (decL decI L.length (rowP encI L))).r (genL (decL decI L.length (rowP encI L))).ver
                                (decL dec2 (genL (decL decI L.length (rowP encI L))).L.length (rowP enc2 (genL (decL decI L.length (rowP encI L))).L)) (genL (decL decI L.length (rowP encI L))).st
                                (genL (decL decI L.length (rowP encI L))).si (genL (decL decI L.length (rowP encI L))).le)
                              at_ n (decL decI L.length (rowP encI L))).st
                          (bentA
                              (Al.mk (genL (decL decI L.length (rowP encI L))).r (genL (decL decI L.length (rowP encI L))).ver
                                (decL dec2 (genL (decL decI L.length (rowP encI L))).L.length (rowP enc2 (genL (decL decI L.length (rowP encI L))).L)) (genL (decL decI L.length (rowP encI L))).st
                                (genL (decL decI L.length (rowP encI L))).si (genL (decL decI L.length (rowP encI L))).le)
                              at_ n (decL decI L.length (rowP encI L))).si
                          (bentA
                              (Al.mk (genL (decL decI L.length (rowP encI L))).r (genL (decL decI L.length (rowP encI L))).ver
                                (decL dec2 (genL (decL decI L.length (rowP encI L))).L.length (rowP enc2 (genL (decL decI L.length (rowP encI L))).L)) (genL (decL decI L.length (rowP encI L))).st
                                (genL (decL decI L.length (rowP encI L))).si (genL (decL decI L.length (rowP encI L))).le)
                              at_ n (decL decI L.length (rowP encI L))).le)
                        vd tk).snd ==
                    (alStep
                        (Al.mk
                          (bentA
                              (Al.mk (genL (decL decI L.length (rowP encI L))).r (genL (decL decI L.length (rowP encI L))).ver
                                (decL dec2 (genL (decL decI L.length (rowP encI L))).L.length (rowP enc2 (genL (decL decI L.length (rowP encI L))).L)) (genL (decL decI L.length (rowP encI L))).st
                                (genL (decL decI L.length (rowP encI L))).si (genL (decL decI L.length (rowP encI L))).le)
                              at_ n (decL decI L.length (rowP encI L))).r
                          (bentA
                              (Al.mk (genL (decL decI L.length (rowP encI L))).r (genL (decL decI L.length (rowP encI L))).ver
                                (decL dec2 (genL (decL decI L.length (rowP encI L))).L.length (rowP enc2 (genL (decL decI L.length (rowP encI L))).L)) (genL (decL decI L.length (rowP encI L))).st
                                (genL (decL decI L.length (rowP encI L))).si (genL (decL decI L.length (rowP encI L))).le)
                              at_ n (decL decI L.length (rowP encI L))).ver
                          (decL dec2
                            (bentA
                                  (Al.mk (genL (decL decI L.length (rowP encI L))).r (genL (decL decI L.length (rowP encI L))).ver
                                    (decL dec2 (genL (decL decI L.length (rowP encI L))).L.length (rowP enc2 (genL (decL decI L.length (rowP encI L))).L)) (genL (decL decI L.length (rowP encI L))).st
                                    (genL (decL decI L.length (rowP encI L))).si (genL (decL decI L.length (rowP encI L))).le)
                                  at_ n (decL decI L.length (rowP encI L))).L.length
                            (rowP enc2
                              (bentA
                                  (Al.mk (genL (decL decI L.length (rowP encI L))).r (genL (decL decI L.length (rowP encI L))).ver
                                    (decL dec2 (genL (decL decI L.length (rowP encI L))).L.length (rowP enc2 (genL (decL decI L.length (rowP encI L))).L)) (genL (decL decI L.length (rowP encI L))).st
                                    (genL (decL decI L.length (rowP encI L))).si (genL (decL decI L.length (rowP encI L))).le)
                                  at_ n (decL decI L.length (rowP encI L))).L))
                          (bentA
                              (Al.mk (genL (decL decI L.length (rowP encI L))).r (genL (decL decI L.length (rowP encI L))).ver
                                (decL dec2 (genL (decL decI L.length (rowP encI L))).L.length (rowP enc2 (genL (decL decI L.length (rowP encI L))).L)) (genL (decL decI L.length (rowP encI L))).st
                                (genL (decL decI L.length (rowP encI L))).si (genL (decL decI L.length (rowP encI L))).le)
                              at_ n (decL decI L.length (rowP encI L))).st
                          (bentA
                              (Al.mk (genL (decL decI L.length (rowP encI L))).r (genL (decL decI L.length (rowP encI L))).ver
                                (decL dec2 (genL (decL decI L.length (rowP encI L))).L.length (rowP enc2 (genL (decL decI L.length (rowP encI L))).L)) (genL (decL decI L.length (rowP encI L))).st
                                (genL (decL decI L.length (rowP encI L))).si (genL (decL decI L.length (rowP encI L))).le)
                              at_ n (decL decI L.length (rowP encI L))).si
                          (bentA
                              (Al.mk (genL (decL decI L.length (rowP encI L))).r (genL (decL decI L.length (rowP encI L))).ver
                                (decL dec2 (genL (decL decI L.length (rowP encI L))).L.length (rowP enc2 (genL (decL decI L.length (rowP encI L))).L)) (genL (decL decI L.length (rowP encI L))).st
                                (genL (decL decI L.length (rowP encI L))).si (genL (decL decI L.length (rowP encI L))).le)
                              at_ n (decL decI L.length (rowP encI L))).le)
                        vd tk).snd)
                (Tr.done X.ret (St.mk [V.c (C.p (PV.b false))] []))
                (Tr.rq
                  ((((Al.mk
                                (bentA
                                    (Al.mk (genL (decL decI L.length (rowP encI L))).r (genL (decL decI L.length (rowP encI L))).ver
                                      (decL dec2 (genL (decL decI L.length (rowP encI L))).L.length (rowP enc2 (genL (decL decI L.length (rowP encI L))).L)) (genL (decL decI L.length (rowP encI L))).st
                                      (genL (decL decI L.length (rowP encI L))).si (genL (decL decI L.length (rowP encI L))).le)
                                    at_ n (decL decI L.length (rowP encI L))).r
                                (bentA
                                    (Al.mk (genL (decL decI L.length (rowP encI L))).r (genL (decL decI L.length (rowP encI L))).ver
                                      (decL dec2 (genL (decL decI L.length (rowP encI L))).L.length (rowP enc2 (genL (decL decI L.length (rowP encI L))).L)) (genL (decL decI L.length (rowP encI L))).st
                                      (genL (decL decI L.length (rowP encI L))).si (genL (decL decI L.length (rowP encI L))).le)
                                    at_ n (decL decI L.length (rowP encI L))).ver
                                (decL dec2
                                  (bentA
                                        (Al.mk (genL (decL decI L.length (rowP encI L))).r (genL (decL decI L.length (rowP encI L))).ver
                                          (decL dec2 (genL (decL decI L.length (rowP encI L))).L.length (rowP enc2 (genL (decL decI L.length (rowP encI L))).L))
                                          (genL (decL decI L.length (rowP encI L))).st (genL (decL decI L.length (rowP encI L))).si (genL (decL decI L.length (rowP encI L))).le)
                                        at_ n (decL decI L.length (rowP encI L))).L.length
                                  (rowP enc2
                                    (bentA
                                        (Al.mk (genL (decL decI L.length (rowP encI L))).r (genL (decL decI L.length (rowP encI L))).ver
                                          (decL dec2 (genL (decL decI L.length (rowP encI L))).L.length (rowP enc2 (genL (decL decI L.length (rowP encI L))).L))
                                          (genL (decL decI L.length (rowP encI L))).st (genL (decL decI L.length (rowP encI L))).si (genL (decL decI L.length (rowP encI L))).le)
                                        at_ n (decL decI L.length (rowP encI L))).L))
                                (bentA
                                    (Al.mk (genL (decL decI L.length (rowP encI L))).r (genL (decL decI L.length (rowP encI L))).ver
                                      (decL dec2 (genL (decL decI L.length (rowP encI L))).L.length (rowP enc2 (genL (decL decI L.length (rowP encI L))).L)) (genL (decL decI L.length (rowP encI L))).st
                                      (genL (decL decI L.length (rowP encI L))).si (genL (decL decI L.length (rowP encI L))).le)
                                    at_ n (decL decI L.length (rowP encI L))).st
                                (bentA
                                    (Al.mk (genL (decL decI L.length (rowP encI L))).r (genL (decL decI L.length (rowP encI L))).ver
                                      (decL dec2 (genL (decL decI L.length (rowP encI L))).L.length (rowP enc2 (genL (decL decI L.length (rowP encI L))).L)) (genL (decL decI L.length (rowP encI L))).st
                                      (genL (decL decI L.length (rowP encI L))).si (genL (decL decI L.length (rowP encI L))).le)
                                    at_ n (decL decI L.length (rowP encI L))).si
                                (bentA
                                    (Al.mk (genL (decL decI L.length (rowP encI L))).r (genL (decL decI L.length (rowP encI L))).ver
                                      (decL dec2 (genL (decL decI L.length (rowP encI L))).L.length (rowP enc2 (genL (decL decI L.length (rowP encI L))).L)) (genL (decL decI L.length (rowP encI L))).st
                                      (genL (decL decI L.length (rowP encI L))).si (genL (decL decI L.length (rowP encI L))).le)
                                    at_ n (decL decI L.length (rowP encI L))).le).L.length =
                          (Al.mk
                                (bentA
                                    (Al.mk (genL (decL decI L.length (rowP encI L))).r (genL (decL decI L.length (rowP encI L))).ver
                                      (decL dec2 (genL (decL decI L.length (rowP encI L))).L.length (rowP enc2 (genL (decL decI L.length (rowP encI L))).L)) (genL (decL decI L.length (rowP encI L))).st
                                      (genL (decL decI L.length (rowP encI L))).si (genL (decL decI L.length (rowP encI L))).le)
                                    at_ n (decL decI L.length (rowP encI L))).r
                                (bentA
                                    (Al.mk (genL (decL decI L.length (rowP encI L))).r (genL (decL decI L.length (rowP encI L))).ver
                                      (decL dec2 (genL (decL decI L.length (rowP encI L))).L.length (rowP enc2 (genL (decL decI L.length (rowP encI L))).L)) (genL (decL decI L.length (rowP encI L))).st
                                      (genL (decL decI L.length (rowP encI L))).si (genL (decL decI L.length (rowP encI L))).le)
                                    at_ n (decL decI L.length (rowP encI L))).ver
                                (decL dec2
                                  (bentA
                                        (Al.mk (genL (decL decI L.length (rowP encI L))).r (genL (decL decI L.length (rowP encI L))).ver
                                          (decL dec2 (genL (decL decI L.length (rowP encI L))).L.length (rowP enc2 (genL (decL decI L.length (rowP encI L))).L))
                                          (genL (decL decI L.length (rowP encI L))).st (genL (decL decI L.length (rowP encI L))).si (genL (decL decI L.length (rowP encI L))).le)
                                        at_ n (decL decI L.length (rowP encI L))).L.length
                                  (rowP enc2
                                    (bentA
                                        (Al.mk (genL (decL decI L.length (rowP encI L))).r (genL (decL decI L.length (rowP encI L))).ver
                                          (decL dec2 (genL (decL decI L.length (rowP encI L))).L.length (rowP enc2 (genL (decL decI L.length (rowP encI L))).L))
                                          (genL (decL decI L.length (rowP encI L))).st (genL (decL decI L.length (rowP encI L))).si (genL (decL decI L.length (rowP encI L))).le)
                                        at_ n (decL decI L.length (rowP encI L))).L))
                                (bentA
                                    (Al.mk (genL (decL decI L.length (rowP encI L))).r (genL (decL decI L.length (rowP encI L))).ver
                                      (decL dec2 (genL (decL decI L.length (rowP encI L))).L.length (rowP enc2 (genL (decL decI L.length (rowP encI L))).L)) (genL (decL decI L.length (rowP encI L))).st
                                      (genL (decL decI L.length (rowP encI L))).si (genL (decL decI L.length (rowP encI L))).le)
                                    at_ n (decL decI L.length (rowP encI L))).st
                                (bentA
                                    (Al.mk (genL (decL decI L.length (rowP encI L))).r (genL (decL decI L.length (rowP encI L))).ver
                                      (decL dec2 (genL (decL decI L.length (rowP encI L))).L.length (rowP enc2 (genL (decL decI L.length (rowP encI L))).L)) (genL (decL decI L.length (rowP encI L))).st
                                      (genL (decL decI L.length (rowP encI L))).si (genL (decL decI L.length (rowP encI L))).le)
                                    at_ n (decL decI L.length (rowP encI L))).si
                                (bentA
                                    (Al.mk (genL (decL decI L.length (rowP encI L))).r (genL (decL decI L.length (rowP encI L))).ver
                                      (decL dec2 (genL (decL decI L.length (rowP encI L))).L.length (rowP enc2 (genL (decL decI L.length (rowP encI L))).L)) (genL (decL decI L.length (rowP encI L))).st
                                      (genL (decL decI L.length (rowP encI L))).si (genL (decL decI L.length (rowP encI L))).le)
                                    at_ n (decL decI L.length (rowP encI L))).le).L.length ∧
                        ∀ (e o : Nat),
                          e <
                              (Al.mk
                                    (bentA
                                        (Al.mk (genL (decL decI L.length (rowP encI L))).r (genL (decL decI L.length (rowP encI L))).ver
                                          (decL dec2 (genL (decL decI L.length (rowP encI L))).L.length (rowP enc2 (genL (decL decI L.length (rowP encI L))).L))
                                          (genL (decL decI L.length (rowP encI L))).st (genL (decL decI L.length (rowP encI L))).si (genL (decL decI L.length (rowP encI L))).le)
                                        at_ n (decL decI L.length (rowP encI L))).r
                                    (bentA
                                        (Al.mk (genL (decL decI L.length (rowP encI L))).r (genL (decL decI L.length (rowP encI L))).ver
                                          (decL dec2 (genL (decL decI L.length (rowP encI L))).L.length (rowP enc2 (genL (decL decI L.length (rowP encI L))).L))
                                          (genL (decL decI L.length (rowP encI L))).st (genL (decL decI L.length (rowP encI L))).si (genL (decL decI L.length (rowP encI L))).le)
                                        at_ n (decL decI L.length (rowP encI L))).ver
                                    (decL dec2
                                      (bentA
                                            (Al.mk (genL (decL decI L.length (rowP encI L))).r (genL (decL decI L.length (rowP encI L))).ver
                                              (decL dec2 (genL (decL decI L.length (rowP encI L))).L.length (rowP enc2 (genL (decL decI L.length (rowP encI L))).L))
                                              (genL (decL decI L.length (rowP encI L))).st (genL (decL decI L.length (rowP encI L))).si (genL (decL decI L.length (rowP encI L))).le)
                                            at_ n (decL decI L.length (rowP encI L))).L.length
                                      (rowP enc2
                                        (bentA
                                            (Al.mk (genL (decL decI L.length (rowP encI L))).r (genL (decL decI L.length (rowP encI L))).ver
                                              (decL dec2 (genL (decL decI L.length (rowP encI L))).L.length (rowP enc2 (genL (decL decI L.length (rowP encI L))).L))
                                              (genL (decL decI L.length (rowP encI L))).st (genL (decL decI L.length (rowP encI L))).si (genL (decL decI L.length (rowP encI L))).le)
                                            at_ n (decL decI L.length (rowP encI L))).L))
                                    (bentA
                                        (Al.mk (genL (decL decI L.length (rowP encI L))).r (genL (decL decI L.length (rowP encI L))).ver
                                          (decL dec2 (genL (decL decI L.length (rowP encI L))).L.length (rowP enc2 (genL (decL decI L.length (rowP encI L))).L))
                                          (genL (decL decI L.length (rowP encI L))).st (genL (decL decI L.length (rowP encI L))).si (genL (decL decI L.length (rowP encI L))).le)
                                        at_ n (decL decI L.length (rowP encI L))).st
                                    (bentA
                                        (Al.mk (genL (decL decI L.length (rowP encI L))).r (genL (decL decI L.length (rowP encI L))).ver
                                          (decL dec2 (genL (decL decI L.length (rowP encI L))).L.length (rowP enc2 (genL (decL decI L.length (rowP encI L))).L))
                                          (genL (decL decI L.length (rowP encI L))).st (genL (decL decI L.length (rowP encI L))).si (genL (decL decI L.length (rowP encI L))).le)
                                        at_ n (decL decI L.length (rowP encI L))).si
                                    (bentA
                                        (Al.mk (genL (decL decI L.length (rowP encI L))).r (genL (decL decI L.length (rowP encI L))).ver
                                          (decL dec2 (genL (decL decI L.length (rowP encI L))).L.length (rowP enc2 (genL (decL decI L.length (rowP encI L))).L))
                                          (genL (decL decI L.length (rowP encI L))).st (genL (decL decI L.length (rowP encI L))).si (genL (decL decI L.length (rowP encI L))).le)
                                        at_ n (decL decI L.length (rowP encI L))).le).L.length →
                            o < 2 →
                              C.p
                                  (rowP enc2
                                    (Al.mk
                                        (bentA
                                            (Al.mk (genL (decL decI L.length (rowP encI L))).r (genL (decL decI L.length (rowP encI L))).ver
                                              (decL dec2 (genL (decL decI L.length (rowP encI L))).L.length (rowP enc2 (genL (decL decI L.length (rowP encI L))).L))
                                              (genL (decL decI L.length (rowP encI L))).st (genL (decL decI L.length (rowP encI L))).si (genL (decL decI L.length (rowP encI L))).le)
                                            at_ n (decL decI L.length (rowP encI L))).r
                                        (bentA
                                            (Al.mk (genL (decL decI L.length (rowP encI L))).r (genL (decL decI L.length (rowP encI L))).ver
                                              (decL dec2 (genL (decL decI L.length (rowP encI L))).L.length (rowP enc2 (genL (decL decI L.length (rowP encI L))).L))
                                              (genL (decL decI L.length (rowP encI L))).st (genL (decL decI L.length (rowP encI L))).si (genL (decL decI L.length (rowP encI L))).le)
                                            at_ n (decL decI L.length (rowP encI L))).ver
                                        (decL dec2
                                          (bentA
                                                (Al.mk (genL (decL decI L.length (rowP encI L))).r (genL (decL decI L.length (rowP encI L))).ver
                                                  (decL dec2 (genL (decL decI L.length (rowP encI L))).L.length (rowP enc2 (genL (decL decI L.length (rowP encI L))).L))
                                                  (genL (decL decI L.length (rowP encI L))).st (genL (decL decI L.length (rowP encI L))).si (genL (decL decI L.length (rowP encI L))).le)
                                                at_ n (decL decI L.length (rowP encI L))).L.length
                                          (rowP enc2
                                            (bentA
                                                (Al.mk (genL (decL decI L.length (rowP encI L))).r (genL (decL decI L.length (rowP encI L))).ver
                                                  (decL dec2 (genL (decL decI L.length (rowP encI L))).L.length (rowP enc2 (genL (decL decI L.length (rowP encI L))).L))
                                                  (genL (decL decI L.length (rowP encI L))).st (genL (decL decI L.length (rowP encI L))).si (genL (decL decI L.length (rowP encI L))).le)
                                                at_ n (decL decI L.length (rowP encI L))).L))
                                        (bentA
                                            (Al.mk (genL (decL decI L.length (rowP encI L))).r (genL (decL decI L.length (rowP encI L))).ver
                                              (decL dec2 (genL (decL decI L.length (rowP encI L))).L.length (rowP enc2 (genL (decL decI L.length (rowP encI L))).L))
                                              (genL (decL decI L.length (rowP encI L))).st (genL (decL decI L.length (rowP encI L))).si (genL (decL decI L.length (rowP encI L))).le)
                                            at_ n (decL decI L.length (rowP encI L))).st
                                        (bentA
                                            (Al.mk (genL (decL decI L.length (rowP encI L))).r (genL (decL decI L.length (rowP encI L))).ver
                                              (decL dec2 (genL (decL decI L.length (rowP encI L))).L.length (rowP enc2 (genL (decL decI L.length (rowP encI L))).L))
                                              (genL (decL decI L.length (rowP encI L))).st (genL (decL decI L.length (rowP encI L))).si (genL (decL decI L.length (rowP encI L))).le)
                                            at_ n (decL decI L.length (rowP encI L))).si
                                        (bentA
                                            (Al.mk (genL (decL decI L.length (rowP encI L))).r (genL (decL decI L.length (rowP encI L))).ver
                                              (decL dec2 (genL (decL decI L.length (rowP encI L))).L.length (rowP enc2 (genL (decL decI L.length (rowP encI L))).L))
                                              (genL (decL decI L.length (rowP encI L))).st (genL (decL decI L.length (rowP encI L))).si (genL (decL decI L.length (rowP encI L))).le)
                                            at_ n (decL decI L.length (rowP encI L))).le).L
                                    e o) =
                                C.p
                                  (rowP enc2
                                    (decL dec2
                                      (Al.mk
                                            (bentA
                                                (Al.mk (genL (decL decI L.length (rowP encI L))).r (genL (decL decI L.length (rowP encI L))).ver
                                                  (decL dec2 (genL (decL decI L.length (rowP encI L))).L.length (rowP enc2 (genL (decL decI L.length (rowP encI L))).L))
                                                  (genL (decL decI L.length (rowP encI L))).st (genL (decL decI L.length (rowP encI L))).si (genL (decL decI L.length (rowP encI L))).le)
                                                at_ n (decL decI L.length (rowP encI L))).r
                                            (bentA
                                                (Al.mk (genL (decL decI L.length (rowP encI L))).r (genL (decL decI L.length (rowP encI L))).ver
                                                  (decL dec2 (genL (decL decI L.length (rowP encI L))).L.length (rowP enc2 (genL (decL decI L.length (rowP encI L))).L))
                                                  (genL (decL decI L.length (rowP encI L))).st (genL (decL decI L.length (rowP encI L))).si (genL (decL decI L.length (rowP encI L))).le)
                                                at_ n (decL decI L.length (rowP encI L))).ver
                                            (decL dec2
                                              (bentA
                                                    (Al.mk (genL (decL decI L.length (rowP encI L))).r (genL (decL decI L.length (rowP encI L))).ver
                                                      (decL dec2 (genL (decL decI L.length (rowP encI L))).L.length (rowP enc2 (genL (decL decI L.length (rowP encI L))).L))
                                                      (genL (decL decI L.length (rowP encI L))).st (genL (decL decI L.length (rowP encI L))).si (genL (decL decI L.length (rowP encI L))).le)
                                                    at_ n (decL decI L.length (rowP encI L))).L.length
                                              (rowP enc2
                                                (bentA
                                                    (Al.mk (genL (decL decI L.length (rowP encI L))).r (genL (decL decI L.length (rowP encI L))).ver
                                                      (decL dec2 (genL (decL decI L.length (rowP encI L))).L.length (rowP enc2 (genL (decL decI L.length (rowP encI L))).L))
                                                      (genL (decL decI L.length (rowP encI L))).st (genL (decL decI L.length (rowP encI L))).si (genL (decL decI L.length (rowP encI L))).le)
                                                    at_ n (decL decI L.length (rowP encI L))).L))
                                            (bentA
                                                (Al.mk (genL (decL decI L.length (rowP encI L))).r (genL (decL decI L.length (rowP encI L))).ver
                                                  (decL dec2 (genL (decL decI L.length (rowP encI L))).L.length (rowP enc2 (genL (decL decI L.length (rowP encI L))).L))
                                                  (genL (decL decI L.length (rowP encI L))).st (genL (decL decI L.length (rowP encI L))).si (genL (decL decI L.length (rowP encI L))).le)
                                                at_ n (decL decI L.length (rowP encI L))).st
                                            (bentA
                                                (Al.mk (genL (decL decI L.length (rowP encI L))).r (genL (decL decI L.length (rowP encI L))).ver
                                                  (decL dec2 (genL (decL decI L.length (rowP encI L))).L.length (rowP enc2 (genL (decL decI L.length (rowP encI L))).L))
                                                  (genL (decL decI L.length (rowP encI L))).st (genL (decL decI L.length (rowP encI L))).si (genL (decL decI L.length (rowP encI L))).le)
                                                at_ n (decL decI L.length (rowP encI L))).si
                                            (bentA
                                                (Al.mk (genL (decL decI L.length (rowP encI L))).r (genL (decL decI L.length (rowP encI L))).ver
                                                  (decL dec2 (genL (decL decI L.length (rowP encI L))).L.length (rowP enc2 (genL (decL decI L.length (rowP encI L))).L))
                                                  (genL (decL decI L.length (rowP encI L))).st (genL (decL decI L.length (rowP encI L))).si (genL (decL decI L.length (rowP encI L))).le)
                                                at_ n (decL decI L.length (rowP encI L))).le).L.length
                                      fun e o =>
                                      unP
                                        (C.p
                                          (rowP enc2
                                            (Al.mk
                                                (bentA
                                                    (Al.mk (genL (decL decI L.length (rowP encI L))).r (genL (decL decI L.length (rowP encI L))).ver
                                                      (decL dec2 (genL (decL decI L.length (rowP encI L))).L.length (rowP enc2 (genL (decL decI L.length (rowP encI L))).L))
                                                      (genL (decL decI L.length (rowP encI L))).st (genL (decL decI L.length (rowP encI L))).si (genL (decL decI L.length (rowP encI L))).le)
                                                    at_ n (decL decI L.length (rowP encI L))).r
                                                (bentA
                                                    (Al.mk (genL (decL decI L.length (rowP encI L))).r (genL (decL decI L.length (rowP encI L))).ver
                                                      (decL dec2 (genL (decL decI L.length (rowP encI L))).L.length (rowP enc2 (genL (decL decI L.length (rowP encI L))).L))
                                                      (genL (decL decI L.length (rowP encI L))).st (genL (decL decI L.length (rowP encI L))).si (genL (decL decI L.length (rowP encI L))).le)
                                                    at_ n (decL decI L.length (rowP encI L))).ver
                                                (decL dec2
                                                  (bentA
                                                        (Al.mk (genL (decL decI L.length (rowP encI L))).r (genL (decL decI L.length (rowP encI L))).ver
                                                          (decL dec2 (genL (decL decI L.length (rowP encI L))).L.length (rowP enc2 (genL (decL decI L.length (rowP encI L))).L))
                                                          (genL (decL decI L.length (rowP encI L))).st (genL (decL decI L.length (rowP encI L))).si (genL (decL decI L.length (rowP encI L))).le)
                                                        at_ n (decL decI L.length (rowP encI L))).L.length
                                                  (rowP enc2
                                                    (bentA
                                                        (Al.mk (genL (decL decI L.length (rowP encI L))).r (genL (decL decI L.length (rowP encI L))).ver
                                                          (decL dec2 (genL (decL decI L.length (rowP encI L))).L.length (rowP enc2 (genL (decL decI L.length (rowP encI L))).L))
                                                          (genL (decL decI L.length (rowP encI L))).st (genL (decL decI L.length (rowP encI L))).si (genL (decL decI L.length (rowP encI L))).le)
                                                        at_ n (decL decI L.length (rowP encI L))).L))
                                                (bentA
                                                    (Al.mk (genL (decL decI L.length (rowP encI L))).r (genL (decL decI L.length (rowP encI L))).ver
                                                      (decL dec2 (genL (decL decI L.length (rowP encI L))).L.length (rowP enc2 (genL (decL decI L.length (rowP encI L))).L))
                                                      (genL (decL decI L.length (rowP encI L))).st (genL (decL decI L.length (rowP encI L))).si (genL (decL decI L.length (rowP encI L))).le)
                                                    at_ n (decL decI L.length (rowP encI L))).st
                                                (bentA
                                                    (Al.mk (genL (decL decI L.length (rowP encI L))).r (genL (decL decI L.length (rowP encI L))).ver
                                                      (decL dec2 (genL (decL decI L.length (rowP encI L))).L.length (rowP enc2 (genL (decL decI L.length (rowP encI L))).L))
                                                      (genL (decL decI L.length (rowP encI L))).st (genL (decL decI L.length (rowP encI L))).si (genL (decL decI L.length (rowP encI L))).le)
                                                    at_ n (decL decI L.length (rowP encI L))).si
                                                (bentA
                                                    (Al.mk (genL (decL decI L.length (rowP encI L))).r (genL (decL decI L.length (rowP encI L))).ver
                                                      (decL dec2 (genL (decL decI L.length (rowP encI L))).L.length (rowP enc2 (genL (decL decI L.length (rowP encI L))).L))
                                                      (genL (decL decI L.length (rowP encI L))).st (genL (decL decI L.length (rowP encI L))).si (genL (decL decI L.length (rowP encI L))).le)
                                                    at_ n (decL decI L.length (rowP encI L))).le).L
                                            e o)))
                                    e o)) ∧
                      IsL enc2 2
                        (decL dec2
                          (alStep
                                  (Al.mk
                                    (bentA
                                        (Al.mk (genL (decL decI L.length (rowP encI L))).r (genL (decL decI L.length (rowP encI L))).ver
                                          (decL dec2 (genL (decL decI L.length (rowP encI L))).L.length (rowP enc2 (genL (decL decI L.length (rowP encI L))).L))
                                          (genL (decL decI L.length (rowP encI L))).st (genL (decL decI L.length (rowP encI L))).si (genL (decL decI L.length (rowP encI L))).le)
                                        at_ n (decL decI L.length (rowP encI L))).r
                                    (bentA
                                        (Al.mk (genL (decL decI L.length (rowP encI L))).r (genL (decL decI L.length (rowP encI L))).ver
                                          (decL dec2 (genL (decL decI L.length (rowP encI L))).L.length (rowP enc2 (genL (decL decI L.length (rowP encI L))).L))
                                          (genL (decL decI L.length (rowP encI L))).st (genL (decL decI L.length (rowP encI L))).si (genL (decL decI L.length (rowP encI L))).le)
                                        at_ n (decL decI L.length (rowP encI L))).ver
                                    (decL dec2
                                      (bentA
                                            (Al.mk (genL (decL decI L.length (rowP encI L))).r (genL (decL decI L.length (rowP encI L))).ver
                                              (decL dec2 (genL (decL decI L.length (rowP encI L))).L.length (rowP enc2 (genL (decL decI L.length (rowP encI L))).L))
                                              (genL (decL decI L.length (rowP encI L))).st (genL (decL decI L.length (rowP encI L))).si (genL (decL decI L.length (rowP encI L))).le)
                                            at_ n (decL decI L.length (rowP encI L))).L.length
                                      (rowP enc2
                                        (bentA
                                            (Al.mk (genL (decL decI L.length (rowP encI L))).r (genL (decL decI L.length (rowP encI L))).ver
                                              (decL dec2 (genL (decL decI L.length (rowP encI L))).L.length (rowP enc2 (genL (decL decI L.length (rowP encI L))).L))
                                              (genL (decL decI L.length (rowP encI L))).st (genL (decL decI L.length (rowP encI L))).si (genL (decL decI L.length (rowP encI L))).le)
                                            at_ n (decL decI L.length (rowP encI L))).L))
                                    (bentA
                                        (Al.mk (genL (decL decI L.length (rowP encI L))).r (genL (decL decI L.length (rowP encI L))).ver
                                          (decL dec2 (genL (decL decI L.length (rowP encI L))).L.length (rowP enc2 (genL (decL decI L.length (rowP encI L))).L))
                                          (genL (decL decI L.length (rowP encI L))).st (genL (decL decI L.length (rowP encI L))).si (genL (decL decI L.length (rowP encI L))).le)
                                        at_ n (decL decI L.length (rowP encI L))).st
                                    (bentA
                                        (Al.mk (genL (decL decI L.length (rowP encI L))).r (genL (decL decI L.length (rowP encI L))).ver
                                          (decL dec2 (genL (decL decI L.length (rowP encI L))).L.length (rowP enc2 (genL (decL decI L.length (rowP encI L))).L))
                                          (genL (decL decI L.length (rowP encI L))).st (genL (decL decI L.length (rowP encI L))).si (genL (decL decI L.length (rowP encI L))).le)
                                        at_ n (decL decI L.length (rowP encI L))).si
                                    (bentA
                                        (Al.mk (genL (decL decI L.length (rowP encI L))).r (genL (decL decI L.length (rowP encI L))).ver
                                          (decL dec2 (genL (decL decI L.length (rowP encI L))).L.length (rowP enc2 (genL (decL decI L.length (rowP encI L))).L))
                                          (genL (decL decI L.length (rowP encI L))).st (genL (decL decI L.length (rowP encI L))).si (genL (decL decI L.length (rowP encI L))).le)
                                        at_ n (decL decI L.length (rowP encI L))).le)
                                  vd tk).fst.L.length
                          (rowP enc2
                            (alStep
                                  (Al.mk
                                    (bentA
                                        (Al.mk (genL (decL decI L.length (rowP encI L))).r (genL (decL decI L.length (rowP encI L))).ver
                                          (decL dec2 (genL (decL decI L.length (rowP encI L))).L.length (rowP enc2 (genL (decL decI L.length (rowP encI L))).L))
                                          (genL (decL decI L.length (rowP encI L))).st (genL (decL decI L.length (rowP encI L))).si (genL (decL decI L.length (rowP encI L))).le)
                                        at_ n (decL decI L.length (rowP encI L))).r
                                    (bentA
                                        (Al.mk (genL (decL decI L.length (rowP encI L))).r (genL (decL decI L.length (rowP encI L))).ver
                                          (decL dec2 (genL (decL decI L.length (rowP encI L))).L.length (rowP enc2 (genL (decL decI L.length (rowP encI L))).L))
                                          (genL (decL decI L.length (rowP encI L))).st (genL (decL decI L.length (rowP encI L))).si (genL (decL decI L.length (rowP encI L))).le)
                                        at_ n (decL decI L.length (rowP encI L))).ver
                                    (decL dec2
                                      (bentA
                                            (Al.mk (genL (decL decI L.length (rowP encI L))).r (genL (decL decI L.length (rowP encI L))).ver
                                              (decL dec2 (genL (decL decI L.length (rowP encI L))).L.length (rowP enc2 (genL (decL decI L.length (rowP encI L))).L))
                                              (genL (decL decI L.length (rowP encI L))).st (genL (decL decI L.length (rowP encI L))).si (genL (decL decI L.length (rowP encI L))).le)
                                            at_ n (decL decI L.length (rowP encI L))).L.length
                                      (rowP enc2
                                        (bentA
                                            (Al.mk (genL (decL decI L.length (rowP encI L))).r (genL (decL decI L.length (rowP encI L))).ver
                                              (decL dec2 (genL (decL decI L.length (rowP encI L))).L.length (rowP enc2 (genL (decL decI L.length (rowP encI L))).L))
                                              (genL (decL decI L.length (rowP encI L))).st (genL (decL decI L.length (rowP encI L))).si (genL (decL decI L.length (rowP encI L))).le)
                                            at_ n (decL decI L.length (rowP encI L))).L))
                                    (bentA
                                        (Al.mk (genL (decL decI L.length (rowP encI L))).r (genL (decL decI L.length (rowP encI L))).ver
                                          (decL dec2 (genL (decL decI L.length (rowP encI L))).L.length (rowP enc2 (genL (decL decI L.length (rowP encI L))).L))
                                          (genL (decL decI L.length (rowP encI L))).st (genL (decL decI L.length (rowP encI L))).si (genL (decL decI L.length (rowP encI L))).le)
                                        at_ n (decL decI L.length (rowP encI L))).st
                                    (bentA
                                        (Al.mk (genL (decL decI L.length (rowP encI L))).r (genL (decL decI L.length (rowP encI L))).ver
                                          (decL dec2 (genL (decL decI L.length (rowP encI L))).L.length (rowP enc2 (genL (decL decI L.length (rowP encI L))).L))
                                          (genL (decL decI L.length (rowP encI L))).st (genL (decL decI L.length (rowP encI L))).si (genL (decL decI L.length (rowP encI L))).le)
                                        at_ n (decL decI L.length (rowP encI L))).si
                                    (bentA
                                        (Al.mk (genL (decL decI L.length (rowP encI L))).r (genL (decL decI L.length (rowP encI L))).ver
                                          (decL dec2 (genL (decL decI L.length (rowP encI L))).L.length (rowP enc2 (genL (decL decI L.length (rowP encI L))).L))
                                          (genL (decL decI L.length (rowP encI L))).st (genL (decL decI L.length (rowP encI L))).si (genL (decL decI L.length (rowP encI L))).le)
                                        at_ n (decL decI L.length (rowP encI L))).le)
                                  vd tk).fst.L))
                        (alStep
                                (Al.mk
                                  (bentA
                                      (Al.mk (genL (decL decI L.length (rowP encI L))).r (genL (decL decI L.length (rowP encI L))).ver
                                        (decL dec2 (genL (decL decI L.length (rowP encI L))).L.length (rowP enc2 (genL (decL decI L.length (rowP encI L))).L))
                                        (genL (decL decI L.length (rowP encI L))).st (genL (decL decI L.length (rowP encI L))).si (genL (decL decI L.length (rowP encI L))).le)
                                      at_ n (decL decI L.length (rowP encI L))).r
                                  (bentA
                                      (Al.mk (genL (decL decI L.length (rowP encI L))).r (genL (decL decI L.length (rowP encI L))).ver
                                        (decL dec2 (genL (decL decI L.length (rowP encI L))).L.length (rowP enc2 (genL (decL decI L.length (rowP encI L))).L))
                                        (genL (decL decI L.length (rowP encI L))).st (genL (decL decI L.length (rowP encI L))).si (genL (decL decI L.length (rowP encI L))).le)
                                      at_ n (decL decI L.length (rowP encI L))).ver
                                  (decL dec2
                                    (bentA
                                          (Al.mk (genL (decL decI L.length (rowP encI L))).r (genL (decL decI L.length (rowP encI L))).ver
                                            (decL dec2 (genL (decL decI L.length (rowP encI L))).L.length (rowP enc2 (genL (decL decI L.length (rowP encI L))).L))
                                            (genL (decL decI L.length (rowP encI L))).st (genL (decL decI L.length (rowP encI L))).si (genL (decL decI L.length (rowP encI L))).le)
                                          at_ n (decL decI L.length (rowP encI L))).L.length
                                    (rowP enc2
                                      (bentA
                                          (Al.mk (genL (decL decI L.length (rowP encI L))).r (genL (decL decI L.length (rowP encI L))).ver
                                            (decL dec2 (genL (decL decI L.length (rowP encI L))).L.length (rowP enc2 (genL (decL decI L.length (rowP encI L))).L))
                                            (genL (decL decI L.length (rowP encI L))).st (genL (decL decI L.length (rowP encI L))).si (genL (decL decI L.length (rowP encI L))).le)
                                          at_ n (decL decI L.length (rowP encI L))).L))
                                  (bentA
                                      (Al.mk (genL (decL decI L.length (rowP encI L))).r (genL (decL decI L.length (rowP encI L))).ver
                                        (decL dec2 (genL (decL decI L.length (rowP encI L))).L.length (rowP enc2 (genL (decL decI L.length (rowP encI L))).L))
                                        (genL (decL decI L.length (rowP encI L))).st (genL (decL decI L.length (rowP encI L))).si (genL (decL decI L.length (rowP encI L))).le)
                                      at_ n (decL decI L.length (rowP encI L))).st
                                  (bentA
                                      (Al.mk (genL (decL decI L.length (rowP encI L))).r (genL (decL decI L.length (rowP encI L))).ver
                                        (decL dec2 (genL (decL decI L.length (rowP encI L))).L.length (rowP enc2 (genL (decL decI L.length (rowP encI L))).L))
                                        (genL (decL decI L.length (rowP encI L))).st (genL (decL decI L.length (rowP encI L))).si (genL (decL decI L.length (rowP encI L))).le)
                                      at_ n (decL decI L.length (rowP encI L))).si
                                  (bentA
                                      (Al.mk (genL (decL decI L.length (rowP encI L))).r (genL (decL decI L.length (rowP encI L))).ver
                                        (decL dec2 (genL (decL decI L.length (rowP encI L))).L.length (rowP enc2 (genL (decL decI L.length (rowP encI L))).L))
                                        (genL (decL decI L.length (rowP encI L))).st (genL (decL decI L.length (rowP encI L))).si (genL (decL decI L.length (rowP encI L))).le)
                                      at_ n (decL decI L.length (rowP encI L))).le)
                                vd tk).fst.L.length
                        (rowP enc2
                          (alStep
                                (Al.mk
                                  (bentA
                                      (Al.mk (genL (decL decI L.length (rowP encI L))).r (genL (decL decI L.length (rowP encI L))).ver
                                        (decL dec2 (genL (decL decI L.length (rowP encI L))).L.length (rowP enc2 (genL (decL decI L.length (rowP encI L))).L))
                                        (genL (decL decI L.length (rowP encI L))).st (genL (decL decI L.length (rowP encI L))).si (genL (decL decI L.length (rowP encI L))).le)
                                      at_ n (decL decI L.length (rowP encI L))).r
                                  (bentA
                                      (Al.mk (genL (decL decI L.length (rowP encI L))).r (genL (decL decI L.length (rowP encI L))).ver
                                        (decL dec2 (genL (decL decI L.length (rowP encI L))).L.length (rowP enc2 (genL (decL decI L.length (rowP encI L))).L))
                                        (genL (decL decI L.length (rowP encI L))).st (genL (decL decI L.length (rowP encI L))).si (genL (decL decI L.length (rowP encI L))).le)
                                      at_ n (decL decI L.length (rowP encI L))).ver
                                  (decL dec2
                                    (bentA
                                          (Al.mk (genL (decL decI L.length (rowP encI L))).r (genL (decL decI L.length (rowP encI L))).ver
                                            (decL dec2 (genL (decL decI L.length (rowP encI L))).L.length (rowP enc2 (genL (decL decI L.length (rowP encI L))).L))
                                            (genL (decL decI L.length (rowP encI L))).st (genL (decL decI L.length (rowP encI L))).si (genL (decL decI L.length (rowP encI L))).le)
                                          at_ n (decL decI L.length (rowP encI L))).L.length
                                    (rowP enc2
                                      (bentA
                                          (Al.mk (genL (decL decI L.length (rowP encI L))).r (genL (decL decI L.length (rowP encI L))).ver
                                            (decL dec2 (genL (decL decI L.length (rowP encI L))).L.length (rowP enc2 (genL (decL decI L.length (rowP encI L))).L))
                                            (genL (decL decI L.length (rowP encI L))).st (genL (decL decI L.length (rowP encI L))).si (genL (decL decI L.length (rowP encI L))).le)
                                          at_ n (decL decI L.length (rowP encI L))).L))
                                  (bentA
                                      (Al.mk (genL (decL decI L.length (rowP encI L))).r (genL (decL decI L.length (rowP encI L))).ver
                                        (decL dec2 (genL (decL decI L.length (rowP encI L))).L.length (rowP enc2 (genL (decL decI L.length (rowP encI L))).L))
                                        (genL (decL decI L.length (rowP encI L))).st (genL (decL decI L.length (rowP encI L))).si (genL (decL decI L.length (rowP encI L))).le)
                                      at_ n (decL decI L.length (rowP encI L))).st
                                  (bentA
                                      (Al.mk (genL (decL decI L.length (rowP encI L))).r (genL (decL decI L.length (rowP encI L))).ver
                                        (decL dec2 (genL (decL decI L.length (rowP encI L))).L.length (rowP enc2 (genL (decL decI L.length (rowP encI L))).L))
                                        (genL (decL decI L.length (rowP encI L))).st (genL (decL decI L.length (rowP encI L))).si (genL (decL decI L.length (rowP encI L))).le)
                                      at_ n (decL decI L.length (rowP encI L))).si
                                  (bentA
                                      (Al.mk (genL (decL decI L.length (rowP encI L))).r (genL (decL decI L.length (rowP encI L))).ver
                                        (decL dec2 (genL (decL decI L.length (rowP encI L))).L.length (rowP enc2 (genL (decL decI L.length (rowP encI L))).L))
                                        (genL (decL decI L.length (rowP encI L))).st (genL (decL decI L.length (rowP encI L))).si (genL (decL decI L.length (rowP encI L))).le)
                                      at_ n (decL decI L.length (rowP encI L))).le)
                                vd tk).fst.L)) ∧
                    (Al.mk
                            (alStep
                                  (Al.mk
                                    (bentA
                                        (Al.mk (genL (decL decI L.length (rowP encI L))).r (genL (decL decI L.length (rowP encI L))).ver
                                          (decL dec2 (genL (decL decI L.length (rowP encI L))).L.length (rowP enc2 (genL (decL decI L.length (rowP encI L))).L))
                                          (genL (decL decI L.length (rowP encI L))).st (genL (decL decI L.length (rowP encI L))).si (genL (decL decI L.length (rowP encI L))).le)
                                        at_ n (decL decI L.length (rowP encI L))).r
                                    (bentA
                                        (Al.mk (genL (decL decI L.length (rowP encI L))).r (genL (decL decI L.length (rowP encI L))).ver
                                          (decL dec2 (genL (decL decI L.length (rowP encI L))).L.length (rowP enc2 (genL (decL decI L.length (rowP encI L))).L))
                                          (genL (decL decI L.length (rowP encI L))).st (genL (decL decI L.length (rowP encI L))).si (genL (decL decI L.length (rowP encI L))).le)
                                        at_ n (decL decI L.length (rowP encI L))).ver
                                    (decL dec2
                                      (bentA
                                            (Al.mk (genL (decL decI L.length (rowP encI L))).r (genL (decL decI L.length (rowP encI L))).ver
                                              (decL dec2 (genL (decL decI L.length (rowP encI L))).L.length (rowP enc2 (genL (decL decI L.length (rowP encI L))).L))
                                              (genL (decL decI L.length (rowP encI L))).st (genL (decL decI L.length (rowP encI L))).si (genL (decL decI L.length (rowP encI L))).le)
                                            at_ n (decL decI L.length (rowP encI L))).L.length
                                      (rowP enc2
                                        (bentA
                                            (Al.mk (genL (decL decI L.length (rowP encI L))).r (genL (decL decI L.length (rowP encI L))).ver
                                              (decL dec2 (genL (decL decI L.length (rowP encI L))).L.length (rowP enc2 (genL (decL decI L.length (rowP encI L))).L))
                                              (genL (decL decI L.length (rowP encI L))).st (genL (decL decI L.length (rowP encI L))).si (genL (decL decI L.length (rowP encI L))).le)
                                            at_ n (decL decI L.length (rowP encI L))).L))
                                    (bentA
                                        (Al.mk (genL (decL decI L.length (rowP encI L))).r (genL (decL decI L.length (rowP encI L))).ver
                                          (decL dec2 (genL (decL decI L.length (rowP encI L))).L.length (rowP enc2 (genL (decL decI L.length (rowP encI L))).L))
                                          (genL (decL decI L.length (rowP encI L))).st (genL (decL decI L.length (rowP encI L))).si (genL (decL decI L.length (rowP encI L))).le)
                                        at_ n (decL decI L.length (rowP encI L))).st
                                    (bentA
                                        (Al.mk (genL (decL decI L.length (rowP encI L))).r (genL (decL decI L.length (rowP encI L))).ver
                                          (decL dec2 (genL (decL decI L.length (rowP encI L))).L.length (rowP enc2 (genL (decL decI L.length (rowP encI L))).L))
                                          (genL (decL decI L.length (rowP encI L))).st (genL (decL decI L.length (rowP encI L))).si (genL (decL decI L.length (rowP encI L))).le)
                                        at_ n (decL decI L.length (rowP encI L))).si
                                    (bentA
                                        (Al.mk (genL (decL decI L.length (rowP encI L))).r (genL (decL decI L.length (rowP encI L))).ver
                                          (decL dec2 (genL (decL decI L.length (rowP encI L))).L.length (rowP enc2 (genL (decL decI L.length (rowP encI L))).L))
                                          (genL (decL decI L.length (rowP encI L))).st (genL (decL decI L.length (rowP encI L))).si (genL (decL decI L.length (rowP encI L))).le)
                                        at_ n (decL decI L.length (rowP encI L))).le)
                                  vd tk).fst.r
                            (alStep
                                  (Al.mk
                                    (bentA
                                        (Al.mk (genL (decL decI L.length (rowP encI L))).r (genL (decL decI L.length (rowP encI L))).ver
                                          (decL dec2 (genL (decL decI L.length (rowP encI L))).L.length (rowP enc2 (genL (decL decI L.length (rowP encI L))).L))
                                          (genL (decL decI L.length (rowP encI L))).st (genL (decL decI L.length (rowP encI L))).si (genL (decL decI L.length (rowP encI L))).le)
                                        at_ n (decL decI L.length (rowP encI L))).r
                                    (bentA
                                        (Al.mk (genL (decL decI L.length (rowP encI L))).r (genL (decL decI L.length (rowP encI L))).ver
                                          (decL dec2 (genL (decL decI L.length (rowP encI L))).L.length (rowP enc2 (genL (decL decI L.length (rowP encI L))).L))
                                          (genL (decL decI L.length (rowP encI L))).st (genL (decL decI L.length (rowP encI L))).si (genL (decL decI L.length (rowP encI L))).le)
                                        at_ n (decL decI L.length (rowP encI L))).ver
                                    (decL dec2
                                      (bentA
                                            (Al.mk (genL (decL decI L.length (rowP encI L))).r (genL (decL decI L.length (rowP encI L))).ver
                                              (decL dec2 (genL (decL decI L.length (rowP encI L))).L.length (rowP enc2 (genL (decL decI L.length (rowP encI L))).L))
                                              (genL (decL decI L.length (rowP encI L))).st (genL (decL decI L.length (rowP encI L))).si (genL (decL decI L.length (rowP encI L))).le)
                                            at_ n (decL decI L.length (rowP encI L))).L.length
                                      (rowP enc2
                                        (bentA
                                            (Al.mk (genL (decL decI L.length (rowP encI L))).r (genL (decL decI L.length (rowP encI L))).ver
                                              (decL dec2 (genL (decL decI L.length (rowP encI L))).L.length (rowP enc2 (genL (decL decI L.length (rowP encI L))).L))
                                              (genL (decL decI L.length (rowP encI L))).st (genL (decL decI L.length (rowP encI L))).si (genL (decL decI L.length (rowP encI L))).le)
                                            at_ n (decL decI L.length (rowP encI L))).L))
                                    (bentA
                                        (Al.mk (genL (decL decI L.length (rowP encI L))).r (genL (decL decI L.length (rowP encI L))).ver
                                          (decL dec2 (genL (decL decI L.length (rowP encI L))).L.length (rowP enc2 (genL (decL decI L.length (rowP encI L))).L))
                                          (genL (decL decI L.length (rowP encI L))).st (genL (decL decI L.length (rowP encI L))).si (genL (decL decI L.length (rowP encI L))).le)
                                        at_ n (decL decI L.length (rowP encI L))).st
                                    (bentA
                                        (Al.mk (genL (decL decI L.length (rowP encI L))).r (genL (decL decI L.length (rowP encI L))).ver
                                          (decL dec2 (genL (decL decI L.length (rowP encI L))).L.length (rowP enc2 (genL (decL decI L.length (rowP encI L))).L))
                                          (genL (decL decI L.length (rowP encI L))).st (genL (decL decI L.length (rowP encI L))).si (genL (decL decI L.length (rowP encI L))).le)
                                        at_ n (decL decI L.length (rowP encI L))).si
                                    (bentA
                                        (Al.mk (genL (decL decI L.length (rowP encI L))).r (genL (decL decI L.length (rowP encI L))).ver
                                          (decL dec2 (genL (decL decI L.length (rowP encI L))).L.length (rowP enc2 (genL (decL decI L.length (rowP encI L))).L))
                                          (genL (decL decI L.length (rowP encI L))).st (genL (decL decI L.length (rowP encI L))).si (genL (decL decI L.length (rowP encI L))).le)
                                        at_ n (decL decI L.length (rowP encI L))).le)
                                  vd tk).fst.ver
                            (decL dec2
                              (alStep
                                      (Al.mk
                                        (bentA
                                            (Al.mk (genL (decL decI L.length (rowP encI L))).r (genL (decL decI L.length (rowP encI L))).ver
                                              (decL dec2 (genL (decL decI L.length (rowP encI L))).L.length (rowP enc2 (genL (decL decI L.length (rowP encI L))).L))
                                              (genL (decL decI L.length (rowP encI L))).st (genL (decL decI L.length (rowP encI L))).si (genL (decL decI L.length (rowP encI L))).le)
                                            at_ n (decL decI L.length (rowP encI L))).r
                                        (bentA
                                            (Al.mk (genL (decL decI L.length (rowP encI L))).r (genL (decL decI L.length (rowP encI L))).ver
                                              (decL dec2 (genL (decL decI L.length (rowP encI L))).L.length (rowP enc2 (genL (decL decI L.length (rowP encI L))).L))
                                              (genL (decL decI L.length (rowP encI L))).st (genL (decL decI L.length (rowP encI L))).si (genL (decL decI L.length (rowP encI L))).le)
                                            at_ n (decL decI L.length (rowP encI L))).ver
                                        (decL dec2
                                          (bentA
                                                (Al.mk (genL (decL decI L.length (rowP encI L))).r (genL (decL decI L.length (rowP encI L))).ver
                                                  (decL dec2 (genL (decL decI L.length (rowP encI L))).L.length (rowP enc2 (genL (decL decI L.length (rowP encI L))).L))
                                                  (genL (decL decI L.length (rowP encI L))).st (genL (decL decI L.length (rowP encI L))).si (genL (decL decI L.length (rowP encI L))).le)
                                                at_ n (decL decI L.length (rowP encI L))).L.length
                                          (rowP enc2
                                            (bentA
                                                (Al.mk (genL (decL decI L.length (rowP encI L))).r (genL (decL decI L.length (rowP encI L))).ver
                                                  (decL dec2 (genL (decL decI L.length (rowP encI L))).L.length (rowP enc2 (genL (decL decI L.length (rowP encI L))).L))
                                                  (genL (decL decI L.length (rowP encI L))).st (genL (decL decI L.length (rowP encI L))).si (genL (decL decI L.length (rowP encI L))).le)
                                                at_ n (decL decI L.length (rowP encI L))).L))
                                        (bentA
                                            (Al.mk (genL (decL decI L.length (rowP encI L))).r (genL (decL decI L.length (rowP encI L))).ver
                                              (decL dec2 (genL (decL decI L.length (rowP encI L))).L.length (rowP enc2 (genL (decL decI L.length (rowP encI L))).L))
                                              (genL (decL decI L.length (rowP encI L))).st (genL (decL decI L.length (rowP encI L))).si (genL (decL decI L.length (rowP encI L))).le)
                                            at_ n (decL decI L.length (rowP encI L))).st
                                        (bentA
                                            (Al.mk (genL (decL decI L.length (rowP encI L))).r (genL (decL decI L.length (rowP encI L))).ver
                                              (decL dec2 (genL (decL decI L.length (rowP encI L))).L.length (rowP enc2 (genL (decL decI L.length (rowP encI L))).L))
                                              (genL (decL decI L.length (rowP encI L))).st (genL (decL decI L.length (rowP encI L))).si (genL (decL decI L.length (rowP encI L))).le)
                                            at_ n (decL decI L.length (rowP encI L))).si
                                        (bentA
                                            (Al.mk (genL (decL decI L.length (rowP encI L))).r (genL (decL decI L.length (rowP encI L))).ver
                                              (decL dec2 (genL (decL decI L.length (rowP encI L))).L.length (rowP enc2 (genL (decL decI L.length (rowP encI L))).L))
                                              (genL (decL decI L.length (rowP encI L))).st (genL (decL decI L.length (rowP encI L))).si (genL (decL decI L.length (rowP encI L))).le)
                                            at_ n (decL decI L.length (rowP encI L))).le)
                                      vd tk).fst.L.length
                              (rowP enc2
                                (alStep
                                      (Al.mk
                                        (bentA
                                            (Al.mk (genL (decL decI L.length (rowP encI L))).r (genL (decL decI L.length (rowP encI L))).ver
                                              (decL dec2 (genL (decL decI L.length (rowP encI L))).L.length (rowP enc2 (genL (decL decI L.length (rowP encI L))).L))
                                              (genL (decL decI L.length (rowP encI L))).st (genL (decL decI L.length (rowP encI L))).si (genL (decL decI L.length (rowP encI L))).le)
                                            at_ n (decL decI L.length (rowP encI L))).r
                                        (bentA
                                            (Al.mk (genL (decL decI L.length (rowP encI L))).r (genL (decL decI L.length (rowP encI L))).ver
                                              (decL dec2 (genL (decL decI L.length (rowP encI L))).L.length (rowP enc2 (genL (decL decI L.length (rowP encI L))).L))
                                              (genL (decL decI L.length (rowP encI L))).st (genL (decL decI L.length (rowP encI L))).si (genL (decL decI L.length (rowP encI L))).le)
                                            at_ n (decL decI L.length (rowP encI L))).ver
                                        (decL dec2
                                          (bentA
                                                (Al.mk (genL (decL decI L.length (rowP encI L))).r (genL (decL decI L.length (rowP encI L))).ver
                                                  (decL dec2 (genL (decL decI L.length (rowP encI L))).L.length (rowP enc2 (genL (decL decI L.length (rowP encI L))).L))
                                                  (genL (decL decI L.length (rowP encI L))).st (genL (decL decI L.length (rowP encI L))).si (genL (decL decI L.length (rowP encI L))).le)
                                                at_ n (decL decI L.length (rowP encI L))).L.length
                                          (rowP enc2
                                            (bentA
                                                (Al.mk (genL (decL decI L.length (rowP encI L))).r (genL (decL decI L.length (rowP encI L))).ver
                                                  (decL dec2 (genL (decL decI L.length (rowP encI L))).L.length (rowP enc2 (genL (decL decI L.length (rowP encI L))).L))
                                                  (genL (decL decI L.length (rowP encI L))).st (genL (decL decI L.length (rowP encI L))).si (genL (decL decI L.length (rowP encI L))).le)
                                                at_ n (decL decI L.length (rowP encI L))).L))
                                        (bentA
                                            (Al.mk (genL (decL decI L.length (rowP encI L))).r (genL (decL decI L.length (rowP encI L))).ver
                                              (decL dec2 (genL (decL decI L.length (rowP encI L))).L.length (rowP enc2 (genL (decL decI L.length (rowP encI L))).L))
                                              (genL (decL decI L.length (rowP encI L))).st (genL (decL decI L.length (rowP encI L))).si (genL (decL decI L.length (rowP encI L))).le)
                                            at_ n (decL decI L.length (rowP encI L))).st
                                        (bentA
                                            (Al.mk (genL (decL decI L.length (rowP encI L))).r (genL (decL decI L.length (rowP encI L))).ver
                                              (decL dec2 (genL (decL decI L.length (rowP encI L))).L.length (rowP enc2 (genL (decL decI L.length (rowP encI L))).L))
                                              (genL (decL decI L.length (rowP encI L))).st (genL (decL decI L.length (rowP encI L))).si (genL (decL decI L.length (rowP encI L))).le)
                                            at_ n (decL decI L.length (rowP encI L))).si
                                        (bentA
                                            (Al.mk (genL (decL decI L.length (rowP encI L))).r (genL (decL decI L.length (rowP encI L))).ver
                                              (decL dec2 (genL (decL decI L.length (rowP encI L))).L.length (rowP enc2 (genL (decL decI L.length (rowP encI L))).L))
                                              (genL (decL decI L.length (rowP encI L))).st (genL (decL decI L.length (rowP encI L))).si (genL (decL decI L.length (rowP encI L))).le)
                                            at_ n (decL decI L.length (rowP encI L))).le)
                                      vd tk).fst.L))
                            (alStep
                                  (Al.mk
                                    (bentA
                                        (Al.mk (genL (decL decI L.length (rowP encI L))).r (genL (decL decI L.length (rowP encI L))).ver
                                          (decL dec2 (genL (decL decI L.length (rowP encI L))).L.length (rowP enc2 (genL (decL decI L.length (rowP encI L))).L))
                                          (genL (decL decI L.length (rowP encI L))).st (genL (decL decI L.length (rowP encI L))).si (genL (decL decI L.length (rowP encI L))).le)
                                        at_ n (decL decI L.length (rowP encI L))).r
                                    (bentA
                                        (Al.mk (genL (decL decI L.length (rowP encI L))).r (genL (decL decI L.length (rowP encI L))).ver
                                          (decL dec2 (genL (decL decI L.length (rowP encI L))).L.length (rowP enc2 (genL (decL decI L.length (rowP encI L))).L))
                                          (genL (decL decI L.length (rowP encI L))).st (genL (decL decI L.length (rowP encI L))).si (genL (decL decI L.length (rowP encI L))).le)
                                        at_ n (decL decI L.length (rowP encI L))).ver
                                    (decL dec2
                                      (bentA
                                            (Al.mk (genL (decL decI L.length (rowP encI L))).r (genL (decL decI L.length (rowP encI L))).ver
                                              (decL dec2 (genL (decL decI L.length (rowP encI L))).L.length (rowP enc2 (genL (decL decI L.length (rowP encI L))).L))
                                              (genL (decL decI L.length (rowP encI L))).st (genL (decL decI L.length (rowP encI L))).si (genL (decL decI L.length (rowP encI L))).le)
                                            at_ n (decL decI L.length (rowP encI L))).L.length
                                      (rowP enc2
                                        (bentA
                                            (Al.mk (genL (decL decI L.length (rowP encI L))).r (genL (decL decI L.length (rowP encI L))).ver
                                              (decL dec2 (genL (decL decI L.length (rowP encI L))).L.length (rowP enc2 (genL (decL decI L.length (rowP encI L))).L))
                                              (genL (decL decI L.length (rowP encI L))).st (genL (decL decI L.length (rowP encI L))).si (genL (decL decI L.length (rowP encI L))).le)
                                            at_ n (decL decI L.length (rowP encI L))).L))
                                    (bentA
                                        (Al.mk (genL (decL decI L.length (rowP encI L))).r (genL (decL decI L.length (rowP encI L))).ver
                                          (decL dec2 (genL (decL decI L.length (rowP encI L))).L.length (rowP enc2 (genL (decL decI L.length (rowP encI L))).L))
                                          (genL (decL decI L.length (rowP encI L))).st (genL (decL decI L.length (rowP encI L))).si (genL (decL decI L.length (rowP encI L))).le)
                                        at_ n (decL decI L.length (rowP encI L))).st
                                    (bentA
                                        (Al.mk (genL (decL decI L.length (rowP encI L))).r (genL (decL decI L.length (rowP encI L))).ver
                                          (decL dec2 (genL (decL decI L.length (rowP encI L))).L.length (rowP enc2 (genL (decL decI L.length (rowP encI L))).L))
                                          (genL (decL decI L.length (rowP encI L))).st (genL (decL decI L.length (rowP encI L))).si (genL (decL decI L.length (rowP encI L))).le)
                                        at_ n (decL decI L.length (rowP encI L))).si
                                    (bentA
                                        (Al.mk (genL (decL decI L.length (rowP encI L))).r (genL (decL decI L.length (rowP encI L))).ver
                                          (decL dec2 (genL (decL decI L.length (rowP encI L))).L.length (rowP enc2 (genL (decL decI L.length (rowP encI L))).L))
                                          (genL (decL decI L.length (rowP encI L))).st (genL (decL decI L.length (rowP encI L))).si (genL (decL decI L.length (rowP encI L))).le)
                                        at_ n (decL decI L.length (rowP encI L))).le)
                                  vd tk).fst.st
                            (alStep
                                  (Al.mk
                                    (bentA
                                        (Al.mk (genL (decL decI L.length (rowP encI L))).r (genL (decL decI L.length (rowP encI L))).ver
                                          (decL dec2 (genL (decL decI L.length (rowP encI L))).L.length (rowP enc2 (genL (decL decI L.length (rowP encI L))).L))
                                          (genL (decL decI L.length (rowP encI L))).st (genL (decL decI L.length (rowP encI L))).si (genL (decL decI L.length (rowP encI L))).le)
                                        at_ n (decL decI L.length (rowP encI L))).r
                                    (bentA
                                        (Al.mk (genL (decL decI L.length (rowP encI L))).r (genL (decL decI L.length (rowP encI L))).ver
                                          (decL dec2 (genL (decL decI L.length (rowP encI L))).L.length (rowP enc2 (genL (decL decI L.length (rowP encI L))).L))
                                          (genL (decL decI L.length (rowP encI L))).st (genL (decL decI L.length (rowP encI L))).si (genL (decL decI L.length (rowP encI L))).le)
                                        at_ n (decL decI L.length (rowP encI L))).ver
                                    (decL dec2
                                      (bentA
                                            (Al.mk (genL (decL decI L.length (rowP encI L))).r (genL (decL decI L.length (rowP encI L))).ver
                                              (decL dec2 (genL (decL decI L.length (rowP encI L))).L.length (rowP enc2 (genL (decL decI L.length (rowP encI L))).L))
                                              (genL (decL decI L.length (rowP encI L))).st (genL (decL decI L.length (rowP encI L))).si (genL (decL decI L.length (rowP encI L))).le)
                                            at_ n (decL decI L.length (rowP encI L))).L.length
                                      (rowP enc2
                                        (bentA
                                            (Al.mk (genL (decL decI L.length (rowP encI L))).r (genL (decL decI L.length (rowP encI L))).ver
                                              (decL dec2 (genL (decL decI L.length (rowP encI L))).L.length (rowP enc2 (genL (decL decI L.length (rowP encI L))).L))
                                              (genL (decL decI L.length (rowP encI L))).st (genL (decL decI L.length (rowP encI L))).si (genL (decL decI L.length (rowP encI L))).le)
                                            at_ n (decL decI L.length (rowP encI L))).L))
                                    (bentA
                                        (Al.mk (genL (decL decI L.length (rowP encI L))).r (genL (decL decI L.length (rowP encI L))).ver
                                          (decL dec2 (genL (decL decI L.length (rowP encI L))).L.length (rowP enc2 (genL (decL decI L.length (rowP encI L))).L))
                                          (genL (decL decI L.length (rowP encI L))).st (genL (decL decI L.length (rowP encI L))).si (genL (decL decI L.length (rowP encI L))).le)
                                        at_ n (decL decI L.length (rowP encI L))).st
                                    (bentA
                                        (Al.mk (genL (decL decI L.length (rowP encI L))).r (genL (decL decI L.length (rowP encI L))).ver
                                          (decL dec2 (genL (decL decI L.length (rowP encI L))).L.length (rowP enc2 (genL (decL decI L.length (rowP encI L))).L))
                                          (genL (decL decI L.length (rowP encI L))).st (genL (decL decI L.length (rowP encI L))).si (genL (decL decI L.length (rowP encI L))).le)
                                        at_ n (decL decI L.length (rowP encI L))).si
                                    (bentA
                                        (Al.mk (genL (decL decI L.length (rowP encI L))).r (genL (decL decI L.length (rowP encI L))).ver
                                          (decL dec2 (genL (decL decI L.length (rowP encI L))).L.length (rowP enc2 (genL (decL decI L.length (rowP encI L))).L))
                                          (genL (decL decI L.length (rowP encI L))).st (genL (decL decI L.length (rowP encI L))).si (genL (decL decI L.length (rowP encI L))).le)
                                        at_ n (decL decI L.length (rowP encI L))).le)
                                  vd tk).fst.si
                            (alStep
                                  (Al.mk
                                    (bentA
                                        (Al.mk (genL (decL decI L.length (rowP encI L))).r (genL (decL decI L.length (rowP encI L))).ver
                                          (decL dec2 (genL (decL decI L.length (rowP encI L))).L.length (rowP enc2 (genL (decL decI L.length (rowP encI L))).L))
                                          (genL (decL decI L.length (rowP encI L))).st (genL (decL decI L.length (rowP encI L))).si (genL (decL decI L.length (rowP encI L))).le)
                                        at_ n (decL decI L.length (rowP encI L))).r
                                    (bentA
                                        (Al.mk (genL (decL decI L.length (rowP encI L))).r (genL (decL decI L.length (rowP encI L))).ver
                                          (decL dec2 (genL (decL decI L.length (rowP encI L))).L.length (rowP enc2 (genL (decL decI L.length (rowP encI L))).L))
                                          (genL (decL decI L.length (rowP encI L))).st (genL (decL decI L.length (rowP encI L))).si (genL (decL decI L.length (rowP encI L))).le)
                                        at_ n (decL decI L.length (rowP encI L))).ver
                                    (decL dec2
                                      (bentA
                                            (Al.mk (genL (decL decI L.length (rowP encI L))).r (genL (decL decI L.length (rowP encI L))).ver
                                              (decL dec2 (genL (decL decI L.length (rowP encI L))).L.length (rowP enc2 (genL (decL decI L.length (rowP encI L))).L))
                                              (genL (decL decI L.length (rowP encI L))).st (genL (decL decI L.length (rowP encI L))).si (genL (decL decI L.length (rowP encI L))).le)
                                            at_ n (decL decI L.length (rowP encI L))).L.length
                                      (rowP enc2
                                        (bentA
                                            (Al.mk (genL (decL decI L.length (rowP encI L))).r (genL (decL decI L.length (rowP encI L))).ver
                                              (decL dec2 (genL (decL decI L.length (rowP encI L))).L.length (rowP enc2 (genL (decL decI L.length (rowP encI L))).L))
                                              (genL (decL decI L.length (rowP encI L))).st (genL (decL decI L.length (rowP encI L))).si (genL (decL decI L.length (rowP encI L))).le)
                                            at_ n (decL decI L.length (rowP encI L))).L))
                                    (bentA
                                        (Al.mk (genL (decL decI L.length (rowP encI L))).r (genL (decL decI L.length (rowP encI L))).ver
                                          (decL dec2 (genL (decL decI L.length (rowP encI L))).L.length (rowP enc2 (genL (decL decI L.length (rowP encI L))).L))
                                          (genL (decL decI L.length (rowP encI L))).st (genL (decL decI L.length (rowP encI L))).si (genL (decL decI L.length (rowP encI L))).le)
                                        at_ n (decL decI L.length (rowP encI L))).st
                                    (bentA
                                        (Al.mk (genL (decL decI L.length (rowP encI L))).r (genL (decL decI L.length (rowP encI L))).ver
                                          (decL dec2 (genL (decL decI L.length (rowP encI L))).L.length (rowP enc2 (genL (decL decI L.length (rowP encI L))).L))
                                          (genL (decL decI L.length (rowP encI L))).st (genL (decL decI L.length (rowP encI L))).si (genL (decL decI L.length (rowP encI L))).le)
                                        at_ n (decL decI L.length (rowP encI L))).si
                                    (bentA
                                        (Al.mk (genL (decL decI L.length (rowP encI L))).r (genL (decL decI L.length (rowP encI L))).ver
                                          (decL dec2 (genL (decL decI L.length (rowP encI L))).L.length (rowP enc2 (genL (decL decI L.length (rowP encI L))).L))
                                          (genL (decL decI L.length (rowP encI L))).st (genL (decL decI L.length (rowP encI L))).si (genL (decL decI L.length (rowP encI L))).le)
                                        at_ n (decL decI L.length (rowP encI L))).le)
                                  vd tk).fst.le).L.length ≤
                      1000000)
                  (bT
                    (!alEq
                        (Al.mk
                          (Al.mk
                              (bentA
                                  (Al.mk (genL (decL decI L.length (rowP encI L))).r (genL (decL decI L.length (rowP encI L))).ver
                                    (decL dec2 (genL (decL decI L.length (rowP encI L))).L.length (rowP enc2 (genL (decL decI L.length (rowP encI L))).L)) (genL (decL decI L.length (rowP encI L))).st
                                    (genL (decL decI L.length (rowP encI L))).si (genL (decL decI L.length (rowP encI L))).le)
                                  at_ n (decL decI L.length (rowP encI L))).r
                              (bentA
                                  (Al.mk (genL (decL decI L.length (rowP encI L))).r (genL (decL decI L.length (rowP encI L))).ver
                                    (decL dec2 (genL (decL decI L.length (rowP encI L))).L.length (rowP enc2 (genL (decL decI L.length (rowP encI L))).L)) (genL (decL decI L.length (rowP encI L))).st
                                    (genL (decL decI L.length (rowP encI L))).si (genL (decL decI L.length (rowP encI L))).le)
                                  at_ n (decL decI L.length (rowP encI L))).ver
                              (decL dec2
                                (bentA
                                      (Al.mk (genL (decL decI L.length (rowP encI L))).r (genL (decL decI L.length (rowP encI L))).ver
                                        (decL dec2 (genL (decL decI L.length (rowP encI L))).L.length (rowP enc2 (genL (decL decI L.length (rowP encI L))).L))
                                        (genL (decL decI L.length (rowP encI L))).st (genL (decL decI L.length (rowP encI L))).si (genL (decL decI L.length (rowP encI L))).le)
                                      at_ n (decL decI L.length (rowP encI L))).L.length
                                (rowP enc2
                                  (bentA
                                      (Al.mk (genL (decL decI L.length (rowP encI L))).r (genL (decL decI L.length (rowP encI L))).ver
                                        (decL dec2 (genL (decL decI L.length (rowP encI L))).L.length (rowP enc2 (genL (decL decI L.length (rowP encI L))).L))
                                        (genL (decL decI L.length (rowP encI L))).st (genL (decL decI L.length (rowP encI L))).si (genL (decL decI L.length (rowP encI L))).le)
                                      at_ n (decL decI L.length (rowP encI L))).L))
                              (bentA
                                  (Al.mk (genL (decL decI L.length (rowP encI L))).r (genL (decL decI L.length (rowP encI L))).ver
                                    (decL dec2 (genL (decL decI L.length (rowP encI L))).L.length (rowP enc2 (genL (decL decI L.length (rowP encI L))).L)) (genL (decL decI L.length (rowP encI L))).st
                                    (genL (decL decI L.length (rowP encI L))).si (genL (decL decI L.length (rowP encI L))).le)
                                  at_ n (decL decI L.length (rowP encI L))).st
                              (bentA
                                  (Al.mk (genL (decL decI L.length (rowP encI L))).r (genL (decL decI L.length (rowP encI L))).ver
                                    (decL dec2 (genL (decL decI L.length (rowP encI L))).L.length (rowP enc2 (genL (decL decI L.length (rowP encI L))).L)) (genL (decL decI L.length (rowP encI L))).st
                                    (genL (decL decI L.length (rowP encI L))).si (genL (decL decI L.length (rowP encI L))).le)
                                  at_ n (decL decI L.length (rowP encI L))).si
                              (bentA
                                  (Al.mk (genL (decL decI L.length (rowP encI L))).r (genL (decL decI L.length (rowP encI L))).ver
                                    (decL dec2 (genL (decL decI L.length (rowP encI L))).L.length (rowP enc2 (genL (decL decI L.length (rowP encI L))).L)) (genL (decL decI L.length (rowP encI L))).st
                                    (genL (decL decI L.length (rowP encI L))).si (genL (decL decI L.length (rowP encI L))).le)
                                  at_ n (decL decI L.length (rowP encI L))).le).r
                          (Al.mk
                              (bentA
                                  (Al.mk (genL (decL decI L.length (rowP encI L))).r (genL (decL decI L.length (rowP encI L))).ver
                                    (decL dec2 (genL (decL decI L.length (rowP encI L))).L.length (rowP enc2 (genL (decL decI L.length (rowP encI L))).L)) (genL (decL decI L.length (rowP encI L))).st
                                    (genL (decL decI L.length (rowP encI L))).si (genL (decL decI L.length (rowP encI L))).le)
                                  at_ n (decL decI L.length (rowP encI L))).r
                              (bentA
                                  (Al.mk (genL (decL decI L.length (rowP encI L))).r (genL (decL decI L.length (rowP encI L))).ver
                                    (decL dec2 (genL (decL decI L.length (rowP encI L))).L.length (rowP enc2 (genL (decL decI L.length (rowP encI L))).L)) (genL (decL decI L.length (rowP encI L))).st
                                    (genL (decL decI L.length (rowP encI L))).si (genL (decL decI L.length (rowP encI L))).le)
                                  at_ n (decL decI L.length (rowP encI L))).ver
                              (decL dec2
                                (bentA
                                      (Al.mk (genL (decL decI L.length (rowP encI L))).r (genL (decL decI L.length (rowP encI L))).ver
                                        (decL dec2 (genL (decL decI L.length (rowP encI L))).L.length (rowP enc2 (genL (decL decI L.length (rowP encI L))).L))
                                        (genL (decL decI L.length (rowP encI L))).st (genL (decL decI L.length (rowP encI L))).si (genL (decL decI L.length (rowP encI L))).le)
                                      at_ n (decL decI L.length (rowP encI L))).L.length
                                (rowP enc2
                                  (bentA
                                      (Al.mk (genL (decL decI L.length (rowP encI L))).r (genL (decL decI L.length (rowP encI L))).ver
                                        (decL dec2 (genL (decL decI L.length (rowP encI L))).L.length (rowP enc2 (genL (decL decI L.length (rowP encI L))).L))
                                        (genL (decL decI L.length (rowP encI L))).st (genL (decL decI L.length (rowP encI L))).si (genL (decL decI L.length (rowP encI L))).le)
                                      at_ n (decL decI L.length (rowP encI L))).L))
                              (bentA
                                  (Al.mk (genL (decL decI L.length (rowP encI L))).r (genL (decL decI L.length (rowP encI L))).ver
                                    (decL dec2 (genL (decL decI L.length (rowP encI L))).L.length (rowP enc2 (genL (decL decI L.length (rowP encI L))).L)) (genL (decL decI L.length (rowP encI L))).st
                                    (genL (decL decI L.length (rowP encI L))).si (genL (decL decI L.length (rowP encI L))).le)
                                  at_ n (decL decI L.length (rowP encI L))).st
                              (bentA
                                  (Al.mk (genL (decL decI L.length (rowP encI L))).r (genL (decL decI L.length (rowP encI L))).ver
                                    (decL dec2 (genL (decL decI L.length (rowP encI L))).L.length (rowP enc2 (genL (decL decI L.length (rowP encI L))).L)) (genL (decL decI L.length (rowP encI L))).st
                                    (genL (decL decI L.length (rowP encI L))).si (genL (decL decI L.length (rowP encI L))).le)
                                  at_ n (decL decI L.length (rowP encI L))).si
                              (bentA
                                  (Al.mk (genL (decL decI L.length (rowP encI L))).r (genL (decL decI L.length (rowP encI L))).ver
                                    (decL dec2 (genL (decL decI L.length (rowP encI L))).L.length (rowP enc2 (genL (decL decI L.length (rowP encI L))).L)) (genL (decL decI L.length (rowP encI L))).st
                                    (genL (decL decI L.length (rowP encI L))).si (genL (decL decI L.length (rowP encI L))).le)
                                  at_ n (decL decI L.length (rowP encI L))).le).ver
                          (decL dec2
                            (Al.mk
                                  (bentA
                                      (Al.mk (genL (decL decI L.length (rowP encI L))).r (genL (decL decI L.length (rowP encI L))).ver
                                        (decL dec2 (genL (decL decI L.length (rowP encI L))).L.length (rowP enc2 (genL (decL decI L.length (rowP encI L))).L))
                                        (genL (decL decI L.length (rowP encI L))).st (genL (decL decI L.length (rowP encI L))).si (genL (decL decI L.length (rowP encI L))).le)
                                      at_ n (decL decI L.length (rowP encI L))).r
                                  (bentA
                                      (Al.mk (genL (decL decI L.length (rowP encI L))).r (genL (decL decI L.length (rowP encI L))).ver
                                        (decL dec2 (genL (decL decI L.length (rowP encI L))).L.length (rowP enc2 (genL (decL decI L.length (rowP encI L))).L))
                                        (genL (decL decI L.length (rowP encI L))).st (genL (decL decI L.length (rowP encI L))).si (genL (decL decI L.length (rowP encI L))).le)
                                      at_ n (decL decI L.length (rowP encI L))).ver
                                  (decL dec2
                                    (bentA
                                          (Al.mk (genL (decL decI L.length (rowP encI L))).r (genL (decL decI L.length (rowP encI L))).ver
                                            (decL dec2 (genL (decL decI L.length (rowP encI L))).L.length (rowP enc2 (genL (decL decI L.length (rowP encI L))).L))
                                            (genL (decL decI L.length (rowP encI L))).st (genL (decL decI L.length (rowP encI L))).si (genL (decL decI L.length (rowP encI L))).le)
                                          at_ n (decL decI L.length (rowP encI L))).L.length
                                    (rowP enc2
                                      (bentA
                                          (Al.mk (genL (decL decI L.length (rowP encI L))).r (genL (decL decI L.length (rowP encI L))).ver
                                            (decL dec2 (genL (decL decI L.length (rowP encI L))).L.length (rowP enc2 (genL (decL decI L.length (rowP encI L))).L))
                                            (genL (decL decI L.length (rowP encI L))).st (genL (decL decI L.length (rowP encI L))).si (genL (decL decI L.length (rowP encI L))).le)
                                          at_ n (decL decI L.length (rowP encI L))).L))
                                  (bentA
                                      (Al.mk (genL (decL decI L.length (rowP encI L))).r (genL (decL decI L.length (rowP encI L))).ver
                                        (decL dec2 (genL (decL decI L.length (rowP encI L))).L.length (rowP enc2 (genL (decL decI L.length (rowP encI L))).L))
                                        (genL (decL decI L.length (rowP encI L))).st (genL (decL decI L.length (rowP encI L))).si (genL (decL decI L.length (rowP encI L))).le)
                                      at_ n (decL decI L.length (rowP encI L))).st
                                  (bentA
                                      (Al.mk (genL (decL decI L.length (rowP encI L))).r (genL (decL decI L.length (rowP encI L))).ver
                                        (decL dec2 (genL (decL decI L.length (rowP encI L))).L.length (rowP enc2 (genL (decL decI L.length (rowP encI L))).L))
                                        (genL (decL decI L.length (rowP encI L))).st (genL (decL decI L.length (rowP encI L))).si (genL (decL decI L.length (rowP encI L))).le)
                                      at_ n (decL decI L.length (rowP encI L))).si
                                  (bentA
                                      (Al.mk (genL (decL decI L.length (rowP encI L))).r (genL (decL decI L.length (rowP encI L))).ver
                                        (decL dec2 (genL (decL decI L.length (rowP encI L))).L.length (rowP enc2 (genL (decL decI L.length (rowP encI L))).L))
                                        (genL (decL decI L.length (rowP encI L))).st (genL (decL decI L.length (rowP encI L))).si (genL (decL decI L.length (rowP encI L))).le)
                                      at_ n (decL decI L.length (rowP encI L))).le).L.length
                            fun e o =>
                            unP
                              (C.p
                                (rowP enc2
                                  (Al.mk
                                      (bentA
                                          (Al.mk (genL (decL decI L.length (rowP encI L))).r (genL (decL decI L.length (rowP encI L))).ver
                                            (decL dec2 (genL (decL decI L.length (rowP encI L))).L.length (rowP enc2 (genL (decL decI L.length (rowP encI L))).L))
                                            (genL (decL decI L.length (rowP encI L))).st (genL (decL decI L.length (rowP encI L))).si (genL (decL decI L.length (rowP encI L))).le)
                                          at_ n (decL decI L.length (rowP encI L))).r
                                      (bentA
                                          (Al.mk (genL (decL decI L.length (rowP encI L))).r (genL (decL decI L.length (rowP encI L))).ver
                                            (decL dec2 (genL (decL decI L.length (rowP encI L))).L.length (rowP enc2 (genL (decL decI L.length (rowP encI L))).L))
                                            (genL (decL decI L.length (rowP encI L))).st (genL (decL decI L.length (rowP encI L))).si (genL (decL decI L.length (rowP encI L))).le)
                                          at_ n (decL decI L.length (rowP encI L))).ver
                                      (decL dec2
                                        (bentA
                                              (Al.mk (genL (decL decI L.length (rowP encI L))).r (genL (decL decI L.length (rowP encI L))).ver
                                                (decL dec2 (genL (decL decI L.length (rowP encI L))).L.length (rowP enc2 (genL (decL decI L.length (rowP encI L))).L))
                                                (genL (decL decI L.length (rowP encI L))).st (genL (decL decI L.length (rowP encI L))).si (genL (decL decI L.length (rowP encI L))).le)
                                              at_ n (decL decI L.length (rowP encI L))).L.length
                                        (rowP enc2
                                          (bentA
                                              (Al.mk (genL (decL decI L.length (rowP encI L))).r (genL (decL decI L.length (rowP encI L))).ver
                                                (decL dec2 (genL (decL decI L.length (rowP encI L))).L.length (rowP enc2 (genL (decL decI L.length (rowP encI L))).L))
                                                (genL (decL decI L.length (rowP encI L))).st (genL (decL decI L.length (rowP encI L))).si (genL (decL decI L.length (rowP encI L))).le)
                                              at_ n (decL decI L.length (rowP encI L))).L))
                                      (bentA
                                          (Al.mk (genL (decL decI L.length (rowP encI L))).r (genL (decL decI L.length (rowP encI L))).ver
                                            (decL dec2 (genL (decL decI L.length (rowP encI L))).L.length (rowP enc2 (genL (decL decI L.length (rowP encI L))).L))
                                            (genL (decL decI L.length (rowP encI L))).st (genL (decL decI L.length (rowP encI L))).si (genL (decL decI L.length (rowP encI L))).le)
                                          at_ n (decL decI L.length (rowP encI L))).st
                                      (bentA
                                          (Al.mk (genL (decL decI L.length (rowP encI L))).r (genL (decL decI L.length (rowP encI L))).ver
                                            (decL dec2 (genL (decL decI L.length (rowP encI L))).L.length (rowP enc2 (genL (decL decI L.length (rowP encI L))).L))
                                            (genL (decL decI L.length (rowP encI L))).st (genL (decL decI L.length (rowP encI L))).si (genL (decL decI L.length (rowP encI L))).le)
                                          at_ n (decL decI L.length (rowP encI L))).si
                                      (bentA
                                          (Al.mk (genL (decL decI L.length (rowP encI L))).r (genL (decL decI L.length (rowP encI L))).ver
                                            (decL dec2 (genL (decL decI L.length (rowP encI L))).L.length (rowP enc2 (genL (decL decI L.length (rowP encI L))).L))
                                            (genL (decL decI L.length (rowP encI L))).st (genL (decL decI L.length (rowP encI L))).si (genL (decL decI L.length (rowP encI L))).le)
                                          at_ n (decL decI L.length (rowP encI L))).le).L
                                  e o)))
                          (alStep
                                (Al.mk
                                  (bentA
                                      (Al.mk (genL (decL decI L.length (rowP encI L))).r (genL (decL decI L.length (rowP encI L))).ver
                                        (decL dec2 (genL (decL decI L.length (rowP encI L))).L.length (rowP enc2 (genL (decL decI L.length (rowP encI L))).L))
                                        (genL (decL decI L.length (rowP encI L))).st (genL (decL decI L.length (rowP encI L))).si (genL (decL decI L.length (rowP encI L))).le)
                                      at_ n (decL decI L.length (rowP encI L))).r
                                  (bentA
                                      (Al.mk (genL (decL decI L.length (rowP encI L))).r (genL (decL decI L.length (rowP encI L))).ver
                                        (decL dec2 (genL (decL decI L.length (rowP encI L))).L.length (rowP enc2 (genL (decL decI L.length (rowP encI L))).L))
                                        (genL (decL decI L.length (rowP encI L))).st (genL (decL decI L.length (rowP encI L))).si (genL (decL decI L.length (rowP encI L))).le)
                                      at_ n (decL decI L.length (rowP encI L))).ver
                                  (decL dec2
                                    (bentA
                                          (Al.mk (genL (decL decI L.length (rowP encI L))).r (genL (decL decI L.length (rowP encI L))).ver
                                            (decL dec2 (genL (decL decI L.length (rowP encI L))).L.length (rowP enc2 (genL (decL decI L.length (rowP encI L))).L))
                                            (genL (decL decI L.length (rowP encI L))).st (genL (decL decI L.length (rowP encI L))).si (genL (decL decI L.length (rowP encI L))).le)
                                          at_ n (decL decI L.length (rowP encI L))).L.length
                                    (rowP enc2
                                      (bentA
                                          (Al.mk (genL (decL decI L.length (rowP encI L))).r (genL (decL decI L.length (rowP encI L))).ver
                                            (decL dec2 (genL (decL decI L.length (rowP encI L))).L.length (rowP enc2 (genL (decL decI L.length (rowP encI L))).L))
                                            (genL (decL decI L.length (rowP encI L))).st (genL (decL decI L.length (rowP encI L))).si (genL (decL decI L.length (rowP encI L))).le)
                                          at_ n (decL decI L.length (rowP encI L))).L))
                                  (bentA
                                      (Al.mk (genL (decL decI L.length (rowP encI L))).r (genL (decL decI L.length (rowP encI L))).ver
                                        (decL dec2 (genL (decL decI L.length (rowP encI L))).L.length (rowP enc2 (genL (decL decI L.length (rowP encI L))).L))
                                        (genL (decL decI L.length (rowP encI L))).st (genL (decL decI L.length (rowP encI L))).si (genL (decL decI L.length (rowP encI L))).le)
                                      at_ n (decL decI L.length (rowP encI L))).st
                                  (bentA
                                      (Al.mk (genL (decL decI L.length (rowP encI L))).r (genL (decL decI L.length (rowP encI L))).ver
                                        (decL dec2 (genL (decL decI L.length (rowP encI L))).L.length (rowP enc2 (genL (decL decI L.length (rowP encI L))).L))
                                        (genL (decL decI L.length (rowP encI L))).st (genL (decL decI L.length (rowP encI L))).si (genL (decL decI L.length (rowP encI L))).le)
                                      at_ n (decL decI L.length (rowP encI L))).si
                                  (bentA
                                      (Al.mk (genL (decL decI L.length (rowP encI L))).r (genL (decL decI L.length (rowP encI L))).ver
                                        (decL dec2 (genL (decL decI L.length (rowP encI L))).L.length (rowP enc2 (genL (decL decI L.length (rowP encI L))).L))
                                        (genL (decL decI L.length (rowP encI L))).st (genL (decL decI L.length (rowP encI L))).si (genL (decL decI L.length (rowP encI L))).le)
                                      at_ n (decL decI L.length (rowP encI L))).le)
                                vd tk).fst.st
                          (alStep
                                (Al.mk
                                  (bentA
                                      (Al.mk (genL (decL decI L.length (rowP encI L))).r (genL (decL decI L.length (rowP encI L))).ver
                                        (decL dec2 (genL (decL decI L.length (rowP encI L))).L.length (rowP enc2 (genL (decL decI L.length (rowP encI L))).L))
                                        (genL (decL decI L.length (rowP encI L))).st (genL (decL decI L.length (rowP encI L))).si (genL (decL decI L.length (rowP encI L))).le)
                                      at_ n (decL decI L.length (rowP encI L))).r
                                  (bentA
                                      (Al.mk (genL (decL decI L.length (rowP encI L))).r (genL (decL decI L.length (rowP encI L))).ver
                                        (decL dec2 (genL (decL decI L.length (rowP encI L))).L.length (rowP enc2 (genL (decL decI L.length (rowP encI L))).L))
                                        (genL (decL decI L.length (rowP encI L))).st (genL (decL decI L.length (rowP encI L))).si (genL (decL decI L.length (rowP encI L))).le)
                                      at_ n (decL decI L.length (rowP encI L))).ver
                                  (decL dec2
                                    (bentA
                                          (Al.mk (genL (decL decI L.length (rowP encI L))).r (genL (decL decI L.length (rowP encI L))).ver
                                            (decL dec2 (genL (decL decI L.length (rowP encI L))).L.length (rowP enc2 (genL (decL decI L.length (rowP encI L))).L))
                                            (genL (decL decI L.length (rowP encI L))).st (genL (decL decI L.length (rowP encI L))).si (genL (decL decI L.length (rowP encI L))).le)
                                          at_ n (decL decI L.length (rowP encI L))).L.length
                                    (rowP enc2
                                      (bentA
                                          (Al.mk (genL (decL decI L.length (rowP encI L))).r (genL (decL decI L.length (rowP encI L))).ver
                                            (decL dec2 (genL (decL decI L.length (rowP encI L))).L.length (rowP enc2 (genL (decL decI L.length (rowP encI L))).L))
                                            (genL (decL decI L.length (rowP encI L))).st (genL (decL decI L.length (rowP encI L))).si (genL (decL decI L.length (rowP encI L))).le)
                                          at_ n (decL decI L.length (rowP encI L))).L))
                                  (bentA
                                      (Al.mk (genL (decL decI L.length (rowP encI L))).r (genL (decL decI L.length (rowP encI L))).ver
                                        (decL dec2 (genL (decL decI L.length (rowP encI L))).L.length (rowP enc2 (genL (decL decI L.length (rowP encI L))).L))
                                        (genL (decL decI L.length (rowP encI L))).st (genL (decL decI L.length (rowP encI L))).si (genL (decL decI L.length (rowP encI L))).le)
                                      at_ n (decL decI L.length (rowP encI L))).st
                                  (bentA
                                      (Al.mk (genL (decL decI L.length (rowP encI L))).r (genL (decL decI L.length (rowP encI L))).ver
                                        (decL dec2 (genL (decL decI L.length (rowP encI L))).L.length (rowP enc2 (genL (decL decI L.length (rowP encI L))).L))
                                        (genL (decL decI L.length (rowP encI L))).st (genL (decL decI L.length (rowP encI L))).si (genL (decL decI L.length (rowP encI L))).le)
                                      at_ n (decL decI L.length (rowP encI L))).si
                                  (bentA
                                      (Al.mk (genL (decL decI L.length (rowP encI L))).r (genL (decL decI L.length (rowP encI L))).ver
                                        (decL dec2 (genL (decL decI L.length (rowP encI L))).L.length (rowP enc2 (genL (decL decI L.length (rowP encI L))).L))
                                        (genL (decL decI L.length (rowP encI L))).st (genL (decL decI L.length (rowP encI L))).si (genL (decL decI L.length (rowP encI L))).le)
                                      at_ n (decL decI L.length (rowP encI L))).le)
                                vd tk).fst.si
                          (alStep
                                (Al.mk
                                  (bentA
                                      (Al.mk (genL (decL decI L.length (rowP encI L))).r (genL (decL decI L.length (rowP encI L))).ver
                                        (decL dec2 (genL (decL decI L.length (rowP encI L))).L.length (rowP enc2 (genL (decL decI L.length (rowP encI L))).L))
                                        (genL (decL decI L.length (rowP encI L))).st (genL (decL decI L.length (rowP encI L))).si (genL (decL decI L.length (rowP encI L))).le)
                                      at_ n (decL decI L.length (rowP encI L))).r
                                  (bentA
                                      (Al.mk (genL (decL decI L.length (rowP encI L))).r (genL (decL decI L.length (rowP encI L))).ver
                                        (decL dec2 (genL (decL decI L.length (rowP encI L))).L.length (rowP enc2 (genL (decL decI L.length (rowP encI L))).L))
                                        (genL (decL decI L.length (rowP encI L))).st (genL (decL decI L.length (rowP encI L))).si (genL (decL decI L.length (rowP encI L))).le)
                                      at_ n (decL decI L.length (rowP encI L))).ver
                                  (decL dec2
                                    (bentA
                                          (Al.mk (genL (decL decI L.length (rowP encI L))).r (genL (decL decI L.length (rowP encI L))).ver
                                            (decL dec2 (genL (decL decI L.length (rowP encI L))).L.length (rowP enc2 (genL (decL decI L.length (rowP encI L))).L))
                                            (genL (decL decI L.length (rowP encI L))).st (genL (decL decI L.length (rowP encI L))).si (genL (decL decI L.length (rowP encI L))).le)
                                          at_ n (decL decI L.length (rowP encI L))).L.length
                                    (rowP enc2
                                      (bentA
                                          (Al.mk (genL (decL decI L.length (rowP encI L))).r (genL (decL decI L.length (rowP encI L))).ver
                                            (decL dec2 (genL (decL decI L.length (rowP encI L))).L.length (rowP enc2 (genL (decL decI L.length (rowP encI L))).L))
                                            (genL (decL decI L.length (rowP encI L))).st (genL (decL decI L.length (rowP encI L))).si (genL (decL decI L.length (rowP encI L))).le)
                                          at_ n (decL decI L.length (rowP encI L))).L))
                                  (bentA
                                      (Al.mk (genL (decL decI L.length (rowP encI L))).r (genL (decL decI L.length (rowP encI L))).ver
                                        (decL dec2 (genL (decL decI L.length (rowP encI L))).L.length (rowP enc2 (genL (decL decI L.length (rowP encI L))).L))
                                        (genL (decL decI L.length (rowP encI L))).st (genL (decL decI L.length (rowP encI L))).si (genL (decL decI L.length (rowP encI L))).le)
                                      at_ n (decL decI L.length (rowP encI L))).st
                                  (bentA
                                      (Al.mk (genL (decL decI L.length (rowP encI L))).r (genL (decL decI L.length (rowP encI L))).ver
                                        (decL dec2 (genL (decL decI L.length (rowP encI L))).L.length (rowP enc2 (genL (decL decI L.length (rowP encI L))).L))
                                        (genL (decL decI L.length (rowP encI L))).st (genL (decL decI L.length (rowP encI L))).si (genL (decL decI L.length (rowP encI L))).le)
                                      at_ n (decL decI L.length (rowP encI L))).si
                                  (bentA
                                      (Al.mk (genL (decL decI L.length (rowP encI L))).r (genL (decL decI L.length (rowP encI L))).ver
                                        (decL dec2 (genL (decL decI L.length (rowP encI L))).L.length (rowP enc2 (genL (decL decI L.length (rowP encI L))).L))
                                        (genL (decL decI L.length (rowP encI L))).st (genL (decL decI L.length (rowP encI L))).si (genL (decL decI L.length (rowP encI L))).le)
                                      at_ n (decL decI L.length (rowP encI L))).le)
                                vd tk).fst.le)
                        (Al.mk
                          (alStep
                                (Al.mk
                                  (bentA
                                      (Al.mk (genL (decL decI L.length (rowP encI L))).r (genL (decL decI L.length (rowP encI L))).ver
                                        (decL dec2 (genL (decL decI L.length (rowP encI L))).L.length (rowP enc2 (genL (decL decI L.length (rowP encI L))).L))
                                        (genL (decL decI L.length (rowP encI L))).st (genL (decL decI L.length (rowP encI L))).si (genL (decL decI L.length (rowP encI L))).le)
                                      at_ n (decL decI L.length (rowP encI L))).r
                                  (bentA
                                      (Al.mk (genL (decL decI L.length (rowP encI L))).r (genL (decL decI L.length (rowP encI L))).ver
                                        (decL dec2 (genL (decL decI L.length (rowP encI L))).L.length (rowP enc2 (genL (decL decI L.length (rowP encI L))).L))
                                        (genL (decL decI L.length (rowP encI L))).st (genL (decL decI L.length (rowP encI L))).si (genL (decL decI L.length (rowP encI L))).le)
                                      at_ n (decL decI L.length (rowP encI L))).ver
                                  (decL dec2
                                    (bentA
                                          (Al.mk (genL (decL decI L.length (rowP encI L))).r (genL (decL decI L.length (rowP encI L))).ver
                                            (decL dec2 (genL (decL decI L.length (rowP encI L))).L.length (rowP enc2 (genL (decL decI L.length (rowP encI L))).L))
                                            (genL (decL decI L.length (rowP encI L))).st (genL (decL decI L.length (rowP encI L))).si (genL (decL decI L.length (rowP encI L))).le)
                                          at_ n (decL decI L.length (rowP encI L))).L.length
                                    (rowP enc2
                                      (bentA
                                          (Al.mk (genL (decL decI L.length (rowP encI L))).r (genL (decL decI L.length (rowP encI L))).ver
                                            (decL dec2 (genL (decL decI L.length (rowP encI L))).L.length (rowP enc2 (genL (decL decI L.length (rowP encI L))).L))
                                            (genL (decL decI L.length (rowP encI L))).st (genL (decL decI L.length (rowP encI L))).si (genL (decL decI L.length (rowP encI L))).le)
                                          at_ n (decL decI L.length (rowP encI L))).L))
                                  (bentA
                                      (Al.mk (genL (decL decI L.length (rowP encI L))).r (genL (decL decI L.length (rowP encI L))).ver
                                        (decL dec2 (genL (decL decI L.length (rowP encI L))).L.length (rowP enc2 (genL (decL decI L.length (rowP encI L))).L))
                                        (genL (decL decI L.length (rowP encI L))).st (genL (decL decI L.length (rowP encI L))).si (genL (decL decI L.length (rowP encI L))).le)
                                      at_ n (decL decI L.length (rowP encI L))).st
                                  (bentA
                                      (Al.mk (genL (decL decI L.length (rowP encI L))).r (genL (decL decI L.length (rowP encI L))).ver
                                        (decL dec2 (genL (decL decI L.length (rowP encI L))).L.length (rowP enc2 (genL (decL decI L.length (rowP encI L))).L))
                                        (genL (decL decI L.length (rowP encI L))).st (genL (decL decI L.length (rowP encI L))).si (genL (decL decI L.length (rowP encI L))).le)
                                      at_ n (decL decI L.length (rowP encI L))).si
                                  (bentA
                                      (Al.mk (genL (decL decI L.length (rowP encI L))).r (genL (decL decI L.length (rowP encI L))).ver
                                        (decL dec2 (genL (decL decI L.length (rowP encI L))).L.length (rowP enc2 (genL (decL decI L.length (rowP encI L))).L))
                                        (genL (decL decI L.length (rowP encI L))).st (genL (decL decI L.length (rowP encI L))).si (genL (decL decI L.length (rowP encI L))).le)
                                      at_ n (decL decI L.length (rowP encI L))).le)
                                vd tk).fst.r
                          (alStep
                                (Al.mk
                                  (bentA
                                      (Al.mk (genL (decL decI L.length (rowP encI L))).r (genL (decL decI L.length (rowP encI L))).ver
                                        (decL dec2 (genL (decL decI L.length (rowP encI L))).L.length (rowP enc2 (genL (decL decI L.length (rowP encI L))).L))
                                        (genL (decL decI L.length (rowP encI L))).st (genL (decL decI L.length (rowP encI L))).si (genL (decL decI L.length (rowP encI L))).le)
                                      at_ n (decL decI L.length (rowP encI L))).r
                                  (bentA
                                      (Al.mk (genL (decL decI L.length (rowP encI L))).r (genL (decL decI L.length (rowP encI L))).ver
                                        (decL dec2 (genL (decL decI L.length (rowP encI L))).L.length (rowP enc2 (genL (decL decI L.length (rowP encI L))).L))
                                        (genL (decL decI L.length (rowP encI L))).st (genL (decL decI L.length (rowP encI L))).si (genL (decL decI L.length (rowP encI L))).le)
                                      at_ n (decL decI L.length (rowP encI L))).ver
                                  (decL dec2
                                    (bentA
                                          (Al.mk (genL (decL decI L.length (rowP encI L))).r (genL (decL decI L.length (rowP encI L))).ver
                                            (decL dec2 (genL (decL decI L.length (rowP encI L))).L.length (rowP enc2 (genL (decL decI L.length (rowP encI L))).L))
                                            (genL (decL decI L.length (rowP encI L))).st (genL (decL decI L.length (rowP encI L))).si (genL (decL decI L.length (rowP encI L))).le)
                                          at_ n (decL decI L.length (rowP encI L))).L.length
                                    (rowP enc2
                                      (bentA
                                          (Al.mk (genL (decL decI L.length (rowP encI L))).r (genL (decL decI L.length (rowP encI L))).ver
                                            (decL dec2 (genL (decL decI L.length (rowP encI L))).L.length (rowP enc2 (genL (decL decI L.length (rowP encI L))).L))
                                            (genL (decL decI L.length (rowP encI L))).st (genL (decL decI L.length (rowP encI L))).si (genL (decL decI L.length (rowP encI L))).le)
                                          at_ n (decL decI L.length (rowP encI L))).L))
                                  (bentA
                                      (Al.mk (genL (decL decI L.length (rowP encI L))).r (genL (decL decI L.length (rowP encI L))).ver
                                        (decL dec2 (genL (decL decI L.length (rowP encI L))).L.length (rowP enc2 (genL (decL decI L.length (rowP encI L))).L))
                                        (genL (decL decI L.length (rowP encI L))).st (genL (decL decI L.length (rowP encI L))).si (genL (decL decI L.length (rowP encI L))).le)
                                      at_ n (decL decI L.length (rowP encI L))).st
                                  (bentA
                                      (Al.mk (genL (decL decI L.length (rowP encI L))).r (genL (decL decI L.length (rowP encI L))).ver
                                        (decL dec2 (genL (decL decI L.length (rowP encI L))).L.length (rowP enc2 (genL (decL decI L.length (rowP encI L))).L))
                                        (genL (decL decI L.length (rowP encI L))).st (genL (decL decI L.length (rowP encI L))).si (genL (decL decI L.length (rowP encI L))).le)
                                      at_ n (decL decI L.length (rowP encI L))).si
                                  (bentA
                                      (Al.mk (genL (decL decI L.length (rowP encI L))).r (genL (decL decI L.length (rowP encI L))).ver
                                        (decL dec2 (genL (decL decI L.length (rowP encI L))).L.length (rowP enc2 (genL (decL decI L.length (rowP encI L))).L))
                                        (genL (decL decI L.length (rowP encI L))).st (genL (decL decI L.length (rowP encI L))).si (genL (decL decI L.length (rowP encI L))).le)
                                      at_ n (decL decI L.length (rowP encI L))).le)
                                vd tk).fst.ver
                          (decL dec2
                            (alStep
                                    (Al.mk
                                      (bentA
                                          (Al.mk (genL (decL decI L.length (rowP encI L))).r (genL (decL decI L.length (rowP encI L))).ver
                                            (decL dec2 (genL (decL decI L.length (rowP encI L))).L.length (rowP enc2 (genL (decL decI L.length (rowP encI L))).L))
                                            (genL (decL decI L.length (rowP encI L))).st (genL (decL decI L.length (rowP encI L))).si (genL (decL decI L.length (rowP encI L))).le)
                                          at_ n (decL decI L.length (rowP encI L))).r
                                      (bentA
                                          (Al.mk (genL (decL decI L.length (rowP encI L))).r (genL (decL decI L.length (rowP encI L))).ver
                                            (decL dec2 (genL (decL decI L.length (rowP encI L))).L.length (rowP enc2 (genL (decL decI L.length (rowP encI L))).L))
                                            (genL (decL decI L.length (rowP encI L))).st (genL (decL decI L.length (rowP encI L))).si (genL (decL decI L.length (rowP encI L))).le)
                                          at_ n (decL decI L.length (rowP encI L))).ver
                                      (decL dec2
                                        (bentA
                                              (Al.mk (genL (decL decI L.length (rowP encI L))).r (genL (decL decI L.length (rowP encI L))).ver
                                                (decL dec2 (genL (decL decI L.length (rowP encI L))).L.length (rowP enc2 (genL (decL decI L.length (rowP encI L))).L))
                                                (genL (decL decI L.length (rowP encI L))).st (genL (decL decI L.length (rowP encI L))).si (genL (decL decI L.length (rowP encI L))).le)
                                              at_ n (decL decI L.length (rowP encI L))).L.length
                                        (rowP enc2
                                          (bentA
                                              (Al.mk (genL (decL decI L.length (rowP encI L))).r (genL (decL decI L.length (rowP encI L))).ver
                                                (decL dec2 (genL (decL decI L.length (rowP encI L))).L.length (rowP enc2 (genL (decL decI L.length (rowP encI L))).L))
                                                (genL (decL decI L.length (rowP encI L))).st (genL (decL decI L.length (rowP encI L))).si (genL (decL decI L.length (rowP encI L))).le)
                                              at_ n (decL decI L.length (rowP encI L))).L))
                                      (bentA
                                          (Al.mk (genL (decL decI L.length (rowP encI L))).r (genL (decL decI L.length (rowP encI L))).ver
                                            (decL dec2 (genL (decL decI L.length (rowP encI L))).L.length (rowP enc2 (genL (decL decI L.length (rowP encI L))).L))
                                            (genL (decL decI L.length (rowP encI L))).st (genL (decL decI L.length (rowP encI L))).si (genL (decL decI L.length (rowP encI L))).le)
                                          at_ n (decL decI L.length (rowP encI L))).st
                                      (bentA
                                          (Al.mk (genL (decL decI L.length (rowP encI L))).r (genL (decL decI L.length (rowP encI L))).ver
                                            (decL dec2 (genL (decL decI L.length (rowP encI L))).L.length (rowP enc2 (genL (decL decI L.length (rowP encI L))).L))
                                            (genL (decL decI L.length (rowP encI L))).st (genL (decL decI L.length (rowP encI L))).si (genL (decL decI L.length (rowP encI L))).le)
                                          at_ n (decL decI L.length (rowP encI L))).si
                                      (bentA
                                          (Al.mk (genL (decL decI L.length (rowP encI L))).r (genL (decL decI L.length (rowP encI L))).ver
                                            (decL dec2 (genL (decL decI L.length (rowP encI L))).L.length (rowP enc2 (genL (decL decI L.length (rowP encI L))).L))
                                            (genL (decL decI L.length (rowP encI L))).st (genL (decL decI L.length (rowP encI L))).si (genL (decL decI L.length (rowP encI L))).le)
                                          at_ n (decL decI L.length (rowP encI L))).le)
                                    vd tk).fst.L.length
                            (rowP enc2
                              (alStep
                                    (Al.mk
                                      (bentA
                                          (Al.mk (genL (decL decI L.length (rowP encI L))).r (genL (decL decI L.length (rowP encI L))).ver
                                            (decL dec2 (genL (decL decI L.length (rowP encI L))).L.length (rowP enc2 (genL (decL decI L.length (rowP encI L))).L))
                                            (genL (decL decI L.length (rowP encI L))).st (genL (decL decI L.length (rowP encI L))).si (genL (decL decI L.length (rowP encI L))).le)
                                          at_ n (decL decI L.length (rowP encI L))).r
                                      (bentA
                                          (Al.mk (genL (decL decI L.length (rowP encI L))).r (genL (decL decI L.length (rowP encI L))).ver
                                            (decL dec2 (genL (decL decI L.length (rowP encI L))).L.length (rowP enc2 (genL (decL decI L.length (rowP encI L))).L))
                                            (genL (decL decI L.length (rowP encI L))).st (genL (decL decI L.length (rowP encI L))).si (genL (decL decI L.length (rowP encI L))).le)
                                          at_ n (decL decI L.length (rowP encI L))).ver
                                      (decL dec2
                                        (bentA
                                              (Al.mk (genL (decL decI L.length (rowP encI L))).r (genL (decL decI L.length (rowP encI L))).ver
                                                (decL dec2 (genL (decL decI L.length (rowP encI L))).L.length (rowP enc2 (genL (decL decI L.length (rowP encI L))).L))
                                                (genL (decL decI L.length (rowP encI L))).st (genL (decL decI L.length (rowP encI L))).si (genL (decL decI L.length (rowP encI L))).le)
                                              at_ n (decL decI L.length (rowP encI L))).L.length
                                        (rowP enc2
                                          (bentA
                                              (Al.mk (genL (decL decI L.length (rowP encI L))).r (genL (decL decI L.length (rowP encI L))).ver
                                                (decL dec2 (genL (decL decI L.length (rowP encI L))).L.length (rowP enc2 (genL (decL decI L.length (rowP encI L))).L))
                                                (genL (decL decI L.length (rowP encI L))).st (genL (decL decI L.length (rowP encI L))).si (genL (decL decI L.length (rowP encI L))).le)
                                              at_ n (decL decI L.length (rowP encI L))).L))
                                      (bentA
                                          (Al.mk (genL (decL decI L.length (rowP encI L))).r (genL (decL decI L.length (rowP encI L))).ver
                                            (decL dec2 (genL (decL decI L.length (rowP encI L))).L.length (rowP enc2 (genL (decL decI L.length (rowP encI L))).L))
                                            (genL (decL decI L.length (rowP encI L))).st (genL (decL decI L.length (rowP encI L))).si (genL (decL decI L.length (rowP encI L))).le)
                                          at_ n (decL decI L.length (rowP encI L))).st
                                      (bentA
                                          (Al.mk (genL (decL decI L.length (rowP encI L))).r (genL (decL decI L.length (rowP encI L))).ver
                                            (decL dec2 (genL (decL decI L.length (rowP encI L))).L.length (rowP enc2 (genL (decL decI L.length (rowP encI L))).L))
                                            (genL (decL decI L.length (rowP encI L))).st (genL (decL decI L.length (rowP encI L))).si (genL (decL decI L.length (rowP encI L))).le)
                                          at_ n (decL decI L.length (rowP encI L))).si
                                      (bentA
                                          (Al.mk (genL (decL decI L.length (rowP encI L))).r (genL (decL decI L.length (rowP encI L))).ver
                                            (decL dec2 (genL (decL decI L.length (rowP encI L))).L.length (rowP enc2 (genL (decL decI L.length (rowP encI L))).L))
                                            (genL (decL decI L.length (rowP encI L))).st (genL (decL decI L.length (rowP encI L))).si (genL (decL decI L.length (rowP encI L))).le)
                                          at_ n (decL decI L.length (rowP encI L))).le)
                                    vd tk).fst.L))
                          (alStep
                                (Al.mk
                                  (bentA
                                      (Al.mk (genL (decL decI L.length (rowP encI L))).r (genL (decL decI L.length (rowP encI L))).ver
                                        (decL dec2 (genL (decL decI L.length (rowP encI L))).L.length (rowP enc2 (genL (decL decI L.length (rowP encI L))).L))
                                        (genL (decL decI L.length (rowP encI L))).st (genL (decL decI L.length (rowP encI L))).si (genL (decL decI L.length (rowP encI L))).le)
                                      at_ n (decL decI L.length (rowP encI L))).r
                                  (bentA
                                      (Al.mk (genL (decL decI L.length (rowP encI L))).r (genL (decL decI L.length (rowP encI L))).ver
                                        (decL dec2 (genL (decL decI L.length (rowP encI L))).L.length (rowP enc2 (genL (decL decI L.length (rowP encI L))).L))
                                        (genL (decL decI L.length (rowP encI L))).st (genL (decL decI L.length (rowP encI L))).si (genL (decL decI L.length (rowP encI L))).le)
                                      at_ n (decL decI L.length (rowP encI L))).ver
                                  (decL dec2
                                    (bentA
                                          (Al.mk (genL (decL decI L.length (rowP encI L))).r (genL (decL decI L.length (rowP encI L))).ver
                                            (decL dec2 (genL (decL decI L.length (rowP encI L))).L.length (rowP enc2 (genL (decL decI L.length (rowP encI L))).L))
                                            (genL (decL decI L.length (rowP encI L))).st (genL (decL decI L.length (rowP encI L))).si (genL (decL decI L.length (rowP encI L))).le)
                                          at_ n (decL decI L.length (rowP encI L))).L.length
                                    (rowP enc2
                                      (bentA
                                          (Al.mk (genL (decL decI L.length (rowP encI L))).r (genL (decL decI L.length (rowP encI L))).ver
                                            (decL dec2 (genL (decL decI L.length (rowP encI L))).L.length (rowP enc2 (genL (decL decI L.length (rowP encI L))).L))
                                            (genL (decL decI L.length (rowP encI L))).st (genL (decL decI L.length (rowP encI L))).si (genL (decL decI L.length (rowP encI L))).le)
                                          at_ n (decL decI L.length (rowP encI L))).L))
                                  (bentA
                                      (Al.mk (genL (decL decI L.length (rowP encI L))).r (genL (decL decI L.length (rowP encI L))).ver
                                        (decL dec2 (genL (decL decI L.length (rowP encI L))).L.length (rowP enc2 (genL (decL decI L.length (rowP encI L))).L))
                                        (genL (decL decI L.length (rowP encI L))).st (genL (decL decI L.length (rowP encI L))).si (genL (decL decI L.length (rowP encI L))).le)
                                      at_ n (decL decI L.length (rowP encI L))).st
                                  (bentA
                                      (Al.mk (genL (decL decI L.length (rowP encI L))).r (genL (decL decI L.length (rowP encI L))).ver
                                        (decL dec2 (genL (decL decI L.length (rowP encI L))).L.length (rowP enc2 (genL (decL decI L.length (rowP encI L))).L))
                                        (genL (decL decI L.length (rowP encI L))).st (genL (decL decI L.length (rowP encI L))).si (genL (decL decI L.length (rowP encI L))).le)
                                      at_ n (decL decI L.length (rowP encI L))).si
                                  (bentA
                                      (Al.mk (genL (decL decI L.length (rowP encI L))).r (genL (decL decI L.length (rowP encI L))).ver
                                        (decL dec2 (genL (decL decI L.length (rowP encI L))).L.length (rowP enc2 (genL (decL decI L.length (rowP encI L))).L))
                                        (genL (decL decI L.length (rowP encI L))).st (genL (decL decI L.length (rowP encI L))).si (genL (decL decI L.length (rowP encI L))).le)
                                      at_ n (decL decI L.length (rowP encI L))).le)
                                vd tk).fst.st
                          (alStep
                                (Al.mk
                                  (bentA
                                      (Al.mk (genL (decL decI L.length (rowP encI L))).r (genL (decL decI L.length (rowP encI L))).ver
                                        (decL dec2 (genL (decL decI L.length (rowP encI L))).L.length (rowP enc2 (genL (decL decI L.length (rowP encI L))).L))
                                        (genL (decL decI L.length (rowP encI L))).st (genL (decL decI L.length (rowP encI L))).si (genL (decL decI L.length (rowP encI L))).le)
                                      at_ n (decL decI L.length (rowP encI L))).r
                                  (bentA
                                      (Al.mk (genL (decL decI L.length (rowP encI L))).r (genL (decL decI L.length (rowP encI L))).ver
                                        (decL dec2 (genL (decL decI L.length (rowP encI L))).L.length (rowP enc2 (genL (decL decI L.length (rowP encI L))).L))
                                        (genL (decL decI L.length (rowP encI L))).st (genL (decL decI L.length (rowP encI L))).si (genL (decL decI L.length (rowP encI L))).le)
                                      at_ n (decL decI L.length (rowP encI L))).ver
                                  (decL dec2
                                    (bentA
                                          (Al.mk (genL (decL decI L.length (rowP encI L))).r (genL (decL decI L.length (rowP encI L))).ver
                                            (decL dec2 (genL (decL decI L.length (rowP encI L))).L.length (rowP enc2 (genL (decL decI L.length (rowP encI L))).L))
                                            (genL (decL decI L.length (rowP encI L))).st (genL (decL decI L.length (rowP encI L))).si (genL (decL decI L.length (rowP encI L))).le)
                                          at_ n (decL decI L.length (rowP encI L))).L.length
                                    (rowP enc2
                                      (bentA
                                          (Al.mk (genL (decL decI L.length (rowP encI L))).r (genL (decL decI L.length (rowP encI L))).ver
                                            (decL dec2 (genL (decL decI L.length (rowP encI L))).L.length (rowP enc2 (genL (decL decI L.length (rowP encI L))).L))
                                            (genL (decL decI L.length (rowP encI L))).st (genL (decL decI L.length (rowP encI L))).si (genL (decL decI L.length (rowP encI L))).le)
                                          at_ n (decL decI L.length (rowP encI L))).L))
                                  (bentA
                                      (Al.mk (genL (decL decI L.length (rowP encI L))).r (genL (decL decI L.length (rowP encI L))).ver
                                        (decL dec2 (genL (decL decI L.length (rowP encI L))).L.length (rowP enc2 (genL (decL decI L.length (rowP encI L))).L))
                                        (genL (decL decI L.length (rowP encI L))).st (genL (decL decI L.length (rowP encI L))).si (genL (decL decI L.length (rowP encI L))).le)
                                      at_ n (decL decI L.length (rowP encI L))).st
                                  (bentA
                                      (Al.mk (genL (decL decI L.length (rowP encI L))).r (genL (decL decI L.length (rowP encI L))).ver
                                        (decL dec2 (genL (decL decI L.length (rowP encI L))).L.length (rowP enc2 (genL (decL decI L.length (rowP encI L))).L))
                                        (genL (decL decI L.length (rowP encI L))).st (genL (decL decI L.length (rowP encI L))).si (genL (decL decI L.length (rowP encI L))).le)
                                      at_ n (decL decI L.length (rowP encI L))).si
                                  (bentA
                                      (Al.mk (genL (decL decI L.length (rowP encI L))).r (genL (decL decI L.length (rowP encI L))).ver
                                        (decL dec2 (genL (decL decI L.length (rowP encI L))).L.length (rowP enc2 (genL (decL decI L.length (rowP encI L))).L))
                                        (genL (decL decI L.length (rowP encI L))).st (genL (decL decI L.length (rowP encI L))).si (genL (decL decI L.length (rowP encI L))).le)
                                      at_ n (decL decI L.length (rowP encI L))).le)
                                vd tk).fst.si
                          (alStep
                                (Al.mk
                                  (bentA
                                      (Al.mk (genL (decL decI L.length (rowP encI L))).r (genL (decL decI L.length (rowP encI L))).ver
                                        (decL dec2 (genL (decL decI L.length (rowP encI L))).L.length (rowP enc2 (genL (decL decI L.length (rowP encI L))).L))
                                        (genL (decL decI L.length (rowP encI L))).st (genL (decL decI L.length (rowP encI L))).si (genL (decL decI L.length (rowP encI L))).le)
                                      at_ n (decL decI L.length (rowP encI L))).r
                                  (bentA
                                      (Al.mk (genL (decL decI L.length (rowP encI L))).r (genL (decL decI L.length (rowP encI L))).ver
                                        (decL dec2 (genL (decL decI L.length (rowP encI L))).L.length (rowP enc2 (genL (decL decI L.length (rowP encI L))).L))
                                        (genL (decL decI L.length (rowP encI L))).st (genL (decL decI L.length (rowP encI L))).si (genL (decL decI L.length (rowP encI L))).le)
                                      at_ n (decL decI L.length (rowP encI L))).ver
                                  (decL dec2
                                    (bentA
                                          (Al.mk (genL (decL decI L.length (rowP encI L))).r (genL (decL decI L.length (rowP encI L))).ver
                                            (decL dec2 (genL (decL decI L.length (rowP encI L))).L.length (rowP enc2 (genL (decL decI L.length (rowP encI L))).L))
                                            (genL (decL decI L.length (rowP encI L))).st (genL (decL decI L.length (rowP encI L))).si (genL (decL decI L.length (rowP encI L))).le)
                                          at_ n (decL decI L.length (rowP encI L))).L.length
                                    (rowP enc2
                                      (bentA
                                          (Al.mk (genL (decL decI L.length (rowP encI L))).r (genL (decL decI L.length (rowP encI L))).ver
                                            (decL dec2 (genL (decL decI L.length (rowP encI L))).L.length (rowP enc2 (genL (decL decI L.length (rowP encI L))).L))
                                            (genL (decL decI L.length (rowP encI L))).st (genL (decL decI L.length (rowP encI L))).si (genL (decL decI L.length (rowP encI L))).le)
                                          at_ n (decL decI L.length (rowP encI L))).L))
                                  (bentA
                                      (Al.mk (genL (decL decI L.length (rowP encI L))).r (genL (decL decI L.length (rowP encI L))).ver
                                        (decL dec2 (genL (decL decI L.length (rowP encI L))).L.length (rowP enc2 (genL (decL decI L.length (rowP encI L))).L))
                                        (genL (decL decI L.length (rowP encI L))).st (genL (decL decI L.length (rowP encI L))).si (genL (decL decI L.length (rowP encI L))).le)
                                      at_ n (decL decI L.length (rowP encI L))).st
                                  (bentA
                                      (Al.mk (genL (decL decI L.length (rowP encI L))).r (genL (decL decI L.length (rowP encI L))).ver
                                        (decL dec2 (genL (decL decI L.length (rowP encI L))).L.length (rowP enc2 (genL (decL decI L.length (rowP encI L))).L))
                                        (genL (decL decI L.length (rowP encI L))).st (genL (decL decI L.length (rowP encI L))).si (genL (decL decI L.length (rowP encI L))).le)
                                      at_ n (decL decI L.length (rowP encI L))).si
                                  (bentA
                                      (Al.mk (genL (decL decI L.length (rowP encI L))).r (genL (decL decI L.length (rowP encI L))).ver
                                        (decL dec2 (genL (decL decI L.length (rowP encI L))).L.length (rowP enc2 (genL (decL decI L.length (rowP encI L))).L))
                                        (genL (decL decI L.length (rowP encI L))).st (genL (decL decI L.length (rowP encI L))).si (genL (decL decI L.length (rowP encI L))).le)
                                      at_ n (decL decI L.length (rowP encI L))).le)
                                vd tk).fst.le))
                    (Tr.done X.ret (St.mk [V.c (C.p (PV.b false))] []))
                    (bT
                      (decide
                        (0 <
                          (↑(Al.mk
                                    (bentA
                                        (Al.mk (genL (decL decI L.length (rowP encI L))).r (genL (decL decI L.length (rowP encI L))).ver
                                          (decL dec2 (genL (decL decI L.length (rowP encI L))).L.length (rowP enc2 (genL (decL decI L.length (rowP encI L))).L))
                                          (genL (decL decI L.length (rowP encI L))).st (genL (decL decI L.length (rowP encI L))).si (genL (decL decI L.length (rowP encI L))).le)
                                        at_ n (decL decI L.length (rowP encI L))).r
                                    (bentA
                                        (Al.mk (genL (decL decI L.length (rowP encI L))).r (genL (decL decI L.length (rowP encI L))).ver
                                          (decL dec2 (genL (decL decI L.length (rowP encI L))).L.length (rowP enc2 (genL (decL decI L.length (rowP encI L))).L))
                                          (genL (decL decI L.length (rowP encI L))).st (genL (decL decI L.length (rowP encI L))).si (genL (decL decI L.length (rowP encI L))).le)
                                        at_ n (decL decI L.length (rowP encI L))).ver
                                    (decL dec2
                                      (bentA
                                            (Al.mk (genL (decL decI L.length (rowP encI L))).r (genL (decL decI L.length (rowP encI L))).ver
                                              (decL dec2 (genL (decL decI L.length (rowP encI L))).L.length (rowP enc2 (genL (decL decI L.length (rowP encI L))).L))
                                              (genL (decL decI L.length (rowP encI L))).st (genL (decL decI L.length (rowP encI L))).si (genL (decL decI L.length (rowP encI L))).le)
                                            at_ n (decL decI L.length (rowP encI L))).L.length
                                      (rowP enc2
                                        (bentA
                                            (Al.mk (genL (decL decI L.length (rowP encI L))).r (genL (decL decI L.length (rowP encI L))).ver
                                              (decL dec2 (genL (decL decI L.length (rowP encI L))).L.length (rowP enc2 (genL (decL decI L.length (rowP encI L))).L))
                                              (genL (decL decI L.length (rowP encI L))).st (genL (decL decI L.length (rowP encI L))).si (genL (decL decI L.length (rowP encI L))).le)
                                            at_ n (decL decI L.length (rowP encI L))).L))
                                    (bentA
                                        (Al.mk (genL (decL decI L.length (rowP encI L))).r (genL (decL decI L.length (rowP encI L))).ver
                                          (decL dec2 (genL (decL decI L.length (rowP encI L))).L.length (rowP enc2 (genL (decL decI L.length (rowP encI L))).L))
                                          (genL (decL decI L.length (rowP encI L))).st (genL (decL decI L.length (rowP encI L))).si (genL (decL decI L.length (rowP encI L))).le)
                                        at_ n (decL decI L.length (rowP encI L))).st
                                    (bentA
                                        (Al.mk (genL (decL decI L.length (rowP encI L))).r (genL (decL decI L.length (rowP encI L))).ver
                                          (decL dec2 (genL (decL decI L.length (rowP encI L))).L.length (rowP enc2 (genL (decL decI L.length (rowP encI L))).L))
                                          (genL (decL decI L.length (rowP encI L))).st (genL (decL decI L.length (rowP encI L))).si (genL (decL decI L.length (rowP encI L))).le)
                                        at_ n (decL decI L.length (rowP encI L))).si
                                    (bentA
                                        (Al.mk (genL (decL decI L.length (rowP encI L))).r (genL (decL decI L.length (rowP encI L))).ver
                                          (decL dec2 (genL (decL decI L.length (rowP encI L))).L.length (rowP enc2 (genL (decL decI L.length (rowP encI L))).L))
                                          (genL (decL decI L.length (rowP encI L))).st (genL (decL decI L.length (rowP encI L))).si (genL (decL decI L.length (rowP encI L))).le)
                                        at_ n (decL decI L.length (rowP encI L))).le).L.length :
                            Int)))
                      (Tr.rq
                        (Int.ofNat 0 ≤ Int.ofNat 0 ∧
                          0 <
                            (↑(Al.mk
                                      (bentA
                                          (Al.mk (genL (decL decI L.length (rowP encI L))).r (genL (decL decI L.length (rowP encI L))).ver
                                            (decL dec2 (genL (decL decI L.length (rowP encI L))).L.length (rowP enc2 (genL (decL decI L.length (rowP encI L))).L))
                                            (genL (decL decI L.length (rowP encI L))).st (genL (decL decI L.length (rowP encI L))).si (genL (decL decI L.length (rowP encI L))).le)
                                          at_ n (decL decI L.length (rowP encI L))).r
                                      (bentA
                                          (Al.mk (genL (decL decI L.length (rowP encI L))).r (genL (decL decI L.length (rowP encI L))).ver
                                            (decL dec2 (genL (decL decI L.length (rowP encI L))).L.length (rowP enc2 (genL (decL decI L.length (rowP encI L))).L))
                                            (genL (decL decI L.length (rowP encI L))).st (genL (decL decI L.length (rowP encI L))).si (genL (decL decI L.length (rowP encI L))).le)
                                          at_ n (decL decI L.length (rowP encI L))).ver
                                      (decL dec2
                                        (bentA
                                              (Al.mk (genL (decL decI L.length (rowP encI L))).r (genL (decL decI L.length (rowP encI L))).ver
                                                (decL dec2 (genL (decL decI L.length (rowP encI L))).L.length (rowP enc2 (genL (decL decI L.length (rowP encI L))).L))
                                                (genL (decL decI L.length (rowP encI L))).st (genL (decL decI L.length (rowP encI L))).si (genL (decL decI L.length (rowP encI L))).le)
                                              at_ n (decL decI L.length (rowP encI L))).L.length
                                        (rowP enc2
                                          (bentA
                                              (Al.mk (genL (decL decI L.length (rowP encI L))).r (genL (decL decI L.length (rowP encI L))).ver
                                                (decL dec2 (genL (decL decI L.length (rowP encI L))).L.length (rowP enc2 (genL (decL decI L.length (rowP encI L))).L))
                                                (genL (decL decI L.length (rowP encI L))).st (genL (decL decI L.length (rowP encI L))).si (genL (decL decI L.length (rowP encI L))).le)
                                              at_ n (decL decI L.length (rowP encI L))).L))
                                      (bentA
                                          (Al.mk (genL (decL decI L.length (rowP encI L))).r (genL (decL decI L.length (rowP encI L))).ver
                                            (decL dec2 (genL (decL decI L.length (rowP encI L))).L.length (rowP enc2 (genL (decL decI L.length (rowP encI L))).L))
                                            (genL (decL decI L.length (rowP encI L))).st (genL (decL decI L.length (rowP encI L))).si (genL (decL decI L.length (rowP encI L))).le)
                                          at_ n (decL decI L.length (rowP encI L))).st
                                      (bentA
                                          (Al.mk (genL (decL decI L.length (rowP encI L))).r (genL (decL decI L.length (rowP encI L))).ver
                                            (decL dec2 (genL (decL decI L.length (rowP encI L))).L.length (rowP enc2 (genL (decL decI L.length (rowP encI L))).L))
                                            (genL (decL decI L.length (rowP encI L))).st (genL (decL decI L.length (rowP encI L))).si (genL (decL decI L.length (rowP encI L))).le)
                                          at_ n (decL decI L.length (rowP encI L))).si
                                      (bentA
                                          (Al.mk (genL (decL decI L.length (rowP encI L))).r (genL (decL decI L.length (rowP encI L))).ver
                                            (decL dec2 (genL (decL decI L.length (rowP encI L))).L.length (rowP enc2 (genL (decL decI L.length (rowP encI L))).L))
                                            (genL (decL decI L.length (rowP encI L))).st (genL (decL decI L.length (rowP encI L))).si (genL (decL decI L.length (rowP encI L))).le)
                                          at_ n (decL decI L.length (rowP encI L))).le).L.length :
                              Int))
                        (Tr.rq
                          (0 <
                            (Al.mk
                                  (bentA
                                      (Al.mk (genL (decL decI L.length (rowP encI L))).r (genL (decL decI L.length (rowP encI L))).ver
                                        (decL dec2 (genL (decL decI L.length (rowP encI L))).L.length (rowP enc2 (genL (decL decI L.length (rowP encI L))).L))
                                        (genL (decL decI L.length (rowP encI L))).st (genL (decL decI L.length (rowP encI L))).si (genL (decL decI L.length (rowP encI L))).le)
                                      at_ n (decL decI L.length (rowP encI L))).r
                                  (bentA
                                      (Al.mk (genL (decL decI L.length (rowP encI L))).r (genL (decL decI L.length (rowP encI L))).ver
                                        (decL dec2 (genL (decL decI L.length (rowP encI L))).L.length (rowP enc2 (genL (decL decI L.length (rowP encI L))).L))
                                        (genL (decL decI L.length (rowP encI L))).st (genL (decL decI L.length (rowP encI L))).si (genL (decL decI L.length (rowP encI L))).le)
                                      at_ n (decL decI L.length (rowP encI L))).ver
                                  (decL dec2
                                    (bentA
                                          (Al.mk (genL (decL decI L.length (rowP encI L))).r (genL (decL decI L.length (rowP encI L))).ver
                                            (decL dec2 (genL (decL decI L.length (rowP encI L))).L.length (rowP enc2 (genL (decL decI L.length (rowP encI L))).L))
                                            (genL (decL decI L.length (rowP encI L))).st (genL (decL decI L.length (rowP encI L))).si (genL (decL decI L.length (rowP encI L))).le)
                                          at_ n (decL decI L.length (rowP encI L))).L.length
                                    (rowP enc2
                                      (bentA
                                          (Al.mk (genL (decL decI L.length (rowP encI L))).r (genL (decL decI L.length (rowP encI L))).ver
                                            (decL dec2 (genL (decL decI L.length (rowP encI L))).L.length (rowP enc2 (genL (decL decI L.length (rowP encI L))).L))
                                            (genL (decL decI L.length (rowP encI L))).st (genL (decL decI L.length (rowP encI L))).si (genL (decL decI L.length (rowP encI L))).le)
                                          at_ n (decL decI L.length (rowP encI L))).L))
                                  (bentA
                                      (Al.mk (genL (decL decI L.length (rowP encI L))).r (genL (decL decI L.length (rowP encI L))).ver
                                        (decL dec2 (genL (decL decI L.length (rowP encI L))).L.length (rowP enc2 (genL (decL decI L.length (rowP encI L))).L))
                                        (genL (decL decI L.length (rowP encI L))).st (genL (decL decI L.length (rowP encI L))).si (genL (decL decI L.length (rowP encI L))).le)
                                      at_ n (decL decI L.length (rowP encI L))).st
                                  (bentA
                                      (Al.mk (genL (decL decI L.length (rowP encI L))).r (genL (decL decI L.length (rowP encI L))).ver
                                        (decL dec2 (genL (decL decI L.length (rowP encI L))).L.length (rowP enc2 (genL (decL decI L.length (rowP encI L))).L))
                                        (genL (decL decI L.length (rowP encI L))).st (genL (decL decI L.length (rowP encI L))).si (genL (decL decI L.length (rowP encI L))).le)
                                      at_ n (decL decI L.length (rowP encI L))).si
                                  (bentA
                                      (Al.mk (genL (decL decI L.length (rowP encI L))).r (genL (decL decI L.length (rowP encI L))).ver
                                        (decL dec2 (genL (decL decI L.length (rowP encI L))).L.length (rowP enc2 (genL (decL decI L.length (rowP encI L))).L))
                                        (genL (decL decI L.length (rowP encI L))).st (genL (decL decI L.length (rowP encI L))).si (genL (decL decI L.length (rowP encI L))).le)
                                      at_ n (decL decI L.length (rowP encI L))).le).L.length)
                          (Tr.rq
                            (Int.ofNat 0 ≤ Int.ofNat 0 ∧
                              0 <
                                (↑(bentA
                                          (Al.mk (genL (decL decI L.length (rowP encI L))).r (genL (decL decI L.length (rowP encI L))).ver
                                            (decL dec2 (genL (decL decI L.length (rowP encI L))).L.length (rowP enc2 (genL (decL decI L.length (rowP encI L))).L))
                                            (genL (decL decI L.length (rowP encI L))).st (genL (decL decI L.length (rowP encI L))).si (genL (decL decI L.length (rowP encI L))).le)
                                          at_ n (decL decI L.length (rowP encI L))).L.length :
                                  Int))
                            (bT
                              (((bentA
                                            (Al.mk (genL (decL decI L.length (rowP encI L))).r (genL (decL decI L.length (rowP encI L))).ver
                                              (decL dec2 (genL (decL decI L.length (rowP encI L))).L.length (rowP enc2 (genL (decL decI L.length (rowP encI L))).L))
                                              (genL (decL decI L.length (rowP encI L))).st (genL (decL decI L.length (rowP encI L))).si (genL (decL decI L.length (rowP encI L))).le)
                                            at_ n (decL decI L.length (rowP encI L))).L.getD
                                      0 default).snd.toList ==
                                (ByteArray.mk #[115, 112, 111, 105, 108, 101, 100]).toList)
                              (Tr.done X.ret (St.mk [V.c (C.p (PV.b false))] []))
                              (Tr.rq (inR IntKind.i64 ((↑i : Int) + 1))
                                (Tr.done X.normal
                                  (cst 68 [(0, V.c (C.p (PV.l 1 L.length (rowP encI L)))), (1, V.c (C.p (PV.i IntKind.i64 at_))), (2, V.c (C.p (PV.i IntKind.i64 n))), (3, V.c (C.p (PV.i IntKind.i64 vd))), (4, V.c (C.p (PV.i IntKind.i64 tk))), (11, V.c (C.p (PV.i IntKind.i64 ((↑i : Int) + 1))))] [])))))))
                      (Tr.rq (inR IntKind.i64 ((↑i : Int) + 1))
                        (Tr.done X.normal
                          (cst 68 [(0, V.c (C.p (PV.l 1 L.length (rowP encI L)))), (1, V.c (C.p (PV.i IntKind.i64 at_))), (2, V.c (C.p (PV.i IntKind.i64 n))), (3, V.c (C.p (PV.i IntKind.i64 vd))), (4, V.c (C.p (PV.i IntKind.i64 tk))), (11, V.c (C.p (PV.i IntKind.i64 ((↑i : Int) + 1))))] []))))))))))
        (Tr.rq
          (IsL enc2 2 (decL dec2 (genL (decL decI L.length (rowP encI L))).L.length (rowP enc2 (genL (decL decI L.length (rowP encI L))).L)) (genL (decL decI L.length (rowP encI L))).L.length
              (rowP enc2 (genL (decL decI L.length (rowP encI L))).L) ∧
            (Al.mk (genL (decL decI L.length (rowP encI L))).r (genL (decL decI L.length (rowP encI L))).ver
                    (decL dec2 (genL (decL decI L.length (rowP encI L))).L.length (rowP enc2 (genL (decL decI L.length (rowP encI L))).L)) (genL (decL decI L.length (rowP encI L))).st
                    (genL (decL decI L.length (rowP encI L))).si (genL (decL decI L.length (rowP encI L))).le).L.length ≤
              1000000)
          (Tr.rq
            (IsL enc2 2 (decL dec2 (genL (decL decI L.length (rowP encI L))).L.length (rowP enc2 (genL (decL decI L.length (rowP encI L))).L)) (genL (decL decI L.length (rowP encI L))).L.length
              (rowP enc2 (genL (decL decI L.length (rowP encI L))).L))
            (bT
              (!(alStep
                      (Al.mk (genL (decL decI L.length (rowP encI L))).r (genL (decL decI L.length (rowP encI L))).ver
                        (decL dec2 (genL (decL decI L.length (rowP encI L))).L.length (rowP enc2 (genL (decL decI L.length (rowP encI L))).L)) (genL (decL decI L.length (rowP encI L))).st
                        (genL (decL decI L.length (rowP encI L))).si (genL (decL decI L.length (rowP encI L))).le)
                      vd tk).snd ==
                  (alStep
                      (Al.mk (genL (decL decI L.length (rowP encI L))).r (genL (decL decI L.length (rowP encI L))).ver
                        (decL dec2 (genL (decL decI L.length (rowP encI L))).L.length (rowP enc2 (genL (decL decI L.length (rowP encI L))).L)) (genL (decL decI L.length (rowP encI L))).st
                        (genL (decL decI L.length (rowP encI L))).si (genL (decL decI L.length (rowP encI L))).le)
                      vd tk).snd)
              (Tr.done X.ret (St.mk [V.c (C.p (PV.b false))] []))
              (Tr.rq
                ((((Al.mk (genL (decL decI L.length (rowP encI L))).r (genL (decL decI L.length (rowP encI L))).ver
                              (decL dec2 (genL (decL decI L.length (rowP encI L))).L.length (rowP enc2 (genL (decL decI L.length (rowP encI L))).L)) (genL (decL decI L.length (rowP encI L))).st
                              (genL (decL decI L.length (rowP encI L))).si (genL (decL decI L.length (rowP encI L))).le).L.length =
                        (Al.mk (genL (decL decI L.length (rowP encI L))).r (genL (decL decI L.length (rowP encI L))).ver
                              (decL dec2 (genL (decL decI L.length (rowP encI L))).L.length (rowP enc2 (genL (decL decI L.length (rowP encI L))).L)) (genL (decL decI L.length (rowP encI L))).st
                              (genL (decL decI L.length (rowP encI L))).si (genL (decL decI L.length (rowP encI L))).le).L.length ∧
                      ∀ (e o : Nat),
                        e <
                            (Al.mk (genL (decL decI L.length (rowP encI L))).r (genL (decL decI L.length (rowP encI L))).ver
                                  (decL dec2 (genL (decL decI L.length (rowP encI L))).L.length (rowP enc2 (genL (decL decI L.length (rowP encI L))).L)) (genL (decL decI L.length (rowP encI L))).st
                                  (genL (decL decI L.length (rowP encI L))).si (genL (decL decI L.length (rowP encI L))).le).L.length →
                          o < 2 →
                            C.p
                                (rowP enc2
                                  (Al.mk (genL (decL decI L.length (rowP encI L))).r (genL (decL decI L.length (rowP encI L))).ver
                                      (decL dec2 (genL (decL decI L.length (rowP encI L))).L.length (rowP enc2 (genL (decL decI L.length (rowP encI L))).L)) (genL (decL decI L.length (rowP encI L))).st
                                      (genL (decL decI L.length (rowP encI L))).si (genL (decL decI L.length (rowP encI L))).le).L
                                  e o) =
                              C.p
                                (rowP enc2
                                  (decL dec2
                                    (Al.mk (genL (decL decI L.length (rowP encI L))).r (genL (decL decI L.length (rowP encI L))).ver
                                          (decL dec2 (genL (decL decI L.length (rowP encI L))).L.length (rowP enc2 (genL (decL decI L.length (rowP encI L))).L))
                                          (genL (decL decI L.length (rowP encI L))).st (genL (decL decI L.length (rowP encI L))).si (genL (decL decI L.length (rowP encI L))).le).L.length
                                    fun e o =>
                                    unP
                                      (C.p
                                        (rowP enc2
                                          (Al.mk (genL (decL decI L.length (rowP encI L))).r (genL (decL decI L.length (rowP encI L))).ver
                                              (decL dec2 (genL (decL decI L.length (rowP encI L))).L.length (rowP enc2 (genL (decL decI L.length (rowP encI L))).L))
                                              (genL (decL decI L.length (rowP encI L))).st (genL (decL decI L.length (rowP encI L))).si (genL (decL decI L.length (rowP encI L))).le).L
                                          e o)))
                                  e o)) ∧
                    IsL enc2 2
                      (decL dec2
                        (alStep
                                (Al.mk (genL (decL decI L.length (rowP encI L))).r (genL (decL decI L.length (rowP encI L))).ver
                                  (decL dec2 (genL (decL decI L.length (rowP encI L))).L.length (rowP enc2 (genL (decL decI L.length (rowP encI L))).L)) (genL (decL decI L.length (rowP encI L))).st
                                  (genL (decL decI L.length (rowP encI L))).si (genL (decL decI L.length (rowP encI L))).le)
                                vd tk).fst.L.length
                        (rowP enc2
                          (alStep
                                (Al.mk (genL (decL decI L.length (rowP encI L))).r (genL (decL decI L.length (rowP encI L))).ver
                                  (decL dec2 (genL (decL decI L.length (rowP encI L))).L.length (rowP enc2 (genL (decL decI L.length (rowP encI L))).L)) (genL (decL decI L.length (rowP encI L))).st
                                  (genL (decL decI L.length (rowP encI L))).si (genL (decL decI L.length (rowP encI L))).le)
                                vd tk).fst.L))
                      (alStep
                              (Al.mk (genL (decL decI L.length (rowP encI L))).r (genL (decL decI L.length (rowP encI L))).ver
                                (decL dec2 (genL (decL decI L.length (rowP encI L))).L.length (rowP enc2 (genL (decL decI L.length (rowP encI L))).L)) (genL (decL decI L.length (rowP encI L))).st
                                (genL (decL decI L.length (rowP encI L))).si (genL (decL decI L.length (rowP encI L))).le)
                              vd tk).fst.L.length
                      (rowP enc2
                        (alStep
                              (Al.mk (genL (decL decI L.length (rowP encI L))).r (genL (decL decI L.length (rowP encI L))).ver
                                (decL dec2 (genL (decL decI L.length (rowP encI L))).L.length (rowP enc2 (genL (decL decI L.length (rowP encI L))).L)) (genL (decL decI L.length (rowP encI L))).st
                                (genL (decL decI L.length (rowP encI L))).si (genL (decL decI L.length (rowP encI L))).le)
                              vd tk).fst.L)) ∧
                  (Al.mk
                          (alStep
                                (Al.mk (genL (decL decI L.length (rowP encI L))).r (genL (decL decI L.length (rowP encI L))).ver
                                  (decL dec2 (genL (decL decI L.length (rowP encI L))).L.length (rowP enc2 (genL (decL decI L.length (rowP encI L))).L)) (genL (decL decI L.length (rowP encI L))).st
                                  (genL (decL decI L.length (rowP encI L))).si (genL (decL decI L.length (rowP encI L))).le)
                                vd tk).fst.r
                          (alStep
                                (Al.mk (genL (decL decI L.length (rowP encI L))).r (genL (decL decI L.length (rowP encI L))).ver
                                  (decL dec2 (genL (decL decI L.length (rowP encI L))).L.length (rowP enc2 (genL (decL decI L.length (rowP encI L))).L)) (genL (decL decI L.length (rowP encI L))).st
                                  (genL (decL decI L.length (rowP encI L))).si (genL (decL decI L.length (rowP encI L))).le)
                                vd tk).fst.ver
                          (decL dec2
                            (alStep
                                    (Al.mk (genL (decL decI L.length (rowP encI L))).r (genL (decL decI L.length (rowP encI L))).ver
                                      (decL dec2 (genL (decL decI L.length (rowP encI L))).L.length (rowP enc2 (genL (decL decI L.length (rowP encI L))).L)) (genL (decL decI L.length (rowP encI L))).st
                                      (genL (decL decI L.length (rowP encI L))).si (genL (decL decI L.length (rowP encI L))).le)
                                    vd tk).fst.L.length
                            (rowP enc2
                              (alStep
                                    (Al.mk (genL (decL decI L.length (rowP encI L))).r (genL (decL decI L.length (rowP encI L))).ver
                                      (decL dec2 (genL (decL decI L.length (rowP encI L))).L.length (rowP enc2 (genL (decL decI L.length (rowP encI L))).L)) (genL (decL decI L.length (rowP encI L))).st
                                      (genL (decL decI L.length (rowP encI L))).si (genL (decL decI L.length (rowP encI L))).le)
                                    vd tk).fst.L))
                          (alStep
                                (Al.mk (genL (decL decI L.length (rowP encI L))).r (genL (decL decI L.length (rowP encI L))).ver
                                  (decL dec2 (genL (decL decI L.length (rowP encI L))).L.length (rowP enc2 (genL (decL decI L.length (rowP encI L))).L)) (genL (decL decI L.length (rowP encI L))).st
                                  (genL (decL decI L.length (rowP encI L))).si (genL (decL decI L.length (rowP encI L))).le)
                                vd tk).fst.st
                          (alStep
                                (Al.mk (genL (decL decI L.length (rowP encI L))).r (genL (decL decI L.length (rowP encI L))).ver
                                  (decL dec2 (genL (decL decI L.length (rowP encI L))).L.length (rowP enc2 (genL (decL decI L.length (rowP encI L))).L)) (genL (decL decI L.length (rowP encI L))).st
                                  (genL (decL decI L.length (rowP encI L))).si (genL (decL decI L.length (rowP encI L))).le)
                                vd tk).fst.si
                          (alStep
                                (Al.mk (genL (decL decI L.length (rowP encI L))).r (genL (decL decI L.length (rowP encI L))).ver
                                  (decL dec2 (genL (decL decI L.length (rowP encI L))).L.length (rowP enc2 (genL (decL decI L.length (rowP encI L))).L)) (genL (decL decI L.length (rowP encI L))).st
                                  (genL (decL decI L.length (rowP encI L))).si (genL (decL decI L.length (rowP encI L))).le)
                                vd tk).fst.le).L.length ≤
                    1000000)
                (bT
                  (!alEq
                      (Al.mk
                        (Al.mk (genL (decL decI L.length (rowP encI L))).r (genL (decL decI L.length (rowP encI L))).ver
                            (decL dec2 (genL (decL decI L.length (rowP encI L))).L.length (rowP enc2 (genL (decL decI L.length (rowP encI L))).L)) (genL (decL decI L.length (rowP encI L))).st
                            (genL (decL decI L.length (rowP encI L))).si (genL (decL decI L.length (rowP encI L))).le).r
                        (Al.mk (genL (decL decI L.length (rowP encI L))).r (genL (decL decI L.length (rowP encI L))).ver
                            (decL dec2 (genL (decL decI L.length (rowP encI L))).L.length (rowP enc2 (genL (decL decI L.length (rowP encI L))).L)) (genL (decL decI L.length (rowP encI L))).st
                            (genL (decL decI L.length (rowP encI L))).si (genL (decL decI L.length (rowP encI L))).le).ver
                        (decL dec2
                          (Al.mk (genL (decL decI L.length (rowP encI L))).r (genL (decL decI L.length (rowP encI L))).ver
                                (decL dec2 (genL (decL decI L.length (rowP encI L))).L.length (rowP enc2 (genL (decL decI L.length (rowP encI L))).L)) (genL (decL decI L.length (rowP encI L))).st
                                (genL (decL decI L.length (rowP encI L))).si (genL (decL decI L.length (rowP encI L))).le).L.length
                          fun e o =>
                          unP
                            (C.p
                              (rowP enc2
                                (Al.mk (genL (decL decI L.length (rowP encI L))).r (genL (decL decI L.length (rowP encI L))).ver
                                    (decL dec2 (genL (decL decI L.length (rowP encI L))).L.length (rowP enc2 (genL (decL decI L.length (rowP encI L))).L)) (genL (decL decI L.length (rowP encI L))).st
                                    (genL (decL decI L.length (rowP encI L))).si (genL (decL decI L.length (rowP encI L))).le).L
                                e o)))
                        (alStep
                              (Al.mk (genL (decL decI L.length (rowP encI L))).r (genL (decL decI L.length (rowP encI L))).ver
                                (decL dec2 (genL (decL decI L.length (rowP encI L))).L.length (rowP enc2 (genL (decL decI L.length (rowP encI L))).L)) (genL (decL decI L.length (rowP encI L))).st
                                (genL (decL decI L.length (rowP encI L))).si (genL (decL decI L.length (rowP encI L))).le)
                              vd tk).fst.st
                        (alStep
                              (Al.mk (genL (decL decI L.length (rowP encI L))).r (genL (decL decI L.length (rowP encI L))).ver
                                (decL dec2 (genL (decL decI L.length (rowP encI L))).L.length (rowP enc2 (genL (decL decI L.length (rowP encI L))).L)) (genL (decL decI L.length (rowP encI L))).st
                                (genL (decL decI L.length (rowP encI L))).si (genL (decL decI L.length (rowP encI L))).le)
                              vd tk).fst.si
                        (alStep
                              (Al.mk (genL (decL decI L.length (rowP encI L))).r (genL (decL decI L.length (rowP encI L))).ver
                                (decL dec2 (genL (decL decI L.length (rowP encI L))).L.length (rowP enc2 (genL (decL decI L.length (rowP encI L))).L)) (genL (decL decI L.length (rowP encI L))).st
                                (genL (decL decI L.length (rowP encI L))).si (genL (decL decI L.length (rowP encI L))).le)
                              vd tk).fst.le)
                      (Al.mk
                        (alStep
                              (Al.mk (genL (decL decI L.length (rowP encI L))).r (genL (decL decI L.length (rowP encI L))).ver
                                (decL dec2 (genL (decL decI L.length (rowP encI L))).L.length (rowP enc2 (genL (decL decI L.length (rowP encI L))).L)) (genL (decL decI L.length (rowP encI L))).st
                                (genL (decL decI L.length (rowP encI L))).si (genL (decL decI L.length (rowP encI L))).le)
                              vd tk).fst.r
                        (alStep
                              (Al.mk (genL (decL decI L.length (rowP encI L))).r (genL (decL decI L.length (rowP encI L))).ver
                                (decL dec2 (genL (decL decI L.length (rowP encI L))).L.length (rowP enc2 (genL (decL decI L.length (rowP encI L))).L)) (genL (decL decI L.length (rowP encI L))).st
                                (genL (decL decI L.length (rowP encI L))).si (genL (decL decI L.length (rowP encI L))).le)
                              vd tk).fst.ver
                        (decL dec2
                          (alStep
                                  (Al.mk (genL (decL decI L.length (rowP encI L))).r (genL (decL decI L.length (rowP encI L))).ver
                                    (decL dec2 (genL (decL decI L.length (rowP encI L))).L.length (rowP enc2 (genL (decL decI L.length (rowP encI L))).L)) (genL (decL decI L.length (rowP encI L))).st
                                    (genL (decL decI L.length (rowP encI L))).si (genL (decL decI L.length (rowP encI L))).le)
                                  vd tk).fst.L.length
                          (rowP enc2
                            (alStep
                                  (Al.mk (genL (decL decI L.length (rowP encI L))).r (genL (decL decI L.length (rowP encI L))).ver
                                    (decL dec2 (genL (decL decI L.length (rowP encI L))).L.length (rowP enc2 (genL (decL decI L.length (rowP encI L))).L)) (genL (decL decI L.length (rowP encI L))).st
                                    (genL (decL decI L.length (rowP encI L))).si (genL (decL decI L.length (rowP encI L))).le)
                                  vd tk).fst.L))
                        (alStep
                              (Al.mk (genL (decL decI L.length (rowP encI L))).r (genL (decL decI L.length (rowP encI L))).ver
                                (decL dec2 (genL (decL decI L.length (rowP encI L))).L.length (rowP enc2 (genL (decL decI L.length (rowP encI L))).L)) (genL (decL decI L.length (rowP encI L))).st
                                (genL (decL decI L.length (rowP encI L))).si (genL (decL decI L.length (rowP encI L))).le)
                              vd tk).fst.st
                        (alStep
                              (Al.mk (genL (decL decI L.length (rowP encI L))).r (genL (decL decI L.length (rowP encI L))).ver
                                (decL dec2 (genL (decL decI L.length (rowP encI L))).L.length (rowP enc2 (genL (decL decI L.length (rowP encI L))).L)) (genL (decL decI L.length (rowP encI L))).st
                                (genL (decL decI L.length (rowP encI L))).si (genL (decL decI L.length (rowP encI L))).le)
                              vd tk).fst.si
                        (alStep
                              (Al.mk (genL (decL decI L.length (rowP encI L))).r (genL (decL decI L.length (rowP encI L))).ver
                                (decL dec2 (genL (decL decI L.length (rowP encI L))).L.length (rowP enc2 (genL (decL decI L.length (rowP encI L))).L)) (genL (decL decI L.length (rowP encI L))).st
                                (genL (decL decI L.length (rowP encI L))).si (genL (decL decI L.length (rowP encI L))).le)
                              vd tk).fst.le))
                  (Tr.done X.ret (St.mk [V.c (C.p (PV.b false))] []))
                  (bT
                    (decide
                      (0 <
                        (↑(Al.mk (genL (decL decI L.length (rowP encI L))).r (genL (decL decI L.length (rowP encI L))).ver
                                  (decL dec2 (genL (decL decI L.length (rowP encI L))).L.length (rowP enc2 (genL (decL decI L.length (rowP encI L))).L)) (genL (decL decI L.length (rowP encI L))).st
                                  (genL (decL decI L.length (rowP encI L))).si (genL (decL decI L.length (rowP encI L))).le).L.length :
                          Int)))
                    (Tr.rq
                      (Int.ofNat 0 ≤ Int.ofNat 0 ∧
                        0 <
                          (↑(Al.mk (genL (decL decI L.length (rowP encI L))).r (genL (decL decI L.length (rowP encI L))).ver
                                    (decL dec2 (genL (decL decI L.length (rowP encI L))).L.length (rowP enc2 (genL (decL decI L.length (rowP encI L))).L)) (genL (decL decI L.length (rowP encI L))).st
                                    (genL (decL decI L.length (rowP encI L))).si (genL (decL decI L.length (rowP encI L))).le).L.length :
                            Int))
                      (Tr.rq
                        (0 <
                          (Al.mk (genL (decL decI L.length (rowP encI L))).r (genL (decL decI L.length (rowP encI L))).ver
                                (decL dec2 (genL (decL decI L.length (rowP encI L))).L.length (rowP enc2 (genL (decL decI L.length (rowP encI L))).L)) (genL (decL decI L.length (rowP encI L))).st
                                (genL (decL decI L.length (rowP encI L))).si (genL (decL decI L.length (rowP encI L))).le).L.length)
                        (Tr.rq (Int.ofNat 0 ≤ Int.ofNat 0 ∧ 0 < (↑(genL (decL decI L.length (rowP encI L))).L.length : Int))
                          (bT (((genL (decL decI L.length (rowP encI L))).L.getD 0 default).snd.toList == (ByteArray.mk #[115, 112, 111, 105, 108, 101, 100]).toList)
                            (Tr.done X.ret (St.mk [V.c (C.p (PV.b false))] []))
                            (Tr.rq (inR IntKind.i64 ((↑i : Int) + 1))
                              (Tr.done X.normal
                                (cst 68 [(0, V.c (C.p (PV.l 1 L.length (rowP encI L)))), (1, V.c (C.p (PV.i IntKind.i64 at_))), (2, V.c (C.p (PV.i IntKind.i64 n))), (3, V.c (C.p (PV.i IntKind.i64 vd))), (4, V.c (C.p (PV.i IntKind.i64 tk))), (11, V.c (C.p (PV.i IntKind.i64 ((↑i : Int) + 1))))] [])))))))
                    (Tr.rq (inR IntKind.i64 ((↑i : Int) + 1))
                      (Tr.done X.normal
                        (cst 68 [(0, V.c (C.p (PV.l 1 L.length (rowP encI L)))), (1, V.c (C.p (PV.i IntKind.i64 at_))), (2, V.c (C.p (PV.i IntKind.i64 n))), (3, V.c (C.p (PV.i IntKind.i64 vd))), (4, V.c (C.p (PV.i IntKind.i64 tk))), (11, V.c (C.p (PV.i IntKind.i64 ((↑i : Int) + 1))))] [])))))))))))
    (Tr.done (X.exit 0)
      (cst 68 [(0, V.c (C.p (PV.l 1 L.length (rowP encI L)))), (1, V.c (C.p (PV.i IntKind.i64 at_))), (2, V.c (C.p (PV.i IntKind.i64 n))), (3, V.c (C.p (PV.i IntKind.i64 vd))), (4, V.c (C.p (PV.i IntKind.i64 tk))), (11, V.c (C.p (PV.i IntKind.i64 (↑i : Int))))] [])) := by kernel_rfl
theorem tLT3 (L : List Int) (at_ n vd tk : Int) (i : Nat) : exTs extT (dropL 3 (pcs Tryd.prog Tryd.f4)) (cst 68 [(0, listV encI 1 L), (1, iV at_), (2, iV n), (3, iV vd), (4, iV tk), (11, iV (i : Nat))] []) (endG [] (resOf Tryd.prog Tryd.f4)) = Tr.rq True (Tr.done X.ret (St.mk [V.c (C.p (PV.b true))] [])) := by kernel_rfl
section
variable {G : Nat → Option Obj}
theorem pr_str {R R' : Nat → Prop} {w w' : World} (x : ByteArray × ByteArray) (o : Nat) {u : Value} (h : PR R w (enc2 x o) u) : PR R' w' (enc2 x o) u := by
  cases o <;> exact h
theorem alOfH_le {h : List AO} {x : V} {p : Prop} {a : Al} (hx : alOfH h x = some (p, a)) (hp : p) : VLeH G h x (alV a) := by
  unfold alOfH at hx
  split at hx
  · rename_i r ver id n st si le
    split at hx
    · rename_i ty m f hid
      injection hx with hx
      injection hx with h1 h2
      subst h2; subst h1
      obtain ⟨rfl, hf⟩ := hp
      rintro β R w u hs ⟨us, rfl, hu⟩
      obtain ⟨u0, l0, e0, h0, hu⟩ := All2.nth2 hu
      obtain ⟨u1, l1, e1, h1, hu⟩ := All2.nth2 hu
      obtain ⟨u2, l2, e2, h2, hu⟩ := All2.nth2 hu
      obtain ⟨u3, l3, e3, h3, hu⟩ := All2.nth2 hu
      obtain ⟨u4, l4, e4, h4, hu⟩ := All2.nth2 hu
      obtain ⟨u5, l5, e5, h5, hu⟩ := All2.nth2 hu
      obtain rfl := All2.nil2 hu
      subst e5; subst e4; subst e3; subst e2; subst e1
      refine ⟨us, rfl, ?_⟩
      rw [e0]
      refine ⟨h0, h1, ?_, h3, h4, h5, trivial⟩
      obtain ⟨A, c, rfl, g1, g2, g3⟩ := h2
      refine ⟨A, c, by rw [decL_length], by rw [decL_length]; exact g1, g2, fun hn => ?_⟩
      rw [decL_length] at hn
      rcases g3 with ⟨_, g4, _⟩ | ⟨b, N, g4, rfl, g5⟩
      · omega
      · have hob := hs.obj id b N g4
        rw [hid] at hob
        obtain ⟨cs, k1, k2, k3, k4⟩ := hob
        refine ⟨_, rfl, hs.lt id b N g4, fun e o he ho => ?_⟩
        rw [decL_length] at he
        obtain ⟨u, q1, q2⟩ := k4 e o he ho
        rw [hf e o he ho] at q2
        refine ⟨u, ?_, pr_str _ _ q2⟩
        rw [add_mid, Nat.zero_mul, Nat.zero_add, cell_of_row w b _ cs ty (0, 0) k1]
        exact q1
    · cases hx
  · cases hx
theorem alOf_leH {h : List AO} {x : V} {p : Prop} {a : Al} (hx : alOf x = some (p, a)) (hp : p) : VLeH G h x (alV a) := by
  intro β R w u hs hu
  have h1 := alOf_le hx hp β R w u hu
  have h2 : VR (fun _ => none) R w (alV a) u := (All2.pureV_ (pureAll_mem (show pureAll [alV a] = true from rfl)) (show All2 (VR β R w) [alV a] [u] from ⟨h1, trivial⟩)).1
  exact VR.keep ⟨(fun _ _ h => by cases h), hs.rlt, fun _ _ => rfl⟩ h2
theorem okSameH : ModHOK Tryd.prog G 20 mSameH := by
  intro args h p v h' hm hp
  unfold mSameH at hm
  split at hm; rotate_left; · cases hm
  split at hm; rotate_left; · cases hm
  rename_i x y _ _ _ _ q a q2 b hx hy
  obtain ⟨rfl, rfl, rfl⟩ := some_three hm
  obtain ⟨⟨h1, h2⟩, h3⟩ := hp
  refine fn_mut (args' := [alV a, alV b]) (.cons (alOfH_le hx h1) (.cons (alOf_leH hy h2) .nil)) ?_ (fun _ _ _ _ _ _ _ h => h)
  have := okRSame (G := G) [alV a, alV b] _ _ rfl ⟨⟨by rw [dec2_row]; exact isL_row _ _ _, by rw [dec2_row]; exact isL_row _ _ _⟩, by simpa only [dec2_row] using h3⟩ []
  simpa only [dec2_row, al_eta] using this
theorem okAStepH (hG : LevG G) : ModHOK Tryd.prog G 18 mAStepH := by
  intro args h p v h' hm hp
  unfold mAStepH at hm
  split at hm; rotate_left; · cases hm
  split at hm; rotate_left; · cases hm
  rename_i x vd tk _ q a hx
  obtain ⟨rfl, rfl, rfl⟩ := some_three hm
  obtain ⟨hq, hn⟩ := hp
  refine FnS.args (args' := [alV a, iV vd, iV tk]) ?_ (.cons (alOf_le hx hq) (.cons (.refl _) (.cons (.refl _) .nil)))
  intro β R w vs ha hh
  obtain ⟨u, l, e, hu, ha⟩ := All2.nth2 ha
  obtain ⟨u1, l1, rfl, hu1, ha⟩ := All2.nth2 ha
  obtain ⟨u2, l2, rfl, hu2, ha⟩ := All2.nth2 ha
  obtain rfl := All2.nil2 ha
  have hu1 : u1 = .int .i64 vd := hu1
  have hu2 : u2 = .int .i64 tk := hu2
  subst hu1; subst hu2
  obtain ⟨A, c, rfl, hR⟩ := al_open hh.rlt hu
  cases vs
  rename_i lv_
  have e : lv_ = _ := e
  subst e
  refine (aStep_any a.r a.ver A a.L.length c _ a.st a.si a.le vd tk w hn hR (hG w fun b o hb => (hh.gl b o hb).2)).mono ?_
  rintro e w' ⟨v, rfl, ⟨_, ho⟩, hb⟩
  rcases ho with ⟨rfl, h0⟩ | ⟨g, cap, cur, rfl, hg, hbk, hc, hmx, hsz, ht⟩
  · obtain ⟨c1, c2⟩ := hs_caller_none hh (fr_below hh.rlt hb) (fun _ h => h) (h' := []) ⟨(fun _ _ h => by cases h), (fun _ _ _ _ _ h => by cases h), (fun _ _ _ h => by cases h), (fun _ _ _ h => by cases h), (fun b h => Nat.lt_of_lt_of_le (hh.rlt b h) hb.size), (fun _ _ _ h => by cases h), fun b o hgb => ⟨(hh.gl b o hgb).1, (hb.block b (hh.rlt b (hh.gl b o hgb).1)).trans (hh.gl b o hgb).2⟩⟩ (.row 35 2 a.L.length fun e o => .p (rowP enc2 a.L e o))
    refine ⟨_, β, _, _, _, rfl, ⟨rfl, rfl⟩, ⟨_, rfl, ⟨_, rfl, rfl, rfl, ?_, rfl, rfl, rfl, trivial⟩, rfl, trivial⟩, c1, c2, fun _ _ => rfl⟩
    exact ⟨none, 0, by rw [h0], by omega, Nat.zero_le _, .inl ⟨.inl rfl, h0, rfl⟩⟩
  · have hob : ∀ β2, OR β2 R w' (.row 35 2 a.L.length fun e o => .p (rowP enc2 a.L e o)) g (cap * 2) := by
      intro β2
      refine ⟨cur, hbk, hsz, by omega, fun e o he ho => ?_⟩
      have hk : e * 2 + o < a.L.length * 2 := by omega
      have hval := congrArg (·[e * 2 + o]?) ht
      simp only [List.getElem?_take, if_pos hk] at hval
      rw [vl_get _ _ _ hk, Array.getElem?_toList] at hval
      refine ⟨_, hval, ?_⟩
      have ho' : o = 0 ∨ o = 1 := by omega
      rcases ho' with rfl | rfl
      · show lcell _ (e * 2) = _; rw [lcell0] <;> rfl
      · show lcell _ (e * 2 + 1) = _; rw [lcell1] <;> rfl
    have hlt : g < w'.heap.size := (Array.getElem?_eq_some_iff.1 hbk).1
    obtain ⟨c1, c2⟩ := hs_caller_row hh (fr_row hh.rlt hb hg) (fun _ h => h) (hs_row hh hb hg hlt (hob _)) (x := .row 35 2 a.L.length fun e o => .p (rowP enc2 a.L e o)) rfl (id := 0) (b := g) (N := cap * 2) rfl rfl (fun β2 _ => hob β2)
    refine ⟨_, bn β h.length (g, cap * 2), R, _, _, rfl, ⟨rfl, rfl⟩, ⟨_, rfl, ⟨_, rfl, rfl, rfl, ?_, rfl, rfl, rfl, trivial⟩, rfl, trivial⟩, c1, c2, fun i hi => bn_other _ (by omega)⟩
    refine ⟨_, cap, rfl, hc, hmx, .inr ⟨g, cap * 2, ?_, by rw [Nat.zero_mul], by rw [Nat.zero_add]⟩⟩
    rw [lenL_eq]
    exact bn_same _ _ _
theorem extT_sound (hG : LevG G) : SoundExt Tryd.prog G extT := extH_sound (by simp; exact ⟨okGen.lift, okBent.lift, (okLives hG).lift, okAStepH hG, okRStep.lift, okSameH⟩)
end
/-! ### No label of a generated alert is spoiled -/
theorem values_in (i : Nat) (h : i < 14) : values14.getD i default ∈ values14 := by
  rw [List.getD_eq_getElem?_getD, List.getElem?_eq_getElem (show i < values14.length from h)]
  exact List.getElem_mem _
theorem values6 (i : Nat) (h : i < 6) : valuesL.getD i default ∈ values14 := by
  refine List.mem_append_left _ ?_
  rw [List.getD_eq_getElem?_getD, List.getElem?_eq_getElem (show i < valuesL.length from h)]
  exact List.getElem_mem _
theorem setS_vals (L : List Int) : ∀ i, ∀ x ∈ (setS L i).2, x.2 ∈ values14
  | 0, x, hx => by cases hx
  | i + 1, x, hx => by
    have hx : x ∈ (if (setS L i).1 % 2 = 1 then (setS L i).2 ++ [(namesL.getD i default, valuesL.getD (pickZ L (i + 1) 6).toNat default)] else (setS L i).2) := hx
    split at hx
    · rcases List.mem_append.1 hx with hx | hx
      · exact setS_vals L i x hx
      · obtain rfl := List.mem_singleton.1 hx
        have := pickZ_range L (i + 1) (m := 6) (by omega)
        exact values6 _ (by omega)
    · exact setS_vals L i x hx
theorem dirS_vals (L : List Int) : ∀ i, ∀ x ∈ dirS L i, x.2 ∈ values14
  | 0, x, hx => by cases hx
  | i + 1, x, hx => by
    rcases List.mem_append.1 hx with hx | hx
    · exact dirS_vals L i x hx
    · obtain rfl := List.mem_singleton.1 hx
      have := dirN_range L (2 * i + 2) (m := 14) (by omega)
      exact values_in _ (by omega)
theorem bent_vals (at_ n : Int) (L : List Int) : ∀ x ∈ (bentA (genL L) at_ n L).L, x.2 ∈ values14 := by
  unfold bentA
  repeat' split
  all_goals first | exact dirS_vals L _ | exact setS_vals L 6
theorem not_spoiled {s : ByteArray} (h : s ∈ values14) : (s.toList == (ByteArray.mk #[115, 112, 111, 105, 108, 101, 100]).toList) = false := by
  have : (values14.all fun s => !(s.toList == (ByteArray.mk #[115, 112, 111, 105, 108, 101, 100]).toList)) = true := by decide +kernel
  simpa using List.all_eq_true.1 this s h
section
variable {G : Nat → Option Obj}
theorem row_refl (L : List (ByteArray × ByteArray)) : decL dec2 L.length (fun e o => unP (C.p (rowP enc2 L e o))) = L := dec2_row L
set_option maxRecDepth 100000 in
theorem alertStep_fn (hG : LevG G) {L : List Int} (hI : Ints L) {at_ n vd tk : Int} (ha : inR .i64 at_) (hn : inR .i64 n) : FnS Tryd.prog G 4 [listV encI 1 L, iV at_, iV n, iV vd, iV tk] [] fun x h' => x = bV true ∧ h' = [] := by
  refine fn_S Tryd.func4 (by kernel_rfl) rfl ?_ []
  refine ExS.evG (extT_sound hG) 2 (tLT1 L at_ n vd tk) ?_
  simp only [holds_done, kf_normal]
  have iL := isL_row encI 1 L
  refine ExS.loop' (l := dropL 2 (pcs Tryd.prog Tryd.f4)) (b := inr (inr (nth .skip (pcs Tryd.prog Tryd.f4) 2))) (r := dropL 3 (pcs Tryd.prog Tryd.f4)) (id := 0) (by kernel_rfl) (σ := Nat)
    (fun i => cst 68 [(0, listV encI 1 L), (1, iV at_), (2, iV n), (3, iV vd), (4, iV tk), (11, iV (i : Nat))] []) (fun i => i ≤ 2) (fun i => 2 - i) 0 (by omega) (weak_of_eq (by kernel_rfl)) ?_
  intro i hi Q q1n q1e _
  refine ExS.evH (extT_sound hG) (tLT2 L at_ n vd tk i) ?_
  have l1 : (genL L).L.length ≤ 1000000 := Nat.le_trans (set_len L) (by omega)
  have l2 : (bentA (genL L) at_ n L).L.length ≤ 1000000 := Nat.le_trans (bent_len at_ n L) (by omega)
  have iA := fun a : Al => isL_row enc2 2 a.L
  have done_ : i < 2 → Leaf (Q X.normal ((fun i : Nat => cst 68 [(0, listV encI 1 L), (1, iV at_), (2, iV n), (3, iV vd), (4, iV tk), (11, iV (i : Nat))] []) (i + 1))) := fun h => ⟨q1n (i + 1) _ (by omega) (by omega) (WeakS.refl _)⟩
  have h9 : ∀ x : Bool, (!(x == x)) = false := by intro x; cases x <;> rfl
  have hmk : ∀ a : Al, Al.mk a.r a.ver a.L (alStep a vd tk).1.st (alStep a vd tk).1.si (alStep a vd tk).1.le = (alStep a vd tk).1 := fun _ => rfl
  simp only [holds_bT, holds_rq, holds_leaf, kf_ret', kf_normal, kf_exit, decI_row, dec2_row, row_refl, al_eta, hmk, alEq_refl, h9, decide_eq_true_eq, decide_eq_false_iff_not, beq_iff_eq, beq_eq_false_iff_ne, Bool.not_true, Bool.not_false, Bool.false_eq_true, Bool.true_eq_false, reduceCtorEq, false_imp_iff, true_imp_iff, forall_const, and_true, true_and]
  have sp : ∀ a : Al, (∀ x ∈ a.L, x.2 ∈ values14) → 0 < a.L.length → (a.L.getD 0 default).2.toList = (ByteArray.mk #[115, 112, 111, 105, 108, 101, 100]).toList → False := by
    intro a hv hp he
    have hm : a.L.getD 0 default ∈ a.L := by
      rw [List.getD_eq_getElem?_getD, List.getElem?_eq_getElem hp]
      exact List.getElem_mem _
    have := not_spoiled (hv _ hm)
    rw [he] at this
    simp at this
  have vb := bent_vals at_ n L
  have vg : ∀ x ∈ (genL L).L, x.2 ∈ values14 := setS_vals L 6
  have hin : i < 2 → inR .i64 ((↑i : Int) + 1) := fun h => by simp only [inR]; omega
  refine ⟨fun h2' => ⟨⟨iL, hI⟩, fun _ => ⟨⟨iA _, ha, hn, iL, hI⟩, ⟨iA _, l2⟩, iA _, ⟨⟨fun _ _ _ _ => trivial, iA _⟩, l2⟩, fun hp => ⟨⟨by decide, hp⟩, by omega, ⟨by decide, hp⟩, fun he => (sp _ vb (by omega) he).elim, fun _ => ⟨hin (by omega), done_ (by omega)⟩⟩, fun _ => ⟨hin (by omega), done_ (by omega)⟩⟩, fun _ => ⟨⟨iA _, l1⟩, iA _, ⟨⟨fun _ _ _ _ => trivial, iA _⟩, l1⟩, fun hp => ⟨⟨by decide, hp⟩, by omega, ⟨by decide, hp⟩, fun he => (sp _ vg (by omega) he).elim, fun _ => ⟨hin (by omega), done_ (by omega)⟩⟩, fun _ => ⟨hin (by omega), done_ (by omega)⟩⟩⟩, fun h2' => ⟨q1e _ ?_⟩⟩
  refine ExS.evH (extT_sound hG) (tLT3 L at_ n vd tk i) ?_
  simp only [holds_rq, holds_done, kf_ret']
  exact ⟨trivial, VLe.refl _⟩
theorem alertStep_walk (A : Option Addr) (len cap : Nat) (g : Nat → Int) (hg : ∀ k, -9223372036854775808 ≤ g k ∧ g k ≤ 9223372036854775807) (at_ n vd tk : Int) (ha : -9223372036854775808 ≤ at_ ∧ at_ ≤ 9223372036854775807) (hn : -9223372036854775808 ≤ n ∧ n ≤ 9223372036854775807)
    (w : World) (h1 : len ≤ cap) (h2 : cap ≤ maxLen) (hR : Rd w w.heap.size A len fun k => .int .i64 (g k)) (hL : Lev w) : Calls Tryd.prog 4 #[.slice A len cap, .int .i64 at_, .int .i64 n, .int .i64 vd, .int .i64 tk] w fun e w' => e = .returned (.bool true) ∧ Below w.heap.size w w' := by
  refine calls_of_fn ((alertStep_fn (vd := vd) (tk := tk) (levG_gw hL) (ints_in (len := len) hg) ha hn).mono fun _ _ h => h.1) ?_ (gw_ok w)
  exact ⟨ints_vr hR h1 h2, rfl, rfl, rfl, rfl, trivial⟩
end
end Go.AE
