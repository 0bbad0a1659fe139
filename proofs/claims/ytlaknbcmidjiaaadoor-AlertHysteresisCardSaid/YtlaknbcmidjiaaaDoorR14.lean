/- AE: the law AlertHysteresis. -/
import Derived.Test.YtlaknbcmidjiaaaDoorR9
import Derived.Test.YtlaknbcmidjiaaaDoorR13
import Derived.Test.YtlaknbcmidjiaaaDoorVerd
namespace Go.AE
open Go.Proofs Go.Proofs.YtlaknbcmidjiaaaDoor Go.RowKit
set_option linter.unusedVariables false

def rowI (h : List AO) : V → Option (Prop × Nat × (Nat → Int))
  | .c (.sl id 1 0 n) => match nth .gone h id with
    | .row _ 1 m f => some (m = n ∧ ∀ e, e < n → f e 0 = .p (.i .i64 (intOfP (unP (f e 0)))), n, fun e => intOfP (unP (f e 0)))
    | _ => none
  | _ => none
def mVerd : ModH
  | [.c (.p (.l 1 n f)), .c (.p (.i .i64 5))], h => some ((IsI n f ∧ ∀ e, inR .i64 (iF f e)) ∧ n ≤ 9223372036854775807, .c (.sl (lenL h) 1 0 (min n 5)), snoc (.row 3 1 (min n 5) fun e _ => .p (.i .i64 (vF (iF f) e))) h)
  | _, _ => none
def mAHyst : ModH
  | [x, y], h => match rowI h x, rowI h y with
    | some (p, n, F), some (q, m, H) => some ((p ∧ q) ∧ n ≤ 5 ∧ m ≤ 5, listV encI 1 (hystL F H (min n m)), h)
    | _, _ => none
  | _, _ => none
def mSameI : Mod
  | [.c (.p (.l 1 n f)), .c (.p (.l 1 m g))] => some ((IsI n f ∧ IsI m g) ∧ n ≤ 1000000 ∧ m ≤ 1000000, bV (decide (n = m) && agreeB (iF f) (iF g) n))
  | _ => none
def extHy : Ext := extH [(23, mVerd), (25, mAHyst), (26, mAHyst), (24, liftM mSameI), (27, liftM mAround), (17, liftM mLives)]

theorem tY (la lb : Nat) (g h : Nat → Int) (at_ n : Int) : exTs extHy (pcs Tryd.prog Tryd.f6) (st0 Tryd.f6 [iV1 la g, iV1 lb h, iV at_, iV n]) (endG [] (resOf Tryd.prog Tryd.f6)) = Tr.rq (((IsI la fun e x => PV.i IntKind.i64 (g e)) ∧ ∀ (e : Nat), inR IntKind.i64 (iF (fun e x => PV.i IntKind.i64 (g e)) e)) ∧ la ≤ 9223372036854775807)
    (Tr.rq (((IsI lb fun e x => PV.i IntKind.i64 (h e)) ∧ ∀ (e : Nat), inR IntKind.i64 (iF (fun e x => PV.i IntKind.i64 (h e)) e)) ∧ lb ≤ 9223372036854775807)
      (Tr.rq
        (((min la 5 = min la 5 ∧
              ∀ (e : Nat),
                e < min la 5 →
                  C.p (PV.i IntKind.i64 (vF (iF fun e x => PV.i IntKind.i64 (g e)) e)) = C.p (PV.i IntKind.i64 (intOfP (unP (C.p (PV.i IntKind.i64 (vF (iF fun e x => PV.i IntKind.i64 (g e)) e))))))) ∧
            min lb 5 = min lb 5 ∧
              ∀ (e : Nat),
                e < min lb 5 →
                  C.p (PV.i IntKind.i64 (vF (iF fun e x => PV.i IntKind.i64 (h e)) e)) = C.p (PV.i IntKind.i64 (intOfP (unP (C.p (PV.i IntKind.i64 (vF (iF fun e x => PV.i IntKind.i64 (h e)) e))))))) ∧
          min la 5 ≤ 5 ∧ min lb 5 ≤ 5)
        (Tr.rq
          (((min la 5 = min la 5 ∧
                ∀ (e : Nat),
                  e < min la 5 →
                    C.p (PV.i IntKind.i64 (vF (iF fun e x => PV.i IntKind.i64 (g e)) e)) = C.p (PV.i IntKind.i64 (intOfP (unP (C.p (PV.i IntKind.i64 (vF (iF fun e x => PV.i IntKind.i64 (g e)) e))))))) ∧
              min lb 5 = min lb 5 ∧
                ∀ (e : Nat),
                  e < min lb 5 →
                    C.p (PV.i IntKind.i64 (vF (iF fun e x => PV.i IntKind.i64 (h e)) e)) = C.p (PV.i IntKind.i64 (intOfP (unP (C.p (PV.i IntKind.i64 (vF (iF fun e x => PV.i IntKind.i64 (h e)) e))))))) ∧
            min la 5 ≤ 5 ∧ min lb 5 ≤ 5)
          (Tr.rq
            ((IsI
                  (hystL (fun e => intOfP (unP (C.p (PV.i IntKind.i64 (vF (iF fun e x => PV.i IntKind.i64 (g e)) e)))))
                      (fun e => intOfP (unP (C.p (PV.i IntKind.i64 (vF (iF fun e x => PV.i IntKind.i64 (h e)) e))))) (min (min la 5) (min lb 5))).length
                  (rowP encI
                    (hystL (fun e => intOfP (unP (C.p (PV.i IntKind.i64 (vF (iF fun e x => PV.i IntKind.i64 (g e)) e)))))
                      (fun e => intOfP (unP (C.p (PV.i IntKind.i64 (vF (iF fun e x => PV.i IntKind.i64 (h e)) e))))) (min (min la 5) (min lb 5)))) ∧
                IsI
                  (hystL (fun e => intOfP (unP (C.p (PV.i IntKind.i64 (vF (iF fun e x => PV.i IntKind.i64 (g e)) e)))))
                      (fun e => intOfP (unP (C.p (PV.i IntKind.i64 (vF (iF fun e x => PV.i IntKind.i64 (h e)) e))))) (min (min la 5) (min lb 5))).length
                  (rowP encI
                    (hystL (fun e => intOfP (unP (C.p (PV.i IntKind.i64 (vF (iF fun e x => PV.i IntKind.i64 (g e)) e)))))
                      (fun e => intOfP (unP (C.p (PV.i IntKind.i64 (vF (iF fun e x => PV.i IntKind.i64 (h e)) e))))) (min (min la 5) (min lb 5))))) ∧
              (hystL (fun e => intOfP (unP (C.p (PV.i IntKind.i64 (vF (iF fun e x => PV.i IntKind.i64 (g e)) e)))))
                      (fun e => intOfP (unP (C.p (PV.i IntKind.i64 (vF (iF fun e x => PV.i IntKind.i64 (h e)) e))))) (min (min la 5) (min lb 5))).length ≤
                  1000000 ∧
                (hystL (fun e => intOfP (unP (C.p (PV.i IntKind.i64 (vF (iF fun e x => PV.i IntKind.i64 (g e)) e)))))
                      (fun e => intOfP (unP (C.p (PV.i IntKind.i64 (vF (iF fun e x => PV.i IntKind.i64 (h e)) e))))) (min (min la 5) (min lb 5))).length ≤
                  1000000)
            (bT
              (!(decide
                    ((hystL (fun e => intOfP (unP (C.p (PV.i IntKind.i64 (vF (iF fun e x => PV.i IntKind.i64 (g e)) e)))))
                          (fun e => intOfP (unP (C.p (PV.i IntKind.i64 (vF (iF fun e x => PV.i IntKind.i64 (h e)) e))))) (min (min la 5) (min lb 5))).length =
                      (hystL (fun e => intOfP (unP (C.p (PV.i IntKind.i64 (vF (iF fun e x => PV.i IntKind.i64 (g e)) e)))))
                          (fun e => intOfP (unP (C.p (PV.i IntKind.i64 (vF (iF fun e x => PV.i IntKind.i64 (h e)) e))))) (min (min la 5) (min lb 5))).length) &&
                  agreeB
                    (iF
                      (rowP encI
                        (hystL (fun e => intOfP (unP (C.p (PV.i IntKind.i64 (vF (iF fun e x => PV.i IntKind.i64 (g e)) e)))))
                          (fun e => intOfP (unP (C.p (PV.i IntKind.i64 (vF (iF fun e x => PV.i IntKind.i64 (h e)) e))))) (min (min la 5) (min lb 5)))))
                    (iF
                      (rowP encI
                        (hystL (fun e => intOfP (unP (C.p (PV.i IntKind.i64 (vF (iF fun e x => PV.i IntKind.i64 (g e)) e)))))
                          (fun e => intOfP (unP (C.p (PV.i IntKind.i64 (vF (iF fun e x => PV.i IntKind.i64 (h e)) e))))) (min (min la 5) (min lb 5)))))
                    (hystL (fun e => intOfP (unP (C.p (PV.i IntKind.i64 (vF (iF fun e x => PV.i IntKind.i64 (g e)) e)))))
                        (fun e => intOfP (unP (C.p (PV.i IntKind.i64 (vF (iF fun e x => PV.i IntKind.i64 (h e)) e))))) (min (min la 5) (min lb 5))).length))
              (Tr.done X.ret (St.mk [V.c (C.p (PV.b false))] []))
              (bT (decide (0 < (↑(min la 5) : Int)))
                (Tr.rq (inR IntKind.i64 at_ ∧ 0 < (↑(min la 5) : Int))
                  (Tr.rq (0 ≤ aroundZ at_ (↑(min la 5) : Int) ∧ aroundZ at_ (↑(min la 5) : Int) < (↑(min la 5) : Int))
                    (Tr.rq ((aroundZ at_ (↑(min la 5) : Int)).toNat + 0 < min la 5)
                      (Tr.rq
                        (((min la 5 = min la 5 ∧
                              ∀ (e : Nat),
                                e < min la 5 →
                                  (if e = (aroundZ at_ (↑(min la 5) : Int)).toNat + 0 then
                                      if 0 ≤ 0 ∧ 0 < 1 then nth C.top [C.p (PV.i IntKind.i64 n)] 0 else C.p (PV.i IntKind.i64 (vF (iF fun e x => PV.i IntKind.i64 (g e)) e))
                                    else C.p (PV.i IntKind.i64 (vF (iF fun e x => PV.i IntKind.i64 (g e)) e))) =
                                    C.p
                                      (PV.i IntKind.i64
                                        (intOfP
                                          (unP
                                            (if e = (aroundZ at_ (↑(min la 5) : Int)).toNat + 0 then
                                              if 0 ≤ 0 ∧ 0 < 1 then nth C.top [C.p (PV.i IntKind.i64 n)] 0 else C.p (PV.i IntKind.i64 (vF (iF fun e x => PV.i IntKind.i64 (g e)) e))
                                            else C.p (PV.i IntKind.i64 (vF (iF fun e x => PV.i IntKind.i64 (g e)) e))))))) ∧
                            min lb 5 = min lb 5 ∧
                              ∀ (e : Nat),
                                e < min lb 5 →
                                  C.p (PV.i IntKind.i64 (vF (iF fun e x => PV.i IntKind.i64 (h e)) e)) =
                                    C.p (PV.i IntKind.i64 (intOfP (unP (C.p (PV.i IntKind.i64 (vF (iF fun e x => PV.i IntKind.i64 (h e)) e))))))) ∧
                          min la 5 ≤ 5 ∧ min lb 5 ≤ 5)
                        (Tr.rq
                          (((min la 5 = min la 5 ∧
                                ∀ (e : Nat),
                                  e < min la 5 →
                                    (if e = (aroundZ at_ (↑(min la 5) : Int)).toNat + 0 then
                                        if 0 ≤ 0 ∧ 0 < 1 then nth C.top [C.p (PV.i IntKind.i64 n)] 0 else C.p (PV.i IntKind.i64 (vF (iF fun e x => PV.i IntKind.i64 (g e)) e))
                                      else C.p (PV.i IntKind.i64 (vF (iF fun e x => PV.i IntKind.i64 (g e)) e))) =
                                      C.p
                                        (PV.i IntKind.i64
                                          (intOfP
                                            (unP
                                              (if e = (aroundZ at_ (↑(min la 5) : Int)).toNat + 0 then
                                                if 0 ≤ 0 ∧ 0 < 1 then nth C.top [C.p (PV.i IntKind.i64 n)] 0 else C.p (PV.i IntKind.i64 (vF (iF fun e x => PV.i IntKind.i64 (g e)) e))
                                              else C.p (PV.i IntKind.i64 (vF (iF fun e x => PV.i IntKind.i64 (g e)) e))))))) ∧
                              min lb 5 = min lb 5 ∧
                                ∀ (e : Nat),
                                  e < min lb 5 →
                                    C.p (PV.i IntKind.i64 (vF (iF fun e x => PV.i IntKind.i64 (h e)) e)) =
                                      C.p (PV.i IntKind.i64 (intOfP (unP (C.p (PV.i IntKind.i64 (vF (iF fun e x => PV.i IntKind.i64 (h e)) e))))))) ∧
                            min la 5 ≤ 5 ∧ min lb 5 ≤ 5)
                          (Tr.rq
                            ((IsI
                                  (hystL
                                      (fun e =>
                                        intOfP
                                          (unP
                                            (if e = (aroundZ at_ (↑(min la 5) : Int)).toNat + 0 then
                                              if 0 ≤ 0 ∧ 0 < 1 then nth C.top [C.p (PV.i IntKind.i64 n)] 0 else C.p (PV.i IntKind.i64 (vF (iF fun e x => PV.i IntKind.i64 (g e)) e))
                                            else C.p (PV.i IntKind.i64 (vF (iF fun e x => PV.i IntKind.i64 (g e)) e)))))
                                      (fun e => intOfP (unP (C.p (PV.i IntKind.i64 (vF (iF fun e x => PV.i IntKind.i64 (h e)) e))))) (min (min la 5) (min lb 5))).length
                                  (rowP encI
                                    (hystL
                                      (fun e =>
                                        intOfP
                                          (unP
                                            (if e = (aroundZ at_ (↑(min la 5) : Int)).toNat + 0 then
                                              if 0 ≤ 0 ∧ 0 < 1 then nth C.top [C.p (PV.i IntKind.i64 n)] 0 else C.p (PV.i IntKind.i64 (vF (iF fun e x => PV.i IntKind.i64 (g e)) e))
                                            else C.p (PV.i IntKind.i64 (vF (iF fun e x => PV.i IntKind.i64 (g e)) e)))))
                                      (fun e => intOfP (unP (C.p (PV.i IntKind.i64 (vF (iF fun e x => PV.i IntKind.i64 (h e)) e))))) (min (min la 5) (min lb 5)))) ∧
                                IsI
                                  (hystL
                                      (fun e =>
                                        intOfP
                                          (unP
                                            (if e = (aroundZ at_ (↑(min la 5) : Int)).toNat + 0 then
                                              if 0 ≤ 0 ∧ 0 < 1 then nth C.top [C.p (PV.i IntKind.i64 n)] 0 else C.p (PV.i IntKind.i64 (vF (iF fun e x => PV.i IntKind.i64 (g e)) e))
                                            else C.p (PV.i IntKind.i64 (vF (iF fun e x => PV.i IntKind.i64 (g e)) e)))))
                                      (fun e => intOfP (unP (C.p (PV.i IntKind.i64 (vF (iF fun e x => PV.i IntKind.i64 (h e)) e))))) (min (min la 5) (min lb 5))).length
                                  (rowP encI
                                    (hystL
                                      (fun e =>
                                        intOfP
                                          (unP
                                            (if e = (aroundZ at_ (↑(min la 5) : Int)).toNat + 0 then
                                              if 0 ≤ 0 ∧ 0 < 1 then nth C.top [C.p (PV.i IntKind.i64 n)] 0 else C.p (PV.i IntKind.i64 (vF (iF fun e x => PV.i IntKind.i64 (g e)) e))
                                            else C.p (PV.i IntKind.i64 (vF (iF fun e x => PV.i IntKind.i64 (g e)) e)))))
                                      (fun e => intOfP (unP (C.p (PV.i IntKind.i64 (vF (iF fun e x => PV.i IntKind.i64 (h e)) e))))) (min (min la 5) (min lb 5))))) ∧
                              (hystL
                                      (fun e =>
                                        intOfP
                                          (unP
                                            (if e = (aroundZ at_ (↑(min la 5) : Int)).toNat + 0 then
                                              if 0 ≤ 0 ∧ 0 < 1 then nth C.top [C.p (PV.i IntKind.i64 n)] 0 else C.p (PV.i IntKind.i64 (vF (iF fun e x => PV.i IntKind.i64 (g e)) e))
                                            else C.p (PV.i IntKind.i64 (vF (iF fun e x => PV.i IntKind.i64 (g e)) e)))))
                                      (fun e => intOfP (unP (C.p (PV.i IntKind.i64 (vF (iF fun e x => PV.i IntKind.i64 (h e)) e))))) (min (min la 5) (min lb 5))).length ≤
                                  1000000 ∧
                                (hystL
                                      (fun e =>
                                        intOfP
                                          (unP
                                            (if e = (aroundZ at_ (↑(min la 5) : Int)).toNat + 0 then
                                              if 0 ≤ 0 ∧ 0 < 1 then nth C.top [C.p (PV.i IntKind.i64 n)] 0 else C.p (PV.i IntKind.i64 (vF (iF fun e x => PV.i IntKind.i64 (g e)) e))
                                            else C.p (PV.i IntKind.i64 (vF (iF fun e x => PV.i IntKind.i64 (g e)) e)))))
                                      (fun e => intOfP (unP (C.p (PV.i IntKind.i64 (vF (iF fun e x => PV.i IntKind.i64 (h e)) e))))) (min (min la 5) (min lb 5))).length ≤
                                  1000000)
                            (bT
                              (decide
                                  ((hystL
                                        (fun e =>
                                          intOfP
                                            (unP
                                              (if e = (aroundZ at_ (↑(min la 5) : Int)).toNat + 0 then
                                                if 0 ≤ 0 ∧ 0 < 1 then nth C.top [C.p (PV.i IntKind.i64 n)] 0 else C.p (PV.i IntKind.i64 (vF (iF fun e x => PV.i IntKind.i64 (g e)) e))
                                              else C.p (PV.i IntKind.i64 (vF (iF fun e x => PV.i IntKind.i64 (g e)) e)))))
                                        (fun e => intOfP (unP (C.p (PV.i IntKind.i64 (vF (iF fun e x => PV.i IntKind.i64 (h e)) e))))) (min (min la 5) (min lb 5))).length =
                                    (hystL
                                        (fun e =>
                                          intOfP
                                            (unP
                                              (if e = (aroundZ at_ (↑(min la 5) : Int)).toNat + 0 then
                                                if 0 ≤ 0 ∧ 0 < 1 then nth C.top [C.p (PV.i IntKind.i64 n)] 0 else C.p (PV.i IntKind.i64 (vF (iF fun e x => PV.i IntKind.i64 (g e)) e))
                                              else C.p (PV.i IntKind.i64 (vF (iF fun e x => PV.i IntKind.i64 (g e)) e)))))
                                        (fun e => intOfP (unP (C.p (PV.i IntKind.i64 (vF (iF fun e x => PV.i IntKind.i64 (h e)) e))))) (min (min la 5) (min lb 5))).length) &&
                                agreeB
                                  (iF
                                    (rowP encI
                                      (hystL
                                        (fun e =>
                                          intOfP
                                            (unP
                                              (if e = (aroundZ at_ (↑(min la 5) : Int)).toNat + 0 then
                                                if 0 ≤ 0 ∧ 0 < 1 then nth C.top [C.p (PV.i IntKind.i64 n)] 0 else C.p (PV.i IntKind.i64 (vF (iF fun e x => PV.i IntKind.i64 (g e)) e))
                                              else C.p (PV.i IntKind.i64 (vF (iF fun e x => PV.i IntKind.i64 (g e)) e)))))
                                        (fun e => intOfP (unP (C.p (PV.i IntKind.i64 (vF (iF fun e x => PV.i IntKind.i64 (h e)) e))))) (min (min la 5) (min lb 5)))))
                                  (iF
                                    (rowP encI
                                      (hystL
                                        (fun e =>
                                          intOfP
                                            (unP
                                              (if e = (aroundZ at_ (↑(min la 5) : Int)).toNat + 0 then
                                                if 0 ≤ 0 ∧ 0 < 1 then nth C.top [C.p (PV.i IntKind.i64 n)] 0 else C.p (PV.i IntKind.i64 (vF (iF fun e x => PV.i IntKind.i64 (g e)) e))
                                              else C.p (PV.i IntKind.i64 (vF (iF fun e x => PV.i IntKind.i64 (g e)) e)))))
                                        (fun e => intOfP (unP (C.p (PV.i IntKind.i64 (vF (iF fun e x => PV.i IntKind.i64 (h e)) e))))) (min (min la 5) (min lb 5)))))
                                  (hystL
                                      (fun e =>
                                        intOfP
                                          (unP
                                            (if e = (aroundZ at_ (↑(min la 5) : Int)).toNat + 0 then
                                              if 0 ≤ 0 ∧ 0 < 1 then nth C.top [C.p (PV.i IntKind.i64 n)] 0 else C.p (PV.i IntKind.i64 (vF (iF fun e x => PV.i IntKind.i64 (g e)) e))
                                            else C.p (PV.i IntKind.i64 (vF (iF fun e x => PV.i IntKind.i64 (g e)) e)))))
                                      (fun e => intOfP (unP (C.p (PV.i IntKind.i64 (vF (iF fun e x => PV.i IntKind.i64 (h e)) e))))) (min (min la 5) (min lb 5))).length)
                              (Tr.rq
                                (((min lb 5 = min lb 5 ∧
                                      ∀ (e : Nat),
                                        e < min lb 5 →
                                          C.p (PV.i IntKind.i64 (vF (iF fun e x => PV.i IntKind.i64 (h e)) e)) =
                                            C.p (PV.i IntKind.i64 (intOfP (unP (C.p (PV.i IntKind.i64 (vF (iF fun e x => PV.i IntKind.i64 (h e)) e))))))) ∧
                                    min la 5 = min la 5 ∧
                                      ∀ (e : Nat),
                                        e < min la 5 →
                                          (if e = (aroundZ at_ (↑(min la 5) : Int)).toNat + 0 then
                                              if 0 ≤ 0 ∧ 0 < 1 then nth C.top [C.p (PV.i IntKind.i64 n)] 0 else C.p (PV.i IntKind.i64 (vF (iF fun e x => PV.i IntKind.i64 (g e)) e))
                                            else C.p (PV.i IntKind.i64 (vF (iF fun e x => PV.i IntKind.i64 (g e)) e))) =
                                            C.p
                                              (PV.i IntKind.i64
                                                (intOfP
                                                  (unP
                                                    (if e = (aroundZ at_ (↑(min la 5) : Int)).toNat + 0 then
                                                      if 0 ≤ 0 ∧ 0 < 1 then nth C.top [C.p (PV.i IntKind.i64 n)] 0 else C.p (PV.i IntKind.i64 (vF (iF fun e x => PV.i IntKind.i64 (g e)) e))
                                                    else C.p (PV.i IntKind.i64 (vF (iF fun e x => PV.i IntKind.i64 (g e)) e))))))) ∧
                                  min lb 5 ≤ 5 ∧ min la 5 ≤ 5)
                                (Tr.rq
                                  (((min lb 5 = min lb 5 ∧
                                        ∀ (e : Nat),
                                          e < min lb 5 →
                                            C.p (PV.i IntKind.i64 (vF (iF fun e x => PV.i IntKind.i64 (h e)) e)) =
                                              C.p (PV.i IntKind.i64 (intOfP (unP (C.p (PV.i IntKind.i64 (vF (iF fun e x => PV.i IntKind.i64 (h e)) e))))))) ∧
                                      min la 5 = min la 5 ∧
                                        ∀ (e : Nat),
                                          e < min la 5 →
                                            (if e = (aroundZ at_ (↑(min la 5) : Int)).toNat + 0 then
                                                if 0 ≤ 0 ∧ 0 < 1 then nth C.top [C.p (PV.i IntKind.i64 n)] 0 else C.p (PV.i IntKind.i64 (vF (iF fun e x => PV.i IntKind.i64 (g e)) e))
                                              else C.p (PV.i IntKind.i64 (vF (iF fun e x => PV.i IntKind.i64 (g e)) e))) =
                                              C.p
                                                (PV.i IntKind.i64
                                                  (intOfP
                                                    (unP
                                                      (if e = (aroundZ at_ (↑(min la 5) : Int)).toNat + 0 then
                                                        if 0 ≤ 0 ∧ 0 < 1 then nth C.top [C.p (PV.i IntKind.i64 n)] 0 else C.p (PV.i IntKind.i64 (vF (iF fun e x => PV.i IntKind.i64 (g e)) e))
                                                      else C.p (PV.i IntKind.i64 (vF (iF fun e x => PV.i IntKind.i64 (g e)) e))))))) ∧
                                    min lb 5 ≤ 5 ∧ min la 5 ≤ 5)
                                  (Tr.rq
                                    ((IsI
                                          (hystL (fun e => intOfP (unP (C.p (PV.i IntKind.i64 (vF (iF fun e x => PV.i IntKind.i64 (h e)) e)))))
                                              (fun e =>
                                                intOfP
                                                  (unP
                                                    (if e = (aroundZ at_ (↑(min la 5) : Int)).toNat + 0 then
                                                      if 0 ≤ 0 ∧ 0 < 1 then nth C.top [C.p (PV.i IntKind.i64 n)] 0 else C.p (PV.i IntKind.i64 (vF (iF fun e x => PV.i IntKind.i64 (g e)) e))
                                                    else C.p (PV.i IntKind.i64 (vF (iF fun e x => PV.i IntKind.i64 (g e)) e)))))
                                              (min (min lb 5) (min la 5))).length
                                          (rowP encI
                                            (hystL (fun e => intOfP (unP (C.p (PV.i IntKind.i64 (vF (iF fun e x => PV.i IntKind.i64 (h e)) e)))))
                                              (fun e =>
                                                intOfP
                                                  (unP
                                                    (if e = (aroundZ at_ (↑(min la 5) : Int)).toNat + 0 then
                                                      if 0 ≤ 0 ∧ 0 < 1 then nth C.top [C.p (PV.i IntKind.i64 n)] 0 else C.p (PV.i IntKind.i64 (vF (iF fun e x => PV.i IntKind.i64 (g e)) e))
                                                    else C.p (PV.i IntKind.i64 (vF (iF fun e x => PV.i IntKind.i64 (g e)) e)))))
                                              (min (min lb 5) (min la 5)))) ∧
                                        IsI
                                          (hystL (fun e => intOfP (unP (C.p (PV.i IntKind.i64 (vF (iF fun e x => PV.i IntKind.i64 (h e)) e)))))
                                              (fun e =>
                                                intOfP
                                                  (unP
                                                    (if e = (aroundZ at_ (↑(min la 5) : Int)).toNat + 0 then
                                                      if 0 ≤ 0 ∧ 0 < 1 then nth C.top [C.p (PV.i IntKind.i64 n)] 0 else C.p (PV.i IntKind.i64 (vF (iF fun e x => PV.i IntKind.i64 (g e)) e))
                                                    else C.p (PV.i IntKind.i64 (vF (iF fun e x => PV.i IntKind.i64 (g e)) e)))))
                                              (min (min lb 5) (min la 5))).length
                                          (rowP encI
                                            (hystL (fun e => intOfP (unP (C.p (PV.i IntKind.i64 (vF (iF fun e x => PV.i IntKind.i64 (h e)) e)))))
                                              (fun e =>
                                                intOfP
                                                  (unP
                                                    (if e = (aroundZ at_ (↑(min la 5) : Int)).toNat + 0 then
                                                      if 0 ≤ 0 ∧ 0 < 1 then nth C.top [C.p (PV.i IntKind.i64 n)] 0 else C.p (PV.i IntKind.i64 (vF (iF fun e x => PV.i IntKind.i64 (g e)) e))
                                                    else C.p (PV.i IntKind.i64 (vF (iF fun e x => PV.i IntKind.i64 (g e)) e)))))
                                              (min (min lb 5) (min la 5))))) ∧
                                      (hystL (fun e => intOfP (unP (C.p (PV.i IntKind.i64 (vF (iF fun e x => PV.i IntKind.i64 (h e)) e)))))
                                              (fun e =>
                                                intOfP
                                                  (unP
                                                    (if e = (aroundZ at_ (↑(min la 5) : Int)).toNat + 0 then
                                                      if 0 ≤ 0 ∧ 0 < 1 then nth C.top [C.p (PV.i IntKind.i64 n)] 0 else C.p (PV.i IntKind.i64 (vF (iF fun e x => PV.i IntKind.i64 (g e)) e))
                                                    else C.p (PV.i IntKind.i64 (vF (iF fun e x => PV.i IntKind.i64 (g e)) e)))))
                                              (min (min lb 5) (min la 5))).length ≤
                                          1000000 ∧
                                        (hystL (fun e => intOfP (unP (C.p (PV.i IntKind.i64 (vF (iF fun e x => PV.i IntKind.i64 (h e)) e)))))
                                              (fun e =>
                                                intOfP
                                                  (unP
                                                    (if e = (aroundZ at_ (↑(min la 5) : Int)).toNat + 0 then
                                                      if 0 ≤ 0 ∧ 0 < 1 then nth C.top [C.p (PV.i IntKind.i64 n)] 0 else C.p (PV.i IntKind.i64 (vF (iF fun e x => PV.i IntKind.i64 (g e)) e))
                                                    else C.p (PV.i IntKind.i64 (vF (iF fun e x => PV.i IntKind.i64 (g e)) e)))))
                                              (min (min lb 5) (min la 5))).length ≤
                                          1000000)
                                    (bT
                                      (decide
                                          ((hystL (fun e => intOfP (unP (C.p (PV.i IntKind.i64 (vF (iF fun e x => PV.i IntKind.i64 (h e)) e)))))
                                                (fun e =>
                                                  intOfP
                                                    (unP
                                                      (if e = (aroundZ at_ (↑(min la 5) : Int)).toNat + 0 then
                                                        if 0 ≤ 0 ∧ 0 < 1 then nth C.top [C.p (PV.i IntKind.i64 n)] 0 else C.p (PV.i IntKind.i64 (vF (iF fun e x => PV.i IntKind.i64 (g e)) e))
                                                      else C.p (PV.i IntKind.i64 (vF (iF fun e x => PV.i IntKind.i64 (g e)) e)))))
                                                (min (min lb 5) (min la 5))).length =
                                            (hystL (fun e => intOfP (unP (C.p (PV.i IntKind.i64 (vF (iF fun e x => PV.i IntKind.i64 (h e)) e)))))
                                                (fun e =>
                                                  intOfP
                                                    (unP
                                                      (if e = (aroundZ at_ (↑(min la 5) : Int)).toNat + 0 then
                                                        if 0 ≤ 0 ∧ 0 < 1 then nth C.top [C.p (PV.i IntKind.i64 n)] 0 else C.p (PV.i IntKind.i64 (vF (iF fun e x => PV.i IntKind.i64 (g e)) e))
                                                      else C.p (PV.i IntKind.i64 (vF (iF fun e x => PV.i IntKind.i64 (g e)) e)))))
                                                (min (min lb 5) (min la 5))).length) &&
                                        agreeB
                                          (iF
                                            (rowP encI
                                              (hystL (fun e => intOfP (unP (C.p (PV.i IntKind.i64 (vF (iF fun e x => PV.i IntKind.i64 (h e)) e)))))
                                                (fun e =>
                                                  intOfP
                                                    (unP
                                                      (if e = (aroundZ at_ (↑(min la 5) : Int)).toNat + 0 then
                                                        if 0 ≤ 0 ∧ 0 < 1 then nth C.top [C.p (PV.i IntKind.i64 n)] 0 else C.p (PV.i IntKind.i64 (vF (iF fun e x => PV.i IntKind.i64 (g e)) e))
                                                      else C.p (PV.i IntKind.i64 (vF (iF fun e x => PV.i IntKind.i64 (g e)) e)))))
                                                (min (min lb 5) (min la 5)))))
                                          (iF
                                            (rowP encI
                                              (hystL (fun e => intOfP (unP (C.p (PV.i IntKind.i64 (vF (iF fun e x => PV.i IntKind.i64 (h e)) e)))))
                                                (fun e =>
                                                  intOfP
                                                    (unP
                                                      (if e = (aroundZ at_ (↑(min la 5) : Int)).toNat + 0 then
                                                        if 0 ≤ 0 ∧ 0 < 1 then nth C.top [C.p (PV.i IntKind.i64 n)] 0 else C.p (PV.i IntKind.i64 (vF (iF fun e x => PV.i IntKind.i64 (g e)) e))
                                                      else C.p (PV.i IntKind.i64 (vF (iF fun e x => PV.i IntKind.i64 (g e)) e)))))
                                                (min (min lb 5) (min la 5)))))
                                          (hystL (fun e => intOfP (unP (C.p (PV.i IntKind.i64 (vF (iF fun e x => PV.i IntKind.i64 (h e)) e)))))
                                              (fun e =>
                                                intOfP
                                                  (unP
                                                    (if e = (aroundZ at_ (↑(min la 5) : Int)).toNat + 0 then
                                                      if 0 ≤ 0 ∧ 0 < 1 then nth C.top [C.p (PV.i IntKind.i64 n)] 0 else C.p (PV.i IntKind.i64 (vF (iF fun e x => PV.i IntKind.i64 (g e)) e))
                                                    else C.p (PV.i IntKind.i64 (vF (iF fun e x => PV.i IntKind.i64 (g e)) e)))))
                                              (min (min lb 5) (min la 5))).length)
                                      (Tr.rq True (Tr.done X.ret (St.mk [V.c (C.p (PV.b true))] []))) (Tr.done X.ret (St.mk [V.c (C.p (PV.b false))] []))))))
                              (Tr.done X.ret (St.mk [V.c (C.p (PV.b false))] [])))))))))
                (Tr.rq
                  (((min la 5 = min la 5 ∧
                        ∀ (e : Nat),
                          e < min la 5 →
                            C.p (PV.i IntKind.i64 (vF (iF fun e x => PV.i IntKind.i64 (g e)) e)) =
                              C.p (PV.i IntKind.i64 (intOfP (unP (C.p (PV.i IntKind.i64 (vF (iF fun e x => PV.i IntKind.i64 (g e)) e))))))) ∧
                      min lb 5 = min lb 5 ∧
                        ∀ (e : Nat),
                          e < min lb 5 →
                            C.p (PV.i IntKind.i64 (vF (iF fun e x => PV.i IntKind.i64 (h e)) e)) =
                              C.p (PV.i IntKind.i64 (intOfP (unP (C.p (PV.i IntKind.i64 (vF (iF fun e x => PV.i IntKind.i64 (h e)) e))))))) ∧
                    min la 5 ≤ 5 ∧ min lb 5 ≤ 5)
                  (Tr.rq
                    (((min la 5 = min la 5 ∧
                          ∀ (e : Nat),
                            e < min la 5 →
                              C.p (PV.i IntKind.i64 (vF (iF fun e x => PV.i IntKind.i64 (g e)) e)) =
                                C.p (PV.i IntKind.i64 (intOfP (unP (C.p (PV.i IntKind.i64 (vF (iF fun e x => PV.i IntKind.i64 (g e)) e))))))) ∧
                        min lb 5 = min lb 5 ∧
                          ∀ (e : Nat),
                            e < min lb 5 →
                              C.p (PV.i IntKind.i64 (vF (iF fun e x => PV.i IntKind.i64 (h e)) e)) =
                                C.p (PV.i IntKind.i64 (intOfP (unP (C.p (PV.i IntKind.i64 (vF (iF fun e x => PV.i IntKind.i64 (h e)) e))))))) ∧
                      min la 5 ≤ 5 ∧ min lb 5 ≤ 5)
                    (Tr.rq
                      ((IsI
                            (hystL (fun e => intOfP (unP (C.p (PV.i IntKind.i64 (vF (iF fun e x => PV.i IntKind.i64 (g e)) e)))))
                                (fun e => intOfP (unP (C.p (PV.i IntKind.i64 (vF (iF fun e x => PV.i IntKind.i64 (h e)) e))))) (min (min la 5) (min lb 5))).length
                            (rowP encI
                              (hystL (fun e => intOfP (unP (C.p (PV.i IntKind.i64 (vF (iF fun e x => PV.i IntKind.i64 (g e)) e)))))
                                (fun e => intOfP (unP (C.p (PV.i IntKind.i64 (vF (iF fun e x => PV.i IntKind.i64 (h e)) e))))) (min (min la 5) (min lb 5)))) ∧
                          IsI
                            (hystL (fun e => intOfP (unP (C.p (PV.i IntKind.i64 (vF (iF fun e x => PV.i IntKind.i64 (g e)) e)))))
                                (fun e => intOfP (unP (C.p (PV.i IntKind.i64 (vF (iF fun e x => PV.i IntKind.i64 (h e)) e))))) (min (min la 5) (min lb 5))).length
                            (rowP encI
                              (hystL (fun e => intOfP (unP (C.p (PV.i IntKind.i64 (vF (iF fun e x => PV.i IntKind.i64 (g e)) e)))))
                                (fun e => intOfP (unP (C.p (PV.i IntKind.i64 (vF (iF fun e x => PV.i IntKind.i64 (h e)) e))))) (min (min la 5) (min lb 5))))) ∧
                        (hystL (fun e => intOfP (unP (C.p (PV.i IntKind.i64 (vF (iF fun e x => PV.i IntKind.i64 (g e)) e)))))
                                (fun e => intOfP (unP (C.p (PV.i IntKind.i64 (vF (iF fun e x => PV.i IntKind.i64 (h e)) e))))) (min (min la 5) (min lb 5))).length ≤
                            1000000 ∧
                          (hystL (fun e => intOfP (unP (C.p (PV.i IntKind.i64 (vF (iF fun e x => PV.i IntKind.i64 (g e)) e)))))
                                (fun e => intOfP (unP (C.p (PV.i IntKind.i64 (vF (iF fun e x => PV.i IntKind.i64 (h e)) e))))) (min (min la 5) (min lb 5))).length ≤
                            1000000)
                      (bT
                        (decide
                            ((hystL (fun e => intOfP (unP (C.p (PV.i IntKind.i64 (vF (iF fun e x => PV.i IntKind.i64 (g e)) e)))))
                                  (fun e => intOfP (unP (C.p (PV.i IntKind.i64 (vF (iF fun e x => PV.i IntKind.i64 (h e)) e))))) (min (min la 5) (min lb 5))).length =
                              (hystL (fun e => intOfP (unP (C.p (PV.i IntKind.i64 (vF (iF fun e x => PV.i IntKind.i64 (g e)) e)))))
                                  (fun e => intOfP (unP (C.p (PV.i IntKind.i64 (vF (iF fun e x => PV.i IntKind.i64 (h e)) e))))) (min (min la 5) (min lb 5))).length) &&
                          agreeB
                            (iF
                              (rowP encI
                                (hystL (fun e => intOfP (unP (C.p (PV.i IntKind.i64 (vF (iF fun e x => PV.i IntKind.i64 (g e)) e)))))
                                  (fun e => intOfP (unP (C.p (PV.i IntKind.i64 (vF (iF fun e x => PV.i IntKind.i64 (h e)) e))))) (min (min la 5) (min lb 5)))))
                            (iF
                              (rowP encI
                                (hystL (fun e => intOfP (unP (C.p (PV.i IntKind.i64 (vF (iF fun e x => PV.i IntKind.i64 (g e)) e)))))
                                  (fun e => intOfP (unP (C.p (PV.i IntKind.i64 (vF (iF fun e x => PV.i IntKind.i64 (h e)) e))))) (min (min la 5) (min lb 5)))))
                            (hystL (fun e => intOfP (unP (C.p (PV.i IntKind.i64 (vF (iF fun e x => PV.i IntKind.i64 (g e)) e)))))
                                (fun e => intOfP (unP (C.p (PV.i IntKind.i64 (vF (iF fun e x => PV.i IntKind.i64 (h e)) e))))) (min (min la 5) (min lb 5))).length)
                        (Tr.rq
                          (((min lb 5 = min lb 5 ∧
                                ∀ (e : Nat),
                                  e < min lb 5 →
                                    C.p (PV.i IntKind.i64 (vF (iF fun e x => PV.i IntKind.i64 (h e)) e)) =
                                      C.p (PV.i IntKind.i64 (intOfP (unP (C.p (PV.i IntKind.i64 (vF (iF fun e x => PV.i IntKind.i64 (h e)) e))))))) ∧
                              min la 5 = min la 5 ∧
                                ∀ (e : Nat),
                                  e < min la 5 →
                                    C.p (PV.i IntKind.i64 (vF (iF fun e x => PV.i IntKind.i64 (g e)) e)) =
                                      C.p (PV.i IntKind.i64 (intOfP (unP (C.p (PV.i IntKind.i64 (vF (iF fun e x => PV.i IntKind.i64 (g e)) e))))))) ∧
                            min lb 5 ≤ 5 ∧ min la 5 ≤ 5)
                          (Tr.rq
                            (((min lb 5 = min lb 5 ∧
                                  ∀ (e : Nat),
                                    e < min lb 5 →
                                      C.p (PV.i IntKind.i64 (vF (iF fun e x => PV.i IntKind.i64 (h e)) e)) =
                                        C.p (PV.i IntKind.i64 (intOfP (unP (C.p (PV.i IntKind.i64 (vF (iF fun e x => PV.i IntKind.i64 (h e)) e))))))) ∧
                                min la 5 = min la 5 ∧
                                  ∀ (e : Nat),
                                    e < min la 5 →
                                      C.p (PV.i IntKind.i64 (vF (iF fun e x => PV.i IntKind.i64 (g e)) e)) =
                                        C.p (PV.i IntKind.i64 (intOfP (unP (C.p (PV.i IntKind.i64 (vF (iF fun e x => PV.i IntKind.i64 (g e)) e))))))) ∧
                              min lb 5 ≤ 5 ∧ min la 5 ≤ 5)
                            (Tr.rq
                              ((IsI
                                    (hystL (fun e => intOfP (unP (C.p (PV.i IntKind.i64 (vF (iF fun e x => PV.i IntKind.i64 (h e)) e)))))
                                        (fun e => intOfP (unP (C.p (PV.i IntKind.i64 (vF (iF fun e x => PV.i IntKind.i64 (g e)) e))))) (min (min lb 5) (min la 5))).length
                                    (rowP encI
                                      (hystL (fun e => intOfP (unP (C.p (PV.i IntKind.i64 (vF (iF fun e x => PV.i IntKind.i64 (h e)) e)))))
                                        (fun e => intOfP (unP (C.p (PV.i IntKind.i64 (vF (iF fun e x => PV.i IntKind.i64 (g e)) e))))) (min (min lb 5) (min la 5)))) ∧
                                  IsI
                                    (hystL (fun e => intOfP (unP (C.p (PV.i IntKind.i64 (vF (iF fun e x => PV.i IntKind.i64 (h e)) e)))))
                                        (fun e => intOfP (unP (C.p (PV.i IntKind.i64 (vF (iF fun e x => PV.i IntKind.i64 (g e)) e))))) (min (min lb 5) (min la 5))).length
                                    (rowP encI
                                      (hystL (fun e => intOfP (unP (C.p (PV.i IntKind.i64 (vF (iF fun e x => PV.i IntKind.i64 (h e)) e)))))
                                        (fun e => intOfP (unP (C.p (PV.i IntKind.i64 (vF (iF fun e x => PV.i IntKind.i64 (g e)) e))))) (min (min lb 5) (min la 5))))) ∧
                                (hystL (fun e => intOfP (unP (C.p (PV.i IntKind.i64 (vF (iF fun e x => PV.i IntKind.i64 (h e)) e)))))
                                        (fun e => intOfP (unP (C.p (PV.i IntKind.i64 (vF (iF fun e x => PV.i IntKind.i64 (g e)) e))))) (min (min lb 5) (min la 5))).length ≤
                                    1000000 ∧
                                  (hystL (fun e => intOfP (unP (C.p (PV.i IntKind.i64 (vF (iF fun e x => PV.i IntKind.i64 (h e)) e)))))
                                        (fun e => intOfP (unP (C.p (PV.i IntKind.i64 (vF (iF fun e x => PV.i IntKind.i64 (g e)) e))))) (min (min lb 5) (min la 5))).length ≤
                                    1000000)
                              (bT
                                (decide
                                    ((hystL (fun e => intOfP (unP (C.p (PV.i IntKind.i64 (vF (iF fun e x => PV.i IntKind.i64 (h e)) e)))))
                                          (fun e => intOfP (unP (C.p (PV.i IntKind.i64 (vF (iF fun e x => PV.i IntKind.i64 (g e)) e))))) (min (min lb 5) (min la 5))).length =
                                      (hystL (fun e => intOfP (unP (C.p (PV.i IntKind.i64 (vF (iF fun e x => PV.i IntKind.i64 (h e)) e)))))
                                          (fun e => intOfP (unP (C.p (PV.i IntKind.i64 (vF (iF fun e x => PV.i IntKind.i64 (g e)) e))))) (min (min lb 5) (min la 5))).length) &&
                                  agreeB
                                    (iF
                                      (rowP encI
                                        (hystL (fun e => intOfP (unP (C.p (PV.i IntKind.i64 (vF (iF fun e x => PV.i IntKind.i64 (h e)) e)))))
                                          (fun e => intOfP (unP (C.p (PV.i IntKind.i64 (vF (iF fun e x => PV.i IntKind.i64 (g e)) e))))) (min (min lb 5) (min la 5)))))
                                    (iF
                                      (rowP encI
                                        (hystL (fun e => intOfP (unP (C.p (PV.i IntKind.i64 (vF (iF fun e x => PV.i IntKind.i64 (h e)) e)))))
                                          (fun e => intOfP (unP (C.p (PV.i IntKind.i64 (vF (iF fun e x => PV.i IntKind.i64 (g e)) e))))) (min (min lb 5) (min la 5)))))
                                    (hystL (fun e => intOfP (unP (C.p (PV.i IntKind.i64 (vF (iF fun e x => PV.i IntKind.i64 (h e)) e)))))
                                        (fun e => intOfP (unP (C.p (PV.i IntKind.i64 (vF (iF fun e x => PV.i IntKind.i64 (g e)) e))))) (min (min lb 5) (min la 5))).length)
                                (Tr.rq True (Tr.done X.ret (St.mk [V.c (C.p (PV.b true))] []))) (Tr.done X.ret (St.mk [V.c (C.p (PV.b false))] []))))))
                        (Tr.done X.ret (St.mk [V.c (C.p (PV.b false))] [])))))))))))) := by kernel_rfl
section
variable {G : Nat → Option Obj}
theorem rowI_le {h : List AO} {x : V} {p : Prop} {n : Nat} {F : Nat → Int} (hx : rowI h x = some (p, n, F)) (hp : p) : VLeH G h x (iV1 n F) := by
  unfold rowI at hx
  split at hx
  · rename_i id n'
    split at hx
    · rename_i ty m f hid
      injection hx with hx
      injection hx with h1 hx
      injection hx with h2 h3
      subst h2; subst h3; subst h1
      obtain ⟨rfl, hf⟩ := hp
      rintro β R w u hs ⟨A, c, rfl, g1, g2, g3⟩
      refine ⟨A, c, rfl, g1, g2, fun hn => ?_⟩
      rcases g3 with ⟨_, g4, _⟩ | ⟨b, N, g4, rfl, g5⟩
      · omega
      · have hob := hs.obj id b N g4
        rw [hid] at hob
        obtain ⟨cs, k1, k2, k3, k4⟩ := hob
        refine ⟨_, rfl, hs.lt id b N g4, fun e o he ho => ?_⟩
        obtain rfl : o = 0 := by omega
        obtain ⟨u, q1, q2⟩ := k4 e 0 he (by omega)
        rw [hf e he] at q2
        refine ⟨u, ?_, q2⟩
        rw [add_mid, Nat.zero_mul, Nat.zero_add, cell_of_row w b _ cs ty (0, 0) k1]
        exact q1
    · cases hx
  · cases hx
theorem aHystN {n m : Nat} (hn : n ≤ 1000000) (hm : m ≤ 1000000) (F H : Nat → Int) : FnN Tryd.prog G 25 [iV1 n F, iV1 m H] (hystL F H (min n m)) := by
  intro R w vs hr hg ha
  obtain ⟨u, l, e, hu, ha⟩ := All2.nth2 ha
  obtain ⟨u1, l1, rfl, hu1, ha⟩ := All2.nth2 ha
  obtain rfl := All2.nil2 ha
  obtain ⟨A, c, rfl, hR⟩ := ints_rd hr hu
  obtain ⟨B, d, rfl, hR2⟩ := ints_rd hr hu1
  cases vs
  rename_i lv_
  have e : lv_ = _ := e
  subst e
  refine (aHyst_any A B n m c d hn hm F H w hR hR2).mono ?_
  rintro e w' ⟨v, rfl, ⟨_, ho⟩, hb⟩
  refine ⟨_, rfl, ?_, hb⟩
  rcases ho with ⟨rfl, h0⟩ | ⟨g, cap, cur, rfl, hg, hbk, hc, hmx, hs, ht⟩
  · exact ⟨none, 0, by rw [h0], by omega, by omega, fun hn => by omega⟩
  · refine ⟨_, cap, rfl, hc, hmx, fun hn => ⟨_, rfl, ⟨hg, (Array.getElem?_eq_some_iff.1 hbk).1⟩, fun e o he ho => ?_⟩⟩
    obtain rfl : o = 0 := by omega
    have hval := congrArg (·[e]?) ht
    simp only [List.getElem?_take, show e < (hystL F H (min n m)).length * 1 by omega, if_true, List.getElem?_map, Array.getElem?_toList] at hval
    rw [List.getElem?_eq_getElem he] at hval
    refine ⟨.int .i64 ((hystL F H (min n m)).getD e default), ?_, rfl⟩
    have e1 : (Addr.mk g 0 none).add (e * 1 + 0) = ⟨g, e, none⟩ := by
      unfold Addr.add; split
      · rename_i h0; rw [show e = 0 by omega]
      · simp
    rw [e1, cell_of_row w' g _ cur 3 (0, 0) hbk, hval]
    simp [he]
theorem okAHyst : ModHOK Tryd.prog G 25 mAHyst := by
  intro args h p v h' hm hp
  unfold mAHyst at hm
  split at hm; rotate_left; · cases hm
  split at hm; rotate_left; · cases hm
  rename_i x y _ _ _ _ p1 n F q1 m H hx hy
  obtain ⟨rfl, rfl, rfl⟩ := some_three hm
  obtain ⟨⟨h1, h2⟩, h3, h4⟩ := hp
  exact fn_newH (.cons (rowI_le hx h1) (.cons (rowI_le hy h2) .nil)) (aHystN (by omega) (by omega) F H)
theorem okRHyst : ModHOK Tryd.prog G 26 mAHyst := by
  intro args h p v h' hm hp
  unfold mAHyst at hm
  split at hm; rotate_left; · cases hm
  split at hm; rotate_left; · cases hm
  rename_i x y _ _ _ _ p1 n F q1 m H hx hy
  obtain ⟨rfl, rfl, rfl⟩ := some_three hm
  obtain ⟨⟨h1, h2⟩, h3, h4⟩ := hp
  exact fn_newH (.cons (rowI_le hx h1) (.cons (rowI_le hy h2) .nil)) (hystN h3 h4 F H)
theorem okSameI : ModOK Tryd.prog G 24 mSameI := by
  intro args p v hm hp h
  unfold mSameI at hm
  split at hm; rotate_left; · cases hm
  rename_i n f m g
  obtain ⟨rfl, rfl⟩ := some_pair hm
  obtain ⟨⟨hf, hg'⟩, hn, hm⟩ := hp
  refine FnS.args (args' := [iV1 n (iF f), iV1 m (iF g)]) ?_ (.cons (isI_le hf) (.cons (isI_le hg') .nil))
  refine fn_kit rfl ?_ h
  intro R w vs hr hg ha
  obtain ⟨u, l, e, hu, ha⟩ := All2.nth2 ha
  obtain ⟨u1, l1, rfl, hu1, ha⟩ := All2.nth2 ha
  obtain rfl := All2.nil2 ha
  obtain ⟨A, c, rfl, hR⟩ := ints_rd hr hu
  obtain ⟨B, d, rfl, hR2⟩ := ints_rd hr hu1
  cases vs
  rename_i lv_
  have e : lv_ = _ := e
  subst e
  refine (sameInts_any A B n m c d hn hm (iF f) (iF g) w hR hR2).mono ?_
  rintro e w' ⟨rfl, hb⟩
  exact ⟨_, rfl, rfl, hb⟩
theorem okVerd : ModHOK Tryd.prog G 23 mVerd := by
  intro args h p v h' hm hp
  unfold mVerd at hm
  split at hm; rotate_left; · cases hm
  rename_i n f
  obtain ⟨rfl, rfl, rfl⟩ := some_three hm
  obtain ⟨⟨hf, hin⟩, hn⟩ := hp
  refine FnS.args (args' := [iV1 n (iF f), iV 5]) ?_ (.cons (isI_le hf) (.cons (.refl _) .nil))
  generalize iF f = F at hin
  intro β R w vs ha hh
  obtain ⟨u, l, e, hu, ha⟩ := All2.nth2 ha
  obtain ⟨u1, l1, rfl, hu1, ha⟩ := All2.nth2 ha
  obtain rfl := All2.nil2 ha
  have hu1 : u1 = .int .i64 5 := hu1
  subst hu1
  have hu' : VR (fun _ => none) R w (iV1 n F) u := (All2.pureV_ (pureAll_mem (show pureAll [iV1 n F] = true from rfl)) (show All2 (VR β R w) [iV1 n F] [u] from ⟨hu, trivial⟩)).1
  obtain ⟨A, c, rfl, hR⟩ := ints_rd hh.rlt hu'
  cases vs
  rename_i lv_
  have e : lv_ = _ := e
  subst e
  refine (rVerdicts_any A n c 5 hn (by omega) F hin w hR).mono ?_
  rintro e w' ⟨v, rfl, ⟨_, ho⟩, hb⟩
  rcases ho with ⟨rfl, h0⟩ | ⟨g, cap, cur, rfl, hg, hbk, hc, hmx, hsz, ht⟩
  · obtain ⟨c1, c2⟩ := hs_caller_none hh (fr_below hh.rlt hb) (fun _ h => h) (h' := []) ⟨(fun _ _ h => by cases h), (fun _ _ _ _ _ h => by cases h), (fun _ _ _ h => by cases h), (fun _ _ _ h => by cases h), (fun b h => Nat.lt_of_lt_of_le (hh.rlt b h) hb.size), (fun _ _ _ h => by cases h), fun b o hgb => ⟨(hh.gl b o hgb).1, (hb.block b (hh.rlt b (hh.gl b o hgb).1)).trans (hh.gl b o hgb).2⟩⟩ (.row 3 1 (min n 5) fun e _ => .p (.i .i64 (vF F e)))
    exact ⟨_, β, _, _, _, rfl, ⟨rfl, rfl⟩, ⟨none, 0, by rw [h0], by omega, Nat.zero_le _, .inl ⟨.inl rfl, h0, rfl⟩⟩, c1, c2, fun _ _ => rfl⟩
  · have hob : ∀ β2, OR β2 R w' (.row 3 1 (min n 5) fun e _ => .p (.i .i64 (vF F e))) g (cap * 1) := by
      intro β2
      refine ⟨cur, hbk, hsz, by omega, fun e o he ho => ?_⟩
      obtain rfl : o = 0 := by omega
      have hval := congrArg (·[e]?) ht
      simp only [List.getElem?_take, show e < min n 5 * 1 by omega, if_true, List.getElem?_map, Array.getElem?_toList] at hval
      refine ⟨.int .i64 (vF F e), ?_, rfl⟩
      rw [show e * 1 + 0 = e by omega, hval]
      simp [gl, he]
    have hlt : g < w'.heap.size := (Array.getElem?_eq_some_iff.1 hbk).1
    obtain ⟨c1, c2⟩ := hs_caller_row hh (fr_row hh.rlt hb hg) (fun _ h => h) (hs_row hh hb hg hlt (hob _)) (x := .row 3 1 (min n 5) fun e _ => .p (.i .i64 (vF F e))) rfl (id := 0) (b := g) (N := cap * 1) rfl rfl (fun β2 _ => hob β2)
    refine ⟨_, bn β h.length (g, cap * 1), R, _, _, rfl, ⟨rfl, rfl⟩, ?_, c1, c2, fun i hi => bn_other _ (by omega)⟩
    refine ⟨_, cap, rfl, hc, hmx, .inr ⟨g, cap * 1, ?_, by rw [Nat.zero_mul], by rw [Nat.zero_add]⟩⟩
    rw [lenL_eq]
    exact bn_same _ _ _
theorem extHy_sound (hG : LevG G) : SoundExt Tryd.prog G extHy := extH_sound (by simp; exact ⟨okVerd, okAHyst, okRHyst, okSameI.lift, okAround.lift, (okLives hG).lift⟩)
theorem hystL_len (f g : Nat → Int) (n : Nat) : (hystL f g n).length ≤ n := by
  unfold hystL
  split
  · rw [gl_length]; exact Nat.le_refl _
  · exact Nat.zero_le _
theorem agree_refl (F : Nat → Int) (n : Nat) : agreeB F F n = true := (agreeB_iff F F n).2 fun _ _ => rfl
set_option maxRecDepth 100000 in
theorem alertHyst_fn (hG : LevG G) {la lb : Nat} {g h : Nat → Int} (hg : ∀ k, inR .i64 (g k)) (hh : ∀ k, inR .i64 (h k)) (hla : la ≤ 9223372036854775807) (hlb : lb ≤ 9223372036854775807) {at_ n : Int} (ha : inR .i64 at_) :
    FnS Tryd.prog G 6 [iV1 la g, iV1 lb h, iV at_, iV n] [] fun x h' => x = bV true ∧ h' = [] := by
  refine fn_S Tryd.func6 (by kernel_rfl) rfl ?_ []
  refine ExS.evH (extHy_sound hG) (tY la lb g h at_ n) ?_
  simp only [holds_bT, holds_rq, holds_leaf, kf_ret', agree_refl, decide_true, Bool.and_true, Bool.and_self, Bool.not_true, Bool.not_false, Bool.false_eq_true, Bool.true_eq_false, reduceCtorEq, false_imp_iff, true_imp_iff, forall_const, and_true, true_and, decide_eq_true_eq, decide_eq_false_iff_not]
  have hr : (0 : Int) < ↑(min la 5) → 0 ≤ aroundZ at_ ↑(min la 5) ∧ aroundZ at_ ↑(min la 5) < ↑(min la 5) := fun h => aroundZ_range h
  repeat' (first | apply And.intro | intro _)
  all_goals first | rfl | exact trivial | exact ⟨VLe.refl _⟩ | exact (hg _).1 | exact (hg _).2 | exact (hh _).1 | exact (hh _).2 | exact ha.1 | exact ha.2 | exact Nat.le_trans (hystL_len _ _ _) (by omega) | exact hla | exact hlb | assumption | exact (hr ‹_›).1 | exact (hr ‹_›).2 | (have := hr ‹_›; omega) | omega | (split <;> rfl)
theorem alertHyst_walk (A B : Option Addr) (la ca lb cb : Nat) (g h : Nat → Int) (hg : ∀ k, -9223372036854775808 ≤ g k ∧ g k ≤ 9223372036854775807) (hh : ∀ k, -9223372036854775808 ≤ h k ∧ h k ≤ 9223372036854775807) (at_ n : Int) (ha : -9223372036854775808 ≤ at_ ∧ at_ ≤ 9223372036854775807)
    (w : World) (h1 : la ≤ ca) (h2 : ca ≤ maxLen) (h3 : lb ≤ cb) (h4 : cb ≤ maxLen) (hA : Rd w w.heap.size A la fun k => .int .i64 (g k)) (hB : Rd w w.heap.size B lb fun k => .int .i64 (h k)) (hL : Lev w) :
    Calls Tryd.prog 6 #[.slice A la ca, .slice B lb cb, .int .i64 at_, .int .i64 n] w fun e w' => e = .returned (.bool true) ∧ Below w.heap.size w w' := by
  have hm : maxLen ≤ 9223372036854775807 := by unfold maxLen; omega
  have key : ∀ {A : Option Addr} {la ca : Nat} {g : Nat → Int}, la ≤ ca → ca ≤ maxLen → (Rd w w.heap.size A la fun k => .int .i64 (g k)) → VR (fun _ => none) (fun b => b < w.heap.size) w (iV1 la g) (.slice A la ca) := by
    intro A la ca g h1 h2 hR
    refine ⟨A, ca, rfl, h1, h2, fun hn => ?_⟩
    obtain ⟨ad, e1, e2, e3⟩ := hR hn
    refine ⟨ad, e1, e2, fun e o he ho => ?_⟩
    obtain rfl : o = 0 := by omega
    exact ⟨_, e3 (e * 1 + 0) (by omega), by show Value.int .i64 (g (e * 1 + 0)) = Value.int .i64 (g e); rw [show e * 1 + 0 = e by omega]⟩
  refine calls_of_fn ((alertHyst_fn (n := n) (levG_gw hL) hg hh (Nat.le_trans h1 (Nat.le_trans h2 hm)) (Nat.le_trans h3 (Nat.le_trans h4 hm)) ha).mono fun _ _ h => h.1) ?_ (gw_ok w)
  exact ⟨key h1 h2 hA, key h3 h4 hB, rfl, rfl, trivial⟩
end
end Go.AE
