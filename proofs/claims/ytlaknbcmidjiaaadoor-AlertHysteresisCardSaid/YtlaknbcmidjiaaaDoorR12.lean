/- AE contracts: ref28.mays, Truths, Latch, Hysteresis. -/
import Derived.Test.YtlaknbcmidjiaaaDoorR8
import Derived.Test.YtlaknbcmidjiaaaDoorHystP
namespace Go.AE
open Go.Proofs Go.Proofs.YtlaknbcmidjiaaaDoor Go.RowKit
set_option linter.unusedVariables false

def bF (f : Nat → Nat → PV) (e : Nat) : Bool := boolOfP (f e 0)
def iF (f : Nat → Nat → PV) (e : Nat) : Int := intOfP (f e 0)
def IsI (n : Nat) (f : Nat → Nat → PV) : Prop := ∀ e, e < n → f e 0 = .i .i64 (iF f e)
def IsB (n : Nat) (f : Nat → Nat → PV) : Prop := ∀ e, e < n → f e 0 = .b (bF f e)
def bV1 (n : Nat) (S : Nat → Bool) : V := .c (.p (.l 1 n fun e _ => .b (S e)))
def iV1 (n : Nat) (F : Nat → Int) : V := .c (.p (.l 1 n fun e _ => .i .i64 (F e)))
def rowB (n : Nat) (S : Nat → Bool) : AO := .row 4 1 n fun e _ => .p (.b (S e))
def mMays : Mod
  | [.c (.p (.l 1 n f))] => some (IsI n f ∧ n ≤ 1000000, iV (maysF (iF f) n : Nat))
  | _ => none
def mTruths : Mod
  | [.c (.p (.l 1 n f)), .c (.p (.i .i64 x))] => some (IsI n f ∧ n ≤ 1000000 ∧ 0 ≤ x ∧ x ≤ 4611686018427387904, bV1 n (trF (iF f) x))
  | _ => none
def mLatch : Mod
  | [.c (.p (.l 1 n f)), .c (.p (.l 1 m g))] => some (IsB n f ∧ IsB m g ∧ n ≤ m ∧ m ≤ 1000000, bV1 n fun k => laF (bF f) (bF g) (k + 1))
  | _ => none
def mHystR : Mod
  | [.c (.p (.l 1 n f)), .c (.p (.l 1 m g))] => some (IsI n f ∧ IsI m g ∧ n ≤ 5 ∧ m ≤ 5, listV encI 1 (hystL (iF f) (iF g) (min n m)))
  | _ => none
def extY : Ext := extOf [(55, mMays), (29, mTruths), (28, mLatch)]

theorem tM1 (n : Nat) (F : Nat → Int) : exTs ext0 (takeL 3 (pcs Tryd.prog Tryd.f55)) (st0 Tryd.f55 [iV1 n F]) (endG (msk 19 [0, 3, 4]) (resOf Tryd.prog Tryd.f55)) = Tr.done X.normal
    (cst 19 [(0, V.c (C.p (PV.l 1 n fun e x => PV.i IntKind.i64 (F e)))), (3, V.c (C.p (PV.i IntKind.i64 0))), (4, V.c (C.p (PV.i IntKind.i64 0)))] []) := by kernel_rfl
theorem tM2 (n : Nat) (F : Nat → Int) (c i : Nat) : exTs ext0 (lpB (pcs Tryd.prog Tryd.f55) 3) (cst 19 [(0, iV1 n F), (3, iV (c : Nat)), (4, iV (i : Nat))] []) (endG (msk 19 [0, 3, 4]) (resOf Tryd.prog Tryd.f55)) = bT (decide ((↑i : Int) < (↑n : Int)))
    (Tr.rq (0 ≤ (↑i : Int) ∧ (↑i : Int) < (↑n : Int))
      (bT (F (↑i : Int).toNat == 1)
        (Tr.rq (inR IntKind.i64 ((↑c : Int) + 1))
          (Tr.rq (inR IntKind.i64 ((↑i : Int) + 1))
            (Tr.done X.normal
              (cst 19 [(0, V.c (C.p (PV.l 1 n fun e x => PV.i IntKind.i64 (F e)))), (3, V.c (C.p (PV.i IntKind.i64 ((↑c : Int) + 1)))), (4, V.c (C.p (PV.i IntKind.i64 ((↑i : Int) + 1))))] []))))
        (Tr.rq (inR IntKind.i64 ((↑i : Int) + 1))
          (Tr.done X.normal
            (cst 19 [(0, V.c (C.p (PV.l 1 n fun e x => PV.i IntKind.i64 (F e)))), (3, V.c (C.p (PV.i IntKind.i64 (↑c : Int)))), (4, V.c (C.p (PV.i IntKind.i64 ((↑i : Int) + 1))))] [])))))
    (Tr.done (X.exit 0)
      (cst 19 [(0, V.c (C.p (PV.l 1 n fun e x => PV.i IntKind.i64 (F e)))), (3, V.c (C.p (PV.i IntKind.i64 (↑c : Int)))), (4, V.c (C.p (PV.i IntKind.i64 (↑i : Int))))] [])) := by kernel_rfl
theorem tM3 (n : Nat) (F : Nat → Int) (c i : Nat) : exTs ext0 (dropL 4 (pcs Tryd.prog Tryd.f55)) (cst 19 [(0, iV1 n F), (3, iV (c : Nat)), (4, iV (i : Nat))] []) (endG [] (resOf Tryd.prog Tryd.f55)) = Tr.done X.ret (St.mk [V.c (C.p (PV.i IntKind.i64 (↑c : Int)))] []) := by kernel_rfl
theorem tH0 (n m : Nat) (F H : Nat → Int) : exTs ext0 (takeL 4 (pcs Tryd.prog Tryd.f26)) (st0 Tryd.f26 [iV1 n F, iV1 m H]) (endG (msk 159 [0, 1, 5, 6, 7]) [AR.new 4]) = Tr.done X.normal
    (cst 159 [(0, V.c (C.p (PV.l 1 n fun e x => PV.i IntKind.i64 (F e)))), (1, V.c (C.p (PV.l 1 m fun e x => PV.i IntKind.i64 (H e)))), (5, V.c (C.p (PV.i IntKind.i64 (if (↑m : Int) < (↑n : Int) then (↑m : Int) else (↑n : Int))))), (6, V.c (C.p (PV.z (Value.slice none 0 0)))), (7, V.c (C.p (PV.i IntKind.i64 0)))] []) := by kernel_rfl
theorem tH1 (n m N : Nat) (F H : Nat → Int) (i : Nat) : exTs ext0 (lpB (pcs Tryd.prog Tryd.f26) 4) (cst 159 [(0, iV1 n F), (1, iV1 m H), (5, iV (N : Nat)), (6, .c (.p (.z (.slice none 0 0)))), (7, iV (i : Nat))] []) (endG (msk 159 [0, 1, 5, 6, 7]) [AR.new 4]) = bT (decide ((↑i : Int) < (↑N : Int)))
    (Tr.rq (0 ≤ (↑i : Int) ∧ (↑i : Int) < (↑n : Int))
      (bT (decide (F (↑i : Int).toNat < 0)) (Tr.done X.ret (St.mk [V.c (C.p (PV.z (Value.slice none 0 0)))] []))
        (Tr.rq (0 ≤ (↑i : Int) ∧ (↑i : Int) < (↑n : Int))
          (bT (decide (2 < F (↑i : Int).toNat)) (Tr.done X.ret (St.mk [V.c (C.p (PV.z (Value.slice none 0 0)))] []))
            (Tr.rq (0 ≤ (↑i : Int) ∧ (↑i : Int) < (↑m : Int))
              (bT (decide (H (↑i : Int).toNat < 0)) (Tr.done X.ret (St.mk [V.c (C.p (PV.z (Value.slice none 0 0)))] []))
                (Tr.rq (0 ≤ (↑i : Int) ∧ (↑i : Int) < (↑m : Int))
                  (bT (decide (2 < H (↑i : Int).toNat)) (Tr.done X.ret (St.mk [V.c (C.p (PV.z (Value.slice none 0 0)))] []))
                    (Tr.rq (inR IntKind.i64 ((↑i : Int) + 1))
                      (Tr.done X.normal
                        (cst 159 [(0, V.c (C.p (PV.l 1 n fun e x => PV.i IntKind.i64 (F e)))), (1, V.c (C.p (PV.l 1 m fun e x => PV.i IntKind.i64 (H e)))), (5, V.c (C.p (PV.i IntKind.i64 (↑N : Int)))), (6, V.c (C.p (PV.z (Value.slice none 0 0)))), (7, V.c (C.p (PV.i IntKind.i64 ((↑i : Int) + 1))))] [])))))))))))
    (Tr.done (X.exit 0)
      (cst 159 [(0, V.c (C.p (PV.l 1 n fun e x => PV.i IntKind.i64 (F e)))), (1, V.c (C.p (PV.l 1 m fun e x => PV.i IntKind.i64 (H e)))), (5, V.c (C.p (PV.i IntKind.i64 (↑N : Int)))), (6, V.c (C.p (PV.z (Value.slice none 0 0)))), (7, V.c (C.p (PV.i IntKind.i64 (↑i : Int))))] [])) := by kernel_rfl
theorem tH2 (n m N : Nat) (F H : Nat → Int) (i : Nat) : exTs ext0 (takeL 3 (dropL 5 (pcs Tryd.prog Tryd.f26))) (cst 159 [(0, iV1 n F), (1, iV1 m H), (5, iV (N : Nat)), (6, .c (.p (.z (.slice none 0 0)))), (7, iV (i : Nat))] []) (endG (msk 159 [0, 1, 5, 6, 8, 9, 10]) [AR.new 4]) = Tr.rq (0 ≤ (↑N : Int) ∧ (↑N : Int) ≤ (↑N : Int) ∧ (↑N : Int) * (↑1 : Int) ≤ 140737488355328 ∧ (↑N : Int) ≤ 140737488355328)
    (Tr.rq (0 ≤ (↑N : Int) ∧ (↑N : Int) ≤ (↑N : Int) ∧ (↑N : Int) * (↑1 : Int) ≤ 140737488355328 ∧ (↑N : Int) ≤ 140737488355328)
      (Tr.done X.normal
        (cst 159 [(0, V.c (C.p (PV.l 1 n fun e x => PV.i IntKind.i64 (F e)))), (1, V.c (C.p (PV.l 1 m fun e x => PV.i IntKind.i64 (H e)))), (5, V.c (C.p (PV.i IntKind.i64 (↑N : Int)))), (6, V.c (C.p (PV.z (Value.slice none 0 0)))), (8, V.c (C.sl 0 1 0 (↑N : Int).toNat)), (9, V.c (C.sl 1 1 0 (↑N : Int).toNat)), (10, V.c (C.p (PV.i IntKind.i64 0)))] [AO.row 4 1 (↑N : Int).toNat fun e o => renC [0, 1] (C.p (nth (PV.b false) [PV.b false] o)), AO.row 4 1 (↑N : Int).toNat fun e o => renC [0, 1] (C.p (nth (PV.b false) [PV.b false] o))]))) := by kernel_rfl
theorem tH3 (n m N : Nat) (F H : Nat → Int) (S A : Nat → Bool) (i : Nat) : exTs ext0 (lpB (pcs Tryd.prog Tryd.f26) 8) (cst 159 [(0, iV1 n F), (1, iV1 m H), (5, iV (N : Nat)), (6, .c (.p (.z (.slice none 0 0)))), (8, .c (.sl 0 1 0 N)), (9, .c (.sl 1 1 0 N)), (10, iV (i : Nat))] [rowB N S, rowB N A]) (endG (msk 159 [0, 1, 5, 6, 8, 9, 10]) [AR.new 4]) = bT (decide ((↑i : Int) < (↑N : Int)))
    (Tr.rq (0 ≤ (↑i : Int) ∧ (↑i : Int) < (↑N : Int))
      (Tr.rq ((↑i : Int).toNat + 0 < N)
        (Tr.rq (inR IntKind.i64 ((↑i : Int) + 1))
          (Tr.done X.normal
            (cst 159 [(0, V.c (C.p (PV.l 1 n fun e x => PV.i IntKind.i64 (F e)))), (1, V.c (C.p (PV.l 1 m fun e x => PV.i IntKind.i64 (H e)))), (5, V.c (C.p (PV.i IntKind.i64 (↑N : Int)))), (6, V.c (C.p (PV.z (Value.slice none 0 0)))), (8, V.c (C.sl 0 1 0 N)), (9, V.c (C.sl 1 1 0 N)), (10, V.c (C.p (PV.i IntKind.i64 ((↑i : Int) + 1))))] [AO.row 4 1 N fun e o => renC [0, 1] (C.p (PV.b (S e))), AO.row 4 1 N fun e o => renC [0, 1] (if e = (↑i : Int).toNat + 0 then if 0 ≤ o ∧ o < 1 then nth C.top [C.p (PV.b true)] (o - 0) else C.p (PV.b (A e)) else C.p (PV.b (A e)))])))))
    (Tr.done (X.exit 2)
      (cst 159 [(0, V.c (C.p (PV.l 1 n fun e x => PV.i IntKind.i64 (F e)))), (1, V.c (C.p (PV.l 1 m fun e x => PV.i IntKind.i64 (H e)))), (5, V.c (C.p (PV.i IntKind.i64 (↑N : Int)))), (6, V.c (C.p (PV.z (Value.slice none 0 0)))), (8, V.c (C.sl 0 1 0 N)), (9, V.c (C.sl 1 1 0 N)), (10, V.c (C.p (PV.i IntKind.i64 (↑i : Int))))] [AO.row 4 1 N fun e o => renC [0, 1] (C.p (PV.b (S e))), AO.row 4 1 N fun e o => renC [0, 1] (C.p (PV.b (A e)))])) := by kernel_rfl
theorem tH4 (n m N : Nat) (F H : Nat → Int) (S A : Nat → Bool) (i : Nat) : exTs ext0 (takeL 2 (dropL 9 (pcs Tryd.prog Tryd.f26))) (cst 159 [(0, iV1 n F), (1, iV1 m H), (5, iV (N : Nat)), (6, .c (.p (.z (.slice none 0 0)))), (8, .c (.sl 0 1 0 N)), (9, .c (.sl 1 1 0 N)), (10, iV (i : Nat))] [rowB N S, rowB N A]) (endG (msk 159 [0, 1, 5, 6, 8, 9, 11, 12]) [AR.new 4]) = Tr.done X.normal
    (cst 159 [(0, V.c (C.p (PV.l 1 n fun e x => PV.i IntKind.i64 (F e)))), (1, V.c (C.p (PV.l 1 m fun e x => PV.i IntKind.i64 (H e)))), (5, V.c (C.p (PV.i IntKind.i64 (↑N : Int)))), (6, V.c (C.p (PV.z (Value.slice none 0 0)))), (8, V.c (C.sl 0 1 0 N)), (9, V.c (C.sl 1 1 0 N)), (11, V.c (C.p (PV.i IntKind.i64 1))), (12, V.c (C.p (PV.i IntKind.i64 0)))] [AO.row 4 1 N fun e o => renC [0, 1] (C.p (PV.b (S e))), AO.row 4 1 N fun e o => renC [0, 1] (C.p (PV.b (A e)))]) := by kernel_rfl
theorem tH5 (n m N : Nat) (F H : Nat → Int) (S A : Nat → Bool) (a i : Nat) : exTs extY (lpB (pcs Tryd.prog Tryd.f26) 11) (cst 159 [(0, iV1 n F), (1, iV1 m H), (5, iV (N : Nat)), (6, .c (.p (.z (.slice none 0 0)))), (8, .c (.sl 0 1 0 N)), (9, .c (.sl 1 1 0 N)), (11, iV (a : Nat)), (12, iV (i : Nat))] [rowB N S, rowB N A]) (endG (msk 159 [0, 1, 5, 6, 8, 9, 11, 12]) [AR.new 4]) = Tr.rq (0 ≤ (↑0 : Int) ∧ (↑0 : Int) ≤ (↑N : Int) ∧ (↑N : Int) ≤ (↑n : Int))
    (Tr.rq ((IsI ((↑N : Int).toNat - 0) fun e o => PV.i IntKind.i64 (F (e + 0))) ∧ (↑N : Int).toNat - 0 ≤ 1000000)
      (bT (decide ((↑i : Int) < (↑(maysF (iF fun e o => PV.i IntKind.i64 (F (e + 0))) ((↑N : Int).toNat - 0)) : Int)))
        (Tr.rq (inR IntKind.i64 (2 * (↑a : Int)))
          (Tr.rq (inR IntKind.i64 ((↑i : Int) + 1))
            (Tr.done X.normal
              (cst 159 [(0, V.c (C.p (PV.l 1 n fun e x => PV.i IntKind.i64 (F e)))), (1, V.c (C.p (PV.l 1 m fun e x => PV.i IntKind.i64 (H e)))), (5, V.c (C.p (PV.i IntKind.i64 (↑N : Int)))), (6, V.c (C.p (PV.z (Value.slice none 0 0)))), (8, V.c (C.sl 0 1 0 N)), (9, V.c (C.sl 1 1 0 N)), (11, V.c (C.p (PV.i IntKind.i64 (2 * (↑a : Int))))), (12, V.c (C.p (PV.i IntKind.i64 ((↑i : Int) + 1))))] [AO.row 4 1 N fun e o => renC [0, 1] (C.p (PV.b (S e))), AO.row 4 1 N fun e o => renC [0, 1] (C.p (PV.b (A e)))]))))
        (Tr.done (X.exit 4)
          (cst 159 [(0, V.c (C.p (PV.l 1 n fun e x => PV.i IntKind.i64 (F e)))), (1, V.c (C.p (PV.l 1 m fun e x => PV.i IntKind.i64 (H e)))), (5, V.c (C.p (PV.i IntKind.i64 (↑N : Int)))), (6, V.c (C.p (PV.z (Value.slice none 0 0)))), (8, V.c (C.sl 0 1 0 N)), (9, V.c (C.sl 1 1 0 N)), (11, V.c (C.p (PV.i IntKind.i64 (↑a : Int)))), (12, V.c (C.p (PV.i IntKind.i64 (↑i : Int))))] [AO.row 4 1 N fun e o => renC [0, 1] (C.p (PV.b (S e))), AO.row 4 1 N fun e o => renC [0, 1] (C.p (PV.b (A e)))])))) := by kernel_rfl
theorem tH6 (n m N : Nat) (F H : Nat → Int) (S A : Nat → Bool) (a i : Nat) : exTs ext0 (takeL 2 (dropL 12 (pcs Tryd.prog Tryd.f26))) (cst 159 [(0, iV1 n F), (1, iV1 m H), (5, iV (N : Nat)), (6, .c (.p (.z (.slice none 0 0)))), (8, .c (.sl 0 1 0 N)), (9, .c (.sl 1 1 0 N)), (11, iV (a : Nat)), (12, iV (i : Nat))] [rowB N S, rowB N A]) (endG (msk 159 [0, 1, 5, 6, 8, 9, 11, 13, 14]) [AR.new 4]) = Tr.done X.normal
    (cst 159 [(0, V.c (C.p (PV.l 1 n fun e x => PV.i IntKind.i64 (F e)))), (1, V.c (C.p (PV.l 1 m fun e x => PV.i IntKind.i64 (H e)))), (5, V.c (C.p (PV.i IntKind.i64 (↑N : Int)))), (6, V.c (C.p (PV.z (Value.slice none 0 0)))), (8, V.c (C.sl 0 1 0 N)), (9, V.c (C.sl 1 1 0 N)), (11, V.c (C.p (PV.i IntKind.i64 (↑a : Int)))), (13, V.c (C.p (PV.i IntKind.i64 1))), (14, V.c (C.p (PV.i IntKind.i64 0)))] [AO.row 4 1 N fun e o => renC [0, 1] (C.p (PV.b (S e))), AO.row 4 1 N fun e o => renC [0, 1] (C.p (PV.b (A e)))]) := by kernel_rfl
theorem tH7 (n m N : Nat) (F H : Nat → Int) (S A : Nat → Bool) (a b i : Nat) : exTs extY (lpB (pcs Tryd.prog Tryd.f26) 14) (cst 159 [(0, iV1 n F), (1, iV1 m H), (5, iV (N : Nat)), (6, .c (.p (.z (.slice none 0 0)))), (8, .c (.sl 0 1 0 N)), (9, .c (.sl 1 1 0 N)), (11, iV (a : Nat)), (13, iV (b : Nat)), (14, iV (i : Nat))] [rowB N S, rowB N A]) (endG (msk 159 [0, 1, 5, 6, 8, 9, 11, 13, 14]) [AR.new 4]) = Tr.rq (0 ≤ (↑0 : Int) ∧ (↑0 : Int) ≤ (↑N : Int) ∧ (↑N : Int) ≤ (↑m : Int))
    (Tr.rq ((IsI ((↑N : Int).toNat - 0) fun e o => PV.i IntKind.i64 (H (e + 0))) ∧ (↑N : Int).toNat - 0 ≤ 1000000)
      (bT (decide ((↑i : Int) < (↑(maysF (iF fun e o => PV.i IntKind.i64 (H (e + 0))) ((↑N : Int).toNat - 0)) : Int)))
        (Tr.rq (inR IntKind.i64 (2 * (↑b : Int)))
          (Tr.rq (inR IntKind.i64 ((↑i : Int) + 1))
            (Tr.done X.normal
              (cst 159 [(0, V.c (C.p (PV.l 1 n fun e x => PV.i IntKind.i64 (F e)))), (1, V.c (C.p (PV.l 1 m fun e x => PV.i IntKind.i64 (H e)))), (5, V.c (C.p (PV.i IntKind.i64 (↑N : Int)))), (6, V.c (C.p (PV.z (Value.slice none 0 0)))), (8, V.c (C.sl 0 1 0 N)), (9, V.c (C.sl 1 1 0 N)), (11, V.c (C.p (PV.i IntKind.i64 (↑a : Int)))), (13, V.c (C.p (PV.i IntKind.i64 (2 * (↑b : Int))))), (14, V.c (C.p (PV.i IntKind.i64 ((↑i : Int) + 1))))] [AO.row 4 1 N fun e o => renC [0, 1] (C.p (PV.b (S e))), AO.row 4 1 N fun e o => renC [0, 1] (C.p (PV.b (A e)))]))))
        (Tr.done (X.exit 6)
          (cst 159 [(0, V.c (C.p (PV.l 1 n fun e x => PV.i IntKind.i64 (F e)))), (1, V.c (C.p (PV.l 1 m fun e x => PV.i IntKind.i64 (H e)))), (5, V.c (C.p (PV.i IntKind.i64 (↑N : Int)))), (6, V.c (C.p (PV.z (Value.slice none 0 0)))), (8, V.c (C.sl 0 1 0 N)), (9, V.c (C.sl 1 1 0 N)), (11, V.c (C.p (PV.i IntKind.i64 (↑a : Int)))), (13, V.c (C.p (PV.i IntKind.i64 (↑b : Int)))), (14, V.c (C.p (PV.i IntKind.i64 (↑i : Int))))] [AO.row 4 1 N fun e o => renC [0, 1] (C.p (PV.b (S e))), AO.row 4 1 N fun e o => renC [0, 1] (C.p (PV.b (A e)))])))) := by kernel_rfl
theorem tH8 (n m N : Nat) (F H : Nat → Int) (S A : Nat → Bool) (a b i : Nat) : exTs ext0 (takeL 1 (dropL 15 (pcs Tryd.prog Tryd.f26))) (cst 159 [(0, iV1 n F), (1, iV1 m H), (5, iV (N : Nat)), (6, .c (.p (.z (.slice none 0 0)))), (8, .c (.sl 0 1 0 N)), (9, .c (.sl 1 1 0 N)), (11, iV (a : Nat)), (13, iV (b : Nat)), (14, iV (i : Nat))] [rowB N S, rowB N A]) (endG (msk 159 [0, 1, 5, 6, 8, 9, 11, 13, 15]) [AR.new 4]) = Tr.done X.normal
    (cst 159 [(0, V.c (C.p (PV.l 1 n fun e x => PV.i IntKind.i64 (F e)))), (1, V.c (C.p (PV.l 1 m fun e x => PV.i IntKind.i64 (H e)))), (5, V.c (C.p (PV.i IntKind.i64 (↑N : Int)))), (6, V.c (C.p (PV.z (Value.slice none 0 0)))), (8, V.c (C.sl 0 1 0 N)), (9, V.c (C.sl 1 1 0 N)), (11, V.c (C.p (PV.i IntKind.i64 (↑a : Int)))), (13, V.c (C.p (PV.i IntKind.i64 (↑b : Int)))), (15, V.c (C.p (PV.i IntKind.i64 0)))] [AO.row 4 1 N fun e o => renC [0, 1] (C.p (PV.b (S e))), AO.row 4 1 N fun e o => renC [0, 1] (C.p (PV.b (A e)))]) := by kernel_rfl
theorem tH9 (n m N : Nat) (F H : Nat → Int) (S A : Nat → Bool) (a b x : Nat) : exTs ext0 (takeL 2 (lpB (pcs Tryd.prog Tryd.f26) 16)) (cst 159 [(0, iV1 n F), (1, iV1 m H), (5, iV (N : Nat)), (6, .c (.p (.z (.slice none 0 0)))), (8, .c (.sl 0 1 0 N)), (9, .c (.sl 1 1 0 N)), (11, iV (a : Nat)), (13, iV (b : Nat)), (15, iV (x : Nat))] [rowB N S, rowB N A]) (endG (msk 159 [0, 1, 5, 6, 8, 9, 11, 13, 15]) [AR.new 4]) = bT (decide ((↑x : Int) < (↑a : Int)))
    (Tr.done X.normal
      (cst 159 [(0, V.c (C.p (PV.l 1 n fun e x => PV.i IntKind.i64 (F e)))), (1, V.c (C.p (PV.l 1 m fun e x => PV.i IntKind.i64 (H e)))), (5, V.c (C.p (PV.i IntKind.i64 (↑N : Int)))), (6, V.c (C.p (PV.z (Value.slice none 0 0)))), (8, V.c (C.sl 0 1 0 N)), (9, V.c (C.sl 1 1 0 N)), (11, V.c (C.p (PV.i IntKind.i64 (↑a : Int)))), (13, V.c (C.p (PV.i IntKind.i64 (↑b : Int)))), (15, V.c (C.p (PV.i IntKind.i64 (↑x : Int))))] [AO.row 4 1 N fun e o => renC [0, 1] (C.p (PV.b (S e))), AO.row 4 1 N fun e o => renC [0, 1] (C.p (PV.b (A e)))]))
    (Tr.done (X.exit 8)
      (cst 159 [(0, V.c (C.p (PV.l 1 n fun e x => PV.i IntKind.i64 (F e)))), (1, V.c (C.p (PV.l 1 m fun e x => PV.i IntKind.i64 (H e)))), (5, V.c (C.p (PV.i IntKind.i64 (↑N : Int)))), (6, V.c (C.p (PV.z (Value.slice none 0 0)))), (8, V.c (C.sl 0 1 0 N)), (9, V.c (C.sl 1 1 0 N)), (11, V.c (C.p (PV.i IntKind.i64 (↑a : Int)))), (13, V.c (C.p (PV.i IntKind.i64 (↑b : Int)))), (15, V.c (C.p (PV.i IntKind.i64 (↑x : Int))))] [AO.row 4 1 N fun e o => renC [0, 1] (C.p (PV.b (S e))), AO.row 4 1 N fun e o => renC [0, 1] (C.p (PV.b (A e)))])) := by kernel_rfl
theorem tH10 (n m N : Nat) (F H : Nat → Int) (S A : Nat → Bool) (a b x : Nat) : exTs ext0 (takeL 1 (flat (inr (nth .skip (lpB (pcs Tryd.prog Tryd.f26) 16) 2)))) (cst 159 [(0, iV1 n F), (1, iV1 m H), (5, iV (N : Nat)), (6, .c (.p (.z (.slice none 0 0)))), (8, .c (.sl 0 1 0 N)), (9, .c (.sl 1 1 0 N)), (11, iV (a : Nat)), (13, iV (b : Nat)), (15, iV (x : Nat))] [rowB N S, rowB N A]) (endG (msk 159 [0, 1, 5, 6, 8, 9, 11, 13, 15, 16]) [AR.new 4]) = Tr.done X.normal
    (cst 159 [(0, V.c (C.p (PV.l 1 n fun e x => PV.i IntKind.i64 (F e)))), (1, V.c (C.p (PV.l 1 m fun e x => PV.i IntKind.i64 (H e)))), (5, V.c (C.p (PV.i IntKind.i64 (↑N : Int)))), (6, V.c (C.p (PV.z (Value.slice none 0 0)))), (8, V.c (C.sl 0 1 0 N)), (9, V.c (C.sl 1 1 0 N)), (11, V.c (C.p (PV.i IntKind.i64 (↑a : Int)))), (13, V.c (C.p (PV.i IntKind.i64 (↑b : Int)))), (15, V.c (C.p (PV.i IntKind.i64 (↑x : Int)))), (16, V.c (C.p (PV.i IntKind.i64 0)))] [AO.row 4 1 N fun e o => renC [0, 1] (C.p (PV.b (S e))), AO.row 4 1 N fun e o => renC [0, 1] (C.p (PV.b (A e)))]) := by kernel_rfl
theorem tH11 (n m N : Nat) (F H : Nat → Int) (S A : Nat → Bool) (a b x y : Nat) : exTs ext0 (takeL 2 (lpB (flat (inr (nth .skip (lpB (pcs Tryd.prog Tryd.f26) 16) 2))) 1)) (cst 159 [(0, iV1 n F), (1, iV1 m H), (5, iV (N : Nat)), (6, .c (.p (.z (.slice none 0 0)))), (8, .c (.sl 0 1 0 N)), (9, .c (.sl 1 1 0 N)), (11, iV (a : Nat)), (13, iV (b : Nat)), (15, iV (x : Nat)), (16, iV (y : Nat))] [rowB N S, rowB N A]) (endG (msk 159 [0, 1, 5, 6, 8, 9, 11, 13, 15, 16]) [AR.new 4]) = bT (decide ((↑y : Int) < (↑b : Int)))
    (Tr.done X.normal
      (cst 159 [(0, V.c (C.p (PV.l 1 n fun e x => PV.i IntKind.i64 (F e)))), (1, V.c (C.p (PV.l 1 m fun e x => PV.i IntKind.i64 (H e)))), (5, V.c (C.p (PV.i IntKind.i64 (↑N : Int)))), (6, V.c (C.p (PV.z (Value.slice none 0 0)))), (8, V.c (C.sl 0 1 0 N)), (9, V.c (C.sl 1 1 0 N)), (11, V.c (C.p (PV.i IntKind.i64 (↑a : Int)))), (13, V.c (C.p (PV.i IntKind.i64 (↑b : Int)))), (15, V.c (C.p (PV.i IntKind.i64 (↑x : Int)))), (16, V.c (C.p (PV.i IntKind.i64 (↑y : Int))))] [AO.row 4 1 N fun e o => renC [0, 1] (C.p (PV.b (S e))), AO.row 4 1 N fun e o => renC [0, 1] (C.p (PV.b (A e)))]))
    (Tr.done (X.exit 10)
      (cst 159 [(0, V.c (C.p (PV.l 1 n fun e x => PV.i IntKind.i64 (F e)))), (1, V.c (C.p (PV.l 1 m fun e x => PV.i IntKind.i64 (H e)))), (5, V.c (C.p (PV.i IntKind.i64 (↑N : Int)))), (6, V.c (C.p (PV.z (Value.slice none 0 0)))), (8, V.c (C.sl 0 1 0 N)), (9, V.c (C.sl 1 1 0 N)), (11, V.c (C.p (PV.i IntKind.i64 (↑a : Int)))), (13, V.c (C.p (PV.i IntKind.i64 (↑b : Int)))), (15, V.c (C.p (PV.i IntKind.i64 (↑x : Int)))), (16, V.c (C.p (PV.i IntKind.i64 (↑y : Int))))] [AO.row 4 1 N fun e o => renC [0, 1] (C.p (PV.b (S e))), AO.row 4 1 N fun e o => renC [0, 1] (C.p (PV.b (A e)))])) := by kernel_rfl
theorem tH12 (n m N : Nat) (F H : Nat → Int) (S A : Nat → Bool) (a b x y : Nat) : exTs extY (takeL 2 (flat (inr (nth .skip (lpB (flat (inr (nth .skip (lpB (pcs Tryd.prog Tryd.f26) 16) 2))) 1) 2)))) (cst 159 [(0, iV1 n F), (1, iV1 m H), (5, iV (N : Nat)), (6, .c (.p (.z (.slice none 0 0)))), (8, .c (.sl 0 1 0 N)), (9, .c (.sl 1 1 0 N)), (11, iV (a : Nat)), (13, iV (b : Nat)), (15, iV (x : Nat)), (16, iV (y : Nat))] [rowB N S, rowB N A]) (endG (msk 159 [0, 1, 5, 6, 8, 9, 11, 13, 15, 16, 17, 18]) [AR.new 4]) = Tr.rq (0 ≤ (↑0 : Int) ∧ (↑0 : Int) ≤ (↑N : Int) ∧ (↑N : Int) ≤ (↑n : Int))
    (Tr.rq ((IsI ((↑N : Int).toNat - 0) fun e o => PV.i IntKind.i64 (F (e + 0))) ∧ (↑N : Int).toNat - 0 ≤ 1000000 ∧ 0 ≤ (↑x : Int) ∧ (↑x : Int) ≤ 4611686018427387904)
      (Tr.rq (0 ≤ (↑0 : Int) ∧ (↑0 : Int) ≤ (↑N : Int) ∧ (↑N : Int) ≤ (↑m : Int))
        (Tr.rq ((IsI ((↑N : Int).toNat - 0) fun e o => PV.i IntKind.i64 (H (e + 0))) ∧ (↑N : Int).toNat - 0 ≤ 1000000 ∧ 0 ≤ (↑y : Int) ∧ (↑y : Int) ≤ 4611686018427387904)
          (Tr.rq
            ((IsB ((↑N : Int).toNat - 0) fun e x_1 => PV.b (trF (iF fun e o => PV.i IntKind.i64 (F (e + 0))) (↑x : Int) e)) ∧
              (IsB ((↑N : Int).toNat - 0) fun e x => PV.b (trF (iF fun e o => PV.i IntKind.i64 (H (e + 0))) (↑y : Int) e)) ∧ (↑N : Int).toNat - 0 ≤ (↑N : Int).toNat - 0 ∧ (↑N : Int).toNat - 0 ≤ 1000000)
            (Tr.done X.normal
              (cst 159 [(0, V.c (C.p (PV.l 1 n fun e x => PV.i IntKind.i64 (F e)))), (1, V.c (C.p (PV.l 1 m fun e x => PV.i IntKind.i64 (H e)))), (5, V.c (C.p (PV.i IntKind.i64 (↑N : Int)))), (6, V.c (C.p (PV.z (Value.slice none 0 0)))), (8, V.c (C.sl 0 1 0 N)), (9, V.c (C.sl 1 1 0 N)), (11, V.c (C.p (PV.i IntKind.i64 (↑a : Int)))), (13, V.c (C.p (PV.i IntKind.i64 (↑b : Int)))), (15, V.c (C.p (PV.i IntKind.i64 (↑x : Int)))), (16, V.c (C.p (PV.i IntKind.i64 (↑y : Int)))), (17, V.c (C.p (PV.l 1 ((↑N : Int).toNat - (↑0 : Int).toNat) fun e x_1 => PV.b (laF (bF fun e x_2 => PV.b (trF (iF fun e o => (fun e x => PV.i IntKind.i64 (F e)) (e + (↑0 : Int).toNat) o) (↑x : Int) e)) (bF fun e x => PV.b (trF (iF fun e o => (fun e x => PV.i IntKind.i64 (H e)) (e + (↑0 : Int).toNat) o) (↑y : Int) e)) (e + 1))))), (18, V.c (C.p (PV.i IntKind.i64 0)))] [AO.row 4 1 N fun e o => renC [0, 1] (C.p (PV.b (S e))), AO.row 4 1 N fun e o => renC [0, 1] (C.p (PV.b (A e)))])))))) := by kernel_rfl
theorem tH13 (n m N : Nat) (F H : Nat → Int) (S A O : Nat → Bool) (a b x y i : Nat) : exTs ext0 (lpB (flat (inr (nth .skip (lpB (flat (inr (nth .skip (lpB (pcs Tryd.prog Tryd.f26) 16) 2))) 1) 2))) 2) (cst 159 [(0, iV1 n F), (1, iV1 m H), (5, iV (N : Nat)), (6, .c (.p (.z (.slice none 0 0)))), (8, .c (.sl 0 1 0 N)), (9, .c (.sl 1 1 0 N)), (11, iV (a : Nat)), (13, iV (b : Nat)), (15, iV (x : Nat)), (16, iV (y : Nat)), (17, bV1 N O), (18, iV (i : Nat))] [rowB N S, rowB N A]) (endG (msk 159 [0, 1, 5, 6, 8, 9, 11, 13, 15, 16, 17, 18]) [AR.new 4]) = bT (decide ((↑i : Int) < (↑N : Int)))
    (Tr.rq (0 ≤ (↑i : Int) ∧ (↑i : Int) < (↑N : Int))
      (Tr.rq ((↑i : Int).toNat + 0 < N)
        (bT (S ((↑i : Int).toNat + 0))
          (Tr.rq (0 ≤ (↑i : Int) ∧ (↑i : Int) < (↑N : Int))
            (Tr.rq ((↑i : Int).toNat + 0 < N)
              (Tr.rq (0 ≤ (↑i : Int) ∧ (↑i : Int) < (↑N : Int))
                (Tr.rq ((↑i : Int).toNat + 0 < N)
                  (bT (A ((↑i : Int).toNat + 0))
                    (Tr.rq (0 ≤ (↑i : Int) ∧ (↑i : Int) < (↑N : Int))
                      (Tr.rq (0 ≤ (↑i : Int) ∧ (↑i : Int) < (↑N : Int))
                        (Tr.rq ((↑i : Int).toNat + 0 < N)
                          (Tr.rq (inR IntKind.i64 ((↑i : Int) + 1))
                            (Tr.done X.normal
                              (cst 159 [(0, V.c (C.p (PV.l 1 n fun e x => PV.i IntKind.i64 (F e)))), (1, V.c (C.p (PV.l 1 m fun e x => PV.i IntKind.i64 (H e)))), (5, V.c (C.p (PV.i IntKind.i64 (↑N : Int)))), (6, V.c (C.p (PV.z (Value.slice none 0 0)))), (8, V.c (C.sl 0 1 0 N)), (9, V.c (C.sl 1 1 0 N)), (11, V.c (C.p (PV.i IntKind.i64 (↑a : Int)))), (13, V.c (C.p (PV.i IntKind.i64 (↑b : Int)))), (15, V.c (C.p (PV.i IntKind.i64 (↑x : Int)))), (16, V.c (C.p (PV.i IntKind.i64 (↑y : Int)))), (17, V.c (C.p (PV.l 1 N fun e x => PV.b (O e)))), (18, V.c (C.p (PV.i IntKind.i64 ((↑i : Int) + 1))))] [AO.row 4 1 N fun e o => renC [0, 1] (if e = (↑i : Int).toNat + 0 then if 0 ≤ o ∧ o < 1 then nth C.top [C.p (PV.b true)] (o - 0) else C.p (PV.b (S e)) else C.p (PV.b (S e))), AO.row 4 1 N fun e o => renC [0, 1] (if e = (↑i : Int).toNat + 0 then if 0 ≤ o ∧ o < 1 then nth C.top [C.p (PV.b (O (↑i : Int).toNat))] (o - 0) else C.p (PV.b (A e)) else C.p (PV.b (A e)))]))))))
                    (Tr.rq (0 ≤ (↑i : Int) ∧ (↑i : Int) < (↑N : Int))
                      (Tr.rq ((↑i : Int).toNat + 0 < N)
                        (Tr.rq (inR IntKind.i64 ((↑i : Int) + 1))
                          (Tr.done X.normal
                            (cst 159 [(0, V.c (C.p (PV.l 1 n fun e x => PV.i IntKind.i64 (F e)))), (1, V.c (C.p (PV.l 1 m fun e x => PV.i IntKind.i64 (H e)))), (5, V.c (C.p (PV.i IntKind.i64 (↑N : Int)))), (6, V.c (C.p (PV.z (Value.slice none 0 0)))), (8, V.c (C.sl 0 1 0 N)), (9, V.c (C.sl 1 1 0 N)), (11, V.c (C.p (PV.i IntKind.i64 (↑a : Int)))), (13, V.c (C.p (PV.i IntKind.i64 (↑b : Int)))), (15, V.c (C.p (PV.i IntKind.i64 (↑x : Int)))), (16, V.c (C.p (PV.i IntKind.i64 (↑y : Int)))), (17, V.c (C.p (PV.l 1 N fun e x => PV.b (O e)))), (18, V.c (C.p (PV.i IntKind.i64 ((↑i : Int) + 1))))] [AO.row 4 1 N fun e o => renC [0, 1] (if e = (↑i : Int).toNat + 0 then if 0 ≤ o ∧ o < 1 then nth C.top [C.p (PV.b true)] (o - 0) else C.p (PV.b (S e)) else C.p (PV.b (S e))), AO.row 4 1 N fun e o => renC [0, 1] (if e = (↑i : Int).toNat + 0 then if 0 ≤ o ∧ o < 1 then nth C.top [C.p (PV.b false)] (o - 0) else C.p (PV.b (A e)) else C.p (PV.b (A e)))]))))))))))
          (Tr.rq (0 ≤ (↑i : Int) ∧ (↑i : Int) < (↑N : Int))
            (Tr.rq (0 ≤ (↑i : Int) ∧ (↑i : Int) < (↑N : Int))
              (Tr.rq ((↑i : Int).toNat + 0 < N)
                (Tr.rq (0 ≤ (↑i : Int) ∧ (↑i : Int) < (↑N : Int))
                  (Tr.rq ((↑i : Int).toNat + 0 < N)
                    (bT (A ((↑i : Int).toNat + 0))
                      (Tr.rq (0 ≤ (↑i : Int) ∧ (↑i : Int) < (↑N : Int))
                        (Tr.rq (0 ≤ (↑i : Int) ∧ (↑i : Int) < (↑N : Int))
                          (Tr.rq ((↑i : Int).toNat + 0 < N)
                            (Tr.rq (inR IntKind.i64 ((↑i : Int) + 1))
                              (Tr.done X.normal
                                (cst 159 [(0, V.c (C.p (PV.l 1 n fun e x => PV.i IntKind.i64 (F e)))), (1, V.c (C.p (PV.l 1 m fun e x => PV.i IntKind.i64 (H e)))), (5, V.c (C.p (PV.i IntKind.i64 (↑N : Int)))), (6, V.c (C.p (PV.z (Value.slice none 0 0)))), (8, V.c (C.sl 0 1 0 N)), (9, V.c (C.sl 1 1 0 N)), (11, V.c (C.p (PV.i IntKind.i64 (↑a : Int)))), (13, V.c (C.p (PV.i IntKind.i64 (↑b : Int)))), (15, V.c (C.p (PV.i IntKind.i64 (↑x : Int)))), (16, V.c (C.p (PV.i IntKind.i64 (↑y : Int)))), (17, V.c (C.p (PV.l 1 N fun e x => PV.b (O e)))), (18, V.c (C.p (PV.i IntKind.i64 ((↑i : Int) + 1))))] [AO.row 4 1 N fun e o => renC [0, 1] (if e = (↑i : Int).toNat + 0 then if 0 ≤ o ∧ o < 1 then nth C.top [C.p (PV.b (O (↑i : Int).toNat))] (o - 0) else C.p (PV.b (S e)) else C.p (PV.b (S e))), AO.row 4 1 N fun e o => renC [0, 1] (if e = (↑i : Int).toNat + 0 then if 0 ≤ o ∧ o < 1 then nth C.top [C.p (PV.b (O (↑i : Int).toNat))] (o - 0) else C.p (PV.b (A e)) else C.p (PV.b (A e)))]))))))
                      (Tr.rq (0 ≤ (↑i : Int) ∧ (↑i : Int) < (↑N : Int))
                        (Tr.rq ((↑i : Int).toNat + 0 < N)
                          (Tr.rq (inR IntKind.i64 ((↑i : Int) + 1))
                            (Tr.done X.normal
                              (cst 159 [(0, V.c (C.p (PV.l 1 n fun e x => PV.i IntKind.i64 (F e)))), (1, V.c (C.p (PV.l 1 m fun e x => PV.i IntKind.i64 (H e)))), (5, V.c (C.p (PV.i IntKind.i64 (↑N : Int)))), (6, V.c (C.p (PV.z (Value.slice none 0 0)))), (8, V.c (C.sl 0 1 0 N)), (9, V.c (C.sl 1 1 0 N)), (11, V.c (C.p (PV.i IntKind.i64 (↑a : Int)))), (13, V.c (C.p (PV.i IntKind.i64 (↑b : Int)))), (15, V.c (C.p (PV.i IntKind.i64 (↑x : Int)))), (16, V.c (C.p (PV.i IntKind.i64 (↑y : Int)))), (17, V.c (C.p (PV.l 1 N fun e x => PV.b (O e)))), (18, V.c (C.p (PV.i IntKind.i64 ((↑i : Int) + 1))))] [AO.row 4 1 N fun e o => renC [0, 1] (if e = (↑i : Int).toNat + 0 then if 0 ≤ o ∧ o < 1 then nth C.top [C.p (PV.b (O (↑i : Int).toNat))] (o - 0) else C.p (PV.b (S e)) else C.p (PV.b (S e))), AO.row 4 1 N fun e o => renC [0, 1] (if e = (↑i : Int).toNat + 0 then if 0 ≤ o ∧ o < 1 then nth C.top [C.p (PV.b false)] (o - 0) else C.p (PV.b (A e)) else C.p (PV.b (A e)))]))))))))))))))
    (Tr.done (X.exit 12)
      (cst 159 [(0, V.c (C.p (PV.l 1 n fun e x => PV.i IntKind.i64 (F e)))), (1, V.c (C.p (PV.l 1 m fun e x => PV.i IntKind.i64 (H e)))), (5, V.c (C.p (PV.i IntKind.i64 (↑N : Int)))), (6, V.c (C.p (PV.z (Value.slice none 0 0)))), (8, V.c (C.sl 0 1 0 N)), (9, V.c (C.sl 1 1 0 N)), (11, V.c (C.p (PV.i IntKind.i64 (↑a : Int)))), (13, V.c (C.p (PV.i IntKind.i64 (↑b : Int)))), (15, V.c (C.p (PV.i IntKind.i64 (↑x : Int)))), (16, V.c (C.p (PV.i IntKind.i64 (↑y : Int)))), (17, V.c (C.p (PV.l 1 N fun e x => PV.b (O e)))), (18, V.c (C.p (PV.i IntKind.i64 (↑i : Int))))] [AO.row 4 1 N fun e o => renC [0, 1] (C.p (PV.b (S e))), AO.row 4 1 N fun e o => renC [0, 1] (C.p (PV.b (A e)))])) := by kernel_rfl
theorem tH14 (n m N : Nat) (F H : Nat → Int) (S A O : Nat → Bool) (a b x y i : Nat) : exTs ext0 (dropL 3 (lpB (flat (inr (nth .skip (lpB (pcs Tryd.prog Tryd.f26) 16) 2))) 1)) (cst 159 [(0, iV1 n F), (1, iV1 m H), (5, iV (N : Nat)), (6, .c (.p (.z (.slice none 0 0)))), (8, .c (.sl 0 1 0 N)), (9, .c (.sl 1 1 0 N)), (11, iV (a : Nat)), (13, iV (b : Nat)), (15, iV (x : Nat)), (16, iV (y : Nat)), (17, bV1 N O), (18, iV (i : Nat))] [rowB N S, rowB N A]) (endG (msk 159 [0, 1, 5, 6, 8, 9, 11, 13, 15, 16]) [AR.new 4]) = Tr.rq (inR IntKind.i64 ((↑y : Int) + 1))
    (Tr.done X.normal
      (cst 159 [(0, V.c (C.p (PV.l 1 n fun e x => PV.i IntKind.i64 (F e)))), (1, V.c (C.p (PV.l 1 m fun e x => PV.i IntKind.i64 (H e)))), (5, V.c (C.p (PV.i IntKind.i64 (↑N : Int)))), (6, V.c (C.p (PV.z (Value.slice none 0 0)))), (8, V.c (C.sl 0 1 0 N)), (9, V.c (C.sl 1 1 0 N)), (11, V.c (C.p (PV.i IntKind.i64 (↑a : Int)))), (13, V.c (C.p (PV.i IntKind.i64 (↑b : Int)))), (15, V.c (C.p (PV.i IntKind.i64 (↑x : Int)))), (16, V.c (C.p (PV.i IntKind.i64 ((↑y : Int) + 1))))] [AO.row 4 1 N fun e o => renC [0, 1] (C.p (PV.b (S e))), AO.row 4 1 N fun e o => renC [0, 1] (C.p (PV.b (A e)))])) := by kernel_rfl
theorem tH15 (n m N : Nat) (F H : Nat → Int) (S A : Nat → Bool) (a b x y : Nat) : exTs ext0 (dropL 3 (lpB (pcs Tryd.prog Tryd.f26) 16)) (cst 159 [(0, iV1 n F), (1, iV1 m H), (5, iV (N : Nat)), (6, .c (.p (.z (.slice none 0 0)))), (8, .c (.sl 0 1 0 N)), (9, .c (.sl 1 1 0 N)), (11, iV (a : Nat)), (13, iV (b : Nat)), (15, iV (x : Nat)), (16, iV (y : Nat))] [rowB N S, rowB N A]) (endG (msk 159 [0, 1, 5, 6, 8, 9, 11, 13, 15]) [AR.new 4]) = Tr.rq (inR IntKind.i64 ((↑x : Int) + 1))
    (Tr.done X.normal
      (cst 159 [(0, V.c (C.p (PV.l 1 n fun e x => PV.i IntKind.i64 (F e)))), (1, V.c (C.p (PV.l 1 m fun e x => PV.i IntKind.i64 (H e)))), (5, V.c (C.p (PV.i IntKind.i64 (↑N : Int)))), (6, V.c (C.p (PV.z (Value.slice none 0 0)))), (8, V.c (C.sl 0 1 0 N)), (9, V.c (C.sl 1 1 0 N)), (11, V.c (C.p (PV.i IntKind.i64 (↑a : Int)))), (13, V.c (C.p (PV.i IntKind.i64 (↑b : Int)))), (15, V.c (C.p (PV.i IntKind.i64 ((↑x : Int) + 1))))] [AO.row 4 1 N fun e o => renC [0, 1] (C.p (PV.b (S e))), AO.row 4 1 N fun e o => renC [0, 1] (C.p (PV.b (A e)))])) := by kernel_rfl
theorem tH16 (n m N : Nat) (F H : Nat → Int) (S A : Nat → Bool) (a b x : Nat) : exTs ext0 (takeL 1 (dropL 17 (pcs Tryd.prog Tryd.f26))) (cst 159 [(0, iV1 n F), (1, iV1 m H), (5, iV (N : Nat)), (6, .c (.p (.z (.slice none 0 0)))), (8, .c (.sl 0 1 0 N)), (9, .c (.sl 1 1 0 N)), (11, iV (a : Nat)), (13, iV (b : Nat)), (15, iV (x : Nat))] [rowB N S, rowB N A]) (endG (msk 159 [0, 1, 5, 6, 8, 9, 19]) [AR.new 4]) = Tr.done X.normal
    (cst 159 [(0, V.c (C.p (PV.l 1 n fun e x => PV.i IntKind.i64 (F e)))), (1, V.c (C.p (PV.l 1 m fun e x => PV.i IntKind.i64 (H e)))), (5, V.c (C.p (PV.i IntKind.i64 (↑N : Int)))), (6, V.c (C.p (PV.z (Value.slice none 0 0)))), (8, V.c (C.sl 0 1 0 N)), (9, V.c (C.sl 1 1 0 N)), (19, V.c (C.p (PV.i IntKind.i64 0)))] [AO.row 4 1 N fun e o => renC [0, 1] (C.p (PV.b (S e))), AO.row 4 1 N fun e o => renC [0, 1] (C.p (PV.b (A e)))]) := by kernel_rfl
theorem tH17 (n m N : Nat) (F H : Nat → Int) (S A : Nat → Bool) (out : List Int) (i : Nat) : exTs ext0 (lpB (pcs Tryd.prog Tryd.f26) 18) (cst 159 [(0, iV1 n F), (1, iV1 m H), (5, iV (N : Nat)), (6, .c (.sl 0 1 0 out.length)), (8, .c (.sl 1 1 0 N)), (9, .c (.sl 2 1 0 N)), (19, iV (i : Nat))] [.row 3 1 out.length (rowC encI out), rowB N S, rowB N A]) (endG (msk 159 [0, 1, 5, 6, 8, 9, 19]) [AR.new 4]) = bT (decide ((↑i : Int) < (↑N : Int)))
    (Tr.rq (0 ≤ (↑i : Int) ∧ (↑i : Int) < (↑N : Int))
      (Tr.rq ((↑i : Int).toNat + 0 < N)
        (bT (A ((↑i : Int).toNat + 0))
          (Tr.rq (out.length = out.length)
            (Tr.rq (1 ≤ 1)
              (Tr.rq ((out.length + 1) * 8 ≤ 140737488355328 ∧ out.length + 1 ≤ 140737488355328 ∧ ∀ (e o : Nat), e < 1 → o < 1 → oneC (nth C.top [C.p (PV.i IntKind.i64 2)] ((e + 0) * 1 + o)) = true)
                (Tr.rq (inR IntKind.i64 ((↑i : Int) + 1))
                  (Tr.done X.normal
                    (cst 159 [(0, V.c (C.p (PV.l 1 n fun e x => PV.i IntKind.i64 (F e)))), (1, V.c (C.p (PV.l 1 m fun e x => PV.i IntKind.i64 (H e)))), (5, V.c (C.p (PV.i IntKind.i64 (↑N : Int)))), (6, V.c (C.sl 0 1 0 (out.length + 1))), (8, V.c (C.sl 1 1 0 N)), (9, V.c (C.sl 2 1 0 N)), (19, V.c (C.p (PV.i IntKind.i64 ((↑i : Int) + 1))))] [AO.row 3 1 (out.length + 1) fun e o => renC [4, 1, 2] (appF out.length (rowC encI out) (fun e o => nth C.top [C.p (PV.i IntKind.i64 2)] ((e + 0) * 1 + o)) e o), AO.row 4 1 N fun e o => renC [4, 1, 2] (C.p (PV.b (S e))), AO.row 4 1 N fun e o => renC [4, 1, 2] (C.p (PV.b (A e)))]))))))
          (Tr.rq (0 ≤ (↑i : Int) ∧ (↑i : Int) < (↑N : Int))
            (Tr.rq ((↑i : Int).toNat + 0 < N)
              (bT (S ((↑i : Int).toNat + 0))
                (Tr.rq (out.length = out.length)
                  (Tr.rq (1 ≤ 1)
                    (Tr.rq
                      ((out.length + 1) * 8 ≤ 140737488355328 ∧ out.length + 1 ≤ 140737488355328 ∧ ∀ (e o : Nat), e < 1 → o < 1 → oneC (nth C.top [C.p (PV.i IntKind.i64 1)] ((e + 0) * 1 + o)) = true)
                      (Tr.rq (inR IntKind.i64 ((↑i : Int) + 1))
                        (Tr.done X.normal
                          (cst 159 [(0, V.c (C.p (PV.l 1 n fun e x => PV.i IntKind.i64 (F e)))), (1, V.c (C.p (PV.l 1 m fun e x => PV.i IntKind.i64 (H e)))), (5, V.c (C.p (PV.i IntKind.i64 (↑N : Int)))), (6, V.c (C.sl 0 1 0 (out.length + 1))), (8, V.c (C.sl 1 1 0 N)), (9, V.c (C.sl 2 1 0 N)), (19, V.c (C.p (PV.i IntKind.i64 ((↑i : Int) + 1))))] [AO.row 3 1 (out.length + 1) fun e o => renC [4, 1, 2] (appF out.length (rowC encI out) (fun e o => nth C.top [C.p (PV.i IntKind.i64 1)] ((e + 0) * 1 + o)) e o), AO.row 4 1 N fun e o => renC [4, 1, 2] (C.p (PV.b (S e))), AO.row 4 1 N fun e o => renC [4, 1, 2] (C.p (PV.b (A e)))]))))))
                (Tr.rq (out.length = out.length)
                  (Tr.rq (1 ≤ 1)
                    (Tr.rq
                      ((out.length + 1) * 8 ≤ 140737488355328 ∧ out.length + 1 ≤ 140737488355328 ∧ ∀ (e o : Nat), e < 1 → o < 1 → oneC (nth C.top [C.p (PV.i IntKind.i64 0)] ((e + 0) * 1 + o)) = true)
                      (Tr.rq (inR IntKind.i64 ((↑i : Int) + 1))
                        (Tr.done X.normal
                          (cst 159 [(0, V.c (C.p (PV.l 1 n fun e x => PV.i IntKind.i64 (F e)))), (1, V.c (C.p (PV.l 1 m fun e x => PV.i IntKind.i64 (H e)))), (5, V.c (C.p (PV.i IntKind.i64 (↑N : Int)))), (6, V.c (C.sl 0 1 0 (out.length + 1))), (8, V.c (C.sl 1 1 0 N)), (9, V.c (C.sl 2 1 0 N)), (19, V.c (C.p (PV.i IntKind.i64 ((↑i : Int) + 1))))] [AO.row 3 1 (out.length + 1) fun e o => renC [4, 1, 2] (appF out.length (rowC encI out) (fun e o => nth C.top [C.p (PV.i IntKind.i64 0)] ((e + 0) * 1 + o)) e o), AO.row 4 1 N fun e o => renC [4, 1, 2] (C.p (PV.b (S e))), AO.row 4 1 N fun e o => renC [4, 1, 2] (C.p (PV.b (A e)))]))))))))))))
    (Tr.done (X.exit 14)
      (cst 159 [(0, V.c (C.p (PV.l 1 n fun e x => PV.i IntKind.i64 (F e)))), (1, V.c (C.p (PV.l 1 m fun e x => PV.i IntKind.i64 (H e)))), (5, V.c (C.p (PV.i IntKind.i64 (↑N : Int)))), (6, V.c (C.sl 0 1 0 out.length)), (8, V.c (C.sl 1 1 0 N)), (9, V.c (C.sl 2 1 0 N)), (19, V.c (C.p (PV.i IntKind.i64 (↑i : Int))))] [AO.row 3 1 out.length fun e o => renC [0, 1, 2] (rowC encI out e o), AO.row 4 1 N fun e o => renC [0, 1, 2] (C.p (PV.b (S e))), AO.row 4 1 N fun e o => renC [0, 1, 2] (C.p (PV.b (A e)))])) := by kernel_rfl
theorem tH18 (n m N : Nat) (F H : Nat → Int) (S A : Nat → Bool) (out : List Int) (i : Nat) : exTs ext0 (dropL 19 (pcs Tryd.prog Tryd.f26)) (cst 159 [(0, iV1 n F), (1, iV1 m H), (5, iV (N : Nat)), (6, .c (.sl 0 1 0 out.length)), (8, .c (.sl 1 1 0 N)), (9, .c (.sl 2 1 0 N)), (19, iV (i : Nat))] [.row 3 1 out.length (rowC encI out), rowB N S, rowB N A]) (endG [] [AR.new 4]) = Tr.rq (0 + out.length ≤ out.length ∧ ∀ (e o : Nat), e < out.length → o < 1 → isP (rowC encI out (e + 0) o) = true)
    (Tr.done X.ret (St.mk [V.c (C.p (PV.l 1 out.length fun e o => unP (rowC encI out (e + 0) o)))] [])) := by kernel_rfl
theorem isI_le {n : Nat} {f : Nat → Nat → PV} (h : IsI n f) : VLe (.c (.p (.l 1 n f))) (iV1 n (iF f)) := VLe.p (PLe.l fun e o he ho => by
  obtain rfl : o = 0 := by omega
  exact PLe.of_eq (h e he))
theorem isB_le {n : Nat} {f : Nat → Nat → PV} (h : IsB n f) : VLe (.c (.p (.l 1 n f))) (bV1 n (bF f)) := VLe.p (PLe.l fun e o he ho => by
  obtain rfl : o = 0 := by omega
  exact PLe.of_eq (h e he))
section
variable {G : Nat → Option Obj} {R : Nat → Prop} {w w' : World}
theorem ints_rd {n : Nat} {F : Nat → Int} {u : Value} (hr : ∀ b, R b → b < w.heap.size) (h : VR (fun _ => none) R w (iV1 n F) u) : ∃ A c, u = .slice A n c ∧ Rd w w.heap.size A n fun k => .int .i64 (F k) := by
  obtain ⟨A, c, rfl, h1, h2, h3⟩ := h
  refine ⟨A, c, rfl, fun hn => ?_⟩
  obtain ⟨ad, e1, e2, e3⟩ := h3 hn
  refine ⟨ad, e1, hr _ e2, fun k hk => ?_⟩
  obtain ⟨u, q1, q2⟩ := e3 k 0 hk (by omega)
  rw [show k * 1 + 0 = k by omega] at q1
  rw [q1]
  exact congrArg some q2
theorem bools_rd {n : Nat} {S : Nat → Bool} {u : Value} (hr : ∀ b, R b → b < w.heap.size) (h : VR (fun _ => none) R w (bV1 n S) u) : ∃ A c, u = .slice A n c ∧ Rd w w.heap.size A n fun k => .bool (S k) := by
  obtain ⟨A, c, rfl, h1, h2, h3⟩ := h
  refine ⟨A, c, rfl, fun hn => ?_⟩
  obtain ⟨ad, e1, e2, e3⟩ := h3 hn
  refine ⟨ad, e1, hr _ e2, fun k hk => ?_⟩
  obtain ⟨u, q1, q2⟩ := e3 k 0 hk (by omega)
  rw [show k * 1 + 0 = k by omega] at q1
  rw [q1]
  exact congrArg some q2
theorem bools_own {n : Nat} {S : Nat → Bool} {v : Value} (h : w'.ownsRow w.heap.size 4 1 v n (vl (fun k => .bool (S k)) n)) : VR (fun _ => none) (newR R w w') w' (bV1 n S) v := by
  obtain ⟨_, h⟩ := h
  rcases h with ⟨rfl, h0⟩ | ⟨g, cap, cur, rfl, hg, hb, hc, hm, hs, ht⟩
  · refine ⟨none, 0, by rw [h0], by omega, by omega, fun hn => by omega⟩
  · refine ⟨_, cap, rfl, hc, hm, fun hn => ⟨_, rfl, .inr ⟨hg, (Array.getElem?_eq_some_iff.1 hb).1⟩, fun e o he ho => ?_⟩⟩
    obtain rfl : o = 0 := by omega
    have hval := congrArg (·[e]?) ht
    simp only [List.getElem?_take, show e < n * 1 by omega, if_true] at hval
    rw [vl_get _ _ _ he, Array.getElem?_toList] at hval
    refine ⟨.bool (S e), ?_, rfl⟩
    have e1 : (Addr.mk g 0 none).add (e * 1 + 0) = ⟨g, e, none⟩ := by
      unfold Addr.add; split
      · rename_i h0; rw [show e = 0 by omega]
      · simp
    rw [e1, cell_of_row w' g _ cur 4 (0, 0) hb]
    exact hval
theorem okTruths : ModOK Tryd.prog G 29 mTruths := by
  intro args p v hm hp h
  unfold mTruths at hm
  split at hm; rotate_left; · cases hm
  rename_i n f x
  obtain ⟨rfl, rfl⟩ := some_pair hm
  obtain ⟨hf, hn, hx⟩ := hp
  refine FnS.args (args' := [iV1 n (iF f), iV x]) ?_ (.cons (isI_le hf) (.cons (.refl _) .nil))
  refine fn_kit rfl ?_ h
  intro R w vs hr hg ha
  obtain ⟨u, l, e, hu, ha⟩ := All2.nth2 ha
  obtain ⟨u1, l1, rfl, hu1, ha⟩ := All2.nth2 ha
  obtain rfl := All2.nil2 ha
  have hu1 : u1 = .int .i64 x := hu1
  subst hu1
  obtain ⟨A, c, rfl, hR⟩ := ints_rd hr hu
  cases vs
  rename_i lv_
  have e : lv_ = _ := e
  subst e
  refine (rTruths_any A n c hn (iF f) x hx w hR).mono ?_
  rintro e w' ⟨v, rfl, ho, hb⟩
  exact ⟨_, rfl, bools_own ho, hb⟩
theorem okLatch : ModOK Tryd.prog G 28 mLatch := by
  intro args p v hm hp h
  unfold mLatch at hm
  split at hm; rotate_left; · cases hm
  rename_i n f m g
  obtain ⟨rfl, rfl⟩ := some_pair hm
  obtain ⟨hf, hg', hnm, hm⟩ := hp
  refine FnS.args (args' := [bV1 n (bF f), bV1 m (bF g)]) ?_ (.cons (isB_le hf) (.cons (isB_le hg') .nil))
  refine fn_kit rfl ?_ h
  intro R w vs hr hg ha
  obtain ⟨u, l, e, hu, ha⟩ := All2.nth2 ha
  obtain ⟨u1, l1, rfl, hu1, ha⟩ := All2.nth2 ha
  obtain rfl := All2.nil2 ha
  obtain ⟨A, c, rfl, hR⟩ := bools_rd hr hu
  obtain ⟨B, d, rfl, hR2⟩ := bools_rd hr hu1
  cases vs
  rename_i lv_
  have e : lv_ = _ := e
  subst e
  refine (rLatch_any A B n m c d (Nat.le_trans hnm hm) hnm hm (bF f) (bF g) w hR hR2).mono ?_
  rintro e w' ⟨v, rfl, ho, hb⟩
  exact ⟨_, rfl, bools_own ho, hb⟩
set_option maxRecDepth 100000 in
theorem okMays : ModOK Tryd.prog G 55 mMays := by
  intro args p v hm hp h
  unfold mMays at hm
  split at hm; rotate_left; · cases hm
  rename_i n f
  obtain ⟨rfl, rfl⟩ := some_pair hm
  obtain ⟨hf, hn⟩ := hp
  refine FnS.args (args' := [iV1 n (iF f)]) ?_ (.cons (isI_le hf) .nil)
  generalize iF f = F
  refine fn_S Tryd.func55 (by kernel_rfl) rfl ?_ h
  refine ExS.evG ext0_sound 3 (tM1 n F) ?_
  simp only [holds_done, kf_normal]
  refine ExS.loop' (l := dropL 3 (pcs Tryd.prog Tryd.f55)) (b := inr (inr (nth .skip (pcs Tryd.prog Tryd.f55) 3))) (r := dropL 4 (pcs Tryd.prog Tryd.f55)) (id := 0) (by kernel_rfl) (σ := Nat)
    (fun i => (fun c => cst 19 [(0, iV1 n F), (3, iV (c : Nat)), (4, iV (i : Nat))] []) (maysF F i)) (fun i => i ≤ n) (fun i => n - i) 0 (Nat.zero_le _) (weak_of_eq (by kernel_rfl)) ?_
  intro i hi Q q1n q1e _
  have hle := maysF_le F i
  refine ExS.evH ext0_sound (tM2 n F (maysF F i) i) ?_
  simp only [holds_bT, holds_rq, holds_leaf, kf_normal, kf_exit, decide_eq_true_eq, decide_eq_false_iff_not, beq_iff_eq, beq_eq_false_iff_ne, inR, show (↑i : Int).toNat = i from rfl]
  refine ⟨fun h1 => ⟨⟨by omega, h1⟩, fun h2 => ⟨by omega, by omega, ⟨q1n (i + 1) _ (by omega) (by omega) ?_⟩⟩, fun h2 => ⟨by omega, ⟨q1n (i + 1) _ (by omega) (by omega) ?_⟩⟩⟩, fun h1 => ⟨q1e _ ?_⟩⟩
  · have e : maysF F (i + 1) = maysF F i + 1 := by simp [maysF, h2]
    show WeakS G _ ((fun c => cst 19 [(0, iV1 n F), (3, iV (c : Nat)), (4, iV ((i + 1 : Nat) : Int))] []) (maysF F (i + 1)))
    rw [e]
    exact weak_of_eq (by kernel_rfl)
  · have e : maysF F (i + 1) = maysF F i := by simp [maysF, h2]
    show WeakS G _ ((fun c => cst 19 [(0, iV1 n F), (3, iV (c : Nat)), (4, iV ((i + 1 : Nat) : Int))] []) (maysF F (i + 1)))
    rw [e]
    exact weak_of_eq (by kernel_rfl)
  · obtain rfl : i = n := by omega
    refine ExS.evH ext0_sound (tM3 i F (maysF F i) i) ?_
    simp only [holds_done, kf_ret']
    exact VLe.refl _
theorem extY_sound : SoundExt Tryd.prog G extY := extOf_sound (by simp; exact ⟨okMays, okTruths, okLatch⟩)
end
end Go.AE
