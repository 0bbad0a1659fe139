/- AE contracts: ref03.Times, Less, at numbers of one digit. -/
import Derived.Test.YtplnkainmfkfgaaDoorN1
namespace Go.AE
open Go.Proofs
set_option linter.unusedVariables false
set_option linter.unusedSimpArgs false
def d8 (x y : Int) : List C := [.p (.i .u64 x), .p (.i .u64 y), .p (.i .u64 0), .p (.i .u64 0), .p (.i .u64 0), .p (.i .u64 0), .p (.i .u64 0), .p (.i .u64 0)]
def l8 (x y : Int) : List Int := [x, y, 0, 0, 0, 0, 0, 0]
def z6 : List C := [.p (.i .u64 0), .p (.i .u64 0), .p (.i .u64 0), .p (.i .u64 0), .p (.i .u64 0), .p (.i .u64 0)]
def lessD (a o b p : Int) : Int := if o < p then -1 else if p < o then 1 else if a < b then -1 else if b < a then 1 else 0
def mTimes : Mod
  | [.a (.p (.i .u64 a) :: .p (.i .u64 a1) :: r), .a (.p (.i .u64 b) :: .p (.i .u64 b1) :: q)] => some ((a1 = 0 ∧ r = z6 ∧ b1 = 0 ∧ q = z6) ∧ (0 ≤ a ∧ a < 4294967296) ∧ 0 ≤ b ∧ b < 4294967296, natV (a * b))
  | _ => none
def mLess : Mod
  | [.a (.p (.i .u64 a) :: .p (.i .u64 o) :: r), .a (.p (.i .u64 b) :: .p (.i .u64 p) :: q)] => some (r = z6 ∧ q = z6, iV (lessD a o b p))
  | _ => none
def tmT (i k : Nat) (a b o p c : Int) : Tr :=
  let w := IntKind.u64.wrap (IntKind.u64.wrap (c + (l8 o p).getD (i + k) 0) + IntKind.u64.wrap ((l8 a 0).getD i 0 * (l8 b 0).getD k 0))
  Tr.rq (inR .i64 ((i : Int) + (k : Int))) (Tr.rq (0 ≤ (i : Int) + (k : Int) ∧ (i : Int) + (k : Int) < 8) (Tr.rq (0 ≤ (i : Int) ∧ (i : Int) < 8) (Tr.rq (0 ≤ (k : Int) ∧ (k : Int) < 8)
    (Tr.rq (inR .i64 ((i : Int) + (k : Int))) (Tr.rq (0 ≤ w ∧ (0 : Int) < 4294967296) (Tr.rq (0 ≤ (i : Int) + (k : Int) ∧ (i : Int) + (k : Int) < 8) (Tr.rq (0 ≤ w ∧ (0 : Int) < 4294967296 ∧ inR .u64 (w / 4294967296))
      (Tr.rq (inR .i64 ((k : Int) + 1)) (Tr.done X.normal (cst 43 [(2, .c (.ptr 0 0)), (3, .c (.ptr 1 0)), (4, .c (.ptr 2 0)), (5, .c (.ptr 3 0)), (6, iV (i : Nat)), (7, u6V (w / 4294967296)), (8, iV ((k : Int) + 1))] [.cells 71 (d8 a 0), .cells 71 (d8 b 0), .cells 71 (d8 0 0), .cells 71 ((d8 o p).set (i + k) (.p (.i .u64 (w % 4294967296))))]))))))))))
def lsT (i : Nat) (a b o p : Int) : Tr :=
  let x := (l8 a o).getD i 0
  let y := (l8 b p).getD i 0
  Tr.rq (0 ≤ (i : Int) ∧ (i : Int) < 8) (Tr.rq (0 ≤ (i : Int) ∧ (i : Int) < 8) (bT (decide (x < y)) (Tr.done .ret (St.mk [iV (-1)] [])) (Tr.rq (0 ≤ (i : Int) ∧ (i : Int) < 8) (Tr.rq (0 ≤ (i : Int) ∧ (i : Int) < 8) (bT (decide (y < x)) (Tr.done .ret (St.mk [iV 1] []))
    (Tr.rq (inR .i64 ((i : Int) - 1)) (Tr.done X.normal (cst 24 [(2, .c (.ptr 0 0)), (3, .c (.ptr 1 0)), (5, iV ((i : Int) - 1))] [.cells 71 (d8 a o), .cells 71 (d8 b p)]))))))))
def oF (x : Int) (i k : Nat) : Int := if i = 0 ∧ k = 0 then 0 else x % 4294967296
def pF (x : Int) (i k : Nat) : Int := if i = 0 ∧ k ≤ 1 then 0 else x / 4294967296
def cF (x : Int) (i k : Nat) : Int := if i = 0 ∧ k = 1 then x / 4294967296 else 0

theorem tTm1 (a b : Int) : exTs ext0 (takeL 3 (pcs Tryd.prog Tryd.f39)) (st0 Tryd.f39 [.a (d8 a 0), .a (d8 b 0)]) (endG (msk 43 [2, 3, 4, 5, 6]) (resOf Tryd.prog Tryd.f39)) = Tr.done X.normal
    (cst 43 [(2, V.c (C.ptr 0 0)), (3, V.c (C.ptr 1 0)), (4, V.c (C.ptr 2 0)), (5, V.c (C.ptr 3 0)), (6, V.c (C.p (PV.i IntKind.i64 0)))] [AO.cells 71 [C.p (PV.i IntKind.u64 a), C.p (PV.i IntKind.u64 0), C.p (PV.i IntKind.u64 0), C.p (PV.i IntKind.u64 0), C.p (PV.i IntKind.u64 0), C.p (PV.i IntKind.u64 0), C.p (PV.i IntKind.u64 0), C.p (PV.i IntKind.u64 0)], AO.cells 71 [C.p (PV.i IntKind.u64 b), C.p (PV.i IntKind.u64 0), C.p (PV.i IntKind.u64 0), C.p (PV.i IntKind.u64 0), C.p (PV.i IntKind.u64 0), C.p (PV.i IntKind.u64 0), C.p (PV.i IntKind.u64 0), C.p (PV.i IntKind.u64 0)], AO.cells 71 [C.p (PV.i IntKind.u64 0), C.p (PV.i IntKind.u64 0), C.p (PV.i IntKind.u64 0), C.p (PV.i IntKind.u64 0), C.p (PV.i IntKind.u64 0), C.p (PV.i IntKind.u64 0), C.p (PV.i IntKind.u64 0), C.p (PV.i IntKind.u64 0)], AO.cells 71 [C.p (PV.i IntKind.u64 0), C.p (PV.i IntKind.u64 0), C.p (PV.i IntKind.u64 0), C.p (PV.i IntKind.u64 0), C.p (PV.i IntKind.u64 0), C.p (PV.i IntKind.u64 0), C.p (PV.i IntKind.u64 0), C.p (PV.i IntKind.u64 0)]]) := by kernel_rfl
theorem tTm2 (a b o p : Int) (i : Nat) : exTs ext0 (takeL 2 (lpB (pcs Tryd.prog Tryd.f39) 3)) (cst 43 [(2, .c (.ptr 0 0)), (3, .c (.ptr 1 0)), (4, .c (.ptr 2 0)), (5, .c (.ptr 3 0)), (6, iV (i : Nat))] [.cells 71 (d8 a 0), .cells 71 (d8 b 0), .cells 71 (d8 0 0), .cells 71 (d8 o p)]) (endG (msk 43 [2, 3, 4, 5, 6]) (resOf Tryd.prog Tryd.f39)) = bT (decide ((↑i : Int) < 8))
    (Tr.done X.normal
      (cst 43 [(2, V.c (C.ptr 0 0)), (3, V.c (C.ptr 1 0)), (4, V.c (C.ptr 2 0)), (5, V.c (C.ptr 3 0)), (6, V.c (C.p (PV.i IntKind.i64 (↑i : Int))))] [AO.cells 71 [C.p (PV.i IntKind.u64 a), C.p (PV.i IntKind.u64 0), C.p (PV.i IntKind.u64 0), C.p (PV.i IntKind.u64 0), C.p (PV.i IntKind.u64 0), C.p (PV.i IntKind.u64 0), C.p (PV.i IntKind.u64 0), C.p (PV.i IntKind.u64 0)], AO.cells 71 [C.p (PV.i IntKind.u64 b), C.p (PV.i IntKind.u64 0), C.p (PV.i IntKind.u64 0), C.p (PV.i IntKind.u64 0), C.p (PV.i IntKind.u64 0), C.p (PV.i IntKind.u64 0), C.p (PV.i IntKind.u64 0), C.p (PV.i IntKind.u64 0)], AO.cells 71 [C.p (PV.i IntKind.u64 0), C.p (PV.i IntKind.u64 0), C.p (PV.i IntKind.u64 0), C.p (PV.i IntKind.u64 0), C.p (PV.i IntKind.u64 0), C.p (PV.i IntKind.u64 0), C.p (PV.i IntKind.u64 0), C.p (PV.i IntKind.u64 0)], AO.cells 71 [C.p (PV.i IntKind.u64 o), C.p (PV.i IntKind.u64 p), C.p (PV.i IntKind.u64 0), C.p (PV.i IntKind.u64 0), C.p (PV.i IntKind.u64 0), C.p (PV.i IntKind.u64 0), C.p (PV.i IntKind.u64 0), C.p (PV.i IntKind.u64 0)]]))
    (Tr.done (X.exit 0)
      (cst 43 [(2, V.c (C.ptr 0 0)), (3, V.c (C.ptr 1 0)), (4, V.c (C.ptr 2 0)), (5, V.c (C.ptr 3 0)), (6, V.c (C.p (PV.i IntKind.i64 (↑i : Int))))] [AO.cells 71 [C.p (PV.i IntKind.u64 a), C.p (PV.i IntKind.u64 0), C.p (PV.i IntKind.u64 0), C.p (PV.i IntKind.u64 0), C.p (PV.i IntKind.u64 0), C.p (PV.i IntKind.u64 0), C.p (PV.i IntKind.u64 0), C.p (PV.i IntKind.u64 0)], AO.cells 71 [C.p (PV.i IntKind.u64 b), C.p (PV.i IntKind.u64 0), C.p (PV.i IntKind.u64 0), C.p (PV.i IntKind.u64 0), C.p (PV.i IntKind.u64 0), C.p (PV.i IntKind.u64 0), C.p (PV.i IntKind.u64 0), C.p (PV.i IntKind.u64 0)], AO.cells 71 [C.p (PV.i IntKind.u64 0), C.p (PV.i IntKind.u64 0), C.p (PV.i IntKind.u64 0), C.p (PV.i IntKind.u64 0), C.p (PV.i IntKind.u64 0), C.p (PV.i IntKind.u64 0), C.p (PV.i IntKind.u64 0), C.p (PV.i IntKind.u64 0)], AO.cells 71 [C.p (PV.i IntKind.u64 o), C.p (PV.i IntKind.u64 p), C.p (PV.i IntKind.u64 0), C.p (PV.i IntKind.u64 0), C.p (PV.i IntKind.u64 0), C.p (PV.i IntKind.u64 0), C.p (PV.i IntKind.u64 0), C.p (PV.i IntKind.u64 0)]])) := by kernel_rfl
theorem tTm3 (a b o p : Int) (i : Nat) : exTs ext0 (takeL 2 (flat (inr (nth .skip (lpB (pcs Tryd.prog Tryd.f39) 3) 2)))) (cst 43 [(2, .c (.ptr 0 0)), (3, .c (.ptr 1 0)), (4, .c (.ptr 2 0)), (5, .c (.ptr 3 0)), (6, iV (i : Nat))] [.cells 71 (d8 a 0), .cells 71 (d8 b 0), .cells 71 (d8 0 0), .cells 71 (d8 o p)]) (endG (msk 43 [2, 3, 4, 5, 6, 7, 8]) (resOf Tryd.prog Tryd.f39)) = Tr.done X.normal
    (cst 43 [(2, V.c (C.ptr 0 0)), (3, V.c (C.ptr 1 0)), (4, V.c (C.ptr 2 0)), (5, V.c (C.ptr 3 0)), (6, V.c (C.p (PV.i IntKind.i64 (↑i : Int)))), (7, V.c (C.p (PV.i IntKind.u64 0))), (8, V.c (C.p (PV.i IntKind.i64 0)))] [AO.cells 71 [C.p (PV.i IntKind.u64 a), C.p (PV.i IntKind.u64 0), C.p (PV.i IntKind.u64 0), C.p (PV.i IntKind.u64 0), C.p (PV.i IntKind.u64 0), C.p (PV.i IntKind.u64 0), C.p (PV.i IntKind.u64 0), C.p (PV.i IntKind.u64 0)], AO.cells 71 [C.p (PV.i IntKind.u64 b), C.p (PV.i IntKind.u64 0), C.p (PV.i IntKind.u64 0), C.p (PV.i IntKind.u64 0), C.p (PV.i IntKind.u64 0), C.p (PV.i IntKind.u64 0), C.p (PV.i IntKind.u64 0), C.p (PV.i IntKind.u64 0)], AO.cells 71 [C.p (PV.i IntKind.u64 0), C.p (PV.i IntKind.u64 0), C.p (PV.i IntKind.u64 0), C.p (PV.i IntKind.u64 0), C.p (PV.i IntKind.u64 0), C.p (PV.i IntKind.u64 0), C.p (PV.i IntKind.u64 0), C.p (PV.i IntKind.u64 0)], AO.cells 71 [C.p (PV.i IntKind.u64 o), C.p (PV.i IntKind.u64 p), C.p (PV.i IntKind.u64 0), C.p (PV.i IntKind.u64 0), C.p (PV.i IntKind.u64 0), C.p (PV.i IntKind.u64 0), C.p (PV.i IntKind.u64 0), C.p (PV.i IntKind.u64 0)]]) := by kernel_rfl
theorem tTm4 (a b o p c : Int) (i k : Nat) : exTs ext0 (takeL 2 (lpB (flat (inr (nth .skip (lpB (pcs Tryd.prog Tryd.f39) 3) 2))) 2)) (cst 43 [(2, .c (.ptr 0 0)), (3, .c (.ptr 1 0)), (4, .c (.ptr 2 0)), (5, .c (.ptr 3 0)), (6, iV (i : Nat)), (7, u6V c), (8, iV (k : Nat))] [.cells 71 (d8 a 0), .cells 71 (d8 b 0), .cells 71 (d8 0 0), .cells 71 (d8 o p)]) (endG (msk 43 [2, 3, 4, 5, 6, 7, 8]) (resOf Tryd.prog Tryd.f39)) = Tr.rq (inR IntKind.i64 ((↑i : Int) + (↑k : Int)))
    (bT (decide ((↑i : Int) + (↑k : Int) < 8))
      (Tr.done X.normal
        (cst 43 [(2, V.c (C.ptr 0 0)), (3, V.c (C.ptr 1 0)), (4, V.c (C.ptr 2 0)), (5, V.c (C.ptr 3 0)), (6, V.c (C.p (PV.i IntKind.i64 (↑i : Int)))), (7, V.c (C.p (PV.i IntKind.u64 c))), (8, V.c (C.p (PV.i IntKind.i64 (↑k : Int))))] [AO.cells 71 [C.p (PV.i IntKind.u64 a), C.p (PV.i IntKind.u64 0), C.p (PV.i IntKind.u64 0), C.p (PV.i IntKind.u64 0), C.p (PV.i IntKind.u64 0), C.p (PV.i IntKind.u64 0), C.p (PV.i IntKind.u64 0), C.p (PV.i IntKind.u64 0)], AO.cells 71 [C.p (PV.i IntKind.u64 b), C.p (PV.i IntKind.u64 0), C.p (PV.i IntKind.u64 0), C.p (PV.i IntKind.u64 0), C.p (PV.i IntKind.u64 0), C.p (PV.i IntKind.u64 0), C.p (PV.i IntKind.u64 0), C.p (PV.i IntKind.u64 0)], AO.cells 71 [C.p (PV.i IntKind.u64 0), C.p (PV.i IntKind.u64 0), C.p (PV.i IntKind.u64 0), C.p (PV.i IntKind.u64 0), C.p (PV.i IntKind.u64 0), C.p (PV.i IntKind.u64 0), C.p (PV.i IntKind.u64 0), C.p (PV.i IntKind.u64 0)], AO.cells 71 [C.p (PV.i IntKind.u64 o), C.p (PV.i IntKind.u64 p), C.p (PV.i IntKind.u64 0), C.p (PV.i IntKind.u64 0), C.p (PV.i IntKind.u64 0), C.p (PV.i IntKind.u64 0), C.p (PV.i IntKind.u64 0), C.p (PV.i IntKind.u64 0)]]))
      (Tr.done (X.exit 2)
        (cst 43 [(2, V.c (C.ptr 0 0)), (3, V.c (C.ptr 1 0)), (4, V.c (C.ptr 2 0)), (5, V.c (C.ptr 3 0)), (6, V.c (C.p (PV.i IntKind.i64 (↑i : Int)))), (7, V.c (C.p (PV.i IntKind.u64 c))), (8, V.c (C.p (PV.i IntKind.i64 (↑k : Int))))] [AO.cells 71 [C.p (PV.i IntKind.u64 a), C.p (PV.i IntKind.u64 0), C.p (PV.i IntKind.u64 0), C.p (PV.i IntKind.u64 0), C.p (PV.i IntKind.u64 0), C.p (PV.i IntKind.u64 0), C.p (PV.i IntKind.u64 0), C.p (PV.i IntKind.u64 0)], AO.cells 71 [C.p (PV.i IntKind.u64 b), C.p (PV.i IntKind.u64 0), C.p (PV.i IntKind.u64 0), C.p (PV.i IntKind.u64 0), C.p (PV.i IntKind.u64 0), C.p (PV.i IntKind.u64 0), C.p (PV.i IntKind.u64 0), C.p (PV.i IntKind.u64 0)], AO.cells 71 [C.p (PV.i IntKind.u64 0), C.p (PV.i IntKind.u64 0), C.p (PV.i IntKind.u64 0), C.p (PV.i IntKind.u64 0), C.p (PV.i IntKind.u64 0), C.p (PV.i IntKind.u64 0), C.p (PV.i IntKind.u64 0), C.p (PV.i IntKind.u64 0)], AO.cells 71 [C.p (PV.i IntKind.u64 o), C.p (PV.i IntKind.u64 p), C.p (PV.i IntKind.u64 0), C.p (PV.i IntKind.u64 0), C.p (PV.i IntKind.u64 0), C.p (PV.i IntKind.u64 0), C.p (PV.i IntKind.u64 0), C.p (PV.i IntKind.u64 0)]]))) := by kernel_rfl
theorem tTm7 (a b o p : Int) (i : Nat) : exTs ext0 (dropL 3 (lpB (pcs Tryd.prog Tryd.f39) 3)) (cst 43 [(2, .c (.ptr 0 0)), (3, .c (.ptr 1 0)), (4, .c (.ptr 2 0)), (5, .c (.ptr 3 0)), (6, iV (i : Nat))] [.cells 71 (d8 a 0), .cells 71 (d8 b 0), .cells 71 (d8 0 0), .cells 71 (d8 o p)]) (endG (msk 43 [2, 3, 4, 5, 6]) (resOf Tryd.prog Tryd.f39)) = Tr.rq (inR IntKind.i64 ((↑i : Int) + 1))
    (Tr.done X.normal
      (cst 43 [(2, V.c (C.ptr 0 0)), (3, V.c (C.ptr 1 0)), (4, V.c (C.ptr 2 0)), (5, V.c (C.ptr 3 0)), (6, V.c (C.p (PV.i IntKind.i64 ((↑i : Int) + 1))))] [AO.cells 71 [C.p (PV.i IntKind.u64 a), C.p (PV.i IntKind.u64 0), C.p (PV.i IntKind.u64 0), C.p (PV.i IntKind.u64 0), C.p (PV.i IntKind.u64 0), C.p (PV.i IntKind.u64 0), C.p (PV.i IntKind.u64 0), C.p (PV.i IntKind.u64 0)], AO.cells 71 [C.p (PV.i IntKind.u64 b), C.p (PV.i IntKind.u64 0), C.p (PV.i IntKind.u64 0), C.p (PV.i IntKind.u64 0), C.p (PV.i IntKind.u64 0), C.p (PV.i IntKind.u64 0), C.p (PV.i IntKind.u64 0), C.p (PV.i IntKind.u64 0)], AO.cells 71 [C.p (PV.i IntKind.u64 0), C.p (PV.i IntKind.u64 0), C.p (PV.i IntKind.u64 0), C.p (PV.i IntKind.u64 0), C.p (PV.i IntKind.u64 0), C.p (PV.i IntKind.u64 0), C.p (PV.i IntKind.u64 0), C.p (PV.i IntKind.u64 0)], AO.cells 71 [C.p (PV.i IntKind.u64 o), C.p (PV.i IntKind.u64 p), C.p (PV.i IntKind.u64 0), C.p (PV.i IntKind.u64 0), C.p (PV.i IntKind.u64 0), C.p (PV.i IntKind.u64 0), C.p (PV.i IntKind.u64 0), C.p (PV.i IntKind.u64 0)]])) := by kernel_rfl
theorem tTm8 (a b o p : Int) (i : Nat) : exTs ext0 (dropL 4 (pcs Tryd.prog Tryd.f39)) (cst 43 [(2, .c (.ptr 0 0)), (3, .c (.ptr 1 0)), (4, .c (.ptr 2 0)), (5, .c (.ptr 3 0)), (6, iV (i : Nat))] [.cells 71 (d8 a 0), .cells 71 (d8 b 0), .cells 71 (d8 0 0), .cells 71 (d8 o p)]) (endG [] (resOf Tryd.prog Tryd.f39)) = Tr.done X.ret
    (St.mk [V.a [C.p (PV.i IntKind.u64 o), C.p (PV.i IntKind.u64 p), C.p (PV.i IntKind.u64 0), C.p (PV.i IntKind.u64 0), C.p (PV.i IntKind.u64 0), C.p (PV.i IntKind.u64 0), C.p (PV.i IntKind.u64 0), C.p (PV.i IntKind.u64 0)]] []) := by kernel_rfl
theorem tLs1 (a b o p : Int) : exTs ext0 (takeL 2 (pcs Tryd.prog Tryd.f43)) (st0 Tryd.f43 [.a (d8 a o), .a (d8 b p)]) (endG (msk 24 [2, 3, 5]) (resOf Tryd.prog Tryd.f43)) = Tr.done X.normal
    (cst 24 [(2, V.c (C.ptr 0 0)), (3, V.c (C.ptr 1 0)), (5, V.c (C.p (PV.i IntKind.i64 7)))] [AO.cells 71 [C.p (PV.i IntKind.u64 a), C.p (PV.i IntKind.u64 o), C.p (PV.i IntKind.u64 0), C.p (PV.i IntKind.u64 0), C.p (PV.i IntKind.u64 0), C.p (PV.i IntKind.u64 0), C.p (PV.i IntKind.u64 0), C.p (PV.i IntKind.u64 0)], AO.cells 71 [C.p (PV.i IntKind.u64 b), C.p (PV.i IntKind.u64 p), C.p (PV.i IntKind.u64 0), C.p (PV.i IntKind.u64 0), C.p (PV.i IntKind.u64 0), C.p (PV.i IntKind.u64 0), C.p (PV.i IntKind.u64 0), C.p (PV.i IntKind.u64 0)]]) := by kernel_rfl
theorem tLs2 (a b o p i : Int) : exTs ext0 (takeL 2 (lpB (pcs Tryd.prog Tryd.f43) 2)) (cst 24 [(2, .c (.ptr 0 0)), (3, .c (.ptr 1 0)), (5, iV i)] [.cells 71 (d8 a o), .cells 71 (d8 b p)]) (endG (msk 24 [2, 3, 5]) (resOf Tryd.prog Tryd.f43)) = bT (decide (0 ≤ i))
    (Tr.done X.normal
      (cst 24 [(2, V.c (C.ptr 0 0)), (3, V.c (C.ptr 1 0)), (5, V.c (C.p (PV.i IntKind.i64 i)))] [AO.cells 71 [C.p (PV.i IntKind.u64 a), C.p (PV.i IntKind.u64 o), C.p (PV.i IntKind.u64 0), C.p (PV.i IntKind.u64 0), C.p (PV.i IntKind.u64 0), C.p (PV.i IntKind.u64 0), C.p (PV.i IntKind.u64 0), C.p (PV.i IntKind.u64 0)], AO.cells 71 [C.p (PV.i IntKind.u64 b), C.p (PV.i IntKind.u64 p), C.p (PV.i IntKind.u64 0), C.p (PV.i IntKind.u64 0), C.p (PV.i IntKind.u64 0), C.p (PV.i IntKind.u64 0), C.p (PV.i IntKind.u64 0), C.p (PV.i IntKind.u64 0)]]))
    (Tr.done (X.exit 0)
      (cst 24 [(2, V.c (C.ptr 0 0)), (3, V.c (C.ptr 1 0)), (5, V.c (C.p (PV.i IntKind.i64 i)))] [AO.cells 71 [C.p (PV.i IntKind.u64 a), C.p (PV.i IntKind.u64 o), C.p (PV.i IntKind.u64 0), C.p (PV.i IntKind.u64 0), C.p (PV.i IntKind.u64 0), C.p (PV.i IntKind.u64 0), C.p (PV.i IntKind.u64 0), C.p (PV.i IntKind.u64 0)], AO.cells 71 [C.p (PV.i IntKind.u64 b), C.p (PV.i IntKind.u64 p), C.p (PV.i IntKind.u64 0), C.p (PV.i IntKind.u64 0), C.p (PV.i IntKind.u64 0), C.p (PV.i IntKind.u64 0), C.p (PV.i IntKind.u64 0), C.p (PV.i IntKind.u64 0)]])) := by kernel_rfl
theorem tLs5 (a b o p i : Int) : exTs ext0 (dropL 3 (pcs Tryd.prog Tryd.f43)) (cst 24 [(2, .c (.ptr 0 0)), (3, .c (.ptr 1 0)), (5, iV i)] [.cells 71 (d8 a o), .cells 71 (d8 b p)]) (endG [] (resOf Tryd.prog Tryd.f43)) = Tr.done X.ret (St.mk [V.c (C.p (PV.i IntKind.i64 0))] []) := by kernel_rfl
theorem cases8 {p : Nat → Prop} (h0 : p 0) (h1 : p 1) (h2 : p 2) (h3 : p 3) (h4 : p 4) (h5 : p 5) (h6 : p 6) (h7 : p 7) : ∀ i : Nat, i < 8 → p i := by
  intro i h
  obtain rfl | rfl | rfl | rfl | rfl | rfl | rfl | rfl : i = 0 ∨ i = 1 ∨ i = 2 ∨ i = 3 ∨ i = 4 ∨ i = 5 ∨ i = 6 ∨ i = 7 := by omega
  all_goals assumption
set_option maxRecDepth 100000 in
theorem tmBody (a b o p c : Int) : ∀ i : Nat, i < 8 → ∀ k : Nat, k < 8 → i + k < 8 → exTs ext0 (dropL 2 (lpB (flat (inr (nth .skip (lpB (pcs Tryd.prog Tryd.f39) 3) 2))) 2)) (cst 43 [(2, .c (.ptr 0 0)), (3, .c (.ptr 1 0)), (4, .c (.ptr 2 0)), (5, .c (.ptr 3 0)), (6, iV (i : Nat)), (7, u6V c), (8, iV (k : Nat))] [.cells 71 (d8 a 0), .cells 71 (d8 b 0), .cells 71 (d8 0 0), .cells 71 (d8 o p)]) (endG (msk 43 [2, 3, 4, 5, 6, 7, 8]) (resOf Tryd.prog Tryd.f39)) = tmT i k a b o p c := by
  refine cases8 ?_ ?_ ?_ ?_ ?_ ?_ ?_ ?_ <;> refine cases8 ?_ ?_ ?_ ?_ ?_ ?_ ?_ ?_ <;> intro h <;> first | exact absurd h (by decide) | kernel_rfl
theorem lsBody (a b o p : Int) : ∀ i : Nat, i < 8 → exTs ext0 (dropL 2 (lpB (pcs Tryd.prog Tryd.f43) 2)) ((fun i : Int => cst 24 [(2, .c (.ptr 0 0)), (3, .c (.ptr 1 0)), (5, iV i)] [.cells 71 (d8 a o), .cells 71 (d8 b p)]) (i : Int)) (endG (msk 24 [2, 3, 5]) (resOf Tryd.prog Tryd.f43)) = lsT i a b o p := by
  refine cases8 ?_ ?_ ?_ ?_ ?_ ?_ ?_ ?_ <;> kernel_rfl
theorem tmVal {a b x : Int} (hx : a * b = x) (h0 : 0 ≤ x) (h1 : x < 18446744073709551616) : ∀ i : Nat, i < 8 → ∀ k : Nat, k < 8 → i + k < 8 →
    let w := IntKind.u64.wrap (IntKind.u64.wrap (cF x i k + (l8 (oF x i k) (pF x i k)).getD (i + k) 0) + IntKind.u64.wrap ((l8 a 0).getD i 0 * (l8 b 0).getD k 0))
    (0 ≤ w ∧ w < 18446744073709551616) ∧ w / 4294967296 = cF x i (k + 1) ∧ (d8 (oF x i k) (pF x i k)).set (i + k) (.p (.i .u64 (w % 4294967296))) = d8 (oF x i (k + 1)) (pF x i (k + 1)) := by
  have q0 := Int.ediv_nonneg h0 (show (0 : Int) ≤ 4294967296 by decide)
  refine cases8 ?_ ?_ ?_ ?_ ?_ ?_ ?_ ?_ <;> refine cases8 ?_ ?_ ?_ ?_ ?_ ?_ ?_ ?_ <;> intro h <;> first | exact absurd h (by decide) | (simp [l8, d8, oF, pF, cF, IntKind.wrap_u64, hx]; try omega)
section
variable {G : Nat → Option Obj}
set_option maxRecDepth 100000 in
theorem okTimes : ModOK Tryd.prog G 39 mTimes := by
  intro args p v hm hp h
  unfold mTimes at hm
  split at hm; rotate_left; · cases hm
  rename_i a a1 r b b1 q
  obtain ⟨rfl, rfl⟩ := some_pairQ hm
  obtain ⟨⟨rfl, rfl, rfl, rfl⟩, ⟨a0, a1⟩, b0, b1⟩ := hp
  clear hm
  have x0 : 0 ≤ a * b := Int.mul_nonneg a0 b0
  have x1 : a * b < 18446744073709551616 := by
    have h1 : a * b ≤ 4294967295 * b := Int.mul_le_mul_of_nonneg_right (by omega) b0
    omega
  generalize hx : a * b = x at x0 x1 ⊢
  refine fn_S Tryd.func39 (by kernel_rfl) rfl ?_ h
  refine ExS.evG ext0_sound 3 (tTm1 a b) ?_
  simp only [holds_leaf, kf_normal]
  refine ⟨?_⟩
  refine ExS.loop' (l := dropL 3 (pcs Tryd.prog Tryd.f39)) (b := inr (inr (nth .skip (pcs Tryd.prog Tryd.f39) 3))) (r := dropL 4 (pcs Tryd.prog Tryd.f39)) (id := 0) (by kernel_rfl) (σ := Nat)
    (fun i => (fun (o p : Int) => cst 43 [(2, .c (.ptr 0 0)), (3, .c (.ptr 1 0)), (4, .c (.ptr 2 0)), (5, .c (.ptr 3 0)), (6, iV (i : Nat))] [.cells 71 (d8 a 0), .cells 71 (d8 b 0), .cells 71 (d8 0 0), .cells 71 (d8 o p)]) (oF x i 0) (pF x i 0)) (fun i => i ≤ 8) (fun i => 8 - i) 0 (by omega) (weak_of_eq (by kernel_rfl)) ?_
  rintro i hi Q1 q1n q1e -
  dsimp only at hi q1n q1e ⊢
  refine ExS.evG ext0_sound 2 (tTm2 a b _ _ i) ?_
  simp only [holds_bT, holds_leaf, kf_normal, kf_exit, decide_eq_true_eq, decide_eq_false_iff_not]
  refine ⟨fun h1 => ⟨?_⟩, fun h1 => ⟨q1e _ ?_⟩⟩
  · refine ExS.blk' (l := dropL 2 (lpB (pcs Tryd.prog Tryd.f39) 3)) (id := 1) (a := inr (nth .skip (lpB (pcs Tryd.prog Tryd.f39) 3) 2)) (r := dropL 3 (lpB (pcs Tryd.prog Tryd.f39) 3)) (by kernel_rfl) ?_
    intro Q2 q2n _ _
    refine ExS.evG ext0_sound 2 (tTm3 a b _ _ i) ?_
    simp only [holds_leaf, kf_normal]
    refine ⟨?_⟩
    refine ExS.loop' (l := dropL 2 (flat (inr (nth .skip (lpB (pcs Tryd.prog Tryd.f39) 3) 2)))) (b := inr (inr (nth .skip (flat (inr (nth .skip (lpB (pcs Tryd.prog Tryd.f39) 3) 2))) 2))) (r := dropL 3 (flat (inr (nth .skip (lpB (pcs Tryd.prog Tryd.f39) 3) 2)))) (id := 2) (by kernel_rfl) (σ := Nat)
      (fun k => (fun (o p c : Int) => cst 43 [(2, .c (.ptr 0 0)), (3, .c (.ptr 1 0)), (4, .c (.ptr 2 0)), (5, .c (.ptr 3 0)), (6, iV (i : Nat)), (7, u6V c), (8, iV (k : Nat))] [.cells 71 (d8 a 0), .cells 71 (d8 b 0), .cells 71 (d8 0 0), .cells 71 (d8 o p)]) (oF x i k) (pF x i k) (cF x i k)) (fun k => i + k ≤ 8) (fun k => 8 - k) 0 (by omega) (by rw [show cF x i 0 = 0 by simp [cF]]; exact weak_of_eq (by kernel_rfl)) ?_
    rintro k hk Q3 q3n q3e -
    dsimp only at hk q3n q3e ⊢
    refine ExS.evG ext0_sound 2 (tTm4 a b _ _ _ i k) ?_
    simp only [holds_bT, holds_rq, holds_leaf, kf_normal, kf_exit, decide_eq_true_eq, decide_eq_false_iff_not]
    refine ⟨by simp only [inR]; omega, fun h2 => ⟨?_⟩, fun h2 => ⟨q3e _ ?_⟩⟩
    · have h3 : i + k < 8 := by omega
      refine ExS.evH ext0_sound (tmBody a b _ _ _ i (by omega) k (by omega) h3) ?_
      obtain ⟨w0, w1, w2⟩ := tmVal hx x0 x1 i (by omega) k (by omega) h3
      unfold tmT
      dsimp only at w0 w1 w2 ⊢
      rw [w2]
      generalize IntKind.u64.wrap (IntKind.u64.wrap (cF x i k + (l8 (oF x i k) (pF x i k)).getD (i + k) 0) + IntKind.u64.wrap ((l8 a 0).getD i 0 * (l8 b 0).getD k 0)) = w at *
      rw [w1]
      simp only [holds_rq, holds_leaf, kf_normal, inR]
      refine ⟨by omega, by omega, by omega, by omega, by omega, by omega, by omega, ⟨by omega, by omega, ?_⟩, by omega, ⟨q3n (k + 1) _ (by omega) (by omega) (weak_of_eq (by kernel_rfl))⟩⟩
      rw [← w1]; omega
    · have h3 : i + k = 8 := by omega
      refine ⟨_, WeakS.refl _, q2n _ ?_⟩
      refine ExS.pre (st2 := (fun (o p : Int) => cst 43 [(2, .c (.ptr 0 0)), (3, .c (.ptr 1 0)), (4, .c (.ptr 2 0)), (5, .c (.ptr 3 0)), (6, iV (i : Nat))] [.cells 71 (d8 a 0), .cells 71 (d8 b 0), .cells 71 (d8 0 0), .cells 71 (d8 o p)]) (oF x (i + 1) 0) (pF x (i + 1) 0)) ?_ ?_
      · have e1 : oF x i k = oF x (i + 1) 0 := by
          unfold oF; rw [if_neg (by omega), if_neg (by omega)]
        have e2 : pF x i k = pF x (i + 1) 0 := by
          unfold pF; rw [if_neg (by omega), if_neg (by omega)]
        rw [e1, e2]
        exact (weak_gc (msk 43 [2, 3, 4, 5, 6]) _).trans (weak_of_eq (by kernel_rfl))
      refine ExS.evH ext0_sound (tTm7 a b _ _ i) ?_
      simp only [holds_rq, holds_leaf, kf_normal, inR]
      exact ⟨by omega, ⟨q1n (i + 1) _ (by omega) (by omega) (weak_of_eq (by kernel_rfl))⟩⟩
  · obtain rfl : i = 8 := by omega
    refine ExS.evH ext0_sound (tTm8 a b _ _ 8) ?_
    simp only [holds_leaf, kf_ret']
    exact ⟨VLe.refl _⟩
set_option maxRecDepth 100000 in
theorem okLess : ModOK Tryd.prog G 43 mLess := by
  intro args p v hm hp h
  unfold mLess at hm
  split at hm; rotate_left; · cases hm
  rename_i a o r b p q
  obtain ⟨rfl, rfl⟩ := some_pairQ hm
  obtain ⟨rfl, rfl⟩ := hp
  clear hm
  refine fn_S Tryd.func43 (by kernel_rfl) rfl ?_ h
  refine ExS.evG ext0_sound 2 (tLs1 a b o p) ?_
  simp only [holds_leaf, kf_normal]
  refine ⟨?_⟩
  refine ExS.loop' (l := dropL 2 (pcs Tryd.prog Tryd.f43)) (b := inr (inr (nth .skip (pcs Tryd.prog Tryd.f43) 2))) (r := dropL 3 (pcs Tryd.prog Tryd.f43)) (id := 0) (by kernel_rfl) (σ := Int)
    (fun i => cst 24 [(2, .c (.ptr 0 0)), (3, .c (.ptr 1 0)), (5, iV i)] [.cells 71 (d8 a o), .cells 71 (d8 b p)]) (fun i => -1 ≤ i ∧ i ≤ 7 ∧ (i < 1 → o = p) ∧ (i < 0 → a = b)) (fun i => (i + 1).toNat) 7 (by omega) (weak_of_eq (by kernel_rfl)) ?_
  rintro i ⟨hi0, hi1, hi2, hi3⟩ Q1 q1n q1e -
  try dsimp only at q1n q1e ⊢
  refine ExS.evG ext0_sound 2 (tLs2 a b o p i) ?_
  simp only [holds_bT, holds_leaf, kf_normal, kf_exit, decide_eq_true_eq, decide_eq_false_iff_not]
  refine ⟨fun h1 => ⟨?_⟩, fun h1 => ⟨q1e _ ?_⟩⟩
  · obtain ⟨j, rfl⟩ := Int.eq_ofNat_of_zero_le h1
    refine ExS.evH ext0_sound (lsBody a b o p j (by omega)) ?_
    unfold lsT
    dsimp only
    have hl : ∀ x y : Int, (l8 x y).getD j 0 = if j = 0 then x else if j = 1 then y else 0 := by
      intro x y
      have : ∀ j : Nat, j < 8 → (l8 x y).getD j 0 = if j = 0 then x else if j = 1 then y else 0 := by
        refine cases8 ?_ ?_ ?_ ?_ ?_ ?_ ?_ ?_ <;> rfl
      exact this j (by omega)
    rw [hl, hl]
    simp only [holds_bT, holds_rq, holds_leaf, kf_normal, kf_ret', decide_eq_true_eq, decide_eq_false_iff_not, inR]
    refine ⟨by omega, by omega, fun h2 => ⟨VLe.of_eq ?_⟩, fun h2 => ⟨by omega, by omega, fun h3 => ⟨VLe.of_eq ?_⟩, fun h3 => ⟨by omega, ⟨q1n ((j : Int) - 1) _ ⟨by omega, by omega, ?_, ?_⟩ (by omega) (weak_of_eq (by kernel_rfl))⟩⟩⟩⟩
    · have : lessD a o b p = -1 := by
        unfold lessD
        by_cases j1 : j = 0
        · subst j1; simp only [if_true] at h2
          have := hi2 (by omega); subst this
          rw [if_neg (by omega), if_neg (by omega), if_pos h2]
        · rw [if_neg j1, if_neg j1] at h2
          by_cases j2 : j = 1
          · rw [if_pos j2, if_pos j2] at h2; rw [if_pos h2]
          · rw [if_neg j2, if_neg j2] at h2; omega
      rw [this]
    · have : lessD a o b p = 1 := by
        unfold lessD
        by_cases j1 : j = 0
        · subst j1; simp only [if_true] at h3
          have := hi2 (by omega); subst this
          rw [if_neg (by omega), if_neg (by omega), if_neg (by omega), if_pos h3]
        · rw [if_neg j1, if_neg j1] at h3
          by_cases j2 : j = 1
          · rw [if_pos j2, if_pos j2] at h3; rw [if_neg (by omega), if_pos h3]
          · rw [if_neg j2, if_neg j2] at h3; omega
      rw [this]
    · intro h4
      by_cases j1 : j = 0
      · exact hi2 (by omega)
      · obtain rfl : j = 1 := by omega
        simp only [if_neg (show ¬ (1 : Nat) = 0 by decide), if_true] at h2 h3
        omega
    · intro h4
      obtain rfl : j = 0 := by omega
      simp only [if_true] at h2 h3
      omega
  · obtain rfl : i = -1 := by omega
    have e1 := hi2 (by omega)
    have e2 := hi3 (by omega)
    subst e1 e2
    refine ExS.evH ext0_sound (tLs5 a a o o (-1)) ?_
    simp only [holds_leaf, kf_ret']
    refine ⟨VLe.of_eq ?_⟩
    have : lessD a o a o = 0 := by
      unfold lessD
      rw [if_neg (by omega), if_neg (by omega), if_neg (by omega), if_neg (by omega)]
    rw [this]; rfl
end
end Go.AE
