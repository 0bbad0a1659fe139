/- AE contracts: ref01.SameInts, Has, ref28.Verdicts, alert.Runs. -/
import Derived.Test.YtfjihbmehhccoaaP14
namespace Go.AE
set_option linter.unusedVariables false
set_option linter.unusedSimpArgs false
open Go.Proofs Go.Proofs.Ytfjihbmehhccoaa Go.RowKit
def liOf : V → Option (Prop × List Int)
  | .c (.p x) => iOf x
  | _ => none
theorem liOf_le {x : V} {p : Prop} {A : List Int} (h : liOf x = some (p, A)) (hp : p) : VLe x (listV encI 1 A) := by
  unfold liOf at h
  split at h
  · exact VLe.p (iOf_le h hp)
  · cases h
def mSameInts : Mod
  | [x, y] => match liOf x, liOf y with
    | some (p, A), some (q, B) => some ((p ∧ q) ∧ A.length ≤ 1000000, bV (decide (A = B)))
    | _, _ => none
  | _ => none
def mHas : Mod
  | [x, .c (.p (.i .i64 n))] => match liOf x with
    | some (p, A) => some (p ∧ A.length ≤ 1000000, bV (decide (n ∈ A)))
    | _ => none
  | _ => none
def verdL (A : List Int) (m : Nat) : List Int := (A.take m).map fun x => aroundZ x 3
def mVerd : Mod
  | [x, .c (.p (.i .i64 m))] => match liOf x with
    | some (p, A) => some (p ∧ (∀ t ∈ A, inR .i64 t) ∧ 0 ≤ m ∧ m ≤ 1000, listV encI 1 (verdL A m.toNat))
    | _ => none
  | _ => none
def runsG (a : Int) (L : List Int) : Nat → List Int
  | 0 => []
  | k + 1 => runsG a L k ++ if L.getD k default = 2 ∧ (k = 0 ∨ L.getD (k - 1) default ≠ 2) then [a + k] else []
def runsL (a : Int) (L : List Int) : List Int := runsG a L L.length
def mRuns : Mod
  | [.c (.p (.i .i64 a)), x] => match liOf x with
    | some (p, A) => some (p ∧ (-1000000000 ≤ a ∧ a ≤ 1000000000) ∧ A.length ≤ 1000000, listV encI 1 (runsL a A))
    | _ => none
  | _ => none
def extSm : Ext := extOf [(27, mSameInts)]
theorem tI1 (A B : List Int) : exTs ext0 (takeL 4 (pcs Try.prog Try.f27)) (st0 Try.f27 [listV encI 1 A, listV encI 1 B]) (endG (msk 26 [0, 1, 5]) (resOf Try.prog Try.f27)) = bT ((↑A.length : Int) != (↑B.length : Int)) (Tr.done X.ret (St.mk [V.c (C.p (PV.b false))] []))
    (Tr.done X.normal
      (cst 26 [(0, V.c (C.p (PV.l 1 A.length (rowP encI A)))), (1, V.c (C.p (PV.l 1 B.length (rowP encI B)))), (5, V.c (C.p (PV.i IntKind.i64 0)))] [])) := by kernel_rfl
theorem tI2 (A B : List Int) (i : Nat) : exTs ext0 (lpB (pcs Try.prog Try.f27) 4) (cst 26 [(0, listV encI 1 A), (1, listV encI 1 B), (5, iV (i : Nat))] []) (endG (msk 26 [0, 1, 5]) (resOf Try.prog Try.f27)) = bT (decide ((↑i : Int) < (↑A.length : Int)))
    (Tr.rq (0 ≤ (↑i : Int) ∧ (↑i : Int) < (↑A.length : Int))
      (Tr.rq (0 ≤ (↑i : Int) ∧ (↑i : Int) < (↑B.length : Int))
        (bT (A.getD (↑i : Int).toNat default != B.getD (↑i : Int).toNat default) (Tr.done X.ret (St.mk [V.c (C.p (PV.b false))] []))
          (Tr.rq (inR IntKind.i64 ((↑i : Int) + 1))
            (Tr.done X.normal
              (cst 26 [(0, V.c (C.p (PV.l 1 A.length (rowP encI A)))), (1, V.c (C.p (PV.l 1 B.length (rowP encI B)))), (5, V.c (C.p (PV.i IntKind.i64 ((↑i : Int) + 1))))] []))))))
    (Tr.done (X.exit 0)
      (cst 26 [(0, V.c (C.p (PV.l 1 A.length (rowP encI A)))), (1, V.c (C.p (PV.l 1 B.length (rowP encI B)))), (5, V.c (C.p (PV.i IntKind.i64 (↑i : Int))))] [])) := by kernel_rfl
theorem tI3 (A B : List Int) (i : Nat) : exTs ext0 (dropL 5 (pcs Try.prog Try.f27)) (cst 26 [(0, listV encI 1 A), (1, listV encI 1 B), (5, iV (i : Nat))] []) (endG [] (resOf Try.prog Try.f27)) = Tr.done X.ret (St.mk [V.c (C.p (PV.b true))] []) := by kernel_rfl
theorem tH1 (A : List Int) (n : Int) : exTs ext0 (takeL 2 (pcs Try.prog Try.f18)) (st0 Try.f18 [listV encI 1 A, iV n]) (endG (msk 18 [0, 1, 5]) (resOf Try.prog Try.f18)) = Tr.done X.normal
    (cst 18 [(0, V.c (C.p (PV.l 1 A.length (rowP encI A)))), (1, V.c (C.p (PV.i IntKind.i64 n))), (5, V.c (C.p (PV.i IntKind.i64 0)))] []) := by kernel_rfl
theorem tH2 (A : List Int) (n : Int) (i : Nat) : exTs ext0 (lpB (pcs Try.prog Try.f18) 2) (cst 18 [(0, listV encI 1 A), (1, iV n), (5, iV (i : Nat))] []) (endG (msk 18 [0, 1, 5]) (resOf Try.prog Try.f18)) = bT (decide ((↑i : Int) < (↑A.length : Int)))
    (Tr.rq (0 ≤ (↑i : Int) ∧ (↑i : Int) < (↑A.length : Int))
      (bT (A.getD (↑i : Int).toNat default == n) (Tr.done X.ret (St.mk [V.c (C.p (PV.b true))] []))
        (Tr.rq (inR IntKind.i64 ((↑i : Int) + 1))
          (Tr.done X.normal
            (cst 18 [(0, V.c (C.p (PV.l 1 A.length (rowP encI A)))), (1, V.c (C.p (PV.i IntKind.i64 n))), (5, V.c (C.p (PV.i IntKind.i64 ((↑i : Int) + 1))))] [])))))
    (Tr.done (X.exit 0)
      (cst 18 [(0, V.c (C.p (PV.l 1 A.length (rowP encI A)))), (1, V.c (C.p (PV.i IntKind.i64 n))), (5, V.c (C.p (PV.i IntKind.i64 (↑i : Int))))] [])) := by kernel_rfl
theorem tH3 (A : List Int) (n : Int) (i : Nat) : exTs ext0 (dropL 3 (pcs Try.prog Try.f18)) (cst 18 [(0, listV encI 1 A), (1, iV n), (5, iV (i : Nat))] []) (endG [] (resOf Try.prog Try.f18)) = Tr.done X.ret (St.mk [V.c (C.p (PV.b false))] []) := by kernel_rfl
theorem tVe1 (A : List Int) (m : Nat) : exTs ext0 (takeL 3 (pcs Try.prog Try.f31)) (st0 Try.f31 [listV encI 1 A, iV m]) (endG (msk 27 [0, 1, 5, 6]) (resOf Try.prog Try.f31)) = Tr.done X.normal
    (cst 27 [(0, V.c (C.p (PV.l 1 A.length (rowP encI A)))), (1, V.c (C.p (PV.i IntKind.i64 (↑m : Int)))), (5, V.c (C.p (PV.z (Value.slice none 0 0)))), (6, V.c (C.p (PV.i IntKind.i64 0)))] []) := by kernel_rfl
theorem tVe2 (A out : List Int) (m k i : Nat) : exTs extA (lpB (pcs Try.prog Try.f31) 3) (cst 27 [(0, listV encI 1 A), (1, iV (m : Nat)), (5, .c (.sl 0 1 0 k)), (6, iV (i : Nat))] [.row 3 1 k (rowC encI out)]) (endG (msk 27 [0, 1, 5, 6]) (resOf Try.prog Try.f31)) = bT (decide ((↑i : Int) < (↑A.length : Int)))
    (bT (decide ((↑i : Int) < (↑m : Int)))
      (Tr.rq (0 ≤ (↑i : Int) ∧ (↑i : Int) < (↑A.length : Int))
        (Tr.rq (inR IntKind.i64 (A.getD (↑i : Int).toNat default) ∧ Int.ofNat 0 < Int.ofNat 3)
          (Tr.rq (k = k)
            (Tr.rq (1 ≤ 1)
              (Tr.rq
                ((k + 1) * 8 ≤ 140737488355328 ∧
                  k + 1 ≤ 140737488355328 ∧ ∀ (e o : Nat), e < 1 → o < 1 → oneC (bslF [C.p (PV.i IntKind.i64 (aroundZ (A.getD (↑i : Int).toNat default) 3))] 1 1 (e + 0) o) = true)
                (Tr.rq (inR IntKind.i64 ((↑i : Int) + 1))
                  (Tr.done X.normal
                    (cst 27 [(0, V.c (C.p (PV.l 1 A.length (rowP encI A)))), (1, V.c (C.p (PV.i IntKind.i64 (↑m : Int)))), (5, V.c (C.sl 0 1 0 (k + 1))), (6, V.c (C.p (PV.i IntKind.i64 ((↑i : Int) + 1))))] [AO.row 3 1 (k + 1) fun e o => renC [2] (appF k (rowC encI out) (fun e o => nth C.top [C.p (PV.i IntKind.i64 (aroundZ (A.getD (↑i : Int).toNat default) 3))] ((e + 0) * 1 + o)) e o)]))))))))
      (Tr.done (X.exit 0)
        (cst 27 [(0, V.c (C.p (PV.l 1 A.length (rowP encI A)))), (1, V.c (C.p (PV.i IntKind.i64 (↑m : Int)))), (5, V.c (C.sl 0 1 0 k)), (6, V.c (C.p (PV.i IntKind.i64 (↑i : Int))))] [AO.row 3 1 k fun e o => renC [0] (rowC encI out e o)])))
    (Tr.done (X.exit 0)
      (cst 27 [(0, V.c (C.p (PV.l 1 A.length (rowP encI A)))), (1, V.c (C.p (PV.i IntKind.i64 (↑m : Int)))), (5, V.c (C.sl 0 1 0 k)), (6, V.c (C.p (PV.i IntKind.i64 (↑i : Int))))] [AO.row 3 1 k fun e o => renC [0] (rowC encI out e o)])) := by kernel_rfl
theorem tVe3 (A out : List Int) (m k i : Nat) : exTs ext0 (dropL 4 (pcs Try.prog Try.f31)) (cst 27 [(0, listV encI 1 A), (1, iV (m : Nat)), (5, .c (.sl 0 1 0 k)), (6, iV (i : Nat))] [.row 3 1 k (rowC encI out)]) (endG [] (resOf Try.prog Try.f31)) = Tr.rq (0 + k ≤ k ∧ ∀ (e o : Nat), e < k → o < 1 → isF (rowC encI out (e + 0) o) = true) (Tr.done X.ret (St.mk [V.c (C.p (PV.l 1 k fun e o => unP (rowC encI out (e + 0) o)))] [])) := by kernel_rfl
theorem tRu1 (A : List Int) (a : Int) : exTs ext0 (takeL 3 (pcs Try.prog Try.f30)) (st0 Try.f30 [iV a, listV encI 1 A]) (endG (msk 37 [0, 1, 5, 8, 9, 10]) (resOf Try.prog Try.f30)) = Tr.done X.normal
    (cst 37 [(0, V.c (C.p (PV.i IntKind.i64 a))), (1, V.c (C.p (PV.l 1 A.length (rowP encI A)))), (5, V.c (C.p (PV.z (Value.slice none 0 0)))), (8, V.c (C.p (PV.l 1 A.length (rowP encI A)))), (9, V.c (C.p (PV.i IntKind.i64 (↑A.length : Int)))), (10, V.c (C.p (PV.i IntKind.i64 0)))] []) := by kernel_rfl
theorem tRu2 (A out : List Int) (a : Int) (k i : Nat) : exTs ext0 (lpB (pcs Try.prog Try.f30) 3) (cst 37 [(0, iV a), (1, listV encI 1 A), (5, .c (.sl 0 1 0 k)), (8, listV encI 1 A), (9, iV (A.length : Nat)), (10, iV (i : Nat))] [.row 3 1 k (rowC encI out)]) (endG (msk 37 [0, 1, 5, 8, 9, 10]) (resOf Try.prog Try.f30)) = bT (decide ((↑i : Int) < (↑A.length : Int)))
    (Tr.rq (0 ≤ (↑i : Int) ∧ (↑i : Int) < (↑A.length : Int))
      (bT (A.getD (↑i : Int).toNat default == 2)
        (bT ((↑i : Int) == 0)
          (Tr.rq (inR IntKind.i64 (a + (↑i : Int)))
            (Tr.rq (k = k)
              (Tr.rq (1 ≤ 1)
                (Tr.rq ((k + 1) * 8 ≤ 140737488355328 ∧ k + 1 ≤ 140737488355328 ∧ ∀ (e o : Nat), e < 1 → o < 1 → oneC (bslF [C.p (PV.i IntKind.i64 (a + (↑i : Int)))] 1 1 (e + 0) o) = true)
                  (Tr.rq (inR IntKind.i64 ((↑i : Int) + 1))
                    (Tr.done X.normal
                      (cst 37 [(0, V.c (C.p (PV.i IntKind.i64 a))), (1, V.c (C.p (PV.l 1 A.length (rowP encI A)))), (5, V.c (C.sl 0 1 0 (k + 1))), (8, V.c (C.p (PV.l 1 A.length (rowP encI A)))), (9, V.c (C.p (PV.i IntKind.i64 (↑A.length : Int)))), (10, V.c (C.p (PV.i IntKind.i64 ((↑i : Int) + 1))))] [AO.row 3 1 (k + 1) fun e o => renC [2] (appF k (rowC encI out) (fun e o => nth C.top [C.p (PV.i IntKind.i64 (a + (↑i : Int)))] ((e + 0) * 1 + o)) e o)])))))))
          (Tr.rq (inR IntKind.i64 ((↑i : Int) - 1))
            (Tr.rq (0 ≤ (↑i : Int) - 1 ∧ (↑i : Int) - 1 < (↑A.length : Int))
              (bT (A.getD ((↑i : Int) - 1).toNat default != 2)
                (Tr.rq (inR IntKind.i64 (a + (↑i : Int)))
                  (Tr.rq (k = k)
                    (Tr.rq (1 ≤ 1)
                      (Tr.rq ((k + 1) * 8 ≤ 140737488355328 ∧ k + 1 ≤ 140737488355328 ∧ ∀ (e o : Nat), e < 1 → o < 1 → oneC (bslF [C.p (PV.i IntKind.i64 (a + (↑i : Int)))] 1 1 (e + 0) o) = true)
                        (Tr.rq (inR IntKind.i64 ((↑i : Int) + 1))
                          (Tr.done X.normal
                            (cst 37 [(0, V.c (C.p (PV.i IntKind.i64 a))), (1, V.c (C.p (PV.l 1 A.length (rowP encI A)))), (5, V.c (C.sl 0 1 0 (k + 1))), (8, V.c (C.p (PV.l 1 A.length (rowP encI A)))), (9, V.c (C.p (PV.i IntKind.i64 (↑A.length : Int)))), (10, V.c (C.p (PV.i IntKind.i64 ((↑i : Int) + 1))))] [AO.row 3 1 (k + 1) fun e o => renC [2] (appF k (rowC encI out) (fun e o => nth C.top [C.p (PV.i IntKind.i64 (a + (↑i : Int)))] ((e + 0) * 1 + o)) e o)])))))))
                (Tr.rq (inR IntKind.i64 ((↑i : Int) + 1))
                  (Tr.done X.normal
                    (cst 37 [(0, V.c (C.p (PV.i IntKind.i64 a))), (1, V.c (C.p (PV.l 1 A.length (rowP encI A)))), (5, V.c (C.sl 0 1 0 k)), (8, V.c (C.p (PV.l 1 A.length (rowP encI A)))), (9, V.c (C.p (PV.i IntKind.i64 (↑A.length : Int)))), (10, V.c (C.p (PV.i IntKind.i64 ((↑i : Int) + 1))))] [AO.row 3 1 k fun e o => renC [0] (rowC encI out e o)])))))))
        (Tr.rq (inR IntKind.i64 ((↑i : Int) + 1))
          (Tr.done X.normal
            (cst 37 [(0, V.c (C.p (PV.i IntKind.i64 a))), (1, V.c (C.p (PV.l 1 A.length (rowP encI A)))), (5, V.c (C.sl 0 1 0 k)), (8, V.c (C.p (PV.l 1 A.length (rowP encI A)))), (9, V.c (C.p (PV.i IntKind.i64 (↑A.length : Int)))), (10, V.c (C.p (PV.i IntKind.i64 ((↑i : Int) + 1))))] [AO.row 3 1 k fun e o => renC [0] (rowC encI out e o)])))))
    (Tr.done (X.exit 0)
      (cst 37 [(0, V.c (C.p (PV.i IntKind.i64 a))), (1, V.c (C.p (PV.l 1 A.length (rowP encI A)))), (5, V.c (C.sl 0 1 0 k)), (8, V.c (C.p (PV.l 1 A.length (rowP encI A)))), (9, V.c (C.p (PV.i IntKind.i64 (↑A.length : Int)))), (10, V.c (C.p (PV.i IntKind.i64 (↑i : Int))))] [AO.row 3 1 k fun e o => renC [0] (rowC encI out e o)])) := by kernel_rfl
theorem tRu3 (A out : List Int) (a : Int) (k i : Nat) : exTs ext0 (dropL 4 (pcs Try.prog Try.f30)) (cst 37 [(0, iV a), (1, listV encI 1 A), (5, .c (.sl 0 1 0 k)), (8, listV encI 1 A), (9, iV (A.length : Nat)), (10, iV (i : Nat))] [.row 3 1 k (rowC encI out)]) (endG [] (resOf Try.prog Try.f30)) = Tr.rq (0 + k ≤ k ∧ ∀ (e o : Nat), e < k → o < 1 → isF (rowC encI out (e + 0) o) = true) (Tr.done X.ret (St.mk [V.c (C.p (PV.l 1 k fun e o => unP (rowC encI out (e + 0) o)))] [])) := by kernel_rfl
end Go.AE
