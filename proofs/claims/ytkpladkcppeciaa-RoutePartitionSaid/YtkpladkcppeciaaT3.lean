/- AE contracts: ref01.SameInts, ref29.SameGroups, ref29.Groups. -/
import Derived.Test.YtkpladkcppeciaaT2
namespace Go.AE
open Go.Proofs Go.Proofs.Ytkpladkcppeciaa Gp
set_option linter.unusedVariables false
set_option linter.unusedSimpArgs false

def mSameInts : Mod
  | [.c (.p (.l 1 n f)), .c (.p (.l 1 m g))] => some ((IsL encI 1 (decL decI n f) n f ∧ IsL encI 1 (decL decI m g) m g) ∧ n ≤ 1000000, bV (decide (decL decI n f = decL decI m g)))
  | _ => none
def ShortL (A : List (List Int)) : Prop := A.length ≤ 1000000 ∧ ∀ i, i < A.length → (A.getD i default).length ≤ 1000000
def mSameGroups : Mod
  | [.c (.p (.l 1 n f)), .c (.p (.l 1 m g))] => some ((IsL encLI 1 (decL decLI n f) n f ∧ IsL encLI 1 (decL decLI m g) m g) ∧ ShortL (decL decLI n f), bV (decide (decL decLI n f = decL decLI m g)))
  | _ => none
def keyA (A : List (List (ByteArray × ByteArray))) (N : List ByteArray) (i : Int) : List (ByteArray × ByteArray) := keepL (A.getD i.toNat default) N
def AlOK (A : List (List (ByteArray × ByteArray))) : Prop := A.length < 20 ∧ ∀ i, i < A.length → SzL (A.getD i default)
def mGroups : Mod
  | [.c (.p (.l 6 n f)), .c (.p (.l 1 m g))] => some ((IsL encAl 6 (decL decAl n f) n f ∧ AlOK (decL decAl n f)) ∧ IsL encS 1 (decL decS m g) m g ∧ SzS (decL decS m g), listV encLI 1 (grpL (keyA (decL decAl n f) (decL decS m g)) n))
  | [.c (.p (.l 6 n f)), .c (.p (.z (.slice none 0 0)))] => some (IsL encAl 6 (decL decAl n f) n f ∧ AlOK (decL decAl n f), listV encLI 1 (grpL (keyA (decL decAl n f) []) n))
  | _ => none
def extSI : Ext := extOf [(18, mSameInts)]
def extGr : Ext := extOf [(21, mKeep), (22, mCmpL), (23, mLSame)]

theorem tSI1 (A B : List Int) : exTs ext0 (takeL 4 (pcs Try.prog Try.f18)) (st0 Try.f18 [listV encI 1 A, listV encI 1 B]) (endG (msk 26 [0, 1, 5]) (resOf Try.prog Try.f18)) = bT ((↑A.length : Int) != (↑B.length : Int)) (Tr.done X.ret (St.mk [V.c (C.p (PV.b false))] []))
    (Tr.done X.normal
      (cst 26 [(0, V.c (C.p (PV.l 1 A.length (rowP encI A)))), (1, V.c (C.p (PV.l 1 B.length (rowP encI B)))), (5, V.c (C.p (PV.i IntKind.i64 0)))] [])) := by kernel_rfl
theorem tSI2 (A B : List Int) (i : Nat) : exTs ext0 (lpB (pcs Try.prog Try.f18) 4) (cst 26 [(0, listV encI 1 A), (1, listV encI 1 B), (5, iV (i : Nat))] []) (endG (msk 26 [0, 1, 5]) (resOf Try.prog Try.f18)) = bT (decide ((↑i : Int) < (↑A.length : Int)))
    (Tr.rq (0 ≤ (↑i : Int) ∧ (↑i : Int) < (↑A.length : Int))
      (Tr.rq (0 ≤ (↑i : Int) ∧ (↑i : Int) < (↑B.length : Int))
        (bT (A.getD (↑i : Int).toNat default != B.getD (↑i : Int).toNat default) (Tr.done X.ret (St.mk [V.c (C.p (PV.b false))] []))
          (Tr.rq (inR IntKind.i64 ((↑i : Int) + 1))
            (Tr.done X.normal
              (cst 26 [(0, V.c (C.p (PV.l 1 A.length (rowP encI A)))), (1, V.c (C.p (PV.l 1 B.length (rowP encI B)))), (5, V.c (C.p (PV.i IntKind.i64 ((↑i : Int) + 1))))] []))))))
    (Tr.done (X.exit 0)
      (cst 26 [(0, V.c (C.p (PV.l 1 A.length (rowP encI A)))), (1, V.c (C.p (PV.l 1 B.length (rowP encI B)))), (5, V.c (C.p (PV.i IntKind.i64 (↑i : Int))))] [])) := by kernel_rfl
theorem tSI3 (A B : List Int) (i : Nat) : exTs ext0 (dropL 5 (pcs Try.prog Try.f18)) (cst 26 [(0, listV encI 1 A), (1, listV encI 1 B), (5, iV (i : Nat))] []) (endG [] (resOf Try.prog Try.f18)) = Tr.done X.ret (St.mk [V.c (C.p (PV.b true))] []) := by kernel_rfl
theorem tSJ1 (A B : List (List Int)) : exTs ext0 (takeL 4 (pcs Try.prog Try.f7)) (st0 Try.f7 [listV encLI 1 A, listV encLI 1 B]) (endG (msk 27 [0, 1, 5]) (resOf Try.prog Try.f7)) = bT ((↑A.length : Int) != (↑B.length : Int)) (Tr.done X.ret (St.mk [V.c (C.p (PV.b false))] []))
    (Tr.done X.normal
      (cst 27 [(0, V.c (C.p (PV.l 1 A.length (rowP encLI A)))), (1, V.c (C.p (PV.l 1 B.length (rowP encLI B)))), (5, V.c (C.p (PV.i IntKind.i64 0)))] [])) := by kernel_rfl
theorem tSJ2 (A B : List (List Int)) (i : Nat) : exTs extSI (lpB (pcs Try.prog Try.f7) 4) (cst 27 [(0, listV encLI 1 A), (1, listV encLI 1 B), (5, iV (i : Nat))] []) (endG (msk 27 [0, 1, 5]) (resOf Try.prog Try.f7)) = bT (decide ((↑i : Int) < (↑A.length : Int)))
    (Tr.rq (0 ≤ (↑i : Int) ∧ (↑i : Int) < (↑A.length : Int))
      (Tr.rq (0 ≤ (↑i : Int) ∧ (↑i : Int) < (↑B.length : Int))
        (Tr.rq
          ((IsL encI 1 (decL decI (A.getD (↑i : Int).toNat default).length (rowP encI (A.getD (↑i : Int).toNat default))) (A.getD (↑i : Int).toNat default).length
                (rowP encI (A.getD (↑i : Int).toNat default)) ∧
              IsL encI 1 (decL decI (B.getD (↑i : Int).toNat default).length (rowP encI (B.getD (↑i : Int).toNat default))) (B.getD (↑i : Int).toNat default).length
                (rowP encI (B.getD (↑i : Int).toNat default))) ∧
            (A.getD (↑i : Int).toNat default).length ≤ 1000000)
          (bT
            (!decide
                (decL decI (A.getD (↑i : Int).toNat default).length (rowP encI (A.getD (↑i : Int).toNat default)) =
                  decL decI (B.getD (↑i : Int).toNat default).length (rowP encI (B.getD (↑i : Int).toNat default))))
            (Tr.done X.ret (St.mk [V.c (C.p (PV.b false))] []))
            (Tr.rq (inR IntKind.i64 ((↑i : Int) + 1))
              (Tr.done X.normal
                (cst 27 [(0, V.c (C.p (PV.l 1 A.length (rowP encLI A)))), (1, V.c (C.p (PV.l 1 B.length (rowP encLI B)))), (5, V.c (C.p (PV.i IntKind.i64 ((↑i : Int) + 1))))] [])))))))
    (Tr.done (X.exit 0)
      (cst 27 [(0, V.c (C.p (PV.l 1 A.length (rowP encLI A)))), (1, V.c (C.p (PV.l 1 B.length (rowP encLI B)))), (5, V.c (C.p (PV.i IntKind.i64 (↑i : Int))))] [])) := by kernel_rfl
theorem tSJ3 (A B : List (List Int)) (i : Nat) : exTs ext0 (dropL 5 (pcs Try.prog Try.f7)) (cst 27 [(0, listV encLI 1 A), (1, listV encLI 1 B), (5, iV (i : Nat))] []) (endG [] (resOf Try.prog Try.f7)) = Tr.done X.ret (St.mk [V.c (C.p (PV.b true))] []) := by kernel_rfl
theorem tG1 (A : List (List (ByteArray × ByteArray))) (N : List ByteArray) : exTs ext0 (takeL 3 (pcs Try.prog Try.f9)) (st0 Try.f9 [listV encAl 6 A, listV encS 1 N]) (endG (msk 101 [0, 1, 5, 6]) (resOf Try.prog Try.f9)) = Tr.done X.normal
    (cst 101 [(0, V.c (C.p (PV.l 6 A.length (rowP encAl A)))), (1, V.c (C.p (PV.l 1 N.length (rowP encS N)))), (5, V.c (C.p (PV.z (Value.slice none 0 0)))), (6, V.c (C.p (PV.i IntKind.i64 0)))] []) := by kernel_rfl
theorem tG2 (A K : List (List (ByteArray × ByteArray))) (N : List ByteArray) (k i : Nat) : exTs ext0 (takeL 2 (lpB (pcs Try.prog Try.f9) 3)) (cst 101 [(0, listV encAl 6 A), (1, listV encS 1 N), (5, .c (.sl 0 1 0 k)), (6, iV (i : Nat))] [.row 34 1 k (rowC encLL K)]) (endG (msk 101 [0, 1, 5, 6]) (resOf Try.prog Try.f9)) = bT (decide ((↑i : Int) < (↑A.length : Int)))
    (Tr.done X.normal
      (cst 101 [(0, V.c (C.p (PV.l 6 A.length (rowP encAl A)))), (1, V.c (C.p (PV.l 1 N.length (rowP encS N)))), (5, V.c (C.sl 0 1 0 k)), (6, V.c (C.p (PV.i IntKind.i64 (↑i : Int))))] [AO.row 34 1 k fun e o => renC [0] (rowC encLL K e o)]))
    (Tr.done (X.exit 0)
      (cst 101 [(0, V.c (C.p (PV.l 6 A.length (rowP encAl A)))), (1, V.c (C.p (PV.l 1 N.length (rowP encS N)))), (5, V.c (C.sl 0 1 0 k)), (6, V.c (C.p (PV.i IntKind.i64 (↑i : Int))))] [AO.row 34 1 k fun e o => renC [0] (rowC encLL K e o)])) := by kernel_rfl
theorem tG3 (A K : List (List (ByteArray × ByteArray))) (N : List ByteArray) (k i : Nat) : exTs extGr (takeL 2 (flat (inr (nth .skip (lpB (pcs Try.prog Try.f9) 3) 2)))) (cst 101 [(0, listV encAl 6 A), (1, listV encS 1 N), (5, .c (.sl 0 1 0 k)), (6, iV (i : Nat))] [.row 34 1 k (rowC encLL K)]) (endG (msk 101 [0, 1, 5, 6, 7, 8]) (resOf Try.prog Try.f9)) = Tr.rq (0 ≤ (↑i : Int) ∧ (↑i : Int) < (↑A.length : Int))
    (Tr.rq
      ((IsL enc2 2 (decL dec2 (A.getD (↑i : Int).toNat default).length (rowP enc2 (A.getD (↑i : Int).toNat default))) (A.getD (↑i : Int).toNat default).length
            (rowP enc2 (A.getD (↑i : Int).toNat default)) ∧
          SzL (decL dec2 (A.getD (↑i : Int).toNat default).length (rowP enc2 (A.getD (↑i : Int).toNat default)))) ∧
        IsL encS 1 (decL decS N.length (rowP encS N)) N.length (rowP encS N) ∧ SzS (decL decS N.length (rowP encS N)))
      (Tr.done X.normal
        (cst 101 [(0, V.c (C.p (PV.l 6 A.length (rowP encAl A)))), (1, V.c (C.p (PV.l 1 N.length (rowP encS N)))), (5, V.c (C.sl 0 1 0 k)), (6, V.c (C.p (PV.i IntKind.i64 (↑i : Int)))), (7, V.c (C.p (PV.l 2 (keepL (decL dec2 (A.getD (↑i : Int).toNat default).length (rowP enc2 (A.getD (↑i : Int).toNat default))) (decL decS N.length (rowP encS N))).length (rowP enc2 (keepL (decL dec2 (A.getD (↑i : Int).toNat default).length (rowP enc2 (A.getD (↑i : Int).toNat default))) (decL decS N.length (rowP encS N))))))), (8, V.c (C.p (PV.i IntKind.i64 (↑k : Int))))] [AO.row 34 1 k fun e o => renC [0] (rowC encLL K e o)]))) := by kernel_rfl
theorem tG4 (A K : List (List (ByteArray × ByteArray))) (N : List ByteArray) (x : List (ByteArray × ByteArray)) (k i p : Nat) : exTs extGr (lpB (flat (inr (nth .skip (lpB (pcs Try.prog Try.f9) 3) 2))) 2) (cst 101 [(0, listV encAl 6 A), (1, listV encS 1 N), (5, .c (.sl 0 1 0 k)), (6, iV (i : Nat)), (7, listV enc2 2 x), (8, iV (p : Nat))] [.row 34 1 k (rowC encLL K)]) (endG (msk 101 [0, 1, 5, 6, 7, 8]) (resOf Try.prog Try.f9)) = bT (decide (0 < (↑p : Int)))
    (Tr.rq (inR IntKind.i64 ((↑p : Int) - 1))
      (Tr.rq (0 ≤ (↑p : Int) - 1 ∧ (↑p : Int) - 1 < (↑k : Int))
        (Tr.rq (((↑p : Int) - 1).toNat + 0 < k)
          (Tr.rq
            ((IsL enc2 2 (decL dec2 x.length (rowP enc2 x)) x.length (rowP enc2 x) ∧
                IsL enc2 2 (decL dec2 (K.getD (((↑p : Int) - 1).toNat + 0) default).length (rowP enc2 (K.getD (((↑p : Int) - 1).toNat + 0) default))) (K.getD (((↑p : Int) - 1).toNat + 0) default).length
                  (rowP enc2 (K.getD (((↑p : Int) - 1).toNat + 0) default))) ∧
              x.length ≤ 1000000)
            (bT (decide (cmpL (decL dec2 x.length (rowP enc2 x)) (decL dec2 (K.getD (((↑p : Int) - 1).toNat + 0) default).length (rowP enc2 (K.getD (((↑p : Int) - 1).toNat + 0) default))) < 0))
              (Tr.rq (inR IntKind.i64 ((↑p : Int) - 1))
                (Tr.done X.normal
                  (cst 101 [(0, V.c (C.p (PV.l 6 A.length (rowP encAl A)))), (1, V.c (C.p (PV.l 1 N.length (rowP encS N)))), (5, V.c (C.sl 0 1 0 k)), (6, V.c (C.p (PV.i IntKind.i64 (↑i : Int)))), (7, V.c (C.p (PV.l 2 x.length (rowP enc2 x)))), (8, V.c (C.p (PV.i IntKind.i64 ((↑p : Int) - 1))))] [AO.row 34 1 k fun e o => renC [0] (rowC encLL K e o)])))
              (Tr.done (X.exit 2)
                (cst 101 [(0, V.c (C.p (PV.l 6 A.length (rowP encAl A)))), (1, V.c (C.p (PV.l 1 N.length (rowP encS N)))), (5, V.c (C.sl 0 1 0 k)), (6, V.c (C.p (PV.i IntKind.i64 (↑i : Int)))), (7, V.c (C.p (PV.l 2 x.length (rowP enc2 x)))), (8, V.c (C.p (PV.i IntKind.i64 (↑p : Int))))] [AO.row 34 1 k fun e o => renC [0] (rowC encLL K e o)])))))))
    (Tr.done (X.exit 2)
      (cst 101 [(0, V.c (C.p (PV.l 6 A.length (rowP encAl A)))), (1, V.c (C.p (PV.l 1 N.length (rowP encS N)))), (5, V.c (C.sl 0 1 0 k)), (6, V.c (C.p (PV.i IntKind.i64 (↑i : Int)))), (7, V.c (C.p (PV.l 2 x.length (rowP enc2 x)))), (8, V.c (C.p (PV.i IntKind.i64 (↑p : Int))))] [AO.row 34 1 k fun e o => renC [0] (rowC encLL K e o)])) := by kernel_rfl
theorem tG5 (A K : List (List (ByteArray × ByteArray))) (N : List ByteArray) (x : List (ByteArray × ByteArray)) (k i p : Nat) : exTs extGr (dropL 3 (flat (inr (nth .skip (lpB (pcs Try.prog Try.f9) 3) 2)))) (cst 101 [(0, listV encAl 6 A), (1, listV encS 1 N), (5, .c (.sl 0 1 0 k)), (6, iV (i : Nat)), (7, listV enc2 2 x), (8, iV (p : Nat))] [.row 34 1 k (rowC encLL K)]) (endG (msk 101 [0, 1, 5, 6]) (resOf Try.prog Try.f9)) = bT (decide (0 < (↑p : Int)))
    (Tr.rq (inR IntKind.i64 ((↑p : Int) - 1))
      (Tr.rq (0 ≤ (↑p : Int) - 1 ∧ (↑p : Int) - 1 < (↑k : Int))
        (Tr.rq (((↑p : Int) - 1).toNat + 0 < k)
          (Tr.rq
            ((IsL enc2 2 (decL dec2 x.length (rowP enc2 x)) x.length (rowP enc2 x) ∧
                IsL enc2 2 (decL dec2 (K.getD (((↑p : Int) - 1).toNat + 0) default).length (rowP enc2 (K.getD (((↑p : Int) - 1).toNat + 0) default))) (K.getD (((↑p : Int) - 1).toNat + 0) default).length
                  (rowP enc2 (K.getD (((↑p : Int) - 1).toNat + 0) default))) ∧
              (x.length ≤ 1000000 ∨ (K.getD (((↑p : Int) - 1).toNat + 0) default).length ≤ 1000000))
            (bT (decide (decL dec2 x.length (rowP enc2 x) = decL dec2 (K.getD (((↑p : Int) - 1).toNat + 0) default).length (rowP enc2 (K.getD (((↑p : Int) - 1).toNat + 0) default))))
              (Tr.done (X.exit 1)
                (cst 101 [(0, V.c (C.p (PV.l 6 A.length (rowP encAl A)))), (1, V.c (C.p (PV.l 1 N.length (rowP encS N)))), (5, V.c (C.sl 0 1 0 k)), (6, V.c (C.p (PV.i IntKind.i64 (↑i : Int))))] [AO.row 34 1 k fun e o => renC [0] (rowC encLL K e o)]))
              (Tr.rq (0 ≤ (↑0 : Int) ∧ (↑0 : Int) ≤ (↑p : Int) ∧ (↑p : Int) ≤ (↑k : Int))
                (Tr.rq (0 + ((↑p : Int).toNat - 0) ≤ k)
                  (Tr.rq
                    ((0 + ((↑p : Int).toNat - 0)) * 24 ≤ 140737488355328 ∧
                      0 + ((↑p : Int).toNat - 0) ≤ 140737488355328 ∧ ∀ (e o : Nat), e < (↑p : Int).toNat - 0 → o < 1 → oneC (rowC encLL K (e + 0) o) = true)
                    (Tr.rq (0 + ((↑p : Int).toNat - 0) = 0 + ((↑p : Int).toNat - 0))
                      (Tr.rq (1 ≤ 1)
                        (Tr.rq
                          ((0 + ((↑p : Int).toNat - 0) + 1) * 24 ≤ 140737488355328 ∧
                            0 + ((↑p : Int).toNat - 0) + 1 ≤ 140737488355328 ∧ ∀ (e o : Nat), e < 1 → o < 1 → oneC (nth C.top [C.p (PV.l 2 x.length (rowP enc2 x))] ((e + 0) * 1 + o)) = true)
                          (Tr.rq (0 ≤ (↑p : Int) ∧ (↑p : Int) ≤ (↑k : Int) ∧ (↑k : Int) ≤ (↑k : Int))
                            (Tr.rq (0 + ((↑p : Int).toNat - 0) + 1 = 0 + ((↑p : Int).toNat - 0) + 1)
                              (Tr.rq (0 + (↑p : Int).toNat + ((↑k : Int).toNat - (↑p : Int).toNat) ≤ k)
                                (Tr.rq
                                  ((0 + ((↑p : Int).toNat - 0) + 1 + ((↑k : Int).toNat - (↑p : Int).toNat)) * 24 ≤ 140737488355328 ∧
                                    0 + ((↑p : Int).toNat - 0) + 1 + ((↑k : Int).toNat - (↑p : Int).toNat) ≤ 140737488355328 ∧
                                      ∀ (e o : Nat), e < (↑k : Int).toNat - (↑p : Int).toNat → o < 1 → oneC (rowC encLL K (e + (0 + (↑p : Int).toNat)) o) = true)
                                  (Tr.done X.normal
                                    (cst 101 [(0, V.c (C.p (PV.l 6 A.length (rowP encAl A)))), (1, V.c (C.p (PV.l 1 N.length (rowP encS N)))), (5, V.c (C.sl 0 1 0 (0 + ((↑p : Int).toNat - (↑0 : Int).toNat) + 1 + ((↑k : Int).toNat - (↑p : Int).toNat)))), (6, V.c (C.p (PV.i IntKind.i64 (↑i : Int))))] [AO.row 34 1 (0 + ((↑p : Int).toNat - (↑0 : Int).toNat) + 1 + ((↑k : Int).toNat - (↑p : Int).toNat)) fun e o => renC [4] (appF (0 + ((↑p : Int).toNat - 0) + 1) (appF (0 + ((↑p : Int).toNat - 0)) (appF 0 (fun x x_1 => C.top) fun e o => rowC encLL K (e + 0) o) fun e o => nth C.top [C.p (PV.l 2 x.length (rowP enc2 x))] ((e + 0) * 1 + o)) (fun e o => rowC encLL K (e + (0 + (↑p : Int).toNat)) o) e o)])))))))))))))))))
    (Tr.rq (0 ≤ (↑0 : Int) ∧ (↑0 : Int) ≤ (↑p : Int) ∧ (↑p : Int) ≤ (↑k : Int))
      (Tr.rq (0 + ((↑p : Int).toNat - 0) ≤ k)
        (Tr.rq
          ((0 + ((↑p : Int).toNat - 0)) * 24 ≤ 140737488355328 ∧ 0 + ((↑p : Int).toNat - 0) ≤ 140737488355328 ∧ ∀ (e o : Nat), e < (↑p : Int).toNat - 0 → o < 1 → oneC (rowC encLL K (e + 0) o) = true)
          (Tr.rq (0 + ((↑p : Int).toNat - 0) = 0 + ((↑p : Int).toNat - 0))
            (Tr.rq (1 ≤ 1)
              (Tr.rq
                ((0 + ((↑p : Int).toNat - 0) + 1) * 24 ≤ 140737488355328 ∧
                  0 + ((↑p : Int).toNat - 0) + 1 ≤ 140737488355328 ∧ ∀ (e o : Nat), e < 1 → o < 1 → oneC (nth C.top [C.p (PV.l 2 x.length (rowP enc2 x))] ((e + 0) * 1 + o)) = true)
                (Tr.rq (0 ≤ (↑p : Int) ∧ (↑p : Int) ≤ (↑k : Int) ∧ (↑k : Int) ≤ (↑k : Int))
                  (Tr.rq (0 + ((↑p : Int).toNat - 0) + 1 = 0 + ((↑p : Int).toNat - 0) + 1)
                    (Tr.rq (0 + (↑p : Int).toNat + ((↑k : Int).toNat - (↑p : Int).toNat) ≤ k)
                      (Tr.rq
                        ((0 + ((↑p : Int).toNat - 0) + 1 + ((↑k : Int).toNat - (↑p : Int).toNat)) * 24 ≤ 140737488355328 ∧
                          0 + ((↑p : Int).toNat - 0) + 1 + ((↑k : Int).toNat - (↑p : Int).toNat) ≤ 140737488355328 ∧
                            ∀ (e o : Nat), e < (↑k : Int).toNat - (↑p : Int).toNat → o < 1 → oneC (rowC encLL K (e + (0 + (↑p : Int).toNat)) o) = true)
                        (Tr.done X.normal
                          (cst 101 [(0, V.c (C.p (PV.l 6 A.length (rowP encAl A)))), (1, V.c (C.p (PV.l 1 N.length (rowP encS N)))), (5, V.c (C.sl 0 1 0 (0 + ((↑p : Int).toNat - (↑0 : Int).toNat) + 1 + ((↑k : Int).toNat - (↑p : Int).toNat)))), (6, V.c (C.p (PV.i IntKind.i64 (↑i : Int))))] [AO.row 34 1 (0 + ((↑p : Int).toNat - (↑0 : Int).toNat) + 1 + ((↑k : Int).toNat - (↑p : Int).toNat)) fun e o => renC [4] (appF (0 + ((↑p : Int).toNat - 0) + 1) (appF (0 + ((↑p : Int).toNat - 0)) (appF 0 (fun x x_1 => C.top) fun e o => rowC encLL K (e + 0) o) fun e o => nth C.top [C.p (PV.l 2 x.length (rowP enc2 x))] ((e + 0) * 1 + o)) (fun e o => rowC encLL K (e + (0 + (↑p : Int).toNat)) o) e o)])))))))))))) := by kernel_rfl
theorem tG6 (A K : List (List (ByteArray × ByteArray))) (N : List ByteArray) (k i : Nat) : exTs ext0 (dropL 3 (lpB (pcs Try.prog Try.f9) 3)) (cst 101 [(0, listV encAl 6 A), (1, listV encS 1 N), (5, .c (.sl 0 1 0 k)), (6, iV (i : Nat))] [.row 34 1 k (rowC encLL K)]) (endG (msk 101 [0, 1, 5, 6]) (resOf Try.prog Try.f9)) = Tr.rq (inR IntKind.i64 ((↑i : Int) + 1))
    (Tr.done X.normal
      (cst 101 [(0, V.c (C.p (PV.l 6 A.length (rowP encAl A)))), (1, V.c (C.p (PV.l 1 N.length (rowP encS N)))), (5, V.c (C.sl 0 1 0 k)), (6, V.c (C.p (PV.i IntKind.i64 ((↑i : Int) + 1))))] [AO.row 34 1 k fun e o => renC [0] (rowC encLL K e o)])) := by kernel_rfl
theorem tG7 (A K : List (List (ByteArray × ByteArray))) (N : List ByteArray) : exTs ext0 (takeL 2 (dropL 4 (pcs Try.prog Try.f9))) (cst 101 [(0, listV encAl 6 A), (1, listV encS 1 N), (5, listV encLL 1 K)] []) (endG (msk 101 [0, 1, 5, 10, 11]) (resOf Try.prog Try.f9)) = Tr.done X.normal
    (cst 101 [(0, V.c (C.p (PV.l 6 A.length (rowP encAl A)))), (1, V.c (C.p (PV.l 1 N.length (rowP encS N)))), (5, V.c (C.p (PV.l 1 K.length (rowP encLL K)))), (10, V.c (C.p (PV.z (Value.slice none 0 0)))), (11, V.c (C.p (PV.i IntKind.i64 0)))] []) := by kernel_rfl
theorem tG8 (A K : List (List (ByteArray × ByteArray))) (N : List ByteArray) (out : List (List Int)) (m k : Nat) : exTs ext0 (takeL 2 (lpB (pcs Try.prog Try.f9) 6)) (cst 101 [(0, listV encAl 6 A), (1, listV encS 1 N), (5, listV encLL 1 K), (10, .c (.sl 0 1 0 m)), (11, iV (k : Nat))] [.row 22 1 m (rowC encLI out)]) (endG (msk 101 [0, 1, 5, 10, 11]) (resOf Try.prog Try.f9)) = bT (decide ((↑k : Int) < (↑K.length : Int)))
    (Tr.done X.normal
      (cst 101 [(0, V.c (C.p (PV.l 6 A.length (rowP encAl A)))), (1, V.c (C.p (PV.l 1 N.length (rowP encS N)))), (5, V.c (C.p (PV.l 1 K.length (rowP encLL K)))), (10, V.c (C.sl 0 1 0 m)), (11, V.c (C.p (PV.i IntKind.i64 (↑k : Int))))] [AO.row 22 1 m fun e o => renC [0] (rowC encLI out e o)]))
    (Tr.done (X.exit 4)
      (cst 101 [(0, V.c (C.p (PV.l 6 A.length (rowP encAl A)))), (1, V.c (C.p (PV.l 1 N.length (rowP encS N)))), (5, V.c (C.p (PV.l 1 K.length (rowP encLL K)))), (10, V.c (C.sl 0 1 0 m)), (11, V.c (C.p (PV.i IntKind.i64 (↑k : Int))))] [AO.row 22 1 m fun e o => renC [0] (rowC encLI out e o)])) := by kernel_rfl
theorem tG9 (A K : List (List (ByteArray × ByteArray))) (N : List ByteArray) (out : List (List Int)) (m k : Nat) : exTs ext0 (takeL 2 (flat (inr (nth .skip (lpB (pcs Try.prog Try.f9) 6) 2)))) (cst 101 [(0, listV encAl 6 A), (1, listV encS 1 N), (5, listV encLL 1 K), (10, .c (.sl 0 1 0 m)), (11, iV (k : Nat))] [.row 22 1 m (rowC encLI out)]) (endG (msk 101 [0, 1, 5, 10, 11, 12, 13]) (resOf Try.prog Try.f9)) = Tr.done X.normal
    (cst 101 [(0, V.c (C.p (PV.l 6 A.length (rowP encAl A)))), (1, V.c (C.p (PV.l 1 N.length (rowP encS N)))), (5, V.c (C.p (PV.l 1 K.length (rowP encLL K)))), (10, V.c (C.sl 0 1 0 m)), (11, V.c (C.p (PV.i IntKind.i64 (↑k : Int)))), (12, V.c (C.p (PV.z (Value.slice none 0 0)))), (13, V.c (C.p (PV.i IntKind.i64 0)))] [AO.row 22 1 m fun e o => renC [0] (rowC encLI out e o)]) := by kernel_rfl
theorem tGa (A K : List (List (ByteArray × ByteArray))) (N : List ByteArray) (out : List (List Int)) (own : List Int) (m k l i : Nat) : exTs extGr (lpB (flat (inr (nth .skip (lpB (pcs Try.prog Try.f9) 6) 2))) 2) (cst 101 [(0, listV encAl 6 A), (1, listV encS 1 N), (5, listV encLL 1 K), (10, .c (.sl 0 1 0 m)), (11, iV (k : Nat)), (12, .c (.sl 1 1 0 l)), (13, iV (i : Nat))] [.row 22 1 m (rowC encLI out), .row 3 1 l (rowC encI own)]) (endG (msk 101 [0, 1, 5, 10, 11, 12, 13]) (resOf Try.prog Try.f9)) = bT (decide ((↑i : Int) < (↑A.length : Int)))
    (Tr.rq (0 ≤ (↑i : Int) ∧ (↑i : Int) < (↑A.length : Int))
      (Tr.rq
        ((IsL enc2 2 (decL dec2 (A.getD (↑i : Int).toNat default).length (rowP enc2 (A.getD (↑i : Int).toNat default))) (A.getD (↑i : Int).toNat default).length
              (rowP enc2 (A.getD (↑i : Int).toNat default)) ∧
            SzL (decL dec2 (A.getD (↑i : Int).toNat default).length (rowP enc2 (A.getD (↑i : Int).toNat default)))) ∧
          IsL encS 1 (decL decS N.length (rowP encS N)) N.length (rowP encS N) ∧ SzS (decL decS N.length (rowP encS N)))
        (Tr.rq (0 ≤ (↑k : Int) ∧ (↑k : Int) < (↑K.length : Int))
          (Tr.rq
            ((IsL enc2 2
                  (decL dec2 (keepL (decL dec2 (A.getD (↑i : Int).toNat default).length (rowP enc2 (A.getD (↑i : Int).toNat default))) (decL decS N.length (rowP encS N))).length
                    (rowP enc2 (keepL (decL dec2 (A.getD (↑i : Int).toNat default).length (rowP enc2 (A.getD (↑i : Int).toNat default))) (decL decS N.length (rowP encS N)))))
                  (keepL (decL dec2 (A.getD (↑i : Int).toNat default).length (rowP enc2 (A.getD (↑i : Int).toNat default))) (decL decS N.length (rowP encS N))).length
                  (rowP enc2 (keepL (decL dec2 (A.getD (↑i : Int).toNat default).length (rowP enc2 (A.getD (↑i : Int).toNat default))) (decL decS N.length (rowP encS N)))) ∧
                IsL enc2 2 (decL dec2 (K.getD (↑k : Int).toNat default).length (rowP enc2 (K.getD (↑k : Int).toNat default))) (K.getD (↑k : Int).toNat default).length
                  (rowP enc2 (K.getD (↑k : Int).toNat default))) ∧
              ((keepL (decL dec2 (A.getD (↑i : Int).toNat default).length (rowP enc2 (A.getD (↑i : Int).toNat default))) (decL decS N.length (rowP encS N))).length ≤ 1000000 ∨
                (K.getD (↑k : Int).toNat default).length ≤ 1000000))
            (bT
              (decide
                (decL dec2 (keepL (decL dec2 (A.getD (↑i : Int).toNat default).length (rowP enc2 (A.getD (↑i : Int).toNat default))) (decL decS N.length (rowP encS N))).length
                    (rowP enc2 (keepL (decL dec2 (A.getD (↑i : Int).toNat default).length (rowP enc2 (A.getD (↑i : Int).toNat default))) (decL decS N.length (rowP encS N)))) =
                  decL dec2 (K.getD (↑k : Int).toNat default).length (rowP enc2 (K.getD (↑k : Int).toNat default))))
              (Tr.rq (l = l)
                (Tr.rq (1 ≤ 1)
                  (Tr.rq ((l + 1) * 8 ≤ 140737488355328 ∧ l + 1 ≤ 140737488355328 ∧ ∀ (e o : Nat), e < 1 → o < 1 → oneC (nth C.top [C.p (PV.i IntKind.i64 (↑i : Int))] ((e + 0) * 1 + o)) = true)
                    (Tr.rq (inR IntKind.i64 ((↑i : Int) + 1))
                      (Tr.done X.normal
                        (cst 101 [(0, V.c (C.p (PV.l 6 A.length (rowP encAl A)))), (1, V.c (C.p (PV.l 1 N.length (rowP encS N)))), (5, V.c (C.p (PV.l 1 K.length (rowP encLL K)))), (10, V.c (C.sl 0 1 0 m)), (11, V.c (C.p (PV.i IntKind.i64 (↑k : Int)))), (12, V.c (C.sl 1 1 0 (l + 1))), (13, V.c (C.p (PV.i IntKind.i64 ((↑i : Int) + 1))))] [AO.row 22 1 m fun e o => renC [0, 3] (rowC encLI out e o), AO.row 3 1 (l + 1) fun e o => renC [0, 3] (appF l (rowC encI own) (fun e o => nth C.top [C.p (PV.i IntKind.i64 (↑i : Int))] ((e + 0) * 1 + o)) e o)]))))))
              (Tr.rq (inR IntKind.i64 ((↑i : Int) + 1))
                (Tr.done X.normal
                  (cst 101 [(0, V.c (C.p (PV.l 6 A.length (rowP encAl A)))), (1, V.c (C.p (PV.l 1 N.length (rowP encS N)))), (5, V.c (C.p (PV.l 1 K.length (rowP encLL K)))), (10, V.c (C.sl 0 1 0 m)), (11, V.c (C.p (PV.i IntKind.i64 (↑k : Int)))), (12, V.c (C.sl 1 1 0 l)), (13, V.c (C.p (PV.i IntKind.i64 ((↑i : Int) + 1))))] [AO.row 22 1 m fun e o => renC [0, 1] (rowC encLI out e o), AO.row 3 1 l fun e o => renC [0, 1] (rowC encI own e o)]))))))))
    (Tr.done (X.exit 6)
      (cst 101 [(0, V.c (C.p (PV.l 6 A.length (rowP encAl A)))), (1, V.c (C.p (PV.l 1 N.length (rowP encS N)))), (5, V.c (C.p (PV.l 1 K.length (rowP encLL K)))), (10, V.c (C.sl 0 1 0 m)), (11, V.c (C.p (PV.i IntKind.i64 (↑k : Int)))), (12, V.c (C.sl 1 1 0 l)), (13, V.c (C.p (PV.i IntKind.i64 (↑i : Int))))] [AO.row 22 1 m fun e o => renC [0, 1] (rowC encLI out e o), AO.row 3 1 l fun e o => renC [0, 1] (rowC encI own e o)])) := by kernel_rfl
theorem tGb (A K : List (List (ByteArray × ByteArray))) (N : List ByteArray) (out : List (List Int)) (own : List Int) (m k : Nat) : exTs ext0 (dropL 3 (flat (inr (nth .skip (lpB (pcs Try.prog Try.f9) 6) 2)))) (cst 101 [(0, listV encAl 6 A), (1, listV encS 1 N), (5, listV encLL 1 K), (10, .c (.sl 0 1 0 m)), (11, iV (k : Nat)), (12, listV encI 1 own)] [.row 22 1 m (rowC encLI out)]) (endG (msk 101 [0, 1, 5, 10, 11]) (resOf Try.prog Try.f9)) = Tr.rq (m = m)
    (Tr.rq (1 ≤ 1)
      (Tr.rq ((m + 1) * 24 ≤ 140737488355328 ∧ m + 1 ≤ 140737488355328 ∧ ∀ (e o : Nat), e < 1 → o < 1 → oneC (nth C.top [C.p (PV.l 1 own.length (rowP encI own))] ((e + 0) * 1 + o)) = true)
        (Tr.done X.normal
          (cst 101 [(0, V.c (C.p (PV.l 6 A.length (rowP encAl A)))), (1, V.c (C.p (PV.l 1 N.length (rowP encS N)))), (5, V.c (C.p (PV.l 1 K.length (rowP encLL K)))), (10, V.c (C.sl 0 1 0 (m + 1))), (11, V.c (C.p (PV.i IntKind.i64 (↑k : Int))))] [AO.row 22 1 (m + 1) fun e o => renC [2] (appF m (rowC encLI out) (fun e o => nth C.top [C.p (PV.l 1 own.length (rowP encI own))] ((e + 0) * 1 + o)) e o)])))) := by kernel_rfl
theorem tGc (A K : List (List (ByteArray × ByteArray))) (N : List ByteArray) (out : List (List Int)) (m k : Nat) : exTs ext0 (dropL 3 (lpB (pcs Try.prog Try.f9) 6)) (cst 101 [(0, listV encAl 6 A), (1, listV encS 1 N), (5, listV encLL 1 K), (10, .c (.sl 0 1 0 m)), (11, iV (k : Nat))] [.row 22 1 m (rowC encLI out)]) (endG (msk 101 [0, 1, 5, 10, 11]) (resOf Try.prog Try.f9)) = Tr.rq (inR IntKind.i64 ((↑k : Int) + 1))
    (Tr.done X.normal
      (cst 101 [(0, V.c (C.p (PV.l 6 A.length (rowP encAl A)))), (1, V.c (C.p (PV.l 1 N.length (rowP encS N)))), (5, V.c (C.p (PV.l 1 K.length (rowP encLL K)))), (10, V.c (C.sl 0 1 0 m)), (11, V.c (C.p (PV.i IntKind.i64 ((↑k : Int) + 1))))] [AO.row 22 1 m fun e o => renC [0] (rowC encLI out e o)])) := by kernel_rfl
theorem tGd (A K : List (List (ByteArray × ByteArray))) (N : List ByteArray) (out : List (List Int)) (m k : Nat) : exTs ext0 (dropL 7 (pcs Try.prog Try.f9)) (cst 101 [(0, listV encAl 6 A), (1, listV encS 1 N), (5, listV encLL 1 K), (10, .c (.sl 0 1 0 m)), (11, iV (k : Nat))] [.row 22 1 m (rowC encLI out)]) (endG [] (resOf Try.prog Try.f9)) = Tr.rq (0 + m ≤ m ∧ ∀ (e o : Nat), e < m → o < 1 → isF (rowC encLI out (e + 0) o) = true) (Tr.done X.ret (St.mk [V.c (C.p (PV.l 1 m fun e o => unP (rowC encLI out (e + 0) o)))] [])) := by kernel_rfl
theorem take_succ' {α : Type} [Inhabited α] {A : List α} {i : Nat} (h : i < A.length) : A.take (i + 1) = A.take i ++ [A.getD i default] := by
  rw [List.take_add_one, List.getD_eq_getElem?_getD, List.getElem?_eq_getElem h]; rfl
theorem eq_of_takes {α : Type} [Inhabited α] {A B : List α} {i : Nat} (h1 : i < A.length) (h2 : i < B.length) (he : A.take i = B.take i) (hx : A.getD i default = B.getD i default) : A.take (i + 1) = B.take (i + 1) := by
  rw [take_succ' h1, take_succ' h2, he, hx]
section
variable {G : Nat → Option Obj}
set_option maxRecDepth 100000 in
theorem okSameInts : ModOK Try.prog G 18 mSameInts := by
  intro args p v hm hp h
  unfold mSameInts at hm
  split at hm; rotate_left; · cases hm
  rename_i n f m g
  obtain ⟨rfl, rfl⟩ := some_pair hm
  obtain ⟨⟨hA, hB⟩, hn⟩ := hp
  have hlen : (decL decI n f).length ≤ 1000000 := by rw [hA.1]; exact hn
  generalize decL decI n f = A at hA hlen
  generalize decL decI m g = B at hB
  refine FnS.args (args' := [listV encI 1 A, listV encI 1 B]) ?_ (.cons hA.le (.cons hB.le .nil))
  clear hA hB hn
  refine fn_S Try.func18 (by kernel_rfl) rfl ?_ h
  refine ExS.evG ext0_sound 4 (tSI1 A B) ?_
  simp only [holds_bT, holds_leaf, kf_ret', kf_normal, bne_iff_ne, bne_eq_false_iff_eq, ne_eq]
  refine ⟨fun h1 => ⟨VLe.of_eq ?_⟩, fun h1 => ⟨?_⟩⟩
  · rw [decide_eq_false (fun e => h1 (by rw [e]))]; rfl
  have h1 : A.length = B.length := by omega
  refine ExS.loop' (l := dropL 4 (pcs Try.prog Try.f18)) (b := inr (inr (nth .skip (pcs Try.prog Try.f18) 4))) (r := dropL 5 (pcs Try.prog Try.f18)) (id := 0) (by kernel_rfl) (σ := Nat)
    (fun i => cst 26 [(0, listV encI 1 A), (1, listV encI 1 B), (5, iV (i : Nat))] []) (fun i => i ≤ A.length ∧ A.take i = B.take i) (fun i => A.length - i) 0 ⟨Nat.zero_le _, rfl⟩ (weak_of_eq (by kernel_rfl)) ?_
  rintro i ⟨hi, hc⟩ Q1 q1n q1e -
  refine ExS.evH ext0_sound (tSI2 A B i) ?_
  simp only [holds_bT, holds_rq, holds_leaf, kf_ret', kf_normal, kf_exit, decide_eq_true_eq, decide_eq_false_iff_not, bne_iff_ne, bne_eq_false_iff_eq, ne_eq, inR, show (↑i : Int).toNat = i from rfl]
  refine ⟨fun h2 => ⟨by omega, by omega, fun c1 => ⟨VLe.of_eq ?_⟩, fun c1 => ⟨by omega, ⟨q1n (i + 1) _ ⟨by omega, eq_of_takes (by omega) (by omega) hc c1⟩ (by omega) (weak_of_eq (by kernel_rfl))⟩⟩⟩, fun h2 => ⟨q1e _ ?_⟩⟩
  · rw [decide_eq_false (fun e => c1 (by rw [e]))]; rfl
  · rw [List.take_of_length_le (by omega), List.take_of_length_le (by omega)] at hc
    refine ExS.evH ext0_sound (tSI3 A B i) ?_
    simp only [holds_leaf, kf_ret']
    rw [decide_eq_true hc]
    exact ⟨VLe.refl _⟩
theorem extSI_sound : SoundExt Try.prog G extSI := extOf_sound (by simp; exact okSameInts)
set_option maxRecDepth 100000 in
theorem okSameGroups : ModOK Try.prog G 7 mSameGroups := by
  intro args p v hm hp h
  unfold mSameGroups at hm
  split at hm; rotate_left; · cases hm
  rename_i n f m g
  obtain ⟨rfl, rfl⟩ := some_pair hm
  obtain ⟨⟨hA, hB⟩, hn⟩ := hp
  generalize decL decLI n f = A at hA hn
  generalize decL decLI m g = B at hB
  refine FnS.args (args' := [listV encLI 1 A, listV encLI 1 B]) ?_ (.cons hA.le (.cons hB.le .nil))
  clear hA hB
  obtain ⟨hlen, hsh⟩ := hn
  refine fn_S Try.func7 (by kernel_rfl) rfl ?_ h
  refine ExS.evG ext0_sound 4 (tSJ1 A B) ?_
  simp only [holds_bT, holds_leaf, kf_ret', kf_normal, bne_iff_ne, bne_eq_false_iff_eq, ne_eq]
  refine ⟨fun h1 => ⟨VLe.of_eq ?_⟩, fun h1 => ⟨?_⟩⟩
  · rw [decide_eq_false (fun e => h1 (by rw [e]))]; rfl
  have h1 : A.length = B.length := by omega
  refine ExS.loop' (l := dropL 4 (pcs Try.prog Try.f7)) (b := inr (inr (nth .skip (pcs Try.prog Try.f7) 4))) (r := dropL 5 (pcs Try.prog Try.f7)) (id := 0) (by kernel_rfl) (σ := Nat)
    (fun i => cst 27 [(0, listV encLI 1 A), (1, listV encLI 1 B), (5, iV (i : Nat))] []) (fun i => i ≤ A.length ∧ A.take i = B.take i) (fun i => A.length - i) 0 ⟨Nat.zero_le _, rfl⟩ (weak_of_eq (by kernel_rfl)) ?_
  rintro i ⟨hi, hc⟩ Q1 q1n q1e -
  refine ExS.evH extSI_sound (tSJ2 A B i) ?_
  simp only [holds_bT, holds_rq, holds_leaf, kf_ret', kf_normal, kf_exit, decide_eq_true_eq, decide_eq_false_iff_not, Bool.not_eq_true', Bool.not_eq_false', decI_row, inR, show (↑i : Int).toNat = i from rfl]
  refine ⟨fun h2 => ⟨by omega, by omega, ⟨⟨isL_row _ _ _, isL_row _ _ _⟩, hsh i (by omega)⟩, fun c1 => ⟨VLe.of_eq ?_⟩, fun c1 => ⟨by omega, ⟨q1n (i + 1) _ ⟨by omega, eq_of_takes (by omega) (by omega) hc c1⟩ (by omega) (weak_of_eq (by kernel_rfl))⟩⟩⟩, fun h2 => ⟨q1e _ ?_⟩⟩
  · rw [decide_eq_false (fun e => c1 (by rw [e]))]; rfl
  · rw [List.take_of_length_le (by omega), List.take_of_length_le (by omega)] at hc
    refine ExS.evH ext0_sound (tSJ3 A B i) ?_
    simp only [holds_leaf, kf_ret']
    rw [decide_eq_true hc]
    exact ⟨VLe.refl _⟩
theorem extGr_sound : SoundExt Try.prog G extGr := extOf_sound (by simp; exact ⟨okKeepR, okCompareR, okLSame⟩)
end
theorem ins_row (K : List (List (ByteArray × ByteArray))) (x : List (ByteArray × ByteArray)) {p : Nat} (hp : p ≤ K.length) {ρ : List Nat} {e o : Nat} (he : e < K.length + 1) (ho : o < 1) :
    renC ρ (appF (0 + (p - 0) + 1) (appF (0 + (p - 0)) (appF 0 (fun x x_1 => C.top) fun e o => rowC encLL K (e + 0) o) fun e o => nth C.top [C.p (PV.l 2 x.length (rowP enc2 x))] ((e + 0) * 1 + o)) (fun e o => rowC encLL K (e + (0 + p)) o) e o) = rowC encLL (K.take p ++ [x] ++ K.drop p) e o := by
  obtain rfl : o = 0 := by omega
  rw [show 0 + (p - 0) = p by omega]
  have hlt : (K.take p).length = p := by rw [List.length_take]; omega
  unfold appF
  by_cases h1 : e < p + 1
  · rw [if_pos h1]
    by_cases h2 : e < p
    · rw [if_pos h2, if_neg (by omega)]
      show rowC encLL K e 0 = _
      unfold rowC rowP
      congr 2
      rw [List.append_assoc, List.getD_eq_getElem?_getD, List.getD_eq_getElem?_getD, List.getElem?_append_left (by omega), List.getElem?_take_of_lt h2]
    · obtain rfl : e = p := by omega
      rw [if_neg h2, Nat.sub_self]
      show C.p (PV.l 2 x.length (rowP enc2 x)) = _
      unfold rowC rowP
      have : (K.take e ++ [x] ++ K.drop e).getD e default = x := by
        rw [List.append_assoc, List.getD_eq_getElem?_getD, List.getElem?_append_right (by omega), hlt, Nat.sub_self]; rfl
      rw [this]; rfl
  · rw [if_neg h1]
    show rowC encLL K _ 0 = _
    unfold rowC rowP
    congr 2
    have : (K.take p ++ [x] ++ K.drop p).getD e default = K.getD e.pred default := by
      rw [List.getD_eq_getElem?_getD, List.getElem?_append_right (by rw [List.length_append, hlt]; simp; omega), List.getElem?_drop, List.length_append, hlt, List.getD_eq_getElem?_getD]
      congr 2
      simp; omega
    rw [this]
    congr 1
    rw [Nat.pred_eq_sub_one]; omega
theorem own_at (x : List Int) : ∀ o : Nat, o < 1 → (fun e o : Nat => nth C.top [C.p (PV.l 1 x.length (rowP encI x))] ((e + 0) * 1 + o)) 0 o = .p (encLI x o) := by
  intro o ho
  obtain rfl : o = 0 := by omega
  rfl
theorem insK_len {x : List (ByteArray × ByteArray)} {K : List (List (ByteArray × ByteArray))} {p : Nat} (hp : posK x K K.length = p) : (¬ (0 < p ∧ x = K.getD (p - 1) default)) → insK x K = K.take p ++ [x] ++ K.drop p := by
  intro h
  unfold insK
  simp only [hp]
  exact if_neg h
theorem insK_same {x : List (ByteArray × ByteArray)} {K : List (List (ByteArray × ByteArray))} {p : Nat} (hp : posK x K K.length = p) : (0 < p ∧ x = K.getD (p - 1) default) → insK x K = K := by
  intro h
  unfold insK
  simp only [hp]
  exact if_pos h
theorem keyA_at (A : List (List (ByteArray × ByteArray))) (N : List ByteArray) (i : Nat) : keyA A N (i : Int) = keepL (A.getD i default) N := rfl
theorem block_succ (key : Int → List (ByteArray × ByteArray)) (i : Nat) (k : List (ByteArray × ByteArray)) : blockL key (i + 1) k = if key i = k then blockL key i k ++ [(i : Int)] else blockL key i k := by
  unfold blockL
  rw [idx_succ, List.filter_append, List.filter_cons]
  split
  · rename_i h; simp only [decide_eq_true_eq] at h; rw [if_pos h]; rfl
  · rename_i h; simp only [decide_eq_true_eq] at h; rw [if_neg h]; simp
theorem block_length (key : Int → List (ByteArray × ByteArray)) (i : Nat) (k : List (ByteArray × ByteArray)) : (blockL key i k).length ≤ i := by
  unfold blockL
  exact Nat.le_trans (List.length_filter_le _ _) (by rw [idx_length]; exact Nat.le_refl _)
section
variable {G : Nat → Option Obj}
set_option maxRecDepth 100000 in
theorem groupsR_fn {A : List (List (ByteArray × ByteArray))} {N : List ByteArray} (hA : AlOK A) (hN : SzS N) (h : List AO) : FnS Try.prog G 9 [listV encAl 6 A, listV encS 1 N] h fun x h' => x = listV encLI 1 (grpL (keyA A N) A.length) ∧ h' = h := by
  obtain ⟨hlen, hAl⟩ := hA
  have hkl := fun i : Nat => keysL_length (keyA A N) i
  refine fn_S Try.func9 (by kernel_rfl) rfl ?_ h
  refine ExS.evG ext0_sound 3 (tG1 A N) ?_
  simp only [holds_leaf, kf_normal]
  refine ⟨?_⟩
  refine ExS.loop' (l := dropL 3 (pcs Try.prog Try.f9)) (b := inr (inr (nth .skip (pcs Try.prog Try.f9) 3))) (r := dropL 4 (pcs Try.prog Try.f9)) (id := 0) (by kernel_rfl) (σ := Nat)
    (fun i => (fun k K => cst 101 [(0, listV encAl 6 A), (1, listV encS 1 N), (5, .c (.sl 0 1 0 k)), (6, iV (i : Nat))] [.row 34 1 k (rowC encLL K)]) (keysL (keyA A N) i).length (keysL (keyA A N) i)) (fun i => i ≤ A.length) (fun i => A.length - i) 0 (Nat.zero_le _) ((weak_nil 34 1 (rowC encLL []) 5 (by kernel_rfl)).trans (weak_of_eq (by kernel_rfl))) ?_
  intro i hi Q1 q1n q1e _
  have hK := hkl i
  refine ExS.evG ext0_sound 2 (tG2 A (keysL (keyA A N) i) N (keysL (keyA A N) i).length i) ?_
  simp only [holds_bT, holds_leaf, kf_normal, kf_exit, decide_eq_true_eq, decide_eq_false_iff_not]
  refine ⟨fun h1 => ⟨?_⟩, fun h1 => ⟨q1e _ ?_⟩⟩
  · have h1 : i < A.length := by omega
    have hsz := hAl i h1
    have hnext : keysL (keyA A N) (i + 1) = insK (keyA A N i) (keysL (keyA A N) i) := rfl
    have done : ∀ st, WeakS G st ((fun k K i => cst 101 [(0, listV encAl 6 A), (1, listV encS 1 N), (5, .c (.sl 0 1 0 k)), (6, iV (i : Nat))] [.row 34 1 k (rowC encLL K)]) (keysL (keyA A N) (i + 1)).length (keysL (keyA A N) (i + 1)) i) → ExS Try.prog G (resOf Try.prog Try.f9) (listV encLI 1 (grpL (keyA A N) A.length)) (dropL 3 (lpB (pcs Try.prog Try.f9) 3)) st Q1 := fun st hst => by
      refine ExS.pre hst (ExS.evH ext0_sound (tG6 A (keysL (keyA A N) (i + 1)) N (keysL (keyA A N) (i + 1)).length i) ?_)
      simp only [holds_rq, holds_leaf, kf_normal, inR]
      exact ⟨by omega, ⟨q1n (i + 1) _ (by omega) (by omega) (weak_of_eq (by kernel_rfl))⟩⟩
    rw [hnext] at done
    generalize keysL (keyA A N) i = K at hK done
    refine ExS.blk' (l := dropL 2 (lpB (pcs Try.prog Try.f9) 3)) (id := 1) (a := inr (nth .skip (lpB (pcs Try.prog Try.f9) 3) 2)) (r := dropL 3 (lpB (pcs Try.prog Try.f9) 3)) (by kernel_rfl) ?_
    intro Q2 q2n q2e _
    refine ExS.evG extGr_sound 2 (tG3 A K N K.length i) ?_
    simp only [holds_rq, holds_leaf, kf_normal, dec2_row, decS_row, show (↑i : Int).toNat = i from rfl]
    refine ⟨by omega, ⟨⟨isL_row _ _ _, hsz⟩, isL_row _ _ _, hN⟩, ⟨?_⟩⟩
    have hx0 : keyA A N (i : Int) = keepL (A.getD i default) N := rfl
    have hxl : (keepL (A.getD i default) N).length ≤ 1000000 := Nat.le_trans (keepL_len _ _) hsz.1
    rw [hx0] at done
    generalize keepL (A.getD i default) N = x at done hxl
    refine ExS.loop' (l := dropL 2 (flat (inr (nth .skip (lpB (pcs Try.prog Try.f9) 3) 2)))) (b := inr (inr (nth .skip (flat (inr (nth .skip (lpB (pcs Try.prog Try.f9) 3) 2))) 2))) (r := dropL 3 (flat (inr (nth .skip (lpB (pcs Try.prog Try.f9) 3) 2)))) (id := 2) (by kernel_rfl) (σ := Nat)
      (fun p => (fun k => cst 101 [(0, listV encAl 6 A), (1, listV encS 1 N), (5, .c (.sl 0 1 0 k)), (6, iV (i : Nat)), (7, listV enc2 2 x), (8, iV (p : Nat))] [.row 34 1 k (rowC encLL K)]) K.length) (fun p => p ≤ K.length ∧ posK x K K.length = posK x K p) (fun p => p) K.length ⟨Nat.le_refl _, rfl⟩ (weak_of_eq (by kernel_rfl)) ?_
    rintro p ⟨hp, hpos⟩ Q3 q3n q3e -
    have after : posK x K K.length = p → ExS Try.prog G (resOf Try.prog Try.f9) (listV encLI 1 (grpL (keyA A N) A.length)) (dropL 3 (flat (inr (nth .skip (lpB (pcs Try.prog Try.f9) 3) 2)))) ((fun k => cst 101 [(0, listV encAl 6 A), (1, listV encS 1 N), (5, .c (.sl 0 1 0 k)), (6, iV (i : Nat)), (7, listV enc2 2 x), (8, iV (p : Nat))] [.row 34 1 k (rowC encLL K)]) K.length) Q2 := fun he => by
      have hins := insK_len he
      have hsam := insK_same he
      have hp2 : p ≤ K.length := hp
      have fin : (¬ (0 < p ∧ x = K.getD (p - 1) default)) → ∀ st, WeakS G st ((fun k M i => cst 101 [(0, listV encAl 6 A), (1, listV encS 1 N), (5, .c (.sl 0 1 0 k)), (6, iV (i : Nat))] [.row 34 1 k M]) (0 + (p - 0) + 1 + (K.length - p)) (fun e o => renC [4] (appF (0 + (p - 0) + 1) (appF (0 + (p - 0)) (appF 0 (fun x x_1 => C.top) fun e o => rowC encLL K (e + 0) o) fun e o => nth C.top [C.p (PV.l 2 x.length (rowP enc2 x))] ((e + 0) * 1 + o)) (fun e o => rowC encLL K (e + (0 + p)) o) e o)) i) → Q2 .normal st := fun hne st hst => by
        refine q2n st (done st (hst.trans ?_))
        have e1 := hins hne
        have e2 : (insK x K).length = 0 + (p - 0) + 1 + (K.length - p) := by rw [e1]; simp; omega
        rw [e2, e1]
        refine weak_cst ?_
        exact ⟨⟨rfl, rfl, rfl, fun e o he ho => ins_row K x hp2 (by omega) ho⟩, trivial⟩
      have one : ∀ e o : Nat, e < 1 → o < 1 → oneC (nth C.top [C.p (PV.l 2 x.length (rowP enc2 x))] ((e + 0) * 1 + o)) = true := fun e o he ho => by
        obtain rfl : e = 0 := by omega
        obtain rfl : o = 0 := by omega
        rfl
      refine ExS.evH extGr_sound (tG5 A K N x K.length i p) ?_
      simp only [holds_bT, holds_rq, holds_leaf, kf_normal, kf_exit, decide_eq_true_eq, decide_eq_false_iff_not, dec2_row, inR, show (↑p : Int).toNat = p from rfl, show (↑K.length : Int).toNat = K.length from rfl, show ∀ x : Nat, x + 0 = x from fun _ => rfl]
      refine ⟨fun h2 => ⟨by omega, by omega, by omega, ⟨⟨isL_row _ _ _, isL_row _ _ _⟩, .inl hxl⟩, fun c1 => ⟨q2e _ (done _ ?_)⟩, fun c1 => ⟨by omega, by omega, ⟨by omega, by omega, fun _ _ _ _ => rfl⟩, trivial, Nat.le_refl _, ⟨by omega, by omega, one⟩, by omega, trivial, by omega, ⟨by omega, by omega, fun _ _ _ _ => rfl⟩, ⟨fin ?_ _ (weak_of_eq (by kernel_rfl))⟩⟩⟩, fun h2 => ⟨by omega, by omega, ⟨by omega, by omega, fun _ _ _ _ => rfl⟩, trivial, Nat.le_refl _, ⟨by omega, by omega, one⟩, by omega, trivial, by omega, ⟨by omega, by omega, fun _ _ _ _ => rfl⟩, ⟨fin (by omega) _ (weak_of_eq (by kernel_rfl))⟩⟩⟩
      · have e1 : ((p : Int) - 1).toNat = p - 1 := by omega
        rw [e1] at c1
        rw [hsam ⟨by omega, c1⟩]
        exact weak_of_eq (by kernel_rfl)
      · have e1 : ((p : Int) - 1).toNat = p - 1 := by omega
        rw [e1] at c1
        exact fun hh => c1 hh.2
    refine ExS.evH extGr_sound (tG4 A K N x K.length i p) ?_
    simp only [holds_bT, holds_rq, holds_leaf, kf_normal, kf_exit, decide_eq_true_eq, decide_eq_false_iff_not, dec2_row, inR, show ∀ x : Nat, x + 0 = x from fun _ => rfl]
    refine ⟨fun h2 => ?_, fun h2 => ⟨q3e _ (after ?_)⟩⟩
    · obtain ⟨q, rfl⟩ : ∃ q, p = q + 1 := ⟨p - 1, by omega⟩
      have e1 : (((q + 1 : Nat) : Int) - 1).toNat = q := by omega
      have e2 : ((q + 1 : Nat) : Int) - 1 = (q : Int) := by omega
      rw [e1, e2]
      have hstep : posK x K (q + 1) = if cmpL x (K.getD q default) < 0 then posK x K q else q + 1 := rfl
      refine ⟨by omega, by omega, by omega, ⟨⟨isL_row _ _ _, isL_row _ _ _⟩, hxl⟩, fun c1 => ⟨by omega, ⟨q3n q _ ⟨by omega, ?_⟩ (by omega) (weak_of_eq (by kernel_rfl))⟩⟩, fun c1 => ⟨q3e _ (after ?_)⟩⟩
      · rw [hpos, hstep, if_pos c1]
      · rw [hpos, hstep, if_neg c1]
    · obtain rfl : p = 0 := by omega
      rw [hpos]; rfl
  · obtain rfl : i = A.length := by omega
    have hfin : grpL (keyA A N) A.length = (keysL (keyA A N) A.length).map (blockL (keyA A N) A.length) := rfl
    rw [hfin]
    generalize keysL (keyA A N) A.length = K at hK
    refine ExS.pre (weak_frz (j := 5) (id := 0) (ty := 34) (sz := 1) (n := K.length) (off := 0) (len := K.length) (f := fun e o => renC [0] (rowC encLL K e o)) (by kernel_rfl) (by kernel_rfl) (by omega) (fun _ _ _ _ => rfl)) ?_
    refine ExS.pre (st2 := cst 101 [(0, listV encAl 6 A), (1, listV encS 1 N), (5, listV encLL 1 K)] []) ((weak_gc (msk 101 [0, 1, 5]) _).trans (weak_of_eq (by kernel_rfl))) ?_
    clear q1n q1e h1
    refine ExS.evG ext0_sound 2 (tG7 A K N) ?_
    simp only [holds_leaf, kf_normal]
    refine ⟨?_⟩
    refine ExS.loop' (l := dropL 6 (pcs Try.prog Try.f9)) (b := inr (inr (nth .skip (pcs Try.prog Try.f9) 6))) (r := dropL 7 (pcs Try.prog Try.f9)) (id := 4) (by kernel_rfl) (σ := Nat)
      (fun k => (fun m out => cst 101 [(0, listV encAl 6 A), (1, listV encS 1 N), (5, listV encLL 1 K), (10, .c (.sl 0 1 0 m)), (11, iV (k : Nat))] [.row 22 1 m (rowC encLI out)]) k ((K.take k).map (blockL (keyA A N) A.length))) (fun k => k ≤ K.length) (fun k => K.length - k) 0 (Nat.zero_le _) ((weak_nil 22 1 (rowC encLI []) 10 (by kernel_rfl)).trans (weak_of_eq (by kernel_rfl))) ?_
    intro k hk Q1 q1n q1e _
    have hol : ((K.take k).map (blockL (keyA A N) A.length)).length = k := by rw [List.length_map, List.length_take]; omega
    refine ExS.evG ext0_sound 2 (tG8 A K N ((K.take k).map (blockL (keyA A N) A.length)) k k) ?_
    simp only [holds_bT, holds_leaf, kf_normal, kf_exit, decide_eq_true_eq, decide_eq_false_iff_not]
    refine ⟨fun h1 => ⟨?_⟩, fun h1 => ⟨q1e _ ?_⟩⟩
    · have h1 : k < K.length := by omega
      have hsu : (K.take (k + 1)).map (blockL (keyA A N) A.length) = (K.take k).map (blockL (keyA A N) A.length) ++ [blockL (keyA A N) A.length (K.getD k default)] := by
        rw [take_succ' h1, List.map_append]; rfl
      refine ExS.blk' (l := dropL 2 (lpB (pcs Try.prog Try.f9) 6)) (id := 5) (a := inr (nth .skip (lpB (pcs Try.prog Try.f9) 6) 2)) (r := dropL 3 (lpB (pcs Try.prog Try.f9) 6)) (by kernel_rfl) ?_
      intro Q2 q2n _ _
      have done : ∀ st, WeakS G st ((fun m out => cst 101 [(0, listV encAl 6 A), (1, listV encS 1 N), (5, listV encLL 1 K), (10, .c (.sl 0 1 0 m)), (11, iV (k : Nat))] [.row 22 1 m (rowC encLI out)]) (k + 1) ((K.take (k + 1)).map (blockL (keyA A N) A.length))) → Q2 .normal st := fun st hst => q2n st (by
        refine ExS.pre hst (ExS.evH ext0_sound (tGc A K N ((K.take (k + 1)).map (blockL (keyA A N) A.length)) (k + 1) k) ?_)
        simp only [holds_rq, holds_leaf, kf_normal, inR]
        exact ⟨by omega, ⟨q1n (k + 1) _ (by omega) (by omega) (weak_of_eq (by kernel_rfl))⟩⟩)
      rw [hsu] at done
      generalize (K.take k).map (blockL (keyA A N) A.length) = out at done hol
      refine ExS.evG ext0_sound 2 (tG9 A K N out k k) ?_
      simp only [holds_leaf, kf_normal]
      refine ⟨?_⟩
      refine ExS.loop' (l := dropL 2 (flat (inr (nth .skip (lpB (pcs Try.prog Try.f9) 6) 2)))) (b := inr (inr (nth .skip (flat (inr (nth .skip (lpB (pcs Try.prog Try.f9) 6) 2))) 2))) (r := dropL 3 (flat (inr (nth .skip (lpB (pcs Try.prog Try.f9) 6) 2)))) (id := 6) (by kernel_rfl) (σ := Nat)
        (fun i => (fun m l own => cst 101 [(0, listV encAl 6 A), (1, listV encS 1 N), (5, listV encLL 1 K), (10, .c (.sl 0 1 0 m)), (11, iV (k : Nat)), (12, .c (.sl 1 1 0 l)), (13, iV (i : Nat))] [.row 22 1 m (rowC encLI out), .row 3 1 l (rowC encI own)]) k (blockL (keyA A N) i (K.getD k default)).length (blockL (keyA A N) i (K.getD k default))) (fun i => i ≤ A.length) (fun i => A.length - i) 0 (Nat.zero_le _) ((weak_nil 3 1 (rowC encI []) 12 (by kernel_rfl)).trans (weak_of_eq (by kernel_rfl))) ?_
      intro i hi Q3 q3n q3e _
      have hbl := block_length (keyA A N) i (K.getD k default)
      have hbs := block_succ (keyA A N) i (K.getD k default)
      rw [keyA_at] at hbs
      refine ExS.evH extGr_sound (tGa A K N out (blockL (keyA A N) i (K.getD k default)) k k (blockL (keyA A N) i (K.getD k default)).length i) ?_
      simp only [holds_bT, holds_rq, holds_leaf, kf_normal, kf_exit, decide_eq_true_eq, decide_eq_false_iff_not, dec2_row, decS_row, inR, show (↑i : Int).toNat = i from rfl, show (↑k : Int).toNat = k from rfl]
      refine ⟨fun h3 => ?_, fun h3 => ⟨q3e _ ?_⟩⟩
      · have h3 : i < A.length := by omega
        have hsz := hAl i h3
        refine ⟨by omega, ⟨⟨isL_row _ _ _, hsz⟩, isL_row _ _ _, hN⟩, by omega, ⟨⟨isL_row _ _ _, isL_row _ _ _⟩, .inl (Nat.le_trans (keepL_len _ _) hsz.1)⟩, fun c1 => ⟨trivial, Nat.le_refl _, ⟨by omega, by omega, int_one _⟩, by omega, ⟨q3n (i + 1) _ (by omega) (by omega) ?_⟩⟩, fun c1 => ⟨by omega, ⟨q3n (i + 1) _ (by omega) (by omega) ?_⟩⟩⟩
        · rw [if_pos c1] at hbs
          show WeakS G _ ((fun m l own i => cst 101 [(0, listV encAl 6 A), (1, listV encS 1 N), (5, listV encLL 1 K), (10, .c (.sl 0 1 0 m)), (11, iV (k : Nat)), (12, .c (.sl 1 1 0 l)), (13, iV (i : Nat))] [.row 22 1 m (rowC encLI out), .row 3 1 l (rowC encI own)]) k (blockL (keyA A N) (i + 1) (K.getD k default)).length (blockL (keyA A N) (i + 1) (K.getD k default)) (i + 1))
          rw [hbs, show (blockL (keyA A N) i (K.getD k default) ++ [(i : Int)]).length = (blockL (keyA A N) i (K.getD k default)).length + 1 by simp]
          refine weak_cst ?_
          exact ⟨⟨rfl, rfl, rfl, fun _ _ _ _ => rfl⟩, ⟨rfl, rfl, rfl, fun e o he ho => app1' (ρ := [0, 3]) rfl (int_at _) he ho⟩, trivial⟩
        · rw [if_neg c1] at hbs
          show WeakS G _ ((fun m l own i => cst 101 [(0, listV encAl 6 A), (1, listV encS 1 N), (5, listV encLL 1 K), (10, .c (.sl 0 1 0 m)), (11, iV (k : Nat)), (12, .c (.sl 1 1 0 l)), (13, iV (i : Nat))] [.row 22 1 m (rowC encLI out), .row 3 1 l (rowC encI own)]) k (blockL (keyA A N) (i + 1) (K.getD k default)).length (blockL (keyA A N) (i + 1) (K.getD k default)) (i + 1))
          rw [hbs]
          exact weak_of_eq (by kernel_rfl)
      · obtain rfl : i = A.length := by omega
        generalize blockL (keyA A N) A.length (K.getD k default) = own at done
        refine ExS.pre (weak_frz (j := 12) (id := 1) (ty := 3) (sz := 1) (n := own.length) (off := 0) (len := own.length) (f := fun e o => renC [0, 1] (rowC encI own e o)) (by kernel_rfl) (by kernel_rfl) (by omega) (fun _ _ _ _ => rfl)) ?_
        refine ExS.pre (st2 := (fun m => cst 101 [(0, listV encAl 6 A), (1, listV encS 1 N), (5, listV encLL 1 K), (10, .c (.sl 0 1 0 m)), (11, iV (k : Nat)), (12, listV encI 1 own)] [.row 22 1 m (rowC encLI out)]) k) ((weak_gc (msk 101 [0, 1, 5, 10, 11, 12]) _).trans (weak_of_eq (by kernel_rfl))) ?_
        refine ExS.evH ext0_sound (tGb A K N out own k k) ?_
        simp only [holds_rq, holds_leaf, kf_normal]
        refine ⟨trivial, Nat.le_refl _, ⟨by omega, by omega, fun e o he ho => ?_⟩, ⟨done _ ?_⟩⟩
        · obtain rfl : e = 0 := by omega
          obtain rfl : o = 0 := by omega
          rfl
        · refine weak_cst ?_
          exact ⟨⟨rfl, rfl, rfl, fun e o he ho => app1' (ρ := [2]) hol (own_at own) he ho⟩, trivial⟩
    · obtain rfl : k = K.length := by omega
      rw [List.take_length]
      refine ExS.evH ext0_sound (tGd A K N (K.map (blockL (keyA A N) A.length)) K.length K.length) ?_
      simp only [holds_rq, holds_leaf, kf_ret']
      refine ⟨⟨by omega, fun _ _ _ _ => rfl⟩, ⟨?_⟩⟩
      unfold listV listP
      rw [List.length_map]
      exact VLe.refl _
theorem okGroupsG {f : FuncId} (hf : ∀ {A : List (List (ByteArray × ByteArray))} {N : List ByteArray}, AlOK A → SzS N → ∀ h : List AO, FnS Try.prog G f [listV encAl 6 A, listV encS 1 N] h fun x h' => x = listV encLI 1 (grpL (keyA A N) A.length) ∧ h' = h) : ModOK Try.prog G f mGroups := by
  intro args p v hm hp h
  unfold mGroups at hm
  split at hm
  · rename_i n f m g
    obtain ⟨rfl, rfl⟩ := some_pair hm
    obtain ⟨⟨hA, hn⟩, hB, hm⟩ := hp
    have := FnS.args (hf hn hm h) (.cons hA.le (.cons hB.le .nil))
    rw [hA.1] at this
    exact this
  · rename_i n f
    obtain ⟨rfl, rfl⟩ := some_pair hm
    obtain ⟨hA, hn⟩ := hp
    have := FnS.args (hf hn (N := []) szS_nil h) (.cons hA.le (.cons (VLe.p (PLe.nil 1 (rowP encS []))) .nil))
    rw [hA.1] at this
    exact this
  · cases hm
theorem okGroupsR : ModOK Try.prog G 9 mGroups := okGroupsG fun h1 h2 h => groupsR_fn h1 h2 h
end
end Go.AE
