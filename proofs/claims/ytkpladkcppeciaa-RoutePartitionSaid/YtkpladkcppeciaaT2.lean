/- AE contracts: cmp.Compare, labels.Compare, ref05.order, Compare, in, Keep, Same, labels.Keep. -/
import Derived.Test.YtkpladkcppeciaaT1
namespace Go.AE
open Go.Proofs Go.Proofs.Ytkpladkcppeciaa Gp
set_option linter.unusedVariables false
set_option linter.unusedSimpArgs false

def cmpZ (a b : Int) : Int := if a < b then -1 else if b < a then 1 else 0
def mNanS : Mod
  | [.c (.p (.s a))] => some (True, bV false)
  | _ => none
def mNanI : Mod
  | [.c (.p (.i .i64 a))] => some (True, bV false)
  | _ => none
def mCmpS : Mod
  | [.c (.p (.s a)), .c (.p (.s b))] => some (True, iV (cmpS a b))
  | _ => none
def mCmpI : Mod
  | [.c (.p (.i .i64 a)), .c (.p (.i .i64 b))] => some (True, iV (cmpZ a b))
  | _ => none
def mCmpL : Mod
  | [.c (.p (.l 2 n f)), .c (.p (.l 2 m g))] => some ((IsL enc2 2 (decL dec2 n f) n f ∧ IsL enc2 2 (decL dec2 m g) m g) ∧ n ≤ 1000000, iV (cmpL (decL dec2 n f) (decL dec2 m g)))
  | _ => none
def mIn : Mod
  | [.c (.p (.l 1 n f)), .c (.p (.s x))] => some (IsL encS 1 (decL decS n f) n f ∧ n ≤ 1000000, bV (hasS x (decL decS n f)))
  | _ => none
/-- Names and labels' names that may be keys. -/
def SzS (N : List ByteArray) : Prop := N.length ≤ 1000000 ∧ ∀ i, i < N.length → (N.getD i default).size ≤ maxLen
def SzL (A : List (ByteArray × ByteArray)) : Prop := A.length ≤ 1000000 ∧ ∀ i, i < A.length → (A.getD i default).1.size ≤ maxLen
def mKeep : Mod
  | [.c (.p (.l 2 n f)), .c (.p (.l 1 m g))] => some ((IsL enc2 2 (decL dec2 n f) n f ∧ SzL (decL dec2 n f)) ∧ IsL encS 1 (decL decS m g) m g ∧ SzS (decL decS m g), listV enc2 2 (keepL (decL dec2 n f) (decL decS m g)))
  | [.c (.p (.l 2 n f)), .c (.p (.z (.slice none 0 0)))] => some (IsL enc2 2 (decL dec2 n f) n f ∧ SzL (decL dec2 n f), listV enc2 2 (keepL (decL dec2 n f) []))
  | _ => none
def mLSame : Mod
  | [.c (.p (.l 2 n f)), .c (.p (.l 2 m g))] => some ((IsL enc2 2 (decL dec2 n f) n f ∧ IsL enc2 2 (decL dec2 m g) m g) ∧ (n ≤ 1000000 ∨ m ≤ 1000000), bV (decide (decL dec2 n f = decL dec2 m g)))
  | _ => none
def extCm : Ext := extOf [(36, mNanS), (37, mNanI)]
def extCL : Ext := extOf [(26, mCmpS), (27, mCmpI)]
def extOr : Ext := extOf [(31, mCmpS)]
def extIn : Ext := extOf [(30, mIn)]

theorem tNS (a : ByteArray) : exT ext0 (codeOf Try.prog Try.f36) (st0 Try.f36 [sV a]) (endF [] [] (resOf Try.prog Try.f36)) = Tr.done X.ret (St.mk [V.c (C.p (PV.b !a.toList == a.toList))] []) := by kernel_rfl
theorem tNI (a : Int) : exT ext0 (codeOf Try.prog Try.f37) (st0 Try.f37 [iV a]) (endF [] [] (resOf Try.prog Try.f37)) = Tr.done X.ret (St.mk [V.c (C.p (PV.b (a != a)))] []) := by kernel_rfl
theorem tCS (a b : ByteArray) : exT extCm (codeOf Try.prog Try.f26) (st0 Try.f26 [sV a, sV b]) (endF [] [] (resOf Try.prog Try.f26)) = Tr.rq True
    (Tr.rq True
      (bT (Op.bytesLess a.toList b.toList) (Tr.done X.ret (St.mk [V.c (C.p (PV.i IntKind.i64 (-1)))] []))
        (bT (!(Op.bytesLess a.toList b.toList || a.toList == b.toList)) (Tr.done X.ret (St.mk [V.c (C.p (PV.i IntKind.i64 1))] [])) (Tr.done X.ret (St.mk [V.c (C.p (PV.i IntKind.i64 0))] []))))) := by kernel_rfl
theorem tCI (a b : Int) : exT extCm (codeOf Try.prog Try.f27) (st0 Try.f27 [iV a, iV b]) (endF [] [] (resOf Try.prog Try.f27)) = Tr.rq True
    (Tr.rq True
      (bT (decide (a < b)) (Tr.done X.ret (St.mk [V.c (C.p (PV.i IntKind.i64 (-1)))] []))
        (bT (decide (b < a)) (Tr.done X.ret (St.mk [V.c (C.p (PV.i IntKind.i64 1))] [])) (Tr.done X.ret (St.mk [V.c (C.p (PV.i IntKind.i64 0))] []))))) := by kernel_rfl
theorem tOr (a b : ByteArray) : exT ext0 (codeOf Try.prog Try.f31) (st0 Try.f31 [sV a, sV b]) (endF [] [] (resOf Try.prog Try.f31)) = bT (Op.bytesLess a.toList b.toList) (Tr.done X.ret (St.mk [V.c (C.p (PV.i IntKind.i64 (-1)))] []))
    (bT (!(Op.bytesLess a.toList b.toList || a.toList == b.toList)) (Tr.done X.ret (St.mk [V.c (C.p (PV.i IntKind.i64 1))] [])) (Tr.done X.ret (St.mk [V.c (C.p (PV.i IntKind.i64 0))] []))) := by kernel_rfl
theorem tC1 (A B : List (ByteArray × ByteArray)) : exTs extCL (takeL 2 (pcs Try.prog Try.f12)) (st0 Try.f12 [listV enc2 2 A, listV enc2 2 B]) (endG (msk 62 [0, 1, 10, 11]) (resOf Try.prog Try.f12)) = Tr.done X.normal
    (cst 62 [(0, V.c (C.p (PV.l 2 A.length (rowP enc2 A)))), (1, V.c (C.p (PV.l 2 B.length (rowP enc2 B)))), (10, V.c (C.p (PV.i IntKind.i64 (if (↑B.length : Int) < (↑A.length : Int) then (↑B.length : Int) else (↑A.length : Int))))), (11, V.c (C.p (PV.i IntKind.i64 0)))] []) := by kernel_rfl
theorem tC2 (A B : List (ByteArray × ByteArray)) (n : Int) (i : Nat) : exTs extCL (lpB (pcs Try.prog Try.f12) 2) (cst 62 [(0, listV enc2 2 A), (1, listV enc2 2 B), (10, iV n), (11, iV (i : Nat))] []) (endG (msk 62 [0, 1, 10, 11]) (resOf Try.prog Try.f12)) = bT (decide ((↑i : Int) < n))
    (Tr.rq (0 ≤ (↑i : Int) ∧ (↑i : Int) < (↑A.length : Int))
      (Tr.rq (0 ≤ (↑i : Int) ∧ (↑i : Int) < (↑B.length : Int))
        (bT
          (match false with
          | true =>
            !((A.getD (↑i : Int).toNat default).fst.toList == (B.getD (↑i : Int).toNat default).fst.toList &&
                ((A.getD (↑i : Int).toNat default).snd.toList == (B.getD (↑i : Int).toNat default).snd.toList && true))
          | false =>
            (A.getD (↑i : Int).toNat default).fst.toList == (B.getD (↑i : Int).toNat default).fst.toList &&
              ((A.getD (↑i : Int).toNat default).snd.toList == (B.getD (↑i : Int).toNat default).snd.toList && true))
          (Tr.rq (inR IntKind.i64 ((↑i : Int) + 1))
            (Tr.done X.normal
              (cst 62 [(0, V.c (C.p (PV.l 2 A.length (rowP enc2 A)))), (1, V.c (C.p (PV.l 2 B.length (rowP enc2 B)))), (10, V.c (C.p (PV.i IntKind.i64 n))), (11, V.c (C.p (PV.i IntKind.i64 ((↑i : Int) + 1))))] [])))
          (Tr.rq (0 ≤ (↑i : Int) ∧ (↑i : Int) < (↑A.length : Int))
            (Tr.rq (0 ≤ (↑i : Int) ∧ (↑i : Int) < (↑B.length : Int))
              (bT (!(A.getD (↑i : Int).toNat default).fst.toList == (B.getD (↑i : Int).toNat default).fst.toList)
                (Tr.rq (0 ≤ (↑i : Int) ∧ (↑i : Int) < (↑A.length : Int))
                  (Tr.rq (0 ≤ (↑i : Int) ∧ (↑i : Int) < (↑B.length : Int))
                    (Tr.rq True (Tr.done X.ret (St.mk [V.c (C.p (PV.i IntKind.i64 (cmpS (A.getD (↑i : Int).toNat default).fst (B.getD (↑i : Int).toNat default).fst)))] [])))))
                (Tr.rq (0 ≤ (↑i : Int) ∧ (↑i : Int) < (↑A.length : Int))
                  (Tr.rq (0 ≤ (↑i : Int) ∧ (↑i : Int) < (↑B.length : Int))
                    (Tr.rq True (Tr.done X.ret (St.mk [V.c (C.p (PV.i IntKind.i64 (cmpS (A.getD (↑i : Int).toNat default).snd (B.getD (↑i : Int).toNat default).snd)))] [])))))))))))
    (Tr.done (X.exit 0)
      (cst 62 [(0, V.c (C.p (PV.l 2 A.length (rowP enc2 A)))), (1, V.c (C.p (PV.l 2 B.length (rowP enc2 B)))), (10, V.c (C.p (PV.i IntKind.i64 n))), (11, V.c (C.p (PV.i IntKind.i64 (↑i : Int))))] [])) := by kernel_rfl
theorem tC3 (A B : List (ByteArray × ByteArray)) (n : Int) (i : Nat) : exTs extCL (dropL 3 (pcs Try.prog Try.f12)) (cst 62 [(0, listV enc2 2 A), (1, listV enc2 2 B), (10, iV n), (11, iV (i : Nat))] []) (endG [] (resOf Try.prog Try.f12)) = Tr.rq True (Tr.done X.ret (St.mk [V.c (C.p (PV.i IntKind.i64 (cmpZ (↑A.length : Int) (↑B.length : Int))))] [])) := by kernel_rfl
theorem tD1 (A B : List (ByteArray × ByteArray)) : exTs extOr (takeL 2 (pcs Try.prog Try.f22)) (st0 Try.f22 [listV enc2 2 A, listV enc2 2 B]) (endG (msk 56 [0, 1, 5]) (resOf Try.prog Try.f22)) = Tr.done X.normal
    (cst 56 [(0, V.c (C.p (PV.l 2 A.length (rowP enc2 A)))), (1, V.c (C.p (PV.l 2 B.length (rowP enc2 B)))), (5, V.c (C.p (PV.i IntKind.i64 0)))] []) := by kernel_rfl
theorem tD2 (A B : List (ByteArray × ByteArray)) (i : Nat) : exTs extOr (lpB (pcs Try.prog Try.f22) 2) (cst 56 [(0, listV enc2 2 A), (1, listV enc2 2 B), (5, iV (i : Nat))] []) (endG (msk 56 [0, 1, 5]) (resOf Try.prog Try.f22)) = bT (decide ((↑i : Int) < (↑A.length : Int)))
    (bT (decide ((↑i : Int) < (↑B.length : Int)))
      (Tr.rq (0 ≤ (↑i : Int) ∧ (↑i : Int) < (↑A.length : Int))
        (Tr.rq (0 ≤ (↑i : Int) ∧ (↑i : Int) < (↑B.length : Int))
          (Tr.rq True
            (bT (cmpS (A.getD (↑i : Int).toNat default).fst (B.getD (↑i : Int).toNat default).fst == 0)
              (Tr.rq (0 ≤ (↑i : Int) ∧ (↑i : Int) < (↑A.length : Int))
                (Tr.rq (0 ≤ (↑i : Int) ∧ (↑i : Int) < (↑B.length : Int))
                  (Tr.rq True
                    (bT (cmpS (A.getD (↑i : Int).toNat default).snd (B.getD (↑i : Int).toNat default).snd != 0)
                      (Tr.done X.ret (St.mk [V.c (C.p (PV.i IntKind.i64 (cmpS (A.getD (↑i : Int).toNat default).snd (B.getD (↑i : Int).toNat default).snd)))] []))
                      (Tr.rq (inR IntKind.i64 ((↑i : Int) + 1))
                        (Tr.done X.normal
                          (cst 56 [(0, V.c (C.p (PV.l 2 A.length (rowP enc2 A)))), (1, V.c (C.p (PV.l 2 B.length (rowP enc2 B)))), (5, V.c (C.p (PV.i IntKind.i64 ((↑i : Int) + 1))))] [])))))))
              (bT (cmpS (A.getD (↑i : Int).toNat default).fst (B.getD (↑i : Int).toNat default).fst != 0)
                (Tr.done X.ret (St.mk [V.c (C.p (PV.i IntKind.i64 (cmpS (A.getD (↑i : Int).toNat default).fst (B.getD (↑i : Int).toNat default).fst)))] []))
                (Tr.rq (inR IntKind.i64 ((↑i : Int) + 1))
                  (Tr.done X.normal
                    (cst 56 [(0, V.c (C.p (PV.l 2 A.length (rowP enc2 A)))), (1, V.c (C.p (PV.l 2 B.length (rowP enc2 B)))), (5, V.c (C.p (PV.i IntKind.i64 ((↑i : Int) + 1))))] []))))))))
      (Tr.done (X.exit 0)
        (cst 56 [(0, V.c (C.p (PV.l 2 A.length (rowP enc2 A)))), (1, V.c (C.p (PV.l 2 B.length (rowP enc2 B)))), (5, V.c (C.p (PV.i IntKind.i64 (↑i : Int))))] [])))
    (Tr.done (X.exit 0)
      (cst 56 [(0, V.c (C.p (PV.l 2 A.length (rowP enc2 A)))), (1, V.c (C.p (PV.l 2 B.length (rowP enc2 B)))), (5, V.c (C.p (PV.i IntKind.i64 (↑i : Int))))] [])) := by kernel_rfl
theorem tD3 (A B : List (ByteArray × ByteArray)) (i : Nat) : exTs ext0 (dropL 3 (pcs Try.prog Try.f22)) (cst 56 [(0, listV enc2 2 A), (1, listV enc2 2 B), (5, iV (i : Nat))] []) (endG [] (resOf Try.prog Try.f22)) = bT (decide ((↑A.length : Int) < (↑B.length : Int))) (Tr.done X.ret (St.mk [V.c (C.p (PV.i IntKind.i64 (-1)))] []))
    (bT (decide ((↑B.length : Int) < (↑A.length : Int))) (Tr.done X.ret (St.mk [V.c (C.p (PV.i IntKind.i64 1))] [])) (Tr.done X.ret (St.mk [V.c (C.p (PV.i IntKind.i64 0))] []))) := by kernel_rfl
theorem tIn1 (N : List ByteArray) (x : ByteArray) : exTs ext0 (takeL 2 (pcs Try.prog Try.f30)) (st0 Try.f30 [listV encS 1 N, sV x]) (endG (msk 18 [0, 1, 5]) (resOf Try.prog Try.f30)) = Tr.done X.normal
    (cst 18 [(0, V.c (C.p (PV.l 1 N.length (rowP encS N)))), (1, V.c (C.p (PV.s x))), (5, V.c (C.p (PV.i IntKind.i64 0)))] []) := by kernel_rfl
theorem tIn2 (N : List ByteArray) (x : ByteArray) (i : Nat) : exTs ext0 (lpB (pcs Try.prog Try.f30) 2) (cst 18 [(0, listV encS 1 N), (1, sV x), (5, iV (i : Nat))] []) (endG (msk 18 [0, 1, 5]) (resOf Try.prog Try.f30)) = bT (decide ((↑i : Int) < (↑N.length : Int)))
    (Tr.rq (0 ≤ (↑i : Int) ∧ (↑i : Int) < (↑N.length : Int))
      (bT ((N.getD (↑i : Int).toNat default).toList == x.toList) (Tr.done X.ret (St.mk [V.c (C.p (PV.b true))] []))
        (Tr.rq (inR IntKind.i64 ((↑i : Int) + 1))
          (Tr.done X.normal
            (cst 18 [(0, V.c (C.p (PV.l 1 N.length (rowP encS N)))), (1, V.c (C.p (PV.s x))), (5, V.c (C.p (PV.i IntKind.i64 ((↑i : Int) + 1))))] [])))))
    (Tr.done (X.exit 0)
      (cst 18 [(0, V.c (C.p (PV.l 1 N.length (rowP encS N)))), (1, V.c (C.p (PV.s x))), (5, V.c (C.p (PV.i IntKind.i64 (↑i : Int))))] [])) := by kernel_rfl
theorem tIn3 (N : List ByteArray) (x : ByteArray) (i : Nat) : exTs ext0 (dropL 3 (pcs Try.prog Try.f30)) (cst 18 [(0, listV encS 1 N), (1, sV x), (5, iV (i : Nat))] []) (endG [] (resOf Try.prog Try.f30)) = Tr.done X.ret (St.mk [V.c (C.p (PV.b false))] []) := by kernel_rfl
theorem tK1 (A : List (ByteArray × ByteArray)) (N : List ByteArray) : exTs ext0 (takeL 3 (pcs Try.prog Try.f21)) (st0 Try.f21 [listV enc2 2 A, listV encS 1 N]) (endG (msk 28 [0, 1, 5, 6]) (resOf Try.prog Try.f21)) = Tr.done X.normal
    (cst 28 [(0, V.c (C.p (PV.l 2 A.length (rowP enc2 A)))), (1, V.c (C.p (PV.l 1 N.length (rowP encS N)))), (5, V.c (C.p (PV.z (Value.slice none 0 0)))), (6, V.c (C.p (PV.i IntKind.i64 0)))] []) := by kernel_rfl
theorem tK2 (A out : List (ByteArray × ByteArray)) (N : List ByteArray) (m i : Nat) : exTs extIn (lpB (pcs Try.prog Try.f21) 3) (cst 28 [(0, listV enc2 2 A), (1, listV encS 1 N), (5, .c (.sl 0 2 0 m)), (6, iV (i : Nat))] [.row 60 2 m (rowC enc2 out)]) (endG (msk 28 [0, 1, 5, 6]) (resOf Try.prog Try.f21)) = bT (decide ((↑i : Int) < (↑A.length : Int)))
    (Tr.rq (0 ≤ (↑i : Int) ∧ (↑i : Int) < (↑A.length : Int))
      (Tr.rq (IsL encS 1 (decL decS N.length (rowP encS N)) N.length (rowP encS N) ∧ N.length ≤ 1000000)
        (bT (hasS (A.getD (↑i : Int).toNat default).fst (decL decS N.length (rowP encS N)))
          (Tr.rq (0 ≤ (↑i : Int) ∧ (↑i : Int) < (↑A.length : Int))
            (Tr.rq (m = m)
              (Tr.rq (1 ≤ 1)
                (Tr.rq
                  ((m + 1) * 32 ≤ 140737488355328 ∧
                    m + 1 ≤ 140737488355328 ∧
                      ∀ (e o : Nat), e < 1 → o < 2 → oneC (nth C.top [C.p (PV.s (A.getD (↑i : Int).toNat default).fst), C.p (PV.s (A.getD (↑i : Int).toNat default).snd)] ((e + 0) * 2 + o)) = true)
                  (Tr.rq (inR IntKind.i64 ((↑i : Int) + 1))
                    (Tr.done X.normal
                      (cst 28 [(0, V.c (C.p (PV.l 2 A.length (rowP enc2 A)))), (1, V.c (C.p (PV.l 1 N.length (rowP encS N)))), (5, V.c (C.sl 0 2 0 (m + 1))), (6, V.c (C.p (PV.i IntKind.i64 ((↑i : Int) + 1))))] [AO.row 60 2 (m + 1) fun e o => renC [2] (appF m (rowC enc2 out) (fun e o => nth C.top [C.p (PV.s (A.getD (↑i : Int).toNat default).fst), C.p (PV.s (A.getD (↑i : Int).toNat default).snd)] ((e + 0) * 2 + o)) e o)])))))))
          (Tr.rq (inR IntKind.i64 ((↑i : Int) + 1))
            (Tr.done X.normal
              (cst 28 [(0, V.c (C.p (PV.l 2 A.length (rowP enc2 A)))), (1, V.c (C.p (PV.l 1 N.length (rowP encS N)))), (5, V.c (C.sl 0 2 0 m)), (6, V.c (C.p (PV.i IntKind.i64 ((↑i : Int) + 1))))] [AO.row 60 2 m fun e o => renC [0] (rowC enc2 out e o)]))))))
    (Tr.done (X.exit 0)
      (cst 28 [(0, V.c (C.p (PV.l 2 A.length (rowP enc2 A)))), (1, V.c (C.p (PV.l 1 N.length (rowP encS N)))), (5, V.c (C.sl 0 2 0 m)), (6, V.c (C.p (PV.i IntKind.i64 (↑i : Int))))] [AO.row 60 2 m fun e o => renC [0] (rowC enc2 out e o)])) := by kernel_rfl
theorem tK3 (A out : List (ByteArray × ByteArray)) (N : List ByteArray) (m i : Nat) : exTs ext0 (dropL 4 (pcs Try.prog Try.f21)) (cst 28 [(0, listV enc2 2 A), (1, listV encS 1 N), (5, .c (.sl 0 2 0 m)), (6, iV (i : Nat))] [.row 60 2 m (rowC enc2 out)]) (endG [] (resOf Try.prog Try.f21)) = Tr.rq (0 + m ≤ m ∧ ∀ (e o : Nat), e < m → o < 2 → isF (rowC enc2 out (e + 0) o) = true) (Tr.done X.ret (St.mk [V.c (C.p (PV.l 2 m fun e o => unP (rowC enc2 out (e + 0) o)))] [])) := by kernel_rfl
theorem tM1 (A : List (ByteArray × ByteArray)) (N : List ByteArray) : exTs ext0 (takeL 3 (pcs Try.prog Try.f13)) (st0 Try.f13 [listV enc2 2 A, listV encS 1 N]) (endG (msk 39 [0, 5, 14, 15, 16]) (resOf Try.prog Try.f13)) = Tr.done X.normal
    (cst 39 [(0, V.c (C.p (PV.l 2 A.length (rowP enc2 A)))), (5, V.c (C.mp 0)), (14, V.c (C.p (PV.l 1 N.length (rowP encS N)))), (15, V.c (C.p (PV.i IntKind.i64 (↑N.length : Int)))), (16, V.c (C.p (PV.i IntKind.i64 0)))] [AO.mapb (okK Try.prog 9) fun x => none]) := by kernel_rfl
theorem tM2 (A : List (ByteArray × ByteArray)) (N : List ByteArray) (g : Value → Option Bool) (i : Nat) : exTs ext0 (lpB (pcs Try.prog Try.f13) 3) (cst 39 [(0, listV enc2 2 A), (5, .c (.mp 0)), (14, listV encS 1 N), (15, iV (N.length : Nat)), (16, iV (i : Nat))] [.mapb (okK Try.prog 9) g]) (endG (msk 39 [0, 5, 14, 15, 16]) (resOf Try.prog Try.f13)) = bT (decide ((↑i : Int) < (↑N.length : Int)))
    (Tr.rq (0 ≤ (↑i : Int) ∧ (↑i : Int) < (↑N.length : Int))
      (Tr.rq (okK Try.prog 9 = okK Try.prog 9 ∧ okK Try.prog 9 (Value.string (N.getD (↑i : Int).toNat default)) = true)
        (Tr.rq (inR IntKind.i64 ((↑i : Int) + 1))
          (Tr.done X.normal
            (cst 39 [(0, V.c (C.p (PV.l 2 A.length (rowP enc2 A)))), (5, V.c (C.mp 0)), (14, V.c (C.p (PV.l 1 N.length (rowP encS N)))), (15, V.c (C.p (PV.i IntKind.i64 (↑N.length : Int)))), (16, V.c (C.p (PV.i IntKind.i64 ((↑i : Int) + 1))))] [AO.mapb (okK Try.prog 9) (setM g (Value.string (N.getD (↑i : Int).toNat default)) true)])))))
    (Tr.done (X.exit 0)
      (cst 39 [(0, V.c (C.p (PV.l 2 A.length (rowP enc2 A)))), (5, V.c (C.mp 0)), (14, V.c (C.p (PV.l 1 N.length (rowP encS N)))), (15, V.c (C.p (PV.i IntKind.i64 (↑N.length : Int)))), (16, V.c (C.p (PV.i IntKind.i64 (↑i : Int))))] [AO.mapb (okK Try.prog 9) g])) := by kernel_rfl
theorem tM3 (A : List (ByteArray × ByteArray)) (N : List ByteArray) (g : Value → Option Bool) (i : Nat) : exTs ext0 (takeL 2 (dropL 4 (pcs Try.prog Try.f13))) (cst 39 [(0, listV enc2 2 A), (5, .c (.mp 0)), (14, listV encS 1 N), (15, iV (N.length : Nat)), (16, iV (i : Nat))] [.mapb (okK Try.prog 9) g]) (endG (msk 39 [5, 8, 23, 24, 25]) (resOf Try.prog Try.f13)) = Tr.done X.normal
    (cst 39 [(5, V.c (C.mp 0)), (8, V.c (C.p (PV.z (Value.slice none 0 0)))), (23, V.c (C.p (PV.l 2 A.length (rowP enc2 A)))), (24, V.c (C.p (PV.i IntKind.i64 (↑A.length : Int)))), (25, V.c (C.p (PV.i IntKind.i64 0)))] [AO.mapb (okK Try.prog 9) g]) := by kernel_rfl
theorem tM4 (A out : List (ByteArray × ByteArray)) (g : Value → Option Bool) (m i : Nat) : exTs ext0 (lpB (pcs Try.prog Try.f13) 6) (cst 39 [(5, .c (.mp 0)), (8, .c (.sl 1 2 0 m)), (23, listV enc2 2 A), (24, iV (A.length : Nat)), (25, iV (i : Nat))] [.mapb (okK Try.prog 9) g, .row 60 2 m (rowC enc2 out)]) (endG (msk 39 [5, 8, 23, 24, 25]) (resOf Try.prog Try.f13)) = bT (decide ((↑i : Int) < (↑A.length : Int)))
    (Tr.rq (0 ≤ (↑i : Int) ∧ (↑i : Int) < (↑A.length : Int))
      (Tr.rq (okK Try.prog 9 = okK Try.prog 9 ∧ okK Try.prog 9 (Value.string (A.getD (↑i : Int).toNat default).fst) = true)
        (bT ((g (Value.string (A.getD (↑i : Int).toNat default).fst)).getD false)
          (Tr.rq (m = m)
            (Tr.rq (1 ≤ 1)
              (Tr.rq
                ((m + 1) * 32 ≤ 140737488355328 ∧
                  m + 1 ≤ 140737488355328 ∧
                    ∀ (e o : Nat), e < 1 → o < 2 → oneC (nth C.top [C.p (PV.s (A.getD (↑i : Int).toNat default).fst), C.p (PV.s (A.getD (↑i : Int).toNat default).snd)] ((e + 0) * 2 + o)) = true)
                (Tr.rq (inR IntKind.i64 ((↑i : Int) + 1))
                  (Tr.done X.normal
                    (cst 39 [(5, V.c (C.mp 0)), (8, V.c (C.sl 1 2 0 (m + 1))), (23, V.c (C.p (PV.l 2 A.length (rowP enc2 A)))), (24, V.c (C.p (PV.i IntKind.i64 (↑A.length : Int)))), (25, V.c (C.p (PV.i IntKind.i64 ((↑i : Int) + 1))))] [AO.mapb (okK Try.prog 9) g, AO.row 60 2 (m + 1) fun e o => renC [0, 4] (appF m (rowC enc2 out) (fun e o => nth C.top [C.p (PV.s (A.getD (↑i : Int).toNat default).fst), C.p (PV.s (A.getD (↑i : Int).toNat default).snd)] ((e + 0) * 2 + o)) e o)]))))))
          (Tr.rq (inR IntKind.i64 ((↑i : Int) + 1))
            (Tr.done X.normal
              (cst 39 [(5, V.c (C.mp 0)), (8, V.c (C.sl 1 2 0 m)), (23, V.c (C.p (PV.l 2 A.length (rowP enc2 A)))), (24, V.c (C.p (PV.i IntKind.i64 (↑A.length : Int)))), (25, V.c (C.p (PV.i IntKind.i64 ((↑i : Int) + 1))))] [AO.mapb (okK Try.prog 9) g, AO.row 60 2 m fun e o => renC [0, 1] (rowC enc2 out e o)]))))))
    (Tr.done (X.exit 2)
      (cst 39 [(5, V.c (C.mp 0)), (8, V.c (C.sl 1 2 0 m)), (23, V.c (C.p (PV.l 2 A.length (rowP enc2 A)))), (24, V.c (C.p (PV.i IntKind.i64 (↑A.length : Int)))), (25, V.c (C.p (PV.i IntKind.i64 (↑i : Int))))] [AO.mapb (okK Try.prog 9) g, AO.row 60 2 m fun e o => renC [0, 1] (rowC enc2 out e o)])) := by kernel_rfl
theorem tM5 (A out : List (ByteArray × ByteArray)) (g : Value → Option Bool) (m i : Nat) : exTs ext0 (dropL 7 (pcs Try.prog Try.f13)) (cst 39 [(5, .c (.mp 0)), (8, .c (.sl 1 2 0 m)), (23, listV enc2 2 A), (24, iV (A.length : Nat)), (25, iV (i : Nat))] [.mapb (okK Try.prog 9) g, .row 60 2 m (rowC enc2 out)]) (endG [] (resOf Try.prog Try.f13)) = Tr.rq (0 + m ≤ m ∧ ∀ (e o : Nat), e < m → o < 2 → isF (rowC enc2 out (e + 0) o) = true) (Tr.done X.ret (St.mk [V.c (C.p (PV.l 2 m fun e o => unP (rowC enc2 out (e + 0) o)))] [])) := by kernel_rfl
theorem tSame1 (A B : List (ByteArray × ByteArray)) : exTs ext0 (takeL 4 (pcs Try.prog Try.f23)) (st0 Try.f23 [listV enc2 2 A, listV enc2 2 B]) (endF [] (msk 26 [0, 1, 5]) (resOf Try.prog Try.f23)) = bT ((↑A.length : Int) != (↑B.length : Int)) (Tr.done X.ret (St.mk [V.c (C.p (PV.b false))] []))
    (Tr.done X.normal
      (cst 26 [(0, V.c (C.p (PV.l 2 A.length (rowP enc2 A)))), (1, V.c (C.p (PV.l 2 B.length (rowP enc2 B)))), (5, V.c (C.p (PV.i IntKind.i64 0)))] [])) := by kernel_rfl
theorem tSame2 (A B : List (ByteArray × ByteArray)) (i : Int) : exTs ext0 (lpB (pcs Try.prog Try.f23) 4) (cst 26 [(0, listV enc2 2 A), (1, listV enc2 2 B), (5, iV i)] []) (endF [] (msk 26 [0, 1, 5]) (resOf Try.prog Try.f23)) = bT (decide (i < (↑A.length : Int)))
    (Tr.rq (0 ≤ i ∧ i < (↑A.length : Int))
      (Tr.rq (0 ≤ i ∧ i < (↑B.length : Int))
        (bT
          (match true with
          | true => !((A.getD i.toNat default).fst.toList == (B.getD i.toNat default).fst.toList && ((A.getD i.toNat default).snd.toList == (B.getD i.toNat default).snd.toList && true))
          | false => (A.getD i.toNat default).fst.toList == (B.getD i.toNat default).fst.toList && ((A.getD i.toNat default).snd.toList == (B.getD i.toNat default).snd.toList && true))
          (Tr.done X.ret (St.mk [V.c (C.p (PV.b false))] []))
          (Tr.rq (inR IntKind.i64 (i + 1))
            (Tr.done X.normal
              (cst 26 [(0, V.c (C.p (PV.l 2 A.length (rowP enc2 A)))), (1, V.c (C.p (PV.l 2 B.length (rowP enc2 B)))), (5, V.c (C.p (PV.i IntKind.i64 (i + 1))))] []))))))
    (Tr.done (X.exit 0)
      (cst 26 [(0, V.c (C.p (PV.l 2 A.length (rowP enc2 A)))), (1, V.c (C.p (PV.l 2 B.length (rowP enc2 B)))), (5, V.c (C.p (PV.i IntKind.i64 i)))] [])) := by kernel_rfl
theorem tSame3 (A B : List (ByteArray × ByteArray)) (i : Int) : exTs ext0 (dropL 5 (pcs Try.prog Try.f23)) (cst 26 [(0, listV enc2 2 A), (1, listV enc2 2 B), (5, iV i)] []) (endF [] [] (resOf Try.prog Try.f23)) = Tr.done X.ret (St.mk [V.c (C.p (PV.b true))] []) := by kernel_rfl
theorem drop_cons {A : List (ByteArray × ByteArray)} {i : Nat} (h : i < A.length) : A.drop i = A.getD i default :: A.drop (i + 1) := by
  rw [List.drop_eq_getElem_cons h, List.getD_eq_getElem?_getD, List.getElem?_eq_getElem h]; rfl
theorem cmpL_step {A B : List (ByteArray × ByteArray)} {i : Nat} (h1 : i < A.length) (h2 : i < B.length) : cmpL (A.drop i) (B.drop i) = if A.getD i default = B.getD i default then cmpL (A.drop (i + 1)) (B.drop (i + 1)) else if (A.getD i default).1 = (B.getD i default).1 then cmpS (A.getD i default).2 (B.getD i default).2 else cmpS (A.getD i default).1 (B.getD i default).1 := by
  rw [drop_cons h1, drop_cons h2, cmpL]
theorem cmpL_end {A B : List (ByteArray × ByteArray)} {i : Nat} (h1 : i ≤ A.length) (h2 : i ≤ B.length) (h3 : ¬ (i < A.length ∧ i < B.length)) : cmpL (A.drop i) (B.drop i) = cmpZ A.length B.length := by
  unfold cmpZ
  by_cases e1 : i = A.length
  · rw [List.drop_of_length_le (show A.length ≤ i by omega)]
    by_cases e2 : i = B.length
    · rw [List.drop_of_length_le (show B.length ≤ i by omega), if_neg (by omega), if_neg (by omega)]; rfl
    · rw [drop_cons (show i < B.length by omega), if_pos (by omega)]; rfl
  · have e2 : i = B.length := by omega
    rw [List.drop_of_length_le (show B.length ≤ i by omega), drop_cons (show i < A.length by omega), if_neg (by omega), if_pos (by omega)]; rfl
theorem take_snocL {A : List (ByteArray × ByteArray)} {i : Nat} (h : i < A.length) : A.take (i + 1) = A.take i ++ [A.getD i default] := by
  rw [List.take_add_one, List.getD_eq_getElem?_getD, List.getElem?_eq_getElem h]; rfl
theorem take_snocS {A : List ByteArray} {i : Nat} (h : i < A.length) : A.take (i + 1) = A.take i ++ [A.getD i default] := by
  rw [List.take_add_one, List.getD_eq_getElem?_getD, List.getElem?_eq_getElem h]; rfl
theorem keepL_succ {A : List (ByteArray × ByteArray)} {N : List ByteArray} {i : Nat} (h : i < A.length) : keepL (A.take (i + 1)) N = if hasS (A.getD i default).1 N = true then keepL (A.take i) N ++ [A.getD i default] else keepL (A.take i) N := by
  rw [take_snocL h]
  unfold keepL hasS
  rw [List.filter_append, List.filter_cons]
  split
  · rfl
  · simp
theorem keepL_len (A : List (ByteArray × ByteArray)) (N : List ByteArray) : (keepL A N).length ≤ A.length := List.length_filter_le _ _
theorem hasS_snoc (s x : ByteArray) (L : List ByteArray) : hasS s (L ++ [x]) = (hasS s L || decide (s = x)) := by unfold hasS; simp
theorem okStr {s : ByteArray} (h : s.size ≤ maxLen) : okK Try.prog 9 (.string s) = true := by
  have hk : (Try.prog).underlying 9 = some .string := by kernel_rfl
  unfold okK
  simp [keyOf, hk, mapKey, h]
theorem pairs_eq (a b : ByteArray × ByteArray) : (decide (a.fst = b.fst) && (decide (a.snd = b.snd) && true)) = decide (a = b) := by
  rw [Bool.and_true, Bool.eq_iff_iff]
  simp [Prod.ext_iff]
theorem eq_of_getD {α : Type} [Inhabited α] {A B : List α} (hl : A.length = B.length) (h : ∀ k, k < A.length → A.getD k default = B.getD k default) : A = B := by
  apply List.ext_getElem hl
  intro k h1 h2
  have := h k h1
  simpa [h1, h2] using this
section
variable {G : Nat → Option Obj}
theorem okNanS : ModOK Try.prog G 36 mNanS := by
  intro args p v hm hp h
  unfold mNanS at hm
  split at hm; rotate_left; · cases hm
  rename_i a
  obtain ⟨rfl, rfl⟩ := some_pair hm
  refine fn_T ext0_sound Try.func36 (by kernel_rfl) rfl (tNS a) ?_ h
  simp only [holds_done, KF]
  exact ⟨_, rfl, VLe.of_eq (by simp [bV])⟩
theorem okNanI : ModOK Try.prog G 37 mNanI := by
  intro args p v hm hp h
  unfold mNanI at hm
  split at hm; rotate_left; · cases hm
  rename_i a
  obtain ⟨rfl, rfl⟩ := some_pair hm
  refine fn_T ext0_sound Try.func37 (by kernel_rfl) rfl (tNI a) ?_ h
  simp only [holds_done, KF]
  exact ⟨_, rfl, VLe.of_eq (by simp [bV])⟩
theorem extCm_sound : SoundExt Try.prog G extCm := extOf_sound (by simp; exact ⟨okNanS, okNanI⟩)
theorem cmpS_cases (a b : ByteArray) : (Op.bytesLess a.toList b.toList = true → cmpS a b = -1) ∧ (Op.bytesLess a.toList b.toList = false → (Op.bytesLess a.toList b.toList || decide (a = b)) = false → cmpS a b = 1) ∧ (Op.bytesLess a.toList b.toList = false → (Op.bytesLess a.toList b.toList || decide (a = b)) = true → cmpS a b = 0) := by
  unfold cmpS lessS
  refine ⟨fun h => if_pos h, fun h k => ?_, fun h k => ?_⟩
  · rw [h] at k ⊢
    rw [if_neg (by simp), if_neg (by simpa using k)]
  · rw [h] at k ⊢
    rw [if_neg (by simp), if_pos (by simpa using k)]
theorem okCmpS : ModOK Try.prog G 26 mCmpS := by
  intro args p v hm hp h
  unfold mCmpS at hm
  split at hm; rotate_left; · cases hm
  rename_i a b
  obtain ⟨rfl, rfl⟩ := some_pair hm
  obtain ⟨c1, c2, c3⟩ := cmpS_cases a b
  refine fn_T extCm_sound Try.func26 (by kernel_rfl) rfl (tCS a b) ?_ h
  simp only [holds_bT, holds_rq, holds_done, KF, beq_bytes2, Bool.not_eq_true', Bool.not_eq_false']
  exact ⟨trivial, trivial, fun h => ⟨_, rfl, VLe.of_eq (by rw [c1 h]; rfl)⟩, fun h => ⟨fun k => ⟨_, rfl, VLe.of_eq (by rw [c2 h k]; rfl)⟩, fun k => ⟨_, rfl, VLe.of_eq (by rw [c3 h k]; rfl)⟩⟩⟩
theorem okOrder : ModOK Try.prog G 31 mCmpS := by
  intro args p v hm hp h
  unfold mCmpS at hm
  split at hm; rotate_left; · cases hm
  rename_i a b
  obtain ⟨rfl, rfl⟩ := some_pair hm
  obtain ⟨c1, c2, c3⟩ := cmpS_cases a b
  refine fn_T ext0_sound Try.func31 (by kernel_rfl) rfl (tOr a b) ?_ h
  simp only [holds_bT, holds_rq, holds_done, KF, beq_bytes2, Bool.not_eq_true', Bool.not_eq_false']
  exact ⟨fun h => ⟨_, rfl, VLe.of_eq (by rw [c1 h]; rfl)⟩, fun h => ⟨fun k => ⟨_, rfl, VLe.of_eq (by rw [c2 h k]; rfl)⟩, fun k => ⟨_, rfl, VLe.of_eq (by rw [c3 h k]; rfl)⟩⟩⟩
theorem okCmpI : ModOK Try.prog G 27 mCmpI := by
  intro args p v hm hp h
  unfold mCmpI at hm
  split at hm; rotate_left; · cases hm
  rename_i a b
  obtain ⟨rfl, rfl⟩ := some_pair hm
  refine fn_T extCm_sound Try.func27 (by kernel_rfl) rfl (tCI a b) ?_ h
  simp only [holds_bT, holds_rq, holds_done, KF, decide_eq_true_eq, decide_eq_false_iff_not]
  unfold cmpZ
  exact ⟨trivial, trivial, fun h => ⟨_, rfl, VLe.of_eq (by rw [if_pos h]; rfl)⟩, fun h => ⟨fun k => ⟨_, rfl, VLe.of_eq (by rw [if_neg h, if_pos k]; rfl)⟩, fun k => ⟨_, rfl, VLe.of_eq (by rw [if_neg h, if_neg k]; rfl)⟩⟩⟩
theorem extCL_sound : SoundExt Try.prog G extCL := extOf_sound (by simp; exact ⟨okCmpS, okCmpI⟩)
theorem extOr_sound : SoundExt Try.prog G extOr := extOf_sound (by simp; exact okOrder)
set_option maxRecDepth 100000 in
theorem okCompare : ModOK Try.prog G 12 mCmpL := by
  intro args p v hm hp h
  unfold mCmpL at hm
  split at hm; rotate_left; · cases hm
  rename_i n f m g
  obtain ⟨rfl, rfl⟩ := some_pair hm
  obtain ⟨⟨hA, hB⟩, hn⟩ := hp
  have hlen : (decL dec2 n f).length ≤ 1000000 := by rw [hA.1]; exact hn
  generalize decL dec2 n f = A at hA hlen
  generalize decL dec2 m g = B at hB
  refine FnS.args (args' := [listV enc2 2 A, listV enc2 2 B]) ?_ (.cons hA.le (.cons hB.le .nil))
  clear hA hB hn
  refine fn_S Try.func12 (by kernel_rfl) rfl ?_ h
  refine ExS.evG extCL_sound 2 (tC1 A B) ?_
  simp only [holds_leaf, kf_normal]
  refine ⟨?_⟩
  have hmn : (if (B.length : Int) < (A.length : Int) then (B.length : Int) else (A.length : Int)) = (min A.length B.length : Nat) := by
    split <;> omega
  rw [hmn]
  refine ExS.loop' (l := dropL 2 (pcs Try.prog Try.f12)) (b := inr (inr (nth .skip (pcs Try.prog Try.f12) 2))) (r := dropL 3 (pcs Try.prog Try.f12)) (id := 0) (by kernel_rfl) (σ := Nat)
    (fun i => (fun n => cst 62 [(0, listV enc2 2 A), (1, listV enc2 2 B), (10, iV n), (11, iV (i : Nat))] []) ((min A.length B.length : Nat) : Int)) (fun i => i ≤ min A.length B.length ∧ cmpL A B = cmpL (A.drop i) (B.drop i)) (fun i => min A.length B.length - i) 0 ⟨Nat.zero_le _, rfl⟩ (weak_of_eq (by kernel_rfl)) ?_
  rintro i ⟨hi, hc⟩ Q1 q1n q1e -
  refine ExS.evH extCL_sound (tC2 A B ((min A.length B.length : Nat) : Int) i) ?_
  simp only [holds_bT, holds_rq, holds_leaf, kf_ret', kf_normal, kf_exit, decide_eq_true_eq, decide_eq_false_iff_not, pairs_eq, beq_bytes2, Bool.not_eq_true', Bool.not_eq_false', inR, show (↑i : Int).toNat = i from rfl]
  have st := fun (h1 : i < A.length) (h2 : i < B.length) => cmpL_step h1 h2
  refine ⟨fun h1 => ?_, fun h1 => ⟨q1e _ ?_⟩⟩
  · have a1 : i < A.length := by omega
    have a2 : i < B.length := by omega
    have st := st a1 a2
    refine ⟨by omega, by omega, fun c1 => ⟨by omega, ⟨q1n (i + 1) _ ⟨by omega, ?_⟩ (by omega) (weak_of_eq (by kernel_rfl))⟩⟩, fun c1 => ⟨by omega, by omega, fun c2 => ⟨by omega, by omega, trivial, ⟨VLe.of_eq ?_⟩⟩, fun c2 => ⟨by omega, by omega, trivial, ⟨VLe.of_eq ?_⟩⟩⟩⟩
    · rw [hc, st, if_pos c1]
    · rw [hc, st, if_neg c1, if_neg c2]; rfl
    · rw [hc, st, if_neg c1, if_pos c2]; rfl
  · refine ExS.evH extCL_sound (tC3 A B ((min A.length B.length : Nat) : Int) i) ?_
    simp only [holds_rq, holds_leaf, kf_ret']
    refine ⟨trivial, ⟨VLe.of_eq ?_⟩⟩
    rw [hc, cmpL_end (by omega) (by omega) (by omega)]; rfl
set_option maxRecDepth 100000 in
theorem okCompareR : ModOK Try.prog G 22 mCmpL := by
  intro args p v hm hp h
  unfold mCmpL at hm
  split at hm; rotate_left; · cases hm
  rename_i n f m g
  obtain ⟨rfl, rfl⟩ := some_pair hm
  obtain ⟨⟨hA, hB⟩, hn⟩ := hp
  have hlen : (decL dec2 n f).length ≤ 1000000 := by rw [hA.1]; exact hn
  generalize decL dec2 n f = A at hA hlen
  generalize decL dec2 m g = B at hB
  refine FnS.args (args' := [listV enc2 2 A, listV enc2 2 B]) ?_ (.cons hA.le (.cons hB.le .nil))
  clear hA hB hn
  refine fn_S Try.func22 (by kernel_rfl) rfl ?_ h
  refine ExS.evG extOr_sound 2 (tD1 A B) ?_
  simp only [holds_leaf, kf_normal]
  refine ⟨?_⟩
  refine ExS.loop' (l := dropL 2 (pcs Try.prog Try.f22)) (b := inr (inr (nth .skip (pcs Try.prog Try.f22) 2))) (r := dropL 3 (pcs Try.prog Try.f22)) (id := 0) (by kernel_rfl) (σ := Nat)
    (fun i => cst 56 [(0, listV enc2 2 A), (1, listV enc2 2 B), (5, iV (i : Nat))] []) (fun i => i ≤ min A.length B.length ∧ cmpL A B = cmpL (A.drop i) (B.drop i)) (fun i => min A.length B.length - i) 0 ⟨Nat.zero_le _, rfl⟩ (weak_of_eq (by kernel_rfl)) ?_
  rintro i ⟨hi, hc⟩ Q1 q1n q1e -
  have after : ¬ (i < A.length ∧ i < B.length) → ExS Try.prog G (resOf Try.prog Try.f22) (iV (cmpL A B)) (dropL 3 (pcs Try.prog Try.f22)) (cst 56 [(0, listV enc2 2 A), (1, listV enc2 2 B), (5, iV (i : Nat))] []) (fun _ _ => False) := fun hge => by
    have he := cmpL_end (A := A) (B := B) (i := i) (by omega) (by omega) hge
    rw [← hc] at he
    refine ExS.evH ext0_sound (tD3 A B i) ?_
    rw [he]
    unfold cmpZ
    simp only [holds_bT, holds_rq, holds_leaf, kf_ret', decide_eq_true_eq, decide_eq_false_iff_not]
    exact ⟨fun h1 => ⟨VLe.of_eq (by rw [if_pos h1]; rfl)⟩, fun h1 => ⟨fun h2 => ⟨VLe.of_eq (by rw [if_neg h1, if_pos h2]; rfl)⟩, fun h2 => ⟨VLe.of_eq (by rw [if_neg h1, if_neg h2]; rfl)⟩⟩⟩
  refine ExS.evH extOr_sound (tD2 A B i) ?_
  simp only [holds_bT, holds_rq, holds_leaf, kf_ret', kf_normal, kf_exit, decide_eq_true_eq, decide_eq_false_iff_not, beq_iff_eq, beq_eq_false_iff_ne, bne_iff_ne, bne_eq_false_iff_eq, ne_eq, Decidable.not_not, inR, show (↑i : Int).toNat = i from rfl]
  refine ⟨fun h1 => ⟨fun h2 => ?_, fun h2 => ⟨q1e _ (after (by omega))⟩⟩, fun h1 => ⟨q1e _ (after (by omega))⟩⟩
  have a1 : i < A.length := by omega
  have a2 : i < B.length := by omega
  have st := cmpL_step a1 a2
  refine ⟨by omega, by omega, trivial, fun c1 => ⟨by omega, by omega, trivial, fun c2 => ⟨VLe.of_eq ?_⟩, fun c2 => ⟨by omega, ⟨q1n (i + 1) _ ⟨by omega, ?_⟩ (by omega) (weak_of_eq (by kernel_rfl))⟩⟩⟩, fun c1 => ⟨fun c2 => ⟨VLe.of_eq ?_⟩, fun c2 => absurd c2 c1⟩⟩
  · have e1 := cmpS_zero.1 c1
    have e2 : A.getD i default ≠ B.getD i default := fun e => c2 (cmpS_zero.2 (by rw [e]))
    rw [hc, st, if_neg e2, if_pos e1]; rfl
  · have e1 := cmpS_zero.1 c1
    have e2 := cmpS_zero.1 c2
    rw [hc, st, if_pos (Prod.ext e1 e2)]
  · have e1 : (A.getD i default).1 ≠ (B.getD i default).1 := fun e => c1 (cmpS_zero.2 e)
    rw [hc, st, if_neg (fun e => e1 (by rw [e])), if_neg e1]; rfl
set_option maxRecDepth 100000 in
theorem okLSame : ModOK Try.prog G 23 mLSame := by
  intro args p v hm hp h
  unfold mLSame at hm
  split at hm; rotate_left; · cases hm
  rename_i n f m g
  obtain ⟨rfl, rfl⟩ := some_pair hm
  obtain ⟨⟨hA, hB⟩, hn⟩ := hp
  generalize decL dec2 n f = A at hA
  generalize decL dec2 m g = B at hB
  refine FnS.args (args' := [listV enc2 2 A, listV enc2 2 B]) ?_ (.cons hA.le (.cons hB.le .nil))
  have hlen : A.length ≤ 1000000 ∨ B.length ≤ 1000000 := by rw [hA.1, hB.1]; exact hn
  clear hA hB hn
  refine fn_S Try.func23 (by kernel_rfl) rfl ?_ h
  refine ExS.ev ext0_sound 4 [] (msk 26 [0, 1, 5]) rfl (tSame1 A B) ?_
  simp only [holds_bT, holds_done, kf_ret', kf_normal]
  refine ⟨fun h1 => VLe.of_eq ?_, fun h1 => ?_⟩
  · have h1 : A.length ≠ B.length := by simp at h1; omega
    rw [decide_eq_false (fun e => h1 (by rw [e]))]; rfl
  · have h1 : A.length = B.length := by simp at h1; omega
    refine ExS.loop (l := dropL 4 (pcs Try.prog Try.f23)) (b := inr (inr (nth .skip (pcs Try.prog Try.f23) 4))) (r := dropL 5 (pcs Try.prog Try.f23)) (id := 0) (by kernel_rfl)
      (fun i : Int => cst 26 [(0, listV enc2 2 A), (1, listV enc2 2 B), (5, iV i)] []) (fun i => 0 ≤ i ∧ i ≤ A.length ∧ ∀ k, k < i.toNat → A.getD k default = B.getD k default) (fun i => (A.length - i).toNat) 0 ⟨by omega, by omega, fun k hk => absurd hk (by simp)⟩ (weak_of_eq (by kernel_rfl)) ?_
    rintro i ⟨i0, i1, hi⟩
    refine ExS.evA ext0_sound [] (msk 26 [0, 1, 5]) rfl (tSame2 A B i) ?_
    have key : ((A.getD i.toNat default).fst.toList == (B.getD i.toNat default).fst.toList && ((A.getD i.toNat default).snd.toList == (B.getD i.toNat default).snd.toList && true)) = decide (A.getD i.toNat default = B.getD i.toNat default) := by
      rw [beq_bytes2, beq_bytes2, Bool.and_true, Bool.eq_iff_iff]
      simp [Prod.ext_iff]
    rw [key]
    have bad : A.getD i.toNat default ≠ B.getD i.toNat default → VLe (V.c (C.p (PV.b false))) (bV (decide (A = B))) := fun hne => by
      rw [decide_eq_false (fun e => hne (by rw [e]))]; exact VLe.refl _
    have good : i < A.length → A.getD i.toNat default = B.getD i.toNat default → ∃ j : Int, (0 ≤ j ∧ j ≤ A.length ∧ ∀ k, k < j.toNat → A.getD k default = B.getD k default) ∧ (A.length - j).toNat < (A.length - i).toNat ∧ WeakS G (cst 26 [(0, V.c (C.p (PV.l 2 A.length (rowP enc2 A)))), (1, V.c (C.p (PV.l 2 B.length (rowP enc2 B)))), (5, V.c (C.p (PV.i IntKind.i64 (i + 1))))] []) ((fun i : Int => cst 26 [(0, listV enc2 2 A), (1, listV enc2 2 B), (5, iV i)] []) j) := fun hlt he =>
      ⟨i + 1, ⟨by omega, by omega, fun k hk => by
        by_cases hk' : k < i.toNat
        · exact hi k hk'
        · obtain rfl : k = i.toNat := by omega
          exact he⟩, by omega, weak_of_eq (by kernel_rfl)⟩
    have after : ¬ i < A.length → ExS Try.prog G (resOf Try.prog Try.f23) (bV (decide (A = B))) (dropL 5 (pcs Try.prog Try.f23)) (cst 26 [(0, V.c (C.p (PV.l 2 A.length (rowP enc2 A)))), (1, V.c (C.p (PV.l 2 B.length (rowP enc2 B)))), (5, V.c (C.p (PV.i IntKind.i64 i)))] []) (fun _ _ => False) := fun hlt => by
      refine ExS.evA ext0_sound [] [] rfl (tSame3 A B i) ?_
      simp only [holds_done, kf_ret']
      rw [decide_eq_true (eq_of_getD h1 fun k hk => hi k (by omega))]
      exact VLe.refl _
    simp only [holds_bT, holds_rq, holds_leaf, kf_ret', kf_normal, kf_exit, decide_eq_true_eq, decide_eq_false_iff_not, Bool.not_eq_true', Bool.not_eq_false', inR, if_true]
    repeat' (first | apply And.intro | intro _)
    all_goals first | trivial | (clear bad good after hi; omega) | exact ⟨after ‹_›⟩ | exact ⟨bad ‹_›⟩ | exact ⟨good ‹_› ‹_›⟩
set_option maxRecDepth 100000 in
theorem okIn : ModOK Try.prog G 30 mIn := by
  intro args p v hm hp h
  unfold mIn at hm
  split at hm; rotate_left; · cases hm
  rename_i n f x
  obtain ⟨rfl, rfl⟩ := some_pair hm
  obtain ⟨hN, hn⟩ := hp
  have hlen : (decL decS n f).length ≤ 1000000 := by rw [hN.1]; exact hn
  generalize decL decS n f = N at hN hlen
  refine FnS.args (args' := [listV encS 1 N, sV x]) ?_ (.cons hN.le (.cons (.refl _) .nil))
  clear hN hn
  refine fn_S Try.func30 (by kernel_rfl) rfl ?_ h
  refine ExS.evG ext0_sound 2 (tIn1 N x) ?_
  simp only [holds_leaf, kf_normal]
  refine ⟨?_⟩
  refine ExS.loop' (l := dropL 2 (pcs Try.prog Try.f30)) (b := inr (inr (nth .skip (pcs Try.prog Try.f30) 2))) (r := dropL 3 (pcs Try.prog Try.f30)) (id := 0) (by kernel_rfl) (σ := Nat)
    (fun i => cst 18 [(0, listV encS 1 N), (1, sV x), (5, iV (i : Nat))] []) (fun i => i ≤ N.length ∧ hasS x (N.take i) = false) (fun i => N.length - i) 0 ⟨Nat.zero_le _, rfl⟩ (weak_of_eq (by kernel_rfl)) ?_
  rintro i ⟨hi, hc⟩ Q1 q1n q1e -
  refine ExS.evH ext0_sound (tIn2 N x i) ?_
  simp only [holds_bT, holds_rq, holds_leaf, kf_ret', kf_normal, kf_exit, decide_eq_true_eq, decide_eq_false_iff_not, beq_bytes2, inR, show (↑i : Int).toNat = i from rfl]
  refine ⟨fun h1 => ⟨by omega, fun c1 => ⟨VLe.of_eq ?_⟩, fun c1 => ⟨by omega, ⟨q1n (i + 1) _ ⟨by omega, ?_⟩ (by omega) (weak_of_eq (by kernel_rfl))⟩⟩⟩, fun h1 => ⟨q1e _ ?_⟩⟩
  · have : hasS x N = true := by
      unfold hasS
      rw [List.any_eq_true]
      refine ⟨N.getD i default, ?_, by rw [c1]; simp⟩
      rw [List.getD_eq_getElem?_getD, List.getElem?_eq_getElem (show i < N.length by omega)]
      exact List.getElem_mem _
    rw [this]; rfl
  · rw [take_snocS (by omega), hasS_snoc, hc, Bool.false_or]
    exact decide_eq_false (fun e => c1 e.symm)
  · rw [List.take_of_length_le (by omega)] at hc
    refine ExS.evH ext0_sound (tIn3 N x i) ?_
    simp only [holds_leaf, kf_ret']
    rw [hc]
    exact ⟨VLe.refl _⟩
theorem extIn_sound : SoundExt Try.prog G extIn := extOf_sound (by simp; exact okIn)
set_option maxRecDepth 100000 in
theorem keepR_fn {A : List (ByteArray × ByteArray)} {N : List ByteArray} (hA' : SzL A) (hN' : SzS N) (h : List AO) : FnS Try.prog G 21 [listV enc2 2 A, listV encS 1 N] h fun x h' => x = listV enc2 2 (keepL A N) ∧ h' = h := by
  have hA := hA'.1
  have hN := hN'.1
  refine fn_S Try.func21 (by kernel_rfl) rfl ?_ h
  refine ExS.evG ext0_sound 3 (tK1 A N) ?_
  simp only [holds_leaf, kf_normal]
  refine ⟨?_⟩
  refine ExS.loop' (l := dropL 3 (pcs Try.prog Try.f21)) (b := inr (inr (nth .skip (pcs Try.prog Try.f21) 3))) (r := dropL 4 (pcs Try.prog Try.f21)) (id := 0) (by kernel_rfl) (σ := Nat)
    (fun i => (fun m out => cst 28 [(0, listV enc2 2 A), (1, listV encS 1 N), (5, .c (.sl 0 2 0 m)), (6, iV (i : Nat))] [.row 60 2 m (rowC enc2 out)]) (keepL (A.take i) N).length (keepL (A.take i) N)) (fun i => i ≤ A.length) (fun i => A.length - i) 0 (Nat.zero_le _) ((weak_nil 60 2 (rowC enc2 []) 5 (by kernel_rfl)).trans (weak_of_eq (by kernel_rfl))) ?_
  intro i hi Q1 q1n q1e _
  have hl := keepL_len (A.take i) N
  rw [List.length_take] at hl
  have hsu := fun h : i < A.length => keepL_succ (N := N) h
  refine ExS.evH extIn_sound (tK2 A (keepL (A.take i) N) N (keepL (A.take i) N).length i) ?_
  simp only [holds_bT, holds_rq, holds_leaf, kf_ret', kf_normal, kf_exit, decide_eq_true_eq, decide_eq_false_iff_not, decS_row, inR, show (↑i : Int).toNat = i from rfl, show ∀ x : Nat, x + 0 = x from fun _ => rfl]
  refine ⟨fun h1 => ⟨by omega, ⟨isL_row _ _ _, hN⟩, fun c1 => ⟨by omega, trivial, Nat.le_refl _, ⟨by omega, by omega, pair_one _ _⟩, by omega, ⟨q1n (i + 1) _ (by omega) (by omega) ?_⟩⟩, fun c1 => ⟨by omega, ⟨q1n (i + 1) _ (by omega) (by omega) ?_⟩⟩⟩, fun h1 => ⟨q1e _ ?_⟩⟩
  · have e := hsu (by omega)
    rw [if_pos c1] at e
    show WeakS G _ ((fun m out i => cst 28 [(0, listV enc2 2 A), (1, listV encS 1 N), (5, .c (.sl 0 2 0 m)), (6, iV (i : Nat))] [.row 60 2 m (rowC enc2 out)]) (keepL (A.take (i + 1)) N).length (keepL (A.take (i + 1)) N) (i + 1))
    rw [e, show (keepL (A.take i) N ++ [A.getD i default]).length = (keepL (A.take i) N).length + 1 by rw [List.length_append]; rfl]
    refine weak_cst ?_
    exact ⟨⟨rfl, rfl, rfl, fun e o he ho => app1' (ρ := [2]) rfl (pair_at _ _) he ho⟩, trivial⟩
  · have e := hsu (by omega)
    rw [if_neg (by rw [c1]; decide)] at e
    show WeakS G _ ((fun m out i => cst 28 [(0, listV enc2 2 A), (1, listV encS 1 N), (5, .c (.sl 0 2 0 m)), (6, iV (i : Nat))] [.row 60 2 m (rowC enc2 out)]) (keepL (A.take (i + 1)) N).length (keepL (A.take (i + 1)) N) (i + 1))
    rw [e]
    exact weak_of_eq (by kernel_rfl)
  · rw [List.take_of_length_le (show A.length ≤ i by omega)]
    refine ExS.evH ext0_sound (tK3 A (keepL A N) N (keepL A N).length i) ?_
    simp only [holds_rq, holds_leaf, kf_ret']
    exact ⟨⟨by omega, fun _ _ _ _ => rfl⟩, ⟨VLe.refl _⟩⟩
set_option maxRecDepth 100000 in
theorem keep_fn {A : List (ByteArray × ByteArray)} {N : List ByteArray} (hA : SzL A) (hN : SzS N) (h : List AO) : FnS Try.prog G 13 [listV enc2 2 A, listV encS 1 N] h fun x h' => x = listV enc2 2 (keepL A N) ∧ h' = h := by
  obtain ⟨hA, zA⟩ := hA
  obtain ⟨hN, zN⟩ := hN
  refine fn_S Try.func13 (by kernel_rfl) rfl ?_ h
  refine ExS.evG ext0_sound 3 (tM1 A N) ?_
  simp only [holds_leaf, kf_normal]
  refine ⟨?_⟩
  refine ExS.loop' (l := dropL 3 (pcs Try.prog Try.f13)) (b := inr (inr (nth .skip (pcs Try.prog Try.f13) 3))) (r := dropL 4 (pcs Try.prog Try.f13)) (id := 0) (by kernel_rfl) (σ := Nat × (Value → Option Bool))
    (fun (i, g) => cst 39 [(0, listV enc2 2 A), (5, .c (.mp 0)), (14, listV encS 1 N), (15, iV (N.length : Nat)), (16, iV (i : Nat))] [.mapb (okK Try.prog 9) g]) (fun (i, g) => i ≤ N.length ∧ ∀ s, (g (.string s)).getD false = hasS s (N.take i)) (fun (i, _) => N.length - i) (0, fun _ => none) ⟨Nat.zero_le _, fun s => rfl⟩ (weak_of_eq (by kernel_rfl)) ?_
  rintro ⟨i, g⟩ ⟨hi, hg⟩ Q1 q1n q1e -
  refine ExS.evH ext0_sound (tM2 A N g i) ?_
  simp only [holds_bT, holds_rq, holds_leaf, kf_ret', kf_normal, kf_exit, decide_eq_true_eq, decide_eq_false_iff_not, inR, show (↑i : Int).toNat = i from rfl]
  refine ⟨fun h1 => ⟨by omega, ⟨trivial, okStr (zN i (by omega))⟩, by omega, ⟨q1n (i + 1, setM g (.string (N.getD i default)) true) _ ⟨by omega, fun s => ?_⟩ (by simp only; omega) (weak_of_eq (by kernel_rfl))⟩⟩, fun h1 => ⟨q1e _ ?_⟩⟩
  · rw [take_snocS (by omega), hasS_snoc, ← hg s]
    unfold setM
    by_cases e : s = N.getD i default
    · rw [if_pos (by rw [e])]; simp [e]
    · rw [if_neg (by intro e2; injection e2 with e2; exact e e2)]; simp only [decide_eq_false e, Bool.or_false]
  · rw [List.take_of_length_le (show N.length ≤ i by omega)] at hg
    refine ExS.evG ext0_sound 2 (tM3 A N g i) ?_
    simp only [holds_leaf, kf_normal]
    refine ⟨?_⟩
    clear q1n q1e h1 hi
    refine ExS.loop' (l := dropL 6 (pcs Try.prog Try.f13)) (b := inr (inr (nth .skip (pcs Try.prog Try.f13) 6))) (r := dropL 7 (pcs Try.prog Try.f13)) (id := 2) (by kernel_rfl) (σ := Nat)
      (fun i => (fun m out => cst 39 [(5, .c (.mp 0)), (8, .c (.sl 1 2 0 m)), (23, listV enc2 2 A), (24, iV (A.length : Nat)), (25, iV (i : Nat))] [.mapb (okK Try.prog 9) g, .row 60 2 m (rowC enc2 out)]) (keepL (A.take i) N).length (keepL (A.take i) N)) (fun i => i ≤ A.length) (fun i => A.length - i) 0 (Nat.zero_le _) ((weak_nil 60 2 (rowC enc2 []) 8 (by kernel_rfl)).trans (weak_of_eq (by kernel_rfl))) ?_
    intro i hi Q1 q1n q1e _
    have hl := keepL_len (A.take i) N
    rw [List.length_take] at hl
    have hsu := fun h : i < A.length => keepL_succ (N := N) h
    refine ExS.evH ext0_sound (tM4 A (keepL (A.take i) N) g (keepL (A.take i) N).length i) ?_
    simp only [holds_bT, holds_rq, holds_leaf, kf_ret', kf_normal, kf_exit, decide_eq_true_eq, decide_eq_false_iff_not, inR, hg, show (↑i : Int).toNat = i from rfl, show ∀ x : Nat, x + 0 = x from fun _ => rfl]
    refine ⟨fun h1 => ⟨by omega, ⟨trivial, okStr (zA i (by omega))⟩, fun c1 => ⟨trivial, Nat.le_refl _, ⟨by omega, by omega, pair_one _ _⟩, by omega, ⟨q1n (i + 1) _ (by omega) (by omega) ?_⟩⟩, fun c1 => ⟨by omega, ⟨q1n (i + 1) _ (by omega) (by omega) ?_⟩⟩⟩, fun h1 => ⟨q1e _ ?_⟩⟩
    · have e := hsu (by omega)
      rw [if_pos c1] at e
      show WeakS G _ ((fun m out i => cst 39 [(5, .c (.mp 0)), (8, .c (.sl 1 2 0 m)), (23, listV enc2 2 A), (24, iV (A.length : Nat)), (25, iV (i : Nat))] [.mapb (okK Try.prog 9) g, .row 60 2 m (rowC enc2 out)]) (keepL (A.take (i + 1)) N).length (keepL (A.take (i + 1)) N) (i + 1))
      rw [e, show (keepL (A.take i) N ++ [A.getD i default]).length = (keepL (A.take i) N).length + 1 by rw [List.length_append]; rfl]
      refine weak_cst ?_
      exact ⟨rfl, ⟨rfl, rfl, rfl, fun e o he ho => app1' (ρ := [0, 4]) rfl (pair_at _ _) he ho⟩, trivial⟩
    · have e := hsu (by omega)
      rw [if_neg (by rw [c1]; decide)] at e
      show WeakS G _ ((fun m out i => cst 39 [(5, .c (.mp 0)), (8, .c (.sl 1 2 0 m)), (23, listV enc2 2 A), (24, iV (A.length : Nat)), (25, iV (i : Nat))] [.mapb (okK Try.prog 9) g, .row 60 2 m (rowC enc2 out)]) (keepL (A.take (i + 1)) N).length (keepL (A.take (i + 1)) N) (i + 1))
      rw [e]
      exact weak_of_eq (by kernel_rfl)
    · rw [List.take_of_length_le (show A.length ≤ i by omega)]
      refine ExS.evH ext0_sound (tM5 A (keepL A N) g (keepL A N).length i) ?_
      simp only [holds_rq, holds_leaf, kf_ret']
      exact ⟨⟨by omega, fun _ _ _ _ => rfl⟩, ⟨VLe.refl _⟩⟩
theorem szS_nil : SzS [] := ⟨by simp, fun i h => by simp at h⟩
theorem okKeepG {f : FuncId} (hf : ∀ {A : List (ByteArray × ByteArray)} {N : List ByteArray}, SzL A → SzS N → ∀ h : List AO, FnS Try.prog G f [listV enc2 2 A, listV encS 1 N] h fun x h' => x = listV enc2 2 (keepL A N) ∧ h' = h) : ModOK Try.prog G f mKeep := by
  intro args p v hm hp h
  unfold mKeep at hm
  split at hm
  · rename_i n f m g
    obtain ⟨rfl, rfl⟩ := some_pair hm
    obtain ⟨⟨hA, hn⟩, hB, hm⟩ := hp
    exact FnS.args (hf hn hm h) (.cons hA.le (.cons hB.le .nil))
  · rename_i n f
    obtain ⟨rfl, rfl⟩ := some_pair hm
    obtain ⟨hA, hn⟩ := hp
    exact FnS.args (hf hn (N := []) szS_nil h) (.cons hA.le (.cons (VLe.p (PLe.nil 1 (rowP encS []))) .nil))
  · cases hm
theorem okKeep : ModOK Try.prog G 13 mKeep := okKeepG fun h1 h2 h => keep_fn h1 h2 h
theorem okKeepR : ModOK Try.prog G 21 mKeep := okKeepG fun h1 h2 h => keepR_fn h1 h2 h
end
end Go.AE
