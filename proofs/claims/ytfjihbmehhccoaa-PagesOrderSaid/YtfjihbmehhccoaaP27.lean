/- AE contracts: ref31.Same, Equal, Compare, cmp.Or, pages.Compare: trees. -/
import Derived.Test.YtfjihbmehhccoaaP25
import Derived.Test.YtfjihbmehhccoaaP26
namespace Go.AE
set_option linter.unusedVariables false
set_option linter.unusedSimpArgs false
open Go.Proofs Go.Proofs.Ytfjihbmehhccoaa Gp Go.RowKit
/-- A list of pages, by name. -/
def leP : V → List Pg → Option Prop
  | .c (.p (.l 7 n f)), A => some (n = A.length ∧ ∀ e o, e < n → o < 7 → PLe (f e o) (rowP encPg A e o))
  | .c (.p (.z (.slice none 0 0))), A => some (A = [])
  | _, _ => none
theorem leP_le {x : V} {A : List Pg} {p : Prop} (h : leP x A = some p) (hp : p) : VLe x (listV encPg 7 A) := by
  unfold leP at h
  split at h
  · injection h with h
    subst h
    obtain ⟨rfl, h2⟩ := hp
    exact VLe.p (PLe.l h2)
  · injection h with h
    subst h
    subst hp
    exact VLe.p (PLe.nil 7 _)
  · cases h
def mEqX (A B : List Pg) : Mod
  | [x, y] => match leP x A, leP y B with
    | some p, some q => some ((p ∧ q) ∧ A.length ≤ 1000000 ∧ ∀ a ∈ A, a.L.length ≤ 1000000, bV (decide (A = B)))
    | _, _ => none
  | _ => none
def mOr : Mod
  | [x] => match liOf x with
    | some (p, A) => some (p ∧ A.length ≤ 1000000, iV (orL A))
    | none => none
  | _ => none
def mPComp : Mod
  | [x, y] => match pgOf x, pgOf y with
    | some (p, a), some (q, b) => some ((p ∧ q) ∧ a.L.length ≤ 1000000 ∧ b.L.length ≤ 1000000, iV (cmpP a b))
    | _, _ => none
  | _ => none
def extSmG : Ext := extOf [(55, mGSame)]
def mOrX (A : List Int) : Mod
  | [x] => match leI x A with
    | some p => some (p ∧ A.length ≤ 1000000, iV (orL A))
    | none => none
  | _ => none
noncomputable def extPc (a b : Pg) : Ext := extH [(59, liftM mCmpS), (60, liftM mCmpI), (61, liftM mCmpL), (58, frzA (mOrX (cmpsP a b)))]
noncomputable def extGc : Ext := extOf [(62, mCmpS), (63, mCmpI), (64, mCmpL)]
theorem tE1 (A B : List Pg) : exTs ext0 (takeL 4 (pcs Try.prog Try.f23)) (st0 Try.f23 [listV encPg 7 A, listV encPg 7 B]) (endG (msk 68 [0, 1, 5]) (resOf Try.prog Try.f23)) = bT ((↑A.length : Int) != (↑B.length : Int)) (Tr.done X.ret (St.mk [V.c (C.p (PV.b false))] []))
    (Tr.done X.normal
      (cst 68 [(0, V.c (C.p (PV.l 7 A.length (rowP encPg A)))), (1, V.c (C.p (PV.l 7 B.length (rowP encPg B)))), (5, V.c (C.p (PV.i IntKind.i64 0)))] [])) := by kernel_rfl
theorem tE2 (A B : List Pg) (i : Nat) : exTs extSmG (lpB (pcs Try.prog Try.f23) 4) (cst 68 [(0, listV encPg 7 A), (1, listV encPg 7 B), (5, iV (i : Nat))] []) (endG (msk 68 [0, 1, 5]) (resOf Try.prog Try.f23)) = bT (decide ((↑i : Int) < (↑A.length : Int)))
    (Tr.rq (0 ≤ (↑i : Int) ∧ (↑i : Int) < (↑A.length : Int))
      (Tr.rq (0 ≤ (↑i : Int) ∧ (↑i : Int) < (↑B.length : Int))
        (Tr.rq
          ((IsL enc2 2 (decL dec2 (A.getD (↑i : Int).toNat default).L.length (rowP enc2 (A.getD (↑i : Int).toNat default).L)) (A.getD (↑i : Int).toNat default).L.length
                (rowP enc2 (A.getD (↑i : Int).toNat default).L) ∧
              IsL enc2 2 (decL dec2 (B.getD (↑i : Int).toNat default).L.length (rowP enc2 (B.getD (↑i : Int).toNat default).L)) (B.getD (↑i : Int).toNat default).L.length
                (rowP enc2 (B.getD (↑i : Int).toNat default).L)) ∧
            ((Pg.mk (A.getD (↑i : Int).toNat default).kd (A.getD (↑i : Int).toNat default).ru (A.getD (↑i : Int).toNat default).ve
                      (decL dec2 (A.getD (↑i : Int).toNat default).L.length (rowP enc2 (A.getD (↑i : Int).toNat default).L)) (A.getD (↑i : Int).toNat default).st (A.getD (↑i : Int).toNat default).se
                      (A.getD (↑i : Int).toNat default).to).L.length ≤
                1000000 ∨
              (Pg.mk (B.getD (↑i : Int).toNat default).kd (B.getD (↑i : Int).toNat default).ru (B.getD (↑i : Int).toNat default).ve
                      (decL dec2 (B.getD (↑i : Int).toNat default).L.length (rowP enc2 (B.getD (↑i : Int).toNat default).L)) (B.getD (↑i : Int).toNat default).st (B.getD (↑i : Int).toNat default).se
                      (B.getD (↑i : Int).toNat default).to).L.length ≤
                1000000))
          (bT
            (!sameM
                (Pg.mk (A.getD (↑i : Int).toNat default).kd (A.getD (↑i : Int).toNat default).ru (A.getD (↑i : Int).toNat default).ve
                  (decL dec2 (A.getD (↑i : Int).toNat default).L.length (rowP enc2 (A.getD (↑i : Int).toNat default).L)) (A.getD (↑i : Int).toNat default).st (A.getD (↑i : Int).toNat default).se
                  (A.getD (↑i : Int).toNat default).to)
                (Pg.mk (B.getD (↑i : Int).toNat default).kd (B.getD (↑i : Int).toNat default).ru (B.getD (↑i : Int).toNat default).ve
                  (decL dec2 (B.getD (↑i : Int).toNat default).L.length (rowP enc2 (B.getD (↑i : Int).toNat default).L)) (B.getD (↑i : Int).toNat default).st (B.getD (↑i : Int).toNat default).se
                  (B.getD (↑i : Int).toNat default).to))
            (Tr.done X.ret (St.mk [V.c (C.p (PV.b false))] []))
            (Tr.rq (0 ≤ (↑i : Int) ∧ (↑i : Int) < (↑A.length : Int))
              (Tr.rq (0 ≤ (↑i : Int) ∧ (↑i : Int) < (↑B.length : Int))
                (bT ((A.getD (↑i : Int).toNat default).kd != (B.getD (↑i : Int).toNat default).kd) (Tr.done X.ret (St.mk [V.c (C.p (PV.b false))] []))
                  (Tr.rq (0 ≤ (↑i : Int) ∧ (↑i : Int) < (↑A.length : Int))
                    (Tr.rq (0 ≤ (↑i : Int) ∧ (↑i : Int) < (↑B.length : Int))
                      (bT ((A.getD (↑i : Int).toNat default).se != (B.getD (↑i : Int).toNat default).se) (Tr.done X.ret (St.mk [V.c (C.p (PV.b false))] []))
                        (Tr.rq (0 ≤ (↑i : Int) ∧ (↑i : Int) < (↑A.length : Int))
                          (Tr.rq (0 ≤ (↑i : Int) ∧ (↑i : Int) < (↑B.length : Int))
                            (bT (!(A.getD (↑i : Int).toNat default).to.toList == (B.getD (↑i : Int).toNat default).to.toList) (Tr.done X.ret (St.mk [V.c (C.p (PV.b false))] []))
                              (Tr.rq (inR IntKind.i64 ((↑i : Int) + 1))
                                (Tr.done X.normal
                                  (cst 68 [(0, V.c (C.p (PV.l 7 A.length (rowP encPg A)))), (1, V.c (C.p (PV.l 7 B.length (rowP encPg B)))), (5, V.c (C.p (PV.i IntKind.i64 ((↑i : Int) + 1))))] []))))))))))))))))
    (Tr.done (X.exit 0)
      (cst 68 [(0, V.c (C.p (PV.l 7 A.length (rowP encPg A)))), (1, V.c (C.p (PV.l 7 B.length (rowP encPg B)))), (5, V.c (C.p (PV.i IntKind.i64 (↑i : Int))))] [])) := by kernel_rfl
theorem tE3 (A B : List Pg) (i : Nat) : exTs ext0 (dropL 5 (pcs Try.prog Try.f23)) (cst 68 [(0, listV encPg 7 A), (1, listV encPg 7 B), (5, iV (i : Nat))] []) (endG [] (resOf Try.prog Try.f23)) = Tr.done X.ret (St.mk [V.c (C.p (PV.b true))] []) := by kernel_rfl
theorem tO1 (A : List Int) : exTs ext0 (takeL 3 (pcs Try.prog Try.f58)) (st0 Try.f58 [listV encI 1 A]) (endG (msk 18 [3, 6, 7, 8]) (resOf Try.prog Try.f58)) = Tr.done X.normal
    (cst 18 [(3, V.c (C.p (PV.i IntKind.i64 0))), (6, V.c (C.p (PV.l 1 A.length (rowP encI A)))), (7, V.c (C.p (PV.i IntKind.i64 (↑A.length : Int)))), (8, V.c (C.p (PV.i IntKind.i64 0)))] []) := by kernel_rfl
theorem tO2 (A : List Int) (i : Nat) : exTs ext0 (lpB (pcs Try.prog Try.f58) 3) (cst 18 [(3, iV 0), (6, listV encI 1 A), (7, iV (A.length : Nat)), (8, iV (i : Nat))] []) (endG (msk 18 [3, 6, 7, 8]) (resOf Try.prog Try.f58)) = bT (decide ((↑i : Int) < (↑A.length : Int)))
    (Tr.rq (0 ≤ (↑i : Int) ∧ (↑i : Int) < (↑A.length : Int))
      (bT (A.getD (↑i : Int).toNat default != 0) (Tr.done X.ret (St.mk [V.c (C.p (PV.i IntKind.i64 (A.getD (↑i : Int).toNat default)))] []))
        (Tr.rq (inR IntKind.i64 ((↑i : Int) + 1))
          (Tr.done X.normal
            (cst 18 [(3, V.c (C.p (PV.i IntKind.i64 0))), (6, V.c (C.p (PV.l 1 A.length (rowP encI A)))), (7, V.c (C.p (PV.i IntKind.i64 (↑A.length : Int)))), (8, V.c (C.p (PV.i IntKind.i64 ((↑i : Int) + 1))))] [])))))
    (Tr.done (X.exit 0)
      (cst 18 [(3, V.c (C.p (PV.i IntKind.i64 0))), (6, V.c (C.p (PV.l 1 A.length (rowP encI A)))), (7, V.c (C.p (PV.i IntKind.i64 (↑A.length : Int)))), (8, V.c (C.p (PV.i IntKind.i64 (↑i : Int))))] [])) := by kernel_rfl
theorem tO3 (A : List Int) (i : Nat) : exTs ext0 (dropL 4 (pcs Try.prog Try.f58)) (cst 18 [(3, iV 0), (6, listV encI 1 A), (7, iV (A.length : Nat)), (8, iV (i : Nat))] []) (endG [] (resOf Try.prog Try.f58)) = Tr.done X.ret (St.mk [V.c (C.p (PV.i IntKind.i64 0))] []) := by kernel_rfl
theorem tPC (a0 a2 a4 a5 b0 b2 b4 b5 : Int) (a1 a6 b1 b6 : ByteArray) (a3 b3 : List (ByteArray × ByteArray)) : exTs (extPc ⟨a0, a1, a2, a3, a4, a5, a6⟩ ⟨b0, b1, b2, b3, b4, b5, b6⟩) (pcs Try.prog Try.f32) (st0 Try.f32 [pgW a0 a1 a2 a3 a4 a5 a6, pgW b0 b1 b2 b3 b4 b5 b6]) (endG [] (resOf Try.prog Try.f32)) = Tr.rq True
    (Tr.rq True
      (Tr.rq ((IsL enc2 2 (decL dec2 a3.length (rowP enc2 a3)) a3.length (rowP enc2 a3) ∧ IsL enc2 2 (decL dec2 b3.length (rowP enc2 b3)) b3.length (rowP enc2 b3)) ∧ a3.length ≤ 1000000)
        (Tr.rq True
          (Tr.rq True
            (Tr.rq True
              (Tr.rq True
                (Tr.rq
                  ((conVs 2 1 7 [V.c (C.sl 2 1 0 7)] ∧
                      ∀ (e o : Nat),
                        e < 7 →
                          o < 1 →
                            isF
                                (nth C.top
                                  [C.p (PV.i IntKind.i64 (cmpS a1 b1)), C.p (PV.i IntKind.i64 (cmpZ a2 b2)),
                                    C.p (PV.i IntKind.i64 (cmpL (decL dec2 a3.length (rowP enc2 a3)) (decL dec2 b3.length (rowP enc2 b3)))), C.p (PV.i IntKind.i64 (cmpZ a4 b4)),
                                    C.p (PV.i IntKind.i64 (cmpZ a0 b0)), C.p (PV.i IntKind.i64 (cmpZ a5 b5)), C.p (PV.i IntKind.i64 (cmpS a6 b6))]
                                  (e * 1 + o)) =
                              true) ∧
                    (IsL encI 1 (cmpsP (Pg.mk a0 a1 a2 a3 a4 a5 a6) (Pg.mk b0 b1 b2 b3 b4 b5 b6)) 7 fun e o =>
                        unP
                          (bslF
                            [C.p (PV.i IntKind.i64 (cmpS a1 b1)), C.p (PV.i IntKind.i64 (cmpZ a2 b2)),
                              C.p (PV.i IntKind.i64 (cmpL (decL dec2 a3.length (rowP enc2 a3)) (decL dec2 b3.length (rowP enc2 b3)))), C.p (PV.i IntKind.i64 (cmpZ a4 b4)),
                              C.p (PV.i IntKind.i64 (cmpZ a0 b0)), C.p (PV.i IntKind.i64 (cmpZ a5 b5)), C.p (PV.i IntKind.i64 (cmpS a6 b6))]
                            1 7 (e + 0) o)) ∧
                      (cmpsP (Pg.mk a0 a1 a2 a3 a4 a5 a6) (Pg.mk b0 b1 b2 b3 b4 b5 b6)).length ≤ 1000000)
                  (Tr.done X.ret (St.mk [V.c (C.p (PV.i IntKind.i64 (orL (cmpsP (Pg.mk a0 a1 a2 a3 a4 a5 a6) (Pg.mk b0 b1 b2 b3 b4 b5 b6)))))] []))))))))) := by kernel_rfl
theorem tGC (a0 a2 a4 a5 b0 b2 b4 b5 : Int) (a1 a6 b1 b6 : ByteArray) (a3 b3 : List (ByteArray × ByteArray)) : exTs extGc (takeL 3 (pcs Try.prog Try.f33)) (st0 Try.f33 [pgW a0 a1 a2 a3 a4 a5 a6, pgW b0 b1 b2 b3 b4 b5 b6]) (endG (msk 56 [5, 6]) (resOf Try.prog Try.f33)) = Tr.rq True
    (Tr.rq True
      (Tr.rq ((IsL enc2 2 (decL dec2 a3.length (rowP enc2 a3)) a3.length (rowP enc2 a3) ∧ IsL enc2 2 (decL dec2 b3.length (rowP enc2 b3)) b3.length (rowP enc2 b3)) ∧ a3.length ≤ 1000000)
        (Tr.rq True
          (Tr.rq True
            (Tr.rq True
              (Tr.rq True
                (Tr.done X.normal
                  (cst 56 [(5, V.c (C.sl 0 1 0 7)), (6, V.c (C.p (PV.i IntKind.i64 0)))] [AO.row 3 1 7 fun e o => renC [2] (nth C.top [C.p (PV.i IntKind.i64 (cmpS a1 b1)), C.p (PV.i IntKind.i64 (cmpZ a2 b2)), C.p (PV.i IntKind.i64 (cmpL (decL dec2 a3.length (rowP enc2 a3)) (decL dec2 b3.length (rowP enc2 b3)))), C.p (PV.i IntKind.i64 (cmpZ a4 b4)), C.p (PV.i IntKind.i64 (cmpZ a0 b0)), C.p (PV.i IntKind.i64 (cmpZ a5 b5)), C.p (PV.i IntKind.i64 (cmpS a6 b6))] (e * 1 + o))])))))))) := by kernel_rfl
theorem tGC2 (A : List Int) (i : Nat) : exTs ext0 (lpB (pcs Try.prog Try.f33) 3) (cst 56 [(5, listV encI 1 A), (6, iV (i : Nat))] []) (endG (msk 56 [5, 6]) (resOf Try.prog Try.f33)) = bT (decide ((↑i : Int) < 7))
    (Tr.rq (0 ≤ (↑i : Int) ∧ (↑i : Int) < (↑A.length : Int))
      (bT (A.getD (↑i : Int).toNat default != 0) (Tr.rq (0 ≤ (↑i : Int) ∧ (↑i : Int) < (↑A.length : Int)) (Tr.done X.ret (St.mk [V.c (C.p (PV.i IntKind.i64 (A.getD (↑i : Int).toNat default)))] [])))
        (Tr.rq (inR IntKind.i64 ((↑i : Int) + 1))
          (Tr.done X.normal
            (cst 56 [(5, V.c (C.p (PV.l 1 A.length (rowP encI A)))), (6, V.c (C.p (PV.i IntKind.i64 ((↑i : Int) + 1))))] [])))))
    (Tr.done (X.exit 0)
      (cst 56 [(5, V.c (C.p (PV.l 1 A.length (rowP encI A)))), (6, V.c (C.p (PV.i IntKind.i64 (↑i : Int))))] [])) := by kernel_rfl
theorem tGC3 (A : List Int) (i : Nat) : exTs ext0 (dropL 4 (pcs Try.prog Try.f33)) (cst 56 [(5, listV encI 1 A), (6, iV (i : Nat))] []) (endG [] (resOf Try.prog Try.f33)) = Tr.done X.ret (St.mk [V.c (C.p (PV.i IntKind.i64 0))] []) := by kernel_rfl
end Go.AE
