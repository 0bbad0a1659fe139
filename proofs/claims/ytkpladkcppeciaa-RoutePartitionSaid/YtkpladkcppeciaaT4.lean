/- AE contracts: route.Groups and its closure. -/
import Derived.Test.YtkpladkcppeciaaT3
import Derived.Test.YtkpladkcppeciaaAe32
namespace Go.AE
open Go.Proofs Go.Proofs.Ytkpladkcppeciaa Gp
set_option linter.unusedVariables false
set_option linter.unusedSimpArgs false

def rowI (L : List Int) (f : Nat → Nat → C) : Prop := ∀ e o, e < L.length → o < 1 → f e o = rowC encI L e o
def rowLL (K : List (List (ByteArray × ByteArray))) (f : Nat → Nat → C) : Prop := ∀ e o, e < K.length → o < 1 → f e o = rowC encLL K e o
def ShortK (K : List (List (ByteArray × ByteArray))) : Prop := ∀ i, i < K.length → (K.getD i default).length ≤ 1000000
def keyK (K : List (List (ByteArray × ByteArray))) (i : Int) : List (ByteArray × ByteArray) := K.getD i.toNat default
/-- slices.SortStableFunc of a list of indices with the closure that compares what lies there. -/
def mSort (L : List Int) (K : List (List (ByteArray × ByteArray))) : ModH
  | [.c (.sl id 1 0 n), .c (.fn (.func 20) [] [.ptr b 0])], h => match nth .gone h id, nth .gone h b with
    | .row 3 1 n' f, .cells _ [.sl id2 1 0 m] => match nth .gone h id2 with
      | .row 34 1 m' g => some ((n = L.length ∧ n' = L.length ∧ rowI L f) ∧ (m = K.length ∧ m' = K.length ∧ rowLL K g ∧ ShortK K) ∧ L.length < 20 ∧ ∀ i ∈ L, 0 ≤ i ∧ i < K.length, .t [], upd (.row 3 1 L.length (rowC encI (sortZ (cfK (keyK K)) L))) h id)
      | _ => none
    | _, _ => none
  | _, _ => none
def extC : Ext := extOf [(12, mCmpL)]
def extKe : Ext := extOf [(13, mKeep)]
def extSo (L : List Int) (K : List (List (ByteArray × ByteArray))) : Ext := extH [(19, mSort L K)]

theorem tCl (K : List (List (ByteArray × ByteArray))) (x y : Int) : exTs extC (pcs Try.prog Try.f20) (st0 Try.f20 [iV x, iV y, .c (.lp 1 1 (fun _ _ => listP encLL 1 K) 0 0)]) (endG [] (resOf Try.prog Try.f20)) = Tr.rq (0 ≤ x ∧ x < (↑K.length : Int))
    (Tr.rq (0 ≤ y ∧ y < (↑K.length : Int))
      (Tr.rq
        ((IsL enc2 2 (decL dec2 (K.getD x.toNat default).length (rowP enc2 (K.getD x.toNat default))) (K.getD x.toNat default).length (rowP enc2 (K.getD x.toNat default)) ∧
            IsL enc2 2 (decL dec2 (K.getD y.toNat default).length (rowP enc2 (K.getD y.toNat default))) (K.getD y.toNat default).length (rowP enc2 (K.getD y.toNat default))) ∧
          (K.getD x.toNat default).length ≤ 1000000)
        (Tr.done X.ret
          (St.mk [V.c (C.p (PV.i IntKind.i64 (cmpL (decL dec2 (K.getD x.toNat default).length (rowP enc2 (K.getD x.toNat default))) (decL dec2 (K.getD y.toNat default).length (rowP enc2 (K.getD y.toNat default))))))] [])))) := by kernel_rfl
theorem tH1 (A : List (List (ByteArray × ByteArray))) (N : List ByteArray) : exTs ext0 (takeL 4 (pcs Try.prog Try.f8)) (st0 Try.f8 [listV encAl 6 A, listV encS 1 N]) (endG (msk 84 [0, 1, 5, 6, 18, 19]) (resOf Try.prog Try.f8)) = Tr.rq (Int.ofNat 0 ≤ Int.ofNat 0 ∧ 0 ≤ (↑A.length : Int) ∧ (↑A.length : Int) * (↑24 : Int) ≤ 140737488355328 ∧ (↑A.length : Int) ≤ 140737488355328)
    (Tr.rq (Int.ofNat 0 ≤ Int.ofNat 0 ∧ 0 ≤ (↑A.length : Int) ∧ (↑A.length : Int) * (↑8 : Int) ≤ 140737488355328 ∧ (↑A.length : Int) ≤ 140737488355328)
      (Tr.done X.normal
        (cst 84 [(0, V.c (C.p (PV.l 6 A.length (rowP encAl A)))), (1, V.c (C.p (PV.l 1 N.length (rowP encS N)))), (5, V.c (C.ptr 0 0)), (6, V.c (C.sl 1 1 0 0)), (18, V.c (C.p (PV.i IntKind.i64 (↑A.length : Int)))), (19, V.c (C.p (PV.i IntKind.i64 0)))] [AO.cells 44 [C.sl 2 1 0 0], AO.row 3 1 0 fun e o => renC [1, 2, 0] (C.p (nth (PV.b false) [PV.i IntKind.i64 0] o)), AO.row 34 1 0 fun e o => renC [1, 2, 0] (C.p (nth (PV.b false) [PV.z (Value.slice none 0 0)] o))]))) := by kernel_rfl
theorem tH2 (A K : List (List (ByteArray × ByteArray))) (N : List ByteArray) (L : List Int) (k i : Nat) : exTs extKe (lpB (pcs Try.prog Try.f8) 4) (cst 84 [(0, listV encAl 6 A), (1, listV encS 1 N), (5, .c (.ptr 0 0)), (6, .c (.sl 1 1 0 i)), (18, iV (A.length : Nat)), (19, iV (i : Nat))] [.cells 44 [.sl 2 1 0 k], .row 3 1 i (rowC encI L), .row 34 1 k (rowC encLL K)]) (endG (msk 84 [0, 1, 5, 6, 18, 19]) (resOf Try.prog Try.f8)) = bT (decide ((↑i : Int) < (↑A.length : Int)))
    (Tr.rq (0 ≤ (↑i : Int) ∧ (↑i : Int) < (↑A.length : Int))
      (Tr.rq
        ((IsL enc2 2 (decL dec2 (A.getD (↑i : Int).toNat default).length (rowP enc2 (A.getD (↑i : Int).toNat default))) (A.getD (↑i : Int).toNat default).length
              (rowP enc2 (A.getD (↑i : Int).toNat default)) ∧
            SzL (decL dec2 (A.getD (↑i : Int).toNat default).length (rowP enc2 (A.getD (↑i : Int).toNat default)))) ∧
          IsL encS 1 (decL decS N.length (rowP encS N)) N.length (rowP encS N) ∧ SzS (decL decS N.length (rowP encS N)))
        (Tr.rq (k = k)
          (Tr.rq (1 ≤ 1)
            (Tr.rq
              ((k + 1) * 24 ≤ 140737488355328 ∧
                k + 1 ≤ 140737488355328 ∧
                  ∀ (e o : Nat),
                    e < 1 →
                      o < 1 →
                        oneC
                            (nth C.top
                              [C.p
                                  (PV.l 2 (keepL (decL dec2 (A.getD (↑i : Int).toNat default).length (rowP enc2 (A.getD (↑i : Int).toNat default))) (decL decS N.length (rowP encS N))).length
                                    (rowP enc2 (keepL (decL dec2 (A.getD (↑i : Int).toNat default).length (rowP enc2 (A.getD (↑i : Int).toNat default))) (decL decS N.length (rowP encS N)))))]
                              ((e + 0) * 1 + o)) =
                          true)
              (Tr.rq (i = i)
                (Tr.rq (1 ≤ 1)
                  (Tr.rq ((i + 1) * 8 ≤ 140737488355328 ∧ i + 1 ≤ 140737488355328 ∧ ∀ (e o : Nat), e < 1 → o < 1 → oneC (nth C.top [C.p (PV.i IntKind.i64 (↑i : Int))] ((e + 0) * 1 + o)) = true)
                    (Tr.rq (inR IntKind.i64 ((↑i : Int) + 1))
                      (Tr.done X.normal
                        (cst 84 [(0, V.c (C.p (PV.l 6 A.length (rowP encAl A)))), (1, V.c (C.p (PV.l 1 N.length (rowP encS N)))), (5, V.c (C.ptr 0 0)), (6, V.c (C.sl 1 1 0 (i + 1))), (18, V.c (C.p (PV.i IntKind.i64 (↑A.length : Int)))), (19, V.c (C.p (PV.i IntKind.i64 ((↑i : Int) + 1))))] [AO.cells 44 [C.sl 2 1 0 (k + 1)], AO.row 3 1 (i + 1) fun e o => renC [0, 6, 4] (appF i (rowC encI L) (fun e o => nth C.top [C.p (PV.i IntKind.i64 (↑i : Int))] ((e + 0) * 1 + o)) e o), AO.row 34 1 (k + 1) fun e o => renC [0, 6, 4] (appF k (rowC encLL K) (fun e o => nth C.top [C.p (PV.l 2 (keepL (decL dec2 (A.getD (↑i : Int).toNat default).length (rowP enc2 (A.getD (↑i : Int).toNat default))) (decL decS N.length (rowP encS N))).length (rowP enc2 (keepL (decL dec2 (A.getD (↑i : Int).toNat default).length (rowP enc2 (A.getD (↑i : Int).toNat default))) (decL decS N.length (rowP encS N)))))] ((e + 0) * 1 + o)) e o)])))))))))))
    (Tr.done (X.exit 0)
      (cst 84 [(0, V.c (C.p (PV.l 6 A.length (rowP encAl A)))), (1, V.c (C.p (PV.l 1 N.length (rowP encS N)))), (5, V.c (C.ptr 0 0)), (6, V.c (C.sl 1 1 0 i)), (18, V.c (C.p (PV.i IntKind.i64 (↑A.length : Int)))), (19, V.c (C.p (PV.i IntKind.i64 (↑i : Int))))] [AO.cells 44 [C.sl 2 1 0 k], AO.row 3 1 i fun e o => renC [0, 1, 2] (rowC encI L e o), AO.row 34 1 k fun e o => renC [0, 1, 2] (rowC encLL K e o)])) := by kernel_rfl
theorem tH3 (K : List (List (ByteArray × ByteArray))) (L : List Int) (k i : Nat) : exTs (extSo L K) (takeL 1 (dropL 5 (pcs Try.prog Try.f8))) (cst 84 [(5, .c (.ptr 0 0)), (6, .c (.sl 1 1 0 i))] [.cells 44 [.sl 2 1 0 k], .row 3 1 i (rowC encI L), .row 34 1 k (rowC encLL K)]) (endG (msk 84 [5, 6]) (resOf Try.prog Try.f8)) = Tr.rq ((i = L.length ∧ i = L.length ∧ rowI L (rowC encI L)) ∧ (k = K.length ∧ k = K.length ∧ rowLL K (rowC encLL K) ∧ ShortK K) ∧ L.length < 20 ∧ ∀ (i : Int), i ∈ L → 0 ≤ i ∧ i < (↑K.length : Int))
    (Tr.done X.normal
      (cst 84 [(5, V.c (C.ptr 0 0)), (6, V.c (C.sl 1 1 0 i))] [AO.cells 44 [C.sl 2 1 0 k], AO.row 3 1 L.length fun e o => renC [0, 1, 2] (rowC encI (sortZ (cfK (keyK K)) L) e o), AO.row 34 1 k fun e o => renC [0, 1, 2] (rowC encLL K e o)])) := by kernel_rfl
theorem tH4 (K : List (List (ByteArray × ByteArray))) (L : List Int) (k : Nat) : exTs ext0 (takeL 2 (dropL 6 (pcs Try.prog Try.f8))) (cst 84 [(5, .c (.ptr 0 0)), (6, listV encI 1 L)] [.cells 44 [.sl 1 1 0 k], .row 34 1 k (rowC encLL K)]) (endG (msk 84 [5, 6, 8, 40, 41, 42]) (resOf Try.prog Try.f8)) = Tr.done X.normal
    (cst 84 [(5, V.c (C.ptr 0 0)), (6, V.c (C.p (PV.l 1 L.length (rowP encI L)))), (8, V.c (C.p (PV.z (Value.slice none 0 0)))), (40, V.c (C.p (PV.l 1 L.length (rowP encI L)))), (41, V.c (C.p (PV.i IntKind.i64 (↑L.length : Int)))), (42, V.c (C.p (PV.i IntKind.i64 0)))] [AO.cells 44 [C.sl 1 1 0 k], AO.row 34 1 k fun e o => renC [0, 1] (rowC encLL K e o)]) := by kernel_rfl
theorem tH5 (K : List (List (ByteArray × ByteArray))) (L : List Int) (M : List (List Int)) (m k j : Nat) : exTs ext0 (takeL 2 (lpB (pcs Try.prog Try.f8) 8)) (cst 84 [(5, .c (.ptr 0 0)), (6, listV encI 1 L), (8, .c (.sl 1 1 0 m)), (40, listV encI 1 L), (41, iV (L.length : Nat)), (42, iV (j : Nat))] [.cells 44 [.sl 2 1 0 k], .row 22 1 m (fun e _ => .own 3 1 (M.getD e default).length (rowP encI (M.getD e default))), .row 34 1 k (rowC encLL K)]) (endG (msk 84 [5, 6, 8, 40, 41, 42]) (resOf Try.prog Try.f8)) = bT (decide ((↑j : Int) < (↑L.length : Int)))
    (Tr.done X.normal
      (cst 84 [(5, V.c (C.ptr 0 0)), (6, V.c (C.p (PV.l 1 L.length (rowP encI L)))), (8, V.c (C.sl 1 1 0 m)), (40, V.c (C.p (PV.l 1 L.length (rowP encI L)))), (41, V.c (C.p (PV.i IntKind.i64 (↑L.length : Int)))), (42, V.c (C.p (PV.i IntKind.i64 (↑j : Int))))] [AO.cells 44 [C.sl 2 1 0 k], AO.row 22 1 m fun e o => renC [0, 1, 2] (C.own 3 1 (M.getD e default).length (rowP encI (M.getD e default))), AO.row 34 1 k fun e o => renC [0, 1, 2] (rowC encLL K e o)]))
    (Tr.done (X.exit 2)
      (cst 84 [(5, V.c (C.ptr 0 0)), (6, V.c (C.p (PV.l 1 L.length (rowP encI L)))), (8, V.c (C.sl 1 1 0 m)), (40, V.c (C.p (PV.l 1 L.length (rowP encI L)))), (41, V.c (C.p (PV.i IntKind.i64 (↑L.length : Int)))), (42, V.c (C.p (PV.i IntKind.i64 (↑j : Int))))] [AO.cells 44 [C.sl 2 1 0 k], AO.row 22 1 m fun e o => renC [0, 1, 2] (C.own 3 1 (M.getD e default).length (rowP encI (M.getD e default))), AO.row 34 1 k fun e o => renC [0, 1, 2] (rowC encLL K e o)])) := by kernel_rfl
theorem tH6 (K : List (List (ByteArray × ByteArray))) (L : List Int) (M : List (List Int)) (m k j : Nat) : exTs extC (takeL 1 (flat (inr (nth .skip (lpB (pcs Try.prog Try.f8) 8) 2)))) (cst 84 [(5, .c (.ptr 0 0)), (6, listV encI 1 L), (8, .c (.sl 1 1 0 m)), (40, listV encI 1 L), (41, iV (L.length : Nat)), (42, iV (j : Nat))] [.cells 44 [.sl 2 1 0 k], .row 22 1 m (fun e _ => .own 3 1 (M.getD e default).length (rowP encI (M.getD e default))), .row 34 1 k (rowC encLL K)]) (endG (msk 84 [5, 6, 8, 9, 10, 40, 41, 42]) (resOf Try.prog Try.f8)) = Tr.rq (0 ≤ (↑j : Int) ∧ (↑j : Int) < (↑L.length : Int))
    (Tr.done X.normal
      (cst 84 [(5, V.c (C.ptr 0 0)), (6, V.c (C.p (PV.l 1 L.length (rowP encI L)))), (8, V.c (C.sl 1 1 0 m)), (9, V.c (C.p (PV.i IntKind.i64 (↑j : Int)))), (10, V.c (C.p (PV.i IntKind.i64 (L.getD (↑j : Int).toNat default)))), (40, V.c (C.p (PV.l 1 L.length (rowP encI L)))), (41, V.c (C.p (PV.i IntKind.i64 (↑L.length : Int)))), (42, V.c (C.p (PV.i IntKind.i64 (↑j : Int))))] [AO.cells 44 [C.sl 2 1 0 k], AO.row 22 1 m fun e o => renC [0, 1, 2] (C.own 3 1 (M.getD e default).length (rowP encI (M.getD e default))), AO.row 34 1 k fun e o => renC [0, 1, 2] (rowC encLL K e o)])) := by kernel_rfl
theorem tH7 (K : List (List (ByteArray × ByteArray))) (L : List Int) (M : List (List Int)) (x : Int) (m k j : Nat) : exTs extC (takeL 2 (dropL 1 (flat (inr (nth .skip (lpB (pcs Try.prog Try.f8) 8) 2))))) (cst 84 [(5, .c (.ptr 0 0)), (6, listV encI 1 L), (8, .c (.sl 1 1 0 m)), (9, iV (j : Nat)), (10, iV x), (40, listV encI 1 L), (41, iV (L.length : Nat)), (42, iV (j : Nat))] [.cells 44 [.sl 2 1 0 k], .row 22 1 m (fun e _ => .own 3 1 (M.getD e default).length (rowP encI (M.getD e default))), .row 34 1 k (rowC encLL K)]) (endG (msk 84 [5, 6, 8, 10, 40, 41, 42]) (resOf Try.prog Try.f8)) = bT ((↑j : Int) == 0)
    (Tr.rq (m = m)
      (Tr.rq (1 ≤ 1)
        (Tr.rq ((m + 1) * 24 ≤ 140737488355328 ∧ m + 1 ≤ 140737488355328 ∧ ∀ (e o : Nat), e < 1 → o < 1 → oneC (nth C.top [C.p (PV.z (Value.slice none 0 0))] ((e + 0) * 1 + o)) = true)
          (Tr.done X.normal
            (cst 84 [(5, V.c (C.ptr 0 0)), (6, V.c (C.p (PV.l 1 L.length (rowP encI L)))), (8, V.c (C.sl 1 1 0 (m + 1))), (10, V.c (C.p (PV.i IntKind.i64 x))), (40, V.c (C.p (PV.l 1 L.length (rowP encI L)))), (41, V.c (C.p (PV.i IntKind.i64 (↑L.length : Int)))), (42, V.c (C.p (PV.i IntKind.i64 (↑j : Int))))] [AO.cells 44 [C.sl 2 1 0 k], AO.row 22 1 (m + 1) fun e o => renC [0, 4, 2] (appF m (fun e x => C.own 3 1 (M.getD e default).length (rowP encI (M.getD e default))) (fun e o => nth C.top [C.p (PV.z (Value.slice none 0 0))] ((e + 0) * 1 + o)) e o), AO.row 34 1 k fun e o => renC [0, 4, 2] (rowC encLL K e o)])))))
    (Tr.rq (inR IntKind.i64 ((↑j : Int) - 1))
      (Tr.rq (0 ≤ (↑j : Int) - 1 ∧ (↑j : Int) - 1 < (↑L.length : Int))
        (Tr.rq (0 ≤ L.getD ((↑j : Int) - 1).toNat default ∧ L.getD ((↑j : Int) - 1).toNat default < (↑k : Int))
          (Tr.rq ((L.getD ((↑j : Int) - 1).toNat default).toNat + 0 < k)
            (Tr.rq (0 ≤ x ∧ x < (↑k : Int))
              (Tr.rq (x.toNat + 0 < k)
                (Tr.rq
                  ((IsL enc2 2 (decL dec2 (K.getD ((L.getD ((↑j : Int) - 1).toNat default).toNat + 0) default).length (rowP enc2 (K.getD ((L.getD ((↑j : Int) - 1).toNat default).toNat + 0) default)))
                        (K.getD ((L.getD ((↑j : Int) - 1).toNat default).toNat + 0) default).length (rowP enc2 (K.getD ((L.getD ((↑j : Int) - 1).toNat default).toNat + 0) default)) ∧
                      IsL enc2 2 (decL dec2 (K.getD (x.toNat + 0) default).length (rowP enc2 (K.getD (x.toNat + 0) default))) (K.getD (x.toNat + 0) default).length
                        (rowP enc2 (K.getD (x.toNat + 0) default))) ∧
                    (K.getD ((L.getD ((↑j : Int) - 1).toNat default).toNat + 0) default).length ≤ 1000000)
                  (bT
                    (cmpL (decL dec2 (K.getD ((L.getD ((↑j : Int) - 1).toNat default).toNat + 0) default).length (rowP enc2 (K.getD ((L.getD ((↑j : Int) - 1).toNat default).toNat + 0) default)))
                        (decL dec2 (K.getD (x.toNat + 0) default).length (rowP enc2 (K.getD (x.toNat + 0) default))) !=
                      0)
                    (Tr.rq (m = m)
                      (Tr.rq (1 ≤ 1)
                        (Tr.rq ((m + 1) * 24 ≤ 140737488355328 ∧ m + 1 ≤ 140737488355328 ∧ ∀ (e o : Nat), e < 1 → o < 1 → oneC (nth C.top [C.p (PV.z (Value.slice none 0 0))] ((e + 0) * 1 + o)) = true)
                          (Tr.done X.normal
                            (cst 84 [(5, V.c (C.ptr 0 0)), (6, V.c (C.p (PV.l 1 L.length (rowP encI L)))), (8, V.c (C.sl 1 1 0 (m + 1))), (10, V.c (C.p (PV.i IntKind.i64 x))), (40, V.c (C.p (PV.l 1 L.length (rowP encI L)))), (41, V.c (C.p (PV.i IntKind.i64 (↑L.length : Int)))), (42, V.c (C.p (PV.i IntKind.i64 (↑j : Int))))] [AO.cells 44 [C.sl 2 1 0 k], AO.row 22 1 (m + 1) fun e o => renC [0, 4, 2] (appF m (fun e x => C.own 3 1 (M.getD e default).length (rowP encI (M.getD e default))) (fun e o => nth C.top [C.p (PV.z (Value.slice none 0 0))] ((e + 0) * 1 + o)) e o), AO.row 34 1 k fun e o => renC [0, 4, 2] (rowC encLL K e o)])))))
                    (Tr.done X.normal
                      (cst 84 [(5, V.c (C.ptr 0 0)), (6, V.c (C.p (PV.l 1 L.length (rowP encI L)))), (8, V.c (C.sl 1 1 0 m)), (10, V.c (C.p (PV.i IntKind.i64 x))), (40, V.c (C.p (PV.l 1 L.length (rowP encI L)))), (41, V.c (C.p (PV.i IntKind.i64 (↑L.length : Int)))), (42, V.c (C.p (PV.i IntKind.i64 (↑j : Int))))] [AO.cells 44 [C.sl 2 1 0 k], AO.row 22 1 m fun e o => renC [0, 1, 2] (C.own 3 1 (M.getD e default).length (rowP encI (M.getD e default))), AO.row 34 1 k fun e o => renC [0, 1, 2] (rowC encLL K e o)])))))))))) := by kernel_rfl
theorem tH8 (K : List (List (ByteArray × ByteArray))) (L own : List Int) (M : List (List Int)) (x : Int) (m k j l e0 : Nat) : exTs ext0 (dropL 3 (flat (inr (nth .skip (lpB (pcs Try.prog Try.f8) 8) 2)))) (cst 84 [(5, .c (.ptr 0 0)), (6, listV encI 1 L), (8, .c (.sl 1 1 0 m)), (10, iV x), (40, listV encI 1 L), (41, iV (L.length : Nat)), (42, iV (j : Nat))] [.cells 44 [.sl 2 1 0 k], .foc 22 1 m e0 [.sl 3 1 0 l] (fun e _ => .own 3 1 (M.getD e default).length (rowP encI (M.getD e default))), .row 34 1 k (rowC encLL K), .row 3 1 l (rowC encI own)]) (endG (msk 84 [5, 6, 8, 40, 41, 42]) (resOf Try.prog Try.f8)) = Tr.rq (inR IntKind.i64 ((↑m : Int) - 1))
    (Tr.rq (inR IntKind.i64 ((↑m : Int) - 1))
      (Tr.rq (0 ≤ (↑m : Int) - 1 ∧ (↑m : Int) - 1 < (↑m : Int))
        (Tr.rq (((↑m : Int) - 1).toNat + 0 = e0)
          (Tr.rq (l = l)
            (Tr.rq (1 ≤ 1)
              (Tr.rq ((l + 1) * 8 ≤ 140737488355328 ∧ l + 1 ≤ 140737488355328 ∧ ∀ (e o : Nat), e < 1 → o < 1 → oneC (nth C.top [C.p (PV.i IntKind.i64 x)] ((e + 0) * 1 + o)) = true)
                (Tr.rq (0 ≤ (↑m : Int) - 1 ∧ (↑m : Int) - 1 < (↑m : Int))
                  (Tr.rq (((↑m : Int) - 1).toNat + 0 = e0)
                    (Tr.done X.normal
                      (cst 84 [(5, V.c (C.ptr 0 0)), (6, V.c (C.p (PV.l 1 L.length (rowP encI L)))), (8, V.c (C.sl 1 1 0 m)), (40, V.c (C.p (PV.l 1 L.length (rowP encI L)))), (41, V.c (C.p (PV.i IntKind.i64 (↑L.length : Int)))), (42, V.c (C.p (PV.i IntKind.i64 (↑j : Int))))] [AO.cells 44 [C.sl 2 1 0 k], AO.foc 22 1 m e0 [C.sl 3 1 0 (l + 1)] fun e o => renC [0, 1, 2, 5] (C.own 3 1 (M.getD e default).length (rowP encI (M.getD e default))), AO.row 34 1 k fun e o => renC [0, 1, 2, 5] (rowC encLL K e o), AO.row 3 1 (l + 1) fun e o => renC [0, 1, 2, 5] (appF l (rowC encI own) (fun e o => nth C.top [C.p (PV.i IntKind.i64 x)] ((e + 0) * 1 + o)) e o)])))))))))) := by kernel_rfl
theorem tH9 (K : List (List (ByteArray × ByteArray))) (L : List Int) (M : List (List Int)) (m k j : Nat) : exTs ext0 (dropL 3 (lpB (pcs Try.prog Try.f8) 8)) (cst 84 [(5, .c (.ptr 0 0)), (6, listV encI 1 L), (8, .c (.sl 1 1 0 m)), (40, listV encI 1 L), (41, iV (L.length : Nat)), (42, iV (j : Nat))] [.cells 44 [.sl 2 1 0 k], .row 22 1 m (fun e _ => .own 3 1 (M.getD e default).length (rowP encI (M.getD e default))), .row 34 1 k (rowC encLL K)]) (endG (msk 84 [5, 6, 8, 40, 41, 42]) (resOf Try.prog Try.f8)) = Tr.rq (inR IntKind.i64 ((↑j : Int) + 1))
    (Tr.done X.normal
      (cst 84 [(5, V.c (C.ptr 0 0)), (6, V.c (C.p (PV.l 1 L.length (rowP encI L)))), (8, V.c (C.sl 1 1 0 m)), (40, V.c (C.p (PV.l 1 L.length (rowP encI L)))), (41, V.c (C.p (PV.i IntKind.i64 (↑L.length : Int)))), (42, V.c (C.p (PV.i IntKind.i64 ((↑j : Int) + 1))))] [AO.cells 44 [C.sl 2 1 0 k], AO.row 22 1 m fun e o => renC [0, 1, 2] (C.own 3 1 (M.getD e default).length (rowP encI (M.getD e default))), AO.row 34 1 k fun e o => renC [0, 1, 2] (rowC encLL K e o)])) := by kernel_rfl
theorem tHa (K : List (List (ByteArray × ByteArray))) (L : List Int) (M : List (List Int)) (m k j : Nat) : exTs ext0 (dropL 9 (pcs Try.prog Try.f8)) (cst 84 [(5, .c (.ptr 0 0)), (6, listV encI 1 L), (8, .c (.sl 1 1 0 m)), (40, listV encI 1 L), (41, iV (L.length : Nat)), (42, iV (j : Nat))] [.cells 44 [.sl 2 1 0 k], .row 22 1 m (fun e _ => .own 3 1 (M.getD e default).length (rowP encI (M.getD e default))), .row 34 1 k (rowC encLL K)]) (endG [] (resOf Try.prog Try.f8)) = Tr.rq (0 + m ≤ m ∧ ∀ (e o : Nat), e < m → o < 1 → isF (C.own 3 1 (M.getD (e + 0) default).length (rowP encI (M.getD (e + 0) default))) = true)
    (Tr.done X.ret (St.mk [V.c (C.p (PV.l 1 m fun e o => unP (C.own 3 1 (M.getD (e + 0) default).length (rowP encI (M.getD (e + 0) default)))))] [])) := by kernel_rfl
theorem lab_at (x : List (ByteArray × ByteArray)) : ∀ o : Nat, o < 1 → (fun e o : Nat => nth C.top [C.p (PV.l 2 x.length (rowP enc2 x))] ((e + 0) * 1 + o)) 0 o = .p (encLL x o) := by
  intro o ho
  obtain rfl : o = 0 := by omega
  rfl
theorem getD_memG {α : Type} [Inhabited α] {L : List α} {i : Nat} (h : i < L.length) : L.getD i default ∈ L := by
  rw [List.getD_eq_getElem?_getD, List.getElem?_eq_getElem h]
  exact List.getElem_mem _
def addL (M : List (List Int)) (x : Int) : List (List Int) := M.set (M.length - 1) (M.getD (M.length - 1) default ++ [x])
theorem addL_length (M : List (List Int)) (x : Int) : (addL M x).length = M.length := by simp [addL]
theorem addL_at {M : List (List Int)} {x : Int} {e : Nat} (he : e < M.length) : (addL M x).getD e default = if e = M.length - 1 then M.getD (M.length - 1) default ++ [x] else M.getD e default := by
  unfold addL
  rw [List.getD_eq_getElem?_getD, List.getElem?_set]
  split
  · rename_i h; rw [if_pos h.symm, if_pos (by omega)]; rfl
  · rename_i h; rw [if_neg (fun h2 => h h2.symm), List.getD_eq_getElem?_getD]
theorem gadd_new (key : Int → List (ByteArray × ByteArray)) (st : List (List Int) × Option Int) (i : Int) (h : ∀ j, st.2 = some j → key j ≠ key i) : gadd key st i = (addL (st.1 ++ [[]]) i, some i) := by
  have : addL (st.1 ++ [[]]) i = st.1 ++ [[i]] := by
    unfold addL
    simp
  rw [this]
  unfold gadd
  cases hs : st.2 with
  | none => rfl
  | some j => simp only; rw [if_neg (h j hs)]
theorem gadd_old (key : Int → List (ByteArray × ByteArray)) (st : List (List Int) × Option Int) (i j : Int) (hs : st.2 = some j) (hk : key j = key i) (hne : st.1 ≠ []) : gadd key st i = (addL st.1 i, some i) := by
  unfold gadd
  rw [hs]
  simp only
  rw [if_pos hk]
  congr 1
  obtain ⟨M, x, hM⟩ : ∃ M x, st.1 = M ++ [x] := ⟨st.1.dropLast, st.1.getLast hne, (List.dropLast_concat_getLast hne).symm⟩
  rw [hM]
  unfold addL
  simp
theorem gruns_last (key : Int → List (ByteArray × ByteArray)) (l : List Int) (i : Int) : (gruns key (l ++ [i])).2 = some i := by rw [gruns_snoc]; rfl
theorem gruns_len (key : Int → List (ByteArray × ByteArray)) (l : List Int) : ∀ j, j ≤ l.length → (gruns key (l.take j)).1.length ≤ j ∧ (0 < j → (gruns key (l.take j)).1 ≠ []) ∧ ∀ g ∈ (gruns key (l.take j)).1, g.length ≤ j
  | 0, _ => ⟨Nat.le_refl _, fun h => absurd h (Nat.lt_irrefl 0), fun g hg => by cases hg⟩
  | j + 1, hj => by
    obtain ⟨h1, h2, h3⟩ := gruns_len key l j (by omega)
    have hl : 0 < j → (gruns key (l.take j)).2 = some (l.getD (j - 1) default) := fun h => by
      obtain ⟨i, rfl⟩ : ∃ i, j = i + 1 := ⟨j - 1, by omega⟩
      rw [take_succ' (show i < l.length by omega)]
      exact gruns_last _ _ _
    have h0 : j = 0 → (gruns key (l.take j)).2 = none := fun e => by subst e; rfl
    rw [take_succ' (by omega), gruns_snoc]
    generalize l.getD j default = x
    generalize gruns key (l.take j) = st at h1 h2 h3 hl h0
    have key1 : ∀ M : List (List Int), M.length ≤ j + 1 → M ≠ [] → (∀ g ∈ M, g.length ≤ j) → (addL M x).length ≤ j + 1 ∧ (0 < j + 1 → addL M x ≠ []) ∧ ∀ g ∈ addL M x, g.length ≤ j + 1 := fun M m1 m2 m3 => by
      have hml : 0 < M.length := List.length_pos_iff.2 m2
      refine ⟨by rw [addL_length]; exact m1, fun _ e => ?_, fun g hg => ?_⟩
      · have := congrArg List.length e
        rw [addL_length] at this
        simp at this; exact m2 this
      · unfold addL at hg
        rcases List.mem_or_eq_of_mem_set hg with hg | rfl
        · have := m3 g hg; omega
        · rw [List.length_append]
          have : (M.getD (M.length - 1) default) ∈ M := by
            rw [List.getD_eq_getElem?_getD, List.getElem?_eq_getElem (show M.length - 1 < M.length by omega)]
            exact List.getElem_mem _
          have := m3 _ this
          simp only [List.length_cons, List.length_nil]; omega
    have key2 := key1 (st.1 ++ [[]]) (by simp; omega) (by simp) (fun g hg => by
      rw [List.mem_append, List.mem_singleton] at hg
      rcases hg with hg | rfl
      · exact h3 g hg
      · exact Nat.zero_le _)
    by_cases hz : j = 0
    · rw [gadd_new key st x (fun i hi => by rw [h0 hz] at hi; cases hi)]; exact key2
    · by_cases hk : key (l.getD (j - 1) default) = key x
      · rw [gadd_old key st x _ (hl (by omega)) hk (h2 (by omega))]
        exact key1 st.1 (by omega) (h2 (by omega)) h3
      · rw [gadd_new key st x (fun i hi => by rw [hl (by omega)] at hi; injection hi with hi; subst hi; exact hk)]; exact key2
theorem keyK_map (A : List (List (ByteArray × ByteArray))) (N : List ByteArray) : keyK (A.map fun a => keepL a N) = keyA A N := by
  funext i
  unfold keyK keyA
  rw [List.getD_eq_getElem?_getD, List.getElem?_map, List.getD_eq_getElem?_getD]
  cases A[i.toNat]? <;> rfl
theorem ordL_sortZ (key : Int → List (ByteArray × ByteArray)) (n : Nat) : sortZ (cfK key) (idx n) = ordL key n := by
  unfold sortZ ordL
  rw [idx_length]
  rfl
section
variable {G : Nat → Option Obj}
theorem extC_sound : SoundExt Try.prog G extC := extOf_sound (by simp; exact okCompare)
theorem extKe_sound : SoundExt Try.prog G extKe := extOf_sound (by simp; exact okKeep)
theorem clo_fn {K : List (List (ByteArray × ByteArray))} (hK : ShortK K) {x y : Int} (hx : 0 ≤ x ∧ x < K.length) (hy : 0 ≤ y ∧ y < K.length) : FnS Try.prog G 20 [iV x, iV y, .c (.lp 1 1 (fun _ _ => listP encLL 1 K) 0 0)] [] fun v h' => v = iV (cfK (keyK K) x y) ∧ h' = [] := by
  refine fn_SC Try.func20 (by kernel_rfl) (fun v hv => ?_) ?_ []
  · simp only [List.mem_cons, List.not_mem_nil, or_false] at hv
    rcases hv with rfl | rfl | rfl
    · exact clo_p
    · exact clo_p
    · exact clo_lp
  refine ExS.evH extC_sound (tCl K x y) ?_
  simp only [holds_rq, holds_leaf, kf_ret', dec2_row]
  exact ⟨hx, hy, ⟨⟨isL_row _ _ _, isL_row _ _ _⟩, hK _ (by omega)⟩, ⟨VLe.refl _⟩⟩
theorem clo_enter : ∀ args w, (callFunc 20 args).run Try.prog w = .ok (.enter 20 args) w := fun args w => by
  simp [callFunc, Try.func20, Try.f20]
theorem okSort (L : List Int) (K : List (List (ByteArray × ByteArray))) : ModHOK Try.prog G 19 (mSort L K) := by
  intro args h p v h' hm hp
  unfold mSort at hm
  split at hm; rotate_left; · cases hm
  rename_i h0 id n b
  split at hm; rotate_left; · cases hm
  rename_i n' f ty id2 m hid hb
  split at hm; rotate_left; · cases hm
  rename_i m' g hid2
  obtain ⟨rfl, rfl, rfl⟩ := some_three hm
  obtain ⟨⟨rfl, rfl, hf⟩, ⟨rfl, rfl, hg, hK⟩, hn, hr⟩ := hp
  have hne : id ≠ b := fun e => by rw [e, hb] at hid; cases hid
  have hne2 : id ≠ id2 := fun e => by
    rw [e, hid2] at hid
    injection hid with h1
    cases h1
  refine sort_fn (ok := fun x => 0 ≤ x ∧ x < K.length) (cf := cfK (keyK K)) hid hf hn hr clo_enter ?_
  intro L' β R w x y u hh hl hx hy hu
  have hb' : nth .gone (upd (.row 3 1 L'.length (rowC encI L')) h id) b = .cells ty [.sl id2 1 0 K.length] := by rw [nth_upd_ne _ _ _ hne]; exact hb
  have hid2' : nth .gone (upd (.row 3 1 L'.length (rowC encI L')) h id) id2 = .row 34 1 K.length g := by rw [nth_upd_ne _ _ _ hne2]; exact hid2
  refine (call_mut (vs := #[.int .i64 x, .int .i64 y, u]) (args := [iV x, iV y, .c (.ptr b 0)]) (args' := [iV x, iV y, .c (.lp 1 1 (fun _ _ => listP encLL 1 K) 0 0)])
    (.cons (fun _ _ _ _ _ h => h) (.cons (fun _ _ _ _ _ h => h) (.cons (vle_box hb' hid2' (F := rowP encLL K) hg) .nil))) (clo_fn hK hx hy) hh ⟨rfl, rfl, hu, trivial⟩).mono ?_
  rintro e w' ⟨u, rfl, ⟨_, _, h1⟩, h2⟩
  have h1 : u = .int .i64 (cfK (keyK K) x y) := h1
  exact ⟨by rw [h1], h2⟩
theorem extSo_sound (L : List Int) (K : List (List (ByteArray × ByteArray))) : SoundExt Try.prog G (extSo L K) := extH_sound (by simp; exact okSort L K)
theorem own_step (M : List (List Int)) (x : Int) {m e0 : Nat} (hm : M.length = m) (he0 : e0 + 1 = m) {ρ σ : List Nat} {e o : Nat} (he : e < m) (ho : o < 1) :
    renC ρ (if e = e0 then (if o = 0 then C.own 3 1 ((M.getD e0 default).length + 1) (rowP encI (M.getD e0 default ++ [x])) else nth .top [.sl 3 1 0 ((M.getD e0 default).length + 1)] o) else renC σ (C.own 3 1 (M.getD e default).length (rowP encI (M.getD e default)))) =
      C.own 3 1 ((addL M x).getD e default).length (rowP encI ((addL M x).getD e default)) := by
  obtain rfl : o = 0 := by omega
  rw [addL_at (by omega)]
  have hm1 : M.length - 1 = e0 := by omega
  rw [hm1]
  by_cases h : e = e0
  · rw [if_pos h, if_pos h, if_pos rfl, List.length_append]; rfl
  · rw [if_neg h, if_neg h]; rfl
set_option maxRecDepth 100000 in
theorem groups_fn {A : List (List (ByteArray × ByteArray))} {N : List ByteArray} (hA : AlOK A) (hN : SzS N) (h : List AO) : FnS Try.prog G 8 [listV encAl 6 A, listV encS 1 N] h fun x h' => x = listV encLI 1 (grpL (keyA A N) A.length) ∧ h' = h := by
  obtain ⟨hlen, hAl⟩ := hA
  refine fn_S Try.func8 (by kernel_rfl) rfl ?_ h
  refine ExS.evG ext0_sound 4 (tH1 A N) ?_
  simp only [holds_rq, holds_leaf, kf_normal, ofn_le]
  refine ⟨⟨Nat.le_refl _, by omega, by omega, by omega⟩, ⟨Nat.le_refl _, by omega, by omega, by omega⟩, ⟨?_⟩⟩
  refine ExS.loop' (l := dropL 4 (pcs Try.prog Try.f8)) (b := inr (inr (nth .skip (pcs Try.prog Try.f8) 4))) (r := dropL 5 (pcs Try.prog Try.f8)) (id := 0) (by kernel_rfl) (σ := Nat)
    (fun i => (fun k K L => cst 84 [(0, listV encAl 6 A), (1, listV encS 1 N), (5, .c (.ptr 0 0)), (6, .c (.sl 1 1 0 i)), (18, iV (A.length : Nat)), (19, iV (i : Nat))] [.cells 44 [.sl 2 1 0 k], .row 3 1 i (rowC encI L), .row 34 1 k (rowC encLL K)]) i ((A.take i).map fun a => keepL a N) (idx i)) (fun i => i ≤ A.length) (fun i => A.length - i) 0 (Nat.zero_le _) ((weak_of_eq (by kernel_rfl)).trans (weak_cst (h := [.cells 44 [.sl 2 1 0 0], .row 3 1 0 (fun e o => renC [1, 2, 0] (C.p (nth (PV.b false) [PV.i IntKind.i64 0] o))), .row 34 1 0 (fun e o => renC [1, 2, 0] (C.p (nth (PV.b false) [PV.z (Value.slice none 0 0)] o)))]) ⟨rfl, ⟨rfl, rfl, rfl, fun _ _ h _ => absurd h (Nat.not_lt_zero _)⟩, ⟨rfl, rfl, rfl, fun _ _ h _ => absurd h (Nat.not_lt_zero _)⟩, trivial⟩)) ?_
  intro i hi Q1 q1n q1e _
  have hkl : ((A.take i).map fun a => keepL a N).length = i := by rw [List.length_map, List.length_take]; omega
  refine ExS.evH extKe_sound (tH2 A ((A.take i).map fun a => keepL a N) N (idx i) i i) ?_
  simp only [holds_bT, holds_rq, holds_leaf, kf_normal, kf_exit, decide_eq_true_eq, decide_eq_false_iff_not, dec2_row, decS_row, inR, show (↑i : Int).toNat = i from rfl]
  refine ⟨fun h1 => ?_, fun h1 => ⟨q1e _ ?_⟩⟩
  · have h1 : i < A.length := by omega
    have hsz := hAl i h1
    refine ⟨by omega, ⟨⟨isL_row _ _ _, hsz⟩, isL_row _ _ _, hN⟩, trivial, Nat.le_refl _, ⟨by omega, by omega, fun e o he ho => ?_⟩, trivial, Nat.le_refl _, ⟨by omega, by omega, int_one _⟩, by omega, ⟨q1n (i + 1) _ (by omega) (by omega) ?_⟩⟩
    · obtain rfl : e = 0 := by omega
      obtain rfl : o = 0 := by omega
      rfl
    · show WeakS G _ ((fun k K L i => cst 84 [(0, listV encAl 6 A), (1, listV encS 1 N), (5, .c (.ptr 0 0)), (6, .c (.sl 1 1 0 i)), (18, iV (A.length : Nat)), (19, iV (i : Nat))] [.cells 44 [.sl 2 1 0 k], .row 3 1 i (rowC encI L), .row 34 1 k (rowC encLL K)]) (i + 1) ((A.take (i + 1)).map fun a => keepL a N) (idx (i + 1)) (i + 1))
      rw [take_succ' h1, List.map_append, idx_succ]
      refine weak_cst ?_
      exact ⟨rfl, ⟨rfl, rfl, rfl, fun e o he ho => app1' (ρ := [0, 6, 4]) (idx_length i) (int_at _) he ho⟩, ⟨rfl, rfl, rfl, fun e o he ho => app1' (ρ := [0, 6, 4]) hkl (lab_at _) he ho⟩, trivial⟩
  · obtain rfl : i = A.length := by omega
    rw [List.take_length] at hkl ⊢
    rw [← keyK_map]
    have hKs : ShortK (A.map fun a => keepL a N) := fun i hi => by
      rw [List.length_map] at hi
      rw [List.getD_eq_getElem?_getD, List.getElem?_map, List.getElem?_eq_getElem hi]
      have := hAl i hi
      rw [List.getD_eq_getElem?_getD, List.getElem?_eq_getElem hi] at this
      exact Nat.le_trans (keepL_len _ _) this.1
    clear q1n q1e h1 hi hAl hN
    generalize A.map (fun a => keepL a N) = K at hkl hKs
    generalize A.length = n at hkl hlen
    subst hkl
    refine ExS.pre (st2 := (fun k i L => cst 84 [(5, .c (.ptr 0 0)), (6, .c (.sl 1 1 0 i))] [.cells 44 [.sl 2 1 0 k], .row 3 1 i (rowC encI L), .row 34 1 k (rowC encLL K)]) K.length K.length (idx K.length)) ((weak_gc (msk 84 [5, 6]) _).trans (weak_of_eq (by kernel_rfl))) ?_
    refine ExS.evG (extSo_sound (idx K.length) K) 1 (tH3 K (idx K.length) K.length K.length) ?_
    simp only [holds_rq, holds_leaf, kf_normal]
    refine ⟨⟨⟨(idx_length _).symm, (idx_length _).symm, fun _ _ _ _ => rfl⟩, ⟨trivial, trivial, fun _ _ _ _ => rfl, hKs⟩, by rw [idx_length]; exact hlen, fun i hi => mem_idx.1 hi⟩, ⟨?_⟩⟩
    rw [ordL_sortZ, idx_length]
    have hg := runs_grp (keyK K) K.length
    have hol : (ordL (keyK K) K.length).length = K.length := by rw [← ordL_sortZ, sortZ_length, idx_length]
    have hor : ∀ x ∈ ordL (keyK K) K.length, 0 ≤ x ∧ x < K.length := fun x hx => mem_idx.1 (((ordL_spec (keyK K) K.length).1.mem_iff).1 hx)
    rw [← hg]
    clear hg
    generalize ordL (keyK K) K.length = L at hol hor
    refine ExS.pre (weak_frz (j := 6) (id := 1) (ty := 3) (sz := 1) (n := K.length) (off := 0) (len := K.length) (f := fun e o => renC [0, 2, 1] (rowC encI L e o)) (by kernel_rfl) (by kernel_rfl) (by omega) (fun _ _ _ _ => rfl)) ?_
    refine ExS.pre (st2 := (fun k => cst 84 [(5, .c (.ptr 0 0)), (6, listV encI 1 L)] [.cells 44 [.sl 1 1 0 k], .row 34 1 k (rowC encLL K)]) L.length) ?_ ?_
    · rw [hol]
      refine (weak_gc (msk 84 [5, 6]) _).trans ((weak_slot (j := 6) (y := listV encI 1 L) ?_).trans (weak_of_eq (by kernel_rfl)))
      exact VLe.of_eq (by show _ = V.c (C.p (PV.l 1 L.length (rowP encI L))); rw [hol]; rfl)
    refine ExS.evG ext0_sound 2 (tH4 K L L.length) ?_
    simp only [holds_leaf, kf_normal]
    refine ⟨?_⟩
    refine ExS.loop' (l := dropL 8 (pcs Try.prog Try.f8)) (b := inr (inr (nth .skip (pcs Try.prog Try.f8) 8))) (r := dropL 9 (pcs Try.prog Try.f8)) (id := 2) (by kernel_rfl) (σ := Nat)
      (fun j => (fun m k M => cst 84 [(5, .c (.ptr 0 0)), (6, listV encI 1 L), (8, .c (.sl 1 1 0 m)), (40, listV encI 1 L), (41, iV (L.length : Nat)), (42, iV (j : Nat))] [.cells 44 [.sl 2 1 0 k], .row 22 1 m (fun e _ => .own 3 1 (M.getD e default).length (rowP encI (M.getD e default))), .row 34 1 k (rowC encLL K)]) (gruns (keyK K) (L.take j)).1.length L.length (gruns (keyK K) (L.take j)).1) (fun j => j ≤ L.length) (fun j => L.length - j) 0 (Nat.zero_le _) ((weak_nil 22 1 (fun e o => .own 3 1 0 (rowP encI [])) 8 (by kernel_rfl)).trans ((weak_gc (msk 84 [5, 6, 8, 40, 41, 42]) _).trans ((weak_of_eq (by kernel_rfl)).trans (weak_cst (h := [.cells 44 [.sl 2 1 0 L.length], .row 22 1 0 (fun e o => .own 3 1 0 (rowP encI [])), .row 34 1 L.length (rowC encLL K)]) ⟨rfl, ⟨rfl, rfl, rfl, fun _ _ h _ => absurd h (Nat.not_lt_zero _)⟩, ⟨rfl, rfl, rfl, fun _ _ _ _ => rfl⟩, trivial⟩)))) ?_
    intro j hj Q1 q1n q1e _
    obtain ⟨hgl, hgn, hgm⟩ := gruns_len (keyK K) L j hj
    refine ExS.evG ext0_sound 2 (tH5 K L (gruns (keyK K) (L.take j)).1 (gruns (keyK K) (L.take j)).1.length L.length j) ?_
    simp only [holds_bT, holds_leaf, kf_normal, kf_exit, decide_eq_true_eq, decide_eq_false_iff_not]
    refine ⟨fun h1 => ⟨?_⟩, fun h1 => ⟨q1e _ ?_⟩⟩
    · have h1 : j < L.length := by omega
      refine ExS.blk' (l := dropL 2 (lpB (pcs Try.prog Try.f8) 8)) (id := 3) (a := inr (nth .skip (lpB (pcs Try.prog Try.f8) 8) 2)) (r := dropL 3 (lpB (pcs Try.prog Try.f8) 8)) (by kernel_rfl) ?_
      intro Q2 q2n _ _
      have hx0 := hor (L.getD j default) (by rw [List.getD_eq_getElem?_getD, List.getElem?_eq_getElem h1]; exact List.getElem_mem _)
      have hsu : gruns (keyK K) (L.take (j + 1)) = gadd (keyK K) (gruns (keyK K) (L.take j)) (L.getD j default) := by rw [take_succ' h1, gruns_snoc]
      have done : ∀ st, WeakS G st ((fun m k M => cst 84 [(5, .c (.ptr 0 0)), (6, listV encI 1 L), (8, .c (.sl 1 1 0 m)), (40, listV encI 1 L), (41, iV (L.length : Nat)), (42, iV (j : Nat))] [.cells 44 [.sl 2 1 0 k], .row 22 1 m (fun e _ => .own 3 1 (M.getD e default).length (rowP encI (M.getD e default))), .row 34 1 k (rowC encLL K)]) (gruns (keyK K) (L.take (j + 1))).1.length L.length (gruns (keyK K) (L.take (j + 1))).1) → Q2 .normal st := fun st hst => q2n st (by
        refine ExS.pre hst (ExS.evH ext0_sound (tH9 K L (gruns (keyK K) (L.take (j + 1))).1 (gruns (keyK K) (L.take (j + 1))).1.length L.length j) ?_)
        simp only [holds_rq, holds_leaf, kf_normal, inR]
        exact ⟨by omega, ⟨q1n (j + 1) _ (by omega) (by omega) (weak_of_eq (by kernel_rfl))⟩⟩)
      rw [hsu] at done
      refine ExS.evG extC_sound 1 (tH6 K L (gruns (keyK K) (L.take j)).1 (gruns (keyK K) (L.take j)).1.length L.length j) ?_
      simp only [holds_rq, holds_leaf, kf_normal, show (↑j : Int).toNat = j from rfl]
      refine ⟨by omega, ⟨?_⟩⟩
      generalize hxe : L.getD j default = x at hx0 done
      have hlast : ∀ i, j = i + 1 → (gruns (keyK K) (L.take j)).2 = some (L.getD i default) := fun i hi => by
        subst hi
        rw [take_succ' (by omega)]
        exact gruns_last _ _ _
      have hnone : j = 0 → (gruns (keyK K) (L.take j)).2 = none := fun e => by subst e; rfl
      have hne : 0 < j → (gruns (keyK K) (L.take j)).1 ≠ [] := hgn
      have hprev : 0 < j → 0 ≤ L.getD (j - 1) default ∧ L.getD (j - 1) default < K.length := fun h => hor _ (by rw [List.getD_eq_getElem?_getD, List.getElem?_eq_getElem (show j - 1 < L.length by omega)]; exact List.getElem_mem _)
      clear hsu hgn
      generalize gruns (keyK K) (L.take j) = st at hgl hlast hnone hne done hgm
      obtain ⟨M0, last⟩ := st
      simp only at hgl hlast hnone hne done hgm ⊢
      have goOn : ∀ (M : List (List Int)) (m : Nat), M.length = m → 0 < m → m ≤ 20 → (∀ g ∈ M, g.length ≤ j) → gadd (keyK K) (M0, last) x = (addL M x, some x) → ExS Try.prog G (resOf Try.prog Try.f8) (listV encLI 1 (gruns (keyK K) L).1) (dropL 3 (flat (inr (nth .skip (lpB (pcs Try.prog Try.f8) 8) 2)))) ((fun m k => cst 84 [(5, .c (.ptr 0 0)), (6, listV encI 1 L), (8, .c (.sl 1 1 0 m)), (10, iV x), (40, listV encI 1 L), (41, iV (L.length : Nat)), (42, iV (j : Nat))] [.cells 44 [.sl 2 1 0 k], .row 22 1 m (fun e _ => .own 3 1 (M.getD e default).length (rowP encI (M.getD e default))), .row 34 1 k (rowC encLL K)]) m L.length) Q2 := fun M m hm h0 hm20 hml hgd => by
        obtain ⟨e0, rfl⟩ : ∃ e0, m = e0 + 1 := ⟨m - 1, by omega⟩
        rw [hgd] at done
        have hal : (addL M x).length = e0 + 1 := by rw [addL_length]; exact hm
        simp only [hal] at done
        refine ExS.pre ((weak_open (id := 1) (e0 := e0) (k0 := 0) (ty := 22) (sz := 1) (n := e0 + 1) (ty' := 3) (sz' := 1) (n' := (M.getD e0 default).length) (g := rowP encI (M.getD e0 default)) (f := fun e _ => .own 3 1 (M.getD e default).length (rowP encI (M.getD e default))) (by kernel_rfl) (by omega) (by omega) rfl).trans (weak_of_eq (st' := (fun m k l e0 own => cst 84 [(5, .c (.ptr 0 0)), (6, listV encI 1 L), (8, .c (.sl 1 1 0 m)), (10, iV x), (40, listV encI 1 L), (41, iV (L.length : Nat)), (42, iV (j : Nat))] [.cells 44 [.sl 2 1 0 k], .foc 22 1 m e0 [.sl 3 1 0 l] (fun e _ => .own 3 1 (M.getD e default).length (rowP encI (M.getD e default))), .row 34 1 k (rowC encLL K), .row 3 1 l (rowC encI own)]) (e0 + 1) L.length (M.getD e0 default).length e0 (M.getD e0 default)) (by kernel_rfl))) ?_
        refine ExS.evH ext0_sound (tH8 K L (M.getD e0 default) M x (e0 + 1) L.length j (M.getD e0 default).length e0) ?_
        simp only [holds_rq, holds_leaf, kf_normal, inR]
        refine ⟨by omega, by omega, by omega, by omega, trivial, Nat.le_refl _, ⟨?_, ?_, int_one _⟩, by omega, by omega, ⟨done _ ?_⟩⟩
        · have := hml _ (getD_memG (show e0 < M.length by omega)); omega
        · have := hml _ (getD_memG (show e0 < M.length by omega)); omega
        · refine (weak_close (id := 1) (m := 3) (e0 := e0) (k0 := 0) (ty := 22) (ty' := 3) (sz := 1) (n := e0 + 1) (sz' := 1) (n' := (M.getD e0 default).length + 1) (g := rowP encI (M.getD e0 default ++ [x])) (h := fun e o => renC [0, 1, 2, 5] (appF (M.getD e0 default).length (rowC encI (M.getD e0 default)) (fun e o => nth C.top [C.p (PV.i IntKind.i64 x)] ((e + 0) * 1 + o)) e o)) (vs := [C.sl 3 1 0 ((M.getD e0 default).length + 1)]) (f := fun e o => renC [0, 1, 2, 5] (C.own 3 1 (M.getD e default).length (rowP encI (M.getD e default)))) (by kernel_rfl) (by kernel_rfl) (fun e o he ho => app1' (ρ := [0, 1, 2, 5]) rfl (int_at _) he ho) (by omega) (by kernel_rfl) (fun k hk hk' => by omega)).trans ((weak_gc (msk 84 [5, 6, 8, 40, 41, 42]) _).trans ?_)
          refine (weak_of_eq (by kernel_rfl)).trans (weak_cst (h := [.cells 44 [.sl 2 1 0 L.length], .row 22 1 (e0 + 1) (fun e o => renC [0, 1, 2] (if e = e0 then (if o = 0 then C.own 3 1 ((M.getD e0 default).length + 1) (rowP encI (M.getD e0 default ++ [x])) else nth .top [.sl 3 1 0 ((M.getD e0 default).length + 1)] o) else renC [0, 1, 2, 5] (C.own 3 1 (M.getD e default).length (rowP encI (M.getD e default))))), .row 34 1 L.length (rowC encLL K)]) ?_)
          exact ⟨rfl, ⟨rfl, rfl, rfl, fun e o he ho => own_step M x hm rfl he ho⟩, ⟨rfl, rfl, rfl, fun _ _ _ _ => rfl⟩, trivial⟩
      have fresh : gadd (keyK K) (M0, last) x = (addL (M0 ++ [[]]) x, some x) → ∀ st, WeakS G st ((fun m k f => cst 84 [(5, .c (.ptr 0 0)), (6, listV encI 1 L), (8, .c (.sl 1 1 0 m)), (10, iV x), (40, listV encI 1 L), (41, iV (L.length : Nat)), (42, iV (j : Nat))] [.cells 44 [.sl 2 1 0 k], .row 22 1 m f, .row 34 1 k (rowC encLL K)]) (M0.length + 1) L.length (fun e o => renC [0, 4, 2] (appF M0.length ((fun M => fun e _ => .own 3 1 (M.getD e default).length (rowP encI (M.getD e default))) M0) (fun e o => nth C.top [C.p (PV.z (Value.slice none 0 0))] ((e + 0) * 1 + o)) e o))) → ExS Try.prog G (resOf Try.prog Try.f8) (listV encLI 1 (gruns (keyK K) L).1) (dropL 3 (flat (inr (nth .skip (lpB (pcs Try.prog Try.f8) 8) 2)))) st Q2 := fun hgd st hst => by
        refine ExS.pre (hst.trans ((weak_rows (id := 1) (ty := 22) (sz := 1) (n := M0.length + 1) (f := fun e o => renC [0, 4, 2] (appF M0.length ((fun M => fun e _ => .own 3 1 (M.getD e default).length (rowP encI (M.getD e default))) M0) (fun e o => nth C.top [C.p (PV.z (Value.slice none 0 0))] ((e + 0) * 1 + o)) e o)) (f' := (fun M => fun e _ => .own 3 1 (M.getD e default).length (rowP encI (M.getD e default))) (M0 ++ [[]])) (by kernel_rfl) ?_).trans (weak_of_eq (by kernel_rfl)))) (goOn (M0 ++ [[]]) (M0.length + 1) (by simp) (by omega) (by omega) (fun g hg => by
          rw [List.mem_append, List.mem_singleton] at hg
          rcases hg with hg | rfl
          · exact hgm g hg
          · exact Nat.zero_le _) hgd)
        intro e o he ho β R w ad u hu
        obtain rfl : o = 0 := by omega
        by_cases h : e < M0.length
        · have e1 : (M0 ++ [[]]).getD e default = M0.getD e default := by
            rw [List.getD_eq_getElem?_getD, List.getElem?_append_left h, List.getD_eq_getElem?_getD]
          show CRo β R w ad (C.own 3 1 ((M0 ++ [[]]).getD e default).length (rowP encI ((M0 ++ [[]]).getD e default))) u
          rw [e1]
          unfold appF at hu
          rw [if_pos h] at hu
          exact hu
        · obtain rfl : e = M0.length := by omega
          have e1 : (M0 ++ [[]]).getD M0.length default = [] := by
            rw [List.getD_eq_getElem?_getD, List.getElem?_append_right (Nat.le_refl _), Nat.sub_self]; rfl
          show CRo β R w ad (C.own 3 1 ((M0 ++ [[]]).getD M0.length default).length (rowP encI ((M0 ++ [[]]).getD M0.length default))) u
          rw [e1]
          unfold appF at hu
          rw [if_neg h, Nat.sub_self] at hu
          exact own_nil _ _ _ hu
      have one : ∀ e o : Nat, e < 1 → o < 1 → oneC (nth C.top [C.p (PV.z (Value.slice none 0 0))] ((e + 0) * 1 + o)) = true := fun e o he ho => by
        obtain rfl : e = 0 := by omega
        obtain rfl : o = 0 := by omega
        rfl
      refine ExS.evG extC_sound 2 (tH7 K L M0 x M0.length L.length j) ?_
      simp only [holds_bT, holds_rq, holds_leaf, kf_normal, beq_iff_eq, beq_eq_false_iff_ne, bne_iff_ne, bne_eq_false_iff_eq, ne_eq, dec2_row, inR, show ∀ x : Nat, x + 0 = x from fun _ => rfl]
      have ej : 0 < j → ((j : Int) - 1).toNat = j - 1 := fun _ => by omega
      refine ⟨fun c1 => ⟨trivial, Nat.le_refl _, ⟨by omega, by omega, one⟩, ⟨fresh (gadd_new _ _ _ fun i hi => by
        have : j = 0 := by omega
        have := hnone this
        simp only at hi
        rw [this] at hi; cases hi) _ (weak_of_eq (by kernel_rfl))⟩⟩, fun c1 => ?_⟩
      have hj0 : 0 < j := by omega
      have hp := hprev hj0
      have hla := hlast (j - 1) (by omega)
      rw [ej hj0]
      refine ⟨by omega, by omega, by omega, by omega, by omega, by omega, ⟨⟨isL_row _ _ _, isL_row _ _ _⟩, hKs _ (by omega)⟩, fun c2 => ⟨trivial, Nat.le_refl _, ⟨by omega, by omega, one⟩, ⟨fresh (gadd_new _ _ _ fun i hi => ?_) _ (weak_of_eq (by kernel_rfl))⟩⟩, fun c2 => ⟨?_⟩⟩
      · simp only at hi
        rw [hla] at hi
        injection hi with hi
        subst hi
        exact fun e => c2 (cmpL_zero.2 e)
      · exact ExS.pre (weak_of_eq (by kernel_rfl)) (goOn M0 M0.length rfl (List.length_pos_iff.2 (hne hj0)) (by omega) hgm (gadd_old _ _ _ _ hla (cmpL_zero.1 c2) (hne hj0)))
    · obtain rfl : j = L.length := by omega
      rw [List.take_length]
      refine ExS.evH ext0_sound (tHa K L (gruns (keyK K) L).1 (gruns (keyK K) L).1.length L.length L.length) ?_
      simp only [holds_rq, holds_leaf, kf_ret']
      exact ⟨⟨by omega, fun _ _ _ _ => rfl⟩, ⟨VLe.p (PLe.l fun e o he ho => PLe.refl _)⟩⟩
theorem okGroups : ModOK Try.prog G 8 mGroups := okGroupsG fun h1 h2 h => groups_fn h1 h2 h
end
end Go.AE
