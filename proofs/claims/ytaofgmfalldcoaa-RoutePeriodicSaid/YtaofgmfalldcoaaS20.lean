/- AE: the law RoutePeriodic. -/
import Derived.Test.YtaofgmfalldcoaaS19
import Derived.Test.YtaofgmfalldcoaaRo2
namespace Go.AE
open Go.Proofs Go.Proofs.Ytaofgmfalldcoaa
set_option linter.unusedVariables false
set_option linter.unusedSimpArgs false
noncomputable def extPe : Ext := extOf [(22, mRotaR), (11, mAround), (25, mShifts), (28, mDuty), (15, mLives)]

theorem tPe1 (L : List Int) (t : Int) : exTs extPe (takeL 8 (pcs Try.prog Try.f9)) (st0 Try.f9 [listV encI 1 L, iV t]) (endG (msk 146 [5, 7, 8, 9, 10, 11, 12]) (resOf Try.prog Try.f9)) = Tr.rq (IsL encI 1 (decL decI L.length (rowP encI L)) L.length (rowP encI L) ∧ Ints (decL decI L.length (rowP encI L)))
    (Tr.rq
      (IsL enc3 3 (decL dec3 (rotaL false (decL decI L.length (rowP encI L))).length (rowP enc3 (rotaL false (decL decI L.length (rowP encI L))))) (rotaL false (decL decI L.length (rowP encI L))).length
          (rowP enc3 (rotaL false (decL decI L.length (rowP encI L)))) ∧
        (rotaL false (decL decI L.length (rowP encI L))).length ≤ 1000000)
      (Tr.rq (inR IntKind.i64 t ∧ Int.ofNat 0 < Int.ofNat 1000000)
        (Tr.done X.normal
          (cst 146 [(5, V.c (C.p (PV.i IntKind.i64 (rotaP (decL decI L.length (rowP encI L)))))), (7, V.c (C.p (PV.l 3 (decL dec3 (rotaL false (decL decI L.length (rowP encI L))).length (rowP enc3 (rotaL false (decL decI L.length (rowP encI L))))).length (rowP enc3 (decL dec3 (rotaL false (decL decI L.length (rowP encI L))).length (rowP enc3 (rotaL false (decL decI L.length (rowP encI L))))))))), (8, V.c (C.p (PV.i IntKind.i64 (aroundZ t 1000000)))), (9, V.c (C.p (PV.z (Value.slice none 0 0)))), (10, V.c (C.p (PV.s (ByteArray.mk #[])))), (11, V.c (C.p (PV.b false))), (12, V.c (C.p (PV.i IntKind.i64 0)))] [])))) := by kernel_rfl
theorem tPe2 (P t : Int) (R : List Sh) (A : List ByteArray) (m k : Nat) (la : ByteArray) (en : Bool) : exTs ext0 (takeL 2 (lpB (pcs Try.prog Try.f9) 8)) (cst 146 [(5, iV P), (7, listV enc3 3 R), (8, iV t), (9, .c (.sl 0 1 0 m)), (10, .c (.p (.s la))), (11, bV en), (12, iV (k : Nat))] [.row 9 1 m (rowC encS A)]) (endG (msk 146 [5, 7, 8, 9, 10, 11, 12]) (resOf Try.prog Try.f9)) = bT (decide ((↑k : Int) < 9))
    (Tr.done X.normal
      (cst 146 [(5, V.c (C.p (PV.i IntKind.i64 P))), (7, V.c (C.p (PV.l 3 R.length (rowP enc3 R)))), (8, V.c (C.p (PV.i IntKind.i64 t))), (9, V.c (C.sl 0 1 0 m)), (10, V.c (C.p (PV.s la))), (11, V.c (C.p (PV.b en))), (12, V.c (C.p (PV.i IntKind.i64 (↑k : Int))))] [AO.row 9 1 m fun e o => renC [0] (rowC encS A e o)]))
    (Tr.done (X.exit 0)
      (cst 146 [(5, V.c (C.p (PV.i IntKind.i64 P))), (7, V.c (C.p (PV.l 3 R.length (rowP enc3 R)))), (8, V.c (C.p (PV.i IntKind.i64 t))), (9, V.c (C.sl 0 1 0 m)), (10, V.c (C.p (PV.s la))), (11, V.c (C.p (PV.b en))), (12, V.c (C.p (PV.i IntKind.i64 (↑k : Int))))] [AO.row 9 1 m fun e o => renC [0] (rowC encS A e o)])) := by kernel_rfl
theorem tPe3 (P t : Int) (R : List Sh) (A : List ByteArray) (m k : Nat) (la : ByteArray) (en : Bool) : exTs extPe (takeL 6 (flat (inr (nth .skip (lpB (pcs Try.prog Try.f9) 8) 2)))) (cst 146 [(5, iV P), (7, listV enc3 3 R), (8, iV t), (9, .c (.sl 0 1 0 m)), (10, .c (.p (.s la))), (11, bV en), (12, iV (k : Nat))] [.row 9 1 m (rowC encS A)]) (endG (msk 146 [5, 7, 8, 9, 10, 11, 12, 13, 17, 18]) (resOf Try.prog Try.f9)) = Tr.rq (IsL enc3 3 (decL dec3 R.length (rowP enc3 R)) R.length (rowP enc3 R) ∧ R.length ≤ 1000000)
    (Tr.rq (inR IntKind.i64 (t + P))
      (Tr.rq (IsL enc3 3 (decL dec3 R.length (rowP enc3 R)) R.length (rowP enc3 R) ∧ R.length ≤ 1000000)
        (bT ((dutyZ P (decL dec3 R.length (rowP enc3 R)) t (↑k : Int)).snd != 0) (Tr.done X.ret (St.mk [V.c (C.p (PV.b false))] []))
          (bT ((dutyZ P (decL dec3 R.length (rowP enc3 R)) (t + P) (↑k : Int)).snd != 0) (Tr.done X.ret (St.mk [V.c (C.p (PV.b false))] []))
            (bT (!(dutyZ P (decL dec3 R.length (rowP enc3 R)) t (↑k : Int)).fst.toList == (dutyZ P (decL dec3 R.length (rowP enc3 R)) (t + P) (↑k : Int)).fst.toList)
              (Tr.done X.ret (St.mk [V.c (C.p (PV.b false))] []))
              (Tr.done X.normal
                (cst 146 [(5, V.c (C.p (PV.i IntKind.i64 P))), (7, V.c (C.p (PV.l 3 R.length (rowP enc3 R)))), (8, V.c (C.p (PV.i IntKind.i64 t))), (9, V.c (C.sl 0 1 0 m)), (10, V.c (C.p (PV.s la))), (11, V.c (C.p (PV.b en))), (12, V.c (C.p (PV.i IntKind.i64 (↑k : Int)))), (13, V.c (C.p (PV.s (dutyZ P (decL dec3 R.length (rowP enc3 R)) t (↑k : Int)).fst))), (17, V.c (C.p (PV.b false))), (18, V.c (C.p (PV.i IntKind.i64 0)))] [AO.row 9 1 m fun e o => renC [0] (rowC encS A e o)]))))))) := by kernel_rfl
theorem tPe4 (P t : Int) (R : List Sh) (A : List ByteArray) (m k i : Nat) (la a : ByteArray) (en kn : Bool) : exTs ext0 (lpB (flat (inr (nth .skip (lpB (pcs Try.prog Try.f9) 8) 2))) 6) (cst 146 [(5, iV P), (7, listV enc3 3 R), (8, iV t), (9, .c (.sl 0 1 0 m)), (10, .c (.p (.s la))), (11, bV en), (12, iV (k : Nat)), (13, .c (.p (.s a))), (17, bV kn), (18, iV (i : Nat))] [.row 9 1 m (rowC encS A)]) (endG (msk 146 [5, 7, 8, 9, 10, 11, 12, 13, 17, 18]) (resOf Try.prog Try.f9)) = bT (decide ((↑i : Int) < (↑m : Int)))
    (bT kn
      (Tr.rq (inR IntKind.i64 ((↑i : Int) + 1))
        (Tr.done X.normal
          (cst 146 [(5, V.c (C.p (PV.i IntKind.i64 P))), (7, V.c (C.p (PV.l 3 R.length (rowP enc3 R)))), (8, V.c (C.p (PV.i IntKind.i64 t))), (9, V.c (C.sl 0 1 0 m)), (10, V.c (C.p (PV.s la))), (11, V.c (C.p (PV.b en))), (12, V.c (C.p (PV.i IntKind.i64 (↑k : Int)))), (13, V.c (C.p (PV.s a))), (17, V.c (C.p (PV.b true))), (18, V.c (C.p (PV.i IntKind.i64 ((↑i : Int) + 1))))] [AO.row 9 1 m fun e o => renC [0] (rowC encS A e o)])))
      (Tr.rq (0 ≤ (↑i : Int) ∧ (↑i : Int) < (↑m : Int))
        (Tr.rq ((↑i : Int).toNat + 0 < m)
          (Tr.rq (inR IntKind.i64 ((↑i : Int) + 1))
            (Tr.done X.normal
              (cst 146 [(5, V.c (C.p (PV.i IntKind.i64 P))), (7, V.c (C.p (PV.l 3 R.length (rowP enc3 R)))), (8, V.c (C.p (PV.i IntKind.i64 t))), (9, V.c (C.sl 0 1 0 m)), (10, V.c (C.p (PV.s la))), (11, V.c (C.p (PV.b en))), (12, V.c (C.p (PV.i IntKind.i64 (↑k : Int)))), (13, V.c (C.p (PV.s a))), (17, V.c (C.p (PV.b ((A.getD ((↑i : Int).toNat + 0) default).toList == a.toList)))), (18, V.c (C.p (PV.i IntKind.i64 ((↑i : Int) + 1))))] [AO.row 9 1 m fun e o => renC [0] (rowC encS A e o)]))))))
    (Tr.done (X.exit 2)
      (cst 146 [(5, V.c (C.p (PV.i IntKind.i64 P))), (7, V.c (C.p (PV.l 3 R.length (rowP enc3 R)))), (8, V.c (C.p (PV.i IntKind.i64 t))), (9, V.c (C.sl 0 1 0 m)), (10, V.c (C.p (PV.s la))), (11, V.c (C.p (PV.b en))), (12, V.c (C.p (PV.i IntKind.i64 (↑k : Int)))), (13, V.c (C.p (PV.s a))), (17, V.c (C.p (PV.b kn))), (18, V.c (C.p (PV.i IntKind.i64 (↑i : Int))))] [AO.row 9 1 m fun e o => renC [0] (rowC encS A e o)])) := by kernel_rfl
theorem tPe5 (P t : Int) (R : List Sh) (A : List ByteArray) (m k i : Nat) (la a : ByteArray) (en kn : Bool) : exTs ext0 (takeL 7 (dropL 7 (flat (inr (nth .skip (lpB (pcs Try.prog Try.f9) 8) 2))))) (cst 146 [(5, iV P), (7, listV enc3 3 R), (8, iV t), (9, .c (.sl 0 1 0 m)), (10, .c (.p (.s la))), (11, bV en), (12, iV (k : Nat)), (13, .c (.p (.s a))), (17, bV kn), (18, iV (i : Nat))] [.row 9 1 m (rowC encS A)]) (endG (msk 146 [5, 7, 8, 9, 10, 11, 12, 13, 19, 20]) (resOf Try.prog Try.f9)) = bT (decide (0 < (↑k : Int)))
    (bT kn
      (bT (!a.toList == la.toList) (Tr.done X.ret (St.mk [V.c (C.p (PV.b false))] []))
        (bT en
          (bT (!a.toList == la.toList) (Tr.done X.ret (St.mk [V.c (C.p (PV.b false))] []))
            (bT en
              (Tr.rq (m = m)
                (Tr.rq (1 ≤ 1)
                  (Tr.rq ((m + 1) * 16 ≤ 140737488355328 ∧ m + 1 ≤ 140737488355328 ∧ ∀ (e o : Nat), e < 1 → o < 1 → oneC (nth C.top [C.p (PV.s a)] ((e + 0) * 1 + o)) = true)
                    (Tr.done X.normal
                      (cst 146 [(5, V.c (C.p (PV.i IntKind.i64 P))), (7, V.c (C.p (PV.l 3 R.length (rowP enc3 R)))), (8, V.c (C.p (PV.i IntKind.i64 t))), (9, V.c (C.sl 0 1 0 (m + 1))), (10, V.c (C.p (PV.s a))), (11, V.c (C.p (PV.b true))), (12, V.c (C.p (PV.i IntKind.i64 (↑k : Int)))), (13, V.c (C.p (PV.s a))), (19, V.c (C.p (PV.b false))), (20, V.c (C.p (PV.i IntKind.i64 0)))] [AO.row 9 1 (m + 1) fun e o => renC [2] (appF m (rowC encS A) (fun e o => nth C.top [C.p (PV.s a)] ((e + 0) * 1 + o)) e o)])))))
              (Tr.rq (m = m)
                (Tr.rq (1 ≤ 1)
                  (Tr.rq ((m + 1) * 16 ≤ 140737488355328 ∧ m + 1 ≤ 140737488355328 ∧ ∀ (e o : Nat), e < 1 → o < 1 → oneC (nth C.top [C.p (PV.s a)] ((e + 0) * 1 + o)) = true)
                    (Tr.done X.normal
                      (cst 146 [(5, V.c (C.p (PV.i IntKind.i64 P))), (7, V.c (C.p (PV.l 3 R.length (rowP enc3 R)))), (8, V.c (C.p (PV.i IntKind.i64 t))), (9, V.c (C.sl 0 1 0 (m + 1))), (10, V.c (C.p (PV.s a))), (11, V.c (C.p (PV.b kn))), (12, V.c (C.p (PV.i IntKind.i64 (↑k : Int)))), (13, V.c (C.p (PV.s a))), (19, V.c (C.p (PV.b false))), (20, V.c (C.p (PV.i IntKind.i64 0)))] [AO.row 9 1 (m + 1) fun e o => renC [2] (appF m (rowC encS A) (fun e o => nth C.top [C.p (PV.s a)] ((e + 0) * 1 + o)) e o)])))))))
          (bT en
            (Tr.rq (m = m)
              (Tr.rq (1 ≤ 1)
                (Tr.rq ((m + 1) * 16 ≤ 140737488355328 ∧ m + 1 ≤ 140737488355328 ∧ ∀ (e o : Nat), e < 1 → o < 1 → oneC (nth C.top [C.p (PV.s a)] ((e + 0) * 1 + o)) = true)
                  (Tr.done X.normal
                    (cst 146 [(5, V.c (C.p (PV.i IntKind.i64 P))), (7, V.c (C.p (PV.l 3 R.length (rowP enc3 R)))), (8, V.c (C.p (PV.i IntKind.i64 t))), (9, V.c (C.sl 0 1 0 (m + 1))), (10, V.c (C.p (PV.s a))), (11, V.c (C.p (PV.b true))), (12, V.c (C.p (PV.i IntKind.i64 (↑k : Int)))), (13, V.c (C.p (PV.s a))), (19, V.c (C.p (PV.b false))), (20, V.c (C.p (PV.i IntKind.i64 0)))] [AO.row 9 1 (m + 1) fun e o => renC [2] (appF m (rowC encS A) (fun e o => nth C.top [C.p (PV.s a)] ((e + 0) * 1 + o)) e o)])))))
            (Tr.rq (m = m)
              (Tr.rq (1 ≤ 1)
                (Tr.rq ((m + 1) * 16 ≤ 140737488355328 ∧ m + 1 ≤ 140737488355328 ∧ ∀ (e o : Nat), e < 1 → o < 1 → oneC (nth C.top [C.p (PV.s a)] ((e + 0) * 1 + o)) = true)
                  (Tr.done X.normal
                    (cst 146 [(5, V.c (C.p (PV.i IntKind.i64 P))), (7, V.c (C.p (PV.l 3 R.length (rowP enc3 R)))), (8, V.c (C.p (PV.i IntKind.i64 t))), (9, V.c (C.sl 0 1 0 (m + 1))), (10, V.c (C.p (PV.s a))), (11, V.c (C.p (PV.b kn))), (12, V.c (C.p (PV.i IntKind.i64 (↑k : Int)))), (13, V.c (C.p (PV.s a))), (19, V.c (C.p (PV.b false))), (20, V.c (C.p (PV.i IntKind.i64 0)))] [AO.row 9 1 (m + 1) fun e o => renC [2] (appF m (rowC encS A) (fun e o => nth C.top [C.p (PV.s a)] ((e + 0) * 1 + o)) e o)]))))))))
      (bT en
        (bT (!a.toList == la.toList) (Tr.done X.ret (St.mk [V.c (C.p (PV.b false))] []))
          (bT en
            (Tr.rq (m = m)
              (Tr.rq (1 ≤ 1)
                (Tr.rq ((m + 1) * 16 ≤ 140737488355328 ∧ m + 1 ≤ 140737488355328 ∧ ∀ (e o : Nat), e < 1 → o < 1 → oneC (nth C.top [C.p (PV.s a)] ((e + 0) * 1 + o)) = true)
                  (Tr.done X.normal
                    (cst 146 [(5, V.c (C.p (PV.i IntKind.i64 P))), (7, V.c (C.p (PV.l 3 R.length (rowP enc3 R)))), (8, V.c (C.p (PV.i IntKind.i64 t))), (9, V.c (C.sl 0 1 0 (m + 1))), (10, V.c (C.p (PV.s a))), (11, V.c (C.p (PV.b true))), (12, V.c (C.p (PV.i IntKind.i64 (↑k : Int)))), (13, V.c (C.p (PV.s a))), (19, V.c (C.p (PV.b false))), (20, V.c (C.p (PV.i IntKind.i64 0)))] [AO.row 9 1 (m + 1) fun e o => renC [2] (appF m (rowC encS A) (fun e o => nth C.top [C.p (PV.s a)] ((e + 0) * 1 + o)) e o)])))))
            (Tr.rq (m = m)
              (Tr.rq (1 ≤ 1)
                (Tr.rq ((m + 1) * 16 ≤ 140737488355328 ∧ m + 1 ≤ 140737488355328 ∧ ∀ (e o : Nat), e < 1 → o < 1 → oneC (nth C.top [C.p (PV.s a)] ((e + 0) * 1 + o)) = true)
                  (Tr.done X.normal
                    (cst 146 [(5, V.c (C.p (PV.i IntKind.i64 P))), (7, V.c (C.p (PV.l 3 R.length (rowP enc3 R)))), (8, V.c (C.p (PV.i IntKind.i64 t))), (9, V.c (C.sl 0 1 0 (m + 1))), (10, V.c (C.p (PV.s a))), (11, V.c (C.p (PV.b kn))), (12, V.c (C.p (PV.i IntKind.i64 (↑k : Int)))), (13, V.c (C.p (PV.s a))), (19, V.c (C.p (PV.b false))), (20, V.c (C.p (PV.i IntKind.i64 0)))] [AO.row 9 1 (m + 1) fun e o => renC [2] (appF m (rowC encS A) (fun e o => nth C.top [C.p (PV.s a)] ((e + 0) * 1 + o)) e o)])))))))
        (bT en
          (Tr.rq (m = m)
            (Tr.rq (1 ≤ 1)
              (Tr.rq ((m + 1) * 16 ≤ 140737488355328 ∧ m + 1 ≤ 140737488355328 ∧ ∀ (e o : Nat), e < 1 → o < 1 → oneC (nth C.top [C.p (PV.s a)] ((e + 0) * 1 + o)) = true)
                (Tr.done X.normal
                  (cst 146 [(5, V.c (C.p (PV.i IntKind.i64 P))), (7, V.c (C.p (PV.l 3 R.length (rowP enc3 R)))), (8, V.c (C.p (PV.i IntKind.i64 t))), (9, V.c (C.sl 0 1 0 (m + 1))), (10, V.c (C.p (PV.s a))), (11, V.c (C.p (PV.b true))), (12, V.c (C.p (PV.i IntKind.i64 (↑k : Int)))), (13, V.c (C.p (PV.s a))), (19, V.c (C.p (PV.b false))), (20, V.c (C.p (PV.i IntKind.i64 0)))] [AO.row 9 1 (m + 1) fun e o => renC [2] (appF m (rowC encS A) (fun e o => nth C.top [C.p (PV.s a)] ((e + 0) * 1 + o)) e o)])))))
          (Tr.rq (m = m)
            (Tr.rq (1 ≤ 1)
              (Tr.rq ((m + 1) * 16 ≤ 140737488355328 ∧ m + 1 ≤ 140737488355328 ∧ ∀ (e o : Nat), e < 1 → o < 1 → oneC (nth C.top [C.p (PV.s a)] ((e + 0) * 1 + o)) = true)
                (Tr.done X.normal
                  (cst 146 [(5, V.c (C.p (PV.i IntKind.i64 P))), (7, V.c (C.p (PV.l 3 R.length (rowP enc3 R)))), (8, V.c (C.p (PV.i IntKind.i64 t))), (9, V.c (C.sl 0 1 0 (m + 1))), (10, V.c (C.p (PV.s a))), (11, V.c (C.p (PV.b kn))), (12, V.c (C.p (PV.i IntKind.i64 (↑k : Int)))), (13, V.c (C.p (PV.s a))), (19, V.c (C.p (PV.b false))), (20, V.c (C.p (PV.i IntKind.i64 0)))] [AO.row 9 1 (m + 1) fun e o => renC [2] (appF m (rowC encS A) (fun e o => nth C.top [C.p (PV.s a)] ((e + 0) * 1 + o)) e o)]))))))))
    (bT en
      (bT (!a.toList == la.toList) (Tr.done X.ret (St.mk [V.c (C.p (PV.b false))] []))
        (bT en
          (Tr.rq (m = m)
            (Tr.rq (1 ≤ 1)
              (Tr.rq ((m + 1) * 16 ≤ 140737488355328 ∧ m + 1 ≤ 140737488355328 ∧ ∀ (e o : Nat), e < 1 → o < 1 → oneC (nth C.top [C.p (PV.s a)] ((e + 0) * 1 + o)) = true)
                (Tr.done X.normal
                  (cst 146 [(5, V.c (C.p (PV.i IntKind.i64 P))), (7, V.c (C.p (PV.l 3 R.length (rowP enc3 R)))), (8, V.c (C.p (PV.i IntKind.i64 t))), (9, V.c (C.sl 0 1 0 (m + 1))), (10, V.c (C.p (PV.s a))), (11, V.c (C.p (PV.b true))), (12, V.c (C.p (PV.i IntKind.i64 (↑k : Int)))), (13, V.c (C.p (PV.s a))), (19, V.c (C.p (PV.b false))), (20, V.c (C.p (PV.i IntKind.i64 0)))] [AO.row 9 1 (m + 1) fun e o => renC [2] (appF m (rowC encS A) (fun e o => nth C.top [C.p (PV.s a)] ((e + 0) * 1 + o)) e o)])))))
          (Tr.rq (m = m)
            (Tr.rq (1 ≤ 1)
              (Tr.rq ((m + 1) * 16 ≤ 140737488355328 ∧ m + 1 ≤ 140737488355328 ∧ ∀ (e o : Nat), e < 1 → o < 1 → oneC (nth C.top [C.p (PV.s a)] ((e + 0) * 1 + o)) = true)
                (Tr.done X.normal
                  (cst 146 [(5, V.c (C.p (PV.i IntKind.i64 P))), (7, V.c (C.p (PV.l 3 R.length (rowP enc3 R)))), (8, V.c (C.p (PV.i IntKind.i64 t))), (9, V.c (C.sl 0 1 0 (m + 1))), (10, V.c (C.p (PV.s a))), (11, V.c (C.p (PV.b kn))), (12, V.c (C.p (PV.i IntKind.i64 (↑k : Int)))), (13, V.c (C.p (PV.s a))), (19, V.c (C.p (PV.b false))), (20, V.c (C.p (PV.i IntKind.i64 0)))] [AO.row 9 1 (m + 1) fun e o => renC [2] (appF m (rowC encS A) (fun e o => nth C.top [C.p (PV.s a)] ((e + 0) * 1 + o)) e o)])))))))
      (bT en
        (Tr.rq (m = m)
          (Tr.rq (1 ≤ 1)
            (Tr.rq ((m + 1) * 16 ≤ 140737488355328 ∧ m + 1 ≤ 140737488355328 ∧ ∀ (e o : Nat), e < 1 → o < 1 → oneC (nth C.top [C.p (PV.s a)] ((e + 0) * 1 + o)) = true)
              (Tr.done X.normal
                (cst 146 [(5, V.c (C.p (PV.i IntKind.i64 P))), (7, V.c (C.p (PV.l 3 R.length (rowP enc3 R)))), (8, V.c (C.p (PV.i IntKind.i64 t))), (9, V.c (C.sl 0 1 0 (m + 1))), (10, V.c (C.p (PV.s a))), (11, V.c (C.p (PV.b true))), (12, V.c (C.p (PV.i IntKind.i64 (↑k : Int)))), (13, V.c (C.p (PV.s a))), (19, V.c (C.p (PV.b false))), (20, V.c (C.p (PV.i IntKind.i64 0)))] [AO.row 9 1 (m + 1) fun e o => renC [2] (appF m (rowC encS A) (fun e o => nth C.top [C.p (PV.s a)] ((e + 0) * 1 + o)) e o)])))))
        (Tr.rq (m = m)
          (Tr.rq (1 ≤ 1)
            (Tr.rq ((m + 1) * 16 ≤ 140737488355328 ∧ m + 1 ≤ 140737488355328 ∧ ∀ (e o : Nat), e < 1 → o < 1 → oneC (nth C.top [C.p (PV.s a)] ((e + 0) * 1 + o)) = true)
              (Tr.done X.normal
                (cst 146 [(5, V.c (C.p (PV.i IntKind.i64 P))), (7, V.c (C.p (PV.l 3 R.length (rowP enc3 R)))), (8, V.c (C.p (PV.i IntKind.i64 t))), (9, V.c (C.sl 0 1 0 (m + 1))), (10, V.c (C.p (PV.s a))), (11, V.c (C.p (PV.b kn))), (12, V.c (C.p (PV.i IntKind.i64 (↑k : Int)))), (13, V.c (C.p (PV.s a))), (19, V.c (C.p (PV.b false))), (20, V.c (C.p (PV.i IntKind.i64 0)))] [AO.row 9 1 (m + 1) fun e o => renC [2] (appF m (rowC encS A) (fun e o => nth C.top [C.p (PV.s a)] ((e + 0) * 1 + o)) e o)]))))))) := by kernel_rfl
theorem tPe6 (P t : Int) (R : List Sh) (A : List ByteArray) (m k i : Nat) (la a : ByteArray) (en kn : Bool) : exTs ext0 (lpB (flat (inr (nth .skip (lpB (pcs Try.prog Try.f9) 8) 2))) 14) (cst 146 [(5, iV P), (7, listV enc3 3 R), (8, iV t), (9, .c (.sl 0 1 0 m)), (10, .c (.p (.s la))), (11, bV en), (12, iV (k : Nat)), (13, .c (.p (.s a))), (19, bV kn), (20, iV (i : Nat))] [.row 9 1 m (rowC encS A)]) (endG (msk 146 [5, 7, 8, 9, 10, 11, 12, 13, 19, 20]) (resOf Try.prog Try.f9)) = bT (decide ((↑i : Int) < (↑R.length : Int)))
    (bT kn
      (Tr.rq (inR IntKind.i64 ((↑i : Int) + 1))
        (Tr.done X.normal
          (cst 146 [(5, V.c (C.p (PV.i IntKind.i64 P))), (7, V.c (C.p (PV.l 3 R.length (rowP enc3 R)))), (8, V.c (C.p (PV.i IntKind.i64 t))), (9, V.c (C.sl 0 1 0 m)), (10, V.c (C.p (PV.s la))), (11, V.c (C.p (PV.b en))), (12, V.c (C.p (PV.i IntKind.i64 (↑k : Int)))), (13, V.c (C.p (PV.s a))), (19, V.c (C.p (PV.b true))), (20, V.c (C.p (PV.i IntKind.i64 ((↑i : Int) + 1))))] [AO.row 9 1 m fun e o => renC [0] (rowC encS A e o)])))
      (Tr.rq (0 ≤ (↑i : Int) ∧ (↑i : Int) < (↑R.length : Int))
        (bT ((R.getD (↑i : Int).toNat default).fst.toList == a.toList)
          (Tr.rq (0 ≤ (↑i : Int) ∧ (↑i : Int) < (↑R.length : Int))
            (Tr.rq (0 ≤ t ∧ 0 < P)
              (bT (decide ((R.getD (↑i : Int).toNat default).snd.fst ≤ t % P))
                (Tr.rq (0 ≤ t ∧ 0 < P)
                  (Tr.rq (0 ≤ (↑i : Int) ∧ (↑i : Int) < (↑R.length : Int))
                    (Tr.rq (inR IntKind.i64 ((↑i : Int) + 1))
                      (Tr.done X.normal
                        (cst 146 [(5, V.c (C.p (PV.i IntKind.i64 P))), (7, V.c (C.p (PV.l 3 R.length (rowP enc3 R)))), (8, V.c (C.p (PV.i IntKind.i64 t))), (9, V.c (C.sl 0 1 0 m)), (10, V.c (C.p (PV.s la))), (11, V.c (C.p (PV.b en))), (12, V.c (C.p (PV.i IntKind.i64 (↑k : Int)))), (13, V.c (C.p (PV.s a))), (19, V.c (C.p (PV.b (decide (t % P < (R.getD (↑i : Int).toNat default).snd.snd))))), (20, V.c (C.p (PV.i IntKind.i64 ((↑i : Int) + 1))))] [AO.row 9 1 m fun e o => renC [0] (rowC encS A e o)])))))
                (Tr.rq (inR IntKind.i64 ((↑i : Int) + 1))
                  (Tr.done X.normal
                    (cst 146 [(5, V.c (C.p (PV.i IntKind.i64 P))), (7, V.c (C.p (PV.l 3 R.length (rowP enc3 R)))), (8, V.c (C.p (PV.i IntKind.i64 t))), (9, V.c (C.sl 0 1 0 m)), (10, V.c (C.p (PV.s la))), (11, V.c (C.p (PV.b en))), (12, V.c (C.p (PV.i IntKind.i64 (↑k : Int)))), (13, V.c (C.p (PV.s a))), (19, V.c (C.p (PV.b false))), (20, V.c (C.p (PV.i IntKind.i64 ((↑i : Int) + 1))))] [AO.row 9 1 m fun e o => renC [0] (rowC encS A e o)]))))))
          (Tr.rq (inR IntKind.i64 ((↑i : Int) + 1))
            (Tr.done X.normal
              (cst 146 [(5, V.c (C.p (PV.i IntKind.i64 P))), (7, V.c (C.p (PV.l 3 R.length (rowP enc3 R)))), (8, V.c (C.p (PV.i IntKind.i64 t))), (9, V.c (C.sl 0 1 0 m)), (10, V.c (C.p (PV.s la))), (11, V.c (C.p (PV.b en))), (12, V.c (C.p (PV.i IntKind.i64 (↑k : Int)))), (13, V.c (C.p (PV.s a))), (19, V.c (C.p (PV.b false))), (20, V.c (C.p (PV.i IntKind.i64 ((↑i : Int) + 1))))] [AO.row 9 1 m fun e o => renC [0] (rowC encS A e o)]))))))
    (Tr.done (X.exit 4)
      (cst 146 [(5, V.c (C.p (PV.i IntKind.i64 P))), (7, V.c (C.p (PV.l 3 R.length (rowP enc3 R)))), (8, V.c (C.p (PV.i IntKind.i64 t))), (9, V.c (C.sl 0 1 0 m)), (10, V.c (C.p (PV.s la))), (11, V.c (C.p (PV.b en))), (12, V.c (C.p (PV.i IntKind.i64 (↑k : Int)))), (13, V.c (C.p (PV.s a))), (19, V.c (C.p (PV.b kn))), (20, V.c (C.p (PV.i IntKind.i64 (↑i : Int))))] [AO.row 9 1 m fun e o => renC [0] (rowC encS A e o)])) := by kernel_rfl
theorem tPe7 (P t : Int) (R : List Sh) (A : List ByteArray) (m k i : Nat) (la a : ByteArray) (en kn : Bool) : exTs ext0 (dropL 15 (flat (inr (nth .skip (lpB (pcs Try.prog Try.f9) 8) 2)))) (cst 146 [(5, iV P), (7, listV enc3 3 R), (8, iV t), (9, .c (.sl 0 1 0 m)), (10, .c (.p (.s la))), (11, bV en), (12, iV (k : Nat)), (13, .c (.p (.s a))), (19, bV kn), (20, iV (i : Nat))] [.row 9 1 m (rowC encS A)]) (endG (msk 146 [5, 7, 8, 9, 10, 11, 12]) (resOf Try.prog Try.f9)) = bT (!kn) (Tr.done X.ret (St.mk [V.c (C.p (PV.b false))] []))
    (Tr.done X.normal
      (cst 146 [(5, V.c (C.p (PV.i IntKind.i64 P))), (7, V.c (C.p (PV.l 3 R.length (rowP enc3 R)))), (8, V.c (C.p (PV.i IntKind.i64 t))), (9, V.c (C.sl 0 1 0 m)), (10, V.c (C.p (PV.s la))), (11, V.c (C.p (PV.b en))), (12, V.c (C.p (PV.i IntKind.i64 (↑k : Int))))] [AO.row 9 1 m fun e o => renC [0] (rowC encS A e o)])) := by kernel_rfl
theorem tPe8 (P t : Int) (R : List Sh) (A : List ByteArray) (m k : Nat) (la : ByteArray) (en : Bool) : exTs ext0 (dropL 3 (lpB (pcs Try.prog Try.f9) 8)) (cst 146 [(5, iV P), (7, listV enc3 3 R), (8, iV t), (9, .c (.sl 0 1 0 m)), (10, .c (.p (.s la))), (11, bV en), (12, iV (k : Nat))] [.row 9 1 m (rowC encS A)]) (endG (msk 146 [5, 7, 8, 9, 10, 11, 12]) (resOf Try.prog Try.f9)) = Tr.rq (inR IntKind.i64 ((↑k : Int) + 1))
    (Tr.done X.normal
      (cst 146 [(5, V.c (C.p (PV.i IntKind.i64 P))), (7, V.c (C.p (PV.l 3 R.length (rowP enc3 R)))), (8, V.c (C.p (PV.i IntKind.i64 t))), (9, V.c (C.sl 0 1 0 m)), (10, V.c (C.p (PV.s la))), (11, V.c (C.p (PV.b en))), (12, V.c (C.p (PV.i IntKind.i64 ((↑k : Int) + 1))))] [AO.row 9 1 m fun e o => renC [0] (rowC encS A e o)])) := by kernel_rfl
theorem tPe9 (P t : Int) (R : List Sh) (A : List ByteArray) (m k : Nat) (la : ByteArray) (en : Bool) : exTs extPe (dropL 9 (pcs Try.prog Try.f9)) (cst 146 [(5, iV P), (7, listV enc3 3 R), (8, iV t), (9, .c (.sl 0 1 0 m)), (10, .c (.p (.s la))), (11, bV en), (12, iV (k : Nat))] [.row 9 1 m (rowC encS A)]) (endG [] (resOf Try.prog Try.f9)) = Tr.rq True (Tr.done X.ret (St.mk [V.c (C.p (PV.b true))] [])) := by kernel_rfl
section
variable {G : Nat → Option Obj}
theorem extPe_sound : SoundExt Try.prog G extPe := extOf_sound (by simp; exact ⟨okRotaR, okAround, okShifts, okOnDuty, okLives⟩)
set_option maxRecDepth 100000 in
set_option maxHeartbeats 2000000 in
theorem routePeriodic_core {P t : Int} {R : List Sh} (hz : rotaZ P R = 0) (hP : 1 ≤ P ∧ P ≤ 12) (ht : 0 ≤ t ∧ t < 1000000) (hR : R.length ≤ 7) :
    ExS Try.prog G (resOf Try.prog Try.f9) (bV true) (dropL 8 (pcs Try.prog Try.f9)) ((fun (A : List ByteArray) (m k : Nat) (la : ByteArray) (en : Bool) => cst 146 [(5, iV P), (7, listV enc3 3 R), (8, iV t), (9, .c (.sl 0 1 0 m)), (10, .c (.p (.s la))), (11, bV en), (12, iV (k : Nat))] [.row 9 1 m (rowC encS A)]) [] 0 0 ⟨#[]⟩ false) fun _ _ => False := by
  obtain ⟨_, _, _, hful⟩ := rotaZ_ok hz
  have hpos := pers_pos (hful (t % P) (Int.emod_nonneg _ (by omega)) (Int.emod_lt_of_pos _ (by omega)))
  have hnd : (pers (t % P) R).Nodup := persF_nodup List.nodup_nil
  have hmem : ∀ s ∈ pers (t % P) R, ∃ x ∈ R, x.1 = s ∧ x.2.1 ≤ t % P ∧ t % P < x.2.2 := fun s hs => by
    rcases persF_from hs with h | h
    · cases h
    · exact h
  have d1 : ∀ k : Nat, dutyZ P R t k = (lvl (pers (t % P) R) k, 0) := fun k => dutyZ_lvl hz (by omega) (by omega)
  have d2 : ∀ k : Nat, dutyZ P R (t + P) k = (lvl (pers (t % P) R) k, 0) := fun k => by
    rw [dutyZ_lvl hz (by omega) (by omega), Int.add_emod_right]
  generalize pers (t % P) R = q at *
  refine ExS.loop' (l := dropL 8 (pcs Try.prog Try.f9)) (b := inr (inr (nth .skip (pcs Try.prog Try.f9) 8))) (r := dropL 9 (pcs Try.prog Try.f9)) (id := 0) (by kernel_rfl) (σ := Nat × List ByteArray × ByteArray × Bool)
    (fun x => (fun (k : Nat) (A : List ByteArray) (la : ByteArray) (en : Bool) (m : Nat) => cst 146 [(5, iV P), (7, listV enc3 3 R), (8, iV t), (9, .c (.sl 0 1 0 m)), (10, .c (.p (.s la))), (11, bV en), (12, iV (k : Nat))] [.row 9 1 m (rowC encS A)]) x.1 x.2.1 x.2.2.1 x.2.2.2 x.2.1.length)
    (fun x => x.1 ≤ 9 ∧ x.2.1.length = x.1 ∧ (∀ s, s ∈ x.2.1 ↔ ∃ j, j < x.1 ∧ lvl q j = s) ∧ (0 < x.1 → x.2.2.1 = lvl q (x.1 - 1)) ∧ (x.2.2.2 = true → q.length + 1 ≤ x.1))
    (fun x => 9 - x.1) (0, [], ⟨#[]⟩, false) ⟨Nat.zero_le _, rfl, fun s => ⟨(fun h => by cases h), fun ⟨j, h, _⟩ => absurd h (Nat.not_lt_zero j)⟩, fun h => absurd h (Nat.lt_irrefl 0), fun h => by cases h⟩ (weak_of_eq (by kernel_rfl)) ?_
  rintro ⟨k, A, la, en⟩ ⟨hk, hA, hs, hla, hen⟩ Q q1n q1e -
  dsimp only at hk hA hs hla hen q1n q1e ⊢
  refine ExS.evG ext0_sound 2 (tPe2 P t R A A.length k la en) ?_
  simp only [holds_bT, holds_leaf, kf_normal, kf_exit, decide_eq_true_eq, decide_eq_false_iff_not]
  refine ⟨fun h1 => ⟨?_⟩, fun h1 => ⟨q1e _ ?_⟩⟩
  rotate_left
  · refine ExS.evH extPe_sound (tPe9 P t R A A.length k la en) ?_
    simp only [holds_rq, holds_leaf, kf_ret']
    exact ⟨trivial, ⟨VLe.refl _⟩⟩
  have hk9 : k < 9 := by omega
  refine ExS.blk' (l := dropL 2 (lpB (pcs Try.prog Try.f9) 8)) (id := 1) (a := inr (nth .skip (lpB (pcs Try.prog Try.f9) 8) 2)) (r := dropL 3 (lpB (pcs Try.prog Try.f9) 8)) (by kernel_rfl) ?_
  intro Q2 q2n q2e _
  refine ExS.evG extPe_sound 6 (tPe3 P t R A A.length k la en) ?_
  have hbb : ∀ s : ByteArray, (s.toList == s.toList) = true := fun s => by simp
  simp only [holds_bT, holds_rq, holds_leaf, kf_normal, kf_ret', dec3_row, isL_row, true_and, d1, d2, hbb, bne_self_eq_false, Bool.not_true, Bool.false_eq_true, Bool.true_eq_false, false_imp_iff, true_imp_iff, inR]
  refine ⟨by omega, by omega, by omega, ⟨?_⟩⟩
  have hmm := lvl_mem hpos k
  generalize ha : lvl q k = a at hmm
  refine ExS.loop' (l := dropL 6 (flat (inr (nth .skip (lpB (pcs Try.prog Try.f9) 8) 2)))) (b := inr (inr (nth .skip (flat (inr (nth .skip (lpB (pcs Try.prog Try.f9) 8) 2))) 6))) (r := dropL 7 (flat (inr (nth .skip (lpB (pcs Try.prog Try.f9) 8) 2)))) (id := 2) (by kernel_rfl) (σ := Nat × Bool)
    (fun (i, kn) => (fun (m : Nat) => cst 146 [(5, iV P), (7, listV enc3 3 R), (8, iV t), (9, .c (.sl 0 1 0 m)), (10, .c (.p (.s la))), (11, bV en), (12, iV (k : Nat)), (13, .c (.p (.s a))), (17, bV kn), (18, iV (i : Nat))] [.row 9 1 m (rowC encS A)]) A.length) (fun (i, kn) => i ≤ A.length ∧ (kn = true ↔ a ∈ A.take i)) (fun (i, _) => A.length - i) (0, false) ⟨Nat.zero_le _, by simp⟩ (weak_of_eq (by kernel_rfl)) ?_
  rintro ⟨i, kn⟩ ⟨hi, hkn⟩ Q3 q3n q3e -
  refine ExS.evH ext0_sound (tPe4 P t R A A.length k i la a en kn) ?_
  have hmt : i < A.length → (a ∈ A.take (i + 1) ↔ a ∈ A.take i ∨ a = A.getD i default) := fun h => by
    rw [List.take_add_one, List.mem_append, List.getD_eq_getElem?_getD (l := A), List.getElem?_eq_getElem h]
    simp only [Option.toList, List.mem_singleton, Option.getD_some]
  simp only [holds_bT, holds_rq, holds_leaf, kf_normal, kf_exit, decide_eq_true_eq, decide_eq_false_iff_not, inR, beq_bytes2, show (↑i : Int).toNat = i from rfl, show ∀ x : Nat, x + 0 = x from fun _ => rfl]
  refine ⟨fun h4 => ⟨fun c2 => ⟨by omega, ⟨q3n (i + 1, true) _ ⟨by omega, ?_⟩ (by simp only; omega) (weak_of_eq (by kernel_rfl))⟩⟩, fun c2 => ⟨by omega, by omega, by omega, ⟨q3n (i + 1, decide (A.getD i default = a)) _ ⟨by omega, ?_⟩ (by simp only; omega) (weak_of_eq (by kernel_rfl))⟩⟩⟩, fun h4 => ⟨q3e _ ?_⟩⟩
  · rw [hmt (by omega)]
    exact ⟨fun _ => .inl (hkn.1 c2), fun _ => rfl⟩
  · rw [hmt (by omega), decide_eq_true_iff]
    have hno : a ∉ A.take i := fun h => by rw [hkn.2 h] at c2; cases c2
    exact ⟨fun e => .inr e.symm, fun h => (h.resolve_left hno).symm⟩
  obtain rfl : i = A.length := by omega
  rw [List.take_length, hs] at hkn
  have g1 : kn = true → q.length ≤ k := fun h => by
    obtain ⟨j, j1, j2⟩ := hkn.1 h
    exact lvl_inj hnd hpos j1 (by rw [j2, ha])
  have g2 : q.length ≤ k → a = la := fun h => by
    have hk0 : 0 < k := by omega
    rw [hla hk0, ← ha]
    exact lvl_last h hk0
  have g3 : en = true → a = la := fun h => g2 (by have := hen h; omega)
  have nxt : ∀ en' : Bool, (en' = true → q.length + 1 ≤ k + 1) → ∀ st, WeakS G st ((fun (A : List ByteArray) (m : Nat) (la : ByteArray) (en kn : Bool) (i : Nat) => cst 146 [(5, iV P), (7, listV enc3 3 R), (8, iV t), (9, .c (.sl 0 1 0 m)), (10, .c (.p (.s la))), (11, bV en), (12, iV (k : Nat)), (13, .c (.p (.s a))), (19, bV kn), (20, iV (i : Nat))] [.row 9 1 m (rowC encS A)]) (A ++ [a]) (A.length + 1) a en' false 0) → ExS Try.prog G (resOf Try.prog Try.f9) (bV true) (dropL 14 (flat (inr (nth .skip (lpB (pcs Try.prog Try.f9) 8) 2)))) st Q2 := fun en' hen' st hst => by
    have hl1 : (A ++ [a]).length = A.length + 1 := by simp
    refine ExS.pre hst (ExS.loop' (l := dropL 14 (flat (inr (nth .skip (lpB (pcs Try.prog Try.f9) 8) 2)))) (b := inr (inr (nth .skip (flat (inr (nth .skip (lpB (pcs Try.prog Try.f9) 8) 2))) 14))) (r := dropL 15 (flat (inr (nth .skip (lpB (pcs Try.prog Try.f9) 8) 2)))) (id := 4) (by kernel_rfl) (σ := Nat × Bool)
      (fun (i, kn) => (fun (A : List ByteArray) (m : Nat) (la : ByteArray) (en : Bool) => cst 146 [(5, iV P), (7, listV enc3 3 R), (8, iV t), (9, .c (.sl 0 1 0 m)), (10, .c (.p (.s la))), (11, bV en), (12, iV (k : Nat)), (13, .c (.p (.s a))), (19, bV kn), (20, iV (i : Nat))] [.row 9 1 m (rowC encS A)]) (A ++ [a]) (A.length + 1) a en') (fun (i, kn) => i ≤ R.length ∧ (kn = true ↔ ∃ x ∈ R.take i, x.1 = a ∧ x.2.1 ≤ t % P ∧ t % P < x.2.2)) (fun (i, _) => R.length - i) (0, false) ⟨Nat.zero_le _, by simp⟩ (weak_of_eq (by kernel_rfl)) ?_)
    rintro ⟨i, kn⟩ ⟨hi, hkn⟩ Q4 q4n q4e -
    refine ExS.evH ext0_sound (tPe6 P t R (A ++ [a]) (A.length + 1) k i a a en' kn) ?_
    have hmt : i < R.length → ((∃ x ∈ R.take (i + 1), x.1 = a ∧ x.2.1 ≤ t % P ∧ t % P < x.2.2) ↔ (∃ x ∈ R.take i, x.1 = a ∧ x.2.1 ≤ t % P ∧ t % P < x.2.2) ∨ ((R.getD i default).1 = a ∧ (R.getD i default).2.1 ≤ t % P ∧ t % P < (R.getD i default).2.2)) := fun h => by
      have e : R.getD i default = R[i] := by rw [List.getD_eq_getElem?_getD, List.getElem?_eq_getElem h]; rfl
      rw [List.take_add_one, List.getElem?_eq_getElem h, e]
      simp only [Option.toList, List.mem_append, List.mem_singleton]
      constructor
      · rintro ⟨x, hx | rfl, hx2⟩
        · exact .inl ⟨x, hx, hx2⟩
        · exact .inr hx2
      · rintro (⟨x, hx, hx2⟩ | hx2)
        · exact ⟨x, .inl hx, hx2⟩
        · exact ⟨_, .inr rfl, hx2⟩
    simp only [holds_bT, holds_rq, holds_leaf, kf_normal, kf_exit, decide_eq_true_eq, decide_eq_false_iff_not, inR, beq_bytes2, show (↑i : Int).toNat = i from rfl]
    have stp : ∀ x : Bool, i < R.length → (x = true ↔ kn = true ∨ ((R.getD i default).1 = a ∧ (R.getD i default).2.1 ≤ t % P ∧ t % P < (R.getD i default).2.2)) → ∀ st, WeakS G st ((fun (i : Nat) (kn : Bool) (A : List ByteArray) (m : Nat) (la : ByteArray) (en : Bool) => cst 146 [(5, iV P), (7, listV enc3 3 R), (8, iV t), (9, .c (.sl 0 1 0 m)), (10, .c (.p (.s la))), (11, bV en), (12, iV (k : Nat)), (13, .c (.p (.s a))), (19, bV kn), (20, iV (i : Nat))] [.row 9 1 m (rowC encS A)]) (i + 1) x (A ++ [a]) (A.length + 1) a en') → Q4 .normal st := fun x h1 h2 st hst =>
      q4n (i + 1, x) st ⟨by omega, by rw [hmt h1, ← hkn]; exact h2⟩ (by simp only; omega) hst
    refine ⟨fun h5 => ⟨fun c1 => ⟨by omega, ⟨stp true (by omega) ⟨fun _ => .inl c1, fun _ => rfl⟩ _ (weak_of_eq (by kernel_rfl))⟩⟩, fun c1 => ⟨by omega, fun c2 => ⟨by omega, ⟨by omega, by omega⟩, fun c3 => ⟨⟨by omega, by omega⟩, by omega, by omega, ⟨stp (decide (t % P < (R.getD i default).2.2)) (by omega) ?_ _ (weak_of_eq (by kernel_rfl))⟩⟩, fun c3 => ⟨by omega, ⟨stp false (by omega) ?_ _ (weak_of_eq (by kernel_rfl))⟩⟩⟩, fun c2 => ⟨by omega, ⟨stp false (by omega) ?_ _ (weak_of_eq (by kernel_rfl))⟩⟩⟩⟩, fun h5 => ⟨q4e _ ?_⟩⟩
    · rw [decide_eq_true_iff, c1]
      exact ⟨fun h => .inr ⟨c2, c3, h⟩, fun h => (h.resolve_left (by decide)).2.2⟩
    · rw [c1]
      exact ⟨(fun h => by cases h), fun h => absurd (h.resolve_left (by decide)).2.1 c3⟩
    · rw [c1]
      exact ⟨(fun h => by cases h), fun h => absurd (h.resolve_left (by decide)).1 c2⟩
    · obtain rfl : i = R.length := by omega
      rw [List.take_length] at hkn
      have hkt : kn = true := hkn.2 (hmem a hmm)
      refine ExS.evH ext0_sound (tPe7 P t R (A ++ [a]) (A.length + 1) k R.length a a en' kn) ?_
      simp only [holds_bT, holds_rq, holds_leaf, kf_normal, kf_ret', hkt, Bool.not_true, Bool.false_eq_true, Bool.true_eq_false, false_imp_iff, true_imp_iff, true_and]
      refine ⟨q2n _ ?_⟩
      refine ExS.evH ext0_sound (tPe8 P t R (A ++ [a]) (A.length + 1) k a en') ?_
      simp only [holds_rq, holds_leaf, kf_normal, inR]
      refine ⟨by omega, ⟨q1n (k + 1, A ++ [a], a, en') _ ⟨by show k + 1 ≤ 9; omega, by show (A ++ [a]).length = k + 1; omega, fun s => ?_, fun _ => by show a = lvl q (k + 1 - 1); rw [Nat.add_sub_cancel, ha], hen'⟩ (by show 9 - (k + 1) < 9 - k; omega) (by rw [hl1]; exact weak_of_eq (by kernel_rfl))⟩⟩
      show s ∈ A ++ [a] ↔ ∃ j, j < k + 1 ∧ lvl q j = s
      rw [List.mem_append, hs, List.mem_singleton]
      constructor
      · rintro (⟨j, j1, j2⟩ | rfl)
        · exact ⟨j, by omega, j2⟩
        · exact ⟨k, by omega, ha⟩
      · rintro ⟨j, j1, j2⟩
        by_cases e : j = k
        · subst e; exact .inr (by rw [← j2, ha])
        · exact .inl ⟨j, by omega, j2⟩
  refine ExS.evG ext0_sound 7 (tPe5 P t R A A.length k A.length la a en kn) ?_
  have fin : ∀ en' : Bool, (en' = true → q.length + 1 ≤ k + 1) → ExS Try.prog G (resOf Try.prog Try.f9) (bV true) (dropL 7 (dropL 7 (flat (inr (nth .skip (lpB (pcs Try.prog Try.f9) 8) 2))))) (cst 146 [(5, iV P), (7, listV enc3 3 R), (8, iV t), (9, .c (.sl 0 1 0 (A.length + 1))), (10, .c (.p (.s a))), (11, bV en'), (12, iV (k : Nat)), (13, .c (.p (.s a))), (19, bV false), (20, iV 0)] [AO.row 9 1 (A.length + 1) fun e o => renC [2] (appF A.length (rowC encS A) (fun e o => nth C.top [C.p (PV.s a)] ((e + 0) * 1 + o)) e o)]) Q2 := fun en' h =>
    nxt en' h _ (weak_cst ⟨⟨rfl, rfl, rfl, fun e o he ho => app1' rfl (fun o ho => by obtain rfl : o = 0 := by omega
                                                                                      rfl) he ho⟩, trivial⟩)
  have one : ∀ e o : Nat, e < 1 → o < 1 → oneC (nth C.top [C.p (PV.s a)] ((e + 0) * 1 + o)) = true := by
    intro e o he ho
    obtain rfl : e = 0 := by omega
    obtain rfl : o = 0 := by omega
    rfl
  have hAl : (A.length + 1) * 16 ≤ 140737488355328 ∧ A.length + 1 ≤ 140737488355328 := by omega
  have hkk : kn = true → decide (0 < (k : Int)) = true := fun h => by
    obtain ⟨j, j1, _⟩ := hkn.1 h
    rw [decide_eq_true_iff]; omega
  have tr : ∀ en' : Bool, (en' = true → q.length + 1 ≤ k + 1) → True := fun _ _ => trivial
  cases hkb : kn with
  | true =>
    have e1 := g2 (g1 hkb)
    have e2 := hkk hkb
    have hle : q.length ≤ k := g1 hkb
    subst e1
    cases en <;>
    (simp only [holds_bT, holds_rq, holds_leaf, kf_normal, kf_ret', e2, hbb, Bool.not_true, Bool.false_eq_true, Bool.true_eq_false, false_imp_iff, true_imp_iff, true_and, and_true]
     exact ⟨Nat.le_refl _, ⟨hAl.1, hAl.2, one⟩, ⟨fin true (fun _ => by omega)⟩⟩)
  | false =>
    cases hen2 : en with
    | true =>
      have e1 := g3 hen2
      have hle := hen hen2
      subst e1
      cases hd : decide (0 < (k : Int)) <;>
      (simp only [holds_bT, holds_rq, holds_leaf, kf_normal, kf_ret', hd, hbb, Bool.not_true, Bool.false_eq_true, Bool.true_eq_false, false_imp_iff, true_imp_iff, true_and, and_true]
       exact ⟨Nat.le_refl _, ⟨hAl.1, hAl.2, one⟩, ⟨fin true (fun _ => by omega)⟩⟩)
    | false =>
      cases hd : decide (0 < (k : Int)) <;>
      (simp only [holds_bT, holds_rq, holds_leaf, kf_normal, kf_ret', hd, Bool.not_true, Bool.false_eq_true, Bool.true_eq_false, false_imp_iff, true_imp_iff, true_and, and_true]
       exact ⟨Nat.le_refl _, ⟨hAl.1, hAl.2, one⟩, ⟨fin false (fun h => by cases h)⟩⟩)
set_option maxRecDepth 100000 in
theorem routePeriodic_fn {L : List Int} {t : Int} (hI : Ints L) (ht : inR .i64 t) (h : List AO) : FnS Try.prog G 9 [listV encI 1 L, iV t] h fun x h' => x = bV true ∧ h' = h := by
  refine fn_S Try.func9 (by kernel_rfl) rfl ?_ h
  refine ExS.evG extPe_sound 8 (tPe1 L t) ?_
  have h1 := rotaL_length false L
  simp only [holds_rq, holds_leaf, kf_normal, decI_row, dec3_row, isL_row, ofn_lt, true_and, and_true]
  refine ⟨hI, by omega, ⟨ht, by decide⟩, ⟨?_⟩⟩
  refine ExS.pre ((weak_nil 9 1 (rowC encS []) 9 (by kernel_rfl)).trans (weak_of_eq (by kernel_rfl))) (routePeriodic_core (rotaL_valid L) (rotaP_range L) (around_range t (by omega)) h1)
end
end Go.AE
