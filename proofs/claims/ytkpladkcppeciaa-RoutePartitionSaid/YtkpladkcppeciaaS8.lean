/- AE contracts: route.cyclic, route.Valid, route.Inhibited. -/
import Derived.Test.YtkpladkcppeciaaS7
import Derived.WideKeyPair
namespace Go.AE
open Go.Proofs Go.Proofs.Ytkpladkcppeciaa
set_option linter.unusedVariables false
set_option linter.unusedSimpArgs false

open Classical in
noncomputable def cycB (N : Int) (E : List Ed) : Bool := decide (∃ k : Nat, (k : Int) < N ∧ Path E k k)
noncomputable def mCyclic : Mod
  | [.a [.p (.i .i64 N), .p (.l 2 n f)]] => some ((0 ≤ N ∧ N ≤ 1000000) ∧ IsL encE 2 (decL decE n f) n f ∧ n ≤ 1000000 ∧ InN N.toNat (decL decE n f), bV (cycB N (decL decE n f)))
  | _ => none
noncomputable def mGValid : Mod
  | [.a [.p (.i .i64 N), .p (.l 2 n f)]] => some (IsL encE 2 (decL decE n f) n f ∧ n ≤ 1000000, iV (validZ N (decL decE n f)))
  | _ => none
noncomputable def mGInhib : Mod
  | [.a [.p (.i .i64 N), .p (.l 2 n f)], .c (.p (.l 1 m g))] => some ((IsL encE 2 (decL decE n f) n f ∧ n ≤ 1000000) ∧ IsL encB 1 (decL decB m g) m g ∧ m ≤ 1000000, listV encB 1 (inhZ N (decL decE n f) (decL decB m g)))
  | _ => none
noncomputable def extGR : Ext := extH [(33, mReachedH)]
noncomputable def extGC : Ext := extOf [(40, mCyclic)]
noncomputable def extGV : Ext := extH [(32, liftM mGValid), (33, mReachedH)]

theorem tC01 (n : Nat) (E : List Ed) : exTs ext0 (takeL 2 (pcs Try.prog Try.f40)) (st0 Try.f40 [gV n E]) (endG (msk 23 [1, 6, 7]) (resOf Try.prog Try.f40)) = Tr.done X.normal
    (cst 23 [(1, V.c (C.ptr 0 0)), (6, V.c (C.p (PV.i IntKind.i64 (↑n : Int)))), (7, V.c (C.p (PV.i IntKind.i64 0)))] [AO.cells 52 [C.p (PV.i IntKind.i64 (↑n : Int)), C.p (PV.l 2 E.length (rowP encE E))]]) := by kernel_rfl
theorem tC02 (n i : Nat) (E : List Ed) : exTs ext0 (takeL 2 (lpB (pcs Try.prog Try.f40) 2)) (cst 23 [(1, .c (.ptr 0 0)), (6, iV (n : Nat)), (7, iV (i : Nat))] [.cells 52 [.p (.i .i64 (n : Nat)), .p (listP encE 2 E)]]) (endG (msk 23 [1, 6, 7]) (resOf Try.prog Try.f40)) = bT (decide ((↑i : Int) < (↑n : Int)))
    (Tr.done X.normal
      (cst 23 [(1, V.c (C.ptr 0 0)), (6, V.c (C.p (PV.i IntKind.i64 (↑n : Int)))), (7, V.c (C.p (PV.i IntKind.i64 (↑i : Int))))] [AO.cells 52 [C.p (PV.i IntKind.i64 (↑n : Int)), C.p (PV.l 2 E.length (rowP encE E))]]))
    (Tr.done (X.exit 0)
      (cst 23 [(1, V.c (C.ptr 0 0)), (6, V.c (C.p (PV.i IntKind.i64 (↑n : Int)))), (7, V.c (C.p (PV.i IntKind.i64 (↑i : Int))))] [AO.cells 52 [C.p (PV.i IntKind.i64 (↑n : Int)), C.p (PV.l 2 E.length (rowP encE E))]])) := by kernel_rfl
theorem tC03 (n i : Nat) (E : List Ed) : exTs ext0 (takeL 3 (flat (inr (nth .skip (lpB (pcs Try.prog Try.f40) 2) 2)))) (cst 23 [(1, .c (.ptr 0 0)), (6, iV (n : Nat)), (7, iV (i : Nat))] [.cells 52 [.p (.i .i64 (n : Nat)), .p (listP encE 2 E)]]) (endG (msk 23 [1, 3, 4, 6, 7]) (resOf Try.prog Try.f40)) = Tr.rq (0 ≤ (↑n : Int) ∧ (↑n : Int) ≤ (↑n : Int) ∧ (↑n : Int) * (↑1 : Int) ≤ 140737488355328 ∧ (↑n : Int) ≤ 140737488355328)
    (Tr.rq (0 ≤ (↑i : Int) ∧ (↑i : Int) < (↑(↑n : Int).toNat : Int))
      (Tr.rq ((↑i : Int).toNat + 0 < (↑n : Int).toNat)
        (Tr.done X.normal
          (cst 23 [(1, V.c (C.ptr 0 0)), (3, V.c (C.p (PV.i IntKind.i64 (↑i : Int)))), (4, V.c (C.sl 1 1 0 (↑n : Int).toNat)), (6, V.c (C.p (PV.i IntKind.i64 (↑n : Int)))), (7, V.c (C.p (PV.i IntKind.i64 (↑i : Int))))] [AO.cells 52 [C.p (PV.i IntKind.i64 (↑n : Int)), C.p (PV.l 2 E.length (rowP encE E))], AO.row 4 1 (↑n : Int).toNat fun e o => renC [0, 1] (if e = (↑i : Int).toNat + 0 then if 0 ≤ o ∧ o < 1 then nth C.top [C.p (PV.b true)] (o - 0) else C.p (nth (PV.b false) [PV.b false] o) else C.p (nth (PV.b false) [PV.b false] o))])))) := by kernel_rfl
theorem tC04 (n i : Nat) (E : List Ed) (S : List Bool) : exTs extGR (dropL 3 (flat (inr (nth .skip (lpB (pcs Try.prog Try.f40) 2) 2)))) (cst 23 [(1, .c (.ptr 0 0)), (3, iV (i : Nat)), (4, listV encB 1 S), (6, iV (n : Nat)), (7, iV (i : Nat))] [.cells 52 [.p (.i .i64 (n : Nat)), .p (listP encE 2 E)]]) (endG (msk 23 [1, 6, 7]) (resOf Try.prog Try.f40)) = Tr.rq
    (((0 ≤ (↑n : Int) ∧ (↑n : Int) ≤ 1000000) ∧ IsL encE 2 (decL decE E.length (rowP encE E)) E.length (rowP encE E) ∧ E.length ≤ 1000000 ∧ InN (↑n : Int).toNat (decL decE E.length (rowP encE E))) ∧
      IsL encB 1 (decL decB S.length (rowP encB S)) S.length (rowP encB S) ∧ S.length = (↑n : Int).toNat)
    (Tr.rq (0 ≤ (↑i : Int) ∧ (↑i : Int) < (↑(↑n : Int).toNat : Int))
      (Tr.rq ((↑i : Int).toNat + 0 < (↑n : Int).toNat)
        (bT ((rcS (↑n : Int).toNat (decL decE E.length (rowP encE E)) (decL decB S.length (rowP encB S))).getD ((↑i : Int).toNat + 0) default) (Tr.done X.ret (St.mk [V.c (C.p (PV.b true))] []))
          (Tr.done X.normal
            (cst 23 [(1, V.c (C.ptr 0 0)), (6, V.c (C.p (PV.i IntKind.i64 (↑n : Int)))), (7, V.c (C.p (PV.i IntKind.i64 (↑i : Int))))] [AO.cells 52 [C.p (PV.i IntKind.i64 (↑n : Int)), C.p (PV.l 2 E.length (rowP encE E))]]))))) := by kernel_rfl
theorem tC05 (n i : Nat) (E : List Ed) : exTs ext0 (dropL 3 (lpB (pcs Try.prog Try.f40) 2)) (cst 23 [(1, .c (.ptr 0 0)), (6, iV (n : Nat)), (7, iV (i : Nat))] [.cells 52 [.p (.i .i64 (n : Nat)), .p (listP encE 2 E)]]) (endG (msk 23 [1, 6, 7]) (resOf Try.prog Try.f40)) = Tr.rq (inR IntKind.i64 ((↑i : Int) + 1))
    (Tr.done X.normal
      (cst 23 [(1, V.c (C.ptr 0 0)), (6, V.c (C.p (PV.i IntKind.i64 (↑n : Int)))), (7, V.c (C.p (PV.i IntKind.i64 ((↑i : Int) + 1))))] [AO.cells 52 [C.p (PV.i IntKind.i64 (↑n : Int)), C.p (PV.l 2 E.length (rowP encE E))]])) := by kernel_rfl
theorem tC06 (n i : Nat) (E : List Ed) : exTs ext0 (dropL 3 (pcs Try.prog Try.f40)) (cst 23 [(1, .c (.ptr 0 0)), (6, iV (n : Nat)), (7, iV (i : Nat))] [.cells 52 [.p (.i .i64 (n : Nat)), .p (listP encE 2 E)]]) (endG [] (resOf Try.prog Try.f40)) = Tr.done X.ret (St.mk [V.c (C.p (PV.b false))] []) := by kernel_rfl
theorem tV01 (N : Int) (E : List Ed) : exTs ext0 (takeL 5 (pcs Try.prog Try.f32)) (st0 Try.f32 [gZ N E]) (endG (msk 59 [1, 3, 16, 17, 18]) (resOf Try.prog Try.f32)) = bT (decide (N < 0)) (Tr.done X.ret (St.mk [V.c (C.p (PV.i IntKind.i64 4))] []))
    (bT (decide (200 < N)) (Tr.done X.ret (St.mk [V.c (C.p (PV.i IntKind.i64 4))] []))
      (Tr.done X.normal
        (cst 59 [(1, V.c (C.ptr 0 0)), (3, V.c (C.mp 1)), (16, V.c (C.p (PV.l 2 E.length (rowP encE E)))), (17, V.c (C.p (PV.i IntKind.i64 (↑E.length : Int)))), (18, V.c (C.p (PV.i IntKind.i64 0)))] [AO.cells 52 [C.p (PV.i IntKind.i64 N), C.p (PV.l 2 E.length (rowP encE E))], AO.mapb (okK Try.prog 49) fun x => none]))) := by kernel_rfl
theorem tV02 (N : Int) (E : List Ed) (g : Value → Option Bool) (i : Nat) : exTs ext0 (lpB (pcs Try.prog Try.f32) 5) (cst 59 [(1, .c (.ptr 0 0)), (3, .c (.mp 1)), (16, listV encE 2 E), (17, iV (E.length : Nat)), (18, iV (i : Nat))] [.cells 52 [.p (.i .i64 N), .p (listP encE 2 E)], .mapb (okK Try.prog 49) g]) (endG (msk 59 [1, 3, 16, 17, 18]) (resOf Try.prog Try.f32)) = bT (decide ((↑i : Int) < (↑E.length : Int)))
    (Tr.rq (0 ≤ (↑i : Int) ∧ (↑i : Int) < (↑E.length : Int))
      (bT (decide ((E.getD (↑i : Int).toNat default).fst < 0)) (Tr.done X.ret (St.mk [V.c (C.p (PV.i IntKind.i64 1))] []))
        (bT (decide (N ≤ (E.getD (↑i : Int).toNat default).fst)) (Tr.done X.ret (St.mk [V.c (C.p (PV.i IntKind.i64 1))] []))
          (bT (decide ((E.getD (↑i : Int).toNat default).snd < 0)) (Tr.done X.ret (St.mk [V.c (C.p (PV.i IntKind.i64 1))] []))
            (bT (decide (N ≤ (E.getD (↑i : Int).toNat default).snd)) (Tr.done X.ret (St.mk [V.c (C.p (PV.i IntKind.i64 1))] []))
              (bT ((E.getD (↑i : Int).toNat default).fst == (E.getD (↑i : Int).toNat default).snd) (Tr.done X.ret (St.mk [V.c (C.p (PV.i IntKind.i64 1))] []))
                (Tr.rq
                  (okK Try.prog 49 = okK Try.prog 49 ∧
                    okK Try.prog 49 (Value.agg #[Value.int IntKind.i64 (E.getD (↑i : Int).toNat default).fst, Value.int IntKind.i64 (E.getD (↑i : Int).toNat default).snd]) = true)
                  (bT ((g (Value.agg #[Value.int IntKind.i64 (E.getD (↑i : Int).toNat default).fst, Value.int IntKind.i64 (E.getD (↑i : Int).toNat default).snd])).getD false)
                    (Tr.done X.ret (St.mk [V.c (C.p (PV.i IntKind.i64 10))] []))
                    (Tr.rq
                      (okK Try.prog 49 = okK Try.prog 49 ∧
                        okK Try.prog 49 (Value.agg #[Value.int IntKind.i64 (E.getD (↑i : Int).toNat default).fst, Value.int IntKind.i64 (E.getD (↑i : Int).toNat default).snd]) = true)
                      (Tr.rq (inR IntKind.i64 ((↑i : Int) + 1))
                        (Tr.done X.normal
                          (cst 59 [(1, V.c (C.ptr 0 0)), (3, V.c (C.mp 1)), (16, V.c (C.p (PV.l 2 E.length (rowP encE E)))), (17, V.c (C.p (PV.i IntKind.i64 (↑E.length : Int)))), (18, V.c (C.p (PV.i IntKind.i64 ((↑i : Int) + 1))))] [AO.cells 52 [C.p (PV.i IntKind.i64 N), C.p (PV.l 2 E.length (rowP encE E))], AO.mapb (okK Try.prog 49) (setM g (Value.agg #[Value.int IntKind.i64 (E.getD (↑i : Int).toNat default).fst, Value.int IntKind.i64 (E.getD (↑i : Int).toNat default).snd]) true)]))))))))))))
    (Tr.done (X.exit 0)
      (cst 59 [(1, V.c (C.ptr 0 0)), (3, V.c (C.mp 1)), (16, V.c (C.p (PV.l 2 E.length (rowP encE E)))), (17, V.c (C.p (PV.i IntKind.i64 (↑E.length : Int)))), (18, V.c (C.p (PV.i IntKind.i64 (↑i : Int))))] [AO.cells 52 [C.p (PV.i IntKind.i64 N), C.p (PV.l 2 E.length (rowP encE E))], AO.mapb (okK Try.prog 49) g])) := by kernel_rfl
theorem tV03 (N : Int) (E : List Ed) (g : Value → Option Bool) (i : Nat) : exTs extGC (dropL 6 (pcs Try.prog Try.f32)) (cst 59 [(1, .c (.ptr 0 0)), (3, .c (.mp 1)), (16, listV encE 2 E), (17, iV (E.length : Nat)), (18, iV (i : Nat))] [.cells 52 [.p (.i .i64 N), .p (listP encE 2 E)], .mapb (okK Try.prog 49) g]) (endG [] (resOf Try.prog Try.f32)) = Tr.rq ((0 ≤ N ∧ N ≤ 1000000) ∧ IsL encE 2 (decL decE E.length (rowP encE E)) E.length (rowP encE E) ∧ E.length ≤ 1000000 ∧ InN N.toNat (decL decE E.length (rowP encE E)))
    (bT (cycB N (decL decE E.length (rowP encE E))) (Tr.done X.ret (St.mk [V.c (C.p (PV.i IntKind.i64 13))] [])) (Tr.done X.ret (St.mk [V.c (C.p (PV.i IntKind.i64 0))] []))) := by kernel_rfl
theorem tI01 (N : Int) (E : List Ed) (F : List Bool) : exTs extGV (takeL 3 (pcs Try.prog Try.f24)) (st0 Try.f24 [gZ N E, listV encB 1 F]) (endG (msk 40 [1, 2]) (resOf Try.prog Try.f24)) = Tr.rq (IsL encE 2 (decL decE E.length (rowP encE E)) E.length (rowP encE E) ∧ E.length ≤ 1000000)
    (bT (validZ N (decL decE E.length (rowP encE E)) != 0) (Tr.done X.ret (St.mk [V.c (C.p (PV.z (Value.slice none 0 0)))] []))
      (bT ((↑F.length : Int) != N) (Tr.done X.ret (St.mk [V.c (C.p (PV.z (Value.slice none 0 0)))] []))
        (Tr.done X.normal
          (cst 40 [(1, V.c (C.p (PV.l 1 F.length (rowP encB F)))), (2, V.c (C.ptr 0 0))] [AO.cells 52 [C.p (PV.i IntKind.i64 N), C.p (PV.l 2 E.length (rowP encE E))]])))) := by kernel_rfl
theorem tI02 (n : Nat) (E : List Ed) (F : List Bool) : exTs extGV (takeL 2 (dropL 3 (pcs Try.prog Try.f24))) (cst 40 [(1, listV encB 1 F), (2, .c (.ptr 0 0))] [.cells 52 [.p (.i .i64 (n : Nat)), .p (listP encE 2 E)]]) (endG (msk 40 [1, 2, 5, 21, 22]) (resOf Try.prog Try.f24)) = Tr.rq
    (((0 ≤ (↑n : Int) ∧ (↑n : Int) ≤ 1000000) ∧ IsL encE 2 (decL decE E.length (rowP encE E)) E.length (rowP encE E) ∧ E.length ≤ 1000000 ∧ InN (↑n : Int).toNat (decL decE E.length (rowP encE E))) ∧
      IsL encB 1 (decL decB F.length (rowP encB F)) F.length (rowP encB F) ∧ F.length = (↑n : Int).toNat)
    (Tr.done X.normal
      (cst 40 [(1, V.c (C.p (PV.l 1 F.length (rowP encB F)))), (2, V.c (C.ptr 0 0)), (5, V.c (C.sl 1 1 0 (↑n : Int).toNat)), (21, V.c (C.p (PV.i IntKind.i64 (↑n : Int)))), (22, V.c (C.p (PV.i IntKind.i64 0)))] [AO.cells 52 [C.p (PV.i IntKind.i64 (↑n : Int)), C.p (PV.l 2 E.length (rowP encE E))], AO.row 4 1 (↑n : Int).toNat fun e o => renC [0, 1] (C.p (PV.b ((rcS (↑n : Int).toNat (decL decE E.length (rowP encE E)) (decL decB F.length (rowP encB F))).getD e default)))])) := by kernel_rfl
theorem tI03 (n i : Nat) (E : List Ed) (F out : List Bool) : exTs ext0 (lpB (pcs Try.prog Try.f24) 5) (cst 40 [(1, listV encB 1 F), (2, .c (.ptr 0 0)), (5, .c (.sl 1 1 0 n)), (21, iV (n : Nat)), (22, iV (i : Nat))] [.cells 52 [.p (.i .i64 (n : Nat)), .p (listP encE 2 E)], .row 4 1 n (rowC encB out)]) (endG (msk 40 [1, 2, 5, 21, 22]) (resOf Try.prog Try.f24)) = bT (decide ((↑i : Int) < (↑n : Int)))
    (Tr.rq (0 ≤ (↑i : Int) ∧ (↑i : Int) < (↑n : Int))
      (Tr.rq ((↑i : Int).toNat + 0 < n)
        (bT (out.getD ((↑i : Int).toNat + 0) default)
          (Tr.rq (0 ≤ (↑i : Int) ∧ (↑i : Int) < (↑F.length : Int))
            (Tr.rq (0 ≤ (↑i : Int) ∧ (↑i : Int) < (↑n : Int))
              (Tr.rq ((↑i : Int).toNat + 0 < n)
                (Tr.rq (inR IntKind.i64 ((↑i : Int) + 1))
                  (Tr.done X.normal
                    (cst 40 [(1, V.c (C.p (PV.l 1 F.length (rowP encB F)))), (2, V.c (C.ptr 0 0)), (5, V.c (C.sl 1 1 0 n)), (21, V.c (C.p (PV.i IntKind.i64 (↑n : Int)))), (22, V.c (C.p (PV.i IntKind.i64 ((↑i : Int) + 1))))] [AO.cells 52 [C.p (PV.i IntKind.i64 (↑n : Int)), C.p (PV.l 2 E.length (rowP encE E))], AO.row 4 1 n fun e o => renC [0, 1] (if e = (↑i : Int).toNat + 0 then if 0 ≤ o ∧ o < 1 then nth C.top [C.p (PV.b (F.getD (↑i : Int).toNat default))] (o - 0) else rowC encB out e o else rowC encB out e o)]))))))
          (Tr.rq (0 ≤ (↑i : Int) ∧ (↑i : Int) < (↑n : Int))
            (Tr.rq ((↑i : Int).toNat + 0 < n)
              (Tr.rq (inR IntKind.i64 ((↑i : Int) + 1))
                (Tr.done X.normal
                  (cst 40 [(1, V.c (C.p (PV.l 1 F.length (rowP encB F)))), (2, V.c (C.ptr 0 0)), (5, V.c (C.sl 1 1 0 n)), (21, V.c (C.p (PV.i IntKind.i64 (↑n : Int)))), (22, V.c (C.p (PV.i IntKind.i64 ((↑i : Int) + 1))))] [AO.cells 52 [C.p (PV.i IntKind.i64 (↑n : Int)), C.p (PV.l 2 E.length (rowP encE E))], AO.row 4 1 n fun e o => renC [0, 1] (if e = (↑i : Int).toNat + 0 then if 0 ≤ o ∧ o < 1 then nth C.top [C.p (PV.b false)] (o - 0) else rowC encB out e o else rowC encB out e o)]))))))))
    (Tr.done (X.exit 0)
      (cst 40 [(1, V.c (C.p (PV.l 1 F.length (rowP encB F)))), (2, V.c (C.ptr 0 0)), (5, V.c (C.sl 1 1 0 n)), (21, V.c (C.p (PV.i IntKind.i64 (↑n : Int)))), (22, V.c (C.p (PV.i IntKind.i64 (↑i : Int))))] [AO.cells 52 [C.p (PV.i IntKind.i64 (↑n : Int)), C.p (PV.l 2 E.length (rowP encE E))], AO.row 4 1 n fun e o => renC [0, 1] (rowC encB out e o)])) := by kernel_rfl
theorem tI04 (n i : Nat) (E : List Ed) (F out : List Bool) : exTs ext0 (dropL 6 (pcs Try.prog Try.f24)) (cst 40 [(1, listV encB 1 F), (2, .c (.ptr 0 0)), (5, .c (.sl 1 1 0 n)), (21, iV (n : Nat)), (22, iV (i : Nat))] [.cells 52 [.p (.i .i64 (n : Nat)), .p (listP encE 2 E)], .row 4 1 n (rowC encB out)]) (endG [] (resOf Try.prog Try.f24)) = Tr.rq (0 + n ≤ n ∧ ∀ (e o : Nat), e < n → o < 1 → isF (rowC encB out (e + 0) o) = true) (Tr.done X.ret (St.mk [V.c (C.p (PV.l 1 n fun e o => unP (rowC encB out (e + 0) o)))] [])) := by kernel_rfl
theorem cycB_true {N : Int} {E : List Ed} : cycB N E = true ↔ ∃ k : Nat, (k : Int) < N ∧ Path E k k := by unfold cycB; exact @decide_eq_true_iff _ (Classical.propDecidable _)
/-- The key of an edge. -/
def kE (e : Ed) : Value := .agg #[.int .i64 e.1, .int .i64 e.2]
theorem kE_inj {e e' : Ed} (h : kE e = kE e') : e = e' := by
  unfold kE at h
  injection h with h
  have h1 := congrArg Array.toList h
  simp at h1
  exact Prod.ext h1.1 h1.2
theorem okE {e : Ed} (h1 : inR .i64 e.1) (h2 : inR .i64 e.2) : okK Try.prog 49 (kE e) = true := by
  unfold okK kE
  rw [WideMaps.keyOf_pair (e := 3) (q := .i64) ⟨by kernel_rfl, by kernel_rfl, by kernel_rfl, by kernel_rfl⟩ (by kernel_rfl) ⟨Try.prog.types.size - 1, by kernel_rfl⟩ (wf_in h1) (wf_in h2)]
  rfl
where
  wf_in {n : Int} (h : inR .i64 n) : (Lit.int .i64 n).wf = true := by
    simp only [inR] at h
    simp only [Lit.wf, Bool.and_eq_true, decide_eq_true_eq]
    exact ⟨h.1, h.2⟩
section
variable {G : Nat → Option Obj}
theorem extGR_sound : SoundExt Try.prog G extGR := extH_sound (by simp; exact okReachedH)
set_option maxRecDepth 100000 in
theorem okCyclic : ModOK Try.prog G 40 mCyclic := by
  intro args p v hm hp h
  unfold mCyclic at hm
  split at hm; rotate_left; · cases hm
  rename_i N n0 f
  obtain ⟨rfl, rfl⟩ := some_pair hm
  obtain ⟨⟨hN0, hN1⟩, hL, hn, hE⟩ := hp
  obtain ⟨n, rfl⟩ : ∃ n : Nat, N = n := ⟨N.toNat, by omega⟩
  have hlen : (decL decE n0 f).length ≤ 1000000 := by rw [hL.1]; exact hn
  rw [show (↑n : Int).toNat = n from rfl] at hE
  generalize decL decE n0 f = E at hL hlen hE
  refine FnS.args (args' := [gV n E]) ?_ (.cons (VLe.a2 (.refl _) (PLe.of_isL hL)) .nil)
  clear hL
  have hn1 : n ≤ 1000000 := by omega
  refine fn_S Try.func40 (by kernel_rfl) rfl ?_ h
  refine ExS.evG ext0_sound 2 (tC01 n E) ?_
  simp only [holds_leaf, kf_normal]
  refine ⟨?_⟩
  refine ExS.loop' (l := dropL 2 (pcs Try.prog Try.f40)) (b := inr (inr (nth .skip (pcs Try.prog Try.f40) 2))) (r := dropL 3 (pcs Try.prog Try.f40)) (id := 0) (by kernel_rfl) (σ := Nat)
    (fun i => cst 23 [(1, .c (.ptr 0 0)), (6, iV (n : Nat)), (7, iV (i : Nat))] [.cells 52 [.p (.i .i64 (n : Nat)), .p (listP encE 2 E)]]) (fun i => i ≤ n ∧ ∀ k : Nat, k < i → ¬ Path E k k) (fun i => n - i) 0 ⟨Nat.zero_le _, fun k hk => absurd hk (Nat.not_lt_zero k)⟩ (weak_of_eq (by kernel_rfl)) ?_
  rintro i ⟨hi, hno⟩ Q1 q1n q1e -
  refine ExS.evG ext0_sound 2 (tC02 n i E) ?_
  simp only [holds_bT, holds_leaf, kf_normal, kf_exit, decide_eq_true_eq, decide_eq_false_iff_not]
  refine ⟨fun h1 => ⟨?_⟩, fun h1 => ⟨q1e _ ?_⟩⟩
  · refine ExS.blk' (l := dropL 2 (lpB (pcs Try.prog Try.f40) 2)) (id := 1) (a := inr (nth .skip (lpB (pcs Try.prog Try.f40) 2) 2)) (r := dropL 3 (lpB (pcs Try.prog Try.f40) 2)) (by kernel_rfl) ?_
    intro Q2 q2n _ _
    have hin : i < n := by omega
    refine ExS.evG ext0_sound 3 (tC03 n i E) ?_
    simp only [holds_rq, holds_leaf, kf_normal, show (↑i : Int).toNat = i from rfl, show (↑n : Int).toNat = n from rfl, show ∀ x : Nat, x + 0 = x from fun _ => rfl]
    refine ⟨by omega, by omega, by omega, ⟨?_⟩⟩
    refine ExS.pre (st2 := cst 23 [(1, .c (.ptr 0 0)), (3, iV (i : Nat)), (4, .c (.sl 1 1 0 n)), (6, iV (n : Nat)), (7, iV (i : Nat))] [.cells 52 [.p (.i .i64 (n : Nat)), .p (listP encE 2 E)], .row 4 1 n (rowC encB ((List.replicate n false).set i true))]) (weak_cst ⟨rfl, ⟨rfl, rfl, rfl, fun e o he ho => ?_⟩, trivial⟩) ?_
    · obtain rfl : o = 0 := by omega
      dsimp only
      by_cases e1 : e = i
      · subst e1
        rw [if_pos rfl]
        unfold rowC rowP
        simp [hin]
        rfl
      · rw [if_neg e1]
        show C.p (PV.b false) = C.p (PV.b (((List.replicate n false).set i true).getD e default))
        rw [List.getD_eq_getElem?_getD, List.getElem?_set_ne (fun h => e1 h.symm), List.getElem?_replicate, if_pos he]
        rfl
    refine ExS.pre ((weak_frz (j := 4) (id := 1) (ty := 4) (sz := 1) (n := n) (off := 0) (len := n) (f := rowC encB ((List.replicate n false).set i true)) (by kernel_rfl) (by kernel_rfl) (by omega) (fun _ _ _ _ => rfl)).trans (weak_gc (msk 23 [1, 3, 4, 6, 7]) _)) ?_
    have hSl : ((List.replicate n false).set i true).length = n := by simp
    refine ExS.pre (st2 := (fun S => cst 23 [(1, .c (.ptr 0 0)), (3, iV (i : Nat)), (4, listV encB 1 S), (6, iV (n : Nat)), (7, iV (i : Nat))] [.cells 52 [.p (.i .i64 (n : Nat)), .p (listP encE 2 E)]]) ((List.replicate n false).set i true)) ?_ ?_
    · refine (weak_of_eq (st' := cst 23 [(1, .c (.ptr 0 0)), (3, iV (i : Nat)), (4, .c (.p (.l 1 n (rowP encB ((List.replicate n false).set i true))))), (6, iV (n : Nat)), (7, iV (i : Nat))] [.cells 52 [.p (.i .i64 (n : Nat)), .p (listP encE 2 E)]]) (by kernel_rfl)).trans (weak_of_eq ?_)
      show _ = cst 23 [(1, .c (.ptr 0 0)), (3, iV (i : Nat)), (4, .c (.p (.l 1 ((List.replicate n false).set i true).length (rowP encB ((List.replicate n false).set i true))))), (6, iV (n : Nat)), (7, iV (i : Nat))] [.cells 52 [.p (.i .i64 (n : Nat)), .p (listP encE 2 E)]]
      rw [hSl]
    have hsat : ∀ s : Nat, ((List.replicate n false).set i true).getD s false = true ↔ s = i := by
      intro s
      rw [getD_set_b (by simpa using hin)]
      constructor
      · rintro (h | h)
        · exact h
        · rw [List.getD_eq_getElem?_getD, List.getElem?_replicate] at h
          split at h <;> cases h
      · exact .inl
    generalize (List.replicate n false).set i true = S at hSl hsat
    refine ExS.evH extGR_sound (tC04 n i E S) ?_
    have hrc : (rcS n E S).getD i false = true ↔ Path E i i := by
      rw [rcS_at hin]
      constructor
      · rintro ⟨s, h1, h2⟩
        rw [(hsat s).1 h1] at h2; exact h2
      · intro h; exact ⟨i, (hsat i).2 rfl, h⟩
    simp only [holds_bT, holds_rq, holds_leaf, kf_normal, kf_ret', decE_row, decB_row, show (↑i : Int).toNat = i from rfl, show (↑n : Int).toNat = n from rfl, show ∀ x : Nat, x + 0 = x from fun _ => rfl, show (default : Bool) = false from rfl]
    refine ⟨⟨⟨by omega, isL_row _ _ _, hlen, hE⟩, isL_row _ _ _, hSl⟩, by omega, by omega, fun c1 => ⟨VLe.of_eq ?_⟩, fun c1 => ⟨q2n _ ?_⟩⟩
    · have : cycB n E = true := by
        exact cycB_true.2 ⟨i, by omega, hrc.1 c1⟩
      rw [this]; rfl
    · refine ExS.evH ext0_sound (tC05 n i E) ?_
      simp only [holds_rq, holds_leaf, kf_normal, inR]
      refine ⟨by omega, ⟨q1n (i + 1) _ ⟨by omega, fun k hk => ?_⟩ (by omega) (weak_of_eq (by kernel_rfl))⟩⟩
      by_cases e : k = i
      · subst e
        intro hp
        rw [hrc.2 hp] at c1; cases c1
      · exact hno k (by omega)
  · refine ExS.evH ext0_sound (tC06 n i E) ?_
    simp only [holds_leaf, kf_ret']
    refine ⟨VLe.of_eq ?_⟩
    have : cycB n E = false := by
      rw [← Bool.not_eq_true, cycB_true]
      rintro ⟨k, h1, h2⟩
      exact hno k (by omega) h2
    rw [this]; rfl
theorem extGC_sound : SoundExt Try.prog G extGC := extOf_sound (by simp; exact okCyclic)
set_option maxRecDepth 100000 in
theorem okGValid : ModOK Try.prog G 32 mGValid := by
  intro args p v hm hp h
  unfold mGValid at hm
  split at hm; rotate_left; · cases hm
  rename_i N n0 f
  obtain ⟨rfl, rfl⟩ := some_pair hm
  obtain ⟨hL, hn⟩ := hp
  have hlen : (decL decE n0 f).length ≤ 1000000 := by rw [hL.1]; exact hn
  generalize decL decE n0 f = E at hL hlen
  refine FnS.args (args' := [gZ N E]) ?_ (.cons (VLe.a2 (.refl _) (PLe.of_isL hL)) .nil)
  clear hL
  refine fn_S Try.func32 (by kernel_rfl) rfl ?_ h
  refine ExS.evG ext0_sound 5 (tV01 N E) ?_
  simp only [holds_bT, holds_rq, holds_leaf, kf_normal, kf_ret', decide_eq_true_eq, decide_eq_false_iff_not]
  have err : ∀ c : Int, validZ N E = c → VLe (V.c (C.p (PV.i .i64 c))) (iV (validZ N E)) := fun c h => VLe.of_eq (by rw [h]; rfl)
  have big : (N < 0 ∨ 200 < N) → validZ N E = 4 := fun h => by unfold validZ; rw [if_pos h]
  refine ⟨fun c1 => ⟨err 4 (big (.inl c1))⟩, fun c1 => ⟨fun c2 => ⟨err 4 (big (.inr c2))⟩, fun c2 => ⟨?_⟩⟩⟩
  have hN : ¬ (N < 0 ∨ 200 < N) := by omega
  have ser : ∀ c : Int, c ≠ 0 → scanE N [] E = c → validZ N E = c := fun c h1 h2 => by unfold validZ; rw [if_neg hN, if_pos (by rw [h2]; exact h1), h2]
  refine ExS.loop' (l := dropL 5 (pcs Try.prog Try.f32)) (b := inr (inr (nth .skip (pcs Try.prog Try.f32) 5))) (r := dropL 6 (pcs Try.prog Try.f32)) (id := 0) (by kernel_rfl) (σ := Nat × (Value → Option Bool))
    (fun (i, g) => cst 59 [(1, .c (.ptr 0 0)), (3, .c (.mp 1)), (16, listV encE 2 E), (17, iV (E.length : Nat)), (18, iV (i : Nat))] [.cells 52 [.p (.i .i64 N), .p (listP encE 2 E)], .mapb (okK Try.prog 49) g]) (fun (i, g) => i ≤ E.length ∧ scanE N (E.take i) (E.drop i) = scanE N [] E ∧ ∀ e : Ed, (g (kE e)).getD false = true ↔ e ∈ E.take i) (fun (i, _) => E.length - i) (0, fun _ => none) ⟨Nat.zero_le _, rfl, fun e => by simp⟩ (weak_of_eq (by kernel_rfl)) ?_
  rintro ⟨i, g⟩ ⟨hi, hsc, hg⟩ Q1 q1n q1e -
  refine ExS.evH ext0_sound (tV02 N E g i) ?_
  have hst : i < E.length → _ := fun h => scan_step (N := N) (E := E) h
  have htk : i < E.length → E.take (i + 1) = E.take i ++ [E.getD i default] := fun h => by
    rw [List.take_add_one, List.getD_eq_getElem?_getD, List.getElem?_eq_getElem h]
    rfl
  generalize hx : E.getD i default = x at hst htk
  simp only [holds_bT, holds_rq, holds_leaf, kf_normal, kf_exit, kf_ret', decide_eq_true_eq, decide_eq_false_iff_not, beq_iff_eq, beq_eq_false_iff_ne, inR, show (↑i : Int).toNat = i from rfl, hx]
  refine ⟨fun h1 => ?_, fun h1 => ⟨q1e _ ?_⟩⟩
  · have hst := hst (by omega)
    have htk := htk (by omega)
    rw [hsc] at hst
    have bad : badE N x = true → VLe (V.c (C.p (PV.i .i64 1))) (iV (validZ N E)) := fun hb => err 1 (ser 1 (by decide) (by rw [hst, if_pos hb]))
    refine ⟨by omega, fun c1 => ⟨bad (by simp [badE, c1])⟩, fun c1 => ⟨fun c2 => ⟨bad (by simp [badE, c2])⟩, fun c2 => ⟨fun c3 => ⟨bad (by simp [badE, c3])⟩, fun c3 => ⟨fun c4 => ⟨bad (by simp [badE, c4])⟩, fun c4 => ⟨fun c5 => ⟨bad (by simp [badE, c5])⟩, fun c5 => ?_⟩⟩⟩⟩⟩
    have hb : badE N x = false := by simp [badE]; omega
    have hok : okK Try.prog 49 (kE x) = true := okE (by simp only [inR]; omega) (by simp only [inR]; omega)
    rw [if_neg (by rw [hb]; decide)] at hst
    refine ⟨⟨trivial, hok⟩, fun c6 => ⟨err 10 (ser 10 (by decide) (by rw [hst, if_pos ((hg x).1 c6)]))⟩, fun c6 => ⟨⟨trivial, hok⟩, by omega, ⟨q1n (i + 1, setM g (kE x) true) _ ⟨by omega, ?_, fun e => ?_⟩ (by simp only; omega) (weak_of_eq (by kernel_rfl))⟩⟩⟩
    · have c6 : (g (kE x)).getD false = false := c6
      have hnm : x ∉ E.take i := fun h => by rw [(hg x).2 h] at c6; cases c6
      rw [if_neg hnm] at hst
      exact hst.symm
    · rw [htk]
      unfold setM
      by_cases e1 : kE e = kE x
      · rw [if_pos e1, kE_inj e1]; simp
      · rw [if_neg e1, hg e, List.mem_append]
        constructor
        · exact .inl
        · rintro (h | h)
          · exact h
          · simp at h; subst h; exact absurd rfl e1
  · obtain rfl : i = E.length := by omega
    have hs0 : scanE N [] E = 0 := by rw [← hsc, List.drop_length]; rfl
    refine ExS.evH extGC_sound (tV03 N E g E.length) ?_
    simp only [holds_bT, holds_rq, holds_leaf, kf_ret', decE_row]
    refine ⟨⟨by omega, isL_row _ _ _, hlen, scan_in hs0⟩, fun c1 => ⟨err 13 ?_⟩, fun c1 => ⟨err 0 ?_⟩⟩
    · rw [cycB_true] at c1
      unfold validZ; rw [if_neg hN, if_neg (by simp [hs0]), if_pos c1]
    · rw [← Bool.not_eq_true, cycB_true] at c1
      unfold validZ; rw [if_neg hN, if_neg (by simp [hs0]), if_neg c1]
theorem extGV_sound : SoundExt Try.prog G extGV := extH_sound (by simp; exact ⟨okGValid.lift, okReachedH⟩)
set_option maxRecDepth 100000 in
theorem okGInhib : ModOK Try.prog G 24 mGInhib := by
  intro args p v hm hp h
  unfold mGInhib at hm
  split at hm; rotate_left; · cases hm
  rename_i N n0 f m g
  obtain ⟨rfl, rfl⟩ := some_pair hm
  obtain ⟨⟨hL, hn⟩, hL2, hm2⟩ := hp
  have hlen : (decL decE n0 f).length ≤ 1000000 := by rw [hL.1]; exact hn
  have hlenF : (decL decB m g).length ≤ 1000000 := by rw [hL2.1]; exact hm2
  generalize decL decE n0 f = E at hL hlen
  generalize decL decB m g = F at hL2 hlenF
  refine FnS.args (args' := [gZ N E, listV encB 1 F]) ?_ (.cons (VLe.a2 (.refl _) (PLe.of_isL hL)) (.cons hL2.le .nil))
  clear hL hL2
  refine fn_S Try.func24 (by kernel_rfl) rfl ?_ h
  refine ExS.evG extGV_sound 3 (tI01 N E F) ?_
  simp only [holds_bT, holds_rq, holds_leaf, kf_normal, kf_ret', decide_eq_true_eq, decide_eq_false_iff_not, bne_iff_ne, bne_eq_false_iff_eq, decE_row]
  have nil : ¬ (validZ N E = 0 ∧ (F.length : Int) = N) → VLe (V.c (C.p (PV.z (Value.slice none 0 0)))) (listV encB 1 (inhZ N E F)) := fun h => by
    unfold inhZ; rw [if_neg h]; exact VLe.p (PLe.nil 1 _)
  refine ⟨⟨isL_row _ _ _, hlen⟩, fun c1 => ⟨nil (fun h => c1 h.1)⟩, fun c1 => ⟨fun c2 => ⟨nil (fun h => c2 h.2)⟩, fun c2 => ⟨?_⟩⟩⟩
  obtain ⟨n, hnn⟩ : ∃ n, F.length = n := ⟨_, rfl⟩
  have hval : inhZ N E F = inh n E F := by unfold inhZ; rw [if_pos ⟨c1, c2⟩, hnn]
  rw [hval]
  obtain ⟨hN, hsc, _⟩ := validZ_ok c1
  have c2 : N = n := by omega
  subst c2
  have hE : InN n E := by have := scan_in hsc; simpa using this
  clear nil c1 hval
  refine ExS.evG extGV_sound 2 (tI02 n E F) ?_
  simp only [holds_rq, holds_leaf, kf_normal, decE_row, decB_row, show (↑n : Int).toNat = n from rfl]
  refine ⟨⟨⟨by omega, isL_row _ _ _, hlen, hE⟩, isL_row _ _ _, hnn⟩, ⟨?_⟩⟩
  refine ExS.loop' (l := dropL 5 (pcs Try.prog Try.f24)) (b := inr (inr (nth .skip (pcs Try.prog Try.f24) 5))) (r := dropL 6 (pcs Try.prog Try.f24)) (id := 0) (by kernel_rfl) (σ := Nat × List Bool)
    (fun (i, out) => cst 40 [(1, listV encB 1 F), (2, .c (.ptr 0 0)), (5, .c (.sl 1 1 0 n)), (21, iV (n : Nat)), (22, iV (i : Nat))] [.cells 52 [.p (.i .i64 (n : Nat)), .p (listP encE 2 E)], .row 4 1 n (rowC encB out)]) (fun (i, out) => i ≤ n ∧ out.length = n ∧ ∀ k, k < n → out.getD k false = if k < i then (rcS n E F).getD k false && F.getD k false else (rcS n E F).getD k false) (fun (i, _) => n - i) (0, rcS n E F) ⟨Nat.zero_le _, rcS_length _ _ _, fun k hk => by rw [if_neg (Nat.not_lt_zero k)]⟩
    (weak_of_eq (by kernel_rfl)) ?_
  rintro ⟨i, out⟩ ⟨hi, ho, hI⟩ Q1 q1n q1e -
  refine ExS.evH ext0_sound (tI03 n i E F out) ?_
  have hat : i < n → out.getD i false = (rcS n E F).getD i false := fun h => by rw [hI i h, if_neg (by omega)]
  have go : ∀ x : Bool, i < n → x = ((rcS n E F).getD i false && F.getD i false) → ∀ st, WeakS G st ((fun i out => cst 40 [(1, listV encB 1 F), (2, .c (.ptr 0 0)), (5, .c (.sl 1 1 0 n)), (21, iV (n : Nat)), (22, iV (i : Nat))] [.cells 52 [.p (.i .i64 (n : Nat)), .p (listP encE 2 E)], .row 4 1 n (rowC encB out)]) (i + 1) (out.set i x)) → Q1 .normal st := fun x h1 h2 st hst =>
    q1n (i + 1, out.set i x) st ⟨by omega, by simp [ho], fun k hk => by
      rw [getD_set_x (by omega)]
      by_cases e : k = i
      · subst e; rw [if_pos rfl, if_pos (by omega)]; exact h2
      · rw [if_neg e, hI k hk]
        by_cases e2 : k < i
        · rw [if_pos e2, if_pos (by omega)]
        · rw [if_neg e2, if_neg (by omega)]⟩ (by simp only; omega) hst
  simp only [holds_bT, holds_rq, holds_leaf, kf_normal, kf_exit, decide_eq_true_eq, decide_eq_false_iff_not, inR, show (↑i : Int).toNat = i from rfl, show ∀ x : Nat, x + 0 = x from fun _ => rfl, show (default : Bool) = false from rfl]
  refine ⟨fun h1 => ⟨by omega, by omega, fun c1 => ⟨by omega, by omega, by omega, by omega, ⟨?_⟩⟩, fun c1 => ⟨by omega, by omega, by omega, ⟨?_⟩⟩⟩, fun h1 => ⟨q1e _ ?_⟩⟩
  · have hin : i < n := by omega
    refine go (F.getD i false) hin (by rw [← hat hin, c1]; rfl) _ (weak_cst (by exact ⟨rfl, ⟨rfl, rfl, rfl, fun e o he ho' => set1 (ρ := [0, 1]) ho hin rfl he ho'⟩, trivial⟩))
  · have hin : i < n := by omega
    refine go false hin (by rw [← hat hin, c1]; rfl) _ (weak_cst (by exact ⟨rfl, ⟨rfl, rfl, rfl, fun e o he ho' => set1 (ρ := [0, 1]) ho hin rfl he ho'⟩, trivial⟩))
  · obtain rfl : i = n := by omega
    refine ExS.evH ext0_sound (tI04 i i E F out) ?_
    simp only [holds_rq, holds_leaf, kf_ret']
    refine ⟨⟨by omega, fun _ _ _ _ => rfl⟩, ⟨?_⟩⟩
    have : out = inh i E F := by
      refine bools_ext (by rw [ho, inh_length]) fun k hk => ?_
      rw [ho] at hk
      rw [hI k hk, if_pos hk, inh_at hk, Bool.and_eq_true, rcS_at hk]
    rw [← this]
    refine VLe.p ?_
    unfold listP
    rw [ho]
    exact PLe.refl _
end
end Go.AE
