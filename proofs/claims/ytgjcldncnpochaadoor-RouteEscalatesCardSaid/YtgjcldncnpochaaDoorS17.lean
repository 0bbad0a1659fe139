/- AE contracts: ref29.Rota. -/
import Derived.Test.YtgjcldncnpochaaDoorS12
import Derived.Test.YtgjcldncnpochaaDoorAe29
import Derived.Test.YtgjcldncnpochaaDoorAe30
namespace Go.AE
open Go.Proofs Go.Proofs.YtgjcldncnpochaaDoor
set_option linter.unusedVariables false
set_option linter.unusedSimpArgs false

def names4 : List ByteArray := [⟨#[97, 110, 110]⟩, ⟨#[98, 111, 98]⟩, ⟨#[99, 121]⟩, ⟨#[100, 97, 110]⟩]
def shS (P n : Int) : Sh := (names4.getD (n % 4).toNat default, n / 4 % P, n / 4 % P + 1 + n / 64 % (P - n / 4 % P))
def sh1 (i : Nat) (x : Sh) : Sh := if i = 0 then (x.1, 0, x.2.2) else x
def sh2 (i : Nat) (P n : Int) (x : Sh) : Sh := if i = 0 ∧ 0 < n % 3 then (x.1, x.2.1, P) else x
def sh3 (d : Bool) (n : Int) (x : Sh) : Sh := if d = true ∧ n / 1000 % 8 = 0 then (x.1, x.2.1 - n / 8000 % 3, x.2.2) else x
def sh4 (d : Bool) (n : Int) (x : Sh) : Sh := if d = true ∧ n / 1000 % 8 = 1 then (x.1, x.2.1, x.2.2 + n / 8000 % 3 - 1) else x
def sh5 (d : Bool) (n : Int) (x : Sh) : Sh := if d = true ∧ n / 1000 % 16 = 2 then (⟨#[65]⟩, x.2.1, x.2.2) else x
def shF (d : Bool) (P n : Int) (i : Nat) : Sh := sh5 d n (sh4 d n (sh3 d n (sh2 i P n (sh1 i (shS P n)))))
def rotaP (L : List Int) : Int := 1 + pickZ L 0 12
def rotaK (L : List Int) : Nat := 1 + (pickZ L 1 6).toNat
def rotaS (d : Bool) (L : List Int) (k : Nat) : List Sh := (List.range k).map fun i : Nat => shF d (rotaP L) (pickZ L ((i : Int) + 2) 100000) i
noncomputable def rotaL (d : Bool) (L : List Int) : List Sh := if d = false ∧ rotaZ (rotaP L) (rotaS d L (rotaK L)) ≠ 0 then rotaS d L (rotaK L) ++ [(⟨#[101, 118, 101]⟩, 0, rotaP L)] else rotaS d L (rotaK L)
noncomputable def mRotaR : Mod
  | [.c (.p (.l 1 n f)), .c (.p (.b d))] => some (IsL encI 1 (decL decI n f) n f ∧ Ints (decL decI n f), .t [.c (.p (.i .i64 (rotaP (decL decI n f)))), .c (.p (listP enc3 3 (rotaL d (decL decI n f))))])
  | _ => none
noncomputable def extRo : Ext := mutX 16 (liftM mRota) (extOf [(15, mPick)])

theorem tRt1 (L : List Int) (d : Bool) : exTs extRo (takeL 5 (pcs Tryd.prog Tryd.f4)) (st0 Tryd.f4 [listV encI 1 L, bV d]) (endG (msk 116 [0, 1, 6, 7, 8, 9]) (resOf Tryd.prog Tryd.f4)) = Tr.rq (IsL encI 1 (decL decI L.length (rowP encI L)) L.length (rowP encI L) ∧ Ints (decL decI L.length (rowP encI L)) ∧ Int.ofNat 0 < Int.ofNat 12)
    (Tr.rq (inR IntKind.i64 (1 + pickZ (decL decI L.length (rowP encI L)) 0 12))
      (Tr.done X.normal
        (cst 116 [(0, V.c (C.p (PV.l 1 L.length (rowP encI L)))), (1, V.c (C.p (PV.b d))), (6, V.c (C.p (PV.i IntKind.i64 (1 + pickZ (decL decI L.length (rowP encI L)) 0 12)))), (7, V.c (C.sl 0 1 0 4)), (8, V.c (C.p (PV.z (Value.slice none 0 0)))), (9, V.c (C.p (PV.i IntKind.i64 0)))] [AO.row 9 1 4 fun e o => renC [0] (nth C.top [C.p (PV.s (ByteArray.mk #[97, 110, 110])), C.p (PV.s (ByteArray.mk #[98, 111, 98])), C.p (PV.s (ByteArray.mk #[99, 121])), C.p (PV.s (ByteArray.mk #[100, 97, 110]))] (e * 1 + o))]))) := by kernel_rfl
theorem tRt2 (L : List Int) (d : Bool) (P : Int) (A : List Sh) (m i : Nat) : exTs extRo (takeL 2 (lpB (pcs Tryd.prog Tryd.f4) 5)) (cst 116 [(0, listV encI 1 L), (1, bV d), (6, iV P), (7, listV encS 1 names4), (8, .c (.sl 0 3 0 m)), (9, iV (i : Nat))] [.row 52 3 m (rowC enc3 A)]) (endG (msk 116 [0, 1, 6, 7, 8, 9]) (resOf Tryd.prog Tryd.f4)) = Tr.rq (IsL encI 1 (decL decI L.length (rowP encI L)) L.length (rowP encI L) ∧ Ints (decL decI L.length (rowP encI L)) ∧ Int.ofNat 0 < Int.ofNat 6)
    (Tr.rq (inR IntKind.i64 (1 + pickZ (decL decI L.length (rowP encI L)) 1 6))
      (bT (decide ((↑i : Int) < 1 + pickZ (decL decI L.length (rowP encI L)) 1 6))
        (Tr.done X.normal
          (cst 116 [(0, V.c (C.p (PV.l 1 L.length (rowP encI L)))), (1, V.c (C.p (PV.b d))), (6, V.c (C.p (PV.i IntKind.i64 P))), (7, V.c (C.p (PV.l 1 4 (rowP encS names4)))), (8, V.c (C.sl 0 3 0 m)), (9, V.c (C.p (PV.i IntKind.i64 (↑i : Int))))] [AO.row 52 3 m fun e o => renC [0] (rowC enc3 A e o)]))
        (Tr.done (X.exit 0)
          (cst 116 [(0, V.c (C.p (PV.l 1 L.length (rowP encI L)))), (1, V.c (C.p (PV.b d))), (6, V.c (C.p (PV.i IntKind.i64 P))), (7, V.c (C.p (PV.l 1 4 (rowP encS names4)))), (8, V.c (C.sl 0 3 0 m)), (9, V.c (C.p (PV.i IntKind.i64 (↑i : Int))))] [AO.row 52 3 m fun e o => renC [0] (rowC enc3 A e o)])))) := by kernel_rfl
theorem tRt3 (L : List Int) (d : Bool) (P : Int) (A : List Sh) (m i : Nat) : exTs extRo (takeL 3 (flat (inr (nth .skip (lpB (pcs Tryd.prog Tryd.f4) 5) 2)))) (cst 116 [(0, listV encI 1 L), (1, bV d), (6, iV P), (7, listV encS 1 names4), (8, .c (.sl 0 3 0 m)), (9, iV (i : Nat))] [.row 52 3 m (rowC enc3 A)]) (endG (msk 116 [0, 1, 6, 7, 8, 9, 10, 12]) (resOf Tryd.prog Tryd.f4)) = Tr.rq (inR IntKind.i64 ((↑i : Int) + 2))
    (Tr.rq (IsL encI 1 (decL decI L.length (rowP encI L)) L.length (rowP encI L) ∧ Ints (decL decI L.length (rowP encI L)) ∧ Int.ofNat 0 < Int.ofNat 100000)
      (Tr.rq (0 ≤ pickZ (decL decI L.length (rowP encI L)) ((↑i : Int) + 2) 100000 ∧ Int.ofNat 0 < Int.ofNat 4 ∧ inR IntKind.i64 (pickZ (decL decI L.length (rowP encI L)) ((↑i : Int) + 2) 100000 / 4))
        (Tr.rq (0 ≤ pickZ (decL decI L.length (rowP encI L)) ((↑i : Int) + 2) 100000 / 4 ∧ 0 < P)
          (Tr.rq (0 ≤ pickZ (decL decI L.length (rowP encI L)) ((↑i : Int) + 2) 100000 ∧ Int.ofNat 0 < Int.ofNat 4)
            (Tr.rq (0 ≤ pickZ (decL decI L.length (rowP encI L)) ((↑i : Int) + 2) 100000 % 4 ∧ pickZ (decL decI L.length (rowP encI L)) ((↑i : Int) + 2) 100000 % 4 < (↑4 : Int))
              (Tr.rq (inR IntKind.i64 (pickZ (decL decI L.length (rowP encI L)) ((↑i : Int) + 2) 100000 / 4 % P + 1))
                (Tr.rq
                  (0 ≤ pickZ (decL decI L.length (rowP encI L)) ((↑i : Int) + 2) 100000 ∧
                    Int.ofNat 0 < Int.ofNat 64 ∧ inR IntKind.i64 (pickZ (decL decI L.length (rowP encI L)) ((↑i : Int) + 2) 100000 / 64))
                  (Tr.rq (inR IntKind.i64 (P - pickZ (decL decI L.length (rowP encI L)) ((↑i : Int) + 2) 100000 / 4 % P))
                    (Tr.rq (0 ≤ pickZ (decL decI L.length (rowP encI L)) ((↑i : Int) + 2) 100000 / 64 ∧ 0 < P - pickZ (decL decI L.length (rowP encI L)) ((↑i : Int) + 2) 100000 / 4 % P)
                      (Tr.rq
                        (inR IntKind.i64
                          (pickZ (decL decI L.length (rowP encI L)) ((↑i : Int) + 2) 100000 / 4 % P + 1 +
                            pickZ (decL decI L.length (rowP encI L)) ((↑i : Int) + 2) 100000 / 64 % (P - pickZ (decL decI L.length (rowP encI L)) ((↑i : Int) + 2) 100000 / 4 % P)))
                        (Tr.done X.normal
                          (cst 116 [(0, V.c (C.p (PV.l 1 L.length (rowP encI L)))), (1, V.c (C.p (PV.b d))), (6, V.c (C.p (PV.i IntKind.i64 P))), (7, V.c (C.p (PV.l 1 4 (rowP encS names4)))), (8, V.c (C.sl 0 3 0 m)), (9, V.c (C.p (PV.i IntKind.i64 (↑i : Int)))), (10, V.c (C.p (PV.i IntKind.i64 (pickZ (decL decI L.length (rowP encI L)) ((↑i : Int) + 2) 100000)))), (12, V.c (C.ptr 1 0))] [AO.row 52 3 m fun e o => renC [0, 1] (rowC enc3 A e o), AO.cells 52 [C.p (PV.s (names4.getD (pickZ (decL decI L.length (rowP encI L)) ((↑i : Int) + 2) 100000 % 4).toNat default)), C.p (PV.i IntKind.i64 (pickZ (decL decI L.length (rowP encI L)) ((↑i : Int) + 2) 100000 / 4 % P)), C.p (PV.i IntKind.i64 (pickZ (decL decI L.length (rowP encI L)) ((↑i : Int) + 2) 100000 / 4 % P + 1 + pickZ (decL decI L.length (rowP encI L)) ((↑i : Int) + 2) 100000 / 64 % (P - pickZ (decL decI L.length (rowP encI L)) ((↑i : Int) + 2) 100000 / 4 % P)))]])))))))))))) := by kernel_rfl
theorem tRt4 (L : List Int) (d : Bool) (P n : Int) (A : List Sh) (m i : Nat) (x : Sh) : exTs ext0 (takeL 2 (dropL 3 (flat (inr (nth .skip (lpB (pcs Tryd.prog Tryd.f4) 5) 2))))) (cst 116 [(0, listV encI 1 L), (1, bV d), (6, iV P), (7, listV encS 1 names4), (8, .c (.sl 0 3 0 m)), (9, iV (i : Nat)), (10, iV n), (12, .c (.ptr 1 0))] [.row 52 3 m (rowC enc3 A), .cells 52 [.p (.s x.1), .p (.i .i64 x.2.1), .p (.i .i64 x.2.2)]]) (endG (msk 116 [0, 1, 6, 7, 8, 9, 10, 12]) (resOf Tryd.prog Tryd.f4)) = bT ((↑i : Int) == 0)
    (Tr.done X.normal
      (cst 116 [(0, V.c (C.p (PV.l 1 L.length (rowP encI L)))), (1, V.c (C.p (PV.b d))), (6, V.c (C.p (PV.i IntKind.i64 P))), (7, V.c (C.p (PV.l 1 4 (rowP encS names4)))), (8, V.c (C.sl 0 3 0 m)), (9, V.c (C.p (PV.i IntKind.i64 (↑i : Int)))), (10, V.c (C.p (PV.i IntKind.i64 n))), (12, V.c (C.ptr 1 0))] [AO.row 52 3 m fun e o => renC [0, 1] (rowC enc3 A e o), AO.cells 52 [C.p (PV.s x.fst), C.p (PV.i IntKind.i64 0), C.p (PV.i IntKind.i64 x.snd.snd)]]))
    (Tr.done X.normal
      (cst 116 [(0, V.c (C.p (PV.l 1 L.length (rowP encI L)))), (1, V.c (C.p (PV.b d))), (6, V.c (C.p (PV.i IntKind.i64 P))), (7, V.c (C.p (PV.l 1 4 (rowP encS names4)))), (8, V.c (C.sl 0 3 0 m)), (9, V.c (C.p (PV.i IntKind.i64 (↑i : Int)))), (10, V.c (C.p (PV.i IntKind.i64 n))), (12, V.c (C.ptr 1 0))] [AO.row 52 3 m fun e o => renC [0, 1] (rowC enc3 A e o), AO.cells 52 [C.p (PV.s x.fst), C.p (PV.i IntKind.i64 x.snd.fst), C.p (PV.i IntKind.i64 x.snd.snd)]])) := by kernel_rfl
theorem tRt5 (L : List Int) (d : Bool) (P n : Int) (A : List Sh) (m i : Nat) (x : Sh) : exTs ext0 (takeL 2 (dropL 5 (flat (inr (nth .skip (lpB (pcs Tryd.prog Tryd.f4) 5) 2))))) (cst 116 [(0, listV encI 1 L), (1, bV d), (6, iV P), (7, listV encS 1 names4), (8, .c (.sl 0 3 0 m)), (9, iV (i : Nat)), (10, iV n), (12, .c (.ptr 1 0))] [.row 52 3 m (rowC enc3 A), .cells 52 [.p (.s x.1), .p (.i .i64 x.2.1), .p (.i .i64 x.2.2)]]) (endG (msk 116 [0, 1, 6, 7, 8, 9, 10, 12]) (resOf Tryd.prog Tryd.f4)) = bT ((↑i : Int) == 0)
    (Tr.rq (0 ≤ n ∧ Int.ofNat 0 < Int.ofNat 3)
      (bT (decide (0 < n % 3))
        (Tr.done X.normal
          (cst 116 [(0, V.c (C.p (PV.l 1 L.length (rowP encI L)))), (1, V.c (C.p (PV.b d))), (6, V.c (C.p (PV.i IntKind.i64 P))), (7, V.c (C.p (PV.l 1 4 (rowP encS names4)))), (8, V.c (C.sl 0 3 0 m)), (9, V.c (C.p (PV.i IntKind.i64 (↑i : Int)))), (10, V.c (C.p (PV.i IntKind.i64 n))), (12, V.c (C.ptr 1 0))] [AO.row 52 3 m fun e o => renC [0, 1] (rowC enc3 A e o), AO.cells 52 [C.p (PV.s x.fst), C.p (PV.i IntKind.i64 x.snd.fst), C.p (PV.i IntKind.i64 P)]]))
        (Tr.done X.normal
          (cst 116 [(0, V.c (C.p (PV.l 1 L.length (rowP encI L)))), (1, V.c (C.p (PV.b d))), (6, V.c (C.p (PV.i IntKind.i64 P))), (7, V.c (C.p (PV.l 1 4 (rowP encS names4)))), (8, V.c (C.sl 0 3 0 m)), (9, V.c (C.p (PV.i IntKind.i64 (↑i : Int)))), (10, V.c (C.p (PV.i IntKind.i64 n))), (12, V.c (C.ptr 1 0))] [AO.row 52 3 m fun e o => renC [0, 1] (rowC enc3 A e o), AO.cells 52 [C.p (PV.s x.fst), C.p (PV.i IntKind.i64 x.snd.fst), C.p (PV.i IntKind.i64 x.snd.snd)]]))))
    (Tr.done X.normal
      (cst 116 [(0, V.c (C.p (PV.l 1 L.length (rowP encI L)))), (1, V.c (C.p (PV.b d))), (6, V.c (C.p (PV.i IntKind.i64 P))), (7, V.c (C.p (PV.l 1 4 (rowP encS names4)))), (8, V.c (C.sl 0 3 0 m)), (9, V.c (C.p (PV.i IntKind.i64 (↑i : Int)))), (10, V.c (C.p (PV.i IntKind.i64 n))), (12, V.c (C.ptr 1 0))] [AO.row 52 3 m fun e o => renC [0, 1] (rowC enc3 A e o), AO.cells 52 [C.p (PV.s x.fst), C.p (PV.i IntKind.i64 x.snd.fst), C.p (PV.i IntKind.i64 x.snd.snd)]])) := by kernel_rfl
theorem tRt6 (L : List Int) (d : Bool) (P n : Int) (A : List Sh) (m i : Nat) (x : Sh) : exTs ext0 (takeL 2 (dropL 7 (flat (inr (nth .skip (lpB (pcs Tryd.prog Tryd.f4) 5) 2))))) (cst 116 [(0, listV encI 1 L), (1, bV d), (6, iV P), (7, listV encS 1 names4), (8, .c (.sl 0 3 0 m)), (9, iV (i : Nat)), (10, iV n), (12, .c (.ptr 1 0))] [.row 52 3 m (rowC enc3 A), .cells 52 [.p (.s x.1), .p (.i .i64 x.2.1), .p (.i .i64 x.2.2)]]) (endG (msk 116 [0, 1, 6, 7, 8, 9, 10, 12]) (resOf Tryd.prog Tryd.f4)) = bT d
    (Tr.rq (0 ≤ n ∧ Int.ofNat 0 < Int.ofNat 1000 ∧ inR IntKind.i64 (n / 1000))
      (Tr.rq (0 ≤ n / 1000 ∧ Int.ofNat 0 < Int.ofNat 8)
        (bT (n / 1000 % 8 == 0)
          (Tr.rq (0 ≤ n ∧ Int.ofNat 0 < Int.ofNat 8000 ∧ inR IntKind.i64 (n / 8000))
            (Tr.rq (0 ≤ n / 8000 ∧ Int.ofNat 0 < Int.ofNat 3)
              (Tr.rq (inR IntKind.i64 (x.snd.fst - n / 8000 % 3))
                (Tr.done X.normal
                  (cst 116 [(0, V.c (C.p (PV.l 1 L.length (rowP encI L)))), (1, V.c (C.p (PV.b d))), (6, V.c (C.p (PV.i IntKind.i64 P))), (7, V.c (C.p (PV.l 1 4 (rowP encS names4)))), (8, V.c (C.sl 0 3 0 m)), (9, V.c (C.p (PV.i IntKind.i64 (↑i : Int)))), (10, V.c (C.p (PV.i IntKind.i64 n))), (12, V.c (C.ptr 1 0))] [AO.row 52 3 m fun e o => renC [0, 1] (rowC enc3 A e o), AO.cells 52 [C.p (PV.s x.fst), C.p (PV.i IntKind.i64 (x.snd.fst - n / 8000 % 3)), C.p (PV.i IntKind.i64 x.snd.snd)]])))))
          (Tr.done X.normal
            (cst 116 [(0, V.c (C.p (PV.l 1 L.length (rowP encI L)))), (1, V.c (C.p (PV.b d))), (6, V.c (C.p (PV.i IntKind.i64 P))), (7, V.c (C.p (PV.l 1 4 (rowP encS names4)))), (8, V.c (C.sl 0 3 0 m)), (9, V.c (C.p (PV.i IntKind.i64 (↑i : Int)))), (10, V.c (C.p (PV.i IntKind.i64 n))), (12, V.c (C.ptr 1 0))] [AO.row 52 3 m fun e o => renC [0, 1] (rowC enc3 A e o), AO.cells 52 [C.p (PV.s x.fst), C.p (PV.i IntKind.i64 x.snd.fst), C.p (PV.i IntKind.i64 x.snd.snd)]])))))
    (Tr.done X.normal
      (cst 116 [(0, V.c (C.p (PV.l 1 L.length (rowP encI L)))), (1, V.c (C.p (PV.b d))), (6, V.c (C.p (PV.i IntKind.i64 P))), (7, V.c (C.p (PV.l 1 4 (rowP encS names4)))), (8, V.c (C.sl 0 3 0 m)), (9, V.c (C.p (PV.i IntKind.i64 (↑i : Int)))), (10, V.c (C.p (PV.i IntKind.i64 n))), (12, V.c (C.ptr 1 0))] [AO.row 52 3 m fun e o => renC [0, 1] (rowC enc3 A e o), AO.cells 52 [C.p (PV.s x.fst), C.p (PV.i IntKind.i64 x.snd.fst), C.p (PV.i IntKind.i64 x.snd.snd)]])) := by kernel_rfl
theorem tRt7 (L : List Int) (d : Bool) (P n : Int) (A : List Sh) (m i : Nat) (x : Sh) : exTs ext0 (takeL 2 (dropL 9 (flat (inr (nth .skip (lpB (pcs Tryd.prog Tryd.f4) 5) 2))))) (cst 116 [(0, listV encI 1 L), (1, bV d), (6, iV P), (7, listV encS 1 names4), (8, .c (.sl 0 3 0 m)), (9, iV (i : Nat)), (10, iV n), (12, .c (.ptr 1 0))] [.row 52 3 m (rowC enc3 A), .cells 52 [.p (.s x.1), .p (.i .i64 x.2.1), .p (.i .i64 x.2.2)]]) (endG (msk 116 [0, 1, 6, 7, 8, 9, 10, 12]) (resOf Tryd.prog Tryd.f4)) = bT d
    (Tr.rq (0 ≤ n ∧ Int.ofNat 0 < Int.ofNat 1000 ∧ inR IntKind.i64 (n / 1000))
      (Tr.rq (0 ≤ n / 1000 ∧ Int.ofNat 0 < Int.ofNat 8)
        (bT (n / 1000 % 8 == 1)
          (Tr.rq (0 ≤ n ∧ Int.ofNat 0 < Int.ofNat 8000 ∧ inR IntKind.i64 (n / 8000))
            (Tr.rq (0 ≤ n / 8000 ∧ Int.ofNat 0 < Int.ofNat 3)
              (Tr.rq (inR IntKind.i64 (x.snd.snd + n / 8000 % 3))
                (Tr.rq (inR IntKind.i64 (x.snd.snd + n / 8000 % 3 - 1))
                  (Tr.done X.normal
                    (cst 116 [(0, V.c (C.p (PV.l 1 L.length (rowP encI L)))), (1, V.c (C.p (PV.b d))), (6, V.c (C.p (PV.i IntKind.i64 P))), (7, V.c (C.p (PV.l 1 4 (rowP encS names4)))), (8, V.c (C.sl 0 3 0 m)), (9, V.c (C.p (PV.i IntKind.i64 (↑i : Int)))), (10, V.c (C.p (PV.i IntKind.i64 n))), (12, V.c (C.ptr 1 0))] [AO.row 52 3 m fun e o => renC [0, 1] (rowC enc3 A e o), AO.cells 52 [C.p (PV.s x.fst), C.p (PV.i IntKind.i64 x.snd.fst), C.p (PV.i IntKind.i64 (x.snd.snd + n / 8000 % 3 - 1))]]))))))
          (Tr.done X.normal
            (cst 116 [(0, V.c (C.p (PV.l 1 L.length (rowP encI L)))), (1, V.c (C.p (PV.b d))), (6, V.c (C.p (PV.i IntKind.i64 P))), (7, V.c (C.p (PV.l 1 4 (rowP encS names4)))), (8, V.c (C.sl 0 3 0 m)), (9, V.c (C.p (PV.i IntKind.i64 (↑i : Int)))), (10, V.c (C.p (PV.i IntKind.i64 n))), (12, V.c (C.ptr 1 0))] [AO.row 52 3 m fun e o => renC [0, 1] (rowC enc3 A e o), AO.cells 52 [C.p (PV.s x.fst), C.p (PV.i IntKind.i64 x.snd.fst), C.p (PV.i IntKind.i64 x.snd.snd)]])))))
    (Tr.done X.normal
      (cst 116 [(0, V.c (C.p (PV.l 1 L.length (rowP encI L)))), (1, V.c (C.p (PV.b d))), (6, V.c (C.p (PV.i IntKind.i64 P))), (7, V.c (C.p (PV.l 1 4 (rowP encS names4)))), (8, V.c (C.sl 0 3 0 m)), (9, V.c (C.p (PV.i IntKind.i64 (↑i : Int)))), (10, V.c (C.p (PV.i IntKind.i64 n))), (12, V.c (C.ptr 1 0))] [AO.row 52 3 m fun e o => renC [0, 1] (rowC enc3 A e o), AO.cells 52 [C.p (PV.s x.fst), C.p (PV.i IntKind.i64 x.snd.fst), C.p (PV.i IntKind.i64 x.snd.snd)]])) := by kernel_rfl
theorem tRt8 (L : List Int) (d : Bool) (P n : Int) (A : List Sh) (m i : Nat) (x : Sh) : exTs ext0 (takeL 2 (dropL 11 (flat (inr (nth .skip (lpB (pcs Tryd.prog Tryd.f4) 5) 2))))) (cst 116 [(0, listV encI 1 L), (1, bV d), (6, iV P), (7, listV encS 1 names4), (8, .c (.sl 0 3 0 m)), (9, iV (i : Nat)), (10, iV n), (12, .c (.ptr 1 0))] [.row 52 3 m (rowC enc3 A), .cells 52 [.p (.s x.1), .p (.i .i64 x.2.1), .p (.i .i64 x.2.2)]]) (endG (msk 116 [0, 1, 6, 7, 8, 9, 10, 12]) (resOf Tryd.prog Tryd.f4)) = bT d
    (Tr.rq (0 ≤ n ∧ Int.ofNat 0 < Int.ofNat 1000 ∧ inR IntKind.i64 (n / 1000))
      (Tr.rq (0 ≤ n / 1000 ∧ Int.ofNat 0 < Int.ofNat 16)
        (bT (n / 1000 % 16 == 2)
          (Tr.done X.normal
            (cst 116 [(0, V.c (C.p (PV.l 1 L.length (rowP encI L)))), (1, V.c (C.p (PV.b d))), (6, V.c (C.p (PV.i IntKind.i64 P))), (7, V.c (C.p (PV.l 1 4 (rowP encS names4)))), (8, V.c (C.sl 0 3 0 m)), (9, V.c (C.p (PV.i IntKind.i64 (↑i : Int)))), (10, V.c (C.p (PV.i IntKind.i64 n))), (12, V.c (C.ptr 1 0))] [AO.row 52 3 m fun e o => renC [0, 1] (rowC enc3 A e o), AO.cells 52 [C.p (PV.s (ByteArray.mk #[65])), C.p (PV.i IntKind.i64 x.snd.fst), C.p (PV.i IntKind.i64 x.snd.snd)]]))
          (Tr.done X.normal
            (cst 116 [(0, V.c (C.p (PV.l 1 L.length (rowP encI L)))), (1, V.c (C.p (PV.b d))), (6, V.c (C.p (PV.i IntKind.i64 P))), (7, V.c (C.p (PV.l 1 4 (rowP encS names4)))), (8, V.c (C.sl 0 3 0 m)), (9, V.c (C.p (PV.i IntKind.i64 (↑i : Int)))), (10, V.c (C.p (PV.i IntKind.i64 n))), (12, V.c (C.ptr 1 0))] [AO.row 52 3 m fun e o => renC [0, 1] (rowC enc3 A e o), AO.cells 52 [C.p (PV.s x.fst), C.p (PV.i IntKind.i64 x.snd.fst), C.p (PV.i IntKind.i64 x.snd.snd)]])))))
    (Tr.done X.normal
      (cst 116 [(0, V.c (C.p (PV.l 1 L.length (rowP encI L)))), (1, V.c (C.p (PV.b d))), (6, V.c (C.p (PV.i IntKind.i64 P))), (7, V.c (C.p (PV.l 1 4 (rowP encS names4)))), (8, V.c (C.sl 0 3 0 m)), (9, V.c (C.p (PV.i IntKind.i64 (↑i : Int)))), (10, V.c (C.p (PV.i IntKind.i64 n))), (12, V.c (C.ptr 1 0))] [AO.row 52 3 m fun e o => renC [0, 1] (rowC enc3 A e o), AO.cells 52 [C.p (PV.s x.fst), C.p (PV.i IntKind.i64 x.snd.fst), C.p (PV.i IntKind.i64 x.snd.snd)]])) := by kernel_rfl
theorem tRt9 (L : List Int) (d : Bool) (P n : Int) (A : List Sh) (m i : Nat) (x : Sh) : exTs ext0 (dropL 13 (flat (inr (nth .skip (lpB (pcs Tryd.prog Tryd.f4) 5) 2)))) (cst 116 [(0, listV encI 1 L), (1, bV d), (6, iV P), (7, listV encS 1 names4), (8, .c (.sl 0 3 0 m)), (9, iV (i : Nat)), (10, iV n), (12, .c (.ptr 1 0))] [.row 52 3 m (rowC enc3 A), .cells 52 [.p (.s x.1), .p (.i .i64 x.2.1), .p (.i .i64 x.2.2)]]) (endG (msk 116 [0, 1, 6, 7, 8, 9]) (resOf Tryd.prog Tryd.f4)) = Tr.rq (m = m)
    (Tr.rq (1 ≤ 1)
      (Tr.rq
        ((m + 1) * 32 ≤ 140737488355328 ∧
          m + 1 ≤ 140737488355328 ∧ ∀ (e o : Nat), e < 1 → o < 3 → oneC (nth C.top [C.p (PV.s x.fst), C.p (PV.i IntKind.i64 x.snd.fst), C.p (PV.i IntKind.i64 x.snd.snd)] ((e + 0) * 3 + o)) = true)
        (Tr.done X.normal
          (cst 116 [(0, V.c (C.p (PV.l 1 L.length (rowP encI L)))), (1, V.c (C.p (PV.b d))), (6, V.c (C.p (PV.i IntKind.i64 P))), (7, V.c (C.p (PV.l 1 4 (rowP encS names4)))), (8, V.c (C.sl 0 3 0 (m + 1))), (9, V.c (C.p (PV.i IntKind.i64 (↑i : Int))))] [AO.row 52 3 (m + 1) fun e o => renC [3] (appF m (rowC enc3 A) (fun e o => nth C.top [C.p (PV.s x.fst), C.p (PV.i IntKind.i64 x.snd.fst), C.p (PV.i IntKind.i64 x.snd.snd)] ((e + 0) * 3 + o)) e o)])))) := by kernel_rfl
theorem tRt10 (L : List Int) (d : Bool) (P : Int) (A : List Sh) (m i : Nat) : exTs ext0 (dropL 3 (lpB (pcs Tryd.prog Tryd.f4) 5)) (cst 116 [(0, listV encI 1 L), (1, bV d), (6, iV P), (7, listV encS 1 names4), (8, .c (.sl 0 3 0 m)), (9, iV (i : Nat))] [.row 52 3 m (rowC enc3 A)]) (endG (msk 116 [0, 1, 6, 7, 8, 9]) (resOf Tryd.prog Tryd.f4)) = Tr.rq (inR IntKind.i64 ((↑i : Int) + 1))
    (Tr.done X.normal
      (cst 116 [(0, V.c (C.p (PV.l 1 L.length (rowP encI L)))), (1, V.c (C.p (PV.b d))), (6, V.c (C.p (PV.i IntKind.i64 P))), (7, V.c (C.p (PV.l 1 4 (rowP encS names4)))), (8, V.c (C.sl 0 3 0 m)), (9, V.c (C.p (PV.i IntKind.i64 ((↑i : Int) + 1))))] [AO.row 52 3 m fun e o => renC [0] (rowC enc3 A e o)])) := by kernel_rfl
theorem tRt11 (L : List Int) (d : Bool) (P : Int) (A : List Sh) (m i : Nat) : exTs extRo (dropL 6 (pcs Tryd.prog Tryd.f4)) (cst 116 [(0, listV encI 1 L), (1, bV d), (6, iV P), (7, listV encS 1 names4), (8, .c (.sl 0 3 0 m)), (9, iV (i : Nat))] [.row 52 3 m (rowC enc3 A)]) (endG [] (resOf Tryd.prog Tryd.f4)) = bT (!d)
    (Tr.rq (0 + m ≤ m ∧ ∀ (e o : Nat), e < m → o < 3 → isF (rowC enc3 A e o) = true)
      (Tr.rq ((IsL enc3 3 (decL dec3 m fun e o => unP (rowC enc3 A (e + 0) o)) m fun e o => unP (rowC enc3 A (e + 0) o)) ∧ m ≤ 1000000)
        (bT (rotaZ P (decL dec3 m fun e o => unP (rowC enc3 A (e + 0) o)) != 0)
          (Tr.rq (m = m)
            (Tr.rq (1 ≤ 1)
              (Tr.rq
                ((m + 1) * 32 ≤ 140737488355328 ∧
                  m + 1 ≤ 140737488355328 ∧
                    ∀ (e o : Nat), e < 1 → o < 3 → oneC (nth C.top [C.p (PV.s (ByteArray.mk #[101, 118, 101])), C.p (PV.i IntKind.i64 0), C.p (PV.i IntKind.i64 P)] ((e + 0) * 3 + o)) = true)
                (Tr.rq
                  (0 + (m + 1) ≤ m + 1 ∧
                    ∀ (e o : Nat),
                      e < m + 1 →
                        o < 3 →
                          isF (appF m (rowC enc3 A) (fun e o => nth C.top [C.p (PV.s (ByteArray.mk #[101, 118, 101])), C.p (PV.i IntKind.i64 0), C.p (PV.i IntKind.i64 P)] ((e + 0) * 3 + o)) (e + 0) o) =
                            true)
                  (Tr.done X.ret
                    (St.mk [V.t [V1.c (C.p (PV.i IntKind.i64 P)), V1.c (C.p (PV.l 3 (m + 1) fun e o => unP (appF m (rowC enc3 A) (fun e o => nth C.top [C.p (PV.s (ByteArray.mk #[101, 118, 101])), C.p (PV.i IntKind.i64 0), C.p (PV.i IntKind.i64 P)] ((e + 0) * 3 + o)) (e + 0) o)))]] []))))))
          (Tr.rq (0 + m ≤ m ∧ ∀ (e o : Nat), e < m → o < 3 → isF (rowC enc3 A (e + 0) o) = true)
            (Tr.done X.ret (St.mk [V.t [V1.c (C.p (PV.i IntKind.i64 P)), V1.c (C.p (PV.l 3 m fun e o => unP (rowC enc3 A (e + 0) o)))]] []))))))
    (Tr.rq (0 + m ≤ m ∧ ∀ (e o : Nat), e < m → o < 3 → isF (rowC enc3 A (e + 0) o) = true)
      (Tr.done X.ret (St.mk [V.t [V1.c (C.p (PV.i IntKind.i64 P)), V1.c (C.p (PV.l 3 m fun e o => unP (rowC enc3 A (e + 0) o)))]] []))) := by kernel_rfl
def eveS (P : Int) : Sh := (⟨#[101, 118, 101]⟩, 0, P)
theorem shF_eq (d : Bool) (P n : Int) (i : Nat) : shF d P n i = sh5 d n (sh4 d n (sh3 d n (sh2 i P n (sh1 i (shS P n))))) := rfl
theorem rotaS_succ (d : Bool) (L : List Int) (k : Nat) : rotaS d L (k + 1) = rotaS d L k ++ [shF d (rotaP L) (pickZ L ((k : Int) + 2) 100000) k] := by
  unfold rotaS; rw [List.range_succ, List.map_append]; rfl
theorem rotaS_length (d : Bool) (L : List Int) (k : Nat) : (rotaS d L k).length = k := by simp [rotaS]
theorem sh_at' (x : Sh) : ∀ o : Nat, o < 3 → (fun e o : Nat => nth C.top [C.p (PV.s x.1), C.p (PV.i .i64 x.2.1), C.p (PV.i .i64 x.2.2)] ((e + 0) * 3 + o)) 0 o = .p (enc3 x o) := by
  intro o ho
  have ho' : o = 0 ∨ o = 1 ∨ o = 2 := by omega
  rcases ho' with rfl | rfl | rfl <;> rfl
theorem sh_one' (x : Sh) : ∀ e o : Nat, e < 1 → o < 3 → oneC (nth C.top [C.p (PV.s x.1), C.p (PV.i .i64 x.2.1), C.p (PV.i .i64 x.2.2)] ((e + 0) * 3 + o)) = true := by
  intro e o he ho
  obtain rfl : e = 0 := by omega
  have ho' : o = 0 ∨ o = 1 ∨ o = 2 := by omega
  rcases ho' with rfl | rfl | rfl <;> rfl
theorem app_sh {A : List Sh} {x : Sh} {m : Nat} (hm : A.length = m) {e o : Nat} (he : e < m + 1) (ho : o < 3) : appF m (rowC enc3 A) (fun e o => nth C.top [C.p (PV.s x.1), C.p (PV.i .i64 x.2.1), C.p (PV.i .i64 x.2.2)] ((e + 0) * 3 + o)) e o = rowC enc3 (A ++ [x]) e o := by
  subst hm
  unfold appF
  by_cases h1 : e < A.length
  · rw [if_pos h1]; unfold rowC rowP; simp [List.getElem?_append_left h1]
  · obtain rfl : e = A.length := by omega
    rw [if_neg h1, Nat.sub_self]
    refine (sh_at' x o ho).trans ?_
    unfold rowC rowP; simp
section
variable {G : Nat → Option Obj}
theorem extRo_sound : SoundExt Tryd.prog G extRo := mutX_sound okValidRotaR.lift (extOf_sound (by simp; exact okPick))
set_option maxRecDepth 100000 in
set_option maxHeartbeats 2000000 in
theorem okRotaR : ModOK Tryd.prog G 4 mRotaR := by
  intro args p v hm hp h
  unfold mRotaR at hm
  split at hm; rotate_left; · cases hm
  rename_i n0 f d
  obtain ⟨rfl, rfl⟩ := some_pair hm
  obtain ⟨hL, hI⟩ := hp
  generalize decL decI n0 f = L at hL hI
  refine FnS.args (args' := [listV encI 1 L, bV d]) ?_ (.cons hL.le (.cons (.refl _) .nil))
  clear hL
  refine fn_S Tryd.func4 (by kernel_rfl) rfl ?_ h
  have hP := pickZ_range L 0 (m := 12) (by omega)
  have hK := pickZ_range L 1 (m := 6) (by omega)
  refine ExS.evG extRo_sound 5 (tRt1 L d) ?_
  simp only [holds_rq, holds_leaf, kf_normal, decI_row, isL_row, ofn_lt, true_and, inR]
  refine ⟨⟨hI, by decide⟩, by omega, ⟨?_⟩⟩
  have hPe : 1 + pickZ L 0 12 = rotaP L := rfl
  rw [hPe]
  have hP' : 1 ≤ rotaP L ∧ rotaP L ≤ 12 := by omega
  have hKe : ((rotaK L : Nat) : Int) = 1 + pickZ L 1 6 := by unfold rotaK; omega
  generalize hPP : rotaP L = P at hP'
  clear hP hPe
  have nm : ∀ e o : Nat, e < 4 → o < 1 → renC [0] (nth C.top [C.p (PV.s (ByteArray.mk #[97, 110, 110])), C.p (PV.s (ByteArray.mk #[98, 111, 98])), C.p (PV.s (ByteArray.mk #[99, 121])), C.p (PV.s (ByteArray.mk #[100, 97, 110]))] (e * 1 + o)) = .p (rowP encS names4 e o) := by
    intro e o he ho
    obtain rfl : o = 0 := by omega
    have he : e = 0 ∨ e = 1 ∨ e = 2 ∨ e = 3 := by omega
    rcases he with rfl | rfl | rfl | rfl <;> rfl
  refine ExS.pre ((weak_frzL (id := 0) (ty := 9) (sz := 1) (n := 4) (f := fun e o => renC [0] (nth C.top [C.p (PV.s (ByteArray.mk #[97, 110, 110])), C.p (PV.s (ByteArray.mk #[98, 111, 98])), C.p (PV.s (ByteArray.mk #[99, 121])), C.p (PV.s (ByteArray.mk #[100, 97, 110]))] (e * 1 + o))) (rowP encS names4) (by kernel_rfl) (fun e o he ho => by rw [nm e o he ho]; rfl) (fun e o he ho => by rw [nm e o he ho]; exact PLe.refl _) (ps := [(0, 4)]) (by kernel_rfl) (by simp)).trans (weak_gc (msk 116 [0, 1, 6, 7, 8, 9]) _)) ?_
  clear nm
  refine ExS.loop' (l := dropL 5 (pcs Tryd.prog Tryd.f4)) (b := inr (inr (nth .skip (pcs Tryd.prog Tryd.f4) 5))) (r := dropL 6 (pcs Tryd.prog Tryd.f4)) (id := 0) (by kernel_rfl) (σ := Nat)
    (fun i => (fun (A : List Sh) (m : Nat) => cst 116 [(0, listV encI 1 L), (1, bV d), (6, iV P), (7, listV encS 1 names4), (8, .c (.sl 0 3 0 m)), (9, iV (i : Nat))] [.row 52 3 m (rowC enc3 A)]) (rotaS d L i) (rotaS d L i).length) (fun i => i ≤ rotaK L) (fun i => rotaK L - i) 0 (Nat.zero_le _) ((weak_nil 52 3 (rowC enc3 []) 8 (by kernel_rfl)).trans (weak_of_eq (by kernel_rfl))) ?_
  intro i hi Q q1n q1e _
  have hlen := rotaS_length d L i
  have hk6 : rotaK L ≤ 6 := by omega
  refine ExS.evG extRo_sound 2 (tRt2 L d P (rotaS d L i) (rotaS d L i).length i) ?_
  simp only [holds_bT, holds_rq, holds_leaf, kf_normal, kf_exit, decI_row, isL_row, ofn_lt, true_and, inR, decide_eq_true_eq, decide_eq_false_iff_not]
  refine ⟨⟨hI, by decide⟩, by omega, fun h1 => ⟨?_⟩, fun h1 => ⟨q1e _ ?_⟩⟩
  rotate_left
  · obtain rfl : i = rotaK L := by omega
    refine ExS.evH extRo_sound (tRt11 L d P (rotaS d L (rotaK L)) (rotaS d L (rotaK L)).length (rotaK L)) ?_
    have hu : (fun e o => unP (rowC enc3 (rotaS d L (rotaK L)) (e + 0) o)) = rowP enc3 (rotaS d L (rotaK L)) := rfl
    simp only [holds_bT, holds_rq, holds_leaf, kf_ret', hu, dec3_row, isL_row, true_and, Bool.not_eq_true', Bool.not_eq_false', bne_iff_ne, bne_eq_false_iff_eq]
    have out : ∀ A : List Sh, A = rotaL d L → ∀ m, A.length = m → VLe (V.t [V1.c (C.p (PV.i IntKind.i64 P)), V1.c (C.p (PV.l 3 m (rowP enc3 A)))]) (.t [.c (.p (.i .i64 P)), .c (.p (listP enc3 3 (rotaL d L)))]) := fun A hA m hm => by
      subst hm; rw [← hA]; exact VLe.refl _
    have e0 : ¬ (d = false ∧ rotaZ P (rotaS d L (rotaK L)) ≠ 0) → rotaS d L (rotaK L) = rotaL d L := fun h => by unfold rotaL; rw [hPP, if_neg h]
    refine ⟨fun c1 => ⟨⟨by omega, fun _ _ _ _ => rfl⟩, by omega, fun c2 => ⟨Nat.le_refl _, ⟨by omega, by omega, sh_one' (⟨#[101, 118, 101]⟩, 0, P)⟩, ⟨by omega, fun e o he ho => ?_⟩, ⟨?_⟩⟩, fun c2 => ⟨⟨by omega, fun _ _ _ _ => rfl⟩, ⟨out _ (e0 (fun h => h.2 c2)) _ rfl⟩⟩⟩, fun c1 => ⟨⟨by omega, fun _ _ _ _ => rfl⟩, ⟨out _ (e0 (fun h => by rw [c1] at h; cases h.1)) _ rfl⟩⟩⟩
    · show isF (appF _ (rowC enc3 (rotaS d L (rotaK L))) (fun e o => nth C.top [C.p (PV.s (eveS P).1), C.p (PV.i .i64 (eveS P).2.1), C.p (PV.i .i64 (eveS P).2.2)] ((e + 0) * 3 + o)) e o) = true
      rw [app_sh rfl he ho]; rfl
    · refine fun β R w u hu => out (rotaS d L (rotaK L) ++ [eveS P]) ?_ ((rotaS d L (rotaK L)).length + 1) (by simp) β R w u (VLe.t (V1Les.cons (x := V1.c (C.p _)) (VLe.refl _) (V1Les.cons (x := V1.c (C.p (PV.l 3 _ _))) (v := V1.c (C.p (PV.l 3 _ (rowP enc3 (rotaS d L (rotaK L) ++ [eveS P]))))) (VLe.p (PLe.l fun e o he ho => ?_)) .nil)) β R w u hu)
      · unfold rotaL; rw [hPP, if_pos ⟨c1, c2⟩]; rfl
      · refine PLe.of_eq ?_
        show unP (appF _ (rowC enc3 (rotaS d L (rotaK L))) (fun e o => nth C.top [C.p (PV.s (eveS P).1), C.p (PV.i .i64 (eveS P).2.1), C.p (PV.i .i64 (eveS P).2.2)] ((e + 0) * 3 + o)) e o) = _
        rw [app_sh rfl he ho]; rfl
  have hn := pickZ_range L ((i : Int) + 2) (m := 100000) (by omega)
  have hS := rotaS_succ d L i
  rw [hPP] at hS
  refine ExS.blk' (l := dropL 2 (lpB (pcs Tryd.prog Tryd.f4) 5)) (id := 1) (a := inr (nth .skip (lpB (pcs Tryd.prog Tryd.f4) 5) 2)) (r := dropL 3 (lpB (pcs Tryd.prog Tryd.f4) 5)) (by kernel_rfl) ?_
  intro Q2 q2n q2e _
  have fin : ∀ st, WeakS G st ((fun (A : List Sh) (m : Nat) => cst 116 [(0, listV encI 1 L), (1, bV d), (6, iV P), (7, listV encS 1 names4), (8, .c (.sl 0 3 0 m)), (9, iV (i : Nat))] [.row 52 3 m (rowC enc3 A)]) (rotaS d L (i + 1)) (rotaS d L (i + 1)).length) → ExS Tryd.prog G (resOf Tryd.prog Tryd.f4) (.t [.c (.p (.i .i64 P)), .c (.p (listP enc3 3 (rotaL d L)))]) (dropL 3 (lpB (pcs Tryd.prog Tryd.f4) 5)) st Q := fun st hst => by
    refine ExS.pre hst (ExS.evH ext0_sound (tRt10 L d P (rotaS d L (i + 1)) (rotaS d L (i + 1)).length i) ?_)
    simp only [holds_rq, holds_leaf, kf_normal, inR]
    exact ⟨by omega, ⟨q1n (i + 1) _ (by omega) (by omega) (weak_of_eq (by kernel_rfl))⟩⟩
  generalize hz : pickZ L ((i : Int) + 2) 100000 = n at hn hS
  generalize hA : rotaS d L i = A at hS hlen
  generalize hW : rotaS d L (i + 1) = W at hS fin
  have p9 : ∀ x, x = shF d P n i → ∀ st, WeakS G st ((fun m => cst 116 [(0, listV encI 1 L), (1, bV d), (6, iV P), (7, listV encS 1 names4), (8, .c (.sl 0 3 0 m)), (9, iV (i : Nat)), (10, iV n), (12, .c (.ptr 1 0))] [.row 52 3 m (rowC enc3 A), .cells 52 [.p (.s x.1), .p (.i .i64 x.2.1), .p (.i .i64 x.2.2)]]) A.length) → ExS Tryd.prog G (resOf Tryd.prog Tryd.f4) (.t [.c (.p (.i .i64 P)), .c (.p (listP enc3 3 (rotaL d L)))]) (dropL 13 (flat (inr (nth .skip (lpB (pcs Tryd.prog Tryd.f4) 5) 2)))) st Q2 := fun x hx st hst => by
    refine ExS.pre hst (ExS.evH ext0_sound (tRt9 L d P n A A.length i x) ?_)
    simp only [holds_rq, holds_leaf, kf_normal]
    refine ⟨trivial, Nat.le_refl _, ⟨by omega, by omega, sh_one' x⟩, ⟨q2n _ (fin _ ?_)⟩⟩
    rw [hS, ← hx, show (A ++ [x]).length = A.length + 1 by simp]
    refine weak_cst ?_
    exact ⟨⟨rfl, rfl, rfl, fun e o he ho => app1' rfl (sh_at' x) he ho⟩, trivial⟩
  have hfs : ∀ x : Sh, inR .i64 x.2.1 → True := fun _ _ => trivial
  have p8 : ∀ x, sh5 d n x = shF d P n i → ∀ st, WeakS G st ((fun m => cst 116 [(0, listV encI 1 L), (1, bV d), (6, iV P), (7, listV encS 1 names4), (8, .c (.sl 0 3 0 m)), (9, iV (i : Nat)), (10, iV n), (12, .c (.ptr 1 0))] [.row 52 3 m (rowC enc3 A), .cells 52 [.p (.s x.1), .p (.i .i64 x.2.1), .p (.i .i64 x.2.2)]]) A.length) → ExS Tryd.prog G (resOf Tryd.prog Tryd.f4) (.t [.c (.p (.i .i64 P)), .c (.p (listP enc3 3 (rotaL d L)))]) (dropL 11 (flat (inr (nth .skip (lpB (pcs Tryd.prog Tryd.f4) 5) 2)))) st Q2 := fun x hx st hst => by
    refine ExS.pre hst (ExS.evG ext0_sound 2 (tRt8 L d P n A A.length i x) ?_)
    simp only [holds_bT, holds_rq, holds_leaf, kf_normal, ofn_lt, inR, beq_iff_eq, beq_eq_false_iff_ne]
    unfold sh5 at hx
    refine ⟨fun c1 => ⟨⟨by omega, by decide, by omega⟩, ⟨by omega, by decide⟩, fun c2 => ⟨p9 (⟨#[65]⟩, x.2.1, x.2.2) (by rw [if_pos ⟨c1, c2⟩] at hx; exact hx) _ (weak_of_eq (by kernel_rfl))⟩, fun c2 => ⟨p9 x (by rw [if_neg (fun h => c2 h.2)] at hx; exact hx) _ (weak_of_eq (by kernel_rfl))⟩⟩, fun c1 => ⟨p9 x (by rw [if_neg (fun h => by rw [c1] at h; cases h.1)] at hx; exact hx) _ (weak_of_eq (by kernel_rfl))⟩⟩
  have p7 : ∀ x : Sh, (-100 ≤ x.2.2 ∧ x.2.2 ≤ 100) → sh5 d n (sh4 d n x) = shF d P n i → ∀ st, WeakS G st ((fun m => cst 116 [(0, listV encI 1 L), (1, bV d), (6, iV P), (7, listV encS 1 names4), (8, .c (.sl 0 3 0 m)), (9, iV (i : Nat)), (10, iV n), (12, .c (.ptr 1 0))] [.row 52 3 m (rowC enc3 A), .cells 52 [.p (.s x.1), .p (.i .i64 x.2.1), .p (.i .i64 x.2.2)]]) A.length) → ExS Tryd.prog G (resOf Tryd.prog Tryd.f4) (.t [.c (.p (.i .i64 P)), .c (.p (listP enc3 3 (rotaL d L)))]) (dropL 9 (flat (inr (nth .skip (lpB (pcs Tryd.prog Tryd.f4) 5) 2)))) st Q2 := fun x hr hx st hst => by
    refine ExS.pre hst (ExS.evG ext0_sound 2 (tRt7 L d P n A A.length i x) ?_)
    simp only [holds_bT, holds_rq, holds_leaf, kf_normal, ofn_lt, inR, beq_iff_eq, beq_eq_false_iff_ne]
    unfold sh4 at hx
    have m3 : 0 ≤ n / 8000 % 3 ∧ n / 8000 % 3 < 3 := by omega
    refine ⟨fun c1 => ⟨⟨by omega, by decide, by omega⟩, ⟨by omega, by decide⟩, fun c2 => ⟨⟨by omega, by decide, by omega⟩, ⟨by omega, by decide⟩, by omega, by omega, ⟨p8 (x.1, x.2.1, x.2.2 + n / 8000 % 3 - 1) (by rw [if_pos ⟨c1, c2⟩] at hx; exact hx) _ (weak_of_eq (by kernel_rfl))⟩⟩, fun c2 => ⟨p8 x (by rw [if_neg (fun h => c2 h.2)] at hx; exact hx) _ (weak_of_eq (by kernel_rfl))⟩⟩, fun c1 => ⟨p8 x (by rw [if_neg (fun h => by rw [c1] at h; cases h.1)] at hx; exact hx) _ (weak_of_eq (by kernel_rfl))⟩⟩
  have p6 : ∀ x : Sh, (-100 ≤ x.2.1 ∧ x.2.1 ≤ 100) → (-100 ≤ x.2.2 ∧ x.2.2 ≤ 100) → sh5 d n (sh4 d n (sh3 d n x)) = shF d P n i → ∀ st, WeakS G st ((fun m => cst 116 [(0, listV encI 1 L), (1, bV d), (6, iV P), (7, listV encS 1 names4), (8, .c (.sl 0 3 0 m)), (9, iV (i : Nat)), (10, iV n), (12, .c (.ptr 1 0))] [.row 52 3 m (rowC enc3 A), .cells 52 [.p (.s x.1), .p (.i .i64 x.2.1), .p (.i .i64 x.2.2)]]) A.length) → ExS Tryd.prog G (resOf Tryd.prog Tryd.f4) (.t [.c (.p (.i .i64 P)), .c (.p (listP enc3 3 (rotaL d L)))]) (dropL 7 (flat (inr (nth .skip (lpB (pcs Tryd.prog Tryd.f4) 5) 2)))) st Q2 := fun x hr hr2 hx st hst => by
    refine ExS.pre hst (ExS.evG ext0_sound 2 (tRt6 L d P n A A.length i x) ?_)
    simp only [holds_bT, holds_rq, holds_leaf, kf_normal, ofn_lt, inR, beq_iff_eq, beq_eq_false_iff_ne]
    unfold sh3 at hx
    have m3 : 0 ≤ n / 8000 % 3 ∧ n / 8000 % 3 < 3 := by omega
    refine ⟨fun c1 => ⟨⟨by omega, by decide, by omega⟩, ⟨by omega, by decide⟩, fun c2 => ⟨⟨by omega, by decide, by omega⟩, ⟨by omega, by decide⟩, by omega, ⟨p7 (x.1, x.2.1 - n / 8000 % 3, x.2.2) hr2 (by rw [if_pos ⟨c1, c2⟩] at hx; exact hx) _ (weak_of_eq (by kernel_rfl))⟩⟩, fun c2 => ⟨p7 x hr2 (by rw [if_neg (fun h => c2 h.2)] at hx; exact hx) _ (weak_of_eq (by kernel_rfl))⟩⟩, fun c1 => ⟨p7 x hr2 (by rw [if_neg (fun h => by rw [c1] at h; cases h.1)] at hx; exact hx) _ (weak_of_eq (by kernel_rfl))⟩⟩
  have p5 : ∀ x : Sh, (-100 ≤ x.2.1 ∧ x.2.1 ≤ 100) → (-100 ≤ x.2.2 ∧ x.2.2 ≤ 100) → sh5 d n (sh4 d n (sh3 d n (sh2 i P n x))) = shF d P n i → ∀ st, WeakS G st ((fun m => cst 116 [(0, listV encI 1 L), (1, bV d), (6, iV P), (7, listV encS 1 names4), (8, .c (.sl 0 3 0 m)), (9, iV (i : Nat)), (10, iV n), (12, .c (.ptr 1 0))] [.row 52 3 m (rowC enc3 A), .cells 52 [.p (.s x.1), .p (.i .i64 x.2.1), .p (.i .i64 x.2.2)]]) A.length) → ExS Tryd.prog G (resOf Tryd.prog Tryd.f4) (.t [.c (.p (.i .i64 P)), .c (.p (listP enc3 3 (rotaL d L)))]) (dropL 5 (flat (inr (nth .skip (lpB (pcs Tryd.prog Tryd.f4) 5) 2)))) st Q2 := fun x hr hr2 hx st hst => by
    refine ExS.pre hst (ExS.evG ext0_sound 2 (tRt5 L d P n A A.length i x) ?_)
    simp only [holds_bT, holds_rq, holds_leaf, kf_normal, ofn_lt, inR, beq_iff_eq, beq_eq_false_iff_ne, decide_eq_true_eq, decide_eq_false_iff_not]
    unfold sh2 at hx
    refine ⟨fun c1 => ⟨⟨by omega, by decide⟩, fun c2 => ⟨p6 (x.1, x.2.1, P) hr (by show -100 ≤ P ∧ P ≤ 100; omega) (by rw [if_pos ⟨by omega, c2⟩] at hx; exact hx) _ (weak_of_eq (by kernel_rfl))⟩, fun c2 => ⟨p6 x hr hr2 (by rw [if_neg (fun h => c2 h.2)] at hx; exact hx) _ (weak_of_eq (by kernel_rfl))⟩⟩, fun c1 => ⟨p6 x hr hr2 (by rw [if_neg (fun h => c1 (by omega))] at hx; exact hx) _ (weak_of_eq (by kernel_rfl))⟩⟩
  have p4 : ∀ x : Sh, (-100 ≤ x.2.1 ∧ x.2.1 ≤ 100) → (-100 ≤ x.2.2 ∧ x.2.2 ≤ 100) → sh5 d n (sh4 d n (sh3 d n (sh2 i P n (sh1 i x)))) = shF d P n i → ∀ st, WeakS G st ((fun m => cst 116 [(0, listV encI 1 L), (1, bV d), (6, iV P), (7, listV encS 1 names4), (8, .c (.sl 0 3 0 m)), (9, iV (i : Nat)), (10, iV n), (12, .c (.ptr 1 0))] [.row 52 3 m (rowC enc3 A), .cells 52 [.p (.s x.1), .p (.i .i64 x.2.1), .p (.i .i64 x.2.2)]]) A.length) → ExS Tryd.prog G (resOf Tryd.prog Tryd.f4) (.t [.c (.p (.i .i64 P)), .c (.p (listP enc3 3 (rotaL d L)))]) (dropL 3 (flat (inr (nth .skip (lpB (pcs Tryd.prog Tryd.f4) 5) 2)))) st Q2 := fun x hr hr2 hx st hst => by
    refine ExS.pre hst (ExS.evG ext0_sound 2 (tRt4 L d P n A A.length i x) ?_)
    simp only [holds_bT, holds_rq, holds_leaf, kf_normal, ofn_lt, inR, beq_iff_eq, beq_eq_false_iff_ne]
    unfold sh1 at hx
    refine ⟨fun c1 => ⟨p5 (x.1, 0, x.2.2) (by show -100 ≤ (0 : Int) ∧ (0 : Int) ≤ 100; omega) hr2 (by rw [if_pos (by omega)] at hx; exact hx) _ (weak_of_eq (by kernel_rfl))⟩, fun c1 => ⟨p5 x hr hr2 (by rw [if_neg (by omega)] at hx; exact hx) _ (weak_of_eq (by kernel_rfl))⟩⟩
  refine ExS.evG extRo_sound 3 (tRt3 L d P A A.length i) ?_
  simp only [holds_rq, holds_leaf, kf_normal, decI_row, isL_row, ofn_lt, true_and, inR, hz]
  have f1 := Int.emod_nonneg (n / 4) (show P ≠ 0 by omega)
  have f2 := Int.emod_lt_of_pos (n / 4) (show 0 < P by omega)
  have u1 := Int.emod_nonneg (n / 64) (show P - n / 4 % P ≠ 0 by omega)
  have u2 := Int.emod_lt_of_pos (n / 64) (show 0 < P - n / 4 % P by omega)
  refine ⟨by omega, ⟨hI, by decide⟩, ⟨by omega, by decide, by omega⟩, ⟨by omega, by omega⟩, ⟨by omega, by decide⟩, ⟨by omega, by omega⟩, by omega, ⟨by omega, by decide, by omega⟩, by omega, ⟨by omega, by omega⟩, by omega, ⟨?_⟩⟩
  exact p4 (shS P n) (by show -100 ≤ n / 4 % P ∧ n / 4 % P ≤ 100; omega) (by show -100 ≤ n / 4 % P + 1 + n / 64 % (P - n / 4 % P) ∧ n / 4 % P + 1 + n / 64 % (P - n / 4 % P) ≤ 100; omega) rfl _ (weak_of_eq (by kernel_rfl))
end
end Go.AE
