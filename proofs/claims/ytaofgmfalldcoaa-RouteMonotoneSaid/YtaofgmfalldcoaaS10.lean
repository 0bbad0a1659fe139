/- AE contracts: ref29.Acyclic, ref29.Any. -/
import Derived.Test.YtaofgmfalldcoaaS9
namespace Go.AE
open Go.Proofs Go.Proofs.Ytaofgmfalldcoaa
set_option linter.unusedVariables false
set_option linter.unusedSimpArgs false

def acStep (N t n : Int) (E : List Ed) : List Ed :=
  if n % N = n / N % N then E else
    if ((min (n % N) (n / N % N) + t) % N, (max (n % N) (n / N % N) + t) % N) ∈ E then E else E ++ [((min (n % N) (n / N % N) + t) % N, (max (n % N) (n / N % N) + t) % N)]
def acN (L : List Int) : Int := pickZ L 0 9
def acE (L : List Int) : Nat → List Ed
  | 0 => []
  | k + 1 => acStep (acN L) (pickZ L 1 8) (pickZ L ((k : Int) + 2) 10000) (acE L k)
def acK (L : List Int) : Nat := if 1 < acN L then min (L.length - 2) 12 else 0
def acG (L : List Int) : List Ed := acE L (acK L)
def anyE (L : List Int) : List Ed :=
  if pickZ L (L.length - 1) 1000 % 3 = 0 then acG L ++ [(pickZ L (L.length - 1) 1000 / 3 % 9 - 1, pickZ L (L.length - 1) 1000 / 27 % 10 - 1)]
  else if pickZ L (L.length - 1) 1000 % 3 = 1 ∧ 0 < (acG L).length then
    acG L ++ [if pickZ L (L.length - 1) 1000 % 2 = 1 then (((acG L).getD (pickZ L (L.length - 1) 1000 / 3 % (acG L).length).toNat default).2, ((acG L).getD (pickZ L (L.length - 1) 1000 / 3 % (acG L).length).toNat default).1) else (acG L).getD (pickZ L (L.length - 1) 1000 / 3 % (acG L).length).toNat default]
  else acG L
def mAcyclic : Mod
  | [.c (.p (.l 1 n f))] => some (IsL encI 1 (decL decI n f) n f ∧ Ints (decL decI n f), gZ (acN (decL decI n f)) (acG (decL decI n f)))
  | _ => none
def mAcyclicH : ModH
  | [.c (.p (.l 1 n f))], h => some (IsL encI 1 (decL decI n f) n f ∧ Ints (decL decI n f), .a [.p (.i .i64 (acN (decL decI n f))), .sl (lenL h) 2 0 (acG (decL decI n f)).length], snoc (.row 27 2 (acG (decL decI n f)).length fun e o => .p (rowP encE (acG (decL decI n f)) e o)) h)
  | _, _ => none
def mAny : Mod
  | [.c (.p (.l 1 n f))] => some ((IsL encI 1 (decL decI n f) n f ∧ Ints (decL decI n f)) ∧ n ≤ 9223372036854775807, gZ (acN (decL decI n f)) (anyE (decL decI n f)))
  | _ => none
def extP : Ext := extOf [(29, mPick)]
def extPA : Ext := extH [(29, liftM mPick), (20, mAcyclicH)]

theorem tA1 (rs : List AR) (L : List Int) : exTs extP (takeL 4 (pcs Try.prog Try.f20)) (st0 Try.f20 [listV encI 1 L]) (endG (msk 92 [0, 2, 3, 4, 5]) rs) = Tr.rq (IsL encI 1 (decL decI L.length (rowP encI L)) L.length (rowP encI L) ∧ Ints (decL decI L.length (rowP encI L)) ∧ Int.ofNat 0 < Int.ofNat 9)
    (Tr.rq (IsL encI 1 (decL decI L.length (rowP encI L)) L.length (rowP encI L) ∧ Ints (decL decI L.length (rowP encI L)) ∧ Int.ofNat 0 < Int.ofNat 8)
      (Tr.done X.normal
        (cst 92 [(0, V.c (C.p (PV.l 1 L.length (rowP encI L)))), (2, V.c (C.ptr 0 0)), (3, V.c (C.ptr 1 0)), (4, V.c (C.p (PV.i IntKind.i64 (pickZ (decL decI L.length (rowP encI L)) 1 8)))), (5, V.c (C.p (PV.i IntKind.i64 2)))] [AO.cells 25 [C.p (PV.i IntKind.i64 0), C.p (PV.z (Value.slice none 0 0))], AO.cells 25 [C.p (PV.i IntKind.i64 (pickZ (decL decI L.length (rowP encI L)) 0 9)), C.p (PV.z (Value.slice none 0 0))]]))) := by kernel_rfl
theorem tA2 (rs : List AR) (L : List Int) (N t i : Int) (m : Nat) (E : List Ed) : exTs ext0 (takeL 2 (lpB (pcs Try.prog Try.f20) 4)) (cst 92 [(0, listV encI 1 L), (2, .c (.ptr 0 0)), (3, .c (.ptr 1 0)), (4, iV t), (5, iV i)] [.cells 25 [.p (.i .i64 0), .p (.z (.slice none 0 0))], .cells 25 [.p (.i .i64 N), .sl 2 2 0 m], .row 27 2 m (rowC encE E)]) (endG (msk 92 [0, 2, 3, 4, 5]) rs) = bT (decide (i < (↑L.length : Int)))
    (bT (decide (i < 14))
      (bT (decide (1 < N))
        (Tr.done X.normal
          (cst 92 [(0, V.c (C.p (PV.l 1 L.length (rowP encI L)))), (2, V.c (C.ptr 0 0)), (3, V.c (C.ptr 1 0)), (4, V.c (C.p (PV.i IntKind.i64 t))), (5, V.c (C.p (PV.i IntKind.i64 i)))] [AO.cells 25 [C.p (PV.i IntKind.i64 0), C.p (PV.z (Value.slice none 0 0))], AO.cells 25 [C.p (PV.i IntKind.i64 N), C.sl 2 2 0 m], AO.row 27 2 m fun e o => renC [0, 1, 2] (rowC encE E e o)]))
        (Tr.done (X.exit 0)
          (cst 92 [(0, V.c (C.p (PV.l 1 L.length (rowP encI L)))), (2, V.c (C.ptr 0 0)), (3, V.c (C.ptr 1 0)), (4, V.c (C.p (PV.i IntKind.i64 t))), (5, V.c (C.p (PV.i IntKind.i64 i)))] [AO.cells 25 [C.p (PV.i IntKind.i64 0), C.p (PV.z (Value.slice none 0 0))], AO.cells 25 [C.p (PV.i IntKind.i64 N), C.sl 2 2 0 m], AO.row 27 2 m fun e o => renC [0, 1, 2] (rowC encE E e o)])))
      (Tr.done (X.exit 0)
        (cst 92 [(0, V.c (C.p (PV.l 1 L.length (rowP encI L)))), (2, V.c (C.ptr 0 0)), (3, V.c (C.ptr 1 0)), (4, V.c (C.p (PV.i IntKind.i64 t))), (5, V.c (C.p (PV.i IntKind.i64 i)))] [AO.cells 25 [C.p (PV.i IntKind.i64 0), C.p (PV.z (Value.slice none 0 0))], AO.cells 25 [C.p (PV.i IntKind.i64 N), C.sl 2 2 0 m], AO.row 27 2 m fun e o => renC [0, 1, 2] (rowC encE E e o)])))
    (Tr.done (X.exit 0)
      (cst 92 [(0, V.c (C.p (PV.l 1 L.length (rowP encI L)))), (2, V.c (C.ptr 0 0)), (3, V.c (C.ptr 1 0)), (4, V.c (C.p (PV.i IntKind.i64 t))), (5, V.c (C.p (PV.i IntKind.i64 i)))] [AO.cells 25 [C.p (PV.i IntKind.i64 0), C.p (PV.z (Value.slice none 0 0))], AO.cells 25 [C.p (PV.i IntKind.i64 N), C.sl 2 2 0 m], AO.row 27 2 m fun e o => renC [0, 1, 2] (rowC encE E e o)])) := by kernel_rfl
theorem tA3 (rs : List AR) (L : List Int) (N t i : Int) (m : Nat) (E : List Ed) : exTs extP (takeL 8 (flat (inr (nth .skip (lpB (pcs Try.prog Try.f20) 4) 2)))) (cst 92 [(0, listV encI 1 L), (2, .c (.ptr 0 0)), (3, .c (.ptr 1 0)), (4, iV t), (5, iV i)] [.cells 25 [.p (.i .i64 0), .p (.z (.slice none 0 0))], .cells 25 [.p (.i .i64 N), .sl 2 2 0 m], .row 27 2 m (rowC encE E)]) (endG (msk 92 [0, 2, 3, 4, 5, 9, 10, 11]) rs) = Tr.rq (IsL encI 1 (decL decI L.length (rowP encI L)) L.length (rowP encI L) ∧ Ints (decL decI L.length (rowP encI L)) ∧ Int.ofNat 0 < Int.ofNat 10000)
    (Tr.rq (0 ≤ pickZ (decL decI L.length (rowP encI L)) i 10000 ∧ 0 < N)
      (Tr.rq (0 ≤ pickZ (decL decI L.length (rowP encI L)) i 10000 ∧ 0 < N ∧ inR IntKind.i64 (pickZ (decL decI L.length (rowP encI L)) i 10000 / N))
        (Tr.rq (0 ≤ pickZ (decL decI L.length (rowP encI L)) i 10000 / N ∧ 0 < N)
          (bT (pickZ (decL decI L.length (rowP encI L)) i 10000 % N == pickZ (decL decI L.length (rowP encI L)) i 10000 / N % N)
            (Tr.done (X.exit 1)
              (cst 92 [(0, V.c (C.p (PV.l 1 L.length (rowP encI L)))), (2, V.c (C.ptr 0 0)), (3, V.c (C.ptr 1 0)), (4, V.c (C.p (PV.i IntKind.i64 t))), (5, V.c (C.p (PV.i IntKind.i64 i)))] [AO.cells 25 [C.p (PV.i IntKind.i64 0), C.p (PV.z (Value.slice none 0 0))], AO.cells 25 [C.p (PV.i IntKind.i64 N), C.sl 2 2 0 m], AO.row 27 2 m fun e o => renC [0, 1, 2] (rowC encE E e o)]))
            (Tr.rq
              (inR IntKind.i64
                ((if pickZ (decL decI L.length (rowP encI L)) i 10000 / N % N < pickZ (decL decI L.length (rowP encI L)) i 10000 % N then pickZ (decL decI L.length (rowP encI L)) i 10000 / N % N
                  else pickZ (decL decI L.length (rowP encI L)) i 10000 % N) +
                  t))
              (Tr.rq
                (0 ≤
                    (if pickZ (decL decI L.length (rowP encI L)) i 10000 / N % N < pickZ (decL decI L.length (rowP encI L)) i 10000 % N then pickZ (decL decI L.length (rowP encI L)) i 10000 / N % N
                      else pickZ (decL decI L.length (rowP encI L)) i 10000 % N) +
                      t ∧
                  0 < N)
                (Tr.rq
                  (inR IntKind.i64
                    ((if pickZ (decL decI L.length (rowP encI L)) i 10000 % N < pickZ (decL decI L.length (rowP encI L)) i 10000 / N % N then pickZ (decL decI L.length (rowP encI L)) i 10000 / N % N
                      else pickZ (decL decI L.length (rowP encI L)) i 10000 % N) +
                      t))
                  (Tr.rq
                    (0 ≤
                        (if pickZ (decL decI L.length (rowP encI L)) i 10000 % N < pickZ (decL decI L.length (rowP encI L)) i 10000 / N % N then pickZ (decL decI L.length (rowP encI L)) i 10000 / N % N
                          else pickZ (decL decI L.length (rowP encI L)) i 10000 % N) +
                          t ∧
                      0 < N)
                    (Tr.done X.normal
                      (cst 92 [(0, V.c (C.p (PV.l 1 L.length (rowP encI L)))), (2, V.c (C.ptr 0 0)), (3, V.c (C.ptr 1 0)), (4, V.c (C.p (PV.i IntKind.i64 t))), (5, V.c (C.p (PV.i IntKind.i64 i))), (9, V.c (C.ptr 2 0)), (10, V.c (C.p (PV.b false))), (11, V.c (C.p (PV.i IntKind.i64 0)))] [AO.cells 25 [C.p (PV.i IntKind.i64 0), C.p (PV.z (Value.slice none 0 0))], AO.cells 25 [C.p (PV.i IntKind.i64 N), C.sl 3 2 0 m], AO.cells 27 [C.p (PV.i IntKind.i64 (((if pickZ (decL decI L.length (rowP encI L)) i 10000 / N % N < pickZ (decL decI L.length (rowP encI L)) i 10000 % N then pickZ (decL decI L.length (rowP encI L)) i 10000 / N % N else pickZ (decL decI L.length (rowP encI L)) i 10000 % N) + t) % N)), C.p (PV.i IntKind.i64 (((if pickZ (decL decI L.length (rowP encI L)) i 10000 % N < pickZ (decL decI L.length (rowP encI L)) i 10000 / N % N then pickZ (decL decI L.length (rowP encI L)) i 10000 / N % N else pickZ (decL decI L.length (rowP encI L)) i 10000 % N) + t) % N))], AO.row 27 2 m fun e o => renC [0, 1, 3, 2] (rowC encE E e o)])))))))))) := by kernel_rfl
theorem tA4 (rs : List AR) (L : List Int) (N t i a b : Int) (m k : Nat) (kn : Bool) (E : List Ed) : exTs ext0 (lpB (flat (inr (nth .skip (lpB (pcs Try.prog Try.f20) 4) 2))) 8) (cst 92 [(0, listV encI 1 L), (2, .c (.ptr 0 0)), (3, .c (.ptr 1 0)), (4, iV t), (5, iV i), (9, .c (.ptr 2 0)), (10, bV kn), (11, iV (k : Nat))] [.cells 25 [.p (.i .i64 0), .p (.z (.slice none 0 0))], .cells 25 [.p (.i .i64 N), .sl 3 2 0 m], .cells 27 [.p (.i .i64 a), .p (.i .i64 b)], .row 27 2 m (rowC encE E)]) (endG (msk 92 [0, 2, 3, 4, 5, 9, 10, 11]) rs) = bT (decide ((↑k : Int) < (↑m : Int)))
    (bT kn
      (Tr.rq (inR IntKind.i64 ((↑k : Int) + 1))
        (Tr.done X.normal
          (cst 92 [(0, V.c (C.p (PV.l 1 L.length (rowP encI L)))), (2, V.c (C.ptr 0 0)), (3, V.c (C.ptr 1 0)), (4, V.c (C.p (PV.i IntKind.i64 t))), (5, V.c (C.p (PV.i IntKind.i64 i))), (9, V.c (C.ptr 2 0)), (10, V.c (C.p (PV.b true))), (11, V.c (C.p (PV.i IntKind.i64 ((↑k : Int) + 1))))] [AO.cells 25 [C.p (PV.i IntKind.i64 0), C.p (PV.z (Value.slice none 0 0))], AO.cells 25 [C.p (PV.i IntKind.i64 N), C.sl 3 2 0 m], AO.cells 27 [C.p (PV.i IntKind.i64 a), C.p (PV.i IntKind.i64 b)], AO.row 27 2 m fun e o => renC [0, 1, 2, 3] (rowC encE E e o)])))
      (Tr.rq (0 ≤ (↑k : Int) ∧ (↑k : Int) < (↑m : Int))
        (Tr.rq ((↑k : Int).toNat + 0 < m)
          (Tr.rq (inR IntKind.i64 ((↑k : Int) + 1))
            (Tr.done X.normal
              (cst 92 [(0, V.c (C.p (PV.l 1 L.length (rowP encI L)))), (2, V.c (C.ptr 0 0)), (3, V.c (C.ptr 1 0)), (4, V.c (C.p (PV.i IntKind.i64 t))), (5, V.c (C.p (PV.i IntKind.i64 i))), (9, V.c (C.ptr 2 0)), (10, V.c (C.p (PV.b (match false with | true => !((E.getD ((↑k : Int).toNat + 0) default).fst == a && ((E.getD ((↑k : Int).toNat + 0) default).snd == b && true)) | false => (E.getD ((↑k : Int).toNat + 0) default).fst == a && ((E.getD ((↑k : Int).toNat + 0) default).snd == b && true))))), (11, V.c (C.p (PV.i IntKind.i64 ((↑k : Int) + 1))))] [AO.cells 25 [C.p (PV.i IntKind.i64 0), C.p (PV.z (Value.slice none 0 0))], AO.cells 25 [C.p (PV.i IntKind.i64 N), C.sl 3 2 0 m], AO.cells 27 [C.p (PV.i IntKind.i64 a), C.p (PV.i IntKind.i64 b)], AO.row 27 2 m fun e o => renC [0, 1, 2, 3] (rowC encE E e o)]))))))
    (Tr.done (X.exit 2)
      (cst 92 [(0, V.c (C.p (PV.l 1 L.length (rowP encI L)))), (2, V.c (C.ptr 0 0)), (3, V.c (C.ptr 1 0)), (4, V.c (C.p (PV.i IntKind.i64 t))), (5, V.c (C.p (PV.i IntKind.i64 i))), (9, V.c (C.ptr 2 0)), (10, V.c (C.p (PV.b kn))), (11, V.c (C.p (PV.i IntKind.i64 (↑k : Int))))] [AO.cells 25 [C.p (PV.i IntKind.i64 0), C.p (PV.z (Value.slice none 0 0))], AO.cells 25 [C.p (PV.i IntKind.i64 N), C.sl 3 2 0 m], AO.cells 27 [C.p (PV.i IntKind.i64 a), C.p (PV.i IntKind.i64 b)], AO.row 27 2 m fun e o => renC [0, 1, 2, 3] (rowC encE E e o)])) := by kernel_rfl
theorem tA5 (rs : List AR) (L : List Int) (N t i a b : Int) (m k : Nat) (kn : Bool) (E : List Ed) : exTs ext0 (dropL 9 (flat (inr (nth .skip (lpB (pcs Try.prog Try.f20) 4) 2)))) (cst 92 [(0, listV encI 1 L), (2, .c (.ptr 0 0)), (3, .c (.ptr 1 0)), (4, iV t), (5, iV i), (9, .c (.ptr 2 0)), (10, bV kn), (11, iV (k : Nat))] [.cells 25 [.p (.i .i64 0), .p (.z (.slice none 0 0))], .cells 25 [.p (.i .i64 N), .sl 3 2 0 m], .cells 27 [.p (.i .i64 a), .p (.i .i64 b)], .row 27 2 m (rowC encE E)]) (endG (msk 92 [0, 2, 3, 4, 5]) rs) = bT (!kn)
    (Tr.rq (m = m)
      (Tr.rq (1 ≤ 1)
        (Tr.rq ((m + 1) * 16 ≤ 140737488355328 ∧ m + 1 ≤ 140737488355328 ∧ ∀ (e o : Nat), e < 1 → o < 2 → oneC (nth C.top [C.p (PV.i IntKind.i64 a), C.p (PV.i IntKind.i64 b)] ((e + 0) * 2 + o)) = true)
          (Tr.done X.normal
            (cst 92 [(0, V.c (C.p (PV.l 1 L.length (rowP encI L)))), (2, V.c (C.ptr 0 0)), (3, V.c (C.ptr 1 0)), (4, V.c (C.p (PV.i IntKind.i64 t))), (5, V.c (C.p (PV.i IntKind.i64 i)))] [AO.cells 25 [C.p (PV.i IntKind.i64 0), C.p (PV.z (Value.slice none 0 0))], AO.cells 25 [C.p (PV.i IntKind.i64 N), C.sl 2 2 0 (m + 1)], AO.row 27 2 (m + 1) fun e o => renC [0, 1, 5] (appF m (rowC encE E) (fun e o => nth C.top [C.p (PV.i IntKind.i64 a), C.p (PV.i IntKind.i64 b)] ((e + 0) * 2 + o)) e o)])))))
    (Tr.done X.normal
      (cst 92 [(0, V.c (C.p (PV.l 1 L.length (rowP encI L)))), (2, V.c (C.ptr 0 0)), (3, V.c (C.ptr 1 0)), (4, V.c (C.p (PV.i IntKind.i64 t))), (5, V.c (C.p (PV.i IntKind.i64 i)))] [AO.cells 25 [C.p (PV.i IntKind.i64 0), C.p (PV.z (Value.slice none 0 0))], AO.cells 25 [C.p (PV.i IntKind.i64 N), C.sl 2 2 0 m], AO.row 27 2 m fun e o => renC [0, 1, 3] (rowC encE E e o)])) := by kernel_rfl
theorem tA6 (rs : List AR) (L : List Int) (N t i : Int) (m : Nat) (E : List Ed) : exTs ext0 (dropL 3 (lpB (pcs Try.prog Try.f20) 4)) (cst 92 [(0, listV encI 1 L), (2, .c (.ptr 0 0)), (3, .c (.ptr 1 0)), (4, iV t), (5, iV i)] [.cells 25 [.p (.i .i64 0), .p (.z (.slice none 0 0))], .cells 25 [.p (.i .i64 N), .sl 2 2 0 m], .row 27 2 m (rowC encE E)]) (endG (msk 92 [0, 2, 3, 4, 5]) rs) = Tr.rq (inR IntKind.i64 (i + 1))
    (Tr.done X.normal
      (cst 92 [(0, V.c (C.p (PV.l 1 L.length (rowP encI L)))), (2, V.c (C.ptr 0 0)), (3, V.c (C.ptr 1 0)), (4, V.c (C.p (PV.i IntKind.i64 t))), (5, V.c (C.p (PV.i IntKind.i64 (i + 1))))] [AO.cells 25 [C.p (PV.i IntKind.i64 0), C.p (PV.z (Value.slice none 0 0))], AO.cells 25 [C.p (PV.i IntKind.i64 N), C.sl 2 2 0 m], AO.row 27 2 m fun e o => renC [0, 1, 2] (rowC encE E e o)])) := by kernel_rfl
theorem tA7 (L : List Int) (N t i : Int) (m : Nat) (E : List Ed) : exTs ext0 (dropL 5 (pcs Try.prog Try.f20)) (cst 92 [(0, listV encI 1 L), (2, .c (.ptr 0 0)), (3, .c (.ptr 1 0)), (4, iV t), (5, iV i)] [.cells 25 [.p (.i .i64 0), .p (.z (.slice none 0 0))], .cells 25 [.p (.i .i64 N), .sl 2 2 0 m], .row 27 2 m (rowC encE E)]) (endG [] (resOf Try.prog Try.f20)) = Tr.rq (0 + m ≤ m ∧ ∀ (e o : Nat), e < m → o < 2 → isF (rowC encE E (e + 0) o) = true) (Tr.done X.ret (St.mk [V.a [C.p (PV.i IntKind.i64 N), C.p (PV.l 2 m fun e o => unP (rowC encE E (e + 0) o))]] [])) := by kernel_rfl
theorem tA8 (L : List Int) (N t i : Int) (m : Nat) (E : List Ed) : exTs ext0 (takeL 1 (dropL 5 (pcs Try.prog Try.f20))) (cst 92 [(0, listV encI 1 L), (2, .c (.ptr 0 0)), (3, .c (.ptr 1 0)), (4, iV t), (5, iV i)] [.cells 25 [.p (.i .i64 0), .p (.z (.slice none 0 0))], .cells 25 [.p (.i .i64 N), .sl 2 2 0 m], .row 27 2 m (rowC encE E)]) (endG (msk 92 [2]) []) = Tr.done X.normal
    (cst 92 [(2, V.c (C.ptr 0 0))] [AO.cells 25 [C.p (PV.i IntKind.i64 N), C.sl 1 2 0 m], AO.row 27 2 m fun e o => renC [0, 2] (rowC encE E e o)]) := by kernel_rfl
theorem aroundZ_range {n m : Int} (hm : 0 < m) : 0 ≤ aroundZ n m ∧ aroundZ n m < m := ⟨Int.emod_nonneg _ (by omega), Int.emod_lt_of_pos _ hm⟩
theorem pickZ_range (L : List Int) (i : Int) {m : Int} (hm : 0 < m) : 0 ≤ pickZ L i m ∧ pickZ L i m < m := by
  unfold pickZ
  split
  · omega
  · exact aroundZ_range hm
theorem acE_length (L : List Int) : ∀ k, (acE L k).length ≤ k
  | 0 => Nat.le_refl _
  | k + 1 => by
    have := acE_length L k
    unfold acE acStep
    split
    · omega
    · split
      · omega
      · simp; omega
theorem acG_length (L : List Int) : (acG L).length ≤ 12 := by
  refine Nat.le_trans (acE_length L _) ?_
  unfold acK
  split <;> omega
theorem edge_one (a b : Int) : ∀ e o : Nat, e < 1 → o < 2 → oneC (nth C.top [C.p (PV.i .i64 a), C.p (PV.i .i64 b)] ((e + 0) * 2 + o)) = true := by
  intro e o he ho
  obtain rfl : e = 0 := by omega
  have ho' : o = 0 ∨ o = 1 := by omega
  rcases ho' with rfl | rfl <;> rfl
theorem edge_at (a b : Int) : ∀ o : Nat, o < 2 → (fun e o : Nat => nth C.top [C.p (PV.i .i64 a), C.p (PV.i .i64 b)] ((e + 0) * 2 + o)) 0 o = .p (encE (a, b) o) := by
  intro o ho
  have ho' : o = 0 ∨ o = 1 := by omega
  rcases ho' with rfl | rfl <;> rfl
theorem if_min (a b : Int) : (if b < a then b else a) = min a b := by rw [Int.min_def]; split <;> split <;> omega
theorem if_max (a b : Int) : (if a < b then b else a) = max a b := by rw [Int.max_def]; split <;> split <;> omega
theorem mem_take_succ {E : List Ed} {k : Nat} (hk : k < E.length) {x : Ed} : x ∈ E.take (k + 1) ↔ x ∈ E.take k ∨ E.getD k default = x := by
  have e : E.getD k default = E[k] := by rw [List.getD_eq_getElem?_getD, List.getElem?_eq_getElem hk]; rfl
  rw [List.take_add_one, List.getElem?_eq_getElem hk, e, List.mem_append]
  simp only [Option.toList, List.mem_singleton, eq_comm]
section
variable {G : Nat → Option Obj}
theorem extP_sound : SoundExt Try.prog G extP := extOf_sound (by simp; exact okPick)
set_option maxRecDepth 100000 in
theorem acCore (rs : List AR) (v : V) (Q : X → St → Prop) (L : List Int) (hI : Ints L) (r : List ACode) (hr : r = dropL 5 (pcs Try.prog Try.f20) ∨ r = takeL 1 (dropL 5 (pcs Try.prog Try.f20)))
    (h : ∀ (i : Int) (st : St), st = (fun (N t : Int) (E : List Ed) (m : Nat) => cst 92 [(0, listV encI 1 L), (2, .c (.ptr 0 0)), (3, .c (.ptr 1 0)), (4, iV t), (5, iV i)] [.cells 25 [.p (.i .i64 0), .p (.z (.slice none 0 0))], .cells 25 [.p (.i .i64 N), .sl 2 2 0 m], .row 27 2 m (rowC encE E)]) (acN L) (pickZ L 1 8) (acG L) (acG L).length → ExS Try.prog G rs v r st Q) : ExS Try.prog G rs v (appA (takeL 5 (pcs Try.prog Try.f20)) r) (st0 Try.f20 [listV encI 1 L]) Q := by
  have ht : takeL 4 (appA (takeL 5 (pcs Try.prog Try.f20)) r) = takeL 4 (pcs Try.prog Try.f20) := by rcases hr with rfl | rfl <;> kernel_rfl
  refine ExS.evG extP_sound 4 ((congrArg (fun l => exTs extP l (st0 Try.f20 [listV encI 1 L]) (endG (msk 92 [0, 2, 3, 4, 5]) rs)) ht).trans (tA1 rs L)) ?_
  simp only [holds_rq, holds_leaf, kf_normal, ofn_lt, decI_row]
  refine ⟨⟨isL_row _ _ _, hI, by decide⟩, ⟨isL_row _ _ _, hI, by decide⟩, ⟨?_⟩⟩
  have hN := pickZ_range L 0 (m := 9) (by omega)
  have htt := pickZ_range L 1 (m := 8) (by omega)
  have hN' : 0 ≤ acN L ∧ acN L < 9 := hN
  refine ExS.loop' (b := inr (inr (nth .skip (pcs Try.prog Try.f20) 4))) (r := r) (id := 0) (by rcases hr with rfl | rfl <;> kernel_rfl) (σ := Nat)
    (fun k => (fun (N t i : Int) (E : List Ed) (m : Nat) => cst 92 [(0, listV encI 1 L), (2, .c (.ptr 0 0)), (3, .c (.ptr 1 0)), (4, iV t), (5, iV i)] [.cells 25 [.p (.i .i64 0), .p (.z (.slice none 0 0))], .cells 25 [.p (.i .i64 N), .sl 2 2 0 m], .row 27 2 m (rowC encE E)]) (acN L) (pickZ L 1 8) ((k : Int) + 2) (acE L k) (acE L k).length) (fun k => k ≤ acK L) (fun k => acK L - k) 0 (Nat.zero_le _)
    ((weak_nilC 27 2 (rowC encE []) (id := 1) (k := 1) (t0 := 25) (vs := [.p (.i .i64 (acN L)), .p (.z (.slice none 0 0))]) (by kernel_rfl) (by kernel_rfl)).trans (weak_of_eq (by kernel_rfl))) ?_
  intro k hk Q1 q1n q1e _
  refine ExS.evG ext0_sound 2 (tA2 rs L (acN L) (pickZ L 1 8) ((k : Int) + 2) (acE L k).length (acE L k)) ?_
  simp only [holds_bT, holds_leaf, kf_normal, kf_exit, decide_eq_true_eq, decide_eq_false_iff_not]
  have hkK : k ≤ 12 := by unfold acK at hk; split at hk <;> omega
  have ex : k = acK L → ∀ st, st = (fun (N t i : Int) (E : List Ed) (m : Nat) => cst 92 [(0, listV encI 1 L), (2, .c (.ptr 0 0)), (3, .c (.ptr 1 0)), (4, iV t), (5, iV i)] [.cells 25 [.p (.i .i64 0), .p (.z (.slice none 0 0))], .cells 25 [.p (.i .i64 N), .sl 2 2 0 m], .row 27 2 m (rowC encE E)]) (acN L) (pickZ L 1 8) ((k : Int) + 2) (acE L k) (acE L k).length → Q1 (.exit 0) st := fun e st hst => q1e st (h ((k : Int) + 2) st (by rw [hst, e]; rfl))
  refine ⟨fun h1 => ⟨fun h2 => ⟨fun h3 => ⟨?_⟩, fun h3 => ⟨ex (by unfold acK at hk ⊢; rw [if_neg h3] at hk ⊢; omega) _ (by kernel_rfl)⟩⟩, fun h2 => ⟨ex (by unfold acK at hk ⊢; split at hk <;> (rename_i h4; simp only [h4, if_true, if_false]; omega)) _ (by kernel_rfl)⟩⟩, fun h1 => ⟨ex (by unfold acK at hk ⊢; split at hk <;> (rename_i h4; simp only [h4, if_true, if_false]; omega)) _ (by kernel_rfl)⟩⟩
  have hkK1 : k + 1 ≤ acK L := by unfold acK; rw [if_pos h3]; omega
  refine ExS.blk' (l := dropL 2 (lpB (pcs Try.prog Try.f20) 4)) (id := 1) (a := inr (nth .skip (lpB (pcs Try.prog Try.f20) 4) 2)) (r := dropL 3 (lpB (pcs Try.prog Try.f20) 4)) (by kernel_rfl) ?_
  intro Q2 q2n q2e _
  have hnext : acE L (k + 1) = acStep (acN L) (pickZ L 1 8) (pickZ L ((k : Int) + 2) 10000) (acE L k) := rfl
  have hlen := acE_length L k
  refine ExS.evG extP_sound 8 (tA3 rs L (acN L) (pickZ L 1 8) ((k : Int) + 2) (acE L k).length (acE L k)) ?_
  have hp := pickZ_range L ((k : Int) + 2) (m := 10000) (by omega)
  have fin : ∀ st, WeakS G st ((fun (N t i : Int) (E : List Ed) (m : Nat) => cst 92 [(0, listV encI 1 L), (2, .c (.ptr 0 0)), (3, .c (.ptr 1 0)), (4, iV t), (5, iV i)] [.cells 25 [.p (.i .i64 0), .p (.z (.slice none 0 0))], .cells 25 [.p (.i .i64 N), .sl 2 2 0 m], .row 27 2 m (rowC encE E)]) (acN L) (pickZ L 1 8) ((k : Int) + 2) (acE L (k + 1)) (acE L (k + 1)).length) → ExS Try.prog G rs v (dropL 3 (lpB (pcs Try.prog Try.f20) 4)) st Q1 := fun st hst => by
    refine ExS.pre hst (ExS.evH ext0_sound (tA6 rs L (acN L) (pickZ L 1 8) ((k : Int) + 2) (acE L (k + 1)).length (acE L (k + 1))) ?_)
    simp only [holds_rq, holds_leaf, kf_normal, inR]
    refine ⟨by omega, ⟨q1n (k + 1) _ hkK1 (by omega) (weak_of_eq ?_)⟩⟩
    rw [show ((k : Int) + 2 + 1) = ((k + 1 : Nat) : Int) + 2 by omega]
    kernel_rfl
  simp only [holds_bT, holds_rq, holds_leaf, kf_normal, kf_exit, ofn_lt, decI_row, beq_iff_eq, beq_eq_false_iff_ne, inR, if_min, if_max]
  unfold acStep at hnext
  generalize hE : acE L k = E at hnext hlen
  generalize acN L = N at *
  generalize pickZ L 1 8 = t at *
  generalize pickZ L ((k : Int) + 2) 10000 = n at hnext hp
  have d1 : 0 ≤ n / N := Int.ediv_nonneg hp.1 (by omega)
  have d2 : n / N ≤ n := Int.ediv_le_self N hp.1
  have d3 : 0 ≤ n % N ∧ n % N < N := ⟨Int.emod_nonneg _ (by omega), Int.emod_lt_of_pos _ (by omega)⟩
  have d4 : 0 ≤ n / N % N ∧ n / N % N < N := ⟨Int.emod_nonneg _ (by omega), Int.emod_lt_of_pos _ (by omega)⟩
  refine ⟨⟨isL_row _ _ _, hI, by decide⟩, by omega, by omega, by omega, fun c1 => ⟨q2e _ (fin _ ?_)⟩, fun c1 => ⟨by omega, by omega, by omega, by omega, ⟨?_⟩⟩⟩
  · rw [if_pos c1] at hnext
    rw [hnext]
    exact weak_of_eq (by kernel_rfl)
  rw [if_neg c1] at hnext
  generalize (min (n % N) (n / N % N) + t) % N = a at hnext
  generalize (max (n % N) (n / N % N) + t) % N = b at hnext
  refine ExS.loop' (l := dropL 8 (flat (inr (nth .skip (lpB (pcs Try.prog Try.f20) 4) 2)))) (b := inr (inr (nth .skip (flat (inr (nth .skip (lpB (pcs Try.prog Try.f20) 4) 2))) 8))) (r := dropL 9 (flat (inr (nth .skip (lpB (pcs Try.prog Try.f20) 4) 2)))) (id := 2) (by kernel_rfl) (σ := Nat × Bool)
    (fun (j, kn) => (fun (i : Int) (k m : Nat) => cst 92 [(0, listV encI 1 L), (2, .c (.ptr 0 0)), (3, .c (.ptr 1 0)), (4, iV t), (5, iV i), (9, .c (.ptr 2 0)), (10, bV kn), (11, iV (k : Nat))] [.cells 25 [.p (.i .i64 0), .p (.z (.slice none 0 0))], .cells 25 [.p (.i .i64 N), .sl 3 2 0 m], .cells 27 [.p (.i .i64 a), .p (.i .i64 b)], .row 27 2 m (rowC encE E)]) ((k : Int) + 2) j E.length) (fun (j, kn) => j ≤ E.length ∧ (kn = true ↔ (a, b) ∈ E.take j)) (fun (j, _) => E.length - j) (0, false) ⟨Nat.zero_le _, by simp⟩ (weak_of_eq (by kernel_rfl)) ?_
  rintro ⟨j, kn⟩ ⟨hj, hkn⟩ Q3 q3n q3e -
  refine ExS.evH ext0_sound (tA4 rs L N t ((k : Int) + 2) a b E.length j kn E) ?_
  have hmt := fun h => mem_take_succ (E := E) (k := j) h (x := (a, b))
  simp only [holds_bT, holds_rq, holds_leaf, kf_normal, kf_exit, decide_eq_true_eq, decide_eq_false_iff_not, inR, show (↑j : Int).toNat = j from rfl, show ∀ x : Nat, x + 0 = x from fun _ => rfl]
  refine ⟨fun h4 => ⟨fun c2 => ⟨by omega, ⟨q3n (j + 1, true) _ ⟨by omega, ?_⟩ (by simp only; omega) (weak_of_eq (by kernel_rfl))⟩⟩, fun c2 => ⟨by omega, by omega, by omega, ⟨q3n (j + 1, (E.getD j default).1 == a && ((E.getD j default).2 == b && true)) _ ⟨by omega, ?_⟩ (by simp only; omega) (weak_of_eq (by kernel_rfl))⟩⟩⟩, fun h4 => ⟨q3e _ ?_⟩⟩
  · rw [hmt (by omega)]
    exact ⟨fun _ => .inl (hkn.1 c2), fun _ => rfl⟩
  · rw [hmt (by omega)]
    have hno : (a, b) ∉ E.take j := fun h => by rw [hkn.2 h] at c2; cases c2
    simp only [Bool.and_true, Bool.and_eq_true, beq_iff_eq]
    refine ⟨fun ⟨e1, e2⟩ => .inr (Prod.ext e1 e2), fun h => ?_⟩
    have := h.resolve_left hno
    rw [this]
    exact ⟨rfl, rfl⟩
  · obtain rfl : j = E.length := by omega
    rw [List.take_length] at hkn
    refine ExS.evH ext0_sound (tA5 rs L N t ((k : Int) + 2) a b E.length E.length kn E) ?_
    simp only [holds_bT, holds_rq, holds_leaf, kf_normal, Bool.not_eq_true', Bool.not_eq_false']
    refine ⟨fun c2 => ⟨trivial, Nat.le_refl _, ⟨by omega, by omega, edge_one _ _⟩, ⟨q2n _ (fin _ ?_)⟩⟩, fun c2 => ⟨q2n _ (fin _ ?_)⟩⟩
    · rw [if_neg (fun h => by rw [hkn.2 h] at c2; cases c2)] at hnext
      rw [hnext, show (E ++ [(a, b)]).length = E.length + 1 by simp]
      refine weak_cst ?_
      exact ⟨rfl, rfl, ⟨rfl, rfl, rfl, fun e o he ho => app1' (ρ := [0, 1, 5]) rfl (edge_at _ _) he ho⟩, trivial⟩
    · rw [if_pos (hkn.1 c2)] at hnext
      rw [hnext]
      exact weak_of_eq (by kernel_rfl)
set_option maxRecDepth 100000 in
theorem okAcyclic : ModOK Try.prog G 20 mAcyclic := by
  intro args p v hm hp h
  unfold mAcyclic at hm
  split at hm; rotate_left; · cases hm
  rename_i n f
  obtain ⟨rfl, rfl⟩ := some_pair hm
  obtain ⟨hL, hI⟩ := hp
  generalize decL decI n f = L at hL hI
  refine FnS.args (args' := [listV encI 1 L]) ?_ (.cons hL.le .nil)
  clear hL
  refine fn_S Try.func20 (by kernel_rfl) rfl ?_ h
  refine acCore (r := dropL 5 (pcs Try.prog Try.f20)) _ _ _ L hI (.inl rfl) ?_
  rintro i _ rfl
  refine ExS.evH ext0_sound (tA7 L (acN L) (pickZ L 1 8) i (acG L).length (acG L)) ?_
  simp only [holds_rq, holds_leaf, kf_ret']
  exact ⟨⟨by omega, fun _ _ _ _ => rfl⟩, ⟨VLe.refl _⟩⟩
set_option maxRecDepth 100000 in
theorem okAcyclicH : ModHOK Try.prog G 20 mAcyclicH := by
  intro args h p v h' hm hp
  unfold mAcyclicH at hm
  split at hm; rotate_left; · cases hm
  rename_i n f
  obtain ⟨rfl, rfl, rfl⟩ := some_three hm
  obtain ⟨hL, hI⟩ := hp
  generalize decL decI n f = L at hL hI
  refine FnS.args (args' := [listV encI 1 L]) ?_ (.cons hL.le .nil)
  clear hL
  refine fn_cellS (t := 2) (rty := 25) (pre := takeL 6 (pcs Try.prog Try.f20)) Try.func20 (by kernel_rfl) (by kernel_rfl) (by kernel_rfl) (by kernel_rfl) rfl ?_ h
  refine acCore (r := takeL 1 (dropL 5 (pcs Try.prog Try.f20))) _ _ _ L hI (.inr rfl) ?_
  rintro i _ rfl
  refine ExS.evH ext0_sound (tA8 L (acN L) (pickZ L 1 8) i (acG L).length (acG L)) ?_
  simp only [holds_leaf, kf_normal]
  exact ⟨trivial, by simp, 0, _, _, 1, _, rfl, rfl, rfl, rfl, fun e o he ho => rfl⟩
end
end Go.AE
