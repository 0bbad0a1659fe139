/- AE contracts: ref05.Names, values, Set, ref29.Alerts, law29.few. -/
import Derived.Test.YtkpladkcppeciaaS15
import Derived.Test.YtkpladkcppeciaaGp
import Derived.Test.YtkpladkcppeciaaAe30
namespace Go.AE
open Go.Proofs Go.Proofs.Ytkpladkcppeciaa Gp
set_option linter.unusedVariables false
set_option linter.unusedSimpArgs false

def namesL : List ByteArray := [⟨#[97]⟩, ⟨#[97, 98]⟩, ⟨#[98]⟩, ⟨#[106, 111, 98]⟩, ⟨#[120, 95, 49]⟩, ⟨#[122, 111, 110, 101]⟩]
def valuesL : List ByteArray := [⟨#[97]⟩, ⟨#[97, 98]⟩, ⟨#[98]⟩, ⟨#[120, 49]⟩, ⟨#[126, 33]⟩, ⟨#[48]⟩]
def mNames : ModH
  | [], h => some (True, .c (.sl (lenL h) 1 0 6), snoc (.row 9 1 6 fun e o => .p (rowP encS namesL e o)) h)
  | _, _ => none
def mValues : ModH
  | [], h => some (True, .c (.sl (lenL h) 1 0 6), snoc (.row 9 1 6 fun e o => .p (rowP encS valuesL e o)) h)
  | _, _ => none

def setS (L : List Int) : Nat → Int × List (ByteArray × ByteArray)
  | 0 => (pickZ L 0 64, [])
  | i + 1 => ((setS L i).1 / 2, if (setS L i).1 % 2 = 1 then (setS L i).2 ++ [(namesL.getD i default, valuesL.getD (pickZ L (i + 1) 6).toNat default)] else (setS L i).2)
def setL (L : List Int) : List (ByteArray × ByteArray) := (setS L 6).2
def mSet : Mod
  | [.c (.p (.l 1 n f))] => some (IsL encI 1 (decL decI n f) n f ∧ Ints (decL decI n f), listV enc2 2 (setL (decL decI n f)))
  | _ => none
/-- An alert as ref29.Alerts makes it: by its labels. -/
def encAl (x : List (ByteArray × ByteArray)) (o : Nat) : PV := match o with
  | 0 => .s ⟨#[114]⟩
  | 1 => .i .i64 1
  | 2 => listP enc2 2 x
  | _ => .i .i64 0
def dec2P : PV → List (ByteArray × ByteArray)
  | .l _ n f => decL dec2 n f
  | _ => []
def decAl (f : Nat → PV) : List (ByteArray × ByteArray) := dec2P (f 2)
theorem decAl_row (L : List (List (ByteArray × ByteArray))) : decL decAl L.length (rowP encAl L) = L := decL_row (fun x => dec2_row x) L
def encLL (x : List (ByteArray × ByteArray)) (_ : Nat) : PV := listP enc2 2 x
def decLL (f : Nat → PV) : List (ByteArray × ByteArray) := dec2P (f 0)
theorem decLL_row (L : List (List (ByteArray × ByteArray))) : decL decLL L.length (rowP encLL L) = L := decL_row (fun x => dec2_row x) L
def encLI (x : List Int) (_ : Nat) : PV := listP encI 1 x
def decIP : PV → List Int
  | .l _ n f => decL decI n f
  | _ => []
def decLI (f : Nat → PV) : List Int := decIP (f 0)
theorem decLI_row (L : List (List Int)) : decL decLI L.length (rowP encLI L) = L := decL_row (fun x => decI_row x) L
def alNum (n : Int) : List Int := [n, n / 64 % 2, n / 128 % 2, n / 256 % 2, n / 512 % 2, n / 1024 % 2, n / 2048 % 2]
def alS (L : List Int) : Nat → List (List (ByteArray × ByteArray))
  | 0 => []
  | i + 1 => alS L i ++ [setL (alNum (pickZ L (i + 1) 100000))]
def alL (L : List Int) : List (List (ByteArray × ByteArray)) := alS L (pickZ L 0 9).toNat
def mAlerts : Mod
  | [.c (.p (.l 1 n f))] => some (IsL encI 1 (decL decI n f) n f ∧ Ints (decL decI n f), listV encAl 6 (alL (decL decI n f)))
  | _ => none
def fewS (b : Int) : Nat → Int × List ByteArray
  | 0 => (b, [])
  | i + 1 => ((fewS b i).1 / 2, if (fewS b i).1 % 2 = 1 then (fewS b i).2 ++ [namesL.getD i default] else (fewS b i).2)
def fewL (N : List ByteArray) (w : Int) : List ByteArray := N.take 3 ++ (fewS (aroundZ w 64) 6).2
def mFewH : ModH
  | [.c (.p (.l 1 n f)), .c (.p (.i .i64 w))], h => some (IsL encS 1 (decL decS n f) n f ∧ inR .i64 w, .c (.sl (lenL h) 1 0 (fewL (decL decS n f) w).length), snoc (.row 9 1 (fewL (decL decS n f) w).length fun e o => .p (rowP encS (fewL (decL decS n f) w) e o)) h)
  | [.c (.p (.z (.slice none 0 0))), .c (.p (.i .i64 w))], h => some (inR .i64 w, .c (.sl (lenL h) 1 0 (fewL [] w).length), snoc (.row 9 1 (fewL [] w).length fun e o => .p (rowP encS (fewL [] w) e o)) h)
  | _, _ => none
def rowA (A : List Int) (f : Nat → Nat → C) : Prop := A.length = 7 ∧ ∀ e, e < 7 → f e 0 = rowC encI A e 0
/-- ref05.Set of a row of seven, which is gone behind the call. -/
def mSetR (A : List Int) (S0 : List (ByteArray × ByteArray)) : ModH
  | [.c (.sl id 1 0 7)], h => match nth .gone h id with
    | .row _ 1 7 f => some (rowA A f ∧ Ints A ∧ S0 = setL A, listV enc2 2 S0, upd .gone h id)
    | _ => none
  | _, _ => none
def extS : Ext := extH [(17, mNames), (28, mValues), (14, liftM mPick)]
def extAl (A : List Int) (S0 : List (ByteArray × ByteArray)) : Ext := extH [(14, liftM mPick), (15, mSetR A S0)]
def extFw : Ext := extH [(17, mNames), (16, liftM mAround)]

theorem tSet1 (L : List Int) : exTs extS (takeL 6 (pcs Try.prog Try.f15)) (st0 Try.f15 [listV encI 1 L]) (endG (msk 39 [0, 3, 4, 5, 6, 7]) (resOf Try.prog Try.f15)) = Tr.rq True
    (Tr.rq True
      (Tr.rq (IsL encI 1 (decL decI L.length (rowP encI L)) L.length (rowP encI L) ∧ Ints (decL decI L.length (rowP encI L)) ∧ Int.ofNat 0 < Int.ofNat 64)
        (Tr.done X.normal
          (cst 39 [(0, V.c (C.p (PV.l 1 L.length (rowP encI L)))), (3, V.c (C.sl 0 1 0 6)), (4, V.c (C.sl 1 1 0 6)), (5, V.c (C.p (PV.i IntKind.i64 (pickZ (decL decI L.length (rowP encI L)) 0 64)))), (6, V.c (C.p (PV.z (Value.slice none 0 0)))), (7, V.c (C.p (PV.i IntKind.i64 0)))] [AO.row 9 1 6 fun e o => renC [0, 1] (C.p (PV.s (namesL.getD e default))), AO.row 9 1 6 fun e o => renC [0, 1] (C.p (PV.s (valuesL.getD e default)))])))) := by kernel_rfl
theorem tSet2 (L : List Int) (w : Int) (out : List (ByteArray × ByteArray)) (i : Nat) : exTs extS (lpB (pcs Try.prog Try.f15) 6) (cst 39 [(0, listV encI 1 L), (3, .c (.sl 0 1 0 6)), (4, .c (.sl 1 1 0 6)), (5, iV w), (6, .c (.sl 2 2 0 out.length)), (7, iV (i : Nat))] [.row 9 1 6 (rowC encS namesL), .row 9 1 6 (rowC encS valuesL), .row 60 2 out.length (rowC enc2 out)]) (endG (msk 39 [0, 3, 4, 5, 6, 7]) (resOf Try.prog Try.f15)) = bT (decide ((↑i : Int) < (↑6 : Int)))
    (Tr.rq (0 ≤ w ∧ Int.ofNat 0 < Int.ofNat 2)
      (bT (w % 2 == 1)
        (Tr.rq (0 ≤ (↑i : Int) ∧ (↑i : Int) < (↑6 : Int))
          (Tr.rq ((↑i : Int).toNat + 0 < 6)
            (Tr.rq (inR IntKind.i64 ((↑i : Int) + 1))
              (Tr.rq (IsL encI 1 (decL decI L.length (rowP encI L)) L.length (rowP encI L) ∧ Ints (decL decI L.length (rowP encI L)) ∧ Int.ofNat 0 < Int.ofNat 6)
                (Tr.rq (0 ≤ pickZ (decL decI L.length (rowP encI L)) ((↑i : Int) + 1) 6 ∧ pickZ (decL decI L.length (rowP encI L)) ((↑i : Int) + 1) 6 < (↑6 : Int))
                  (Tr.rq ((pickZ (decL decI L.length (rowP encI L)) ((↑i : Int) + 1) 6).toNat + 0 < 6)
                    (Tr.rq (out.length = out.length)
                      (Tr.rq (1 ≤ 1)
                        (Tr.rq
                          ((out.length + 1) * 32 ≤ 140737488355328 ∧
                            out.length + 1 ≤ 140737488355328 ∧
                              ∀ (e o : Nat),
                                e < 1 →
                                  o < 2 →
                                    oneC
                                        (nth C.top
                                          [C.p (PV.s (namesL.getD ((↑i : Int).toNat + 0) default)),
                                            C.p (PV.s (valuesL.getD ((pickZ (decL decI L.length (rowP encI L)) ((↑i : Int) + 1) 6).toNat + 0) default))]
                                          ((e + 0) * 2 + o)) =
                                      true)
                          (Tr.rq (0 ≤ w ∧ Int.ofNat 0 < Int.ofNat 2 ∧ inR IntKind.i64 (w / 2))
                            (Tr.rq (inR IntKind.i64 ((↑i : Int) + 1))
                              (Tr.done X.normal
                                (cst 39 [(0, V.c (C.p (PV.l 1 L.length (rowP encI L)))), (3, V.c (C.sl 0 1 0 6)), (4, V.c (C.sl 1 1 0 6)), (5, V.c (C.p (PV.i IntKind.i64 (w / 2)))), (6, V.c (C.sl 2 2 0 (out.length + 1))), (7, V.c (C.p (PV.i IntKind.i64 ((↑i : Int) + 1))))] [AO.row 9 1 6 fun e o => renC [0, 1, 4] (rowC encS namesL e o), AO.row 9 1 6 fun e o => renC [0, 1, 4] (rowC encS valuesL e o), AO.row 60 2 (out.length + 1) fun e o => renC [0, 1, 4] (appF out.length (rowC enc2 out) (fun e o => nth C.top [C.p (PV.s (namesL.getD ((↑i : Int).toNat + 0) default)), C.p (PV.s (valuesL.getD ((pickZ (decL decI L.length (rowP encI L)) ((↑i : Int) + 1) 6).toNat + 0) default))] ((e + 0) * 2 + o)) e o)])))))))))))))
        (Tr.rq (0 ≤ w ∧ Int.ofNat 0 < Int.ofNat 2 ∧ inR IntKind.i64 (w / 2))
          (Tr.rq (inR IntKind.i64 ((↑i : Int) + 1))
            (Tr.done X.normal
              (cst 39 [(0, V.c (C.p (PV.l 1 L.length (rowP encI L)))), (3, V.c (C.sl 0 1 0 6)), (4, V.c (C.sl 1 1 0 6)), (5, V.c (C.p (PV.i IntKind.i64 (w / 2)))), (6, V.c (C.sl 2 2 0 out.length)), (7, V.c (C.p (PV.i IntKind.i64 ((↑i : Int) + 1))))] [AO.row 9 1 6 fun e o => renC [0, 1, 2] (rowC encS namesL e o), AO.row 9 1 6 fun e o => renC [0, 1, 2] (rowC encS valuesL e o), AO.row 60 2 out.length fun e o => renC [0, 1, 2] (rowC enc2 out e o)]))))))
    (Tr.done (X.exit 0)
      (cst 39 [(0, V.c (C.p (PV.l 1 L.length (rowP encI L)))), (3, V.c (C.sl 0 1 0 6)), (4, V.c (C.sl 1 1 0 6)), (5, V.c (C.p (PV.i IntKind.i64 w))), (6, V.c (C.sl 2 2 0 out.length)), (7, V.c (C.p (PV.i IntKind.i64 (↑i : Int))))] [AO.row 9 1 6 fun e o => renC [0, 1, 2] (rowC encS namesL e o), AO.row 9 1 6 fun e o => renC [0, 1, 2] (rowC encS valuesL e o), AO.row 60 2 out.length fun e o => renC [0, 1, 2] (rowC enc2 out e o)])) := by kernel_rfl
theorem tSet3 (L : List Int) (w : Int) (out : List (ByteArray × ByteArray)) (i : Nat) : exTs ext0 (dropL 7 (pcs Try.prog Try.f15)) (cst 39 [(0, listV encI 1 L), (3, .c (.sl 0 1 0 6)), (4, .c (.sl 1 1 0 6)), (5, iV w), (6, .c (.sl 2 2 0 out.length)), (7, iV (i : Nat))] [.row 9 1 6 (rowC encS namesL), .row 9 1 6 (rowC encS valuesL), .row 60 2 out.length (rowC enc2 out)]) (endG [] (resOf Try.prog Try.f15)) = Tr.rq (0 + out.length ≤ out.length ∧ ∀ (e o : Nat), e < out.length → o < 2 → isF (rowC enc2 out (e + 0) o) = true)
    (Tr.done X.ret (St.mk [V.c (C.p (PV.l 2 out.length fun e o => unP (rowC enc2 out (e + 0) o)))] [])) := by kernel_rfl
theorem tNames  : exT ext0 (codeOf Try.prog Try.f17) (st0 Try.f17 []) (endP [0] (msk 2 [0])) = Tr.done X.ret
    (cst 2 [(0, V.c (C.sl 0 1 0 6))] [AO.row 9 1 6 fun e o => renC [0] (nth C.top [C.p (PV.s (ByteArray.mk #[97])), C.p (PV.s (ByteArray.mk #[97, 98])), C.p (PV.s (ByteArray.mk #[98])), C.p (PV.s (ByteArray.mk #[106, 111, 98])), C.p (PV.s (ByteArray.mk #[120, 95, 49])), C.p (PV.s (ByteArray.mk #[122, 111, 110, 101]))] (e * 1 + o))]) := by kernel_rfl
theorem tValues  : exT ext0 (codeOf Try.prog Try.f28) (st0 Try.f28 []) (endP [0] (msk 2 [0])) = Tr.done X.ret
    (cst 2 [(0, V.c (C.sl 0 1 0 6))] [AO.row 9 1 6 fun e o => renC [0] (nth C.top [C.p (PV.s (ByteArray.mk #[97])), C.p (PV.s (ByteArray.mk #[97, 98])), C.p (PV.s (ByteArray.mk #[98])), C.p (PV.s (ByteArray.mk #[120, 49])), C.p (PV.s (ByteArray.mk #[126, 33])), C.p (PV.s (ByteArray.mk #[48]))] (e * 1 + o))]) := by kernel_rfl
theorem tA1 (L : List Int) : exTs ext0 (takeL 3 (pcs Try.prog Try.f5)) (st0 Try.f5 [listV encI 1 L]) (endG (msk 44 [0, 3, 4]) (resOf Try.prog Try.f5)) = Tr.done X.normal
    (cst 44 [(0, V.c (C.p (PV.l 1 L.length (rowP encI L)))), (3, V.c (C.p (PV.z (Value.slice none 0 0)))), (4, V.c (C.p (PV.i IntKind.i64 0)))] []) := by kernel_rfl
theorem tA2 (A : List Int) (S0 : List (ByteArray × ByteArray)) (L : List Int) (out : List (List (ByteArray × ByteArray))) (m i : Nat) : exTs (extAl A S0) (takeL 2 (lpB (pcs Try.prog Try.f5) 3)) (cst 44 [(0, listV encI 1 L), (3, .c (.sl 0 6 0 m)), (4, iV (i : Nat))] [.row 37 6 m (rowC encAl out)]) (endG (msk 44 [0, 3, 4]) (resOf Try.prog Try.f5)) = Tr.rq (IsL encI 1 (decL decI L.length (rowP encI L)) L.length (rowP encI L) ∧ Ints (decL decI L.length (rowP encI L)) ∧ Int.ofNat 0 < Int.ofNat 9)
    (bT (decide ((↑i : Int) < pickZ (decL decI L.length (rowP encI L)) 0 9))
      (Tr.done X.normal
        (cst 44 [(0, V.c (C.p (PV.l 1 L.length (rowP encI L)))), (3, V.c (C.sl 0 6 0 m)), (4, V.c (C.p (PV.i IntKind.i64 (↑i : Int))))] [AO.row 37 6 m fun e o => renC [0] (rowC encAl out e o)]))
      (Tr.done (X.exit 0)
        (cst 44 [(0, V.c (C.p (PV.l 1 L.length (rowP encI L)))), (3, V.c (C.sl 0 6 0 m)), (4, V.c (C.p (PV.i IntKind.i64 (↑i : Int))))] [AO.row 37 6 m fun e o => renC [0] (rowC encAl out e o)]))) := by kernel_rfl
theorem tA4 (A : List Int) (S0 : List (ByteArray × ByteArray)) (L : List Int) (out : List (List (ByteArray × ByteArray))) (m i : Nat) : exTs (extAl A S0) (takeL 1 (flat (inr (nth .skip (lpB (pcs Try.prog Try.f5) 3) 2)))) (cst 44 [(0, listV encI 1 L), (3, .c (.sl 0 6 0 m)), (4, iV (i : Nat))] [.row 37 6 m (rowC encAl out)]) (endG (msk 44 [0, 3, 4, 5]) (resOf Try.prog Try.f5)) = Tr.rq (inR IntKind.i64 ((↑i : Int) + 1))
    (Tr.rq (IsL encI 1 (decL decI L.length (rowP encI L)) L.length (rowP encI L) ∧ Ints (decL decI L.length (rowP encI L)) ∧ Int.ofNat 0 < Int.ofNat 100000)
      (Tr.done X.normal
        (cst 44 [(0, V.c (C.p (PV.l 1 L.length (rowP encI L)))), (3, V.c (C.sl 0 6 0 m)), (4, V.c (C.p (PV.i IntKind.i64 (↑i : Int)))), (5, V.c (C.p (PV.i IntKind.i64 (pickZ (decL decI L.length (rowP encI L)) ((↑i : Int) + 1) 100000))))] [AO.row 37 6 m fun e o => renC [0] (rowC encAl out e o)]))) := by kernel_rfl
theorem tA5 (A : List Int) (S0 : List (ByteArray × ByteArray)) (L : List Int) (x : Int) (out : List (List (ByteArray × ByteArray))) (m i : Nat) : exTs (extAl A S0) (takeL 1 (dropL 1 (flat (inr (nth .skip (lpB (pcs Try.prog Try.f5) 3) 2))))) (cst 44 [(0, listV encI 1 L), (3, .c (.sl 0 6 0 m)), (4, iV (i : Nat)), (5, iV x)] [.row 37 6 m (rowC encAl out)]) (endG (msk 44 [0, 3, 4, 6]) (resOf Try.prog Try.f5)) = Tr.rq (0 ≤ x ∧ Int.ofNat 0 < Int.ofNat 64 ∧ inR IntKind.i64 (x / 64))
    (Tr.rq (0 ≤ x / 64 ∧ Int.ofNat 0 < Int.ofNat 2)
      (Tr.rq (0 ≤ x ∧ Int.ofNat 0 < Int.ofNat 128 ∧ inR IntKind.i64 (x / 128))
        (Tr.rq (0 ≤ x / 128 ∧ Int.ofNat 0 < Int.ofNat 2)
          (Tr.rq (0 ≤ x ∧ Int.ofNat 0 < Int.ofNat 256 ∧ inR IntKind.i64 (x / 256))
            (Tr.rq (0 ≤ x / 256 ∧ Int.ofNat 0 < Int.ofNat 2)
              (Tr.rq (0 ≤ x ∧ Int.ofNat 0 < Int.ofNat 512 ∧ inR IntKind.i64 (x / 512))
                (Tr.rq (0 ≤ x / 512 ∧ Int.ofNat 0 < Int.ofNat 2)
                  (Tr.rq (0 ≤ x ∧ Int.ofNat 0 < Int.ofNat 1024 ∧ inR IntKind.i64 (x / 1024))
                    (Tr.rq (0 ≤ x / 1024 ∧ Int.ofNat 0 < Int.ofNat 2)
                      (Tr.rq (0 ≤ x ∧ Int.ofNat 0 < Int.ofNat 2048 ∧ inR IntKind.i64 (x / 2048))
                        (Tr.rq (0 ≤ x / 2048 ∧ Int.ofNat 0 < Int.ofNat 2)
                          (Tr.rq
                            ((rowA A fun e o =>
                                nth C.top
                                  [C.p (PV.i IntKind.i64 x), C.p (PV.i IntKind.i64 (x / 64 % 2)), C.p (PV.i IntKind.i64 (x / 128 % 2)), C.p (PV.i IntKind.i64 (x / 256 % 2)),
                                    C.p (PV.i IntKind.i64 (x / 512 % 2)), C.p (PV.i IntKind.i64 (x / 1024 % 2)), C.p (PV.i IntKind.i64 (x / 2048 % 2))]
                                  (e * 1 + o)) ∧
                              Ints A ∧ S0 = setL A)
                            (Tr.done X.normal
                              (cst 44 [(0, V.c (C.p (PV.l 1 L.length (rowP encI L)))), (3, V.c (C.sl 0 6 0 m)), (4, V.c (C.p (PV.i IntKind.i64 (↑i : Int)))), (6, V.c (C.p (PV.l 2 S0.length (rowP enc2 S0))))] [AO.row 37 6 m fun e o => renC [0] (rowC encAl out e o)])))))))))))))) := by kernel_rfl
theorem tA7 (S0 : List (ByteArray × ByteArray)) (L : List Int) (out : List (List (ByteArray × ByteArray))) (m i : Nat) : exTs ext0 (dropL 2 (flat (inr (nth .skip (lpB (pcs Try.prog Try.f5) 3) 2)))) (cst 44 [(0, listV encI 1 L), (3, .c (.sl 0 6 0 m)), (4, iV (i : Nat)), (6, listV enc2 2 S0)] [.row 37 6 m (rowC encAl out)]) (endG (msk 44 [0, 3, 4]) (resOf Try.prog Try.f5)) = Tr.rq (m = m)
    (Tr.rq (1 ≤ 1)
      (Tr.rq
        ((m + 1) * 72 ≤ 140737488355328 ∧
          m + 1 ≤ 140737488355328 ∧
            ∀ (e o : Nat),
              e < 1 →
                o < 6 →
                  oneC
                      (nth C.top
                        [C.p (PV.s (ByteArray.mk #[114])), C.p (PV.i IntKind.i64 1), C.p (PV.l 2 S0.length (rowP enc2 S0)), C.p (PV.i IntKind.i64 0), C.p (PV.i IntKind.i64 0), C.p (PV.i IntKind.i64 0)]
                        ((e + 0) * 6 + o)) =
                    true)
        (Tr.done X.normal
          (cst 44 [(0, V.c (C.p (PV.l 1 L.length (rowP encI L)))), (3, V.c (C.sl 0 6 0 (m + 1))), (4, V.c (C.p (PV.i IntKind.i64 (↑i : Int))))] [AO.row 37 6 (m + 1) fun e o => renC [2] (appF m (rowC encAl out) (fun e o => nth C.top [C.p (PV.s (ByteArray.mk #[114])), C.p (PV.i IntKind.i64 1), C.p (PV.l 2 S0.length (rowP enc2 S0)), C.p (PV.i IntKind.i64 0), C.p (PV.i IntKind.i64 0), C.p (PV.i IntKind.i64 0)] ((e + 0) * 6 + o)) e o)])))) := by kernel_rfl
theorem tA6 (S0 : List (ByteArray × ByteArray)) (L : List Int) (out : List (List (ByteArray × ByteArray))) (m i : Nat) : exTs ext0 (dropL 3 (lpB (pcs Try.prog Try.f5) 3)) (cst 44 [(0, listV encI 1 L), (3, .c (.sl 0 6 0 m)), (4, iV (i : Nat))] [.row 37 6 m (rowC encAl out)]) (endG (msk 44 [0, 3, 4]) (resOf Try.prog Try.f5)) = Tr.rq (inR IntKind.i64 ((↑i : Int) + 1))
    (Tr.done X.normal
      (cst 44 [(0, V.c (C.p (PV.l 1 L.length (rowP encI L)))), (3, V.c (C.sl 0 6 0 m)), (4, V.c (C.p (PV.i IntKind.i64 ((↑i : Int) + 1))))] [AO.row 37 6 m fun e o => renC [0] (rowC encAl out e o)])) := by kernel_rfl
theorem tA3 (L : List Int) (out : List (List (ByteArray × ByteArray))) (m i : Nat) : exTs ext0 (dropL 4 (pcs Try.prog Try.f5)) (cst 44 [(0, listV encI 1 L), (3, .c (.sl 0 6 0 m)), (4, iV (i : Nat))] [.row 37 6 m (rowC encAl out)]) (endG [] (resOf Try.prog Try.f5)) = Tr.rq (0 + m ≤ m ∧ ∀ (e o : Nat), e < m → o < 6 → isF (rowC encAl out (e + 0) o) = true) (Tr.done X.ret (St.mk [V.c (C.p (PV.l 6 m fun e o => unP (rowC encAl out (e + 0) o)))] [])) := by kernel_rfl
theorem tF1 (N : List ByteArray) (w : Int) : exTs extFw (takeL 3 (pcs Try.prog Try.f6)) (st0 Try.f6 [listV encS 1 N, iV w]) (endG (msk 49 [0, 1, 5, 6]) []) = Tr.done X.normal
    (cst 49 [(0, V.c (C.p (PV.l 1 N.length (rowP encS N)))), (1, V.c (C.p (PV.i IntKind.i64 w))), (5, V.c (C.p (PV.z (Value.slice none 0 0)))), (6, V.c (C.p (PV.i IntKind.i64 0)))] []) := by kernel_rfl
theorem tF2 (N out : List ByteArray) (w : Int) (m i : Nat) : exTs extFw (lpB (pcs Try.prog Try.f6) 3) (cst 49 [(0, listV encS 1 N), (1, iV w), (5, .c (.sl 0 1 0 m)), (6, iV (i : Nat))] [.row 9 1 m (rowC encS out)]) (endG (msk 49 [0, 1, 5, 6]) []) = bT (decide ((↑i : Int) < (↑N.length : Int)))
    (bT (decide ((↑i : Int) < 3))
      (Tr.rq (0 ≤ (↑i : Int) ∧ (↑i : Int) < (↑N.length : Int))
        (Tr.rq (m = m)
          (Tr.rq (1 ≤ 1)
            (Tr.rq ((m + 1) * 16 ≤ 140737488355328 ∧ m + 1 ≤ 140737488355328 ∧ ∀ (e o : Nat), e < 1 → o < 1 → oneC (nth C.top [C.p (PV.s (N.getD (↑i : Int).toNat default))] ((e + 0) * 1 + o)) = true)
              (Tr.rq (inR IntKind.i64 ((↑i : Int) + 1))
                (Tr.done X.normal
                  (cst 49 [(0, V.c (C.p (PV.l 1 N.length (rowP encS N)))), (1, V.c (C.p (PV.i IntKind.i64 w))), (5, V.c (C.sl 0 1 0 (m + 1))), (6, V.c (C.p (PV.i IntKind.i64 ((↑i : Int) + 1))))] [AO.row 9 1 (m + 1) fun e o => renC [2] (appF m (rowC encS out) (fun e o => nth C.top [C.p (PV.s (N.getD (↑i : Int).toNat default))] ((e + 0) * 1 + o)) e o)])))))))
      (Tr.done (X.exit 0)
        (cst 49 [(0, V.c (C.p (PV.l 1 N.length (rowP encS N)))), (1, V.c (C.p (PV.i IntKind.i64 w))), (5, V.c (C.sl 0 1 0 m)), (6, V.c (C.p (PV.i IntKind.i64 (↑i : Int))))] [AO.row 9 1 m fun e o => renC [0] (rowC encS out e o)])))
    (Tr.done (X.exit 0)
      (cst 49 [(0, V.c (C.p (PV.l 1 N.length (rowP encS N)))), (1, V.c (C.p (PV.i IntKind.i64 w))), (5, V.c (C.sl 0 1 0 m)), (6, V.c (C.p (PV.i IntKind.i64 (↑i : Int))))] [AO.row 9 1 m fun e o => renC [0] (rowC encS out e o)])) := by kernel_rfl
theorem tF3 (N out : List ByteArray) (w : Int) (m i : Nat) : exTs extFw (takeL 3 (dropL 4 (pcs Try.prog Try.f6))) (cst 49 [(0, listV encS 1 N), (1, iV w), (5, .c (.sl 0 1 0 m)), (6, iV (i : Nat))] [.row 9 1 m (rowC encS out)]) (endG (msk 49 [5, 7, 8, 9]) []) = Tr.rq (inR IntKind.i64 w ∧ Int.ofNat 0 < Int.ofNat 64)
    (Tr.rq True
      (Tr.done X.normal
        (cst 49 [(5, V.c (C.sl 0 1 0 m)), (7, V.c (C.p (PV.i IntKind.i64 (aroundZ w 64)))), (8, V.c (C.sl 1 1 0 6)), (9, V.c (C.p (PV.i IntKind.i64 0)))] [AO.row 9 1 m fun e o => renC [0, 1] (rowC encS out e o), AO.row 9 1 6 fun e o => renC [0, 1] (C.p (PV.s (namesL.getD e default)))]))) := by kernel_rfl
theorem tF4 (out : List ByteArray) (b : Int) (m i : Nat) : exTs extFw (lpB (pcs Try.prog Try.f6) 7) (cst 49 [(5, .c (.sl 0 1 0 m)), (7, iV b), (8, .c (.sl 1 1 0 6)), (9, iV (i : Nat))] [.row 9 1 m (rowC encS out), .row 9 1 6 (rowC encS namesL)]) (endG (msk 49 [5, 7, 8, 9]) []) = bT (decide ((↑i : Int) < (↑6 : Int)))
    (Tr.rq (0 ≤ b ∧ Int.ofNat 0 < Int.ofNat 2)
      (bT (b % 2 == 1)
        (Tr.rq (0 ≤ (↑i : Int) ∧ (↑i : Int) < (↑6 : Int))
          (Tr.rq ((↑i : Int).toNat + 0 < 6)
            (Tr.rq (m = m)
              (Tr.rq (1 ≤ 1)
                (Tr.rq
                  ((m + 1) * 16 ≤ 140737488355328 ∧
                    m + 1 ≤ 140737488355328 ∧ ∀ (e o : Nat), e < 1 → o < 1 → oneC (nth C.top [C.p (PV.s (namesL.getD ((↑i : Int).toNat + 0) default))] ((e + 0) * 1 + o)) = true)
                  (Tr.rq (0 ≤ b ∧ Int.ofNat 0 < Int.ofNat 2 ∧ inR IntKind.i64 (b / 2))
                    (Tr.rq (inR IntKind.i64 ((↑i : Int) + 1))
                      (Tr.done X.normal
                        (cst 49 [(5, V.c (C.sl 0 1 0 (m + 1))), (7, V.c (C.p (PV.i IntKind.i64 (b / 2)))), (8, V.c (C.sl 1 1 0 6)), (9, V.c (C.p (PV.i IntKind.i64 ((↑i : Int) + 1))))] [AO.row 9 1 (m + 1) fun e o => renC [3, 1] (appF m (rowC encS out) (fun e o => nth C.top [C.p (PV.s (namesL.getD ((↑i : Int).toNat + 0) default))] ((e + 0) * 1 + o)) e o), AO.row 9 1 6 fun e o => renC [3, 1] (rowC encS namesL e o)])))))))))
        (Tr.rq (0 ≤ b ∧ Int.ofNat 0 < Int.ofNat 2 ∧ inR IntKind.i64 (b / 2))
          (Tr.rq (inR IntKind.i64 ((↑i : Int) + 1))
            (Tr.done X.normal
              (cst 49 [(5, V.c (C.sl 0 1 0 m)), (7, V.c (C.p (PV.i IntKind.i64 (b / 2)))), (8, V.c (C.sl 1 1 0 6)), (9, V.c (C.p (PV.i IntKind.i64 ((↑i : Int) + 1))))] [AO.row 9 1 m fun e o => renC [0, 1] (rowC encS out e o), AO.row 9 1 6 fun e o => renC [0, 1] (rowC encS namesL e o)]))))))
    (Tr.done (X.exit 2)
      (cst 49 [(5, V.c (C.sl 0 1 0 m)), (7, V.c (C.p (PV.i IntKind.i64 b))), (8, V.c (C.sl 1 1 0 6)), (9, V.c (C.p (PV.i IntKind.i64 (↑i : Int))))] [AO.row 9 1 m fun e o => renC [0, 1] (rowC encS out e o), AO.row 9 1 6 fun e o => renC [0, 1] (rowC encS namesL e o)])) := by kernel_rfl
theorem tF5 (out : List ByteArray) (b : Int) (m i : Nat) : exTs ext0 (takeL 1 (dropL 8 (pcs Try.prog Try.f6))) (cst 49 [(5, .c (.sl 0 1 0 m)), (7, iV b), (8, .c (.sl 1 1 0 6)), (9, iV (i : Nat))] [.row 9 1 m (rowC encS out), .row 9 1 6 (rowC encS namesL)]) (endG (msk 49 [4]) []) = Tr.done X.normal
    (cst 49 [(4, V.c (C.sl 0 1 0 m))] [AO.row 9 1 m fun e o => renC [0] (rowC encS out e o)]) := by kernel_rfl
theorem setS_range (L : List Int) : ∀ i, 0 ≤ (setS L i).1 ∧ (setS L i).1 < 64
  | 0 => pickZ_range L 0 (by omega)
  | i + 1 => by
    have := setS_range L i
    show 0 ≤ (setS L i).1 / 2 ∧ (setS L i).1 / 2 < 64
    omega
theorem pair_one (a b : ByteArray) : ∀ e o : Nat, e < 1 → o < 2 → oneC (nth C.top [C.p (PV.s a), C.p (PV.s b)] ((e + 0) * 2 + o)) = true := by
  intro e o he ho
  obtain rfl : e = 0 := by omega
  have ho' : o = 0 ∨ o = 1 := by omega
  rcases ho' with rfl | rfl <;> rfl
theorem pair_at (a b : ByteArray) : ∀ o : Nat, o < 2 → (fun e o : Nat => nth C.top [C.p (PV.s a), C.p (PV.s b)] ((e + 0) * 2 + o)) 0 o = .p (enc2 (a, b) o) := by
  intro o ho
  have ho' : o = 0 ∨ o = 1 := by omega
  rcases ho' with rfl | rfl <;> rfl
theorem alS_length (L : List Int) : ∀ i, (alS L i).length = i
  | 0 => rfl
  | i + 1 => by simp [alS, alS_length L i]
theorem al_at (x : List (ByteArray × ByteArray)) : ∀ o : Nat, o < 6 → (fun e o : Nat => nth C.top [C.p (PV.s ⟨#[114]⟩), C.p (PV.i .i64 1), C.p (listP enc2 2 x), C.p (PV.i .i64 0), C.p (PV.i .i64 0), C.p (PV.i .i64 0)] ((e + 0) * 6 + o)) 0 o = .p (encAl x o) := by
  intro o ho
  have : o = 0 ∨ o = 1 ∨ o = 2 ∨ o = 3 ∨ o = 4 ∨ o = 5 := by omega
  rcases this with rfl | rfl | rfl | rfl | rfl | rfl <;> rfl
theorem al_one (x : List (ByteArray × ByteArray)) : ∀ e o : Nat, e < 1 → o < 6 → oneC (nth C.top [C.p (PV.s ⟨#[114]⟩), C.p (PV.i .i64 1), C.p (listP enc2 2 x), C.p (PV.i .i64 0), C.p (PV.i .i64 0), C.p (PV.i .i64 0)] ((e + 0) * 6 + o)) = true := by
  intro e o he ho
  obtain rfl : e = 0 := by omega
  have : o = 0 ∨ o = 1 ∨ o = 2 ∨ o = 3 ∨ o = 4 ∨ o = 5 := by omega
  rcases this with rfl | rfl | rfl | rfl | rfl | rfl <;> rfl
theorem str_one (s : ByteArray) : ∀ e o : Nat, e < 1 → o < 1 → oneC (nth C.top [C.p (PV.s s)] ((e + 0) * 1 + o)) = true := by
  intro e o he ho
  obtain rfl : e = 0 := by omega
  obtain rfl : o = 0 := by omega
  rfl
theorem str_at (s : ByteArray) : ∀ o : Nat, o < 1 → (fun e o : Nat => nth C.top [C.p (PV.s s)] ((e + 0) * 1 + o)) 0 o = .p (encS s o) := by
  intro o ho
  obtain rfl : o = 0 := by omega
  rfl
theorem fewS_range {b : Int} (hb : 0 ≤ b ∧ b < 64) : ∀ i, 0 ≤ (fewS b i).1 ∧ (fewS b i).1 < 64
  | 0 => hb
  | i + 1 => by
    have := fewS_range hb i
    show 0 ≤ (fewS b i).1 / 2 ∧ (fewS b i).1 / 2 < 64
    omega
theorem fewS_len (b : Int) : ∀ i, (fewS b i).2.length ≤ i
  | 0 => Nat.zero_le _
  | i + 1 => by
    have := fewS_len b i
    show (if (fewS b i).1 % 2 = 1 then (fewS b i).2 ++ [namesL.getD i default] else (fewS b i).2).length ≤ i + 1
    split
    · rw [List.length_append]; simp only [List.length_cons, List.length_nil]; omega
    · omega
theorem alNum_ints {x : Int} (h0 : 0 ≤ x) (h1 : x < 100000) : Ints (alNum x) := by
  intro y hy
  simp only [alNum, List.mem_cons, List.not_mem_nil, or_false] at hy
  simp only [inR]
  rcases hy with rfl | rfl | rfl | rfl | rfl | rfl | rfl <;> omega
theorem alNum_row (x : Int) : rowA (alNum x) fun e o => nth C.top [C.p (PV.i IntKind.i64 x), C.p (PV.i IntKind.i64 (x / 64 % 2)), C.p (PV.i IntKind.i64 (x / 128 % 2)), C.p (PV.i IntKind.i64 (x / 256 % 2)), C.p (PV.i IntKind.i64 (x / 512 % 2)), C.p (PV.i IntKind.i64 (x / 1024 % 2)), C.p (PV.i IntKind.i64 (x / 2048 % 2))] (e * 1 + o) := by
  refine ⟨rfl, fun e he => ?_⟩
  have : e = 0 ∨ e = 1 ∨ e = 2 ∨ e = 3 ∨ e = 4 ∨ e = 5 ∨ e = 6 := by omega
  rcases this with rfl | rfl | rfl | rfl | rfl | rfl | rfl <;> rfl
section
variable {G : Nat → Option Obj}
theorem okNames : ModHOK Try.prog G 17 mNames := by
  intro args h p v h' hm hp
  unfold mNames at hm
  split at hm; rotate_left; · cases hm
  obtain ⟨rfl, rfl, rfl⟩ := some_three hm
  refine fn_row (r := 0) Try.func17 (by kernel_rfl) (by kernel_rfl) rfl ?_ h
  refine ExA.evp ext0_sound [0] (msk 2 [0]) rfl ?_
  rw [tNames]
  refine ⟨by simp, 0, _, rfl, rfl, fun e o he ho => ?_⟩
  have hc : e = 0 ∨ e = 1 ∨ e = 2 ∨ e = 3 ∨ e = 4 ∨ e = 5 := by omega
  obtain rfl : o = 0 := by omega
  rcases hc with rfl | rfl | rfl | rfl | rfl | rfl <;> rfl
theorem okValues : ModHOK Try.prog G 28 mValues := by
  intro args h p v h' hm hp
  unfold mValues at hm
  split at hm; rotate_left; · cases hm
  obtain ⟨rfl, rfl, rfl⟩ := some_three hm
  refine fn_row (r := 0) Try.func28 (by kernel_rfl) (by kernel_rfl) rfl ?_ h
  refine ExA.evp ext0_sound [0] (msk 2 [0]) rfl ?_
  rw [tValues]
  refine ⟨by simp, 0, _, rfl, rfl, fun e o he ho => ?_⟩
  have hc : e = 0 ∨ e = 1 ∨ e = 2 ∨ e = 3 ∨ e = 4 ∨ e = 5 := by omega
  obtain rfl : o = 0 := by omega
  rcases hc with rfl | rfl | rfl | rfl | rfl | rfl <;> rfl
theorem extS_sound : SoundExt Try.prog G extS := extH_sound (by simp; exact ⟨okNames, okValues, okPick.lift⟩)
set_option maxRecDepth 100000 in
theorem okSet : ModOK Try.prog G 15 mSet := by
  intro args p v hm hp h
  unfold mSet at hm
  split at hm; rotate_left; · cases hm
  rename_i n f
  obtain ⟨rfl, rfl⟩ := some_pair hm
  obtain ⟨hL, hI⟩ := hp
  generalize decL decI n f = L at hL hI
  refine FnS.args (args' := [listV encI 1 L]) ?_ (.cons hL.le .nil)
  clear hL
  refine fn_S Try.func15 (by kernel_rfl) rfl ?_ h
  refine ExS.evG extS_sound 6 (tSet1 L) ?_
  simp only [holds_rq, holds_leaf, kf_normal, decI_row]
  refine ⟨trivial, trivial, ⟨isL_row _ _ _, hI, by decide⟩, ⟨?_⟩⟩
  refine ExS.loop' (l := dropL 6 (pcs Try.prog Try.f15)) (b := inr (inr (nth .skip (pcs Try.prog Try.f15) 6))) (r := dropL 7 (pcs Try.prog Try.f15)) (id := 0) (by kernel_rfl) (σ := Nat × Int × List (ByteArray × ByteArray))
    (fun (i, w, out) => cst 39 [(0, listV encI 1 L), (3, .c (.sl 0 1 0 6)), (4, .c (.sl 1 1 0 6)), (5, iV w), (6, .c (.sl 2 2 0 out.length)), (7, iV (i : Nat))] [.row 9 1 6 (rowC encS namesL), .row 9 1 6 (rowC encS valuesL), .row 60 2 out.length (rowC enc2 out)]) (fun (i, w, out) => i ≤ 6 ∧ out.length ≤ i ∧ setS L i = (w, out)) (fun (i, _, _) => 6 - i) (0, pickZ L 0 64, []) ⟨by omega, by simp, rfl⟩
    ((weak_nil 60 2 (rowC enc2 []) 6 (by kernel_rfl)).trans (weak_of_eq (by kernel_rfl))) ?_
  rintro ⟨i, w, out⟩ ⟨i6, hlen, hinv⟩ Q1 q1n q1e -
  have hw := setS_range L i
  rw [hinv] at hw
  have hw0 : 0 ≤ w ∧ w < 64 := hw
  have hpk := pickZ_range L ((↑i : Int) + 1) (m := 6) (by omega)
  have hnext : setS L (i + 1) = (w / 2, if w % 2 = 1 then out ++ [(namesL.getD i default, valuesL.getD (pickZ L (↑i + 1) 6).toNat default)] else out) := by
    show ((setS L i).1 / 2, if (setS L i).1 % 2 = 1 then (setS L i).2 ++ [(namesL.getD i default, valuesL.getD (pickZ L (i + 1) 6).toNat default)] else (setS L i).2) = _
    rw [hinv]
  refine ExS.evH extS_sound (tSet2 L w out i) ?_
  simp only [holds_bT, holds_rq, holds_leaf, kf_normal, kf_exit, decI_row, decide_eq_true_eq, decide_eq_false_iff_not, beq_iff_eq, beq_eq_false_iff_ne, inR, show ∀ x : Nat, x + 0 = x from fun _ => rfl]
  refine ⟨fun hlt => ⟨⟨by omega, by decide⟩, fun hb => ⟨⟨by omega, hlt⟩, by omega, by omega, ⟨isL_row _ _ _, hI, by decide⟩, ⟨hpk.1, hpk.2⟩, by omega, trivial, Nat.le_refl _, ⟨by omega, by omega, pair_one _ _⟩, ⟨by omega, by decide, by omega⟩, by omega, ⟨?_⟩⟩, fun hb => ⟨⟨by omega, by decide, by omega⟩, by omega, ⟨?_⟩⟩⟩, fun hge => ⟨q1e _ ?_⟩⟩
  · rw [if_pos hb] at hnext
    refine q1n (i + 1, w / 2, out ++ [(namesL.getD i default, valuesL.getD (pickZ L (↑i + 1) 6).toNat default)]) _ ⟨by omega, by simp; omega, hnext⟩ (by simp only; omega) ?_
    show WeakS G _ ((fun i w out m => cst 39 [(0, listV encI 1 L), (3, .c (.sl 0 1 0 6)), (4, .c (.sl 1 1 0 6)), (5, iV w), (6, .c (.sl 2 2 0 m)), (7, iV (i : Nat))] [.row 9 1 6 (rowC encS namesL), .row 9 1 6 (rowC encS valuesL), .row 60 2 m (rowC enc2 out)]) (i + 1) (w / 2) (out ++ [(namesL.getD i default, valuesL.getD (pickZ L (↑i + 1) 6).toNat default)]) (out ++ [(namesL.getD i default, valuesL.getD (pickZ L (↑i + 1) 6).toNat default)]).length)
    rw [show (out ++ [(namesL.getD i default, valuesL.getD (pickZ L (↑i + 1) 6).toNat default)]).length = out.length + 1 by simp]
    refine weak_cst ?_
    exact ⟨⟨rfl, rfl, rfl, fun _ _ _ _ => rfl⟩, ⟨rfl, rfl, rfl, fun _ _ _ _ => rfl⟩, ⟨rfl, rfl, rfl, fun e o he ho => app1' (ρ := [0, 1, 4]) rfl (pair_at _ _) he ho⟩, trivial⟩
  · rw [if_neg hb] at hnext
    exact q1n (i + 1, w / 2, out) _ ⟨by omega, by omega, hnext⟩ (by simp only; omega) (weak_of_eq (by kernel_rfl))
  · obtain rfl : i = 6 := by omega
    refine ExS.evH ext0_sound (tSet3 L w out 6) ?_
    simp only [holds_rq, holds_leaf, kf_ret']
    refine ⟨⟨by omega, fun _ _ _ _ => rfl⟩, ⟨?_⟩⟩
    have : setL L = out := by unfold setL; rw [hinv]
    rw [this]
    exact VLe.refl _
theorem okSetR (A : List Int) (S0 : List (ByteArray × ByteArray)) : ModHOK Try.prog G 15 (mSetR A S0) := by
  intro args h p v h' he hp
  unfold mSetR at he
  split at he; rotate_left; · cases he
  rename_i h0 id
  split at he; rotate_left; · cases he
  rename_i ty f hid
  obtain ⟨rfl, rfl, rfl⟩ := some_three he
  obtain ⟨⟨h1, h2⟩, h3, rfl⟩ := hp
  have key := frzM_ok (G := G) (okSet (G := G)) [id] [.c (.sl id 1 0 7)] h
  have e1 : ∀ e o, e < 7 → o < 1 → unP (f (e + 0) o) = rowP encI A e o := fun e o he ho => by
    obtain rfl : o = 0 := by omega
    rw [Nat.add_zero, h2 e he]; rfl
  have e2 : decL decI 7 (fun e o => unP (f (e + 0) o)) = A := by
    rw [← decI_row A, h1]
    unfold decL
    apply List.map_congr_left
    intro e he
    rw [List.mem_range] at he
    unfold decI
    show intOfP (unP (f (e + 0) 0)) = _
    rw [e1 e 0 he (by omega)]
  have hs : frzM mSet [id] [.c (.sl id 1 0 7)] h = some ((conVs id 1 7 [.c (.sl id 1 0 7)] ∧ ∀ e o, e < 7 → o < 1 → isF (f e o) = true) ∧ (IsL encI 1 (decL decI 7 (fun e o => unP (f (e + 0) o))) 7 (fun e o => unP (f (e + 0) o)) ∧ Ints (decL decI 7 (fun e o => unP (f (e + 0) o)))), listV enc2 2 (setL (decL decI 7 (fun e o => unP (f (e + 0) o)))), upd .gone h id) := by
    simp only [frzM, hid, List.map_cons, List.map_nil, fzV, fzC, if_true, mSet]
  rw [e2] at hs
  refine key _ _ _ hs ⟨⟨?_, fun e o he ho => ?_⟩, ⟨by rw [h1], e1⟩, h3⟩
  · simp [conVs, conV, conC]
  · obtain rfl : o = 0 := by omega
    rw [h2 e he]; rfl
theorem extAl_sound (A : List Int) (S0 : List (ByteArray × ByteArray)) : SoundExt Try.prog G (extAl A S0) := extH_sound (by simp; exact ⟨okPick.lift, okSetR A S0⟩)
theorem extFw_sound : SoundExt Try.prog G extFw := extH_sound (by simp; exact ⟨okNames, okAround.lift⟩)
set_option maxRecDepth 100000 in
theorem okAlerts : ModOK Try.prog G 5 mAlerts := by
  intro args p v hm hp h
  unfold mAlerts at hm
  split at hm; rotate_left; · cases hm
  rename_i n f
  obtain ⟨rfl, rfl⟩ := some_pair hm
  obtain ⟨hL, hI⟩ := hp
  generalize decL decI n f = L at hL hI
  refine FnS.args (args' := [listV encI 1 L]) ?_ (.cons hL.le .nil)
  clear hL
  have hp0 := pickZ_range L 0 (m := 9) (by omega)
  refine fn_S Try.func5 (by kernel_rfl) rfl ?_ h
  refine ExS.evG ext0_sound 3 (tA1 L) ?_
  simp only [holds_leaf, kf_normal]
  refine ⟨?_⟩
  refine ExS.loop' (l := dropL 3 (pcs Try.prog Try.f5)) (b := inr (inr (nth .skip (pcs Try.prog Try.f5) 3))) (r := dropL 4 (pcs Try.prog Try.f5)) (id := 0) (by kernel_rfl) (σ := Nat)
    (fun i => (fun m out => cst 44 [(0, listV encI 1 L), (3, .c (.sl 0 6 0 m)), (4, iV (i : Nat))] [.row 37 6 m (rowC encAl out)]) i (alS L i)) (fun i => (i : Int) ≤ pickZ L 0 9) (fun i => 9 - i) 0 (by omega) ((weak_nil 37 6 (rowC encAl []) 3 (by kernel_rfl)).trans (weak_of_eq (by kernel_rfl))) ?_
  intro i hi Q1 q1n q1e _
  refine ExS.evG (extAl_sound [] []) 2 (tA2 [] [] L (alS L i) i i) ?_
  simp only [holds_bT, holds_rq, holds_leaf, kf_normal, kf_exit, decI_row, decide_eq_true_eq, decide_eq_false_iff_not]
  refine ⟨⟨isL_row _ _ _, hI, by decide⟩, fun h1 => ⟨?_⟩, fun h1 => ⟨q1e _ ?_⟩⟩
  · refine ExS.blk' (l := dropL 2 (lpB (pcs Try.prog Try.f5) 3)) (id := 1) (a := inr (nth .skip (lpB (pcs Try.prog Try.f5) 3) 2)) (r := dropL 3 (lpB (pcs Try.prog Try.f5) 3)) (by kernel_rfl) ?_
    intro Q2 q2n _ _
    refine ExS.evG (extAl_sound [] []) 1 (tA4 [] [] L (alS L i) i i) ?_
    simp only [holds_rq, holds_leaf, kf_normal, decI_row, inR]
    refine ⟨by omega, ⟨isL_row _ _ _, hI, by decide⟩, ⟨?_⟩⟩
    have hx := pickZ_range L ((i : Int) + 1) (m := 100000) (by omega)
    have hS : alS L (i + 1) = alS L i ++ [setL (alNum (pickZ L ((i : Int) + 1) 100000))] := rfl
    generalize pickZ L ((i : Int) + 1) 100000 = x at hx hS
    refine ExS.evG (extAl_sound (alNum x) (setL (alNum x))) 1 (tA5 (alNum x) (setL (alNum x)) L x (alS L i) i i) ?_
    simp only [holds_rq, holds_leaf, kf_normal, inR, ofn_lt]
    refine ⟨by omega, by omega, by omega, by omega, by omega, by omega, by omega, by omega, by omega, by omega, by omega, by omega, ⟨alNum_row x, alNum_ints hx.1 hx.2, trivial⟩, ⟨?_⟩⟩
    refine ExS.pre (weak_of_eq (by kernel_rfl)) (ExS.evH ext0_sound (tA7 (setL (alNum x)) L (alS L i) i i) ?_)
    simp only [holds_rq, holds_leaf, kf_normal]
    refine ⟨trivial, Nat.le_refl _, ⟨by omega, by omega, al_one _⟩, ⟨q2n _ ?_⟩⟩
    refine ExS.pre (st2 := (fun m out => cst 44 [(0, listV encI 1 L), (3, .c (.sl 0 6 0 m)), (4, iV (i : Nat))] [.row 37 6 m (rowC encAl out)]) (i + 1) (alS L (i + 1))) ?_ ?_
    · rw [hS]
      refine weak_cst ?_
      exact ⟨⟨rfl, rfl, rfl, fun e o he ho => app1' (ρ := [2]) (alS_length L i) (al_at _) he ho⟩, trivial⟩
    · refine ExS.evH ext0_sound (tA6 [] L (alS L (i + 1)) (i + 1) i) ?_
      simp only [holds_rq, holds_leaf, kf_normal, inR]
      exact ⟨by omega, ⟨q1n (i + 1) _ (by omega) (by omega) (weak_of_eq (by kernel_rfl))⟩⟩
  · have he : (pickZ L 0 9).toNat = i := by omega
    refine ExS.evH ext0_sound (tA3 L (alS L i) i i) ?_
    simp only [holds_rq, holds_leaf, kf_ret']
    refine ⟨⟨by omega, fun _ _ _ _ => rfl⟩, ⟨?_⟩⟩
    have : alL L = alS L i := by unfold alL; rw [he]
    rw [this]
    unfold listV listP
    rw [alS_length]
    exact VLe.refl _
set_option maxRecDepth 100000 in
theorem few_fn {N : List ByteArray} {w : Int} (hw : inR .i64 w) (h : List AO) : FnS Try.prog G 6 [listV encS 1 N, iV w] h fun x h' => x = .c (.sl (lenL h) 1 0 (fewL N w).length) ∧ h' = snoc (.row 9 1 (fewL N w).length fun e o => .p (rowP encS (fewL N w) e o)) h := by
  have hb := aroundZ_range (n := w) (m := 64) (by omega)
  refine fn_rowS (r := 4) (pre := (takeL 9 (pcs Try.prog Try.f6))) Try.func6 (by kernel_rfl) (by kernel_rfl) (by kernel_rfl) rfl ?_ h
  refine ExS.evG extFw_sound 3 (tF1 N w) ?_
  simp only [holds_leaf, kf_normal]
  refine ⟨?_⟩
  refine ExS.loop' (l := dropL 3 (takeL 9 (pcs Try.prog Try.f6))) (b := inr (inr (nth .skip (takeL 9 (pcs Try.prog Try.f6)) 3))) (r := dropL 4 (takeL 9 (pcs Try.prog Try.f6))) (id := 0) (by kernel_rfl) (σ := Nat)
    (fun i => (fun m out => cst 49 [(0, listV encS 1 N), (1, iV w), (5, .c (.sl 0 1 0 m)), (6, iV (i : Nat))] [.row 9 1 m (rowC encS out)]) (N.take i).length (N.take i)) (fun i => i ≤ 3 ∧ i ≤ N.length) (fun i => 3 - i) 0 (by omega) ((weak_nil 9 1 (rowC encS []) 5 (by kernel_rfl)).trans (weak_of_eq (by kernel_rfl))) ?_
  intro i hi Q1 q1n q1e _
  refine ExS.evH extFw_sound (tF2 N (N.take i) w (N.take i).length i) ?_
  have hti : (N.take i).length = i := by rw [List.length_take]; omega
  have good : i < N.length → i < 3 → ∀ st, WeakS G st ((fun m out i => cst 49 [(0, listV encS 1 N), (1, iV w), (5, .c (.sl 0 1 0 m)), (6, iV (i : Nat))] [.row 9 1 m (rowC encS out)]) ((N.take i).length + 1) (N.take i ++ [N.getD i default]) (i + 1)) → Q1 .normal st := fun h1 h2 st hst => by
    refine q1n (i + 1) st (by omega) (by omega) ?_
    have e1 : N.take (i + 1) = N.take i ++ [N.getD i default] := by
      rw [List.take_add_one, List.getD_eq_getElem?_getD, List.getElem?_eq_getElem h1]; rfl
    show WeakS G st ((fun m out i => cst 49 [(0, listV encS 1 N), (1, iV w), (5, .c (.sl 0 1 0 m)), (6, iV (i : Nat))] [.row 9 1 m (rowC encS out)]) (N.take (i + 1)).length (N.take (i + 1)) (i + 1))
    rw [e1, show (N.take i ++ [N.getD i default]).length = (N.take i).length + 1 by simp]
    exact hst
  have after : (¬ i < N.length ∨ ¬ i < 3) → ExS Try.prog G [] vF (dropL 4 (takeL 9 (pcs Try.prog Try.f6))) ((fun m out => cst 49 [(0, listV encS 1 N), (1, iV w), (5, .c (.sl 0 1 0 m)), (6, iV (i : Nat))] [.row 9 1 m (rowC encS out)]) (N.take i).length (N.take i)) (fun e st => e = .normal ∧ RowEnd 4 9 1 (fewL N w).length (rowP encS (fewL N w)) .ret st) := fun hge => by
    have e0 : N.take i = N.take 3 := by
      rcases hge with h | h
      · rw [List.take_of_length_le (by omega), List.take_of_length_le (by omega)]
      · rw [show i = 3 by omega]
    rw [e0]
    have h3 : (N.take 3).length ≤ 3 := by rw [List.length_take]; omega
    refine ExS.evG extFw_sound 3 (tF3 N (N.take 3) w (N.take 3).length i) ?_
    simp only [holds_rq, holds_leaf, kf_normal, inR]
    refine ⟨⟨hw, by decide⟩, trivial, ⟨?_⟩⟩
    generalize hbb : aroundZ w 64 = b at hb
    have hfew : fewL N w = N.take 3 ++ (fewS b 6).2 := by unfold fewL; rw [hbb]
    rw [hfew]
    refine ExS.loop' (l := dropL 7 (takeL 9 (pcs Try.prog Try.f6))) (b := inr (inr (nth .skip (takeL 9 (pcs Try.prog Try.f6)) 7))) (r := dropL 8 (takeL 9 (pcs Try.prog Try.f6))) (id := 2) (by kernel_rfl) (σ := Nat)
      (fun i => (fun m out b => cst 49 [(5, .c (.sl 0 1 0 m)), (7, iV b), (8, .c (.sl 1 1 0 6)), (9, iV (i : Nat))] [.row 9 1 m (rowC encS out), .row 9 1 6 (rowC encS namesL)]) (N.take 3 ++ (fewS b i).2).length (N.take 3 ++ (fewS b i).2) (fewS b i).1) (fun i => i ≤ 6) (fun i => 6 - i) 0 (Nat.zero_le _) ?_ ?_
    · show WeakS G _ ((fun m out b i => cst 49 [(5, .c (.sl 0 1 0 m)), (7, iV b), (8, .c (.sl 1 1 0 6)), (9, iV (i : Nat))] [.row 9 1 m (rowC encS out), .row 9 1 6 (rowC encS namesL)]) (N.take 3 ++ []).length (N.take 3 ++ []) b 0)
      rw [List.append_nil]
      exact weak_of_eq (by kernel_rfl)
    intro j hj Q3 q3n q3e _
    have hr := fewS_range hb j
    have hl := fewS_len b j
    have hlen : (N.take 3 ++ (fewS b j).2).length ≤ 9 := by rw [List.length_append]; omega
    have hsu : fewS b (j + 1) = ((fewS b j).1 / 2, if (fewS b j).1 % 2 = 1 then (fewS b j).2 ++ [namesL.getD j default] else (fewS b j).2) := rfl
    refine ExS.evH extFw_sound (tF4 (N.take 3 ++ (fewS b j).2) (fewS b j).1 (N.take 3 ++ (fewS b j).2).length j) ?_
    simp only [holds_bT, holds_rq, holds_leaf, kf_normal, kf_exit, decide_eq_true_eq, decide_eq_false_iff_not, beq_iff_eq, beq_eq_false_iff_ne, inR, ofn_lt, show (↑j : Int).toNat = j from rfl, show ∀ x : Nat, x + 0 = x from fun _ => rfl]
    refine ⟨fun h1 => ⟨by omega, fun c1 => ⟨by omega, by omega, trivial, Nat.le_refl _, ⟨by omega, by omega, str_one _⟩, by omega, by omega, ⟨q3n (j + 1) _ (by omega) (by omega) ?_⟩⟩, fun c1 => ⟨by omega, by omega, ⟨q3n (j + 1) _ (by omega) (by omega) ?_⟩⟩⟩, fun h1 => ⟨q3e _ ?_⟩⟩
    · show WeakS G _ ((fun m out b i => cst 49 [(5, .c (.sl 0 1 0 m)), (7, iV b), (8, .c (.sl 1 1 0 6)), (9, iV (i : Nat))] [.row 9 1 m (rowC encS out), .row 9 1 6 (rowC encS namesL)]) (N.take 3 ++ (fewS b (j + 1)).2).length (N.take 3 ++ (fewS b (j + 1)).2) (fewS b (j + 1)).1 (j + 1))
      rw [hsu, if_pos c1]
      simp only []
      rw [← List.append_assoc, show (N.take 3 ++ (fewS b j).2 ++ [namesL.getD j default]).length = (N.take 3 ++ (fewS b j).2).length + 1 by simp only [List.length_append, List.length_cons, List.length_nil]]
      refine weak_cst ?_
      exact ⟨⟨rfl, rfl, rfl, fun e o he ho => app1' rfl (str_at _) he ho⟩, ⟨rfl, rfl, rfl, fun _ _ _ _ => rfl⟩, trivial⟩
    · show WeakS G _ ((fun m out b i => cst 49 [(5, .c (.sl 0 1 0 m)), (7, iV b), (8, .c (.sl 1 1 0 6)), (9, iV (i : Nat))] [.row 9 1 m (rowC encS out), .row 9 1 6 (rowC encS namesL)]) (N.take 3 ++ (fewS b (j + 1)).2).length (N.take 3 ++ (fewS b (j + 1)).2) (fewS b (j + 1)).1 (j + 1))
      rw [hsu, if_neg c1]
      exact weak_of_eq (by kernel_rfl)
    · obtain rfl : j = 6 := by omega
      refine ExS.evH ext0_sound (tF5 (N.take 3 ++ (fewS b 6).2) (fewS b 6).1 (N.take 3 ++ (fewS b 6).2).length 6) ?_
      simp only [holds_leaf, kf_normal]
      exact ⟨trivial, by simp, 0, _, rfl, rfl, fun e o he ho => rfl⟩
  simp only [holds_bT, holds_rq, holds_leaf, kf_normal, kf_exit, decide_eq_true_eq, decide_eq_false_iff_not, inR, ofn_lt, show (↑i : Int).toNat = i from rfl, show ∀ x : Nat, x + 0 = x from fun _ => rfl, Bool.false_eq_true, Bool.true_eq_false, false_imp_iff, true_imp_iff, and_true, true_and]
  refine ⟨fun h1 => ⟨fun h2 => ⟨by omega, Nat.le_refl _, ⟨by omega, by omega, str_one _⟩, by omega, ⟨good (by omega) (by omega) _ ?_⟩⟩, fun h2 => ⟨q1e _ (ExS.pre (weak_of_eq (by kernel_rfl)) (after (.inr (by omega))))⟩⟩, fun h1 => ⟨q1e _ (ExS.pre (weak_of_eq (by kernel_rfl)) (after (.inl (by omega))))⟩⟩
  refine weak_cst ?_
  exact ⟨⟨rfl, rfl, rfl, fun e o he ho => app1' (ρ := [2]) rfl (str_at _) he ho⟩, trivial⟩
theorem okFewH : ModHOK Try.prog G 6 mFewH := by
  intro args h p v h' hm hp
  unfold mFewH at hm
  split at hm
  · rename_i n f w
    obtain ⟨rfl, rfl, rfl⟩ := some_three hm
    obtain ⟨hL, hw⟩ := hp
    generalize decL decS n f = N at hL
    exact FnS.args (few_fn (N := N) hw _) (.cons hL.le (.cons (.refl _) .nil))
  · rename_i w
    obtain ⟨rfl, rfl, rfl⟩ := some_three hm
    exact FnS.args (few_fn (N := []) hp _) (.cons (VLe.p (PLe.nil 1 (rowP encS []))) (.cons (.refl _) .nil))
  · cases hm
end
end Go.AE
