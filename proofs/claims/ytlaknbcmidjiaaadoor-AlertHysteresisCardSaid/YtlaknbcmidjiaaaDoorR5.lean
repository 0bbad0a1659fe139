/- AE contracts: ref05.Set, ref05.Dirty. -/
import Derived.Test.YtlaknbcmidjiaaaDoorR4
import Derived.Test.YtlaknbcmidjiaaaDoorAeC
namespace Go.AE
open Go.Proofs Go.Proofs.YtlaknbcmidjiaaaDoor

def setS (L : List Int) : Nat → Int × List (ByteArray × ByteArray)
  | 0 => (pickZ L 0 64, [])
  | i + 1 => ((setS L i).1 / 2, if (setS L i).1 % 2 = 1 then (setS L i).2 ++ [(namesL.getD i default, valuesL.getD (pickZ L (i + 1) 6).toNat default)] else (setS L i).2)
def setL (L : List Int) : List (ByteArray × ByteArray) := (setS L 6).2
def names16 : List ByteArray := namesL ++ [⟨#[]⟩, ⟨#[65]⟩, ⟨#[49, 97]⟩, ⟨#[97, 45, 98]⟩, ⟨#[97, 98, 99, 100, 101, 102, 103, 104, 105, 106, 107, 108, 109, 110, 111, 112]⟩, ⟨#[97, 98, 99, 100, 101, 102, 103, 104, 105, 106, 107, 108, 109, 110, 111, 112, 113]⟩, ⟨#[99]⟩, ⟨#[100]⟩, ⟨#[101]⟩, ⟨#[95, 97]⟩]
def values14 : List ByteArray := valuesL ++ [⟨#[]⟩, ⟨#[32]⟩, ⟨#[97, 44]⟩, ⟨#[97, 98, 99, 100, 101, 102, 103, 104, 105, 106, 107, 108, 109, 110, 111, 112]⟩, ⟨#[97, 98, 99, 100, 101, 102, 103, 104, 105, 106, 107, 108, 109, 110, 111, 112, 113]⟩, ⟨#[127]⟩, ⟨#[123]⟩, ⟨#[92]⟩]
def dirN (L : List Int) (i m : Int) : Nat := (if m ≤ pickZ L i (4 * m) then pickZ L i (4 * m) % 6 else pickZ L i (4 * m)).toNat
def dirS (L : List Int) : Nat → List (ByteArray × ByteArray)
  | 0 => []
  | i + 1 => dirS L i ++ [(names16.getD (dirN L (2 * i + 1) 16) default, values14.getD (dirN L (2 * i + 2) 14) default)]
def dirL (L : List Int) : List (ByteArray × ByteArray) := dirS L (pickZ L 0 11).toNat
def mSet : Mod
  | [.c (.p (.l 1 n f))] => some (IsL encI 1 (decL decI n f) n f ∧ Ints (decL decI n f), listV enc2 2 (setL (decL decI n f)))
  | _ => none
def mDirty : Mod
  | [.c (.p (.l 1 n f))] => some (IsL encI 1 (decL decI n f) n f ∧ Ints (decL decI n f), listV enc2 2 (dirL (decL decI n f)))
  | _ => none
def extS : Ext := extH [(63, mNames), (64, mValues), (38, liftM mPick)]

theorem tSet1 (L : List Int) : exTs extS (takeL 6 (pcs Tryd.prog Tryd.f42)) (st0 Tryd.f42 [listV encI 1 L]) (endG (msk 39 [0, 3, 4, 5, 6, 7]) (resOf Tryd.prog Tryd.f42)) = Tr.rq True
    (Tr.rq True
      (Tr.rq (IsL encI 1 (decL decI L.length (rowP encI L)) L.length (rowP encI L) ∧ Ints (decL decI L.length (rowP encI L)) ∧ Int.ofNat 0 < Int.ofNat 64)
        (Tr.done X.normal
          (cst 39 [(0, V.c (C.p (PV.l 1 L.length (rowP encI L)))), (3, V.c (C.sl 0 1 0 6)), (4, V.c (C.sl 1 1 0 6)), (5, V.c (C.p (PV.i IntKind.i64 (pickZ (decL decI L.length (rowP encI L)) 0 64)))), (6, V.c (C.p (PV.z (Value.slice none 0 0)))), (7, V.c (C.p (PV.i IntKind.i64 0)))] [AO.row 9 1 6 fun e o => renC [0, 1] (C.p (PV.s (namesL.getD e default))), AO.row 9 1 6 fun e o => renC [0, 1] (C.p (PV.s (valuesL.getD e default)))])))) := by kernel_rfl
theorem tSet2 (L : List Int) (w : Int) (out : List (ByteArray × ByteArray)) (i : Nat) : exTs extS (lpB (pcs Tryd.prog Tryd.f42) 6) (cst 39 [(0, listV encI 1 L), (3, .c (.sl 0 1 0 6)), (4, .c (.sl 1 1 0 6)), (5, iV w), (6, .c (.sl 2 2 0 out.length)), (7, iV (i : Nat))] [.row 9 1 6 (rowC encS namesL), .row 9 1 6 (rowC encS valuesL), .row 35 2 out.length (rowC enc2 out)]) (endG (msk 39 [0, 3, 4, 5, 6, 7]) (resOf Tryd.prog Tryd.f42)) = bT (decide ((↑i : Int) < (↑6 : Int)))
    (Tr.rq (0 ≤ w ∧ Int.ofNat 0 < Int.ofNat 2)
      (bT (w % 2 == 1)
        (Tr.rq (0 ≤ (↑i : Int) ∧ (↑i : Int) < (↑6 : Int))
          (Tr.rq ((↑i : Int).toNat + 0 < 6)
            (Tr.rq (inR IntKind.i64 ((↑i : Int) + 1))
              (Tr.rq (IsL encI 1 (decL decI L.length (rowP encI L)) L.length (rowP encI L) ∧ Ints (decL decI L.length (rowP encI L)) ∧ Int.ofNat 0 < Int.ofNat 6)
                (Tr.rq (0 ≤ pickZ (decL decI L.length (rowP encI L)) ((↑i : Int) + 1) 6 ∧ pickZ (decL decI L.length (rowP encI L)) ((↑i : Int) + 1) 6 < (↑6 : Int))
                  (Tr.rq ((pickZ (decL decI L.length (rowP encI L)) ((↑i : Int) + 1) 6).toNat + 0 < 6)
                    (Tr.rq (out.length = out.length)
                      (Tr.rq (1 ≤ 1)
                        (Tr.rq
                          ((out.length + 1) * 32 ≤ 140737488355328 ∧
                            out.length + 1 ≤ 140737488355328 ∧
                              ∀ (e o : Nat),
                                e < 1 →
                                  o < 2 →
                                    oneC
                                        (nth C.top
                                          [C.p (PV.s (namesL.getD ((↑i : Int).toNat + 0) default)),
                                            C.p (PV.s (valuesL.getD ((pickZ (decL decI L.length (rowP encI L)) ((↑i : Int) + 1) 6).toNat + 0) default))]
                                          ((e + 0) * 2 + o)) =
                                      true)
                          (Tr.rq (0 ≤ w ∧ Int.ofNat 0 < Int.ofNat 2 ∧ inR IntKind.i64 (w / 2))
                            (Tr.rq (inR IntKind.i64 ((↑i : Int) + 1))
                              (Tr.done X.normal
                                (cst 39 [(0, V.c (C.p (PV.l 1 L.length (rowP encI L)))), (3, V.c (C.sl 0 1 0 6)), (4, V.c (C.sl 1 1 0 6)), (5, V.c (C.p (PV.i IntKind.i64 (w / 2)))), (6, V.c (C.sl 2 2 0 (out.length + 1))), (7, V.c (C.p (PV.i IntKind.i64 ((↑i : Int) + 1))))] [AO.row 9 1 6 fun e o => renC [0, 1, 4] (rowC encS namesL e o), AO.row 9 1 6 fun e o => renC [0, 1, 4] (rowC encS valuesL e o), AO.row 35 2 (out.length + 1) fun e o => renC [0, 1, 4] (appF out.length (rowC enc2 out) (fun e o => nth C.top [C.p (PV.s (namesL.getD ((↑i : Int).toNat + 0) default)), C.p (PV.s (valuesL.getD ((pickZ (decL decI L.length (rowP encI L)) ((↑i : Int) + 1) 6).toNat + 0) default))] ((e + 0) * 2 + o)) e o)])))))))))))))
        (Tr.rq (0 ≤ w ∧ Int.ofNat 0 < Int.ofNat 2 ∧ inR IntKind.i64 (w / 2))
          (Tr.rq (inR IntKind.i64 ((↑i : Int) + 1))
            (Tr.done X.normal
              (cst 39 [(0, V.c (C.p (PV.l 1 L.length (rowP encI L)))), (3, V.c (C.sl 0 1 0 6)), (4, V.c (C.sl 1 1 0 6)), (5, V.c (C.p (PV.i IntKind.i64 (w / 2)))), (6, V.c (C.sl 2 2 0 out.length)), (7, V.c (C.p (PV.i IntKind.i64 ((↑i : Int) + 1))))] [AO.row 9 1 6 fun e o => renC [0, 1, 2] (rowC encS namesL e o), AO.row 9 1 6 fun e o => renC [0, 1, 2] (rowC encS valuesL e o), AO.row 35 2 out.length fun e o => renC [0, 1, 2] (rowC enc2 out e o)]))))))
    (Tr.done (X.exit 0)
      (cst 39 [(0, V.c (C.p (PV.l 1 L.length (rowP encI L)))), (3, V.c (C.sl 0 1 0 6)), (4, V.c (C.sl 1 1 0 6)), (5, V.c (C.p (PV.i IntKind.i64 w))), (6, V.c (C.sl 2 2 0 out.length)), (7, V.c (C.p (PV.i IntKind.i64 (↑i : Int))))] [AO.row 9 1 6 fun e o => renC [0, 1, 2] (rowC encS namesL e o), AO.row 9 1 6 fun e o => renC [0, 1, 2] (rowC encS valuesL e o), AO.row 35 2 out.length fun e o => renC [0, 1, 2] (rowC enc2 out e o)])) := by kernel_rfl
theorem tSet3 (L : List Int) (w : Int) (out : List (ByteArray × ByteArray)) (i : Nat) : exTs ext0 (dropL 7 (pcs Tryd.prog Tryd.f42)) (cst 39 [(0, listV encI 1 L), (3, .c (.sl 0 1 0 6)), (4, .c (.sl 1 1 0 6)), (5, iV w), (6, .c (.sl 2 2 0 out.length)), (7, iV (i : Nat))] [.row 9 1 6 (rowC encS namesL), .row 9 1 6 (rowC encS valuesL), .row 35 2 out.length (rowC enc2 out)]) (endG [] (resOf Tryd.prog Tryd.f42)) = Tr.rq (0 + out.length ≤ out.length ∧ ∀ (e o : Nat), e < out.length → o < 2 → isP (rowC enc2 out (e + 0) o) = true)
    (Tr.done X.ret (St.mk [V.c (C.p (PV.l 2 out.length fun e o => unP (rowC enc2 out (e + 0) o)))] [])) := by kernel_rfl
theorem tDir1 (L : List Int) : exTs extS (takeL 5 (pcs Tryd.prog Tryd.f43)) (st0 Tryd.f43 [listV encI 1 L]) (endG (msk 62 [0, 3, 4, 5, 6]) (resOf Tryd.prog Tryd.f43)) = Tr.rq True
    (Tr.rq (6 = 6)
      (Tr.rq (10 ≤ 10)
        (Tr.rq
          (256 ≤ 140737488355328 ∧
            16 ≤ 140737488355328 ∧
              ∀ (e o : Nat),
                e < 10 →
                  o < 1 →
                    oneC
                        (nth C.top
                          [C.p (PV.s (ByteArray.mk #[])), C.p (PV.s (ByteArray.mk #[65])), C.p (PV.s (ByteArray.mk #[49, 97])), C.p (PV.s (ByteArray.mk #[97, 45, 98])),
                            C.p (PV.s (ByteArray.mk #[97, 98, 99, 100, 101, 102, 103, 104, 105, 106, 107, 108, 109, 110, 111, 112])),
                            C.p (PV.s (ByteArray.mk #[97, 98, 99, 100, 101, 102, 103, 104, 105, 106, 107, 108, 109, 110, 111, 112, 113])), C.p (PV.s (ByteArray.mk #[99])),
                            C.p (PV.s (ByteArray.mk #[100])), C.p (PV.s (ByteArray.mk #[101])), C.p (PV.s (ByteArray.mk #[95, 97]))]
                          ((e + 0) * 1 + o)) =
                      true)
          (Tr.rq True
            (Tr.rq (6 = 6)
              (Tr.rq (8 ≤ 8)
                (Tr.rq
                  (224 ≤ 140737488355328 ∧
                    14 ≤ 140737488355328 ∧
                      ∀ (e o : Nat),
                        e < 8 →
                          o < 1 →
                            oneC
                                (nth C.top
                                  [C.p (PV.s (ByteArray.mk #[])), C.p (PV.s (ByteArray.mk #[32])), C.p (PV.s (ByteArray.mk #[97, 44])),
                                    C.p (PV.s (ByteArray.mk #[97, 98, 99, 100, 101, 102, 103, 104, 105, 106, 107, 108, 109, 110, 111, 112])),
                                    C.p (PV.s (ByteArray.mk #[97, 98, 99, 100, 101, 102, 103, 104, 105, 106, 107, 108, 109, 110, 111, 112, 113])), C.p (PV.s (ByteArray.mk #[127])),
                                    C.p (PV.s (ByteArray.mk #[123])), C.p (PV.s (ByteArray.mk #[92]))]
                                  ((e + 0) * 1 + o)) =
                              true)
                  (Tr.done X.normal
                    (cst 62 [(0, V.c (C.p (PV.l 1 L.length (rowP encI L)))), (3, V.c (C.sl 0 1 0 16)), (4, V.c (C.sl 1 1 0 14)), (5, V.c (C.p (PV.z (Value.slice none 0 0)))), (6, V.c (C.p (PV.i IntKind.i64 0)))] [AO.row 9 1 16 fun e o => renC [2, 5] (appF 6 (fun e o => C.p (PV.s (namesL.getD e default))) (fun e o => nth C.top [C.p (PV.s (ByteArray.mk #[])), C.p (PV.s (ByteArray.mk #[65])), C.p (PV.s (ByteArray.mk #[49, 97])), C.p (PV.s (ByteArray.mk #[97, 45, 98])), C.p (PV.s (ByteArray.mk #[97, 98, 99, 100, 101, 102, 103, 104, 105, 106, 107, 108, 109, 110, 111, 112])), C.p (PV.s (ByteArray.mk #[97, 98, 99, 100, 101, 102, 103, 104, 105, 106, 107, 108, 109, 110, 111, 112, 113])), C.p (PV.s (ByteArray.mk #[99])), C.p (PV.s (ByteArray.mk #[100])), C.p (PV.s (ByteArray.mk #[101])), C.p (PV.s (ByteArray.mk #[95, 97]))] ((e + 0) * 1 + o)) e o), AO.row 9 1 14 fun e o => renC [2, 5] (appF 6 (fun e o => C.p (PV.s (valuesL.getD e default))) (fun e o => nth C.top [C.p (PV.s (ByteArray.mk #[])), C.p (PV.s (ByteArray.mk #[32])), C.p (PV.s (ByteArray.mk #[97, 44])), C.p (PV.s (ByteArray.mk #[97, 98, 99, 100, 101, 102, 103, 104, 105, 106, 107, 108, 109, 110, 111, 112])), C.p (PV.s (ByteArray.mk #[97, 98, 99, 100, 101, 102, 103, 104, 105, 106, 107, 108, 109, 110, 111, 112, 113])), C.p (PV.s (ByteArray.mk #[127])), C.p (PV.s (ByteArray.mk #[123])), C.p (PV.s (ByteArray.mk #[92]))] ((e + 0) * 1 + o)) e o)]))))))))) := by kernel_rfl
theorem tDir2 (L : List Int) (out : List (ByteArray × ByteArray)) (i : Nat) : exTs extS (lpB (pcs Tryd.prog Tryd.f43) 5) (cst 62 [(0, listV encI 1 L), (3, .c (.sl 0 1 0 16)), (4, .c (.sl 1 1 0 14)), (5, .c (.sl 2 2 0 out.length)), (6, iV (i : Nat))] [.row 9 1 16 (rowC encS names16), .row 9 1 14 (rowC encS values14), .row 35 2 out.length (rowC enc2 out)]) (endG (msk 62 [0, 3, 4, 5, 6]) (resOf Tryd.prog Tryd.f43)) = Tr.rq (IsL encI 1 (decL decI L.length (rowP encI L)) L.length (rowP encI L) ∧ Ints (decL decI L.length (rowP encI L)) ∧ Int.ofNat 0 < Int.ofNat 11)
    (bT (decide ((↑i : Int) < pickZ (decL decI L.length (rowP encI L)) 0 11))
      (Tr.rq (inR IntKind.i64 (2 * (↑i : Int)))
        (Tr.rq (inR IntKind.i64 (2 * (↑i : Int) + 1))
          (Tr.rq (inR IntKind.i64 (4 * (↑16 : Int)))
            (Tr.rq (IsL encI 1 (decL decI L.length (rowP encI L)) L.length (rowP encI L) ∧ Ints (decL decI L.length (rowP encI L)) ∧ 0 < 4 * (↑16 : Int))
              (bT (decide ((↑16 : Int) ≤ pickZ (decL decI L.length (rowP encI L)) (2 * (↑i : Int) + 1) (4 * (↑16 : Int))))
                (Tr.rq (0 ≤ pickZ (decL decI L.length (rowP encI L)) (2 * (↑i : Int) + 1) (4 * (↑16 : Int)) ∧ Int.ofNat 0 < Int.ofNat 6)
                  (Tr.rq (inR IntKind.i64 (2 * (↑i : Int)))
                    (Tr.rq (inR IntKind.i64 (2 * (↑i : Int) + 2))
                      (Tr.rq (inR IntKind.i64 (4 * (↑14 : Int)))
                        (Tr.rq (IsL encI 1 (decL decI L.length (rowP encI L)) L.length (rowP encI L) ∧ Ints (decL decI L.length (rowP encI L)) ∧ 0 < 4 * (↑14 : Int))
                          (bT (decide ((↑14 : Int) ≤ pickZ (decL decI L.length (rowP encI L)) (2 * (↑i : Int) + 2) (4 * (↑14 : Int))))
                            (Tr.rq (0 ≤ pickZ (decL decI L.length (rowP encI L)) (2 * (↑i : Int) + 2) (4 * (↑14 : Int)) ∧ Int.ofNat 0 < Int.ofNat 6)
                              (Tr.rq
                                (0 ≤ pickZ (decL decI L.length (rowP encI L)) (2 * (↑i : Int) + 1) (4 * (↑16 : Int)) % 6 ∧
                                  pickZ (decL decI L.length (rowP encI L)) (2 * (↑i : Int) + 1) (4 * (↑16 : Int)) % 6 < (↑16 : Int))
                                (Tr.rq ((pickZ (decL decI L.length (rowP encI L)) (2 * (↑i : Int) + 1) (4 * (↑16 : Int)) % 6).toNat + 0 < 16)
                                  (Tr.rq
                                    (0 ≤ pickZ (decL decI L.length (rowP encI L)) (2 * (↑i : Int) + 2) (4 * (↑14 : Int)) % 6 ∧
                                      pickZ (decL decI L.length (rowP encI L)) (2 * (↑i : Int) + 2) (4 * (↑14 : Int)) % 6 < (↑14 : Int))
                                    (Tr.rq ((pickZ (decL decI L.length (rowP encI L)) (2 * (↑i : Int) + 2) (4 * (↑14 : Int)) % 6).toNat + 0 < 14)
                                      (Tr.rq (out.length = out.length)
                                        (Tr.rq (1 ≤ 1)
                                          (Tr.rq
                                            ((out.length + 1) * 32 ≤ 140737488355328 ∧
                                              out.length + 1 ≤ 140737488355328 ∧
                                                ∀ (e o : Nat),
                                                  e < 1 →
                                                    o < 2 →
                                                      oneC
                                                          (nth C.top
                                                            [C.p (PV.s (names16.getD ((pickZ (decL decI L.length (rowP encI L)) (2 * (↑i : Int) + 1) (4 * (↑16 : Int)) % 6).toNat + 0) default)),
                                                              C.p (PV.s (values14.getD ((pickZ (decL decI L.length (rowP encI L)) (2 * (↑i : Int) + 2) (4 * (↑14 : Int)) % 6).toNat + 0) default))]
                                                            ((e + 0) * 2 + o)) =
                                                        true)
                                            (Tr.rq (inR IntKind.i64 ((↑i : Int) + 1))
                                              (Tr.done X.normal
                                                (cst 62 [(0, V.c (C.p (PV.l 1 L.length (rowP encI L)))), (3, V.c (C.sl 0 1 0 16)), (4, V.c (C.sl 1 1 0 14)), (5, V.c (C.sl 2 2 0 (out.length + 1))), (6, V.c (C.p (PV.i IntKind.i64 ((↑i : Int) + 1))))] [AO.row 9 1 16 fun e o => renC [0, 1, 4] (rowC encS names16 e o), AO.row 9 1 14 fun e o => renC [0, 1, 4] (rowC encS values14 e o), AO.row 35 2 (out.length + 1) fun e o => renC [0, 1, 4] (appF out.length (rowC enc2 out) (fun e o => nth C.top [C.p (PV.s (names16.getD ((pickZ (decL decI L.length (rowP encI L)) (2 * (↑i : Int) + 1) (4 * (↑16 : Int)) % 6).toNat + 0) default)), C.p (PV.s (values14.getD ((pickZ (decL decI L.length (rowP encI L)) (2 * (↑i : Int) + 2) (4 * (↑14 : Int)) % 6).toNat + 0) default))] ((e + 0) * 2 + o)) e o)])))))))))))
                            (Tr.rq
                              (0 ≤ pickZ (decL decI L.length (rowP encI L)) (2 * (↑i : Int) + 1) (4 * (↑16 : Int)) % 6 ∧
                                pickZ (decL decI L.length (rowP encI L)) (2 * (↑i : Int) + 1) (4 * (↑16 : Int)) % 6 < (↑16 : Int))
                              (Tr.rq ((pickZ (decL decI L.length (rowP encI L)) (2 * (↑i : Int) + 1) (4 * (↑16 : Int)) % 6).toNat + 0 < 16)
                                (Tr.rq
                                  (0 ≤ pickZ (decL decI L.length (rowP encI L)) (2 * (↑i : Int) + 2) (4 * (↑14 : Int)) ∧
                                    pickZ (decL decI L.length (rowP encI L)) (2 * (↑i : Int) + 2) (4 * (↑14 : Int)) < (↑14 : Int))
                                  (Tr.rq ((pickZ (decL decI L.length (rowP encI L)) (2 * (↑i : Int) + 2) (4 * (↑14 : Int))).toNat + 0 < 14)
                                    (Tr.rq (out.length = out.length)
                                      (Tr.rq (1 ≤ 1)
                                        (Tr.rq
                                          ((out.length + 1) * 32 ≤ 140737488355328 ∧
                                            out.length + 1 ≤ 140737488355328 ∧
                                              ∀ (e o : Nat),
                                                e < 1 →
                                                  o < 2 →
                                                    oneC
                                                        (nth C.top
                                                          [C.p (PV.s (names16.getD ((pickZ (decL decI L.length (rowP encI L)) (2 * (↑i : Int) + 1) (4 * (↑16 : Int)) % 6).toNat + 0) default)),
                                                            C.p (PV.s (values14.getD ((pickZ (decL decI L.length (rowP encI L)) (2 * (↑i : Int) + 2) (4 * (↑14 : Int))).toNat + 0) default))]
                                                          ((e + 0) * 2 + o)) =
                                                      true)
                                          (Tr.rq (inR IntKind.i64 ((↑i : Int) + 1))
                                            (Tr.done X.normal
                                              (cst 62 [(0, V.c (C.p (PV.l 1 L.length (rowP encI L)))), (3, V.c (C.sl 0 1 0 16)), (4, V.c (C.sl 1 1 0 14)), (5, V.c (C.sl 2 2 0 (out.length + 1))), (6, V.c (C.p (PV.i IntKind.i64 ((↑i : Int) + 1))))] [AO.row 9 1 16 fun e o => renC [0, 1, 4] (rowC encS names16 e o), AO.row 9 1 14 fun e o => renC [0, 1, 4] (rowC encS values14 e o), AO.row 35 2 (out.length + 1) fun e o => renC [0, 1, 4] (appF out.length (rowC enc2 out) (fun e o => nth C.top [C.p (PV.s (names16.getD ((pickZ (decL decI L.length (rowP encI L)) (2 * (↑i : Int) + 1) (4 * (↑16 : Int)) % 6).toNat + 0) default)), C.p (PV.s (values14.getD ((pickZ (decL decI L.length (rowP encI L)) (2 * (↑i : Int) + 2) (4 * (↑14 : Int))).toNat + 0) default))] ((e + 0) * 2 + o)) e o)]))))))))))))))))
                (Tr.rq (inR IntKind.i64 (2 * (↑i : Int)))
                  (Tr.rq (inR IntKind.i64 (2 * (↑i : Int) + 2))
                    (Tr.rq (inR IntKind.i64 (4 * (↑14 : Int)))
                      (Tr.rq (IsL encI 1 (decL decI L.length (rowP encI L)) L.length (rowP encI L) ∧ Ints (decL decI L.length (rowP encI L)) ∧ 0 < 4 * (↑14 : Int))
                        (bT (decide ((↑14 : Int) ≤ pickZ (decL decI L.length (rowP encI L)) (2 * (↑i : Int) + 2) (4 * (↑14 : Int))))
                          (Tr.rq (0 ≤ pickZ (decL decI L.length (rowP encI L)) (2 * (↑i : Int) + 2) (4 * (↑14 : Int)) ∧ Int.ofNat 0 < Int.ofNat 6)
                            (Tr.rq
                              (0 ≤ pickZ (decL decI L.length (rowP encI L)) (2 * (↑i : Int) + 1) (4 * (↑16 : Int)) ∧
                                pickZ (decL decI L.length (rowP encI L)) (2 * (↑i : Int) + 1) (4 * (↑16 : Int)) < (↑16 : Int))
                              (Tr.rq ((pickZ (decL decI L.length (rowP encI L)) (2 * (↑i : Int) + 1) (4 * (↑16 : Int))).toNat + 0 < 16)
                                (Tr.rq
                                  (0 ≤ pickZ (decL decI L.length (rowP encI L)) (2 * (↑i : Int) + 2) (4 * (↑14 : Int)) % 6 ∧
                                    pickZ (decL decI L.length (rowP encI L)) (2 * (↑i : Int) + 2) (4 * (↑14 : Int)) % 6 < (↑14 : Int))
                                  (Tr.rq ((pickZ (decL decI L.length (rowP encI L)) (2 * (↑i : Int) + 2) (4 * (↑14 : Int)) % 6).toNat + 0 < 14)
                                    (Tr.rq (out.length = out.length)
                                      (Tr.rq (1 ≤ 1)
                                        (Tr.rq
                                          ((out.length + 1) * 32 ≤ 140737488355328 ∧
                                            out.length + 1 ≤ 140737488355328 ∧
                                              ∀ (e o : Nat),
                                                e < 1 →
                                                  o < 2 →
                                                    oneC
                                                        (nth C.top
                                                          [C.p (PV.s (names16.getD ((pickZ (decL decI L.length (rowP encI L)) (2 * (↑i : Int) + 1) (4 * (↑16 : Int))).toNat + 0) default)),
                                                            C.p (PV.s (values14.getD ((pickZ (decL decI L.length (rowP encI L)) (2 * (↑i : Int) + 2) (4 * (↑14 : Int)) % 6).toNat + 0) default))]
                                                          ((e + 0) * 2 + o)) =
                                                      true)
                                          (Tr.rq (inR IntKind.i64 ((↑i : Int) + 1))
                                            (Tr.done X.normal
                                              (cst 62 [(0, V.c (C.p (PV.l 1 L.length (rowP encI L)))), (3, V.c (C.sl 0 1 0 16)), (4, V.c (C.sl 1 1 0 14)), (5, V.c (C.sl 2 2 0 (out.length + 1))), (6, V.c (C.p (PV.i IntKind.i64 ((↑i : Int) + 1))))] [AO.row 9 1 16 fun e o => renC [0, 1, 4] (rowC encS names16 e o), AO.row 9 1 14 fun e o => renC [0, 1, 4] (rowC encS values14 e o), AO.row 35 2 (out.length + 1) fun e o => renC [0, 1, 4] (appF out.length (rowC enc2 out) (fun e o => nth C.top [C.p (PV.s (names16.getD ((pickZ (decL decI L.length (rowP encI L)) (2 * (↑i : Int) + 1) (4 * (↑16 : Int))).toNat + 0) default)), C.p (PV.s (values14.getD ((pickZ (decL decI L.length (rowP encI L)) (2 * (↑i : Int) + 2) (4 * (↑14 : Int)) % 6).toNat + 0) default))] ((e + 0) * 2 + o)) e o)])))))))))))
                          (Tr.rq
                            (0 ≤ pickZ (decL decI L.length (rowP encI L)) (2 * (↑i : Int) + 1) (4 * (↑16 : Int)) ∧
                              pickZ (decL decI L.length (rowP encI L)) (2 * (↑i : Int) + 1) (4 * (↑16 : Int)) < (↑16 : Int))
                            (Tr.rq ((pickZ (decL decI L.length (rowP encI L)) (2 * (↑i : Int) + 1) (4 * (↑16 : Int))).toNat + 0 < 16)
                              (Tr.rq
                                (0 ≤ pickZ (decL decI L.length (rowP encI L)) (2 * (↑i : Int) + 2) (4 * (↑14 : Int)) ∧
                                  pickZ (decL decI L.length (rowP encI L)) (2 * (↑i : Int) + 2) (4 * (↑14 : Int)) < (↑14 : Int))
                                (Tr.rq ((pickZ (decL decI L.length (rowP encI L)) (2 * (↑i : Int) + 2) (4 * (↑14 : Int))).toNat + 0 < 14)
                                  (Tr.rq (out.length = out.length)
                                    (Tr.rq (1 ≤ 1)
                                      (Tr.rq
                                        ((out.length + 1) * 32 ≤ 140737488355328 ∧
                                          out.length + 1 ≤ 140737488355328 ∧
                                            ∀ (e o : Nat),
                                              e < 1 →
                                                o < 2 →
                                                  oneC
                                                      (nth C.top
                                                        [C.p (PV.s (names16.getD ((pickZ (decL decI L.length (rowP encI L)) (2 * (↑i : Int) + 1) (4 * (↑16 : Int))).toNat + 0) default)),
                                                          C.p (PV.s (values14.getD ((pickZ (decL decI L.length (rowP encI L)) (2 * (↑i : Int) + 2) (4 * (↑14 : Int))).toNat + 0) default))]
                                                        ((e + 0) * 2 + o)) =
                                                    true)
                                        (Tr.rq (inR IntKind.i64 ((↑i : Int) + 1))
                                          (Tr.done X.normal
                                            (cst 62 [(0, V.c (C.p (PV.l 1 L.length (rowP encI L)))), (3, V.c (C.sl 0 1 0 16)), (4, V.c (C.sl 1 1 0 14)), (5, V.c (C.sl 2 2 0 (out.length + 1))), (6, V.c (C.p (PV.i IntKind.i64 ((↑i : Int) + 1))))] [AO.row 9 1 16 fun e o => renC [0, 1, 4] (rowC encS names16 e o), AO.row 9 1 14 fun e o => renC [0, 1, 4] (rowC encS values14 e o), AO.row 35 2 (out.length + 1) fun e o => renC [0, 1, 4] (appF out.length (rowC enc2 out) (fun e o => nth C.top [C.p (PV.s (names16.getD ((pickZ (decL decI L.length (rowP encI L)) (2 * (↑i : Int) + 1) (4 * (↑16 : Int))).toNat + 0) default)), C.p (PV.s (values14.getD ((pickZ (decL decI L.length (rowP encI L)) (2 * (↑i : Int) + 2) (4 * (↑14 : Int))).toNat + 0) default))] ((e + 0) * 2 + o)) e o)]))))))))))))))))))))
      (Tr.done (X.exit 0)
        (cst 62 [(0, V.c (C.p (PV.l 1 L.length (rowP encI L)))), (3, V.c (C.sl 0 1 0 16)), (4, V.c (C.sl 1 1 0 14)), (5, V.c (C.sl 2 2 0 out.length)), (6, V.c (C.p (PV.i IntKind.i64 (↑i : Int))))] [AO.row 9 1 16 fun e o => renC [0, 1, 2] (rowC encS names16 e o), AO.row 9 1 14 fun e o => renC [0, 1, 2] (rowC encS values14 e o), AO.row 35 2 out.length fun e o => renC [0, 1, 2] (rowC enc2 out e o)]))) := by kernel_rfl
theorem tDir3 (L : List Int) (out : List (ByteArray × ByteArray)) (i : Nat) : exTs ext0 (dropL 6 (pcs Tryd.prog Tryd.f43)) (cst 62 [(0, listV encI 1 L), (3, .c (.sl 0 1 0 16)), (4, .c (.sl 1 1 0 14)), (5, .c (.sl 2 2 0 out.length)), (6, iV (i : Nat))] [.row 9 1 16 (rowC encS names16), .row 9 1 14 (rowC encS values14), .row 35 2 out.length (rowC enc2 out)]) (endG [] (resOf Tryd.prog Tryd.f43)) = Tr.rq (0 + out.length ≤ out.length ∧ ∀ (e o : Nat), e < out.length → o < 2 → isP (rowC enc2 out (e + 0) o) = true)
    (Tr.done X.ret (St.mk [V.c (C.p (PV.l 2 out.length fun e o => unP (rowC enc2 out (e + 0) o)))] [])) := by kernel_rfl
theorem aroundZ_range {n m : Int} (hm : 0 < m) : 0 ≤ aroundZ n m ∧ aroundZ n m < m := ⟨Int.emod_nonneg _ (by omega), Int.emod_lt_of_pos _ hm⟩
theorem pickZ_range (L : List Int) (i : Int) {m : Int} (hm : 0 < m) : 0 ≤ pickZ L i m ∧ pickZ L i m < m := by
  unfold pickZ
  split
  · omega
  · exact aroundZ_range hm
theorem setS_range (L : List Int) : ∀ i, 0 ≤ (setS L i).1 ∧ (setS L i).1 < 64
  | 0 => pickZ_range L 0 (by omega)
  | i + 1 => by
    have := setS_range L i
    show 0 ≤ (setS L i).1 / 2 ∧ (setS L i).1 / 2 < 64
    omega
theorem dirN_range (L : List Int) (i : Int) {m : Int} (hm : 6 ≤ m) : dirN L i m < m := by
  unfold dirN
  have := pickZ_range L i (show 0 < 4 * m by omega)
  split <;> omega
theorem pair_one (a b : ByteArray) : ∀ e o : Nat, e < 1 → o < 2 → oneC (nth C.top [C.p (PV.s a), C.p (PV.s b)] ((e + 0) * 2 + o)) = true := by
  intro e o he ho
  obtain rfl : e = 0 := by omega
  have ho' : o = 0 ∨ o = 1 := by omega
  rcases ho' with rfl | rfl <;> rfl
theorem pair_at (a b : ByteArray) : ∀ o : Nat, o < 2 → (fun e o : Nat => nth C.top [C.p (PV.s a), C.p (PV.s b)] ((e + 0) * 2 + o)) 0 o = .p (enc2 (a, b) o) := by
  intro o ho
  have ho' : o = 0 ∨ o = 1 := by omega
  rcases ho' with rfl | rfl <;> rfl
section
variable {G : Nat → Option Obj}
theorem extS_sound : SoundExt Tryd.prog G extS := extH_sound (by simp; exact ⟨okNames, okValues, okPick.lift⟩)
set_option maxRecDepth 100000 in
theorem okSet : ModOK Tryd.prog G 42 mSet := by
  intro args p v hm hp h
  unfold mSet at hm
  split at hm; rotate_left; · cases hm
  rename_i n f
  obtain ⟨rfl, rfl⟩ := some_pair hm
  obtain ⟨hL, hI⟩ := hp
  generalize decL decI n f = L at hL hI
  refine FnS.args (args' := [listV encI 1 L]) ?_ (.cons hL.le .nil)
  clear hL
  refine fn_S Tryd.func42 (by kernel_rfl) rfl ?_ h
  refine ExS.evG extS_sound 6 (tSet1 L) ?_
  simp only [holds_rq, holds_leaf, kf_normal, decI_row]
  refine ⟨trivial, trivial, ⟨isL_row _ _ _, hI, by decide⟩, ⟨?_⟩⟩
  refine ExS.loop' (l := dropL 6 (pcs Tryd.prog Tryd.f42)) (b := inr (inr (nth .skip (pcs Tryd.prog Tryd.f42) 6))) (r := dropL 7 (pcs Tryd.prog Tryd.f42)) (id := 0) (by kernel_rfl) (σ := Nat × Int × List (ByteArray × ByteArray))
    (fun (i, w, out) => cst 39 [(0, listV encI 1 L), (3, .c (.sl 0 1 0 6)), (4, .c (.sl 1 1 0 6)), (5, iV w), (6, .c (.sl 2 2 0 out.length)), (7, iV (i : Nat))] [.row 9 1 6 (rowC encS namesL), .row 9 1 6 (rowC encS valuesL), .row 35 2 out.length (rowC enc2 out)]) (fun (i, w, out) => i ≤ 6 ∧ out.length ≤ i ∧ setS L i = (w, out)) (fun (i, _, _) => 6 - i) (0, pickZ L 0 64, []) ⟨by omega, by simp, rfl⟩
    ((weak_nil 35 2 (rowC enc2 []) 6 (by kernel_rfl)).trans (weak_of_eq (by kernel_rfl))) ?_
  rintro ⟨i, w, out⟩ ⟨i6, hlen, hinv⟩ Q1 q1n q1e -
  have hw := setS_range L i
  rw [hinv] at hw
  have hw0 : 0 ≤ w ∧ w < 64 := hw
  have hpk := pickZ_range L ((↑i : Int) + 1) (m := 6) (by omega)
  have hnext : setS L (i + 1) = (w / 2, if w % 2 = 1 then out ++ [(namesL.getD i default, valuesL.getD (pickZ L (↑i + 1) 6).toNat default)] else out) := by
    show ((setS L i).1 / 2, if (setS L i).1 % 2 = 1 then (setS L i).2 ++ [(namesL.getD i default, valuesL.getD (pickZ L (i + 1) 6).toNat default)] else (setS L i).2) = _
    rw [hinv]
  refine ExS.evH extS_sound (tSet2 L w out i) ?_
  simp only [holds_bT, holds_rq, holds_leaf, kf_normal, kf_exit, decI_row, decide_eq_true_eq, decide_eq_false_iff_not, beq_iff_eq, beq_eq_false_iff_ne, inR, show ∀ x : Nat, x + 0 = x from fun _ => rfl]
  refine ⟨fun hlt => ⟨⟨by omega, by decide⟩, fun hb => ⟨⟨by omega, hlt⟩, by omega, by omega, ⟨isL_row _ _ _, hI, by decide⟩, ⟨hpk.1, hpk.2⟩, by omega, trivial, Nat.le_refl _, ⟨by omega, by omega, pair_one _ _⟩, ⟨by omega, by decide, by omega⟩, by omega, ⟨?_⟩⟩, fun hb => ⟨⟨by omega, by decide, by omega⟩, by omega, ⟨?_⟩⟩⟩, fun hge => ⟨q1e _ ?_⟩⟩
  · rw [if_pos hb] at hnext
    refine q1n (i + 1, w / 2, out ++ [(namesL.getD i default, valuesL.getD (pickZ L (↑i + 1) 6).toNat default)]) _ ⟨by omega, by simp; omega, hnext⟩ (by simp only; omega) ?_
    show WeakS G _ ((fun i w out m => cst 39 [(0, listV encI 1 L), (3, .c (.sl 0 1 0 6)), (4, .c (.sl 1 1 0 6)), (5, iV w), (6, .c (.sl 2 2 0 m)), (7, iV (i : Nat))] [.row 9 1 6 (rowC encS namesL), .row 9 1 6 (rowC encS valuesL), .row 35 2 m (rowC enc2 out)]) (i + 1) (w / 2) (out ++ [(namesL.getD i default, valuesL.getD (pickZ L (↑i + 1) 6).toNat default)]) (out ++ [(namesL.getD i default, valuesL.getD (pickZ L (↑i + 1) 6).toNat default)]).length)
    rw [show (out ++ [(namesL.getD i default, valuesL.getD (pickZ L (↑i + 1) 6).toNat default)]).length = out.length + 1 by simp]
    refine weak_cst ?_
    exact ⟨⟨rfl, rfl, rfl, fun _ _ _ _ => rfl⟩, ⟨rfl, rfl, rfl, fun _ _ _ _ => rfl⟩, ⟨rfl, rfl, rfl, fun e o he ho => app1' (ρ := [0, 1, 4]) rfl (pair_at _ _) he ho⟩, trivial⟩
  · rw [if_neg hb] at hnext
    exact q1n (i + 1, w / 2, out) _ ⟨by omega, by omega, hnext⟩ (by simp only; omega) (weak_of_eq (by kernel_rfl))
  · obtain rfl : i = 6 := by omega
    refine ExS.evH ext0_sound (tSet3 L w out 6) ?_
    simp only [holds_rq, holds_leaf, kf_ret']
    refine ⟨⟨by omega, fun _ _ _ _ => rfl⟩, ⟨?_⟩⟩
    have : setL L = out := by unfold setL; rw [hinv]
    rw [this]
    exact VLe.refl _
set_option maxRecDepth 100000 in
theorem okDirty : ModOK Tryd.prog G 43 mDirty := by
  intro args p v hm hp h
  unfold mDirty at hm
  split at hm; rotate_left; · cases hm
  rename_i n f
  obtain ⟨rfl, rfl⟩ := some_pair hm
  obtain ⟨hL, hI⟩ := hp
  generalize decL decI n f = L at hL hI
  refine FnS.args (args' := [listV encI 1 L]) ?_ (.cons hL.le .nil)
  clear hL
  refine fn_S Tryd.func43 (by kernel_rfl) rfl ?_ h
  refine ExS.evG extS_sound 5 (tDir1 L) ?_
  simp only [holds_rq, holds_leaf, kf_normal]
  have one10 : ∀ (K : Nat) (l : List C), (allI (fun _ c => oneC c) 0 l && Nat.ble K (lenL l)) = true → ∀ (e o : Nat), e < K → o < 1 → oneC (nth C.top l ((e + 0) * 1 + o)) = true := by
    intro K l hl e o he ho
    rw [show (e + 0) * 1 + o = e by omega]
    rw [Bool.and_eq_true, lenL_eq] at hl
    have h2 : e < l.length := Nat.lt_of_lt_of_le he (Nat.le_of_ble_eq_true hl.2)
    have h1 := hl.1
    clear he ho hl
    generalize 0 = z at h1
    induction l generalizing e z with
    | nil => exact absurd h2 (Nat.not_lt_zero _)
    | cons c l ih =>
      simp only [allI, Bool.and_eq_true] at h1
      cases e with
      | zero => exact h1.1
      | succ e => exact ih e (by simpa using h2) _ h1.2
  refine ⟨trivial, trivial, Nat.le_refl _, ⟨by omega, by omega, one10 10 _ (by kernel_rfl)⟩, trivial, trivial, Nat.le_refl _, ⟨by omega, by omega, one10 8 _ (by kernel_rfl)⟩, ⟨?_⟩⟩
  refine ExS.loop' (l := dropL 5 (pcs Tryd.prog Tryd.f43)) (b := inr (inr (nth .skip (pcs Tryd.prog Tryd.f43) 5))) (r := dropL 6 (pcs Tryd.prog Tryd.f43)) (id := 0) (by kernel_rfl) (σ := Nat × List (ByteArray × ByteArray))
    (fun (i, out) => cst 62 [(0, listV encI 1 L), (3, .c (.sl 0 1 0 16)), (4, .c (.sl 1 1 0 14)), (5, .c (.sl 2 2 0 out.length)), (6, iV (i : Nat))] [.row 9 1 16 (rowC encS names16), .row 9 1 14 (rowC encS values14), .row 35 2 out.length (rowC enc2 out)]) (fun (i, out) => (i : Int) ≤ pickZ L 0 11 ∧ out.length = i ∧ dirS L i = out) (fun (i, _) => 11 - i) (0, []) ⟨by have := pickZ_range L 0 (m := 11) (by omega); omega, rfl, rfl⟩
    (WeakS.trans (weak_cst (h' := [.row 9 1 16 (rowC encS names16), .row 9 1 14 (rowC encS values14)]) ?_) (WeakS.trans (weak_nil 35 2 (rowC enc2 []) 5 (by kernel_rfl)) (weak_of_eq (by kernel_rfl)))) ?_
  · refine ⟨⟨rfl, rfl, rfl, fun e o he ho => ?_⟩, ⟨rfl, rfl, rfl, fun e o he ho => ?_⟩, trivial⟩
    · have hc : e = 0 ∨ e = 1 ∨ e = 2 ∨ e = 3 ∨ e = 4 ∨ e = 5 ∨ e = 6 ∨ e = 7 ∨ e = 8 ∨ e = 9 ∨ e = 10 ∨ e = 11 ∨ e = 12 ∨ e = 13 ∨ e = 14 ∨ e = 15 := by omega
      obtain rfl : o = 0 := by omega
      rcases hc with rfl | rfl | rfl | rfl | rfl | rfl | rfl | rfl | rfl | rfl | rfl | rfl | rfl | rfl | rfl | rfl <;> rfl
    · have hc : e = 0 ∨ e = 1 ∨ e = 2 ∨ e = 3 ∨ e = 4 ∨ e = 5 ∨ e = 6 ∨ e = 7 ∨ e = 8 ∨ e = 9 ∨ e = 10 ∨ e = 11 ∨ e = 12 ∨ e = 13 := by omega
      obtain rfl : o = 0 := by omega
      rcases hc with rfl | rfl | rfl | rfl | rfl | rfl | rfl | rfl | rfl | rfl | rfl | rfl | rfl | rfl <;> rfl
  rintro ⟨i, out⟩ ⟨hi, hlen, hinv⟩ Q1 q1n q1e -
  have hp0 := pickZ_range L 0 (m := 11) (by omega)
  have hp1 := pickZ_range L (2 * (↑i : Int) + 1) (m := 4 * (↑(16 : Nat) : Int)) (by omega)
  have hp2 := pickZ_range L (2 * (↑i : Int) + 2) (m := 4 * (↑(14 : Nat) : Int)) (by omega)
  refine ExS.evH extS_sound (tDir2 L out i) ?_
  simp only [holds_bT, holds_rq, holds_leaf, kf_normal, kf_exit, decI_row, decide_eq_true_eq, decide_eq_false_iff_not, inR, show ∀ x : Nat, x + 0 = x from fun _ => rfl]
  generalize hx1 : pickZ L (2 * (↑i : Int) + 1) (4 * (↑(16 : Nat) : Int)) = x1 at hp1
  generalize hx2 : pickZ L (2 * (↑i : Int) + 2) (4 * (↑(14 : Nat) : Int)) = x2 at hp2
  have good : ∀ a b : Nat, a = dirN L (2 * i + 1) 16 → b = dirN L (2 * i + 2) 14 → (↑i : Int) < pickZ L 0 11 → Q1 .normal (cst 62 [(0, V.c (C.p (PV.l 1 L.length (rowP encI L)))), (3, V.c (C.sl 0 1 0 16)), (4, V.c (C.sl 1 1 0 14)), (5, V.c (C.sl 2 2 0 (out.length + 1))), (6, V.c (C.p (PV.i IntKind.i64 ((↑i : Int) + 1))))] [AO.row 9 1 16 fun e o => renC [0, 1, 4] (rowC encS names16 e o), AO.row 9 1 14 fun e o => renC [0, 1, 4] (rowC encS values14 e o), AO.row 35 2 (out.length + 1) fun e o => renC [0, 1, 4] (appF out.length (rowC enc2 out) (fun e o => nth C.top [C.p (PV.s (names16.getD a default)), C.p (PV.s (values14.getD b default))] ((e + 0) * 2 + o)) e o)]) := by
    intro a b ha hb hlt
    refine q1n (i + 1, out ++ [(names16.getD a default, values14.getD b default)]) _ ⟨by omega, by simp; omega, ?_⟩ (by simp only; omega) ?_
    · rw [ha, hb, ← hinv]; rfl
    · show WeakS G _ ((fun i out m => cst 62 [(0, listV encI 1 L), (3, .c (.sl 0 1 0 16)), (4, .c (.sl 1 1 0 14)), (5, .c (.sl 2 2 0 m)), (6, iV (i : Nat))] [.row 9 1 16 (rowC encS names16), .row 9 1 14 (rowC encS values14), .row 35 2 m (rowC enc2 out)]) (i + 1) (out ++ [(names16.getD a default, values14.getD b default)]) (out ++ [(names16.getD a default, values14.getD b default)]).length)
      rw [show (out ++ [(names16.getD a default, values14.getD b default)]).length = out.length + 1 by simp]
      refine weak_cst ?_
      exact ⟨⟨rfl, rfl, rfl, fun _ _ _ _ => rfl⟩, ⟨rfl, rfl, rfl, fun _ _ _ _ => rfl⟩, ⟨rfl, rfl, rfl, fun e o he ho => app1' (ρ := [0, 1, 4]) rfl (pair_at _ _) he ho⟩, trivial⟩
  have d1 : dirN L (2 * i + 1) 16 = (if 16 ≤ x1 then x1 % 6 else x1).toNat := by rw [← hx1]; rfl
  have d2 : dirN L (2 * i + 2) 14 = (if 14 ≤ x2 then x2 % 6 else x2).toNat := by rw [← hx2]; rfl
  have after : ¬ (↑i : Int) < pickZ L 0 11 → ExS Tryd.prog G (resOf Tryd.prog Tryd.f43) (listV enc2 2 (dirL L)) (dropL 6 (pcs Tryd.prog Tryd.f43)) (cst 62 [(0, listV encI 1 L), (3, .c (.sl 0 1 0 16)), (4, .c (.sl 1 1 0 14)), (5, .c (.sl 2 2 0 out.length)), (6, iV (i : Nat))] [.row 9 1 16 (rowC encS names16), .row 9 1 14 (rowC encS values14), .row 35 2 out.length (rowC enc2 out)]) (fun _ _ => False) := fun hge => by
    refine ExS.evH ext0_sound (tDir3 L out i) ?_
    simp only [holds_rq, holds_leaf, kf_ret']
    refine ⟨⟨by omega, fun _ _ _ _ => rfl⟩, ⟨?_⟩⟩
    have : dirL L = out := by unfold dirL; rw [← hinv]; congr 1; omega
    rw [this]
    exact VLe.refl _
  repeat' (first | apply And.intro | intro _)
  all_goals first | (clear good after hinv d1 d2; omega) | exact pair_one _ _ _ _ ‹_› ‹_› | exact (isL_row _ _ _).1 | exact (isL_row encI 1 L).2 _ _ ‹_› ‹_› | exact (hI _ ‹_›).1 | exact (hI _ ‹_›).2 | (show Int.ofNat _ < Int.ofNat _; decide) | exact trivial | exact ⟨q1e _ (after ‹_›)⟩ | (refine ⟨good _ _ ?_ ?_ ‹_›⟩ <;> (first | rw [d1] | rw [d2]) <;> split <;> first | rfl | (clear good after hinv d1 d2; omega))
end
end Go.AE
