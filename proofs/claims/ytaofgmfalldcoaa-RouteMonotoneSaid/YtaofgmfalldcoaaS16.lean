/- AE: the laws RouteValid and RouteInhibited. -/
import Derived.Test.YtaofgmfalldcoaaS15
import Derived.Test.YtaofgmfalldcoaaS11
import Derived.Test.YtaofgmfalldcoaaS9
import Derived.Test.YtaofgmfalldcoaaAe29
namespace Go.AE
open Go.Proofs Go.Proofs.Ytaofgmfalldcoaa
set_option linter.unusedVariables false
set_option linter.unusedSimpArgs false
noncomputable def extLwV : Ext := extOf [(10, mAny), (11, mAround), (13, mGraph), (12, mGValid), (14, mGValidR), (15, mLives)]
noncomputable def extLwI : Ext := extOf [(10, mAny), (11, mAround), (13, mGraph), (16, mFiring), (18, mGInhib), (19, mGInhibR), (17, mSameBools), (15, mLives)]

theorem tRV1 (L : List Int) (n a b : Int) : exTs extLwV (takeL 3 (pcs Try.prog Try.f3)) (st0 Try.f3 [listV encI 1 L, iV n, iV a, iV b]) (endG (msk 54 [1, 2, 3, 9, 10]) (resOf Try.prog Try.f3)) = Tr.rq ((IsL encI 1 (decL decI L.length (rowP encI L)) L.length (rowP encI L) ∧ Ints (decL decI L.length (rowP encI L))) ∧ L.length ≤ 9223372036854775807)
    (Tr.done X.normal
      (cst 54 [(1, V.c (C.p (PV.i IntKind.i64 n))), (2, V.c (C.p (PV.i IntKind.i64 a))), (3, V.c (C.p (PV.i IntKind.i64 b))), (9, V.c (C.ptr 0 0)), (10, V.c (C.ptr 1 0))] [AO.cells 25 [C.p (PV.i IntKind.i64 (acN (decL decI L.length (rowP encI L)))), C.p (PV.l 2 (anyE (decL decI L.length (rowP encI L))).length (rowP encE (anyE (decL decI L.length (rowP encI L)))))], AO.cells 25 [C.p (PV.i IntKind.i64 n), C.sl 2 2 0 1], AO.row 27 2 1 fun e o => renC [0, 2, 1] (nth C.top [C.p (PV.i IntKind.i64 a), C.p (PV.i IntKind.i64 b)] (e * 2 + o))])) := by kernel_rfl
theorem tRI1 (L : List Int) (b o : Int) : exTs extLwI (pcs Try.prog Try.f4) (st0 Try.f4 [listV encI 1 L, iV b, iV o]) (endG [] (resOf Try.prog Try.f4)) = Tr.rq ((IsL encI 1 (decL decI L.length (rowP encI L)) L.length (rowP encI L) ∧ Ints (decL decI L.length (rowP encI L))) ∧ L.length ≤ 9223372036854775807)
    (Tr.rq ((0 ≤ acN (decL decI L.length (rowP encI L)) ∧ acN (decL decI L.length (rowP encI L)) ≤ 1000000) ∧ inR IntKind.i64 b)
      (Tr.rq (inR IntKind.i64 o ∧ Int.ofNat 0 < Int.ofNat 10)
        (Tr.rq ((0 ≤ aroundZ o 10 ∧ aroundZ o 10 ≤ 1000000) ∧ inR IntKind.i64 b)
          (Tr.rq True
            (Tr.rq
              ((IsL encE 2 (decL decE (anyE (decL decI L.length (rowP encI L))).length (rowP encE (anyE (decL decI L.length (rowP encI L))))) (anyE (decL decI L.length (rowP encI L))).length
                    (rowP encE (anyE (decL decI L.length (rowP encI L)))) ∧
                  (anyE (decL decI L.length (rowP encI L))).length ≤ 1000000) ∧
                IsL encB 1 (decL decB (firing (acN (decL decI L.length (rowP encI L))).toNat b).length (rowP encB (firing (acN (decL decI L.length (rowP encI L))).toNat b)))
                    (firing (acN (decL decI L.length (rowP encI L))).toNat b).length (rowP encB (firing (acN (decL decI L.length (rowP encI L))).toNat b)) ∧
                  (firing (acN (decL decI L.length (rowP encI L))).toNat b).length ≤ 1000000)
              (Tr.rq
                ((IsL encE 2 (decL decE (anyE (decL decI L.length (rowP encI L))).length (rowP encE (anyE (decL decI L.length (rowP encI L))))) (anyE (decL decI L.length (rowP encI L))).length
                      (rowP encE (anyE (decL decI L.length (rowP encI L)))) ∧
                    (anyE (decL decI L.length (rowP encI L))).length ≤ 1000000) ∧
                  IsL encB 1 (decL decB (firing (acN (decL decI L.length (rowP encI L))).toNat b).length (rowP encB (firing (acN (decL decI L.length (rowP encI L))).toNat b)))
                      (firing (acN (decL decI L.length (rowP encI L))).toNat b).length (rowP encB (firing (acN (decL decI L.length (rowP encI L))).toNat b)) ∧
                    (firing (acN (decL decI L.length (rowP encI L))).toNat b).length ≤ 1000000)
                (Tr.rq
                  ((IsL encB 1
                        (decL decB
                          (inhZ (acN (decL decI L.length (rowP encI L))) (decL decE (anyE (decL decI L.length (rowP encI L))).length (rowP encE (anyE (decL decI L.length (rowP encI L)))))
                              (decL decB (firing (acN (decL decI L.length (rowP encI L))).toNat b).length (rowP encB (firing (acN (decL decI L.length (rowP encI L))).toNat b)))).length
                          (rowP encB
                            (inhZ (acN (decL decI L.length (rowP encI L))) (decL decE (anyE (decL decI L.length (rowP encI L))).length (rowP encE (anyE (decL decI L.length (rowP encI L)))))
                              (decL decB (firing (acN (decL decI L.length (rowP encI L))).toNat b).length (rowP encB (firing (acN (decL decI L.length (rowP encI L))).toNat b))))))
                        (inhZ (acN (decL decI L.length (rowP encI L))) (decL decE (anyE (decL decI L.length (rowP encI L))).length (rowP encE (anyE (decL decI L.length (rowP encI L)))))
                            (decL decB (firing (acN (decL decI L.length (rowP encI L))).toNat b).length (rowP encB (firing (acN (decL decI L.length (rowP encI L))).toNat b)))).length
                        (rowP encB
                          (inhZ (acN (decL decI L.length (rowP encI L))) (decL decE (anyE (decL decI L.length (rowP encI L))).length (rowP encE (anyE (decL decI L.length (rowP encI L)))))
                            (decL decB (firing (acN (decL decI L.length (rowP encI L))).toNat b).length (rowP encB (firing (acN (decL decI L.length (rowP encI L))).toNat b))))) ∧
                      IsL encB 1
                        (decL decB
                          (inhZ (acN (decL decI L.length (rowP encI L))) (decL decE (anyE (decL decI L.length (rowP encI L))).length (rowP encE (anyE (decL decI L.length (rowP encI L)))))
                              (decL decB (firing (acN (decL decI L.length (rowP encI L))).toNat b).length (rowP encB (firing (acN (decL decI L.length (rowP encI L))).toNat b)))).length
                          (rowP encB
                            (inhZ (acN (decL decI L.length (rowP encI L))) (decL decE (anyE (decL decI L.length (rowP encI L))).length (rowP encE (anyE (decL decI L.length (rowP encI L)))))
                              (decL decB (firing (acN (decL decI L.length (rowP encI L))).toNat b).length (rowP encB (firing (acN (decL decI L.length (rowP encI L))).toNat b))))))
                        (inhZ (acN (decL decI L.length (rowP encI L))) (decL decE (anyE (decL decI L.length (rowP encI L))).length (rowP encE (anyE (decL decI L.length (rowP encI L)))))
                            (decL decB (firing (acN (decL decI L.length (rowP encI L))).toNat b).length (rowP encB (firing (acN (decL decI L.length (rowP encI L))).toNat b)))).length
                        (rowP encB
                          (inhZ (acN (decL decI L.length (rowP encI L))) (decL decE (anyE (decL decI L.length (rowP encI L))).length (rowP encE (anyE (decL decI L.length (rowP encI L)))))
                            (decL decB (firing (acN (decL decI L.length (rowP encI L))).toNat b).length (rowP encB (firing (acN (decL decI L.length (rowP encI L))).toNat b)))))) ∧
                    (inhZ (acN (decL decI L.length (rowP encI L))) (decL decE (anyE (decL decI L.length (rowP encI L))).length (rowP encE (anyE (decL decI L.length (rowP encI L)))))
                          (decL decB (firing (acN (decL decI L.length (rowP encI L))).toNat b).length (rowP encB (firing (acN (decL decI L.length (rowP encI L))).toNat b)))).length ≤
                      1000000)
                  (bT
                    (decide
                      (decL decB
                          (inhZ (acN (decL decI L.length (rowP encI L))) (decL decE (anyE (decL decI L.length (rowP encI L))).length (rowP encE (anyE (decL decI L.length (rowP encI L)))))
                              (decL decB (firing (acN (decL decI L.length (rowP encI L))).toNat b).length (rowP encB (firing (acN (decL decI L.length (rowP encI L))).toNat b)))).length
                          (rowP encB
                            (inhZ (acN (decL decI L.length (rowP encI L))) (decL decE (anyE (decL decI L.length (rowP encI L))).length (rowP encE (anyE (decL decI L.length (rowP encI L)))))
                              (decL decB (firing (acN (decL decI L.length (rowP encI L))).toNat b).length (rowP encB (firing (acN (decL decI L.length (rowP encI L))).toNat b))))) =
                        decL decB
                          (inhZ (acN (decL decI L.length (rowP encI L))) (decL decE (anyE (decL decI L.length (rowP encI L))).length (rowP encE (anyE (decL decI L.length (rowP encI L)))))
                              (decL decB (firing (acN (decL decI L.length (rowP encI L))).toNat b).length (rowP encB (firing (acN (decL decI L.length (rowP encI L))).toNat b)))).length
                          (rowP encB
                            (inhZ (acN (decL decI L.length (rowP encI L))) (decL decE (anyE (decL decI L.length (rowP encI L))).length (rowP encE (anyE (decL decI L.length (rowP encI L)))))
                              (decL decB (firing (acN (decL decI L.length (rowP encI L))).toNat b).length (rowP encB (firing (acN (decL decI L.length (rowP encI L))).toNat b)))))))
                    (Tr.rq True
                      (Tr.rq
                        ((IsL encE 2 (decL decE (anyE (decL decI L.length (rowP encI L))).length (rowP encE (anyE (decL decI L.length (rowP encI L))))) (anyE (decL decI L.length (rowP encI L))).length
                              (rowP encE (anyE (decL decI L.length (rowP encI L)))) ∧
                            (anyE (decL decI L.length (rowP encI L))).length ≤ 1000000) ∧
                          IsL encB 1 (decL decB (firing (aroundZ o 10).toNat b).length (rowP encB (firing (aroundZ o 10).toNat b))) (firing (aroundZ o 10).toNat b).length
                              (rowP encB (firing (aroundZ o 10).toNat b)) ∧
                            (firing (aroundZ o 10).toNat b).length ≤ 1000000)
                        (Tr.rq
                          ((IsL encE 2 (decL decE (anyE (decL decI L.length (rowP encI L))).length (rowP encE (anyE (decL decI L.length (rowP encI L))))) (anyE (decL decI L.length (rowP encI L))).length
                                (rowP encE (anyE (decL decI L.length (rowP encI L)))) ∧
                              (anyE (decL decI L.length (rowP encI L))).length ≤ 1000000) ∧
                            IsL encB 1 (decL decB (firing (aroundZ o 10).toNat b).length (rowP encB (firing (aroundZ o 10).toNat b))) (firing (aroundZ o 10).toNat b).length
                                (rowP encB (firing (aroundZ o 10).toNat b)) ∧
                              (firing (aroundZ o 10).toNat b).length ≤ 1000000)
                          (Tr.rq
                            ((IsL encB 1
                                  (decL decB
                                    (inhZ (acN (decL decI L.length (rowP encI L))) (decL decE (anyE (decL decI L.length (rowP encI L))).length (rowP encE (anyE (decL decI L.length (rowP encI L)))))
                                        (decL decB (firing (aroundZ o 10).toNat b).length (rowP encB (firing (aroundZ o 10).toNat b)))).length
                                    (rowP encB
                                      (inhZ (acN (decL decI L.length (rowP encI L))) (decL decE (anyE (decL decI L.length (rowP encI L))).length (rowP encE (anyE (decL decI L.length (rowP encI L)))))
                                        (decL decB (firing (aroundZ o 10).toNat b).length (rowP encB (firing (aroundZ o 10).toNat b))))))
                                  (inhZ (acN (decL decI L.length (rowP encI L))) (decL decE (anyE (decL decI L.length (rowP encI L))).length (rowP encE (anyE (decL decI L.length (rowP encI L)))))
                                      (decL decB (firing (aroundZ o 10).toNat b).length (rowP encB (firing (aroundZ o 10).toNat b)))).length
                                  (rowP encB
                                    (inhZ (acN (decL decI L.length (rowP encI L))) (decL decE (anyE (decL decI L.length (rowP encI L))).length (rowP encE (anyE (decL decI L.length (rowP encI L)))))
                                      (decL decB (firing (aroundZ o 10).toNat b).length (rowP encB (firing (aroundZ o 10).toNat b))))) ∧
                                IsL encB 1
                                  (decL decB
                                    (inhZ (acN (decL decI L.length (rowP encI L))) (decL decE (anyE (decL decI L.length (rowP encI L))).length (rowP encE (anyE (decL decI L.length (rowP encI L)))))
                                        (decL decB (firing (aroundZ o 10).toNat b).length (rowP encB (firing (aroundZ o 10).toNat b)))).length
                                    (rowP encB
                                      (inhZ (acN (decL decI L.length (rowP encI L))) (decL decE (anyE (decL decI L.length (rowP encI L))).length (rowP encE (anyE (decL decI L.length (rowP encI L)))))
                                        (decL decB (firing (aroundZ o 10).toNat b).length (rowP encB (firing (aroundZ o 10).toNat b))))))
                                  (inhZ (acN (decL decI L.length (rowP encI L))) (decL decE (anyE (decL decI L.length (rowP encI L))).length (rowP encE (anyE (decL decI L.length (rowP encI L)))))
                                      (decL decB (firing (aroundZ o 10).toNat b).length (rowP encB (firing (aroundZ o 10).toNat b)))).length
                                  (rowP encB
                                    (inhZ (acN (decL decI L.length (rowP encI L))) (decL decE (anyE (decL decI L.length (rowP encI L))).length (rowP encE (anyE (decL decI L.length (rowP encI L)))))
                                      (decL decB (firing (aroundZ o 10).toNat b).length (rowP encB (firing (aroundZ o 10).toNat b)))))) ∧
                              (inhZ (acN (decL decI L.length (rowP encI L))) (decL decE (anyE (decL decI L.length (rowP encI L))).length (rowP encE (anyE (decL decI L.length (rowP encI L)))))
                                    (decL decB (firing (aroundZ o 10).toNat b).length (rowP encB (firing (aroundZ o 10).toNat b)))).length ≤
                                1000000)
                            (bT
                              (decide
                                (decL decB
                                    (inhZ (acN (decL decI L.length (rowP encI L))) (decL decE (anyE (decL decI L.length (rowP encI L))).length (rowP encE (anyE (decL decI L.length (rowP encI L)))))
                                        (decL decB (firing (aroundZ o 10).toNat b).length (rowP encB (firing (aroundZ o 10).toNat b)))).length
                                    (rowP encB
                                      (inhZ (acN (decL decI L.length (rowP encI L))) (decL decE (anyE (decL decI L.length (rowP encI L))).length (rowP encE (anyE (decL decI L.length (rowP encI L)))))
                                        (decL decB (firing (aroundZ o 10).toNat b).length (rowP encB (firing (aroundZ o 10).toNat b))))) =
                                  decL decB
                                    (inhZ (acN (decL decI L.length (rowP encI L))) (decL decE (anyE (decL decI L.length (rowP encI L))).length (rowP encE (anyE (decL decI L.length (rowP encI L)))))
                                        (decL decB (firing (aroundZ o 10).toNat b).length (rowP encB (firing (aroundZ o 10).toNat b)))).length
                                    (rowP encB
                                      (inhZ (acN (decL decI L.length (rowP encI L))) (decL decE (anyE (decL decI L.length (rowP encI L))).length (rowP encE (anyE (decL decI L.length (rowP encI L)))))
                                        (decL decB (firing (aroundZ o 10).toNat b).length (rowP encB (firing (aroundZ o 10).toNat b)))))))
                              (Tr.rq True (Tr.done X.ret (St.mk [V.c (C.p (PV.b true))] []))) (Tr.done X.ret (St.mk [V.c (C.p (PV.b false))] [])))))))
                    (Tr.done X.ret (St.mk [V.c (C.p (PV.b false))] [])))))))))) := by kernel_rfl
theorem tRV2 (L : List Int) (n a b : Int) (E1 : List Ed) : exTs extLwV (takeL 1 (dropL 3 (pcs Try.prog Try.f3))) (cst 54 [(1, iV n), (2, iV a), (3, iV b), (9, .c (.ptr 0 0)), (10, .c (.ptr 1 0))] [.cells 25 [.p (.i .i64 (acN L)), .p (listP encE 2 (anyE L))], .cells 25 [.p (.i .i64 n), .p (listP encE 2 E1)]]) (endG (msk 54 [9, 10, 11]) (resOf Try.prog Try.f3)) = Tr.rq (inR IntKind.i64 n ∧ Int.ofNat 0 < Int.ofNat 210)
    (Tr.rq (inR IntKind.i64 a ∧ Int.ofNat 0 < Int.ofNat 210)
      (Tr.rq (inR IntKind.i64 b ∧ Int.ofNat 0 < Int.ofNat 210)
        (Tr.done X.normal
          (cst 54 [(9, V.c (C.ptr 0 0)), (10, V.c (C.ptr 1 0)), (11, V.c (C.ptr 2 0))] [AO.cells 25 [C.p (PV.i IntKind.i64 (acN L)), C.p (PV.l 2 (anyE L).length (rowP encE (anyE L)))], AO.cells 25 [C.p (PV.i IntKind.i64 n), C.p (PV.l 2 E1.length (rowP encE E1))], AO.cells 25 [C.p (PV.i IntKind.i64 (aroundZ n 210)), C.sl 3 2 0 1], AO.row 27 2 1 fun e o => renC [0, 1, 3, 2] (nth C.top [C.p (PV.i IntKind.i64 (aroundZ a 210)), C.p (PV.i IntKind.i64 (aroundZ b 210))] (e * 2 + o))])))) := by kernel_rfl
theorem tRV3 (L : List Int) (n n2 : Int) (E1 E2 : List Ed) : exTs extLwV (dropL 4 (pcs Try.prog Try.f3)) (cst 54 [(9, .c (.ptr 0 0)), (10, .c (.ptr 1 0)), (11, .c (.ptr 2 0))] [.cells 25 [.p (.i .i64 (acN L)), .p (listP encE 2 (anyE L))], .cells 25 [.p (.i .i64 n), .p (listP encE 2 E1)], .cells 25 [.p (.i .i64 n2), .p (listP encE 2 E2)]]) (endG [] (resOf Try.prog Try.f3)) = Tr.rq True
    (Tr.rq (IsL encE 2 (decL decE (anyE L).length (rowP encE (anyE L))) (anyE L).length (rowP encE (anyE L)) ∧ (anyE L).length ≤ 1000000)
      (Tr.rq (IsL encE 2 (decL decE (anyE L).length (rowP encE (anyE L))) (anyE L).length (rowP encE (anyE L)) ∧ (anyE L).length ≤ 1000000)
        (bT (validZ (acN L) (decL decE (anyE L).length (rowP encE (anyE L))) == validZ (acN L) (decL decE (anyE L).length (rowP encE (anyE L))))
          (Tr.rq True
            (Tr.rq (IsL encE 2 (decL decE E1.length (rowP encE E1)) E1.length (rowP encE E1) ∧ E1.length ≤ 1000000)
              (Tr.rq (IsL encE 2 (decL decE E1.length (rowP encE E1)) E1.length (rowP encE E1) ∧ E1.length ≤ 1000000)
                (bT (validZ n (decL decE E1.length (rowP encE E1)) == validZ n (decL decE E1.length (rowP encE E1)))
                  (Tr.rq True
                    (Tr.rq (IsL encE 2 (decL decE E2.length (rowP encE E2)) E2.length (rowP encE E2) ∧ E2.length ≤ 1000000)
                      (Tr.rq (IsL encE 2 (decL decE E2.length (rowP encE E2)) E2.length (rowP encE E2) ∧ E2.length ≤ 1000000)
                        (bT (validZ n2 (decL decE E2.length (rowP encE E2)) == validZ n2 (decL decE E2.length (rowP encE E2))) (Tr.rq True (Tr.done X.ret (St.mk [V.c (C.p (PV.b true))] [])))
                          (Tr.done X.ret (St.mk [V.c (C.p (PV.b false))] []))))))
                  (Tr.done X.ret (St.mk [V.c (C.p (PV.b false))] []))))))
          (Tr.done X.ret (St.mk [V.c (C.p (PV.b false))] []))))) := by kernel_rfl
theorem anyE_len (L : List Int) : (anyE L).length ≤ 1000000 := by
  have h : anyE L = anyF (pickZ L ((L.length : Int) - 1) 1000) (acG L) := rfl
  have h2 := acG_length L
  rw [h]
  unfold anyF
  split
  · rw [List.length_append]; simp only [List.length]; omega
  · split
    · rw [List.length_append]; simp only [List.length]; omega
    · omega
theorem acN_range (L : List Int) : 0 ≤ acN L ∧ acN L < 9 := pickZ_range L 0 (m := 9) (by omega)
theorem inhZ_len {N : Int} {E : List Ed} {F : List Bool} {m : Nat} (h : F.length ≤ m) : (inhZ N E F).length ≤ m := by
  unfold inhZ
  split
  · rw [inh_length]; exact h
  · exact Nat.zero_le _
theorem around_range (o : Int) {m : Int} (hm : 0 < m) : 0 ≤ aroundZ o m ∧ aroundZ o m < m := ⟨Int.emod_nonneg _ (by omega), Int.emod_lt_of_pos _ hm⟩
section
variable {G : Nat → Option Obj}
theorem extLwV_sound : SoundExt Try.prog G extLwV := extOf_sound (by simp; exact ⟨okAny, okAround, okGraph, okGValid, okGValidR, okLives⟩)
theorem extLwI_sound : SoundExt Try.prog G extLwI := extOf_sound (by simp; exact ⟨okAny, okAround, okGraph, okFiring, okGInhib, okGInhibR, okSameBools, okLives⟩)
set_option maxRecDepth 100000 in
theorem routeInhibited_fn {L : List Int} {b o : Int} (hI : Ints L) (hb : inR .i64 b) (ho : inR .i64 o) (hl : L.length ≤ 9223372036854775807) (h : List AO) : FnS Try.prog G 4 [listV encI 1 L, iV b, iV o] h fun x h' => x = bV true ∧ h' = h := by
  refine fn_S Try.func4 (by kernel_rfl) rfl ?_ h
  refine ExS.evH extLwI_sound (tRI1 L b o) ?_
  have h1 := anyE_len L
  have h2 := acN_range L
  have h3 := around_range o (m := 10) (by omega)
  have f1 : ∀ x : Int, x ≤ 1000000 → (firing x.toNat b).length ≤ 1000000 := fun x hx => by rw [firing_length]; omega
  have f2 : ∀ (N x : Int) (E : List Ed), x ≤ 1000000 → (inhZ N E (firing x.toNat b)).length ≤ 1000000 := fun N x E hx => inhZ_len (f1 x hx)
  simp only [holds_bT, holds_rq, holds_leaf, kf_ret', decI_row, decE_row, decB_row, isL_row, ofn_lt, decide_true, Bool.false_eq_true, Bool.true_eq_false, reduceCtorEq, false_imp_iff, true_imp_iff, and_true, true_and]
  exact ⟨⟨hI, hl⟩, ⟨⟨by omega, by omega⟩, hb⟩, ⟨ho, by decide⟩, ⟨⟨by omega, by omega⟩, hb⟩, ⟨h1, f1 _ (by omega)⟩, ⟨h1, f1 _ (by omega)⟩, f2 _ _ _ (by omega), ⟨h1, f1 _ (by omega)⟩, ⟨h1, f1 _ (by omega)⟩, f2 _ _ _ (by omega), ⟨VLe.refl _⟩⟩
set_option maxRecDepth 100000 in
theorem routeValid_fn {L : List Int} {n a b : Int} (hI : Ints L) (hn : inR .i64 n) (ha : inR .i64 a) (hb : inR .i64 b) (hl : L.length ≤ 9223372036854775807) (h : List AO) : FnS Try.prog G 3 [listV encI 1 L, iV n, iV a, iV b] h fun x h' => x = bV true ∧ h' = h := by
  refine fn_S Try.func3 (by kernel_rfl) rfl ?_ h
  refine ExS.evG extLwV_sound 3 (tRV1 L n a b) ?_
  have h1 := anyE_len L
  have h2 := acN_range L
  simp only [holds_bT, holds_rq, holds_leaf, kf_normal, decI_row, isL_row, true_and]
  refine ⟨⟨hI, hl⟩, ⟨?_⟩⟩
  have one : ∀ (ρ : List Nat) (a b : Int) (e o : Nat), e < 1 → o < 2 → renC ρ (nth C.top [C.p (PV.i IntKind.i64 a), C.p (PV.i IntKind.i64 b)] (e * 2 + o)) = .p (rowP encE [(a, b)] e o) := by
    intro ρ a b e o he ho
    obtain rfl : e = 0 := by omega
    have ho : o = 0 ∨ o = 1 := by omega
    rcases ho with rfl | rfl <;> rfl
  refine ExS.pre ((weak_frzL (id := 2) (ty := 27) (sz := 2) (n := 1) (f := fun e o => renC [0, 2, 1] (nth C.top [C.p (PV.i IntKind.i64 a), C.p (PV.i IntKind.i64 b)] (e * 2 + o))) (rowP encE [(a, b)]) (by kernel_rfl) (fun e o he ho => by rw [one _ a b e o he ho]; rfl) (fun e o he ho => by rw [one _ a b e o he ho]; exact PLe.refl _) (ps := [(0, 1)]) (by kernel_rfl) (by simp)).trans (weak_gc (msk 54 [1, 2, 3, 9, 10]) _)) ?_
  refine ExS.evG extLwV_sound 1 (tRV2 L n a b [(a, b)]) ?_
  simp only [holds_rq, holds_leaf, kf_normal, ofn_lt]
  refine ⟨⟨hn, by decide⟩, ⟨ha, by decide⟩, ⟨hb, by decide⟩, ⟨?_⟩⟩
  refine ExS.pre ((weak_frzL (id := 3) (ty := 27) (sz := 2) (n := 1) (f := fun e o => renC [0, 1, 3, 2] (nth C.top [C.p (PV.i IntKind.i64 (aroundZ a 210)), C.p (PV.i IntKind.i64 (aroundZ b 210))] (e * 2 + o))) (rowP encE [(aroundZ a 210, aroundZ b 210)]) (by kernel_rfl) (fun e o he ho => by rw [one _ _ _ e o he ho]; rfl) (fun e o he ho => by rw [one _ _ _ e o he ho]; exact PLe.refl _) (ps := [(0, 1)]) (by kernel_rfl) (by simp)).trans (weak_gc (msk 54 [9, 10, 11]) _)) ?_
  refine ExS.evH extLwV_sound (tRV3 L n (aroundZ n 210) [(a, b)] [(aroundZ a 210, aroundZ b 210)]) ?_
  simp only [holds_bT, holds_rq, holds_leaf, kf_ret', decE_row, isL_row, beq_self_eq_true, ofn_lt, decide_true, Bool.false_eq_true, Bool.true_eq_false, reduceCtorEq, false_imp_iff, true_imp_iff, and_true, true_and]
  have d : ∀ p : Ed, [p].length ≤ 1000000 := fun p => by show 1 ≤ 1000000; omega
  exact ⟨h1, h1, d _, d _, d _, d _, ⟨VLe.refl _⟩⟩
end
end Go.AE
