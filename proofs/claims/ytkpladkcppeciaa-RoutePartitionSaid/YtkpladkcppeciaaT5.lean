/- AE: the law RouteGroups; lists of strings that came in. -/
import Derived.Test.YtkpladkcppeciaaT4
import Derived.SliceStrings
namespace Go.AE
open Go.Proofs Go.Proofs.Ytkpladkcppeciaa Gp Go.RowKit
set_option linter.unusedVariables false
set_option linter.unusedSimpArgs false
def extLA : Ext := extH [(5, liftM mAlerts), (6, mFewH)]
def extLB : Ext := extOf [(8, mGroups), (9, mGroups), (7, mSameGroups), (10, mLives)]

theorem tRG1 (L : List Int) (N : List ByteArray) (w : Int) : exTs extLA (takeL 3 (pcs Try.prog Try.f3)) (st0 Try.f3 [listV encI 1 L, listV encS 1 N, iV w]) (endG (msk 31 [7, 8]) (resOf Try.prog Try.f3)) = Tr.rq (IsL encI 1 (decL decI L.length (rowP encI L)) L.length (rowP encI L) ∧ Ints (decL decI L.length (rowP encI L)))
    (Tr.rq (IsL encS 1 (decL decS N.length (rowP encS N)) N.length (rowP encS N) ∧ inR IntKind.i64 w)
      (Tr.done X.normal
        (cst 31 [(7, V.c (C.p (PV.l 6 (alL (decL decI L.length (rowP encI L))).length (rowP encAl (alL (decL decI L.length (rowP encI L))))))), (8, V.c (C.sl 0 1 0 (fewL (decL decS N.length (rowP encS N)) w).length))] [AO.row 9 1 (fewL (decL decS N.length (rowP encS N)) w).length fun e o => renC [0] (C.p (PV.s ((fewL (decL decS N.length (rowP encS N)) w).getD e default)))]))) := by kernel_rfl
theorem tRG2 (A : List (List (ByteArray × ByteArray))) (B : List ByteArray) : exTs extLB (dropL 3 (pcs Try.prog Try.f3)) (cst 31 [(7, listV encAl 6 A), (8, listV encS 1 B)] []) (endG [] (resOf Try.prog Try.f3)) = Tr.rq
    ((IsL encAl 6 (decL decAl A.length (rowP encAl A)) A.length (rowP encAl A) ∧ AlOK (decL decAl A.length (rowP encAl A))) ∧
      IsL encS 1 (decL decS B.length (rowP encS B)) B.length (rowP encS B) ∧ SzS (decL decS B.length (rowP encS B)))
    (Tr.rq
      ((IsL encAl 6 (decL decAl A.length (rowP encAl A)) A.length (rowP encAl A) ∧ AlOK (decL decAl A.length (rowP encAl A))) ∧
        IsL encS 1 (decL decS B.length (rowP encS B)) B.length (rowP encS B) ∧ SzS (decL decS B.length (rowP encS B)))
      (Tr.rq
        ((IsL encLI 1
              (decL decLI (grpL (keyA (decL decAl A.length (rowP encAl A)) (decL decS B.length (rowP encS B))) A.length).length
                (rowP encLI (grpL (keyA (decL decAl A.length (rowP encAl A)) (decL decS B.length (rowP encS B))) A.length)))
              (grpL (keyA (decL decAl A.length (rowP encAl A)) (decL decS B.length (rowP encS B))) A.length).length
              (rowP encLI (grpL (keyA (decL decAl A.length (rowP encAl A)) (decL decS B.length (rowP encS B))) A.length)) ∧
            IsL encLI 1
              (decL decLI (grpL (keyA (decL decAl A.length (rowP encAl A)) (decL decS B.length (rowP encS B))) A.length).length
                (rowP encLI (grpL (keyA (decL decAl A.length (rowP encAl A)) (decL decS B.length (rowP encS B))) A.length)))
              (grpL (keyA (decL decAl A.length (rowP encAl A)) (decL decS B.length (rowP encS B))) A.length).length
              (rowP encLI (grpL (keyA (decL decAl A.length (rowP encAl A)) (decL decS B.length (rowP encS B))) A.length))) ∧
          ShortL
            (decL decLI (grpL (keyA (decL decAl A.length (rowP encAl A)) (decL decS B.length (rowP encS B))) A.length).length
              (rowP encLI (grpL (keyA (decL decAl A.length (rowP encAl A)) (decL decS B.length (rowP encS B))) A.length))))
        (bT
          (decide
            (decL decLI (grpL (keyA (decL decAl A.length (rowP encAl A)) (decL decS B.length (rowP encS B))) A.length).length
                (rowP encLI (grpL (keyA (decL decAl A.length (rowP encAl A)) (decL decS B.length (rowP encS B))) A.length)) =
              decL decLI (grpL (keyA (decL decAl A.length (rowP encAl A)) (decL decS B.length (rowP encS B))) A.length).length
                (rowP encLI (grpL (keyA (decL decAl A.length (rowP encAl A)) (decL decS B.length (rowP encS B))) A.length))))
          (Tr.rq (IsL encAl 6 (decL decAl A.length (rowP encAl A)) A.length (rowP encAl A) ∧ AlOK (decL decAl A.length (rowP encAl A)))
            (Tr.rq (IsL encAl 6 (decL decAl A.length (rowP encAl A)) A.length (rowP encAl A) ∧ AlOK (decL decAl A.length (rowP encAl A)))
              (Tr.rq
                ((IsL encLI 1 (decL decLI (grpL (keyA (decL decAl A.length (rowP encAl A)) []) A.length).length (rowP encLI (grpL (keyA (decL decAl A.length (rowP encAl A)) []) A.length)))
                      (grpL (keyA (decL decAl A.length (rowP encAl A)) []) A.length).length (rowP encLI (grpL (keyA (decL decAl A.length (rowP encAl A)) []) A.length)) ∧
                    IsL encLI 1 (decL decLI (grpL (keyA (decL decAl A.length (rowP encAl A)) []) A.length).length (rowP encLI (grpL (keyA (decL decAl A.length (rowP encAl A)) []) A.length)))
                      (grpL (keyA (decL decAl A.length (rowP encAl A)) []) A.length).length (rowP encLI (grpL (keyA (decL decAl A.length (rowP encAl A)) []) A.length))) ∧
                  ShortL (decL decLI (grpL (keyA (decL decAl A.length (rowP encAl A)) []) A.length).length (rowP encLI (grpL (keyA (decL decAl A.length (rowP encAl A)) []) A.length))))
                (bT
                  (decide
                    (decL decLI (grpL (keyA (decL decAl A.length (rowP encAl A)) []) A.length).length (rowP encLI (grpL (keyA (decL decAl A.length (rowP encAl A)) []) A.length)) =
                      decL decLI (grpL (keyA (decL decAl A.length (rowP encAl A)) []) A.length).length (rowP encLI (grpL (keyA (decL decAl A.length (rowP encAl A)) []) A.length))))
                  (Tr.rq True (Tr.done X.ret (St.mk [V.c (C.p (PV.b true))] []))) (Tr.done X.ret (St.mk [V.c (C.p (PV.b false))] []))))))
          (Tr.done X.ret (St.mk [V.c (C.p (PV.b false))] []))))) := by kernel_rfl
theorem namesL_size (i : Nat) : (namesL.getD i default).size ≤ maxLen := by
  by_cases h : i < 6
  · have h : i = 0 ∨ i = 1 ∨ i = 2 ∨ i = 3 ∨ i = 4 ∨ i = 5 := by omega
    rcases h with rfl | rfl | rfl | rfl | rfl | rfl <;> exact of_decide_eq_true (by kernel_rfl)
  · rw [List.getD_eq_getElem?_getD, List.getElem?_eq_none (by simp [namesL]; omega)]
    exact Nat.zero_le _
theorem fewS_size (b : Int) : ∀ i, ∀ s ∈ (fewS b i).2, s.size ≤ maxLen
  | 0 => fun s h => by cases h
  | i + 1 => fun s h => by
    have ih := fewS_size b i
    have h : s ∈ (if (fewS b i).1 % 2 = 1 then (fewS b i).2 ++ [namesL.getD i default] else (fewS b i).2) := h
    split at h
    · rw [List.mem_append, List.mem_singleton] at h
      rcases h with h | rfl
      · exact ih s h
      · exact namesL_size i
    · exact ih s h
theorem szS_of {N : List ByteArray} (hl : N.length ≤ 1000000) (h : ∀ s ∈ N, s.size ≤ maxLen) : SzS N := ⟨hl, fun i hi => h _ (getD_memG hi)⟩
theorem fewL_length (N : List ByteArray) (w : Int) : (fewL N w).length ≤ 9 := by
  unfold fewL
  have := fewS_len (aroundZ w 64) 6
  rw [List.length_append, List.length_take]; omega
theorem fewL_size {N : List ByteArray} (hN : ∀ s ∈ N, s.size ≤ maxLen) (w : Int) : ∀ s ∈ fewL N w, s.size ≤ maxLen := by
  intro s h
  unfold fewL at h
  rcases List.mem_append.1 h with h | h
  · exact hN s (List.mem_of_mem_take h)
  · exact fewS_size _ _ s h
theorem setS_ok (L : List Int) : ∀ i, (setS L i).2.length ≤ i ∧ ∀ x ∈ (setS L i).2, x.1.size ≤ maxLen
  | 0 => ⟨Nat.le_refl _, fun x h => by cases h⟩
  | i + 1 => by
    obtain ⟨h1, h2⟩ := setS_ok L i
    show (if (setS L i).1 % 2 = 1 then (setS L i).2 ++ [(namesL.getD i default, valuesL.getD (pickZ L (i + 1) 6).toNat default)] else (setS L i).2).length ≤ i + 1 ∧ ∀ x ∈ (if (setS L i).1 % 2 = 1 then (setS L i).2 ++ [(namesL.getD i default, valuesL.getD (pickZ L (i + 1) 6).toNat default)] else (setS L i).2), x.1.size ≤ maxLen
    split
    · refine ⟨by rw [List.length_append]; simp only [List.length_cons, List.length_nil]; omega, fun x h => ?_⟩
      rw [List.mem_append, List.mem_singleton] at h
      rcases h with h | rfl
      · exact h2 x h
      · exact namesL_size i
    · exact ⟨by omega, h2⟩
theorem szL_set (L : List Int) : SzL (setL L) := by
  obtain ⟨h1, h2⟩ := setS_ok L 6
  exact ⟨by show (setS L 6).2.length ≤ _; omega, fun i hi => h2 _ (getD_memG hi)⟩
theorem alS_mem (L : List Int) : ∀ i, ∀ x ∈ alS L i, ∃ M, x = setL M
  | 0 => fun x h => by cases h
  | i + 1 => fun x h => by
    have h : x ∈ alS L i ++ [setL (alNum (pickZ L (i + 1) 100000))] := h
    rw [List.mem_append, List.mem_singleton] at h
    rcases h with h | rfl
    · exact alS_mem L i x h
    · exact ⟨_, rfl⟩
theorem alOK (L : List Int) : AlOK (alL L) := by
  have hp := pickZ_range L 0 (m := 9) (by omega)
  refine ⟨by unfold alL; rw [alS_length]; omega, fun i hi => ?_⟩
  obtain ⟨M, hM⟩ := alS_mem L _ _ (getD_memG hi)
  show SzL ((alS L (pickZ L 0 9).toNat).getD i default)
  rw [hM]
  exact szL_set M
theorem grpL_short (key : Int → List (ByteArray × ByteArray)) {n : Nat} (hn : n ≤ 1000000) : ShortL (grpL key n) := by
  unfold grpL
  refine ⟨by rw [List.length_map]; exact Nat.le_trans (keysL_length key n) hn, fun i hi => ?_⟩
  rw [List.length_map] at hi
  rw [List.getD_eq_getElem?_getD, List.getElem?_map, List.getElem?_eq_getElem hi]
  exact Nat.le_trans (block_length key n _) hn
section
variable {G : Nat → Option Obj}
theorem extLA_sound : SoundExt Try.prog G extLA := extH_sound (by simp; exact ⟨okAlerts.lift, okFewH⟩)
theorem extLB_sound : SoundExt Try.prog G extLB := extOf_sound (by simp; exact ⟨okGroups, okGroupsR, okSameGroups, okLives⟩)
set_option maxRecDepth 100000 in
theorem routeGroups_fn {L : List Int} {N : List ByteArray} {w : Int} (hI : Ints L) (hN : ∀ s ∈ N, s.size ≤ maxLen) (hw : inR .i64 w) (h : List AO) : FnS Try.prog G 3 [listV encI 1 L, listV encS 1 N, iV w] h fun x h' => x = bV true ∧ h' = h := by
  refine fn_S Try.func3 (by kernel_rfl) rfl ?_ h
  refine ExS.evG extLA_sound 3 (tRG1 L N w) ?_
  simp only [holds_rq, holds_leaf, kf_normal, decI_row, decS_row]
  refine ⟨⟨isL_row _ _ _, hI⟩, ⟨isL_row _ _ _, hw⟩, ⟨?_⟩⟩
  have hA := alOK L
  have hB := szS_of (Nat.le_trans (fewL_length N w) (by omega)) (fewL_size hN w)
  generalize alL L = A at hA
  generalize fewL N w = B at hB
  refine ExS.pre (weak_frz (j := 8) (id := 0) (ty := 9) (sz := 1) (n := B.length) (off := 0) (len := B.length) (f := fun e o => renC [0] (C.p (rowP encS B e o))) (by kernel_rfl) (by kernel_rfl) (by omega) (fun _ _ _ _ => rfl)) ?_
  refine ExS.pre (st2 := cst 31 [(7, listV encAl 6 A), (8, listV encS 1 B)] []) ((weak_gc (msk 31 [7, 8]) _).trans (weak_of_eq (by kernel_rfl))) ?_
  refine ExS.evH extLB_sound (tRG2 A B) ?_
  have hs := fun (B : List ByteArray) => grpL_short (keyA A B) (n := A.length) (by have := hA.1; omega)
  simp only [holds_bT, holds_rq, holds_leaf, kf_ret', decAl_row, decS_row, decLI_row, isL_row, hA, hB, hs, decide_true, decide_false, Bool.false_eq_true, Bool.true_eq_false, false_imp_iff, true_imp_iff, and_true, true_and]
  exact ⟨VLe.refl _⟩
end
theorem rowS_vr {w : World} {a : Option Addr} {len cap : Nat} {zs : List ByteArray} (h : (a = none ∧ len = 0 ∧ cap = 0 ∧ zs = []) ∨
  ∃ x : Addr, a = some x ∧ len ≤ cap ∧ cap ≤ maxLen ∧ zs.length = cap ∧ (∀ i, i < zs.length → w.cell? (x.add i) = some (.string (zs.getD i ByteArray.empty))) ∧ ∀ n ∈ zs, n.size ≤ maxLen) :
    ∃ L : List ByteArray, (∀ s ∈ L, s.size ≤ maxLen) ∧ VR Bt.nil (fun b => b < w.heap.size) w (listV encS 1 L) (.slice a len cap) := by
  rcases h with ⟨rfl, rfl, rfl, rfl⟩ | ⟨x, rfl, h1, h2, h3, h4, h5⟩
  · exact ⟨[], (fun x hx => by cases hx), none, 0, rfl, Nat.le_refl _, Nat.zero_le _, fun h => absurd h (Nat.lt_irrefl 0)⟩
  · have hl : (zs.take len).length = len := by rw [List.length_take]; omega
    refine ⟨zs.take len, fun y hy => h5 y (List.mem_of_mem_take hy), some x, cap, by rw [hl], by rw [hl]; exact h1, h2, fun hn => ?_⟩
    rw [hl] at hn
    refine ⟨x, rfl, ?_, fun e o he ho => ?_⟩
    · have := World.block_lt_of_cell? w _ (h4 0 (by omega))
      rwa [addr_block] at this
    · rw [hl] at he
      obtain rfl : o = 0 := by omega
      refine ⟨_, h4 (e * 1 + 0) (by omega), ?_⟩
      show Value.string (zs.getD (e * 1 + 0) ByteArray.empty) = Value.string ((zs.take len).getD e default)
      have : e < zs.length := by omega
      simp [he, this]
end Go.AE
