/- AE: the law RoutePartition. -/
import Derived.Test.YtkpladkcppeciaaT7
namespace Go.AE
open Go.Proofs Go.Proofs.Ytkpladkcppeciaa Gp
set_option linter.unusedVariables false
set_option linter.unusedSimpArgs false
section
variable {G : Nat → Option Obj}
set_option maxRecDepth 100000 in
set_option maxHeartbeats 4000000 in
theorem routePartition_fn {L : List Int} {w v : Int} (hI : Ints L) (hw : inR .i64 w) (hv : inR .i64 v) (h : List AO) : FnS Try.prog G 4 [listV encI 1 L, iV w, iV v] h fun x h' => x = bV true ∧ h' = h := by
  refine fn_S Try.func4 (by kernel_rfl) rfl ?_ h
  refine ExS.evG extLA_sound 3 (tPt1 L w v) ?_
  simp only [holds_rq, holds_leaf, kf_normal, decI_row]
  refine ⟨⟨isL_row _ _ _, hI⟩, hw, ⟨?_⟩⟩
  have hA := alOK L
  have sz0 : ∀ s ∈ ([] : List ByteArray), s.size ≤ maxLen := fun s h => by cases h
  have hB := szS_of (Nat.le_trans (fewL_length [] w) (by omega)) (fewL_size sz0 w)
  have hDl : (fewL [] w ++ fewL [] v).length ≤ 18 := by
    have h1 := fewL_length [] w
    have h2 := fewL_length [] v
    rw [List.length_append]; omega
  have hD := szS_of (N := fewL [] w ++ fewL [] v) (by omega) (fun s hs => by
    rcases List.mem_append.1 hs with hs | hs
    · exact fewL_size sz0 w s hs
    · exact fewL_size sz0 v s hs)
  refine ExS.pre (weak_frz (j := 8) (id := 0) (ty := 9) (sz := 1) (n := (fewL [] w).length) (off := 0) (len := (fewL [] w).length) (f := fun e o => renC [0] (C.p (rowP encS (fewL [] w) e o))) (by kernel_rfl) (by kernel_rfl) (by omega) (fun _ _ _ _ => rfl)) ?_
  refine ExS.pre (st2 := (fun (A : List (List (ByteArray × ByteArray))) (B : List ByteArray) => cst 124 [(1, iV w), (2, iV v), (7, listV encAl 6 A), (8, listV encS 1 B)] []) (alL L) (fewL [] w)) ((weak_gc (msk 124 [1, 2, 7, 8]) _).trans (weak_of_eq (by kernel_rfl))) ?_
  generalize alL L = A at hA
  refine ExS.evG extLA_sound 1 (tPt2 A (fewL [] w) w v) ?_
  simp only [holds_rq, holds_leaf, kf_normal]
  rw [List.length_append] at hDl
  refine ⟨hw, hv, trivial, by omega, ⟨by omega, by omega, fun _ _ _ _ => rfl⟩, ⟨?_⟩⟩
  have hkb := fun (a b : List (ByteArray × ByteArray)) => keep_both (a := a) (b := b) (N := fewL [] w) (M := fewL [] v)
  refine ExS.pre (weak_frz (j := 9) (id := 0) (ty := 9) (sz := 1) (n := (fewL [] w).length + (fewL [] v).length) (off := 0) (len := (fewL [] w).length + (fewL [] v).length) (f := fun e o => renC [2] (appF (fewL [] w).length (rowC encS (fewL [] w)) (rowC encS (fewL [] v)) e o)) (by kernel_rfl) (by kernel_rfl) (by omega) (fun e o _ _ => by rw [appL rfl]; rfl)) ?_
  refine ExS.pre (st2 := (fun (B D : List ByteArray) => cst 124 [(7, listV encAl 6 A), (8, listV encS 1 B), (9, listV encS 1 D)] []) (fewL [] w) (fewL [] w ++ fewL [] v)) ((weak_gc (msk 124 [7, 8, 9]) _).trans ((weak_slot (j := 9) (y := listV encS 1 (fewL [] w ++ fewL [] v)) ?_).trans (weak_of_eq (by kernel_rfl)))) ?_
  · show VLe (V.c (C.p (PV.l 1 ((fewL [] w).length + (fewL [] v).length) fun e o => unP (renC [2] (appF (fewL [] w).length (rowC encS (fewL [] w)) (rowC encS (fewL [] v)) (e + 0) o))))) (V.c (C.p (PV.l 1 (fewL [] w ++ fewL [] v).length (rowP encS (fewL [] w ++ fewL [] v)))))
    rw [List.length_append]
    refine VLe.p (PLe.l fun e o he ho => PLe.of_eq ?_)
    rw [appL rfl]; rfl
  generalize fewL [] w ++ fewL [] v = D at hD hkb
  generalize fewL [] w = B at hB hkb
  clear hDl
  have hA19 := hA.1
  refine ExS.evG (extOw_sound (rkK (keyA A B) A.length)) 1 (tPt3 (rkK (keyA A B) A.length) A B D) ?_
  simp only [holds_rq, holds_leaf, kf_normal, decAl_row, decS_row, decLI_row]
  refine ⟨⟨⟨isL_row _ _ _, hA⟩, isL_row _ _ _, hB⟩, ⟨⟨isL_row _ _ _, by omega⟩, isL_row _ _ _, ownP_grp _ _⟩, ⟨?_⟩⟩
  have hX := ownL_length A.length (rkK (keyA A B) A.length)
  have hXa := fun {k : Nat} (hk : k < A.length) => ownL_at (rk := rkK (keyA A B) A.length) hk
  generalize ownL A.length (rkK (keyA A B) A.length) = X at hX hXa
  refine ExS.evG (extOw_sound (rkK (keyA A D) A.length)) 1 (tPt4 (rkK (keyA A D) A.length) A B D X) ?_
  simp only [holds_rq, holds_leaf, kf_normal, decAl_row, decS_row, decLI_row]
  refine ⟨⟨⟨isL_row _ _ _, hA⟩, isL_row _ _ _, hD⟩, ⟨⟨isL_row _ _ _, by omega⟩, isL_row _ _ _, ownP_grp _ _⟩, ⟨?_⟩⟩
  have hY := ownL_length A.length (rkK (keyA A D) A.length)
  have hYa := fun {k : Nat} (hk : k < A.length) => ownL_at (rk := rkK (keyA A D) A.length) hk
  generalize ownL A.length (rkK (keyA A D) A.length) = Y at hY hYa
  have f1 : ∀ i k : Nat, i < A.length → k < A.length → cmpL (keepL (A.getD i default) B) (keepL (A.getD k default) B) < 0 → X.getD i default < X.getD k default := fun i k hi hk hc => by
    rw [hXa hi, hXa hk]
    have := rk_lt (keyA A B) (n := A.length) (x := i) (y := k) (by omega) (by omega) hc
    omega
  have f2 : ∀ i k : Nat, i < A.length → k < A.length → keepL (A.getD i default) B = keepL (A.getD k default) B → X.getD i default = X.getD k default := fun i k hi hk hc => by
    rw [hXa hi, hXa hk, (rk_key (keyA A B) (n := A.length) (x := i) (y := k) (by omega) (by omega)).2 hc]
  have f3 : ∀ i k : Nat, i < A.length → k < A.length → Y.getD i default = Y.getD k default → X.getD i default = X.getD k default := fun i k hi hk hc => by
    rw [hYa hi, hYa hk] at hc
    exact f2 i k hi hk (hkb _ _ ((rk_key (keyA A D) (n := A.length) (x := i) (y := k) (by omega) (by omega)).1 (by omega)))
  clear hXa hYa hkb hD
  refine ExS.evG ext0_sound 3 (tPt5 A B X Y) ?_
  simp only [holds_bT, holds_leaf, kf_normal, kf_ret', bne_iff_ne, bne_eq_false_iff_eq, ne_eq]
  refine ⟨fun h1 => absurd (by rw [hX]) h1, fun _ => ⟨fun h1 => absurd (by rw [hY]) h1, fun _ => ⟨?_⟩⟩⟩
  refine ExS.loop' (l := dropL 9 (pcs Try.prog Try.f4)) (b := inr (inr (nth .skip (pcs Try.prog Try.f4) 9))) (r := dropL 10 (pcs Try.prog Try.f4)) (id := 0) (by kernel_rfl) (σ := Nat)
    (fun i => cst 124 [(7, listV encAl 6 A), (8, listV encS 1 B), (10, listV encI 1 X), (11, listV encI 1 Y), (12, iV (i : Nat))] []) (fun i => i ≤ A.length) (fun i => A.length - i) 0 (Nat.zero_le _) (weak_of_eq (by kernel_rfl)) ?_
  intro i hi Q1 q1n q1e _
  refine ExS.evG ext0_sound 2 (tPt6 A B X Y i) ?_
  simp only [holds_bT, holds_leaf, kf_normal, kf_exit, decide_eq_true_eq, decide_eq_false_iff_not]
  refine ⟨fun h1 => ⟨?_⟩, fun h1 => ⟨q1e _ ?_⟩⟩
  · have h1 : i < A.length := by omega
    refine ExS.blk' (l := dropL 2 (lpB (pcs Try.prog Try.f4) 9)) (id := 1) (a := inr (nth .skip (lpB (pcs Try.prog Try.f4) 9) 2)) (r := dropL 3 (lpB (pcs Try.prog Try.f4) 9)) (by kernel_rfl) ?_
    intro Q2 q2n _ q2r
    refine ExS.evG ext0_sound 1 (tPt7 A B X Y i) ?_
    simp only [holds_leaf, kf_normal]
    refine ⟨?_⟩
    refine ExS.loop' (l := dropL 1 (flat (inr (nth .skip (lpB (pcs Try.prog Try.f4) 9) 2)))) (b := inr (inr (nth .skip (flat (inr (nth .skip (lpB (pcs Try.prog Try.f4) 9) 2))) 1))) (r := dropL 2 (flat (inr (nth .skip (lpB (pcs Try.prog Try.f4) 9) 2)))) (id := 2) (by kernel_rfl) (σ := Nat)
      (fun k => cst 124 [(7, listV encAl 6 A), (8, listV encS 1 B), (10, listV encI 1 X), (11, listV encI 1 Y), (12, iV (i : Nat)), (13, iV (k : Nat))] []) (fun k => k ≤ A.length) (fun k => A.length - k) 0 (Nat.zero_le _) (weak_of_eq (by kernel_rfl)) ?_
    intro k hk Q3 q3n q3e _
    refine ExS.evG ext0_sound 2 (tPt8 A B X Y i k) ?_
    simp only [holds_bT, holds_leaf, kf_normal, kf_exit, decide_eq_true_eq, decide_eq_false_iff_not]
    refine ⟨fun h2 => ⟨?_⟩, fun h2 => ⟨q3e _ ?_⟩⟩
    · have h2 : k < A.length := by omega
      refine ExS.blk' (l := dropL 2 (lpB (flat (inr (nth .skip (lpB (pcs Try.prog Try.f4) 9) 2))) 1)) (id := 3) (a := inr (nth .skip (lpB (flat (inr (nth .skip (lpB (pcs Try.prog Try.f4) 9) 2))) 1) 2)) (r := dropL 3 (lpB (flat (inr (nth .skip (lpB (pcs Try.prog Try.f4) 9) 2))) 1)) (by kernel_rfl) ?_
      intro Q4 q4n _ _
      have si := hA.2 i h1
      have sk := hA.2 k h2
      refine ExS.evG extKC_sound 1 (tPt9 A B X Y i k) ?_
      simp only [holds_rq, holds_leaf, kf_normal, dec2_row, decS_row, show (↑i : Int).toNat = i from rfl, show (↑k : Int).toNat = k from rfl]
      refine ⟨by omega, ⟨⟨isL_row _ _ _, si⟩, isL_row _ _ _, hB⟩, by omega, ⟨⟨isL_row _ _ _, sk⟩, isL_row _ _ _, hB⟩, ⟨⟨isL_row _ _ _, isL_row _ _ _⟩, Nat.le_trans (keepL_len _ _) si.1⟩, ⟨?_⟩⟩
      have g1 := f1 i k h1 h2
      have g2 : cmpL (keepL (A.getD i default) B) (keepL (A.getD k default) B) = 0 → X.getD i default = X.getD k default := fun hc => f2 i k h1 h2 (cmpL_zero.1 hc)
      have g3 := f3 i k h1 h2
      generalize cmpL (keepL (A.getD i default) B) (keepL (A.getD k default) B) = c at g1 g2
      have fin : ∀ st, WeakS G st (cst 124 [(7, listV encAl 6 A), (8, listV encS 1 B), (10, listV encI 1 X), (11, listV encI 1 Y), (12, iV (i : Nat)), (13, iV (k : Nat))] []) → Q4 .normal st := fun st hst => q4n st (by
        refine ExS.pre hst (ExS.evH ext0_sound (tPtb A B X Y i k) ?_)
        simp only [holds_rq, holds_leaf, kf_normal, inR]
        exact ⟨by omega, ⟨q3n (k + 1) _ (by omega) (by omega) (weak_of_eq (by kernel_rfl))⟩⟩)
      have fin2 := fin _ (weak_of_eq rfl)
      clear fin q4n q3n q3e q2n q1n q1e f1 f2 f3
      refine ExS.evH ext0_sound (tPta A B X Y c i k) ?_
      simp only [holds_bT, holds_rq, holds_leaf, kf_normal, kf_ret', decide_eq_true_eq, decide_eq_false_iff_not, bne_iff_ne, bne_eq_false_iff_eq, beq_iff_eq, beq_eq_false_iff_ne, ne_eq, show (↑i : Int).toNat = i from rfl, show (↑k : Int).toNat = k from rfl]
      have b1 : 0 ≤ (i : Int) ∧ (i : Int) < (X.length : Int) := by omega
      have b2 : 0 ≤ (k : Int) ∧ (k : Int) < (X.length : Int) := by omega
      have b3 : 0 ≤ (i : Int) ∧ (i : Int) < (Y.length : Int) := by omega
      have b4 : 0 ≤ (k : Int) ∧ (k : Int) < (Y.length : Int) := by omega
      clear hX hY
      simp only [b1, b2, b3, b4, and_self, true_and, true_imp_iff]
      clear b1 b2 b3 b4 h1 h2 hi hk si sk hA19
      generalize X.getD i default = xi at *
      generalize X.getD k default = xk at *
      generalize Y.getD i default = yi at *
      generalize Y.getD k default = yk at *
      repeat' (first | apply And.intro | intro _)
      all_goals first | exact ⟨fin2⟩ | (exfalso; omega)
    · refine ⟨_, WeakS.refl _, q2n _ ?_⟩
      refine ExS.pre (st2 := (cst 124 [(7, listV encAl 6 A), (8, listV encS 1 B), (10, listV encI 1 X), (11, listV encI 1 Y), (12, iV (i : Nat))] [])) ((weak_gc (msk 124 [7, 8, 10, 11, 12]) _).trans (weak_of_eq (by kernel_rfl))) ?_
      refine ExS.evH ext0_sound (tPtc A B X Y i) ?_
      simp only [holds_rq, holds_leaf, kf_normal, inR]
      exact ⟨by omega, ⟨q1n (i + 1) _ (by omega) (by omega) (weak_of_eq (by kernel_rfl))⟩⟩
  · refine ExS.evH extLvs_sound (tPtd A B X Y i) ?_
    simp only [holds_rq, holds_leaf, kf_ret']
    exact ⟨trivial, ⟨VLe.refl _⟩⟩
end
end Go.AE
