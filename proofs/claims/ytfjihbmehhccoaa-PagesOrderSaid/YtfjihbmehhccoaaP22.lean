/- The law PagesRuns. -/
import Derived.Test.YtfjihbmehhccoaaP21
namespace Go.AE
set_option linter.unusedVariables false
set_option linter.unusedSimpArgs false
open Go.Proofs Go.Proofs.Ytfjihbmehhccoaa Go.RowKit
theorem runsG_in (a : Int) (L : List Int) : ∀ k, (∀ t ∈ runsG a L k, a ≤ t ∧ t < a + k) ∧ (runsG a L k).Pairwise (· < ·)
  | 0 => ⟨fun t ht => by simp [runsG] at ht, by simp [runsG]⟩
  | k + 1 => by
    obtain ⟨h1, h2⟩ := runsG_in a L k
    by_cases h : L.getD k default = 2 ∧ (k = 0 ∨ L.getD (k - 1) default ≠ 2)
    · rw [runsG_yes h]
      refine ⟨fun t ht => ?_, List.pairwise_append.2 ⟨h2, List.pairwise_singleton _ _, fun x hx y hy => ?_⟩⟩
      · rcases List.mem_append.1 ht with h3 | h3
        · have := h1 t h3; omega
        · have := List.mem_singleton.1 h3; omega
      · have := h1 x hx
        have := List.mem_singleton.1 hy
        omega
    · rw [runsG_no h]
      exact ⟨fun t ht => by have := h1 t ht; omega, h2⟩
theorem around_in (n m : Int) (hm : 0 < m) : 0 ≤ aroundZ n m ∧ aroundZ n m < m := ⟨Int.emod_nonneg _ (by omega), Int.emod_lt_of_pos _ hm⟩
theorem verdL_len (A : List Int) (m : Nat) : (verdL A m).length ≤ m := by
  unfold verdL
  rw [List.length_map, List.length_take]
  omega
theorem getD_notin {W : List Int} (hW : W.Pairwise (· < ·)) {i : Nat} (hi : i < W.length) : W.getD i default ∉ W.take i := by
  intro h
  have h1 := takeD hi
  have h2 : (W.take (i + 1)).Pairwise (· < ·) := hW.sublist (List.take_sublist _ _)
  rw [h1] at h2
  have := (List.pairwise_append.1 h2).2.2 _ h _ (List.mem_singleton.2 rfl)
  omega
section
variable {G : Nat → Option Obj}
theorem extQ1_sound : SoundExt Try.prog G extQ1 := extH_sound (by simp; exact ⟨okAround.lift, okVerd.lift, okRuns.lift, okNew⟩)
theorem extQ3_sound (D : Ld) (S T : List Int) (out : List Pg) (D' : Ld) : SoundExt Try.prog G (extQ3 D S T out D') := extH_sound (by simp; exact okAmendX D S T out D')
theorem extQ4_sound : SoundExt Try.prog G extQ4 := extOf_sound (by simp; exact okHas)
theorem extQ5_sound (D : Ld) (S U W : List Int) : SoundExt Try.prog G (extQ5 D S U W) := extH_sound (by simp; exact ⟨okValidX D S U, (okSameX U W).lift, okLives31.lift⟩)
set_option maxRecDepth 100000 in
set_option maxHeartbeats 2000000 in
theorem pagesRuns_fn (A B : List Int) (n : Int) (hA : ∀ t ∈ A, inR .i64 t) (hB : ∀ t ∈ B, inR .i64 t) (hn : inR .i64 n) (h : List AO) : FnS Try.prog G 7 [listV encI 1 A, listV encI 1 B, iV n] h fun x h' => x = bV true ∧ h' = h := by
  refine fn_S Try.func7 (by kernel_rfl) rfl ?_ h
  refine ExS.evG extQ1_sound 3 (tQ1 A B n) ?_
  simp only [holds_rq, holds_leaf, kf_normal, decI_row]
  have ha := around_in n 1000 (by omega)
  generalize aroundZ n 1000 = a at ha ⊢
  have lA := verdL_len A 30
  have lB := verdL_len B 30
  refine ⟨⟨hn, by decide⟩, ⟨isL_row _ _ _, hA, by decide, by decide⟩, ⟨isL_row _ _ _, ⟨by omega, by omega⟩, by omega⟩, ⟨?_⟩⟩
  rw [show Int.toNat 30 = 30 from rfl]
  obtain ⟨w1, w2⟩ := runsG_in a (verdL A 30) (verdL A 30).length
  have w3 := runsG_len a (verdL A 30) (verdL A 30).length
  change ∀ t ∈ runsL a (verdL A 30), _ at w1
  change (runsL a (verdL A 30)).Pairwise _ at w2
  change (runsL a (verdL A 30)).length ≤ _ at w3
  generalize runsL a (verdL A 30) = W at w1 w2 w3 ⊢
  have w1 : ∀ t ∈ W, 0 ≤ t ∧ t ≤ 1100 := fun t ht => by have := w1 t ht; omega
  refine ExS.pre (weak_of_eq (by kernel_rfl)) (ExS.evG extQ1_sound 5 (tQ2 B W a) ?_)
  simp only [holds_rq, holds_leaf, kf_normal, decI_row]
  refine ⟨⟨isL_row _ _ _, hB, by decide, by decide⟩, ⟨isL_row _ _ _, ⟨by omega, by omega⟩, by omega⟩, trivial, ⟨?_⟩⟩
  rw [show Int.toNat 30 = 30 from rfl]
  obtain ⟨x1, x2⟩ := runsG_in a (verdL B 30) (verdL B 30).length
  have x3 := runsG_len a (verdL B 30) (verdL B 30).length
  change ∀ t ∈ runsL a (verdL B 30), _ at x1
  change (runsL a (verdL B 30)).Pairwise _ at x2
  change (runsL a (verdL B 30)).length ≤ _ at x3
  generalize runsL a (verdL B 30) = I at x1 x2 x3 ⊢
  have x1 : ∀ t ∈ I, 0 ≤ t ∧ t ≤ 1100 := fun t ht => by have := x1 t ht; omega
  have hin : ∀ t : Int, 0 ≤ t ∧ t ≤ 1100 → inR .i64 t := fun t ht => by unfold inR; omega
  have i1 : inR .i64 1 := by unfold inR; omega
  refine ExS.loop' (l := dropL 5 (dropL 3 (pcs Try.prog Try.f7))) (b := inr (inr (nth .skip (pcs Try.prog Try.f7) 8))) (r := dropL 9 (pcs Try.prog Try.f7)) (id := 0) (by kernel_rfl) (σ := Nat × Ld)
    (fun (i, D) => cst 92 [(7, iV a), (8, listV encI 1 W), (9, listV encI 1 I), (10, .c (.ptr 0 0)), (11, iV (i : Nat))] (ldH D [])) (fun (i, D) => i ≤ W.length ∧ ∃ S pd, Vw ⟨#[104, 111, 116]⟩ 1 [] D S pd ∧ (∀ t, pd t = if t ∈ W.take i then some true else none) ∧ S.length ≤ i ∧ D.M.length ≤ i ∧ ∀ t ∈ S, t ∈ W) (fun (i, _) => W.length - i) (0, ld0)
    ⟨Nat.zero_le _, [], fun _ => none, vw_ld0 _ _ _, fun t => by simp, Nat.le_refl _, Nat.le_refl _, fun t ht => by cases ht⟩ (weak_of_eq (by kernel_rfl)) ?_
  rintro ⟨i, D⟩ ⟨hi, S, pd, hv, hpd, hS, hM, hSW⟩ Q1 q1n q1e -
  refine ExS.evH (extFr_sound D) (tQ3 D W I a i) ?_
  simp only [holds_bT, holds_rq, holds_leaf, kf_ret', kf_normal, kf_exit, decide_eq_true_eq, decide_eq_false_iff_not, bne_iff_ne, bne_eq_false_iff_eq, ne_eq, inR, show (↑i : Int).toNat = i from rfl]
  refine ⟨fun h2 => ?_, fun h2 => ⟨q1e _ ?_⟩⟩
  · have hlt : i < W.length := by omega
    have hm := getD_memI hlt
    have hni := getD_notin w2 hlt
    have hs := takeD hlt
    generalize W.getD i default = t at hm hni hs ⊢
    have ht := w1 t hm
    have hok : pgOK ⟨0, ⟨#[104, 111, 116]⟩, 1, [], t, t, ⟨#[]⟩⟩ = true := hot_ok (tick_of (by omega) (by omega)) (tick_of (by omega) (by omega))
    have e1 := lfire_new hv t t ⟨#[]⟩ hok (by rw [hpd, if_neg hni])
    obtain ⟨S1, v1, l1, m1⟩ := hv.add 0 t t ⟨#[]⟩
    refine ⟨by omega, by omega, ⟨⟨trivial, trivial, trivial, fun _ _ _ _ => trivial, trivial, trivial, trivial, trivial⟩, fun _ _ => hot_fits hv (by omega) (by omega) 0 t t ⟨#[]⟩ (hin t ht)⟩, fun h3 => ?_, fun h3 => ⟨by omega, ⟨?_⟩⟩⟩
    · exact absurd (by rw [e1]) h3
    · rw [e1]
      refine q1n (i + 1, ladd D ⟨0, ⟨#[104, 111, 116]⟩, 1, [], t, t, ⟨#[]⟩⟩) _ ⟨by omega, S1, _, v1, fun u => ?_, by omega, by unfold ladd; simp; omega, fun u hu => ?_⟩ (by simp only; omega) (weak_of_eq (by kernel_rfl))
      · rw [hs]
        unfold updP
        by_cases e : u = t
        · subst e; simp
        · rw [if_neg e, hpd]; simp [e]
      · rcases m1 u hu with h | h
        · exact hSW u h
        · rw [h]; exact hm
  · obtain rfl : i = W.length := by omega
    rw [List.take_length] at hpd
    have hok : pgOK ⟨0, ⟨#[104, 111, 116]⟩, 1, [], 0, a + 50, ⟨#[]⟩⟩ = true := hot_ok rfl (tick_of (by omega) (by omega))
    obtain ⟨D2, S2, pd2, e3, v2, g2, q2, l2, m2, n2⟩ := lamend_vw hv I (a + 50) hok fun t ht => tick_of (x1 t ht).1 (by have := (x1 t ht).2; omega)
    have hO : ∀ p ∈ amOut ⟨#[104, 111, 116]⟩ 1 [] (a + 50) pd S I, (decide (p.st ∈ W) == decide (p.st ∈ I)) = false ∧ (!((p.kd == 1) == decide (p.st ∈ W))) = false := fun p hp => by
      unfold amOut at hp
      obtain ⟨t, ht, rfl⟩ := List.mem_map.1 hp
      have hf := (List.mem_filter.1 ht).2
      unfold flipB at hf
      rw [hpd] at hf
      unfold amPg
      dsimp only
      by_cases e1 : t ∈ W <;> by_cases e2 : t ∈ I <;> simp [e1, e2] at hf ⊢
    have hOl : (amOut ⟨#[104, 111, 116]⟩ 1 [] (a + 50) pd S I).length ≤ S.length + I.length := by
      unfold amOut
      rw [List.length_map]
      have h1 := List.length_filter_le (flipB pd I) (compI (sortI (S ++ I)))
      have h2 := compI_length (sortI (S ++ I))
      rw [sortI_length, List.length_append] at h2
      omega
    generalize amOut ⟨#[104, 111, 116]⟩ 1 [] (a + 50) pd S I = O at e3 hO hOl
    have rS : ∀ t ∈ S, inR .i64 t := fun t ht => hin t (w1 t (hSW t ht))
    refine ExS.pre ((weak_gc (msk 92 [7, 8, 9, 10]) _).trans (weak_of_eq (by kernel_rfl))) (ExS.evG (extQ3_sound D S I O D2) 2 (tQ4 D D2 S W I O a) ?_)
    simp only [holds_rq, holds_leaf, kf_normal, inR]
    refine ⟨by omega, ⟨⟨⟨trivial, trivial, trivial, fun _ _ _ _ => trivial, trivial, trivial, trivial, trivial⟩, isL_row _ _ _⟩, hv.st, ⟨by decide, by decide, by decide, by decide, rS, by omega, by omega⟩, e3⟩, ⟨?_⟩⟩
    refine ExS.loop' (l := dropL 2 (dropL 9 (pcs Try.prog Try.f7))) (b := inr (inr (nth .skip (pcs Try.prog Try.f7) 11))) (r := dropL 12 (pcs Try.prog Try.f7)) (id := 2) (by kernel_rfl) (σ := Nat)
      (fun i => cst 92 [(8, listV encI 1 W), (9, listV encI 1 I), (10, .c (.ptr 0 0)), (12, listV encPg 7 O), (13, iV (i : Nat))] (ldH D2 [])) (fun i => i ≤ O.length) (fun i => O.length - i) 0 (Nat.zero_le _) (weak_of_eq (by kernel_rfl)) ?_
    intro i hi2 Q2 q2n q2e _
    refine ExS.evH extQ4_sound (tQ5 D2 W I O i) ?_
    simp only [holds_bT, holds_rq, holds_leaf, kf_ret', kf_normal, kf_exit, decide_eq_true_eq, decide_eq_false_iff_not, inR, show (↑i : Int).toNat = i from rfl, decI_row]
    refine ⟨fun h3 => ?_, fun h3 => ⟨q2e _ ?_⟩⟩
    · have hlt : i < O.length := by omega
      have hp : O.getD i default ∈ O := by
        rw [List.getD_eq_getElem?_getD, List.getElem?_eq_getElem hlt]
        exact List.getElem_mem _
      obtain ⟨c1, c2⟩ := hO _ hp
      refine ⟨by omega, ⟨isL_row _ _ _, by omega⟩, by omega, ⟨isL_row _ _ _, by omega⟩, fun h4 => ?_, fun _ => ⟨by omega, fun h4 => ?_, fun _ => ⟨by omega, ⟨q2n (i + 1) _ (by omega) (by omega) (weak_of_eq (by kernel_rfl))⟩⟩⟩⟩
      · rw [c1] at h4; cases h4
      · rw [c2] at h4; cases h4
    · have rS2 : ∀ t ∈ S2, inR .i64 t := fun t ht => by
        rcases m2 t ht with h | h
        · exact rS t h
        · exact hin t (x1 t h)
      have e5 : lvalid D2 ⟨#[104, 111, 116]⟩ 1 [] S2 = listV encI 1 I := lvalid_vw v2 (hot_ok rfl rfl) x2 fun t => by rw [g2]; simp
      refine ExS.pre ((weak_gc (msk 92 [9, 10]) _).trans (weak_of_eq (by kernel_rfl))) (ExS.evH (extQ5_sound D2 S2 I I) (tQ6 D2 S2 I I) ?_)
      simp only [holds_bT, holds_rq, holds_leaf, kf_ret', decide_eq_true_eq, decide_eq_false_iff_not]
      exact ⟨⟨⟨trivial, trivial, trivial, fun _ _ _ _ => trivial, trivial, trivial, trivial, trivial⟩, v2.st, ⟨by decide, by decide, i1, rS2, by omega⟩, e5⟩, ⟨⟨isL_row _ _ _, isL_row _ _ _⟩, by omega⟩, fun _ => ⟨trivial, ⟨VLe.of_eq rfl⟩⟩, fun h4 => absurd trivial h4⟩
end
end Go.AE
