/- AE contracts: ref01.SameInts, Has, ref28.Verdicts, alert.Runs: the proofs. -/
import Derived.Test.YtfjihbmehhccoaaP15
namespace Go.AE
set_option linter.unusedVariables false
set_option linter.unusedSimpArgs false
open Go.Proofs Go.Proofs.Ytfjihbmehhccoaa Go.RowKit
theorem runsG_len (a : Int) (L : List Int) : ∀ k, (runsG a L k).length ≤ k
  | 0 => Nat.le_refl _
  | k + 1 => by
    have := runsG_len a L k
    unfold runsG
    rw [List.length_append]
    split <;> simp <;> omega
theorem runsG_yes {a : Int} {L : List Int} {k : Nat} (h : L.getD k default = 2 ∧ (k = 0 ∨ L.getD (k - 1) default ≠ 2)) : runsG a L (k + 1) = runsG a L k ++ [a + k] := by rw [runsG, if_pos h]
theorem runsG_no {a : Int} {L : List Int} {k : Nat} (h : ¬ (L.getD k default = 2 ∧ (k = 0 ∨ L.getD (k - 1) default ≠ 2))) : runsG a L (k + 1) = runsG a L k := by rw [runsG, if_neg h, List.append_nil]
section
variable {G : Nat → Option Obj}
set_option maxRecDepth 100000 in
theorem okSameInts : ModOK Try.prog G 27 mSameInts := by
  intro args p v hm hp h
  unfold mSameInts at hm
  split at hm; rotate_left; · cases hm
  split at hm; rotate_left; · cases hm
  rename_i x y _ _ p1 A p2 B hx hy
  obtain ⟨rfl, rfl⟩ := some_pair hm
  obtain ⟨⟨hA, hB⟩, hlen⟩ := hp
  refine FnS.args (args' := [listV encI 1 A, listV encI 1 B]) ?_ (.cons (liOf_le hx hA) (.cons (liOf_le hy hB) .nil))
  clear hA hB hm hx hy
  refine fn_S Try.func27 (by kernel_rfl) rfl ?_ h
  refine ExS.evG ext0_sound 4 (tI1 A B) ?_
  simp only [holds_bT, holds_leaf, kf_ret', kf_normal, bne_iff_ne, bne_eq_false_iff_eq, ne_eq]
  refine ⟨fun h1 => ⟨VLe.of_eq ?_⟩, fun h1 => ⟨?_⟩⟩
  · rw [decide_eq_false (fun e => h1 (by rw [e]))]; rfl
  have h1 : A.length = B.length := by omega
  refine ExS.loop' (l := dropL 4 (pcs Try.prog Try.f27)) (b := inr (inr (nth .skip (pcs Try.prog Try.f27) 4))) (r := dropL 5 (pcs Try.prog Try.f27)) (id := 0) (by kernel_rfl) (σ := Nat)
    (fun i => cst 26 [(0, listV encI 1 A), (1, listV encI 1 B), (5, iV (i : Nat))] []) (fun i => i ≤ A.length ∧ A.take i = B.take i) (fun i => A.length - i) 0 ⟨Nat.zero_le _, rfl⟩ (weak_of_eq (by kernel_rfl)) ?_
  rintro i ⟨hi, hc⟩ Q1 q1n q1e -
  refine ExS.evH ext0_sound (tI2 A B i) ?_
  simp only [holds_bT, holds_rq, holds_leaf, kf_ret', kf_normal, kf_exit, decide_eq_true_eq, decide_eq_false_iff_not, bne_iff_ne, bne_eq_false_iff_eq, ne_eq, inR, show (↑i : Int).toNat = i from rfl]
  refine ⟨fun h2 => ⟨by omega, by omega, fun c1 => ⟨VLe.of_eq ?_⟩, fun c1 => ⟨by omega, ⟨q1n (i + 1) _ ⟨by omega, by rw [takeD (by omega), takeD (by omega), hc, c1]⟩ (by omega) (weak_of_eq (by kernel_rfl))⟩⟩⟩, fun h2 => ⟨q1e _ ?_⟩⟩
  · rw [decide_eq_false (fun e => c1 (by rw [e]))]; rfl
  · rw [List.take_of_length_le (by omega), List.take_of_length_le (by omega)] at hc
    refine ExS.evH ext0_sound (tI3 A B i) ?_
    simp only [holds_leaf, kf_ret']
    rw [decide_eq_true hc]
    exact ⟨VLe.refl _⟩
set_option maxRecDepth 100000 in
theorem okHas : ModOK Try.prog G 18 mHas := by
  intro args p v hm hp h
  unfold mHas at hm
  split at hm; rotate_left; · cases hm
  split at hm; rotate_left; · cases hm
  rename_i x n _ p1 A hx
  obtain ⟨rfl, rfl⟩ := some_pair hm
  obtain ⟨hA, hlen⟩ := hp
  refine FnS.args (args' := [listV encI 1 A, iV n]) ?_ (.cons (liOf_le hx hA) (.cons (.refl _) .nil))
  clear hA hm hx
  refine fn_S Try.func18 (by kernel_rfl) rfl ?_ h
  refine ExS.evG ext0_sound 2 (tH1 A n) ?_
  simp only [holds_bT, holds_leaf, kf_ret', kf_normal]
  refine ⟨?_⟩
  refine ExS.loop' (l := dropL 2 (pcs Try.prog Try.f18)) (b := inr (inr (nth .skip (pcs Try.prog Try.f18) 2))) (r := dropL 3 (pcs Try.prog Try.f18)) (id := 0) (by kernel_rfl) (σ := Nat)
    (fun i => cst 18 [(0, listV encI 1 A), (1, iV n), (5, iV (i : Nat))] []) (fun i => i ≤ A.length ∧ n ∉ A.take i) (fun i => A.length - i) 0 ⟨Nat.zero_le _, by simp⟩ (weak_of_eq (by kernel_rfl)) ?_
  rintro i ⟨hi, hc⟩ Q1 q1n q1e -
  refine ExS.evH ext0_sound (tH2 A n i) ?_
  simp only [holds_bT, holds_rq, holds_leaf, kf_ret', kf_normal, kf_exit, decide_eq_true_eq, decide_eq_false_iff_not, beq_iff_eq, beq_eq_false_iff_ne, ne_eq, inR, show (↑i : Int).toNat = i from rfl]
  refine ⟨fun h2 => ⟨by omega, fun c1 => ⟨VLe.of_eq ?_⟩, fun c1 => ⟨by omega, ⟨q1n (i + 1) _ ⟨by omega, ?_⟩ (by omega) (weak_of_eq (by kernel_rfl))⟩⟩⟩, fun h2 => ⟨q1e _ ?_⟩⟩
  · rw [decide_eq_true (by rw [← c1]; exact getD_memI (by omega))]; rfl
  · rw [takeD (by omega), List.mem_append]
    rintro (h | h)
    · exact hc h
    · exact c1 (List.mem_singleton.1 h).symm
  · rw [List.take_of_length_le (by omega)] at hc
    refine ExS.evH ext0_sound (tH3 A n i) ?_
    simp only [holds_leaf, kf_ret']
    rw [decide_eq_false hc]
    exact ⟨VLe.refl _⟩
set_option maxRecDepth 100000 in
theorem okVerd : ModOK Try.prog G 31 mVerd := by
  intro args p v hm hp h
  unfold mVerd at hm
  split at hm; rotate_left; · cases hm
  split at hm; rotate_left; · cases hm
  rename_i x m0 _ p1 A hx
  obtain ⟨rfl, rfl⟩ := some_pair hm
  obtain ⟨hA, hI, hm0, hm1⟩ := hp
  obtain ⟨m, rfl⟩ : ∃ m : Nat, m0 = m := ⟨m0.toNat, by omega⟩
  rw [show (m : Int).toNat = m from rfl]
  refine FnS.args (args' := [listV encI 1 A, iV m]) ?_ (.cons (liOf_le hx hA) (.cons (.refl _) .nil))
  clear hA hm hx
  refine fn_S Try.func31 (by kernel_rfl) rfl ?_ h
  refine ExS.evG ext0_sound 3 (tVe1 A m) ?_
  simp only [holds_bT, holds_leaf, kf_ret', kf_normal]
  refine ⟨?_⟩
  refine ExS.loop' (l := dropL 3 (pcs Try.prog Try.f31)) (b := inr (inr (nth .skip (pcs Try.prog Try.f31) 3))) (r := dropL 4 (pcs Try.prog Try.f31)) (id := 0) (by kernel_rfl) (σ := Nat)
    (fun i => (fun out k => cst 27 [(0, listV encI 1 A), (1, iV (m : Nat)), (5, .c (.sl 0 1 0 k)), (6, iV (i : Nat))] [.row 3 1 k (rowC encI out)]) (verdL A i) i) (fun i => i ≤ A.length ∧ i ≤ m) (fun i => A.length - i) 0 ⟨Nat.zero_le _, Nat.zero_le _⟩ ((weak_nil 3 1 (rowC encI []) 5 (by kernel_rfl)).trans (weak_of_eq (by kernel_rfl))) ?_
  rintro i ⟨hi, him⟩ Q1 q1n q1e -
  have hl : (verdL A i).length = i := by unfold verdL; rw [List.length_map, List.length_take]; omega
  have fin : ∀ st, (i = A.length ∨ i = m) → st = (fun out k => cst 27 [(0, listV encI 1 A), (1, iV (m : Nat)), (5, .c (.sl 0 1 0 k)), (6, iV (i : Nat))] [.row 3 1 k (rowC encI out)]) (verdL A i) i → ExS Try.prog G (resOf Try.prog Try.f31) (listV encI 1 (verdL A m)) (dropL 4 (pcs Try.prog Try.f31)) st fun _ _ => False := by
    rintro st he rfl
    refine ExS.evH ext0_sound (tVe3 A (verdL A i) m i i) ?_
    simp only [holds_rq, holds_leaf, kf_ret']
    refine ⟨⟨by omega, fun _ _ _ _ => rfl⟩, ⟨?_⟩⟩
    have e : verdL A m = verdL A i := by
      rcases he with rfl | rfl
      · unfold verdL; rw [List.take_length, List.take_of_length_le him]
      · rfl
    rw [e]
    unfold listV listP
    rw [hl]
    exact VLe.refl _
  refine ExS.evH extA_sound (tVe2 A (verdL A i) m i i) ?_
  simp only [holds_bT, holds_rq, holds_leaf, kf_ret', kf_normal, kf_exit, decide_eq_true_eq, decide_eq_false_iff_not, inR, show (↑i : Int).toNat = i from rfl]
  refine ⟨fun h2 => ⟨fun h3 => ⟨by omega, ⟨hI _ (getD_memI (by omega)), by decide⟩, trivial, Nat.le_refl _, ⟨by omega, by omega, intE_one _⟩, by omega, ⟨q1n (i + 1) _ ⟨by omega, by omega⟩ (by omega) ?_⟩⟩, fun h3 => ⟨q1e _ (ExS.pre (weak_of_eq (by kernel_rfl)) (fin _ (by omega) rfl))⟩⟩, fun h2 => ⟨q1e _ (ExS.pre (weak_of_eq (by kernel_rfl)) (fin _ (by omega) rfl))⟩⟩
  have e : verdL A (i + 1) = verdL A i ++ [aroundZ (A.getD i default) 3] := by unfold verdL; rw [takeD (by omega), List.map_append]; rfl
  show WeakS G _ ((fun out k i => cst 27 [(0, listV encI 1 A), (1, iV (m : Nat)), (5, .c (.sl 0 1 0 k)), (6, iV (i : Nat))] [.row 3 1 k (rowC encI out)]) (verdL A (i + 1)) (i + 1) (i + 1))
  rw [e]
  exact weak_cst ⟨⟨rfl, rfl, rfl, fun e o he ho => app1' (ρ := [2]) hl (intE_at _) he ho⟩, trivial⟩
set_option maxRecDepth 100000 in
theorem okRuns : ModOK Try.prog G 30 mRuns := by
  intro args p v hm hp h
  unfold mRuns at hm
  split at hm; rotate_left; · cases hm
  split at hm; rotate_left; · cases hm
  rename_i a x _ p1 A hx
  obtain ⟨rfl, rfl⟩ := some_pair hm
  obtain ⟨hA, ⟨ha1, ha2⟩, hlen⟩ := hp
  refine FnS.args (args' := [iV a, listV encI 1 A]) ?_ (.cons (.refl _) (.cons (liOf_le hx hA) .nil))
  clear hA hm hx
  refine fn_S Try.func30 (by kernel_rfl) rfl ?_ h
  refine ExS.evG ext0_sound 3 (tRu1 A a) ?_
  simp only [holds_bT, holds_leaf, kf_ret', kf_normal]
  refine ⟨?_⟩
  refine ExS.loop' (l := dropL 3 (pcs Try.prog Try.f30)) (b := inr (inr (nth .skip (pcs Try.prog Try.f30) 3))) (r := dropL 4 (pcs Try.prog Try.f30)) (id := 0) (by kernel_rfl) (σ := Nat)
    (fun i => (fun out k => cst 37 [(0, iV a), (1, listV encI 1 A), (5, .c (.sl 0 1 0 k)), (8, listV encI 1 A), (9, iV (A.length : Nat)), (10, iV (i : Nat))] [.row 3 1 k (rowC encI out)]) (runsG a A i) (runsG a A i).length) (fun i => i ≤ A.length) (fun i => A.length - i) 0 (Nat.zero_le _) ((weak_nil 3 1 (rowC encI []) 5 (by kernel_rfl)).trans (weak_of_eq (by kernel_rfl))) ?_
  intro i hi Q1 q1n q1e _
  have hl := runsG_len a A i
  refine ExS.evH ext0_sound (tRu2 A (runsG a A i) a (runsG a A i).length i) ?_
  simp only [holds_bT, holds_rq, holds_leaf, kf_ret', kf_normal, kf_exit, decide_eq_true_eq, decide_eq_false_iff_not, beq_iff_eq, beq_eq_false_iff_ne, bne_iff_ne, bne_eq_false_iff_eq, ne_eq, inR, show (↑i : Int).toNat = i from rfl]
  have yes : (A.getD i default = 2 ∧ (i = 0 ∨ A.getD (i - 1) default ≠ 2)) → ∀ st, WeakS G st ((fun out k i => cst 37 [(0, iV a), (1, listV encI 1 A), (5, .c (.sl 0 1 0 k)), (8, listV encI 1 A), (9, iV (A.length : Nat)), (10, iV (i : Nat))] [.row 3 1 k (rowC encI out)]) (runsG a A i ++ [a + i]) ((runsG a A i).length + 1) (i + 1)) → WeakS G st ((fun i => (fun out k => cst 37 [(0, iV a), (1, listV encI 1 A), (5, .c (.sl 0 1 0 k)), (8, listV encI 1 A), (9, iV (A.length : Nat)), (10, iV (i : Nat))] [.row 3 1 k (rowC encI out)]) (runsG a A i) (runsG a A i).length) (i + 1)) := by
    intro hy st hw
    show WeakS G st ((fun out k i => cst 37 [(0, iV a), (1, listV encI 1 A), (5, .c (.sl 0 1 0 k)), (8, listV encI 1 A), (9, iV (A.length : Nat)), (10, iV (i : Nat))] [.row 3 1 k (rowC encI out)]) (runsG a A (i + 1)) (runsG a A (i + 1)).length (i + 1))
    rw [runsG_yes hy, show (runsG a A i ++ [a + (i : Int)]).length = (runsG a A i).length + 1 by simp]
    exact hw
  have no : ¬ (A.getD i default = 2 ∧ (i = 0 ∨ A.getD (i - 1) default ≠ 2)) → ∀ st, WeakS G st ((fun out k i => cst 37 [(0, iV a), (1, listV encI 1 A), (5, .c (.sl 0 1 0 k)), (8, listV encI 1 A), (9, iV (A.length : Nat)), (10, iV (i : Nat))] [.row 3 1 k (rowC encI out)]) (runsG a A i) (runsG a A i).length (i + 1)) → WeakS G st ((fun i => (fun out k => cst 37 [(0, iV a), (1, listV encI 1 A), (5, .c (.sl 0 1 0 k)), (8, listV encI 1 A), (9, iV (A.length : Nat)), (10, iV (i : Nat))] [.row 3 1 k (rowC encI out)]) (runsG a A i) (runsG a A i).length) (i + 1)) := by
    intro hy st hw
    show WeakS G st ((fun out k i => cst 37 [(0, iV a), (1, listV encI 1 A), (5, .c (.sl 0 1 0 k)), (8, listV encI 1 A), (9, iV (A.length : Nat)), (10, iV (i : Nat))] [.row 3 1 k (rowC encI out)]) (runsG a A (i + 1)) (runsG a A (i + 1)).length (i + 1))
    rw [runsG_no hy]
    exact hw
  have e1 : ((i : Int) - 1).toNat = i - 1 := by omega
  rw [e1]
  refine ⟨fun h2 => ⟨by omega, fun c1 => ⟨fun c2 => ⟨by omega, trivial, Nat.le_refl _, ⟨by omega, by omega, intE_one _⟩, by omega, ⟨q1n (i + 1) _ (by omega) (by omega) (yes ⟨c1, .inl (by omega)⟩ _ ?_)⟩⟩, fun c2 => ⟨by omega, by omega, fun c3 => ⟨by omega, trivial, Nat.le_refl _, ⟨by omega, by omega, intE_one _⟩, by omega, ⟨q1n (i + 1) _ (by omega) (by omega) (yes ⟨c1, .inr c3⟩ _ ?_)⟩⟩, fun c3 => ⟨by omega, ⟨q1n (i + 1) _ (by omega) (by omega) (no (fun hq => ?_) _ (weak_of_eq (by kernel_rfl)))⟩⟩⟩⟩, fun c1 => ⟨by omega, ⟨q1n (i + 1) _ (by omega) (by omega) (no (fun hq => c1 hq.1) _ (weak_of_eq (by kernel_rfl)))⟩⟩⟩, fun h2 => ⟨q1e _ ?_⟩⟩
  · exact weak_cst ⟨⟨rfl, rfl, rfl, fun e o he ho => app1' (ρ := [2]) rfl (intE_at _) he ho⟩, trivial⟩
  · exact weak_cst ⟨⟨rfl, rfl, rfl, fun e o he ho => app1' (ρ := [2]) rfl (intE_at _) he ho⟩, trivial⟩
  · rcases hq.2 with h | h
    · exact c2 (by omega)
    · exact h c3
  · obtain rfl : i = A.length := by omega
    refine ExS.evH ext0_sound (tRu3 A (runsG a A A.length) a (runsG a A A.length).length A.length) ?_
    simp only [holds_rq, holds_leaf, kf_ret']
    exact ⟨⟨by omega, fun _ _ _ _ => rfl⟩, ⟨VLe.refl _⟩⟩
end
end Go.AE
