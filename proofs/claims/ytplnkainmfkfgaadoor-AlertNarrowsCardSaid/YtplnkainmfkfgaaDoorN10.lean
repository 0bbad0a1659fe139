/- Plain: the verdicts on intervals within others refine those on the others; so does hysteresis. -/
import Derived.Test.YtplnkainmfkfgaaDoorN7
import Derived.Test.YtplnkainmfkfgaaDoorHyst
namespace Go.AE
open Go.Proofs Go.Proofs.YtplnkainmfkfgaaDoor
set_option linter.unusedVariables false
set_option linter.unusedSimpArgs false
def leQ (a b : Qf) : Prop := a.1 * b.2 ≤ b.1 * a.2
instance decLeQ (a b : Qf) : Decidable (leQ a b) := by unfold leQ; infer_instance
theorem cmp_le {a b : Qf} : cmpQ a b ≤ 0 ↔ leQ a b := by
  unfold cmpQ leQ
  repeat' split
  all_goals omega
theorem cmp_ge {a b : Qf} : 0 ≤ cmpQ a b ↔ leQ b a := by
  unfold cmpQ leQ
  repeat' split
  all_goals omega
theorem leQ_trans {a b c : Qf} (ha : 0 < a.2) (hb : 0 < b.2) (hc : 0 < c.2) (h1 : leQ a b) (h2 : leQ b c) : leQ a c := by
  unfold leQ at *
  have e1 := Int.mul_le_mul_of_nonneg_right h1 (Int.le_of_lt hc)
  have e2 := Int.mul_le_mul_of_nonneg_right h2 (Int.le_of_lt ha)
  refine Int.le_of_mul_le_mul_right (a := b.2) ?_ hb
  rw [show a.1 * c.2 * b.2 = a.1 * b.2 * c.2 by ac_rfl, show c.1 * a.2 * b.2 = c.1 * b.2 * a.2 by ac_rfl]
  rw [show b.1 * c.2 * a.2 = b.1 * a.2 * c.2 by ac_rfl] at e2
  exact Int.le_trans e1 e2
theorem leQ_redR {a : Qf} {n d : Int} (hd : 0 < d) : leQ a (redQ n d) ↔ leQ a (n, d) := by
  obtain ⟨g, hg, h1, h2, -⟩ := redQ_spec (n := n) hd
  generalize redQ n d = r at *
  unfold leQ
  simp only
  rw [h1, h2, show a.1 * (g * r.2) = g * (a.1 * r.2) by ac_rfl, Int.mul_assoc]
  exact ⟨fun h => Int.mul_le_mul_of_nonneg_left h (Int.le_of_lt hg), fun h => Int.le_of_mul_le_mul_left h hg⟩
theorem leQ_redL {a : Qf} {n d : Int} (hd : 0 < d) : leQ (redQ n d) a ↔ leQ (n, d) a := by
  obtain ⟨g, hg, h1, h2, -⟩ := redQ_spec (n := n) hd
  generalize redQ n d = r at *
  unfold leQ
  simp only
  rw [h1, h2, show a.1 * (g * r.2) = g * (a.1 * r.2) by ac_rfl, Int.mul_assoc]
  exact ⟨fun h => Int.mul_le_mul_of_nonneg_left h (Int.le_of_lt hg), fun h => Int.le_of_mul_le_mul_left h hg⟩
theorem pos_of_mul {g x : Int} (hg : 0 < g) (h : 0 < g * x) : 0 < x := by
  apply Classical.byContradiction
  intro hx
  have := Int.mul_nonpos_of_nonneg_of_nonpos (Int.le_of_lt hg) (show x ≤ 0 by omega)
  omega
theorem nn_of_mul {g x : Int} (hg : 0 < g) (h : 0 ≤ g * x) : 0 ≤ x := by
  apply Classical.byContradiction
  intro hx
  have := Int.mul_neg_of_pos_of_neg hg (show x < 0 by omega)
  omega
theorem inn_bd {x : Iv} (h : smallV x) (hle : leQ x.1 x.2) (t : Int) : leQ x.1 (innQ x t) ∧ leQ (innQ x t) x.2 := by
  obtain ⟨⟨p1, p2⟩, q1, q2⟩ := x
  obtain ⟨-, ⟨-, hp, -⟩, ⟨-, hq, -⟩⟩ := h
  simp only at hp hq
  have hk := aroundZ_rng t (show (0 : Int) < 9 by decide)
  simp only [innQ]
  generalize aroundZ t 9 = k at *
  unfold leQ at hle
  simp only at hle
  have hE : 0 < q2 * p2 := Int.mul_pos (by omega) (by omega)
  obtain ⟨g1, hg1, d1, d2, -⟩ := redQ_spec (n := q1 * p2 + -p1 * q2) hE
  have hS : subQ (q1, q2) (p1, p2) = redQ (q1 * p2 + -p1 * q2) (q2 * p2) := rfl
  rw [hS]
  have hD : 0 ≤ q1 * p2 + -p1 * q2 := by rw [Int.neg_mul]; omega
  generalize hDD : q1 * p2 + -p1 * q2 = D at *
  generalize hEE : q2 * p2 = E at *
  generalize redQ D E = S at *
  have s1 : 0 ≤ S.1 := nn_of_mul hg1 (d1 ▸ hD)
  have s2 : 0 < S.2 := pos_of_mul hg1 (d2 ▸ hE)
  have hM1 : mulQ S (1, 8) = redQ (S.1 * 1) (S.2 * 8) := rfl
  rw [hM1]
  obtain ⟨g2, hg2, e1, e2, -⟩ := redQ_spec (n := S.1 * 1) (show 0 < S.2 * 8 by omega)
  generalize redQ (S.1 * 1) (S.2 * 8) = M at *
  have m1 : 0 ≤ M.1 := nn_of_mul hg2 (by omega)
  have m2 : 0 < M.2 := pos_of_mul hg2 (by omega)
  have hM2 : mulQ M (k, 1) = redQ (M.1 * k) (M.2 * 1) := rfl
  rw [hM2]
  have hmk : 0 ≤ M.1 * k := Int.mul_nonneg m1 hk.1
  obtain ⟨g3, hg3, f1, f2, -⟩ := redQ_spec (n := M.1 * k) (show 0 < M.2 * 1 by omega)
  generalize redQ (M.1 * k) (M.2 * 1) = T at *
  have t1 : 0 ≤ T.1 := nn_of_mul hg3 (by omega)
  have t2 : 0 < T.2 := pos_of_mul hg3 (by omega)
  have hI : addQ (p1, p2) T = redQ (p1 * T.2 + T.1 * p2) (p2 * T.2) := rfl
  rw [hI]
  have hdn : 0 < p2 * T.2 := Int.mul_pos (by omega) t2
  have key : T.1 * E ≤ D * T.2 := by
    refine Int.le_of_mul_le_mul_left (a := g3) ?_ hg3
    rw [show g3 * (T.1 * E) = g3 * T.1 * E by ac_rfl, show g3 * (D * T.2) = D * (g3 * T.2) by ac_rfl, ← f1, ← f2]
    refine Int.le_of_mul_le_mul_left (a := g2) ?_ hg2
    rw [show g2 * (M.1 * k * E) = (g2 * M.1) * k * E by ac_rfl, show g2 * (D * (M.2 * 1)) = D * (g2 * M.2) * 1 by ac_rfl, ← e1, ← e2, d1, d2]
    rw [show S.1 * 1 * k * (g1 * S.2) = (g1 * S.1 * S.2) * k * 1 by ac_rfl, show g1 * S.1 * (S.2 * 8) * 1 = (g1 * S.1 * S.2) * 8 * 1 by ac_rfl, Int.mul_one, Int.mul_one]
    exact Int.mul_le_mul_of_nonneg_left (by omega) (Int.mul_nonneg (Int.mul_nonneg (Int.le_of_lt hg1) s1) (Int.le_of_lt s2))
  rw [leQ_redR hdn, leQ_redL hdn]
  unfold leQ
  simp only
  have hTp : 0 ≤ T.1 * p2 * p2 := Int.mul_nonneg (Int.mul_nonneg t1 (by omega)) (by omega)
  refine ⟨?_, ?_⟩
  · rw [Int.add_mul, show p1 * (p2 * T.2) = p1 * T.2 * p2 by ac_rfl]
    omega
  · rw [Int.add_mul, show T.1 * p2 * q2 = T.1 * (q2 * p2) by ac_rfl, hEE]
    have : D * T.2 = q1 * (p2 * T.2) - p1 * T.2 * q2 := by
      rw [← hDD, Int.add_mul, Int.neg_mul, Int.neg_mul, show p1 * q2 * T.2 = p1 * T.2 * q2 by ac_rfl, Int.mul_assoc]
      omega
    omega
theorem leQ_total (a b : Qf) : ¬ leQ b a → leQ a b := by unfold leQ; omega
theorem from_bd {lo hi a b : Qf} (h1 : leQ lo a ∧ leQ a hi) (h2 : leQ lo b ∧ leQ b hi) : leQ lo (fromQ a b).1 ∧ leQ (fromQ a b).1 (fromQ a b).2 ∧ leQ (fromQ a b).2 hi := by
  unfold fromQ
  split
  · rename_i h
    exact ⟨h2.1, cmp_le.1 (show cmpQ b a ≤ 0 by omega), h1.2⟩
  · rename_i h
    exact ⟨h1.1, cmp_ge.1 (show 0 ≤ cmpQ b a by omega), h2.2⟩
theorem from_v {p : Qf → Prop} {a b : Qf} (h1 : p a) (h2 : p b) : p (fromQ a b).1 ∧ p (fromQ a b).2 := by
  unfold fromQ
  split
  · exact ⟨h2, h1⟩
  · exact ⟨h1, h2⟩
theorem from_le (a b : Qf) : leQ (fromQ a b).1 (fromQ a b).2 := by
  unfold fromQ
  split
  · exact cmp_le.1 (show cmpQ b a ≤ 0 by omega)
  · exact cmp_ge.1 (show 0 ≤ cmpQ b a by omega)
/-- An interval of the law. -/
theorem smI_ok (a b : Int) : smallV (smI a b) ∧ leQ (smI a b).1 (smI a b).2 := by
  have h := from_v (p := fun x => vQ x ∧ bQ 50 12 x) ⟨smQ_v a, smQ_bd a⟩ ⟨smQ_v b, smQ_bd b⟩
  exact ⟨⟨⟨h.1.1, h.2.1⟩, h.1.2, h.2.2⟩, from_le _ _⟩
theorem part_ok {x : Iv} (h : smallV x) (hle : leQ x.1 x.2) (a b : Int) : (vQ (partI x a b).1 ∧ vQ (partI x a b).2) ∧ leQ x.1 (partI x a b).1 ∧ leQ (partI x a b).1 (partI x a b).2 ∧ leQ (partI x a b).2 x.2 :=
  ⟨from_v (inn_ok h a).2.2.2.2 (inn_ok h b).2.2.2.2, from_bd (inn_bd h hle a) (inn_bd h hle b)⟩
/-- A verdict that says at least as much. -/
def fin (a b : Int) : Prop := (0 ≤ a ∧ a ≤ 2) ∧ (0 ≤ b ∧ b ≤ 2) ∧ (a = 2 → b = 2) ∧ (a = 0 → b = 0)
theorem vQ_pos {a : Qf} (h : vQ a) : 0 < a.2 := by have := h.2.1; omega
theorem atLeast_fin {x y : Iv} {c : Qf} (hx : vQ x.1 ∧ vQ x.2) (hy : vQ y.1 ∧ vQ y.2) (hc : vQ c) (h1 : leQ x.1 y.1) (h2 : leQ y.1 y.2) (h3 : leQ y.2 x.2) : fin (atLeastQ x c) (atLeastQ y c) := by
  have p1 := vQ_pos hx.1
  have p2 := vQ_pos hx.2
  have p3 := vQ_pos hy.1
  have p4 := vQ_pos hy.2
  have p5 := vQ_pos hc
  unfold atLeastQ
  simp only [show ∀ a b : Qf, cmpQ a b < 0 ↔ ¬ leQ b a from fun a b => by rw [← cmp_ge]; omega, cmp_ge]
  have t1 : leQ c x.1 → leQ c y.1 := fun h => leQ_trans p5 p1 p3 h h1
  have t2 : leQ c y.2 → leQ c x.2 := fun h => leQ_trans p5 p4 p2 h h3
  have t3 : leQ c y.1 → leQ c y.2 := fun h => leQ_trans p5 p3 p4 h h2
  unfold fin
  by_cases a1 : leQ c x.1 <;> by_cases a2 : leQ c y.1 <;> by_cases a3 : leQ c x.2 <;> by_cases a4 : leQ c y.2 <;> simp_all
theorem atMost_fin {x y : Iv} {c : Qf} (hx : vQ x.1 ∧ vQ x.2) (hy : vQ y.1 ∧ vQ y.2) (hc : vQ c) (h1 : leQ x.1 y.1) (h2 : leQ y.1 y.2) (h3 : leQ y.2 x.2) : fin (atMostQ x c) (atMostQ y c) := by
  have p1 := vQ_pos hx.1
  have p2 := vQ_pos hx.2
  have p3 := vQ_pos hy.1
  have p4 := vQ_pos hy.2
  have p5 := vQ_pos hc
  unfold atMostQ
  simp only [show ∀ a b : Qf, 0 < cmpQ a b ↔ ¬ leQ a b from fun a b => by rw [← cmp_le]; omega, cmp_le]
  have t1 : leQ x.2 c → leQ y.2 c := fun h => leQ_trans p4 p2 p5 h3 h
  have t2 : leQ y.1 c → leQ x.1 c := fun h => leQ_trans p1 p3 p5 h1 h
  have t3 : leQ y.2 c → leQ y.1 c := fun h => leQ_trans p3 p4 p5 h2 h
  unfold fin
  by_cases a1 : leQ x.2 c <;> by_cases a2 : leQ y.2 c <;> by_cases a3 : leQ x.1 c <;> by_cases a4 : leQ y.1 c <;> simp_all
/-- Hysteresis keeps what the verdicts say. -/
theorem low_fin {f g f' g' : Nat → Int} : ∀ n, (∀ k, k < n → fin (f k) (f' k)) → (∀ k, k < n → fin (g k) (g' k)) →
    (lowF f g n = true → lowF f' g' n = true) ∧ (highF f' g' n = true → highF f g n = true) ∧ (lowF f' g' n = true → highF f' g' n = true)
  | 0, _, _ => ⟨id, id, fun h => h⟩
  | n + 1, hf, hg => by
    obtain ⟨h1, h2, h3⟩ := low_fin n (fun k hk => hf k (by omega)) (fun k hk => hg k (by omega))
    obtain ⟨a1, a2, a3, a4⟩ := hf n (by omega)
    obtain ⟨b1, b2, b3, b4⟩ := hg n (by omega)
    simp only [lowF, highF, Bool.or_eq_true, Bool.and_eq_true, beq_iff_eq, bne_iff_ne, Bool.not_eq_true', bne_eq_false_iff_eq, beq_eq_false_iff_ne, ne_eq]
    refine ⟨?_, ?_, ?_⟩
    · rintro (h | ⟨h, h'⟩)
      · exact .inl (a3 h)
      · exact .inr ⟨h1 h, b4 h'⟩
    · rintro (h | ⟨h, h'⟩)
      · exact .inl fun h0 => h (a4 h0)
      · exact .inr ⟨h2 h, fun h0 => h' (b3 h0)⟩
    · rintro (h | ⟨h, h'⟩)
      · exact .inl (by omega)
      · exact .inr ⟨h3 h, by omega⟩
theorem vd_fin {f g f' g' : Nat → Int} {n k : Nat} (hk : k < n) (hf : ∀ k, k < n → fin (f k) (f' k)) (hg : ∀ k, k < n → fin (g k) (g' k)) (h1 : vdF f g k ≠ 1) : vdF f' g' k = vdF f g k := by
  obtain ⟨a1, a2, a3⟩ := low_fin (k + 1) (fun j hj => hf j (by omega)) (fun j hj => hg j (by omega))
  unfold vdF at *
  cases e1 : lowF f g (k + 1) <;> cases e2 : lowF f' g' (k + 1) <;> cases e3 : highF f g (k + 1) <;> cases e4 : highF f' g' (k + 1) <;> simp_all
theorem inUp_fin {f g f' g' : Nat → Int} {n : Nat} (hf : ∀ k, k < n → fin (f k) (f' k)) (hg : ∀ k, k < n → fin (g k) (g' k)) : inUp f g n = true ∧ inUp f' g' n = true := by
  rw [inUp_iff, inUp_iff]
  unfold inV
  simp only [Bool.and_eq_true, decide_eq_true_eq]
  exact ⟨fun k hk => ⟨(hf k hk).1, (hg k hk).1⟩, fun k hk => ⟨(hf k hk).2.1, (hg k hk).2.1⟩⟩
end Go.AE
