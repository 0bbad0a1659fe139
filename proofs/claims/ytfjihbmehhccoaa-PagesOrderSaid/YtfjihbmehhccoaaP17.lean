/- AE contracts: models of the ledger's methods; the plain law of what they do to one group. -/
import Derived.Test.YtfjihbmehhccoaaP16
import Derived.Test.YtfjihbmehhccoaaAeE
namespace Go.AE
set_option linter.unusedVariables false
set_option linter.unusedSimpArgs false
open Go.Proofs Go.Proofs.Ytfjihbmehhccoaa Go.RowKit
/-- A heap that begins with the ledger D. -/
def isLd (D : Ld) : List AO → Option (Prop × List AO)
  | .cells 86 [.sl 1 7 0 n, .mp 2, .mp 3] :: .row 31 7 n' f :: .mapb ok gp :: .mapl ok2 3 1 gs none :: rest => some (n = D.M.length ∧ n' = D.M.length ∧ (∀ e o, e < D.M.length → o < 7 → f e o = rowC encPg D.M e o) ∧ ok = okK Try.prog 81 ∧ gp = D.gp ∧ ok2 = okK Try.prog 79 ∧ gs = D.gs, rest)
  | _ => none
noncomputable def mFireD (D : Ld) : ModH
  | [.c (.ptr 0 0), x], h => match isLd D h, pgOf x with
    | some (q, rest), some (r, p) => some ((r ∧ q) ∧ (p.kd = 0 → pgOK p = true → Fits D p), iV (lfire D p).1, outH [0, 1, 2, 3] [0] [1] (ldH D rest) (ldE (lfire D p).2 0))
    | _, _ => none
  | _, _ => none
noncomputable def mValidD (D : Ld) (S : List Int) : ModH
  | [.c (.ptr 0 0), .c (.p (.s ru)), .c (.p (.i .i64 ve)), x], h => match isLd D h, lbOf x with
    | some (q, rest), some (r, L) => some ((r ∧ q) ∧ StG D (gKey ru ve (textLb L)) S ∧ (pgOK ⟨0, ru, ve, L, 0, 0, ⟨#[]⟩⟩ = true → (textLb L).size ≤ 1000000 ∧ ru.size ≤ 1000000 ∧ inR .i64 ve ∧ (∀ t ∈ S, inR .i64 t) ∧ S.length ≤ 1000000), lvalid D ru ve L S, outH [0, 1, 2, 3] [0] [1] (ldH D rest) (ldE D 0))
    | _, _ => none
  | _, _ => none
noncomputable def mAmendD (D : Ld) (S : List Int) : ModH
  | [.c (.ptr 0 0), .c (.p (.s ru)), .c (.p (.i .i64 ve)), x, y, .c (.p (.i .i64 se))], h => match isLd D h, lbOf x, liOf y with
    | some (q, rest), some (r, L), some (s, T) => some (((r ∧ q) ∧ s) ∧ StG D (gKey ru ve (textLb L)) S ∧ (pgOK ⟨0, ru, ve, L, 0, se, ⟨#[]⟩⟩ = true → (textLb L).size ≤ 1000000 ∧ ru.size ≤ 1000000 ∧ inR .i64 ve ∧ L.length ≤ 1000000 ∧ (∀ t ∈ S, inR .i64 t) ∧ S.length + T.length ≤ 100000 ∧ D.M.length ≤ 100000) ∧ T.length ≤ 1000000, (lamend D ru ve L S T se).1, outH [0, 1, 2, 3] [0] [1] (ldH D rest) (ldE (lamend D ru ve L S T se).2 0))
    | _, _, _ => none
  | _, _ => none
theorem isLd_eq {D : Ld} {h rest : List AO} {q : Prop} (he : isLd D h = some (q, rest)) (hq : q) : ∃ f, h = .cells 86 [.sl 1 7 0 D.M.length, .mp 2, .mp 3] :: .row 31 7 D.M.length f :: .mapb (okK Try.prog 81) D.gp :: .mapl (okK Try.prog 79) 3 1 D.gs none :: rest ∧ ∀ e o, e < D.M.length → o < 7 → f e o = rowC encPg D.M e o := by
  unfold isLd at he
  split at he; rotate_left; · cases he
  injection he with he
  injection he with e1 e2
  subst e1; subst e2
  obtain ⟨rfl, rfl, hf, rfl, rfl, rfl, rfl⟩ := hq
  exact ⟨_, rfl, hf⟩
section
variable {G : Nat → Option Obj}
/-- A callee's heap whose rows read the same. -/
theorem FnS.heapEq {P : Program} {f : FuncId} {args : List V} {h h' : List AO} {K : V → List AO → Prop} (he : ∀ (β : Bt) (R : Nat → Prop) (w : World), HS G β R w h → HS G β R w h') (hl : h'.length = h.length) (hf : FnS P G f args h' K) : FnS P G f args h K := by
  intro β R w vs ha hh
  refine (hf β R w vs ha (he β R w hh)).mono ?_
  rintro e w' ⟨u, β2, R2, x, h3, q1, q2, q3, q4, q5, q6⟩
  exact ⟨u, β2, R2, x, h3, q1, q2, q3, q4, q5, fun i hi => q6 i (by omega)⟩
theorem FnS.ledger {D : Ld} {h rest : List AO} {q : Prop} (he : isLd D h = some (q, rest)) (hq : q) {f : FuncId} {args : List V} {K : V → List AO → Prop} (hf : FnS Try.prog G f args (ldH D rest) K) : FnS Try.prog G f args h K := by
  obtain ⟨g, rfl, hg⟩ := isLd_eq he hq
  refine FnS.heapEq (h' := ldH D rest) (fun β R w hh => ?_) rfl hf
  have := hs_sameS hh (id := 1) (ty := 31) (sz := 7) (n := D.M.length) (f := g) (f' := rowC encPg D.M) rfl hg
  exact this
theorem okFireD (D : Ld) : ModHOK Try.prog G 25 (mFireD D) := by
  intro args h p v h' hm hp
  unfold mFireD at hm
  split at hm; rotate_left; · cases hm
  split at hm; rotate_left; · cases hm
  rename_i x _ _ _ q rest r a hl hx
  obtain ⟨rfl, rfl, rfl⟩ := some_three hm
  obtain ⟨⟨hr, hq⟩, hF⟩ := hp
  exact FnS.ledger hl hq (FnS.args (args' := [.c (.ptr 0 0), pgV a]) (fire_fn D a hF rest) (.cons (.refl _) (.cons (pgOf_le hx hr) .nil)))
theorem okValidD (D : Ld) (S : List Int) : ModHOK Try.prog G 16 (mValidD D S) := by
  intro args h p v h' hm hp
  unfold mValidD at hm
  split at hm; rotate_left; · cases hm
  split at hm; rotate_left; · cases hm
  rename_i ru ve x _ _ q rest r L hl hx
  obtain ⟨rfl, rfl, rfl⟩ := some_three hm
  obtain ⟨⟨hr, hq⟩, hS, hT⟩ := hp
  refine FnS.ledger hl hq (FnS.args (args' := [.c (.ptr 0 0), .c (.p (.s ru)), iV ve, listV enc2 2 L]) (valid_fn D ru ve L S hS (fun h => ?_) rest) (.cons (.refl _) (.cons (.refl _) (.cons (.refl _) (.cons (lbOf_le hx hr) .nil)))))
  obtain ⟨t1, t2, t3, t4, t5⟩ := hT h
  exact ⟨t1, okGr_of _ _ _ t2 t3 t1, fun t ht => okMu_of _ _ _ _ t2 t3 t1 (t4 t ht), t5⟩
theorem okAmendD (D : Ld) (S : List Int) : ModHOK Try.prog G 17 (mAmendD D S) := by
  intro args h p v h' hm hp
  unfold mAmendD at hm
  split at hm; rotate_left; · cases hm
  split at hm; rotate_left; · cases hm
  rename_i ru ve x y se _ _ _ q rest r L s T hl hx hy
  obtain ⟨rfl, rfl, rfl⟩ := some_three hm
  obtain ⟨⟨⟨hr, hq⟩, hs⟩, hS, hT, hTl⟩ := hp
  exact FnS.ledger hl hq (FnS.args (args' := [.c (.ptr 0 0), .c (.p (.s ru)), iV ve, listV enc2 2 L, listV encI 1 T, iV se]) (amend_fn D ru ve L S T se hS hT hTl rest) (.cons (.refl _) (.cons (.refl _) (.cons (.refl _) (.cons (lbOf_le hx hr) (.cons (liOf_le hy hs) (.cons (.refl _) .nil)))))))
end
end Go.AE
