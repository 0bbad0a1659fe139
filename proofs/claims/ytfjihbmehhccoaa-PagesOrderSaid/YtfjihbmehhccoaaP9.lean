/- AE contracts: (*Ledger).Valid, the proof. -/
import Derived.Test.YtfjihbmehhccoaaP8
namespace Go.AE
set_option linter.unusedVariables false
set_option linter.unusedSimpArgs false
open Go.Proofs Go.Proofs.Ytfjihbmehhccoaa Go.RowKit
/-- The starts that are paged, of a list of starts. -/
def pagedS (gp : Value → Option Bool) (ru : ByteArray) (ve : Int) (tx : ByteArray) (S : List Int) : List Int := S.filter fun t => (gp (mKey ru ve tx t)).getD false
noncomputable def lvalid (D : Ld) (ru : ByteArray) (ve : Int) (L : List (ByteArray × ByteArray)) (S : List Int) : V := match pgOK (⟨0, ru, ve, L, 0, 0, ⟨#[]⟩⟩ : Pg) with
  | true => listV encI 1 (sortI (pagedS D.gp ru ve (textLb L) S))
  | false => .c (.p (.z (.slice none 0 0)))
/-- The ledger's starts at a group. -/
def StG (D : Ld) (k : Value) (S : List Int) : Prop := (D.gs k).1 = S.length ∧ ∀ e o, e < S.length → o < 1 → (D.gs k).2 e o = rowP encI S e o
section
variable {G : Nat → Option Obj}
theorem extVa_sound : SoundExt Try.prog G extVa := extOf_sound (by simp; exact ⟨okPVal, okOf⟩)
theorem extSI_sound (L : List Int) : SoundExt Try.prog G (extSI L) := extH_sound (by simp; exact okSortI L)
theorem pagedS_snoc (gp : Value → Option Bool) (ru : ByteArray) (ve : Int) (tx : ByteArray) (S : List Int) (x : Int) : pagedS gp ru ve tx (S ++ [x]) = pagedS gp ru ve tx S ++ (match (gp (mKey ru ve tx x)).getD false with
  | true => [x]
  | false => []) := by
  unfold pagedS
  rw [List.filter_append]
  congr 1
theorem setG_self (g : Value → Nat × (Nat → Nat → PV)) (k : Value) (n : Nat) (hn : (g k).1 = n) : setG g k n (g k).2 = g := by
  subst hn
  unfold setG
  funext x
  by_cases h : x = k
  · subst h; simp
  · simp [h]
theorem intE_one (x : Int) : ∀ e o : Nat, e < 1 → o < 1 → oneC (nth C.top [C.p (.i .i64 x)] ((e + 0) * 1 + o)) = true := by
  intro e o he ho
  obtain rfl : e = 0 := by omega
  obtain rfl : o = 0 := by omega
  rfl
theorem intE_at (x : Int) : ∀ o : Nat, o < 1 → (fun e o : Nat => nth C.top [C.p (.i .i64 x)] ((e + 0) * 1 + o)) 0 o = .p (encI x o) := by
  intro o ho
  obtain rfl : o = 0 := by omega
  rfl
set_option maxRecDepth 100000 in
set_option maxHeartbeats 2000000 in
theorem valid_main (D : Ld) (ru : ByteArray) (ve : Int) (L : List (ByteArray × ByteArray)) (S : List Int) (hS : StG D (gKey ru ve (textLb L)) S) (hT : pgOK (⟨0, ru, ve, L, 0, 0, ⟨#[]⟩⟩ : Pg) = true → (textLb L).size ≤ 1000000 ∧ okK Try.prog 79 (gKey ru ve (textLb L)) = true ∧ (∀ t ∈ S, okK Try.prog 81 (mKey ru ve (textLb L) t) = true) ∧ S.length ≤ 1000000) (rest : List AO) (b : Nat) (Q : X → St → Prop) : ExZ Try.prog G (Zm [0] (resOf Try.prog Try.f16) fun s => WeakS G s ⟨[.c (.ptr 0 0)] ++ [lvalid D ru ve L S], ldE D b⟩) (pcs Try.prog Try.f16) (stIn Try.f16 [0, 1, 2, 3] [0] [b] [.c (.ptr 0 0), .c (.p (.s ru)), iV ve, listV enc2 2 L] (ldH D rest)) Q := by
  refine ExZ.evG extVa_sound 6 (tV1 D rest b ve ru L) ?_
  simp only [holds_bT, holds_rq, holds_leaf, kz_ret, kz_normal, dec2_row]
  unfold lvalid
  refine ⟨isL_row _ _ _, fun h1 => ⟨?_⟩, fun h1 => ?_⟩
  · have h1 : pgOK (⟨0, ru, ve, L, 0, 0, ⟨#[]⟩⟩ : Pg) = false := by simpa using h1
    rw [h1]; exact weak_of_eq (by kernel_rfl)
  have h1 : pgOK (⟨0, ru, ve, L, 0, 0, ⟨#[]⟩⟩ : Pg) = true := by simpa using h1
  obtain ⟨t1, t2, t3, t4⟩ := hT h1
  rw [h1]
  refine ⟨⟨isL_row _ _ _, t1⟩, ⟨?_⟩⟩
  obtain ⟨s1, s2⟩ := hS
  obtain ⟨tx, htx⟩ : ∃ tx, tx = textLb L := ⟨_, rfl⟩
  rw [← htx] at s1 s2 t1 t2 t3 ⊢
  have w1 : WeakS G (cst 51 [(0, .c (.ptr 0 0)), (10, .c (.p (.z (.slice none 0 0)))), (11, .c (.ptr 1 0))] [.pin 2 b, .cells 79 [.p (.s ru), .p (.i .i64 ve), .p (.s tx)], .cells 86 [.sl 3 7 0 D.M.length, .mp 4, .mp 5], .row 31 7 D.M.length (rowC encPg D.M), .mapb (okK Try.prog 81) D.gp, .mapl (okK Try.prog 79) 3 1 D.gs none]) ((fun ru ve tx S => cst 51 [(0, .c (.ptr 0 0)), (10, .c (.sl 7 1 0 0)), (11, .c (.ptr 1 0))] [.pin 2 b, .cells 79 [.p (.s ru), .p (.i .i64 ve), .p (.s tx)], .cells 86 [.sl 3 7 0 D.M.length, .mp 4, .mp 5], .row 31 7 D.M.length (rowC encPg D.M), .mapb (okK Try.prog 81) D.gp, .mapl (okK Try.prog 79) 3 1 D.gs (some (gKey ru ve tx, .sl 6 1 0 S.length)), .row 3 1 S.length (rowC encI S), .row 3 1 0 (rowC encI [])]) ru ve tx S) := by
    refine (weak_openM (id := 5) (gKey ru ve tx) (by rfl)).trans ?_
    refine (weak_nil 3 1 (rowC encI []) 10 (by kernel_rfl)).trans ?_
    rw [s1]
    refine (weak_of_eq (st' := cst 51 [(0, .c (.ptr 0 0)), (10, .c (.sl 7 1 0 0)), (11, .c (.ptr 1 0))] [.pin 2 b, .cells 79 [.p (.s ru), .p (.i .i64 ve), .p (.s tx)], .cells 86 [.sl 3 7 0 D.M.length, .mp 4, .mp 5], .row 31 7 D.M.length (rowC encPg D.M), .mapb (okK Try.prog 81) D.gp, .mapl (okK Try.prog 79) 3 1 D.gs (some (gKey ru ve tx, .sl 6 1 0 S.length)), .row 3 1 S.length (fun e o => .p ((D.gs (gKey ru ve tx)).2 e o)), .row 3 1 0 (rowC encI [])]) (by kernel_rfl)).trans ?_
    refine weak_cst ⟨rfl, rfl, rfl, ⟨rfl, rfl, rfl, fun _ _ _ _ => rfl⟩, rfl, rfl, ⟨rfl, rfl, rfl, fun e o he ho => ?_⟩, ⟨rfl, rfl, rfl, fun _ _ _ _ => rfl⟩, trivial⟩
    exact congrArg C.p (s2 e o he ho)
  refine ExZ.pre ((weak_of_eq (by kernel_rfl)).trans w1) ?_
  refine ExZ.evG extVa_sound 1 (tV2 D b ve ru tx S) ?_
  simp only [holds_rq, holds_leaf, kz_normal]
  refine ⟨⟨⟨trivial, t2⟩, rfl⟩, ⟨?_⟩⟩
  refine ExZ.loop' (l := dropL 1 (dropL 6 (pcs Try.prog Try.f16))) (b := inr (inr (nth .skip (pcs Try.prog Try.f16) 7))) (r := dropL 8 (pcs Try.prog Try.f16)) (id := 0) (by kernel_rfl) (σ := Nat × List Int)
    (fun (i, out) => (fun k => cst 51 [(0, .c (.ptr 0 0)), (10, .c (.sl 1 1 0 k)), (11, .c (.ptr 2 0)), (29, .c (.sl 3 1 0 S.length)), (30, iV (S.length : Nat)), (31, iV (i : Nat))] [.pin 4 b, .row 3 1 k (rowC encI out), .cells 79 [.p (.s ru), .p (.i .i64 ve), .p (.s tx)], .row 3 1 S.length (rowC encI S), .cells 86 [.sl 5 7 0 D.M.length, .mp 6, .mp 7], .row 31 7 D.M.length (rowC encPg D.M), .mapb (okK Try.prog 81) D.gp, .mapl (okK Try.prog 79) 3 1 D.gs (some (gKey ru ve tx, .sl 3 1 0 S.length))]) out.length) (fun (i, out) => i ≤ S.length ∧ out.length ≤ i ∧ out = pagedS D.gp ru ve tx (S.take i)) (fun (i, _) => S.length - i) (0, []) ⟨by omega, by simp, by simp [pagedS]⟩ (weak_of_eq (by kernel_rfl)) ?_
  rintro ⟨i, out⟩ ⟨i1, i2, i3⟩ Q1 q1n q1e -
  refine ExZ.evH (keep := msk 51 [0, 10, 11, 29, 30, 31]) extVa_sound (tV3 D b ve ru tx S out out.length i) ?_
  simp only [holds_bT, holds_rq, holds_leaf, kz_normal, kz_exit, decide_eq_true_eq, decide_eq_false_iff_not, inR, show ∀ x : Nat, x + 0 = x from fun _ => rfl, Int.toNat_natCast]
  have hnext : i < S.length → pagedS D.gp ru ve tx (S.take (i + 1)) = out ++ (match (D.gp (mKey ru ve tx (S.getD i default))).getD false with
    | true => [S.getD i default]
    | false => []) := fun hlt => by
    rw [i3, ← pagedS_snoc]
    congr 1
    rw [List.take_succ_eq_append_getElem hlt, List.getD_eq_getElem?_getD, List.getElem?_eq_getElem hlt]
    rfl
  refine ⟨fun hlt => ?_, fun hge => ⟨?_⟩⟩
  · have hlt : i < S.length := by omega
    have hn := hnext hlt
    have hmem : okK Try.prog 81 (mKey ru ve tx (S.getD i default)) = true := t3 _ (by
      rw [List.getD_eq_getElem?_getD, List.getElem?_eq_getElem hlt]
      exact List.getElem_mem _)
    refine ⟨⟨by omega, by omega⟩, hlt, ⟨trivial, hmem⟩, fun hg => ⟨trivial, Nat.le_refl _, ⟨by omega, by omega, intE_one _⟩, ⟨by omega, by omega⟩, ⟨?_⟩⟩, fun hg => ⟨⟨by omega, by omega⟩, ⟨?_⟩⟩⟩
    · have hg : (D.gp (mKey ru ve tx (S.getD i default))).getD false = true := hg
      rw [hg] at hn
      refine q1n (i + 1, out ++ [S.getD i default]) _ ⟨by omega, by simp; omega, hn.symm⟩ (by simp only; omega) ?_
      show WeakS G _ ((fun k i out => cst 51 [(0, .c (.ptr 0 0)), (10, .c (.sl 1 1 0 k)), (11, .c (.ptr 2 0)), (29, .c (.sl 3 1 0 S.length)), (30, iV (S.length : Nat)), (31, iV (i : Nat))] [.pin 4 b, .row 3 1 k (rowC encI out), .cells 79 [.p (.s ru), .p (.i .i64 ve), .p (.s tx)], .row 3 1 S.length (rowC encI S), .cells 86 [.sl 5 7 0 D.M.length, .mp 6, .mp 7], .row 31 7 D.M.length (rowC encPg D.M), .mapb (okK Try.prog 81) D.gp, .mapl (okK Try.prog 79) 3 1 D.gs (some (gKey ru ve tx, .sl 3 1 0 S.length))]) (out ++ [S.getD i default]).length (i + 1) (out ++ [S.getD i default]))
      rw [show (out ++ [S.getD i default]).length = out.length + 1 by simp]
      exact weak_cst ⟨rfl, ⟨rfl, rfl, rfl, fun e o he ho => app1' (ρ := [0, 9, 2, 3, 4, 5, 6, 7]) rfl (intE_at _) he ho⟩, rfl, ⟨rfl, rfl, rfl, fun _ _ _ _ => rfl⟩, rfl, ⟨rfl, rfl, rfl, fun _ _ _ _ => rfl⟩, rfl, rfl, trivial⟩
    · have hg : (D.gp (mKey ru ve tx (S.getD i default))).getD false = false := hg
      rw [hg] at hn
      exact q1n (i + 1, out) _ ⟨by omega, by omega, by rw [hn]; simp⟩ (by simp only; omega) (weak_of_eq (by kernel_rfl))
  · obtain rfl : i = S.length := by omega
    rw [List.take_length] at i3
    rw [← i3] at q1e
    refine q1e _ (ExZ.pre (st2 := (fun k => cst 51 [(0, .c (.ptr 0 0)), (10, .c (.sl 1 1 0 k))] [.pin 2 b, .row 3 1 k (rowC encI out), .cells 86 [.sl 3 7 0 D.M.length, .mp 4, .mp 5], .row 31 7 D.M.length (rowC encPg D.M), .mapb (okK Try.prog 81) D.gp, .mapl (okK Try.prog 79) 3 1 D.gs none]) out.length) ?_ ?_)
    · refine (weak_of_eq (st' := (fun k i => cst 51 [(0, .c (.ptr 0 0)), (10, .c (.sl 1 1 0 k)), (11, .c (.ptr 2 0)), (29, .c (.sl 3 1 0 S.length)), (30, iV (S.length : Nat)), (31, iV (i : Nat))] [.pin 4 b, .row 3 1 k (rowC encI out), .cells 79 [.p (.s ru), .p (.i .i64 ve), .p (.s tx)], .row 3 1 S.length (rowC encI S), .cells 86 [.sl 5 7 0 D.M.length, .mp 6, .mp 7], .row 31 7 D.M.length (rowC encPg D.M), .mapb (okK Try.prog 81) D.gp, .mapl (okK Try.prog 79) 3 1 D.gs (some (gKey ru ve tx, .sl 3 1 0 S.length))]) out.length S.length) (by kernel_rfl)).trans ?_
      refine (weak_closeM (id := 7) (m := 3) (k0 := gKey ru ve tx) (n := S.length) (h := rowC encI S) (D.gs (gKey ru ve tx)).2 (by rfl) (by rfl) (fun e o he ho => (congrArg C.p (s2 e o he ho)).symm)).trans ?_
      rw [setG_self _ _ _ s1]
      exact (weak_gc (msk 51 [0, 10]) _).trans (weak_of_eq (by kernel_rfl))
    · refine ExZ.evG (extSI_sound out) 1 (tV4 D b out out.length) ?_
      simp only [holds_rq, holds_leaf, kz_normal]
      refine ⟨⟨trivial, trivial, fun _ _ _ _ => rfl, by omega⟩, ⟨?_⟩⟩
      rw [← sortI_length out]
      refine ExZ.pre ((weak_frz (j := 10) (id := 1) (ty := 3) (sz := 1) (n := (sortI out).length) (off := 0) (len := (sortI out).length) (f := fun e o => renC [0, 1, 2, 3, 4, 5] (rowC encI (sortI out) e o)) (by kernel_rfl) (by kernel_rfl) (by omega) (fun _ _ _ _ => rfl)).trans ((weak_gc (msk 51 [0, 10]) _).trans (weak_of_eq (st' := (fun out => cst 51 [(0, .c (.ptr 0 0)), (10, listV encI 1 out)] [.pin 1 b, .cells 86 [.sl 2 7 0 D.M.length, .mp 3, .mp 4], .row 31 7 D.M.length (rowC encPg D.M), .mapb (okK Try.prog 81) D.gp, .mapl (okK Try.prog 79) 3 1 D.gs none]) (sortI out)) (by kernel_rfl)))) ?_
      refine ExZ.evH (keep := []) ext0_sound (tree := .done .ret (cst 2 [(0, .c (.ptr 0 0)), (1, listV encI 1 (sortI out))] (ldE D b))) (by kernel_rfl) ?_
      exact weak_of_eq (by kernel_rfl)
set_option maxRecDepth 100000 in
theorem valid_fn (D : Ld) (ru : ByteArray) (ve : Int) (L : List (ByteArray × ByteArray)) (S : List Int) (hS : StG D (gKey ru ve (textLb L)) S) (hT : pgOK (⟨0, ru, ve, L, 0, 0, ⟨#[]⟩⟩ : Pg) = true → (textLb L).size ≤ 1000000 ∧ okK Try.prog 79 (gKey ru ve (textLb L)) = true ∧ (∀ t ∈ S, okK Try.prog 81 (mKey ru ve (textLb L) t) = true) ∧ S.length ≤ 1000000) (rest : List AO) : FnS Try.prog G 16 [.c (.ptr 0 0), .c (.p (.s ru)), iV ve, listV enc2 2 L] (ldH D rest) fun x h' => x = lvalid D ru ve L S ∧ h' = outH [0, 1, 2, 3] [0] [1] (ldH D rest) (ldE D 0) := by
  refine fun β R w vs ha hh => (led_fn Try.func16 (by kernel_rfl) (args := [.c (.p (.s ru)), iV ve, listV enc2 2 L]) (vs := [lvalid D ru ve L S]) (D' := D) (fun b => valid_main D ru ve L S hS hT rest b _) β R w vs ha hh).mono ?_
  rintro e w' ⟨u, β', R', x, h', rfl, ⟨hx, hh'⟩, hr⟩
  refine ⟨u, β', R', x, h', rfl, ⟨hx.trans ?_, hh'⟩, hr⟩
  unfold lvalid
  cases pgOK (⟨0, ru, ve, L, 0, 0, ⟨#[]⟩⟩ : Pg) <;> rfl
end
end Go.AE
