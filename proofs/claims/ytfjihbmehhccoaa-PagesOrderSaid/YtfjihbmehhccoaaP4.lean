/- AE contracts: (*Ledger).add, the proof. -/
import Derived.Test.YtfjihbmehhccoaaP3
namespace Go.AE
set_option linter.unusedVariables false
set_option linter.unusedSimpArgs false
open Go.Proofs Go.Proofs.Ytfjihbmehhccoaa Go.RowKit
/-- A ledger's blocks, as numbers 0 .. 3. -/
noncomputable def ldH (D : Ld) (rest : List AO) : List AO := .cells 86 [.sl 1 7 0 D.M.length, .mp 2, .mp 3] :: .row 31 7 D.M.length (rowC encPg D.M) :: .mapb (okK Try.prog 81) D.gp :: .mapl (okK Try.prog 79) 3 1 D.gs none :: rest
/-- .. behind a call. -/
noncomputable def ldE (D : Ld) (b : Nat) : List AO := [.pin 1 b, .cells 86 [.sl 2 7 0 D.M.length, .mp 3, .mp 4], .row 31 7 D.M.length (rowC encPg D.M), .mapb (okK Try.prog 81) D.gp, .mapl (okK Try.prog 79) 3 1 D.gs none]
theorem out_pin (D : Ld) (h : List AO) (b b' : Nat) : outH [0, 1, 2, 3] [0] [1] h (ldE D b) = outH [0, 1, 2, 3] [0] [1] h (ldE D b') := by
  unfold outH
  have e : oldF [0, 1, 2, 3] [0] [1] (lenL h) (ldE D b) = oldF [0, 1, 2, 3] [0] [1] (lenL h) (ldE D b') := by
    funext i x
    unfold oldF lkup
    cases Nat.beq 0 i <;> rfl
  rw [e]
  rfl
noncomputable def ladd (D : Ld) (p : Pg) : Ld := ⟨D.M ++ [p], setM D.gp (mKey p.ru p.ve (textLb p.L) p.st) (p.kd != 1), match (D.gp (mKey p.ru p.ve (textLb p.L) p.st)).isSome with
  | true => D.gs
  | false => gadd D.gs (gKey p.ru p.ve (textLb p.L)) p.st⟩
/-- A page's keys are lawful, and there is room for it. -/
def Fits (D : Ld) (p : Pg) : Prop := okK Try.prog 81 (mKey p.ru p.ve (textLb p.L) p.st) = true ∧ okK Try.prog 79 (gKey p.ru p.ve (textLb p.L)) = true ∧ (textLb p.L).size ≤ 1000000 ∧ p.L.length ≤ 1000000 ∧ D.M.length ≤ 1000000 ∧ (D.gs (gKey p.ru p.ve (textLb p.L))).1 ≤ 1000000
section
variable {G : Nat → Option Obj}
theorem extOf1_sound : SoundExt Try.prog G extOf1 := extOf_sound (by simp; exact ⟨okOf, okSep⟩)
set_option maxRecDepth 100000 in
theorem add_main (D : Ld) (p : Pg) (hF : Fits D p) (rest : List AO) (b : Nat) : ExZ Try.prog G (Zm [0] (resOf Try.prog Try.f48) fun s => WeakS G s ⟨[.c (.ptr 0 0)] ++ [], ldE (ladd D p) b⟩) (pcs Try.prog Try.f48) (stIn Try.f48 [0, 1, 2, 3] [0] [b] [.c (.ptr 0 0), pgV p] (ldH D rest)) fun e s => e = .normal ∧ Zm [0] (resOf Try.prog Try.f48) (fun s => WeakS G s ⟨[.c (.ptr 0 0)] ++ [], ldE (ladd D p) b⟩) s := by
  obtain ⟨M, gp, gs⟩ := D
  obtain ⟨kd, ru, ve, L, st, se, to⟩ := p
  obtain ⟨f1, f2, f3, f4, f5, f6⟩ := hF
  dsimp only at f1 f2 f3 f4 f5 f6
  refine ExZ.evG extOf1_sound 4 (tA1 rest M.length b M gp gs kd ve st se ru to L) ?_
  simp only [holds_rq, holds_leaf, kz_normal, dec2_row]
  refine ⟨⟨isL_row _ _ _, f3⟩, ⟨trivial, f1⟩, ⟨?_⟩⟩
  have fin : ∀ (kn kk : Bool) (g2 : Value → Nat × (Nat → Nat → PV)), g2 = (ladd ⟨M, gp, gs⟩ ⟨kd, ru, ve, L, st, se, to⟩).gs → ExZ Try.prog G (Zm [0] (resOf Try.prog Try.f48) fun s => WeakS G s ⟨[.c (.ptr 0 0)] ++ [], ldE (ladd ⟨M, gp, gs⟩ ⟨kd, ru, ve, L, st, se, to⟩) b⟩) (dropL 5 (pcs Try.prog Try.f48)) ((fun n gs tx => cst 52 [(0, .c (.ptr 0 0)), (3, .c (.ptr 1 0)), (4, .c (.ptr 2 0)), (6, .c (.p (.b kn))), (19, .c (.p (.b kk)))] [.pin 3 b, .cells 31 [.p (.i .i64 kd), .p (.s ru), .p (.i .i64 ve), .p (listP enc2 2 L), .p (.i .i64 st), .p (.i .i64 se), .p (.s to)], .cells 81 [.p (.s ru), .p (.i .i64 ve), .p (.s tx), .p (.i .i64 st)], .cells 86 [.sl 4 7 0 n, .mp 5, .mp 6], .row 31 7 n (rowC encPg M), .mapb (okK Try.prog 81) gp, .mapl (okK Try.prog 79) 3 1 gs none]) M.length g2 (textLb L)) fun e s => e = .normal ∧ Zm [0] (resOf Try.prog Try.f48) (fun s => WeakS G s ⟨[.c (.ptr 0 0)] ++ [], ldE (ladd ⟨M, gp, gs⟩ ⟨kd, ru, ve, L, st, se, to⟩) b⟩) s := by
    intro kn kk g2 hg
    refine ExZ.evH extOf1_sound (tA3 M.length b M gp g2 kd ve st se ru to (textLb L) L kn kk) ?_
    simp only [holds_rq, holds_leaf, kz_normal, dec2_row]
    refine ⟨⟨trivial, f1⟩, ⟨isL_row _ _ _, f4⟩, trivial, Nat.le_refl _, ⟨by omega, by omega, pg_one kd ve st se ru to L⟩, ⟨trivial, [], rfl, ?_⟩⟩
    refine (weak_of_eq (st' := ⟨[.c (.ptr 0 0)], [.pin 1 b, .cells 86 [.sl 2 7 0 (M.length + 1), .mp 3, .mp 4], .row 31 7 (M.length + 1) (fun e o => renC [0, 1, 2, 3, 4] (renC [0, 3, 8, 5, 6] (appF M.length (rowC encPg M) (fun e o => nth C.top [C.p (.i .i64 kd), C.p (.s ru), C.p (.i .i64 ve), C.p (listP enc2 2 L), C.p (.i .i64 st), C.p (.i .i64 se), C.p (.s to)] ((e + 0) * 7 + o)) e o))), .mapb (okK Try.prog 81) (setM gp (mKey ru ve (textLb L) st) (kd != 1)), .mapl (okK Try.prog 79) 3 1 g2 none]⟩) (by kernel_rfl)).trans ?_
    refine weak_st ⟨rfl, ?_, ⟨rfl, rfl, by simp [ladd], fun e o he ho => ?_⟩, rfl, ?_, trivial⟩
    · show AO.cells _ _ = AO.cells _ _
      simp [ladd]
    · exact congrArg (renC [0, 1, 2, 3, 4]) (app1' (enc := encPg) (ρ := [0, 3, 8, 5, 6]) (x := ⟨kd, ru, ve, L, st, se, to⟩) rfl (pg_at kd ve st se ru to L) he ho)
    · show AO.mapl _ _ _ _ _ = AO.mapl _ _ _ _ _
      rw [hg]
  generalize hk : (gp (Value.agg #[Value.string ru, Value.int IntKind.i64 ve, Value.string (textLb L), Value.int IntKind.i64 st])).isSome = kn
  have hk2 : (gp (mKey ru ve (textLb L) st)).isSome = kn := hk
  refine ExZ.cond (k := 19) (a := condA (nth .skip (pcs Try.prog Try.f48) 4)) (b := .skip) (r := dropL 5 (pcs Try.prog Try.f48)) (x := !kn) (by kernel_rfl) rfl (fun hx Q' hq _ => ?_) (fun hx Q' hq _ => ?_)
  · obtain rfl : kn = false := by simpa using hx
    rw [rawM]
    refine ExZ.pre (weak_of_eq (st' := (fun n kn kk tx => cst 52 [(0, .c (.ptr 0 0)), (3, .c (.ptr 1 0)), (4, .c (.ptr 2 0)), (6, .c (.p (.b kn))), (19, .c (.p (.b kk)))] [.pin 3 b, .cells 31 [.p (.i .i64 kd), .p (.s ru), .p (.i .i64 ve), .p (listP enc2 2 L), .p (.i .i64 st), .p (.i .i64 se), .p (.s to)], .cells 81 [.p (.s ru), .p (.i .i64 ve), .p (.s tx), .p (.i .i64 st)], .cells 86 [.sl 4 7 0 n, .mp 5, .mp 6], .row 31 7 n (rowC encPg M), .mapb (okK Try.prog 81) gp, .mapl (okK Try.prog 79) 3 1 gs none]) M.length false true (textLb L)) (by kernel_rfl)) ?_
    refine ExA.mono (ExA.mapapp ext0_sound (al := alM) (x := xM) (K1 := fun e s => e = .normal ∧ s = stOf ((fun n kn kk tx => (regT (pureX ext0) alM (cst 52 [(0, .c (.ptr 0 0)), (3, .c (.ptr 1 0)), (4, .c (.ptr 2 0)), (6, .c (.p (.b kn))), (19, .c (.p (.b kk)))] [.pin 3 b, .cells 31 [.p (.i .i64 kd), .p (.s ru), .p (.i .i64 ve), .p (listP enc2 2 L), .p (.i .i64 st), .p (.i .i64 se), .p (.s to)], .cells 81 [.p (.s ru), .p (.i .i64 ve), .p (.s tx), .p (.i .i64 st)], .cells 86 [.sl 4 7 0 n, .mp 5, .mp 6], .row 31 7 n (rowC encPg M), .mapb (okK Try.prog 81) gp, .mapl (okK Try.prog 79) 3 1 gs none]) (fun s => .done .normal ⟨topsAt xM.ds s.t, snoc .gone (snoc .gone (upd (.mapl (okK Try.prog 79) 3 1 (gadd gs (gKey ru ve tx) st) none) s.h 6))⟩))) M.length false true (textLb L))) (by kernel_rfl) (by kernel_rfl) (by kernel_rfl) (by kernel_rfl) xM_ok ?_) ?_
    · rw [tA2 M.length b M gp gs kd ve st se ru to (textLb L) L false true]
      refine ⟨⟨rfl, f2⟩, Nat.le_refl _, ⟨by omega, by omega, fun e o he ho => ?_⟩, rfl, rfl⟩
      obtain rfl : e = 0 := by omega
      obtain rfl : o = 0 := by omega
      exact ⟨rfl, rfl⟩
    · rintro e s ⟨rfl, rfl⟩
      exact ⟨_, (weak_gc (msk 52 [0, 3, 4, 6, 19]) _).trans (weak_of_eq (tA2' M.length b M gp gs kd ve st se ru to (textLb L) L false true)), hq _ (fin _ _ _ (by unfold ladd; rw [hk2]))⟩
  · obtain rfl : kn = true := by simpa using hx
    refine ExZ.pre (weak_of_eq (st' := (fun n kn kk tx => cst 52 [(0, .c (.ptr 0 0)), (3, .c (.ptr 1 0)), (4, .c (.ptr 2 0)), (6, .c (.p (.b kn))), (19, .c (.p (.b kk)))] [.pin 3 b, .cells 31 [.p (.i .i64 kd), .p (.s ru), .p (.i .i64 ve), .p (listP enc2 2 L), .p (.i .i64 st), .p (.i .i64 se), .p (.s to)], .cells 81 [.p (.s ru), .p (.i .i64 ve), .p (.s tx), .p (.i .i64 st)], .cells 86 [.sl 4 7 0 n, .mp 5, .mp 6], .row 31 7 n (rowC encPg M), .mapb (okK Try.prog 81) gp, .mapl (okK Try.prog 79) 3 1 gs none]) M.length true false (textLb L)) (by kernel_rfl)) (ExZ.evH ext0_sound (keep := msk 52 [0, 3, 4, 6, 19]) (tree := .done .normal ((fun n kn kk tx => cst 52 [(0, .c (.ptr 0 0)), (3, .c (.ptr 1 0)), (4, .c (.ptr 2 0)), (6, .c (.p (.b kn))), (19, .c (.p (.b kk)))] [.pin 3 b, .cells 31 [.p (.i .i64 kd), .p (.s ru), .p (.i .i64 ve), .p (listP enc2 2 L), .p (.i .i64 st), .p (.i .i64 se), .p (.s to)], .cells 81 [.p (.s ru), .p (.i .i64 ve), .p (.s tx), .p (.i .i64 st)], .cells 86 [.sl 4 7 0 n, .mp 5, .mp 6], .row 31 7 n (rowC encPg M), .mapb (okK Try.prog 81) gp, .mapl (okK Try.prog 79) 3 1 gs none]) M.length true false (textLb L))) (by kernel_rfl) ?_)
    exact hq _ (fin _ _ _ (by unfold ladd; rw [hk2]))
set_option maxRecDepth 100000 in
theorem add_fn (D : Ld) (p : Pg) (hF : Fits D p) (rest : List AO) : FnS Try.prog G 48 [.c (.ptr 0 0), pgV p] (ldH D rest) fun x h' => x = .t [] ∧ h' = outH [0, 1, 2, 3] [0] [1] (ldH D rest) (ldE (ladd D p) 0) := by
  refine fun β R w vs ha hh => (fn_mem (ρ := [0, 1, 2, 3]) (ids := [0]) (ps := [0]) (pns := [0]) (js := [1]) (sl := [.c (.ptr 0 0)]) (vs := []) (hE := fun bs => ldE (ladd D p) (nth 0 bs 0)) Try.func48 (by kernel_rfl) (by kernel_rfl) (by kernel_rfl) (by simp) (by simp) rfl rfl rfl (fun i pn h => ?_) (fun bs hb i pn j b h1 h2 h3 => ?_) (fun bs hb => ?_) β R w vs ha hh).mono ?_
  · cases i with
    | zero => obtain rfl : 0 = pn := by simpa using h
              exact ⟨0, by simp⟩
    | succ i => simp at h
  · cases i with
    | zero =>
      obtain rfl : 0 = pn := by simpa using h1
      obtain rfl : 1 = j := by simpa using h2
      cases bs with
      | nil => simp at hb
      | cons b0 bs =>
        obtain rfl : b0 = b := by simpa using h3
        exact ⟨rfl, rfl⟩
    | succ i => simp at h1
  · obtain ⟨b, rfl⟩ : ∃ b, bs = [b] := by
      cases bs with
      | nil => simp at hb
      | cons b0 bs => cases bs with
        | nil => exact ⟨b0, rfl⟩
        | cons _ _ => simp at hb
    clear hb ha hh
    exact add_main D p hF rest b
  · rintro e w' ⟨u, β', R', x, h', rfl, ⟨bs, hb, hx, hh'⟩, hr⟩
    exact ⟨u, β', R', x, h', rfl, ⟨hx, hh'.trans (out_pin _ _ _ _)⟩, hr⟩
end
end Go.AE
