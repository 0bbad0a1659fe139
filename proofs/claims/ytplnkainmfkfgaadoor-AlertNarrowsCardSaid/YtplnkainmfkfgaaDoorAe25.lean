/- AE, part 25: functions whose result is a list that they made themselves. -/
import Derived.Test.YtplnkainmfkfgaaDoorAe24
namespace Go.AE
set_option linter.unusedVariables false
set_option linter.unusedSimpArgs false
open Go.RowKit

section
variable {P : Program} {G : Nat → Option Obj}
/-- The blocks that are new. -/
def onlyN (w w' : World) (b : Nat) : Prop := w.heap.size ≤ b ∧ b < w'.heap.size
/-- A call that returns a list of numbers which it made itself. -/
def FnN (P : Program) (G : Nat → Option Obj) (f : FuncId) (args : List V) (L : List Int) : Prop :=
  ∀ R w (vs : Array Value), (∀ b, R b → b < w.heap.size) → (∀ b o, G b = some o → R b ∧ w.heap[b]? = some o) → All2 (VR Bt.nil R w) args vs.toList →
    Calls P f vs w fun e w' => ∃ u, e = .returned u ∧ VR Bt.nil (onlyN w w') w' (listV encI 1 L) u ∧ Below w.heap.size w w'
theorem fn_new {f : FuncId} {fn : Func} {t : Nat} (hf : P.funcs[f]? = some fn) (hok : okF P fn = true) (hr : fn.results.toList = [.tmp t]) {args : List V} {L : List Int}
    (h : ExS P G [.new t] (listV encI 1 L) (pcs P fn) (st0 fn args) fun _ _ => False) : FnN P G f args L := by
  unfold okF at hok
  simp only [Bool.and_eq_true, Option.isSome_iff_exists] at hok
  obtain ⟨⟨c, hc⟩, _⟩ := hok
  have e1 : codeOf P fn = c := by unfold codeOf; rw [hc]; rfl
  have h := ExS.code h
  rw [e1] at h
  simp only [Option.bind_eq_some_iff] at hc
  obtain ⟨c0, hb, hc⟩ := hc
  intro R w vs hrl hgl ha
  refine calls_of_wp hf hb (Code.wp_mono ?_ (h c0 hc Bt.nil R { tmps := vs ++ Array.replicate (fn.ntmps - vs.size) undef, defers := [] } w ?_))
  · intro e a' w' hq
    cases e with
    | ret =>
      obtain ⟨β', R', st', q1, hs, hfr, hrr⟩ := hq
      have q1 : (finT [.new t] .ret st').holds P G fun _ s => ∃ x, s.t = [x] ∧ VLe x (listV encI 1 L) := q1
      have hv := ev_sound (x := .tmp t) hs rfl
      have hv : VR β' R' w' (nth (.c .top) st'.t t) (a'.tmps.getD t undef) := hv
      have hres : (results fn a'.tmps).run P w' = .ok (a'.tmps.getD t undef) w' := by
        refine results_eq (us := [a'.tmps.getD t undef]) fn a'.tmps ?_
        rw [hr]
        simp [List.mapM_cons, runR]
      refine ⟨hs.df, _, hres, _, rfl, ?_, ⟨hfr.os, hfr.tape, hfr.output, hfr.size, fun b hlt => hfr.fr b hlt Bt.nil_has⟩⟩
      simp only [finT, resL, rawR] at q1
      split at q1
      · rename_i id sz off len he
        rw [he] at hv
        have q2 : (frzC st'.h (.sl id sz off len) fun p => Tr.done X.ret ⟨[oneV [.c (.p p)]], []⟩).holds P G fun _ s => ∃ x, s.t = [x] ∧ VLe x (listV encI 1 L) := q1
        obtain ⟨p, k1, k2⟩ := frzC_sound (P := P) hs.hs (show CR β' R' w' (.sl id sz off len) _ from hv) q2
        obtain ⟨x, k3, k4⟩ := k2
        injection k3 with k3 _
        subst k3
        obtain ⟨A, cp, hsl, g1, g2, g3⟩ := k4 Bt.nil (frz β' R') w' _ k1
        obtain ⟨A', cp', hsl', g1', g2', g3'⟩ := hv
        have hsl : a'.tmps.getD t undef = .slice A L.length cp := hsl
        rw [hsl] at hsl'
        injection hsl' with e1 e2 e3
        subst e1; subst e2; subst e3
        refine ⟨A, cp, hsl, g1, g2, fun hn => ?_⟩
        obtain ⟨ad, rfl, _, g5⟩ := g3 hn
        rcases g3' with ⟨_, g6, _⟩ | ⟨b, N, g6, g7, _⟩
        · omega
        · injection g7 with g7
          subst g7
          refine ⟨_, rfl, ⟨?_, hs.hs.lt id b N g6⟩, fun e o he ho => ?_⟩
          · rcases hfr.ex b (.inl ⟨id, N, g6⟩) with h | h
            · exact absurd h Bt.nil_has
            · exact h
          · obtain ⟨u, k5, k6⟩ := g5 e o he ho
            exact ⟨u, k5, k6⟩
      · rename_i he
        rw [he] at hv
        have hv : a'.tmps.getD t undef = .slice none 0 0 := hv
        obtain ⟨x, k3, k4⟩ := q1
        injection k3 with k3 _
        subst k3
        rw [hv]
        obtain ⟨A, cp, hsl, g1, g2, g3⟩ := k4 Bt.nil (fun _ => False) w' (.slice none 0 0) rfl
        injection hsl with e1 e2 e3
        subst e1; subst e3
        exact ⟨none, 0, by rw [← e2], by omega, g2, fun hn => by omega⟩
      · exact q1.elim
    | normal => obtain ⟨_, _, _, q1, _⟩ := hq; exact q1.elim
    | exit id => obtain ⟨_, _, _, q1, _⟩ := hq; exact q1.elim
    | _ => exact hq.elim
  · refine ⟨rfl, ?_, ?_⟩
    · have hl : args.length = vs.size := by simpa using ha.length
      show All2 _ (args ++ List.replicate (fn.ntmps - args.length) (.t [])) _
      rw [Array.toList_append, Array.toList_replicate, hl]
      exact ha.append (undefs_all _)
    · exact ⟨(fun i x hi => by cases hi), (fun i j b o o' hi => by cases hi), (fun i b o hi => by cases hi), (fun i b o hi => by cases hi), hrl, (fun i b o hi => by cases hi), hgl, fun b ad hb => by cases hb⟩
/-- The same, called with lists that may still be written. -/
theorem fn_newH {f : FuncId} {args args' : List V} {h : List AO} {L : List Int} (hl : VLesH G h args args') (hf : FnN P G f args' L) : FnS P G f args h fun x h' => x = listV encI 1 L ∧ h' = h := by
  intro β R w vs ha hh
  refine (hf (fun b => b < w.heap.size) w vs (fun _ h => h) (fun b o hb => ⟨hh.rlt b (hh.gl b o hb).1, (hh.gl b o hb).2⟩) (hl.all hh ha)).mono ?_
  rintro e w' ⟨u, rfl, h1, hb⟩
  obtain ⟨c1, c2⟩ := hh.below hb
  exact ⟨u, β, newR R w w', _, h, rfl, ⟨rfl, rfl⟩, VR.keep ⟨(fun _ _ hi => by cases hi), fun b hb => .inr hb, fun _ _ => rfl⟩ h1, c1, c2, fun _ _ => rfl⟩
end
end Go.AE
