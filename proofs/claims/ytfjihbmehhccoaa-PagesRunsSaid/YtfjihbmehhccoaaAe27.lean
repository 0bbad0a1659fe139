/- AE, part 27: functions that return a struct with a new list in it; a nil list in a struct. -/
import Derived.Test.YtfjihbmehhccoaaAe26
namespace Go.AE
set_option linter.unusedVariables false
set_option linter.unusedSimpArgs false
open Go.RowKit

theorem ofn_lt (a b : Nat) : (Int.ofNat a < Int.ofNat b) = (a < b) := propext (by simp)
theorem ofn_le (a b : Nat) : (Int.ofNat a ≤ Int.ofNat b) = (a ≤ b) := propext (by simp)
section
variable {P : Program} {G : Nat → Option Obj} {β : Bt} {R : Nat → Prop} {w : World} {st : St}
/-- A cell of a struct that is nil is also a list of no elements in a block that is not there. -/
theorem weak_nilC (ty : TypeId) (sz : Nat) (f : Nat → Nat → C) {id k : Nat} {t0 : TypeId} {vs : List C} (hid : nth .gone st.h id = .cells t0 vs) (hk : nth .top vs k = .p (.z (.slice none 0 0))) :
    WeakS G st ⟨st.t, snoc (.row ty sz 0 f) (upd (.cells t0 (upd (.sl (lenL st.h) sz 0 0) vs k)) st.h id)⟩ := by
  intro β R a w hs
  have hh := hs.hs
  have hlid := nth_gone hid (by simp)
  have hlenu : ∀ x : AO, (upd x st.h id).length = st.h.length := fun x => by rw [upd_eq]; simp
  have hnth : ∀ i x, β i = some x → nth .gone (snoc (.row ty sz 0 f) (upd (.cells t0 (upd (.sl (lenL st.h) sz 0 0) vs k)) st.h id)) i = nth .gone (upd (.cells t0 (upd (.sl (lenL st.h) sz 0 0) vs k)) st.h id) i := fun i x hi => nth_snoc_lt _ _ _ (by rw [hlenu]; exact hh.dom i x hi)
  have hlv : ∀ i x, β i = some x → (nth .gone (snoc (.row ty sz 0 f) (upd (.cells t0 (upd (.sl (lenL st.h) sz 0 0) vs k)) st.h id)) i).live = (nth .gone st.h i).live := fun i x hi => by
    rw [hnth i x hi]
    by_cases e : id = i
    · subst e; rw [nth_upd_eq _ _ _ hlid, hid]; rfl
    · rw [nth_upd_ne _ _ _ e]
  refine ⟨β, R, ⟨hs.df, hs.tm, ?_⟩, Fr.refl _ _ _, fun _ hb => hb⟩
  refine hs_told hh (by rw [snoc_eq]; simp [hlenu]) (fun i x hi => by rw [snoc_eq]; have := hh.dom i x hi; simp [hlenu]; omega) (fun _ h => h) hh.rlt ?_ ?_ hh.lt ?_ ?_
  · intro i j b o o' hi hj li lj
    rw [hlv i _ hi] at li; rw [hlv j _ hj] at lj
    exact hh.inj i j b o o' hi hj li lj
  · intro i b o hi li
    rw [hlv i _ hi] at li
    exact hh.sep i b o hi li
  · intro i b o hi
    rw [hnth i _ hi]
    by_cases e : id = i
    · subst e
      rw [nth_upd_eq _ _ _ hlid]
      have hob := hh.obj id b o hi
      rw [hid] at hob
      obtain ⟨cs, g1, g2⟩ := hob
      refine ⟨cs, g1, ?_⟩
      clear hlv hnth hid hi
      generalize cs.toList = us at g2
      induction vs generalizing k us with
      | nil => exact g2
      | cons v vs ih =>
        cases us with
        | nil => exact g2.elim
        | cons u us =>
          cases k with
          | zero =>
            have hk : v = .p (.z (.slice none 0 0)) := hk
            subst hk
            refine ⟨?_, g2.2⟩
            have h1 : u = .slice none 0 0 := g2.1
            exact ⟨none, 0, h1, Nat.le_refl _, Nat.zero_le _, .inl ⟨.inl rfl, rfl, rfl⟩⟩
          | succ k => exact ⟨g2.1, ih hk us g2.2⟩
    · rw [nth_upd_ne _ _ _ e]
      exact hh.obj i b o hi
  · intro b ad hq
    obtain ⟨q1, q2, q3⟩ := hh.ql b ad hq
    exact ⟨q1, q2, fun i o hi => by rw [hlv i _ hi]; exact q3 i o hi⟩
/-- What the end of a function that returns a struct of a plain value and a new list is asked. -/
def CellEnd (t : Nat) (ty : TypeId) (sz n : Nat) (a : PV) (F : Nat → Nat → PV) (e : X) (st : St) : Prop :=
  (∀ j, e ≠ .exit j) ∧ ∃ pid t0 vs id f, nth (.c .top) st.t t = .c (.ptr pid 0) ∧ nth .gone st.h pid = .cells t0 vs ∧ vs = [.p a, .sl id sz 0 n] ∧ nth .gone st.h id = .row ty sz n f ∧ ∀ e o, e < n → o < sz → f e o = .p (F e o)
theorem fn_cell2 {f : FuncId} {fn : Func} {t : Nat} {rty ty : TypeId} {sz n : Nat} {pa : PV} {F : Nat → Nat → PV} (hf : P.funcs[f]? = some fn) (hok : okF P fn = true) (hr : fn.results.toList = [.cell t rty]) (hct : cellsO P rty = some (some 2)) {args : List V} (hp : pureAll args = true)
    (h : ExA P G (codeOf P fn) (st0 fn args) (CellEnd t ty sz n pa F)) (h0 : List AO) :
    FnS P G f args h0 fun x h' => x = .a [.p pa, .sl (lenL h0) sz 0 n] ∧ h' = snoc (.row ty sz n fun e o => .p (F e o)) h0 := by
  unfold okF at hok
  simp only [Bool.and_eq_true, Option.isSome_iff_exists] at hok
  obtain ⟨⟨c, hc⟩, _⟩ := hok
  have e1 : codeOf P fn = c := by unfold codeOf; rw [hc]; rfl
  rw [e1] at h
  simp only [Option.bind_eq_some_iff] at hc
  obtain ⟨c0, hb, hc⟩ := hc
  intro β R w vs ha hh
  refine calls_of_wp hf hb (Code.wp_mono ?_ (h c0 hc Bt.nil R { tmps := vs ++ Array.replicate (fn.ntmps - vs.size) undef, defers := [] } w ?_))
  · intro e a' w' hq
    have key : ∀ x : X, (∀ id, x ≠ .exit id) → Po G (CellEnd t ty sz n pa F) Bt.nil R w x a' w' →
        a'.defers = [] ∧ ∃ v, (results fn a'.tmps).run P w' = .ok v w' ∧ ∃ u β' R' x h', Ending.returned v = .returned u ∧ (x = .a [.p pa, .sl (lenL h0) sz 0 n] ∧ h' = snoc (.row ty sz n fun e o => .p (F e o)) h0) ∧ VR β' R' w' x u ∧ HS G β' R' w' h' ∧ Gr β R w β' R' w' ∧ ∀ i, i < h0.length → β' i = β i := by
      rintro x hx ⟨β', R', st', ⟨_, pid, t0, cs0, id, f', q1, q2, rfl, q3, q4⟩, hs, hfr, hrr⟩
      have hptr := ev_sound (x := .tmp t) hs rfl
      have e2 : st'.ev (.t t) = .c (.ptr pid 0) := q1
      rw [e2] at hptr
      obtain ⟨b, o0, g1, g2⟩ := hptr
      have g2 : a'.tmps.getD t undef = .pointer (some ⟨b, 0, none⟩) := g2
      have hob := hs.hs.obj pid b o0 g1
      rw [q2] at hob
      obtain ⟨cs, g3, g4⟩ := hob
      have hsz : cs.size = 2 := by have := g4.length; simp at this; omega
      have hl : (cs.extract 0 (0 + 2)).toList.length = nOf (some 2) := by simp [nOf]; omega
      have hrun := run_load_gen (P := P) (w := w') hct hl (World.rangeAt_of_block g3 0 2)
      have hrun : (loadVar rty ⟨b, 0, none⟩).run P w' = .ok (ldV (cs.extract 0 (0 + 2)).toList (some 2)) w' := by
        simpa [Instr.loadAt, Instr.sureAddr] using hrun
      have hcs : cs.extract 0 (0 + 2) = cs := by
        apply Array.ext
        · simp; omega
        · intro i h1 h2; simp
      rw [hcs] at hrun
      have hres : (results fn a'.tmps).run P w' = .ok (.agg cs) w' := by
        have hra : (runR a'.tmps (.cell t rty)).run P w' = .ok (ldV cs.toList (some 2)) w' := by
          show (do loadVar rty (← asAddr (a'.tmps.getD t undef))).run P w' = _
          rw [g2]
          simp only [asAddr, pure_bind]
          exact hrun
        have hv : ldV cs.toList (some 2) = .agg cs := by simp [ldV]
        rw [hv] at hra
        refine results_eq (us := [.agg cs]) fn a'.tmps ?_
        rw [hr, List.mapM_cons, Sem.run_bind, hra]
        rfl
      refine ⟨hs.df, _, hres, ?_⟩
      obtain ⟨u0, us, hu, k0, k1⟩ := All2.nth2 g4
      obtain ⟨u1, us', hus, k3, k2⟩ := All2.nth2 k1
      have hus' := All2.nil2 k2
      subst hus'
      subst hus
      obtain ⟨A, cp, hsl, hle, hmx, hcase⟩ := k3
      subst hsl
      rcases hcase with ⟨hA, hn0, hc0⟩ | ⟨b1, N, hb1, hb2, hb3⟩
      · obtain ⟨c1, c2⟩ := hs_caller_none hh hfr hrr hs.hs (.row ty sz n fun e o => .p (F e o))
        refine ⟨_, β, frz β' R', _, _, rfl, ⟨rfl, rfl⟩, ⟨cs, rfl, ?_⟩, c1, c2, fun _ _ => rfl⟩
        rw [hu]
        exact ⟨PR.frz k0, ⟨A, cp, rfl, hle, hmx, .inl ⟨hA, hn0, hc0⟩⟩, trivial⟩
      · obtain ⟨c1, c2⟩ := hs_caller_row (x := .row ty sz n fun e o => .p (F e o)) hh hfr hrr hs.hs rfl hb1 (by rw [q3]; rfl) (fun β2 hk => by
          have hob := hs.hs.obj id b1 N hb1
          rw [q3] at hob
          obtain ⟨cs, g1, g2, g3, g4⟩ := hob
          refine ⟨cs, g1, g2, g3, fun e o he ho => ?_⟩
          obtain ⟨u, k1, k2⟩ := g4 e o he ho
          rw [q4 e o he ho] at k2
          exact ⟨u, k1, k2⟩)
        refine ⟨_, bn β h0.length (b1, N), R', _, _, rfl, ⟨rfl, rfl⟩, ⟨cs, rfl, ?_⟩, c1, c2, fun i hi => bn_other _ (by omega)⟩
        rw [hu]
        refine ⟨k0, ⟨A, cp, rfl, hle, hmx, .inr ⟨b1, N, ?_, hb2, hb3⟩⟩, trivial⟩
        rw [lenL_eq]
        exact bn_same _ _ _
    cases e with
    | normal => exact key .normal (by intro id h; cases h) hq
    | ret => exact key .ret (by intro id h; cases h) hq
    | exit id =>
      obtain ⟨β', R', st', q1, _⟩ := hq
      exact absurd rfl (q1.1 id)
    | _ => exact hq.elim
  · refine ⟨rfl, ?_, ?_⟩
    · have hl : args.length = vs.size := by simpa using ha.length
      show All2 _ (args ++ List.replicate (fn.ntmps - args.length) (.t [])) _
      rw [Array.toList_append, Array.toList_replicate, hl]
      exact (All2.pureV_ (pureAll_mem hp) ha).append (undefs_all _)
    · exact ⟨(fun i x hi => by cases hi), (fun i j b o o' hi => by cases hi), (fun i b o hi => by cases hi), (fun i b o hi => by cases hi), hh.rlt, (fun i b o hi => by cases hi), hh.gl, fun b ad hb => by cases hb⟩
theorem fn_cellS {f : FuncId} {fn : Func} {t : Nat} {rty ty : TypeId} {sz n : Nat} {pa : PV} {F : Nat → Nat → PV} {pre : List ACode} (hf : P.funcs[f]? = some fn) (hok : okF P fn = true) (hr : fn.results.toList = [.cell t rty]) (hct : cellsO P rty = some (some 2)) (hpre : pcs P fn = appA pre [.ret]) {args : List V} (hp : pureAll args = true)
    (h : ExS P G [] vF pre (st0 fn args) fun e st => e = .normal ∧ CellEnd t ty sz n pa F .ret st) (h0 : List AO) :
    FnS P G f args h0 fun x h' => x = .a [.p pa, .sl (lenL h0) sz 0 n] ∧ h' = snoc (.row ty sz n fun e o => .p (F e o)) h0 :=
  fn_cell2 hf hok hr hct hp (ExS.toRet hpre h (fun _ hq => hq.2) (fun _ _ hq => by cases hq.1)) h0
end
end Go.AE
