/- Pages: AeC, as far as they are used here. -/
import Derived.Test.YtecilaemjajcnaaGreatDoorRRc
import Derived.Deep.LoopGhost
import Derived.KernelRfl
namespace Go.AE
set_option linter.unusedVariables false
set_option linter.unusedSimpArgs false
open Go.RowKit
inductive AR where
  | tmp (t : Nat)
  | cell (t : Nat) (n : Option Nat)
  | new (t : Nat)
def cRes (P : Program) : List ResultVar → Option (List AR)
  | [] => some []
  | .tmp t :: r => (cRes P r).map (.tmp t :: ·)
  | .cell t ty :: r => do pure (.cell t (← cellsO P ty) :: (← cRes P r))
def frzC (h : List AO) (c : C) (k : PV → Tr) : Tr := match c with
  | .p x => k x
  | .sl id sz off len => match nth .gone h id with
    | .row _ sz' n f => chk (Nat.beq sz sz') (.rq (off + len ≤ n ∧ ∀ e o, e < len → o < sz → isF (f (e + off) o) = true) (k (.l sz len fun e o => unP (f (e + off) o))))
    | _ => .fail
  | _ => .fail
def frzL (h : List AO) : List C → (List PV → Tr) → Tr
  | [], k => k []
  | c :: r, k => frzC h c fun x => frzL h r fun xs => k (x :: xs)
def frzV (h : List AO) : V1 → (V1 → Tr) → Tr
  | .c x, k => frzC h x fun p => k (.c (.p p))
  | .a cs, k => frzL h cs fun ps => k (.a (mapP ps))
def toV1 : V → Option V1
  | .c x => some (.c x)
  | .a cs => some (.a cs)
  | .t _ => none
def rawR (st : St) : AR → (V1 → Tr) → Tr
  | .tmp t, k => match toV1 (nth (.c .top) st.t t) with
    | some v => k v
    | none => .fail
  | .cell t n, k => match nth (.c .top) st.t t with
    | .c (.ptr id off) => match nth .gone st.h id with
      | .cells _ vs => chk (Nat.ble (off + nOf n) (lenL vs)) (match toV1 (ldN (nth .top vs) off n) with
        | some v => k v
        | none => .fail)
      | _ => .fail
    | _ => .fail
  | .new t, k => match nth (.c .top) st.t t with
    | .c (.sl id sz off len) => k (.c (.sl id sz off len))
    | .c (.p (.z (.slice none 0 0))) => k (.c (.p (.z (.slice none 0 0))))
    | _ => .fail
def resL (st : St) : List AR → (List V1 → Tr) → Tr
  | [], k => k []
  | r :: rs, k => rawR st r fun v => frzV st.h v fun v' => resL st rs fun vs => k (v' :: vs)
def oneV : List V1 → V
  | [v] => v.up
  | vs => .t vs
def finT (rs : List AR) (e : X) (st : St) : Tr := match e with
  | .exit _ => .fail
  | _ => resL st rs fun vs => .done .ret ⟨[oneV vs], []⟩
section
variable {P : Program} {G : Nat → Option Obj} {β β' : Bt} {R R' : Nat → Prop} {w w' : World} {st : St} {a : Act}
theorem PR.frz {x : PV} {u : Value} (h : PR R w x u) : PR (frz β R) w x u := PR.keep (fun _ hb => .inl hb) (fun _ _ => rfl) x h
theorem frzC_sound (hh : HS G β R w st.h) {c : C} {u : Value} (hc : CR β R w c u) {k : PV → Tr} {K : X → St → Prop} (h : (frzC st.h c k).holds P G K) : ∃ p, PR (frz β R) w p u ∧ (k p).holds P G K := by
  cases c with
  | p x => exact ⟨x, PR.frz hc, h⟩
  | sl id sz off len =>
    simp only [frzC] at h
    split at h
    · rename_i ty sz' n f hid
      obtain ⟨c1, ⟨h1, h2⟩, h3⟩ := chk_true h
      obtain rfl := Nat.eq_of_beq_eq_true c1
      refine ⟨_, ?_, h3⟩
      obtain ⟨A, c, rfl, g1, g2, g3⟩ := hc
      refine ⟨A, c, rfl, g1, g2, fun hn => ?_⟩
      rcases g3 with ⟨_, g4, _⟩ | ⟨b, o0, g4, rfl, g7⟩
      · omega
      · have hob := hh.obj id b o0 g4
        rw [hid] at hob
        obtain ⟨cs, g8, g80, g9, g10⟩ := hob
        refine ⟨_, rfl, .inr (.inl ⟨id, o0, g4⟩), fun e q he hq => ?_⟩
        obtain ⟨u, h5, h6⟩ := g10 (e + off) q (by omega) hq
        refine ⟨u, ?_, ?_⟩
        · rw [add_mid, cell_of_row w b _ cs ty (0, 0) g8, ← h5]
          congr 1
          rw [Nat.add_mul]; omega
        · have := h2 e q he hq
          cases hf : f (e + off) q with
          | p x =>
            rw [hf] at h6
            show PR (frz β R) w (unP (f (e + off) q)) u
            rw [hf]
            exact PR.frz h6
          | own ty2 sz2 n2 f2 =>
            rw [hf] at h6
            show PR (frz β R) w (unP (f (e + off) q)) u
            rw [hf]
            obtain ⟨A, c, k1, k2, k3, k4⟩ := h6
            refine ⟨A, c, k1, k2, k3, fun hn => ?_⟩
            rcases k4 with ⟨_, k5, _⟩ | ⟨b2, cs2, k5, k6, k7, k8, k9⟩
            · omega
            · refine ⟨_, k5, .inr (.inr ⟨_, k6⟩), fun e2 o2 he2 ho2 => ?_⟩
              obtain ⟨u2, r1, r2⟩ := k9 e2 o2 he2 ho2
              exact ⟨u2, by rw [add_mid, cell_of_row w b2 _ cs2 ty2 (0, 0) k7, Nat.zero_add]; exact r1, PR.frz r2⟩
          | _ => rw [hf] at this; cases this
    · exact h.elim
  | _ => exact h.elim
theorem frzL_sound (hh : HS G β R w st.h) : ∀ {cs : List C} {us : List Value} (_ : All2 (CR β R w) cs us) {k : List PV → Tr} {K : X → St → Prop} (_ : (frzL st.h cs k).holds P G K), ∃ ps, All2 (PR (frz β R) w) ps us ∧ (k ps).holds P G K
  | [], [], _, k, K, h => ⟨[], trivial, h⟩
  | [], _ :: _, hc, _, _, _ => hc.elim
  | _ :: _, [], hc, _, _, _ => hc.elim
  | c :: cs, u :: us, hc, k, K, h => by
    simp only [frzL] at h
    obtain ⟨p, h1, h2⟩ := frzC_sound hh hc.1 h
    obtain ⟨ps, h3, h4⟩ := frzL_sound hh hc.2 h2
    exact ⟨p :: ps, ⟨h1, h3⟩, h4⟩
theorem mapP_all : ∀ {ps : List PV} {us : List Value}, All2 (PR R w) ps us → All2 (CR β R w) (mapP ps) us
  | [], [], _ => trivial
  | [], _ :: _, h => h.elim
  | _ :: _, [], h => h.elim
  | _ :: _, _ :: _, h => ⟨h.1, mapP_all h.2⟩
theorem mapP_pure : ∀ ps : List PV, pureL (mapP ps) = true
  | [] => rfl
  | _ :: r => by simp [mapP, pureL, isP, mapP_pure r]
theorem frzV_sound (hh : HS G β R w st.h) {v : V1} {u : Value} (hc : V1R β R w v u) {k : V1 → Tr} {K : X → St → Prop} (h : (frzV st.h v k).holds P G K) : ∃ v', V1R β' (frz β R) w v' u ∧ pureV1 v' = true ∧ (k v').holds P G K := by
  cases v with
  | c x =>
    obtain ⟨p, h1, h2⟩ := frzC_sound hh hc h
    exact ⟨.c (.p p), h1, rfl, h2⟩
  | a cs =>
    obtain ⟨us, rfl, h0⟩ := hc
    obtain ⟨ps, h1, h2⟩ := frzL_sound hh h0 h
    exact ⟨.a (mapP ps), ⟨us, rfl, mapP_all h1⟩, mapP_pure ps, h2⟩
def runR (tmps : Array Value) : ResultVar → Sem Value
  | .tmp t => pure (tmps.getD t undef)
  | .cell a t => do loadVar t (← asAddr (tmps.getD a undef))
theorem toV1_sound {v : V} {v1 : V1} {u : Value} (h : VR β R w v u) (hv : toV1 v = some v1) : V1R β R w v1 u := by
  cases v <;> simp only [toV1, Option.some.injEq] at hv
  · subst hv; exact h
  · subst hv; exact h
  · cases hv
theorem resL_sound (hs : Sim G β R st a w) : ∀ (frs : List ResultVar) (rs : List AR) (_ : cRes P frs = some rs) {k : List V1 → Tr} {K : X → St → Prop} (_ : (resL st rs k).holds P G K),
    ∃ us vs, (frs.mapM (runR a.tmps)).run P w = .ok us w ∧ All2 (V1R β' (frz β R) w) vs us ∧ pureVs vs = true ∧ (k vs).holds P G K
  | [], rs, hr, k, K, h => by
    simp only [cRes, Option.some.injEq] at hr; subst hr
    exact ⟨[], [], by simp, trivial, rfl, h⟩
  | .tmp t :: frs, rs, hr, k, K, h => by
    simp only [cRes, Option.map_eq_some_iff] at hr
    obtain ⟨rs', hr, rfl⟩ := hr
    simp only [resL, rawR] at h
    split at h
    · rename_i v hv
      have hval := toV1_sound (ev_sound (x := .tmp t) hs rfl) hv
      obtain ⟨v', h1, h2, h3⟩ := frzV_sound (β' := β') hs.hs hval h
      obtain ⟨us, vs, h4, h5, h6, h7⟩ := resL_sound hs frs rs' hr h3
      refine ⟨_ :: us, v' :: vs, ?_, ⟨h1, h5⟩, by simp [pureVs, h2, h6], h7⟩
      simp [List.mapM_cons, runR, h4, Act.eval]
    · exact h.elim
  | .cell t ty :: frs, rs, hr, k, K, h => by
    simp only [cRes, Option.bind_eq_bind, Option.bind_eq_some_iff, Option.pure_def, Option.some.injEq] at hr
    obtain ⟨n, hn, rs', hr, rfl⟩ := hr
    simp only [resL, rawR] at h
    split at h
    · rename_i id off hp
      split at h
      · rename_i ty' vs hid
        obtain ⟨c1, c2⟩ := chk_true h
        split at c2
        · rename_i v hv
          have hptr := ev_sound (x := .tmp t) hs rfl
          have e : st.ev (.t t) = .c (.ptr id off) := hp
          rw [e] at hptr
          obtain ⟨b, o0, g1, g2⟩ := hptr
          have hob := hs.hs.obj id b o0 g1
          rw [hid] at hob
          obtain ⟨cs, g3, g4⟩ := hob
          have hlen : off + nOf n ≤ vs.length := by rw [lenL_eq] at c1; simpa using c1
          have hsz : vs.length = cs.size := by simpa using g4.length
          have hl : (cs.extract off (off + nOf n)).toList.length = nOf n := by simp; omega
          have g2 : a.tmps.getD t undef = .pointer (some ⟨b, off, none⟩) := g2
          have hrun := run_load_gen (P := P) (w := w) hn hl (World.rangeAt_of_block g3 off (nOf n))
          have hrun : (loadVar ty ⟨b, off, none⟩).run P w = .ok (ldV (cs.extract off (off + nOf n)).toList n) w := by
            simpa [Instr.loadAt, Instr.sureAddr] using hrun
          have hval : VR β R w (ldN (nth .top vs) off n) (ldV (cs.extract off (off + nOf n)).toList n) := ldN_sound hl (fun j u hu => by
            have hj : j < nOf n := by have := (List.getElem?_eq_some_iff.1 hu).1; omega
            refine g4.nth_get ?_
            rw [← hu, Array.getElem?_toList, Array.getElem?_toList, Array.getElem?_extract, if_pos (by omega)])
          obtain ⟨v', h1, h2, h3⟩ := frzV_sound (β' := β') hs.hs (toV1_sound hval hv) c2
          obtain ⟨us, vs', h4, h5, h6, h7⟩ := resL_sound hs frs rs' hr h3
          refine ⟨_ :: us, v' :: vs', ?_, ⟨h1, h5⟩, by simp [pureVs, h2, h6], h7⟩
          have hra : (runR a.tmps (.cell t ty)).run P w = .ok (ldV (cs.extract off (off + nOf n)).toList n) w := by
            show (do loadVar ty (← asAddr (a.tmps.getD t undef))).run P w = _
            rw [g2]
            simp only [asAddr, pure_bind]
            exact hrun
          rw [List.mapM_cons, Sem.run_bind, hra, Result.andThen_ok, Sem.run_bind, h4]
          rfl
        · exact c2.elim
      · exact h.elim
    · exact h.elim
def oneU : List Value → Value
  | [u] => u
  | us => .tuple us.toArray
theorem results_eq (fn : Func) (tmps : Array Value) {us : List Value} (h : (fn.results.toList.mapM (runR tmps)).run P w = .ok us w) : (results fn tmps).run P w = .ok (oneU us) w := by
  have e : results fn tmps = (do let vs ← fn.results.mapM (runR tmps); pure (if h : vs.size = 1 then vs[0] else .tuple vs)) := by
    unfold results
    congr 1
  rw [e, Array.mapM_eq_mapM_toList]
  simp only [Sem.run_bind, Sem.run_map, h, Result.andThen_ok]
  match us with
  | [] => rfl
  | [u] => rfl
  | u :: v :: r => simp [oneU]
theorem oneV_sound : ∀ {vs : List V1} {us : List Value} (_ : All2 (V1R β R w) vs us), VR β R w (oneV vs) (oneU us)
  | [], [], _ => ⟨#[], rfl, trivial⟩
  | [_], [_], h => V1R.up h.1
  | _ :: _ :: _, _ :: _ :: _, h => ⟨_, rfl, h⟩
  | [], _ :: _, h => h.elim
  | _ :: _, [], h => h.elim
  | [_], _ :: _ :: _, h => h.2.elim
  | _ :: _ :: _, [_], h => h.2.elim
theorem oneV_pure : ∀ {vs : List V1}, pureVs vs = true → pureV (oneV vs) = true
  | [], _ => rfl
  | [v], h => by
    simp only [pureVs, Bool.and_true] at h
    cases v <;> exact h
  | _ :: _ :: _, h => h
theorem undefs_all (n : Nat) : All2 (VR β R w) (List.replicate n (.t [])) (List.replicate n undef) := by
  induction n with
  | zero => exact trivial
  | succ n ih => rw [List.replicate_succ, List.replicate_succ]; exact ⟨undef_sound, ih⟩
end
end Go.AE
namespace Go.AE
set_option linter.unusedVariables false
set_option linter.unusedSimpArgs false
open Go.RowKit
def idxOf (id : Nat) : List Nat → Nat → Option Nat
  | [], _ => none
  | j :: r, n => match Nat.beq j id with
    | true => some n
    | false => idxOf id r (n + 1)
def renB (ρ : List Nat) : B → Option B
  | .p x => some (.p x)
  | .ptr id off => (idxOf id ρ 0).map fun j => .ptr j off
def renBs (ρ : List Nat) : List B → Option (List B)
  | [] => some []
  | b :: r => match renB ρ b, renBs ρ r with
    | some b', some r' => some (b' :: r')
    | _, _ => none
def renC (ρ : List Nat) : C → C
  | .p x => .p x
  | .ptr id off => match idxOf id ρ 0 with
    | some j => .ptr j off
    | none => .top
  | .rp id sz e o => match idxOf id ρ 0 with
    | some j => .rp j sz e o
    | none => .top
  | .lp sz n f e o => .lp sz n f e o
  | .sl id sz off len => match idxOf id ρ 0 with
    | some j => .sl j sz off len
    | none => .top
  | .mp id => match idxOf id ρ 0 with
    | some j => .mp j
    | none => .top
  | .fn f fs cs => match renBs ρ fs, renBs ρ cs with
    | some fs', some cs' => .fn f fs' cs'
    | _, _ => .top
  | .own ty sz n f => .own ty sz n f
  | .top => .top
def renCs (ρ : List Nat) : List C → List C
  | [] => []
  | c :: r => renC ρ c :: renCs ρ r
def renV (ρ : List Nat) : V → V
  | .c x => .c (renC ρ x)
  | .a cs => .a (renCs ρ cs)
  | .t _ => .c .top
def renF (ρ : List Nat) : Option (Value × C) → Option (Value × C)
  | some (k, c) => some (k, renC ρ c)
  | none => none
def renO (ρ : List Nat) : AO → AO
  | .cells ty vs => .cells ty (renCs ρ vs)
  | .row ty sz n f => .row ty sz n fun e o => renC ρ (f e o)
  | .foc ty sz n e0 vs f => .foc ty sz n e0 (renCs ρ vs) fun e o => renC ρ (f e o)
  | .mapb ok g => .mapb ok g
  | .mapl ok ty sz g fo => .mapl ok ty sz g (renF ρ fo)
  | .pin j b0 => match idxOf j ρ 0 with
    | some j' => .pin j' b0
    | none => .gone
  | .gone => .gone
def projT (ρ : List Nat) : List Bool → List V → List V
  | _, [] => []
  | [], _ :: r => .c .top :: projT ρ [] r
  | true :: k, v :: r => renV ρ v :: projT ρ k r
  | false :: k, _ :: r => .c .top :: projT ρ k r
def projH (ρ : List Nat) (h : List AO) : List Nat → List AO
  | [] => []
  | id :: r => renO ρ (nth .gone h id) :: projH ρ h r
def proj (ρ : List Nat) (keep : List Bool) (st : St) : St := ⟨projT ρ keep st.t, projH ρ st.h ρ⟩
def memN (id : Nat) : List Nat → Bool
  | [] => false
  | j :: r => Nat.beq j id || memN id r
def noDup : List Nat → Bool
  | [] => true
  | j :: r => !memN j r && noDup r
section
variable {P : Program} {G : Nat → Option Obj} {β β' : Bt} {R R' : Nat → Prop} {w w' : World} {st : St} {a : Act}
def WeakS (G : Nat → Option Obj) (st st2 : St) : Prop := ∀ β R a w, Sim G β R st a w → ∃ β2 R2, Sim G β2 R2 st2 a w ∧ Fr β R w β2 R2 w ∧ ∀ b, R b → R2 b
theorem WeakS.trans {s1 s2 s3 : St} (h : WeakS G s1 s2) (k : WeakS G s2 s3) : WeakS G s1 s3 := by
  intro β R a w hs
  obtain ⟨β2, R2, h1, h2, h3⟩ := h β R a w hs
  obtain ⟨β3, R3, h4, h5, h6⟩ := k β2 R2 a w h1
  exact ⟨β3, R3, h4, h2.trans h5 h3, fun b hb => h6 b (h3 b hb)⟩
def bρ (ρ : List Nat) (β : Bt) : Bt := ⟨fun j => (ρ[j]?).bind β.f, β.q⟩
theorem idxOf_some {id : Nat} : ∀ {ρ : List Nat} {n j : Nat}, idxOf id ρ n = some j → n ≤ j ∧ ρ[j - n]? = some id
  | [], _, _, h => by cases h
  | k :: r, n, j, h => by
    simp only [idxOf] at h
    cases hb : Nat.beq k id with
    | true =>
      rw [hb] at h
      injection h with h
      subst h
      exact ⟨Nat.le_refl _, by simp [Nat.eq_of_beq_eq_true hb]⟩
    | false =>
      rw [hb] at h
      obtain ⟨h1, h2⟩ := idxOf_some h
      refine ⟨by omega, ?_⟩
      rw [show j - n = (j - (n + 1)) + 1 by omega]
      simpa using h2
theorem bρ_of {ρ : List Nat} {id j : Nat} (h : idxOf id ρ 0 = some j) : bρ ρ β j = β id := by
  have := (idxOf_some h).2
  simp only [Nat.sub_zero] at this
  simp [bρ, this]
theorem renB_sound {ρ : List Nat} {x y : B} {u : Value} (hy : renB ρ x = some y) (h : BR β R w x u) : BR (bρ ρ β) R w y u := by
  cases x with
  | p x => simp only [renB, Option.some.injEq] at hy; subst hy; exact h
  | ptr id off =>
    simp only [renB, Option.map_eq_some_iff] at hy
    obtain ⟨j, hj, rfl⟩ := hy
    obtain ⟨b, o, h1, h2⟩ := h
    exact ⟨b, o, (bρ_of hj).trans h1, h2⟩
theorem renBs_sound {ρ : List Nat} : ∀ {xs ys : List B} {us : List Value} (_ : renBs ρ xs = some ys) (_ : All2 (BR β R w) xs us), All2 (BR (bρ ρ β) R w) ys us
  | [], ys, us, hy, h => by
    simp only [renBs, Option.some.injEq] at hy; subst hy
    cases us <;> exact h
  | x :: xs, ys, us, hy, h => by
    simp only [renBs] at hy
    cases h1 : renB ρ x with
    | none => simp [h1] at hy
    | some y =>
      cases h2 : renBs ρ xs with
      | none => simp [h1, h2] at hy
      | some ys' =>
        simp only [h1, h2, Option.some.injEq] at hy
        subst hy
        cases us with
        | nil => exact h.elim
        | cons u us => exact ⟨renB_sound h1 h.1, renBs_sound h2 h.2⟩
theorem renC_sound {ρ : List Nat} {x : C} {u : Value} (h : CR β R w x u) : CR (bρ ρ β) R w (renC ρ x) u := by
  cases x with
  | p x => exact h
  | ptr id off =>
    simp only [renC]
    split
    · rename_i j hj; obtain ⟨b, o, h1, h2⟩ := h; exact ⟨b, o, (bρ_of hj).trans h1, h2⟩
    · exact trivial
  | rp id sz e o =>
    simp only [renC]
    split
    · rename_i j hj; obtain ⟨b, o, h1, h2⟩ := h; exact ⟨b, o, (bρ_of hj).trans h1, h2⟩
    · exact trivial
  | lp sz n f e o => exact h
  | sl id sz off len =>
    simp only [renC]
    split
    · rename_i j hj
      obtain ⟨A, c, h1, h2, h3, h4⟩ := h
      refine ⟨A, c, h1, h2, h3, ?_⟩
      rcases h4 with h4 | ⟨b, N, h5, h6, h7⟩
      · exact .inl h4
      · exact .inr ⟨b, N, (bρ_of hj).trans h5, h6, h7⟩
    · exact trivial
  | mp id =>
    simp only [renC]
    split
    · rename_i j hj; obtain ⟨b, N, h1, h2⟩ := h; exact ⟨b, N, (bρ_of hj).trans h1, h2⟩
    · exact trivial
  | fn f fs cs =>
    simp only [renC]
    obtain ⟨us, vs, h1, h2, h3⟩ := h
    split
    · rename_i fs' cs' hf hc; exact ⟨us, vs, h1, renBs_sound hf h2, renBs_sound hc h3⟩
    · exact trivial
  | own => exact trivial
  | top => exact trivial
theorem renCo_sound {ρ : List Nat} {ad : Nat × Nat} {x : C} {u : Value} (h : CRo β R w ad x u) : CRo (bρ ρ β) R w ad (renC ρ x) u := by
  cases hx : x.isOwn with
  | true => cases x <;> first | exact h | cases hx
  | false =>
    refine CRo.of ?_ (renC_sound h.cr)
    cases x <;> first | rfl | (simp only [renC]; split <;> rfl) | cases hx
theorem renCs_nth {ρ : List Nat} : ∀ (vs : List C) (k : Nat), nth .top (renCs ρ vs) k = renC ρ (nth .top vs k)
  | [], _ => rfl
  | _ :: _, 0 => rfl
  | _ :: r, k + 1 => renCs_nth r k
theorem renCs_length {ρ : List Nat} : ∀ vs : List C, (renCs ρ vs).length = vs.length
  | [] => rfl
  | _ :: r => by simp [renCs, renCs_length r]
theorem renCs_sound {ρ : List Nat} : ∀ {xs : List C} {us : List Value} (_ : All2 (CR β R w) xs us), All2 (CR (bρ ρ β) R w) (renCs ρ xs) us
  | [], [], _ => trivial
  | [], _ :: _, h => h.elim
  | _ :: _, [], h => h.elim
  | _ :: _, _ :: _, h => ⟨renC_sound h.1, renCs_sound h.2⟩
theorem renV_sound {ρ : List Nat} {x : V} {u : Value} (h : VR β R w x u) : VR (bρ ρ β) R w (renV ρ x) u := by
  cases x with
  | c x => exact renC_sound h
  | a cs => obtain ⟨us, h1, h2⟩ := h; exact ⟨us, h1, renCs_sound h2⟩
  | t vs => exact trivial
theorem projT_sound {ρ : List Nat} : ∀ {keep : List Bool} {xs : List V} {us : List Value} (_ : All2 (VR β R w) xs us), All2 (VR (bρ ρ β) R w) (projT ρ keep xs) us
  | _, [], [], _ => by simp only [projT]; exact trivial
  | _, [], _ :: _, h => h.elim
  | _, _ :: _, [], h => h.elim
  | [], _ :: _, _ :: _, h => by simp only [projT]; exact ⟨trivial, projT_sound h.2⟩
  | true :: k, _ :: _, _ :: _, h => by simp only [projT]; exact ⟨renV_sound h.1, projT_sound h.2⟩
  | false :: k, _ :: _, _ :: _, h => by simp only [projT]; exact ⟨trivial, projT_sound h.2⟩
theorem renO_sound {ρ : List Nat} {x : AO} {b o : Nat} (h : OR β R w x b o) : OR (bρ ρ β) R w (renO ρ x) b o := by
  cases x with
  | cells ty vs => obtain ⟨cs, h2, h3⟩ := h; exact ⟨cs, h2, renCs_sound h3⟩
  | row ty sz n f =>
    obtain ⟨cs, h1, h0, h2, h3⟩ := h
    refine ⟨cs, h1, h0, h2, fun e k he hk => ?_⟩
    obtain ⟨u, h4, h5⟩ := h3 e k he hk
    exact ⟨u, h4, renCo_sound h5⟩
  | foc ty sz n e0 vs f =>
    obtain ⟨cs, h1, h0, h2, h21, h22, h3⟩ := h
    refine ⟨cs, h1, h0, h2, h21, by rw [renCs_length]; exact h22, fun e k he hk => ?_⟩
    obtain ⟨u, h4, h5, h6⟩ := h3 e k he hk
    exact ⟨u, h4, fun h => by rw [renCs_nth]; exact renC_sound (h5 h), fun h => renCo_sound (h6 h)⟩
  | mapb ok g => exact h
  | mapl ok ty sz g fo =>
    obtain ⟨es, cl, h2, h3, h4, h5⟩ := h
    cases fo with
    | none =>
      refine ⟨es, cl, h2, h3, fun i e he => ?_, fun k0 hk0 => ?_⟩
      · obtain ⟨q1, q2, q3⟩ := h4 i e he
        exact ⟨q1, fun k0 c h1 => (by cases h1), fun _ => renCo_sound (q3 (fun _ _ h => by cases h))⟩
      · obtain ⟨q1, q2⟩ := h5 k0 hk0
        exact ⟨fun k1 c h1 => (by cases h1), fun _ => q2 (fun _ _ h => by cases h)⟩
    | some kc =>
      obtain ⟨k9, c9⟩ := kc
      refine ⟨es, cl, h2, h3, fun i e he => ?_, fun k0 hk0 => ?_⟩
      · obtain ⟨q1, q2, q3⟩ := h4 i e he
        refine ⟨q1, fun k0 c h1 h2 => ?_, fun h1 => renCo_sound (q3 fun k0 c h2 => ?_)⟩
        · injection h1 with h1; injection h1 with h1 h3; subst h1; subst h3
          exact renC_sound (q2 _ _ rfl h2)
        · injection h2 with h2; injection h2 with h2 h3; subst h2; subst h3
          exact h1 _ _ rfl
      · obtain ⟨q1, q2⟩ := h5 k0 hk0
        refine ⟨fun k1 c h1 h2 => ?_, fun h1 => q2 fun k1 c h2 => ?_⟩
        · injection h1 with h1; injection h1 with h1 h3; subst h1; subst h3
          exact renC_sound (q1 _ _ rfl h2)
        · injection h2 with h2; injection h2 with h2 h3; subst h2; subst h3
          exact h1 _ _ rfl
  | pin j b0 =>
    obtain ⟨h1, o1, h2⟩ := h
    show OR _ _ _ (match idxOf j ρ 0 with
      | some j' => AO.pin j' b0
      | none => .gone) _ _
    cases hi : idxOf j ρ 0 with
    | none => exact trivial
    | some j' => exact ⟨h1, o1, (bρ_of hi).trans h2⟩
  | gone => exact trivial
theorem renO_live {ρ : List Nat} {x : AO} : (renO ρ x).live = x.live := by
  cases x with
  | pin j b0 =>
    show (match idxOf j ρ 0 with
      | some j' => AO.pin j' b0
      | none => .gone).live = false
    cases idxOf j ρ 0 <;> rfl
  | _ => rfl
theorem projH_nth {ρ : List Nat} {h : List AO} : ∀ {l : List Nat} {j id : Nat}, l[j]? = some id → nth .gone (projH ρ h l) j = renO ρ (nth .gone h id)
  | [], _, _, hj => by simp at hj
  | k :: l, 0, id, hj => by simp at hj; subst hj; rfl
  | k :: l, j + 1, id, hj => by simpa [projH, nth] using projH_nth (l := l) (j := j) (by simpa using hj)
theorem projH_length {ρ : List Nat} {h : List AO} : ∀ l : List Nat, (projH ρ h l).length = l.length
  | [] => rfl
  | _ :: l => by simp [projH, projH_length l]
theorem memN_iff {id : Nat} : ∀ {l : List Nat}, memN id l = true ↔ id ∈ l
  | [] => by simp [memN]
  | j :: r => by
    simp only [memN, Bool.or_eq_true, List.mem_cons, memN_iff (l := r)]
    constructor
    · rintro (h | h)
      · exact .inl (Nat.eq_of_beq_eq_true h).symm
      · exact .inr h
    · rintro (h | h)
      · exact .inl (by rw [h]; exact Nat.beq_refl j)
      · exact .inr h
theorem noDup_inj : ∀ {l : List Nat}, noDup l = true → ∀ {i j x : Nat}, l[i]? = some x → l[j]? = some x → i = j
  | [], _, _, _, _, h, _ => by simp at h
  | k :: l, hd, i, j, x, hi, hj => by
    simp only [noDup, Bool.and_eq_true, Bool.not_eq_true'] at hd
    have hk : k ∉ l := fun h => by rw [memN_iff.2 h] at hd; cases hd.1
    cases i with
    | zero =>
      cases j with
      | zero => rfl
      | succ j =>
        simp at hi hj
        subst hi
        exact absurd (List.mem_of_getElem? hj) hk
    | succ i =>
      cases j with
      | zero =>
        simp at hi hj
        subst hj
        exact absurd (List.mem_of_getElem? hi) hk
      | succ j => simp at hi hj; exact congrArg (· + 1) (noDup_inj hd.2 hi hj)
theorem weak_proj (ρ : List Nat) (keep : List Bool) (hn : noDup ρ = true) (st : St) : WeakS G st (proj ρ keep st) := by
  intro β R a w hs
  have key : ∀ {j : Nat} {x : Nat × Nat}, bρ ρ β j = some x → ∃ id, ρ[j]? = some id ∧ β id = some x := by
    intro j x hj
    simp only [bρ, Option.bind_eq_some_iff] at hj
    exact hj
  refine ⟨bρ ρ β, R, ⟨hs.df, projT_sound hs.tm, ⟨?_, ?_, ?_, ?_, hs.hs.rlt, ?_, hs.hs.gl, ?_⟩⟩, ?_, fun _ hb => hb⟩
  · intro j x hj
    obtain ⟨id, h1, _⟩ := key hj
    show j < (projH ρ st.h ρ).length
    rw [projH_length]
    exact (List.getElem?_eq_some_iff.1 h1).1
  · intro i j b o o' hi hj li lj
    obtain ⟨id, h1, h2⟩ := key hi
    obtain ⟨jd, h3, h4⟩ := key hj
    have li : (nth .gone (projH ρ st.h ρ) i).live = true := li
    have lj : (nth .gone (projH ρ st.h ρ) j).live = true := lj
    rw [projH_nth h1, renO_live] at li
    rw [projH_nth h3, renO_live] at lj
    have := hs.hs.inj id jd b o o' h2 h4 li lj
    subst this
    exact noDup_inj hn h1 h3
  · intro i b o hi li
    obtain ⟨id, h1, h2⟩ := key hi
    have li : (nth .gone (projH ρ st.h ρ) i).live = true := li
    rw [projH_nth h1, renO_live] at li
    exact hs.hs.sep id b o h2 li
  · intro i b o hi
    obtain ⟨id, h1, h2⟩ := key hi
    exact hs.hs.lt id b o h2
  · intro i b o hi
    obtain ⟨id, h1, h2⟩ := key hi
    show OR _ _ _ (nth .gone (projH ρ st.h ρ) i) b o
    rw [projH_nth h1]
    exact renO_sound (hs.hs.obj id b o h2)
  · intro b ad hb
    obtain ⟨h1, h2, h3⟩ := hs.hs.ql b ad hb
    refine ⟨h1, h2, fun i o hi => ?_⟩
    obtain ⟨id, h4, h5⟩ := key hi
    show (nth .gone (projH ρ st.h ρ) i).live = false
    rw [projH_nth h4, renO_live]
    exact h3 id o h5
  · refine ⟨rfl, rfl, rfl, Nat.le_refl _, fun _ _ => rfl, fun _ _ _ => rfl, ?_, fun _ hb => .inl hb⟩
    rintro b (⟨i, o, hi⟩ | hi)
    · obtain ⟨id, _, h2⟩ := key hi
      exact .inl (.inl ⟨id, o, h2⟩)
    · exact .inl (.inr hi)
def OEq : AO → AO → Prop
  | .row ty sz n f, .row ty' sz' n' f' => ty = ty' ∧ sz = sz' ∧ n = n' ∧ ∀ e o, e < n → o < sz → f e o = f' e o
  | .foc ty sz n e0 vs f, .foc ty' sz' n' e0' vs' f' => ty = ty' ∧ sz = sz' ∧ n = n' ∧ e0 = e0' ∧ vs = vs' ∧ ∀ e o, e < n → e ≠ e0 → o < sz → f e o = f' e o
  | x, y => x = y
theorem OEq.nth_ : ∀ {hs hs' : List AO} (_ : All2 OEq hs hs') (i : Nat), OEq (nth .gone hs i) (nth .gone hs' i)
  | [], [], _, _ => rfl
  | [], _ :: _, h, _ => h.elim
  | _ :: _, [], h, _ => h.elim
  | _ :: _, _ :: _, h, 0 => h.1
  | _ :: _, _ :: _, h, i + 1 => OEq.nth_ h.2 i
end
end Go.AE
namespace Go.AE
set_option linter.unusedVariables false
set_option linter.unusedSimpArgs false
open Go.RowKit
section
variable {P : Program} {G : Nat → Option Obj}
def ExA (P : Program) (G : Nat → Option Obj) (ac : ACode) (st : St) (K : X → St → Prop) : Prop := ∀ c, cCode P c = some ac → Ex P G c st K
theorem QX.mono {K K' : X → St → Prop} (hk : ∀ e st, K e st → K' e st) {β : Bt} {R : Nat → Prop} {w : World} {e : Exit} {a2 : Act} {w2 : World} (h : QX G K β R w e a2 w2) : QX G K' β R w e a2 w2 := by
  have key : ∀ x, Po G K β R w x a2 w2 → Po G K' β R w x a2 w2 := fun x ⟨β', R', st', h1, h2⟩ => ⟨β', R', st', hk _ _ h1, h2⟩
  cases e with
  | normal => exact key _ h
  | exit id => exact key _ h
  | ret => exact key _ h
  | _ => exact h
theorem ExA.mono {ac : ACode} {st : St} {K K' : X → St → Prop} (h : ExA P G ac st K) (hk : ∀ e st, K e st → K' e st) : ExA P G ac st K' :=
  fun c hc β R a w hs => Code.wp_mono (fun _ _ _ q => QX.mono hk q) (h c hc β R a w hs)
theorem ExA.pre {ac : ACode} {st st2 : St} {K : X → St → Prop} (hw : WeakS G st st2) (h : ExA P G ac st2 K) : ExA P G ac st K := by
  intro c hc β R a w hs
  obtain ⟨β2, R2, h1, h2, h3⟩ := hw β R a w hs
  exact Code.wp_mono (fun _ _ _ q => QX.trans q h2 h3) (h c hc β2 R2 a w h1)
theorem ExA.post {ac : ACode} {st : St} {K : X → St → Prop} (h : ExA P G ac st fun e st' => ∃ st2, WeakS G st' st2 ∧ K e st2) : ExA P G ac st K := by
  intro c hc β R a w hs
  refine Code.wp_mono ?_ (h c hc β R a w hs)
  intro e a2 w2 hq
  have key : ∀ x, Po G (fun e st' => ∃ st2, WeakS G st' st2 ∧ K e st2) β R w x a2 w2 → Po G K β R w x a2 w2 := by
    rintro x ⟨β', R', st', ⟨st2, hw, hk⟩, h2, h3, h4⟩
    obtain ⟨β2, R2, q1, q2, q3⟩ := hw β' R' a2 w2 h2
    exact ⟨β2, R2, st2, hk, q1, h3.trans q2 h4, fun b hb => q3 b (h4 b hb)⟩
  cases e with
  | normal => exact key _ hq
  | exit id => exact key _ hq
  | ret => exact key _ hq
  | _ => exact hq
theorem ExA.ev {ext : Ext} (hext : SoundExt P G ext) {ac : ACode} {st : St} {k : X → St → Tr} {K : X → St → Prop} (h : (exT ext ac st k).holds P G K) : ExA P G ac st fun e st' => (k e st').holds P G K :=
  fun c hc => exT_sound hext c ac hc st k K h
def ACode.isReg : ACode → Bool
  | .reg .. | .regd .. | .regm .. | .regx .. | .raw .. => true
  | _ => false
theorem cCode_region {id : Nat} {ops : Array Oper} {draw : Bool} {ac : ACode} (hc : cCode P (.region id ops draw) = some ac) : ac.isReg = true := by
  simp only [cCode] at hc
  split at hc
  case h_2 => injection hc with hc; subst hc; rfl
  rename_i ac' hc1
  injection hc with hc
  subst hc
  cases draw with
  | false =>
    simp only [cReg, Option.map_eq_some_iff] at hc1
    obtain ⟨al, _, rfl⟩ := hc1
    rfl
  | true =>
    simp only [cReg] at hc1
    split at hc1
    · simp only [Option.bind_eq_bind, Option.bind_eq_some_iff, Option.pure_def, Option.some.injEq] at hc1
      obtain ⟨al, _, hc1⟩ := hc1
      split at hc1
      · injection hc1 with hc1; subst hc1; rfl
      · split at hc1
        · injection hc1 with hc1; subst hc1; rfl
        · cases hc1
    · cases hc1
theorem ExA.core {ac : ACode} {st : St} {K : X → St → Prop} (h : ∀ c, (∀ c', c ≠ .scope c') → cCode P c = some ac → Ex P G c st K) : ExA P G ac st K := by
  intro c
  induction c with
  | scope c ih => exact fun hc => ex_scope (ih (by simpa only [cCode] using hc))
  | _ => exact fun hc => h _ (by intro c' e; cases e) hc
theorem ExA.seq {a b : ACode} {st : St} {K1 K : X → St → Prop} (h : ExA P G a st K1) (hn : ∀ st', K1 .normal st' → ExA P G b st' K) (hx : ∀ e st', e ≠ .normal → K1 e st' → K e st') : ExA P G (.seq a b) st K := by
  refine ExA.core fun c hns hc => ?_
  cases c with
  | scope c' => exact absurd rfl (hns c')
  | seq x y =>
    simp only [cCode, Option.bind_eq_bind, Option.bind_eq_some_iff, Option.pure_def, Option.some.injEq] at hc
    obtain ⟨ax, h1, ay, h2, h3⟩ := hc
    injection h3 with e1 e2
    subst e1; subst e2
    intro β R a w hs
    refine wp_seq (Code.wp_mono ?_ (h x h1 β R a w hs))
    intro e a' w' hq
    cases e with
    | normal =>
      obtain ⟨β', R', st', q1, q2, q3, q4⟩ := hq
      exact Code.wp_mono (fun e a2 w2 q => QX.trans q q3 q4) (hn st' q1 y h2 β' R' a' w' q2)
    | exit id => obtain ⟨β', R', st', q1, q2⟩ := hq; exact ⟨β', R', st', hx _ _ (by simp) q1, q2⟩
    | ret => obtain ⟨β', R', st', q1, q2⟩ := hq; exact ⟨β', R', st', hx _ _ (by simp) q1, q2⟩
    | _ => exact hq
  | region id ops draw => cases cCode_region hc
  | cond x c1 c2 => cases h1 : cX x <;> cases h2 : cCode P c1 <;> cases h3 : cCode P c2 <;> simp [cCode, h1, h2, h3] at hc
  | block id c => cases h1 : cCode P c <;> simp [cCode, h1] at hc
  | loop c => cases h1 : cCode P c <;> simp [cCode, h1] at hc
  | _ => simp [cCode] at hc
theorem ExA.block {id : Nat} {a : ACode} {st : St} {K : X → St → Prop} (h : ExA P G a st fun e st' => match e with
    | .exit j => if j = id then K .normal st' else K (.exit j) st'
    | e => K e st') : ExA P G (.block id a) st K := by
  refine ExA.core fun c hns hc => ?_
  cases c with
  | scope c' => exact absurd rfl (hns c')
  | block id' x =>
    simp only [cCode, Option.map_eq_some_iff] at hc
    obtain ⟨ax, h1, h2⟩ := hc
    injection h2 with e1 e2
    subst e1; subst e2
    intro β R a w hs
    refine wp_block (Code.wp_mono ?_ (h x h1 β R a w hs))
    intro e a' w' hq
    cases e with
    | exit j =>
      obtain ⟨β', R', st', q1, q2, q3, q4⟩ := hq
      dsimp only at q1
      show (if j = id' then QX G K β R w .normal a' w' else QX G K β R w (.exit j) a' w')
      by_cases hj : j = id'
      · rw [if_pos hj] at q1 ⊢; exact ⟨β', R', st', q1, q2, q3, q4⟩
      · rw [if_neg hj] at q1 ⊢; exact ⟨β', R', st', q1, q2, q3, q4⟩
    | _ => exact hq
  | region id ops draw => cases cCode_region hc
  | cond x c1 c2 => cases h1 : cX x <;> cases h2 : cCode P c1 <;> cases h3 : cCode P c2 <;> simp [cCode, h1, h2, h3] at hc
  | seq c d => cases h1 : cCode P c <;> cases h2 : cCode P d <;> simp [cCode, h1, h2] at hc
  | loop c => cases h1 : cCode P c <;> simp [cCode, h1] at hc
  | _ => simp [cCode] at hc
theorem ExA.loop {a : ACode} {K : X → St → Prop} {σ : Type} (C : σ → St) (I : σ → Prop) (μ : σ → Nat) (s0 : σ) (hI : I s0)
    (step : ∀ s, I s → ExA P G a (C s) fun e st' => match e with
      | .normal => ∃ s', I s' ∧ μ s' < μ s ∧ WeakS G st' (C s')
      | e => K e st') : ExA P G (.loop a) (C s0) K := by
  refine ExA.core fun c hns hc => ?_
  cases c with
  | scope c' => exact absurd rfl (hns c')
  | loop x =>
    simp only [cCode, Option.map_eq_some_iff] at hc
    obtain ⟨ax, h1, h2⟩ := hc
    injection h2 with e1
    subst e1
    intro β0 R0 a0 w0 hs0
    refine wp_loop_ghost (fun n a w => ∃ s β R, μ s = n ∧ I s ∧ Sim G β R (C s) a w ∧ Fr β0 R0 w0 β R w ∧ ∀ b, R0 b → R b) (μ s0) ⟨s0, β0, R0, rfl, hI, hs0, Fr.refl _ _ _, fun _ hb => hb⟩ ?_
    rintro n a w ⟨s, β, R, rfl, hs, hsim, hfr, hr⟩
    refine Code.wp_mono ?_ (step s hs x h1 β R a w hsim)
    intro e a' w' hq
    cases e with
    | normal =>
      obtain ⟨β', R', st', ⟨s', q1, q2, q3⟩, q4, q5, q6⟩ := hq
      obtain ⟨β2, R2, r1, r2, r3⟩ := q3 β' R' a' w' q4
      exact ⟨μ s', q2, s', β2, R2, rfl, q1, r1, (hfr.trans q5 hr).trans r2 (fun b hb => q6 b (hr b hb)), fun b hb => r3 b (q6 b (hr b hb))⟩
    | exit id => obtain ⟨β', R', st', q1, q2, q3, q4⟩ := hq; exact ⟨β', R', st', q1, q2, hfr.trans q3 hr, fun b hb => q4 b (hr b hb)⟩
    | ret => obtain ⟨β', R', st', q1, q2, q3, q4⟩ := hq; exact ⟨β', R', st', q1, q2, hfr.trans q3 hr, fun b hb => q4 b (hr b hb)⟩
    | _ => exact hq.elim
  | region id ops draw => cases cCode_region hc
  | cond x c1 c2 => cases h1 : cX x <;> cases h2 : cCode P c1 <;> cases h3 : cCode P c2 <;> simp [cCode, h1, h2, h3] at hc
  | seq c d => cases h1 : cCode P c <;> cases h2 : cCode P d <;> simp [cCode, h1, h2] at hc
  | block id c => cases h1 : cCode P c <;> simp [cCode, h1] at hc
  | _ => simp [cCode] at hc
def Fin (P : Program) (G : Nat → Option Obj) (rs : List AR) (K : V → Prop) (e : X) (st : St) : Prop := (finT rs e st).holds P G fun _ st' => ∃ v, st'.t = [v] ∧ (pureV v = true → K v)
theorem fn_pureA {f : FuncId} {fn : Func} {ac : ACode} {rs : List AR} {n : Nat} (hf : P.funcs[f]? = some fn) (hc : fn.body.bind (cCode P) = some ac) (hr : cRes P fn.results.toList = some rs) (hn : fn.ntmps = n)
    {args : List V} (hp : ∀ v ∈ args, pureV v = true) {K : V → Prop} (h : ExA P G ac ⟨args ++ List.replicate (n - args.length) (.t []), []⟩ (Fin P G rs K)) (hc' : List AO) :
    FnS P G f args hc' fun v h' => K v ∧ pureV v = true ∧ h' = hc' := by
  subst hn
  simp only [Option.bind_eq_some_iff] at hc
  obtain ⟨c, hb, hc⟩ := hc
  intro β R w vs ha hh
  refine calls_of_wp hf hb (Code.wp_mono ?_ (h c hc Bt.nil R { tmps := vs ++ Array.replicate (fn.ntmps - vs.size) undef, defers := [] } w ?_))
  · intro e a' w' hq
    have key : ∀ x : X, (∀ id, x ≠ .exit id) → Po G (Fin P G rs K) Bt.nil R w x a' w' →
        a'.defers = [] ∧ ∃ v, (results fn a'.tmps).run P w' = .ok v w' ∧ ∃ u β' R' x h', Ending.returned v = .returned u ∧ (K x ∧ pureV x = true ∧ h' = hc') ∧ VR β' R' w' x u ∧ HS G β' R' w' h' ∧ Gr β R w β' R' w' ∧ ∀ i, i < hc'.length → β' i = β i := by
      rintro x hx ⟨β', R', st', q1, q2, q3, q4⟩
      have q1 : (resL st' rs fun vs => .done .ret ⟨[oneV vs], []⟩).holds P G fun _ st' => ∃ v, st'.t = [v] ∧ (pureV v = true → K v) := by
        cases x with
        | exit id => exact absurd rfl (hx id)
        | normal => exact q1
        | ret => exact q1
      obtain ⟨us, vs', h1, h2, h3, v, h4, h5⟩ := resL_sound (β' := β) q2 fn.results.toList rs hr q1
      simp only [List.cons.injEq, and_true] at h4
      subst h4
      obtain ⟨c1, c2⟩ := hs_caller hh q3 q4 q2.hs
      exact ⟨q2.df, _, results_eq fn a'.tmps h1, _, β, frz β' R', oneV vs', hc', rfl, ⟨h5 (oneV_pure h3), oneV_pure h3, rfl⟩, oneV_sound h2, c1, c2, fun _ _ => rfl⟩
    cases e with
    | normal => exact key .normal (by intro id h; cases h) hq
    | ret => exact key .ret (by intro id h; cases h) hq
    | exit id =>
      obtain ⟨β', R', st', q1, _⟩ := hq
      exact q1.elim
    | _ => exact hq.elim
  · refine ⟨rfl, ?_, ?_⟩
    · have hl : args.length = vs.size := by simpa using ha.length
      rw [Array.toList_append, Array.toList_replicate, hl]
      exact (All2.pureV_ hp ha).append (undefs_all _)
    · exact ⟨(fun i x hi => by cases hi), (fun i j b o o' hi => by cases hi), (fun i b o hi => by cases hi), (fun i b o hi => by cases hi), hh.rlt, (fun i b o hi => by cases hi), hh.gl, fun b ad hb => by cases hb⟩
end
end Go.AE
namespace Go.AE
set_option linter.unusedVariables false
set_option linter.unusedSimpArgs false
open Go.RowKit
abbrev Mod := List V → Option (Prop × V)
def extOf : List (FuncId × Mod) → Ext
  | [], _, _, _, _ => .fail
  | (g, m) :: r, f, args, h, k => match Nat.beq g f with
    | true => match m args with
      | some (p, v) => .rq p (k v h)
      | none => .fail
    | false => extOf r f args h k
section
variable {P : Program} {G : Nat → Option Obj}
theorem FnS.mono {f : FuncId} {args : List V} {h : List AO} {K K' : V → List AO → Prop} (hh : FnS P G f args h K) (hk : ∀ v h', K v h' → K' v h') : FnS P G f args h K' :=
  fun β R w vs ha hs => (hh β R w vs ha hs).mono fun _ _ ⟨u, β', R', x, h', q1, q2, q3⟩ => ⟨u, β', R', x, h', q1, hk _ _ q2, q3⟩
def ModOK (P : Program) (G : Nat → Option Obj) (f : FuncId) (m : Mod) : Prop := ∀ args p v, m args = some (p, v) → p → ∀ h, FnS P G f args h fun x h' => x = v ∧ h' = h
theorem extOf_sound : ∀ {l : List (FuncId × Mod)}, (∀ e ∈ l, ModOK P G e.1 e.2) → SoundExt P G (extOf l)
  | [], _ => ⟨fun _ _ _ _ _ h => h.elim, fun _ _ _ _ _ h => h.elim⟩
  | (g, m) :: r, hl => by
    have ih := extOf_sound (l := r) fun e he => hl e (List.mem_cons_of_mem _ he)
    have h0 : ModOK P G g m := hl (g, m) (List.mem_cons_self ..)
    refine ⟨?_, ?_⟩
    · intro f args h k K hh
      simp only [extOf] at hh
      split at hh
      · rename_i hb
        obtain rfl := Nat.eq_of_beq_eq_true hb
        split at hh
        · rename_i p v hm
          exact (h0 args p v hm hh.1 h).mono fun x h' ⟨e1, e2⟩ => by rw [e1, e2]; exact hh.2
        · exact hh.elim
      · exact ih.fn _ _ _ _ _ hh
    · intro f args h k K hh
      simp only [extOf] at hh ⊢
      split at hh
      · rename_i hb
        split at hh
        · rename_i p v hm
          exact ⟨v, h, hh.2, fun k' K' hk => ⟨hh.1, hk⟩⟩
        · exact hh.elim
      · exact ih.val _ _ _ _ _ hh
end
end Go.AE
/- AE, part 15: evaluation with cut-down ends; names. -/
namespace Go.AE
set_option linter.unusedVariables false
set_option linter.unusedSimpArgs false
open Go.RowKit
def iV (n : Int) : V := .c (.p (.i .i64 n))
def bV (b : Bool) : V := .c (.p (.b b))
def sV (s : ByteArray) : V := .c (.p (.s s))
def codeOf (P : Program) (f : Func) : ACode := (f.body.bind (cCode P)).getD .skip
def inr : ACode → ACode
  | .block _ a => a
  | .loop a => a
  | a => a
section
variable {P : Program} {G : Nat → Option Obj}
theorem Lp.mono {a : ACode} {st : St} {K K' : X → St → Prop} (hk : ∀ e s, K e s → K' e s) (h : Lp P G a st K) : Lp P G a st K' :=
  fun c hc β R a' w hs => Code.wp_mono (fun _ _ _ q => QX.mono hk q) (h c hc β R a' w hs)
theorem Tr.holds_mono {K K' : X → St → Prop} (hk : ∀ e s, K e s → K' e s) : ∀ {t : Tr}, t.holds P G K → t.holds P G K'
  | .fail, h => h
  | .rq _ _, h => ⟨h.1, Tr.holds_mono hk h.2⟩
  | .alt _ _, h => ⟨Tr.holds_mono hk h.1, Tr.holds_mono hk h.2⟩
  | .loop _ _ _, h => Lp.mono (fun _ _ q => Tr.holds_mono hk q) h
  | .done _ _, h => hk _ _ h
end
end Go.AE
namespace Go.AE
set_option linter.unusedVariables false
set_option linter.unusedSimpArgs false
open Go.RowKit
section
variable {P : Program} {G : Nat → Option Obj} {β β' : Bt} {R R' : Nat → Prop} {w w' : World}
theorem holds_rq {p : Prop} {k : Tr} {K : X → St → Prop} : (Tr.rq p k).holds P G K ↔ p ∧ k.holds P G K := Iff.rfl
theorem holds_done {e : X} {st : St} {K : X → St → Prop} : (Tr.done e st).holds P G K ↔ K e st := Iff.rfl
theorem holds_bT {b : Bool} {t e : Tr} {K : X → St → Prop} : (bT b t e).holds P G K ↔ (b = true → t.holds P G K) ∧ (b = false → e.holds P G K) := by
  cases b <;> simp [bT]
def VLe (x v : V) : Prop := ∀ β R w u, VR β R w x u → VR β R w v u
def PLe (x v : PV) : Prop := ∀ R w u, PR R w x u → PR R w v u
theorem VLe.refl (x : V) : VLe x x := fun _ _ _ _ h => h
theorem PLe.refl (x : PV) : PLe x x := fun _ _ _ h => h
theorem VLe.of_eq {x v : V} (h : x = v) : VLe x v := h ▸ VLe.refl x
theorem PLe.of_eq {x v : PV} (h : x = v) : PLe x v := h ▸ PLe.refl x
theorem VLe.p {x v : PV} (h : PLe x v) : VLe (.c (.p x)) (.c (.p v)) := fun _ R w u hu => h R w u hu
theorem PLe.l {sz n : Nat} {f g : Nat → Nat → PV} (h : ∀ e o, e < n → o < sz → PLe (f e o) (g e o)) : PLe (.l sz n f) (.l sz n g) := by
  rintro R w u ⟨A, c, rfl, h1, h2, h3⟩
  refine ⟨A, c, rfl, h1, h2, fun hn => ?_⟩
  obtain ⟨ad, e1, e2, e3⟩ := h3 hn
  refine ⟨ad, e1, e2, fun e o he ho => ?_⟩
  obtain ⟨u, q1, q2⟩ := e3 e o he ho
  exact ⟨u, q1, h e o he ho R w u q2⟩
theorem PLe.nil (sz : Nat) (g : Nat → Nat → PV) : PLe (.z (.slice none 0 0)) (.l sz 0 g) := by
  rintro R w u rfl
  exact ⟨none, 0, rfl, Nat.le_refl _, Nat.zero_le _, fun h => absurd h (Nat.lt_irrefl 0)⟩
inductive PLes : List PV → List PV → Prop
  | nil : PLes [] []
  | cons {x v : PV} {xs vs : List PV} : PLe x v → PLes xs vs → PLes (x :: xs) (v :: vs)
theorem PLes.all {xs vs : List PV} (h : PLes xs vs) : ∀ {us : List Value}, All2 (PR R w) xs us → All2 (PR R w) vs us := by
  induction h with
  | nil => exact fun h => h
  | cons h1 _ ih =>
    intro us hu
    cases us with
    | nil => exact hu.elim
    | cons u us => exact ⟨h1 _ _ _ hu.1, ih hu.2⟩
theorem PLes.cs {xs vs : List PV} (h : PLes xs vs) : ∀ {us : List Value}, All2 (CR β R w) (mapP xs) us → All2 (CR β R w) (mapP vs) us := by
  induction h with
  | nil => exact fun h => h
  | cons h1 _ ih =>
    intro us hu
    cases us with
    | nil => exact hu.elim
    | cons u us => exact ⟨h1 _ _ _ hu.1, ih hu.2⟩
theorem VLe.a {xs vs : List PV} (h : PLes xs vs) : VLe (.a (mapP xs)) (.a (mapP vs)) := fun _ _ _ _ ⟨us, e, hu⟩ => ⟨us, e, h.cs hu⟩
def V1Le (x v : V1) : Prop := VLe x.up v.up
inductive V1Les : List V1 → List V1 → Prop
  | nil : V1Les [] []
  | cons {x v : V1} {xs vs : List V1} : V1Le x v → V1Les xs vs → V1Les (x :: xs) (v :: vs)
theorem V1Le.r {x v : V1} (h : V1Le x v) {u : Value} (hu : V1R β R w x u) : V1R β R w v u := by
  have := h β R w u (V1R.up hu)
  cases v <;> exact this
theorem VLe.t {xs vs : List V1} (h : V1Les xs vs) : VLe (.t xs) (.t vs) := by
  rintro β R w _ ⟨us, rfl, hu⟩
  refine ⟨us, rfl, ?_⟩
  generalize us.toList = us' at hu
  induction h generalizing us' with
  | nil => exact hu
  | cons h1 _ ih =>
    cases us' with
    | nil => exact hu.elim
    | cons u us => exact ⟨h1.r hu.1, ih _ hu.2⟩
theorem FnS.le {f : FuncId} {args : List V} {h : List AO} {v : V} (hf : FnS P G f args h fun x h' => VLe x v ∧ h' = h) : FnS P G f args h fun x h' => x = v ∧ h' = h :=
  fun β R w vs ha hs => (hf β R w vs ha hs).mono fun _ _ ⟨u, β', R', _, h', q1, q2, q3, q4⟩ => ⟨u, β', R', v, h', q1, ⟨rfl, q2.2⟩, q2.1 _ _ _ _ q3, q4⟩
theorem fn_le {f : FuncId} {fn : Func} {rs : List AR} {n : Nat} (hf : P.funcs[f]? = some fn) (hc : fn.body.bind (cCode P) = some (codeOf P fn)) (hr : cRes P fn.results.toList = some rs) (hn : fn.ntmps = n)
    {args : List V} (hp : pureAll args = true) {v : V} (h : ExA P G (codeOf P fn) ⟨args ++ List.replicate (n - args.length) (.t []), []⟩ fun e st => (finT rs e st).holds P G fun _ st' => ∃ x, st'.t = [x] ∧ VLe x v) (h0 : List AO) :
    FnS P G f args h0 fun x h' => x = v ∧ h' = h0 :=
  FnS.le ((fn_pureA (K := fun x => VLe x v) hf hc hr hn (pureAll_mem hp) (h.mono fun _ _ hk => Tr.holds_mono (fun _ _ ⟨x, h1, h2⟩ => ⟨x, h1, fun _ => h2⟩) hk) h0).mono fun _ _ q => ⟨q.1, q.2.2⟩)
def newR (R : Nat → Prop) (w w' : World) : Nat → Prop := fun b => R b ∨ (w.heap.size ≤ b ∧ b < w'.heap.size)
theorem HS.below {h : List AO} (hh : HS G β R w h) (hb : Below w.heap.size w w') : HS G β (newR R w w') w' h ∧ Gr β R w β (newR R w w') w' := by
  have hk : Keeps β R w β (newR R w w') w' := ⟨fun _ _ hi => hi, fun _ hb => .inl hb, fun b hr => hb.block b (hh.rlt b hr)⟩
  refine ⟨⟨hh.dom, hh.inj, ?_, ?_, ?_, ?_, ?_, ?_⟩, ⟨⟨hb.os, hb.tape, hb.output, hb.size, hk.rs, fun b hlt _ => hb.block b hlt, fun _ hi => .inl hi, ?_⟩, hk.bm, hk.rm⟩⟩
  · rintro i b o hi hl (hr | ⟨h1, _⟩)
    · exact hh.sep i b o hi hl hr
    · have := hh.lt i b o hi; omega
  · intro i b o hi
    exact Nat.lt_of_lt_of_le (hh.lt i b o hi) hb.size
  · rintro b (hr | ⟨_, h1⟩)
    · exact Nat.lt_of_lt_of_le (hh.rlt b hr) hb.size
    · exact h1
  · intro i b o hi
    exact OR.keep hk (fun b1 k hq => ⟨hq, hb.block b1 (hh.ql b1 _ hq).1⟩) (hb.block b (hh.lt i b o hi)) (hh.obj i b o hi)
  · intro b o hg
    obtain ⟨h1, h2⟩ := hh.gl b o hg
    exact ⟨.inl h1, (hk.rs b h1).trans h2⟩
  · intro b ad hq
    obtain ⟨h1, h2, h3⟩ := hh.ql b ad hq
    refine ⟨Nat.lt_of_lt_of_le h1 hb.size, ?_, h3⟩
    rintro (hr | ⟨h4, _⟩)
    · exact h2 hr
    · omega
  · rintro b (hr | ⟨h1, _⟩)
    · exact .inl hr
    · exact .inr (.inr h1)
theorem VR.up_none {x : V} {u : Value} (h : VR Bt.nil R w x u) : VR β R w x u := VR.keep ⟨fun _ _ hi => (by cases hi), fun _ hb => hb, fun _ _ => rfl⟩ h
theorem All2.nth2 {α γ : Type} {q : α → γ → Prop} {x : α} {xs : List α} {ys : List γ} (h : All2 q (x :: xs) ys) : ∃ y ys', ys = y :: ys' ∧ q x y ∧ All2 q xs ys' := by
  cases ys with
  | nil => exact h.elim
  | cons y ys => exact ⟨y, ys, rfl, h.1, h.2⟩
theorem All2.nil2 {α γ : Type} {q : α → γ → Prop} {ys : List γ} (h : All2 q ([] : List α) ys) : ys = [] := by
  cases ys with
  | nil => rfl
  | cons y ys => exact h.elim
theorem fn_kit {f : FuncId} {args : List V} {v : V} (hp : pureAll args = true)
    (hk : ∀ R w (vs : Array Value), (∀ b, R b → b < w.heap.size) → (∀ b o, G b = some o → w.heap[b]? = some o) → All2 (VR Bt.nil R w) args vs.toList →
      Calls P f vs w fun e w' => ∃ u, e = .returned u ∧ VR Bt.nil (newR R w w') w' v u ∧ Below w.heap.size w w') (h : List AO) : FnS P G f args h fun x h' => x = v ∧ h' = h := by
  intro β R w vs ha hh
  refine (hk R w vs hh.rlt (fun b o hg => (hh.gl b o hg).2) (All2.pureV_ (pureAll_mem hp) ha)).mono ?_
  rintro e w' ⟨u, rfl, h1, h2⟩
  obtain ⟨h3, h4⟩ := hh.below h2
  exact ⟨u, β, newR R w w', v, h, rfl, ⟨rfl, rfl⟩, VR.up_none h1, h3, h4, fun _ _ => rfl⟩
theorem calls_of_fn {f : FuncId} {args : List V} {vs : Array Value} (h : FnS P G f args [] fun x _ => x = bV true) (ha : All2 (VR Bt.nil (fun b => b < w.heap.size) w) args vs.toList) (hg : ∀ b o, G b = some o → w.heap[b]? = some o) :
    Calls P f vs w fun e w' => e = .returned (.bool true) ∧ Below w.heap.size w w' := by
  refine (h Bt.nil (fun b => b < w.heap.size) w vs ha ⟨(fun _ _ h => by cases h), (fun _ _ _ _ _ h => by cases h), (fun _ _ _ h => by cases h), (fun _ _ _ h => by cases h), (fun _ h => h), (fun _ _ _ h => by cases h), fun b o hb => ⟨(Array.getElem?_eq_some_iff.1 (hg b o hb)).1, hg b o hb⟩, (fun _ _ h => by cases h)⟩).mono ?_
  · rintro e w' ⟨u, β', R', x, h', rfl, rfl, h1, _, h2, _⟩
    have h1 : u = .bool true := h1
    subst h1
    exact ⟨rfl, h2.os, h2.tape, h2.output, h2.size, fun b hb => h2.rs b hb⟩
end
end Go.AE
namespace Go.AE
set_option linter.unusedVariables false
set_option linter.unusedSimpArgs false
open Go.RowKit
section
variable {α : Type} [Inhabited α]
def rowP (enc : α → Nat → PV) (L : List α) (e o : Nat) : PV := enc (L.getD e default) o
def listP (enc : α → Nat → PV) (sz : Nat) (L : List α) : PV := .l sz L.length (rowP enc L)
def listV (enc : α → Nat → PV) (sz : Nat) (L : List α) : V := .c (.p (listP enc sz L))
def decL (dec : (Nat → PV) → α) (n : Nat) (f : Nat → Nat → PV) : List α := (List.range n).map fun e => dec (f e)
theorem decL_row {enc : α → Nat → PV} {dec : (Nat → PV) → α} (hd : ∀ x, dec (enc x) = x) (L : List α) : decL dec L.length (rowP enc L) = L := by
  apply List.ext_getElem?
  intro i
  unfold decL
  by_cases hi : i < L.length
  · rw [List.getElem?_map, List.getElem?_range hi, List.getElem?_eq_getElem hi]
    simp only [Option.map_some, Option.some.injEq]
    have : rowP enc L i = enc L[i] := by unfold rowP; simp [hi]
    rw [this, hd]
  · rw [List.getElem?_eq_none (by simpa using hi), List.getElem?_eq_none (by omega)]
def IsL (enc : α → Nat → PV) (sz : Nat) (L : List α) (n : Nat) (f : Nat → Nat → PV) : Prop := L.length = n ∧ ∀ e o, e < n → o < sz → f e o = rowP enc L e o
theorem isL_row (enc : α → Nat → PV) (sz : Nat) (L : List α) : IsL enc sz L L.length (rowP enc L) := ⟨rfl, fun _ _ _ _ => rfl⟩
theorem IsL.le {enc : α → Nat → PV} {sz : Nat} {L : List α} {n : Nat} {f : Nat → Nat → PV} (h : IsL enc sz L n f) : VLe (.c (.p (.l sz n f))) (listV enc sz L) := by
  obtain ⟨rfl, h2⟩ := h
  exact VLe.p (PLe.l fun e o he ho => PLe.of_eq (h2 e o he ho))
end
section
variable {P : Program} {G : Nat → Option Obj}
inductive VLes : List V → List V → Prop
  | nil : VLes [] []
  | cons {x v : V} {xs vs : List V} : VLe x v → VLes xs vs → VLes (x :: xs) (v :: vs)
theorem VLes.all {β : Bt} {R : Nat → Prop} {w : World} {xs vs : List V} (h : VLes xs vs) : ∀ {us : List Value}, All2 (VR β R w) xs us → All2 (VR β R w) vs us := by
  induction h with
  | nil => exact fun h => h
  | cons h1 _ ih =>
    intro us hu
    cases us with
    | nil => exact hu.elim
    | cons u us => exact ⟨h1 _ _ _ _ hu.1, ih hu.2⟩
theorem FnS.args {f : FuncId} {args args' : List V} {h : List AO} {K : V → List AO → Prop} (hf : FnS P G f args' h K) (hl : VLes args args') : FnS P G f args h K :=
  fun β R w vs ha hs => hf β R w vs (hl.all ha) hs
end
def strOf : PV → ByteArray
  | .s x => x
  | _ => ⟨#[]⟩
def intOfP : PV → Int
  | .i _ n => n
  | _ => 0
def encI (x : Int) (_ : Nat) : PV := .i .i64 x
def encS (x : ByteArray) (_ : Nat) : PV := .s x
def decI (f : Nat → PV) : Int := intOfP (f 0)
def decS (f : Nat → PV) : ByteArray := strOf (f 0)
theorem decS_row (L : List ByteArray) : decL decS L.length (rowP encS L) = L := decL_row (fun _ => rfl) L
end Go.AE
namespace Go.AE
set_option linter.unusedVariables false
set_option linter.unusedSimpArgs false
open Go.RowKit
def resOf (P : Program) (fn : Func) : List AR := (cRes P fn.results.toList).getD []
def okF (P : Program) (fn : Func) : Bool := (fn.body.bind (cCode P)).isSome && (cRes P fn.results.toList).isSome
def st0 (fn : Func) (args : List V) : St := ⟨args ++ List.replicate (fn.ntmps - args.length) (.t []), []⟩
def endF (ρ : List Nat) (keep : List Bool) (rs : List AR) (e : X) (st : St) : Tr := match e with
  | .ret => finT rs .ret st
  | e => .done e (proj ρ keep st)
section
variable {P : Program} {G : Nat → Option Obj}
def KF (v : V) (K : X → St → Prop) (e : X) (st : St) : Prop := match e with
  | .ret => ∃ x, st.t = [x] ∧ VLe x v
  | e => K e st
def RK (P : Program) (G : Nat → Option Obj) (rs : List AR) (v : V) (K : X → St → Prop) (e : X) (st : St) : Prop := match e with
  | .ret => (finT rs .ret st).holds P G fun _ s => ∃ x, s.t = [x] ∧ VLe x v
  | e => K e st
def ExF (P : Program) (G : Nat → Option Obj) (rs : List AR) (ac : ACode) (st : St) (v : V) (K : X → St → Prop) : Prop := ExA P G ac st (RK P G rs v K)
theorem ret_conv {rs : List AR} {v : V} {K : X → St → Prop} {st' : St} (hk : (finT rs .ret st').holds P G (KF v K)) : (finT rs .ret st').holds P G fun _ s => ∃ x, s.t = [x] ∧ VLe x v := by
  have key : ∀ (l : List AR) (g : List V1 → List V1), (resL st' l fun vs => .done .ret ⟨[oneV (g vs)], []⟩).holds P G (KF v K) → (resL st' l fun vs => .done .ret ⟨[oneV (g vs)], []⟩).holds P G fun _ s => ∃ x, s.t = [x] ∧ VLe x v := by
    have kc : ∀ (c : C) (k : PV → Tr), (frzC st'.h c k).holds P G (KF v K) → (∀ p, (k p).holds P G (KF v K) → (k p).holds P G fun _ s => ∃ x, s.t = [x] ∧ VLe x v) → (frzC st'.h c k).holds P G fun _ s => ∃ x, s.t = [x] ∧ VLe x v := by
      intro c k h hk
      cases c with
      | p x => exact hk _ h
      | sl id sz off len =>
        simp only [frzC] at h ⊢
        split at h
        · obtain ⟨c1, c2, c3⟩ := chk_true h
          simp only [c1, chk]
          exact ⟨c2, hk _ c3⟩
        · exact h.elim
      | _ => exact h.elim
    have kl : ∀ (cs : List C) (k : List PV → Tr), (frzL st'.h cs k).holds P G (KF v K) → (∀ p, (k p).holds P G (KF v K) → (k p).holds P G fun _ s => ∃ x, s.t = [x] ∧ VLe x v) → (frzL st'.h cs k).holds P G fun _ s => ∃ x, s.t = [x] ∧ VLe x v := by
      intro cs
      induction cs with
      | nil => exact fun k h hk => hk _ h
      | cons c cs ih => exact fun k h hk => kc c _ h fun p hp => ih _ hp fun ps hps => hk _ hps
    have kv : ∀ (x : V1) (k : V1 → Tr), (frzV st'.h x k).holds P G (KF v K) → (∀ p, (k p).holds P G (KF v K) → (k p).holds P G fun _ s => ∃ x, s.t = [x] ∧ VLe x v) → (frzV st'.h x k).holds P G fun _ s => ∃ x, s.t = [x] ∧ VLe x v := by
      intro x k h hk
      cases x with
      | c c => exact kc c _ h fun p hp => hk _ hp
      | a cs => exact kl cs _ h fun p hp => hk _ hp
    intro l
    induction l with
    | nil => exact fun g h => h
    | cons r l ih =>
      intro g h
      have step : ∀ x : V1, (frzV st'.h x fun v' => resL st' l fun vs => .done .ret ⟨[oneV (g (v' :: vs))], []⟩).holds P G (KF v K) → (frzV st'.h x fun v' => resL st' l fun vs => .done .ret ⟨[oneV (g (v' :: vs))], []⟩).holds P G fun _ s => ∃ x, s.t = [x] ∧ VLe x v :=
        fun x hx => kv x _ hx fun p hp => ih (fun vs => g (p :: vs)) hp
      simp only [resL] at h ⊢
      cases r with
      | tmp t =>
        simp only [rawR] at h ⊢
        split at h
        · exact step _ h
        · exact h.elim
      | cell t n =>
        simp only [rawR] at h ⊢
        split at h
        · split at h
          · obtain ⟨c1, c2⟩ := chk_true h
            simp only [c1, chk]
            split at c2
            · exact step _ c2
            · exact c2.elim
          · exact h.elim
        · exact h.elim
      | new t =>
        simp only [rawR] at h ⊢
        split at h
        · exact step _ h
        · exact step _ h
        · exact h.elim
  exact key rs id hk
theorem ExF.ev {ext : Ext} (hext : SoundExt P G ext) {rs : List AR} {ac : ACode} {st : St} {v : V} {K : X → St → Prop} (ρ : List Nat) (keep : List Bool) (hn : noDup ρ = true) {tree : Tr} (ht : exT ext ac st (endF ρ keep rs) = tree) (h : tree.holds P G (KF v K)) : ExF P G rs ac st v K := by
  subst ht
  refine ExA.post ((ExA.ev hext h).mono fun e st' hk => ?_)
  cases e with
  | ret => exact ⟨st', fun β R a w hs => ⟨β, R, hs, Fr.refl _ _ _, fun _ hb => hb⟩, ret_conv hk⟩
  | normal => exact ⟨_, weak_proj ρ keep hn st', hk⟩
  | exit id => exact ⟨_, weak_proj ρ keep hn st', hk⟩
theorem ExF.pre {rs : List AR} {ac : ACode} {st st2 : St} {v : V} {K : X → St → Prop} (hw : WeakS G st st2) (h : ExF P G rs ac st2 v K) : ExF P G rs ac st v K := ExA.pre hw h
theorem ExF.mono {rs : List AR} {ac : ACode} {st : St} {v : V} {K K' : X → St → Prop} (h : ExF P G rs ac st v K) (hk : ∀ e st, e ≠ .ret → K e st → K' e st) : ExF P G rs ac st v K' :=
  ExA.mono h fun e st q => by
    cases e with
    | ret => exact q
    | normal => exact hk _ _ (by simp) q
    | exit id => exact hk _ _ (by simp) q
theorem ExF.seq {rs : List AR} {a b : ACode} {st : St} {v : V} {K1 K : X → St → Prop} (h : ExF P G rs a st v K1) (hn : ∀ st', K1 .normal st' → ExF P G rs b st' v K) (hx : ∀ id st', K1 (.exit id) st' → K (.exit id) st') : ExF P G rs (.seq a b) st v K :=
  ExA.seq h hn fun e st' he q => by
    cases e with
    | normal => exact absurd rfl he
    | ret => exact q
    | exit id => exact hx id st' q
theorem ExF.block {rs : List AR} {id : Nat} {a : ACode} {st : St} {v : V} {K : X → St → Prop} (h : ExF P G rs a st v fun e st' => match e with
    | .exit j => if j = id then K .normal st' else K (.exit j) st'
    | e => K e st') : ExF P G rs (.block id a) st v K :=
  ExA.block (ExA.mono h fun e st' q => by
    cases e with
    | normal => exact q
    | ret => exact q
    | exit j => exact q)
theorem ExF.loop {rs : List AR} {a : ACode} {v : V} {K : X → St → Prop} {σ : Type} (C : σ → St) (I : σ → Prop) (μ : σ → Nat) (s0 : σ) (hI : I s0)
    (step : ∀ s, I s → ExF P G rs a (C s) v fun e st' => match e with
      | .normal => ∃ s', I s' ∧ μ s' < μ s ∧ WeakS G st' (C s')
      | e => K e st') : ExF P G rs (.loop a) (C s0) v K :=
  ExA.loop C I μ s0 hI fun s hs => ExA.mono (step s hs) fun e st' q => by
    cases e with
    | normal => exact q
    | ret => exact q
    | exit j => exact q
theorem fn_F {f : FuncId} {fn : Func} (hf : P.funcs[f]? = some fn) (hok : okF P fn = true) {args : List V} (hp : pureAll args = true) {v : V} (h : ExF P G (resOf P fn) (codeOf P fn) (st0 fn args) v fun _ _ => False) (h0 : List AO) :
    FnS P G f args h0 fun x h' => x = v ∧ h' = h0 := by
  unfold okF at hok
  simp only [Bool.and_eq_true, Option.isSome_iff_exists] at hok
  obtain ⟨⟨c, hc⟩, rs, hr⟩ := hok
  have e1 : codeOf P fn = c := by unfold codeOf; rw [hc]; rfl
  have e2 : resOf P fn = rs := by unfold resOf; rw [hr]; rfl
  refine fn_le hf (by rw [hc, e1]) hr rfl hp ?_ h0
  refine ExA.mono h fun e st q => ?_
  rw [e2] at q
  cases e with
  | ret => exact q
  | normal => exact q.elim
  | exit id => exact q.elim
theorem fn_T {ext : Ext} (hext : SoundExt P G ext) {f : FuncId} {fn : Func} (hf : P.funcs[f]? = some fn) (hok : okF P fn = true) {args : List V} (hp : pureAll args = true) {v : V} {tree : Tr} (ht : exT ext (codeOf P fn) (st0 fn args) (endF [] [] (resOf P fn)) = tree)
    (h : tree.holds P G (KF v fun _ _ => False)) (h0 : List AO) : FnS P G f args h0 fun x h' => x = v ∧ h' = h0 :=
  fn_F hf hok hp (ExF.ev hext [] [] rfl ht h) h0
end
end Go.AE
namespace Go.AE
set_option linter.unusedVariables false
set_option linter.unusedSimpArgs false
open Go.RowKit
def appA : List ACode → List ACode → List ACode
  | [], m => m
  | c :: r, m => c :: appA r m
def flat : ACode → List ACode
  | .seq a b => appA (flat a) (flat b)
  | c => [c]
noncomputable def exTs (Fn : Ext) : List ACode → St → (X → St → Tr) → Tr
  | [], st, K => K .normal st
  | c :: r, st, K => exT Fn c st fun e st' => match e with
    | .normal => exTs Fn r st' K
    | e => K e st'
def pcs (P : Program) (fn : Func) : List ACode := flat (codeOf P fn)
def lpB (l : List ACode) (n : Nat) : List ACode := flat (inr (inr (nth .skip l n)))
section
variable {P : Program} {G : Nat → Option Obj}
def ExS (P : Program) (G : Nat → Option Obj) (rs : List AR) (v : V) : List ACode → St → (X → St → Prop) → Prop
  | [], st, Q => ∃ st2, WeakS G st st2 ∧ Q .normal st2
  | c :: r, st, Q => ExF P G rs c st v fun e st' => match e with
    | .normal => ExS P G rs v r st' Q
    | e => Q e st'
variable {rs : List AR} {v : V}
theorem WeakS.refl (st : St) : WeakS G st st := fun β R _ _ hs => ⟨β, R, hs, Fr.refl _ _ _, fun _ hb => hb⟩
theorem ExF.post {ac : ACode} {st : St} {K : X → St → Prop} (h : ExF P G rs ac st v fun e st' => ∃ st2, WeakS G st' st2 ∧ K e st2) : ExF P G rs ac st v K := by
  refine ExA.post (ExA.mono h fun e st' hk => ?_)
  cases e with
  | ret => exact ⟨st', WeakS.refl st', hk⟩
  | normal => exact hk
  | exit id => exact hk
theorem ExS.mono : ∀ {l : List ACode} {st : St} {Q Q' : X → St → Prop}, ExS P G rs v l st Q → (∀ e st, e ≠ .ret → Q e st → Q' e st) → ExS P G rs v l st Q'
  | [], _, _, _, ⟨st2, h1, h2⟩, hq => ⟨st2, h1, hq _ _ (by simp) h2⟩
  | _ :: _, _, _, _, h, hq => ExF.mono h fun e st' he q => by
    cases e with
    | normal => exact ExS.mono q hq
    | ret => exact absurd rfl he
    | exit id => exact hq _ _ he q
theorem ExS.pre {l : List ACode} {st st2 : St} {Q : X → St → Prop} (hw : WeakS G st st2) (h : ExS P G rs v l st2 Q) : ExS P G rs v l st Q := by
  cases l with
  | nil => obtain ⟨st3, h1, h2⟩ := h; exact ⟨st3, hw.trans h1, h2⟩
  | cons c r => exact ExF.pre hw h
theorem ExS.cut : ∀ {a b : List ACode} {st : St} {Q : X → St → Prop}, ExS P G rs v (appA a b) st Q → ExS P G rs v a st fun e st' => match e with
    | .normal => ExS P G rs v b st' Q
    | e => Q e st'
  | [], _, st, _, h => ⟨st, WeakS.refl st, h⟩
  | _ :: _, _, _, _, h => ExF.mono h fun e st' _ q => by
    cases e with
    | normal => exact ExS.cut q
    | ret => exact q
    | exit id => exact q
theorem ExS.glue : ∀ {a b : List ACode} {st : St} {Q : X → St → Prop}, (ExS P G rs v a st fun e st' => match e with
    | .normal => ExS P G rs v b st' Q
    | e => Q e st') → ExS P G rs v (appA a b) st Q
  | [], _, _, _, ⟨_, h1, h2⟩ => ExS.pre h1 h2
  | _ :: _, _, _, _, h => ExF.mono h fun e st' _ q => by
    cases e with
    | normal => exact ExS.glue q
    | ret => exact q
    | exit id => exact q
theorem ExS.code : ∀ {c : ACode} {st : St} {Q : X → St → Prop}, ExS P G rs v (flat c) st Q → ExF P G rs c st v Q := by
  intro c
  induction c with
  | seq a b iha ihb =>
    intro st Q h
    have h1 := ExS.cut (a := flat a) (b := flat b) h
    refine ExF.seq (iha h1) (fun st' hq => ihb hq) (fun id st' hq => hq)
  | _ =>
    intro st Q h
    refine ExF.post (ExF.mono h fun e st' _ q => ?_)
    cases e with
    | normal => exact q
    | ret => exact ⟨st', WeakS.refl st', q⟩
    | exit id => exact ⟨st', WeakS.refl st', q⟩
theorem endF_conv {ρ : List Nat} {keep : List Bool} (hn : noDup ρ = true) {e : X} {st : St} {K : X → St → Prop} (h : (endF ρ keep rs e st).holds P G (KF v K)) : ∃ st2, WeakS G st st2 ∧ RK P G rs v K e st2 := by
  cases e with
  | ret => exact ⟨st, WeakS.refl st, ret_conv h⟩
  | normal => exact ⟨_, weak_proj ρ keep hn st, h⟩
  | exit id => exact ⟨_, weak_proj ρ keep hn st, h⟩
theorem exTs_sound {ext : Ext} (hext : SoundExt P G ext) {ρ : List Nat} {keep : List Bool} (hn : noDup ρ = true) : ∀ {l : List ACode} {st : St} {K : X → St → Prop}, (exTs ext l st (endF ρ keep rs)).holds P G (KF v K) → ExS P G rs v l st K
  | [], st, K, h => endF_conv hn h
  | c :: r, st, K, h => by
    have h1 := ExA.ev hext h
    refine ExF.post ?_
    refine ExA.post (ExA.mono h1 fun e st' q => ?_)
    cases e with
    | normal => exact ⟨st', WeakS.refl st', st', WeakS.refl st', exTs_sound hext hn q⟩
    | ret =>
      obtain ⟨st2, q1, q2⟩ := endF_conv hn q
      exact ⟨st2, q1, q2⟩
    | exit id =>
      obtain ⟨st2, q1, q2⟩ := endF_conv hn q
      exact ⟨st2, q1, st2, WeakS.refl st2, q2⟩
theorem takeL_dropL : ∀ (n : Nat) (l : List ACode), appA (takeL n l) (dropL n l) = l
  | 0, l => by cases l <;> rfl
  | n + 1, [] => rfl
  | n + 1, c :: r => by simp [takeL, dropL, appA, takeL_dropL n r]
theorem ExS.ev {ext : Ext} (hext : SoundExt P G ext) (n : Nat) (ρ : List Nat) (keep : List Bool) (hn : noDup ρ = true) {l : List ACode} {st : St} {Q : X → St → Prop} {tree : Tr} (ht : exTs ext (takeL n l) st (endF ρ keep rs) = tree)
    (h : tree.holds P G (KF v fun e st' => match e with
      | .normal => ExS P G rs v (dropL n l) st' Q
      | e => Q e st')) : ExS P G rs v l st Q := by
  rw [← takeL_dropL n l]
  subst ht
  exact ExS.glue (exTs_sound hext hn h)
theorem ExS.evA {ext : Ext} (hext : SoundExt P G ext) (ρ : List Nat) (keep : List Bool) (hn : noDup ρ = true) {l : List ACode} {st : St} {Q : X → St → Prop} {tree : Tr} (ht : exTs ext l st (endF ρ keep rs) = tree)
    (h : tree.holds P G (KF v Q)) : ExS P G rs v l st Q := by
  subst ht
  exact exTs_sound hext hn h
theorem ExS.loop {id : Nat} {b : ACode} {l r : List ACode} {st : St} {Q : X → St → Prop} (hl : l = .block id (.loop b) :: r) {σ : Type} (C : σ → St) (I : σ → Prop) (μ : σ → Nat) (s0 : σ) (hI : I s0) (hw : WeakS G st (C s0))
    (step : ∀ s, I s → ExS P G rs v (flat b) (C s) fun e st' => match e with
      | .normal => ∃ s', I s' ∧ μ s' < μ s ∧ WeakS G st' (C s')
      | .exit j => if j = id then ExS P G rs v r st' Q else Q (.exit j) st'
      | .ret => True) : ExS P G rs v l st Q := by
  subst hl
  refine ExF.pre hw (ExF.block ?_)
  refine ExF.loop C I μ s0 hI fun s hs => ?_
  refine ExF.mono (ExS.code (step s hs)) fun e st' he q => ?_
  cases e with
  | normal => exact q
  | exit j => exact q
  | ret => exact absurd rfl he
theorem fn_S {f : FuncId} {fn : Func} (hf : P.funcs[f]? = some fn) (hok : okF P fn = true) {args : List V} (hp : pureAll args = true) {v : V} (h : ExS P G (resOf P fn) v (pcs P fn) (st0 fn args) fun _ _ => False) (h0 : List AO) :
    FnS P G f args h0 fun x h' => x = v ∧ h' = h0 := fn_F hf hok hp (ExS.code h) h0
end
end Go.AE
namespace Go.AE
set_option linter.unusedVariables false
set_option linter.unusedSimpArgs false
open Go.RowKit
def slotAt (j : Nat) : List (Nat × V) → V
  | [] => .c .top
  | (i, v) :: r => match Nat.beq i j with
    | true => v
    | false => slotAt j r
def fillT : Nat → Nat → List (Nat × V) → List V
  | 0, _, _ => []
  | n + 1, j, l => slotAt j l :: fillT n (j + 1) l
def cst (n : Nat) (l : List (Nat × V)) (h : List AO) : St := ⟨fillT n 0 l, h⟩
def mskT : Nat → Nat → List Nat → List Bool
  | 0, _, _ => []
  | n + 1, j, l => memN j l :: mskT n (j + 1) l
def msk (n : Nat) (l : List Nat) : List Bool := mskT n 0 l
abbrev ModH := List V → List AO → Option (Prop × V × List AO)
def extH : List (FuncId × ModH) → Ext
  | [], _, _, _, _ => .fail
  | (g, m) :: r, f, args, h, k => match Nat.beq g f with
    | true => match m args h with
      | some (p, v, h') => .rq p (k v h')
      | none => .fail
    | false => extH r f args h k
structure Leaf (p : Prop) : Prop where
  h : p
section
variable {P : Program} {G : Nat → Option Obj}
theorem holds_leaf {e : X} {st : St} {K : X → St → Prop} : (Tr.done e st).holds P G K ↔ Leaf (K e st) := ⟨fun h => ⟨h⟩, fun h => h.h⟩
theorem kf_exit {v : V} {K : X → St → Prop} {j : Nat} {st : St} : KF v K (.exit j) st ↔ K (.exit j) st := Iff.rfl
theorem kf_normal {v : V} {K : X → St → Prop} {st : St} : KF v K .normal st ↔ K .normal st := Iff.rfl
theorem kf_ret' {v x : V} {K : X → St → Prop} {h : List AO} : KF v K .ret ⟨[x], h⟩ ↔ VLe x v := ⟨fun ⟨_, h1, h2⟩ => by injection h1 with h1; exact h1 ▸ h2, fun h => ⟨x, rfl, h⟩⟩
theorem weak_of_eq {st st' : St} (h : st = st') : WeakS G st st' := h ▸ WeakS.refl st
def ModHOK (P : Program) (G : Nat → Option Obj) (f : FuncId) (m : ModH) : Prop := ∀ args h p v h', m args h = some (p, v, h') → p → FnS P G f args h fun x h2 => x = v ∧ h2 = h'
theorem extH_sound : ∀ {l : List (FuncId × ModH)}, (∀ e ∈ l, ModHOK P G e.1 e.2) → SoundExt P G (extH l)
  | [], _ => ⟨fun _ _ _ _ _ h => h.elim, fun _ _ _ _ _ h => h.elim⟩
  | (g, m) :: r, hl => by
    have ih := extH_sound (l := r) fun e he => hl e (List.mem_cons_of_mem _ he)
    have h0 : ModHOK P G g m := hl (g, m) (List.mem_cons_self ..)
    refine ⟨?_, ?_⟩
    · intro f args h k K hh
      simp only [extH] at hh
      split at hh
      · rename_i hb
        obtain rfl := Nat.eq_of_beq_eq_true hb
        split at hh
        · rename_i p v h' hm
          exact (h0 args h p v h' hm hh.1).mono fun x h2 ⟨e1, e2⟩ => by rw [e1, e2]; exact hh.2
        · exact hh.elim
      · exact ih.fn _ _ _ _ _ hh
    · intro f args h k K hh
      simp only [extH] at hh ⊢
      split at hh
      · rename_i hb
        split at hh
        · rename_i p v h' hm
          exact ⟨v, h', hh.2, fun k' K' hk => ⟨hh.1, hk⟩⟩
        · exact hh.elim
      · exact ih.val _ _ _ _ _ hh
end
end Go.AE
namespace Go.AE
set_option linter.unusedVariables false
set_option linter.unusedSimpArgs false
open Go.RowKit
section
variable {P : Program} {G : Nat → Option Obj} {β β' : Bt} {R R' : Nat → Prop} {w w' : World}
theorem ExS.blk {rs : List AR} {v : V} {id : Nat} {a : ACode} {l r : List ACode} {st : St} {Q : X → St → Prop} (hl : l = .block id a :: r) (h : ExS P G rs v (flat a) st fun e st' => match e with
      | .normal => ExS P G rs v r st' Q
      | .exit j => if j = id then ExS P G rs v r st' Q else Q (.exit j) st'
      | .ret => True) : ExS P G rs v l st Q := by
  subst hl
  refine ExF.block (ExF.mono (ExS.code h) fun e st' he q => ?_)
  cases e with
  | normal => exact q
  | exit j => exact q
  | ret => exact absurd rfl he
theorem ExS.loop' {rs : List AR} {v : V} {id : Nat} {b : ACode} {l r : List ACode} {st : St} {Q : X → St → Prop} (hl : l = .block id (.loop b) :: r) {σ : Type} (C : σ → St) (I : σ → Prop) (μ : σ → Nat) (s0 : σ) (hI : I s0) (hw : WeakS G st (C s0))
    (step : ∀ s, I s → ∀ Q' : X → St → Prop, (∀ s' st', I s' → μ s' < μ s → WeakS G st' (C s') → Q' .normal st') → (∀ st', ExS P G rs v r st' Q → Q' (.exit id) st') → (∀ j st', j ≠ id → Q (.exit j) st' → Q' (.exit j) st') → ExS P G rs v (flat b) (C s) Q') : ExS P G rs v l st Q :=
  ExS.loop hl C I μ s0 hI hw fun s hs => step s hs _ (fun s' _ h1 h2 h3 => ⟨s', h1, h2, h3⟩) (fun _ h => by simpa using h) (fun j _ hj h => by simpa [hj] using h)
theorem ExS.blk' {rs : List AR} {v : V} {id : Nat} {a : ACode} {l r : List ACode} {st : St} {Q : X → St → Prop} (hl : l = .block id a :: r)
    (h : ∀ Q' : X → St → Prop, (∀ st', ExS P G rs v r st' Q → Q' .normal st') → (∀ st', ExS P G rs v r st' Q → Q' (.exit id) st') → (∀ j st', j ≠ id → Q (.exit j) st' → Q' (.exit j) st') → ExS P G rs v (flat a) st Q') : ExS P G rs v l st Q :=
  ExS.blk hl (h _ (fun _ h => h) (fun _ h => by simpa using h) (fun j _ hj h => by simpa [hj] using h))
end
end Go.AE
namespace Go.AE
set_option linter.unusedVariables false
set_option linter.unusedSimpArgs false
open Go.RowKit
def idC : C → Option Nat
  | .ptr id _ => some id
  | .rp id _ _ _ => some id
  | .sl id _ _ _ => some id
  | .mp id => some id
  | _ => none
def addN (o : Option Nat) (l : List Nat) : List Nat := match o with
  | some id => match memN id l with
    | true => l
    | false => snoc id l
  | none => l
def idsC : List C → List Nat → List Nat
  | [], l => l
  | c :: r, l => idsC r (addN (idC c) l)
def idsT : List Bool → List V → List Nat → List Nat
  | true :: k, .c x :: r, l => idsT k r (addN (idC x) l)
  | true :: k, .a cs :: r, l => idsT k r (idsC cs l)
  | _ :: k, _ :: r, l => idsT k r l
  | _, _, l => l
def idsH (h : List AO) : List Nat → List Nat → List Nat
  | [], l => l
  | id :: r, l => match nth .gone h id with
    | .cells _ vs => idsH h r (idsC vs l)
    | .foc _ _ _ _ vs _ => idsH h r (idsC vs l)
    | .mapl _ _ _ _ (some (_, c)) => idsH h r (addN (idC c) l)
    | .pin j _ => idsH h r (addN (some j) l)
    | _ => idsH h r l
def idsG (h : List AO) (l : List Nat) : List Nat := idsH h l l
def aut (keep : List Bool) (st : St) : List Nat := idsG st.h (idsG st.h (idsG st.h (idsT keep st.t [])))
def gcS (keep : List Bool) (st : St) : St := match noDup (aut keep st) with
  | true => proj (aut keep st) keep st
  | false => st
def endG (keep : List Bool) (rs : List AR) (e : X) (st : St) : Tr := match e with
  | .ret => finT rs .ret st
  | e => .done e (gcS keep st)
section
variable {P : Program} {G : Nat → Option Obj} {rs : List AR} {v : V}
theorem weak_gc (keep : List Bool) (st : St) : WeakS G st (gcS keep st) := by
  unfold gcS
  split
  · rename_i h; exact weak_proj _ keep h st
  · exact WeakS.refl st
theorem endG_conv {keep : List Bool} {e : X} {st : St} {K : X → St → Prop} (h : (endG keep rs e st).holds P G (KF v K)) : ∃ st2, WeakS G st st2 ∧ RK P G rs v K e st2 := by
  cases e with
  | ret => exact ⟨st, WeakS.refl st, ret_conv h⟩
  | normal => exact ⟨_, weak_gc keep st, h⟩
  | exit id => exact ⟨_, weak_gc keep st, h⟩
theorem exTs_soundG {ext : Ext} (hext : SoundExt P G ext) {keep : List Bool} : ∀ {l : List ACode} {st : St} {K : X → St → Prop}, (exTs ext l st (endG keep rs)).holds P G (KF v K) → ExS P G rs v l st K
  | [], st, K, h => endG_conv h
  | c :: r, st, K, h => by
    have h1 := ExA.ev hext h
    refine ExF.post ?_
    refine ExA.post (ExA.mono h1 fun e st' q => ?_)
    cases e with
    | normal => exact ⟨st', WeakS.refl st', st', WeakS.refl st', exTs_soundG hext q⟩
    | ret =>
      obtain ⟨st2, q1, q2⟩ := endG_conv q
      exact ⟨st2, q1, q2⟩
    | exit id =>
      obtain ⟨st2, q1, q2⟩ := endG_conv q
      exact ⟨st2, q1, st2, WeakS.refl st2, q2⟩
theorem ExS.evG {ext : Ext} (hext : SoundExt P G ext) (n : Nat) {keep : List Bool} {l : List ACode} {st : St} {Q : X → St → Prop} {tree : Tr} (ht : exTs ext (takeL n l) st (endG keep rs) = tree)
    (h : tree.holds P G (KF v fun e st' => match e with
      | .normal => ExS P G rs v (dropL n l) st' Q
      | e => Q e st')) : ExS P G rs v l st Q := by
  rw [← takeL_dropL n l]
  subst ht
  exact ExS.glue (exTs_soundG hext h)
theorem ExS.evH {ext : Ext} (hext : SoundExt P G ext) {keep : List Bool} {l : List ACode} {st : St} {Q : X → St → Prop} {tree : Tr} (ht : exTs ext l st (endG keep rs) = tree) (h : tree.holds P G (KF v Q)) : ExS P G rs v l st Q := by
  subst ht
  exact exTs_soundG hext h
end
end Go.AE
namespace Go.AE
set_option linter.unusedVariables false
set_option linter.unusedSimpArgs false
open Go.RowKit
section
variable {P : Program} {G : Nat → Option Obj}
end
end Go.AE
