/- AE, part 34: triples of codes with a free end. -/
import Derived.Test.YtfjihbmehhccoaaAe31
namespace Go.AE
set_option linter.unusedVariables false
set_option linter.unusedSimpArgs false
open Go.RowKit

def allT {α : Type} : List α → List Bool
  | [] => []
  | _ :: r => true :: allT r
def rawV (st : St) : AR → Option V
  | .tmp t => match nth (.c .top) st.t t with
    | .t _ => none
    | v => some v
  | .cell t n => match nth (.c .top) st.t t with
    | .c (.ptr id off) => match nth .gone st.h id with
      | .cells _ vs => match Nat.ble (off + nOf n) (lenL vs) with
        | true => match ldN (nth .top vs) off n with
          | .t _ => none
          | v => some v
        | false => none
      | _ => none
    | _ => none
  | .new _ => none
def rawVs (st : St) : List AR → Option (List V)
  | [] => some []
  | r :: l => match rawV st r with
    | some v => match rawVs st l with
      | some vs => some (v :: vs)
      | none => none
    | none => none
def slotsL (st : St) : List Nat → List V → List V
  | [], vs => vs
  | j :: r, vs => nth (.c .top) st.t j :: slotsL st r vs
/-- The end of a method: the slots ps, the results, and memory. -/
def endSt (ps : List Nat) (vs : List V) (st : St) : St := gcS (allT (slotsL st ps vs)) ⟨slotsL st ps vs, st.h⟩
def endM (ps : List Nat) (keep : List Bool) (rs : List AR) (e : X) (st : St) : Tr := match e with
  | .ret => match rawVs st rs with
    | some vs => .done .ret (endSt ps vs st)
    | none => .fail
  | e => .done e (gcS keep st)
section
variable {P : Program} {G : Nat → Option Obj}
def Zm (ps : List Nat) (rs : List AR) (Z0 : St → Prop) (st : St) : Prop := ∃ vs, rawVs st rs = some vs ∧ Z0 (endSt ps vs st)
def KFZ (Z0 : St → Prop) (K : X → St → Prop) (e : X) (st : St) : Prop := match e with
  | .ret => Z0 st
  | e => K e st
theorem kz_exit {Z : St → Prop} {K : X → St → Prop} {j : Nat} {st : St} : KFZ Z K (.exit j) st ↔ K (.exit j) st := Iff.rfl
theorem kz_normal {Z : St → Prop} {K : X → St → Prop} {st : St} : KFZ Z K .normal st ↔ K .normal st := Iff.rfl
theorem kz_ret {Z : St → Prop} {K : X → St → Prop} {st : St} : KFZ Z K .ret st ↔ Z st := Iff.rfl
def ExFZ (P : Program) (G : Nat → Option Obj) (Z : St → Prop) (ac : ACode) (st : St) (K : X → St → Prop) : Prop := ExA P G ac st (KFZ Z K)
def ExZ (P : Program) (G : Nat → Option Obj) (Z : St → Prop) : List ACode → St → (X → St → Prop) → Prop
  | [], st, Q => ∃ st2, WeakS G st st2 ∧ Q .normal st2
  | c :: r, st, Q => ExFZ P G Z c st fun e st' => match e with
    | .normal => ExZ P G Z r st' Q
    | e => Q e st'
variable {Z : St → Prop}
theorem ExFZ.pre {ac : ACode} {st st2 : St} {K : X → St → Prop} (hw : WeakS G st st2) (h : ExFZ P G Z ac st2 K) : ExFZ P G Z ac st K := ExA.pre hw h
theorem ExFZ.mono {ac : ACode} {st : St} {K K' : X → St → Prop} (h : ExFZ P G Z ac st K) (hk : ∀ e st, e ≠ .ret → K e st → K' e st) : ExFZ P G Z ac st K' :=
  ExA.mono h fun e st q => by
    cases e with
    | ret => exact q
    | normal => exact hk _ _ (by simp) q
    | exit id => exact hk _ _ (by simp) q
theorem ExFZ.seq {a b : ACode} {st : St} {K1 K : X → St → Prop} (h : ExFZ P G Z a st K1) (hn : ∀ st', K1 .normal st' → ExFZ P G Z b st' K) (hx : ∀ id st', K1 (.exit id) st' → K (.exit id) st') : ExFZ P G Z (.seq a b) st K :=
  ExA.seq h hn fun e st' he q => by
    cases e with
    | normal => exact absurd rfl he
    | ret => exact q
    | exit id => exact hx id st' q
theorem ExFZ.block {id : Nat} {a : ACode} {st : St} {K : X → St → Prop} (h : ExFZ P G Z a st fun e st' => match e with
    | .exit j => if j = id then K .normal st' else K (.exit j) st'
    | e => K e st') : ExFZ P G Z (.block id a) st K :=
  ExA.block (ExA.mono h fun e st' q => by
    cases e with
    | normal => exact q
    | ret => exact q
    | exit j =>
      show if j = id then KFZ Z K .normal st' else KFZ Z K (.exit j) st'
      exact q)
theorem ExFZ.loop {a : ACode} {K : X → St → Prop} {σ : Type} (C : σ → St) (I : σ → Prop) (μ : σ → Nat) (s0 : σ) (hI : I s0)
    (step : ∀ s, I s → ExFZ P G Z a (C s) fun e st' => match e with
      | .normal => ∃ s', I s' ∧ μ s' < μ s ∧ WeakS G st' (C s')
      | e => K e st') : ExFZ P G Z (.loop a) (C s0) K :=
  ExA.loop C I μ s0 hI fun s hs => ExA.mono (step s hs) fun e st' q => by
    cases e with
    | normal => exact q
    | ret => exact q
    | exit j => exact q
theorem ExFZ.post {ac : ACode} {st : St} {K : X → St → Prop} (h : ExFZ P G Z ac st fun e st' => ∃ st2, WeakS G st' st2 ∧ K e st2) : ExFZ P G Z ac st K := by
  refine ExA.post (ExA.mono h fun e st' hk => ?_)
  cases e with
  | ret => exact ⟨st', WeakS.refl st', hk⟩
  | normal => exact hk
  | exit id => exact hk
theorem ExZ.pre {l : List ACode} {st st2 : St} {Q : X → St → Prop} (hw : WeakS G st st2) (h : ExZ P G Z l st2 Q) : ExZ P G Z l st Q := by
  cases l with
  | nil => obtain ⟨st3, h1, h2⟩ := h; exact ⟨st3, hw.trans h1, h2⟩
  | cons c r => exact ExFZ.pre hw h
theorem ExZ.mono : ∀ {l : List ACode} {st : St} {Q Q' : X → St → Prop}, ExZ P G Z l st Q → (∀ e st, e ≠ .ret → Q e st → Q' e st) → ExZ P G Z l st Q'
  | [], _, _, _, ⟨st2, h1, h2⟩, hq => ⟨st2, h1, hq _ _ (by simp) h2⟩
  | _ :: _, _, _, _, h, hq => ExFZ.mono h fun e st' he q => by
    cases e with
    | normal => exact ExZ.mono q hq
    | ret => exact absurd rfl he
    | exit id => exact hq _ _ he q
theorem ExZ.cut : ∀ {a b : List ACode} {st : St} {Q : X → St → Prop}, ExZ P G Z (appA a b) st Q → ExZ P G Z a st fun e st' => match e with
    | .normal => ExZ P G Z b st' Q
    | e => Q e st'
  | [], _, st, _, h => ⟨st, WeakS.refl st, h⟩
  | _ :: _, _, _, _, h => ExFZ.mono h fun e st' _ q => by
    cases e with
    | normal => exact ExZ.cut q
    | ret => exact q
    | exit id => exact q
theorem ExZ.glue : ∀ {a b : List ACode} {st : St} {Q : X → St → Prop}, (ExZ P G Z a st fun e st' => match e with
    | .normal => ExZ P G Z b st' Q
    | e => Q e st') → ExZ P G Z (appA a b) st Q
  | [], _, _, _, ⟨_, h1, h2⟩ => ExZ.pre h1 h2
  | _ :: _, _, _, _, h => ExFZ.mono h fun e st' _ q => by
    cases e with
    | normal => exact ExZ.glue q
    | ret => exact q
    | exit id => exact q
theorem ExZ.code : ∀ {c : ACode} {st : St} {Q : X → St → Prop}, ExZ P G Z (flat c) st Q → ExFZ P G Z c st Q := by
  intro c
  induction c with
  | seq a b iha ihb =>
    intro st Q h
    have h1 := ExZ.cut (a := flat a) (b := flat b) h
    refine ExFZ.seq (iha h1) (fun st' hq => ihb hq) (fun id st' hq => hq)
  | _ =>
    intro st Q h
    refine ExFZ.post (ExFZ.mono h fun e st' _ q => ?_)
    cases e with
    | normal => exact q
    | ret => exact ⟨st', WeakS.refl st', q⟩
    | exit id => exact ⟨st', WeakS.refl st', q⟩
theorem endM_conv {ps : List Nat} {keep : List Bool} {rs : List AR} {Z0 : St → Prop} {e : X} {st : St} {K : X → St → Prop} (h : (endM ps keep rs e st).holds P G (KFZ Z0 K)) : ∃ st2, WeakS G st st2 ∧ KFZ (Zm ps rs Z0) K e st2 := by
  cases e with
  | ret =>
    refine ⟨st, WeakS.refl st, ?_⟩
    unfold endM at h
    dsimp only at h
    split at h
    · rename_i vs hvs; exact ⟨vs, hvs, h⟩
    · exact h.elim
  | normal => exact ⟨_, weak_gc keep st, h⟩
  | exit id => exact ⟨_, weak_gc keep st, h⟩
theorem exTs_soundZ {ext : Ext} (hext : SoundExt P G ext) {ps : List Nat} {keep : List Bool} {rs : List AR} {Z0 : St → Prop} : ∀ {l : List ACode} {st : St} {K : X → St → Prop}, (exTs ext l st (endM ps keep rs)).holds P G (KFZ Z0 K) → ExZ P G (Zm ps rs Z0) l st K
  | [], st, K, h => endM_conv h
  | c :: r, st, K, h => by
    have h1 := ExA.ev hext h
    refine ExFZ.post ?_
    refine ExA.post (ExA.mono h1 fun e st' q => ?_)
    cases e with
    | normal => exact ⟨st', WeakS.refl st', st', WeakS.refl st', exTs_soundZ hext q⟩
    | ret =>
      obtain ⟨st2, q1, q2⟩ := endM_conv q
      exact ⟨st2, q1, q2⟩
    | exit id =>
      obtain ⟨st2, q1, q2⟩ := endM_conv q
      exact ⟨st2, q1, st2, WeakS.refl st2, q2⟩
/-- The first n pieces, by their tree. -/
theorem ExZ.evG {ext : Ext} (hext : SoundExt P G ext) (n : Nat) {ps : List Nat} {keep : List Bool} {rs : List AR} {Z0 : St → Prop} {l : List ACode} {st : St} {Q : X → St → Prop} {tree : Tr} (ht : exTs ext (takeL n l) st (endM ps keep rs) = tree)
    (h : tree.holds P G (KFZ Z0 fun e st' => match e with
      | .normal => ExZ P G (Zm ps rs Z0) (dropL n l) st' Q
      | e => Q e st')) : ExZ P G (Zm ps rs Z0) l st Q := by
  rw [← takeL_dropL n l]
  subst ht
  exact ExZ.glue (exTs_soundZ hext h)
/-- All pieces, by their tree. -/
theorem ExZ.evH {ext : Ext} (hext : SoundExt P G ext) {ps : List Nat} {keep : List Bool} {rs : List AR} {Z0 : St → Prop} {l : List ACode} {st : St} {Q : X → St → Prop} {tree : Tr} (ht : exTs ext l st (endM ps keep rs) = tree) (h : tree.holds P G (KFZ Z0 Q)) : ExZ P G (Zm ps rs Z0) l st Q := by
  subst ht
  exact exTs_soundZ hext h
/-- A loop, then the rest. -/
theorem ExZ.loop {id : Nat} {b : ACode} {l r : List ACode} {st : St} {Q : X → St → Prop} (hl : l = .block id (.loop b) :: r) {σ : Type} (C : σ → St) (I : σ → Prop) (μ : σ → Nat) (s0 : σ) (hI : I s0) (hw : WeakS G st (C s0))
    (step : ∀ s, I s → ExZ P G Z (flat b) (C s) fun e st' => match e with
      | .normal => ∃ s', I s' ∧ μ s' < μ s ∧ WeakS G st' (C s')
      | .exit j => if j = id then ExZ P G Z r st' Q else Q (.exit j) st'
      | .ret => True) : ExZ P G Z l st Q := by
  subst hl
  refine ExFZ.pre hw (ExFZ.block ?_)
  refine ExFZ.loop C I μ s0 hI fun s hs => ?_
  refine ExFZ.mono (ExZ.code (step s hs)) fun e st' he q => ?_
  cases e with
  | normal => exact q
  | exit j => exact q
  | ret => exact absurd rfl he
theorem ExZ.loop' {id : Nat} {b : ACode} {l r : List ACode} {st : St} {Q : X → St → Prop} (hl : l = .block id (.loop b) :: r) {σ : Type} (C : σ → St) (I : σ → Prop) (μ : σ → Nat) (s0 : σ) (hI : I s0) (hw : WeakS G st (C s0))
    (step : ∀ s, I s → ∀ Q' : X → St → Prop, (∀ s' st', I s' → μ s' < μ s → WeakS G st' (C s') → Q' .normal st') → (∀ st', ExZ P G Z r st' Q → Q' (.exit id) st') → (∀ j st', j ≠ id → Q (.exit j) st' → Q' (.exit j) st') → ExZ P G Z (flat b) (C s) Q') : ExZ P G Z l st Q :=
  ExZ.loop hl C I μ s0 hI hw fun s hs => step s hs _ (fun s' _ h1 h2 h3 => ⟨s', h1, h2, h3⟩) (fun _ h => by simpa using h) (fun j _ hj h => by simpa [hj] using h)
/-- A block, then the rest. -/
theorem ExZ.blk {id : Nat} {a : ACode} {l r : List ACode} {st : St} {Q : X → St → Prop} (hl : l = .block id a :: r) (h : ExZ P G Z (flat a) st fun e st' => match e with
      | .normal => ExZ P G Z r st' Q
      | .exit j => if j = id then ExZ P G Z r st' Q else Q (.exit j) st'
      | .ret => True) : ExZ P G Z l st Q := by
  subst hl
  refine ExFZ.block (ExFZ.mono (ExZ.code h) fun e st' he q => ?_)
  cases e with
  | normal => exact q
  | exit j => exact q
  | ret => exact absurd rfl he
theorem ExZ.blk' {id : Nat} {a : ACode} {l r : List ACode} {st : St} {Q : X → St → Prop} (hl : l = .block id a :: r)
    (h : ∀ Q' : X → St → Prop, (∀ st', ExZ P G Z r st' Q → Q' .normal st') → (∀ st', ExZ P G Z r st' Q → Q' (.exit id) st') → (∀ j st', j ≠ id → Q (.exit j) st' → Q' (.exit j) st') → ExZ P G Z (flat a) st Q') : ExZ P G Z l st Q :=
  ExZ.blk hl (h _ (fun _ h => h) (fun _ h => by simpa using h) (fun j _ hj h => by simpa [hj] using h))
/-- A branching, then the rest. -/
theorem ExZ.cond {k : Nat} {a b : ACode} {l r : List ACode} {st : St} {x : Bool} {Q : X → St → Prop} (hl : l = .cond (.t k) a b :: r) (hx : nth (.c .top) st.t k = .c (.p (.b x)))
    (h1 : x = true → ∀ Q' : X → St → Prop, (∀ st, ExZ P G Z r st Q → Q' .normal st) → (∀ j st, Q (.exit j) st → Q' (.exit j) st) → ExZ P G Z (flat a) ⟨upd (.c (.p (.b true))) st.t k, st.h⟩ Q')
    (h2 : x = false → ∀ Q' : X → St → Prop, (∀ st, ExZ P G Z r st Q → Q' .normal st) → (∀ j st, Q (.exit j) st → Q' (.exit j) st) → ExZ P G Z (flat b) ⟨upd (.c (.p (.b false))) st.t k, st.h⟩ Q') : ExZ P G Z l st Q := by
  subst hl
  exact ExA.cond hx (fun e => ExZ.code (h1 e (fun e st' => match e with
    | .normal => ExZ P G Z r st' Q
    | e => Q e st') (fun _ h => h) (fun _ _ h => h))) (fun e => ExZ.code (h2 e (fun e st' => match e with
    | .normal => ExZ P G Z r st' Q
    | e => Q e st') (fun _ h => h) (fun _ _ h => h)))
/-- What the results are. -/
theorem rawVs_sound {β : Bt} {R : Nat → Prop} {w : World} {st : St} {a : Act} (hs : Sim G β R st a w) : ∀ (frs : List ResultVar) (rs : List AR) (_ : cRes P frs = some rs) {vs : List V} (_ : rawVs st rs = some vs),
    ∃ us, (frs.mapM (runR a.tmps)).run P w = .ok us w ∧ All2 (VR β R w) vs us
  | [], rs, hr, vs, h => by
    simp only [cRes, Option.some.injEq] at hr; subst hr
    simp only [rawVs, Option.some.injEq] at h; subst h
    exact ⟨[], by simp, trivial⟩
  | .tmp t :: frs, rs, hr, vs, h => by
    simp only [cRes, Option.map_eq_some_iff] at hr
    obtain ⟨rs', hr, rfl⟩ := hr
    simp only [rawVs] at h
    split at h
    · rename_i v hv
      split at h
      · rename_i vs' hvs
        injection h with h; subst h
        obtain ⟨us, h4, h5⟩ := rawVs_sound hs frs rs' hr hvs
        have hv2 : nth (.c .top) st.t t = v := by
          simp only [rawV] at hv
          split at hv
          · cases hv
          · injection hv
        have h1 := ev_sound (x := .tmp t) hs rfl
        have h1 : VR β R w (nth (.c .top) st.t t) (a.tmps.getD t undef) := h1
        rw [hv2] at h1
        refine ⟨_ :: us, ?_, ⟨h1, h5⟩⟩
        simp [List.mapM_cons, runR, h4]
      · cases h
    · cases h
  | .cell t ty :: frs, rs, hr, vs, h => by
    simp only [cRes, Option.bind_eq_bind, Option.bind_eq_some_iff, Option.pure_def, Option.some.injEq] at hr
    obtain ⟨n, hn, rs', hr, rfl⟩ := hr
    simp only [rawVs] at h
    split at h
    · rename_i v hv
      split at h
      · rename_i vs' hvs
        injection h with h; subst h
        obtain ⟨us, h4, h5⟩ := rawVs_sound hs frs rs' hr hvs
        simp only [rawV] at hv
        split at hv
        · rename_i id off hp
          split at hv
          · rename_i ty' cv hid
            split at hv
            · rename_i hb
              have hv2 : ldN (nth .top cv) off n = v := by
                split at hv
                · cases hv
                · injection hv
              have hptr := ev_sound (x := .tmp t) hs rfl
              have e : st.ev (.t t) = .c (.ptr id off) := hp
              rw [e] at hptr
              obtain ⟨b, o0, g1, g2⟩ := hptr
              have hob := hs.hs.obj id b o0 g1
              rw [hid] at hob
              obtain ⟨cs, g3, g4⟩ := hob
              have hlen : off + nOf n ≤ cv.length := by rw [lenL_eq] at hb; simpa using hb
              have hsz : cv.length = cs.size := by simpa using g4.length
              have hl : (cs.extract off (off + nOf n)).toList.length = nOf n := by simp; omega
              have g2 : a.tmps.getD t undef = .pointer (some ⟨b, off, none⟩) := g2
              have hrun := run_load_gen (P := P) (w := w) hn hl (World.rangeAt_of_block g3 off (nOf n))
              have hrun : (loadVar ty ⟨b, off, none⟩).run P w = .ok (ldV (cs.extract off (off + nOf n)).toList n) w := by
                simpa [Instr.loadAt, Instr.sureAddr] using hrun
              have hval : VR β R w (ldN (nth .top cv) off n) (ldV (cs.extract off (off + nOf n)).toList n) := ldN_sound hl (fun j u hu => by
                have hj : j < nOf n := by have := (List.getElem?_eq_some_iff.1 hu).1; omega
                refine g4.nth_get ?_
                rw [← hu, Array.getElem?_toList, Array.getElem?_toList, Array.getElem?_extract, if_pos (by omega)])
              rw [hv2] at hval
              refine ⟨_ :: us, ?_, ⟨hval, h5⟩⟩
              have hra : (runR a.tmps (.cell t ty)).run P w = .ok (ldV (cs.extract off (off + nOf n)).toList n) w := by
                show (do loadVar ty (← asAddr (a.tmps.getD t undef))).run P w = _
                rw [g2]
                simp only [asAddr, pure_bind]
                exact hrun
              rw [List.mapM_cons, Sem.run_bind, hra, Result.andThen_ok, Sem.run_bind, h4]
              rfl
            · cases hv
          · cases hv
        · cases hv
      · cases h
    · cases h
end
end Go.AE
