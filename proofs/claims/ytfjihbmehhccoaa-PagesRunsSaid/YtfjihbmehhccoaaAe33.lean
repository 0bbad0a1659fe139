/- AE, part 33: maps whose values own lists: one of them is opened and closed. -/
import Derived.Test.YtfjihbmehhccoaaAe26
namespace Go.AE
set_option linter.unusedVariables false
set_option linter.unusedSimpArgs false
open Go.RowKit

section
variable {P : Program} {G : Nat → Option Obj} {β : Bt} {R : Nat → Prop} {w : World} {st : St}
/-- A block is told anew, as Y, and a block that it owned gets a number of its own. -/
theorem open_core {id : Nat} {Y : AO} {ty' : TypeId} {sz' n' : Nat} {g : Nat → Nat → PV} (hl0 : (nth .gone st.h id).live = true) (hY : Y.live = true)
    (H : ∀ β R w, HS G β R w st.h → ∀ b N, β id = some (b, N) → OR β R w Y b N ∨ ∃ b1 cs1 c k, β.q b1 = some (b, k) ∧ w.heap[b1]? = some (.cells cs1 ty' (0, 0)) ∧ cs1.size = c * sz' ∧ n' ≤ c ∧ (∀ e o, e < n' → o < sz' → ∃ u, cs1[e * sz' + o]? = some u ∧ PR R w (g e o) u) ∧
      ∀ β', Keeps β R w β' R w → (∀ b2 k2, β.q b2 = some (b, k2) → k2 ≠ k → β'.q b2 = some (b, k2)) → β' st.h.length = some (b1, c * sz') → OR β' R w Y b N) :
    WeakS G st ⟨st.t, snoc (.row ty' sz' n' fun e o => .p (g e o)) (upd Y st.h id)⟩ := by
  intro β R a w hs
  have hh := hs.hs
  have hlid : id < st.h.length := nth_gone rfl (fun e => by rw [e] at hl0; cases hl0)
  have hlenu : ∀ x : AO, (upd x st.h id).length = st.h.length := fun x => by rw [upd_eq]; simp
  have hnew : nth .gone (snoc (.row ty' sz' n' fun e o => .p (g e o)) (upd Y st.h id)) st.h.length = (.row ty' sz' n' fun e o => .p (g e o)) := by
    have := nth_snoc_eq AO.gone (.row ty' sz' n' fun e o => .p (g e o)) (upd Y st.h id)
    rwa [hlenu] at this
  have hold : ∀ i, i < st.h.length → nth .gone (snoc (.row ty' sz' n' fun e o => .p (g e o)) (upd Y st.h id)) i = nth .gone (upd Y st.h id) i := fun i hi => nth_snoc_lt _ _ _ (by rw [hlenu]; exact hi)
  have hne : ∀ i, i < st.h.length → i ≠ id → nth .gone (snoc (.row ty' sz' n' fun e o => .p (g e o)) (upd Y st.h id)) i = nth .gone st.h i := fun i hi e => by
    rw [hold i hi, nth_upd_ne _ _ _ (fun h => e h.symm)]
  have heq : nth .gone (snoc (.row ty' sz' n' fun e o => .p (g e o)) (upd Y st.h id)) id = Y := by rw [hold id hlid, nth_upd_eq _ _ _ hlid]
  have hlive : ∀ i, (nth .gone st.h i).live = true → i ≠ id → ∀ b o b' o', β i = some (b, o) → β id = some (b', o') → b ≠ b' := fun i hl hne b o b' o' h1 h2 e =>
    hne (hh.inj i id b o o' h1 (e ▸ h2) hl hl0)
  have hlv : ∀ i, i < st.h.length → (nth .gone (snoc (.row ty' sz' n' fun e o => .p (g e o)) (upd Y st.h id)) i).live = (nth .gone st.h i).live := fun i hi => by
    by_cases e : i = id
    · subst e; rw [heq, hY, hl0]
    · rw [hne i hi e]
  have same : (∀ b N, β id = some (b, N) → OR β R w Y b N) → ∃ β2 R2, Sim G β2 R2 ⟨st.t, snoc (.row ty' sz' n' fun e o => .p (g e o)) (upd Y st.h id)⟩ a w ∧ Fr β R w β2 R2 w ∧ ∀ b, R b → R2 b := fun hO => by
    refine ⟨β, R, ⟨hs.df, hs.tm, ?_⟩, Fr.refl _ _ _, fun _ h => h⟩
    refine hs_told hh (by rw [snoc_eq]; simp [hlenu]) (fun i x hi => by rw [snoc_eq]; have := hh.dom i x hi; simp [hlenu]; omega) (fun _ h => h) hh.rlt ?_ ?_ hh.lt ?_ ?_
    · intro i j b o o' hi hj li lj
      rw [hlv i (hh.dom i _ hi)] at li; rw [hlv j (hh.dom j _ hj)] at lj
      exact hh.inj i j b o o' hi hj li lj
    · intro i b o hi li
      rw [hlv i (hh.dom i _ hi)] at li
      exact hh.sep i b o hi li
    · intro i b' o hi
      by_cases e : i = id
      · subst e; rw [heq]; exact hO b' o hi
      · rw [hne i (hh.dom i _ hi) e]
        exact hh.obj i b' o hi
    · intro b' ad hq
      obtain ⟨q1, q2, q3⟩ := hh.ql b' ad hq
      exact ⟨q1, q2, fun i o hi => by rw [hlv i (hh.dom i _ hi)]; exact q3 i o hi⟩
  cases hb : β id with
  | none => exact same fun b N h => by rw [hb] at h; cases h
  | some bN =>
    obtain ⟨b, N⟩ := bN
    rcases H β R w hh b N hb with hO | ⟨b1, cs1, c, k, p1, p2, p3, a2, p4, hO⟩
    · exact same fun b' N' h => by rw [hb] at h; injection h with h; injection h with h1 h2; subst h1; subst h2; exact hO
    · obtain ⟨q1, q2, q3⟩ := hh.ql b1 _ p1
      let β' : Bt := qset (bn β st.h.length (b1, c * sz')) b1 none
      have hf' : ∀ i, β' i = bn β st.h.length (b1, c * sz') i := fun i => rfl
      have hm : ∀ i x, β i = some x → β' i = some x := fun i x hi => by
        rw [hf', bn_other _ (by have := hh.dom i x hi; omega)]; exact hi
      have hcase : ∀ i y, β' i = some y → (i = st.h.length ∧ y = (b1, c * sz')) ∨ (i < st.h.length ∧ β i = some y) := fun i y hi => by
        rw [hf'] at hi
        by_cases he : i = st.h.length
        · subst he; rw [bn_same] at hi; injection hi with hi; exact .inl ⟨rfl, hi.symm⟩
        · rw [bn_other _ he] at hi; exact .inr ⟨hh.dom i y hi, hi⟩
      have hq' : ∀ b2 ad, β'.q b2 = some ad → b2 ≠ b1 ∧ β.q b2 = some ad := fun b2 ad h => by
        by_cases e : b2 = b1
        · subst e; rw [qset_same] at h; cases h
        · rw [qset_other _ e] at h; exact ⟨e, h⟩
      have hkp : Keeps β R w β' R w := ⟨hm, fun _ h => h, fun _ _ => rfl⟩
      have hdead : ∀ i o, β i = some (b1, o) → (nth .gone st.h i).live = false := q3
      have hO := hO β' hkp (fun b2 k2 h1 h2 => by
        rw [qset_other _ (fun e => by subst e; rw [p1] at h1; injection h1 with h1; injection h1 with _ h1; exact h2 h1.symm)]; exact h1) (by rw [hf', bn_same])
      refine ⟨β', R, ⟨hs.df, hs.tm.mono fun _ _ => VR.keep hkp, ?_⟩, ⟨rfl, rfl, rfl, Nat.le_refl _, fun _ _ => rfl, fun _ _ _ => rfl, ?_, fun _ h => .inl h⟩, fun _ h => h⟩
      · refine hs_told hh (by rw [snoc_eq]; simp [hlenu]) ?_ (fun _ h => h) hh.rlt ?_ ?_ ?_ ?_ ?_
        · intro i x hi
          rw [snoc_eq]; simp [hlenu]
          rcases hcase i x hi with ⟨e, _⟩ | ⟨e, _⟩ <;> omega
        · intro i j b' o o' hi hj li lj
          rcases hcase i _ hi with ⟨e1, k1⟩ | ⟨e1, k1⟩
          · rcases hcase j _ hj with ⟨e2, k2⟩ | ⟨e2, k2⟩
            · omega
            · injection k1 with k1 _
              subst k1
              rw [hlv j e2, hdead j _ k2] at lj; cases lj
          · rw [hlv i e1] at li
            rcases hcase j _ hj with ⟨e2, k2⟩ | ⟨e2, k2⟩
            · injection k2 with k2 _
              subst k2
              rw [hdead i _ k1] at li; cases li
            · rw [hlv j e2] at lj
              exact hh.inj i j b' o o' k1 k2 li lj
        · intro i b' o hi li
          rcases hcase i _ hi with ⟨e1, k1⟩ | ⟨e1, k1⟩
          · injection k1 with k1 _; subst k1; exact q2
          · rw [hlv i e1] at li; exact hh.sep i b' o k1 li
        · intro i b' o hi
          rcases hcase i _ hi with ⟨e1, k1⟩ | ⟨e1, k1⟩
          · injection k1 with k1 _; subst k1; exact q1
          · exact hh.lt i b' o k1
        · intro i b' o hi
          rcases hcase i _ hi with ⟨e1, k1⟩ | ⟨e1, k1⟩
          · injection k1 with k1 k2
            subst k1; subst k2; subst e1
            rw [hnew]
            exact ⟨cs1, p2, p3, Nat.mul_le_mul_right _ a2, fun e k he hk => by
              obtain ⟨u, r1, r2⟩ := p4 e k he hk
              exact ⟨u, r1, r2⟩⟩
          · by_cases e : i = id
            · subst e
              rw [heq]
              rw [hb] at k1; injection k1 with k1; injection k1 with e1 e2; subst e1; subst e2
              exact hO
            · rw [hne i e1 e]
              cases hl : (nth .gone st.h i).live with
              | false => exact OR.dead hkp hl (hh.obj i b' o k1)
              | true =>
                refine OR.keep hkp (fun b2 k h1 => ⟨?_, rfl⟩) rfl (hh.obj i b' o k1)
                rw [qset_other _ (fun e2 => by
                  subst e2
                  rw [p1] at h1; injection h1 with h1; injection h1 with h1 _
                  exact hlive i hl e b' o b N k1 hb h1.symm)]
                exact h1
        · intro b2 ad hq
          obtain ⟨e1, k1⟩ := hq' b2 ad hq
          obtain ⟨r1, r2, r3⟩ := hh.ql b2 ad k1
          refine ⟨r1, r2, fun i o hi => ?_⟩
          rcases hcase i _ hi with ⟨e2, k2⟩ | ⟨e2, k2⟩
          · injection k2 with k2 _; exact absurd k2 e1
          · rw [hlv i e2]; exact r3 i o k2
      · rintro b2 (⟨i, o, hi⟩ | ⟨ad, hq⟩)
        · rcases hcase i _ hi with ⟨e2, k2⟩ | ⟨e2, k2⟩
          · injection k2 with k2 _; subst k2; exact .inl (.inr ⟨_, p1⟩)
          · exact .inl (.inl ⟨i, o, k2⟩)
        · exact .inl (.inr ⟨ad, (hq' b2 ad hq).2⟩)
/-- A block is told anew, as Y, which owns the block that had the number m. -/
theorem close_core {id m : Nat} {Y : AO} {ty' : TypeId} {sz' n' : Nat} {h : Nat → Nat → C} {g : Nat → Nat → PV} (hl0 : (nth .gone st.h id).live = true) (hY : Y.live = true) (hmd : nth .gone st.h m = .row ty' sz' n' h) (hg : ∀ e o, e < n' → o < sz' → h e o = .p (g e o)) (him : id ≠ m)
    (H : ∀ β R w, HS G β R w st.h → ∀ b N, β id = some (b, N) → ∃ k, ∀ β', (∀ i, β' i = β i) → Keeps β R w β' R w → (∀ b1 k1, β.q b1 = some (b, k1) → β'.q b1 = some (b, k1)) →
      (∀ u, CR β R w (.sl m sz' 0 n') u → CRo β' R w (b, k) (.own ty' sz' n' g) u) → OR β' R w Y b N) :
    WeakS G st ⟨st.t, upd .gone (upd Y st.h id) m⟩ := by
  intro β R a w hs
  have hh := hs.hs
  have hlid : id < st.h.length := nth_gone rfl (fun e => by rw [e] at hl0; cases hl0)
  have hlm := nth_gone hmd (by simp)
  have hlenu : (upd .gone (upd Y st.h id) m).length = st.h.length := by rw [upd_eq, upd_eq]; simp
  have hne : ∀ i, i ≠ id → i ≠ m → nth .gone (upd .gone (upd Y st.h id) m) i = nth .gone st.h i := fun i e1 e2 => by
    rw [nth_upd_ne _ _ _ (fun h => e2 h.symm), nth_upd_ne _ _ _ (fun h => e1 h.symm)]
  have heq : nth .gone (upd .gone (upd Y st.h id) m) id = Y := by rw [nth_upd_ne _ _ _ (fun h => him h.symm), nth_upd_eq _ _ _ hlid]
  have hem : nth .gone (upd .gone (upd Y st.h id) m) m = .gone := nth_upd_eq _ _ _ (by rw [upd_eq, List.length_set]; exact hlm)
  have hlv : ∀ (i : Nat), (nth .gone (upd .gone (upd Y st.h id) m) i).live = true → i ≠ m ∧ (nth .gone st.h i).live = true := fun i hl => by
    by_cases e1 : i = m
    · subst e1; rw [hem] at hl; cases hl
    · refine ⟨e1, ?_⟩
      by_cases e2 : i = id
      · subst e2; exact hl0
      · rw [hne i e2 e1] at hl; exact hl
  have hlf : ∀ (i : Nat), (nth .gone st.h i).live = false → (nth .gone (upd .gone (upd Y st.h id) m) i).live = false := fun i hl => by
    by_cases e1 : i = m
    · subst e1; rw [hem]; rfl
    · by_cases e2 : i = id
      · subst e2; rw [hl0] at hl; cases hl
      · rw [hne i e2 e1]; exact hl
  have fin : ∀ (β' : Bt), (∀ i, β' i = β i) → (∀ b N, β id = some (b, N) → Keeps β R w β' R w → OR β' R w Y b N) →
      (∀ b2 ad, β'.q b2 = some ad → β.q b2 = some ad ∨ ∃ N, β m = some (b2, N)) → (∀ b2 ad, β.q b2 = some ad → β'.q b2 = some ad) →
      ∃ β2 R2, Sim G β2 R2 ⟨st.t, upd .gone (upd Y st.h id) m⟩ a w ∧ Fr β R w β2 R2 w ∧ ∀ b, R b → R2 b := by
    intro β' hf hu hq1 hq2
    have hkp : Keeps β R w β' R w := ⟨fun i x h => by rw [hf]; exact h, fun _ h => h, fun _ _ => rfl⟩
    refine ⟨β', R, ⟨hs.df, hs.tm.mono fun _ _ => VR.keep hkp, ?_⟩, ⟨rfl, rfl, rfl, Nat.le_refl _, fun _ _ => rfl, fun _ _ _ => rfl, ?_, fun _ h => .inl h⟩, fun _ h => h⟩
    · refine hs_told hh (by rw [hlenu]; exact Nat.le_refl _) (fun i x hi => by rw [hlenu]; rw [hf] at hi; exact hh.dom i x hi) (fun _ h => h) hh.rlt ?_ ?_ ?_ ?_ ?_
      · intro i j b o o' hi hj li lj
        rw [hf] at hi hj
        exact hh.inj i j b o o' hi hj (hlv i li).2 (hlv j lj).2
      · intro i b o hi li
        rw [hf] at hi
        exact hh.sep i b o hi (hlv i li).2
      · intro i b o hi
        rw [hf] at hi
        exact hh.lt i b o hi
      · intro i b o hi
        rw [hf] at hi
        by_cases e2 : i = id
        · subst e2
          rw [heq]
          exact hu b o hi hkp
        · by_cases e1 : i = m
          · subst e1; rw [hem]; exact trivial
          · rw [hne i e2 e1]
            exact OR.keep hkp (fun b1 k h => ⟨hq2 b1 _ h, rfl⟩) rfl (hh.obj i b o hi)
      · intro b2 ad hq
        rcases hq1 b2 ad hq with h1 | ⟨N, h1⟩
        · obtain ⟨q1, q2, q3⟩ := hh.ql b2 ad h1
          exact ⟨q1, q2, fun i o hi => hlf i (q3 i o (by rw [hf] at hi; exact hi))⟩
        · refine ⟨hh.lt m b2 N h1, hh.sep m b2 N h1 (by rw [hmd]; rfl), fun i o hi => ?_⟩
          rw [hf] at hi
          cases hl : (nth .gone (upd .gone (upd Y st.h id) m) i).live with
          | false => rfl
          | true =>
            obtain ⟨k1, k2⟩ := hlv i hl
            exact absurd (hh.inj i m b2 o N hi h1 k2 (by rw [hmd]; rfl)) k1
    · rintro b2 (⟨i, o, hi⟩ | ⟨ad, hq⟩)
      · rw [hf] at hi; exact .inl (.inl ⟨i, o, hi⟩)
      · rcases hq1 b2 ad hq with h1 | ⟨N, h1⟩
        · exact .inl (.inr ⟨ad, h1⟩)
        · exact .inl (.inl ⟨m, N, h1⟩)
  cases hb : β id with
  | none => exact fin β (fun _ => rfl) (fun b N h => by rw [hb] at h; cases h) (fun _ _ h => .inl h) (fun _ _ h => h)
  | some bN =>
    obtain ⟨b, N⟩ := bN
    obtain ⟨k, hO⟩ := H β R w hh b N hb
    cases hbm : β m with
    | none =>
      refine fin β (fun _ => rfl) ?_ (fun _ _ h => .inl h) (fun _ _ h => h)
      intro b' N' hb' kp
      rw [hb] at hb'; injection hb' with hb'; injection hb' with e1 e2; subst e1; subst e2
      refine hO β (fun _ => rfl) kp (fun _ _ h => h) fun u hu => ?_
      obtain ⟨A, c, a1, a2, a3, a4⟩ := hu
      rcases a4 with ⟨h1, h2, h3⟩ | ⟨b1, N1, h1, _⟩
      · exact ⟨A, c, a1, a2, a3, .inl ⟨h1.resolve_right (by omega), h2, h3⟩⟩
      · rw [hbm] at h1; cases h1
    | some bM =>
      obtain ⟨b1, N1⟩ := bM
      have hob := hh.obj m b1 N1 hbm
      rw [hmd] at hob
      obtain ⟨cs1, p1, p2, p3, p4⟩ := hob
      have hq0 : ∀ b2 ad, β.q b2 = some ad → b2 ≠ b1 := fun b2 ad h e => by
        have := (hh.ql b2 ad h).2.2 m N1 (e ▸ hbm)
        rw [hmd] at this; cases this
      refine fin (qset β b1 (some (b, k))) (fun _ => rfl) ?_ ?_ ?_
      · intro b' N' hb' kp
        rw [hb] at hb'; injection hb' with hb'; injection hb' with e1 e2; subst e1; subst e2
        refine hO _ (fun _ => rfl) kp (fun b2 k2 h => by rw [qset_other _ (hq0 b2 _ h)]; exact h) fun u hu => ?_
        obtain ⟨A, c, a1, a2, a3, a4⟩ := hu
        rcases a4 with ⟨h1, h2, h3⟩ | ⟨b2, N2, h1, h2, h3⟩
        · exact ⟨A, c, a1, a2, a3, .inl ⟨h1.resolve_right (by omega), h2, h3⟩⟩
        · rw [hbm] at h1; injection h1 with h1; injection h1 with e1 e2; subst e1; subst e2
          refine ⟨A, c, a1, a2, a3, .inr ⟨b1, cs1, by simpa using h2, qset_same _ _ _, p1, by rw [p2, ← h3]; simp, fun e k he hk => ?_⟩⟩
          obtain ⟨u, r1, r2⟩ := p4 e k he hk
          rw [hg e k he hk] at r2
          exact ⟨u, r1, r2⟩
      · intro b2 ad hq
        by_cases e : b2 = b1
        · subst e; exact .inr ⟨N1, hbm⟩
        · rw [qset_other _ e] at hq; exact .inl hq
      · intro b2 ad hq
        rw [qset_other _ (hq0 b2 ad hq)]; exact hq
/-- The list at a key gets a number of its own. -/
theorem weak_openM {id : Nat} {ok : Value → Bool} {ty : TypeId} {sz : Nat} {g : Value → Nat × (Nat → Nat → PV)} (k0 : Value) (hid : nth .gone st.h id = .mapl ok ty sz g none) :
    WeakS G st ⟨st.t, snoc (.row ty sz (g k0).1 fun e o => .p ((g k0).2 e o)) (upd (.mapl ok ty sz g (some (k0, .sl (lenL st.h) sz 0 (g k0).1))) st.h id)⟩ := by
  rw [lenL_eq]
  refine open_core (by rw [hid]; rfl) rfl ?_
  intro β R w hh b N hb
  have hob := hh.obj id b N hb
  rw [hid] at hob
  obtain ⟨es, cl, g1, g2, g3, g4⟩ := hob
  -- what is told of the map, from what is told of the list
  have key : ∀ β', Keeps β R w β' R w → (∀ (i : Nat) (e : MapEntry), es.toList[i]? = some e → e.key ≠ k0 → CRo β' R w (b, i) (.own ty sz (g e.key).1 (g e.key).2) e.val) → (∀ (i : Nat) (e : MapEntry), es.toList[i]? = some e → e.key = k0 → CR β' R w (.sl st.h.length sz 0 (g k0).1) e.val) →
      ((∀ e ∈ es.toList, e.key ≠ k0) → CR β' R w (.sl st.h.length sz 0 (g k0).1) (.slice none 0 0)) → OR β' R w (.mapl ok ty sz g (some (k0, .sl st.h.length sz 0 (g k0).1))) b N := by
    intro β' kp h1 h2 h3
    refine ⟨es, cl, g1, g2, fun i e he => ⟨(g3 i e he).1, fun k1 c1 q1 q2 => ?_, fun q1 => h1 i e he (q1 k0 _ rfl)⟩, fun k hk => ⟨fun k1 c1 q1 q2 => ?_, fun _ => (g4 k hk).2 (fun _ _ q => by cases q)⟩⟩
    · injection q1 with q1; injection q1 with e1 e2; subst e1; subst e2
      exact h2 i e he q2
    · injection q1 with q1; injection q1 with e1 e2; subst e1; subst e2; subst q2
      exact h3 hk
  have hkp : Keeps β R w β R w := ⟨fun _ _ h => h, fun _ h => h, fun _ _ => rfl⟩
  have own : ∀ (i : Nat) (e : MapEntry), es.toList[i]? = some e → CRo β R w (b, i) (.own ty sz (g e.key).1 (g e.key).2) e.val := fun i e he => (g3 i e he).2.2 fun _ _ q => by cases q
  have uniq : ∀ (i j : Nat) (e e' : MapEntry), es.toList[i]? = some e → es.toList[j]? = some e' → e.key = e'.key → i = j := fun i j e e' hi hj hk => by
    obtain ⟨hi', hie⟩ := List.getElem?_eq_some_iff.1 hi
    obtain ⟨hj', hje⟩ := List.getElem?_eq_some_iff.1 hj
    rcases Nat.lt_trichotomy i j with hl | hl | hl
    · exact absurd (by rw [hie, hje]; exact hk) (List.pairwise_iff_getElem.1 g2.1 i j hi' hj' hl)
    · exact hl
    · exact absurd (by rw [hie, hje]; exact hk.symm) (List.pairwise_iff_getElem.1 g2.1 j i hj' hi' hl)
  have nilsl : (g k0).1 = 0 → CR β R w (.sl st.h.length sz 0 (g k0).1) (.slice none 0 0) := fun h0 => by
    rw [h0]; exact ⟨none, 0, rfl, Nat.le_refl _, Nat.zero_le _, .inl ⟨.inl rfl, rfl, rfl⟩⟩
  by_cases hex : ∃ (j : Nat) (e : MapEntry), es.toList[j]? = some e ∧ e.key = k0
  · obtain ⟨j, e0, hj, hk⟩ := hex
    have hu := own j e0 hj
    rw [hk] at hu
    obtain ⟨A, c, a1, a2, a3, a4⟩ := hu
    rcases a4 with ⟨rfl, h0, rfl⟩ | ⟨b1, cs1, rfl, p1, p2, p3, p4⟩
    · left
      refine key β hkp (fun i e he _ => own i e he) (fun i e he hk' => ?_) (fun h => absurd hk (h e0 (List.mem_of_getElem? hj)))
      have : i = j := uniq i j e e0 he hj (hk'.trans hk.symm)
      subst this
      rw [hj] at he; injection he with he; subst he
      rw [a1, h0]
      exact ⟨none, 0, rfl, Nat.le_refl _, Nat.zero_le _, .inl ⟨.inl rfl, rfl, rfl⟩⟩
    · right
      refine ⟨b1, cs1, c, j, p1, p2, p3, a2, p4, fun β' kp kq hn => ?_⟩
      refine key β' kp (fun i e he hne => ?_) (fun i e he hk' => ?_) (fun h => absurd hk (h e0 (List.mem_of_getElem? hj)))
      · refine CRo_keep' kp (fun b2 hq => ⟨kq b2 i hq fun hij => ?_, rfl⟩) (own i e he)
        subst hij
        rw [hj] at he; injection he with he; subst he
        exact hne hk
      · have : i = j := uniq i j e e0 he hj (hk'.trans hk.symm)
        subst this
        rw [hj] at he; injection he with he; subst he
        exact ⟨_, c, a1, a2, a3, .inr ⟨b1, c * sz, hn, by simp, by simp⟩⟩
  · left
    have hno : ∀ e ∈ es.toList, e.key ≠ k0 := fun e he hk => by
      obtain ⟨i, hi⟩ := List.getElem?_of_mem he
      exact hex ⟨i, e, hi, hk⟩
    refine key β hkp (fun i e he _ => own i e he) (fun i e he hk' => absurd hk' (hno e (List.mem_of_getElem? he))) (fun _ => nilsl ((g4 k0 hno).2 fun _ _ q => by cases q))
/-- A map of lists with another list at a key. -/
noncomputable def setG (g : Value → Nat × (Nat → Nat → PV)) (k0 : Value) (n : Nat) (f : Nat → Nat → PV) : Value → Nat × (Nat → Nat → PV) := by
  classical
  exact fun k => if k = k0 then (n, f) else g k
theorem setG_same (g : Value → Nat × (Nat → Nat → PV)) (k0 : Value) (n : Nat) (f : Nat → Nat → PV) : setG g k0 n f k0 = (n, f) := by unfold setG; simp
theorem setG_other (g : Value → Nat × (Nat → Nat → PV)) {k0 k : Value} (n : Nat) (f : Nat → Nat → PV) (h : k ≠ k0) : setG g k0 n f k = g k := by unfold setG; simp [h]
/-- .. and the map gets it back. -/
theorem weak_closeM {id m : Nat} {ok : Value → Bool} {ty : TypeId} {sz n : Nat} {g : Value → Nat × (Nat → Nat → PV)} {k0 : Value} {h : Nat → Nat → C} (F : Nat → Nat → PV) (hid : nth .gone st.h id = .mapl ok ty sz g (some (k0, .sl m sz 0 n))) (hmd : nth .gone st.h m = .row ty sz n h) (hg : ∀ e o, e < n → o < sz → h e o = .p (F e o)) :
    WeakS G st ⟨st.t, upd .gone (upd (.mapl ok ty sz (setG g k0 n F) none) st.h id) m⟩ := by
  refine close_core (by rw [hid]; rfl) rfl hmd hg (fun e => by subst e; rw [hid] at hmd; cases hmd) ?_
  intro β R w hh b N hb
  have hob := hh.obj id b N hb
  rw [hid] at hob
  obtain ⟨es, cl, g1, g2, g3, g4⟩ := hob
  have uniq : ∀ (i j : Nat) (e e' : MapEntry), es.toList[i]? = some e → es.toList[j]? = some e' → e.key = e'.key → i = j := fun i j e e' hi hj hk => by
    obtain ⟨hi', hie⟩ := List.getElem?_eq_some_iff.1 hi
    obtain ⟨hj', hje⟩ := List.getElem?_eq_some_iff.1 hj
    rcases Nat.lt_trichotomy i j with hl | hl | hl
    · exact absurd (by rw [hie, hje]; exact hk) (List.pairwise_iff_getElem.1 g2.1 i j hi' hj' hl)
    · exact hl
    · exact absurd (by rw [hie, hje]; exact hk.symm) (List.pairwise_iff_getElem.1 g2.1 j i hj' hi' hl)
  have rest : ∀ (j : Nat) (β' : Bt), (∀ (i : Nat) (e : MapEntry), es.toList[i]? = some e → e.key = k0 → i = j) → Keeps β R w β' R w → (∀ b1 k1, β.q b1 = some (b, k1) → β'.q b1 = some (b, k1)) →
      (∀ u, CR β R w (.sl m sz 0 n) u → CRo β' R w (b, j) (.own ty sz n F) u) → OR β' R w (.mapl ok ty sz (setG g k0 n F) none) b N := by
    intro j β' hj kp kq hu
    refine ⟨es, cl, g1, g2, fun i e he => ⟨(g3 i e he).1, fun _ _ q => (by cases q), fun _ => ?_⟩, fun k hk => ⟨fun _ _ q => (by cases q), fun _ => ?_⟩⟩
    · by_cases hk : e.key = k0
      · rw [hk, setG_same]
        have := hj i e he hk
        subst this
        exact hu _ ((g3 i e he).2.1 k0 _ rfl hk)
      · rw [setG_other _ _ _ hk]
        refine CRo_keep' kp (fun b2 hq => ⟨kq b2 i hq, rfl⟩) ((g3 i e he).2.2 fun k1 c1 q => ?_)
        injection q with q; injection q with q _; subst q; exact hk
    · by_cases hk0 : k = k0
      · subst hk0
        rw [setG_same]
        have := (g4 k hk).1 k _ rfl rfl
        obtain ⟨A, c, a1, a2, a3, a4⟩ := this
        injection a1 with _ a1 _
        exact a1.symm
      · rw [setG_other _ _ _ hk0]
        exact (g4 k hk).2 fun k1 c1 q => by injection q with q; injection q with q _; subst q; exact hk0
  by_cases hex : ∃ (j : Nat) (e : MapEntry), es.toList[j]? = some e ∧ e.key = k0
  · obtain ⟨j, e0, hj, hk⟩ := hex
    exact ⟨j, fun β' _ kp kq hu => rest j β' (fun i e he hk' => uniq i j e e0 he hj (hk'.trans hk.symm)) kp kq hu⟩
  · exact ⟨0, fun β' _ kp kq hu => rest 0 β' (fun i e he hk' => absurd ⟨i, e, he, hk'⟩ hex) kp kq hu⟩
end
end Go.AE
