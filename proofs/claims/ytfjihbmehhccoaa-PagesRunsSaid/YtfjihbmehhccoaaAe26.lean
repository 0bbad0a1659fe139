/- AE, part 26: cells that own a list: opened and closed; lists that are frozen. -/
import Derived.Test.YtfjihbmehhccoaaAeC
namespace Go.AE
set_option linter.unusedVariables false
set_option linter.unusedSimpArgs false
open Go.RowKit

section
variable {P : Program} {G : Nat → Option Obj} {β : Bt} {R : Nat → Prop} {w : World} {st : St}
theorem cell_inj {sz e e' k k' : Nat} (hk : k < sz) (hk' : k' < sz) (h : e * sz + k = e' * sz + k') : e = e' ∧ k = k' := by
  have h1 : (e * sz + k) / sz = e := by rw [Nat.mul_comm, Nat.mul_add_div (by omega), Nat.div_eq_of_lt hk]; rfl
  have h2 : (e' * sz + k') / sz = e' := by rw [Nat.mul_comm, Nat.mul_add_div (by omega), Nat.div_eq_of_lt hk']; rfl
  have h3 : e = e' := by rw [← h1, ← h2, h]
  subst h3
  exact ⟨rfl, by omega⟩
/-- The same memory, told otherwise. -/
theorem hs_told {h h' : List AO} (hh : HS G β R w h) {β' : Bt} {R' : Nat → Prop} (hlen : h.length ≤ h'.length) (hf : ∀ i x, β' i = some x → i < h'.length) (hrm : ∀ b, R b → R' b) (hrlt : ∀ b, R' b → b < w.heap.size)
    (hinj : ∀ i j b o o', β' i = some (b, o) → β' j = some (b, o') → (nth .gone h' i).live = true → (nth .gone h' j).live = true → i = j) (hsep : ∀ i b o, β' i = some (b, o) → (nth .gone h' i).live = true → ¬ R' b)
    (hlt : ∀ i b o, β' i = some (b, o) → b < w.heap.size) (hobj : ∀ i b o, β' i = some (b, o) → OR β' R' w (nth .gone h' i) b o)
    (hql : ∀ b ad, β'.q b = some ad → b < w.heap.size ∧ ¬ R' b ∧ ∀ i o, β' i = some (b, o) → (nth .gone h' i).live = false) : HS G β' R' w h' :=
  ⟨hf, hinj, hsep, hlt, hrlt, hobj, fun b o hb => ⟨hrm b (hh.gl b o hb).1, (hh.gl b o hb).2⟩, hql⟩
def qset (β : Bt) (b : Nat) (x : Option (Nat × Nat)) : Bt := ⟨β.f, fun b1 => if b1 = b then x else β.q b1⟩
theorem qset_same (β : Bt) (b : Nat) (x : Option (Nat × Nat)) : (qset β b x).q b = x := by simp [qset]
theorem qset_other {β : Bt} {b b1 : Nat} (x : Option (Nat × Nat)) (h : b1 ≠ b) : (qset β b x).q b1 = β.q b1 := by simp [qset, h]
theorem nth_takeF (f : Nat → C) : ∀ (n o k : Nat), k < n → nth .top (takeF f o n) k = f (o + k)
  | n + 1, o, 0, _ => rfl
  | n + 1, o, k + 1, h => by
    show nth .top (takeF f (o + 1) n) k = _
    rw [nth_takeF f n (o + 1) k (by omega)]
    congr 1
    omega
theorem takeF_length (f : Nat → C) : ∀ (n o : Nat), (takeF f o n).length = n
  | 0, _ => rfl
  | n + 1, o => by simp [takeF, takeF_length f n (o + 1)]
/-- A cell's own list gets a number of its own. -/
theorem weak_open {id e0 k0 : Nat} {ty ty' : TypeId} {sz n sz' n' : Nat} {f : Nat → Nat → C} {g : Nat → Nat → PV} (hid : nth .gone st.h id = .row ty sz n f) (he : e0 < n) (hk : k0 < sz) (hf : f e0 k0 = .own ty' sz' n' g) :
    WeakS G st ⟨st.t, snoc (.row ty' sz' n' fun e o => .p (g e o)) (upd (.foc ty sz n e0 (upd (.sl (lenL st.h) sz' 0 n') (takeF (f e0) 0 sz) k0) f) st.h id)⟩ := by
  rw [lenL_eq]
  intro β R a w hs
  have hh := hs.hs
  have hlid := nth_gone hid (by simp)
  have hlenu : ∀ x : AO, (upd x st.h id).length = st.h.length := fun x => by rw [upd_eq]; simp
  have hnew : ∀ x y : AO, nth .gone (snoc y (upd x st.h id)) st.h.length = y := fun x y => by
    have := nth_snoc_eq AO.gone y (upd x st.h id)
    rwa [hlenu] at this
  have hold : ∀ (x y : AO) i, i < st.h.length → nth .gone (snoc y (upd x st.h id)) i = nth .gone (upd x st.h id) i := fun x y i hi => nth_snoc_lt _ _ _ (by rw [hlenu]; exact hi)
  have hne : ∀ (x y : AO) i, i < st.h.length → i ≠ id → nth .gone (snoc y (upd x st.h id)) i = nth .gone st.h i := fun x y i hi e => by
    rw [hold x y i hi, nth_upd_ne _ _ _ (fun h => e h.symm)]
  have heq : ∀ x y : AO, nth .gone (snoc y (upd x st.h id)) id = x := fun x y => by rw [hold x y id hlid, nth_upd_eq _ _ _ hlid]
  have hlive : ∀ i, (nth .gone st.h i).live = true → i ≠ id → ∀ b o b' o', β i = some (b, o) → β id = some (b', o') → b ≠ b' := fun i hl hne b o b' o' h1 h2 e =>
    hne (hh.inj i id b o o' h1 (e ▸ h2) hl (by rw [hid]; rfl))
  cases hb : β id with
  | none =>
    refine ⟨β, R, ⟨hs.df, hs.tm, ?_⟩, Fr.refl _ _ _, fun _ h => h⟩
    have hni : ∀ i x, β i = some x → i ≠ id := fun i x hi e => by rw [e, hb] at hi; cases hi
    have hns : ∀ i x, β i = some x → nth .gone (snoc (.row ty' sz' n' fun e o => .p (g e o)) (upd (.foc ty sz n e0 (upd (.sl st.h.length sz' 0 n') (takeF (f e0) 0 sz) k0) f) st.h id)) i = nth .gone st.h i := fun i x hi => hne _ _ i (hh.dom i x hi) (hni i x hi)
    refine hs_told hh (by rw [snoc_eq]; simp [hlenu]) (fun i x hi => by rw [snoc_eq]; have := hh.dom i x hi; simp [hlenu]; omega) (fun _ h => h) hh.rlt ?_ ?_ hh.lt ?_ ?_
    · intro i j b o o' hi hj li lj
      rw [hns i _ hi] at li; rw [hns j _ hj] at lj
      exact hh.inj i j b o o' hi hj li lj
    · intro i b o hi li
      rw [hns i _ hi] at li
      exact hh.sep i b o hi li
    · intro i b o hi
      rw [hns i _ hi]
      exact hh.obj i b o hi
    · intro b ad hq
      obtain ⟨q1, q2, q3⟩ := hh.ql b ad hq
      exact ⟨q1, q2, fun i o hi => by rw [hns i _ hi]; exact q3 i o hi⟩
  | some bN =>
    obtain ⟨b, N⟩ := bN
    have hob := hh.obj id b N hb
    rw [hid] at hob
    obtain ⟨cs, g1, g2, g3, g4⟩ := hob
    obtain ⟨u, u1, u2⟩ := g4 e0 k0 he hk
    rw [hf] at u2
    obtain ⟨A, c, a1, a2, a3, a4⟩ := u2
    -- what the focussed row says
    have hfoc : ∀ (β' : Bt), Keeps β R w β' R w → (∀ b1 k, β.q b1 = some (b, k) → k ≠ e0 * sz + k0 → β'.q b1 = some (b, k)) → CR β' R w (.sl st.h.length sz' 0 n') u → OR β' R w (.foc ty sz n e0 (upd (.sl st.h.length sz' 0 n') (takeF (f e0) 0 sz) k0) f) b N := by
      intro β' kp kq hu
      refine ⟨cs, g1, g2, g3, he, by rw [upd_eq, List.length_set, takeF_length], fun e k he' hk' => ?_⟩
      obtain ⟨v, v1, v2⟩ := g4 e k he' hk'
      refine ⟨v, v1, fun e1 => ?_, fun e1 => ?_⟩
      · subst e1
        by_cases e2 : k = k0
        · subst e2
          rw [nth_upd_eq _ _ _ (by rw [takeF_length]; exact hk)]
          rw [u1] at v1; injection v1 with v1; subst v1
          exact hu
        · rw [nth_upd_ne _ _ _ (fun h => e2 h.symm), nth_takeF _ _ _ _ hk', Nat.zero_add]
          exact CR.keep kp v2.cr
      · refine CRo_keep' kp ?_ v2
        intro b1 hq
        exact ⟨kq b1 _ hq (fun h => e1 (cell_inj hk' hk h).1), rfl⟩
    rcases a4 with ⟨rfl, rfl, rfl⟩ | ⟨b1, cs1, rfl, p1, p2, p3, p4⟩
    · refine ⟨β, R, ⟨hs.df, hs.tm, ?_⟩, Fr.refl _ _ _, fun _ h => h⟩
      have hkp : Keeps β R w β R w := ⟨fun _ _ h => h, fun _ h => h, fun _ _ => rfl⟩
      have hO := hfoc β hkp (fun _ _ h _ => h) ⟨none, 0, a1, Nat.le_refl _, Nat.zero_le _, .inl ⟨.inl rfl, rfl, rfl⟩⟩
      have hlv : ∀ i, i < st.h.length → (nth .gone (snoc (.row ty' sz' 0 fun e o => .p (g e o)) (upd (.foc ty sz n e0 (upd (.sl st.h.length sz' 0 0) (takeF (f e0) 0 sz) k0) f) st.h id)) i).live = (nth .gone st.h i).live := fun i hi => by
        by_cases e : i = id
        · subst e; rw [heq, hid]; rfl
        · rw [hne _ _ i hi e]
      refine hs_told hh (by rw [snoc_eq]; simp [hlenu]) (fun i x hi => by rw [snoc_eq]; have := hh.dom i x hi; simp [hlenu]; omega) (fun _ h => h) hh.rlt ?_ ?_ hh.lt ?_ ?_
      · intro i j b o o' hi hj li lj
        rw [hlv i (hh.dom i _ hi)] at li; rw [hlv j (hh.dom j _ hj)] at lj
        exact hh.inj i j b o o' hi hj li lj
      · intro i b o hi li
        rw [hlv i (hh.dom i _ hi)] at li
        exact hh.sep i b o hi li
      · intro i b' o hi
        by_cases e : i = id
        · subst e
          rw [heq]
          rw [hb] at hi; injection hi with hi; injection hi with e1 e2; subst e1; subst e2
          exact hO
        · rw [hne _ _ i (hh.dom i _ hi) e]
          exact hh.obj i b' o hi
      · intro b' ad hq
        obtain ⟨q1, q2, q3⟩ := hh.ql b' ad hq
        exact ⟨q1, q2, fun i o hi => by rw [hlv i (hh.dom i _ hi)]; exact q3 i o hi⟩
    · obtain ⟨q1, q2, q3⟩ := hh.ql b1 _ p1
      let β' : Bt := qset (bn β st.h.length (b1, c * sz')) b1 none
      have hf' : ∀ i, β' i = bn β st.h.length (b1, c * sz') i := fun i => rfl
      have hm : ∀ i x, β i = some x → β' i = some x := fun i x hi => by
        rw [hf', bn_other _ (by have := hh.dom i x hi; omega)]; exact hi
      have hcase : ∀ i y, β' i = some y → (i = st.h.length ∧ y = (b1, c * sz')) ∨ (i < st.h.length ∧ β i = some y) := fun i y hi => by
        rw [hf'] at hi
        by_cases he : i = st.h.length
        · subst he; rw [bn_same] at hi; injection hi with hi; exact .inl ⟨rfl, hi.symm⟩
        · rw [bn_other _ he] at hi; exact .inr ⟨hh.dom i y hi, hi⟩
      have hq' : ∀ b2 ad, β'.q b2 = some ad → b2 ≠ b1 ∧ β.q b2 = some ad := fun b2 ad h => by
        by_cases e : b2 = b1
        · subst e; rw [qset_same] at h; cases h
        · rw [qset_other _ e] at h; exact ⟨e, h⟩
      have hkp : Keeps β R w β' R w := ⟨hm, fun _ h => h, fun _ _ => rfl⟩
      have hdead : ∀ i o, β i = some (b1, o) → (nth .gone st.h i).live = false := q3
      have hO := hfoc β' hkp (fun b2 k h1 h2 => by
        rw [qset_other _ (fun e => by subst e; rw [p1] at h1; injection h1 with h1; injection h1 with _ h1; exact h2 h1.symm)]; exact h1) ⟨_, c, a1, a2, a3, .inr ⟨b1, c * sz', by rw [hf', bn_same], by simp, by simp⟩⟩
      have hlv : ∀ i, i < st.h.length → (nth .gone (snoc (.row ty' sz' n' fun e o => .p (g e o)) (upd (.foc ty sz n e0 (upd (.sl st.h.length sz' 0 n') (takeF (f e0) 0 sz) k0) f) st.h id)) i).live = (nth .gone st.h i).live := fun i hi => by
        by_cases e : i = id
        · subst e; rw [heq, hid]; rfl
        · rw [hne _ _ i hi e]
      refine ⟨β', R, ⟨hs.df, hs.tm.mono fun _ _ => VR.keep hkp, ?_⟩, ⟨rfl, rfl, rfl, Nat.le_refl _, fun _ _ => rfl, fun _ _ _ => rfl, ?_, fun _ h => .inl h⟩, fun _ h => h⟩
      · refine hs_told hh (by rw [snoc_eq]; simp [hlenu]) ?_ (fun _ h => h) hh.rlt ?_ ?_ ?_ ?_ ?_
        · intro i x hi
          rw [snoc_eq]; simp [hlenu]
          rcases hcase i x hi with ⟨e, _⟩ | ⟨e, _⟩ <;> omega
        · intro i j b' o o' hi hj li lj
          rcases hcase i _ hi with ⟨e1, k1⟩ | ⟨e1, k1⟩
          · rcases hcase j _ hj with ⟨e2, k2⟩ | ⟨e2, k2⟩
            · omega
            · injection k1 with k1 _
              subst k1
              rw [hlv j e2, hdead j _ k2] at lj; cases lj
          · rw [hlv i e1] at li
            rcases hcase j _ hj with ⟨e2, k2⟩ | ⟨e2, k2⟩
            · injection k2 with k2 _
              subst k2
              rw [hdead i _ k1] at li; cases li
            · rw [hlv j e2] at lj
              exact hh.inj i j b' o o' k1 k2 li lj
        · intro i b' o hi li
          rcases hcase i _ hi with ⟨e1, k1⟩ | ⟨e1, k1⟩
          · injection k1 with k1 _; subst k1; exact q2
          · rw [hlv i e1] at li; exact hh.sep i b' o k1 li
        · intro i b' o hi
          rcases hcase i _ hi with ⟨e1, k1⟩ | ⟨e1, k1⟩
          · injection k1 with k1 _; subst k1; exact q1
          · exact hh.lt i b' o k1
        · intro i b' o hi
          rcases hcase i _ hi with ⟨e1, k1⟩ | ⟨e1, k1⟩
          · injection k1 with k1 k2
            subst k1; subst k2; subst e1
            rw [hnew]
            exact ⟨cs1, p2, p3, Nat.mul_le_mul_right _ a2, fun e k he hk => by
              obtain ⟨u, r1, r2⟩ := p4 e k he hk
              exact ⟨u, r1, r2⟩⟩
          · by_cases e : i = id
            · subst e
              rw [heq]
              rw [hb] at k1; injection k1 with k1; injection k1 with e1 e2; subst e1; subst e2
              exact hO
            · rw [hne _ _ i e1 e]
              cases hl : (nth .gone st.h i).live with
              | false => exact OR.dead hkp hl (hh.obj i b' o k1)
              | true =>
                refine OR.keep hkp (fun b2 k h1 => ⟨?_, rfl⟩) rfl (hh.obj i b' o k1)
                rw [qset_other _ (fun e2 => by
                  subst e2
                  rw [p1] at h1; injection h1 with h1; injection h1 with h1 _
                  exact hlive i hl e b' o b N k1 hb h1.symm)]
                exact h1
        · intro b2 ad hq
          obtain ⟨e1, k1⟩ := hq' b2 ad hq
          obtain ⟨r1, r2, r3⟩ := hh.ql b2 ad k1
          refine ⟨r1, r2, fun i o hi => ?_⟩
          rcases hcase i _ hi with ⟨e2, k2⟩ | ⟨e2, k2⟩
          · injection k2 with k2 _; exact absurd k2 e1
          · rw [hlv i e2]; exact r3 i o k2
      · rintro b2 (⟨i, o, hi⟩ | ⟨ad, hq⟩)
        · rcases hcase i _ hi with ⟨e2, k2⟩ | ⟨e2, k2⟩
          · injection k2 with k2 _; subst k2; exact .inl (.inr ⟨_, p1⟩)
          · exact .inl (.inl ⟨i, o, k2⟩)
        · exact .inl (.inr ⟨ad, (hq' b2 ad hq).2⟩)
/-- .. and gives it back. -/
theorem weak_close {id m e0 k0 : Nat} {ty ty' : TypeId} {sz n sz' n' : Nat} {vs : List C} {f h : Nat → Nat → C} {g : Nat → Nat → PV} (hid : nth .gone st.h id = .foc ty sz n e0 vs f) (hmd : nth .gone st.h m = .row ty' sz' n' h) (hg : ∀ e o, e < n' → o < sz' → h e o = .p (g e o)) (hk : k0 < sz) (hv : nth .top vs k0 = .sl m sz' 0 n')
    (ho : ∀ k, k < sz → k ≠ k0 → (nth .top vs k).isOwn = false) :
    WeakS G st ⟨st.t, upd .gone (upd (.row ty sz n fun e k => if e = e0 then (if k = k0 then .own ty' sz' n' g else nth .top vs k) else f e k) st.h id) m⟩ := by
  intro β R a w hs
  have hh := hs.hs
  have hlid := nth_gone hid (by simp)
  have hlm := nth_gone hmd (by simp)
  have him : id ≠ m := fun e => by subst e; rw [hid] at hmd; cases hmd
  have hlenu : ∀ x : AO, (upd .gone (upd x st.h id) m).length = st.h.length := fun x => by rw [upd_eq, upd_eq]; simp
  have hne : ∀ (x : AO) i, i ≠ id → i ≠ m → nth .gone (upd .gone (upd x st.h id) m) i = nth .gone st.h i := fun x i e1 e2 => by
    rw [nth_upd_ne _ _ _ (fun h => e2 h.symm), nth_upd_ne _ _ _ (fun h => e1 h.symm)]
  have heq : ∀ x : AO, nth .gone (upd .gone (upd x st.h id) m) id = x := fun x => by rw [nth_upd_ne _ _ _ (fun h => him h.symm), nth_upd_eq _ _ _ hlid]
  have hem : ∀ x : AO, nth .gone (upd .gone (upd x st.h id) m) m = .gone := fun x => nth_upd_eq _ _ _ (by rw [upd_eq, List.length_set]; exact hlm)
  have hlv : ∀ (i : Nat), (nth .gone (upd .gone (upd (.row ty sz n fun e k => if e = e0 then (if k = k0 then .own ty' sz' n' g else nth .top vs k) else f e k) st.h id) m) i).live = true → i ≠ m ∧ (nth .gone st.h i).live = true := fun i hl => by
    by_cases e1 : i = m
    · subst e1; rw [hem] at hl; cases hl
    · refine ⟨e1, ?_⟩
      by_cases e2 : i = id
      · subst e2; rw [hid]; rfl
      · rw [hne _ i e2 e1] at hl; exact hl
  have hlf : ∀ (i : Nat), (nth .gone st.h i).live = false → (nth .gone (upd .gone (upd (.row ty sz n fun e k => if e = e0 then (if k = k0 then .own ty' sz' n' g else nth .top vs k) else f e k) st.h id) m) i).live = false := fun i hl => by
    by_cases e1 : i = m
    · subst e1; rw [hem]; rfl
    · by_cases e2 : i = id
      · subst e2; rw [hid] at hl; cases hl
      · rw [hne _ i e2 e1]; exact hl
  -- the row, from what its cell is told to be
  have hrow : ∀ (β' : Bt) b N, β id = some (b, N) → Keeps β R w β' R w → (∀ b1 k, β.q b1 = some (b, k) → β'.q b1 = some (b, k)) → (∀ u cs, w.heap[b]? = some (.cells cs ty (0, 0)) → cs[e0 * sz + k0]? = some u → CR β R w (.sl m sz' 0 n') u → CRo β' R w (b, e0 * sz + k0) (.own ty' sz' n' g) u) →
      OR β' R w (.row ty sz n fun e k => if e = e0 then (if k = k0 then .own ty' sz' n' g else nth .top vs k) else f e k) b N := by
    intro β' b N hb kp kq hu
    have hob := hh.obj id b N hb
    rw [hid] at hob
    obtain ⟨cs, g1, g2, g3, g31, g32, g4⟩ := hob
    refine ⟨cs, g1, g2, g3, fun e k he' hk' => ?_⟩
    obtain ⟨v, v1, v2, v3⟩ := g4 e k he' hk'
    refine ⟨v, v1, ?_⟩
    dsimp only
    by_cases e1 : e = e0
    · subst e1
      rw [if_pos rfl]
      by_cases e2 : k = k0
      · subst e2
        rw [if_pos rfl]
        have := v2 rfl
        rw [hv] at this
        exact hu v cs g1 v1 this
      · rw [if_neg e2]
        exact CRo.of (ho k hk' e2) (CR.keep kp (v2 rfl))
    · rw [if_neg e1]
      exact CRo_keep' kp (fun b1 hq => ⟨kq b1 _ hq, rfl⟩) (v3 e1)
  have fin : ∀ (β' : Bt), (∀ i, β' i = β i) → (∀ b N, β id = some (b, N) → ∀ u cs, w.heap[b]? = some (.cells cs ty (0, 0)) → cs[e0 * sz + k0]? = some u → CR β R w (.sl m sz' 0 n') u → CRo β' R w (b, e0 * sz + k0) (.own ty' sz' n' g) u) →
      (∀ b2 ad, β'.q b2 = some ad → β.q b2 = some ad ∨ ∃ N, β m = some (b2, N)) → (∀ b2 ad, β.q b2 = some ad → β'.q b2 = some ad) →
      ∃ β2 R2, Sim G β2 R2 ⟨st.t, upd .gone (upd (.row ty sz n fun e k => if e = e0 then (if k = k0 then .own ty' sz' n' g else nth .top vs k) else f e k) st.h id) m⟩ a w ∧ Fr β R w β2 R2 w ∧ ∀ b, R b → R2 b := by
    intro β' hf hu hq1 hq2
    have hkp : Keeps β R w β' R w := ⟨fun i x h => by rw [hf]; exact h, fun _ h => h, fun _ _ => rfl⟩
    refine ⟨β', R, ⟨hs.df, hs.tm.mono fun _ _ => VR.keep hkp, ?_⟩, ⟨rfl, rfl, rfl, Nat.le_refl _, fun _ _ => rfl, fun _ _ _ => rfl, ?_, fun _ h => .inl h⟩, fun _ h => h⟩
    · refine hs_told hh (by rw [hlenu]; exact Nat.le_refl _) (fun i x hi => by rw [hlenu]; rw [hf] at hi; exact hh.dom i x hi) (fun _ h => h) hh.rlt ?_ ?_ ?_ ?_ ?_
      · intro i j b o o' hi hj li lj
        rw [hf] at hi hj
        exact hh.inj i j b o o' hi hj (hlv i li).2 (hlv j lj).2
      · intro i b o hi li
        rw [hf] at hi
        exact hh.sep i b o hi (hlv i li).2
      · intro i b o hi
        rw [hf] at hi
        exact hh.lt i b o hi
      · intro i b o hi
        rw [hf] at hi
        by_cases e2 : i = id
        · subst e2
          rw [heq]
          exact hrow β' b o hi hkp (fun b1 k h => hq2 b1 _ h) (hu b o hi)
        · by_cases e1 : i = m
          · subst e1; rw [hem]; exact trivial
          · rw [hne _ i e2 e1]
            exact OR.keep hkp (fun b1 k h => ⟨hq2 b1 _ h, rfl⟩) rfl (hh.obj i b o hi)
      · intro b2 ad hq
        rcases hq1 b2 ad hq with h1 | ⟨N, h1⟩
        · obtain ⟨q1, q2, q3⟩ := hh.ql b2 ad h1
          exact ⟨q1, q2, fun i o hi => hlf i (q3 i o (by rw [hf] at hi; exact hi))⟩
        · refine ⟨hh.lt m b2 N h1, hh.sep m b2 N h1 (by rw [hmd]; rfl), fun i o hi => ?_⟩
          rw [hf] at hi
          cases hl : (nth .gone (upd .gone (upd (.row ty sz n fun e k => if e = e0 then (if k = k0 then .own ty' sz' n' g else nth .top vs k) else f e k) st.h id) m) i).live with
          | false => rfl
          | true =>
            obtain ⟨k1, k2⟩ := hlv i hl
            exact absurd (hh.inj i m b2 o N hi h1 k2 (by rw [hmd]; rfl)) k1
    · rintro b2 (⟨i, o, hi⟩ | ⟨ad, hq⟩)
      · rw [hf] at hi; exact .inl (.inl ⟨i, o, hi⟩)
      · rcases hq1 b2 ad hq with h1 | ⟨N, h1⟩
        · exact .inl (.inr ⟨ad, h1⟩)
        · exact .inl (.inl ⟨m, N, h1⟩)
  cases hb : β id with
  | none => exact fin β (fun _ => rfl) (fun b N h => by rw [hb] at h; cases h) (fun _ _ h => .inl h) (fun _ _ h => h)
  | some bN =>
    obtain ⟨b, N⟩ := bN
    cases hbm : β m with
    | none =>
      refine fin β (fun _ => rfl) ?_ (fun _ _ h => .inl h) (fun _ _ h => h)
      intro b' N' _ u cs _ _ hu
      obtain ⟨A, c, a1, a2, a3, a4⟩ := hu
      rcases a4 with ⟨h1, h2, h3⟩ | ⟨b1, N1, h1, _⟩
      · exact ⟨A, c, a1, a2, a3, .inl ⟨h1.resolve_right (by omega), h2, h3⟩⟩
      · rw [hbm] at h1; cases h1
    | some bM =>
      obtain ⟨b1, N1⟩ := bM
      have hob := hh.obj m b1 N1 hbm
      rw [hmd] at hob
      obtain ⟨cs1, p1, p2, p3, p4⟩ := hob
      have hq0 : ∀ b2 ad, β.q b2 = some ad → b2 ≠ b1 := fun b2 ad h e => by
        have := (hh.ql b2 ad h).2.2 m N1 (e ▸ hbm)
        rw [hmd] at this; cases this
      refine fin (qset β b1 (some (b, e0 * sz + k0))) (fun _ => rfl) ?_ ?_ ?_
      · intro b' N' hb' u cs _ _ hu
        rw [hb] at hb'; injection hb' with hb'; injection hb' with e1 e2; subst e1; subst e2
        obtain ⟨A, c, a1, a2, a3, a4⟩ := hu
        rcases a4 with ⟨h1, h2, h3⟩ | ⟨b2, N2, h1, h2, h3⟩
        · exact ⟨A, c, a1, a2, a3, .inl ⟨h1.resolve_right (by omega), h2, h3⟩⟩
        · rw [hbm] at h1; injection h1 with h1; injection h1 with e1 e2; subst e1; subst e2
          refine ⟨A, c, a1, a2, a3, .inr ⟨b1, cs1, by simpa using h2, qset_same _ _ _, p1, by rw [p2, ← h3]; simp, fun e k he hk => ?_⟩⟩
          obtain ⟨u, r1, r2⟩ := p4 e k he hk
          rw [hg e k he hk] at r2
          exact ⟨u, r1, r2⟩
      · intro b2 ad hq
        by_cases e : b2 = b1
        · subst e; exact .inr ⟨N1, hbm⟩
        · rw [qset_other _ e] at hq; exact .inl hq
      · intro b2 ad hq
        rw [qset_other _ (hq0 b2 ad hq)]; exact hq
/-- A list that is not written any more. -/
theorem weak_frz {j id : Nat} {ty : TypeId} {sz n off len : Nat} {f : Nat → Nat → C} (ht : nth (.c .top) st.t j = .c (.sl id sz off len)) (hid : nth .gone st.h id = .row ty sz n f) (hn : off + len ≤ n) (hf : ∀ e o, e < len → o < sz → isF (f (e + off) o) = true) :
    WeakS G st ⟨upd (.c (.p (.l sz len fun e o => unP (f (e + off) o)))) st.t j, upd .gone st.h id⟩ := by
  intro β R a w hs
  have hh := hs.hs
  have hlid := nth_gone hid (by simp)
  let own : Nat → Prop := fun b1 => (∃ N, β id = some (b1, N)) ∨ ∃ b N k, β id = some (b, N) ∧ β.q b1 = some (b, k)
  let R' : Nat → Prop := fun b1 => R b1 ∨ own b1
  open Classical in
  let β' : Bt := ⟨β.f, fun b1 => if own b1 then none else β.q b1⟩
  have hq' : ∀ b2 ad, β'.q b2 = some ad → ¬ own b2 ∧ β.q b2 = some ad := by
    intro b2 ad h
    have h : (if own b2 then none else β.q b2) = some ad := h
    split at h
    · cases h
    · rename_i h1; exact ⟨h1, h⟩
  have hq2 : ∀ b2 ad, ¬ own b2 → β.q b2 = some ad → β'.q b2 = some ad := by
    intro b2 ad h1 h2
    show (if own b2 then none else β.q b2) = some ad
    rw [if_neg h1]; exact h2
  have hkp : Keeps β R w β' R' w := ⟨fun _ _ h => h, fun _ h => .inl h, fun _ _ => rfl⟩
  have hlive : (nth .gone st.h id).live = true := by rw [hid]; rfl
  have hl2 : ∀ i, (nth .gone (upd .gone st.h id) i).live = true → i ≠ id ∧ (nth .gone st.h i).live = true := fun i hl => live_gone hl
  have hlf : ∀ i, (nth .gone st.h i).live = false → (nth .gone (upd .gone st.h id) i).live = false := fun i hl => by
    by_cases e : id = i
    · subst e; rw [nth_upd_eq _ _ _ hlid]; rfl
    · rw [nth_upd_ne _ _ _ e]; exact hl
  have hown_live : ∀ i b o, β i = some (b, o) → (nth .gone (upd .gone st.h id) i).live = true → ¬ own b := by
    intro i b o hi hl
    obtain ⟨k1, k2⟩ := hl2 i hl
    rintro (⟨N, h1⟩ | ⟨b0, N, k, h1, h2⟩)
    · exact k1 (hh.inj i id b o N hi h1 k2 hlive)
    · have := (hh.ql b _ h2).2.2 i o hi
      rw [k2] at this; cases this
  have hval : ∀ u, VR β R w (.c (.sl id sz off len)) u → PR R' w (.l sz len fun e o => unP (f (e + off) o)) u := by
    rintro u ⟨A, c, rfl, g1, g2, g3⟩
    refine ⟨A, c, rfl, g1, g2, fun hn0 => ?_⟩
    rcases g3 with ⟨_, g4, _⟩ | ⟨b, o0, g4, rfl, g7⟩
    · omega
    · have hob := hh.obj id b o0 g4
      rw [hid] at hob
      obtain ⟨cs, g8, g80, g9, g10⟩ := hob
      refine ⟨_, rfl, .inr (.inl ⟨o0, g4⟩), fun e q he hq => ?_⟩
      obtain ⟨u, h5, h6⟩ := g10 (e + off) q (by omega) hq
      refine ⟨u, ?_, ?_⟩
      · rw [add_mid, cell_of_row w b _ cs ty (0, 0) g8, ← h5]
        congr 1
        rw [Nat.add_mul]; omega
      · have := hf e q he hq
        show PR R' w (unP (f (e + off) q)) u
        cases hfe : f (e + off) q with
        | p x =>
          rw [hfe] at h6
          exact PR.keep (fun _ h => .inl h) (fun _ _ => rfl) _ h6
        | own ty2 sz2 n2 f2 =>
          rw [hfe] at h6
          obtain ⟨A, c, k1, k2, k3, k4⟩ := h6
          refine ⟨A, c, k1, k2, k3, fun hn => ?_⟩
          rcases k4 with ⟨_, k5, _⟩ | ⟨b2, cs2, k5, k6, k7, k8, k9⟩
          · omega
          · refine ⟨_, k5, .inr (.inr ⟨b, o0, _, g4, k6⟩), fun e2 o2 he2 ho2 => ?_⟩
            obtain ⟨u2, r1, r2⟩ := k9 e2 o2 he2 ho2
            exact ⟨u2, by rw [add_mid, cell_of_row w b2 _ cs2 ty2 (0, 0) k7, Nat.zero_add]; exact r1, PR.keep (fun _ h => .inl h) (fun _ _ => rfl) _ r2⟩
        | _ => rw [hfe] at this; cases this
  have hHS : HS G β' R' w (upd .gone st.h id) := by
    refine hs_told hh (by rw [upd_eq, List.length_set]; exact Nat.le_refl _) (fun i x hi => by rw [upd_eq, List.length_set]; exact hh.dom i x hi) (fun _ h => .inl h) ?_ ?_ ?_ hh.lt ?_ ?_
    · rintro b (h1 | ⟨N, h1⟩ | ⟨b0, N, k, h1, h2⟩)
      · exact hh.rlt b h1
      · exact hh.lt id b N h1
      · exact (hh.ql b _ h2).1
    · intro i j b o o' hi hj li lj
      exact hh.inj i j b o o' hi hj (hl2 i li).2 (hl2 j lj).2
    · rintro i b o hi li (h1 | h1)
      · exact hh.sep i b o hi (hl2 i li).2 h1
      · exact hown_live i b o hi li h1
    · intro i b o hi
      cases hl : (nth .gone (upd .gone st.h id) i).live with
      | false => exact OR.dead_gone hkp hl (hh.obj i b o hi)
      | true =>
        obtain ⟨k1, k2⟩ := hl2 i hl
        rw [nth_upd_ne _ _ _ (fun e => k1 e.symm)]
        refine OR.keep hkp (fun b1 k h1 => ⟨hq2 b1 _ ?_ h1, rfl⟩) rfl (hh.obj i b o hi)
        rintro (⟨N, h2⟩ | ⟨b0, N, k', h2, h3⟩)
        · have := (hh.ql b1 _ h1).2.2 id N h2
          rw [hlive] at this; cases this
        · rw [h1] at h3; injection h3 with h3; injection h3 with h3 _
          exact k1 (hh.inj i id b o N hi (h3 ▸ h2) k2 hlive)
    · intro b2 ad hq
      obtain ⟨k1, k2⟩ := hq' b2 ad hq
      obtain ⟨q1, q2, q3⟩ := hh.ql b2 ad k2
      exact ⟨q1, fun h => h.elim q2 k1, fun i o hi => hlf i (q3 i o hi)⟩
  refine ⟨β', R', ⟨hs.df, ?_, hHS⟩, ⟨rfl, rfl, rfl, Nat.le_refl _, fun _ _ => rfl, fun _ _ _ => rfl, ?_, ?_⟩, fun _ h => .inl h⟩
  · have h1 : Sim G β' R' ⟨st.t, upd .gone st.h id⟩ a w := ⟨hs.df, hs.tm.mono fun _ _ => VR.keep hkp, hHS⟩
    have h0 := hs.tm
    show All2 (VR β' R' w) (upd (.c (.p (.l sz len fun e o => unP (f (e + off) o)))) st.t j) a.tmps.toList
    have h2 : ∀ (xs : List V) (ys : List Value) (j : Nat), nth (.c .top) xs j = .c (.sl id sz off len) → All2 (VR β R w) xs ys → All2 (VR β' R' w) (upd (.c (.p (.l sz len fun e o => unP (f (e + off) o)))) xs j) ys := by
      intro xs
      induction xs with
      | nil => intro ys j _ h; cases ys <;> exact h
      | cons x xs ih =>
        intro ys j hj h
        cases ys with
        | nil => exact h.elim
        | cons y ys =>
          cases j with
          | zero =>
            have hj : x = .c (.sl id sz off len) := hj
            subst hj
            exact ⟨hval y h.1, h.2.mono fun _ _ => VR.keep hkp⟩
          | succ j => exact ⟨VR.keep hkp h.1, ih ys j hj h.2⟩
    exact h2 st.t a.tmps.toList j ht h0
  · rintro b2 (⟨i, o, hi⟩ | ⟨ad, hq⟩)
    · exact .inl (.inl ⟨i, o, hi⟩)
    · exact .inl (.inr ⟨ad, (hq' b2 ad hq).2⟩)
  · rintro b (h1 | ⟨N, h1⟩ | ⟨b0, N, k, h1, h2⟩)
    · exact .inl h1
    · exact .inr (.inl (.inl ⟨id, N, h1⟩))
    · exact .inr (.inl (.inr ⟨_, h2⟩))
/-! ### Functions with loops that return a new list, which may be written afterwards -/
theorem appA_nil : ∀ l : List ACode, appA l [] = l
  | [] => rfl
  | c :: r => by simp [appA, appA_nil r]
theorem flat_ne (c : ACode) : flat c ≠ [] := by
  induction c with
  | seq a b iha _ =>
    simp only [flat]
    cases h : flat a with
    | nil => exact absurd h iha
    | cons x r => simp [appA]
  | _ => simp [flat]
theorem appA_split : ∀ {a b pre : List ACode} {x : ACode}, b ≠ [] → appA a b = appA pre [x] → ∃ pb, b = appA pb [x] ∧ pre = appA a pb
  | [], b, pre, x, _, h => ⟨pre, h, rfl⟩
  | c :: a, b, [], x, hb, h => by
    simp only [appA, List.cons.injEq] at h
    cases a with
    | nil => exact absurd h.2 hb
    | cons _ _ => simp [appA] at h
  | c :: a, b, p :: pre, x, hb, h => by
    simp only [appA, List.cons.injEq] at h
    obtain ⟨pb, h1, h2⟩ := appA_split hb h.2
    exact ⟨pb, h1, by rw [h.1, h2]; rfl⟩
/-- A value that nothing is: no return inside. -/
def vF : V := .c (.lp 0 0 (fun _ _ => .b true) 0 0)
theorem no_ret {G : Nat → Option Obj} {K : X → St → Prop} {st : St} (h : RK P G [] vF K .ret st) : False := by
  obtain ⟨x, h1, h2⟩ := h
  have h1 : [oneV []] = [x] := h1
  injection h1 with h1 _
  have := h2 Bt.nil (fun _ => False) (default : World) (.tuple #[]) (by rw [← h1]; exact ⟨#[], rfl, trivial⟩)
  obtain ⟨ad, _, h3, _⟩ := this
  exact absurd h3 (Nat.lt_irrefl 0)
theorem ExS.toRet {G : Nat → Option Obj} : ∀ {c : ACode} {pre : List ACode} {st : St} {Q : X → St → Prop} {K : X → St → Prop}, flat c = appA pre [.ret] → ExS P G [] vF pre st Q → (∀ st, Q .normal st → K .ret st) → (∀ id st, Q (.exit id) st → K (.exit id) st) → ExA P G c st K := by
  intro c
  induction c with
  | seq a b iha ihb =>
    intro pre st Q K hf h hk hx
    obtain ⟨pb, h1, rfl⟩ := appA_split (flat_ne b) hf
    have h2 := ExS.code (ExS.cut h)
    refine ExA.seq h2 (fun st' hq => ihb h1 hq hk hx) (fun e st' he hq => ?_)
    cases e with
    | normal => exact absurd rfl he
    | exit id => exact hx id st' hq
    | ret => exact (no_ret hq).elim
  | ret =>
    intro pre st Q K hf h hk hx
    cases pre with
    | nil =>
      obtain ⟨st2, h1, h2⟩ := h
      refine ExA.pre h1 ?_
      exact ExA.ev (ext := extOf []) (extOf_sound (by simp)) (ac := .ret) (st := st2) (k := fun e s => .done e s) (K := K) (hk _ h2)
    | cons p pre => cases pre <;> simp [flat, appA] at hf
  | _ =>
    intro pre st Q K hf
    cases pre with
    | nil => simp [flat, appA] at hf
    | cons p pre => cases pre <;> simp [flat, appA] at hf
/-- A function that returns a new list, which may be written, by its pieces but the last, which is the return. -/
theorem fn_rowS {G : Nat → Option Obj} {f : FuncId} {fn : Func} {r : Nat} {ty : TypeId} {sz n : Nat} {F : Nat → Nat → PV} {pre : List ACode} (hf : P.funcs[f]? = some fn) (hok : okF P fn = true) (hr : fn.results.toList = [.tmp r]) (hpre : pcs P fn = appA pre [.ret]) {args : List V} (hp : pureAll args = true)
    (h : ExS P G [] vF pre (st0 fn args) fun e st => e = .normal ∧ RowEnd r ty sz n F .ret st) (h0 : List AO) :
    FnS P G f args h0 fun x h' => x = .c (.sl (lenL h0) sz 0 n) ∧ h' = snoc (.row ty sz n fun e o => .p (F e o)) h0 :=
  fn_row hf hok hr hp (ExS.toRet hpre h (fun _ hq => hq.2) (fun _ _ hq => by cases hq.1)) h0
/-! ### Small weakenings -/
theorem holds_alt {p q : Tr} {K : X → St → Prop} : (Tr.alt p q).holds P G K ↔ p.holds P G K ∧ q.holds P G K := Iff.rfl
theorem weak_slot {j : Nat} {y : V} (h : VLe (nth (.c .top) st.t j) y) : WeakS G st ⟨upd y st.t j, st.h⟩ := fun β R a w hs =>
  ⟨β, R, Sim.same hs (fun u hu => h β R w u hu), Fr.refl _ _ _, fun _ hb => hb⟩
/-- The cells of a row say less. -/
theorem weak_rows {id : Nat} {ty : TypeId} {sz n : Nat} {f f' : Nat → Nat → C} (hid : nth .gone st.h id = .row ty sz n f) (h : ∀ e o, e < n → o < sz → ∀ (β : Bt) (R : Nat → Prop) (w : World) ad u, CRo β R w ad (f e o) u → CRo β R w ad (f' e o) u) :
    WeakS G st ⟨st.t, upd (.row ty sz n f') st.h id⟩ := by
  intro β R a w hs
  have hh := hs.hs
  have hlid := nth_gone hid (by simp)
  have hlv : ∀ i, (nth .gone (upd (.row ty sz n f') st.h id) i).live = (nth .gone st.h i).live := fun i => by
    by_cases e : id = i
    · subst e; rw [nth_upd_eq _ _ _ hlid, hid]; rfl
    · rw [nth_upd_ne _ _ _ e]
  refine ⟨β, R, ⟨hs.df, hs.tm, ?_⟩, Fr.refl _ _ _, fun _ hb => hb⟩
  refine hs_told hh (by rw [upd_eq, List.length_set]; exact Nat.le_refl _) (fun i x hi => by rw [upd_eq, List.length_set]; exact hh.dom i x hi) (fun _ h => h) hh.rlt ?_ ?_ hh.lt ?_ ?_
  · intro i j b o o' hi hj li lj
    rw [hlv] at li lj
    exact hh.inj i j b o o' hi hj li lj
  · intro i b o hi li
    rw [hlv] at li
    exact hh.sep i b o hi li
  · intro i b o hi
    by_cases e : id = i
    · subst e
      rw [nth_upd_eq _ _ _ hlid]
      have hob := hh.obj id b o hi
      rw [hid] at hob
      obtain ⟨cs, g1, g2, g3, g4⟩ := hob
      refine ⟨cs, g1, g2, g3, fun e k he hk => ?_⟩
      obtain ⟨u, u1, u2⟩ := g4 e k he hk
      exact ⟨u, u1, h e k he hk _ _ _ _ _ u2⟩
    · rw [nth_upd_ne _ _ _ e]
      exact hh.obj i b o hi
  · intro b ad hq
    obtain ⟨q1, q2, q3⟩ := hh.ql b ad hq
    exact ⟨q1, q2, fun i o hi => by rw [hlv]; exact q3 i o hi⟩
/-- A cell that is nil owns an empty list. -/
theorem own_nil {β : Bt} {R : Nat → Prop} {w : World} {ad : Nat × Nat} {u : Value} (ty : TypeId) (sz : Nat) (g : Nat → Nat → PV) (h : CRo β R w ad (.p (.z (.slice none 0 0))) u) : CRo β R w ad (.own ty sz 0 g) u := by
  have h : u = .slice none 0 0 := h
  exact ⟨none, 0, h, Nat.le_refl _, Nat.zero_le _, .inl ⟨rfl, rfl, rfl⟩⟩
end
end Go.AE
