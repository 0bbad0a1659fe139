/- AE in one text: XAe24, XAe25, XAe26, XAe27, XAe28, XAe29, XAe30, XAe31 (printed by merge.py out of them). -/
import Derived.Test.YtfjihbmehhccoaaAeC
/-! ### AE, part 24: pure functions called with lists that may still be written. -/
namespace Go.AE
set_option linter.unusedVariables false
set_option linter.unusedSimpArgs false
open Go.RowKit

section
variable {P : Program} {G : Nat → Option Obj}
/-- What a value says is also said by a plain value, where every block may be read. -/
def VLeH (G : Nat → Option Obj) (h : List AO) (x v : V) : Prop := ∀ β R w u, HS G β R w h → VR β R w x u → VR Bt.nil (fun b => b < w.heap.size) w v u
inductive VLesH (G : Nat → Option Obj) (h : List AO) : List V → List V → Prop
  | nil : VLesH G h [] []
  | cons {x v : V} {xs vs : List V} : VLeH G h x v → VLesH G h xs vs → VLesH G h (x :: xs) (v :: vs)
theorem VLesH.all {h : List AO} {β : Bt} {R : Nat → Prop} {w : World} (hh : HS G β R w h) {xs vs : List V} (hl : VLesH G h xs vs) : ∀ {us : List Value}, All2 (VR β R w) xs us → All2 (VR Bt.nil (fun b => b < w.heap.size) w) vs us := by
  induction hl with
  | nil => intro us hu; cases us <;> exact hu
  | cons h1 _ ih =>
    intro us hu
    cases us with
    | nil => exact hu.elim
    | cons u us => exact ⟨h1 _ _ _ _ hh hu.1, ih hu.2⟩
/-- Values that hold no block. -/
def Scal (v : V) : Prop := ∀ β R w β' R' w' u, VR β R w v u → VR β' R' w' v u
theorem fn_mut {f : FuncId} {args args' : List V} {h : List AO} {v : V} (hl : VLesH G h args args') (hf : FnS P G f args' [] fun x h' => x = v ∧ h' = []) (hv : Scal v) : FnS P G f args h fun x h' => x = v ∧ h' = h := by
  intro β R w vs ha hh
  refine (hf Bt.nil (fun b => b < w.heap.size) w vs (hl.all hh ha) ⟨(fun _ _ h => by cases h), (fun _ _ _ _ _ h => by cases h), (fun _ _ _ h => by cases h), (fun _ _ _ h => by cases h), (fun _ h => h), (fun _ _ _ h => by cases h), fun b o hb => ⟨hh.rlt b (hh.gl b o hb).1, (hh.gl b o hb).2⟩, (fun _ _ h => by cases h)⟩).mono ?_
  rintro e w' ⟨u, β1, R1, x, h1, rfl, ⟨rfl, _⟩, h2, _, h3, _⟩
  have hb : Below w.heap.size w w' := ⟨h3.os, h3.tape, h3.output, h3.size, fun b hb => h3.rs b hb⟩
  obtain ⟨c1, c2⟩ := hh.below hb
  exact ⟨u, β, newR R w w', x, h, rfl, ⟨rfl, rfl⟩, hv _ _ _ _ _ _ _ h2, c1, c2, fun _ _ => rfl⟩
theorem fr_below {R : Nat → Prop} {w w' : World} (hr : ∀ b, R b → b < w.heap.size) (hb : Below w.heap.size w w') : Fr Bt.nil R w Bt.nil R w' :=
  ⟨hb.os, hb.tape, hb.output, hb.size, fun b h => hb.block b (hr b h), fun b h _ => hb.block b h, (fun _ h => absurd h Bt.nil_has), fun _ h => .inl h⟩
/-- One new block, seen from outside. -/
def b1 (g N : Nat) : Bt := ⟨fun i => if i = 0 then some (g, N) else none, fun _ => none⟩
theorem fr_row {R : Nat → Prop} {w w' : World} (hr : ∀ b, R b → b < w.heap.size) (hb : Below w.heap.size w w') {g N : Nat} (hg : w.heap.size ≤ g) : Fr Bt.nil R w (b1 g N) R w' :=
  ⟨hb.os, hb.tape, hb.output, hb.size, fun b h => hb.block b (hr b h), fun b h _ => hb.block b h, (fun b h => by
    rcases h with ⟨i, o, h⟩ | ⟨ad, h⟩
    · have h : (if i = 0 then some (g, N) else none) = some (b, o) := h
      split at h
      · injection h with h; injection h with h1 h2; exact .inr (h1 ▸ hg)
      · cases h
    · cases h), fun _ h => .inl h⟩
theorem hs_row {β : Bt} {R : Nat → Prop} {w w' : World} {h : List AO} (hh : HS G β R w h) (hb : Below w.heap.size w w') {g N : Nat} (hg : w.heap.size ≤ g) (hlt : g < w'.heap.size) {x : AO} (hob : OR (b1 g N) R w' x g N) : HS G (b1 g N) R w' [x] := by
  have key : ∀ {i : Nat} {y : Nat × Nat}, b1 g N i = some y → i = 0 ∧ y = (g, N) := by
    intro i y hy
    have hy : (if i = 0 then some (g, N) else none) = some y := hy
    split at hy
    · rename_i h0; injection hy with hy; exact ⟨h0, hy.symm⟩
    · cases hy
  refine ⟨?_, ?_, ?_, ?_, ?_, ?_, ?_, (fun _ _ h => by cases h)⟩
  · intro i y hy; rw [(key hy).1]; exact Nat.zero_lt_one
  · intro i j b o o' hi hj _ _; rw [(key hi).1, (key hj).1]
  · intro i b o hi _ hr
    have := (key hi).2
    injection this with h1 h2
    have := hh.rlt b hr
    omega
  · intro i b o hi
    have := (key hi).2
    injection this with h1 h2
    omega
  · intro b hr; exact Nat.lt_of_lt_of_le (hh.rlt b hr) hb.size
  · intro i b o hi
    obtain ⟨h1, h2⟩ := key hi
    injection h2 with h2 h3
    subst h1; subst h2; subst h3
    exact hob
  · intro b o hgb
    obtain ⟨h1, h2⟩ := hh.gl b o hgb
    exact ⟨h1, (hb.block b (hh.rlt b h1)).trans h2⟩
end
end Go.AE
/-! ### AE, part 25: functions whose result is a list that they made themselves. -/
namespace Go.AE
set_option linter.unusedVariables false
set_option linter.unusedSimpArgs false
open Go.RowKit

section
variable {P : Program} {G : Nat → Option Obj}
/-- The blocks that are new. -/
def onlyN (w w' : World) (b : Nat) : Prop := w.heap.size ≤ b ∧ b < w'.heap.size
/-- A call that returns a list of numbers which it made itself. -/
def FnN (P : Program) (G : Nat → Option Obj) (f : FuncId) (args : List V) (L : List Int) : Prop :=
  ∀ R w (vs : Array Value), (∀ b, R b → b < w.heap.size) → (∀ b o, G b = some o → R b ∧ w.heap[b]? = some o) → All2 (VR Bt.nil R w) args vs.toList →
    Calls P f vs w fun e w' => ∃ u, e = .returned u ∧ VR Bt.nil (onlyN w w') w' (listV encI 1 L) u ∧ Below w.heap.size w w'
theorem fn_new {f : FuncId} {fn : Func} {t : Nat} (hf : P.funcs[f]? = some fn) (hok : okF P fn = true) (hr : fn.results.toList = [.tmp t]) {args : List V} {L : List Int}
    (h : ExS P G [.new t] (listV encI 1 L) (pcs P fn) (st0 fn args) fun _ _ => False) : FnN P G f args L := by
  unfold okF at hok
  simp only [Bool.and_eq_true, Option.isSome_iff_exists] at hok
  obtain ⟨⟨c, hc⟩, _⟩ := hok
  have e1 : codeOf P fn = c := by unfold codeOf; rw [hc]; rfl
  have h := ExS.code h
  rw [e1] at h
  simp only [Option.bind_eq_some_iff] at hc
  obtain ⟨c0, hb, hc⟩ := hc
  intro R w vs hrl hgl ha
  refine calls_of_wp hf hb (Code.wp_mono ?_ (h c0 hc Bt.nil R { tmps := vs ++ Array.replicate (fn.ntmps - vs.size) undef, defers := [] } w ?_))
  · intro e a' w' hq
    cases e with
    | ret =>
      obtain ⟨β', R', st', q1, hs, hfr, hrr⟩ := hq
      have q1 : (finT [.new t] .ret st').holds P G fun _ s => ∃ x, s.t = [x] ∧ VLe x (listV encI 1 L) := q1
      have hv := ev_sound (x := .tmp t) hs rfl
      have hv : VR β' R' w' (nth (.c .top) st'.t t) (a'.tmps.getD t undef) := hv
      have hres : (results fn a'.tmps).run P w' = .ok (a'.tmps.getD t undef) w' := by
        refine results_eq (us := [a'.tmps.getD t undef]) fn a'.tmps ?_
        rw [hr]
        simp [List.mapM_cons, runR]
      refine ⟨hs.df, _, hres, _, rfl, ?_, ⟨hfr.os, hfr.tape, hfr.output, hfr.size, fun b hlt => hfr.fr b hlt Bt.nil_has⟩⟩
      simp only [finT, resL, rawR] at q1
      split at q1
      · rename_i id sz off len he
        rw [he] at hv
        have q2 : (frzC st'.h (.sl id sz off len) fun p => Tr.done X.ret ⟨[oneV [.c (.p p)]], []⟩).holds P G fun _ s => ∃ x, s.t = [x] ∧ VLe x (listV encI 1 L) := q1
        obtain ⟨p, k1, k2⟩ := frzC_sound (P := P) hs.hs (show CR β' R' w' (.sl id sz off len) _ from hv) q2
        obtain ⟨x, k3, k4⟩ := k2
        injection k3 with k3 _
        subst k3
        obtain ⟨A, cp, hsl, g1, g2, g3⟩ := k4 Bt.nil (frz β' R') w' _ k1
        obtain ⟨A', cp', hsl', g1', g2', g3'⟩ := hv
        have hsl : a'.tmps.getD t undef = .slice A L.length cp := hsl
        rw [hsl] at hsl'
        injection hsl' with e1 e2 e3
        subst e1; subst e2; subst e3
        refine ⟨A, cp, hsl, g1, g2, fun hn => ?_⟩
        obtain ⟨ad, rfl, _, g5⟩ := g3 hn
        rcases g3' with ⟨_, g6, _⟩ | ⟨b, N, g6, g7, _⟩
        · omega
        · injection g7 with g7
          subst g7
          refine ⟨_, rfl, ⟨?_, hs.hs.lt id b N g6⟩, fun e o he ho => ?_⟩
          · rcases hfr.ex b (.inl ⟨id, N, g6⟩) with h | h
            · exact absurd h Bt.nil_has
            · exact h
          · obtain ⟨u, k5, k6⟩ := g5 e o he ho
            exact ⟨u, k5, k6⟩
      · rename_i he
        rw [he] at hv
        have hv : a'.tmps.getD t undef = .slice none 0 0 := hv
        obtain ⟨x, k3, k4⟩ := q1
        injection k3 with k3 _
        subst k3
        rw [hv]
        obtain ⟨A, cp, hsl, g1, g2, g3⟩ := k4 Bt.nil (fun _ => False) w' (.slice none 0 0) rfl
        injection hsl with e1 e2 e3
        subst e1; subst e3
        exact ⟨none, 0, by rw [← e2], by omega, g2, fun hn => by omega⟩
      · exact q1.elim
    | normal => obtain ⟨_, _, _, q1, _⟩ := hq; exact q1.elim
    | exit id => obtain ⟨_, _, _, q1, _⟩ := hq; exact q1.elim
    | _ => exact hq.elim
  · refine ⟨rfl, ?_, ?_⟩
    · have hl : args.length = vs.size := by simpa using ha.length
      show All2 _ (args ++ List.replicate (fn.ntmps - args.length) (.t [])) _
      rw [Array.toList_append, Array.toList_replicate, hl]
      exact ha.append (undefs_all _)
    · exact ⟨(fun i x hi => by cases hi), (fun i j b o o' hi => by cases hi), (fun i b o hi => by cases hi), (fun i b o hi => by cases hi), hrl, (fun i b o hi => by cases hi), hgl, fun b ad hb => by cases hb⟩
/-- The same, called with lists that may still be written. -/
theorem fn_newH {f : FuncId} {args args' : List V} {h : List AO} {L : List Int} (hl : VLesH G h args args') (hf : FnN P G f args' L) : FnS P G f args h fun x h' => x = listV encI 1 L ∧ h' = h := by
  intro β R w vs ha hh
  refine (hf (fun b => b < w.heap.size) w vs (fun _ h => h) (fun b o hb => ⟨hh.rlt b (hh.gl b o hb).1, (hh.gl b o hb).2⟩) (hl.all hh ha)).mono ?_
  rintro e w' ⟨u, rfl, h1, hb⟩
  obtain ⟨c1, c2⟩ := hh.below hb
  exact ⟨u, β, newR R w w', _, h, rfl, ⟨rfl, rfl⟩, VR.keep ⟨(fun _ _ hi => by cases hi), fun b hb => .inr hb, fun _ _ => rfl⟩ h1, c1, c2, fun _ _ => rfl⟩
end
end Go.AE
/-! ### AE, part 26: cells that own a list: opened and closed; lists that are frozen. -/
namespace Go.AE
set_option linter.unusedVariables false
set_option linter.unusedSimpArgs false
open Go.RowKit

section
variable {P : Program} {G : Nat → Option Obj} {β : Bt} {R : Nat → Prop} {w : World} {st : St}
theorem cell_inj {sz e e' k k' : Nat} (hk : k < sz) (hk' : k' < sz) (h : e * sz + k = e' * sz + k') : e = e' ∧ k = k' := by
  have h1 : (e * sz + k) / sz = e := by rw [Nat.mul_comm, Nat.mul_add_div (by omega), Nat.div_eq_of_lt hk]; rfl
  have h2 : (e' * sz + k') / sz = e' := by rw [Nat.mul_comm, Nat.mul_add_div (by omega), Nat.div_eq_of_lt hk']; rfl
  have h3 : e = e' := by rw [← h1, ← h2, h]
  subst h3
  exact ⟨rfl, by omega⟩
/-- The same memory, told otherwise. -/
theorem hs_told {h h' : List AO} (hh : HS G β R w h) {β' : Bt} {R' : Nat → Prop} (hlen : h.length ≤ h'.length) (hf : ∀ i x, β' i = some x → i < h'.length) (hrm : ∀ b, R b → R' b) (hrlt : ∀ b, R' b → b < w.heap.size)
    (hinj : ∀ i j b o o', β' i = some (b, o) → β' j = some (b, o') → (nth .gone h' i).live = true → (nth .gone h' j).live = true → i = j) (hsep : ∀ i b o, β' i = some (b, o) → (nth .gone h' i).live = true → ¬ R' b)
    (hlt : ∀ i b o, β' i = some (b, o) → b < w.heap.size) (hobj : ∀ i b o, β' i = some (b, o) → OR β' R' w (nth .gone h' i) b o)
    (hql : ∀ b ad, β'.q b = some ad → b < w.heap.size ∧ ¬ R' b ∧ ∀ i o, β' i = some (b, o) → (nth .gone h' i).live = false) : HS G β' R' w h' :=
  ⟨hf, hinj, hsep, hlt, hrlt, hobj, fun b o hb => ⟨hrm b (hh.gl b o hb).1, (hh.gl b o hb).2⟩, hql⟩
def qset (β : Bt) (b : Nat) (x : Option (Nat × Nat)) : Bt := ⟨β.f, fun b1 => if b1 = b then x else β.q b1⟩
theorem qset_same (β : Bt) (b : Nat) (x : Option (Nat × Nat)) : (qset β b x).q b = x := by simp [qset]
theorem qset_other {β : Bt} {b b1 : Nat} (x : Option (Nat × Nat)) (h : b1 ≠ b) : (qset β b x).q b1 = β.q b1 := by simp [qset, h]
theorem nth_takeF (f : Nat → C) : ∀ (n o k : Nat), k < n → nth .top (takeF f o n) k = f (o + k)
  | n + 1, o, 0, _ => rfl
  | n + 1, o, k + 1, h => by
    show nth .top (takeF f (o + 1) n) k = _
    rw [nth_takeF f n (o + 1) k (by omega)]
    congr 1
    omega
theorem takeF_length (f : Nat → C) : ∀ (n o : Nat), (takeF f o n).length = n
  | 0, _ => rfl
  | n + 1, o => by simp [takeF, takeF_length f n (o + 1)]
/-- A cell's own list gets a number of its own. -/
theorem weak_open {id e0 k0 : Nat} {ty ty' : TypeId} {sz n sz' n' : Nat} {f : Nat → Nat → C} {g : Nat → Nat → PV} (hid : nth .gone st.h id = .row ty sz n f) (he : e0 < n) (hk : k0 < sz) (hf : f e0 k0 = .own ty' sz' n' g) :
    WeakS G st ⟨st.t, snoc (.row ty' sz' n' fun e o => .p (g e o)) (upd (.foc ty sz n e0 (upd (.sl (lenL st.h) sz' 0 n') (takeF (f e0) 0 sz) k0) f) st.h id)⟩ := by
  rw [lenL_eq]
  intro β R a w hs
  have hh := hs.hs
  have hlid := nth_gone hid (by simp)
  have hlenu : ∀ x : AO, (upd x st.h id).length = st.h.length := fun x => by rw [upd_eq]; simp
  have hnew : ∀ x y : AO, nth .gone (snoc y (upd x st.h id)) st.h.length = y := fun x y => by
    have := nth_snoc_eq AO.gone y (upd x st.h id)
    rwa [hlenu] at this
  have hold : ∀ (x y : AO) i, i < st.h.length → nth .gone (snoc y (upd x st.h id)) i = nth .gone (upd x st.h id) i := fun x y i hi => nth_snoc_lt _ _ _ (by rw [hlenu]; exact hi)
  have hne : ∀ (x y : AO) i, i < st.h.length → i ≠ id → nth .gone (snoc y (upd x st.h id)) i = nth .gone st.h i := fun x y i hi e => by
    rw [hold x y i hi, nth_upd_ne _ _ _ (fun h => e h.symm)]
  have heq : ∀ x y : AO, nth .gone (snoc y (upd x st.h id)) id = x := fun x y => by rw [hold x y id hlid, nth_upd_eq _ _ _ hlid]
  have hlive : ∀ i, (nth .gone st.h i).live = true → i ≠ id → ∀ b o b' o', β i = some (b, o) → β id = some (b', o') → b ≠ b' := fun i hl hne b o b' o' h1 h2 e =>
    hne (hh.inj i id b o o' h1 (e ▸ h2) hl (by rw [hid]; rfl))
  cases hb : β id with
  | none =>
    refine ⟨β, R, ⟨hs.df, hs.tm, ?_⟩, Fr.refl _ _ _, fun _ h => h⟩
    have hni : ∀ i x, β i = some x → i ≠ id := fun i x hi e => by rw [e, hb] at hi; cases hi
    have hns : ∀ i x, β i = some x → nth .gone (snoc (.row ty' sz' n' fun e o => .p (g e o)) (upd (.foc ty sz n e0 (upd (.sl st.h.length sz' 0 n') (takeF (f e0) 0 sz) k0) f) st.h id)) i = nth .gone st.h i := fun i x hi => hne _ _ i (hh.dom i x hi) (hni i x hi)
    refine hs_told hh (by rw [snoc_eq]; simp [hlenu]) (fun i x hi => by rw [snoc_eq]; have := hh.dom i x hi; simp [hlenu]; omega) (fun _ h => h) hh.rlt ?_ ?_ hh.lt ?_ ?_
    · intro i j b o o' hi hj li lj
      rw [hns i _ hi] at li; rw [hns j _ hj] at lj
      exact hh.inj i j b o o' hi hj li lj
    · intro i b o hi li
      rw [hns i _ hi] at li
      exact hh.sep i b o hi li
    · intro i b o hi
      rw [hns i _ hi]
      exact hh.obj i b o hi
    · intro b ad hq
      obtain ⟨q1, q2, q3⟩ := hh.ql b ad hq
      exact ⟨q1, q2, fun i o hi => by rw [hns i _ hi]; exact q3 i o hi⟩
  | some bN =>
    obtain ⟨b, N⟩ := bN
    have hob := hh.obj id b N hb
    rw [hid] at hob
    obtain ⟨cs, g1, g2, g3, g4⟩ := hob
    obtain ⟨u, u1, u2⟩ := g4 e0 k0 he hk
    rw [hf] at u2
    obtain ⟨A, c, a1, a2, a3, a4⟩ := u2
    -- what the focussed row says
    have hfoc : ∀ (β' : Bt), Keeps β R w β' R w → (∀ b1 k, β.q b1 = some (b, k) → k ≠ e0 * sz + k0 → β'.q b1 = some (b, k)) → CR β' R w (.sl st.h.length sz' 0 n') u → OR β' R w (.foc ty sz n e0 (upd (.sl st.h.length sz' 0 n') (takeF (f e0) 0 sz) k0) f) b N := by
      intro β' kp kq hu
      refine ⟨cs, g1, g2, g3, he, by rw [upd_eq, List.length_set, takeF_length], fun e k he' hk' => ?_⟩
      obtain ⟨v, v1, v2⟩ := g4 e k he' hk'
      refine ⟨v, v1, fun e1 => ?_, fun e1 => ?_⟩
      · subst e1
        by_cases e2 : k = k0
        · subst e2
          rw [nth_upd_eq _ _ _ (by rw [takeF_length]; exact hk)]
          rw [u1] at v1; injection v1 with v1; subst v1
          exact hu
        · rw [nth_upd_ne _ _ _ (fun h => e2 h.symm), nth_takeF _ _ _ _ hk', Nat.zero_add]
          exact CR.keep kp v2.cr
      · refine CRo_keep' kp ?_ v2
        intro b1 hq
        exact ⟨kq b1 _ hq (fun h => e1 (cell_inj hk' hk h).1), rfl⟩
    rcases a4 with ⟨rfl, rfl, rfl⟩ | ⟨b1, cs1, rfl, p1, p2, p3, p4⟩
    · refine ⟨β, R, ⟨hs.df, hs.tm, ?_⟩, Fr.refl _ _ _, fun _ h => h⟩
      have hkp : Keeps β R w β R w := ⟨fun _ _ h => h, fun _ h => h, fun _ _ => rfl⟩
      have hO := hfoc β hkp (fun _ _ h _ => h) ⟨none, 0, a1, Nat.le_refl _, Nat.zero_le _, .inl ⟨.inl rfl, rfl, rfl⟩⟩
      have hlv : ∀ i, i < st.h.length → (nth .gone (snoc (.row ty' sz' 0 fun e o => .p (g e o)) (upd (.foc ty sz n e0 (upd (.sl st.h.length sz' 0 0) (takeF (f e0) 0 sz) k0) f) st.h id)) i).live = (nth .gone st.h i).live := fun i hi => by
        by_cases e : i = id
        · subst e; rw [heq, hid]; rfl
        · rw [hne _ _ i hi e]
      refine hs_told hh (by rw [snoc_eq]; simp [hlenu]) (fun i x hi => by rw [snoc_eq]; have := hh.dom i x hi; simp [hlenu]; omega) (fun _ h => h) hh.rlt ?_ ?_ hh.lt ?_ ?_
      · intro i j b o o' hi hj li lj
        rw [hlv i (hh.dom i _ hi)] at li; rw [hlv j (hh.dom j _ hj)] at lj
        exact hh.inj i j b o o' hi hj li lj
      · intro i b o hi li
        rw [hlv i (hh.dom i _ hi)] at li
        exact hh.sep i b o hi li
      · intro i b' o hi
        by_cases e : i = id
        · subst e
          rw [heq]
          rw [hb] at hi; injection hi with hi; injection hi with e1 e2; subst e1; subst e2
          exact hO
        · rw [hne _ _ i (hh.dom i _ hi) e]
          exact hh.obj i b' o hi
      · intro b' ad hq
        obtain ⟨q1, q2, q3⟩ := hh.ql b' ad hq
        exact ⟨q1, q2, fun i o hi => by rw [hlv i (hh.dom i _ hi)]; exact q3 i o hi⟩
    · obtain ⟨q1, q2, q3⟩ := hh.ql b1 _ p1
      let β' : Bt := qset (bn β st.h.length (b1, c * sz')) b1 none
      have hf' : ∀ i, β' i = bn β st.h.length (b1, c * sz') i := fun i => rfl
      have hm : ∀ i x, β i = some x → β' i = some x := fun i x hi => by
        rw [hf', bn_other _ (by have := hh.dom i x hi; omega)]; exact hi
      have hcase : ∀ i y, β' i = some y → (i = st.h.length ∧ y = (b1, c * sz')) ∨ (i < st.h.length ∧ β i = some y) := fun i y hi => by
        rw [hf'] at hi
        by_cases he : i = st.h.length
        · subst he; rw [bn_same] at hi; injection hi with hi; exact .inl ⟨rfl, hi.symm⟩
        · rw [bn_other _ he] at hi; exact .inr ⟨hh.dom i y hi, hi⟩
      have hq' : ∀ b2 ad, β'.q b2 = some ad → b2 ≠ b1 ∧ β.q b2 = some ad := fun b2 ad h => by
        by_cases e : b2 = b1
        · subst e; rw [qset_same] at h; cases h
        · rw [qset_other _ e] at h; exact ⟨e, h⟩
      have hkp : Keeps β R w β' R w := ⟨hm, fun _ h => h, fun _ _ => rfl⟩
      have hdead : ∀ i o, β i = some (b1, o) → (nth .gone st.h i).live = false := q3
      have hO := hfoc β' hkp (fun b2 k h1 h2 => by
        rw [qset_other _ (fun e => by subst e; rw [p1] at h1; injection h1 with h1; injection h1 with _ h1; exact h2 h1.symm)]; exact h1) ⟨_, c, a1, a2, a3, .inr ⟨b1, c * sz', by rw [hf', bn_same], by simp, by simp⟩⟩
      have hlv : ∀ i, i < st.h.length → (nth .gone (snoc (.row ty' sz' n' fun e o => .p (g e o)) (upd (.foc ty sz n e0 (upd (.sl st.h.length sz' 0 n') (takeF (f e0) 0 sz) k0) f) st.h id)) i).live = (nth .gone st.h i).live := fun i hi => by
        by_cases e : i = id
        · subst e; rw [heq, hid]; rfl
        · rw [hne _ _ i hi e]
      refine ⟨β', R, ⟨hs.df, hs.tm.mono fun _ _ => VR.keep hkp, ?_⟩, ⟨rfl, rfl, rfl, Nat.le_refl _, fun _ _ => rfl, fun _ _ _ => rfl, ?_, fun _ h => .inl h⟩, fun _ h => h⟩
      · refine hs_told hh (by rw [snoc_eq]; simp [hlenu]) ?_ (fun _ h => h) hh.rlt ?_ ?_ ?_ ?_ ?_
        · intro i x hi
          rw [snoc_eq]; simp [hlenu]
          rcases hcase i x hi with ⟨e, _⟩ | ⟨e, _⟩ <;> omega
        · intro i j b' o o' hi hj li lj
          rcases hcase i _ hi with ⟨e1, k1⟩ | ⟨e1, k1⟩
          · rcases hcase j _ hj with ⟨e2, k2⟩ | ⟨e2, k2⟩
            · omega
            · injection k1 with k1 _
              subst k1
              rw [hlv j e2, hdead j _ k2] at lj; cases lj
          · rw [hlv i e1] at li
            rcases hcase j _ hj with ⟨e2, k2⟩ | ⟨e2, k2⟩
            · injection k2 with k2 _
              subst k2
              rw [hdead i _ k1] at li; cases li
            · rw [hlv j e2] at lj
              exact hh.inj i j b' o o' k1 k2 li lj
        · intro i b' o hi li
          rcases hcase i _ hi with ⟨e1, k1⟩ | ⟨e1, k1⟩
          · injection k1 with k1 _; subst k1; exact q2
          · rw [hlv i e1] at li; exact hh.sep i b' o k1 li
        · intro i b' o hi
          rcases hcase i _ hi with ⟨e1, k1⟩ | ⟨e1, k1⟩
          · injection k1 with k1 _; subst k1; exact q1
          · exact hh.lt i b' o k1
        · intro i b' o hi
          rcases hcase i _ hi with ⟨e1, k1⟩ | ⟨e1, k1⟩
          · injection k1 with k1 k2
            subst k1; subst k2; subst e1
            rw [hnew]
            exact ⟨cs1, p2, p3, Nat.mul_le_mul_right _ a2, fun e k he hk => by
              obtain ⟨u, r1, r2⟩ := p4 e k he hk
              exact ⟨u, r1, r2⟩⟩
          · by_cases e : i = id
            · subst e
              rw [heq]
              rw [hb] at k1; injection k1 with k1; injection k1 with e1 e2; subst e1; subst e2
              exact hO
            · rw [hne _ _ i e1 e]
              cases hl : (nth .gone st.h i).live with
              | false => exact OR.dead hkp hl (hh.obj i b' o k1)
              | true =>
                refine OR.keep hkp (fun b2 k h1 => ⟨?_, rfl⟩) rfl (hh.obj i b' o k1)
                rw [qset_other _ (fun e2 => by
                  subst e2
                  rw [p1] at h1; injection h1 with h1; injection h1 with h1 _
                  exact hlive i hl e b' o b N k1 hb h1.symm)]
                exact h1
        · intro b2 ad hq
          obtain ⟨e1, k1⟩ := hq' b2 ad hq
          obtain ⟨r1, r2, r3⟩ := hh.ql b2 ad k1
          refine ⟨r1, r2, fun i o hi => ?_⟩
          rcases hcase i _ hi with ⟨e2, k2⟩ | ⟨e2, k2⟩
          · injection k2 with k2 _; exact absurd k2 e1
          · rw [hlv i e2]; exact r3 i o k2
      · rintro b2 (⟨i, o, hi⟩ | ⟨ad, hq⟩)
        · rcases hcase i _ hi with ⟨e2, k2⟩ | ⟨e2, k2⟩
          · injection k2 with k2 _; subst k2; exact .inl (.inr ⟨_, p1⟩)
          · exact .inl (.inl ⟨i, o, k2⟩)
        · exact .inl (.inr ⟨ad, (hq' b2 ad hq).2⟩)
/-- .. and gives it back. -/
theorem weak_close {id m e0 k0 : Nat} {ty ty' : TypeId} {sz n sz' n' : Nat} {vs : List C} {f h : Nat → Nat → C} {g : Nat → Nat → PV} (hid : nth .gone st.h id = .foc ty sz n e0 vs f) (hmd : nth .gone st.h m = .row ty' sz' n' h) (hg : ∀ e o, e < n' → o < sz' → h e o = .p (g e o)) (hk : k0 < sz) (hv : nth .top vs k0 = .sl m sz' 0 n')
    (ho : ∀ k, k < sz → k ≠ k0 → (nth .top vs k).isOwn = false) :
    WeakS G st ⟨st.t, upd .gone (upd (.row ty sz n fun e k => if e = e0 then (if k = k0 then .own ty' sz' n' g else nth .top vs k) else f e k) st.h id) m⟩ := by
  intro β R a w hs
  have hh := hs.hs
  have hlid := nth_gone hid (by simp)
  have hlm := nth_gone hmd (by simp)
  have him : id ≠ m := fun e => by subst e; rw [hid] at hmd; cases hmd
  have hlenu : ∀ x : AO, (upd .gone (upd x st.h id) m).length = st.h.length := fun x => by rw [upd_eq, upd_eq]; simp
  have hne : ∀ (x : AO) i, i ≠ id → i ≠ m → nth .gone (upd .gone (upd x st.h id) m) i = nth .gone st.h i := fun x i e1 e2 => by
    rw [nth_upd_ne _ _ _ (fun h => e2 h.symm), nth_upd_ne _ _ _ (fun h => e1 h.symm)]
  have heq : ∀ x : AO, nth .gone (upd .gone (upd x st.h id) m) id = x := fun x => by rw [nth_upd_ne _ _ _ (fun h => him h.symm), nth_upd_eq _ _ _ hlid]
  have hem : ∀ x : AO, nth .gone (upd .gone (upd x st.h id) m) m = .gone := fun x => nth_upd_eq _ _ _ (by rw [upd_eq, List.length_set]; exact hlm)
  have hlv : ∀ (i : Nat), (nth .gone (upd .gone (upd (.row ty sz n fun e k => if e = e0 then (if k = k0 then .own ty' sz' n' g else nth .top vs k) else f e k) st.h id) m) i).live = true → i ≠ m ∧ (nth .gone st.h i).live = true := fun i hl => by
    by_cases e1 : i = m
    · subst e1; rw [hem] at hl; cases hl
    · refine ⟨e1, ?_⟩
      by_cases e2 : i = id
      · subst e2; rw [hid]; rfl
      · rw [hne _ i e2 e1] at hl; exact hl
  have hlf : ∀ (i : Nat), (nth .gone st.h i).live = false → (nth .gone (upd .gone (upd (.row ty sz n fun e k => if e = e0 then (if k = k0 then .own ty' sz' n' g else nth .top vs k) else f e k) st.h id) m) i).live = false := fun i hl => by
    by_cases e1 : i = m
    · subst e1; rw [hem]; rfl
    · by_cases e2 : i = id
      · subst e2; rw [hid] at hl; cases hl
      · rw [hne _ i e2 e1]; exact hl
  -- the row, from what its cell is told to be
  have hrow : ∀ (β' : Bt) b N, β id = some (b, N) → Keeps β R w β' R w → (∀ b1 k, β.q b1 = some (b, k) → β'.q b1 = some (b, k)) → (∀ u cs, w.heap[b]? = some (.cells cs ty (0, 0)) → cs[e0 * sz + k0]? = some u → CR β R w (.sl m sz' 0 n') u → CRo β' R w (b, e0 * sz + k0) (.own ty' sz' n' g) u) →
      OR β' R w (.row ty sz n fun e k => if e = e0 then (if k = k0 then .own ty' sz' n' g else nth .top vs k) else f e k) b N := by
    intro β' b N hb kp kq hu
    have hob := hh.obj id b N hb
    rw [hid] at hob
    obtain ⟨cs, g1, g2, g3, g31, g32, g4⟩ := hob
    refine ⟨cs, g1, g2, g3, fun e k he' hk' => ?_⟩
    obtain ⟨v, v1, v2, v3⟩ := g4 e k he' hk'
    refine ⟨v, v1, ?_⟩
    dsimp only
    by_cases e1 : e = e0
    · subst e1
      rw [if_pos rfl]
      by_cases e2 : k = k0
      · subst e2
        rw [if_pos rfl]
        have := v2 rfl
        rw [hv] at this
        exact hu v cs g1 v1 this
      · rw [if_neg e2]
        exact CRo.of (ho k hk' e2) (CR.keep kp (v2 rfl))
    · rw [if_neg e1]
      exact CRo_keep' kp (fun b1 hq => ⟨kq b1 _ hq, rfl⟩) (v3 e1)
  have fin : ∀ (β' : Bt), (∀ i, β' i = β i) → (∀ b N, β id = some (b, N) → ∀ u cs, w.heap[b]? = some (.cells cs ty (0, 0)) → cs[e0 * sz + k0]? = some u → CR β R w (.sl m sz' 0 n') u → CRo β' R w (b, e0 * sz + k0) (.own ty' sz' n' g) u) →
      (∀ b2 ad, β'.q b2 = some ad → β.q b2 = some ad ∨ ∃ N, β m = some (b2, N)) → (∀ b2 ad, β.q b2 = some ad → β'.q b2 = some ad) →
      ∃ β2 R2, Sim G β2 R2 ⟨st.t, upd .gone (upd (.row ty sz n fun e k => if e = e0 then (if k = k0 then .own ty' sz' n' g else nth .top vs k) else f e k) st.h id) m⟩ a w ∧ Fr β R w β2 R2 w ∧ ∀ b, R b → R2 b := by
    intro β' hf hu hq1 hq2
    have hkp : Keeps β R w β' R w := ⟨fun i x h => by rw [hf]; exact h, fun _ h => h, fun _ _ => rfl⟩
    refine ⟨β', R, ⟨hs.df, hs.tm.mono fun _ _ => VR.keep hkp, ?_⟩, ⟨rfl, rfl, rfl, Nat.le_refl _, fun _ _ => rfl, fun _ _ _ => rfl, ?_, fun _ h => .inl h⟩, fun _ h => h⟩
    · refine hs_told hh (by rw [hlenu]; exact Nat.le_refl _) (fun i x hi => by rw [hlenu]; rw [hf] at hi; exact hh.dom i x hi) (fun _ h => h) hh.rlt ?_ ?_ ?_ ?_ ?_
      · intro i j b o o' hi hj li lj
        rw [hf] at hi hj
        exact hh.inj i j b o o' hi hj (hlv i li).2 (hlv j lj).2
      · intro i b o hi li
        rw [hf] at hi
        exact hh.sep i b o hi (hlv i li).2
      · intro i b o hi
        rw [hf] at hi
        exact hh.lt i b o hi
      · intro i b o hi
        rw [hf] at hi
        by_cases e2 : i = id
        · subst e2
          rw [heq]
          exact hrow β' b o hi hkp (fun b1 k h => hq2 b1 _ h) (hu b o hi)
        · by_cases e1 : i = m
          · subst e1; rw [hem]; exact trivial
          · rw [hne _ i e2 e1]
            exact OR.keep hkp (fun b1 k h => ⟨hq2 b1 _ h, rfl⟩) rfl (hh.obj i b o hi)
      · intro b2 ad hq
        rcases hq1 b2 ad hq with h1 | ⟨N, h1⟩
        · obtain ⟨q1, q2, q3⟩ := hh.ql b2 ad h1
          exact ⟨q1, q2, fun i o hi => hlf i (q3 i o (by rw [hf] at hi; exact hi))⟩
        · refine ⟨hh.lt m b2 N h1, hh.sep m b2 N h1 (by rw [hmd]; rfl), fun i o hi => ?_⟩
          rw [hf] at hi
          cases hl : (nth .gone (upd .gone (upd (.row ty sz n fun e k => if e = e0 then (if k = k0 then .own ty' sz' n' g else nth .top vs k) else f e k) st.h id) m) i).live with
          | false => rfl
          | true =>
            obtain ⟨k1, k2⟩ := hlv i hl
            exact absurd (hh.inj i m b2 o N hi h1 k2 (by rw [hmd]; rfl)) k1
    · rintro b2 (⟨i, o, hi⟩ | ⟨ad, hq⟩)
      · rw [hf] at hi; exact .inl (.inl ⟨i, o, hi⟩)
      · rcases hq1 b2 ad hq with h1 | ⟨N, h1⟩
        · exact .inl (.inr ⟨ad, h1⟩)
        · exact .inl (.inl ⟨m, N, h1⟩)
  cases hb : β id with
  | none => exact fin β (fun _ => rfl) (fun b N h => by rw [hb] at h; cases h) (fun _ _ h => .inl h) (fun _ _ h => h)
  | some bN =>
    obtain ⟨b, N⟩ := bN
    cases hbm : β m with
    | none =>
      refine fin β (fun _ => rfl) ?_ (fun _ _ h => .inl h) (fun _ _ h => h)
      intro b' N' _ u cs _ _ hu
      obtain ⟨A, c, a1, a2, a3, a4⟩ := hu
      rcases a4 with ⟨h1, h2, h3⟩ | ⟨b1, N1, h1, _⟩
      · exact ⟨A, c, a1, a2, a3, .inl ⟨h1.resolve_right (by omega), h2, h3⟩⟩
      · rw [hbm] at h1; cases h1
    | some bM =>
      obtain ⟨b1, N1⟩ := bM
      have hob := hh.obj m b1 N1 hbm
      rw [hmd] at hob
      obtain ⟨cs1, p1, p2, p3, p4⟩ := hob
      have hq0 : ∀ b2 ad, β.q b2 = some ad → b2 ≠ b1 := fun b2 ad h e => by
        have := (hh.ql b2 ad h).2.2 m N1 (e ▸ hbm)
        rw [hmd] at this; cases this
      refine fin (qset β b1 (some (b, e0 * sz + k0))) (fun _ => rfl) ?_ ?_ ?_
      · intro b' N' hb' u cs _ _ hu
        rw [hb] at hb'; injection hb' with hb'; injection hb' with e1 e2; subst e1; subst e2
        obtain ⟨A, c, a1, a2, a3, a4⟩ := hu
        rcases a4 with ⟨h1, h2, h3⟩ | ⟨b2, N2, h1, h2, h3⟩
        · exact ⟨A, c, a1, a2, a3, .inl ⟨h1.resolve_right (by omega), h2, h3⟩⟩
        · rw [hbm] at h1; injection h1 with h1; injection h1 with e1 e2; subst e1; subst e2
          refine ⟨A, c, a1, a2, a3, .inr ⟨b1, cs1, by simpa using h2, qset_same _ _ _, p1, by rw [p2, ← h3]; simp, fun e k he hk => ?_⟩⟩
          obtain ⟨u, r1, r2⟩ := p4 e k he hk
          rw [hg e k he hk] at r2
          exact ⟨u, r1, r2⟩
      · intro b2 ad hq
        by_cases e : b2 = b1
        · subst e; exact .inr ⟨N1, hbm⟩
        · rw [qset_other _ e] at hq; exact .inl hq
      · intro b2 ad hq
        rw [qset_other _ (hq0 b2 ad hq)]; exact hq
/-- A list that is not written any more. -/
theorem weak_frz {j id : Nat} {ty : TypeId} {sz n off len : Nat} {f : Nat → Nat → C} (ht : nth (.c .top) st.t j = .c (.sl id sz off len)) (hid : nth .gone st.h id = .row ty sz n f) (hn : off + len ≤ n) (hf : ∀ e o, e < len → o < sz → isF (f (e + off) o) = true) :
    WeakS G st ⟨upd (.c (.p (.l sz len fun e o => unP (f (e + off) o)))) st.t j, upd .gone st.h id⟩ := by
  intro β R a w hs
  have hh := hs.hs
  have hlid := nth_gone hid (by simp)
  let own : Nat → Prop := fun b1 => (∃ N, β id = some (b1, N)) ∨ ∃ b N k, β id = some (b, N) ∧ β.q b1 = some (b, k)
  let R' : Nat → Prop := fun b1 => R b1 ∨ own b1
  open Classical in
  let β' : Bt := ⟨β.f, fun b1 => if own b1 then none else β.q b1⟩
  have hq' : ∀ b2 ad, β'.q b2 = some ad → ¬ own b2 ∧ β.q b2 = some ad := by
    intro b2 ad h
    have h : (if own b2 then none else β.q b2) = some ad := h
    split at h
    · cases h
    · rename_i h1; exact ⟨h1, h⟩
  have hq2 : ∀ b2 ad, ¬ own b2 → β.q b2 = some ad → β'.q b2 = some ad := by
    intro b2 ad h1 h2
    show (if own b2 then none else β.q b2) = some ad
    rw [if_neg h1]; exact h2
  have hkp : Keeps β R w β' R' w := ⟨fun _ _ h => h, fun _ h => .inl h, fun _ _ => rfl⟩
  have hlive : (nth .gone st.h id).live = true := by rw [hid]; rfl
  have hl2 : ∀ i, (nth .gone (upd .gone st.h id) i).live = true → i ≠ id ∧ (nth .gone st.h i).live = true := fun i hl => live_gone hl
  have hlf : ∀ i, (nth .gone st.h i).live = false → (nth .gone (upd .gone st.h id) i).live = false := fun i hl => by
    by_cases e : id = i
    · subst e; rw [nth_upd_eq _ _ _ hlid]; rfl
    · rw [nth_upd_ne _ _ _ e]; exact hl
  have hown_live : ∀ i b o, β i = some (b, o) → (nth .gone (upd .gone st.h id) i).live = true → ¬ own b := by
    intro i b o hi hl
    obtain ⟨k1, k2⟩ := hl2 i hl
    rintro (⟨N, h1⟩ | ⟨b0, N, k, h1, h2⟩)
    · exact k1 (hh.inj i id b o N hi h1 k2 hlive)
    · have := (hh.ql b _ h2).2.2 i o hi
      rw [k2] at this; cases this
  have hval : ∀ u, VR β R w (.c (.sl id sz off len)) u → PR R' w (.l sz len fun e o => unP (f (e + off) o)) u := by
    rintro u ⟨A, c, rfl, g1, g2, g3⟩
    refine ⟨A, c, rfl, g1, g2, fun hn0 => ?_⟩
    rcases g3 with ⟨_, g4, _⟩ | ⟨b, o0, g4, rfl, g7⟩
    · omega
    · have hob := hh.obj id b o0 g4
      rw [hid] at hob
      obtain ⟨cs, g8, g80, g9, g10⟩ := hob
      refine ⟨_, rfl, .inr (.inl ⟨o0, g4⟩), fun e q he hq => ?_⟩
      obtain ⟨u, h5, h6⟩ := g10 (e + off) q (by omega) hq
      refine ⟨u, ?_, ?_⟩
      · rw [add_mid, cell_of_row w b _ cs ty (0, 0) g8, ← h5]
        congr 1
        rw [Nat.add_mul]; omega
      · have := hf e q he hq
        show PR R' w (unP (f (e + off) q)) u
        cases hfe : f (e + off) q with
        | p x =>
          rw [hfe] at h6
          exact PR.keep (fun _ h => .inl h) (fun _ _ => rfl) _ h6
        | own ty2 sz2 n2 f2 =>
          rw [hfe] at h6
          obtain ⟨A, c, k1, k2, k3, k4⟩ := h6
          refine ⟨A, c, k1, k2, k3, fun hn => ?_⟩
          rcases k4 with ⟨_, k5, _⟩ | ⟨b2, cs2, k5, k6, k7, k8, k9⟩
          · omega
          · refine ⟨_, k5, .inr (.inr ⟨b, o0, _, g4, k6⟩), fun e2 o2 he2 ho2 => ?_⟩
            obtain ⟨u2, r1, r2⟩ := k9 e2 o2 he2 ho2
            exact ⟨u2, by rw [add_mid, cell_of_row w b2 _ cs2 ty2 (0, 0) k7, Nat.zero_add]; exact r1, PR.keep (fun _ h => .inl h) (fun _ _ => rfl) _ r2⟩
        | _ => rw [hfe] at this; cases this
  have hHS : HS G β' R' w (upd .gone st.h id) := by
    refine hs_told hh (by rw [upd_eq, List.length_set]; exact Nat.le_refl _) (fun i x hi => by rw [upd_eq, List.length_set]; exact hh.dom i x hi) (fun _ h => .inl h) ?_ ?_ ?_ hh.lt ?_ ?_
    · rintro b (h1 | ⟨N, h1⟩ | ⟨b0, N, k, h1, h2⟩)
      · exact hh.rlt b h1
      · exact hh.lt id b N h1
      · exact (hh.ql b _ h2).1
    · intro i j b o o' hi hj li lj
      exact hh.inj i j b o o' hi hj (hl2 i li).2 (hl2 j lj).2
    · rintro i b o hi li (h1 | h1)
      · exact hh.sep i b o hi (hl2 i li).2 h1
      · exact hown_live i b o hi li h1
    · intro i b o hi
      cases hl : (nth .gone (upd .gone st.h id) i).live with
      | false => exact OR.dead_gone hkp hl (hh.obj i b o hi)
      | true =>
        obtain ⟨k1, k2⟩ := hl2 i hl
        rw [nth_upd_ne _ _ _ (fun e => k1 e.symm)]
        refine OR.keep hkp (fun b1 k h1 => ⟨hq2 b1 _ ?_ h1, rfl⟩) rfl (hh.obj i b o hi)
        rintro (⟨N, h2⟩ | ⟨b0, N, k', h2, h3⟩)
        · have := (hh.ql b1 _ h1).2.2 id N h2
          rw [hlive] at this; cases this
        · rw [h1] at h3; injection h3 with h3; injection h3 with h3 _
          exact k1 (hh.inj i id b o N hi (h3 ▸ h2) k2 hlive)
    · intro b2 ad hq
      obtain ⟨k1, k2⟩ := hq' b2 ad hq
      obtain ⟨q1, q2, q3⟩ := hh.ql b2 ad k2
      exact ⟨q1, fun h => h.elim q2 k1, fun i o hi => hlf i (q3 i o hi)⟩
  refine ⟨β', R', ⟨hs.df, ?_, hHS⟩, ⟨rfl, rfl, rfl, Nat.le_refl _, fun _ _ => rfl, fun _ _ _ => rfl, ?_, ?_⟩, fun _ h => .inl h⟩
  · have h1 : Sim G β' R' ⟨st.t, upd .gone st.h id⟩ a w := ⟨hs.df, hs.tm.mono fun _ _ => VR.keep hkp, hHS⟩
    have h0 := hs.tm
    show All2 (VR β' R' w) (upd (.c (.p (.l sz len fun e o => unP (f (e + off) o)))) st.t j) a.tmps.toList
    have h2 : ∀ (xs : List V) (ys : List Value) (j : Nat), nth (.c .top) xs j = .c (.sl id sz off len) → All2 (VR β R w) xs ys → All2 (VR β' R' w) (upd (.c (.p (.l sz len fun e o => unP (f (e + off) o)))) xs j) ys := by
      intro xs
      induction xs with
      | nil => intro ys j _ h; cases ys <;> exact h
      | cons x xs ih =>
        intro ys j hj h
        cases ys with
        | nil => exact h.elim
        | cons y ys =>
          cases j with
          | zero =>
            have hj : x = .c (.sl id sz off len) := hj
            subst hj
            exact ⟨hval y h.1, h.2.mono fun _ _ => VR.keep hkp⟩
          | succ j => exact ⟨VR.keep hkp h.1, ih ys j hj h.2⟩
    exact h2 st.t a.tmps.toList j ht h0
  · rintro b2 (⟨i, o, hi⟩ | ⟨ad, hq⟩)
    · exact .inl (.inl ⟨i, o, hi⟩)
    · exact .inl (.inr ⟨ad, (hq' b2 ad hq).2⟩)
  · rintro b (h1 | ⟨N, h1⟩ | ⟨b0, N, k, h1, h2⟩)
    · exact .inl h1
    · exact .inr (.inl (.inl ⟨id, N, h1⟩))
    · exact .inr (.inl (.inr ⟨_, h2⟩))
/-! ### Functions with loops that return a new list, which may be written afterwards -/
theorem appA_nil : ∀ l : List ACode, appA l [] = l
  | [] => rfl
  | c :: r => by simp [appA, appA_nil r]
theorem flat_ne (c : ACode) : flat c ≠ [] := by
  induction c with
  | seq a b iha _ =>
    simp only [flat]
    cases h : flat a with
    | nil => exact absurd h iha
    | cons x r => simp [appA]
  | _ => simp [flat]
theorem appA_split : ∀ {a b pre : List ACode} {x : ACode}, b ≠ [] → appA a b = appA pre [x] → ∃ pb, b = appA pb [x] ∧ pre = appA a pb
  | [], b, pre, x, _, h => ⟨pre, h, rfl⟩
  | c :: a, b, [], x, hb, h => by
    simp only [appA, List.cons.injEq] at h
    cases a with
    | nil => exact absurd h.2 hb
    | cons _ _ => simp [appA] at h
  | c :: a, b, p :: pre, x, hb, h => by
    simp only [appA, List.cons.injEq] at h
    obtain ⟨pb, h1, h2⟩ := appA_split hb h.2
    exact ⟨pb, h1, by rw [h.1, h2]; rfl⟩
/-- A value that nothing is: no return inside. -/
def vF : V := .c (.lp 0 0 (fun _ _ => .b true) 0 0)
theorem no_ret {G : Nat → Option Obj} {K : X → St → Prop} {st : St} (h : RK P G [] vF K .ret st) : False := by
  obtain ⟨x, h1, h2⟩ := h
  have h1 : [oneV []] = [x] := h1
  injection h1 with h1 _
  have := h2 Bt.nil (fun _ => False) (default : World) (.tuple #[]) (by rw [← h1]; exact ⟨#[], rfl, trivial⟩)
  obtain ⟨ad, _, h3, _⟩ := this
  exact absurd h3 (Nat.lt_irrefl 0)
theorem ExS.toRet {G : Nat → Option Obj} : ∀ {c : ACode} {pre : List ACode} {st : St} {Q : X → St → Prop} {K : X → St → Prop}, flat c = appA pre [.ret] → ExS P G [] vF pre st Q → (∀ st, Q .normal st → K .ret st) → (∀ id st, Q (.exit id) st → K (.exit id) st) → ExA P G c st K := by
  intro c
  induction c with
  | seq a b iha ihb =>
    intro pre st Q K hf h hk hx
    obtain ⟨pb, h1, rfl⟩ := appA_split (flat_ne b) hf
    have h2 := ExS.code (ExS.cut h)
    refine ExA.seq h2 (fun st' hq => ihb h1 hq hk hx) (fun e st' he hq => ?_)
    cases e with
    | normal => exact absurd rfl he
    | exit id => exact hx id st' hq
    | ret => exact (no_ret hq).elim
  | ret =>
    intro pre st Q K hf h hk hx
    cases pre with
    | nil =>
      obtain ⟨st2, h1, h2⟩ := h
      refine ExA.pre h1 ?_
      exact ExA.ev (ext := extOf []) (extOf_sound (by simp)) (ac := .ret) (st := st2) (k := fun e s => .done e s) (K := K) (hk _ h2)
    | cons p pre => cases pre <;> simp [flat, appA] at hf
  | _ =>
    intro pre st Q K hf
    cases pre with
    | nil => simp [flat, appA] at hf
    | cons p pre => cases pre <;> simp [flat, appA] at hf
/-- A function that returns a new list, which may be written, by its pieces but the last, which is the return. -/
theorem fn_rowS {G : Nat → Option Obj} {f : FuncId} {fn : Func} {r : Nat} {ty : TypeId} {sz n : Nat} {F : Nat → Nat → PV} {pre : List ACode} (hf : P.funcs[f]? = some fn) (hok : okF P fn = true) (hr : fn.results.toList = [.tmp r]) (hpre : pcs P fn = appA pre [.ret]) {args : List V} (hp : pureAll args = true)
    (h : ExS P G [] vF pre (st0 fn args) fun e st => e = .normal ∧ RowEnd r ty sz n F .ret st) (h0 : List AO) :
    FnS P G f args h0 fun x h' => x = .c (.sl (lenL h0) sz 0 n) ∧ h' = snoc (.row ty sz n fun e o => .p (F e o)) h0 :=
  fn_row hf hok hr hp (ExS.toRet hpre h (fun _ hq => hq.2) (fun _ _ hq => by cases hq.1)) h0
/-! ### Small weakenings -/
theorem holds_alt {p q : Tr} {K : X → St → Prop} : (Tr.alt p q).holds P G K ↔ p.holds P G K ∧ q.holds P G K := Iff.rfl
theorem weak_slot {j : Nat} {y : V} (h : VLe (nth (.c .top) st.t j) y) : WeakS G st ⟨upd y st.t j, st.h⟩ := fun β R a w hs =>
  ⟨β, R, Sim.same hs (fun u hu => h β R w u hu), Fr.refl _ _ _, fun _ hb => hb⟩
/-- The cells of a row say less. -/
theorem weak_rows {id : Nat} {ty : TypeId} {sz n : Nat} {f f' : Nat → Nat → C} (hid : nth .gone st.h id = .row ty sz n f) (h : ∀ e o, e < n → o < sz → ∀ (β : Bt) (R : Nat → Prop) (w : World) ad u, CRo β R w ad (f e o) u → CRo β R w ad (f' e o) u) :
    WeakS G st ⟨st.t, upd (.row ty sz n f') st.h id⟩ := by
  intro β R a w hs
  have hh := hs.hs
  have hlid := nth_gone hid (by simp)
  have hlv : ∀ i, (nth .gone (upd (.row ty sz n f') st.h id) i).live = (nth .gone st.h i).live := fun i => by
    by_cases e : id = i
    · subst e; rw [nth_upd_eq _ _ _ hlid, hid]; rfl
    · rw [nth_upd_ne _ _ _ e]
  refine ⟨β, R, ⟨hs.df, hs.tm, ?_⟩, Fr.refl _ _ _, fun _ hb => hb⟩
  refine hs_told hh (by rw [upd_eq, List.length_set]; exact Nat.le_refl _) (fun i x hi => by rw [upd_eq, List.length_set]; exact hh.dom i x hi) (fun _ h => h) hh.rlt ?_ ?_ hh.lt ?_ ?_
  · intro i j b o o' hi hj li lj
    rw [hlv] at li lj
    exact hh.inj i j b o o' hi hj li lj
  · intro i b o hi li
    rw [hlv] at li
    exact hh.sep i b o hi li
  · intro i b o hi
    by_cases e : id = i
    · subst e
      rw [nth_upd_eq _ _ _ hlid]
      have hob := hh.obj id b o hi
      rw [hid] at hob
      obtain ⟨cs, g1, g2, g3, g4⟩ := hob
      refine ⟨cs, g1, g2, g3, fun e k he hk => ?_⟩
      obtain ⟨u, u1, u2⟩ := g4 e k he hk
      exact ⟨u, u1, h e k he hk _ _ _ _ _ u2⟩
    · rw [nth_upd_ne _ _ _ e]
      exact hh.obj i b o hi
  · intro b ad hq
    obtain ⟨q1, q2, q3⟩ := hh.ql b ad hq
    exact ⟨q1, q2, fun i o hi => by rw [hlv]; exact q3 i o hi⟩
/-- A cell that is nil owns an empty list. -/
theorem own_nil {β : Bt} {R : Nat → Prop} {w : World} {ad : Nat × Nat} {u : Value} (ty : TypeId) (sz : Nat) (g : Nat → Nat → PV) (h : CRo β R w ad (.p (.z (.slice none 0 0))) u) : CRo β R w ad (.own ty sz 0 g) u := by
  have h : u = .slice none 0 0 := h
  exact ⟨none, 0, h, Nat.le_refl _, Nat.zero_le _, .inl ⟨rfl, rfl, rfl⟩⟩
end
end Go.AE
/-! ### AE, part 27: functions that return a struct with a new list in it; a nil list in a struct. -/
namespace Go.AE
set_option linter.unusedVariables false
set_option linter.unusedSimpArgs false
open Go.RowKit

theorem ofn_lt (a b : Nat) : (Int.ofNat a < Int.ofNat b) = (a < b) := propext (by simp)
theorem ofn_le (a b : Nat) : (Int.ofNat a ≤ Int.ofNat b) = (a ≤ b) := propext (by simp)
section
variable {P : Program} {G : Nat → Option Obj} {β : Bt} {R : Nat → Prop} {w : World} {st : St}
/-- A cell of a struct that is nil is also a list of no elements in a block that is not there. -/
theorem weak_nilC (ty : TypeId) (sz : Nat) (f : Nat → Nat → C) {id k : Nat} {t0 : TypeId} {vs : List C} (hid : nth .gone st.h id = .cells t0 vs) (hk : nth .top vs k = .p (.z (.slice none 0 0))) :
    WeakS G st ⟨st.t, snoc (.row ty sz 0 f) (upd (.cells t0 (upd (.sl (lenL st.h) sz 0 0) vs k)) st.h id)⟩ := by
  intro β R a w hs
  have hh := hs.hs
  have hlid := nth_gone hid (by simp)
  have hlenu : ∀ x : AO, (upd x st.h id).length = st.h.length := fun x => by rw [upd_eq]; simp
  have hnth : ∀ i x, β i = some x → nth .gone (snoc (.row ty sz 0 f) (upd (.cells t0 (upd (.sl (lenL st.h) sz 0 0) vs k)) st.h id)) i = nth .gone (upd (.cells t0 (upd (.sl (lenL st.h) sz 0 0) vs k)) st.h id) i := fun i x hi => nth_snoc_lt _ _ _ (by rw [hlenu]; exact hh.dom i x hi)
  have hlv : ∀ i x, β i = some x → (nth .gone (snoc (.row ty sz 0 f) (upd (.cells t0 (upd (.sl (lenL st.h) sz 0 0) vs k)) st.h id)) i).live = (nth .gone st.h i).live := fun i x hi => by
    rw [hnth i x hi]
    by_cases e : id = i
    · subst e; rw [nth_upd_eq _ _ _ hlid, hid]; rfl
    · rw [nth_upd_ne _ _ _ e]
  refine ⟨β, R, ⟨hs.df, hs.tm, ?_⟩, Fr.refl _ _ _, fun _ hb => hb⟩
  refine hs_told hh (by rw [snoc_eq]; simp [hlenu]) (fun i x hi => by rw [snoc_eq]; have := hh.dom i x hi; simp [hlenu]; omega) (fun _ h => h) hh.rlt ?_ ?_ hh.lt ?_ ?_
  · intro i j b o o' hi hj li lj
    rw [hlv i _ hi] at li; rw [hlv j _ hj] at lj
    exact hh.inj i j b o o' hi hj li lj
  · intro i b o hi li
    rw [hlv i _ hi] at li
    exact hh.sep i b o hi li
  · intro i b o hi
    rw [hnth i _ hi]
    by_cases e : id = i
    · subst e
      rw [nth_upd_eq _ _ _ hlid]
      have hob := hh.obj id b o hi
      rw [hid] at hob
      obtain ⟨cs, g1, g2⟩ := hob
      refine ⟨cs, g1, ?_⟩
      clear hlv hnth hid hi
      generalize cs.toList = us at g2
      induction vs generalizing k us with
      | nil => exact g2
      | cons v vs ih =>
        cases us with
        | nil => exact g2.elim
        | cons u us =>
          cases k with
          | zero =>
            have hk : v = .p (.z (.slice none 0 0)) := hk
            subst hk
            refine ⟨?_, g2.2⟩
            have h1 : u = .slice none 0 0 := g2.1
            exact ⟨none, 0, h1, Nat.le_refl _, Nat.zero_le _, .inl ⟨.inl rfl, rfl, rfl⟩⟩
          | succ k => exact ⟨g2.1, ih hk us g2.2⟩
    · rw [nth_upd_ne _ _ _ e]
      exact hh.obj i b o hi
  · intro b ad hq
    obtain ⟨q1, q2, q3⟩ := hh.ql b ad hq
    exact ⟨q1, q2, fun i o hi => by rw [hlv i _ hi]; exact q3 i o hi⟩
/-- What the end of a function that returns a struct of a plain value and a new list is asked. -/
def CellEnd (t : Nat) (ty : TypeId) (sz n : Nat) (a : PV) (F : Nat → Nat → PV) (e : X) (st : St) : Prop :=
  (∀ j, e ≠ .exit j) ∧ ∃ pid t0 vs id f, nth (.c .top) st.t t = .c (.ptr pid 0) ∧ nth .gone st.h pid = .cells t0 vs ∧ vs = [.p a, .sl id sz 0 n] ∧ nth .gone st.h id = .row ty sz n f ∧ ∀ e o, e < n → o < sz → f e o = .p (F e o)
theorem fn_cell2 {f : FuncId} {fn : Func} {t : Nat} {rty ty : TypeId} {sz n : Nat} {pa : PV} {F : Nat → Nat → PV} (hf : P.funcs[f]? = some fn) (hok : okF P fn = true) (hr : fn.results.toList = [.cell t rty]) (hct : cellsO P rty = some (some 2)) {args : List V} (hp : pureAll args = true)
    (h : ExA P G (codeOf P fn) (st0 fn args) (CellEnd t ty sz n pa F)) (h0 : List AO) :
    FnS P G f args h0 fun x h' => x = .a [.p pa, .sl (lenL h0) sz 0 n] ∧ h' = snoc (.row ty sz n fun e o => .p (F e o)) h0 := by
  unfold okF at hok
  simp only [Bool.and_eq_true, Option.isSome_iff_exists] at hok
  obtain ⟨⟨c, hc⟩, _⟩ := hok
  have e1 : codeOf P fn = c := by unfold codeOf; rw [hc]; rfl
  rw [e1] at h
  simp only [Option.bind_eq_some_iff] at hc
  obtain ⟨c0, hb, hc⟩ := hc
  intro β R w vs ha hh
  refine calls_of_wp hf hb (Code.wp_mono ?_ (h c0 hc Bt.nil R { tmps := vs ++ Array.replicate (fn.ntmps - vs.size) undef, defers := [] } w ?_))
  · intro e a' w' hq
    have key : ∀ x : X, (∀ id, x ≠ .exit id) → Po G (CellEnd t ty sz n pa F) Bt.nil R w x a' w' →
        a'.defers = [] ∧ ∃ v, (results fn a'.tmps).run P w' = .ok v w' ∧ ∃ u β' R' x h', Ending.returned v = .returned u ∧ (x = .a [.p pa, .sl (lenL h0) sz 0 n] ∧ h' = snoc (.row ty sz n fun e o => .p (F e o)) h0) ∧ VR β' R' w' x u ∧ HS G β' R' w' h' ∧ Gr β R w β' R' w' ∧ ∀ i, i < h0.length → β' i = β i := by
      rintro x hx ⟨β', R', st', ⟨_, pid, t0, cs0, id, f', q1, q2, rfl, q3, q4⟩, hs, hfr, hrr⟩
      have hptr := ev_sound (x := .tmp t) hs rfl
      have e2 : st'.ev (.t t) = .c (.ptr pid 0) := q1
      rw [e2] at hptr
      obtain ⟨b, o0, g1, g2⟩ := hptr
      have g2 : a'.tmps.getD t undef = .pointer (some ⟨b, 0, none⟩) := g2
      have hob := hs.hs.obj pid b o0 g1
      rw [q2] at hob
      obtain ⟨cs, g3, g4⟩ := hob
      have hsz : cs.size = 2 := by have := g4.length; simp at this; omega
      have hl : (cs.extract 0 (0 + 2)).toList.length = nOf (some 2) := by simp [nOf]; omega
      have hrun := run_load_gen (P := P) (w := w') hct hl (World.rangeAt_of_block g3 0 2)
      have hrun : (loadVar rty ⟨b, 0, none⟩).run P w' = .ok (ldV (cs.extract 0 (0 + 2)).toList (some 2)) w' := by
        simpa [Instr.loadAt, Instr.sureAddr] using hrun
      have hcs : cs.extract 0 (0 + 2) = cs := by
        apply Array.ext
        · simp; omega
        · intro i h1 h2; simp
      rw [hcs] at hrun
      have hres : (results fn a'.tmps).run P w' = .ok (.agg cs) w' := by
        have hra : (runR a'.tmps (.cell t rty)).run P w' = .ok (ldV cs.toList (some 2)) w' := by
          show (do loadVar rty (← asAddr (a'.tmps.getD t undef))).run P w' = _
          rw [g2]
          simp only [asAddr, pure_bind]
          exact hrun
        have hv : ldV cs.toList (some 2) = .agg cs := by simp [ldV]
        rw [hv] at hra
        refine results_eq (us := [.agg cs]) fn a'.tmps ?_
        rw [hr, List.mapM_cons, Sem.run_bind, hra]
        rfl
      refine ⟨hs.df, _, hres, ?_⟩
      obtain ⟨u0, us, hu, k0, k1⟩ := All2.nth2 g4
      obtain ⟨u1, us', hus, k3, k2⟩ := All2.nth2 k1
      have hus' := All2.nil2 k2
      subst hus'
      subst hus
      obtain ⟨A, cp, hsl, hle, hmx, hcase⟩ := k3
      subst hsl
      rcases hcase with ⟨hA, hn0, hc0⟩ | ⟨b1, N, hb1, hb2, hb3⟩
      · obtain ⟨c1, c2⟩ := hs_caller_none hh hfr hrr hs.hs (.row ty sz n fun e o => .p (F e o))
        refine ⟨_, β, frz β' R', _, _, rfl, ⟨rfl, rfl⟩, ⟨cs, rfl, ?_⟩, c1, c2, fun _ _ => rfl⟩
        rw [hu]
        exact ⟨PR.frz k0, ⟨A, cp, rfl, hle, hmx, .inl ⟨hA, hn0, hc0⟩⟩, trivial⟩
      · obtain ⟨c1, c2⟩ := hs_caller_row (x := .row ty sz n fun e o => .p (F e o)) hh hfr hrr hs.hs rfl hb1 (by rw [q3]; rfl) (fun β2 hk => by
          have hob := hs.hs.obj id b1 N hb1
          rw [q3] at hob
          obtain ⟨cs, g1, g2, g3, g4⟩ := hob
          refine ⟨cs, g1, g2, g3, fun e o he ho => ?_⟩
          obtain ⟨u, k1, k2⟩ := g4 e o he ho
          rw [q4 e o he ho] at k2
          exact ⟨u, k1, k2⟩)
        refine ⟨_, bn β h0.length (b1, N), R', _, _, rfl, ⟨rfl, rfl⟩, ⟨cs, rfl, ?_⟩, c1, c2, fun i hi => bn_other _ (by omega)⟩
        rw [hu]
        refine ⟨k0, ⟨A, cp, rfl, hle, hmx, .inr ⟨b1, N, ?_, hb2, hb3⟩⟩, trivial⟩
        rw [lenL_eq]
        exact bn_same _ _ _
    cases e with
    | normal => exact key .normal (by intro id h; cases h) hq
    | ret => exact key .ret (by intro id h; cases h) hq
    | exit id =>
      obtain ⟨β', R', st', q1, _⟩ := hq
      exact absurd rfl (q1.1 id)
    | _ => exact hq.elim
  · refine ⟨rfl, ?_, ?_⟩
    · have hl : args.length = vs.size := by simpa using ha.length
      show All2 _ (args ++ List.replicate (fn.ntmps - args.length) (.t [])) _
      rw [Array.toList_append, Array.toList_replicate, hl]
      exact (All2.pureV_ (pureAll_mem hp) ha).append (undefs_all _)
    · exact ⟨(fun i x hi => by cases hi), (fun i j b o o' hi => by cases hi), (fun i b o hi => by cases hi), (fun i b o hi => by cases hi), hh.rlt, (fun i b o hi => by cases hi), hh.gl, fun b ad hb => by cases hb⟩
theorem fn_cellS {f : FuncId} {fn : Func} {t : Nat} {rty ty : TypeId} {sz n : Nat} {pa : PV} {F : Nat → Nat → PV} {pre : List ACode} (hf : P.funcs[f]? = some fn) (hok : okF P fn = true) (hr : fn.results.toList = [.cell t rty]) (hct : cellsO P rty = some (some 2)) (hpre : pcs P fn = appA pre [.ret]) {args : List V} (hp : pureAll args = true)
    (h : ExS P G [] vF pre (st0 fn args) fun e st => e = .normal ∧ CellEnd t ty sz n pa F .ret st) (h0 : List AO) :
    FnS P G f args h0 fun x h' => x = .a [.p pa, .sl (lenL h0) sz 0 n] ∧ h' = snoc (.row ty sz n fun e o => .p (F e o)) h0 :=
  fn_cell2 hf hok hr hct hp (ExS.toRet hpre h (fun _ hq => hq.2) (fun _ _ hq => by cases hq.1)) h0
end
end Go.AE
/-! ### AE, part 28: calls with rows that are not written any more. -/
namespace Go.AE
set_option linter.unusedVariables false
set_option linter.unusedSimpArgs false
open Go.RowKit
section
variable {P : Program} {G : Nat → Option Obj}
theorem frz_core {β : Bt} {R : Nat → Prop} {w : World} {h : List AO} (hh : HS G β R w h) {id : Nat} {ty : TypeId} {sz n : Nat} {f : Nat → Nat → C} (hid : nth .gone h id = .row ty sz n f) (hf : ∀ e o, e < n → o < sz → isF (f e o) = true) :
    ∃ β' R', HS G β' R' w (upd .gone h id) ∧ Gr β R w β' R' w ∧ (∀ i, β' i = β i) ∧ ∀ off len u, off + len ≤ n → CR β R w (.sl id sz off len) u → PR R' w (.l sz len fun e o => unP (f (e + off) o)) u := by
  have hlid := nth_gone hid (by simp)
  let own : Nat → Prop := fun b1 => (∃ N, β id = some (b1, N)) ∨ ∃ b N k, β id = some (b, N) ∧ β.q b1 = some (b, k)
  let R' : Nat → Prop := fun b1 => R b1 ∨ own b1
  open Classical in
  let β' : Bt := ⟨β.f, fun b1 => if own b1 then none else β.q b1⟩
  have hq' : ∀ b2 ad, β'.q b2 = some ad → ¬ own b2 ∧ β.q b2 = some ad := by
    intro b2 ad h
    have h : (if own b2 then none else β.q b2) = some ad := h
    split at h
    · cases h
    · rename_i h1; exact ⟨h1, h⟩
  have hq2 : ∀ b2 ad, ¬ own b2 → β.q b2 = some ad → β'.q b2 = some ad := by
    intro b2 ad h1 h2
    show (if own b2 then none else β.q b2) = some ad
    rw [if_neg h1]; exact h2
  have hkp : Keeps β R w β' R' w := ⟨fun _ _ h => h, fun _ h => .inl h, fun _ _ => rfl⟩
  have hlive : (nth .gone h id).live = true := by rw [hid]; rfl
  have hl2 : ∀ i, (nth .gone (upd .gone h id) i).live = true → i ≠ id ∧ (nth .gone h i).live = true := fun i hl => live_gone hl
  have hlf : ∀ i, (nth .gone h i).live = false → (nth .gone (upd .gone h id) i).live = false := fun i hl => by
    by_cases e : id = i
    · subst e; rw [nth_upd_eq _ _ _ hlid]; rfl
    · rw [nth_upd_ne _ _ _ e]; exact hl
  have hown_live : ∀ i b o, β i = some (b, o) → (nth .gone (upd .gone h id) i).live = true → ¬ own b := by
    intro i b o hi hl
    obtain ⟨k1, k2⟩ := hl2 i hl
    rintro (⟨N, h1⟩ | ⟨b0, N, k, h1, h2⟩)
    · exact k1 (hh.inj i id b o N hi h1 k2 hlive)
    · have := (hh.ql b _ h2).2.2 i o hi
      rw [k2] at this; cases this
  have hval : ∀ off len u, off + len ≤ n → CR β R w (.sl id sz off len) u → PR R' w (.l sz len fun e o => unP (f (e + off) o)) u := by
    rintro off len u hn ⟨A, c, rfl, g1, g2, g3⟩
    refine ⟨A, c, rfl, g1, g2, fun hn0 => ?_⟩
    rcases g3 with ⟨_, g4, _⟩ | ⟨b, o0, g4, rfl, g7⟩
    · omega
    · have hob := hh.obj id b o0 g4
      rw [hid] at hob
      obtain ⟨cs, g8, g80, g9, g10⟩ := hob
      refine ⟨_, rfl, .inr (.inl ⟨o0, g4⟩), fun e q he hq => ?_⟩
      obtain ⟨u, h5, h6⟩ := g10 (e + off) q (by omega) hq
      refine ⟨u, ?_, ?_⟩
      · rw [add_mid, cell_of_row w b _ cs ty (0, 0) g8, ← h5]
        congr 1
        rw [Nat.add_mul]; omega
      · have := hf (e + off) q (by omega) hq
        show PR R' w (unP (f (e + off) q)) u
        cases hfe : f (e + off) q with
        | p x =>
          rw [hfe] at h6
          exact PR.keep (fun _ h => .inl h) (fun _ _ => rfl) _ h6
        | own ty2 sz2 n2 f2 =>
          rw [hfe] at h6
          obtain ⟨A, c, k1, k2, k3, k4⟩ := h6
          refine ⟨A, c, k1, k2, k3, fun hn => ?_⟩
          rcases k4 with ⟨_, k5, _⟩ | ⟨b2, cs2, k5, k6, k7, k8, k9⟩
          · omega
          · refine ⟨_, k5, .inr (.inr ⟨b, o0, _, g4, k6⟩), fun e2 o2 he2 ho2 => ?_⟩
            obtain ⟨u2, r1, r2⟩ := k9 e2 o2 he2 ho2
            exact ⟨u2, by rw [add_mid, cell_of_row w b2 _ cs2 ty2 (0, 0) k7, Nat.zero_add]; exact r1, PR.keep (fun _ h => .inl h) (fun _ _ => rfl) _ r2⟩
        | _ => rw [hfe] at this; cases this
  have hHS : HS G β' R' w (upd .gone h id) := by
    refine hs_told hh (by rw [upd_eq, List.length_set]; exact Nat.le_refl _) (fun i x hi => by rw [upd_eq, List.length_set]; exact hh.dom i x hi) (fun _ h => .inl h) ?_ ?_ ?_ hh.lt ?_ ?_
    · rintro b (h1 | ⟨N, h1⟩ | ⟨b0, N, k, h1, h2⟩)
      · exact hh.rlt b h1
      · exact hh.lt id b N h1
      · exact (hh.ql b _ h2).1
    · intro i j b o o' hi hj li lj
      exact hh.inj i j b o o' hi hj (hl2 i li).2 (hl2 j lj).2
    · rintro i b o hi li (h1 | h1)
      · exact hh.sep i b o hi (hl2 i li).2 h1
      · exact hown_live i b o hi li h1
    · intro i b o hi
      cases hl : (nth .gone (upd .gone h id) i).live with
      | false => exact OR.dead_gone hkp hl (hh.obj i b o hi)
      | true =>
        obtain ⟨k1, k2⟩ := hl2 i hl
        rw [nth_upd_ne _ _ _ (fun e => k1 e.symm)]
        refine OR.keep hkp (fun b1 k h1 => ⟨hq2 b1 _ ?_ h1, rfl⟩) rfl (hh.obj i b o hi)
        rintro (⟨N, h2⟩ | ⟨b0, N, k', h2, h3⟩)
        · have := (hh.ql b1 _ h1).2.2 id N h2
          rw [hlive] at this; cases this
        · rw [h1] at h3; injection h3 with h3; injection h3 with h3 _
          exact k1 (hh.inj i id b o N hi (h3 ▸ h2) k2 hlive)
    · intro b2 ad hq
      obtain ⟨k1, k2⟩ := hq' b2 ad hq
      obtain ⟨q1, q2, q3⟩ := hh.ql b2 ad k2
      exact ⟨q1, fun h => h.elim q2 k1, fun i o hi => hlf i (q3 i o hi)⟩
  refine ⟨β', R', hHS, ⟨⟨rfl, rfl, rfl, Nat.le_refl _, fun _ _ => rfl, fun _ _ _ => rfl, ?_, ?_⟩, fun _ _ h => h, fun _ h => .inl h⟩, fun _ => rfl, hval⟩
  · rintro b2 (⟨i, o, hi⟩ | ⟨ad, hq⟩)
    · exact .inl (.inl ⟨i, o, hi⟩)
    · exact .inl (.inr ⟨ad, (hq' b2 ad hq).2⟩)
  · rintro b (h1 | ⟨N, h1⟩ | ⟨b0, N, k, h1, h2⟩)
    · exact .inl h1
    · exact .inr (.inl (.inl ⟨id, N, h1⟩))
    · exact .inr (.inl (.inr ⟨_, h2⟩))

def fzC (id : Nat) (f : Nat → Nat → C) : C → C
  | .sl i s off len => if i = id then .p (.l s len fun e o => unP (f (e + off) o)) else .sl i s off len
  | x => x
def fzV (id : Nat) (f : Nat → Nat → C) : V → V
  | .c x => .c (fzC id f x)
  | .a cs => .a (cs.map (fzC id f))
  | .t vs => .t vs
def conC (id sz n : Nat) : C → Prop
  | .sl i s off len => if i = id then s = sz ∧ off + len ≤ n else True
  | _ => True
def conCs (id sz n : Nat) : List C → Prop
  | [] => True
  | x :: r => conC id sz n x ∧ conCs id sz n r
def conV (id sz n : Nat) : V → Prop
  | .c x => conC id sz n x
  | .a cs => conCs id sz n cs
  | .t _ => True
def conVs (id sz n : Nat) : List V → Prop
  | [] => True
  | x :: r => conV id sz n x ∧ conVs id sz n r
/-- A model behind which the rows 'ids' are gone. -/
def frzM (m : Mod) : List Nat → ModH
  | [], args, h => match m args with
    | some (p, v) => some (p, v, h)
    | none => none
  | id :: r, args, h => match nth .gone h id with
    | .row _ sz n f => match frzM m r (args.map (fzV id f)) (upd .gone h id) with
      | some (p, v, h') => some ((conVs id sz n args ∧ ∀ e o, e < n → o < sz → isF (f e o) = true) ∧ p, v, h')
      | none => none
    | _ => none
def slC : C → List Nat
  | .sl i _ _ _ => [i]
  | _ => []
def slCs : List C → List Nat
  | [] => []
  | x :: r => slC x ++ slCs r
def slVs : List V → List Nat
  | [] => []
  | .c x :: r => slC x ++ slVs r
  | .a cs :: r => slCs cs ++ slVs r
  | .t _ :: r => slVs r
def frzA (m : Mod) : ModH := fun args h => frzM m (slVs args).eraseDups args h
theorem fzC_ok {β β' : Bt} {R R' : Nat → Prop} {w : World} {id sz n : Nat} {f : Nat → Nat → C} (hk : Keeps β R w β' R' w)
    (hval : ∀ off len u, off + len ≤ n → CR β R w (.sl id sz off len) u → PR R' w (.l sz len fun e o => unP (f (e + off) o)) u) {x : C} {u : Value} (hc : conC id sz n x) (h : CR β R w x u) : CR β' R' w (fzC id f x) u := by
  unfold fzC
  split
  · rename_i i s off len
    split
    · rename_i e
      subst e
      have hc : if i = i then s = sz ∧ off + len ≤ n else True := hc
      rw [if_pos rfl] at hc
      obtain ⟨rfl, h2⟩ := hc
      exact hval off len u h2 h
    · exact CR.keep hk h
  · exact CR.keep hk h
theorem fzCs_ok {β β' : Bt} {R R' : Nat → Prop} {w : World} {id sz n : Nat} {f : Nat → Nat → C} (hk : Keeps β R w β' R' w)
    (hval : ∀ off len u, off + len ≤ n → CR β R w (.sl id sz off len) u → PR R' w (.l sz len fun e o => unP (f (e + off) o)) u) : ∀ {cs : List C} {us : List Value}, conCs id sz n cs → All2 (CR β R w) cs us → All2 (CR β' R' w) (cs.map (fzC id f)) us
  | [], [], _, _ => trivial
  | [], _ :: _, _, h => h.elim
  | _ :: _, [], _, h => h.elim
  | _ :: _, _ :: _, hc, h => ⟨fzC_ok hk hval hc.1 h.1, fzCs_ok hk hval hc.2 h.2⟩
theorem fzV_ok {β β' : Bt} {R R' : Nat → Prop} {w : World} {id sz n : Nat} {f : Nat → Nat → C} (hk : Keeps β R w β' R' w)
    (hval : ∀ off len u, off + len ≤ n → CR β R w (.sl id sz off len) u → PR R' w (.l sz len fun e o => unP (f (e + off) o)) u) {x : V} {u : Value} (hc : conV id sz n x) (h : VR β R w x u) : VR β' R' w (fzV id f x) u := by
  cases x with
  | c x => exact fzC_ok hk hval hc h
  | a cs => obtain ⟨us, h1, h2⟩ := h; exact ⟨us, h1, fzCs_ok hk hval hc h2⟩
  | t vs => exact VR.keep hk h
theorem fzVs_ok {β β' : Bt} {R R' : Nat → Prop} {w : World} {id sz n : Nat} {f : Nat → Nat → C} (hk : Keeps β R w β' R' w)
    (hval : ∀ off len u, off + len ≤ n → CR β R w (.sl id sz off len) u → PR R' w (.l sz len fun e o => unP (f (e + off) o)) u) : ∀ {xs : List V} {us : List Value}, conVs id sz n xs → All2 (VR β R w) xs us → All2 (VR β' R' w) (xs.map (fzV id f)) us
  | [], [], _, _ => trivial
  | [], _ :: _, _, h => h.elim
  | _ :: _, [], _, h => h.elim
  | _ :: _, _ :: _, hc, h => ⟨fzV_ok hk hval hc.1 h.1, fzVs_ok hk hval hc.2 h.2⟩
theorem frzM_ok {fn : FuncId} {m : Mod} (hm : ModOK P G fn m) : ∀ ids, ModHOK P G fn (frzM m ids)
  | [] => by
    intro args h p v h' he hp
    unfold frzM at he
    split at he
    · rename_i p' v' hq
      injection he with he
      injection he with e1 he
      injection he with e2 e3
      subst e1; subst e2; subst e3
      exact hm args _ _ hq hp _
    · cases he
  | id :: r => by
    intro args h p v h' he hp
    unfold frzM at he
    split at he
    · rename_i ty sz n f hid
      split at he
      · rename_i p' v' h2 hq
        injection he with he
        injection he with e1 he
        injection he with e2 e3
        subst e1; subst e2; subst e3
        obtain ⟨⟨hc, hf⟩, hp⟩ := hp
        intro β R w vs ha hh
        obtain ⟨β', R', k1, k2, k3, k4⟩ := frz_core hh hid hf
        have ih := frzM_ok hm r _ _ _ _ _ hq hp β' R' w vs (fzVs_ok k2.keeps k4 hc ha) k1
        refine ih.mono ?_
        rintro e w' ⟨u, β2, R2, x, h3, q1, q2, q3, q4, q5, q6⟩
        refine ⟨u, β2, R2, x, h3, q1, q2, q3, q4, k2.trans q5, fun i hi => ?_⟩
        rw [q6 i (by rw [upd_eq, List.length_set]; exact hi), k3 i]
      · cases he
    · cases he
theorem frzA_ok {fn : FuncId} {m : Mod} (hm : ModOK P G fn m) : ModHOK P G fn (frzA m) := fun args h => frzM_ok hm _ args h
end
end Go.AE
/-! ### AE, part 29: a row that is not written any more, frozen wherever slots and structs speak of it. -/
namespace Go.AE
set_option linter.unusedVariables false
set_option linter.unusedSimpArgs false
open Go.RowKit
def fzlC (id sz : Nat) (F : Nat → Nat → PV) : C → C
  | .sl i s off len => match Nat.beq i id && Nat.beq s sz with
    | true => .p (.l sz len fun e o => F (e + off) o)
    | false => .sl i s off len
  | x => x
def fzlCs (id sz : Nat) (F : Nat → Nat → PV) : List C → List C
  | [] => []
  | x :: r => fzlC id sz F x :: fzlCs id sz F r
def fzlV (id sz : Nat) (F : Nat → Nat → PV) : V → V
  | .c x => .c (fzlC id sz F x)
  | .a cs => .a (fzlCs id sz F cs)
  | .t vs => .t vs
def fzlT (id sz : Nat) (F : Nat → Nat → PV) : List V → List V
  | [] => []
  | x :: r => fzlV id sz F x :: fzlT id sz F r
def fzlO (id sz : Nat) (F : Nat → Nat → PV) : AO → AO
  | .cells ty vs => .cells ty (fzlCs id sz F vs)
  | x => x
def fzlH (id sz : Nat) (F : Nat → Nat → PV) : List AO → List AO
  | [] => []
  | x :: r => fzlO id sz F x :: fzlH id sz F r
/-- The slices of the row. -/
def ocC (id sz : Nat) : C → List (Nat × Nat)
  | .sl i s off len => match Nat.beq i id && Nat.beq s sz with
    | true => [(off, len)]
    | false => []
  | _ => []
def ocCs (id sz : Nat) : List C → List (Nat × Nat) → List (Nat × Nat)
  | [], l => l
  | x :: r, l => match ocC id sz x with
    | [] => ocCs id sz r l
    | p :: _ => p :: ocCs id sz r l
def ocT (id sz : Nat) : List V → List (Nat × Nat) → List (Nat × Nat)
  | [], l => l
  | .c x :: r, l => ocCs id sz [x] (ocT id sz r l)
  | .a cs :: r, l => ocCs id sz cs (ocT id sz r l)
  | .t _ :: r, l => ocT id sz r l
def ocH (id sz : Nat) : List AO → List (Nat × Nat) → List (Nat × Nat)
  | [], l => l
  | .cells _ vs :: r, l => ocCs id sz vs (ocH id sz r l)
  | _ :: r, l => ocH id sz r l
def occS (id sz : Nat) (st : St) : List (Nat × Nat) := ocT id sz st.t (ocH id sz st.h [])
def frzS (id sz : Nat) (F : Nat → Nat → PV) (st : St) : St := ⟨fzlT id sz F st.t, fzlH id sz F (upd .gone st.h id)⟩
theorem ocCs_mono {id sz : Nat} {p : Nat × Nat} : ∀ {cs : List C} {l : List (Nat × Nat)}, p ∈ l → p ∈ ocCs id sz cs l
  | [], _, h => h
  | x :: r, l, h => by
    unfold ocCs
    split
    · exact ocCs_mono h
    · exact List.mem_cons_of_mem _ (ocCs_mono h)
theorem ocCs_in {id sz off len : Nat} : ∀ {cs : List C} {l : List (Nat × Nat)}, C.sl id sz off len ∈ cs → (off, len) ∈ ocCs id sz cs l
  | x :: r, l, h => by
    unfold ocCs
    rcases List.mem_cons.1 h with rfl | h
    · have : ocC id sz (.sl id sz off len) = [(off, len)] := by show (match Nat.beq id id && Nat.beq sz sz with | true => [(off, len)] | false => []) = _; rw [Nat.beq_refl, Nat.beq_refl]; rfl
      rw [this]
      exact List.mem_cons_self ..
    · split
      · exact ocCs_in h
      · exact List.mem_cons_of_mem _ (ocCs_in h)
theorem ocT_mono {id sz : Nat} {p : Nat × Nat} : ∀ {t : List V} {l : List (Nat × Nat)}, p ∈ l → p ∈ ocT id sz t l
  | [], _, h => h
  | .c _ :: r, l, h => ocCs_mono (ocT_mono h)
  | .a _ :: r, l, h => ocCs_mono (ocT_mono h)
  | .t _ :: r, l, h => by unfold ocT; exact ocT_mono h
def inV (x : C) : V → Prop
  | .c y => x = y
  | .a cs => x ∈ cs
  | .t _ => False
theorem ocT_in {id sz off len : Nat} : ∀ {t : List V} {l : List (Nat × Nat)} {v : V}, v ∈ t → inV (.sl id sz off len) v → (off, len) ∈ ocT id sz t l
  | x :: r, l, v, h, hv => by
    rcases List.mem_cons.1 h with rfl | h1
    · cases v with
      | c y => cases hv; exact ocCs_in (List.mem_cons_self ..)
      | a cs => exact ocCs_in hv
      | t _ => exact hv.elim
    · cases x with
      | c y => exact ocCs_mono (ocT_in h1 hv)
      | a cs => exact ocCs_mono (ocT_in h1 hv)
      | t _ => unfold ocT; exact ocT_in h1 hv
theorem ocH_in {id sz off len : Nat} {ty : TypeId} {vs : List C} : ∀ {h : List AO} {l : List (Nat × Nat)}, AO.cells ty vs ∈ h → .sl id sz off len ∈ vs → (off, len) ∈ ocH id sz h l
  | x :: r, l, h, hv => by
    rcases List.mem_cons.1 h with rfl | h1
    · exact ocCs_in hv
    · cases x with
      | cells ty' vs' => exact ocCs_mono (ocH_in h1 hv)
      | _ => unfold ocH; exact ocH_in h1 hv
theorem fzlH_eq (id sz : Nat) (F : Nat → Nat → PV) : ∀ (h : List AO), fzlH id sz F h = h.map (fzlO id sz F)
  | [] => rfl
  | _ :: r => by rw [fzlH, fzlH_eq id sz F r]; rfl
section
variable {G : Nat → Option Obj} {st : St}
theorem fzlC_ok {β β' : Bt} {R R' : Nat → Prop} {w : World} {id sz n : Nat} {f : Nat → Nat → C} {F : Nat → Nat → PV} (hk : Keeps β R w β' R' w)
    (hF : ∀ e o, e < n → o < sz → PLe (unP (f e o)) (F e o))
    (hval : ∀ off len u, off + len ≤ n → CR β R w (.sl id sz off len) u → PR R' w (.l sz len fun e o => unP (f (e + off) o)) u) {x : C} {u : Value} (hc : ∀ off len, x = .sl id sz off len → off + len ≤ n) (h : CR β R w x u) : CR β' R' w (fzlC id sz F x) u := by
  unfold fzlC
  split
  · rename_i i s off len
    split
    · rename_i e
      rw [Bool.and_eq_true] at e
      obtain rfl := Nat.eq_of_beq_eq_true e.1
      obtain rfl := Nat.eq_of_beq_eq_true e.2
      exact PLe.l (fun e o he ho => hF (e + off) o (by have := hc off len rfl; omega) ho) R' w u (hval off len u (hc off len rfl) h)
    · exact CR.keep hk h
  · exact CR.keep hk h
theorem fzlCs_ok {β β' : Bt} {R R' : Nat → Prop} {w : World} {id sz n : Nat} {f : Nat → Nat → C} {F : Nat → Nat → PV} (hk : Keeps β R w β' R' w)
    (hF : ∀ e o, e < n → o < sz → PLe (unP (f e o)) (F e o))
    (hval : ∀ off len u, off + len ≤ n → CR β R w (.sl id sz off len) u → PR R' w (.l sz len fun e o => unP (f (e + off) o)) u) : ∀ {cs : List C} {us : List Value}, (∀ x ∈ cs, ∀ off len, x = .sl id sz off len → off + len ≤ n) → All2 (CR β R w) cs us → All2 (CR β' R' w) (fzlCs id sz F cs) us
  | [], [], _, _ => trivial
  | [], _ :: _, _, h => h.elim
  | _ :: _, [], _, h => h.elim
  | _ :: _, _ :: _, hc, h => ⟨fzlC_ok hk hF hval (hc _ (List.mem_cons_self ..)) h.1, fzlCs_ok hk hF hval (fun x hx => hc x (List.mem_cons_of_mem _ hx)) h.2⟩
theorem fzlT_ok {β β' : Bt} {R R' : Nat → Prop} {w : World} {id sz n : Nat} {f : Nat → Nat → C} {F : Nat → Nat → PV} (hk : Keeps β R w β' R' w)
    (hF : ∀ e o, e < n → o < sz → PLe (unP (f e o)) (F e o))
    (hval : ∀ off len u, off + len ≤ n → CR β R w (.sl id sz off len) u → PR R' w (.l sz len fun e o => unP (f (e + off) o)) u) : ∀ {vs : List V} {us : List Value}, (∀ v ∈ vs, ∀ off len, inV (.sl id sz off len) v → off + len ≤ n) → All2 (VR β R w) vs us → All2 (VR β' R' w) (fzlT id sz F vs) us
  | [], [], _, _ => trivial
  | [], _ :: _, _, h => h.elim
  | _ :: _, [], _, h => h.elim
  | v :: _, _ :: _, hc, h => ⟨by
      cases v with
      | c x => exact fzlC_ok hk hF hval (fun off len e => hc _ (List.mem_cons_self ..) off len e.symm) h.1
      | a cs =>
        obtain ⟨us, h1, h2⟩ := h.1
        exact ⟨us, h1, fzlCs_ok hk hF hval (fun x hx off len e => hc _ (List.mem_cons_self ..) off len (e ▸ hx)) h2⟩
      | t vs => exact VR.keep hk h.1, fzlT_ok hk hF hval (fun x hx => hc x (List.mem_cons_of_mem _ hx)) h.2⟩
theorem fzlO_live (id sz : Nat) (F : Nat → Nat → PV) (x : AO) : (fzlO id sz F x).live = x.live := by cases x <;> rfl
theorem nth_fzlH (id sz : Nat) (F : Nat → Nat → PV) : ∀ (h : List AO) (i : Nat), nth .gone (fzlH id sz F h) i = fzlO id sz F (nth .gone h i)
  | [], _ => rfl
  | _ :: _, 0 => rfl
  | _ :: r, i + 1 => nth_fzlH id sz F r i
theorem nth_mem {h : List AO} {i : Nat} (hl : (nth .gone h i).live = true) : nth .gone h i ∈ h := by
  rw [nth_eq] at hl ⊢
  by_cases hi : i < h.length
  · simp [List.getD_eq_getElem?_getD, List.getElem?_eq_getElem hi]
  · rw [List.getD_eq_getElem?_getD, List.getElem?_eq_none (by omega)] at hl
    cases hl
theorem weak_frzL {id : Nat} {ty : TypeId} {sz n : Nat} {f : Nat → Nat → C} (F : Nat → Nat → PV) (hid : nth .gone st.h id = .row ty sz n f) (hf : ∀ e o, e < n → o < sz → isF (f e o) = true) (hF : ∀ e o, e < n → o < sz → PLe (unP (f e o)) (F e o))
    {ps : List (Nat × Nat)} (hp : occS id sz st = ps) (ho : ∀ p ∈ ps, p.1 + p.2 ≤ n) : WeakS G st (frzS id sz F st) := by
  subst hp
  intro β R a w hs
  obtain ⟨β', R', k1, k2, k3, k4⟩ := frz_core hs.hs hid hf
  refine ⟨β', R', ⟨hs.df, fzlT_ok k2.keeps hF k4 (fun v hv off len hi => ho (off, len) (ocT_in hv hi)) hs.tm, ?_⟩, k2.toFr, k2.rm⟩
  have hlen : (fzlH id sz F (upd .gone st.h id)).length = (upd .gone st.h id).length := by rw [fzlH_eq, List.length_map]
  refine ⟨fun i x hi => by show i < (fzlH id sz F (upd .gone st.h id)).length; rw [hlen]; exact k1.dom i x hi, ?_, ?_, k1.lt, k1.rlt, ?_, k1.gl, ?_⟩
  · intro i j b o o' hi hj li lj
    refine k1.inj i j b o o' hi hj ?_ ?_
    · have li : (nth .gone (fzlH id sz F (upd .gone st.h id)) i).live = true := li
      rwa [nth_fzlH, fzlO_live] at li
    · have lj : (nth .gone (fzlH id sz F (upd .gone st.h id)) j).live = true := lj
      rwa [nth_fzlH, fzlO_live] at lj
  · intro i b o hi li
    have li : (nth .gone (fzlH id sz F (upd .gone st.h id)) i).live = true := li
    rw [nth_fzlH, fzlO_live] at li
    exact k1.sep i b o hi li
  · intro i b o hi
    show OR β' R' w (nth .gone (fzlH id sz F (upd .gone st.h id)) i) b o
    rw [nth_fzlH]
    have h1 := k1.obj i b o hi
    by_cases e : i = id
    · subst e
      rw [nth_upd_eq _ _ _ (nth_gone hid (by simp))]
      exact trivial
    · rw [nth_upd_ne _ _ _ (fun h => e h.symm)] at h1 ⊢
      cases hx : nth .gone st.h i with
      | cells ty' vs =>
        have h0 := hs.hs.obj i b o (by rw [← k3 i]; exact hi)
        rw [hx] at h0
        obtain ⟨cs, g1, g2⟩ := h0
        refine ⟨cs, g1, fzlCs_ok k2.keeps hF k4 (fun x hx' off len e => ho (off, len) (ocT_mono (ocH_in (ty := ty') (vs := vs) ?_ (e ▸ hx')))) g2⟩
        rw [← hx]
        exact nth_mem (by rw [hx]; rfl)
      | _ => rw [hx] at h1; exact h1
  · intro b ad hq
    obtain ⟨q1, q2, q3⟩ := k1.ql b ad hq
    refine ⟨q1, q2, fun i o hi => ?_⟩
    show (nth .gone (fzlH id sz F (upd .gone st.h id)) i).live = false
    rw [nth_fzlH, fzlO_live]
    exact q3 i o hi
end
end Go.AE
/-! ### AE, part 30: calls of functions whose arguments are lists that may still be written and whose result is plain data or a new list of numbers, strings, Bools. -/
namespace Go.AE
set_option linter.unusedVariables false
set_option linter.unusedSimpArgs false
open Go.RowKit
/-- A cell as it reads now. -/
def vwC (h : List AO) (c : C) (k : C → Tr) : Tr := match c with
  | .p x => k (.p x)
  | .sl id sz off len => match nth .gone h id with
    | .row _ sz' n f => chk (Nat.beq sz sz') (.rq (off + len ≤ n ∧ ∀ e o, e < n → o < sz → isF (f e o) = true) (k (.p (.l sz len fun e o => unP (f (e + off) o)))))
    | _ => .fail
  | _ => .fail
def vwCs (h : List AO) : List C → (List C → Tr) → Tr
  | [], k => k []
  | c :: r, k => vwC h c fun c' => vwCs h r fun r' => k (c' :: r')
def vwV (h : List AO) (v : V) (k : V → Tr) : Tr := match v with
  | .c x => vwC h x fun x' => k (.c x')
  | .a cs => vwCs h cs fun cs' => k (.a cs')
  | .t _ => .fail
def vwVs (h : List AO) : List V → (List V → Tr) → Tr
  | [], k => k []
  | v :: r, k => vwV h v fun v' => vwVs h r fun r' => k (v' :: r')
def scP : PV → Bool
  | .b _ => true
  | .i _ _ => true
  | .s _ => true
  | .z _ => true
  | _ => false
def scC : C → Bool
  | .p x => scP x
  | _ => false
def scCs : List C → Bool
  | [] => true
  | c :: r => scC c && scCs r
def scV1 : V1 → Bool
  | .c x => scC x
  | .a cs => scCs cs
def scV1s : List V1 → Bool
  | [] => true
  | c :: r => scV1 c && scV1s r
def scV : V → Bool
  | .c x => scC x
  | .a cs => scCs cs
  | .t vs => scV1s vs
def mutK (m : ModH) (h : List AO) (k : V → List AO → Tr) (args : List V) : Tr := match m args [] with
  | some (p, v, []) => .rq p (chk (scV v) (k v h))
  | some (p, .c (.sl 0 sz 0 n), [.row ty sz' n' f]) => chk (Nat.beq sz sz') (.rq (p ∧ n = n' ∧ ∀ e o, e < n' → o < sz → scC (f e o) = true) (k (.c (.sl (lenL h) sz 0 n)) (snoc (.row ty sz' n' f) h)))
  | _ => .fail
/-- Function f0 by its model, called with lists that may still be written. -/
def mutX (f0 : FuncId) (m : ModH) (rest : Ext) : Ext := fun f args h k => match Nat.beq f0 f with
  | true => vwVs h args (mutK m h k)
  | false => rest f args h k
section
variable {P : Program} {G : Nat → Option Obj} {β : Bt} {R : Nat → Prop} {w : World} {h : List AO}
/-- All that there is may be read. -/
abbrev allR (w : World) : Nat → Prop := fun b => b < w.heap.size
theorem chk_holds {b : Bool} {t : Tr} {K : X → St → Prop} : (chk b t).holds P G K ↔ b = true ∧ t.holds P G K := by
  cases b <;> simp [chk, Tr.holds]
theorem vwC_sound (hh : HS G β R w h) {c : C} {u : Value} (hc : CR β R w c u) {k : C → Tr} {K : X → St → Prop} (hk : (vwC h c k).holds P G K) : ∃ c', CR Bt.nil (allR w) w c' u ∧ (k c').holds P G K := by
  unfold vwC at hk
  split at hk
  · rename_i x
    exact ⟨.p x, PR.keep (R' := allR w) hh.rlt (fun _ _ => rfl) x hc, hk⟩
  · rename_i id sz off len
    split at hk
    · rename_i ty sz' n f hid
      rw [chk_holds] at hk
      obtain ⟨h1, ⟨h2, h3⟩, h4⟩ := hk
      obtain rfl := Nat.eq_of_beq_eq_true h1
      obtain ⟨β', R', k1, k2, k3, k4⟩ := frz_core hh hid h3
      exact ⟨.p (.l sz len fun e o => unP (f (e + off) o)), PR.keep (R' := allR w) k1.rlt (fun _ _ => rfl) _ (k4 off len u h2 hc), h4⟩
    · exact hk.elim
  · exact hk.elim
theorem vwCs_sound (hh : HS G β R w h) : ∀ {cs : List C} {us : List Value}, All2 (CR β R w) cs us → ∀ {k : List C → Tr} {K : X → St → Prop}, (vwCs h cs k).holds P G K → ∃ cs', All2 (CR Bt.nil (allR w) w) cs' us ∧ (k cs').holds P G K
  | [], [], _, k, K, hk => ⟨[], trivial, hk⟩
  | [], _ :: _, h, _, _, _ => h.elim
  | _ :: _, [], h, _, _, _ => h.elim
  | c :: r, u :: us, hc, k, K, hk => by
    obtain ⟨c', h1, h2⟩ := vwC_sound hh hc.1 hk
    obtain ⟨r', h3, h4⟩ := vwCs_sound hh hc.2 h2
    exact ⟨c' :: r', ⟨h1, h3⟩, h4⟩
theorem vwV_sound (hh : HS G β R w h) {v : V} {u : Value} (hc : VR β R w v u) {k : V → Tr} {K : X → St → Prop} (hk : (vwV h v k).holds P G K) : ∃ v', VR Bt.nil (allR w) w v' u ∧ (k v').holds P G K := by
  unfold vwV at hk
  split at hk
  · obtain ⟨c', h1, h2⟩ := vwC_sound hh hc hk
    exact ⟨.c c', h1, h2⟩
  · obtain ⟨us, h0, hc⟩ := hc
    obtain ⟨cs', h1, h2⟩ := vwCs_sound hh hc hk
    exact ⟨.a cs', ⟨us, h0, h1⟩, h2⟩
  · exact hk.elim
theorem vwVs_sound (hh : HS G β R w h) : ∀ {vs : List V} {us : List Value}, All2 (VR β R w) vs us → ∀ {k : List V → Tr} {K : X → St → Prop}, (vwVs h vs k).holds P G K → ∃ vs', All2 (VR Bt.nil (allR w) w) vs' us ∧ (k vs').holds P G K
  | [], [], _, k, K, hk => ⟨[], trivial, hk⟩
  | [], _ :: _, h, _, _, _ => h.elim
  | _ :: _, [], h, _, _, _ => h.elim
  | c :: r, u :: us, hc, k, K, hk => by
    obtain ⟨c', h1, h2⟩ := vwV_sound hh hc.1 hk
    obtain ⟨r', h3, h4⟩ := vwVs_sound hh hc.2 h2
    exact ⟨c' :: r', ⟨h1, h3⟩, h4⟩
theorem scP_any {x : PV} {u : Value} {R' : Nat → Prop} {w' : World} (hx : scP x = true) (h : PR R w x u) : PR R' w' x u := by
  cases x <;> first | exact h | cases hx
theorem scC_any {x : C} {u : Value} {β' : Bt} {R' : Nat → Prop} {w' : World} (hx : scC x = true) (h : CR β R w x u) : CR β' R' w' x u := by
  cases x <;> first | exact scP_any hx h | cases hx
theorem scCs_any {β' : Bt} {R' : Nat → Prop} {w' : World} : ∀ {cs : List C} {us : List Value}, scCs cs = true → All2 (CR β R w) cs us → All2 (CR β' R' w') cs us
  | [], [], _, _ => trivial
  | [], _ :: _, _, h => h.elim
  | _ :: _, [], _, h => h.elim
  | c :: r, u :: us, hs, h => by
    simp only [scCs, Bool.and_eq_true] at hs
    exact ⟨scC_any hs.1 h.1, scCs_any hs.2 h.2⟩
theorem scV1s_any {β' : Bt} {R' : Nat → Prop} {w' : World} : ∀ {cs : List V1} {us : List Value}, scV1s cs = true → All2 (V1R β R w) cs us → All2 (V1R β' R' w') cs us
  | [], [], _, _ => trivial
  | [], _ :: _, _, h => h.elim
  | _ :: _, [], _, h => h.elim
  | c :: r, u :: us, hs, h => by
    simp only [scV1s, Bool.and_eq_true] at hs
    refine ⟨?_, scV1s_any hs.2 h.2⟩
    have h1 := h.1
    have h2 := hs.1
    cases c with
    | c x => exact scC_any h2 h1
    | a cs => obtain ⟨us, e, h1⟩ := h1; exact ⟨us, e, scCs_any h2 h1⟩
theorem scV_any {β' : Bt} {R' : Nat → Prop} {w' : World} {x : V} {u : Value} (hx : scV x = true) (h : VR β R w x u) : VR β' R' w' x u := by
  cases x with
  | c x => exact scC_any hx h
  | a cs => obtain ⟨us, e, h⟩ := h; exact ⟨us, e, scCs_any hx h⟩
  | t vs => obtain ⟨us, e, h⟩ := h; exact ⟨us, e, scV1s_any hx h⟩
theorem hs_snoc_none (hh : HS G β R w h) (x : AO) : HS G β R w (snoc x h) := by
  have hn : ∀ i y, β i = some y → nth .gone (snoc x h) i = nth .gone h i := fun i y hi => nth_snoc_lt _ _ _ (hh.dom i y hi)
  refine ⟨?_, ?_, ?_, hh.lt, hh.rlt, ?_, hh.gl, fun b ad hb => ⟨(hh.ql b ad hb).1, (hh.ql b ad hb).2.1, fun i o hi => by rw [hn i _ hi]; exact (hh.ql b ad hb).2.2 i o hi⟩⟩
  · intro i y hi
    have := hh.dom i y hi
    rw [snoc_eq, List.length_append]; omega
  · intro i j b o o' hi hj li lj
    rw [hn i _ hi] at li
    rw [hn j _ hj] at lj
    exact hh.inj i j b o o' hi hj li lj
  · intro i b o hi li
    rw [hn i _ hi] at li
    exact hh.sep i b o hi li
  · intro i b o hi
    rw [hn i _ hi]
    exact hh.obj i b o hi
theorem mutK_fn {f0 : FuncId} {m : ModH} (hm : ModHOK P G f0 m) (hh : HS G β R w h) {args' : List V} {vs : Array Value} (ha : All2 (VR Bt.nil (allR w) w) args' vs.toList) {k : V → List AO → Tr} {K : X → St → Prop} (hk : (mutK m h k args').holds P G K) :
    Calls P f0 vs w fun e w' => ∃ u β' R' x h', e = .returned u ∧ (k x h').holds P G K ∧ VR β' R' w' x u ∧ HS G β' R' w' h' ∧ Gr β R w β' R' w' ∧ ∀ i, i < h.length → β' i = β i := by
  have h0 : HS G Bt.nil (allR w) w [] := ⟨(fun _ _ h => by cases h), (fun _ _ _ _ _ h => by cases h), (fun _ _ _ h => by cases h), (fun _ _ _ h => by cases h), (fun _ h => h), (fun _ _ _ h => by cases h), fun b o hb => ⟨hh.rlt b (hh.gl b o hb).1, (hh.gl b o hb).2⟩, (fun _ _ h => by cases h)⟩
  unfold mutK at hk
  split at hk
  · rename_i p v he
    obtain ⟨hp, hk⟩ := hk
    rw [chk_holds] at hk
    obtain ⟨hs, hk⟩ := hk
    refine (hm args' [] p v [] he hp Bt.nil (allR w) w vs ha h0).mono ?_
    rintro e w' ⟨u, β1, R1, x, h1, rfl, ⟨rfl, rfl⟩, h2, _, h3, _⟩
    have hb : Below w.heap.size w w' := ⟨h3.os, h3.tape, h3.output, h3.size, fun b hb => h3.rs b hb⟩
    obtain ⟨c1, c2⟩ := hh.below hb
    exact ⟨u, β, newR R w w', x, h, rfl, hk, scV_any hs h2, c1, c2, fun _ _ => rfl⟩
  · rename_i p sz n ty sz' n' f he
    rw [chk_holds] at hk
    obtain ⟨hz, ⟨hp, rfl, hsc⟩, hk⟩ := hk
    obtain rfl := Nat.eq_of_beq_eq_true hz
    refine (hm args' [] p _ _ he hp Bt.nil (allR w) w vs ha h0).mono ?_
    rintro e w' ⟨u, β1, R1, x, h1, rfl, ⟨rfl, rfl⟩, h2, hs1, h3, _⟩
    have hb : Below w.heap.size w w' := ⟨h3.os, h3.tape, h3.output, h3.size, fun b hb => h3.rs b hb⟩
    obtain ⟨A, c, rfl, g1, g2, g3⟩ := h2
    rcases g3 with ⟨q1, q2, q3⟩ | ⟨b, N, q1, q2, q3⟩
    · obtain ⟨c1, c2⟩ := hh.below hb
      exact ⟨_, β, newR R w w', _, _, rfl, hk, ⟨A, c, rfl, g1, g2, .inl ⟨q1, q2, q3⟩⟩, hs_snoc_none c1 _, c2, fun _ _ => rfl⟩
    · have hg : w.heap.size ≤ b := by
        rcases h3.ex b (.inl ⟨0, N, q1⟩) with h | h
        · exact absurd h Bt.nil_has
        · exact h
      have hob : ∀ β2 : Bt, OR β2 R w' (.row ty sz n f) b N := fun β2 => by
        obtain ⟨cs, k1, k2, k3, k4⟩ := hs1.obj 0 b N q1
        refine ⟨cs, k1, k2, k3, fun e o he ho => ?_⟩
        obtain ⟨u, r1, r2⟩ := k4 e o he ho
        refine ⟨u, r1, CRo.of ?_ (scC_any (hsc e o he ho) r2.cr)⟩
        have := hsc e o he ho
        cases hf : f e o <;> first | rfl | (rw [hf] at this; cases this)
      obtain ⟨c1, c2⟩ := hs_caller_row (x := .row ty sz n f) hh (fr_row (N := N) hh.rlt hb hg) (fun _ h => h) (hs_row hh hb hg (hs1.lt 0 b N q1) (hob _)) rfl (id := 0) (b := b) (N := N) (by unfold b1; rfl) rfl (fun β2 _ => hob β2)
      refine ⟨_, bn β h.length (b, N), R, _, _, rfl, hk, ⟨A, c, rfl, g1, g2, .inr ⟨b, N, ?_, q2, q3⟩⟩, c1, c2, fun i hi => bn_other _ (by omega)⟩
      rw [lenL_eq]
      exact bn_same _ _ _
  · exact hk.elim
end
section
variable {P : Program} {G : Nat → Option Obj}
theorem vwC_val {h : List AO} {c : C} {k : C → Tr} {K : X → St → Prop} (hk : (vwC h c k).holds P G K) : ∃ c', (k c').holds P G K ∧ ∀ (k' : C → Tr) (K' : X → St → Prop), (k' c').holds P G K' → (vwC h c k').holds P G K' := by
  unfold vwC at hk ⊢
  split at hk
  · exact ⟨_, hk, fun k' K' h => h⟩
  · split at hk
    · rw [chk_holds] at hk
      obtain ⟨h1, h2, h3⟩ := hk
      exact ⟨_, h3, fun k' K' h => by rw [chk_holds]; exact ⟨h1, h2, h⟩⟩
    · exact hk.elim
  · exact hk.elim
theorem vwCs_val {h : List AO} : ∀ {cs : List C} {k : List C → Tr} {K : X → St → Prop}, (vwCs h cs k).holds P G K → ∃ cs', (k cs').holds P G K ∧ ∀ (k' : List C → Tr) (K' : X → St → Prop), (k' cs').holds P G K' → (vwCs h cs k').holds P G K'
  | [], k, K, hk => ⟨[], hk, fun _ _ h => h⟩
  | c :: r, k, K, hk => by
    obtain ⟨c', h1, h2⟩ := vwC_val hk
    obtain ⟨r', h3, h4⟩ := vwCs_val h1
    exact ⟨c' :: r', h3, fun k' K' hq => h2 (fun c' => vwCs h r fun r' => k' (c' :: r')) K' (h4 (fun r' => k' (c' :: r')) K' hq)⟩
theorem vwV_val {h : List AO} {c : V} {k : V → Tr} {K : X → St → Prop} (hk : (vwV h c k).holds P G K) : ∃ c', (k c').holds P G K ∧ ∀ (k' : V → Tr) (K' : X → St → Prop), (k' c').holds P G K' → (vwV h c k').holds P G K' := by
  unfold vwV at hk ⊢
  split at hk
  · obtain ⟨c', h1, h2⟩ := vwC_val hk
    exact ⟨_, h1, fun k' K' h => h2 (fun x => k' (.c x)) K' h⟩
  · obtain ⟨c', h1, h2⟩ := vwCs_val hk
    exact ⟨_, h1, fun k' K' h => h2 (fun x => k' (.a x)) K' h⟩
  · exact hk.elim
theorem vwVs_val {h : List AO} : ∀ {cs : List V} {k : List V → Tr} {K : X → St → Prop}, (vwVs h cs k).holds P G K → ∃ cs', (k cs').holds P G K ∧ ∀ (k' : List V → Tr) (K' : X → St → Prop), (k' cs').holds P G K' → (vwVs h cs k').holds P G K'
  | [], k, K, hk => ⟨[], hk, fun _ _ h => h⟩
  | c :: r, k, K, hk => by
    obtain ⟨c', h1, h2⟩ := vwV_val hk
    obtain ⟨r', h3, h4⟩ := vwVs_val h1
    exact ⟨c' :: r', h3, fun k' K' hq => h2 (fun c' => vwVs h r fun r' => k' (c' :: r')) K' (h4 (fun r' => k' (c' :: r')) K' hq)⟩
theorem mutK_val {m : ModH} {h : List AO} {k : V → List AO → Tr} {args : List V} {K : X → St → Prop} (hk : (mutK m h k args).holds P G K) : ∃ v h', (k v h').holds P G K ∧ ∀ (k' : V → List AO → Tr) (K' : X → St → Prop), (k' v h').holds P G K' → (mutK m h k' args).holds P G K' := by
  unfold mutK at hk ⊢
  split at hk
  · obtain ⟨h1, h2⟩ := hk
    rw [chk_holds] at h2
    exact ⟨_, _, h2.2, fun k' K' h => ⟨h1, by rw [chk_holds]; exact ⟨h2.1, h⟩⟩⟩
  · rw [chk_holds] at hk
    obtain ⟨h1, h2, h3⟩ := hk
    exact ⟨_, _, h3, fun k' K' h => by rw [chk_holds]; exact ⟨h1, h2, h⟩⟩
  · exact hk.elim
theorem mutX_sound {f0 : FuncId} {m : ModH} {rest : Ext} (hm : ModHOK P G f0 m) (hr : SoundExt P G rest) : SoundExt P G (mutX f0 m rest) := by
  refine ⟨?_, ?_⟩
  · intro f args h k K hh
    unfold mutX at hh
    split at hh
    · rename_i hb
      obtain rfl := Nat.eq_of_beq_eq_true hb
      intro β R w vs ha hs
      obtain ⟨args', h1, h2⟩ := vwVs_sound hs ha hh
      exact mutK_fn hm hs h1 h2
    · exact hr.fn _ _ _ _ _ hh
  · intro f args h k K hh
    unfold mutX at hh ⊢
    split at hh
    · obtain ⟨args', h1, h2⟩ := vwVs_val hh
      obtain ⟨v, h', h3, h4⟩ := mutK_val h1
      exact ⟨v, h', h3, fun k' K' hk => h2 _ K' (h4 k' K' hk)⟩
    · exact hr.val _ _ _ _ _ hh
end
end Go.AE
/-! ### AE, part 31: branchings with loops inside. -/
namespace Go.AE
set_option linter.unusedVariables false
set_option linter.unusedSimpArgs false
open Go.RowKit
section
variable {P : Program} {G : Nat → Option Obj}
theorem ExA.cond {k : Nat} {a b : ACode} {st : St} {x : Bool} {K : X → St → Prop} (hx : nth (.c .top) st.t k = .c (.p (.b x))) (h1 : x = true → ExA P G a ⟨upd (.c (.p (.b true))) st.t k, st.h⟩ K) (h2 : x = false → ExA P G b ⟨upd (.c (.p (.b false))) st.t k, st.h⟩ K) : ExA P G (.cond (.t k) a b) st K := by
  refine ExA.core fun c hns hc => ?_
  cases c with
  | scope c' => exact absurd rfl (hns c')
  | cond y c1 c2 =>
    simp only [cCode, Option.bind_eq_bind, Option.bind_eq_some_iff, Option.pure_def, Option.some.injEq] at hc
    obtain ⟨ax, g1, a1, g2, a2, g3, g4⟩ := hc
    injection g4 with e1 e2 e3
    subst e1; subst e2; subst e3
    intro β R a w hs
    have hv := ev_sound hs g1
    have he : st.ev (.t k) = .c (.p (.b x)) := hx
    rw [he] at hv
    have hv : a.eval y = .bool x := hv
    have same : Sim G β R ⟨upd (.c (.p (.b x))) st.t k, st.h⟩ a w := hs.same (fun u hu => by rw [hx] at hu; exact hu)
    cases x with
    | true => exact wp_cond_true hv (h1 rfl c1 g2 β R a w same)
    | false => exact wp_cond_false hv (h2 rfl c2 g3 β R a w same)
  | region id ops draw => cases cCode_region hc
  | seq c1 c2 => cases h2 : cCode P c1 <;> cases h3 : cCode P c2 <;> simp [cCode, h2, h3] at hc
  | block id c => cases h1 : cCode P c <;> simp [cCode, h1] at hc
  | loop c => cases h1 : cCode P c <;> simp [cCode, h1] at hc
  | _ => simp [cCode] at hc
/-- A branching, then the rest. -/
theorem ExS.cond {rs : List AR} {v : V} {k : Nat} {a b : ACode} {l r : List ACode} {st : St} {x : Bool} {Q : X → St → Prop} (hl : l = .cond (.t k) a b :: r) (hx : nth (.c .top) st.t k = .c (.p (.b x)))
    (h1 : x = true → ∀ Q' : X → St → Prop, (∀ st, ExS P G rs v r st Q → Q' .normal st) → (∀ j st, Q (.exit j) st → Q' (.exit j) st) → ExS P G rs v (flat a) ⟨upd (.c (.p (.b true))) st.t k, st.h⟩ Q')
    (h2 : x = false → ∀ Q' : X → St → Prop, (∀ st, ExS P G rs v r st Q → Q' .normal st) → (∀ j st, Q (.exit j) st → Q' (.exit j) st) → ExS P G rs v (flat b) ⟨upd (.c (.p (.b false))) st.t k, st.h⟩ Q') : ExS P G rs v l st Q := by
  subst hl
  exact ExA.cond hx (fun e => ExS.code (h1 e (fun e st' => match e with
    | .normal => ExS P G rs v r st' Q
    | e => Q e st') (fun _ h => h) (fun _ _ h => h))) (fun e => ExS.code (h2 e (fun e st' => match e with
    | .normal => ExS P G rs v r st' Q
    | e => Q e st') (fun _ h => h) (fun _ _ h => h)))
end
def cndA : ACode → ACode
  | .cond _ a _ => a
  | c => c
def cndB : ACode → ACode
  | .cond _ _ b => b
  | c => c
end Go.AE
