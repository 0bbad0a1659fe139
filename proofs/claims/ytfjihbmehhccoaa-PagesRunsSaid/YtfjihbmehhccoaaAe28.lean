/- AE, part 28: calls with rows that are not written any more. -/
import Derived.Test.YtfjihbmehhccoaaAe27
namespace Go.AE
set_option linter.unusedVariables false
set_option linter.unusedSimpArgs false
open Go.RowKit
section
variable {P : Program} {G : Nat → Option Obj}
theorem frz_core {β : Bt} {R : Nat → Prop} {w : World} {h : List AO} (hh : HS G β R w h) {id : Nat} {ty : TypeId} {sz n : Nat} {f : Nat → Nat → C} (hid : nth .gone h id = .row ty sz n f) (hf : ∀ e o, e < n → o < sz → isF (f e o) = true) :
    ∃ β' R', HS G β' R' w (upd .gone h id) ∧ Gr β R w β' R' w ∧ (∀ i, β' i = β i) ∧ ∀ off len u, off + len ≤ n → CR β R w (.sl id sz off len) u → PR R' w (.l sz len fun e o => unP (f (e + off) o)) u := by
  have hlid := nth_gone hid (by simp)
  let own : Nat → Prop := fun b1 => (∃ N, β id = some (b1, N)) ∨ ∃ b N k, β id = some (b, N) ∧ β.q b1 = some (b, k)
  let R' : Nat → Prop := fun b1 => R b1 ∨ own b1
  open Classical in
  let β' : Bt := ⟨β.f, fun b1 => if own b1 then none else β.q b1⟩
  have hq' : ∀ b2 ad, β'.q b2 = some ad → ¬ own b2 ∧ β.q b2 = some ad := by
    intro b2 ad h
    have h : (if own b2 then none else β.q b2) = some ad := h
    split at h
    · cases h
    · rename_i h1; exact ⟨h1, h⟩
  have hq2 : ∀ b2 ad, ¬ own b2 → β.q b2 = some ad → β'.q b2 = some ad := by
    intro b2 ad h1 h2
    show (if own b2 then none else β.q b2) = some ad
    rw [if_neg h1]; exact h2
  have hkp : Keeps β R w β' R' w := ⟨fun _ _ h => h, fun _ h => .inl h, fun _ _ => rfl⟩
  have hlive : (nth .gone h id).live = true := by rw [hid]; rfl
  have hl2 : ∀ i, (nth .gone (upd .gone h id) i).live = true → i ≠ id ∧ (nth .gone h i).live = true := fun i hl => live_gone hl
  have hlf : ∀ i, (nth .gone h i).live = false → (nth .gone (upd .gone h id) i).live = false := fun i hl => by
    by_cases e : id = i
    · subst e; rw [nth_upd_eq _ _ _ hlid]; rfl
    · rw [nth_upd_ne _ _ _ e]; exact hl
  have hown_live : ∀ i b o, β i = some (b, o) → (nth .gone (upd .gone h id) i).live = true → ¬ own b := by
    intro i b o hi hl
    obtain ⟨k1, k2⟩ := hl2 i hl
    rintro (⟨N, h1⟩ | ⟨b0, N, k, h1, h2⟩)
    · exact k1 (hh.inj i id b o N hi h1 k2 hlive)
    · have := (hh.ql b _ h2).2.2 i o hi
      rw [k2] at this; cases this
  have hval : ∀ off len u, off + len ≤ n → CR β R w (.sl id sz off len) u → PR R' w (.l sz len fun e o => unP (f (e + off) o)) u := by
    rintro off len u hn ⟨A, c, rfl, g1, g2, g3⟩
    refine ⟨A, c, rfl, g1, g2, fun hn0 => ?_⟩
    rcases g3 with ⟨_, g4, _⟩ | ⟨b, o0, g4, rfl, g7⟩
    · omega
    · have hob := hh.obj id b o0 g4
      rw [hid] at hob
      obtain ⟨cs, g8, g80, g9, g10⟩ := hob
      refine ⟨_, rfl, .inr (.inl ⟨o0, g4⟩), fun e q he hq => ?_⟩
      obtain ⟨u, h5, h6⟩ := g10 (e + off) q (by omega) hq
      refine ⟨u, ?_, ?_⟩
      · rw [add_mid, cell_of_row w b _ cs ty (0, 0) g8, ← h5]
        congr 1
        rw [Nat.add_mul]; omega
      · have := hf (e + off) q (by omega) hq
        show PR R' w (unP (f (e + off) q)) u
        cases hfe : f (e + off) q with
        | p x =>
          rw [hfe] at h6
          exact PR.keep (fun _ h => .inl h) (fun _ _ => rfl) _ h6
        | own ty2 sz2 n2 f2 =>
          rw [hfe] at h6
          obtain ⟨A, c, k1, k2, k3, k4⟩ := h6
          refine ⟨A, c, k1, k2, k3, fun hn => ?_⟩
          rcases k4 with ⟨_, k5, _⟩ | ⟨b2, cs2, k5, k6, k7, k8, k9⟩
          · omega
          · refine ⟨_, k5, .inr (.inr ⟨b, o0, _, g4, k6⟩), fun e2 o2 he2 ho2 => ?_⟩
            obtain ⟨u2, r1, r2⟩ := k9 e2 o2 he2 ho2
            exact ⟨u2, by rw [add_mid, cell_of_row w b2 _ cs2 ty2 (0, 0) k7, Nat.zero_add]; exact r1, PR.keep (fun _ h => .inl h) (fun _ _ => rfl) _ r2⟩
        | _ => rw [hfe] at this; cases this
  have hHS : HS G β' R' w (upd .gone h id) := by
    refine hs_told hh (by rw [upd_eq, List.length_set]; exact Nat.le_refl _) (fun i x hi => by rw [upd_eq, List.length_set]; exact hh.dom i x hi) (fun _ h => .inl h) ?_ ?_ ?_ hh.lt ?_ ?_
    · rintro b (h1 | ⟨N, h1⟩ | ⟨b0, N, k, h1, h2⟩)
      · exact hh.rlt b h1
      · exact hh.lt id b N h1
      · exact (hh.ql b _ h2).1
    · intro i j b o o' hi hj li lj
      exact hh.inj i j b o o' hi hj (hl2 i li).2 (hl2 j lj).2
    · rintro i b o hi li (h1 | h1)
      · exact hh.sep i b o hi (hl2 i li).2 h1
      · exact hown_live i b o hi li h1
    · intro i b o hi
      cases hl : (nth .gone (upd .gone h id) i).live with
      | false => exact OR.dead_gone hkp hl (hh.obj i b o hi)
      | true =>
        obtain ⟨k1, k2⟩ := hl2 i hl
        rw [nth_upd_ne _ _ _ (fun e => k1 e.symm)]
        refine OR.keep hkp (fun b1 k h1 => ⟨hq2 b1 _ ?_ h1, rfl⟩) rfl (hh.obj i b o hi)
        rintro (⟨N, h2⟩ | ⟨b0, N, k', h2, h3⟩)
        · have := (hh.ql b1 _ h1).2.2 id N h2
          rw [hlive] at this; cases this
        · rw [h1] at h3; injection h3 with h3; injection h3 with h3 _
          exact k1 (hh.inj i id b o N hi (h3 ▸ h2) k2 hlive)
    · intro b2 ad hq
      obtain ⟨k1, k2⟩ := hq' b2 ad hq
      obtain ⟨q1, q2, q3⟩ := hh.ql b2 ad k2
      exact ⟨q1, fun h => h.elim q2 k1, fun i o hi => hlf i (q3 i o hi)⟩
  refine ⟨β', R', hHS, ⟨⟨rfl, rfl, rfl, Nat.le_refl _, fun _ _ => rfl, fun _ _ _ => rfl, ?_, ?_⟩, fun _ _ h => h, fun _ h => .inl h⟩, fun _ => rfl, hval⟩
  · rintro b2 (⟨i, o, hi⟩ | ⟨ad, hq⟩)
    · exact .inl (.inl ⟨i, o, hi⟩)
    · exact .inl (.inr ⟨ad, (hq' b2 ad hq).2⟩)
  · rintro b (h1 | ⟨N, h1⟩ | ⟨b0, N, k, h1, h2⟩)
    · exact .inl h1
    · exact .inr (.inl (.inl ⟨id, N, h1⟩))
    · exact .inr (.inl (.inr ⟨_, h2⟩))

def fzC (id : Nat) (f : Nat → Nat → C) : C → C
  | .sl i s off len => if i = id then .p (.l s len fun e o => unP (f (e + off) o)) else .sl i s off len
  | x => x
def fzV (id : Nat) (f : Nat → Nat → C) : V → V
  | .c x => .c (fzC id f x)
  | .a cs => .a (cs.map (fzC id f))
  | .t vs => .t vs
def conC (id sz n : Nat) : C → Prop
  | .sl i s off len => if i = id then s = sz ∧ off + len ≤ n else True
  | _ => True
def conCs (id sz n : Nat) : List C → Prop
  | [] => True
  | x :: r => conC id sz n x ∧ conCs id sz n r
def conV (id sz n : Nat) : V → Prop
  | .c x => conC id sz n x
  | .a cs => conCs id sz n cs
  | .t _ => True
def conVs (id sz n : Nat) : List V → Prop
  | [] => True
  | x :: r => conV id sz n x ∧ conVs id sz n r
/-- A model behind which the rows 'ids' are gone. -/
def frzM (m : Mod) : List Nat → ModH
  | [], args, h => match m args with
    | some (p, v) => some (p, v, h)
    | none => none
  | id :: r, args, h => match nth .gone h id with
    | .row _ sz n f => match frzM m r (args.map (fzV id f)) (upd .gone h id) with
      | some (p, v, h') => some ((conVs id sz n args ∧ ∀ e o, e < n → o < sz → isF (f e o) = true) ∧ p, v, h')
      | none => none
    | _ => none
def slC : C → List Nat
  | .sl i _ _ _ => [i]
  | _ => []
def slCs : List C → List Nat
  | [] => []
  | x :: r => slC x ++ slCs r
def slVs : List V → List Nat
  | [] => []
  | .c x :: r => slC x ++ slVs r
  | .a cs :: r => slCs cs ++ slVs r
  | .t _ :: r => slVs r
def frzA (m : Mod) : ModH := fun args h => frzM m (slVs args).eraseDups args h
theorem fzC_ok {β β' : Bt} {R R' : Nat → Prop} {w : World} {id sz n : Nat} {f : Nat → Nat → C} (hk : Keeps β R w β' R' w)
    (hval : ∀ off len u, off + len ≤ n → CR β R w (.sl id sz off len) u → PR R' w (.l sz len fun e o => unP (f (e + off) o)) u) {x : C} {u : Value} (hc : conC id sz n x) (h : CR β R w x u) : CR β' R' w (fzC id f x) u := by
  unfold fzC
  split
  · rename_i i s off len
    split
    · rename_i e
      subst e
      have hc : if i = i then s = sz ∧ off + len ≤ n else True := hc
      rw [if_pos rfl] at hc
      obtain ⟨rfl, h2⟩ := hc
      exact hval off len u h2 h
    · exact CR.keep hk h
  · exact CR.keep hk h
theorem fzCs_ok {β β' : Bt} {R R' : Nat → Prop} {w : World} {id sz n : Nat} {f : Nat → Nat → C} (hk : Keeps β R w β' R' w)
    (hval : ∀ off len u, off + len ≤ n → CR β R w (.sl id sz off len) u → PR R' w (.l sz len fun e o => unP (f (e + off) o)) u) : ∀ {cs : List C} {us : List Value}, conCs id sz n cs → All2 (CR β R w) cs us → All2 (CR β' R' w) (cs.map (fzC id f)) us
  | [], [], _, _ => trivial
  | [], _ :: _, _, h => h.elim
  | _ :: _, [], _, h => h.elim
  | _ :: _, _ :: _, hc, h => ⟨fzC_ok hk hval hc.1 h.1, fzCs_ok hk hval hc.2 h.2⟩
theorem fzV_ok {β β' : Bt} {R R' : Nat → Prop} {w : World} {id sz n : Nat} {f : Nat → Nat → C} (hk : Keeps β R w β' R' w)
    (hval : ∀ off len u, off + len ≤ n → CR β R w (.sl id sz off len) u → PR R' w (.l sz len fun e o => unP (f (e + off) o)) u) {x : V} {u : Value} (hc : conV id sz n x) (h : VR β R w x u) : VR β' R' w (fzV id f x) u := by
  cases x with
  | c x => exact fzC_ok hk hval hc h
  | a cs => obtain ⟨us, h1, h2⟩ := h; exact ⟨us, h1, fzCs_ok hk hval hc h2⟩
  | t vs => exact VR.keep hk h
theorem fzVs_ok {β β' : Bt} {R R' : Nat → Prop} {w : World} {id sz n : Nat} {f : Nat → Nat → C} (hk : Keeps β R w β' R' w)
    (hval : ∀ off len u, off + len ≤ n → CR β R w (.sl id sz off len) u → PR R' w (.l sz len fun e o => unP (f (e + off) o)) u) : ∀ {xs : List V} {us : List Value}, conVs id sz n xs → All2 (VR β R w) xs us → All2 (VR β' R' w) (xs.map (fzV id f)) us
  | [], [], _, _ => trivial
  | [], _ :: _, _, h => h.elim
  | _ :: _, [], _, h => h.elim
  | _ :: _, _ :: _, hc, h => ⟨fzV_ok hk hval hc.1 h.1, fzVs_ok hk hval hc.2 h.2⟩
theorem frzM_ok {fn : FuncId} {m : Mod} (hm : ModOK P G fn m) : ∀ ids, ModHOK P G fn (frzM m ids)
  | [] => by
    intro args h p v h' he hp
    unfold frzM at he
    split at he
    · rename_i p' v' hq
      injection he with he
      injection he with e1 he
      injection he with e2 e3
      subst e1; subst e2; subst e3
      exact hm args _ _ hq hp _
    · cases he
  | id :: r => by
    intro args h p v h' he hp
    unfold frzM at he
    split at he
    · rename_i ty sz n f hid
      split at he
      · rename_i p' v' h2 hq
        injection he with he
        injection he with e1 he
        injection he with e2 e3
        subst e1; subst e2; subst e3
        obtain ⟨⟨hc, hf⟩, hp⟩ := hp
        intro β R w vs ha hh
        obtain ⟨β', R', k1, k2, k3, k4⟩ := frz_core hh hid hf
        have ih := frzM_ok hm r _ _ _ _ _ hq hp β' R' w vs (fzVs_ok k2.keeps k4 hc ha) k1
        refine ih.mono ?_
        rintro e w' ⟨u, β2, R2, x, h3, q1, q2, q3, q4, q5, q6⟩
        refine ⟨u, β2, R2, x, h3, q1, q2, q3, q4, k2.trans q5, fun i hi => ?_⟩
        rw [q6 i (by rw [upd_eq, List.length_set]; exact hi), k3 i]
      · cases he
    · cases he
theorem frzA_ok {fn : FuncId} {m : Mod} (hm : ModOK P G fn m) : ModHOK P G fn (frzA m) := fun args h => frzM_ok hm _ args h
end
end Go.AE
