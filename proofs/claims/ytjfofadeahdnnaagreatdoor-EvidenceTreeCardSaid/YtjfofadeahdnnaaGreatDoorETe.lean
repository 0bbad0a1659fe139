/- Pages: AeD, AeE, R1, as far as they are used here. -/
import Derived.Test.YtjfofadeahdnnaaGreatDoorETd
import Derived.Sort.Row
import Derived.Sort.Grow
import Derived.Test.YtjfofadeahdnnaaGreatDoorProg
namespace Go.AE
set_option linter.unusedVariables false
set_option linter.unusedSimpArgs false
open Go.RowKit
section
variable {P : Program} {G : Nat → Option Obj}
def VLeH (G : Nat → Option Obj) (h : List AO) (x v : V) : Prop := ∀ β R w u, HS G β R w h → VR β R w x u → VR Bt.nil (fun b => b < w.heap.size) w v u
inductive VLesH (G : Nat → Option Obj) (h : List AO) : List V → List V → Prop
  | nil : VLesH G h [] []
  | cons {x v : V} {xs vs : List V} : VLeH G h x v → VLesH G h xs vs → VLesH G h (x :: xs) (v :: vs)
theorem VLesH.all {h : List AO} {β : Bt} {R : Nat → Prop} {w : World} (hh : HS G β R w h) {xs vs : List V} (hl : VLesH G h xs vs) : ∀ {us : List Value}, All2 (VR β R w) xs us → All2 (VR Bt.nil (fun b => b < w.heap.size) w) vs us := by
  induction hl with
  | nil => intro us hu; cases us <;> exact hu
  | cons h1 _ ih =>
    intro us hu
    cases us with
    | nil => exact hu.elim
    | cons u us => exact ⟨h1 _ _ _ _ hh hu.1, ih hu.2⟩
def b1 (g N : Nat) : Bt := ⟨fun i => if i = 0 then some (g, N) else none, fun _ => none⟩
end
end Go.AE
namespace Go.AE
set_option linter.unusedVariables false
set_option linter.unusedSimpArgs false
open Go.RowKit
section
variable {P : Program} {G : Nat → Option Obj}
end
end Go.AE
namespace Go.AE
set_option linter.unusedVariables false
set_option linter.unusedSimpArgs false
open Go.RowKit
section
variable {P : Program} {G : Nat → Option Obj} {β : Bt} {R : Nat → Prop} {w : World} {st : St}
theorem hs_told {h h' : List AO} (hh : HS G β R w h) {β' : Bt} {R' : Nat → Prop} (hlen : h.length ≤ h'.length) (hf : ∀ i x, β' i = some x → i < h'.length) (hrm : ∀ b, R b → R' b) (hrlt : ∀ b, R' b → b < w.heap.size)
    (hinj : ∀ i j b o o', β' i = some (b, o) → β' j = some (b, o') → (nth .gone h' i).live = true → (nth .gone h' j).live = true → i = j) (hsep : ∀ i b o, β' i = some (b, o) → (nth .gone h' i).live = true → ¬ R' b)
    (hlt : ∀ i b o, β' i = some (b, o) → b < w.heap.size) (hobj : ∀ i b o, β' i = some (b, o) → OR β' R' w (nth .gone h' i) b o)
    (hql : ∀ b ad, β'.q b = some ad → b < w.heap.size ∧ ¬ R' b ∧ ∀ i o, β' i = some (b, o) → (nth .gone h' i).live = false) : HS G β' R' w h' :=
  ⟨hf, hinj, hsep, hlt, hrlt, hobj, fun b o hb => ⟨hrm b (hh.gl b o hb).1, (hh.gl b o hb).2⟩, hql⟩
theorem weak_slot {j : Nat} {y : V} (h : VLe (nth (.c .top) st.t j) y) : WeakS G st ⟨upd y st.t j, st.h⟩ := fun β R a w hs =>
  ⟨β, R, Sim.same hs (fun u hu => h β R w u hu), Fr.refl _ _ _, fun _ hb => hb⟩
end
end Go.AE
namespace Go.AE
set_option linter.unusedVariables false
set_option linter.unusedSimpArgs false
open Go.RowKit
section
variable {P : Program} {G : Nat → Option Obj} {β : Bt} {R : Nat → Prop} {w : World} {st : St}
end
end Go.AE
namespace Go.AE
set_option linter.unusedVariables false
set_option linter.unusedSimpArgs false
open Go.RowKit
section
variable {P : Program} {G : Nat → Option Obj}
theorem frz_core {β : Bt} {R : Nat → Prop} {w : World} {h : List AO} (hh : HS G β R w h) {id : Nat} {ty : TypeId} {sz n : Nat} {f : Nat → Nat → C} (hid : nth .gone h id = .row ty sz n f) (hf : ∀ e o, e < n → o < sz → isF (f e o) = true) :
    ∃ β' R', HS G β' R' w (upd .gone h id) ∧ Gr β R w β' R' w ∧ (∀ i, β' i = β i) ∧ ∀ off len u, off + len ≤ n → CR β R w (.sl id sz off len) u → PR R' w (.l sz len fun e o => unP (f (e + off) o)) u := by
  have hlid := nth_gone hid (by simp)
  let own : Nat → Prop := fun b1 => (∃ N, β id = some (b1, N)) ∨ ∃ b N k, β id = some (b, N) ∧ β.q b1 = some (b, k)
  let R' : Nat → Prop := fun b1 => R b1 ∨ own b1
  open Classical in
  let β' : Bt := ⟨β.f, fun b1 => if own b1 then none else β.q b1⟩
  have hq' : ∀ b2 ad, β'.q b2 = some ad → ¬ own b2 ∧ β.q b2 = some ad := by
    intro b2 ad h
    have h : (if own b2 then none else β.q b2) = some ad := h
    split at h
    · cases h
    · rename_i h1; exact ⟨h1, h⟩
  have hq2 : ∀ b2 ad, ¬ own b2 → β.q b2 = some ad → β'.q b2 = some ad := by
    intro b2 ad h1 h2
    show (if own b2 then none else β.q b2) = some ad
    rw [if_neg h1]; exact h2
  have hkp : Keeps β R w β' R' w := ⟨fun _ _ h => h, fun _ h => .inl h, fun _ _ => rfl⟩
  have hlive : (nth .gone h id).live = true := by rw [hid]; rfl
  have hl2 : ∀ i, (nth .gone (upd .gone h id) i).live = true → i ≠ id ∧ (nth .gone h i).live = true := fun i hl => live_gone hl
  have hlf : ∀ i, (nth .gone h i).live = false → (nth .gone (upd .gone h id) i).live = false := fun i hl => by
    by_cases e : id = i
    · subst e; rw [nth_upd_eq _ _ _ hlid]; rfl
    · rw [nth_upd_ne _ _ _ e]; exact hl
  have hown_live : ∀ i b o, β i = some (b, o) → (nth .gone (upd .gone h id) i).live = true → ¬ own b := by
    intro i b o hi hl
    obtain ⟨k1, k2⟩ := hl2 i hl
    rintro (⟨N, h1⟩ | ⟨b0, N, k, h1, h2⟩)
    · exact k1 (hh.inj i id b o N hi h1 k2 hlive)
    · have := (hh.ql b _ h2).2.2 i o hi
      rw [k2] at this; cases this
  have hval : ∀ off len u, off + len ≤ n → CR β R w (.sl id sz off len) u → PR R' w (.l sz len fun e o => unP (f (e + off) o)) u := by
    rintro off len u hn ⟨A, c, rfl, g1, g2, g3⟩
    refine ⟨A, c, rfl, g1, g2, fun hn0 => ?_⟩
    rcases g3 with ⟨_, g4, _⟩ | ⟨b, o0, g4, rfl, g7⟩
    · omega
    · have hob := hh.obj id b o0 g4
      rw [hid] at hob
      obtain ⟨cs, g8, g80, g9, g10⟩ := hob
      refine ⟨_, rfl, .inr (.inl ⟨o0, g4⟩), fun e q he hq => ?_⟩
      obtain ⟨u, h5, h6⟩ := g10 (e + off) q (by omega) hq
      refine ⟨u, ?_, ?_⟩
      · rw [add_mid, cell_of_row w b _ cs ty (0, 0) g8, ← h5]
        congr 1
        rw [Nat.add_mul]; omega
      · have := hf (e + off) q (by omega) hq
        show PR R' w (unP (f (e + off) q)) u
        cases hfe : f (e + off) q with
        | p x =>
          rw [hfe] at h6
          exact PR.keep (fun _ h => .inl h) (fun _ _ => rfl) _ h6
        | own ty2 sz2 n2 f2 =>
          rw [hfe] at h6
          obtain ⟨A, c, k1, k2, k3, k4⟩ := h6
          refine ⟨A, c, k1, k2, k3, fun hn => ?_⟩
          rcases k4 with ⟨_, k5, _⟩ | ⟨b2, cs2, k5, k6, k7, k8, k9⟩
          · omega
          · refine ⟨_, k5, .inr (.inr ⟨b, o0, _, g4, k6⟩), fun e2 o2 he2 ho2 => ?_⟩
            obtain ⟨u2, r1, r2⟩ := k9 e2 o2 he2 ho2
            exact ⟨u2, by rw [add_mid, cell_of_row w b2 _ cs2 ty2 (0, 0) k7, Nat.zero_add]; exact r1, PR.keep (fun _ h => .inl h) (fun _ _ => rfl) _ r2⟩
        | _ => rw [hfe] at this; cases this
  have hHS : HS G β' R' w (upd .gone h id) := by
    refine hs_told hh (by rw [upd_eq, List.length_set]; exact Nat.le_refl _) (fun i x hi => by rw [upd_eq, List.length_set]; exact hh.dom i x hi) (fun _ h => .inl h) ?_ ?_ ?_ hh.lt ?_ ?_
    · rintro b (h1 | ⟨N, h1⟩ | ⟨b0, N, k, h1, h2⟩)
      · exact hh.rlt b h1
      · exact hh.lt id b N h1
      · exact (hh.ql b _ h2).1
    · intro i j b o o' hi hj li lj
      exact hh.inj i j b o o' hi hj (hl2 i li).2 (hl2 j lj).2
    · rintro i b o hi li (h1 | h1)
      · exact hh.sep i b o hi (hl2 i li).2 h1
      · exact hown_live i b o hi li h1
    · intro i b o hi
      cases hl : (nth .gone (upd .gone h id) i).live with
      | false => exact OR.dead_gone hkp hl (hh.obj i b o hi)
      | true =>
        obtain ⟨k1, k2⟩ := hl2 i hl
        rw [nth_upd_ne _ _ _ (fun e => k1 e.symm)]
        refine OR.keep hkp (fun b1 k h1 => ⟨hq2 b1 _ ?_ h1, rfl⟩) rfl (hh.obj i b o hi)
        rintro (⟨N, h2⟩ | ⟨b0, N, k', h2, h3⟩)
        · have := (hh.ql b1 _ h1).2.2 id N h2
          rw [hlive] at this; cases this
        · rw [h1] at h3; injection h3 with h3; injection h3 with h3 _
          exact k1 (hh.inj i id b o N hi (h3 ▸ h2) k2 hlive)
    · intro b2 ad hq
      obtain ⟨k1, k2⟩ := hq' b2 ad hq
      obtain ⟨q1, q2, q3⟩ := hh.ql b2 ad k2
      exact ⟨q1, fun h => h.elim q2 k1, fun i o hi => hlf i (q3 i o hi)⟩
  refine ⟨β', R', hHS, ⟨⟨rfl, rfl, rfl, Nat.le_refl _, fun _ _ => rfl, fun _ _ _ => rfl, ?_, ?_⟩, fun _ _ h => h, fun _ h => .inl h⟩, fun _ => rfl, hval⟩
  · rintro b2 (⟨i, o, hi⟩ | ⟨ad, hq⟩)
    · exact .inl (.inl ⟨i, o, hi⟩)
    · exact .inl (.inr ⟨ad, (hq' b2 ad hq).2⟩)
  · rintro b (h1 | ⟨N, h1⟩ | ⟨b0, N, k, h1, h2⟩)
    · exact .inl h1
    · exact .inr (.inl (.inl ⟨id, N, h1⟩))
    · exact .inr (.inl (.inr ⟨_, h2⟩))
end
end Go.AE
namespace Go.AE
set_option linter.unusedVariables false
set_option linter.unusedSimpArgs false
open Go.RowKit
def fzlC (id sz : Nat) (F : Nat → Nat → PV) : C → C
  | .sl i s off len => match Nat.beq i id && Nat.beq s sz with
    | true => .p (.l sz len fun e o => F (e + off) o)
    | false => .sl i s off len
  | x => x
def fzlCs (id sz : Nat) (F : Nat → Nat → PV) : List C → List C
  | [] => []
  | x :: r => fzlC id sz F x :: fzlCs id sz F r
def fzlV (id sz : Nat) (F : Nat → Nat → PV) : V → V
  | .c x => .c (fzlC id sz F x)
  | .a cs => .a (fzlCs id sz F cs)
  | .t vs => .t vs
def fzlT (id sz : Nat) (F : Nat → Nat → PV) : List V → List V
  | [] => []
  | x :: r => fzlV id sz F x :: fzlT id sz F r
def fzlO (id sz : Nat) (F : Nat → Nat → PV) : AO → AO
  | .cells ty vs => .cells ty (fzlCs id sz F vs)
  | x => x
def fzlH (id sz : Nat) (F : Nat → Nat → PV) : List AO → List AO
  | [] => []
  | x :: r => fzlO id sz F x :: fzlH id sz F r
def ocC (id sz : Nat) : C → List (Nat × Nat)
  | .sl i s off len => match Nat.beq i id && Nat.beq s sz with
    | true => [(off, len)]
    | false => []
  | _ => []
def ocCs (id sz : Nat) : List C → List (Nat × Nat) → List (Nat × Nat)
  | [], l => l
  | x :: r, l => match ocC id sz x with
    | [] => ocCs id sz r l
    | p :: _ => p :: ocCs id sz r l
def ocT (id sz : Nat) : List V → List (Nat × Nat) → List (Nat × Nat)
  | [], l => l
  | .c x :: r, l => ocCs id sz [x] (ocT id sz r l)
  | .a cs :: r, l => ocCs id sz cs (ocT id sz r l)
  | .t _ :: r, l => ocT id sz r l
def ocH (id sz : Nat) : List AO → List (Nat × Nat) → List (Nat × Nat)
  | [], l => l
  | .cells _ vs :: r, l => ocCs id sz vs (ocH id sz r l)
  | _ :: r, l => ocH id sz r l
def occS (id sz : Nat) (st : St) : List (Nat × Nat) := ocT id sz st.t (ocH id sz st.h [])
def frzS (id sz : Nat) (F : Nat → Nat → PV) (st : St) : St := ⟨fzlT id sz F st.t, fzlH id sz F (upd .gone st.h id)⟩
theorem ocCs_mono {id sz : Nat} {p : Nat × Nat} : ∀ {cs : List C} {l : List (Nat × Nat)}, p ∈ l → p ∈ ocCs id sz cs l
  | [], _, h => h
  | x :: r, l, h => by
    unfold ocCs
    split
    · exact ocCs_mono h
    · exact List.mem_cons_of_mem _ (ocCs_mono h)
theorem ocCs_in {id sz off len : Nat} : ∀ {cs : List C} {l : List (Nat × Nat)}, C.sl id sz off len ∈ cs → (off, len) ∈ ocCs id sz cs l
  | x :: r, l, h => by
    unfold ocCs
    rcases List.mem_cons.1 h with rfl | h
    · have : ocC id sz (.sl id sz off len) = [(off, len)] := by show (match Nat.beq id id && Nat.beq sz sz with | true => [(off, len)] | false => []) = _; rw [Nat.beq_refl, Nat.beq_refl]; rfl
      rw [this]
      exact List.mem_cons_self ..
    · split
      · exact ocCs_in h
      · exact List.mem_cons_of_mem _ (ocCs_in h)
theorem ocT_mono {id sz : Nat} {p : Nat × Nat} : ∀ {t : List V} {l : List (Nat × Nat)}, p ∈ l → p ∈ ocT id sz t l
  | [], _, h => h
  | .c _ :: r, l, h => ocCs_mono (ocT_mono h)
  | .a _ :: r, l, h => ocCs_mono (ocT_mono h)
  | .t _ :: r, l, h => by unfold ocT; exact ocT_mono h
def inV (x : C) : V → Prop
  | .c y => x = y
  | .a cs => x ∈ cs
  | .t _ => False
theorem ocT_in {id sz off len : Nat} : ∀ {t : List V} {l : List (Nat × Nat)} {v : V}, v ∈ t → inV (.sl id sz off len) v → (off, len) ∈ ocT id sz t l
  | x :: r, l, v, h, hv => by
    rcases List.mem_cons.1 h with rfl | h1
    · cases v with
      | c y => cases hv; exact ocCs_in (List.mem_cons_self ..)
      | a cs => exact ocCs_in hv
      | t _ => exact hv.elim
    · cases x with
      | c y => exact ocCs_mono (ocT_in h1 hv)
      | a cs => exact ocCs_mono (ocT_in h1 hv)
      | t _ => unfold ocT; exact ocT_in h1 hv
theorem ocH_in {id sz off len : Nat} {ty : TypeId} {vs : List C} : ∀ {h : List AO} {l : List (Nat × Nat)}, AO.cells ty vs ∈ h → .sl id sz off len ∈ vs → (off, len) ∈ ocH id sz h l
  | x :: r, l, h, hv => by
    rcases List.mem_cons.1 h with rfl | h1
    · exact ocCs_in hv
    · cases x with
      | cells ty' vs' => exact ocCs_mono (ocH_in h1 hv)
      | _ => unfold ocH; exact ocH_in h1 hv
theorem fzlH_eq (id sz : Nat) (F : Nat → Nat → PV) : ∀ (h : List AO), fzlH id sz F h = h.map (fzlO id sz F)
  | [] => rfl
  | _ :: r => by rw [fzlH, fzlH_eq id sz F r]; rfl
section
variable {G : Nat → Option Obj} {st : St}
theorem fzlC_ok {β β' : Bt} {R R' : Nat → Prop} {w : World} {id sz n : Nat} {f : Nat → Nat → C} {F : Nat → Nat → PV} (hk : Keeps β R w β' R' w)
    (hF : ∀ e o, e < n → o < sz → PLe (unP (f e o)) (F e o))
    (hval : ∀ off len u, off + len ≤ n → CR β R w (.sl id sz off len) u → PR R' w (.l sz len fun e o => unP (f (e + off) o)) u) {x : C} {u : Value} (hc : ∀ off len, x = .sl id sz off len → off + len ≤ n) (h : CR β R w x u) : CR β' R' w (fzlC id sz F x) u := by
  unfold fzlC
  split
  · rename_i i s off len
    split
    · rename_i e
      rw [Bool.and_eq_true] at e
      obtain rfl := Nat.eq_of_beq_eq_true e.1
      obtain rfl := Nat.eq_of_beq_eq_true e.2
      exact PLe.l (fun e o he ho => hF (e + off) o (by have := hc off len rfl; omega) ho) R' w u (hval off len u (hc off len rfl) h)
    · exact CR.keep hk h
  · exact CR.keep hk h
theorem fzlCs_ok {β β' : Bt} {R R' : Nat → Prop} {w : World} {id sz n : Nat} {f : Nat → Nat → C} {F : Nat → Nat → PV} (hk : Keeps β R w β' R' w)
    (hF : ∀ e o, e < n → o < sz → PLe (unP (f e o)) (F e o))
    (hval : ∀ off len u, off + len ≤ n → CR β R w (.sl id sz off len) u → PR R' w (.l sz len fun e o => unP (f (e + off) o)) u) : ∀ {cs : List C} {us : List Value}, (∀ x ∈ cs, ∀ off len, x = .sl id sz off len → off + len ≤ n) → All2 (CR β R w) cs us → All2 (CR β' R' w) (fzlCs id sz F cs) us
  | [], [], _, _ => trivial
  | [], _ :: _, _, h => h.elim
  | _ :: _, [], _, h => h.elim
  | _ :: _, _ :: _, hc, h => ⟨fzlC_ok hk hF hval (hc _ (List.mem_cons_self ..)) h.1, fzlCs_ok hk hF hval (fun x hx => hc x (List.mem_cons_of_mem _ hx)) h.2⟩
theorem fzlT_ok {β β' : Bt} {R R' : Nat → Prop} {w : World} {id sz n : Nat} {f : Nat → Nat → C} {F : Nat → Nat → PV} (hk : Keeps β R w β' R' w)
    (hF : ∀ e o, e < n → o < sz → PLe (unP (f e o)) (F e o))
    (hval : ∀ off len u, off + len ≤ n → CR β R w (.sl id sz off len) u → PR R' w (.l sz len fun e o => unP (f (e + off) o)) u) : ∀ {vs : List V} {us : List Value}, (∀ v ∈ vs, ∀ off len, inV (.sl id sz off len) v → off + len ≤ n) → All2 (VR β R w) vs us → All2 (VR β' R' w) (fzlT id sz F vs) us
  | [], [], _, _ => trivial
  | [], _ :: _, _, h => h.elim
  | _ :: _, [], _, h => h.elim
  | v :: _, _ :: _, hc, h => ⟨by
      cases v with
      | c x => exact fzlC_ok hk hF hval (fun off len e => hc _ (List.mem_cons_self ..) off len e.symm) h.1
      | a cs =>
        obtain ⟨us, h1, h2⟩ := h.1
        exact ⟨us, h1, fzlCs_ok hk hF hval (fun x hx off len e => hc _ (List.mem_cons_self ..) off len (e ▸ hx)) h2⟩
      | t vs => exact VR.keep hk h.1, fzlT_ok hk hF hval (fun x hx => hc x (List.mem_cons_of_mem _ hx)) h.2⟩
theorem fzlO_live (id sz : Nat) (F : Nat → Nat → PV) (x : AO) : (fzlO id sz F x).live = x.live := by cases x <;> rfl
theorem nth_fzlH (id sz : Nat) (F : Nat → Nat → PV) : ∀ (h : List AO) (i : Nat), nth .gone (fzlH id sz F h) i = fzlO id sz F (nth .gone h i)
  | [], _ => rfl
  | _ :: _, 0 => rfl
  | _ :: r, i + 1 => nth_fzlH id sz F r i
theorem nth_mem {h : List AO} {i : Nat} (hl : (nth .gone h i).live = true) : nth .gone h i ∈ h := by
  rw [nth_eq] at hl ⊢
  by_cases hi : i < h.length
  · simp [List.getD_eq_getElem?_getD, List.getElem?_eq_getElem hi]
  · rw [List.getD_eq_getElem?_getD, List.getElem?_eq_none (by omega)] at hl
    cases hl
theorem weak_frzL {id : Nat} {ty : TypeId} {sz n : Nat} {f : Nat → Nat → C} (F : Nat → Nat → PV) (hid : nth .gone st.h id = .row ty sz n f) (hf : ∀ e o, e < n → o < sz → isF (f e o) = true) (hF : ∀ e o, e < n → o < sz → PLe (unP (f e o)) (F e o))
    {ps : List (Nat × Nat)} (hp : occS id sz st = ps) (ho : ∀ p ∈ ps, p.1 + p.2 ≤ n) : WeakS G st (frzS id sz F st) := by
  subst hp
  intro β R a w hs
  obtain ⟨β', R', k1, k2, k3, k4⟩ := frz_core hs.hs hid hf
  refine ⟨β', R', ⟨hs.df, fzlT_ok k2.keeps hF k4 (fun v hv off len hi => ho (off, len) (ocT_in hv hi)) hs.tm, ?_⟩, k2.toFr, k2.rm⟩
  have hlen : (fzlH id sz F (upd .gone st.h id)).length = (upd .gone st.h id).length := by rw [fzlH_eq, List.length_map]
  refine ⟨fun i x hi => by show i < (fzlH id sz F (upd .gone st.h id)).length; rw [hlen]; exact k1.dom i x hi, ?_, ?_, k1.lt, k1.rlt, ?_, k1.gl, ?_⟩
  · intro i j b o o' hi hj li lj
    refine k1.inj i j b o o' hi hj ?_ ?_
    · have li : (nth .gone (fzlH id sz F (upd .gone st.h id)) i).live = true := li
      rwa [nth_fzlH, fzlO_live] at li
    · have lj : (nth .gone (fzlH id sz F (upd .gone st.h id)) j).live = true := lj
      rwa [nth_fzlH, fzlO_live] at lj
  · intro i b o hi li
    have li : (nth .gone (fzlH id sz F (upd .gone st.h id)) i).live = true := li
    rw [nth_fzlH, fzlO_live] at li
    exact k1.sep i b o hi li
  · intro i b o hi
    show OR β' R' w (nth .gone (fzlH id sz F (upd .gone st.h id)) i) b o
    rw [nth_fzlH]
    have h1 := k1.obj i b o hi
    by_cases e : i = id
    · subst e
      rw [nth_upd_eq _ _ _ (nth_gone hid (by simp))]
      exact trivial
    · rw [nth_upd_ne _ _ _ (fun h => e h.symm)] at h1 ⊢
      cases hx : nth .gone st.h i with
      | cells ty' vs =>
        have h0 := hs.hs.obj i b o (by rw [← k3 i]; exact hi)
        rw [hx] at h0
        obtain ⟨cs, g1, g2⟩ := h0
        refine ⟨cs, g1, fzlCs_ok k2.keeps hF k4 (fun x hx' off len e => ho (off, len) (ocT_mono (ocH_in (ty := ty') (vs := vs) ?_ (e ▸ hx')))) g2⟩
        rw [← hx]
        exact nth_mem (by rw [hx]; rfl)
      | _ => rw [hx] at h1; exact h1
  · intro b ad hq
    obtain ⟨q1, q2, q3⟩ := k1.ql b ad hq
    refine ⟨q1, q2, fun i o hi => ?_⟩
    show (nth .gone (fzlH id sz F (upd .gone st.h id)) i).live = false
    rw [nth_fzlH, fzlO_live]
    exact q3 i o hi
end
end Go.AE
namespace Go.AE
set_option linter.unusedVariables false
set_option linter.unusedSimpArgs false
open Go.RowKit
section
variable {P : Program} {G : Nat → Option Obj} {β : Bt} {R : Nat → Prop} {w : World} {h : List AO}
end
section
variable {P : Program} {G : Nat → Option Obj}
end
end Go.AE
namespace Go.AE
set_option linter.unusedVariables false
set_option linter.unusedSimpArgs false
open Go.RowKit
section
variable {P : Program} {G : Nat → Option Obj}
end
end Go.AE
namespace Go.AE
set_option linter.unusedVariables false
set_option linter.unusedSimpArgs false
open Go.RowKit
section
variable {P : Program} {G : Nat → Option Obj} {β : Bt} {R : Nat → Prop} {w : World} {st : St}
end
end Go.AE
namespace Go.AE
set_option linter.unusedVariables false
set_option linter.unusedSimpArgs false
open Go.RowKit
def allT {α : Type} : List α → List Bool
  | [] => []
  | _ :: r => true :: allT r
def rawV (st : St) : AR → Option V
  | .tmp t => match nth (.c .top) st.t t with
    | .t _ => none
    | v => some v
  | .cell t n => match nth (.c .top) st.t t with
    | .c (.ptr id off) => match nth .gone st.h id with
      | .cells _ vs => match Nat.ble (off + nOf n) (lenL vs) with
        | true => match ldN (nth .top vs) off n with
          | .t _ => none
          | v => some v
        | false => none
      | _ => none
    | _ => none
  | .new _ => none
def rawVs (st : St) : List AR → Option (List V)
  | [] => some []
  | r :: l => match rawV st r with
    | some v => match rawVs st l with
      | some vs => some (v :: vs)
      | none => none
    | none => none
def slotsL (st : St) : List Nat → List V → List V
  | [], vs => vs
  | j :: r, vs => nth (.c .top) st.t j :: slotsL st r vs
def endSt (ps : List Nat) (vs : List V) (st : St) : St := gcS (allT (slotsL st ps vs)) ⟨slotsL st ps vs, st.h⟩
def endM (ps : List Nat) (keep : List Bool) (rs : List AR) (e : X) (st : St) : Tr := match e with
  | .ret => match rawVs st rs with
    | some vs => .done .ret (endSt ps vs st)
    | none => .fail
  | e => .done e (gcS keep st)
section
variable {P : Program} {G : Nat → Option Obj}
def Zm (ps : List Nat) (rs : List AR) (Z0 : St → Prop) (st : St) : Prop := ∃ vs, rawVs st rs = some vs ∧ Z0 (endSt ps vs st)
def KFZ (Z0 : St → Prop) (K : X → St → Prop) (e : X) (st : St) : Prop := match e with
  | .ret => Z0 st
  | e => K e st
def ExFZ (P : Program) (G : Nat → Option Obj) (Z : St → Prop) (ac : ACode) (st : St) (K : X → St → Prop) : Prop := ExA P G ac st (KFZ Z K)
def ExZ (P : Program) (G : Nat → Option Obj) (Z : St → Prop) : List ACode → St → (X → St → Prop) → Prop
  | [], st, Q => ∃ st2, WeakS G st st2 ∧ Q .normal st2
  | c :: r, st, Q => ExFZ P G Z c st fun e st' => match e with
    | .normal => ExZ P G Z r st' Q
    | e => Q e st'
variable {Z : St → Prop}
theorem ExFZ.pre {ac : ACode} {st st2 : St} {K : X → St → Prop} (hw : WeakS G st st2) (h : ExFZ P G Z ac st2 K) : ExFZ P G Z ac st K := ExA.pre hw h
theorem ExFZ.mono {ac : ACode} {st : St} {K K' : X → St → Prop} (h : ExFZ P G Z ac st K) (hk : ∀ e st, e ≠ .ret → K e st → K' e st) : ExFZ P G Z ac st K' :=
  ExA.mono h fun e st q => by
    cases e with
    | ret => exact q
    | normal => exact hk _ _ (by simp) q
    | exit id => exact hk _ _ (by simp) q
theorem ExFZ.seq {a b : ACode} {st : St} {K1 K : X → St → Prop} (h : ExFZ P G Z a st K1) (hn : ∀ st', K1 .normal st' → ExFZ P G Z b st' K) (hx : ∀ id st', K1 (.exit id) st' → K (.exit id) st') : ExFZ P G Z (.seq a b) st K :=
  ExA.seq h hn fun e st' he q => by
    cases e with
    | normal => exact absurd rfl he
    | ret => exact q
    | exit id => exact hx id st' q
theorem ExFZ.block {id : Nat} {a : ACode} {st : St} {K : X → St → Prop} (h : ExFZ P G Z a st fun e st' => match e with
    | .exit j => if j = id then K .normal st' else K (.exit j) st'
    | e => K e st') : ExFZ P G Z (.block id a) st K :=
  ExA.block (ExA.mono h fun e st' q => by
    cases e with
    | normal => exact q
    | ret => exact q
    | exit j =>
      show if j = id then KFZ Z K .normal st' else KFZ Z K (.exit j) st'
      exact q)
theorem ExFZ.loop {a : ACode} {K : X → St → Prop} {σ : Type} (C : σ → St) (I : σ → Prop) (μ : σ → Nat) (s0 : σ) (hI : I s0)
    (step : ∀ s, I s → ExFZ P G Z a (C s) fun e st' => match e with
      | .normal => ∃ s', I s' ∧ μ s' < μ s ∧ WeakS G st' (C s')
      | e => K e st') : ExFZ P G Z (.loop a) (C s0) K :=
  ExA.loop C I μ s0 hI fun s hs => ExA.mono (step s hs) fun e st' q => by
    cases e with
    | normal => exact q
    | ret => exact q
    | exit j => exact q
theorem ExFZ.post {ac : ACode} {st : St} {K : X → St → Prop} (h : ExFZ P G Z ac st fun e st' => ∃ st2, WeakS G st' st2 ∧ K e st2) : ExFZ P G Z ac st K := by
  refine ExA.post (ExA.mono h fun e st' hk => ?_)
  cases e with
  | ret => exact ⟨st', WeakS.refl st', hk⟩
  | normal => exact hk
  | exit id => exact hk
theorem ExZ.pre {l : List ACode} {st st2 : St} {Q : X → St → Prop} (hw : WeakS G st st2) (h : ExZ P G Z l st2 Q) : ExZ P G Z l st Q := by
  cases l with
  | nil => obtain ⟨st3, h1, h2⟩ := h; exact ⟨st3, hw.trans h1, h2⟩
  | cons c r => exact ExFZ.pre hw h
theorem ExZ.mono : ∀ {l : List ACode} {st : St} {Q Q' : X → St → Prop}, ExZ P G Z l st Q → (∀ e st, e ≠ .ret → Q e st → Q' e st) → ExZ P G Z l st Q'
  | [], _, _, _, ⟨st2, h1, h2⟩, hq => ⟨st2, h1, hq _ _ (by simp) h2⟩
  | _ :: _, _, _, _, h, hq => ExFZ.mono h fun e st' he q => by
    cases e with
    | normal => exact ExZ.mono q hq
    | ret => exact absurd rfl he
    | exit id => exact hq _ _ he q
theorem ExZ.cut : ∀ {a b : List ACode} {st : St} {Q : X → St → Prop}, ExZ P G Z (appA a b) st Q → ExZ P G Z a st fun e st' => match e with
    | .normal => ExZ P G Z b st' Q
    | e => Q e st'
  | [], _, st, _, h => ⟨st, WeakS.refl st, h⟩
  | _ :: _, _, _, _, h => ExFZ.mono h fun e st' _ q => by
    cases e with
    | normal => exact ExZ.cut q
    | ret => exact q
    | exit id => exact q
theorem ExZ.glue : ∀ {a b : List ACode} {st : St} {Q : X → St → Prop}, (ExZ P G Z a st fun e st' => match e with
    | .normal => ExZ P G Z b st' Q
    | e => Q e st') → ExZ P G Z (appA a b) st Q
  | [], _, _, _, ⟨_, h1, h2⟩ => ExZ.pre h1 h2
  | _ :: _, _, _, _, h => ExFZ.mono h fun e st' _ q => by
    cases e with
    | normal => exact ExZ.glue q
    | ret => exact q
    | exit id => exact q
theorem ExZ.code : ∀ {c : ACode} {st : St} {Q : X → St → Prop}, ExZ P G Z (flat c) st Q → ExFZ P G Z c st Q := by
  intro c
  induction c with
  | seq a b iha ihb =>
    intro st Q h
    have h1 := ExZ.cut (a := flat a) (b := flat b) h
    refine ExFZ.seq (iha h1) (fun st' hq => ihb hq) (fun id st' hq => hq)
  | _ =>
    intro st Q h
    refine ExFZ.post (ExFZ.mono h fun e st' _ q => ?_)
    cases e with
    | normal => exact q
    | ret => exact ⟨st', WeakS.refl st', q⟩
    | exit id => exact ⟨st', WeakS.refl st', q⟩
theorem endM_conv {ps : List Nat} {keep : List Bool} {rs : List AR} {Z0 : St → Prop} {e : X} {st : St} {K : X → St → Prop} (h : (endM ps keep rs e st).holds P G (KFZ Z0 K)) : ∃ st2, WeakS G st st2 ∧ KFZ (Zm ps rs Z0) K e st2 := by
  cases e with
  | ret =>
    refine ⟨st, WeakS.refl st, ?_⟩
    unfold endM at h
    dsimp only at h
    split at h
    · rename_i vs hvs; exact ⟨vs, hvs, h⟩
    · exact h.elim
  | normal => exact ⟨_, weak_gc keep st, h⟩
  | exit id => exact ⟨_, weak_gc keep st, h⟩
theorem exTs_soundZ {ext : Ext} (hext : SoundExt P G ext) {ps : List Nat} {keep : List Bool} {rs : List AR} {Z0 : St → Prop} : ∀ {l : List ACode} {st : St} {K : X → St → Prop}, (exTs ext l st (endM ps keep rs)).holds P G (KFZ Z0 K) → ExZ P G (Zm ps rs Z0) l st K
  | [], st, K, h => endM_conv h
  | c :: r, st, K, h => by
    have h1 := ExA.ev hext h
    refine ExFZ.post ?_
    refine ExA.post (ExA.mono h1 fun e st' q => ?_)
    cases e with
    | normal => exact ⟨st', WeakS.refl st', st', WeakS.refl st', exTs_soundZ hext q⟩
    | ret =>
      obtain ⟨st2, q1, q2⟩ := endM_conv q
      exact ⟨st2, q1, q2⟩
    | exit id =>
      obtain ⟨st2, q1, q2⟩ := endM_conv q
      exact ⟨st2, q1, st2, WeakS.refl st2, q2⟩
theorem ExZ.evG {ext : Ext} (hext : SoundExt P G ext) (n : Nat) {ps : List Nat} {keep : List Bool} {rs : List AR} {Z0 : St → Prop} {l : List ACode} {st : St} {Q : X → St → Prop} {tree : Tr} (ht : exTs ext (takeL n l) st (endM ps keep rs) = tree)
    (h : tree.holds P G (KFZ Z0 fun e st' => match e with
      | .normal => ExZ P G (Zm ps rs Z0) (dropL n l) st' Q
      | e => Q e st')) : ExZ P G (Zm ps rs Z0) l st Q := by
  rw [← takeL_dropL n l]
  subst ht
  exact ExZ.glue (exTs_soundZ hext h)
theorem ExZ.evH {ext : Ext} (hext : SoundExt P G ext) {ps : List Nat} {keep : List Bool} {rs : List AR} {Z0 : St → Prop} {l : List ACode} {st : St} {Q : X → St → Prop} {tree : Tr} (ht : exTs ext l st (endM ps keep rs) = tree) (h : tree.holds P G (KFZ Z0 Q)) : ExZ P G (Zm ps rs Z0) l st Q := by
  subst ht
  exact exTs_soundZ hext h
theorem ExZ.loop {id : Nat} {b : ACode} {l r : List ACode} {st : St} {Q : X → St → Prop} (hl : l = .block id (.loop b) :: r) {σ : Type} (C : σ → St) (I : σ → Prop) (μ : σ → Nat) (s0 : σ) (hI : I s0) (hw : WeakS G st (C s0))
    (step : ∀ s, I s → ExZ P G Z (flat b) (C s) fun e st' => match e with
      | .normal => ∃ s', I s' ∧ μ s' < μ s ∧ WeakS G st' (C s')
      | .exit j => if j = id then ExZ P G Z r st' Q else Q (.exit j) st'
      | .ret => True) : ExZ P G Z l st Q := by
  subst hl
  refine ExFZ.pre hw (ExFZ.block ?_)
  refine ExFZ.loop C I μ s0 hI fun s hs => ?_
  refine ExFZ.mono (ExZ.code (step s hs)) fun e st' he q => ?_
  cases e with
  | normal => exact q
  | exit j => exact q
  | ret => exact absurd rfl he
theorem ExZ.loop' {id : Nat} {b : ACode} {l r : List ACode} {st : St} {Q : X → St → Prop} (hl : l = .block id (.loop b) :: r) {σ : Type} (C : σ → St) (I : σ → Prop) (μ : σ → Nat) (s0 : σ) (hI : I s0) (hw : WeakS G st (C s0))
    (step : ∀ s, I s → ∀ Q' : X → St → Prop, (∀ s' st', I s' → μ s' < μ s → WeakS G st' (C s') → Q' .normal st') → (∀ st', ExZ P G Z r st' Q → Q' (.exit id) st') → (∀ j st', j ≠ id → Q (.exit j) st' → Q' (.exit j) st') → ExZ P G Z (flat b) (C s) Q') : ExZ P G Z l st Q :=
  ExZ.loop hl C I μ s0 hI hw fun s hs => step s hs _ (fun s' _ h1 h2 h3 => ⟨s', h1, h2, h3⟩) (fun _ h => by simpa using h) (fun j _ hj h => by simpa [hj] using h)
theorem ExZ.blk {id : Nat} {a : ACode} {l r : List ACode} {st : St} {Q : X → St → Prop} (hl : l = .block id a :: r) (h : ExZ P G Z (flat a) st fun e st' => match e with
      | .normal => ExZ P G Z r st' Q
      | .exit j => if j = id then ExZ P G Z r st' Q else Q (.exit j) st'
      | .ret => True) : ExZ P G Z l st Q := by
  subst hl
  refine ExFZ.block (ExFZ.mono (ExZ.code h) fun e st' he q => ?_)
  cases e with
  | normal => exact q
  | exit j => exact q
  | ret => exact absurd rfl he
theorem ExZ.blk' {id : Nat} {a : ACode} {l r : List ACode} {st : St} {Q : X → St → Prop} (hl : l = .block id a :: r)
    (h : ∀ Q' : X → St → Prop, (∀ st', ExZ P G Z r st' Q → Q' .normal st') → (∀ st', ExZ P G Z r st' Q → Q' (.exit id) st') → (∀ j st', j ≠ id → Q (.exit j) st' → Q' (.exit j) st') → ExZ P G Z (flat a) st Q') : ExZ P G Z l st Q :=
  ExZ.blk hl (h _ (fun _ h => h) (fun _ h => by simpa using h) (fun j _ hj h => by simpa [hj] using h))
end
end Go.AE
namespace Go.AE
set_option linter.unusedVariables false
set_option linter.unusedSimpArgs false
open Go.RowKit
def inC (ρ ids : List Nat) (n : Nat) : C → C
  | .ptr id off => match idxOf id ids 0 with
    | some i => .ptr (n + i) off
    | none => renC ρ (.ptr id off)
  | x => renC ρ x
section
variable {P : Program} {G : Nat → Option Obj} {β β2 β3 : Bt} {R R2 : Nat → Prop} {w w' : World} {h hE : List AO} {ρ ids js bs : List Nat}
end
section
variable {P : Program} {G : Nat → Option Obj} {β : Bt} {R : Nat → Prop} {w : World}
end
end Go.AE
namespace Go.AE
set_option linter.unusedVariables false
set_option linter.unusedSimpArgs false
open Go.RowKit
section
variable {P : Program} {G : Nat → Option Obj} {ops : Array Oper} {al : List AI} {n : Nat} {S : Nat → St} {ext : Ext}
theorem ready_of {listed : Array Bool} {i : Nat} (h : i ∈ Region.ready .any ops listed) : i < ops.size ∧ listed.getD i true = false ∧ ∀ j, Region.waitsFor .any ops i j = true → listed.getD j false = true := by
  obtain ⟨q1, o, q2, q3⟩ := mem_ready.1 h
  refine ⟨(Array.getElem?_eq_some_iff.1 q2).1, q1, fun j hj => ?_⟩
  obtain ⟨o', ho', e, he, hb, hon⟩ := Region.waitsFor_spec hj
  rw [q2] at ho'; injection ho' with ho'; subst ho'
  have := q3 e he hb
  rwa [hon] at this
theorem least_ready {listed : Array Bool} {i : Nat} (hback : ∀ i o, ops[i]? = some o → ∀ e ∈ o.after, Region.binds .any e = true → e.on < i) (hi : i < ops.size) (hn : listed.getD i true = false) (hl : ∀ j, j < i → listed.getD j false = true) : i ∈ Region.ready .any ops listed :=
  mem_ready.2 ⟨hn, ops[i], by simp [hi], fun e he hb => hl e.on (hback i _ (by simp [hi]) e he hb)⟩
variable {β0 : Bt} {R0 : Nat → Prop} {w0 : World}
end
end Go.AE
namespace Go.AE
set_option linter.unusedVariables false
set_option linter.unusedSimpArgs false
open Go.RowKit
section
variable {P : Program} {G : Nat → Option Obj}
def topsAt : List Nat → List V → List V
  | [], t => t
  | d :: r, t => topsAt r (upd (.c .top) t d)
end
end Go.AE
namespace Go.AE
set_option linter.unusedVariables false
set_option linter.unusedSimpArgs false
open Go.RowKit
section
variable {P : Program} {G : Nat → Option Obj}
structure MA where
  n : Nat
  tm : TypeId
  ts : TypeId
  r : TypeId × TypeId × Nat
  bytes : Nat
  z : List PV
  sm : Nat
  sk : Nat
  sy : Nat
  dE : Nat
  d0 : Nat
  dA : Nat
  d1 : Nat
def MA.ds (x : MA) : List Nat := [x.dE, x.d0, x.dA, x.d1]
structure MAOK (P : Program) (ops : Array Oper) (x : MA) : Prop where
  size : ops.size = x.n + 5
  oE : ∃ o, ops[x.n]? = some o ∧ o.op = .mapEntry x.tm (.tmp x.sm) (.tmp x.sk) ∧ o.dst = some x.dE ∧ o.guard = none
  o0 : ∃ o, ops[x.n + 1]? = some o ∧ o.op = .extract (.tmp x.dE) 0 ∧ o.dst = some x.d0 ∧ o.guard = none
  oA : ∃ o, ops[x.n + 2]? = some o ∧ o.op = .call { callee := .builtin .append, args := #[.tmp x.d0, .tmp x.sy], argTypes := #[x.ts, x.ts] } ∧ o.dst = some x.dA ∧ o.guard = none
  o1 : ∃ o, ops[x.n + 3]? = some o ∧ o.op = .extract (.tmp x.dE) 1 ∧ o.dst = some x.d1 ∧ o.guard = none
  oS : ∃ o, ops[x.n + 4]? = some o ∧ o.op = .entryStore x.tm (.tmp x.sm) (.tmp x.d1) (.tmp x.dA) ∧ o.dst = none ∧ o.guard = none
  back : ∀ i o, ops[i]? = some o → ∀ e ∈ o.after, Region.binds .any e = true → e.on < i
  w10 : Region.waitsFor .any ops (x.n + 1) x.n = true
  w21 : Region.waitsFor .any ops (x.n + 2) (x.n + 1) = true
  w30 : Region.waitsFor .any ops (x.n + 3) x.n = true
  w42 : Region.waitsFor .any ops (x.n + 4) (x.n + 2) = true
  w43 : Region.waitsFor .any ops (x.n + 4) (x.n + 3) = true
  dE0 : x.dE ≠ x.d0
  dEA : x.dE ≠ x.dA
  dE1 : x.dE ≠ x.d1
  d0A : x.d0 ≠ x.dA
  d01 : x.d0 ≠ x.d1
  dA1 : x.dA ≠ x.d1
  smN : x.sm ∉ x.ds
  skN : x.sk ∉ x.ds
  syN : x.sy ∉ x.ds
  hm : maplO P x.tm = some x.r
  ht : P.underlying x.ts = some (.slice x.r.2.1)
  hsz : sizeO P x.r.2.1 = some x.r.2.2
  hby : bytesO P x.r.2.1 = some x.bytes
  hz : zeroO P x.r.2.1 = some x.z
def hOpen (ok : Value → Bool) (ty : TypeId) (sz : Nat) (g : Value → Nat × (Nat → Nat → PV)) (kv : Value) (id : Nat) (h : List AO) : List AO :=
  snoc (.row ty sz (g kv).1 fun e o => .p ((g kv).2 e o)) (upd (.mapl ok ty sz g (some (kv, .sl h.length sz 0 (g kv).1))) h id)
def hApp (ok : Value → Bool) (ty : TypeId) (sz : Nat) (g : Value → Nat × (Nat → Nat → PV)) (kv : Value) (id : Nat) (h : List AO) (m : Nat) (gy : Nat → Nat → C) : List AO :=
  snoc (.row ty sz ((g kv).1 + m) (appF (g kv).1 (fun e o => .p ((g kv).2 e o)) gy)) (upd .gone (hOpen ok ty sz g kv id h) h.length)
structure MS (G : Nat → Option Obj) (x : MA) (ok : Value → Bool) (ty : TypeId) (sz : Nat) (g : Value → Nat × (Nat → Nat → PV)) (kv : Value) (id : Nat) (h : List AO) (m : Nat) (gy : Nat → Nat → C) (t : List V) (β0 : Bt) (R0 : Nat → Prop) (w0 : World) (x0 xA x1 : Bool) (a : Act) (w : World) : Prop where
  ex : ∃ (β : Bt) (R : Nat → Prop) (b N : Nat) (v : Value) (s : Nat) (es : Array MapEntry) (clock j : Nat) (e : MapEntry), Sim G β R ⟨topsAt x.ds t, match xA with | true => hApp ok ty sz g kv id h m gy | false => hOpen ok ty sz g kv id h⟩ a w ∧ Fr β0 R0 w0 β R w ∧ (∀ b, R0 b → R b) ∧ β id = some (b, N) ∧
    w.heap[b]? = some (.map es clock) ∧ BornOK es clock ∧ es.toList[j]? = some e ∧ e.key = kv ∧ e.born = s ∧ a.tmps[x.dE]? = some (.tuple #[v, .int .i64 (s : Nat)]) ∧ (x0 = true → a.tmps[x.d0]? = some v) ∧ (x1 = true → a.tmps[x.d1]? = some (.int .i64 (s : Nat))) ∧
    (xA = false → CR β R w (.sl h.length sz 0 (g kv).1) v) ∧ (xA = true → ∃ u, a.tmps[x.dA]? = some u ∧ CR β R w (.sl (h.length + 1) sz 0 ((g kv).1 + m)) u)
variable {x : MA} {ops : Array Oper} {ok : Value → Bool} {ty : TypeId} {sz : Nat} {g : Value → Nat × (Nat → Nat → PV)} {kv : Value} {id : Nat} {h : List AO} {m : Nat} {gy : Nat → Nat → C} {t : List V} {β0 : Bt} {R0 : Nat → Prop} {w0 w : World} {a : Act} {Q : Exit → Act → World → Prop} {K : Act → World → Prop} {x0 xA x1 : Bool}
end
end Go.AE
namespace Go.AE
set_option linter.unusedVariables false
set_option linter.unusedSimpArgs false
open Go.RowKit Go.Sort
section
variable {P : Program} {G : Nat → Option Obj} {β : Bt} {R : Nat → Prop} {w w' : World} {h : List AO}
end
end Go.AE
namespace Go.AE
set_option linter.unusedVariables false
set_option linter.unusedSimpArgs false
open Go.RowKit Go.Sort
section
variable {P : Program} {G : Nat → Option Obj} {β : Bt} {R : Nat → Prop} {w w' : World} {h : List AO} {st : St}
end
section
variable {P : Program} {G : Nat → Option Obj} {β : Bt} {R : Nat → Prop} {w : World} {h : List AO}
end
end Go.AE
namespace Go.AE
set_option linter.unusedVariables false
set_option linter.unusedSimpArgs false
open Go.RowKit
section
variable {P : Program} {G : Nat → Option Obj}
end
end Go.AE
namespace Go.AE
set_option linter.unusedVariables false
set_option linter.unusedSimpArgs false
open Go.Proofs
def aroundZ (n m : Int) : Int := (if n < 0 then -(n + 1) else n) % m
def mAround : Mod
  | [.c (.p (.i .i64 n)), .c (.p (.i .i64 m))] => some (inR .i64 n ∧ 0 < m, iV (aroundZ n m))
  | _ => none
def ext0 : Ext := extOf []
theorem tAround (n m : Int) : exT ext0 (codeOf Tryz.prog Tryz.f6) (st0 Tryz.f6 [iV n, iV m]) (endF [] [] (resOf Tryz.prog Tryz.f6)) = bT (decide (n < 0)) (.rq (inR IntKind.i64 (n + 1)) (.rq (inR IntKind.i64 (-(n + 1))) (.rq (0 ≤ -(n + 1) ∧ 0 < m) (.done .ret (St.mk [V.c (C.p (PV.i IntKind.i64 (-(n + 1) % m)))] [])))))
 (.rq (0 ≤ n ∧ 0 < m) (.done .ret (St.mk [V.c (C.p (PV.i IntKind.i64 (n % m)))] []))) := by kernel_rfl
section
variable {G : Nat → Option Obj}
theorem ext0_sound {P : Program} : SoundExt P G ext0 := extOf_sound (by simp)
theorem okAround : ModOK Tryz.prog G 6 mAround := by
  intro args p v hm hp h
  unfold mAround at hm
  split at hm
  · rename_i n m
    injection hm with hm
    injection hm with e1 e2
    subst e1; subst e2
    obtain ⟨hn, hm⟩ := hp
    simp only [inR] at hn
    refine fn_T ext0_sound Tryz.func6 (by kernel_rfl) rfl (tAround n m) ?_ h
    simp only [holds_bT, holds_rq, holds_done, KF]
    refine ⟨fun h1 => ?_, fun h1 => ?_⟩
    · have h1 : n < 0 := by simpa using h1
      refine ⟨by simp only [inR]; omega, by simp only [inR]; omega, by omega, _, rfl, VLe.of_eq ?_⟩
      unfold aroundZ; rw [if_pos h1]; rfl
    · have h1 : ¬ n < 0 := by simpa using h1
      refine ⟨by omega, _, rfl, VLe.of_eq ?_⟩
      unfold aroundZ; rw [if_neg h1]; rfl
  · cases hm
end
end Go.AE
