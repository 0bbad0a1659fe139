/- Pages: AeD, AeE, R1, as far as they are used here. -/
import Derived.Test.YtecilaemjajcnaaGreatDoorRRd
import Derived.Sort.Row
import Derived.Sort.Grow
import Derived.Test.YtecilaemjajcnaaGreatDoorProg
namespace Go.AE
set_option linter.unusedVariables false
set_option linter.unusedSimpArgs false
open Go.RowKit
section
variable {P : Program} {G : Nat → Option Obj}
def VLeH (G : Nat → Option Obj) (h : List AO) (x v : V) : Prop := ∀ β R w u, HS G β R w h → VR β R w x u → VR Bt.nil (fun b => b < w.heap.size) w v u
inductive VLesH (G : Nat → Option Obj) (h : List AO) : List V → List V → Prop
  | nil : VLesH G h [] []
  | cons {x v : V} {xs vs : List V} : VLeH G h x v → VLesH G h xs vs → VLesH G h (x :: xs) (v :: vs)
theorem VLesH.all {h : List AO} {β : Bt} {R : Nat → Prop} {w : World} (hh : HS G β R w h) {xs vs : List V} (hl : VLesH G h xs vs) : ∀ {us : List Value}, All2 (VR β R w) xs us → All2 (VR Bt.nil (fun b => b < w.heap.size) w) vs us := by
  induction hl with
  | nil => intro us hu; cases us <;> exact hu
  | cons h1 _ ih =>
    intro us hu
    cases us with
    | nil => exact hu.elim
    | cons u us => exact ⟨h1 _ _ _ _ hh hu.1, ih hu.2⟩
def b1 (g N : Nat) : Bt := ⟨fun i => if i = 0 then some (g, N) else none, fun _ => none⟩
end
end Go.AE
namespace Go.AE
set_option linter.unusedVariables false
set_option linter.unusedSimpArgs false
open Go.RowKit
section
variable {P : Program} {G : Nat → Option Obj}
end
end Go.AE
namespace Go.AE
set_option linter.unusedVariables false
set_option linter.unusedSimpArgs false
open Go.RowKit
section
variable {P : Program} {G : Nat → Option Obj} {β : Bt} {R : Nat → Prop} {w : World} {st : St}
theorem hs_told {h h' : List AO} (hh : HS G β R w h) {β' : Bt} {R' : Nat → Prop} (hlen : h.length ≤ h'.length) (hf : ∀ i x, β' i = some x → i < h'.length) (hrm : ∀ b, R b → R' b) (hrlt : ∀ b, R' b → b < w.heap.size)
    (hinj : ∀ i j b o o', β' i = some (b, o) → β' j = some (b, o') → (nth .gone h' i).live = true → (nth .gone h' j).live = true → i = j) (hsep : ∀ i b o, β' i = some (b, o) → (nth .gone h' i).live = true → ¬ R' b)
    (hlt : ∀ i b o, β' i = some (b, o) → b < w.heap.size) (hobj : ∀ i b o, β' i = some (b, o) → OR β' R' w (nth .gone h' i) b o)
    (hql : ∀ b ad, β'.q b = some ad → b < w.heap.size ∧ ¬ R' b ∧ ∀ i o, β' i = some (b, o) → (nth .gone h' i).live = false) : HS G β' R' w h' :=
  ⟨hf, hinj, hsep, hlt, hrlt, hobj, fun b o hb => ⟨hrm b (hh.gl b o hb).1, (hh.gl b o hb).2⟩, hql⟩
theorem holds_alt {p q : Tr} {K : X → St → Prop} : (Tr.alt p q).holds P G K ↔ p.holds P G K ∧ q.holds P G K := Iff.rfl
theorem weak_slot {j : Nat} {y : V} (h : VLe (nth (.c .top) st.t j) y) : WeakS G st ⟨upd y st.t j, st.h⟩ := fun β R a w hs =>
  ⟨β, R, Sim.same hs (fun u hu => h β R w u hu), Fr.refl _ _ _, fun _ hb => hb⟩
end
end Go.AE
namespace Go.AE
set_option linter.unusedVariables false
set_option linter.unusedSimpArgs false
open Go.RowKit
section
variable {P : Program} {G : Nat → Option Obj} {β : Bt} {R : Nat → Prop} {w : World} {st : St}
end
end Go.AE
namespace Go.AE
set_option linter.unusedVariables false
set_option linter.unusedSimpArgs false
open Go.RowKit
section
variable {P : Program} {G : Nat → Option Obj}
theorem frz_core {β : Bt} {R : Nat → Prop} {w : World} {h : List AO} (hh : HS G β R w h) {id : Nat} {ty : TypeId} {sz n : Nat} {f : Nat → Nat → C} (hid : nth .gone h id = .row ty sz n f) (hf : ∀ e o, e < n → o < sz → isF (f e o) = true) :
    ∃ β' R', HS G β' R' w (upd .gone h id) ∧ Gr β R w β' R' w ∧ (∀ i, β' i = β i) ∧ ∀ off len u, off + len ≤ n → CR β R w (.sl id sz off len) u → PR R' w (.l sz len fun e o => unP (f (e + off) o)) u := by
  have hlid := nth_gone hid (by simp)
  let own : Nat → Prop := fun b1 => (∃ N, β id = some (b1, N)) ∨ ∃ b N k, β id = some (b, N) ∧ β.q b1 = some (b, k)
  let R' : Nat → Prop := fun b1 => R b1 ∨ own b1
  open Classical in
  let β' : Bt := ⟨β.f, fun b1 => if own b1 then none else β.q b1⟩
  have hq' : ∀ b2 ad, β'.q b2 = some ad → ¬ own b2 ∧ β.q b2 = some ad := by
    intro b2 ad h
    have h : (if own b2 then none else β.q b2) = some ad := h
    split at h
    · cases h
    · rename_i h1; exact ⟨h1, h⟩
  have hq2 : ∀ b2 ad, ¬ own b2 → β.q b2 = some ad → β'.q b2 = some ad := by
    intro b2 ad h1 h2
    show (if own b2 then none else β.q b2) = some ad
    rw [if_neg h1]; exact h2
  have hkp : Keeps β R w β' R' w := ⟨fun _ _ h => h, fun _ h => .inl h, fun _ _ => rfl⟩
  have hlive : (nth .gone h id).live = true := by rw [hid]; rfl
  have hl2 : ∀ i, (nth .gone (upd .gone h id) i).live = true → i ≠ id ∧ (nth .gone h i).live = true := fun i hl => live_gone hl
  have hlf : ∀ i, (nth .gone h i).live = false → (nth .gone (upd .gone h id) i).live = false := fun i hl => by
    by_cases e : id = i
    · subst e; rw [nth_upd_eq _ _ _ hlid]; rfl
    · rw [nth_upd_ne _ _ _ e]; exact hl
  have hown_live : ∀ i b o, β i = some (b, o) → (nth .gone (upd .gone h id) i).live = true → ¬ own b := by
    intro i b o hi hl
    obtain ⟨k1, k2⟩ := hl2 i hl
    rintro (⟨N, h1⟩ | ⟨b0, N, k, h1, h2⟩)
    · exact k1 (hh.inj i id b o N hi h1 k2 hlive)
    · have := (hh.ql b _ h2).2.2 i o hi
      rw [k2] at this; cases this
  have hval : ∀ off len u, off + len ≤ n → CR β R w (.sl id sz off len) u → PR R' w (.l sz len fun e o => unP (f (e + off) o)) u := by
    rintro off len u hn ⟨A, c, rfl, g1, g2, g3⟩
    refine ⟨A, c, rfl, g1, g2, fun hn0 => ?_⟩
    rcases g3 with ⟨_, g4, _⟩ | ⟨b, o0, g4, rfl, g7⟩
    · omega
    · have hob := hh.obj id b o0 g4
      rw [hid] at hob
      obtain ⟨cs, g8, g80, g9, g10⟩ := hob
      refine ⟨_, rfl, .inr (.inl ⟨o0, g4⟩), fun e q he hq => ?_⟩
      obtain ⟨u, h5, h6⟩ := g10 (e + off) q (by omega) hq
      refine ⟨u, ?_, ?_⟩
      · rw [add_mid, cell_of_row w b _ cs ty (0, 0) g8, ← h5]
        congr 1
        rw [Nat.add_mul]; omega
      · have := hf (e + off) q (by omega) hq
        show PR R' w (unP (f (e + off) q)) u
        cases hfe : f (e + off) q with
        | p x =>
          rw [hfe] at h6
          exact PR.keep (fun _ h => .inl h) (fun _ _ => rfl) _ h6
        | own ty2 sz2 n2 f2 =>
          rw [hfe] at h6
          obtain ⟨A, c, k1, k2, k3, k4⟩ := h6
          refine ⟨A, c, k1, k2, k3, fun hn => ?_⟩
          rcases k4 with ⟨_, k5, _⟩ | ⟨b2, cs2, k5, k6, k7, k8, k9⟩
          · omega
          · refine ⟨_, k5, .inr (.inr ⟨b, o0, _, g4, k6⟩), fun e2 o2 he2 ho2 => ?_⟩
            obtain ⟨u2, r1, r2⟩ := k9 e2 o2 he2 ho2
            exact ⟨u2, by rw [add_mid, cell_of_row w b2 _ cs2 ty2 (0, 0) k7, Nat.zero_add]; exact r1, PR.keep (fun _ h => .inl h) (fun _ _ => rfl) _ r2⟩
        | _ => rw [hfe] at this; cases this
  have hHS : HS G β' R' w (upd .gone h id) := by
    refine hs_told hh (by rw [upd_eq, List.length_set]; exact Nat.le_refl _) (fun i x hi => by rw [upd_eq, List.length_set]; exact hh.dom i x hi) (fun _ h => .inl h) ?_ ?_ ?_ hh.lt ?_ ?_
    · rintro b (h1 | ⟨N, h1⟩ | ⟨b0, N, k, h1, h2⟩)
      · exact hh.rlt b h1
      · exact hh.lt id b N h1
      · exact (hh.ql b _ h2).1
    · intro i j b o o' hi hj li lj
      exact hh.inj i j b o o' hi hj (hl2 i li).2 (hl2 j lj).2
    · rintro i b o hi li (h1 | h1)
      · exact hh.sep i b o hi (hl2 i li).2 h1
      · exact hown_live i b o hi li h1
    · intro i b o hi
      cases hl : (nth .gone (upd .gone h id) i).live with
      | false => exact OR.dead_gone hkp hl (hh.obj i b o hi)
      | true =>
        obtain ⟨k1, k2⟩ := hl2 i hl
        rw [nth_upd_ne _ _ _ (fun e => k1 e.symm)]
        refine OR.keep hkp (fun b1 k h1 => ⟨hq2 b1 _ ?_ h1, rfl⟩) rfl (hh.obj i b o hi)
        rintro (⟨N, h2⟩ | ⟨b0, N, k', h2, h3⟩)
        · have := (hh.ql b1 _ h1).2.2 id N h2
          rw [hlive] at this; cases this
        · rw [h1] at h3; injection h3 with h3; injection h3 with h3 _
          exact k1 (hh.inj i id b o N hi (h3 ▸ h2) k2 hlive)
    · intro b2 ad hq
      obtain ⟨k1, k2⟩ := hq' b2 ad hq
      obtain ⟨q1, q2, q3⟩ := hh.ql b2 ad k2
      exact ⟨q1, fun h => h.elim q2 k1, fun i o hi => hlf i (q3 i o hi)⟩
  refine ⟨β', R', hHS, ⟨⟨rfl, rfl, rfl, Nat.le_refl _, fun _ _ => rfl, fun _ _ _ => rfl, ?_, ?_⟩, fun _ _ h => h, fun _ h => .inl h⟩, fun _ => rfl, hval⟩
  · rintro b2 (⟨i, o, hi⟩ | ⟨ad, hq⟩)
    · exact .inl (.inl ⟨i, o, hi⟩)
    · exact .inl (.inr ⟨ad, (hq' b2 ad hq).2⟩)
  · rintro b (h1 | ⟨N, h1⟩ | ⟨b0, N, k, h1, h2⟩)
    · exact .inl h1
    · exact .inr (.inl (.inl ⟨id, N, h1⟩))
    · exact .inr (.inl (.inr ⟨_, h2⟩))
end
end Go.AE
namespace Go.AE
set_option linter.unusedVariables false
set_option linter.unusedSimpArgs false
open Go.RowKit
def fzlC (id sz : Nat) (F : Nat → Nat → PV) : C → C
  | .sl i s off len => match Nat.beq i id && Nat.beq s sz with
    | true => .p (.l sz len fun e o => F (e + off) o)
    | false => .sl i s off len
  | x => x
def fzlCs (id sz : Nat) (F : Nat → Nat → PV) : List C → List C
  | [] => []
  | x :: r => fzlC id sz F x :: fzlCs id sz F r
def fzlV (id sz : Nat) (F : Nat → Nat → PV) : V → V
  | .c x => .c (fzlC id sz F x)
  | .a cs => .a (fzlCs id sz F cs)
  | .t vs => .t vs
def fzlT (id sz : Nat) (F : Nat → Nat → PV) : List V → List V
  | [] => []
  | x :: r => fzlV id sz F x :: fzlT id sz F r
def fzlO (id sz : Nat) (F : Nat → Nat → PV) : AO → AO
  | .cells ty vs => .cells ty (fzlCs id sz F vs)
  | x => x
def fzlH (id sz : Nat) (F : Nat → Nat → PV) : List AO → List AO
  | [] => []
  | x :: r => fzlO id sz F x :: fzlH id sz F r
def ocC (id sz : Nat) : C → List (Nat × Nat)
  | .sl i s off len => match Nat.beq i id && Nat.beq s sz with
    | true => [(off, len)]
    | false => []
  | _ => []
def ocCs (id sz : Nat) : List C → List (Nat × Nat) → List (Nat × Nat)
  | [], l => l
  | x :: r, l => match ocC id sz x with
    | [] => ocCs id sz r l
    | p :: _ => p :: ocCs id sz r l
def ocT (id sz : Nat) : List V → List (Nat × Nat) → List (Nat × Nat)
  | [], l => l
  | .c x :: r, l => ocCs id sz [x] (ocT id sz r l)
  | .a cs :: r, l => ocCs id sz cs (ocT id sz r l)
  | .t _ :: r, l => ocT id sz r l
def ocH (id sz : Nat) : List AO → List (Nat × Nat) → List (Nat × Nat)
  | [], l => l
  | .cells _ vs :: r, l => ocCs id sz vs (ocH id sz r l)
  | _ :: r, l => ocH id sz r l
def occS (id sz : Nat) (st : St) : List (Nat × Nat) := ocT id sz st.t (ocH id sz st.h [])
def frzS (id sz : Nat) (F : Nat → Nat → PV) (st : St) : St := ⟨fzlT id sz F st.t, fzlH id sz F (upd .gone st.h id)⟩
theorem ocCs_mono {id sz : Nat} {p : Nat × Nat} : ∀ {cs : List C} {l : List (Nat × Nat)}, p ∈ l → p ∈ ocCs id sz cs l
  | [], _, h => h
  | x :: r, l, h => by
    unfold ocCs
    split
    · exact ocCs_mono h
    · exact List.mem_cons_of_mem _ (ocCs_mono h)
theorem ocCs_in {id sz off len : Nat} : ∀ {cs : List C} {l : List (Nat × Nat)}, C.sl id sz off len ∈ cs → (off, len) ∈ ocCs id sz cs l
  | x :: r, l, h => by
    unfold ocCs
    rcases List.mem_cons.1 h with rfl | h
    · have : ocC id sz (.sl id sz off len) = [(off, len)] := by show (match Nat.beq id id && Nat.beq sz sz with | true => [(off, len)] | false => []) = _; rw [Nat.beq_refl, Nat.beq_refl]; rfl
      rw [this]
      exact List.mem_cons_self ..
    · split
      · exact ocCs_in h
      · exact List.mem_cons_of_mem _ (ocCs_in h)
theorem ocT_mono {id sz : Nat} {p : Nat × Nat} : ∀ {t : List V} {l : List (Nat × Nat)}, p ∈ l → p ∈ ocT id sz t l
  | [], _, h => h
  | .c _ :: r, l, h => ocCs_mono (ocT_mono h)
  | .a _ :: r, l, h => ocCs_mono (ocT_mono h)
  | .t _ :: r, l, h => by unfold ocT; exact ocT_mono h
def inV (x : C) : V → Prop
  | .c y => x = y
  | .a cs => x ∈ cs
  | .t _ => False
theorem ocT_in {id sz off len : Nat} : ∀ {t : List V} {l : List (Nat × Nat)} {v : V}, v ∈ t → inV (.sl id sz off len) v → (off, len) ∈ ocT id sz t l
  | x :: r, l, v, h, hv => by
    rcases List.mem_cons.1 h with rfl | h1
    · cases v with
      | c y => cases hv; exact ocCs_in (List.mem_cons_self ..)
      | a cs => exact ocCs_in hv
      | t _ => exact hv.elim
    · cases x with
      | c y => exact ocCs_mono (ocT_in h1 hv)
      | a cs => exact ocCs_mono (ocT_in h1 hv)
      | t _ => unfold ocT; exact ocT_in h1 hv
theorem ocH_in {id sz off len : Nat} {ty : TypeId} {vs : List C} : ∀ {h : List AO} {l : List (Nat × Nat)}, AO.cells ty vs ∈ h → .sl id sz off len ∈ vs → (off, len) ∈ ocH id sz h l
  | x :: r, l, h, hv => by
    rcases List.mem_cons.1 h with rfl | h1
    · exact ocCs_in hv
    · cases x with
      | cells ty' vs' => exact ocCs_mono (ocH_in h1 hv)
      | _ => unfold ocH; exact ocH_in h1 hv
theorem fzlH_eq (id sz : Nat) (F : Nat → Nat → PV) : ∀ (h : List AO), fzlH id sz F h = h.map (fzlO id sz F)
  | [] => rfl
  | _ :: r => by rw [fzlH, fzlH_eq id sz F r]; rfl
section
variable {G : Nat → Option Obj} {st : St}
theorem fzlC_ok {β β' : Bt} {R R' : Nat → Prop} {w : World} {id sz n : Nat} {f : Nat → Nat → C} {F : Nat → Nat → PV} (hk : Keeps β R w β' R' w)
    (hF : ∀ e o, e < n → o < sz → PLe (unP (f e o)) (F e o))
    (hval : ∀ off len u, off + len ≤ n → CR β R w (.sl id sz off len) u → PR R' w (.l sz len fun e o => unP (f (e + off) o)) u) {x : C} {u : Value} (hc : ∀ off len, x = .sl id sz off len → off + len ≤ n) (h : CR β R w x u) : CR β' R' w (fzlC id sz F x) u := by
  unfold fzlC
  split
  · rename_i i s off len
    split
    · rename_i e
      rw [Bool.and_eq_true] at e
      obtain rfl := Nat.eq_of_beq_eq_true e.1
      obtain rfl := Nat.eq_of_beq_eq_true e.2
      exact PLe.l (fun e o he ho => hF (e + off) o (by have := hc off len rfl; omega) ho) R' w u (hval off len u (hc off len rfl) h)
    · exact CR.keep hk h
  · exact CR.keep hk h
theorem fzlCs_ok {β β' : Bt} {R R' : Nat → Prop} {w : World} {id sz n : Nat} {f : Nat → Nat → C} {F : Nat → Nat → PV} (hk : Keeps β R w β' R' w)
    (hF : ∀ e o, e < n → o < sz → PLe (unP (f e o)) (F e o))
    (hval : ∀ off len u, off + len ≤ n → CR β R w (.sl id sz off len) u → PR R' w (.l sz len fun e o => unP (f (e + off) o)) u) : ∀ {cs : List C} {us : List Value}, (∀ x ∈ cs, ∀ off len, x = .sl id sz off len → off + len ≤ n) → All2 (CR β R w) cs us → All2 (CR β' R' w) (fzlCs id sz F cs) us
  | [], [], _, _ => trivial
  | [], _ :: _, _, h => h.elim
  | _ :: _, [], _, h => h.elim
  | _ :: _, _ :: _, hc, h => ⟨fzlC_ok hk hF hval (hc _ (List.mem_cons_self ..)) h.1, fzlCs_ok hk hF hval (fun x hx => hc x (List.mem_cons_of_mem _ hx)) h.2⟩
theorem fzlT_ok {β β' : Bt} {R R' : Nat → Prop} {w : World} {id sz n : Nat} {f : Nat → Nat → C} {F : Nat → Nat → PV} (hk : Keeps β R w β' R' w)
    (hF : ∀ e o, e < n → o < sz → PLe (unP (f e o)) (F e o))
    (hval : ∀ off len u, off + len ≤ n → CR β R w (.sl id sz off len) u → PR R' w (.l sz len fun e o => unP (f (e + off) o)) u) : ∀ {vs : List V} {us : List Value}, (∀ v ∈ vs, ∀ off len, inV (.sl id sz off len) v → off + len ≤ n) → All2 (VR β R w) vs us → All2 (VR β' R' w) (fzlT id sz F vs) us
  | [], [], _, _ => trivial
  | [], _ :: _, _, h => h.elim
  | _ :: _, [], _, h => h.elim
  | v :: _, _ :: _, hc, h => ⟨by
      cases v with
      | c x => exact fzlC_ok hk hF hval (fun off len e => hc _ (List.mem_cons_self ..) off len e.symm) h.1
      | a cs =>
        obtain ⟨us, h1, h2⟩ := h.1
        exact ⟨us, h1, fzlCs_ok hk hF hval (fun x hx off len e => hc _ (List.mem_cons_self ..) off len (e ▸ hx)) h2⟩
      | t vs => exact VR.keep hk h.1, fzlT_ok hk hF hval (fun x hx => hc x (List.mem_cons_of_mem _ hx)) h.2⟩
theorem fzlO_live (id sz : Nat) (F : Nat → Nat → PV) (x : AO) : (fzlO id sz F x).live = x.live := by cases x <;> rfl
theorem nth_fzlH (id sz : Nat) (F : Nat → Nat → PV) : ∀ (h : List AO) (i : Nat), nth .gone (fzlH id sz F h) i = fzlO id sz F (nth .gone h i)
  | [], _ => rfl
  | _ :: _, 0 => rfl
  | _ :: r, i + 1 => nth_fzlH id sz F r i
theorem nth_mem {h : List AO} {i : Nat} (hl : (nth .gone h i).live = true) : nth .gone h i ∈ h := by
  rw [nth_eq] at hl ⊢
  by_cases hi : i < h.length
  · simp [List.getD_eq_getElem?_getD, List.getElem?_eq_getElem hi]
  · rw [List.getD_eq_getElem?_getD, List.getElem?_eq_none (by omega)] at hl
    cases hl
theorem weak_frzL {id : Nat} {ty : TypeId} {sz n : Nat} {f : Nat → Nat → C} (F : Nat → Nat → PV) (hid : nth .gone st.h id = .row ty sz n f) (hf : ∀ e o, e < n → o < sz → isF (f e o) = true) (hF : ∀ e o, e < n → o < sz → PLe (unP (f e o)) (F e o))
    {ps : List (Nat × Nat)} (hp : occS id sz st = ps) (ho : ∀ p ∈ ps, p.1 + p.2 ≤ n) : WeakS G st (frzS id sz F st) := by
  subst hp
  intro β R a w hs
  obtain ⟨β', R', k1, k2, k3, k4⟩ := frz_core hs.hs hid hf
  refine ⟨β', R', ⟨hs.df, fzlT_ok k2.keeps hF k4 (fun v hv off len hi => ho (off, len) (ocT_in hv hi)) hs.tm, ?_⟩, k2.toFr, k2.rm⟩
  have hlen : (fzlH id sz F (upd .gone st.h id)).length = (upd .gone st.h id).length := by rw [fzlH_eq, List.length_map]
  refine ⟨fun i x hi => by show i < (fzlH id sz F (upd .gone st.h id)).length; rw [hlen]; exact k1.dom i x hi, ?_, ?_, k1.lt, k1.rlt, ?_, k1.gl, ?_⟩
  · intro i j b o o' hi hj li lj
    refine k1.inj i j b o o' hi hj ?_ ?_
    · have li : (nth .gone (fzlH id sz F (upd .gone st.h id)) i).live = true := li
      rwa [nth_fzlH, fzlO_live] at li
    · have lj : (nth .gone (fzlH id sz F (upd .gone st.h id)) j).live = true := lj
      rwa [nth_fzlH, fzlO_live] at lj
  · intro i b o hi li
    have li : (nth .gone (fzlH id sz F (upd .gone st.h id)) i).live = true := li
    rw [nth_fzlH, fzlO_live] at li
    exact k1.sep i b o hi li
  · intro i b o hi
    show OR β' R' w (nth .gone (fzlH id sz F (upd .gone st.h id)) i) b o
    rw [nth_fzlH]
    have h1 := k1.obj i b o hi
    by_cases e : i = id
    · subst e
      rw [nth_upd_eq _ _ _ (nth_gone hid (by simp))]
      exact trivial
    · rw [nth_upd_ne _ _ _ (fun h => e h.symm)] at h1 ⊢
      cases hx : nth .gone st.h i with
      | cells ty' vs =>
        have h0 := hs.hs.obj i b o (by rw [← k3 i]; exact hi)
        rw [hx] at h0
        obtain ⟨cs, g1, g2⟩ := h0
        refine ⟨cs, g1, fzlCs_ok k2.keeps hF k4 (fun x hx' off len e => ho (off, len) (ocT_mono (ocH_in (ty := ty') (vs := vs) ?_ (e ▸ hx')))) g2⟩
        rw [← hx]
        exact nth_mem (by rw [hx]; rfl)
      | _ => rw [hx] at h1; exact h1
  · intro b ad hq
    obtain ⟨q1, q2, q3⟩ := k1.ql b ad hq
    refine ⟨q1, q2, fun i o hi => ?_⟩
    show (nth .gone (fzlH id sz F (upd .gone st.h id)) i).live = false
    rw [nth_fzlH, fzlO_live]
    exact q3 i o hi
end
end Go.AE
namespace Go.AE
set_option linter.unusedVariables false
set_option linter.unusedSimpArgs false
open Go.RowKit
section
variable {P : Program} {G : Nat → Option Obj} {β : Bt} {R : Nat → Prop} {w : World} {h : List AO}
end
section
variable {P : Program} {G : Nat → Option Obj}
end
end Go.AE
namespace Go.AE
set_option linter.unusedVariables false
set_option linter.unusedSimpArgs false
open Go.RowKit
section
variable {P : Program} {G : Nat → Option Obj}
end
end Go.AE
namespace Go.AE
set_option linter.unusedVariables false
set_option linter.unusedSimpArgs false
open Go.RowKit
section
variable {P : Program} {G : Nat → Option Obj} {β : Bt} {R : Nat → Prop} {w : World} {st : St}
end
end Go.AE
namespace Go.AE
set_option linter.unusedVariables false
set_option linter.unusedSimpArgs false
open Go.RowKit
def allT {α : Type} : List α → List Bool
  | [] => []
  | _ :: r => true :: allT r
def rawV (st : St) : AR → Option V
  | .tmp t => match nth (.c .top) st.t t with
    | .t _ => none
    | v => some v
  | .cell t n => match nth (.c .top) st.t t with
    | .c (.ptr id off) => match nth .gone st.h id with
      | .cells _ vs => match Nat.ble (off + nOf n) (lenL vs) with
        | true => match ldN (nth .top vs) off n with
          | .t _ => none
          | v => some v
        | false => none
      | _ => none
    | _ => none
  | .new _ => none
def rawVs (st : St) : List AR → Option (List V)
  | [] => some []
  | r :: l => match rawV st r with
    | some v => match rawVs st l with
      | some vs => some (v :: vs)
      | none => none
    | none => none
def slotsL (st : St) : List Nat → List V → List V
  | [], vs => vs
  | j :: r, vs => nth (.c .top) st.t j :: slotsL st r vs
def endSt (ps : List Nat) (vs : List V) (st : St) : St := gcS (allT (slotsL st ps vs)) ⟨slotsL st ps vs, st.h⟩
def endM (ps : List Nat) (keep : List Bool) (rs : List AR) (e : X) (st : St) : Tr := match e with
  | .ret => match rawVs st rs with
    | some vs => .done .ret (endSt ps vs st)
    | none => .fail
  | e => .done e (gcS keep st)
section
variable {P : Program} {G : Nat → Option Obj}
def Zm (ps : List Nat) (rs : List AR) (Z0 : St → Prop) (st : St) : Prop := ∃ vs, rawVs st rs = some vs ∧ Z0 (endSt ps vs st)
def KFZ (Z0 : St → Prop) (K : X → St → Prop) (e : X) (st : St) : Prop := match e with
  | .ret => Z0 st
  | e => K e st
theorem kz_exit {Z : St → Prop} {K : X → St → Prop} {j : Nat} {st : St} : KFZ Z K (.exit j) st ↔ K (.exit j) st := Iff.rfl
theorem kz_normal {Z : St → Prop} {K : X → St → Prop} {st : St} : KFZ Z K .normal st ↔ K .normal st := Iff.rfl
theorem kz_ret {Z : St → Prop} {K : X → St → Prop} {st : St} : KFZ Z K .ret st ↔ Z st := Iff.rfl
def ExFZ (P : Program) (G : Nat → Option Obj) (Z : St → Prop) (ac : ACode) (st : St) (K : X → St → Prop) : Prop := ExA P G ac st (KFZ Z K)
def ExZ (P : Program) (G : Nat → Option Obj) (Z : St → Prop) : List ACode → St → (X → St → Prop) → Prop
  | [], st, Q => ∃ st2, WeakS G st st2 ∧ Q .normal st2
  | c :: r, st, Q => ExFZ P G Z c st fun e st' => match e with
    | .normal => ExZ P G Z r st' Q
    | e => Q e st'
variable {Z : St → Prop}
theorem ExFZ.pre {ac : ACode} {st st2 : St} {K : X → St → Prop} (hw : WeakS G st st2) (h : ExFZ P G Z ac st2 K) : ExFZ P G Z ac st K := ExA.pre hw h
theorem ExFZ.mono {ac : ACode} {st : St} {K K' : X → St → Prop} (h : ExFZ P G Z ac st K) (hk : ∀ e st, e ≠ .ret → K e st → K' e st) : ExFZ P G Z ac st K' :=
  ExA.mono h fun e st q => by
    cases e with
    | ret => exact q
    | normal => exact hk _ _ (by simp) q
    | exit id => exact hk _ _ (by simp) q
theorem ExFZ.seq {a b : ACode} {st : St} {K1 K : X → St → Prop} (h : ExFZ P G Z a st K1) (hn : ∀ st', K1 .normal st' → ExFZ P G Z b st' K) (hx : ∀ id st', K1 (.exit id) st' → K (.exit id) st') : ExFZ P G Z (.seq a b) st K :=
  ExA.seq h hn fun e st' he q => by
    cases e with
    | normal => exact absurd rfl he
    | ret => exact q
    | exit id => exact hx id st' q
theorem ExFZ.block {id : Nat} {a : ACode} {st : St} {K : X → St → Prop} (h : ExFZ P G Z a st fun e st' => match e with
    | .exit j => if j = id then K .normal st' else K (.exit j) st'
    | e => K e st') : ExFZ P G Z (.block id a) st K :=
  ExA.block (ExA.mono h fun e st' q => by
    cases e with
    | normal => exact q
    | ret => exact q
    | exit j =>
      show if j = id then KFZ Z K .normal st' else KFZ Z K (.exit j) st'
      exact q)
theorem ExFZ.loop {a : ACode} {K : X → St → Prop} {σ : Type} (C : σ → St) (I : σ → Prop) (μ : σ → Nat) (s0 : σ) (hI : I s0)
    (step : ∀ s, I s → ExFZ P G Z a (C s) fun e st' => match e with
      | .normal => ∃ s', I s' ∧ μ s' < μ s ∧ WeakS G st' (C s')
      | e => K e st') : ExFZ P G Z (.loop a) (C s0) K :=
  ExA.loop C I μ s0 hI fun s hs => ExA.mono (step s hs) fun e st' q => by
    cases e with
    | normal => exact q
    | ret => exact q
    | exit j => exact q
theorem ExFZ.post {ac : ACode} {st : St} {K : X → St → Prop} (h : ExFZ P G Z ac st fun e st' => ∃ st2, WeakS G st' st2 ∧ K e st2) : ExFZ P G Z ac st K := by
  refine ExA.post (ExA.mono h fun e st' hk => ?_)
  cases e with
  | ret => exact ⟨st', WeakS.refl st', hk⟩
  | normal => exact hk
  | exit id => exact hk
theorem ExZ.pre {l : List ACode} {st st2 : St} {Q : X → St → Prop} (hw : WeakS G st st2) (h : ExZ P G Z l st2 Q) : ExZ P G Z l st Q := by
  cases l with
  | nil => obtain ⟨st3, h1, h2⟩ := h; exact ⟨st3, hw.trans h1, h2⟩
  | cons c r => exact ExFZ.pre hw h
theorem ExZ.mono : ∀ {l : List ACode} {st : St} {Q Q' : X → St → Prop}, ExZ P G Z l st Q → (∀ e st, e ≠ .ret → Q e st → Q' e st) → ExZ P G Z l st Q'
  | [], _, _, _, ⟨st2, h1, h2⟩, hq => ⟨st2, h1, hq _ _ (by simp) h2⟩
  | _ :: _, _, _, _, h, hq => ExFZ.mono h fun e st' he q => by
    cases e with
    | normal => exact ExZ.mono q hq
    | ret => exact absurd rfl he
    | exit id => exact hq _ _ he q
theorem ExZ.cut : ∀ {a b : List ACode} {st : St} {Q : X → St → Prop}, ExZ P G Z (appA a b) st Q → ExZ P G Z a st fun e st' => match e with
    | .normal => ExZ P G Z b st' Q
    | e => Q e st'
  | [], _, st, _, h => ⟨st, WeakS.refl st, h⟩
  | _ :: _, _, _, _, h => ExFZ.mono h fun e st' _ q => by
    cases e with
    | normal => exact ExZ.cut q
    | ret => exact q
    | exit id => exact q
theorem ExZ.glue : ∀ {a b : List ACode} {st : St} {Q : X → St → Prop}, (ExZ P G Z a st fun e st' => match e with
    | .normal => ExZ P G Z b st' Q
    | e => Q e st') → ExZ P G Z (appA a b) st Q
  | [], _, _, _, ⟨_, h1, h2⟩ => ExZ.pre h1 h2
  | _ :: _, _, _, _, h => ExFZ.mono h fun e st' _ q => by
    cases e with
    | normal => exact ExZ.glue q
    | ret => exact q
    | exit id => exact q
theorem ExZ.code : ∀ {c : ACode} {st : St} {Q : X → St → Prop}, ExZ P G Z (flat c) st Q → ExFZ P G Z c st Q := by
  intro c
  induction c with
  | seq a b iha ihb =>
    intro st Q h
    have h1 := ExZ.cut (a := flat a) (b := flat b) h
    refine ExFZ.seq (iha h1) (fun st' hq => ihb hq) (fun id st' hq => hq)
  | _ =>
    intro st Q h
    refine ExFZ.post (ExFZ.mono h fun e st' _ q => ?_)
    cases e with
    | normal => exact q
    | ret => exact ⟨st', WeakS.refl st', q⟩
    | exit id => exact ⟨st', WeakS.refl st', q⟩
theorem endM_conv {ps : List Nat} {keep : List Bool} {rs : List AR} {Z0 : St → Prop} {e : X} {st : St} {K : X → St → Prop} (h : (endM ps keep rs e st).holds P G (KFZ Z0 K)) : ∃ st2, WeakS G st st2 ∧ KFZ (Zm ps rs Z0) K e st2 := by
  cases e with
  | ret =>
    refine ⟨st, WeakS.refl st, ?_⟩
    unfold endM at h
    dsimp only at h
    split at h
    · rename_i vs hvs; exact ⟨vs, hvs, h⟩
    · exact h.elim
  | normal => exact ⟨_, weak_gc keep st, h⟩
  | exit id => exact ⟨_, weak_gc keep st, h⟩
theorem exTs_soundZ {ext : Ext} (hext : SoundExt P G ext) {ps : List Nat} {keep : List Bool} {rs : List AR} {Z0 : St → Prop} : ∀ {l : List ACode} {st : St} {K : X → St → Prop}, (exTs ext l st (endM ps keep rs)).holds P G (KFZ Z0 K) → ExZ P G (Zm ps rs Z0) l st K
  | [], st, K, h => endM_conv h
  | c :: r, st, K, h => by
    have h1 := ExA.ev hext h
    refine ExFZ.post ?_
    refine ExA.post (ExA.mono h1 fun e st' q => ?_)
    cases e with
    | normal => exact ⟨st', WeakS.refl st', st', WeakS.refl st', exTs_soundZ hext q⟩
    | ret =>
      obtain ⟨st2, q1, q2⟩ := endM_conv q
      exact ⟨st2, q1, q2⟩
    | exit id =>
      obtain ⟨st2, q1, q2⟩ := endM_conv q
      exact ⟨st2, q1, st2, WeakS.refl st2, q2⟩
theorem ExZ.evG {ext : Ext} (hext : SoundExt P G ext) (n : Nat) {ps : List Nat} {keep : List Bool} {rs : List AR} {Z0 : St → Prop} {l : List ACode} {st : St} {Q : X → St → Prop} {tree : Tr} (ht : exTs ext (takeL n l) st (endM ps keep rs) = tree)
    (h : tree.holds P G (KFZ Z0 fun e st' => match e with
      | .normal => ExZ P G (Zm ps rs Z0) (dropL n l) st' Q
      | e => Q e st')) : ExZ P G (Zm ps rs Z0) l st Q := by
  rw [← takeL_dropL n l]
  subst ht
  exact ExZ.glue (exTs_soundZ hext h)
theorem ExZ.evH {ext : Ext} (hext : SoundExt P G ext) {ps : List Nat} {keep : List Bool} {rs : List AR} {Z0 : St → Prop} {l : List ACode} {st : St} {Q : X → St → Prop} {tree : Tr} (ht : exTs ext l st (endM ps keep rs) = tree) (h : tree.holds P G (KFZ Z0 Q)) : ExZ P G (Zm ps rs Z0) l st Q := by
  subst ht
  exact exTs_soundZ hext h
theorem ExZ.loop {id : Nat} {b : ACode} {l r : List ACode} {st : St} {Q : X → St → Prop} (hl : l = .block id (.loop b) :: r) {σ : Type} (C : σ → St) (I : σ → Prop) (μ : σ → Nat) (s0 : σ) (hI : I s0) (hw : WeakS G st (C s0))
    (step : ∀ s, I s → ExZ P G Z (flat b) (C s) fun e st' => match e with
      | .normal => ∃ s', I s' ∧ μ s' < μ s ∧ WeakS G st' (C s')
      | .exit j => if j = id then ExZ P G Z r st' Q else Q (.exit j) st'
      | .ret => True) : ExZ P G Z l st Q := by
  subst hl
  refine ExFZ.pre hw (ExFZ.block ?_)
  refine ExFZ.loop C I μ s0 hI fun s hs => ?_
  refine ExFZ.mono (ExZ.code (step s hs)) fun e st' he q => ?_
  cases e with
  | normal => exact q
  | exit j => exact q
  | ret => exact absurd rfl he
theorem ExZ.loop' {id : Nat} {b : ACode} {l r : List ACode} {st : St} {Q : X → St → Prop} (hl : l = .block id (.loop b) :: r) {σ : Type} (C : σ → St) (I : σ → Prop) (μ : σ → Nat) (s0 : σ) (hI : I s0) (hw : WeakS G st (C s0))
    (step : ∀ s, I s → ∀ Q' : X → St → Prop, (∀ s' st', I s' → μ s' < μ s → WeakS G st' (C s') → Q' .normal st') → (∀ st', ExZ P G Z r st' Q → Q' (.exit id) st') → (∀ j st', j ≠ id → Q (.exit j) st' → Q' (.exit j) st') → ExZ P G Z (flat b) (C s) Q') : ExZ P G Z l st Q :=
  ExZ.loop hl C I μ s0 hI hw fun s hs => step s hs _ (fun s' _ h1 h2 h3 => ⟨s', h1, h2, h3⟩) (fun _ h => by simpa using h) (fun j _ hj h => by simpa [hj] using h)
theorem ExZ.blk {id : Nat} {a : ACode} {l r : List ACode} {st : St} {Q : X → St → Prop} (hl : l = .block id a :: r) (h : ExZ P G Z (flat a) st fun e st' => match e with
      | .normal => ExZ P G Z r st' Q
      | .exit j => if j = id then ExZ P G Z r st' Q else Q (.exit j) st'
      | .ret => True) : ExZ P G Z l st Q := by
  subst hl
  refine ExFZ.block (ExFZ.mono (ExZ.code h) fun e st' he q => ?_)
  cases e with
  | normal => exact q
  | exit j => exact q
  | ret => exact absurd rfl he
theorem ExZ.blk' {id : Nat} {a : ACode} {l r : List ACode} {st : St} {Q : X → St → Prop} (hl : l = .block id a :: r)
    (h : ∀ Q' : X → St → Prop, (∀ st', ExZ P G Z r st' Q → Q' .normal st') → (∀ st', ExZ P G Z r st' Q → Q' (.exit id) st') → (∀ j st', j ≠ id → Q (.exit j) st' → Q' (.exit j) st') → ExZ P G Z (flat a) st Q') : ExZ P G Z l st Q :=
  ExZ.blk hl (h _ (fun _ h => h) (fun _ h => by simpa using h) (fun j _ hj h => by simpa [hj] using h))
theorem rawVs_sound {β : Bt} {R : Nat → Prop} {w : World} {st : St} {a : Act} (hs : Sim G β R st a w) : ∀ (frs : List ResultVar) (rs : List AR) (_ : cRes P frs = some rs) {vs : List V} (_ : rawVs st rs = some vs),
    ∃ us, (frs.mapM (runR a.tmps)).run P w = .ok us w ∧ All2 (VR β R w) vs us
  | [], rs, hr, vs, h => by
    simp only [cRes, Option.some.injEq] at hr; subst hr
    simp only [rawVs, Option.some.injEq] at h; subst h
    exact ⟨[], by simp, trivial⟩
  | .tmp t :: frs, rs, hr, vs, h => by
    simp only [cRes, Option.map_eq_some_iff] at hr
    obtain ⟨rs', hr, rfl⟩ := hr
    simp only [rawVs] at h
    split at h
    · rename_i v hv
      split at h
      · rename_i vs' hvs
        injection h with h; subst h
        obtain ⟨us, h4, h5⟩ := rawVs_sound hs frs rs' hr hvs
        have hv2 : nth (.c .top) st.t t = v := by
          simp only [rawV] at hv
          split at hv
          · cases hv
          · injection hv
        have h1 := ev_sound (x := .tmp t) hs rfl
        have h1 : VR β R w (nth (.c .top) st.t t) (a.tmps.getD t undef) := h1
        rw [hv2] at h1
        refine ⟨_ :: us, ?_, ⟨h1, h5⟩⟩
        simp [List.mapM_cons, runR, h4]
      · cases h
    · cases h
  | .cell t ty :: frs, rs, hr, vs, h => by
    simp only [cRes, Option.bind_eq_bind, Option.bind_eq_some_iff, Option.pure_def, Option.some.injEq] at hr
    obtain ⟨n, hn, rs', hr, rfl⟩ := hr
    simp only [rawVs] at h
    split at h
    · rename_i v hv
      split at h
      · rename_i vs' hvs
        injection h with h; subst h
        obtain ⟨us, h4, h5⟩ := rawVs_sound hs frs rs' hr hvs
        simp only [rawV] at hv
        split at hv
        · rename_i id off hp
          split at hv
          · rename_i ty' cv hid
            split at hv
            · rename_i hb
              have hv2 : ldN (nth .top cv) off n = v := by
                split at hv
                · cases hv
                · injection hv
              have hptr := ev_sound (x := .tmp t) hs rfl
              have e : st.ev (.t t) = .c (.ptr id off) := hp
              rw [e] at hptr
              obtain ⟨b, o0, g1, g2⟩ := hptr
              have hob := hs.hs.obj id b o0 g1
              rw [hid] at hob
              obtain ⟨cs, g3, g4⟩ := hob
              have hlen : off + nOf n ≤ cv.length := by rw [lenL_eq] at hb; simpa using hb
              have hsz : cv.length = cs.size := by simpa using g4.length
              have hl : (cs.extract off (off + nOf n)).toList.length = nOf n := by simp; omega
              have g2 : a.tmps.getD t undef = .pointer (some ⟨b, off, none⟩) := g2
              have hrun := run_load_gen (P := P) (w := w) hn hl (World.rangeAt_of_block g3 off (nOf n))
              have hrun : (loadVar ty ⟨b, off, none⟩).run P w = .ok (ldV (cs.extract off (off + nOf n)).toList n) w := by
                simpa [Instr.loadAt, Instr.sureAddr] using hrun
              have hval : VR β R w (ldN (nth .top cv) off n) (ldV (cs.extract off (off + nOf n)).toList n) := ldN_sound hl (fun j u hu => by
                have hj : j < nOf n := by have := (List.getElem?_eq_some_iff.1 hu).1; omega
                refine g4.nth_get ?_
                rw [← hu, Array.getElem?_toList, Array.getElem?_toList, Array.getElem?_extract, if_pos (by omega)])
              rw [hv2] at hval
              refine ⟨_ :: us, ?_, ⟨hval, h5⟩⟩
              have hra : (runR a.tmps (.cell t ty)).run P w = .ok (ldV (cs.extract off (off + nOf n)).toList n) w := by
                show (do loadVar ty (← asAddr (a.tmps.getD t undef))).run P w = _
                rw [g2]
                simp only [asAddr, pure_bind]
                exact hrun
              rw [List.mapM_cons, Sem.run_bind, hra, Result.andThen_ok, Sem.run_bind, h4]
              rfl
            · cases hv
          · cases hv
        · cases hv
      · cases h
    · cases h
end
end Go.AE
namespace Go.AE
set_option linter.unusedVariables false
set_option linter.unusedSimpArgs false
open Go.RowKit
def inC (ρ ids : List Nat) (n : Nat) : C → C
  | .ptr id off => match idxOf id ids 0 with
    | some i => .ptr (n + i) off
    | none => renC ρ (.ptr id off)
  | x => renC ρ x
def inCs (ρ ids : List Nat) (n : Nat) : List C → List C
  | [] => []
  | c :: r => inC ρ ids n c :: inCs ρ ids n r
def inVv (ρ ids : List Nat) (n : Nat) : V → V
  | .c x => .c (inC ρ ids n x)
  | .a cs => .a (inCs ρ ids n cs)
  | .t _ => .c .top
def inVs (ρ ids : List Nat) (n : Nat) : List V → List V
  | [] => []
  | v :: r => inVv ρ ids n v :: inVs ρ ids n r
def pinL (ρ : List Nat) : List Nat → List Nat → List AO
  | id :: r, b :: bs => (match idxOf id ρ 0 with
    | some j => .pin j b
    | none => .gone) :: pinL ρ r bs
  | _, _ => []
def appO2 : List AO → List AO → List AO
  | [], m => m
  | x :: r, m => x :: appO2 r m
theorem appO2_eq : ∀ l m : List AO, appO2 l m = l ++ m
  | [], _ => rfl
  | x :: r, m => by simp [appO2, appO2_eq r m]
def inH (ρ ids : List Nat) (h : List AO) (bs : List Nat) : List AO := appO2 (projH ρ h ρ) (pinL ρ ids bs)
def lkup : List Nat → List Nat → Nat → Option Nat
  | j :: js, id :: ids, x => match Nat.beq j x with
    | true => some id
    | false => lkup js ids x
  | _, _, _ => none
def outN (js ids : List Nat) (L x : Nat) : Nat := match lkup js ids x with
  | some id => id
  | none => L + x
def outC (js ids : List Nat) (L : Nat) : C → C
  | .p x => .p x
  | .ptr id off => .ptr (outN js ids L id) off
  | .rp id sz e o => match memN id js with
    | true => .top
    | false => .rp (L + id) sz e o
  | .lp sz n f e o => .lp sz n f e o
  | .sl id sz off len => match memN id js with
    | true => .top
    | false => .sl (L + id) sz off len
  | .mp id => match memN id js with
    | true => .top
    | false => .mp (L + id)
  | .own ty sz n f => .own ty sz n f
  | .fn .. => .top
  | .top => .top
def outCs (js ids : List Nat) (L : Nat) : List C → List C
  | [] => []
  | c :: r => outC js ids L c :: outCs js ids L r
def outV (js ids : List Nat) (L : Nat) : V → V
  | .c x => .c (outC js ids L x)
  | .a cs => .a (outCs js ids L cs)
  | .t _ => .c .top
def outO (js ids : List Nat) (L : Nat) : AO → AO
  | .cells ty vs => .cells ty (outCs js ids L vs)
  | .row ty sz n f => .row ty sz n fun e o => outC js ids L (f e o)
  | .foc ty sz n e0 vs f => .foc ty sz n e0 (outCs js ids L vs) fun e o => outC js ids L (f e o)
  | .mapb ok g => .mapb ok g
  | .mapl ok ty sz g none => .mapl ok ty sz g none
  | .mapl ok ty sz g (some (k, c)) => .mapl ok ty sz g (some (k, outC js ids L c))
  | .pin .. => .gone
  | .gone => .gone
def mapI (f : Nat → AO → AO) : Nat → List AO → List AO
  | _, [] => []
  | i, x :: r => f i x :: mapI f (i + 1) r
def oldF (ρ ids js : List Nat) (L : Nat) (hE : List AO) (i : Nat) (x : AO) : AO := match lkup ids js i with
  | some j => outO js ids L (nth .gone hE j)
  | none => match memN i ρ with
    | true => .gone
    | false => x
def newF (js ids : List Nat) (L : Nat) (j : Nat) (x : AO) : AO := match memN j js with
  | true => .gone
  | false => outO js ids L x
def outH (ρ ids js : List Nat) (h hE : List AO) : List AO := appO2 (mapI (oldF ρ ids js (lenL h) hE) 0 h) (mapI (newF js ids (lenL h)) 0 hE)
theorem mapI_length (f : Nat → AO → AO) : ∀ (i : Nat) (l : List AO), (mapI f i l).length = l.length
  | _, [] => rfl
  | i, x :: r => by simp [mapI, mapI_length f (i + 1) r]
theorem mapI_nth (f : Nat → AO → AO) : ∀ (i : Nat) (l : List AO) (j : Nat), j < l.length → nth .gone (mapI f i l) j = f (i + j) (nth .gone l j)
  | _, [], j, h => by simp at h
  | i, x :: r, 0, _ => rfl
  | i, x :: r, j + 1, h => by
    show nth .gone (mapI f (i + 1) r) j = _
    rw [mapI_nth f (i + 1) r j (by simpa using h), show i + 1 + j = i + (j + 1) by omega]; rfl
theorem nth_app_lt {l m : List AO} {i : Nat} (h : i < l.length) : nth .gone (appO2 l m) i = nth .gone l i := by
  rw [appO2_eq, nth_eq, nth_eq, List.getD_eq_getElem?_getD, List.getD_eq_getElem?_getD, List.getElem?_append_left h]
theorem nth_app_ge {l m : List AO} {i : Nat} (h : l.length ≤ i) : nth .gone (appO2 l m) i = nth .gone m (i - l.length) := by
  rw [appO2_eq, nth_eq, nth_eq, List.getD_eq_getElem?_getD, List.getD_eq_getElem?_getD, List.getElem?_append_right h]
theorem nth_out_old {ρ ids js : List Nat} {h hE : List AO} {i : Nat} (hi : i < h.length) : nth .gone (outH ρ ids js h hE) i = oldF ρ ids js (lenL h) hE i (nth .gone h i) := by
  unfold outH
  rw [nth_app_lt (by rw [mapI_length]; exact hi), mapI_nth _ _ _ _ hi, Nat.zero_add]
theorem nth_out_new {ρ ids js : List Nat} {h hE : List AO} {j : Nat} (hj : j < hE.length) : nth .gone (outH ρ ids js h hE) (h.length + j) = newF js ids (lenL h) j (nth .gone hE j) := by
  unfold outH
  rw [nth_app_ge (by rw [mapI_length]; omega), mapI_length, show h.length + j - h.length = j by omega, mapI_nth _ _ _ _ hj, Nat.zero_add]
theorem outH_length {ρ ids js : List Nat} {h hE : List AO} : (outH ρ ids js h hE).length = h.length + hE.length := by
  unfold outH
  rw [appO2_eq, List.length_append, mapI_length, mapI_length]
theorem lkup_some {x y : Nat} : ∀ {js ids : List Nat}, lkup js ids x = some y → ∃ m : Nat, js[m]? = some x ∧ ids[m]? = some y
  | [], _, h => by simp [lkup] at h
  | _ :: _, [], h => by simp [lkup] at h
  | j :: js, id :: ids, h => by
    simp only [lkup] at h
    cases hb : Nat.beq j x with
    | true =>
      rw [hb] at h
      injection h with h
      exact ⟨0, by simp [Nat.eq_of_beq_eq_true hb], by simp [h]⟩
    | false =>
      rw [hb] at h
      obtain ⟨m, h1, h2⟩ := lkup_some h
      exact ⟨m + 1, by simpa using h1, by simpa using h2⟩
theorem outO_live {js ids : List Nat} {L : Nat} {x : AO} (h : (outO js ids L x).live = true) : x.live = true := by
  cases x with
  | pin => cases h
  | gone => cases h
  | _ => rfl
section
variable {P : Program} {G : Nat → Option Obj} {β β2 β3 : Bt} {R R2 : Nat → Prop} {w w' : World} {h hE : List AO} {ρ ids js bs : List Nat}
def passed (β : Bt) (ρ : List Nat) (b : Nat) : Prop := ∃ id ∈ ρ, ∃ o, β id = some (b, o)
open Classical in
noncomputable def inB (β : Bt) (ρ ids : List Nat) : Bt := ⟨fun j => if j < ρ.length then (ρ[j]?).bind β.f else (ids[j - ρ.length]?).bind β.f, fun b => match β.q b with
  | some (bi, c) => if passed β ρ bi then some (bi, c) else none
  | none => none⟩
theorem inB_f {j : Nat} {x : Nat × Nat} (hx : inB β ρ ids j = some x) : (j < ρ.length ∧ ∃ id, ρ[j]? = some id ∧ β id = some x) ∨ (ρ.length ≤ j ∧ ∃ id, ids[j - ρ.length]? = some id ∧ β id = some x) := by
  simp only [inB] at hx
  split at hx
  · rename_i hj
    simp only [Option.bind_eq_some_iff] at hx
    exact .inl ⟨hj, hx⟩
  · rename_i hj
    simp only [Option.bind_eq_some_iff] at hx
    exact .inr ⟨by omega, hx⟩
theorem inB_q {b : Nat} {ad : Nat × Nat} (hx : (inB β ρ ids).q b = some ad) : β.q b = some ad ∧ passed β ρ ad.1 := by
  simp only [inB] at hx
  split at hx
  · rename_i bi c hq
    split at hx
    · rename_i hp; injection hx with hx; subst hx; exact ⟨hq, hp⟩
    · cases hx
  · cases hx
theorem inB_q_of {b : Nat} {ad : Nat × Nat} (h1 : β.q b = some ad) (h2 : passed β ρ ad.1) : (inB β ρ ids).q b = some ad := by
  simp only [inB, h1, if_pos h2]
theorem inB_lt {j : Nat} (hj : j < ρ.length) : inB β ρ ids j = (ρ[j]?).bind β.f := by simp only [inB, if_pos hj]
theorem inB_ge {j : Nat} (hj : ρ.length ≤ j) : inB β ρ ids j = (ids[j - ρ.length]?).bind β.f := by simp only [inB, if_neg (show ¬ j < ρ.length by omega)]
theorem inB_has {b : Nat} (hsub : ∀ id ∈ ids, id ∈ ρ) (hb : (inB β ρ ids).has b) : passed β ρ b ∨ ∃ ad, β.q b = some ad ∧ passed β ρ ad.1 := by
  rcases hb with ⟨i, o, hi⟩ | ⟨ad, hi⟩
  · left
    rcases inB_f hi with ⟨_, id, h1, h2⟩ | ⟨_, id, h1, h2⟩
    · exact ⟨id, List.mem_of_getElem? h1, o, h2⟩
    · exact ⟨id, hsub id (List.mem_of_getElem? h1), o, h2⟩
  · exact .inr ⟨ad, inB_q hi⟩
theorem pinL_length : ∀ {ids bs : List Nat}, ids.length = bs.length → (pinL ρ ids bs).length = ids.length
  | [], [], _ => rfl
  | [], _ :: _, h => by simp at h
  | _ :: _, [], h => by simp at h
  | _ :: ids, _ :: bs, h => by simp [pinL, pinL_length (ids := ids) (bs := bs) (by simpa using h)]
theorem pinL_nth : ∀ {ids bs : List Nat} {i id b : Nat}, ids[i]? = some id → bs[i]? = some b → nth .gone (pinL ρ ids bs) i = (match idxOf id ρ 0 with
    | some j => AO.pin j b
    | none => .gone)
  | [], _, i, _, _, h, _ => by simp at h
  | _ :: _, [], i, _, _, _, h => by simp at h
  | _ :: ids, _ :: bs, 0, _, _, h1, h2 => by
    simp at h1 h2; subst h1; subst h2; rfl
  | _ :: ids, _ :: bs, i + 1, _, _, h1, h2 => by
    show nth .gone (pinL ρ ids bs) i = _
    exact pinL_nth (by simpa using h1) (by simpa using h2)
theorem idxOf_mem {id : Nat} : ∀ {l : List Nat} (n : Nat), id ∈ l → ∃ j, idxOf id l n = some j
  | [], _, h => by cases h
  | k :: r, n, h => by
    simp only [idxOf]
    cases hb : Nat.beq k id with
    | true => exact ⟨n, rfl⟩
    | false =>
      rcases List.mem_cons.1 h with rfl | h
      · rw [Nat.beq_refl] at hb; cases hb
      · exact idxOf_mem (n + 1) h
theorem pinL_dead : ∀ (ids bs : List Nat) (i : Nat), (nth .gone (pinL ρ ids bs) i).live = false
  | [], _, _ => by cases ‹Nat› <;> rfl
  | _ :: _, [], i => by cases i <;> rfl
  | id :: ids, b :: bs, 0 => by
    show (match idxOf id ρ 0 with
    | some j => AO.pin j b
    | none => .gone).live = false
    cases idxOf id ρ 0 <;> rfl
  | id :: ids, b :: bs, i + 1 => pinL_dead ids bs i
theorem hs_in (hh : HS G β R w h) (hρ : noDup ρ = true) (hlv : ∀ id ∈ ρ, (nth .gone h id).live = true) (hsub : ∀ id ∈ ids, id ∈ ρ) (hbl : ids.length = bs.length)
    (hbs : ∀ (i : Nat) id b, ids[i]? = some id → bs[i]? = some b → ∃ o, β id = some (b, o)) : HS G (inB β ρ ids) R w (inH ρ ids h bs) := by
  have hpl : (projH ρ h ρ).length = ρ.length := projH_length ρ
  have hn1 : ∀ j id, ρ[j]? = some id → nth .gone (inH ρ ids h bs) j = renO ρ (nth .gone h id) := fun j id hj => by
    unfold inH
    rw [nth_app_lt (by rw [hpl]; exact (List.getElem?_eq_some_iff.1 hj).1), projH_nth hj]
  have hn2 : ∀ j, ρ.length ≤ j → nth .gone (inH ρ ids h bs) j = nth .gone (pinL ρ ids bs) (j - ρ.length) := fun j hj => by
    unfold inH
    rw [nth_app_ge (by rw [hpl]; exact hj), hpl]
  have hdead : ∀ j, ρ.length ≤ j → (nth .gone (inH ρ ids h bs) j).live = false := fun j hj => by rw [hn2 j hj]; exact pinL_dead _ _ _
  have hkp : Keeps (bρ ρ β) R w (inB β ρ ids) R w := ⟨fun i x hi => by
    have hi : (ρ[i]?).bind β.f = some x := hi
    have hlt : i < ρ.length := by
      rcases Nat.lt_or_ge i ρ.length with h | h
      · exact h
      · rw [List.getElem?_eq_none h] at hi; cases hi
    rw [inB_lt hlt]; exact hi, fun _ h => h, fun _ _ => rfl⟩
  refine ⟨?_, ?_, ?_, ?_, hh.rlt, ?_, hh.gl, ?_⟩
  · intro j x hj
    have hlen : (inH ρ ids h bs).length = ρ.length + ids.length := by unfold inH; rw [appO2_eq, List.length_append, hpl, pinL_length hbl]
    rcases inB_f hj with ⟨h1, _⟩ | ⟨h1, id, h2, _⟩
    · omega
    · have := (List.getElem?_eq_some_iff.1 h2).1; omega
  · intro i j b o o' hi hj li lj
    rcases inB_f hi with ⟨h1, id, h2, h3⟩ | ⟨h1, _⟩
    · rcases inB_f hj with ⟨h4, jd, h5, h6⟩ | ⟨h4, _⟩
      · have := hh.inj id jd b o o' h3 h6 (hlv id (List.mem_of_getElem? h2)) (hlv jd (List.mem_of_getElem? h5))
        subst this
        exact noDup_inj hρ h2 h5
      · rw [hdead j h4] at lj; cases lj
    · rw [hdead i h1] at li; cases li
  · intro i b o hi li
    rcases inB_f hi with ⟨h1, id, h2, h3⟩ | ⟨h1, _⟩
    · exact hh.sep id b o h3 (hlv id (List.mem_of_getElem? h2))
    · rw [hdead i h1] at li; cases li
  · intro i b o hi
    rcases inB_f hi with ⟨h1, id, h2, h3⟩ | ⟨h1, id, h2, h3⟩
    · exact hh.lt id b o h3
    · exact hh.lt id b o h3
  · intro i b o hi
    rcases inB_f hi with ⟨h1, id, h2, h3⟩ | ⟨h1, id, h2, h3⟩
    · rw [hn1 i id h2]
      exact OR.keep hkp (fun b1 c hq => ⟨inB_q_of hq ⟨id, List.mem_of_getElem? h2, o, h3⟩, rfl⟩) rfl (renO_sound (hh.obj id b o h3))
    · have hlt := (List.getElem?_eq_some_iff.1 h2).1
      have hb2 : bs[i - ρ.length]? = some (bs[i - ρ.length]'(by omega)) := List.getElem?_eq_getElem (by omega)
      generalize bs[i - ρ.length]'(by omega) = b2 at hb2
      obtain ⟨j, hj⟩ := idxOf_mem (l := ρ) 0 (hsub id (List.mem_of_getElem? h2))
      rw [hn2 i h1, pinL_nth h2 hb2, hj]
      obtain ⟨o2, h4⟩ := hbs _ id b2 h2 hb2
      rw [h3] at h4; injection h4 with h4; injection h4 with h4 h5
      subst h4; subst h5
      refine ⟨rfl, o, ?_⟩
      have h6 := (idxOf_some hj).2
      simp only [Nat.sub_zero] at h6
      rw [inB_lt (List.getElem?_eq_some_iff.1 h6).1, h6]
      exact h3
  · intro b ad hb
    obtain ⟨h1, h2⟩ := inB_q hb
    obtain ⟨q1, q2, q3⟩ := hh.ql b ad h1
    refine ⟨q1, q2, fun i o hi => ?_⟩
    rcases inB_f hi with ⟨h3, id, h4, h5⟩ | ⟨h3, _⟩
    · have := q3 id o h5
      rw [hlv id (List.mem_of_getElem? h4)] at this; cases this
    · exact hdead i h3
theorem inC_sound (hsub : ∀ id ∈ ids, id ∈ ρ) {x : C} {u : Value} (hx : CR β R w x u) : CR (inB β ρ ids) R w (inC ρ ids ρ.length x) u := by
  have hkp : Keeps (bρ ρ β) R w (inB β ρ ids) R w := ⟨fun i x hi => by
    have hi : (ρ[i]?).bind β.f = some x := hi
    have hlt : i < ρ.length := by
      rcases Nat.lt_or_ge i ρ.length with h | h
      · exact h
      · rw [List.getElem?_eq_none h] at hi; cases hi
    rw [inB_lt hlt]; exact hi, fun _ h => h, fun _ _ => rfl⟩
  have gen : ∀ y : C, CR β R w y u → CR (inB β ρ ids) R w (renC ρ y) u := fun y hy =>
    CR.keep (β := ⟨(bρ ρ β).f, β.q⟩) ⟨hkp.bm, fun _ h => h, fun _ _ => rfl⟩ (renC_sound hy)
  cases x with
  | ptr id off =>
    show CR _ _ _ (match idxOf id ids 0 with
      | some i => C.ptr (ρ.length + i) off
      | none => renC ρ (.ptr id off)) u
    cases hi : idxOf id ids 0 with
    | none => exact gen _ hx
    | some i =>
      have h6 := (idxOf_some hi).2
      simp only [Nat.sub_zero] at h6
      obtain ⟨b, o, h1, h2⟩ := hx
      refine ⟨b, o, ?_, h2⟩
      rw [inB_ge (by omega), show ρ.length + i - ρ.length = i by omega, h6]
      exact h1
  | _ => exact gen _ hx
theorem inCs_sound (hsub : ∀ id ∈ ids, id ∈ ρ) : ∀ {xs : List C} {us : List Value}, All2 (CR β R w) xs us → All2 (CR (inB β ρ ids) R w) (inCs ρ ids ρ.length xs) us
  | [], [], _ => trivial
  | [], _ :: _, h => h.elim
  | _ :: _, [], h => h.elim
  | _ :: _, _ :: _, h => ⟨inC_sound hsub h.1, inCs_sound hsub h.2⟩
theorem inVs_sound (hsub : ∀ id ∈ ids, id ∈ ρ) : ∀ {xs : List V} {us : List Value}, All2 (VR β R w) xs us → All2 (VR (inB β ρ ids) R w) (inVs ρ ids ρ.length xs) us
  | [], [], _ => trivial
  | [], _ :: _, h => h.elim
  | _ :: _, [], h => h.elim
  | v :: _, _ :: _, h => ⟨by
      cases v with
      | c x => exact inC_sound hsub h.1
      | a cs => obtain ⟨us, h1, h2⟩ := h.1; exact ⟨us, h1, inCs_sound hsub h2⟩
      | t vs => exact trivial, inVs_sound hsub h.2⟩
open Classical in
noncomputable def outB (β β2 : Bt) (ρ : List Nat) (L : Nat) : Bt := ⟨fun i => if i < L then β i else β2 (i - L), fun b => match β2.q b with
  | some ad => some ad
  | none => match β.q b with
    | some (bi, c) => if passed β ρ bi then none else some (bi, c)
    | none => none⟩
theorem outB_lt {L i : Nat} (hi : i < L) : outB β β2 ρ L i = β i := by simp only [outB, if_pos hi]
theorem outB_new {L j : Nat} : outB β β2 ρ L (L + j) = β2 j := by
  simp only [outB, if_neg (show ¬ L + j < L by omega)]
  rw [show L + j - L = j by omega]
theorem outB_q2 {L b : Nat} {ad : Nat × Nat} (hq : β2.q b = some ad) : (outB β β2 ρ L).q b = some ad := by simp only [outB, hq]
theorem outB_q {L b : Nat} {ad : Nat × Nat} (hq : (outB β β2 ρ L).q b = some ad) : β2.q b = some ad ∨ (β.q b = some ad ∧ ¬ passed β ρ ad.1) := by
  simp only [outB] at hq
  split at hq
  · rename_i ad' h1; injection hq with hq; subst hq; exact .inl h1
  · split at hq
    · rename_i bi c h1
      split at hq
      · cases hq
      · rename_i hp; injection hq with hq; subst hq; exact .inr ⟨h1, hp⟩
    · cases hq
theorem outC_sound {β3 : Bt} {L : Nat} (hjs : js.length = ids.length) (hnum : ∀ j x, β2 j = some x → β3 (L + j) = some x) (hpin : ∀ (i : Nat) id j, ids[i]? = some id → js[i]? = some j → ∃ b o o2, β3 id = some (b, o) ∧ β2 j = some (b, o2)) {x : C} {u : Value} (hx : CR β2 R2 w' x u) : CR β3 R2 w' (outC js ids L x) u := by
  cases x with
  | p x => exact hx
  | lp => exact hx
  | own => exact trivial
  | fn => exact trivial
  | top => exact trivial
  | ptr id off =>
    obtain ⟨b, o, h1, h2⟩ := hx
    show ∃ b o, β3 (outN js ids L id) = some (b, o) ∧ _
    unfold outN
    cases hl : lkup js ids id with
    | none => exact ⟨b, o, hnum _ _ h1, h2⟩
    | some id' =>
      obtain ⟨m, h3, h4⟩ := lkup_some hl
      obtain ⟨b', o', o2, h5, h6⟩ := hpin m id' id h4 h3
      rw [h1] at h6; injection h6 with h6; injection h6 with h6 h7
      subst h6
      exact ⟨_, o', h5, h2⟩
  | rp id sz e o =>
    obtain ⟨b, o, h1, h2⟩ := hx
    show CR _ _ _ (match memN id js with
      | true => C.top
      | false => .rp (L + id) sz e _) u
    cases memN id js with
    | true => exact trivial
    | false => exact ⟨b, o, hnum _ _ h1, h2⟩
  | sl id sz off len =>
    obtain ⟨A, c, h1, h2, h3, h4⟩ := hx
    show CR _ _ _ (match memN id js with
      | true => C.top
      | false => .sl (L + id) sz off len) u
    cases memN id js with
    | true => exact trivial
    | false =>
      refine ⟨A, c, h1, h2, h3, ?_⟩
      rcases h4 with h4 | ⟨b, N, h5, h6, h7⟩
      · exact .inl h4
      · exact .inr ⟨b, N, hnum _ _ h5, h6, h7⟩
  | mp id =>
    obtain ⟨b, N, h1, h2⟩ := hx
    show CR _ _ _ (match memN id js with
      | true => C.top
      | false => .mp (L + id)) u
    cases memN id js with
    | true => exact trivial
    | false => exact ⟨b, N, hnum _ _ h1, h2⟩
theorem outCs_length (L : Nat) : ∀ xs : List C, (outCs js ids L xs).length = xs.length
  | [] => rfl
  | _ :: xs => by simp [outCs, outCs_length L xs]
theorem outCs_nth (L : Nat) : ∀ (xs : List C) (i : Nat), nth .top (outCs js ids L xs) i = outC js ids L (nth .top xs i)
  | [], _ => rfl
  | _ :: _, 0 => rfl
  | _ :: xs, i + 1 => outCs_nth L xs i
theorem outCs_all {β3 : Bt} {L : Nat} (hc : ∀ (x : C) (u : Value), CR β2 R2 w' x u → CR β3 R2 w' (outC js ids L x) u) : ∀ {xs : List C} {us : List Value}, All2 (CR β2 R2 w') xs us → All2 (CR β3 R2 w') (outCs js ids L xs) us
  | [], [], _ => trivial
  | [], _ :: _, h => h.elim
  | _ :: _, [], h => h.elim
  | _ :: _, _ :: _, h => ⟨hc _ _ h.1, outCs_all hc h.2⟩
theorem outV_sound {β3 : Bt} {L : Nat} (hc : ∀ (x : C) (u : Value), CR β2 R2 w' x u → CR β3 R2 w' (outC js ids L x) u) {x : V} {u : Value} (h : VR β2 R2 w' x u) : VR β3 R2 w' (outV js ids L x) u := by
  cases x with
  | c x => exact hc _ _ h
  | a cs => obtain ⟨us, h1, h2⟩ := h; exact ⟨us, h1, outCs_all hc h2⟩
  | t vs => exact trivial
theorem outO_sound {β3 : Bt} {L : Nat} (hc : ∀ (x : C) (u : Value), CR β2 R2 w' x u → CR β3 R2 w' (outC js ids L x) u) (hq : ∀ b ad, β2.q b = some ad → β3.q b = some ad) {x : AO} {b o : Nat} (h : OR β2 R2 w' x b o) : OR β3 R2 w' (outO js ids L x) b o := by
  have hco : ∀ (ad : Nat × Nat) (x : C) (u : Value), CRo β2 R2 w' ad x u → CRo β3 R2 w' ad (outC js ids L x) u := by
    intro ad x u hx
    cases ho : x.isOwn with
    | true =>
      cases x with
      | own ty sz n f =>
        obtain ⟨A, c, h1, h2, h3, h4⟩ := hx
        refine ⟨A, c, h1, h2, h3, ?_⟩
        rcases h4 with h4 | ⟨b, cs, h5, h6, h7⟩
        · exact .inl h4
        · exact .inr ⟨b, cs, h5, hq _ _ h6, h7⟩
      | _ => cases ho
    | false =>
      refine CRo.of ?_ (hc _ _ hx.cr)
      cases x <;> first | rfl | (cases ho; done) | (simp only [outC]; split <;> rfl)
  cases x with
  | cells ty vs => obtain ⟨cs, h2, h3⟩ := h; exact ⟨cs, h2, outCs_all hc h3⟩
  | row ty sz n f =>
    obtain ⟨cs, h1, h0, h2, h3⟩ := h
    refine ⟨cs, h1, h0, h2, fun e k he hk => ?_⟩
    obtain ⟨u, h4, h5⟩ := h3 e k he hk
    exact ⟨u, h4, hco _ _ _ h5⟩
  | foc ty sz n e0 vs f =>
    obtain ⟨cs, h1, h0, h2, h21, h22, h3⟩ := h
    refine ⟨cs, h1, h0, h2, h21, by rw [outCs_length]; exact h22, fun e k he hk => ?_⟩
    obtain ⟨u, h4, h5, h6⟩ := h3 e k he hk
    exact ⟨u, h4, fun h => by rw [outCs_nth]; exact hc _ _ (h5 h), fun h => hco _ _ _ (h6 h)⟩
  | mapb ok g => exact h
  | mapl ok ty sz g fo =>
    obtain ⟨es, cl, h2, h3, h4, h5⟩ := h
    cases fo with
    | none =>
      refine ⟨es, cl, h2, h3, fun i e he => ?_, fun k0 hk0 => ?_⟩
      · obtain ⟨q1, q2, q3⟩ := h4 i e he
        exact ⟨q1, fun k0 c h1 => (by cases h1), fun _ => hco (b, i) _ _ (q3 (fun _ _ h => by cases h))⟩
      · obtain ⟨q1, q2⟩ := h5 k0 hk0
        exact ⟨fun k1 c h1 => (by cases h1), fun _ => q2 (fun _ _ h => by cases h)⟩
    | some kc =>
      obtain ⟨k9, c9⟩ := kc
      refine ⟨es, cl, h2, h3, fun i e he => ?_, fun k0 hk0 => ?_⟩
      · obtain ⟨q1, q2, q3⟩ := h4 i e he
        refine ⟨q1, fun k0 c h1 h2 => ?_, fun h1 => hco (b, i) _ _ (q3 fun k0 c h2 => ?_)⟩
        · injection h1 with h1; injection h1 with h1 h3; subst h1; subst h3
          exact hc _ _ (q2 _ _ rfl h2)
        · injection h2 with h2; injection h2 with h2 h3; subst h2; subst h3
          exact h1 _ _ rfl
      · obtain ⟨q1, q2⟩ := h5 k0 hk0
        refine ⟨fun k1 c h1 h2 => ?_, fun h1 => q2 fun k1 c h2 => ?_⟩
        · injection h1 with h1; injection h1 with h1 h3; subst h1; subst h3
          exact hc _ _ (q1 _ _ rfl h2)
        · injection h2 with h2; injection h2 with h2 h3; subst h2; subst h3
          exact h1 _ _ rfl
  | pin => exact trivial
  | gone => exact trivial
def isCells : AO → Bool
  | .cells .. => true
  | _ => false
set_option maxHeartbeats 1000000 in
theorem hs_out (hh : HS G β R w h) (hlv : ∀ id ∈ ρ, (nth .gone h id).live = true) (hsub : ∀ id ∈ ids, id ∈ ρ) (hjs : js.length = ids.length)
    (fr : Fr (inB β ρ ids) R w β2 R2 w') (rm : ∀ b, R b → R2 b) (h2 : HS G β2 R2 w' hE)
    (hpin : ∀ (i : Nat) id j, ids[i]? = some id → js[i]? = some j → isCells (nth .gone hE j) = true ∧ ∃ b o o2, β id = some (b, o) ∧ β2 j = some (b, o2)) :
    HS G (outB β β2 ρ h.length) R2 w' (outH ρ ids js h hE) ∧ Gr β R w (outB β β2 ρ h.length) R2 w' ∧
      (∀ (x : C) (u : Value), CR β2 R2 w' x u → CR (outB β β2 ρ h.length) R2 w' (outC js ids h.length x) u) ∧ ∀ i, i < h.length → outB β β2 ρ h.length i = β i := by
  have hold : ∀ i, i < h.length → outB β β2 ρ h.length i = β i := fun i hi => outB_lt hi
  have hcase : ∀ i x, outB β β2 ρ h.length i = some x → (i < h.length ∧ β i = some x) ∨ ∃ j, i = h.length + j ∧ β2 j = some x := fun i x hx => by
    rcases Nat.lt_or_ge i h.length with hi | hi
    · rw [hold i hi] at hx; exact .inl ⟨hi, hx⟩
    · obtain ⟨j, rfl⟩ : ∃ j, i = h.length + j := ⟨i - h.length, by omega⟩
      rw [outB_new] at hx; exact .inr ⟨j, rfl, hx⟩
  have hnew : ∀ j x, β2 j = some x → outB β β2 ρ h.length (h.length + j) = some x := fun j x hx => by rw [outB_new]; exact hx
  have hpin' : ∀ (i : Nat) id j, ids[i]? = some id → js[i]? = some j → ∃ b o o2, outB β β2 ρ h.length id = some (b, o) ∧ β2 j = some (b, o2) := fun i id j h1 h3 => by
    obtain ⟨_, b, o, o2, h4, h5⟩ := hpin i id j h1 h3
    exact ⟨b, o, o2, by rw [hold id (hh.dom id _ h4)]; exact h4, h5⟩
  have hC : ∀ (x : C) (u : Value), CR β2 R2 w' x u → CR (outB β β2 ρ h.length) R2 w' (outC js ids h.length x) u := fun x u hx => outC_sound hjs hnew hpin' hx
  have hL : lenL h = h.length := lenL_eq h
  -- the caller's blocks that are not passed
  have hne : ∀ i b o, β i = some (b, o) → (nth .gone h i).live = true → i ∉ ρ → ¬ (inB β ρ ids).has b := by
    intro i b o hi li hn hb
    rcases inB_has hsub hb with ⟨id, h3, o', h4⟩ | ⟨ad, h3, _⟩
    · exact hn (hh.inj i id b o o' hi h4 li (hlv id h3) ▸ h3)
    · have := (hh.ql b ad h3).2.2 i o hi
      rw [li] at this; cases this
  have hhas : ∀ b, (inB β ρ ids).has b → β.has b ∧ b < w.heap.size := by
    intro b hb
    rcases inB_has hsub hb with ⟨id, _, o, h4⟩ | ⟨ad, h3, _⟩
    · exact ⟨.inl ⟨id, o, h4⟩, hh.lt id b o h4⟩
    · exact ⟨.inr ⟨ad, h3⟩, (hh.ql b ad h3).1⟩
  have hqn : ∀ b ad, β.q b = some ad → ¬ passed β ρ ad.1 → ¬ (inB β ρ ids).has b := by
    intro b ad h3 h4 hb
    rcases inB_has hsub hb with ⟨id, h5, o, h6⟩ | ⟨ad', h5, h6⟩
    · have := (hh.ql b ad h3).2.2 id o h6
      rw [hlv id h5] at this; cases this
    · rw [h3] at h5; injection h5 with h5; subst h5; exact h4 h6
  have hb2 : ∀ b, β2.has b → (inB β ρ ids).has b ∨ w.heap.size ≤ b := fr.ex
  -- contents
  have old_cases : ∀ i, i < h.length → (∃ (m : Nat) (j : Nat), ids[m]? = some i ∧ js[m]? = some j ∧ nth .gone (outH ρ ids js h hE) i = outO js ids h.length (nth .gone hE j)) ∨
      (i ∈ ρ ∧ nth .gone (outH ρ ids js h hE) i = .gone) ∨ (i ∉ ρ ∧ nth .gone (outH ρ ids js h hE) i = nth .gone h i) := by
    intro i hi
    rw [nth_out_old hi, hL]
    unfold oldF
    cases hl : lkup ids js i with
    | some j =>
      obtain ⟨m, h3, h4⟩ := lkup_some hl
      exact .inl ⟨m, j, h3, h4, rfl⟩
    | none =>
      cases hm : memN i ρ with
      | true => exact .inr (.inl ⟨memN_iff.1 hm, rfl⟩)
      | false => exact .inr (.inr ⟨fun h3 => (by rw [memN_iff.2 h3] at hm; cases hm), rfl⟩)
  have new_cases : ∀ j x, β2 j = some x → (j ∈ js ∧ nth .gone (outH ρ ids js h hE) (h.length + j) = .gone) ∨ (j ∉ js ∧ nth .gone (outH ρ ids js h hE) (h.length + j) = outO js ids h.length (nth .gone hE j)) := by
    intro j x hj
    rw [nth_out_new (h2.dom j x hj), hL]
    unfold newF
    cases hm : memN j js with
    | true => exact .inl ⟨memN_iff.1 hm, rfl⟩
    | false => exact .inr ⟨fun h3 => (by rw [memN_iff.2 h3] at hm; cases hm), rfl⟩
  -- what a live number stands for
  have key : ∀ i b o, outB β β2 ρ h.length i = some (b, o) → (nth .gone (outH ρ ids js h hE) i).live = true →
      (i < h.length ∧ i ∉ ρ ∧ β i = some (b, o) ∧ (nth .gone h i).live = true) ∨
      (∃ (m : Nat) (j : Nat) (o2 : Nat), i < h.length ∧ ids[m]? = some i ∧ js[m]? = some j ∧ β i = some (b, o) ∧ β2 j = some (b, o2) ∧ (nth .gone hE j).live = true) ∨
      (∃ j, i = h.length + j ∧ j ∉ js ∧ β2 j = some (b, o) ∧ (nth .gone hE j).live = true) := by
    intro i b o hi li
    rcases hcase i _ hi with ⟨h3, h4⟩ | ⟨j, rfl, h4⟩
    · rcases old_cases i h3 with ⟨m, j, h5, h6, h7⟩ | ⟨h5, h6⟩ | ⟨h5, h6⟩
      · obtain ⟨hc, b', o', o2, h8, h9⟩ := hpin m i j h5 h6
        rw [h4] at h8; injection h8 with h8; injection h8 with h8 h10
        subst h8; subst h10
        refine .inr (.inl ⟨m, j, o2, h3, h5, h6, h4, h9, ?_⟩)
        cases hx : nth .gone hE j <;> rw [hx] at hc <;> first | rfl | cases hc
      · rw [h6] at li; cases li
      · rw [h6] at li; exact .inl ⟨h3, h5, h4, li⟩
    · rcases new_cases j _ h4 with ⟨h5, h6⟩ | ⟨h5, h6⟩
      · rw [h6] at li; cases li
      · rw [h6] at li; exact .inr (.inr ⟨j, rfl, h5, h4, outO_live li⟩)
  have frk : Keeps β R w (outB β β2 ρ h.length) R2 w' := ⟨fun i x hi => by rw [hold i (hh.dom i x hi)]; exact hi, rm, fr.rs⟩
  have gr : Gr β R w (outB β β2 ρ h.length) R2 w' := {
    os := fr.os, tape := fr.tape, output := fr.output, size := fr.size, rs := fr.rs
    fr := fun b hb hn => fr.fr b hb fun hi => hn (hhas b hi).1
    ex := fun b hi => by
      have h9 : β2.has b → β.has b ∨ w.heap.size ≤ b := fun h3 => (hb2 b h3).imp (fun h4 => (hhas b h4).1) id
      rcases hi with ⟨i, o, hi⟩ | ⟨ad, hi⟩
      · rcases hcase i _ hi with ⟨_, h4⟩ | ⟨j, _, h4⟩
        · exact .inl (.inl ⟨i, o, h4⟩)
        · exact h9 (.inl ⟨j, o, h4⟩)
      · rcases outB_q hi with h4 | ⟨h4, _⟩
        · exact h9 (.inr ⟨ad, h4⟩)
        · exact .inl (.inr ⟨ad, h4⟩)
    rx := fun b hb => (fr.rx b hb).imp id (Or.imp (fun h4 => (hhas b h4).1) id)
    bm := frk.bm
    rm := rm }
  have hR2 : ∀ b, R2 b → b < w.heap.size → ¬ (inB β ρ ids).has b → R b := fun b hb hlt hn => by
    rcases fr.rx b hb with h3 | h3 | h3
    · exact h3
    · exact absurd h3 hn
    · omega
  refine ⟨⟨?_, ?_, ?_, ?_, h2.rlt, ?_, h2.gl, ?_⟩, gr, hC, hold⟩
  · intro i x hi
    rw [outH_length]
    rcases hcase i _ hi with ⟨h3, _⟩ | ⟨j, rfl, h4⟩
    · omega
    · have := h2.dom j x h4; omega
  · intro i1 i2 b o1 o2 hi1 hi2 l1 l2
    rcases key i1 b o1 hi1 l1 with ⟨a1, a2, a3, a4⟩ | ⟨m1, j1, p1, a1, a2, a3, a4, a5, a6⟩ | ⟨j1, rfl, a1, a2, a3⟩
    · rcases key i2 b o2 hi2 l2 with ⟨c1, c2, c3, c4⟩ | ⟨m2, j2, p2, c1, c2, c3, c4, c5, c6⟩ | ⟨j2, rfl, c1, c2, c3⟩
      · exact hh.inj i1 i2 b o1 o2 a3 c3 a4 c4
      · exact hh.inj i1 i2 b o1 o2 a3 c4 a4 (hlv i2 (hsub i2 (List.mem_of_getElem? c2)))
      · rcases hb2 b (.inl ⟨j2, o2, c2⟩) with h3 | h3
        · exact absurd h3 (hne i1 b o1 a3 a4 a2)
        · have := hh.lt i1 b o1 a3; omega
    · have la := hlv i1 (hsub i1 (List.mem_of_getElem? a2))
      rcases key i2 b o2 hi2 l2 with ⟨c1, c2, c3, c4⟩ | ⟨m2, j2, p2, c1, c2, c3, c4, c5, c6⟩ | ⟨j2, rfl, c1, c2, c3⟩
      · exact hh.inj i1 i2 b o1 o2 a4 c3 la c4
      · exact hh.inj i1 i2 b o1 o2 a4 c4 la (hlv i2 (hsub i2 (List.mem_of_getElem? c2)))
      · have := h2.inj j1 j2 b p1 o2 a5 c2 a6 c3
        subst this
        exact absurd (List.mem_of_getElem? a3) c1
    · rcases key i2 b o2 hi2 l2 with ⟨c1, c2, c3, c4⟩ | ⟨m2, j2, p2, c1, c2, c3, c4, c5, c6⟩ | ⟨j2, rfl, c1, c2, c3⟩
      · rcases hb2 b (.inl ⟨j1, o1, a2⟩) with h3 | h3
        · exact absurd h3 (hne i2 b o2 c3 c4 c2)
        · have := hh.lt i2 b o2 c3; omega
      · have := h2.inj j1 j2 b o1 p2 a2 c5 a3 c6
        subst this
        exact absurd (List.mem_of_getElem? c3) a1
      · rw [h2.inj j1 j2 b o1 o2 a2 c2 a3 c3]
  · intro i b o hi li
    rcases key i b o hi li with ⟨a1, a2, a3, a4⟩ | ⟨m1, j1, p1, a1, a2, a3, a4, a5, a6⟩ | ⟨j1, rfl, a1, a2, a3⟩
    · exact fun hb => hh.sep i b o a3 a4 (hR2 b hb (hh.lt i b o a3) (hne i b o a3 a4 a2))
    · exact h2.sep j1 b p1 a5 a6
    · exact h2.sep j1 b o a2 a3
  · intro i b o hi
    rcases hcase i _ hi with ⟨_, h4⟩ | ⟨j, _, h4⟩
    · exact Nat.lt_of_lt_of_le (hh.lt i b o h4) fr.size
    · exact h2.lt j b o h4
  · intro i b o hi
    rcases hcase i _ hi with ⟨h3, h4⟩ | ⟨j, rfl, h4⟩
    · rcases old_cases i h3 with ⟨m, j, h5, h6, h7⟩ | ⟨h5, h6⟩ | ⟨h5, h6⟩
      · rw [h7]
        obtain ⟨hc, b', o', o2, h8, h9⟩ := hpin m i j h5 h6
        rw [h4] at h8; injection h8 with h8; injection h8 with h8 h10
        subst h8; subst h10
        have h11 := outO_sound (js := js) (ids := ids) (L := h.length) hC (fun b ad hq => outB_q2 hq) (h2.obj j b o2 h9)
        cases hx : nth .gone hE j with
        | cells ty vs => rw [hx] at h11; exact h11
        | _ => rw [hx] at hc; cases hc
      · rw [h6]; exact trivial
      · rw [h6]
        cases hl : (nth .gone h i).live with
        | false => exact OR.dead frk hl (hh.obj i b o h4)
        | true =>
          have hnh := hne i b o h4 hl h5
          refine OR.keep frk (fun b1 c hq => ?_) (fr.fr b (hh.lt i b o h4) hnh) (hh.obj i b o h4)
          have hnp : ¬ passed β ρ b := fun ⟨id, h8, o', h9⟩ => hnh (by
            obtain ⟨j, hj⟩ := List.mem_iff_getElem?.1 h8
            exact .inl ⟨j, o', by rw [inB_lt (List.getElem?_eq_some_iff.1 hj).1, hj]; exact h9⟩)
          have hn1 := hqn b1 (b, c) hq hnp
          have hlt1 := (hh.ql b1 _ hq).1
          refine ⟨?_, fr.fr b1 hlt1 hn1⟩
          have hq2 : β2.q b1 = none := by
            cases hq2 : β2.q b1 with
            | none => rfl
            | some ad =>
              rcases hb2 b1 (.inr ⟨ad, hq2⟩) with h8 | h8
              · exact absurd h8 hn1
              · omega
          simp only [outB, hq2, hq, if_neg hnp]
    · rcases new_cases j _ h4 with ⟨h5, h6⟩ | ⟨h5, h6⟩
      · rw [h6]; exact trivial
      · rw [h6]; exact outO_sound hC (fun b ad hq => outB_q2 hq) (h2.obj j b o h4)
  · intro b ad hq
    rcases outB_q hq with h3 | ⟨h3, h4⟩
    · obtain ⟨q1, q2, q3⟩ := h2.ql b ad h3
      refine ⟨q1, q2, fun i o hi => ?_⟩
      cases li : (nth .gone (outH ρ ids js h hE) i).live with
      | false => rfl
      | true =>
        rcases key i b o hi li with ⟨a1, a2, a3, a4⟩ | ⟨m1, j1, p1, a1, a2, a3, a4, a5, a6⟩ | ⟨j1, rfl, a1, a2, a3⟩
        · rcases hb2 b (.inr ⟨ad, h3⟩) with h8 | h8
          · exact absurd h8 (hne i b o a3 a4 a2)
          · have := hh.lt i b o a3; omega
        · have := q3 j1 p1 a5; rw [a6] at this; cases this
        · have := q3 j1 o a2; rw [a3] at this; cases this
    · obtain ⟨q1, q2, q3⟩ := hh.ql b ad h3
      have hn1 := hqn b ad h3 h4
      refine ⟨Nat.lt_of_lt_of_le q1 fr.size, fun hb => q2 (hR2 b hb q1 hn1), fun i o hi => ?_⟩
      cases li : (nth .gone (outH ρ ids js h hE) i).live with
      | false => rfl
      | true =>
        have hnb : ¬ β2.has b := fun hb => by
          rcases hb2 b hb with h8 | h8
          · exact hn1 h8
          · omega
        rcases key i b o hi li with ⟨a1, a2, a3, a4⟩ | ⟨m1, j1, p1, a1, a2, a3, a4, a5, a6⟩ | ⟨j1, rfl, a1, a2, a3⟩
        · have := q3 i o a3; rw [a4] at this; cases this
        · exact absurd (.inl ⟨j1, p1, a5⟩) hnb
        · exact absurd (.inl ⟨j1, o, a2⟩) hnb
end
def stIn (fn : Func) (ρ ids bs : List Nat) (args : List V) (h : List AO) : St := ⟨inVs ρ ids ρ.length args ++ List.replicate (fn.ntmps - args.length) (.t []), inH ρ ids h bs⟩
def vTo1 : V → V1
  | .c x => .c x
  | .a cs => .a cs
  | .t _ => .c .top
def vsTo1 : List V → List V1
  | [] => []
  | v :: r => vTo1 v :: vsTo1 r
def oneW : List V → V
  | [v] => v
  | vs => .t (vsTo1 vs)
def outVs (js ids : List Nat) (L : Nat) : List V → List V
  | [] => []
  | v :: r => outV js ids L v :: outVs js ids L r
def liveAll (h : List AO) : List Nat → Bool
  | [] => true
  | id :: r => (nth .gone h id).live && liveAll h r
theorem liveAll_mem {h : List AO} : ∀ {l : List Nat}, liveAll h l = true → ∀ id ∈ l, (nth .gone h id).live = true
  | x :: r, hl, id, hi => by
    simp only [liveAll, Bool.and_eq_true] at hl
    rcases List.mem_cons.1 hi with rfl | hi
    · exact hl.1
    · exact liveAll_mem hl.2 id hi
section
variable {P : Program} {G : Nat → Option Obj} {β : Bt} {R : Nat → Prop} {w : World}
theorem All2.split {α γ : Type} {q : α → γ → Prop} : ∀ {xs xs' : List α} {ys ys' : List γ}, xs.length = ys.length → All2 q (xs ++ xs') (ys ++ ys') → All2 q xs ys ∧ All2 q xs' ys'
  | [], _, [], _, _, h => ⟨trivial, h⟩
  | [], _, _ :: _, _, hl, _ => by simp at hl
  | _ :: _, _, [], _, hl, _ => by simp at hl
  | _ :: xs, _, _ :: ys, _, hl, h => ⟨⟨h.1, (All2.split (xs := xs) (ys := ys) (by simpa using hl) h.2).1⟩, (All2.split (xs := xs) (ys := ys) (by simpa using hl) h.2).2⟩
theorem vTo1_sound {v : V} {u : Value} (h : VR β R w v u) : V1R β R w (vTo1 v) u := by
  cases v with
  | c x => exact h
  | a cs => exact h
  | t vs => exact trivial
theorem vsTo1_sound : ∀ {vs : List V} {us : List Value}, All2 (VR β R w) vs us → All2 (V1R β R w) (vsTo1 vs) us
  | [], [], _ => trivial
  | [], _ :: _, h => h.elim
  | _ :: _, [], h => h.elim
  | _ :: _, _ :: _, h => ⟨vTo1_sound h.1, vsTo1_sound h.2⟩
theorem oneW_sound : ∀ {vs : List V} {us : List Value} (_ : All2 (VR β R w) vs us), VR β R w (oneW vs) (oneU us)
  | [], [], _ => ⟨#[], rfl, trivial⟩
  | [_], [_], h => h.1
  | _ :: _ :: _, _ :: _ :: _, h => ⟨_, rfl, vsTo1_sound h⟩
  | [], _ :: _, h => h.elim
  | _ :: _, [], h => h.elim
  | [_], _ :: _ :: _, h => h.2.elim
  | _ :: _ :: _, [_], h => h.2.elim
theorem slotsL_sound {st : St} {a : Act} (hs : Sim G β R st a w) {vs : List V} {us : List Value} (h : All2 (VR β R w) vs us) : ∀ ps : List Nat, All2 (VR β R w) (slotsL st ps vs) (ps.map (fun j => a.tmps.getD j undef) ++ us)
  | [] => h
  | j :: ps => ⟨ev_sound (x := .tmp j) hs rfl, slotsL_sound hs h ps⟩
theorem All2.mem_ {α γ : Type} {q : α → γ → Prop} : ∀ {xs : List α} {ys : List γ}, All2 q xs ys → ∀ x ∈ xs, ∃ y, q x y
  | _ :: _, y :: _, h, x, hx => by
    rcases List.mem_cons.1 hx with rfl | hx
    · exact ⟨y, h.1⟩
    · exact All2.mem_ h.2 x hx
  | _ :: _, [], h, _, _ => h.elim
theorem blocks_of {args : List V} {us : List Value} (ha : All2 (VR β R w) args us) : ∀ {ids : List Nat}, (∀ id ∈ ids, ∃ off, V.c (.ptr id off) ∈ args) → ∃ bs : List Nat, bs.length = ids.length ∧ ∀ (i : Nat) id b, ids[i]? = some id → bs[i]? = some b → ∃ o, β id = some (b, o)
  | [], _ => ⟨[], rfl, fun i id b h => by simp at h⟩
  | id :: ids, h => by
    obtain ⟨bs, h1, h2⟩ := blocks_of ha (ids := ids) fun x hx => h x (List.mem_cons_of_mem _ hx)
    obtain ⟨off, h3⟩ := h id (List.mem_cons_self ..)
    obtain ⟨u, h4⟩ := All2.mem_ ha _ h3
    obtain ⟨b, o, h5, _⟩ := h4
    refine ⟨b :: bs, by simp [h1], fun i id' b' hi hb => ?_⟩
    cases i with
    | zero => simp at hi hb; subst hi; subst hb; exact ⟨o, h5⟩
    | succ i => exact h2 i id' b' (by simpa using hi) (by simpa using hb)
theorem outVs_all {β3 : Bt} {js ids : List Nat} {L : Nat} (hc : ∀ (x : C) (u : Value), CR β R w x u → CR β3 R w (outC js ids L x) u) : ∀ {xs : List V} {us : List Value}, All2 (VR β R w) xs us → All2 (VR β3 R w) (outVs js ids L xs) us
  | [], [], _ => trivial
  | [], _ :: _, h => h.elim
  | _ :: _, [], h => h.elim
  | _ :: _, _ :: _, h => ⟨outV_sound hc h.1, outVs_all hc h.2⟩
theorem fn_mem {f : FuncId} {fn : Func} (hf : P.funcs[f]? = some fn) (hok : okF P fn = true) {ρ ids ps pns js : List Nat} {args : List V} {h : List AO} (hρ : noDup ρ = true) (hlv : liveAll h ρ = true) (hsub : ∀ id ∈ ids, id ∈ ρ) (hin : ∀ id ∈ ids, ∃ off, V.c (.ptr id off) ∈ args)
    (hjs : js.length = ids.length) {sl vs : List V} {hE : List Nat → List AO} (hps : sl.length = ps.length) (hpn : pns.length = ids.length) (hsl : ∀ (i : Nat) pn, pns[i]? = some pn → ∃ off, V.c (.ptr pn off) ∈ sl)
    (hEp : ∀ bs : List Nat, bs.length = ids.length → ∀ (i : Nat) pn j b, pns[i]? = some pn → js[i]? = some j → bs[i]? = some b → nth .gone (hE bs) pn = .pin j b ∧ isCells (nth .gone (hE bs) j) = true)
    (H : ∀ bs : List Nat, bs.length = ids.length → ExZ P G (Zm ps (resOf P fn) fun s => WeakS G s ⟨sl ++ vs, hE bs⟩) (pcs P fn) (stIn fn ρ ids bs args h) fun e s => e = .normal ∧ Zm ps (resOf P fn) (fun s => WeakS G s ⟨sl ++ vs, hE bs⟩) s) :
    FnS P G f args h fun x h' => ∃ bs : List Nat, bs.length = ids.length ∧ x = oneW (outVs js ids h.length vs) ∧ h' = outH ρ ids js h (hE bs) := by
  unfold okF at hok
  simp only [Bool.and_eq_true, Option.isSome_iff_exists] at hok
  obtain ⟨⟨c, hc⟩, rs, hr⟩ := hok
  have e1 : codeOf P fn = c := by unfold codeOf; rw [hc]; rfl
  have e2 : resOf P fn = rs := by unfold resOf; rw [hr]; rfl
  simp only [Option.bind_eq_some_iff] at hc
  obtain ⟨c0, hb, hc⟩ := hc
  intro β R w us0 ha hh
  obtain ⟨bs, hbl, hbs⟩ := blocks_of ha hin
  have H := ExZ.code (H bs hbl)
  rw [e1, e2] at H
  have hs0 := hs_in hh hρ (liveAll_mem hlv) hsub hbl.symm hbs
  refine calls_of_wp hf hb (Code.wp_mono ?_ (H c0 hc (inB β ρ ids) R { tmps := us0 ++ Array.replicate (fn.ntmps - us0.size) undef, defers := [] } w ?_))
  · intro e a' w' hq
    cases e with
    | ret =>
      obtain ⟨β', R', st', ⟨ws, hws, hz⟩, hs, hfr, hrr⟩ := hq
      obtain ⟨us, hrun, hall⟩ := rawVs_sound hs fn.results.toList rs hr hws
      have hs1 : Sim G β' R' ⟨slotsL st' ps ws, st'.h⟩ { tmps := (ps.map (fun j => a'.tmps.getD j undef) ++ us).toArray, defers := [] } w' := ⟨rfl, by simpa using slotsL_sound hs hall ps, hs.hs⟩
      obtain ⟨β1, R1, k1, k2, k3⟩ := weak_gc (allT (slotsL st' ps ws)) _ β' R' _ w' hs1
      obtain ⟨β2, R2, k4, k5, k6⟩ := hz β1 R1 _ w' k1
      have frr : Fr (inB β ρ ids) R w β2 R2 w' := (hfr.trans k2 hrr).trans k5 fun b hb => k3 b (hrr b hb)
      have hsp : All2 (VR β2 R2 w') (sl ++ vs) (ps.map (fun j => a'.tmps.getD j undef) ++ us) := by simpa using k4.tm
      obtain ⟨hsp1, hsp2⟩ := hsp.split (by simpa using hps)
      have hpin : ∀ (i : Nat) id j, ids[i]? = some id → js[i]? = some j → isCells (nth .gone (hE bs) j) = true ∧ ∃ b o o2, β id = some (b, o) ∧ β2 j = some (b, o2) := by
        intro i id j h1 h2
        have hil := (List.getElem?_eq_some_iff.1 h1).1
        have h3 : pns[i]? = some (pns[i]'(by omega)) := List.getElem?_eq_getElem _
        generalize pns[i]'(by omega) = pn at h3
        have h4 : bs[i]? = some (bs[i]'(by omega)) := List.getElem?_eq_getElem _
        generalize bs[i]'(by omega) = b at h4
        obtain ⟨g1, g2⟩ := hEp bs hbl i pn j b h3 h2 h4
        obtain ⟨off, h5⟩ := hsl i pn h3
        obtain ⟨u, h6⟩ := All2.mem_ hsp1 _ h5
        obtain ⟨b', o', h7, _⟩ := h6
        have hob := k4.hs.obj pn b' o' h7
        have g1 : nth .gone (hE bs) pn = .pin j b := g1
        have hob : OR β2 R2 w' (nth .gone (hE bs) pn) b' o' := hob
        rw [g1] at hob
        obtain ⟨_, o2, h8⟩ := hob
        obtain ⟨o, h9⟩ := hbs i id b h1 h4
        exact ⟨g2, b, o, o2, h9, h8⟩
      obtain ⟨f1, f2, f3, f4⟩ := hs_out hh (liveAll_mem hlv) hsub hjs frr (fun b hb => k6 b (k3 b (hrr b hb))) k4.hs hpin
      exact ⟨hs.df, _, results_eq fn a'.tmps hrun, _, outB β β2 ρ h.length, R2, _, _, rfl, ⟨bs, hbl, rfl, rfl⟩, oneW_sound (outVs_all f3 hsp2), f1, f2, f4⟩
    | normal =>
      obtain ⟨β', R', st', ⟨_, hq0⟩, hs, hfr, hrr⟩ := hq
      obtain ⟨ws, hws, hz⟩ := hq0
      obtain ⟨us, hrun, hall⟩ := rawVs_sound hs fn.results.toList rs hr hws
      have hs1 : Sim G β' R' ⟨slotsL st' ps ws, st'.h⟩ { tmps := (ps.map (fun j => a'.tmps.getD j undef) ++ us).toArray, defers := [] } w' := ⟨rfl, by simpa using slotsL_sound hs hall ps, hs.hs⟩
      obtain ⟨β1, R1, k1, k2, k3⟩ := weak_gc (allT (slotsL st' ps ws)) _ β' R' _ w' hs1
      obtain ⟨β2, R2, k4, k5, k6⟩ := hz β1 R1 _ w' k1
      have frr : Fr (inB β ρ ids) R w β2 R2 w' := (hfr.trans k2 hrr).trans k5 fun b hb => k3 b (hrr b hb)
      have hsp : All2 (VR β2 R2 w') (sl ++ vs) (ps.map (fun j => a'.tmps.getD j undef) ++ us) := by simpa using k4.tm
      obtain ⟨hsp1, hsp2⟩ := hsp.split (by simpa using hps)
      have hpin : ∀ (i : Nat) id j, ids[i]? = some id → js[i]? = some j → isCells (nth .gone (hE bs) j) = true ∧ ∃ b o o2, β id = some (b, o) ∧ β2 j = some (b, o2) := by
        intro i id j h1 h2
        have hil := (List.getElem?_eq_some_iff.1 h1).1
        have h3 : pns[i]? = some (pns[i]'(by omega)) := List.getElem?_eq_getElem _
        generalize pns[i]'(by omega) = pn at h3
        have h4 : bs[i]? = some (bs[i]'(by omega)) := List.getElem?_eq_getElem _
        generalize bs[i]'(by omega) = b at h4
        obtain ⟨g1, g2⟩ := hEp bs hbl i pn j b h3 h2 h4
        obtain ⟨off, h5⟩ := hsl i pn h3
        obtain ⟨u, h6⟩ := All2.mem_ hsp1 _ h5
        obtain ⟨b', o', h7, _⟩ := h6
        have hob := k4.hs.obj pn b' o' h7
        have g1 : nth .gone (hE bs) pn = .pin j b := g1
        have hob : OR β2 R2 w' (nth .gone (hE bs) pn) b' o' := hob
        rw [g1] at hob
        obtain ⟨_, o2, h8⟩ := hob
        obtain ⟨o, h9⟩ := hbs i id b h1 h4
        exact ⟨g2, b, o, o2, h9, h8⟩
      obtain ⟨f1, f2, f3, f4⟩ := hs_out hh (liveAll_mem hlv) hsub hjs frr (fun b hb => k6 b (k3 b (hrr b hb))) k4.hs hpin
      exact ⟨hs.df, _, results_eq fn a'.tmps hrun, _, outB β β2 ρ h.length, R2, _, _, rfl, ⟨bs, hbl, rfl, rfl⟩, oneW_sound (outVs_all f3 hsp2), f1, f2, f4⟩
    | exit id => obtain ⟨_, _, _, q1, _⟩ := hq; exact nomatch q1.1
    | _ => exact hq.elim
  · refine ⟨rfl, ?_, hs0⟩
    have hl : args.length = us0.size := by simpa using ha.length
    show All2 _ (inVs ρ ids ρ.length args ++ List.replicate (fn.ntmps - args.length) (.t [])) _
    rw [Array.toList_append, Array.toList_replicate, hl]
    exact (inVs_sound hsub ha).append (undefs_all _)
end
end Go.AE
namespace Go.AE
set_option linter.unusedVariables false
set_option linter.unusedSimpArgs false
open Go.RowKit
def regBB (os : List Oper) (al : List AI) (n : Nat) : Bool :=
  allI (fun i o => allL (fun e => !Region.binds .any e || Nat.blt e.on i) o.after.toList) 0 os &&
  (allI (fun i x => Nat.ble n i || x.op.hd) 0 al &&
  (allI (fun i x => Nat.ble n i || allI (fun j y => Nat.ble n j || (Nat.beq i j || !eqD x.dst y.dst)) 0 al) 0 al &&
  allI (fun i x => Nat.ble n i || allI (fun j y => Nat.ble n j || (!inD y.dst x.sls || (anyL (fun o => waits o j) ((os.drop i).take 1) || anyL (fun o => waits o i) ((os.drop j).take 1)))) 0 al) 0 al))
section
variable {P : Program} {G : Nat → Option Obj} {ops : Array Oper} {al : List AI} {n : Nat} {S : Nat → St} {ext : Ext}
theorem regB_of {ops : Array Oper} {al : List AI} {n : Nat} (h : regBB ops.toList al n = true) : RegB ops al n := by
  unfold regBB at h
  simp only [Bool.and_eq_true] at h
  obtain ⟨h1, h2, h3, h4⟩ := h
  refine ⟨?_, ?_, ?_, ?_⟩
  · intro i o ho e he hb
    have := allL_at (allI_at h1 i o (by simpa using ho)) e (by simpa using he)
    simpa [hb] using this
  · intro i ai hi hn
    have := allI_at h2 i ai hi
    simp only [Bool.or_eq_true, Nat.ble_eq] at this
    rcases this with h | h
    · omega
    · exact h
  · intro i j x y d hx hy hi hj hij hd hd'
    have := allI_at h3 i x hx
    simp only [Bool.or_eq_true, Nat.ble_eq] at this
    rcases this with h | h
    · omega
    · have := allI_at h j y hy
      simp only [Bool.or_eq_true, Nat.ble_eq, hd, hd', eqD] at this
      rcases this with h | h | h
      · omega
      · have := Nat.eq_of_beq_eq_true h; omega
      · simp at h
  · intro i j x y d hx hy hi hj hd hs
    have := allI_at h4 i x hx
    simp only [Bool.or_eq_true, Nat.ble_eq] at this
    rcases this with h | h
    · omega
    · have := allI_at h j y hy
      simp only [Bool.or_eq_true, Nat.ble_eq, hd, inD] at this
      rcases this with h | h | h | h
      · omega
      · rw [hasN_iff hs] at h; cases h
      · obtain ⟨o, ho, hw⟩ := anyL_at h
        rw [Nat.zero_add] at hw ho
        exact .inl (waits_for (take1_at ho) hw)
      · obtain ⟨o, ho, hw⟩ := anyL_at h
        rw [Nat.zero_add] at hw ho
        exact .inr (waits_for (take1_at ho) hw)
theorem ready_of {listed : Array Bool} {i : Nat} (h : i ∈ Region.ready .any ops listed) : i < ops.size ∧ listed.getD i true = false ∧ ∀ j, Region.waitsFor .any ops i j = true → listed.getD j false = true := by
  obtain ⟨q1, o, q2, q3⟩ := mem_ready.1 h
  refine ⟨(Array.getElem?_eq_some_iff.1 q2).1, q1, fun j hj => ?_⟩
  obtain ⟨o', ho', e, he, hb, hon⟩ := Region.waitsFor_spec hj
  rw [q2] at ho'; injection ho' with ho'; subst ho'
  have := q3 e he hb
  rwa [hon] at this
theorem least_ready {listed : Array Bool} {i : Nat} (hback : ∀ i o, ops[i]? = some o → ∀ e ∈ o.after, Region.binds .any e = true → e.on < i) (hi : i < ops.size) (hn : listed.getD i true = false) (hl : ∀ j, j < i → listed.getD j false = true) : i ∈ Region.ready .any ops listed :=
  mem_ready.2 ⟨hn, ops[i], by simp [hi], fun e he hb => hl e.on (hback i _ (by simp [hi]) e he hb)⟩
variable {β0 : Bt} {R0 : Nat → Prop} {w0 : World}
end
end Go.AE
namespace Go.AE
set_option linter.unusedVariables false
set_option linter.unusedSimpArgs false
open Go.RowKit
section
variable {P : Program} {G : Nat → Option Obj}
def topsAt : List Nat → List V → List V
  | [], t => t
  | d :: r, t => topsAt r (upd (.c .top) t d)
end
end Go.AE
namespace Go.AE
set_option linter.unusedVariables false
set_option linter.unusedSimpArgs false
open Go.RowKit
section
variable {P : Program} {G : Nat → Option Obj}
structure MA where
  n : Nat
  tm : TypeId
  ts : TypeId
  r : TypeId × TypeId × Nat
  bytes : Nat
  z : List PV
  sm : Nat
  sk : Nat
  sy : Nat
  dE : Nat
  d0 : Nat
  dA : Nat
  d1 : Nat
def MA.ds (x : MA) : List Nat := [x.dE, x.d0, x.dA, x.d1]
structure MAOK (P : Program) (ops : Array Oper) (x : MA) : Prop where
  size : ops.size = x.n + 5
  oE : ∃ o, ops[x.n]? = some o ∧ o.op = .mapEntry x.tm (.tmp x.sm) (.tmp x.sk) ∧ o.dst = some x.dE ∧ o.guard = none
  o0 : ∃ o, ops[x.n + 1]? = some o ∧ o.op = .extract (.tmp x.dE) 0 ∧ o.dst = some x.d0 ∧ o.guard = none
  oA : ∃ o, ops[x.n + 2]? = some o ∧ o.op = .call { callee := .builtin .append, args := #[.tmp x.d0, .tmp x.sy], argTypes := #[x.ts, x.ts] } ∧ o.dst = some x.dA ∧ o.guard = none
  o1 : ∃ o, ops[x.n + 3]? = some o ∧ o.op = .extract (.tmp x.dE) 1 ∧ o.dst = some x.d1 ∧ o.guard = none
  oS : ∃ o, ops[x.n + 4]? = some o ∧ o.op = .entryStore x.tm (.tmp x.sm) (.tmp x.d1) (.tmp x.dA) ∧ o.dst = none ∧ o.guard = none
  back : ∀ i o, ops[i]? = some o → ∀ e ∈ o.after, Region.binds .any e = true → e.on < i
  w10 : Region.waitsFor .any ops (x.n + 1) x.n = true
  w21 : Region.waitsFor .any ops (x.n + 2) (x.n + 1) = true
  w30 : Region.waitsFor .any ops (x.n + 3) x.n = true
  w42 : Region.waitsFor .any ops (x.n + 4) (x.n + 2) = true
  w43 : Region.waitsFor .any ops (x.n + 4) (x.n + 3) = true
  dE0 : x.dE ≠ x.d0
  dEA : x.dE ≠ x.dA
  dE1 : x.dE ≠ x.d1
  d0A : x.d0 ≠ x.dA
  d01 : x.d0 ≠ x.d1
  dA1 : x.dA ≠ x.d1
  smN : x.sm ∉ x.ds
  skN : x.sk ∉ x.ds
  syN : x.sy ∉ x.ds
  hm : maplO P x.tm = some x.r
  ht : P.underlying x.ts = some (.slice x.r.2.1)
  hsz : sizeO P x.r.2.1 = some x.r.2.2
  hby : bytesO P x.r.2.1 = some x.bytes
  hz : zeroO P x.r.2.1 = some x.z
def hOpen (ok : Value → Bool) (ty : TypeId) (sz : Nat) (g : Value → Nat × (Nat → Nat → PV)) (kv : Value) (id : Nat) (h : List AO) : List AO :=
  snoc (.row ty sz (g kv).1 fun e o => .p ((g kv).2 e o)) (upd (.mapl ok ty sz g (some (kv, .sl h.length sz 0 (g kv).1))) h id)
def hApp (ok : Value → Bool) (ty : TypeId) (sz : Nat) (g : Value → Nat × (Nat → Nat → PV)) (kv : Value) (id : Nat) (h : List AO) (m : Nat) (gy : Nat → Nat → C) : List AO :=
  snoc (.row ty sz ((g kv).1 + m) (appF (g kv).1 (fun e o => .p ((g kv).2 e o)) gy)) (upd .gone (hOpen ok ty sz g kv id h) h.length)
structure MS (G : Nat → Option Obj) (x : MA) (ok : Value → Bool) (ty : TypeId) (sz : Nat) (g : Value → Nat × (Nat → Nat → PV)) (kv : Value) (id : Nat) (h : List AO) (m : Nat) (gy : Nat → Nat → C) (t : List V) (β0 : Bt) (R0 : Nat → Prop) (w0 : World) (x0 xA x1 : Bool) (a : Act) (w : World) : Prop where
  ex : ∃ (β : Bt) (R : Nat → Prop) (b N : Nat) (v : Value) (s : Nat) (es : Array MapEntry) (clock j : Nat) (e : MapEntry), Sim G β R ⟨topsAt x.ds t, match xA with | true => hApp ok ty sz g kv id h m gy | false => hOpen ok ty sz g kv id h⟩ a w ∧ Fr β0 R0 w0 β R w ∧ (∀ b, R0 b → R b) ∧ β id = some (b, N) ∧
    w.heap[b]? = some (.map es clock) ∧ BornOK es clock ∧ es.toList[j]? = some e ∧ e.key = kv ∧ e.born = s ∧ a.tmps[x.dE]? = some (.tuple #[v, .int .i64 (s : Nat)]) ∧ (x0 = true → a.tmps[x.d0]? = some v) ∧ (x1 = true → a.tmps[x.d1]? = some (.int .i64 (s : Nat))) ∧
    (xA = false → CR β R w (.sl h.length sz 0 (g kv).1) v) ∧ (xA = true → ∃ u, a.tmps[x.dA]? = some u ∧ CR β R w (.sl (h.length + 1) sz 0 ((g kv).1 + m)) u)
variable {x : MA} {ops : Array Oper} {ok : Value → Bool} {ty : TypeId} {sz : Nat} {g : Value → Nat × (Nat → Nat → PV)} {kv : Value} {id : Nat} {h : List AO} {m : Nat} {gy : Nat → Nat → C} {t : List V} {β0 : Bt} {R0 : Nat → Prop} {w0 w : World} {a : Act} {Q : Exit → Act → World → Prop} {K : Act → World → Prop} {x0 xA x1 : Bool}
def isRaw : ACode → Bool
  | .raw _ => true
  | _ => false
theorem cReg_raw {ops : Array Oper} {draw : Bool} {c : ACode} (hc : cReg P ops draw = some c) : isRaw c = false := by
  cases draw with
  | false =>
    simp only [cReg, Option.map_eq_some_iff] at hc
    obtain ⟨al, _, rfl⟩ := hc
    rfl
  | true =>
    simp only [cReg] at hc
    split at hc
    · simp only [Option.bind_eq_bind, Option.bind_eq_some_iff, Option.pure_def, Option.some.injEq] at hc
      obtain ⟨al, _, hc⟩ := hc
      split at hc
      · injection hc with hc; subst hc; rfl
      · split at hc
        · injection hc with hc; subst hc; rfl
        · cases hc
    · cases hc
theorem ExA.raw {id : Nat} {ops : Array Oper} {draw : Bool} {st : St} {K : X → St → Prop} (h : Ex P G (.region id ops draw) st K) : ExA P G (.raw (.region id ops draw)) st K := by
  refine ExA.core fun c hns hc => ?_
  cases c with
  | scope c' => exact absurd rfl (hns c')
  | region id' ops' draw' =>
    simp only [cCode] at hc
    split at hc
    · rename_i c1 hc1
      injection hc with hc
      subst hc
      cases cReg_raw hc1
    · injection hc with hc
      injection hc with hc
      injection hc with e1 e2 e3
      subst e1; subst e2; subst e3
      exact h
  | seq c1 c2 => cases h2 : cCode P c1 <;> cases h3 : cCode P c2 <;> simp [cCode, h2, h3] at hc
  | cond y c1 c2 => cases h1 : cX y <;> cases h2 : cCode P c1 <;> cases h3 : cCode P c2 <;> simp [cCode, h1, h2, h3] at hc
  | block id c => cases h1 : cCode P c <;> simp [cCode, h1] at hc
  | loop c => cases h1 : cCode P c <;> simp [cCode, h1] at hc
  | _ => simp [cCode] at hc
end
end Go.AE
namespace Go.AE
set_option linter.unusedVariables false
set_option linter.unusedSimpArgs false
open Go.RowKit Go.Sort
section
variable {P : Program} {G : Nat → Option Obj} {β : Bt} {R : Nat → Prop} {w w' : World} {h : List AO}
end
end Go.AE
namespace Go.AE
set_option linter.unusedVariables false
set_option linter.unusedSimpArgs false
open Go.RowKit Go.Sort
section
variable {P : Program} {G : Nat → Option Obj} {β : Bt} {R : Nat → Prop} {w w' : World} {h : List AO} {st : St}
end
section
variable {P : Program} {G : Nat → Option Obj} {β : Bt} {R : Nat → Prop} {w : World} {h : List AO}
end
end Go.AE
namespace Go.AE
set_option linter.unusedVariables false
set_option linter.unusedSimpArgs false
open Go.RowKit
section
variable {P : Program} {G : Nat → Option Obj}
end
end Go.AE
namespace Go.AE
set_option linter.unusedVariables false
set_option linter.unusedSimpArgs false
open Go.Proofs
def aroundZ (n m : Int) : Int := (if n < 0 then -(n + 1) else n) % m
def letterB (n : Int) : Bool := decide (97 ≤ n) && decide (n ≤ 122)
def mAround : Mod
  | [.c (.p (.i .i64 n)), .c (.p (.i .i64 m))] => some (inR .i64 n ∧ 0 < m, iV (aroundZ n m))
  | _ => none
def mLetter : Mod
  | [.c (.p (.i .u8 n))] => some (True, bV (letterB n))
  | _ => none
def ext0 : Ext := extOf []
theorem tAround (n m : Int) : exT ext0 (codeOf Tryz.prog Tryz.f5) (st0 Tryz.f5 [iV n, iV m]) (endF [] [] (resOf Tryz.prog Tryz.f5)) = bT (decide (n < 0)) (.rq (inR IntKind.i64 (n + 1)) (.rq (inR IntKind.i64 (-(n + 1))) (.rq (0 ≤ -(n + 1) ∧ 0 < m) (.done .ret (St.mk [V.c (C.p (PV.i IntKind.i64 (-(n + 1) % m)))] [])))))
 (.rq (0 ≤ n ∧ 0 < m) (.done .ret (St.mk [V.c (C.p (PV.i IntKind.i64 (n % m)))] []))) := by kernel_rfl
theorem tLetter (n : Int) : exT ext0 (codeOf Tryz.prog Tryz.f28) (st0 Tryz.f28 [.c (.p (.i .u8 n))]) (endF [] [] (resOf Tryz.prog Tryz.f28)) = bT (decide (97 ≤ n)) (.done .ret (St.mk [V.c (C.p (PV.b (decide (n ≤ 122))))] [])) (.done .ret (St.mk [V.c (C.p (PV.b false))] [])) := by kernel_rfl
section
variable {G : Nat → Option Obj}
theorem ext0_sound {P : Program} : SoundExt P G ext0 := extOf_sound (by simp)
theorem okAround : ModOK Tryz.prog G 5 mAround := by
  intro args p v hm hp h
  unfold mAround at hm
  split at hm
  · rename_i n m
    injection hm with hm
    injection hm with e1 e2
    subst e1; subst e2
    obtain ⟨hn, hm⟩ := hp
    simp only [inR] at hn
    refine fn_T ext0_sound Tryz.func5 (by kernel_rfl) rfl (tAround n m) ?_ h
    simp only [holds_bT, holds_rq, holds_done, KF]
    refine ⟨fun h1 => ?_, fun h1 => ?_⟩
    · have h1 : n < 0 := by simpa using h1
      refine ⟨by simp only [inR]; omega, by simp only [inR]; omega, by omega, _, rfl, VLe.of_eq ?_⟩
      unfold aroundZ; rw [if_pos h1]; rfl
    · have h1 : ¬ n < 0 := by simpa using h1
      refine ⟨by omega, _, rfl, VLe.of_eq ?_⟩
      unfold aroundZ; rw [if_neg h1]; rfl
  · cases hm
theorem okLetter : ModOK Tryz.prog G 28 mLetter := by
  intro args p v hm hp h
  unfold mLetter at hm
  split at hm
  · rename_i n
    injection hm with hm
    injection hm with e1 e2
    subst e1; subst e2
    refine fn_T ext0_sound Tryz.func28 (by kernel_rfl) rfl (tLetter n) ?_ h
    simp only [holds_bT, holds_rq, holds_done, KF]
    refine ⟨fun h1 => ?_, fun h1 => ?_⟩
    · refine ⟨_, rfl, VLe.of_eq ?_⟩
      unfold letterB; rw [h1]; rfl
    · refine ⟨_, rfl, VLe.of_eq ?_⟩
      unfold letterB; rw [h1]; rfl
  · cases hm
end
end Go.AE
