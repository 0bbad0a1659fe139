/- AE, part 29: a row that is not written any more, frozen wherever slots and structs speak of it. -/
import Derived.Test.YtaofgmfalldcoaaAe28
namespace Go.AE
set_option linter.unusedVariables false
set_option linter.unusedSimpArgs false
open Go.RowKit
def fzlC (id sz : Nat) (F : Nat → Nat → PV) : C → C
  | .sl i s off len => match Nat.beq i id && Nat.beq s sz with
    | true => .p (.l sz len fun e o => F (e + off) o)
    | false => .sl i s off len
  | x => x
def fzlCs (id sz : Nat) (F : Nat → Nat → PV) : List C → List C
  | [] => []
  | x :: r => fzlC id sz F x :: fzlCs id sz F r
def fzlV (id sz : Nat) (F : Nat → Nat → PV) : V → V
  | .c x => .c (fzlC id sz F x)
  | .a cs => .a (fzlCs id sz F cs)
  | .t vs => .t vs
def fzlT (id sz : Nat) (F : Nat → Nat → PV) : List V → List V
  | [] => []
  | x :: r => fzlV id sz F x :: fzlT id sz F r
def fzlO (id sz : Nat) (F : Nat → Nat → PV) : AO → AO
  | .cells ty vs => .cells ty (fzlCs id sz F vs)
  | x => x
def fzlH (id sz : Nat) (F : Nat → Nat → PV) : List AO → List AO
  | [] => []
  | x :: r => fzlO id sz F x :: fzlH id sz F r
/-- The slices of the row. -/
def ocC (id sz : Nat) : C → List (Nat × Nat)
  | .sl i s off len => match Nat.beq i id && Nat.beq s sz with
    | true => [(off, len)]
    | false => []
  | _ => []
def ocCs (id sz : Nat) : List C → List (Nat × Nat) → List (Nat × Nat)
  | [], l => l
  | x :: r, l => match ocC id sz x with
    | [] => ocCs id sz r l
    | p :: _ => p :: ocCs id sz r l
def ocT (id sz : Nat) : List V → List (Nat × Nat) → List (Nat × Nat)
  | [], l => l
  | .c x :: r, l => ocCs id sz [x] (ocT id sz r l)
  | .a cs :: r, l => ocCs id sz cs (ocT id sz r l)
  | .t _ :: r, l => ocT id sz r l
def ocH (id sz : Nat) : List AO → List (Nat × Nat) → List (Nat × Nat)
  | [], l => l
  | .cells _ vs :: r, l => ocCs id sz vs (ocH id sz r l)
  | _ :: r, l => ocH id sz r l
def occS (id sz : Nat) (st : St) : List (Nat × Nat) := ocT id sz st.t (ocH id sz st.h [])
def frzS (id sz : Nat) (F : Nat → Nat → PV) (st : St) : St := ⟨fzlT id sz F st.t, fzlH id sz F (upd .gone st.h id)⟩
theorem ocCs_mono {id sz : Nat} {p : Nat × Nat} : ∀ {cs : List C} {l : List (Nat × Nat)}, p ∈ l → p ∈ ocCs id sz cs l
  | [], _, h => h
  | x :: r, l, h => by
    unfold ocCs
    split
    · exact ocCs_mono h
    · exact List.mem_cons_of_mem _ (ocCs_mono h)
theorem ocCs_in {id sz off len : Nat} : ∀ {cs : List C} {l : List (Nat × Nat)}, C.sl id sz off len ∈ cs → (off, len) ∈ ocCs id sz cs l
  | x :: r, l, h => by
    unfold ocCs
    rcases List.mem_cons.1 h with rfl | h
    · have : ocC id sz (.sl id sz off len) = [(off, len)] := by show (match Nat.beq id id && Nat.beq sz sz with | true => [(off, len)] | false => []) = _; rw [Nat.beq_refl, Nat.beq_refl]; rfl
      rw [this]
      exact List.mem_cons_self ..
    · split
      · exact ocCs_in h
      · exact List.mem_cons_of_mem _ (ocCs_in h)
theorem ocT_mono {id sz : Nat} {p : Nat × Nat} : ∀ {t : List V} {l : List (Nat × Nat)}, p ∈ l → p ∈ ocT id sz t l
  | [], _, h => h
  | .c _ :: r, l, h => ocCs_mono (ocT_mono h)
  | .a _ :: r, l, h => ocCs_mono (ocT_mono h)
  | .t _ :: r, l, h => by unfold ocT; exact ocT_mono h
def inV (x : C) : V → Prop
  | .c y => x = y
  | .a cs => x ∈ cs
  | .t _ => False
theorem ocT_in {id sz off len : Nat} : ∀ {t : List V} {l : List (Nat × Nat)} {v : V}, v ∈ t → inV (.sl id sz off len) v → (off, len) ∈ ocT id sz t l
  | x :: r, l, v, h, hv => by
    rcases List.mem_cons.1 h with rfl | h1
    · cases v with
      | c y => cases hv; exact ocCs_in (List.mem_cons_self ..)
      | a cs => exact ocCs_in hv
      | t _ => exact hv.elim
    · cases x with
      | c y => exact ocCs_mono (ocT_in h1 hv)
      | a cs => exact ocCs_mono (ocT_in h1 hv)
      | t _ => unfold ocT; exact ocT_in h1 hv
theorem ocH_in {id sz off len : Nat} {ty : TypeId} {vs : List C} : ∀ {h : List AO} {l : List (Nat × Nat)}, AO.cells ty vs ∈ h → .sl id sz off len ∈ vs → (off, len) ∈ ocH id sz h l
  | x :: r, l, h, hv => by
    rcases List.mem_cons.1 h with rfl | h1
    · exact ocCs_in hv
    · cases x with
      | cells ty' vs' => exact ocCs_mono (ocH_in h1 hv)
      | _ => unfold ocH; exact ocH_in h1 hv
theorem fzlH_eq (id sz : Nat) (F : Nat → Nat → PV) : ∀ (h : List AO), fzlH id sz F h = h.map (fzlO id sz F)
  | [] => rfl
  | _ :: r => by rw [fzlH, fzlH_eq id sz F r]; rfl
section
variable {G : Nat → Option Obj} {st : St}
theorem fzlC_ok {β β' : Bt} {R R' : Nat → Prop} {w : World} {id sz n : Nat} {f : Nat → Nat → C} {F : Nat → Nat → PV} (hk : Keeps β R w β' R' w)
    (hF : ∀ e o, e < n → o < sz → PLe (unP (f e o)) (F e o))
    (hval : ∀ off len u, off + len ≤ n → CR β R w (.sl id sz off len) u → PR R' w (.l sz len fun e o => unP (f (e + off) o)) u) {x : C} {u : Value} (hc : ∀ off len, x = .sl id sz off len → off + len ≤ n) (h : CR β R w x u) : CR β' R' w (fzlC id sz F x) u := by
  unfold fzlC
  split
  · rename_i i s off len
    split
    · rename_i e
      rw [Bool.and_eq_true] at e
      obtain rfl := Nat.eq_of_beq_eq_true e.1
      obtain rfl := Nat.eq_of_beq_eq_true e.2
      exact PLe.l (fun e o he ho => hF (e + off) o (by have := hc off len rfl; omega) ho) R' w u (hval off len u (hc off len rfl) h)
    · exact CR.keep hk h
  · exact CR.keep hk h
theorem fzlCs_ok {β β' : Bt} {R R' : Nat → Prop} {w : World} {id sz n : Nat} {f : Nat → Nat → C} {F : Nat → Nat → PV} (hk : Keeps β R w β' R' w)
    (hF : ∀ e o, e < n → o < sz → PLe (unP (f e o)) (F e o))
    (hval : ∀ off len u, off + len ≤ n → CR β R w (.sl id sz off len) u → PR R' w (.l sz len fun e o => unP (f (e + off) o)) u) : ∀ {cs : List C} {us : List Value}, (∀ x ∈ cs, ∀ off len, x = .sl id sz off len → off + len ≤ n) → All2 (CR β R w) cs us → All2 (CR β' R' w) (fzlCs id sz F cs) us
  | [], [], _, _ => trivial
  | [], _ :: _, _, h => h.elim
  | _ :: _, [], _, h => h.elim
  | _ :: _, _ :: _, hc, h => ⟨fzlC_ok hk hF hval (hc _ (List.mem_cons_self ..)) h.1, fzlCs_ok hk hF hval (fun x hx => hc x (List.mem_cons_of_mem _ hx)) h.2⟩
theorem fzlT_ok {β β' : Bt} {R R' : Nat → Prop} {w : World} {id sz n : Nat} {f : Nat → Nat → C} {F : Nat → Nat → PV} (hk : Keeps β R w β' R' w)
    (hF : ∀ e o, e < n → o < sz → PLe (unP (f e o)) (F e o))
    (hval : ∀ off len u, off + len ≤ n → CR β R w (.sl id sz off len) u → PR R' w (.l sz len fun e o => unP (f (e + off) o)) u) : ∀ {vs : List V} {us : List Value}, (∀ v ∈ vs, ∀ off len, inV (.sl id sz off len) v → off + len ≤ n) → All2 (VR β R w) vs us → All2 (VR β' R' w) (fzlT id sz F vs) us
  | [], [], _, _ => trivial
  | [], _ :: _, _, h => h.elim
  | _ :: _, [], _, h => h.elim
  | v :: _, _ :: _, hc, h => ⟨by
      cases v with
      | c x => exact fzlC_ok hk hF hval (fun off len e => hc _ (List.mem_cons_self ..) off len e.symm) h.1
      | a cs =>
        obtain ⟨us, h1, h2⟩ := h.1
        exact ⟨us, h1, fzlCs_ok hk hF hval (fun x hx off len e => hc _ (List.mem_cons_self ..) off len (e ▸ hx)) h2⟩
      | t vs => exact VR.keep hk h.1, fzlT_ok hk hF hval (fun x hx => hc x (List.mem_cons_of_mem _ hx)) h.2⟩
theorem fzlO_live (id sz : Nat) (F : Nat → Nat → PV) (x : AO) : (fzlO id sz F x).live = x.live := by cases x <;> rfl
theorem nth_fzlH (id sz : Nat) (F : Nat → Nat → PV) : ∀ (h : List AO) (i : Nat), nth .gone (fzlH id sz F h) i = fzlO id sz F (nth .gone h i)
  | [], _ => rfl
  | _ :: _, 0 => rfl
  | _ :: r, i + 1 => nth_fzlH id sz F r i
theorem nth_mem {h : List AO} {i : Nat} (hl : (nth .gone h i).live = true) : nth .gone h i ∈ h := by
  rw [nth_eq] at hl ⊢
  by_cases hi : i < h.length
  · simp [List.getD_eq_getElem?_getD, List.getElem?_eq_getElem hi]
  · rw [List.getD_eq_getElem?_getD, List.getElem?_eq_none (by omega)] at hl
    cases hl
theorem weak_frzL {id : Nat} {ty : TypeId} {sz n : Nat} {f : Nat → Nat → C} (F : Nat → Nat → PV) (hid : nth .gone st.h id = .row ty sz n f) (hf : ∀ e o, e < n → o < sz → isF (f e o) = true) (hF : ∀ e o, e < n → o < sz → PLe (unP (f e o)) (F e o))
    {ps : List (Nat × Nat)} (hp : occS id sz st = ps) (ho : ∀ p ∈ ps, p.1 + p.2 ≤ n) : WeakS G st (frzS id sz F st) := by
  subst hp
  intro β R a w hs
  obtain ⟨β', R', k1, k2, k3, k4⟩ := frz_core hs.hs hid hf
  refine ⟨β', R', ⟨hs.df, fzlT_ok k2.keeps hF k4 (fun v hv off len hi => ho (off, len) (ocT_in hv hi)) hs.tm, ?_⟩, k2.toFr, k2.rm⟩
  have hlen : (fzlH id sz F (upd .gone st.h id)).length = (upd .gone st.h id).length := by rw [fzlH_eq, List.length_map]
  refine ⟨fun i x hi => by show i < (fzlH id sz F (upd .gone st.h id)).length; rw [hlen]; exact k1.dom i x hi, ?_, ?_, k1.lt, k1.rlt, ?_, k1.gl, ?_⟩
  · intro i j b o o' hi hj li lj
    refine k1.inj i j b o o' hi hj ?_ ?_
    · have li : (nth .gone (fzlH id sz F (upd .gone st.h id)) i).live = true := li
      rwa [nth_fzlH, fzlO_live] at li
    · have lj : (nth .gone (fzlH id sz F (upd .gone st.h id)) j).live = true := lj
      rwa [nth_fzlH, fzlO_live] at lj
  · intro i b o hi li
    have li : (nth .gone (fzlH id sz F (upd .gone st.h id)) i).live = true := li
    rw [nth_fzlH, fzlO_live] at li
    exact k1.sep i b o hi li
  · intro i b o hi
    show OR β' R' w (nth .gone (fzlH id sz F (upd .gone st.h id)) i) b o
    rw [nth_fzlH]
    have h1 := k1.obj i b o hi
    by_cases e : i = id
    · subst e
      rw [nth_upd_eq _ _ _ (nth_gone hid (by simp))]
      exact trivial
    · rw [nth_upd_ne _ _ _ (fun h => e h.symm)] at h1 ⊢
      cases hx : nth .gone st.h i with
      | cells ty' vs =>
        have h0 := hs.hs.obj i b o (by rw [← k3 i]; exact hi)
        rw [hx] at h0
        obtain ⟨cs, g1, g2⟩ := h0
        refine ⟨cs, g1, fzlCs_ok k2.keeps hF k4 (fun x hx' off len e => ho (off, len) (ocT_mono (ocH_in (ty := ty') (vs := vs) ?_ (e ▸ hx')))) g2⟩
        rw [← hx]
        exact nth_mem (by rw [hx]; rfl)
      | _ => rw [hx] at h1; exact h1
  · intro b ad hq
    obtain ⟨q1, q2, q3⟩ := k1.ql b ad hq
    refine ⟨q1, q2, fun i o hi => ?_⟩
    show (nth .gone (fzlH id sz F (upd .gone st.h id)) i).live = false
    rw [nth_fzlH, fzlO_live]
    exact q3 i o hi
end
end Go.AE
