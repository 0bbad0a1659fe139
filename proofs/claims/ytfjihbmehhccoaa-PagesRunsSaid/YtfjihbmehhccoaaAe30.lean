/- AE, part 30: calls of functions whose arguments are lists that may still be written and whose result is plain data or a new list of numbers, strings, Bools. -/
import Derived.Test.YtfjihbmehhccoaaAe28
import Derived.Test.YtfjihbmehhccoaaAe24
namespace Go.AE
set_option linter.unusedVariables false
set_option linter.unusedSimpArgs false
open Go.RowKit
/-- A cell as it reads now. -/
def vwC (h : List AO) (c : C) (k : C → Tr) : Tr := match c with
  | .p x => k (.p x)
  | .sl id sz off len => match nth .gone h id with
    | .row _ sz' n f => chk (Nat.beq sz sz') (.rq (off + len ≤ n ∧ ∀ e o, e < n → o < sz → isF (f e o) = true) (k (.p (.l sz len fun e o => unP (f (e + off) o)))))
    | _ => .fail
  | _ => .fail
def vwCs (h : List AO) : List C → (List C → Tr) → Tr
  | [], k => k []
  | c :: r, k => vwC h c fun c' => vwCs h r fun r' => k (c' :: r')
def vwV (h : List AO) (v : V) (k : V → Tr) : Tr := match v with
  | .c x => vwC h x fun x' => k (.c x')
  | .a cs => vwCs h cs fun cs' => k (.a cs')
  | .t _ => .fail
def vwVs (h : List AO) : List V → (List V → Tr) → Tr
  | [], k => k []
  | v :: r, k => vwV h v fun v' => vwVs h r fun r' => k (v' :: r')
def scP : PV → Bool
  | .b _ => true
  | .i _ _ => true
  | .s _ => true
  | .z _ => true
  | _ => false
def scC : C → Bool
  | .p x => scP x
  | _ => false
def scCs : List C → Bool
  | [] => true
  | c :: r => scC c && scCs r
def scV1 : V1 → Bool
  | .c x => scC x
  | .a cs => scCs cs
def scV1s : List V1 → Bool
  | [] => true
  | c :: r => scV1 c && scV1s r
def scV : V → Bool
  | .c x => scC x
  | .a cs => scCs cs
  | .t vs => scV1s vs
def mutK (m : ModH) (h : List AO) (k : V → List AO → Tr) (args : List V) : Tr := match m args [] with
  | some (p, v, []) => .rq p (chk (scV v) (k v h))
  | some (p, .c (.sl 0 sz 0 n), [.row ty sz' n' f]) => chk (Nat.beq sz sz') (.rq (p ∧ n = n' ∧ ∀ e o, e < n' → o < sz → scC (f e o) = true) (k (.c (.sl (lenL h) sz 0 n)) (snoc (.row ty sz' n' f) h)))
  | _ => .fail
/-- Function f0 by its model, called with lists that may still be written. -/
def mutX (f0 : FuncId) (m : ModH) (rest : Ext) : Ext := fun f args h k => match Nat.beq f0 f with
  | true => vwVs h args (mutK m h k)
  | false => rest f args h k
section
variable {P : Program} {G : Nat → Option Obj} {β : Bt} {R : Nat → Prop} {w : World} {h : List AO}
/-- All that there is may be read. -/
abbrev allR (w : World) : Nat → Prop := fun b => b < w.heap.size
theorem chk_holds {b : Bool} {t : Tr} {K : X → St → Prop} : (chk b t).holds P G K ↔ b = true ∧ t.holds P G K := by
  cases b <;> simp [chk, Tr.holds]
theorem vwC_sound (hh : HS G β R w h) {c : C} {u : Value} (hc : CR β R w c u) {k : C → Tr} {K : X → St → Prop} (hk : (vwC h c k).holds P G K) : ∃ c', CR Bt.nil (allR w) w c' u ∧ (k c').holds P G K := by
  unfold vwC at hk
  split at hk
  · rename_i x
    exact ⟨.p x, PR.keep (R' := allR w) hh.rlt (fun _ _ => rfl) x hc, hk⟩
  · rename_i id sz off len
    split at hk
    · rename_i ty sz' n f hid
      rw [chk_holds] at hk
      obtain ⟨h1, ⟨h2, h3⟩, h4⟩ := hk
      obtain rfl := Nat.eq_of_beq_eq_true h1
      obtain ⟨β', R', k1, k2, k3, k4⟩ := frz_core hh hid h3
      exact ⟨.p (.l sz len fun e o => unP (f (e + off) o)), PR.keep (R' := allR w) k1.rlt (fun _ _ => rfl) _ (k4 off len u h2 hc), h4⟩
    · exact hk.elim
  · exact hk.elim
theorem vwCs_sound (hh : HS G β R w h) : ∀ {cs : List C} {us : List Value}, All2 (CR β R w) cs us → ∀ {k : List C → Tr} {K : X → St → Prop}, (vwCs h cs k).holds P G K → ∃ cs', All2 (CR Bt.nil (allR w) w) cs' us ∧ (k cs').holds P G K
  | [], [], _, k, K, hk => ⟨[], trivial, hk⟩
  | [], _ :: _, h, _, _, _ => h.elim
  | _ :: _, [], h, _, _, _ => h.elim
  | c :: r, u :: us, hc, k, K, hk => by
    obtain ⟨c', h1, h2⟩ := vwC_sound hh hc.1 hk
    obtain ⟨r', h3, h4⟩ := vwCs_sound hh hc.2 h2
    exact ⟨c' :: r', ⟨h1, h3⟩, h4⟩
theorem vwV_sound (hh : HS G β R w h) {v : V} {u : Value} (hc : VR β R w v u) {k : V → Tr} {K : X → St → Prop} (hk : (vwV h v k).holds P G K) : ∃ v', VR Bt.nil (allR w) w v' u ∧ (k v').holds P G K := by
  unfold vwV at hk
  split at hk
  · obtain ⟨c', h1, h2⟩ := vwC_sound hh hc hk
    exact ⟨.c c', h1, h2⟩
  · obtain ⟨us, h0, hc⟩ := hc
    obtain ⟨cs', h1, h2⟩ := vwCs_sound hh hc hk
    exact ⟨.a cs', ⟨us, h0, h1⟩, h2⟩
  · exact hk.elim
theorem vwVs_sound (hh : HS G β R w h) : ∀ {vs : List V} {us : List Value}, All2 (VR β R w) vs us → ∀ {k : List V → Tr} {K : X → St → Prop}, (vwVs h vs k).holds P G K → ∃ vs', All2 (VR Bt.nil (allR w) w) vs' us ∧ (k vs').holds P G K
  | [], [], _, k, K, hk => ⟨[], trivial, hk⟩
  | [], _ :: _, h, _, _, _ => h.elim
  | _ :: _, [], h, _, _, _ => h.elim
  | c :: r, u :: us, hc, k, K, hk => by
    obtain ⟨c', h1, h2⟩ := vwV_sound hh hc.1 hk
    obtain ⟨r', h3, h4⟩ := vwVs_sound hh hc.2 h2
    exact ⟨c' :: r', ⟨h1, h3⟩, h4⟩
theorem scP_any {x : PV} {u : Value} {R' : Nat → Prop} {w' : World} (hx : scP x = true) (h : PR R w x u) : PR R' w' x u := by
  cases x <;> first | exact h | cases hx
theorem scC_any {x : C} {u : Value} {β' : Bt} {R' : Nat → Prop} {w' : World} (hx : scC x = true) (h : CR β R w x u) : CR β' R' w' x u := by
  cases x <;> first | exact scP_any hx h | cases hx
theorem scCs_any {β' : Bt} {R' : Nat → Prop} {w' : World} : ∀ {cs : List C} {us : List Value}, scCs cs = true → All2 (CR β R w) cs us → All2 (CR β' R' w') cs us
  | [], [], _, _ => trivial
  | [], _ :: _, _, h => h.elim
  | _ :: _, [], _, h => h.elim
  | c :: r, u :: us, hs, h => by
    simp only [scCs, Bool.and_eq_true] at hs
    exact ⟨scC_any hs.1 h.1, scCs_any hs.2 h.2⟩
theorem scV1s_any {β' : Bt} {R' : Nat → Prop} {w' : World} : ∀ {cs : List V1} {us : List Value}, scV1s cs = true → All2 (V1R β R w) cs us → All2 (V1R β' R' w') cs us
  | [], [], _, _ => trivial
  | [], _ :: _, _, h => h.elim
  | _ :: _, [], _, h => h.elim
  | c :: r, u :: us, hs, h => by
    simp only [scV1s, Bool.and_eq_true] at hs
    refine ⟨?_, scV1s_any hs.2 h.2⟩
    have h1 := h.1
    have h2 := hs.1
    cases c with
    | c x => exact scC_any h2 h1
    | a cs => obtain ⟨us, e, h1⟩ := h1; exact ⟨us, e, scCs_any h2 h1⟩
theorem scV_any {β' : Bt} {R' : Nat → Prop} {w' : World} {x : V} {u : Value} (hx : scV x = true) (h : VR β R w x u) : VR β' R' w' x u := by
  cases x with
  | c x => exact scC_any hx h
  | a cs => obtain ⟨us, e, h⟩ := h; exact ⟨us, e, scCs_any hx h⟩
  | t vs => obtain ⟨us, e, h⟩ := h; exact ⟨us, e, scV1s_any hx h⟩
theorem hs_snoc_none (hh : HS G β R w h) (x : AO) : HS G β R w (snoc x h) := by
  have hn : ∀ i y, β i = some y → nth .gone (snoc x h) i = nth .gone h i := fun i y hi => nth_snoc_lt _ _ _ (hh.dom i y hi)
  refine ⟨?_, ?_, ?_, hh.lt, hh.rlt, ?_, hh.gl, fun b ad hb => ⟨(hh.ql b ad hb).1, (hh.ql b ad hb).2.1, fun i o hi => by rw [hn i _ hi]; exact (hh.ql b ad hb).2.2 i o hi⟩⟩
  · intro i y hi
    have := hh.dom i y hi
    rw [snoc_eq, List.length_append]; omega
  · intro i j b o o' hi hj li lj
    rw [hn i _ hi] at li
    rw [hn j _ hj] at lj
    exact hh.inj i j b o o' hi hj li lj
  · intro i b o hi li
    rw [hn i _ hi] at li
    exact hh.sep i b o hi li
  · intro i b o hi
    rw [hn i _ hi]
    exact hh.obj i b o hi
theorem mutK_fn {f0 : FuncId} {m : ModH} (hm : ModHOK P G f0 m) (hh : HS G β R w h) {args' : List V} {vs : Array Value} (ha : All2 (VR Bt.nil (allR w) w) args' vs.toList) {k : V → List AO → Tr} {K : X → St → Prop} (hk : (mutK m h k args').holds P G K) :
    Calls P f0 vs w fun e w' => ∃ u β' R' x h', e = .returned u ∧ (k x h').holds P G K ∧ VR β' R' w' x u ∧ HS G β' R' w' h' ∧ Gr β R w β' R' w' ∧ ∀ i, i < h.length → β' i = β i := by
  have h0 : HS G Bt.nil (allR w) w [] := ⟨(fun _ _ h => by cases h), (fun _ _ _ _ _ h => by cases h), (fun _ _ _ h => by cases h), (fun _ _ _ h => by cases h), (fun _ h => h), (fun _ _ _ h => by cases h), fun b o hb => ⟨hh.rlt b (hh.gl b o hb).1, (hh.gl b o hb).2⟩, (fun _ _ h => by cases h)⟩
  unfold mutK at hk
  split at hk
  · rename_i p v he
    obtain ⟨hp, hk⟩ := hk
    rw [chk_holds] at hk
    obtain ⟨hs, hk⟩ := hk
    refine (hm args' [] p v [] he hp Bt.nil (allR w) w vs ha h0).mono ?_
    rintro e w' ⟨u, β1, R1, x, h1, rfl, ⟨rfl, rfl⟩, h2, _, h3, _⟩
    have hb : Below w.heap.size w w' := ⟨h3.os, h3.tape, h3.output, h3.size, fun b hb => h3.rs b hb⟩
    obtain ⟨c1, c2⟩ := hh.below hb
    exact ⟨u, β, newR R w w', x, h, rfl, hk, scV_any hs h2, c1, c2, fun _ _ => rfl⟩
  · rename_i p sz n ty sz' n' f he
    rw [chk_holds] at hk
    obtain ⟨hz, ⟨hp, rfl, hsc⟩, hk⟩ := hk
    obtain rfl := Nat.eq_of_beq_eq_true hz
    refine (hm args' [] p _ _ he hp Bt.nil (allR w) w vs ha h0).mono ?_
    rintro e w' ⟨u, β1, R1, x, h1, rfl, ⟨rfl, rfl⟩, h2, hs1, h3, _⟩
    have hb : Below w.heap.size w w' := ⟨h3.os, h3.tape, h3.output, h3.size, fun b hb => h3.rs b hb⟩
    obtain ⟨A, c, rfl, g1, g2, g3⟩ := h2
    rcases g3 with ⟨q1, q2, q3⟩ | ⟨b, N, q1, q2, q3⟩
    · obtain ⟨c1, c2⟩ := hh.below hb
      exact ⟨_, β, newR R w w', _, _, rfl, hk, ⟨A, c, rfl, g1, g2, .inl ⟨q1, q2, q3⟩⟩, hs_snoc_none c1 _, c2, fun _ _ => rfl⟩
    · have hg : w.heap.size ≤ b := by
        rcases h3.ex b (.inl ⟨0, N, q1⟩) with h | h
        · exact absurd h Bt.nil_has
        · exact h
      have hob : ∀ β2 : Bt, OR β2 R w' (.row ty sz n f) b N := fun β2 => by
        obtain ⟨cs, k1, k2, k3, k4⟩ := hs1.obj 0 b N q1
        refine ⟨cs, k1, k2, k3, fun e o he ho => ?_⟩
        obtain ⟨u, r1, r2⟩ := k4 e o he ho
        refine ⟨u, r1, CRo.of ?_ (scC_any (hsc e o he ho) r2.cr)⟩
        have := hsc e o he ho
        cases hf : f e o <;> first | rfl | (rw [hf] at this; cases this)
      obtain ⟨c1, c2⟩ := hs_caller_row (x := .row ty sz n f) hh (fr_row (N := N) hh.rlt hb hg) (fun _ h => h) (hs_row hh hb hg (hs1.lt 0 b N q1) (hob _)) rfl (id := 0) (b := b) (N := N) (by unfold b1; rfl) rfl (fun β2 _ => hob β2)
      refine ⟨_, bn β h.length (b, N), R, _, _, rfl, hk, ⟨A, c, rfl, g1, g2, .inr ⟨b, N, ?_, q2, q3⟩⟩, c1, c2, fun i hi => bn_other _ (by omega)⟩
      rw [lenL_eq]
      exact bn_same _ _ _
  · exact hk.elim
end
section
variable {P : Program} {G : Nat → Option Obj}
theorem vwC_val {h : List AO} {c : C} {k : C → Tr} {K : X → St → Prop} (hk : (vwC h c k).holds P G K) : ∃ c', (k c').holds P G K ∧ ∀ (k' : C → Tr) (K' : X → St → Prop), (k' c').holds P G K' → (vwC h c k').holds P G K' := by
  unfold vwC at hk ⊢
  split at hk
  · exact ⟨_, hk, fun k' K' h => h⟩
  · split at hk
    · rw [chk_holds] at hk
      obtain ⟨h1, h2, h3⟩ := hk
      exact ⟨_, h3, fun k' K' h => by rw [chk_holds]; exact ⟨h1, h2, h⟩⟩
    · exact hk.elim
  · exact hk.elim
theorem vwCs_val {h : List AO} : ∀ {cs : List C} {k : List C → Tr} {K : X → St → Prop}, (vwCs h cs k).holds P G K → ∃ cs', (k cs').holds P G K ∧ ∀ (k' : List C → Tr) (K' : X → St → Prop), (k' cs').holds P G K' → (vwCs h cs k').holds P G K'
  | [], k, K, hk => ⟨[], hk, fun _ _ h => h⟩
  | c :: r, k, K, hk => by
    obtain ⟨c', h1, h2⟩ := vwC_val hk
    obtain ⟨r', h3, h4⟩ := vwCs_val h1
    exact ⟨c' :: r', h3, fun k' K' hq => h2 (fun c' => vwCs h r fun r' => k' (c' :: r')) K' (h4 (fun r' => k' (c' :: r')) K' hq)⟩
theorem vwV_val {h : List AO} {c : V} {k : V → Tr} {K : X → St → Prop} (hk : (vwV h c k).holds P G K) : ∃ c', (k c').holds P G K ∧ ∀ (k' : V → Tr) (K' : X → St → Prop), (k' c').holds P G K' → (vwV h c k').holds P G K' := by
  unfold vwV at hk ⊢
  split at hk
  · obtain ⟨c', h1, h2⟩ := vwC_val hk
    exact ⟨_, h1, fun k' K' h => h2 (fun x => k' (.c x)) K' h⟩
  · obtain ⟨c', h1, h2⟩ := vwCs_val hk
    exact ⟨_, h1, fun k' K' h => h2 (fun x => k' (.a x)) K' h⟩
  · exact hk.elim
theorem vwVs_val {h : List AO} : ∀ {cs : List V} {k : List V → Tr} {K : X → St → Prop}, (vwVs h cs k).holds P G K → ∃ cs', (k cs').holds P G K ∧ ∀ (k' : List V → Tr) (K' : X → St → Prop), (k' cs').holds P G K' → (vwVs h cs k').holds P G K'
  | [], k, K, hk => ⟨[], hk, fun _ _ h => h⟩
  | c :: r, k, K, hk => by
    obtain ⟨c', h1, h2⟩ := vwV_val hk
    obtain ⟨r', h3, h4⟩ := vwVs_val h1
    exact ⟨c' :: r', h3, fun k' K' hq => h2 (fun c' => vwVs h r fun r' => k' (c' :: r')) K' (h4 (fun r' => k' (c' :: r')) K' hq)⟩
theorem mutK_val {m : ModH} {h : List AO} {k : V → List AO → Tr} {args : List V} {K : X → St → Prop} (hk : (mutK m h k args).holds P G K) : ∃ v h', (k v h').holds P G K ∧ ∀ (k' : V → List AO → Tr) (K' : X → St → Prop), (k' v h').holds P G K' → (mutK m h k' args).holds P G K' := by
  unfold mutK at hk ⊢
  split at hk
  · obtain ⟨h1, h2⟩ := hk
    rw [chk_holds] at h2
    exact ⟨_, _, h2.2, fun k' K' h => ⟨h1, by rw [chk_holds]; exact ⟨h2.1, h⟩⟩⟩
  · rw [chk_holds] at hk
    obtain ⟨h1, h2, h3⟩ := hk
    exact ⟨_, _, h3, fun k' K' h => by rw [chk_holds]; exact ⟨h1, h2, h⟩⟩
  · exact hk.elim
theorem mutX_sound {f0 : FuncId} {m : ModH} {rest : Ext} (hm : ModHOK P G f0 m) (hr : SoundExt P G rest) : SoundExt P G (mutX f0 m rest) := by
  refine ⟨?_, ?_⟩
  · intro f args h k K hh
    unfold mutX at hh
    split at hh
    · rename_i hb
      obtain rfl := Nat.eq_of_beq_eq_true hb
      intro β R w vs ha hs
      obtain ⟨args', h1, h2⟩ := vwVs_sound hs ha hh
      exact mutK_fn hm hs h1 h2
    · exact hr.fn _ _ _ _ _ hh
  · intro f args h k K hh
    unfold mutX at hh ⊢
    split at hh
    · obtain ⟨args', h1, h2⟩ := vwVs_val hh
      obtain ⟨v, h', h3, h4⟩ := mutK_val h1
      exact ⟨v, h', h3, fun k' K' hk => h2 _ K' (h4 k' K' hk)⟩
    · exact hr.val _ _ _ _ _ hh
end
end Go.AE
