/- Pages: Ae42, Ae43, Ae46, Ae52, Ae53, as far as they are used here. -/
import Derived.Test.YtecilaemjajcnaaGreatDoorRRe
import Derived.Lib.AppendStr
import Derived.Laws.IdiomStrings
namespace Go.AE
set_option linter.unusedVariables false
set_option linter.unusedSimpArgs false
open Go.RowKit
section
variable {P : Program} {G : Nat → Option Obj} {ops : Array Oper} {al : List AI} {ext : Ext} {U : Nat → Prop} {F : St} {own : Nat → Nat → Prop}
variable {β0 β β' : Bt} {R0 R R' : Nat → Prop} {w0 w w' : World} {a : Act} {listed : Array Bool}
structure RegZ (ops : Array Oper) (al : List AI) (N : Nat) : Prop where
  back : ∀ i o, ops[i]? = some o → ∀ e ∈ o.after, Region.binds .any e = true → e.on < i
  dst : ∀ i j x y d, al[i]? = some x → al[j]? = some y → i < N → j < N → i ≠ j → x.dst = some d → y.dst ≠ some d
  dep : ∀ i j x y d, al[i]? = some x → al[j]? = some y → i < N → j < N → y.dst = some d → d ∈ x.sls → Region.waitsFor .any ops i j = true
  tl1 : ∀ i, i < N → N < ops.size → ∃ j, i < j ∧ j ≤ N ∧ Region.waitsFor .any ops j i = true
  tl2 : ∀ t, N < t → t < ops.size → Region.waitsFor .any ops t (t - 1) = true
  len : al.length = ops.size
  le : N ≤ ops.size
variable {N : Nat}
theorem reads_doneZ (hok : RegZ ops al N) {i : Nat} {ai : AI} {o : Oper} (hi : i < N) (ha : al[i]? = some ai) (ho : ops[i]? = some o) (q3 : ∀ e ∈ o.after, Region.binds .any e = true → listed.getD e.on false = true) :
    ∀ s ∈ ai.sls, ∀ j aj, j < N → al[j]? = some aj → aj.dst = some s → listed.getD j false = true := by
  intro s hs j aj hj hja hd
  obtain ⟨o', ho', e, he, hb, hon⟩ := Region.waitsFor_spec (hok.dep i j ai aj s ha hja hi hj hd hs)
  rw [ho] at ho'; injection ho' with ho'; subst ho'
  have := q3 e he hb
  rwa [hon] at this
def isIn (m : List Bool) (i : Nat) : Prop := nth false m i = true
structure StageOK (ops : Array Oper) (al : List AI) (N : Nat) (v m : List Bool) : Prop where
  mlt : ∀ i, isIn m i → i < N
  vlt : ∀ i, isIn v i → i < N
  mv : ∀ i, isIn m i → ¬ isIn v i
  hd : ∀ i ai, isIn m i → al[i]? = some ai → ai.op.hd = true
  m1 : ∀ i j x y d, (isIn v i ∨ isIn m i) → j < N → ¬ (isIn v j ∨ isIn m j) → al[i]? = some x → al[j]? = some y → y.dst = some d → d ∉ x.sls
  m2 : ∀ i j x y d, isIn v i → j < N → ¬ isIn v j → al[i]? = some x → al[j]? = some y → y.dst = some d → d ∉ x.sls
structure NextOK (ops : Array Oper) (al : List AI) (N : Nat) (u : List Bool) (n : Nat) : Prop where
  nN : n < N
  nu : ¬ isIn u n
  out : ∀ i, i < N → ¬ isIn u i → i ≠ n → ∃ j, j < i ∧ ¬ isIn u j ∧ Region.waitsFor .any ops i j = true
structure IZ (P : Program) (G : Nat → Option Obj) (ops : Array Oper) (al : List AI) (N : Nat) (ext : Ext) (u : List Bool) (F : St) (own : Nat → Nat → Prop) (β0 : Bt) (R0 : Nat → Prop) (w0 : World) (listed : Array Bool) (a : Act) (w : World) (β : Bt) (R : Nat → Prop) : Prop where
  inv : HeadInv .any ops N listed
  un : ∀ i, i < N → ¬ isIn u i → listed.getD i false = false
  dx : DX G al (isIn u) F own β0 R0 w0 listed a w β R
  opAt : ∀ i ai, isIn u i → al[i]? = some ai → listed.getD i false = false → OpAt P G ext ai F (own i) ∧ ai.op.hd = true
  od : ∀ i j id, isIn u i → isIn u j → j ≠ i → own i id → ¬ own j id
  ob : ∀ i id, isIn u i → own i id → id < F.h.length
theorem IZ.next (hext : SoundExt P G ext) (hok : RegZ ops al N) (hal : cOpers P ops ops.toList = some al) {u : List Bool} {Q : Exit → Act → World → Prop} (I : IZ P G ops al N ext u F own β0 R0 w0 listed a w β R) {i : Nat} (hi : i ∈ Region.ready .any ops listed) (hin : i < N) (hiu : isIn u i) (hul : ∀ j, isIn u j → j < N) {K : Act → World → Prop}
    (hK : ∀ a' w' β' R', IZ P G ops al N ext u F own β0 R0 w0 (listed.setIfInBounds i true) a' w' β' R' → K a' w') : wpOp P ops Q i K a w := by
  obtain ⟨q1, o, q2, q3⟩ := mem_ready.1 hi
  have his : i < ops.size := (Array.getElem?_eq_some_iff.1 q2).1
  have hun := getD_both q1
  have hil : i < listed.size := by rw [I.inv.size]; exact his
  obtain ⟨ai, ha, hco⟩ := (cOpers_get hal).2 i o (by simpa using q2)
  obtain ⟨hat, hhd⟩ := I.opAt i ai hiu ha hun
  refine I.dx.step hext hiu hil ha q2 hco hun hat (fun s hs j aj hj hja hd => reads_doneZ hok hin ha q2 q3 s hs j aj (hul j hj) hja hd) (fun j id hj hji h1 => I.od i j id hiu hj hji h1) fun a' w' β' R' hI' => hK _ _ _ _ ⟨I.inv.set hi hin, fun j hj hju => ?_, hI', fun j aj hj hja hjl => ?_, I.od, I.ob⟩
  · rw [getD_set_ne false (fun e : i = j => hju (by rw [← e]; exact hiu))]; exact I.un j hj hju
  · obtain ⟨h3, h4⟩ := getD_set_other hjl hil
    exact I.opAt j aj hj hja h3
end
end Go.AE
namespace Go.AE
set_option linter.unusedVariables false
set_option linter.unusedSimpArgs false
open Go.RowKit
section
variable {P : Program} {G : Nat → Option Obj} {ops : Array Oper} {al : List AI} {N : Nat} {S : Nat → St} {ext : Ext}
theorem last_any {Q : Exit → Act → World → Prop} {k : Nat} {o : Oper} {listed : Array Bool} {a : Act} {w : World} (hk : ops[k]? = some o) (hs : listed.size = ops.size) (hu : listed.getD k true = false) (h1 : ∀ i, i < ops.size → i ≠ k → listed.getD i false = true) (hb : ∀ e ∈ o.after, Region.binds .any e = true → e.on < k) (h : wpList P ops Q [o] a w) : wpAny P .any ops Q 1 listed a w := by
  have hks : k < ops.size := (Array.getElem?_eq_some_iff.1 hk).1
  have hrk : k ∈ Region.ready .any ops listed := mem_ready.2 ⟨hu, o, hk, fun e he hbi => by
    have := hb e he hbi
    exact h1 e.on (by omega) (by omega)⟩
  refine ⟨fun h4 => (by rw [h4] at hrk; cases hrk), fun i hi => ?_⟩
  obtain ⟨q1, oi, q2, q3⟩ := mem_ready.1 hi
  have his : i < ops.size := (Array.getElem?_eq_some_iff.1 q2).1
  have hik : i = k := Classical.byContradiction fun e => by
    have := h1 i his e
    rw [getD_both q1] at this; cases this
  subst hik
  have hw : wpOp P ops Q i (wpList P ops Q []) a w := by unfold wpOp; simp only [hk]; exact h
  refine wpOp_mono (fun a' w' h' => ⟨?_, h'⟩) hw
  rw [List.eq_nil_iff_forall_not_mem]
  intro j hj
  obtain ⟨q1, oj, q2, _⟩ := mem_ready.1 hj
  have hjs : j < ops.size := (Array.getElem?_eq_some_iff.1 q2).1
  by_cases e : i = j
  · subst e; simp [hs, hks] at q1
  · rw [getD_set_ne true e] at q1
    have := h1 j hjs (fun h => e h.symm)
    rw [getD_both q1] at this; cases this
variable {β0 : Bt} {R0 : Nat → Prop} {w0 : World}
theorem DInv.allBut (hr : Run P G ext al (N + 1) S) (hok : RegB ops al (N + 1)) {listed : Array Bool} {a : Act} {w : World} {β : Bt} {R : Nat → Prop} (hI : DInv G al (N + 1) S β0 R0 w0 listed a w β R) (h1 : ∀ i, i < N → listed.getD i false = true) (h2 : listed.getD N false = false) : Sim G β R (S N) a w := by
  have le := hr.le (i := N) (j := N + 1) (by omega) (Nat.le_refl _)
  have dm : ∀ i x, β i = some x → i < (S N).h.length := fun i x hi => by
    rcases Nat.lt_or_ge i (S N).h.length with h | h
    · exact h
    · have h3 := hI.hs.dom i x hi
      have h4 := hI.fr N (by omega) h2 i h h3
      rw [hi] at h4; cases h4
  refine ⟨hI.df, All2.of_get (by have := hI.sz; have := le.1; simp; omega) ?_, ?_⟩
  · intro s x y hx hy
    have hy : a.tmps[s]? = some y := by simpa using hy
    have hlN : N < al.length := by have := hr.len; omega
    have key : VR β R w (nth (.c .top) (S N).t s) y := by
      by_cases hd : (al[N]).dst = some s
      · have h3 := hI.s0 s y hy fun i ai hi ha hl hda => by
          have hiN : i ≠ N := fun e => by subst e; rw [h2] at hl; cases hl
          exact hok.dst i N ai al[N] s ha (List.getElem?_eq_getElem hlN) hi (by omega) hiN hda hd
        have h4 := (hr.le (i := 0) (j := N) (by omega) (by omega)).2.2.2 s fun l ai _ hl ha hda => hok.dst l N ai al[N] s ha (List.getElem?_eq_getElem hlN) (by omega) (by omega) (by omega) hda hd
        rw [h4]; exact h3
      · have h3 := hI.sl s y hy fun i ai hi ha hl => by
          have hiN : i = N := Classical.byContradiction fun e => by
            have := h1 i (by omega)
            rw [hl] at this; cases this
          subst hiN
          rw [List.getElem?_eq_getElem hlN] at ha
          injection ha with ha
          subst ha; exact hd
        have h4 := le.2.2.2 s fun l ai q1 q2 ha => by
          obtain rfl : l = N := by omega
          rw [List.getElem?_eq_getElem hlN] at ha
          injection ha with ha
          subst ha; exact hd
        rw [h4] at h3; exact h3
    rw [nth_eq, List.getD_eq_getElem?_getD, hx] at key
    exact key
  · have hb : ∀ i x, β i = some x → nth .gone (S (N + 1)).h i = nth .gone (S N).h i := fun i x hi => le.2.2.1 i (dm i x hi)
    refine ⟨dm, ?_, ?_, hI.hs.lt, hI.hs.rlt, ?_, hI.hs.gl, fun b ad hq => ⟨(hI.hs.ql b ad hq).1, (hI.hs.ql b ad hq).2.1, fun i o hi => by rw [← hb i _ hi]; exact (hI.hs.ql b ad hq).2.2 i o hi⟩⟩
    · intro i j b o o' hi hj li lj
      rw [← hb i _ hi] at li; rw [← hb j _ hj] at lj
      exact hI.hs.inj i j b o o' hi hj li lj
    · intro i b o hi li
      rw [← hb i _ hi] at li
      exact hI.hs.sep i b o hi li
    · intro i b o hi
      rw [← hb i _ hi]
      exact hI.hs.obj i b o hi
noncomputable def runQ (ext : Ext) (all : List AI) (N : Nat) (k : St → Tr) (st : St) : Tr :=
  regT (pureX ext) (all.take N) st fun s => .alt (regT (pureX ext) ((all.drop N).take 1) s fun s1 => regT ext (all.drop (N + 1)) s1 k) (regT ext (all.drop (N + 1) ++ (all.drop N).take 1) s k)
end
end Go.AE
namespace Go.AE
set_option linter.unusedVariables false
set_option linter.unusedSimpArgs false
open Go.RowKit
section
variable {P : Program} {G : Nat → Option Obj}
def thenQ (P : Program) (ops : Array Oper) (Q : Exit → Act → World → Prop) (rest : List Oper) : Exit → Act → World → Prop
  | .normal, a, w => wpList P ops Q rest a w
  | e, a, w => Q e a w
theorem wp_then {ops : Array Oper} {Q : Exit → Act → World → Prop} {rest : List Oper} {o : Oper} {a : Act} {w : World} {next : Act → World → Prop} (h : o.wp P a w next (thenQ P ops Q rest)) : o.wp P a w next Q := by
  unfold Oper.wp at *
  generalize (execOp a.eval o).run P w = r at *
  cases r with
  | ok n w' => cases n <;> exact h
  | _ => exact h
theorem wpList_then {ops : Array Oper} {Q : Exit → Act → World → Prop} {rest : List Oper} : ∀ (l : List Oper) (a : Act) (w : World), wpList P ops (thenQ P ops Q rest) l a w → wpList P ops Q (l ++ rest) a w
  | [], a, w, h => h
  | o :: l, a, w, h => by
    show wpList P ops Q (o :: (l ++ rest)) a w
    unfold wpList at h ⊢
    split at h
    · rename_i hw
      rw [if_pos hw]
      rcases h with h | ⟨h1, h2⟩
      · exact .inl (wp_then (Oper.wp_mono (fun a w hk => wpList_then l a w hk) h))
      · exact .inr ⟨h1, h2⟩
    · rename_i hw
      rw [if_neg hw]
      exact wpList_then l _ _ h
def SpOK (P : Program) (G : Nat → Option Obj) (ext : Ext) (op : Op) (sp : St → (V → List AO → Tr) → Tr) : Prop :=
  ∀ (β : Bt) (R : Nat → Prop) (st : St) (a : Act) (w : World) (o : Oper) (kk : V → List AO → Tr) (K : X → St → Prop), Sim G β R st a w → o.op = op → (sp st kk).holds P G K → OpOK P G st.h.length (fun v h' => (kk v h').holds P G K) β R o a w
def bToV : B → V
  | .p x => .c (.p x)
  | .ptr id off => .c (.ptr id off)
def bsToV : List B → List V
  | [] => []
  | x :: r => bToV x :: bsToV r
def hasFn (P : Program) (f : FuncId) : Bool := match P.funcs[f]? with
  | some fn => fn.body.isSome && fn.name != "runtime.NumGoroutine"
  | none => false
theorem bsToV_sound {β : Bt} {R : Nat → Prop} {w : World} : ∀ {xs : List B} {us : List Value}, All2 (BR β R w) xs us → All2 (VR β R w) (bsToV xs) us
  | [], [], _ => trivial
  | [], _ :: _, h => h.elim
  | _ :: _, [], h => h.elim
  | x :: xs, u :: us, h => ⟨by cases x <;> exact h.1, bsToV_sound h.2⟩
end
end Go.AE
namespace Go.AE
set_option linter.unusedVariables false
set_option linter.unusedSimpArgs false
open Go.RowKit
def swp (k i : Nat) : Nat := if i = k then k + 1 else if i = k + 1 then k else i
theorem swp_swp (k i : Nat) : swp k (swp k i) = i := by unfold swp; split <;> split <;> (try split) <;> omega
theorem swp_lt {k i n : Nat} (hk : k + 1 < n) (h : i < n) : swp k i < n := by unfold swp; split <;> (try split) <;> omega
def swpO (k : Nat) (o : Oper) : Oper := { o with after := o.after.map fun e => { e with on := swp k e.on } }
def swpR (k : Nat) (ops : Array Oper) : Array Oper := (Array.range ops.size).map fun i => swpO k (ops.getD (swp k i) default)
section
variable {P : Program} {ops : Array Oper} {Q : Exit → Act → World → Prop} {md : Region.Mode}
theorem swpR_size (k : Nat) : (swpR k ops).size = ops.size := by unfold swpR; simp
theorem swpR_get {k i : Nat} (hk : k + 1 < ops.size) {o : Oper} (h : ops[i]? = some o) : (swpR k ops)[swp k i]? = some (swpO k o) := by
  have hi : i < ops.size := (Array.getElem?_eq_some_iff.1 h).1
  have hs := swp_lt hk hi
  unfold swpR
  rw [Array.getElem?_map, Array.getElem?_range]
  rw [if_pos hs]
  simp only [Option.map_some, swp_swp, Array.getD_eq_getD_getElem?, h, Option.getD_some]
theorem swpR_get' {k i : Nat} (hk : k + 1 < ops.size) {o : Oper} (h : (swpR k ops)[i]? = some o) : ∃ o', ops[swp k i]? = some o' ∧ o = swpO k o' := by
  have hi : i < ops.size := by have := (Array.getElem?_eq_some_iff.1 h).1; rwa [swpR_size] at this
  have hs := swp_lt hk hi
  have h2 := swpR_get (i := swp k i) hk (Array.getElem?_eq_getElem hs)
  rw [swp_swp, h] at h2
  injection h2 with h2
  exact ⟨_, Array.getElem?_eq_getElem hs, h2⟩
structure SwpL (k : Nat) (l l' : Array Bool) : Prop where
  size : l'.size = l.size
  at_ : ∀ i b, l'.getD (swp k i) b = l.getD i b
theorem SwpL.set {k i : Nat} {l l' : Array Bool} (h : SwpL k l l') : SwpL k (l.setIfInBounds i true) (l'.setIfInBounds (swp k i) true) := by
  refine ⟨by simp [h.size], fun j b => ?_⟩
  by_cases e : i = j
  · subst e
    have h1 := h.at_ i true
    have h2 := h.at_ i false
    simp only [Array.getD_eq_getD_getElem?, Array.getElem?_setIfInBounds, if_true] at h1 h2 ⊢
    by_cases hi : i < l.size
    · have hj : swp k i < l'.size := by
        rcases Nat.lt_or_ge (swp k i) l'.size with q | q
        · exact q
        · rw [Array.getElem?_eq_none q] at h1 h2
          rw [Array.getElem?_eq_getElem hi] at h1 h2
          simp at h1 h2
          rw [h1] at h2; cases h2
      simp [hi, hj]
    · have hj : ¬ swp k i < l'.size := fun q => by
        rw [Array.getElem?_eq_none (xs := l) (by omega)] at h1 h2
        rw [Array.getElem?_eq_getElem q] at h1 h2
        simp at h1 h2
        rw [h1] at h2; cases h2
      simp [hi, hj]
  · have e2 : swp k i ≠ swp k j := fun q => e (by rw [← swp_swp k i, q, swp_swp])
    rw [getD_set_ne b e2, getD_set_ne b e]
    exact h.at_ j b
theorem ready_swp {k i : Nat} {l l' : Array Bool} (hk : k + 1 < ops.size) (h : SwpL k l l') (hi : i ∈ Region.ready md ops l) : swp k i ∈ Region.ready md (swpR k ops) l' := by
  obtain ⟨q1, o, q2, q3⟩ := mem_ready.1 hi
  refine mem_ready.2 ⟨by rw [h.at_]; exact q1, _, swpR_get hk q2, fun e he hb => ?_⟩
  obtain ⟨e0, h0, rfl⟩ := Array.mem_map.1 (show e ∈ o.after.map _ from he)
  have hb0 : Region.binds md e0 = true := hb
  show l'.getD (swp k e0.on) false = true
  rw [h.at_]
  exact q3 e0 h0 hb0
theorem ready_swp' {k i : Nat} {l l' : Array Bool} (hk : k + 1 < ops.size) (h : SwpL k l l') (hi : i ∈ Region.ready md (swpR k ops) l') : swp k i ∈ Region.ready md ops l := by
  obtain ⟨q1, o, q2, q3⟩ := mem_ready.1 hi
  obtain ⟨o', q4, rfl⟩ := swpR_get' hk q2
  refine mem_ready.2 ⟨?_, o', q4, fun e he hb => ?_⟩
  · have := h.at_ (swp k i) true
    rw [swp_swp] at this
    rw [← this]; exact q1
  · have := q3 { e with on := swp k e.on } (Array.mem_map.2 ⟨e, he, rfl⟩) hb
    rw [← h.at_]; exact this
theorem wpAny_swp {k : Nat} (hk : k + 1 < ops.size) (hg : ∀ (i : Nat) (o : Oper), ops[i]? = some o → o.guard = none) : ∀ (fuel : Nat) (l l' : Array Bool) (a : Act) (w : World), SwpL k l l' → wpAny P md (swpR k ops) Q fuel l' a w → wpAny P md ops Q fuel l a w
  | 0, l, l', a, w, hl, h => by
    refine ⟨?_, h.2⟩
    rw [List.eq_nil_iff_forall_not_mem]
    intro i hi
    have := ready_swp hk hl hi
    rw [h.1] at this; cases this
  | fuel + 1, l, l', a, w, hl, h => by
    refine ⟨fun hr => h.1 ?_, fun i hi => ?_⟩
    · rw [List.eq_nil_iff_forall_not_mem]
      intro i hi
      have := ready_swp' hk hl hi
      rw [hr] at this; cases this
    · have h2 := h.2 _ (ready_swp hk hl hi)
      obtain ⟨_, o, q2, _⟩ := mem_ready.1 hi
      have h3 := wpOp_mono (fun a' w' h' => wpAny_swp hk hg fuel _ _ a' w' hl.set h') h2
      unfold wpOp at h3 ⊢
      rw [swpR_get hk q2] at h3
      rw [q2]
      dsimp only at h3 ⊢
      have w1 : Region.wanted o (yielded ops a.tmps) = true := by unfold Region.wanted; rw [hg i o q2]
      have w2 : Region.wanted (swpO k o) (yielded (swpR k ops) a.tmps) = true := by unfold Region.wanted; rw [show (swpO k o).guard = none from hg i o q2]
      rw [if_pos w2] at h3
      rw [if_pos w1]
      exact h3
end
section
variable {P : Program} {G : Nat → Option Obj} {ops : Array Oper} {al : List AI} {N : Nat} {S : Nat → St} {ext : Ext}
def floatW (os : List Oper) (N : Nat) : Bool := Nat.beq (lenL os) (N + 3) && allI (fun i o => !Nat.beq i (N + 1) || allI (fun j _ => Nat.ble N j || waits o j) 0 os) 0 os && allI (fun i o => !Nat.beq i (N + 2) || allI (fun j _ => Nat.ble (N + 2) j || waits o j) 0 os) 0 os
theorem floatW_of (h : floatW ops.toList N = true) : ops.size = N + 3 ∧ (∀ j, j < N → Region.waitsFor .any ops (N + 1) j = true) ∧ ∀ j, j < N + 2 → Region.waitsFor .any ops (N + 2) j = true := by
  unfold floatW at h
  simp only [Bool.and_eq_true] at h
  obtain ⟨⟨h1, h2⟩, h5⟩ := h
  have h1 := Nat.eq_of_beq_eq_true h1
  rw [lenL_eq] at h1
  have h1 : ops.size = N + 3 := by simpa using h1
  refine ⟨h1, fun j hj => ?_, fun j hj => ?_⟩
  · have h3 := allI_at h2 (N + 1) ops[N + 1] (by simp [show N + 1 < ops.size by omega])
    simp only [Bool.or_eq_true, Nat.zero_add] at h3
    rcases h3 with h3 | h3
    · rw [Nat.beq_refl] at h3; cases h3
    · have h4 := allI_at h3 j ops[j] (by simp)
      simp only [Bool.or_eq_true, Nat.zero_add, Nat.ble_eq] at h4
      rcases h4 with h4 | h4
      · omega
      · exact waits_for (by simp [show N + 1 < ops.size by omega]) h4
  · have h3 := allI_at h5 (N + 2) ops[N + 2] (by simp [show N + 2 < ops.size by omega])
    simp only [Bool.or_eq_true, Nat.zero_add] at h3
    rcases h3 with h3 | h3
    · rw [Nat.beq_refl] at h3; cases h3
    · have h4 := allI_at h3 j ops[j] (by simp)
      simp only [Bool.or_eq_true, Nat.zero_add, Nat.ble_eq] at h4
      rcases h4 with h4 | h4
      · omega
      · exact waits_for (by simp [show N + 2 < ops.size by omega]) h4
theorem last2_any {Q : Exit → Act → World → Prop} {k z : Nat} {o oz : Oper} {listed : Array Bool} {a : Act} {w : World} (hk : ops[k]? = some o) (hz : ops[z]? = some oz) (hkz : k < z) (hs : listed.size = ops.size) (huk : listed.getD k true = false) (huz : listed.getD z true = false) (h1 : ∀ i, i < ops.size → i ≠ k → i ≠ z → listed.getD i false = true)
    (hb : ∀ e ∈ o.after, Region.binds .any e = true → e.on < k) (hbz : ∀ e ∈ oz.after, Region.binds .any e = true → e.on < z) (hwz : Region.waitsFor .any ops z k = true) (h : wpList P ops Q [o, oz] a w) : wpAny P .any ops Q 2 listed a w := by
  have hks : k < ops.size := (Array.getElem?_eq_some_iff.1 hk).1
  have hzs : z < ops.size := (Array.getElem?_eq_some_iff.1 hz).1
  have hrk : k ∈ Region.ready .any ops listed := mem_ready.2 ⟨huk, o, hk, fun e he hbi => by
    have := hb e he hbi
    exact h1 e.on (by omega) (by omega) (by omega)⟩
  refine ⟨fun h4 => (by rw [h4] at hrk; cases hrk), fun i hi => ?_⟩
  obtain ⟨q1, oi, q2, q3⟩ := mem_ready.1 hi
  obtain ⟨his, _, q4⟩ := ready_of hi
  have hik : i = k := Classical.byContradiction fun e => by
    by_cases e2 : i = z
    · subst e2
      have := q4 k hwz
      rw [getD_both huk] at this; cases this
    · have := h1 i his e e2
      rw [getD_both q1] at this; cases this
  subst hik
  have hw : wpOp P ops Q i (wpList P ops Q [oz]) a w := by unfold wpOp; simp only [hk]; exact h
  refine wpOp_mono (fun a' w' h' => last_any hz (by simpa using hs) ?_ ?_ hbz h') hw
  · rw [getD_set_ne true (by omega)]
    exact huz
  · intro j hj hne
    by_cases e : i = j
    · subst e; simp [show i < listed.size by omega]
    · rw [getD_set_ne false e]; exact h1 j hj (fun q => e q.symm) hne
variable {β0 : Bt} {R0 : Nat → Prop} {w0 : World}
theorem head_anyW (hext : SoundExt P G ext) (hr : Run P G ext al (N + 1) S) (hok : RegB ops al (N + 1)) (hal : ∀ i o, i < N + 1 → ops[i]? = some o → ∃ ai, al[i]? = some ai ∧ cOper P ops o = some ai) (hsz : ops.size = N + 3) (hw1 : ∀ j, j < N → Region.waitsFor .any ops (N + 1) j = true) (hw2 : ∀ j, j < N + 2 → Region.waitsFor .any ops (N + 2) j = true) {oF oA oZ : Oper} (hF : ops[N]? = some oF) (hA : ops[N + 1]? = some oA) (hZ : ops[N + 2]? = some oZ) {Q : Exit → Act → World → Prop}
    (hT : ∀ a w β R, Sim G β R (S (N + 1)) a w → Gr β0 R0 w0 β R w → wpList P ops Q [oA, oZ] a w) (hX : ∀ a w β R, Sim G β R (S N) a w → Gr β0 R0 w0 β R w → wpList P ops Q [oA, oF, oZ] a w) :
    ∀ (f : Nat) (listed : Array Bool) (a : Act) (w : World) (β : Bt) (R : Nat → Prop), cnt listed (N + 1) = f → HeadInv .any ops (N + 1) listed → DInv G al (N + 1) S β0 R0 w0 listed a w β R → wpAny P .any ops Q (f + 2) listed a w := by
  intro f
  induction f with
  | zero =>
    intro listed a w β R hc inv hI
    have hall := cnt_zero hc
    have hsim : Sim G β R (S (N + 1)) a w := by
      refine ⟨hI.df, All2.of_get (by simp [hI.sz]) ?_, hI.hs⟩
      intro s x y hx hy
      have h1 := hI.sl s y (by simpa using hy) fun i ai hi _ hl => by rw [hall i hi] at hl; cases hl
      rw [nth_eq, List.getD_eq_getElem?_getD, hx] at h1
      exact h1
    exact last2_any hA hZ (by omega) inv.size (inv.tail (N + 1) (Nat.le_refl _) (by omega)) (inv.tail (N + 2) (by omega) (by omega)) (fun i hi hne hnz => hall i (by omega)) (hok.back (N + 1) oA hA) (hok.back (N + 2) oZ hZ) (hw2 (N + 1) (by omega)) (hT a w β R hsim hI.gr)
  | succ f ih =>
    intro listed a w β R hc inv hI
    obtain ⟨i0, hi0, hu0, hb0⟩ := cnt_pos (by omega : 0 < cnt listed (N + 1))
    have hi0s : i0 < ops.size := by omega
    have hr0 : i0 ∈ Region.ready .any ops listed := least_ready hok.back hi0s (getD_in (by rw [inv.size]; exact hi0s) hu0) hb0
    refine ⟨fun h => (by rw [h] at hr0; cases hr0), fun i hi => ?_⟩
    obtain ⟨q1, o, q2, q3⟩ := mem_ready.1 hi
    obtain ⟨his, _, q4⟩ := ready_of hi
    have hun := getD_both q1
    have hil : i < listed.size := by rw [inv.size]; exact his
    by_cases hin : i < N + 1
    · obtain ⟨ai, ha, hco⟩ := hal i o hin q2
      exact hI.step hext hr hok hin hil ha q2 hco hun q3 inv.closed fun a' w' β' R' hI' => ih _ a' w' β' R' (by have := cnt_set hil hun hin; omega) (inv.set hi hin) hI'
    · have hin2 : i ≠ N + 2 := fun e => by
        subst e
        have := q4 i0 (hw2 i0 (by omega))
        rw [hu0] at this; cases this
      obtain rfl : i = N + 1 := by omega
      have e0 : i0 = N := by
        rcases Nat.lt_or_ge i0 N with h | h
        · have := q4 i0 (hw1 i0 h)
          rw [hu0] at this; cases this
        · omega
      subst e0
      have hsim := hI.allBut hr hok hb0 hu0
      have hc2 : cnt listed i0 = 0 := by
        rcases Nat.eq_zero_or_pos (cnt listed i0) with h | h
        · exact h
        · obtain ⟨j, k1, k2, _⟩ := cnt_pos h
          rw [hb0 j k1] at k2; cases k2
      obtain rfl : f = 0 := by
        rw [cnt, hc2, hu0] at hc
        simpa using hc.symm
      have h := hX a w β R hsim hI.gr
      have hw : wpOp P ops Q (i0 + 1) (wpList P ops Q [oF, oZ]) a w := by unfold wpOp; simp only [hA]; exact h
      refine wpOp_mono (fun a' w' h' => last2_any hF hZ (by omega) (by simpa using inv.size) ?_ ?_ ?_ (hok.back i0 oF hF) (hok.back (i0 + 2) oZ hZ) (hw2 i0 (by omega)) h') hw
      · rw [getD_set_ne true (by omega)]
        exact getD_in (by rw [inv.size]; exact hi0s) hu0
      · rw [getD_set_ne true (by omega)]
        exact inv.tail (i0 + 2) (by omega) (by omega)
      · intro j hj hne hnz
        by_cases e : i0 + 1 = j
        · subst e; simp [hil]
        · rw [getD_set_ne false e]; exact hb0 j (by omega)
noncomputable def runW (ext : Ext) (all : List AI) (N : Nat) (k : St → Tr) (st : St) : Tr :=
  regT (pureX ext) (all.take N) st fun s => .alt (regT (pureX ext) ((all.drop N).take 1) s fun s1 => regT ext (all.drop (N + 1)) s1 k) (regT ext ((all.drop (N + 1)).take 1 ++ ((all.drop N).take 1 ++ all.drop (N + 2))) s k)
theorem regW_sound (hext : SoundExt P G ext) (hm : P.follows .mixedOrders = true) {all : List AI} (hall : cOpers P ops ops.toList = some all) (hok0 : regBB ops.toList (all.take (N + 1)) (N + 1) = true) (hfl : floatW ops.toList N = true) {st : St} {k : St → Tr} {K : X → St → Prop}
    (h : (runW ext all N k st).holds P G K) {Q : Exit → Act → World → Prop} {β : Bt} {R : Nat → Prop} {a : Act} {w : World} (hs : Sim G β R st a w)
    (hT : ∀ st' a' w' β' R', (k st').holds P G K → Sim G β' R' st' a' w' → Gr β R w β' R' w' → Q .normal a' w') : wpAny P .any ops Q ops.size (Array.replicate ops.size false) a { w with drawn := w.drawn + 1 } := by
  obtain ⟨hsz, hw1, hw2⟩ := floatW_of hfl
  have hok := regB_of hok0
  obtain ⟨hl0, hg0⟩ := cOpers_get hall
  have hla : all.length = N + 3 := by rw [hl0]; simpa using hsz
  have hF : ops[N]? = some ops[N] := by simp
  have hA : ops[N + 1]? = some ops[N + 1] := by simp
  have hZ : ops[N + 2]? = some ops[N + 2] := by simp
  obtain ⟨aF, hF1, hF2⟩ := hg0 N ops[N] (by rw [Array.getElem?_toList]; exact hF)
  obtain ⟨aA, hA1, hA2⟩ := hg0 (N + 1) ops[N + 1] (by rw [Array.getElem?_toList]; exact hA)
  obtain ⟨aZ, hZ1, hZ2⟩ := hg0 (N + 2) ops[N + 2] (by rw [Array.getElem?_toList]; exact hZ)
  have dN : all.drop N = [aF, aA, aZ] := by
    rw [List.drop_eq_getElem_cons (by omega), List.drop_eq_getElem_cons (by omega), List.drop_eq_getElem_cons (by omega), List.drop_of_length_le (by omega)]
    rw [List.getElem?_eq_getElem (by omega)] at hF1 hA1 hZ1
    injection hF1 with hF1; injection hA1 with hA1; injection hZ1 with hZ1
    rw [hF1, hA1, hZ1]
  have dN1 : all.drop (N + 1) = [aA, aZ] := by
    rw [List.drop_eq_getElem_cons (by omega), List.drop_eq_getElem_cons (by omega), List.drop_of_length_le (by omega)]
    rw [List.getElem?_eq_getElem (by omega)] at hA1 hZ1
    injection hA1 with hA1; injection hZ1 with hZ1
    rw [hA1, hZ1]
  have dN2 : all.drop (N + 2) = [aZ] := by
    rw [List.drop_eq_getElem_cons (by omega), List.drop_of_length_le (by omega)]
    rw [List.getElem?_eq_getElem (by omega)] at hZ1
    injection hZ1 with hZ1
    rw [hZ1]
  have tN1 : all.take (N + 1) = all.take N ++ [aF] := by
    rw [List.take_add_one, hF1]; rfl
  have tlen : (all.take N).length = N := by rw [List.length_take]; omega
  have hcA : cOpers P ops [ops[N + 1], ops[N + 2]] = some [aA, aZ] := by simp only [cOpers, hA2, hZ2]; rfl
  have hcAF : cOpers P ops [ops[N + 1], ops[N], ops[N + 2]] = some [aA, aF, aZ] := by simp only [cOpers, hA2, hF2, hZ2]; rfl
  unfold runW at h
  rw [dN, dN1, dN2] at h
  obtain ⟨S1, k0, k1, k2⟩ := regT_run hext (all.take N) st (fun ai hai => by
    obtain ⟨i, hi⟩ := List.mem_iff_getElem?.1 hai
    have hiN : i < N := by have := (List.getElem?_eq_some_iff.1 hi).1; omega
    refine hok.hd i ai ?_ (by omega)
    rw [tN1, List.getElem?_append_left (by omega)]; exact hi) h
  rw [tlen, holds_alt] at k1
  obtain ⟨k1, kX⟩ := k1
  obtain ⟨S2, m0, m1, m2⟩ := regT_run hext [aF] (S1 N) (fun ai hai => by
    obtain rfl := List.mem_singleton.1 hai
    exact hok.hd N ai (by rw [tN1, List.getElem?_append_right (by omega), tlen]; simp) (by omega)) k1
  have m2 := m2 0 aF rfl
  rw [m0] at m2
  let S : Nat → St := fun i => if i ≤ N then S1 i else S2 1
  have eS : ∀ i, i ≤ N → S i = S1 i := fun i hi => if_pos hi
  have eS1 : S (N + 1) = S2 1 := if_neg (by omega)
  have hr : Run P G ext (all.take (N + 1)) (N + 1) S := ⟨by rw [List.length_take]; omega, fun i ai hi ha => by
    rcases Nat.lt_or_ge i N with h3 | h3
    · rw [eS i (by omega), eS (i + 1) (by omega)]
      refine k2 i ai ?_
      rw [tN1, List.getElem?_append_left (by omega)] at ha; exact ha
    · obtain rfl : i = N := by omega
      rw [eS i (Nat.le_refl _), eS1]
      rw [tN1, List.getElem?_append_right (by omega), tlen] at ha
      simp at ha
      subst ha; exact m2⟩
  obtain ⟨hs', hg⟩ := hs.drawn (w.drawn + 1)
  have h0 : S 0 = st := (eS 0 (Nat.zero_le _)).trans k0
  have hal : ∀ i o, i < N + 1 → ops[i]? = some o → ∃ ai, (all.take (N + 1))[i]? = some ai ∧ cOper P ops o = some ai := fun i o hi ho => by
    obtain ⟨ai, q1, q2⟩ := hg0 i o (by simpa using ho)
    exact ⟨ai, by rw [List.getElem?_take, if_pos hi]; exact q1, q2⟩
  have fin : ∀ (l : List Oper) (al : List AI) (s : St) (a' : Act) (w' : World) (β' : Bt) (R' : Nat → Prop), cOpers P ops l = some al → (regT ext al s k).holds P G K → Sim G β' R' s a' w' → Gr β R w β' R' w' → wpList P ops Q l a' w' := fun l al s a' w' β' R' q1 q2 q3 q4 =>
    regT_sound hext l al s a' w' β' R' q1 q2 q3 fun a2 w2 β2 R2 st2 p1 p2 p3 => hT st2 a2 w2 β2 R2 p1 p2 (q4.trans p3)
  have key := head_anyW (β0 := β) (R0 := R) (w0 := w) hext hr hok hal hsz hw1 hw2 hF hA hZ (Q := Q)
    (fun a' w' β' R' q1 q2 => fin _ [aA, aZ] _ a' w' β' R' hcA m1 (by rw [eS1] at q1; exact q1) q2)
    (fun a' w' β' R' q1 q2 => fin _ _ _ a' w' β' R' hcAF kX (by rw [eS N (Nat.le_refl _)] at q1; exact q1) q2) (N + 1) (Array.replicate ops.size false) a { w with drawn := w.drawn + 1 } β R
    (cnt_all (by omega)) ⟨by simp, fun j oj _ hl => (by rw [getD_replicate_false] at hl; cases hl), fun t _ ht => getD_in (by simpa using ht) (getD_replicate_false _ _)⟩ ?_
  · rwa [show N + 1 + 2 = ops.size by omega] at key
  · have hle := hr.le (i := 0) (j := N + 1) (Nat.zero_le _) (Nat.le_refl _)
    rw [h0] at hle
    refine ⟨hg, ?_, hs.df, ?_, ?_, ?_, ?_⟩
    · have hb : ∀ i x, β i = some x → nth .gone (S (N + 1)).h i = nth .gone st.h i := fun i x hi => hle.2.2.1 i (hs'.hs.dom i x hi)
      refine ⟨fun i x hi => Nat.lt_of_lt_of_le (hs'.hs.dom i x hi) hle.2.1, ?_, ?_, hs'.hs.lt, hs'.hs.rlt, ?_, hs'.hs.gl, fun b ad hq => ⟨(hs'.hs.ql b ad hq).1, (hs'.hs.ql b ad hq).2.1, fun i o hi => by rw [hb i _ hi]; exact (hs'.hs.ql b ad hq).2.2 i o hi⟩⟩
      · intro i j b o o' hi hj li lj
        rw [hb i _ hi] at li; rw [hb j _ hj] at lj
        exact hs'.hs.inj i j b o o' hi hj li lj
      · intro i b o hi li
        rw [hb i _ hi] at li
        exact hs'.hs.sep i b o hi li
      · intro i b o hi
        rw [hb i _ hi]
        exact hs'.hs.obj i b o hi
    · have := hs.tm.length; simp at this; omega
    · intro s u hu hnd
      rw [hle.2.2.2 s fun l ai _ hl ha => hnd l ai hl ha (getD_replicate_false _ _)]
      have hv := ev_sound (x := .tmp s) hs' rfl
      have e : a.eval (.tmp s) = u := by show a.tmps.getD s undef = u; simp [hu]
      rw [e] at hv
      exact hv
    · intro i hi _ id h1 h2
      cases hb : β id with
      | none => rfl
      | some x =>
        have h3 := hs.hs.dom id x hb
        have := (hr.le (i := 0) (j := i) (Nat.zero_le _) (by omega)).2.1
        rw [h0] at this
        omega
    · intro s u hu _
      rw [h0]
      have hv := ev_sound (x := .tmp s) hs' rfl
      have e : a.eval (.tmp s) = u := by show a.tmps.getD s undef = u; simp [hu]
      rw [e] at hv
      exact hv
def noGuards (os : List Oper) : Bool := os.all fun o => o.guard.isNone
theorem noGuards_of (h : noGuards ops.toList = true) : ∀ (i : Nat) (o : Oper), ops[i]? = some o → o.guard = none := by
  intro i o ho
  have hm : o ∈ ops.toList := by
    have := Array.getElem?_eq_some_iff.1 ho
    obtain ⟨hi, e⟩ := this
    rw [← e]; simp
  have := List.all_eq_true.1 h o hm
  simpa using this
theorem swpL_start (k n : Nat) (hk : k + 1 < n) : SwpL k (Array.replicate n false) (Array.replicate n false) := by
  refine ⟨rfl, fun i b => ?_⟩
  simp only [Array.getD_eq_getD_getElem?, Array.getElem?_replicate]
  by_cases hi : i < n
  · rw [if_pos (swp_lt hk hi), if_pos hi]
  · rw [if_neg (fun h => hi (by have := swp_lt hk h; rwa [swp_swp] at this)), if_neg hi]
theorem ExA.regw {ext : Ext} (hext : SoundExt P G ext) {rid : Nat} (k : Nat) (hk : k + 1 < ops.size) (hng : noGuards ops.toList = true) (hm : P.follows .mixedOrders = true) {all : List AI} (hall : cOpers P (swpR k ops) (swpR k ops).toList = some all) (hok0 : regBB (swpR k ops).toList (all.take (N + 1)) (N + 1) = true) (hfl : floatW (swpR k ops).toList N = true) (keep : List Bool) {st : St} {K1 : X → St → Prop}
    (hh : (runW ext all N (fun s' => .done .normal (gcS keep s')) st).holds P G K1) : ExA P G (.raw (.region rid ops true)) st fun e st' => e = .normal ∧ K1 .normal (gcS keep st') := by
  refine ExA.raw fun β R a w hs => ?_
  refine wp_region_any hm ?_
  refine wpAny_swp hk (noGuards_of hng) _ _ _ _ _ (swpL_start k ops.size hk) ?_
  have h := regW_sound (ops := swpR k ops) hext hm hall hok0 hfl hh hs (Q := QX G (fun e st' => e = .normal ∧ K1 .normal (gcS keep st')) β R w) ?_
  · rwa [swpR_size] at h
  · intro st' a' w' β' R' hk hs' hg
    exact ⟨β', R', st', ⟨rfl, hk⟩, hs', hg.toFr, hg.rm⟩
theorem ExS.rawW {rs : List AR} {v : V} {ext : Ext} (hext : SoundExt P G ext) {rid : Nat} (k : Nat) (hk : Nat.blt (k + 1) ops.size = true) (hng : noGuards ops.toList = true) (hm : P.follows .mixedOrders = true) {all : List AI} (hall : cOpers P (swpR k ops) (swpR k ops).toList = some all) (hok0 : regBB (swpR k ops).toList (all.take (N + 1)) (N + 1) = true) (hfl : floatW (swpR k ops).toList N = true) (keep : List Bool) {l r' : List ACode} {st : St} {Q : X → St → Prop} (hl : l = .raw (.region rid ops true) :: r') {tree : Tr}
    (ht : runW ext all N (fun s' => .done .normal (gcS keep s')) st = tree) (h : tree.holds P G fun _ s => ExS P G rs v r' s Q) : ExS P G rs v l st Q := by
  subst hl; subst ht
  refine ExA.mono (ExA.regw hext k (by simpa using hk) hng hm hall hok0 hfl keep h) ?_
  rintro e s ⟨rfl, h⟩
  exact ExS.pre (weak_gc keep s) h
end
end Go.AE
namespace Go.AE
set_option linter.unusedVariables false
set_option linter.unusedSimpArgs false
open Go.RowKit
section
variable {P : Program} {G : Nat → Option Obj}
theorem ExA.spec2 {ext : Ext} (hext : SoundExt P G ext) {id : Nat} {ops : Array Oper} (n m : Nat) {o o2 : Oper} {al1 al2 al3 : List AI} (ho : ops.toList.drop n = o :: ops.toList.drop (n + 1)) (h1 : cOpers P ops (ops.toList.take n) = some al1) (ho2 : ops.toList.drop m = o2 :: ops.toList.drop (m + 1)) (h2 : cOpers P ops ((ops.toList.drop (n + 1)).take (m - (n + 1))) = some al2) (hnm : n < m) (h3 : cOpers P ops (ops.toList.drop (m + 1)) = some al3) (hg : o.guard = none) (hg2 : o2.guard = none)
    {sp sp2 : St → (V → List AO → Tr) → Tr} (hsp : SpOK P G ext o.op sp) (hsp2 : SpOK P G ext o2.op sp2) {st : St} {kf : St → Tr} {K1 : X → St → Prop} (hh : (regT ext al1 st fun s => sp s fun v h => regT ext al2 ⟨putT s.t o.dst v, h⟩ fun s => sp2 s fun v h => regT ext al3 ⟨putT s.t o2.dst v, h⟩ kf).holds P G K1) : ExA P G (.raw (.region id ops false)) st fun e st' => e = .normal ∧ (kf st').holds P G K1 := by
  refine ExA.raw fun β R a w hs => ?_
  refine wp_region_list ?_
  have hl : ops.toList = ops.toList.take n ++ (o :: ((ops.toList.drop (n + 1)).take (m - (n + 1)) ++ (o2 :: ops.toList.drop (m + 1)))) := by
    have e : ops.toList.drop (n + 1) = (ops.toList.drop (n + 1)).take (m - (n + 1)) ++ (o2 :: ops.toList.drop (m + 1)) := by
      rw [← ho2]
      have := List.take_append_drop (m - (n + 1)) (ops.toList.drop (n + 1))
      rw [List.drop_drop, show n + 1 + (m - (n + 1)) = m by omega] at this
      exact this.symm
    rw [← e, ← ho, List.take_append_drop]
  rw [hl]
  refine wpList_then _ _ _ (regT_sound hext _ al1 st a w β R h1 hh hs fun a1 w1 β1 R1 st1 q1 q2 q3 => ?_)
  show wpList P ops _ (o :: _) a1 w1
  have hw : Region.wanted o (yielded ops a1.tmps) = true := by unfold Region.wanted; rw [hg]
  simp only [wpList, hw, if_true]
  refine .inl ((hsp β1 R1 st1 a1 w1 o _ K1 q2 rfl q1).wp ?_)
  rintro u w' ⟨β', R', x, h', r1, r2, r3, r4, _⟩
  refine wpList_then _ _ _ (regT_sound hext _ al2 _ _ _ _ _ h2 r1 (q2.put r4 r3 r2 o.dst) fun a2 w2 β2 R2 st2 p1 p2 p3 => ?_)
  show wpList P ops _ (o2 :: _) a2 w2
  have hw2 : Region.wanted o2 (yielded ops a2.tmps) = true := by unfold Region.wanted; rw [hg2]
  simp only [wpList, hw2, if_true]
  refine .inl ((hsp2 β2 R2 st2 a2 w2 o2 _ K1 p2 rfl p1).wp ?_)
  rintro u2 w3 ⟨β3, R3, x3, h3', r1', r2', r3', r4', _⟩
  refine regT_sound hext _ al3 _ _ _ _ _ h3 r1' (p2.put r4' r3' r2' o2.dst) fun a4 w4 β4 R4 st4 s1 s2 s3 => ?_
  have g2 := (((q3.trans r4).trans p3).trans r4').trans s3
  exact ⟨β4, R4, st4, ⟨rfl, s1⟩, s2, g2.toFr, g2.rm⟩
theorem ExS.spec2 {ext : Ext} (hext : SoundExt P G ext) {rs : List AR} {v : V} {l r : List ACode} {id : Nat} {ops : Array Oper} (hl : l = .raw (.region id ops false) :: r) (n m : Nat) {o o2 : Oper} {al1 al2 al3 : List AI} (ho : ops.toList.drop n = o :: ops.toList.drop (n + 1)) (h1 : cOpers P ops (ops.toList.take n) = some al1) (ho2 : ops.toList.drop m = o2 :: ops.toList.drop (m + 1)) (h2 : cOpers P ops ((ops.toList.drop (n + 1)).take (m - (n + 1))) = some al2) (hnm : Nat.blt n m = true) (h3 : cOpers P ops (ops.toList.drop (m + 1)) = some al3) (hg : o.guard = none) (hg2 : o2.guard = none)
    {sp sp2 : St → (V → List AO → Tr) → Tr} {op op2 : Op} (hop : o.op = op) (hop2 : o2.op = op2) (hsp : SpOK P G ext op sp) (hsp2 : SpOK P G ext op2 sp2) {st : St} {Q : X → St → Prop} (keep : List Bool) {d d2 : Option Nat} (hd : o.dst = d) (hd2 : o2.dst = d2) {tree : Tr} (ht : (regT ext al1 st fun s => sp s fun v h => regT ext al2 ⟨putT s.t d v, h⟩ fun s => sp2 s fun v h => regT ext al3 ⟨putT s.t d2 v, h⟩ fun s' => .done .normal (gcS keep s')) = tree) (h : tree.holds P G fun e st' => ExS P G rs v r st' Q) : ExS P G rs v l st Q := by
  subst hl; subst hop; subst hop2; subst hd; subst hd2; subst ht
  refine ExA.mono (ExA.spec2 hext n m ho h1 ho2 h2 (by simpa using hnm) h3 hg hg2 hsp hsp2 h) ?_
  rintro e st' ⟨rfl, q⟩
  exact ExS.pre (weak_gc keep st') q
def spCalV (P : Program) (ext : Ext) (ax : AX) (args : List AX) (st : St) (k : V → List AO → Tr) : Tr := match st.ev ax with
  | .c (.fn (.func f) first cs) => chk (hasFn P f) (ext f (bsToV first ++ (mapEv st args ++ bsToV cs)) st.h k)
  | _ => .fail
theorem All2.app {α γ : Type} {q : α → γ → Prop} : ∀ {xs : List α} {us : List γ} {ys : List α} {vs : List γ}, All2 q xs us → All2 q ys vs → All2 q (xs ++ ys) (us ++ vs)
  | [], [], _, _, _, h => h
  | [], _ :: _, _, _, h, _ => h.elim
  | _ :: _, [], _, _, h, _ => h.elim
  | _ :: _, _ :: _, _, _, h, h2 => ⟨h.1, All2.app h.2 h2⟩
theorem spCalV_ok {ext : Ext} (hext : SoundExt P G ext) {x : Operand} {ax : AX} {args : Array Operand} {ts : Array TypeId} {al : List AX} (hx : cX x = some ax) (ha : cXs args.toList = some al) : SpOK P G ext (.call { callee := .value x, args := args, argTypes := ts }) (spCalV P ext ax al) := by
  intro β R st a w o kk K hs ho h
  have hv := ev_sound hs hx
  unfold spCalV at h
  split at h
  case h_2 => exact h.elim
  rename_i f first cs he
  rw [he] at hv
  obtain ⟨us, vs, e1, e2, e3⟩ := hv
  obtain ⟨c1, h⟩ := chk_true h
  unfold hasFn at c1
  cases hf : P.funcs[f]? with
  | none => rw [hf] at c1; cases c1
  | some fn =>
    rw [hf] at c1
    simp only [Bool.and_eq_true] at c1
    obtain ⟨hb, hnm⟩ := c1
    have hc := hext.fn _ _ _ _ _ h β R w (us ++ args.map a.eval ++ vs) (by
      have hm : All2 (VR β R w) (mapEv st al) (args.map a.eval).toList := by simpa using cXs_sound hs args.toList al ha
      rw [Array.toList_append, Array.toList_append, List.append_assoc]
      exact (bsToV_sound e2).app (hm.app (bsToV_sound e3))) hs.hs
    refine .inr (.inr ⟨f, us ++ args.map a.eval ++ vs, ?_, ?_⟩)
    · have hnm' : ¬ fn.name = "runtime.NumGoroutine" := by simpa using hnm
      have hb' : ¬ fn.body = none := by cases hq : fn.body <;> simp_all
      simp only [execOp, ho, resolve, e1, Deferred.ofValue, invoke]
      simp [callFunc, hf]
      rw [if_neg hnm', if_neg hb']
    · refine hc.mono ?_
      rintro e w' ⟨u, β', R', x, h', rfl, h1, h2, h3, h4, h5⟩
      exact ⟨u, rfl, β', R', x, h', h1, h2, h3, h4, h5⟩
theorem weak_cells {id : Nat} {t0 : TypeId} {vs vs' : List C} {st : St} (hid : nth .gone st.h id = .cells t0 vs) (h : ∀ (β : Bt) (R : Nat → Prop) (w : World) us, All2 (CR β R w) vs us → All2 (CR β R w) vs' us) :
    WeakS G st ⟨st.t, upd (.cells t0 vs') st.h id⟩ := by
  intro β R a w hs
  have hh := hs.hs
  have hlid := nth_gone hid (by simp)
  have hlv : ∀ i, (nth .gone (upd (.cells t0 vs') st.h id) i).live = (nth .gone st.h i).live := fun i => by
    by_cases e : id = i
    · subst e; rw [nth_upd_eq _ _ _ hlid, hid]; rfl
    · rw [nth_upd_ne _ _ _ e]
  refine ⟨β, R, ⟨hs.df, hs.tm, ?_⟩, Fr.refl _ _ _, fun _ hb => hb⟩
  refine hs_told hh (by rw [upd_eq, List.length_set]; exact Nat.le_refl _) (fun i x hi => by rw [upd_eq, List.length_set]; exact hh.dom i x hi) (fun _ h => h) hh.rlt ?_ ?_ hh.lt ?_ ?_
  · intro i j b o o' hi hj li lj
    rw [hlv] at li lj
    exact hh.inj i j b o o' hi hj li lj
  · intro i b o hi li
    rw [hlv] at li
    exact hh.sep i b o hi li
  · intro i b o hi
    by_cases e : id = i
    · subst e
      rw [nth_upd_eq _ _ _ hlid]
      have hob := hh.obj id b o hi
      rw [hid] at hob
      obtain ⟨cs, g1, g2⟩ := hob
      exact ⟨cs, g1, h _ _ _ _ g2⟩
    · rw [nth_upd_ne _ _ _ e]
      exact hh.obj i b o hi
  · intro b ad hq
    obtain ⟨q1, q2, q3⟩ := hh.ql b ad hq
    exact ⟨q1, q2, fun i o hi => by rw [hlv]; exact q3 i o hi⟩
end
end Go.AE
