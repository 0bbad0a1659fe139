/- AE, part 36: regions whose head comes in any order, with a rest of its own. -/
import Derived.Test.YtfjihbmehhccoaaAe33
import Derived.Test.YtfjihbmehhccoaaAe31
namespace Go.AE
set_option linter.unusedVariables false
set_option linter.unusedSimpArgs false
open Go.RowKit

def regBB (os : List Oper) (al : List AI) (n : Nat) : Bool :=
  allI (fun i o => allL (fun e => !Region.binds .any e || Nat.blt e.on i) o.after.toList) 0 os &&
  (allI (fun i x => Nat.ble n i || x.op.hd) 0 al &&
  (allI (fun i x => Nat.ble n i || allI (fun j y => Nat.ble n j || (Nat.beq i j || !eqD x.dst y.dst)) 0 al) 0 al &&
  allI (fun i x => Nat.ble n i || allI (fun j y => Nat.ble n j || (!inD y.dst x.sls || (anyL (fun o => waits o j) ((os.drop i).take 1) || anyL (fun o => waits o i) ((os.drop j).take 1)))) 0 al) 0 al))
/-- What comes behind the head waits for the head, at once or through others. -/
def wtB (os : List Oper) (n : Nat) : Bool :=
  allI (fun i o => Nat.blt i n || match Nat.beq i n with
    | true => allI (fun j _ => Nat.ble n j || waits o j) 0 os
    | false => anyI (fun j _ => Nat.ble n j && Nat.blt j i && waits o j) 0 os) 0 os
section
variable {P : Program} {G : Nat → Option Obj} {ops : Array Oper} {al : List AI} {n : Nat} {S : Nat → St} {ext : Ext}
theorem regB_of {ops : Array Oper} {al : List AI} {n : Nat} (h : regBB ops.toList al n = true) : RegB ops al n := by
  unfold regBB at h
  simp only [Bool.and_eq_true] at h
  obtain ⟨h1, h2, h3, h4⟩ := h
  refine ⟨?_, ?_, ?_, ?_⟩
  · intro i o ho e he hb
    have := allL_at (allI_at h1 i o (by simpa using ho)) e (by simpa using he)
    simpa [hb] using this
  · intro i ai hi hn
    have := allI_at h2 i ai hi
    simp only [Bool.or_eq_true, Nat.ble_eq] at this
    rcases this with h | h
    · omega
    · exact h
  · intro i j x y d hx hy hi hj hij hd hd'
    have := allI_at h3 i x hx
    simp only [Bool.or_eq_true, Nat.ble_eq] at this
    rcases this with h | h
    · omega
    · have := allI_at h j y hy
      simp only [Bool.or_eq_true, Nat.ble_eq, hd, hd', eqD] at this
      rcases this with h | h | h
      · omega
      · have := Nat.eq_of_beq_eq_true h; omega
      · simp at h
  · intro i j x y d hx hy hi hj hd hs
    have := allI_at h4 i x hx
    simp only [Bool.or_eq_true, Nat.ble_eq] at this
    rcases this with h | h
    · omega
    · have := allI_at h j y hy
      simp only [Bool.or_eq_true, Nat.ble_eq, hd, inD] at this
      rcases this with h | h | h | h
      · omega
      · rw [hasN_iff hs] at h; cases h
      · obtain ⟨o, ho, hw⟩ := anyL_at h
        rw [Nat.zero_add] at hw ho
        exact .inl (waits_for (take1_at ho) hw)
      · obtain ⟨o, ho, hw⟩ := anyL_at h
        rw [Nat.zero_add] at hw ho
        exact .inr (waits_for (take1_at ho) hw)
theorem wtB_of (h : wtB ops.toList n = true) : (∀ j, j < n → n < ops.size → Region.waitsFor .any ops n j = true) ∧ ∀ i, n < i → i < ops.size → ∃ j, n ≤ j ∧ j < i ∧ Region.waitsFor .any ops i j = true := by
  unfold wtB at h
  refine ⟨fun j hj hn => ?_, fun i hi his => ?_⟩
  · have h1 := allI_at h n ops[n] (by simp [hn])
    simp only [Bool.or_eq_true, Nat.zero_add] at h1
    rcases h1 with h1 | h1
    · simp at h1
    · rw [Nat.beq_refl] at h1
      have h2 := allI_at h1 j ops[j] (by simp)
      simp only [Bool.or_eq_true, Nat.zero_add, Nat.ble_eq] at h2
      rcases h2 with h2 | h2
      · omega
      · exact waits_for (by simp [hn]) h2
  · have h1 := allI_at h i ops[i] (by simp [his])
    simp only [Bool.or_eq_true, Nat.zero_add] at h1
    rcases h1 with h1 | h1
    · have : i < n := by simpa using h1
      omega
    · have hb : Nat.beq i n = false := by
        cases hq : Nat.beq i n with
        | false => rfl
        | true => have := Nat.eq_of_beq_eq_true hq; omega
      rw [hb] at h1
      obtain ⟨j, x, h2, h3⟩ := anyI_at h1
      simp only [Bool.and_eq_true, Nat.ble_eq, Nat.zero_add] at h3
      obtain ⟨⟨h4, h5⟩, h6⟩ := h3
      exact ⟨j, h4, by simpa using h5, waits_for (by simp [his]) h6⟩
/-- What is ready is not listed, and what it waits for is. -/
theorem ready_of {listed : Array Bool} {i : Nat} (h : i ∈ Region.ready .any ops listed) : i < ops.size ∧ listed.getD i true = false ∧ ∀ j, Region.waitsFor .any ops i j = true → listed.getD j false = true := by
  obtain ⟨q1, o, q2, q3⟩ := mem_ready.1 h
  refine ⟨(Array.getElem?_eq_some_iff.1 q2).1, q1, fun j hj => ?_⟩
  obtain ⟨o', ho', e, he, hb, hon⟩ := Region.waitsFor_spec hj
  rw [q2] at ho'; injection ho' with ho'; subst ho'
  have := q3 e he hb
  rwa [hon] at this
theorem least_ready {listed : Array Bool} {i : Nat} (hback : ∀ i o, ops[i]? = some o → ∀ e ∈ o.after, Region.binds .any e = true → e.on < i) (hi : i < ops.size) (hn : listed.getD i true = false) (hl : ∀ j, j < i → listed.getD j false = true) : i ∈ Region.ready .any ops listed :=
  mem_ready.2 ⟨hn, ops[i], by simp [hi], fun e he hb => hl e.on (hback i _ (by simp [hi]) e he hb)⟩
variable {β0 : Bt} {R0 : Nat → Prop} {w0 : World}
theorem head_anyG (hext : SoundExt P G ext) (hr : Run P G ext al n S) (hok : RegB ops al n) (hal : ∀ i o, i < n → ops[i]? = some o → ∃ ai, al[i]? = some ai ∧ cOper P ops o = some ai) (hns : n ≤ ops.size) (hwt : wtB ops.toList n = true) {Q : Exit → Act → World → Prop} {F : Nat}
    (hT : ∀ listed a w β R, HeadInv .any ops n listed → (∀ i, i < n → listed.getD i false = true) → Sim G β R (S n) a w → Gr β0 R0 w0 β R w → wpAny P .any ops Q F listed a w) :
    ∀ (f : Nat) (listed : Array Bool) (a : Act) (w : World) (β : Bt) (R : Nat → Prop), cnt listed n = f → HeadInv .any ops n listed → DInv G al n S β0 R0 w0 listed a w β R → wpAny P .any ops Q (f + F) listed a w := by
  obtain ⟨hw1, hw2⟩ := wtB_of hwt
  intro f
  induction f with
  | zero =>
    intro listed a w β R hc inv hI
    have hall := cnt_zero hc
    rw [Nat.zero_add]
    have hsim : Sim G β R (S n) a w := by
      refine ⟨hI.df, All2.of_get (by simp [hI.sz]) ?_, hI.hs⟩
      intro s x y hx hy
      have h1 := hI.sl s y (by simpa using hy) fun i ai hi _ hl => by rw [hall i hi] at hl; cases hl
      rw [nth_eq, List.getD_eq_getElem?_getD, hx] at h1
      exact h1
    exact hT listed a w β R inv hall hsim hI.gr
  | succ f ih =>
    intro listed a w β R hc inv hI
    rw [show f + 1 + F = (f + F) + 1 by omega]
    obtain ⟨i0, hi0, hu0, hb0⟩ := cnt_pos (by omega : 0 < cnt listed n)
    have hi0s : i0 < ops.size := by omega
    have hr0 : i0 ∈ Region.ready .any ops listed := least_ready hok.back hi0s (getD_in (by rw [inv.size]; exact hi0s) hu0) hb0
    refine ⟨fun h => (by rw [h] at hr0; cases hr0), fun i hi => ?_⟩
    obtain ⟨q1, o, q2, q3⟩ := mem_ready.1 hi
    obtain ⟨his, _, q4⟩ := ready_of hi
    have hin : i < n := by
      rcases Nat.lt_trichotomy i n with h | h | h
      · exact h
      · subst h
        have := q4 i0 (hw1 i0 hi0 his)
        rw [hu0] at this; cases this
      · obtain ⟨j, h1, h2, h3⟩ := hw2 i h his
        have h4 := q4 j h3
        have h5 := inv.tail j h1 (by omega)
        rw [getD_both h5] at h4; cases h4
    have hun := getD_both q1
    have hil : i < listed.size := by rw [inv.size]; exact his
    obtain ⟨ai, ha, hco⟩ := hal i o hin q2
    exact hI.step hext hr hok hin hil ha q2 hco hun q3 inv.closed fun a' w' β' R' hI' => ih _ a' w' β' R' (by have := cnt_set hil hun hin; omega) (inv.set hi hin) hI'
theorem regG_sound (hext : SoundExt P G ext) {id : Nat} (hm : P.follows .mixedOrders = true) (hal0 : cOpers P ops (ops.toList.take n) = some al) (hok0 : regBB ops.toList al n = true) (hns : n ≤ ops.size) (hwt : wtB ops.toList n = true) {st : St} {k : St → Tr} {K : X → St → Prop}
    (h : (regT (pureX ext) al st k).holds P G K) {Q : Exit → Act → World → Prop} {β : Bt} {R : Nat → Prop} {a : Act} {w : World} (hs : Sim G β R st a w)
    (hT : ∀ st' listed a' w' β' R', (k st').holds P G K → HeadInv .any ops n listed → (∀ i, i < n → listed.getD i false = true) → Sim G β' R' st' a' w' → Gr β R w β' R' w' → wpAny P .any ops Q (ops.size - n) listed a' w') : (Code.region id ops true).wp P Q a w := by
  have hok := regB_of hok0
  obtain ⟨hl0, hg0⟩ := cOpers_get hal0
  have hlen : al.length = n := by rw [hl0, List.length_take]; simp; omega
  have hal : ∀ i o, i < n → ops[i]? = some o → ∃ ai, al[i]? = some ai ∧ cOper P ops o = some ai := fun i o hi ho => hg0 i o (by rw [List.getElem?_take, if_pos hi]; simpa using ho)
  obtain ⟨S, h0, hk, hst⟩ := regT_run hext al st (fun ai hai => by
    obtain ⟨i, hi⟩ := List.mem_iff_getElem?.1 hai
    exact hok.hd i ai hi (by have := (List.getElem?_eq_some_iff.1 hi).1; omega)) h
  rw [hlen] at hk
  have hr : Run P G ext al n S := ⟨by omega, fun i ai hi ha => hst i ai ha⟩
  refine wp_region_any hm ?_
  obtain ⟨hs', hg⟩ := hs.drawn (w.drawn + 1)
  have hle := hr.le (i := 0) (j := n) (Nat.zero_le _) (Nat.le_refl _)
  have key := head_anyG (β0 := β) (R0 := R) (w0 := w) hext hr hok hal hns hwt (Q := Q) (F := ops.size - n) (fun listed a' w' β' R' i1 i2 h1 h2 => hT (S n) listed a' w' β' R' hk i1 i2 h1 h2) n (Array.replicate ops.size false) a { w with drawn := w.drawn + 1 } β R
    (cnt_all (by omega)) ⟨by simp, fun j oj _ hl => (by rw [getD_replicate_false] at hl; cases hl), fun t _ ht => getD_in (by simpa using ht) (getD_replicate_false _ _)⟩ ?_
  · rwa [show n + (ops.size - n) = ops.size by omega] at key
  · rw [h0] at hle
    refine ⟨hg, ?_, hs.df, ?_, ?_, ?_, ?_⟩
    · have hb : ∀ i x, β i = some x → nth .gone (S n).h i = nth .gone st.h i := fun i x hi => hle.2.2.1 i (hs'.hs.dom i x hi)
      refine ⟨fun i x hi => Nat.lt_of_lt_of_le (hs'.hs.dom i x hi) hle.2.1, ?_, ?_, hs'.hs.lt, hs'.hs.rlt, ?_, hs'.hs.gl, fun b ad hq => ⟨(hs'.hs.ql b ad hq).1, (hs'.hs.ql b ad hq).2.1, fun i o hi => by rw [hb i _ hi]; exact (hs'.hs.ql b ad hq).2.2 i o hi⟩⟩
      · intro i j b o o' hi hj li lj
        rw [hb i _ hi] at li; rw [hb j _ hj] at lj
        exact hs'.hs.inj i j b o o' hi hj li lj
      · intro i b o hi li
        rw [hb i _ hi] at li
        exact hs'.hs.sep i b o hi li
      · intro i b o hi
        rw [hb i _ hi]
        exact hs'.hs.obj i b o hi
    · have := hs.tm.length; simp at this; omega
    · intro s u hu hnd
      rw [hle.2.2.2 s fun l ai _ hl ha => hnd l ai hl ha (getD_replicate_false _ _)]
      have hv := ev_sound (x := .tmp s) hs' rfl
      have e : a.eval (.tmp s) = u := by show a.tmps.getD s undef = u; simp [hu]
      rw [e] at hv
      exact hv
    · intro i hi _ id h1 h2
      cases hb : β id with
      | none => rfl
      | some x =>
        have h3 := hs.hs.dom id x hb
        have := (hr.le (i := 0) (j := i) (Nat.zero_le _) (by omega)).2.1
        rw [h0] at this
        omega
    · intro s u hu _
      rw [h0]
      have hv := ev_sound (x := .tmp s) hs' rfl
      have e : a.eval (.tmp s) = u := by show a.tmps.getD s undef = u; simp [hu]
      rw [e] at hv
      exact hv
end
end Go.AE
