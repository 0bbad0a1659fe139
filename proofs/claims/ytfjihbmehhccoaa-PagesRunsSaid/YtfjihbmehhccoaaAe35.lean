/- AE, part 35: methods: functions that write what their arguments point to. -/
import Derived.Test.YtfjihbmehhccoaaAe34
namespace Go.AE
set_option linter.unusedVariables false
set_option linter.unusedSimpArgs false
open Go.RowKit

/-! ### Going in -/
/-- The arguments, by the callee's numbers: pointers to pinned blocks (ids) are pins, which come behind the n blocks. -/
def inC (ρ ids : List Nat) (n : Nat) : C → C
  | .ptr id off => match idxOf id ids 0 with
    | some i => .ptr (n + i) off
    | none => renC ρ (.ptr id off)
  | x => renC ρ x
def inCs (ρ ids : List Nat) (n : Nat) : List C → List C
  | [] => []
  | c :: r => inC ρ ids n c :: inCs ρ ids n r
def inV (ρ ids : List Nat) (n : Nat) : V → V
  | .c x => .c (inC ρ ids n x)
  | .a cs => .a (inCs ρ ids n cs)
  | .t _ => .c .top
def inVs (ρ ids : List Nat) (n : Nat) : List V → List V
  | [] => []
  | v :: r => inV ρ ids n v :: inVs ρ ids n r
def pinL (ρ : List Nat) : List Nat → List Nat → List AO
  | id :: r, b :: bs => (match idxOf id ρ 0 with
    | some j => .pin j b
    | none => .gone) :: pinL ρ r bs
  | _, _ => []
def appO2 : List AO → List AO → List AO
  | [], m => m
  | x :: r, m => x :: appO2 r m
theorem appO2_eq : ∀ l m : List AO, appO2 l m = l ++ m
  | [], _ => rfl
  | x :: r, m => by simp [appO2, appO2_eq r m]
def inH (ρ ids : List Nat) (h : List AO) (bs : List Nat) : List AO := appO2 (projH ρ h ρ) (pinL ρ ids bs)
/-! ### Coming out -/
def lkup : List Nat → List Nat → Nat → Option Nat
  | j :: js, id :: ids, x => match Nat.beq j x with
    | true => some id
    | false => lkup js ids x
  | _, _, _ => none
/-- The caller's number of a callee's block. -/
def outN (js ids : List Nat) (L x : Nat) : Nat := match lkup js ids x with
  | some id => id
  | none => L + x
def outC (js ids : List Nat) (L : Nat) : C → C
  | .p x => .p x
  | .ptr id off => .ptr (outN js ids L id) off
  | .rp id sz e o => match memN id js with
    | true => .top
    | false => .rp (L + id) sz e o
  | .lp sz n f e o => .lp sz n f e o
  | .sl id sz off len => match memN id js with
    | true => .top
    | false => .sl (L + id) sz off len
  | .mp id => match memN id js with
    | true => .top
    | false => .mp (L + id)
  | .own ty sz n f => .own ty sz n f
  | .fn .. => .top
  | .top => .top
def outCs (js ids : List Nat) (L : Nat) : List C → List C
  | [] => []
  | c :: r => outC js ids L c :: outCs js ids L r
def outV (js ids : List Nat) (L : Nat) : V → V
  | .c x => .c (outC js ids L x)
  | .a cs => .a (outCs js ids L cs)
  | .t _ => .c .top
def outO (js ids : List Nat) (L : Nat) : AO → AO
  | .cells ty vs => .cells ty (outCs js ids L vs)
  | .row ty sz n f => .row ty sz n fun e o => outC js ids L (f e o)
  | .foc ty sz n e0 vs f => .foc ty sz n e0 (outCs js ids L vs) fun e o => outC js ids L (f e o)
  | .mapb ok g => .mapb ok g
  | .mapl ok ty sz g none => .mapl ok ty sz g none
  | .mapl ok ty sz g (some (k, c)) => .mapl ok ty sz g (some (k, outC js ids L c))
  | .pin .. => .gone
  | .gone => .gone
def mapI (f : Nat → AO → AO) : Nat → List AO → List AO
  | _, [] => []
  | i, x :: r => f i x :: mapI f (i + 1) r
def oldF (ρ ids js : List Nat) (L : Nat) (hE : List AO) (i : Nat) (x : AO) : AO := match lkup ids js i with
  | some j => outO js ids L (nth .gone hE j)
  | none => match memN i ρ with
    | true => .gone
    | false => x
def newF (js ids : List Nat) (L : Nat) (j : Nat) (x : AO) : AO := match memN j js with
  | true => .gone
  | false => outO js ids L x
def outH (ρ ids js : List Nat) (h hE : List AO) : List AO := appO2 (mapI (oldF ρ ids js (lenL h) hE) 0 h) (mapI (newF js ids (lenL h)) 0 hE)
theorem mapI_length (f : Nat → AO → AO) : ∀ (i : Nat) (l : List AO), (mapI f i l).length = l.length
  | _, [] => rfl
  | i, x :: r => by simp [mapI, mapI_length f (i + 1) r]
theorem mapI_nth (f : Nat → AO → AO) : ∀ (i : Nat) (l : List AO) (j : Nat), j < l.length → nth .gone (mapI f i l) j = f (i + j) (nth .gone l j)
  | _, [], j, h => by simp at h
  | i, x :: r, 0, _ => rfl
  | i, x :: r, j + 1, h => by
    show nth .gone (mapI f (i + 1) r) j = _
    rw [mapI_nth f (i + 1) r j (by simpa using h), show i + 1 + j = i + (j + 1) by omega]; rfl
theorem nth_app_lt {l m : List AO} {i : Nat} (h : i < l.length) : nth .gone (appO2 l m) i = nth .gone l i := by
  rw [appO2_eq, nth_eq, nth_eq, List.getD_eq_getElem?_getD, List.getD_eq_getElem?_getD, List.getElem?_append_left h]
theorem nth_app_ge {l m : List AO} {i : Nat} (h : l.length ≤ i) : nth .gone (appO2 l m) i = nth .gone m (i - l.length) := by
  rw [appO2_eq, nth_eq, nth_eq, List.getD_eq_getElem?_getD, List.getD_eq_getElem?_getD, List.getElem?_append_right h]
theorem nth_out_old {ρ ids js : List Nat} {h hE : List AO} {i : Nat} (hi : i < h.length) : nth .gone (outH ρ ids js h hE) i = oldF ρ ids js (lenL h) hE i (nth .gone h i) := by
  unfold outH
  rw [nth_app_lt (by rw [mapI_length]; exact hi), mapI_nth _ _ _ _ hi, Nat.zero_add]
theorem nth_out_new {ρ ids js : List Nat} {h hE : List AO} {j : Nat} (hj : j < hE.length) : nth .gone (outH ρ ids js h hE) (h.length + j) = newF js ids (lenL h) j (nth .gone hE j) := by
  unfold outH
  rw [nth_app_ge (by rw [mapI_length]; omega), mapI_length, show h.length + j - h.length = j by omega, mapI_nth _ _ _ _ hj, Nat.zero_add]
theorem outH_length {ρ ids js : List Nat} {h hE : List AO} : (outH ρ ids js h hE).length = h.length + hE.length := by
  unfold outH
  rw [appO2_eq, List.length_append, mapI_length, mapI_length]
theorem lkup_some {x y : Nat} : ∀ {js ids : List Nat}, lkup js ids x = some y → ∃ m : Nat, js[m]? = some x ∧ ids[m]? = some y
  | [], _, h => by simp [lkup] at h
  | _ :: _, [], h => by simp [lkup] at h
  | j :: js, id :: ids, h => by
    simp only [lkup] at h
    cases hb : Nat.beq j x with
    | true =>
      rw [hb] at h
      injection h with h
      exact ⟨0, by simp [Nat.eq_of_beq_eq_true hb], by simp [h]⟩
    | false =>
      rw [hb] at h
      obtain ⟨m, h1, h2⟩ := lkup_some h
      exact ⟨m + 1, by simpa using h1, by simpa using h2⟩
theorem lkup_none {x : Nat} : ∀ {js ids : List Nat}, js.length = ids.length → lkup js ids x = none → x ∉ js
  | [], _, _, _ => by simp
  | _ :: _, [], h, _ => by simp at h
  | j :: js, id :: ids, hl, h => by
    simp only [lkup] at h
    cases hb : Nat.beq j x with
    | true => rw [hb] at h; cases h
    | false =>
      rw [hb] at h
      have := lkup_none (by simpa using hl) h
      have h2 := Nat.ne_of_beq_eq_false hb
      simp [this, Ne.symm h2]
theorem outO_live {js ids : List Nat} {L : Nat} {x : AO} (h : (outO js ids L x).live = true) : x.live = true := by
  cases x with
  | pin => cases h
  | gone => cases h
  | _ => rfl
section
variable {P : Program} {G : Nat → Option Obj} {β β2 β3 : Bt} {R R2 : Nat → Prop} {w w' : World} {h hE : List AO} {ρ ids js bs : List Nat}
def passed (β : Bt) (ρ : List Nat) (b : Nat) : Prop := ∃ id ∈ ρ, ∃ o, β id = some (b, o)
open Classical in
/-- The callee's blocks. -/
noncomputable def inB (β : Bt) (ρ ids : List Nat) : Bt := ⟨fun j => if j < ρ.length then (ρ[j]?).bind β.f else (ids[j - ρ.length]?).bind β.f, fun b => match β.q b with
  | some (bi, c) => if passed β ρ bi then some (bi, c) else none
  | none => none⟩
theorem inB_f {j : Nat} {x : Nat × Nat} (hx : inB β ρ ids j = some x) : (j < ρ.length ∧ ∃ id, ρ[j]? = some id ∧ β id = some x) ∨ (ρ.length ≤ j ∧ ∃ id, ids[j - ρ.length]? = some id ∧ β id = some x) := by
  simp only [inB] at hx
  split at hx
  · rename_i hj
    simp only [Option.bind_eq_some_iff] at hx
    exact .inl ⟨hj, hx⟩
  · rename_i hj
    simp only [Option.bind_eq_some_iff] at hx
    exact .inr ⟨by omega, hx⟩
theorem inB_q {b : Nat} {ad : Nat × Nat} (hx : (inB β ρ ids).q b = some ad) : β.q b = some ad ∧ passed β ρ ad.1 := by
  simp only [inB] at hx
  split at hx
  · rename_i bi c hq
    split at hx
    · rename_i hp; injection hx with hx; subst hx; exact ⟨hq, hp⟩
    · cases hx
  · cases hx
theorem inB_q_of {b : Nat} {ad : Nat × Nat} (h1 : β.q b = some ad) (h2 : passed β ρ ad.1) : (inB β ρ ids).q b = some ad := by
  simp only [inB, h1, if_pos h2]
theorem inB_lt {j : Nat} (hj : j < ρ.length) : inB β ρ ids j = (ρ[j]?).bind β.f := by simp only [inB, if_pos hj]
theorem inB_ge {j : Nat} (hj : ρ.length ≤ j) : inB β ρ ids j = (ids[j - ρ.length]?).bind β.f := by simp only [inB, if_neg (show ¬ j < ρ.length by omega)]
theorem inB_has {b : Nat} (hsub : ∀ id ∈ ids, id ∈ ρ) (hb : (inB β ρ ids).has b) : passed β ρ b ∨ ∃ ad, β.q b = some ad ∧ passed β ρ ad.1 := by
  rcases hb with ⟨i, o, hi⟩ | ⟨ad, hi⟩
  · left
    rcases inB_f hi with ⟨_, id, h1, h2⟩ | ⟨_, id, h1, h2⟩
    · exact ⟨id, List.mem_of_getElem? h1, o, h2⟩
    · exact ⟨id, hsub id (List.mem_of_getElem? h1), o, h2⟩
  · exact .inr ⟨ad, inB_q hi⟩
theorem pinL_length : ∀ {ids bs : List Nat}, ids.length = bs.length → (pinL ρ ids bs).length = ids.length
  | [], [], _ => rfl
  | [], _ :: _, h => by simp at h
  | _ :: _, [], h => by simp at h
  | _ :: ids, _ :: bs, h => by simp [pinL, pinL_length (ids := ids) (bs := bs) (by simpa using h)]
theorem pinL_nth : ∀ {ids bs : List Nat} {i id b : Nat}, ids[i]? = some id → bs[i]? = some b → nth .gone (pinL ρ ids bs) i = (match idxOf id ρ 0 with
    | some j => AO.pin j b
    | none => .gone)
  | [], _, i, _, _, h, _ => by simp at h
  | _ :: _, [], i, _, _, _, h => by simp at h
  | _ :: ids, _ :: bs, 0, _, _, h1, h2 => by
    simp at h1 h2; subst h1; subst h2; rfl
  | _ :: ids, _ :: bs, i + 1, _, _, h1, h2 => by
    show nth .gone (pinL ρ ids bs) i = _
    exact pinL_nth (by simpa using h1) (by simpa using h2)
theorem idxOf_mem {id : Nat} : ∀ {l : List Nat} (n : Nat), id ∈ l → ∃ j, idxOf id l n = some j
  | [], _, h => by cases h
  | k :: r, n, h => by
    simp only [idxOf]
    cases hb : Nat.beq k id with
    | true => exact ⟨n, rfl⟩
    | false =>
      rcases List.mem_cons.1 h with rfl | h
      · rw [Nat.beq_refl] at hb; cases hb
      · exact idxOf_mem (n + 1) h
theorem pinL_dead : ∀ (ids bs : List Nat) (i : Nat), (nth .gone (pinL ρ ids bs) i).live = false
  | [], _, _ => by cases ‹Nat› <;> rfl
  | _ :: _, [], i => by cases i <;> rfl
  | id :: ids, b :: bs, 0 => by
    show (match idxOf id ρ 0 with
    | some j => AO.pin j b
    | none => .gone).live = false
    cases idxOf id ρ 0 <;> rfl
  | id :: ids, b :: bs, i + 1 => pinL_dead ids bs i
/-- The callee's state. -/
theorem hs_in (hh : HS G β R w h) (hρ : noDup ρ = true) (hlv : ∀ id ∈ ρ, (nth .gone h id).live = true) (hsub : ∀ id ∈ ids, id ∈ ρ) (hbl : ids.length = bs.length)
    (hbs : ∀ (i : Nat) id b, ids[i]? = some id → bs[i]? = some b → ∃ o, β id = some (b, o)) : HS G (inB β ρ ids) R w (inH ρ ids h bs) := by
  have hpl : (projH ρ h ρ).length = ρ.length := projH_length ρ
  have hn1 : ∀ j id, ρ[j]? = some id → nth .gone (inH ρ ids h bs) j = renO ρ (nth .gone h id) := fun j id hj => by
    unfold inH
    rw [nth_app_lt (by rw [hpl]; exact (List.getElem?_eq_some_iff.1 hj).1), projH_nth hj]
  have hn2 : ∀ j, ρ.length ≤ j → nth .gone (inH ρ ids h bs) j = nth .gone (pinL ρ ids bs) (j - ρ.length) := fun j hj => by
    unfold inH
    rw [nth_app_ge (by rw [hpl]; exact hj), hpl]
  have hdead : ∀ j, ρ.length ≤ j → (nth .gone (inH ρ ids h bs) j).live = false := fun j hj => by rw [hn2 j hj]; exact pinL_dead _ _ _
  have hkp : Keeps (bρ ρ β) R w (inB β ρ ids) R w := ⟨fun i x hi => by
    have hi : (ρ[i]?).bind β.f = some x := hi
    have hlt : i < ρ.length := by
      rcases Nat.lt_or_ge i ρ.length with h | h
      · exact h
      · rw [List.getElem?_eq_none h] at hi; cases hi
    rw [inB_lt hlt]; exact hi, fun _ h => h, fun _ _ => rfl⟩
  refine ⟨?_, ?_, ?_, ?_, hh.rlt, ?_, hh.gl, ?_⟩
  · intro j x hj
    have hlen : (inH ρ ids h bs).length = ρ.length + ids.length := by unfold inH; rw [appO2_eq, List.length_append, hpl, pinL_length hbl]
    rcases inB_f hj with ⟨h1, _⟩ | ⟨h1, id, h2, _⟩
    · omega
    · have := (List.getElem?_eq_some_iff.1 h2).1; omega
  · intro i j b o o' hi hj li lj
    rcases inB_f hi with ⟨h1, id, h2, h3⟩ | ⟨h1, _⟩
    · rcases inB_f hj with ⟨h4, jd, h5, h6⟩ | ⟨h4, _⟩
      · have := hh.inj id jd b o o' h3 h6 (hlv id (List.mem_of_getElem? h2)) (hlv jd (List.mem_of_getElem? h5))
        subst this
        exact noDup_inj hρ h2 h5
      · rw [hdead j h4] at lj; cases lj
    · rw [hdead i h1] at li; cases li
  · intro i b o hi li
    rcases inB_f hi with ⟨h1, id, h2, h3⟩ | ⟨h1, _⟩
    · exact hh.sep id b o h3 (hlv id (List.mem_of_getElem? h2))
    · rw [hdead i h1] at li; cases li
  · intro i b o hi
    rcases inB_f hi with ⟨h1, id, h2, h3⟩ | ⟨h1, id, h2, h3⟩
    · exact hh.lt id b o h3
    · exact hh.lt id b o h3
  · intro i b o hi
    rcases inB_f hi with ⟨h1, id, h2, h3⟩ | ⟨h1, id, h2, h3⟩
    · rw [hn1 i id h2]
      exact OR.keep hkp (fun b1 c hq => ⟨inB_q_of hq ⟨id, List.mem_of_getElem? h2, o, h3⟩, rfl⟩) rfl (renO_sound (hh.obj id b o h3))
    · have hlt := (List.getElem?_eq_some_iff.1 h2).1
      have hb2 : bs[i - ρ.length]? = some (bs[i - ρ.length]'(by omega)) := List.getElem?_eq_getElem (by omega)
      generalize bs[i - ρ.length]'(by omega) = b2 at hb2
      obtain ⟨j, hj⟩ := idxOf_mem (l := ρ) 0 (hsub id (List.mem_of_getElem? h2))
      rw [hn2 i h1, pinL_nth h2 hb2, hj]
      obtain ⟨o2, h4⟩ := hbs _ id b2 h2 hb2
      rw [h3] at h4; injection h4 with h4; injection h4 with h4 h5
      subst h4; subst h5
      refine ⟨rfl, o, ?_⟩
      have h6 := (idxOf_some hj).2
      simp only [Nat.sub_zero] at h6
      rw [inB_lt (List.getElem?_eq_some_iff.1 h6).1, h6]
      exact h3
  · intro b ad hb
    obtain ⟨h1, h2⟩ := inB_q hb
    obtain ⟨q1, q2, q3⟩ := hh.ql b ad h1
    refine ⟨q1, q2, fun i o hi => ?_⟩
    rcases inB_f hi with ⟨h3, id, h4, h5⟩ | ⟨h3, _⟩
    · have := q3 id o h5
      rw [hlv id (List.mem_of_getElem? h4)] at this; cases this
    · exact hdead i h3
theorem inC_sound (hsub : ∀ id ∈ ids, id ∈ ρ) {x : C} {u : Value} (hx : CR β R w x u) : CR (inB β ρ ids) R w (inC ρ ids ρ.length x) u := by
  have hkp : Keeps (bρ ρ β) R w (inB β ρ ids) R w := ⟨fun i x hi => by
    have hi : (ρ[i]?).bind β.f = some x := hi
    have hlt : i < ρ.length := by
      rcases Nat.lt_or_ge i ρ.length with h | h
      · exact h
      · rw [List.getElem?_eq_none h] at hi; cases hi
    rw [inB_lt hlt]; exact hi, fun _ h => h, fun _ _ => rfl⟩
  have gen : ∀ y : C, CR β R w y u → CR (inB β ρ ids) R w (renC ρ y) u := fun y hy =>
    CR.keep (β := ⟨(bρ ρ β).f, β.q⟩) ⟨hkp.bm, fun _ h => h, fun _ _ => rfl⟩ (renC_sound hy)
  cases x with
  | ptr id off =>
    show CR _ _ _ (match idxOf id ids 0 with
      | some i => C.ptr (ρ.length + i) off
      | none => renC ρ (.ptr id off)) u
    cases hi : idxOf id ids 0 with
    | none => exact gen _ hx
    | some i =>
      have h6 := (idxOf_some hi).2
      simp only [Nat.sub_zero] at h6
      obtain ⟨b, o, h1, h2⟩ := hx
      refine ⟨b, o, ?_, h2⟩
      rw [inB_ge (by omega), show ρ.length + i - ρ.length = i by omega, h6]
      exact h1
  | _ => exact gen _ hx
theorem inCs_sound (hsub : ∀ id ∈ ids, id ∈ ρ) : ∀ {xs : List C} {us : List Value}, All2 (CR β R w) xs us → All2 (CR (inB β ρ ids) R w) (inCs ρ ids ρ.length xs) us
  | [], [], _ => trivial
  | [], _ :: _, h => h.elim
  | _ :: _, [], h => h.elim
  | _ :: _, _ :: _, h => ⟨inC_sound hsub h.1, inCs_sound hsub h.2⟩
theorem inVs_sound (hsub : ∀ id ∈ ids, id ∈ ρ) : ∀ {xs : List V} {us : List Value}, All2 (VR β R w) xs us → All2 (VR (inB β ρ ids) R w) (inVs ρ ids ρ.length xs) us
  | [], [], _ => trivial
  | [], _ :: _, h => h.elim
  | _ :: _, [], h => h.elim
  | v :: _, _ :: _, h => ⟨by
      cases v with
      | c x => exact inC_sound hsub h.1
      | a cs => obtain ⟨us, h1, h2⟩ := h.1; exact ⟨us, h1, inCs_sound hsub h2⟩
      | t vs => exact trivial, inVs_sound hsub h.2⟩
theorem inVs_length {n : Nat} : ∀ xs : List V, (inVs ρ ids n xs).length = xs.length
  | [] => rfl
  | _ :: xs => by simp [inVs, inVs_length xs]
open Classical in
/-- The caller's blocks afterwards. -/
noncomputable def outB (β β2 : Bt) (ρ : List Nat) (L : Nat) : Bt := ⟨fun i => if i < L then β i else β2 (i - L), fun b => match β2.q b with
  | some ad => some ad
  | none => match β.q b with
    | some (bi, c) => if passed β ρ bi then none else some (bi, c)
    | none => none⟩
theorem outB_lt {L i : Nat} (hi : i < L) : outB β β2 ρ L i = β i := by simp only [outB, if_pos hi]
theorem outB_new {L j : Nat} : outB β β2 ρ L (L + j) = β2 j := by
  simp only [outB, if_neg (show ¬ L + j < L by omega)]
  rw [show L + j - L = j by omega]
theorem outB_q2 {L b : Nat} {ad : Nat × Nat} (hq : β2.q b = some ad) : (outB β β2 ρ L).q b = some ad := by simp only [outB, hq]
theorem outB_q {L b : Nat} {ad : Nat × Nat} (hq : (outB β β2 ρ L).q b = some ad) : β2.q b = some ad ∨ (β.q b = some ad ∧ ¬ passed β ρ ad.1) := by
  simp only [outB] at hq
  split at hq
  · rename_i ad' h1; injection hq with hq; subst hq; exact .inl h1
  · split at hq
    · rename_i bi c h1
      split at hq
      · cases hq
      · rename_i hp; injection hq with hq; subst hq; exact .inr ⟨h1, hp⟩
    · cases hq
theorem outC_sound {β3 : Bt} {L : Nat} (hjs : js.length = ids.length) (hnum : ∀ j x, β2 j = some x → β3 (L + j) = some x) (hpin : ∀ (i : Nat) id j, ids[i]? = some id → js[i]? = some j → ∃ b o o2, β3 id = some (b, o) ∧ β2 j = some (b, o2)) {x : C} {u : Value} (hx : CR β2 R2 w' x u) : CR β3 R2 w' (outC js ids L x) u := by
  cases x with
  | p x => exact hx
  | lp => exact hx
  | own => exact trivial
  | fn => exact trivial
  | top => exact trivial
  | ptr id off =>
    obtain ⟨b, o, h1, h2⟩ := hx
    show ∃ b o, β3 (outN js ids L id) = some (b, o) ∧ _
    unfold outN
    cases hl : lkup js ids id with
    | none => exact ⟨b, o, hnum _ _ h1, h2⟩
    | some id' =>
      obtain ⟨m, h3, h4⟩ := lkup_some hl
      obtain ⟨b', o', o2, h5, h6⟩ := hpin m id' id h4 h3
      rw [h1] at h6; injection h6 with h6; injection h6 with h6 h7
      subst h6
      exact ⟨_, o', h5, h2⟩
  | rp id sz e o =>
    obtain ⟨b, o, h1, h2⟩ := hx
    show CR _ _ _ (match memN id js with
      | true => C.top
      | false => .rp (L + id) sz e _) u
    cases memN id js with
    | true => exact trivial
    | false => exact ⟨b, o, hnum _ _ h1, h2⟩
  | sl id sz off len =>
    obtain ⟨A, c, h1, h2, h3, h4⟩ := hx
    show CR _ _ _ (match memN id js with
      | true => C.top
      | false => .sl (L + id) sz off len) u
    cases memN id js with
    | true => exact trivial
    | false =>
      refine ⟨A, c, h1, h2, h3, ?_⟩
      rcases h4 with h4 | ⟨b, N, h5, h6, h7⟩
      · exact .inl h4
      · exact .inr ⟨b, N, hnum _ _ h5, h6, h7⟩
  | mp id =>
    obtain ⟨b, N, h1, h2⟩ := hx
    show CR _ _ _ (match memN id js with
      | true => C.top
      | false => .mp (L + id)) u
    cases memN id js with
    | true => exact trivial
    | false => exact ⟨b, N, hnum _ _ h1, h2⟩
theorem outCs_length (L : Nat) : ∀ xs : List C, (outCs js ids L xs).length = xs.length
  | [] => rfl
  | _ :: xs => by simp [outCs, outCs_length L xs]
theorem outCs_nth (L : Nat) : ∀ (xs : List C) (i : Nat), nth .top (outCs js ids L xs) i = outC js ids L (nth .top xs i)
  | [], _ => rfl
  | _ :: _, 0 => rfl
  | _ :: xs, i + 1 => outCs_nth L xs i
theorem outCs_all {β3 : Bt} {L : Nat} (hc : ∀ (x : C) (u : Value), CR β2 R2 w' x u → CR β3 R2 w' (outC js ids L x) u) : ∀ {xs : List C} {us : List Value}, All2 (CR β2 R2 w') xs us → All2 (CR β3 R2 w') (outCs js ids L xs) us
  | [], [], _ => trivial
  | [], _ :: _, h => h.elim
  | _ :: _, [], h => h.elim
  | _ :: _, _ :: _, h => ⟨hc _ _ h.1, outCs_all hc h.2⟩
theorem outV_sound {β3 : Bt} {L : Nat} (hc : ∀ (x : C) (u : Value), CR β2 R2 w' x u → CR β3 R2 w' (outC js ids L x) u) {x : V} {u : Value} (h : VR β2 R2 w' x u) : VR β3 R2 w' (outV js ids L x) u := by
  cases x with
  | c x => exact hc _ _ h
  | a cs => obtain ⟨us, h1, h2⟩ := h; exact ⟨us, h1, outCs_all hc h2⟩
  | t vs => exact trivial
theorem outO_sound {β3 : Bt} {L : Nat} (hc : ∀ (x : C) (u : Value), CR β2 R2 w' x u → CR β3 R2 w' (outC js ids L x) u) (hq : ∀ b ad, β2.q b = some ad → β3.q b = some ad) {x : AO} {b o : Nat} (h : OR β2 R2 w' x b o) : OR β3 R2 w' (outO js ids L x) b o := by
  have hco : ∀ (ad : Nat × Nat) (x : C) (u : Value), CRo β2 R2 w' ad x u → CRo β3 R2 w' ad (outC js ids L x) u := by
    intro ad x u hx
    cases ho : x.isOwn with
    | true =>
      cases x with
      | own ty sz n f =>
        obtain ⟨A, c, h1, h2, h3, h4⟩ := hx
        refine ⟨A, c, h1, h2, h3, ?_⟩
        rcases h4 with h4 | ⟨b, cs, h5, h6, h7⟩
        · exact .inl h4
        · exact .inr ⟨b, cs, h5, hq _ _ h6, h7⟩
      | _ => cases ho
    | false =>
      refine CRo.of ?_ (hc _ _ hx.cr)
      cases x <;> first | rfl | (cases ho; done) | (simp only [outC]; split <;> rfl)
  cases x with
  | cells ty vs => obtain ⟨cs, h2, h3⟩ := h; exact ⟨cs, h2, outCs_all hc h3⟩
  | row ty sz n f =>
    obtain ⟨cs, h1, h0, h2, h3⟩ := h
    refine ⟨cs, h1, h0, h2, fun e k he hk => ?_⟩
    obtain ⟨u, h4, h5⟩ := h3 e k he hk
    exact ⟨u, h4, hco _ _ _ h5⟩
  | foc ty sz n e0 vs f =>
    obtain ⟨cs, h1, h0, h2, h21, h22, h3⟩ := h
    refine ⟨cs, h1, h0, h2, h21, by rw [outCs_length]; exact h22, fun e k he hk => ?_⟩
    obtain ⟨u, h4, h5, h6⟩ := h3 e k he hk
    exact ⟨u, h4, fun h => by rw [outCs_nth]; exact hc _ _ (h5 h), fun h => hco _ _ _ (h6 h)⟩
  | mapb ok g => exact h
  | mapl ok ty sz g fo =>
    obtain ⟨es, cl, h2, h3, h4, h5⟩ := h
    cases fo with
    | none =>
      refine ⟨es, cl, h2, h3, fun i e he => ?_, fun k0 hk0 => ?_⟩
      · obtain ⟨q1, q2, q3⟩ := h4 i e he
        exact ⟨q1, fun k0 c h1 => (by cases h1), fun _ => hco (b, i) _ _ (q3 (fun _ _ h => by cases h))⟩
      · obtain ⟨q1, q2⟩ := h5 k0 hk0
        exact ⟨fun k1 c h1 => (by cases h1), fun _ => q2 (fun _ _ h => by cases h)⟩
    | some kc =>
      obtain ⟨k9, c9⟩ := kc
      refine ⟨es, cl, h2, h3, fun i e he => ?_, fun k0 hk0 => ?_⟩
      · obtain ⟨q1, q2, q3⟩ := h4 i e he
        refine ⟨q1, fun k0 c h1 h2 => ?_, fun h1 => hco (b, i) _ _ (q3 fun k0 c h2 => ?_)⟩
        · injection h1 with h1; injection h1 with h1 h3; subst h1; subst h3
          exact hc _ _ (q2 _ _ rfl h2)
        · injection h2 with h2; injection h2 with h2 h3; subst h2; subst h3
          exact h1 _ _ rfl
      · obtain ⟨q1, q2⟩ := h5 k0 hk0
        refine ⟨fun k1 c h1 h2 => ?_, fun h1 => q2 fun k1 c h2 => ?_⟩
        · injection h1 with h1; injection h1 with h1 h3; subst h1; subst h3
          exact hc _ _ (q1 _ _ rfl h2)
        · injection h2 with h2; injection h2 with h2 h3; subst h2; subst h3
          exact h1 _ _ rfl
  | pin => exact trivial
  | gone => exact trivial
theorem outO_dead {L : Nat} {x : AO} (h : x.live = false) : (outO js ids L x).live = false := by
  cases x <;> first | rfl | cases h
def isCells : AO → Bool
  | .cells .. => true
  | _ => false
set_option maxHeartbeats 1000000 in
theorem hs_out (hh : HS G β R w h) (hlv : ∀ id ∈ ρ, (nth .gone h id).live = true) (hsub : ∀ id ∈ ids, id ∈ ρ) (hjs : js.length = ids.length)
    (fr : Fr (inB β ρ ids) R w β2 R2 w') (rm : ∀ b, R b → R2 b) (h2 : HS G β2 R2 w' hE)
    (hpin : ∀ (i : Nat) id j, ids[i]? = some id → js[i]? = some j → isCells (nth .gone hE j) = true ∧ ∃ b o o2, β id = some (b, o) ∧ β2 j = some (b, o2)) :
    HS G (outB β β2 ρ h.length) R2 w' (outH ρ ids js h hE) ∧ Gr β R w (outB β β2 ρ h.length) R2 w' ∧
      (∀ (x : C) (u : Value), CR β2 R2 w' x u → CR (outB β β2 ρ h.length) R2 w' (outC js ids h.length x) u) ∧ ∀ i, i < h.length → outB β β2 ρ h.length i = β i := by
  have hold : ∀ i, i < h.length → outB β β2 ρ h.length i = β i := fun i hi => outB_lt hi
  have hcase : ∀ i x, outB β β2 ρ h.length i = some x → (i < h.length ∧ β i = some x) ∨ ∃ j, i = h.length + j ∧ β2 j = some x := fun i x hx => by
    rcases Nat.lt_or_ge i h.length with hi | hi
    · rw [hold i hi] at hx; exact .inl ⟨hi, hx⟩
    · obtain ⟨j, rfl⟩ : ∃ j, i = h.length + j := ⟨i - h.length, by omega⟩
      rw [outB_new] at hx; exact .inr ⟨j, rfl, hx⟩
  have hnew : ∀ j x, β2 j = some x → outB β β2 ρ h.length (h.length + j) = some x := fun j x hx => by rw [outB_new]; exact hx
  have hpin' : ∀ (i : Nat) id j, ids[i]? = some id → js[i]? = some j → ∃ b o o2, outB β β2 ρ h.length id = some (b, o) ∧ β2 j = some (b, o2) := fun i id j h1 h3 => by
    obtain ⟨_, b, o, o2, h4, h5⟩ := hpin i id j h1 h3
    exact ⟨b, o, o2, by rw [hold id (hh.dom id _ h4)]; exact h4, h5⟩
  have hC : ∀ (x : C) (u : Value), CR β2 R2 w' x u → CR (outB β β2 ρ h.length) R2 w' (outC js ids h.length x) u := fun x u hx => outC_sound hjs hnew hpin' hx
  have hL : lenL h = h.length := lenL_eq h
  -- the caller's blocks that are not passed
  have hne : ∀ i b o, β i = some (b, o) → (nth .gone h i).live = true → i ∉ ρ → ¬ (inB β ρ ids).has b := by
    intro i b o hi li hn hb
    rcases inB_has hsub hb with ⟨id, h3, o', h4⟩ | ⟨ad, h3, _⟩
    · exact hn (hh.inj i id b o o' hi h4 li (hlv id h3) ▸ h3)
    · have := (hh.ql b ad h3).2.2 i o hi
      rw [li] at this; cases this
  have hhas : ∀ b, (inB β ρ ids).has b → β.has b ∧ b < w.heap.size := by
    intro b hb
    rcases inB_has hsub hb with ⟨id, _, o, h4⟩ | ⟨ad, h3, _⟩
    · exact ⟨.inl ⟨id, o, h4⟩, hh.lt id b o h4⟩
    · exact ⟨.inr ⟨ad, h3⟩, (hh.ql b ad h3).1⟩
  have hqn : ∀ b ad, β.q b = some ad → ¬ passed β ρ ad.1 → ¬ (inB β ρ ids).has b := by
    intro b ad h3 h4 hb
    rcases inB_has hsub hb with ⟨id, h5, o, h6⟩ | ⟨ad', h5, h6⟩
    · have := (hh.ql b ad h3).2.2 id o h6
      rw [hlv id h5] at this; cases this
    · rw [h3] at h5; injection h5 with h5; subst h5; exact h4 h6
  have hb2 : ∀ b, β2.has b → (inB β ρ ids).has b ∨ w.heap.size ≤ b := fr.ex
  -- contents
  have old_cases : ∀ i, i < h.length → (∃ (m : Nat) (j : Nat), ids[m]? = some i ∧ js[m]? = some j ∧ nth .gone (outH ρ ids js h hE) i = outO js ids h.length (nth .gone hE j)) ∨
      (i ∈ ρ ∧ nth .gone (outH ρ ids js h hE) i = .gone) ∨ (i ∉ ρ ∧ nth .gone (outH ρ ids js h hE) i = nth .gone h i) := by
    intro i hi
    rw [nth_out_old hi, hL]
    unfold oldF
    cases hl : lkup ids js i with
    | some j =>
      obtain ⟨m, h3, h4⟩ := lkup_some hl
      exact .inl ⟨m, j, h3, h4, rfl⟩
    | none =>
      cases hm : memN i ρ with
      | true => exact .inr (.inl ⟨memN_iff.1 hm, rfl⟩)
      | false => exact .inr (.inr ⟨fun h3 => (by rw [memN_iff.2 h3] at hm; cases hm), rfl⟩)
  have new_cases : ∀ j x, β2 j = some x → (j ∈ js ∧ nth .gone (outH ρ ids js h hE) (h.length + j) = .gone) ∨ (j ∉ js ∧ nth .gone (outH ρ ids js h hE) (h.length + j) = outO js ids h.length (nth .gone hE j)) := by
    intro j x hj
    rw [nth_out_new (h2.dom j x hj), hL]
    unfold newF
    cases hm : memN j js with
    | true => exact .inl ⟨memN_iff.1 hm, rfl⟩
    | false => exact .inr ⟨fun h3 => (by rw [memN_iff.2 h3] at hm; cases hm), rfl⟩
  -- what a live number stands for
  have key : ∀ i b o, outB β β2 ρ h.length i = some (b, o) → (nth .gone (outH ρ ids js h hE) i).live = true →
      (i < h.length ∧ i ∉ ρ ∧ β i = some (b, o) ∧ (nth .gone h i).live = true) ∨
      (∃ (m : Nat) (j : Nat) (o2 : Nat), i < h.length ∧ ids[m]? = some i ∧ js[m]? = some j ∧ β i = some (b, o) ∧ β2 j = some (b, o2) ∧ (nth .gone hE j).live = true) ∨
      (∃ j, i = h.length + j ∧ j ∉ js ∧ β2 j = some (b, o) ∧ (nth .gone hE j).live = true) := by
    intro i b o hi li
    rcases hcase i _ hi with ⟨h3, h4⟩ | ⟨j, rfl, h4⟩
    · rcases old_cases i h3 with ⟨m, j, h5, h6, h7⟩ | ⟨h5, h6⟩ | ⟨h5, h6⟩
      · obtain ⟨hc, b', o', o2, h8, h9⟩ := hpin m i j h5 h6
        rw [h4] at h8; injection h8 with h8; injection h8 with h8 h10
        subst h8; subst h10
        refine .inr (.inl ⟨m, j, o2, h3, h5, h6, h4, h9, ?_⟩)
        cases hx : nth .gone hE j <;> rw [hx] at hc <;> first | rfl | cases hc
      · rw [h6] at li; cases li
      · rw [h6] at li; exact .inl ⟨h3, h5, h4, li⟩
    · rcases new_cases j _ h4 with ⟨h5, h6⟩ | ⟨h5, h6⟩
      · rw [h6] at li; cases li
      · rw [h6] at li; exact .inr (.inr ⟨j, rfl, h5, h4, outO_live li⟩)
  have frk : Keeps β R w (outB β β2 ρ h.length) R2 w' := ⟨fun i x hi => by rw [hold i (hh.dom i x hi)]; exact hi, rm, fr.rs⟩
  have gr : Gr β R w (outB β β2 ρ h.length) R2 w' := {
    os := fr.os, tape := fr.tape, output := fr.output, size := fr.size, rs := fr.rs
    fr := fun b hb hn => fr.fr b hb fun hi => hn (hhas b hi).1
    ex := fun b hi => by
      have h9 : β2.has b → β.has b ∨ w.heap.size ≤ b := fun h3 => (hb2 b h3).imp (fun h4 => (hhas b h4).1) id
      rcases hi with ⟨i, o, hi⟩ | ⟨ad, hi⟩
      · rcases hcase i _ hi with ⟨_, h4⟩ | ⟨j, _, h4⟩
        · exact .inl (.inl ⟨i, o, h4⟩)
        · exact h9 (.inl ⟨j, o, h4⟩)
      · rcases outB_q hi with h4 | ⟨h4, _⟩
        · exact h9 (.inr ⟨ad, h4⟩)
        · exact .inl (.inr ⟨ad, h4⟩)
    rx := fun b hb => (fr.rx b hb).imp id (Or.imp (fun h4 => (hhas b h4).1) id)
    bm := frk.bm
    rm := rm }
  have hR2 : ∀ b, R2 b → b < w.heap.size → ¬ (inB β ρ ids).has b → R b := fun b hb hlt hn => by
    rcases fr.rx b hb with h3 | h3 | h3
    · exact h3
    · exact absurd h3 hn
    · omega
  refine ⟨⟨?_, ?_, ?_, ?_, h2.rlt, ?_, h2.gl, ?_⟩, gr, hC, hold⟩
  · intro i x hi
    rw [outH_length]
    rcases hcase i _ hi with ⟨h3, _⟩ | ⟨j, rfl, h4⟩
    · omega
    · have := h2.dom j x h4; omega
  · intro i1 i2 b o1 o2 hi1 hi2 l1 l2
    rcases key i1 b o1 hi1 l1 with ⟨a1, a2, a3, a4⟩ | ⟨m1, j1, p1, a1, a2, a3, a4, a5, a6⟩ | ⟨j1, rfl, a1, a2, a3⟩
    · rcases key i2 b o2 hi2 l2 with ⟨c1, c2, c3, c4⟩ | ⟨m2, j2, p2, c1, c2, c3, c4, c5, c6⟩ | ⟨j2, rfl, c1, c2, c3⟩
      · exact hh.inj i1 i2 b o1 o2 a3 c3 a4 c4
      · exact hh.inj i1 i2 b o1 o2 a3 c4 a4 (hlv i2 (hsub i2 (List.mem_of_getElem? c2)))
      · rcases hb2 b (.inl ⟨j2, o2, c2⟩) with h3 | h3
        · exact absurd h3 (hne i1 b o1 a3 a4 a2)
        · have := hh.lt i1 b o1 a3; omega
    · have la := hlv i1 (hsub i1 (List.mem_of_getElem? a2))
      rcases key i2 b o2 hi2 l2 with ⟨c1, c2, c3, c4⟩ | ⟨m2, j2, p2, c1, c2, c3, c4, c5, c6⟩ | ⟨j2, rfl, c1, c2, c3⟩
      · exact hh.inj i1 i2 b o1 o2 a4 c3 la c4
      · exact hh.inj i1 i2 b o1 o2 a4 c4 la (hlv i2 (hsub i2 (List.mem_of_getElem? c2)))
      · have := h2.inj j1 j2 b p1 o2 a5 c2 a6 c3
        subst this
        exact absurd (List.mem_of_getElem? a3) c1
    · rcases key i2 b o2 hi2 l2 with ⟨c1, c2, c3, c4⟩ | ⟨m2, j2, p2, c1, c2, c3, c4, c5, c6⟩ | ⟨j2, rfl, c1, c2, c3⟩
      · rcases hb2 b (.inl ⟨j1, o1, a2⟩) with h3 | h3
        · exact absurd h3 (hne i2 b o2 c3 c4 c2)
        · have := hh.lt i2 b o2 c3; omega
      · have := h2.inj j1 j2 b o1 p2 a2 c5 a3 c6
        subst this
        exact absurd (List.mem_of_getElem? c3) a1
      · rw [h2.inj j1 j2 b o1 o2 a2 c2 a3 c3]
  · intro i b o hi li
    rcases key i b o hi li with ⟨a1, a2, a3, a4⟩ | ⟨m1, j1, p1, a1, a2, a3, a4, a5, a6⟩ | ⟨j1, rfl, a1, a2, a3⟩
    · exact fun hb => hh.sep i b o a3 a4 (hR2 b hb (hh.lt i b o a3) (hne i b o a3 a4 a2))
    · exact h2.sep j1 b p1 a5 a6
    · exact h2.sep j1 b o a2 a3
  · intro i b o hi
    rcases hcase i _ hi with ⟨_, h4⟩ | ⟨j, _, h4⟩
    · exact Nat.lt_of_lt_of_le (hh.lt i b o h4) fr.size
    · exact h2.lt j b o h4
  · intro i b o hi
    rcases hcase i _ hi with ⟨h3, h4⟩ | ⟨j, rfl, h4⟩
    · rcases old_cases i h3 with ⟨m, j, h5, h6, h7⟩ | ⟨h5, h6⟩ | ⟨h5, h6⟩
      · rw [h7]
        obtain ⟨hc, b', o', o2, h8, h9⟩ := hpin m i j h5 h6
        rw [h4] at h8; injection h8 with h8; injection h8 with h8 h10
        subst h8; subst h10
        have h11 := outO_sound (js := js) (ids := ids) (L := h.length) hC (fun b ad hq => outB_q2 hq) (h2.obj j b o2 h9)
        cases hx : nth .gone hE j with
        | cells ty vs => rw [hx] at h11; exact h11
        | _ => rw [hx] at hc; cases hc
      · rw [h6]; exact trivial
      · rw [h6]
        cases hl : (nth .gone h i).live with
        | false => exact OR.dead frk hl (hh.obj i b o h4)
        | true =>
          have hnh := hne i b o h4 hl h5
          refine OR.keep frk (fun b1 c hq => ?_) (fr.fr b (hh.lt i b o h4) hnh) (hh.obj i b o h4)
          have hnp : ¬ passed β ρ b := fun ⟨id, h8, o', h9⟩ => hnh (by
            obtain ⟨j, hj⟩ := List.mem_iff_getElem?.1 h8
            exact .inl ⟨j, o', by rw [inB_lt (List.getElem?_eq_some_iff.1 hj).1, hj]; exact h9⟩)
          have hn1 := hqn b1 (b, c) hq hnp
          have hlt1 := (hh.ql b1 _ hq).1
          refine ⟨?_, fr.fr b1 hlt1 hn1⟩
          have hq2 : β2.q b1 = none := by
            cases hq2 : β2.q b1 with
            | none => rfl
            | some ad =>
              rcases hb2 b1 (.inr ⟨ad, hq2⟩) with h8 | h8
              · exact absurd h8 hn1
              · omega
          simp only [outB, hq2, hq, if_neg hnp]
    · rcases new_cases j _ h4 with ⟨h5, h6⟩ | ⟨h5, h6⟩
      · rw [h6]; exact trivial
      · rw [h6]; exact outO_sound hC (fun b ad hq => outB_q2 hq) (h2.obj j b o h4)
  · intro b ad hq
    rcases outB_q hq with h3 | ⟨h3, h4⟩
    · obtain ⟨q1, q2, q3⟩ := h2.ql b ad h3
      refine ⟨q1, q2, fun i o hi => ?_⟩
      cases li : (nth .gone (outH ρ ids js h hE) i).live with
      | false => rfl
      | true =>
        rcases key i b o hi li with ⟨a1, a2, a3, a4⟩ | ⟨m1, j1, p1, a1, a2, a3, a4, a5, a6⟩ | ⟨j1, rfl, a1, a2, a3⟩
        · rcases hb2 b (.inr ⟨ad, h3⟩) with h8 | h8
          · exact absurd h8 (hne i b o a3 a4 a2)
          · have := hh.lt i b o a3; omega
        · have := q3 j1 p1 a5; rw [a6] at this; cases this
        · have := q3 j1 o a2; rw [a3] at this; cases this
    · obtain ⟨q1, q2, q3⟩ := hh.ql b ad h3
      have hn1 := hqn b ad h3 h4
      refine ⟨Nat.lt_of_lt_of_le q1 fr.size, fun hb => q2 (hR2 b hb q1 hn1), fun i o hi => ?_⟩
      cases li : (nth .gone (outH ρ ids js h hE) i).live with
      | false => rfl
      | true =>
        have hnb : ¬ β2.has b := fun hb => by
          rcases hb2 b hb with h8 | h8
          · exact hn1 h8
          · omega
        rcases key i b o hi li with ⟨a1, a2, a3, a4⟩ | ⟨m1, j1, p1, a1, a2, a3, a4, a5, a6⟩ | ⟨j1, rfl, a1, a2, a3⟩
        · have := q3 i o a3; rw [a4] at this; cases this
        · exact absurd (.inl ⟨j1, p1, a5⟩) hnb
        · exact absurd (.inl ⟨j1, o, a2⟩) hnb
end
def stIn (fn : Func) (ρ ids bs : List Nat) (args : List V) (h : List AO) : St := ⟨inVs ρ ids ρ.length args ++ List.replicate (fn.ntmps - args.length) (.t []), inH ρ ids h bs⟩
def vTo1 : V → V1
  | .c x => .c x
  | .a cs => .a cs
  | .t _ => .c .top
def vsTo1 : List V → List V1
  | [] => []
  | v :: r => vTo1 v :: vsTo1 r
def oneW : List V → V
  | [v] => v
  | vs => .t (vsTo1 vs)
def outVs (js ids : List Nat) (L : Nat) : List V → List V
  | [] => []
  | v :: r => outV js ids L v :: outVs js ids L r
def liveAll (h : List AO) : List Nat → Bool
  | [] => true
  | id :: r => (nth .gone h id).live && liveAll h r
theorem liveAll_mem {h : List AO} : ∀ {l : List Nat}, liveAll h l = true → ∀ id ∈ l, (nth .gone h id).live = true
  | x :: r, hl, id, hi => by
    simp only [liveAll, Bool.and_eq_true] at hl
    rcases List.mem_cons.1 hi with rfl | hi
    · exact hl.1
    · exact liveAll_mem hl.2 id hi
section
variable {P : Program} {G : Nat → Option Obj} {β : Bt} {R : Nat → Prop} {w : World}
theorem All2.split {α γ : Type} {q : α → γ → Prop} : ∀ {xs xs' : List α} {ys ys' : List γ}, xs.length = ys.length → All2 q (xs ++ xs') (ys ++ ys') → All2 q xs ys ∧ All2 q xs' ys'
  | [], _, [], _, _, h => ⟨trivial, h⟩
  | [], _, _ :: _, _, hl, _ => by simp at hl
  | _ :: _, _, [], _, hl, _ => by simp at hl
  | _ :: xs, _, _ :: ys, _, hl, h => ⟨⟨h.1, (All2.split (xs := xs) (ys := ys) (by simpa using hl) h.2).1⟩, (All2.split (xs := xs) (ys := ys) (by simpa using hl) h.2).2⟩
theorem vTo1_sound {v : V} {u : Value} (h : VR β R w v u) : V1R β R w (vTo1 v) u := by
  cases v with
  | c x => exact h
  | a cs => exact h
  | t vs => exact trivial
theorem vsTo1_sound : ∀ {vs : List V} {us : List Value}, All2 (VR β R w) vs us → All2 (V1R β R w) (vsTo1 vs) us
  | [], [], _ => trivial
  | [], _ :: _, h => h.elim
  | _ :: _, [], h => h.elim
  | _ :: _, _ :: _, h => ⟨vTo1_sound h.1, vsTo1_sound h.2⟩
theorem oneW_sound : ∀ {vs : List V} {us : List Value} (_ : All2 (VR β R w) vs us), VR β R w (oneW vs) (oneU us)
  | [], [], _ => ⟨#[], rfl, trivial⟩
  | [_], [_], h => h.1
  | _ :: _ :: _, _ :: _ :: _, h => ⟨_, rfl, vsTo1_sound h⟩
  | [], _ :: _, h => h.elim
  | _ :: _, [], h => h.elim
  | [_], _ :: _ :: _, h => h.2.elim
  | _ :: _ :: _, [_], h => h.2.elim
theorem slotsL_sound {st : St} {a : Act} (hs : Sim G β R st a w) {vs : List V} {us : List Value} (h : All2 (VR β R w) vs us) : ∀ ps : List Nat, All2 (VR β R w) (slotsL st ps vs) (ps.map (fun j => a.tmps.getD j undef) ++ us)
  | [] => h
  | j :: ps => ⟨ev_sound (x := .tmp j) hs rfl, slotsL_sound hs h ps⟩
theorem All2.mem_ {α γ : Type} {q : α → γ → Prop} : ∀ {xs : List α} {ys : List γ}, All2 q xs ys → ∀ x ∈ xs, ∃ y, q x y
  | _ :: _, y :: _, h, x, hx => by
    rcases List.mem_cons.1 hx with rfl | hx
    · exact ⟨y, h.1⟩
    · exact All2.mem_ h.2 x hx
  | _ :: _, [], h, _, _ => h.elim
theorem blocks_of {args : List V} {us : List Value} (ha : All2 (VR β R w) args us) : ∀ {ids : List Nat}, (∀ id ∈ ids, ∃ off, V.c (.ptr id off) ∈ args) → ∃ bs : List Nat, bs.length = ids.length ∧ ∀ (i : Nat) id b, ids[i]? = some id → bs[i]? = some b → ∃ o, β id = some (b, o)
  | [], _ => ⟨[], rfl, fun i id b h => by simp at h⟩
  | id :: ids, h => by
    obtain ⟨bs, h1, h2⟩ := blocks_of ha (ids := ids) fun x hx => h x (List.mem_cons_of_mem _ hx)
    obtain ⟨off, h3⟩ := h id (List.mem_cons_self ..)
    obtain ⟨u, h4⟩ := All2.mem_ ha _ h3
    obtain ⟨b, o, h5, _⟩ := h4
    refine ⟨b :: bs, by simp [h1], fun i id' b' hi hb => ?_⟩
    cases i with
    | zero => simp at hi hb; subst hi; subst hb; exact ⟨o, h5⟩
    | succ i => exact h2 i id' b' (by simpa using hi) (by simpa using hb)
theorem outVs_all {β3 : Bt} {js ids : List Nat} {L : Nat} (hc : ∀ (x : C) (u : Value), CR β R w x u → CR β3 R w (outC js ids L x) u) : ∀ {xs : List V} {us : List Value}, All2 (VR β R w) xs us → All2 (VR β3 R w) (outVs js ids L xs) us
  | [], [], _ => trivial
  | [], _ :: _, h => h.elim
  | _ :: _, [], h => h.elim
  | _ :: _, _ :: _, h => ⟨outV_sound hc h.1, outVs_all hc h.2⟩
/-- A method: ρ are the blocks that it takes over, ids those of them that the caller still points to. -/
theorem fn_mem {f : FuncId} {fn : Func} (hf : P.funcs[f]? = some fn) (hok : okF P fn = true) {ρ ids ps pns js : List Nat} {args : List V} {h : List AO} (hρ : noDup ρ = true) (hlv : liveAll h ρ = true) (hsub : ∀ id ∈ ids, id ∈ ρ) (hin : ∀ id ∈ ids, ∃ off, V.c (.ptr id off) ∈ args)
    (hjs : js.length = ids.length) {sl vs : List V} {hE : List Nat → List AO} (hps : sl.length = ps.length) (hpn : pns.length = ids.length) (hsl : ∀ (i : Nat) pn, pns[i]? = some pn → ∃ off, V.c (.ptr pn off) ∈ sl)
    (hEp : ∀ bs : List Nat, bs.length = ids.length → ∀ (i : Nat) pn j b, pns[i]? = some pn → js[i]? = some j → bs[i]? = some b → nth .gone (hE bs) pn = .pin j b ∧ isCells (nth .gone (hE bs) j) = true)
    (H : ∀ bs : List Nat, bs.length = ids.length → ExZ P G (Zm ps (resOf P fn) fun s => WeakS G s ⟨sl ++ vs, hE bs⟩) (pcs P fn) (stIn fn ρ ids bs args h) fun e s => e = .normal ∧ Zm ps (resOf P fn) (fun s => WeakS G s ⟨sl ++ vs, hE bs⟩) s) :
    FnS P G f args h fun x h' => ∃ bs : List Nat, bs.length = ids.length ∧ x = oneW (outVs js ids h.length vs) ∧ h' = outH ρ ids js h (hE bs) := by
  unfold okF at hok
  simp only [Bool.and_eq_true, Option.isSome_iff_exists] at hok
  obtain ⟨⟨c, hc⟩, rs, hr⟩ := hok
  have e1 : codeOf P fn = c := by unfold codeOf; rw [hc]; rfl
  have e2 : resOf P fn = rs := by unfold resOf; rw [hr]; rfl
  simp only [Option.bind_eq_some_iff] at hc
  obtain ⟨c0, hb, hc⟩ := hc
  intro β R w us0 ha hh
  obtain ⟨bs, hbl, hbs⟩ := blocks_of ha hin
  have H := ExZ.code (H bs hbl)
  rw [e1, e2] at H
  have hs0 := hs_in hh hρ (liveAll_mem hlv) hsub hbl.symm hbs
  refine calls_of_wp hf hb (Code.wp_mono ?_ (H c0 hc (inB β ρ ids) R { tmps := us0 ++ Array.replicate (fn.ntmps - us0.size) undef, defers := [] } w ?_))
  · intro e a' w' hq
    cases e with
    | ret =>
      obtain ⟨β', R', st', ⟨ws, hws, hz⟩, hs, hfr, hrr⟩ := hq
      obtain ⟨us, hrun, hall⟩ := rawVs_sound hs fn.results.toList rs hr hws
      have hs1 : Sim G β' R' ⟨slotsL st' ps ws, st'.h⟩ { tmps := (ps.map (fun j => a'.tmps.getD j undef) ++ us).toArray, defers := [] } w' := ⟨rfl, by simpa using slotsL_sound hs hall ps, hs.hs⟩
      obtain ⟨β1, R1, k1, k2, k3⟩ := weak_gc (allT (slotsL st' ps ws)) _ β' R' _ w' hs1
      obtain ⟨β2, R2, k4, k5, k6⟩ := hz β1 R1 _ w' k1
      have frr : Fr (inB β ρ ids) R w β2 R2 w' := (hfr.trans k2 hrr).trans k5 fun b hb => k3 b (hrr b hb)
      have hsp : All2 (VR β2 R2 w') (sl ++ vs) (ps.map (fun j => a'.tmps.getD j undef) ++ us) := by simpa using k4.tm
      obtain ⟨hsp1, hsp2⟩ := hsp.split (by simpa using hps)
      have hpin : ∀ (i : Nat) id j, ids[i]? = some id → js[i]? = some j → isCells (nth .gone (hE bs) j) = true ∧ ∃ b o o2, β id = some (b, o) ∧ β2 j = some (b, o2) := by
        intro i id j h1 h2
        have hil := (List.getElem?_eq_some_iff.1 h1).1
        have h3 : pns[i]? = some (pns[i]'(by omega)) := List.getElem?_eq_getElem _
        generalize pns[i]'(by omega) = pn at h3
        have h4 : bs[i]? = some (bs[i]'(by omega)) := List.getElem?_eq_getElem _
        generalize bs[i]'(by omega) = b at h4
        obtain ⟨g1, g2⟩ := hEp bs hbl i pn j b h3 h2 h4
        obtain ⟨off, h5⟩ := hsl i pn h3
        obtain ⟨u, h6⟩ := All2.mem_ hsp1 _ h5
        obtain ⟨b', o', h7, _⟩ := h6
        have hob := k4.hs.obj pn b' o' h7
        have g1 : nth .gone (hE bs) pn = .pin j b := g1
        have hob : OR β2 R2 w' (nth .gone (hE bs) pn) b' o' := hob
        rw [g1] at hob
        obtain ⟨_, o2, h8⟩ := hob
        obtain ⟨o, h9⟩ := hbs i id b h1 h4
        exact ⟨g2, b, o, o2, h9, h8⟩
      obtain ⟨f1, f2, f3, f4⟩ := hs_out hh (liveAll_mem hlv) hsub hjs frr (fun b hb => k6 b (k3 b (hrr b hb))) k4.hs hpin
      exact ⟨hs.df, _, results_eq fn a'.tmps hrun, _, outB β β2 ρ h.length, R2, _, _, rfl, ⟨bs, hbl, rfl, rfl⟩, oneW_sound (outVs_all f3 hsp2), f1, f2, f4⟩
    | normal =>
      obtain ⟨β', R', st', ⟨_, hq0⟩, hs, hfr, hrr⟩ := hq
      obtain ⟨ws, hws, hz⟩ := hq0
      obtain ⟨us, hrun, hall⟩ := rawVs_sound hs fn.results.toList rs hr hws
      have hs1 : Sim G β' R' ⟨slotsL st' ps ws, st'.h⟩ { tmps := (ps.map (fun j => a'.tmps.getD j undef) ++ us).toArray, defers := [] } w' := ⟨rfl, by simpa using slotsL_sound hs hall ps, hs.hs⟩
      obtain ⟨β1, R1, k1, k2, k3⟩ := weak_gc (allT (slotsL st' ps ws)) _ β' R' _ w' hs1
      obtain ⟨β2, R2, k4, k5, k6⟩ := hz β1 R1 _ w' k1
      have frr : Fr (inB β ρ ids) R w β2 R2 w' := (hfr.trans k2 hrr).trans k5 fun b hb => k3 b (hrr b hb)
      have hsp : All2 (VR β2 R2 w') (sl ++ vs) (ps.map (fun j => a'.tmps.getD j undef) ++ us) := by simpa using k4.tm
      obtain ⟨hsp1, hsp2⟩ := hsp.split (by simpa using hps)
      have hpin : ∀ (i : Nat) id j, ids[i]? = some id → js[i]? = some j → isCells (nth .gone (hE bs) j) = true ∧ ∃ b o o2, β id = some (b, o) ∧ β2 j = some (b, o2) := by
        intro i id j h1 h2
        have hil := (List.getElem?_eq_some_iff.1 h1).1
        have h3 : pns[i]? = some (pns[i]'(by omega)) := List.getElem?_eq_getElem _
        generalize pns[i]'(by omega) = pn at h3
        have h4 : bs[i]? = some (bs[i]'(by omega)) := List.getElem?_eq_getElem _
        generalize bs[i]'(by omega) = b at h4
        obtain ⟨g1, g2⟩ := hEp bs hbl i pn j b h3 h2 h4
        obtain ⟨off, h5⟩ := hsl i pn h3
        obtain ⟨u, h6⟩ := All2.mem_ hsp1 _ h5
        obtain ⟨b', o', h7, _⟩ := h6
        have hob := k4.hs.obj pn b' o' h7
        have g1 : nth .gone (hE bs) pn = .pin j b := g1
        have hob : OR β2 R2 w' (nth .gone (hE bs) pn) b' o' := hob
        rw [g1] at hob
        obtain ⟨_, o2, h8⟩ := hob
        obtain ⟨o, h9⟩ := hbs i id b h1 h4
        exact ⟨g2, b, o, o2, h9, h8⟩
      obtain ⟨f1, f2, f3, f4⟩ := hs_out hh (liveAll_mem hlv) hsub hjs frr (fun b hb => k6 b (k3 b (hrr b hb))) k4.hs hpin
      exact ⟨hs.df, _, results_eq fn a'.tmps hrun, _, outB β β2 ρ h.length, R2, _, _, rfl, ⟨bs, hbl, rfl, rfl⟩, oneW_sound (outVs_all f3 hsp2), f1, f2, f4⟩
    | exit id => obtain ⟨_, _, _, q1, _⟩ := hq; exact nomatch q1.1
    | _ => exact hq.elim
  · refine ⟨rfl, ?_, hs0⟩
    have hl : args.length = us0.size := by simpa using ha.length
    show All2 _ (inVs ρ ids ρ.length args ++ List.replicate (fn.ntmps - args.length) (.t [])) _
    rw [Array.toList_append, Array.toList_replicate, hl]
    exact (inVs_sound hsub ha).append (undefs_all _)
end
end Go.AE
