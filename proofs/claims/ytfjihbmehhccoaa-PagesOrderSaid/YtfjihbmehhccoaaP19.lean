/- Plain law: what add, Fire, Amend and Valid do to the starts of one group. -/
import Derived.Test.YtfjihbmehhccoaaP18
namespace Go.AE
set_option linter.unusedVariables false
set_option linter.unusedSimpArgs false
open Go.Proofs Go.Proofs.Ytfjihbmehhccoaa Go.RowKit
/-! ### Sorted lists -/
theorem eq_of_lt : ∀ {A B : List Int}, A.Pairwise (· < ·) → B.Pairwise (· < ·) → (∀ t, t ∈ A ↔ t ∈ B) → A = B
  | [], [], _, _, _ => rfl
  | [], b :: B, _, _, h => absurd ((h b).2 (List.mem_cons_self ..)) (by simp)
  | a :: A, [], _, _, h => absurd ((h a).1 (List.mem_cons_self ..)) (by simp)
  | a :: A, b :: B, ha, hb, h => by
    rw [List.pairwise_cons] at ha hb
    have e : a = b := by
      have h1 := (h a).1 (List.mem_cons_self ..)
      have h2 := (h b).2 (List.mem_cons_self ..)
      rcases List.mem_cons.1 h1 with h1 | h1
      · exact h1
      · rcases List.mem_cons.1 h2 with h2 | h2
        · exact h2.symm
        · have := ha.1 b h2
          have := hb.1 a h1
          omega
    subst e
    rw [eq_of_lt ha.2 hb.2 fun t => ⟨fun ht => ?_, fun ht => ?_⟩]
    · rcases List.mem_cons.1 ((h t).1 (List.mem_cons_of_mem _ ht)) with h1 | h1
      · subst h1; exact absurd (ha.1 t ht) (by omega)
      · exact h1
    · rcases List.mem_cons.1 ((h t).2 (List.mem_cons_of_mem _ ht)) with h1 | h1
      · subst h1; exact absurd (hb.1 t ht) (by omega)
      · exact h1
theorem sortI_le (L : List Int) : (sortI L).Pairwise (· ≤ ·) := by
  have := List.pairwise_mergeSort (le := fun x y : Int => decide (x ≤ y)) (fun a b c h1 h2 => by simp at *; omega) (fun a b => by simp; omega) L
  unfold sortI
  exact this.imp fun h => by simpa using h
theorem nodup_lt {L : List Int} (h : L.Pairwise (· < ·)) : L.Nodup := h.imp fun h => by omega
theorem sortI_lt {L : List Int} (h : L.Nodup) : (sortI L).Pairwise (· < ·) := by
  have h1 := sortI_le L
  have h2 : (sortI L).Nodup := (List.mergeSort_perm L _).nodup_iff.2 h
  exact h1.imp₂ (fun a b h3 (h4 : a ≠ b) => by omega) h2
theorem compU {L : List Int} (hs : L.Pairwise (· ≤ ·)) : ∀ m, m ≤ L.length → (Go.Lib.compactUpTo L.toArray m).Pairwise (· < ·) ∧ (∀ t ∈ Go.Lib.compactUpTo L.toArray m, ∃ j, j < m ∧ t = L.getD j default) ∧ ∀ j, j < m → L.getD j default ∈ Go.Lib.compactUpTo L.toArray m
  | 0, _ => ⟨by simp [Go.Lib.compactUpTo], by simp [Go.Lib.compactUpTo], fun j hj => by omega⟩
  | m + 1, hm => by
    obtain ⟨h1, h2, h3⟩ := compU hs m (by omega)
    have g : ∀ j, j < L.length → L.toArray[j]! = L.getD j default := fun j hj => by simp [hj]
    have mono : ∀ i j, i ≤ j → j < L.length → L.getD i default ≤ L.getD j default := fun i j hij hj => by
      by_cases e : i = j
      · subst e; exact Int.le_refl _
      · have := (List.pairwise_iff_getElem.1 hs) i j (by omega) hj (by omega)
        simpa [show i < L.length by omega, hj] using this
    rw [Go.Lib.compactUpTo_succ]
    by_cases hk : Go.Lib.keeps L.toArray m = true
    · rw [if_pos hk]
      have hk' : m = 0 ∨ L.getD m default ≠ L.getD (m - 1) default := by
        unfold Go.Lib.keeps at hk
        rw [decide_eq_true_eq, g m (by omega)] at hk
        rcases hk with h | h
        · exact .inl h
        · rw [g (m - 1) (by omega)] at h; exact .inr h
      rw [g m (by omega)]
      refine ⟨List.pairwise_append.2 ⟨h1, List.pairwise_singleton _ _, fun a ha b hb => ?_⟩, fun t ht => ?_, fun j hj => ?_⟩
      · obtain rfl := List.mem_singleton.1 hb
        obtain ⟨j, hj, rfl⟩ := h2 a ha
        rcases hk' with h | h
        · omega
        · have q1 := mono j (m - 1) (by omega) (by omega)
          have q2 := mono (m - 1) m (by omega) (by omega)
          omega
      · rcases List.mem_append.1 ht with h | h
        · obtain ⟨j, q1, q2⟩ := h2 t h
          exact ⟨j, by omega, q2⟩
        · exact ⟨m, by omega, List.mem_singleton.1 h⟩
      · by_cases e : j = m
        · subst e; simp
        · exact List.mem_append_left _ (h3 j (by omega))
    · rw [if_neg hk, List.append_nil]
      refine ⟨h1, fun t ht => ?_, fun j hj => ?_⟩
      · obtain ⟨j, q1, q2⟩ := h2 t ht
        exact ⟨j, by omega, q2⟩
      · by_cases e : j = m
        · subst e
          have : ¬ (j = 0 ∨ L.toArray[j]! ≠ L.toArray[j - 1]!) := by
            intro h
            exact hk (by unfold Go.Lib.keeps; exact decide_eq_true h)
          have e0 : j ≠ 0 := fun e => this (.inl e)
          have e1 : L.toArray[j]! = L.toArray[j - 1]! := Classical.byContradiction fun h => this (.inr h)
          rw [g j (by omega), g (j - 1) (by omega)] at e1
          rw [e1]
          exact h3 (j - 1) (by omega)
        · exact h3 j (by omega)
theorem compI_lt {L : List Int} (hs : L.Pairwise (· ≤ ·)) : (compI L).Pairwise (· < ·) := (compU hs L.length (Nat.le_refl _)).1
theorem compI_mem {L : List Int} (hs : L.Pairwise (· ≤ ·)) (t : Int) : t ∈ compI L ↔ t ∈ L := by
  obtain ⟨_, h2, h3⟩ := compU hs L.length (Nat.le_refl _)
  refine ⟨mem_compI, fun h => ?_⟩
  obtain ⟨j, hj, rfl⟩ := List.getElem_of_mem h
  have := h3 j hj
  show L[j] ∈ Go.Lib.compactUpTo L.toArray L.length
  simpa [hj] using this
/-- The ticks that an amendment looks at. -/
theorem all_lt (L : List Int) : (compI (sortI L)).Pairwise (· < ·) := compI_lt (sortI_le L)
theorem all_mem (L : List Int) (t : Int) : t ∈ compI (sortI L) ↔ t ∈ L := (compI_mem (sortI_le L) t).trans mem_sortI
/-! ### One group -/
/-- A ledger, seen by one group. -/
structure Vw (ru : ByteArray) (ve : Int) (L : List (ByteArray × ByteArray)) (D : Ld) (S : List Int) (pd : Int → Option Bool) : Prop where
  st : StG D (gKey ru ve (textLb L)) S
  gp : ∀ t, D.gp (mKey ru ve (textLb L) t) = pd t
  dom : ∀ t, t ∈ S ↔ (pd t).isSome = true
  nd : S.Nodup
def updP (pd : Int → Option Bool) (t : Int) (x : Bool) : Int → Option Bool := fun u => if u = t then some x else pd u
theorem mKey_inj {ru tx : ByteArray} {ve t u : Int} : mKey ru ve tx t = mKey ru ve tx u ↔ t = u := by
  unfold mKey
  constructor
  · intro h; simpa using h
  · rintro rfl; rfl
theorem vw_ld0 (ru : ByteArray) (ve : Int) (L : List (ByteArray × ByteArray)) : Vw ru ve L ld0 [] fun _ => none :=
  ⟨⟨rfl, fun e o he => absurd he (Nat.not_lt_zero _)⟩, fun _ => rfl, fun t => by simp, List.nodup_nil⟩
variable {ru : ByteArray} {ve : Int} {L : List (ByteArray × ByteArray)} {D : Ld} {S : List Int} {pd : Int → Option Bool}
theorem Vw.add (hv : Vw ru ve L D S pd) (kd st se : Int) (to : ByteArray) : ∃ S', Vw ru ve L (ladd D ⟨kd, ru, ve, L, st, se, to⟩) S' (updP pd st (kd != 1)) ∧ S'.length ≤ S.length + 1 ∧ ∀ t ∈ S', t ∈ S ∨ t = st := by
  have hgp : ∀ t, (ladd D ⟨kd, ru, ve, L, st, se, to⟩).gp (mKey ru ve (textLb L) t) = updP pd st (kd != 1) t := fun t => by
    show setM D.gp (mKey ru ve (textLb L) st) (kd != 1) (mKey ru ve (textLb L) t) = _
    unfold setM updP
    by_cases e : t = st
    · subst e; simp
    · rw [if_neg (fun h => e (mKey_inj.1 h)), if_neg e, hv.gp]
  cases hs : (D.gp (mKey ru ve (textLb L) st)).isSome with
  | true =>
    refine ⟨S, ⟨?_, hgp, fun t => ?_, hv.nd⟩, by omega, fun t ht => .inl ht⟩
    · have e : (ladd D ⟨kd, ru, ve, L, st, se, to⟩).gs = D.gs := by unfold ladd; dsimp only; rw [hs]
      unfold StG
      rw [e]
      exact hv.st
    · rw [hv.dom]
      unfold updP
      by_cases e : t = st
      · subst e; rw [if_pos rfl]; rw [hv.gp] at hs; simp [hs]
      · rw [if_neg e]
  | false =>
    refine ⟨S ++ [st], ⟨?_, hgp, fun t => ?_, ?_⟩, by simp, fun t ht => by simpa using ht⟩
    · have e : (ladd D ⟨kd, ru, ve, L, st, se, to⟩).gs = gadd D.gs (gKey ru ve (textLb L)) st := by unfold ladd; dsimp only; rw [hs]
      obtain ⟨h1, h2⟩ := hv.st
      unfold StG
      rw [e]
      unfold gadd
      rw [setG_same]
      refine ⟨by simp [h1], fun e o he ho => ?_⟩
      obtain rfl : o = 0 := by omega
      dsimp only
      rw [h1]
      by_cases he2 : e < S.length
      · rw [if_pos he2, h2 e 0 he2 (by omega)]
        unfold rowP
        simp [List.getElem?_append_left he2]
      · have : e = S.length := by simp at he; omega
        subst this
        rw [if_neg (Nat.lt_irrefl _)]
        unfold rowP
        simp [nth, unP, encI]
    · unfold updP
      rw [List.mem_append, hv.dom]
      by_cases e : t = st
      · subst e; simp
      · rw [if_neg e]; simp [e]
    · refine List.nodup_append.2 ⟨hv.nd, by simp, fun a ha b hb => ?_⟩
      obtain rfl := List.mem_singleton.1 hb
      rintro rfl
      have := (hv.dom a).1 ha
      rw [← hv.gp, hs] at this
      cases this
/-- Whether an amendment changes a tick. -/
def flipB (pd : Int → Option Bool) (T : List Int) (t : Int) : Bool := (pd t).getD false != decide (t ∈ T)
def pdA (pd : Int → Option Bool) (T A : List Int) : Int → Option Bool := fun t => if t ∈ A ∧ flipB pd T t = true then some (decide (t ∈ T)) else pd t
def amPg (ru : ByteArray) (ve : Int) (L : List (ByteArray × ByteArray)) (se : Int) (T : List Int) (t : Int) : Pg := ⟨match decide (t ∈ T) with
  | true => 2
  | false => 1, ru, ve, L, t, se, ⟨#[]⟩⟩
theorem amFold_go (T : List Int) (se : Int) : ∀ (A : List Int) (D : Ld) (out : List Pg) (S : List Int) (pd : Int → Option Bool), Vw ru ve L D S pd → A.Nodup →
    ∃ S', Vw ru ve L (A.foldl (amStep T ru ve L se) (D, out)).1 S' (pdA pd T A) ∧ (A.foldl (amStep T ru ve L se) (D, out)).2 = out ++ (A.filter (flipB pd T)).map (amPg ru ve L se T) ∧ S'.length ≤ S.length + A.length ∧ (∀ t ∈ S', t ∈ S ∨ t ∈ A) ∧ (A.foldl (amStep T ru ve L se) (D, out)).1.M.length ≤ D.M.length + A.length
  | [], D, out, S, pd, hv, _ => ⟨S, by
      have e : pdA pd T [] = pd := by funext t; unfold pdA; simp
      rw [e]; exact hv, by simp, by simp, fun t ht => .inl ht, by simp⟩
  | x :: A, D, out, S, pd, hv, hA => by
    rw [List.nodup_cons] at hA
    rw [List.foldl_cons]
    cases hf : flipB pd T x with
    | false =>
      have e1 : amStep T ru ve L se (D, out) x = (D, out) := by
        unfold amStep
        dsimp only
        rw [hv.gp]
        unfold flipB at hf
        revert hf
        cases (pd x).getD false <;> cases decide (x ∈ T) <;> intro hf <;> first | rfl | cases hf
      rw [e1]
      obtain ⟨S', h1, h2, h3, h4, h5⟩ := amFold_go T se A D out S pd hv hA.2
      refine ⟨S', ?_, ?_, by simp; omega, fun t ht => (h4 t ht).imp id (List.mem_cons_of_mem _), by simp; omega⟩
      · have e : pdA pd T (x :: A) = pdA pd T A := by
          funext t
          unfold pdA
          by_cases e : t = x
          · subst e; simp [hf]
          · simp [e]
        rw [e]; exact h1
      · rw [h2, List.filter_cons, hf]; rfl
    | true =>
      have e1 : amStep T ru ve L se (D, out) x = (ladd D (amPg ru ve L se T x), out ++ [amPg ru ve L se T x]) := by
        unfold amStep amPg
        dsimp only
        rw [hv.gp]
        unfold flipB at hf
        revert hf
        cases (pd x).getD false <;> cases decide (x ∈ T) <;> intro hf <;> first | rfl | cases hf
      rw [e1]
      obtain ⟨S1, k1, k2, k3⟩ := hv.add (amPg ru ve L se T x).kd x se ⟨#[]⟩
      have ek : ((amPg ru ve L se T x).kd != 1) = decide (x ∈ T) := by unfold amPg; dsimp only; cases decide (x ∈ T) <;> rfl
      rw [ek] at k1
      have hpd : ∀ t, t ≠ x → updP pd x (decide (x ∈ T)) t = pd t := fun t ht => by unfold updP; rw [if_neg ht]
      have hfl : ∀ t, t ≠ x → flipB (updP pd x (decide (x ∈ T))) T t = flipB pd T t := fun t ht => by unfold flipB; rw [hpd t ht]
      obtain ⟨S', h1, h2, h3, h4, h5⟩ := amFold_go T se A (ladd D (amPg ru ve L se T x)) (out ++ [amPg ru ve L se T x]) S1 _ k1 hA.2
      have hM : (ladd D (amPg ru ve L se T x)).M.length = D.M.length + 1 := by unfold ladd; simp
      refine ⟨S', ?_, ?_, by simp; omega, fun t ht => ?_, by simp; omega⟩
      · have e : pdA pd T (x :: A) = pdA (updP pd x (decide (x ∈ T))) T A := by
          funext t
          unfold pdA
          by_cases e : t = x
          · subst e
            rw [if_pos ⟨List.mem_cons_self .., hf⟩, if_neg (fun h => hA.1 h.1)]
            unfold updP
            rw [if_pos rfl]
          · rw [hfl t e, hpd t e]
            simp [e]
        rw [e]; exact h1
      · rw [h2, List.filter_cons, hf, List.filter_congr (fun t ht => hfl t (fun e => hA.1 (e ▸ ht)))]
        simp
      · rcases h4 t ht with h | h
        · rcases k3 t h with h | h
          · exact .inl h
          · exact .inr (by rw [h]; exact List.mem_cons_self ..)
        · exact .inr (List.mem_cons_of_mem _ h)
/-- What an amendment returns. -/
def amOut (ru : ByteArray) (ve : Int) (L : List (ByteArray × ByteArray)) (se : Int) (pd : Int → Option Bool) (S T : List Int) : List Pg := ((compI (sortI (S ++ T))).filter (flipB pd T)).map (amPg ru ve L se T)
theorem lamend_vw (hv : Vw ru ve L D S pd) (T : List Int) (se : Int) (h1 : pgOK ⟨0, ru, ve, L, 0, se, ⟨#[]⟩⟩ = true) (h2 : ∀ t ∈ T, tickZ t = true) : ∃ D' S' pd', lamend D ru ve L S T se = (listV encPg 7 (amOut ru ve L se pd S T), D') ∧ Vw ru ve L D' S' pd' ∧ (∀ t, (pd' t).getD false = decide (t ∈ T)) ∧ (∀ t, (pd t).isSome = true → (pd' t).isSome = true) ∧ S'.length ≤ 2 * (S.length + T.length) ∧ (∀ t ∈ S', t ∈ S ∨ t ∈ T) ∧ D'.M.length ≤ D.M.length + S.length + T.length := by
  have hA := all_mem (S ++ T)
  have hlen : (compI (sortI (S ++ T))).length ≤ S.length + T.length := by
    have := compI_length (sortI (S ++ T))
    rw [sortI_length, List.length_append] at this
    exact this
  obtain ⟨S', k1, k2, k3, k4, k5⟩ := amFold_go T se (compI (sortI (S ++ T))) D [] S pd hv (nodup_lt (all_lt _))
  refine ⟨_, S', _, ?_, k1, fun t => ?_, fun t ht => ?_, by omega, fun t ht => ?_, by omega⟩
  · unfold lamend
    have e : T.all tickZ = true := List.all_eq_true.2 h2
    rw [h1, e]
    dsimp only
    unfold amFold
    rw [k2]
    rfl
  · unfold pdA
    by_cases e : t ∈ S ++ T
    · by_cases f : flipB pd T t = true
      · rw [if_pos ⟨(hA t).2 e, f⟩]; rfl
      · rw [if_neg (fun h => f h.2)]
        unfold flipB at f
        simpa using f
    · rw [if_neg (fun h => e ((hA t).1 h.1))]
      have e1 : t ∉ S := fun h => e (List.mem_append_left _ h)
      have e2 : t ∉ T := fun h => e (List.mem_append_right _ h)
      rw [hv.dom] at e1
      cases hq : pd t with
      | none => simp [e2]
      | some x => rw [hq] at e1; exact absurd rfl e1
  · unfold pdA
    split
    · rfl
    · exact ht
  · rcases k4 t ht with h | h
    · exact .inl h
    · exact List.mem_append.1 ((hA t).1 h)
theorem lvalid_vw (hv : Vw ru ve L D S pd) (h1 : pgOK ⟨0, ru, ve, L, 0, 0, ⟨#[]⟩⟩ = true) {B : List Int} (hB : B.Pairwise (· < ·)) (hm : ∀ t, t ∈ B ↔ (pd t).getD false = true) : lvalid D ru ve L S = listV encI 1 B := by
  unfold lvalid
  rw [h1]
  dsimp only
  congr 1
  have e : pagedS D.gp ru ve (textLb L) S = S.filter fun t => (pd t).getD false := by
    unfold pagedS
    exact List.filter_congr fun t _ => by rw [hv.gp]
  rw [e]
  refine eq_of_lt (sortI_lt (hv.nd.sublist List.filter_sublist)) hB fun t => ?_
  rw [mem_sortI, List.mem_filter, hm, hv.dom]
  cases pd t <;> simp
theorem lfire_new (hv : Vw ru ve L D S pd) (st se : Int) (to : ByteArray) (h1 : pgOK ⟨0, ru, ve, L, st, se, to⟩ = true) (h2 : pd st = none) : lfire D ⟨0, ru, ve, L, st, se, to⟩ = (0, ladd D ⟨0, ru, ve, L, st, se, to⟩) := by
  unfold lfire
  dsimp only
  rw [h1, hv.gp, h2]
  rfl
theorem lfire_some (hv : Vw ru ve L D S pd) (st se : Int) (to : ByteArray) (h1 : pgOK ⟨0, ru, ve, L, st, se, to⟩ = true) (x : Bool) (h2 : pd st = some x) : lfire D ⟨0, ru, ve, L, st, se, to⟩ = (cond x 10 20, D) := by
  unfold lfire
  dsimp only
  rw [h1, hv.gp, h2]
  cases x <;> rfl
end Go.AE
