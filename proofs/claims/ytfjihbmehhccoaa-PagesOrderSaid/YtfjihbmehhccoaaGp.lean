/- Plain: the order of label lists, keeping, the stable insertion sort of indices, groups. -/
import Derived.WalkKit
import Derived.Sort.LotA
namespace Go.AE.Gp
set_option linter.unusedVariables false
set_option linter.unusedSimpArgs false
open Go.Sort
abbrev Lb := ByteArray × ByteArray

theorem less_irrefl : ∀ l : List UInt8, Op.bytesLess l l = false
  | [] => rfl
  | x :: l => by simp [Op.bytesLess, less_irrefl l]
theorem less_trans : ∀ {a b c : List UInt8}, Op.bytesLess a b = true → Op.bytesLess b c = true → Op.bytesLess a c = true
  | _, [], _, h, _ => by cases ‹List UInt8› <;> simp [Op.bytesLess] at h
  | _, _ :: _, [], _, h => by simp [Op.bytesLess] at h
  | [], _ :: _, _ :: _, _, _ => by simp [Op.bytesLess]
  | x :: a, y :: b, z :: c, h, k => by
    have hx := UInt8.lt_iff_toNat_lt (a := x) (b := y)
    have hy := UInt8.lt_iff_toNat_lt (a := y) (b := z)
    have hz := UInt8.lt_iff_toNat_lt (a := x) (b := z)
    simp only [Op.bytesLess, Bool.or_eq_true, decide_eq_true_eq, Bool.and_eq_true, beq_iff_eq] at h k ⊢
    rcases h with h | ⟨rfl, h⟩
    · rcases k with k | ⟨rfl, k⟩
      · exact .inl (hz.2 (Nat.lt_trans (hx.1 h) (hy.1 k)))
      · exact .inl h
    · rcases k with k | ⟨rfl, k⟩
      · exact .inl k
      · exact .inr ⟨rfl, less_trans h k⟩
theorem less_total : ∀ {a b : List UInt8}, Op.bytesLess a b = false → a ≠ b → Op.bytesLess b a = true
  | [], [], _, h => absurd rfl h
  | [], _ :: _, h, _ => by simp [Op.bytesLess] at h
  | _ :: _, [], _, _ => by simp [Op.bytesLess]
  | x :: a, y :: b, h, hn => by
    have hx := UInt8.lt_iff_toNat_lt (a := x) (b := y)
    have hy := UInt8.lt_iff_toNat_lt (a := y) (b := x)
    simp only [Op.bytesLess, Bool.or_eq_false_iff, decide_eq_false_iff_not, Bool.and_eq_false_iff, beq_eq_false_iff_ne, Bool.or_eq_true, decide_eq_true_eq, Bool.and_eq_true, beq_iff_eq] at h ⊢
    obtain ⟨h1, h2⟩ := h
    by_cases he : x = y
    · subst he
      rcases h2 with h2 | h2
      · exact absurd rfl h2
      · exact .inr ⟨rfl, less_total h2 fun e => hn (by rw [e])⟩
    · refine .inl (hy.2 ?_)
      have h3 : x.toNat ≠ y.toNat := fun e => he (UInt8.toNat_inj.1 e)
      have h4 : ¬ x.toNat < y.toNat := fun e => h1 (hx.2 e)
      omega
theorem toList_inj {a b : ByteArray} (h : a.toList = b.toList) : a = b := by
  rw [ByteArray.toList_eq, ByteArray.toList_eq] at h
  exact ByteArray.ext (Array.toList_inj.mp h)
def lessS (a b : ByteArray) : Bool := Op.bytesLess a.toList b.toList
theorem lessS_irrefl (a : ByteArray) : lessS a a = false := less_irrefl _
theorem lessS_trans {a b c : ByteArray} (h : lessS a b = true) (k : lessS b c = true) : lessS a c = true := less_trans h k
theorem lessS_total {a b : ByteArray} (h : lessS a b = false) (k : a ≠ b) : lessS b a = true := less_total h fun e => k (toList_inj e)
theorem lessS_asymm {a b : ByteArray} (h : lessS a b = true) : lessS b a = false := by
  cases k : lessS b a with
  | false => rfl
  | true => have := lessS_trans h k; rw [lessS_irrefl] at this; cases this
def cmpS (a b : ByteArray) : Int := if lessS a b = true then -1 else if a = b then 0 else 1
theorem cmpS_zero {a b : ByteArray} : cmpS a b = 0 ↔ a = b := by
  unfold cmpS
  split
  · rename_i h
    refine ⟨fun h => by omega, fun e => ?_⟩
    subst e
    rw [lessS_irrefl] at h; cases h
  · split
    · rename_i h; exact ⟨fun _ => h, fun _ => rfl⟩
    · rename_i h; exact ⟨fun h => by omega, fun e => absurd e h⟩
theorem cmpS_neg {a b : ByteArray} : cmpS a b < 0 ↔ lessS a b = true := by
  unfold cmpS
  split
  · rename_i h; exact ⟨fun _ => h, fun _ => by omega⟩
  · rename_i h
    refine ⟨fun k => ?_, fun k => absurd k h⟩
    split at k <;> omega
def cmpL : List Lb → List Lb → Int
  | [], [] => 0
  | [], _ :: _ => -1
  | _ :: _, [] => 1
  | x :: xs, y :: ys => if x = y then cmpL xs ys else if x.1 = y.1 then cmpS x.2 y.2 else cmpS x.1 y.1
theorem cmpL_zero : ∀ {a b : List Lb}, cmpL a b = 0 ↔ a = b
  | [], [] => by simp [cmpL]
  | [], _ :: _ => by simp [cmpL]
  | _ :: _, [] => by simp [cmpL]
  | x :: xs, y :: ys => by
    unfold cmpL
    split
    · rename_i h; subst h; rw [cmpL_zero]; simp
    · rename_i h
      split
      · rename_i h1
        rw [cmpS_zero]
        exact ⟨fun h2 => absurd (Prod.ext h1 h2) h, fun h2 => absurd (List.cons.inj h2).1 h⟩
      · rename_i h1
        rw [cmpS_zero]
        exact ⟨fun h2 => absurd h2 h1, fun h2 => absurd (List.cons.inj h2).1 h⟩
theorem cmpL_self (a : List Lb) : cmpL a a = 0 := cmpL_zero.2 rfl
def ltL (a b : List Lb) : Prop := cmpL a b < 0
theorem ltL_irrefl (a : List Lb) : ¬ ltL a a := by unfold ltL; rw [cmpL_self]; omega
theorem ltL_cons {x y : Lb} {xs ys : List Lb} : ltL (x :: xs) (y :: ys) ↔ (x = y ∧ ltL xs ys) ∨ (x ≠ y ∧ x.1 = y.1 ∧ lessS x.2 y.2 = true) ∨ (x.1 ≠ y.1 ∧ lessS x.1 y.1 = true) := by
  unfold ltL
  rw [cmpL]
  split
  · rename_i h; subst h; simp
  · rename_i h
    split
    · rename_i h1; rw [cmpS_neg]; simp [h, h1]
    · rename_i h1; rw [cmpS_neg]; simp [h, h1]
theorem ltL_trans : ∀ {a b c : List Lb}, ltL a b → ltL b c → ltL a c
  | a, b, [], _, h => by cases b <;> simp [ltL, cmpL] at h
  | a, [], _ :: _, h, _ => by cases a <;> simp [ltL, cmpL] at h
  | [], _ :: _, _ :: _, _, _ => by simp [ltL, cmpL]
  | x :: a, y :: b, z :: c, h, k => by
    rw [ltL_cons] at h k ⊢
    rcases h with ⟨rfl, h⟩ | ⟨h1, h2, h3⟩ | ⟨h1, h2⟩
    · rcases k with ⟨rfl, k⟩ | ⟨k1, k2, k3⟩ | ⟨k1, k2⟩
      · exact .inl ⟨rfl, ltL_trans h k⟩
      · exact .inr (.inl ⟨k1, k2, k3⟩)
      · exact .inr (.inr ⟨k1, k2⟩)
    · rcases k with ⟨rfl, k⟩ | ⟨k1, k2, k3⟩ | ⟨k1, k2⟩
      · exact .inr (.inl ⟨h1, h2, h3⟩)
      · refine .inr (.inl ⟨fun e => ?_, h2.trans k2, lessS_trans h3 k3⟩)
        subst e
        have := lessS_trans h3 k3
        rw [lessS_irrefl] at this; cases this
      · exact .inr (.inr ⟨by rw [h2]; exact k1, by rw [h2]; exact k2⟩)
    · rcases k with ⟨rfl, k⟩ | ⟨k1, k2, k3⟩ | ⟨k1, k2⟩
      · exact .inr (.inr ⟨h1, h2⟩)
      · exact .inr (.inr ⟨by rw [← k2]; exact h1, by rw [← k2]; exact h2⟩)
      · refine .inr (.inr ⟨fun e => ?_, lessS_trans h2 k2⟩)
        have := lessS_trans h2 k2
        rw [e, lessS_irrefl] at this; cases this
theorem ltL_total : ∀ {a b : List Lb}, ¬ ltL a b → a ≠ b → ltL b a
  | [], [], _, h => absurd rfl h
  | [], _ :: _, h, _ => absurd (show ltL [] _ by simp [ltL, cmpL]) h
  | _ :: _, [], _, _ => by simp [ltL, cmpL]
  | x :: a, y :: b, h, hne => by
    rw [ltL_cons] at h ⊢
    by_cases e : x = y
    · subst e
      exact .inl ⟨rfl, ltL_total (fun k => h (.inl ⟨rfl, k⟩)) (fun k => hne (by rw [k]))⟩
    · by_cases e1 : x.1 = y.1
      · have e2 : x.2 ≠ y.2 := fun k => e (Prod.ext e1 k)
        refine .inr (.inl ⟨fun k => e k.symm, e1.symm, lessS_total ?_ e2⟩)
        cases k : lessS x.2 y.2 with
        | false => rfl
        | true => exact absurd (.inr (.inl ⟨e, e1, k⟩)) h
      · refine .inr (.inr ⟨fun k => e1 k.symm, lessS_total ?_ e1⟩)
        cases k : lessS x.1 y.1 with
        | false => rfl
        | true => exact absurd (.inr (.inr ⟨e1, k⟩)) h
theorem ltL_asymm {a b : List Lb} (h : ltL a b) : ¬ ltL b a := fun k => ltL_irrefl a (ltL_trans h k)
theorem ltL_ne {a b : List Lb} (h : ltL a b) : a ≠ b := fun e => ltL_irrefl a (by rw [e] at h ⊢; exact h)
def keepL (l : List Lb) (names : List ByteArray) : List Lb := l.filter fun x => names.any fun s => decide (x.1 = s)

/-! ### The stable sort of indices -/
def idx (n : Nat) : List Int := (List.range n).map fun (i : Nat) => (i : Int)
theorem idx_length (n : Nat) : (idx n).length = n := by simp [idx]
theorem mem_idx {n : Nat} {i : Int} : i ∈ idx n ↔ 0 ≤ i ∧ i < n := by
  unfold idx
  simp only [List.mem_map, List.mem_range]
  constructor
  · rintro ⟨k, hk, rfl⟩; omega
  · rintro ⟨h1, h2⟩; exact ⟨i.toNat, by omega, by omega⟩
theorem idx_succ (n : Nat) : idx (n + 1) = idx n ++ [(n : Int)] := by simp [idx, List.range_succ]
theorem idx_at {n i : Nat} (h : i < n) : (idx n).getD i default = (i : Int) := by
  unfold idx
  simp [h]
theorem idx_sorted (n : Nat) : (idx n).Pairwise (fun a b => a < b) := by
  unfold idx
  rw [List.pairwise_map]
  exact List.pairwise_lt_range.imp fun h => by omega
section
variable (key : Int → List Lb)
def cfK (x y : Int) : Int := cmpL (key x) (key y)
def ltK (x y : Int) : Bool := decide (cfK key x y < 0)
/-- .. and the index. -/
def lxK (x y : Int) : Bool := decide (cfK key x y < 0) || (decide (key x = key y) && decide (x < y))
theorem lxK_iff {x y : Int} : lxK key x y = true ↔ ltL (key x) (key y) ∨ (key x = key y ∧ x < y) := by
  unfold lxK cfK ltL; simp
theorem lxK_not {x y : Int} : lxK key x y = false ↔ (ltL (key y) (key x) ∨ (key x = key y ∧ y ≤ x)) := by
  rw [← Bool.not_eq_true, lxK_iff]
  constructor
  · intro h
    by_cases e : key x = key y
    · exact .inr ⟨e, Int.not_lt.1 fun k => h (.inr ⟨e, k⟩)⟩
    · exact .inl (ltL_total (fun k => h (.inl k)) e)
  · rintro (h | ⟨h1, h2⟩)
    · rintro (k | ⟨k1, _⟩)
      · exact ltL_asymm h k
      · rw [k1] at h; exact ltL_irrefl _ h
    · rintro (k | ⟨_, k2⟩)
      · rw [h1] at k; exact ltL_irrefl _ k
      · omega
theorem lxK_swo : SWO (lxK key) where
  irrefl x := by rw [lxK_not]; exact .inr ⟨rfl, Int.le_refl _⟩
  trans x y z h k := by
    rw [lxK_iff] at h k ⊢
    rcases h with h | ⟨h1, h2⟩
    · rcases k with k | ⟨k1, k2⟩
      · exact .inl (ltL_trans h k)
      · exact .inl (by rw [← k1]; exact h)
    · rcases k with k | ⟨k1, k2⟩
      · exact .inl (by rw [h1]; exact k)
      · exact .inr ⟨h1.trans k1, by omega⟩
  ntrans x y z h k := by
    rw [lxK_not] at h k ⊢
    rcases h with h | ⟨h1, h2⟩
    · rcases k with k | ⟨k1, k2⟩
      · exact .inl (ltL_trans k h)
      · exact .inl (by rw [← k1]; exact h)
    · rcases k with k | ⟨k1, k2⟩
      · exact .inl (by rw [h1]; exact k)
      · exact .inr ⟨h1.trans k1, by omega⟩
theorem lxK_anti {x y : Int} (h : lxK key x y = false) (k : lxK key y x = false) : x = y := by
  rw [lxK_not] at h k
  rcases h with h | ⟨h1, h2⟩
  · rcases k with k | ⟨k1, k2⟩
    · exact absurd k (ltL_asymm h)
    · rw [k1] at h; exact absurd h (ltL_irrefl _)
  · rcases k with k | ⟨k1, k2⟩
    · rw [h1] at k; exact absurd k (ltL_irrefl _)
    · omega
theorem swp_get {d : Array Int} {i j p : Nat} (hi : i < d.size) (hj : j < d.size) (hij : i ≠ j) : (swp d i j)[p]! = if p = i then d[j]! else if p = j then d[i]! else d[p]! := by
  unfold swp
  by_cases h1 : p = j
  · subst h1
    rw [if_neg (fun h => hij h.symm), if_pos rfl]
    simp [hj]
  · by_cases h2 : p = i
    · subst h2
      rw [if_pos rfl]
      by_cases hp : p < d.size
      · simp [Array.getElem!_eq_getD, Array.getD_eq_getD_getElem?, Array.getElem?_setIfInBounds, hp, hj, Ne.symm h1, h1]
      · exact absurd hi hp
    · rw [if_neg h2, if_neg h1]
      simp [Array.getElem!_eq_getD, Array.getD_eq_getD_getElem?, Array.getElem?_setIfInBounds, Ne.symm h1, Ne.symm h2]
theorem size_swp' (d : Array Int) (i j : Nat) : (swp d i j).size = d.size := by simp [swp]
theorem inner_eq (i : Nat) : ∀ (j : Nat) (d : Array Int), j ≤ i → i < d.size → d[j]! = (i : Int) → (∀ p, p ≤ i → p ≠ j → d[p]! < (i : Int)) → (∀ p, i < p → p < d.size → d[p]! = (p : Int)) →
    insInner (ltK key) 0 j d = insInner (lxK key) 0 j d ∧ (insInner (ltK key) 0 j d).size = d.size ∧ (∀ p, p ≤ i → (insInner (ltK key) 0 j d)[p]! < (i : Int) + 1) ∧ (∀ p, i < p → p < d.size → (insInner (ltK key) 0 j d)[p]! = (p : Int))
  | 0, d, hj, hi, h1, h2, h3 => by
    refine ⟨rfl, rfl, fun p hp => ?_, fun p hp hs => h3 p hp hs⟩
    show d[p]! < _
    by_cases e : p = 0
    · subst e; rw [h1]; omega
    · have := h2 p hp e; omega
  | j + 1, d, hj, hi, h1, h2, h3 => by
    have hy := h2 j (by omega) (by omega)
    have hlt : ltK key d[j + 1]! d[j]! = lxK key d[j + 1]! d[j]! := by
      unfold lxK ltK
      rw [h1]
      have : decide ((i : Int) < d[j]!) = false := decide_eq_false (by omega)
      rw [this]; simp
    have e1 : insInner (ltK key) 0 (j + 1) d = if ltK key d[j + 1]! d[j]! then insInner (ltK key) 0 j (swp d (j + 1) j) else d := by rw [insInner]; simp
    have e2 : insInner (lxK key) 0 (j + 1) d = if lxK key d[j + 1]! d[j]! then insInner (lxK key) 0 j (swp d (j + 1) j) else d := by rw [insInner]; simp
    rw [e1, e2, hlt]
    have hsw : ∀ p, (swp d (j + 1) j)[p]! = if p = j + 1 then d[j]! else if p = j then d[j + 1]! else d[p]! := fun p => swp_get (by omega) (by omega) (by omega)
    split
    · have ih := inner_eq i j (swp d (j + 1) j) (by omega) (by rw [size_swp']; exact hi) (by rw [hsw, if_neg (by omega), if_pos rfl]; exact h1)
        (fun p hp hne => by
          rw [hsw]
          by_cases c : p = j + 1
          · rw [if_pos c]; exact hy
          · rw [if_neg c, if_neg hne]; exact h2 p hp c)
        (fun p hp hs => by
          rw [size_swp'] at hs
          rw [hsw, if_neg (by omega), if_neg (by omega)]; exact h3 p hp hs)
      rw [size_swp'] at ih
      exact ih
    · refine ⟨rfl, rfl, fun p hp => ?_, fun p hp hs => h3 p hp hs⟩
      by_cases e : p = j + 1
      · subst e; rw [h1]; omega
      · have := h2 p hp e; omega
theorem outer_eq (n : Nat) : ∀ (m i : Nat) (d : Array Int), m = n - i → d.size = n → (∀ p, p < i → p < n → d[p]! < (i : Int)) → (∀ p, i ≤ p → p < n → d[p]! = (p : Int)) → insOuter (ltK key) 0 n i d = insOuter (lxK key) 0 n i d
  | 0, i, d, hm, hs, h1, h2 => by
    rw [insOuter, if_neg (by omega)]
    conv => rhs; rw [insOuter, if_neg (by omega)]
  | m + 1, i, d, hm, hs, h1, h2 => by
    have hi : i < n := by omega
    obtain ⟨q1, q2, q3, q4⟩ := inner_eq key i i d (Nat.le_refl _) (by omega) (h2 i (Nat.le_refl _) hi) (fun p hp hne => h1 p (by omega) (by omega)) (fun p hp hps => h2 p (by omega) (by omega))
    rw [insOuter, if_pos hi]
    conv => rhs; rw [insOuter, if_pos hi]
    rw [← q1]
    exact outer_eq n m (i + 1) _ (by omega) (by rw [q2]; exact hs) (fun p hp hpn => by have := q3 p (by omega); omega) (fun p hp hpn => q4 p (by omega) (by omega))
theorem idx_get {n p : Nat} (h : p < n) : (idx n).toArray[p]! = (p : Int) := by
  have := idx_at h
  rw [List.getD_eq_getElem?_getD] at this
  simpa using this
theorem sort_eq (n : Nat) : insertionSort (ltK key) (idx n).toArray 0 n = insertionSort (lxK key) (idx n).toArray 0 n := by
  unfold insertionSort
  refine outer_eq key n (n - 1) 1 _ rfl (by simp [idx_length]) (fun p hp hpn => ?_) (fun p hp hpn => idx_get hpn)
  rw [idx_get hpn]; omega
/-- The sorted indices. -/
def ordL (n : Nat) : List Int := (insertionSort (ltK key) (idx n).toArray 0 n).toList
theorem ordL_spec (n : Nat) : (ordL key n).Perm (idx n) ∧ (ordL key n).Pairwise (fun a b => lxK key b a = false) ∧ (insertionSort (ltK key) (idx n).toArray 0 n).size = n := by
  have h := insertionSort_holds (lt := lxK key) (lxK_swo key) (idx n).toArray 0 n (Nat.zero_le _) (by simp [idx_length])
  unfold ordL
  rw [sort_eq]
  generalize insertionSort (lxK key) (idx n).toArray 0 n = d at h
  obtain ⟨⟨h1, _, h3⟩, h4⟩ := h
  have hs : d.size = n := by rw [h1]; simp [idx_length]
  refine ⟨?_, ?_, hs⟩
  · have e1 : (d.extract 0 n).toList = d.toList := by rw [← hs]; simp
    have e2 : ((idx n).toArray.extract 0 n).toList = idx n := by
      simp only [List.extract_toArray, List.extract_eq_take_drop, List.drop_zero, Nat.sub_zero]
      exact List.take_of_length_le (by rw [idx_length]; exact Nat.le_refl _)
    rw [e1, e2] at h3
    exact h3
  · rw [List.pairwise_iff_getElem]
    intro i j hi hj hij
    have := h4 i j (Nat.zero_le _) hij (by rw [← hs]; simpa using hj)
    have a1 : d[i]! = d.toList[i] := by simp at hi; simp [hi]
    have a2 : d[j]! = d.toList[j] := by simp at hj; simp [hj]
    rw [a1, a2] at this
    exact this
/-! ### Groups -/
/-- The indices with this key. -/
def blockL (n : Nat) (k : List Lb) : List Int := (idx n).filter fun i => decide (key i = k)
theorem mem_block {n : Nat} {k : List Lb} {i : Int} : i ∈ blockL key n k ↔ (0 ≤ i ∧ i < n) ∧ key i = k := by
  unfold blockL; rw [List.mem_filter, mem_idx]; simp
theorem perm_blocks : ∀ (K : List (List Lb)) (l : List Int), K.Nodup → (∀ i ∈ l, key i ∈ K) → (K.flatMap fun k => l.filter fun i => decide (key i = k)).Perm l
  | [], l, _, h => by
    cases l with
    | nil => simp
    | cons i r => exact absurd (h i (by simp)) (by simp)
  | k :: K, l, hn, h => by
    rw [List.flatMap_cons]
    have hk := List.nodup_cons.1 hn
    have ih := perm_blocks K (l.filter fun i => !decide (key i = k)) hk.2 (fun i hi => by
      rw [List.mem_filter] at hi
      have h2 : key i ≠ k := by simpa using hi.2
      rcases List.mem_cons.1 (h i hi.1) with h1 | h1
      · exact absurd h1 h2
      · exact h1)
    have e : (K.flatMap fun k' => (l.filter fun i => !decide (key i = k)).filter fun i => decide (key i = k')) = K.flatMap fun k' => l.filter fun i => decide (key i = k') := by
      have : ∀ M : List (List Lb), k ∉ M → (M.flatMap fun k' => (l.filter fun i => !decide (key i = k)).filter fun i => decide (key i = k')) = M.flatMap fun k' => l.filter fun i => decide (key i = k') := by
        intro M hM
        induction M with
        | nil => rfl
        | cons k' M ihM =>
          rw [List.flatMap_cons, List.flatMap_cons, ihM (fun q => hM (List.mem_cons_of_mem _ q)), List.filter_filter]
          congr 1
          apply List.filter_congr
          intro i _
          by_cases c : key i = k'
          · have : key i ≠ k := fun c2 => hM (by rw [← c2, c]; simp)
            simp [c]
            intro c3; exact this (c.trans c3)
          · simp [c]
      exact this K hk.1
    rw [e] at ih
    have h2 := List.filter_append_perm (fun i => decide (key i = k)) l
    exact ((List.Perm.refl _).append ih).trans h2
/-- Keys, strictly increasing. -/
abbrev Inc (K : List (List Lb)) : Prop := K.Pairwise ltL
theorem Inc.nodup {K : List (List Lb)} (h : Inc K) : K.Nodup := h.imp fun h => ltL_ne h
theorem sorted_blocks (n : Nat) : ∀ (K : List (List Lb)), Inc K → (K.flatMap (blockL key n)).Pairwise (fun a b => lxK key b a = false)
  | [], _ => by simp
  | k :: K, h => by
    have h := List.pairwise_cons.1 h
    rw [List.flatMap_cons, List.pairwise_append]
    refine ⟨?_, sorted_blocks n K h.2, fun a ha b hb => ?_⟩
    · unfold blockL
      rw [List.pairwise_filter]
      refine (idx_sorted n).imp fun {a b} hab ha hb => ?_
      have ha : key a = k := by simpa using ha
      have hb : key b = k := by simpa using hb
      rw [lxK_not]
      exact .inr ⟨hb.trans ha.symm, by omega⟩
    · rw [List.mem_flatMap] at hb
      obtain ⟨k', hk', hb⟩ := hb
      rw [lxK_not, ((mem_block key).1 ha).2, ((mem_block key).1 hb).2]
      exact .inl (h.1 k' hk')
theorem perm_sorted_eq {l m : List Int} (hp : l.Perm m) (hl : l.Pairwise (fun a b => lxK key b a = false)) (hm : m.Pairwise (fun a b => lxK key b a = false)) : l = m :=
  hp.eq_of_pairwise (fun a b _ _ h1 h2 => lxK_anti key h2 h1) hl hm
theorem ord_blocks {n : Nat} {K : List (List Lb)} (hK : Inc K) (hall : ∀ i ∈ idx n, key i ∈ K) : ordL key n = K.flatMap (blockL key n) := by
  obtain ⟨h1, h2, _⟩ := ordL_spec key n
  exact perm_sorted_eq key (h1.trans (perm_blocks key K (idx n) hK.nodup hall).symm) h2 (sorted_blocks key n K hK)
/-- One index more. -/
def gadd (st : List (List Int) × Option Int) (i : Int) : List (List Int) × Option Int :=
  (match st.2 with
    | none => st.1 ++ [[i]]
    | some j => if key j = key i then st.1.dropLast ++ [st.1.getLastD [] ++ [i]] else st.1 ++ [[i]], some i)
def gruns (l : List Int) : List (List Int) × Option Int := l.foldl (gadd key) ([], none)
theorem gruns_snoc (l : List Int) (i : Int) : gruns key (l ++ [i]) = gadd key (gruns key l) i := by unfold gruns; rw [List.foldl_append]; rfl
theorem fold_same (k : List Lb) : ∀ (l : List Int) (G : List (List Int)) (g : List Int) (j : Int), key j = k → (∀ i ∈ l, key i = k) → ∃ x, key x = k ∧ l.foldl (gadd key) (G ++ [g], some j) = (G ++ [g ++ l], some x)
  | [], G, g, j, hj, _ => ⟨j, hj, by simp⟩
  | i :: l, G, g, j, hj, hl => by
    rw [List.foldl_cons]
    have hi := hl i (by simp)
    have e : gadd key (G ++ [g], some j) i = (G ++ [g ++ [i]], some i) := by unfold gadd; simp [hj, hi]
    obtain ⟨x, h1, h2⟩ := fold_same k l G (g ++ [i]) i hi (fun x hx => hl x (List.mem_cons_of_mem _ hx))
    refine ⟨x, h1, ?_⟩
    rw [e, h2]
    simp
theorem fold_blocks (f : List Lb → List Int) : ∀ (K : List (List Lb)) (G : List (List Int)) (p : Option Int), K.Nodup → (∀ k ∈ K, f k ≠ [] ∧ ∀ i ∈ f k, key i = k) → (∀ j, p = some j → key j ∉ K) → ((K.flatMap f).foldl (gadd key) (G, p)).1 = G ++ K.map f
  | [], G, p, _, _, _ => by simp
  | k :: K, G, p, hn, hf, hp => by
    have hk := List.nodup_cons.1 hn
    obtain ⟨f1, f2⟩ := hf k (by simp)
    rw [List.flatMap_cons, List.foldl_append]
    cases hfk : f k with
    | nil => exact absurd hfk f1
    | cons i l =>
      rw [hfk] at f2
      have hi := f2 i (by simp)
      have e : gadd key (G, p) i = (G ++ [[i]], some i) := by
        unfold gadd
        cases p with
        | none => rfl
        | some j =>
          have : key j ≠ key i := fun h => hp j rfl (by rw [h, hi]; simp)
          simp [this]
      obtain ⟨x, x1, x2⟩ := fold_same key k l G [i] i hi (fun x hx => f2 x (List.mem_cons_of_mem _ hx))
      rw [List.foldl_cons, e, x2, fold_blocks f K _ _ hk.2 (fun k' hk' => hf k' (List.mem_cons_of_mem _ hk'))]
      · simp [hfk]
      · intro j hj hm
        injection hj with hj
        subst hj
        rw [x1] at hm
        exact hk.1 hm
/-- What both ways to group come to. -/
theorem groups_eq {n : Nat} {K : List (List Lb)} (hK : Inc K) (hall : ∀ k, k ∈ K ↔ ∃ i ∈ idx n, key i = k) : (gruns key (ordL key n)).1 = K.map (blockL key n) := by
  unfold gruns
  rw [ord_blocks key hK (fun i hi => (hall _).2 ⟨i, hi, rfl⟩), fold_blocks key (blockL key n) K [] none hK.nodup]
  · simp
  · intro k hk
    obtain ⟨i, hi, rfl⟩ := (hall k).1 hk
    refine ⟨fun h => ?_, fun j hj => ((mem_block key).1 hj).2⟩
    have : i ∈ blockL key n (key i) := (mem_block key).2 ⟨mem_idx.1 hi, rfl⟩
    rw [h] at this; cases this
  · intro j h; cases h
end
/-! ### The reference's list of keys -/
/-- How far a key goes back. -/
def posK (x : List Lb) (K : List (List Lb)) : Nat → Nat
  | 0 => 0
  | k + 1 => if cmpL x (K.getD k []) < 0 then posK x K k else k + 1
def insK (x : List Lb) (K : List (List Lb)) : List (List Lb) :=
  let p := posK x K K.length
  if 0 < p ∧ x = K.getD (p - 1) [] then K else K.take p ++ [x] ++ K.drop p
theorem posK_spec (x : List Lb) (K : List (List Lb)) : ∀ n, posK x K n ≤ n ∧ (∀ q, posK x K n ≤ q → q < n → ltL x (K.getD q [])) ∧ (0 < posK x K n → ¬ ltL x (K.getD (posK x K n - 1) []))
  | 0 => ⟨Nat.le_refl _, fun q h1 h2 => by omega, fun h => by simp [posK] at h⟩
  | n + 1 => by
    obtain ⟨h1, h2, h3⟩ := posK_spec x K n
    rw [posK]
    split
    · rename_i h
      refine ⟨by omega, fun q hq1 hq2 => ?_, h3⟩
      by_cases e : q = n
      · subst e; exact h
      · exact h2 q hq1 (by omega)
    · rename_i h
      exact ⟨Nat.le_refl _, fun q h1 h2 => by omega, fun _ => by simpa [ltL] using h⟩
theorem insK_spec {x : List Lb} {K : List (List Lb)} (hK : Inc K) : Inc (insK x K) ∧ ∀ k, k ∈ insK x K ↔ k = x ∨ k ∈ K := by
  obtain ⟨h1, h2, h3⟩ := posK_spec x K K.length
  unfold insK
  simp only
  generalize posK x K K.length = p at h1 h2 h3
  have gd : ∀ q, (h : q < K.length) → K.getD q [] = K[q] := fun q h => by simp [h]
  split
  · rename_i h
    refine ⟨hK, fun k => ⟨fun h => .inr h, fun hk => ?_⟩⟩
    rcases hk with rfl | hk
    · rw [h.2, gd _ (by omega)]; exact List.getElem_mem _
    · exact hk
  · rename_i h
    have hlow : ∀ y ∈ K.take p, ltL y x := by
      intro y hy
      obtain ⟨q, hq, rfl⟩ := List.mem_iff_getElem.1 hy
      have hq' : q < p ∧ q < K.length := by simp at hq; omega
      rw [List.getElem_take]
      have hp0 : 0 < p := by omega
      have a1 : ¬ ltL x K[p - 1] := by have := h3 hp0; rwa [gd _ (by omega)] at this
      have a2 : x ≠ K[p - 1] := fun e => h ⟨hp0, by rw [gd _ (by omega)]; exact e⟩
      have a3 := ltL_total a1 a2
      by_cases e : q = p - 1
      · subst e; exact a3
      · exact ltL_trans (List.pairwise_iff_getElem.1 hK q (p - 1) hq'.2 (by omega) (by omega)) a3
    have hhigh : ∀ y ∈ K.drop p, ltL x y := by
      intro y hy
      obtain ⟨q, hq, rfl⟩ := List.mem_iff_getElem.1 hy
      simp at hq
      rw [List.getElem_drop]
      have := h2 (p + q) (by omega) (by omega)
      rwa [gd _ (by omega)] at this
    refine ⟨?_, fun k => ?_⟩
    · unfold Inc
      rw [List.append_assoc, List.pairwise_append]
      refine ⟨hK.sublist (List.take_sublist _ _), ?_, ?_⟩
      · rw [List.singleton_append, List.pairwise_cons]
        exact ⟨hhigh, hK.sublist (List.drop_sublist _ _)⟩
      · intro a ha b hb
        rw [List.singleton_append, List.mem_cons] at hb
        rcases hb with rfl | hb
        · exact hlow a ha
        · exact ltL_trans (hlow a ha) (hhigh b hb)
    · rw [List.mem_append, List.mem_append, List.mem_singleton]
      constructor
      · rintro ((h | h) | h)
        · exact .inr (List.mem_of_mem_take h)
        · exact .inl h
        · exact .inr (List.mem_of_mem_drop h)
      · rintro (h | h)
        · exact .inl (.inr h)
        · rw [← List.take_append_drop p K, List.mem_append] at h
          rcases h with h | h
          · exact .inl (.inl h)
          · exact .inr h
/-- The keys of the first m. -/
def keysL (key : Int → List Lb) : Nat → List (List Lb)
  | 0 => []
  | m + 1 => insK (key m) (keysL key m)
theorem keysL_spec (key : Int → List Lb) : ∀ m, Inc (keysL key m) ∧ ∀ k, k ∈ keysL key m ↔ ∃ i ∈ idx m, key i = k
  | 0 => ⟨by simp [keysL], fun k => by simp [keysL, idx]⟩
  | m + 1 => by
    obtain ⟨h1, h2⟩ := keysL_spec key m
    obtain ⟨h3, h4⟩ := insK_spec (x := key m) h1
    refine ⟨h3, fun k => ?_⟩
    rw [keysL, h4, h2, idx_succ]
    constructor
    · rintro (rfl | ⟨i, hi, rfl⟩)
      · exact ⟨m, by simp, rfl⟩
      · exact ⟨i, List.mem_append_left _ hi, rfl⟩
    · rintro ⟨i, hi, rfl⟩
      rcases List.mem_append.1 hi with hi | hi
      · exact .inr ⟨i, hi, rfl⟩
      · rw [List.mem_singleton] at hi; subst hi; exact .inl rfl
theorem insK_length (x : List Lb) (K : List (List Lb)) : (insK x K).length ≤ K.length + 1 := by
  unfold insK; simp only; split
  · omega
  · simp; omega
theorem keysL_length (key : Int → List Lb) : ∀ m, (keysL key m).length ≤ m
  | 0 => Nat.le_refl _
  | m + 1 => by rw [keysL]; have := insK_length (key m) (keysL key m); have := keysL_length key m; omega
/-- The groups. -/
def grpL (key : Int → List Lb) (n : Nat) : List (List Int) := (keysL key n).map (blockL key n)
theorem runs_grp (key : Int → List Lb) (n : Nat) : (gruns key (ordL key n)).1 = grpL key n := groups_eq key (keysL_spec key n).1 (keysL_spec key n).2
end Go.AE.Gp
