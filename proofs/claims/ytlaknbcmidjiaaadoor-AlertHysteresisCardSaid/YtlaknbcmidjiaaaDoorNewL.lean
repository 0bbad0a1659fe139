/- Plain: what ref05.New and ref05.Valid compute, and that it answers as labels.Valid. -/
import Derived.Test.YtlaknbcmidjiaaaDoorLbl2
namespace Go.Proofs.YtlaknbcmidjiaaaDoor

theorem beq_bytes (a b : ByteArray) : (a.toList == b.toList) = true ↔ a = b := by
  rw [beq_iff_eq, ByteArray.toList_eq, ByteArray.toList_eq]
  exact ⟨fun h => ByteArray.ext (Array.toList_inj.mp h), fun h => by rw [h]⟩
theorem beq_bytes' (a b : ByteArray) : (a.toList == b.toList) = decide (a = b) := by
  rw [Bool.eq_iff_iff, beq_bytes, decide_eq_true_iff]
theorem less_irrefl : ∀ l : List UInt8, Op.bytesLess l l = false
  | [] => rfl
  | x :: l => by simp [Op.bytesLess, less_irrefl l]
theorem less_trans : ∀ {a b c : List UInt8}, Op.bytesLess a b = true → Op.bytesLess b c = true → Op.bytesLess a c = true
  | _, [], _, h, _ => by cases ‹List UInt8› <;> simp [Op.bytesLess] at h
  | _, _ :: _, [], _, h => by simp [Op.bytesLess] at h
  | [], _ :: _, _ :: _, _, _ => by simp [Op.bytesLess]
  | x :: a, y :: b, z :: c, h, k => by
    have hx := UInt8.lt_iff_toNat_lt (a := x) (b := y)
    have hy := UInt8.lt_iff_toNat_lt (a := y) (b := z)
    have hz := UInt8.lt_iff_toNat_lt (a := x) (b := z)
    simp only [Op.bytesLess, Bool.or_eq_true, decide_eq_true_eq, Bool.and_eq_true, beq_iff_eq] at h k ⊢
    rcases h with h | ⟨rfl, h⟩
    · rcases k with k | ⟨rfl, k⟩
      · exact .inl (hz.2 (Nat.lt_trans (hx.1 h) (hy.1 k)))
      · exact .inl h
    · rcases k with k | ⟨rfl, k⟩
      · exact .inl k
      · exact .inr ⟨rfl, less_trans h k⟩
theorem less_total : ∀ {a b : List UInt8}, Op.bytesLess a b = false → a ≠ b → Op.bytesLess b a = true
  | [], [], _, h => absurd rfl h
  | [], _ :: _, h, _ => by simp [Op.bytesLess] at h
  | _ :: _, [], _, _ => by simp [Op.bytesLess]
  | x :: a, y :: b, h, hn => by
    have hx := UInt8.lt_iff_toNat_lt (a := x) (b := y)
    have hy := UInt8.lt_iff_toNat_lt (a := y) (b := x)
    simp only [Op.bytesLess, Bool.or_eq_false_iff, decide_eq_false_iff_not, Bool.and_eq_false_iff, beq_eq_false_iff_ne, Bool.or_eq_true, decide_eq_true_eq, Bool.and_eq_true, beq_iff_eq] at h ⊢
    obtain ⟨h1, h2⟩ := h
    by_cases he : x = y
    · subst he
      rcases h2 with h2 | h2
      · exact absurd rfl h2
      · exact .inr ⟨rfl, less_total h2 fun e => hn (by rw [e])⟩
    · refine .inl (hy.2 ?_)
      have h3 : x.toNat ≠ y.toNat := fun e => he (UInt8.toNat_inj.1 e)
      have h4 : ¬ x.toNat < y.toNat := fun e => h1 (hx.2 e)
      omega
theorem slt_irrefl (a : ByteArray) : slt a a = false := less_irrefl _
theorem slt_trans {a b c : ByteArray} (h : slt a b = true) (k : slt b c = true) : slt a c = true := less_trans h k
theorem slt_total {a b : ByteArray} (h : slt a b = false) (hn : a ≠ b) : slt b a = true := less_total h fun e => hn (by
  have := (beq_bytes a b).1 (by rw [beq_iff_eq]; exact e)
  exact this)
/-- Where a label comes in. -/
def insK (out : List Lb) (x : Lb) : Nat := (out.takeWhile fun y => slt y.1 x.1).length
def newL : List Lb → List Lb → List Lb × Int
  | [], out => (out, 0)
  | x :: r, out =>
    if nameB x.1 = false then ([], 8)
    else if x.2.toList.isEmpty = true ∨ valueB x.2 = false then ([], 1)
    else if (out[insK out x]?).any (fun y => decide (y.1 = x.1)) = true then ([], 10)
    else newL r (out.take (insK out x) ++ x :: out.drop (insK out x))
def newLs (L : List Lb) : List Lb × Int := if 8 < L.length then ([], 4) else newL L []
/-- ref05.Valid. -/
def refValid (L : List Lb) : Bool := decide ((newLs L).2 = 0) && decide ((newLs L).1 = L)
def Srt (l : List Lb) : Prop := l.Pairwise fun a b => slt a.1 b.1 = true
theorem insK_split (out : List Lb) (x : Lb) : out.take (insK out x) = out.takeWhile (fun y => slt y.1 x.1) ∧ out.drop (insK out x) = out.dropWhile (fun y => slt y.1 x.1) := by
  have h := List.takeWhile_append_dropWhile (p := fun y : Lb => slt y.1 x.1) (l := out)
  unfold insK
  constructor
  · have h2 := List.take_left (l₁ := out.takeWhile fun y => slt y.1 x.1) (l₂ := out.dropWhile fun y => slt y.1 x.1)
    rwa [h] at h2
  · have h2 := List.drop_left (l₁ := out.takeWhile fun y => slt y.1 x.1) (l₂ := out.dropWhile fun y => slt y.1 x.1)
    rwa [h] at h2
theorem takeWhile_all {p : Lb → Bool} : ∀ {l : List Lb}, (∀ y ∈ l, p y = true) → l.takeWhile p = l
  | [], _ => rfl
  | x :: l, h => by
    rw [List.takeWhile_cons, if_pos (h x (List.mem_cons_self ..)), takeWhile_all fun y hy => h y (List.mem_cons_of_mem _ hy)]
theorem srt_ins {out : List Lb} {x : Lb} (h : Srt out) (hx : (out[insK out x]?).any (fun y => decide (y.1 = x.1)) ≠ true) : Srt (out.take (insK out x) ++ x :: out.drop (insK out x)) := by
  have hs := h
  rw [← List.take_append_drop (insK out x) out] at hs
  unfold Srt at hs ⊢
  rw [List.pairwise_append] at hs ⊢
  obtain ⟨h1, h2, h3⟩ := hs
  have hA : ∀ a ∈ out.take (insK out x), slt a.1 x.1 = true := by
    rw [(insK_split out x).1]
    intro a ha
    exact List.all_eq_true.1 List.all_takeWhile a ha
  have hB : ∀ b ∈ out.drop (insK out x), slt x.1 b.1 = true := by
    cases hd : out.drop (insK out x) with
    | nil => intro b hb; cases hb
    | cons b r =>
      have hb0 : out[insK out x]? = some b := by
        have := congrArg (·[0]?) hd
        simpa using this
      have hne : b.1 ≠ x.1 := by
        rw [hb0] at hx
        simpa using hx
      have hlt : slt b.1 x.1 = false := by
        have h5 := (insK_split out x).2
        rw [hd] at h5
        have := List.head?_dropWhile_not (fun y : Lb => slt y.1 x.1) out
        rw [← h5] at this
        simpa using this
      have hb := slt_total hlt hne
      rw [hd] at h2
      intro y hy
      rcases List.mem_cons.1 hy with rfl | hy
      · exact hb
      · exact slt_trans hb ((List.pairwise_cons.1 h2).1 y hy)
  refine ⟨h1, List.pairwise_cons.2 ⟨hB, h2⟩, ?_⟩
  intro a ha b hb
  rcases List.mem_cons.1 hb with rfl | hb
  · exact hA a ha
  · exact h3 a ha b hb
theorem newL_ok : ∀ {xs out s : List Lb}, newL xs out = (s, 0) → Srt out → Srt s ∧ ∀ x ∈ xs, nameB x.1 = true ∧ x.2.toList.isEmpty = false ∧ valueB x.2 = true
  | [], out, s, h, hs => by
    simp only [newL, Prod.mk.injEq] at h
    exact ⟨h.1 ▸ hs, fun _ hx => by cases hx⟩
  | x :: r, out, s, h, hs => by
    unfold newL at h
    split at h
    · simp at h
    · rename_i h1
      split at h
      · simp at h
      · rename_i h2
        split at h
        · simp at h
        · rename_i h3
          obtain ⟨q1, q2⟩ := newL_ok h (srt_ins hs h3)
          refine ⟨q1, fun y hy => ?_⟩
          rcases List.mem_cons.1 hy with rfl | hy
          · simp only [not_or, Bool.not_eq_true, Bool.not_eq_false] at h1 h2
            exact ⟨h1, h2⟩
          · exact q2 y hy
theorem okl_at {L : List Lb} {i : Nat} (hv : validL (fun k => L.getD k default) L.length = true) (hi : i < L.length) : nameB (L.getD i default).1 = true ∧ (L.getD i default).2.toList.isEmpty = false ∧ valueB (L.getD i default).2 = true ∧ (0 < i → slt (L.getD (i - 1) default).1 (L.getD i default).1 = true) := by
  unfold validL at hv
  rw [Bool.and_eq_true, oklUp_iff] at hv
  have := hv.2 i hi
  unfold okl at this
  simp only [Bool.and_eq_true, Bool.or_eq_true, decide_eq_true_eq, Bool.not_eq_true'] at this
  obtain ⟨⟨⟨h1, h2⟩, h3⟩, h4⟩ := this
  refine ⟨h1, h2, h3, fun h0 => ?_⟩
  rcases h4 with h4 | h4
  · omega
  · exact h4
theorem valid_lt {L : List Lb} (hv : validL (fun k => L.getD k default) L.length = true) : ∀ (i j : Nat), j < i → i < L.length → slt (L.getD j default).1 (L.getD i default).1 = true
  | 0, _, h, _ => by omega
  | i + 1, j, h, hi => by
    have h1 := (okl_at hv hi).2.2.2 (by omega)
    simp only [Nat.add_sub_cancel] at h1
    by_cases hj : j = i
    · subst hj; exact h1
    · exact slt_trans (valid_lt hv i j (by omega) (by omega)) h1
theorem newL_valid {L : List Lb} (hv : validL (fun k => L.getD k default) L.length = true) : ∀ (m i : Nat), i + m = L.length → newL (L.drop i) (L.take i) = (L, 0)
  | 0, i, h => by
    rw [List.drop_of_length_le (by omega), List.take_of_length_le (by omega)]
    rfl
  | m + 1, i, h => by
    have hi : i < L.length := by omega
    rw [List.drop_eq_getElem_cons hi]
    obtain ⟨h1, h2, h3, _⟩ := okl_at hv hi
    have hx : L.getD i default = L[i] := by simp [hi]
    rw [hx] at h1 h2 h3
    have hall : ∀ y ∈ L.take i, slt y.1 L[i].1 = true := by
      intro y hy
      obtain ⟨j, hj, rfl⟩ := List.getElem_of_mem hy
      have hj' : j < i := by simp at hj; omega
      have := valid_lt hv i j hj' hi
      rw [hx] at this
      have e : L.getD j default = L[j]'(by omega) := by simp [show j < L.length by omega]
      rw [e] at this
      rw [List.getElem_take]
      exact this
    have hk : insK (L.take i) L[i] = i := by
      unfold insK
      rw [takeWhile_all hall]
      simp; omega
    have hn : (L.take i)[i]? = none := by rw [List.getElem?_eq_none]; simp; omega
    unfold newL
    rw [if_neg (by simp [h1]), if_neg (by simp [h2, h3]), hk, hn, if_neg (by simp)]
    have e : (L.take i).take i ++ L[i] :: (L.take i).drop i = L.take (i + 1) := by
      rw [List.take_take, Nat.min_self, List.drop_of_length_le (by simp; omega), List.take_add_one]
      simp [hi]
    rw [e]
    exact newL_valid hv m (i + 1) (by omega)
theorem refValid_eq (L : List Lb) : refValid L = validL (fun k => L.getD k default) L.length := by
  rw [Bool.eq_iff_iff]
  unfold refValid
  rw [Bool.and_eq_true, decide_eq_true_iff, decide_eq_true_iff]
  constructor
  · rintro ⟨h1, h2⟩
    unfold newLs at h1 h2
    split at h1
    · cases h1
    · rename_i h8
      rw [if_neg h8] at h2
      have h3 : newL L [] = (L, 0) := Prod.ext h2 h1
      obtain ⟨q1, q2⟩ := newL_ok h3 List.Pairwise.nil
      unfold validL
      rw [Bool.and_eq_true, oklUp_iff, decide_eq_true_iff]
      refine ⟨by omega, fun k hk => ?_⟩
      have e : L.getD k default = L[k] := by simp [hk]
      obtain ⟨a1, a2, a3⟩ := q2 L[k] (List.getElem_mem hk)
      unfold okl
      simp only [Bool.and_eq_true, Bool.or_eq_true, decide_eq_true_eq, Bool.not_eq_true']
      rw [e]
      refine ⟨⟨⟨a1, a2⟩, a3⟩, ?_⟩
      by_cases h0 : k = 0
      · exact .inl h0
      · refine .inr ?_
        have e' : L.getD (k - 1) default = L[k - 1]'(by omega) := by simp [show k - 1 < L.length by omega]
        rw [e']
        exact List.pairwise_iff_getElem.1 q1 (k - 1) k (by omega) hk (by omega)
  · intro hv
    have h8 : ¬ 8 < L.length := by
      unfold validL at hv
      rw [Bool.and_eq_true, decide_eq_true_iff] at hv
      omega
    have := newL_valid hv L.length 0 (by omega)
    unfold newLs
    rw [if_neg h8]
    simp at this
    rw [this]
    exact ⟨rfl, rfl⟩
end Go.Proofs.YtlaknbcmidjiaaaDoor
