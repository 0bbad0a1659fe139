/- Plain: rotas. -/
import Derived.Test.YtkpladkcppeciaaS3
namespace Go.AE
set_option linter.unusedVariables false
set_option linter.unusedSimpArgs false
open Go.Proofs Go.Proofs.Ytkpladkcppeciaa

def badS (P : Int) (x : Sh) : Bool := decide (x.2.1 < 0) || decide (x.2.2 ≤ x.2.1) || decide (P < x.2.2)
def scanR (P : Int) : List Sh → Int
  | [] => 0
  | x :: r => if nameB x.1 = false then 8 else if badS P x = true then 5 else scanR P r
/-- All ticks of the period are covered. -/
def Full (P : Int) (L : List Sh) : Prop := ∀ t : Int, 0 ≤ t → t < P → covB L t = true
open Classical in
noncomputable def rotaZ (P : Int) (L : List Sh) : Int :=
  if P < 1 ∨ 1048576 < P then 5 else if 200 < L.length then 4 else if scanR P L ≠ 0 then scanR P L else if Full P L then 0 else 9
theorem covB_iff {L : List Sh} {t : Int} : covB L t = true ↔ ∃ x ∈ L, x.2.1 ≤ t ∧ t < x.2.2 := by
  unfold covB
  simp
theorem scanR_drop {P : Int} {L : List Sh} {i : Nat} (hi : i < L.length) : scanR P (L.drop i) = if nameB (L.getD i default).1 = false then 8 else if badS P (L.getD i default) = true then 5 else scanR P (L.drop (i + 1)) := by
  have e : L.getD i default = L[i] := by rw [List.getD_eq_getElem?_getD, List.getElem?_eq_getElem hi]; rfl
  rw [List.drop_eq_getElem_cons hi, e]
  rfl
theorem scanR_ok {P : Int} : ∀ {L : List Sh}, scanR P L = 0 → ∀ x ∈ L, nameB x.1 = true ∧ 0 ≤ x.2.1 ∧ x.2.1 < x.2.2 ∧ x.2.2 ≤ P
  | [], _, x, hx => by cases hx
  | y :: r, h, x, hx => by
    simp only [scanR] at h
    split at h
    · cases h
    · rename_i h1
      split at h
      · cases h
      · rename_i h2
        rcases List.mem_cons.1 hx with rfl | hx
        · simp [badS] at h1 h2
          exact ⟨h1, by omega, by omega, by omega⟩
        · exact scanR_ok h x hx
theorem full_iff {P : Int} {L : List Sh} (hP : 1 ≤ P) (hs : scanR P L = 0) : Full P L ↔ covB L 0 = true ∧ ∀ x ∈ L, x.2.2 < P → covB L x.2.2 = true := by
  constructor
  · intro h
    refine ⟨h 0 (by omega) (by omega), fun x hx hlt => ?_⟩
    have := scanR_ok hs x hx
    exact h _ (by omega) hlt
  · rintro ⟨h0, h1⟩ t ht0 ht1
    obtain ⟨n, rfl⟩ : ∃ n : Nat, t = n := ⟨t.toNat, by omega⟩
    induction n with
    | zero => exact h0
    | succ n ih =>
      have := ih (by omega) (by omega)
      obtain ⟨x, hx, h2, h3⟩ := covB_iff.1 this
      by_cases e : ((n + 1 : Nat) : Int) < x.2.2
      · exact covB_iff.2 ⟨x, hx, by omega, e⟩
      · have e2 : ((n + 1 : Nat) : Int) = x.2.2 := by omega
        rw [e2]
        exact h1 x hx (by omega)
theorem rotaZ_cases {P : Int} {L : List Sh} (h1 : ¬ (P < 1 ∨ 1048576 < P)) (h2 : ¬ 200 < L.length) : (∀ c, c ≠ 0 → scanR P L = c → rotaZ P L = c) ∧ (scanR P L = 0 → Full P L → rotaZ P L = 0) ∧ (scanR P L = 0 → ¬ Full P L → rotaZ P L = 9) := by
  refine ⟨fun c hc h => ?_, fun h hf => ?_, fun h hf => ?_⟩
  · unfold rotaZ; rw [if_neg h1, if_neg h2, if_pos (by rw [h]; exact hc), h]
  · unfold rotaZ; rw [if_neg h1, if_neg h2, if_neg (by simp [h]), if_pos hf]
  · unfold rotaZ; rw [if_neg h1, if_neg h2, if_neg (by simp [h]), if_neg hf]
theorem rotaZ_ok {P : Int} {L : List Sh} (h : rotaZ P L = 0) : (1 ≤ P ∧ P ≤ 1048576) ∧ L.length ≤ 200 ∧ scanR P L = 0 ∧ Full P L := by
  unfold rotaZ at h
  split at h
  · cases h
  · rename_i h1
    split at h
    · cases h
    · rename_i h2
      split at h
      · rename_i h3; exact absurd h h3
      · rename_i h3
        split at h
        · rename_i h4; exact ⟨by omega, by omega, by simpa using h3, h4⟩
        · cases h
theorem hasS_iff {s : ByteArray} {L : List ByteArray} : hasS s L = true ↔ s ∈ L := by unfold hasS; simp
/-- The persons on duty, in order, each once. -/
def persF (at_ : Int) : List Sh → List ByteArray → List ByteArray
  | [], acc => acc
  | x :: r, acc => persF at_ r (if (x.2.1 ≤ at_ ∧ at_ < x.2.2) ∧ hasS x.1 acc = false then acc ++ [x.1] else acc)
def pers (at_ : Int) (L : List Sh) : List ByteArray := persF at_ L []
theorem persF_drop {a : Int} {L : List Sh} {i : Nat} {acc : List ByteArray} (hi : i < L.length) : persF a (L.drop i) acc = persF a (L.drop (i + 1)) (if ((L.getD i default).2.1 ≤ a ∧ a < (L.getD i default).2.2) ∧ hasS (L.getD i default).1 acc = false then acc ++ [(L.getD i default).1] else acc) := by
  have e : L.getD i default = L[i] := by rw [List.getD_eq_getElem?_getD, List.getElem?_eq_getElem hi]; rfl
  rw [List.drop_eq_getElem_cons hi, e]
  rfl
theorem persF_sub {a : Int} : ∀ {L : List Sh} {acc : List ByteArray} {s : ByteArray}, s ∈ acc → s ∈ persF a L acc
  | [], _, _, h => h
  | x :: r, acc, s, h => by
    unfold persF
    refine persF_sub ?_
    split
    · simp [h]
    · exact h
theorem persF_mem {a : Int} : ∀ {L : List Sh} {acc : List ByteArray} {x : Sh}, x ∈ L → x.2.1 ≤ a → a < x.2.2 → x.1 ∈ persF a L acc
  | y :: r, acc, x, hx, h1, h2 => by
    unfold persF
    rcases List.mem_cons.1 hx with rfl | hx
    · refine persF_sub ?_
      split
      · simp
      · rename_i h
        refine hasS_iff.1 ?_
        cases hb : hasS x.1 acc with
        | true => rfl
        | false => exact absurd ⟨⟨h1, h2⟩, hb⟩ h
    · exact persF_mem hx h1 h2
theorem pers_pos {a : Int} {L : List Sh} (h : covB L a = true) : 0 < (pers a L).length := by
  obtain ⟨x, hx, h1, h2⟩ := covB_iff.1 h
  exact List.length_pos_of_mem (persF_mem (acc := []) hx h1 h2)
theorem persF_length {a : Int} : ∀ (L : List Sh) (acc : List ByteArray), (persF a L acc).length ≤ acc.length + L.length
  | [], acc => by simp [persF]
  | x :: r, acc => by
    unfold persF
    refine Nat.le_trans (persF_length r _) ?_
    split <;> simp <;> omega
/-- The person at a tick and a level, and the error. -/
noncomputable def dutyZ (P : Int) (L : List Sh) (t l : Int) : ByteArray × Int :=
  if rotaZ P L ≠ 0 then (⟨#[]⟩, rotaZ P L) else if t < 0 ∨ 1048576 < t then (⟨#[]⟩, 5) else if l < 0 then (⟨#[]⟩, 1)
  else ((pers (t % P) L).getD (min l ((pers (t % P) L).length - 1)).toNat default, 0)
end Go.AE
