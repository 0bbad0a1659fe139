/- Plain law: comparing pages. -/
import Derived.Test.YtfjihbmehhccoaaP24
namespace Go.AE
set_option linter.unusedVariables false
set_option linter.unusedSimpArgs false
open Go.Proofs Go.Proofs.Ytfjihbmehhccoaa Gp Go.RowKit
/-- A comparison with three answers. -/
structure Cw {α : Type} (F : α → α → Int) : Prop where
  anti : ∀ a b, F a b = - F b a
  zero : ∀ a b, F a b = 0 ↔ a = b
  le : ∀ a b c, F a b ≤ 0 → F b c ≤ 0 → F a c ≤ 0
def lexF {α β : Type} (F : α → α → Int) (H : β → β → Int) (x y : α × β) : Int := if F x.1 y.1 ≠ 0 then F x.1 y.1 else H x.2 y.2
theorem Cw.lex {α β : Type} {F : α → α → Int} {H : β → β → Int} (hF : Cw F) (hH : Cw H) : Cw (lexF F H) where
  anti := fun a b => by
    unfold lexF
    have h1 := hF.anti a.1 b.1
    have h2 := hH.anti a.2 b.2
    by_cases h : F a.1 b.1 = 0
    · rw [if_neg (by simpa using h), if_neg (by omega)]; exact h2
    · rw [if_pos h, if_pos (by omega)]; exact h1
  zero := fun a b => by
    unfold lexF
    by_cases h : F a.1 b.1 = 0
    · rw [if_neg (by simpa using h), hH.zero]
      have h1 := (hF.zero _ _).1 h
      exact ⟨fun h2 => Prod.ext h1 h2, fun h2 => by rw [h2]⟩
    · rw [if_pos h]
      exact ⟨fun h2 => absurd h2 h, fun h2 => absurd ((hF.zero _ _).2 (by rw [h2])) h⟩
  le := fun a b c h k => by
    unfold lexF at *
    have t1 := hF.le a.1 b.1 c.1
    have t2 := hH.le a.2 b.2 c.2
    by_cases h1 : F a.1 b.1 = 0
    · rw [if_neg (by simpa using h1)] at h
      have e := (hF.zero _ _).1 h1
      rw [e]
      by_cases h2 : F b.1 c.1 = 0
      · rw [if_neg (by simpa using h2)] at k ⊢
        exact t2 h k
      · rw [if_pos h2] at k ⊢
        exact k
    · rw [if_pos h1] at h
      by_cases h2 : F b.1 c.1 = 0
      · have e := (hF.zero _ _).1 h2
        rw [← e, if_pos h1]
        exact h
      · rw [if_pos h2] at k
        have t3 := t1 h k
        by_cases h3 : F a.1 c.1 = 0
        · have e := (hF.zero _ _).1 h3
          have q := hF.anti b.1 c.1
          rw [← e] at q k h2
          omega
        · rw [if_pos h3]; exact t3
theorem cw_Z : Cw cmpZ where
  anti := fun a b => by
    unfold cmpZ
    by_cases h : a < b
    · rw [if_pos h, if_neg (by omega), if_pos h]
    · by_cases h2 : b < a
      · rw [if_neg h, if_pos h2, if_pos h2]; rfl
      · rw [if_neg h, if_neg h2, if_neg h2, if_neg h]; rfl
  zero := fun a b => by
    unfold cmpZ
    by_cases h : a < b
    · rw [if_pos h]; omega
    · by_cases h2 : b < a
      · rw [if_neg h, if_pos h2]; omega
      · rw [if_neg h, if_neg h2]; omega
  le := fun a b c h k => by
    have l : ∀ x y, cmpZ x y ≤ 0 ↔ x ≤ y := fun x y => by
      unfold cmpZ
      by_cases h : x < y
      · rw [if_pos h]; omega
      · by_cases h2 : y < x
        · rw [if_neg h, if_pos h2]; omega
        · rw [if_neg h, if_neg h2]; omega
    rw [l] at *
    omega
theorem cmpS_anti (a b : ByteArray) : cmpS a b = - cmpS b a := by
  unfold cmpS
  by_cases h : lessS a b = true
  · have h2 := lessS_asymm h
    have h3 : b ≠ a := fun e => by rw [e, lessS_irrefl] at h; cases h
    rw [if_pos h, if_neg (by rw [h2]; simp), if_neg h3]
  · by_cases e : a = b
    · subst e; rw [if_neg h, if_pos rfl]; rfl
    · have h2 := lessS_total (by simpa using h) e
      rw [if_neg h, if_neg e, if_pos h2]; rfl
theorem cw_S : Cw cmpS where
  anti := cmpS_anti
  zero := fun a b => cmpS_zero
  le := fun a b c h k => by
    by_cases h1 : cmpS a b = 0
    · rw [cmpS_zero.1 h1]; exact k
    · by_cases h2 : cmpS b c = 0
      · rw [← cmpS_zero.1 h2]; exact h
      · have q1 := cmpS_neg.1 (show cmpS a b < 0 by omega)
        have q2 := cmpS_neg.1 (show cmpS b c < 0 by omega)
        have := cmpS_neg.2 (lessS_trans q1 q2)
        omega
theorem cmpL_anti : ∀ (a b : List (ByteArray × ByteArray)), cmpL a b = - cmpL b a
  | [], [] => rfl
  | [], _ :: _ => rfl
  | _ :: _, [] => rfl
  | x :: xs, y :: ys => by
    rw [cmpL, cmpL]
    by_cases e : x = y
    · subst e; rw [if_pos rfl, if_pos rfl]; exact cmpL_anti xs ys
    · rw [if_neg e, if_neg (fun h : y = x => e h.symm)]
      by_cases e1 : x.1 = y.1
      · rw [if_pos e1, if_pos e1.symm]; exact cmpS_anti _ _
      · rw [if_neg e1, if_neg (fun h => e1 h.symm)]; exact cmpS_anti _ _
theorem cw_L : Cw cmpL where
  anti := cmpL_anti
  zero := fun a b => cmpL_zero
  le := fun a b c h k => by
    by_cases h1 : cmpL a b = 0
    · rw [cmpL_zero.1 h1]; exact k
    · by_cases h2 : cmpL b c = 0
      · rw [← cmpL_zero.1 h2]; exact h
      · have : cmpL a c < 0 := ltL_trans (show cmpL a b < 0 by omega) (show cmpL b c < 0 by omega)
        omega
/-- The first that is not zero. -/
def orL : List Int → Int
  | [] => 0
  | x :: r => if x ≠ 0 then x else orL r
def cmpsP (a b : Pg) : List Int := [cmpS a.ru b.ru, cmpZ a.ve b.ve, cmpL a.L b.L, cmpZ a.st b.st, cmpZ a.kd b.kd, cmpZ a.se b.se, cmpS a.to b.to]
def cmpP (a b : Pg) : Int := orL (cmpsP a b)
def keyP (p : Pg) : ByteArray × Int × List (ByteArray × ByteArray) × Int × Int × Int × ByteArray := (p.ru, p.ve, p.L, p.st, p.kd, p.se, p.to)
theorem keyP_inj {a b : Pg} (h : keyP a = keyP b) : a = b := by
  obtain ⟨a1, a2, a3, a4, a5, a6, a7⟩ := a
  obtain ⟨b1, b2, b3, b4, b5, b6, b7⟩ := b
  unfold keyP at h
  simp only [Prod.mk.injEq] at h
  obtain ⟨h1, h2, h3, h4, h5, h6, h7⟩ := h
  subst h1; subst h2; subst h3; subst h4; subst h5; subst h6; subst h7
  rfl
instance : DecidableEq Pg := fun a b => decidable_of_iff (keyP a = keyP b) ⟨keyP_inj, fun h => by rw [h]⟩
def cmpK : (ByteArray × Int × List (ByteArray × ByteArray) × Int × Int × Int × ByteArray) → (ByteArray × Int × List (ByteArray × ByteArray) × Int × Int × Int × ByteArray) → Int := lexF cmpS (lexF cmpZ (lexF cmpL (lexF cmpZ (lexF cmpZ (lexF cmpZ cmpS)))))
theorem cw_K : Cw cmpK := cw_S.lex (cw_Z.lex (cw_L.lex (cw_Z.lex (cw_Z.lex (cw_Z.lex cw_S)))))
theorem cmpP_eq (a b : Pg) : cmpP a b = cmpK (keyP a) (keyP b) := by
  unfold cmpP cmpsP cmpK lexF keyP
  simp only [orL]
  have : ∀ x : Int, (if x ≠ 0 then x else 0) = x := fun x => by
    by_cases h : x = 0
    · subst h; rfl
    · rw [if_pos h]
  rw [this]
theorem cmpP_anti (a b : Pg) : cmpP a b = - cmpP b a := by rw [cmpP_eq, cmpP_eq]; exact cw_K.anti _ _
theorem cmpP_zero (a b : Pg) : cmpP a b = 0 ↔ a = b := by rw [cmpP_eq, cw_K.zero]; exact ⟨keyP_inj, fun h => by rw [h]⟩
theorem cmpP_le (a b c : Pg) (h : cmpP a b ≤ 0) (k : cmpP b c ≤ 0) : cmpP a c ≤ 0 := by
  rw [cmpP_eq] at *
  exact cw_K.le _ _ _ h k
end Go.AE
