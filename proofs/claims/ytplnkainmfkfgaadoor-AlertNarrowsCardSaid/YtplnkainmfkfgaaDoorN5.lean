/- AE contracts: ref04.from, Small, Inner, Part, List. -/
import Derived.Test.YtplnkainmfkfgaaDoorN4
import Derived.Test.YtplnkainmfkfgaaDoorAe28
namespace Go.AE
open Go.Proofs
set_option linter.unusedVariables false
set_option linter.unusedSimpArgs false
/-- An interval. -/
abbrev Iv := Qf × Qf
def ivCs (x : Iv) : List C := [.p (.i .i64 x.1.1), .p (.i .i64 x.1.2), .p (.i .i64 x.2.1), .p (.i .i64 x.2.2)]
def ivV (x : Iv) : V := .a (ivCs x)
def fromQ (a b : Qf) : Iv := if cmpQ b a < 0 then (b, a) else (a, b)
def mFromI : Mod
  | [.c (.p (.l 2 2 f))] => match f 0 0, f 0 1, f 1 0, f 1 1 with
    | .i .i64 n, .i .i64 d, .i .i64 m, .i .i64 e => some (vQ (n, d) ∧ vQ (m, e), ivV (fromQ (n, d) (m, e)))
    | _, _, _, _ => none
  | _ => none
def smI (a b : Int) : Iv := fromQ (smQ a) (smQ b)
def mSmallI : Mod
  | [.c (.p (.i .i64 a)), .c (.p (.i .i64 b))] => some (inR .i64 a ∧ inR .i64 b, ivV (smI a b))
  | _ => none
def extFr : Ext := extOf [(24, mSorted)]
noncomputable def extSm : Ext := extH [(8, liftM mSmallQ), (13, frzA mFromI)]

theorem tFr1 (a b : Qf) : exTs extFr (pcs Tryd.prog Tryd.f13) (st0 Tryd.f13 [listV encQ 2 [a, b]]) (endG [] (resOf Tryd.prog Tryd.f13)) = Tr.rq (IsL encQ 2 (decL decQ [a, b].length (rowP encQ [a, b])) [a, b].length (rowP encQ [a, b]) ∧ vQs (decL decQ [a, b].length (rowP encQ [a, b])) ∧ [a, b].length ≤ 1000)
    (Tr.rq (Int.ofNat 0 ≤ Int.ofNat 0 ∧ 0 < (↑(sortQ (decL decQ [a, b].length (rowP encQ [a, b])) [a, b].length).length : Int))
      (Tr.rq (inR IntKind.i64 ((↑(sortQ (decL decQ [a, b].length (rowP encQ [a, b])) [a, b].length).length : Int) - 1))
        (Tr.rq
          (0 ≤ (↑(sortQ (decL decQ [a, b].length (rowP encQ [a, b])) [a, b].length).length : Int) - 1 ∧
            (↑(sortQ (decL decQ [a, b].length (rowP encQ [a, b])) [a, b].length).length : Int) - 1 < (↑(sortQ (decL decQ [a, b].length (rowP encQ [a, b])) [a, b].length).length : Int))
          (Tr.done X.ret
            (St.mk [V.a [C.p (PV.i IntKind.i64 ((sortQ (decL decQ [a, b].length (rowP encQ [a, b])) [a, b].length).getD (Int.toNat 0) default).fst), C.p (PV.i IntKind.i64 ((sortQ (decL decQ [a, b].length (rowP encQ [a, b])) [a, b].length).getD (Int.toNat 0) default).snd), C.p (PV.i IntKind.i64 ((sortQ (decL decQ [a, b].length (rowP encQ [a, b])) [a, b].length).getD ((↑(sortQ (decL decQ [a, b].length (rowP encQ [a, b])) [a, b].length).length : Int) - 1).toNat default).fst), C.p (PV.i IntKind.i64 ((sortQ (decL decQ [a, b].length (rowP encQ [a, b])) [a, b].length).getD ((↑(sortQ (decL decQ [a, b].length (rowP encQ [a, b])) [a, b].length).length : Int) - 1).toNat default).snd)]] []))))) := by kernel_rfl
theorem tSm (a b : Int) : exTs extSm (pcs Tryd.prog Tryd.f12) (st0 Tryd.f12 [iV a, iV b]) (endG [] (resOf Tryd.prog Tryd.f12)) = Tr.rq (inR IntKind.i64 a)
    (Tr.rq (inR IntKind.i64 b)
      (Tr.rq
        ((conVs 1 2 2 [V.c (C.sl 1 2 0 2)] ∧
            ∀ (e o : Nat),
              e < 2 →
                o < 2 →
                  isF (nth C.top [C.p (PV.i IntKind.i64 (smQ a).fst), C.p (PV.i IntKind.i64 (smQ a).snd), C.p (PV.i IntKind.i64 (smQ b).fst), C.p (PV.i IntKind.i64 (smQ b).snd)] (e * 2 + o)) = true) ∧
          vQ ((smQ a).fst, (smQ a).snd) ∧ vQ ((smQ b).fst, (smQ b).snd))
        (Tr.done X.ret
          (St.mk [V.a [C.p (PV.i IntKind.i64 (fromQ ((smQ a).fst, (smQ a).snd) ((smQ b).fst, (smQ b).snd)).fst.fst), C.p (PV.i IntKind.i64 (fromQ ((smQ a).fst, (smQ a).snd) ((smQ b).fst, (smQ b).snd)).fst.snd), C.p (PV.i IntKind.i64 (fromQ ((smQ a).fst, (smQ a).snd) ((smQ b).fst, (smQ b).snd)).snd.fst), C.p (PV.i IntKind.i64 (fromQ ((smQ a).fst, (smQ a).snd) ((smQ b).fst, (smQ b).snd)).snd.snd)]] [])))) := by kernel_rfl
theorem absZ_div {n g : Int} (hg : 0 < g) (h : g ∣ n) : absZ (n / g) = absZ n / g := by
  obtain ⟨k, rfl⟩ := h
  rw [Int.mul_ediv_cancel_left _ (by omega)]
  unfold absZ
  by_cases hk : k < 0
  · rw [if_pos hk, if_pos (Int.mul_neg_of_pos_of_neg hg hk), ← Int.mul_neg, Int.mul_ediv_cancel_left _ (by omega)]
  · rw [if_neg hk, if_neg (by have := Int.mul_nonneg (Int.le_of_lt hg) (show 0 ≤ k by omega); omega), Int.mul_ediv_cancel_left _ (by omega)]
theorem redQ_spec {n d : Int} (hd : 0 < d) : ∃ g, 0 < g ∧ n = g * (redQ n d).1 ∧ d = g * (redQ n d).2 ∧ redQ (redQ n d).1 (redQ n d).2 = redQ n d := by
  have hg := gcdZ_pos (a := absZ n) hd
  have hv := gcdZ_dvd (absZ_nn n) (show 0 ≤ d by omega)
  have hv1 : gcdZ (absZ n) d ∣ n := by
    have := hv.1
    unfold absZ at this ⊢
    split at this
    · rename_i h; rw [if_pos h]; exact Int.dvd_neg.1 this
    · rename_i h; rw [if_neg h]; exact this
  refine ⟨gcdZ (absZ n) d, hg, (Int.mul_ediv_cancel' hv1).symm, (Int.mul_ediv_cancel' hv.2).symm, ?_⟩
  have e1 : gcdZ (absZ (n / gcdZ (absZ n) d)) (d / gcdZ (absZ n) d) = 1 := by
    rw [absZ_div hg hv1]
    obtain ⟨x, hx⟩ := Int.eq_ofNat_of_zero_le (absZ_nn n)
    obtain ⟨y, rfl⟩ := Int.eq_ofNat_of_zero_le (Int.le_of_lt hd)
    rw [hx] at hg ⊢
    have hz : gcdZ (x : Int) (y : Int) = ((Nat.gcd x y : Nat) : Int) := rfl
    rw [hz] at hg ⊢
    have e2 : ((x : Int) / ((Nat.gcd x y : Nat) : Int)) = ((x / Nat.gcd x y : Nat) : Int) := (Int.natCast_ediv _ _).symm
    have e3 : ((y : Int) / ((Nat.gcd x y : Nat) : Int)) = ((y / Nat.gcd x y : Nat) : Int) := (Int.natCast_ediv _ _).symm
    rw [e2, e3]
    show ((Nat.gcd (x / Nat.gcd x y) (y / Nat.gcd x y) : Nat) : Int) = 1
    rw [Nat.gcd_div (Nat.gcd_dvd_left x y) (Nat.gcd_dvd_right x y), Nat.div_self (by omega)]
    rfl
  show redQ (n / gcdZ (absZ n) d) (d / gcdZ (absZ n) d) = _
  rw [redQ, e1, Int.ediv_one, Int.ediv_one]; rfl
theorem redQ_bd {n d : Int} (hd : 0 < d) {B : Int} (hn : -B ≤ n ∧ n ≤ B) : (-B ≤ (redQ n d).1 ∧ (redQ n d).1 ≤ B) ∧ 1 ≤ (redQ n d).2 ∧ (redQ n d).2 ≤ d := by
  obtain ⟨g, h1, h2, h3, -⟩ := redQ_spec (n := n) hd
  generalize redQ n d = r at *
  have p1 : 0 < r.2 := by
    apply Classical.byContradiction
    intro h
    have := Int.mul_nonpos_of_nonneg_of_nonpos (Int.le_of_lt h1) (show r.2 ≤ 0 by omega)
    omega
  have p2 : r.2 ≤ d := by
    rw [h3]
    have := Int.mul_le_mul_of_nonneg_right (show 1 ≤ g by omega) (Int.le_of_lt p1)
    omega
  have p3 : (r.1).natAbs ≤ n.natAbs := by
    rw [h2, Int.natAbs_mul]
    exact Nat.le_mul_of_pos_left _ (by omega)
  omega
theorem vQ_redQ {n d : Int} (hn : -1073741824 ≤ n ∧ n ≤ 1073741824) (hd : 1 ≤ d ∧ d ≤ 1073741824) : vQ (redQ n d) := by
  have := redQ_bd (d := d) (by omega) hn
  obtain ⟨g, h1, h2, h3, h4⟩ := redQ_spec (n := n) (d := d) (by omega)
  exact ⟨this.1, by omega, h4⟩
theorem smQ_bd (n : Int) : (-50 ≤ (smQ n).1 ∧ (smQ n).1 ≤ 50) ∧ 1 ≤ (smQ n).2 ∧ (smQ n).2 ≤ 12 := by
  have := aroundZ_rng n (show (0 : Int) < 1000000007 by decide)
  have := redQ_bd (n := aroundZ n 1000000007 % 101 - 50) (d := 1 + aroundZ n 1000000007 / 101 % 12) (B := 50) (by omega) (by omega)
  unfold smQ
  omega
theorem smQ_v (n : Int) : vQ (smQ n) := by
  have := aroundZ_rng n (show (0 : Int) < 1000000007 by decide)
  exact vQ_redQ (by omega) (by omega)
theorem sort2 (a b : Qf) : sortQ [a, b] 2 = if cmpQ b a < 0 then [b, a] else [a, b] := by
  show insQ (insQ [] a) b = _
  have h1 : insQ [] a = [a] := rfl
  rw [h1]
  have h2 : insIx [a] b 1 = if cmpQ b a < 0 then 0 else 1 := rfl
  unfold insQ
  show ([a].take (insIx [a] b 1) ++ b :: [a].drop (insIx [a] b 1)) = _
  rw [h2]
  split <;> rfl
section
variable {G : Nat → Option Obj}
theorem extFr_sound : SoundExt Tryd.prog G extFr := extOf_sound (by simp; exact okSorted)
set_option maxRecDepth 100000 in
theorem okFromI : ModOK Tryd.prog G 13 mFromI := by
  intro args p v hm hp h
  unfold mFromI at hm
  split at hm; rotate_left; · cases hm
  rename_i f
  split at hm; rotate_left; · cases hm
  rename_i n d m e h0 h1 h2 h3
  obtain ⟨rfl, rfl⟩ := some_pairQ hm
  clear hm
  have hL : IsL encQ 2 [(n, d), (m, e)] 2 f := by
    refine ⟨rfl, fun a o ha ho => ?_⟩
    obtain rfl | rfl : a = 0 ∨ a = 1 := by omega
    · obtain rfl | rfl : o = 0 ∨ o = 1 := by omega
      · exact h0
      · exact h1
    · obtain rfl | rfl : o = 0 ∨ o = 1 := by omega
      · exact h2
      · exact h3
  refine FnS.args (args' := [listV encQ 2 [(n, d), (m, e)]]) ?_ (.cons hL.le .nil)
  clear hL h0 h1 h2 h3
  generalize (n, d) = a at *
  generalize (m, e) = b at *
  refine fn_S Tryd.func13 (by kernel_rfl) rfl ?_ h
  refine ExS.evH extFr_sound (tFr1 a b) ?_
  rw [decL_row (fun _ => rfl)]
  simp only [List.length_cons, List.length_nil, Nat.zero_add, Nat.reduceAdd, sort2, holds_rq, holds_leaf, kf_ret']
  have hl : ∀ x y : Qf, (if cmpQ b a < 0 then [b, a] else [a, b]).length = 2 := fun _ _ => by split <;> rfl
  rw [hl a b]
  refine ⟨⟨isL_row _ _ [a, b], fun x hx => ?_, by omega⟩, ⟨by omega, by omega⟩, by simp only [inR]; omega, ⟨by omega, by omega⟩, ⟨VLe.of_eq ?_⟩⟩
  · rcases List.mem_cons.1 hx with rfl | hx
    · exact hp.1
    · rcases List.mem_cons.1 hx with rfl | hx
      · exact hp.2
      · cases hx
  · unfold fromQ
    split <;> rfl
theorem extSm_sound : SoundExt Tryd.prog G extSm := extH_sound (by simp; exact ⟨okSmallQ.lift, frzA_ok okFromI⟩)
set_option maxRecDepth 100000 in
theorem okSmallI : ModOK Tryd.prog G 12 mSmallI := by
  intro args p v hm hp h
  unfold mSmallI at hm
  split at hm; rotate_left; · cases hm
  rename_i a b
  obtain ⟨rfl, rfl⟩ := some_pairQ hm
  clear hm
  refine fn_S Tryd.func12 (by kernel_rfl) rfl ?_ h
  refine ExS.evH extSm_sound (tSm a b) ?_
  simp only [holds_rq, holds_leaf, kf_ret']
  refine ⟨hp.1, hp.2, ⟨⟨?_, ?_⟩, smQ_v a, smQ_v b⟩, ⟨VLe.of_eq rfl⟩⟩
  · simp [conVs, conV, conC]
  · intro e o he ho
    obtain rfl | rfl : e = 0 ∨ e = 1 := by omega
    · obtain rfl | rfl : o = 0 ∨ o = 1 := by omega
      · rfl
      · rfl
    · obtain rfl | rfl : o = 0 ∨ o = 1 := by omega
      · rfl
      · rfl
end
end Go.AE
