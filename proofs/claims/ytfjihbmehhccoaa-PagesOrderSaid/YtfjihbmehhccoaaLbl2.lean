/- What labels.Valid answers, for every list of labels. -/
import Derived.Test.YtfjihbmehhccoaaLbl
import Derived.Test.YtfjihbmehhccoaaWords
import Derived.Deep.QuietTactic
import Derived.BigQuiet
import Derived.WalkSmall
namespace Go.Proofs.Ytfjihbmehhccoaa
open Go.RowKit

/-- A label: its name and its value. -/
abbrev Lb := ByteArray × ByteArray
/-- The cells of a list of labels. -/
def lcell (f : Nat → Lb) (j : Nat) : Value := .string (if j % 2 = 0 then (f (j / 2)).1 else (f (j / 2)).2)
theorem lcell0 (f : Nat → Lb) (k : Nat) : lcell f (k * 2) = .string (f k).1 := by
  unfold lcell; rw [if_pos (by omega), show k * 2 / 2 = k by omega]
theorem lcell1 (f : Nat → Lb) (k : Nat) : lcell f (k * 2 + 1) = .string (f k).2 := by
  unfold lcell; rw [if_neg (by omega), show (k * 2 + 1) / 2 = k by omega]
/-- The slice (A, n) of labels holds f 0, .., f (n - 1), below block B. -/
def RdL (w : World) (B : Nat) (A : Option Addr) (n : Nat) (f : Nat → Lb) : Prop := Rd w B A (n * 2) (lcell f)
theorem add_add' (a : Addr) (i j : Nat) : (a.add i).add j = a.add (i + j) := by
  unfold Addr.add
  by_cases hi : i = 0 <;> by_cases hj : j = 0 <;> simp [hi, hj, Nat.add_assoc]
theorem RdL.at_ {w : World} {B n : Nat} {A : Option Addr} {f : Nat → Lb} (h : RdL w B A n f) {k : Nat} (hk : k < n) : ∃ ad, A = some ad ∧ ad.block < B ∧ w.cell? (ad.add (k * 2)) = some (.string (f k).1) ∧ w.cell? ⟨(ad.add (k * 2)).block, (ad.add (k * 2)).off + 1, none⟩ = some (.string (f k).2) := by
  obtain ⟨ad, e, hlt, hc⟩ := h (by omega)
  refine ⟨ad, e, hlt, ?_, ?_⟩
  · rw [hc _ (by omega), lcell0]
  · have e1 : (⟨(ad.add (k * 2)).block, (ad.add (k * 2)).off + 1, none⟩ : Addr) = (ad.add (k * 2)).add 1 := by simp [Addr.add]
    rw [e1, add_add', hc _ (by omega), lcell1]

/-- A new block's cells, behind calls that change nothing that was there. -/
theorem cell_after {w w' : World} {cs : Array Value} {t : TypeId} (hb : Below (w.alloc (.cells cs t)).heap.size (w.alloc (.cells cs t)) w') (i : Nat) {v : Value} (h : cs[i]? = some v) : w'.cell? ⟨w.heap.size, i, none⟩ = some v := by
  rw [hb.cell (by simp)]
  rw [cell_of_row _ w.heap.size i cs t (0, 0) (heap_alloc_new w _)]
  exact h
/-- Names in order. -/
def slt (a b : ByteArray) : Bool := Op.bytesLess a.toList b.toList
/-- Label k of a list may stand in a label set. -/
def okl (f : Nat → Lb) (k : Nat) : Bool := nameB (f k).1 && !(f k).2.toList.isEmpty && valueB (f k).2 && (decide (k = 0) || slt (f (k - 1)).1 (f k).1)
def oklUp (f : Nat → Lb) (n : Nat) : Bool := (List.range n).all (okl f)
theorem oklUp_succ (f : Nat → Lb) (n : Nat) : oklUp f (n + 1) = (oklUp f n && okl f n) := by simp [oklUp, List.range_succ]
theorem oklUp_iff (f : Nat → Lb) (n : Nat) : oklUp f n = true ↔ ∀ k, k < n → okl f k = true := by simp [oklUp]
/-- The list f 0, .., f (n - 1) is a label set. -/
def validL (f : Nat → Lb) (n : Nat) : Bool := decide (n ≤ 8) && oklUp f n
theorem validL_bad {f : Nat → Lb} {n k : Nat} (hk : k < n) (h : okl f k = false) : validL f n = false := by
  have : oklUp f n = false := by
    rw [← Bool.not_eq_true, oklUp_iff]
    intro h2
    rw [h2 k hk] at h
    cases h
  simp [validL, this]

set_option maxRecDepth 100000 in
set_option maxHeartbeats 2000000 in
theorem lValid_any (A : Option Addr) (n c : Nat) (f : Nat → Lb) (w : World) (hR : RdL w w.heap.size A n f) :
    Calls Try.prog 73 #[.slice A n c] w fun e w' => e = .returned (.bool (validL f n)) ∧ Below w.heap.size w w' := by
  by_cases h8 : 8 < n
  · have : validL f n = false := by unfold validL; rw [decide_eq_false (by omega)]; rfl
    rw [this]
    clear this
    go_enter Try.func73, Try.ntmps73
    go_wp2
    go_ret
    exact ⟨rfl, Below.refl _ _⟩
  · have d8 : decide (8 < (n : Int)) = false := by simp; omega
    go_enter Try.func73, Try.ntmps73
    go_wp2
    go_loopw [10] (fun i wr => ∃ k : Nat, k ≤ n ∧ i = .int .i64 k ∧ oklUp f k = true ∧ Below w.heap.size w wr) (fun i _ => n - (intOf i).toNat)
    case atStart => exact ⟨0, Nat.zero_le _, rfl, rfl, Below.refl _ _⟩
    case round =>
      obtain ⟨k, hk, rfl, hok, hB⟩ := hrel
      have HOK := Lib.hid hok
      clear hok
      by_cases hlt : k < n
      · obtain ⟨ad, rfl, hab, hc0, hc1⟩ := (RdL.at_ (Rd.below hR hB) hlt)
        have hokl : okl f k = (nameB (f k).1 && !(f k).2.toList.isEmpty && valueB (f k).2 && (decide (k = 0) || slt (f (k - 1)).1 (f k).1)) := rfl
        obtain ⟨nm, hnm⟩ : ∃ nm, nm = (f k).1 := ⟨_, rfl⟩
        obtain ⟨vv, hvv⟩ : ∃ vv, vv = (f k).2 := ⟨_, rfl⟩
        rw [← hnm] at hc0
        rw [← hvv] at hc1
        rw [← hnm, ← hvv] at hokl
        have HKL := Lib.hid hokl
        clear hnm hvv hokl
        by_cases hN : nameB nm = true
        · have HN := Lib.hid hN
          go_wp2_with fail
          refine (lName_any nm _).mono ?_
          rintro e w2 ⟨rfl, hb2⟩
          have c0 := cell_after hb2 0 (v := .string nm) rfl
          have c1 := cell_after hb2 1 (v := .string vv) rfl
          have B2 : Below w.heap.size w w2 := (hB.alloc hB.size _).trans (hb2.mono (by have := hB.size; simp; omega))
          rw [hN]
          clear hN
          by_cases hE : vv.toList.isEmpty = false
          · have HE := Lib.hid hE
            go_wp2_with fail
            refine (lValue_any vv _).mono ?_
            rintro e w3 ⟨rfl, hb3⟩
            have B3 : Below w.heap.size w w3 := B2.trans (hb3.mono B2.size)
            by_cases hV : valueB vv = true
            · have HV := Lib.hid hV
              rw [hV]
              clear hV
              by_cases h0 : 0 < k
              · have hi : decide (0 < (k : Int)) = true := by simp; omega
                have hi2 : (0 : Int) < k := by omega
                have c0' := (hb3.cell (p := ⟨wr.heap.size, 0, none⟩) (by have := hb2.size; simp at this ⊢; omega)).trans c0
                obtain ⟨ad', ead, _, hp0, _⟩ := (RdL.at_ (Rd.below hR B3) (show k - 1 < n by omega))
                obtain rfl : ad = ad' := by injection ead
                obtain ⟨pm, hpm⟩ : ∃ pm, pm = (f (k - 1)).1 := ⟨_, rfl⟩
                rw [← hpm] at hp0
                have HPM := Lib.hid hpm
                have hk1 : (0 : Int) ≤ k - 1 := by omega
                have hk2 : (k : Int) - 1 < n := by omega
                have hk3 : ((k : Int) - 1).toNat = k - 1 := by omega
                have hk4 : IntKind.i64.wrap ((k : Int) - 1) = (k : Int) - 1 := IntWalk.i64_in _ (by omega)
                clear hpm c0 c1 ead
                by_cases hS : Op.bytesLess pm.toList nm.toList = true
                · have hS' : (!Op.bytesLess pm.toList nm.toList) = false := by rw [hS]; rfl
                  have HS := Lib.hid hS
                  clear hS
                  go_wp2_with fail
                  go_quiet (fail)
                  go_wp2
                  go_roundw
                  case rel => exact ⟨k + 1, by omega, by go_num, by rw [oklUp_succ, HOK.out, HKL.out, HN.out, HE.out, HV.out, ← HPM.out, slt, HS.out]; simp, below_drewN B3 _⟩
                  case measure => simp [intOf]; omega
                · have hS' : (!Op.bytesLess pm.toList nm.toList) = true := by simpa using hS
                  have HS := Lib.hid (show Op.bytesLess pm.toList nm.toList = false by simpa using hS)
                  clear hS
                  go_wp2_with fail
                  go_quiet (fail)
                  go_wp2
                  go_ret
                  exact ⟨by rw [validL_bad hlt (by rw [HKL.out, ← HPM.out, slt, HS.out, decide_eq_false (by omega)]; simp)]; rfl, below_drewN B3 _⟩
              · have hi : decide (0 < (k : Int)) = false := by simp; omega
                go_wp2_with fail
                go_quiet (fail)
                go_wp2
                go_roundw
                case rel => exact ⟨k + 1, by omega, by go_num, by rw [oklUp_succ, HOK.out, HKL.out, HN.out, HE.out, HV.out, decide_eq_true (show k = 0 by omega)]; simp, below_drewN B3 _⟩
                case measure => simp [intOf]; omega
            · have HV := Lib.hid (show valueB vv = false by simpa using hV)
              rw [HV.out]
              clear hV
              go_wp2
              go_ret
              exact ⟨by rw [validL_bad hlt (by rw [HKL.out, HV.out]; simp)]; rfl, B3⟩
          · have HE := Lib.hid (show vv.toList.isEmpty = true by simpa using hE)
            have hE' := HE.out
            clear hE
            go_wp2
            go_ret
            exact ⟨by rw [validL_bad hlt (by rw [HKL.out, HE.out]; simp)]; rfl, B2⟩
        · have HN := Lib.hid (show nameB nm = false by simpa using hN)
          clear hN
          go_wp2_with fail
          refine (lName_any nm _).mono ?_
          rintro e w2 ⟨rfl, hb2⟩
          have B2 : Below w.heap.size w w2 := (hB.alloc hB.size _).trans (hb2.mono (by have := hB.size; simp; omega))
          rw [HN.out]
          go_wp2
          go_ret
          exact ⟨by rw [validL_bad hlt (by rw [HKL.out, HN.out]; simp)]; rfl, B2⟩
      · obtain rfl : k = n := by omega
        go_wp2
        go_ret
        exact ⟨by unfold validL; rw [HOK.out, decide_eq_true (show k ≤ 8 by omega)]; rfl, hB⟩
end Go.Proofs.Ytfjihbmehhccoaa
