/- What labels.Name and labels.Value answer, for every string; in terms of the string's bytes. -/
import Derived.Test.YtfjihbmehhccoaaProg
import Derived.WalkKit
import Derived.PlainAid
import Derived.Lib.Hide
import Derived.WalkSpells
import Derived.WalkLawsBesides
import Derived.Laws.RangeAny
namespace Go.Proofs.Ytfjihbmehhccoaa
open Go.RowKit

/-- A byte that may stand at place k of a name. -/
def okc (k : Nat) (c : Int) : Bool := (decide (97 ≤ c) && decide (c ≤ 122)) || (decide (k ≠ 0) && (c == 95 || (decide (48 ≤ c) && decide (c ≤ 57))))
/-- The bytes up to place k may stand in a name. -/
def okUp (f : Nat → Int) (n : Nat) : Bool := (List.range n).all fun k => okc k (f k)
theorem okUp_succ (f : Nat → Int) (n : Nat) : okUp f (n + 1) = (okUp f n && okc n (f n)) := by simp [okUp, List.range_succ]
theorem okUp_iff (f : Nat → Int) (n : Nat) : okUp f n = true ↔ ∀ k, k < n → okc k (f k) = true := by simp [okUp]
def nameB (s : ByteArray) : Bool := decide (1 ≤ s.size) && decide (s.size ≤ 16) && okUp (PlainAid.bt s) s.size
theorem nameB_bad {s : ByteArray} {k : Nat} (hk : k < s.size) (h : okc k (PlainAid.bt s k) = false) : nameB s = false := by
  have : okUp (PlainAid.bt s) s.size = false := by
    rw [← Bool.not_eq_true, okUp_iff]
    intro h2
    rw [h2 k hk] at h
    cases h
  simp [nameB, this]

set_option maxRecDepth 100000 in
set_option maxHeartbeats 1000000 in
theorem lName_any (s : ByteArray) (w : World) :
    Calls Try.prog 72 #[.string s] w fun e w' => e = .returned (.bool (nameB s)) ∧ Below w.heap.size w w' := by
  by_cases h1 : s.size < 1
  · have : nameB s = false := by unfold nameB; rw [decide_eq_false (by omega)]; rfl
    rw [this]
    clear this
    go_enter Try.func72, Try.ntmps72
    go_wp2
    go_ret
    exact ⟨rfl, Below.refl _ _⟩
  · by_cases h2 : 16 < s.size
    · have : nameB s = false := by unfold nameB; rw [decide_eq_false (show ¬ s.size ≤ 16 by omega), Bool.and_false]; rfl
      rw [this]
      clear this
      go_enter Try.func72, Try.ntmps72
      go_wp2
      go_ret
      exact ⟨rfl, Below.refl _ _⟩
    · have d1 : decide ((s.size : Int) < 1) = false := by simp; omega
      have d2 : decide (16 < (s.size : Int)) = false := by simp; omega
      go_enter Try.func72, Try.ntmps72
      go_wp2
      go_loopw [3] (fun _ wr => ∃ k : Nat, k ≤ s.size ∧ okUp (PlainAid.bt s) k = true ∧ wr = w.iter s k) (fun _ wr => s.size - wr.iterPos w.heap.size)
      case atStart => exact ⟨0, Nat.zero_le _, rfl, rfl⟩
      case round =>
        obtain ⟨k, hk, hok, rfl⟩ := hrel
        have HOK := Lib.hid hok
        clear hok
        have hbel : ∀ p, Below w.heap.size w (w.iter s p) := fun p => (Below.refl _ w).alloc (Nat.le_refl _) _
        have HB := Lib.hid hbel
        clear hbel
        by_cases hp : k < s.size
        · by_cases ha : (s[k]'hp).toNat < 128
          · obtain ⟨c, hc⟩ : ∃ c : Int, c = PlainAid.bt s k := ⟨_, rfl⟩
            have hcb : 0 ≤ c ∧ c ≤ 127 := by rw [hc, ← PlainAid.get_bt s k hp]; omega
            have hnx : ∀ ty, (Instr.next (.pointer (some ⟨w.heap.size, 0, none⟩)) true ty).run Try.prog (w.iter s k) = .ok (.tuple #[.bool true, .int .i64 k, .int .i32 c]) (w.iter s (k + 1)) := fun ty => by
              rw [run_next_ascii w s k ty hp ha, hc, ← PlainAid.get_bt s k hp]
            have HC := Lib.hid hc
            clear hc ha
            by_cases hkc : okc k c = true
            · have HK := Lib.hid hkc
              have hkc' : (97 ≤ c ∧ c ≤ 122) ∨ (k ≠ 0 ∧ (c = 95 ∨ (48 ≤ c ∧ c ≤ 57))) := by simpa [okc] using hkc
              clear hkc
              rcases hkc' with ⟨g1, g2⟩ | ⟨g0, g1⟩
              · go_wp2
                go_roundw
                case rel => exact ⟨k + 1, by omega, by rw [okUp_succ, HOK.out, ← HC.out, HK.out]; rfl, rfl⟩
                case measure => simp; omega
              · have e0 : ((k : Int) == 0) = false := by simp; omega
                rcases g1 with g1 | ⟨g1, g2⟩
                · have e1 : (c != 95) = false := by simp [g1]
                  have e2 : decide (97 ≤ c) = false := by simp; omega
                  clear g1
                  go_wp2
                  go_roundw
                  case rel => exact ⟨k + 1, by omega, by rw [okUp_succ, HOK.out, ← HC.out, HK.out]; rfl, rfl⟩
                  case measure => simp; omega
                · have e1 : (c != 95) = true := by simp; omega
                  have e2 : decide (97 ≤ c) = false := by simp; omega
                  go_wp2
                  go_roundw
                  case rel => exact ⟨k + 1, by omega, by rw [okUp_succ, HOK.out, ← HC.out, HK.out]; rfl, rfl⟩
                  case measure => simp; omega
            · have hbad : nameB s = false := nameB_bad hp (by rw [← HC.out]; simpa using hkc)
              have HBAD := Lib.hid hbad
              have hkc' : ¬ ((97 ≤ c ∧ c ≤ 122) ∨ (k ≠ 0 ∧ (c = 95 ∨ (48 ≤ c ∧ c ≤ 57)))) := by simpa [okc] using hkc
              clear hkc hbad
              by_cases g0 : k = 0
              · subst g0
                by_cases g1 : 97 ≤ c
                · have e5 : decide (c ≤ 122) = false := by simp; omega
                  go_wp2
                  go_ret
                  exact ⟨by rw [HBAD.out]; rfl, HB.out _⟩
                · have e2 : decide (97 ≤ c) = false := by simp; omega
                  go_wp2
                  go_ret
                  exact ⟨by rw [HBAD.out]; rfl, HB.out _⟩
              · have e0 : ((k : Int) == 0) = false := by simp; omega
                have e1 : (c != 95) = true := by simp; omega
                by_cases g1 : 97 ≤ c
                · have e5 : decide (c ≤ 122) = false := by simp; omega
                  go_wp2
                  go_ret
                  exact ⟨by rw [HBAD.out]; rfl, HB.out _⟩
                · have e2 : decide (97 ≤ c) = false := by simp; omega
                  by_cases g2 : c < 48
                  · go_wp2
                    go_ret
                    exact ⟨by rw [HBAD.out]; rfl, HB.out _⟩
                  · have e3 : decide (c < 48) = false := by simp; omega
                    go_wp2
                    go_ret
                    exact ⟨by rw [HBAD.out]; rfl, HB.out _⟩
          · obtain ⟨h5, h6⟩ := decode_high s k hp (by omega)
            have hbad : nameB s = false := nameB_bad hp (by
              rw [← PlainAid.get_bt s k hp]
              unfold okc
              rw [decide_eq_false (show ¬ (((s[k]'hp).toNat : Int) ≤ 122) by omega), decide_eq_false (show ¬ (((s[k]'hp).toNat : Int) ≤ 57) by omega), Bool.and_false, Bool.and_false, Bool.or_false, Bool.false_or]
              rw [show (((s[k]'hp).toNat : Int) == 95) = false by simp; omega, Bool.and_false])
            have HBAD := Lib.hid hbad
            have hnx : ∀ ty, (Instr.next (.pointer (some ⟨w.heap.size, 0, none⟩)) true ty).run Try.prog (w.iter s k) = _ := fun ty => run_next_any w s k ty hp
            obtain ⟨r, hr⟩ : ∃ r : Nat, r = (Utf8.decode s k).1 := ⟨_, rfl⟩
            obtain ⟨d, hd⟩ : ∃ d : Nat, d = (Utf8.decode s k).2 := ⟨_, rfl⟩
            rw [← hr] at h5 hnx
            rw [← hd] at hnx
            clear hbad hr hd h6 ha
            have e1 : ((r : Int) != 95) = true := by simp; omega
            have e3 : decide ((r : Int) < 48) = false := by simp; omega
            have e4 : decide (57 < (r : Int)) = true := by simp; omega
            have e5 : decide ((r : Int) ≤ 122) = false := by simp; omega
            by_cases g0 : k = 0
            · subst g0
              go_wp2
              go_ret
              exact ⟨by rw [HBAD.out]; rfl, HB.out _⟩
            · have e0 : ((k : Int) == 0) = false := by simp; omega
              go_wp2
              go_ret
              exact ⟨by rw [HBAD.out]; rfl, HB.out _⟩
        · obtain rfl : k = s.size := by omega
          have hnx : ∀ ty, (Instr.next (.pointer (some ⟨w.heap.size, 0, none⟩)) true ty).run Try.prog (w.iter s s.size) = _ := fun ty => run_next_end w s s.size ty hp
          go_wp2
          go_ret
          refine ⟨?_, HB.out _⟩
          unfold nameB
          rw [HOK.out, decide_eq_true (show 1 ≤ s.size by omega), decide_eq_true (show s.size ≤ 16 by omega)]
          rfl

/-- A byte that may stand in a label's value. -/
def okv (c : Int) : Bool := decide (33 ≤ c) && decide (c ≤ 126) && !(c == 34 || c == 92 || c == 44 || c == 123 || c == 125)
def okvUp (f : Nat → Int) (n : Nat) : Bool := (List.range n).all fun k => okv (f k)
theorem okvUp_succ (f : Nat → Int) (n : Nat) : okvUp f (n + 1) = (okvUp f n && okv (f n)) := by simp [okvUp, List.range_succ]
theorem okvUp_iff (f : Nat → Int) (n : Nat) : okvUp f n = true ↔ ∀ k, k < n → okv (f k) = true := by simp [okvUp]
def valueB (s : ByteArray) : Bool := decide (s.size ≤ 16) && okvUp (PlainAid.bt s) s.size
theorem valueB_bad {s : ByteArray} {k : Nat} (hk : k < s.size) (h : okv (PlainAid.bt s k) = false) : valueB s = false := by
  have : okvUp (PlainAid.bt s) s.size = false := by
    rw [← Bool.not_eq_true, okvUp_iff]
    intro h2
    rw [h2 k hk] at h
    cases h
  simp [valueB, this]

set_option maxRecDepth 100000 in
set_option maxHeartbeats 1000000 in
theorem lValue_any (s : ByteArray) (w : World) :
    Calls Try.prog 89 #[.string s] w fun e w' => e = .returned (.bool (valueB s)) ∧ Below w.heap.size w w' := by
  by_cases h2 : 16 < s.size
  · have : valueB s = false := by unfold valueB; rw [decide_eq_false (show ¬ s.size ≤ 16 by omega)]; rfl
    rw [this]
    clear this
    go_enter Try.func89, Try.ntmps89
    go_wp2
    go_ret
    exact ⟨rfl, Below.refl _ _⟩
  · have d2 : decide (16 < (s.size : Int)) = false := by simp; omega
    go_enter Try.func89, Try.ntmps89
    go_wp2
    go_loopw [4] (fun _ wr => ∃ k : Nat, k ≤ s.size ∧ okvUp (PlainAid.bt s) k = true ∧ wr = w.iter s k) (fun _ wr => s.size - wr.iterPos w.heap.size)
    case atStart => exact ⟨0, Nat.zero_le _, rfl, rfl⟩
    case round =>
      obtain ⟨k, hk, hok, rfl⟩ := hrel
      have HOK := Lib.hid hok
      clear hok
      have hbel : ∀ p, Below w.heap.size w (w.iter s p) := fun p => (Below.refl _ w).alloc (Nat.le_refl _) _
      have HB := Lib.hid hbel
      clear hbel
      by_cases hp : k < s.size
      · by_cases ha : (s[k]'hp).toNat < 128
        · obtain ⟨c, hc⟩ : ∃ c : Int, c = PlainAid.bt s k := ⟨_, rfl⟩
          have hcb : 0 ≤ c ∧ c ≤ 127 := by rw [hc, ← PlainAid.get_bt s k hp]; omega
          have hnx : ∀ ty, (Instr.next (.pointer (some ⟨w.heap.size, 0, none⟩)) true ty).run Try.prog (w.iter s k) = .ok (.tuple #[.bool true, .int .i64 k, .int .i32 c]) (w.iter s (k + 1)) := fun ty => by
            rw [run_next_ascii w s k ty hp ha, hc, ← PlainAid.get_bt s k hp]
          have HC := Lib.hid hc
          clear hc ha
          by_cases hkc : okv c = true
          · have HK := Lib.hid hkc
            have hkc' : (33 ≤ c ∧ c ≤ 126) ∧ c ≠ 34 ∧ c ≠ 92 ∧ c ≠ 44 ∧ c ≠ 123 ∧ c ≠ 125 := by simp [okv] at hkc; omega
            obtain ⟨⟨g1, g2⟩, g3, g4, g5, g6, g7⟩ := hkc'
            have e3 : (c == 34) = false := by simp; omega
            have e4 : (c == 92) = false := by simp; omega
            have e5 : (c == 44) = false := by simp; omega
            have e6 : (c == 123) = false := by simp; omega
            have e7 : (c == 125) = false := by simp; omega
            clear hkc g3 g4 g5 g6 g7
            go_wp2
            go_roundw
            case rel => exact ⟨k + 1, by omega, by rw [okvUp_succ, HOK.out, ← HC.out, HK.out]; rfl, rfl⟩
            case measure => simp; omega
          · have hbad : valueB s = false := valueB_bad hp (by rw [← HC.out]; simpa using hkc)
            have HBAD := Lib.hid hbad
            have hkc' : c < 33 ∨ 126 < c ∨ c = 34 ∨ c = 92 ∨ c = 44 ∨ c = 123 ∨ c = 125 := by simp [okv] at hkc; omega
            clear hkc hbad
            rcases hkc' with g | g | g | g | g | g | g
            · go_wp2
              go_ret
              exact ⟨by rw [HBAD.out]; rfl, HB.out _⟩
            · have e5 : decide (c < 33) = false := by simp; omega
              go_wp2
              go_ret
              exact ⟨by rw [HBAD.out]; rfl, HB.out _⟩
            all_goals
              have G := Lib.hid g
              clear g
              obtain rfl := G.out
              clear G
              go_wp2
              go_ret
              exact ⟨by rw [HBAD.out]; rfl, HB.out _⟩
        · obtain ⟨h5, h6⟩ := decode_high s k hp (by omega)
          have hbad : valueB s = false := valueB_bad hp (by
            rw [← PlainAid.get_bt s k hp]
            unfold okv
            rw [decide_eq_false (show ¬ (((s[k]'hp).toNat : Int) ≤ 126) by omega), Bool.and_false, Bool.false_and])
          have HBAD := Lib.hid hbad
          have hnx : ∀ ty, (Instr.next (.pointer (some ⟨w.heap.size, 0, none⟩)) true ty).run Try.prog (w.iter s k) = _ := fun ty => run_next_any w s k ty hp
          obtain ⟨r, hr⟩ : ∃ r : Nat, r = (Utf8.decode s k).1 := ⟨_, rfl⟩
          obtain ⟨d, hd⟩ : ∃ d : Nat, d = (Utf8.decode s k).2 := ⟨_, rfl⟩
          rw [← hr] at h5 hnx
          rw [← hd] at hnx
          clear hbad hr hd h6 ha
          have e3 : decide ((r : Int) < 33) = false := by simp; omega
          have e4 : decide (126 < (r : Int)) = true := by simp; omega
          go_wp2
          go_ret
          exact ⟨by rw [HBAD.out]; rfl, HB.out _⟩
      · obtain rfl : k = s.size := by omega
        have hnx : ∀ ty, (Instr.next (.pointer (some ⟨w.heap.size, 0, none⟩)) true ty).run Try.prog (w.iter s s.size) = _ := fun ty => run_next_end w s s.size ty hp
        go_wp2
        go_ret
        refine ⟨?_, HB.out _⟩
        unfold valueB
        rw [HOK.out, decide_eq_true (show s.size ≤ 16 by omega)]
        rfl
end Go.Proofs.Ytfjihbmehhccoaa
