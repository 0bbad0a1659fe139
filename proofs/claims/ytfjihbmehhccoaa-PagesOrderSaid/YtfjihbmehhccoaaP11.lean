/- AE contracts: slices.Grow of nil, slices.Concat of lists of numbers, slices.Compact: the proofs. -/
import Derived.Test.YtfjihbmehhccoaaP10
namespace Go.AE
set_option linter.unusedVariables false
set_option linter.unusedSimpArgs false
open Go.Proofs Go.Proofs.Ytfjihbmehhccoaa Go.RowKit
theorem PLe.of_isL {α : Type} [Inhabited α] {enc : α → Nat → PV} {sz : Nat} {L : List α} {n : Nat} {f : Nat → Nat → PV} (h : IsL enc sz L n f) : PLe (.l sz n f) (listP enc sz L) := by
  obtain ⟨rfl, h2⟩ := h
  exact PLe.l fun e o he ho => PLe.of_eq (h2 e o he ho)
def iOf : PV → Option (Prop × List Int)
  | .l 1 n f => some (IsL encI 1 (decL decI n f) n f, decL decI n f)
  | .z (.slice none 0 0) => some (True, [])
  | _ => none
theorem iOf_le {x : PV} {p : Prop} {A : List Int} (h : iOf x = some (p, A)) (hp : p) : PLe x (listP encI 1 A) := by
  unfold iOf at h
  split at h
  · injection h with h
    injection h with h1 h2
    subst h2; subst h1
    exact PLe.of_isL hp
  · injection h with h
    injection h with h1 h2
    subst h2; subst h1
    exact PLe.nil 1 _
  · cases h
def mConcat : ModH
  | [.c (.p (.l 1 2 F))], h => match iOf (F 0 0), iOf (F 1 0) with
    | some (p, A), some (q, B) => some ((p ∧ q) ∧ A.length + B.length ≤ 1000000, .c (.sl (lenL h) 1 0 (A ++ B).length), snoc (.row 3 1 (A ++ B).length fun e o => .p (rowP encI (A ++ B) e o)) h)
    | _, _ => none
  | _, _ => none
def compI (L : List Int) : List Int := Go.Lib.compact L
theorem compI_length (L : List Int) : (compI L).length ≤ L.length := Go.Lib.compact_length_le L
def mCompI (L : List Int) : ModH
  | [.c (.sl id 1 0 n)], h => match nth .gone h id with
    | .row 3 1 n' f => some (n = L.length ∧ n' = L.length ∧ rowI L f ∧ L.length ≤ 1000000, .c (.sl id 1 0 (compI L).length), upd (.row 3 1 (compI L).length (rowC encI (compI L))) h id)
    | _ => none
  | _, _ => none
section
variable {G : Nat → Option Obj}
set_option maxRecDepth 100000 in
theorem okGrow : ModHOK Try.prog G 77 mGrow := by
  intro args h p v h' hm hp
  unfold mGrow at hm
  split at hm; rotate_left; · cases hm
  rename_i _ _ n0
  obtain ⟨rfl, rfl, rfl⟩ := some_three hm
  obtain ⟨hn0, hn1⟩ := hp
  obtain ⟨n, rfl⟩ : ∃ n : Nat, n0 = n := ⟨n0.toNat, by omega⟩
  refine fn_rowS (args := [.c (.p (.z (.slice none 0 0))), iV n]) (r := 4) (ty := 3) (sz := 1) (n := 0) (F := rowP encI []) (pre := takeL 7 (pcs Try.prog Try.f77)) Try.func77 (by kernel_rfl) (by kernel_rfl) (by kernel_rfl) rfl ?_ h
  have fin : ExS Try.prog G [] vF (dropL 6 (takeL 7 (pcs Try.prog Try.f77))) (cst 27 [(0, .c (.sl 0 1 0 0))] [.row 3 1 0 (rowC encI [])]) (fun e st => e = .normal ∧ RowEnd 4 3 1 0 (rowP encI []) .ret st) := by
    refine ExS.evH ext0_sound (keep := msk 27 [4]) (tree := .done .normal (cst 27 [(4, .c (.sl 0 1 0 0))] [.row 3 1 0 fun e o => renC [0] (rowC encI [] e o)])) (by kernel_rfl) ?_
    exact ⟨rfl, fun j => by simp, 0, _, rfl, rfl, fun e o he ho => absurd he (Nat.not_lt_zero _)⟩
  refine ExS.evG ext0_sound 6 (tG1 n) ?_
  simp only [holds_bT, holds_rq, holds_leaf, kf_normal, decide_eq_true_eq, decide_eq_false_iff_not, inR]
  refine ⟨by omega, by omega, fun h1 => ⟨⟨rfl, trivial⟩, by omega, by omega, ⟨?_⟩⟩, fun h1 => ⟨?_⟩⟩
  · refine ExS.pre ((weak_short (id := 0) (ty := 3) (sz := 1) (n := ((n : Int) - (0 - 0)).toNat) (f := fun e o => renC [0] (C.p (nth (PV.b false) [PV.i IntKind.i64 0] o))) 0 (by kernel_rfl) (Nat.zero_le _)).trans ((weak_of_eq (by kernel_rfl)).trans (weak_cst (h := [.row 3 1 0 fun e o => renC [0] (C.p (nth (PV.b false) [PV.i IntKind.i64 0] o))]) (h' := [.row 3 1 0 (rowC encI [])]) ⟨⟨rfl, rfl, rfl, fun e o he ho => absurd he (Nat.not_lt_zero _)⟩, trivial⟩))) fin
  · exact ExS.pre ((weak_nil 3 1 (rowC encI []) 0 (by kernel_rfl)).trans (weak_of_eq (by kernel_rfl))) fin
theorem extGr_sound : SoundExt Try.prog G extGr := extH_sound (by simp; exact okGrow)
theorem lens_le : ∀ (LL : List (List Int)) (i : Nat), (LL.take i).flatten.length ≤ LL.flatten.length
  | [], i => by simp
  | x :: r, 0 => by simp
  | x :: r, i + 1 => by
    have := lens_le r i
    simp only [List.take_succ_cons, List.flatten_cons, List.length_append]
    omega
theorem flat_snoc {LL : List (List Int)} {i : Nat} (hi : i < LL.length) : (LL.take (i + 1)).flatten = (LL.take i).flatten ++ LL.getD i default := by
  rw [List.take_succ_eq_append_getElem hi, List.flatten_append, List.getD_eq_getElem?_getD, List.getElem?_eq_getElem hi]
  simp
set_option maxRecDepth 100000 in
theorem concat_fn (LL : List (List Int)) (hL : LL.flatten.length ≤ 1000000) (hn : LL.length ≤ 1000000) (h : List AO) : FnS Try.prog G 46 [listV encII 1 LL] h fun x h' => x = .c (.sl (lenL h) 1 0 LL.flatten.length) ∧ h' = snoc (.row 3 1 LL.flatten.length fun e o => .p (rowP encI LL.flatten e o)) h := by
  refine fn_rowS (args := [listV encII 1 LL]) (r := 2) (ty := 3) (sz := 1) (n := LL.flatten.length) (F := rowP encI LL.flatten) (pre := takeL 8 (pcs Try.prog Try.f46)) Try.func46 (by kernel_rfl) (by kernel_rfl) (by kernel_rfl) rfl ?_ h
  refine ExS.evG ext0_sound 3 (tC1 LL) ?_
  simp only [holds_bT, holds_rq, holds_leaf, kf_normal]
  refine ⟨?_⟩
  refine ExS.loop' (l := dropL 3 (takeL 8 (pcs Try.prog Try.f46))) (b := inr (inr (nth .skip (pcs Try.prog Try.f46) 3))) (r := dropL 4 (takeL 8 (pcs Try.prog Try.f46))) (id := 0) (by kernel_rfl) (σ := Nat)
    (fun i => (fun s => cst 36 [(0, listV encII 1 LL), (3, iV s), (9, listV encII 1 LL), (10, iV (LL.length : Nat)), (11, iV (i : Nat))] []) ((LL.take i).flatten.length : Nat)) (fun i => i ≤ LL.length) (fun i => LL.length - i) 0 (Nat.zero_le _) (weak_of_eq (by kernel_rfl)) ?_
  · intro i hi Q1 q1n q1e _
    refine ExS.evH ext0_sound (tC2 LL (LL.take i).flatten.length i) ?_
    have h1 := lens_le LL (i + 1)
    simp only [holds_bT, holds_rq, holds_leaf, kf_normal, kf_exit, decide_eq_true_eq, decide_eq_false_iff_not, inR, show (↑i : Int).toNat = i from rfl]
    refine ⟨fun hlt => ?_, fun hge => ⟨q1e _ ?_⟩⟩
    · have hlt : i < LL.length := by omega
      have h2 := flat_snoc hlt
      have h3 : (LL.take (i + 1)).flatten.length = (LL.take i).flatten.length + (LL.getD i default).length := by rw [h2, List.length_append]
      refine ⟨by omega, by omega, by omega, ⟨q1n (i + 1) _ (by omega) (by omega) ?_⟩⟩
      rw [h3]
      exact weak_of_eq (by kernel_rfl)
    · obtain rfl : i = LL.length := by omega
      rw [List.take_length]
      refine ExS.pre (weak_gc (msk 36 [0, 3]) _) (ExS.pre (weak_of_eq (by kernel_rfl)) (ExS.evG extGr_sound 2 (tC3 LL LL.flatten.length) ?_))
      simp only [holds_bT, holds_rq, holds_leaf, kf_normal]
      refine ⟨by omega, ⟨?_⟩⟩
      refine ExS.loop' (l := dropL 6 (takeL 8 (pcs Try.prog Try.f46))) (b := inr (inr (nth .skip (pcs Try.prog Try.f46) 6))) (r := dropL 7 (takeL 8 (pcs Try.prog Try.f46))) (id := 2) (by kernel_rfl) (σ := Nat)
        (fun i => (fun out k => cst 36 [(6, .c (.sl 0 1 0 k)), (25, listV encII 1 LL), (26, iV (LL.length : Nat)), (27, iV (i : Nat))] [.row 3 1 k (rowC encI out)]) (LL.take i).flatten (LL.take i).flatten.length) (fun i => i ≤ LL.length) (fun i => LL.length - i) 0 (Nat.zero_le _) ((weak_of_eq (by kernel_rfl)).trans (weak_cst (h := [.row 3 1 0 (fun e o => renC [0] (rowC encI [] e o))]) ⟨⟨rfl, rfl, rfl, fun _ _ _ _ => rfl⟩, trivial⟩)) ?_
      intro i hi Q2 q2n q2e _
      refine ExS.evH ext0_sound (tC4 LL (LL.take i).flatten (LL.take i).flatten.length i) ?_
      have h1 := lens_le LL (i + 1)
      simp only [holds_bT, holds_rq, holds_leaf, kf_normal, kf_exit, decide_eq_true_eq, decide_eq_false_iff_not, inR, show (↑i : Int).toNat = i from rfl]
      refine ⟨fun hlt => ?_, fun hge => ⟨q2e _ ?_⟩⟩
      · have hlt : i < LL.length := by omega
        have h2 := flat_snoc hlt
        have h3 : (LL.take (i + 1)).flatten.length = (LL.take i).flatten.length + (LL.getD i default).length := by rw [h2, List.length_append]
        refine ⟨by omega, trivial, ⟨by omega, by omega, fun _ _ _ _ => rfl⟩, by omega, ⟨q2n (i + 1) _ (by omega) (by omega) ?_⟩⟩
        rw [h3, h2]
        refine weak_cst ⟨⟨rfl, rfl, rfl, fun e o he ho => ?_⟩, trivial⟩
        exact congrArg (renC [1]) (appL (enc := encI) (L := (LL.take i).flatten) (M := LL.getD i default) rfl)
      · obtain rfl : i = LL.length := by omega
        rw [List.take_length]
        refine ExS.evH ext0_sound (keep := msk 36 [2]) (tree := .done .normal (cst 36 [(2, .c (.sl 0 1 0 LL.flatten.length))] [.row 3 1 LL.flatten.length fun e o => renC [0] (renC [0] (rowC encI LL.flatten e o))])) (by kernel_rfl) ?_
        exact ⟨rfl, fun j => by simp, 0, _, rfl, rfl, fun e o he ho => rfl⟩
theorem okConcat : ModHOK Try.prog G 46 mConcat := by
  intro args h p v h' hm hp
  unfold mConcat at hm
  split at hm; rotate_left; · cases hm
  split at hm; rotate_left; · cases hm
  rename_i F _ _ _ q1 A q2 B ha hb
  obtain ⟨rfl, rfl, rfl⟩ := some_three hm
  obtain ⟨⟨hp1, hp2⟩, hL⟩ := hp
  refine FnS.args (args' := [listV encII 1 [A, B]]) ?_ (.cons (VLe.p (PLe.l fun e o he ho => ?_)) .nil)
  · have := concat_fn (G := G) [A, B] (by simp; omega) (by simp) h
    simpa using this
  · obtain rfl : o = 0 := by omega
    have he : e = 0 ∨ e = 1 := by omega
    rcases he with rfl | rfl
    · exact iOf_le ha hp1
    · exact iOf_le hb hp2
theorem okCompI (L : List Int) : ModHOK Try.prog G 47 (mCompI L) := by
  intro args h p v h' hm hp
  unfold mCompI at hm
  split at hm; rotate_left; · cases hm
  split at hm; rotate_left; · cases hm
  rename_i id n h n' f hid
  obtain ⟨rfl, rfl, rfl⟩ := some_three hm
  obtain ⟨rfl, rfl, hf, hL⟩ := hp
  refine compact_fn hid hf (compI_length L) (fun w blk cap hH hb hc => ?_) (fun w p cap _ => ?_)
  · exact Try.slices_Compact_int blk 0 cap L w hH (by omega) hc
  · exact Try.slices_Compact_int_empty p cap w
end
end Go.AE
