/- AE contracts: law31.lives. -/
import Derived.Test.YtfjihbmehhccoaaP19
import Derived.Test.YtfjihbmehhccoaaP20
namespace Go.AE
set_option linter.unusedVariables false
set_option linter.unusedSimpArgs false
open Go.Proofs Go.Proofs.Ytfjihbmehhccoaa Go.RowKit
theorem hot_name : nameB ⟨#[104, 111, 116]⟩ = true := by decide
theorem hot_set : validLb [] = true := by decide
theorem hot_ok {kd st se : Int} (h1 : tickZ st = true) (h2 : tickZ se = true) : pgOK ⟨kd, ⟨#[104, 111, 116]⟩, 1, [], st, se, ⟨#[]⟩⟩ = true := by
  unfold pgOK
  rw [hot_name, hot_set, h1, h2]
  rfl
theorem hot_sz : (⟨#[104, 111, 116]⟩ : ByteArray).size ≤ 1000000 := by decide
theorem hot_tx : (textLb []).size ≤ 1000000 := by decide
theorem tick_of {t : Int} (h1 : 0 ≤ t) (h2 : t ≤ 1048576) : tickZ t = true := by unfold tickZ; simp [h1, h2]
theorem hot_fits {D : Ld} {S : List Int} {pd : Int → Option Bool} (hv : Vw ⟨#[104, 111, 116]⟩ 1 [] D S pd) (hS : S.length ≤ 1000) (hM : D.M.length ≤ 1000) (kd st se : Int) (to : ByteArray) (hs : inR .i64 st) : Fits D ⟨kd, ⟨#[104, 111, 116]⟩, 1, [], st, se, to⟩ := by
  have h1 : inR .i64 1 := by unfold inR; omega
  refine ⟨okMu_of _ _ _ _ hot_sz h1 hot_tx hs, okGr_of _ _ _ hot_sz h1 hot_tx, hot_tx, Nat.zero_le _, by omega, ?_⟩
  have := hv.st.1
  show (D.gs (gKey ⟨#[104, 111, 116]⟩ 1 (textLb []))).1 ≤ _
  omega
section
variable {G : Nat → Option Obj}
theorem extFr_sound (D : Ld) : SoundExt Try.prog G (extFr D) := extH_sound (by simp; exact ⟨okNew, okFireD D⟩)
theorem extAe_sound (D : Ld) (S T : List Int) (out : List Pg) (D' : Ld) : SoundExt Try.prog G (extAe D S T out D') := extH_sound (by simp; exact frzAH_ok (okAmendX D S T out D'))
theorem extVd_sound (D : Ld) (S U : List Int) : SoundExt Try.prog G (extVd D S U) := extH_sound (by simp; exact ⟨okValidX D S U, frzA_ok (okSameX U [3, 8])⟩)
theorem isL3 (a b c : Int) : IsL encI 1 [a, b, c] 3 fun e o => unP (nth C.top [C.p (.i .i64 a), C.p (.i .i64 b), C.p (.i .i64 c)] ((e + 0) * 1 + o)) := ⟨rfl, fun e o he ho => by
  obtain rfl : o = 0 := by omega
  have : e = 0 ∨ e = 1 ∨ e = 2 := by omega
  rcases this with rfl | rfl | rfl <;> rfl⟩
theorem isL2 (a b : Int) : IsL encI 1 [a, b] 2 fun e o => unP (nth C.top [C.p (.i .i64 a), C.p (.i .i64 b)] ((e + 0) * 1 + o)) := ⟨rfl, fun e o he ho => by
  obtain rfl : o = 0 := by omega
  have : e = 0 ∨ e = 1 := by omega
  rcases this with rfl | rfl <;> rfl⟩
set_option maxRecDepth 100000 in
theorem okLives31 : ModOK Try.prog G 19 mLives31 := by
  intro args p v hm hp h
  unfold mLives31 at hm
  split at hm; rotate_left; · cases hm
  obtain ⟨rfl, rfl⟩ := some_pair hm
  have i1 : inR .i64 1 := by unfold inR; omega
  have i5 : inR .i64 5 := by unfold inR; omega
  have o56 : pgOK ⟨0, ⟨#[104, 111, 116]⟩, 1, [], 5, 6, ⟨#[]⟩⟩ = true := hot_ok rfl rfl
  have v0 := vw_ld0 ⟨#[104, 111, 116]⟩ 1 []
  have e1 := lfire_new v0 5 6 ⟨#[]⟩ o56 rfl
  obtain ⟨S1, v1, l1, m1⟩ := v0.add 0 5 6 ⟨#[]⟩
  have n1 : (ladd ld0 ⟨0, ⟨#[104, 111, 116]⟩, 1, [], 5, 6, ⟨#[]⟩⟩).M.length = 1 := rfl
  have f0 := hot_fits v0 (by decide) (by decide) 0 5 6 ⟨#[]⟩ i5
  generalize ladd ld0 ⟨0, ⟨#[104, 111, 116]⟩, 1, [], 5, 6, ⟨#[]⟩⟩ = D1 at e1 v1 n1
  have hp1 : ∀ t, updP (fun _ => none) 5 ((0 : Int) != 1) t = if t = 5 then some true else none := fun t => rfl
  generalize updP (fun _ => none) 5 ((0 : Int) != 1) = pd1 at v1 hp1
  have e2 := lfire_some v1 5 6 ⟨#[]⟩ o56 true (by rw [hp1]; rfl)
  have f1 := hot_fits v1 (by simp at l1; omega) (by omega) 0 5 6 ⟨#[]⟩ i5
  obtain ⟨D2, S2, pd2, e3, v2, g2, q2, l2, m2, n2⟩ := lamend_vw v1 [8, 8, 3] 9 (hot_ok rfl rfl) (by decide)
  have d1 : ∀ t, t ∈ S1 ↔ t = 5 := fun t => by
    rw [v1.dom, hp1]
    by_cases e : t = 5 <;> simp [e]
  have eo : amOut ⟨#[104, 111, 116]⟩ 1 [] 9 pd1 S1 [8, 8, 3] = [⟨2, ⟨#[104, 111, 116]⟩, 1, [], 3, 9, ⟨#[]⟩⟩, ⟨1, ⟨#[104, 111, 116]⟩, 1, [], 5, 9, ⟨#[]⟩⟩, ⟨2, ⟨#[104, 111, 116]⟩, 1, [], 8, 9, ⟨#[]⟩⟩] := by
    have : compI (sortI (S1 ++ [8, 8, 3])) = [3, 5, 8] := eq_of_lt (all_lt _) (by decide) fun t => by
      rw [all_mem, List.mem_append, d1]
      simp
      omega
    unfold amOut
    rw [this]
    have k3 : flipB pd1 [8, 8, 3] 3 = true := by unfold flipB; rw [hp1]; rfl
    have k5 : flipB pd1 [8, 8, 3] 5 = true := by unfold flipB; rw [hp1]; rfl
    have k8 : flipB pd1 [8, 8, 3] 8 = true := by unfold flipB; rw [hp1]; rfl
    simp only [List.filter_cons, k3, k5, k8, List.filter_nil, if_true, List.map_cons, List.map_nil]
    rfl
  rw [eo] at e3
  obtain ⟨O, hO⟩ : ∃ O, O = ([⟨2, ⟨#[104, 111, 116]⟩, 1, [], 3, 9, ⟨#[]⟩⟩, ⟨1, ⟨#[104, 111, 116]⟩, 1, [], 5, 9, ⟨#[]⟩⟩, ⟨2, ⟨#[104, 111, 116]⟩, 1, [], 8, 9, ⟨#[]⟩⟩] : List Pg) := ⟨_, rfl⟩
  rw [← hO] at e3
  have p25 : pd2 5 = some false := by
    have h1 := q2 5 (by rw [hp1]; rfl)
    have h2 := g2 5
    revert h1 h2
    cases pd2 5 with
    | none => intro h1; cases h1
    | some x => intro _ h2; cases x with
      | true => exact absurd h2 (by decide)
      | false => rfl
  have e4 := lfire_some v2 5 6 ⟨#[]⟩ o56 false p25
  simp at l1
  have l2' : S2.length ≤ 8 := by simp at l2; omega
  have n2' : D2.M.length ≤ 5 := by simp at n2; omega
  have f2 := hot_fits v2 (by omega) (by omega) 0 5 6 ⟨#[]⟩ i5
  have e5 : lvalid D2 ⟨#[104, 111, 116]⟩ 1 [] S2 = listV encI 1 [3, 8] := lvalid_vw v2 (hot_ok rfl rfl) (by decide) fun t => by
    rw [g2]
    simp
    omega
  have r1 : ∀ t ∈ S1, inR .i64 t := fun t ht => by rw [(d1 t).1 ht]; exact i5
  have r2 : ∀ t ∈ S2, inR .i64 t := fun t ht => by
    rcases m2 t ht with h | h
    · exact r1 t h
    · simp at h
      unfold inR
      omega
  refine fn_S Try.func19 (by kernel_rfl) rfl ?_ h
  refine ExS.evG (extFr_sound ld0) 5 (tL1 ()) ?_
  simp only [holds_rq, holds_leaf, kf_normal]
  refine ⟨trivial, ⟨?_⟩⟩
  refine ExS.pre ((weak_proj [0, 2, 3, 4, 1] (msk 79 [1, 2]) (by kernel_rfl) _).trans (weak_of_eq (by kernel_rfl))) (ExS.evG (extFr_sound ld0) 1 (tL2 ld0) ?_)
  simp only [holds_rq, holds_leaf, kf_normal]
  refine ⟨⟨⟨trivial, trivial, trivial, fun _ _ _ _ => trivial, trivial, trivial, trivial, trivial⟩, fun _ _ => f0⟩, ⟨?_⟩⟩
  rw [e1]
  refine ExS.pre ((weak_proj [0, 2, 3, 4, 1] (msk 79 [1, 2, 3]) (by kernel_rfl) _).trans (weak_of_eq (by kernel_rfl))) (ExS.evG (extFr_sound D1) 1 (tL3 D1 0) ?_)
  simp only [holds_rq, holds_leaf, kf_normal]
  refine ⟨⟨⟨trivial, trivial, trivial, fun _ _ _ _ => trivial, trivial, trivial, trivial, trivial⟩, fun _ _ => f1⟩, ⟨?_⟩⟩
  rw [e2]
  refine ExS.pre ((weak_proj [0, 2, 3, 4, 1] (msk 79 [1, 2, 3, 4]) (by kernel_rfl) _).trans (weak_of_eq (by kernel_rfl))) (ExS.evG (extAe_sound D1 S1 [8, 8, 3] O D2) 1 (tL4 D1 D2 S1 [8, 8, 3] O 0 10) ?_)
  simp only [holds_rq, holds_leaf, kf_normal]
  refine ⟨⟨⟨⟨trivial, trivial, trivial, trivial, ⟨rfl, by decide⟩, trivial, trivial⟩, fun e o he ho => ?_⟩, ⟨⟨trivial, trivial, trivial, fun _ _ _ _ => trivial, trivial, trivial, trivial, trivial⟩, isL3 8 8 3⟩, v1.st, ⟨by decide, by decide, i1, by decide, r1, by simp; omega, by omega⟩, e3⟩, ⟨?_⟩⟩
  · obtain rfl : o = 0 := by omega
    have : e = 0 ∨ e = 1 ∨ e = 2 := by omega
    rcases this with rfl | rfl | rfl <;> rfl
  refine ExS.pre ((weak_proj [0, 2, 3, 4, 1] (msk 79 [1, 2, 3, 4, 5]) (by kernel_rfl) _).trans (weak_of_eq (by kernel_rfl))) (ExS.evG (extFr_sound D2) 1 (tL5 D2 O 0 10) ?_)
  simp only [holds_rq, holds_leaf, kf_normal]
  refine ⟨⟨⟨trivial, trivial, trivial, fun _ _ _ _ => trivial, trivial, trivial, trivial, trivial⟩, fun _ _ => f2⟩, ⟨?_⟩⟩
  rw [e4]
  refine ExS.pre (weak_of_eq (by kernel_rfl)) (ExS.evH (extVd_sound D2 S2 [3, 8]) (tL6 D2 S2 [3, 8] O 0 10 20) ?_)
  subst hO
  simp only [holds_bT, holds_rq, holds_leaf, kf_ret']
  refine ⟨fun _ => ⟨fun _ => ⟨fun _ => ⟨fun _ => ⟨by decide, fun _ => ⟨by decide, fun _ => ⟨by decide, fun _ => ⟨by decide, fun _ => ⟨by decide, fun _ => ⟨⟨⟨trivial, trivial, trivial, fun _ _ _ _ => trivial, trivial, trivial, trivial, trivial⟩, v2.st, ⟨by decide, by decide, i1, r2, by omega⟩, e5⟩, ⟨⟨⟨trivial, ⟨rfl, by decide⟩, trivial⟩, fun e o he ho => ?_⟩, ⟨isL_row _ _ _, isL2 3 8⟩, by decide⟩, ⟨VLe.of_eq rfl⟩⟩, fun h => absurd h (by decide)⟩, fun h => absurd h (by decide)⟩, fun h => absurd h (by decide)⟩, fun h => absurd h (by decide)⟩, fun h => absurd h (by decide)⟩, fun h => absurd h (by decide)⟩, fun h => absurd h (by decide)⟩, fun h => absurd h (by decide)⟩, fun h => absurd h (by decide)⟩
  obtain rfl : o = 0 := by omega
  have : e = 0 ∨ e = 1 := by omega
  rcases this with rfl | rfl <;> rfl
end
end Go.AE
