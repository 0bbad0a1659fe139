/- Plain: the values at the closed data of law29.lives. -/
import Derived.Test.YtkpladkcppeciaaRo
import Derived.Test.YtkpladkcppeciaaGr2
namespace Go.AE
set_option linter.unusedVariables false
set_option linter.unusedSimpArgs false
open Go.Proofs Go.Proofs.Ytkpladkcppeciaa
def lvE : List Ed := [(0, 1), (1, 2)]
def lvF : List Bool := [true, false, true]
def lvAnn : ByteArray := ⟨#[97, 110, 110]⟩
def lvBob : ByteArray := ⟨#[98, 111, 98]⟩
def lvR : List Sh := [(lvAnn, 0, 10), (lvBob, 4, 6)]
theorem lv_path {a b : Int} (h : Path lvE a b) : a < b := by
  refine Path.closed (S := fun b => a < b) ?_ ?_ h
  · intro b hb
    simp only [lvE, List.mem_cons, Prod.mk.injEq, List.not_mem_nil, or_false] at hb
    omega
  · intro b c h1 hb
    simp only [lvE, List.mem_cons, Prod.mk.injEq, List.not_mem_nil, or_false] at hb
    omega
theorem lv_valid : validZ 3 lvE = 0 := by
  have h1 : scanE 3 [] lvE = 0 := by decide
  unfold validZ
  rw [if_neg (by decide), if_neg (by rw [h1]; decide), if_neg]
  rintro ⟨k, _, hk⟩
  exact absurd (lv_path hk) (by omega)
theorem lv_inh : inhZ 3 lvE lvF = [false, false, true] := by
  unfold inhZ
  rw [if_pos ⟨lv_valid, rfl⟩]
  refine bools_ext (by rw [inh_length]; rfl) fun k hk => ?_
  rw [inh_length] at hk
  have hk : k < 3 := hk
  rw [inh_at (show k < lvF.length from hk)]
  have hk' : k = 0 ∨ k = 1 ∨ k = 2 := by omega
  rcases hk' with rfl | rfl | rfl
  · refine ⟨fun ⟨⟨s, _, h⟩, _⟩ => absurd (lv_path h) (by omega), fun h => by cases h⟩
  · refine ⟨fun ⟨_, h⟩ => (by cases h), fun h => by cases h⟩
  · refine ⟨fun _ => rfl, fun _ => ⟨⟨0, rfl, (Path.one (b := 1) (by decide)).snoc (by decide)⟩, rfl⟩⟩
theorem lv_rota : rotaZ 10 lvR = 0 := by
  refine (rotaZ_cases (P := 10) (L := lvR) (by decide) (by decide)).2.1 (by decide) ?_
  intro t h1 h2
  exact covB_iff.2 ⟨(lvAnn, 0, 10), by simp [lvR], h1, h2⟩
theorem lv_duty1 : dutyZ 10 lvR 15 2 = (lvBob, 0) := by
  unfold dutyZ
  rw [if_neg (by rw [lv_rota]; decide), if_neg (by decide), if_neg (by decide)]
  decide
theorem lv_duty2 : dutyZ 10 lvR 8 1 = (lvAnn, 0) := by
  unfold dutyZ
  rw [if_neg (by rw [lv_rota]; decide), if_neg (by decide), if_neg (by decide)]
  decide
end Go.AE
