/- The documented examples of package hash (lives). -/
import Derived.Test.YtjogcpjfkjepcaaHashR2
namespace Go.Proofs.Ytjogcpjfkjepcaa
open Go.RowKit

/-- A literal slice of integers. -/
theorem Rd.lit (w : World) (t : TypeId) (q : IntKind) (zs : List Int) (hm : zs.length ≤ maxLen) :
    Rd (w.alloc (.cells (zs.map (Value.int q)).toArray t)) (w.alloc (.cells (zs.map (Value.int q)).toArray t)).heap.size (some ⟨w.heap.size, 0, none⟩) zs.length fun k => .int q (zs[k]?.getD 0) := by
  have hrow := World.ownsRow_lit (base := w.heap.size) (e := t) (size := 1) w (zs.map (Value.int q)).toArray zs.length (Nat.le_refl _) hm (by simp)
  obtain ⟨A', c', hv, hc', hl', hR'⟩ := Rd.of_ints (zs := zs) (q := q) (by simpa using hrow)
  have : some ⟨w.heap.size, 0, none⟩ = A' := by injection hv
  subst this
  simpa using hR'
theorem sumI_one (lw : List Int) (n : Nat) (a b : List Int) (x y : Int) : sumI lw n (a ++ x :: b) = sumI lw n (a ++ y :: b) ↔ u64 x = u64 y := by
  unfold sumI
  have h0 : U64 0 := by constructor <;> decide
  have hb : ∀ z ∈ b.map u64, U64 z := fun z hz => by obtain ⟨k, _, rfl⟩ := List.mem_map.1 hz; exact u64_U64 k
  have el : ((a ++ x :: b).length : Int) = ((a ++ y :: b).length : Int) := by simp
  rw [el]
  obtain ⟨S, hS⟩ : ∃ S, S = mixI (mixI (mixL 0 lw) n) ((a ++ y :: b).length : Int) := ⟨_, rfl⟩
  rw [← hS]
  have uS : U64 S := by rw [hS]; exact mixI_u64 _ _
  rw [mixI_left (mixL_u64 uS _) (mixL_u64 uS _) h0]
  simp only [List.map_append, List.map_cons]
  rw [mixL_append, mixL_append]
  have e1 : ∀ z, mixL (mixL S (a.map u64)) (u64 z :: b.map u64) = mixL (mixI (mixL S (a.map u64)) (u64 z)) (b.map u64) := fun z => rfl
  rw [e1, e1, mixL_left _ hb (mixI_u64 _ _) (mixI_u64 _ _), mixI_right (mixL_u64 uS _) (u64_U64 _) (u64_U64 _)]
theorem u64_i64_inj {x y : Int} (hx : -9223372036854775808 ≤ x ∧ x ≤ 9223372036854775807) (hy : -9223372036854775808 ≤ y ∧ y ≤ 9223372036854775807) : u64 x = u64 y ↔ x = y := by
  unfold u64
  rw [IntKind.wrap_u64, IntKind.wrap_u64]
  omega
theorem wordsF_u64 {g : Nat → Int} (hg : Byt g) (n k : Nat) : ∀ z ∈ wordsF g n k, U64 z := by
  intro z hz
  simp only [wordsF, List.mem_map] at hz
  obtain ⟨j, _, rfl⟩ := hz
  exact wdF_u64 hg _ _ (by omega)

/-- Sum over the label s. -/
def sumS (s : ByteArray) (l : List Int) : Int := sumI (wordsF (PlainAid.bt s) s.size ((s.size + 7) / 8)) s.size l
theorem sumS_one (s : ByteArray) (a b : List Int) (x y : Int) : sumS s (a ++ x :: b) = sumS s (a ++ y :: b) ↔ u64 x = u64 y := sumI_one _ _ _ _ _ _
theorem sum_lit (s : ByteArray) (hs : s.size ≤ 140737488351232) (zs : List Int) (hz : zs.length ≤ 1000) (w : World) :
    Calls Try.prog 13 #[.string s, .slice (some ⟨w.heap.size, 0, none⟩) zs.length zs.length] (w.alloc (.cells (zs.map (Value.int .i64)).toArray 3)) fun e w' => e = .returned (.int .u64 (sumS s zs)) ∧ Below w.heap.size w w' := by
  refine (sum_any s hs _ zs.length zs.length (by omega) _ _ (Rd.lit w 3 .i64 zs (by unfold maxLen; omega))).mono ?_
  rintro e w1 ⟨rfl, hb1⟩
  rw [gl_getD]
  exact ⟨rfl, ((Below.refl _ _).alloc (Nat.le_refl _) _).trans (hb1.mono (by simp))⟩
theorem byt_list (zs : List Int) (h : ∀ z ∈ zs, 0 ≤ z ∧ z ≤ 255) : Byt fun k => zs[k]?.getD 0 := by
  intro k
  by_cases hk : k < zs.length
  · simp only [List.getElem?_eq_getElem hk, Option.getD_some]
    exact h _ (List.getElem_mem hk)
  · simp [List.getElem?_eq_none (Nat.le_of_not_lt hk)]
theorem bytes_lit (s : ByteArray) (hs : s.size ≤ 140737488351232) (zs : List Int) (h8 : ∀ z ∈ zs, 0 ≤ z ∧ z ≤ 255) (hz : zs.length ≤ 1000) (w : World) :
    Calls Try.prog 17 #[.string s, .slice (some ⟨w.heap.size, 0, none⟩) zs.length zs.length] (w.alloc (.cells (zs.map (Value.int .u8)).toArray 5)) fun e w' => e = .returned (.int .u64 (sumS s (bytesL (fun k => zs[k]?.getD 0) zs.length))) ∧ Below w.heap.size w w' := by
  refine (bytes_any s hs _ zs.length zs.length (by omega) _ (byt_list zs h8) _ (Rd.lit w 5 .u8 zs (by unfold maxLen; omega))).mono ?_
  rintro e w1 ⟨rfl, hb1⟩
  exact ⟨rfl, ((Below.refl _ _).alloc (Nat.le_refl _) _).trans (hb1.mono (by simp))⟩
theorem pair_lit (a b : Int) (w : World) :
    Calls Try.prog 19 #[.int .u64 a, .int .u64 b] w fun e W' => e = .returned (.int .u64 (sumS ⟨#[112, 97, 105, 114]⟩ [toI a, toI b])) ∧ Below w.heap.size w W' := pair_any a b w

set_option maxHeartbeats 2000000 in
theorem lives_any (w : World) : Calls Try.prog 15 #[] w fun e w' => e = .returned (.bool true) ∧ Below w.heap.size w w' := by
  have n1 : (sumS ⟨#[97]⟩ [5] != sumS ⟨#[97]⟩ [6]) = true := by
    rw [bne_iff_ne]
    exact fun h => absurd ((sumS_one _ [] [] 5 6).1 h) (by decide)
  have n2 : (sumS ⟨#[112, 97, 105, 114]⟩ [toI 1, toI 2] != sumS ⟨#[112, 97, 105, 114]⟩ [toI 1, toI 3]) = true := by
    rw [bne_iff_ne]
    exact fun h => absurd ((sumS_one _ [toI 1] [] (toI 2) (toI 3)).1 h) (by rw [u64_toI ⟨by decide, by decide⟩, u64_toI ⟨by decide, by decide⟩]; decide)
  have n3 : (sumS ⟨#[97]⟩ (bytesL (fun k => [1, 2][k]?.getD 0) 2) == sumS ⟨#[97]⟩ [513, 2]) = true := by
    rw [beq_iff_eq]
    exact congrArg _ (by simp [bytesL, wordsF, wdF, toI, wrap64])
  go_enter Try.func15, Try.ntmps15
  go_wp2_with fail
  refine (sum_lit _ (by decide) [5] (by decide) w).mono ?_
  rintro e w1 ⟨rfl, hb1⟩
  go_wp2_with fail
  refine (sum_lit _ (by decide) [6] (by decide) w1).mono ?_
  rintro e w2 ⟨rfl, hb2⟩
  go_wp2_with fail
  refine (bytes_lit _ (by decide) [1, 2] (by decide) (by decide) w2).mono ?_
  rintro e w3 ⟨rfl, hb3⟩
  go_wp2_with fail
  refine (sum_lit _ (by decide) [513, 2] (by decide) w3).mono ?_
  rintro e w4 ⟨rfl, hb4⟩
  go_wp2_with fail
  refine (pair_lit 1 2 w4).mono ?_
  rintro e w5 ⟨rfl, hb5⟩
  go_wp2_with fail
  refine (pair_lit 1 3 w5).mono ?_
  rintro e w6 ⟨rfl, hb6⟩
  go_wp2
  go_ret
  have b2 := hb1.trans (hb2.mono hb1.size)
  have b3 := b2.trans (hb3.mono b2.size)
  have b4 := b3.trans (hb4.mono b3.size)
  have b5 := b4.trans (hb5.mono b4.size)
  exact ⟨rfl, b5.trans (hb6.mono b5.size)⟩
end Go.Proofs.Ytjogcpjfkjepcaa
