/- Plain facts on the hash's numbers: words of bytes, the mixing step. -/
import Derived.WalkKit
import Derived.PlainAid
import Derived.OpenShut
import Derived.Laws.Bits64
import Derived.Laws.Bits64b
namespace Go.Proofs.Ytjogcpjfkjepcaa
open Go.RowKit

/-- The number of the m bytes from i on, little-endian. -/
def wdF (g : Nat → Int) (i : Nat) : Nat → Int
  | 0 => 0
  | m + 1 => wdF g i m + g (i + m) * 256 ^ m
/-- The words of n bytes. -/
def wordsF (g : Nat → Int) (n k : Nat) : List Int := (List.range k).map fun j => wdF g (8 * j) (min 8 (n - 8 * j))
theorem wordsF_succ (g : Nat → Int) (n k : Nat) : wordsF g n (k + 1) = wordsF g n k ++ [wdF g (8 * k) (min 8 (n - 8 * k))] := by simp [wordsF, List.range_succ]
theorem wordsF_length (g : Nat → Int) (n k : Nat) : (wordsF g n k).length = k := by simp [wordsF]
/-- Bytes. -/
def Byt (g : Nat → Int) : Prop := ∀ k, 0 ≤ g k ∧ g k ≤ 255
theorem byt_bt (s : ByteArray) : Byt (PlainAid.bt s) := fun k => ⟨PlainAid.bt_nonneg s k, PlainAid.bt_le s k⟩
theorem wdF_bounds {g : Nat → Int} (hg : Byt g) (i m : Nat) : 0 ≤ wdF g i m ∧ wdF g i m < 256 ^ m := by
  induction m with
  | zero => simp [wdF]
  | succ m ih =>
    obtain ⟨h1, h2⟩ := hg (i + m)
    have hp : (0 : Int) < 256 ^ m := Int.pow_pos (by decide)
    simp only [wdF, Int.pow_succ]
    have a : 0 ≤ g (i + m) * 256 ^ m := Int.mul_nonneg h1 (by omega)
    have b : g (i + m) * 256 ^ m ≤ 255 * 256 ^ m := Int.mul_le_mul_of_nonneg_right h2 (by omega)
    omega
theorem wdF_u64 {g : Nat → Int} (hg : Byt g) (i m : Nat) (hm : m ≤ 8) : 0 ≤ wdF g i m ∧ wdF g i m ≤ 18446744073709551615 := by
  obtain ⟨h1, h2⟩ := wdF_bounds hg i m
  refine ⟨h1, ?_⟩
  have h3 : 256 ^ m ≤ 256 ^ 8 := Nat.pow_le_pow_right (by decide) hm
  have e : (256 : Int) ^ m = ((256 ^ m : Nat) : Int) := by simp
  rw [e] at h2
  omega
/-- One byte more is or-ed in. -/
theorem or_step {g : Nat → Int} (hg : Byt g) (i m : Nat) (hm : m < 8) :
    bits BinOp.or IntKind.u64 (wdF g i m) (IntKind.u64.wrap (IntKind.u64.wrap (g (i + m)) * 2 ^ (8 * m))) = wdF g i (m + 1) := by
  obtain ⟨h1, h2⟩ := wdF_bounds hg i m
  obtain ⟨g1, g2⟩ := hg (i + m)
  obtain ⟨k1, k2⟩ := wdF_u64 hg i (m + 1) (by omega)
  have e256 : (256 : Int) ^ m = 2 ^ (8 * m) := by rw [Int.pow_mul]; rfl
  rw [IntWalk.u64_in (g (i + m)) (by omega)]
  simp only [wdF] at k1 k2 ⊢
  rw [e256] at k1 k2 h2 ⊢
  rw [IntWalk.u64_in (g (i + m) * 2 ^ (8 * m)) ⟨Int.mul_nonneg g1 (Int.le_of_lt (Int.pow_pos (by decide))), by omega⟩]
  obtain ⟨a, ha⟩ := Int.eq_ofNat_of_zero_le h1
  obtain ⟨c, hc⟩ := Int.eq_ofNat_of_zero_le g1
  rw [ha, hc] at k2 ⊢
  rw [ha] at h2
  have e2 : (2 : Int) ^ (8 * m) = ((2 ^ (8 * m) : Nat) : Int) := by simp
  have h2' : a < 2 ^ (8 * m) := by rw [e2] at h2; omega
  have e3 : (c : Int) * 2 ^ (8 * m) = ((c * 2 ^ (8 * m) : Nat) : Int) := by rw [e2]; simp
  rw [e3] at k2 ⊢
  rw [bits_or_u64_nat a _ (by omega) (by omega), Nat.or_comm, ← Nat.shiftLeft_eq, ← Nat.shiftLeft_add_eq_or_of_lt h2', Nat.shiftLeft_eq]
  omega

/-- The mixing step. -/
def mixM (s x : Int) : Int := IntKind.u64.wrap (bits BinOp.xor IntKind.u64 s x * 11400714819323198485)
def mixI (s x : Int) : Int := bits BinOp.xor IntKind.u64 (mixM s x) (mixM s x / 4294967296)
def mixMN (s x : Nat) : Nat := (s ^^^ x) * 11400714819323198485 % 18446744073709551616
def mixN (s x : Nat) : Nat := mixMN s x ^^^ (mixMN s x) >>> 32
theorem xor_lt64 {a b : Nat} (ha : a < 18446744073709551616) (hb : b < 18446744073709551616) : a ^^^ b < 18446744073709551616 :=
  Nat.xor_lt_two_pow (n := 64) ha hb
theorem mixM_nat (s x : Nat) (hs : s < 18446744073709551616) (hx : x < 18446744073709551616) : mixM s x = mixMN s x := by
  unfold mixM mixMN
  rw [bits_xor_u64_nat s x hs hx, IntKind.wrap_u64]
  omega
theorem mixMN_lt (s x : Nat) : mixMN s x < 18446744073709551616 := Nat.mod_lt _ (by decide)
theorem mixI_nat (s x : Nat) (hs : s < 18446744073709551616) (hx : x < 18446744073709551616) : mixI s x = mixN s x := by
  unfold mixI mixN
  rw [mixM_nat s x hs hx, Nat.shiftRight_eq_div_pow]
  have h := mixMN_lt s x
  have e : ((mixMN s x : Nat) : Int) / 4294967296 = ((mixMN s x / 2 ^ 32 : Nat) : Int) := by simp
  rw [e, bits_xor_u64_nat _ _ h (by omega)]
theorem mixN_lt (s x : Nat) : mixN s x < 18446744073709551616 := by
  have h := mixMN_lt s x
  exact xor_lt64 h (by rw [Nat.shiftRight_eq_div_pow]; omega)
theorem mixI_u64 (s x : Int) : 0 ≤ mixI s x ∧ mixI s x ≤ 18446744073709551615 := bounds_u64 (wf_bits _ _ _ _)
theorem fold_inj {m m' : Nat} (hm : m < 18446744073709551616) (hm' : m' < 18446744073709551616) (e : m ^^^ m >>> 32 = m' ^^^ m' >>> 32) : m = m' := by
  have inv : ∀ a : Nat, a < 18446744073709551616 → (a ^^^ a >>> 32) ^^^ (a ^^^ a >>> 32) >>> 32 = a := by
    intro a ha
    rw [Nat.shiftRight_xor_distrib, ← Nat.shiftRight_add, Nat.xor_assoc, ← Nat.xor_assoc (a >>> 32), Nat.xor_self, Nat.zero_xor]
    have : a >>> (32 + 32) = 0 := by rw [Nat.shiftRight_eq_div_pow]; exact Nat.div_eq_of_lt (by simpa using ha)
    rw [this, Nat.xor_zero]
  rw [← inv m hm, e, inv m' hm']
theorem mul_inj {a b : Nat} (ha : a < 18446744073709551616) (hb : b < 18446744073709551616) (e : a * 11400714819323198485 % 18446744073709551616 = b * 11400714819323198485 % 18446744073709551616) : a = b := by
  have inv : ∀ c : Nat, c < 18446744073709551616 → (c * 11400714819323198485 % 18446744073709551616) * 17428512612931826493 % 18446744073709551616 = c := by
    intro c hc
    rw [Nat.mod_mul_mod, Nat.mul_assoc, ← Nat.mul_mod_mod]
    have : 11400714819323198485 * 17428512612931826493 % 18446744073709551616 = 1 := by decide
    rw [this, Nat.mul_one, Nat.mod_eq_of_lt hc]
  rw [← inv a ha, e, inv b hb]
theorem mixN_inj {s x s' x' : Nat} (hs : s < 18446744073709551616) (hx : x < 18446744073709551616) (hs' : s' < 18446744073709551616) (hx' : x' < 18446744073709551616) (e : mixN s x = mixN s' x') : s ^^^ x = s' ^^^ x' :=
  mul_inj (xor_lt64 hs hx) (xor_lt64 hs' hx') (fold_inj (mixMN_lt _ _) (mixMN_lt _ _) e)
theorem nat_of_u64 {n : Int} (h : 0 ≤ n ∧ n ≤ 18446744073709551615) : ∃ k : Nat, n = k ∧ k < 18446744073709551616 := ⟨n.toNat, by omega, by omega⟩
theorem xor_right_inj {a b c : Nat} (h : a ^^^ b = a ^^^ c) : b = c := by
  have : a ^^^ (a ^^^ b) = a ^^^ (a ^^^ c) := by rw [h]
  simpa [← Nat.xor_assoc] using this
/-- A u64 number. -/
def U64 (n : Int) : Prop := 0 ≤ n ∧ n ≤ 18446744073709551615
theorem mixI_right {s x y : Int} (hs : U64 s) (hx : U64 x) (hy : U64 y) : mixI s x = mixI s y ↔ x = y := by
  refine ⟨fun e => ?_, fun e => by rw [e]⟩
  obtain ⟨s, rfl, ls⟩ := nat_of_u64 hs
  obtain ⟨x, rfl, lx⟩ := nat_of_u64 hx
  obtain ⟨y, rfl, ly⟩ := nat_of_u64 hy
  rw [mixI_nat s x ls lx, mixI_nat s y ls ly] at e
  have := mixN_inj ls lx ls ly (by omega)
  rw [xor_right_inj this]
theorem mixI_left {s t x : Int} (hs : U64 s) (ht : U64 t) (hx : U64 x) : mixI s x = mixI t x ↔ s = t := by
  refine ⟨fun e => ?_, fun e => by rw [e]⟩
  obtain ⟨s, rfl, ls⟩ := nat_of_u64 hs
  obtain ⟨x, rfl, lx⟩ := nat_of_u64 hx
  obtain ⟨t, rfl, lt⟩ := nat_of_u64 ht
  rw [mixI_nat s x ls lx, mixI_nat t x lt lx] at e
  have := mixN_inj ls lx lt lx (by omega)
  rw [Nat.xor_comm s, Nat.xor_comm t] at this
  rw [xor_right_inj this]
/-- Words mixed in one after another. -/
def mixL (s : Int) (l : List Int) : Int := l.foldl mixI s
theorem mixL_snoc (s : Int) (l : List Int) (x : Int) : mixL s (l ++ [x]) = mixI (mixL s l) x := by simp [mixL]
theorem mixL_u64 {s : Int} (hs : U64 s) (l : List Int) : U64 (mixL s l) := by
  induction l generalizing s with
  | nil => exact hs
  | cons x r ih => exact ih (mixI_u64 s x)
theorem mixL_append (s : Int) (l r : List Int) : mixL s (l ++ r) = mixL (mixL s l) r := by simp [mixL]
theorem mixL_left {s t : Int} (l : List Int) (hl : ∀ x ∈ l, U64 x) (hs : U64 s) (ht : U64 t) : mixL s l = mixL t l ↔ s = t := by
  induction l generalizing s t with
  | nil => exact Iff.rfl
  | cons x r ih =>
    have := ih (s := mixI s x) (t := mixI t x) (fun y hy => hl y (by simp [hy])) (mixI_u64 _ _) (mixI_u64 _ _)
    exact this.trans (mixI_left hs ht (hl x (by simp)))
/-- What Sum answers: over the label's words, its length, and the integers (each as a u64). -/
def u64 (n : Int) : Int := IntKind.u64.wrap n
theorem u64_U64 (n : Int) : U64 (u64 n) := bounds_u64 (wf_wrap .u64 n)
def sumI (labw : List Int) (lablen : Nat) (l : List Int) : Int := mixI (mixL (mixI (mixI (mixL 0 labw) lablen) l.length) (l.map u64)) 0

end Go.Proofs.Ytjogcpjfkjepcaa
