/- Pages: Words, HashLib, Hash, HashB, HashC, as far as they are used here. -/
import Derived.Below
import Derived.Laws.OwnMore
import Derived.Deep.AppendLies
import Derived.Maps.AppendAt
import Derived.RegionTactic
import Derived.OwnWalk
import Derived.WalkKit
import Derived.PlainAid
import Derived.OpenShut
import Derived.Laws.Bits64
import Derived.Laws.Bits64b
import Derived.Test.YtjfofadeahdnnaaGreatDoorProg
import Derived.RangeFuncNested
import Derived.RangeFuncBound
import Derived.RangeFuncCalls
import Derived.RangeFuncLeaves
import Derived.Shelf.Abstract
import Derived.Shelf.RegionOpen
import Derived.OwnWalkIn
import Derived.TacticsInMore
import Derived.LoopNIn
import Derived.LoopIn
import Derived.Lib.Hide
import Derived.Laws.MakeOwn
namespace Go.Proofs.YtjfofadeahdnnaaGreatDoor
open Go.RowKit
def Rd (w : World) (B : Nat) (A : Option Addr) (n : Nat) (f : Nat → Value) : Prop := 0 < n → ∃ ad, A = some ad ∧ ad.block < B ∧ ∀ k, k < n → w.cell? (ad.add k) = some (f k)
theorem add_block (a : Addr) (n : Nat) : (a.add n).block = a.block := by unfold Addr.add; split <;> rfl
section
variable {w w' : World} {B B' n : Nat} {A : Option Addr} {f g : Nat → Value}
theorem Rd.keep (h : Rd w B A n f) (hk : ∀ p : Addr, p.block < B → w'.cell? p = w.cell? p) : Rd w' B A n f := fun hn => by
  obtain ⟨ad, e, hlt, hc⟩ := h hn
  exact ⟨ad, e, hlt, fun k hkn => (hk _ (by rw [add_block]; exact hlt)).trans (hc k hkn)⟩
theorem Rd.below (h : Rd w B A n f) (hb : Below B w w') : Rd w' B A n f := h.keep fun _ hp => hb.cell hp
theorem Rd.alloc (h : Rd w B A n f) (hB : B ≤ w.heap.size) (o : Obj) : Rd (w.alloc o) B A n f := h.keep fun p hp => World.cell?_alloc_lt w o p (by omega)
theorem Rd.setCell (h : Rd w B A n f) {p : Addr} (hB : B ≤ p.block) (u : Value) : Rd (w.setCell p u) B A n f :=
  h.keep fun q hq => World.cell?_setCell_other w p q u (fun e => by subst e; omega)
theorem Rd.grown (h : Rd w B A n f) {row : Option Nat} (hg : w.grownBy w' row) (hB : B ≤ w.heap.size) (hr : ∀ k, row = some k → B ≤ k) : Rd w' B A n f :=
  h.keep fun p hp => World.cell?_of_block (hg.block p.block (by omega) (fun e => by have := hr _ e.symm; omega))
theorem Rd.more (h : Rd w B A n f) (hB : B ≤ B') : Rd w B' A n f := fun hn => by
  obtain ⟨ad, e, hlt, hc⟩ := h hn
  exact ⟨ad, e, by omega, hc⟩
theorem Rd.at_ (h : Rd w B A n f) {k : Nat} (hk : k < n) : ∃ ad, A = some ad ∧ ad.block < B ∧ w.cell? (ad.add k) = some (f k) := by
  obtain ⟨ad, e, hlt, hc⟩ := h (by omega)
  exact ⟨ad, e, hlt, hc k hk⟩
theorem Rd.congr (h : Rd w B A n f) (e : ∀ k, k < n → f k = g k) : Rd w B A n g := fun hn => by
  obtain ⟨ad, ea, hlt, hc⟩ := h hn
  exact ⟨ad, ea, hlt, fun k hk => by rw [hc k hk, e k hk]⟩
theorem Rd.take (h : Rd w B A n f) {m : Nat} (hm : m ≤ n) : Rd w B A m f := fun hn => by
  obtain ⟨ad, e, hlt, hc⟩ := h (by omega)
  exact ⟨ad, e, hlt, fun k hk => hc k (by omega)⟩
theorem Rd.nil : Rd w B A 0 f := fun h => absurd h (by omega)
theorem Rd.of_own {base : Nat} {e : TypeId} {v : Value} {xs : List Value} (h : w.ownsRow base e 1 v n xs) : ∃ A c, v = .slice A n c ∧ n ≤ c ∧ Rd w w.heap.size A n fun k => xs[k]?.getD undef := by
  have hl := h.1
  rcases h.2 with ⟨rfl, rfl⟩ | ⟨g, cap, cur, rfl, hb, hg, hnc, hcm, hcs, htake⟩
  · exact ⟨_, _, rfl, Nat.le_refl _, Rd.nil⟩
  · refine ⟨_, _, rfl, hnc, fun hn => ⟨_, rfl, (h.lt g rfl).2, fun k hk => ?_⟩⟩
    have hk' : k < xs.length := by omega
    have := h.cells (g := g) rfl k xs[k] (List.getElem?_eq_getElem hk')
    rw [this]
    simp only [List.getElem?_eq_getElem hk', Option.getD_some]
end
theorem Rd.next {w w' : World} {A : Option Addr} {n : Nat} {f : Nat → Value} (h : Rd w w.heap.size A n f) (hb : Below w.heap.size w w') : Rd w' w'.heap.size A n f := (h.below hb).more hb.size
def vl (f : Nat → Value) (n : Nat) : List Value := (List.range n).map f
theorem vl_length (f : Nat → Value) (n : Nat) : (vl f n).length = n := by simp [vl]
theorem vl_get (f : Nat → Value) (n k : Nat) (hk : k < n) : (vl f n)[k]? = some (f k) := by simp [vl, hk]
theorem vl_succ (f : Nat → Value) (n : Nat) : vl f (n + 1) = vl f n ++ [f n] := by simp [vl, List.range_succ]
theorem vl_getD (f : Nat → Value) (n k : Nat) (hk : k < n) (u : Value) : (vl f n)[k]?.getD u = f k := by rw [vl_get f n k hk]; rfl
section
variable {P : Program} (w : World)
theorem run_append_nil_src (base : Nat) (t ty e : TypeId) (i : TypeInfo) (size : Nat) (ht : P.underlying t = some (.slice e)) (hi : P.info? e = some i)
    (v : Value) (n : Nat) (xs : List Value) (hown : w.ownsRow base e size v n xs) (c : Nat) : (Builtin.append_ #[t, t] ty #[v, .slice none 0 c]).run P w = .ok v w := by
  rcases hown.2 with ⟨rfl, rfl⟩ | ⟨g, cap, cur, rfl, _, _, hnc, _⟩
  · simp [Builtin.append_, run_underlying ht, sizeOf, typeInfo, hi, Builtin.lenOf, Builtin.firstCells]
  · simp [Builtin.append_, run_underlying ht, sizeOf, typeInfo, hi, Builtin.lenOf, Builtin.firstCells, hnc, storeCells]
theorem run_append_rd (base : Nat) (t ty e : TypeId) (i : TypeInfo) (z : Value) (bytes : Nat) (ht : P.underlying t = some (.slice e)) (hi : P.info? e = some i) (hz : i.zero = some z)
    (hsize : i.size = 1) (hby : i.bytes = bytes) (hzs : z.cells.size = 1)
    (v : Value) (n : Nat) (xs : List Value) (hown : w.ownsRow base e 1 v n xs)
    (B : Nat) (A : Option Addr) (m c : Nat) (f : Nat → Value) (hr : Rd w B A m f) (h1 : ∀ k, (f k).oneCell' = true)
    (h63 : n + m ≤ maxLen) (hbytes : (n + m) * bytes ≤ 140737488355328) (hbase : base ≤ w.heap.size) :
    ∃ v' w', (Builtin.append_ #[t, t] ty #[v, .slice A m c]).run P w = .ok v' w' ∧ w'.ownsRow base e 1 v' (n + m) (xs ++ vl f m) ∧ w.grownBy w' v.ownBlock ∧
      (v'.ownBlock = v.ownBlock ∨ v'.ownBlock = some w.heap.size) ∧ (v' = .slice none 0 0 ↔ v = .slice none 0 0 ∧ m = 0) := by
  rcases A with _ | ad
  · obtain rfl : m = 0 := by
      rcases Nat.eq_zero_or_pos m with h0 | h0
      · exact h0
      · obtain ⟨ad, h, _⟩ := hr h0
        cases h
    exact ⟨v, w, run_append_nil_src w base t ty e i 1 ht hi v n xs hown c, by simpa [vl] using hown, World.grownBy.refl w _, .inl rfl, by simp⟩
  · have hcells : ∀ j u, (vl f m)[j]? = some u → w.cell? (ad.add j) = some u := by
      intro j u hu
      by_cases hj : j < m
      · obtain ⟨ad', h, _, hc⟩ := hr (by omega)
        injection h with h
        subst h
        rw [vl_get f m j hj] at hu
        rw [hc j hj]; exact hu
      · rw [List.getElem?_eq_none (by rw [vl_length]; omega)] at hu
        cases hu
    obtain ⟨v', w', hrun, h2, h3, h4, h5⟩ := run_append_own_at (P := P) w base t ty e i z 1 bytes ht hi hz hsize hby hzs (by decide) v n xs hown ad m c (vl f m) (by rw [vl_length]; omega) hcells (fun u hu => by simp only [vl, List.mem_map] at hu; obtain ⟨k, _, rfl⟩ := hu; exact h1 k) h63 hbytes hbase
    exact ⟨v', w', hrun, h2, h3, h5, h4⟩
theorem wp_append_rd {o : Oper} {a : Act} {K : Act → World → Prop} {Q : Exit → Act → World → Prop} (s x : Operand) (t : TypeId)
    (ho : o.op = .call { callee := .builtin .append, args := #[s, x], argTypes := #[t, t] })
    (base : Nat) (e : TypeId) (i : TypeInfo) (z : Value) (bytes : Nat) (ht : P.underlying t = some (.slice e)) (hi : P.info? e = some i) (hz : i.zero = some z)
    (hsize : i.size = 1) (hby : i.bytes = bytes) (hzs : z.cells.size = 1)
    (v : Value) (n : Nat) (xs : List Value) (hs : a.eval s = v) (hown : w.ownsRow base e 1 v n xs)
    (B : Nat) (A : Option Addr) (m c : Nat) (f : Nat → Value) (hx : a.eval x = .slice A m c) (hr : Rd w B A m f) (h1 : ∀ k, (f k).oneCell' = true)
    (h63 : n + m ≤ maxLen) (hbytes : (n + m) * bytes ≤ 140737488355328) (hbase : base ≤ w.heap.size)
    (h : ∀ v' w', w'.ownsRow base e 1 v' (n + m) (xs ++ vl f m) → w.grownBy w' v.ownBlock → (v'.ownBlock = v.ownBlock ∨ v'.ownBlock = some w.heap.size) → (v' = .slice none 0 0 ↔ v = .slice none 0 0 ∧ m = 0) → K (a.put o.dst v') w') : o.wp P a w K Q := by
  obtain ⟨v', w', hrun, h2, h3, h4, h5⟩ := run_append_rd (P := P) w base t o.type e i z bytes ht hi hz hsize hby hzs v n xs hown B A m c f hr h1 h63 hbytes hbase
  unfold Oper.wp execOp
  simp only [ho, resolve, invoke, builtin, Sem.run_bind, Sem.run_pure, Result.andThen_ok, List.map_toArray, List.map_cons, List.map_nil, hs, hx, hrun]
  exact h v' w' h2 h3 h4 h5
theorem wpList_append_rd {ops : Array Oper} {rest : List Oper} {o : Oper} {a : Act} {Q : Exit → Act → World → Prop} (hgd : o.guard = none) (s x : Operand) (t : TypeId)
    (ho : o.op = .call { callee := .builtin .append, args := #[s, x], argTypes := #[t, t] })
    (base : Nat) (e : TypeId) (i : TypeInfo) (z : Value) (bytes : Nat) (ht : P.underlying t = some (.slice e)) (hi : P.info? e = some i) (hz : i.zero = some z)
    (hsize : i.size = 1) (hby : i.bytes = bytes) (hzs : z.cells.size = 1)
    (v : Value) (n : Nat) (xs : List Value) (hs : a.eval s = v) (hown : w.ownsRow base e 1 v n xs)
    (B : Nat) (A : Option Addr) (m c : Nat) (f : Nat → Value) (hx : a.eval x = .slice A m c) (hr : Rd w B A m f) (h1 : ∀ k, (f k).oneCell' = true)
    (h63 : n + m ≤ maxLen) (hbytes : (n + m) * bytes ≤ 140737488355328) (hbase : base ≤ w.heap.size)
    (h : ∀ v' w', w'.ownsRow base e 1 v' (n + m) (xs ++ vl f m) → w.grownBy w' v.ownBlock → (v'.ownBlock = v.ownBlock ∨ v'.ownBlock = some w.heap.size) → (v' = .slice none 0 0 ↔ v = .slice none 0 0 ∧ m = 0) → wpList P ops Q rest (a.put o.dst v') w') : wpList P ops Q (o :: rest) a w :=
  wpList_plain hgd fun _ hK => wp_append_rd w s x t ho base e i z bytes ht hi hz hsize hby hzs v n xs hs hown B A m c f hx hr h1 h63 hbytes hbase fun v' w' h2 h3 h4 h5 => hK _ _ (h v' w' h2 h3 h4 h5)
end
end Go.Proofs.YtjfofadeahdnnaaGreatDoor
namespace Go.Proofs.YtjfofadeahdnnaaGreatDoor
open Go.RowKit
def wdF (g : Nat → Int) (i : Nat) : Nat → Int
  | 0 => 0
  | m + 1 => wdF g i m + g (i + m) * 256 ^ m
def wordsF (g : Nat → Int) (n k : Nat) : List Int := (List.range k).map fun j => wdF g (8 * j) (min 8 (n - 8 * j))
theorem wordsF_succ (g : Nat → Int) (n k : Nat) : wordsF g n (k + 1) = wordsF g n k ++ [wdF g (8 * k) (min 8 (n - 8 * k))] := by simp [wordsF, List.range_succ]
theorem wordsF_length (g : Nat → Int) (n k : Nat) : (wordsF g n k).length = k := by simp [wordsF]
def Byt (g : Nat → Int) : Prop := ∀ k, 0 ≤ g k ∧ g k ≤ 255
theorem byt_bt (s : ByteArray) : Byt (PlainAid.bt s) := fun k => ⟨PlainAid.bt_nonneg s k, PlainAid.bt_le s k⟩
theorem wdF_bounds {g : Nat → Int} (hg : Byt g) (i m : Nat) : 0 ≤ wdF g i m ∧ wdF g i m < 256 ^ m := by
  induction m with
  | zero => simp [wdF]
  | succ m ih =>
    obtain ⟨h1, h2⟩ := hg (i + m)
    have hp : (0 : Int) < 256 ^ m := Int.pow_pos (by decide)
    simp only [wdF, Int.pow_succ]
    have a : 0 ≤ g (i + m) * 256 ^ m := Int.mul_nonneg h1 (by omega)
    have b : g (i + m) * 256 ^ m ≤ 255 * 256 ^ m := Int.mul_le_mul_of_nonneg_right h2 (by omega)
    omega
theorem wdF_u64 {g : Nat → Int} (hg : Byt g) (i m : Nat) (hm : m ≤ 8) : 0 ≤ wdF g i m ∧ wdF g i m ≤ 18446744073709551615 := by
  obtain ⟨h1, h2⟩ := wdF_bounds hg i m
  refine ⟨h1, ?_⟩
  have h3 : 256 ^ m ≤ 256 ^ 8 := Nat.pow_le_pow_right (by decide) hm
  have e : (256 : Int) ^ m = ((256 ^ m : Nat) : Int) := by simp
  rw [e] at h2
  omega
theorem or_step {g : Nat → Int} (hg : Byt g) (i m : Nat) (hm : m < 8) :
    bits BinOp.or IntKind.u64 (wdF g i m) (IntKind.u64.wrap (IntKind.u64.wrap (g (i + m)) * 2 ^ (8 * m))) = wdF g i (m + 1) := by
  obtain ⟨h1, h2⟩ := wdF_bounds hg i m
  obtain ⟨g1, g2⟩ := hg (i + m)
  obtain ⟨k1, k2⟩ := wdF_u64 hg i (m + 1) (by omega)
  have e256 : (256 : Int) ^ m = 2 ^ (8 * m) := by rw [Int.pow_mul]; rfl
  rw [IntWalk.u64_in (g (i + m)) (by omega)]
  simp only [wdF] at k1 k2 ⊢
  rw [e256] at k1 k2 h2 ⊢
  rw [IntWalk.u64_in (g (i + m) * 2 ^ (8 * m)) ⟨Int.mul_nonneg g1 (Int.le_of_lt (Int.pow_pos (by decide))), by omega⟩]
  obtain ⟨a, ha⟩ := Int.eq_ofNat_of_zero_le h1
  obtain ⟨c, hc⟩ := Int.eq_ofNat_of_zero_le g1
  rw [ha, hc] at k2 ⊢
  rw [ha] at h2
  have e2 : (2 : Int) ^ (8 * m) = ((2 ^ (8 * m) : Nat) : Int) := by simp
  have h2' : a < 2 ^ (8 * m) := by rw [e2] at h2; omega
  have e3 : (c : Int) * 2 ^ (8 * m) = ((c * 2 ^ (8 * m) : Nat) : Int) := by rw [e2]; simp
  rw [e3] at k2 ⊢
  rw [bits_or_u64_nat a _ (by omega) (by omega), Nat.or_comm, ← Nat.shiftLeft_eq, ← Nat.shiftLeft_add_eq_or_of_lt h2', Nat.shiftLeft_eq]
  omega
def mixM (s x : Int) : Int := IntKind.u64.wrap (bits BinOp.xor IntKind.u64 s x * 11400714819323198485)
def mixI (s x : Int) : Int := bits BinOp.xor IntKind.u64 (mixM s x) (mixM s x / 4294967296)
def mixMN (s x : Nat) : Nat := (s ^^^ x) * 11400714819323198485 % 18446744073709551616
def mixN (s x : Nat) : Nat := mixMN s x ^^^ (mixMN s x) >>> 32
theorem xor_lt64 {a b : Nat} (ha : a < 18446744073709551616) (hb : b < 18446744073709551616) : a ^^^ b < 18446744073709551616 :=
  Nat.xor_lt_two_pow (n := 64) ha hb
theorem mixM_nat (s x : Nat) (hs : s < 18446744073709551616) (hx : x < 18446744073709551616) : mixM s x = mixMN s x := by
  unfold mixM mixMN
  rw [bits_xor_u64_nat s x hs hx, IntKind.wrap_u64]
  omega
theorem mixMN_lt (s x : Nat) : mixMN s x < 18446744073709551616 := Nat.mod_lt _ (by decide)
theorem mixI_nat (s x : Nat) (hs : s < 18446744073709551616) (hx : x < 18446744073709551616) : mixI s x = mixN s x := by
  unfold mixI mixN
  rw [mixM_nat s x hs hx, Nat.shiftRight_eq_div_pow]
  have h := mixMN_lt s x
  have e : ((mixMN s x : Nat) : Int) / 4294967296 = ((mixMN s x / 2 ^ 32 : Nat) : Int) := by simp
  rw [e, bits_xor_u64_nat _ _ h (by omega)]
theorem mixN_lt (s x : Nat) : mixN s x < 18446744073709551616 := by
  have h := mixMN_lt s x
  exact xor_lt64 h (by rw [Nat.shiftRight_eq_div_pow]; omega)
theorem mixI_u64 (s x : Int) : 0 ≤ mixI s x ∧ mixI s x ≤ 18446744073709551615 := bounds_u64 (wf_bits _ _ _ _)
theorem fold_inj {m m' : Nat} (hm : m < 18446744073709551616) (hm' : m' < 18446744073709551616) (e : m ^^^ m >>> 32 = m' ^^^ m' >>> 32) : m = m' := by
  have inv : ∀ a : Nat, a < 18446744073709551616 → (a ^^^ a >>> 32) ^^^ (a ^^^ a >>> 32) >>> 32 = a := by
    intro a ha
    rw [Nat.shiftRight_xor_distrib, ← Nat.shiftRight_add, Nat.xor_assoc, ← Nat.xor_assoc (a >>> 32), Nat.xor_self, Nat.zero_xor]
    have : a >>> (32 + 32) = 0 := by rw [Nat.shiftRight_eq_div_pow]; exact Nat.div_eq_of_lt (by simpa using ha)
    rw [this, Nat.xor_zero]
  rw [← inv m hm, e, inv m' hm']
theorem mul_inj {a b : Nat} (ha : a < 18446744073709551616) (hb : b < 18446744073709551616) (e : a * 11400714819323198485 % 18446744073709551616 = b * 11400714819323198485 % 18446744073709551616) : a = b := by
  have inv : ∀ c : Nat, c < 18446744073709551616 → (c * 11400714819323198485 % 18446744073709551616) * 17428512612931826493 % 18446744073709551616 = c := by
    intro c hc
    rw [Nat.mod_mul_mod, Nat.mul_assoc, ← Nat.mul_mod_mod]
    have : 11400714819323198485 * 17428512612931826493 % 18446744073709551616 = 1 := by decide
    rw [this, Nat.mul_one, Nat.mod_eq_of_lt hc]
  rw [← inv a ha, e, inv b hb]
theorem mixN_inj {s x s' x' : Nat} (hs : s < 18446744073709551616) (hx : x < 18446744073709551616) (hs' : s' < 18446744073709551616) (hx' : x' < 18446744073709551616) (e : mixN s x = mixN s' x') : s ^^^ x = s' ^^^ x' :=
  mul_inj (xor_lt64 hs hx) (xor_lt64 hs' hx') (fold_inj (mixMN_lt _ _) (mixMN_lt _ _) e)
theorem nat_of_u64 {n : Int} (h : 0 ≤ n ∧ n ≤ 18446744073709551615) : ∃ k : Nat, n = k ∧ k < 18446744073709551616 := ⟨n.toNat, by omega, by omega⟩
theorem xor_right_inj {a b c : Nat} (h : a ^^^ b = a ^^^ c) : b = c := by
  have : a ^^^ (a ^^^ b) = a ^^^ (a ^^^ c) := by rw [h]
  simpa [← Nat.xor_assoc] using this
def U64 (n : Int) : Prop := 0 ≤ n ∧ n ≤ 18446744073709551615
theorem mixI_right {s x y : Int} (hs : U64 s) (hx : U64 x) (hy : U64 y) : mixI s x = mixI s y ↔ x = y := by
  refine ⟨fun e => ?_, fun e => by rw [e]⟩
  obtain ⟨s, rfl, ls⟩ := nat_of_u64 hs
  obtain ⟨x, rfl, lx⟩ := nat_of_u64 hx
  obtain ⟨y, rfl, ly⟩ := nat_of_u64 hy
  rw [mixI_nat s x ls lx, mixI_nat s y ls ly] at e
  have := mixN_inj ls lx ls ly (by omega)
  rw [xor_right_inj this]
theorem mixI_left {s t x : Int} (hs : U64 s) (ht : U64 t) (hx : U64 x) : mixI s x = mixI t x ↔ s = t := by
  refine ⟨fun e => ?_, fun e => by rw [e]⟩
  obtain ⟨s, rfl, ls⟩ := nat_of_u64 hs
  obtain ⟨x, rfl, lx⟩ := nat_of_u64 hx
  obtain ⟨t, rfl, lt⟩ := nat_of_u64 ht
  rw [mixI_nat s x ls lx, mixI_nat t x lt lx] at e
  have := mixN_inj ls lx lt lx (by omega)
  rw [Nat.xor_comm s, Nat.xor_comm t] at this
  rw [xor_right_inj this]
def mixL (s : Int) (l : List Int) : Int := l.foldl mixI s
theorem mixL_snoc (s : Int) (l : List Int) (x : Int) : mixL s (l ++ [x]) = mixI (mixL s l) x := by simp [mixL]
theorem mixL_u64 {s : Int} (hs : U64 s) (l : List Int) : U64 (mixL s l) := by
  induction l generalizing s with
  | nil => exact hs
  | cons x r ih => exact ih (mixI_u64 s x)
theorem mixL_append (s : Int) (l r : List Int) : mixL s (l ++ r) = mixL (mixL s l) r := by simp [mixL]
theorem mixL_left {s t : Int} (l : List Int) (hl : ∀ x ∈ l, U64 x) (hs : U64 s) (ht : U64 t) : mixL s l = mixL t l ↔ s = t := by
  induction l generalizing s t with
  | nil => exact Iff.rfl
  | cons x r ih =>
    have := ih (s := mixI s x) (t := mixI t x) (fun y hy => hl y (by simp [hy])) (mixI_u64 _ _) (mixI_u64 _ _)
    exact this.trans (mixI_left hs ht (hl x (by simp)))
def u64 (n : Int) : Int := IntKind.u64.wrap n
theorem u64_U64 (n : Int) : U64 (u64 n) := bounds_u64 (wf_wrap .u64 n)
def sumI (labw : List Int) (lablen : Nat) (l : List Int) : Int := mixI (mixL (mixI (mixI (mixL 0 labw) lablen) l.length) (l.map u64)) 0
end Go.Proofs.YtjfofadeahdnnaaGreatDoor
namespace Go.Proofs.YtjfofadeahdnnaaGreatDoor
open Go.RowKit Go.Shelf
attribute [local go_sem] Oper.semAt_some
set_option maxHeartbeats 400000 in
theorem mix_in (F : Fence) (n : Nat) (h : F.fn 67) (hro : F.round = none) (s x : Int) (w : World) :
    CallsIn F n Tryz.prog 67 #[.int .u64 s, .int .u64 x] w fun e w' => e = .returned (.int .u64 (mixI s x)) ∧ w = w' := by
  refine callsIn_of_wp Tryz.func67 rfl h ?_ hro
  simp only [Tryz.ntmps67, List.size_toArray, List.length_cons, List.length_nil, Nat.reduceAdd, Nat.reduceSub, Array.replicate_succ, Array.replicate_zero, List.push_toArray, List.append_toArray, List.nil_append, List.cons_append]
  gi_wp2
  go_ret
  exact ⟨rfl, rfl⟩
def KpB (Bn n₀ : Nat) (W W' : World) : Prop := Below n₀ W W' ∧ W'.cell? ⟨Bn, 0, none⟩ = W.cell? ⟨Bn, 0, none⟩
theorem KpB.refl {Bn n₀ : Nat} (W : World) : KpB Bn n₀ W W := ⟨Below.refl _ _, rfl⟩
theorem kpB_t {Bn n₀ : Nat} {A B C : World} (h : KpB Bn n₀ A B) (k : KpB Bn n₀ B C) : KpB Bn n₀ A C := ⟨h.1.trans k.1, k.2.trans h.2⟩
theorem kpB_b {Bn n₀ : Nat} {w : World} (hn : n₀ ≤ w.heap.size) (hB : Bn < w.heap.size) (W : World) (l : Nat) (o o' : Obj) (hl : w.heap.size ≤ l) (h : W.heap[l]? = some o) (h1 : o.isCells = false) (h2 : o.isWalk = false) : KpB Bn n₀ W (W.putObj l o') :=
  ⟨belowK_b hn W l o o' hl h h1 h2, (belowK_b (n₀ := Bn + 1) (w := w) hB W l o o' hl h h1 h2).cell (p := ⟨Bn, 0, none⟩) (by simp)⟩
set_option maxRecDepth 100000 in
set_option maxHeartbeats 2000000 in
theorem grpS1_in (F : Fence) (n : Nat) (h6 : F.fn 81) (hro : F.round = none) (hn : 1 ≤ n) (l Bn n₀ : Nat) (s : ByteArray) (hs : s.size ≤ 140737488351232) (J Jx : List Int → World → Prop)
    (hY : ∀ pre x W, J pre W → pre.length < (s.size + 7) / 8 → YieldAt F (n - 1) Tryz.prog l #[.int .u64 x] W fun e W' =>
      (e = .returned (.bool true) ∧ J (pre ++ [x]) W' ∧ KpB Bn n₀ W W') ∨ (e = .returned (.bool false) ∧ Jx (pre ++ [x]) W'))
    (W : World) (hBn : W.cell? ⟨Bn, 0, none⟩ = some (.string s)) (h0 : J [] W) :
    CallsIn F n Tryz.prog 81 #[.func (.yield l) #[] #[], .pointer (some ⟨Bn, 0, none⟩)] W fun e W' => (∃ v, e = .returned v) ∧
      ((∃ ys, ys = wordsF (PlainAid.bt s) s.size ((s.size + 7) / 8) ∧ J ys W') ∨ (∃ pre, (∃ k, k ≤ (s.size + 7) / 8 ∧ pre = wordsF (PlainAid.bt s) s.size k) ∧ Jx pre W')) := by

  have hbt := PlainAid.get_bt s
  refine callsIn_of_wp Tryz.func81 rfl h6 ?_ hro
  simp only [Tryz.ntmps81, List.size_toArray, List.length_cons, List.length_nil, Nat.reduceAdd, Nat.reduceSub, Array.replicate_succ, Array.replicate_zero, List.push_toArray, List.append_toArray, List.nil_append, List.cons_append]
  gi_wp2
  gi_loopw [3] (fun i wr => ∃ k : Nat, k ≤ (s.size + 7) / 8 ∧ i = .int .i64 (8 * (k : Int)) ∧ J (wordsF (PlainAid.bt s) s.size k) wr ∧ KpB Bn n₀ W wr) (fun i _ => s.size + 8 - (intOf i).toNat)
  case atStart => exact ⟨0, Nat.zero_le _, rfl, h0, KpB.refl _⟩
  case round =>
    obtain ⟨k, hk, rfl, hJs, hnx⟩ := hrel
    have hcx : wr.cell? ⟨Bn, 0, none⟩ = some (.string s) := hnx.2.trans hBn
    by_cases hlt : 8 * k < s.size
    · have hdec : decide (8 * (k : Int) < (s.size : Int)) = true := by simp; omega
      gi_wp2
      gi_loopw [4, 5] (fun x j wq => ∃ m : Nat, m ≤ min 8 (s.size - 8 * k) ∧ j = .int .i64 (8 * (k : Int) + (m : Int)) ∧ x = .int .u64 (wdF (PlainAid.bt s) (8 * k) m) ∧ wq = wr) (fun _ j _ => s.size + 8 - (intOf j).toNat)
      case atStart => exact ⟨0, Nat.zero_le _, rfl, rfl, rfl⟩
      case round =>
        obtain ⟨m, hm, rfl, rfl, rfl⟩ := hrel
        by_cases hlm : m < min 8 (s.size - 8 * k)
        · have h8 : m < 8 := by omega
          have h9 : 8 * k + m < s.size := by omega
          have hor := Lib.hid (or_step (byt_bt s) (8 * k) m h8)
          gi_wp2
          go_roundw
          case rel => exact ⟨m + 1, by omega, by go_num, by rw [← hor.out], trivial⟩
          case measure => simp [intOf]; omega
        · have HM := Lib.hid (show m = min 8 (s.size - 8 * k) by omega)
          obtain ⟨fn, tmps, assign, body, hy, hR⟩ := hY _ (wdF (PlainAid.bt s) (8 * k) m) wr hJs (by rw [wordsF_length]; omega)
          by_cases h10 : 8 * k + m < s.size
          · have h10' : 8 * (k : Int) + (m : Int) < (s.size : Int) := by omega
            have h9' : 8 ≤ (m : Int) := by omega
            gi_wp2
            refine hR.mono ?_
            rintro e W3 (⟨rfl, hJ3, hk3⟩ | ⟨rfl, hJx3⟩)
            · gi_wp2
              go_roundw
              case rel => exact ⟨k + 1, by omega, by go_num, by rw [wordsF_succ, ← HM.out]; exact hJ3, kpB_t hnx hk3⟩
              case measure => simp [intOf]; omega
            · gi_wp2
              refine bodyPost_ret (results_none rfl _ _ _) rfl ?_
              exact ⟨⟨_, rfl⟩, .inr ⟨_, ⟨k + 1, by omega, by rw [wordsF_succ, ← HM.out]⟩, hJx3⟩⟩
          · have h9' : (s.size : Int) ≤ 8 * (k : Int) + (m : Int) := by omega
            gi_wp2
            refine hR.mono ?_
            rintro e W3 (⟨rfl, hJ3, hk3⟩ | ⟨rfl, hJx3⟩)
            · gi_wp2
              go_roundw
              case rel => exact ⟨k + 1, by omega, by go_num, by rw [wordsF_succ, ← HM.out]; exact hJ3, kpB_t hnx hk3⟩
              case measure => simp [intOf]; omega
            · gi_wp2
              refine bodyPost_ret (results_none rfl _ _ _) rfl ?_
              exact ⟨⟨_, rfl⟩, .inr ⟨_, ⟨k + 1, by omega, by rw [wordsF_succ, ← HM.out]⟩, hJx3⟩⟩
    · obtain rfl : k = (s.size + 7) / 8 := by omega
      gi_wp2
      go_end0
      exact ⟨⟨_, rfl⟩, .inl ⟨_, rfl, hJs⟩⟩
set_option maxHeartbeats 1000000 in
theorem grpS_in (F : Fence) (n : Nat) (h5 : F.fn 66) (hro : F.round = none) (s : ByteArray) (w : World) :
    CallsIn F n Tryz.prog 66 #[.string s] w fun e w' => e = .returned (.func (.func 81) #[] #[.pointer (some ⟨w.heap.size, 0, none⟩)]) ∧ w' = w.alloc (.cells #[.string s] 9) := by
  refine callsIn_of_wp Tryz.func66 rfl h5 ?_ hro
  simp only [Tryz.ntmps66, List.size_toArray, List.length_cons, List.length_nil, Nat.reduceAdd, Nat.reduceSub, Array.replicate_succ, Array.replicate_zero, List.push_toArray, List.append_toArray, List.nil_append, List.cons_append]
  gi_wp2
  go_ret
  exact ⟨rfl, rfl⟩
theorem grpS_stops (F : Fence) (n : Nat) (h7 : F.fn 81) (hro : F.round = none) (hn : 1 ≤ n) (Bs n₀ : Nat) (s : ByteArray) (hs : s.size ≤ 140737488351232) (w : World) (hBs : Bs < w.heap.size)
    (hc : w.cell? ⟨Bs, 0, none⟩ = some (.string s)) :
    SeqStopsK F n Tryz.prog 81 #[.pointer (some ⟨Bs, 0, none⟩)] (fun x : Int => #[Value.int .u64 x]) (KpB Bs n₀) (fun ys => ys = wordsF (PlainAid.bt s) s.size ((s.size + 7) / 8))
      (fun pre => ∃ k, k ≤ (s.size + 7) / 8 ∧ pre = wordsF (PlainAid.bt s) s.size k) ((s.size + 7) / 8) w := fun l J Jx W hW _ _ hY h0 => by
  have hc' := (hW.cell (p := ⟨Bs, 0, none⟩) hBs).trans hc
  exact grpS1_in F n h7 hro hn l Bs n₀ s hs J Jx hY W hc' h0
def gl (g : Nat → Int) (n : Nat) : List Int := (List.range n).map g
theorem gl_succ (g : Nat → Int) (n : Nat) : gl g (n + 1) = gl g n ++ [g n] := by simp [gl, List.range_succ]
theorem gl_length (g : Nat → Int) (n : Nat) : (gl g n).length = n := by simp [gl]
set_option maxRecDepth 100000 in
set_option maxHeartbeats 2000000 in
theorem sum_in (F : Fence) (n : Nat) (h3 : F.fn 45) (h5 : F.fn 66) (h6 : F.fn 67) (h7 : F.fn 81) (hro : F.round = none) (hn : 4 ≤ n) (s : ByteArray) (hs : s.size ≤ 140737488351232) (A : Option Addr) (len cap : Nat) (hlen : len ≤ 140737488351232) (g : Nat → Int) (w : World) (hR : Rd w w.heap.size A len fun k => .int .i64 (g k)) :
    CallsIn F n Tryz.prog 45 #[.string s, .slice A len cap] w fun e W' => e = .returned (.int .u64 (sumI (wordsF (PlainAid.bt s) s.size ((s.size + 7) / 8)) s.size (gl g len))) ∧ Below w.heap.size w W' := by
  have h1 : 1 ≤ n := by omega
  have h2 : 1 ≤ n - 1 - 1 := by omega
  refine callsIn_of_wp_marks Tryz.func45 rfl h3 ?_ hro
  simp only [Tryz.ntmps45, List.size_toArray, List.length_cons, List.length_nil, Nat.reduceAdd, Nat.reduceSub, Array.replicate_succ, Array.replicate_zero, List.push_toArray, List.append_toArray, List.nil_append, List.cons_append]
  gi_wp2_with (gi_at_call 66; refine (grpS_in F (n - 1) h5 hro _ _).mono ?_; rintro e w' ⟨rfl, rfl⟩)
  have bS := Boxed.new w 23 (.int .u64 0)
  have bN := Boxed.new (w.alloc (.cells #[.int .u64 0] 23)) 9 (.string s)
  rw [World.size_alloc] at bN
  have hB0 : Below w.heap.size w ((w.alloc (.cells #[.int .u64 0] 23)).alloc (.cells #[.string s] 9)) := ((Below.refl _ w).alloc (Nat.le_refl _) _).alloc (by simp) _
  refine wpIn_rangeFunc_ownG hro h1 (gf := 81) (lb := #[.pointer (some ⟨w.heap.size + 1, 0, none⟩)]) rfl h7 (enters_of Tryz.func81 (by kernel_rfl) rfl)
    (grpS_stops F (n - 1) h7 hro (by omega) (w.heap.size + 1) w.heap.size s hs _ (by simp) bN.cell) kpB_t (kpB_b (by simp; omega) (by simp)) (Below.refl _ _) (fun _ => rfl)
    (fun pre W => (W.cell? ⟨w.heap.size, 0, none⟩ = some (.int .u64 (mixL 0 pre)) ∧ W.frozen? ⟨w.heap.size, 0, none⟩ = false) ∧ Below w.heap.size w W)
    (fun _ _ _ => False)
    (OwnFrom.and (Own.from (fun s A B row hs hg hr => ⟨cell_kept hs.1 hg hr, (frozen_kept hs.1 hg hr).trans hs.2⟩) _) (ownFrom_below (Nat.le_refl _) (by simp; omega)))
    (fun _ _ _ _ _ hs _ _ => hs)
    ⟨⟨(bS.alloc _).cell, (bS.alloc _).frozen⟩, hB0⟩
    (fun x => { tmps := #[.string s, .slice A len cap, undef, undef, .int .u64 0, .pointer (some ⟨w.heap.size, 0, none⟩), .int .u64 x, undef, undef, .string s, .func (.func 81) #[] #[.pointer (some ⟨w.heap.size + 1, 0, none⟩)], .int .u64 x, undef, undef, undef, undef, undef, undef, undef, undef, undef, undef, undef, undef, undef, undef, undef, undef, undef, undef, undef, undef, undef, undef, undef, undef, undef, undef], defers := [] }) ?assign ?body ?done ?stop
  case assign =>
    intro l x W K hK
    gi_wp2
    exact hK
  case body =>
    rintro l pre x W ⟨⟨hc, hf⟩, hB⟩ _
    gi_wp2_with (gi_at_call 67; refine (CallsIn.inRound l (mix_in F _ h6 hro _ _ _)).mono ?_; rintro e w' ⟨rfl, rfl⟩)
    exact ⟨(KeepsOthers.setCell _ _ _).from _, ⟨(Below.refl w.heap.size W).setCell (p := ⟨w.heap.size, 0, none⟩) (Nat.le_refl _) _, World.cell?_setCell_other _ _ _ _ (by simp)⟩, ⟨by rw [mixL_snoc]; exact World.cell?_setCell_same' _ _ _ (by rw [hc]; rfl), by rw [World.frozen?_setCell]; exact hf⟩, hB.setCell (p := ⟨w.heap.size, 0, none⟩) (Nat.le_refl _) _⟩
  case done =>
    rintro D ys W hD rfl ⟨⟨hc, hf⟩, hB⟩ hK
    gi_wp2_with (gi_at_call 67; refine (mix_in F _ h6 hro _ _ _).mono ?_; rintro e w' ⟨rfl, rfl⟩)
    obtain ⟨S0, hS0⟩ : ∃ S0, S0 = mixI (mixI (mixL 0 (wordsF (PlainAid.bt s) s.size ((s.size + 7) / 8))) s.size) len := ⟨_, rfl⟩
    have HS0 := Lib.hid hS0
    rw [← hS0]
    clear hS0
    have hne : w.heap.size ≠ D := by simp at hD; omega
    gi_loopw [27] (fun i wr => ∃ k : Nat, k ≤ len ∧ i = .int .i64 k ∧ wr.cell? ⟨w.heap.size, 0, none⟩ = some (.int .u64 (mixL S0 ((gl g k).map u64))) ∧ wr.frozen? ⟨w.heap.size, 0, none⟩ = false ∧ Below w.heap.size w wr ∧ wr.heap[D]? = some (.deferred (some []))) (fun i _ => len - (intOf i).toNat)
    case atStart =>
      refine ⟨0, Nat.zero_le _, rfl, World.cell?_setCell_same' _ _ _ (by rw [World.cell?_setCell_same' _ _ _ (by rw [hc]; rfl)]; rfl), by rw [World.frozen?_setCell, World.frozen?_setCell]; exact hf, (hB.setCell (p := ⟨w.heap.size, 0, none⟩) (Nat.le_refl _) _).setCell (p := ⟨w.heap.size, 0, none⟩) (Nat.le_refl _) _, ?_⟩
      exact (KeepsOthers.setCell _ ⟨w.heap.size, 0, none⟩ _).same D _ ((KeepsOthers.setCell W ⟨w.heap.size, 0, none⟩ _).same D _ hK rfl) rfl
    case round =>
      obtain ⟨k, hk, rfl, hcr, hfr, hBr, hKr⟩ := hrel
      by_cases hlt : k < len
      · obtain ⟨ad, rfl, hab, hac⟩ := (hR.below hBr).at_ hlt
        gi_wp2_with (gi_at_call 67; refine (mix_in F _ h6 hro _ _ _).mono ?_; rintro e w' ⟨rfl, rfl⟩)
        go_roundw
        case rel => exact ⟨k + 1, by omega, by go_num, by rw [gl_succ, List.map_append, List.map_singleton, mixL_snoc]; exact World.cell?_setCell_same' _ _ _ (by rw [hcr]; rfl), by rw [World.frozen?_setCell]; exact hfr, hBr.setCell (p := ⟨w.heap.size, 0, none⟩) (Nat.le_refl _) _, (KeepsOthers.setCell _ ⟨w.heap.size, 0, none⟩ _).same D _ hKr rfl⟩
        case measure => simp [intOf]; omega
      · obtain rfl : k = len := by omega
        gi_wp2_with (gi_at_call 67; refine (mix_in F _ h6 hro _ _ _).mono ?_; rintro e w' ⟨rfl, rfl⟩)
        refine ⟨by simp, .inl ⟨_, _, rfl, run_takeDeferred hKr, ?_⟩⟩
        exact ⟨_, results_tmp rfl _ _ _, by rw [sumI, gl_length g k, ← HS0.out]; rfl, hBr.trans (belowK_b (w := w) (Nat.le_refl _) _ D _ _ (by simp at hD; omega) hKr rfl rfl)⟩
  case stop =>
    rintro D c pre W _ _ h _
    exact h.elim
end Go.Proofs.YtjfofadeahdnnaaGreatDoor
namespace Go.Proofs.YtjfofadeahdnnaaGreatDoor
open Go.RowKit Go.Shelf
attribute [local go_sem] Oper.semAt_some
set_option maxRecDepth 100000 in
set_option maxHeartbeats 2000000 in
theorem grpB1_in (F : Fence) (n : Nat) (h6 : F.fn 95) (hro : F.round = none) (hn : 1 ≤ n) (l Bn n₀ : Nat) (A : Option Addr) (len cap : Nat) (g : Nat → Int) (hg : Byt g) (hs : len ≤ 140737488351232) (J Jx : List Int → World → Prop)
    (hY : ∀ pre x W, J pre W → pre.length < (len + 7) / 8 → YieldAt F (n - 1) Tryz.prog l #[.int .u64 x] W fun e W' =>
      (e = .returned (.bool true) ∧ J (pre ++ [x]) W' ∧ KpB Bn n₀ W W') ∨ (e = .returned (.bool false) ∧ Jx (pre ++ [x]) W'))
    (W : World) (hBn : W.cell? ⟨Bn, 0, none⟩ = some (.slice A len cap)) (hR0 : Rd W n₀ A len fun k => .int .u8 (g k)) (h0 : J [] W) :
    CallsIn F n Tryz.prog 95 #[.func (.yield l) #[] #[], .pointer (some ⟨Bn, 0, none⟩)] W fun e W' => (∃ v, e = .returned v) ∧
      ((∃ ys, ys = wordsF (g) len ((len + 7) / 8) ∧ J ys W') ∨ (∃ pre, (∃ k, k ≤ (len + 7) / 8 ∧ pre = wordsF (g) len k) ∧ Jx pre W')) := by

  refine callsIn_of_wp Tryz.func95 rfl h6 ?_ hro
  simp only [Tryz.ntmps95, List.size_toArray, List.length_cons, List.length_nil, Nat.reduceAdd, Nat.reduceSub, Array.replicate_succ, Array.replicate_zero, List.push_toArray, List.append_toArray, List.nil_append, List.cons_append]
  gi_wp2
  gi_loopw [3] (fun i wr => ∃ k : Nat, k ≤ (len + 7) / 8 ∧ i = .int .i64 (8 * (k : Int)) ∧ J (wordsF (g) len k) wr ∧ KpB Bn n₀ W wr) (fun i _ => len + 8 - (intOf i).toNat)
  case atStart => exact ⟨0, Nat.zero_le _, rfl, h0, KpB.refl _⟩
  case round =>
    obtain ⟨k, hk, rfl, hJs, hnx⟩ := hrel
    have hcx : wr.cell? ⟨Bn, 0, none⟩ = some (.slice A len cap) := hnx.2.trans hBn
    by_cases hlt : 8 * k < len
    · have hdec : decide (8 * (k : Int) < (len : Int)) = true := by simp; omega
      gi_wp2
      gi_loopw [4, 5] (fun x j wq => ∃ m : Nat, m ≤ min 8 (len - 8 * k) ∧ j = .int .i64 (8 * (k : Int) + (m : Int)) ∧ x = .int .u64 (wdF (g) (8 * k) m) ∧ wq = wr) (fun _ j _ => len + 8 - (intOf j).toNat)
      case atStart => exact ⟨0, Nat.zero_le _, rfl, rfl, rfl⟩
      case round =>
        obtain ⟨m, hm, rfl, rfl, rfl⟩ := hrel
        by_cases hlm : m < min 8 (len - 8 * k)
        · have h8 : m < 8 := by omega
          have h9 : 8 * k + m < len := by omega
          obtain ⟨ad, hA, hab, hac⟩ := (hR0.below hnx.1).at_ h9
          subst hA
          have hor := Lib.hid (or_step (hg) (8 * k) m h8)
          gi_wp2
          go_roundw
          case rel => exact ⟨m + 1, by omega, by go_num, by rw [← hor.out], trivial⟩
          case measure => simp [intOf]; omega
        · have HM := Lib.hid (show m = min 8 (len - 8 * k) by omega)
          obtain ⟨fn, tmps, assign, body, hy, hR⟩ := hY _ (wdF (g) (8 * k) m) wr hJs (by rw [wordsF_length]; omega)
          by_cases h10 : 8 * k + m < len
          · have h10' : 8 * (k : Int) + (m : Int) < (len : Int) := by omega
            have h9' : 8 ≤ (m : Int) := by omega
            gi_wp2
            refine hR.mono ?_
            rintro e W3 (⟨rfl, hJ3, hk3⟩ | ⟨rfl, hJx3⟩)
            · gi_wp2
              go_roundw
              case rel => exact ⟨k + 1, by omega, by go_num, by rw [wordsF_succ, ← HM.out]; exact hJ3, kpB_t hnx hk3⟩
              case measure => simp [intOf]; omega
            · gi_wp2
              refine bodyPost_ret (results_none rfl _ _ _) rfl ?_
              exact ⟨⟨_, rfl⟩, .inr ⟨_, ⟨k + 1, by omega, by rw [wordsF_succ, ← HM.out]⟩, hJx3⟩⟩
          · have h9' : (len : Int) ≤ 8 * (k : Int) + (m : Int) := by omega
            gi_wp2
            refine hR.mono ?_
            rintro e W3 (⟨rfl, hJ3, hk3⟩ | ⟨rfl, hJx3⟩)
            · gi_wp2
              go_roundw
              case rel => exact ⟨k + 1, by omega, by go_num, by rw [wordsF_succ, ← HM.out]; exact hJ3, kpB_t hnx hk3⟩
              case measure => simp [intOf]; omega
            · gi_wp2
              refine bodyPost_ret (results_none rfl _ _ _) rfl ?_
              exact ⟨⟨_, rfl⟩, .inr ⟨_, ⟨k + 1, by omega, by rw [wordsF_succ, ← HM.out]⟩, hJx3⟩⟩
    · obtain rfl : k = (len + 7) / 8 := by omega
      gi_wp2
      go_end0
      exact ⟨⟨_, rfl⟩, .inl ⟨_, rfl, hJs⟩⟩
set_option maxHeartbeats 1000000 in
theorem grpB_in (F : Fence) (n : Nat) (h5 : F.fn 80) (hro : F.round = none) (A : Option Addr) (len cap : Nat) (w : World) :
    CallsIn F n Tryz.prog 80 #[.slice A len cap] w fun e w' => e = .returned (.func (.func 95) #[] #[.pointer (some ⟨w.heap.size, 0, none⟩)]) ∧ w' = w.alloc (.cells #[.slice A len cap] 85) := by
  refine callsIn_of_wp Tryz.func80 rfl h5 ?_ hro
  simp only [Tryz.ntmps80, List.size_toArray, List.length_cons, List.length_nil, Nat.reduceAdd, Nat.reduceSub, Array.replicate_succ, Array.replicate_zero, List.push_toArray, List.append_toArray, List.nil_append, List.cons_append]
  gi_wp2
  go_ret
  exact ⟨rfl, rfl⟩
theorem grpB_stops (F : Fence) (n : Nat) (h7 : F.fn 95) (hro : F.round = none) (hn : 1 ≤ n) (Bs n₀ : Nat) (A : Option Addr) (len cap : Nat) (g : Nat → Int) (hg : Byt g) (hs : len ≤ 140737488351232) (w : World) (hBs : Bs < w.heap.size)
    (hn₀ : n₀ ≤ w.heap.size) (hR0 : Rd w n₀ A len fun k => .int .u8 (g k)) (hc : w.cell? ⟨Bs, 0, none⟩ = some (.slice A len cap)) :
    SeqStopsK F n Tryz.prog 95 #[.pointer (some ⟨Bs, 0, none⟩)] (fun x : Int => #[Value.int .u64 x]) (KpB Bs n₀) (fun ys => ys = wordsF (g) len ((len + 7) / 8))
      (fun pre => ∃ k, k ≤ (len + 7) / 8 ∧ pre = wordsF (g) len k) ((len + 7) / 8) w := fun l J Jx W hW _ _ hY h0 => by
  have hc' := (hW.cell (p := ⟨Bs, 0, none⟩) hBs).trans hc
  exact grpB1_in F n h7 hro hn l Bs n₀ A len cap g hg hs J Jx hY W hc' (hR0.below (hW.mono hn₀)) h0
end Go.Proofs.YtjfofadeahdnnaaGreatDoor
namespace Go.Proofs.YtjfofadeahdnnaaGreatDoor
open Go.RowKit Go.Shelf
attribute [local go_sem] Oper.semAt_some
theorem Tryz.infoInt : (Tryz.prog.info? 3).map (fun i => (i.zero, i.size, i.bytes)) = some (some (.int .i64 0), 1, 8) := by kernel_rfl
def toI (x : Int) : Int := wrap64 x
def bytesL (g : Nat → Int) (len : Nat) : List Int := (wordsF g len ((len + 7) / 8)).map toI ++ [(len : Int)]
theorem gl_getD (zs : List Int) : gl (fun k => zs[k]?.getD 0) zs.length = zs := by
  apply List.ext_getElem
  · simp [gl]
  · intro i h1 h2
    simp [gl, h2]
theorem Rd.of_ints {w : World} {base : Nat} {e : TypeId} {v : Value} {q : IntKind} {n : Nat} {zs : List Int} (h : w.ownsRow base e 1 v n (zs.map (Value.int q))) : ∃ A c, v = .slice A n c ∧ n ≤ c ∧ zs.length = n ∧ Rd w w.heap.size A n fun k => .int q (zs[k]?.getD 0) := by
  obtain ⟨A, c, e1, hc, hr⟩ := Rd.of_own h
  have hl : zs.length = n := by have := h.1; simpa using this
  refine ⟨A, c, e1, hc, hl, hr.congr fun k hk => ?_⟩
  simp [show k < zs.length by omega]
theorem own_ne {w : World} {base size n D : Nat} {e : TypeId} {v : Value} {xs : List Value} {o : Obj} (h : w.ownsRow base e size v n xs) (hD : w.heap[D]? = some o) (ho : o.isCells = false) : some D ≠ v.ownBlock := by
  rcases h.2 with ⟨rfl, _⟩ | ⟨g', cap', cur, rfl, _, hgb, _⟩
  · intro e'; cases e'
  · intro e'
    have : D = g' := by injection e'
    subst this
    rw [hD] at hgb
    cases hgb
    cases ho
set_option maxRecDepth 100000 in
set_option maxHeartbeats 2000000 in
theorem bytes_in (F : Fence) (n : Nat) (h2 : F.fn 63) (h8 : F.fn 80) (h9 : F.fn 95) (h3 : F.fn 45) (h5 : F.fn 66) (h6 : F.fn 67) (h7 : F.fn 81) (hro : F.round = none) (hn : 6 ≤ n) (s : ByteArray) (hs : s.size ≤ 140737488351232) (A : Option Addr) (len cap : Nat) (hlen : len ≤ 140737488351232) (g : Nat → Int) (hg : Byt g) (w : World) (hR : Rd w w.heap.size A len fun k => .int .u8 (g k)) :
    CallsIn F n Tryz.prog 63 #[.string s, .slice A len cap] w fun e W' => e = .returned (.int .u64 (sumI (wordsF (PlainAid.bt s) s.size ((s.size + 7) / 8)) s.size (bytesL g len))) ∧ Below w.heap.size w W' := by
  have h1 : 1 ≤ n := by omega
  obtain ⟨i0, hi, hz0, hz1, hz2⟩ := info_parts Tryz.infoInt
  obtain ⟨MC, hMC, hmk⟩ : ∃ MC : Array Value, MC.size = len / 8 + 2 ∧ ∀ W : World, (Instr.makeSlice 25 (.int .i64 0) (.int .i64 ((len : Int) / 8 + 2))).run Tryz.prog W = .ok (.slice (some ⟨W.heap.size, 0, none⟩) 0 (len / 8 + 2)) (W.alloc (.cells MC 3)) := by
    refine ⟨_, size_madeCells (Value.cells (.int .i64 0)) (len / 8 + 2), fun W => ?_⟩
    have hr := run_make (P := Tryz.prog) W 25 3 i0 _ Tryz.underlying25 hi hz0 .i64 .i64 0 ((len : Int) / 8 + 2) (by omega) (by omega) (by rw [hz2]; omega) (by omega)
    have e : ((len : Int) / 8 + 2).toNat = len / 8 + 2 := by omega
    rw [e, hz1, Nat.mul_one] at hr
    exact hr
  have HMC := Lib.hid hMC
  clear hMC
  refine callsIn_of_wp_marks Tryz.func63 rfl h2 ?_ hro
  simp only [Tryz.ntmps63, List.size_toArray, List.length_cons, List.length_nil, Nat.reduceAdd, Nat.reduceSub, Array.replicate_succ, Array.replicate_zero, List.push_toArray, List.append_toArray, List.nil_append, List.cons_append]
  gi_wp2_with (gi_at_call 80; refine (grpB_in F (n - 1) h8 hro _ _ _ _).mono ?_; rintro e w' ⟨rfl, rfl⟩)
  have bS := Boxed.new (w.alloc (.cells MC 3)) 25 (.slice (some ⟨w.heap.size, 0, none⟩) 0 (len / 8 + 2))
  rw [World.size_alloc] at bS
  have bN := Boxed.new ((w.alloc (.cells MC 3)).alloc (.cells #[.slice (some ⟨w.heap.size, 0, none⟩) 0 (len / 8 + 2)] 25)) 85 (.slice A len cap)
  simp only [World.size_alloc] at bN
  have hO0 := World.ownsRow_made (base := w.heap.size) (e := 3) (size := 1) w MC (len / 8 + 2) (Nat.le_refl _) (by unfold maxLen; omega) (by rw [HMC.out]; omega)
  have hB0 : Below w.heap.size w (((w.alloc (.cells MC 3)).alloc (.cells #[.slice (some ⟨w.heap.size, 0, none⟩) 0 (len / 8 + 2)] 25)).alloc (.cells #[.slice A len cap] 85)) := (((Below.refl _ w).alloc (Nat.le_refl _) _).alloc (by simp) _).alloc (by simp; omega) _
  refine wpIn_rangeFunc_ownG hro h1 (gf := 95) (lb := #[.pointer (some ⟨w.heap.size + 1 + 1, 0, none⟩)]) rfl h9 (enters_of Tryz.func95 (by kernel_rfl) rfl)
    (grpB_stops F (n - 1) h9 hro (by omega) (w.heap.size + 1 + 1) w.heap.size A len cap g hg hlen _ (by simp) (by simp; omega) (hR.below hB0) bN.cell) kpB_t (kpB_b (by simp; omega) (by simp)) (Below.refl _ _) (fun _ => rfl)
    (fun (pre : List Int) W => ((∃ v, Boxed W (w.heap.size + 1) 25 v ∧ W.ownsRow w.heap.size 3 1 v pre.length ((pre.map toI).map (Value.int .i64)) ∧ True) ∧ Boxed W (w.heap.size + 1 + 1) 85 (.slice A len cap)) ∧ Below w.heap.size w W)
    (fun _ _ _ => False)
    (OwnFrom.and (OwnFrom.and (Own.from (holdsRow_own w.heap.size (w.heap.size + 1) 25 3 1 (fun pre : List Int => pre.length) (fun pre : List Int => (pre.map toI).map (Value.int .i64)) (fun _ _ => True)) _) (Own.from (boxed_own _ _ _) _)) (ownFrom_below (Nat.le_refl _) (by simp; omega)))
    (fun _ _ _ _ _ hs _ _ => hs)
    ⟨⟨⟨_, bS.alloc _, (hO0.alloc _).alloc _, trivial⟩, bN⟩, hB0⟩
    (fun x => { tmps := #[.string s, .slice A len cap, undef, undef, .int .u64 0, .pointer (some ⟨w.heap.size + 1, 0, none⟩), .int .u64 x, .slice A len cap, .int .i64 len, .int .i64 (len / 8), .int .i64 (len / 8 + 2), .slice (some ⟨w.heap.size, 0, none⟩) 0 (len / 8 + 2), .slice A len cap, .func (.func 95) #[] #[.pointer (some ⟨w.heap.size + 1 + 1, 0, none⟩)], .int .u64 x, undef, undef, undef, undef, undef, undef, undef, undef, undef, undef, undef, undef], defers := [] }) ?assign ?body ?done ?stop
  case assign =>
    intro l x W K hK
    gi_wp2
    exact hK
  case body =>
    rintro l pre x W ⟨⟨⟨v, hv, hrow, _⟩, hbx⟩, hB⟩ hlt
    have hc := hv.cell
    gi_wp2_with (gi_at_builtin; refine wpListIn_append_own _ rfl _ _ 25 rfl w.heap.size 3 i0 (.int .i64 0) 1 8 Tryz.underlying25 hi hz0 hz1 hz2 rfl (by decide) _ _ _ rfl (hrow.alloc _) ⟨W.heap.size, 0, none⟩ 1 1 [.int .i64 (toI x)] rfl rfl (cell_one_new _ _ _) (by simp [Value.oneCell']) (by unfold maxLen; omega) (by omega) (by have := hB.size; simp; omega) ?_; intro v' w1 hown' hgrow _; obtain ⟨g', cap', rfl⟩ := ownsRow_succ hown'; obtain ⟨hv1, hv2, hr2, hk2, hb2⟩ := hv.appended (by decide) hrow hB.size (by omega) hown' hgrow; have hc1 := hv1.cell; have hf1 := hv1.frozen; have hbx1 := (hbx.alloc _).kept hgrow (hbx.not_row (by decide) hrow))
    have hbx2 := hbx1.other (B' := w.heap.size + 1) (by omega) (.slice (some ⟨g', 0, none⟩) (pre.length + 1) cap')
    refine ⟨hk2.from _, ⟨hb2, ?_⟩, ⟨⟨_, hv2, by simpa using hr2, trivial⟩, ?_⟩, hB.trans hb2⟩
    · exact hbx2.cell.trans hbx.cell.symm
    · exact hbx2
  case done =>
    rintro D ys W hD rfl ⟨⟨⟨v, hv, hrow, _⟩, hbx⟩, hB⟩ hK
    have hc := hv.cell
    rw [wordsF_length] at hrow
    gi_wp2_with (gi_at_builtin; refine wpListIn_append_own _ rfl _ _ 25 rfl w.heap.size 3 i0 (.int .i64 0) 1 8 Tryz.underlying25 hi hz0 hz1 hz2 rfl (by decide) _ _ _ rfl (hrow.alloc _) ⟨W.heap.size, 0, none⟩ 1 1 [.int .i64 (len : Int)] rfl rfl (cell_one_new _ _ _) (by simp [Value.oneCell']) (by unfold maxLen; omega) (by omega) (by have := hB.size; simp; omega) ?_; intro v' w1 hown' hgrow _)
    have hb1 : Below w.heap.size w w1 := (hB.alloc hB.size _).grown hgrow (by have := hB.size; simp; omega) (fun k e => (hrow.lt k e).1)
    have hK1 : w1.heap[D]? = some (.deferred (some [])) := by
      have e1 := (Below.heap_alloc W (.cells #[.int .i64 (len : Int)] 3) D (Array.getElem?_eq_some_iff.1 hK).1).trans hK
      exact (hgrow.block D (Array.getElem?_eq_some_iff.1 e1).1 (own_ne (hrow.alloc _) e1 rfl)).trans e1
    have hlen' : (((wordsF g len ((len + 7) / 8)).map toI).map (Value.int .i64) ++ [.int .i64 (len : Int)]) = (bytesL g len).map (Value.int .i64) := by simp [bytesL]
    rw [hlen'] at hown'
    obtain ⟨A', c', rfl, hc', hl', hR'⟩ := Rd.of_ints hown'
    refine (sum_in F (n - 1) h3 h5 h6 h7 hro (by omega) s hs A' _ c' (by omega) _ w1 hR').mono ?_
    rintro e w2 ⟨rfl, hb2⟩
    have hK2 : w2.heap[D]? = some (.deferred (some [])) := (hb2.block D (Array.getElem?_eq_some_iff.1 hK1).1).trans hK1
    have hgl := gl_getD (bytesL g len)
    rw [hl'] at hgl
    rw [hgl]
    have hb3 : Below w.heap.size w w2 := hb1.trans (hb2.mono hb1.size)
    clear hgl hlen' hown' hR' hgrow
    gi_wp2
    refine ⟨by simp, .inl ⟨_, _, rfl, run_takeDeferred hK2, ?_⟩⟩
    exact ⟨_, results_tmp rfl _ _ _, rfl, hb3.trans (belowK_b (w := w) (Nat.le_refl _) _ D _ _ (by simp at hD; omega) hK2 rfl rfl)⟩
  case stop =>
    rintro D c pre W _ _ h _
    exact h.elim
theorem u64_toI {x : Int} (h : U64 x) : u64 (toI x) = x := by
  obtain ⟨h1, h2⟩ := h
  unfold u64 toI wrap64
  rw [IntKind.wrap_u64]
  omega
set_option maxHeartbeats 1000000 in
theorem pair_in (F : Fence) (n : Nat) (h2 : F.fn 23) (h3 : F.fn 45) (h5 : F.fn 66) (h6 : F.fn 67) (h7 : F.fn 81) (hro : F.round = none) (hn : 5 ≤ n) (a b : Int) (w : World) :
    CallsIn F n Tryz.prog 23 #[.int .u64 a, .int .u64 b] w fun e W' => e = .returned (.int .u64 (sumI (wordsF (PlainAid.bt ⟨#[112, 97, 105, 114]⟩) 4 1) 4 [toI a, toI b])) ∧ Below w.heap.size w W' := by
  have h1 : 1 ≤ n := by omega
  refine callsIn_of_wp Tryz.func23 rfl h2 ?_ hro
  simp only [Tryz.ntmps23, List.size_toArray, List.length_cons, List.length_nil, Nat.reduceAdd, Nat.reduceSub, Array.replicate_succ, Array.replicate_zero, List.push_toArray, List.append_toArray, List.nil_append, List.cons_append]
  gi_wp2_with fail
  have hrow := World.ownsRow_lit (base := w.heap.size) (e := 3) (size := 1) w #[.int .i64 (toI a), .int .i64 (toI b)] 2 (Nat.le_refl _) (by decide) rfl
  obtain ⟨A', c', hv, hc', hl', hR'⟩ := Rd.of_ints (zs := [toI a, toI b]) (q := .i64) hrow
  obtain ⟨rfl, rfl⟩ : some ⟨w.heap.size, 0, none⟩ = A' ∧ 2 = c' := by injection hv with h1 h2 h3; exact ⟨h1, h3⟩
  refine (sum_in F (n - 1) h3 h5 h6 h7 hro (by omega) _ (by decide) _ 2 2 (by omega) _ _ hR').mono ?_
  rintro e w2 ⟨rfl, hb2⟩
  clear hR' hrow hv
  gi_wp2
  go_ret
  exact ⟨rfl, ((Below.refl _ _).alloc (Nat.le_refl _) _).trans (hb2.mono (by simp))⟩
theorem sum_any (s : ByteArray) (hs : s.size ≤ 140737488351232) (A : Option Addr) (len cap : Nat) (hlen : len ≤ 140737488351232) (g : Nat → Int) (w : World) (hR : Rd w w.heap.size A len fun k => .int .i64 (g k)) :
    Calls Tryz.prog 45 #[.string s, .slice A len cap] w fun e W' => e = .returned (.int .u64 (sumI (wordsF (PlainAid.bt s) s.size ((s.size + 7) / 8)) s.size (gl g len))) ∧ Below w.heap.size w W' :=
  callsIn_wide.1 (sum_in Fence.wide 4 trivial trivial trivial trivial rfl (by omega) s hs A len cap hlen g w hR)
theorem bytes_any (s : ByteArray) (hs : s.size ≤ 140737488351232) (A : Option Addr) (len cap : Nat) (hlen : len ≤ 140737488351232) (g : Nat → Int) (hg : Byt g) (w : World) (hR : Rd w w.heap.size A len fun k => .int .u8 (g k)) :
    Calls Tryz.prog 63 #[.string s, .slice A len cap] w fun e W' => e = .returned (.int .u64 (sumI (wordsF (PlainAid.bt s) s.size ((s.size + 7) / 8)) s.size (bytesL g len))) ∧ Below w.heap.size w W' :=
  callsIn_wide.1 (bytes_in Fence.wide 6 trivial trivial trivial trivial trivial trivial trivial rfl (by omega) s hs A len cap hlen g hg w hR)
theorem pair_any (a b : Int) (w : World) :
    Calls Tryz.prog 23 #[.int .u64 a, .int .u64 b] w fun e W' => e = .returned (.int .u64 (sumI (wordsF (PlainAid.bt ⟨#[112, 97, 105, 114]⟩) 4 1) 4 [toI a, toI b])) ∧ Below w.heap.size w W' :=
  callsIn_wide.1 (pair_in Fence.wide 5 trivial trivial trivial trivial trivial rfl (by omega) a b w)
end Go.Proofs.YtjfofadeahdnnaaGreatDoor
