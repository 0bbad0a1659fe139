/- AE, part 24: pure functions called with lists that may still be written. -/
import Derived.Test.YtfjihbmehhccoaaAeC
namespace Go.AE
set_option linter.unusedVariables false
set_option linter.unusedSimpArgs false
open Go.RowKit

section
variable {P : Program} {G : Nat → Option Obj}
/-- What a value says is also said by a plain value, where every block may be read. -/
def VLeH (G : Nat → Option Obj) (h : List AO) (x v : V) : Prop := ∀ β R w u, HS G β R w h → VR β R w x u → VR Bt.nil (fun b => b < w.heap.size) w v u
inductive VLesH (G : Nat → Option Obj) (h : List AO) : List V → List V → Prop
  | nil : VLesH G h [] []
  | cons {x v : V} {xs vs : List V} : VLeH G h x v → VLesH G h xs vs → VLesH G h (x :: xs) (v :: vs)
theorem VLesH.all {h : List AO} {β : Bt} {R : Nat → Prop} {w : World} (hh : HS G β R w h) {xs vs : List V} (hl : VLesH G h xs vs) : ∀ {us : List Value}, All2 (VR β R w) xs us → All2 (VR Bt.nil (fun b => b < w.heap.size) w) vs us := by
  induction hl with
  | nil => intro us hu; cases us <;> exact hu
  | cons h1 _ ih =>
    intro us hu
    cases us with
    | nil => exact hu.elim
    | cons u us => exact ⟨h1 _ _ _ _ hh hu.1, ih hu.2⟩
/-- Values that hold no block. -/
def Scal (v : V) : Prop := ∀ β R w β' R' w' u, VR β R w v u → VR β' R' w' v u
theorem fn_mut {f : FuncId} {args args' : List V} {h : List AO} {v : V} (hl : VLesH G h args args') (hf : FnS P G f args' [] fun x h' => x = v ∧ h' = []) (hv : Scal v) : FnS P G f args h fun x h' => x = v ∧ h' = h := by
  intro β R w vs ha hh
  refine (hf Bt.nil (fun b => b < w.heap.size) w vs (hl.all hh ha) ⟨(fun _ _ h => by cases h), (fun _ _ _ _ _ h => by cases h), (fun _ _ _ h => by cases h), (fun _ _ _ h => by cases h), (fun _ h => h), (fun _ _ _ h => by cases h), fun b o hb => ⟨hh.rlt b (hh.gl b o hb).1, (hh.gl b o hb).2⟩, (fun _ _ h => by cases h)⟩).mono ?_
  rintro e w' ⟨u, β1, R1, x, h1, rfl, ⟨rfl, _⟩, h2, _, h3, _⟩
  have hb : Below w.heap.size w w' := ⟨h3.os, h3.tape, h3.output, h3.size, fun b hb => h3.rs b hb⟩
  obtain ⟨c1, c2⟩ := hh.below hb
  exact ⟨u, β, newR R w w', x, h, rfl, ⟨rfl, rfl⟩, hv _ _ _ _ _ _ _ h2, c1, c2, fun _ _ => rfl⟩
theorem fr_below {R : Nat → Prop} {w w' : World} (hr : ∀ b, R b → b < w.heap.size) (hb : Below w.heap.size w w') : Fr Bt.nil R w Bt.nil R w' :=
  ⟨hb.os, hb.tape, hb.output, hb.size, fun b h => hb.block b (hr b h), fun b h _ => hb.block b h, (fun _ h => absurd h Bt.nil_has), fun _ h => .inl h⟩
/-- One new block, seen from outside. -/
def b1 (g N : Nat) : Bt := ⟨fun i => if i = 0 then some (g, N) else none, fun _ => none⟩
theorem fr_row {R : Nat → Prop} {w w' : World} (hr : ∀ b, R b → b < w.heap.size) (hb : Below w.heap.size w w') {g N : Nat} (hg : w.heap.size ≤ g) : Fr Bt.nil R w (b1 g N) R w' :=
  ⟨hb.os, hb.tape, hb.output, hb.size, fun b h => hb.block b (hr b h), fun b h _ => hb.block b h, (fun b h => by
    rcases h with ⟨i, o, h⟩ | ⟨ad, h⟩
    · have h : (if i = 0 then some (g, N) else none) = some (b, o) := h
      split at h
      · injection h with h; injection h with h1 h2; exact .inr (h1 ▸ hg)
      · cases h
    · cases h), fun _ h => .inl h⟩
theorem hs_row {β : Bt} {R : Nat → Prop} {w w' : World} {h : List AO} (hh : HS G β R w h) (hb : Below w.heap.size w w') {g N : Nat} (hg : w.heap.size ≤ g) (hlt : g < w'.heap.size) {x : AO} (hob : OR (b1 g N) R w' x g N) : HS G (b1 g N) R w' [x] := by
  have key : ∀ {i : Nat} {y : Nat × Nat}, b1 g N i = some y → i = 0 ∧ y = (g, N) := by
    intro i y hy
    have hy : (if i = 0 then some (g, N) else none) = some y := hy
    split at hy
    · rename_i h0; injection hy with hy; exact ⟨h0, hy.symm⟩
    · cases hy
  refine ⟨?_, ?_, ?_, ?_, ?_, ?_, ?_, (fun _ _ h => by cases h)⟩
  · intro i y hy; rw [(key hy).1]; exact Nat.zero_lt_one
  · intro i j b o o' hi hj _ _; rw [(key hi).1, (key hj).1]
  · intro i b o hi _ hr
    have := (key hi).2
    injection this with h1 h2
    have := hh.rlt b hr
    omega
  · intro i b o hi
    have := (key hi).2
    injection this with h1 h2
    omega
  · intro b hr; exact Nat.lt_of_lt_of_le (hh.rlt b hr) hb.size
  · intro i b o hi
    obtain ⟨h1, h2⟩ := key hi
    injection h2 with h2 h3
    subst h1; subst h2; subst h3
    exact hob
  · intro b o hgb
    obtain ⟨h1, h2⟩ := hh.gl b o hgb
    exact ⟨h1, (hb.block b (hh.rlt b h1)).trans h2⟩
end
end Go.AE
