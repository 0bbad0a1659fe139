/- AE contracts: methods of a ledger in general; pages.New. -/
import Derived.Test.YtfjihbmehhccoaaP5
import Derived.Test.YtfjihbmehhccoaaAeD
namespace Go.AE
set_option linter.unusedVariables false
set_option linter.unusedSimpArgs false
open Go.Proofs Go.Proofs.Ytfjihbmehhccoaa Go.RowKit
def gs0 : Value → Nat × (Nat → Nat → PV) := fun _ => (0, fun _ _ => .b false)
def ld0 : Ld := ⟨[], fun _ => none, gs0⟩
noncomputable def mNew : ModH
  | [], h => some (True, .c (.ptr (lenL h) 0), outH [] [] [] h (ldH ld0 []))
  | _, _ => none
theorem tN (h : List AO) : exTs ext0 (pcs Try.prog Try.f20) (stIn Try.f20 [] [] [] [] h) (endM [] [] (resOf Try.prog Try.f20)) = Tr.done X.ret (St.mk [V.c (C.ptr 0 0)] [AO.cells 86 [C.p (PV.z (Value.slice none 0 0)), C.mp 1, C.mp 2], AO.mapb (okK Try.prog 81) fun x => none, AO.mapl (okK Try.prog 79) 3 1 (fun x => (0, fun x x_1 => PV.b false)) none]) := by kernel_rfl
section
variable {G : Nat → Option Obj}
set_option maxRecDepth 100000 in
theorem led_fn {f : FuncId} {fn : Func} (hf : (Try.prog).funcs[f]? = some fn) (hok : okF Try.prog fn = true) {args vs : List V} {D D' : Ld} {rest : List AO} (H : ∀ b, ExZ Try.prog G (Zm [0] (resOf Try.prog fn) fun s => WeakS G s ⟨[.c (.ptr 0 0)] ++ vs, ldE D' b⟩) (pcs Try.prog fn) (stIn fn [0, 1, 2, 3] [0] [b] (.c (.ptr 0 0) :: args) (ldH D rest)) fun e s => e = .normal ∧ Zm [0] (resOf Try.prog fn) (fun s => WeakS G s ⟨[.c (.ptr 0 0)] ++ vs, ldE D' b⟩) s) : FnS Try.prog G f (.c (.ptr 0 0) :: args) (ldH D rest) fun x h' => x = oneW (outVs [1] [0] (ldH D rest).length vs) ∧ h' = outH [0, 1, 2, 3] [0] [1] (ldH D rest) (ldE D' 0) := by
  refine fun β R w us ha hh => (fn_mem (ρ := [0, 1, 2, 3]) (ids := [0]) (ps := [0]) (pns := [0]) (js := [1]) (sl := [.c (.ptr 0 0)]) (vs := vs) (hE := fun bs => ldE D' (nth 0 bs 0)) hf hok (by kernel_rfl) (by kernel_rfl) (by simp) (by simp) rfl rfl rfl (fun i pn h => ?_) (fun bs hb i pn j b h1 h2 h3 => ?_) (fun bs hb => ?_) β R w us ha hh).mono ?_
  · cases i with
    | zero => obtain rfl : 0 = pn := by simpa using h
              exact ⟨0, by simp⟩
    | succ i => simp at h
  · cases i with
    | zero =>
      obtain rfl : 0 = pn := by simpa using h1
      obtain rfl : 1 = j := by simpa using h2
      cases bs with
      | nil => simp at hb
      | cons b0 bs =>
        obtain rfl : b0 = b := by simpa using h3
        exact ⟨rfl, rfl⟩
    | succ i => simp at h1
  · obtain ⟨b, rfl⟩ : ∃ b, bs = [b] := by
      cases bs with
      | nil => simp at hb
      | cons b0 bs => cases bs with
        | nil => exact ⟨b0, rfl⟩
        | cons _ _ => simp at hb
    exact H b
  · rintro e w' ⟨u, β', R', x, h', rfl, ⟨bs, hb, hx, hh'⟩, hr⟩
    exact ⟨u, β', R', x, h', rfl, ⟨hx, hh'.trans (out_pin _ _ _ _)⟩, hr⟩
set_option maxRecDepth 100000 in
theorem okNew : ModHOK Try.prog G 20 mNew := by
  intro args h p v h' hm hp
  unfold mNew at hm
  split at hm; rotate_left; · cases hm
  obtain ⟨rfl, rfl, rfl⟩ := some_three hm
  refine fun β R w us ha hh => (fn_mem (ρ := []) (ids := []) (ps := []) (pns := []) (js := []) (sl := []) (vs := [.c (.ptr 0 0)]) (hE := fun bs => ldH ld0 []) Try.func20 (by kernel_rfl) rfl rfl (by simp) (by simp) rfl rfl rfl (fun i pn h => by simp at h) (fun bs hb i pn j b h1 h2 h3 => by simp at h1) (fun bs hb => ?_) β R w us ha hh).mono ?_
  · obtain rfl : bs = [] := by simpa using hb
    refine ExZ.evH ext0_sound (tN h) ?_
    simp only [holds_bT, holds_rq, holds_leaf, kz_ret]
    have key : WeakS G (St.mk [V.c (C.ptr 0 0)] [AO.cells 86 [C.p (PV.z (Value.slice none 0 0)), C.mp 1, C.mp 2], AO.mapb (okK Try.prog 81) fun x => none, AO.mapl (okK Try.prog 79) 3 1 (fun x => (0, fun x x_1 => PV.b false)) none]) ⟨[] ++ [.c (.ptr 0 0)], ldH ld0 []⟩ := by
      refine (weak_nilC 31 7 (rowC encPg []) (id := 0) (k := 0) (t0 := 86) (vs := [C.p (PV.z (Value.slice none 0 0)), C.mp 1, C.mp 2]) (by rfl) (by rfl)).trans ?_
      exact (weak_gc (msk 1 [0]) _).trans (weak_of_eq (by kernel_rfl))
    exact ⟨key⟩
  · rintro e w' ⟨u, β', R', x, h', rfl, ⟨bs, hb, hx, hh'⟩, hr⟩
    refine ⟨u, β', R', x, h', rfl, ⟨hx.trans ?_, hh'⟩, hr⟩
    rw [lenL_eq]; rfl
end
end Go.AE
