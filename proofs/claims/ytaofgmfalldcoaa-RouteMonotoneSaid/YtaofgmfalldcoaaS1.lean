/- AE contracts: ref29.covered. -/
import Derived.Test.YtaofgmfalldcoaaR2N
namespace Go.AE
set_option linter.unusedVariables false
set_option linter.unusedSimpArgs false
open Go.Proofs Go.Proofs.Ytaofgmfalldcoaa

/-- A shift: person, from, until. -/
abbrev Sh := ByteArray × Int × Int
def enc3 (x : Sh) (o : Nat) : PV := match o with
  | 0 => .s x.1
  | 1 => .i .i64 x.2.1
  | _ => .i .i64 x.2.2
def dec3 (f : Nat → PV) : Sh := (strOf (f 0), intOfP (f 1), intOfP (f 2))
def covB (L : List Sh) (t : Int) : Bool := L.any fun x => decide (x.2.1 ≤ t) && decide (t < x.2.2)
def mCovered : Mod
  | [.c (.p (.l 3 n f)), .c (.p (.i .i64 t))] => some (IsL enc3 3 (decL dec3 n f) n f ∧ n ≤ 1000000, bV (covB (decL dec3 n f) t))
  | _ => none

theorem tC1 (L : List Sh) (t : Int) : exTs ext0 (takeL 2 (pcs Try.prog Try.f34)) (st0 Try.f34 [listV enc3 3 L, iV t]) (endG (msk 28 [0, 1, 5]) (resOf Try.prog Try.f34)) = Tr.done X.normal
    (cst 28 [(0, V.c (C.p (PV.l 3 L.length (rowP enc3 L)))), (1, V.c (C.p (PV.i IntKind.i64 t))), (5, V.c (C.p (PV.i IntKind.i64 0)))] []) := by kernel_rfl
theorem tC2 (L : List Sh) (t : Int) (i : Nat) : exTs ext0 (lpB (pcs Try.prog Try.f34) 2) (cst 28 [(0, listV enc3 3 L), (1, iV t), (5, iV (i : Nat))] []) (endG (msk 28 [0, 1, 5]) (resOf Try.prog Try.f34)) = bT (decide ((↑i : Int) < (↑L.length : Int)))
    (Tr.rq (0 ≤ (↑i : Int) ∧ (↑i : Int) < (↑L.length : Int))
      (bT (decide ((L.getD (↑i : Int).toNat default).snd.fst ≤ t))
        (Tr.rq (0 ≤ (↑i : Int) ∧ (↑i : Int) < (↑L.length : Int))
          (bT (decide (t < (L.getD (↑i : Int).toNat default).snd.snd)) (Tr.done X.ret (St.mk [V.c (C.p (PV.b true))] []))
            (Tr.rq (inR IntKind.i64 ((↑i : Int) + 1))
              (Tr.done X.normal
                (cst 28 [(0, V.c (C.p (PV.l 3 L.length (rowP enc3 L)))), (1, V.c (C.p (PV.i IntKind.i64 t))), (5, V.c (C.p (PV.i IntKind.i64 ((↑i : Int) + 1))))] [])))))
        (Tr.rq (inR IntKind.i64 ((↑i : Int) + 1))
          (Tr.done X.normal
            (cst 28 [(0, V.c (C.p (PV.l 3 L.length (rowP enc3 L)))), (1, V.c (C.p (PV.i IntKind.i64 t))), (5, V.c (C.p (PV.i IntKind.i64 ((↑i : Int) + 1))))] [])))))
    (Tr.done (X.exit 0)
      (cst 28 [(0, V.c (C.p (PV.l 3 L.length (rowP enc3 L)))), (1, V.c (C.p (PV.i IntKind.i64 t))), (5, V.c (C.p (PV.i IntKind.i64 (↑i : Int))))] [])) := by kernel_rfl
theorem tC3 (L : List Sh) (t : Int) (i : Nat) : exTs ext0 (dropL 3 (pcs Try.prog Try.f34)) (cst 28 [(0, listV enc3 3 L), (1, iV t), (5, iV (i : Nat))] []) (endG [] (resOf Try.prog Try.f34)) = Tr.done X.ret (St.mk [V.c (C.p (PV.b false))] []) := by kernel_rfl
theorem dec3_row (L : List Sh) : decL dec3 L.length (rowP enc3 L) = L := decL_row (fun _ => rfl) L
theorem some_pair {p q : Prop} {v u : V} (h : some (p, v) = some (q, u)) : p = q ∧ v = u := by
  injection h with h
  injection h with h1 h2
  exact ⟨h1, h2⟩
section
variable {G : Nat → Option Obj}
set_option maxRecDepth 100000 in
theorem okCovered : ModOK Try.prog G 34 mCovered := by
  intro args p v hm hp h
  unfold mCovered at hm
  split at hm; rotate_left; · cases hm
  rename_i n f t
  obtain ⟨rfl, rfl⟩ := some_pair hm
  obtain ⟨hL, hn⟩ := hp
  have hlen : (decL dec3 n f).length ≤ 1000000 := by rw [hL.1]; exact hn
  generalize decL dec3 n f = L at hL hlen
  refine FnS.args (args' := [listV enc3 3 L, iV t]) ?_ (.cons hL.le (.cons (.refl _) .nil))
  clear hL
  refine fn_S Try.func34 (by kernel_rfl) rfl ?_ h
  refine ExS.evG ext0_sound 2 (tC1 L t) ?_
  simp only [holds_done, kf_normal]
  refine ExS.loop' (l := dropL 2 (pcs Try.prog Try.f34)) (b := inr (inr (nth .skip (pcs Try.prog Try.f34) 2))) (r := dropL 3 (pcs Try.prog Try.f34)) (id := 0) (by kernel_rfl) (σ := Nat)
    (fun i => cst 28 [(0, listV enc3 3 L), (1, iV t), (5, iV (i : Nat))] []) (fun i => i ≤ L.length ∧ ∀ k, k < i → ¬ ((L.getD k default).2.1 ≤ t ∧ t < (L.getD k default).2.2)) (fun i => L.length - i) 0 ⟨Nat.zero_le _, fun k hk => absurd hk (Nat.not_lt_zero k)⟩ (weak_of_eq (by kernel_rfl)) ?_
  rintro i ⟨hi, hno⟩ Q q1n q1e -
  refine ExS.evH ext0_sound (tC2 L t i) ?_
  have good : i < L.length → ¬ ((L.getD i default).2.1 ≤ t ∧ t < (L.getD i default).2.2) → Leaf (Q .normal ((fun i : Nat => cst 28 [(0, listV enc3 3 L), (1, iV t), (5, iV (i : Nat))] []) (i + 1))) := fun h1 h2 => ⟨q1n (i + 1) _ ⟨by omega, fun k hk => by
    by_cases e : k = i
    · subst e; exact h2
    · exact hno k (by omega)⟩ (by omega) (WeakS.refl _)⟩
  have yes : i < L.length → ((L.getD i default).2.1 ≤ t ∧ t < (L.getD i default).2.2) → VLe (V.c (C.p (PV.b true))) (bV (covB L t)) := fun h1 h2 => by
    have : covB L t = true := by
      unfold covB
      rw [List.any_eq_true]
      refine ⟨L[i], List.getElem_mem h1, ?_⟩
      simpa [h1] using h2
    rw [this]; exact VLe.refl _
  have after : ¬ i < L.length → VLe (V.c (C.p (PV.b false))) (bV (covB L t)) := fun h1 => by
    have : covB L t = false := by
      unfold covB
      rw [List.any_eq_false]
      intro x hx
      obtain ⟨k, hk, rfl⟩ := List.getElem_of_mem hx
      have := hno k (by omega)
      simpa [hk] using this
    rw [this]; exact VLe.refl _
  have hin : i < L.length → inR .i64 ((↑i : Int) + 1) := fun h => by simp only [inR]; omega
  simp only [holds_bT, holds_rq, holds_leaf, kf_ret', kf_normal, kf_exit, decide_eq_true_eq, decide_eq_false_iff_not, show (↑i : Int).toNat = i from rfl]
  refine ⟨fun h1 => ⟨⟨by omega, h1⟩, fun c1 => ⟨⟨by omega, h1⟩, fun c2 => ⟨yes (by omega) ⟨c1, c2⟩⟩, fun c2 => ⟨hin (by omega), good (by omega) (fun h => c2 h.2)⟩⟩, fun c1 => ⟨hin (by omega), good (by omega) (fun h => c1 h.1)⟩⟩, fun h1 => ⟨q1e _ ?_⟩⟩
  refine ExS.evH ext0_sound (tC3 L t i) ?_
  simp only [holds_done, kf_ret']
  exact after (by omega)
end
end Go.AE
