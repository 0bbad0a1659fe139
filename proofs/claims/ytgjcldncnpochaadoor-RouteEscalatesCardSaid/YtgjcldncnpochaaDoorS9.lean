/- AE contracts: ref29.Firing, SameBools, law29.graph. -/
import Derived.Test.YtgjcldncnpochaaDoorS8
import Derived.Test.YtgjcldncnpochaaDoorAe27
namespace Go.AE
open Go.Proofs Go.Proofs.YtgjcldncnpochaaDoor
set_option linter.unusedVariables false
set_option linter.unusedSimpArgs false
def fir : Nat → Int → List Bool
  | 0, _ => []
  | n + 1, b => decide (b % 2 = 1) :: fir n (b / 2)
def firing (n : Nat) (bits : Int) : List Bool := fir n (aroundZ bits 256)
def mFiring : Mod
  | [.c (.p (.i .i64 N)), .c (.p (.i .i64 b))] => some ((0 ≤ N ∧ N ≤ 1000000) ∧ inR .i64 b, listV encB 1 (firing N.toNat b))
  | _ => none
def mFiringH : ModH
  | [.c (.p (.i .i64 N)), .c (.p (.i .i64 b))], h => some ((0 ≤ N ∧ N ≤ 1000000) ∧ inR .i64 b, .c (.sl (lenL h) 1 0 N.toNat), snoc (.row 4 1 N.toNat fun e o => .p (rowP encB (firing N.toNat b) e o)) h)
  | _, _ => none
def mGraph : Mod
  | [.a [.p (.i .i64 N), .p (.l 2 n f)]] => some (True, .a [.p (.i .i64 N), .p (.l 2 n f)])
  | _ => none

theorem tF1 (rs : List AR) (n : Nat) (b : Int) : exTs extA (takeL 4 (pcs Tryd.prog Tryd.f9)) (st0 Tryd.f9 [iV (n : Nat), iV b]) (endG (msk 26 [0, 5, 6, 7]) rs) = Tr.rq (inR IntKind.i64 b ∧ Int.ofNat 0 < Int.ofNat 256)
    (Tr.rq (0 ≤ (↑n : Int) ∧ (↑n : Int) ≤ (↑n : Int) ∧ (↑n : Int) * (↑1 : Int) ≤ 140737488355328 ∧ (↑n : Int) ≤ 140737488355328)
      (Tr.done X.normal
        (cst 26 [(0, V.c (C.p (PV.i IntKind.i64 (↑n : Int)))), (5, V.c (C.p (PV.i IntKind.i64 (aroundZ b 256)))), (6, V.c (C.sl 0 1 0 (↑n : Int).toNat)), (7, V.c (C.p (PV.i IntKind.i64 0)))] [AO.row 4 1 (↑n : Int).toNat fun e o => renC [0] (C.p (nth (PV.b false) [PV.b false] o))]))) := by kernel_rfl
theorem tF2 (rs : List AR) (n i : Nat) (b : Int) (out : List Bool) : exTs ext0 (lpB (pcs Tryd.prog Tryd.f9) 4) (cst 26 [(0, iV (n : Nat)), (5, iV b), (6, .c (.sl 0 1 0 n)), (7, iV (i : Nat))] [.row 4 1 n (rowC encB out)]) (endG (msk 26 [0, 5, 6, 7]) rs) = bT (decide ((↑i : Int) < (↑n : Int)))
    (Tr.rq (0 ≤ b ∧ Int.ofNat 0 < Int.ofNat 2)
      (Tr.rq (0 ≤ (↑i : Int) ∧ (↑i : Int) < (↑n : Int))
        (Tr.rq ((↑i : Int).toNat + 0 < n)
          (Tr.rq (0 ≤ b ∧ Int.ofNat 0 < Int.ofNat 2 ∧ inR IntKind.i64 (b / 2))
            (Tr.rq (inR IntKind.i64 ((↑i : Int) + 1))
              (Tr.done X.normal
                (cst 26 [(0, V.c (C.p (PV.i IntKind.i64 (↑n : Int)))), (5, V.c (C.p (PV.i IntKind.i64 (b / 2)))), (6, V.c (C.sl 0 1 0 n)), (7, V.c (C.p (PV.i IntKind.i64 ((↑i : Int) + 1))))] [AO.row 4 1 n fun e o => renC [0] (if e = (↑i : Int).toNat + 0 then if 0 ≤ o ∧ o < 1 then nth C.top [C.p (PV.b (b % 2 == 1))] (o - 0) else rowC encB out e o else rowC encB out e o)])))))))
    (Tr.done (X.exit 0)
      (cst 26 [(0, V.c (C.p (PV.i IntKind.i64 (↑n : Int)))), (5, V.c (C.p (PV.i IntKind.i64 b))), (6, V.c (C.sl 0 1 0 n)), (7, V.c (C.p (PV.i IntKind.i64 (↑i : Int))))] [AO.row 4 1 n fun e o => renC [0] (rowC encB out e o)])) := by kernel_rfl
theorem tF3 (n i : Nat) (b : Int) (out : List Bool) : exTs ext0 (dropL 5 (pcs Tryd.prog Tryd.f9)) (cst 26 [(0, iV (n : Nat)), (5, iV b), (6, .c (.sl 0 1 0 n)), (7, iV (i : Nat))] [.row 4 1 n (rowC encB out)]) (endG [] (resOf Tryd.prog Tryd.f9)) = Tr.rq (0 + n ≤ n ∧ ∀ (e o : Nat), e < n → o < 1 → isF (rowC encB out (e + 0) o) = true) (Tr.done X.ret (St.mk [V.c (C.p (PV.l 1 n fun e o => unP (rowC encB out (e + 0) o)))] [])) := by kernel_rfl
theorem tF4 (n i : Nat) (b : Int) (out : List Bool) : exTs ext0 (takeL 1 (dropL 5 (pcs Tryd.prog Tryd.f9))) (cst 26 [(0, iV (n : Nat)), (5, iV b), (6, .c (.sl 0 1 0 n)), (7, iV (i : Nat))] [.row 4 1 n (rowC encB out)]) (endG (msk 26 [4]) []) = Tr.done X.normal
    (cst 26 [(4, V.c (C.sl 0 1 0 n))] [AO.row 4 1 n fun e o => renC [0] (rowC encB out e o)]) := by kernel_rfl
theorem tG1 (N : Int) (n : Nat) (f : Nat → Nat → PV) : exTs ext0 (pcs Tryd.prog Tryd.f6) (st0 Tryd.f6 [.a [.p (.i .i64 N), .p (.l 2 n f)]]) (endG [] (resOf Tryd.prog Tryd.f6)) = Tr.done X.ret (St.mk [V.a [C.p (PV.i IntKind.i64 N), C.p (PV.l 2 n f)]] []) := by kernel_rfl
theorem fir_length : ∀ (n : Nat) (b : Int), (fir n b).length = n
  | 0, _ => rfl
  | n + 1, b => by simp [fir, fir_length n]
theorem firing_length (n : Nat) (b : Int) : (firing n b).length = n := fir_length n _
section
variable {G : Nat → Option Obj}
set_option maxRecDepth 100000 in
theorem firCore (rs : List AR) (v : V) (Q : X → St → Prop) (n : Nat) (b0 : Int) (hn : n ≤ 1000000) (hb0 : inR .i64 b0) (r : List ACode) (hr : r = dropL 5 (pcs Tryd.prog Tryd.f9) ∨ r = takeL 1 (dropL 5 (pcs Tryd.prog Tryd.f9)))
    (h : ∀ (b : Int) (st : St), st = (fun (i : Nat) (out : List Bool) => cst 26 [(0, iV (n : Nat)), (5, iV b), (6, .c (.sl 0 1 0 n)), (7, iV (i : Nat))] [.row 4 1 n (rowC encB out)]) n (firing n b0) → ExS Tryd.prog G rs v r st Q) : ExS Tryd.prog G rs v (appA (takeL 5 (pcs Tryd.prog Tryd.f9)) r) (st0 Tryd.f9 [iV (n : Nat), iV b0]) Q := by
  have ht : takeL 4 (appA (takeL 5 (pcs Tryd.prog Tryd.f9)) r) = takeL 4 (pcs Tryd.prog Tryd.f9) := by rcases hr with rfl | rfl <;> kernel_rfl
  refine ExS.evG extA_sound 4 ((congrArg (fun l => exTs extA l (st0 Tryd.f9 [iV (n : Nat), iV b0]) (endG (msk 26 [0, 5, 6, 7]) rs)) ht).trans (tF1 rs n b0)) ?_
  simp only [holds_rq, holds_leaf, kf_normal, ofn_lt]
  have hr0 := (⟨Int.emod_nonneg _ (by omega), Int.emod_lt_of_pos _ (by omega)⟩ : 0 ≤ aroundZ b0 256 ∧ aroundZ b0 256 < 256)
  refine ⟨⟨hb0, by omega⟩, by omega, ⟨?_⟩⟩
  refine ExS.loop' (b := inr (inr (nth .skip (pcs Tryd.prog Tryd.f9) 4))) (r := r) (id := 0) (by rcases hr with rfl | rfl <;> kernel_rfl) (σ := Nat × Int × List Bool)
    (fun (i, b, out) => cst 26 [(0, iV (n : Nat)), (5, iV b), (6, .c (.sl 0 1 0 n)), (7, iV (i : Nat))] [.row 4 1 n (rowC encB out)]) (fun (i, b, out) => i ≤ n ∧ out.length = n ∧ (0 ≤ b ∧ b < 256) ∧ (firing n b0).drop i = fir (n - i) b ∧ ∀ k, k < i → out.getD k false = (firing n b0).getD k false) (fun (i, _, _) => n - i) (0, aroundZ b0 256, List.replicate n false) ⟨Nat.zero_le _, by simp, hr0, rfl, fun k hk => absurd hk (Nat.not_lt_zero k)⟩
    (weak_cst ⟨⟨rfl, rfl, rfl, fun e o he ho => rep_row he ho⟩, trivial⟩) ?_
  rintro ⟨i, b, out⟩ ⟨hi, ho, hb, hd, hI⟩ Q1 q1n q1e -
  refine ExS.evH ext0_sound (tF2 rs n i b out) ?_
  simp only [holds_bT, holds_rq, holds_leaf, kf_normal, kf_exit, decide_eq_true_eq, decide_eq_false_iff_not, inR, ofn_lt, show (↑i : Int).toNat = i from rfl, show ∀ x : Nat, x + 0 = x from fun _ => rfl]
  refine ⟨fun h1 => ⟨by omega, by omega, by omega, by omega, by omega, ⟨?_⟩⟩, fun h1 => ⟨q1e _ ?_⟩⟩
  · have hin : i < n := by omega
    have hd' : (firing n b0).drop i = decide (b % 2 = 1) :: fir (n - (i + 1)) (b / 2) := by
      rw [hd, show n - i = (n - (i + 1)) + 1 by omega]; rfl
    have hat : (firing n b0).getD i false = decide (b % 2 = 1) := by
      have := congrArg (fun l => l.getD 0 false) hd'
      simpa using this
    refine q1n (i + 1, b / 2, out.set i (b % 2 == 1)) _ ⟨by omega, by simp [ho], by omega, ?_, fun k hk => ?_⟩ (by simp only; omega) (weak_cst (by exact ⟨⟨rfl, rfl, rfl, fun e o he ho' => set1 (ρ := [0]) ho hin rfl he ho'⟩, trivial⟩))
    · have := congrArg (fun l => l.drop 1) hd'
      simpa [List.drop_drop, Nat.add_comm] using this
    · rw [getD_set_x (by omega)]
      by_cases e : k = i
      · subst e; rw [if_pos rfl, hat]; rfl
      · rw [if_neg e]; exact hI k (by omega)
  · obtain rfl : i = n := by omega
    have : out = firing i b0 := bools_ext (by rw [ho, firing_length]) fun k hk => by rw [hI k (by omega)]
    subst this
    exact h b _ rfl
set_option maxRecDepth 100000 in
theorem okFiring : ModOK Tryd.prog G 9 mFiring := by
  intro args p v hm hp h
  unfold mFiring at hm
  split at hm; rotate_left; · cases hm
  rename_i N b
  obtain ⟨rfl, rfl⟩ := some_pair hm
  obtain ⟨hN, hb⟩ := hp
  obtain ⟨n, rfl⟩ : ∃ n : Nat, N = n := ⟨N.toNat, by omega⟩
  refine fn_S Tryd.func9 (by kernel_rfl) rfl ?_ h
  refine firCore (r := dropL 5 (pcs Tryd.prog Tryd.f9)) _ _ _ n b (by omega) hb (.inl rfl) ?_
  rintro b' _ rfl
  refine ExS.evH ext0_sound (tF3 n n b' (firing n b)) ?_
  simp only [holds_rq, holds_leaf, kf_ret']
  refine ⟨⟨by omega, fun _ _ _ _ => rfl⟩, ⟨?_⟩⟩
  refine VLe.p ?_
  unfold listP
  rw [firing_length]
  exact PLe.refl _
set_option maxRecDepth 100000 in
theorem okFiringH : ModHOK Tryd.prog G 9 mFiringH := by
  intro args h p v h' hm hp
  unfold mFiringH at hm
  split at hm; rotate_left; · cases hm
  rename_i N b
  obtain ⟨rfl, rfl, rfl⟩ := some_three hm
  obtain ⟨hN, hb⟩ := hp
  obtain ⟨n, rfl⟩ : ∃ n : Nat, N = n := ⟨N.toNat, by omega⟩
  refine fn_rowS (r := 4) (pre := takeL 6 (pcs Tryd.prog Tryd.f9)) Tryd.func9 (by kernel_rfl) (by kernel_rfl) (by kernel_rfl) rfl ?_ h
  refine firCore (r := takeL 1 (dropL 5 (pcs Tryd.prog Tryd.f9))) _ _ _ n b (by omega) hb (.inr rfl) ?_
  rintro b' _ rfl
  refine ExS.evH ext0_sound (tF4 n n b' (firing n b)) ?_
  simp only [holds_leaf, kf_normal]
  exact ⟨trivial, by simp, 0, _, rfl, rfl, fun e o he ho => rfl⟩
theorem okGraph : ModOK Tryd.prog G 6 mGraph := by
  intro args p v hm hp h
  unfold mGraph at hm
  split at hm; rotate_left; · cases hm
  rename_i N n f
  obtain ⟨rfl, rfl⟩ := some_pair hm
  refine fn_S Tryd.func6 (by kernel_rfl) rfl ?_ h
  refine ExS.evH ext0_sound (tG1 N n f) ?_
  simp only [holds_leaf, kf_ret']
  exact ⟨VLe.refl _⟩
end
end Go.AE
