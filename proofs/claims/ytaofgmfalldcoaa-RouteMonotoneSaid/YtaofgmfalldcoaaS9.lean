/- AE contracts: ref29.Firing, SameBools, law29.graph. -/
import Derived.Test.YtaofgmfalldcoaaS8
import Derived.Test.YtaofgmfalldcoaaAe27
namespace Go.AE
open Go.Proofs Go.Proofs.Ytaofgmfalldcoaa
set_option linter.unusedVariables false
set_option linter.unusedSimpArgs false

def fir : Nat → Int → List Bool
  | 0, _ => []
  | n + 1, b => decide (b % 2 = 1) :: fir n (b / 2)
def firing (n : Nat) (bits : Int) : List Bool := fir n (aroundZ bits 256)
def mFiring : Mod
  | [.c (.p (.i .i64 N)), .c (.p (.i .i64 b))] => some ((0 ≤ N ∧ N ≤ 1000000) ∧ inR .i64 b, listV encB 1 (firing N.toNat b))
  | _ => none
def mFiringH : ModH
  | [.c (.p (.i .i64 N)), .c (.p (.i .i64 b))], h => some ((0 ≤ N ∧ N ≤ 1000000) ∧ inR .i64 b, .c (.sl (lenL h) 1 0 N.toNat), snoc (.row 4 1 N.toNat fun e o => .p (rowP encB (firing N.toNat b) e o)) h)
  | _, _ => none
def mSameBools : Mod
  | [.c (.p (.l 1 n f)), .c (.p (.l 1 m g))] => some ((IsL encB 1 (decL decB n f) n f ∧ IsL encB 1 (decL decB m g) m g) ∧ n ≤ 1000000, bV (decide (decL decB n f = decL decB m g)))
  | _ => none
def mGraph : Mod
  | [.a [.p (.i .i64 N), .p (.l 2 n f)]] => some (True, .a [.p (.i .i64 N), .p (.l 2 n f)])
  | _ => none

theorem tF1 (rs : List AR) (n : Nat) (b : Int) : exTs extA (takeL 4 (pcs Try.prog Try.f16)) (st0 Try.f16 [iV (n : Nat), iV b]) (endG (msk 26 [0, 5, 6, 7]) rs) = Tr.rq (inR IntKind.i64 b ∧ Int.ofNat 0 < Int.ofNat 256)
    (Tr.rq (0 ≤ (↑n : Int) ∧ (↑n : Int) ≤ (↑n : Int) ∧ (↑n : Int) * (↑1 : Int) ≤ 140737488355328 ∧ (↑n : Int) ≤ 140737488355328)
      (Tr.done X.normal
        (cst 26 [(0, V.c (C.p (PV.i IntKind.i64 (↑n : Int)))), (5, V.c (C.p (PV.i IntKind.i64 (aroundZ b 256)))), (6, V.c (C.sl 0 1 0 (↑n : Int).toNat)), (7, V.c (C.p (PV.i IntKind.i64 0)))] [AO.row 4 1 (↑n : Int).toNat fun e o => renC [0] (C.p (nth (PV.b false) [PV.b false] o))]))) := by kernel_rfl
theorem tF2 (rs : List AR) (n i : Nat) (b : Int) (out : List Bool) : exTs ext0 (lpB (pcs Try.prog Try.f16) 4) (cst 26 [(0, iV (n : Nat)), (5, iV b), (6, .c (.sl 0 1 0 n)), (7, iV (i : Nat))] [.row 4 1 n (rowC encB out)]) (endG (msk 26 [0, 5, 6, 7]) rs) = bT (decide ((↑i : Int) < (↑n : Int)))
    (Tr.rq (0 ≤ b ∧ Int.ofNat 0 < Int.ofNat 2)
      (Tr.rq (0 ≤ (↑i : Int) ∧ (↑i : Int) < (↑n : Int))
        (Tr.rq ((↑i : Int).toNat + 0 < n)
          (Tr.rq (0 ≤ b ∧ Int.ofNat 0 < Int.ofNat 2 ∧ inR IntKind.i64 (b / 2))
            (Tr.rq (inR IntKind.i64 ((↑i : Int) + 1))
              (Tr.done X.normal
                (cst 26 [(0, V.c (C.p (PV.i IntKind.i64 (↑n : Int)))), (5, V.c (C.p (PV.i IntKind.i64 (b / 2)))), (6, V.c (C.sl 0 1 0 n)), (7, V.c (C.p (PV.i IntKind.i64 ((↑i : Int) + 1))))] [AO.row 4 1 n fun e o => renC [0] (if e = (↑i : Int).toNat + 0 then if 0 ≤ o ∧ o < 1 then nth C.top [C.p (PV.b (b % 2 == 1))] (o - 0) else rowC encB out e o else rowC encB out e o)])))))))
    (Tr.done (X.exit 0)
      (cst 26 [(0, V.c (C.p (PV.i IntKind.i64 (↑n : Int)))), (5, V.c (C.p (PV.i IntKind.i64 b))), (6, V.c (C.sl 0 1 0 n)), (7, V.c (C.p (PV.i IntKind.i64 (↑i : Int))))] [AO.row 4 1 n fun e o => renC [0] (rowC encB out e o)])) := by kernel_rfl
theorem tF3 (n i : Nat) (b : Int) (out : List Bool) : exTs ext0 (dropL 5 (pcs Try.prog Try.f16)) (cst 26 [(0, iV (n : Nat)), (5, iV b), (6, .c (.sl 0 1 0 n)), (7, iV (i : Nat))] [.row 4 1 n (rowC encB out)]) (endG [] (resOf Try.prog Try.f16)) = Tr.rq (0 + n ≤ n ∧ ∀ (e o : Nat), e < n → o < 1 → isF (rowC encB out (e + 0) o) = true) (Tr.done X.ret (St.mk [V.c (C.p (PV.l 1 n fun e o => unP (rowC encB out (e + 0) o)))] [])) := by kernel_rfl
theorem tF4 (n i : Nat) (b : Int) (out : List Bool) : exTs ext0 (takeL 1 (dropL 5 (pcs Try.prog Try.f16))) (cst 26 [(0, iV (n : Nat)), (5, iV b), (6, .c (.sl 0 1 0 n)), (7, iV (i : Nat))] [.row 4 1 n (rowC encB out)]) (endG (msk 26 [4]) []) = Tr.done X.normal
    (cst 26 [(4, V.c (C.sl 0 1 0 n))] [AO.row 4 1 n fun e o => renC [0] (rowC encB out e o)]) := by kernel_rfl
theorem tSB1 (A B : List Bool) : exTs ext0 (takeL 4 (pcs Try.prog Try.f17)) (st0 Try.f17 [listV encB 1 A, listV encB 1 B]) (endG (msk 26 [0, 1, 5]) (resOf Try.prog Try.f17)) = bT ((↑A.length : Int) != (↑B.length : Int)) (Tr.done X.ret (St.mk [V.c (C.p (PV.b false))] []))
    (Tr.done X.normal
      (cst 26 [(0, V.c (C.p (PV.l 1 A.length (rowP encB A)))), (1, V.c (C.p (PV.l 1 B.length (rowP encB B)))), (5, V.c (C.p (PV.i IntKind.i64 0)))] [])) := by kernel_rfl
theorem tSB2 (A B : List Bool) (i : Nat) : exTs ext0 (lpB (pcs Try.prog Try.f17) 4) (cst 26 [(0, listV encB 1 A), (1, listV encB 1 B), (5, iV (i : Nat))] []) (endG (msk 26 [0, 1, 5]) (resOf Try.prog Try.f17)) = bT (decide ((↑i : Int) < (↑A.length : Int)))
    (Tr.rq (0 ≤ (↑i : Int) ∧ (↑i : Int) < (↑A.length : Int))
      (Tr.rq (0 ≤ (↑i : Int) ∧ (↑i : Int) < (↑B.length : Int))
        (bT (!A.getD (↑i : Int).toNat default == B.getD (↑i : Int).toNat default) (Tr.done X.ret (St.mk [V.c (C.p (PV.b false))] []))
          (Tr.rq (inR IntKind.i64 ((↑i : Int) + 1))
            (Tr.done X.normal
              (cst 26 [(0, V.c (C.p (PV.l 1 A.length (rowP encB A)))), (1, V.c (C.p (PV.l 1 B.length (rowP encB B)))), (5, V.c (C.p (PV.i IntKind.i64 ((↑i : Int) + 1))))] []))))))
    (Tr.done (X.exit 0)
      (cst 26 [(0, V.c (C.p (PV.l 1 A.length (rowP encB A)))), (1, V.c (C.p (PV.l 1 B.length (rowP encB B)))), (5, V.c (C.p (PV.i IntKind.i64 (↑i : Int))))] [])) := by kernel_rfl
theorem tSB3 (A B : List Bool) (i : Nat) : exTs ext0 (dropL 5 (pcs Try.prog Try.f17)) (cst 26 [(0, listV encB 1 A), (1, listV encB 1 B), (5, iV (i : Nat))] []) (endG [] (resOf Try.prog Try.f17)) = Tr.done X.ret (St.mk [V.c (C.p (PV.b true))] []) := by kernel_rfl
theorem tG1 (N : Int) (n : Nat) (f : Nat → Nat → PV) : exTs ext0 (pcs Try.prog Try.f13) (st0 Try.f13 [.a [.p (.i .i64 N), .p (.l 2 n f)]]) (endG [] (resOf Try.prog Try.f13)) = Tr.done X.ret (St.mk [V.a [C.p (PV.i IntKind.i64 N), C.p (PV.l 2 n f)]] []) := by kernel_rfl
theorem fir_length : ∀ (n : Nat) (b : Int), (fir n b).length = n
  | 0, _ => rfl
  | n + 1, b => by simp [fir, fir_length n]
theorem firing_length (n : Nat) (b : Int) : (firing n b).length = n := fir_length n _
section
variable {G : Nat → Option Obj}
set_option maxRecDepth 100000 in
theorem firCore (rs : List AR) (v : V) (Q : X → St → Prop) (n : Nat) (b0 : Int) (hn : n ≤ 1000000) (hb0 : inR .i64 b0) (r : List ACode) (hr : r = dropL 5 (pcs Try.prog Try.f16) ∨ r = takeL 1 (dropL 5 (pcs Try.prog Try.f16)))
    (h : ∀ (b : Int) (st : St), st = (fun (i : Nat) (out : List Bool) => cst 26 [(0, iV (n : Nat)), (5, iV b), (6, .c (.sl 0 1 0 n)), (7, iV (i : Nat))] [.row 4 1 n (rowC encB out)]) n (firing n b0) → ExS Try.prog G rs v r st Q) : ExS Try.prog G rs v (appA (takeL 5 (pcs Try.prog Try.f16)) r) (st0 Try.f16 [iV (n : Nat), iV b0]) Q := by
  have ht : takeL 4 (appA (takeL 5 (pcs Try.prog Try.f16)) r) = takeL 4 (pcs Try.prog Try.f16) := by rcases hr with rfl | rfl <;> kernel_rfl
  refine ExS.evG extA_sound 4 ((congrArg (fun l => exTs extA l (st0 Try.f16 [iV (n : Nat), iV b0]) (endG (msk 26 [0, 5, 6, 7]) rs)) ht).trans (tF1 rs n b0)) ?_
  simp only [holds_rq, holds_leaf, kf_normal, ofn_lt]
  have hr0 := (⟨Int.emod_nonneg _ (by omega), Int.emod_lt_of_pos _ (by omega)⟩ : 0 ≤ aroundZ b0 256 ∧ aroundZ b0 256 < 256)
  refine ⟨⟨hb0, by omega⟩, by omega, ⟨?_⟩⟩
  refine ExS.loop' (b := inr (inr (nth .skip (pcs Try.prog Try.f16) 4))) (r := r) (id := 0) (by rcases hr with rfl | rfl <;> kernel_rfl) (σ := Nat × Int × List Bool)
    (fun (i, b, out) => cst 26 [(0, iV (n : Nat)), (5, iV b), (6, .c (.sl 0 1 0 n)), (7, iV (i : Nat))] [.row 4 1 n (rowC encB out)]) (fun (i, b, out) => i ≤ n ∧ out.length = n ∧ (0 ≤ b ∧ b < 256) ∧ (firing n b0).drop i = fir (n - i) b ∧ ∀ k, k < i → out.getD k false = (firing n b0).getD k false) (fun (i, _, _) => n - i) (0, aroundZ b0 256, List.replicate n false) ⟨Nat.zero_le _, by simp, hr0, rfl, fun k hk => absurd hk (Nat.not_lt_zero k)⟩
    (weak_cst ⟨⟨rfl, rfl, rfl, fun e o he ho => rep_row he ho⟩, trivial⟩) ?_
  rintro ⟨i, b, out⟩ ⟨hi, ho, hb, hd, hI⟩ Q1 q1n q1e -
  refine ExS.evH ext0_sound (tF2 rs n i b out) ?_
  simp only [holds_bT, holds_rq, holds_leaf, kf_normal, kf_exit, decide_eq_true_eq, decide_eq_false_iff_not, inR, ofn_lt, show (↑i : Int).toNat = i from rfl, show ∀ x : Nat, x + 0 = x from fun _ => rfl]
  refine ⟨fun h1 => ⟨by omega, by omega, by omega, by omega, by omega, ⟨?_⟩⟩, fun h1 => ⟨q1e _ ?_⟩⟩
  · have hin : i < n := by omega
    have hd' : (firing n b0).drop i = decide (b % 2 = 1) :: fir (n - (i + 1)) (b / 2) := by
      rw [hd, show n - i = (n - (i + 1)) + 1 by omega]; rfl
    have hat : (firing n b0).getD i false = decide (b % 2 = 1) := by
      have := congrArg (fun l => l.getD 0 false) hd'
      simpa using this
    refine q1n (i + 1, b / 2, out.set i (b % 2 == 1)) _ ⟨by omega, by simp [ho], by omega, ?_, fun k hk => ?_⟩ (by simp only; omega) (weak_cst (by exact ⟨⟨rfl, rfl, rfl, fun e o he ho' => set1 (ρ := [0]) ho hin rfl he ho'⟩, trivial⟩))
    · have := congrArg (fun l => l.drop 1) hd'
      simpa [List.drop_drop, Nat.add_comm] using this
    · rw [getD_set_x (by omega)]
      by_cases e : k = i
      · subst e; rw [if_pos rfl, hat]; rfl
      · rw [if_neg e]; exact hI k (by omega)
  · obtain rfl : i = n := by omega
    have : out = firing i b0 := bools_ext (by rw [ho, firing_length]) fun k hk => by rw [hI k (by omega)]
    subst this
    exact h b _ rfl
set_option maxRecDepth 100000 in
theorem okFiring : ModOK Try.prog G 16 mFiring := by
  intro args p v hm hp h
  unfold mFiring at hm
  split at hm; rotate_left; · cases hm
  rename_i N b
  obtain ⟨rfl, rfl⟩ := some_pair hm
  obtain ⟨hN, hb⟩ := hp
  obtain ⟨n, rfl⟩ : ∃ n : Nat, N = n := ⟨N.toNat, by omega⟩
  refine fn_S Try.func16 (by kernel_rfl) rfl ?_ h
  refine firCore (r := dropL 5 (pcs Try.prog Try.f16)) _ _ _ n b (by omega) hb (.inl rfl) ?_
  rintro b' _ rfl
  refine ExS.evH ext0_sound (tF3 n n b' (firing n b)) ?_
  simp only [holds_rq, holds_leaf, kf_ret']
  refine ⟨⟨by omega, fun _ _ _ _ => rfl⟩, ⟨?_⟩⟩
  refine VLe.p ?_
  unfold listP
  rw [firing_length]
  exact PLe.refl _
set_option maxRecDepth 100000 in
theorem okFiringH : ModHOK Try.prog G 16 mFiringH := by
  intro args h p v h' hm hp
  unfold mFiringH at hm
  split at hm; rotate_left; · cases hm
  rename_i N b
  obtain ⟨rfl, rfl, rfl⟩ := some_three hm
  obtain ⟨hN, hb⟩ := hp
  obtain ⟨n, rfl⟩ : ∃ n : Nat, N = n := ⟨N.toNat, by omega⟩
  refine fn_rowS (r := 4) (pre := takeL 6 (pcs Try.prog Try.f16)) Try.func16 (by kernel_rfl) (by kernel_rfl) (by kernel_rfl) rfl ?_ h
  refine firCore (r := takeL 1 (dropL 5 (pcs Try.prog Try.f16))) _ _ _ n b (by omega) hb (.inr rfl) ?_
  rintro b' _ rfl
  refine ExS.evH ext0_sound (tF4 n n b' (firing n b)) ?_
  simp only [holds_leaf, kf_normal]
  exact ⟨trivial, by simp, 0, _, rfl, rfl, fun e o he ho => rfl⟩
set_option maxRecDepth 100000 in
theorem okSameBools : ModOK Try.prog G 17 mSameBools := by
  intro args p v hm hp h
  unfold mSameBools at hm
  split at hm; rotate_left; · cases hm
  rename_i n f m g
  obtain ⟨rfl, rfl⟩ := some_pair hm
  obtain ⟨⟨hA, hB⟩, hn⟩ := hp
  have hlen : (decL decB n f).length ≤ 1000000 := by rw [hA.1]; exact hn
  generalize decL decB n f = A at hA hlen
  generalize decL decB m g = B at hB
  refine FnS.args (args' := [listV encB 1 A, listV encB 1 B]) ?_ (.cons hA.le (.cons hB.le .nil))
  clear hA hB hn
  refine fn_S Try.func17 (by kernel_rfl) rfl ?_ h
  refine ExS.evG ext0_sound 4 (tSB1 A B) ?_
  have no : A ≠ B → VLe (V.c (C.p (PV.b false))) (bV (decide (A = B))) := fun h => by rw [decide_eq_false h]; exact VLe.refl _
  simp only [holds_bT, holds_leaf, kf_normal, kf_ret', bne_iff_ne, bne_eq_false_iff_eq]
  refine ⟨fun c1 => ⟨no (fun e => c1 (by rw [e]))⟩, fun c1 => ⟨?_⟩⟩
  have c1 : A.length = B.length := by omega
  refine ExS.loop' (l := dropL 4 (pcs Try.prog Try.f17)) (b := inr (inr (nth .skip (pcs Try.prog Try.f17) 4))) (r := dropL 5 (pcs Try.prog Try.f17)) (id := 0) (by kernel_rfl) (σ := Nat)
    (fun i => cst 26 [(0, listV encB 1 A), (1, listV encB 1 B), (5, iV (i : Nat))] []) (fun i => i ≤ A.length ∧ ∀ k, k < i → A.getD k false = B.getD k false) (fun i => A.length - i) 0 ⟨Nat.zero_le _, fun k hk => absurd hk (Nat.not_lt_zero k)⟩ (weak_of_eq (by kernel_rfl)) ?_
  rintro i ⟨hi, hI⟩ Q1 q1n q1e -
  refine ExS.evH ext0_sound (tSB2 A B i) ?_
  simp only [holds_bT, holds_rq, holds_leaf, kf_normal, kf_exit, kf_ret', decide_eq_true_eq, decide_eq_false_iff_not, inR, Bool.not_eq_true', Bool.not_eq_false', beq_iff_eq, beq_eq_false_iff_ne, show (↑i : Int).toNat = i from rfl, show (default : Bool) = false from rfl]
  refine ⟨fun h1 => ⟨by omega, by omega, fun c2 => ⟨no (fun e => c2 (by rw [e]))⟩, fun c2 => ⟨by omega, ⟨q1n (i + 1) _ ⟨by omega, fun k hk => ?_⟩ (by omega) (weak_of_eq (by kernel_rfl))⟩⟩⟩, fun h1 => ⟨q1e _ ?_⟩⟩
  · by_cases e : k = i
    · subst e; exact c2
    · exact hI k (by omega)
  · obtain rfl : i = A.length := by omega
    refine ExS.evH ext0_sound (tSB3 A B A.length) ?_
    simp only [holds_leaf, kf_ret']
    have : A = B := bools_ext c1 fun k hk => by rw [hI k hk]
    refine ⟨?_⟩
    rw [decide_eq_true this]
    exact VLe.refl _
theorem okGraph : ModOK Try.prog G 13 mGraph := by
  intro args p v hm hp h
  unfold mGraph at hm
  split at hm; rotate_left; · cases hm
  rename_i N n f
  obtain ⟨rfl, rfl⟩ := some_pair hm
  refine fn_S Try.func13 (by kernel_rfl) rfl ?_ h
  refine ExS.evH ext0_sound (tG1 N n f) ?_
  simp only [holds_leaf, kf_ret']
  exact ⟨VLe.refl _⟩
end
end Go.AE
