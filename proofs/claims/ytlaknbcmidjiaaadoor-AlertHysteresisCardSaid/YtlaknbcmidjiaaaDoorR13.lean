/- AE contracts: ref28.Hysteresis. -/
import Derived.Test.YtlaknbcmidjiaaaDoorR12
import Derived.Test.YtlaknbcmidjiaaaDoorAe25
namespace Go.AE
open Go.Proofs Go.Proofs.YtlaknbcmidjiaaaDoor Go.RowKit
set_option linter.unusedVariables false

theorem tH14' (n m N : Nat) (F H : Nat → Int) (S A : Nat → Bool) (a b x y : Nat) : exTs ext0 (dropL 3 (lpB (flat (inr (nth .skip (lpB (pcs Tryd.prog Tryd.f26) 16) 2))) 1)) (cst 159 [(0, iV1 n F), (1, iV1 m H), (5, iV (N : Nat)), (6, .c (.p (.z (.slice none 0 0)))), (8, .c (.sl 0 1 0 N)), (9, .c (.sl 1 1 0 N)), (11, iV (a : Nat)), (13, iV (b : Nat)), (15, iV (x : Nat)), (16, iV (y : Nat))] [rowB N S, rowB N A]) (endG (msk 159 [0, 1, 5, 6, 8, 9, 11, 13, 15, 16]) [AR.new 4]) = Tr.rq (inR IntKind.i64 ((↑y : Int) + 1))
    (Tr.done X.normal
      (cst 159 [(0, V.c (C.p (PV.l 1 n fun e x => PV.i IntKind.i64 (F e)))), (1, V.c (C.p (PV.l 1 m fun e x => PV.i IntKind.i64 (H e)))), (5, V.c (C.p (PV.i IntKind.i64 (↑N : Int)))), (6, V.c (C.p (PV.z (Value.slice none 0 0)))), (8, V.c (C.sl 0 1 0 N)), (9, V.c (C.sl 1 1 0 N)), (11, V.c (C.p (PV.i IntKind.i64 (↑a : Int)))), (13, V.c (C.p (PV.i IntKind.i64 (↑b : Int)))), (15, V.c (C.p (PV.i IntKind.i64 (↑x : Int)))), (16, V.c (C.p (PV.i IntKind.i64 ((↑y : Int) + 1))))] [AO.row 4 1 N fun e o => renC [0, 1] (C.p (PV.b (S e))), AO.row 4 1 N fun e o => renC [0, 1] (C.p (PV.b (A e)))])) := by kernel_rfl
section
variable {G : Nat → Option Obj}
theorem rowB_eq {N : Nat} {S : Nat → Bool} {f : Nat → Nat → C} (h : ∀ e, e < N → f e 0 = .p (.b (S e))) : OEq (.row 4 1 N f) (rowB N S) := ⟨rfl, rfl, rfl, fun e o he ho => by
  obtain rfl : o = 0 := by omega
  exact h e he⟩
theorem weakAB {l : List (Nat × V)} {N : Nat} {S A : Nat → Bool} {f g : Nat → Nat → C} (h1 : ∀ e, e < N → f e 0 = .p (.b (S e))) (h2 : ∀ e, e < N → g e 0 = .p (.b (A e))) : WeakS G (cst 159 l [.row 4 1 N f, .row 4 1 N g]) (cst 159 l [rowB N S, rowB N A]) :=
  weak_cst ⟨rowB_eq h1, rowB_eq h2, trivial⟩
theorem app1I {out : List Int} {x : Int} {ρ : List Nat} {e o : Nat} (he : e < out.length + 1) (ho : o < 1) : renC ρ (appF out.length (rowC encI out) (fun e o => nth C.top [C.p (PV.i IntKind.i64 x)] ((e + 0) * 1 + o)) e o) = rowC encI (out ++ [x]) e o :=
  app1' (sz := 1) rfl (fun o ho => by obtain rfl : o = 0 := by omega
                                      rfl) he ho
theorem oneI (x : Int) : ∀ (e o : Nat), e < 1 → o < 1 → oneC (nth C.top [C.p (PV.i IntKind.i64 x)] ((e + 0) * 1 + o)) = true := by
  intro e o he ho
  obtain rfl : e = 0 := by omega
  obtain rfl : o = 0 := by omega
  rfl
set_option maxRecDepth 100000 in
/-- The last loop. -/
theorem hyst7 {n m N : Nat} {F H : Nat → Int} (hNn : N ≤ n) (hNm : N ≤ m) (hN5 : N ≤ 5) {S A : Nat → Bool} (hS : ∀ i, i < N → S i = highF F H (i + 1)) (hA : ∀ i, i < N → A i = lowF F H (i + 1)) :
    ExS Tryd.prog G [AR.new 4] (listV encI 1 (gl (vdF F H) N)) (dropL 18 (pcs Tryd.prog Tryd.f26)) ((fun (out : List Int) (i : Nat) => cst 159 [(0, iV1 n F), (1, iV1 m H), (5, iV (N : Nat)), (6, .c (.sl 0 1 0 out.length)), (8, .c (.sl 1 1 0 N)), (9, .c (.sl 2 1 0 N)), (19, iV (i : Nat))] [.row 3 1 out.length (rowC encI out), rowB N S, rowB N A]) [] 0) (fun _ _ => False) := by
  refine ExS.loop' (l := dropL 18 (pcs Tryd.prog Tryd.f26)) (b := inr (inr (nth .skip (pcs Tryd.prog Tryd.f26) 18))) (r := dropL 19 (pcs Tryd.prog Tryd.f26)) (id := 14) (by kernel_rfl) (σ := Nat × List Int)
    (fun (i, out) => cst 159 [(0, iV1 n F), (1, iV1 m H), (5, iV (N : Nat)), (6, .c (.sl 0 1 0 out.length)), (8, .c (.sl 1 1 0 N)), (9, .c (.sl 2 1 0 N)), (19, iV (i : Nat))] [.row 3 1 out.length (rowC encI out), rowB N S, rowB N A]) (fun (i, out) => i ≤ N ∧ out = gl (vdF F H) i) (fun (i, _) => N - i) (0, []) ⟨Nat.zero_le _, rfl⟩ (weak_of_eq (by kernel_rfl)) ?_
  rintro ⟨i, out⟩ ⟨hi, hout⟩ Q q1n q1e -
  have hlen : out.length = i := by rw [hout, gl_length]
  refine ExS.evH ext0_sound (tH17 n m N F H S A out i) ?_
  have good : ∀ x : Int, i < N → x = vdF F H i → Q .normal (cst 159 [(0, V.c (C.p (PV.l 1 n fun e x => PV.i IntKind.i64 (F e)))), (1, V.c (C.p (PV.l 1 m fun e x => PV.i IntKind.i64 (H e)))), (5, V.c (C.p (PV.i IntKind.i64 (↑N : Int)))), (6, V.c (C.sl 0 1 0 (out.length + 1))), (8, V.c (C.sl 1 1 0 N)), (9, V.c (C.sl 2 1 0 N)), (19, V.c (C.p (PV.i IntKind.i64 ((↑i : Int) + 1))))] [AO.row 3 1 (out.length + 1) fun e o => renC [4, 1, 2] (appF out.length (rowC encI out) (fun e o => nth C.top [C.p (PV.i IntKind.i64 x)] ((e + 0) * 1 + o)) e o), AO.row 4 1 N fun e o => renC [4, 1, 2] (C.p (PV.b (S e))), AO.row 4 1 N fun e o => renC [4, 1, 2] (C.p (PV.b (A e)))]) := by
    intro x h1 hx
    refine q1n (i + 1, out ++ [x]) _ ⟨by omega, by rw [gl_succ, ← hout, hx]⟩ (by simp only; omega) ?_
    show WeakS G _ ((fun i out k => cst 159 [(0, iV1 n F), (1, iV1 m H), (5, iV (N : Nat)), (6, .c (.sl 0 1 0 k)), (8, .c (.sl 1 1 0 N)), (9, .c (.sl 2 1 0 N)), (19, iV (i : Nat))] [.row 3 1 k (rowC encI out), rowB N S, rowB N A]) (i + 1) (out ++ [x]) (out ++ [x]).length)
    rw [show (out ++ [x]).length = out.length + 1 by simp]
    refine weak_cst ?_
    exact ⟨⟨rfl, rfl, rfl, fun e o he ho => app1I he ho⟩, rowB_eq fun _ _ => rfl, rowB_eq fun _ _ => rfl, trivial⟩
  have v2 : i < N → A i = true → (2 : Int) = vdF F H i := fun h1 h2 => by unfold vdF; rw [← hA i h1, if_pos h2]
  have v1 : i < N → A i = false → S i = true → (1 : Int) = vdF F H i := fun h1 h2 h3 => by unfold vdF; rw [← hA i h1, ← hS i h1, h2, h3]; rfl
  have v0 : i < N → A i = false → S i = false → (0 : Int) = vdF F H i := fun h1 h2 h3 => by unfold vdF; rw [← hA i h1, ← hS i h1, h2, h3]; rfl
  simp only [holds_bT, holds_rq, holds_leaf, kf_normal, kf_exit, decide_eq_true_eq, decide_eq_false_iff_not, inR, show (↑i : Int).toNat + 0 = i from rfl]
  refine ⟨fun h1 => ⟨⟨by omega, h1⟩, by omega, fun h2 => ⟨trivial, Nat.le_refl _, ⟨by omega, by omega, oneI _⟩, by omega, ⟨good 2 (by omega) (v2 (by omega) h2)⟩⟩, fun h2 => ⟨⟨by omega, h1⟩, by omega, fun h3 => ⟨trivial, Nat.le_refl _, ⟨by omega, by omega, oneI _⟩, by omega, ⟨good 1 (by omega) (v1 (by omega) h2 h3)⟩⟩, fun h3 => ⟨trivial, Nat.le_refl _, ⟨by omega, by omega, oneI _⟩, by omega, ⟨good 0 (by omega) (v0 (by omega) h2 h3)⟩⟩⟩⟩, fun h1 => ⟨q1e _ ?_⟩⟩
  obtain rfl : i = N := by omega
  refine ExS.evH ext0_sound (tH18 n m i F H S A out i) ?_
  simp only [holds_rq, holds_leaf, kf_ret']
  refine ⟨⟨by omega, fun _ _ _ _ => rfl⟩, ⟨?_⟩⟩
  rw [← hout]
  exact VLe.refl _
set_option maxRecDepth 100000 in
/-- The innermost loop. -/
theorem hyst6 {n m N : Nat} {F H : Nat → Int} (hNn : N ≤ n) (hNm : N ≤ m) (hN5 : N ≤ 5) {S A O : Nat → Bool} {a b x y : Nat} {v : V} {Q : X → St → Prop} {r : List ACode}
    (hq : ExS Tryd.prog G [AR.new 4] v r ((fun (S A : Nat → Bool) => cst 159 [(0, iV1 n F), (1, iV1 m H), (5, iV (N : Nat)), (6, .c (.p (.z (.slice none 0 0)))), (8, .c (.sl 0 1 0 N)), (9, .c (.sl 1 1 0 N)), (11, iV (a : Nat)), (13, iV (b : Nat)), (15, iV (x : Nat)), (16, iV (y : Nat))] [rowB N S, rowB N A]) (fun e => S e || O e) (fun e => A e && O e)) Q) :
    ExS Tryd.prog G [AR.new 4] v (.block 12 (.loop (inr (inr (nth .skip (flat (inr (nth .skip (lpB (flat (inr (nth .skip (lpB (pcs Tryd.prog Tryd.f26) 16) 2))) 1) 2))) 2)))) :: r) ((fun i : Nat => cst 159 [(0, iV1 n F), (1, iV1 m H), (5, iV (N : Nat)), (6, .c (.p (.z (.slice none 0 0)))), (8, .c (.sl 0 1 0 N)), (9, .c (.sl 1 1 0 N)), (11, iV (a : Nat)), (13, iV (b : Nat)), (15, iV (x : Nat)), (16, iV (y : Nat)), (17, bV1 N O), (18, iV (i : Nat))] [rowB N S, rowB N A]) 0) Q := by
  refine ExS.loop' (b := inr (inr (nth .skip (flat (inr (nth .skip (lpB (flat (inr (nth .skip (lpB (pcs Tryd.prog Tryd.f26) 16) 2))) 1) 2))) 2))) (r := r) (id := 12) rfl (σ := Nat)
    (fun i => (fun (S A : Nat → Bool) => cst 159 [(0, iV1 n F), (1, iV1 m H), (5, iV (N : Nat)), (6, .c (.p (.z (.slice none 0 0)))), (8, .c (.sl 0 1 0 N)), (9, .c (.sl 1 1 0 N)), (11, iV (a : Nat)), (13, iV (b : Nat)), (15, iV (x : Nat)), (16, iV (y : Nat)), (17, bV1 N O), (18, iV (i : Nat))] [rowB N S, rowB N A]) (fun e => if e < i then S e || O e else S e) (fun e => if e < i then A e && O e else A e)) (fun i => i ≤ N) (fun i => N - i) 0 (Nat.zero_le _)
    (weakAB (fun e _ => by simp) (fun e _ => by simp)) ?_
  intro i hi Q' q1n q1e _
  refine ExS.evH ext0_sound (tH13 n m N F H (fun e => if e < i then S e || O e else S e) (fun e => if e < i then A e && O e else A e) O a b x y i) ?_
  have e1 : (if i < i then S i || O i else S i) = S i := if_neg (Nat.lt_irrefl i)
  have e2 : (if i < i then A i && O i else A i) = A i := if_neg (Nat.lt_irrefl i)
  have good : ∀ p q : Bool, p = (S i || O i) → q = (A i && O i) → i < N → Q' .normal (cst 159 [(0, V.c (C.p (PV.l 1 n fun e x => PV.i IntKind.i64 (F e)))), (1, V.c (C.p (PV.l 1 m fun e x => PV.i IntKind.i64 (H e)))), (5, V.c (C.p (PV.i IntKind.i64 (↑N : Int)))), (6, V.c (C.p (PV.z (Value.slice none 0 0)))), (8, V.c (C.sl 0 1 0 N)), (9, V.c (C.sl 1 1 0 N)), (11, V.c (C.p (PV.i IntKind.i64 (↑a : Int)))), (13, V.c (C.p (PV.i IntKind.i64 (↑b : Int)))), (15, V.c (C.p (PV.i IntKind.i64 (↑x : Int)))), (16, V.c (C.p (PV.i IntKind.i64 (↑y : Int)))), (17, V.c (C.p (PV.l 1 N fun e x => PV.b (O e)))), (18, V.c (C.p (PV.i IntKind.i64 ((↑i : Int) + 1))))]
      [AO.row 4 1 N fun e o => renC [0, 1] (if e = (↑i : Int).toNat + 0 then if 0 ≤ o ∧ o < 1 then nth C.top [C.p (PV.b p)] (o - 0) else C.p (PV.b (if e < i then S e || O e else S e)) else C.p (PV.b (if e < i then S e || O e else S e))), AO.row 4 1 N fun e o => renC [0, 1] (if e = (↑i : Int).toNat + 0 then if 0 ≤ o ∧ o < 1 then nth C.top [C.p (PV.b q)] (o - 0) else C.p (PV.b (if e < i then A e && O e else A e)) else C.p (PV.b (if e < i then A e && O e else A e)))]) := by
    intro p q hp hq' h1
    refine q1n (i + 1) _ (by omega) (by omega) (weakAB (fun e he => ?_) (fun e he => ?_))
    · by_cases h : e = i
      · subst h; simp [hp, nth, renC]
      · have h5 : (e < i + 1) = (e < i) := by apply propext; omega
        simp [h, renC, h5]
    · by_cases h : e = i
      · subst h; simp [hq', nth, renC]
      · have h5 : (e < i + 1) = (e < i) := by apply propext; omega
        simp [h, renC, h5]
  simp only [holds_bT, holds_rq, holds_leaf, kf_normal, kf_exit, decide_eq_true_eq, decide_eq_false_iff_not, show (↑i : Int).toNat + 0 = i from rfl, show (↑i : Int).toNat = i from rfl, e1, e2]
  simp only [show ∀ j : Nat, (↑j : Int).toNat + 0 = j from fun _ => rfl, show ∀ j : Nat, (↑j : Int).toNat = j from fun _ => rfl] at good
  have hin : i < N → inR .i64 ((↑i : Int) + 1) := fun h => by simp only [inR]; omega
  refine ⟨fun h1 => ?_, fun h1 => ⟨q1e _ (ExS.pre ?_ hq)⟩⟩
  · have h1' : i < N := by omega
    have h0 : (0 : Int) ≤ ↑i := by omega
    refine ⟨⟨h0, h1⟩, h1', fun hs => ⟨⟨h0, h1⟩, h1', ⟨h0, h1⟩, h1', fun ha => ⟨⟨h0, h1⟩, ⟨h0, h1⟩, h1', hin h1', ⟨good _ _ (by rw [show S i = _ from e1.symm.trans hs]; rfl) (by rw [show A i = _ from e2.symm.trans ha]; rfl) h1'⟩⟩, fun ha => ⟨⟨h0, h1⟩, h1', hin h1', ⟨good _ _ (by rw [show S i = _ from e1.symm.trans hs]; rfl) (by rw [show A i = _ from e2.symm.trans ha]; rfl) h1'⟩⟩⟩,
      fun hs => ⟨⟨h0, h1⟩, ⟨h0, h1⟩, h1', ⟨h0, h1⟩, h1', fun ha => ⟨⟨h0, h1⟩, ⟨h0, h1⟩, h1', hin h1', ⟨good _ _ (by rw [show S i = _ from e1.symm.trans hs]; rfl) (by rw [show A i = _ from e2.symm.trans ha]; rfl) h1'⟩⟩, fun ha => ⟨⟨h0, h1⟩, h1', hin h1', ⟨good _ _ (by rw [show S i = _ from e1.symm.trans hs]; rfl) (by rw [show A i = _ from e2.symm.trans ha]; rfl) h1'⟩⟩⟩⟩
  · obtain rfl : i = N := by omega
    refine WeakS.trans (weakAB (S := fun e => S e || O e) (A := fun e => A e && O e) (fun e he => by simp [he, renC]) (fun e he => by simp [he, renC])) ?_
    exact (weak_gc (msk 159 [0, 1, 5, 6, 8, 9, 11, 13, 15, 16]) _).trans (weak_of_eq (by kernel_rfl))
set_option maxRecDepth 100000 in
/-- The loop over the choices for clear. -/
theorem hyst5 {n m N : Nat} {F H : Nat → Int} (hNn : N ≤ n) (hNm : N ≤ m) (hN5 : N ≤ 5) {S A : Nat → Bool} {a b x : Nat} (hx : x ≤ 32) (hb : b ≤ 32) {v : V} {Q : X → St → Prop}
    (hq : ∃ st2, WeakS G ((fun (S A : Nat → Bool) (y : Nat) => cst 159 [(0, iV1 n F), (1, iV1 m H), (5, iV (N : Nat)), (6, .c (.p (.z (.slice none 0 0)))), (8, .c (.sl 0 1 0 N)), (9, .c (.sl 1 1 0 N)), (11, iV (a : Nat)), (13, iV (b : Nat)), (15, iV (x : Nat)), (16, iV (y : Nat))] [rowB N S, rowB N A]) (syF F H S x b) (ayF F H A x b) b) st2 ∧ Q .normal st2) :
    ExS Tryd.prog G [AR.new 4] v (dropL 1 (flat (inr (nth .skip (lpB (pcs Tryd.prog Tryd.f26) 16) 2)))) ((fun y : Nat => cst 159 [(0, iV1 n F), (1, iV1 m H), (5, iV (N : Nat)), (6, .c (.p (.z (.slice none 0 0)))), (8, .c (.sl 0 1 0 N)), (9, .c (.sl 1 1 0 N)), (11, iV (a : Nat)), (13, iV (b : Nat)), (15, iV (x : Nat)), (16, iV (y : Nat))] [rowB N S, rowB N A]) 0) Q := by
  refine ExS.loop' (l := dropL 1 (flat (inr (nth .skip (lpB (pcs Tryd.prog Tryd.f26) 16) 2)))) (b := inr (inr (nth .skip (flat (inr (nth .skip (lpB (pcs Tryd.prog Tryd.f26) 16) 2))) 1))) (r := []) (id := 10) (by kernel_rfl) (σ := Nat)
    (fun y => (fun (S A : Nat → Bool) => cst 159 [(0, iV1 n F), (1, iV1 m H), (5, iV (N : Nat)), (6, .c (.p (.z (.slice none 0 0)))), (8, .c (.sl 0 1 0 N)), (9, .c (.sl 1 1 0 N)), (11, iV (a : Nat)), (13, iV (b : Nat)), (15, iV (x : Nat)), (16, iV (y : Nat))] [rowB N S, rowB N A]) (syF F H S x y) (ayF F H A x y)) (fun y => y ≤ b) (fun y => b - y) 0 (Nat.zero_le _) (WeakS.refl _) ?_
  intro y hy Q' q1n q1e _
  refine ExS.evG ext0_sound 2 (tH11 n m N F H (syF F H S x y) (ayF F H A x y) a b x y) ?_
  simp only [holds_bT, holds_leaf, kf_normal, kf_exit, decide_eq_true_eq, decide_eq_false_iff_not]
  refine ⟨fun h1 => ⟨?_⟩, fun h1 => ⟨q1e _ ?_⟩⟩
  · refine ExS.blk' (l := dropL 2 (lpB (flat (inr (nth .skip (lpB (pcs Tryd.prog Tryd.f26) 16) 2))) 1)) (id := 11) (a := inr (nth .skip (lpB (flat (inr (nth .skip (lpB (pcs Tryd.prog Tryd.f26) 16) 2))) 1) 2)) (r := dropL 3 (lpB (flat (inr (nth .skip (lpB (pcs Tryd.prog Tryd.f26) 16) 2))) 1)) (by kernel_rfl) ?_
    intro Q2 q2n _ _
    refine ExS.evG extY_sound 2 (tH12 n m N F H (syF F H S x y) (ayF F H A x y) a b x y) ?_
    simp only [holds_rq, holds_leaf, kf_normal]
    refine ⟨⟨by omega, by omega, by omega⟩, ⟨fun _ _ => rfl, by omega, by omega, by omega⟩, ⟨by omega, by omega, by omega⟩, ⟨fun _ _ => rfl, by omega, by omega, by omega⟩, ⟨fun _ _ => rfl, fun _ _ => rfl, by omega, by omega⟩, ⟨?_⟩⟩
    refine ExS.pre (st2 := (fun (S A O : Nat → Bool) (i : Nat) => cst 159 [(0, iV1 n F), (1, iV1 m H), (5, iV (N : Nat)), (6, .c (.p (.z (.slice none 0 0)))), (8, .c (.sl 0 1 0 N)), (9, .c (.sl 1 1 0 N)), (11, iV (a : Nat)), (13, iV (b : Nat)), (15, iV (x : Nat)), (16, iV (y : Nat)), (17, bV1 N O), (18, iV (i : Nat))] [rowB N S, rowB N A]) (syF F H S x y) (ayF F H A x y) (onF F H x y) 0) (weak_of_eq (by kernel_rfl)) ?_
    have hd : dropL 2 (flat (inr (nth .skip (lpB (flat (inr (nth .skip (lpB (pcs Tryd.prog Tryd.f26) 16) 2))) 1) 2))) = .block 12 (.loop (inr (inr (nth .skip (flat (inr (nth .skip (lpB (flat (inr (nth .skip (lpB (pcs Tryd.prog Tryd.f26) 16) 2))) 1) 2))) 2)))) :: [] := by kernel_rfl
    show ExS Tryd.prog G [AR.new 4] v (dropL 2 (flat (inr (nth .skip (lpB (flat (inr (nth .skip (lpB (pcs Tryd.prog Tryd.f26) 16) 2))) 1) 2)))) _ Q2
    rw [hd]
    refine hyst6 hNn hNm hN5 (S := syF F H S x y) (A := ayF F H A x y) (O := onF F H x y) ⟨_, WeakS.refl _, q2n _ ?_⟩
    refine ExS.evH ext0_sound (tH14' n m N F H (syF F H S x (y + 1)) (ayF F H A x (y + 1)) a b x y) ?_
    simp only [holds_rq, holds_leaf, kf_normal]
    refine ⟨by simp only [inR]; omega, ⟨q1n (y + 1) _ (by omega) (by omega) (weak_of_eq (by kernel_rfl))⟩⟩
  · obtain rfl : y = b := by omega
    obtain ⟨st2, w1, w2⟩ := hq
    exact ⟨st2, (weak_of_eq (by kernel_rfl)).trans w1, w2⟩
set_option maxRecDepth 100000 in
/-- The loop over the choices for set. -/
theorem hyst4 {n m N : Nat} {F H : Nat → Int} (hNn : N ≤ n) (hNm : N ≤ m) (hN5 : N ≤ 5) (hF : ∀ k, k < N → 0 ≤ F k ∧ F k ≤ 2) (hH : ∀ k, k < N → 0 ≤ H k ∧ H k ≤ 2) :
    ExS Tryd.prog G [AR.new 4] (listV encI 1 (gl (vdF F H) N)) (dropL 16 (pcs Tryd.prog Tryd.f26)) ((fun (S A : Nat → Bool) (a b x : Nat) => cst 159 [(0, iV1 n F), (1, iV1 m H), (5, iV (N : Nat)), (6, .c (.p (.z (.slice none 0 0)))), (8, .c (.sl 0 1 0 N)), (9, .c (.sl 1 1 0 N)), (11, iV (a : Nat)), (13, iV (b : Nat)), (15, iV (x : Nat))] [rowB N S, rowB N A]) (fun _ => false) (fun _ => true) (2 ^ maysF F N) (2 ^ maysF H N) 0) (fun _ _ => False) := by
  have hp : ∀ f : Nat → Int, 2 ^ maysF f N ≤ 32 := fun f => by
    have h1 := maysF_le f N
    calc 2 ^ maysF f N ≤ 2 ^ 5 := Nat.pow_le_pow_right (by omega) (by omega)
      _ = 32 := rfl
  have ha := hp F
  have hb := hp H
  have hS : ∀ i, i < N → sxF F H (2 ^ maysF H N) (2 ^ maysF F N) i = highF F H (i + 1) := fun i hi => sometimes_eq hi hF
  have hA : ∀ i, i < N → axF F H (2 ^ maysF H N) (2 ^ maysF F N) i = lowF F H (i + 1) := fun i hi => always_eq hi hH
  generalize 2 ^ maysF F N = a at ha hS hA
  generalize 2 ^ maysF H N = b at hb hS hA
  refine ExS.loop' (l := dropL 16 (pcs Tryd.prog Tryd.f26)) (b := inr (inr (nth .skip (pcs Tryd.prog Tryd.f26) 16))) (r := dropL 17 (pcs Tryd.prog Tryd.f26)) (id := 8) (by kernel_rfl) (σ := Nat)
    (fun x => (fun (S A : Nat → Bool) => cst 159 [(0, iV1 n F), (1, iV1 m H), (5, iV (N : Nat)), (6, .c (.p (.z (.slice none 0 0)))), (8, .c (.sl 0 1 0 N)), (9, .c (.sl 1 1 0 N)), (11, iV (a : Nat)), (13, iV (b : Nat)), (15, iV (x : Nat))] [rowB N S, rowB N A]) (sxF F H b x) (axF F H b x)) (fun x => x ≤ a) (fun x => a - x) 0 (Nat.zero_le _) (WeakS.refl _) ?_
  intro x hx Q q1n q1e _
  refine ExS.evG ext0_sound 2 (tH9 n m N F H (sxF F H b x) (axF F H b x) a b x) ?_
  simp only [holds_bT, holds_leaf, kf_normal, kf_exit, decide_eq_true_eq, decide_eq_false_iff_not]
  refine ⟨fun h1 => ⟨?_⟩, fun h1 => ⟨q1e _ ?_⟩⟩
  · refine ExS.blk' (l := dropL 2 (lpB (pcs Tryd.prog Tryd.f26) 16)) (id := 9) (a := inr (nth .skip (lpB (pcs Tryd.prog Tryd.f26) 16) 2)) (r := dropL 3 (lpB (pcs Tryd.prog Tryd.f26) 16)) (by kernel_rfl) ?_
    intro Q2 q2n _ _
    refine ExS.evG ext0_sound 1 (tH10 n m N F H (sxF F H b x) (axF F H b x) a b x) ?_
    simp only [holds_done, kf_normal]
    refine ExS.pre (st2 := (fun (S A : Nat → Bool) (y : Nat) => cst 159 [(0, iV1 n F), (1, iV1 m H), (5, iV (N : Nat)), (6, .c (.p (.z (.slice none 0 0)))), (8, .c (.sl 0 1 0 N)), (9, .c (.sl 1 1 0 N)), (11, iV (a : Nat)), (13, iV (b : Nat)), (15, iV (x : Nat)), (16, iV (y : Nat))] [rowB N S, rowB N A]) (sxF F H b x) (axF F H b x) 0) (weak_of_eq (by kernel_rfl)) ?_
    refine hyst5 hNn hNm hN5 (by omega) hb ⟨_, WeakS.refl _, q2n _ ?_⟩
    refine ExS.evH ext0_sound (tH15 n m N F H (syF F H (sxF F H b x) x b) (ayF F H (axF F H b x) x b) a b x b) ?_
    simp only [holds_rq, holds_leaf, kf_normal]
    exact ⟨by simp only [inR]; omega, ⟨q1n (x + 1) _ (by omega) (by omega) (weak_of_eq (by kernel_rfl))⟩⟩
  · obtain rfl : x = a := by omega
    refine ExS.evG ext0_sound 1 (tH16 n m N F H (sxF F H b x) (axF F H b x) x b x) ?_
    simp only [holds_done, kf_normal]
    refine ExS.pre (((weak_nil 3 1 (rowC encI []) 6 (by kernel_rfl)).trans ((weak_gc (msk 159 [0, 1, 5, 6, 8, 9, 19]) _).trans (weak_of_eq (by kernel_rfl))))) (hyst7 hNn hNm hN5 hS hA)
theorem iF_id (F : Nat → Int) : (iF fun e o => PV.i IntKind.i64 (F (e + 0))) = F := rfl
set_option maxRecDepth 100000 in
/-- From the count of choices for clear on. -/
theorem hyst3 {n m N : Nat} {F H : Nat → Int} (hNn : N ≤ n) (hNm : N ≤ m) (hN5 : N ≤ 5) (hF : ∀ k, k < N → 0 ≤ F k ∧ F k ≤ 2) (hH : ∀ k, k < N → 0 ≤ H k ∧ H k ≤ 2) :
    ExS Tryd.prog G [AR.new 4] (listV encI 1 (gl (vdF F H) N)) (dropL 14 (pcs Tryd.prog Tryd.f26)) ((fun (S A : Nat → Bool) (a b i : Nat) => cst 159 [(0, iV1 n F), (1, iV1 m H), (5, iV (N : Nat)), (6, .c (.p (.z (.slice none 0 0)))), (8, .c (.sl 0 1 0 N)), (9, .c (.sl 1 1 0 N)), (11, iV (a : Nat)), (13, iV (b : Nat)), (14, iV (i : Nat))] [rowB N S, rowB N A]) (fun _ => false) (fun _ => true) (2 ^ maysF F N) 1 0) (fun _ _ => False) := by
  have hM := maysF_le H N
  have tail := hyst4 (G := G) hNn hNm hN5 hF hH
  generalize 2 ^ maysF F N = a at tail ⊢
  refine ExS.loop' (l := dropL 14 (pcs Tryd.prog Tryd.f26)) (b := inr (inr (nth .skip (pcs Tryd.prog Tryd.f26) 14))) (r := dropL 15 (pcs Tryd.prog Tryd.f26)) (id := 6) (by kernel_rfl) (σ := Nat)
    (fun i => (fun (S A : Nat → Bool) (b : Nat) => cst 159 [(0, iV1 n F), (1, iV1 m H), (5, iV (N : Nat)), (6, .c (.p (.z (.slice none 0 0)))), (8, .c (.sl 0 1 0 N)), (9, .c (.sl 1 1 0 N)), (11, iV (a : Nat)), (13, iV (b : Nat)), (14, iV (i : Nat))] [rowB N S, rowB N A]) (fun _ => false) (fun _ => true) (2 ^ i)) (fun i => i ≤ maysF H N) (fun i => maysF H N - i) 0 (Nat.zero_le _) (WeakS.refl _) ?_
  intro i hi Q q1n q1e _
  have hp : 2 ^ i ≤ 32 := by
    calc 2 ^ i ≤ 2 ^ 5 := Nat.pow_le_pow_right (by omega) (by omega)
      _ = 32 := rfl
  refine ExS.evH extY_sound (tH7 n m N F H (fun _ => false) (fun _ => true) a (2 ^ i) i) ?_
  generalize hb : 2 ^ i = b at hp ⊢
  simp only [holds_bT, holds_rq, holds_leaf, kf_normal, kf_exit, decide_eq_true_eq, decide_eq_false_iff_not, iF_id, inR, show (↑N : Int).toNat - 0 = N from rfl]
  refine ⟨⟨by omega, by omega, by omega⟩, ⟨fun _ _ => rfl, by omega⟩, fun h1 => ⟨by omega, by omega, ⟨q1n (i + 1) _ (by omega) (by omega) ?_⟩⟩, fun h1 => ⟨q1e _ ?_⟩⟩
  · show WeakS G _ ((fun (S A : Nat → Bool) (b i : Nat) => cst 159 [(0, iV1 n F), (1, iV1 m H), (5, iV (N : Nat)), (6, .c (.p (.z (.slice none 0 0)))), (8, .c (.sl 0 1 0 N)), (9, .c (.sl 1 1 0 N)), (11, iV (a : Nat)), (13, iV (b : Nat)), (14, iV (i : Nat))] [rowB N S, rowB N A]) (fun _ => false) (fun _ => true) (2 ^ (i + 1)) (i + 1))
    rw [show 2 ^ (i + 1) = 2 * 2 ^ i by rw [Nat.pow_succ, Nat.mul_comm], hb]
    exact weak_of_eq (by kernel_rfl)
  · obtain rfl : i = maysF H N := by omega
    rw [hb] at tail
    refine ExS.evG ext0_sound 1 (tH8 n m N F H (fun _ => false) (fun _ => true) a b (maysF H N)) ?_
    simp only [holds_done, kf_normal]
    exact ExS.pre (weak_of_eq (by kernel_rfl)) tail
set_option maxRecDepth 100000 in
/-- From the count of choices for set on. -/
theorem hyst2 {n m N : Nat} {F H : Nat → Int} (hNn : N ≤ n) (hNm : N ≤ m) (hN5 : N ≤ 5) (hF : ∀ k, k < N → 0 ≤ F k ∧ F k ≤ 2) (hH : ∀ k, k < N → 0 ≤ H k ∧ H k ≤ 2) :
    ExS Tryd.prog G [AR.new 4] (listV encI 1 (gl (vdF F H) N)) (dropL 11 (pcs Tryd.prog Tryd.f26)) ((fun (S A : Nat → Bool) (a i : Nat) => cst 159 [(0, iV1 n F), (1, iV1 m H), (5, iV (N : Nat)), (6, .c (.p (.z (.slice none 0 0)))), (8, .c (.sl 0 1 0 N)), (9, .c (.sl 1 1 0 N)), (11, iV (a : Nat)), (12, iV (i : Nat))] [rowB N S, rowB N A]) (fun _ => false) (fun _ => true) 1 0) (fun _ _ => False) := by
  have hM := maysF_le F N
  have tail := hyst3 (G := G) hNn hNm hN5 hF hH
  refine ExS.loop' (l := dropL 11 (pcs Tryd.prog Tryd.f26)) (b := inr (inr (nth .skip (pcs Tryd.prog Tryd.f26) 11))) (r := dropL 12 (pcs Tryd.prog Tryd.f26)) (id := 4) (by kernel_rfl) (σ := Nat)
    (fun i => (fun (S A : Nat → Bool) (a : Nat) => cst 159 [(0, iV1 n F), (1, iV1 m H), (5, iV (N : Nat)), (6, .c (.p (.z (.slice none 0 0)))), (8, .c (.sl 0 1 0 N)), (9, .c (.sl 1 1 0 N)), (11, iV (a : Nat)), (12, iV (i : Nat))] [rowB N S, rowB N A]) (fun _ => false) (fun _ => true) (2 ^ i)) (fun i => i ≤ maysF F N) (fun i => maysF F N - i) 0 (Nat.zero_le _) (WeakS.refl _) ?_
  intro i hi Q q1n q1e _
  have hp : 2 ^ i ≤ 32 := by
    calc 2 ^ i ≤ 2 ^ 5 := Nat.pow_le_pow_right (by omega) (by omega)
      _ = 32 := rfl
  refine ExS.evH extY_sound (tH5 n m N F H (fun _ => false) (fun _ => true) (2 ^ i) i) ?_
  generalize hb : 2 ^ i = a at hp ⊢
  simp only [holds_bT, holds_rq, holds_leaf, kf_normal, kf_exit, decide_eq_true_eq, decide_eq_false_iff_not, iF_id, inR, show (↑N : Int).toNat - 0 = N from rfl]
  refine ⟨⟨by omega, by omega, by omega⟩, ⟨fun _ _ => rfl, by omega⟩, fun h1 => ⟨by omega, by omega, ⟨q1n (i + 1) _ (by omega) (by omega) ?_⟩⟩, fun h1 => ⟨q1e _ ?_⟩⟩
  · show WeakS G _ ((fun (S A : Nat → Bool) (a i : Nat) => cst 159 [(0, iV1 n F), (1, iV1 m H), (5, iV (N : Nat)), (6, .c (.p (.z (.slice none 0 0)))), (8, .c (.sl 0 1 0 N)), (9, .c (.sl 1 1 0 N)), (11, iV (a : Nat)), (12, iV (i : Nat))] [rowB N S, rowB N A]) (fun _ => false) (fun _ => true) (2 ^ (i + 1)) (i + 1))
    rw [show 2 ^ (i + 1) = 2 * 2 ^ i by rw [Nat.pow_succ, Nat.mul_comm], hb]
    exact weak_of_eq (by kernel_rfl)
  · obtain rfl : i = maysF F N := by omega
    rw [hb] at tail
    refine ExS.evG ext0_sound 2 (tH6 n m N F H (fun _ => false) (fun _ => true) a (maysF F N)) ?_
    simp only [holds_done, kf_normal]
    exact ExS.pre (weak_of_eq (by kernel_rfl)) tail
set_option maxRecDepth 100000 in
/-- From the first fill of the lists on. -/
theorem hyst1 {n m N : Nat} {F H : Nat → Int} (hNn : N ≤ n) (hNm : N ≤ m) (hN5 : N ≤ 5) (hF : ∀ k, k < N → 0 ≤ F k ∧ F k ≤ 2) (hH : ∀ k, k < N → 0 ≤ H k ∧ H k ≤ 2) :
    ExS Tryd.prog G [AR.new 4] (listV encI 1 (gl (vdF F H) N)) (dropL 8 (pcs Tryd.prog Tryd.f26)) ((fun (S A : Nat → Bool) (i : Nat) => cst 159 [(0, iV1 n F), (1, iV1 m H), (5, iV (N : Nat)), (6, .c (.p (.z (.slice none 0 0)))), (8, .c (.sl 0 1 0 N)), (9, .c (.sl 1 1 0 N)), (10, iV (i : Nat))] [rowB N S, rowB N A]) (fun _ => false) (fun _ => false) 0) (fun _ _ => False) := by
  have tail := hyst2 (G := G) hNn hNm hN5 hF hH
  refine ExS.loop' (l := dropL 8 (pcs Tryd.prog Tryd.f26)) (b := inr (inr (nth .skip (pcs Tryd.prog Tryd.f26) 8))) (r := dropL 9 (pcs Tryd.prog Tryd.f26)) (id := 2) (by kernel_rfl) (σ := Nat)
    (fun i => (fun (S A : Nat → Bool) => cst 159 [(0, iV1 n F), (1, iV1 m H), (5, iV (N : Nat)), (6, .c (.p (.z (.slice none 0 0)))), (8, .c (.sl 0 1 0 N)), (9, .c (.sl 1 1 0 N)), (10, iV (i : Nat))] [rowB N S, rowB N A]) (fun _ => false) (fun e => decide (e < i))) (fun i => i ≤ N) (fun i => N - i) 0 (Nat.zero_le _) (weakAB (fun _ _ => rfl) (fun e _ => by simp)) ?_
  intro i hi Q q1n q1e _
  refine ExS.evH ext0_sound (tH3 n m N F H (fun _ => false) (fun e => decide (e < i)) i) ?_
  simp only [holds_bT, holds_rq, holds_leaf, kf_normal, kf_exit, decide_eq_true_eq, decide_eq_false_iff_not, inR, show (↑i : Int).toNat + 0 = i from rfl]
  refine ⟨fun h1 => ⟨⟨by omega, h1⟩, by omega, by omega, ⟨q1n (i + 1) _ (by omega) (by omega) (weakAB (fun _ _ => rfl) (fun e he => ?_))⟩⟩, fun h1 => ⟨q1e _ ?_⟩⟩
  · by_cases h : e = i
    · subst h; simp [nth, renC]
    · have h5 : (e < i + 1) = (e < i) := by apply propext; omega
      simp [h, renC, h5]
  · obtain rfl : i = N := by omega
    refine ExS.pre (weakAB (S := fun _ => false) (A := fun _ => true) (fun _ _ => rfl) (fun e he => by simp [he, renC])) ?_
    refine ExS.evG ext0_sound 2 (tH4 n m i F H (fun _ => false) (fun _ => true) i) ?_
    simp only [holds_done, kf_normal]
    exact ExS.pre (weak_of_eq (by kernel_rfl)) tail
set_option maxRecDepth 100000 in
theorem hystN {n m : Nat} (hn : n ≤ 5) (hm5 : m ≤ 5) (F H : Nat → Int) : FnN Tryd.prog G 26 [iV1 n F, iV1 m H] (hystL F H (min n m)) := by
  obtain ⟨N, hN⟩ : ∃ N, N = min n m := ⟨_, rfl⟩
  rw [← hN]
  have hNn : N ≤ n := by omega
  have hNm : N ≤ m := by omega
  have hN5 : N ≤ 5 := by omega
  have nilc : hystL F H N = [] → VLe (V.c (C.p (PV.z (Value.slice none 0 0)))) (listV encI 1 (hystL F H N)) := fun h => by rw [h]; exact VLe.p (PLe.nil 1 _)
  refine fn_new (t := 4) Tryd.func26 (by kernel_rfl) (by kernel_rfl) ?_
  refine ExS.evG ext0_sound 4 (tH0 n m F H) ?_
  have hmin : (if (↑m : Int) < (↑n : Int) then (↑m : Int) else (↑n : Int)) = (↑N : Int) := by split <;> omega
  rw [hmin]
  simp only [holds_done, kf_normal]
  refine ExS.loop' (l := dropL 4 (pcs Tryd.prog Tryd.f26)) (b := inr (inr (nth .skip (pcs Tryd.prog Tryd.f26) 4))) (r := dropL 5 (pcs Tryd.prog Tryd.f26)) (id := 0) (by kernel_rfl) (σ := Nat)
    (fun i => cst 159 [(0, iV1 n F), (1, iV1 m H), (5, iV (N : Nat)), (6, .c (.p (.z (.slice none 0 0)))), (7, iV (i : Nat))] []) (fun i => i ≤ N ∧ inUp F H i = true) (fun i => N - i) 0 ⟨Nat.zero_le _, rfl⟩ (weak_of_eq (by kernel_rfl)) ?_
  rintro i ⟨hi, hin⟩ Q q1n q1e -
  refine ExS.evH ext0_sound (tH1 n m N F H i) ?_
  have bad : i < N → ¬ ((0 ≤ F i ∧ F i ≤ 2) ∧ 0 ≤ H i ∧ H i ≤ 2) → VLe (V.c (C.p (PV.z (Value.slice none 0 0)))) (listV encI 1 (hystL F H N)) := fun h1 h2 => nilc (hystL_bad h1 (by
    rw [← Bool.not_eq_true]
    simpa [inV] using h2))
  have good : i < N → ((0 ≤ F i ∧ F i ≤ 2) ∧ 0 ≤ H i ∧ H i ≤ 2) → Leaf (Q .normal ((fun i : Nat => cst 159 [(0, iV1 n F), (1, iV1 m H), (5, iV (N : Nat)), (6, .c (.p (.z (.slice none 0 0)))), (7, iV (i : Nat))] []) (i + 1))) := fun h1 h2 => ⟨q1n (i + 1) _ ⟨by omega, by rw [inUp_succ, hin]; simpa [inV] using h2⟩ (by omega) (WeakS.refl _)⟩
  have after : ¬ i < N → ExS Tryd.prog G [AR.new 4] (listV encI 1 (hystL F H N)) (dropL 5 (pcs Tryd.prog Tryd.f26)) (cst 159 [(0, iV1 n F), (1, iV1 m H), (5, iV (N : Nat)), (6, .c (.p (.z (.slice none 0 0)))), (7, iV (i : Nat))] []) (fun _ _ => False) := fun h1 => by
    obtain rfl : i = N := by omega
    have hh : hystL F H i = gl (vdF F H) i := by unfold hystL; rw [if_pos hin]
    rw [hh]
    rw [inUp_iff] at hin
    have hF : ∀ k, k < i → 0 ≤ F k ∧ F k ≤ 2 := fun k hk => by have := hin k hk; simp [inV] at this; omega
    have hH : ∀ k, k < i → 0 ≤ H k ∧ H k ≤ 2 := fun k hk => by have := hin k hk; simp [inV] at this; omega
    have tail := hyst1 (G := G) hNn hNm hN5 hF hH
    refine ExS.evG ext0_sound 3 (tH2 n m i F H i) ?_
    simp only [holds_rq, holds_leaf, kf_normal]
    refine ⟨⟨by omega, by omega, by omega, by omega⟩, ⟨by omega, by omega, by omega, by omega⟩, ⟨ExS.pre ?_ tail⟩⟩
    exact weakAB (fun _ _ => rfl) (fun _ _ => rfl)
  simp only [holds_bT, holds_rq, holds_leaf, kf_ret', kf_normal, kf_exit, decide_eq_true_eq, decide_eq_false_iff_not, show (↑i : Int).toNat = i from rfl]
  have hin2 : i < N → inR .i64 ((↑i : Int) + 1) := fun h => by simp only [inR]; omega
  refine ⟨fun h1 => ?_, fun h1 => ⟨q1e _ (after (by omega))⟩⟩
  have h1' : i < N := by omega
  refine ⟨⟨by omega, by omega⟩, fun c => ⟨bad h1' (by omega)⟩, fun c1 => ⟨⟨by omega, by omega⟩, fun c => ⟨bad h1' (by omega)⟩, fun c2 => ⟨⟨by omega, by omega⟩, fun c => ⟨bad h1' (by omega)⟩, fun c3 => ⟨⟨by omega, by omega⟩, fun c => ⟨bad h1' (by omega)⟩, fun c4 => ⟨hin2 h1', good h1' (by omega)⟩⟩⟩⟩⟩
end
end Go.AE
