/- AE contracts: ref04.Inner, Part, List. -/
import Derived.Test.YtplnkainmfkfgaaDoorN5
namespace Go.AE
open Go.Proofs
set_option linter.unusedVariables false
set_option linter.unusedSimpArgs false
def bQ (A B : Int) (a : Qf) : Prop := (-A ≤ a.1 ∧ a.1 ≤ A) ∧ 1 ≤ a.2 ∧ a.2 ≤ B
def innQ (x : Iv) (t : Int) : Qf := addQ x.1 (mulQ (mulQ (subQ x.2 x.1) (1, 8)) (aroundZ t 9, 1))
def smallV (x : Iv) : Prop := (vQ x.1 ∧ vQ x.2) ∧ bQ 50 12 x.1 ∧ bQ 50 12 x.2
def partI (x : Iv) (a b : Int) : Iv := fromQ (innQ x a) (innQ x b)
def mInner : Mod
  | [.a [.p (.i .i64 n), .p (.i .i64 d), .p (.i .i64 m), .p (.i .i64 e)], .c (.p (.i .i64 t))] => some (smallV ((n, d), (m, e)) ∧ inR .i64 t, frV (innQ ((n, d), (m, e)) t))
  | _ => none
def mPart : Mod
  | [.a [.p (.i .i64 n), .p (.i .i64 d), .p (.i .i64 m), .p (.i .i64 e)], .c (.p (.i .i64 a)), .c (.p (.i .i64 b))] => some (smallV ((n, d), (m, e)) ∧ inR .i64 a ∧ inR .i64 b, ivV (partI ((n, d), (m, e)) a b))
  | _ => none
def encV (x : Iv) : Nat → PV
  | 0 => .i .i64 x.1.1
  | 1 => .i .i64 x.1.2
  | 2 => .i .i64 x.2.1
  | _ => .i .i64 x.2.2
def listJ (L : List Int) (j : Nat) : List Iv := (List.range j).map fun j => smI (L.getD (2 * j) default) (L.getD (2 * j + 1) default)
def extIn : Ext := extOf [(25, mSubQ), (26, mMulQ), (27, mAddQ), (15, mAround)]
noncomputable def extPt : Ext := extH [(14, liftM mInner), (13, frzA mFromI)]
def extLi : Ext := extOf [(12, mSmallI)]

theorem tIn (n d m e t : Int) : exTs extIn (pcs Tryd.prog Tryd.f14) (st0 Tryd.f14 [.a [.p (.i .i64 n), .p (.i .i64 d), .p (.i .i64 m), .p (.i .i64 e)], iV t]) (endG [] (resOf Tryd.prog Tryd.f14)) = Tr.rq (vQ (m, e) ∧ vQ (n, d))
    (Tr.rq (vQ ((subQ (m, e) (n, d)).fst, (subQ (m, e) (n, d)).snd) ∧ vQ (1, 8))
      (Tr.rq (inR IntKind.i64 t ∧ Int.ofNat 0 < Int.ofNat 9)
        (Tr.rq (vQ ((mulQ ((subQ (m, e) (n, d)).fst, (subQ (m, e) (n, d)).snd) (1, 8)).fst, (mulQ ((subQ (m, e) (n, d)).fst, (subQ (m, e) (n, d)).snd) (1, 8)).snd) ∧ vQ (aroundZ t 9, 1))
          (Tr.rq
            (vQ (n, d) ∧
              vQ
                ((mulQ ((mulQ ((subQ (m, e) (n, d)).fst, (subQ (m, e) (n, d)).snd) (1, 8)).fst, (mulQ ((subQ (m, e) (n, d)).fst, (subQ (m, e) (n, d)).snd) (1, 8)).snd) (aroundZ t 9, 1)).fst,
                  (mulQ ((mulQ ((subQ (m, e) (n, d)).fst, (subQ (m, e) (n, d)).snd) (1, 8)).fst, (mulQ ((subQ (m, e) (n, d)).fst, (subQ (m, e) (n, d)).snd) (1, 8)).snd) (aroundZ t 9, 1)).snd))
            (Tr.done X.ret
              (St.mk [V.a [C.p (PV.i IntKind.i64 (addQ (n, d) ((mulQ ((mulQ ((subQ (m, e) (n, d)).fst, (subQ (m, e) (n, d)).snd) (1, 8)).fst, (mulQ ((subQ (m, e) (n, d)).fst, (subQ (m, e) (n, d)).snd) (1, 8)).snd) (aroundZ t 9, 1)).fst, (mulQ ((mulQ ((subQ (m, e) (n, d)).fst, (subQ (m, e) (n, d)).snd) (1, 8)).fst, (mulQ ((subQ (m, e) (n, d)).fst, (subQ (m, e) (n, d)).snd) (1, 8)).snd) (aroundZ t 9, 1)).snd)).fst), C.p (PV.i IntKind.i64 (addQ (n, d) ((mulQ ((mulQ ((subQ (m, e) (n, d)).fst, (subQ (m, e) (n, d)).snd) (1, 8)).fst, (mulQ ((subQ (m, e) (n, d)).fst, (subQ (m, e) (n, d)).snd) (1, 8)).snd) (aroundZ t 9, 1)).fst, (mulQ ((mulQ ((subQ (m, e) (n, d)).fst, (subQ (m, e) (n, d)).snd) (1, 8)).fst, (mulQ ((subQ (m, e) (n, d)).fst, (subQ (m, e) (n, d)).snd) (1, 8)).snd) (aroundZ t 9, 1)).snd)).snd)]] [])))))) := by kernel_rfl
theorem tPt (n d m e a b : Int) : exTs extPt (pcs Tryd.prog Tryd.f5) (st0 Tryd.f5 [.a [.p (.i .i64 n), .p (.i .i64 d), .p (.i .i64 m), .p (.i .i64 e)], iV a, iV b]) (endG [] (resOf Tryd.prog Tryd.f5)) = Tr.rq (smallV ((n, d), m, e) ∧ inR IntKind.i64 a)
    (Tr.rq (smallV ((n, d), m, e) ∧ inR IntKind.i64 b)
      (Tr.rq
        ((conVs 2 2 2 [V.c (C.sl 2 2 0 2)] ∧
            ∀ (e_1 o : Nat),
              e_1 < 2 →
                o < 2 →
                  isF
                      (nth C.top
                        [C.p (PV.i IntKind.i64 (innQ ((n, d), m, e) a).fst), C.p (PV.i IntKind.i64 (innQ ((n, d), m, e) a).snd), C.p (PV.i IntKind.i64 (innQ ((n, d), m, e) b).fst),
                          C.p (PV.i IntKind.i64 (innQ ((n, d), m, e) b).snd)]
                        (e_1 * 2 + o)) =
                    true) ∧
          vQ ((innQ ((n, d), m, e) a).fst, (innQ ((n, d), m, e) a).snd) ∧ vQ ((innQ ((n, d), m, e) b).fst, (innQ ((n, d), m, e) b).snd))
        (Tr.done X.ret
          (St.mk [V.a [C.p (PV.i IntKind.i64 (fromQ ((innQ ((n, d), m, e) a).fst, (innQ ((n, d), m, e) a).snd) ((innQ ((n, d), m, e) b).fst, (innQ ((n, d), m, e) b).snd)).fst.fst), C.p (PV.i IntKind.i64 (fromQ ((innQ ((n, d), m, e) a).fst, (innQ ((n, d), m, e) a).snd) ((innQ ((n, d), m, e) b).fst, (innQ ((n, d), m, e) b).snd)).fst.snd), C.p (PV.i IntKind.i64 (fromQ ((innQ ((n, d), m, e) a).fst, (innQ ((n, d), m, e) a).snd) ((innQ ((n, d), m, e) b).fst, (innQ ((n, d), m, e) b).snd)).snd.fst), C.p (PV.i IntKind.i64 (fromQ ((innQ ((n, d), m, e) a).fst, (innQ ((n, d), m, e) a).snd) ((innQ ((n, d), m, e) b).fst, (innQ ((n, d), m, e) b).snd)).snd.snd)]] [])))) := by kernel_rfl
theorem tLi1 (L : List Int) (b : Int) : exTs ext0 (takeL 3 (pcs Tryd.prog Tryd.f4)) (st0 Tryd.f4 [listV encI 1 L, iV b]) (endG (msk 34 [0, 1, 5, 6]) (resOf Tryd.prog Tryd.f4)) = Tr.done X.normal
    (cst 34 [(0, V.c (C.p (PV.l 1 L.length (rowP encI L)))), (1, V.c (C.p (PV.i IntKind.i64 b))), (5, V.c (C.p (PV.z (Value.slice none 0 0)))), (6, V.c (C.p (PV.i IntKind.i64 0)))] []) := by kernel_rfl
theorem tLi2 (L : List Int) (out : List Iv) (b i : Int) : exTs ext0 (takeL 2 (lpB (pcs Tryd.prog Tryd.f4) 3)) (cst 34 [(0, listV encI 1 L), (1, iV b), (5, .c (.sl 0 4 0 out.length)), (6, iV i)] [.row 28 4 out.length (rowC encV out)]) (endG (msk 34 [0, 1, 5, 6]) (resOf Tryd.prog Tryd.f4)) = Tr.rq (inR IntKind.i64 (i + 1))
    (bT (decide (i + 1 < (↑L.length : Int)))
      (bT (decide ((↑out.length : Int) < b))
        (Tr.done X.normal
          (cst 34 [(0, V.c (C.p (PV.l 1 L.length (rowP encI L)))), (1, V.c (C.p (PV.i IntKind.i64 b))), (5, V.c (C.sl 0 4 0 out.length)), (6, V.c (C.p (PV.i IntKind.i64 i)))] [AO.row 28 4 out.length fun e o => renC [0] (rowC encV out e o)]))
        (Tr.done (X.exit 0)
          (cst 34 [(0, V.c (C.p (PV.l 1 L.length (rowP encI L)))), (1, V.c (C.p (PV.i IntKind.i64 b))), (5, V.c (C.sl 0 4 0 out.length)), (6, V.c (C.p (PV.i IntKind.i64 i)))] [AO.row 28 4 out.length fun e o => renC [0] (rowC encV out e o)])))
      (Tr.done (X.exit 0)
        (cst 34 [(0, V.c (C.p (PV.l 1 L.length (rowP encI L)))), (1, V.c (C.p (PV.i IntKind.i64 b))), (5, V.c (C.sl 0 4 0 out.length)), (6, V.c (C.p (PV.i IntKind.i64 i)))] [AO.row 28 4 out.length fun e o => renC [0] (rowC encV out e o)]))) := by kernel_rfl
theorem tLi3 (L : List Int) (out : List Iv) (b i : Int) : exTs extLi (dropL 2 (lpB (pcs Tryd.prog Tryd.f4) 3)) (cst 34 [(0, listV encI 1 L), (1, iV b), (5, .c (.sl 0 4 0 out.length)), (6, iV i)] [.row 28 4 out.length (rowC encV out)]) (endG (msk 34 [0, 1, 5, 6]) (resOf Tryd.prog Tryd.f4)) = Tr.rq (0 ≤ i ∧ i < (↑L.length : Int))
    (Tr.rq (inR IntKind.i64 (i + 1))
      (Tr.rq (0 ≤ i + 1 ∧ i + 1 < (↑L.length : Int))
        (Tr.rq (inR IntKind.i64 (L.getD i.toNat default) ∧ inR IntKind.i64 (L.getD (i + 1).toNat default))
          (Tr.rq (out.length = out.length)
            (Tr.rq (1 ≤ 1)
              (Tr.rq
                ((out.length + 1) * 32 ≤ 140737488355328 ∧
                  out.length + 1 ≤ 140737488355328 ∧
                    ∀ (e o : Nat),
                      e < 1 →
                        o < 4 →
                          oneC
                              (nth C.top
                                [C.p (PV.i IntKind.i64 (smI (L.getD i.toNat default) (L.getD (i + 1).toNat default)).fst.fst),
                                  C.p (PV.i IntKind.i64 (smI (L.getD i.toNat default) (L.getD (i + 1).toNat default)).fst.snd),
                                  C.p (PV.i IntKind.i64 (smI (L.getD i.toNat default) (L.getD (i + 1).toNat default)).snd.fst),
                                  C.p (PV.i IntKind.i64 (smI (L.getD i.toNat default) (L.getD (i + 1).toNat default)).snd.snd)]
                                ((e + 0) * 4 + o)) =
                            true)
                (Tr.rq (inR IntKind.i64 (i + 2))
                  (Tr.done X.normal
                    (cst 34 [(0, V.c (C.p (PV.l 1 L.length (rowP encI L)))), (1, V.c (C.p (PV.i IntKind.i64 b))), (5, V.c (C.sl 0 4 0 (out.length + 1))), (6, V.c (C.p (PV.i IntKind.i64 (i + 2))))] [AO.row 28 4 (out.length + 1) fun e o => renC [2] (appF out.length (rowC encV out) (fun e o => nth C.top [C.p (PV.i IntKind.i64 (smI (L.getD i.toNat default) (L.getD (i + 1).toNat default)).fst.fst), C.p (PV.i IntKind.i64 (smI (L.getD i.toNat default) (L.getD (i + 1).toNat default)).fst.snd), C.p (PV.i IntKind.i64 (smI (L.getD i.toNat default) (L.getD (i + 1).toNat default)).snd.fst), C.p (PV.i IntKind.i64 (smI (L.getD i.toNat default) (L.getD (i + 1).toNat default)).snd.snd)] ((e + 0) * 4 + o)) e o)]))))))))) := by kernel_rfl
theorem tLi4 (L : List Int) (out : List Iv) (b i : Int) : exTs ext0 (dropL 4 (pcs Tryd.prog Tryd.f4)) (cst 34 [(0, listV encI 1 L), (1, iV b), (5, .c (.sl 0 4 0 out.length)), (6, iV i)] [.row 28 4 out.length (rowC encV out)]) (endG [] (resOf Tryd.prog Tryd.f4)) = Tr.rq (0 + out.length ≤ out.length ∧ ∀ (e o : Nat), e < out.length → o < 4 → isF (rowC encV out (e + 0) o) = true)
    (Tr.done X.ret (St.mk [V.c (C.p (PV.l 4 out.length fun e o => unP (rowC encV out (e + 0) o)))] [])) := by kernel_rfl
def Ten (b : Int) : Prop := b = 10
def mListI : Mod
  | [.c (.p (.l 1 n f)), .c (.p (.i .i64 b))] => some ((IsL encI 1 (decL decI n f) n f ∧ ∀ k, k < n → inR .i64 ((decL decI n f).getD k default)) ∧ Ten b, listV encV 4 (listJ (decL decI n f) (min (n / 2) 10)))
  | _ => none
theorem mulBd {x y A B : Int} (hx : -A ≤ x ∧ x ≤ A) (hy : 0 ≤ y ∧ y ≤ B) : -(A * B) ≤ x * y ∧ x * y ≤ A * B := by
  have h : (x * y).natAbs ≤ A.natAbs * B.natAbs := by rw [Int.natAbs_mul]; exact Nat.mul_le_mul (by omega) (by omega)
  have e : A * B = ((A.natAbs * B.natAbs : Nat) : Int) := by rw [← Int.natAbs_mul, Int.natAbs_of_nonneg (Int.mul_nonneg (by omega) (by omega))]
  omega
theorem bQ_add {A B C D : Int} {a b : Qf} (ha : bQ A B a) (hb : bQ C D b) (h1 : A * D + C * B ≤ 1073741824) (h2 : B * D ≤ 1073741824) : bQ (A * D + C * B) (B * D) (addQ a b) ∧ vQ (addQ a b) := by
  obtain ⟨a1, a2, a3⟩ := ha
  obtain ⟨b1, b2, b3⟩ := hb
  have m1 := mulBd a1 (show 0 ≤ b.2 ∧ b.2 ≤ D by omega)
  have m2 := mulBd b1 (show 0 ≤ a.2 ∧ a.2 ≤ B by omega)
  have m3 := mulBd (x := a.2) (A := B) (by omega) (show 0 ≤ b.2 ∧ b.2 ≤ D by omega)
  have m4 : 0 < a.2 * b.2 := Int.mul_pos (by omega) (by omega)
  have r := redQ_bd (n := a.1 * b.2 + b.1 * a.2) m4 (B := A * D + C * B) (by omega)
  refine ⟨⟨r.1, r.2.1, ?_⟩, vQ_redQ (by omega) (by omega)⟩
  have := r.2.2
  unfold addQ; omega
theorem bQ_mul {A B C D : Int} {a b : Qf} (ha : bQ A B a) (hb : bQ C D b) (hC : 0 ≤ b.1) (h1 : A * C ≤ 1073741824) (h2 : B * D ≤ 1073741824) : bQ (A * C) (B * D) (mulQ a b) ∧ vQ (mulQ a b) := by
  obtain ⟨a1, a2, a3⟩ := ha
  obtain ⟨b1, b2, b3⟩ := hb
  have m1 := mulBd a1 (show 0 ≤ b.1 ∧ b.1 ≤ C by omega)
  have m3 := mulBd (x := a.2) (A := B) (by omega) (show 0 ≤ b.2 ∧ b.2 ≤ D by omega)
  have m4 : 0 < a.2 * b.2 := Int.mul_pos (by omega) (by omega)
  have r := redQ_bd (n := a.1 * b.1) m4 (B := A * C) (by omega)
  refine ⟨⟨r.1, r.2.1, ?_⟩, vQ_redQ (by omega) (by omega)⟩
  have := r.2.2
  unfold mulQ; omega
theorem bQ_neg {A B : Int} {a : Qf} (ha : bQ A B a) : bQ A B (-a.1, a.2) := by
  obtain ⟨a1, a2, a3⟩ := ha
  exact ⟨by simp only; omega, a2, a3⟩
theorem vQ_int {k : Int} (h0 : 0 ≤ k) (h1 : k < 9) : vQ (k, 1) := by
  refine ⟨by simp only; omega, by simp only; omega, ?_⟩
  simp only
  obtain ⟨x, rfl⟩ := Int.eq_ofNat_of_zero_le h0
  have h2 : x < 9 := by omega
  clear h0 h1
  obtain rfl | rfl | rfl | rfl | rfl | rfl | rfl | rfl | rfl : x = 0 ∨ x = 1 ∨ x = 2 ∨ x = 3 ∨ x = 4 ∨ x = 5 ∨ x = 6 ∨ x = 7 ∨ x = 8 := by omega
  all_goals decide
theorem vQ_eighth : vQ (1, 8) := ⟨by decide, by decide, by decide⟩
theorem inn_ok {x : Iv} (h : smallV x) (t : Int) : vQ (subQ x.2 x.1) ∧ vQ (mulQ (subQ x.2 x.1) (1, 8)) ∧ vQ (aroundZ t 9, 1) ∧ vQ (mulQ (mulQ (subQ x.2 x.1) (1, 8)) (aroundZ t 9, 1)) ∧ vQ (innQ x t) := by
  obtain ⟨-, h1, h2⟩ := h
  have hr := aroundZ_rng t (show (0 : Int) < 9 by decide)
  have s1 := bQ_add h2 (bQ_neg h1) (by decide) (by decide)
  have s2 := bQ_mul s1.1 (show bQ 1 8 (1, 8) from ⟨by decide, by decide⟩) (by decide) (by decide) (by decide)
  have s3 := bQ_mul s2.1 (show bQ 8 1 (aroundZ t 9, 1) from ⟨by simp only; omega, by simp only; omega⟩) hr.1 (by decide) (by decide)
  have s4 := bQ_add h1 s3.1 (by decide) (by decide)
  exact ⟨s1.2, s2.2, vQ_int hr.1 hr.2, s3.2, s4.2⟩
theorem listJ_succ (L : List Int) (j : Nat) : listJ L (j + 1) = listJ L j ++ [smI (L.getD (2 * j) default) (L.getD (2 * j + 1) default)] := by
  unfold listJ
  rw [List.range_succ, List.map_append]; rfl
theorem listJ_len (L : List Int) (j : Nat) : (listJ L j).length = j := by unfold listJ; simp
theorem encV_C {out : List Iv} {e o : Nat} (ho : o < 4) : oneC (rowC encV out e o) = true ∧ isF (rowC encV out e o) = true := by
  obtain rfl | rfl | rfl | rfl : o = 0 ∨ o = 1 ∨ o = 2 ∨ o = 3 := by omega
  all_goals exact ⟨rfl, rfl⟩
section
variable {G : Nat → Option Obj}
theorem extIn_sound : SoundExt Tryd.prog G extIn := extOf_sound (by simp; exact ⟨okSubQ, okMulQ, okAddQ, okAround⟩)
set_option maxRecDepth 100000 in
theorem okInner : ModOK Tryd.prog G 14 mInner := by
  intro args p v hm hp h
  unfold mInner at hm
  split at hm; rotate_left; · cases hm
  rename_i n d m e t
  obtain ⟨rfl, rfl⟩ := some_pairQ hm
  clear hm
  refine fn_S Tryd.func14 (by kernel_rfl) rfl ?_ h
  refine ExS.evH extIn_sound (tIn n d m e t) ?_
  obtain ⟨k1, k2, k3, k4, k5⟩ := inn_ok hp.1 t
  simp only [holds_rq, holds_leaf, kf_ret']
  exact ⟨⟨hp.1.1.2, hp.1.1.1⟩, ⟨k1, vQ_eighth⟩, ⟨hp.2, by decide⟩, ⟨k2, k3⟩, ⟨hp.1.1.1, k4⟩, ⟨VLe.of_eq rfl⟩⟩
theorem extPt_sound : SoundExt Tryd.prog G extPt := extH_sound (by simp; exact ⟨okInner.lift, frzA_ok okFromI⟩)
set_option maxRecDepth 100000 in
theorem okPart : ModOK Tryd.prog G 5 mPart := by
  intro args p v hm hp h
  unfold mPart at hm
  split at hm; rotate_left; · cases hm
  rename_i n d m e a b
  obtain ⟨rfl, rfl⟩ := some_pairQ hm
  clear hm
  refine fn_S Tryd.func5 (by kernel_rfl) rfl ?_ h
  refine ExS.evH extPt_sound (tPt n d m e a b) ?_
  simp only [holds_rq, holds_leaf, kf_ret']
  refine ⟨⟨hp.1, hp.2.1⟩, ⟨hp.1, hp.2.2⟩, ⟨⟨?_, ?_⟩, (inn_ok hp.1 a).2.2.2.2, (inn_ok hp.1 b).2.2.2.2⟩, ⟨VLe.of_eq rfl⟩⟩
  · simp [conVs, conV, conC]
  · intro e o he ho
    obtain rfl | rfl : e = 0 ∨ e = 1 := by omega
    · obtain rfl | rfl : o = 0 ∨ o = 1 := by omega
      · rfl
      · rfl
    · obtain rfl | rfl : o = 0 ∨ o = 1 := by omega
      · rfl
      · rfl
theorem extLi_sound : SoundExt Tryd.prog G extLi := extOf_sound (by simp; exact okSmallI)
set_option maxRecDepth 100000 in
theorem okListI : ModOK Tryd.prog G 4 mListI := by
  intro args p v hm hp h
  unfold mListI at hm
  split at hm; rotate_left; · cases hm
  rename_i n f b
  obtain ⟨rfl, rfl⟩ := some_pairQ hm
  obtain ⟨⟨hL, hr⟩, rfl⟩ := hp
  have hlen : (decL decI n f).length = n := hL.1
  clear hm
  generalize decL decI n f = L at hL hr hlen ⊢
  refine FnS.args (args' := [listV encI 1 L, iV 10]) ?_ (.cons hL.le (.cons (VLe.refl _) .nil))
  clear hL
  subst hlen
  refine fn_S Tryd.func4 (by kernel_rfl) rfl ?_ h
  refine ExS.evG ext0_sound 3 (tLi1 L 10) ?_
  simp only [holds_leaf, kf_normal]
  refine ⟨?_⟩
  refine ExS.loop' (l := dropL 3 (pcs Tryd.prog Tryd.f4)) (b := inr (inr (nth .skip (pcs Tryd.prog Tryd.f4) 3))) (r := dropL 4 (pcs Tryd.prog Tryd.f4)) (id := 0) (by kernel_rfl) (σ := Nat)
    (fun j => (fun (out : List Iv) (b i : Int) => cst 34 [(0, listV encI 1 L), (1, iV b), (5, .c (.sl 0 4 0 out.length)), (6, iV i)] [.row 28 4 out.length (rowC encV out)]) (listJ L j) 10 ((2 * j : Nat) : Int)) (fun j => j ≤ min (L.length / 2) 10) (fun j => 10 - j) 0 (Nat.zero_le _)
    ((weak_nil 28 4 (rowC encV []) 5 (by kernel_rfl)).trans (weak_of_eq (by kernel_rfl))) ?_
  rintro j hj Q1 q1n q1e -
  try dsimp only at hj q1n q1e ⊢
  have hol := listJ_len L j
  refine ExS.evG ext0_sound 2 (tLi2 L (listJ L j) 10 ((2 * j : Nat) : Int)) ?_
  rw [hol]
  simp only [holds_bT, holds_rq, holds_leaf, kf_normal, kf_exit, decide_eq_true_eq, decide_eq_false_iff_not, inR]
  have hend : ¬ (j + 1 ≤ min (L.length / 2) 10) → ExS Tryd.prog G (resOf Tryd.prog Tryd.f4) (listV encV 4 (listJ L (min (L.length / 2) 10))) (dropL 4 (pcs Tryd.prog Tryd.f4)) ((fun (out : List Iv) (b i : Int) => cst 34 [(0, listV encI 1 L), (1, iV b), (5, .c (.sl 0 4 0 out.length)), (6, iV i)] [.row 28 4 out.length (rowC encV out)]) (listJ L j) 10 ((2 * j : Nat) : Int)) (fun _ _ => False) := by
    intro hh
    obtain rfl : j = min (L.length / 2) 10 := by omega
    refine ExS.evH ext0_sound (tLi4 L (listJ L (min (L.length / 2) 10)) 10 _) ?_
    simp only [holds_rq, holds_leaf, kf_ret']
    exact ⟨⟨by omega, fun e o _ ho => (encV_C ho).2⟩, ⟨VLe.refl _⟩⟩
  refine ⟨by omega, fun h1 => ⟨fun h2 => ⟨?_⟩, fun h2 => ⟨q1e _ ?_⟩⟩, fun h1 => ⟨q1e _ ?_⟩⟩
  · refine ExS.pre (st2 := (fun (out : List Iv) (b i : Int) => cst 34 [(0, listV encI 1 L), (1, iV b), (5, .c (.sl 0 4 0 out.length)), (6, iV i)] [.row 28 4 out.length (rowC encV out)]) (listJ L j) 10 ((2 * j : Nat) : Int)) (by dsimp only; rw [hol]; exact weak_of_eq (by kernel_rfl)) ?_
    refine ExS.evH extLi_sound (tLi3 L (listJ L j) 10 ((2 * j : Nat) : Int)) ?_
    rw [hol, show (((2 * j : Nat) : Int)).toNat = 2 * j from rfl, show (((2 * j : Nat) : Int) + 1).toNat = 2 * j + 1 from rfl]
    simp only [holds_rq, holds_leaf, kf_normal, inR]
    have r1 := hr (2 * j) (by omega)
    have r2 := hr (2 * j + 1) (by omega)
    simp only [inR] at r1 r2
    refine ⟨by omega, by omega, by omega, ⟨r1, r2⟩, trivial, by omega, ⟨by omega, by omega, fun e o he ho => ?_⟩, by omega, ⟨q1n (j + 1) _ (by omega) (by omega) ?_⟩⟩
    · obtain rfl : e = 0 := by omega
      obtain rfl | rfl | rfl | rfl : o = 0 ∨ o = 1 ∨ o = 2 ∨ o = 3 := by omega
      all_goals rfl
    · rw [listJ_succ]
      have hl2 : j + 1 = (listJ L j ++ [smI (L.getD (2 * j) default) (L.getD (2 * j + 1) default)]).length := by rw [List.length_append, hol]; rfl
      rw [← hl2, show ((2 * (j + 1) : Nat) : Int) = ((2 * j : Nat) : Int) + 2 by omega]
      refine weak_cst ?_
      refine ⟨⟨rfl, rfl, rfl, fun e o he ho => app1' hol ?_ he ho⟩, trivial⟩
      intro o ho
      obtain rfl | rfl | rfl | rfl : o = 0 ∨ o = 1 ∨ o = 2 ∨ o = 3 := by omega
      all_goals rfl
  · exact ExS.pre (by dsimp only; rw [hol]; exact weak_of_eq (by kernel_rfl)) (hend (by omega))
  · exact ExS.pre (by dsimp only; rw [hol]; exact weak_of_eq (by kernel_rfl)) (hend (by omega))
end
end Go.AE
