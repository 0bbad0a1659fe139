/- AE: ref01.Short; the laws RouteRota and RouteDuty. -/
import Derived.Test.YtaofgmfalldcoaaS17
import Derived.Test.YtaofgmfalldcoaaS16
namespace Go.AE
open Go.Proofs Go.Proofs.Ytaofgmfalldcoaa
set_option linter.unusedVariables false
set_option linter.unusedSimpArgs false
def shortB (s : ByteArray) (n : Int) : ByteArray := if n < s.size then s.extract 0 n.toNat else s
def mShort : Mod
  | [.c (.p (.s s)), .c (.p (.i .i64 n))] => some (0 ≤ n, .c (.p (.s (shortB s n))))
  | _ => none
noncomputable def extLR : Ext := extOf [(22, mRotaR), (23, mShort), (25, mShifts), (24, mRota), (26, mRota), (15, mLives)]
noncomputable def extLDu : Ext := extOf [(22, mRotaR), (11, mAround), (27, mLDuty), (15, mLives)]

theorem tSh (s : ByteArray) (n : Int) : exTs ext0 (pcs Try.prog Try.f23) (st0 Try.f23 [.c (.p (.s s)), iV n]) (endG [] (resOf Try.prog Try.f23)) = bT (decide (n < (↑s.size : Int))) (Tr.rq (0 ≤ (↑0 : Int) ∧ (↑0 : Int) ≤ n ∧ n ≤ (↑s.size : Int)) (Tr.done X.ret (St.mk [V.c (C.p (PV.s (s.extract (↑0 : Int).toNat n.toNat)))] [])))
    (Tr.done X.ret (St.mk [V.c (C.p (PV.s s))] [])) := by kernel_rfl
theorem tLR1 (L : List Int) (p : Int) (s : ByteArray) (a b : Int) : exTs extLR (takeL 4 (pcs Try.prog Try.f7)) (st0 Try.f7 [listV encI 1 L, iV p, .c (.p (.s s)), iV a, iV b]) (endG (msk 61 [1, 11, 12, 13, 14]) (resOf Try.prog Try.f7)) = Tr.rq (IsL encI 1 (decL decI L.length (rowP encI L)) L.length (rowP encI L) ∧ Ints (decL decI L.length (rowP encI L)))
    (Tr.rq (Int.ofNat 0 ≤ Int.ofNat 20)
      (Tr.rq (Int.ofNat 0 ≤ Int.ofNat 0 ∧ 0 < (↑1 : Int))
        (Tr.rq (0 < 1)
          (Tr.done X.normal
            (cst 61 [(1, V.c (C.p (PV.i IntKind.i64 p))), (11, V.c (C.p (PV.i IntKind.i64 (rotaP (decL decI L.length (rowP encI L)))))), (12, V.c (C.p (PV.l 3 (rotaL true (decL decI L.length (rowP encI L))).length (rowP enc3 (rotaL true (decL decI L.length (rowP encI L))))))), (13, V.c (C.sl 0 3 0 1)), (14, V.c (C.sl 1 3 0 2))] [AO.row 50 3 1 fun e o => renC [0, 1] (nth C.top [C.p (PV.s (shortB s 20)), C.p (PV.i IntKind.i64 a), C.p (PV.i IntKind.i64 b)] (e * 3 + o)), AO.row 50 3 2 fun e o => renC [0, 1] (nth C.top [C.p (PV.s (ByteArray.mk #[97, 110, 110])), C.p (PV.i IntKind.i64 0), C.p (PV.i IntKind.i64 p), C.p (PV.s (shortB s 20)), C.p (PV.i IntKind.i64 a), C.p (PV.i IntKind.i64 b)] (e * 3 + o))]))))) := by kernel_rfl
theorem tLR2 (p q : Int) (M A B : List Sh) : exTs extLR (dropL 4 (pcs Try.prog Try.f7)) (cst 61 [(1, iV p), (11, iV q), (12, listV enc3 3 M), (13, listV enc3 3 A), (14, listV enc3 3 B)] []) (endG [] (resOf Try.prog Try.f7)) = Tr.rq (IsL enc3 3 (decL dec3 M.length (rowP enc3 M)) M.length (rowP enc3 M) ∧ M.length ≤ 1000000)
    (Tr.rq
      (IsL enc3 3 (decL dec3 (decL dec3 M.length (rowP enc3 M)).length (rowP enc3 (decL dec3 M.length (rowP enc3 M)))) (decL dec3 M.length (rowP enc3 M)).length
          (rowP enc3 (decL dec3 M.length (rowP enc3 M))) ∧
        (decL dec3 M.length (rowP enc3 M)).length ≤ 1000000)
      (Tr.rq (IsL enc3 3 (decL dec3 M.length (rowP enc3 M)) M.length (rowP enc3 M) ∧ M.length ≤ 1000000)
        (bT (rotaZ q (decL dec3 (decL dec3 M.length (rowP enc3 M)).length (rowP enc3 (decL dec3 M.length (rowP enc3 M)))) != rotaZ q (decL dec3 M.length (rowP enc3 M)))
          (Tr.done X.ret (St.mk [V.c (C.p (PV.b false))] []))
          (Tr.rq (IsL enc3 3 (decL dec3 A.length (rowP enc3 A)) A.length (rowP enc3 A) ∧ A.length ≤ 1000000)
            (Tr.rq
              (IsL enc3 3 (decL dec3 (decL dec3 A.length (rowP enc3 A)).length (rowP enc3 (decL dec3 A.length (rowP enc3 A)))) (decL dec3 A.length (rowP enc3 A)).length
                  (rowP enc3 (decL dec3 A.length (rowP enc3 A))) ∧
                (decL dec3 A.length (rowP enc3 A)).length ≤ 1000000)
              (Tr.rq (IsL enc3 3 (decL dec3 A.length (rowP enc3 A)) A.length (rowP enc3 A) ∧ A.length ≤ 1000000)
                (bT (rotaZ p (decL dec3 (decL dec3 A.length (rowP enc3 A)).length (rowP enc3 (decL dec3 A.length (rowP enc3 A)))) != rotaZ p (decL dec3 A.length (rowP enc3 A)))
                  (Tr.done X.ret (St.mk [V.c (C.p (PV.b false))] []))
                  (Tr.rq (IsL enc3 3 (decL dec3 B.length (rowP enc3 B)) B.length (rowP enc3 B) ∧ B.length ≤ 1000000)
                    (Tr.rq
                      (IsL enc3 3 (decL dec3 (decL dec3 B.length (rowP enc3 B)).length (rowP enc3 (decL dec3 B.length (rowP enc3 B)))) (decL dec3 B.length (rowP enc3 B)).length
                          (rowP enc3 (decL dec3 B.length (rowP enc3 B))) ∧
                        (decL dec3 B.length (rowP enc3 B)).length ≤ 1000000)
                      (Tr.rq (IsL enc3 3 (decL dec3 B.length (rowP enc3 B)) B.length (rowP enc3 B) ∧ B.length ≤ 1000000)
                        (bT (rotaZ p (decL dec3 (decL dec3 B.length (rowP enc3 B)).length (rowP enc3 (decL dec3 B.length (rowP enc3 B)))) == rotaZ p (decL dec3 B.length (rowP enc3 B)))
                          (Tr.rq True (Tr.done X.ret (St.mk [V.c (C.p (PV.b true))] []))) (Tr.done X.ret (St.mk [V.c (C.p (PV.b false))] []))))))))))))) := by kernel_rfl
theorem tLD1 (L : List Int) (t l : Int) : exTs extLDu (pcs Try.prog Try.f8) (st0 Try.f8 [listV encI 1 L, iV t, iV l]) (endG [] (resOf Try.prog Try.f8)) = Tr.rq (IsL encI 1 (decL decI L.length (rowP encI L)) L.length (rowP encI L) ∧ Ints (decL decI L.length (rowP encI L)))
    (Tr.rq (IsL encI 1 (decL decI L.length (rowP encI L)) L.length (rowP encI L) ∧ Ints (decL decI L.length (rowP encI L)))
      (Tr.rq (inR IntKind.i64 t ∧ Int.ofNat 0 < Int.ofNat 40)
        (Tr.rq (inR IntKind.i64 l ∧ Int.ofNat 0 < Int.ofNat 5)
          (Tr.rq (inR IntKind.i64 (aroundZ l 5 - 1))
            (Tr.rq
              (IsL enc3 3 (decL dec3 (rotaL true (decL decI L.length (rowP encI L))).length (rowP enc3 (rotaL true (decL decI L.length (rowP encI L)))))
                  (rotaL true (decL decI L.length (rowP encI L))).length (rowP enc3 (rotaL true (decL decI L.length (rowP encI L)))) ∧
                (rotaL true (decL decI L.length (rowP encI L))).length ≤ 1000000)
              (Tr.rq
                (IsL enc3 3 (decL dec3 (rotaL true (decL decI L.length (rowP encI L))).length (rowP enc3 (rotaL true (decL decI L.length (rowP encI L)))))
                    (rotaL true (decL decI L.length (rowP encI L))).length (rowP enc3 (rotaL true (decL decI L.length (rowP encI L)))) ∧
                  (rotaL true (decL decI L.length (rowP encI L))).length ≤ 1000000)
                (Tr.rq
                  (IsL enc3 3 (decL dec3 (rotaL false (decL decI L.length (rowP encI L))).length (rowP enc3 (rotaL false (decL decI L.length (rowP encI L)))))
                      (rotaL false (decL decI L.length (rowP encI L))).length (rowP enc3 (rotaL false (decL decI L.length (rowP encI L)))) ∧
                    (rotaL false (decL decI L.length (rowP encI L))).length ≤ 1000000)
                  (Tr.rq
                    (IsL enc3 3 (decL dec3 (rotaL false (decL decI L.length (rowP encI L))).length (rowP enc3 (rotaL false (decL decI L.length (rowP encI L)))))
                        (rotaL false (decL decI L.length (rowP encI L))).length (rowP enc3 (rotaL false (decL decI L.length (rowP encI L)))) ∧
                      (rotaL false (decL decI L.length (rowP encI L))).length ≤ 1000000)
                    (Tr.rq True (Tr.done X.ret (St.mk [V.c (C.p (PV.b true))] []))))))))))) := by kernel_rfl
theorem rotaL_length (d : Bool) (L : List Int) : (rotaL d L).length ≤ 7 := by
  have hK := pickZ_range L 1 (m := 6) (by omega)
  have h1 : rotaK L ≤ 6 := by unfold rotaK; omega
  unfold rotaL
  split
  · rw [List.length_append, rotaS_length]; simp only [List.length]; omega
  · rw [rotaS_length]; omega
section
variable {G : Nat → Option Obj}
theorem okShort : ModOK Try.prog G 23 mShort := by
  intro args p v hm hp h
  unfold mShort at hm
  split at hm; rotate_left; · cases hm
  rename_i s n
  obtain ⟨rfl, rfl⟩ := some_pair hm
  refine fn_S Try.func23 (by kernel_rfl) rfl ?_ h
  refine ExS.evH ext0_sound (tSh s n) ?_
  simp only [holds_bT, holds_rq, holds_leaf, kf_ret', decide_eq_true_eq, decide_eq_false_iff_not]
  refine ⟨fun c1 => ⟨⟨by omega, by omega, by omega⟩, ⟨?_⟩⟩, fun c1 => ⟨?_⟩⟩
  · unfold shortB; rw [if_pos c1]; exact VLe.refl _
  · unfold shortB; rw [if_neg c1]; exact VLe.refl _
theorem extLR_sound : SoundExt Try.prog G extLR := extOf_sound (by simp; exact ⟨okRotaR, okShort, okShifts, okValidRota, okValidRotaR, okLives⟩)
theorem extLDu_sound : SoundExt Try.prog G extLDu := extOf_sound (by simp; exact ⟨okRotaR, okAround, okLDuty, okLives⟩)
set_option maxRecDepth 100000 in
theorem routeDuty_fn {L : List Int} {t l : Int} (hI : Ints L) (ht : inR .i64 t) (hl : inR .i64 l) (h : List AO) : FnS Try.prog G 8 [listV encI 1 L, iV t, iV l] h fun x h' => x = bV true ∧ h' = h := by
  refine fn_S Try.func8 (by kernel_rfl) rfl ?_ h
  refine ExS.evH extLDu_sound (tLD1 L t l) ?_
  have h1 := fun d => Nat.le_trans (rotaL_length d L) (show 7 ≤ 1000000 by omega)
  have h3 := around_range l (m := 5) (by omega)
  simp only [holds_bT, holds_rq, holds_leaf, kf_ret', decI_row, dec3_row, isL_row, ofn_lt, true_and, and_true, inR, h1]
  exact ⟨hI, hI, ⟨ht, by decide⟩, ⟨hl, by decide⟩, by omega, ⟨VLe.refl _⟩⟩
set_option maxRecDepth 100000 in
theorem routeRota_fn {L : List Int} {p a b : Int} {s : ByteArray} (hI : Ints L) (hp : inR .i64 p) (ha : inR .i64 a) (hb : inR .i64 b) (h : List AO) : FnS Try.prog G 7 [listV encI 1 L, iV p, .c (.p (.s s)), iV a, iV b] h fun x h' => x = bV true ∧ h' = h := by
  refine fn_S Try.func7 (by kernel_rfl) rfl ?_ h
  refine ExS.evG extLR_sound 4 (tLR1 L p s a b) ?_
  simp only [holds_bT, holds_rq, holds_leaf, kf_normal, decI_row, isL_row, ofn_lt, true_and, and_true]
  refine ⟨hI, by decide, ⟨by decide, by decide⟩, by decide, ⟨?_⟩⟩
  generalize shortB s 20 = u
  have f1 : ∀ e o : Nat, e < 1 → o < 3 → renC [0, 1] (nth C.top [C.p (PV.s u), C.p (PV.i IntKind.i64 a), C.p (PV.i IntKind.i64 b)] (e * 3 + o)) = .p (rowP enc3 [(u, a, b)] e o) := by
    intro e o he ho
    obtain rfl : e = 0 := by omega
    have ho : o = 0 ∨ o = 1 ∨ o = 2 := by omega
    rcases ho with rfl | rfl | rfl <;> rfl
  have f2 : ∀ e o : Nat, e < 2 → o < 3 → nth C.top [C.p (PV.s { data := #[97, 110, 110] }), C.p (PV.i IntKind.i64 0), C.p (PV.i IntKind.i64 p), C.p (PV.s u), C.p (PV.i IntKind.i64 a), C.p (PV.i IntKind.i64 b)] (e * 3 + o) = .p (rowP enc3 [(⟨#[97, 110, 110]⟩, 0, p), (u, a, b)] e o) := by
    intro e o he ho
    have he : e = 0 ∨ e = 1 := by omega
    have ho : o = 0 ∨ o = 1 ∨ o = 2 := by omega
    rcases he with rfl | rfl <;> rcases ho with rfl | rfl | rfl <;> rfl
  refine ExS.pre ((weak_frzL (id := 0) (ty := 50) (sz := 3) (n := 1) (f := fun e o => renC [0, 1] (nth C.top [C.p (PV.s u), C.p (PV.i IntKind.i64 a), C.p (PV.i IntKind.i64 b)] (e * 3 + o))) (rowP enc3 [(u, a, b)]) (by kernel_rfl) (fun e o he ho => by rw [f1 e o he ho]; rfl) (fun e o he ho => by rw [f1 e o he ho]; exact PLe.refl _) (ps := [(0, 1)]) (by kernel_rfl) (by simp)).trans (weak_gc (msk 61 [1, 11, 12, 13, 14]) _)) ?_
  refine ExS.pre ((weak_frzL (id := 0) (ty := 50) (sz := 3) (n := 2) (f := fun e o => renC [1] (renC [0, 1] (nth C.top [C.p (PV.s { data := #[97, 110, 110] }), C.p (PV.i IntKind.i64 0), C.p (PV.i IntKind.i64 p), C.p (PV.s u), C.p (PV.i IntKind.i64 a), C.p (PV.i IntKind.i64 b)] (e * 3 + o)))) (rowP enc3 [(⟨#[97, 110, 110]⟩, 0, p), (u, a, b)]) (by kernel_rfl) (fun e o he ho => by rw [f2 e o he ho]; rfl) (fun e o he ho => by rw [f2 e o he ho]; exact PLe.refl _) (ps := [(0, 2)]) (by kernel_rfl) (by simp)).trans (weak_gc (msk 61 [1, 11, 12, 13, 14]) _)) ?_
  refine ExS.evH extLR_sound (tLR2 p (rotaP L) (rotaL true L) [(u, a, b)] [(⟨#[97, 110, 110]⟩, 0, p), (u, a, b)]) ?_
  have h1 := fun d => Nat.le_trans (rotaL_length d L) (show 7 ≤ 1000000 by omega)
  have h2 : ∀ x : Sh, [x].length ≤ 1000000 := fun x => by show 1 ≤ 1000000; omega
  have h3 : ∀ x y : Sh, [x, y].length ≤ 1000000 := fun x y => by show 2 ≤ 1000000; omega
  simp only [holds_bT, holds_rq, holds_leaf, kf_ret', dec3_row, isL_row, bne_self_eq_false, beq_self_eq_true, h1, h2, h3, Bool.false_eq_true, Bool.true_eq_false, false_imp_iff, true_imp_iff, and_true, true_and]
  exact ⟨VLe.refl _⟩
end
end Go.AE
