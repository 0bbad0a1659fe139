/- AE contracts: ref01.Pick, ref10.Labels, ref31.Same, Page, texts, order, tick. -/
import Derived.Test.YtfjihbmehhccoaaP24
namespace Go.AE
set_option linter.unusedVariables false
set_option linter.unusedSimpArgs false
open Go.Proofs Go.Proofs.Ytfjihbmehhccoaa Gp Go.RowKit
def pickZ (L : List Int) (i m : Int) : Int := if i < 0 ∨ L.length ≤ i then 0 else aroundZ (L.getD i.toNat default) m
def mPick : Mod
  | [x, .c (.p (.i .i64 i)), .c (.p (.i .i64 m))] => match liOf x with
    | some (p, A) => some (p ∧ (∀ t ∈ A, inR .i64 t) ∧ 0 < m, iV (pickZ A i m))
    | none => none
  | _ => none
def labZ (n : Int) : List (ByteArray × ByteArray) :=
  if aroundZ n 4 = 1 then [(⟨#[104, 111, 115, 116]⟩, ⟨#[97]⟩)]
  else if aroundZ n 4 = 2 then [(⟨#[104, 111, 115, 116]⟩, ⟨#[98]⟩)]
  else if aroundZ n 4 = 3 then [(⟨#[104, 111, 115, 116]⟩, ⟨#[98]⟩), (⟨#[122, 111, 110, 101]⟩, ⟨#[120]⟩)]
  else []
def mLabels10 : Mod
  | [.c (.p (.i .i64 n))] => some (inR .i64 n, listV enc2 2 (labZ n))
  | _ => none
/-- The same must. -/
def sameM (a b : Pg) : Bool := decide (a.L = b.L) && (decide (a.ru = b.ru) && (decide (a.ve = b.ve) && decide (a.st = b.st)))
def mGSame : Mod
  | [x, y] => match pgOf x, pgOf y with
    | some (p, a), some (q, b) => some ((p ∧ q) ∧ (a.L.length ≤ 1000000 ∨ b.L.length ≤ 1000000), bV (sameM a b))
    | _, _ => none
  | _ => none
def extPk : Ext := extOf [(21, mPick), (41, mLabels10)]
def extLs : Ext := extOf [(81, mLSame)]
theorem tPick (L : List Int) (i m : Int) : exTs extA (pcs Try.prog Try.f21) (st0 Try.f21 [listV encI 1 L, iV i, iV m]) (endF [] [] (resOf Try.prog Try.f21)) = bT (decide (i < 0)) (Tr.done X.ret (St.mk [V.c (C.p (PV.i IntKind.i64 0))] []))
    (bT (decide ((↑L.length : Int) ≤ i)) (Tr.done X.ret (St.mk [V.c (C.p (PV.i IntKind.i64 0))] []))
      (Tr.rq (0 ≤ i ∧ i < (↑L.length : Int)) (Tr.rq (inR IntKind.i64 (L.getD i.toNat default) ∧ 0 < m) (Tr.done X.ret (St.mk [V.c (C.p (PV.i IntKind.i64 (aroundZ (L.getD i.toNat default) m)))] []))))) := by kernel_rfl
theorem tLab (n : Int) : exTs extA (pcs Try.prog Try.f41) (st0 Try.f41 [iV n]) (endF [] [] (resOf Try.prog Try.f41)) = Tr.rq (inR IntKind.i64 n ∧ Int.ofNat 0 < Int.ofNat 4)
    (bT (aroundZ n 4 == 1)
      (Tr.rq (1 ≤ 1 ∧ ∀ (e o : Nat), e < 1 → o < 2 → isF (nth C.top [C.p (PV.s (ByteArray.mk #[104, 111, 115, 116])), C.p (PV.s (ByteArray.mk #[97]))] ((e + 0) * 2 + o)) = true)
        (Tr.done X.ret (St.mk [V.c (C.p (PV.l 2 1 fun e o => unP (nth C.top [C.p (PV.s (ByteArray.mk #[104, 111, 115, 116])), C.p (PV.s (ByteArray.mk #[97]))] ((e + 0) * 2 + o))))] [])))
      (bT (aroundZ n 4 == 2)
        (Tr.rq (1 ≤ 1 ∧ ∀ (e o : Nat), e < 1 → o < 2 → isF (nth C.top [C.p (PV.s (ByteArray.mk #[104, 111, 115, 116])), C.p (PV.s (ByteArray.mk #[98]))] ((e + 0) * 2 + o)) = true)
          (Tr.done X.ret (St.mk [V.c (C.p (PV.l 2 1 fun e o => unP (nth C.top [C.p (PV.s (ByteArray.mk #[104, 111, 115, 116])), C.p (PV.s (ByteArray.mk #[98]))] ((e + 0) * 2 + o))))] [])))
        (bT (aroundZ n 4 == 3)
          (Tr.rq
            (2 ≤ 2 ∧
              ∀ (e o : Nat),
                e < 2 →
                  o < 2 →
                    isF
                        (nth C.top [C.p (PV.s (ByteArray.mk #[104, 111, 115, 116])), C.p (PV.s (ByteArray.mk #[98])), C.p (PV.s (ByteArray.mk #[122, 111, 110, 101])), C.p (PV.s (ByteArray.mk #[120]))]
                          ((e + 0) * 2 + o)) =
                      true)
            (Tr.done X.ret
              (St.mk [V.c (C.p (PV.l 2 2 fun e o => unP (nth C.top [C.p (PV.s (ByteArray.mk #[104, 111, 115, 116])), C.p (PV.s (ByteArray.mk #[98])), C.p (PV.s (ByteArray.mk #[122, 111, 110, 101])), C.p (PV.s (ByteArray.mk #[120]))] ((e + 0) * 2 + o))))] [])))
          (Tr.done X.ret (St.mk [V.c (C.p (PV.z (Value.slice none 0 0)))] []))))) := by kernel_rfl
theorem tSameG (a0 a2 a4 a5 b0 b2 b4 b5 : Int) (a1 a6 b1 b6 : ByteArray) (a3 b3 : List (ByteArray × ByteArray)) : exTs extLs (pcs Try.prog Try.f55) (st0 Try.f55 [pgW a0 a1 a2 a3 a4 a5 a6, pgW b0 b1 b2 b3 b4 b5 b6]) (endF [] [] (resOf Try.prog Try.f55)) = Tr.rq
    ((IsL enc2 2 (decL dec2 a3.length (rowP enc2 a3)) a3.length (rowP enc2 a3) ∧ IsL enc2 2 (decL dec2 b3.length (rowP enc2 b3)) b3.length (rowP enc2 b3)) ∧ (a3.length ≤ 1000000 ∨ b3.length ≤ 1000000))
    (bT (decide (decL dec2 a3.length (rowP enc2 a3) = decL dec2 b3.length (rowP enc2 b3)))
      (bT (a1.toList == b1.toList) (bT (a2 == b2) (Tr.done X.ret (St.mk [V.c (C.p (PV.b (a4 == b4)))] [])) (Tr.done X.ret (St.mk [V.c (C.p (PV.b false))] [])))
        (Tr.done X.ret (St.mk [V.c (C.p (PV.b false))] [])))
      (Tr.done X.ret (St.mk [V.c (C.p (PV.b false))] []))) := by kernel_rfl
theorem tTexts (a b : ByteArray) : exT ext0 (codeOf Try.prog Try.f62) (st0 Try.f62 [sV a, sV b]) (endF [] [] (resOf Try.prog Try.f62)) = bT (Op.bytesLess a.toList b.toList) (Tr.done X.ret (St.mk [V.c (C.p (PV.i IntKind.i64 (-1)))] []))
    (bT (!(Op.bytesLess a.toList b.toList || a.toList == b.toList)) (Tr.done X.ret (St.mk [V.c (C.p (PV.i IntKind.i64 1))] [])) (Tr.done X.ret (St.mk [V.c (C.p (PV.i IntKind.i64 0))] []))) := by kernel_rfl
theorem tOrdG (a b : Int) : exT ext0 (codeOf Try.prog Try.f63) (st0 Try.f63 [iV a, iV b]) (endF [] [] (resOf Try.prog Try.f63)) = bT (decide (a < b)) (Tr.done X.ret (St.mk [V.c (C.p (PV.i IntKind.i64 (-1)))] []))
    (bT (decide (b < a)) (Tr.done X.ret (St.mk [V.c (C.p (PV.i IntKind.i64 1))] [])) (Tr.done X.ret (St.mk [V.c (C.p (PV.i IntKind.i64 0))] []))) := by kernel_rfl
theorem tTickG (a : Int) : exT ext0 (codeOf Try.prog Try.f51) (st0 Try.f51 [iV a]) (endF [] [] (resOf Try.prog Try.f51)) = bT (decide (0 ≤ a)) (Tr.done X.ret (St.mk [V.c (C.p (PV.b (decide (a ≤ 1048576))))] [])) (Tr.done X.ret (St.mk [V.c (C.p (PV.b false))] [])) := by kernel_rfl
theorem tPage (L : List Int) (i : Int) : exT extPk (codeOf Try.prog Try.f13) (st0 Try.f13 [listV encI 1 L, iV i]) (endF [] [] (resOf Try.prog Try.f13)) = Tr.rq (IsL encI 1 (decL decI L.length (rowP encI L)) L.length (rowP encI L) ∧ (∀ (t : Int), t ∈ decL decI L.length (rowP encI L) → inR IntKind.i64 t) ∧ Int.ofNat 0 < Int.ofNat 8)
    (Tr.rq (0 ≤ pickZ (decL decI L.length (rowP encI L)) i 8 ∧ Int.ofNat 0 < Int.ofNat 7 ∧ inR IntKind.i64 (pickZ (decL decI L.length (rowP encI L)) i 8 / 7))
      (Tr.rq (0 ≤ pickZ (decL decI L.length (rowP encI L)) i 8 / 7 ∧ pickZ (decL decI L.length (rowP encI L)) i 8 / 7 < (↑2 : Int))
        (Tr.rq ((pickZ (decL decI L.length (rowP encI L)) i 8 / 7).toNat + 0 < 2)
          (Tr.rq (inR IntKind.i64 (i + 1))
            (Tr.rq (IsL encI 1 (decL decI L.length (rowP encI L)) L.length (rowP encI L) ∧ (∀ (t : Int), t ∈ decL decI L.length (rowP encI L) → inR IntKind.i64 t) ∧ Int.ofNat 0 < Int.ofNat 8)
              (Tr.rq (0 ≤ pickZ (decL decI L.length (rowP encI L)) (i + 1) 8 ∧ Int.ofNat 0 < Int.ofNat 7 ∧ inR IntKind.i64 (pickZ (decL decI L.length (rowP encI L)) (i + 1) 8 / 7))
                (Tr.rq (inR IntKind.i64 (1 + pickZ (decL decI L.length (rowP encI L)) (i + 1) 8 / 7))
                  (Tr.rq (inR IntKind.i64 (i + 2))
                    (Tr.rq (IsL encI 1 (decL decI L.length (rowP encI L)) L.length (rowP encI L) ∧ (∀ (t : Int), t ∈ decL decI L.length (rowP encI L) → inR IntKind.i64 t) ∧ Int.ofNat 0 < Int.ofNat 4)
                      (Tr.rq (0 ≤ pickZ (decL decI L.length (rowP encI L)) (i + 2) 4 ∧ Int.ofNat 0 < Int.ofNat 2 ∧ inR IntKind.i64 (pickZ (decL decI L.length (rowP encI L)) (i + 2) 4 / 2))
                        (Tr.rq (inR IntKind.i64 (pickZ (decL decI L.length (rowP encI L)) (i + 2) 4 / 2))
                          (Tr.rq (inR IntKind.i64 (i + 3))
                            (Tr.rq
                              (IsL encI 1 (decL decI L.length (rowP encI L)) L.length (rowP encI L) ∧ (∀ (t : Int), t ∈ decL decI L.length (rowP encI L) → inR IntKind.i64 t) ∧ Int.ofNat 0 < Int.ofNat 6)
                              (Tr.rq (inR IntKind.i64 (i + 4))
                                (Tr.rq
                                  (IsL encI 1 (decL decI L.length (rowP encI L)) L.length (rowP encI L) ∧
                                    (∀ (t : Int), t ∈ decL decI L.length (rowP encI L) → inR IntKind.i64 t) ∧ Int.ofNat 0 < Int.ofNat 4)
                                  (Tr.rq (inR IntKind.i64 (pickZ (decL decI L.length (rowP encI L)) (i + 3) 6 + pickZ (decL decI L.length (rowP encI L)) (i + 4) 4))
                                    (Tr.rq (inR IntKind.i64 (i + 5))
                                      (Tr.rq
                                        (IsL encI 1 (decL decI L.length (rowP encI L)) L.length (rowP encI L) ∧
                                          (∀ (t : Int), t ∈ decL decI L.length (rowP encI L) → inR IntKind.i64 t) ∧ Int.ofNat 0 < Int.ofNat 3)
                                        (Tr.rq (0 ≤ pickZ (decL decI L.length (rowP encI L)) (i + 5) 3 ∧ pickZ (decL decI L.length (rowP encI L)) (i + 5) 3 < (↑3 : Int))
                                          (Tr.rq ((pickZ (decL decI L.length (rowP encI L)) (i + 5) 3).toNat + 0 < 3)
                                            (Tr.done X.ret
                                              (St.mk [V.a [C.p (PV.i IntKind.i64 0), C.p (PV.s (nth (ByteArray.mk #[]) [ByteArray.mk #[104, 111, 116], ByteArray.mk #[99, 111, 108, 100]] ((pickZ (decL decI L.length (rowP encI L)) i 8 / 7).toNat + 0))), C.p (PV.i IntKind.i64 (1 + pickZ (decL decI L.length (rowP encI L)) (i + 1) 8 / 7)), C.p (PV.l 2 (labZ (pickZ (decL decI L.length (rowP encI L)) (i + 2) 4 / 2)).length (rowP enc2 (labZ (pickZ (decL decI L.length (rowP encI L)) (i + 2) 4 / 2)))), C.p (PV.i IntKind.i64 (pickZ (decL decI L.length (rowP encI L)) (i + 3) 6)), C.p (PV.i IntKind.i64 (pickZ (decL decI L.length (rowP encI L)) (i + 3) 6 + pickZ (decL decI L.length (rowP encI L)) (i + 4) 4)), C.p (PV.s (nth (ByteArray.mk #[]) [ByteArray.mk #[], ByteArray.mk #[111, 112, 115], ByteArray.mk #[97, 98, 99, 100, 101, 102, 103, 104, 105, 106, 107, 108, 109, 110, 111, 112]] ((pickZ (decL decI L.length (rowP encI L)) (i + 5) 3).toNat + 0)))]] [])))))))))))))))))))))) := by kernel_rfl
def pageZ (L : List Int) (i : Int) : Pg := ⟨0, nth ⟨#[]⟩ [⟨#[104, 111, 116]⟩, ⟨#[99, 111, 108, 100]⟩] (pickZ L i 8 / 7).toNat, 1 + pickZ L (i + 1) 8 / 7, labZ (pickZ L (i + 2) 4 / 2), pickZ L (i + 3) 6, pickZ L (i + 3) 6 + pickZ L (i + 4) 4, nth ⟨#[]⟩ [⟨#[]⟩, ⟨#[111, 112, 115]⟩, ⟨#[97, 98, 99, 100, 101, 102, 103, 104, 105, 106, 107, 108, 109, 110, 111, 112]⟩] (pickZ L (i + 5) 3).toNat⟩
def inPos (i : Int) : Prop := -1000 ≤ i ∧ i ≤ 1000000
def mGPage : Mod
  | [x, .c (.p (.i .i64 i))] => match liOf x with
    | some (p, A) => some (p ∧ (∀ t ∈ A, inR .i64 t) ∧ inPos i, pgV (pageZ A i))
    | none => none
  | _ => none
theorem pick_in {L : List Int} {i m : Int} (h : 0 < m) : 0 ≤ pickZ L i m ∧ pickZ L i m < m := by
  unfold pickZ
  split
  · omega
  · exact ⟨Int.emod_nonneg _ (by omega), Int.emod_lt_of_pos _ h⟩
section
variable {G : Nat → Option Obj}
set_option maxRecDepth 100000 in
theorem okPick : ModOK Try.prog G 21 mPick := by
  intro args p v hm hp h
  unfold mPick at hm
  split at hm; rotate_left; · cases hm
  split at hm; rotate_left; · cases hm
  rename_i x i m _ q L hx
  obtain ⟨rfl, rfl⟩ := some_pair hm
  obtain ⟨hL, hI, hm0⟩ := hp
  refine FnS.args (args' := [listV encI 1 L, iV i, iV m]) ?_ (.cons (liOf_le hx hL) (.cons (.refl _) (.cons (.refl _) .nil)))
  refine fn_S Try.func21 (by kernel_rfl) rfl ?_ h
  refine ExS.evA extA_sound [] [] rfl (tPick L i m) ?_
  have bad : (i < 0 ∨ L.length ≤ i) → VLe (V.c (C.p (PV.i .i64 0))) (iV (pickZ L i m)) := fun hi => by
    unfold pickZ; rw [if_pos hi]; exact VLe.refl _
  have good : ¬ (i < 0 ∨ L.length ≤ i) → VLe (iV (aroundZ (L.getD i.toNat default) m)) (iV (pickZ L i m)) := fun hi => by
    unfold pickZ; rw [if_neg hi]; exact VLe.refl _
  have hin : ¬ (i < 0 ∨ L.length ≤ i) → inR .i64 (L.getD i.toNat default) := fun hi => hI _ (getD_memI (by omega))
  clear hm hx
  simp only [holds_bT, holds_rq, holds_leaf, kf_ret', decide_eq_true_eq, decide_eq_false_iff_not]
  refine ⟨fun h1 => ⟨bad (.inl h1)⟩, fun h1 => ⟨fun h2 => ⟨bad (.inr h2)⟩, fun h2 => ⟨⟨by omega, by omega⟩, ⟨hin (by omega), hm0⟩, ⟨good (by omega)⟩⟩⟩⟩
theorem isL2L (x y : ByteArray) : IsL enc2 2 [(x, y)] 1 fun e o => unP (nth C.top [C.p (.s x), C.p (.s y)] ((e + 0) * 2 + o)) := ⟨rfl, fun e o he ho => by
  obtain rfl : e = 0 := by omega
  have : o = 0 ∨ o = 1 := by omega
  rcases this with rfl | rfl <;> rfl⟩
theorem isL4L (x y z w : ByteArray) : IsL enc2 2 [(x, y), (z, w)] 2 fun e o => unP (nth C.top [C.p (.s x), C.p (.s y), C.p (.s z), C.p (.s w)] ((e + 0) * 2 + o)) := ⟨rfl, fun e o he ho => by
  have : e = 0 ∨ e = 1 := by omega
  have h2 : o = 0 ∨ o = 1 := by omega
  rcases this with rfl | rfl <;> rcases h2 with rfl | rfl <;> rfl⟩
set_option maxRecDepth 100000 in
theorem okLabels10 : ModOK Try.prog G 41 mLabels10 := by
  intro args p v hm hp h
  unfold mLabels10 at hm
  split at hm; rotate_left; · cases hm
  rename_i n
  obtain ⟨rfl, rfl⟩ := some_pair hm
  refine fn_S Try.func41 (by kernel_rfl) rfl ?_ h
  refine ExS.evA extA_sound [] [] rfl (tLab n) ?_
  simp only [holds_bT, holds_rq, holds_leaf, kf_ret', beq_iff_eq, beq_eq_false_iff_ne, ne_eq]
  unfold labZ
  refine ⟨⟨hp, by decide⟩, fun h1 => ⟨⟨by decide, fun e o he ho => ?_⟩, ⟨?_⟩⟩, fun h1 => ⟨fun h2 => ⟨⟨by decide, fun e o he ho => ?_⟩, ⟨?_⟩⟩, fun h2 => ⟨fun h3 => ⟨⟨by decide, fun e o he ho => ?_⟩, ⟨?_⟩⟩, fun h3 => ⟨?_⟩⟩⟩⟩
  · obtain rfl : e = 0 := by omega
    have : o = 0 ∨ o = 1 := by omega
    rcases this with rfl | rfl <;> rfl
  · rw [if_pos h1]; exact (isL2L _ _).le
  · obtain rfl : e = 0 := by omega
    have : o = 0 ∨ o = 1 := by omega
    rcases this with rfl | rfl <;> rfl
  · rw [if_neg h1, if_pos h2]; exact (isL2L _ _).le
  · have : e = 0 ∨ e = 1 := by omega
    have h2 : o = 0 ∨ o = 1 := by omega
    rcases this with rfl | rfl <;> rcases h2 with rfl | rfl <;> rfl
  · rw [if_neg h1, if_neg h2, if_pos h3]; exact (isL4L _ _ _ _).le
  · rw [if_neg h1, if_neg h2, if_neg h3]; exact VLe.p (PLe.nil 2 _)
theorem extPk_sound : SoundExt Try.prog G extPk := extOf_sound (by simp; exact ⟨okPick, okLabels10⟩)
theorem extLs_sound : SoundExt Try.prog G extLs := extOf_sound (by simp; exact okLSame)
set_option maxRecDepth 100000 in
theorem okGPage : ModOK Try.prog G 13 mGPage := by
  intro args p v hm hp h
  unfold mGPage at hm
  split at hm; rotate_left; · cases hm
  split at hm; rotate_left; · cases hm
  rename_i x i _ q L hx
  obtain ⟨rfl, rfl⟩ := some_pair hm
  obtain ⟨hL, hI, hi0, hi1⟩ := hp
  refine FnS.args (args' := [listV encI 1 L, iV i]) ?_ (.cons (liOf_le hx hL) (.cons (.refl _) .nil))
  clear hm hx hL
  refine fn_T extPk_sound Try.func13 (by kernel_rfl) rfl (tPage L i) ?_ h
  simp only [holds_bT, holds_rq, holds_done, KF, decI_row, inR]
  have p1 := pick_in (L := L) (i := i) (m := 8) (by omega)
  have p2 := pick_in (L := L) (i := i + 1) (m := 8) (by omega)
  have p3 := pick_in (L := L) (i := i + 2) (m := 4) (by omega)
  have p4 := pick_in (L := L) (i := i + 3) (m := 6) (by omega)
  have p5 := pick_in (L := L) (i := i + 4) (m := 4) (by omega)
  have p6 := pick_in (L := L) (i := i + 5) (m := 3) (by omega)
  repeat' (first | exact isL_row _ _ _ | exact hI | omega | decide | exact ⟨_, rfl, VLe.refl _⟩ | apply And.intro)
end
end Go.AE
