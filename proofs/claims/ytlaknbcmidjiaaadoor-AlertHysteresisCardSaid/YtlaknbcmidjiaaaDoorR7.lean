/- AE contracts: ref28.Alert, law28.bent. -/
import Derived.Test.YtlaknbcmidjiaaaDoorR6
import Derived.Test.YtlaknbcmidjiaaaDoorAeC
namespace Go.AE
open Go.Proofs Go.Proofs.YtlaknbcmidjiaaaDoor

def hotB : ByteArray := ⟨#[104, 111, 116]⟩
def genL (L : List Int) : Al := ⟨hotB, 1 + pickZ L 0 3, setL L, pickZ L 1 5, pickZ L 2 50, if pickZ L 1 5 = 3 then pickZ L 3 17 else if pickZ L 1 5 = 4 then 1 + pickZ L 3 16 else 0⟩
def bentR : List ByteArray := [⟨#[]⟩, ⟨#[72, 111, 116]⟩, ⟨#[97, 32, 98]⟩, ⟨#[97, 98, 99, 100, 101, 102, 103, 104, 105, 106, 107, 108, 109, 110, 111, 112, 113]⟩]
def bentA (a : Al) (at_ n : Int) (L : List Int) : Al :=
  if aroundZ at_ 6 = 0 then ⟨bentR.getD (aroundZ n 4).toNat default, a.ver, a.L, a.st, a.si, a.le⟩
  else if aroundZ at_ 6 = 1 then ⟨a.r, n, a.L, a.st, a.si, a.le⟩
  else if aroundZ at_ 6 = 2 then ⟨a.r, a.ver, dirL L, a.st, a.si, a.le⟩
  else if aroundZ at_ 6 = 3 then ⟨a.r, a.ver, a.L, n, a.si, a.le⟩
  else if aroundZ at_ 6 = 4 then ⟨a.r, a.ver, a.L, a.st, n, a.le⟩
  else ⟨a.r, a.ver, a.L, a.st, a.si, n⟩
def mGen : Mod
  | [.c (.p (.l 1 n f))] => some (IsL encI 1 (decL decI n f) n f ∧ Ints (decL decI n f), alV (genL (decL decI n f)))
  | _ => none
def mBent : Mod
  | [x, .c (.p (.i .i64 at_)), .c (.p (.i .i64 m)), .c (.p (.l 1 n f))] => match alOf x with
    | some (p, a) => some (p ∧ inR .i64 at_ ∧ inR .i64 m ∧ IsL encI 1 (decL decI n f) n f ∧ Ints (decL decI n f), alV (bentA a at_ m (decL decI n f)))
    | none => none
  | _ => none
def mAroundS (args : List V) : Option (Prop × Int × Nat) := match args with
  | [.c (.p (.i .i64 n)), .c (.p (.i .i64 m))] => some (inR .i64 n ∧ 0 < m, aroundZ n m, m.toNat)
  | _ => none
def extG : Ext := extOf [(38, mPick), (42, mSet)]
def extB : Ext := splitX 27 mAroundS (extOf [(43, mDirty)])

theorem tGen (L : List Int) : exTs extG (pcs Tryd.prog Tryd.f13) (st0 Tryd.f13 [listV encI 1 L]) (endG [] (resOf Tryd.prog Tryd.f13)) = Tr.rq (IsL encI 1 (decL decI L.length (rowP encI L)) L.length (rowP encI L) ∧ Ints (decL decI L.length (rowP encI L)) ∧ Int.ofNat 0 < Int.ofNat 3)
    (Tr.rq (inR IntKind.i64 (1 + pickZ (decL decI L.length (rowP encI L)) 0 3))
      (Tr.rq (IsL encI 1 (decL decI L.length (rowP encI L)) L.length (rowP encI L) ∧ Ints (decL decI L.length (rowP encI L)))
        (Tr.rq (IsL encI 1 (decL decI L.length (rowP encI L)) L.length (rowP encI L) ∧ Ints (decL decI L.length (rowP encI L)) ∧ Int.ofNat 0 < Int.ofNat 5)
          (Tr.rq (IsL encI 1 (decL decI L.length (rowP encI L)) L.length (rowP encI L) ∧ Ints (decL decI L.length (rowP encI L)) ∧ Int.ofNat 0 < Int.ofNat 50)
            (bT (pickZ (decL decI L.length (rowP encI L)) 1 5 == 3)
              (Tr.rq (IsL encI 1 (decL decI L.length (rowP encI L)) L.length (rowP encI L) ∧ Ints (decL decI L.length (rowP encI L)) ∧ Int.ofNat 0 < Int.ofNat 17)
                (bT (pickZ (decL decI L.length (rowP encI L)) 1 5 == 4)
                  (Tr.rq (IsL encI 1 (decL decI L.length (rowP encI L)) L.length (rowP encI L) ∧ Ints (decL decI L.length (rowP encI L)) ∧ Int.ofNat 0 < Int.ofNat 16)
                    (Tr.rq (inR IntKind.i64 (1 + pickZ (decL decI L.length (rowP encI L)) 3 16))
                      (Tr.done X.ret
                        (St.mk [V.a [C.p (PV.s (ByteArray.mk #[104, 111, 116])), C.p (PV.i IntKind.i64 (1 + pickZ (decL decI L.length (rowP encI L)) 0 3)), C.p (PV.l 2 (setL (decL decI L.length (rowP encI L))).length (rowP enc2 (setL (decL decI L.length (rowP encI L))))), C.p (PV.i IntKind.i64 (pickZ (decL decI L.length (rowP encI L)) 1 5)), C.p (PV.i IntKind.i64 (pickZ (decL decI L.length (rowP encI L)) 2 50)), C.p (PV.i IntKind.i64 (1 + pickZ (decL decI L.length (rowP encI L)) 3 16))]] []))))
                  (Tr.done X.ret
                    (St.mk [V.a [C.p (PV.s (ByteArray.mk #[104, 111, 116])), C.p (PV.i IntKind.i64 (1 + pickZ (decL decI L.length (rowP encI L)) 0 3)), C.p (PV.l 2 (setL (decL decI L.length (rowP encI L))).length (rowP enc2 (setL (decL decI L.length (rowP encI L))))), C.p (PV.i IntKind.i64 (pickZ (decL decI L.length (rowP encI L)) 1 5)), C.p (PV.i IntKind.i64 (pickZ (decL decI L.length (rowP encI L)) 2 50)), C.p (PV.i IntKind.i64 (pickZ (decL decI L.length (rowP encI L)) 3 17))]] []))))
              (bT (pickZ (decL decI L.length (rowP encI L)) 1 5 == 4)
                (Tr.rq (IsL encI 1 (decL decI L.length (rowP encI L)) L.length (rowP encI L) ∧ Ints (decL decI L.length (rowP encI L)) ∧ Int.ofNat 0 < Int.ofNat 16)
                  (Tr.rq (inR IntKind.i64 (1 + pickZ (decL decI L.length (rowP encI L)) 3 16))
                    (Tr.done X.ret
                      (St.mk [V.a [C.p (PV.s (ByteArray.mk #[104, 111, 116])), C.p (PV.i IntKind.i64 (1 + pickZ (decL decI L.length (rowP encI L)) 0 3)), C.p (PV.l 2 (setL (decL decI L.length (rowP encI L))).length (rowP enc2 (setL (decL decI L.length (rowP encI L))))), C.p (PV.i IntKind.i64 (pickZ (decL decI L.length (rowP encI L)) 1 5)), C.p (PV.i IntKind.i64 (pickZ (decL decI L.length (rowP encI L)) 2 50)), C.p (PV.i IntKind.i64 (1 + pickZ (decL decI L.length (rowP encI L)) 3 16))]] []))))
                (Tr.done X.ret
                  (St.mk [V.a [C.p (PV.s (ByteArray.mk #[104, 111, 116])), C.p (PV.i IntKind.i64 (1 + pickZ (decL decI L.length (rowP encI L)) 0 3)), C.p (PV.l 2 (setL (decL decI L.length (rowP encI L))).length (rowP enc2 (setL (decL decI L.length (rowP encI L))))), C.p (PV.i IntKind.i64 (pickZ (decL decI L.length (rowP encI L)) 1 5)), C.p (PV.i IntKind.i64 (pickZ (decL decI L.length (rowP encI L)) 2 50)), C.p (PV.i IntKind.i64 0)]] [])))))))) := by kernel_rfl
theorem tBent (a : Al) (at_ n : Int) (L : List Int) : exTs extB (pcs Tryd.prog Tryd.f14) (st0 Tryd.f14 [alV a, iV at_, iV n, listV encI 1 L]) (endG [] (resOf Tryd.prog Tryd.f14)) = Tr.rq ((inR IntKind.i64 at_ ∧ Int.ofNat 0 < Int.ofNat 6) ∧ 0 ≤ aroundZ at_ 6 ∧ aroundZ at_ 6 < (↑6 : Int))
    (bT (aroundZ at_ 6 == (↑0 : Int))
      (Tr.rq ((inR IntKind.i64 n ∧ Int.ofNat 0 < Int.ofNat 4) ∧ 0 ≤ aroundZ n 4 ∧ aroundZ n 4 < (↑4 : Int))
        (bT (aroundZ n 4 == (↑0 : Int))
          (Tr.rq (0 ≤ (↑0 : Int) ∧ (↑0 : Int) < (↑4 : Int))
            (Tr.rq (0 < 4)
              (Tr.done X.ret
                (St.mk [V.a [C.p (PV.s (ByteArray.mk #[])), C.p (PV.i IntKind.i64 a.ver), C.p (PV.l 2 a.L.length (rowP enc2 a.L)), C.p (PV.i IntKind.i64 a.st), C.p (PV.i IntKind.i64 a.si), C.p (PV.i IntKind.i64 a.le)]] []))))
          (bT (aroundZ n 4 == (↑1 : Int))
            (Tr.rq (0 ≤ (↑1 : Int) ∧ (↑1 : Int) < (↑4 : Int))
              (Tr.rq (1 < 4)
                (Tr.done X.ret
                  (St.mk [V.a [C.p (PV.s (ByteArray.mk #[72, 111, 116])), C.p (PV.i IntKind.i64 a.ver), C.p (PV.l 2 a.L.length (rowP enc2 a.L)), C.p (PV.i IntKind.i64 a.st), C.p (PV.i IntKind.i64 a.si), C.p (PV.i IntKind.i64 a.le)]] []))))
            (bT (aroundZ n 4 == (↑2 : Int))
              (Tr.rq (0 ≤ (↑2 : Int) ∧ (↑2 : Int) < (↑4 : Int))
                (Tr.rq (2 < 4)
                  (Tr.done X.ret
                    (St.mk [V.a [C.p (PV.s (ByteArray.mk #[97, 32, 98])), C.p (PV.i IntKind.i64 a.ver), C.p (PV.l 2 a.L.length (rowP enc2 a.L)), C.p (PV.i IntKind.i64 a.st), C.p (PV.i IntKind.i64 a.si), C.p (PV.i IntKind.i64 a.le)]] []))))
              (bT (aroundZ n 4 == (↑3 : Int))
                (Tr.rq (0 ≤ (↑3 : Int) ∧ (↑3 : Int) < (↑4 : Int))
                  (Tr.rq (3 < 4)
                    (Tr.done X.ret
                      (St.mk [V.a [C.p (PV.s (ByteArray.mk #[97, 98, 99, 100, 101, 102, 103, 104, 105, 106, 107, 108, 109, 110, 111, 112, 113])), C.p (PV.i IntKind.i64 a.ver), C.p (PV.l 2 a.L.length (rowP enc2 a.L)), C.p (PV.i IntKind.i64 a.st), C.p (PV.i IntKind.i64 a.si), C.p (PV.i IntKind.i64 a.le)]] []))))
                Tr.fail)))))
      (bT (aroundZ at_ 6 == (↑1 : Int))
        (Tr.done X.ret
          (St.mk [V.a [C.p (PV.s a.r), C.p (PV.i IntKind.i64 n), C.p (PV.l 2 a.L.length (rowP enc2 a.L)), C.p (PV.i IntKind.i64 a.st), C.p (PV.i IntKind.i64 a.si), C.p (PV.i IntKind.i64 a.le)]] []))
        (bT (aroundZ at_ 6 == (↑2 : Int))
          (Tr.rq (IsL encI 1 (decL decI L.length (rowP encI L)) L.length (rowP encI L) ∧ Ints (decL decI L.length (rowP encI L)))
            (Tr.done X.ret
              (St.mk [V.a [C.p (PV.s a.r), C.p (PV.i IntKind.i64 a.ver), C.p (PV.l 2 (dirL (decL decI L.length (rowP encI L))).length (rowP enc2 (dirL (decL decI L.length (rowP encI L))))), C.p (PV.i IntKind.i64 a.st), C.p (PV.i IntKind.i64 a.si), C.p (PV.i IntKind.i64 a.le)]] [])))
          (bT (aroundZ at_ 6 == (↑3 : Int))
            (Tr.done X.ret
              (St.mk [V.a [C.p (PV.s a.r), C.p (PV.i IntKind.i64 a.ver), C.p (PV.l 2 a.L.length (rowP enc2 a.L)), C.p (PV.i IntKind.i64 n), C.p (PV.i IntKind.i64 a.si), C.p (PV.i IntKind.i64 a.le)]] []))
            (bT (aroundZ at_ 6 == (↑4 : Int))
              (Tr.done X.ret
                (St.mk [V.a [C.p (PV.s a.r), C.p (PV.i IntKind.i64 a.ver), C.p (PV.l 2 a.L.length (rowP enc2 a.L)), C.p (PV.i IntKind.i64 a.st), C.p (PV.i IntKind.i64 n), C.p (PV.i IntKind.i64 a.le)]] []))
              (bT (aroundZ at_ 6 == (↑5 : Int))
                (Tr.done X.ret
                  (St.mk [V.a [C.p (PV.s a.r), C.p (PV.i IntKind.i64 a.ver), C.p (PV.l 2 a.L.length (rowP enc2 a.L)), C.p (PV.i IntKind.i64 a.st), C.p (PV.i IntKind.i64 a.si), C.p (PV.i IntKind.i64 n)]] []))
                Tr.fail)))))) := by kernel_rfl
section
variable {G : Nat → Option Obj}
theorem extG_sound : SoundExt Tryd.prog G extG := extOf_sound (by simp; exact ⟨okPick, okSet⟩)
theorem extB_sound : SoundExt Tryd.prog G extB := by
  refine splitX_sound (extOf_sound (by simp; exact okDirty)) ?_
  intro args p z n hm hp h
  unfold mAroundS at hm
  split at hm
  · rename_i n m
    injection hm with hm
    injection hm with e1 hm
    injection hm with e2 e3
    subst e1; subst e2
    exact okAround _ _ _ rfl hp h
  · cases hm
set_option maxRecDepth 100000 in
theorem okGen : ModOK Tryd.prog G 13 mGen := by
  intro args p v hm hp h
  unfold mGen at hm
  split at hm; rotate_left; · cases hm
  rename_i n f
  obtain ⟨rfl, rfl⟩ := some_pair hm
  obtain ⟨hL, hI⟩ := hp
  generalize decL decI n f = L at hL hI
  refine FnS.args (args' := [listV encI 1 L]) ?_ (.cons hL.le .nil)
  clear hL
  refine fn_S Tryd.func13 (by kernel_rfl) rfl ?_ h
  refine ExS.evH extG_sound (tGen L) ?_
  have h1 := pickZ_range L 0 (m := 3) (by omega)
  have h2 := pickZ_range L 3 (m := 16) (by omega)
  have key : ∀ le : Int, (if pickZ L 1 5 = 3 then pickZ L 3 17 else if pickZ L 1 5 = 4 then 1 + pickZ L 3 16 else 0) = le → VLe (alV ⟨hotB, 1 + pickZ L 0 3, setL L, pickZ L 1 5, pickZ L 2 50, le⟩) (alV (genL L)) := by
    intro le hle
    subst hle
    exact VLe.refl _
  have iL := isL_row encI 1 L
  simp only [holds_bT, holds_rq, holds_leaf, kf_ret', decI_row, beq_iff_eq, beq_eq_false_iff_ne, inR]
  refine ⟨⟨iL, hI, by decide⟩, by omega, ⟨iL, hI⟩, ⟨iL, hI, by decide⟩, ⟨iL, hI, by decide⟩, fun c1 => ⟨⟨iL, hI, by decide⟩, fun c2 => absurd (c1.symm.trans c2) (by decide), fun c2 => ⟨key _ (by rw [if_pos c1] <;> rfl)⟩⟩, fun c1 => ⟨fun c2 => ⟨⟨iL, hI, by decide⟩, by omega, ⟨key _ (by rw [if_neg c1, if_pos c2])⟩⟩, fun c2 => ⟨key _ (by rw [if_neg c1, if_neg c2])⟩⟩⟩
set_option maxRecDepth 100000 in
theorem okBent : ModOK Tryd.prog G 14 mBent := by
  intro args p v hm hp h
  unfold mBent at hm
  split at hm; rotate_left; · cases hm
  split at hm; rotate_left; · cases hm
  rename_i x at_ m n f _ q a hx
  obtain ⟨rfl, rfl⟩ := some_pair hm
  obtain ⟨hq, ha, hm, hL, hI⟩ := hp
  generalize decL decI n f = L at hL hI
  refine FnS.args (args' := [alV a, iV at_, iV m, listV encI 1 L]) ?_ (.cons (alOf_le hx hq) (.cons (.refl _) (.cons (.refl _) (.cons hL.le .nil))))
  clear hL hx
  refine fn_S Tryd.func14 (by kernel_rfl) rfl ?_ h
  refine ExS.evH extB_sound (tBent a at_ m L) ?_
  have r6 := aroundZ_range (n := at_) (m := 6) (by omega)
  have r4 := aroundZ_range (n := m) (m := 4) (by omega)
  have iL := isL_row encI 1 L
  have key : ∀ b, bentA a at_ m L = b → VLe (alV b) (alV (bentA a at_ m L)) := by
    rintro b rfl
    exact VLe.refl _
  have k0 : ∀ j : Nat, aroundZ at_ 6 = (0 : Nat) → aroundZ m 4 = j → VLe (alV ⟨bentR.getD j default, a.ver, a.L, a.st, a.si, a.le⟩) (alV (bentA a at_ m L)) := fun j h0 hj => key _ (by
    unfold bentA; rw [if_pos (by omega), show (aroundZ m 4).toNat = j by omega])
  have hc6 : aroundZ at_ 6 = (0 : Nat) ∨ aroundZ at_ 6 = (1 : Nat) ∨ aroundZ at_ 6 = (2 : Nat) ∨ aroundZ at_ 6 = (3 : Nat) ∨ aroundZ at_ 6 = (4 : Nat) ∨ aroundZ at_ 6 = (5 : Nat) := by omega
  have hc4 : aroundZ m 4 = (0 : Nat) ∨ aroundZ m 4 = (1 : Nat) ∨ aroundZ m 4 = (2 : Nat) ∨ aroundZ m 4 = (3 : Nat) := by omega
  simp only [holds_rq]
  refine ⟨⟨⟨ha, by decide⟩, r6.1, by omega⟩, ?_⟩
  rcases hc6 with h6 | h6 | h6 | h6 | h6 | h6 <;> rw [h6]
  · refine ⟨⟨⟨hm, by decide⟩, r4.1, by omega⟩, ?_⟩
    rcases hc4 with h4 | h4 | h4 | h4 <;> rw [h4]
    · exact ⟨⟨by decide, by decide⟩, by decide, (kf_ret' (h := [])).2 (k0 0 h6 h4)⟩
    · exact ⟨⟨by decide, by decide⟩, by decide, (kf_ret' (h := [])).2 (k0 1 h6 h4)⟩
    · exact ⟨⟨by decide, by decide⟩, by decide, (kf_ret' (h := [])).2 (k0 2 h6 h4)⟩
    · exact ⟨⟨by decide, by decide⟩, by decide, (kf_ret' (h := [])).2 (k0 3 h6 h4)⟩
  · exact (kf_ret' (h := [])).2 (key ⟨a.r, m, a.L, a.st, a.si, a.le⟩ (by unfold bentA; rw [if_neg (by omega), if_pos (by omega)]))
  · simp only [decI_row]
    exact ⟨⟨iL, hI⟩, (kf_ret' (h := [])).2 (key ⟨a.r, a.ver, dirL L, a.st, a.si, a.le⟩ (by unfold bentA; rw [if_neg (by omega), if_neg (by omega), if_pos (by omega)]))⟩
  · exact (kf_ret' (h := [])).2 (key ⟨a.r, a.ver, a.L, m, a.si, a.le⟩ (by unfold bentA; rw [if_neg (by omega), if_neg (by omega), if_neg (by omega), if_pos (by omega)]))
  · exact (kf_ret' (h := [])).2 (key ⟨a.r, a.ver, a.L, a.st, m, a.le⟩ (by unfold bentA; rw [if_neg (by omega), if_neg (by omega), if_neg (by omega), if_neg (by omega), if_pos (by omega)]))
  · exact (kf_ret' (h := [])).2 (key ⟨a.r, a.ver, a.L, a.st, a.si, m⟩ (by unfold bentA; rw [if_neg (by omega), if_neg (by omega), if_neg (by omega), if_neg (by omega), if_neg (by omega)]))
end
/-! ### The generated alert is valid -/
theorem names_lt : ∀ i, i < 6 → ∀ y ∈ namesL.take i, slt y (namesL.getD i default) = true := by
  have h : ((List.range 6).all fun i => (namesL.take i).all fun y => slt y (namesL.getD i default)) = true := by decide +kernel
  intro i hi y hy
  exact List.all_eq_true.1 (List.all_eq_true.1 h i (by simpa using hi)) y hy
theorem names_ok : ∀ i, i < 6 → nameB (namesL.getD i default) = true := by
  have h : ((List.range 6).all fun i => nameB (namesL.getD i default)) = true := by decide +kernel
  intro i hi
  exact List.all_eq_true.1 h i (by simpa using hi)
theorem values_ok : ∀ i, i < 6 → valueB (valuesL.getD i default) = true ∧ (valuesL.getD i default).toList.isEmpty = false := by
  have h : ((List.range 6).all fun i => valueB (valuesL.getD i default) && !(valuesL.getD i default).toList.isEmpty) = true := by decide +kernel
  intro i hi
  have := List.all_eq_true.1 h i (by simpa using hi)
  simpa using this
theorem setS_ok (L : List Int) : ∀ i, i ≤ 6 → (setS L i).2.length ≤ i ∧ Srt (setS L i).2 ∧ ∀ x ∈ (setS L i).2, x.1 ∈ namesL.take i ∧ nameB x.1 = true ∧ x.2.toList.isEmpty = false ∧ valueB x.2 = true
  | 0, _ => ⟨by simp [setS], List.Pairwise.nil, fun _ hx => by cases hx⟩
  | i + 1, hi => by
    obtain ⟨h1, h2, h3⟩ := setS_ok L i (by omega)
    have hsub : ∀ y, y ∈ namesL.take i → y ∈ namesL.take (i + 1) := fun y hy => by
      rw [List.take_add_one]; exact List.mem_append_left _ hy
    have hn : namesL.getD i default ∈ namesL.take (i + 1) := by
      have e : namesL[i]? = some (namesL.getD i default) := by
        rw [List.getD_eq_getElem?_getD, List.getElem?_eq_getElem (show i < namesL.length from (show i < 6 by omega))]
        rfl
      rw [List.take_add_one, e]
      exact List.mem_append_right _ (List.mem_singleton.2 rfl)
    show (if (setS L i).1 % 2 = 1 then (setS L i).2 ++ [(namesL.getD i default, valuesL.getD (pickZ L (i + 1) 6).toNat default)] else (setS L i).2).length ≤ i + 1 ∧ Srt (if (setS L i).1 % 2 = 1 then (setS L i).2 ++ [(namesL.getD i default, valuesL.getD (pickZ L (i + 1) 6).toNat default)] else (setS L i).2) ∧ ∀ x ∈ (if (setS L i).1 % 2 = 1 then (setS L i).2 ++ [(namesL.getD i default, valuesL.getD (pickZ L (i + 1) 6).toNat default)] else (setS L i).2), _
    split
    · have hp := pickZ_range L (i + 1) (m := 6) (by omega)
      have hv := values_ok (pickZ L (i + 1) 6).toNat (by omega)
      refine ⟨by simp; omega, ?_, ?_⟩
      · unfold Srt
        rw [List.pairwise_append]
        refine ⟨h2, List.pairwise_singleton _ _, ?_⟩
        intro x hx y hy
        obtain rfl := List.mem_singleton.1 hy
        exact names_lt i (by omega) x.1 (h3 x hx).1
      · intro x hx
        rcases List.mem_append.1 hx with hx | hx
        · exact ⟨hsub _ (h3 x hx).1, (h3 x hx).2⟩
        · obtain rfl := List.mem_singleton.1 hx
          exact ⟨hn, names_ok i (by omega), hv.2, hv.1⟩
    · exact ⟨by omega, h2, fun x hx => ⟨hsub _ (h3 x hx).1, (h3 x hx).2⟩⟩
theorem valid_of_srt {L : List (ByteArray × ByteArray)} (h8 : L.length ≤ 8) (hs : Srt L) (hx : ∀ x ∈ L, nameB x.1 = true ∧ x.2.toList.isEmpty = false ∧ valueB x.2 = true) : validL (fun k => L.getD k default) L.length = true := by
  unfold validL
  rw [Bool.and_eq_true, oklUp_iff, decide_eq_true_iff]
  refine ⟨h8, fun k hk => ?_⟩
  have e : L.getD k default = L[k] := by simp [hk]
  obtain ⟨a1, a2, a3⟩ := hx L[k] (List.getElem_mem hk)
  unfold okl
  simp only [Bool.and_eq_true, Bool.or_eq_true, decide_eq_true_eq, Bool.not_eq_true']
  rw [e]
  refine ⟨⟨⟨a1, a2⟩, a3⟩, ?_⟩
  by_cases h0 : k = 0
  · exact .inl h0
  · refine .inr ?_
    have e' : L.getD (k - 1) default = L[k - 1]'(by omega) := by simp [show k - 1 < L.length by omega]
    rw [e']
    exact List.pairwise_iff_getElem.1 hs (k - 1) k (by omega) hk (by omega)
theorem gen_ok (L : List Int) : alOK (genL L) = true := by
  obtain ⟨h1, h2, h3⟩ := setS_ok L 6 (by omega)
  have p0 := pickZ_range L 0 (m := 3) (by omega)
  have p1 := pickZ_range L 1 (m := 5) (by omega)
  have p2 := pickZ_range L 2 (m := 50) (by omega)
  have p3 := pickZ_range L 3 (m := 17) (by omega)
  have p4 := pickZ_range L 3 (m := 16) (by omega)
  rw [alOK_iff]
  refine ⟨⟨(by decide +kernel : nameB hotB = true), valid_of_srt (show (setS L 6).2.length ≤ 8 by omega) h2 fun x hx => (h3 x hx).2⟩, ?_⟩
  simp only [genL]
  split
  · omega
  · split <;> omega
theorem set_len (L : List Int) : (setL L).length ≤ 6 := (setS_ok L 6 (by omega)).1
theorem dirS_len (L : List Int) : ∀ i, (dirS L i).length = i
  | 0 => rfl
  | i + 1 => by simp [dirS, dirS_len L i]
theorem dir_len (L : List Int) : (dirL L).length ≤ 10 := by
  unfold dirL
  rw [dirS_len]
  have := pickZ_range L 0 (m := 11) (by omega)
  omega
theorem bent_len (at_ n : Int) (L : List Int) : (bentA (genL L) at_ n L).L.length ≤ 10 := by
  have h1 : (genL L).L.length ≤ 6 := set_len L
  have h2 := dir_len L
  unfold bentA
  repeat' split
  all_goals simp only; omega
theorem bent_in {at_ n : Int} {L : List Int} (hn : inR .i64 n) : inR .i64 (bentA (genL L) at_ n L).si ∧ inR .i64 (bentA (genL L) at_ n L).le := by
  have p2 := pickZ_range L 2 (m := 50) (by omega)
  have p3 := pickZ_range L 3 (m := 17) (by omega)
  have p4 := pickZ_range L 3 (m := 16) (by omega)
  have h1 : inR .i64 (genL L).si := by simp only [inR, genL]; omega
  have h2 : inR .i64 (genL L).le := by simp only [inR, genL]; split <;> (try split) <;> omega
  unfold bentA
  repeat' split
  all_goals exact ⟨by first | exact h1 | exact hn, by first | exact h2 | exact hn⟩
end Go.AE
