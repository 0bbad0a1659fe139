/- AE contracts: labels.Name, labels.Valid, labels.Text, pages.tick, valid, of. -/
import Derived.Test.YtfjihbmehhccoaaR1
import Derived.Test.YtfjihbmehhccoaaTxt
import Derived.Test.YtfjihbmehhccoaaAeE
namespace Go.AE
set_option linter.unusedVariables false
set_option linter.unusedSimpArgs false
open Go.Proofs Go.Proofs.Ytfjihbmehhccoaa Go.RowKit

theorem some_pair {α β : Type} {a c : α} {b d : β} (h : some (a, b) = some (c, d)) : a = c ∧ b = d := by
  injection h with h
  injection h with h1 h2
  exact ⟨h1, h2⟩
/-- A page. -/
structure Pg where
  kd : Int
  ru : ByteArray
  ve : Int
  L : List (ByteArray × ByteArray)
  st : Int
  se : Int
  to : ByteArray
instance : Inhabited Pg := ⟨⟨0, ⟨#[]⟩, 0, [], 0, 0, ⟨#[]⟩⟩⟩
def pgPs (p : Pg) : List PV := [.i .i64 p.kd, .s p.ru, .i .i64 p.ve, listP enc2 2 p.L, .i .i64 p.st, .i .i64 p.se, .s p.to]
def pgV (p : Pg) : V := .a (mapP (pgPs p))
def pgW (kd : Int) (ru : ByteArray) (ve : Int) (L : List (ByteArray × ByteArray)) (st se : Int) (to : ByteArray) : V := .a [.p (.i .i64 kd), .p (.s ru), .p (.i .i64 ve), .p (listP enc2 2 L), .p (.i .i64 st), .p (.i .i64 se), .p (.s to)]
def pgOf : V → Option (Prop × Pg)
  | .a [.p (.i .i64 kd), .p (.s ru), .p (.i .i64 ve), .p (.l 2 n f), .p (.i .i64 st), .p (.i .i64 se), .p (.s to)] => some (IsL enc2 2 (decL dec2 n f) n f, ⟨kd, ru, ve, decL dec2 n f, st, se, to⟩)
  | .a [.p (.i .i64 kd), .p (.s ru), .p (.i .i64 ve), .p (.z (.slice none 0 0)), .p (.i .i64 st), .p (.i .i64 se), .p (.s to)] => some (True, ⟨kd, ru, ve, [], st, se, to⟩)
  | _ => none
theorem pgOf_le {x : V} {p : Prop} {a : Pg} (h : pgOf x = some (p, a)) (hp : p) : VLe x (pgV a) := by
  unfold pgOf at h
  split at h
  · rename_i kd ru ve n f st se to
    injection h with h
    injection h with h1 h2
    subst h2; subst h1
    refine VLe.a (xs := [.i .i64 kd, .s ru, .i .i64 ve, .l 2 n f, .i .i64 st, .i .i64 se, .s to]) (vs := pgPs ⟨kd, ru, ve, decL dec2 n f, st, se, to⟩) (.cons (.refl _) (.cons (.refl _) (.cons (.refl _) (.cons ?_ (.cons (.refl _) (.cons (.refl _) (.cons (.refl _) .nil)))))))
    obtain ⟨e1, e2⟩ := hp
    show PLe (.l 2 n f) (listP enc2 2 (decL dec2 n f))
    unfold listP
    rw [e1]
    exact PLe.l fun e o he ho => PLe.of_eq (e2 e o he ho)
  · rename_i kd ru ve st se to
    injection h with h
    injection h with h1 h2
    subst h2; subst h1
    exact VLe.a (xs := [.i .i64 kd, .s ru, .i .i64 ve, .z (.slice none 0 0), .i .i64 st, .i .i64 se, .s to]) (vs := pgPs ⟨kd, ru, ve, [], st, se, to⟩) (.cons (.refl _) (.cons (.refl _) (.cons (.refl _) (.cons (PLe.nil 2 _) (.cons (.refl _) (.cons (.refl _) (.cons (.refl _) .nil)))))))
  · cases h
def lbF (L : List (ByteArray × ByteArray)) : Nat → Lb := fun k => L.getD k default
def validLb (L : List (ByteArray × ByteArray)) : Bool := validL (lbF L) L.length
def textLb (L : List (ByteArray × ByteArray)) : ByteArray := ⟨(textB (lbF L) L.length).toArray⟩
def tickZ (t : Int) : Bool := decide (0 ≤ t) && decide (t ≤ 1048576)
def pgOK (p : Pg) : Bool := nameB p.ru && decide (1 ≤ p.ve) && validLb p.L && tickZ p.st && tickZ p.se && decide (p.to.size ≤ 16)
def mLName : Mod
  | [.c (.p (.s s))] => some (True, bV (nameB s))
  | _ => none
def lbOf : V → Option (Prop × List (ByteArray × ByteArray))
  | .c (.p (.l 2 n f)) => some (IsL enc2 2 (decL dec2 n f) n f, decL dec2 n f)
  | .c (.p (.z (.slice none 0 0))) => some (True, [])
  | _ => none
theorem lbOf_le {x : V} {p : Prop} {L : List (ByteArray × ByteArray)} (h : lbOf x = some (p, L)) (hp : p) : VLe x (listV enc2 2 L) := by
  unfold lbOf at h
  split at h
  · injection h with h
    injection h with h1 h2
    subst h2; subst h1
    exact hp.le
  · injection h with h
    injection h with h1 h2
    subst h2; subst h1
    exact VLe.p (PLe.nil 2 _)
  · cases h
def mLVal : Mod
  | [x] => match lbOf x with
    | some (p, L) => some (p, bV (validLb L))
    | none => none
  | _ => none
def mText : Mod
  | [x] => match lbOf x with
    | some (p, L) => some (p ∧ (textLb L).size ≤ 1000000, .c (.p (.s (textLb L))))
    | none => none
  | _ => none
def mTick : Mod
  | [.c (.p (.i .i64 t))] => some (True, bV (tickZ t))
  | _ => none
def mPVal : Mod
  | [x] => match pgOf x with
    | some (p, a) => some (p, bV (pgOK a))
    | none => none
  | _ => none
def mustW (ru : ByteArray) (ve : Int) (tx : ByteArray) (st : Int) : V := .a [.p (.s ru), .p (.i .i64 ve), .p (.s tx), .p (.i .i64 st)]
def mOf : Mod
  | [x] => match pgOf x with
    | some (p, ⟨_, ru, ve, L, st, _, _⟩) => some (p ∧ (textLb L).size ≤ 1000000, mustW ru ve (textLb L) st)
    | none => none
  | _ => none
def extTi : Ext := extOf [(72, mLName), (73, mLVal), (45, mTick)]
def extTx : Ext := extOf [(74, mText)]
theorem tTick (t : Int) : exT ext0 (codeOf Try.prog Try.f45) (st0 Try.f45 [iV t]) (endF [] [] (resOf Try.prog Try.f45)) = bT (decide (0 ≤ t)) (Tr.done X.ret (St.mk [V.c (C.p (PV.b (decide (t ≤ 1048576))))] [])) (Tr.done X.ret (St.mk [V.c (C.p (PV.b false))] [])) := by kernel_rfl
theorem tVal (kd ve st se : Int) (ru to : ByteArray) (L : List (ByteArray × ByteArray)) : exT extTi (codeOf Try.prog Try.f42) (st0 Try.f42 [pgW kd ru ve L st se to]) (endF [] [] (resOf Try.prog Try.f42)) = Tr.rq True
    (bT (nameB ru)
      (bT (decide (1 ≤ ve))
        (Tr.rq (IsL enc2 2 (decL dec2 L.length (rowP enc2 L)) L.length (rowP enc2 L))
          (bT (validLb (decL dec2 L.length (rowP enc2 L)))
            (Tr.rq True
              (bT (tickZ st) (Tr.rq True (bT (tickZ se) (Tr.done X.ret (St.mk [V.c (C.p (PV.b (decide ((↑to.size : Int) ≤ 16))))] [])) (Tr.done X.ret (St.mk [V.c (C.p (PV.b false))] []))))
                (Tr.done X.ret (St.mk [V.c (C.p (PV.b false))] []))))
            (Tr.done X.ret (St.mk [V.c (C.p (PV.b false))] []))))
        (Tr.done X.ret (St.mk [V.c (C.p (PV.b false))] [])))
      (Tr.done X.ret (St.mk [V.c (C.p (PV.b false))] []))) := by kernel_rfl
theorem tOf (kd ve st se : Int) (ru to : ByteArray) (L : List (ByteArray × ByteArray)) : exT extTx (codeOf Try.prog Try.f43) (st0 Try.f43 [pgW kd ru ve L st se to]) (endF [] [] (resOf Try.prog Try.f43)) = Tr.rq (IsL enc2 2 (decL dec2 L.length (rowP enc2 L)) L.length (rowP enc2 L) ∧ (textLb (decL dec2 L.length (rowP enc2 L))).size ≤ 1000000)
    (Tr.done X.ret (St.mk [V.a [C.p (PV.s ru), C.p (PV.i IntKind.i64 ve), C.p (PV.s (textLb (decL dec2 L.length (rowP enc2 L)))), C.p (PV.i IntKind.i64 st)]] [])) := by kernel_rfl
section
variable {G : Nat → Option Obj}
theorem labels_rd {R : Nat → Prop} {w : World} {L : List (ByteArray × ByteArray)} {u : Value} (hr : ∀ b, R b → b < w.heap.size) (h : PR R w (listP enc2 2 L) u) : ∃ A c, u = .slice A L.length c ∧ RdL w w.heap.size A L.length (lbF L) := by
  obtain ⟨A, c, rfl, h1, h2, h3⟩ := h
  refine ⟨A, c, rfl, fun hn => ?_⟩
  obtain ⟨ad, e1, e2, e3⟩ := h3 (by omega)
  refine ⟨ad, e1, hr _ e2, fun k hk => ?_⟩
  obtain ⟨u, q1, q2⟩ := e3 (k / 2) (k % 2) (by omega) (by omega)
  rw [show k / 2 * 2 + k % 2 = k by omega] at q1
  rw [q1]
  congr 1
  have hk2 : k % 2 = 0 ∨ k % 2 = 1 := by omega
  unfold lcell
  rcases hk2 with e | e
  · rw [e] at q2
    rw [if_pos e]
    exact q2
  · rw [e] at q2
    rw [if_neg (by omega)]
    exact q2
theorem okLName : ModOK Try.prog G 72 mLName := by
  intro args p v hm hp h
  unfold mLName at hm
  split at hm; rotate_left; · cases hm
  rename_i s
  obtain ⟨rfl, rfl⟩ := some_pair hm
  refine fn_kit rfl ?_ h
  intro R w vs hr hg ha
  obtain ⟨u, l, e, hu, ha⟩ := All2.nth2 ha
  obtain rfl := All2.nil2 ha
  have hu : u = .string s := hu
  subst hu
  cases vs
  rename_i lv_
  have e : lv_ = _ := e
  subst e
  refine (lName_any s w).mono ?_
  rintro e w' ⟨rfl, hb⟩
  exact ⟨_, rfl, rfl, hb⟩
theorem okLVal : ModOK Try.prog G 73 mLVal := by
  intro args p v hm hp h
  unfold mLVal at hm
  split at hm; rotate_left; · cases hm
  split at hm; rotate_left; · cases hm
  rename_i x _ q L hx
  obtain ⟨rfl, rfl⟩ := some_pair hm
  refine FnS.args (args' := [listV enc2 2 L]) ?_ (.cons (lbOf_le hx hp) .nil)
  refine fn_kit rfl ?_ h
  intro R w vs hr hg ha
  obtain ⟨u, l, e, hu, ha⟩ := All2.nth2 ha
  obtain rfl := All2.nil2 ha
  obtain ⟨A, c, rfl, hR⟩ := labels_rd hr hu
  cases vs
  rename_i lv_
  have e : lv_ = _ := e
  subst e
  refine (lValid_any A L.length c (lbF L) w hR).mono ?_
  rintro e w' ⟨rfl, hb⟩
  exact ⟨_, rfl, rfl, hb⟩
theorem okText : ModOK Try.prog G 74 mText := by
  intro args p v hm hp h
  unfold mText at hm
  split at hm; rotate_left; · cases hm
  split at hm; rotate_left; · cases hm
  rename_i x _ q L hx
  obtain ⟨rfl, rfl⟩ := some_pair hm
  obtain ⟨hq, hn⟩ := hp
  refine FnS.args (args' := [listV enc2 2 L]) ?_ (.cons (lbOf_le hx hq) .nil)
  refine fn_kit rfl ?_ h
  intro R w vs hr hg ha
  obtain ⟨u, l, e, hu, ha⟩ := All2.nth2 ha
  obtain rfl := All2.nil2 ha
  obtain ⟨A, c, rfl, hR⟩ := labels_rd hr hu
  cases vs
  rename_i lv_
  have e : lv_ = _ := e
  subst e
  refine (lText_any A L.length c (lbF L) w hR hn).mono ?_
  rintro e w' ⟨rfl, hb⟩
  exact ⟨_, rfl, rfl, hb⟩
theorem okTick : ModOK Try.prog G 45 mTick := by
  intro args p v hm hp h
  unfold mTick at hm
  split at hm; rotate_left; · cases hm
  rename_i t
  obtain ⟨rfl, rfl⟩ := some_pair hm
  refine fn_T ext0_sound Try.func45 (by kernel_rfl) rfl (tTick t) ?_ h
  simp only [holds_bT, holds_rq, holds_done, KF]
  refine ⟨fun h1 => ⟨_, rfl, VLe.of_eq ?_⟩, fun h1 => ⟨_, rfl, VLe.of_eq ?_⟩⟩
  · unfold tickZ; rw [h1]; rfl
  · unfold tickZ; rw [h1]; rfl
theorem extTi_sound : SoundExt Try.prog G extTi := extOf_sound (by simp; exact ⟨okLName, okLVal, okTick⟩)
theorem extTx_sound : SoundExt Try.prog G extTx := extOf_sound (by simp; exact okText)
theorem okPVal : ModOK Try.prog G 42 mPVal := by
  intro args p v hm hp h
  unfold mPVal at hm
  split at hm; rotate_left; · cases hm
  split at hm; rotate_left; · cases hm
  rename_i x _ q a hx
  obtain ⟨rfl, rfl⟩ := some_pair hm
  refine FnS.args (args' := [pgV a]) ?_ (.cons (pgOf_le hx hp) .nil)
  obtain ⟨kd, ru, ve, L, st, se, to⟩ := a
  refine fn_T extTi_sound Try.func42 (by kernel_rfl) rfl (tVal kd ve st se ru to L) ?_ h
  simp only [holds_bT, holds_rq, holds_done, KF]
  rw [dec2_row]
  have e : pgOK ⟨kd, ru, ve, L, st, se, to⟩ = (nameB ru && decide (1 ≤ ve) && validLb L && tickZ st && tickZ se && decide (to.size ≤ 16)) := rfl
  have e2 : decide ((to.size : Int) ≤ 16) = decide (to.size ≤ 16) := by congr 1; exact propext (by omega)
  rw [e, e2]
  clear hm e e2 hx
  refine ⟨trivial, fun h1 => ⟨fun h2 => ⟨isL_row _ _ _, fun h3 => ⟨trivial, fun h4 => ⟨trivial, fun h5 => ?_, fun h5 => ?_⟩, fun h4 => ?_⟩, fun h3 => ?_⟩, fun h2 => ?_⟩, fun h1 => ?_⟩
  all_goals first | rw [h1, h2, h3, h4, h5] | rw [h1, h2, h3, h4] | rw [h1, h2, h3] | rw [h1, h2] | rw [h1]
  all_goals exact ⟨_, rfl, VLe.refl _⟩
theorem okOf : ModOK Try.prog G 43 mOf := by
  intro args p v hm hp h
  unfold mOf at hm
  split at hm; rotate_left; · cases hm
  split at hm; rotate_left; · cases hm
  rename_i x _ q kd ru ve L st se to hx
  obtain ⟨rfl, rfl⟩ := some_pair hm
  refine FnS.args (args' := [pgV ⟨kd, ru, ve, L, st, se, to⟩]) ?_ (.cons (pgOf_le hx hp.1) .nil)
  refine fn_T extTx_sound Try.func43 (by kernel_rfl) rfl (tOf kd ve st se ru to L) ?_ h
  simp only [holds_bT, holds_rq, holds_done, KF]
  rw [dec2_row]
  exact ⟨⟨isL_row _ _ _, hp.2⟩, _, rfl, VLe.refl _⟩
end
end Go.AE
