/- AE contracts: package alert's own functions, out of their kit contracts. -/
import Derived.Test.YtlaknbcmidjiaaaDoorR7
import Derived.Test.YtlaknbcmidjiaaaDoorAlLives
namespace Go.AE
open Go.Proofs Go.Proofs.YtlaknbcmidjiaaaDoor Go.RowKit

/-- The package's table of levels lies in the fixed blocks. -/
def LevG (G : Nat → Option Obj) : Prop := ∀ w : World, (∀ b o, G b = some o → w.heap[b]? = some o) → Lev w
def mAStep : Mod
  | [x, .c (.p (.i .i64 vd)), .c (.p (.i .i64 tk))] => match alOf x with
    | some (p, a) => some (p ∧ a.L.length ≤ 1000000, .t [alV1 (alStep a vd tk).1, .c (.p (.b (alStep a vd tk).2))])
    | none => none
  | _ => none
def mAAck : Mod
  | [x, .c (.p (.i .i64 tk))] => match alOf x with
    | some (p, a) => some (p ∧ a.L.length ≤ 1000000, .t [alV1 (alAck a tk).1, .c (.p (.i .i64 (alAck a tk).2))])
    | none => none
  | _ => none
def mAEsc : Mod
  | [x, .c (.p (.i .i64 tk)), .c (.p (.i .i64 dl)), .c (.p (.i .i64 lv))] => match alOf x with
    | some (p, a) => some (p ∧ a.L.length ≤ 1000000 ∧ inR .i64 a.si ∧ inR .i64 a.le, .t [alV1 (alEsc a tk dl lv).1, .c (.p (.b (alEsc a tk dl lv).2))])
    | none => none
  | _ => none
def mLives : Mod
  | [] => some (True, bV true)
  | _ => none

section
variable {G : Nat → Option Obj} {R : Nat → Prop} {w w' : World} {β : Bt}
theorem labels_rd {L : List (ByteArray × ByteArray)} {u : Value} (hr : ∀ b, R b → b < w.heap.size) (h : PR R w (listP enc2 2 L) u) : ∃ A c, u = .slice A L.length c ∧ RdL w w.heap.size A L.length (fun k => L.getD k default) := by
  obtain ⟨A, c, rfl, h1, h2, h3⟩ := h
  refine ⟨A, c, rfl, fun hn => ?_⟩
  obtain ⟨ad, e1, e2, e3⟩ := h3 (by omega)
  refine ⟨ad, e1, hr _ e2, fun k hk => ?_⟩
  obtain ⟨u, q1, q2⟩ := e3 (k / 2) (k % 2) (by omega) (by omega)
  rw [show k / 2 * 2 + k % 2 = k by omega] at q1
  rw [q1]
  congr 1
  have hk2 : k % 2 = 0 ∨ k % 2 = 1 := by omega
  unfold lcell
  rcases hk2 with e | e
  · rw [e] at q2
    rw [if_pos e]
    exact q2
  · rw [e] at q2
    rw [if_neg (by omega)]
    exact q2
theorem al_open {a : Al} {u : Value} (hr : ∀ b, R b → b < w.heap.size) (h : VR β R w (alV a) u) : ∃ A c, u = .agg #[.string a.r, .int .i64 a.ver, .slice A a.L.length c, .int .i64 a.st, .int .i64 a.si, .int .i64 a.le] ∧ RdL w w.heap.size A a.L.length (fun k => a.L.getD k default) := by
  obtain ⟨us, rfl, h⟩ := h
  obtain ⟨u0, l0, e0, h0, h⟩ := All2.nth2 h
  obtain ⟨u1, l1, e1, h1, h⟩ := All2.nth2 h
  obtain ⟨u2, l2, e2, h2, h⟩ := All2.nth2 h
  obtain ⟨u3, l3, e3, h3, h⟩ := All2.nth2 h
  obtain ⟨u4, l4, e4, h4, h⟩ := All2.nth2 h
  obtain ⟨u5, l5, e5, h5, h⟩ := All2.nth2 h
  obtain rfl := All2.nil2 h
  subst e5; subst e4; subst e3; subst e2; subst e1
  obtain ⟨A, c, rfl, hR⟩ := labels_rd hr h2
  have h0 : u0 = .string a.r := h0
  have h1 : u1 = .int .i64 a.ver := h1
  have h3 : u3 = .int .i64 a.st := h3
  have h4 : u4 = .int .i64 a.si := h4
  have h5 : u5 = .int .i64 a.le := h5
  subst h0; subst h1; subst h3; subst h4; subst h5
  refine ⟨A, c, ?_, hR⟩
  congr 1
  cases us; simp_all
theorem labels_own {L : List (ByteArray × ByteArray)} {v : Value} (h : w'.ownsRow w.heap.size 35 2 v L.length (vl (lcell fun k => L.getD k default) (L.length * 2))) : PR (newR R w w') w' (listP enc2 2 L) v := by
  obtain ⟨_, h⟩ := h
  rcases h with ⟨rfl, h0⟩ | ⟨g, cap, cur, rfl, hg, hb, hc, hm, hs, ht⟩
  · refine ⟨none, 0, by rw [h0], by omega, by omega, fun hn => by omega⟩
  · refine ⟨_, cap, rfl, hc, hm, fun hn => ⟨_, rfl, .inr ⟨hg, (Array.getElem?_eq_some_iff.1 hb).1⟩, fun e o he ho => ?_⟩⟩
    have hk : e * 2 + o < L.length * 2 := by omega
    have hval := congrArg (·[e * 2 + o]?) ht
    simp only [List.getElem?_take, if_pos hk] at hval
    rw [vl_get _ _ _ hk, Array.getElem?_toList] at hval
    refine ⟨lcell (fun k => L.getD k default) (e * 2 + o), ?_, ?_⟩
    · have e1 : (Addr.mk g 0 none).add (e * 2 + o) = ⟨g, e * 2 + o, none⟩ := by
        unfold Addr.add; split
        · rename_i h0; rw [h0]
        · simp
      rw [e1, cell_of_row w' g _ cur 35 (0, 0) hb]
      exact hval
    · have ho' : o = 0 ∨ o = 1 := by omega
      rcases ho' with rfl | rfl
      · show lcell _ (e * 2) = _; rw [lcell0] <;> rfl
      · rw [lcell1] <;> rfl
theorem al_ret {a : Al} {v : Value} (h : PR (newR R w w') w' (listP enc2 2 a.L) v) : V1R (fun _ => none) (newR R w w') w' (alV1 a) (.agg #[.string a.r, .int .i64 a.ver, v, .int .i64 a.st, .int .i64 a.si, .int .i64 a.le]) :=
  ⟨_, rfl, rfl, rfl, h, rfl, rfl, rfl, trivial⟩
theorem one_arg {x : V} {vs : Array Value} (h : All2 (VR (fun _ => none) R w) [x] vs.toList) : ∃ u, vs = #[u] ∧ VR (fun _ => none) R w x u := by
  obtain ⟨u, l, e, h1, h2⟩ := All2.nth2 h
  obtain rfl := All2.nil2 h2
  exact ⟨u, by cases vs; simp_all, h1⟩
theorem okAValid (hG : LevG G) : ModOK Tryd.prog G 15 mRValid := by
  intro args p v hm hp h
  unfold mRValid at hm
  split at hm; rotate_left; · cases hm
  split at hm; rotate_left; · cases hm
  rename_i x _ q a hx
  obtain ⟨rfl, rfl⟩ := some_pair hm
  refine FnS.args (args' := [alV a]) ?_ (.cons (alOf_le hx hp) .nil)
  refine fn_kit rfl ?_ h
  intro R w vs hr hg ha
  obtain ⟨u, rfl, hu⟩ := one_arg ha
  obtain ⟨A, c, rfl, hR⟩ := al_open hr hu
  refine (aValid_any a.r a.ver A a.L.length c _ a.st a.si a.le w hR (hG w hg)).mono ?_
  rintro e w' ⟨rfl, hb⟩
  exact ⟨_, rfl, rfl, hb⟩
theorem okLives (hG : LevG G) : ModOK Tryd.prog G 17 mLives := by
  intro args p v hm hp h
  unfold mLives at hm
  split at hm; rotate_left; · cases hm
  obtain ⟨rfl, rfl⟩ := some_pair hm
  refine fn_kit rfl ?_ h
  intro R w vs hr hg ha
  obtain rfl : vs = #[] := by have := All2.nil2 ha; cases vs; simp_all
  refine (lives_any w (hG w hg)).mono ?_
  rintro e w' ⟨rfl, hb⟩
  exact ⟨_, rfl, rfl, hb⟩
theorem okAAck (hG : LevG G) : ModOK Tryd.prog G 30 mAAck := by
  intro args p v hm hp h
  unfold mAAck at hm
  split at hm; rotate_left; · cases hm
  split at hm; rotate_left; · cases hm
  rename_i x tk _ q a hx
  obtain ⟨rfl, rfl⟩ := some_pair hm
  obtain ⟨hq, hn⟩ := hp
  refine FnS.args (args' := [alV a, iV tk]) ?_ (.cons (alOf_le hx hq) (.cons (.refl _) .nil))
  refine fn_kit rfl ?_ h
  intro R w vs hr hg ha
  obtain ⟨u, l, e, hu, ha⟩ := All2.nth2 ha
  obtain ⟨u1, l1, rfl, hu1, ha⟩ := All2.nth2 ha
  obtain rfl := All2.nil2 ha
  have hu1 : u1 = .int .i64 tk := hu1
  subst hu1
  obtain ⟨A, c, rfl, hR⟩ := al_open hr hu
  cases vs
  rename_i lv_
  have e : lv_ = _ := e
  subst e
  refine (aAck_any a.r a.ver A a.L.length c _ a.st a.si a.le tk w hn hR (hG w hg)).mono ?_
  rintro e w' ⟨hb, hres⟩
  have hv : visB a.r a.ver (fun k => a.L.getD k default) a.L.length a.st a.si a.le tk = alVis a tk := rfl
  rw [hv] at hres
  split at hres
  · rename_i h1
    subst hres
    refine ⟨_, rfl, ?_, hb⟩
    have e1 : alAck a tk = (al0, 1) := by unfold alAck; rw [if_pos h1]
    rw [e1]
    exact ⟨_, rfl, al_ret (a := al0) (labels_own ⟨rfl, .inl ⟨rfl, rfl⟩⟩), rfl, trivial⟩
  · rename_i h1
    split at hres
    · rename_i h2
      obtain ⟨v, rfl, ho⟩ := hres
      refine ⟨_, rfl, ?_, hb⟩
      have e1 : alAck a tk = (alSet a 3 tk a.le, 0) := by unfold alAck; rw [if_neg h1, if_pos h2]
      rw [e1]
      exact ⟨_, rfl, al_ret (a := alSet a 3 tk a.le) (labels_own ho), rfl, trivial⟩
    · rename_i h2
      subst hres
      refine ⟨_, rfl, ?_, hb⟩
      have e1 : alAck a tk = (al0, 20) := by unfold alAck; rw [if_neg h1, if_neg h2]
      rw [e1]
      exact ⟨_, rfl, al_ret (a := al0) (labels_own ⟨rfl, .inl ⟨rfl, rfl⟩⟩), rfl, trivial⟩
theorem okAStep (hG : LevG G) : ModOK Tryd.prog G 18 mAStep := by
  intro args p v hm hp h
  unfold mAStep at hm
  split at hm; rotate_left; · cases hm
  split at hm; rotate_left; · cases hm
  rename_i x vd tk _ q a hx
  obtain ⟨rfl, rfl⟩ := some_pair hm
  obtain ⟨hq, hn⟩ := hp
  refine FnS.args (args' := [alV a, iV vd, iV tk]) ?_ (.cons (alOf_le hx hq) (.cons (.refl _) (.cons (.refl _) .nil)))
  refine fn_kit rfl ?_ h
  intro R w vs hr hg ha
  obtain ⟨u, l, e, hu, ha⟩ := All2.nth2 ha
  obtain ⟨u1, l1, rfl, hu1, ha⟩ := All2.nth2 ha
  obtain ⟨u2, l2, rfl, hu2, ha⟩ := All2.nth2 ha
  obtain rfl := All2.nil2 ha
  have hu1 : u1 = .int .i64 vd := hu1
  have hu2 : u2 = .int .i64 tk := hu2
  subst hu1; subst hu2
  obtain ⟨A, c, rfl, hR⟩ := al_open hr hu
  cases vs
  rename_i lv_
  have e : lv_ = _ := e
  subst e
  refine (aStep_any a.r a.ver A a.L.length c _ a.st a.si a.le vd tk w hn hR (hG w hg)).mono ?_
  rintro e w' ⟨v, rfl, ho, hb⟩
  exact ⟨_, rfl, ⟨_, rfl, al_ret (a := (alStep a vd tk).1) (labels_own ho), rfl, trivial⟩, hb⟩
theorem okAEsc (hG : LevG G) : ModOK Tryd.prog G 21 mAEsc := by
  intro args p v hm hp h
  unfold mAEsc at hm
  split at hm; rotate_left; · cases hm
  split at hm; rotate_left; · cases hm
  rename_i x tk dl lv _ q a hx
  obtain ⟨rfl, rfl⟩ := some_pair hm
  obtain ⟨hq, hn, b1, b2⟩ := hp
  refine FnS.args (args' := [alV a, iV tk, iV dl, iV lv]) ?_ (.cons (alOf_le hx hq) (.cons (.refl _) (.cons (.refl _) (.cons (.refl _) .nil))))
  refine fn_kit rfl ?_ h
  intro R w vs hr hg ha
  obtain ⟨u, l, e, hu, ha⟩ := All2.nth2 ha
  obtain ⟨u1, l1, rfl, hu1, ha⟩ := All2.nth2 ha
  obtain ⟨u2, l2, rfl, hu2, ha⟩ := All2.nth2 ha
  obtain ⟨u3, l3, rfl, hu3, ha⟩ := All2.nth2 ha
  obtain rfl := All2.nil2 ha
  have hu1 : u1 = .int .i64 tk := hu1
  have hu2 : u2 = .int .i64 dl := hu2
  have hu3 : u3 = .int .i64 lv := hu3
  subst hu1; subst hu2; subst hu3
  obtain ⟨A, c, rfl, hR⟩ := al_open hr hu
  cases vs
  rename_i lv_
  have e : lv_ = _ := e
  subst e
  refine (aEsc_any a.r a.ver A a.L.length c _ a.st a.si a.le tk dl lv w hn hR (hG w hg) b1 b2).mono ?_
  rintro e w' ⟨v, rfl, ho, hb⟩
  exact ⟨_, rfl, ⟨_, rfl, al_ret (a := (alEsc a tk dl lv).1) (labels_own ho), rfl, trivial⟩, hb⟩
end
end Go.AE
