/- AE contracts: alert.Step and alert.Escalate, out of their kit contracts. -/
import Derived.Test.YtgjcldncnpochaaDoorS1
import Derived.Test.YtgjcldncnpochaaDoorAl4
namespace Go.AE
set_option linter.unusedVariables false
set_option linter.unusedSimpArgs false
open Go.Proofs Go.Proofs.YtgjcldncnpochaaDoor Go.RowKit

/-- An alert. -/
structure Al where
  r : ByteArray
  ver : Int
  L : List (ByteArray × ByteArray)
  st : Int
  si : Int
  le : Int
def alCs (a : Al) : List C := [.p (.s a.r), .p (.i .i64 a.ver), .p (listP enc2 2 a.L), .p (.i .i64 a.st), .p (.i .i64 a.si), .p (.i .i64 a.le)]
def alV (a : Al) : V := .a (alCs a)
def alV1 (a : Al) : V1 := .a (alCs a)
def alOf : V → Option (Prop × Al)
  | .a [.p (.s r), .p (.i .i64 ver), .p (.l 2 n f), .p (.i .i64 st), .p (.i .i64 si), .p (.i .i64 le)] => some (IsL enc2 2 (decL dec2 n f) n f, ⟨r, ver, decL dec2 n f, st, si, le⟩)
  | _ => none
def alOK (a : Al) : Bool := alB a.r a.ver (fun k => a.L.getD k default) a.L.length a.st a.si a.le
def alVis (a : Al) (tk : Int) : Bool := alOK a && decide (a.si ≤ tk) && decide (tk ≤ 1048576)
def alSet (a : Al) (st si le : Int) : Al := ⟨a.r, a.ver, a.L, st, si, le⟩
def alStep (a : Al) (vd tk : Int) : Al × Bool := let d := stepD (alVis a tk) a.st a.si a.le vd tk; (alSet a d.1 d.2.1 d.2.2.1, d.2.2.2)
def alEsc (a : Al) (tk dl lv : Int) : Al × Bool := let d := escD (alVis a tk) a.st a.si a.le tk dl lv; (alSet a d.1 d.2.1 d.2.2.1, d.2.2.2)
theorem alOf_le {x : V} {p : Prop} {a : Al} (h : alOf x = some (p, a)) (hp : p) : VLe x (alV a) := by
  unfold alOf at h
  split at h
  · rename_i r ver n f st si le
    injection h with h
    injection h with h1 h2
    subst h2; subst h1
    refine VLe.a (xs := [.s r, .i .i64 ver, .l 2 n f, .i .i64 st, .i .i64 si, .i .i64 le]) (vs := [.s r, .i .i64 ver, listP enc2 2 (decL dec2 n f), .i .i64 st, .i .i64 si, .i .i64 le]) (.cons (.refl _) (.cons (.refl _) (.cons ?_ (.cons (.refl _) (.cons (.refl _) (.cons (.refl _) .nil))))))
    obtain ⟨e1, e2⟩ := hp
    unfold listP
    rw [e1]
    exact PLe.l fun e o he ho => PLe.of_eq (e2 e o he ho)
  · cases h
theorem lvB_iff {st le : Int} (h0 : 0 ≤ st) (h4 : st ≤ 4) : lvB st le = true ↔ ((st = 0 ∨ st = 1 ∨ st = 2) ∧ le = 0) ∨ (st = 3 ∧ 0 ≤ le ∧ le ≤ 16) ∨ (st = 4 ∧ 1 ≤ le ∧ le ≤ 16) := by
  have hc : st = 0 ∨ st = 1 ∨ st = 2 ∨ st = 3 ∨ st = 4 := by omega
  unfold lvB
  rw [Bool.and_eq_true, decide_eq_true_iff, decide_eq_true_iff]
  rcases hc with rfl | rfl | rfl | rfl | rfl
  · show (0 ≤ le ∧ le ≤ 0) ↔ _; omega
  · show (0 ≤ le ∧ le ≤ 0) ↔ _; omega
  · show (0 ≤ le ∧ le ≤ 0) ↔ _; omega
  · show (0 ≤ le ∧ le ≤ 16) ↔ _; omega
  · show (1 ≤ le ∧ le ≤ 16) ↔ _; omega
theorem alOK_iff (a : Al) : alOK a = true ↔ (nameB a.r = true ∧ validL (fun k => a.L.getD k default) a.L.length = true) ∧ 1 ≤ a.ver ∧ 0 ≤ a.si ∧ a.si ≤ 1048576 ∧ (((a.st = 0 ∨ a.st = 1 ∨ a.st = 2) ∧ a.le = 0) ∨ (a.st = 3 ∧ 0 ≤ a.le ∧ a.le ≤ 16) ∨ (a.st = 4 ∧ 1 ≤ a.le ∧ a.le ≤ 16)) := by
  unfold alOK alB
  simp only [Bool.and_eq_true, decide_eq_true_iff]
  constructor
  · rintro ⟨⟨⟨⟨⟨⟨⟨h1, h2⟩, h3⟩, h4⟩, h5⟩, h6⟩, h7⟩, h8⟩
    exact ⟨⟨h1, h3⟩, h2, h6, h7, (lvB_iff h4 h5).1 h8⟩
  · rintro ⟨⟨h1, h3⟩, h2, h6, h7, h8⟩
    have h4 : 0 ≤ a.st := by omega
    have h5 : a.st ≤ 4 := by omega
    exact ⟨⟨⟨⟨⟨⟨⟨h1, h2⟩, h3⟩, h4⟩, h5⟩, h6⟩, h7⟩, (lvB_iff h4 h5).2 h8⟩
/-- The package's table of levels lies in the fixed blocks. -/
def LevG (G : Nat → Option Obj) : Prop := ∀ w : World, (∀ b o, G b = some o → w.heap[b]? = some o) → Lev w
def mAStep : Mod
  | [x, .c (.p (.i .i64 vd)), .c (.p (.i .i64 tk))] => match alOf x with
    | some (p, a) => some (p ∧ a.L.length ≤ 1000000, .t [alV1 (alStep a vd tk).1, .c (.p (.b (alStep a vd tk).2))])
    | none => none
  | _ => none
def mAEsc : Mod
  | [x, .c (.p (.i .i64 tk)), .c (.p (.i .i64 dl)), .c (.p (.i .i64 lv))] => match alOf x with
    | some (p, a) => some (p ∧ a.L.length ≤ 1000000 ∧ inR .i64 a.si ∧ inR .i64 a.le, .t [alV1 (alEsc a tk dl lv).1, .c (.p (.b (alEsc a tk dl lv).2))])
    | none => none
  | _ => none

section
variable {G : Nat → Option Obj} {R : Nat → Prop} {w w' : World} {β : Bt}
theorem labels_rd {L : List (ByteArray × ByteArray)} {u : Value} (hr : ∀ b, R b → b < w.heap.size) (h : PR R w (listP enc2 2 L) u) : ∃ A c, u = .slice A L.length c ∧ RdL w w.heap.size A L.length (fun k => L.getD k default) := by
  obtain ⟨A, c, rfl, h1, h2, h3⟩ := h
  refine ⟨A, c, rfl, fun hn => ?_⟩
  obtain ⟨ad, e1, e2, e3⟩ := h3 (by omega)
  refine ⟨ad, e1, hr _ e2, fun k hk => ?_⟩
  obtain ⟨u, q1, q2⟩ := e3 (k / 2) (k % 2) (by omega) (by omega)
  rw [show k / 2 * 2 + k % 2 = k by omega] at q1
  rw [q1]
  congr 1
  have hk2 : k % 2 = 0 ∨ k % 2 = 1 := by omega
  unfold lcell
  rcases hk2 with e | e
  · rw [e] at q2
    rw [if_pos e]
    exact q2
  · rw [e] at q2
    rw [if_neg (by omega)]
    exact q2
theorem al_open {a : Al} {u : Value} (hr : ∀ b, R b → b < w.heap.size) (h : VR β R w (alV a) u) : ∃ A c, u = .agg #[.string a.r, .int .i64 a.ver, .slice A a.L.length c, .int .i64 a.st, .int .i64 a.si, .int .i64 a.le] ∧ RdL w w.heap.size A a.L.length (fun k => a.L.getD k default) := by
  obtain ⟨us, rfl, h⟩ := h
  obtain ⟨u0, l0, e0, h0, h⟩ := All2.nth2 h
  obtain ⟨u1, l1, e1, h1, h⟩ := All2.nth2 h
  obtain ⟨u2, l2, e2, h2, h⟩ := All2.nth2 h
  obtain ⟨u3, l3, e3, h3, h⟩ := All2.nth2 h
  obtain ⟨u4, l4, e4, h4, h⟩ := All2.nth2 h
  obtain ⟨u5, l5, e5, h5, h⟩ := All2.nth2 h
  obtain rfl := All2.nil2 h
  subst e5; subst e4; subst e3; subst e2; subst e1
  obtain ⟨A, c, rfl, hR⟩ := labels_rd hr h2
  have h0 : u0 = .string a.r := h0
  have h1 : u1 = .int .i64 a.ver := h1
  have h3 : u3 = .int .i64 a.st := h3
  have h4 : u4 = .int .i64 a.si := h4
  have h5 : u5 = .int .i64 a.le := h5
  subst h0; subst h1; subst h3; subst h4; subst h5
  refine ⟨A, c, ?_, hR⟩
  congr 1
  cases us; simp_all
theorem labels_own {L : List (ByteArray × ByteArray)} {v : Value} (h : w'.ownsRow w.heap.size 67 2 v L.length (vl (lcell fun k => L.getD k default) (L.length * 2))) : PR (newR R w w') w' (listP enc2 2 L) v := by
  obtain ⟨_, h⟩ := h
  rcases h with ⟨rfl, h0⟩ | ⟨g, cap, cur, rfl, hg, hb, hc, hm, hs, ht⟩
  · refine ⟨none, 0, by rw [h0], by omega, by omega, fun hn => by omega⟩
  · refine ⟨_, cap, rfl, hc, hm, fun hn => ⟨_, rfl, .inr ⟨hg, (Array.getElem?_eq_some_iff.1 hb).1⟩, fun e o he ho => ?_⟩⟩
    have hk : e * 2 + o < L.length * 2 := by omega
    have hval := congrArg (·[e * 2 + o]?) ht
    simp only [List.getElem?_take, if_pos hk] at hval
    rw [vl_get _ _ _ hk, Array.getElem?_toList] at hval
    refine ⟨lcell (fun k => L.getD k default) (e * 2 + o), ?_, ?_⟩
    · have e1 : (Addr.mk g 0 none).add (e * 2 + o) = ⟨g, e * 2 + o, none⟩ := by
        unfold Addr.add; split
        · rename_i h0; rw [h0]
        · simp
      rw [e1, cell_of_row w' g _ cur 67 (0, 0) hb]
      exact hval
    · have ho' : o = 0 ∨ o = 1 := by omega
      rcases ho' with rfl | rfl
      · show lcell _ (e * 2) = _; rw [lcell0] <;> rfl
      · rw [lcell1] <;> rfl
theorem al_ret {a : Al} {v : Value} (h : PR (newR R w w') w' (listP enc2 2 a.L) v) : V1R Bt.nil (newR R w w') w' (alV1 a) (.agg #[.string a.r, .int .i64 a.ver, v, .int .i64 a.st, .int .i64 a.si, .int .i64 a.le]) :=
  ⟨_, rfl, rfl, rfl, h, rfl, rfl, rfl, trivial⟩
theorem okAStep (hG : LevG G) : ModOK Tryd.prog G 10 mAStep := by
  intro args p v hm hp h
  unfold mAStep at hm
  split at hm; rotate_left; · cases hm
  split at hm; rotate_left; · cases hm
  rename_i x vd tk _ q a hx
  obtain ⟨rfl, rfl⟩ := some_pair hm
  obtain ⟨hq, hn⟩ := hp
  refine FnS.args (args' := [alV a, iV vd, iV tk]) ?_ (.cons (alOf_le hx hq) (.cons (.refl _) (.cons (.refl _) .nil)))
  refine fn_kit rfl ?_ h
  intro R w vs hr hg ha
  obtain ⟨u, l, e, hu, ha⟩ := All2.nth2 ha
  obtain ⟨u1, l1, rfl, hu1, ha⟩ := All2.nth2 ha
  obtain ⟨u2, l2, rfl, hu2, ha⟩ := All2.nth2 ha
  obtain rfl := All2.nil2 ha
  have hu1 : u1 = .int .i64 vd := hu1
  have hu2 : u2 = .int .i64 tk := hu2
  subst hu1; subst hu2
  obtain ⟨A, c, rfl, hR⟩ := al_open hr hu
  cases vs
  rename_i lv_
  have e : lv_ = _ := e
  subst e
  refine (aStep_any a.r a.ver A a.L.length c _ a.st a.si a.le vd tk w hn hR (hG w hg)).mono ?_
  rintro e w' ⟨v, rfl, ho, hb⟩
  exact ⟨_, rfl, ⟨_, rfl, al_ret (a := (alStep a vd tk).1) (labels_own ho), rfl, trivial⟩, hb⟩
theorem okAEsc (hG : LevG G) : ModOK Tryd.prog G 11 mAEsc := by
  intro args p v hm hp h
  unfold mAEsc at hm
  split at hm; rotate_left; · cases hm
  split at hm; rotate_left; · cases hm
  rename_i x tk dl lv _ q a hx
  obtain ⟨rfl, rfl⟩ := some_pair hm
  obtain ⟨hq, hn, b1, b2⟩ := hp
  refine FnS.args (args' := [alV a, iV tk, iV dl, iV lv]) ?_ (.cons (alOf_le hx hq) (.cons (.refl _) (.cons (.refl _) (.cons (.refl _) .nil))))
  refine fn_kit rfl ?_ h
  intro R w vs hr hg ha
  obtain ⟨u, l, e, hu, ha⟩ := All2.nth2 ha
  obtain ⟨u1, l1, rfl, hu1, ha⟩ := All2.nth2 ha
  obtain ⟨u2, l2, rfl, hu2, ha⟩ := All2.nth2 ha
  obtain ⟨u3, l3, rfl, hu3, ha⟩ := All2.nth2 ha
  obtain rfl := All2.nil2 ha
  have hu1 : u1 = .int .i64 tk := hu1
  have hu2 : u2 = .int .i64 dl := hu2
  have hu3 : u3 = .int .i64 lv := hu3
  subst hu1; subst hu2; subst hu3
  obtain ⟨A, c, rfl, hR⟩ := al_open hr hu
  cases vs
  rename_i lv_
  have e : lv_ = _ := e
  subst e
  refine (aEsc_any a.r a.ver A a.L.length c _ a.st a.si a.le tk dl lv w hn hR (hG w hg) b1 b2).mono ?_
  rintro e w' ⟨v, rfl, ho, hb⟩
  exact ⟨_, rfl, ⟨_, rfl, al_ret (a := (alEsc a tk dl lv).1) (labels_own ho), rfl, trivial⟩, hb⟩
end
end Go.AE
