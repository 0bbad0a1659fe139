/- AE contracts: alert.Hysteresis and lives of package law28, out of their kit contracts. -/
import Derived.Test.YtplnkainmfkfgaaDoorN10
import Derived.Test.YtplnkainmfkfgaaDoorAe25
import Derived.Test.YtplnkainmfkfgaaDoorAlLives
namespace Go.AE
set_option linter.unusedVariables false
set_option linter.unusedSimpArgs false
open Go.Proofs Go.Proofs.YtplnkainmfkfgaaDoor Go.RowKit
theorem some_three {p q : Prop} {v u : V} {h h' : List AO} (e : some (p, v, h) = some (q, u, h')) : p = q ∧ v = u ∧ h = h' := by
  injection e with e
  injection e with h1 h2
  injection h2 with h2 h3
  exact ⟨h1, h2, h3⟩
/-- The package's table of levels lies in the fixed blocks. -/
def LevG (G : Nat → Option Obj) : Prop := ∀ w : World, (∀ b o, G b = some o → w.heap[b]? = some o) → Lev w
def mLives : Mod
  | [] => some (True, bV true)
  | _ => none
def iF (f : Nat → Nat → PV) (e : Nat) : Int := intOfP (f e 0)
def iV1 (n : Nat) (F : Nat → Int) : V := .c (.p (.l 1 n fun e _ => .i .i64 (F e)))
def rowI (h : List AO) : V → Option (Prop × Nat × (Nat → Int))
  | .c (.sl id 1 0 n) => match nth .gone h id with
    | .row _ 1 m f => some (m = n ∧ ∀ e, e < n → f e 0 = .p (.i .i64 (intOfP (unP (f e 0)))), n, fun e => intOfP (unP (f e 0)))
    | _ => none
  | _ => none
def mAHyst : ModH
  | [x, y], h => match rowI h x, rowI h y with
    | some (p, n, F), some (q, m, H) => some ((p ∧ q) ∧ n ≤ 1000000 ∧ m ≤ 1000000, listV encI 1 (hystL F H (min n m)), h)
    | _, _ => none
  | _, _ => none
section
variable {G : Nat → Option Obj}
section
variable {R : Nat → Prop} {w w' : World}
theorem ints_rd {n : Nat} {F : Nat → Int} {u : Value} (hr : ∀ b, R b → b < w.heap.size) (h : VR Bt.nil R w (iV1 n F) u) : ∃ A c, u = .slice A n c ∧ Rd w w.heap.size A n fun k => .int .i64 (F k) := by
  obtain ⟨A, c, rfl, h1, h2, h3⟩ := h
  refine ⟨A, c, rfl, fun hn => ?_⟩
  obtain ⟨ad, e1, e2, e3⟩ := h3 hn
  refine ⟨ad, e1, hr _ e2, fun k hk => ?_⟩
  obtain ⟨u, q1, q2⟩ := e3 k 0 hk (by omega)
  rw [show k * 1 + 0 = k by omega] at q1
  rw [q1]
  exact congrArg some q2
end
theorem rowI_le {h : List AO} {x : V} {p : Prop} {n : Nat} {F : Nat → Int} (hx : rowI h x = some (p, n, F)) (hp : p) : VLeH G h x (iV1 n F) := by
  unfold rowI at hx
  split at hx
  · rename_i id n'
    split at hx
    · rename_i ty m f hid
      injection hx with hx
      injection hx with h1 hx
      injection hx with h2 h3
      subst h2; subst h3; subst h1
      obtain ⟨rfl, hf⟩ := hp
      rintro β R w u hs ⟨A, c, rfl, g1, g2, g3⟩
      refine ⟨A, c, rfl, g1, g2, fun hn => ?_⟩
      rcases g3 with ⟨_, g4, _⟩ | ⟨b, N, g4, rfl, g5⟩
      · omega
      · have hob := hs.obj id b N g4
        rw [hid] at hob
        obtain ⟨cs, k1, k2, k3, k4⟩ := hob
        refine ⟨_, rfl, hs.lt id b N g4, fun e o he ho => ?_⟩
        obtain rfl : o = 0 := by omega
        obtain ⟨u, q1, q2⟩ := k4 e 0 he (by omega)
        rw [hf e he] at q2
        refine ⟨u, ?_, q2⟩
        rw [add_mid, Nat.zero_mul, Nat.zero_add, cell_of_row w b _ cs ty (0, 0) k1]
        exact q1
    · cases hx
  · cases hx
theorem aHystN {n m : Nat} (hn : n ≤ 1000000) (hm : m ≤ 1000000) (F H : Nat → Int) : FnN Tryd.prog G 10 [iV1 n F, iV1 m H] (hystL F H (min n m)) := by
  intro R w vs hr hg ha
  obtain ⟨u, l, e, hu, ha⟩ := All2.nth2 ha
  obtain ⟨u1, l1, rfl, hu1, ha⟩ := All2.nth2 ha
  obtain rfl := All2.nil2 ha
  obtain ⟨A, c, rfl, hR⟩ := ints_rd hr hu
  obtain ⟨B, d, rfl, hR2⟩ := ints_rd hr hu1
  cases vs
  rename_i lv_
  have e : lv_ = _ := e
  subst e
  refine (aHyst_any A B n m c d hn hm F H w hR hR2).mono ?_
  rintro e w' ⟨v, rfl, ⟨_, ho⟩, hb⟩
  refine ⟨_, rfl, ?_, hb⟩
  rcases ho with ⟨rfl, h0⟩ | ⟨g, cap, cur, rfl, hg, hbk, hc, hmx, hs, ht⟩
  · exact ⟨none, 0, by rw [h0], by omega, by omega, fun hn => by omega⟩
  · refine ⟨_, cap, rfl, hc, hmx, fun hn => ⟨_, rfl, ⟨hg, (Array.getElem?_eq_some_iff.1 hbk).1⟩, fun e o he ho => ?_⟩⟩
    obtain rfl : o = 0 := by omega
    have hval := congrArg (·[e]?) ht
    simp only [List.getElem?_take, show e < (hystL F H (min n m)).length * 1 by omega, if_true, List.getElem?_map, Array.getElem?_toList] at hval
    rw [List.getElem?_eq_getElem he] at hval
    refine ⟨.int .i64 ((hystL F H (min n m)).getD e default), ?_, rfl⟩
    have e1 : (Addr.mk g 0 none).add (e * 1 + 0) = ⟨g, e, none⟩ := by
      unfold Addr.add; split
      · rename_i h0; rw [show e = 0 by omega]
      · simp
    rw [e1, cell_of_row w' g _ cur 3 (0, 0) hbk, hval]
    simp [he]
theorem okAHyst : ModHOK Tryd.prog G 10 mAHyst := by
  intro args h p v h' hm hp
  unfold mAHyst at hm
  split at hm; rotate_left; · cases hm
  split at hm; rotate_left; · cases hm
  rename_i x y _ _ _ _ p1 n F q1 m H hx hy
  obtain ⟨rfl, rfl, rfl⟩ := some_three hm
  obtain ⟨⟨h1, h2⟩, h3, h4⟩ := hp
  exact fn_newH (.cons (rowI_le hx h1) (.cons (rowI_le hy h2) .nil)) (aHystN h3 h4 F H)
theorem okLives (hG : LevG G) : ModOK Tryd.prog G 11 mLives := by
  intro args p v hm hp h
  unfold mLives at hm
  split at hm; rotate_left; · cases hm
  obtain ⟨rfl, rfl⟩ := some_pairQ hm
  refine fn_kit rfl ?_ h
  intro R w vs hr hg ha
  obtain rfl : vs = #[] := by have := All2.nil2 ha; cases vs; simp_all
  refine (lives_any w (hG w hg)).mono ?_
  rintro e w' ⟨rfl, hb⟩
  exact ⟨_, rfl, rfl, hb⟩
end
end Go.AE
