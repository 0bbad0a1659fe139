/- AE contracts: (*Ledger).Fire. -/
import Derived.Test.YtfjihbmehhccoaaP4
namespace Go.AE
set_option linter.unusedVariables false
set_option linter.unusedSimpArgs false
open Go.Proofs Go.Proofs.Ytfjihbmehhccoaa Go.RowKit
noncomputable def mAdd (D : Ld) : ModH
  | [.c (.ptr 4 0), x], h => match h with
    | .cells 86 [.sl 1 7 0 n, .mp 2, .mp 3] :: .row 31 7 n' f :: .mapb ok gp :: .mapl ok2 3 1 gs none :: .pin 0 b :: rest => match pgOf x with
      | some (q, ⟨kd, ru, ve, L, st, se, to⟩) => some (q ∧ (n = D.M.length ∧ n' = D.M.length ∧ f = rowC encPg D.M ∧ ok = okK Try.prog 81 ∧ gp = D.gp ∧ ok2 = okK Try.prog 79 ∧ gs = D.gs) ∧ Fits D ⟨kd, ru, ve, L, st, se, to⟩, .t [], outH [0, 1, 2, 3] [0] [1] (ldH D (.pin 0 b :: rest)) (ldE (ladd D ⟨kd, ru, ve, L, st, se, to⟩) 0))
      | none => none
    | _ => none
  | _, _ => none
noncomputable def extFi (D : Ld) : Ext := extH [(42, liftM mPVal), (43, liftM mOf), (48, mAdd D)]
theorem tF (D : Ld) (rest : List AO) (b : Nat) (kd ve st se : Int) (ru to : ByteArray) (L : List (ByteArray × ByteArray)) : exTs (extFi D) (pcs Try.prog Try.f25) (stIn Try.f25 [0, 1, 2, 3] [0] [b] [.c (.ptr 0 0), pgW kd ru ve L st se to] (ldH D rest)) (endM [0] [] (resOf Try.prog Try.f25)) = bT (kd != 0)
    (Tr.done X.ret
      (cst 2 [(0, V.c (C.ptr 0 0)), (1, V.c (C.p (PV.i IntKind.i64 1)))] [AO.pin 1 b, AO.cells 86 [C.sl 2 7 0 D.M.length, C.mp 3, C.mp 4], AO.row 31 7 D.M.length fun e o => renC [4, 0, 1, 2, 3] (renC [0, 1, 2, 3] (rowC encPg D.M e o)), AO.mapb (okK Try.prog 81) D.gp, AO.mapl (okK Try.prog 79) 3 1 D.gs none]))
    (Tr.rq (IsL enc2 2 (decL dec2 L.length (rowP enc2 L)) L.length (rowP enc2 L))
      (bT (!pgOK (Pg.mk kd ru ve (decL dec2 L.length (rowP enc2 L)) st se to))
        (Tr.done X.ret
          (cst 2 [(0, V.c (C.ptr 0 0)), (1, V.c (C.p (PV.i IntKind.i64 1)))] [AO.pin 1 b, AO.cells 86 [C.sl 2 7 0 D.M.length, C.mp 3, C.mp 4], AO.row 31 7 D.M.length fun e o => renC [4, 0, 1, 2, 3] (renC [0, 1, 2, 3] (rowC encPg D.M e o)), AO.mapb (okK Try.prog 81) D.gp, AO.mapl (okK Try.prog 79) 3 1 D.gs none]))
        (Tr.rq (IsL enc2 2 (decL dec2 L.length (rowP enc2 L)) L.length (rowP enc2 L) ∧ (textLb (decL dec2 L.length (rowP enc2 L))).size ≤ 1000000)
          (Tr.rq
            (okK Try.prog 81 = okK Try.prog 81 ∧
              okK Try.prog 81 (Value.agg #[Value.string ru, Value.int IntKind.i64 ve, Value.string (textLb (decL dec2 L.length (rowP enc2 L))), Value.int IntKind.i64 st]) = true)
            (bT ((D.gp (Value.agg #[Value.string ru, Value.int IntKind.i64 ve, Value.string (textLb (decL dec2 L.length (rowP enc2 L))), Value.int IntKind.i64 st])).getD false)
              (Tr.done X.ret
                (cst 2 [(0, V.c (C.ptr 0 0)), (1, V.c (C.p (PV.i IntKind.i64 10)))] [AO.pin 1 b, AO.cells 86 [C.sl 2 7 0 D.M.length, C.mp 3, C.mp 4], AO.row 31 7 D.M.length fun e o => renC [4, 0, 1, 2, 3] (renC [0, 1, 2, 3] (rowC encPg D.M e o)), AO.mapb (okK Try.prog 81) D.gp, AO.mapl (okK Try.prog 79) 3 1 D.gs none]))
              (bT (D.gp (Value.agg #[Value.string ru, Value.int IntKind.i64 ve, Value.string (textLb (decL dec2 L.length (rowP enc2 L))), Value.int IntKind.i64 st])).isSome
                (Tr.done X.ret
                  (cst 2 [(0, V.c (C.ptr 0 0)), (1, V.c (C.p (PV.i IntKind.i64 20)))] [AO.pin 1 b, AO.cells 86 [C.sl 2 7 0 D.M.length, C.mp 3, C.mp 4], AO.row 31 7 D.M.length fun e o => renC [4, 0, 1, 2, 3] (renC [0, 1, 2, 3] (rowC encPg D.M e o)), AO.mapb (okK Try.prog 81) D.gp, AO.mapl (okK Try.prog 79) 3 1 D.gs none]))
                (Tr.rq
                  (IsL enc2 2 (decL dec2 L.length (rowP enc2 L)) L.length (rowP enc2 L) ∧
                    (D.M.length = D.M.length ∧
                        D.M.length = D.M.length ∧
                          (fun e o => renC [0, 1, 2, 3] (rowC encPg D.M e o)) = rowC encPg D.M ∧ okK Try.prog 81 = okK Try.prog 81 ∧ D.gp = D.gp ∧ okK Try.prog 79 = okK Try.prog 79 ∧ D.gs = D.gs) ∧
                      Fits D (Pg.mk kd ru ve (decL dec2 L.length (rowP enc2 L)) st se to))
                  (Tr.done X.ret
                    (cst 2 [(0, V.c (C.ptr 0 0)), (1, V.c (C.p (PV.i IntKind.i64 0)))] [AO.pin 1 b, AO.cells 86 [C.sl 2 7 0 (ladd D (Pg.mk kd ru ve (decL dec2 L.length (rowP enc2 L)) st se to)).M.length, C.mp 3, C.mp 4], AO.row 31 7 (ladd D (Pg.mk kd ru ve (decL dec2 L.length (rowP enc2 L)) st se to)).M.length fun e o => renC [4, 0, 8, 9, 10] (C.p (rowP encPg (ladd D (Pg.mk kd ru ve (decL dec2 L.length (rowP enc2 L)) st se to)).M e o)), AO.mapb (okK Try.prog 81) (ladd D (Pg.mk kd ru ve (decL dec2 L.length (rowP enc2 L)) st se to)).gp, AO.mapl (okK Try.prog 79) 3 1 (ladd D (Pg.mk kd ru ve (decL dec2 L.length (rowP enc2 L)) st se to)).gs none]))))))))) := by kernel_rfl
noncomputable def lfire (D : Ld) (p : Pg) : Int × Ld :=
  match p.kd != 0, pgOK p, D.gp (mKey p.ru p.ve (textLb p.L) p.st) with
  | true, _, _ => (1, D)
  | false, false, _ => (1, D)
  | false, true, some true => (10, D)
  | false, true, some false => (20, D)
  | false, true, none => (0, ladd D p)
section
variable {G : Nat → Option Obj}
theorem FnS.unpin {P : Program} {f : FuncId} {q j off b0 : Nat} {args : List V} {h : List AO} {K : V → List AO → Prop} (hq : nth .gone h q = .pin j b0) (hf : FnS P G f (.c (.ptr j off) :: args) h K) : FnS P G f (.c (.ptr q off) :: args) h K := by
  intro β R w vs ha hh
  refine hf β R w vs ?_ hh
  generalize vs.toList = us at ha
  cases us with
  | nil => exact ha.elim
  | cons u us =>
    obtain ⟨h1, h2⟩ := ha
    obtain ⟨b, o, e1, e2⟩ := h1
    have hob := hh.obj q b o e1
    rw [hq] at hob
    obtain ⟨e3, o2, e4⟩ := hob
    subst e3
    exact ⟨⟨_, o2, e4, e2⟩, h2⟩
theorem some_three {p q : Prop} {v u : V} {h h' : List AO} (e : some (p, v, h) = some (q, u, h')) : p = q ∧ v = u ∧ h = h' := by
  injection e with e
  injection e with e1 e
  injection e with e2 e3
  exact ⟨e1, e2, e3⟩
theorem okAddD (D : Ld) : ModHOK Try.prog G 48 (mAdd D) := by
  intro args h p v h' hm hp
  unfold mAdd at hm
  split at hm; rotate_left; · cases hm
  split at hm; rotate_left; · cases hm
  split at hm; rotate_left; · cases hm
  rename_i x _ n n' f ok gp ok2 gs b rest _ q kd ru ve L st se to hx
  obtain ⟨rfl, rfl, rfl⟩ := some_three hm
  obtain ⟨hq, ⟨rfl, rfl, rfl, rfl, rfl, rfl, rfl⟩, hF⟩ := hp
  refine FnS.unpin (j := 0) (b0 := b) rfl (FnS.args (args' := [.c (.ptr 0 0), pgV ⟨kd, ru, ve, L, st, se, to⟩]) ?_ (.cons (.refl _) (.cons (pgOf_le hx hq) .nil)))
  exact add_fn D ⟨kd, ru, ve, L, st, se, to⟩ hF (.pin 0 b :: rest)
theorem extFi_sound (D : Ld) : SoundExt Try.prog G (extFi D) := extH_sound (by simp; exact ⟨okPVal.lift, okOf.lift, okAddD D⟩)
set_option maxRecDepth 100000 in
theorem fire_main (D : Ld) (p : Pg) (hF : p.kd = 0 → pgOK p = true → Fits D p) (rest : List AO) (b : Nat) (Q : X → St → Prop) : ExZ Try.prog G (Zm [0] (resOf Try.prog Try.f25) fun s => WeakS G s ⟨[.c (.ptr 0 0)] ++ [iV (lfire D p).1], ldE (lfire D p).2 b⟩) (pcs Try.prog Try.f25) (stIn Try.f25 [0, 1, 2, 3] [0] [b] [.c (.ptr 0 0), pgV p] (ldH D rest)) Q := by
  obtain ⟨kd, ru, ve, L, st, se, to⟩ := p
  refine ExZ.evH (extFi_sound D) (tF D rest b kd ve st se ru to L) ?_
  simp only [holds_bT, holds_rq, holds_leaf, kz_ret, dec2_row]
  dsimp only at hF
  have e : lfire D ⟨kd, ru, ve, L, st, se, to⟩ = match kd != 0, pgOK ⟨kd, ru, ve, L, st, se, to⟩, D.gp (.agg #[.string ru, .int .i64 ve, .string (textLb L), .int .i64 st]) with
    | true, _, _ => (1, D)
    | false, false, _ => (1, D)
    | false, true, some true => (10, D)
    | false, true, some false => (20, D)
    | false, true, none => (0, ladd D ⟨kd, ru, ve, L, st, se, to⟩) := rfl
  rw [e]
  clear e
  refine ⟨fun h1 => ⟨?_⟩, fun h1 => ⟨isL_row _ _ _, fun h2 => ⟨?_⟩, fun h2 => ?_⟩⟩
  · rw [h1]; exact weak_of_eq (by kernel_rfl)
  · have h2 : pgOK ⟨kd, ru, ve, L, st, se, to⟩ = false := by simpa using h2
    rw [h1, h2]; exact weak_of_eq (by kernel_rfl)
  · have h2 : pgOK ⟨kd, ru, ve, L, st, se, to⟩ = true := by simpa using h2
    have hF := hF (by simpa using h1) h2
    rw [h1, h2]
    generalize hg : D.gp (.agg #[.string ru, .int .i64 ve, .string (textLb L), .int .i64 st]) = g
    refine ⟨⟨isL_row _ _ _, hF.2.2.1⟩, ⟨trivial, hF.1⟩, fun h3 => ⟨?_⟩, fun h3 => ⟨fun h4 => ⟨?_⟩, fun h4 => ⟨⟨isL_row _ _ _, ⟨trivial, trivial, rfl, trivial, trivial, trivial, trivial⟩, hF⟩, ⟨?_⟩⟩⟩⟩
    · match g, h3 with
      | some true, _ => exact weak_of_eq (by kernel_rfl)
    · match g, h3, h4 with
      | some false, _, _ => exact weak_of_eq (by kernel_rfl)
    · match g, h4 with
      | none, _ => exact weak_of_eq (by kernel_rfl)
set_option maxRecDepth 100000 in
theorem fire_fn (D : Ld) (p : Pg) (hF : p.kd = 0 → pgOK p = true → Fits D p) (rest : List AO) : FnS Try.prog G 25 [.c (.ptr 0 0), pgV p] (ldH D rest) fun x h' => x = iV (lfire D p).1 ∧ h' = outH [0, 1, 2, 3] [0] [1] (ldH D rest) (ldE (lfire D p).2 0) := by
  refine fun β R w vs ha hh => (fn_mem (ρ := [0, 1, 2, 3]) (ids := [0]) (ps := [0]) (pns := [0]) (js := [1]) (sl := [.c (.ptr 0 0)]) (vs := [iV (lfire D p).1]) (hE := fun bs => ldE (lfire D p).2 (nth 0 bs 0)) Try.func25 (by kernel_rfl) (by kernel_rfl) (by kernel_rfl) (by simp) (by simp) rfl rfl rfl (fun i pn h => ?_) (fun bs hb i pn j b h1 h2 h3 => ?_) (fun bs hb => ?_) β R w vs ha hh).mono ?_
  · cases i with
    | zero => obtain rfl : 0 = pn := by simpa using h
              exact ⟨0, by simp⟩
    | succ i => simp at h
  · cases i with
    | zero =>
      obtain rfl : 0 = pn := by simpa using h1
      obtain rfl : 1 = j := by simpa using h2
      cases bs with
      | nil => simp at hb
      | cons b0 bs =>
        obtain rfl : b0 = b := by simpa using h3
        exact ⟨rfl, rfl⟩
    | succ i => simp at h1
  · obtain ⟨b, rfl⟩ : ∃ b, bs = [b] := by
      cases bs with
      | nil => simp at hb
      | cons b0 bs => cases bs with
        | nil => exact ⟨b0, rfl⟩
        | cons _ _ => simp at hb
    clear hb ha hh
    exact fire_main D p hF rest b _
  · rintro e w' ⟨u, β', R', x, h', rfl, ⟨bs, hb, hx, hh'⟩, hr⟩
    exact ⟨u, β', R', x, h', rfl, ⟨hx, hh'.trans (out_pin _ _ _ _)⟩, hr⟩
end
end Go.AE
