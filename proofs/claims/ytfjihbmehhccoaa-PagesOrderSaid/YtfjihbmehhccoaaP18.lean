/- AE contracts: law31.lives, PagesRuns: models and trees. -/
import Derived.Test.YtfjihbmehhccoaaP17
namespace Go.AE
set_option linter.unusedVariables false
set_option linter.unusedSimpArgs false
open Go.Proofs Go.Proofs.Ytfjihbmehhccoaa Go.RowKit
/-- A list of numbers, by name. -/
def leI : V → List Int → Option Prop
  | .c (.p (.l 1 n f)), W => some (IsL encI 1 W n f)
  | .c (.p (.z (.slice none 0 0))), W => some (W = [])
  | _, _ => none
theorem leI_le {x : V} {W : List Int} {p : Prop} (h : leI x W = some p) (hp : p) : VLe x (listV encI 1 W) := by
  unfold leI at h
  split at h
  · injection h with h
    subst h
    exact hp.le
  · injection h with h
    subst h
    subst hp
    exact VLe.p (PLe.nil 1 _)
  · cases h
/-- Amend and Valid, their results by name. -/
noncomputable def mAmendX (D : Ld) (S T : List Int) (out : List Pg) (D' : Ld) : ModH
  | [.c (.ptr 0 0), .c (.p (.s ru)), .c (.p (.i .i64 ve)), x, y, .c (.p (.i .i64 se))], h => match isLd D h, lbOf x, leI y T with
    | some (q, rest), some (r, L), some s => some (((r ∧ q) ∧ s) ∧ StG D (gKey ru ve (textLb L)) S ∧ ((textLb L).size ≤ 1000000 ∧ ru.size ≤ 1000000 ∧ inR .i64 ve ∧ L.length ≤ 1000000 ∧ (∀ t ∈ S, inR .i64 t) ∧ S.length + T.length ≤ 100000 ∧ D.M.length ≤ 100000) ∧ lamend D ru ve L S T se = (listV encPg 7 out, D'), listV encPg 7 out, outH [0, 1, 2, 3] [0] [1] (ldH D rest) (ldE D' 0))
    | _, _, _ => none
  | _, _ => none
noncomputable def mValidX (D : Ld) (S out : List Int) : ModH
  | [.c (.ptr 0 0), .c (.p (.s ru)), .c (.p (.i .i64 ve)), x], h => match isLd D h, lbOf x with
    | some (q, rest), some (r, L) => some ((r ∧ q) ∧ StG D (gKey ru ve (textLb L)) S ∧ ((textLb L).size ≤ 1000000 ∧ ru.size ≤ 1000000 ∧ inR .i64 ve ∧ (∀ t ∈ S, inR .i64 t) ∧ S.length ≤ 1000000) ∧ lvalid D ru ve L S = listV encI 1 out, listV encI 1 out, outH [0, 1, 2, 3] [0] [1] (ldH D rest) (ldE D 0))
    | _, _ => none
  | _, _ => none
def mSameX (U W : List Int) : Mod
  | [x, y] => match leI x U, leI y W with
    | some p, some q => some ((p ∧ q) ∧ U.length ≤ 1000000, bV (decide (U = W)))
    | _, _ => none
  | _ => none
section
variable {G : Nat → Option Obj}
theorem okAmendX (D : Ld) (S T : List Int) (out : List Pg) (D' : Ld) : ModHOK Try.prog G 17 (mAmendX D S T out D') := by
  intro args h p v h' hm hp
  unfold mAmendX at hm
  split at hm; rotate_left; · cases hm
  split at hm; rotate_left; · cases hm
  rename_i ru ve x y se _ _ _ q rest r L s hl hx hy
  obtain ⟨rfl, rfl, rfl⟩ := some_three hm
  obtain ⟨⟨⟨hr, hq⟩, hs⟩, hS, hT, he⟩ := hp
  have := amend_fn (G := G) D ru ve L S T se hS (fun _ => hT) (by have := hT.2.2.2.2.2.1; omega) rest
  rw [he] at this
  exact FnS.ledger hl hq (FnS.args (args' := [.c (.ptr 0 0), .c (.p (.s ru)), iV ve, listV enc2 2 L, listV encI 1 T, iV se]) this (.cons (.refl _) (.cons (.refl _) (.cons (.refl _) (.cons (lbOf_le hx hr) (.cons (leI_le hy hs) (.cons (.refl _) .nil)))))))
theorem okValidX (D : Ld) (S out : List Int) : ModHOK Try.prog G 16 (mValidX D S out) := by
  intro args h p v h' hm hp
  unfold mValidX at hm
  split at hm; rotate_left; · cases hm
  split at hm; rotate_left; · cases hm
  rename_i ru ve x _ _ q rest r L hl hx
  obtain ⟨rfl, rfl, rfl⟩ := some_three hm
  obtain ⟨⟨hr, hq⟩, hS, ⟨t1, t2, t3, t4, t5⟩, he⟩ := hp
  have := valid_fn (G := G) D ru ve L S hS (fun _ => ⟨t1, okGr_of _ _ _ t2 t3 t1, fun t ht => okMu_of _ _ _ _ t2 t3 t1 (t4 t ht), t5⟩) rest
  rw [he] at this
  exact FnS.ledger hl hq (FnS.args (args' := [.c (.ptr 0 0), .c (.p (.s ru)), iV ve, listV enc2 2 L]) this (.cons (.refl _) (.cons (.refl _) (.cons (.refl _) (.cons (lbOf_le hx hr) .nil)))))
theorem okSameX (U W : List Int) : ModOK Try.prog G 27 (mSameX U W) := by
  intro args p v hm hp h
  unfold mSameX at hm
  split at hm; rotate_left; · cases hm
  split at hm; rotate_left; · cases hm
  rename_i x y _ _ p q hx hy
  obtain ⟨rfl, rfl⟩ := some_pair hm
  obtain ⟨⟨hA, hB⟩, hlen⟩ := hp
  refine FnS.args (args' := [listV encI 1 U, listV encI 1 W]) ?_ (.cons (leI_le hx hA) (.cons (leI_le hy hB) .nil))
  have := okSameInts (G := G) [listV encI 1 U, listV encI 1 W] _ _ rfl ⟨⟨by rw [decI_row]; exact isL_row _ _ _, by rw [decI_row]; exact isL_row _ _ _⟩, by rw [decI_row]; exact hlen⟩ h
  rw [decI_row, decI_row] at this
  exact this
end
noncomputable def extFr (D : Ld) : Ext := extH [(20, mNew), (25, mFireD D)]
noncomputable def extAe (D : Ld) (S T : List Int) (out : List Pg) (D' : Ld) : Ext := extH [(17, frzAH (mAmendX D S T out D'))]
noncomputable def extVd (D : Ld) (S U : List Int) : Ext := extH [(16, mValidX D S U), (27, frzA (mSameX U [3, 8]))]
theorem tL1 (u : Unit) : exTs (extFr ld0) (takeL 5 (pcs Try.prog Try.f19)) (st0 Try.f19 []) (endG (msk 79 [1, 2]) (resOf Try.prog Try.f19)) = Tr.rq True
    (Tr.done X.normal
      (cst 79 [(1, V.c (C.ptr 0 0)), (2, V.c (C.ptr 1 0))] [AO.cells 86 [C.sl 2 7 0 0, C.mp 3, C.mp 4], AO.cells 31 [C.p (PV.i IntKind.i64 0), C.p (PV.s (ByteArray.mk #[104, 111, 116])), C.p (PV.i IntKind.i64 1), C.p (PV.z (Value.slice none 0 0)), C.p (PV.i IntKind.i64 5), C.p (PV.i IntKind.i64 6), C.p (PV.s (ByteArray.mk #[]))], AO.row 31 7 0 fun e o => renC [0, 4, 1, 2, 3] (C.p (rowP encPg ld0.M e o)), AO.mapb (okK Try.prog 81) ld0.gp, AO.mapl (okK Try.prog 79) 3 1 ld0.gs none])) := by kernel_rfl
theorem tL2 (D : Ld) : exTs (extFr D) (takeL 1 (dropL 5 (pcs Try.prog Try.f19))) (cst 79 [(1, .c (.ptr 0 0)), (2, .c (.ptr 4 0))] (ldH D [.cells 31 [.p (.i .i64 0), .p (.s ⟨#[104, 111, 116]⟩), .p (.i .i64 1), .p (.z (.slice none 0 0)), .p (.i .i64 5), .p (.i .i64 6), .p (.s ⟨#[]⟩)]])) (endG (msk 79 [1, 2, 3]) (resOf Try.prog Try.f19)) = Tr.rq
    ((True ∧
        D.M.length = D.M.length ∧
          D.M.length = D.M.length ∧
            (∀ (e o : Nat), e < D.M.length → o < 7 → rowC encPg D.M e o = rowC encPg D.M e o) ∧ okK Try.prog 81 = okK Try.prog 81 ∧ D.gp = D.gp ∧ okK Try.prog 79 = okK Try.prog 79 ∧ D.gs = D.gs) ∧
      ((Pg.mk 0 (ByteArray.mk #[104, 111, 116]) 1 [] 5 6 (ByteArray.mk #[])).kd = 0 →
        pgOK (Pg.mk 0 (ByteArray.mk #[104, 111, 116]) 1 [] 5 6 (ByteArray.mk #[])) = true → Fits D (Pg.mk 0 (ByteArray.mk #[104, 111, 116]) 1 [] 5 6 (ByteArray.mk #[]))))
    (Tr.done X.normal
      (cst 79 [(1, V.c (C.ptr 0 0)), (2, V.c (C.ptr 1 0)), (3, V.c (C.p (PV.i IntKind.i64 (lfire D (Pg.mk 0 (ByteArray.mk #[104, 111, 116]) 1 [] 5 6 (ByteArray.mk #[]))).fst)))] [AO.cells 86 [C.sl 2 7 0 (lfire D (Pg.mk 0 (ByteArray.mk #[104, 111, 116]) 1 [] 5 6 (ByteArray.mk #[]))).snd.M.length, C.mp 3, C.mp 4], AO.cells 31 [C.p (PV.i IntKind.i64 0), C.p (PV.s (ByteArray.mk #[104, 111, 116])), C.p (PV.i IntKind.i64 1), C.p (PV.z (Value.slice none 0 0)), C.p (PV.i IntKind.i64 5), C.p (PV.i IntKind.i64 6), C.p (PV.s (ByteArray.mk #[]))], AO.row 31 7 (lfire D (Pg.mk 0 (ByteArray.mk #[104, 111, 116]) 1 [] 5 6 (ByteArray.mk #[]))).snd.M.length fun e o => renC [0, 4, 7, 8, 9] (C.p (rowP encPg (lfire D (Pg.mk 0 (ByteArray.mk #[104, 111, 116]) 1 [] 5 6 (ByteArray.mk #[]))).snd.M e o)), AO.mapb (okK Try.prog 81) (lfire D (Pg.mk 0 (ByteArray.mk #[104, 111, 116]) 1 [] 5 6 (ByteArray.mk #[]))).snd.gp, AO.mapl (okK Try.prog 79) 3 1 (lfire D (Pg.mk 0 (ByteArray.mk #[104, 111, 116]) 1 [] 5 6 (ByteArray.mk #[]))).snd.gs none])) := by kernel_rfl
theorem tL3 (D : Ld) (a : Int) : exTs (extFr D) (takeL 1 (dropL 1 (dropL 5 (pcs Try.prog Try.f19)))) (cst 79 [(1, .c (.ptr 0 0)), (2, .c (.ptr 4 0)), (3, iV a)] (ldH D [.cells 31 [.p (.i .i64 0), .p (.s ⟨#[104, 111, 116]⟩), .p (.i .i64 1), .p (.z (.slice none 0 0)), .p (.i .i64 5), .p (.i .i64 6), .p (.s ⟨#[]⟩)]])) (endG (msk 79 [1, 2, 3, 4]) (resOf Try.prog Try.f19)) = Tr.rq
    ((True ∧
        D.M.length = D.M.length ∧
          D.M.length = D.M.length ∧
            (∀ (e o : Nat), e < D.M.length → o < 7 → rowC encPg D.M e o = rowC encPg D.M e o) ∧ okK Try.prog 81 = okK Try.prog 81 ∧ D.gp = D.gp ∧ okK Try.prog 79 = okK Try.prog 79 ∧ D.gs = D.gs) ∧
      ((Pg.mk 0 (ByteArray.mk #[104, 111, 116]) 1 [] 5 6 (ByteArray.mk #[])).kd = 0 →
        pgOK (Pg.mk 0 (ByteArray.mk #[104, 111, 116]) 1 [] 5 6 (ByteArray.mk #[])) = true → Fits D (Pg.mk 0 (ByteArray.mk #[104, 111, 116]) 1 [] 5 6 (ByteArray.mk #[]))))
    (Tr.done X.normal
      (cst 79 [(1, V.c (C.ptr 0 0)), (2, V.c (C.ptr 1 0)), (3, V.c (C.p (PV.i IntKind.i64 a))), (4, V.c (C.p (PV.i IntKind.i64 (lfire D (Pg.mk 0 (ByteArray.mk #[104, 111, 116]) 1 [] 5 6 (ByteArray.mk #[]))).fst)))] [AO.cells 86 [C.sl 2 7 0 (lfire D (Pg.mk 0 (ByteArray.mk #[104, 111, 116]) 1 [] 5 6 (ByteArray.mk #[]))).snd.M.length, C.mp 3, C.mp 4], AO.cells 31 [C.p (PV.i IntKind.i64 0), C.p (PV.s (ByteArray.mk #[104, 111, 116])), C.p (PV.i IntKind.i64 1), C.p (PV.z (Value.slice none 0 0)), C.p (PV.i IntKind.i64 5), C.p (PV.i IntKind.i64 6), C.p (PV.s (ByteArray.mk #[]))], AO.row 31 7 (lfire D (Pg.mk 0 (ByteArray.mk #[104, 111, 116]) 1 [] 5 6 (ByteArray.mk #[]))).snd.M.length fun e o => renC [0, 4, 7, 8, 9] (C.p (rowP encPg (lfire D (Pg.mk 0 (ByteArray.mk #[104, 111, 116]) 1 [] 5 6 (ByteArray.mk #[]))).snd.M e o)), AO.mapb (okK Try.prog 81) (lfire D (Pg.mk 0 (ByteArray.mk #[104, 111, 116]) 1 [] 5 6 (ByteArray.mk #[]))).snd.gp, AO.mapl (okK Try.prog 79) 3 1 (lfire D (Pg.mk 0 (ByteArray.mk #[104, 111, 116]) 1 [] 5 6 (ByteArray.mk #[]))).snd.gs none])) := by kernel_rfl
theorem tL4 (D D' : Ld) (S T : List Int) (out : List Pg) (a b : Int) : exTs (extAe D S T out D') (takeL 1 (dropL 1 (dropL 1 (dropL 5 (pcs Try.prog Try.f19))))) (cst 79 [(1, .c (.ptr 0 0)), (2, .c (.ptr 4 0)), (3, iV a), (4, iV b)] (ldH D [.cells 31 [.p (.i .i64 0), .p (.s ⟨#[104, 111, 116]⟩), .p (.i .i64 1), .p (.z (.slice none 0 0)), .p (.i .i64 5), .p (.i .i64 6), .p (.s ⟨#[]⟩)]])) (endG (msk 79 [1, 2, 3, 4, 5]) (resOf Try.prog Try.f19)) = Tr.rq
    ((conVs 5 1 3
          [V.c (C.ptr 0 0), V.c (C.p (PV.s (ByteArray.mk #[104, 111, 116]))), V.c (C.p (PV.i IntKind.i64 1)), V.c (C.p (PV.z (Value.slice none 0 0))), V.c (C.sl 5 1 0 3),
            V.c (C.p (PV.i IntKind.i64 9))] ∧
        ∀ (e o : Nat), e < 3 → o < 1 → isF (nth C.top [C.p (PV.i IntKind.i64 8), C.p (PV.i IntKind.i64 8), C.p (PV.i IntKind.i64 3)] (e * 1 + o)) = true) ∧
      ((True ∧
            D.M.length = D.M.length ∧
              D.M.length = D.M.length ∧
                (∀ (e o : Nat), e < D.M.length → o < 7 → rowC encPg D.M e o = rowC encPg D.M e o) ∧ okK Try.prog 81 = okK Try.prog 81 ∧ D.gp = D.gp ∧ okK Try.prog 79 = okK Try.prog 79 ∧ D.gs = D.gs) ∧
          IsL encI 1 T 3 fun e o => unP (bslF [C.p (PV.i IntKind.i64 8), C.p (PV.i IntKind.i64 8), C.p (PV.i IntKind.i64 3)] 1 3 (e + 0) o)) ∧
        StG D (gKey (ByteArray.mk #[104, 111, 116]) 1 (textLb [])) S ∧
          (2 ≤ 1000000 ∧ 3 ≤ 1000000 ∧ inR IntKind.i64 1 ∧ 0 ≤ 1000000 ∧ (∀ (t : Int), t ∈ S → inR IntKind.i64 t) ∧ S.length + T.length ≤ 100000 ∧ D.M.length ≤ 100000) ∧
            lamend D (ByteArray.mk #[104, 111, 116]) 1 [] S T 9 = (listV encPg 7 out, D'))
    (Tr.done X.normal
      (cst 79 [(1, V.c (C.ptr 0 0)), (2, V.c (C.ptr 1 0)), (3, V.c (C.p (PV.i IntKind.i64 a))), (4, V.c (C.p (PV.i IntKind.i64 b))), (5, V.c (C.p (PV.l 7 out.length (rowP encPg out))))] [AO.cells 86 [C.sl 2 7 0 D'.M.length, C.mp 3, C.mp 4], AO.cells 31 [C.p (PV.i IntKind.i64 0), C.p (PV.s (ByteArray.mk #[104, 111, 116])), C.p (PV.i IntKind.i64 1), C.p (PV.z (Value.slice none 0 0)), C.p (PV.i IntKind.i64 5), C.p (PV.i IntKind.i64 6), C.p (PV.s (ByteArray.mk #[]))], AO.row 31 7 D'.M.length fun e o => renC [0, 4, 8, 9, 10] (C.p (rowP encPg D'.M e o)), AO.mapb (okK Try.prog 81) D'.gp, AO.mapl (okK Try.prog 79) 3 1 D'.gs none])) := by kernel_rfl
theorem tL5 (D : Ld) (out : List Pg) (a b : Int) : exTs (extFr D) (takeL 1 (dropL 1 (dropL 1 (dropL 1 (dropL 5 (pcs Try.prog Try.f19)))))) (cst 79 [(1, .c (.ptr 0 0)), (2, .c (.ptr 4 0)), (3, iV a), (4, iV b), (5, listV encPg 7 out)] (ldH D [.cells 31 [.p (.i .i64 0), .p (.s ⟨#[104, 111, 116]⟩), .p (.i .i64 1), .p (.z (.slice none 0 0)), .p (.i .i64 5), .p (.i .i64 6), .p (.s ⟨#[]⟩)]])) (endG (msk 79 [1, 3, 4, 5, 6]) (resOf Try.prog Try.f19)) = Tr.rq
    ((True ∧
        D.M.length = D.M.length ∧
          D.M.length = D.M.length ∧
            (∀ (e o : Nat), e < D.M.length → o < 7 → rowC encPg D.M e o = rowC encPg D.M e o) ∧ okK Try.prog 81 = okK Try.prog 81 ∧ D.gp = D.gp ∧ okK Try.prog 79 = okK Try.prog 79 ∧ D.gs = D.gs) ∧
      ((Pg.mk 0 (ByteArray.mk #[104, 111, 116]) 1 [] 5 6 (ByteArray.mk #[])).kd = 0 →
        pgOK (Pg.mk 0 (ByteArray.mk #[104, 111, 116]) 1 [] 5 6 (ByteArray.mk #[])) = true → Fits D (Pg.mk 0 (ByteArray.mk #[104, 111, 116]) 1 [] 5 6 (ByteArray.mk #[]))))
    (Tr.done X.normal
      (cst 79 [(1, V.c (C.ptr 0 0)), (3, V.c (C.p (PV.i IntKind.i64 a))), (4, V.c (C.p (PV.i IntKind.i64 b))), (5, V.c (C.p (PV.l 7 out.length (rowP encPg out)))), (6, V.c (C.p (PV.i IntKind.i64 (lfire D (Pg.mk 0 (ByteArray.mk #[104, 111, 116]) 1 [] 5 6 (ByteArray.mk #[]))).fst)))] [AO.cells 86 [C.sl 1 7 0 (lfire D (Pg.mk 0 (ByteArray.mk #[104, 111, 116]) 1 [] 5 6 (ByteArray.mk #[]))).snd.M.length, C.mp 2, C.mp 3], AO.row 31 7 (lfire D (Pg.mk 0 (ByteArray.mk #[104, 111, 116]) 1 [] 5 6 (ByteArray.mk #[]))).snd.M.length fun e o => renC [0, 7, 8, 9] (C.p (rowP encPg (lfire D (Pg.mk 0 (ByteArray.mk #[104, 111, 116]) 1 [] 5 6 (ByteArray.mk #[]))).snd.M e o)), AO.mapb (okK Try.prog 81) (lfire D (Pg.mk 0 (ByteArray.mk #[104, 111, 116]) 1 [] 5 6 (ByteArray.mk #[]))).snd.gp, AO.mapl (okK Try.prog 79) 3 1 (lfire D (Pg.mk 0 (ByteArray.mk #[104, 111, 116]) 1 [] 5 6 (ByteArray.mk #[]))).snd.gs none])) := by kernel_rfl
theorem tL6 (D : Ld) (S U : List Int) (out : List Pg) (a b c : Int) : exTs (extVd D S U) (dropL 9 (pcs Try.prog Try.f19)) (cst 79 [(1, .c (.ptr 0 0)), (3, iV a), (4, iV b), (5, listV encPg 7 out), (6, iV c)] (ldH D [])) (endG [] (resOf Try.prog Try.f19)) = bT (a == 0)
    (bT (b == 10)
      (bT (c == 20)
        (bT ((↑out.length : Int) == 3)
          (Tr.rq (Int.ofNat 0 ≤ Int.ofNat 0 ∧ 0 < (↑out.length : Int))
            (bT ((out.getD 0 default).kd == 2)
              (Tr.rq (Int.ofNat 0 ≤ Int.ofNat 0 ∧ 0 < (↑out.length : Int))
                (bT ((out.getD 0 default).st == 3)
                  (Tr.rq (Int.ofNat 0 ≤ Int.ofNat 1 ∧ 1 < (↑out.length : Int))
                    (bT ((out.getD 1 default).kd == 1)
                      (Tr.rq (Int.ofNat 0 ≤ Int.ofNat 1 ∧ 1 < (↑out.length : Int))
                        (bT ((out.getD 1 default).st == 5)
                          (Tr.rq (Int.ofNat 0 ≤ Int.ofNat 2 ∧ 2 < (↑out.length : Int))
                            (bT ((out.getD 2 default).st == 8)
                              (Tr.rq
                                ((True ∧
                                    D.M.length = D.M.length ∧
                                      D.M.length = D.M.length ∧
                                        (∀ (e o : Nat), e < D.M.length → o < 7 → rowC encPg D.M e o = rowC encPg D.M e o) ∧
                                          okK Try.prog 81 = okK Try.prog 81 ∧ D.gp = D.gp ∧ okK Try.prog 79 = okK Try.prog 79 ∧ D.gs = D.gs) ∧
                                  StG D (gKey (ByteArray.mk #[104, 111, 116]) 1 (textLb [])) S ∧
                                    (2 ≤ 1000000 ∧ 3 ≤ 1000000 ∧ inR IntKind.i64 1 ∧ (∀ (t : Int), t ∈ S → inR IntKind.i64 t) ∧ S.length ≤ 1000000) ∧
                                      lvalid D (ByteArray.mk #[104, 111, 116]) 1 [] S = listV encI 1 U)
                                (Tr.rq
                                  ((conVs 9 1 2 [V.c (C.p (PV.l 1 U.length (rowP encI U))), V.c (C.sl 9 1 0 2)] ∧
                                      ∀ (e o : Nat), e < 2 → o < 1 → isF (nth C.top [C.p (PV.i IntKind.i64 3), C.p (PV.i IntKind.i64 8)] (e * 1 + o)) = true) ∧
                                    (IsL encI 1 U U.length (rowP encI U) ∧ IsL encI 1 [3, 8] 2 fun e o => unP (bslF [C.p (PV.i IntKind.i64 3), C.p (PV.i IntKind.i64 8)] 1 2 (e + 0) o)) ∧
                                      U.length ≤ 1000000)
                                  (Tr.done X.ret (St.mk [V.c (C.p (PV.b (decide (U = [3, 8]))))] []))))
                              (Tr.done X.ret (St.mk [V.c (C.p (PV.b false))] []))))
                          (Tr.done X.ret (St.mk [V.c (C.p (PV.b false))] []))))
                      (Tr.done X.ret (St.mk [V.c (C.p (PV.b false))] []))))
                  (Tr.done X.ret (St.mk [V.c (C.p (PV.b false))] []))))
              (Tr.done X.ret (St.mk [V.c (C.p (PV.b false))] []))))
          (Tr.done X.ret (St.mk [V.c (C.p (PV.b false))] [])))
        (Tr.done X.ret (St.mk [V.c (C.p (PV.b false))] [])))
      (Tr.done X.ret (St.mk [V.c (C.p (PV.b false))] [])))
    (Tr.done X.ret (St.mk [V.c (C.p (PV.b false))] [])) := by kernel_rfl
end Go.AE
