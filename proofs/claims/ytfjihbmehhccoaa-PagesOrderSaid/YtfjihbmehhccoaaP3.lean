/- AE contracts: (*Ledger).add. -/
import Derived.Test.YtfjihbmehhccoaaP2
import Derived.Test.YtfjihbmehhccoaaAeE
namespace Go.AE
set_option linter.unusedVariables false
set_option linter.unusedSimpArgs false
open Go.Proofs Go.Proofs.Ytfjihbmehhccoaa Go.RowKit
def encPg (p : Pg) (o : Nat) : PV := match o with
  | 0 => .i .i64 p.kd
  | 1 => .s p.ru
  | 2 => .i .i64 p.ve
  | 3 => listP enc2 2 p.L
  | 4 => .i .i64 p.st
  | 5 => .i .i64 p.se
  | _ => .s p.to
/-- What a ledger holds. -/
structure Ld where
  M : List Pg
  gp : Value → Option Bool
  gs : Value → Nat × (Nat → Nat → PV)
def mKey (ru : ByteArray) (ve : Int) (tx : ByteArray) (st : Int) : Value := .agg #[.string ru, .int .i64 ve, .string tx, .int .i64 st]
def gKey (ru : ByteArray) (ve : Int) (tx : ByteArray) : Value := .agg #[.string ru, .int .i64 ve, .string tx]
noncomputable def okMu : Value → Bool := okK Try.prog 81
noncomputable def okGr : Value → Bool := okK Try.prog 79
def extOf1 : Ext := extOf [(43, mOf), (49, mSep)]
def condA : ACode → ACode
  | .cond _ a _ => a
  | _ => .skip
def rawOps : ACode → Array Oper
  | .raw (.region _ ops _) => ops
  | _ => #[]
def rawCode : ACode → ACode := fun c => nth .skip (flat (condA c)) 0
noncomputable def opsM : Array Oper := rawOps (rawCode (nth .skip (pcs Try.prog Try.f48) 4))
noncomputable def alM : List AI := match cOpers Try.prog opsM (opsM.toList.take 9) with
  | some al => al
  | none => []
def xM : MA := ⟨9, 84, 22, (79, 3, 1), 8, [.i .i64 0], 23, 25, 29, 30, 26, 31, 32⟩
theorem tA1 (rest : List AO) (n b : Nat) (M : List Pg) (gp : Value → Option Bool) (gs : Value → Nat × (Nat → Nat → PV)) (kd ve st se : Int) (ru to : ByteArray) (L : List (ByteArray × ByteArray)) : exTs extOf1 (takeL 4 (pcs Try.prog Try.f48)) (stIn Try.f48 [0, 1, 2, 3] [0] [b] [.c (.ptr 0 0), pgW kd ru ve L st se to] (.cells 86 [.sl 1 7 0 n, .mp 2, .mp 3] :: .row 31 7 n (rowC encPg M) :: .mapb (okK Try.prog 81) gp :: .mapl (okK Try.prog 79) 3 1 gs none :: rest)) (endM [0] (msk 52 [0, 3, 4, 6, 19]) (resOf Try.prog Try.f48)) = Tr.rq (IsL enc2 2 (decL dec2 L.length (rowP enc2 L)) L.length (rowP enc2 L) ∧ (textLb (decL dec2 L.length (rowP enc2 L))).size ≤ 1000000)
    (Tr.rq
      (okK Try.prog 81 = okK Try.prog 81 ∧
        okK Try.prog 81 (Value.agg #[Value.string ru, Value.int IntKind.i64 ve, Value.string (textLb (decL dec2 L.length (rowP enc2 L))), Value.int IntKind.i64 st]) = true)
      (Tr.done X.normal
        (cst 52 [(0, V.c (C.ptr 0 0)), (3, V.c (C.ptr 1 0)), (4, V.c (C.ptr 2 0)), (6, V.c (C.p (PV.b (gp (Value.agg #[Value.string ru, Value.int IntKind.i64 ve, Value.string (textLb (decL dec2 L.length (rowP enc2 L))), Value.int IntKind.i64 st])).isSome))), (19, V.c (C.p (PV.b !(gp (Value.agg #[Value.string ru, Value.int IntKind.i64 ve, Value.string (textLb (decL dec2 L.length (rowP enc2 L))), Value.int IntKind.i64 st])).isSome)))] [AO.pin 3 b, AO.cells 31 [C.p (PV.i IntKind.i64 kd), C.p (PV.s ru), C.p (PV.i IntKind.i64 ve), C.p (PV.l 2 L.length (rowP enc2 L)), C.p (PV.i IntKind.i64 st), C.p (PV.i IntKind.i64 se), C.p (PV.s to)], AO.cells 81 [C.p (PV.s ru), C.p (PV.i IntKind.i64 ve), C.p (PV.s (textLb (decL dec2 L.length (rowP enc2 L)))), C.p (PV.i IntKind.i64 st)], AO.cells 86 [C.sl 4 7 0 n, C.mp 5, C.mp 6], AO.row 31 7 n fun e o => renC [4, 5, 6, 0, 1, 2, 3] (renC [0, 1, 2, 3] (rowC encPg M e o)), AO.mapb (okK Try.prog 81) gp, AO.mapl (okK Try.prog 79) 3 1 gs none]))) := by kernel_rfl
theorem tA3 (n b : Nat) (M : List Pg) (gp : Value → Option Bool) (gs : Value → Nat × (Nat → Nat → PV)) (kd ve st se : Int) (ru to tx : ByteArray) (L : List (ByteArray × ByteArray)) (kn kk : Bool) : exTs extOf1 (dropL 5 (pcs Try.prog Try.f48)) (cst 52 [(0, .c (.ptr 0 0)), (3, .c (.ptr 1 0)), (4, .c (.ptr 2 0)), (6, .c (.p (.b kn))), (19, .c (.p (.b kk)))] [.pin 3 b, .cells 31 [.p (.i .i64 kd), .p (.s ru), .p (.i .i64 ve), .p (listP enc2 2 L), .p (.i .i64 st), .p (.i .i64 se), .p (.s to)], .cells 81 [.p (.s ru), .p (.i .i64 ve), .p (.s tx), .p (.i .i64 st)], .cells 86 [.sl 4 7 0 n, .mp 5, .mp 6], .row 31 7 n (rowC encPg M), .mapb (okK Try.prog 81) gp, .mapl (okK Try.prog 79) 3 1 gs none]) (endM [0] (msk 52 [0]) (resOf Try.prog Try.f48)) = Tr.rq (okK Try.prog 81 = okK Try.prog 81 ∧ okK Try.prog 81 (Value.agg #[Value.string ru, Value.int IntKind.i64 ve, Value.string tx, Value.int IntKind.i64 st]) = true)
    (Tr.rq (IsL enc2 2 (decL dec2 L.length (rowP enc2 L)) L.length (rowP enc2 L) ∧ (decL dec2 L.length (rowP enc2 L)).length ≤ 1000000)
      (Tr.rq (n = n)
        (Tr.rq (1 ≤ 1)
          (Tr.rq
            ((n + 1) * 88 ≤ 140737488355328 ∧
              n + 1 ≤ 140737488355328 ∧
                ∀ (e o : Nat),
                  e < 1 →
                    o < 7 →
                      oneC
                          (bslF
                            [C.p (PV.i IntKind.i64 kd), C.p (PV.s ru), C.p (PV.i IntKind.i64 ve), C.p (PV.l 2 (decL dec2 L.length (rowP enc2 L)).length (rowP enc2 (decL dec2 L.length (rowP enc2 L)))),
                              C.p (PV.i IntKind.i64 st), C.p (PV.i IntKind.i64 se), C.p (PV.s to)]
                            7 1 (e + 0) o) =
                        true)
            (Tr.done X.normal
              (cst 52 [(0, V.c (C.ptr 0 0))] [AO.pin 1 b, AO.cells 86 [C.sl 2 7 0 (n + 1), C.mp 3, C.mp 4], AO.row 31 7 (n + 1) fun e o => renC [0, 3, 8, 5, 6] (appF n (rowC encPg M) (fun e o => nth C.top [C.p (PV.i IntKind.i64 kd), C.p (PV.s ru), C.p (PV.i IntKind.i64 ve), C.p (PV.l 2 (decL dec2 L.length (rowP enc2 L)).length (rowP enc2 (decL dec2 L.length (rowP enc2 L)))), C.p (PV.i IntKind.i64 st), C.p (PV.i IntKind.i64 se), C.p (PV.s to)] ((e + 0) * 7 + o)) e o), AO.mapb (okK Try.prog 81) (setM gp (Value.agg #[Value.string ru, Value.int IntKind.i64 ve, Value.string tx, Value.int IntKind.i64 st]) (kd != 1)), AO.mapl (okK Try.prog 79) 3 1 gs none])))))) := by kernel_rfl
noncomputable def gadd (gs : Value → Nat × (Nat → Nat → PV)) (k : Value) (st : Int) : Value → Nat × (Nat → Nat → PV) :=
  setG gs k ((gs k).1 + 1) fun e o => if e < (gs k).1 then (gs k).2 e o else unP (nth C.top [C.p (.i .i64 st)] ((e - (gs k).1 + 0) * 1 + o))
def stOf : Tr → St
  | .done _ st => st
  | _ => ⟨[], []⟩
theorem tA2 (n b : Nat) (M : List Pg) (gp : Value → Option Bool) (gs : Value → Nat × (Nat → Nat → PV)) (kd ve st se : Int) (ru to tx : ByteArray) (L : List (ByteArray × ByteArray)) (kn kk : Bool) : regT (pureX ext0) alM (cst 52 [(0, .c (.ptr 0 0)), (3, .c (.ptr 1 0)), (4, .c (.ptr 2 0)), (6, .c (.p (.b kn))), (19, .c (.p (.b kk)))] [.pin 3 b, .cells 31 [.p (.i .i64 kd), .p (.s ru), .p (.i .i64 ve), .p (listP enc2 2 L), .p (.i .i64 st), .p (.i .i64 se), .p (.s to)], .cells 81 [.p (.s ru), .p (.i .i64 ve), .p (.s tx), .p (.i .i64 st)], .cells 86 [.sl 4 7 0 n, .mp 5, .mp 6], .row 31 7 n (rowC encPg M), .mapb (okK Try.prog 81) gp, .mapl (okK Try.prog 79) 3 1 gs none]) (fun s => maT Try.prog xM s fun s' => .done .normal s') = Tr.rq (okK Try.prog 79 = okK Try.prog 79 ∧ okK Try.prog 79 (gKey ru ve tx) = true) (Tr.rq (1 ≤ 1) (Tr.rq (((gs (gKey ru ve tx)).1 + 1) * 8 ≤ 140737488355328 ∧ (gs (gKey ru ve tx)).1 + 1 ≤ 140737488355328 ∧ ∀ (e o : Nat), e < 1 → o < 1 → isP (nth C.top [C.p (.i .i64 st)] ((e + 0) * 1 + o)) = true ∧ oneC (nth C.top [C.p (.i .i64 st)] ((e + 0) * 1 + o)) = true)
    (.done .normal (stOf (regT (pureX ext0) alM (cst 52 [(0, .c (.ptr 0 0)), (3, .c (.ptr 1 0)), (4, .c (.ptr 2 0)), (6, .c (.p (.b kn))), (19, .c (.p (.b kk)))] [.pin 3 b, .cells 31 [.p (.i .i64 kd), .p (.s ru), .p (.i .i64 ve), .p (listP enc2 2 L), .p (.i .i64 st), .p (.i .i64 se), .p (.s to)], .cells 81 [.p (.s ru), .p (.i .i64 ve), .p (.s tx), .p (.i .i64 st)], .cells 86 [.sl 4 7 0 n, .mp 5, .mp 6], .row 31 7 n (rowC encPg M), .mapb (okK Try.prog 81) gp, .mapl (okK Try.prog 79) 3 1 gs none]) (fun s => .done .normal ⟨topsAt xM.ds s.t, snoc .gone (snoc .gone (upd (.mapl (okK Try.prog 79) 3 1 (gadd gs (gKey ru ve tx) st) none) s.h 6))⟩)))))) := by kernel_rfl
theorem tA2' (n b : Nat) (M : List Pg) (gp : Value → Option Bool) (gs : Value → Nat × (Nat → Nat → PV)) (kd ve st se : Int) (ru to tx : ByteArray) (L : List (ByteArray × ByteArray)) (kn kk : Bool) : gcS (msk 52 [0, 3, 4, 6, 19]) (stOf (regT (pureX ext0) alM (cst 52 [(0, .c (.ptr 0 0)), (3, .c (.ptr 1 0)), (4, .c (.ptr 2 0)), (6, .c (.p (.b kn))), (19, .c (.p (.b kk)))] [.pin 3 b, .cells 31 [.p (.i .i64 kd), .p (.s ru), .p (.i .i64 ve), .p (listP enc2 2 L), .p (.i .i64 st), .p (.i .i64 se), .p (.s to)], .cells 81 [.p (.s ru), .p (.i .i64 ve), .p (.s tx), .p (.i .i64 st)], .cells 86 [.sl 4 7 0 n, .mp 5, .mp 6], .row 31 7 n (rowC encPg M), .mapb (okK Try.prog 81) gp, .mapl (okK Try.prog 79) 3 1 gs none]) (fun s => .done .normal ⟨topsAt xM.ds s.t, snoc .gone (snoc .gone (upd (.mapl (okK Try.prog 79) 3 1 (gadd gs (gKey ru ve tx) st) none) s.h 6))⟩))) = (fun gs => cst 52 [(0, .c (.ptr 0 0)), (3, .c (.ptr 1 0)), (4, .c (.ptr 2 0)), (6, .c (.p (.b kn))), (19, .c (.p (.b kk)))] [.pin 3 b, .cells 31 [.p (.i .i64 kd), .p (.s ru), .p (.i .i64 ve), .p (listP enc2 2 L), .p (.i .i64 st), .p (.i .i64 se), .p (.s to)], .cells 81 [.p (.s ru), .p (.i .i64 ve), .p (.s tx), .p (.i .i64 st)], .cells 86 [.sl 4 7 0 n, .mp 5, .mp 6], .row 31 7 n (rowC encPg M), .mapb (okK Try.prog 81) gp, .mapl (okK Try.prog 79) 3 1 gs none]) (gadd gs (gKey ru ve tx) st) := by kernel_rfl
def backL : List Oper → Nat → Bool
  | [], _ => true
  | o :: r, i => o.after.toList.all (fun e => !Region.binds .any e || Nat.blt e.on i) && backL r (i + 1)
theorem backL_sound : ∀ (l : List Oper) (k : Nat), backL l k = true → ∀ i o, l[i]? = some o → ∀ e ∈ o.after, Region.binds .any e = true → e.on < k + i
  | [], _, _, i, o, h, _, _, _ => by simp at h
  | x :: r, k, h, i, o, ho, e, he, hb => by
    unfold backL at h
    rw [Bool.and_eq_true] at h
    cases i with
    | zero =>
      simp at ho
      subst ho
      have := List.all_eq_true.1 h.1 e (by simpa using he)
      rw [hb] at this
      simpa using this
    | succ i =>
      have := backL_sound r (k + 1) h.2 i o (by simpa using ho) e he hb
      omega
theorem xM_ok : MAOK Try.prog opsM xM where
  size := by kernel_rfl
  oE := ⟨(opsM[9]?).get (by kernel_rfl), by kernel_rfl, by kernel_rfl, by kernel_rfl, by kernel_rfl⟩
  o0 := ⟨(opsM[10]?).get (by kernel_rfl), by kernel_rfl, by kernel_rfl, by kernel_rfl, by kernel_rfl⟩
  oA := ⟨(opsM[11]?).get (by kernel_rfl), by kernel_rfl, by kernel_rfl, by kernel_rfl, by kernel_rfl⟩
  o1 := ⟨(opsM[12]?).get (by kernel_rfl), by kernel_rfl, by kernel_rfl, by kernel_rfl, by kernel_rfl⟩
  oS := ⟨(opsM[13]?).get (by kernel_rfl), by kernel_rfl, by kernel_rfl, by kernel_rfl, by kernel_rfl⟩
  back := fun i o h e he hb => by
    have := backL_sound opsM.toList 0 (by kernel_rfl) i o (by simpa using h) e he hb
    omega
  w10 := by kernel_rfl
  w21 := by kernel_rfl
  w30 := by kernel_rfl
  w42 := by kernel_rfl
  w43 := by kernel_rfl
  dE0 := by decide
  dEA := by decide
  dE1 := by decide
  d0A := by decide
  d01 := by decide
  dA1 := by decide
  smN := by decide
  skN := by decide
  syN := by decide
  hm := by kernel_rfl
  ht := by kernel_rfl
  hsz := by kernel_rfl
  hby := by kernel_rfl
  hz := by kernel_rfl
theorem rawM : flat (condA (nth .skip (pcs Try.prog Try.f48) 4)) = [.raw (.region 4 opsM true)] := by kernel_rfl
theorem pg_at (kd ve st se : Int) (ru to : ByteArray) (L : List (ByteArray × ByteArray)) : ∀ o : Nat, o < 7 → (fun e o : Nat => nth C.top [C.p (.i .i64 kd), C.p (.s ru), C.p (.i .i64 ve), C.p (listP enc2 2 L), C.p (.i .i64 st), C.p (.i .i64 se), C.p (.s to)] ((e + 0) * 7 + o)) 0 o = .p (encPg ⟨kd, ru, ve, L, st, se, to⟩ o) := by
  intro o ho
  have : o = 0 ∨ o = 1 ∨ o = 2 ∨ o = 3 ∨ o = 4 ∨ o = 5 ∨ o = 6 := by omega
  rcases this with rfl | rfl | rfl | rfl | rfl | rfl | rfl <;> rfl
theorem pg_one (kd ve st se : Int) (ru to : ByteArray) (L : List (ByteArray × ByteArray)) : ∀ e o : Nat, e < 1 → o < 7 → oneC (nth C.top [C.p (.i .i64 kd), C.p (.s ru), C.p (.i .i64 ve), C.p (listP enc2 2 L), C.p (.i .i64 st), C.p (.i .i64 se), C.p (.s to)] ((e + 0) * 7 + o)) = true := by
  intro e o he ho
  obtain rfl : e = 0 := by omega
  have : o = 0 ∨ o = 1 ∨ o = 2 ∨ o = 3 ∨ o = 4 ∨ o = 5 ∨ o = 6 := by omega
  rcases this with rfl | rfl | rfl | rfl | rfl | rfl | rfl <;> rfl
end Go.AE
