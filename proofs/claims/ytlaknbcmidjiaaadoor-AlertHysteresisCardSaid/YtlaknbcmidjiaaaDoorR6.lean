/- AE contracts: the reference of package alert. -/
import Derived.Test.YtlaknbcmidjiaaaDoorR5
import Derived.Test.YtlaknbcmidjiaaaDoorAl4
import Derived.Test.YtlaknbcmidjiaaaDoorAl5
namespace Go.AE
open Go.Proofs Go.Proofs.YtlaknbcmidjiaaaDoor

/-- An alert. -/
structure Al where
  r : ByteArray
  ver : Int
  L : List (ByteArray × ByteArray)
  st : Int
  si : Int
  le : Int
def alCs (a : Al) : List C := [.p (.s a.r), .p (.i .i64 a.ver), .p (listP enc2 2 a.L), .p (.i .i64 a.st), .p (.i .i64 a.si), .p (.i .i64 a.le)]
def alV (a : Al) : V := .a (alCs a)
def alV1 (a : Al) : V1 := .a (alCs a)
def alOf : V → Option (Prop × Al)
  | .a [.p (.s r), .p (.i .i64 ver), .p (.l 2 n f), .p (.i .i64 st), .p (.i .i64 si), .p (.i .i64 le)] => some (IsL enc2 2 (decL dec2 n f) n f, ⟨r, ver, decL dec2 n f, st, si, le⟩)
  | _ => none
def alOK (a : Al) : Bool := alB a.r a.ver (fun k => a.L.getD k default) a.L.length a.st a.si a.le
def alVis (a : Al) (tk : Int) : Bool := alOK a && decide (a.si ≤ tk) && decide (tk ≤ 1048576)
def alSet (a : Al) (st si le : Int) : Al := ⟨a.r, a.ver, a.L, st, si, le⟩
def alStep (a : Al) (vd tk : Int) : Al × Bool := let d := stepD (alVis a tk) a.st a.si a.le vd tk; (alSet a d.1 d.2.1 d.2.2.1, d.2.2.2)
def alEsc (a : Al) (tk dl lv : Int) : Al × Bool := let d := escD (alVis a tk) a.st a.si a.le tk dl lv; (alSet a d.1 d.2.1 d.2.2.1, d.2.2.2)
def al0 : Al := ⟨⟨#[]⟩, 0, [], 0, 0, 0⟩
def alAck (a : Al) (tk : Int) : Al × Int := if alVis a tk = false then (al0, 1) else if a.st = 2 ∨ a.st = 4 then (alSet a 3 tk a.le, 0) else (al0, 20)
def alEq (a b : Al) : Bool := decide (a.L = b.L) && (decide (a.r = b.r) && (a.ver == b.ver && (a.st == b.st && (a.si == b.si && a.le == b.le))))
def mRValid : Mod
  | [x] => match alOf x with
    | some (p, a) => some (p, bV (alOK a))
    | none => none
  | _ => none
def mRAt : Mod
  | [x, .c (.p (.i .i64 tk))] => match alOf x with
    | some (p, a) => some (p, bV (alVis a tk))
    | none => none
  | _ => none
def mRWith : Mod
  | [x, .c (.p (.i .i64 st)), .c (.p (.i .i64 si)), .c (.p (.i .i64 le))] => match alOf x with
    | some (p, a) => some (p, alV (alSet a st si le))
    | none => none
  | _ => none
def mRStep : Mod
  | [x, .c (.p (.i .i64 vd)), .c (.p (.i .i64 tk))] => match alOf x with
    | some (p, a) => some (p, .t [alV1 (alStep a vd tk).1, .c (.p (.b (alStep a vd tk).2))])
    | none => none
  | _ => none
def mRAck : Mod
  | [x, .c (.p (.i .i64 tk))] => match alOf x with
    | some (p, a) => some (p, .t [alV1 (alAck a tk).1, .c (.p (.i .i64 (alAck a tk).2))])
    | none => none
  | _ => none
def mREsc : Mod
  | [x, .c (.p (.i .i64 tk)), .c (.p (.i .i64 dl)), .c (.p (.i .i64 lv))] => match alOf x with
    | some (p, a) => some (p ∧ inR .i64 tk ∧ inR .i64 dl ∧ inR .i64 lv ∧ inR .i64 a.si ∧ inR .i64 a.le, .t [alV1 (alEsc a tk dl lv).1, .c (.p (.b (alEsc a tk dl lv).2))])
    | none => none
  | _ => none
def mRSame : Mod
  | [x, y] => match alOf x, alOf y with
    | some (p, a), some (q, b) => some ((p ∧ q) ∧ b.L.length ≤ 1000000, bV (alEq a b))
    | _, _ => none
  | _ => none
def extR1 : Ext := extOf [(46, mName), (47, mLValid)]
def extR2 : Ext := extOf [(16, mRValid)]
def extR3 : Ext := extOf [(51, mRAt), (52, mRWith)]
def extR4 : Ext := extOf [(53, mLSame)]

theorem tRV (a : Al) : exTs extR1 (pcs Tryd.prog Tryd.f16) (st0 Tryd.f16 [alV a]) (endG [] (resOf Tryd.prog Tryd.f16)) = Tr.rq True
    (Tr.rq (IsL enc2 2 (decL dec2 a.L.length (rowP enc2 a.L)) a.L.length (rowP enc2 a.L))
      (bT (!nameB a.r) (Tr.done X.ret (St.mk [V.c (C.p (PV.b false))] []))
        (bT (!validL (fun k => (decL dec2 a.L.length (rowP enc2 a.L)).getD k default) a.L.length) (Tr.done X.ret (St.mk [V.c (C.p (PV.b false))] []))
          (bT (decide (a.ver < 1)) (Tr.done X.ret (St.mk [V.c (C.p (PV.b false))] []))
            (bT (decide (a.si < 0)) (Tr.done X.ret (St.mk [V.c (C.p (PV.b false))] []))
              (bT (decide (1048576 < a.si)) (Tr.done X.ret (St.mk [V.c (C.p (PV.b false))] []))
                (bT (a.st == 0) (Tr.done X.ret (St.mk [V.c (C.p (PV.b (a.le == 0)))] []))
                  (bT (a.st == 1) (Tr.done X.ret (St.mk [V.c (C.p (PV.b (a.le == 0)))] []))
                    (bT (a.st == 2) (Tr.done X.ret (St.mk [V.c (C.p (PV.b (a.le == 0)))] []))
                      (bT (a.st == 3) (bT (decide (0 ≤ a.le)) (Tr.done X.ret (St.mk [V.c (C.p (PV.b (decide (a.le ≤ 16))))] [])) (Tr.done X.ret (St.mk [V.c (C.p (PV.b false))] [])))
                        (bT (a.st == 4) (bT (decide (1 ≤ a.le)) (Tr.done X.ret (St.mk [V.c (C.p (PV.b (decide (a.le ≤ 16))))] [])) (Tr.done X.ret (St.mk [V.c (C.p (PV.b false))] [])))
                          (Tr.done X.ret (St.mk [V.c (C.p (PV.b false))] []))))))))))))) := by kernel_rfl
theorem tRAt (a : Al) (tk : Int) : exTs extR2 (pcs Tryd.prog Tryd.f51) (st0 Tryd.f51 [alV a, iV tk]) (endG [] (resOf Tryd.prog Tryd.f51)) = Tr.rq (IsL enc2 2 (decL dec2 a.L.length (rowP enc2 a.L)) a.L.length (rowP enc2 a.L))
    (bT (alOK (Al.mk a.r a.ver (decL dec2 a.L.length (rowP enc2 a.L)) a.st a.si a.le))
      (bT (decide (a.si ≤ tk)) (Tr.done X.ret (St.mk [V.c (C.p (PV.b (decide (tk ≤ 1048576))))] [])) (Tr.done X.ret (St.mk [V.c (C.p (PV.b false))] [])))
      (Tr.done X.ret (St.mk [V.c (C.p (PV.b false))] []))) := by kernel_rfl
theorem tRWith (a : Al) (st si le : Int) : exTs ext0 (pcs Tryd.prog Tryd.f52) (st0 Tryd.f52 [alV a, iV st, iV si, iV le]) (endG [] (resOf Tryd.prog Tryd.f52)) = Tr.done X.ret (St.mk [V.a [C.p (PV.s a.r), C.p (PV.i IntKind.i64 a.ver), C.p (PV.l 2 a.L.length (rowP enc2 a.L)), C.p (PV.i IntKind.i64 st), C.p (PV.i IntKind.i64 si), C.p (PV.i IntKind.i64 le)]] []) := by kernel_rfl
theorem tRStep (a : Al) (vd tk : Int) : exTs extR3 (pcs Tryd.prog Tryd.f19) (st0 Tryd.f19 [alV a, iV vd, iV tk]) (endG [] (resOf Tryd.prog Tryd.f19)) = Tr.rq (IsL enc2 2 (decL dec2 a.L.length (rowP enc2 a.L)) a.L.length (rowP enc2 a.L))
    (bT (!alVis (Al.mk a.r a.ver (decL dec2 a.L.length (rowP enc2 a.L)) a.st a.si a.le) tk)
      (Tr.done X.ret
        (St.mk [V.t [V1.a [C.p (PV.s a.r), C.p (PV.i IntKind.i64 a.ver), C.p (PV.l 2 a.L.length (rowP enc2 a.L)), C.p (PV.i IntKind.i64 a.st), C.p (PV.i IntKind.i64 a.si), C.p (PV.i IntKind.i64 a.le)], V1.c (C.p (PV.b false))]] []))
      (bT (vd == 0)
        (bT (a.st != 0)
          (Tr.rq (IsL enc2 2 (decL dec2 a.L.length (rowP enc2 a.L)) a.L.length (rowP enc2 a.L))
            (Tr.done X.ret
              (St.mk [V.t [V1.a [C.p (PV.s (alSet (Al.mk a.r a.ver (decL dec2 a.L.length (rowP enc2 a.L)) a.st a.si a.le) 0 tk 0).r), C.p (PV.i IntKind.i64 (alSet (Al.mk a.r a.ver (decL dec2 a.L.length (rowP enc2 a.L)) a.st a.si a.le) 0 tk 0).ver), C.p (PV.l 2 (alSet (Al.mk a.r a.ver (decL dec2 a.L.length (rowP enc2 a.L)) a.st a.si a.le) 0 tk 0).L.length (rowP enc2 (alSet (Al.mk a.r a.ver (decL dec2 a.L.length (rowP enc2 a.L)) a.st a.si a.le) 0 tk 0).L)), C.p (PV.i IntKind.i64 (alSet (Al.mk a.r a.ver (decL dec2 a.L.length (rowP enc2 a.L)) a.st a.si a.le) 0 tk 0).st), C.p (PV.i IntKind.i64 (alSet (Al.mk a.r a.ver (decL dec2 a.L.length (rowP enc2 a.L)) a.st a.si a.le) 0 tk 0).si), C.p (PV.i IntKind.i64 (alSet (Al.mk a.r a.ver (decL dec2 a.L.length (rowP enc2 a.L)) a.st a.si a.le) 0 tk 0).le)], V1.c (C.p (PV.b false))]] [])))
          (bT (vd == 1)
            (bT (a.st == 0)
              (Tr.rq (IsL enc2 2 (decL dec2 a.L.length (rowP enc2 a.L)) a.L.length (rowP enc2 a.L))
                (Tr.done X.ret
                  (St.mk [V.t [V1.a [C.p (PV.s (alSet (Al.mk a.r a.ver (decL dec2 a.L.length (rowP enc2 a.L)) a.st a.si a.le) 1 tk 0).r), C.p (PV.i IntKind.i64 (alSet (Al.mk a.r a.ver (decL dec2 a.L.length (rowP enc2 a.L)) a.st a.si a.le) 1 tk 0).ver), C.p (PV.l 2 (alSet (Al.mk a.r a.ver (decL dec2 a.L.length (rowP enc2 a.L)) a.st a.si a.le) 1 tk 0).L.length (rowP enc2 (alSet (Al.mk a.r a.ver (decL dec2 a.L.length (rowP enc2 a.L)) a.st a.si a.le) 1 tk 0).L)), C.p (PV.i IntKind.i64 (alSet (Al.mk a.r a.ver (decL dec2 a.L.length (rowP enc2 a.L)) a.st a.si a.le) 1 tk 0).st), C.p (PV.i IntKind.i64 (alSet (Al.mk a.r a.ver (decL dec2 a.L.length (rowP enc2 a.L)) a.st a.si a.le) 1 tk 0).si), C.p (PV.i IntKind.i64 (alSet (Al.mk a.r a.ver (decL dec2 a.L.length (rowP enc2 a.L)) a.st a.si a.le) 1 tk 0).le)], V1.c (C.p (PV.b false))]] [])))
              (bT (vd == 2)
                (bT (a.st == 0)
                  (Tr.rq (IsL enc2 2 (decL dec2 a.L.length (rowP enc2 a.L)) a.L.length (rowP enc2 a.L))
                    (Tr.done X.ret
                      (St.mk [V.t [V1.a [C.p (PV.s (alSet (Al.mk a.r a.ver (decL dec2 a.L.length (rowP enc2 a.L)) a.st a.si a.le) 2 tk 0).r), C.p (PV.i IntKind.i64 (alSet (Al.mk a.r a.ver (decL dec2 a.L.length (rowP enc2 a.L)) a.st a.si a.le) 2 tk 0).ver), C.p (PV.l 2 (alSet (Al.mk a.r a.ver (decL dec2 a.L.length (rowP enc2 a.L)) a.st a.si a.le) 2 tk 0).L.length (rowP enc2 (alSet (Al.mk a.r a.ver (decL dec2 a.L.length (rowP enc2 a.L)) a.st a.si a.le) 2 tk 0).L)), C.p (PV.i IntKind.i64 (alSet (Al.mk a.r a.ver (decL dec2 a.L.length (rowP enc2 a.L)) a.st a.si a.le) 2 tk 0).st), C.p (PV.i IntKind.i64 (alSet (Al.mk a.r a.ver (decL dec2 a.L.length (rowP enc2 a.L)) a.st a.si a.le) 2 tk 0).si), C.p (PV.i IntKind.i64 (alSet (Al.mk a.r a.ver (decL dec2 a.L.length (rowP enc2 a.L)) a.st a.si a.le) 2 tk 0).le)], V1.c (C.p (PV.b true))]] [])))
                  (bT (a.st == 1)
                    (Tr.rq (IsL enc2 2 (decL dec2 a.L.length (rowP enc2 a.L)) a.L.length (rowP enc2 a.L))
                      (Tr.done X.ret
                        (St.mk [V.t [V1.a [C.p (PV.s (alSet (Al.mk a.r a.ver (decL dec2 a.L.length (rowP enc2 a.L)) a.st a.si a.le) 2 tk 0).r), C.p (PV.i IntKind.i64 (alSet (Al.mk a.r a.ver (decL dec2 a.L.length (rowP enc2 a.L)) a.st a.si a.le) 2 tk 0).ver), C.p (PV.l 2 (alSet (Al.mk a.r a.ver (decL dec2 a.L.length (rowP enc2 a.L)) a.st a.si a.le) 2 tk 0).L.length (rowP enc2 (alSet (Al.mk a.r a.ver (decL dec2 a.L.length (rowP enc2 a.L)) a.st a.si a.le) 2 tk 0).L)), C.p (PV.i IntKind.i64 (alSet (Al.mk a.r a.ver (decL dec2 a.L.length (rowP enc2 a.L)) a.st a.si a.le) 2 tk 0).st), C.p (PV.i IntKind.i64 (alSet (Al.mk a.r a.ver (decL dec2 a.L.length (rowP enc2 a.L)) a.st a.si a.le) 2 tk 0).si), C.p (PV.i IntKind.i64 (alSet (Al.mk a.r a.ver (decL dec2 a.L.length (rowP enc2 a.L)) a.st a.si a.le) 2 tk 0).le)], V1.c (C.p (PV.b true))]] [])))
                    (Tr.done X.ret
                      (St.mk [V.t [V1.a [C.p (PV.s a.r), C.p (PV.i IntKind.i64 a.ver), C.p (PV.l 2 a.L.length (rowP enc2 a.L)), C.p (PV.i IntKind.i64 a.st), C.p (PV.i IntKind.i64 a.si), C.p (PV.i IntKind.i64 a.le)], V1.c (C.p (PV.b false))]] []))))
                (Tr.done X.ret
                  (St.mk [V.t [V1.a [C.p (PV.s a.r), C.p (PV.i IntKind.i64 a.ver), C.p (PV.l 2 a.L.length (rowP enc2 a.L)), C.p (PV.i IntKind.i64 a.st), C.p (PV.i IntKind.i64 a.si), C.p (PV.i IntKind.i64 a.le)], V1.c (C.p (PV.b false))]] []))))
            (bT (vd == 2)
              (bT (a.st == 0)
                (Tr.rq (IsL enc2 2 (decL dec2 a.L.length (rowP enc2 a.L)) a.L.length (rowP enc2 a.L))
                  (Tr.done X.ret
                    (St.mk [V.t [V1.a [C.p (PV.s (alSet (Al.mk a.r a.ver (decL dec2 a.L.length (rowP enc2 a.L)) a.st a.si a.le) 2 tk 0).r), C.p (PV.i IntKind.i64 (alSet (Al.mk a.r a.ver (decL dec2 a.L.length (rowP enc2 a.L)) a.st a.si a.le) 2 tk 0).ver), C.p (PV.l 2 (alSet (Al.mk a.r a.ver (decL dec2 a.L.length (rowP enc2 a.L)) a.st a.si a.le) 2 tk 0).L.length (rowP enc2 (alSet (Al.mk a.r a.ver (decL dec2 a.L.length (rowP enc2 a.L)) a.st a.si a.le) 2 tk 0).L)), C.p (PV.i IntKind.i64 (alSet (Al.mk a.r a.ver (decL dec2 a.L.length (rowP enc2 a.L)) a.st a.si a.le) 2 tk 0).st), C.p (PV.i IntKind.i64 (alSet (Al.mk a.r a.ver (decL dec2 a.L.length (rowP enc2 a.L)) a.st a.si a.le) 2 tk 0).si), C.p (PV.i IntKind.i64 (alSet (Al.mk a.r a.ver (decL dec2 a.L.length (rowP enc2 a.L)) a.st a.si a.le) 2 tk 0).le)], V1.c (C.p (PV.b true))]] [])))
                (bT (a.st == 1)
                  (Tr.rq (IsL enc2 2 (decL dec2 a.L.length (rowP enc2 a.L)) a.L.length (rowP enc2 a.L))
                    (Tr.done X.ret
                      (St.mk [V.t [V1.a [C.p (PV.s (alSet (Al.mk a.r a.ver (decL dec2 a.L.length (rowP enc2 a.L)) a.st a.si a.le) 2 tk 0).r), C.p (PV.i IntKind.i64 (alSet (Al.mk a.r a.ver (decL dec2 a.L.length (rowP enc2 a.L)) a.st a.si a.le) 2 tk 0).ver), C.p (PV.l 2 (alSet (Al.mk a.r a.ver (decL dec2 a.L.length (rowP enc2 a.L)) a.st a.si a.le) 2 tk 0).L.length (rowP enc2 (alSet (Al.mk a.r a.ver (decL dec2 a.L.length (rowP enc2 a.L)) a.st a.si a.le) 2 tk 0).L)), C.p (PV.i IntKind.i64 (alSet (Al.mk a.r a.ver (decL dec2 a.L.length (rowP enc2 a.L)) a.st a.si a.le) 2 tk 0).st), C.p (PV.i IntKind.i64 (alSet (Al.mk a.r a.ver (decL dec2 a.L.length (rowP enc2 a.L)) a.st a.si a.le) 2 tk 0).si), C.p (PV.i IntKind.i64 (alSet (Al.mk a.r a.ver (decL dec2 a.L.length (rowP enc2 a.L)) a.st a.si a.le) 2 tk 0).le)], V1.c (C.p (PV.b true))]] [])))
                  (Tr.done X.ret
                    (St.mk [V.t [V1.a [C.p (PV.s a.r), C.p (PV.i IntKind.i64 a.ver), C.p (PV.l 2 a.L.length (rowP enc2 a.L)), C.p (PV.i IntKind.i64 a.st), C.p (PV.i IntKind.i64 a.si), C.p (PV.i IntKind.i64 a.le)], V1.c (C.p (PV.b false))]] []))))
              (Tr.done X.ret
                (St.mk [V.t [V1.a [C.p (PV.s a.r), C.p (PV.i IntKind.i64 a.ver), C.p (PV.l 2 a.L.length (rowP enc2 a.L)), C.p (PV.i IntKind.i64 a.st), C.p (PV.i IntKind.i64 a.si), C.p (PV.i IntKind.i64 a.le)], V1.c (C.p (PV.b false))]] [])))))
        (bT (vd == 1)
          (bT (a.st == 0)
            (Tr.rq (IsL enc2 2 (decL dec2 a.L.length (rowP enc2 a.L)) a.L.length (rowP enc2 a.L))
              (Tr.done X.ret
                (St.mk [V.t [V1.a [C.p (PV.s (alSet (Al.mk a.r a.ver (decL dec2 a.L.length (rowP enc2 a.L)) a.st a.si a.le) 1 tk 0).r), C.p (PV.i IntKind.i64 (alSet (Al.mk a.r a.ver (decL dec2 a.L.length (rowP enc2 a.L)) a.st a.si a.le) 1 tk 0).ver), C.p (PV.l 2 (alSet (Al.mk a.r a.ver (decL dec2 a.L.length (rowP enc2 a.L)) a.st a.si a.le) 1 tk 0).L.length (rowP enc2 (alSet (Al.mk a.r a.ver (decL dec2 a.L.length (rowP enc2 a.L)) a.st a.si a.le) 1 tk 0).L)), C.p (PV.i IntKind.i64 (alSet (Al.mk a.r a.ver (decL dec2 a.L.length (rowP enc2 a.L)) a.st a.si a.le) 1 tk 0).st), C.p (PV.i IntKind.i64 (alSet (Al.mk a.r a.ver (decL dec2 a.L.length (rowP enc2 a.L)) a.st a.si a.le) 1 tk 0).si), C.p (PV.i IntKind.i64 (alSet (Al.mk a.r a.ver (decL dec2 a.L.length (rowP enc2 a.L)) a.st a.si a.le) 1 tk 0).le)], V1.c (C.p (PV.b false))]] [])))
            (bT (vd == 2)
              (bT (a.st == 0)
                (Tr.rq (IsL enc2 2 (decL dec2 a.L.length (rowP enc2 a.L)) a.L.length (rowP enc2 a.L))
                  (Tr.done X.ret
                    (St.mk [V.t [V1.a [C.p (PV.s (alSet (Al.mk a.r a.ver (decL dec2 a.L.length (rowP enc2 a.L)) a.st a.si a.le) 2 tk 0).r), C.p (PV.i IntKind.i64 (alSet (Al.mk a.r a.ver (decL dec2 a.L.length (rowP enc2 a.L)) a.st a.si a.le) 2 tk 0).ver), C.p (PV.l 2 (alSet (Al.mk a.r a.ver (decL dec2 a.L.length (rowP enc2 a.L)) a.st a.si a.le) 2 tk 0).L.length (rowP enc2 (alSet (Al.mk a.r a.ver (decL dec2 a.L.length (rowP enc2 a.L)) a.st a.si a.le) 2 tk 0).L)), C.p (PV.i IntKind.i64 (alSet (Al.mk a.r a.ver (decL dec2 a.L.length (rowP enc2 a.L)) a.st a.si a.le) 2 tk 0).st), C.p (PV.i IntKind.i64 (alSet (Al.mk a.r a.ver (decL dec2 a.L.length (rowP enc2 a.L)) a.st a.si a.le) 2 tk 0).si), C.p (PV.i IntKind.i64 (alSet (Al.mk a.r a.ver (decL dec2 a.L.length (rowP enc2 a.L)) a.st a.si a.le) 2 tk 0).le)], V1.c (C.p (PV.b true))]] [])))
                (bT (a.st == 1)
                  (Tr.rq (IsL enc2 2 (decL dec2 a.L.length (rowP enc2 a.L)) a.L.length (rowP enc2 a.L))
                    (Tr.done X.ret
                      (St.mk [V.t [V1.a [C.p (PV.s (alSet (Al.mk a.r a.ver (decL dec2 a.L.length (rowP enc2 a.L)) a.st a.si a.le) 2 tk 0).r), C.p (PV.i IntKind.i64 (alSet (Al.mk a.r a.ver (decL dec2 a.L.length (rowP enc2 a.L)) a.st a.si a.le) 2 tk 0).ver), C.p (PV.l 2 (alSet (Al.mk a.r a.ver (decL dec2 a.L.length (rowP enc2 a.L)) a.st a.si a.le) 2 tk 0).L.length (rowP enc2 (alSet (Al.mk a.r a.ver (decL dec2 a.L.length (rowP enc2 a.L)) a.st a.si a.le) 2 tk 0).L)), C.p (PV.i IntKind.i64 (alSet (Al.mk a.r a.ver (decL dec2 a.L.length (rowP enc2 a.L)) a.st a.si a.le) 2 tk 0).st), C.p (PV.i IntKind.i64 (alSet (Al.mk a.r a.ver (decL dec2 a.L.length (rowP enc2 a.L)) a.st a.si a.le) 2 tk 0).si), C.p (PV.i IntKind.i64 (alSet (Al.mk a.r a.ver (decL dec2 a.L.length (rowP enc2 a.L)) a.st a.si a.le) 2 tk 0).le)], V1.c (C.p (PV.b true))]] [])))
                  (Tr.done X.ret
                    (St.mk [V.t [V1.a [C.p (PV.s a.r), C.p (PV.i IntKind.i64 a.ver), C.p (PV.l 2 a.L.length (rowP enc2 a.L)), C.p (PV.i IntKind.i64 a.st), C.p (PV.i IntKind.i64 a.si), C.p (PV.i IntKind.i64 a.le)], V1.c (C.p (PV.b false))]] []))))
              (Tr.done X.ret
                (St.mk [V.t [V1.a [C.p (PV.s a.r), C.p (PV.i IntKind.i64 a.ver), C.p (PV.l 2 a.L.length (rowP enc2 a.L)), C.p (PV.i IntKind.i64 a.st), C.p (PV.i IntKind.i64 a.si), C.p (PV.i IntKind.i64 a.le)], V1.c (C.p (PV.b false))]] []))))
          (bT (vd == 2)
            (bT (a.st == 0)
              (Tr.rq (IsL enc2 2 (decL dec2 a.L.length (rowP enc2 a.L)) a.L.length (rowP enc2 a.L))
                (Tr.done X.ret
                  (St.mk [V.t [V1.a [C.p (PV.s (alSet (Al.mk a.r a.ver (decL dec2 a.L.length (rowP enc2 a.L)) a.st a.si a.le) 2 tk 0).r), C.p (PV.i IntKind.i64 (alSet (Al.mk a.r a.ver (decL dec2 a.L.length (rowP enc2 a.L)) a.st a.si a.le) 2 tk 0).ver), C.p (PV.l 2 (alSet (Al.mk a.r a.ver (decL dec2 a.L.length (rowP enc2 a.L)) a.st a.si a.le) 2 tk 0).L.length (rowP enc2 (alSet (Al.mk a.r a.ver (decL dec2 a.L.length (rowP enc2 a.L)) a.st a.si a.le) 2 tk 0).L)), C.p (PV.i IntKind.i64 (alSet (Al.mk a.r a.ver (decL dec2 a.L.length (rowP enc2 a.L)) a.st a.si a.le) 2 tk 0).st), C.p (PV.i IntKind.i64 (alSet (Al.mk a.r a.ver (decL dec2 a.L.length (rowP enc2 a.L)) a.st a.si a.le) 2 tk 0).si), C.p (PV.i IntKind.i64 (alSet (Al.mk a.r a.ver (decL dec2 a.L.length (rowP enc2 a.L)) a.st a.si a.le) 2 tk 0).le)], V1.c (C.p (PV.b true))]] [])))
              (bT (a.st == 1)
                (Tr.rq (IsL enc2 2 (decL dec2 a.L.length (rowP enc2 a.L)) a.L.length (rowP enc2 a.L))
                  (Tr.done X.ret
                    (St.mk [V.t [V1.a [C.p (PV.s (alSet (Al.mk a.r a.ver (decL dec2 a.L.length (rowP enc2 a.L)) a.st a.si a.le) 2 tk 0).r), C.p (PV.i IntKind.i64 (alSet (Al.mk a.r a.ver (decL dec2 a.L.length (rowP enc2 a.L)) a.st a.si a.le) 2 tk 0).ver), C.p (PV.l 2 (alSet (Al.mk a.r a.ver (decL dec2 a.L.length (rowP enc2 a.L)) a.st a.si a.le) 2 tk 0).L.length (rowP enc2 (alSet (Al.mk a.r a.ver (decL dec2 a.L.length (rowP enc2 a.L)) a.st a.si a.le) 2 tk 0).L)), C.p (PV.i IntKind.i64 (alSet (Al.mk a.r a.ver (decL dec2 a.L.length (rowP enc2 a.L)) a.st a.si a.le) 2 tk 0).st), C.p (PV.i IntKind.i64 (alSet (Al.mk a.r a.ver (decL dec2 a.L.length (rowP enc2 a.L)) a.st a.si a.le) 2 tk 0).si), C.p (PV.i IntKind.i64 (alSet (Al.mk a.r a.ver (decL dec2 a.L.length (rowP enc2 a.L)) a.st a.si a.le) 2 tk 0).le)], V1.c (C.p (PV.b true))]] [])))
                (Tr.done X.ret
                  (St.mk [V.t [V1.a [C.p (PV.s a.r), C.p (PV.i IntKind.i64 a.ver), C.p (PV.l 2 a.L.length (rowP enc2 a.L)), C.p (PV.i IntKind.i64 a.st), C.p (PV.i IntKind.i64 a.si), C.p (PV.i IntKind.i64 a.le)], V1.c (C.p (PV.b false))]] []))))
            (Tr.done X.ret
              (St.mk [V.t [V1.a [C.p (PV.s a.r), C.p (PV.i IntKind.i64 a.ver), C.p (PV.l 2 a.L.length (rowP enc2 a.L)), C.p (PV.i IntKind.i64 a.st), C.p (PV.i IntKind.i64 a.si), C.p (PV.i IntKind.i64 a.le)], V1.c (C.p (PV.b false))]] [])))))) := by kernel_rfl
theorem tRAck (a : Al) (tk : Int) : exTs extR3 (pcs Tryd.prog Tryd.f31) (st0 Tryd.f31 [alV a, iV tk]) (endG [] (resOf Tryd.prog Tryd.f31)) = Tr.rq (IsL enc2 2 (decL dec2 a.L.length (rowP enc2 a.L)) a.L.length (rowP enc2 a.L))
    (bT (!alVis (Al.mk a.r a.ver (decL dec2 a.L.length (rowP enc2 a.L)) a.st a.si a.le) tk)
      (Tr.done X.ret
        (St.mk [V.t [V1.a [C.p (PV.s (ByteArray.mk #[])), C.p (PV.i IntKind.i64 0), C.p (PV.z (Value.slice none 0 0)), C.p (PV.i IntKind.i64 0), C.p (PV.i IntKind.i64 0), C.p (PV.i IntKind.i64 0)], V1.c (C.p (PV.i IntKind.i64 1))]] []))
      (bT (a.st == 2)
        (Tr.rq (IsL enc2 2 (decL dec2 a.L.length (rowP enc2 a.L)) a.L.length (rowP enc2 a.L))
          (Tr.done X.ret
            (St.mk [V.t [V1.a [C.p (PV.s (alSet (Al.mk a.r a.ver (decL dec2 a.L.length (rowP enc2 a.L)) a.st a.si a.le) 3 tk a.le).r), C.p (PV.i IntKind.i64 (alSet (Al.mk a.r a.ver (decL dec2 a.L.length (rowP enc2 a.L)) a.st a.si a.le) 3 tk a.le).ver), C.p (PV.l 2 (alSet (Al.mk a.r a.ver (decL dec2 a.L.length (rowP enc2 a.L)) a.st a.si a.le) 3 tk a.le).L.length (rowP enc2 (alSet (Al.mk a.r a.ver (decL dec2 a.L.length (rowP enc2 a.L)) a.st a.si a.le) 3 tk a.le).L)), C.p (PV.i IntKind.i64 (alSet (Al.mk a.r a.ver (decL dec2 a.L.length (rowP enc2 a.L)) a.st a.si a.le) 3 tk a.le).st), C.p (PV.i IntKind.i64 (alSet (Al.mk a.r a.ver (decL dec2 a.L.length (rowP enc2 a.L)) a.st a.si a.le) 3 tk a.le).si), C.p (PV.i IntKind.i64 (alSet (Al.mk a.r a.ver (decL dec2 a.L.length (rowP enc2 a.L)) a.st a.si a.le) 3 tk a.le).le)], V1.c (C.p (PV.i IntKind.i64 0))]] [])))
        (bT (a.st == 4)
          (Tr.rq (IsL enc2 2 (decL dec2 a.L.length (rowP enc2 a.L)) a.L.length (rowP enc2 a.L))
            (Tr.done X.ret
              (St.mk [V.t [V1.a [C.p (PV.s (alSet (Al.mk a.r a.ver (decL dec2 a.L.length (rowP enc2 a.L)) a.st a.si a.le) 3 tk a.le).r), C.p (PV.i IntKind.i64 (alSet (Al.mk a.r a.ver (decL dec2 a.L.length (rowP enc2 a.L)) a.st a.si a.le) 3 tk a.le).ver), C.p (PV.l 2 (alSet (Al.mk a.r a.ver (decL dec2 a.L.length (rowP enc2 a.L)) a.st a.si a.le) 3 tk a.le).L.length (rowP enc2 (alSet (Al.mk a.r a.ver (decL dec2 a.L.length (rowP enc2 a.L)) a.st a.si a.le) 3 tk a.le).L)), C.p (PV.i IntKind.i64 (alSet (Al.mk a.r a.ver (decL dec2 a.L.length (rowP enc2 a.L)) a.st a.si a.le) 3 tk a.le).st), C.p (PV.i IntKind.i64 (alSet (Al.mk a.r a.ver (decL dec2 a.L.length (rowP enc2 a.L)) a.st a.si a.le) 3 tk a.le).si), C.p (PV.i IntKind.i64 (alSet (Al.mk a.r a.ver (decL dec2 a.L.length (rowP enc2 a.L)) a.st a.si a.le) 3 tk a.le).le)], V1.c (C.p (PV.i IntKind.i64 0))]] [])))
          (Tr.done X.ret
            (St.mk [V.t [V1.a [C.p (PV.s (ByteArray.mk #[])), C.p (PV.i IntKind.i64 0), C.p (PV.z (Value.slice none 0 0)), C.p (PV.i IntKind.i64 0), C.p (PV.i IntKind.i64 0), C.p (PV.i IntKind.i64 0)], V1.c (C.p (PV.i IntKind.i64 20))]] []))))) := by kernel_rfl
theorem tREsc (a : Al) (tk dl lv : Int) : exTs extR3 (pcs Tryd.prog Tryd.f22) (st0 Tryd.f22 [alV a, iV tk, iV dl, iV lv]) (endG [] (resOf Tryd.prog Tryd.f22)) = Tr.rq (IsL enc2 2 (decL dec2 a.L.length (rowP enc2 a.L)) a.L.length (rowP enc2 a.L))
    (bT (!alVis (Al.mk a.r a.ver (decL dec2 a.L.length (rowP enc2 a.L)) a.st a.si a.le) tk)
      (Tr.done X.ret
        (St.mk [V.t [V1.a [C.p (PV.s a.r), C.p (PV.i IntKind.i64 a.ver), C.p (PV.l 2 a.L.length (rowP enc2 a.L)), C.p (PV.i IntKind.i64 a.st), C.p (PV.i IntKind.i64 a.si), C.p (PV.i IntKind.i64 a.le)], V1.c (C.p (PV.b false))]] []))
      (bT (a.st != 2)
        (bT (a.st != 4)
          (Tr.done X.ret
            (St.mk [V.t [V1.a [C.p (PV.s a.r), C.p (PV.i IntKind.i64 a.ver), C.p (PV.l 2 a.L.length (rowP enc2 a.L)), C.p (PV.i IntKind.i64 a.st), C.p (PV.i IntKind.i64 a.si), C.p (PV.i IntKind.i64 a.le)], V1.c (C.p (PV.b false))]] []))
          (bT (decide (dl < 0))
            (Tr.done X.ret
              (St.mk [V.t [V1.a [C.p (PV.s a.r), C.p (PV.i IntKind.i64 a.ver), C.p (PV.l 2 a.L.length (rowP enc2 a.L)), C.p (PV.i IntKind.i64 a.st), C.p (PV.i IntKind.i64 a.si), C.p (PV.i IntKind.i64 a.le)], V1.c (C.p (PV.b false))]] []))
            (Tr.rq (inR IntKind.i64 (tk - a.si))
              (bT (decide (tk - a.si < dl))
                (Tr.done X.ret
                  (St.mk [V.t [V1.a [C.p (PV.s a.r), C.p (PV.i IntKind.i64 a.ver), C.p (PV.l 2 a.L.length (rowP enc2 a.L)), C.p (PV.i IntKind.i64 a.st), C.p (PV.i IntKind.i64 a.si), C.p (PV.i IntKind.i64 a.le)], V1.c (C.p (PV.b false))]] []))
                (bT (decide (lv ≤ a.le))
                  (Tr.done X.ret
                    (St.mk [V.t [V1.a [C.p (PV.s a.r), C.p (PV.i IntKind.i64 a.ver), C.p (PV.l 2 a.L.length (rowP enc2 a.L)), C.p (PV.i IntKind.i64 a.st), C.p (PV.i IntKind.i64 a.si), C.p (PV.i IntKind.i64 a.le)], V1.c (C.p (PV.b false))]] []))
                  (bT (decide (16 ≤ a.le))
                    (Tr.done X.ret
                      (St.mk [V.t [V1.a [C.p (PV.s a.r), C.p (PV.i IntKind.i64 a.ver), C.p (PV.l 2 a.L.length (rowP enc2 a.L)), C.p (PV.i IntKind.i64 a.st), C.p (PV.i IntKind.i64 a.si), C.p (PV.i IntKind.i64 a.le)], V1.c (C.p (PV.b false))]] []))
                    (Tr.rq (inR IntKind.i64 (a.le + 1))
                      (Tr.rq (IsL enc2 2 (decL dec2 a.L.length (rowP enc2 a.L)) a.L.length (rowP enc2 a.L))
                        (Tr.done X.ret
                          (St.mk [V.t [V1.a [C.p (PV.s (alSet (Al.mk a.r a.ver (decL dec2 a.L.length (rowP enc2 a.L)) a.st a.si a.le) 4 tk (a.le + 1)).r), C.p (PV.i IntKind.i64 (alSet (Al.mk a.r a.ver (decL dec2 a.L.length (rowP enc2 a.L)) a.st a.si a.le) 4 tk (a.le + 1)).ver), C.p (PV.l 2 (alSet (Al.mk a.r a.ver (decL dec2 a.L.length (rowP enc2 a.L)) a.st a.si a.le) 4 tk (a.le + 1)).L.length (rowP enc2 (alSet (Al.mk a.r a.ver (decL dec2 a.L.length (rowP enc2 a.L)) a.st a.si a.le) 4 tk (a.le + 1)).L)), C.p (PV.i IntKind.i64 (alSet (Al.mk a.r a.ver (decL dec2 a.L.length (rowP enc2 a.L)) a.st a.si a.le) 4 tk (a.le + 1)).st), C.p (PV.i IntKind.i64 (alSet (Al.mk a.r a.ver (decL dec2 a.L.length (rowP enc2 a.L)) a.st a.si a.le) 4 tk (a.le + 1)).si), C.p (PV.i IntKind.i64 (alSet (Al.mk a.r a.ver (decL dec2 a.L.length (rowP enc2 a.L)) a.st a.si a.le) 4 tk (a.le + 1)).le)], V1.c (C.p (PV.b true))]] []))))))))))
        (bT (decide (dl < 0))
          (Tr.done X.ret
            (St.mk [V.t [V1.a [C.p (PV.s a.r), C.p (PV.i IntKind.i64 a.ver), C.p (PV.l 2 a.L.length (rowP enc2 a.L)), C.p (PV.i IntKind.i64 a.st), C.p (PV.i IntKind.i64 a.si), C.p (PV.i IntKind.i64 a.le)], V1.c (C.p (PV.b false))]] []))
          (Tr.rq (inR IntKind.i64 (tk - a.si))
            (bT (decide (tk - a.si < dl))
              (Tr.done X.ret
                (St.mk [V.t [V1.a [C.p (PV.s a.r), C.p (PV.i IntKind.i64 a.ver), C.p (PV.l 2 a.L.length (rowP enc2 a.L)), C.p (PV.i IntKind.i64 a.st), C.p (PV.i IntKind.i64 a.si), C.p (PV.i IntKind.i64 a.le)], V1.c (C.p (PV.b false))]] []))
              (bT (decide (lv ≤ a.le))
                (Tr.done X.ret
                  (St.mk [V.t [V1.a [C.p (PV.s a.r), C.p (PV.i IntKind.i64 a.ver), C.p (PV.l 2 a.L.length (rowP enc2 a.L)), C.p (PV.i IntKind.i64 a.st), C.p (PV.i IntKind.i64 a.si), C.p (PV.i IntKind.i64 a.le)], V1.c (C.p (PV.b false))]] []))
                (bT (decide (16 ≤ a.le))
                  (Tr.done X.ret
                    (St.mk [V.t [V1.a [C.p (PV.s a.r), C.p (PV.i IntKind.i64 a.ver), C.p (PV.l 2 a.L.length (rowP enc2 a.L)), C.p (PV.i IntKind.i64 a.st), C.p (PV.i IntKind.i64 a.si), C.p (PV.i IntKind.i64 a.le)], V1.c (C.p (PV.b false))]] []))
                  (Tr.rq (inR IntKind.i64 (a.le + 1))
                    (Tr.rq (IsL enc2 2 (decL dec2 a.L.length (rowP enc2 a.L)) a.L.length (rowP enc2 a.L))
                      (Tr.done X.ret
                        (St.mk [V.t [V1.a [C.p (PV.s (alSet (Al.mk a.r a.ver (decL dec2 a.L.length (rowP enc2 a.L)) a.st a.si a.le) 4 tk (a.le + 1)).r), C.p (PV.i IntKind.i64 (alSet (Al.mk a.r a.ver (decL dec2 a.L.length (rowP enc2 a.L)) a.st a.si a.le) 4 tk (a.le + 1)).ver), C.p (PV.l 2 (alSet (Al.mk a.r a.ver (decL dec2 a.L.length (rowP enc2 a.L)) a.st a.si a.le) 4 tk (a.le + 1)).L.length (rowP enc2 (alSet (Al.mk a.r a.ver (decL dec2 a.L.length (rowP enc2 a.L)) a.st a.si a.le) 4 tk (a.le + 1)).L)), C.p (PV.i IntKind.i64 (alSet (Al.mk a.r a.ver (decL dec2 a.L.length (rowP enc2 a.L)) a.st a.si a.le) 4 tk (a.le + 1)).st), C.p (PV.i IntKind.i64 (alSet (Al.mk a.r a.ver (decL dec2 a.L.length (rowP enc2 a.L)) a.st a.si a.le) 4 tk (a.le + 1)).si), C.p (PV.i IntKind.i64 (alSet (Al.mk a.r a.ver (decL dec2 a.L.length (rowP enc2 a.L)) a.st a.si a.le) 4 tk (a.le + 1)).le)], V1.c (C.p (PV.b true))]] []))))))))))) := by kernel_rfl
theorem tRSame (a b : Al) : exTs extR4 (pcs Tryd.prog Tryd.f20) (st0 Tryd.f20 [alV a, alV b]) (endG [] (resOf Tryd.prog Tryd.f20)) = Tr.rq
    ((IsL enc2 2 (decL dec2 a.L.length (rowP enc2 a.L)) a.L.length (rowP enc2 a.L) ∧ IsL enc2 2 (decL dec2 b.L.length (rowP enc2 b.L)) b.L.length (rowP enc2 b.L)) ∧
      (a.L.length ≤ 1000000 ∨ b.L.length ≤ 1000000))
    (bT (decide (decL dec2 a.L.length (rowP enc2 a.L) = decL dec2 b.L.length (rowP enc2 b.L)))
      (bT (a.r.toList == b.r.toList)
        (bT (a.ver == b.ver)
          (bT (a.st == b.st) (bT (a.si == b.si) (Tr.done X.ret (St.mk [V.c (C.p (PV.b (a.le == b.le)))] [])) (Tr.done X.ret (St.mk [V.c (C.p (PV.b false))] [])))
            (Tr.done X.ret (St.mk [V.c (C.p (PV.b false))] [])))
          (Tr.done X.ret (St.mk [V.c (C.p (PV.b false))] [])))
        (Tr.done X.ret (St.mk [V.c (C.p (PV.b false))] [])))
      (Tr.done X.ret (St.mk [V.c (C.p (PV.b false))] []))) := by kernel_rfl
theorem alOf_le {x : V} {p : Prop} {a : Al} (h : alOf x = some (p, a)) (hp : p) : VLe x (alV a) := by
  unfold alOf at h
  split at h
  · rename_i r ver n f st si le
    injection h with h
    injection h with h1 h2
    subst h2; subst h1
    refine VLe.a (xs := [.s r, .i .i64 ver, .l 2 n f, .i .i64 st, .i .i64 si, .i .i64 le]) (vs := [.s r, .i .i64 ver, listP enc2 2 (decL dec2 n f), .i .i64 st, .i .i64 si, .i .i64 le]) (.cons (.refl _) (.cons (.refl _) (.cons ?_ (.cons (.refl _) (.cons (.refl _) (.cons (.refl _) .nil))))))
    obtain ⟨e1, e2⟩ := hp
    unfold listP
    rw [e1]
    exact PLe.l fun e o he ho => PLe.of_eq (e2 e o he ho)
  · cases h
theorem lvB_iff {st le : Int} (h0 : 0 ≤ st) (h4 : st ≤ 4) : lvB st le = true ↔ ((st = 0 ∨ st = 1 ∨ st = 2) ∧ le = 0) ∨ (st = 3 ∧ 0 ≤ le ∧ le ≤ 16) ∨ (st = 4 ∧ 1 ≤ le ∧ le ≤ 16) := by
  have hc : st = 0 ∨ st = 1 ∨ st = 2 ∨ st = 3 ∨ st = 4 := by omega
  unfold lvB
  rw [Bool.and_eq_true, decide_eq_true_iff, decide_eq_true_iff]
  rcases hc with rfl | rfl | rfl | rfl | rfl
  · show (0 ≤ le ∧ le ≤ 0) ↔ _; omega
  · show (0 ≤ le ∧ le ≤ 0) ↔ _; omega
  · show (0 ≤ le ∧ le ≤ 0) ↔ _; omega
  · show (0 ≤ le ∧ le ≤ 16) ↔ _; omega
  · show (1 ≤ le ∧ le ≤ 16) ↔ _; omega
theorem alOK_iff (a : Al) : alOK a = true ↔ (nameB a.r = true ∧ validL (fun k => a.L.getD k default) a.L.length = true) ∧ 1 ≤ a.ver ∧ 0 ≤ a.si ∧ a.si ≤ 1048576 ∧ (((a.st = 0 ∨ a.st = 1 ∨ a.st = 2) ∧ a.le = 0) ∨ (a.st = 3 ∧ 0 ≤ a.le ∧ a.le ≤ 16) ∨ (a.st = 4 ∧ 1 ≤ a.le ∧ a.le ≤ 16)) := by
  unfold alOK alB
  simp only [Bool.and_eq_true, decide_eq_true_iff]
  constructor
  · rintro ⟨⟨⟨⟨⟨⟨⟨h1, h2⟩, h3⟩, h4⟩, h5⟩, h6⟩, h7⟩, h8⟩
    exact ⟨⟨h1, h3⟩, h2, h6, h7, (lvB_iff h4 h5).1 h8⟩
  · rintro ⟨⟨h1, h3⟩, h2, h6, h7, h8⟩
    have h4 : 0 ≤ a.st := by omega
    have h5 : a.st ≤ 4 := by omega
    exact ⟨⟨⟨⟨⟨⟨⟨h1, h2⟩, h3⟩, h4⟩, h5⟩, h6⟩, h7⟩, (lvB_iff h4 h5).2 h8⟩
theorem leaf_b {x y : Bool} (h : x = true ↔ y = true) : Leaf (VLe (V.c (C.p (PV.b x))) (bV y)) := ⟨VLe.of_eq (by rw [Bool.eq_iff_iff.2 h]; rfl)⟩
section
variable {G : Nat → Option Obj}
theorem extR1_sound : SoundExt Tryd.prog G extR1 := extOf_sound (by simp; exact ⟨okName, okLValid⟩)
set_option maxRecDepth 100000 in
theorem okRValid : ModOK Tryd.prog G 16 mRValid := by
  intro args p v hm hp h
  unfold mRValid at hm
  split at hm; rotate_left; · cases hm
  split at hm; rotate_left; · cases hm
  rename_i x _ q a hx
  obtain ⟨rfl, rfl⟩ := some_pair hm
  refine FnS.args (args' := [alV a]) ?_ (.cons (alOf_le hx hp) .nil)
  refine fn_S Tryd.func16 (by kernel_rfl) rfl ?_ h
  refine ExS.evH extR1_sound (tRV a) ?_
  have hi := alOK_iff a
  simp only [holds_bT, holds_rq, holds_leaf, kf_ret', dec2_row]
  generalize nameB a.r = B1 at hi
  generalize validL (fun k => a.L.getD k default) a.L.length = B2 at hi
  refine ⟨trivial, isL_row _ _ _, ?_⟩
  cases B1 <;> cases B2 <;> simp only [decide_eq_true_eq, decide_eq_false_iff_not, beq_iff_eq, beq_eq_false_iff_ne, Bool.not_true, Bool.not_false, reduceCtorEq, false_imp_iff, true_imp_iff, and_true, true_and, forall_const, Bool.true_eq_false, Bool.false_eq_true, false_and, and_false, iff_false] at hi ⊢
  all_goals (repeat' (first | apply And.intro | intro _))
  all_goals exact leaf_b (by first | (rw [hi]; simp only [decide_eq_true_eq, beq_iff_eq]; omega) | (rw [hi]; simp only [Bool.false_eq_true, false_iff]; omega) | simp [hi])
theorem extR2_sound : SoundExt Tryd.prog G extR2 := extOf_sound (by simp; exact okRValid)
set_option maxRecDepth 100000 in
theorem okRAt : ModOK Tryd.prog G 51 mRAt := by
  intro args p v hm hp h
  unfold mRAt at hm
  split at hm; rotate_left; · cases hm
  split at hm; rotate_left; · cases hm
  rename_i x tk _ q a hx
  obtain ⟨rfl, rfl⟩ := some_pair hm
  refine FnS.args (args' := [alV a, iV tk]) ?_ (.cons (alOf_le hx hp) (.cons (.refl _) .nil))
  refine fn_S Tryd.func51 (by kernel_rfl) rfl ?_ h
  refine ExS.evH extR2_sound (tRAt a tk) ?_
  simp only [holds_bT, holds_rq, holds_leaf, kf_ret', dec2_row]
  refine ⟨isL_row _ _ _, fun c1 => ⟨fun c2 => leaf_b ?_, fun c2 => leaf_b ?_⟩, fun c1 => leaf_b ?_⟩
  · have c1 : alOK a = true := c1
    unfold alVis; rw [c1, c2]; simp
  · have c1 : alOK a = true := c1
    unfold alVis; rw [c1, c2]; simp
  · have c1 : alOK a = false := c1
    unfold alVis; rw [c1]; simp
set_option maxRecDepth 100000 in
theorem okRWith : ModOK Tryd.prog G 52 mRWith := by
  intro args p v hm hp h
  unfold mRWith at hm
  split at hm; rotate_left; · cases hm
  split at hm; rotate_left; · cases hm
  rename_i x st si le _ q a hx
  obtain ⟨rfl, rfl⟩ := some_pair hm
  refine FnS.args (args' := [alV a, iV st, iV si, iV le]) ?_ (.cons (alOf_le hx hp) (.cons (.refl _) (.cons (.refl _) (.cons (.refl _) .nil))))
  refine fn_S Tryd.func52 (by kernel_rfl) rfl ?_ h
  refine ExS.evH ext0_sound (tRWith a st si le) ?_
  simp only [holds_done, kf_ret']
  exact VLe.refl _
theorem extR3_sound : SoundExt Tryd.prog G extR3 := extOf_sound (by simp; exact ⟨okRAt, okRWith⟩)
set_option maxRecDepth 100000 in
theorem okRStep : ModOK Tryd.prog G 19 mRStep := by
  intro args p v hm hp h
  unfold mRStep at hm
  split at hm; rotate_left; · cases hm
  split at hm; rotate_left; · cases hm
  rename_i x vd tk _ q a hx
  obtain ⟨rfl, rfl⟩ := some_pair hm
  refine FnS.args (args' := [alV a, iV vd, iV tk]) ?_ (.cons (alOf_le hx hp) (.cons (.refl _) (.cons (.refl _) .nil)))
  refine fn_S Tryd.func19 (by kernel_rfl) rfl ?_ h
  refine ExS.evH extR3_sound (tRStep a vd tk) ?_
  have key : ∀ (st' si' le' : Int) (b : Bool), stepD (alVis a tk) a.st a.si a.le vd tk = (st', si', le', b) → VLe (V.t [alV1 (alSet a st' si' le'), V1.c (C.p (PV.b b))]) (V.t [alV1 (alStep a vd tk).1, .c (.p (.b (alStep a vd tk).2))]) := by
    intro st' si' le' b hd
    unfold alStep
    simp only [hd]
    exact VLe.refl _
  have hvis : alVis (Al.mk a.r a.ver a.L a.st a.si a.le) tk = alVis a tk := rfl
  simp only [holds_bT, holds_rq, holds_leaf, kf_ret', dec2_row, hvis, beq_iff_eq, beq_eq_false_iff_ne, bne_iff_ne, bne_eq_false_iff_eq, Bool.not_eq_true', Bool.not_eq_false']
  repeat' (first | apply And.intro | intro _)
  all_goals first | exact (isL_row enc2 2 a.L).1 | exact (isL_row enc2 2 a.L).2 _ _ ‹_› ‹_› | exact ⟨key _ _ _ _ (by have hv : alVis a tk = false := ‹_›; unfold stepD; rw [if_pos hv])⟩ | exact ⟨key _ _ _ _ (by have hv : alVis a tk = true := ‹_›; unfold stepD; rw [hv, if_neg (by decide)]; (repeat' split) <;> first | rfl | (exfalso; clear key; omega))⟩
set_option maxRecDepth 100000 in
theorem okRAck : ModOK Tryd.prog G 31 mRAck := by
  intro args p v hm hp h
  unfold mRAck at hm
  split at hm; rotate_left; · cases hm
  split at hm; rotate_left; · cases hm
  rename_i x tk _ q a hx
  obtain ⟨rfl, rfl⟩ := some_pair hm
  refine FnS.args (args' := [alV a, iV tk]) ?_ (.cons (alOf_le hx hp) (.cons (.refl _) .nil))
  refine fn_S Tryd.func31 (by kernel_rfl) rfl ?_ h
  refine ExS.evH extR3_sound (tRAck a tk) ?_
  have zero : ∀ e : Int, alAck a tk = (al0, e) → VLe (V.t [V1.a [C.p (PV.s (ByteArray.mk #[])), C.p (PV.i IntKind.i64 0), C.p (PV.z (Value.slice none 0 0)), C.p (PV.i IntKind.i64 0), C.p (PV.i IntKind.i64 0), C.p (PV.i IntKind.i64 0)], V1.c (C.p (PV.i IntKind.i64 e))]) (V.t [alV1 (alAck a tk).1, .c (.p (.i .i64 (alAck a tk).2))]) := by
    intro e he
    rw [he]
    exact VLe.t (.cons (VLe.a (xs := [.s ⟨#[]⟩, .i .i64 0, .z (.slice none 0 0), .i .i64 0, .i .i64 0, .i .i64 0]) (vs := [.s ⟨#[]⟩, .i .i64 0, listP enc2 2 [], .i .i64 0, .i .i64 0, .i .i64 0]) (.cons (.refl _) (.cons (.refl _) (.cons (PLe.nil 2 _) (.cons (.refl _) (.cons (.refl _) (.cons (.refl _) .nil))))))) (.cons (VLe.refl _) .nil))
  have good : alAck a tk = (alSet a 3 tk a.le, 0) → VLe (V.t [alV1 (alSet a 3 tk a.le), V1.c (C.p (PV.i IntKind.i64 0))]) (V.t [alV1 (alAck a tk).1, .c (.p (.i .i64 (alAck a tk).2))]) := fun he => by rw [he]; exact VLe.refl _
  have hvis : alVis (Al.mk a.r a.ver a.L a.st a.si a.le) tk = alVis a tk := rfl
  simp only [holds_bT, holds_rq, holds_leaf, kf_ret', dec2_row, hvis, beq_iff_eq, beq_eq_false_iff_ne, Bool.not_eq_true', Bool.not_eq_false']
  repeat' (first | apply And.intro | intro _)
  all_goals first | exact (isL_row enc2 2 a.L).1 | exact (isL_row enc2 2 a.L).2 _ _ ‹_› ‹_› | exact ⟨zero _ (by simp [alAck, *])⟩ | exact ⟨good (by simp [alAck, *])⟩
set_option maxRecDepth 100000 in
theorem okREsc : ModOK Tryd.prog G 22 mREsc := by
  intro args p v hm hp h
  unfold mREsc at hm
  split at hm; rotate_left; · cases hm
  split at hm; rotate_left; · cases hm
  rename_i x tk dl lv _ q a hx
  obtain ⟨rfl, rfl⟩ := some_pair hm
  obtain ⟨hq, b1, b2, b3, b4, b5⟩ := hp
  simp only [inR] at b1 b2 b3 b4 b5
  refine FnS.args (args' := [alV a, iV tk, iV dl, iV lv]) ?_ (.cons (alOf_le hx hq) (.cons (.refl _) (.cons (.refl _) (.cons (.refl _) .nil))))
  refine fn_S Tryd.func22 (by kernel_rfl) rfl ?_ h
  refine ExS.evH extR3_sound (tREsc a tk dl lv) ?_
  have key : ∀ (st' si' le' : Int) (b : Bool), escD (alVis a tk) a.st a.si a.le tk dl lv = (st', si', le', b) → VLe (V.t [alV1 (alSet a st' si' le'), V1.c (C.p (PV.b b))]) (V.t [alV1 (alEsc a tk dl lv).1, .c (.p (.b (alEsc a tk dl lv).2))]) := by
    intro st' si' le' b hd
    unfold alEsc
    simp only [hd]
    exact VLe.refl _
  have hvis : alVis (Al.mk a.r a.ver a.L a.st a.si a.le) tk = alVis a tk := rfl
  have hsi : alVis a tk = true → 0 ≤ a.si ∧ a.si ≤ tk ∧ tk ≤ 1048576 ∧ a.le ≤ 16 := by
    intro hv
    unfold alVis at hv
    simp only [Bool.and_eq_true, decide_eq_true_eq, alOK_iff] at hv
    omega
  simp only [holds_bT, holds_rq, holds_leaf, kf_ret', dec2_row, hvis, beq_iff_eq, beq_eq_false_iff_ne, bne_iff_ne, bne_eq_false_iff_eq, Bool.not_eq_true', Bool.not_eq_false', decide_eq_true_eq, decide_eq_false_iff_not, inR]
  repeat' (first | apply And.intro | intro _)
  all_goals first | exact (isL_row enc2 2 a.L).1 | exact (isL_row enc2 2 a.L).2 _ _ ‹_› ‹_› | (have := hsi ‹_›; clear key hsi; omega) | exact ⟨key _ _ _ _ (by have hv : alVis a tk = false := ‹_›; unfold escD; rw [if_pos (.inl hv)])⟩ | exact ⟨key _ _ _ _ (by have hv : alVis a tk = true := ‹_›; unfold escD; rw [hv]; (repeat' split) <;> first | rfl | (exfalso; simp only [Bool.true_eq_false, false_or, not_or, reduceCtorEq] at *; clear key hsi; omega))⟩
theorem extR4_sound : SoundExt Tryd.prog G extR4 := extOf_sound (by simp; exact okLSame)
set_option maxRecDepth 100000 in
theorem okRSame : ModOK Tryd.prog G 20 mRSame := by
  intro args p v hm hp h
  unfold mRSame at hm
  split at hm; rotate_left; · cases hm
  split at hm; rotate_left; · cases hm
  rename_i x y _ _ _ q a q2 b hx hy
  obtain ⟨rfl, rfl⟩ := some_pair hm
  obtain ⟨⟨h1, h2⟩, h3⟩ := hp
  refine FnS.args (args' := [alV a, alV b]) ?_ (.cons (alOf_le hx h1) (.cons (alOf_le hy h2) .nil))
  refine fn_S Tryd.func20 (by kernel_rfl) rfl ?_ h
  refine ExS.evH extR4_sound (tRSame a b) ?_
  simp only [holds_bT, holds_rq, holds_leaf, kf_ret', dec2_row, beq_bytes', decide_eq_true_eq, decide_eq_false_iff_not]
  refine ⟨⟨⟨isL_row _ _ _, isL_row _ _ _⟩, .inr h3⟩, ?_⟩
  repeat' (first | apply And.intro | intro _)
  all_goals exact leaf_b (by simp [alEq, *])
end
end Go.AE
