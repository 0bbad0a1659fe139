/- Pages: X5, X6, X7, X8, X9, X10, X11, as far as they are used here. -/
import Derived.Test.YtecilaemjajcnaaGreatDoorRRj
import Derived.Test.YtecilaemjajcnaaGreatDoorRRe
import Derived.Test.YtecilaemjajcnaaGreatDoorRRi
namespace Go.AE
set_option linter.unusedVariables false
set_option linter.unusedSimpArgs false
open Go.Proofs Go.Proofs.YtecilaemjajcnaaGreatDoor
def kidC (e : Nat → Nat → PV) (i : Nat) : List PV := [e i 0, e i 1, e i 2, e i 3, e i 4, e i 5, e i 6, e i 7, e i 8, e i 9, e i 10]
def ExOK : Nat → List PV → Prop
  | 0, _ => False
  | t + 1, cs => ∃ (kd fu wi off k n d : Int) (nm : ByteArray) (f g : Nat → Nat → PV) (c : Nat) (e : Nat → Nat → PV), cs = [.i .i64 kd, .i .i64 fu, .i .i64 wi, .i .i64 off, .i .i64 k, .i .i64 n, .i .i64 d, .s nm, .l 3 0 f, .l 1 0 g, .l 11 c e] ∧ inR .i64 n ∧ inR .i64 d ∧ c ≤ 1000 ∧ ∀ i, i < c → ExOK t (kidC e i)
def kidsN : PV → Nat
  | .l _ c _ => c
  | _ => 0
def kidsF : PV → Nat → Nat → PV
  | .l _ _ e => e
  | _ => fun _ _ => .b false
def canon (o : Nat) (q : PV) : PV := match o with
  | 0 => .i .i64 (intOfP q)
  | 1 => .i .i64 (intOfP q)
  | 2 => .i .i64 (intOfP q)
  | 3 => .i .i64 (intOfP q)
  | 4 => .i .i64 (intOfP q)
  | 5 => .i .i64 (intOfP q)
  | 6 => .i .i64 (intOfP q)
  | 7 => .s (strOf q)
  | 8 => .l 3 (kidsN q) (kidsF q)
  | 9 => .l 1 (kidsN q) (kidsF q)
  | 10 => .l 11 (kidsN q) (kidsF q)
  | _ => q
def canonE (e : Nat → Nat → PV) (i o : Nat) : PV := canon o (e i o)
def fstZ (F : Nat → Int) : Nat → Nat → Int
  | _, 0 => 0
  | i, m + 1 => if F i = 0 then fstZ F (i + 1) m else F i
def maxZ (F : Nat → Int) : Nat → Int
  | 0 => 0
  | m + 1 => if F m < maxZ F m then maxZ F m else F m
def sumZ (F : Nat → Int) : Nat → Int
  | 0 => 0
  | m + 1 => sumZ F m + F m
def chkF : Nat → List PV → Int
  | t + 1, [q0, q1, q2, q3, q4, q5, q6, q7, q8, q9, q10] =>
    if shapedB (intOfP q0) (intOfP q1) (intOfP q4) (intOfP q5) (intOfP q6) (noSelB (intOfP q2) (intOfP q3) (strOf q7) 0) 0 (kidsN q10) = false then 1
    else if namedB (intOfP q0) (strOf q7) = false then 8
    else if rangedB (intOfP q0) (intOfP q1) (intOfP q2) (intOfP q3) (intOfP q4) true = false then 5
    else fstZ (fun i => chkF t (kidC (kidsF q10) i)) 0 (kidsN q10)
  | _, _ => 0
def depE : Nat → List PV → Int
  | t + 1, [_, _, _, _, _, _, _, _, _, _, q10] => maxZ (fun i => depE t (kidC (kidsF q10) i)) (kidsN q10) + 1
  | _, _ => 0
def nodE : Nat → List PV → Int
  | t + 1, [_, _, _, _, _, _, _, _, _, _, q10] => 1 + sumZ (fun i => nodE t (kidC (kidsF q10) i)) (kidsN q10)
  | _, _ => 0
def exMod (A : Nat → List PV → Prop) (F : Nat → List PV → Int) (t : Nat) : Mod
  | [.a [.p q0, .p q1, .p q2, .p q3, .p q4, .p q5, .p q6, .p q7, .p q8, .p q9, .p q10]] => some (A t [q0, q1, q2, q3, q4, q5, q6, q7, q8, q9, q10], iV (F t [q0, q1, q2, q3, q4, q5, q6, q7, q8, q9, q10]))
  | _ => none
def extCk (t : Nat) : Ext := extOf [(38, mShaped), (39, mNamed), (40, mRanged), (27, exMod ExOK chkF t)]
def extVa (t : Nat) : Ext := extOf [(53, mShaped), (54, mNamed), (55, mWithin), (43, exMod ExOK chkF t)]
def extDp (t : Nat) : Ext := extOf [(41, exMod ExOK depE t)]
theorem tCk1 (kd fu wi off k n d : Int) (nm : ByteArray) (f : Nat → Nat → PV) (g : Nat → Nat → PV) (c : Nat) (e : Nat → Nat → PV) (t : Nat) : exTs (extCk t) (takeL 10 (pcs Tryz.prog Tryz.f27)) (st0 Tryz.f27 [.a [.p (.i .i64 kd), .p (.i .i64 fu), .p (.i .i64 wi), .p (.i .i64 off), .p (.i .i64 k), .p (.i .i64 n), .p (.i .i64 d), .p (.s nm), .p (.l 3 0 f), .p (.l 1 0 g), .p (.l 11 c e)]]) (endG (msk 38 [26, 27, 28]) (resOf Tryz.prog Tryz.f27)) = Tr.rq (inR IntKind.i64 n ∧ inR IntKind.i64 d)
 (bT (!shapedB kd fu k n d (noSelB wi off nm 0) 0 c) (.done .ret (St.mk [V.c (C.p (PV.i IntKind.i64 1))] []))
 (.rq (0 = 0 ∧ 0 = 0)
 (bT (!namedB kd nm) (.done .ret (St.mk [V.c (C.p (PV.i IntKind.i64 8))] []))
 (.rq True
 (bT (!rangedB kd fu wi off k true) (.done .ret (St.mk [V.c (C.p (PV.i IntKind.i64 5))] []))
 (.done .normal
 (cst 38 [(26, .c (.p (.l 11 c e))), (27, .c (.p (.i .i64 (↑c : Int)))), (28, .c (.p (.i .i64 0)))] []))))))) := by kernel_rfl
theorem tCk2 (c : Nat) (e : Nat → Nat → PV) (t i : Nat) : exTs (extCk t) (lpB (pcs Tryz.prog Tryz.f27) 10) (cst 38 [(26, .c (.p (.l 11 c (canonE e)))), (27, iV (c : Nat)), (28, iV (i : Nat))] []) (endG (msk 38 [26, 27, 28]) (resOf Tryz.prog Tryz.f27)) = bT (decide ((↑i : Int) < (↑c : Int)))
 (.rq (0 ≤ (↑i : Int) ∧ (↑i : Int) < (↑c : Int))
 (.rq
 (ExOK t
 [canonE e (↑i : Int).toNat 0, canonE e (↑i : Int).toNat 1, canonE e (↑i : Int).toNat 2, canonE e (↑i : Int).toNat 3, canonE e (↑i : Int).toNat 4, canonE e (↑i : Int).toNat 5,
 canonE e (↑i : Int).toNat 6, canonE e (↑i : Int).toNat 7, canonE e (↑i : Int).toNat 8, canonE e (↑i : Int).toNat 9, canonE e (↑i : Int).toNat 10])
 (bT
 (chkF t
 [canonE e (↑i : Int).toNat 0, canonE e (↑i : Int).toNat 1, canonE e (↑i : Int).toNat 2, canonE e (↑i : Int).toNat 3, canonE e (↑i : Int).toNat 4, canonE e (↑i : Int).toNat 5,
 canonE e (↑i : Int).toNat 6, canonE e (↑i : Int).toNat 7, canonE e (↑i : Int).toNat 8, canonE e (↑i : Int).toNat 9, canonE e (↑i : Int).toNat 10] !=
 0)
 (.done .ret
 (St.mk [V.c (C.p (PV.i IntKind.i64 (chkF t [canonE e (↑i : Int).toNat 0, canonE e (↑i : Int).toNat (0 + 1), canonE e (↑i : Int).toNat (0 + 1 + 1), canonE e (↑i : Int).toNat (0 + 1 + 1 + 1), canonE e (↑i : Int).toNat (0 + 1 + 1 + 1 + 1), canonE e (↑i : Int).toNat (0 + 1 + 1 + 1 + 1 + 1), canonE e (↑i : Int).toNat (0 + 1 + 1 + 1 + 1 + 1 + 1), canonE e (↑i : Int).toNat (0 + 1 + 1 + 1 + 1 + 1 + 1 + 1), canonE e (↑i : Int).toNat (0 + 1 + 1 + 1 + 1 + 1 + 1 + 1 + 1), canonE e (↑i : Int).toNat (0 + 1 + 1 + 1 + 1 + 1 + 1 + 1 + 1 + 1), canonE e (↑i : Int).toNat (0 + 1 + 1 + 1 + 1 + 1 + 1 + 1 + 1 + 1 + 1)])))] []))
 (.rq (inR IntKind.i64 ((↑i : Int) + 1))
 (.done .normal
 (cst 38 [(26, .c (.p (.l 11 c (canonE e)))), (27, .c (.p (.i .i64 (↑c : Int)))), (28, .c (.p (.i .i64 ((↑i : Int) + 1))))] []))))))
 (.done (.exit 0)
 (cst 38 [(26, .c (.p (.l 11 c (canonE e)))), (27, .c (.p (.i .i64 (↑c : Int)))), (28, .c (.p (.i .i64 (↑i : Int))))] [])) := by kernel_rfl
theorem tCk3 (c : Nat) (e : Nat → Nat → PV) (i : Nat) : exTs ext0 (dropL 11 (pcs Tryz.prog Tryz.f27)) (cst 38 [(26, .c (.p (.l 11 c (canonE e)))), (27, iV (c : Nat)), (28, iV (i : Nat))] []) (endG [] (resOf Tryz.prog Tryz.f27)) = Tr.done X.ret (St.mk [V.c (C.p (PV.i IntKind.i64 0))] []) := by kernel_rfl
theorem tVa1 (kd fu wi off k n d : Int) (nm : ByteArray) (f : Nat → Nat → PV) (g : Nat → Nat → PV) (c : Nat) (e : Nat → Nat → PV) (t : Nat) : exTs (extVa t) (takeL 10 (pcs Tryz.prog Tryz.f43)) (st0 Tryz.f43 [.a [.p (.i .i64 kd), .p (.i .i64 fu), .p (.i .i64 wi), .p (.i .i64 off), .p (.i .i64 k), .p (.i .i64 n), .p (.i .i64 d), .p (.s nm), .p (.l 3 0 f), .p (.l 1 0 g), .p (.l 11 c e)]]) (endG (msk 40 [1, 3]) (resOf Tryz.prog Tryz.f43)) = Tr.rq (inR IntKind.i64 n ∧ inR IntKind.i64 d)
 (bT (!shapedB kd fu k n d (noSelB wi off nm 0) 0 c) (.done .ret (St.mk [V.c (C.p (PV.i IntKind.i64 1))] []))
 (.rq (0 = 0 ∧ 0 = 0)
 (bT (!namedB kd nm) (.done .ret (St.mk [V.c (C.p (PV.i IntKind.i64 8))] []))
 (.rq True
 (bT (!rangedB kd fu wi off k (decide (k = 0))) (.done .ret (St.mk [V.c (C.p (PV.i IntKind.i64 5))] []))
 (.done .normal
 (cst 40 [(1, .c (.ptr 0 0)), (3, .c (.p (.i .i64 0)))] [.cells 32 [.p (.i .i64 kd), .p (.i .i64 fu), .p (.i .i64 wi), .p (.i .i64 off), .p (.i .i64 k), .p (.i .i64 n), .p (.i .i64 d), .p (.s nm), .p (.l 3 0 f), .p (.l 1 0 g), .p (.l 11 c e)]]))))))) := by kernel_rfl
theorem tVa2 (kd fu wi off k n d : Int) (nm : ByteArray) (f : Nat → Nat → PV) (g : Nat → Nat → PV) (c : Nat) (e : Nat → Nat → PV) (t i : Nat) : exTs (extVa t) (lpB (pcs Tryz.prog Tryz.f43) 10) (cst 40 [(1, .c (.ptr 0 0)), (3, iV (i : Nat))] [.cells 32 [.p (.i .i64 kd), .p (.i .i64 fu), .p (.i .i64 wi), .p (.i .i64 off), .p (.i .i64 k), .p (.i .i64 n), .p (.i .i64 d), .p (.s nm), .p (.l 3 0 f), .p (.l 1 0 g), .p (.l 11 c e)]]) (endG (msk 40 [1, 3]) (resOf Tryz.prog Tryz.f43)) = bT (decide ((↑i : Int) < (↑c : Int)))
 (.rq (0 ≤ (↑i : Int) ∧ (↑i : Int) < (↑c : Int))
 (.rq
 (ExOK t
 [e (↑i : Int).toNat 0, e (↑i : Int).toNat 1, e (↑i : Int).toNat 2, e (↑i : Int).toNat 3, e (↑i : Int).toNat 4, e (↑i : Int).toNat 5, e (↑i : Int).toNat 6, e (↑i : Int).toNat 7,
 e (↑i : Int).toNat 8, e (↑i : Int).toNat 9, e (↑i : Int).toNat 10])
 (bT
 (chkF t
 [e (↑i : Int).toNat 0, e (↑i : Int).toNat 1, e (↑i : Int).toNat 2, e (↑i : Int).toNat 3, e (↑i : Int).toNat 4, e (↑i : Int).toNat 5, e (↑i : Int).toNat 6, e (↑i : Int).toNat 7,
 e (↑i : Int).toNat 8, e (↑i : Int).toNat 9, e (↑i : Int).toNat 10] !=
 0)
 (.done .ret
 (St.mk [V.c (C.p (PV.i IntKind.i64 (chkF t [e (↑i : Int).toNat 0, e (↑i : Int).toNat (0 + 1), e (↑i : Int).toNat (0 + 1 + 1), e (↑i : Int).toNat (0 + 1 + 1 + 1), e (↑i : Int).toNat (0 + 1 + 1 + 1 + 1), e (↑i : Int).toNat (0 + 1 + 1 + 1 + 1 + 1), e (↑i : Int).toNat (0 + 1 + 1 + 1 + 1 + 1 + 1), e (↑i : Int).toNat (0 + 1 + 1 + 1 + 1 + 1 + 1 + 1), e (↑i : Int).toNat (0 + 1 + 1 + 1 + 1 + 1 + 1 + 1 + 1), e (↑i : Int).toNat (0 + 1 + 1 + 1 + 1 + 1 + 1 + 1 + 1 + 1), e (↑i : Int).toNat (0 + 1 + 1 + 1 + 1 + 1 + 1 + 1 + 1 + 1 + 1)])))] []))
 (.rq (inR IntKind.i64 ((↑i : Int) + 1))
 (.done .normal
 (cst 40 [(1, .c (.ptr 0 0)), (3, .c (.p (.i .i64 ((↑i : Int) + 1))))] [.cells 32 [.p (.i .i64 kd), .p (.i .i64 fu), .p (.i .i64 wi), .p (.i .i64 off), .p (.i .i64 k), .p (.i .i64 n), .p (.i .i64 d), .p (.s nm), .p (.l 3 0 f), .p (.l 1 0 g), .p (.l 11 c e)]]))))))
 (.done (.exit 0)
 (cst 40 [(1, .c (.ptr 0 0)), (3, .c (.p (.i .i64 (↑i : Int))))] [.cells 32 [.p (.i .i64 kd), .p (.i .i64 fu), .p (.i .i64 wi), .p (.i .i64 off), .p (.i .i64 k), .p (.i .i64 n), .p (.i .i64 d), .p (.s nm), .p (.l 3 0 f), .p (.l 1 0 g), .p (.l 11 c e)]])) := by kernel_rfl
theorem tVa3 (kd fu wi off k n d : Int) (nm : ByteArray) (f : Nat → Nat → PV) (g : Nat → Nat → PV) (c : Nat) (e : Nat → Nat → PV) (i : Nat) : exTs ext0 (dropL 11 (pcs Tryz.prog Tryz.f43)) (cst 40 [(1, .c (.ptr 0 0)), (3, iV (i : Nat))] [.cells 32 [.p (.i .i64 kd), .p (.i .i64 fu), .p (.i .i64 wi), .p (.i .i64 off), .p (.i .i64 k), .p (.i .i64 n), .p (.i .i64 d), .p (.s nm), .p (.l 3 0 f), .p (.l 1 0 g), .p (.l 11 c e)]]) (endG [] (resOf Tryz.prog Tryz.f43)) = Tr.done X.ret (St.mk [V.c (C.p (PV.i IntKind.i64 0))] []) := by kernel_rfl
theorem tDp1 (kd fu wi off k n d : Int) (nm : ByteArray) (f : Nat → Nat → PV) (g : Nat → Nat → PV) (c : Nat) (e : Nat → Nat → PV) : exTs ext0 (takeL 3 (pcs Tryz.prog Tryz.f41)) (st0 Tryz.f41 [.a [.p (.i .i64 kd), .p (.i .i64 fu), .p (.i .i64 wi), .p (.i .i64 off), .p (.i .i64 k), .p (.i .i64 n), .p (.i .i64 d), .p (.s nm), .p (.l 3 0 f), .p (.l 1 0 g), .p (.l 11 c e)]]) (endG (msk 22 [1, 3, 4]) (resOf Tryz.prog Tryz.f41)) = Tr.done X.normal
 (cst 22 [(1, .c (.ptr 0 0)), (3, .c (.p (.i .i64 0))), (4, .c (.p (.i .i64 0)))] [.cells 32 [.p (.i .i64 kd), .p (.i .i64 fu), .p (.i .i64 wi), .p (.i .i64 off), .p (.i .i64 k), .p (.i .i64 n), .p (.i .i64 d), .p (.s nm), .p (.l 3 0 f), .p (.l 1 0 g), .p (.l 11 c e)]]) := by kernel_rfl
theorem tDp2 (kd fu wi off k n d : Int) (nm : ByteArray) (f : Nat → Nat → PV) (g : Nat → Nat → PV) (c : Nat) (e : Nat → Nat → PV) (t i : Nat) (x : Int) : exTs (extDp t) (lpB (pcs Tryz.prog Tryz.f41) 3) (cst 22 [(1, .c (.ptr 0 0)), (3, iV (x : Int)), (4, iV (i : Nat))] [.cells 32 [.p (.i .i64 kd), .p (.i .i64 fu), .p (.i .i64 wi), .p (.i .i64 off), .p (.i .i64 k), .p (.i .i64 n), .p (.i .i64 d), .p (.s nm), .p (.l 3 0 f), .p (.l 1 0 g), .p (.l 11 c e)]]) (endG (msk 22 [1, 3, 4]) (resOf Tryz.prog Tryz.f41)) = bT (decide ((↑i : Int) < (↑c : Int)))
 (.rq (0 ≤ (↑i : Int) ∧ (↑i : Int) < (↑c : Int))
 (.rq
 (ExOK t
 [e (↑i : Int).toNat 0, e (↑i : Int).toNat 1, e (↑i : Int).toNat 2, e (↑i : Int).toNat 3, e (↑i : Int).toNat 4, e (↑i : Int).toNat 5, e (↑i : Int).toNat 6, e (↑i : Int).toNat 7,
 e (↑i : Int).toNat 8, e (↑i : Int).toNat 9, e (↑i : Int).toNat 10])
 (.rq (inR IntKind.i64 ((↑i : Int) + 1))
 (.done .normal
 (cst 22 [(1, .c (.ptr 0 0)), (3, .c (.p (.i .i64 (if x < depE t [e (↑i : Int).toNat 0, e (↑i : Int).toNat (0 + 1), e (↑i : Int).toNat (0 + 1 + 1), e (↑i : Int).toNat (0 + 1 + 1 + 1), e (↑i : Int).toNat (0 + 1 + 1 + 1 + 1), e (↑i : Int).toNat (0 + 1 + 1 + 1 + 1 + 1), e (↑i : Int).toNat (0 + 1 + 1 + 1 + 1 + 1 + 1), e (↑i : Int).toNat (0 + 1 + 1 + 1 + 1 + 1 + 1 + 1), e (↑i : Int).toNat (0 + 1 + 1 + 1 + 1 + 1 + 1 + 1 + 1), e (↑i : Int).toNat (0 + 1 + 1 + 1 + 1 + 1 + 1 + 1 + 1 + 1), e (↑i : Int).toNat (0 + 1 + 1 + 1 + 1 + 1 + 1 + 1 + 1 + 1 + 1)] then depE t [e (↑i : Int).toNat 0, e (↑i : Int).toNat (0 + 1), e (↑i : Int).toNat (0 + 1 + 1), e (↑i : Int).toNat (0 + 1 + 1 + 1), e (↑i : Int).toNat (0 + 1 + 1 + 1 + 1), e (↑i : Int).toNat (0 + 1 + 1 + 1 + 1 + 1), e (↑i : Int).toNat (0 + 1 + 1 + 1 + 1 + 1 + 1), e (↑i : Int).toNat (0 + 1 + 1 + 1 + 1 + 1 + 1 + 1), e (↑i : Int).toNat (0 + 1 + 1 + 1 + 1 + 1 + 1 + 1 + 1), e (↑i : Int).toNat (0 + 1 + 1 + 1 + 1 + 1 + 1 + 1 + 1 + 1), e (↑i : Int).toNat (0 + 1 + 1 + 1 + 1 + 1 + 1 + 1 + 1 + 1 + 1)] else x)))), (4, .c (.p (.i .i64 ((↑i : Int) + 1))))] [.cells 32 [.p (.i .i64 kd), .p (.i .i64 fu), .p (.i .i64 wi), .p (.i .i64 off), .p (.i .i64 k), .p (.i .i64 n), .p (.i .i64 d), .p (.s nm), .p (.l 3 0 f), .p (.l 1 0 g), .p (.l 11 c e)]])))))
 (.done (.exit 0)
 (cst 22 [(1, .c (.ptr 0 0)), (3, .c (.p (.i .i64 x))), (4, .c (.p (.i .i64 (↑i : Int))))] [.cells 32 [.p (.i .i64 kd), .p (.i .i64 fu), .p (.i .i64 wi), .p (.i .i64 off), .p (.i .i64 k), .p (.i .i64 n), .p (.i .i64 d), .p (.s nm), .p (.l 3 0 f), .p (.l 1 0 g), .p (.l 11 c e)]])) := by kernel_rfl
theorem tDp3 (kd fu wi off k n d : Int) (nm : ByteArray) (f : Nat → Nat → PV) (g : Nat → Nat → PV) (c : Nat) (e : Nat → Nat → PV) (i : Nat) (x : Int) : exTs ext0 (dropL 4 (pcs Tryz.prog Tryz.f41)) (cst 22 [(1, .c (.ptr 0 0)), (3, iV (x : Int)), (4, iV (i : Nat))] [.cells 32 [.p (.i .i64 kd), .p (.i .i64 fu), .p (.i .i64 wi), .p (.i .i64 off), .p (.i .i64 k), .p (.i .i64 n), .p (.i .i64 d), .p (.s nm), .p (.l 3 0 f), .p (.l 1 0 g), .p (.l 11 c e)]]) (endG [] (resOf Tryz.prog Tryz.f41)) = Tr.rq (inR IntKind.i64 (x + 1)) (.done .ret (St.mk [V.c (C.p (PV.i IntKind.i64 (x + 1)))] [])) := by kernel_rfl
def nodA (t : Nat) (cs : List PV) : Prop := ExOK t cs ∧ nodE t cs ≤ 1000000
def extNo (t : Nat) : Ext := extOf [(42, exMod nodA nodE t)]
theorem tNo1 (kd fu wi off k n d : Int) (nm : ByteArray) (f : Nat → Nat → PV) (g : Nat → Nat → PV) (c : Nat) (e : Nat → Nat → PV) : exTs ext0 (takeL 3 (pcs Tryz.prog Tryz.f42)) (st0 Tryz.f42 [.a [.p (.i .i64 kd), .p (.i .i64 fu), .p (.i .i64 wi), .p (.i .i64 off), .p (.i .i64 k), .p (.i .i64 n), .p (.i .i64 d), .p (.s nm), .p (.l 3 0 f), .p (.l 1 0 g), .p (.l 11 c e)]]) (endG (msk 21 [1, 3, 4]) (resOf Tryz.prog Tryz.f42)) = Tr.done X.normal
 (cst 21 [(1, .c (.ptr 0 0)), (3, .c (.p (.i .i64 1))), (4, .c (.p (.i .i64 0)))] [.cells 32 [.p (.i .i64 kd), .p (.i .i64 fu), .p (.i .i64 wi), .p (.i .i64 off), .p (.i .i64 k), .p (.i .i64 n), .p (.i .i64 d), .p (.s nm), .p (.l 3 0 f), .p (.l 1 0 g), .p (.l 11 c e)]]) := by kernel_rfl
theorem tNo2 (kd fu wi off k n d : Int) (nm : ByteArray) (f : Nat → Nat → PV) (g : Nat → Nat → PV) (c : Nat) (e : Nat → Nat → PV) (t i : Nat) (x : Int) : exTs (extNo t) (lpB (pcs Tryz.prog Tryz.f42) 3) (cst 21 [(1, .c (.ptr 0 0)), (3, iV (x : Int)), (4, iV (i : Nat))] [.cells 32 [.p (.i .i64 kd), .p (.i .i64 fu), .p (.i .i64 wi), .p (.i .i64 off), .p (.i .i64 k), .p (.i .i64 n), .p (.i .i64 d), .p (.s nm), .p (.l 3 0 f), .p (.l 1 0 g), .p (.l 11 c e)]]) (endG (msk 21 [1, 3, 4]) (resOf Tryz.prog Tryz.f42)) = bT (decide ((↑i : Int) < (↑c : Int)))
 (.rq (0 ≤ (↑i : Int) ∧ (↑i : Int) < (↑c : Int))
 (.rq
 (nodA t
 [e (↑i : Int).toNat 0, e (↑i : Int).toNat 1, e (↑i : Int).toNat 2, e (↑i : Int).toNat 3, e (↑i : Int).toNat 4, e (↑i : Int).toNat 5, e (↑i : Int).toNat 6, e (↑i : Int).toNat 7,
 e (↑i : Int).toNat 8, e (↑i : Int).toNat 9, e (↑i : Int).toNat 10])
 (.rq
 (inR IntKind.i64
 (x +
 nodE t
 [e (↑i : Int).toNat 0, e (↑i : Int).toNat 1, e (↑i : Int).toNat 2, e (↑i : Int).toNat 3, e (↑i : Int).toNat 4, e (↑i : Int).toNat 5, e (↑i : Int).toNat 6, e (↑i : Int).toNat 7,
 e (↑i : Int).toNat 8, e (↑i : Int).toNat 9, e (↑i : Int).toNat 10]))
 (.rq (inR IntKind.i64 ((↑i : Int) + 1))
 (.done .normal
 (cst 21 [(1, .c (.ptr 0 0)), (3, .c (.p (.i .i64 (x + nodE t [e (↑i : Int).toNat 0, e (↑i : Int).toNat (0 + 1), e (↑i : Int).toNat (0 + 1 + 1), e (↑i : Int).toNat (0 + 1 + 1 + 1), e (↑i : Int).toNat (0 + 1 + 1 + 1 + 1), e (↑i : Int).toNat (0 + 1 + 1 + 1 + 1 + 1), e (↑i : Int).toNat (0 + 1 + 1 + 1 + 1 + 1 + 1), e (↑i : Int).toNat (0 + 1 + 1 + 1 + 1 + 1 + 1 + 1), e (↑i : Int).toNat (0 + 1 + 1 + 1 + 1 + 1 + 1 + 1 + 1), e (↑i : Int).toNat (0 + 1 + 1 + 1 + 1 + 1 + 1 + 1 + 1 + 1), e (↑i : Int).toNat (0 + 1 + 1 + 1 + 1 + 1 + 1 + 1 + 1 + 1 + 1)])))), (4, .c (.p (.i .i64 ((↑i : Int) + 1))))] [.cells 32 [.p (.i .i64 kd), .p (.i .i64 fu), .p (.i .i64 wi), .p (.i .i64 off), .p (.i .i64 k), .p (.i .i64 n), .p (.i .i64 d), .p (.s nm), .p (.l 3 0 f), .p (.l 1 0 g), .p (.l 11 c e)]]))))))
 (.done (.exit 0)
 (cst 21 [(1, .c (.ptr 0 0)), (3, .c (.p (.i .i64 x))), (4, .c (.p (.i .i64 (↑i : Int))))] [.cells 32 [.p (.i .i64 kd), .p (.i .i64 fu), .p (.i .i64 wi), .p (.i .i64 off), .p (.i .i64 k), .p (.i .i64 n), .p (.i .i64 d), .p (.s nm), .p (.l 3 0 f), .p (.l 1 0 g), .p (.l 11 c e)]])) := by kernel_rfl
theorem tNo3 (kd fu wi off k n d : Int) (nm : ByteArray) (f : Nat → Nat → PV) (g : Nat → Nat → PV) (c : Nat) (e : Nat → Nat → PV) (i : Nat) (x : Int) : exTs ext0 (dropL 4 (pcs Tryz.prog Tryz.f42)) (cst 21 [(1, .c (.ptr 0 0)), (3, iV (x : Int)), (4, iV (i : Nat))] [.cells 32 [.p (.i .i64 kd), .p (.i .i64 fu), .p (.i .i64 wi), .p (.i .i64 off), .p (.i .i64 k), .p (.i .i64 n), .p (.i .i64 d), .p (.s nm), .p (.l 3 0 f), .p (.l 1 0 g), .p (.l 11 c e)]]) (endG [] (resOf Tryz.prog Tryz.f42)) = Tr.done X.ret (St.mk [V.c (C.p (PV.i IntKind.i64 x))] []) := by kernel_rfl
theorem canon_id {t : Nat} {e : Nat → Nat → PV} {i : Nat} (h : ExOK t (kidC e i)) {o : Nat} (ho : o < 11) : canonE e i o = e i o := by
  cases t with
  | zero => exact h.elim
  | succ t =>
    obtain ⟨kd, fu, wi, off, k, n, d, nm, f, g, c, e2, hcs, -⟩ := h
    unfold kidC at hcs
    simp only [List.cons.injEq, and_true] at hcs
    obtain ⟨a0, a1, a2, a3, a4, a5, a6, a7, a8, a9, a10⟩ := hcs
    match o, ho with
    | 0, _ => show canon 0 (e i 0) = _; rw [a0]; rfl
    | 1, _ => show canon 1 (e i 1) = _; rw [a1]; rfl
    | 2, _ => show canon 2 (e i 2) = _; rw [a2]; rfl
    | 3, _ => show canon 3 (e i 3) = _; rw [a3]; rfl
    | 4, _ => show canon 4 (e i 4) = _; rw [a4]; rfl
    | 5, _ => show canon 5 (e i 5) = _; rw [a5]; rfl
    | 6, _ => show canon 6 (e i 6) = _; rw [a6]; rfl
    | 7, _ => show canon 7 (e i 7) = _; rw [a7]; rfl
    | 8, _ => show canon 8 (e i 8) = _; rw [a8]; rfl
    | 9, _ => show canon 9 (e i 9) = _; rw [a9]; rfl
    | 10, _ => show canon 10 (e i 10) = _; rw [a10]; rfl
theorem fstZ_step (F : Nat → Int) {i c : Nat} (h : i < c) : fstZ F i (c - i) = if F i = 0 then fstZ F (i + 1) (c - (i + 1)) else F i := by
  obtain ⟨m, hm⟩ : ∃ m, c - i = m + 1 := ⟨c - i - 1, by omega⟩
  rw [hm, show c - (i + 1) = m by omega]; rfl
theorem chkF_eq (t : Nat) (kd fu wi off k n d : Int) (nm : ByteArray) (f g : Nat → Nat → PV) (c : Nat) (e : Nat → Nat → PV) : chkF (t + 1) [.i .i64 kd, .i .i64 fu, .i .i64 wi, .i .i64 off, .i .i64 k, .i .i64 n, .i .i64 d, .s nm, .l 3 0 f, .l 1 0 g, .l 11 c e] =
    if shapedB kd fu k n d (noSelB wi off nm 0) 0 c = false then 1 else if namedB kd nm = false then 8 else if rangedB kd fu wi off k true = false then 5 else fstZ (fun i => chkF t (kidC e i)) 0 c := rfl
theorem ranged_w {kd fu wi off k n d : Int} {nm : ByteArray} {c : Nat} (h : shapedB kd fu k n d (noSelB wi off nm 0) 0 c = true) : rangedB kd fu wi off k (decide (k = 0)) = rangedB kd fu wi off k true := by
  unfold rangedB
  unfold shapedB at h
  split
  · rfl
  · split
    · rfl
    · rename_i h1 h2
      rw [if_neg h1, if_neg h2] at h
      split at h
      · simp only [Bool.and_eq_true, decide_eq_true_eq] at h; rw [decide_eq_true h.1.1.2]
      · split at h
        · simp only [Bool.and_eq_true, decide_eq_true_eq] at h; rw [decide_eq_true h.1.2]
        · cases h
theorem depE_le : ∀ (t : Nat) (cs : List PV), 0 ≤ depE t cs ∧ depE t cs ≤ t
  | 0, cs => by cases cs <;> simp [depE]
  | t + 1, cs => by
    unfold depE
    split
    · rename_i t' _ _ _ _ _ _ _ _ _ _ q10 e
      obtain rfl : t = t' := by omega
      have key : ∀ m, 0 ≤ maxZ (fun i => depE t (kidC (kidsF q10) i)) m ∧ maxZ (fun i => depE t (kidC (kidsF q10) i)) m ≤ t := by
        intro m
        induction m with
        | zero => simp [maxZ]
        | succ m ih =>
          have := depE_le t (kidC (kidsF q10) m)
          unfold maxZ
          split <;> omega
      have := key (kidsN q10)
      omega
    · omega
theorem nodE_nn : ∀ (t : Nat) (cs : List PV), 0 ≤ nodE t cs
  | 0, cs => by cases cs <;> simp [nodE]
  | t + 1, cs => by
    unfold nodE
    split
    · rename_i t' _ _ _ _ _ _ _ _ _ _ q10 e
      obtain rfl : t = t' := by omega
      have key : ∀ m, 0 ≤ sumZ (fun i => nodE t (kidC (kidsF q10) i)) m := by
        intro m
        induction m with
        | zero => simp [sumZ]
        | succ m ih =>
          have := nodE_nn t (kidC (kidsF q10) m)
          unfold sumZ
          omega
      have := key (kidsN q10)
      omega
    · omega
theorem sumZ_mono (F : Nat → Int) (hF : ∀ i, 0 ≤ F i) {i c : Nat} (h : i < c) : sumZ F i + F i ≤ sumZ F c ∧ 0 ≤ sumZ F i := by
  have nn : ∀ m, 0 ≤ sumZ F m := fun m => by
    induction m with
    | zero => simp [sumZ]
    | succ m ih => unfold sumZ; have := hF m; omega
  refine ⟨?_, nn i⟩
  induction c with
  | zero => omega
  | succ c ih =>
    rcases Nat.lt_or_ge i c with h1 | h1
    · have := ih h1
      have := hF c
      show _ ≤ sumZ F c + F c
      omega
    · obtain rfl : i = c := by omega
      exact Int.le_refl _
section
variable {G : Nat → Option Obj}
set_option maxRecDepth 100000 in
theorem okCheck (hG : GrpG G) : ∀ t, ModOK Tryz.prog G 27 (exMod ExOK chkF t) := by
  intro t
  induction t with
  | zero =>
    intro args p v hm hp h
    unfold exMod at hm
    split at hm; rotate_left; · cases hm
    obtain ⟨rfl, rfl⟩ := some_pairU hm
    exact hp.elim
  | succ t ih =>
    intro args p v hm hp h
    unfold exMod at hm
    split at hm; rotate_left; · cases hm
    rename_i q0 q1 q2 q3 q4 q5 q6 q7 q8 q9 q10
    obtain ⟨rfl, rfl⟩ := some_pairU hm
    clear hm
    obtain ⟨kd, fu, wi, off, k, n, d, nm, f, g, c, e, hcs, hn, hd, hc, hk⟩ := hp
    simp only [List.cons.injEq, and_true] at hcs
    obtain ⟨rfl, rfl, rfl, rfl, rfl, rfl, rfl, rfl, rfl, rfl, rfl⟩ := hcs
    have hs : SoundExt Tryz.prog G (extCk t) := extOf_sound (by simp; exact ⟨okShaped, okNamed hG, okRanged, ih⟩)
    refine fn_S Tryz.func27 (by kernel_rfl) rfl ?_ h
    rw [chkF_eq]
    refine ExS.evG hs 10 (tCk1 kd fu wi off k n d nm f g c e t) ?_
    simp only [holds_bT, holds_rq, holds_leaf, kf_ret', kf_normal, Bool.not_eq_true', Bool.not_eq_false', true_and, and_true]
    refine ⟨⟨hn, hd⟩, fun h1 => ⟨?_⟩, fun h1 => ?_⟩
    · rw [if_pos h1]; exact VLe.refl _
    rw [if_neg (by simp [h1])]
    refine ⟨fun h2 => ⟨?_⟩, fun h2 => ?_⟩
    · rw [if_pos h2]; exact VLe.refl _
    rw [if_neg (by simp [h2])]
    refine ⟨fun h3 => ⟨?_⟩, fun h3 => ⟨?_⟩⟩
    · rw [if_pos h3]; exact VLe.refl _
    rw [if_neg (by simp [h3])]
    obtain ⟨F, hF⟩ : ∃ F : Nat → Int, F = fun i => chkF t (kidC e i) := ⟨_, rfl⟩
    rw [← hF]
    have hw : VLe (.c (.p (.l 11 c e))) (.c (.p (.l 11 c (canonE e)))) := VLe.p (PLe.l fun i o hi ho => PLe.of_eq (canon_id (hk i hi) ho).symm)
    refine ExS.pre ((weak_slot (j := 26) (y := .c (.p (.l 11 c (canonE e)))) (by exact hw)).trans (weak_of_eq (st' := (fun i => cst 38 [(26, .c (.p (.l 11 c (canonE e)))), (27, iV (c : Nat)), (28, iV (i : Nat))] []) 0) (by kernel_rfl))) ?_
    refine ExS.loop' (l := dropL 10 (pcs Tryz.prog Tryz.f27)) (b := inr (inr (nth .skip (pcs Tryz.prog Tryz.f27) 10))) (r := dropL 11 (pcs Tryz.prog Tryz.f27)) (id := 0) (by kernel_rfl) (σ := Nat)
      (fun i => cst 38 [(26, .c (.p (.l 11 c (canonE e)))), (27, iV (c : Nat)), (28, iV (i : Nat))] []) (fun i => i ≤ c ∧ fstZ F i (c - i) = fstZ F 0 c) (fun i => c - i) 0 ⟨Nat.zero_le _, rfl⟩ (weak_of_eq (by kernel_rfl)) ?_
    rintro i ⟨hi, hf⟩ Q1 q1n q1e -
    refine ExS.evH hs (tCk2 c e t i) ?_
    rw [holds_bT]
    refine ⟨fun h4 => ?_, fun h4 => ?_⟩
    · have h4 : i < c := by simpa using h4
      have ce : ∀ o, o < 11 → canonE e i o = e i o := fun o ho => canon_id (hk i h4) ho
      have hFi : chkF t [e i 0, e i 1, e i 2, e i 3, e i 4, e i 5, e i 6, e i 7, e i 8, e i 9, e i 10] = F i := by rw [hF]; rfl
      have hKi : ExOK t [e i 0, e i 1, e i 2, e i 3, e i 4, e i 5, e i 6, e i 7, e i 8, e i 9, e i 10] := hk i h4
      simp only [holds_bT, holds_rq, holds_leaf, kf_ret', kf_normal, show (↑i : Int).toNat = i from rfl, Nat.zero_add, Nat.reduceAdd, ce 0 (by omega), ce 1 (by omega), ce 2 (by omega), ce 3 (by omega), ce 4 (by omega), ce 5 (by omega), ce 6 (by omega), ce 7 (by omega), ce 8 (by omega), ce 9 (by omega), ce 10 (by omega), hFi, bne_iff_ne, bne_eq_false_iff_eq, ne_eq, inR]
      rw [fstZ_step F h4] at hf
      refine ⟨by omega, hKi, fun h5 => ⟨?_⟩, fun h5 => ⟨by omega, ⟨q1n (i + 1) _ ⟨by omega, ?_⟩ (show c - (i + 1) < c - i by omega) (weak_of_eq (by kernel_rfl))⟩⟩⟩
      · rw [if_neg h5] at hf
        rw [← hf]; exact VLe.refl _
      · rw [if_pos h5] at hf
        exact hf
    · have h4 : ¬ i < c := by simpa using h4
      obtain rfl : i = c := by omega
      simp only [holds_leaf, kf_exit]
      refine ⟨q1e _ ?_⟩
      refine ExS.evH ext0_sound (tCk3 i e i) ?_
      simp only [holds_leaf, kf_ret']
      rw [Nat.sub_self] at hf
      rw [← hf]
      exact ⟨VLe.refl _⟩
set_option maxRecDepth 100000 in
theorem okValid7 : ∀ t, ModOK Tryz.prog G 43 (exMod ExOK chkF t) := by
  intro t
  induction t with
  | zero =>
    intro args p v hm hp h
    unfold exMod at hm
    split at hm; rotate_left; · cases hm
    obtain ⟨rfl, rfl⟩ := some_pairU hm
    exact hp.elim
  | succ t ih =>
    intro args p v hm hp h
    unfold exMod at hm
    split at hm; rotate_left; · cases hm
    rename_i q0 q1 q2 q3 q4 q5 q6 q7 q8 q9 q10
    obtain ⟨rfl, rfl⟩ := some_pairU hm
    clear hm
    obtain ⟨kd, fu, wi, off, k, n, d, nm, f, g, c, e, hcs, hn, hd, hc, hk⟩ := hp
    simp only [List.cons.injEq, and_true] at hcs
    obtain ⟨rfl, rfl, rfl, rfl, rfl, rfl, rfl, rfl, rfl, rfl, rfl⟩ := hcs
    have hs : SoundExt Tryz.prog G (extVa t) := extOf_sound (by simp; exact ⟨okShaped7, okNamed7, okWithin, ih⟩)
    refine fn_S Tryz.func43 (by kernel_rfl) rfl ?_ h
    rw [chkF_eq]
    refine ExS.evG hs 10 (tVa1 kd fu wi off k n d nm f g c e t) ?_
    simp only [holds_bT, holds_rq, holds_leaf, kf_ret', kf_normal, Bool.not_eq_true', Bool.not_eq_false', true_and, and_true]
    refine ⟨⟨hn, hd⟩, fun h1 => ⟨?_⟩, fun h1 => ?_⟩
    · rw [if_pos h1]; exact VLe.refl _
    rw [if_neg (by simp [h1]), ranged_w h1]
    refine ⟨fun h2 => ⟨?_⟩, fun h2 => ?_⟩
    · rw [if_pos h2]; exact VLe.refl _
    rw [if_neg (by simp [h2])]
    refine ⟨fun h3 => ⟨?_⟩, fun h3 => ⟨?_⟩⟩
    · rw [if_pos h3]; exact VLe.refl _
    rw [if_neg (by simp [h3])]
    obtain ⟨F, hF⟩ : ∃ F : Nat → Int, F = fun i => chkF t (kidC e i) := ⟨_, rfl⟩
    rw [← hF]
    refine ExS.loop' (l := dropL 10 (pcs Tryz.prog Tryz.f43)) (b := inr (inr (nth .skip (pcs Tryz.prog Tryz.f43) 10))) (r := dropL 11 (pcs Tryz.prog Tryz.f43)) (id := 0) (by kernel_rfl) (σ := Nat)
      (fun i => cst 40 [(1, .c (.ptr 0 0)), (3, iV (i : Nat))] [.cells 32 [.p (.i .i64 kd), .p (.i .i64 fu), .p (.i .i64 wi), .p (.i .i64 off), .p (.i .i64 k), .p (.i .i64 n), .p (.i .i64 d), .p (.s nm), .p (.l 3 0 f), .p (.l 1 0 g), .p (.l 11 c e)]]) (fun i => i ≤ c ∧ fstZ F i (c - i) = fstZ F 0 c) (fun i => c - i) 0 ⟨Nat.zero_le _, rfl⟩ (weak_of_eq (by kernel_rfl)) ?_
    rintro i ⟨hi, hf⟩ Q1 q1n q1e -
    refine ExS.evH hs (tVa2 kd fu wi off k n d nm f g c e t i) ?_
    rw [holds_bT]
    refine ⟨fun h4 => ?_, fun h4 => ?_⟩
    · have h4 : i < c := by simpa using h4
      have hFi : chkF t [e i 0, e i 1, e i 2, e i 3, e i 4, e i 5, e i 6, e i 7, e i 8, e i 9, e i 10] = F i := by rw [hF]; rfl
      have hKi : ExOK t [e i 0, e i 1, e i 2, e i 3, e i 4, e i 5, e i 6, e i 7, e i 8, e i 9, e i 10] := hk i h4
      simp only [holds_bT, holds_rq, holds_leaf, kf_ret', kf_normal, show (↑i : Int).toNat = i from rfl, Nat.zero_add, Nat.reduceAdd, hFi, bne_iff_ne, bne_eq_false_iff_eq, ne_eq, inR]
      rw [fstZ_step F h4] at hf
      refine ⟨by omega, hKi, fun h5 => ⟨?_⟩, fun h5 => ⟨by omega, ⟨q1n (i + 1) _ ⟨by omega, ?_⟩ (show c - (i + 1) < c - i by omega) (weak_of_eq (by kernel_rfl))⟩⟩⟩
      · rw [if_neg h5] at hf
        rw [← hf]; exact VLe.refl _
      · rw [if_pos h5] at hf
        exact hf
    · have h4 : ¬ i < c := by simpa using h4
      obtain rfl : i = c := by omega
      simp only [holds_leaf, kf_exit]
      refine ⟨q1e _ ?_⟩
      refine ExS.evH ext0_sound (tVa3 kd fu wi off k n d nm f g i e i) ?_
      simp only [holds_leaf, kf_ret']
      rw [Nat.sub_self] at hf
      rw [← hf]
      exact ⟨VLe.refl _⟩
set_option maxRecDepth 100000 in
theorem okDepthE : ∀ t, t ≤ 1000 → ModOK Tryz.prog G 41 (exMod ExOK depE t) := by
  intro t
  induction t with
  | zero =>
    intro _
    intro args p v hm hp h
    unfold exMod at hm
    split at hm; rotate_left; · cases hm
    obtain ⟨rfl, rfl⟩ := some_pairU hm
    exact hp.elim
  | succ t ih =>
    intro ht
    intro args p v hm hp h
    unfold exMod at hm
    split at hm; rotate_left; · cases hm
    rename_i q0 q1 q2 q3 q4 q5 q6 q7 q8 q9 q10
    obtain ⟨rfl, rfl⟩ := some_pairU hm
    clear hm
    obtain ⟨kd, fu, wi, off, k, n, d, nm, f, g, c, e, hcs, hn, hd, hc, hk⟩ := hp
    simp only [List.cons.injEq, and_true] at hcs
    obtain ⟨rfl, rfl, rfl, rfl, rfl, rfl, rfl, rfl, rfl, rfl, rfl⟩ := hcs
    have hs : SoundExt Tryz.prog G (extDp t) := extOf_sound (by simp; exact ih (by omega))
    refine fn_S Tryz.func41 (by kernel_rfl) rfl ?_ h
    obtain ⟨F, hF⟩ : ∃ F : Nat → Int, F = fun i => depE t (kidC e i) := ⟨_, rfl⟩
    have hv : depE (t + 1) [.i .i64 kd, .i .i64 fu, .i .i64 wi, .i .i64 off, .i .i64 k, .i .i64 n, .i .i64 d, .s nm, .l 3 0 f, .l 1 0 g, .l 11 c e] = maxZ F c + 1 := by rw [hF]; rfl
    have hb := depE_le (t + 1) [.i .i64 kd, .i .i64 fu, .i .i64 wi, .i .i64 off, .i .i64 k, .i .i64 n, .i .i64 d, .s nm, .l 3 0 f, .l 1 0 g, .l 11 c e]
    rw [hv] at hb ⊢
    refine ExS.evG ext0_sound 3 (tDp1 kd fu wi off k n d nm f g c e) ?_
    simp only [holds_leaf, kf_normal]
    refine ⟨?_⟩
    refine ExS.loop' (l := dropL 3 (pcs Tryz.prog Tryz.f41)) (b := inr (inr (nth .skip (pcs Tryz.prog Tryz.f41) 3))) (r := dropL 4 (pcs Tryz.prog Tryz.f41)) (id := 0) (by kernel_rfl) (σ := Nat)
      (fun i => (fun x => cst 22 [(1, .c (.ptr 0 0)), (3, iV (x : Int)), (4, iV (i : Nat))] [.cells 32 [.p (.i .i64 kd), .p (.i .i64 fu), .p (.i .i64 wi), .p (.i .i64 off), .p (.i .i64 k), .p (.i .i64 n), .p (.i .i64 d), .p (.s nm), .p (.l 3 0 f), .p (.l 1 0 g), .p (.l 11 c e)]]) (maxZ F i)) (fun i => i ≤ c) (fun i => c - i) 0 (Nat.zero_le _) (weak_of_eq (by kernel_rfl)) ?_
    rintro i hi Q1 q1n q1e -
    refine ExS.evH hs (tDp2 kd fu wi off k n d nm f g c e t i (maxZ F i)) ?_
    rw [holds_bT]
    refine ⟨fun h4 => ?_, fun h4 => ?_⟩
    · have h4 : i < c := by simpa using h4
      have hFi : depE t [e i 0, e i 1, e i 2, e i 3, e i 4, e i 5, e i 6, e i 7, e i 8, e i 9, e i 10] = F i := by rw [hF]; rfl
      have hKi : ExOK t [e i 0, e i 1, e i 2, e i 3, e i 4, e i 5, e i 6, e i 7, e i 8, e i 9, e i 10] := hk i h4
      simp only [holds_bT, holds_rq, holds_leaf, kf_ret', kf_normal, show (↑i : Int).toNat = i from rfl, Nat.zero_add, Nat.reduceAdd, hFi, inR]
      refine ⟨by omega, hKi, by omega, ⟨q1n (i + 1) _ (show i + 1 ≤ c by omega) (show c - (i + 1) < c - i by omega) ?_⟩⟩
      have em : maxZ F (i + 1) = if maxZ F i < F i then F i else maxZ F i := by
        show (if F i < maxZ F i then maxZ F i else F i) = _
        split <;> split <;> omega
      show WeakS G _ ((fun x i => cst 22 [(1, .c (.ptr 0 0)), (3, iV (x : Int)), (4, iV (i : Nat))] [.cells 32 [.p (.i .i64 kd), .p (.i .i64 fu), .p (.i .i64 wi), .p (.i .i64 off), .p (.i .i64 k), .p (.i .i64 n), .p (.i .i64 d), .p (.s nm), .p (.l 3 0 f), .p (.l 1 0 g), .p (.l 11 c e)]]) (maxZ F (i + 1)) (i + 1))
      rw [em]
      exact weak_of_eq (by kernel_rfl)
    · have h4 : ¬ i < c := by simpa using h4
      obtain rfl : i = c := by omega
      simp only [holds_leaf, kf_exit]
      refine ⟨q1e _ ?_⟩
      refine ExS.evH ext0_sound (tDp3 kd fu wi off k n d nm f g i e i (maxZ F i)) ?_
      simp only [holds_rq, holds_leaf, kf_ret', inR]
      exact ⟨by omega, ⟨VLe.refl _⟩⟩
set_option maxRecDepth 100000 in
theorem okNodesE : ∀ t, ModOK Tryz.prog G 42 (exMod nodA nodE t) := by
  intro t
  induction t with
  | zero =>
    intro args p v hm hp h
    unfold exMod at hm
    split at hm; rotate_left; · cases hm
    obtain ⟨rfl, rfl⟩ := some_pairU hm
    exact hp.1.elim
  | succ t ih =>
    intro args p v hm hp h
    unfold exMod at hm
    split at hm; rotate_left; · cases hm
    rename_i q0 q1 q2 q3 q4 q5 q6 q7 q8 q9 q10
    obtain ⟨rfl, rfl⟩ := some_pairU hm
    clear hm
    obtain ⟨kd, fu, wi, off, k, n, d, nm, f, g, c, e, hcs, hn, hd, hc, hk⟩ := hp.1
    have hnb := hp.2
    simp only [List.cons.injEq, and_true] at hcs
    obtain ⟨rfl, rfl, rfl, rfl, rfl, rfl, rfl, rfl, rfl, rfl, rfl⟩ := hcs
    have hs : SoundExt Tryz.prog G (extNo t) := extOf_sound (by simp; exact ih)
    refine fn_S Tryz.func42 (by kernel_rfl) rfl ?_ h
    obtain ⟨F, hF⟩ : ∃ F : Nat → Int, F = fun i => nodE t (kidC e i) := ⟨_, rfl⟩
    have hv : nodE (t + 1) [.i .i64 kd, .i .i64 fu, .i .i64 wi, .i .i64 off, .i .i64 k, .i .i64 n, .i .i64 d, .s nm, .l 3 0 f, .l 1 0 g, .l 11 c e] = 1 + sumZ F c := by rw [hF]; rfl
    have hF0 : ∀ i, 0 ≤ F i := fun i => by rw [hF]; exact nodE_nn t _
    rw [hv] at hnb ⊢
    refine ExS.evG ext0_sound 3 (tNo1 kd fu wi off k n d nm f g c e) ?_
    simp only [holds_leaf, kf_normal]
    refine ⟨?_⟩
    refine ExS.loop' (l := dropL 3 (pcs Tryz.prog Tryz.f42)) (b := inr (inr (nth .skip (pcs Tryz.prog Tryz.f42) 3))) (r := dropL 4 (pcs Tryz.prog Tryz.f42)) (id := 0) (by kernel_rfl) (σ := Nat)
      (fun i => (fun x => cst 21 [(1, .c (.ptr 0 0)), (3, iV (x : Int)), (4, iV (i : Nat))] [.cells 32 [.p (.i .i64 kd), .p (.i .i64 fu), .p (.i .i64 wi), .p (.i .i64 off), .p (.i .i64 k), .p (.i .i64 n), .p (.i .i64 d), .p (.s nm), .p (.l 3 0 f), .p (.l 1 0 g), .p (.l 11 c e)]]) (1 + sumZ F i)) (fun i => i ≤ c) (fun i => c - i) 0 (Nat.zero_le _) (weak_of_eq (by kernel_rfl)) ?_
    rintro i hi Q1 q1n q1e -
    refine ExS.evH hs (tNo2 kd fu wi off k n d nm f g c e t i (1 + sumZ F i)) ?_
    rw [holds_bT]
    refine ⟨fun h4 => ?_, fun h4 => ?_⟩
    · have h4 : i < c := by simpa using h4
      have hFi : nodE t [e i 0, e i 1, e i 2, e i 3, e i 4, e i 5, e i 6, e i 7, e i 8, e i 9, e i 10] = F i := by rw [hF]; rfl
      have hKi : ExOK t [e i 0, e i 1, e i 2, e i 3, e i 4, e i 5, e i 6, e i 7, e i 8, e i 9, e i 10] := hk i h4
      have hm := sumZ_mono F hF0 h4
      have hFi0 := hF0 i
      have hAi : nodA t [e i 0, e i 1, e i 2, e i 3, e i 4, e i 5, e i 6, e i 7, e i 8, e i 9, e i 10] := ⟨hKi, by rw [hFi]; omega⟩
      simp only [holds_bT, holds_rq, holds_leaf, kf_ret', kf_normal, show (↑i : Int).toNat = i from rfl, Nat.zero_add, Nat.reduceAdd, hFi, inR]
      refine ⟨by omega, hAi, by omega, by omega, ⟨q1n (i + 1) _ (show i + 1 ≤ c by omega) (show c - (i + 1) < c - i by omega) ?_⟩⟩
      show WeakS G _ ((fun x i => cst 21 [(1, .c (.ptr 0 0)), (3, iV (x : Int)), (4, iV (i : Nat))] [.cells 32 [.p (.i .i64 kd), .p (.i .i64 fu), .p (.i .i64 wi), .p (.i .i64 off), .p (.i .i64 k), .p (.i .i64 n), .p (.i .i64 d), .p (.s nm), .p (.l 3 0 f), .p (.l 1 0 g), .p (.l 11 c e)]]) (1 + (sumZ F i + F i)) (i + 1))
      rw [← Int.add_assoc]
      exact weak_of_eq (by kernel_rfl)
    · have h4 : ¬ i < c := by simpa using h4
      obtain rfl : i = c := by omega
      simp only [holds_leaf, kf_exit]
      refine ⟨q1e _ ?_⟩
      refine ExS.evH ext0_sound (tNo3 kd fu wi off k n d nm f g i e i (1 + sumZ F i)) ?_
      simp only [holds_rq, holds_leaf, kf_ret', inR]
      exact ⟨VLe.refl _⟩
end
end Go.AE
namespace Go.AE
set_option linter.unusedVariables false
set_option linter.unusedSimpArgs false
open Go.Proofs Go.Proofs.YtecilaemjajcnaaGreatDoor
def loopC (F : Nat → Int → Int) : Nat → Nat → Int → Int
  | _, 0, x => x
  | i, m + 1, x => if x < 0 then x else loopC F (i + 1) m (F i x)
def last11 : List PV → Option PV
  | [_, _, _, _, _, _, _, _, _, _, q] => some q
  | _ => none
def cntF : Nat → List PV → Int → Int → Int
  | 0, _, _, n => n
  | t + 1, cs, d, n => match last11 cs with
    | some q => loopC (fun i x => cntF t (kidC (kidsF q) i) (d + 1) x) 0 (kidsN q) (if 12 < d then -1 else n - 1)
    | none => n
def mCnt2 (t : Nat) : ModH
  | [.a [.p q0, .p q1, .p q2, .p q3, .p q4, .p q5, .p q6, .p q7, .p q8, .p q9, .p q10], .c (.p (.i .i64 d)), .c (.ptr 0 0)], .pin 2 b :: o1 :: .cells ty [.p (.i .i64 n)] :: rest => some (ty = 3 ∧ ExOK t [q0, q1, q2, q3, q4, q5, q6, q7, q8, q9, q10] ∧ (0 ≤ d ∧ d + (t : Nat) ≤ 100000) ∧ 0 ≤ n ∧ n ≤ 1000000, .t [], outH [2] [2] [1] (.pin 2 b :: o1 :: .cells ty [.p (.i .i64 n)] :: rest) [.pin 1 0, .cells ty [.p (.i .i64 (cntF t [q0, q1, q2, q3, q4, q5, q6, q7, q8, q9, q10] d n))]])
  | _, _ => none
def mCnt1 (t : Nat) : ModH
  | [.a [.p q0, .p q1, .p q2, .p q3, .p q4, .p q5, .p q6, .p q7, .p q8, .p q9, .p q10], .c (.p (.i .i64 d)), .c (.ptr 1 0)], o0 :: .cells ty [.p (.i .i64 n)] :: rest => some (ty = 3 ∧ ExOK t [q0, q1, q2, q3, q4, q5, q6, q7, q8, q9, q10] ∧ (0 ≤ d ∧ d + (t : Nat) ≤ 100000) ∧ 0 ≤ n ∧ n ≤ 1000000, .t [], outH [1] [1] [1] (o0 :: .cells ty [.p (.i .i64 n)] :: rest) [.pin 1 0, .cells ty [.p (.i .i64 (cntF t [q0, q1, q2, q3, q4, q5, q6, q7, q8, q9, q10] d n))]])
  | _, _ => none
def extCn (t : Nat) : Ext := extH [(37, mCnt2 t)]
def extFt (t : Nat) : Ext := extH [(37, mCnt1 t)]
theorem tCn1 (kd fu wi off k n d : Int) (nm : ByteArray) (f : Nat → Nat → PV) (g : Nat → Nat → PV) (c : Nat) (e : Nat → Nat → PV) (b : Nat) (dp x : Int) : exTs ext0 (takeL 5 (pcs Tryz.prog Tryz.f37)) (stIn Tryz.f37 [1] [1] [b] [.a [.p (.i .i64 kd), .p (.i .i64 fu), .p (.i .i64 wi), .p (.i .i64 off), .p (.i .i64 k), .p (.i .i64 n), .p (.i .i64 d), .p (.s nm), .p (.l 3 0 f), .p (.l 1 0 g), .p (.l 11 c e)], iV dp, .c (.ptr 1 0)] [.gone, .cells 3 [.p (.i .i64 x)]]) (endM [2] (msk 38 [1, 2, 3, 6]) (resOf Tryz.prog Tryz.f37)) = Tr.rq (inR IntKind.i64 (x - 1))
 (bT (decide (12 < dp))
 (.done .normal
 (cst 38 [(1, .c (.p (.i .i64 dp))), (2, .c (.ptr 0 0)), (3, .c (.ptr 1 0)), (6, .c (.p (.i .i64 0)))] [.pin 2 b, .cells 32 [.p (.i .i64 kd), .p (.i .i64 fu), .p (.i .i64 wi), .p (.i .i64 off), .p (.i .i64 k), .p (.i .i64 n), .p (.i .i64 d), .p (.s nm), .p (.l 3 0 f), .p (.l 1 0 g), .p (.l 11 c e)], .cells 3 [.p (.i .i64 (-1))]]))
 (.done .normal
 (cst 38 [(1, .c (.p (.i .i64 dp))), (2, .c (.ptr 0 0)), (3, .c (.ptr 1 0)), (6, .c (.p (.i .i64 0)))] [.pin 2 b, .cells 32 [.p (.i .i64 kd), .p (.i .i64 fu), .p (.i .i64 wi), .p (.i .i64 off), .p (.i .i64 k), .p (.i .i64 n), .p (.i .i64 d), .p (.s nm), .p (.l 3 0 f), .p (.l 1 0 g), .p (.l 11 c e)], .cells 3 [.p (.i .i64 (x - 1))]]))) := by kernel_rfl
theorem tCn2 (kd fu wi off k n d : Int) (nm : ByteArray) (f : Nat → Nat → PV) (g : Nat → Nat → PV) (c : Nat) (e : Nat → Nat → PV) (b t i : Nat) (dp x : Int) : exTs (extCn t) (lpB (pcs Tryz.prog Tryz.f37) 5) (cst 38 [(1, iV dp), (2, .c (.ptr 0 0)), (3, .c (.ptr 1 0)), (6, iV (i : Nat))] [.pin 2 b, .cells 32 [.p (.i .i64 kd), .p (.i .i64 fu), .p (.i .i64 wi), .p (.i .i64 off), .p (.i .i64 k), .p (.i .i64 n), .p (.i .i64 d), .p (.s nm), .p (.l 3 0 f), .p (.l 1 0 g), .p (.l 11 c e)], .cells 3 [.p (.i .i64 x)]]) (endM [2] (msk 38 [1, 2, 3, 6]) (resOf Tryz.prog Tryz.f37)) = bT (decide ((↑i : Int) < (↑c : Int)))
 (bT (decide (0 ≤ x))
 (.rq (0 ≤ (↑i : Int) ∧ (↑i : Int) < (↑c : Int))
 (.rq (inR IntKind.i64 (dp + 1))
 (.rq
 (3 = 3 ∧
 ExOK t
 [e (↑i : Int).toNat 0, e (↑i : Int).toNat 1, e (↑i : Int).toNat 2, e (↑i : Int).toNat 3, e (↑i : Int).toNat 4, e (↑i : Int).toNat 5, e (↑i : Int).toNat 6, e (↑i : Int).toNat 7,
 e (↑i : Int).toNat 8, e (↑i : Int).toNat 9, e (↑i : Int).toNat 10] ∧
 (0 ≤ dp + 1 ∧ dp + 1 + (↑t : Int) ≤ 100000) ∧ 0 ≤ x ∧ x ≤ 1000000)
 (.rq (inR IntKind.i64 ((↑i : Int) + 1))
 (.done .normal
 (cst 38 [(1, .c (.p (.i .i64 dp))), (2, .c (.ptr 0 0)), (3, .c (.ptr 1 0)), (6, .c (.p (.i .i64 ((↑i : Int) + 1))))] [.pin 2 b, .cells 32 [.p (.i .i64 kd), .p (.i .i64 fu), .p (.i .i64 wi), .p (.i .i64 off), .p (.i .i64 k), .p (.i .i64 n), .p (.i .i64 d), .p (.s nm), .p (.l 3 0 f), .p (.l 1 0 g), .p (.l 11 c e)], .cells 3 [.p (.i .i64 (cntF t [e (↑i : Int).toNat 0, e (↑i : Int).toNat (0 + 1), e (↑i : Int).toNat (0 + 1 + 1), e (↑i : Int).toNat (0 + 1 + 1 + 1), e (↑i : Int).toNat (0 + 1 + 1 + 1 + 1), e (↑i : Int).toNat (0 + 1 + 1 + 1 + 1 + 1), e (↑i : Int).toNat (0 + 1 + 1 + 1 + 1 + 1 + 1), e (↑i : Int).toNat (0 + 1 + 1 + 1 + 1 + 1 + 1 + 1), e (↑i : Int).toNat (0 + 1 + 1 + 1 + 1 + 1 + 1 + 1 + 1), e (↑i : Int).toNat (0 + 1 + 1 + 1 + 1 + 1 + 1 + 1 + 1 + 1), e (↑i : Int).toNat (0 + 1 + 1 + 1 + 1 + 1 + 1 + 1 + 1 + 1 + 1)] (dp + 1) x))]]))))))
 (.done (.exit 0)
 (cst 38 [(1, .c (.p (.i .i64 dp))), (2, .c (.ptr 0 0)), (3, .c (.ptr 1 0)), (6, .c (.p (.i .i64 (↑i : Int))))] [.pin 2 b, .cells 32 [.p (.i .i64 kd), .p (.i .i64 fu), .p (.i .i64 wi), .p (.i .i64 off), .p (.i .i64 k), .p (.i .i64 n), .p (.i .i64 d), .p (.s nm), .p (.l 3 0 f), .p (.l 1 0 g), .p (.l 11 c e)], .cells 3 [.p (.i .i64 x)]])))
 (.done (.exit 0)
 (cst 38 [(1, .c (.p (.i .i64 dp))), (2, .c (.ptr 0 0)), (3, .c (.ptr 1 0)), (6, .c (.p (.i .i64 (↑i : Int))))] [.pin 2 b, .cells 32 [.p (.i .i64 kd), .p (.i .i64 fu), .p (.i .i64 wi), .p (.i .i64 off), .p (.i .i64 k), .p (.i .i64 n), .p (.i .i64 d), .p (.s nm), .p (.l 3 0 f), .p (.l 1 0 g), .p (.l 11 c e)], .cells 3 [.p (.i .i64 x)]])) := by kernel_rfl
theorem tCn3 (kd fu wi off k n d : Int) (nm : ByteArray) (f : Nat → Nat → PV) (g : Nat → Nat → PV) (c : Nat) (e : Nat → Nat → PV) (b i : Nat) (dp x : Int) : exTs ext0 (dropL 6 (pcs Tryz.prog Tryz.f37)) (cst 38 [(1, iV dp), (2, .c (.ptr 0 0)), (3, .c (.ptr 1 0)), (6, iV (i : Nat))] [.pin 2 b, .cells 32 [.p (.i .i64 kd), .p (.i .i64 fu), .p (.i .i64 wi), .p (.i .i64 off), .p (.i .i64 k), .p (.i .i64 n), .p (.i .i64 d), .p (.s nm), .p (.l 3 0 f), .p (.l 1 0 g), .p (.l 11 c e)], .cells 3 [.p (.i .i64 x)]]) (endM [2] (msk 38 [2]) (resOf Tryz.prog Tryz.f37)) = Tr.done X.normal
 (cst 38 [(2, .c (.ptr 0 0))] [.pin 1 b, .cells 3 [.p (.i .i64 x)]]) := by kernel_rfl
theorem tFt1 (kd fu wi off k n d : Int) (nm : ByteArray) (f : Nat → Nat → PV) (g : Nat → Nat → PV) (c : Nat) (e : Nat → Nat → PV) (t : Nat) : exTs (extFt t) (pcs Tryz.prog Tryz.f26) (st0 Tryz.f26 [.a [.p (.i .i64 kd), .p (.i .i64 fu), .p (.i .i64 wi), .p (.i .i64 off), .p (.i .i64 k), .p (.i .i64 n), .p (.i .i64 d), .p (.s nm), .p (.l 3 0 f), .p (.l 1 0 g), .p (.l 11 c e)]]) (endG [] (resOf Tryz.prog Tryz.f26)) = Tr.rq
 (3 = 3 ∧
 ExOK t
 [PV.i IntKind.i64 kd, PV.i IntKind.i64 fu, PV.i IntKind.i64 wi, PV.i IntKind.i64 off, PV.i IntKind.i64 k, PV.i IntKind.i64 n, PV.i IntKind.i64 d, PV.s nm, PV.l 3 0 f, PV.l 1 0 g,
 PV.l 11 c e] ∧
 (Int.ofNat 0 ≤ Int.ofNat 1 ∧ 1 + (↑t : Int) ≤ 100000) ∧ Int.ofNat 0 ≤ Int.ofNat 200 ∧ Int.ofNat 200 ≤ Int.ofNat 1000000)
 (.done .ret
 (St.mk [V.c (C.p (PV.b (decide (0 ≤ cntF t [PV.i IntKind.i64 kd, PV.i IntKind.i64 fu, PV.i IntKind.i64 wi, PV.i IntKind.i64 off, PV.i IntKind.i64 k, PV.i IntKind.i64 n, PV.i IntKind.i64 d, PV.s nm, PV.l 3 0 f, PV.l 1 0 g, PV.l 11 c e] 1 200))))] [])) := by kernel_rfl
theorem loopC_le (F : Nat → Int → Int) (hF : ∀ i x, 0 ≤ x → -1 ≤ F i x ∧ F i x ≤ x) : ∀ (m i : Nat) (x : Int), -1 ≤ x → -1 ≤ loopC F i m x ∧ loopC F i m x ≤ x
  | 0, i, x, h => by unfold loopC; omega
  | m + 1, i, x, h => by
    unfold loopC
    split
    · omega
    · have h1 := hF i x (by omega)
      have h2 := loopC_le F hF m (i + 1) (F i x) (by omega)
      omega
theorem cntF_le : ∀ (t : Nat) (cs : List PV) (d n : Int), 0 ≤ n → -1 ≤ cntF t cs d n ∧ cntF t cs d n ≤ n
  | 0, cs, d, n, h => by unfold cntF; omega
  | t + 1, cs, d, n, h => by
    unfold cntF
    cases last11 cs with
    | none => dsimp only; omega
    | some q =>
      dsimp only
      have h1 : -1 ≤ (if 12 < d then -1 else n - 1) ∧ (if 12 < d then -1 else n - 1) ≤ n := by split <;> omega
      have := loopC_le (fun i x => cntF t (kidC (kidsF q) i) (d + 1) x) (fun i x hx => cntF_le t _ (d + 1) x hx) (kidsN q) 0 _ h1.1
      omega
theorem loopC_step (F : Nat → Int → Int) {i c : Nat} (h : i < c) (x : Int) : loopC F i (c - i) x = if x < 0 then x else loopC F (i + 1) (c - (i + 1)) (F i x) := by
  obtain ⟨m, hm⟩ : ∃ m, c - i = m + 1 := ⟨c - i - 1, by omega⟩
  rw [hm, show c - (i + 1) = m by omega]; rfl
theorem out_pin1 (id : Nat) (h : List AO) (b b' : Nat) (x : AO) : outH [id] [id] [1] h [.pin 1 b, x] = outH [id] [id] [1] h [.pin 1 b', x] := by
  unfold outH
  have e : oldF [id] [id] [1] (lenL h) [.pin 1 b, x] = oldF [id] [id] [1] (lenL h) [.pin 1 b', x] := by
    funext i y
    unfold oldF lkup
    cases Nat.beq id i <;> rfl
  rw [e]
  rfl
theorem some_three {p q : Prop} {v u : V} {h h' : List AO} (e : some (p, v, h) = some (q, u, h')) : p = q ∧ v = u ∧ h = h' := by
  injection e with e
  injection e with e1 e
  injection e with e2 e3
  exact ⟨e1, e2, e3⟩
section
variable {G : Nat → Option Obj}
theorem FnS.unpin3 {P : Program} {f : FuncId} {q j off b0 : Nat} {a0 a1 : V} {h : List AO} {K : V → List AO → Prop} (hq : nth .gone h q = .pin j b0) (hf : FnS P G f [a0, a1, .c (.ptr j off)] h K) : FnS P G f [a0, a1, .c (.ptr q off)] h K := by
  intro β R w vs ha hh
  refine hf β R w vs ?_ hh
  generalize vs.toList = us at ha
  match us, ha with
  | [u0, u1, u2], ⟨h0, h1, h2, h3⟩ =>
    obtain ⟨b, o, e1, e2⟩ := h2
    have hob := hh.obj q b o e1
    rw [hq] at hob
    obtain ⟨e3, o2, e4⟩ := hob
    subst e3
    exact ⟨h0, h1, ⟨_, o2, e4, e2⟩, h3⟩
set_option maxRecDepth 100000 in
theorem cnt_main (t : Nat) (ih : ModHOK Tryz.prog G 37 (mCnt2 t)) {kd fu wi off k n d : Int} {nm : ByteArray} {f g : Nat → Nat → PV} {c : Nat} {e : Nat → Nat → PV} (b : Nat) {dp x : Int} (hk : ∀ i, i < c → ExOK t (kidC e i)) (hc : c ≤ 1000) (hd : 0 ≤ dp ∧ dp + (t + 1 : Nat) ≤ 100000) (hx : 0 ≤ x ∧ x ≤ 1000000) :
    ExZ Tryz.prog G (Zm [2] (resOf Tryz.prog Tryz.f37) fun s => WeakS G s ⟨[.c (.ptr 0 0)] ++ [], [.pin 1 b, .cells 3 [.p (.i .i64 (cntF (t + 1) [.i .i64 kd, .i .i64 fu, .i .i64 wi, .i .i64 off, .i .i64 k, .i .i64 n, .i .i64 d, .s nm, .l 3 0 f, .l 1 0 g, .l 11 c e] dp x))]]⟩) (pcs Tryz.prog Tryz.f37) (stIn Tryz.f37 [1] [1] [b] [.a [.p (.i .i64 kd), .p (.i .i64 fu), .p (.i .i64 wi), .p (.i .i64 off), .p (.i .i64 k), .p (.i .i64 n), .p (.i .i64 d), .p (.s nm), .p (.l 3 0 f), .p (.l 1 0 g), .p (.l 11 c e)], iV dp, .c (.ptr 1 0)] [.gone, .cells 3 [.p (.i .i64 x)]]) (fun ex s => ex = .normal ∧ Zm [2] (resOf Tryz.prog Tryz.f37) (fun s => WeakS G s ⟨[.c (.ptr 0 0)] ++ [], [.pin 1 b, .cells 3 [.p (.i .i64 (cntF (t + 1) [.i .i64 kd, .i .i64 fu, .i .i64 wi, .i .i64 off, .i .i64 k, .i .i64 n, .i .i64 d, .s nm, .l 3 0 f, .l 1 0 g, .l 11 c e] dp x))]]⟩) s) := by
  have hs : SoundExt Tryz.prog G (extCn t) := extH_sound (by simp; exact ih)
  obtain ⟨F, hF⟩ : ∃ F : Nat → Int → Int, F = fun i x => cntF t (kidC e i) (dp + 1) x := ⟨_, rfl⟩
  have hv : cntF (t + 1) [.i .i64 kd, .i .i64 fu, .i .i64 wi, .i .i64 off, .i .i64 k, .i .i64 n, .i .i64 d, .s nm, .l 3 0 f, .l 1 0 g, .l 11 c e] dp x = loopC F 0 c (if 12 < dp then -1 else x - 1) := by rw [hF]; rfl
  have hFl : ∀ i x, 0 ≤ x → -1 ≤ F i x ∧ F i x ≤ x := fun i x h => by rw [hF]; exact cntF_le t _ _ _ h
  rw [hv]
  refine ExZ.evG ext0_sound 5 (tCn1 kd fu wi off k n d nm f g c e b dp x) ?_
  simp only [holds_bT, holds_rq, holds_leaf, kz_normal, decide_eq_true_eq, decide_eq_false_iff_not, inR]
  have key : ∀ x0 : Int, -1 ≤ x0 → x0 ≤ 1000000 → (if 12 < dp then -1 else x - 1) = x0 → ExZ Tryz.prog G (Zm [2] (resOf Tryz.prog Tryz.f37) fun s => WeakS G s ⟨[.c (.ptr 0 0)] ++ [], [.pin 1 b, .cells 3 [.p (.i .i64 (loopC F 0 c x0))]]⟩) (dropL 5 (pcs Tryz.prog Tryz.f37)) ((fun i x => cst 38 [(1, iV dp), (2, .c (.ptr 0 0)), (3, .c (.ptr 1 0)), (6, iV (i : Nat))] [.pin 2 b, .cells 32 [.p (.i .i64 kd), .p (.i .i64 fu), .p (.i .i64 wi), .p (.i .i64 off), .p (.i .i64 k), .p (.i .i64 n), .p (.i .i64 d), .p (.s nm), .p (.l 3 0 f), .p (.l 1 0 g), .p (.l 11 c e)], .cells 3 [.p (.i .i64 x)]]) 0 x0) (fun ex s => ex = .normal ∧ Zm [2] (resOf Tryz.prog Tryz.f37) (fun s => WeakS G s ⟨[.c (.ptr 0 0)] ++ [], [.pin 1 b, .cells 3 [.p (.i .i64 (loopC F 0 c x0))]]⟩) s) := by
    intro x0 h0 h1 _
    refine ExZ.loop' (l := dropL 5 (pcs Tryz.prog Tryz.f37)) (b := inr (inr (nth .skip (pcs Tryz.prog Tryz.f37) 5))) (r := dropL 6 (pcs Tryz.prog Tryz.f37)) (id := 0) (by kernel_rfl) (σ := Nat × Int)
      (fun s => (fun i x => cst 38 [(1, iV dp), (2, .c (.ptr 0 0)), (3, .c (.ptr 1 0)), (6, iV (i : Nat))] [.pin 2 b, .cells 32 [.p (.i .i64 kd), .p (.i .i64 fu), .p (.i .i64 wi), .p (.i .i64 off), .p (.i .i64 k), .p (.i .i64 n), .p (.i .i64 d), .p (.s nm), .p (.l 3 0 f), .p (.l 1 0 g), .p (.l 11 c e)], .cells 3 [.p (.i .i64 x)]]) s.1 s.2) (fun s => s.1 ≤ c ∧ loopC F s.1 (c - s.1) s.2 = loopC F 0 c x0 ∧ -1 ≤ s.2 ∧ s.2 ≤ 1000000) (fun s => c - s.1) (0, x0) ⟨Nat.zero_le _, rfl, h0, h1⟩ (weak_of_eq (by kernel_rfl)) ?_
    rintro ⟨i, y⟩ ⟨hi, hl, hy0, hy1⟩ Q1 q1n q1e -
    dsimp only at hi hl hy0 hy1 q1n q1e ⊢
    have fin : loopC F 0 c x0 = y → ExZ Tryz.prog G (Zm [2] (resOf Tryz.prog Tryz.f37) fun s => WeakS G s ⟨[.c (.ptr 0 0)] ++ [], [.pin 1 b, .cells 3 [.p (.i .i64 (loopC F 0 c x0))]]⟩) (dropL 6 (pcs Tryz.prog Tryz.f37)) ((fun i x => cst 38 [(1, iV dp), (2, .c (.ptr 0 0)), (3, .c (.ptr 1 0)), (6, iV (i : Nat))] [.pin 2 b, .cells 32 [.p (.i .i64 kd), .p (.i .i64 fu), .p (.i .i64 wi), .p (.i .i64 off), .p (.i .i64 k), .p (.i .i64 n), .p (.i .i64 d), .p (.s nm), .p (.l 3 0 f), .p (.l 1 0 g), .p (.l 11 c e)], .cells 3 [.p (.i .i64 x)]]) i y) (fun ex s => ex = .normal ∧ Zm [2] (resOf Tryz.prog Tryz.f37) (fun s => WeakS G s ⟨[.c (.ptr 0 0)] ++ [], [.pin 1 b, .cells 3 [.p (.i .i64 (loopC F 0 c x0))]]⟩) s) := by
      rintro e1
      rw [e1]
      refine ExZ.evH ext0_sound (tCn3 kd fu wi off k n d nm f g c e b i dp y) ?_
      simp only [holds_leaf, kz_normal]
      exact ⟨⟨trivial, [], by kernel_rfl, weak_of_eq (by kernel_rfl)⟩⟩
    refine ExZ.evH hs (tCn2 kd fu wi off k n d nm f g c e b t i dp y) ?_
    rw [holds_bT]
    refine ⟨fun h4 => ?_, fun h4 => ?_⟩
    · have h4 : i < c := by simpa using h4
      have hFi : cntF t [e i 0, e i 1, e i 2, e i 3, e i 4, e i 5, e i 6, e i 7, e i 8, e i 9, e i 10] (dp + 1) y = F i y := by rw [hF]; rfl
      have hKi : ExOK t [e i 0, e i 1, e i 2, e i 3, e i 4, e i 5, e i 6, e i 7, e i 8, e i 9, e i 10] := hk i h4
      simp only [holds_bT, holds_rq, holds_leaf, kz_normal, kz_exit, show (↑i : Int).toNat = i from rfl, Nat.zero_add, Nat.reduceAdd, hFi, decide_eq_true_eq, decide_eq_false_iff_not, inR]
      rw [loopC_step F h4] at hl
      refine ⟨fun h5 => ⟨by omega, by omega, ⟨trivial, hKi, by omega, by omega⟩, by omega, ⟨q1n (i + 1, F i y) _ ⟨show i + 1 ≤ c by omega, ?_, (hFl i y h5).1, by have := (hFl i y h5).2; show F i y ≤ 1000000; omega⟩ (show c - (i + 1) < c - i by omega) (weak_of_eq (by kernel_rfl))⟩⟩, fun h5 => ⟨q1e _ (ExZ.pre (weak_of_eq (by kernel_rfl)) (fin ?_))⟩⟩
      · rw [if_neg (by omega)] at hl; exact hl
      · rw [if_pos (by omega)] at hl; exact hl.symm
    · have h4 : ¬ i < c := by simpa using h4
      obtain rfl : i = c := by omega
      simp only [holds_leaf, kz_exit]
      refine ⟨q1e _ (ExZ.pre (weak_of_eq (by kernel_rfl)) (fin ?_))⟩
      rw [Nat.sub_self] at hl
      exact hl.symm
  refine ⟨by omega, fun h1 => ⟨?_⟩, fun h1 => ⟨?_⟩⟩
  · rw [if_pos h1]
    exact ExZ.pre (weak_of_eq (by kernel_rfl)) (key (-1) (by omega) (by omega) (if_pos h1))
  · rw [if_neg h1]
    exact ExZ.pre (weak_of_eq (by kernel_rfl)) (key (x - 1) (by omega) (by omega) (if_neg h1))
set_option maxRecDepth 100000 in
theorem cnt_fnG (t : Nat) (ih : ModHOK Tryz.prog G 37 (mCnt2 t)) {kd fu wi off k n d : Int} {nm : ByteArray} {f g : Nat → Nat → PV} {c : Nat} {e : Nat → Nat → PV} {dp x : Int} (hk : ∀ i, i < c → ExOK t (kidC e i)) (hc : c ≤ 1000) (hd : 0 ≤ dp ∧ dp + (t + 1 : Nat) ≤ 100000) (hx : 0 ≤ x ∧ x ≤ 1000000)
    (id : Nat) (h : List AO) (hnd : noDup [id] = true) (hlv : liveAll h [id] = true) (hst : ∀ b, stIn Tryz.f37 [id] [id] [b] [.a [.p (.i .i64 kd), .p (.i .i64 fu), .p (.i .i64 wi), .p (.i .i64 off), .p (.i .i64 k), .p (.i .i64 n), .p (.i .i64 d), .p (.s nm), .p (.l 3 0 f), .p (.l 1 0 g), .p (.l 11 c e)], iV dp, .c (.ptr id 0)] h = stIn Tryz.f37 [1] [1] [b] [.a [.p (.i .i64 kd), .p (.i .i64 fu), .p (.i .i64 wi), .p (.i .i64 off), .p (.i .i64 k), .p (.i .i64 n), .p (.i .i64 d), .p (.s nm), .p (.l 3 0 f), .p (.l 1 0 g), .p (.l 11 c e)], iV dp, .c (.ptr 1 0)] [.gone, .cells 3 [.p (.i .i64 x)]]) :
    FnS Tryz.prog G 37 [.a [.p (.i .i64 kd), .p (.i .i64 fu), .p (.i .i64 wi), .p (.i .i64 off), .p (.i .i64 k), .p (.i .i64 n), .p (.i .i64 d), .p (.s nm), .p (.l 3 0 f), .p (.l 1 0 g), .p (.l 11 c e)], iV dp, .c (.ptr id 0)] h fun r h' => r = .t [] ∧ h' = outH [id] [id] [1] h [.pin 1 0, .cells 3 [.p (.i .i64 (cntF (t + 1) [.i .i64 kd, .i .i64 fu, .i .i64 wi, .i .i64 off, .i .i64 k, .i .i64 n, .i .i64 d, .s nm, .l 3 0 f, .l 1 0 g, .l 11 c e] dp x))]] := by
  refine fun β R w vs ha hh => (fn_mem (ρ := [id]) (ids := [id]) (ps := [2]) (pns := [0]) (js := [1]) (sl := [.c (.ptr 0 0)]) (vs := []) (hE := fun bs => [.pin 1 (nth 0 bs 0), .cells 3 [.p (.i .i64 (cntF (t + 1) [.i .i64 kd, .i .i64 fu, .i .i64 wi, .i .i64 off, .i .i64 k, .i .i64 n, .i .i64 d, .s nm, .l 3 0 f, .l 1 0 g, .l 11 c e] dp x))]]) Tryz.func37 (by kernel_rfl) hnd hlv (by simp) (fun i hi => ⟨0, by rw [List.mem_singleton.1 hi]; simp⟩) rfl rfl rfl (fun i pn h => ?_) (fun bs hb i pn j b h1 h2 h3 => ?_) (fun bs hb => ?_) β R w vs ha hh).mono ?_
  · cases i with
    | zero => obtain rfl : 0 = pn := by simpa using h
              exact ⟨0, by simp⟩
    | succ i => simp at h
  · cases i with
    | zero =>
      obtain rfl : 0 = pn := by simpa using h1
      obtain rfl : 1 = j := by simpa using h2
      cases bs with
      | nil => simp at hb
      | cons b0 bs =>
        obtain rfl : b0 = b := by simpa using h3
        exact ⟨rfl, rfl⟩
    | succ i => simp at h1
  · obtain ⟨b, rfl⟩ : ∃ b, bs = [b] := by
      cases bs with
      | nil => simp at hb
      | cons b0 bs => cases bs with
        | nil => exact ⟨b0, rfl⟩
        | cons _ _ => simp at hb
    clear hb ha hh
    rw [hst b]
    exact cnt_main t ih b hk hc hd hx
  · rintro e w' ⟨u, β', R', r, h', rfl, ⟨bs, hb, hx, hh'⟩, hr⟩
    exact ⟨u, β', R', r, h', rfl, ⟨hx, hh'.trans (out_pin1 _ _ _ _ _)⟩, hr⟩
set_option maxRecDepth 100000 in
theorem okCnt2 : ∀ t, t ≤ 1000 → ModHOK Tryz.prog G 37 (mCnt2 t) := by
  intro t
  induction t with
  | zero =>
    intro _ args h p v h' hm hp
    unfold mCnt2 at hm
    split at hm; rotate_left; · cases hm
    obtain ⟨rfl, rfl, rfl⟩ := some_three hm
    exact hp.2.1.elim
  | succ t ih =>
    intro ht args h p v h' hm hp
    unfold mCnt2 at hm
    split at hm; rotate_left; · cases hm
    rename_i q0 q1 q2 q3 q4 q5 q6 q7 q8 q9 q10 dp b o1 ty x rest
    obtain ⟨rfl, rfl, rfl⟩ := some_three hm
    clear hm
    obtain ⟨rfl, ⟨kd, fu, wi, off, k, n, d, nm, f, g, c, e, hcs, hn, hd, hc, hk⟩, hdp, hx⟩ := hp
    simp only [List.cons.injEq, and_true] at hcs
    obtain ⟨rfl, rfl, rfl, rfl, rfl, rfl, rfl, rfl, rfl, rfl, rfl⟩ := hcs
    refine FnS.unpin3 (j := 2) (b0 := b) rfl ?_
    exact cnt_fnG t (ih (by omega)) hk hc hdp hx 2 _ (by kernel_rfl) (by kernel_rfl) (fun b => by kernel_rfl)
set_option maxRecDepth 100000 in
theorem okCnt1 : ∀ t, t ≤ 1000 → ModHOK Tryz.prog G 37 (mCnt1 t) := by
  intro t ht args h p v h' hm hp
  unfold mCnt1 at hm
  split at hm; rotate_left; · cases hm
  rename_i q0 q1 q2 q3 q4 q5 q6 q7 q8 q9 q10 dp o0 ty x rest
  obtain ⟨rfl, rfl, rfl⟩ := some_three hm
  clear hm
  cases t with
  | zero => exact hp.2.1.elim
  | succ t =>
    obtain ⟨rfl, ⟨kd, fu, wi, off, k, n, d, nm, f, g, c, e, hcs, hn, hd, hc, hk⟩, hdp, hx⟩ := hp
    simp only [List.cons.injEq, and_true] at hcs
    obtain ⟨rfl, rfl, rfl, rfl, rfl, rfl, rfl, rfl, rfl, rfl, rfl⟩ := hcs
    exact cnt_fnG t (okCnt2 t (by omega)) hk hc hdp hx 1 _ (by kernel_rfl) (by kernel_rfl) (fun b => by kernel_rfl)
def fitB (t : Nat) (cs : List PV) : Bool := decide (0 ≤ cntF t cs 1 200)
def exModB (A : Nat → List PV → Prop) (F : Nat → List PV → Bool) (t : Nat) : Mod
  | [.a [.p q0, .p q1, .p q2, .p q3, .p q4, .p q5, .p q6, .p q7, .p q8, .p q9, .p q10]] => some (A t [q0, q1, q2, q3, q4, q5, q6, q7, q8, q9, q10], bV (F t [q0, q1, q2, q3, q4, q5, q6, q7, q8, q9, q10]))
  | _ => none
set_option maxRecDepth 100000 in
theorem okFits (t : Nat) (ht : t ≤ 1000) : ModOK Tryz.prog G 26 (exModB ExOK fitB t) := by
  intro args p v hm hp h
  unfold exModB at hm
  split at hm; rotate_left; · cases hm
  rename_i q0 q1 q2 q3 q4 q5 q6 q7 q8 q9 q10
  obtain ⟨rfl, rfl⟩ := some_pairU hm
  clear hm
  have hp0 := hp
  cases t with
  | zero => exact hp.elim
  | succ t =>
    obtain ⟨kd, fu, wi, off, k, n, d, nm, f, g, c, e, hcs, hn, hd, hc, hk⟩ := hp
    simp only [List.cons.injEq, and_true] at hcs
    obtain ⟨rfl, rfl, rfl, rfl, rfl, rfl, rfl, rfl, rfl, rfl, rfl⟩ := hcs
    have hs : SoundExt Tryz.prog G (extFt (t + 1)) := extH_sound (by simp; exact okCnt1 (t + 1) ht)
    refine fn_S Tryz.func26 (by kernel_rfl) rfl ?_ h
    refine ExS.evH hs (tFt1 kd fu wi off k n d nm f g c e (t + 1)) ?_
    simp only [holds_rq, holds_leaf, kf_ret']
    exact ⟨⟨trivial, hp0, ⟨by decide, by omega⟩, by decide, by decide⟩, ⟨VLe.refl _⟩⟩
end
def valF (t : Nat) (cs : List PV) : Int := if fitB t cs = false then 4 else chkF t cs
def valW (t : Nat) (cs : List PV) : Int := if 12 < depE t cs then 4 else if 200 < nodE t cs then 4 else chkF t cs
def extVp (t : Nat) : Ext := extOf [(26, exModB ExOK fitB t), (27, exMod ExOK chkF t)]
def extVq (t : Nat) : Ext := extOf [(41, exMod ExOK depE t), (42, exMod nodA nodE t), (43, exMod ExOK chkF t)]
theorem tVl1 (kd fu wi off k n d : Int) (nm : ByteArray) (f : Nat → Nat → PV) (g : Nat → Nat → PV) (c : Nat) (e : Nat → Nat → PV) (t : Nat) : exTs (extVp t) (pcs Tryz.prog Tryz.f16) (st0 Tryz.f16 [.a [.p (.i .i64 kd), .p (.i .i64 fu), .p (.i .i64 wi), .p (.i .i64 off), .p (.i .i64 k), .p (.i .i64 n), .p (.i .i64 d), .p (.s nm), .p (.l 3 0 f), .p (.l 1 0 g), .p (.l 11 c e)]]) (endG [] (resOf Tryz.prog Tryz.f16)) = Tr.rq
 (ExOK t
 [PV.i IntKind.i64 kd, PV.i IntKind.i64 fu, PV.i IntKind.i64 wi, PV.i IntKind.i64 off, PV.i IntKind.i64 k, PV.i IntKind.i64 n, PV.i IntKind.i64 d, PV.s nm, PV.l 3 0 f, PV.l 1 0 g, PV.l 11 c e])
 (bT
 (!fitB t
 [PV.i IntKind.i64 kd, PV.i IntKind.i64 fu, PV.i IntKind.i64 wi, PV.i IntKind.i64 off, PV.i IntKind.i64 k, PV.i IntKind.i64 n, PV.i IntKind.i64 d, PV.s nm, PV.l 3 0 f, PV.l 1 0 g, PV.l 11 c e])
 (.done .ret (St.mk [V.c (C.p (PV.i IntKind.i64 4))] []))
 (.rq
 (ExOK t
 [PV.i IntKind.i64 kd, PV.i IntKind.i64 fu, PV.i IntKind.i64 wi, PV.i IntKind.i64 off, PV.i IntKind.i64 k, PV.i IntKind.i64 n, PV.i IntKind.i64 d, PV.s nm, PV.l 3 0 f, PV.l 1 0 g, PV.l 11 c e])
 (.done .ret
 (St.mk [V.c (C.p (PV.i IntKind.i64 (chkF t [PV.i IntKind.i64 kd, PV.i IntKind.i64 fu, PV.i IntKind.i64 wi, PV.i IntKind.i64 off, PV.i IntKind.i64 k, PV.i IntKind.i64 n, PV.i IntKind.i64 d, PV.s nm, PV.l 3 0 f, PV.l 1 0 g, PV.l 11 c e])))] [])))) := by kernel_rfl
theorem tVw1 (kd fu wi off k n d : Int) (nm : ByteArray) (f : Nat → Nat → PV) (g : Nat → Nat → PV) (c : Nat) (e : Nat → Nat → PV) (t : Nat) : exTs (extVq t) (pcs Tryz.prog Tryz.f29) (st0 Tryz.f29 [.a [.p (.i .i64 kd), .p (.i .i64 fu), .p (.i .i64 wi), .p (.i .i64 off), .p (.i .i64 k), .p (.i .i64 n), .p (.i .i64 d), .p (.s nm), .p (.l 3 0 f), .p (.l 1 0 g), .p (.l 11 c e)]]) (endG [] (resOf Tryz.prog Tryz.f29)) = Tr.rq
 (ExOK t
 [PV.i IntKind.i64 kd, PV.i IntKind.i64 fu, PV.i IntKind.i64 wi, PV.i IntKind.i64 off, PV.i IntKind.i64 k, PV.i IntKind.i64 n, PV.i IntKind.i64 d, PV.s nm, PV.l 3 0 f, PV.l 1 0 g, PV.l 11 c e])
 (bT
 (decide
 (12 <
 depE t
 [PV.i IntKind.i64 kd, PV.i IntKind.i64 fu, PV.i IntKind.i64 wi, PV.i IntKind.i64 off, PV.i IntKind.i64 k, PV.i IntKind.i64 n, PV.i IntKind.i64 d, PV.s nm, PV.l 3 0 f, PV.l 1 0 g,
 PV.l 11 c e]))
 (.done .ret (St.mk [V.c (C.p (PV.i IntKind.i64 4))] []))
 (.rq
 (nodA t
 [PV.i IntKind.i64 kd, PV.i IntKind.i64 fu, PV.i IntKind.i64 wi, PV.i IntKind.i64 off, PV.i IntKind.i64 k, PV.i IntKind.i64 n, PV.i IntKind.i64 d, PV.s nm, PV.l 3 0 f, PV.l 1 0 g, PV.l 11 c e])
 (bT
 (decide
 (200 <
 nodE t
 [PV.i IntKind.i64 kd, PV.i IntKind.i64 fu, PV.i IntKind.i64 wi, PV.i IntKind.i64 off, PV.i IntKind.i64 k, PV.i IntKind.i64 n, PV.i IntKind.i64 d, PV.s nm, PV.l 3 0 f, PV.l 1 0 g,
 PV.l 11 c e]))
 (.done .ret (St.mk [V.c (C.p (PV.i IntKind.i64 4))] []))
 (.rq
 (ExOK t
 [PV.i IntKind.i64 kd, PV.i IntKind.i64 fu, PV.i IntKind.i64 wi, PV.i IntKind.i64 off, PV.i IntKind.i64 k, PV.i IntKind.i64 n, PV.i IntKind.i64 d, PV.s nm, PV.l 3 0 f, PV.l 1 0 g,
 PV.l 11 c e])
 (.done .ret
 (St.mk [V.c (C.p (PV.i IntKind.i64 (chkF t [PV.i IntKind.i64 kd, PV.i IntKind.i64 fu, PV.i IntKind.i64 wi, PV.i IntKind.i64 off, PV.i IntKind.i64 k, PV.i IntKind.i64 n, PV.i IntKind.i64 d, PV.s nm, PV.l 3 0 f, PV.l 1 0 g, PV.l 11 c e])))] [])))))) := by kernel_rfl
section
variable {G : Nat → Option Obj}
set_option maxRecDepth 100000 in
theorem okPValid (hG : GrpG G) (t : Nat) (ht : t ≤ 1000) : ModOK Tryz.prog G 16 (exMod ExOK valF t) := by
  intro args p v hm hp h
  unfold exMod at hm
  split at hm; rotate_left; · cases hm
  rename_i q0 q1 q2 q3 q4 q5 q6 q7 q8 q9 q10
  obtain ⟨rfl, rfl⟩ := some_pairU hm
  clear hm
  have hp0 := hp
  cases t with
  | zero => exact hp.elim
  | succ t =>
    obtain ⟨kd, fu, wi, off, k, n, d, nm, f, g, c, e, hcs, hn, hd, hc, hk⟩ := hp
    simp only [List.cons.injEq, and_true] at hcs
    obtain ⟨rfl, rfl, rfl, rfl, rfl, rfl, rfl, rfl, rfl, rfl, rfl⟩ := hcs
    have hs : SoundExt Tryz.prog G (extVp (t + 1)) := extOf_sound (by simp; exact ⟨okFits (t + 1) ht, okCheck hG (t + 1)⟩)
    refine fn_S Tryz.func16 (by kernel_rfl) rfl ?_ h
    refine ExS.evH hs (tVl1 kd fu wi off k n d nm f g c e (t + 1)) ?_
    simp only [holds_bT, holds_rq, holds_leaf, kf_ret', Bool.not_eq_true', Bool.not_eq_false']
    refine ⟨hp0, fun h1 => ⟨?_⟩, fun h1 => ⟨hp0, ⟨?_⟩⟩⟩
    · unfold valF; rw [if_pos h1]; exact VLe.refl _
    · unfold valF; rw [if_neg (by simp [h1])]; exact VLe.refl _
set_option maxRecDepth 100000 in
theorem okPValid7 (t : Nat) (ht : t ≤ 1000) : ModOK Tryz.prog G 29 (exMod nodA valW t) := by
  intro args p v hm hp h
  unfold exMod at hm
  split at hm; rotate_left; · cases hm
  rename_i q0 q1 q2 q3 q4 q5 q6 q7 q8 q9 q10
  obtain ⟨rfl, rfl⟩ := some_pairU hm
  clear hm
  have hp0 := hp
  cases t with
  | zero => exact hp.1.elim
  | succ t =>
    obtain ⟨⟨kd, fu, wi, off, k, n, d, nm, f, g, c, e, hcs, hn, hd, hc, hk⟩, hnb⟩ := hp
    simp only [List.cons.injEq, and_true] at hcs
    obtain ⟨rfl, rfl, rfl, rfl, rfl, rfl, rfl, rfl, rfl, rfl, rfl⟩ := hcs
    have hs : SoundExt Tryz.prog G (extVq (t + 1)) := extOf_sound (by simp; exact ⟨okDepthE (t + 1) ht, okNodesE (t + 1), okValid7 (t + 1)⟩)
    refine fn_S Tryz.func29 (by kernel_rfl) rfl ?_ h
    refine ExS.evH hs (tVw1 kd fu wi off k n d nm f g c e (t + 1)) ?_
    simp only [holds_bT, holds_rq, holds_leaf, kf_ret', decide_eq_true_eq, decide_eq_false_iff_not]
    unfold valW
    refine ⟨hp0.1, fun h1 => ⟨?_⟩, fun h1 => ⟨hp0, fun h2 => ⟨?_⟩, fun h2 => ⟨hp0.1, ⟨?_⟩⟩⟩⟩
    · rw [if_pos h1]; exact VLe.refl _
    · rw [if_neg h1, if_pos h2]; exact VLe.refl _
    · rw [if_neg h1, if_neg h2]; exact VLe.refl _
end
end Go.AE
namespace Go.AE
set_option linter.unusedVariables false
set_option linter.unusedSimpArgs false
open Go.Proofs Go.Proofs.YtecilaemjajcnaaGreatDoor
def nF : Nat → Nat → PV := fun _ _ => .b false
def rowK (l : List (List PV)) : Nat → Nat → PV := fun e o => nth (.b false) (nth [] l e) o
def leafC (w : Int) (s : ByteArray) : List PV := [.i .i64 1, .i .i64 3, .i .i64 w, .i .i64 0, .i .i64 0, .i .i64 0, .i .i64 0, .s s, .l 3 0 nF, .l 1 0 nF, .l 11 0 nF]
def midC (w : Int) (s : ByteArray) : List PV := [.i .i64 2, .i .i64 0, .i .i64 0, .i .i64 0, .i .i64 0, .i .i64 0, .i .i64 0, .s ⟨#[]⟩, .l 3 0 nF, .l 1 0 nF, .l 11 1 (rowK [leafC w s])]
def topC (w : Int) (a b : ByteArray) : List PV := [.i .i64 3, .i .i64 3, .i .i64 0, .i .i64 0, .i .i64 0, .i .i64 0, .i .i64 0, .s ⟨#[]⟩, .l 3 0 nF, .l 1 0 nF, .l 11 2 (rowK [midC w a, midC w b])]
def mSumE : Mod
  | [.c (.p (.s s)), .c (.p (.i .i64 w))] => some (True, .a (mapP (midC w s)))
  | _ => none
theorem tSu (w : Int) (s : ByteArray) : exTs ext0 (pcs Tryz.prog Tryz.f18) (st0 Tryz.f18 [sV s, iV w]) (endG [] (resOf Tryz.prog Tryz.f18)) = Tr.rq
 (1 ≤ 1 ∧
 ∀ (e o : Nat),
 e < 1 →
 o < 11 →
 isF
 (nth C.top
 [C.p (PV.i IntKind.i64 1), C.p (PV.i IntKind.i64 3), C.p (PV.i IntKind.i64 w), C.p (PV.i IntKind.i64 0), C.p (PV.i IntKind.i64 0), C.p (PV.i IntKind.i64 0), C.p (PV.i IntKind.i64 0),
 C.p (PV.s s), C.p (PV.z (Value.slice none 0 0)), C.p (PV.z (Value.slice none 0 0)), C.p (PV.z (Value.slice none 0 0))]
 ((e + 0) * 11 + o)) =
 true)
 (.done .ret
 (St.mk [V.a [C.p (PV.i IntKind.i64 2), C.p (PV.i IntKind.i64 0), C.p (PV.i IntKind.i64 0), C.p (PV.i IntKind.i64 0), C.p (PV.i IntKind.i64 0), C.p (PV.i IntKind.i64 0), C.p (PV.i IntKind.i64 0), C.p (PV.s (ByteArray.mk #[])), C.p (PV.z (Value.slice none 0 0)), C.p (PV.z (Value.slice none 0 0)), C.p (PV.l 11 1 fun e o => unP (nth C.top [C.p (PV.i IntKind.i64 1), C.p (PV.i IntKind.i64 3), C.p (PV.i IntKind.i64 w), C.p (PV.i IntKind.i64 0), C.p (PV.i IntKind.i64 0), C.p (PV.i IntKind.i64 0), C.p (PV.i IntKind.i64 0), C.p (PV.s s), C.p (PV.z (Value.slice none 0 0)), C.p (PV.z (Value.slice none 0 0)), C.p (PV.z (Value.slice none 0 0))] ((e + 0) * 11 + o)))]] [])) := by kernel_rfl
theorem tRc (w : Int) (s : ByteArray) (b : Nat) : exTs ext0 (pcs Tryz.prog Tryz.f15) (stIn Tryz.f15 [0] [0] [b] [sV s, .c (.ptr 0 0)] [.cells 3 [.p (.i .i64 w)]]) (endM [1] [] (resOf Tryz.prog Tryz.f15)) = Tr.done X.ret
 (cst 2 [(0, .c (.ptr 0 0)), (1, .a [.p (.i .i64 2), .p (.i .i64 0), .p (.i .i64 0), .p (.i .i64 0), .p (.i .i64 0), .p (.i .i64 0), .p (.i .i64 0), .p (.s (ByteArray.mk #[])), .p (.z (Value.slice none 0 0)), .p (.z (Value.slice none 0 0)), .sl 1 11 0 1])] [.pin 2 b, .row 32 11 1 fun e o => renC [1, 4, 0] (nth C.top [C.p (PV.i IntKind.i64 1), C.p (PV.i IntKind.i64 3), C.p (PV.i IntKind.i64 w), C.p (PV.i IntKind.i64 0), C.p (PV.i IntKind.i64 0), C.p (PV.i IntKind.i64 0), C.p (PV.i IntKind.i64 0), C.p (PV.s s), C.p (PV.z (Value.slice none 0 0)), C.p (PV.z (Value.slice none 0 0)), C.p (PV.z (Value.slice none 0 0))] (e * 11 + o)), .cells 3 [.p (.i .i64 w)]]) := by kernel_rfl
theorem PLes.nth {xs vs : List PV} (h : PLes xs vs) : ∀ o, o < xs.length → PLe (unP (nth C.top (mapP xs) o)) (Go.AE.nth (.b false) vs o) := by
  induction h with
  | nil => intro o ho; cases ho
  | cons h1 _ ih =>
    intro o ho
    cases o with
    | zero => exact h1
    | succ o => exact ih o (by simpa using ho)
theorem isF_nth {xs : List PV} : ∀ o, o < xs.length → isF (nth C.top (mapP xs) o) = true := by
  induction xs with
  | nil => intro o ho; cases ho
  | cons x xs ih =>
    intro o ho
    cases o with
    | zero => rfl
    | succ o => exact ih o (by simpa using ho)
def leafR (w : Int) (s : ByteArray) : List PV := [.i .i64 1, .i .i64 3, .i .i64 w, .i .i64 0, .i .i64 0, .i .i64 0, .i .i64 0, .s s, .z (.slice none 0 0), .z (.slice none 0 0), .z (.slice none 0 0)]
theorem leafR_le (w : Int) (s : ByteArray) : PLes (leafR w s) (leafC w s) :=
  .cons (PLe.refl _) (.cons (PLe.refl _) (.cons (PLe.refl _) (.cons (PLe.refl _) (.cons (PLe.refl _) (.cons (PLe.refl _) (.cons (PLe.refl _) (.cons (PLe.refl _) (.cons (PLe.nil _ _) (.cons (PLe.nil _ _) (.cons (PLe.nil _ _) .nil))))))))))
def midR (s : Nat → Nat → PV) : List PV := [.i .i64 2, .i .i64 0, .i .i64 0, .i .i64 0, .i .i64 0, .i .i64 0, .i .i64 0, .s ⟨#[]⟩, .z (.slice none 0 0), .z (.slice none 0 0), .l 11 1 s]
theorem midR_le {w : Int} {s : ByteArray} {f : Nat → Nat → PV} (h : ∀ e o, e < 1 → o < 11 → PLe (f e o) (rowK [leafC w s] e o)) : PLes (midR f) (midC w s) :=
  .cons (PLe.refl _) (.cons (PLe.refl _) (.cons (PLe.refl _) (.cons (PLe.refl _) (.cons (PLe.refl _) (.cons (PLe.refl _) (.cons (PLe.refl _) (.cons (PLe.refl _) (.cons (PLe.nil _ _) (.cons (PLe.nil _ _) (.cons (PLe.l h) .nil))))))))))
def mRat1 : ModH
  | [.c (.p (.s s)), .c (.ptr 0 0)], .cells ty [.p (.i .i64 w)] :: rest => some (ty = 3, .a (mapP (midC w s)), outH [0] [0] [1] (.cells ty [.p (.i .i64 w)] :: rest) [.pin 1 0, .cells ty [.p (.i .i64 w)]])
  | _, _ => none
section
variable {G : Nat → Option Obj}
set_option maxRecDepth 100000 in
theorem okSumE : ModOK Tryz.prog G 18 mSumE := by
  intro args p v hm hp h
  unfold mSumE at hm
  split at hm; rotate_left; · cases hm
  rename_i s w
  obtain ⟨rfl, rfl⟩ := some_pairU hm
  clear hm
  refine fn_S Tryz.func18 (by kernel_rfl) rfl ?_ h
  refine ExS.evH ext0_sound (tSu w s) ?_
  simp only [holds_bT, holds_rq, holds_leaf, kf_ret', decide_eq_true_eq, decide_eq_false_iff_not]
  refine ⟨⟨Nat.le_refl _, fun e o he ho => ?_⟩, ⟨VLe.a (midR_le ?_)⟩⟩
  · obtain rfl : e = 0 := by omega
    rw [Nat.add_zero, Nat.zero_mul, Nat.zero_add]
    exact isF_nth (xs := leafR w s) o ho
  · intro e o he ho
    obtain rfl : e = 0 := by omega
    rw [Nat.add_zero, Nat.zero_mul, Nat.zero_add]
    exact (leafR_le w s).nth o ho
set_option maxRecDepth 100000 in
theorem okRat1 : ModHOK Tryz.prog G 15 mRat1 := by
  intro args h p v h' hm hp
  unfold mRat1 at hm
  split at hm; rotate_left; · cases hm
  rename_i s ty w rest
  obtain ⟨rfl, rfl, rfl⟩ := some_three hm
  clear hm
  subst hp
  refine fun β R w0 vs ha hh => (fn_mem (ρ := [0]) (ids := [0]) (ps := [1]) (pns := [0]) (js := [1]) (sl := [.c (.ptr 0 0)]) (vs := [.a (mapP (midC w s))]) (hE := fun bs => [.pin 1 (nth 0 bs 0), .cells 3 [.p (.i .i64 w)]]) Tryz.func15 (by kernel_rfl) (by kernel_rfl) (by kernel_rfl) (by simp) (fun i hi => ⟨0, by rw [List.mem_singleton.1 hi]; simp⟩) rfl rfl rfl (fun i pn h => ?_) (fun bs hb i pn j b h1 h2 h3 => ?_) (fun bs hb => ?_) β R w0 vs ha hh).mono ?_
  · cases i with
    | zero => obtain rfl : 0 = pn := by simpa using h
              exact ⟨0, by simp⟩
    | succ i => simp at h
  · cases i with
    | zero =>
      obtain rfl : 0 = pn := by simpa using h1
      obtain rfl : 1 = j := by simpa using h2
      cases bs with
      | nil => simp at hb
      | cons b0 bs =>
        obtain rfl : b0 = b := by simpa using h3
        exact ⟨rfl, rfl⟩
    | succ i => simp at h1
  · obtain ⟨b, rfl⟩ : ∃ b, bs = [b] := by
      cases bs with
      | nil => simp at hb
      | cons b0 bs => cases bs with
        | nil => exact ⟨b0, rfl⟩
        | cons _ _ => simp at hb
    clear hb ha hh
    refine ExZ.evH ext0_sound (tRc w s b) ?_
    simp only [holds_bT, holds_rq, holds_leaf, kz_normal, kz_ret]
    refine ⟨(weak_frzL (id := 1) (ty := 32) (sz := 11) (n := 1) (rowK [leafC w s]) rfl ?_ ?_ (ps := [(0, 1)]) (by kernel_rfl) (by simp)).trans ((weak_slot (j := 1) (y := V.a (mapP (midC w s))) ?_).trans ((weak_proj [0, 2] [true, true] (by kernel_rfl) _).trans (weak_of_eq (by kernel_rfl))))⟩
    · intro e o he ho
      obtain rfl : e = 0 := by omega
      rw [Nat.zero_mul, Nat.zero_add]
      match o, ho with
      | 0, _ | 1, _ | 2, _ | 3, _ | 4, _ | 5, _ | 6, _ | 7, _ | 8, _ | 9, _ | 10, _ => rfl
    · intro e o he ho
      obtain rfl : e = 0 := by omega
      rw [Nat.zero_mul, Nat.zero_add]
      have hr : unP (renC [1, 4, 0] (nth C.top (mapP (leafR w s)) o)) = unP (nth C.top (mapP (leafR w s)) o) := by
        match o, ho with
        | 0, _ | 1, _ | 2, _ | 3, _ | 4, _ | 5, _ | 6, _ | 7, _ | 8, _ | 9, _ | 10, _ => rfl
      have := (leafR_le w s).nth o ho
      rw [← hr] at this
      exact this
    · exact fun β R w1 u h => VLe.a (midR_le (f := rowK [leafC w s]) fun _ _ _ _ => PLe.refl _) β R w1 u (VLe.of_eq (by kernel_rfl) β R w1 u h)
  · rintro e w' ⟨u, β', R', r, h', rfl, ⟨bs, hb, hx, hh'⟩, hr⟩
    exact ⟨u, β', R', r, h', rfl, ⟨hx, hh'.trans (out_pin1 _ _ _ _ _)⟩, hr⟩
end
end Go.AE
namespace Go.AE
set_option linter.unusedVariables false
set_option linter.unusedSimpArgs false
open Go.Proofs Go.Proofs.YtecilaemjajcnaaGreatDoor
def mText0 : Mod
  | [.c (.p (.l 1 0 _)), .c (.p (.l 1 0 _))] => some (True, bV true)
  | _ => none
def mSameE (t : Nat) : Mod
  | [.a [.p q0, .p q1, .p q2, .p q3, .p q4, .p q5, .p q6, .p q7, .p q8, .p q9, .p q10], .a [.p r0, .p r1, .p r2, .p r3, .p r4, .p r5, .p r6, .p r7, .p r8, .p r9, .p r10]] => some (ExOK t [q0, q1, q2, q3, q4, q5, q6, q7, q8, q9, q10] ∧ [r0, r1, r2, r3, r4, r5, r6, r7, r8, r9, r10] = [q0, q1, q2, q3, q4, q5, q6, q7, q8, q9, q10], bV true)
  | _ => none
def extT0 : Ext := extOf [(30, mText0)]
def extSE (t : Nat) : Ext := extOf [(20, mSameE t)]
def extWf (t : Nat) : Ext := extOf [(17, mName), (10, mValidQ), (29, exMod nodA valW t)]
theorem tTx1 (f g : Nat → Nat → PV) : exTs ext0 (takeL 4 (pcs Tryz.prog Tryz.f30)) (st0 Tryz.f30 [.c (.p (.l 1 0 f)), .c (.p (.l 1 0 g))]) (endG (msk 26 [0, 1, 5]) (resOf Tryz.prog Tryz.f30)) = Tr.done X.normal
 (cst 26 [(0, .c (.p (.l 1 0 f))), (1, .c (.p (.l 1 0 g))), (5, .c (.p (.i .i64 0)))] []) := by kernel_rfl
theorem tTx2 (f g : Nat → Nat → PV) : exTs ext0 (lpB (pcs Tryz.prog Tryz.f30) 4) (cst 26 [(0, .c (.p (.l 1 0 f))), (1, .c (.p (.l 1 0 g))), (5, iV 0)] []) (endG (msk 26 [0, 1, 5]) (resOf Tryz.prog Tryz.f30)) = Tr.done (X.exit 0)
 (cst 26 [(0, .c (.p (.l 1 0 f))), (1, .c (.p (.l 1 0 g))), (5, .c (.p (.i .i64 0)))] []) := by kernel_rfl
theorem tTx3 (f g : Nat → Nat → PV) : exTs ext0 (dropL 5 (pcs Tryz.prog Tryz.f30)) (cst 26 [(0, .c (.p (.l 1 0 f))), (1, .c (.p (.l 1 0 g))), (5, iV 0)] []) (endG [] (resOf Tryz.prog Tryz.f30)) = Tr.done X.ret (St.mk [V.c (C.p (PV.b true))] []) := by kernel_rfl
theorem tSe1 (kd fu wi off k n d : Int) (nm : ByteArray) (f : Nat → Nat → PV) (g : Nat → Nat → PV) (c : Nat) (e : Nat → Nat → PV) : exTs extT0 (takeL 7 (pcs Tryz.prog Tryz.f20)) (st0 Tryz.f20 [.a [.p (.i .i64 kd), .p (.i .i64 fu), .p (.i .i64 wi), .p (.i .i64 off), .p (.i .i64 k), .p (.i .i64 n), .p (.i .i64 d), .p (.s nm), .p (.l 3 0 f), .p (.l 1 0 g), .p (.l 11 c e)], .a [.p (.i .i64 kd), .p (.i .i64 fu), .p (.i .i64 wi), .p (.i .i64 off), .p (.i .i64 k), .p (.i .i64 n), .p (.i .i64 d), .p (.s nm), .p (.l 3 0 f), .p (.l 1 0 g), .p (.l 11 c e)]]) (endG (msk 119 [2, 3, 6]) (resOf Tryz.prog Tryz.f20)) = bT (kd != kd) (.done .ret (St.mk [V.c (C.p (PV.b false))] []))
 (bT (fu != fu) (.done .ret (St.mk [V.c (C.p (PV.b false))] []))
 (bT (wi != wi) (.done .ret (St.mk [V.c (C.p (PV.b false))] []))
 (bT (off != off) (.done .ret (St.mk [V.c (C.p (PV.b false))] []))
 (bT (k != k) (.done .ret (St.mk [V.c (C.p (PV.b false))] []))
 (bT
 (match true with
 | true => !(n == n && (d == d && true))
 | false => n == n && (d == d && true))
 (.done .ret (St.mk [V.c (C.p (PV.b false))] []))
 (bT (!nm.toList == nm.toList) (.done .ret (St.mk [V.c (C.p (PV.b false))] []))
 (bT ((↑c : Int) != (↑c : Int)) (.done .ret (St.mk [V.c (C.p (PV.b false))] []))
 (.rq True
 (.done .normal
 (cst 119 [(2, .c (.ptr 0 0)), (3, .c (.ptr 1 0)), (6, .c (.p (.i .i64 0)))] [.cells 32 [.p (.i .i64 kd), .p (.i .i64 fu), .p (.i .i64 wi), .p (.i .i64 off), .p (.i .i64 k), .p (.i .i64 n), .p (.i .i64 d), .p (.s nm), .p (.l 3 0 f), .p (.l 1 0 g), .p (.l 11 c e)], .cells 32 [.p (.i .i64 kd), .p (.i .i64 fu), .p (.i .i64 wi), .p (.i .i64 off), .p (.i .i64 k), .p (.i .i64 n), .p (.i .i64 d), .p (.s nm), .p (.l 3 0 f), .p (.l 1 0 g), .p (.l 11 c e)]])))))))))) := by kernel_rfl
theorem tSe2 (kd fu wi off k n d : Int) (nm : ByteArray) (f : Nat → Nat → PV) (g : Nat → Nat → PV) (c : Nat) (e : Nat → Nat → PV) : exTs ext0 (lpB (pcs Tryz.prog Tryz.f20) 7) (cst 119 [(2, .c (.ptr 0 0)), (3, .c (.ptr 1 0)), (6, iV 0)] [.cells 32 [.p (.i .i64 kd), .p (.i .i64 fu), .p (.i .i64 wi), .p (.i .i64 off), .p (.i .i64 k), .p (.i .i64 n), .p (.i .i64 d), .p (.s nm), .p (.l 3 0 f), .p (.l 1 0 g), .p (.l 11 c e)], .cells 32 [.p (.i .i64 kd), .p (.i .i64 fu), .p (.i .i64 wi), .p (.i .i64 off), .p (.i .i64 k), .p (.i .i64 n), .p (.i .i64 d), .p (.s nm), .p (.l 3 0 f), .p (.l 1 0 g), .p (.l 11 c e)]]) (endG (msk 119 [2, 3, 6]) (resOf Tryz.prog Tryz.f20)) = Tr.done (X.exit 0)
 (cst 119 [(2, .c (.ptr 0 0)), (3, .c (.ptr 1 0)), (6, .c (.p (.i .i64 0)))] [.cells 32 [.p (.i .i64 kd), .p (.i .i64 fu), .p (.i .i64 wi), .p (.i .i64 off), .p (.i .i64 k), .p (.i .i64 n), .p (.i .i64 d), .p (.s nm), .p (.l 3 0 f), .p (.l 1 0 g), .p (.l 11 c e)], .cells 32 [.p (.i .i64 kd), .p (.i .i64 fu), .p (.i .i64 wi), .p (.i .i64 off), .p (.i .i64 k), .p (.i .i64 n), .p (.i .i64 d), .p (.s nm), .p (.l 3 0 f), .p (.l 1 0 g), .p (.l 11 c e)]]) := by kernel_rfl
theorem tSe3 (kd fu wi off k n d : Int) (nm : ByteArray) (f : Nat → Nat → PV) (g : Nat → Nat → PV) (c : Nat) (e : Nat → Nat → PV) : exTs ext0 (takeL 1 (dropL 8 (pcs Tryz.prog Tryz.f20))) (cst 119 [(2, .c (.ptr 0 0)), (3, .c (.ptr 1 0)), (6, iV 0)] [.cells 32 [.p (.i .i64 kd), .p (.i .i64 fu), .p (.i .i64 wi), .p (.i .i64 off), .p (.i .i64 k), .p (.i .i64 n), .p (.i .i64 d), .p (.s nm), .p (.l 3 0 f), .p (.l 1 0 g), .p (.l 11 c e)], .cells 32 [.p (.i .i64 kd), .p (.i .i64 fu), .p (.i .i64 wi), .p (.i .i64 off), .p (.i .i64 k), .p (.i .i64 n), .p (.i .i64 d), .p (.s nm), .p (.l 3 0 f), .p (.l 1 0 g), .p (.l 11 c e)]]) (endG (msk 119 [2, 3, 7]) (resOf Tryz.prog Tryz.f20)) = Tr.done X.normal
 (cst 119 [(2, .c (.ptr 0 0)), (3, .c (.ptr 1 0)), (7, .c (.p (.i .i64 0)))] [.cells 32 [.p (.i .i64 kd), .p (.i .i64 fu), .p (.i .i64 wi), .p (.i .i64 off), .p (.i .i64 k), .p (.i .i64 n), .p (.i .i64 d), .p (.s nm), .p (.l 3 0 f), .p (.l 1 0 g), .p (.l 11 c e)], .cells 32 [.p (.i .i64 kd), .p (.i .i64 fu), .p (.i .i64 wi), .p (.i .i64 off), .p (.i .i64 k), .p (.i .i64 n), .p (.i .i64 d), .p (.s nm), .p (.l 3 0 f), .p (.l 1 0 g), .p (.l 11 c e)]]) := by kernel_rfl
theorem tSe4 (kd fu wi off k n d : Int) (nm : ByteArray) (f : Nat → Nat → PV) (g : Nat → Nat → PV) (c : Nat) (e : Nat → Nat → PV) (t i : Nat) : exTs (extSE t) (lpB (pcs Tryz.prog Tryz.f20) 9) (cst 119 [(2, .c (.ptr 0 0)), (3, .c (.ptr 1 0)), (7, iV (i : Nat))] [.cells 32 [.p (.i .i64 kd), .p (.i .i64 fu), .p (.i .i64 wi), .p (.i .i64 off), .p (.i .i64 k), .p (.i .i64 n), .p (.i .i64 d), .p (.s nm), .p (.l 3 0 f), .p (.l 1 0 g), .p (.l 11 c e)], .cells 32 [.p (.i .i64 kd), .p (.i .i64 fu), .p (.i .i64 wi), .p (.i .i64 off), .p (.i .i64 k), .p (.i .i64 n), .p (.i .i64 d), .p (.s nm), .p (.l 3 0 f), .p (.l 1 0 g), .p (.l 11 c e)]]) (endG (msk 119 [2, 3, 7]) (resOf Tryz.prog Tryz.f20)) = bT (decide ((↑i : Int) < (↑c : Int)))
 (.rq (0 ≤ (↑i : Int) ∧ (↑i : Int) < (↑c : Int))
 (.rq (0 ≤ (↑i : Int) ∧ (↑i : Int) < (↑c : Int))
 (.rq
 (ExOK t
 [e (↑i : Int).toNat 0, e (↑i : Int).toNat 1, e (↑i : Int).toNat 2, e (↑i : Int).toNat 3, e (↑i : Int).toNat 4, e (↑i : Int).toNat 5, e (↑i : Int).toNat 6, e (↑i : Int).toNat 7,
 e (↑i : Int).toNat 8, e (↑i : Int).toNat 9, e (↑i : Int).toNat 10] ∧
 [e (↑i : Int).toNat 0, e (↑i : Int).toNat 1, e (↑i : Int).toNat 2, e (↑i : Int).toNat 3, e (↑i : Int).toNat 4, e (↑i : Int).toNat 5, e (↑i : Int).toNat 6, e (↑i : Int).toNat 7,
 e (↑i : Int).toNat 8, e (↑i : Int).toNat 9, e (↑i : Int).toNat 10] =
 [e (↑i : Int).toNat 0, e (↑i : Int).toNat 1, e (↑i : Int).toNat 2, e (↑i : Int).toNat 3, e (↑i : Int).toNat 4, e (↑i : Int).toNat 5, e (↑i : Int).toNat 6, e (↑i : Int).toNat 7,
 e (↑i : Int).toNat 8, e (↑i : Int).toNat 9, e (↑i : Int).toNat 10])
 (.rq (inR IntKind.i64 ((↑i : Int) + 1))
 (.done .normal
 (cst 119 [(2, .c (.ptr 0 0)), (3, .c (.ptr 1 0)), (7, .c (.p (.i .i64 ((↑i : Int) + 1))))] [.cells 32 [.p (.i .i64 kd), .p (.i .i64 fu), .p (.i .i64 wi), .p (.i .i64 off), .p (.i .i64 k), .p (.i .i64 n), .p (.i .i64 d), .p (.s nm), .p (.l 3 0 f), .p (.l 1 0 g), .p (.l 11 c e)], .cells 32 [.p (.i .i64 kd), .p (.i .i64 fu), .p (.i .i64 wi), .p (.i .i64 off), .p (.i .i64 k), .p (.i .i64 n), .p (.i .i64 d), .p (.s nm), .p (.l 3 0 f), .p (.l 1 0 g), .p (.l 11 c e)]]))))))
 (.done (.exit 2)
 (cst 119 [(2, .c (.ptr 0 0)), (3, .c (.ptr 1 0)), (7, .c (.p (.i .i64 (↑i : Int))))] [.cells 32 [.p (.i .i64 kd), .p (.i .i64 fu), .p (.i .i64 wi), .p (.i .i64 off), .p (.i .i64 k), .p (.i .i64 n), .p (.i .i64 d), .p (.s nm), .p (.l 3 0 f), .p (.l 1 0 g), .p (.l 11 c e)], .cells 32 [.p (.i .i64 kd), .p (.i .i64 fu), .p (.i .i64 wi), .p (.i .i64 off), .p (.i .i64 k), .p (.i .i64 n), .p (.i .i64 d), .p (.s nm), .p (.l 3 0 f), .p (.l 1 0 g), .p (.l 11 c e)]])) := by kernel_rfl
theorem tSe5 (kd fu wi off k n d : Int) (nm : ByteArray) (f : Nat → Nat → PV) (g : Nat → Nat → PV) (c : Nat) (e : Nat → Nat → PV) (i : Nat) : exTs ext0 (dropL 10 (pcs Tryz.prog Tryz.f20)) (cst 119 [(2, .c (.ptr 0 0)), (3, .c (.ptr 1 0)), (7, iV (i : Nat))] [.cells 32 [.p (.i .i64 kd), .p (.i .i64 fu), .p (.i .i64 wi), .p (.i .i64 off), .p (.i .i64 k), .p (.i .i64 n), .p (.i .i64 d), .p (.s nm), .p (.l 3 0 f), .p (.l 1 0 g), .p (.l 11 c e)], .cells 32 [.p (.i .i64 kd), .p (.i .i64 fu), .p (.i .i64 wi), .p (.i .i64 off), .p (.i .i64 k), .p (.i .i64 n), .p (.i .i64 d), .p (.s nm), .p (.l 3 0 f), .p (.l 1 0 g), .p (.l 11 c e)]]) (endG [] (resOf Tryz.prog Tryz.f20)) = Tr.done X.ret (St.mk [V.c (C.p (PV.b true))] []) := by kernel_rfl
theorem tSr1 (na : ByteArray) (ve : Int) (kd fu wi off k n d : Int) (nm : ByteArray) (f : Nat → Nat → PV) (g : Nat → Nat → PV) (c : Nat) (e : Nat → Nat → PV) (ab : Bool) (nu de ho cl dl : Int) (t : Nat) : exTs (extSE t) (pcs Tryz.prog Tryz.f9) (st0 Tryz.f9 [.a [.p (.s na), .p (.i .i64 ve), .p (.i .i64 kd), .p (.i .i64 fu), .p (.i .i64 wi), .p (.i .i64 off), .p (.i .i64 k), .p (.i .i64 n), .p (.i .i64 d), .p (.s nm), .p (.l 3 0 f), .p (.l 1 0 g), .p (.l 11 c e), .p (.b ab), .p (.i .i64 nu), .p (.i .i64 de), .p (.i .i64 ho), .p (.i .i64 cl), .p (.i .i64 dl)], .a [.p (.s na), .p (.i .i64 ve), .p (.i .i64 kd), .p (.i .i64 fu), .p (.i .i64 wi), .p (.i .i64 off), .p (.i .i64 k), .p (.i .i64 n), .p (.i .i64 d), .p (.s nm), .p (.l 3 0 f), .p (.l 1 0 g), .p (.l 11 c e), .p (.b ab), .p (.i .i64 nu), .p (.i .i64 de), .p (.i .i64 ho), .p (.i .i64 cl), .p (.i .i64 dl)]]) (endG [] (resOf Tryz.prog Tryz.f9)) = Tr.rq
 (ExOK t
 [PV.i IntKind.i64 kd, PV.i IntKind.i64 fu, PV.i IntKind.i64 wi, PV.i IntKind.i64 off, PV.i IntKind.i64 k, PV.i IntKind.i64 n, PV.i IntKind.i64 d, PV.s nm, PV.l 3 0 f, PV.l 1 0 g, PV.l 11 c e] ∧
 [PV.i IntKind.i64 kd, PV.i IntKind.i64 fu, PV.i IntKind.i64 wi, PV.i IntKind.i64 off, PV.i IntKind.i64 k, PV.i IntKind.i64 n, PV.i IntKind.i64 d, PV.s nm, PV.l 3 0 f, PV.l 1 0 g, PV.l 11 c e] =
 [PV.i IntKind.i64 kd, PV.i IntKind.i64 fu, PV.i IntKind.i64 wi, PV.i IntKind.i64 off, PV.i IntKind.i64 k, PV.i IntKind.i64 n, PV.i IntKind.i64 d, PV.s nm, PV.l 3 0 f, PV.l 1 0 g, PV.l 11 c e])
 (bT (na.toList == na.toList)
 (bT (ve == ve)
 (bT (ab == ab)
 (bT
 (match false with
 | true => !(nu == nu && (de == de && true))
 | false => nu == nu && (de == de && true))
 (bT (ho == ho) (bT (cl == cl) (.done .ret (St.mk [V.c (C.p (PV.b (dl == dl)))] [])) (.done .ret (St.mk [V.c (C.p (PV.b false))] [])))
 (.done .ret (St.mk [V.c (C.p (PV.b false))] [])))
 (.done .ret (St.mk [V.c (C.p (PV.b false))] [])))
 (.done .ret (St.mk [V.c (C.p (PV.b false))] [])))
 (.done .ret (St.mk [V.c (C.p (PV.b false))] [])))
 (.done .ret (St.mk [V.c (C.p (PV.b false))] []))) := by kernel_rfl
theorem tWf1 (na : ByteArray) (ve : Int) (kd fu wi off k n d : Int) (nm : ByteArray) (f : Nat → Nat → PV) (g : Nat → Nat → PV) (c : Nat) (e : Nat → Nat → PV) (ab : Bool) (nu de ho cl dl : Int) (t : Nat) : exTs (extWf t) (pcs Tryz.prog Tryz.f19) (st0 Tryz.f19 [.a [.p (.s na), .p (.i .i64 1), .p (.i .i64 kd), .p (.i .i64 fu), .p (.i .i64 wi), .p (.i .i64 off), .p (.i .i64 k), .p (.i .i64 n), .p (.i .i64 d), .p (.s nm), .p (.l 3 0 f), .p (.l 1 0 g), .p (.l 11 c e), .p (.b ab), .p (.i .i64 nu), .p (.i .i64 de), .p (.i .i64 1), .p (.i .i64 1), .p (.i .i64 0)]]) (endG [] (resOf Tryz.prog Tryz.f19)) = Tr.rq True
 (bT (!nameB na) (.done .ret (St.mk [V.c (C.p (PV.i IntKind.i64 8))] []))
 (.rq (inR IntKind.i64 nu ∧ inR IntKind.i64 de)
 (bT (!validQ nu de) (.done .ret (St.mk [V.c (C.p (PV.i IntKind.i64 1))] []))
 (.rq
 (nodA t
 [PV.i IntKind.i64 kd, PV.i IntKind.i64 fu, PV.i IntKind.i64 wi, PV.i IntKind.i64 off, PV.i IntKind.i64 k, PV.i IntKind.i64 n, PV.i IntKind.i64 d, PV.s nm, PV.l 3 0 f, PV.l 1 0 g,
 PV.l 11 c e])
 (.done .ret
 (St.mk [V.c (C.p (PV.i IntKind.i64 (valW t [PV.i IntKind.i64 kd, PV.i IntKind.i64 fu, PV.i IntKind.i64 wi, PV.i IntKind.i64 off, PV.i IntKind.i64 k, PV.i IntKind.i64 n, PV.i IntKind.i64 d, PV.s nm, PV.l 3 0 f, PV.l 1 0 g, PV.l 11 c e])))] [])))))) := by kernel_rfl
section
variable {G : Nat → Option Obj}
set_option maxRecDepth 100000 in
theorem okText0 : ModOK Tryz.prog G 30 mText0 := by
  intro args p v hm hp h
  unfold mText0 at hm
  split at hm; rotate_left; · cases hm
  rename_i f g
  obtain ⟨rfl, rfl⟩ := some_pairU hm
  clear hm
  refine fn_S Tryz.func30 (by kernel_rfl) rfl ?_ h
  refine ExS.evG ext0_sound 4 (tTx1 f g) ?_
  simp only [holds_bT, holds_rq, holds_leaf, kf_ret', kf_normal, kf_exit]
  refine ⟨ExS.loop' (l := dropL 4 (pcs Tryz.prog Tryz.f30)) (b := inr (inr (nth .skip (pcs Tryz.prog Tryz.f30) 4))) (r := dropL 5 (pcs Tryz.prog Tryz.f30)) (id := 0) (by kernel_rfl) (σ := Unit)
      (fun _ => cst 26 [(0, .c (.p (.l 1 0 f))), (1, .c (.p (.l 1 0 g))), (5, iV 0)] []) (fun _ => True) (fun _ => 0) () trivial (weak_of_eq (by kernel_rfl)) ?_⟩
  rintro ⟨⟩ - Q1 q1n q1e -
  refine ExS.evH ext0_sound (tTx2 f g) ?_
  simp only [holds_bT, holds_rq, holds_leaf, kf_ret', kf_normal, kf_exit]
  refine ⟨q1e _ ?_⟩
  refine ExS.evH ext0_sound (tTx3 f g) ?_
  simp only [holds_bT, holds_rq, holds_leaf, kf_ret', kf_normal, kf_exit]
  exact ⟨VLe.refl _⟩
set_option maxRecDepth 100000 in
theorem okSameE : ∀ t, ModOK Tryz.prog G 20 (mSameE t) := by
  intro t
  induction t with
  | zero =>
    intro args p v hm hp h
    unfold mSameE at hm
    split at hm; rotate_left; · cases hm
    obtain ⟨rfl, rfl⟩ := some_pairU hm
    exact hp.1.elim
  | succ t ih =>
    intro args p v hm hp h
    unfold mSameE at hm
    split at hm; rotate_left; · cases hm
    rename_i q0 q1 q2 q3 q4 q5 q6 q7 q8 q9 q10 r0 r1 r2 r3 r4 r5 r6 r7 r8 r9 r10
    obtain ⟨rfl, rfl⟩ := some_pairU hm
    clear hm
    obtain ⟨⟨kd, fu, wi, off, k, n, d, nm, f, g, c, e, hcs, hn, hd, hc, hk⟩, hr⟩ := hp
    simp only [List.cons.injEq, and_true] at hcs hr
    obtain ⟨rfl, rfl, rfl, rfl, rfl, rfl, rfl, rfl, rfl, rfl, rfl⟩ := hr
    obtain ⟨rfl, rfl, rfl, rfl, rfl, rfl, rfl, rfl, rfl, rfl, rfl⟩ := hcs
    have hs : SoundExt Tryz.prog G (extSE t) := extOf_sound (by simp; exact ih)
    have h0 : SoundExt Tryz.prog G extT0 := extOf_sound (by simp; exact okText0)
    refine fn_S Tryz.func20 (by kernel_rfl) rfl ?_ h
    refine ExS.evG h0 7 (tSe1 kd fu wi off k n d nm f g c e) ?_
    simp only [holds_bT, holds_rq, holds_leaf, kf_ret', kf_normal, kf_exit, bne_self_eq_false, beq_self_eq_true, Bool.and_self, Bool.not_true, Bool.false_eq_true, false_implies, true_implies, true_and]
    refine ⟨ExS.loop' (l := dropL 7 (pcs Tryz.prog Tryz.f20)) (b := inr (inr (nth .skip (pcs Tryz.prog Tryz.f20) 7))) (r := dropL 8 (pcs Tryz.prog Tryz.f20)) (id := 0) (by kernel_rfl) (σ := Unit)
        (fun _ => cst 119 [(2, .c (.ptr 0 0)), (3, .c (.ptr 1 0)), (6, iV 0)] [.cells 32 [.p (.i .i64 kd), .p (.i .i64 fu), .p (.i .i64 wi), .p (.i .i64 off), .p (.i .i64 k), .p (.i .i64 n), .p (.i .i64 d), .p (.s nm), .p (.l 3 0 f), .p (.l 1 0 g), .p (.l 11 c e)], .cells 32 [.p (.i .i64 kd), .p (.i .i64 fu), .p (.i .i64 wi), .p (.i .i64 off), .p (.i .i64 k), .p (.i .i64 n), .p (.i .i64 d), .p (.s nm), .p (.l 3 0 f), .p (.l 1 0 g), .p (.l 11 c e)]]) (fun _ => True) (fun _ => 0) () trivial (weak_of_eq (by kernel_rfl)) ?_⟩
    rintro ⟨⟩ - Q1 q1n q1e -
    refine ExS.evH ext0_sound (tSe2 kd fu wi off k n d nm f g c e) ?_
    simp only [holds_bT, holds_rq, holds_leaf, kf_ret', kf_normal, kf_exit]
    refine ⟨q1e _ ?_⟩
    clear q1n q1e
    refine ExS.evG ext0_sound 1 (tSe3 kd fu wi off k n d nm f g c e) ?_
    simp only [holds_bT, holds_rq, holds_leaf, kf_ret', kf_normal, kf_exit]
    refine ⟨ExS.loop' (l := dropL 1 (dropL 8 (pcs Tryz.prog Tryz.f20))) (b := inr (inr (nth .skip (pcs Tryz.prog Tryz.f20) 9))) (r := dropL 10 (pcs Tryz.prog Tryz.f20)) (id := 2) (by kernel_rfl) (σ := Nat)
      (fun i => cst 119 [(2, .c (.ptr 0 0)), (3, .c (.ptr 1 0)), (7, iV (i : Nat))] [.cells 32 [.p (.i .i64 kd), .p (.i .i64 fu), .p (.i .i64 wi), .p (.i .i64 off), .p (.i .i64 k), .p (.i .i64 n), .p (.i .i64 d), .p (.s nm), .p (.l 3 0 f), .p (.l 1 0 g), .p (.l 11 c e)], .cells 32 [.p (.i .i64 kd), .p (.i .i64 fu), .p (.i .i64 wi), .p (.i .i64 off), .p (.i .i64 k), .p (.i .i64 n), .p (.i .i64 d), .p (.s nm), .p (.l 3 0 f), .p (.l 1 0 g), .p (.l 11 c e)]]) (fun i => i ≤ c) (fun i => c - i) 0 (Nat.zero_le _) (weak_of_eq (by kernel_rfl)) ?_⟩
    rintro i hi Q1 q1n q1e -
    refine ExS.evH hs (tSe4 kd fu wi off k n d nm f g c e t i) ?_
    rw [holds_bT]
    refine ⟨fun h4 => ?_, fun h4 => ?_⟩
    · have h4 : i < c := by simpa using h4
      have hKi : ExOK t [e i 0, e i 1, e i 2, e i 3, e i 4, e i 5, e i 6, e i 7, e i 8, e i 9, e i 10] := hk i h4
      simp only [holds_bT, holds_rq, holds_leaf, kf_ret', kf_normal, kf_exit, show (↑i : Int).toNat = i from rfl, Nat.zero_add, Nat.reduceAdd, inR]
      exact ⟨⟨by omega, by omega⟩, ⟨by omega, by omega⟩, ⟨hKi, trivial⟩, ⟨by omega, by omega⟩, ⟨q1n (i + 1) _ (show i + 1 ≤ c by omega) (show c - (i + 1) < c - i by omega) (weak_of_eq (by kernel_rfl))⟩⟩
    · have h4 : ¬ i < c := by simpa using h4
      obtain rfl : i = c := by omega
      simp only [holds_leaf, kf_exit]
      refine ⟨q1e _ ?_⟩
      refine ExS.evH ext0_sound (tSe5 kd fu wi off k n d nm f g i e i) ?_
      simp only [holds_leaf, kf_ret']
      exact ⟨VLe.refl _⟩
set_option maxRecDepth 100000 in
theorem okSameR (t : Nat) {na : ByteArray} {ve : Int} {kd fu wi off k n d : Int} {nm : ByteArray} {f g : Nat → Nat → PV} {c : Nat} {e : Nat → Nat → PV} {ab : Bool} {nu de ho cl dl : Int} (hE : ExOK t [.i .i64 kd, .i .i64 fu, .i .i64 wi, .i .i64 off, .i .i64 k, .i .i64 n, .i .i64 d, .s nm, .l 3 0 f, .l 1 0 g, .l 11 c e]) (h : List AO) :
    FnS Tryz.prog G 9 [.a [.p (.s na), .p (.i .i64 ve), .p (.i .i64 kd), .p (.i .i64 fu), .p (.i .i64 wi), .p (.i .i64 off), .p (.i .i64 k), .p (.i .i64 n), .p (.i .i64 d), .p (.s nm), .p (.l 3 0 f), .p (.l 1 0 g), .p (.l 11 c e), .p (.b ab), .p (.i .i64 nu), .p (.i .i64 de), .p (.i .i64 ho), .p (.i .i64 cl), .p (.i .i64 dl)], .a [.p (.s na), .p (.i .i64 ve), .p (.i .i64 kd), .p (.i .i64 fu), .p (.i .i64 wi), .p (.i .i64 off), .p (.i .i64 k), .p (.i .i64 n), .p (.i .i64 d), .p (.s nm), .p (.l 3 0 f), .p (.l 1 0 g), .p (.l 11 c e), .p (.b ab), .p (.i .i64 nu), .p (.i .i64 de), .p (.i .i64 ho), .p (.i .i64 cl), .p (.i .i64 dl)]] h fun x h' => x = bV true ∧ h' = h := by
  have hs : SoundExt Tryz.prog G (extSE t) := extOf_sound (by simp; exact okSameE t)
  refine fn_S Tryz.func9 (by kernel_rfl) rfl ?_ h
  refine ExS.evH hs (tSr1 na ve kd fu wi off k n d nm f g c e ab nu de ho cl dl t) ?_
  simp only [holds_bT, holds_rq, holds_leaf, kf_ret', kf_normal, kf_exit, bne_self_eq_false, beq_self_eq_true, Bool.and_self, Bool.not_true, Bool.true_eq_false, Bool.false_eq_true, false_implies, true_implies, true_and, and_true]
  exact ⟨hE, ⟨VLe.refl _⟩⟩
set_option maxRecDepth 100000 in
theorem okWell (t : Nat) (ht : t ≤ 1000) {na : ByteArray} {kd fu wi off k n d : Int} {nm : ByteArray} {f g : Nat → Nat → PV} {c : Nat} {e : Nat → Nat → PV} {ab : Bool} {nu de : Int} (hE : nodA t [.i .i64 kd, .i .i64 fu, .i .i64 wi, .i .i64 off, .i .i64 k, .i .i64 n, .i .i64 d, .s nm, .l 3 0 f, .l 1 0 g, .l 11 c e]) (hnu : inR .i64 nu) (hde : inR .i64 de) (h : List AO) :
    FnS Tryz.prog G 19 [.a [.p (.s na), .p (.i .i64 1), .p (.i .i64 kd), .p (.i .i64 fu), .p (.i .i64 wi), .p (.i .i64 off), .p (.i .i64 k), .p (.i .i64 n), .p (.i .i64 d), .p (.s nm), .p (.l 3 0 f), .p (.l 1 0 g), .p (.l 11 c e), .p (.b ab), .p (.i .i64 nu), .p (.i .i64 de), .p (.i .i64 1), .p (.i .i64 1), .p (.i .i64 0)]] h fun x h' => x = iV (if nameB na = false then 8 else if validQ nu de = false then 1 else valW t [.i .i64 kd, .i .i64 fu, .i .i64 wi, .i .i64 off, .i .i64 k, .i .i64 n, .i .i64 d, .s nm, .l 3 0 f, .l 1 0 g, .l 11 c e]) ∧ h' = h := by
  have hs : SoundExt Tryz.prog G (extWf t) := extOf_sound (by simp; exact ⟨okName, okValidQ, okPValid7 t ht⟩)
  refine fn_S Tryz.func19 (by kernel_rfl) rfl ?_ h
  refine ExS.evH hs (tWf1 na 1 kd fu wi off k n d nm f g c e ab nu de 1 1 0 t) ?_
  simp only [holds_bT, holds_rq, holds_leaf, kf_ret', kf_normal, kf_exit, Bool.not_eq_true', Bool.not_eq_false', true_and]
  refine ⟨fun h1 => ⟨?_⟩, fun h1 => ⟨⟨hnu, hde⟩, fun h2 => ⟨?_⟩, fun h2 => ⟨hE, ⟨?_⟩⟩⟩⟩
  · rw [if_pos h1]; exact VLe.refl _
  · rw [if_neg (by simp [h1]), if_pos h2]; exact VLe.refl _
  · rw [if_neg (by simp [h1]), if_neg (by simp [h2])]; exact VLe.refl _
end
end Go.AE
namespace Go.AE
set_option linter.unusedVariables false
set_option linter.unusedSimpArgs false
open Go.Proofs Go.Proofs.YtecilaemjajcnaaGreatDoor
theorem exOK_leaf (w : Int) (s : ByteArray) : ExOK 1 (leafC w s) := ⟨_, _, _, _, _, _, _, _, _, _, _, _, rfl, by simp only [inR]; omega, by simp only [inR]; omega, by decide, fun i hi => by omega⟩
theorem exOK_mid (w : Int) (s : ByteArray) : ExOK 2 (midC w s) := ⟨_, _, _, _, _, _, _, _, _, _, _, _, rfl, by simp only [inR]; omega, by simp only [inR]; omega, by decide, fun i hi => by
  obtain rfl : i = 0 := by omega
  exact exOK_leaf w s⟩
theorem exOK_top (w : Int) (a b : ByteArray) : ExOK 3 (topC w a b) := ⟨_, _, _, _, _, _, _, _, _, _, _, _, rfl, by simp only [inR]; omega, by simp only [inR]; omega, by decide, fun i hi => by
  match i, hi with
  | 0, _ => exact exOK_mid w a
  | 1, _ => exact exOK_mid w b⟩
theorem fit_top (w : Int) (a b : ByteArray) : fitB 3 (topC w a b) = true := by kernel_rfl
theorem dep_top (w : Int) (a b : ByteArray) : depE 3 (topC w a b) = 3 := by kernel_rfl
theorem nod_top (w : Int) (a b : ByteArray) : nodE 3 (topC w a b) = 5 := by kernel_rfl
theorem nodA_top (w : Int) (a b : ByteArray) : nodA 3 (topC w a b) := ⟨exOK_top w a b, by rw [nod_top]; decide⟩
theorem valF_top (w : Int) (a b : ByteArray) : valF 3 (topC w a b) = chkF 3 (topC w a b) := by unfold valF; rw [fit_top]; rfl
theorem valW_top (w : Int) (a b : ByteArray) : valW 3 (topC w a b) = chkF 3 (topC w a b) := by unfold valW; rw [dep_top, nod_top]; rfl
def ratE (na a b : ByteArray) (w n d : Int) : Int := if (nameB na && nameB a && nameB b) = false then 8 else if validQ n d = false then 1 else chkF 3 (topC w a b)
def ratB (na a b : ByteArray) (w n d : Int) : Bool := decide (ratE na a b w n d = 0)
def tS (c : Bool) (s : ByteArray) : ByteArray := match c with
  | true => s
  | false => ⟨#[]⟩
def tI (c : Bool) (x : Int) : Int := match c with
  | true => x
  | false => 0
def tN (c : Bool) (x : Nat) : Nat := match c with
  | true => x
  | false => 0
def ruleL (q : Bool) (na a b : ByteArray) (w n d : Int) : List PV := [.s (tS q na), .i .i64 (tI q 1), .i .i64 (tI q 3), .i .i64 (tI q 3), .i .i64 0, .i .i64 0, .i .i64 0, .i .i64 0, .i .i64 0, .s ⟨#[]⟩, .l 3 0 nF, .l 1 0 nF, .l 11 (tN q 2) (rowK [midC w a, midC w b]), .b q, .i .i64 (tI q n), .i .i64 (tI q d), .i .i64 (tI q 1), .i .i64 (tI q 1), .i .i64 0]
def mRatio : Mod
  | [.c (.p (.s na)), .c (.p (.s a)), .c (.p (.s b)), .c (.p (.i .i64 w)), .a [.p (.i .i64 n), .p (.i .i64 d)]] => some (inR .i64 n ∧ inR .i64 d, .t [.a (mapP (ruleL (ratB na a b w n d) na a b w n d)), .c (.p (.i .i64 (ratE na a b w n d)))])
  | _ => none
def wellV : List PV → Int
  | [q0, _, q2, q3, q4, q5, q6, q7, q8, q9, q10, q11, q12, _, q14, q15, _, _, _] => if nameB (strOf q0) = false then 8 else if validQ (intOfP q14) (intOfP q15) = false then 1 else valW 3 [q2, q3, q4, q5, q6, q7, q8, q9, q10, q11, q12]
  | _ => 0
def RuOK (cs : List PV) : Prop := ∃ (na : ByteArray) (E : List PV) (ab : Bool) (nu de : Int), cs = .s na :: .i .i64 1 :: (E ++ [.b ab, .i .i64 nu, .i .i64 de, .i .i64 1, .i .i64 1, .i .i64 0]) ∧ nodA 3 E ∧ inR .i64 nu ∧ inR .i64 de
def mWell : Mod
  | [.a [.p q0, .p q1, .p q2, .p q3, .p q4, .p q5, .p q6, .p q7, .p q8, .p q9, .p q10, .p q11, .p q12, .p q13, .p q14, .p q15, .p q16, .p q17, .p q18]] => some (RuOK [q0, q1, q2, q3, q4, q5, q6, q7, q8, q9, q10, q11, q12, q13, q14, q15, q16, q17, q18], iV (wellV [q0, q1, q2, q3, q4, q5, q6, q7, q8, q9, q10, q11, q12, q13, q14, q15, q16, q17, q18]))
  | _ => none
def extRr : Ext := extOf [(17, mName), (18, mSumE)]
def extRw : Ext := extOf [(19, mWell)]
theorem tRr1 (na a b : ByteArray) (w n d : Int) : exTs extRr (takeL 8 (pcs Tryz.prog Tryz.f8)) (st0 Tryz.f8 [sV na, sV a, sV b, iV w, .a [.p (.i .i64 n), .p (.i .i64 d)]]) (endG (msk 53 [10, 15]) (resOf Tryz.prog Tryz.f8)) = Tr.rq True
 (.rq True
 (.rq True
 (bT (!nameB na)
 (.done .ret
 (St.mk [V.t [V1.a [C.p (PV.s (ByteArray.mk #[])), C.p (PV.i IntKind.i64 0), C.p (PV.i IntKind.i64 0), C.p (PV.i IntKind.i64 0), C.p (PV.i IntKind.i64 0), C.p (PV.i IntKind.i64 0), C.p (PV.i IntKind.i64 0), C.p (PV.i IntKind.i64 0), C.p (PV.i IntKind.i64 0), C.p (PV.s (ByteArray.mk #[])), C.p (PV.z (Value.slice none 0 0)), C.p (PV.z (Value.slice none 0 0)), C.p (PV.z (Value.slice none 0 0)), C.p (PV.b false), C.p (PV.i IntKind.i64 0), C.p (PV.i IntKind.i64 0), C.p (PV.i IntKind.i64 0), C.p (PV.i IntKind.i64 0), C.p (PV.i IntKind.i64 0)], V1.c (C.p (PV.i IntKind.i64 8))]] []))
 (bT (!nameB a)
 (.done .ret
 (St.mk [V.t [V1.a [C.p (PV.s (ByteArray.mk #[])), C.p (PV.i IntKind.i64 0), C.p (PV.i IntKind.i64 0), C.p (PV.i IntKind.i64 0), C.p (PV.i IntKind.i64 0), C.p (PV.i IntKind.i64 0), C.p (PV.i IntKind.i64 0), C.p (PV.i IntKind.i64 0), C.p (PV.i IntKind.i64 0), C.p (PV.s (ByteArray.mk #[])), C.p (PV.z (Value.slice none 0 0)), C.p (PV.z (Value.slice none 0 0)), C.p (PV.z (Value.slice none 0 0)), C.p (PV.b false), C.p (PV.i IntKind.i64 0), C.p (PV.i IntKind.i64 0), C.p (PV.i IntKind.i64 0), C.p (PV.i IntKind.i64 0), C.p (PV.i IntKind.i64 0)], V1.c (C.p (PV.i IntKind.i64 8))]] []))
 (bT (!nameB b)
 (.done .ret
 (St.mk [V.t [V1.a [C.p (PV.s (ByteArray.mk #[])), C.p (PV.i IntKind.i64 0), C.p (PV.i IntKind.i64 0), C.p (PV.i IntKind.i64 0), C.p (PV.i IntKind.i64 0), C.p (PV.i IntKind.i64 0), C.p (PV.i IntKind.i64 0), C.p (PV.i IntKind.i64 0), C.p (PV.i IntKind.i64 0), C.p (PV.s (ByteArray.mk #[])), C.p (PV.z (Value.slice none 0 0)), C.p (PV.z (Value.slice none 0 0)), C.p (PV.z (Value.slice none 0 0)), C.p (PV.b false), C.p (PV.i IntKind.i64 0), C.p (PV.i IntKind.i64 0), C.p (PV.i IntKind.i64 0), C.p (PV.i IntKind.i64 0), C.p (PV.i IntKind.i64 0)], V1.c (C.p (PV.i IntKind.i64 8))]] []))
 (.rq True
 (.rq True
 (.done .normal
 (cst 53 [(10, .c (.ptr 0 0)), (15, .c (.ptr 1 0))] [.cells 34 [.p (.s (ByteArray.mk #[])), .p (.i .i64 0), .p (.i .i64 0), .p (.i .i64 0), .p (.i .i64 0), .p (.i .i64 0), .p (.i .i64 0), .p (.i .i64 0), .p (.i .i64 0), .p (.s (ByteArray.mk #[])), .p (.z (Value.slice none 0 0)), .p (.z (Value.slice none 0 0)), .p (.z (Value.slice none 0 0)), .p (.b false), .p (.i .i64 0), .p (.i .i64 0), .p (.i .i64 0), .p (.i .i64 0), .p (.i .i64 0)], .cells 34 [.p (.s na), .p (.i .i64 1), .p (.i .i64 3), .p (.i .i64 3), .p (.i .i64 0), .p (.i .i64 0), .p (.i .i64 0), .p (.i .i64 0), .p (.i .i64 0), .p (.s (ByteArray.mk #[])), .p (.z (Value.slice none 0 0)), .p (.z (Value.slice none 0 0)), .sl 2 11 0 2, .p (.b true), .p (.i .i64 n), .p (.i .i64 d), .p (.i .i64 1), .p (.i .i64 1), .p (.i .i64 0)], .row 32 11 2 fun e o => renC [1, 2, 3] (nth C.top [C.p (PV.i IntKind.i64 2), C.p (PV.i IntKind.i64 0), C.p (PV.i IntKind.i64 0), C.p (PV.i IntKind.i64 0), C.p (PV.i IntKind.i64 0), C.p (PV.i IntKind.i64 0), C.p (PV.i IntKind.i64 0), C.p (PV.s (ByteArray.mk #[])), C.p (PV.l 3 0 nF), C.p (PV.l 1 0 nF), C.p (PV.l 11 1 (rowK [leafC w a])), C.p (PV.i IntKind.i64 2), C.p (PV.i IntKind.i64 0), C.p (PV.i IntKind.i64 0), C.p (PV.i IntKind.i64 0), C.p (PV.i IntKind.i64 0), C.p (PV.i IntKind.i64 0), C.p (PV.i IntKind.i64 0), C.p (PV.s (ByteArray.mk #[])), C.p (PV.l 3 0 nF), C.p (PV.l 1 0 nF), C.p (PV.l 11 1 (rowK [leafC w b]))] (e * 11 + o))]))))))))) := by kernel_rfl
theorem tRr2 (na a b : ByteArray) (w n d : Int) : exTs extRw (dropL 8 (pcs Tryz.prog Tryz.f8)) (cst 53 [(10, .c (.ptr 0 0)), (15, .c (.ptr 1 0))] [.cells 34 [.p (.s ⟨#[]⟩), .p (.i .i64 0), .p (.i .i64 0), .p (.i .i64 0), .p (.i .i64 0), .p (.i .i64 0), .p (.i .i64 0), .p (.i .i64 0), .p (.i .i64 0), .p (.s ⟨#[]⟩), .p (.z (.slice none 0 0)), .p (.z (.slice none 0 0)), .p (.z (.slice none 0 0)), .p (.b false), .p (.i .i64 0), .p (.i .i64 0), .p (.i .i64 0), .p (.i .i64 0), .p (.i .i64 0)], .cells 34 [.p (.s na), .p (.i .i64 1), .p (.i .i64 3), .p (.i .i64 3), .p (.i .i64 0), .p (.i .i64 0), .p (.i .i64 0), .p (.i .i64 0), .p (.i .i64 0), .p (.s ⟨#[]⟩), .p (.l 3 0 nF), .p (.l 1 0 nF), .p (.l 11 2 (rowK [midC w a, midC w b])), .p (.b true), .p (.i .i64 n), .p (.i .i64 d), .p (.i .i64 1), .p (.i .i64 1), .p (.i .i64 0)]]) (endG [] (resOf Tryz.prog Tryz.f8)) = Tr.rq
 (RuOK
 [PV.s na, PV.i IntKind.i64 1, PV.i IntKind.i64 3, PV.i IntKind.i64 3, PV.i IntKind.i64 0, PV.i IntKind.i64 0, PV.i IntKind.i64 0, PV.i IntKind.i64 0, PV.i IntKind.i64 0, PV.s (ByteArray.mk #[]),
 PV.l 3 0 nF, PV.l 1 0 nF, PV.l 11 2 (rowK [midC w a, midC w b]), PV.b true, PV.i IntKind.i64 n, PV.i IntKind.i64 d, PV.i IntKind.i64 1, PV.i IntKind.i64 1, PV.i IntKind.i64 0])
 (bT
 (wellV
 [PV.s na, PV.i IntKind.i64 1, PV.i IntKind.i64 3, PV.i IntKind.i64 3, PV.i IntKind.i64 0, PV.i IntKind.i64 0, PV.i IntKind.i64 0, PV.i IntKind.i64 0, PV.i IntKind.i64 0,
 PV.s (ByteArray.mk #[]), PV.l 3 0 nF, PV.l 1 0 nF, PV.l 11 2 (rowK [midC w a, midC w b]), PV.b true, PV.i IntKind.i64 n, PV.i IntKind.i64 d, PV.i IntKind.i64 1, PV.i IntKind.i64 1,
 PV.i IntKind.i64 0] !=
 0)
 (.done .ret
 (St.mk [V.t [V1.a [C.p (PV.s (ByteArray.mk #[])), C.p (PV.i IntKind.i64 0), C.p (PV.i IntKind.i64 0), C.p (PV.i IntKind.i64 0), C.p (PV.i IntKind.i64 0), C.p (PV.i IntKind.i64 0), C.p (PV.i IntKind.i64 0), C.p (PV.i IntKind.i64 0), C.p (PV.i IntKind.i64 0), C.p (PV.s (ByteArray.mk #[])), C.p (PV.z (Value.slice none 0 0)), C.p (PV.z (Value.slice none 0 0)), C.p (PV.z (Value.slice none 0 0)), C.p (PV.b false), C.p (PV.i IntKind.i64 0), C.p (PV.i IntKind.i64 0), C.p (PV.i IntKind.i64 0), C.p (PV.i IntKind.i64 0), C.p (PV.i IntKind.i64 0)], V1.c (C.p (PV.i IntKind.i64 (wellV [PV.s na, PV.i IntKind.i64 1, PV.i IntKind.i64 3, PV.i IntKind.i64 3, PV.i IntKind.i64 0, PV.i IntKind.i64 0, PV.i IntKind.i64 0, PV.i IntKind.i64 0, PV.i IntKind.i64 0, PV.s (ByteArray.mk #[]), PV.l 3 0 nF, PV.l 1 0 nF, PV.l 11 2 (rowK [midC w a, midC w b]), PV.b true, PV.i IntKind.i64 n, PV.i IntKind.i64 d, PV.i IntKind.i64 1, PV.i IntKind.i64 1, PV.i IntKind.i64 0])))]] []))
 (.done .ret
 (St.mk [V.t [V1.a [C.p (PV.s na), C.p (PV.i IntKind.i64 1), C.p (PV.i IntKind.i64 3), C.p (PV.i IntKind.i64 3), C.p (PV.i IntKind.i64 0), C.p (PV.i IntKind.i64 0), C.p (PV.i IntKind.i64 0), C.p (PV.i IntKind.i64 0), C.p (PV.i IntKind.i64 0), C.p (PV.s (ByteArray.mk #[])), C.p (PV.l 3 0 nF), C.p (PV.l 1 0 nF), C.p (PV.l 11 2 (rowK [midC w a, midC w b])), C.p (PV.b true), C.p (PV.i IntKind.i64 n), C.p (PV.i IntKind.i64 d), C.p (PV.i IntKind.i64 1), C.p (PV.i IntKind.i64 1), C.p (PV.i IntKind.i64 0)], V1.c (C.p (PV.i IntKind.i64 0))]] []))) := by kernel_rfl
def zeroL : List PV := [.s ⟨#[]⟩, .i .i64 0, .i .i64 0, .i .i64 0, .i .i64 0, .i .i64 0, .i .i64 0, .i .i64 0, .i .i64 0, .s ⟨#[]⟩, .z (.slice none 0 0), .z (.slice none 0 0), .z (.slice none 0 0), .b false, .i .i64 0, .i .i64 0, .i .i64 0, .i .i64 0, .i .i64 0]
theorem zeroL_le (na a b : ByteArray) (w n d : Int) : PLes zeroL (ruleL false na a b w n d) :=
  .cons (PLe.refl _) (.cons (PLe.refl _) (.cons (PLe.refl _) (.cons (PLe.refl _) (.cons (PLe.refl _) (.cons (PLe.refl _) (.cons (PLe.refl _) (.cons (PLe.refl _) (.cons (PLe.refl _) (.cons (PLe.refl _) (.cons (PLe.nil _ _) (.cons (PLe.nil _ _) (.cons (PLe.nil _ _) (.cons (PLe.refl _) (.cons (PLe.refl _) (.cons (PLe.refl _) (.cons (PLe.refl _) (.cons (PLe.refl _) (.cons (PLe.refl _) .nil))))))))))))))))))
def ruleN (na a b : ByteArray) (w n d : Int) : List PV := [.s na, .i .i64 1, .i .i64 3, .i .i64 3, .i .i64 0, .i .i64 0, .i .i64 0, .i .i64 0, .i .i64 0, .s ⟨#[]⟩, .z (.slice none 0 0), .z (.slice none 0 0), .l 11 2 (rowK [midC w a, midC w b]), .b true, .i .i64 n, .i .i64 d, .i .i64 1, .i .i64 1, .i .i64 0]
theorem ruleN_le (na a b : ByteArray) (w n d : Int) : PLes (ruleN na a b w n d) (ruleL true na a b w n d) :=
  .cons (PLe.refl _) (.cons (PLe.refl _) (.cons (PLe.refl _) (.cons (PLe.refl _) (.cons (PLe.refl _) (.cons (PLe.refl _) (.cons (PLe.refl _) (.cons (PLe.refl _) (.cons (PLe.refl _) (.cons (PLe.refl _) (.cons (PLe.nil _ _) (.cons (PLe.nil _ _) (.cons (PLe.refl _) (.cons (PLe.refl _) (.cons (PLe.refl _) (.cons (PLe.refl _) (.cons (PLe.refl _) (.cons (PLe.refl _) (.cons (PLe.refl _) .nil))))))))))))))))))
theorem ratR_bad (na a b : ByteArray) (w n d : Int) {e : Int} (h : ratE na a b w n d = e) (h0 : e ≠ 0) : VLe (.t [.a (mapP zeroL), .c (.p (.i .i64 e))]) (.t [.a (mapP (ruleL (ratB na a b w n d) na a b w n d)), .c (.p (.i .i64 (ratE na a b w n d)))]) := by
  rw [show ratB na a b w n d = false from decide_eq_false (by rw [h]; exact h0), h]
  exact VLe.t (.cons (VLe.a (zeroL_le na a b w n d)) (.cons (VLe.refl _) .nil))
theorem ratR_ok (na a b : ByteArray) (w n d : Int) (h : ratE na a b w n d = 0) : VLe (.t [.a (mapP (ruleL true na a b w n d)), .c (.p (.i .i64 0))]) (.t [.a (mapP (ruleL (ratB na a b w n d) na a b w n d)), .c (.p (.i .i64 (ratE na a b w n d)))]) := by
  rw [show ratB na a b w n d = true from decide_eq_true h, h]
  exact VLe.refl _
section
variable {G : Nat → Option Obj}
set_option maxRecDepth 100000 in
theorem okWellM : ModOK Tryz.prog G 19 mWell := by
  intro args p v hm hp h
  unfold mWell at hm
  split at hm; rotate_left; · cases hm
  rename_i q0 q1 q2 q3 q4 q5 q6 q7 q8 q9 q10 q11 q12 q13 q14 q15 q16 q17 q18
  obtain ⟨rfl, rfl⟩ := some_pairU hm
  clear hm
  obtain ⟨na, E, ab, nu, de, hcs, hE, hnu, hde⟩ := hp
  have hE0 := hE
  obtain ⟨⟨kd, fu, wi, off, k, n, d, nm, f, g, c, e, rfl, -⟩, -⟩ := hE
  simp only [List.cons_append, List.nil_append, List.cons.injEq, and_true] at hcs
  obtain ⟨rfl, rfl, rfl, rfl, rfl, rfl, rfl, rfl, rfl, rfl, rfl, rfl, rfl, rfl, rfl, rfl, rfl, rfl, rfl⟩ := hcs
  exact okWell 3 (by decide) hE0 hnu hde h
set_option maxRecDepth 100000 in
theorem okRatR : ModOK Tryz.prog G 8 mRatio := by
  intro args p v hm hp h
  unfold mRatio at hm
  split at hm; rotate_left; · cases hm
  rename_i na a b w n d
  obtain ⟨rfl, rfl⟩ := some_pairU hm
  clear hm
  obtain ⟨hn, hd⟩ := hp
  have hs : SoundExt Tryz.prog G extRr := extOf_sound (by simp; exact ⟨okName, okSumE⟩)
  have hs2 : SoundExt Tryz.prog G extRw := extOf_sound (by simp; exact okWellM)
  refine fn_S Tryz.func8 (by kernel_rfl) rfl ?_ h
  refine ExS.evG hs 8 (tRr1 na a b w n d) ?_
  simp only [holds_bT, holds_rq, holds_leaf, kf_ret', kf_normal, kf_exit]
  have bad8 : ¬ (nameB na = true ∧ nameB a = true ∧ nameB b = true) → Leaf (VLe (.t [.a (mapP zeroL), .c (.p (.i .i64 8))]) (.t [.a (mapP (ruleL (ratB na a b w n d) na a b w n d)), .c (.p (.i .i64 (ratE na a b w n d)))])) := fun hb => ⟨ratR_bad na a b w n d (by
    unfold ratE
    rw [if_pos]
    rw [← Bool.not_eq_true, Bool.and_eq_true, Bool.and_eq_true]
    exact fun h => hb ⟨h.1.1, h.1.2, h.2⟩) (by decide)⟩
  simp only [Bool.not_eq_true', Bool.not_eq_false']
  refine ⟨trivial, trivial, trivial, fun h1 => bad8 fun h => (by rw [h1] at h; cases h.1), fun h1 => ⟨fun h2 => bad8 fun h => (by rw [h2] at h; cases h.2.1), fun h2 => ⟨fun h3 => bad8 fun h => (by rw [h3] at h; cases h.2.2), fun h3 => ?_⟩⟩⟩
  refine ⟨trivial, trivial, ⟨ExS.pre (WeakS.trans (weak_frzL (id := 2) (ty := 32) (sz := 11) (n := 2) (rowK [midC w a, midC w b]) rfl ?_ ?_ (ps := [(0, 2)]) (by kernel_rfl) (by simp)) (WeakS.trans (weak_cells (id := 1) (t0 := 34) (vs := mapP (ruleN na a b w n d)) (vs' := mapP (ruleL true na a b w n d)) (by kernel_rfl) fun _ _ _ _ h => (ruleN_le na a b w n d).cs h) (WeakS.trans (weak_proj [0, 1] (msk 53 [10, 15]) (by kernel_rfl) _) (weak_of_eq (st' := cst 53 [(10, .c (.ptr 0 0)), (15, .c (.ptr 1 0))] [.cells 34 [.p (.s ⟨#[]⟩), .p (.i .i64 0), .p (.i .i64 0), .p (.i .i64 0), .p (.i .i64 0), .p (.i .i64 0), .p (.i .i64 0), .p (.i .i64 0), .p (.i .i64 0), .p (.s ⟨#[]⟩), .p (.z (.slice none 0 0)), .p (.z (.slice none 0 0)), .p (.z (.slice none 0 0)), .p (.b false), .p (.i .i64 0), .p (.i .i64 0), .p (.i .i64 0), .p (.i .i64 0), .p (.i .i64 0)], .cells 34 [.p (.s na), .p (.i .i64 1), .p (.i .i64 3), .p (.i .i64 3), .p (.i .i64 0), .p (.i .i64 0), .p (.i .i64 0), .p (.i .i64 0), .p (.i .i64 0), .p (.s ⟨#[]⟩), .p (.l 3 0 nF), .p (.l 1 0 nF), .p (.l 11 2 (rowK [midC w a, midC w b])), .p (.b true), .p (.i .i64 n), .p (.i .i64 d), .p (.i .i64 1), .p (.i .i64 1), .p (.i .i64 0)]]) (by kernel_rfl))))) ?_⟩⟩
  · intro e o he ho
    match e, he, o, ho with
    | 0, _, 0, _ | 0, _, 1, _ | 0, _, 2, _ | 0, _, 3, _ | 0, _, 4, _ | 0, _, 5, _ | 0, _, 6, _ | 0, _, 7, _ | 0, _, 8, _ | 0, _, 9, _ | 0, _, 10, _ | 1, _, 0, _ | 1, _, 1, _ | 1, _, 2, _ | 1, _, 3, _ | 1, _, 4, _ | 1, _, 5, _ | 1, _, 6, _ | 1, _, 7, _ | 1, _, 8, _ | 1, _, 9, _ | 1, _, 10, _ => rfl
  · intro e o he ho
    match e, he, o, ho with
    | 0, _, 0, _ | 0, _, 1, _ | 0, _, 2, _ | 0, _, 3, _ | 0, _, 4, _ | 0, _, 5, _ | 0, _, 6, _ | 0, _, 7, _ | 0, _, 8, _ | 0, _, 9, _ | 0, _, 10, _ | 1, _, 0, _ | 1, _, 1, _ | 1, _, 2, _ | 1, _, 3, _ | 1, _, 4, _ | 1, _, 5, _ | 1, _, 6, _ | 1, _, 7, _ | 1, _, 8, _ | 1, _, 9, _ | 1, _, 10, _ => exact PLe.refl _
  refine ExS.evH hs2 (tRr2 na a b w n d) ?_
  simp only [holds_bT, holds_rq, holds_leaf, kf_ret', kf_normal, kf_exit]
  have hr : ratE na a b w n d = if validQ n d = false then 1 else chkF 3 (topC w a b) := by unfold ratE; rw [if_neg (by simp [h1, h2, h3])]
  have hW : wellV (ruleL true na a b w n d) = ratE na a b w n d := by
    rw [hr, ← valW_top]
    show (if nameB na = false then 8 else if validQ n d = false then 1 else valW 3 (topC w a b)) = _
    rw [if_neg (by simp [h1])]
  exact ⟨⟨na, topC w a b, true, n, d, rfl, nodA_top w a b, hn, hd⟩, fun h4 => ⟨ratR_bad na a b w n d hW.symm (bne_iff_ne.1 h4)⟩, fun h4 => ⟨ratR_ok na a b w n d (by rw [← hW]; exact bne_eq_false_iff_eq.1 h4)⟩⟩
end
end Go.AE
namespace Go.AE
set_option linter.unusedVariables false
set_option linter.unusedSimpArgs false
open Go.Proofs Go.Proofs.YtecilaemjajcnaaGreatDoor
def extRa : Ext := extOf [(13, mLName), (14, mValidQ)]
theorem tRa1 (na a b : ByteArray) (w n d : Int) : exTs extRa (takeL 6 (pcs Tryz.prog Tryz.f7)) (st0 Tryz.f7 [sV na, sV a, sV b, iV w, .a [.p (.i .i64 n), .p (.i .i64 d)]]) (endF [0, 1, 2] (msk 52 [0, 1, 2, 9, 10, 12]) (resOf Tryz.prog Tryz.f7)) = Tr.rq True
 (bT (!nameB na)
 (.done .ret
 (St.mk [V.t [V1.a [C.p (PV.s (ByteArray.mk #[])), C.p (PV.i IntKind.i64 0), C.p (PV.i IntKind.i64 0), C.p (PV.i IntKind.i64 0), C.p (PV.i IntKind.i64 0), C.p (PV.i IntKind.i64 0), C.p (PV.i IntKind.i64 0), C.p (PV.i IntKind.i64 0), C.p (PV.i IntKind.i64 0), C.p (PV.s (ByteArray.mk #[])), C.p (PV.z (Value.slice none 0 0)), C.p (PV.z (Value.slice none 0 0)), C.p (PV.z (Value.slice none 0 0)), C.p (PV.b false), C.p (PV.i IntKind.i64 0), C.p (PV.i IntKind.i64 0), C.p (PV.i IntKind.i64 0), C.p (PV.i IntKind.i64 0), C.p (PV.i IntKind.i64 0)], V1.c (C.p (PV.i IntKind.i64 8))]] []))
 (.rq True
 (bT (!nameB a)
 (.done .ret
 (St.mk [V.t [V1.a [C.p (PV.s (ByteArray.mk #[])), C.p (PV.i IntKind.i64 0), C.p (PV.i IntKind.i64 0), C.p (PV.i IntKind.i64 0), C.p (PV.i IntKind.i64 0), C.p (PV.i IntKind.i64 0), C.p (PV.i IntKind.i64 0), C.p (PV.i IntKind.i64 0), C.p (PV.i IntKind.i64 0), C.p (PV.s (ByteArray.mk #[])), C.p (PV.z (Value.slice none 0 0)), C.p (PV.z (Value.slice none 0 0)), C.p (PV.z (Value.slice none 0 0)), C.p (PV.b false), C.p (PV.i IntKind.i64 0), C.p (PV.i IntKind.i64 0), C.p (PV.i IntKind.i64 0), C.p (PV.i IntKind.i64 0), C.p (PV.i IntKind.i64 0)], V1.c (C.p (PV.i IntKind.i64 8))]] []))
 (.rq True
 (bT (!nameB b)
 (.done .ret
 (St.mk [V.t [V1.a [C.p (PV.s (ByteArray.mk #[])), C.p (PV.i IntKind.i64 0), C.p (PV.i IntKind.i64 0), C.p (PV.i IntKind.i64 0), C.p (PV.i IntKind.i64 0), C.p (PV.i IntKind.i64 0), C.p (PV.i IntKind.i64 0), C.p (PV.i IntKind.i64 0), C.p (PV.i IntKind.i64 0), C.p (PV.s (ByteArray.mk #[])), C.p (PV.z (Value.slice none 0 0)), C.p (PV.z (Value.slice none 0 0)), C.p (PV.z (Value.slice none 0 0)), C.p (PV.b false), C.p (PV.i IntKind.i64 0), C.p (PV.i IntKind.i64 0), C.p (PV.i IntKind.i64 0), C.p (PV.i IntKind.i64 0), C.p (PV.i IntKind.i64 0)], V1.c (C.p (PV.i IntKind.i64 8))]] []))
 (.rq (inR IntKind.i64 n ∧ inR IntKind.i64 d)
 (bT (!validQ n d)
 (.done .ret
 (St.mk [V.t [V1.a [C.p (PV.s (ByteArray.mk #[])), C.p (PV.i IntKind.i64 0), C.p (PV.i IntKind.i64 0), C.p (PV.i IntKind.i64 0), C.p (PV.i IntKind.i64 0), C.p (PV.i IntKind.i64 0), C.p (PV.i IntKind.i64 0), C.p (PV.i IntKind.i64 0), C.p (PV.i IntKind.i64 0), C.p (PV.s (ByteArray.mk #[])), C.p (PV.z (Value.slice none 0 0)), C.p (PV.z (Value.slice none 0 0)), C.p (PV.z (Value.slice none 0 0)), C.p (PV.b false), C.p (PV.i IntKind.i64 0), C.p (PV.i IntKind.i64 0), C.p (PV.i IntKind.i64 0), C.p (PV.i IntKind.i64 0), C.p (PV.i IntKind.i64 0)], V1.c (C.p (PV.i IntKind.i64 1))]] []))
 (.done .normal
 (cst 52 [(0, .c (.p (.s na))), (1, .c (.p (.s a))), (2, .c (.p (.s b))), (9, .c (.ptr 1 0)), (10, .c (.ptr 2 0)), (12, .c (.fn (Fn.func 15) [] [B.ptr 0 0]))] [.cells 3 [.p (.i .i64 w)], .cells 27 [.p (.i .i64 n), .p (.i .i64 d)], .cells 34 [.p (.s (ByteArray.mk #[])), .p (.i .i64 0), .p (.i .i64 0), .p (.i .i64 0), .p (.i .i64 0), .p (.i .i64 0), .p (.i .i64 0), .p (.i .i64 0), .p (.i .i64 0), .p (.s (ByteArray.mk #[])), .p (.z (Value.slice none 0 0)), .p (.z (Value.slice none 0 0)), .p (.z (Value.slice none 0 0)), .p (.b false), .p (.i .i64 0), .p (.i .i64 0), .p (.i .i64 0), .p (.i .i64 0), .p (.i .i64 0)]]))))))))) := by kernel_rfl
def rawOpsX : ACode → Array Oper
  | .raw (.region _ ops _) => ops
  | _ => #[]
noncomputable def ops7 : Array Oper := rawOpsX (nth .skip (pcs Tryz.prog Tryz.f7) 6)
noncomputable def al71 : List AI := (cOpers Tryz.prog ops7 (ops7.toList.take 2)).getD []
noncomputable def al72 : List AI := (cOpers Tryz.prog ops7 ((ops7.toList.drop 3).take 2)).getD []
noncomputable def al73 : List AI := (cOpers Tryz.prog ops7 (ops7.toList.drop 6)).getD []
def extR1 : Ext := extH [(15, mRat1)]
theorem tRa2 (na a b : ByteArray) (w n d : Int) : regT extR1 al71 (cst 52 [(0, sV na), (1, sV a), (2, sV b), (9, .c (.ptr 1 0)), (10, .c (.ptr 2 0)), (12, .c (.fn (.func 15) [] [.ptr 0 0]))] [.cells 3 [.p (.i .i64 w)], .cells 27 [.p (.i .i64 n), .p (.i .i64 d)], .cells 34 [.p (.s ⟨#[]⟩), .p (.i .i64 0), .p (.i .i64 0), .p (.i .i64 0), .p (.i .i64 0), .p (.i .i64 0), .p (.i .i64 0), .p (.i .i64 0), .p (.i .i64 0), .p (.s ⟨#[]⟩), .p (.z (.slice none 0 0)), .p (.z (.slice none 0 0)), .p (.z (.slice none 0 0)), .p (.b false), .p (.i .i64 0), .p (.i .i64 0), .p (.i .i64 0), .p (.i .i64 0), .p (.i .i64 0)]]) (fun st => spCalV Tryz.prog extR1 (.t 34) [.t 35] st fun v h => regT extR1 al72 ⟨putT st.t (some 36) v, h⟩ fun st => spCalV Tryz.prog extR1 (.t 37) [.t 38] st fun v h => regT extR1 al73 ⟨putT st.t (some 39) v, h⟩ fun s' => .done .normal (gcS (msk 52 [0, 1, 2, 9, 10, 13]) s')) = Tr.rq (3 = 3)
    (Tr.rq (3 = 3)
      (Tr.done X.normal
        (cst 52 [(0, V.c (C.p (PV.s na))), (1, V.c (C.p (PV.s a))), (2, V.c (C.p (PV.s b))), (9, V.c (C.ptr 0 0)), (10, V.c (C.ptr 1 0)), (13, V.c (C.ptr 2 0))] [AO.cells 27 [C.p (PV.i IntKind.i64 n), C.p (PV.i IntKind.i64 d)], AO.cells 34 [C.p (PV.s (ByteArray.mk #[])), C.p (PV.i IntKind.i64 0), C.p (PV.i IntKind.i64 0), C.p (PV.i IntKind.i64 0), C.p (PV.i IntKind.i64 0), C.p (PV.i IntKind.i64 0), C.p (PV.i IntKind.i64 0), C.p (PV.i IntKind.i64 0), C.p (PV.i IntKind.i64 0), C.p (PV.s (ByteArray.mk #[])), C.p (PV.z (Value.slice none 0 0)), C.p (PV.z (Value.slice none 0 0)), C.p (PV.z (Value.slice none 0 0)), C.p (PV.b false), C.p (PV.i IntKind.i64 0), C.p (PV.i IntKind.i64 0), C.p (PV.i IntKind.i64 0), C.p (PV.i IntKind.i64 0), C.p (PV.i IntKind.i64 0)], AO.cells 32 [C.p (PV.i IntKind.i64 3), C.p (PV.i IntKind.i64 3), C.p (PV.i IntKind.i64 0), C.p (PV.i IntKind.i64 0), C.p (PV.i IntKind.i64 0), C.p (PV.i IntKind.i64 0), C.p (PV.i IntKind.i64 0), C.p (PV.s (ByteArray.mk #[])), C.p (PV.z (Value.slice none 0 0)), C.p (PV.z (Value.slice none 0 0)), C.sl 3 11 0 2], AO.row 32 11 2 fun e o => renC [1, 2, 8, 7] (nth C.top [C.p (PV.i IntKind.i64 2), C.p (PV.i IntKind.i64 0), C.p (PV.i IntKind.i64 0), C.p (PV.i IntKind.i64 0), C.p (PV.i IntKind.i64 0), C.p (PV.i IntKind.i64 0), C.p (PV.i IntKind.i64 0), C.p (PV.s (ByteArray.mk #[])), C.p (PV.l 3 0 nF), C.p (PV.l 1 0 nF), C.p (PV.l 11 1 (rowK [leafC w a])), C.p (PV.i IntKind.i64 2), C.p (PV.i IntKind.i64 0), C.p (PV.i IntKind.i64 0), C.p (PV.i IntKind.i64 0), C.p (PV.i IntKind.i64 0), C.p (PV.i IntKind.i64 0), C.p (PV.i IntKind.i64 0), C.p (PV.s (ByteArray.mk #[])), C.p (PV.l 3 0 nF), C.p (PV.l 1 0 nF), C.p (PV.l 11 1 (rowK [leafC w b]))] (e * 11 + o))]))) := by kernel_rfl
def topN (w : Int) (a b : ByteArray) : List PV := [.i .i64 3, .i .i64 3, .i .i64 0, .i .i64 0, .i .i64 0, .i .i64 0, .i .i64 0, .s ⟨#[]⟩, .z (.slice none 0 0), .z (.slice none 0 0), .l 11 2 (rowK [midC w a, midC w b])]
theorem topN_le (w : Int) (a b : ByteArray) : PLes (topN w a b) (topC w a b) :=
  .cons (PLe.refl _) (.cons (PLe.refl _) (.cons (PLe.refl _) (.cons (PLe.refl _) (.cons (PLe.refl _) (.cons (PLe.refl _) (.cons (PLe.refl _) (.cons (PLe.refl _) (.cons (PLe.nil _ _) (.cons (PLe.nil _ _) (.cons (PLe.refl _) .nil))))))))))
def extR2 : Ext := extOf [(16, exMod ExOK valF 3)]
theorem tRa3 (na a b : ByteArray) (w n d : Int) : exTs extR2 (dropL 7 (pcs Tryz.prog Tryz.f7)) (cst 52 [(0, sV na), (1, sV a), (2, sV b), (9, .c (.ptr 0 0)), (10, .c (.ptr 1 0)), (13, .c (.ptr 2 0))] [.cells 27 [.p (.i .i64 n), .p (.i .i64 d)], .cells 34 [.p (.s ⟨#[]⟩), .p (.i .i64 0), .p (.i .i64 0), .p (.i .i64 0), .p (.i .i64 0), .p (.i .i64 0), .p (.i .i64 0), .p (.i .i64 0), .p (.i .i64 0), .p (.s ⟨#[]⟩), .p (.z (.slice none 0 0)), .p (.z (.slice none 0 0)), .p (.z (.slice none 0 0)), .p (.b false), .p (.i .i64 0), .p (.i .i64 0), .p (.i .i64 0), .p (.i .i64 0), .p (.i .i64 0)], .cells 32 [.p (.i .i64 3), .p (.i .i64 3), .p (.i .i64 0), .p (.i .i64 0), .p (.i .i64 0), .p (.i .i64 0), .p (.i .i64 0), .p (.s ⟨#[]⟩), .p (.l 3 0 nF), .p (.l 1 0 nF), .p (.l 11 2 (rowK [midC w a, midC w b]))]]) (endG [] (resOf Tryz.prog Tryz.f7)) = Tr.rq
 (ExOK 3
 [PV.i IntKind.i64 3, PV.i IntKind.i64 3, PV.i IntKind.i64 0, PV.i IntKind.i64 0, PV.i IntKind.i64 0, PV.i IntKind.i64 0, PV.i IntKind.i64 0, PV.s (ByteArray.mk #[]), PV.l 3 0 nF, PV.l 1 0 nF,
 PV.l 11 2 (rowK [midC w a, midC w b])])
 (bT
 (valF 3
 [PV.i IntKind.i64 3, PV.i IntKind.i64 3, PV.i IntKind.i64 0, PV.i IntKind.i64 0, PV.i IntKind.i64 0, PV.i IntKind.i64 0, PV.i IntKind.i64 0, PV.s (ByteArray.mk #[]), PV.l 3 0 nF, PV.l 1 0 nF,
 PV.l 11 2 (rowK [midC w a, midC w b])] !=
 0)
 (.done .ret
 (St.mk [V.t [V1.a [C.p (PV.s (ByteArray.mk #[])), C.p (PV.i IntKind.i64 0), C.p (PV.i IntKind.i64 0), C.p (PV.i IntKind.i64 0), C.p (PV.i IntKind.i64 0), C.p (PV.i IntKind.i64 0), C.p (PV.i IntKind.i64 0), C.p (PV.i IntKind.i64 0), C.p (PV.i IntKind.i64 0), C.p (PV.s (ByteArray.mk #[])), C.p (PV.z (Value.slice none 0 0)), C.p (PV.z (Value.slice none 0 0)), C.p (PV.z (Value.slice none 0 0)), C.p (PV.b false), C.p (PV.i IntKind.i64 0), C.p (PV.i IntKind.i64 0), C.p (PV.i IntKind.i64 0), C.p (PV.i IntKind.i64 0), C.p (PV.i IntKind.i64 0)], V1.c (C.p (PV.i IntKind.i64 (valF 3 [PV.i IntKind.i64 3, PV.i IntKind.i64 3, PV.i IntKind.i64 0, PV.i IntKind.i64 0, PV.i IntKind.i64 0, PV.i IntKind.i64 0, PV.i IntKind.i64 0, PV.s (ByteArray.mk #[]), PV.l 3 0 nF, PV.l 1 0 nF, PV.l 11 2 (rowK [midC w a, midC w b])])))]] []))
 (.done .ret
 (St.mk [V.t [V1.a [C.p (PV.s na), C.p (PV.i IntKind.i64 1), C.p (PV.i IntKind.i64 3), C.p (PV.i IntKind.i64 3), C.p (PV.i IntKind.i64 0), C.p (PV.i IntKind.i64 0), C.p (PV.i IntKind.i64 0), C.p (PV.i IntKind.i64 0), C.p (PV.i IntKind.i64 0), C.p (PV.s (ByteArray.mk #[])), C.p (PV.l 3 0 nF), C.p (PV.l 1 0 nF), C.p (PV.l 11 2 (rowK [midC w a, midC w b])), C.p (PV.b true), C.p (PV.i IntKind.i64 n), C.p (PV.i IntKind.i64 d), C.p (PV.i IntKind.i64 1), C.p (PV.i IntKind.i64 1), C.p (PV.i IntKind.i64 0)], V1.c (C.p (PV.i IntKind.i64 0))]] []))) := by kernel_rfl
section
variable {G : Nat → Option Obj}
set_option maxRecDepth 100000 in
theorem okRatP (hG : GrpG G) : ModOK Tryz.prog G 7 mRatio := by
  intro args p v hm hp h
  unfold mRatio at hm
  split at hm; rotate_left; · cases hm
  rename_i na a b w n d
  obtain ⟨rfl, rfl⟩ := some_pairU hm
  clear hm
  obtain ⟨hn, hd⟩ := hp
  have hs : SoundExt Tryz.prog G extRa := extOf_sound (by simp; exact ⟨okLName, okFValid⟩)
  refine fn_S Tryz.func7 (by kernel_rfl) rfl ?_ h
  refine ExS.ev hs 6 [0, 1, 2] (msk 52 [0, 1, 2, 9, 10, 12]) rfl (tRa1 na a b w n d) ?_
  simp only [holds_bT, holds_rq, holds_leaf, kf_ret', kf_normal, kf_exit]
  have bad8 : ¬ (nameB na = true ∧ nameB a = true ∧ nameB b = true) → Leaf (VLe (.t [.a (mapP zeroL), .c (.p (.i .i64 8))]) (.t [.a (mapP (ruleL (ratB na a b w n d) na a b w n d)), .c (.p (.i .i64 (ratE na a b w n d)))])) := fun hb => ⟨ratR_bad na a b w n d (by
    unfold ratE
    rw [if_pos]
    rw [← Bool.not_eq_true, Bool.and_eq_true, Bool.and_eq_true]
    exact fun h => hb ⟨h.1.1, h.1.2, h.2⟩) (by decide)⟩
  simp only [Bool.not_eq_true', Bool.not_eq_false']
  have h1r : SoundExt Tryz.prog G extR1 := extH_sound (by simp; exact okRat1)
  refine ⟨trivial, fun h1 => bad8 fun h => (by rw [h1] at h; cases h.1), fun h1 => ⟨trivial, fun h2 => bad8 fun h => (by rw [h2] at h; cases h.2.1), fun h2 => ⟨trivial, fun h3 => bad8 fun h => (by rw [h3] at h; cases h.2.2), fun h3 => ?_⟩⟩⟩
  have hr : ratE na a b w n d = if validQ n d = false then 1 else chkF 3 (topC w a b) := by unfold ratE; rw [if_neg (by simp [h1, h2, h3])]
  refine ⟨⟨hn, hd⟩, fun h4 => ⟨ratR_bad na a b w n d (by rw [hr, if_pos h4]) (by decide)⟩, fun h4 => ⟨?_⟩⟩
  rw [if_neg (by simp [h4])] at hr
  refine ExS.spec2 (l := dropL 6 (pcs Tryz.prog Tryz.f7)) (r := dropL 7 (pcs Tryz.prog Tryz.f7)) (id := 6) (ops := ops7) h1r (by kernel_rfl) 2 5 (o := ops7.toList.getD 2 default) (o2 := ops7.toList.getD 5 default) (al1 := al71) (al2 := al72) (al3 := al73) (by kernel_rfl) (by kernel_rfl) (by kernel_rfl) (by kernel_rfl) (by kernel_rfl) (by kernel_rfl) (by kernel_rfl) (by kernel_rfl) (op := .call { callee := .value (.tmp 34), args := #[.tmp 35], argTypes := #[9] }) (op2 := .call { callee := .value (.tmp 37), args := #[.tmp 38], argTypes := #[9] }) (by kernel_rfl) (by kernel_rfl)
    (spCalV_ok h1r (by kernel_rfl) (by kernel_rfl)) (spCalV_ok h1r (by kernel_rfl) (by kernel_rfl)) (msk 52 [0, 1, 2, 9, 10, 13]) (d := some 36) (d2 := some 39) (by kernel_rfl) (by kernel_rfl) (tRa2 na a b w n d) ?_
  simp only [holds_bT, holds_rq, holds_leaf, kf_ret', kf_normal, kf_exit]
  refine ⟨trivial, trivial, ⟨ExS.pre (WeakS.trans (weak_frzL (id := 3) (ty := 32) (sz := 11) (n := 2) (rowK [midC w a, midC w b]) rfl ?_ ?_ (ps := [(0, 2)]) (by kernel_rfl) (by simp)) (WeakS.trans (weak_cells (id := 2) (t0 := 32) (vs := mapP (topN w a b)) (vs' := mapP (topC w a b)) (by kernel_rfl) fun _ _ _ _ h => (topN_le w a b).cs h) (WeakS.trans (weak_proj [0, 1, 2] (msk 52 [0, 1, 2, 9, 10, 13]) (by kernel_rfl) _) (weak_of_eq (st' := cst 52 [(0, sV na), (1, sV a), (2, sV b), (9, .c (.ptr 0 0)), (10, .c (.ptr 1 0)), (13, .c (.ptr 2 0))] [.cells 27 [.p (.i .i64 n), .p (.i .i64 d)], .cells 34 [.p (.s ⟨#[]⟩), .p (.i .i64 0), .p (.i .i64 0), .p (.i .i64 0), .p (.i .i64 0), .p (.i .i64 0), .p (.i .i64 0), .p (.i .i64 0), .p (.i .i64 0), .p (.s ⟨#[]⟩), .p (.z (.slice none 0 0)), .p (.z (.slice none 0 0)), .p (.z (.slice none 0 0)), .p (.b false), .p (.i .i64 0), .p (.i .i64 0), .p (.i .i64 0), .p (.i .i64 0), .p (.i .i64 0)], .cells 32 [.p (.i .i64 3), .p (.i .i64 3), .p (.i .i64 0), .p (.i .i64 0), .p (.i .i64 0), .p (.i .i64 0), .p (.i .i64 0), .p (.s ⟨#[]⟩), .p (.l 3 0 nF), .p (.l 1 0 nF), .p (.l 11 2 (rowK [midC w a, midC w b]))]]) (by kernel_rfl))))) ?_⟩⟩
  · intro e o he ho
    match e, he, o, ho with
    | 0, _, 0, _ | 0, _, 1, _ | 0, _, 2, _ | 0, _, 3, _ | 0, _, 4, _ | 0, _, 5, _ | 0, _, 6, _ | 0, _, 7, _ | 0, _, 8, _ | 0, _, 9, _ | 0, _, 10, _ | 1, _, 0, _ | 1, _, 1, _ | 1, _, 2, _ | 1, _, 3, _ | 1, _, 4, _ | 1, _, 5, _ | 1, _, 6, _ | 1, _, 7, _ | 1, _, 8, _ | 1, _, 9, _ | 1, _, 10, _ => rfl
  · intro e o he ho
    match e, he, o, ho with
    | 0, _, 0, _ | 0, _, 1, _ | 0, _, 2, _ | 0, _, 3, _ | 0, _, 4, _ | 0, _, 5, _ | 0, _, 6, _ | 0, _, 7, _ | 0, _, 8, _ | 0, _, 9, _ | 0, _, 10, _ | 1, _, 0, _ | 1, _, 1, _ | 1, _, 2, _ | 1, _, 3, _ | 1, _, 4, _ | 1, _, 5, _ | 1, _, 6, _ | 1, _, 7, _ | 1, _, 8, _ | 1, _, 9, _ | 1, _, 10, _ => exact PLe.refl _
  have hv : SoundExt Tryz.prog G extR2 := extOf_sound (by simp; exact okPValid hG 3 (by decide))
  refine ExS.evH hv (tRa3 na a b w n d) ?_
  simp only [holds_bT, holds_rq, holds_leaf, kf_ret', kf_normal, kf_exit]
  have hV : valF 3 (topC w a b) = ratE na a b w n d := by rw [hr, valF_top]
  refine ⟨exOK_top w a b, fun h5 => ⟨?_⟩, fun h5 => ⟨?_⟩⟩
  · have := ratR_bad na a b w n d hV.symm (bne_iff_ne.1 h5)
    exact this
  · exact ratR_ok na a b w n d (by rw [← hV]; exact bne_eq_false_iff_eq.1 h5)
end
end Go.AE
namespace Go.AE
set_option linter.unusedVariables false
set_option linter.unusedSimpArgs false
open Go.Proofs Go.Proofs.YtecilaemjajcnaaGreatDoor
def pickZ (L : List Int) (i m : Int) : Int := if i < 0 ∨ L.length ≤ i then 0 else aroundZ (L.getD i.toNat default) m
def Ints (L : List Int) : Prop := ∀ x ∈ L, inR .i64 x
def mPick : Mod
  | [.c (.p (.l 1 n f)), .c (.p (.i .i64 i)), .c (.p (.i .i64 m))] => some (IsL encI 1 (decL decI n f) n f ∧ Ints (decL decI n f) ∧ 0 < m, iV (pickZ (decL decI n f) i m))
  | _ => none
def shortB (s : ByteArray) (n : Int) : ByteArray := if n < s.size then s.extract 0 n.toNat else s
def mShort : Mod
  | [.c (.p (.s s)), .c (.p (.i .i64 n))] => some (0 ≤ n, .c (.p (.s (shortB s n))))
  | _ => none
def boundZ (n m : Int) : Int := aroundZ n (2 * m + 1) - m
def mBound : Mod
  | [.c (.p (.i .i64 n)), .c (.p (.i .i64 m))] => some (inR .i64 n ∧ 0 ≤ m ∧ m ≤ 1000000, iV (boundZ n m))
  | _ => none
def extAr : Ext := extOf [(5, mAround)]
def RuAny (cs : List PV) : Prop := ∃ (na : ByteArray) (ve : Int) (E : List PV) (ab : Bool) (nu de ho cl dl : Int), cs = .s na :: .i .i64 ve :: (E ++ [.b ab, .i .i64 nu, .i .i64 de, .i .i64 ho, .i .i64 cl, .i .i64 dl]) ∧ ExOK 3 E
def mSameR : Mod
  | [.a [.p q0, .p q1, .p q2, .p q3, .p q4, .p q5, .p q6, .p q7, .p q8, .p q9, .p q10, .p q11, .p q12, .p q13, .p q14, .p q15, .p q16, .p q17, .p q18], .a [.p r0, .p r1, .p r2, .p r3, .p r4, .p r5, .p r6, .p r7, .p r8, .p r9, .p r10, .p r11, .p r12, .p r13, .p r14, .p r15, .p r16, .p r17, .p r18]] => some (RuAny [q0, q1, q2, q3, q4, q5, q6, q7, q8, q9, q10, q11, q12, q13, q14, q15, q16, q17, q18] ∧ [r0, r1, r2, r3, r4, r5, r6, r7, r8, r9, r10, r11, r12, r13, r14, r15, r16, r17, r18] = [q0, q1, q2, q3, q4, q5, q6, q7, q8, q9, q10, q11, q12, q13, q14, q15, q16, q17, q18], bV true)
  | _ => none
def mLives27 : Mod
  | [] => some (True, bV true)
  | _ => none
theorem tPick (L : List Int) (i m : Int) : exTs extAr (pcs Tryz.prog Tryz.f4) (st0 Tryz.f4 [listV encI 1 L, iV i, iV m]) (endF [] [] (resOf Tryz.prog Tryz.f4)) = bT (decide (i < 0)) (.done .ret (St.mk [V.c (C.p (PV.i IntKind.i64 0))] []))
 (bT (decide ((↑L.length : Int) ≤ i)) (.done .ret (St.mk [V.c (C.p (PV.i IntKind.i64 0))] []))
 (.rq (0 ≤ i ∧ i < (↑L.length : Int)) (.rq (inR IntKind.i64 (L.getD i.toNat default) ∧ 0 < m) (.done .ret (St.mk [V.c (C.p (PV.i IntKind.i64 (aroundZ (L.getD i.toNat default) m)))] []))))) := by kernel_rfl
theorem tSh (s : ByteArray) (n : Int) : exTs ext0 (pcs Tryz.prog Tryz.f11) (st0 Tryz.f11 [.c (.p (.s s)), iV n]) (endG [] (resOf Tryz.prog Tryz.f11)) = bT (decide (n < (↑s.size : Int))) (.rq (0 ≤ (↑0 : Int) ∧ (↑0 : Int) ≤ n ∧ n ≤ (↑s.size : Int)) (.done .ret (St.mk [V.c (C.p (PV.s (s.extract (↑0 : Int).toNat n.toNat)))] [])))
 (.done .ret (St.mk [V.c (C.p (PV.s s))] [])) := by kernel_rfl
theorem tBd (n m : Int) : exTs extAr (pcs Tryz.prog Tryz.f6) (st0 Tryz.f6 [iV n, iV m]) (endG [] (resOf Tryz.prog Tryz.f6)) = Tr.rq (inR IntKind.i64 (2 * m))
 (.rq (inR IntKind.i64 (2 * m + 1))
 (.rq (inR IntKind.i64 n ∧ 0 < 2 * m + 1) (.rq (inR IntKind.i64 (aroundZ n (2 * m + 1) - m)) (.done .ret (St.mk [V.c (C.p (PV.i IntKind.i64 (aroundZ n (2 * m + 1) - m)))] []))))) := by kernel_rfl
theorem getD_memI {L : List Int} {i : Nat} (h : i < L.length) : L.getD i default ∈ L := by
  rw [List.getD_eq_getElem?_getD, List.getElem?_eq_getElem h]
  exact List.getElem_mem h
theorem aroundZ_range {n m : Int} (h : 0 < m) : 0 ≤ aroundZ n m ∧ aroundZ n m < m := ⟨Int.emod_nonneg _ (by omega), Int.emod_lt_of_pos _ h⟩
theorem pickZ_range (L : List Int) (i : Int) {m : Int} (hm : 0 < m) : 0 ≤ pickZ L i m ∧ pickZ L i m < m := by
  unfold pickZ
  split
  · omega
  · exact aroundZ_range hm
theorem boundZ_range (n : Int) {m : Int} (h : 0 ≤ m) : -m ≤ boundZ n m ∧ boundZ n m ≤ m := by
  have := aroundZ_range (n := n) (m := 2 * m + 1) (by omega)
  unfold boundZ
  omega
section
variable {G : Nat → Option Obj}
theorem extAr_sound : SoundExt Tryz.prog G extAr := extOf_sound (by simp; exact okAround)
set_option maxRecDepth 100000 in
theorem okPick : ModOK Tryz.prog G 4 mPick := by
  intro args p v hm hp h
  unfold mPick at hm
  split at hm; rotate_left; · cases hm
  rename_i n f i m
  obtain ⟨rfl, rfl⟩ := some_pairU hm
  obtain ⟨hL, hI, hm0⟩ := hp
  generalize decL decI n f = L at hL hI
  refine FnS.args (args' := [listV encI 1 L, iV i, iV m]) ?_ (.cons hL.le (.cons (.refl _) (.cons (.refl _) .nil)))
  refine fn_S Tryz.func4 (by kernel_rfl) rfl ?_ h
  refine ExS.evA extAr_sound [] [] rfl (tPick L i m) ?_
  have bad : (i < 0 ∨ L.length ≤ i) → VLe (V.c (C.p (PV.i .i64 0))) (iV (pickZ L i m)) := fun hi => by
    unfold pickZ; rw [if_pos hi]; exact VLe.refl _
  have good : ¬ (i < 0 ∨ L.length ≤ i) → VLe (iV (aroundZ (L.getD i.toNat default) m)) (iV (pickZ L i m)) := fun hi => by
    unfold pickZ; rw [if_neg hi]; exact VLe.refl _
  have hin : ¬ (i < 0 ∨ L.length ≤ i) → inR .i64 (L.getD i.toNat default) := fun hi => hI _ (getD_memI (by omega))
  simp only [holds_bT, holds_rq, holds_leaf, kf_ret', decide_eq_true_eq, decide_eq_false_iff_not]
  repeat' (first | apply And.intro | intro _)
  all_goals first | (clear bad good hin; omega) | exact ⟨bad (by clear bad good hin; omega)⟩ | exact ⟨good (by clear bad good hin; omega)⟩ | exact (hin (by clear bad good hin; omega)).1 | exact (hin (by clear bad good hin; omega)).2
set_option maxRecDepth 100000 in
theorem okShort : ModOK Tryz.prog G 11 mShort := by
  intro args p v hm hp h
  unfold mShort at hm
  split at hm; rotate_left; · cases hm
  rename_i s n
  obtain ⟨rfl, rfl⟩ := some_pairU hm
  refine fn_S Tryz.func11 (by kernel_rfl) rfl ?_ h
  refine ExS.evH ext0_sound (tSh s n) ?_
  simp only [holds_bT, holds_rq, holds_leaf, kf_ret', decide_eq_true_eq, decide_eq_false_iff_not]
  refine ⟨fun c1 => ⟨⟨by omega, by omega, by omega⟩, ⟨?_⟩⟩, fun c1 => ⟨?_⟩⟩
  · unfold shortB; rw [if_pos c1]; exact VLe.refl _
  · unfold shortB; rw [if_neg c1]; exact VLe.refl _
set_option maxRecDepth 100000 in
theorem okBound : ModOK Tryz.prog G 6 mBound := by
  intro args p v hm hp h
  unfold mBound at hm
  split at hm; rotate_left; · cases hm
  rename_i n m
  obtain ⟨rfl, rfl⟩ := some_pairU hm
  obtain ⟨hn, h0, h1⟩ := hp
  refine fn_S Tryz.func6 (by kernel_rfl) rfl ?_ h
  refine ExS.evH extAr_sound (tBd n m) ?_
  have hr := aroundZ_range (n := n) (m := 2 * m + 1) (by omega)
  simp only [holds_bT, holds_rq, holds_leaf, kf_ret', decide_eq_true_eq, decide_eq_false_iff_not, inR]
  simp only [inR] at hn
  refine ⟨⟨by omega, by omega⟩, ⟨by omega, by omega⟩, ⟨hn, by omega⟩, ⟨by omega, by omega⟩, ⟨VLe.refl _⟩⟩
set_option maxRecDepth 100000 in
theorem okSameRM : ModOK Tryz.prog G 9 mSameR := by
  intro args p v hm hp h
  unfold mSameR at hm
  split at hm; rotate_left; · cases hm
  rename_i q0 q1 q2 q3 q4 q5 q6 q7 q8 q9 q10 q11 q12 q13 q14 q15 q16 q17 q18 r0 r1 r2 r3 r4 r5 r6 r7 r8 r9 r10 r11 r12 r13 r14 r15 r16 r17 r18
  obtain ⟨rfl, rfl⟩ := some_pairU hm
  clear hm
  obtain ⟨⟨na, ve, E, ab, nu, de, ho, cl, dl, hcs, hE⟩, hrr⟩ := hp
  simp only [List.cons.injEq, and_true] at hrr
  obtain ⟨rfl, rfl, rfl, rfl, rfl, rfl, rfl, rfl, rfl, rfl, rfl, rfl, rfl, rfl, rfl, rfl, rfl, rfl, rfl⟩ := hrr
  have hE0 := hE
  obtain ⟨kd, fu, wi, off, k, n, d, nm, f, g, c, e, rfl, -⟩ := hE
  simp only [List.cons_append, List.nil_append, List.cons.injEq, and_true] at hcs
  obtain ⟨rfl, rfl, rfl, rfl, rfl, rfl, rfl, rfl, rfl, rfl, rfl, rfl, rfl, rfl, rfl, rfl, rfl, rfl, rfl⟩ := hcs
  exact okSameR 3 hE0 h
end
end Go.AE
