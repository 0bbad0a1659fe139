import Derived.Test.YtgdlaibocecehaaGreatDoorRVk
import Derived.Test.YtgdlaibocecehaaGreatDoorRVe
set_option linter.unusedVariables false
set_option linter.unusedSimpArgs false
namespace Go.AE
open _root_.Bool renaming and_eq_true→aY,not_eq_false'→bZ,not_eq_true'→bX
open _root_.Int renaming ofNat→aF
open IntKind renaming i64→aA
open _root_.List renaming cons→fF
open _root_.Nat renaming lt_or_ge→cK,zero_add→dV,zero_le→bH
open Go.Proofs Go.Proofs.YtgdlaibocecehaaGreatDoor
def cN(e:Nat→Nat→PV)(i:Nat):List PV:=[e i 0,e i 1,e i 2,e i 3,e i 4,e i 5,e i 6,e i 7,e i 8,e i 9,e i 10]
def iJ:Nat→List PV→Prop
 |0,_=>False
 |t+1,cs=>∃(kd fu wi off k n d:Int) (nm:ByteArray) (ML:List Mt) (BL:List ByteArray) (c:Nat) (e:Nat→Nat→PV),cs=[.i .i64 kd,.i .i64 fu,.i .i64 wi,.i .i64 off,.i .i64 k,.i .i64 n,.i .i64 d,.s nm,.l 3 ML.length (aJ bY ML),.l 1 BL.length (aJ bM BL),.l 11 c e]∧inR .i64 n∧inR .i64 d∧(ML.length≤1000∧BL.length≤1000)∧c≤1000∧∀i,i<c→iJ t (cN e i)
def kH:PV→Nat
 |.l _ c _=>c
 |_=>0
def hO:PV→Nat→Nat→PV
 |.l _ _ e=>e
 |_=>fun _ _=>.b false
def tA(o:Nat)(q:PV):PV:=match o with
 |0=>.i .i64 (eW q)
 |1=>.i .i64 (eW q)
 |2=>.i .i64 (eW q)
 |3=>.i .i64 (eW q)
 |4=>.i .i64 (eW q)
 |5=>.i .i64 (eW q)
 |6=>.i .i64 (eW q)
 |7=>.s (tH q)
 |8=>.l 3 (kH q) (hO q)
 |9=>.l 1 (kH q) (hO q)
 |10=>.l 11 (kH q) (hO q)
 |_=>q
def aC(e:Nat→Nat→PV)(i o:Nat):PV:=tA o (e i o)
def GD(F:Nat→Int):Nat→Nat→Int
 |_,0=>0
 |i,m+1=>if F i=0 then GD F (i+1) m else F i
def oQ(F:Nat→Int):Nat→Int
 |0=>0
 |m+1=>if F m<oQ F m then oQ F m else F m
def jW(F:Nat→Int):Nat→Int
 |0=>0
 |m+1=>jW F m+F m
def pX:Nat→List PV→Int
 |t+1,[q0,q1,q2,q3,q4,q5,q6,q7,q8,q9,q10]=>
  if iS (eW q0) (eW q1) (eW q4) (eW q5) (eW q6) (kQ (eW q2) (eW q3) (tH q7) (kH q8)) (kH q9) (kH q10)=false then 1
  else if jN (eW q0) (tH q7) (eR mK (kH q8) (hO q8)) (eR kO (kH q9) (hO q9))=false then 8
  else if 8<kH q8∨8<kH q9 then 4
  else if lU (eW q0) (eW q1) (eW q2) (eW q3) (eW q4) true=false then 5
  else GD (fun i=>pX t (cN (hO q10) i)) 0 (kH q10)
 |_,_=>0
def mS:Nat→List PV→Int
 |t+1,[_,_,_,_,_,_,_,_,_,_,q10]=>oQ (fun i=>mS t (cN (hO q10) i)) (kH q10)+1
 |_,_=>0
def kC:Nat→List PV→Int
 |t+1,[_,_,_,_,_,_,_,_,_,_,q10]=>1+jW (fun i=>kC t (cN (hO q10) i)) (kH q10)
 |_,_=>0
def jF(A:Nat→List PV→Prop)(F:Nat→List PV→Int)(t:Nat):Mod
 |[.a [.p q0,.p q1,.p q2,.p q3,.p q4,.p q5,.p q6,.p q7,.p q8,.p q9,.p q10]]=>some (A t [q0,q1,q2,q3,q4,q5,q6,q7,q8,q9,q10],iV (F t [q0,q1,q2,q3,q4,q5,q6,q7,q8,q9,q10]))
 |_=>none
def aFT(t:Nat):Ext:=fB [(114,uU),(115,zJ),(116,NB),(96,jF iJ pX t)]
def aFO(t:Nat):Ext:=fB [(110,uU),(111,zJ),(112,MZ),(84,jF iJ pX t)]
def aLQ(t:Nat):Ext:=fB [(82,jF iJ mS t)]
theorem aWF(kd fu wi off k n d:Int)(nm:ByteArray)(mc:Nat)(f:Nat→Nat→PV)(bc:Nat)(g:Nat→Nat→PV)(c:Nat)(e:Nat→Nat→PV)(t:Nat):cJ (aFT t) (dH 10 (cS Tryz.prog Tryz.f96)) (iR Tryz.f96 [.a (cF kd fu wi off k n d nm mc f bc g c e)]) (cP (fO 38 [26,27,28]) (bB Tryz.prog Tryz.f96))=Tr.rq (inR aA n∧inR aA d)
 (bT (!iS kd fu k n d (kQ wi off nm mc) bc c) (.done .ret (St.mk [V.c (C.p (PV.i aA 1))] []))
 (.rq (∃ML BL,mc=ML.length∧f=aJ bY ML∧bc=BL.length∧g=aJ bM BL∧ML.length≤1000∧BL.length≤1000)
 (bT (!jN kd nm (eR mK mc f) (eR kO bc g)) (.done .ret (St.mk [V.c (C.p (PV.i aA 8))] []))
 (bT (decide (8<(↑mc:Int))) (.done .ret (St.mk [V.c (C.p (PV.i aA 4))] []))
 (bT (decide (8<(↑bc:Int))) (.done .ret (St.mk [V.c (C.p (PV.i aA 4))] []))
 (.rq True
 (bT (!lU kd fu wi off k true) (.done .ret (St.mk [V.c (C.p (PV.i aA 5))] []))
 (.done .normal
 (bU 38 [(26,.c (.p (.l 11 c e))),(27,.c (.p (.i .i64 (↑c:Int)))),(28,.c (.p (.i .i64 0)))] []))))))))):=by kernel_rfl
theorem aWE(c:Nat)(e:Nat→Nat→PV)(t i:Nat):cJ (aFT t) (jZ (cS Tryz.prog Tryz.f96) 10) (bU 38 [(26,.c (.p (.l 11 c (aC e)))),(27,iV (c:Nat)),(28,iV (i:Nat))] []) (cP (fO 38 [26,27,28]) (bB Tryz.prog Tryz.f96))=bT (decide ((↑i:Int)<(↑c:Int)))
 (.rq (0≤(↑i:Int)∧(↑i:Int)<(↑c:Int))
 (.rq
 (iJ t
 [aC e (↑i:Int).toNat 0,aC e (↑i:Int).toNat 1,aC e (↑i:Int).toNat 2,aC e (↑i:Int).toNat 3,aC e (↑i:Int).toNat 4,aC e (↑i:Int).toNat 5,
 aC e (↑i:Int).toNat 6,aC e (↑i:Int).toNat 7,aC e (↑i:Int).toNat 8,aC e (↑i:Int).toNat 9,aC e (↑i:Int).toNat 10])
 (bT
 (pX t
 [aC e (↑i:Int).toNat 0,aC e (↑i:Int).toNat 1,aC e (↑i:Int).toNat 2,aC e (↑i:Int).toNat 3,aC e (↑i:Int).toNat 4,aC e (↑i:Int).toNat 5,
 aC e (↑i:Int).toNat 6,aC e (↑i:Int).toNat 7,aC e (↑i:Int).toNat 8,aC e (↑i:Int).toNat 9,aC e (↑i:Int).toNat 10] !=
 0)
 (.done .ret
 (St.mk [V.c (C.p (PV.i aA (pX t [aC e (↑i:Int).toNat 0,aC e (↑i:Int).toNat 1,aC e (↑i:Int).toNat 2,aC e (↑i:Int).toNat 3,aC e (↑i:Int).toNat 4,aC e (↑i:Int).toNat 5,aC e (↑i:Int).toNat 6,aC e (↑i:Int).toNat 7,aC e (↑i:Int).toNat 8,aC e (↑i:Int).toNat 9,aC e (↑i:Int).toNat 10])))] []))
 (.rq (inR aA ((↑i:Int)+1))
 (.done .normal
 (bU 38 [(26,.c (.p (.l 11 c (aC e)))),(27,.c (.p (.i .i64 (↑c:Int)))),(28,.c (.p (.i .i64 ((↑i:Int)+1))))] []))))))
 (.done (.exit 0)
 (bU 38 [(26,.c (.p (.l 11 c (aC e)))),(27,.c (.p (.i .i64 (↑c:Int)))),(28,.c (.p (.i .i64 (↑i:Int))))] [])):=by kernel_rfl
theorem aWD(c:Nat)(e:Nat→Nat→PV)(i:Nat):cJ dX (bJ 11 (cS Tryz.prog Tryz.f96)) (bU 38 [(26,.c (.p (.l 11 c (aC e)))),(27,iV (c:Nat)),(28,iV (i:Nat))] []) (cP [] (bB Tryz.prog Tryz.f96))=Tr.done X.ret (St.mk [V.c (C.p (PV.i aA 0))] []):=by kernel_rfl
theorem aSP(kd fu wi off k n d:Int)(nm:ByteArray)(mc:Nat)(f:Nat→Nat→PV)(bc:Nat)(g:Nat→Nat→PV)(c:Nat)(e:Nat→Nat→PV)(t:Nat):cJ (aFO t) (dH 10 (cS Tryz.prog Tryz.f84)) (iR Tryz.f84 [.a (cF kd fu wi off k n d nm mc f bc g c e)]) (cP (fO 40 [1,3]) (bB Tryz.prog Tryz.f84))=Tr.rq (inR aA n∧inR aA d)
 (bT (!iS kd fu k n d (kQ wi off nm mc) bc c) (.done .ret (St.mk [V.c (C.p (PV.i aA 1))] []))
 (.rq (∃ML BL,mc=ML.length∧f=aJ bY ML∧bc=BL.length∧g=aJ bM BL∧ML.length≤1000∧BL.length≤1000)
 (bT (!jN kd nm (eR mK mc f) (eR kO bc g)) (.done .ret (St.mk [V.c (C.p (PV.i aA 8))] []))
 (bT (decide (8<(↑mc:Int))) (.done .ret (St.mk [V.c (C.p (PV.i aA 4))] []))
 (bT (decide (8<(↑bc:Int))) (.done .ret (St.mk [V.c (C.p (PV.i aA 4))] []))
 (.rq True
 (bT (!lU kd fu wi off k (decide (k=0))) (.done .ret (St.mk [V.c (C.p (PV.i aA 5))] []))
 (.done .normal
 (bU 40 [(1,.c (.ptr 0 0)),(3,.c (.p (.i .i64 0)))] [.cells 33 (cF kd fu wi off k n d nm mc f bc g c e)]))))))))):=by kernel_rfl
theorem aSO(kd fu wi off k n d:Int)(nm:ByteArray)(mc:Nat)(f:Nat→Nat→PV)(bc:Nat)(g:Nat→Nat→PV)(c:Nat)(e:Nat→Nat→PV)(t i:Nat):cJ (aFO t) (jZ (cS Tryz.prog Tryz.f84) 10) (bU 40 [(1,.c (.ptr 0 0)),(3,iV (i:Nat))] [.cells 33 (cF kd fu wi off k n d nm mc f bc g c e)]) (cP (fO 40 [1,3]) (bB Tryz.prog Tryz.f84))=bT (decide ((↑i:Int)<(↑c:Int)))
 (.rq (0≤(↑i:Int)∧(↑i:Int)<(↑c:Int))
 (.rq
 (iJ t
 [e (↑i:Int).toNat 0,e (↑i:Int).toNat 1,e (↑i:Int).toNat 2,e (↑i:Int).toNat 3,e (↑i:Int).toNat 4,e (↑i:Int).toNat 5,e (↑i:Int).toNat 6,e (↑i:Int).toNat 7,
 e (↑i:Int).toNat 8,e (↑i:Int).toNat 9,e (↑i:Int).toNat 10])
 (bT
 (pX t
 [e (↑i:Int).toNat 0,e (↑i:Int).toNat 1,e (↑i:Int).toNat 2,e (↑i:Int).toNat 3,e (↑i:Int).toNat 4,e (↑i:Int).toNat 5,e (↑i:Int).toNat 6,e (↑i:Int).toNat 7,
 e (↑i:Int).toNat 8,e (↑i:Int).toNat 9,e (↑i:Int).toNat 10] !=
 0)
 (.done .ret
 (St.mk [V.c (C.p (PV.i aA (pX t [e (↑i:Int).toNat 0,e (↑i:Int).toNat 1,e (↑i:Int).toNat 2,e (↑i:Int).toNat 3,e (↑i:Int).toNat 4,e (↑i:Int).toNat 5,e (↑i:Int).toNat 6,e (↑i:Int).toNat 7,e (↑i:Int).toNat 8,e (↑i:Int).toNat 9,e (↑i:Int).toNat 10])))] []))
 (.rq (inR aA ((↑i:Int)+1))
 (.done .normal
 (bU 40 [(1,.c (.ptr 0 0)),(3,.c (.p (.i .i64 ((↑i:Int)+1))))] [.cells 33 (cF kd fu wi off k n d nm mc f bc g c e)]))))))
 (.done (.exit 0)
 (bU 40 [(1,.c (.ptr 0 0)),(3,.c (.p (.i .i64 (↑i:Int))))] [.cells 33 (cF kd fu wi off k n d nm mc f bc g c e)])):=by kernel_rfl
theorem aSN(kd fu wi off k n d:Int)(nm:ByteArray)(mc:Nat)(f:Nat→Nat→PV)(bc:Nat)(g:Nat→Nat→PV)(c:Nat)(e:Nat→Nat→PV)(i:Nat):cJ dX (bJ 11 (cS Tryz.prog Tryz.f84)) (bU 40 [(1,.c (.ptr 0 0)),(3,iV (i:Nat))] [.cells 33 (cF kd fu wi off k n d nm mc f bc g c e)]) (cP [] (bB Tryz.prog Tryz.f84))=Tr.done X.ret (St.mk [V.c (C.p (PV.i aA 0))] []):=by kernel_rfl
theorem aVU(kd fu wi off k n d:Int)(nm:ByteArray)(mc:Nat)(f:Nat→Nat→PV)(bc:Nat)(g:Nat→Nat→PV)(c:Nat)(e:Nat→Nat→PV):cJ dX (dH 3 (cS Tryz.prog Tryz.f82)) (iR Tryz.f82 [.a (cF kd fu wi off k n d nm mc f bc g c e)]) (cP (fO 22 [1,3,4]) (bB Tryz.prog Tryz.f82))=Tr.done X.normal
 (bU 22 [(1,.c (.ptr 0 0)),(3,.c (.p (.i .i64 0))),(4,.c (.p (.i .i64 0)))] [.cells 33 (cF kd fu wi off k n d nm mc f bc g c e)]):=by kernel_rfl
theorem aVT(kd fu wi off k n d:Int)(nm:ByteArray)(mc:Nat)(f:Nat→Nat→PV)(bc:Nat)(g:Nat→Nat→PV)(c:Nat)(e:Nat→Nat→PV)(t i:Nat)(x:Int):cJ (aLQ t) (jZ (cS Tryz.prog Tryz.f82) 3) (bU 22 [(1,.c (.ptr 0 0)),(3,iV (x:Int)),(4,iV (i:Nat))] [.cells 33 (cF kd fu wi off k n d nm mc f bc g c e)]) (cP (fO 22 [1,3,4]) (bB Tryz.prog Tryz.f82))=bT (decide ((↑i:Int)<(↑c:Int)))
 (.rq (0≤(↑i:Int)∧(↑i:Int)<(↑c:Int))
 (.rq
 (iJ t
 [e (↑i:Int).toNat 0,e (↑i:Int).toNat 1,e (↑i:Int).toNat 2,e (↑i:Int).toNat 3,e (↑i:Int).toNat 4,e (↑i:Int).toNat 5,e (↑i:Int).toNat 6,e (↑i:Int).toNat 7,
 e (↑i:Int).toNat 8,e (↑i:Int).toNat 9,e (↑i:Int).toNat 10])
 (.rq (inR aA ((↑i:Int)+1))
 (.done .normal
 (bU 22 [(1,.c (.ptr 0 0)),(3,.c (.p (.i .i64 (if x<mS t [e (↑i:Int).toNat 0,e (↑i:Int).toNat 1,e (↑i:Int).toNat 2,e (↑i:Int).toNat 3,e (↑i:Int).toNat 4,e (↑i:Int).toNat 5,e (↑i:Int).toNat 6,e (↑i:Int).toNat 7,e (↑i:Int).toNat 8,e (↑i:Int).toNat 9,e (↑i:Int).toNat 10] then mS t [e (↑i:Int).toNat 0,e (↑i:Int).toNat 1,e (↑i:Int).toNat 2,e (↑i:Int).toNat 3,e (↑i:Int).toNat 4,e (↑i:Int).toNat 5,e (↑i:Int).toNat 6,e (↑i:Int).toNat 7,e (↑i:Int).toNat 8,e (↑i:Int).toNat 9,e (↑i:Int).toNat 10] else x)))),(4,.c (.p (.i .i64 ((↑i:Int)+1))))] [.cells 33 (cF kd fu wi off k n d nm mc f bc g c e)])))))
 (.done (.exit 0)
 (bU 22 [(1,.c (.ptr 0 0)),(3,.c (.p (.i .i64 x))),(4,.c (.p (.i .i64 (↑i:Int))))] [.cells 33 (cF kd fu wi off k n d nm mc f bc g c e)])):=by kernel_rfl
theorem aVS(kd fu wi off k n d:Int)(nm:ByteArray)(mc:Nat)(f:Nat→Nat→PV)(bc:Nat)(g:Nat→Nat→PV)(c:Nat)(e:Nat→Nat→PV)(i:Nat)(x:Int):cJ dX (bJ 4 (cS Tryz.prog Tryz.f82)) (bU 22 [(1,.c (.ptr 0 0)),(3,iV (x:Int)),(4,iV (i:Nat))] [.cells 33 (cF kd fu wi off k n d nm mc f bc g c e)]) (cP [] (bB Tryz.prog Tryz.f82))=Tr.rq (inR aA (x+1)) (.done .ret (St.mk [V.c (C.p (PV.i aA (x+1)))] [])):=by kernel_rfl
def lO(t:Nat)(cs:List PV):Prop:=iJ t cs∧kC t cs≤1000000
def aLK(t:Nat):Ext:=fB [(83,jF lO kC t)]
theorem aUB(kd fu wi off k n d:Int)(nm:ByteArray)(mc:Nat)(f:Nat→Nat→PV)(bc:Nat)(g:Nat→Nat→PV)(c:Nat)(e:Nat→Nat→PV):cJ dX (dH 3 (cS Tryz.prog Tryz.f83)) (iR Tryz.f83 [.a (cF kd fu wi off k n d nm mc f bc g c e)]) (cP (fO 21 [1,3,4]) (bB Tryz.prog Tryz.f83))=Tr.done X.normal
 (bU 21 [(1,.c (.ptr 0 0)),(3,.c (.p (.i .i64 1))),(4,.c (.p (.i .i64 0)))] [.cells 33 (cF kd fu wi off k n d nm mc f bc g c e)]):=by kernel_rfl
theorem aUA(kd fu wi off k n d:Int)(nm:ByteArray)(mc:Nat)(f:Nat→Nat→PV)(bc:Nat)(g:Nat→Nat→PV)(c:Nat)(e:Nat→Nat→PV)(t i:Nat)(x:Int):cJ (aLK t) (jZ (cS Tryz.prog Tryz.f83) 3) (bU 21 [(1,.c (.ptr 0 0)),(3,iV (x:Int)),(4,iV (i:Nat))] [.cells 33 (cF kd fu wi off k n d nm mc f bc g c e)]) (cP (fO 21 [1,3,4]) (bB Tryz.prog Tryz.f83))=bT (decide ((↑i:Int)<(↑c:Int)))
 (.rq (0≤(↑i:Int)∧(↑i:Int)<(↑c:Int))
 (.rq
 (lO t
 [e (↑i:Int).toNat 0,e (↑i:Int).toNat 1,e (↑i:Int).toNat 2,e (↑i:Int).toNat 3,e (↑i:Int).toNat 4,e (↑i:Int).toNat 5,e (↑i:Int).toNat 6,e (↑i:Int).toNat 7,
 e (↑i:Int).toNat 8,e (↑i:Int).toNat 9,e (↑i:Int).toNat 10])
 (.rq
 (inR aA
 (x +
 kC t
 [e (↑i:Int).toNat 0,e (↑i:Int).toNat 1,e (↑i:Int).toNat 2,e (↑i:Int).toNat 3,e (↑i:Int).toNat 4,e (↑i:Int).toNat 5,e (↑i:Int).toNat 6,e (↑i:Int).toNat 7,
 e (↑i:Int).toNat 8,e (↑i:Int).toNat 9,e (↑i:Int).toNat 10]))
 (.rq (inR aA ((↑i:Int)+1))
 (.done .normal
 (bU 21 [(1,.c (.ptr 0 0)),(3,.c (.p (.i .i64 (x+kC t [e (↑i:Int).toNat 0,e (↑i:Int).toNat 1,e (↑i:Int).toNat 2,e (↑i:Int).toNat 3,e (↑i:Int).toNat 4,e (↑i:Int).toNat 5,e (↑i:Int).toNat 6,e (↑i:Int).toNat 7,e (↑i:Int).toNat 8,e (↑i:Int).toNat 9,e (↑i:Int).toNat 10])))),(4,.c (.p (.i .i64 ((↑i:Int)+1))))] [.cells 33 (cF kd fu wi off k n d nm mc f bc g c e)]))))))
 (.done (.exit 0)
 (bU 21 [(1,.c (.ptr 0 0)),(3,.c (.p (.i .i64 x))),(4,.c (.p (.i .i64 (↑i:Int))))] [.cells 33 (cF kd fu wi off k n d nm mc f bc g c e)])):=by kernel_rfl
theorem aU9(kd fu wi off k n d:Int)(nm:ByteArray)(mc:Nat)(f:Nat→Nat→PV)(bc:Nat)(g:Nat→Nat→PV)(c:Nat)(e:Nat→Nat→PV)(i:Nat)(x:Int):cJ dX (bJ 4 (cS Tryz.prog Tryz.f83)) (bU 21 [(1,.c (.ptr 0 0)),(3,iV (x:Int)),(4,iV (i:Nat))] [.cells 33 (cF kd fu wi off k n d nm mc f bc g c e)]) (cP [] (bB Tryz.prog Tryz.f83))=Tr.done X.ret (St.mk [V.c (C.p (PV.i aA x))] []):=by kernel_rfl
theorem iQ{t:Nat}{e:Nat→Nat→PV}{i:Nat}(h:iJ t (cN e i)){o:Nat}(ho:o<11):aC e i o=e i o:=by
 cases t with
 |zero=>exact h.elim
 |succ t=>
  obtain⟨kd,fu,wi,off,k,n,d,nm,ML,BL,c,e2,hcs,-⟩:=h;unfold cN at hcs;simp only[fF.injEq,and_true]at hcs;obtain⟨a0,a1,a2,a3,a4,a5,a6,a7,a8,a9,a10⟩:=hcs
  match o,ho with
  |0,_=>show tA 0 (e i 0)=_;rw[a0];rfl
  |1,_=>show tA 1 (e i 1)=_;rw[a1];rfl
  |2,_=>show tA 2 (e i 2)=_;rw[a2];rfl
  |3,_=>show tA 3 (e i 3)=_;rw[a3];rfl
  |4,_=>show tA 4 (e i 4)=_;rw[a4];rfl
  |5,_=>show tA 5 (e i 5)=_;rw[a5];rfl
  |6,_=>show tA 6 (e i 6)=_;rw[a6];rfl
  |7,_=>show tA 7 (e i 7)=_;rw[a7];rfl
  |8,_=>show tA 8 (e i 8)=_;rw[a8];rfl
  |9,_=>show tA 9 (e i 9)=_;rw[a9];rfl
  |10,_=>show tA 10 (e i 10)=_;rw[a10];rfl
theorem KL(F:Nat→Int){i c:Nat}(h:i<c):GD F i (c-i)=if F i=0 then GD F (i+1) (c-(i+1)) else F i:=by
 obtain⟨m,hm⟩:∃m,c-i=m+1:=⟨c-i-1,by omega⟩
 rw[hm,show c-(i+1)=m by omega];rfl
theorem OD(t:Nat)(kd fu wi off k n d:Int)(nm:ByteArray)(ML:List Mt)(BL:List ByteArray)(c:Nat)(e:Nat→Nat→PV):pX (t+1) [.i .i64 kd,.i .i64 fu,.i .i64 wi,.i .i64 off,.i .i64 k,.i .i64 n,.i .i64 d,.s nm,.l 3 ML.length (aJ bY ML),.l 1 BL.length (aJ bM BL),.l 11 c e] =
  if iS kd fu k n d (kQ wi off nm ML.length) BL.length c=false then 1 else if jN kd nm ML BL=false then 8 else if 8<ML.length∨8<BL.length then 4 else if lU kd fu wi off k true=false then 5 else GD (fun i=>pX t (cN e i)) 0 c:=by
 show (if _ then _ else if jN kd nm (eR mK ML.length (aJ bY ML)) (eR kO BL.length (aJ bM BL))=false then _ else _)=_
 rw[kI,kV];rfl
theorem aD8{kd fu wi off k n d:Int}{nm:ByteArray}{mc bc c:Nat}(h:iS kd fu k n d (kQ wi off nm mc) bc c=true):lU kd fu wi off k (decide (k=0))=lU kd fu wi off k true:=by
 unfold lU;unfold iS at h;split
 ·rfl
 ·split
  ·rfl
  ·rename_i h1 h2
   rw[if_neg h1,if_neg h2]at h;split at h
   ·simp only[aY,decide_eq_true_eq]at h;rw[decide_eq_true h.1.1.2]
   ·split at h
    ·simp only[aY,decide_eq_true_eq]at h;rw[decide_eq_true h.1.2]
    ·cases h
theorem OB:∀(t:Nat) (cs:List PV),0≤mS t cs∧mS t cs≤t
 |0,cs=>by cases cs<;>simp[mS]
 |t+1,cs=>by
  unfold mS;split
  ·rename_i t' _ _ _ _ _ _ _ _ _ _ q10 e
   obtain rfl:t=t':=by omega
   have key:∀m,0≤oQ (fun i=>mS t (cN (hO q10) i)) m∧oQ (fun i=>mS t (cN (hO q10) i)) m≤t:=by
    intro m;induction m with
    |zero=>simp[oQ]
    |succ m ih=>
     have:=OB t (cN (hO q10) m)
     unfold oQ;split<;>omega
   have:=key (kH q10)
   omega
  ·omega
theorem MY:∀(t:Nat) (cs:List PV),0≤kC t cs
 |0,cs=>by cases cs<;>simp[kC]
 |t+1,cs=>by
  unfold kC;split
  ·rename_i t' _ _ _ _ _ _ _ _ _ _ q10 e
   obtain rfl:t=t':=by omega
   have key:∀m,0≤jW (fun i=>kC t (cN (hO q10) i)) m:=by
    intro m;induction m with
    |zero=>simp[jW]
    |succ m ih=>
     have:=MY t (cN (hO q10) m)
     unfold jW;omega
   have:=key (kH q10)
   omega
  ·omega
theorem yT(F:Nat→Int)(hF:∀i,0≤F i){i c:Nat}(h:i<c):jW F i+F i≤jW F c∧0≤jW F i:=by
 have nn:∀m,0≤jW F m:=fun m=>by
  induction m with
  |zero=>simp[jW]
  |succ m ih=>unfold jW;have:=hF m;omega
 refine⟨?_,nn i⟩;induction c with
 |zero=>omega
 |succ c ih=>
  rcases cK i c with h1|h1
  ·have:=ih h1
   have:=hF c
   show _≤jW F c+F c
   omega
  ·obtain rfl:i=c:=by omega
   exact Int.le_refl _
section
variable {G:Nat→Option Obj}
set_option maxRecDepth 100000 in
theorem aIJ(hG:yM G):∀t,dD Tryz.prog G 96 (jF iJ pX t):=by
 intro t;induction t with
 |zero=>
  intro args p v hm hp h;unfold jF at hm
  split at hm;rotate_left;· cases hm
  obtain⟨rfl,rfl⟩:=bA hm;exact hp.elim
 |succ t ih=>
  intro args p v hm hp h;unfold jF at hm
  split at hm;rotate_left;· cases hm
  rename_i q0 q1 q2 q3 q4 q5 q6 q7 q8 q9 q10;obtain⟨rfl,rfl⟩:=bA hm;clear hm;obtain⟨kd,fu,wi,off,k,n,d,nm,ML,BL,c,e,hcs,hn,hd,hL,hc,hk⟩:=hp;simp only[fF.injEq,and_true]at hcs;obtain⟨rfl,rfl,rfl,rfl,rfl,rfl,rfl,rfl,rfl,rfl,rfl⟩:=hcs
  have hs:bO Tryz.prog G (aFT t):=cD (by simp;exact⟨aDJ,aI9 hG,aDL,ih⟩)
  refine fR Tryz.func96 (by kernel_rfl) rfl ?_ h
  rw[OD];refine cO.evG hs 10 (aWF kd fu wi off k n d nm ML.length (aJ bY ML) BL.length (aJ bM BL) c e t) ?_;simp only[bD,aS,aI,bK,aZ,bX,bZ,true_and,and_true,kI,kV,decide_eq_true_eq,decide_eq_false_iff_not];refine⟨⟨hn,hd⟩,fun h1=>⟨?_⟩,fun h1=>⟨⟨ML,BL,rfl,rfl,rfl,rfl,hL.1,hL.2⟩,?_⟩⟩
  ·rw[if_pos h1];exact eL.refl _
  rw[if_neg (by simp[h1])];refine⟨fun h2=>⟨?_⟩,fun h2=>?_⟩
  ·rw[if_pos h2];exact eL.refl _
  rw[if_neg (by simp[h2])];refine⟨fun h8=>⟨?_⟩,fun h8=>⟨fun h9=>⟨?_⟩,fun h9=>?_⟩⟩
  ·rw[if_pos (show 8<ML.length∨8<BL.length by omega)];exact eL.refl _
  ·rw[if_pos (show 8<ML.length∨8<BL.length by omega)];exact eL.refl _
  rw[if_neg (show ¬(8<ML.length∨8<BL.length) by omega)];refine⟨fun h3=>⟨?_⟩,fun h3=>⟨?_⟩⟩
  ·rw[if_pos h3];exact eL.refl _
  rw[if_neg (by simp[h3])]
  obtain⟨F,hF⟩:∃F:Nat→Int,F=fun i=>pX t (cN e i):=⟨_,rfl⟩
  rw[←hF]
  have hw:eL (.c (.p (.l 11 c e))) (.c (.p (.l 11 c (aC e)))):=eL.p (jT.l fun i o hi ho=>jT.of_eq (iQ (hk i hi) ho).symm)
  refine cO.pre ((ZV (j:=26) (y:=.c (.p (.l 11 c (aC e)))) (by exact hw)).trans (aP (st':=(fun i=>bU 38 [(26,.c (.p (.l 11 c (aC e)))),(27,iV (c:Nat)),(28,iV (i:Nat))] []) 0) (by kernel_rfl))) ?_
  refine cO.loop' (l:=bJ 10 (cS Tryz.prog Tryz.f96)) (b:=inr (inr (bN .skip (cS Tryz.prog Tryz.f96) 10))) (r:=bJ 11 (cS Tryz.prog Tryz.f96)) (id:=0) (by kernel_rfl) (σ:=Nat)
    (fun i=>bU 38 [(26,.c (.p (.l 11 c (aC e)))),(27,iV (c:Nat)),(28,iV (i:Nat))] []) (fun i=>i≤c∧GD F i (c-i)=GD F 0 c) (fun i=>c-i) 0 ⟨bH _,rfl⟩ (aP (by kernel_rfl)) ?_
  rintro i ⟨hi,hf⟩ Q1 q1n q1e -;refine cO.evH hs (aWE c e t i) ?_;rw[bD];refine⟨fun h4=>?_,fun h4=>?_⟩
  ·have h4:i<c:=by simpa using h4
   have ce:∀o,o<11→aC e i o=e i o:=fun o ho=>iQ (hk i h4) ho
   have hFi:pX t [e i 0,e i 1,e i 2,e i 3,e i 4,e i 5,e i 6,e i 7,e i 8,e i 9,e i 10]=F i:=by rw[hF];rfl
   have hKi:iJ t [e i 0,e i 1,e i 2,e i 3,e i 4,e i 5,e i 6,e i 7,e i 8,e i 9,e i 10]:=hk i h4
   simp only[bD,aS,aI,bK,aZ,show (↑i:Int).toNat=i from rfl,dV,Nat.reduceAdd,ce 0 (by omega),ce 1 (by omega),ce 2 (by omega),ce 3 (by omega),ce 4 (by omega),ce 5 (by omega),ce 6 (by omega),ce 7 (by omega),ce 8 (by omega),ce 9 (by omega),ce 10 (by omega),hFi,bne_iff_ne,bne_eq_false_iff_eq,ne_eq,inR];rw[KL F h4]at hf
   refine⟨by omega,hKi,fun h5=>⟨?_⟩,fun h5=>⟨by omega,⟨q1n (i+1) _ ⟨by omega,?_⟩ (show c-(i+1)<c-i by omega) (aP (by kernel_rfl))⟩⟩⟩
   ·rw[if_neg h5]at hf
    rw[←hf];exact eL.refl _
   ·rw[if_pos h5]at hf
    exact hf
  ·have h4:¬i<c:=by simpa using h4
   obtain rfl:i=c:=by omega
   simp only[aI,fE];refine⟨q1e _ ?_⟩;refine cO.evH aT (aWD i e i) ?_;simp only[aI,bK];rw[Nat.sub_self]at hf;rw[←hf];exact⟨eL.refl _⟩
set_option maxRecDepth 100000 in
theorem aDH:∀t,dD Tryz.prog G 84 (jF iJ pX t):=by
 intro t;induction t with
 |zero=>
  intro args p v hm hp h;unfold jF at hm
  split at hm;rotate_left;· cases hm
  obtain⟨rfl,rfl⟩:=bA hm;exact hp.elim
 |succ t ih=>
  intro args p v hm hp h;unfold jF at hm
  split at hm;rotate_left;· cases hm
  rename_i q0 q1 q2 q3 q4 q5 q6 q7 q8 q9 q10;obtain⟨rfl,rfl⟩:=bA hm;clear hm;obtain⟨kd,fu,wi,off,k,n,d,nm,ML,BL,c,e,hcs,hn,hd,hL,hc,hk⟩:=hp;simp only[fF.injEq,and_true]at hcs;obtain⟨rfl,rfl,rfl,rfl,rfl,rfl,rfl,rfl,rfl,rfl,rfl⟩:=hcs
  have hs:bO Tryz.prog G (aFO t):=cD (by simp;exact⟨aAM,aDN,aDG,ih⟩)
  refine fR Tryz.func84 (by kernel_rfl) rfl ?_ h
  rw[OD];refine cO.evG hs 10 (aSP kd fu wi off k n d nm ML.length (aJ bY ML) BL.length (aJ bM BL) c e t) ?_;simp only[bD,aS,aI,bK,aZ,bX,bZ,true_and,and_true,kI,kV,decide_eq_true_eq,decide_eq_false_iff_not];refine⟨⟨hn,hd⟩,fun h1=>⟨?_⟩,fun h1=>⟨⟨ML,BL,rfl,rfl,rfl,rfl,hL.1,hL.2⟩,?_⟩⟩
  ·rw[if_pos h1];exact eL.refl _
  rw[if_neg (by simp[h1]),aD8 h1];refine⟨fun h2=>⟨?_⟩,fun h2=>?_⟩
  ·rw[if_pos h2];exact eL.refl _
  rw[if_neg (by simp[h2])];refine⟨fun h8=>⟨?_⟩,fun h8=>⟨fun h9=>⟨?_⟩,fun h9=>?_⟩⟩
  ·rw[if_pos (show 8<ML.length∨8<BL.length by omega)];exact eL.refl _
  ·rw[if_pos (show 8<ML.length∨8<BL.length by omega)];exact eL.refl _
  rw[if_neg (show ¬(8<ML.length∨8<BL.length) by omega)];refine⟨fun h3=>⟨?_⟩,fun h3=>⟨?_⟩⟩
  ·rw[if_pos h3];exact eL.refl _
  rw[if_neg (by simp[h3])]
  obtain⟨F,hF⟩:∃F:Nat→Int,F=fun i=>pX t (cN e i):=⟨_,rfl⟩
  rw[←hF]
  refine cO.loop' (l:=bJ 10 (cS Tryz.prog Tryz.f84)) (b:=inr (inr (bN .skip (cS Tryz.prog Tryz.f84) 10))) (r:=bJ 11 (cS Tryz.prog Tryz.f84)) (id:=0) (by kernel_rfl) (σ:=Nat)
    (fun i=>bU 40 [(1,.c (.ptr 0 0)),(3,iV (i:Nat))] [.cells 33 (cF kd fu wi off k n d nm ML.length (aJ bY ML) BL.length (aJ bM BL) c e)]) (fun i=>i≤c∧GD F i (c-i)=GD F 0 c) (fun i=>c-i) 0 ⟨bH _,rfl⟩ (aP (by kernel_rfl)) ?_
  rintro i ⟨hi,hf⟩ Q1 q1n q1e -;refine cO.evH hs (aSO kd fu wi off k n d nm ML.length (aJ bY ML) BL.length (aJ bM BL) c e t i) ?_;rw[bD];refine⟨fun h4=>?_,fun h4=>?_⟩
  ·have h4:i<c:=by simpa using h4
   have hFi:pX t [e i 0,e i 1,e i 2,e i 3,e i 4,e i 5,e i 6,e i 7,e i 8,e i 9,e i 10]=F i:=by rw[hF];rfl
   have hKi:iJ t [e i 0,e i 1,e i 2,e i 3,e i 4,e i 5,e i 6,e i 7,e i 8,e i 9,e i 10]:=hk i h4
   simp only[bD,aS,aI,bK,aZ,show (↑i:Int).toNat=i from rfl,dV,Nat.reduceAdd,hFi,bne_iff_ne,bne_eq_false_iff_eq,ne_eq,inR];rw[KL F h4]at hf
   refine⟨by omega,hKi,fun h5=>⟨?_⟩,fun h5=>⟨by omega,⟨q1n (i+1) _ ⟨by omega,?_⟩ (show c-(i+1)<c-i by omega) (aP (by kernel_rfl))⟩⟩⟩
   ·rw[if_neg h5]at hf
    rw[←hf];exact eL.refl _
   ·rw[if_pos h5]at hf
    exact hf
  ·have h4:¬i<c:=by simpa using h4
   obtain rfl:i=c:=by omega
   simp only[aI,fE];refine⟨q1e _ ?_⟩;refine cO.evH aT (aSN kd fu wi off k n d nm ML.length (aJ bY ML) BL.length (aJ bM BL) i e i) ?_;simp only[aI,bK];rw[Nat.sub_self]at hf;rw[←hf];exact⟨eL.refl _⟩
set_option maxRecDepth 100000 in
theorem aDU:∀t,t≤1000→dD Tryz.prog G 82 (jF iJ mS t):=by
 intro t;induction t with
 |zero=>
  intro _;intro args p v hm hp h
  unfold jF at hm
  split at hm;rotate_left;· cases hm
  obtain⟨rfl,rfl⟩:=bA hm;exact hp.elim
 |succ t ih=>
  intro ht;intro args p v hm hp h
  unfold jF at hm
  split at hm;rotate_left;· cases hm
  rename_i q0 q1 q2 q3 q4 q5 q6 q7 q8 q9 q10;obtain⟨rfl,rfl⟩:=bA hm;clear hm;obtain⟨kd,fu,wi,off,k,n,d,nm,ML,BL,c,e,hcs,hn,hd,hL,hc,hk⟩:=hp;simp only[fF.injEq,and_true]at hcs;obtain⟨rfl,rfl,rfl,rfl,rfl,rfl,rfl,rfl,rfl,rfl,rfl⟩:=hcs
  have hs:bO Tryz.prog G (aLQ t):=cD (by simp;exact ih (by omega))
  refine fR Tryz.func82 (by kernel_rfl) rfl ?_ h
  obtain⟨F,hF⟩:∃F:Nat→Int,F=fun i=>mS t (cN e i):=⟨_,rfl⟩
  have hv:mS (t+1) [.i .i64 kd,.i .i64 fu,.i .i64 wi,.i .i64 off,.i .i64 k,.i .i64 n,.i .i64 d,.s nm,.l 3 ML.length (aJ bY ML),.l 1 BL.length (aJ bM BL),.l 11 c e]=oQ F c+1:=by rw[hF];rfl
  have hb:=OB (t+1) [.i .i64 kd,.i .i64 fu,.i .i64 wi,.i .i64 off,.i .i64 k,.i .i64 n,.i .i64 d,.s nm,.l 3 ML.length (aJ bY ML),.l 1 BL.length (aJ bM BL),.l 11 c e]
  rw[hv]at hb ⊢;refine cO.evG aT 3 (aVU kd fu wi off k n d nm ML.length (aJ bY ML) BL.length (aJ bM BL) c e) ?_;simp only[aI,aZ];refine⟨?_⟩
  refine cO.loop' (l:=bJ 3 (cS Tryz.prog Tryz.f82)) (b:=inr (inr (bN .skip (cS Tryz.prog Tryz.f82) 3))) (r:=bJ 4 (cS Tryz.prog Tryz.f82)) (id:=0) (by kernel_rfl) (σ:=Nat)
    (fun i=>(fun x=>bU 22 [(1,.c (.ptr 0 0)),(3,iV (x:Int)),(4,iV (i:Nat))] [.cells 33 (cF kd fu wi off k n d nm ML.length (aJ bY ML) BL.length (aJ bM BL) c e)]) (oQ F i)) (fun i=>i≤c) (fun i=>c-i) 0 (bH _) (aP (by kernel_rfl)) ?_
  rintro i hi Q1 q1n q1e -;refine cO.evH hs (aVT kd fu wi off k n d nm ML.length (aJ bY ML) BL.length (aJ bM BL) c e t i (oQ F i)) ?_;rw[bD];refine⟨fun h4=>?_,fun h4=>?_⟩
  ·have h4:i<c:=by simpa using h4
   have hFi:mS t [e i 0,e i 1,e i 2,e i 3,e i 4,e i 5,e i 6,e i 7,e i 8,e i 9,e i 10]=F i:=by rw[hF];rfl
   have hKi:iJ t [e i 0,e i 1,e i 2,e i 3,e i 4,e i 5,e i 6,e i 7,e i 8,e i 9,e i 10]:=hk i h4
   simp only[bD,aS,aI,bK,aZ,show (↑i:Int).toNat=i from rfl,dV,Nat.reduceAdd,hFi,inR];refine⟨by omega,hKi,by omega,⟨q1n (i+1) _ (show i+1≤c by omega) (show c-(i+1)<c-i by omega) ?_⟩⟩
   have em:oQ F (i+1)=if oQ F i<F i then F i else oQ F i:=by
    show (if F i<oQ F i then oQ F i else F i)=_
    split<;>split<;>omega
   show cW G _ ((fun x i=>bU 22 [(1,.c (.ptr 0 0)),(3,iV (x:Int)),(4,iV (i:Nat))] [.cells 33 (cF kd fu wi off k n d nm ML.length (aJ bY ML) BL.length (aJ bM BL) c e)]) (oQ F (i+1)) (i+1))
   rw[em]
   exact aP (by kernel_rfl)
  ·have h4:¬i<c:=by simpa using h4
   obtain rfl:i=c:=by omega
   simp only[aI,fE];refine⟨q1e _ ?_⟩;refine cO.evH aT (aVS kd fu wi off k n d nm ML.length (aJ bY ML) BL.length (aJ bM BL) i e i (oQ F i)) ?_;simp only[aS,aI,bK,inR];exact⟨by omega,⟨eL.refl _⟩⟩
set_option maxRecDepth 100000 in
theorem aDM:∀t,dD Tryz.prog G 83 (jF lO kC t):=by
 intro t;induction t with
 |zero=>
  intro args p v hm hp h;unfold jF at hm
  split at hm;rotate_left;· cases hm
  obtain⟨rfl,rfl⟩:=bA hm;exact hp.1.elim
 |succ t ih=>
  intro args p v hm hp h;unfold jF at hm
  split at hm;rotate_left;· cases hm
  rename_i q0 q1 q2 q3 q4 q5 q6 q7 q8 q9 q10;obtain⟨rfl,rfl⟩:=bA hm;clear hm;obtain⟨kd,fu,wi,off,k,n,d,nm,ML,BL,c,e,hcs,hn,hd,hL,hc,hk⟩:=hp.1
  have hnb:=hp.2
  simp only[fF.injEq,and_true]at hcs;obtain⟨rfl,rfl,rfl,rfl,rfl,rfl,rfl,rfl,rfl,rfl,rfl⟩:=hcs
  have hs:bO Tryz.prog G (aLK t):=cD (by simp;exact ih)
  refine fR Tryz.func83 (by kernel_rfl) rfl ?_ h
  obtain⟨F,hF⟩:∃F:Nat→Int,F=fun i=>kC t (cN e i):=⟨_,rfl⟩
  have hv:kC (t+1) [.i .i64 kd,.i .i64 fu,.i .i64 wi,.i .i64 off,.i .i64 k,.i .i64 n,.i .i64 d,.s nm,.l 3 ML.length (aJ bY ML),.l 1 BL.length (aJ bM BL),.l 11 c e]=1+jW F c:=by rw[hF];rfl
  have hF0:∀i,0≤F i:=fun i=>by rw[hF];exact MY t _
  rw[hv]at hnb ⊢;refine cO.evG aT 3 (aUB kd fu wi off k n d nm ML.length (aJ bY ML) BL.length (aJ bM BL) c e) ?_;simp only[aI,aZ];refine⟨?_⟩
  refine cO.loop' (l:=bJ 3 (cS Tryz.prog Tryz.f83)) (b:=inr (inr (bN .skip (cS Tryz.prog Tryz.f83) 3))) (r:=bJ 4 (cS Tryz.prog Tryz.f83)) (id:=0) (by kernel_rfl) (σ:=Nat)
    (fun i=>(fun x=>bU 21 [(1,.c (.ptr 0 0)),(3,iV (x:Int)),(4,iV (i:Nat))] [.cells 33 (cF kd fu wi off k n d nm ML.length (aJ bY ML) BL.length (aJ bM BL) c e)]) (1+jW F i)) (fun i=>i≤c) (fun i=>c-i) 0 (bH _) (aP (by kernel_rfl)) ?_
  rintro i hi Q1 q1n q1e -;refine cO.evH hs (aUA kd fu wi off k n d nm ML.length (aJ bY ML) BL.length (aJ bM BL) c e t i (1+jW F i)) ?_;rw[bD];refine⟨fun h4=>?_,fun h4=>?_⟩
  ·have h4:i<c:=by simpa using h4
   have hFi:kC t [e i 0,e i 1,e i 2,e i 3,e i 4,e i 5,e i 6,e i 7,e i 8,e i 9,e i 10]=F i:=by rw[hF];rfl
   have hKi:iJ t [e i 0,e i 1,e i 2,e i 3,e i 4,e i 5,e i 6,e i 7,e i 8,e i 9,e i 10]:=hk i h4
   have hm:=yT F hF0 h4
   have hFi0:=hF0 i
   have hAi:lO t [e i 0,e i 1,e i 2,e i 3,e i 4,e i 5,e i 6,e i 7,e i 8,e i 9,e i 10]:=⟨hKi,by rw[hFi];omega⟩
   simp only[bD,aS,aI,bK,aZ,show (↑i:Int).toNat=i from rfl,dV,Nat.reduceAdd,hFi,inR];refine⟨by omega,hAi,by omega,by omega,⟨q1n (i+1) _ (show i+1≤c by omega) (show c-(i+1)<c-i by omega) ?_⟩⟩
   show cW G _ ((fun x i=>bU 21 [(1,.c (.ptr 0 0)),(3,iV (x:Int)),(4,iV (i:Nat))] [.cells 33 (cF kd fu wi off k n d nm ML.length (aJ bY ML) BL.length (aJ bM BL) c e)]) (1+(jW F i+F i)) (i+1))
   rw[←Int.add_assoc]
   exact aP (by kernel_rfl)
  ·have h4:¬i<c:=by simpa using h4
   obtain rfl:i=c:=by omega
   simp only[aI,fE];refine⟨q1e _ ?_⟩;refine cO.evH aT (aU9 kd fu wi off k n d nm ML.length (aJ bY ML) BL.length (aJ bM BL) i e i (1+jW F i)) ?_;simp only[aS,aI,bK,inR];exact⟨eL.refl _⟩
end
def lP(F:Nat→Int→Int):Nat→Nat→Int→Int
 |_,0,x=>x
 |i,m+1,x=>if x<0 then x else lP F (i+1) m (F i x)
def aES:List PV→Option PV
 |[_,_,_,_,_,_,_,_,_,_,q]=>some q
 |_=>none
def qW:Nat→List PV→Int→Int→Int
 |0,_,_,n=>n
 |t+1,cs,d,n=>match aES cs with
  |some q=>lP (fun i x=>qW t (cN (hO q) i) (d+1) x) 0 (kH q) (if 12<d then -1 else n-1)
  |none=>n
def JX(t:Nat):SQ
 |[.a [.p q0,.p q1,.p q2,.p q3,.p q4,.p q5,.p q6,.p q7,.p q8,.p q9,.p q10],.c (.p (.i .i64 d)),.c (.ptr 0 0)],.pin 2 b::o1::.cells ty [.p (.i .i64 n)]::rest=>some (ty=3∧iJ t [q0,q1,q2,q3,q4,q5,q6,q7,q8,q9,q10]∧(0≤d∧d+(t:Nat)≤100000)∧0≤n∧n≤1000000,.t [],oF [2] [2] [1] (.pin 2 b::o1::.cells ty [.p (.i .i64 n)]::rest) [.pin 1 0,.cells ty [.p (.i .i64 (qW t [q0,q1,q2,q3,q4,q5,q6,q7,q8,q9,q10] d n))]])
 |_,_=>none
def aEJ(t:Nat):SQ
 |[.a [.p q0,.p q1,.p q2,.p q3,.p q4,.p q5,.p q6,.p q7,.p q8,.p q9,.p q10],.c (.p (.i .i64 d)),.c (.ptr 1 0)],o0::.cells ty [.p (.i .i64 n)]::rest=>some (ty=3∧iJ t [q0,q1,q2,q3,q4,q5,q6,q7,q8,q9,q10]∧(0≤d∧d+(t:Nat)≤100000)∧0≤n∧n≤1000000,.t [],oF [1] [1] [1] (o0::.cells ty [.p (.i .i64 n)]::rest) [.pin 1 0,.cells ty [.p (.i .i64 (qW t [q0,q1,q2,q3,q4,q5,q6,q7,q8,q9,q10] d n))]])
 |_,_=>none
def aLR(t:Nat):Ext:=yB [(113,JX t)]
def aLO(t:Nat):Ext:=yB [(113,aEJ t)]
theorem aWB(kd fu wi off k n d:Int)(nm:ByteArray)(mc:Nat)(f:Nat→Nat→PV)(bc:Nat)(g:Nat→Nat→PV)(c:Nat)(e:Nat→Nat→PV)(b:Nat)(dp x:Int):cJ dX (dH 5 (cS Tryz.prog Tryz.f113)) (rF Tryz.f113 [1] [1] [b] [.a (cF kd fu wi off k n d nm mc f bc g c e),iV dp,.c (.ptr 1 0)] [.gone,.cells 3 [.p (.i .i64 x)]]) (pW [2] (fO 38 [1,2,3,6]) (bB Tryz.prog Tryz.f113))=Tr.rq (inR aA (x-1))
 (bT (decide (12<dp))
 (.done .normal
 (bU 38 [(1,.c (.p (.i .i64 dp))),(2,.c (.ptr 0 0)),(3,.c (.ptr 1 0)),(6,.c (.p (.i .i64 0)))] [.pin 2 b,.cells 33 (cF kd fu wi off k n d nm mc f bc g c e),.cells 3 [.p (.i .i64 (-1))]]))
 (.done .normal
 (bU 38 [(1,.c (.p (.i .i64 dp))),(2,.c (.ptr 0 0)),(3,.c (.ptr 1 0)),(6,.c (.p (.i .i64 0)))] [.pin 2 b,.cells 33 (cF kd fu wi off k n d nm mc f bc g c e),.cells 3 [.p (.i .i64 (x-1))]]))):=by kernel_rfl
theorem aWA(kd fu wi off k n d:Int)(nm:ByteArray)(mc:Nat)(f:Nat→Nat→PV)(bc:Nat)(g:Nat→Nat→PV)(c:Nat)(e:Nat→Nat→PV)(b t i:Nat)(dp x:Int):cJ (aLR t) (jZ (cS Tryz.prog Tryz.f113) 5) (bU 38 [(1,iV dp),(2,.c (.ptr 0 0)),(3,.c (.ptr 1 0)),(6,iV (i:Nat))] [.pin 2 b,.cells 33 (cF kd fu wi off k n d nm mc f bc g c e),.cells 3 [.p (.i .i64 x)]]) (pW [2] (fO 38 [1,2,3,6]) (bB Tryz.prog Tryz.f113))=bT (decide ((↑i:Int)<(↑c:Int)))
 (bT (decide (0≤x))
 (.rq (0≤(↑i:Int)∧(↑i:Int)<(↑c:Int))
 (.rq (inR aA (dp+1))
 (.rq
 (3=3 ∧
 iJ t
 [e (↑i:Int).toNat 0,e (↑i:Int).toNat 1,e (↑i:Int).toNat 2,e (↑i:Int).toNat 3,e (↑i:Int).toNat 4,e (↑i:Int).toNat 5,e (↑i:Int).toNat 6,e (↑i:Int).toNat 7,
 e (↑i:Int).toNat 8,e (↑i:Int).toNat 9,e (↑i:Int).toNat 10] ∧
 (0≤dp+1∧dp+1+(↑t:Int)≤100000)∧0≤x∧x≤1000000)
 (.rq (inR aA ((↑i:Int)+1))
 (.done .normal
 (bU 38 [(1,.c (.p (.i .i64 dp))),(2,.c (.ptr 0 0)),(3,.c (.ptr 1 0)),(6,.c (.p (.i .i64 ((↑i:Int)+1))))] [.pin 2 b,.cells 33 (cF kd fu wi off k n d nm mc f bc g c e),.cells 3 [.p (.i .i64 (qW t [e (↑i:Int).toNat 0,e (↑i:Int).toNat 1,e (↑i:Int).toNat 2,e (↑i:Int).toNat 3,e (↑i:Int).toNat 4,e (↑i:Int).toNat 5,e (↑i:Int).toNat 6,e (↑i:Int).toNat 7,e (↑i:Int).toNat 8,e (↑i:Int).toNat 9,e (↑i:Int).toNat 10] (dp+1) x))]]))))))
 (.done (.exit 0)
 (bU 38 [(1,.c (.p (.i .i64 dp))),(2,.c (.ptr 0 0)),(3,.c (.ptr 1 0)),(6,.c (.p (.i .i64 (↑i:Int))))] [.pin 2 b,.cells 33 (cF kd fu wi off k n d nm mc f bc g c e),.cells 3 [.p (.i .i64 x)]])))
 (.done (.exit 0)
 (bU 38 [(1,.c (.p (.i .i64 dp))),(2,.c (.ptr 0 0)),(3,.c (.ptr 1 0)),(6,.c (.p (.i .i64 (↑i:Int))))] [.pin 2 b,.cells 33 (cF kd fu wi off k n d nm mc f bc g c e),.cells 3 [.p (.i .i64 x)]])):=by kernel_rfl
theorem aW9(kd fu wi off k n d:Int)(nm:ByteArray)(mc:Nat)(f:Nat→Nat→PV)(bc:Nat)(g:Nat→Nat→PV)(c:Nat)(e:Nat→Nat→PV)(b i:Nat)(dp x:Int):cJ dX (bJ 6 (cS Tryz.prog Tryz.f113)) (bU 38 [(1,iV dp),(2,.c (.ptr 0 0)),(3,.c (.ptr 1 0)),(6,iV (i:Nat))] [.pin 2 b,.cells 33 (cF kd fu wi off k n d nm mc f bc g c e),.cells 3 [.p (.i .i64 x)]]) (pW [2] (fO 38 [2]) (bB Tryz.prog Tryz.f113))=Tr.done X.normal
 (bU 38 [(2,.c (.ptr 0 0))] [.pin 1 b,.cells 3 [.p (.i .i64 x)]]):=by kernel_rfl
theorem aVN(kd fu wi off k n d:Int)(nm:ByteArray)(mc:Nat)(f:Nat→Nat→PV)(bc:Nat)(g:Nat→Nat→PV)(c:Nat)(e:Nat→Nat→PV)(t:Nat):cJ (aLO t) (cS Tryz.prog Tryz.f95) (iR Tryz.f95 [.a (cF kd fu wi off k n d nm mc f bc g c e)]) (cP [] (bB Tryz.prog Tryz.f95))=Tr.rq
 (3=3 ∧
 iJ t
 [PV.i aA kd,PV.i aA fu,PV.i aA wi,PV.i aA off,PV.i aA k,PV.i aA n,PV.i aA d,PV.s nm,PV.l 3 mc f,PV.l 1 bc g,
 PV.l 11 c e] ∧
 (aF 0≤aF 1∧1+(↑t:Int)≤100000)∧aF 0≤aF 200∧aF 200≤aF 1000000)
 (.done .ret
 (St.mk [V.c (C.p (PV.b (decide (0≤qW t [PV.i aA kd,PV.i aA fu,PV.i aA wi,PV.i aA off,PV.i aA k,PV.i aA n,PV.i aA d,PV.s nm,PV.l 3 mc f,PV.l 1 bc g,PV.l 11 c e] 1 200))))] [])):=by kernel_rfl
theorem QQ(F:Nat→Int→Int)(hF:∀i x,0≤x → -1≤F i x∧F i x≤x):∀(m i:Nat) (x:Int),-1≤x → -1≤lP F i m x∧lP F i m x≤x
 |0,i,x,h=>by unfold lP;omega
 |m+1,i,x,h=>by
  unfold lP;split
  ·omega
  ·have h1:=hF i x (by omega)
   have h2:=QQ F hF m (i+1) (F i x) (by omega)
   omega
theorem ZG:∀(t:Nat) (cs:List PV) (d n:Int),0≤n → -1≤qW t cs d n∧qW t cs d n≤n
 |0,cs,d,n,h=>by unfold qW;omega
 |t+1,cs,d,n,h=>by
  unfold qW;cases aES cs with
  |none=>dsimp only;omega
  |some q=>
   dsimp only
   have h1 : -1≤(if 12<d then -1 else n-1)∧(if 12<d then -1 else n-1)≤n:=by split<;>omega
   have:=QQ (fun i x=>qW t (cN (hO q) i) (d+1) x) (fun i x hx=>ZG t _ (d+1) x hx) (kH q) 0 _ h1.1
   omega
theorem VB(F:Nat→Int→Int){i c:Nat}(h:i<c)(x:Int):lP F i (c-i) x=if x<0 then x else lP F (i+1) (c-(i+1)) (F i x):=by
 obtain⟨m,hm⟩:∃m,c-i=m+1:=⟨c-i-1,by omega⟩
 rw[hm,show c-(i+1)=m by omega];rfl
theorem aDB(id:Nat)(h:List AO)(b b':Nat)(x:AO):oF [id] [id] [1] h [.pin 1 b,x]=oF [id] [id] [1] h [.pin 1 b',x]:=by
 unfold oF
 have e:MQ [id] [id] [1] (fK h) [.pin 1 b,x]=MQ [id] [id] [1] (fK h) [.pin 1 b',x]:=by
  funext i y;unfold MQ FP;cases Nat.beq id i<;>rfl
 rw[e];rfl
theorem pG{p q:Prop}{v u:V}{h h':List AO}(e:some (p,v,h)=some (q,u,h')):p=q∧v=u∧h=h':=by
 injection e with e;injection e with e1 e;injection e with e2 e3;exact⟨e1,e2,e3⟩
section
variable {G:Nat→Option Obj}
theorem lW.unpin3{P:Program}{f:FuncId}{q j off b0:Nat}{a0 a1:V}{h:List AO}{K:V→List AO→Prop}(hq:bN .gone h q=.pin j b0)(hf:lW P G f [a0,a1,.c (.ptr j off)] h K):lW P G f [a0,a1,.c (.ptr q off)] h K:=by
 intro β R w vs ha hh;refine hf β R w vs ?_ hh
 generalize vs.toList=us at ha
 match us,ha with
 |[u0,u1,u2],⟨h0,h1,h2,h3⟩=>
  obtain⟨b,o,e1,e2⟩:=h2
  have hob:=hh.obj q b o e1
  rw[hq]at hob;obtain⟨e3,o2,e4⟩:=hob;subst e3;exact⟨h0,h1,⟨_,o2,e4,e2⟩,h3⟩
set_option maxRecDepth 100000 in
theorem aG2(t:Nat)(ih:lH Tryz.prog G 113 (JX t)){kd fu wi off k n d:Int}{nm:ByteArray}{mc bc:Nat}{f g:Nat→Nat→PV}{c:Nat}{e:Nat→Nat→PV}(b:Nat){dp x:Int}(hk:∀i,i<c→iJ t (cN e i))(hc:c≤1000)(hd:0≤dp∧dp+(t+1:Nat)≤100000)(hx:0≤x∧x≤1000000) :
  jM Tryz.prog G (Zm [2] (bB Tryz.prog Tryz.f113) fun s=>cW G s ⟨[.c (.ptr 0 0)]++[],[.pin 1 b,.cells 3 [.p (.i .i64 (qW (t+1) [.i .i64 kd,.i .i64 fu,.i .i64 wi,.i .i64 off,.i .i64 k,.i .i64 n,.i .i64 d,.s nm,.l 3 mc f,.l 1 bc g,.l 11 c e] dp x))]]⟩) (cS Tryz.prog Tryz.f113) (rF Tryz.f113 [1] [1] [b] [.a (cF kd fu wi off k n d nm mc f bc g c e),iV dp,.c (.ptr 1 0)] [.gone,.cells 3 [.p (.i .i64 x)]]) (fun ex s=>ex=.normal∧Zm [2] (bB Tryz.prog Tryz.f113) (fun s=>cW G s ⟨[.c (.ptr 0 0)]++[],[.pin 1 b,.cells 3 [.p (.i .i64 (qW (t+1) [.i .i64 kd,.i .i64 fu,.i .i64 wi,.i .i64 off,.i .i64 k,.i .i64 n,.i .i64 d,.s nm,.l 3 mc f,.l 1 bc g,.l 11 c e] dp x))]]⟩) s):=by
 have hs:bO Tryz.prog G (aLR t):=jO (by simp;exact ih)
 obtain⟨F,hF⟩:∃F:Nat→Int→Int,F=fun i x=>qW t (cN e i) (dp+1) x:=⟨_,rfl⟩
 have hv:qW (t+1) [.i .i64 kd,.i .i64 fu,.i .i64 wi,.i .i64 off,.i .i64 k,.i .i64 n,.i .i64 d,.s nm,.l 3 mc f,.l 1 bc g,.l 11 c e] dp x=lP F 0 c (if 12<dp then -1 else x-1):=by rw[hF];rfl
 have hFl:∀i x,0≤x → -1≤F i x∧F i x≤x:=fun i x h=>by rw[hF];exact ZG t _ _ _ h
 rw[hv];refine jM.evG aT 5 (aWB kd fu wi off k n d nm mc f bc g c e b dp x) ?_;simp only[bD,aS,aI,iY,decide_eq_true_eq,decide_eq_false_iff_not,inR]
 have key:∀x0:Int,-1≤x0→x0≤1000000→(if 12<dp then -1 else x-1)=x0→jM Tryz.prog G (Zm [2] (bB Tryz.prog Tryz.f113) fun s=>cW G s ⟨[.c (.ptr 0 0)]++[],[.pin 1 b,.cells 3 [.p (.i .i64 (lP F 0 c x0))]]⟩) (bJ 5 (cS Tryz.prog Tryz.f113)) ((fun i x=>bU 38 [(1,iV dp),(2,.c (.ptr 0 0)),(3,.c (.ptr 1 0)),(6,iV (i:Nat))] [.pin 2 b,.cells 33 (cF kd fu wi off k n d nm mc f bc g c e),.cells 3 [.p (.i .i64 x)]]) 0 x0) (fun ex s=>ex=.normal∧Zm [2] (bB Tryz.prog Tryz.f113) (fun s=>cW G s ⟨[.c (.ptr 0 0)]++[],[.pin 1 b,.cells 3 [.p (.i .i64 (lP F 0 c x0))]]⟩) s):=by
  intro x0 h0 h1 _
  refine jM.loop' (l:=bJ 5 (cS Tryz.prog Tryz.f113)) (b:=inr (inr (bN .skip (cS Tryz.prog Tryz.f113) 5))) (r:=bJ 6 (cS Tryz.prog Tryz.f113)) (id:=0) (by kernel_rfl) (σ:=Nat×Int)
    (fun s=>(fun i x=>bU 38 [(1,iV dp),(2,.c (.ptr 0 0)),(3,.c (.ptr 1 0)),(6,iV (i:Nat))] [.pin 2 b,.cells 33 (cF kd fu wi off k n d nm mc f bc g c e),.cells 3 [.p (.i .i64 x)]]) s.1 s.2) (fun s=>s.1≤c∧lP F s.1 (c-s.1) s.2=lP F 0 c x0 ∧ -1≤s.2∧s.2≤1000000) (fun s=>c-s.1) (0,x0) ⟨bH _,rfl,h0,h1⟩ (aP (by kernel_rfl)) ?_
  rintro⟨i,y⟩ ⟨hi,hl,hy0,hy1⟩ Q1 q1n q1e -;dsimp only at hi hl hy0 hy1 q1n q1e ⊢
  have fin:lP F 0 c x0=y→jM Tryz.prog G (Zm [2] (bB Tryz.prog Tryz.f113) fun s=>cW G s ⟨[.c (.ptr 0 0)]++[],[.pin 1 b,.cells 3 [.p (.i .i64 (lP F 0 c x0))]]⟩) (bJ 6 (cS Tryz.prog Tryz.f113)) ((fun i x=>bU 38 [(1,iV dp),(2,.c (.ptr 0 0)),(3,.c (.ptr 1 0)),(6,iV (i:Nat))] [.pin 2 b,.cells 33 (cF kd fu wi off k n d nm mc f bc g c e),.cells 3 [.p (.i .i64 x)]]) i y) (fun ex s=>ex=.normal∧Zm [2] (bB Tryz.prog Tryz.f113) (fun s=>cW G s ⟨[.c (.ptr 0 0)]++[],[.pin 1 b,.cells 3 [.p (.i .i64 (lP F 0 c x0))]]⟩) s):=by
   rintro e1;rw[e1];refine jM.evH aT (aW9 kd fu wi off k n d nm mc f bc g c e b i dp y) ?_;simp only[aI,iY]
   exact⟨⟨trivial,[],by kernel_rfl,aP (by kernel_rfl)⟩⟩
  refine jM.evH hs (aWA kd fu wi off k n d nm mc f bc g c e b t i dp y) ?_;rw[bD];refine⟨fun h4=>?_,fun h4=>?_⟩
  ·have h4:i<c:=by simpa using h4
   have hFi:qW t [e i 0,e i 1,e i 2,e i 3,e i 4,e i 5,e i 6,e i 7,e i 8,e i 9,e i 10] (dp+1) y=F i y:=by rw[hF];rfl
   have hKi:iJ t [e i 0,e i 1,e i 2,e i 3,e i 4,e i 5,e i 6,e i 7,e i 8,e i 9,e i 10]:=hk i h4
   simp only[bD,aS,aI,iY,uV,show (↑i:Int).toNat=i from rfl,dV,Nat.reduceAdd,hFi,decide_eq_true_eq,decide_eq_false_iff_not,inR];rw[VB F h4]at hl
   refine⟨fun h5=>⟨by omega,by omega,⟨trivial,hKi,by omega,by omega⟩,by omega,⟨q1n (i+1,F i y) _ ⟨show i+1≤c by omega,?_,(hFl i y h5).1,by have:=(hFl i y h5).2;show F i y≤1000000;omega⟩ (show c-(i+1)<c-i by omega) (aP (by kernel_rfl))⟩⟩,fun h5=>⟨q1e _ (jM.pre (aP (by kernel_rfl)) (fin ?_))⟩⟩
   ·rw[if_neg (by omega)]at hl;exact hl
   ·rw[if_pos (by omega)]at hl;exact hl.symm
  ·have h4:¬i<c:=by simpa using h4
   obtain rfl:i=c:=by omega
   simp only[aI,uV]
   refine⟨q1e _ (jM.pre (aP (by kernel_rfl)) (fin ?_))⟩
   rw[Nat.sub_self]at hl;exact hl.symm
 refine⟨by omega,fun h1=>⟨?_⟩,fun h1=>⟨?_⟩⟩
 ·rw[if_pos h1]
  exact jM.pre (aP (by kernel_rfl)) (key (-1) (by omega) (by omega) (if_pos h1))
 ·rw[if_neg h1]
  exact jM.pre (aP (by kernel_rfl)) (key (x-1) (by omega) (by omega) (if_neg h1))
set_option maxRecDepth 100000 in
theorem ZF(t:Nat)(ih:lH Tryz.prog G 113 (JX t)){kd fu wi off k n d:Int}{nm:ByteArray}{mc bc:Nat}{f g:Nat→Nat→PV}{c:Nat}{e:Nat→Nat→PV}{dp x:Int}(hk:∀i,i<c→iJ t (cN e i))(hc:c≤1000)(hd:0≤dp∧dp+(t+1:Nat)≤100000)(hx:0≤x∧x≤1000000)
  (id:Nat) (h:List AO) (hnd:qJ [id]=true) (hlv:sK h [id]=true) (hst:∀b,rF Tryz.f113 [id] [id] [b] [.a (cF kd fu wi off k n d nm mc f bc g c e),iV dp,.c (.ptr id 0)] h=rF Tryz.f113 [1] [1] [b] [.a (cF kd fu wi off k n d nm mc f bc g c e),iV dp,.c (.ptr 1 0)] [.gone,.cells 3 [.p (.i .i64 x)]]) :
  lW Tryz.prog G 113 [.a (cF kd fu wi off k n d nm mc f bc g c e),iV dp,.c (.ptr id 0)] h fun r h'=>r=.t []∧h'=oF [id] [id] [1] h [.pin 1 0,.cells 3 [.p (.i .i64 (qW (t+1) [.i .i64 kd,.i .i64 fu,.i .i64 wi,.i .i64 off,.i .i64 k,.i .i64 n,.i .i64 d,.s nm,.l 3 mc f,.l 1 bc g,.l 11 c e] dp x))]]:=by
 refine fun β R w vs ha hh=>(aFM (ρ:=[id]) (ids:=[id]) (ps:=[2]) (pns:=[0]) (js:=[1]) (sl:=[.c (.ptr 0 0)]) (vs:=[]) (hE:=fun bs=>[.pin 1 (bN 0 bs 0),.cells 3 [.p (.i .i64 (qW (t+1) [.i .i64 kd,.i .i64 fu,.i .i64 wi,.i .i64 off,.i .i64 k,.i .i64 n,.i .i64 d,.s nm,.l 3 mc f,.l 1 bc g,.l 11 c e] dp x))]]) Tryz.func113 (by kernel_rfl) hnd hlv (by simp) (fun i hi=>⟨0,by rw[List.mem_singleton.1 hi];simp⟩) rfl rfl rfl (fun i pn h=>?_) (fun bs hb i pn j b h1 h2 h3=>?_) (fun bs hb=>?_) β R w vs ha hh).mono ?_
 ·cases i with
  |zero=>obtain rfl:0=pn:=by simpa using h
         exact⟨0,by simp⟩
  |succ i=>simp at h
 ·cases i with
  |zero=>
   obtain rfl:0=pn:=by simpa using h1
   obtain rfl:1=j:=by simpa using h2
   cases bs with
   |nil=>simp at hb
   |cons b0 bs=>
    obtain rfl:b0=b:=by simpa using h3
    exact⟨rfl,rfl⟩
  |succ i=>simp at h1
 ·obtain⟨b,rfl⟩:∃b,bs=[b]:=by
    cases bs with
    |nil=>simp at hb
    |cons b0 bs=>cases bs with
     |nil=>exact⟨b0,rfl⟩
     |cons _ _=>simp at hb
  clear hb ha hh;rw[hst b];exact aG2 t ih b hk hc hd hx
 ·rintro e w' ⟨u,β',R',r,h',rfl,⟨bs,hb,hx,hh'⟩,hr⟩
  exact⟨u,β',R',r,h',rfl,⟨hx,hh'.trans (aDB _ _ _ _ _)⟩,hr⟩
set_option maxRecDepth 100000 in
theorem aNI:∀t,t≤1000→lH Tryz.prog G 113 (JX t):=by
 intro t;induction t with
 |zero=>
  intro _ args h p v h' hm hp;unfold JX at hm
  split at hm;rotate_left;· cases hm
  obtain⟨rfl,rfl,rfl⟩:=pG hm;exact hp.2.1.elim
 |succ t ih=>
  intro ht args h p v h' hm hp;unfold JX at hm
  split at hm;rotate_left;· cases hm
  rename_i q0 q1 q2 q3 q4 q5 q6 q7 q8 q9 q10 dp b o1 ty x rest;obtain⟨rfl,rfl,rfl⟩:=pG hm;clear hm;obtain⟨rfl,⟨kd,fu,wi,off,k,n,d,nm,ML,BL,c,e,hcs,hn,hd,hL,hc,hk⟩,hdp,hx⟩:=hp;simp only[fF.injEq,and_true]at hcs;obtain⟨rfl,rfl,rfl,rfl,rfl,rfl,rfl,rfl,rfl,rfl,rfl⟩:=hcs;refine lW.unpin3 (j:=2) (b0:=b) rfl ?_
  exact ZF t (ih (by omega)) hk hc hdp hx 2 _ (by kernel_rfl) (by kernel_rfl) (fun b=>by kernel_rfl)
set_option maxRecDepth 100000 in
theorem aNJ:∀t,t≤1000→lH Tryz.prog G 113 (aEJ t):=by
 intro t ht args h p v h' hm hp;unfold aEJ at hm
 split at hm;rotate_left;· cases hm
 rename_i q0 q1 q2 q3 q4 q5 q6 q7 q8 q9 q10 dp o0 ty x rest;obtain⟨rfl,rfl,rfl⟩:=pG hm;clear hm;cases t with
 |zero=>exact hp.2.1.elim
 |succ t=>
  obtain⟨rfl,⟨kd,fu,wi,off,k,n,d,nm,ML,BL,c,e,hcs,hn,hd,hL,hc,hk⟩,hdp,hx⟩:=hp;simp only[fF.injEq,and_true]at hcs;obtain⟨rfl,rfl,rfl,rfl,rfl,rfl,rfl,rfl,rfl,rfl,rfl⟩:=hcs
  exact ZF t (aNI t (by omega)) hk hc hdp hx 1 _ (by kernel_rfl) (by kernel_rfl) (fun b=>by kernel_rfl)
def aFN(t:Nat)(cs:List PV):Bool:=decide (0≤qW t cs 1 200)
def jP(A:Nat→List PV→Prop)(F:Nat→List PV→Bool)(t:Nat):Mod
 |[.a [.p q0,.p q1,.p q2,.p q3,.p q4,.p q5,.p q6,.p q7,.p q8,.p q9,.p q10]]=>some (A t [q0,q1,q2,q3,q4,q5,q6,q7,q8,q9,q10],bV (F t [q0,q1,q2,q3,q4,q5,q6,q7,q8,q9,q10]))
 |_=>none
set_option maxRecDepth 100000 in
theorem aNE(t:Nat)(ht:t≤1000):dD Tryz.prog G 95 (jP iJ aFN t):=by
 intro args p v hm hp h;unfold jP at hm
 split at hm;rotate_left;· cases hm
 rename_i q0 q1 q2 q3 q4 q5 q6 q7 q8 q9 q10;obtain⟨rfl,rfl⟩:=bA hm;clear hm
 have hp0:=hp
 cases t with
 |zero=>exact hp.elim
 |succ t=>
  obtain⟨kd,fu,wi,off,k,n,d,nm,ML,BL,c,e,hcs,hn,hd,hL,hc,hk⟩:=hp;simp only[fF.injEq,and_true]at hcs;obtain⟨rfl,rfl,rfl,rfl,rfl,rfl,rfl,rfl,rfl,rfl,rfl⟩:=hcs
  have hs:bO Tryz.prog G (aLO (t+1)):=jO (by simp;exact aNJ (t+1) ht)
  refine fR Tryz.func95 (by kernel_rfl) rfl ?_ h
  refine cO.evH hs (aVN kd fu wi off k n d nm ML.length (aJ bY ML) BL.length (aJ bM BL) c e (t+1)) ?_;simp only[aS,aI,bK];exact⟨⟨trivial,hp0,⟨by decide,by omega⟩,by decide,by decide⟩,⟨eL.refl _⟩⟩
end
def yQ(t:Nat)(cs:List PV):Int:=if aFN t cs=false then 4 else pX t cs
def rE(t:Nat)(cs:List PV):Int:=if 12<mS t cs then 4 else if 200<kC t cs then 4 else pX t cs
def aL4(t:Nat):Ext:=fB [(95,jP iJ aFN t),(96,jF iJ pX t)]
def aL3(t:Nat):Ext:=fB [(82,jF iJ mS t),(83,jF lO kC t),(84,jF iJ pX t)]
theorem aSD(kd fu wi off k n d:Int)(nm:ByteArray)(mc:Nat)(f:Nat→Nat→PV)(bc:Nat)(g:Nat→Nat→PV)(c:Nat)(e:Nat→Nat→PV)(t:Nat):cJ (aL4 t) (cS Tryz.prog Tryz.f62) (iR Tryz.f62 [.a (cF kd fu wi off k n d nm mc f bc g c e)]) (cP [] (bB Tryz.prog Tryz.f62))=Tr.rq
 (iJ t
 [PV.i aA kd,PV.i aA fu,PV.i aA wi,PV.i aA off,PV.i aA k,PV.i aA n,PV.i aA d,PV.s nm,PV.l 3 mc f,PV.l 1 bc g,PV.l 11 c e])
 (bT
 (!aFN t
 [PV.i aA kd,PV.i aA fu,PV.i aA wi,PV.i aA off,PV.i aA k,PV.i aA n,PV.i aA d,PV.s nm,PV.l 3 mc f,PV.l 1 bc g,
 PV.l 11 c e])
 (.done .ret (St.mk [V.c (C.p (PV.i aA 4))] []))
 (.rq
 (iJ t
 [PV.i aA kd,PV.i aA fu,PV.i aA wi,PV.i aA off,PV.i aA k,PV.i aA n,PV.i aA d,PV.s nm,PV.l 3 mc f,PV.l 1 bc g,
 PV.l 11 c e])
 (.done .ret
 (St.mk [V.c (C.p (PV.i aA (pX t [PV.i aA kd,PV.i aA fu,PV.i aA wi,PV.i aA off,PV.i aA k,PV.i aA n,PV.i aA d,PV.s nm,PV.l 3 mc f,PV.l 1 bc g,PV.l 11 c e])))] [])))):=by kernel_rfl
theorem aSC(kd fu wi off k n d:Int)(nm:ByteArray)(mc:Nat)(f:Nat→Nat→PV)(bc:Nat)(g:Nat→Nat→PV)(c:Nat)(e:Nat→Nat→PV)(t:Nat):cJ (aL3 t) (cS Tryz.prog Tryz.f47) (iR Tryz.f47 [.a (cF kd fu wi off k n d nm mc f bc g c e)]) (cP [] (bB Tryz.prog Tryz.f47))=Tr.rq
 (iJ t
 [PV.i aA kd,PV.i aA fu,PV.i aA wi,PV.i aA off,PV.i aA k,PV.i aA n,PV.i aA d,PV.s nm,PV.l 3 mc f,PV.l 1 bc g,PV.l 11 c e])
 (bT
 (decide
 (12 <
 mS t
 [PV.i aA kd,PV.i aA fu,PV.i aA wi,PV.i aA off,PV.i aA k,PV.i aA n,PV.i aA d,PV.s nm,PV.l 3 mc f,PV.l 1 bc g,
 PV.l 11 c e]))
 (.done .ret (St.mk [V.c (C.p (PV.i aA 4))] []))
 (.rq
 (lO t
 [PV.i aA kd,PV.i aA fu,PV.i aA wi,PV.i aA off,PV.i aA k,PV.i aA n,PV.i aA d,PV.s nm,PV.l 3 mc f,PV.l 1 bc g,
 PV.l 11 c e])
 (bT
 (decide
 (200 <
 kC t
 [PV.i aA kd,PV.i aA fu,PV.i aA wi,PV.i aA off,PV.i aA k,PV.i aA n,PV.i aA d,PV.s nm,PV.l 3 mc f,PV.l 1 bc g,
 PV.l 11 c e]))
 (.done .ret (St.mk [V.c (C.p (PV.i aA 4))] []))
 (.rq
 (iJ t
 [PV.i aA kd,PV.i aA fu,PV.i aA wi,PV.i aA off,PV.i aA k,PV.i aA n,PV.i aA d,PV.s nm,PV.l 3 mc f,PV.l 1 bc g,
 PV.l 11 c e])
 (.done .ret
 (St.mk [V.c (C.p (PV.i aA (pX t [PV.i aA kd,PV.i aA fu,PV.i aA wi,PV.i aA off,PV.i aA k,PV.i aA n,PV.i aA d,PV.s nm,PV.l 3 mc f,PV.l 1 bc g,PV.l 11 c e])))] [])))))):=by kernel_rfl
section
variable {G:Nat→Option Obj}
set_option maxRecDepth 100000 in
theorem DV(hG:yM G)(t:Nat)(ht:t≤1000):dD Tryz.prog G 62 (jF iJ yQ t):=by
 intro args p v hm hp h;unfold jF at hm
 split at hm;rotate_left;· cases hm
 rename_i q0 q1 q2 q3 q4 q5 q6 q7 q8 q9 q10;obtain⟨rfl,rfl⟩:=bA hm;clear hm
 have hp0:=hp
 cases t with
 |zero=>exact hp.elim
 |succ t=>
  obtain⟨kd,fu,wi,off,k,n,d,nm,ML,BL,c,e,hcs,hn,hd,hL,hc,hk⟩:=hp;simp only[fF.injEq,and_true]at hcs;obtain⟨rfl,rfl,rfl,rfl,rfl,rfl,rfl,rfl,rfl,rfl,rfl⟩:=hcs
  have hs:bO Tryz.prog G (aL4 (t+1)):=cD (by simp;exact⟨aNE (t+1) ht,aIJ hG (t+1)⟩)
  refine fR Tryz.func62 (by kernel_rfl) rfl ?_ h
  refine cO.evH hs (aSD kd fu wi off k n d nm ML.length (aJ bY ML) BL.length (aJ bM BL) c e (t+1)) ?_;simp only[bD,aS,aI,bK,bX,bZ];refine⟨hp0,fun h1=>⟨?_⟩,fun h1=>⟨hp0,⟨?_⟩⟩⟩
  ·unfold yQ;rw[if_pos h1];exact eL.refl _
  ·unfold yQ;rw[if_neg (by simp[h1])];exact eL.refl _
set_option maxRecDepth 100000 in
theorem zA(t:Nat)(ht:t≤1000):dD Tryz.prog G 47 (jF lO rE t):=by
 intro args p v hm hp h;unfold jF at hm
 split at hm;rotate_left;· cases hm
 rename_i q0 q1 q2 q3 q4 q5 q6 q7 q8 q9 q10;obtain⟨rfl,rfl⟩:=bA hm;clear hm
 have hp0:=hp
 cases t with
 |zero=>exact hp.1.elim
 |succ t=>
  obtain⟨⟨kd,fu,wi,off,k,n,d,nm,ML,BL,c,e,hcs,hn,hd,hL,hc,hk⟩,hnb⟩:=hp;simp only[fF.injEq,and_true]at hcs;obtain⟨rfl,rfl,rfl,rfl,rfl,rfl,rfl,rfl,rfl,rfl,rfl⟩:=hcs
  have hs:bO Tryz.prog G (aL3 (t+1)):=cD (by simp;exact⟨aDU (t+1) ht,aDM (t+1),aDH (t+1)⟩)
  refine fR Tryz.func47 (by kernel_rfl) rfl ?_ h
  refine cO.evH hs (aSC kd fu wi off k n d nm ML.length (aJ bY ML) BL.length (aJ bM BL) c e (t+1)) ?_;simp only[bD,aS,aI,bK,decide_eq_true_eq,decide_eq_false_iff_not];unfold rE;refine⟨hp0.1,fun h1=>⟨?_⟩,fun h1=>⟨hp0,fun h2=>⟨?_⟩,fun h2=>⟨hp0.1,⟨?_⟩⟩⟩⟩
  ·rw[if_pos h1];exact eL.refl _
  ·rw[if_neg h1,if_pos h2];exact eL.refl _
  ·rw[if_neg h1,if_neg h2];exact eL.refl _
end
theorem YH(F:Nat→Int)(b:Int):∀c,oQ F c≤b↔0≤b∧∀j,j<c→F j≤b
 |0=>by simp[oQ]
 |c+1=>by
  have ih:=YH F b c
  unfold oQ;constructor
  ·intro h
   have h1:oQ F c≤b∧F c≤b:=by split at h<;>omega
   refine⟨(ih.1 h1.1).1,fun j hj=>?_⟩
   rcases cK j c with h2|h2
   ·exact(ih.1 h1.1).2 j h2
   ·obtain rfl:j=c:=by omega
    exact h1.2
  ·intro h
   have h1:=ih.2 ⟨h.1,fun j hj=>h.2 j (by omega)⟩
   have h2:=h.2 c (by omega)
   split<;>omega
theorem zM(F:Nat→Int→Int):∀(m i:Nat),lP F i m (-1) = -1
 |0,_=>rfl
 |m+1,i=>by unfold lP;rw[if_pos (by omega)]
noncomputable def aG4(D N:Nat→Int)(d:Int)(c i:Nat)(x:Int):Int:=by
 classical exact if (∀j,i≤j→j<c→d+D j≤12)∧jW N c-jW N i≤x then x-(jW N c-jW N i) else -1
theorem yE{D N:Nat→Int}{d:Int}{c i:Nat}{x:Int}(h:(∀j,i≤j→j<c→d+D j≤12)∧jW N c-jW N i≤x):aG4 D N d c i x=x-(jW N c-jW N i):=by unfold aG4;rw[if_pos h]
theorem yF{D N:Nat→Int}{d:Int}{c i:Nat}{x:Int}(h:¬((∀j,i≤j→j<c→d+D j≤12)∧jW N c-jW N i≤x)):aG4 D N d c i x = -1:=by unfold aG4;rw[if_neg h]
theorem QR(F:Nat→Int→Int)(D N:Nat→Int)(d:Int)(c:Nat)(hN:∀i,0≤N i)(hF:∀i,i<c→∀x,0≤x→F i x=if d+D i≤12∧N i≤x then x-N i else -1) :
  ∀(m i:Nat) (x:Int),i+m=c→0≤x→lP F i m x=aG4 D N d c i x
 |0,i,x,hi,hx=>by
  obtain rfl:i=c:=by omega
  rw[yE ⟨fun j h1 h2=>by omega,by omega⟩]
  show x=_
  omega
 |m+1,i,x,hi,hx=>by
  unfold lP;rw[if_neg (by omega),hF i (by omega) x hx]
  have hs:=yT N hN (i:=i) (c:=c) (by omega)
  have hs1:jW N (i+1)=jW N i+N i:=rfl
  by_cases h1:d+D i≤12∧N i≤x
  ·rw[if_pos h1,QR F D N d c hN hF m (i+1) (x-N i) (by omega) (by omega)]
   by_cases h2:(∀j,i+1≤j→j<c→d+D j≤12)∧jW N c-(jW N i+N i)≤x-N i
   ·rw[yE (by rw[hs1];exact h2),hs1,yE ⟨fun j h3 h4=>?_,by omega⟩]
    ·omega
    ·rcases cK i j with h5|h5
     ·exact h2.1 j h5 h4
     ·obtain rfl:i=j:=by omega
      exact h1.1
   ·rw[yF (by rw[hs1];exact h2),yF]
    exact fun h3=>h2 ⟨fun j h4 h5=>h3.1 j (by omega) h5,by omega⟩
  ·rw[if_neg h1,zM,yF]
   exact fun h3=>h1 ⟨h3.1 i (Nat.le_refl _) (by omega),by omega⟩
theorem ZH:∀(t:Nat) (cs:List PV) (d n:Int),iJ t cs→0≤n→qW t cs d n=if d-1+mS t cs≤12∧kC t cs≤n then n-kC t cs else -1
 |0,cs,d,n,h,_=>h.elim
 |t+1,cs,d,n,h,hn=>by
  obtain⟨kd,fu,wi,off,k,a,b,nm,ML,BL,c,e,rfl,-,-,-,-,hk⟩:=h
  have e1:qW (t+1) [.i .i64 kd,.i .i64 fu,.i .i64 wi,.i .i64 off,.i .i64 k,.i .i64 a,.i .i64 b,.s nm,.l 3 ML.length (aJ bY ML),.l 1 BL.length (aJ bM BL),.l 11 c e] d n=lP (fun i x=>qW t (cN e i) (d+1) x) 0 c (if 12<d then -1 else n-1):=rfl
  have e2:mS (t+1) [.i .i64 kd,.i .i64 fu,.i .i64 wi,.i .i64 off,.i .i64 k,.i .i64 a,.i .i64 b,.s nm,.l 3 ML.length (aJ bY ML),.l 1 BL.length (aJ bM BL),.l 11 c e]=oQ (fun i=>mS t (cN e i)) c+1:=rfl
  have e3:kC (t+1) [.i .i64 kd,.i .i64 fu,.i .i64 wi,.i .i64 off,.i .i64 k,.i .i64 a,.i .i64 b,.s nm,.l 3 ML.length (aJ bY ML),.l 1 BL.length (aJ bM BL),.l 11 c e]=1+jW (fun i=>kC t (cN e i)) c:=rfl
  rw[e1,e2,e3]
  have hN:∀i,0≤kC t (cN e i):=fun i=>MY t _
  have hD:∀i,0≤mS t (cN e i):=fun i=>(OB t _).1
  have hm:=YH (fun i=>mS t (cN e i)) (12-d) c
  have hs:0≤jW (fun i=>kC t (cN e i)) c:=by
   exact(yT (fun i=>kC t (cN e i)) hN (i:=c) (c:=c+1) (by omega)).2
  by_cases h1:12<d
  ·rw[if_pos h1,zM,if_neg]
   intro h2
   have:0≤oQ (fun i=>mS t (cN e i)) c:=by
    clear hm e2;induction c with
    |zero=>exact Int.le_refl _
    |succ c ih=>
     have h3:=hD c
     unfold oQ;split<;>omega
   omega
  ·rw[if_neg h1]
   by_cases h2:n=0
   ·subst h2
    rw[show (0:Int)-1 = -1 from rfl,zM,if_neg];omega
   ·rw[QR _ (fun i=>mS t (cN e i)) (fun i=>kC t (cN e i)) d c hN (fun i hi x hx=>by rw[ZH t _ (d+1) x (hk i hi) hx,show d+1-1=d by omega]) c 0 (n-1) (dV c) (by omega)]
    have h0:jW (fun i=>kC t (cN e i)) 0=0:=rfl
    by_cases h3:d+1-1-1+(oQ (fun i=>mS t (cN e i)) c+1)≤12∧1+jW (fun i=>kC t (cN e i)) c≤n
    ·rw[yE ⟨fun j _ hj=>by have:=(hm.1 (by omega)).2 j hj;omega,by omega⟩,if_pos (by omega),h0]
     omega
    ·rw[yF,if_neg (by omega)]
     intro h4
     have:=hm.2 ⟨by omega,fun j hj=>by have:=h4.1 j (bH _) hj;omega⟩
     omega
theorem SV{t:Nat}{cs:List PV}(h:iJ t cs):yQ t cs=rE t cs:=by
 unfold yQ rE aFN;rw[ZH t cs 1 200 h (by decide)]
 by_cases h1:12<mS t cs
 ·rw[if_pos h1,if_neg (show ¬((1:Int)-1+mS t cs≤12∧kC t cs≤200) by omega)]
  rfl
 ·rw[if_neg h1]
  by_cases h2:200<kC t cs
  ·rw[if_pos h2,if_neg (show ¬((1:Int)-1+mS t cs≤12∧kC t cs≤200) by omega)]
   rfl
  ·rw[if_neg h2,if_pos (show ((1:Int)-1+mS t cs≤12∧kC t cs≤200) by omega),decide_eq_true (show (0:Int)≤200-kC t cs by omega)]
   rfl
end Go.AE
