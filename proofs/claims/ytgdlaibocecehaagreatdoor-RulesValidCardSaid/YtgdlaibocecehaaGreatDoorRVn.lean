import Derived.Test.YtgdlaibocecehaaGreatDoorRVl
import Derived.Test.YtgdlaibocecehaaGreatDoorRVm
set_option linter.unusedVariables false
set_option linter.unusedSimpArgs false
namespace Go.AE
open _root_.Bool renaming eq_iff_iff→dT,not_eq_false'→bZ,not_eq_true'→bX
open _root_.ByteArray renaming mk→aO
open _root_.Int renaming le_refl→fA,ofNat→aF,toNat→aL
open IntKind renaming i64→aA
open _root_.List renaming cons→fF,getD_eq_getElem?_getD→aG,getElem?_eq_getElem→aN
open _root_.Nat renaming le_refl→aU,zero_le→bH
open Value renaming slice→dP
open Go.Proofs Go.Proofs.YtgdlaibocecehaaGreatDoor
abbrev U3:=Int×Int×Int
def kM:U3:=(0,0,0)
def vU(u:U3):Bool:=decide ((-3≤u.1∧u.1≤3)∧(-3≤u.2.1∧u.2.1≤3) ∧ -3≤u.2.2∧u.2.2≤3)
def vO(nm:ByteArray)(ML:List Mt)(d:De):Bool:=decide (d.nm=nm)&&oR d.L ML
def deU(d:De):U3:=(d.u0,d.u1,d.u2)
def iO(D:List De)(nm:ByteArray)(ML:List Mt):List U3:=(D.filter (vO nm ML)).map deU
def xK(fu:Int)(u:U3):U3:=if fu=6 then (u.1,u.2.1,u.2.2-1) else u
def lB(u:U3):Int×U3:=if vU u=true then (0,u) else (4,kM)
def mZ(D:List De)(nm:ByteArray)(ML:List Mt)(fu:Int):Int×U3:=
 if (iO D nm ML).length=0 then (8,kM)
 else if BF (fun i=>vU ((iO D nm ML).getD i default)) (iO D nm ML).length=false then (4,kM)
 else if BF (fun i=>decide ((iO D nm ML).getD i default=(iO D nm ML).getD 0 default)) (iO D nm ML).length=false then (7,kM)
 else lB (xK fu ((iO D nm ML).getD 0 default))
def lA(a b:U3):U3:=(a.1+b.1,a.2.1+b.2.1,a.2.2+b.2.2)
def jS(a b:U3):U3:=(a.1-b.1,a.2.1-b.2.1,a.2.2-b.2.2)
def nS(fu:Int)(r:Bool)(a b:U3):Int×U3:=
 if r=false then (7,kM) else if fu=2 then lB (lA a b) else if fu=3 then lB (jS a b) else if a=b then (0,a) else (7,kM)
def eJ:Nat→List PV→Bool
 |t+1,[q0,_,_,_,_,_,_,_,_,_,q10]=>if eW q0=0 then true else if eW q0=3 then eJ t (cN (hO q10) 0)&&eJ t (cN (hO q10) 1) else false
 |_,_=>false
def XF:List ByteArray:=[⟨#[42]⟩]
def mW:Nat→List PV→List ByteArray
 |t+1,[q0,_,_,_,_,_,_,_,_,q9,q10]=>if eW q0=1 then XF else if eW q0=2 then eR kO (kH q9) (hO q9) else if eJ t (cN (hO q10) 0)=true then mW t (cN (hO q10) 1) else mW t (cN (hO q10) 0)
 |_,_=>[]
def lF(t:Nat)(a b:List PV):Bool:=eJ t a||(eJ t b||decide (mW t a=mW t b))
def dY(D:List De):Nat→List PV→Int×U3
 |t+1,[q0,q1,_,_,_,_,_,q7,q8,_,q10]=>
  if eW q0=1 then mZ D (tH q7) (eR mK (kH q8) (hO q8)) (eW q1)
  else if eW q0=2 then
   if (dY D t (cN (hO q10) 0)).1≠0 then ((dY D t (cN (hO q10) 0)).1,kM)
   else if eJ t (cN (hO q10) 0)=true then (7,kM)
   else if eW q1=3 then (0,kM) else (0,(dY D t (cN (hO q10) 0)).2)
  else if eW q0=3 then
   if (dY D t (cN (hO q10) 0)).1≠0 then ((dY D t (cN (hO q10) 0)).1,kM)
   else if (dY D t (cN (hO q10) 1)).1≠0 then ((dY D t (cN (hO q10) 1)).1,kM)
   else nS (eW q1) (lF t (cN (hO q10) 0) (cN (hO q10) 1)) (dY D t (cN (hO q10) 0)).2 (dY D t (cN (hO q10) 1)).2
  else (0,kM)
 |_,_=>(0,kM)
def mVU:Mod
 |[.a [.p (.i .i64 a),.p (.i .i64 b),.p (.i .i64 c)]]=>some (True,bV (vU (a,b,c)))
 |_=>none
def CM(u:U3):V:=.a [.p (.i .i64 u.1),.p (.i .i64 u.2.1),.p (.i .i64 u.2.2)]
def JW:Mod
 |[.a [.p (.i .i64 a0),.p (.i .i64 a1),.p (.i .i64 a2)],.a [.p (.i .i64 b0),.p (.i .i64 b1),.p (.i .i64 b2)]]=>some (inR .i64 (a0+b0)∧inR .i64 (a1+b1)∧inR .i64 (a2+b2),CM (lA (a0,a1,a2) (b0,b1,b2)))
 |_=>none
def FO:Mod
 |[.a [.p (.i .i64 a0),.p (.i .i64 a1),.p (.i .i64 a2)],.a [.p (.i .i64 b0),.p (.i .i64 b1),.p (.i .i64 b2)]]=>some (inR .i64 (a0-b0)∧inR .i64 (a1-b1)∧inR .i64 (a2-b2),CM (jS (a0,a1,a2) (b0,b1,b2)))
 |_=>none
def aEB:Mod
 |[.a [.p (.i .i64 p0),.p (.i .i64 p1),.p (.i .i64 p2),.p (.i .i64 p3),.p (.i .i64 p4),.p (.i .i64 p5),.p (.i .i64 p6),.p (.s nm),.p (.l 3 m f),.p (.l 1 b9 g9),.p (.l 11 b10 g10)],.a [.p (.s dn),.p (.l 2 n g),.p (.i .i64 q2),.p (.i .i64 q3),.p (.i .i64 q4),.p (.i .i64 q5),.p (.i .i64 q6),.p (.i .i64 q7),.p (.i .i64 q8),.p (.i .i64 q9),.p (.i .i64 q10),.p (.i .i64 q11)]]=>some ((BE fD 2 (eR oL n g) n g∧n≤1000)∧(BE bY 3 (eR mK m f) m f∧m≤1000),bV (decide (dn=nm)&&oR (eR oL n g) (eR mK m f)))
 |_=>none
def aON:Ext:=fB [(140,zK)]
theorem aSS(a b c:Int):cJ dX (dH 2 (cS Tryz.prog Tryz.f124)) (iR Tryz.f124 [.a (bG a b c)]) (cP (fO 18 [1,3]) (bB Tryz.prog Tryz.f124))=Tr.done X.normal
 (bU 18 [(1,.c (.ptr 0 0)),(3,.c (.p (.i .i64 0)))] [.cells 57 (bG a b c)]):=by kernel_rfl
theorem aSR(a b c:Int)(i:Nat):cJ dX (jZ (cS Tryz.prog Tryz.f124) 2) (bU 18 [(1,.c (.ptr 0 0)),(3,iV (i:Nat))] [.cells 57 (bG a b c)]) (cP (fO 18 [1,3]) (bB Tryz.prog Tryz.f124))=bT (decide ((↑i:Int)<3))
 (.rq (0≤(↑i:Int)∧(↑i:Int)<(↑3:Int))
 (bT (decide ((↑i:Int)=(↑0:Int)))
 (bT (decide (a < -3)) (.done .ret (St.mk [V.c (C.p (PV.b false))] []))
 (.rq (0≤(↑i:Int)∧(↑i:Int)<(↑3:Int))
 (bT (decide ((↑i:Int)=(↑0:Int)))
 (bT (decide (3<a)) (.done .ret (St.mk [V.c (C.p (PV.b false))] []))
 (.rq (inR aA ((↑i:Int)+1))
 (.done .normal
 (bU 18 [(1,.c (.ptr 0 0)),(3,.c (.p (.i .i64 ((↑i:Int)+1))))] [.cells 57 (bG a b c)]))))
 (bT (decide ((↑i:Int)=(↑1:Int)))
 (bT (decide (3<b)) (.done .ret (St.mk [V.c (C.p (PV.b false))] []))
 (.rq (inR aA ((↑i:Int)+1))
 (.done .normal
 (bU 18 [(1,.c (.ptr 0 0)),(3,.c (.p (.i .i64 ((↑i:Int)+1))))] [.cells 57 (bG a b c)]))))
 (bT (decide (3<c)) (.done .ret (St.mk [V.c (C.p (PV.b false))] []))
 (.rq (inR aA ((↑i:Int)+1))
 (.done .normal
 (bU 18 [(1,.c (.ptr 0 0)),(3,.c (.p (.i .i64 ((↑i:Int)+1))))] [.cells 57 (bG a b c)]))))))))
 (bT (decide ((↑i:Int)=(↑1:Int)))
 (bT (decide (b < -3)) (.done .ret (St.mk [V.c (C.p (PV.b false))] []))
 (.rq (0≤(↑i:Int)∧(↑i:Int)<(↑3:Int))
 (bT (decide ((↑i:Int)=(↑0:Int)))
 (bT (decide (3<a)) (.done .ret (St.mk [V.c (C.p (PV.b false))] []))
 (.rq (inR aA ((↑i:Int)+1))
 (.done .normal
 (bU 18 [(1,.c (.ptr 0 0)),(3,.c (.p (.i .i64 ((↑i:Int)+1))))] [.cells 57 (bG a b c)]))))
 (bT (decide ((↑i:Int)=(↑1:Int)))
 (bT (decide (3<b)) (.done .ret (St.mk [V.c (C.p (PV.b false))] []))
 (.rq (inR aA ((↑i:Int)+1))
 (.done .normal
 (bU 18 [(1,.c (.ptr 0 0)),(3,.c (.p (.i .i64 ((↑i:Int)+1))))] [.cells 57 (bG a b c)]))))
 (bT (decide (3<c)) (.done .ret (St.mk [V.c (C.p (PV.b false))] []))
 (.rq (inR aA ((↑i:Int)+1))
 (.done .normal
 (bU 18 [(1,.c (.ptr 0 0)),(3,.c (.p (.i .i64 ((↑i:Int)+1))))] [.cells 57 (bG a b c)]))))))))
 (bT (decide (c < -3)) (.done .ret (St.mk [V.c (C.p (PV.b false))] []))
 (.rq (0≤(↑i:Int)∧(↑i:Int)<(↑3:Int))
 (bT (decide ((↑i:Int)=(↑0:Int)))
 (bT (decide (3<a)) (.done .ret (St.mk [V.c (C.p (PV.b false))] []))
 (.rq (inR aA ((↑i:Int)+1))
 (.done .normal
 (bU 18 [(1,.c (.ptr 0 0)),(3,.c (.p (.i .i64 ((↑i:Int)+1))))] [.cells 57 (bG a b c)]))))
 (bT (decide ((↑i:Int)=(↑1:Int)))
 (bT (decide (3<b)) (.done .ret (St.mk [V.c (C.p (PV.b false))] []))
 (.rq (inR aA ((↑i:Int)+1))
 (.done .normal
 (bU 18 [(1,.c (.ptr 0 0)),(3,.c (.p (.i .i64 ((↑i:Int)+1))))] [.cells 57 (bG a b c)]))))
 (bT (decide (3<c)) (.done .ret (St.mk [V.c (C.p (PV.b false))] []))
 (.rq (inR aA ((↑i:Int)+1))
 (.done .normal
 (bU 18 [(1,.c (.ptr 0 0)),(3,.c (.p (.i .i64 ((↑i:Int)+1))))] [.cells 57 (bG a b c)])))))))))))
 (.done (.exit 0)
 (bU 18 [(1,.c (.ptr 0 0)),(3,.c (.p (.i .i64 (↑i:Int))))] [.cells 57 (bG a b c)])):=by kernel_rfl
theorem aSQ(a b c:Int)(i:Nat):cJ dX (bJ 3 (cS Tryz.prog Tryz.f124)) (bU 18 [(1,.c (.ptr 0 0)),(3,iV (i:Nat))] [.cells 57 (bG a b c)]) (cP [] (bB Tryz.prog Tryz.f124))=Tr.done X.ret (St.mk [V.c (C.p (PV.b true))] []):=by kernel_rfl
theorem aUR(a0 a1 a2 b0 b1 b2:Int):cJ dX (cS Tryz.prog Tryz.f126) (iR Tryz.f126 [.a (bG a0 a1 a2),.a (bG b0 b1 b2)]) (cP [] (bB Tryz.prog Tryz.f126))=Tr.rq (inR aA (a0+b0))
 (.rq (inR aA (a1+b1))
 (.rq (inR aA (a2+b2)) (.done .ret (St.mk [V.a (bG (a0+b0) (a1+b1) (a2+b2))] [])))):=by kernel_rfl
theorem aVR(a0 a1 a2 b0 b1 b2:Int):cJ dX (cS Tryz.prog Tryz.f125) (iR Tryz.f125 [.a (bG a0 a1 a2),.a (bG b0 b1 b2)]) (cP [] (bB Tryz.prog Tryz.f125))=Tr.rq (inR aA (a0-b0))
 (.rq (inR aA (a1-b1))
 (.rq (inR aA (a2-b2)) (.done .ret (St.mk [V.a (bG (a0-b0) (a1-b1) (a2-b2))] [])))):=by kernel_rfl
theorem aTA(p0 p1 p2 p3 p4 p5 p6 q2 q3 q4 q5 q6 q7 q8 q9 q10 q11:Int)(nm dn:ByteArray)(m n b9 b10:Nat)(f g g9 g10:Nat→Nat→PV):cJ aON (cS Tryz.prog Tryz.f123) (iR Tryz.f123 [.a (cF p0 p1 p2 p3 p4 p5 p6 nm m f b9 g9 b10 g10),.a (CZ dn n g q2 q3 q4 q5 q6 q7 q8 q9 q10 q11)]) (cP [] (bB Tryz.prog Tryz.f123))=bT (dn.toList==nm.toList)
 (.rq ((BE fD 2 (eR oL n g) n g∧n≤1000)∧BE bY 3 (eR mK m f) m f∧m≤1000) (.done .ret (St.mk [V.c (C.p (PV.b (oR (eR oL n g) (eR mK m f))))] [])))
 (.done .ret (St.mk [V.c (C.p (PV.b false))] [])):=by kernel_rfl
section
variable {G:Nat→Option Obj}
set_option maxRecDepth 100000 in
theorem aKL:dD Tryz.prog G 124 mVU:=by
 intro args p v hm hp h;unfold mVU at hm
 split at hm;rotate_left;· cases hm
 rename_i a b c;obtain⟨rfl,rfl⟩:=bA hm;clear hm
 refine fR Tryz.func124 (by kernel_rfl) rfl ?_ h
 refine cO.evG aT 2 (aSS a b c) ?_;simp only[aI,aZ];refine⟨?_⟩
 refine cO.loop' (l:=bJ 2 (cS Tryz.prog Tryz.f124)) (b:=inr (inr (bN .skip (cS Tryz.prog Tryz.f124) 2))) (r:=bJ 3 (cS Tryz.prog Tryz.f124)) (id:=0) (by kernel_rfl) (σ:=Nat)
   (fun i=>bU 18 [(1,.c (.ptr 0 0)),(3,iV (i:Nat))] [.cells 57 (bG a b c)]) (fun i=>i≤3∧(0<i → -3≤a∧a≤3)∧(1<i → -3≤b∧b≤3)∧(2<i → -3≤c∧c≤3)) (fun i=>3-i) 0 ⟨by omega,by omega,by omega,by omega⟩ (aP (by kernel_rfl)) ?_
 rintro i ⟨hi,h0,h1,h2⟩ Q1 q1n q1e -;refine cO.evH aT (aSR a b c i) ?_
 have bad:¬((-3≤a∧a≤3)∧(-3≤b∧b≤3) ∧ -3≤c∧c≤3)→mX (eL (V.c (C.p (PV.b false))) (bV (vU (a,b,c)))):=fun hb=>pC (by
  unfold vU;rw[decide_eq_false hb])
 simp only[bD,aS,aI,bK,aZ,fE,decide_eq_true_eq,decide_eq_false_iff_not,inR]
 have nx:(i+1≤3∧(0<i+1 → -3≤a∧a≤3)∧(1<i+1 → -3≤b∧b≤3)∧(2<i+1 → -3≤c∧c≤3))→mX (Q1 .normal ((fun i:Nat=>bU 18 [(1,.c (.ptr 0 0)),(3,iV (i:Nat))] [.cells 57 (bG a b c)]) (i+1))):=fun hx=>⟨q1n (i+1) _ hx (show 3-(i+1)<3-i by omega) (aP (by kernel_rfl))⟩
 have en:¬((i:Int)<3)→mX (Q1 (.exit 0) ((fun i:Nat=>bU 18 [(1,.c (.ptr 0 0)),(3,iV (i:Nat))] [.cells 57 (bG a b c)]) i)):=fun hx=>⟨q1e _ (by
  obtain rfl:i=3:=by omega
  refine cO.evH aT (aSQ a b c 3) ?_;simp only[aI,bK];refine⟨?_⟩;unfold vU;rw[decide_eq_true (show ((-3≤a∧a≤3)∧(-3≤b∧b≤3) ∧ -3≤c∧c≤3) from⟨h0 (by omega),h1 (by omega),h2 (by omega)⟩)]
  exact eL.refl _)⟩
 repeat' (first|apply And.intro|intro _)
 all_goals first|(clear bad nx en;omega)|exact en ‹_› | exact bad (by clear bad nx en;omega)|exact nx (by clear bad nx en;omega)
set_option maxRecDepth 100000 in
theorem aN8:dD Tryz.prog G 126 JW:=by
 intro args p v hm hp h;unfold JW at hm
 split at hm;rotate_left;· cases hm
 rename_i a0 a1 a2 b0 b1 b2;obtain⟨rfl,rfl⟩:=bA hm;clear hm
 refine fR Tryz.func126 (by kernel_rfl) rfl ?_ h
 refine cO.evH aT (aUR a0 a1 a2 b0 b1 b2) ?_;simp only[aS,aI,bK];exact⟨hp.1,hp.2.1,hp.2.2,⟨eL.refl _⟩⟩
set_option maxRecDepth 100000 in
theorem aDT:dD Tryz.prog G 125 FO:=by
 intro args p v hm hp h;unfold FO at hm
 split at hm;rotate_left;· cases hm
 rename_i a0 a1 a2 b0 b1 b2;obtain⟨rfl,rfl⟩:=bA hm;clear hm
 refine fR Tryz.func125 (by kernel_rfl) rfl ?_ h
 refine cO.evH aT (aVR a0 a1 a2 b0 b1 b2) ?_;simp only[aS,aI,bK];exact⟨hp.1,hp.2.1,hp.2.2,⟨eL.refl _⟩⟩
set_option maxRecDepth 100000 in
theorem aMY:dD Tryz.prog G 123 aEB:=by
 intro args p v hm hp h;unfold aEB at hm
 split at hm;rotate_left;· cases hm
 rename_i p0 p1 p2 p3 p4 p5 p6 nm m f b9 g9 b10 g10 dn n g q2 q3 q4 q5 q6 q7 q8 q9 q10 q11;obtain⟨rfl,rfl⟩:=bA hm;clear hm
 refine fR Tryz.func123 (by kernel_rfl) rfl ?_ h
 refine cO.evH (cD (by simp;exact aDO)) (aTA p0 p1 p2 p3 p4 p5 p6 q2 q3 q4 q5 q6 q7 q8 q9 q10 q11 nm dn m n b9 b10 f g g9 g10) ?_;simp only[bD,aS,aI,bK,iN,decide_eq_true_eq,decide_eq_false_iff_not];refine⟨fun h1=>⟨hp,pC ?_⟩,fun h1=>pC ?_⟩
 ·rw[decide_eq_true h1,Bool.true_and]
 ·rw[decide_eq_false h1,Bool.false_and]
end
def eX(u:U3)(o:Nat):PV:=match o with
 |0=>.i .i64 u.1
 |1=>.i .i64 u.2.1
 |_=>.i .i64 u.2.2
def unE(x:Int×U3):V:=.t [.a [.p (.i .i64 x.2.1),.p (.i .i64 x.2.2.1),.p (.i .i64 x.2.2.2)],.c (.p (.i .i64 x.1))]
def RI:Ext:=fB [(123,aEB),(124,mVU),(125,FO)]
theorem aTO(D:List De)(kd fu wi off k n d:Int)(nm:ByteArray)(ML:List Mt)(bc:Nat)(g:Nat→Nat→PV)(c:Nat)(e:Nat→Nat→PV):cJ dX (dH 3 (cS Tryz.prog Tryz.f100)) (iR Tryz.f100 [aX bQ 12 D,.a (cF kd fu wi off k n d nm ML.length (aJ bY ML) bc g c e)]) (cP (fO 77 [0,3,4,6,7]) (bB Tryz.prog Tryz.f100))=Tr.done X.normal
 (bU 77 [(0,.c (.p (.l 12 D.length (aJ bQ D)))),(3,.c (.ptr 0 0)),(4,.c (.ptr 1 0)),(6,.c (.p (.z (dP none 0 0)))),(7,.c (.p (.i .i64 0)))] [.cells 33 (cF kd fu wi off k n d nm ML.length (aJ bY ML) bc g c e),.cells 57 (bG 0 0 0)]):=by kernel_rfl
theorem aTN(D:List De)(kd fu wi off k n d:Int)(nm:ByteArray)(ML:List Mt)(bc:Nat)(g:Nat→Nat→PV)(c:Nat)(e:Nat→Nat→PV)(out:List U3)(m i:Nat):cJ RI (jZ (cS Tryz.prog Tryz.f100) 3) (bU 77 [(0,aX bQ 12 D),(3,.c (.ptr 0 0)),(4,.c (.ptr 1 0)),(6,.c (.sl 2 3 0 m)),(7,iV (i:Nat))] [.cells 33 (cF kd fu wi off k n d nm ML.length (aJ bY ML) bc g c e),.cells 57 (bG 0 0 0),.row 57 3 m (cR eX out)]) (cP (fO 77 [0,3,4,6,7]) (bB Tryz.prog Tryz.f100))=bT (decide ((↑i:Int)<(↑D.length:Int)))
 (.rq (0≤(↑i:Int)∧(↑i:Int)<(↑D.length:Int))
 (.rq
 ((BE fD 2 (eR oL (D.getD (↑i:Int).toNat default).L.length (aJ fD (D.getD (↑i:Int).toNat default).L)) (D.getD (↑i:Int).toNat default).L.length
 (aJ fD (D.getD (↑i:Int).toNat default).L) ∧
 (D.getD (↑i:Int).toNat default).L.length≤1000) ∧
 BE bY 3 (eR mK ML.length (aJ bY ML)) ML.length (aJ bY ML)∧ML.length≤1000)
 (bT
 (decide ((D.getD (↑i:Int).toNat default).nm=nm) &&
 oR (eR oL (D.getD (↑i:Int).toNat default).L.length (aJ fD (D.getD (↑i:Int).toNat default).L)) (eR mK ML.length (aJ bY ML)))
 (.rq (0≤(↑i:Int)∧(↑i:Int)<(↑D.length:Int))
 (.rq (m=m)
 (.rq (1≤1)
 (.rq
 ((m+1)*24≤140737488355328 ∧
 m+1≤140737488355328 ∧
 ∀(e o:Nat),
 e<1 →
 o<3 →
 kZ
 (rR
 (bG (D.getD (↑i:Int).toNat default).u0 (D.getD (↑i:Int).toNat default).u1 (D.getD (↑i:Int).toNat default).u2)
 3 1 (e+0) o) =
 true)
 (.rq (inR aA ((↑i:Int)+1))
 (.done .normal
 (bU 77 [(0,.c (.p (.l 12 D.length (aJ bQ D)))),(3,.c (.ptr 0 0)),(4,.c (.ptr 1 0)),(6,.c (.sl 2 3 0 (m+1))),(7,.c (.p (.i .i64 ((↑i:Int)+1))))] [.cells 33 (cF kd fu wi off k n d nm ML.length (aJ bY ML) bc g c e),.cells 57 (bG 0 0 0),.row 57 3 (m+1) fun e o=>fG [0,1,4] (iZ m (cR eX out) (fun e o=>bN C.top (bG (D.getD (↑i:Int).toNat default).u0 (D.getD (↑i:Int).toNat default).u1 (D.getD (↑i:Int).toNat default).u2) ((e+0)*3+o)) e o)])))))))
 (.rq (inR aA ((↑i:Int)+1))
 (.done .normal
 (bU 77 [(0,.c (.p (.l 12 D.length (aJ bQ D)))),(3,.c (.ptr 0 0)),(4,.c (.ptr 1 0)),(6,.c (.sl 2 3 0 m)),(7,.c (.p (.i .i64 ((↑i:Int)+1))))] [.cells 33 (cF kd fu wi off k n d nm ML.length (aJ bY ML) bc g c e),.cells 57 (bG 0 0 0),.row 57 3 m fun e o=>fG [0,1,2] (cR eX out e o)]))))))
 (.done (.exit 0)
 (bU 77 [(0,.c (.p (.l 12 D.length (aJ bQ D)))),(3,.c (.ptr 0 0)),(4,.c (.ptr 1 0)),(6,.c (.sl 2 3 0 m)),(7,.c (.p (.i .i64 (↑i:Int))))] [.cells 33 (cF kd fu wi off k n d nm ML.length (aJ bY ML) bc g c e),.cells 57 (bG 0 0 0),.row 57 3 m fun e o=>fG [0,1,2] (cR eX out e o)])):=by kernel_rfl
theorem aTM(D:List De)(kd fu wi off k n d:Int)(nm:ByteArray)(ML:List Mt)(bc:Nat)(g:Nat→Nat→PV)(c:Nat)(e:Nat→Nat→PV)(out:List U3)(m:Nat):cJ dX (dH 3 (bJ 4 (cS Tryz.prog Tryz.f100))) (bU 77 [(3,.c (.ptr 0 0)),(4,.c (.ptr 1 0)),(6,.c (.sl 2 3 0 m))] [.cells 33 (cF kd fu wi off k n d nm ML.length (aJ bY ML) bc g c e),.cells 57 (bG 0 0 0),.row 57 3 m (cR eX out)]) (cP (fO 77 [3,4,6,8]) (bB Tryz.prog Tryz.f100))=bT ((↑m:Int)==0) (.done .ret (St.mk [V.t [V1.a (bG 0 0 0),V1.c (C.p (PV.i aA 8))]] []))
 (.done .normal
 (bU 77 [(3,.c (.ptr 0 0)),(4,.c (.ptr 1 0)),(6,.c (.sl 2 3 0 m)),(8,.c (.p (.i .i64 0)))] [.cells 33 (cF kd fu wi off k n d nm ML.length (aJ bY ML) bc g c e),.cells 57 (bG 0 0 0),.row 57 3 m fun e o=>fG [0,1,2] (cR eX out e o)])):=by kernel_rfl
theorem aTL(D:List De)(kd fu wi off k n d:Int)(nm:ByteArray)(ML:List Mt)(bc:Nat)(g:Nat→Nat→PV)(c:Nat)(e:Nat→Nat→PV)(out:List U3)(m i:Nat):cJ RI (jZ (cS Tryz.prog Tryz.f100) 7) (bU 77 [(3,.c (.ptr 0 0)),(4,.c (.ptr 1 0)),(6,.c (.sl 2 3 0 m)),(8,iV (i:Nat))] [.cells 33 (cF kd fu wi off k n d nm ML.length (aJ bY ML) bc g c e),.cells 57 (bG 0 0 0),.row 57 3 m (cR eX out)]) (cP (fO 77 [3,4,6,8]) (bB Tryz.prog Tryz.f100))=bT (decide ((↑i:Int)<(↑m:Int)))
 (.rq (0≤(↑i:Int)∧(↑i:Int)<(↑m:Int))
 (.rq ((↑i:Int).toNat+0<m)
 (.rq True
 (bT (!vU ((out.getD ((↑i:Int).toNat+0) default).fst,(out.getD ((↑i:Int).toNat+0) default).snd.fst,(out.getD ((↑i:Int).toNat+0) default).snd.snd))
 (.done .ret (St.mk [V.t [V1.a (bG 0 0 0),V1.c (C.p (PV.i aA 4))]] []))
 (.rq (inR aA ((↑i:Int)+1))
 (.done .normal
 (bU 77 [(3,.c (.ptr 0 0)),(4,.c (.ptr 1 0)),(6,.c (.sl 2 3 0 m)),(8,.c (.p (.i .i64 ((↑i:Int)+1))))] [.cells 33 (cF kd fu wi off k n d nm ML.length (aJ bY ML) bc g c e),.cells 57 (bG 0 0 0),.row 57 3 m fun e o=>fG [0,1,2] (cR eX out e o)])))))))
 (.done (.exit 2)
 (bU 77 [(3,.c (.ptr 0 0)),(4,.c (.ptr 1 0)),(6,.c (.sl 2 3 0 m)),(8,.c (.p (.i .i64 (↑i:Int))))] [.cells 33 (cF kd fu wi off k n d nm ML.length (aJ bY ML) bc g c e),.cells 57 (bG 0 0 0),.row 57 3 m fun e o=>fG [0,1,2] (cR eX out e o)])):=by kernel_rfl
theorem aTK(D:List De)(kd fu wi off k n d:Int)(nm:ByteArray)(ML:List Mt)(bc:Nat)(g:Nat→Nat→PV)(c:Nat)(e:Nat→Nat→PV)(out:List U3)(m:Nat):cJ dX (dH 1 (bJ 8 (cS Tryz.prog Tryz.f100))) (bU 77 [(3,.c (.ptr 0 0)),(4,.c (.ptr 1 0)),(6,.c (.sl 2 3 0 m))] [.cells 33 (cF kd fu wi off k n d nm ML.length (aJ bY ML) bc g c e),.cells 57 (bG 0 0 0),.row 57 3 m (cR eX out)]) (cP (fO 77 [3,4,6,9]) (bB Tryz.prog Tryz.f100))=Tr.done X.normal
 (bU 77 [(3,.c (.ptr 0 0)),(4,.c (.ptr 1 0)),(6,.c (.sl 2 3 0 m)),(9,.c (.p (.i .i64 0)))] [.cells 33 (cF kd fu wi off k n d nm ML.length (aJ bY ML) bc g c e),.cells 57 (bG 0 0 0),.row 57 3 m fun e o=>fG [0,1,2] (cR eX out e o)]):=by kernel_rfl
theorem aTJ(D:List De)(kd fu wi off k n d:Int)(nm:ByteArray)(ML:List Mt)(bc:Nat)(g:Nat→Nat→PV)(c:Nat)(e:Nat→Nat→PV)(out:List U3)(m i:Nat):cJ RI (jZ (cS Tryz.prog Tryz.f100) 9) (bU 77 [(3,.c (.ptr 0 0)),(4,.c (.ptr 1 0)),(6,.c (.sl 2 3 0 m)),(9,iV (i:Nat))] [.cells 33 (cF kd fu wi off k n d nm ML.length (aJ bY ML) bc g c e),.cells 57 (bG 0 0 0),.row 57 3 m (cR eX out)]) (cP (fO 77 [3,4,6,9]) (bB Tryz.prog Tryz.f100))=bT (decide ((↑i:Int)<(↑m:Int)))
 (.rq (0≤(↑i:Int)∧(↑i:Int)<(↑m:Int))
 (.rq ((↑i:Int).toNat+0<m)
 (.rq (aF 0≤aF 0∧0<(↑m:Int))
 (.rq (0<m)
 (bT
 (match true with
 |true=>
 !((out.getD ((↑i:Int).toNat+0) default).fst==(out.getD 0 default).fst &&
 ((out.getD ((↑i:Int).toNat+0) default).snd.fst==(out.getD 0 default).snd.fst&&((out.getD ((↑i:Int).toNat+0) default).snd.snd==(out.getD 0 default).snd.snd&&true)))
 |false=>
 (out.getD ((↑i:Int).toNat+0) default).fst==(out.getD 0 default).fst &&
 ((out.getD ((↑i:Int).toNat+0) default).snd.fst==(out.getD 0 default).snd.fst&&((out.getD ((↑i:Int).toNat+0) default).snd.snd==(out.getD 0 default).snd.snd&&true)))
 (.done .ret (St.mk [V.t [V1.a (bG 0 0 0),V1.c (C.p (PV.i aA 7))]] []))
 (.rq (inR aA ((↑i:Int)+1))
 (.done .normal
 (bU 77 [(3,.c (.ptr 0 0)),(4,.c (.ptr 1 0)),(6,.c (.sl 2 3 0 m)),(9,.c (.p (.i .i64 ((↑i:Int)+1))))] [.cells 33 (cF kd fu wi off k n d nm ML.length (aJ bY ML) bc g c e),.cells 57 (bG 0 0 0),.row 57 3 m fun e o=>fG [0,1,2] (cR eX out e o)]))))))))
 (.done (.exit 4)
 (bU 77 [(3,.c (.ptr 0 0)),(4,.c (.ptr 1 0)),(6,.c (.sl 2 3 0 m)),(9,.c (.p (.i .i64 (↑i:Int))))] [.cells 33 (cF kd fu wi off k n d nm ML.length (aJ bY ML) bc g c e),.cells 57 (bG 0 0 0),.row 57 3 m fun e o=>fG [0,1,2] (cR eX out e o)])):=by kernel_rfl
theorem aTI(D:List De)(kd fu wi off k n d:Int)(nm:ByteArray)(ML:List Mt)(bc:Nat)(g:Nat→Nat→PV)(c:Nat)(e:Nat→Nat→PV)(out:List U3)(m:Nat):cJ RI (bJ 10 (cS Tryz.prog Tryz.f100)) (bU 77 [(3,.c (.ptr 0 0)),(4,.c (.ptr 1 0)),(6,.c (.sl 2 3 0 m))] [.cells 33 (cF kd fu wi off k n d nm ML.length (aJ bY ML) bc g c e),.cells 57 (bG 0 0 0),.row 57 3 m (cR eX out)]) (cP [] (bB Tryz.prog Tryz.f100))=Tr.rq (aF 0≤aF 0∧0<(↑m:Int))
 (.rq (0<m)
 (bT (fu==6)
 (.rq (inR aA ((out.getD 0 default).fst-0)∧inR aA ((out.getD 0 default).snd.fst-0)∧inR aA ((out.getD 0 default).snd.snd-1))
 (.rq True
 (bT
 (!vU
 ((jS ((out.getD 0 default).fst,(out.getD 0 default).snd.fst,(out.getD 0 default).snd.snd) (0,0,1)).fst,
 (jS ((out.getD 0 default).fst,(out.getD 0 default).snd.fst,(out.getD 0 default).snd.snd) (0,0,1)).snd.fst,
 (jS ((out.getD 0 default).fst,(out.getD 0 default).snd.fst,(out.getD 0 default).snd.snd) (0,0,1)).snd.snd))
 (.done .ret (St.mk [V.t [V1.a (bG 0 0 0),V1.c (C.p (PV.i aA 4))]] []))
 (.done .ret
 (St.mk [V.t [V1.a (bG (jS ((out.getD (aL 0+0) default).fst,(out.getD (aL 0+0) default).snd.fst,(out.getD (aL 0+0) default).snd.snd) (0,0,1)).fst (jS ((out.getD (aL 0+0) default).fst,(out.getD (aL 0+0) default).snd.fst,(out.getD (aL 0+0) default).snd.snd) (0,0,1)).snd.fst (jS ((out.getD (aL 0+0) default).fst,(out.getD (aL 0+0) default).snd.fst,(out.getD (aL 0+0) default).snd.snd) (0,0,1)).snd.snd),V1.c (C.p (PV.i aA 0))]] [])))))
 (.rq True
 (bT (!vU ((out.getD 0 default).fst,(out.getD 0 default).snd.fst,(out.getD 0 default).snd.snd))
 (.done .ret (St.mk [V.t [V1.a (bG 0 0 0),V1.c (C.p (PV.i aA 4))]] []))
 (.done .ret
 (St.mk [V.t [V1.a (bG (out.getD (aL 0+0) default).fst (out.getD (aL 0+0) default).snd.fst (out.getD (aL 0+0) default).snd.snd),V1.c (C.p (PV.i aA 0))]] [])))))):=by kernel_rfl
def aEA(D:List De):Mod
 |[x,.a [.p (.i .i64 kd),.p (.i .i64 fu),.p (.i .i64 wi),.p (.i .i64 off),.p (.i .i64 k),.p (.i .i64 n),.p (.i .i64 d),.p (.s nm),.p (.l 3 mc f),.p (.l 1 bc g),.p (.l 11 c e)]]=>match leR bQ 12 x D with
  |some p=>some (p∧(∃ML,mc=ML.length∧f=aJ bY ML∧ML.length≤1000),unE (mZ D nm (eR mK mc f) fu))
  |none=>none
 |_=>none
def wW(D:List De):Prop:=D.length≤1000∧∀d∈D,d.L.length≤1000
theorem DA{D:List De}{i:Nat}(h:i<D.length)(nm:ByteArray)(ML:List Mt):iO (D.take (i+1)) nm ML=if vO nm ML (D.getD i default)=true then iO (D.take i) nm ML++[deU (D.getD i default)] else iO (D.take i) nm ML:=by
 have e:D[i]=D.getD i default:=by rw[aG,aN h];rfl
 unfold iO;rw[List.take_succ_eq_append_getElem h,List.filter_append,List.map_append,e];split
 ·rename_i h1;rw[List.filter_cons_of_pos (by simpa using h1)];rfl
 ·rename_i h1;rw[List.filter_cons_of_neg (by simpa using h1)];simp
theorem aCF(d:De):∀e o:Nat,e<1→o<3→kZ (rR (bG d.u0 d.u1 d.u2) 3 1 (e+0) o)=true:=by
 intro e o he ho
 obtain rfl:e=0:=by omega
 match o,ho with
 |0,_|1,_|2,_=>rfl
theorem aKB(d:De):∀o:Nat,o<3→(fun e o:Nat=>bN C.top (bG d.u0 d.u1 d.u2) ((e+0)*3+o)) 0 o=.p (eX (deU d) o):=by
 intro o ho
 match o,ho with
 |0,_|1,_|2,_=>rfl
theorem xF(D:List De)(nm:ByteArray)(ML:List Mt):(iO D nm ML).length≤D.length:=by
 unfold iO;rw[List.length_map];exact List.length_filter_le _ _
theorem aGU(D:List De)(nm:ByteArray)(ML:List Mt)(fu:Int){x:Int}(h:mZ D nm ML fu=(x,kM)):mX (eL (V.t [V1.a (bG 0 0 0),V1.c (C.p (PV.i .i64 x))]) (unE (mZ D nm ML fu))):=by
 rw[h];exact⟨eL.refl _⟩
section
variable {G:Nat→Option Obj}
theorem qS:bO Tryz.prog G RI:=cD (by simp;exact⟨aMY,aKL,aDT⟩)
set_option maxRecDepth 100000 in
theorem aMX{D:List De}(hD:wW D):dD Tryz.prog G 100 (aEA D):=by
 intro args p v hm hp h;unfold aEA at hm
 split at hm;rotate_left;· cases hm
 rename_i x kd fu wi off k n d nm mc f bc g c e
 split at hm;rotate_left;· cases hm
 rename_i q hx;obtain⟨rfl,rfl⟩:=bA hm;clear hm;obtain⟨hq,ML,rfl,rfl,hl1⟩:=hp;rw[kI];obtain⟨hD1,hD2⟩:=hD;refine lW.args (args':=[aX bQ 12 D,.a (cF kd fu wi off k n d nm ML.length (aJ bY ML) bc g c e)]) ?_ (.cons (wI hx hq) (.cons (.refl _) .nil));clear hx hq
 have hsel:=xF D nm ML
 refine fR Tryz.func100 (by kernel_rfl) rfl ?_ h
 refine cO.evG aT 3 (aTO D kd fu wi off k n d nm ML bc g c e) ?_;simp only[aI,aZ];refine⟨?_⟩
 refine cO.loop' (l:=bJ 3 (cS Tryz.prog Tryz.f100)) (b:=inr (inr (bN .skip (cS Tryz.prog Tryz.f100) 3))) (r:=bJ 4 (cS Tryz.prog Tryz.f100)) (id:=0) (by kernel_rfl) (σ:=Nat)
   (fun i=>(fun(out:List U3) (m i:Nat)=>bU 77 [(0,aX bQ 12 D),(3,.c (.ptr 0 0)),(4,.c (.ptr 1 0)),(6,.c (.sl 2 3 0 m)),(7,iV (i:Nat))] [.cells 33 (cF kd fu wi off k n d nm ML.length (aJ bY ML) bc g c e),.cells 57 (bG 0 0 0),.row 57 3 m (cR eX out)]) (iO (D.take i) nm ML) (iO (D.take i) nm ML).length i) (fun i=>i≤D.length) (fun i=>D.length-i) 0 (bH _) ((pF 57 3 (cR eX []) 6 (by kernel_rfl)).trans (aP (by kernel_rfl))) ?_
 rintro i hi Q1 q1n q1e -
 have hsi:=xF (D.take i) nm ML
 rw[List.length_take]at hsi;refine cO.evH qS (aTN D kd fu wi off k n d nm ML bc g c e (iO (D.take i) nm ML) (iO (D.take i) nm ML).length i) ?_
 have e2:∀L:List (ByteArray×ByteArray),eR oL L.length (aJ fD L)=L:=fun L=>rQ (fun _=>rfl) L
 simp only[bD,aS,aI,aZ,fE,decide_eq_true_eq,decide_eq_false_iff_not,show (↑i:Int).toNat=i from rfl,inR,e2,kI];refine⟨fun c1=>?_,fun c1=>⟨q1e _ ?_⟩⟩
 ·have hlt:i<D.length:=by omega
  have hs:=DA hlt nm ML
  have hd:(D.getD i default).L.length≤1000:=hD2 _ (aFD hlt)
  refine⟨⟨by omega,by omega⟩,⟨⟨lV _ _ _,hd⟩,lV _ _ _,hl1⟩,fun c2=>⟨⟨by omega,by omega⟩,trivial,aU _,⟨by omega,by omega,aCF (D.getD i default)⟩,⟨by omega,by omega⟩,⟨q1n (i+1) _ (by omega) (by omega) ?_⟩⟩,fun c2=>⟨⟨by omega,by omega⟩,⟨q1n (i+1) _ (by omega) (by omega) ?_⟩⟩⟩
  ·rw[if_pos (show vO nm ML (D.getD i default)=true from c2)]at hs
   show cW G _ ((fun(out:List U3) (m i:Nat)=>bU 77 [(0,aX bQ 12 D),(3,.c (.ptr 0 0)),(4,.c (.ptr 1 0)),(6,.c (.sl 2 3 0 m)),(7,iV (i:Nat))] [.cells 33 (cF kd fu wi off k n d nm ML.length (aJ bY ML) bc g c e),.cells 57 (bG 0 0 0),.row 57 3 m (cR eX out)]) (iO (D.take (i+1)) nm ML) (iO (D.take (i+1)) nm ML).length (i+1))
   rw[hs,List.length_append];exact kP ⟨rfl,rfl,⟨rfl,rfl,rfl,fun e o he ho=>BD (ρ:=[0,1,4]) rfl (aKB (D.getD i default)) he ho⟩,trivial⟩
  ·rw[if_neg (show ¬vO nm ML (D.getD i default)=true from by
     have c2:vO nm ML (D.getD i default)=false:=c2
     rw[c2];decide)]at hs
   show cW G _ ((fun(out:List U3) (m i:Nat)=>bU 77 [(0,aX bQ 12 D),(3,.c (.ptr 0 0)),(4,.c (.ptr 1 0)),(6,.c (.sl 2 3 0 m)),(7,iV (i:Nat))] [.cells 33 (cF kd fu wi off k n d nm ML.length (aJ bY ML) bc g c e),.cells 57 (bG 0 0 0),.row 57 3 m (cR eX out)]) (iO (D.take (i+1)) nm ML) (iO (D.take (i+1)) nm ML).length (i+1))
   rw[hs]
   exact aP (by kernel_rfl)
 obtain rfl:i=D.length:=by omega
 clear q1n q1e hsi;rw[List.take_length]
 obtain⟨out,hout⟩:∃out,iO D nm ML=out:=⟨_,rfl⟩
 rw[hout]at hsel ⊢
 have bad:=fun x=>aGU D nm ML fu (x:=x)
 have hE:mZ D nm ML fu=if out.length=0 then (8,kM) else if BF (fun i=>vU (out.getD i default)) out.length=false then (4,kM) else if BF (fun i=>decide (out.getD i default=out.getD 0 default)) out.length=false then (7,kM) else lB (xK fu (out.getD 0 default)):=by unfold mZ;rw[hout]
 refine cO.pre (fW (fO 77 [3,4,6]) _) (cO.pre (aP (st':=(fun m:Nat=>bU 77 [(3,.c (.ptr 0 0)),(4,.c (.ptr 1 0)),(6,.c (.sl 2 3 0 m))] [.cells 33 (cF kd fu wi off k n d nm ML.length (aJ bY ML) bc g c e),.cells 57 (bG 0 0 0),.row 57 3 m (cR eX out)]) out.length) (by kernel_rfl)) ?_)
 refine cO.evG aT 3 (aTM D kd fu wi off k n d nm ML bc g c e out out.length) ?_;simp only[bD,aI,aZ,bK,beq_iff_eq,beq_eq_false_iff_ne,ne_eq];refine⟨fun c1=>bad 8 (by rw[hE,if_pos (by omega)]),fun c1=>⟨?_⟩⟩
 have h0:0<out.length:=by omega
 rw[if_neg (by omega)]at hE
 refine cO.loop' (l:=bJ 7 (cS Tryz.prog Tryz.f100)) (b:=inr (inr (bN .skip (cS Tryz.prog Tryz.f100) 7))) (r:=bJ 8 (cS Tryz.prog Tryz.f100)) (id:=2) (by kernel_rfl) (σ:=Nat)
   (fun i=>(fun(m i:Nat)=>bU 77 [(3,.c (.ptr 0 0)),(4,.c (.ptr 1 0)),(6,.c (.sl 2 3 0 m)),(8,iV (i:Nat))] [.cells 33 (cF kd fu wi off k n d nm ML.length (aJ bY ML) bc g c e),.cells 57 (bG 0 0 0),.row 57 3 m (cR eX out)]) out.length i) (fun i=>i≤out.length∧BF (fun i=>vU (out.getD i default)) i=true) (fun i=>out.length-i) 0 ⟨bH _,rfl⟩ (aP (by kernel_rfl)) ?_
 rintro i ⟨hi,hu⟩ Q1 q1n q1e -;refine cO.evH qS (aTL D kd fu wi off k n d nm ML bc g c e out out.length i) ?_;simp only[bD,aS,aI,aZ,fE,bK,decide_eq_true_eq,decide_eq_false_iff_not,show (↑i:Int).toNat=i from rfl,inR,Nat.add_zero,bX,bZ,true_and]
 refine⟨fun c2=>⟨⟨by omega,by omega⟩,by omega,fun c3=>bad 4 (by rw[hE,if_pos (nX (P:=fun i=>vU (out.getD i default)) (show i<out.length by omega) c3)]),fun c3=>⟨⟨by omega,by omega⟩,⟨q1n (i+1) _ ⟨by omega,by rw[lJ,hu];exact c3⟩ (by omega) (aP (by kernel_rfl))⟩⟩⟩,fun c2=>⟨q1e _ ?_⟩⟩
 obtain rfl:i=out.length:=by omega
 clear q1n q1e;rw[if_neg (by rw[hu];decide)]at hE
 refine cO.pre (fW (fO 77 [3,4,6]) _) (cO.pre (aP (st':=(fun m:Nat=>bU 77 [(3,.c (.ptr 0 0)),(4,.c (.ptr 1 0)),(6,.c (.sl 2 3 0 m))] [.cells 33 (cF kd fu wi off k n d nm ML.length (aJ bY ML) bc g c e),.cells 57 (bG 0 0 0),.row 57 3 m (cR eX out)]) out.length) (by kernel_rfl)) ?_)
 refine cO.evG aT 1 (aTK D kd fu wi off k n d nm ML bc g c e out out.length) ?_;simp only[aI,aZ];refine⟨?_⟩
 refine cO.loop' (l:=bJ 9 (cS Tryz.prog Tryz.f100)) (b:=inr (inr (bN .skip (cS Tryz.prog Tryz.f100) 9))) (r:=bJ 10 (cS Tryz.prog Tryz.f100)) (id:=4) (by kernel_rfl) (σ:=Nat)
   (fun i=>(fun(m i:Nat)=>bU 77 [(3,.c (.ptr 0 0)),(4,.c (.ptr 1 0)),(6,.c (.sl 2 3 0 m)),(9,iV (i:Nat))] [.cells 33 (cF kd fu wi off k n d nm ML.length (aJ bY ML) bc g c e),.cells 57 (bG 0 0 0),.row 57 3 m (cR eX out)]) out.length i) (fun i=>i≤out.length∧BF (fun i=>decide (out.getD i default=out.getD 0 default)) i=true) (fun i=>out.length-i) 0 ⟨bH _,rfl⟩ (aP (by kernel_rfl)) ?_
 rintro i ⟨hi,hw⟩ Q1 q1n q1e -;refine cO.evH qS (aTJ D kd fu wi off k n d nm ML bc g c e out out.length i) ?_
 have u3e:∀a b:U3,(!(a.1==b.1&&(a.2.1==b.2.1&&(a.2.2==b.2.2&&true)))) = !decide (a=b):=fun a b=>by
  obtain⟨a0,a1,a2⟩:=a;obtain⟨b0,b1,b2⟩:=b;rw[dT];simp[Prod.ext_iff]
 simp only[bD,aS,aI,aZ,fE,bK,decide_eq_true_eq,decide_eq_false_iff_not,show (↑i:Int).toNat=i from rfl,inR,Nat.add_zero,u3e,bX,bZ,true_and]
 refine⟨fun c2=>⟨⟨by omega,by omega⟩,by omega,⟨fA _,by omega⟩,by omega,fun c3=>bad 7 (by rw[hE,if_pos (nX (P:=fun i=>decide (out.getD i default=out.getD 0 default)) (show i<out.length by omega) (decide_eq_false c3))]),fun c3=>⟨⟨by omega,by omega⟩,⟨q1n (i+1) _ ⟨by omega,by rw[lJ,hw];exact decide_eq_true c3⟩ (by omega) (aP (by kernel_rfl))⟩⟩⟩,fun c2=>⟨q1e _ ?_⟩⟩
 obtain rfl:i=out.length:=by omega
 clear q1n q1e;rw[if_neg (by rw[hw];decide)]at hE
 refine cO.pre (fW (fO 77 [3,4,6]) _) (cO.pre (aP (st':=(fun m:Nat=>bU 77 [(3,.c (.ptr 0 0)),(4,.c (.ptr 1 0)),(6,.c (.sl 2 3 0 m))] [.cells 33 (cF kd fu wi off k n d nm ML.length (aJ bY ML) bc g c e),.cells 57 (bG 0 0 0),.row 57 3 m (cR eX out)]) out.length) (by kernel_rfl)) ?_)
 refine cO.evH qS (aTI D kd fu wi off k n d nm ML bc g c e out out.length) ?_
 have hv0:vU (out.getD 0 default)=true:=by
  have:=List.all_eq_true.1 hu 0 (List.mem_range.2 h0)
  exact this
 have ez:aL 0+0=0:=rfl
 rw[ez]
 obtain⟨u,hu0⟩:∃u,out.getD 0 default=u:=⟨_,rfl⟩
 rw[hu0]at hE hv0 ⊢;obtain⟨u0,u1,u2⟩:=u
 have hr:(-3≤u0∧u0≤3)∧(-3≤u1∧u1≤3) ∧ -3≤u2∧u2≤3:=of_decide_eq_true hv0
 have ed:jS (u0,u1,u2) (0,0,1)=(u0,u1,u2-1):=by unfold jS;simp
 simp only[bD,aS,aI,bK,ed,inR,beq_iff_eq,beq_eq_false_iff_ne,ne_eq,bX,bZ,true_and];refine⟨⟨fA _,by omega⟩,by omega,fun c3=>⟨⟨by omega,by omega,by omega⟩,fun c4=>bad 4 ?_,fun c4=>⟨?_⟩⟩,fun c3=>⟨fun c4=>bad 4 ?_,fun c4=>⟨?_⟩⟩⟩
 ·rw[hE];unfold xK lB;rw[if_pos c3,if_neg (by rw[c4];decide)]
 ·rw[hE];unfold xK lB;rw[if_pos c3,if_pos c4];exact eL.refl _
 ·rw[hE];unfold xK lB;rw[if_neg c3,if_neg (by rw[c4];decide)]
 ·rw[hE];unfold xK lB;rw[if_neg c3,if_pos c4];exact eL.refl _
end
def iD(t:Nat)(cs:List PV):Prop:=iJ t cs∧pX t cs=0
def nT(t:Nat)(cs:List PV):Prop:=iD t cs∧eJ t cs=false
def oS(A:Nat→List PV→Prop)(F:Nat→List PV→List ByteArray)(t:Nat):Mod
 |[.a [.p q0,.p q1,.p q2,.p q3,.p q4,.p q5,.p q6,.p q7,.p q8,.p q9,.p q10]]=>some (A t [q0,q1,q2,q3,q4,q5,q6,q7,q8,q9,q10],aX bM 1 (F t [q0,q1,q2,q3,q4,q5,q6,q7,q8,q9,q10]))
 |_=>none
def zI:Mod
 |[.c (.p (.l 1 n f)),.c (.p (.l 1 m g))]=>some ((BE bM 1 (eR kO n f) n f∧n≤1000)∧(BE bM 1 (eR kO m g) m g∧m≤1000),bV (decide (eR kO n f=eR kO m g)))
 |_=>none
def NH:Mod
 |[.c (.p (.l 1 n f))]=>some (BE bM 1 (eR kO n f) n f∧n≤1000,aX bM 1 (eR kO n f))
 |_=>none
def aLJ(t:Nat):Ext:=fB [(67,jP iD eJ t),(68,oS nT mW t)]
def aFR(t:Nat):Ext:=fB [(64,jP iD eJ t),(65,oS nT mW t),(75,NH)]
theorem aT4(A B:List ByteArray):cJ dX (dH 4 (cS Tryz.prog Tryz.f90)) (iR Tryz.f90 [aX bM 1 A,aX bM 1 B]) (cP (fO 26 [0,1,5]) (bB Tryz.prog Tryz.f90))=bT ((↑A.length:Int) != (↑B.length:Int)) (.done .ret (St.mk [V.c (C.p (PV.b false))] []))
 (.done .normal
 (bU 26 [(0,.c (.p (.l 1 A.length (aJ bM A)))),(1,.c (.p (.l 1 B.length (aJ bM B)))),(5,.c (.p (.i .i64 0)))] [])):=by kernel_rfl
theorem aT3(A B:List ByteArray)(i:Nat):cJ dX (jZ (cS Tryz.prog Tryz.f90) 4) (bU 26 [(0,aX bM 1 A),(1,aX bM 1 B),(5,iV (i:Nat))] []) (cP (fO 26 [0,1,5]) (bB Tryz.prog Tryz.f90))=bT (decide ((↑i:Int)<(↑A.length:Int)))
 (.rq (0≤(↑i:Int)∧(↑i:Int)<(↑A.length:Int))
 (.rq (0≤(↑i:Int)∧(↑i:Int)<(↑B.length:Int))
 (bT (!(A.getD (↑i:Int).toNat default).toList==(B.getD (↑i:Int).toNat default).toList) (.done .ret (St.mk [V.c (C.p (PV.b false))] []))
 (.rq (inR aA ((↑i:Int)+1))
 (.done .normal
 (bU 26 [(0,.c (.p (.l 1 A.length (aJ bM A)))),(1,.c (.p (.l 1 B.length (aJ bM B)))),(5,.c (.p (.i .i64 ((↑i:Int)+1))))] []))))))
 (.done (.exit 0)
 (bU 26 [(0,.c (.p (.l 1 A.length (aJ bM A)))),(1,.c (.p (.l 1 B.length (aJ bM B)))),(5,.c (.p (.i .i64 (↑i:Int))))] [])):=by kernel_rfl
theorem aT2(A B:List ByteArray)(i:Nat):cJ dX (bJ 5 (cS Tryz.prog Tryz.f90)) (bU 26 [(0,aX bM 1 A),(1,aX bM 1 B),(5,iV (i:Nat))] []) (cP [] (bB Tryz.prog Tryz.f90))=Tr.done X.ret (St.mk [V.c (C.p (PV.b true))] []):=by kernel_rfl
theorem aT1(A B:List ByteArray):cJ dX (dH 4 (cS Tryz.prog Tryz.f120)) (iR Tryz.f120 [aX bM 1 A,aX bM 1 B]) (cP (fO 26 [0,1,12,13]) (bB Tryz.prog Tryz.f120))=bT ((↑A.length:Int) != (↑B.length:Int)) (.done .ret (St.mk [V.c (C.p (PV.b false))] []))
 (.done .normal
 (bU 26 [(0,.c (.p (.l 1 A.length (aJ bM A)))),(1,.c (.p (.l 1 B.length (aJ bM B)))),(12,.c (.p (.i .i64 (↑A.length:Int)))),(13,.c (.p (.i .i64 0)))] [])):=by kernel_rfl
theorem aT0(A B:List ByteArray)(i:Nat):cJ dX (jZ (cS Tryz.prog Tryz.f120) 4) (bU 26 [(0,aX bM 1 A),(1,aX bM 1 B),(12,iV (A.length:Nat)),(13,iV (i:Nat))] []) (cP (fO 26 [0,1,12,13]) (bB Tryz.prog Tryz.f120))=bT (decide ((↑i:Int)<(↑A.length:Int)))
 (.rq (0≤(↑i:Int)∧(↑i:Int)<(↑A.length:Int))
 (.rq (0≤(↑i:Int)∧(↑i:Int)<(↑B.length:Int))
 (bT (!(A.getD (↑i:Int).toNat default).toList==(B.getD (↑i:Int).toNat default).toList) (.done .ret (St.mk [V.c (C.p (PV.b false))] []))
 (.rq (inR aA ((↑i:Int)+1))
 (.done .normal
 (bU 26 [(0,.c (.p (.l 1 A.length (aJ bM A)))),(1,.c (.p (.l 1 B.length (aJ bM B)))),(12,.c (.p (.i .i64 (↑A.length:Int)))),(13,.c (.p (.i .i64 ((↑i:Int)+1))))] []))))))
 (.done (.exit 0)
 (bU 26 [(0,.c (.p (.l 1 A.length (aJ bM A)))),(1,.c (.p (.l 1 B.length (aJ bM B)))),(12,.c (.p (.i .i64 (↑A.length:Int)))),(13,.c (.p (.i .i64 (↑i:Int))))] [])):=by kernel_rfl
theorem aSZ(A B:List ByteArray)(i:Nat):cJ dX (bJ 5 (cS Tryz.prog Tryz.f120)) (bU 26 [(0,aX bM 1 A),(1,aX bM 1 B),(12,iV (A.length:Nat)),(13,iV (i:Nat))] []) (cP [] (bB Tryz.prog Tryz.f120))=Tr.done X.ret (St.mk [V.c (C.p (PV.b true))] []):=by kernel_rfl
theorem aU8(kd fu wi off k n d:Int)(nm:ByteArray)(mc:Nat)(f:Nat→Nat→PV)(BL:List ByteArray)(c:Nat)(e:Nat→Nat→PV)(t:Nat):cJ (fB [(67,jP iD eJ t)]) (cS Tryz.prog Tryz.f67) (iR Tryz.f67 [.a (cF kd fu wi off k n d nm mc f BL.length (aJ bM BL) c e)]) (cP [] (bB Tryz.prog Tryz.f67))=bT (kd==3)
 (.rq (aF 0≤aF 0∧0<(↑c:Int))
 (.rq (iD t [e 0 0,e 0 1,e 0 2,e 0 3,e 0 4,e 0 5,e 0 6,e 0 7,e 0 8,e 0 9,e 0 10])
 (bT (eJ t [e 0 0,e 0 1,e 0 2,e 0 3,e 0 4,e 0 5,e 0 6,e 0 7,e 0 8,e 0 9,e 0 10])
 (.rq (aF 0≤aF 1∧1<(↑c:Int))
 (.rq (iD t [e 1 0,e 1 1,e 1 2,e 1 3,e 1 4,e 1 5,e 1 6,e 1 7,e 1 8,e 1 9,e 1 10])
 (.done .ret
 (St.mk [V.c (C.p (PV.b (eJ t [e (aL 1) 0,e (aL 1) 1,e (aL 1) 2,e (aL 1) 3,e (aL 1) 4,e (aL 1) 5,e (aL 1) 6,e (aL 1) 7,e (aL 1) 8,e (aL 1) 9,e (aL 1) 10])))] []))))
 (.done .ret (St.mk [V.c (C.p (PV.b false))] [])))))
 (.done .ret (St.mk [V.c (C.p (PV.b (kd==0)))] [])):=by kernel_rfl
theorem aTW(kd fu wi off k n d:Int)(nm:ByteArray)(mc:Nat)(f:Nat→Nat→PV)(BL:List ByteArray)(c:Nat)(e:Nat→Nat→PV)(t:Nat):cJ (fB [(64,jP iD eJ t)]) (cS Tryz.prog Tryz.f64) (iR Tryz.f64 [.a (cF kd fu wi off k n d nm mc f BL.length (aJ bM BL) c e)]) (cP [] (bB Tryz.prog Tryz.f64))=bT (kd==0) (.done .ret (St.mk [V.c (C.p (PV.b true))] []))
 (bT (kd==3)
 (.rq (aF 0≤aF 0∧0<(↑c:Int))
 (.rq (iD t [e 0 0,e 0 1,e 0 2,e 0 3,e 0 4,e 0 5,e 0 6,e 0 7,e 0 8,e 0 9,e 0 10])
 (bT (eJ t [e 0 0,e 0 1,e 0 2,e 0 3,e 0 4,e 0 5,e 0 6,e 0 7,e 0 8,e 0 9,e 0 10])
 (.rq (aF 0≤aF 1∧1<(↑c:Int))
 (.rq (iD t [e 1 0,e 1 1,e 1 2,e 1 3,e 1 4,e 1 5,e 1 6,e 1 7,e 1 8,e 1 9,e 1 10])
 (.done .ret
 (St.mk [V.c (C.p (PV.b (eJ t [e (aL 1) 0,e (aL 1) 1,e (aL 1) 2,e (aL 1) 3,e (aL 1) 4,e (aL 1) 5,e (aL 1) 6,e (aL 1) 7,e (aL 1) 8,e (aL 1) 9,e (aL 1) 10])))] []))))
 (.done .ret (St.mk [V.c (C.p (PV.b false))] [])))))
 (.done .ret (St.mk [V.c (C.p (PV.b false))] []))):=by kernel_rfl
theorem aWC(A:List ByteArray):cJ dX (cS Tryz.prog Tryz.f75) (iR Tryz.f75 [aX bM 1 A]) (cP [] (bB Tryz.prog Tryz.f75))=bT (decide (0<A.length))
 (Tr.rq (0=0)
 (Tr.rq ((0+A.length)*16≤140737488355328∧0+A.length≤140737488355328∧∀(e o:Nat),e<A.length→o<1→kZ (C.p (aJ bM A e o))=true)
 (Tr.rq
 (0+(0+A.length)≤0+A.length∧∀(e o:Nat),e<0+A.length→o<1→BJ (iZ 0 (fun e o=>bN C.top [] (e*1+o)) (fun e o=>C.p (PV.s (A.getD e default))) (e+0) o)=true)
 (Tr.done X.ret (St.mk [V.c (C.p (PV.l 1 (0+A.length) fun e o=>tE (iZ 0 (fun e o=>bN C.top [] (e*1+o)) (fun e o=>C.p (PV.s (A.getD e default))) (e+0) o)))] [])))))
 ((Tr.done X.ret (St.mk [V.c (C.p (PV.z (dP none 0 0)))] [])).alt
 (Tr.rq (0=0)
 (Tr.rq ((0+A.length)*16≤140737488355328∧0+A.length≤140737488355328∧∀(e o:Nat),e<A.length→o<1→kZ (C.p (aJ bM A e o))=true)
 (Tr.rq
 (0+(0+A.length)≤0+A.length∧∀(e o:Nat),e<0+A.length→o<1→BJ (iZ 0 (fun e o=>bN C.top [] (e*1+o)) (fun e o=>C.p (PV.s (A.getD e default))) (e+0) o)=true)
 (Tr.done X.ret (St.mk [V.c (C.p (PV.l 1 (0+A.length) fun e o=>tE (iZ 0 (fun e o=>bN C.top [] (e*1+o)) (fun e o=>C.p (PV.s (A.getD e default))) (e+0) o)))] [])))))):=by kernel_rfl
theorem KJ(F:Nat→Int):∀(m i:Nat),GD F i m=0→∀j,j<m→F (i+j)=0
 |0,_,_,j,h=>by omega
 |m+1,i,h,j,hj=>by
  unfold GD at h;split at h
  ·rename_i h0
   cases j with
   |zero=>exact h0
   |succ j=>
    rw[show i+(j+1)=i+1+j by omega];exact KJ F m (i+1) h j (by omega)
  ·rename_i h0;exact absurd h h0
theorem IY{t:Nat}{kd fu wi off k n d:Int}{nm:ByteArray}{ML:List Mt}{BL:List ByteArray}{c:Nat}{e:Nat→Nat→PV}(hE:∀i,i<c→iJ t (cN e i))(h:pX (t+1) [.i .i64 kd,.i .i64 fu,.i .i64 wi,.i .i64 off,.i .i64 k,.i .i64 n,.i .i64 d,.s nm,.l 3 ML.length (aJ bY ML),.l 1 BL.length (aJ bM BL),.l 11 c e]=0) :
  ((kd=0∧c=0)∨(kd=1∧c=0)∨(kd=2∧c=1)∨(kd=3∧c=2))∧(kd=3→0≤fu∧fu≤3)∧∀i,i<c→iD t (cN e i):=by
 rw[OD]at h
 by_cases h1:iS kd fu k n d (kQ wi off nm ML.length) BL.length c=false
 ·rw[if_pos h1]at h;exact absurd h (by decide)
 rw[if_neg h1]at h
 by_cases h2:jN kd nm ML BL=false
 ·rw[if_pos h2]at h;exact absurd h (by decide)
 rw[if_neg h2]at h
 by_cases h3:8<ML.length∨8<BL.length
 ·rw[if_pos h3]at h;exact absurd h (by decide)
 rw[if_neg h3]at h
 by_cases h4:lU kd fu wi off k true=false
 ·rw[if_pos h4]at h;exact absurd h (by decide)
 rw[if_neg h4]at h
 have h1:iS kd fu k n d (kQ wi off nm ML.length) BL.length c=true:=by simpa using h1
 refine⟨?_,?_,fun i hi=>⟨hE i hi,by have:=KJ _ _ _ h i hi;rwa [Nat.zero_add]at this⟩⟩
 ·unfold iS at h1
  split at h1
  ·simp at h1;omega
  ·split at h1
   ·simp at h1;omega
   ·split at h1
    ·simp at h1;omega
    ·split at h1
     ·simp at h1;omega
     ·cases h1
 ·intro hk
  subst hk;unfold iS at h1;simp at h1;omega
theorem DC(t:Nat)(kd fu wi off k n d:Int)(nm:ByteArray)(q8 q9:PV)(c:Nat)(e:Nat→Nat→PV):eJ (t+1) [.i .i64 kd,.i .i64 fu,.i .i64 wi,.i .i64 off,.i .i64 k,.i .i64 n,.i .i64 d,.s nm,q8,q9,.l 11 c e]=if kd=0 then true else if kd=3 then eJ t (cN e 0)&&eJ t (cN e 1) else false:=rfl
theorem WO(t:Nat)(kd fu wi off k n d:Int)(nm:ByteArray)(q8:PV)(BL:List ByteArray)(c:Nat)(e:Nat→Nat→PV):mW (t+1) [.i .i64 kd,.i .i64 fu,.i .i64 wi,.i .i64 off,.i .i64 k,.i .i64 n,.i .i64 d,.s nm,q8,.l 1 BL.length (aJ bM BL),.l 11 c e]=if kd=1 then XF else if kd=2 then BL else if eJ t (cN e 0)=true then mW t (cN e 1) else mW t (cN e 0):=by
 show (if kd=1 then XF else if kd=2 then eR kO BL.length (aJ bM BL) else _)=_
 rw[kV];rfl
theorem XD:eL (V.c (C.p (PV.l 1 1 fun e o=>tE (bN C.top [C.p (PV.s (aO #[42]))] ((e+0)*1+o))))) (aX bM 1 XF):=
 eL.p (jT.l fun e o he ho=>jT.of_eq (by
  obtain rfl:e=0:=by omega
  obtain rfl:o=0:=by omega
  rfl))
theorem XE:∀e o:Nat,e<1→o<1→BJ (bN C.top [C.p (PV.s (aO #[42]))] ((e+0)*1+o))=true:=by
 intro e o he ho
 obtain rfl:e=0:=by omega
 obtain rfl:o=0:=by omega
 rfl
theorem aCS{t:Nat}{kd fu wi off k n d:Int}{nm:ByteArray}{ML:List Mt}{BL:List ByteArray}{c:Nat}{e:Nat→Nat→PV}(h:nT (t+1) [.i .i64 kd,.i .i64 fu,.i .i64 wi,.i .i64 off,.i .i64 k,.i .i64 n,.i .i64 d,.s nm,.l 3 ML.length (aJ bY ML),.l 1 BL.length (aJ bM BL),.l 11 c e]) :
  BL.length≤1000∧((kd=1∧c=0)∨(kd=2∧c=1)∨(kd=3∧c=2∧iD t (cN e 0)∧iD t (cN e 1)∧(eJ t (cN e 0)=true→nT t (cN e 1))∧(eJ t (cN e 0)=false→nT t (cN e 0)))):=by
 obtain⟨⟨hE,hch⟩,hr⟩:=h;obtain⟨kd',fu',wi',off',k',n',d',nm',ML',BL',c',e',hcs,-,-,hL,-,hk⟩:=hE;simp only[fF.injEq,and_true,PV.i.injEq,true_and,PV.s.injEq,PV.l.injEq]at hcs;obtain⟨rfl,rfl,rfl,rfl,rfl,rfl,rfl,rfl,-,⟨hbl,-⟩,rfl,rfl⟩:=hcs;obtain⟨hkd,-,hS⟩:=IY hk hch;rw[DC]at hr;refine⟨by omega,?_⟩
 rcases hkd with⟨rfl,rfl⟩|h1|h1|⟨rfl,rfl⟩
 ·rw[if_pos rfl]at hr;cases hr
 ·exact .inl h1
 ·exact .inr (.inl h1)
 ·rw[if_neg (by decide),if_pos rfl,Bool.and_eq_false_iff]at hr
  have s0:=hS 0 (by omega)
  have s1:=hS 1 (by omega)
  refine .inr (.inr ⟨rfl,rfl,s0,s1,fun h0=>⟨s1,?_⟩,fun h0=>⟨s0,h0⟩⟩)
  rcases hr with h2|h2
  ·rw[h0]at h2;cases h2
  ·exact h2
theorem vB:∀(t:Nat) (cs:List PV),nT t cs→(mW t cs).length≤1000
 |0,cs,h=>h.1.1.elim
 |t+1,cs,h=>by
  have h0:=h
  obtain⟨⟨⟨kd,fu,wi,off,k,n,d,nm,ML,BL,c,e,rfl,-⟩,-⟩,-⟩:=h0;obtain⟨hb,h1⟩:=aCS h;rw[WO];split
  ·decide
  ·split
   ·exact hb
   ·rename_i n1 n2
    rcases h1 with h1|h1|⟨rfl,rfl,s0,s1,r1,r0⟩
    ·exact absurd h1.1 n1
    ·exact absurd h1.1 n2
    ·split
     ·rename_i h2;exact vB t _ (r1 h2)
     ·rename_i h2;exact vB t _ (r0 (by simpa using h2))
section
variable {G:Nat→Option Obj}
set_option maxRecDepth 100000 in
theorem aI7:dD Tryz.prog G 90 zI:=by
 intro args p v hm hp h;unfold zI at hm
 split at hm;rotate_left;· cases hm
 rename_i n f m g;obtain⟨rfl,rfl⟩:=bA hm;obtain⟨⟨hI,hn⟩,hJ,hk⟩:=hp
 obtain⟨A,hA⟩:∃A,eR kO n f=A:=⟨_,rfl⟩
 obtain⟨B,hB⟩:∃B,eR kO m g=B:=⟨_,rfl⟩
 rw[hA]at hI ⊢;rw[hB]at hJ ⊢
 have hl:A.length=n:=hI.1
 have hl2:B.length=m:=hJ.1
 refine lW.args (args':=[aX bM 1 A,aX bM 1 B]) ?_ (.cons hI.le (.cons hJ.le .nil));clear hA hB hm hI hJ
 refine fR Tryz.func90 (by kernel_rfl) rfl ?_ h
 refine cO.evG aT 4 (aT4 A B) ?_;simp only[bD,aI,bK,aZ,bne_iff_ne,bne_eq_false_iff_eq,ne_eq];refine⟨fun h1=>pC ?_,fun h1=>⟨?_⟩⟩
 ·rw[decide_eq_false];rintro rfl;exact h1 rfl
 have hAB:A.length=B.length:=by omega
 refine cO.loop' (l:=bJ 4 (cS Tryz.prog Tryz.f90)) (b:=inr (inr (bN .skip (cS Tryz.prog Tryz.f90) 4))) (r:=bJ 5 (cS Tryz.prog Tryz.f90)) (id:=0) (by kernel_rfl) (σ:=Nat)
   (fun i=>bU 26 [(0,aX bM 1 A),(1,aX bM 1 B),(5,iV (i:Nat))] []) (fun i=>i≤A.length∧∀j,j<i→A.getD j default=B.getD j default) (fun i=>A.length-i) 0 ⟨bH _,fun j hj=>absurd hj (Nat.not_lt_zero j)⟩ (aP (by kernel_rfl)) ?_
 rintro i ⟨hi,hf⟩ Q1 q1n q1e -;refine cO.evH aT (aT3 A B i) ?_;simp only[bD,aS,aI,bK,aZ,fE,decide_eq_true_eq,decide_eq_false_iff_not,iN,inR,show (↑i:Int).toNat=i from rfl,bX,bZ]
 refine⟨fun h2=>⟨by omega,by omega,fun h3=>pC ?_,fun h3=>⟨by omega,⟨q1n (i+1) _ ⟨by omega,fun j hj=>?_⟩ (show A.length-(i+1)<A.length-i by omega) (aP (by kernel_rfl))⟩⟩⟩,fun h2=>⟨q1e _ ?_⟩⟩
 ·rw[decide_eq_false];rintro rfl;exact h3 rfl
 ·rcases Nat.lt_or_ge j i with h4|h4
  ·exact hf j h4
  ·obtain rfl:j=i:=by omega
   exact h3
 ·obtain rfl:i=A.length:=by omega
  refine cO.evH aT (aT2 A B A.length) ?_;simp only[aI,bK];refine pC ?_;rw[decide_eq_true]
  refine List.ext_getElem hAB fun j h4 h5=>?_
  have:=hf j h4
  rwa [aG,aG,aN h4,aN h5]at this
set_option maxRecDepth 100000 in
theorem aQ8:dD Tryz.prog G 120 zI:=by
 intro args p v hm hp h;unfold zI at hm
 split at hm;rotate_left;· cases hm
 rename_i n f m g;obtain⟨rfl,rfl⟩:=bA hm;obtain⟨⟨hI,hn⟩,hJ,hk⟩:=hp
 obtain⟨A,hA⟩:∃A,eR kO n f=A:=⟨_,rfl⟩
 obtain⟨B,hB⟩:∃B,eR kO m g=B:=⟨_,rfl⟩
 rw[hA]at hI ⊢;rw[hB]at hJ ⊢
 have hl:A.length=n:=hI.1
 have hl2:B.length=m:=hJ.1
 refine lW.args (args':=[aX bM 1 A,aX bM 1 B]) ?_ (.cons hI.le (.cons hJ.le .nil));clear hA hB hm hI hJ
 refine fR Tryz.func120 (by kernel_rfl) rfl ?_ h
 refine cO.evG aT 4 (aT1 A B) ?_;simp only[bD,aI,bK,aZ,bne_iff_ne,bne_eq_false_iff_eq,ne_eq];refine⟨fun h1=>pC ?_,fun h1=>⟨?_⟩⟩
 ·rw[decide_eq_false];rintro rfl;exact h1 rfl
 have hAB:A.length=B.length:=by omega
 refine cO.loop' (l:=bJ 4 (cS Tryz.prog Tryz.f120)) (b:=inr (inr (bN .skip (cS Tryz.prog Tryz.f120) 4))) (r:=bJ 5 (cS Tryz.prog Tryz.f120)) (id:=0) (by kernel_rfl) (σ:=Nat)
   (fun i=>bU 26 [(0,aX bM 1 A),(1,aX bM 1 B),(12,iV (A.length:Nat)),(13,iV (i:Nat))] []) (fun i=>i≤A.length∧∀j,j<i→A.getD j default=B.getD j default) (fun i=>A.length-i) 0 ⟨bH _,fun j hj=>absurd hj (Nat.not_lt_zero j)⟩ (aP (by kernel_rfl)) ?_
 rintro i ⟨hi,hf⟩ Q1 q1n q1e -;refine cO.evH aT (aT0 A B i) ?_;simp only[bD,aS,aI,bK,aZ,fE,decide_eq_true_eq,decide_eq_false_iff_not,iN,inR,show (↑i:Int).toNat=i from rfl,bX,bZ]
 refine⟨fun h2=>⟨by omega,by omega,fun h3=>pC ?_,fun h3=>⟨by omega,⟨q1n (i+1) _ ⟨by omega,fun j hj=>?_⟩ (show A.length-(i+1)<A.length-i by omega) (aP (by kernel_rfl))⟩⟩⟩,fun h2=>⟨q1e _ ?_⟩⟩
 ·rw[decide_eq_false];rintro rfl;exact h3 rfl
 ·rcases Nat.lt_or_ge j i with h4|h4
  ·exact hf j h4
  ·obtain rfl:j=i:=by omega
   exact h3
 ·obtain rfl:i=A.length:=by omega
  refine cO.evH aT (aSZ A B A.length) ?_;simp only[aI,bK];refine pC ?_;rw[decide_eq_true]
  refine List.ext_getElem hAB fun j h4 h5=>?_
  have:=hf j h4
  rwa [aG,aG,aN h4,aN h5]at this
set_option maxRecDepth 100000 in
theorem aDW:dD Tryz.prog G 75 NH:=by
 intro args p v hm hp h;unfold NH at hm
 split at hm;rotate_left;· cases hm
 rename_i n f;obtain⟨rfl,rfl⟩:=bA hm;obtain⟨hI,hn⟩:=hp
 obtain⟨L,hL⟩:∃L,eR kO n f=L:=⟨_,rfl⟩
 rw[hL]at hI ⊢
 have hl:L.length=n:=hI.1
 refine lW.args (args':=[aX bM 1 L]) ?_ (.cons hI.le .nil);clear hL hm hI
 refine fR Tryz.func75 (by kernel_rfl) rfl ?_ h
 refine cO.evH aT (aWC L) ?_;simp only[KE,bD,aS,aI,bK]
 have key:eL (V.c (C.p (PV.l 1 (0+L.length) fun e o=>tE (iZ 0 (fun e o=>bN C.top [] (e*1+o)) (fun e o=>C.p (PV.s (L.getD e default))) (e+0) o)))) (aX bM 1 L):=by
  rw[Nat.zero_add];exact eL.refl _
 have big:(0+L.length)*16≤140737488355328∧0+L.length≤140737488355328∧∀(e o:Nat),e<L.length→o<1→kZ (C.p (aJ bM L e o))=true:=⟨by omega,by omega,fun e o _ _=>rfl⟩
 have fin:=fun(e o:Nat) (_:e<0+L.length) (_:o<1)=>show BJ (iZ 0 (fun e o=>bN C.top [] (e*1+o)) (fun e o=>C.p (PV.s (L.getD e default))) (e+0) o)=true from rfl
 refine⟨fun _=>⟨trivial,big,⟨by omega,fin⟩,⟨key⟩⟩,fun h0=>⟨⟨?_⟩,trivial,big,⟨by omega,fin⟩,⟨key⟩⟩⟩
 have h0:L.length=0:=by have:=of_decide_eq_false h0;omega
 obtain rfl:=List.eq_nil_of_length_eq_zero h0;exact eL.p (jT.nil 1 _)
set_option maxRecDepth 100000 in
theorem MT:∀t,dD Tryz.prog G 67 (jP iD eJ t):=by
 intro t;induction t with
 |zero=>
  intro args p v hm hp h;unfold jP at hm
  split at hm;rotate_left;· cases hm
  obtain⟨rfl,rfl⟩:=bA hm;exact hp.1.elim
 |succ t ih=>
  intro args p v hm hp h;unfold jP at hm
  split at hm;rotate_left;· cases hm
  rename_i q0 q1 q2 q3 q4 q5 q6 q7 q8 q9 q10;obtain⟨rfl,rfl⟩:=bA hm;clear hm;obtain⟨⟨kd,fu,wi,off,k,n,d,nm,ML,BL,c,e,hcs,hn,hd,hL,hc,hk⟩,hch⟩:=hp;simp only[fF.injEq,and_true]at hcs;obtain⟨rfl,rfl,rfl,rfl,rfl,rfl,rfl,rfl,rfl,rfl,rfl⟩:=hcs;obtain⟨hkd,-,hS⟩:=IY hk hch
  have hs:bO Tryz.prog G (fB [(67,jP iD eJ t)]):=cD (by simp;exact ih)
  refine fR Tryz.func67 (by kernel_rfl) rfl ?_ h
  rw[DC];refine cO.evH hs (aU8 kd fu wi off k n d nm ML.length (aJ bY ML) BL c e t) ?_;simp only[bD,aS,aI,bK,beq_iff_eq,beq_eq_false_iff_ne,ne_eq];refine⟨fun h3=>⟨⟨fA _,by omega⟩,hS 0 (by omega),fun h1=>⟨⟨by decide,by omega⟩,hS 1 (by omega),pC ?_⟩,fun h1=>pC ?_⟩,fun h3=>pC ?_⟩
  ·rw[if_neg (by omega),if_pos h3,show eJ t (cN e 0)=true from h1];rfl
  ·rw[if_neg (by omega),if_pos h3,show eJ t (cN e 0)=false from h1];rfl
  ·rw[if_neg h3]
   by_cases h0:kd=0
   ·rw[if_pos h0];simp[h0]
   ·rw[if_neg h0];simp[h0]
set_option maxRecDepth 100000 in
theorem MR:∀t,dD Tryz.prog G 64 (jP iD eJ t):=by
 intro t;induction t with
 |zero=>
  intro args p v hm hp h;unfold jP at hm
  split at hm;rotate_left;· cases hm
  obtain⟨rfl,rfl⟩:=bA hm;exact hp.1.elim
 |succ t ih=>
  intro args p v hm hp h;unfold jP at hm
  split at hm;rotate_left;· cases hm
  rename_i q0 q1 q2 q3 q4 q5 q6 q7 q8 q9 q10;obtain⟨rfl,rfl⟩:=bA hm;clear hm;obtain⟨⟨kd,fu,wi,off,k,n,d,nm,ML,BL,c,e,hcs,hn,hd,hL,hc,hk⟩,hch⟩:=hp;simp only[fF.injEq,and_true]at hcs;obtain⟨rfl,rfl,rfl,rfl,rfl,rfl,rfl,rfl,rfl,rfl,rfl⟩:=hcs;obtain⟨hkd,-,hS⟩:=IY hk hch
  have hs:bO Tryz.prog G (fB [(64,jP iD eJ t)]):=cD (by simp;exact ih)
  refine fR Tryz.func64 (by kernel_rfl) rfl ?_ h
  rw[DC];refine cO.evH hs (aTW kd fu wi off k n d nm ML.length (aJ bY ML) BL c e t) ?_;simp only[bD,aS,aI,bK,beq_iff_eq,beq_eq_false_iff_ne,ne_eq];refine⟨fun h0=>pC ?_,fun h0=>⟨fun h3=>⟨⟨fA _,by omega⟩,hS 0 (by omega),fun h1=>⟨⟨by decide,by omega⟩,hS 1 (by omega),pC ?_⟩,fun h1=>pC ?_⟩,fun h3=>pC ?_⟩⟩
  ·rw[if_pos h0]
  ·rw[if_neg h0,if_pos h3,show eJ t (cN e 0)=true from h1];rfl
  ·rw[if_neg h0,if_pos h3,show eJ t (cN e 0)=false from h1];rfl
  ·rw[if_neg h0,if_neg h3]
end
theorem aWI(kd fu wi off k n d:Int)(nm:ByteArray)(mc:Nat)(f:Nat→Nat→PV)(BL:List ByteArray)(c:Nat)(e:Nat→Nat→PV)(t:Nat):cJ (aLJ t) (cS Tryz.prog Tryz.f68) (iR Tryz.f68 [.a (cF kd fu wi off k n d nm mc f BL.length (aJ bM BL) c e)]) (cP [] (bB Tryz.prog Tryz.f68))=bT (kd==1)
 (.rq (1≤1∧∀(e o:Nat),e<1→o<1→BJ (bN C.top [C.p (PV.s (aO #[42]))] ((e+0)*1+o))=true)
 (.done .ret (St.mk [V.c (C.p (PV.l 1 1 fun e o=>tE (bN C.top [C.p (PV.s (aO #[42]))] ((e+0)*1+o))))] [])))
 (bT (kd==2) (.done .ret (St.mk [V.c (C.p (PV.l 1 BL.length (aJ bM BL)))] []))
 (bT (kd==3)
 (.rq (aF 0≤aF 0∧0<(↑c:Int))
 (.rq (iD t [e 0 0,e 0 1,e 0 2,e 0 3,e 0 4,e 0 5,e 0 6,e 0 7,e 0 8,e 0 9,e 0 10])
 (bT (eJ t [e 0 0,e 0 1,e 0 2,e 0 3,e 0 4,e 0 5,e 0 6,e 0 7,e 0 8,e 0 9,e 0 10])
 (.rq (aF 0≤aF 1∧1<(↑c:Int))
 (.rq (nT t [e 1 0,e 1 1,e 1 2,e 1 3,e 1 4,e 1 5,e 1 6,e 1 7,e 1 8,e 1 9,e 1 10])
 (.done .ret
 (St.mk [V.c (C.p (PV.l 1 (mW t [e (aL 1) 0,e (aL 1) 1,e (aL 1) 2,e (aL 1) 3,e (aL 1) 4,e (aL 1) 5,e (aL 1) 6,e (aL 1) 7,e (aL 1) 8,e (aL 1) 9,e (aL 1) 10]).length (aJ bM (mW t [e (aL 1) 0,e (aL 1) 1,e (aL 1) 2,e (aL 1) 3,e (aL 1) 4,e (aL 1) 5,e (aL 1) 6,e (aL 1) 7,e (aL 1) 8,e (aL 1) 9,e (aL 1) 10]))))] []))))
 (bT (kd==3)
 (.rq (aF 0≤aF 0∧0<(↑c:Int))
 (.rq (nT t [e 0 0,e 0 1,e 0 2,e 0 3,e 0 4,e 0 5,e 0 6,e 0 7,e 0 8,e 0 9,e 0 10])
 (.done .ret
 (St.mk [V.c (C.p (PV.l 1 (mW t [e (aL 0) 0,e (aL 0) 1,e (aL 0) 2,e (aL 0) 3,e (aL 0) 4,e (aL 0) 5,e (aL 0) 6,e (aL 0) 7,e (aL 0) 8,e (aL 0) 9,e (aL 0) 10]).length (aJ bM (mW t [e (aL 0) 0,e (aL 0) 1,e (aL 0) 2,e (aL 0) 3,e (aL 0) 4,e (aL 0) 5,e (aL 0) 6,e (aL 0) 7,e (aL 0) 8,e (aL 0) 9,e (aL 0) 10]))))] []))))
 (.done .ret (St.mk [V.c (C.p (PV.z (dP none 0 0)))] []))))))
 (bT (kd==3)
 (.rq (aF 0≤aF 0∧0<(↑c:Int))
 (.rq (nT t [e 0 0,e 0 1,e 0 2,e 0 3,e 0 4,e 0 5,e 0 6,e 0 7,e 0 8,e 0 9,e 0 10])
 (.done .ret
 (St.mk [V.c (C.p (PV.l 1 (mW t [e (aL 0) 0,e (aL 0) 1,e (aL 0) 2,e (aL 0) 3,e (aL 0) 4,e (aL 0) 5,e (aL 0) 6,e (aL 0) 7,e (aL 0) 8,e (aL 0) 9,e (aL 0) 10]).length (aJ bM (mW t [e (aL 0) 0,e (aL 0) 1,e (aL 0) 2,e (aL 0) 3,e (aL 0) 4,e (aL 0) 5,e (aL 0) 6,e (aL 0) 7,e (aL 0) 8,e (aL 0) 9,e (aL 0) 10]))))] []))))
 (.done .ret (St.mk [V.c (C.p (PV.z (dP none 0 0)))] []))))):=by kernel_rfl
theorem aTU(kd fu wi off k n d:Int)(nm:ByteArray)(mc:Nat)(f:Nat→Nat→PV)(BL:List ByteArray)(c:Nat)(e:Nat→Nat→PV)(t:Nat):cJ (aFR t) (cS Tryz.prog Tryz.f65) (iR Tryz.f65 [.a (cF kd fu wi off k n d nm mc f BL.length (aJ bM BL) c e)]) (cP [] (bB Tryz.prog Tryz.f65))=bT (kd==1)
 (.rq (1≤1∧∀(e o:Nat),e<1→o<1→BJ (bN C.top [C.p (PV.s (aO #[42]))] ((e+0)*1+o))=true)
 (.done .ret (St.mk [V.c (C.p (PV.l 1 1 fun e o=>tE (bN C.top [C.p (PV.s (aO #[42]))] ((e+0)*1+o))))] [])))
 (bT (kd==2)
 (.rq (BE bM 1 (eR kO BL.length (aJ bM BL)) BL.length (aJ bM BL)∧BL.length≤1000)
 (.done .ret (St.mk [V.c (C.p (PV.l 1 (eR kO BL.length (aJ bM BL)).length (aJ bM (eR kO BL.length (aJ bM BL)))))] [])))
 (.rq (aF 0≤aF 0∧0<(↑c:Int))
 (.rq (iD t [e 0 0,e 0 1,e 0 2,e 0 3,e 0 4,e 0 5,e 0 6,e 0 7,e 0 8,e 0 9,e 0 10])
 (bT (eJ t [e 0 0,e 0 1,e 0 2,e 0 3,e 0 4,e 0 5,e 0 6,e 0 7,e 0 8,e 0 9,e 0 10])
 (.rq (aF 0≤aF 1∧1<(↑c:Int))
 (.rq (nT t [e 1 0,e 1 1,e 1 2,e 1 3,e 1 4,e 1 5,e 1 6,e 1 7,e 1 8,e 1 9,e 1 10])
 (.done .ret
 (St.mk [V.c (C.p (PV.l 1 (mW t [e (aL 1) 0,e (aL 1) 1,e (aL 1) 2,e (aL 1) 3,e (aL 1) 4,e (aL 1) 5,e (aL 1) 6,e (aL 1) 7,e (aL 1) 8,e (aL 1) 9,e (aL 1) 10]).length (aJ bM (mW t [e (aL 1) 0,e (aL 1) 1,e (aL 1) 2,e (aL 1) 3,e (aL 1) 4,e (aL 1) 5,e (aL 1) 6,e (aL 1) 7,e (aL 1) 8,e (aL 1) 9,e (aL 1) 10]))))] []))))
 (.rq (aF 0≤aF 0∧0<(↑c:Int))
 (.rq (nT t [e 0 0,e 0 1,e 0 2,e 0 3,e 0 4,e 0 5,e 0 6,e 0 7,e 0 8,e 0 9,e 0 10])
 (.done .ret
 (St.mk [V.c (C.p (PV.l 1 (mW t [e (aL 0) 0,e (aL 0) 1,e (aL 0) 2,e (aL 0) 3,e (aL 0) 4,e (aL 0) 5,e (aL 0) 6,e (aL 0) 7,e (aL 0) 8,e (aL 0) 9,e (aL 0) 10]).length (aJ bM (mW t [e (aL 0) 0,e (aL 0) 1,e (aL 0) 2,e (aL 0) 3,e (aL 0) 4,e (aL 0) 5,e (aL 0) 6,e (aL 0) 7,e (aL 0) 8,e (aL 0) 9,e (aL 0) 10]))))] [])))))))):=by kernel_rfl
section
variable {G:Nat→Option Obj}
set_option maxRecDepth 100000 in
theorem aKS:∀t,dD Tryz.prog G 68 (oS nT mW t):=by
 intro t;induction t with
 |zero=>
  intro args p v hm hp h;unfold oS at hm
  split at hm;rotate_left;· cases hm
  obtain⟨rfl,rfl⟩:=bA hm;exact hp.1.1.elim
 |succ t ih=>
  intro args p v hm hp h;unfold oS at hm
  split at hm;rotate_left;· cases hm
  rename_i q0 q1 q2 q3 q4 q5 q6 q7 q8 q9 q10;obtain⟨rfl,rfl⟩:=bA hm;clear hm
  have hp0:=hp
  obtain⟨⟨⟨kd,fu,wi,off,k,n,d,nm,ML,BL,c,e,hcs,hn,hd,hL,hc,hk⟩,hch⟩,hr⟩:=hp;simp only[fF.injEq,and_true]at hcs;obtain⟨rfl,rfl,rfl,rfl,rfl,rfl,rfl,rfl,rfl,rfl,rfl⟩:=hcs;obtain⟨hb,h1⟩:=aCS hp0
  have hs:bO Tryz.prog G (aLJ t):=cD (by simp;exact⟨MT t,ih⟩)
  refine fR Tryz.func68 (by kernel_rfl) rfl ?_ h
  rw[WO];refine cO.evH hs (aWI kd fu wi off k n d nm ML.length (aJ bY ML) BL c e t) ?_
  have k3:kd=3→c=2∧iD t (cN e 0)∧iD t (cN e 1)∧(eJ t (cN e 0)=true→nT t (cN e 1))∧(eJ t (cN e 0)=false→nT t (cN e 0)):=fun h3=>by
   rcases h1 with h1|h1|h1
   ·omega
   ·omega
   ·exact h1.2
  simp only[bD,aS,aI,bK,beq_iff_eq,beq_eq_false_iff_ne,ne_eq,kV];refine⟨fun c1=>⟨⟨aU _,XE⟩,⟨?_⟩⟩,fun c1=>⟨fun c2=>⟨?_⟩,fun c2=>⟨fun c3=>⟨⟨fA _,by have:=(k3 c3).1;omega⟩,(k3 c3).2.1,fun r0=>⟨⟨by decide,by have:=(k3 c3).1;omega⟩,(k3 c3).2.2.2.1 r0,⟨?_⟩⟩,fun r0=>⟨fun _=>⟨⟨fA _,by have:=(k3 c3).1;omega⟩,(k3 c3).2.2.2.2 r0,⟨?_⟩⟩,fun c4=>absurd c3 c4⟩⟩,fun c3=>⟨fun c4=>absurd c4 c3,fun _=>absurd h1 (by omega)⟩⟩⟩⟩
  ·rw[if_pos c1];exact XD
  ·rw[if_neg c1,if_pos c2];exact eL.refl _
  ·rw[if_neg c1,if_neg c2,if_pos (show eJ t (cN e 0)=true from r0)];exact eL.refl _
  ·rw[if_neg c1,if_neg c2,if_neg (by rw[show eJ t (cN e 0)=false from r0];decide)];exact eL.refl _
set_option maxRecDepth 100000 in
theorem aDK:∀t,dD Tryz.prog G 65 (oS nT mW t):=by
 intro t;induction t with
 |zero=>
  intro args p v hm hp h;unfold oS at hm
  split at hm;rotate_left;· cases hm
  obtain⟨rfl,rfl⟩:=bA hm;exact hp.1.1.elim
 |succ t ih=>
  intro args p v hm hp h;unfold oS at hm
  split at hm;rotate_left;· cases hm
  rename_i q0 q1 q2 q3 q4 q5 q6 q7 q8 q9 q10;obtain⟨rfl,rfl⟩:=bA hm;clear hm
  have hp0:=hp
  obtain⟨⟨⟨kd,fu,wi,off,k,n,d,nm,ML,BL,c,e,hcs,hn,hd,hL,hc,hk⟩,hch⟩,hr⟩:=hp;simp only[fF.injEq,and_true]at hcs;obtain⟨rfl,rfl,rfl,rfl,rfl,rfl,rfl,rfl,rfl,rfl,rfl⟩:=hcs;obtain⟨hb,h1⟩:=aCS hp0
  have hs:bO Tryz.prog G (aFR t):=cD (by simp;exact⟨MR t,ih,aDW⟩)
  refine fR Tryz.func65 (by kernel_rfl) rfl ?_ h
  rw[WO];refine cO.evH hs (aTU kd fu wi off k n d nm ML.length (aJ bY ML) BL c e t) ?_
  have k3:kd=3→c=2∧iD t (cN e 0)∧iD t (cN e 1)∧(eJ t (cN e 0)=true→nT t (cN e 1))∧(eJ t (cN e 0)=false→nT t (cN e 0)):=fun h3=>by
   rcases h1 with h1|h1|h1
   ·omega
   ·omega
   ·exact h1.2
  simp only[bD,aS,aI,bK,beq_iff_eq,beq_eq_false_iff_ne,ne_eq,kV]
  have c3:¬kd=1→¬kd=2→kd=3:=fun n1 n2=>by
   rcases h1 with h1|h1|h1
   ·exact absurd h1.1 n1
   ·exact absurd h1.1 n2
   ·exact h1.1
  refine⟨fun c1=>⟨⟨aU _,XE⟩,⟨?_⟩⟩,fun c1=>⟨fun c2=>⟨⟨lV _ _ _,hb⟩,⟨?_⟩⟩,fun c2=>⟨⟨fA _,by have:=(k3 (c3 c1 c2)).1;omega⟩,(k3 (c3 c1 c2)).2.1,fun r0=>⟨⟨by decide,by have:=(k3 (c3 c1 c2)).1;omega⟩,(k3 (c3 c1 c2)).2.2.2.1 r0,⟨?_⟩⟩,fun r0=>⟨⟨fA _,by have:=(k3 (c3 c1 c2)).1;omega⟩,(k3 (c3 c1 c2)).2.2.2.2 r0,⟨?_⟩⟩⟩⟩⟩
  ·rw[if_pos c1];exact XD
  ·rw[if_neg c1,if_pos c2];exact eL.refl _
  ·rw[if_neg c1,if_neg c2,if_pos (show eJ t (cN e 0)=true from r0)];exact eL.refl _
  ·rw[if_neg c1,if_neg c2,if_neg (by rw[show eJ t (cN e 0)=false from r0];decide)];exact eL.refl _
end
def VA(t:Nat):Mod
 |[.a [.p (.i .i64 kd),.p (.i .i64 fu),.p (.i .i64 wi),.p (.i .i64 off),.p (.i .i64 k),.p (.i .i64 n),.p (.i .i64 d),.p (.s nm),.p (.l 3 mc f),.p (.l 1 bc g),.p (.l 11 c e)],.a [.p (.i .i64 a0),.p (.i .i64 a1),.p (.i .i64 a2)],.a [.p (.i .i64 b0),.p (.i .i64 b1),.p (.i .i64 b2)]]=>some (c=2∧(iD t (cN e 0)∧iD t (cN e 1))∧(0≤fu∧fu≤3)∧vU (a0,a1,a2)=true∧vU (b0,b1,b2)=true,unE (nS fu (lF t (cN e 0) (cN e 1)) (a0,a1,a2) (b0,b1,b2)))
 |_=>none
def aFU(t:Nat):Ext:=fB [(67,jP iD eJ t),(68,oS nT mW t),(90,zI),(126,JW),(125,FO),(124,mVU)]
theorem aWH(kd fu wi off k n d:Int)(nm:ByteArray)(mc:Nat)(f:Nat→Nat→PV)(bc:Nat)(g:Nat→Nat→PV)(c:Nat)(e:Nat→Nat→PV)(a0 a1 a2 b0 b1 b2:Int)(t:Nat):cJ (aFU t) (dH 5 (cS Tryz.prog Tryz.f101)) (iR Tryz.f101 [.a (cF kd fu wi off k n d nm mc f bc g c (aC e)),.a (bG a0 a1 a2),.a (bG b0 b1 b2)]) (cP (fO 63 [3,4,5,6]) (bB Tryz.prog Tryz.f101))=Tr.rq (aF 0≤aF 0∧0<(↑c:Int))
 (.rq (aF 0≤aF 1∧1<(↑c:Int))
 (.rq (iD t [aC e 0 0,aC e 0 1,aC e 0 2,aC e 0 3,aC e 0 4,aC e 0 5,aC e 0 6,aC e 0 7,aC e 0 8,aC e 0 9,aC e 0 10])
 (bT (!eJ t [aC e 0 0,aC e 0 1,aC e 0 2,aC e 0 3,aC e 0 4,aC e 0 5,aC e 0 6,aC e 0 7,aC e 0 8,aC e 0 9,aC e 0 10])
 (.rq (iD t [aC e 1 0,aC e 1 1,aC e 1 2,aC e 1 3,aC e 1 4,aC e 1 5,aC e 1 6,aC e 1 7,aC e 1 8,aC e 1 9,aC e 1 10])
 (bT (!eJ t [aC e 1 0,aC e 1 1,aC e 1 2,aC e 1 3,aC e 1 4,aC e 1 5,aC e 1 6,aC e 1 7,aC e 1 8,aC e 1 9,aC e 1 10])
 (.rq (nT t [aC e 0 0,aC e 0 1,aC e 0 2,aC e 0 3,aC e 0 4,aC e 0 5,aC e 0 6,aC e 0 7,aC e 0 8,aC e 0 9,aC e 0 10])
 (.rq (nT t [aC e 1 0,aC e 1 1,aC e 1 2,aC e 1 3,aC e 1 4,aC e 1 5,aC e 1 6,aC e 1 7,aC e 1 8,aC e 1 9,aC e 1 10])
 (.rq
 ((BE bM 1
 (eR kO
 (mW t [aC e 0 0,aC e 0 1,aC e 0 2,aC e 0 3,aC e 0 4,aC e 0 5,aC e 0 6,aC e 0 7,aC e 0 8,aC e 0 9,aC e 0 10]).length
 (aJ bM
 (mW t [aC e 0 0,aC e 0 1,aC e 0 2,aC e 0 3,aC e 0 4,aC e 0 5,aC e 0 6,aC e 0 7,aC e 0 8,aC e 0 9,aC e 0 10])))
 (mW t [aC e 0 0,aC e 0 1,aC e 0 2,aC e 0 3,aC e 0 4,aC e 0 5,aC e 0 6,aC e 0 7,aC e 0 8,aC e 0 9,aC e 0 10]).length
 (aJ bM
 (mW t [aC e 0 0,aC e 0 1,aC e 0 2,aC e 0 3,aC e 0 4,aC e 0 5,aC e 0 6,aC e 0 7,aC e 0 8,aC e 0 9,aC e 0 10])) ∧
 (mW t [aC e 0 0,aC e 0 1,aC e 0 2,aC e 0 3,aC e 0 4,aC e 0 5,aC e 0 6,aC e 0 7,aC e 0 8,aC e 0 9,aC e 0 10]).length ≤
 1000) ∧
 BE bM 1
 (eR kO
 (mW t [aC e 1 0,aC e 1 1,aC e 1 2,aC e 1 3,aC e 1 4,aC e 1 5,aC e 1 6,aC e 1 7,aC e 1 8,aC e 1 9,aC e 1 10]).length
 (aJ bM
 (mW t [aC e 1 0,aC e 1 1,aC e 1 2,aC e 1 3,aC e 1 4,aC e 1 5,aC e 1 6,aC e 1 7,aC e 1 8,aC e 1 9,aC e 1 10])))
 (mW t [aC e 1 0,aC e 1 1,aC e 1 2,aC e 1 3,aC e 1 4,aC e 1 5,aC e 1 6,aC e 1 7,aC e 1 8,aC e 1 9,aC e 1 10]).length
 (aJ bM
 (mW t [aC e 1 0,aC e 1 1,aC e 1 2,aC e 1 3,aC e 1 4,aC e 1 5,aC e 1 6,aC e 1 7,aC e 1 8,aC e 1 9,aC e 1 10])) ∧
 (mW t [aC e 1 0,aC e 1 1,aC e 1 2,aC e 1 3,aC e 1 4,aC e 1 5,aC e 1 6,aC e 1 7,aC e 1 8,aC e 1 9,aC e 1 10]).length≤1000)
 (bT
 (!decide
 (eR kO
 (mW t [aC e 0 0,aC e 0 1,aC e 0 2,aC e 0 3,aC e 0 4,aC e 0 5,aC e 0 6,aC e 0 7,aC e 0 8,aC e 0 9,aC e 0 10]).length
 (aJ bM
 (mW t [aC e 0 0,aC e 0 1,aC e 0 2,aC e 0 3,aC e 0 4,aC e 0 5,aC e 0 6,aC e 0 7,aC e 0 8,aC e 0 9,aC e 0 10])) =
 eR kO
 (mW t [aC e 1 0,aC e 1 1,aC e 1 2,aC e 1 3,aC e 1 4,aC e 1 5,aC e 1 6,aC e 1 7,aC e 1 8,aC e 1 9,aC e 1 10]).length
 (aJ bM
 (mW t [aC e 1 0,aC e 1 1,aC e 1 2,aC e 1 3,aC e 1 4,aC e 1 5,aC e 1 6,aC e 1 7,aC e 1 8,aC e 1 9,aC e 1 10]))))
 (.done .ret (St.mk [V.t [V1.a (bG 0 0 0),V1.c (C.p (PV.i aA 7))]] []))
 (.done .normal
 (bU 63 [(3,.c (.ptr 0 0)),(4,.c (.ptr 1 0)),(5,.c (.ptr 2 0)),(6,.c (.ptr 3 0))] [.cells 33 (cF kd fu wi off k n d nm mc f bc g c (aC e)),.cells 57 (bG a0 a1 a2),.cells 57 (bG b0 b1 b2),.cells 57 (bG 0 0 0)]))))))
 (.done .normal
 (bU 63 [(3,.c (.ptr 0 0)),(4,.c (.ptr 1 0)),(5,.c (.ptr 2 0)),(6,.c (.ptr 3 0))] [.cells 33 (cF kd fu wi off k n d nm mc f bc g c (aC e)),.cells 57 (bG a0 a1 a2),.cells 57 (bG b0 b1 b2),.cells 57 (bG 0 0 0)]))))
 (.done .normal
 (bU 63 [(3,.c (.ptr 0 0)),(4,.c (.ptr 1 0)),(5,.c (.ptr 2 0)),(6,.c (.ptr 3 0))] [.cells 33 (cF kd fu wi off k n d nm mc f bc g c (aC e)),.cells 57 (bG a0 a1 a2),.cells 57 (bG b0 b1 b2),.cells 57 (bG 0 0 0)]))))):=by kernel_rfl
theorem aWG(kd fu wi off k n d:Int)(nm:ByteArray)(mc:Nat)(f:Nat→Nat→PV)(bc:Nat)(g:Nat→Nat→PV)(c:Nat)(e:Nat→Nat→PV)(a0 a1 a2 b0 b1 b2:Int)(t:Nat):cJ (aFU t) (bJ 5 (cS Tryz.prog Tryz.f101)) (bU 63 [(3,.c (.ptr 0 0)),(4,.c (.ptr 1 0)),(5,.c (.ptr 2 0)),(6,.c (.ptr 3 0))] [.cells 33 (cF kd fu wi off k n d nm mc f bc g c (aC e)),.cells 57 (bG a0 a1 a2),.cells 57 (bG b0 b1 b2),.cells 57 (bG 0 0 0)]) (cP [] (bB Tryz.prog Tryz.f101))=bT (fu==0)
 (bT
 (match true with
 |true => !(a0==b0&&(a1==b1&&(a2==b2&&true)))
 |false=>a0==b0&&(a1==b1&&(a2==b2&&true)))
 (.done .ret (St.mk [V.t [V1.a (bG 0 0 0),V1.c (C.p (PV.i aA 7))]] []))
 (.done .ret (St.mk [V.t [V1.a (bG a0 a1 a2),V1.c (C.p (PV.i aA 0))]] [])))
 (bT (fu==1)
 (bT
 (match true with
 |true => !(a0==b0&&(a1==b1&&(a2==b2&&true)))
 |false=>a0==b0&&(a1==b1&&(a2==b2&&true)))
 (.done .ret (St.mk [V.t [V1.a (bG 0 0 0),V1.c (C.p (PV.i aA 7))]] []))
 (.done .ret (St.mk [V.t [V1.a (bG a0 a1 a2),V1.c (C.p (PV.i aA 0))]] [])))
 (.rq (inR aA (a0+b0)∧inR aA (a1+b1)∧inR aA (a2+b2))
 (bT (fu==3)
 (.rq (inR aA (a0-b0)∧inR aA (a1-b1)∧inR aA (a2-b2))
 (.rq True
 (bT (!vU ((jS (a0,a1,a2) (b0,b1,b2)).fst,(jS (a0,a1,a2) (b0,b1,b2)).snd.fst,(jS (a0,a1,a2) (b0,b1,b2)).snd.snd))
 (.done .ret (St.mk [V.t [V1.a (bG 0 0 0),V1.c (C.p (PV.i aA 4))]] []))
 (.done .ret
 (St.mk [V.t [V1.a (bG (jS (a0,a1,a2) (b0,b1,b2)).fst (jS (a0,a1,a2) (b0,b1,b2)).snd.fst (jS (a0,a1,a2) (b0,b1,b2)).snd.snd),V1.c (C.p (PV.i aA 0))]] [])))))
 (.rq True
 (bT (!vU ((lA (a0,a1,a2) (b0,b1,b2)).fst,(lA (a0,a1,a2) (b0,b1,b2)).snd.fst,(lA (a0,a1,a2) (b0,b1,b2)).snd.snd))
 (.done .ret (St.mk [V.t [V1.a (bG 0 0 0),V1.c (C.p (PV.i aA 4))]] []))
 (.done .ret
 (St.mk [V.t [V1.a (bG (lA (a0,a1,a2) (b0,b1,b2)).fst (lA (a0,a1,a2) (b0,b1,b2)).snd.fst (lA (a0,a1,a2) (b0,b1,b2)).snd.snd),V1.c (C.p (PV.i aA 0))]] []))))))):=by kernel_rfl
theorem pB{t:Nat}{e:Nat→Nat→PV}{i:Nat}(h:iJ t (cN e i)):[aC e i 0,aC e i 1,aC e i 2,aC e i 3,aC e i 4,aC e i 5,aC e i 6,aC e i 7,aC e i 8,aC e i 9,aC e i 10]=cN e i:=by
 rw[iQ h (by omega),iQ h (by omega),iQ h (by omega),iQ h (by omega),iQ h (by omega),iQ h (by omega),iQ h (by omega),iQ h (by omega),iQ h (by omega),iQ h (by omega),iQ h (by omega)];rfl
theorem uL{y:Int×U3}{x:Int}(h:y=(x,kM)):mX (eL (V.t [V1.a (bG 0 0 0),V1.c (C.p (PV.i .i64 x))]) (unE y)):=by
 rw[h];exact⟨eL.refl _⟩
theorem aCG(a0 a1 a2 b0 b1 b2:Int):(!(a0==b0&&(a1==b1&&(a2==b2&&true)))) = !decide (((a0,a1,a2):U3)=(b0,b1,b2)):=by
 rw[dT];simp[Prod.ext_iff]
section
variable {G:Nat→Option Obj}
theorem RQ(t:Nat):bO Tryz.prog G (aFU t):=cD (by simp;exact⟨MT t,aKS t,aI7,aN8,aDT,aKL⟩)
set_option maxRecDepth 100000 in
theorem aNH(t:Nat):dD Tryz.prog G 101 (VA t):=by
 intro args p v hm hp h;unfold VA at hm
 split at hm;rotate_left;· cases hm
 rename_i kd fu wi off k n d nm mc f bc g c e a0 a1 a2 b0 b1 b2;obtain⟨rfl,rfl⟩:=bA hm;clear hm;obtain⟨rfl,⟨s0,s1⟩,hfu,ha,hb⟩:=hp
 have k0:=pB s0.1
 have k1:=pB s1.1
 have hc:jT (.l 11 2 e) (.l 11 2 (aC e)):=jT.l fun i o hi ho=>jT.of_eq (by
  match i,hi with
  |0,_=>exact(iQ s0.1 ho).symm
  |1,_=>exact(iQ s1.1 ho).symm)
 refine lW.args (args':=[(fun c:Nat=>(.a (cF kd fu wi off k n d nm mc f bc g c (aC e)):V)) 2,.a (bG a0 a1 a2),.a (bG b0 b1 b2)]) ?_ (.cons (eL.a (xs:=[.i .i64 kd,.i .i64 fu,.i .i64 wi,.i .i64 off,.i .i64 k,.i .i64 n,.i .i64 d,.s nm,.l 3 mc f,.l 1 bc g,.l 11 2 e]) (.cons (.refl _) (.cons (.refl _) (.cons (.refl _) (.cons (.refl _) (.cons (.refl _) (.cons (.refl _) (.cons (.refl _) (.cons (.refl _) (.cons (.refl _) (.cons (.refl _) (.cons hc .nil)))))))))))) (.cons (.refl _) (.cons (.refl _) .nil)))
 have ra:(-3≤a0∧a0≤3)∧(-3≤a1∧a1≤3) ∧ -3≤a2∧a2≤3:=of_decide_eq_true ha
 have rb:(-3≤b0∧b0≤3)∧(-3≤b1∧b1≤3) ∧ -3≤b2∧b2≤3:=of_decide_eq_true hb
 have hs:=RQ (G:=G) t
 refine fR Tryz.func101 (by kernel_rfl) rfl ?_ h
 have tail:lF t (cN e 0) (cN e 1)=true→cO Tryz.prog G (bB Tryz.prog Tryz.f101) (unE (nS fu (lF t (cN e 0) (cN e 1)) (a0,a1,a2) (b0,b1,b2))) (bJ 5 (cS Tryz.prog Tryz.f101)) ((fun c:Nat=>(bU 63 [(3,.c (.ptr 0 0)),(4,.c (.ptr 1 0)),(5,.c (.ptr 2 0)),(6,.c (.ptr 3 0))] [.cells 33 (cF kd fu wi off k n d nm mc f bc g c (aC e)),.cells 57 (bG a0 a1 a2),.cells 57 (bG b0 b1 b2),.cells 57 (bG 0 0 0)]:St)) 2) (fun _ _=>False):=fun hf=>by
  rw[hf];refine cO.evH hs (aWG kd fu wi off k n d nm mc f bc g 2 e a0 a1 a2 b0 b1 b2 t) ?_;simp only[bD,aS,aI,bK,aCG,inR,beq_iff_eq,beq_eq_false_iff_ne,ne_eq,bX,bZ,decide_eq_true_eq,decide_eq_false_iff_not,true_and];unfold nS lB;rw[if_neg (by decide)];refine⟨fun f0=>⟨fun ne=>uL ?_,fun eq=>⟨?_⟩⟩,fun f0=>⟨fun f1=>⟨fun ne=>uL ?_,fun eq=>⟨?_⟩⟩,fun f1=>⟨⟨by omega,by omega,by omega⟩,fun f3=>⟨⟨by omega,by omega,by omega⟩,fun w=>uL ?_,fun w=>⟨?_⟩⟩,fun f3=>⟨fun w=>uL ?_,fun w=>⟨?_⟩⟩⟩⟩⟩
  ·rw[if_neg (by omega),if_neg (by omega),if_neg ne]
  ·rw[if_neg (by omega),if_neg (by omega),if_pos eq];exact eL.refl _
  ·rw[if_neg (by omega),if_neg (by omega),if_neg ne]
  ·rw[if_neg (by omega),if_neg (by omega),if_pos eq];exact eL.refl _
  ·rw[if_neg (by omega),if_pos f3,if_neg (by rw[show vU (jS (a0,a1,a2) (b0,b1,b2))=false from w];decide)]
  ·rw[if_neg (by omega),if_pos f3,if_pos (show vU (jS (a0,a1,a2) (b0,b1,b2))=true from w)];exact eL.refl _
  ·rw[if_pos (by omega),if_neg (by rw[show vU (lA (a0,a1,a2) (b0,b1,b2))=false from w];decide)]
  ·rw[if_pos (by omega),if_pos (show vU (lA (a0,a1,a2) (b0,b1,b2))=true from w)];exact eL.refl _
 refine cO.evG hs 5 (aWH kd fu wi off k n d nm mc f bc g 2 e a0 a1 a2 b0 b1 b2 t) ?_;simp only[bD,aS,aI,bK,aZ,k0,k1,kV,bX,bZ,decide_eq_true_eq,decide_eq_false_iff_not];refine⟨⟨fA _,by omega⟩,⟨by decide,by omega⟩,s0,fun r0=>⟨s1,fun r1=>⟨⟨s0,r0⟩,⟨s1,r1⟩,⟨⟨lV _ _ _,vB t _ ⟨s0,r0⟩⟩,lV _ _ _,vB t _ ⟨s1,r1⟩⟩,fun ne=>uL ?_,fun eq=>⟨tail ?_⟩⟩,fun r1=>⟨tail ?_⟩⟩,fun r0=>⟨tail ?_⟩⟩
 ·have hf:lF t (cN e 0) (cN e 1)=false:=by unfold lF;rw[r0,r1,decide_eq_false ne];rfl
  unfold nS;rw[if_pos hf]
 ·unfold lF;rw[decide_eq_true eq];simp
 ·unfold lF;rw[r1];simp
 ·unfold lF;rw[r0];simp
end
end Go.AE
