import Derived.Test.YtgdlaibocecehaaGreatDoorRVn
import Derived.Test.YtgdlaibocecehaaGreatDoorRVi
import Derived.Test.YtgdlaibocecehaaGreatDoorRVo
set_option linter.unusedVariables false
set_option linter.unusedSimpArgs false
namespace Go.AE
open _root_.Bool renaming not_eq_false'→bZ,not_eq_true'→bX
open _root_.Int renaming le_refl→fA,ofNat→aF,toNat→aL
open IntKind renaming i64→aA
open _root_.Nat renaming zero_le→bH
open Go.Proofs Go.Proofs.YtgdlaibocecehaaGreatDoor
theorem aSV(a b c:Int):cJ dX (dH 2 (cS Tryz.prog Tryz.f118)) (iR Tryz.f118 [.a (bG a b c)]) (cP (fO 16 [5,6]) (bB Tryz.prog Tryz.f118))=Tr.done X.normal
 (bU 16 [(5,.a (bG a b c)),(6,.c (.p (.i .i64 0)))] []):=by kernel_rfl
theorem aSU(a b c:Int)(i:Nat):cJ dX (jZ (cS Tryz.prog Tryz.f118) 2) (bU 16 [(5,.a (bG a b c)),(6,iV (i:Nat))] []) (cP (fO 16 [5,6]) (bB Tryz.prog Tryz.f118))=bT (decide ((↑i:Int)<3))
 (.rq (0≤(↑i:Int)∧(↑i:Int)<(↑3:Int))
 (bT (decide ((↑i:Int)=(↑0:Int)))
 (bT (decide (a < -3)) (.done .ret (St.mk [V.c (C.p (PV.b false))] []))
 (bT (decide (3<a)) (.done .ret (St.mk [V.c (C.p (PV.b false))] []))
 (.rq (inR aA ((↑i:Int)+1))
 (.done .normal
 (bU 16 [(5,.a (bG a b c)),(6,.c (.p (.i .i64 ((↑i:Int)+1))))] [])))))
 (bT (decide ((↑i:Int)=(↑1:Int)))
 (bT (decide (b < -3)) (.done .ret (St.mk [V.c (C.p (PV.b false))] []))
 (bT (decide (3<b)) (.done .ret (St.mk [V.c (C.p (PV.b false))] []))
 (.rq (inR aA ((↑i:Int)+1))
 (.done .normal
 (bU 16 [(5,.a (bG a b c)),(6,.c (.p (.i .i64 ((↑i:Int)+1))))] [])))))
 (bT (decide (c < -3)) (.done .ret (St.mk [V.c (C.p (PV.b false))] []))
 (bT (decide (3<c)) (.done .ret (St.mk [V.c (C.p (PV.b false))] []))
 (.rq (inR aA ((↑i:Int)+1))
 (.done .normal
 (bU 16 [(5,.a (bG a b c)),(6,.c (.p (.i .i64 ((↑i:Int)+1))))] []))))))))
 (.done (.exit 0)
 (bU 16 [(5,.a (bG a b c)),(6,.c (.p (.i .i64 (↑i:Int))))] [])):=by kernel_rfl
theorem aST(a b c:Int)(i:Nat):cJ dX (bJ 3 (cS Tryz.prog Tryz.f118)) (bU 16 [(5,.a (bG a b c)),(6,iV (i:Nat))] []) (cP [] (bB Tryz.prog Tryz.f118))=Tr.done X.ret (St.mk [V.c (C.p (PV.b true))] []):=by kernel_rfl
theorem aV0(a0 a1 a2 b0 b1 b2:Int):cJ dX (dH 2 (cS Tryz.prog Tryz.f121)) (iR Tryz.f121 [.a (bG a0 a1 a2),.a (bG b0 b1 b2)]) (cP (fO 19 [2,3,4,6]) (bB Tryz.prog Tryz.f121))=Tr.done X.normal
 (bU 19 [(2,.c (.ptr 0 0)),(3,.c (.ptr 1 0)),(4,.c (.ptr 2 0)),(6,.c (.p (.i .i64 0)))] [.cells 57 (bG a0 a1 a2),.cells 57 (bG b0 b1 b2),.cells 57 (bG 0 0 0)]):=by kernel_rfl
theorem aUY(a0 a1 a2 b0 b1 b2:Int):cJ dX (jZ (cS Tryz.prog Tryz.f121) 2) (bU 19 [(2,.c (.ptr 0 0)),(3,.c (.ptr 1 0)),(4,.c (.ptr 2 0)),(6,iV 0)] [.cells 57 (bG a0 a1 a2),.cells 57 (bG b0 b1 b2),.cells 57 (bG 0 0 0)]) (cP (fO 19 [2,3,4,6]) (bB Tryz.prog Tryz.f121))=Tr.rq (aF 0≤aF 0∧0<(↑3:Int))
 (.rq (aF 0≤aF 0∧0<(↑3:Int))
 (.rq (inR aA (a0+b0))
 (.rq (aF 0≤aF 0∧0<(↑3:Int))
 (.rq (inR aA 1)
 (.done .normal
 (bU 19 [(2,.c (.ptr 0 0)),(3,.c (.ptr 1 0)),(4,.c (.ptr 2 0)),(6,.c (.p (.i .i64 1)))] [.cells 57 (bG (a0+b0) a1 a2),.cells 57 (bG b0 b1 b2),.cells 57 (bG 0 0 0)])))))):=by kernel_rfl
theorem aUX(a0 a1 a2 b0 b1 b2:Int):cJ dX (jZ (cS Tryz.prog Tryz.f121) 2) (bU 19 [(2,.c (.ptr 0 0)),(3,.c (.ptr 1 0)),(4,.c (.ptr 2 0)),(6,iV 1)] [.cells 57 (bG a0 a1 a2),.cells 57 (bG b0 b1 b2),.cells 57 (bG 0 0 0)]) (cP (fO 19 [2,3,4,6]) (bB Tryz.prog Tryz.f121))=Tr.rq (aF 0≤aF 1∧1<(↑3:Int))
 (.rq (aF 0≤aF 1∧1<(↑3:Int))
 (.rq (inR aA (a1+b1))
 (.rq (aF 0≤aF 1∧1<(↑3:Int))
 (.rq (inR aA (1+1))
 (.done .normal
 (bU 19 [(2,.c (.ptr 0 0)),(3,.c (.ptr 1 0)),(4,.c (.ptr 2 0)),(6,.c (.p (.i .i64 (1+1))))] [.cells 57 (bG a0 (a1+b1) a2),.cells 57 (bG b0 b1 b2),.cells 57 (bG 0 0 0)])))))):=by kernel_rfl
theorem aUW(a0 a1 a2 b0 b1 b2:Int):cJ dX (jZ (cS Tryz.prog Tryz.f121) 2) (bU 19 [(2,.c (.ptr 0 0)),(3,.c (.ptr 1 0)),(4,.c (.ptr 2 0)),(6,iV 2)] [.cells 57 (bG a0 a1 a2),.cells 57 (bG b0 b1 b2),.cells 57 (bG 0 0 0)]) (cP (fO 19 [2,3,4,6]) (bB Tryz.prog Tryz.f121))=Tr.rq (aF 0≤aF 2∧2<(↑3:Int))
 (.rq (aF 0≤aF 2∧2<(↑3:Int))
 (.rq (inR aA (a2+b2))
 (.rq (aF 0≤aF 2∧2<(↑3:Int))
 (.rq (inR aA (2+1))
 (.done .normal
 (bU 19 [(2,.c (.ptr 0 0)),(3,.c (.ptr 1 0)),(4,.c (.ptr 2 0)),(6,.c (.p (.i .i64 (2+1))))] [.cells 57 (bG a0 a1 (a2+b2)),.cells 57 (bG b0 b1 b2),.cells 57 (bG 0 0 0)])))))):=by kernel_rfl
theorem aUV(a0 a1 a2 b0 b1 b2:Int):cJ dX (jZ (cS Tryz.prog Tryz.f121) 2) (bU 19 [(2,.c (.ptr 0 0)),(3,.c (.ptr 1 0)),(4,.c (.ptr 2 0)),(6,iV 3)] [.cells 57 (bG a0 a1 a2),.cells 57 (bG b0 b1 b2),.cells 57 (bG 0 0 0)]) (cP (fO 19 [2,3,4,6]) (bB Tryz.prog Tryz.f121))=Tr.done (X.exit 0)
 (bU 19 [(2,.c (.ptr 0 0)),(3,.c (.ptr 1 0)),(4,.c (.ptr 2 0)),(6,.c (.p (.i .i64 3)))] [.cells 57 (bG a0 a1 a2),.cells 57 (bG b0 b1 b2),.cells 57 (bG 0 0 0)]):=by kernel_rfl
theorem aUZ(a0 a1 a2 b0 b1 b2:Int):cJ dX (bJ 3 (cS Tryz.prog Tryz.f121)) (bU 19 [(2,.c (.ptr 0 0)),(3,.c (.ptr 1 0)),(4,.c (.ptr 2 0)),(6,iV 3)] [.cells 57 (bG a0 a1 a2),.cells 57 (bG b0 b1 b2),.cells 57 (bG 0 0 0)]) (cP [] (bB Tryz.prog Tryz.f121))=Tr.done X.ret (St.mk [V.a (bG a0 a1 a2)] []):=by kernel_rfl
theorem aW5(a0 a1 a2 b0 b1 b2:Int):cJ dX (dH 2 (cS Tryz.prog Tryz.f122)) (iR Tryz.f122 [.a (bG a0 a1 a2),.a (bG b0 b1 b2)]) (cP (fO 19 [2,3,4,6]) (bB Tryz.prog Tryz.f122))=Tr.done X.normal
 (bU 19 [(2,.c (.ptr 0 0)),(3,.c (.ptr 1 0)),(4,.c (.ptr 2 0)),(6,.c (.p (.i .i64 0)))] [.cells 57 (bG a0 a1 a2),.cells 57 (bG b0 b1 b2),.cells 57 (bG 0 0 0)]):=by kernel_rfl
theorem aW3(a0 a1 a2 b0 b1 b2:Int):cJ dX (jZ (cS Tryz.prog Tryz.f122) 2) (bU 19 [(2,.c (.ptr 0 0)),(3,.c (.ptr 1 0)),(4,.c (.ptr 2 0)),(6,iV 0)] [.cells 57 (bG a0 a1 a2),.cells 57 (bG b0 b1 b2),.cells 57 (bG 0 0 0)]) (cP (fO 19 [2,3,4,6]) (bB Tryz.prog Tryz.f122))=Tr.rq (aF 0≤aF 0∧0<(↑3:Int))
 (.rq (aF 0≤aF 0∧0<(↑3:Int))
 (.rq (inR aA (a0-b0))
 (.rq (aF 0≤aF 0∧0<(↑3:Int))
 (.rq (inR aA 1)
 (.done .normal
 (bU 19 [(2,.c (.ptr 0 0)),(3,.c (.ptr 1 0)),(4,.c (.ptr 2 0)),(6,.c (.p (.i .i64 1)))] [.cells 57 (bG (a0-b0) a1 a2),.cells 57 (bG b0 b1 b2),.cells 57 (bG 0 0 0)])))))):=by kernel_rfl
theorem aW2(a0 a1 a2 b0 b1 b2:Int):cJ dX (jZ (cS Tryz.prog Tryz.f122) 2) (bU 19 [(2,.c (.ptr 0 0)),(3,.c (.ptr 1 0)),(4,.c (.ptr 2 0)),(6,iV 1)] [.cells 57 (bG a0 a1 a2),.cells 57 (bG b0 b1 b2),.cells 57 (bG 0 0 0)]) (cP (fO 19 [2,3,4,6]) (bB Tryz.prog Tryz.f122))=Tr.rq (aF 0≤aF 1∧1<(↑3:Int))
 (.rq (aF 0≤aF 1∧1<(↑3:Int))
 (.rq (inR aA (a1-b1))
 (.rq (aF 0≤aF 1∧1<(↑3:Int))
 (.rq (inR aA (1+1))
 (.done .normal
 (bU 19 [(2,.c (.ptr 0 0)),(3,.c (.ptr 1 0)),(4,.c (.ptr 2 0)),(6,.c (.p (.i .i64 (1+1))))] [.cells 57 (bG a0 (a1-b1) a2),.cells 57 (bG b0 b1 b2),.cells 57 (bG 0 0 0)])))))):=by kernel_rfl
theorem aW1(a0 a1 a2 b0 b1 b2:Int):cJ dX (jZ (cS Tryz.prog Tryz.f122) 2) (bU 19 [(2,.c (.ptr 0 0)),(3,.c (.ptr 1 0)),(4,.c (.ptr 2 0)),(6,iV 2)] [.cells 57 (bG a0 a1 a2),.cells 57 (bG b0 b1 b2),.cells 57 (bG 0 0 0)]) (cP (fO 19 [2,3,4,6]) (bB Tryz.prog Tryz.f122))=Tr.rq (aF 0≤aF 2∧2<(↑3:Int))
 (.rq (aF 0≤aF 2∧2<(↑3:Int))
 (.rq (inR aA (a2-b2))
 (.rq (aF 0≤aF 2∧2<(↑3:Int))
 (.rq (inR aA (2+1))
 (.done .normal
 (bU 19 [(2,.c (.ptr 0 0)),(3,.c (.ptr 1 0)),(4,.c (.ptr 2 0)),(6,.c (.p (.i .i64 (2+1))))] [.cells 57 (bG a0 a1 (a2-b2)),.cells 57 (bG b0 b1 b2),.cells 57 (bG 0 0 0)])))))):=by kernel_rfl
theorem aW0(a0 a1 a2 b0 b1 b2:Int):cJ dX (jZ (cS Tryz.prog Tryz.f122) 2) (bU 19 [(2,.c (.ptr 0 0)),(3,.c (.ptr 1 0)),(4,.c (.ptr 2 0)),(6,iV 3)] [.cells 57 (bG a0 a1 a2),.cells 57 (bG b0 b1 b2),.cells 57 (bG 0 0 0)]) (cP (fO 19 [2,3,4,6]) (bB Tryz.prog Tryz.f122))=Tr.done (X.exit 0)
 (bU 19 [(2,.c (.ptr 0 0)),(3,.c (.ptr 1 0)),(4,.c (.ptr 2 0)),(6,.c (.p (.i .i64 3)))] [.cells 57 (bG a0 a1 a2),.cells 57 (bG b0 b1 b2),.cells 57 (bG 0 0 0)]):=by kernel_rfl
theorem aW4(a0 a1 a2 b0 b1 b2:Int):cJ dX (bJ 3 (cS Tryz.prog Tryz.f122)) (bU 19 [(2,.c (.ptr 0 0)),(3,.c (.ptr 1 0)),(4,.c (.ptr 2 0)),(6,iV 3)] [.cells 57 (bG a0 a1 a2),.cells 57 (bG b0 b1 b2),.cells 57 (bG 0 0 0)]) (cP [] (bB Tryz.prog Tryz.f122))=Tr.done X.ret (St.mk [V.a (bG a0 a1 a2)] []):=by kernel_rfl
section
variable {G:Nat→Option Obj}
set_option maxRecDepth 100000 in
theorem aKM:dD Tryz.prog G 118 mVU:=by
 intro args p v hm hp h;unfold mVU at hm
 split at hm;rotate_left;· cases hm
 rename_i a b c;obtain⟨rfl,rfl⟩:=bA hm;clear hm
 refine fR Tryz.func118 (by kernel_rfl) rfl ?_ h
 refine cO.evG aT 2 (aSV a b c) ?_;simp only[aI,aZ];refine⟨?_⟩
 refine cO.loop' (l:=bJ 2 (cS Tryz.prog Tryz.f118)) (b:=inr (inr (bN .skip (cS Tryz.prog Tryz.f118) 2))) (r:=bJ 3 (cS Tryz.prog Tryz.f118)) (id:=0) (by kernel_rfl) (σ:=Nat)
   (fun i=>bU 16 [(5,.a (bG a b c)),(6,iV (i:Nat))] []) (fun i=>i≤3∧(0<i → -3≤a∧a≤3)∧(1<i → -3≤b∧b≤3)∧(2<i → -3≤c∧c≤3)) (fun i=>3-i) 0 ⟨by omega,by omega,by omega,by omega⟩ (aP (by kernel_rfl)) ?_
 rintro i ⟨hi,h0,h1,h2⟩ Q1 q1n q1e -;refine cO.evH aT (aSU a b c i) ?_
 have bad:¬((-3≤a∧a≤3)∧(-3≤b∧b≤3) ∧ -3≤c∧c≤3)→mX (eL (V.c (C.p (PV.b false))) (bV (vU (a,b,c)))):=fun hb=>pC (by
  unfold vU;rw[decide_eq_false hb])
 simp only[bD,aS,aI,bK,aZ,fE,decide_eq_true_eq,decide_eq_false_iff_not,inR]
 have nx:(i+1≤3∧(0<i+1 → -3≤a∧a≤3)∧(1<i+1 → -3≤b∧b≤3)∧(2<i+1 → -3≤c∧c≤3))→mX (Q1 .normal ((fun i:Nat=>bU 16 [(5,.a (bG a b c)),(6,iV (i:Nat))] []) (i+1))):=fun hx=>⟨q1n (i+1) _ hx (show 3-(i+1)<3-i by omega) (aP (by kernel_rfl))⟩
 have en:¬((i:Int)<3)→mX (Q1 (.exit 0) ((fun i:Nat=>bU 16 [(5,.a (bG a b c)),(6,iV (i:Nat))] []) i)):=fun hx=>⟨q1e _ (by
  obtain rfl:i=3:=by omega
  refine cO.evH aT (aST a b c 3) ?_;simp only[aI,bK];refine⟨?_⟩;unfold vU;rw[decide_eq_true (show ((-3≤a∧a≤3)∧(-3≤b∧b≤3) ∧ -3≤c∧c≤3) from⟨h0 (by omega),h1 (by omega),h2 (by omega)⟩)]
  exact eL.refl _)⟩
 repeat' (first|apply And.intro|intro _)
 all_goals first|(clear bad nx en;omega)|exact en ‹_› | exact bad (by clear bad nx en;omega)|exact nx (by clear bad nx en;omega)
def ZY(x y:U3):Nat→U3
 |0=>x
 |1=>(y.1,x.2.1,x.2.2)
 |2=>(y.1,y.2.1,x.2.2)
 |_=>y
set_option maxRecDepth 100000 in
theorem aN9:dD Tryz.prog G 121 JW:=by
 intro args p v hm hp h;unfold JW at hm
 split at hm;rotate_left;· cases hm
 rename_i a0 a1 a2 b0 b1 b2;obtain⟨rfl,rfl⟩:=bA hm;clear hm;obtain⟨p0,p1,p2⟩:=hp
 refine fR Tryz.func121 (by kernel_rfl) rfl ?_ h
 refine cO.evG aT 2 (aV0 a0 a1 a2 b0 b1 b2) ?_;simp only[aI,aZ];refine⟨?_⟩
 refine cO.loop' (l:=bJ 2 (cS Tryz.prog Tryz.f121)) (b:=inr (inr (bN .skip (cS Tryz.prog Tryz.f121) 2))) (r:=bJ 3 (cS Tryz.prog Tryz.f121)) (id:=0) (by kernel_rfl) (σ:=Nat)
   (fun i=>(fun(a0 a1 a2:Int) (i:Int)=>bU 19 [(2,.c (.ptr 0 0)),(3,.c (.ptr 1 0)),(4,.c (.ptr 2 0)),(6,iV i)] [.cells 57 (bG a0 a1 a2),.cells 57 (bG b0 b1 b2),.cells 57 (bG 0 0 0)]) (ZY (a0,a1,a2) (lA (a0,a1,a2) (b0,b1,b2)) i).1 (ZY (a0,a1,a2) (lA (a0,a1,a2) (b0,b1,b2)) i).2.1 (ZY (a0,a1,a2) (lA (a0,a1,a2) (b0,b1,b2)) i).2.2 (i:Int)) (fun i=>i≤3) (fun i=>3-i) 0 (by omega) (aP (by kernel_rfl)) ?_
 rintro i hi Q1 q1n q1e -
 have n0:aF 0≤aF 0∧(0:Int)<3:=⟨by decide,by decide⟩
 have n1:aF 0≤aF 1∧(1:Int)<3:=⟨by decide,by decide⟩
 have n2:aF 0≤aF 2∧(2:Int)<3:=⟨by decide,by decide⟩
 match i,hi with
 |0,_=>
  refine cO.pre (aP (st':=(fun(a0 a1 a2:Int) (i:Int)=>bU 19 [(2,.c (.ptr 0 0)),(3,.c (.ptr 1 0)),(4,.c (.ptr 2 0)),(6,iV i)] [.cells 57 (bG a0 a1 a2),.cells 57 (bG b0 b1 b2),.cells 57 (bG 0 0 0)]) a0 a1 a2 0) (by kernel_rfl)) (cO.evH aT (aUY a0 a1 a2 b0 b1 b2) ?_)
  simp only[aS,aI,aZ]
  exact⟨n0,n0,p0,n0,by simp only[inR];omega,⟨q1n 1 _ (by decide) (by decide) (aP (by kernel_rfl))⟩⟩
 |1,_=>
  refine cO.pre (aP (st':=(fun(a0 a1 a2:Int) (i:Int)=>bU 19 [(2,.c (.ptr 0 0)),(3,.c (.ptr 1 0)),(4,.c (.ptr 2 0)),(6,iV i)] [.cells 57 (bG a0 a1 a2),.cells 57 (bG b0 b1 b2),.cells 57 (bG 0 0 0)]) (lA (a0,a1,a2) (b0,b1,b2)).1 a1 a2 1) (by kernel_rfl)) (cO.evH aT (aUX (lA (a0,a1,a2) (b0,b1,b2)).1 a1 a2 b0 b1 b2) ?_)
  simp only[aS,aI,aZ]
  exact⟨n1,n1,p1,n1,by simp only[inR];omega,⟨q1n 2 _ (by decide) (by decide) (aP (by kernel_rfl))⟩⟩
 |2,_=>
  refine cO.pre (aP (st':=(fun(a0 a1 a2:Int) (i:Int)=>bU 19 [(2,.c (.ptr 0 0)),(3,.c (.ptr 1 0)),(4,.c (.ptr 2 0)),(6,iV i)] [.cells 57 (bG a0 a1 a2),.cells 57 (bG b0 b1 b2),.cells 57 (bG 0 0 0)]) (lA (a0,a1,a2) (b0,b1,b2)).1 (lA (a0,a1,a2) (b0,b1,b2)).2.1 a2 2) (by kernel_rfl)) (cO.evH aT (aUW (lA (a0,a1,a2) (b0,b1,b2)).1 (lA (a0,a1,a2) (b0,b1,b2)).2.1 a2 b0 b1 b2) ?_)
  simp only[aS,aI,aZ]
  exact⟨n2,n2,p2,n2,by simp only[inR];omega,⟨q1n 3 _ (by decide) (by decide) (aP (by kernel_rfl))⟩⟩
 |3,_=>
  refine cO.pre (aP (st':=(fun(a0 a1 a2:Int) (i:Int)=>bU 19 [(2,.c (.ptr 0 0)),(3,.c (.ptr 1 0)),(4,.c (.ptr 2 0)),(6,iV i)] [.cells 57 (bG a0 a1 a2),.cells 57 (bG b0 b1 b2),.cells 57 (bG 0 0 0)]) (lA (a0,a1,a2) (b0,b1,b2)).1 (lA (a0,a1,a2) (b0,b1,b2)).2.1 (lA (a0,a1,a2) (b0,b1,b2)).2.2 3) (by kernel_rfl)) (cO.evH aT (aUV _ _ _ b0 b1 b2) ?_)
  simp only[aI,fE];refine⟨q1e _ ?_⟩;refine cO.evH aT (aUZ _ _ _ b0 b1 b2) ?_;simp only[aI,bK];exact⟨eL.refl _⟩
set_option maxRecDepth 100000 in
theorem aNG:dD Tryz.prog G 122 FO:=by
 intro args p v hm hp h;unfold FO at hm
 split at hm;rotate_left;· cases hm
 rename_i a0 a1 a2 b0 b1 b2;obtain⟨rfl,rfl⟩:=bA hm;clear hm;obtain⟨p0,p1,p2⟩:=hp
 refine fR Tryz.func122 (by kernel_rfl) rfl ?_ h
 refine cO.evG aT 2 (aW5 a0 a1 a2 b0 b1 b2) ?_;simp only[aI,aZ];refine⟨?_⟩
 refine cO.loop' (l:=bJ 2 (cS Tryz.prog Tryz.f122)) (b:=inr (inr (bN .skip (cS Tryz.prog Tryz.f122) 2))) (r:=bJ 3 (cS Tryz.prog Tryz.f122)) (id:=0) (by kernel_rfl) (σ:=Nat)
   (fun i=>(fun(a0 a1 a2:Int) (i:Int)=>bU 19 [(2,.c (.ptr 0 0)),(3,.c (.ptr 1 0)),(4,.c (.ptr 2 0)),(6,iV i)] [.cells 57 (bG a0 a1 a2),.cells 57 (bG b0 b1 b2),.cells 57 (bG 0 0 0)]) (ZY (a0,a1,a2) (jS (a0,a1,a2) (b0,b1,b2)) i).1 (ZY (a0,a1,a2) (jS (a0,a1,a2) (b0,b1,b2)) i).2.1 (ZY (a0,a1,a2) (jS (a0,a1,a2) (b0,b1,b2)) i).2.2 (i:Int)) (fun i=>i≤3) (fun i=>3-i) 0 (by omega) (aP (by kernel_rfl)) ?_
 rintro i hi Q1 q1n q1e -
 have n0:aF 0≤aF 0∧(0:Int)<3:=⟨by decide,by decide⟩
 have n1:aF 0≤aF 1∧(1:Int)<3:=⟨by decide,by decide⟩
 have n2:aF 0≤aF 2∧(2:Int)<3:=⟨by decide,by decide⟩
 match i,hi with
 |0,_=>
  refine cO.pre (aP (st':=(fun(a0 a1 a2:Int) (i:Int)=>bU 19 [(2,.c (.ptr 0 0)),(3,.c (.ptr 1 0)),(4,.c (.ptr 2 0)),(6,iV i)] [.cells 57 (bG a0 a1 a2),.cells 57 (bG b0 b1 b2),.cells 57 (bG 0 0 0)]) a0 a1 a2 0) (by kernel_rfl)) (cO.evH aT (aW3 a0 a1 a2 b0 b1 b2) ?_)
  simp only[aS,aI,aZ]
  exact⟨n0,n0,p0,n0,by simp only[inR];omega,⟨q1n 1 _ (by decide) (by decide) (aP (by kernel_rfl))⟩⟩
 |1,_=>
  refine cO.pre (aP (st':=(fun(a0 a1 a2:Int) (i:Int)=>bU 19 [(2,.c (.ptr 0 0)),(3,.c (.ptr 1 0)),(4,.c (.ptr 2 0)),(6,iV i)] [.cells 57 (bG a0 a1 a2),.cells 57 (bG b0 b1 b2),.cells 57 (bG 0 0 0)]) (jS (a0,a1,a2) (b0,b1,b2)).1 a1 a2 1) (by kernel_rfl)) (cO.evH aT (aW2 (jS (a0,a1,a2) (b0,b1,b2)).1 a1 a2 b0 b1 b2) ?_)
  simp only[aS,aI,aZ]
  exact⟨n1,n1,p1,n1,by simp only[inR];omega,⟨q1n 2 _ (by decide) (by decide) (aP (by kernel_rfl))⟩⟩
 |2,_=>
  refine cO.pre (aP (st':=(fun(a0 a1 a2:Int) (i:Int)=>bU 19 [(2,.c (.ptr 0 0)),(3,.c (.ptr 1 0)),(4,.c (.ptr 2 0)),(6,iV i)] [.cells 57 (bG a0 a1 a2),.cells 57 (bG b0 b1 b2),.cells 57 (bG 0 0 0)]) (jS (a0,a1,a2) (b0,b1,b2)).1 (jS (a0,a1,a2) (b0,b1,b2)).2.1 a2 2) (by kernel_rfl)) (cO.evH aT (aW1 (jS (a0,a1,a2) (b0,b1,b2)).1 (jS (a0,a1,a2) (b0,b1,b2)).2.1 a2 b0 b1 b2) ?_)
  simp only[aS,aI,aZ]
  exact⟨n2,n2,p2,n2,by simp only[inR];omega,⟨q1n 3 _ (by decide) (by decide) (aP (by kernel_rfl))⟩⟩
 |3,_=>
  refine cO.pre (aP (st':=(fun(a0 a1 a2:Int) (i:Int)=>bU 19 [(2,.c (.ptr 0 0)),(3,.c (.ptr 1 0)),(4,.c (.ptr 2 0)),(6,iV i)] [.cells 57 (bG a0 a1 a2),.cells 57 (bG b0 b1 b2),.cells 57 (bG 0 0 0)]) (jS (a0,a1,a2) (b0,b1,b2)).1 (jS (a0,a1,a2) (b0,b1,b2)).2.1 (jS (a0,a1,a2) (b0,b1,b2)).2.2 3) (by kernel_rfl)) (cO.evH aT (aW0 _ _ _ b0 b1 b2) ?_)
  simp only[aI,fE];refine⟨q1e _ ?_⟩;refine cO.evH aT (aW4 _ _ _ b0 b1 b2) ?_;simp only[aI,bK];exact⟨eL.refl _⟩
end
def tG(D:List De)(er:Int):AO:=.cells 124 [.p (.l 12 D.length (aJ bQ D)),.p (.i .i64 er)]
def OS(D:List De)(ty n:Nat)(f:Nat→Nat→PV)(er:Int):Prop:=ty=124∧n=D.length∧f=aJ bQ D∧er=0
theorem lX(D:List De):OS D 124 D.length (aJ bQ D) 0:=⟨rfl,rfl,rfl,rfl⟩
def aO6(D:List De)(j:Nat)(h:List AO):Option Prop:=match bN .gone h j with
 |.cells ty [.p (.l 12 n f),.p (.i .i64 er)]=>some (OS D ty n f er)
 |_=>none
theorem YR{D:List De}{j:Nat}{h:List AO}{q:Prop}(he:aO6 D j h=some q)(hq:q):bN .gone h j=tG D 0:=by
 unfold aO6 at he
 split at he;rotate_left;· cases he
 rename_i ty n f er hj;injection he with he;subst he;obtain⟨rfl,rfl,rfl,rfl⟩:=hq;exact hj
theorem aPL(j:Nat):Nat.beq j j=true:=Nat.beq_refl j
def unp(h:List AO)(j:Nat):Nat:=match bN .gone h j with
 |.pin i _=>i
 |_=>j
theorem aKA{P:Program}{G:Nat→Option Obj}{f:FuncId}{q off:Nat}{args:List V}{h:List AO}{K:V→List AO→Prop}(hf:lW P G f (.c (.ptr (unp h q) off)::args) h K):lW P G f (.c (.ptr q off)::args) h K:=by
 unfold unp at hf;split at hf
 ·rename_i j b0 hq
  intro β R w vs ha hh;refine hf β R w vs ?_ hh
  generalize vs.toList=us at ha
  cases us with
  |nil=>exact ha.elim
  |cons u us=>
   obtain⟨h1,h2⟩:=ha;obtain⟨b,o,e1,e2⟩:=h1
   have hob:=hh.obj q b o e1
   rw[hq]at hob;obtain⟨e3,o2,e4⟩:=hob;subst e3;exact⟨⟨_,o2,e4,e2⟩,h2⟩
 ·exact hf
def JV(D:List De)(A:List V→Option (Prop×Int×U3)):SQ:=fun args h=>match args with
 |.c (.ptr q 0)::rest=>match aO6 D (unp h q) h with
  |some p=>match A rest with
   |some (p2,x)=>some (p∧p2,CM x.2,oF [unp h q] [unp h q] [1] h [.pin 1 0,tG D x.1])
   |none=>none
  |none=>none
 |_=>none
section
variable {G:Nat→Option Obj}
set_option maxRecDepth 100000 in
theorem aKC{f:FuncId}{fn:Func}(hf:(Tryz.prog).funcs[f]?=some fn)(hok:okF Tryz.prog fn=true){args:List V}{D:List De}{x:Int×U3}{h:List AO}{j:Nat}(hj:bN .gone h j=tG D 0)(hargs:xY [j] [j] 1 args=xY [0] [0] 1 args)
  (H:∀b,jM Tryz.prog G (Zm [0] (bB Tryz.prog fn) fun s=>cW G s ⟨[.c (.ptr 0 0)]++[CM x.2],[.pin 1 b,tG D x.1]⟩) (cS Tryz.prog fn) (rF fn [0] [0] [b] (.c (.ptr 0 0)::args) [tG D 0]) fun e s=>e=.normal∧Zm [0] (bB Tryz.prog fn) (fun s=>cW G s ⟨[.c (.ptr 0 0)]++[CM x.2],[.pin 1 b,tG D x.1]⟩) s) :
  lW Tryz.prog G f (.c (.ptr j 0)::args) h fun v h'=>v=CM x.2∧h'=oF [j] [j] [1] h [.pin 1 0,tG D x.1]:=by
 refine fun β R w us hw hh=>(aFM (ρ:=[j]) (ids:=[j]) (ps:=[0]) (pns:=[0]) (js:=[1]) (sl:=[.c (.ptr 0 0)]) (vs:=[CM x.2]) (hE:=fun bs=>[.pin 1 (bN 0 bs 0),tG D x.1]) hf hok ?_ ?_ (by simp) (by simp) rfl rfl rfl (fun i pn h=>?_) (fun bs hb i pn j b h1 h2 h3=>?_) (fun bs hb=>?_) β R w us hw hh).mono ?_
 ·rfl
 ·simp[sK,hj,tG,AO.live]
 ·cases i with
  |zero=>obtain rfl:0=pn:=by simpa using h
         exact⟨0,by simp⟩
  |succ i=>simp at h
 ·cases i with
  |zero=>
   obtain rfl:0=pn:=by simpa using h1
   obtain rfl:1=j:=by simpa using h2
   cases bs with
   |nil=>simp at hb
   |cons b0 bs=>
    obtain rfl:b0=b:=by simpa using h3
    exact⟨rfl,rfl⟩
  |succ i=>simp at h1
 ·obtain⟨bb,rfl⟩:∃b,bs=[b]:=by
    cases bs with
    |nil=>simp at hb
    |cons b0 bs=>cases bs with
     |nil=>exact⟨b0,rfl⟩
     |cons _ _=>simp at hb
  have i1:kA j [j] 0=some 0:=by simp only[kA,aPL]
  have e:rF fn [j] [j] [bb] (.c (.ptr j 0)::args) h=rF fn [0] [0] [bb] (.c (.ptr 0 0)::args) [tG D 0]:=by
   unfold rF inH
   have e1:xY [j] [j] ([j]:List Nat).length (.c (.ptr j 0)::args)=xY [0] [0] ([0]:List Nat).length (.c (.ptr 0 0)::args):=by
    show aJ9 [j] [j] 1 (.c (.ptr j 0))::xY [j] [j] 1 args=aJ9 [0] [0] 1 (.c (.ptr 0 0))::xY [0] [0] 1 args
    rw[hargs];congr 1;simp only[aJ9,VO,i1];rfl
   have e2:oE [j] h [j]=oE [0] [tG D 0] [0]:=by
    simp only[oE,hj,tG,aA9,xI,fG];rfl
   have e3:DN [j] [j] [bb]=DN [0] [0] [bb]:=by
    simp only[DN,i1];rfl
   rw[e1,e2,e3];rfl
  rw[e];exact H bb
 ·rintro e w' ⟨u,β',R',x',h',rfl,⟨bs,hb,hx,hh'⟩,hr⟩
  refine⟨u,β',R',x',h',rfl,⟨hx.trans rfl,hh'.trans ?_⟩,hr⟩;unfold oF
  have e:MQ [j] [j] [1] (fK h) [.pin 1 (bN 0 bs 0),tG D x.1]=MQ [j] [j] [1] (fK h) [.pin 1 0,tG D x.1]:=by
   funext i y;unfold MQ FP;cases Nat.beq j i<;>rfl
  rw[e];rfl
theorem uM{p q:Prop}{x y:Int×U3}(e:some (p,x)=some (q,y)):p=q∧x=y:=by
 injection e with e;injection e with e1 e2;exact⟨e1,e2⟩
theorem NA{f:FuncId}{fn:Func}(hf:(Tryz.prog).funcs[f]?=some fn)(hok:okF Tryz.prog fn=true){D:List De}{A:List V→Option (Prop×Int×U3)}
  (H:∀(rest:List V) (p2:Prop) (x:Int×U3),A rest=some (p2,x)→p2→(∀j,xY [j] [j] 1 rest=xY [0] [0] 1 rest)∧∀b,jM Tryz.prog G (Zm [0] (bB Tryz.prog fn) fun s=>cW G s ⟨[.c (.ptr 0 0)]++[CM x.2],[.pin 1 b,tG D x.1]⟩) (cS Tryz.prog fn) (rF fn [0] [0] [b] (.c (.ptr 0 0)::rest) [tG D 0]) fun e s=>e=.normal∧Zm [0] (bB Tryz.prog fn) (fun s=>cW G s ⟨[.c (.ptr 0 0)]++[CM x.2],[.pin 1 b,tG D x.1]⟩) s) :
  lH Tryz.prog G f (JV D A):=by
 intro args h p v h' hm hp;unfold JV at hm
 split at hm;rotate_left;· cases hm
 rename_i q rest
 split at hm;rotate_left;· cases hm
 rename_i p1 hw
 split at hm;rotate_left;· cases hm
 rename_i p2 x hA;obtain⟨rfl,rfl,rfl⟩:=pG hm;obtain⟨hp1,hp2⟩:=hp;obtain⟨h1,h2⟩:=H rest p2 x hA hp2;exact aKA (aKC hf hok (YR hw hp1) (h1 _) h2)
end
def KN:List V→Option (Prop×Int×U3)
 |[.c (.p (.i .i64 er))]=>some (True,(er,kM))
 |_=>none
def aJ1:List V→Option (Prop×Int×U3)
 |[.a [.p (.i .i64 a),.p (.i .i64 b),.p (.i .i64 c)]]=>some (True,lB (a,b,c))
 |_=>none
def aLL(D:List De):Ext:=yB [(118,sY mVU),(98,JV D KN)]
theorem tFl(D:List De)(er:Int)(b:Nat):cJ dX (cS Tryz.prog Tryz.f98) (rF Tryz.f98 [0] [0] [b] [.c (.ptr 0 0),iV er] [.cells 124 [.p (.l 12 D.length (aJ bQ D)),.p (.i .i64 0)]]) (pW [0] (fO 15 [0]) (bB Tryz.prog Tryz.f98))=Tr.done X.ret
 (bU 2 [(0,.c (.ptr 0 0)),(1,.a (bG 0 0 0))] [.pin 1 b,.cells 124 [.p (.l 12 D.length (aJ bQ D)),.p (.i .i64 er)]]):=by kernel_rfl
theorem tLm(D:List De)(u0 u1 u2:Int)(b:Nat):cJ (aLL D) (cS Tryz.prog Tryz.f119) (rF Tryz.f119 [0] [0] [b] [.c (.ptr 0 0),.a (bG u0 u1 u2)] [.cells 124 [.p (.l 12 D.length (aJ bQ D)),.p (.i .i64 0)]]) (pW [0] (fO 11 [0]) (bB Tryz.prog Tryz.f119))=Tr.rq True
 (bT (!vU (u0,u1,u2))
 (.rq (OS D 124 D.length (aJ bQ D) 0∧True)
 (.done .ret
 (bU 2 [(0,.c (.ptr 0 0)),(1,.a (bG (4,kM).snd.fst (4,kM).snd.snd.fst (4,kM).snd.snd.snd))] [.pin 1 b,.cells 124 [.p (.l 12 D.length (aJ bQ D)),.p (.i .i64 (4,kM).fst)]])))
 (.done .ret
 (bU 2 [(0,.c (.ptr 0 0)),(1,.a (bG u0 u1 u2))] [.pin 1 b,.cells 124 [.p (.l 12 D.length (aJ bQ D)),.p (.i .i64 0)]]))):=by kernel_rfl
section
variable {G:Nat→Option Obj}
set_option maxRecDepth 100000 in
theorem MV(D:List De):lH Tryz.prog G 98 (JV D KN):=by
 refine NA Tryz.func98 (by kernel_rfl) fun rest p2 x hA hp=>?_
 unfold KN at hA
 split at hA;rotate_left;· cases hA
 rename_i er;obtain⟨rfl,rfl⟩:=uM hA;refine⟨fun _=>rfl,fun b=>?_⟩;refine jM.evH aT (tFl D er b) ?_;simp only[aI,nL]
 exact⟨aP (by kernel_rfl)⟩
theorem RN(D:List De):bO Tryz.prog G (aLL D):=jO (by simp;exact⟨aKM.lift,MV D⟩)
set_option maxRecDepth 100000 in
theorem aKP(D:List De):lH Tryz.prog G 119 (JV D aJ1):=by
 refine NA Tryz.func119 (by kernel_rfl) fun rest p2 x hA hp=>?_
 unfold aJ1 at hA
 split at hA;rotate_left;· cases hA
 rename_i u0 u1 u2;obtain⟨rfl,rfl⟩:=uM hA;refine⟨fun _=>rfl,fun b=>?_⟩;refine jM.evH (RN D) (tLm D u0 u1 u2 b) ?_;simp only[bD,aS,aI,nL,bX,bZ];unfold lB;refine⟨trivial,fun h1=>⟨⟨lX D,trivial⟩,⟨?_⟩⟩,fun h1=>⟨?_⟩⟩
 ·rw[if_neg (by rw[h1];decide)];exact aP (by kernel_rfl)
 ·rw[if_pos h1];exact aP (by kernel_rfl)
end
def aMA(D:List De):List V→Option (Prop×Int×U3)
 |[.a [.p (.i .i64 kd),.p (.i .i64 fu),.p (.i .i64 wi),.p (.i .i64 off),.p (.i .i64 k),.p (.i .i64 n),.p (.i .i64 d),.p (.s nm),.p (.l 3 mc f),.p (.l 1 bc g),.p (.l 11 c e)]]=>some (∃ML,mc=ML.length∧f=aJ bY ML∧ML.length≤1000,mZ D nm (eR mK mc f) fu)
 |_=>none
def KO(D:List De):Ext:=yB [(118,sY mVU),(98,JV D KN),(119,JV D aJ1),(117,sY zK)]
theorem aTH(D:List De)(kd fu wi off k n d:Int)(nm:ByteArray)(ML:List Mt)(bc:Nat)(g:Nat→Nat→PV)(c:Nat)(e:Nat→Nat→PV)(b:Nat):cJ dX (dH 3 (cS Tryz.prog Tryz.f97)) (rF Tryz.f97 [0] [0] [b] [.c (.ptr 0 0),.a (cF kd fu wi off k n d nm ML.length (aJ bY ML) bc g c e)] [.cells 124 [.p (.l 12 D.length (aJ bQ D)),.p (.i .i64 0)]]) (pW [0] (fO 93 [0,3,4,5,17,18,19]) (bB Tryz.prog Tryz.f97))=Tr.done X.normal
 (bU 93 [(0,.c (.ptr 0 0)),(3,.c (.ptr 1 0)),(4,.c (.ptr 2 0)),(5,.c (.p (.z (Value.slice none 0 0)))),(17,.c (.p (.l 12 D.length (aJ bQ D)))),(18,.c (.p (.i .i64 (↑D.length:Int)))),(19,.c (.p (.i .i64 0)))] [.pin 3 b,.cells 33 (cF kd fu wi off k n d nm ML.length (aJ bY ML) bc g c e),.cells 57 (bG 0 0 0),.cells 124 [.p (.l 12 D.length (aJ bQ D)),.p (.i .i64 0)]]):=by kernel_rfl
theorem aTG(D:List De)(kd fu wi off k n d:Int)(nm:ByteArray)(ML:List Mt)(bc:Nat)(g:Nat→Nat→PV)(c:Nat)(e:Nat→Nat→PV)(out:List U3)(m i b:Nat):cJ (KO D) (jZ (cS Tryz.prog Tryz.f97) 3) (bU 93 [(0,.c (.ptr 0 0)),(3,.c (.ptr 1 0)),(4,.c (.ptr 2 0)),(5,.c (.sl 3 3 0 m)),(17,.c (.p (.l 12 D.length (aJ bQ D)))),(18,iV (D.length:Nat)),(19,iV (i:Nat))] [.pin 4 b,.cells 33 (cF kd fu wi off k n d nm ML.length (aJ bY ML) bc g c e),.cells 57 (bG 0 0 0),.row 57 3 m (cR eX out),.cells 124 [.p (.l 12 D.length (aJ bQ D)),.p (.i .i64 0)]]) (pW [0] (fO 93 [0,3,4,5,17,18,19]) (bB Tryz.prog Tryz.f97))=bT (decide ((↑i:Int)<(↑D.length:Int)))
 (.rq (0≤(↑i:Int)∧(↑i:Int)<(↑D.length:Int))
 (bT ((D.getD (↑i:Int).toNat default).nm.toList==nm.toList)
 (.rq
 ((BE fD 2 (eR oL (D.getD (↑i:Int).toNat default).L.length (aJ fD (D.getD (↑i:Int).toNat default).L)) (D.getD (↑i:Int).toNat default).L.length
 (aJ fD (D.getD (↑i:Int).toNat default).L) ∧
 (D.getD (↑i:Int).toNat default).L.length≤1000) ∧
 BE bY 3 (eR mK ML.length (aJ bY ML)) ML.length (aJ bY ML)∧ML.length≤1000)
 (bT (oR (eR oL (D.getD (↑i:Int).toNat default).L.length (aJ fD (D.getD (↑i:Int).toNat default).L)) (eR mK ML.length (aJ bY ML)))
 (.rq (m=m)
 (.rq (1≤1)
 (.rq
 ((m+1)*24≤140737488355328 ∧
 m+1≤140737488355328 ∧
 ∀(e o:Nat),
 e<1 →
 o<3 →
 kZ
 (rR
 (bG (D.getD (↑i:Int).toNat default).u0 (D.getD (↑i:Int).toNat default).u1 (D.getD (↑i:Int).toNat default).u2)
 3 1 (e+0) o) =
 true)
 (.rq (inR aA ((↑i:Int)+1))
 (.done .normal
 (bU 93 [(0,.c (.ptr 0 0)),(3,.c (.ptr 1 0)),(4,.c (.ptr 2 0)),(5,.c (.sl 3 3 0 (m+1))),(17,.c (.p (.l 12 D.length (aJ bQ D)))),(18,.c (.p (.i .i64 (↑D.length:Int)))),(19,.c (.p (.i .i64 ((↑i:Int)+1))))] [.pin 4 b,.cells 33 (cF kd fu wi off k n d nm ML.length (aJ bY ML) bc g c e),.cells 57 (bG 0 0 0),.row 57 3 (m+1) fun e o=>fG [0,1,2,7,4] (iZ m (cR eX out) (fun e o=>bN C.top (bG (D.getD (↑i:Int).toNat default).u0 (D.getD (↑i:Int).toNat default).u1 (D.getD (↑i:Int).toNat default).u2) ((e+0)*3+o)) e o),.cells 124 [.p (.l 12 D.length (aJ bQ D)),.p (.i .i64 0)]]))))))
 (.rq (inR aA ((↑i:Int)+1))
 (.done .normal
 (bU 93 [(0,.c (.ptr 0 0)),(3,.c (.ptr 1 0)),(4,.c (.ptr 2 0)),(5,.c (.sl 3 3 0 m)),(17,.c (.p (.l 12 D.length (aJ bQ D)))),(18,.c (.p (.i .i64 (↑D.length:Int)))),(19,.c (.p (.i .i64 ((↑i:Int)+1))))] [.pin 4 b,.cells 33 (cF kd fu wi off k n d nm ML.length (aJ bY ML) bc g c e),.cells 57 (bG 0 0 0),.row 57 3 m fun e o=>fG [0,1,2,3,4] (cR eX out e o),.cells 124 [.p (.l 12 D.length (aJ bQ D)),.p (.i .i64 0)]])))))
 (.rq (inR aA ((↑i:Int)+1))
 (.done .normal
 (bU 93 [(0,.c (.ptr 0 0)),(3,.c (.ptr 1 0)),(4,.c (.ptr 2 0)),(5,.c (.sl 3 3 0 m)),(17,.c (.p (.l 12 D.length (aJ bQ D)))),(18,.c (.p (.i .i64 (↑D.length:Int)))),(19,.c (.p (.i .i64 ((↑i:Int)+1))))] [.pin 4 b,.cells 33 (cF kd fu wi off k n d nm ML.length (aJ bY ML) bc g c e),.cells 57 (bG 0 0 0),.row 57 3 m fun e o=>fG [0,1,2,3,4] (cR eX out e o),.cells 124 [.p (.l 12 D.length (aJ bQ D)),.p (.i .i64 0)]])))))
 (.done (.exit 0)
 (bU 93 [(0,.c (.ptr 0 0)),(3,.c (.ptr 1 0)),(4,.c (.ptr 2 0)),(5,.c (.sl 3 3 0 m)),(17,.c (.p (.l 12 D.length (aJ bQ D)))),(18,.c (.p (.i .i64 (↑D.length:Int)))),(19,.c (.p (.i .i64 (↑i:Int))))] [.pin 4 b,.cells 33 (cF kd fu wi off k n d nm ML.length (aJ bY ML) bc g c e),.cells 57 (bG 0 0 0),.row 57 3 m fun e o=>fG [0,1,2,3,4] (cR eX out e o),.cells 124 [.p (.l 12 D.length (aJ bQ D)),.p (.i .i64 0)]])):=by kernel_rfl
theorem aTF(D:List De)(kd fu wi off k n d:Int)(nm:ByteArray)(ML:List Mt)(bc:Nat)(g:Nat→Nat→PV)(c:Nat)(e:Nat→Nat→PV)(out:List U3)(m b:Nat):cJ (KO D) (dH 3 (bJ 4 (cS Tryz.prog Tryz.f97))) (bU 93 [(0,.c (.ptr 0 0)),(3,.c (.ptr 1 0)),(4,.c (.ptr 2 0)),(5,.c (.sl 3 3 0 m))] [.pin 4 b,.cells 33 (cF kd fu wi off k n d nm ML.length (aJ bY ML) bc g c e),.cells 57 (bG 0 0 0),.row 57 3 m (cR eX out),.cells 124 [.p (.l 12 D.length (aJ bQ D)),.p (.i .i64 0)]]) (pW [0] (fO 93 [0,3,4,5,48,49,50]) (bB Tryz.prog Tryz.f97))=bT ((↑m:Int)==0)
 (.rq (OS D 124 D.length (aJ bQ D) 0∧True)
 (.done .ret
 (bU 2 [(0,.c (.ptr 0 0)),(1,.a (bG (8,kM).snd.fst (8,kM).snd.snd.fst (8,kM).snd.snd.snd))] [.pin 1 b,.cells 124 [.p (.l 12 D.length (aJ bQ D)),.p (.i .i64 (8,kM).fst)]])))
 (.done .normal
 (bU 93 [(0,.c (.ptr 0 0)),(3,.c (.ptr 1 0)),(4,.c (.ptr 2 0)),(5,.c (.sl 3 3 0 m)),(48,.c (.sl 3 3 0 m)),(49,.c (.p (.i .i64 (↑m:Int)))),(50,.c (.p (.i .i64 0)))] [.pin 4 b,.cells 33 (cF kd fu wi off k n d nm ML.length (aJ bY ML) bc g c e),.cells 57 (bG 0 0 0),.row 57 3 m fun e o=>fG [0,1,2,3,4] (cR eX out e o),.cells 124 [.p (.l 12 D.length (aJ bQ D)),.p (.i .i64 0)]])):=by kernel_rfl
theorem aTE(D:List De)(kd fu wi off k n d:Int)(nm:ByteArray)(ML:List Mt)(bc:Nat)(g:Nat→Nat→PV)(c:Nat)(e:Nat→Nat→PV)(out:List U3)(m i b:Nat):cJ (KO D) (jZ (cS Tryz.prog Tryz.f97) 7) (bU 93 [(0,.c (.ptr 0 0)),(3,.c (.ptr 1 0)),(4,.c (.ptr 2 0)),(5,.c (.sl 3 3 0 m)),(48,.c (.sl 3 3 0 m)),(49,iV (m:Nat)),(50,iV (i:Nat))] [.pin 4 b,.cells 33 (cF kd fu wi off k n d nm ML.length (aJ bY ML) bc g c e),.cells 57 (bG 0 0 0),.row 57 3 m (cR eX out),.cells 124 [.p (.l 12 D.length (aJ bQ D)),.p (.i .i64 0)]]) (pW [0] (fO 93 [0,3,4,5,48,49,50]) (bB Tryz.prog Tryz.f97))=bT (decide ((↑i:Int)<(↑m:Int)))
 (.rq (0≤(↑i:Int)∧(↑i:Int)<(↑m:Int))
 (.rq ((↑i:Int).toNat+0<m)
 (.rq True
 (bT (!vU ((out.getD ((↑i:Int).toNat+0) default).fst,(out.getD ((↑i:Int).toNat+0) default).snd.fst,(out.getD ((↑i:Int).toNat+0) default).snd.snd))
 (.rq (OS D 124 D.length (aJ bQ D) 0∧True)
 (.done .ret
 (bU 2 [(0,.c (.ptr 0 0)),(1,.a (bG (4,kM).snd.fst (4,kM).snd.snd.fst (4,kM).snd.snd.snd))] [.pin 1 b,.cells 124 [.p (.l 12 D.length (aJ bQ D)),.p (.i .i64 (4,kM).fst)]])))
 (.rq (inR aA ((↑i:Int)+1))
 (.done .normal
 (bU 93 [(0,.c (.ptr 0 0)),(3,.c (.ptr 1 0)),(4,.c (.ptr 2 0)),(5,.c (.sl 3 3 0 m)),(48,.c (.sl 3 3 0 m)),(49,.c (.p (.i .i64 (↑m:Int)))),(50,.c (.p (.i .i64 ((↑i:Int)+1))))] [.pin 4 b,.cells 33 (cF kd fu wi off k n d nm ML.length (aJ bY ML) bc g c e),.cells 57 (bG 0 0 0),.row 57 3 m fun e o=>fG [0,1,2,3,4] (cR eX out e o),.cells 124 [.p (.l 12 D.length (aJ bQ D)),.p (.i .i64 0)]])))))))
 (.done (.exit 2)
 (bU 93 [(0,.c (.ptr 0 0)),(3,.c (.ptr 1 0)),(4,.c (.ptr 2 0)),(5,.c (.sl 3 3 0 m)),(48,.c (.sl 3 3 0 m)),(49,.c (.p (.i .i64 (↑m:Int)))),(50,.c (.p (.i .i64 (↑i:Int))))] [.pin 4 b,.cells 33 (cF kd fu wi off k n d nm ML.length (aJ bY ML) bc g c e),.cells 57 (bG 0 0 0),.row 57 3 m fun e o=>fG [0,1,2,3,4] (cR eX out e o),.cells 124 [.p (.l 12 D.length (aJ bQ D)),.p (.i .i64 0)]])):=by kernel_rfl
theorem aTD(D:List De)(kd fu wi off k n d:Int)(nm:ByteArray)(ML:List Mt)(bc:Nat)(g:Nat→Nat→PV)(c:Nat)(e:Nat→Nat→PV)(out:List U3)(m b:Nat):cJ dX (dH 1 (bJ 8 (cS Tryz.prog Tryz.f97))) (bU 93 [(0,.c (.ptr 0 0)),(3,.c (.ptr 1 0)),(4,.c (.ptr 2 0)),(5,.c (.sl 3 3 0 m))] [.pin 4 b,.cells 33 (cF kd fu wi off k n d nm ML.length (aJ bY ML) bc g c e),.cells 57 (bG 0 0 0),.row 57 3 m (cR eX out),.cells 124 [.p (.l 12 D.length (aJ bQ D)),.p (.i .i64 0)]]) (pW [0] (fO 93 [0,3,4,5,62,63,64]) (bB Tryz.prog Tryz.f97))=Tr.done X.normal
 (bU 93 [(0,.c (.ptr 0 0)),(3,.c (.ptr 1 0)),(4,.c (.ptr 2 0)),(5,.c (.sl 3 3 0 m)),(62,.c (.sl 3 3 0 m)),(63,.c (.p (.i .i64 (↑m:Int)))),(64,.c (.p (.i .i64 0)))] [.pin 4 b,.cells 33 (cF kd fu wi off k n d nm ML.length (aJ bY ML) bc g c e),.cells 57 (bG 0 0 0),.row 57 3 m fun e o=>fG [0,1,2,3,4] (cR eX out e o),.cells 124 [.p (.l 12 D.length (aJ bQ D)),.p (.i .i64 0)]]):=by kernel_rfl
theorem aTC(D:List De)(kd fu wi off k n d:Int)(nm:ByteArray)(ML:List Mt)(bc:Nat)(g:Nat→Nat→PV)(c:Nat)(e:Nat→Nat→PV)(out:List U3)(m i b:Nat):cJ (KO D) (jZ (cS Tryz.prog Tryz.f97) 9) (bU 93 [(0,.c (.ptr 0 0)),(3,.c (.ptr 1 0)),(4,.c (.ptr 2 0)),(5,.c (.sl 3 3 0 m)),(62,.c (.sl 3 3 0 m)),(63,iV (m:Nat)),(64,iV (i:Nat))] [.pin 4 b,.cells 33 (cF kd fu wi off k n d nm ML.length (aJ bY ML) bc g c e),.cells 57 (bG 0 0 0),.row 57 3 m (cR eX out),.cells 124 [.p (.l 12 D.length (aJ bQ D)),.p (.i .i64 0)]]) (pW [0] (fO 93 [0,3,4,5,62,63,64]) (bB Tryz.prog Tryz.f97))=bT (decide ((↑i:Int)<(↑m:Int)))
 (.rq (0≤(↑i:Int)∧(↑i:Int)<(↑m:Int))
 (.rq ((↑i:Int).toNat+0<m)
 (.rq (aF 0≤aF 0∧0<(↑m:Int))
 (.rq (0<m)
 (bT
 (match true with
 |true=>
 !((out.getD ((↑i:Int).toNat+0) default).fst==(out.getD 0 default).fst &&
 ((out.getD ((↑i:Int).toNat+0) default).snd.fst==(out.getD 0 default).snd.fst&&((out.getD ((↑i:Int).toNat+0) default).snd.snd==(out.getD 0 default).snd.snd&&true)))
 |false=>
 (out.getD ((↑i:Int).toNat+0) default).fst==(out.getD 0 default).fst &&
 ((out.getD ((↑i:Int).toNat+0) default).snd.fst==(out.getD 0 default).snd.fst&&((out.getD ((↑i:Int).toNat+0) default).snd.snd==(out.getD 0 default).snd.snd&&true)))
 (.rq (OS D 124 D.length (aJ bQ D) 0∧True)
 (.done .ret
 (bU 2 [(0,.c (.ptr 0 0)),(1,.a (bG (7,kM).snd.fst (7,kM).snd.snd.fst (7,kM).snd.snd.snd))] [.pin 1 b,.cells 124 [.p (.l 12 D.length (aJ bQ D)),.p (.i .i64 (7,kM).fst)]])))
 (.rq (inR aA ((↑i:Int)+1))
 (.done .normal
 (bU 93 [(0,.c (.ptr 0 0)),(3,.c (.ptr 1 0)),(4,.c (.ptr 2 0)),(5,.c (.sl 3 3 0 m)),(62,.c (.sl 3 3 0 m)),(63,.c (.p (.i .i64 (↑m:Int)))),(64,.c (.p (.i .i64 ((↑i:Int)+1))))] [.pin 4 b,.cells 33 (cF kd fu wi off k n d nm ML.length (aJ bY ML) bc g c e),.cells 57 (bG 0 0 0),.row 57 3 m fun e o=>fG [0,1,2,3,4] (cR eX out e o),.cells 124 [.p (.l 12 D.length (aJ bQ D)),.p (.i .i64 0)]]))))))))
 (.done (.exit 4)
 (bU 93 [(0,.c (.ptr 0 0)),(3,.c (.ptr 1 0)),(4,.c (.ptr 2 0)),(5,.c (.sl 3 3 0 m)),(62,.c (.sl 3 3 0 m)),(63,.c (.p (.i .i64 (↑m:Int)))),(64,.c (.p (.i .i64 (↑i:Int))))] [.pin 4 b,.cells 33 (cF kd fu wi off k n d nm ML.length (aJ bY ML) bc g c e),.cells 57 (bG 0 0 0),.row 57 3 m fun e o=>fG [0,1,2,3,4] (cR eX out e o),.cells 124 [.p (.l 12 D.length (aJ bQ D)),.p (.i .i64 0)]])):=by kernel_rfl
theorem aTB(D:List De)(kd fu wi off k n d:Int)(nm:ByteArray)(ML:List Mt)(bc:Nat)(g:Nat→Nat→PV)(c:Nat)(e:Nat→Nat→PV)(out:List U3)(m b:Nat):cJ (KO D) (bJ 10 (cS Tryz.prog Tryz.f97)) (bU 93 [(0,.c (.ptr 0 0)),(3,.c (.ptr 1 0)),(4,.c (.ptr 2 0)),(5,.c (.sl 3 3 0 m))] [.pin 4 b,.cells 33 (cF kd fu wi off k n d nm ML.length (aJ bY ML) bc g c e),.cells 57 (bG 0 0 0),.row 57 3 m (cR eX out),.cells 124 [.p (.l 12 D.length (aJ bQ D)),.p (.i .i64 0)]]) (pW [0] [] (bB Tryz.prog Tryz.f97))=Tr.rq (aF 0≤aF 0∧0<(↑m:Int))
 (.rq (0<m)
 (bT (fu==6)
 (.rq (inR aA ((out.getD 0 default).snd.snd-1))
 (.rq (OS D 124 D.length (aJ bQ D) 0∧True)
 (.done .ret
 (bU 2 [(0,.c (.ptr 0 0)),(1,.a (bG (lB ((out.getD (aL 0+0) default).fst,(out.getD (aL 0+0) default).snd.fst,(out.getD (aL 0+0) default).snd.snd-1)).snd.fst (lB ((out.getD (aL 0+0) default).fst,(out.getD (aL 0+0) default).snd.fst,(out.getD (aL 0+0) default).snd.snd-1)).snd.snd.fst (lB ((out.getD (aL 0+0) default).fst,(out.getD (aL 0+0) default).snd.fst,(out.getD (aL 0+0) default).snd.snd-1)).snd.snd.snd))] [.pin 1 b,.cells 124 [.p (.l 12 D.length (aJ bQ D)),.p (.i .i64 (lB ((out.getD (aL 0+0) default).fst,(out.getD (aL 0+0) default).snd.fst,(out.getD (aL 0+0) default).snd.snd-1)).fst)]]))))
 (.rq (OS D 124 D.length (aJ bQ D) 0∧True)
 (.done .ret
 (bU 2 [(0,.c (.ptr 0 0)),(1,.a (bG (lB ((out.getD (aL 0+0) default).fst,(out.getD (aL 0+0) default).snd.fst,(out.getD (aL 0+0) default).snd.snd)).snd.fst (lB ((out.getD (aL 0+0) default).fst,(out.getD (aL 0+0) default).snd.fst,(out.getD (aL 0+0) default).snd.snd)).snd.snd.fst (lB ((out.getD (aL 0+0) default).fst,(out.getD (aL 0+0) default).snd.fst,(out.getD (aL 0+0) default).snd.snd)).snd.snd.snd))] [.pin 1 b,.cells 124 [.p (.l 12 D.length (aJ bQ D)),.p (.i .i64 (lB ((out.getD (aL 0+0) default).fst,(out.getD (aL 0+0) default).snd.fst,(out.getD (aL 0+0) default).snd.snd)).fst)]]))))):=by kernel_rfl
section
variable {G:Nat→Option Obj}
theorem LO{D:List De}{b:Nat}{x:Int×U3}{y:Int}(h:x=(y,kM)):mX (cW G (bU 2 [(0,.c (.ptr 0 0)),(1,CM (y,kM).2)] [.pin 1 b,tG D (y,kM).1]) ⟨[.c (.ptr 0 0)]++[CM x.2],[.pin 1 b,tG D x.1]⟩):=by
 subst h;exact⟨aP (by kernel_rfl)⟩
theorem OQ{D:List De}{b:Nat}{x y:Int×U3}(h:x=y):mX (cW G (bU 2 [(0,.c (.ptr 0 0)),(1,CM y.2)] [.pin 1 b,tG D y.1]) ⟨[.c (.ptr 0 0)]++[CM x.2],[.pin 1 b,tG D x.1]⟩):=by
 subst h;exact⟨aP (by kernel_rfl)⟩
theorem RH(D:List De):bO Tryz.prog G (KO D):=jO (by simp;exact⟨aKM.lift,MV D,aKP D,aIA.lift⟩)
set_option maxRecDepth 100000 in
theorem aCR{D:List De}(hD:wW D){kd fu wi off k n d:Int}{nm:ByteArray}{ML:List Mt}(hl1:ML.length≤1000){bc:Nat}{g:Nat→Nat→PV}{c:Nat}{e:Nat→Nat→PV}(b:Nat)(Q:X→St→Prop):jM Tryz.prog G (Zm [0] (bB Tryz.prog Tryz.f97) fun s=>cW G s ⟨[.c (.ptr 0 0)]++[CM (mZ D nm ML fu).2],[.pin 1 b,tG D (mZ D nm ML fu).1]⟩) (cS Tryz.prog Tryz.f97) (rF Tryz.f97 [0] [0] [b] [.c (.ptr 0 0),.a (cF kd fu wi off k n d nm ML.length (aJ bY ML) bc g c e)] [tG D 0]) Q:=by
 obtain⟨hD1,hD2⟩:=hD
 have hs:=RH (G:=G) D
 have hsel:=xF D nm ML
 refine jM.evG aT 3 (aTH D kd fu wi off k n d nm ML bc g c e b) ?_;simp only[aI,iY];refine⟨?_⟩
 refine jM.loop' (l:=bJ 3 (cS Tryz.prog Tryz.f97)) (b:=inr (inr (bN .skip (cS Tryz.prog Tryz.f97) 3))) (r:=bJ 4 (cS Tryz.prog Tryz.f97)) (id:=0) (by kernel_rfl) (σ:=Nat)
   (fun i=>(fun(out:List U3) (m i:Nat)=>bU 93 [(0,.c (.ptr 0 0)),(3,.c (.ptr 1 0)),(4,.c (.ptr 2 0)),(5,.c (.sl 3 3 0 m)),(17,.c (.p (.l 12 D.length (aJ bQ D)))),(18,iV (D.length:Nat)),(19,iV (i:Nat))] [.pin 4 b,.cells 33 (cF kd fu wi off k n d nm ML.length (aJ bY ML) bc g c e),.cells 57 (bG 0 0 0),.row 57 3 m (cR eX out),.cells 124 [.p (.l 12 D.length (aJ bQ D)),.p (.i .i64 0)]]) (iO (D.take i) nm ML) (iO (D.take i) nm ML).length i) (fun i=>i≤D.length) (fun i=>D.length-i) 0 (bH _) ((pF 57 3 (cR eX []) 5 (by kernel_rfl)).trans ((fW (fO 93 [0,3,4,5,17,18,19]) _).trans (aP (by kernel_rfl)))) ?_
 rintro i hi Q1 q1n q1e -
 have hsi:=xF (D.take i) nm ML
 rw[List.length_take]at hsi;refine jM.evH hs (aTG D kd fu wi off k n d nm ML bc g c e (iO (D.take i) nm ML) (iO (D.take i) nm ML).length i b) ?_
 have e2:∀L:List (ByteArray×ByteArray),eR oL L.length (aJ fD L)=L:=fun L=>rQ (fun _=>rfl) L
 simp only[bD,aS,aI,iY,uV,decide_eq_true_eq,decide_eq_false_iff_not,show (↑i:Int).toNat=i from rfl,inR,e2,kI,iN];refine⟨fun c1=>?_,fun c1=>⟨q1e _ ?_⟩⟩
 ·have hlt:i<D.length:=by omega
  have hs:=DA hlt nm ML
  have hd:(D.getD i default).L.length≤1000:=hD2 _ (aFD hlt)
  have same:¬vO nm ML (D.getD i default)=true→mX (Q1 .normal ((fun(out:List U3) (m i:Nat)=>bU 93 [(0,.c (.ptr 0 0)),(3,.c (.ptr 1 0)),(4,.c (.ptr 2 0)),(5,.c (.sl 3 3 0 m)),(17,.c (.p (.l 12 D.length (aJ bQ D)))),(18,iV (D.length:Nat)),(19,iV (i:Nat))] [.pin 4 b,.cells 33 (cF kd fu wi off k n d nm ML.length (aJ bY ML) bc g c e),.cells 57 (bG 0 0 0),.row 57 3 m (cR eX out),.cells 124 [.p (.l 12 D.length (aJ bQ D)),.p (.i .i64 0)]]) (iO (D.take i) nm ML) (iO (D.take i) nm ML).length (i+1))):=fun hn=>⟨q1n (i+1) _ (by omega) (by omega) (by
    rw[if_neg hn]at hs
    show cW G _ ((fun(out:List U3) (m i:Nat)=>bU 93 [(0,.c (.ptr 0 0)),(3,.c (.ptr 1 0)),(4,.c (.ptr 2 0)),(5,.c (.sl 3 3 0 m)),(17,.c (.p (.l 12 D.length (aJ bQ D)))),(18,iV (D.length:Nat)),(19,iV (i:Nat))] [.pin 4 b,.cells 33 (cF kd fu wi off k n d nm ML.length (aJ bY ML) bc g c e),.cells 57 (bG 0 0 0),.row 57 3 m (cR eX out),.cells 124 [.p (.l 12 D.length (aJ bQ D)),.p (.i .i64 0)]]) (iO (D.take (i+1)) nm ML) (iO (D.take (i+1)) nm ML).length (i+1))
    rw[hs]
    exact aP (by kernel_rfl))⟩
  refine⟨⟨by omega,by omega⟩,fun c2=>⟨⟨⟨lV _ _ _,hd⟩,lV _ _ _,hl1⟩,fun c3=>⟨trivial,Nat.le_refl _,⟨by omega,by omega,aCF (D.getD i default)⟩,⟨by omega,by omega⟩,⟨q1n (i+1) _ (by omega) (by omega) ?_⟩⟩,fun c3=>⟨⟨by omega,by omega⟩,?_⟩⟩,fun c2=>⟨⟨by omega,by omega⟩,?_⟩⟩
  ·rw[if_pos (show vO nm ML (D.getD i default)=true by unfold vO;rw[decide_eq_true c2,c3];rfl)]at hs
   show cW G _ ((fun(out:List U3) (m i:Nat)=>bU 93 [(0,.c (.ptr 0 0)),(3,.c (.ptr 1 0)),(4,.c (.ptr 2 0)),(5,.c (.sl 3 3 0 m)),(17,.c (.p (.l 12 D.length (aJ bQ D)))),(18,iV (D.length:Nat)),(19,iV (i:Nat))] [.pin 4 b,.cells 33 (cF kd fu wi off k n d nm ML.length (aJ bY ML) bc g c e),.cells 57 (bG 0 0 0),.row 57 3 m (cR eX out),.cells 124 [.p (.l 12 D.length (aJ bQ D)),.p (.i .i64 0)]]) (iO (D.take (i+1)) nm ML) (iO (D.take (i+1)) nm ML).length (i+1))
   rw[hs,List.length_append];exact kP ⟨rfl,rfl,rfl,⟨rfl,rfl,rfl,fun e o he ho=>BD (ρ:=[0,1,2,7,4]) rfl (aKB (D.getD i default)) he ho⟩,rfl,trivial⟩
  ·exact same (by unfold vO;rw[c3];simp)
  ·exact same (by unfold vO;rw[decide_eq_false c2];simp)
 obtain rfl:i=D.length:=by omega
 clear q1n q1e hsi;rw[List.take_length]
 obtain⟨out,hout⟩:∃out,iO D nm ML=out:=⟨_,rfl⟩
 rw[hout]at hsel ⊢
 have hE:mZ D nm ML fu=if out.length=0 then (8,kM) else if BF (fun i=>vU (out.getD i default)) out.length=false then (4,kM) else if BF (fun i=>decide (out.getD i default=out.getD 0 default)) out.length=false then (7,kM) else lB (xK fu (out.getD 0 default)):=by unfold mZ;rw[hout]
 clear hout
 refine jM.pre (fW (fO 93 [0,3,4,5]) _) (jM.pre (aP (st':=(fun m:Nat=>bU 93 [(0,.c (.ptr 0 0)),(3,.c (.ptr 1 0)),(4,.c (.ptr 2 0)),(5,.c (.sl 3 3 0 m))] [.pin 4 b,.cells 33 (cF kd fu wi off k n d nm ML.length (aJ bY ML) bc g c e),.cells 57 (bG 0 0 0),.row 57 3 m (cR eX out),.cells 124 [.p (.l 12 D.length (aJ bQ D)),.p (.i .i64 0)]]) out.length) (by kernel_rfl)) ?_)
 refine jM.evG hs 3 (aTF D kd fu wi off k n d nm ML bc g c e out out.length b) ?_;simp only[bD,aS,aI,iY,nL,beq_iff_eq,beq_eq_false_iff_ne,ne_eq];refine⟨fun c1=>⟨⟨lX D,trivial⟩,LO (y:=8) (by rw[hE,if_pos (by omega)])⟩,fun c1=>⟨?_⟩⟩
 have h0:0<out.length:=by omega
 rw[if_neg (by omega)]at hE
 refine jM.loop' (l:=bJ 7 (cS Tryz.prog Tryz.f97)) (b:=inr (inr (bN .skip (cS Tryz.prog Tryz.f97) 7))) (r:=bJ 8 (cS Tryz.prog Tryz.f97)) (id:=2) (by kernel_rfl) (σ:=Nat)
   (fun i=>(fun(m i:Nat)=>bU 93 [(0,.c (.ptr 0 0)),(3,.c (.ptr 1 0)),(4,.c (.ptr 2 0)),(5,.c (.sl 3 3 0 m)),(48,.c (.sl 3 3 0 m)),(49,iV (m:Nat)),(50,iV (i:Nat))] [.pin 4 b,.cells 33 (cF kd fu wi off k n d nm ML.length (aJ bY ML) bc g c e),.cells 57 (bG 0 0 0),.row 57 3 m (cR eX out),.cells 124 [.p (.l 12 D.length (aJ bQ D)),.p (.i .i64 0)]]) out.length i) (fun i=>i≤out.length∧BF (fun i=>vU (out.getD i default)) i=true) (fun i=>out.length-i) 0 ⟨bH _,rfl⟩ (aP (by kernel_rfl)) ?_
 rintro i ⟨hi,hu⟩ Q1 q1n q1e -;refine jM.evH hs (aTE D kd fu wi off k n d nm ML bc g c e out out.length i b) ?_;simp only[bD,aS,aI,iY,uV,nL,decide_eq_true_eq,decide_eq_false_iff_not,show (↑i:Int).toNat=i from rfl,inR,Nat.add_zero,bX,bZ,true_and]
 refine⟨fun c2=>⟨⟨by omega,by omega⟩,by omega,fun c3=>⟨⟨lX D,trivial⟩,LO (y:=4) (by rw[hE,if_pos (nX (P:=fun i=>vU (out.getD i default)) (show i<out.length by omega) c3)])⟩,fun c3=>⟨⟨by omega,by omega⟩,⟨q1n (i+1) _ ⟨by omega,by rw[lJ,hu];exact c3⟩ (by omega) (aP (by kernel_rfl))⟩⟩⟩,fun c2=>⟨q1e _ ?_⟩⟩
 obtain rfl:i=out.length:=by omega
 clear q1n q1e;rw[if_neg (by rw[hu];decide)]at hE
 refine jM.pre (fW (fO 93 [0,3,4,5]) _) (jM.pre (aP (st':=(fun m:Nat=>bU 93 [(0,.c (.ptr 0 0)),(3,.c (.ptr 1 0)),(4,.c (.ptr 2 0)),(5,.c (.sl 3 3 0 m))] [.pin 4 b,.cells 33 (cF kd fu wi off k n d nm ML.length (aJ bY ML) bc g c e),.cells 57 (bG 0 0 0),.row 57 3 m (cR eX out),.cells 124 [.p (.l 12 D.length (aJ bQ D)),.p (.i .i64 0)]]) out.length) (by kernel_rfl)) ?_)
 refine jM.evG aT 1 (aTD D kd fu wi off k n d nm ML bc g c e out out.length b) ?_;simp only[aI,iY];refine⟨?_⟩
 refine jM.loop' (l:=bJ 9 (cS Tryz.prog Tryz.f97)) (b:=inr (inr (bN .skip (cS Tryz.prog Tryz.f97) 9))) (r:=bJ 10 (cS Tryz.prog Tryz.f97)) (id:=4) (by kernel_rfl) (σ:=Nat)
   (fun i=>(fun(m i:Nat)=>bU 93 [(0,.c (.ptr 0 0)),(3,.c (.ptr 1 0)),(4,.c (.ptr 2 0)),(5,.c (.sl 3 3 0 m)),(62,.c (.sl 3 3 0 m)),(63,iV (m:Nat)),(64,iV (i:Nat))] [.pin 4 b,.cells 33 (cF kd fu wi off k n d nm ML.length (aJ bY ML) bc g c e),.cells 57 (bG 0 0 0),.row 57 3 m (cR eX out),.cells 124 [.p (.l 12 D.length (aJ bQ D)),.p (.i .i64 0)]]) out.length i) (fun i=>i≤out.length∧BF (fun i=>decide (out.getD i default=out.getD 0 default)) i=true) (fun i=>out.length-i) 0 ⟨bH _,rfl⟩ (aP (by kernel_rfl)) ?_
 rintro i ⟨hi,hw⟩ Q1 q1n q1e -;refine jM.evH hs (aTC D kd fu wi off k n d nm ML bc g c e out out.length i b) ?_
 have u3e:∀a b:U3,(!(a.1==b.1&&(a.2.1==b.2.1&&(a.2.2==b.2.2&&true)))) = !decide (a=b):=fun a b=>by
  obtain⟨a0,a1,a2⟩:=a;obtain⟨b0,b1,b2⟩:=b;rw[Bool.eq_iff_iff];simp[Prod.ext_iff]
 simp only[bD,aS,aI,iY,uV,nL,decide_eq_true_eq,decide_eq_false_iff_not,show (↑i:Int).toNat=i from rfl,inR,Nat.add_zero,u3e,bX,bZ,true_and]
 refine⟨fun c2=>⟨⟨by omega,by omega⟩,by omega,⟨fA _,by omega⟩,by omega,fun c3=>⟨⟨lX D,trivial⟩,LO (y:=7) (by rw[hE,if_pos (nX (P:=fun i=>decide (out.getD i default=out.getD 0 default)) (show i<out.length by omega) (decide_eq_false c3))])⟩,fun c3=>⟨⟨by omega,by omega⟩,⟨q1n (i+1) _ ⟨by omega,by rw[lJ,hw];exact decide_eq_true c3⟩ (by omega) (aP (by kernel_rfl))⟩⟩⟩,fun c2=>⟨q1e _ ?_⟩⟩
 obtain rfl:i=out.length:=by omega
 clear q1n q1e;rw[if_neg (by rw[hw];decide)]at hE
 refine jM.pre (fW (fO 93 [0,3,4,5]) _) (jM.pre (aP (st':=(fun m:Nat=>bU 93 [(0,.c (.ptr 0 0)),(3,.c (.ptr 1 0)),(4,.c (.ptr 2 0)),(5,.c (.sl 3 3 0 m))] [.pin 4 b,.cells 33 (cF kd fu wi off k n d nm ML.length (aJ bY ML) bc g c e),.cells 57 (bG 0 0 0),.row 57 3 m (cR eX out),.cells 124 [.p (.l 12 D.length (aJ bQ D)),.p (.i .i64 0)]]) out.length) (by kernel_rfl)) ?_)
 refine jM.evH hs (aTB D kd fu wi off k n d nm ML bc g c e out out.length b) ?_
 have hv0:vU (out.getD 0 default)=true:=by
  have:=List.all_eq_true.1 hu 0 (List.mem_range.2 h0)
  exact this
 have ez:aL 0+0=0:=rfl
 rw[ez]
 obtain⟨u,hu0⟩:∃u,out.getD 0 default=u:=⟨_,rfl⟩
 rw[hu0]at hE hv0 ⊢
 have hv1 : -3≤u.2.2∧u.2.2≤3:=by
  have:=of_decide_eq_true hv0
  exact this.2.2
 simp only[bD,aS,aI,nL,beq_iff_eq,beq_eq_false_iff_ne,ne_eq,inR];refine⟨⟨fA _,by omega⟩,by omega,fun c3=>⟨⟨by omega,by omega⟩,⟨lX D,trivial⟩,OQ ?_⟩,fun c3=>⟨⟨lX D,trivial⟩,OQ ?_⟩⟩
 ·rw[hE];unfold xK;rw[if_pos c3]
 ·rw[hE];unfold xK;rw[if_neg c3]
set_option maxRecDepth 100000 in
theorem aMV{D:List De}(hD:wW D):lH Tryz.prog G 97 (JV D (aMA D)):=by
 refine NA Tryz.func97 (by kernel_rfl) fun rest p2 x hA hp=>?_
 unfold aMA at hA
 split at hA;rotate_left;· cases hA
 rename_i kd fu wi off k n d nm mc f bc g c e;obtain⟨rfl,rfl⟩:=uM hA;obtain⟨ML,rfl,rfl,hl⟩:=hp;rw[kI];exact⟨fun _=>rfl,fun b=>aCR hD hl b _⟩
end
def aOW(t:Nat):List V→Option (Prop×Int×U3)
 |[.a [.p (.i .i64 kd),.p (.i .i64 fu),.p (.i .i64 wi),.p (.i .i64 off),.p (.i .i64 k),.p (.i .i64 n),.p (.i .i64 d),.p (.s nm),.p (.l 3 mc f),.p (.l 1 bc g),.p (.l 11 c e)],.a [.p (.i .i64 a0),.p (.i .i64 a1),.p (.i .i64 a2),.p (.i .i64 b0),.p (.i .i64 b1),.p (.i .i64 b2)]]=>some (c=2∧(iD t (cN e 0)∧iD t (cN e 1))∧(0≤fu∧fu≤3)∧vU (a0,a1,a2)=true∧vU (b0,b1,b2)=true,nS fu (lF t (cN e 0) (cN e 1)) (a0,a1,a2) (b0,b1,b2))
 |_=>none
def aFV(D:List De)(t:Nat):Ext:=yB [(98,JV D KN),(119,JV D aJ1),(121,sY JW),(122,sY FO),(64,sY (jP iD eJ t)),(65,sY (oS nT mW t)),(120,sY zI)]
noncomputable def aHJ:dA→Array Oper
 |.raw (.region _ ops _)=>ops
 |_ => #[]
noncomputable def aDD:Array Oper:=aHJ (bN .skip (cS Tryz.prog Tryz.f99) 1)
noncomputable def aRF:List AI:=(fZ Tryz.prog aDD aDD.toList).getD []
def eB1:List Bool:=[true,true,true,true,false,false,false,false,true,true]
theorem aWM(D:List De)(kd fu wi off k n d:Int)(nm:ByteArray)(mc:Nat)(f:Nat→Nat→PV)(bc:Nat)(g:Nat→Nat→PV)(c:Nat)(e:Nat→Nat→PV)(a0 a1 a2 b0 b1 b2:Int)(t b:Nat):cJ dX (dH 1 (cS Tryz.prog Tryz.f99)) (rF Tryz.f99 [0] [0] [b] [.c (.ptr 0 0),.a (cF kd fu wi off k n d nm mc f bc g c (aC e)),.a (lK a0 a1 a2 b0 b1 b2)] [.cells 124 [.p (.l 12 D.length (aJ bQ D)),.p (.i .i64 0)]]) (pW [0] (fO 72 [0,4,5,6]) (bB Tryz.prog Tryz.f99))=Tr.done X.normal
 (bU 72 [(0,.c (.ptr 0 0)),(4,.c (.ptr 1 0)),(5,.c (.ptr 2 0)),(6,.c (.ptr 3 0))] [.pin 4 b,.cells 33 (cF kd fu wi off k n d nm mc f bc g c (aC e)),.cells 167 (lK a0 a1 a2 b0 b1 b2),.cells 57 (bG 0 0 0),.cells 124 [.p (.l 12 D.length (aJ bQ D)),.p (.i .i64 0)]]):=by kernel_rfl
theorem aWL(D:List De)(kd fu wi off k n d:Int)(nm:ByteArray)(mc:Nat)(f:Nat→Nat→PV)(bc:Nat)(g:Nat→Nat→PV)(c:Nat)(e:Nat→Nat→PV)(a0 a1 a2 b0 b1 b2:Int)(t b:Nat):aHD dX aRF 10 eB1 (fun s'=>.done .normal (YU (fO 72 [0,4,5,6,7,8]) s')) (bU 72 [(0,.c (.ptr 0 0)),(4,.c (.ptr 1 0)),(5,.c (.ptr 2 0)),(6,.c (.ptr 3 0))] [.pin 4 b,.cells 33 (cF kd fu wi off k n d nm mc f bc g c (aC e)),.cells 167 (lK a0 a1 a2 b0 b1 b2),.cells 57 (bG 0 0 0),.cells 124 [.p (.l 12 D.length (aJ bQ D)),.p (.i .i64 0)]])=Tr.rq (aF 0≤aF 0∧0<(↑c:Int))
  (Tr.rq (aF 0≤aF 1∧1<(↑c:Int))
   (Tr.rq (aA=aA∧kd=kd)
    (Tr.rq (aA=aA∧fu=fu)
     (Tr.rq (aA=aA∧wi=wi)
      (Tr.rq (aA=aA∧off=off)
       (Tr.rq (aA=aA∧k=k)
        (Tr.rq (aA=aA∧n=n)
         (Tr.rq (aA=aA∧d=d)
          (Tr.rq (nm=nm)
           (Tr.rq (3=3∧mc=mc∧f=f)
            (Tr.rq (1=1∧bc=bc∧g=g)
             (Tr.rq (11=11∧c=c∧aC e=aC e)
              (Tr.done X.normal
               (bU 72 [(0,V.c (C.ptr 0 0)),(4,V.c (C.ptr 1 0)),(5,V.c (C.ptr 2 0)),(6,V.c (C.ptr 3 0)),(7,V.c (C.ptr 4 0)),(8,V.c (C.ptr 5 0))] [AO.pin 6 b,AO.cells 33 (cF kd fu wi off k n d nm mc f bc g c (aC e)),AO.cells 167 (lK a0 a1 a2 b0 b1 b2),AO.cells 57 (bG 0 0 0),AO.cells 33 (cF (eW (e (aL 0) 0)) (eW (e (aL 0) 1)) (eW (e (aL 0) 2)) (eW (e (aL 0) 3)) (eW (e (aL 0) 4)) (eW (e (aL 0) 5)) (eW (e (aL 0) 6)) (tH (e (aL 0) 7)) (kH (e (aL 0) 8)) (hO (e (aL 0) 8)) (kH (e (aL 0) 9)) (hO (e (aL 0) 9)) (kH (e (aL 0) 10)) (hO (e (aL 0) 10))),AO.cells 33 (cF (eW (e (aL 1) 0)) (eW (e (aL 1) 1)) (eW (e (aL 1) 2)) (eW (e (aL 1) 3)) (eW (e (aL 1) 4)) (eW (e (aL 1) 5)) (eW (e (aL 1) 6)) (tH (e (aL 1) 7)) (kH (e (aL 1) 8)) (hO (e (aL 1) 8)) (kH (e (aL 1) 9)) (hO (e (aL 1) 9)) (kH (e (aL 1) 10)) (hO (e (aL 1) 10))),AO.cells 124 [C.p (PV.l 12 D.length (aJ bQ D)),C.p (PV.i aA 0)]])))))))))))))):=by kernel_rfl
theorem aWK(D:List De)(kd fu wi off k n d:Int)(nm:ByteArray)(mc:Nat)(f:Nat→Nat→PV)(bc:Nat)(g:Nat→Nat→PV)(c:Nat)(e:Nat→Nat→PV)(a0 a1 a2 b0 b1 b2:Int)(t b:Nat):cJ (aFV D t) (dH 2 (bJ 2 (cS Tryz.prog Tryz.f99))) (bU 72 [(0,.c (.ptr 0 0)),(4,.c (.ptr 1 0)),(5,.c (.ptr 2 0)),(6,.c (.ptr 3 0)),(7,.c (.ptr 4 0)),(8,.c (.ptr 5 0))] [.pin 6 b,.cells 33 (cF kd fu wi off k n d nm mc f bc g c (aC e)),.cells 167 (lK a0 a1 a2 b0 b1 b2),.cells 57 (bG 0 0 0),.cells 33 [.p (aC e 0 0),.p (aC e 0 1),.p (aC e 0 2),.p (aC e 0 3),.p (aC e 0 4),.p (aC e 0 5),.p (aC e 0 6),.p (aC e 0 7),.p (aC e 0 8),.p (aC e 0 9),.p (aC e 0 10)],.cells 33 [.p (aC e 1 0),.p (aC e 1 1),.p (aC e 1 2),.p (aC e 1 3),.p (aC e 1 4),.p (aC e 1 5),.p (aC e 1 6),.p (aC e 1 7),.p (aC e 1 8),.p (aC e 1 9),.p (aC e 1 10)],.cells 124 [.p (.l 12 D.length (aJ bQ D)),.p (.i .i64 0)]]) (pW [0] (fO 72 [0,4,5,6]) (bB Tryz.prog Tryz.f99))=Tr.rq (iD t [aC e 0 0,aC e 0 1,aC e 0 2,aC e 0 3,aC e 0 4,aC e 0 5,aC e 0 6,aC e 0 7,aC e 0 8,aC e 0 9,aC e 0 10])
 (bT (!eJ t [aC e 0 0,aC e 0 1,aC e 0 2,aC e 0 3,aC e 0 4,aC e 0 5,aC e 0 6,aC e 0 7,aC e 0 8,aC e 0 9,aC e 0 10])
 (.rq (iD t [aC e 1 0,aC e 1 1,aC e 1 2,aC e 1 3,aC e 1 4,aC e 1 5,aC e 1 6,aC e 1 7,aC e 1 8,aC e 1 9,aC e 1 10])
 (bT (!eJ t [aC e 1 0,aC e 1 1,aC e 1 2,aC e 1 3,aC e 1 4,aC e 1 5,aC e 1 6,aC e 1 7,aC e 1 8,aC e 1 9,aC e 1 10])
 (.rq (nT t [aC e 0 0,aC e 0 1,aC e 0 2,aC e 0 3,aC e 0 4,aC e 0 5,aC e 0 6,aC e 0 7,aC e 0 8,aC e 0 9,aC e 0 10])
 (.rq (nT t [aC e 1 0,aC e 1 1,aC e 1 2,aC e 1 3,aC e 1 4,aC e 1 5,aC e 1 6,aC e 1 7,aC e 1 8,aC e 1 9,aC e 1 10])
 (.rq
 ((BE bM 1
 (eR kO
 (mW t [aC e 0 0,aC e 0 1,aC e 0 2,aC e 0 3,aC e 0 4,aC e 0 5,aC e 0 6,aC e 0 7,aC e 0 8,aC e 0 9,aC e 0 10]).length
 (aJ bM (mW t [aC e 0 0,aC e 0 1,aC e 0 2,aC e 0 3,aC e 0 4,aC e 0 5,aC e 0 6,aC e 0 7,aC e 0 8,aC e 0 9,aC e 0 10])))
 (mW t [aC e 0 0,aC e 0 1,aC e 0 2,aC e 0 3,aC e 0 4,aC e 0 5,aC e 0 6,aC e 0 7,aC e 0 8,aC e 0 9,aC e 0 10]).length
 (aJ bM (mW t [aC e 0 0,aC e 0 1,aC e 0 2,aC e 0 3,aC e 0 4,aC e 0 5,aC e 0 6,aC e 0 7,aC e 0 8,aC e 0 9,aC e 0 10])) ∧
 (mW t [aC e 0 0,aC e 0 1,aC e 0 2,aC e 0 3,aC e 0 4,aC e 0 5,aC e 0 6,aC e 0 7,aC e 0 8,aC e 0 9,aC e 0 10]).length≤1000) ∧
 BE bM 1
 (eR kO
 (mW t [aC e 1 0,aC e 1 1,aC e 1 2,aC e 1 3,aC e 1 4,aC e 1 5,aC e 1 6,aC e 1 7,aC e 1 8,aC e 1 9,aC e 1 10]).length
 (aJ bM (mW t [aC e 1 0,aC e 1 1,aC e 1 2,aC e 1 3,aC e 1 4,aC e 1 5,aC e 1 6,aC e 1 7,aC e 1 8,aC e 1 9,aC e 1 10])))
 (mW t [aC e 1 0,aC e 1 1,aC e 1 2,aC e 1 3,aC e 1 4,aC e 1 5,aC e 1 6,aC e 1 7,aC e 1 8,aC e 1 9,aC e 1 10]).length
 (aJ bM (mW t [aC e 1 0,aC e 1 1,aC e 1 2,aC e 1 3,aC e 1 4,aC e 1 5,aC e 1 6,aC e 1 7,aC e 1 8,aC e 1 9,aC e 1 10])) ∧
 (mW t [aC e 1 0,aC e 1 1,aC e 1 2,aC e 1 3,aC e 1 4,aC e 1 5,aC e 1 6,aC e 1 7,aC e 1 8,aC e 1 9,aC e 1 10]).length≤1000)
 (bT
 (!decide
 (eR kO
 (mW t [aC e 0 0,aC e 0 1,aC e 0 2,aC e 0 3,aC e 0 4,aC e 0 5,aC e 0 6,aC e 0 7,aC e 0 8,aC e 0 9,aC e 0 10]).length
 (aJ bM
 (mW t [aC e 0 0,aC e 0 1,aC e 0 2,aC e 0 3,aC e 0 4,aC e 0 5,aC e 0 6,aC e 0 7,aC e 0 8,aC e 0 9,aC e 0 10])) =
 eR kO
 (mW t [aC e 1 0,aC e 1 1,aC e 1 2,aC e 1 3,aC e 1 4,aC e 1 5,aC e 1 6,aC e 1 7,aC e 1 8,aC e 1 9,aC e 1 10]).length
 (aJ bM
 (mW t [aC e 1 0,aC e 1 1,aC e 1 2,aC e 1 3,aC e 1 4,aC e 1 5,aC e 1 6,aC e 1 7,aC e 1 8,aC e 1 9,aC e 1 10]))))
 (.rq (OS D 124 D.length (aJ bQ D) 0∧True)
 (.done .ret
 (bU 2 [(0,.c (.ptr 0 0)),(1,.a (bG (7,kM).snd.fst (7,kM).snd.snd.fst (7,kM).snd.snd.snd))] [.pin 1 b,.cells 124 [.p (.l 12 D.length (aJ bQ D)),.p (.i .i64 (7,kM).fst)]])))
 (.done .normal
 (bU 72 [(0,.c (.ptr 0 0)),(4,.c (.ptr 1 0)),(5,.c (.ptr 2 0)),(6,.c (.ptr 3 0))] [.pin 4 b,.cells 33 (cF kd fu wi off k n d nm mc f bc g c (aC e)),.cells 167 (lK a0 a1 a2 b0 b1 b2),.cells 57 (bG 0 0 0),.cells 124 [.p (.l 12 D.length (aJ bQ D)),.p (.i .i64 0)]]))))))
 (.done .normal
 (bU 72 [(0,.c (.ptr 0 0)),(4,.c (.ptr 1 0)),(5,.c (.ptr 2 0)),(6,.c (.ptr 3 0))] [.pin 4 b,.cells 33 (cF kd fu wi off k n d nm mc f bc g c (aC e)),.cells 167 (lK a0 a1 a2 b0 b1 b2),.cells 57 (bG 0 0 0),.cells 124 [.p (.l 12 D.length (aJ bQ D)),.p (.i .i64 0)]]))))
 (.done .normal
 (bU 72 [(0,.c (.ptr 0 0)),(4,.c (.ptr 1 0)),(5,.c (.ptr 2 0)),(6,.c (.ptr 3 0))] [.pin 4 b,.cells 33 (cF kd fu wi off k n d nm mc f bc g c (aC e)),.cells 167 (lK a0 a1 a2 b0 b1 b2),.cells 57 (bG 0 0 0),.cells 124 [.p (.l 12 D.length (aJ bQ D)),.p (.i .i64 0)]]))):=by kernel_rfl
theorem aWJ(D:List De)(kd fu wi off k n d:Int)(nm:ByteArray)(mc:Nat)(f:Nat→Nat→PV)(bc:Nat)(g:Nat→Nat→PV)(c:Nat)(e:Nat→Nat→PV)(a0 a1 a2 b0 b1 b2:Int)(t b:Nat):cJ (aFV D t) (bJ 4 (cS Tryz.prog Tryz.f99)) (bU 72 [(0,.c (.ptr 0 0)),(4,.c (.ptr 1 0)),(5,.c (.ptr 2 0)),(6,.c (.ptr 3 0))] [.pin 4 b,.cells 33 (cF kd fu wi off k n d nm mc f bc g c (aC e)),.cells 167 (lK a0 a1 a2 b0 b1 b2),.cells 57 (bG 0 0 0),.cells 124 [.p (.l 12 D.length (aJ bQ D)),.p (.i .i64 0)]]) (pW [0] [] (bB Tryz.prog Tryz.f99))=bT (fu==2)
 (.rq (inR aA (a0+b0)∧inR aA (a1+b1)∧inR aA (a2+b2))
 (.rq (OS D 124 D.length (aJ bQ D) 0∧True)
 (.done .ret
 (bU 2 [(0,.c (.ptr 0 0)),(1,.a (bG (lB ((lA (a0,a1,a2) (b0,b1,b2)).fst,(lA (a0,a1,a2) (b0,b1,b2)).snd.fst,(lA (a0,a1,a2) (b0,b1,b2)).snd.snd)).snd.fst (lB ((lA (a0,a1,a2) (b0,b1,b2)).fst,(lA (a0,a1,a2) (b0,b1,b2)).snd.fst,(lA (a0,a1,a2) (b0,b1,b2)).snd.snd)).snd.snd.fst (lB ((lA (a0,a1,a2) (b0,b1,b2)).fst,(lA (a0,a1,a2) (b0,b1,b2)).snd.fst,(lA (a0,a1,a2) (b0,b1,b2)).snd.snd)).snd.snd.snd))] [.pin 1 b,.cells 124 [.p (.l 12 D.length (aJ bQ D)),.p (.i .i64 (lB ((lA (a0,a1,a2) (b0,b1,b2)).fst,(lA (a0,a1,a2) (b0,b1,b2)).snd.fst,(lA (a0,a1,a2) (b0,b1,b2)).snd.snd)).fst)]]))))
 (bT (fu==3)
 (.rq (inR aA (a0-b0)∧inR aA (a1-b1)∧inR aA (a2-b2))
 (.rq (OS D 124 D.length (aJ bQ D) 0∧True)
 (.done .ret
 (bU 2 [(0,.c (.ptr 0 0)),(1,.a (bG (lB ((jS (a0,a1,a2) (b0,b1,b2)).fst,(jS (a0,a1,a2) (b0,b1,b2)).snd.fst,(jS (a0,a1,a2) (b0,b1,b2)).snd.snd)).snd.fst (lB ((jS (a0,a1,a2) (b0,b1,b2)).fst,(jS (a0,a1,a2) (b0,b1,b2)).snd.fst,(jS (a0,a1,a2) (b0,b1,b2)).snd.snd)).snd.snd.fst (lB ((jS (a0,a1,a2) (b0,b1,b2)).fst,(jS (a0,a1,a2) (b0,b1,b2)).snd.fst,(jS (a0,a1,a2) (b0,b1,b2)).snd.snd)).snd.snd.snd))] [.pin 1 b,.cells 124 [.p (.l 12 D.length (aJ bQ D)),.p (.i .i64 (lB ((jS (a0,a1,a2) (b0,b1,b2)).fst,(jS (a0,a1,a2) (b0,b1,b2)).snd.fst,(jS (a0,a1,a2) (b0,b1,b2)).snd.snd)).fst)]]))))
 (bT
 (match true with
 |true => !(a0==b0&&(a1==b1&&(a2==b2&&true)))
 |false=>a0==b0&&(a1==b1&&(a2==b2&&true)))
 (.rq (OS D 124 D.length (aJ bQ D) 0∧True)
 (.done .ret
 (bU 2 [(0,.c (.ptr 0 0)),(1,.a (bG (7,kM).snd.fst (7,kM).snd.snd.fst (7,kM).snd.snd.snd))] [.pin 1 b,.cells 124 [.p (.l 12 D.length (aJ bQ D)),.p (.i .i64 (7,kM).fst)]])))
 (.done .ret
 (bU 2 [(0,.c (.ptr 0 0)),(1,.a (bG a0 a1 a2))] [.pin 1 b,.cells 124 [.p (.l 12 D.length (aJ bQ D)),.p (.i .i64 0)]])))):=by kernel_rfl
section
variable {G:Nat→Option Obj}
theorem xE{D:List De}{b:Nat}{x:Int×U3}{y:Int}(h:x=(y,kM)):mX (cW G (bU 2 [(0,.c (.ptr 0 0)),(1,CM (y,kM).2)] [.pin 1 b,tG D (y,kM).1]) ⟨[.c (.ptr 0 0)]++[CM x.2],[.pin 1 b,tG D x.1]⟩):=by
 subst h;exact⟨aP (by kernel_rfl)⟩
theorem oB{D:List De}{b:Nat}{x y:Int×U3}(h:x=y):mX (cW G (bU 2 [(0,.c (.ptr 0 0)),(1,CM y.2)] [.pin 1 b,tG D y.1]) ⟨[.c (.ptr 0 0)]++[CM x.2],[.pin 1 b,tG D x.1]⟩):=by
 subst h;exact⟨aP (by kernel_rfl)⟩
theorem RR(D:List De)(t:Nat):bO Tryz.prog G (aFV D t):=jO (by simp;exact⟨MV D,aKP D,aN9.lift,aNG.lift,(MR t).lift,(aDK t).lift,aQ8.lift⟩)
set_option maxRecDepth 100000 in
theorem aGB(D:List De){kd fu wi off k n d:Int}{nm:ByteArray}{mc:Nat}{f:Nat→Nat→PV}{bc:Nat}{g:Nat→Nat→PV}{e:Nat→Nat→PV}{a0 a1 a2 b0 b1 b2:Int}{t:Nat}(s0:iD t (cN e 0))(s1:iD t (cN e 1))(hfu:0≤fu∧fu≤3)(hva:vU (a0,a1,a2)=true)(hvb:vU (b0,b1,b2)=true)(b:Nat)(Q:X→St→Prop) :
  jM Tryz.prog G (Zm [0] (bB Tryz.prog Tryz.f99) fun s=>cW G s ⟨[.c (.ptr 0 0)]++[CM (nS fu (lF t (cN e 0) (cN e 1)) (a0,a1,a2) (b0,b1,b2)).2],[.pin 1 b,tG D (nS fu (lF t (cN e 0) (cN e 1)) (a0,a1,a2) (b0,b1,b2)).1]⟩) (cS Tryz.prog Tryz.f99) (rF Tryz.f99 [0] [0] [b] [.c (.ptr 0 0),.a ((fun c:Nat=>((cF kd fu wi off k n d nm mc f bc g c (aC e)):List C)) 2),.a (lK a0 a1 a2 b0 b1 b2)] [tG D 0]) Q:=by
 have hs:=RR (G:=G) D t
 have k0:=pB s0.1
 have k1:=pB s1.1
 have hva:=of_decide_eq_true hva
 have hvb:=of_decide_eq_true hvb
 dsimp only at hva hvb;refine jM.evG aT 1 (aWM D kd fu wi off k n d nm mc f bc g 2 e a0 a1 a2 b0 b1 b2 t b) ?_;simp only[aI,iY];refine⟨?_⟩
 refine jM.regs aT (ops:=aDD) (al:=aRF) (n:=10) (e:=eB1) (rid:=1) (by kernel_rfl) (by kernel_rfl) (by kernel_rfl) (fO 72 [0,4,5,6,7,8]) (l:=bJ 1 (cS Tryz.prog Tryz.f99)) (r':=bJ 2 (cS Tryz.prog Tryz.f99)) (by kernel_rfl) (aWL D kd fu wi off k n d nm mc f bc g 2 e a0 a1 a2 b0 b1 b2 t b) ?_
 simp only[aS,aI,and_self,true_and];refine⟨⟨fA _,by omega⟩,⟨by decide,by omega⟩,⟨?_⟩⟩
 have tail:lF t (cN e 0) (cN e 1)=true→jM Tryz.prog G (Zm [0] (bB Tryz.prog Tryz.f99) fun s=>cW G s ⟨[.c (.ptr 0 0)]++[CM (nS fu (lF t (cN e 0) (cN e 1)) (a0,a1,a2) (b0,b1,b2)).2],[.pin 1 b,tG D (nS fu (lF t (cN e 0) (cN e 1)) (a0,a1,a2) (b0,b1,b2)).1]⟩) (bJ 4 (cS Tryz.prog Tryz.f99)) ((fun c:Nat=>(bU 72 [(0,.c (.ptr 0 0)),(4,.c (.ptr 1 0)),(5,.c (.ptr 2 0)),(6,.c (.ptr 3 0))] [.pin 4 b,.cells 33 (cF kd fu wi off k n d nm mc f bc g c (aC e)),.cells 167 (lK a0 a1 a2 b0 b1 b2),.cells 57 (bG 0 0 0),.cells 124 [.p (.l 12 D.length (aJ bQ D)),.p (.i .i64 0)]]:St)) 2) Q:=fun hf=>by
  rw[hf];refine jM.evH hs (aWJ D kd fu wi off k n d nm mc f bc g 2 e a0 a1 a2 b0 b1 b2 t b) ?_;simp only[bD,aS,aI,nL,aCG,inR,beq_iff_eq,beq_eq_false_iff_ne,ne_eq,bX,bZ,decide_eq_true_eq,decide_eq_false_iff_not,true_and];unfold nS;rw[if_neg (by decide)];refine⟨fun f2=>⟨⟨⟨by omega,by omega⟩,⟨by omega,by omega⟩,by omega,by omega⟩,⟨lX D,trivial⟩,oB ?_⟩,fun f2=>⟨fun f3=>⟨⟨⟨by omega,by omega⟩,⟨by omega,by omega⟩,by omega,by omega⟩,⟨lX D,trivial⟩,oB ?_⟩,fun f3=>⟨fun ne=>⟨⟨lX D,trivial⟩,xE (y:=7) ?_⟩,fun eq=>oB (y:=(0,(a0,a1,a2))) ?_⟩⟩⟩
  ·rw[if_pos f2]
  ·rw[if_neg f2,if_pos f3]
  ·rw[if_neg f2,if_neg f3,if_neg ne]
  ·rw[if_neg f2,if_neg f3,if_pos eq]
 refine jM.pre (aP (st':=(fun c:Nat=>(bU 72 [(0,.c (.ptr 0 0)),(4,.c (.ptr 1 0)),(5,.c (.ptr 2 0)),(6,.c (.ptr 3 0)),(7,.c (.ptr 4 0)),(8,.c (.ptr 5 0))] [.pin 6 b,.cells 33 (cF kd fu wi off k n d nm mc f bc g c (aC e)),.cells 167 (lK a0 a1 a2 b0 b1 b2),.cells 57 (bG 0 0 0),.cells 33 [.p (aC e 0 0),.p (aC e 0 1),.p (aC e 0 2),.p (aC e 0 3),.p (aC e 0 4),.p (aC e 0 5),.p (aC e 0 6),.p (aC e 0 7),.p (aC e 0 8),.p (aC e 0 9),.p (aC e 0 10)],.cells 33 [.p (aC e 1 0),.p (aC e 1 1),.p (aC e 1 2),.p (aC e 1 3),.p (aC e 1 4),.p (aC e 1 5),.p (aC e 1 6),.p (aC e 1 7),.p (aC e 1 8),.p (aC e 1 9),.p (aC e 1 10)],.cells 124 [.p (.l 12 D.length (aJ bQ D)),.p (.i .i64 0)]]:St)) 2) (by kernel_rfl)) ?_
 refine jM.evG hs 2 (aWK D kd fu wi off k n d nm mc f bc g 2 e a0 a1 a2 b0 b1 b2 t b) ?_;simp only[bD,aS,aI,nL,iY,k0,k1,kV,bX,bZ,decide_eq_true_eq,decide_eq_false_iff_not];refine⟨s0,fun r0=>⟨s1,fun r1=>⟨⟨s0,r0⟩,⟨s1,r1⟩,⟨⟨lV _ _ _,vB t _ ⟨s0,r0⟩⟩,lV _ _ _,vB t _ ⟨s1,r1⟩⟩,fun ne=>⟨⟨lX D,trivial⟩,xE (y:=7) ?_⟩,fun eq=>⟨tail ?_⟩⟩,fun r1=>⟨tail ?_⟩⟩,fun r0=>⟨tail ?_⟩⟩
 ·have hf:lF t (cN e 0) (cN e 1)=false:=by unfold lF;rw[r0,r1,decide_eq_false ne];rfl
  unfold nS;rw[if_pos hf]
 ·unfold lF;rw[decide_eq_true eq];simp
 ·unfold lF;rw[r1];simp
 ·unfold lF;rw[r0];simp
theorem YL{f:FuncId}{fn:Func}(hf:(Tryz.prog).funcs[f]?=some fn)(hok:okF Tryz.prog fn=true){D:List De}{A:List V→Option (Prop×Int×U3)}
  (H:∀(rest:List V) (p2:Prop) (x:Int×U3),A rest=some (p2,x)→p2→∃rest',WP rest rest'∧(∀j,xY [j] [j] 1 rest'=xY [0] [0] 1 rest')∧∀b,jM Tryz.prog G (Zm [0] (bB Tryz.prog fn) fun s=>cW G s ⟨[.c (.ptr 0 0)]++[CM x.2],[.pin 1 b,tG D x.1]⟩) (cS Tryz.prog fn) (rF fn [0] [0] [b] (.c (.ptr 0 0)::rest') [tG D 0]) fun e s=>e=.normal∧Zm [0] (bB Tryz.prog fn) (fun s=>cW G s ⟨[.c (.ptr 0 0)]++[CM x.2],[.pin 1 b,tG D x.1]⟩) s) :
  lH Tryz.prog G f (JV D A):=by
 intro args h p v h' hm hp;unfold JV at hm
 split at hm;rotate_left;· cases hm
 rename_i q rest
 split at hm;rotate_left;· cases hm
 rename_i p1 hw
 split at hm;rotate_left;· cases hm
 rename_i p2 x hA;obtain⟨rfl,rfl,rfl⟩:=pG hm;obtain⟨hp1,hp2⟩:=hp;obtain⟨rest',h0,h1,h2⟩:=H rest p2 x hA hp2;exact lW.args (args':=.c (.ptr q 0)::rest') (aKA (aKC hf hok (YR hw hp1) (h1 _) h2)) (.cons (.refl _) h0)
theorem SE{t c:Nat}{e:Nat→Nat→PV}(h:∀i,i<c→iJ t (cN e i)):jT (.l 11 c e) (.l 11 c (aC e)):=jT.l fun i o hi ho=>jT.of_eq (iQ (h i hi) ho).symm
theorem aK9{kd fu wi off k n d:Int}{nm:ByteArray}{mc:Nat}{f:Nat→Nat→PV}{bc:Nat}{g:Nat→Nat→PV}{q q':PV}(h:jT q q'):eL (.a [.p (.i .i64 kd),.p (.i .i64 fu),.p (.i .i64 wi),.p (.i .i64 off),.p (.i .i64 k),.p (.i .i64 n),.p (.i .i64 d),.p (.s nm),.p (.l 3 mc f),.p (.l 1 bc g),.p q]) (.a [.p (.i .i64 kd),.p (.i .i64 fu),.p (.i .i64 wi),.p (.i .i64 off),.p (.i .i64 k),.p (.i .i64 n),.p (.i .i64 d),.p (.s nm),.p (.l 3 mc f),.p (.l 1 bc g),.p q']):=
 eL.a (xs:=[.i .i64 kd,.i .i64 fu,.i .i64 wi,.i .i64 off,.i .i64 k,.i .i64 n,.i .i64 d,.s nm,.l 3 mc f,.l 1 bc g,q]) (vs:=[.i .i64 kd,.i .i64 fu,.i .i64 wi,.i .i64 off,.i .i64 k,.i .i64 n,.i .i64 d,.s nm,.l 3 mc f,.l 1 bc g,q'])
  (.cons (.refl _) (.cons (.refl _) (.cons (.refl _) (.cons (.refl _) (.cons (.refl _) (.cons (.refl _) (.cons (.refl _) (.cons (.refl _) (.cons (.refl _) (.cons (.refl _) (.cons h .nil)))))))))))
set_option maxRecDepth 100000 in
theorem aNM(D:List De)(t:Nat):lH Tryz.prog G 99 (JV D (aOW t)):=by
 refine YL Tryz.func99 (by kernel_rfl) fun rest p2 x hA hp=>?_
 unfold aOW at hA
 split at hA;rotate_left;· cases hA
 rename_i kd fu wi off k n d nm mc f bc g c e a0 a1 a2 b0 b1 b2;obtain⟨rfl,rfl⟩:=uM hA;obtain⟨rfl,⟨s0,s1⟩,hfu,hva,hvb⟩:=hp;refine⟨[.a ((fun c:Nat=>((cF kd fu wi off k n d nm mc f bc g c (aC e)):List C)) 2),.a (lK a0 a1 a2 b0 b1 b2)],.cons (aK9 (SE (t:=t) fun i hi=>?_)) (.cons (.refl _) .nil),fun _=>rfl,fun b=>aGB D s0 s1 hfu hva hvb b _⟩
 match i,hi with
 |0,_=>exact s0.1
 |1,_=>exact s1.1
end
def IT(D:List De)(t:Nat):List V→Option (Prop×Int×U3)
 |[.a [.p q0,.p q1,.p q2,.p q3,.p q4,.p q5,.p q6,.p q7,.p q8,.p q9,.p q10]]=>some (iD t [q0,q1,q2,q3,q4,q5,q6,q7,q8,q9,q10],dY D t [q0,q1,q2,q3,q4,q5,q6,q7,q8,q9,q10])
 |_=>none
def aFP(D:List De)(t:Nat):Ext:=yB [(63,JV D (IT D t)),(97,JV D (aMA D)),(98,JV D KN),(99,JV D (aOW t)),(64,sY (jP iD eJ t))]
theorem aSY(D:List De)(kd fu wi off k n d:Int)(nm:ByteArray)(mc:Nat)(f:Nat→Nat→PV)(bc:Nat)(g:Nat→Nat→PV)(c:Nat)(e:Nat→Nat→PV)(b:Nat):cJ dX (dH 3 (cS Tryz.prog Tryz.f63)) (rF Tryz.f63 [0] [0] [b] [.c (.ptr 0 0),.a (cF kd fu wi off k n d nm mc f bc g c (aC e))] [.cells 124 [.p (.l 12 D.length (aJ bQ D)),.p (.i .i64 0)]]) (pW [0] (fO 60 [0,3,4,5,9,10,11]) (bB Tryz.prog Tryz.f63))=Tr.done X.normal
 (bU 60 [(0,.c (.ptr 0 0)),(3,.c (.ptr 1 0)),(4,.c (.ptr 2 0)),(5,.c (.ptr 3 0)),(9,.c (.p (.l 11 c (aC e)))),(10,.c (.p (.i .i64 (↑c:Int)))),(11,.c (.p (.i .i64 0)))] [.pin 4 b,.cells 33 (cF kd fu wi off k n d nm mc f bc g c (aC e)),.cells 57 (bG 0 0 0),.cells 167 (lK 0 0 0 0 0 0),.cells 124 [.p (.l 12 D.length (aJ bQ D)),.p (.i .i64 0)]]):=by kernel_rfl
theorem aSX(D:List De)(kd fu wi off k n d:Int)(nm:ByteArray)(mc:Nat)(f:Nat→Nat→PV)(bc:Nat)(g:Nat→Nat→PV)(c:Nat)(e:Nat→Nat→PV)(a0 a1 a2 b0 b1 b2:Int)(t b i:Nat):cJ (aFP D t) (jZ (cS Tryz.prog Tryz.f63) 3) (bU 60 [(0,.c (.ptr 0 0)),(3,.c (.ptr 1 0)),(4,.c (.ptr 2 0)),(5,.c (.ptr 3 0)),(9,.c (.p (.l 11 c (aC e)))),(10,iV (c:Nat)),(11,iV (i:Nat))] [.pin 4 b,.cells 33 (cF kd fu wi off k n d nm mc f bc g c (aC e)),.cells 57 (bG 0 0 0),.cells 167 (lK a0 a1 a2 b0 b1 b2),.cells 124 [.p (.l 12 D.length (aJ bQ D)),.p (.i .i64 0)]]) (pW [0] (fO 60 [0,3,4,5,9,10,11]) (bB Tryz.prog Tryz.f63))=bT (decide ((↑i:Int)<(↑c:Int)))
 (.rq (0≤(↑i:Int)∧(↑i:Int)<(↑c:Int))
 (.rq
 (OS D 124 D.length (aJ bQ D) 0 ∧
 iD t
 [aC e (↑i:Int).toNat 0,aC e (↑i:Int).toNat 1,aC e (↑i:Int).toNat 2,aC e (↑i:Int).toNat 3,aC e (↑i:Int).toNat 4,aC e (↑i:Int).toNat 5,
 aC e (↑i:Int).toNat 6,aC e (↑i:Int).toNat 7,aC e (↑i:Int).toNat 8,aC e (↑i:Int).toNat 9,aC e (↑i:Int).toNat 10])
 (.rq (0≤(↑i:Int)∧(↑i:Int)<(↑2:Int))
 (bT (decide ((↑i:Int)=(↑0:Int)))
 (bT
 ((dY D t
 [aC e (↑i:Int).toNat 0,aC e (↑i:Int).toNat 1,aC e (↑i:Int).toNat 2,aC e (↑i:Int).toNat 3,aC e (↑i:Int).toNat 4,aC e (↑i:Int).toNat 5,
 aC e (↑i:Int).toNat 6,aC e (↑i:Int).toNat 7,aC e (↑i:Int).toNat 8,aC e (↑i:Int).toNat 9,aC e (↑i:Int).toNat 10]).fst !=
 0)
 (.done .ret
 (bU 2 [(0,.c (.ptr 0 0)),(1,.a (bG 0 0 0))] [.pin 1 b,.cells 124 [.p (.l 12 D.length (aJ bQ D)),.p (.i .i64 (dY D t [aC e (↑i:Int).toNat 0,aC e (↑i:Int).toNat 1,aC e (↑i:Int).toNat 2,aC e (↑i:Int).toNat 3,aC e (↑i:Int).toNat 4,aC e (↑i:Int).toNat 5,aC e (↑i:Int).toNat 6,aC e (↑i:Int).toNat 7,aC e (↑i:Int).toNat 8,aC e (↑i:Int).toNat 9,aC e (↑i:Int).toNat 10]).fst)]]))
 (.rq (inR aA ((↑i:Int)+1))
 (.done .normal
 (bU 60 [(0,.c (.ptr 0 0)),(3,.c (.ptr 1 0)),(4,.c (.ptr 2 0)),(5,.c (.ptr 3 0)),(9,.c (.p (.l 11 c (aC e)))),(10,.c (.p (.i .i64 (↑c:Int)))),(11,.c (.p (.i .i64 ((↑i:Int)+1))))] [.pin 4 b,.cells 33 (cF kd fu wi off k n d nm mc f bc g c (aC e)),.cells 57 (bG 0 0 0),.cells 167 (lK (dY D t [aC e (↑i:Int).toNat 0,aC e (↑i:Int).toNat 1,aC e (↑i:Int).toNat 2,aC e (↑i:Int).toNat 3,aC e (↑i:Int).toNat 4,aC e (↑i:Int).toNat 5,aC e (↑i:Int).toNat 6,aC e (↑i:Int).toNat 7,aC e (↑i:Int).toNat 8,aC e (↑i:Int).toNat 9,aC e (↑i:Int).toNat 10]).snd.fst (dY D t [aC e (↑i:Int).toNat 0,aC e (↑i:Int).toNat 1,aC e (↑i:Int).toNat 2,aC e (↑i:Int).toNat 3,aC e (↑i:Int).toNat 4,aC e (↑i:Int).toNat 5,aC e (↑i:Int).toNat 6,aC e (↑i:Int).toNat 7,aC e (↑i:Int).toNat 8,aC e (↑i:Int).toNat 9,aC e (↑i:Int).toNat 10]).snd.snd.fst (dY D t [aC e (↑i:Int).toNat 0,aC e (↑i:Int).toNat 1,aC e (↑i:Int).toNat 2,aC e (↑i:Int).toNat 3,aC e (↑i:Int).toNat 4,aC e (↑i:Int).toNat 5,aC e (↑i:Int).toNat 6,aC e (↑i:Int).toNat 7,aC e (↑i:Int).toNat 8,aC e (↑i:Int).toNat 9,aC e (↑i:Int).toNat 10]).snd.snd.snd b0 b1 b2),.cells 124 [.p (.l 12 D.length (aJ bQ D)),.p (.i .i64 (dY D t [aC e (↑i:Int).toNat 0,aC e (↑i:Int).toNat 1,aC e (↑i:Int).toNat 2,aC e (↑i:Int).toNat 3,aC e (↑i:Int).toNat 4,aC e (↑i:Int).toNat 5,aC e (↑i:Int).toNat 6,aC e (↑i:Int).toNat 7,aC e (↑i:Int).toNat 8,aC e (↑i:Int).toNat 9,aC e (↑i:Int).toNat 10]).fst)]]))))
 (bT
 ((dY D t
 [aC e (↑i:Int).toNat 0,aC e (↑i:Int).toNat 1,aC e (↑i:Int).toNat 2,aC e (↑i:Int).toNat 3,aC e (↑i:Int).toNat 4,aC e (↑i:Int).toNat 5,
 aC e (↑i:Int).toNat 6,aC e (↑i:Int).toNat 7,aC e (↑i:Int).toNat 8,aC e (↑i:Int).toNat 9,aC e (↑i:Int).toNat 10]).fst !=
 0)
 (.done .ret
 (bU 2 [(0,.c (.ptr 0 0)),(1,.a (bG 0 0 0))] [.pin 1 b,.cells 124 [.p (.l 12 D.length (aJ bQ D)),.p (.i .i64 (dY D t [aC e (↑i:Int).toNat 0,aC e (↑i:Int).toNat 1,aC e (↑i:Int).toNat 2,aC e (↑i:Int).toNat 3,aC e (↑i:Int).toNat 4,aC e (↑i:Int).toNat 5,aC e (↑i:Int).toNat 6,aC e (↑i:Int).toNat 7,aC e (↑i:Int).toNat 8,aC e (↑i:Int).toNat 9,aC e (↑i:Int).toNat 10]).fst)]]))
 (.rq (inR aA ((↑i:Int)+1))
 (.done .normal
 (bU 60 [(0,.c (.ptr 0 0)),(3,.c (.ptr 1 0)),(4,.c (.ptr 2 0)),(5,.c (.ptr 3 0)),(9,.c (.p (.l 11 c (aC e)))),(10,.c (.p (.i .i64 (↑c:Int)))),(11,.c (.p (.i .i64 ((↑i:Int)+1))))] [.pin 4 b,.cells 33 (cF kd fu wi off k n d nm mc f bc g c (aC e)),.cells 57 (bG 0 0 0),.cells 167 (lK a0 a1 a2 (dY D t [aC e (↑i:Int).toNat 0,aC e (↑i:Int).toNat 1,aC e (↑i:Int).toNat 2,aC e (↑i:Int).toNat 3,aC e (↑i:Int).toNat 4,aC e (↑i:Int).toNat 5,aC e (↑i:Int).toNat 6,aC e (↑i:Int).toNat 7,aC e (↑i:Int).toNat 8,aC e (↑i:Int).toNat 9,aC e (↑i:Int).toNat 10]).snd.fst (dY D t [aC e (↑i:Int).toNat 0,aC e (↑i:Int).toNat 1,aC e (↑i:Int).toNat 2,aC e (↑i:Int).toNat 3,aC e (↑i:Int).toNat 4,aC e (↑i:Int).toNat 5,aC e (↑i:Int).toNat 6,aC e (↑i:Int).toNat 7,aC e (↑i:Int).toNat 8,aC e (↑i:Int).toNat 9,aC e (↑i:Int).toNat 10]).snd.snd.fst (dY D t [aC e (↑i:Int).toNat 0,aC e (↑i:Int).toNat 1,aC e (↑i:Int).toNat 2,aC e (↑i:Int).toNat 3,aC e (↑i:Int).toNat 4,aC e (↑i:Int).toNat 5,aC e (↑i:Int).toNat 6,aC e (↑i:Int).toNat 7,aC e (↑i:Int).toNat 8,aC e (↑i:Int).toNat 9,aC e (↑i:Int).toNat 10]).snd.snd.snd),.cells 124 [.p (.l 12 D.length (aJ bQ D)),.p (.i .i64 (dY D t [aC e (↑i:Int).toNat 0,aC e (↑i:Int).toNat 1,aC e (↑i:Int).toNat 2,aC e (↑i:Int).toNat 3,aC e (↑i:Int).toNat 4,aC e (↑i:Int).toNat 5,aC e (↑i:Int).toNat 6,aC e (↑i:Int).toNat 7,aC e (↑i:Int).toNat 8,aC e (↑i:Int).toNat 9,aC e (↑i:Int).toNat 10]).fst)]]))))))))
 (.done (.exit 0)
 (bU 60 [(0,.c (.ptr 0 0)),(3,.c (.ptr 1 0)),(4,.c (.ptr 2 0)),(5,.c (.ptr 3 0)),(9,.c (.p (.l 11 c (aC e)))),(10,.c (.p (.i .i64 (↑c:Int)))),(11,.c (.p (.i .i64 (↑i:Int))))] [.pin 4 b,.cells 33 (cF kd fu wi off k n d nm mc f bc g c (aC e)),.cells 57 (bG 0 0 0),.cells 167 (lK a0 a1 a2 b0 b1 b2),.cells 124 [.p (.l 12 D.length (aJ bQ D)),.p (.i .i64 0)]])):=by kernel_rfl
theorem aSW(D:List De)(kd fu wi off k n d:Int)(nm:ByteArray)(mc:Nat)(f:Nat→Nat→PV)(bc:Nat)(g:Nat→Nat→PV)(c:Nat)(e:Nat→Nat→PV)(a0 a1 a2 b0 b1 b2:Int)(t b:Nat):cJ (aFP D t) (bJ 4 (cS Tryz.prog Tryz.f63)) (bU 60 [(0,.c (.ptr 0 0)),(3,.c (.ptr 1 0)),(4,.c (.ptr 2 0)),(5,.c (.ptr 3 0))] [.pin 4 b,.cells 33 (cF kd fu wi off k n d nm mc f bc g c (aC e)),.cells 57 (bG 0 0 0),.cells 167 (lK a0 a1 a2 b0 b1 b2),.cells 124 [.p (.l 12 D.length (aJ bQ D)),.p (.i .i64 0)]]) (pW [0] [] (bB Tryz.prog Tryz.f63))=bT (kd==1)
 (.rq (OS D 124 D.length (aJ bQ D) 0∧∃ML,mc=ML.length∧f=aJ bY ML∧ML.length≤1000)
 (.done .ret
 (bU 2 [(0,.c (.ptr 0 0)),(1,.a (bG (mZ D nm (eR mK mc f) fu).snd.fst (mZ D nm (eR mK mc f) fu).snd.snd.fst (mZ D nm (eR mK mc f) fu).snd.snd.snd))] [.pin 1 b,.cells 124 [.p (.l 12 D.length (aJ bQ D)),.p (.i .i64 (mZ D nm (eR mK mc f) fu).fst)]])))
 (bT (kd==2)
 (.rq (aF 0≤aF 0∧0<(↑c:Int))
 (.rq (iD t [aC e 0 0,aC e 0 1,aC e 0 2,aC e 0 3,aC e 0 4,aC e 0 5,aC e 0 6,aC e 0 7,aC e 0 8,aC e 0 9,aC e 0 10])
 (bT (eJ t [aC e 0 0,aC e 0 1,aC e 0 2,aC e 0 3,aC e 0 4,aC e 0 5,aC e 0 6,aC e 0 7,aC e 0 8,aC e 0 9,aC e 0 10])
 (.rq (OS D 124 D.length (aJ bQ D) 0∧True)
 (.done .ret
 (bU 2 [(0,.c (.ptr 0 0)),(1,.a (bG (7,kM).snd.fst (7,kM).snd.snd.fst (7,kM).snd.snd.snd))] [.pin 1 b,.cells 124 [.p (.l 12 D.length (aJ bQ D)),.p (.i .i64 (7,kM).fst)]])))
 (bT (fu==3)
 (.done .ret
 (bU 2 [(0,.c (.ptr 0 0)),(1,.a (bG 0 0 0))] [.pin 1 b,.cells 124 [.p (.l 12 D.length (aJ bQ D)),.p (.i .i64 0)]]))
 (.done .ret
 (bU 2 [(0,.c (.ptr 0 0)),(1,.a (bG a0 a1 a2))] [.pin 1 b,.cells 124 [.p (.l 12 D.length (aJ bQ D)),.p (.i .i64 0)]]))))))
 (bT (kd==3)
 (.rq (OS D 124 D.length (aJ bQ D) 0∧c=2∧(iD t (cN (aC e) 0)∧iD t (cN (aC e) 1))∧(0≤fu∧fu≤3)∧vU (a0,a1,a2)=true∧vU (b0,b1,b2)=true)
 (.done .ret
 (bU 2 [(0,.c (.ptr 0 0)),(1,.a (bG (nS fu (lF t (cN (aC e) 0) (cN (aC e) 1)) (a0,a1,a2) (b0,b1,b2)).snd.fst (nS fu (lF t (cN (aC e) 0) (cN (aC e) 1)) (a0,a1,a2) (b0,b1,b2)).snd.snd.fst (nS fu (lF t (cN (aC e) 0) (cN (aC e) 1)) (a0,a1,a2) (b0,b1,b2)).snd.snd.snd))] [.pin 1 b,.cells 124 [.p (.l 12 D.length (aJ bQ D)),.p (.i .i64 (nS fu (lF t (cN (aC e) 0) (cN (aC e) 1)) (a0,a1,a2) (b0,b1,b2)).fst)]])))
 (.done .ret
 (bU 2 [(0,.c (.ptr 0 0)),(1,.a (bG 0 0 0))] [.pin 1 b,.cells 124 [.p (.l 12 D.length (aJ bQ D)),.p (.i .i64 0)]])))):=by kernel_rfl
def BI(D:List De)(t:Nat)(e:Nat→Nat→PV)(i j:Nat):U3:=if j<i then (dY D t (cN e j)).2 else kM
section
variable {G:Nat→Option Obj}
set_option maxRecDepth 100000 in
theorem ZX{D:List De}(hD:wW D){t:Nat}(ih:lH Tryz.prog G 63 (JV D (IT D t))){kd fu wi off k n d:Int}{nm:ByteArray}{ML:List Mt}{BL:List ByteArray}(hML:ML.length≤1000){c:Nat}{e:Nat→Nat→PV}
  (hkd:(kd=0∧c=0)∨(kd=1∧c=0)∨(kd=2∧c=1)∨(kd=3∧c=2)) (hfu:kd=3→0≤fu∧fu≤3) (hS:∀i,i<c→iD t (cN e i)) (b:Nat) (Q:X→St→Prop) :
  jM Tryz.prog G (Zm [0] (bB Tryz.prog Tryz.f63) fun s=>cW G s ⟨[.c (.ptr 0 0)]++[CM (dY D (t+1) [.i .i64 kd,.i .i64 fu,.i .i64 wi,.i .i64 off,.i .i64 k,.i .i64 n,.i .i64 d,.s nm,.l 3 ML.length (aJ bY ML),.l 1 BL.length (aJ bM BL),.l 11 c e]).2],[.pin 1 b,tG D (dY D (t+1) [.i .i64 kd,.i .i64 fu,.i .i64 wi,.i .i64 off,.i .i64 k,.i .i64 n,.i .i64 d,.s nm,.l 3 ML.length (aJ bY ML),.l 1 BL.length (aJ bM BL),.l 11 c e]).1]⟩) (cS Tryz.prog Tryz.f63) (rF Tryz.f63 [0] [0] [b] [.c (.ptr 0 0),.a (cF kd fu wi off k n d nm ML.length (aJ bY ML) BL.length (aJ bM BL) c (aC e))] [tG D 0]) Q:=by
 have hs:bO Tryz.prog G (aFP D t):=jO (by simp;exact⟨ih,aMV hD,MV D,aNM D t,(MR t).lift⟩)
 rw[xB];refine jM.evG aT 3 (aSY D kd fu wi off k n d nm ML.length (aJ bY ML) BL.length (aJ bM BL) c e b) ?_;simp only[aI,iY];refine⟨?_⟩
 refine jM.loop' (l:=bJ 3 (cS Tryz.prog Tryz.f63)) (b:=inr (inr (bN .skip (cS Tryz.prog Tryz.f63) 3))) (r:=bJ 4 (cS Tryz.prog Tryz.f63)) (id:=0) (by kernel_rfl) (σ:=Nat)
   (fun i:Nat=>(fun(mc:Nat) (f:Nat→Nat→PV) (bc:Nat) (g:Nat→Nat→PV) (a0 a1 a2 b0 b1 b2:Int) (i:Nat)=>(bU 60 [(0,.c (.ptr 0 0)),(3,.c (.ptr 1 0)),(4,.c (.ptr 2 0)),(5,.c (.ptr 3 0)),(9,.c (.p (.l 11 c (aC e)))),(10,iV (c:Nat)),(11,iV (i:Nat))] [.pin 4 b,.cells 33 (cF kd fu wi off k n d nm mc f bc g c (aC e)),.cells 57 (bG 0 0 0),.cells 167 (lK a0 a1 a2 b0 b1 b2),.cells 124 [.p (.l 12 D.length (aJ bQ D)),.p (.i .i64 0)]]:St)) ML.length (aJ bY ML) BL.length (aJ bM BL) (BI D t e i 0).1 (BI D t e i 0).2.1 (BI D t e i 0).2.2 (BI D t e i 1).1 (BI D t e i 1).2.1 (BI D t e i 1).2.2 i) (fun i=>i≤c∧∀j,j<i→(dY D t (cN e j)).1=0) (fun i=>c-i) 0 ⟨bH _,fun j hj=>absurd hj (Nat.not_lt_zero j)⟩ (aP (by kernel_rfl)) ?_
 rintro i ⟨hi,hz⟩ Q1 q1n q1e -;refine jM.evH hs (aSX D kd fu wi off k n d nm ML.length (aJ bY ML) BL.length (aJ bM BL) c e _ _ _ _ _ _ t b i) ?_;rw[bD];refine⟨fun c2=>?_,fun c2=>?_⟩
 ·have hlt:i<c:=by simpa using c2
  have hSi:=hS i hlt
  have hk:=pB hSi.1
  simp only[bD,aS,aI,iY,nL,show (↑i:Int).toNat=i from rfl,Nat.zero_add,Nat.reduceAdd,hk,bne_iff_ne,bne_eq_false_iff_eq,ne_eq,inR,decide_eq_true_eq,decide_eq_false_iff_not]
  have hz':(dY D t (cN e i)).1=0→∀j,j<i+1→(dY D t (cN e j)).1=0:=fun c3 j hj=>by
   rcases Nat.lt_or_ge j i with h1|h1
   ·exact hz j h1
   ·obtain rfl:j=i:=by omega
    exact c3
  have hbad:¬(dY D t (cN e i)).1=0→(if kd=1 then mZ D nm ML fu else if kd=2 then tX fu (eJ t (cN e 0)) (dY D t (cN e 0)) else if kd=3 then opE fu (lF t (cN e 0) (cN e 1)) (dY D t (cN e 0)) (dY D t (cN e 1)) else (0,kM))=((dY D t (cN e i)).1,kM):=fun c3=>by
   rcases hkd with h1|h1|⟨rfl,rfl⟩|⟨rfl,rfl⟩
   ·omega
   ·omega
   ·obtain rfl:i=0:=by omega
    rw[if_neg (by decide),if_pos rfl];unfold tX;rw[if_pos c3]
   ·rw[if_neg (by decide),if_neg (by decide),if_pos rfl]
    unfold opE
    rcases Nat.lt_or_ge 0 i with h1|h1
    ·obtain rfl:i=1:=by omega
     rw[if_neg (by rw[hz 0 (by omega)];decide),if_pos c3]
    ·obtain rfl:i=0:=by omega
     rw[if_pos c3]
  have hi2:i<2:=by omega
  refine⟨⟨by omega,by omega⟩,⟨lX D,hSi⟩,⟨by omega,by omega⟩,fun i0=>⟨fun c3=>xE (y:=(dY D t (cN e i)).1) (hbad c3),fun c3=>⟨⟨by omega,by omega⟩,⟨q1n (i+1) _ ⟨hlt,hz' c3⟩ (show c-(i+1)<c-i by omega) ?_⟩⟩⟩,fun i0=>⟨fun c3=>xE (y:=(dY D t (cN e i)).1) (hbad c3),fun c3=>⟨⟨by omega,by omega⟩,⟨q1n (i+1) _ ⟨hlt,hz' c3⟩ (show c-(i+1)<c-i by omega) ?_⟩⟩⟩⟩
  ·obtain rfl:i=0:=by omega
   rw[c3]
   exact aP (by kernel_rfl)
  ·obtain rfl:i=1:=by omega
   rw[c3]
   exact aP (by kernel_rfl)
 have c2:¬i<c:=by simpa using c2
 obtain rfl:i=c:=by omega
 simp only[aI,uV];refine⟨q1e _ ?_⟩;clear q1n q1e c2
 refine jM.pre (fW (fO 60 [0,3,4,5]) _) (jM.pre (aP (st':=(fun(mc:Nat) (f:Nat→Nat→PV) (bc:Nat) (g:Nat→Nat→PV) (c:Nat) (a0 a1 a2 b0 b1 b2:Int)=>(bU 60 [(0,.c (.ptr 0 0)),(3,.c (.ptr 1 0)),(4,.c (.ptr 2 0)),(5,.c (.ptr 3 0))] [.pin 4 b,.cells 33 (cF kd fu wi off k n d nm mc f bc g c (aC e)),.cells 57 (bG 0 0 0),.cells 167 (lK a0 a1 a2 b0 b1 b2),.cells 124 [.p (.l 12 D.length (aJ bQ D)),.p (.i .i64 0)]]:St)) ML.length (aJ bY ML) BL.length (aJ bM BL) i (BI D t e i 0).1 (BI D t e i 0).2.1 (BI D t e i 0).2.2 (BI D t e i 1).1 (BI D t e i 1).2.1 (BI D t e i 1).2.2) (by kernel_rfl)) ?_)
 refine jM.evH hs (aSW D kd fu wi off k n d nm ML.length (aJ bY ML) BL.length (aJ bM BL) i e _ _ _ _ _ _ t b) ?_
 have kc:∀j,j<i→[aC e j 0,aC e j 1,aC e j 2,aC e j 3,aC e j 4,aC e j 5,aC e j 6,aC e j 7,aC e j 8,aC e j 9,aC e j 10]=cN e j:=fun j hj=>pB (hS j hj).1
 have kk:∀j,j<i→cN (aC e) j=cN e j:=kc
 rcases hkd with⟨rfl,rfl⟩|⟨rfl,rfl⟩|⟨rfl,rfl⟩|⟨rfl,rfl⟩
 ·simp only[bD,aS,aI,nL,beq_iff_eq,beq_eq_false_iff_ne,ne_eq]
  exact⟨fun h=>absurd h (by decide),fun _=>⟨fun h=>absurd h (by decide),fun _=>⟨fun h=>absurd h (by decide),fun _=>oB (y:=(0,kM)) rfl⟩⟩⟩
 ·simp only[bD,aS,aI,nL,beq_iff_eq,beq_eq_false_iff_ne,ne_eq]
  refine⟨fun _=>⟨⟨lX D,ML,rfl,rfl,hML⟩,oB (by rw[kI];rfl)⟩,fun h=>absurd trivial h⟩
 ·have e0:aL 0=0:=rfl
  have z0:=hz 0 (by omega)
  simp only[bD,aS,aI,nL,beq_iff_eq,beq_eq_false_iff_ne,ne_eq,kc 0 (by omega),e0,Nat.zero_add,Nat.reduceAdd];refine⟨fun h=>absurd h (by decide),fun _=>⟨fun _=>⟨⟨fA _,by omega⟩,hS 0 (by omega),fun r=>⟨⟨lX D,trivial⟩,xE (y:=7) ?_⟩,fun r=>⟨fun f3=>oB (y:=(0,kM)) ?_,fun f3=>oB (y:=(0,(dY D t (cN e 0)).2)) ?_⟩⟩,fun h=>absurd trivial h⟩⟩
  ·show tX fu (eJ t (cN e 0)) (dY D t (cN e 0))=_
   unfold tX;rw[if_neg (by rw[z0];decide),if_pos r]
  ·show tX fu (eJ t (cN e 0)) (dY D t (cN e 0))=_
   unfold tX;rw[if_neg (by rw[z0];decide),if_neg (by rw[r];decide),if_pos f3]
  ·show tX fu (eJ t (cN e 0)) (dY D t (cN e 0))=_
   unfold tX;rw[if_neg (by rw[z0];decide),if_neg (by rw[r];decide),if_neg f3]
 ·have z0:=hz 0 (by omega)
  have z1:=hz 1 (by omega)
  simp only[bD,aS,aI,nL,beq_iff_eq,beq_eq_false_iff_ne,ne_eq,kk 0 (by omega),kk 1 (by omega)];refine⟨fun h=>absurd h (by decide),fun _=>⟨fun h=>absurd h (by decide),fun _=>⟨fun _=>⟨⟨lX D,trivial,⟨hS 0 (by omega),hS 1 (by omega)⟩,hfu rfl,uK D t _ (hS 0 (by omega)) z0,uK D t _ (hS 1 (by omega)) z1⟩,oB ?_⟩,fun h=>absurd trivial h⟩⟩⟩
  show opE fu (lF t (cN e 0) (cN e 1)) (dY D t (cN e 0)) (dY D t (cN e 1))=_
  unfold opE;rw[if_neg (by rw[z0];decide),if_neg (by rw[z1];decide)];rfl
set_option maxRecDepth 100000 in
theorem aMS{D:List De}(hD:wW D):∀t,lH Tryz.prog G 63 (JV D (IT D t)):=by
 intro t;induction t with
 |zero=>
  refine NA Tryz.func63 (by kernel_rfl) fun rest p2 x hA hp=>?_
  unfold IT at hA
  split at hA;rotate_left;· cases hA
  obtain⟨rfl,rfl⟩:=uM hA;exact hp.1.elim
 |succ t ih=>
  refine YL Tryz.func63 (by kernel_rfl) fun rest p2 x hA hp=>?_
  unfold IT at hA
  split at hA;rotate_left;· cases hA
  rename_i q0 q1 q2 q3 q4 q5 q6 q7 q8 q9 q10;obtain⟨rfl,rfl⟩:=uM hA;obtain⟨⟨kd,fu,wi,off,k,n,d,nm,ML,BL,c,e,hcs,hn,hd,hL,hc,hk⟩,hch⟩:=hp;simp only[List.cons.injEq,and_true]at hcs;obtain⟨rfl,rfl,rfl,rfl,rfl,rfl,rfl,rfl,rfl,rfl,rfl⟩:=hcs;obtain⟨hkd,hfu,hS⟩:=IY hk hch;exact⟨[.a (cF kd fu wi off k n d nm ML.length (aJ bY ML) BL.length (aJ bM BL) c (aC e))],.cons (aK9 (SE hk)) .nil,fun _=>rfl,fun b=>ZX hD ih hL.1 hkd hfu hS b _⟩
end
end Go.AE
