import Derived.Test.YtfjihbmehhccoaaF5
import Derived.Test.YtfjihbmehhccoaaF6
import Derived.Test.YtfjihbmehhccoaaF2
set_option linter.unusedVariables false
set_option linter.unusedSimpArgs false
namespace Go.AE
open _root_.Bool renaming not_eq_false'→gA,not_eq_true'→eP
open _root_.ByteArray renaming mk→aG
open _root_.Int renaming toNat_natCast→dP
open IntKind renaming i64→aC,u8→bE
open _root_.List renaming append_assoc→dW,append_nil→fP,drop_eq_getElem_cons→dX,getD_eq_getElem?_getD→aD,getElem?_eq_getElem→aM,getElem_mem→jI,length_append→aV,length_cons→eB,length_set→cB,length_take→cU,mem_cons_of_mem→cM,mem_cons_self→cY,take_append_drop→gS,take_length→fS
open _root_.Nat renaming add_zero→gM,le_refl→aW,zero_le→bW
open _root_.Go.Proofs.Try renaming f10→eO,f36→eF,f37→jM,f68→iY,prog→aB
open _root_.UInt8 renaming ofNat→gW
open Value renaming agg→iB,int→cL,slice→bA,string→cP
open Go.Proofs Go.Proofs.Ytfjihbmehhccoaa Gp Go.RowKit Wi
def AW:List (ByteArray×ByteArray)→List UInt8
 |[]=>[]
 |x::r=>gO x.1++gO x.2++AW r
def RC(p:Pg):List UInt8:=eT p.kd++gO p.ru++eT p.ve++eT p.L.length++AW p.L++eT p.st++eT p.se++gO p.to
def qU:List Pg→List UInt8
 |[]=>[]
 |p::r=>RC p++qU r
def mM(M:List Pg):List UInt8:=eT M.length++qU M
def FF(B:List UInt8)(m:Int):Ext:=lH [(34,aCE B m)]
def NQ(B:List UInt8)(m:ByteArray):Ext:=lH [(35,RX B m)]
def aJ8(B:List UInt8):Ext:=lH [(39,RY B)]
theorem aRO(D:Ld)(b:Nat):dC eW (dH 2 (cW aB eF)) (jJ eF [0,1,2,3] [0] [b] [.c (.ptr 0 0)] (lN D [])) (gG [0] (eZ 61 [0,3]) (bI aB eF))=Tr.done X.normal
 (bS 61 [(0,.c (.ptr 0 0)),(3,.c (.ptr 1 0))] [.pin 2 b,.cells 65 [.p (.z (bA none 0 0))],.cells 86 [.sl 3 7 0 D.M.length,.mp 4,.mp 5],.row 31 7 D.M.length fun e o=>bP [4,5,0,1,2,3] (bP [0,1,2,3] (aQ aI D.M e o)),.mapb (bQ aB 81) D.gp,.mapl (bQ aB 79) 3 1 D.gs none]):=by kernel_rfl
theorem aRN(D:Ld)(b k:Nat)(B:List UInt8):dC (FF B D.M.length) (dH 1 (bJ 2 (cW aB eF))) (bS 61 [(0,.c (.ptr 0 0)),(3,.c (.ptr 1 0))] [.pin 2 b,.cells 65 [.sl 3 1 0 k],.cells 86 [.sl 4 7 0 D.M.length,.mp 5,.mp 6],.row 5 1 k (aQ bG B),.row 31 7 D.M.length (aQ aI D.M),.mapb (bQ aB 81) D.gp,.mapl (bQ aB 79) 3 1 D.gs none]) (gG [0] (eZ 61 [0,3]) (bI aB eF))=Tr.rq
 ((k=B.length∧k=B.length∧∀(e o:Nat),e<B.length→o<1→aQ bG B e o=aQ bG B e o) ∧
 (↑D.M.length:Int)=(↑D.M.length:Int)∧eV aC (↑D.M.length:Int)∧(B++eT (↑D.M.length:Int)).length≤140737488355328)
 (.done .normal
 (bS 61 [(0,.c (.ptr 0 0)),(3,.c (.ptr 1 0))] [.pin 2 b,.cells 65 [.sl 3 1 0 (B++eT (↑D.M.length:Int)).length],.cells 86 [.sl 4 7 0 D.M.length,.mp 5,.mp 6],.row 5 1 (B++eT (↑D.M.length:Int)).length fun e o=>bP [0,1,2,9,4,5,6] (C.p (PV.i bE (↑((B++eT (↑D.M.length:Int)).getD e default).toNat:Int))),.row 31 7 D.M.length fun e o=>bP [0,1,2,9,4,5,6] (aQ aI D.M e o),.mapb (bQ aB 81) D.gp,.mapl (bQ aB 79) 3 1 D.gs none])):=by kernel_rfl
theorem aRM(D:Ld)(b k:Nat)(B:List UInt8):dC eW (dH 1 (bJ 3 (cW aB eF))) (bS 61 [(0,.c (.ptr 0 0)),(3,.c (.ptr 1 0))] [.pin 2 b,.cells 65 [.sl 3 1 0 k],.cells 86 [.sl 4 7 0 D.M.length,.mp 5,.mp 6],.row 5 1 k (aQ bG B),.row 31 7 D.M.length (aQ aI D.M),.mapb (bQ aB 81) D.gp,.mapl (bQ aB 79) 3 1 D.gs none]) (gG [0] (eZ 61 [0,3,17,18,19]) (bI aB eF))=Tr.done X.normal
 (bS 61 [(0,.c (.ptr 0 0)),(3,.c (.ptr 1 0)),(17,.c (.sl 2 7 0 D.M.length)),(18,.c (.p (.i .i64 (↑D.M.length:Int)))),(19,.c (.p (.i .i64 0)))] [.pin 3 b,.cells 65 [.sl 4 1 0 k],.row 31 7 D.M.length fun e o=>bP [0,1,4,2,3,5,6] (aQ aI D.M e o),.cells 86 [.sl 2 7 0 D.M.length,.mp 5,.mp 6],.row 5 1 k fun e o=>bP [0,1,4,2,3,5,6] (aQ bG B e o),.mapb (bQ aB 81) D.gp,.mapl (bQ aB 79) 3 1 D.gs none]):=by kernel_rfl
theorem aRL(i:Nat)(D:Ld)(b k:Nat)(B:List UInt8):dC eW (dH 2 (gR (cW aB eF) 4)) (bS 61 [(0,.c (.ptr 0 0)),(3,.c (.ptr 1 0)),(17,.c (.sl 2 7 0 D.M.length)),(18,iV D.M.length),(19,iV i)] [.pin 3 b,.cells 65 [.sl 4 1 0 k],.row 31 7 D.M.length (aQ aI D.M),.cells 86 [.sl 2 7 0 D.M.length,.mp 5,.mp 6],.row 5 1 k (aQ bG B),.mapb (bQ aB 81) D.gp,.mapl (bQ aB 79) 3 1 D.gs none]) (gG [0] (eZ 61 [0,3,17,18,19]) (bI aB eF))=bT (decide ((↑i:Int)<(↑D.M.length:Int)))
 (.done .normal
 (bS 61 [(0,.c (.ptr 0 0)),(3,.c (.ptr 1 0)),(17,.c (.sl 2 7 0 D.M.length)),(18,.c (.p (.i .i64 (↑D.M.length:Int)))),(19,.c (.p (.i .i64 (↑i:Int))))] [.pin 3 b,.cells 65 [.sl 4 1 0 k],.row 31 7 D.M.length fun e o=>bP [0,1,2,3,4,5,6] (aQ aI D.M e o),.cells 86 [.sl 2 7 0 D.M.length,.mp 5,.mp 6],.row 5 1 k fun e o=>bP [0,1,2,3,4,5,6] (aQ bG B e o),.mapb (bQ aB 81) D.gp,.mapl (bQ aB 79) 3 1 D.gs none]))
 (.done (.exit 0)
 (bS 61 [(0,.c (.ptr 0 0)),(3,.c (.ptr 1 0)),(17,.c (.sl 2 7 0 D.M.length)),(18,.c (.p (.i .i64 (↑D.M.length:Int)))),(19,.c (.p (.i .i64 (↑i:Int))))] [.pin 3 b,.cells 65 [.sl 4 1 0 k],.row 31 7 D.M.length fun e o=>bP [0,1,2,3,4,5,6] (aQ aI D.M e o),.cells 86 [.sl 2 7 0 D.M.length,.mp 5,.mp 6],.row 5 1 k fun e o=>bP [0,1,2,3,4,5,6] (aQ bG B e o),.mapb (bQ aB 81) D.gp,.mapl (bQ aB 79) 3 1 D.gs none])):=by kernel_rfl
theorem aRK(i:Nat)(D:Ld)(b k:Nat)(B:List UInt8):dC eW (dH 1 (eX (inr (bF .skip (gR (cW aB eF) 4) 2)))) (bS 61 [(0,.c (.ptr 0 0)),(3,.c (.ptr 1 0)),(17,.c (.sl 2 7 0 D.M.length)),(18,iV D.M.length),(19,iV i)] [.pin 3 b,.cells 65 [.sl 4 1 0 k],.row 31 7 D.M.length (aQ aI D.M),.cells 86 [.sl 2 7 0 D.M.length,.mp 5,.mp 6],.row 5 1 k (aQ bG B),.mapb (bQ aB 81) D.gp,.mapl (bQ aB 79) 3 1 D.gs none]) (gG [0] (eZ 61 [0,3,5,17,18,19]) (bI aB eF))=Tr.rq (0≤(↑i:Int)∧(↑i:Int)<(↑D.M.length:Int))
 (.rq ((↑i:Int).toNat+0<D.M.length)
 (.done .normal
 (bS 61 [(0,.c (.ptr 0 0)),(3,.c (.ptr 1 0)),(5,.c (.ptr 2 0)),(17,.c (.sl 3 7 0 D.M.length)),(18,.c (.p (.i .i64 (↑D.M.length:Int)))),(19,.c (.p (.i .i64 (↑i:Int))))] [.pin 4 b,.cells 65 [.sl 5 1 0 k],.cells 31 [.p (.i .i64 (D.M.getD ((↑i:Int).toNat+0) default).kd),.p (.s (D.M.getD ((↑i:Int).toNat+0) default).ru),.p (.i .i64 (D.M.getD ((↑i:Int).toNat+0) default).ve),.p (.l 2 (D.M.getD ((↑i:Int).toNat+0) default).L.length (aE aN (D.M.getD ((↑i:Int).toNat+0) default).L)),.p (.i .i64 (D.M.getD ((↑i:Int).toNat+0) default).st),.p (.i .i64 (D.M.getD ((↑i:Int).toNat+0) default).se),.p (.s (D.M.getD ((↑i:Int).toNat+0) default).to)],.row 31 7 D.M.length fun e o=>bP [0,1,7,2,3,4,5,6] (aQ aI D.M e o),.cells 86 [.sl 3 7 0 D.M.length,.mp 6,.mp 7],.row 5 1 k fun e o=>bP [0,1,7,2,3,4,5,6] (aQ bG B e o),.mapb (bQ aB 81) D.gp,.mapl (bQ aB 79) 3 1 D.gs none]))):=by kernel_rfl
theorem aRJ(i:Nat)(p:Pg)(D:Ld)(b k:Nat)(B:List UInt8):dC (FF B p.kd) (dH 1 (bJ 1 (eX (inr (bF .skip (gR (cW aB eF) 4) 2))))) (bS 61 [(0,.c (.ptr 0 0)),(3,.c (.ptr 1 0)),(5,.c (.ptr 2 0)),(17,.c (.sl 3 7 0 D.M.length)),(18,iV D.M.length),(19,iV i)] [.pin 4 b,.cells 65 [.sl 5 1 0 k],.cells 31 [.p (.i .i64 p.kd),.p (.s p.ru),.p (.i .i64 p.ve),.p (bY aN 2 p.L),.p (.i .i64 p.st),.p (.i .i64 p.se),.p (.s p.to)],.row 31 7 D.M.length (aQ aI D.M),.cells 86 [.sl 3 7 0 D.M.length,.mp 6,.mp 7],.row 5 1 k (aQ bG B),.mapb (bQ aB 81) D.gp,.mapl (bQ aB 79) 3 1 D.gs none]) (gG [0] (eZ 61 [0,3,5,17,18,19]) (bI aB eF))=Tr.rq ((k=B.length∧k=B.length∧∀(e o:Nat),e<B.length→o<1→aQ bG B e o=aQ bG B e o)∧p.kd=p.kd∧eV aC p.kd∧(B++eT p.kd).length≤140737488355328)
 (.done .normal
 (bS 61 [(0,.c (.ptr 0 0)),(3,.c (.ptr 1 0)),(5,.c (.ptr 2 0)),(17,.c (.sl 3 7 0 D.M.length)),(18,.c (.p (.i .i64 (↑D.M.length:Int)))),(19,.c (.p (.i .i64 (↑i:Int))))] [.pin 4 b,.cells 65 [.sl 5 1 0 (B++eT p.kd).length],.cells 31 [.p (.i .i64 p.kd),.p (.s p.ru),.p (.i .i64 p.ve),.p (.l 2 p.L.length (aE aN p.L)),.p (.i .i64 p.st),.p (.i .i64 p.se),.p (.s p.to)],.row 31 7 D.M.length fun e o=>bP [0,1,2,3,4,10,6,7] (aQ aI D.M e o),.cells 86 [.sl 3 7 0 D.M.length,.mp 6,.mp 7],.row 5 1 (B++eT p.kd).length fun e o=>bP [0,1,2,3,4,10,6,7] (C.p (PV.i bE (↑((B++eT p.kd).getD e default).toNat:Int))),.mapb (bQ aB 81) D.gp,.mapl (bQ aB 79) 3 1 D.gs none])):=by kernel_rfl
theorem aRI(i:Nat)(p:Pg)(D:Ld)(b k:Nat)(B:List UInt8):dC (NQ B p.ru) (dH 1 (bJ 2 (eX (inr (bF .skip (gR (cW aB eF) 4) 2))))) (bS 61 [(0,.c (.ptr 0 0)),(3,.c (.ptr 1 0)),(5,.c (.ptr 2 0)),(17,.c (.sl 3 7 0 D.M.length)),(18,iV D.M.length),(19,iV i)] [.pin 4 b,.cells 65 [.sl 5 1 0 k],.cells 31 [.p (.i .i64 p.kd),.p (.s p.ru),.p (.i .i64 p.ve),.p (bY aN 2 p.L),.p (.i .i64 p.st),.p (.i .i64 p.se),.p (.s p.to)],.row 31 7 D.M.length (aQ aI D.M),.cells 86 [.sl 3 7 0 D.M.length,.mp 6,.mp 7],.row 5 1 k (aQ bG B),.mapb (bQ aB 81) D.gp,.mapl (bQ aB 79) 3 1 D.gs none]) (gG [0] (eZ 61 [0,3,5,17,18,19]) (bI aB eF))=Tr.rq ((k=B.length∧k=B.length∧∀(e o:Nat),e<B.length→o<1→aQ bG B e o=aQ bG B e o)∧p.ru=p.ru∧p.ru.size≤140737488355328∧(B++gO p.ru).length≤140737488355328)
 (.done .normal
 (bS 61 [(0,.c (.ptr 0 0)),(3,.c (.ptr 1 0)),(5,.c (.ptr 2 0)),(17,.c (.sl 3 7 0 D.M.length)),(18,.c (.p (.i .i64 (↑D.M.length:Int)))),(19,.c (.p (.i .i64 (↑i:Int))))] [.pin 4 b,.cells 65 [.sl 5 1 0 (B++gO p.ru).length],.cells 31 [.p (.i .i64 p.kd),.p (.s p.ru),.p (.i .i64 p.ve),.p (.l 2 p.L.length (aE aN p.L)),.p (.i .i64 p.st),.p (.i .i64 p.se),.p (.s p.to)],.row 31 7 D.M.length fun e o=>bP [0,1,2,3,4,10,6,7] (aQ aI D.M e o),.cells 86 [.sl 3 7 0 D.M.length,.mp 6,.mp 7],.row 5 1 (B++gO p.ru).length fun e o=>bP [0,1,2,3,4,10,6,7] (C.p (PV.i bE (↑((B++gO p.ru).getD e default).toNat:Int))),.mapb (bQ aB 81) D.gp,.mapl (bQ aB 79) 3 1 D.gs none])):=by kernel_rfl
theorem aRH(i:Nat)(p:Pg)(D:Ld)(b k:Nat)(B:List UInt8):dC (FF B p.ve) (dH 1 (bJ 3 (eX (inr (bF .skip (gR (cW aB eF) 4) 2))))) (bS 61 [(0,.c (.ptr 0 0)),(3,.c (.ptr 1 0)),(5,.c (.ptr 2 0)),(17,.c (.sl 3 7 0 D.M.length)),(18,iV D.M.length),(19,iV i)] [.pin 4 b,.cells 65 [.sl 5 1 0 k],.cells 31 [.p (.i .i64 p.kd),.p (.s p.ru),.p (.i .i64 p.ve),.p (bY aN 2 p.L),.p (.i .i64 p.st),.p (.i .i64 p.se),.p (.s p.to)],.row 31 7 D.M.length (aQ aI D.M),.cells 86 [.sl 3 7 0 D.M.length,.mp 6,.mp 7],.row 5 1 k (aQ bG B),.mapb (bQ aB 81) D.gp,.mapl (bQ aB 79) 3 1 D.gs none]) (gG [0] (eZ 61 [0,3,5,17,18,19]) (bI aB eF))=Tr.rq ((k=B.length∧k=B.length∧∀(e o:Nat),e<B.length→o<1→aQ bG B e o=aQ bG B e o)∧p.ve=p.ve∧eV aC p.ve∧(B++eT p.ve).length≤140737488355328)
 (.done .normal
 (bS 61 [(0,.c (.ptr 0 0)),(3,.c (.ptr 1 0)),(5,.c (.ptr 2 0)),(17,.c (.sl 3 7 0 D.M.length)),(18,.c (.p (.i .i64 (↑D.M.length:Int)))),(19,.c (.p (.i .i64 (↑i:Int))))] [.pin 4 b,.cells 65 [.sl 5 1 0 (B++eT p.ve).length],.cells 31 [.p (.i .i64 p.kd),.p (.s p.ru),.p (.i .i64 p.ve),.p (.l 2 p.L.length (aE aN p.L)),.p (.i .i64 p.st),.p (.i .i64 p.se),.p (.s p.to)],.row 31 7 D.M.length fun e o=>bP [0,1,2,3,4,10,6,7] (aQ aI D.M e o),.cells 86 [.sl 3 7 0 D.M.length,.mp 6,.mp 7],.row 5 1 (B++eT p.ve).length fun e o=>bP [0,1,2,3,4,10,6,7] (C.p (PV.i bE (↑((B++eT p.ve).getD e default).toNat:Int))),.mapb (bQ aB 81) D.gp,.mapl (bQ aB 79) 3 1 D.gs none])):=by kernel_rfl
theorem aRG(i:Nat)(p:Pg)(D:Ld)(b k:Nat)(B:List UInt8):dC (FF B p.L.length) (dH 1 (bJ 4 (eX (inr (bF .skip (gR (cW aB eF) 4) 2))))) (bS 61 [(0,.c (.ptr 0 0)),(3,.c (.ptr 1 0)),(5,.c (.ptr 2 0)),(17,.c (.sl 3 7 0 D.M.length)),(18,iV D.M.length),(19,iV i)] [.pin 4 b,.cells 65 [.sl 5 1 0 k],.cells 31 [.p (.i .i64 p.kd),.p (.s p.ru),.p (.i .i64 p.ve),.p (bY aN 2 p.L),.p (.i .i64 p.st),.p (.i .i64 p.se),.p (.s p.to)],.row 31 7 D.M.length (aQ aI D.M),.cells 86 [.sl 3 7 0 D.M.length,.mp 6,.mp 7],.row 5 1 k (aQ bG B),.mapb (bQ aB 81) D.gp,.mapl (bQ aB 79) 3 1 D.gs none]) (gG [0] (eZ 61 [0,3,5,17,18,19]) (bI aB eF))=Tr.rq
 ((k=B.length∧k=B.length∧∀(e o:Nat),e<B.length→o<1→aQ bG B e o=aQ bG B e o) ∧
 (↑p.L.length:Int)=(↑p.L.length:Int)∧eV aC (↑p.L.length:Int)∧(B++eT (↑p.L.length:Int)).length≤140737488355328)
 (.done .normal
 (bS 61 [(0,.c (.ptr 0 0)),(3,.c (.ptr 1 0)),(5,.c (.ptr 2 0)),(17,.c (.sl 3 7 0 D.M.length)),(18,.c (.p (.i .i64 (↑D.M.length:Int)))),(19,.c (.p (.i .i64 (↑i:Int))))] [.pin 4 b,.cells 65 [.sl 5 1 0 (B++eT (↑p.L.length:Int)).length],.cells 31 [.p (.i .i64 p.kd),.p (.s p.ru),.p (.i .i64 p.ve),.p (.l 2 p.L.length (aE aN p.L)),.p (.i .i64 p.st),.p (.i .i64 p.se),.p (.s p.to)],.row 31 7 D.M.length fun e o=>bP [0,1,2,3,4,10,6,7] (aQ aI D.M e o),.cells 86 [.sl 3 7 0 D.M.length,.mp 6,.mp 7],.row 5 1 (B++eT (↑p.L.length:Int)).length fun e o=>bP [0,1,2,3,4,10,6,7] (C.p (PV.i bE (↑((B++eT (↑p.L.length:Int)).getD e default).toNat:Int))),.mapb (bQ aB 81) D.gp,.mapl (bQ aB 79) 3 1 D.gs none])):=by kernel_rfl
theorem aRF(i:Nat)(p:Pg)(D:Ld)(b k:Nat)(B:List UInt8):dC eW (dH 1 (bJ 5 (eX (inr (bF .skip (gR (cW aB eF) 4) 2))))) (bS 61 [(0,.c (.ptr 0 0)),(3,.c (.ptr 1 0)),(5,.c (.ptr 2 0)),(17,.c (.sl 3 7 0 D.M.length)),(18,iV D.M.length),(19,iV i)] [.pin 4 b,.cells 65 [.sl 5 1 0 k],.cells 31 [.p (.i .i64 p.kd),.p (.s p.ru),.p (.i .i64 p.ve),.p (bY aN 2 p.L),.p (.i .i64 p.st),.p (.i .i64 p.se),.p (.s p.to)],.row 31 7 D.M.length (aQ aI D.M),.cells 86 [.sl 3 7 0 D.M.length,.mp 6,.mp 7],.row 5 1 k (aQ bG B),.mapb (bQ aB 81) D.gp,.mapl (bQ aB 79) 3 1 D.gs none]) (gG [0] (eZ 61 [0,3,5,17,18,19,37,38,39]) (bI aB eF))=Tr.done X.normal
 (bS 61 [(0,.c (.ptr 0 0)),(3,.c (.ptr 1 0)),(5,.c (.ptr 2 0)),(17,.c (.sl 3 7 0 D.M.length)),(18,.c (.p (.i .i64 (↑D.M.length:Int)))),(19,.c (.p (.i .i64 (↑i:Int)))),(37,.c (.p (.l 2 p.L.length (aE aN p.L)))),(38,.c (.p (.i .i64 (↑p.L.length:Int)))),(39,.c (.p (.i .i64 0)))] [.pin 4 b,.cells 65 [.sl 5 1 0 k],.cells 31 [.p (.i .i64 p.kd),.p (.s p.ru),.p (.i .i64 p.ve),.p (.l 2 p.L.length (aE aN p.L)),.p (.i .i64 p.st),.p (.i .i64 p.se),.p (.s p.to)],.row 31 7 D.M.length fun e o=>bP [0,1,2,3,4,5,6,7] (aQ aI D.M e o),.cells 86 [.sl 3 7 0 D.M.length,.mp 6,.mp 7],.row 5 1 k fun e o=>bP [0,1,2,3,4,5,6,7] (aQ bG B e o),.mapb (bQ aB 81) D.gp,.mapl (bQ aB 79) 3 1 D.gs none]):=by kernel_rfl
theorem aOG(i j:Nat)(p:Pg)(D:Ld)(b k:Nat)(B:List UInt8):dC eW (dH 2 (gR (eX (inr (bF .skip (gR (cW aB eF) 4) 2))) 6)) (bS 61 [(0,.c (.ptr 0 0)),(3,.c (.ptr 1 0)),(5,.c (.ptr 2 0)),(17,.c (.sl 3 7 0 D.M.length)),(18,iV D.M.length),(19,iV i),(37,aU aN 2 p.L),(38,iV p.L.length),(39,iV j)] [.pin 4 b,.cells 65 [.sl 5 1 0 k],.cells 31 [.p (.i .i64 p.kd),.p (.s p.ru),.p (.i .i64 p.ve),.p (bY aN 2 p.L),.p (.i .i64 p.st),.p (.i .i64 p.se),.p (.s p.to)],.row 31 7 D.M.length (aQ aI D.M),.cells 86 [.sl 3 7 0 D.M.length,.mp 6,.mp 7],.row 5 1 k (aQ bG B),.mapb (bQ aB 81) D.gp,.mapl (bQ aB 79) 3 1 D.gs none]) (gG [0] (eZ 61 [0,3,5,17,18,19,37,38,39]) (bI aB eF))=bT (decide ((↑j:Int)<(↑p.L.length:Int)))
 (.done .normal
 (bS 61 [(0,.c (.ptr 0 0)),(3,.c (.ptr 1 0)),(5,.c (.ptr 2 0)),(17,.c (.sl 3 7 0 D.M.length)),(18,.c (.p (.i .i64 (↑D.M.length:Int)))),(19,.c (.p (.i .i64 (↑i:Int)))),(37,.c (.p (.l 2 p.L.length (aE aN p.L)))),(38,.c (.p (.i .i64 (↑p.L.length:Int)))),(39,.c (.p (.i .i64 (↑j:Int))))] [.pin 4 b,.cells 65 [.sl 5 1 0 k],.cells 31 [.p (.i .i64 p.kd),.p (.s p.ru),.p (.i .i64 p.ve),.p (.l 2 p.L.length (aE aN p.L)),.p (.i .i64 p.st),.p (.i .i64 p.se),.p (.s p.to)],.row 31 7 D.M.length fun e o=>bP [0,1,2,3,4,5,6,7] (aQ aI D.M e o),.cells 86 [.sl 3 7 0 D.M.length,.mp 6,.mp 7],.row 5 1 k fun e o=>bP [0,1,2,3,4,5,6,7] (aQ bG B e o),.mapb (bQ aB 81) D.gp,.mapl (bQ aB 79) 3 1 D.gs none]))
 (.done (.exit 2)
 (bS 61 [(0,.c (.ptr 0 0)),(3,.c (.ptr 1 0)),(5,.c (.ptr 2 0)),(17,.c (.sl 3 7 0 D.M.length)),(18,.c (.p (.i .i64 (↑D.M.length:Int)))),(19,.c (.p (.i .i64 (↑i:Int)))),(37,.c (.p (.l 2 p.L.length (aE aN p.L)))),(38,.c (.p (.i .i64 (↑p.L.length:Int)))),(39,.c (.p (.i .i64 (↑j:Int))))] [.pin 4 b,.cells 65 [.sl 5 1 0 k],.cells 31 [.p (.i .i64 p.kd),.p (.s p.ru),.p (.i .i64 p.ve),.p (.l 2 p.L.length (aE aN p.L)),.p (.i .i64 p.st),.p (.i .i64 p.se),.p (.s p.to)],.row 31 7 D.M.length fun e o=>bP [0,1,2,3,4,5,6,7] (aQ aI D.M e o),.cells 86 [.sl 3 7 0 D.M.length,.mp 6,.mp 7],.row 5 1 k fun e o=>bP [0,1,2,3,4,5,6,7] (aQ bG B e o),.mapb (bQ aB 81) D.gp,.mapl (bQ aB 79) 3 1 D.gs none])):=by kernel_rfl
theorem aOF(i j:Nat)(p:Pg)(D:Ld)(b k:Nat)(B:List UInt8):dC eW (dH 1 (eX (inr (bF .skip (gR (eX (inr (bF .skip (gR (cW aB eF) 4) 2))) 6) 2)))) (bS 61 [(0,.c (.ptr 0 0)),(3,.c (.ptr 1 0)),(5,.c (.ptr 2 0)),(17,.c (.sl 3 7 0 D.M.length)),(18,iV D.M.length),(19,iV i),(37,aU aN 2 p.L),(38,iV p.L.length),(39,iV j)] [.pin 4 b,.cells 65 [.sl 5 1 0 k],.cells 31 [.p (.i .i64 p.kd),.p (.s p.ru),.p (.i .i64 p.ve),.p (bY aN 2 p.L),.p (.i .i64 p.st),.p (.i .i64 p.se),.p (.s p.to)],.row 31 7 D.M.length (aQ aI D.M),.cells 86 [.sl 3 7 0 D.M.length,.mp 6,.mp 7],.row 5 1 k (aQ bG B),.mapb (bQ aB 81) D.gp,.mapl (bQ aB 79) 3 1 D.gs none]) (gG [0] (eZ 61 [0,3,5,7,17,18,19,37,38,39]) (bI aB eF))=Tr.rq (0≤(↑j:Int)∧(↑j:Int)<(↑p.L.length:Int))
 (.done .normal
 (bS 61 [(0,.c (.ptr 0 0)),(3,.c (.ptr 1 0)),(5,.c (.ptr 2 0)),(7,.c (.ptr 3 0)),(17,.c (.sl 4 7 0 D.M.length)),(18,.c (.p (.i .i64 (↑D.M.length:Int)))),(19,.c (.p (.i .i64 (↑i:Int)))),(37,.c (.p (.l 2 p.L.length (aE aN p.L)))),(38,.c (.p (.i .i64 (↑p.L.length:Int)))),(39,.c (.p (.i .i64 (↑j:Int))))] [.pin 5 b,.cells 65 [.sl 6 1 0 k],.cells 31 [.p (.i .i64 p.kd),.p (.s p.ru),.p (.i .i64 p.ve),.p (.l 2 p.L.length (aE aN p.L)),.p (.i .i64 p.st),.p (.i .i64 p.se),.p (.s p.to)],.cells 56 [.p (.s (p.L.getD (↑j:Int).toNat default).fst),.p (.s (p.L.getD (↑j:Int).toNat default).snd)],.row 31 7 D.M.length fun e o=>bP [0,1,2,8,3,4,5,6,7] (aQ aI D.M e o),.cells 86 [.sl 4 7 0 D.M.length,.mp 7,.mp 8],.row 5 1 k fun e o=>bP [0,1,2,8,3,4,5,6,7] (aQ bG B e o),.mapb (bQ aB 81) D.gp,.mapl (bQ aB 79) 3 1 D.gs none])):=by kernel_rfl
theorem aOE(i j:Nat)(p:Pg)(x:ByteArray×ByteArray)(D:Ld)(b k:Nat)(B:List UInt8):dC (NQ B x.1) (dH 1 (bJ 1 (eX (inr (bF .skip (gR (eX (inr (bF .skip (gR (cW aB eF) 4) 2))) 6) 2))))) (bS 61 [(0,.c (.ptr 0 0)),(3,.c (.ptr 1 0)),(5,.c (.ptr 2 0)),(7,.c (.ptr 3 0)),(17,.c (.sl 4 7 0 D.M.length)),(18,iV D.M.length),(19,iV i),(37,aU aN 2 p.L),(38,iV p.L.length),(39,iV j)] [.pin 5 b,.cells 65 [.sl 6 1 0 k],.cells 31 [.p (.i .i64 p.kd),.p (.s p.ru),.p (.i .i64 p.ve),.p (bY aN 2 p.L),.p (.i .i64 p.st),.p (.i .i64 p.se),.p (.s p.to)],.cells 56 [.p (.s x.1),.p (.s x.2)],.row 31 7 D.M.length (aQ aI D.M),.cells 86 [.sl 4 7 0 D.M.length,.mp 7,.mp 8],.row 5 1 k (aQ bG B),.mapb (bQ aB 81) D.gp,.mapl (bQ aB 79) 3 1 D.gs none]) (gG [0] (eZ 61 [0,3,5,7,17,18,19,37,38,39]) (bI aB eF))=Tr.rq
 ((k=B.length∧k=B.length∧∀(e o:Nat),e<B.length→o<1→aQ bG B e o=aQ bG B e o)∧x.fst=x.fst∧x.fst.size≤140737488355328∧(B++gO x.fst).length≤140737488355328)
 (.done .normal
 (bS 61 [(0,.c (.ptr 0 0)),(3,.c (.ptr 1 0)),(5,.c (.ptr 2 0)),(7,.c (.ptr 3 0)),(17,.c (.sl 4 7 0 D.M.length)),(18,.c (.p (.i .i64 (↑D.M.length:Int)))),(19,.c (.p (.i .i64 (↑i:Int)))),(37,.c (.p (.l 2 p.L.length (aE aN p.L)))),(38,.c (.p (.i .i64 (↑p.L.length:Int)))),(39,.c (.p (.i .i64 (↑j:Int))))] [.pin 5 b,.cells 65 [.sl 6 1 0 (B++gO x.fst).length],.cells 31 [.p (.i .i64 p.kd),.p (.s p.ru),.p (.i .i64 p.ve),.p (.l 2 p.L.length (aE aN p.L)),.p (.i .i64 p.st),.p (.i .i64 p.se),.p (.s p.to)],.cells 56 [.p (.s x.fst),.p (.s x.snd)],.row 31 7 D.M.length fun e o=>bP [0,1,2,3,4,5,11,7,8] (aQ aI D.M e o),.cells 86 [.sl 4 7 0 D.M.length,.mp 7,.mp 8],.row 5 1 (B++gO x.fst).length fun e o=>bP [0,1,2,3,4,5,11,7,8] (C.p (PV.i bE (↑((B++gO x.fst).getD e default).toNat:Int))),.mapb (bQ aB 81) D.gp,.mapl (bQ aB 79) 3 1 D.gs none])):=by kernel_rfl
theorem aOD(i j:Nat)(p:Pg)(x:ByteArray×ByteArray)(D:Ld)(b k:Nat)(B:List UInt8):dC (NQ B x.2) (bJ 2 (eX (inr (bF .skip (gR (eX (inr (bF .skip (gR (cW aB eF) 4) 2))) 6) 2)))) (bS 61 [(0,.c (.ptr 0 0)),(3,.c (.ptr 1 0)),(5,.c (.ptr 2 0)),(7,.c (.ptr 3 0)),(17,.c (.sl 4 7 0 D.M.length)),(18,iV D.M.length),(19,iV i),(37,aU aN 2 p.L),(38,iV p.L.length),(39,iV j)] [.pin 5 b,.cells 65 [.sl 6 1 0 k],.cells 31 [.p (.i .i64 p.kd),.p (.s p.ru),.p (.i .i64 p.ve),.p (bY aN 2 p.L),.p (.i .i64 p.st),.p (.i .i64 p.se),.p (.s p.to)],.cells 56 [.p (.s x.1),.p (.s x.2)],.row 31 7 D.M.length (aQ aI D.M),.cells 86 [.sl 4 7 0 D.M.length,.mp 7,.mp 8],.row 5 1 k (aQ bG B),.mapb (bQ aB 81) D.gp,.mapl (bQ aB 79) 3 1 D.gs none]) (gG [0] (eZ 61 [0,3,5,17,18,19,37,38,39]) (bI aB eF))=Tr.rq
 ((k=B.length∧k=B.length∧∀(e o:Nat),e<B.length→o<1→aQ bG B e o=aQ bG B e o)∧x.snd=x.snd∧x.snd.size≤140737488355328∧(B++gO x.snd).length≤140737488355328)
 (.done .normal
 (bS 61 [(0,.c (.ptr 0 0)),(3,.c (.ptr 1 0)),(5,.c (.ptr 2 0)),(17,.c (.sl 3 7 0 D.M.length)),(18,.c (.p (.i .i64 (↑D.M.length:Int)))),(19,.c (.p (.i .i64 (↑i:Int)))),(37,.c (.p (.l 2 p.L.length (aE aN p.L)))),(38,.c (.p (.i .i64 (↑p.L.length:Int)))),(39,.c (.p (.i .i64 (↑j:Int))))] [.pin 4 b,.cells 65 [.sl 5 1 0 (B++gO x.snd).length],.cells 31 [.p (.i .i64 p.kd),.p (.s p.ru),.p (.i .i64 p.ve),.p (.l 2 p.L.length (aE aN p.L)),.p (.i .i64 p.st),.p (.i .i64 p.se),.p (.s p.to)],.row 31 7 D.M.length fun e o=>bP [0,1,2,4,5,11,7,8] (aQ aI D.M e o),.cells 86 [.sl 3 7 0 D.M.length,.mp 6,.mp 7],.row 5 1 (B++gO x.snd).length fun e o=>bP [0,1,2,4,5,11,7,8] (C.p (PV.i bE (↑((B++gO x.snd).getD e default).toNat:Int))),.mapb (bQ aB 81) D.gp,.mapl (bQ aB 79) 3 1 D.gs none])):=by kernel_rfl
theorem aOC(i j:Nat)(p:Pg)(D:Ld)(b k:Nat)(B:List UInt8):dC eW (bJ 3 (gR (eX (inr (bF .skip (gR (cW aB eF) 4) 2))) 6)) (bS 61 [(0,.c (.ptr 0 0)),(3,.c (.ptr 1 0)),(5,.c (.ptr 2 0)),(17,.c (.sl 3 7 0 D.M.length)),(18,iV D.M.length),(19,iV i),(37,aU aN 2 p.L),(38,iV p.L.length),(39,iV j)] [.pin 4 b,.cells 65 [.sl 5 1 0 k],.cells 31 [.p (.i .i64 p.kd),.p (.s p.ru),.p (.i .i64 p.ve),.p (bY aN 2 p.L),.p (.i .i64 p.st),.p (.i .i64 p.se),.p (.s p.to)],.row 31 7 D.M.length (aQ aI D.M),.cells 86 [.sl 3 7 0 D.M.length,.mp 6,.mp 7],.row 5 1 k (aQ bG B),.mapb (bQ aB 81) D.gp,.mapl (bQ aB 79) 3 1 D.gs none]) (gG [0] (eZ 61 [0,3,5,17,18,19,37,38,39]) (bI aB eF))=Tr.rq (eV aC ((↑j:Int)+1))
 (.done .normal
 (bS 61 [(0,.c (.ptr 0 0)),(3,.c (.ptr 1 0)),(5,.c (.ptr 2 0)),(17,.c (.sl 3 7 0 D.M.length)),(18,.c (.p (.i .i64 (↑D.M.length:Int)))),(19,.c (.p (.i .i64 (↑i:Int)))),(37,.c (.p (.l 2 p.L.length (aE aN p.L)))),(38,.c (.p (.i .i64 (↑p.L.length:Int)))),(39,.c (.p (.i .i64 ((↑j:Int)+1))))] [.pin 4 b,.cells 65 [.sl 5 1 0 k],.cells 31 [.p (.i .i64 p.kd),.p (.s p.ru),.p (.i .i64 p.ve),.p (.l 2 p.L.length (aE aN p.L)),.p (.i .i64 p.st),.p (.i .i64 p.se),.p (.s p.to)],.row 31 7 D.M.length fun e o=>bP [0,1,2,3,4,5,6,7] (aQ aI D.M e o),.cells 86 [.sl 3 7 0 D.M.length,.mp 6,.mp 7],.row 5 1 k fun e o=>bP [0,1,2,3,4,5,6,7] (aQ bG B e o),.mapb (bQ aB 81) D.gp,.mapl (bQ aB 79) 3 1 D.gs none])):=by kernel_rfl
theorem aOB(i:Nat)(p:Pg)(D:Ld)(b k:Nat)(B:List UInt8):dC (FF B p.st) (dH 1 (bJ 7 (eX (inr (bF .skip (gR (cW aB eF) 4) 2))))) (bS 61 [(0,.c (.ptr 0 0)),(3,.c (.ptr 1 0)),(5,.c (.ptr 2 0)),(17,.c (.sl 3 7 0 D.M.length)),(18,iV D.M.length),(19,iV i)] [.pin 4 b,.cells 65 [.sl 5 1 0 k],.cells 31 [.p (.i .i64 p.kd),.p (.s p.ru),.p (.i .i64 p.ve),.p (bY aN 2 p.L),.p (.i .i64 p.st),.p (.i .i64 p.se),.p (.s p.to)],.row 31 7 D.M.length (aQ aI D.M),.cells 86 [.sl 3 7 0 D.M.length,.mp 6,.mp 7],.row 5 1 k (aQ bG B),.mapb (bQ aB 81) D.gp,.mapl (bQ aB 79) 3 1 D.gs none]) (gG [0] (eZ 61 [0,3,5,17,18,19]) (bI aB eF))=Tr.rq ((k=B.length∧k=B.length∧∀(e o:Nat),e<B.length→o<1→aQ bG B e o=aQ bG B e o)∧p.st=p.st∧eV aC p.st∧(B++eT p.st).length≤140737488355328)
 (.done .normal
 (bS 61 [(0,.c (.ptr 0 0)),(3,.c (.ptr 1 0)),(5,.c (.ptr 2 0)),(17,.c (.sl 3 7 0 D.M.length)),(18,.c (.p (.i .i64 (↑D.M.length:Int)))),(19,.c (.p (.i .i64 (↑i:Int))))] [.pin 4 b,.cells 65 [.sl 5 1 0 (B++eT p.st).length],.cells 31 [.p (.i .i64 p.kd),.p (.s p.ru),.p (.i .i64 p.ve),.p (.l 2 p.L.length (aE aN p.L)),.p (.i .i64 p.st),.p (.i .i64 p.se),.p (.s p.to)],.row 31 7 D.M.length fun e o=>bP [0,1,2,3,4,10,6,7] (aQ aI D.M e o),.cells 86 [.sl 3 7 0 D.M.length,.mp 6,.mp 7],.row 5 1 (B++eT p.st).length fun e o=>bP [0,1,2,3,4,10,6,7] (C.p (PV.i bE (↑((B++eT p.st).getD e default).toNat:Int))),.mapb (bQ aB 81) D.gp,.mapl (bQ aB 79) 3 1 D.gs none])):=by kernel_rfl
theorem aOA(i:Nat)(p:Pg)(D:Ld)(b k:Nat)(B:List UInt8):dC (FF B p.se) (dH 1 (bJ 8 (eX (inr (bF .skip (gR (cW aB eF) 4) 2))))) (bS 61 [(0,.c (.ptr 0 0)),(3,.c (.ptr 1 0)),(5,.c (.ptr 2 0)),(17,.c (.sl 3 7 0 D.M.length)),(18,iV D.M.length),(19,iV i)] [.pin 4 b,.cells 65 [.sl 5 1 0 k],.cells 31 [.p (.i .i64 p.kd),.p (.s p.ru),.p (.i .i64 p.ve),.p (bY aN 2 p.L),.p (.i .i64 p.st),.p (.i .i64 p.se),.p (.s p.to)],.row 31 7 D.M.length (aQ aI D.M),.cells 86 [.sl 3 7 0 D.M.length,.mp 6,.mp 7],.row 5 1 k (aQ bG B),.mapb (bQ aB 81) D.gp,.mapl (bQ aB 79) 3 1 D.gs none]) (gG [0] (eZ 61 [0,3,5,17,18,19]) (bI aB eF))=Tr.rq ((k=B.length∧k=B.length∧∀(e o:Nat),e<B.length→o<1→aQ bG B e o=aQ bG B e o)∧p.se=p.se∧eV aC p.se∧(B++eT p.se).length≤140737488355328)
 (.done .normal
 (bS 61 [(0,.c (.ptr 0 0)),(3,.c (.ptr 1 0)),(5,.c (.ptr 2 0)),(17,.c (.sl 3 7 0 D.M.length)),(18,.c (.p (.i .i64 (↑D.M.length:Int)))),(19,.c (.p (.i .i64 (↑i:Int))))] [.pin 4 b,.cells 65 [.sl 5 1 0 (B++eT p.se).length],.cells 31 [.p (.i .i64 p.kd),.p (.s p.ru),.p (.i .i64 p.ve),.p (.l 2 p.L.length (aE aN p.L)),.p (.i .i64 p.st),.p (.i .i64 p.se),.p (.s p.to)],.row 31 7 D.M.length fun e o=>bP [0,1,2,3,4,10,6,7] (aQ aI D.M e o),.cells 86 [.sl 3 7 0 D.M.length,.mp 6,.mp 7],.row 5 1 (B++eT p.se).length fun e o=>bP [0,1,2,3,4,10,6,7] (C.p (PV.i bE (↑((B++eT p.se).getD e default).toNat:Int))),.mapb (bQ aB 81) D.gp,.mapl (bQ aB 79) 3 1 D.gs none])):=by kernel_rfl
theorem aO9(i:Nat)(p:Pg)(D:Ld)(b k:Nat)(B:List UInt8):dC (NQ B p.to) (bJ 9 (eX (inr (bF .skip (gR (cW aB eF) 4) 2)))) (bS 61 [(0,.c (.ptr 0 0)),(3,.c (.ptr 1 0)),(5,.c (.ptr 2 0)),(17,.c (.sl 3 7 0 D.M.length)),(18,iV D.M.length),(19,iV i)] [.pin 4 b,.cells 65 [.sl 5 1 0 k],.cells 31 [.p (.i .i64 p.kd),.p (.s p.ru),.p (.i .i64 p.ve),.p (bY aN 2 p.L),.p (.i .i64 p.st),.p (.i .i64 p.se),.p (.s p.to)],.row 31 7 D.M.length (aQ aI D.M),.cells 86 [.sl 3 7 0 D.M.length,.mp 6,.mp 7],.row 5 1 k (aQ bG B),.mapb (bQ aB 81) D.gp,.mapl (bQ aB 79) 3 1 D.gs none]) (gG [0] (eZ 61 [0,3,17,18,19]) (bI aB eF))=Tr.rq ((k=B.length∧k=B.length∧∀(e o:Nat),e<B.length→o<1→aQ bG B e o=aQ bG B e o)∧p.to=p.to∧p.to.size≤140737488355328∧(B++gO p.to).length≤140737488355328)
 (.done .normal
 (bS 61 [(0,.c (.ptr 0 0)),(3,.c (.ptr 1 0)),(17,.c (.sl 2 7 0 D.M.length)),(18,.c (.p (.i .i64 (↑D.M.length:Int)))),(19,.c (.p (.i .i64 (↑i:Int))))] [.pin 3 b,.cells 65 [.sl 4 1 0 (B++gO p.to).length],.row 31 7 D.M.length fun e o=>bP [0,1,3,4,10,6,7] (aQ aI D.M e o),.cells 86 [.sl 2 7 0 D.M.length,.mp 5,.mp 6],.row 5 1 (B++gO p.to).length fun e o=>bP [0,1,3,4,10,6,7] (C.p (PV.i bE (↑((B++gO p.to).getD e default).toNat:Int))),.mapb (bQ aB 81) D.gp,.mapl (bQ aB 79) 3 1 D.gs none])):=by kernel_rfl
theorem aO8(i:Nat)(D:Ld)(b k:Nat)(B:List UInt8):dC eW (bJ 3 (gR (cW aB eF) 4)) (bS 61 [(0,.c (.ptr 0 0)),(3,.c (.ptr 1 0)),(17,.c (.sl 2 7 0 D.M.length)),(18,iV D.M.length),(19,iV i)] [.pin 3 b,.cells 65 [.sl 4 1 0 k],.row 31 7 D.M.length (aQ aI D.M),.cells 86 [.sl 2 7 0 D.M.length,.mp 5,.mp 6],.row 5 1 k (aQ bG B),.mapb (bQ aB 81) D.gp,.mapl (bQ aB 79) 3 1 D.gs none]) (gG [0] (eZ 61 [0,3,17,18,19]) (bI aB eF))=Tr.rq (eV aC ((↑i:Int)+1))
 (.done .normal
 (bS 61 [(0,.c (.ptr 0 0)),(3,.c (.ptr 1 0)),(17,.c (.sl 2 7 0 D.M.length)),(18,.c (.p (.i .i64 (↑D.M.length:Int)))),(19,.c (.p (.i .i64 ((↑i:Int)+1))))] [.pin 3 b,.cells 65 [.sl 4 1 0 k],.row 31 7 D.M.length fun e o=>bP [0,1,2,3,4,5,6] (aQ aI D.M e o),.cells 86 [.sl 2 7 0 D.M.length,.mp 5,.mp 6],.row 5 1 k fun e o=>bP [0,1,2,3,4,5,6] (aQ bG B e o),.mapb (bQ aB 81) D.gp,.mapl (bQ aB 79) 3 1 D.gs none])):=by kernel_rfl
theorem aO7(i:Nat)(D:Ld)(b k:Nat)(B:List UInt8):dC (aJ8 B) (bJ 5 (cW aB eF)) (bS 61 [(0,.c (.ptr 0 0)),(3,.c (.ptr 1 0)),(17,.c (.sl 2 7 0 D.M.length)),(18,iV D.M.length),(19,iV i)] [.pin 3 b,.cells 65 [.sl 4 1 0 k],.row 31 7 D.M.length (aQ aI D.M),.cells 86 [.sl 2 7 0 D.M.length,.mp 5,.mp 6],.row 5 1 k (aQ bG B),.mapb (bQ aB 81) D.gp,.mapl (bQ aB 79) 3 1 D.gs none]) (gG [0] [] (bI aB eF))=Tr.rq ((k=B.length∧k=B.length∧∀(e o:Nat),e<B.length→o<1→aQ bG B e o=aQ bG B e o)∧B.length≤140737488355328)
 (.done .ret
 (bS 2 [(0,.c (.ptr 0 0)),(1,.c (.p (.l 1 B.length (aE bG B))))] [.pin 1 b,.cells 86 [.sl 2 7 0 D.M.length,.mp 3,.mp 4],.row 31 7 D.M.length fun e o=>bP [0,3,2,5,6] (aQ aI D.M e o),.mapb (bQ aB 81) D.gp,.mapl (bQ aB 79) 3 1 D.gs none])):=by kernel_rfl
theorem BV(s:ByteArray):s.size≤(gO s).length:=by
 unfold gO
 have:s.data.toList.length=s.size:=by rw[Array.length_toList];rfl
 rw[aV];omega
theorem xN:∀(A C:List Pg),qU (A++C)=qU A++qU C
 |[],C=>rfl
 |p::A,C=>by
  show RC p++qU (A++C)=(RC p++qU A)++qU C
  rw[xN A C,dW]
theorem CB:∀(A C:List (ByteArray×ByteArray)),AW (A++C)=AW A++AW C
 |[],C=>rfl
 |p::A,C=>by
  show (gO p.1++gO p.2)++AW (A++C)=((gO p.1++gO p.2)++AW A)++AW C
  rw[CB A C,dW (gO p.1++gO p.2)]
theorem GP{α:Type}[Inhabited α](L:List α){i:Nat}(h:i<L.length):L.take (i+1)=L.take i++[L.getD i default]:=by
 rw[List.take_add_one,aD,aM h];rfl
section
variable {G:Nat→Option Obj}
theorem mX(B:List UInt8)(m:Int):bH aB G (FF B m):=dZ (by simp;exact aLQ B m)
theorem qR(B:List UInt8)(m:ByteArray):bH aB G (NQ B m):=dZ (by simp;exact aGH B m)
theorem NR(B:List UInt8):bH aB G (aJ8 B):=dZ (by simp;exact aGI B)
set_option maxRecDepth 100000 in
set_option maxHeartbeats 1000000 in
theorem aDU(D:Ld)(hM:∀p∈D.M,JE p)(hMl:D.M.length≤1000000)(hB:(mM D.M).length≤140737488355328)(b:Nat)(Q:X→St→Prop):eL aB G (Zm [0] (bI aB eF) fun s=>cQ G s ⟨[.c (.ptr 0 0)]++[aU bG 1 (mM D.M)],oM D b⟩) (cW aB eF) (jJ eF [0,1,2,3] [0] [b] [.c (.ptr 0 0)] (lN D [])) Q:=by
 refine eL.evG aX 2 (aRO D b) ?_;simp only[aL,cF]
 refine⟨eL.pre ((yW 5 1 (aQ bG []) (id:=1) (k:=0) (t0:=65) (vs:=[.p (.z (.slice none 0 0))]) (by kernel_rfl) (by kernel_rfl)).trans ((fG (eZ 61 [0,3]) _).trans (aJ (st':=(fun k B=>bS 61 [(0,.c (.ptr 0 0)),(3,.c (.ptr 1 0))] [.pin 2 b,.cells 65 [.sl 3 1 0 k],.cells 86 [.sl 4 7 0 D.M.length,.mp 5,.mp 6],.row 5 1 k (aQ bG B),.row 31 7 D.M.length (aQ aI D.M),.mapb (bQ aB 81) D.gp,.mapl (bQ aB 79) 3 1 D.gs none]) 0 []) (by kernel_rfl)))) ?_⟩
 have hnB:(eT (D.M.length:Int)).length≤140737488355328:=by unfold mM at hB;rw[aV]at hB;omega
 refine eL.evG (mX [] D.M.length) 1 (aRN D b 0 []) ?_;simp only[bB,aL,cF]
 refine⟨⟨⟨rfl,rfl,fun _ _ _ _=>trivial⟩,trivial,by simp only[eV];omega,by simpa using hnB⟩,⟨eL.pre (aJ (st':=(fun k B=>bS 61 [(0,.c (.ptr 0 0)),(3,.c (.ptr 1 0))] [.pin 2 b,.cells 65 [.sl 3 1 0 k],.cells 86 [.sl 4 7 0 D.M.length,.mp 5,.mp 6],.row 5 1 k (aQ bG B),.row 31 7 D.M.length (aQ aI D.M),.mapb (bQ aB 81) D.gp,.mapl (bQ aB 79) 3 1 D.gs none]) (eT (D.M.length:Int)).length (eT (D.M.length:Int))) (by kernel_rfl)) ?_⟩⟩
 refine eL.evG aX 1 (aRM D b (eT (D.M.length:Int)).length (eT (D.M.length:Int))) ?_;simp only[aL,cF];refine⟨?_⟩
 refine eL.loop' (l:=bJ 1 (bJ 3 (cW aB eF))) (id:=0) (b:=inr (inr (bF .skip (cW aB eF) 4))) (r:=bJ 5 (cW aB eF)) (by kernel_rfl) (σ:=Nat)
   (fun i=>(fun k B=>bS 61 [(0,.c (.ptr 0 0)),(3,.c (.ptr 1 0)),(17,.c (.sl 2 7 0 D.M.length)),(18,iV D.M.length),(19,iV i)] [.pin 3 b,.cells 65 [.sl 4 1 0 k],.row 31 7 D.M.length (aQ aI D.M),.cells 86 [.sl 2 7 0 D.M.length,.mp 5,.mp 6],.row 5 1 k (aQ bG B),.mapb (bQ aB 81) D.gp,.mapl (bQ aB 79) 3 1 D.gs none]) (eT (D.M.length:Int)++qU (D.M.take i)).length (eT (D.M.length:Int)++qU (D.M.take i))) (fun i=>i≤D.M.length) (fun i=>D.M.length-i) 0 (bW _) (aJ ?_) ?_
 ·show _=(fun(i k:Nat) B=>bS 61 [(0,.c (.ptr 0 0)),(3,.c (.ptr 1 0)),(17,.c (.sl 2 7 0 D.M.length)),(18,iV D.M.length),(19,iV i)] [.pin 3 b,.cells 65 [.sl 4 1 0 k],.row 31 7 D.M.length (aQ aI D.M),.cells 86 [.sl 2 7 0 D.M.length,.mp 5,.mp 6],.row 5 1 k (aQ bG B),.mapb (bQ aB 81) D.gp,.mapl (bQ aB 79) 3 1 D.gs none]) 0 (eT (D.M.length:Int)++qU (D.M.take 0)).length (eT (D.M.length:Int)++qU (D.M.take 0))
  have e:eT (D.M.length:Int)++qU (D.M.take 0)=eT (D.M.length:Int):=fP _
  rw[e];refine Eq.symm ?_
  kernel_rfl
 intro i hi Q1 q1n q1e _
 obtain⟨B0,hB0⟩:∃B0,eT (D.M.length:Int)++qU (D.M.take i)=B0:=⟨_,rfl⟩
 rw[hB0]
 have htot:B0.length+(qU (D.M.drop i)).length=(mM D.M).length:=by
  rw[←hB0,aV,Nat.add_assoc,←aV,←xN,gS];unfold mM;rw[aV]
 refine eL.evG aX 2 (aRL i D b B0.length B0) ?_;simp only[bZ,aL,cF,mC,decide_eq_true_eq,decide_eq_false_iff_not];refine⟨fun h1=>⟨?_⟩,fun h1=>⟨q1e _ ?_⟩⟩
 ·have hlt:i<D.M.length:=by omega
  have hpm:D.M.getD i default∈D.M:=by rw[aD,aM hlt];exact jI hlt
  have hsn:=GP D.M hlt
  have hdr:D.M.drop i=D.M.getD i default::D.M.drop (i+1):=by rw[aD,aM hlt];exact dX hlt
  rw[hdr]at htot
  refine eL.blk' (l:=bJ 2 (gR (cW aB eF) 4)) (id:=1) (a:=inr (bF .skip (gR (cW aB eF) 4) 2)) (r:=bJ 3 (gR (cW aB eF) 4)) (by kernel_rfl) ?_
  intro Q2 q2n q2e _
  refine eL.pre (aJ (st':=(fun k B=>bS 61 [(0,.c (.ptr 0 0)),(3,.c (.ptr 1 0)),(17,.c (.sl 2 7 0 D.M.length)),(18,iV D.M.length),(19,iV i)] [.pin 3 b,.cells 65 [.sl 4 1 0 k],.row 31 7 D.M.length (aQ aI D.M),.cells 86 [.sl 2 7 0 D.M.length,.mp 5,.mp 6],.row 5 1 k (aQ bG B),.mapb (bQ aB 81) D.gp,.mapl (bQ aB 79) 3 1 D.gs none]) B0.length B0) (by kernel_rfl)) (eL.evG aX 1 (aRK i D b B0.length B0) ?_)
  simp only[bB,aL,cF,show (↑i:Int).toNat=i from rfl,gM]
  generalize D.M.getD i default=p at hpm hsn htot ⊢
  obtain⟨p1,p2,p3⟩:=hM p hpm;obtain⟨g1,g2,g3,g4,g5,g6⟩:=iM.1 p1
  have gL:=(kS g3).1
  have gst:=oX g4
  have gse:=oX g5
  have htot:B0.length+(RC p++qU (D.M.drop (i+1))).length=(mM D.M).length:=htot
  have hpl:(RC p).length=(eT p.kd).length+(gO p.ru).length+(eT p.ve).length+(eT p.L.length).length+(AW p.L).length+(eT p.st).length+(eT p.se).length+(gO p.to).length:=by unfold RC;simp only[aV]
  rw[aV,hpl]at htot
  have zr:=BV p.ru
  have zt:=BV p.to
  refine⟨⟨by omega,by omega⟩,by omega,⟨eL.pre (aJ (st':=(fun k B=>bS 61 [(0,.c (.ptr 0 0)),(3,.c (.ptr 1 0)),(5,.c (.ptr 2 0)),(17,.c (.sl 3 7 0 D.M.length)),(18,iV D.M.length),(19,iV i)] [.pin 4 b,.cells 65 [.sl 5 1 0 k],.cells 31 [.p (.i .i64 p.kd),.p (.s p.ru),.p (.i .i64 p.ve),.p (bY aN 2 p.L),.p (.i .i64 p.st),.p (.i .i64 p.se),.p (.s p.to)],.row 31 7 D.M.length (aQ aI D.M),.cells 86 [.sl 3 7 0 D.M.length,.mp 6,.mp 7],.row 5 1 k (aQ bG B),.mapb (bQ aB 81) D.gp,.mapl (bQ aB 79) 3 1 D.gs none]) B0.length B0) (by kernel_rfl)) ?_⟩⟩
  refine eL.evG (mX (B0) p.kd) 1 (aRJ i p D b (B0).length (B0)) ?_;simp only[bB,aL,cF]
  refine⟨⟨⟨trivial,trivial,fun _ _ _ _=>trivial⟩,trivial,(by simp only[eV];omega),by simp only[aV];omega⟩,⟨eL.pre (aJ (st':=(fun k B=>bS 61 [(0,.c (.ptr 0 0)),(3,.c (.ptr 1 0)),(5,.c (.ptr 2 0)),(17,.c (.sl 3 7 0 D.M.length)),(18,iV D.M.length),(19,iV i)] [.pin 4 b,.cells 65 [.sl 5 1 0 k],.cells 31 [.p (.i .i64 p.kd),.p (.s p.ru),.p (.i .i64 p.ve),.p (bY aN 2 p.L),.p (.i .i64 p.st),.p (.i .i64 p.se),.p (.s p.to)],.row 31 7 D.M.length (aQ aI D.M),.cells 86 [.sl 3 7 0 D.M.length,.mp 6,.mp 7],.row 5 1 k (aQ bG B),.mapb (bQ aB 81) D.gp,.mapl (bQ aB 79) 3 1 D.gs none]) (B0++eT p.kd).length (B0++eT p.kd)) (by kernel_rfl)) ?_⟩⟩
  refine eL.evG (qR ((B0++eT p.kd)) p.ru) 1 (aRI i p D b ((B0++eT p.kd)).length ((B0++eT p.kd))) ?_;simp only[bB,aL,cF]
  refine⟨⟨⟨trivial,trivial,fun _ _ _ _=>trivial⟩,trivial,(by omega),by simp only[aV];omega⟩,⟨eL.pre (aJ (st':=(fun k B=>bS 61 [(0,.c (.ptr 0 0)),(3,.c (.ptr 1 0)),(5,.c (.ptr 2 0)),(17,.c (.sl 3 7 0 D.M.length)),(18,iV D.M.length),(19,iV i)] [.pin 4 b,.cells 65 [.sl 5 1 0 k],.cells 31 [.p (.i .i64 p.kd),.p (.s p.ru),.p (.i .i64 p.ve),.p (bY aN 2 p.L),.p (.i .i64 p.st),.p (.i .i64 p.se),.p (.s p.to)],.row 31 7 D.M.length (aQ aI D.M),.cells 86 [.sl 3 7 0 D.M.length,.mp 6,.mp 7],.row 5 1 k (aQ bG B),.mapb (bQ aB 81) D.gp,.mapl (bQ aB 79) 3 1 D.gs none]) ((B0++eT p.kd)++gO p.ru).length ((B0++eT p.kd)++gO p.ru)) (by kernel_rfl)) ?_⟩⟩
  refine eL.evG (mX (((B0++eT p.kd)++gO p.ru)) p.ve) 1 (aRH i p D b (((B0++eT p.kd)++gO p.ru)).length (((B0++eT p.kd)++gO p.ru))) ?_;simp only[bB,aL,cF]
  refine⟨⟨⟨trivial,trivial,fun _ _ _ _=>trivial⟩,trivial,p2,by simp only[aV];omega⟩,⟨eL.pre (aJ (st':=(fun k B=>bS 61 [(0,.c (.ptr 0 0)),(3,.c (.ptr 1 0)),(5,.c (.ptr 2 0)),(17,.c (.sl 3 7 0 D.M.length)),(18,iV D.M.length),(19,iV i)] [.pin 4 b,.cells 65 [.sl 5 1 0 k],.cells 31 [.p (.i .i64 p.kd),.p (.s p.ru),.p (.i .i64 p.ve),.p (bY aN 2 p.L),.p (.i .i64 p.st),.p (.i .i64 p.se),.p (.s p.to)],.row 31 7 D.M.length (aQ aI D.M),.cells 86 [.sl 3 7 0 D.M.length,.mp 6,.mp 7],.row 5 1 k (aQ bG B),.mapb (bQ aB 81) D.gp,.mapl (bQ aB 79) 3 1 D.gs none]) (((B0++eT p.kd)++gO p.ru)++eT p.ve).length (((B0++eT p.kd)++gO p.ru)++eT p.ve)) (by kernel_rfl)) ?_⟩⟩
  refine eL.evG (mX ((((B0++eT p.kd)++gO p.ru)++eT p.ve)) p.L.length) 1 (aRG i p D b ((((B0++eT p.kd)++gO p.ru)++eT p.ve)).length ((((B0++eT p.kd)++gO p.ru)++eT p.ve))) ?_;simp only[bB,aL,cF]
  refine⟨⟨⟨trivial,trivial,fun _ _ _ _=>trivial⟩,trivial,(by simp only[eV];omega),by simp only[aV];omega⟩,⟨eL.pre (aJ (st':=(fun k B=>bS 61 [(0,.c (.ptr 0 0)),(3,.c (.ptr 1 0)),(5,.c (.ptr 2 0)),(17,.c (.sl 3 7 0 D.M.length)),(18,iV D.M.length),(19,iV i)] [.pin 4 b,.cells 65 [.sl 5 1 0 k],.cells 31 [.p (.i .i64 p.kd),.p (.s p.ru),.p (.i .i64 p.ve),.p (bY aN 2 p.L),.p (.i .i64 p.st),.p (.i .i64 p.se),.p (.s p.to)],.row 31 7 D.M.length (aQ aI D.M),.cells 86 [.sl 3 7 0 D.M.length,.mp 6,.mp 7],.row 5 1 k (aQ bG B),.mapb (bQ aB 81) D.gp,.mapl (bQ aB 79) 3 1 D.gs none]) ((((B0++eT p.kd)++gO p.ru)++eT p.ve)++eT p.L.length).length ((((B0++eT p.kd)++gO p.ru)++eT p.ve)++eT p.L.length)) (by kernel_rfl)) ?_⟩⟩
  obtain⟨B4,hB4⟩:∃B4,((((B0++eT p.kd)++gO p.ru)++eT p.ve)++eT p.L.length)=B4:=⟨_,rfl⟩
  have hB4l:B4.length=B0.length+(eT p.kd).length+(gO p.ru).length+(eT p.ve).length+(eT p.L.length).length:=by rw[←hB4];simp only[aV]
  rw[hB4];refine eL.evG aX 1 (aRF i p D b B4.length B4) ?_;simp only[aL,cF];refine⟨?_⟩
  refine eL.loop' (l:=bJ 1 (bJ 5 (eX (inr (bF .skip (gR (cW aB eF) 4) 2))))) (id:=2) (b:=inr (inr (bF .skip (eX (inr (bF .skip (gR (cW aB eF) 4) 2))) 6))) (r:=bJ 7 (eX (inr (bF .skip (gR (cW aB eF) 4) 2)))) (by kernel_rfl) (σ:=Nat)
    (fun j=>(fun k B=>bS 61 [(0,.c (.ptr 0 0)),(3,.c (.ptr 1 0)),(5,.c (.ptr 2 0)),(17,.c (.sl 3 7 0 D.M.length)),(18,iV D.M.length),(19,iV i),(37,aU aN 2 p.L),(38,iV p.L.length),(39,iV j)] [.pin 4 b,.cells 65 [.sl 5 1 0 k],.cells 31 [.p (.i .i64 p.kd),.p (.s p.ru),.p (.i .i64 p.ve),.p (bY aN 2 p.L),.p (.i .i64 p.st),.p (.i .i64 p.se),.p (.s p.to)],.row 31 7 D.M.length (aQ aI D.M),.cells 86 [.sl 3 7 0 D.M.length,.mp 6,.mp 7],.row 5 1 k (aQ bG B),.mapb (bQ aB 81) D.gp,.mapl (bQ aB 79) 3 1 D.gs none]) (B4++AW (p.L.take j)).length (B4++AW (p.L.take j))) (fun j=>j≤p.L.length) (fun j=>p.L.length-j) 0 (bW _) (aJ ?_) ?_
  ·show _=(fun(j k:Nat) B=>bS 61 [(0,.c (.ptr 0 0)),(3,.c (.ptr 1 0)),(5,.c (.ptr 2 0)),(17,.c (.sl 3 7 0 D.M.length)),(18,iV D.M.length),(19,iV i),(37,aU aN 2 p.L),(38,iV p.L.length),(39,iV j)] [.pin 4 b,.cells 65 [.sl 5 1 0 k],.cells 31 [.p (.i .i64 p.kd),.p (.s p.ru),.p (.i .i64 p.ve),.p (bY aN 2 p.L),.p (.i .i64 p.st),.p (.i .i64 p.se),.p (.s p.to)],.row 31 7 D.M.length (aQ aI D.M),.cells 86 [.sl 3 7 0 D.M.length,.mp 6,.mp 7],.row 5 1 k (aQ bG B),.mapb (bQ aB 81) D.gp,.mapl (bQ aB 79) 3 1 D.gs none]) 0 (B4++AW (p.L.take 0)).length (B4++AW (p.L.take 0))
   have e:B4++AW (p.L.take 0)=B4:=fP _
   rw[e];refine Eq.symm ?_
   kernel_rfl
  ·intro j hj Q3 q3n q3e _
   obtain⟨B5,hB5⟩:∃B5,B4++AW (p.L.take j)=B5:=⟨_,rfl⟩
   rw[hB5]
   have hB5l:B5.length+(AW (p.L.drop j)).length=B4.length+(AW p.L).length:=by
    rw[←hB5,aV,Nat.add_assoc,←aV,←CB,gS]
   refine eL.evG aX 2 (aOG i j p D b B5.length B5) ?_;simp only[bZ,aL,cF,mC,decide_eq_true_eq,decide_eq_false_iff_not];refine⟨fun h2=>⟨?_⟩,fun h2=>⟨q3e _ ?_⟩⟩
   ·have hlj:j<p.L.length:=by omega
    have hsj:=GP p.L hlj
    have hdj:p.L.drop j=p.L.getD j default::p.L.drop (j+1):=by rw[aD,aM hlj];exact dX hlj
    rw[hdj]at hB5l
    refine eL.blk' (l:=bJ 2 (gR (eX (inr (bF .skip (gR (cW aB eF) 4) 2))) 6)) (id:=3) (a:=inr (bF .skip (gR (eX (inr (bF .skip (gR (cW aB eF) 4) 2))) 6) 2)) (r:=bJ 3 (gR (eX (inr (bF .skip (gR (cW aB eF) 4) 2))) 6)) (by kernel_rfl) ?_
    intro Q4 q4n q4e _
    refine eL.pre (aJ (st':=(fun k B=>bS 61 [(0,.c (.ptr 0 0)),(3,.c (.ptr 1 0)),(5,.c (.ptr 2 0)),(17,.c (.sl 3 7 0 D.M.length)),(18,iV D.M.length),(19,iV i),(37,aU aN 2 p.L),(38,iV p.L.length),(39,iV j)] [.pin 4 b,.cells 65 [.sl 5 1 0 k],.cells 31 [.p (.i .i64 p.kd),.p (.s p.ru),.p (.i .i64 p.ve),.p (bY aN 2 p.L),.p (.i .i64 p.st),.p (.i .i64 p.se),.p (.s p.to)],.row 31 7 D.M.length (aQ aI D.M),.cells 86 [.sl 3 7 0 D.M.length,.mp 6,.mp 7],.row 5 1 k (aQ bG B),.mapb (bQ aB 81) D.gp,.mapl (bQ aB 79) 3 1 D.gs none]) B5.length B5) (by kernel_rfl)) (eL.evG aX 1 (aOF i j p D b B5.length B5) ?_)
    simp only[bB,aL,cF,show (↑j:Int).toNat=j from rfl]
    generalize p.L.getD j default=x at hsj hB5l ⊢
    have hB5l:B5.length+((gO x.1++gO x.2)++AW (p.L.drop (j+1))).length=B4.length+(AW p.L).length:=hB5l
    simp only[aV]at hB5l
    have z1:=BV x.1
    have z2:=BV x.2
    refine⟨⟨by omega,by omega⟩,⟨eL.pre (aJ (st':=(fun k B=>bS 61 [(0,.c (.ptr 0 0)),(3,.c (.ptr 1 0)),(5,.c (.ptr 2 0)),(7,.c (.ptr 3 0)),(17,.c (.sl 4 7 0 D.M.length)),(18,iV D.M.length),(19,iV i),(37,aU aN 2 p.L),(38,iV p.L.length),(39,iV j)] [.pin 5 b,.cells 65 [.sl 6 1 0 k],.cells 31 [.p (.i .i64 p.kd),.p (.s p.ru),.p (.i .i64 p.ve),.p (bY aN 2 p.L),.p (.i .i64 p.st),.p (.i .i64 p.se),.p (.s p.to)],.cells 56 [.p (.s x.1),.p (.s x.2)],.row 31 7 D.M.length (aQ aI D.M),.cells 86 [.sl 4 7 0 D.M.length,.mp 7,.mp 8],.row 5 1 k (aQ bG B),.mapb (bQ aB 81) D.gp,.mapl (bQ aB 79) 3 1 D.gs none]) B5.length B5) (by kernel_rfl)) ?_⟩⟩
    refine eL.evG (qR B5 x.1) 1 (aOE i j p x D b B5.length B5) ?_;simp only[bB,aL,cF]
    refine⟨⟨⟨trivial,trivial,fun _ _ _ _=>trivial⟩,trivial,by omega,by simp only[aV];omega⟩,⟨eL.pre (aJ (st':=(fun k B=>bS 61 [(0,.c (.ptr 0 0)),(3,.c (.ptr 1 0)),(5,.c (.ptr 2 0)),(7,.c (.ptr 3 0)),(17,.c (.sl 4 7 0 D.M.length)),(18,iV D.M.length),(19,iV i),(37,aU aN 2 p.L),(38,iV p.L.length),(39,iV j)] [.pin 5 b,.cells 65 [.sl 6 1 0 k],.cells 31 [.p (.i .i64 p.kd),.p (.s p.ru),.p (.i .i64 p.ve),.p (bY aN 2 p.L),.p (.i .i64 p.st),.p (.i .i64 p.se),.p (.s p.to)],.cells 56 [.p (.s x.1),.p (.s x.2)],.row 31 7 D.M.length (aQ aI D.M),.cells 86 [.sl 4 7 0 D.M.length,.mp 7,.mp 8],.row 5 1 k (aQ bG B),.mapb (bQ aB 81) D.gp,.mapl (bQ aB 79) 3 1 D.gs none]) (B5++gO x.1).length (B5++gO x.1)) (by kernel_rfl)) ?_⟩⟩
    refine eL.evH (qR (B5++gO x.1) x.2) (aOD i j p x D b (B5++gO x.1).length (B5++gO x.1)) ?_;simp only[bB,aL,cF]
    refine⟨⟨⟨trivial,trivial,fun _ _ _ _=>trivial⟩,trivial,by omega,by simp only[aV];omega⟩,⟨q4n _ (eL.pre (aJ (st':=(fun k B=>bS 61 [(0,.c (.ptr 0 0)),(3,.c (.ptr 1 0)),(5,.c (.ptr 2 0)),(17,.c (.sl 3 7 0 D.M.length)),(18,iV D.M.length),(19,iV i),(37,aU aN 2 p.L),(38,iV p.L.length),(39,iV j)] [.pin 4 b,.cells 65 [.sl 5 1 0 k],.cells 31 [.p (.i .i64 p.kd),.p (.s p.ru),.p (.i .i64 p.ve),.p (bY aN 2 p.L),.p (.i .i64 p.st),.p (.i .i64 p.se),.p (.s p.to)],.row 31 7 D.M.length (aQ aI D.M),.cells 86 [.sl 3 7 0 D.M.length,.mp 6,.mp 7],.row 5 1 k (aQ bG B),.mapb (bQ aB 81) D.gp,.mapl (bQ aB 79) 3 1 D.gs none]) ((B5++gO x.1)++gO x.2).length ((B5++gO x.1)++gO x.2)) (by kernel_rfl)) ?_)⟩⟩
    refine eL.evH aX (aOC i j p D b ((B5++gO x.1)++gO x.2).length ((B5++gO x.1)++gO x.2)) ?_;simp only[bB,aL,cF,eV];refine⟨by omega,⟨q3n (j+1) _ (by omega) (by omega) ?_⟩⟩
    have e:B4++AW (p.L.take (j+1))=(B5++gO x.1)++gO x.2:=by
     rw[hsj,CB,←dW,hB5]
     show B5++((gO x.1++gO x.2)++[])=_
     rw[fP,dW]
    rw[e]
    exact aJ (by kernel_rfl)
   ·obtain rfl:j=p.L.length:=by omega
    rw[fS]at hB5
    have hB5l:B5.length=B4.length+(AW p.L).length:=by rw[←hB5,aV]
    refine eL.pre ((fG (eZ 61 [0,3,5,17,18,19]) _).trans (aJ (st':=(fun k B=>bS 61 [(0,.c (.ptr 0 0)),(3,.c (.ptr 1 0)),(5,.c (.ptr 2 0)),(17,.c (.sl 3 7 0 D.M.length)),(18,iV D.M.length),(19,iV i)] [.pin 4 b,.cells 65 [.sl 5 1 0 k],.cells 31 [.p (.i .i64 p.kd),.p (.s p.ru),.p (.i .i64 p.ve),.p (bY aN 2 p.L),.p (.i .i64 p.st),.p (.i .i64 p.se),.p (.s p.to)],.row 31 7 D.M.length (aQ aI D.M),.cells 86 [.sl 3 7 0 D.M.length,.mp 6,.mp 7],.row 5 1 k (aQ bG B),.mapb (bQ aB 81) D.gp,.mapl (bQ aB 79) 3 1 D.gs none]) B5.length B5) (by kernel_rfl))) ?_
    refine eL.evG (mX (B5) p.st) 1 (aOB i p D b (B5).length (B5)) ?_;simp only[bB,aL,cF]
    refine⟨⟨⟨trivial,trivial,fun _ _ _ _=>trivial⟩,trivial,gst,by simp only[aV];omega⟩,⟨eL.pre (aJ (st':=(fun k B=>bS 61 [(0,.c (.ptr 0 0)),(3,.c (.ptr 1 0)),(5,.c (.ptr 2 0)),(17,.c (.sl 3 7 0 D.M.length)),(18,iV D.M.length),(19,iV i)] [.pin 4 b,.cells 65 [.sl 5 1 0 k],.cells 31 [.p (.i .i64 p.kd),.p (.s p.ru),.p (.i .i64 p.ve),.p (bY aN 2 p.L),.p (.i .i64 p.st),.p (.i .i64 p.se),.p (.s p.to)],.row 31 7 D.M.length (aQ aI D.M),.cells 86 [.sl 3 7 0 D.M.length,.mp 6,.mp 7],.row 5 1 k (aQ bG B),.mapb (bQ aB 81) D.gp,.mapl (bQ aB 79) 3 1 D.gs none]) (B5++eT p.st).length (B5++eT p.st)) (by kernel_rfl)) ?_⟩⟩
    refine eL.evG (mX ((B5++eT p.st)) p.se) 1 (aOA i p D b ((B5++eT p.st)).length ((B5++eT p.st))) ?_;simp only[bB,aL,cF]
    refine⟨⟨⟨trivial,trivial,fun _ _ _ _=>trivial⟩,trivial,gse,by simp only[aV];omega⟩,⟨eL.pre (aJ (st':=(fun k B=>bS 61 [(0,.c (.ptr 0 0)),(3,.c (.ptr 1 0)),(5,.c (.ptr 2 0)),(17,.c (.sl 3 7 0 D.M.length)),(18,iV D.M.length),(19,iV i)] [.pin 4 b,.cells 65 [.sl 5 1 0 k],.cells 31 [.p (.i .i64 p.kd),.p (.s p.ru),.p (.i .i64 p.ve),.p (bY aN 2 p.L),.p (.i .i64 p.st),.p (.i .i64 p.se),.p (.s p.to)],.row 31 7 D.M.length (aQ aI D.M),.cells 86 [.sl 3 7 0 D.M.length,.mp 6,.mp 7],.row 5 1 k (aQ bG B),.mapb (bQ aB 81) D.gp,.mapl (bQ aB 79) 3 1 D.gs none]) ((B5++eT p.st)++eT p.se).length ((B5++eT p.st)++eT p.se)) (by kernel_rfl)) ?_⟩⟩
    refine eL.evH (qR ((B5++eT p.st)++eT p.se) p.to) (aO9 i p D b ((B5++eT p.st)++eT p.se).length ((B5++eT p.st)++eT p.se)) ?_;simp only[bB,aL,cF]
    refine⟨⟨⟨trivial,trivial,fun _ _ _ _=>trivial⟩,trivial,by omega,by simp only[aV];omega⟩,⟨q2n _ (eL.pre (aJ (st':=(fun k B=>bS 61 [(0,.c (.ptr 0 0)),(3,.c (.ptr 1 0)),(17,.c (.sl 2 7 0 D.M.length)),(18,iV D.M.length),(19,iV i)] [.pin 3 b,.cells 65 [.sl 4 1 0 k],.row 31 7 D.M.length (aQ aI D.M),.cells 86 [.sl 2 7 0 D.M.length,.mp 5,.mp 6],.row 5 1 k (aQ bG B),.mapb (bQ aB 81) D.gp,.mapl (bQ aB 79) 3 1 D.gs none]) (((B5++eT p.st)++eT p.se)++gO p.to).length (((B5++eT p.st)++eT p.se)++gO p.to)) (by kernel_rfl)) ?_)⟩⟩
    refine eL.evH aX (aO8 i D b (((B5++eT p.st)++eT p.se)++gO p.to).length (((B5++eT p.st)++eT p.se)++gO p.to)) ?_;simp only[bB,aL,cF,eV];refine⟨by omega,⟨q1n (i+1) _ (by omega) (by omega) ?_⟩⟩
    have e:eT (D.M.length:Int)++qU (D.M.take (i+1))=((B5++eT p.st)++eT p.se)++gO p.to:=by
     rw[hsn,xN,←dW,hB0,←hB5,←hB4]
     show B0++(RC p++[])=_
     unfold RC;simp only[fP,dW]
    rw[e]
    exact aJ (by kernel_rfl)
 ·obtain rfl:i=D.M.length:=by omega
  rw[fS]at hB0
  have hB0:mM D.M=B0:=hB0
  refine eL.pre (aJ (st':=(fun i k B=>bS 61 [(0,.c (.ptr 0 0)),(3,.c (.ptr 1 0)),(17,.c (.sl 2 7 0 D.M.length)),(18,iV D.M.length),(19,iV i)] [.pin 3 b,.cells 65 [.sl 4 1 0 k],.row 31 7 D.M.length (aQ aI D.M),.cells 86 [.sl 2 7 0 D.M.length,.mp 5,.mp 6],.row 5 1 k (aQ bG B),.mapb (bQ aB 81) D.gp,.mapl (bQ aB 79) 3 1 D.gs none]) D.M.length B0.length B0) (by kernel_rfl)) ?_
  refine eL.evH (NR B0) (aO7 D.M.length D b B0.length B0) ?_;simp only[bB,aL,jP];refine⟨⟨⟨trivial,trivial,fun _ _ _ _=>trivial⟩,by omega⟩,⟨?_⟩⟩;rw[hB0]
  exact aJ (by kernel_rfl)
end
def mB(B:List UInt8):Nat→Rs→List (ByteArray×ByteArray)×Rs
 |0,s=>([],s)
 |n+1,s=>let r:=mB B n s
  (r.1++[((jF B r.2).1,(jF B (jF B r.2).2).1)],(jF B (jF B r.2).2).2)
def uV(B:List UInt8)(s:Rs):Int×ByteArray×Int×Int×Rs:=
 ((fO B s).1,(jF B (fO B s).2).1,(fO B (jF B (fO B s).2).2).1,(fO B (fO B (jF B (fO B s).2).2).2).1,(fO B (fO B (jF B (fO B s).2).2).2).2)
def tlS(B:List UInt8)(s:Rs):Int×Int×ByteArray×Rs:=
 ((fO B s).1,(fO B (fO B s).2).1,(jF B (fO B (fO B s).2).2).1,(jF B (fO B (fO B s).2).2).2)
def pg0:Pg:=⟨0,⟨#[]⟩,0,[],0,0,⟨#[]⟩⟩
def jS(B:List UInt8)(s:Rs):Pg×Bool×Rs:=
 let h:=uV B s
 if h.2.2.2.1<0∨8<h.2.2.2.1 then (pg0,false,h.2.2.2.2) else
  let l:=mB B h.2.2.2.1.toNat h.2.2.2.2
  let t:=tlS B l.2
  (⟨h.1,h.2.1,h.2.2.1,l.1,t.1,t.2.1,t.2.2.1⟩,true,t.2.2.2)
def WH(B:List UInt8)(F:Rs→Int×Rs)(T:Rs→ByteArray×Rs):Ext:=lH [(67,VG B F),(88,SE B T)]
theorem aQG(B:List UInt8)(F:Rs→Int×Rs)(T:Rs→ByteArray×Rs)(a:Nat)(e:Int)(b:Nat):dC (WH B F T) (dH 3 (cW aB iY)) (jJ iY [0] [0] [b] [.c (.ptr 0 0)] [lI B ⟨a,e⟩]) (gG [0] (eZ 48 [0,2,4,5]) (bI aB iY))=Tr.rq
 ((bP [0] (C.p (PV.l 1 B.length (aE bG B)))=C.p (PV.l 1 B.length (aE bG B))∧0≤(↑(Rs.mk a e).at_:Int)∧(↑(Rs.mk a e).at_:Int)≤(↑B.length:Int)∧B.length≤140737488355328) ∧
 F=fO B)
 (.rq
 ((C.p (PV.l 1 B.length (aE bG B))=C.p (PV.l 1 B.length (aE bG B)) ∧
 0≤(↑(F (Rs.mk (↑(Rs.mk a e).at_:Int).toNat (Rs.mk a e).er)).snd.at_:Int) ∧
 (↑(F (Rs.mk (↑(Rs.mk a e).at_:Int).toNat (Rs.mk a e).er)).snd.at_:Int)≤(↑B.length:Int)∧B.length≤140737488355328) ∧
 T=jF B)
 (.rq
 ((C.p (PV.l 1 B.length (aE bG B))=C.p (PV.l 1 B.length (aE bG B)) ∧
 0≤(↑(T (Rs.mk (↑(F (Rs.mk (↑(Rs.mk a e).at_:Int).toNat (Rs.mk a e).er)).snd.at_:Int).toNat (F (Rs.mk (↑(Rs.mk a e).at_:Int).toNat (Rs.mk a e).er)).snd.er)).snd.at_:Int) ∧
 (↑(T (Rs.mk (↑(F (Rs.mk (↑(Rs.mk a e).at_:Int).toNat (Rs.mk a e).er)).snd.at_:Int).toNat (F (Rs.mk (↑(Rs.mk a e).at_:Int).toNat (Rs.mk a e).er)).snd.er)).snd.at_:Int) ≤
 (↑B.length:Int) ∧
 B.length≤140737488355328) ∧
 F=fO B)
 (.rq
 ((C.p (PV.l 1 B.length (aE bG B))=C.p (PV.l 1 B.length (aE bG B)) ∧
 0 ≤
 (↑(F
 (Rs.mk
 (↑(T (Rs.mk (↑(F (Rs.mk (↑(Rs.mk a e).at_:Int).toNat (Rs.mk a e).er)).snd.at_:Int).toNat (F (Rs.mk (↑(Rs.mk a e).at_:Int).toNat (Rs.mk a e).er)).snd.er)).snd.at_ :
 Int).toNat
 (T
 (Rs.mk (↑(F (Rs.mk (↑(Rs.mk a e).at_:Int).toNat (Rs.mk a e).er)).snd.at_:Int).toNat
 (F (Rs.mk (↑(Rs.mk a e).at_:Int).toNat (Rs.mk a e).er)).snd.er)).snd.er)).snd.at_ :
 Int) ∧
 (↑(F
 (Rs.mk
 (↑(T (Rs.mk (↑(F (Rs.mk (↑(Rs.mk a e).at_:Int).toNat (Rs.mk a e).er)).snd.at_:Int).toNat (F (Rs.mk (↑(Rs.mk a e).at_:Int).toNat (Rs.mk a e).er)).snd.er)).snd.at_ :
 Int).toNat
 (T
 (Rs.mk (↑(F (Rs.mk (↑(Rs.mk a e).at_:Int).toNat (Rs.mk a e).er)).snd.at_:Int).toNat
 (F (Rs.mk (↑(Rs.mk a e).at_:Int).toNat (Rs.mk a e).er)).snd.er)).snd.er)).snd.at_ :
 Int) ≤
 (↑B.length:Int) ∧
 B.length≤140737488355328) ∧
 F=fO B)
 (.done .normal
 (bS 48 [(0,.c (.ptr 0 0)),(2,.c (.ptr 1 0)),(4,.c (.ptr 2 0)),(5,.c (.p (.i .i64 (F (Rs.mk (↑(F (Rs.mk (↑(T (Rs.mk (↑(F (Rs.mk (↑(Rs.mk a e).at_:Int).toNat (Rs.mk a e).er)).snd.at_:Int).toNat (F (Rs.mk (↑(Rs.mk a e).at_:Int).toNat (Rs.mk a e).er)).snd.er)).snd.at_:Int).toNat (T (Rs.mk (↑(F (Rs.mk (↑(Rs.mk a e).at_:Int).toNat (Rs.mk a e).er)).snd.at_:Int).toNat (F (Rs.mk (↑(Rs.mk a e).at_:Int).toNat (Rs.mk a e).er)).snd.er)).snd.er)).snd.at_:Int).toNat (F (Rs.mk (↑(T (Rs.mk (↑(F (Rs.mk (↑(Rs.mk a e).at_:Int).toNat (Rs.mk a e).er)).snd.at_:Int).toNat (F (Rs.mk (↑(Rs.mk a e).at_:Int).toNat (Rs.mk a e).er)).snd.er)).snd.at_:Int).toNat (T (Rs.mk (↑(F (Rs.mk (↑(Rs.mk a e).at_:Int).toNat (Rs.mk a e).er)).snd.at_:Int).toNat (F (Rs.mk (↑(Rs.mk a e).at_:Int).toNat (Rs.mk a e).er)).snd.er)).snd.er)).snd.er)).fst)))] [.pin 3 b,.cells 31 [.p (.i .i64 0),.p (.s (aG #[])),.p (.i .i64 0),.p (.z (bA none 0 0)),.p (.i .i64 0),.p (.i .i64 0),.p (.s (aG #[]))],.cells 31 [.p (.i .i64 (F (Rs.mk (↑(Rs.mk a e).at_:Int).toNat (Rs.mk a e).er)).fst),.p (.s (T (Rs.mk (↑(F (Rs.mk (↑(Rs.mk a e).at_:Int).toNat (Rs.mk a e).er)).snd.at_:Int).toNat (F (Rs.mk (↑(Rs.mk a e).at_:Int).toNat (Rs.mk a e).er)).snd.er)).fst),.p (.i .i64 (F (Rs.mk (↑(T (Rs.mk (↑(F (Rs.mk (↑(Rs.mk a e).at_:Int).toNat (Rs.mk a e).er)).snd.at_:Int).toNat (F (Rs.mk (↑(Rs.mk a e).at_:Int).toNat (Rs.mk a e).er)).snd.er)).snd.at_:Int).toNat (T (Rs.mk (↑(F (Rs.mk (↑(Rs.mk a e).at_:Int).toNat (Rs.mk a e).er)).snd.at_:Int).toNat (F (Rs.mk (↑(Rs.mk a e).at_:Int).toNat (Rs.mk a e).er)).snd.er)).snd.er)).fst),.p (.z (bA none 0 0)),.p (.i .i64 0),.p (.i .i64 0),.p (.s (aG #[]))],.cells 123 [.p (.l 1 B.length (aE bG B)),.p (.i .i64 (↑(F (Rs.mk (↑(F (Rs.mk (↑(T (Rs.mk (↑(F (Rs.mk (↑(Rs.mk a e).at_:Int).toNat (Rs.mk a e).er)).snd.at_:Int).toNat (F (Rs.mk (↑(Rs.mk a e).at_:Int).toNat (Rs.mk a e).er)).snd.er)).snd.at_:Int).toNat (T (Rs.mk (↑(F (Rs.mk (↑(Rs.mk a e).at_:Int).toNat (Rs.mk a e).er)).snd.at_:Int).toNat (F (Rs.mk (↑(Rs.mk a e).at_:Int).toNat (Rs.mk a e).er)).snd.er)).snd.er)).snd.at_:Int).toNat (F (Rs.mk (↑(T (Rs.mk (↑(F (Rs.mk (↑(Rs.mk a e).at_:Int).toNat (Rs.mk a e).er)).snd.at_:Int).toNat (F (Rs.mk (↑(Rs.mk a e).at_:Int).toNat (Rs.mk a e).er)).snd.er)).snd.at_:Int).toNat (T (Rs.mk (↑(F (Rs.mk (↑(Rs.mk a e).at_:Int).toNat (Rs.mk a e).er)).snd.at_:Int).toNat (F (Rs.mk (↑(Rs.mk a e).at_:Int).toNat (Rs.mk a e).er)).snd.er)).snd.er)).snd.er)).snd.at_:Int)),.p (.i .i64 (F (Rs.mk (↑(F (Rs.mk (↑(T (Rs.mk (↑(F (Rs.mk (↑(Rs.mk a e).at_:Int).toNat (Rs.mk a e).er)).snd.at_:Int).toNat (F (Rs.mk (↑(Rs.mk a e).at_:Int).toNat (Rs.mk a e).er)).snd.er)).snd.at_:Int).toNat (T (Rs.mk (↑(F (Rs.mk (↑(Rs.mk a e).at_:Int).toNat (Rs.mk a e).er)).snd.at_:Int).toNat (F (Rs.mk (↑(Rs.mk a e).at_:Int).toNat (Rs.mk a e).er)).snd.er)).snd.er)).snd.at_:Int).toNat (F (Rs.mk (↑(T (Rs.mk (↑(F (Rs.mk (↑(Rs.mk a e).at_:Int).toNat (Rs.mk a e).er)).snd.at_:Int).toNat (F (Rs.mk (↑(Rs.mk a e).at_:Int).toNat (Rs.mk a e).er)).snd.er)).snd.at_:Int).toNat (T (Rs.mk (↑(F (Rs.mk (↑(Rs.mk a e).at_:Int).toNat (Rs.mk a e).er)).snd.at_:Int).toNat (F (Rs.mk (↑(Rs.mk a e).at_:Int).toNat (Rs.mk a e).er)).snd.er)).snd.er)).snd.er)).snd.er)]]))))):=by kernel_rfl
theorem aQF(B:List UInt8)(kd ve n:Int)(ru:ByteArray)(a:Nat)(e:Int)(b:Nat):dC eW (dH 3 (bJ 3 (cW aB iY))) (bS 48 [(0,.c (.ptr 0 0)),(2,.c (.ptr 1 0)),(4,.c (.ptr 2 0)),(5,iV n)] [.pin 3 b,.cells 31 [.p (.i .i64 0),.p (.s ⟨#[]⟩),.p (.i .i64 0),.p (.z (.slice none 0 0)),.p (.i .i64 0),.p (.i .i64 0),.p (.s ⟨#[]⟩)],.cells 31 [.p (.i .i64 kd),.p (.s ru),.p (.i .i64 ve),.p (.z (.slice none 0 0)),.p (.i .i64 0),.p (.i .i64 0),.p (.s ⟨#[]⟩)],lI B ⟨a,e⟩]) (gG [0] (eZ 48 [0,2,4,23,24]) (bI aB iY))=bT (decide (n<0))
 (.done .ret
 (bS 3 [(0,.c (.ptr 0 0)),(1,.a [.p (.i .i64 0),.p (.s (aG #[])),.p (.i .i64 0),.p (.z (bA none 0 0)),.p (.i .i64 0),.p (.i .i64 0),.p (.s (aG #[]))]),(2,.c (.p (.b false)))] [.pin 1 b,.cells 123 [.p (.l 1 B.length (aE bG B)),.p (.i .i64 (↑(Rs.mk a e).at_:Int)),.p (.i .i64 (Rs.mk a e).er)]]))
 (bT (decide (8<n))
 (.done .ret
 (bS 3 [(0,.c (.ptr 0 0)),(1,.a [.p (.i .i64 0),.p (.s (aG #[])),.p (.i .i64 0),.p (.z (bA none 0 0)),.p (.i .i64 0),.p (.i .i64 0),.p (.s (aG #[]))]),(2,.c (.p (.b false)))] [.pin 1 b,.cells 123 [.p (.l 1 B.length (aE bG B)),.p (.i .i64 (↑(Rs.mk a e).at_:Int)),.p (.i .i64 (Rs.mk a e).er)]]))
 (.done .normal
 (bS 48 [(0,.c (.ptr 0 0)),(2,.c (.ptr 1 0)),(4,.c (.ptr 2 0)),(23,.c (.p (.i .i64 n))),(24,.c (.p (.i .i64 0)))] [.pin 3 b,.cells 31 [.p (.i .i64 0),.p (.s (aG #[])),.p (.i .i64 0),.p (.z (bA none 0 0)),.p (.i .i64 0),.p (.i .i64 0),.p (.s (aG #[]))],.cells 31 [.p (.i .i64 kd),.p (.s ru),.p (.i .i64 ve),.p (.z (bA none 0 0)),.p (.i .i64 0),.p (.i .i64 0),.p (.s (aG #[]))],.cells 123 [.p (.l 1 B.length (aE bG B)),.p (.i .i64 (↑(Rs.mk a e).at_:Int)),.p (.i .i64 (Rs.mk a e).er)]]))):=by kernel_rfl
theorem aQE(B:List UInt8)(kd ve n:Int)(ru:ByteArray)(L:List (ByteArray×ByteArray))(i k a:Nat)(e:Int)(b:Nat):dC eW (dH 2 (gR (cW aB iY) 6)) (bS 48 [(0,.c (.ptr 0 0)),(2,.c (.ptr 1 0)),(4,.c (.ptr 2 0)),(23,iV n),(24,iV i)] [.pin 3 b,.cells 31 [.p (.i .i64 0),.p (.s ⟨#[]⟩),.p (.i .i64 0),.p (.z (.slice none 0 0)),.p (.i .i64 0),.p (.i .i64 0),.p (.s ⟨#[]⟩)],.cells 31 [.p (.i .i64 kd),.p (.s ru),.p (.i .i64 ve),.sl 4 2 0 k,.p (.i .i64 0),.p (.i .i64 0),.p (.s ⟨#[]⟩)],lI B ⟨a,e⟩,.row 56 2 k (aQ aN L)]) (gG [0] (eZ 48 [0,2,4,23,24]) (bI aB iY))=bT (decide ((↑i:Int)<n))
 (.done .normal
 (bS 48 [(0,.c (.ptr 0 0)),(2,.c (.ptr 1 0)),(4,.c (.ptr 2 0)),(23,.c (.p (.i .i64 n))),(24,.c (.p (.i .i64 (↑i:Int))))] [.pin 3 b,.cells 31 [.p (.i .i64 0),.p (.s (aG #[])),.p (.i .i64 0),.p (.z (bA none 0 0)),.p (.i .i64 0),.p (.i .i64 0),.p (.s (aG #[]))],.cells 31 [.p (.i .i64 kd),.p (.s ru),.p (.i .i64 ve),.sl 4 2 0 k,.p (.i .i64 0),.p (.i .i64 0),.p (.s (aG #[]))],.cells 123 [.p (.l 1 B.length (aE bG B)),.p (.i .i64 (↑(Rs.mk a e).at_:Int)),.p (.i .i64 (Rs.mk a e).er)],.row 56 2 k fun e o=>bP [0,1,2,3,4] (aQ aN L e o)]))
 (.done (.exit 0)
 (bS 48 [(0,.c (.ptr 0 0)),(2,.c (.ptr 1 0)),(4,.c (.ptr 2 0)),(23,.c (.p (.i .i64 n))),(24,.c (.p (.i .i64 (↑i:Int))))] [.pin 3 b,.cells 31 [.p (.i .i64 0),.p (.s (aG #[])),.p (.i .i64 0),.p (.z (bA none 0 0)),.p (.i .i64 0),.p (.i .i64 0),.p (.s (aG #[]))],.cells 31 [.p (.i .i64 kd),.p (.s ru),.p (.i .i64 ve),.sl 4 2 0 k,.p (.i .i64 0),.p (.i .i64 0),.p (.s (aG #[]))],.cells 123 [.p (.l 1 B.length (aE bG B)),.p (.i .i64 (↑(Rs.mk a e).at_:Int)),.p (.i .i64 (Rs.mk a e).er)],.row 56 2 k fun e o=>bP [0,1,2,3,4] (aQ aN L e o)])):=by kernel_rfl
theorem aQD(B:List UInt8)(F:Rs→Int×Rs)(T:Rs→ByteArray×Rs)(kd ve n:Int)(ru:ByteArray)(L:List (ByteArray×ByteArray))(i k a:Nat)(e:Int)(b:Nat):dC (WH B F T) (dH 1 (eX (inr (bF .skip (gR (cW aB iY) 6) 2)))) (bS 48 [(0,.c (.ptr 0 0)),(2,.c (.ptr 1 0)),(4,.c (.ptr 2 0)),(23,iV n),(24,iV i)] [.pin 3 b,.cells 31 [.p (.i .i64 0),.p (.s ⟨#[]⟩),.p (.i .i64 0),.p (.z (.slice none 0 0)),.p (.i .i64 0),.p (.i .i64 0),.p (.s ⟨#[]⟩)],.cells 31 [.p (.i .i64 kd),.p (.s ru),.p (.i .i64 ve),.sl 4 2 0 k,.p (.i .i64 0),.p (.i .i64 0),.p (.s ⟨#[]⟩)],lI B ⟨a,e⟩,.row 56 2 k (aQ aN L)]) (gG [0] (eZ 48 [0,2,4,6,23,24]) (bI aB iY))=Tr.rq
 ((C.p (PV.l 1 B.length (aE bG B))=C.p (PV.l 1 B.length (aE bG B))∧0≤(↑(Rs.mk a e).at_:Int)∧(↑(Rs.mk a e).at_:Int)≤(↑B.length:Int)∧B.length≤140737488355328)∧T=jF B)
 (.rq
 ((C.p (PV.l 1 B.length (aE bG B))=C.p (PV.l 1 B.length (aE bG B)) ∧
 0≤(↑(T (Rs.mk (↑(Rs.mk a e).at_:Int).toNat (Rs.mk a e).er)).snd.at_:Int) ∧
 (↑(T (Rs.mk (↑(Rs.mk a e).at_:Int).toNat (Rs.mk a e).er)).snd.at_:Int)≤(↑B.length:Int)∧B.length≤140737488355328) ∧
 T=jF B)
 (.done .normal
 (bS 48 [(0,.c (.ptr 0 0)),(2,.c (.ptr 1 0)),(4,.c (.ptr 2 0)),(6,.c (.ptr 3 0)),(23,.c (.p (.i .i64 n))),(24,.c (.p (.i .i64 (↑i:Int))))] [.pin 4 b,.cells 31 [.p (.i .i64 0),.p (.s (aG #[])),.p (.i .i64 0),.p (.z (bA none 0 0)),.p (.i .i64 0),.p (.i .i64 0),.p (.s (aG #[]))],.cells 31 [.p (.i .i64 kd),.p (.s ru),.p (.i .i64 ve),.sl 5 2 0 k,.p (.i .i64 0),.p (.i .i64 0),.p (.s (aG #[]))],.cells 56 [.p (.s (T (Rs.mk (↑(Rs.mk a e).at_:Int).toNat (Rs.mk a e).er)).fst),.p (.s (T (Rs.mk (↑(T (Rs.mk (↑(Rs.mk a e).at_:Int).toNat (Rs.mk a e).er)).snd.at_:Int).toNat (T (Rs.mk (↑(Rs.mk a e).at_:Int).toNat (Rs.mk a e).er)).snd.er)).fst)],.cells 123 [.p (.l 1 B.length (aE bG B)),.p (.i .i64 (↑(T (Rs.mk (↑(T (Rs.mk (↑(Rs.mk a e).at_:Int).toNat (Rs.mk a e).er)).snd.at_:Int).toNat (T (Rs.mk (↑(Rs.mk a e).at_:Int).toNat (Rs.mk a e).er)).snd.er)).snd.at_:Int)),.p (.i .i64 (T (Rs.mk (↑(T (Rs.mk (↑(Rs.mk a e).at_:Int).toNat (Rs.mk a e).er)).snd.at_:Int).toNat (T (Rs.mk (↑(Rs.mk a e).at_:Int).toNat (Rs.mk a e).er)).snd.er)).snd.er)],.row 56 2 k fun e o=>bP [0,1,2,9,3,4] (aQ aN L e o)]))):=by kernel_rfl
theorem aQC(B:List UInt8)(kd ve n:Int)(ru x y:ByteArray)(L:List (ByteArray×ByteArray))(i k a:Nat)(e:Int)(b:Nat):dC eW (bJ 1 (eX (inr (bF .skip (gR (cW aB iY) 6) 2)))) (bS 48 [(0,.c (.ptr 0 0)),(2,.c (.ptr 1 0)),(4,.c (.ptr 2 0)),(6,.c (.ptr 3 0)),(23,iV n),(24,iV i)] [.pin 4 b,.cells 31 [.p (.i .i64 0),.p (.s ⟨#[]⟩),.p (.i .i64 0),.p (.z (.slice none 0 0)),.p (.i .i64 0),.p (.i .i64 0),.p (.s ⟨#[]⟩)],.cells 31 [.p (.i .i64 kd),.p (.s ru),.p (.i .i64 ve),.sl 5 2 0 k,.p (.i .i64 0),.p (.i .i64 0),.p (.s ⟨#[]⟩)],.cells 56 [.p (.s x),.p (.s y)],lI B ⟨a,e⟩,.row 56 2 k (aQ aN L)]) (gG [0] (eZ 48 [0,2,4,23,24]) (bI aB iY))=Tr.rq (k=k)
 (.rq (1≤1)
 (.rq ((k+1)*32≤140737488355328∧k+1≤140737488355328∧∀(e o:Nat),e<1→o<2→iH (lM [C.p (PV.s x),C.p (PV.s y)] 2 1 (e+0) o)=true)
 (.done .normal
 (bS 48 [(0,.c (.ptr 0 0)),(2,.c (.ptr 1 0)),(4,.c (.ptr 2 0)),(23,.c (.p (.i .i64 n))),(24,.c (.p (.i .i64 (↑i:Int))))] [.pin 3 b,.cells 31 [.p (.i .i64 0),.p (.s (aG #[])),.p (.i .i64 0),.p (.z (bA none 0 0)),.p (.i .i64 0),.p (.i .i64 0),.p (.s (aG #[]))],.cells 31 [.p (.i .i64 kd),.p (.s ru),.p (.i .i64 ve),.sl 4 2 0 (k+1),.p (.i .i64 0),.p (.i .i64 0),.p (.s (aG #[]))],.cells 123 [.p (.l 1 B.length (aE bG B)),.p (.i .i64 (↑(Rs.mk a e).at_:Int)),.p (.i .i64 (Rs.mk a e).er)],.row 56 2 (k+1) fun e o=>bP [0,1,2,4,7] (fC k (aQ aN L) (fun e o=>bF C.top [C.p (PV.s x),C.p (PV.s y)] ((e+0)*2+o)) e o)])))):=by kernel_rfl
theorem aQB(B:List UInt8)(kd ve n:Int)(ru:ByteArray)(L:List (ByteArray×ByteArray))(i k a:Nat)(e:Int)(b:Nat):dC eW (bJ 3 (gR (cW aB iY) 6)) (bS 48 [(0,.c (.ptr 0 0)),(2,.c (.ptr 1 0)),(4,.c (.ptr 2 0)),(23,iV n),(24,iV i)] [.pin 3 b,.cells 31 [.p (.i .i64 0),.p (.s ⟨#[]⟩),.p (.i .i64 0),.p (.z (.slice none 0 0)),.p (.i .i64 0),.p (.i .i64 0),.p (.s ⟨#[]⟩)],.cells 31 [.p (.i .i64 kd),.p (.s ru),.p (.i .i64 ve),.sl 4 2 0 k,.p (.i .i64 0),.p (.i .i64 0),.p (.s ⟨#[]⟩)],lI B ⟨a,e⟩,.row 56 2 k (aQ aN L)]) (gG [0] (eZ 48 [0,2,4,23,24]) (bI aB iY))=Tr.rq (eV aC ((↑i:Int)+1))
 (.done .normal
 (bS 48 [(0,.c (.ptr 0 0)),(2,.c (.ptr 1 0)),(4,.c (.ptr 2 0)),(23,.c (.p (.i .i64 n))),(24,.c (.p (.i .i64 ((↑i:Int)+1))))] [.pin 3 b,.cells 31 [.p (.i .i64 0),.p (.s (aG #[])),.p (.i .i64 0),.p (.z (bA none 0 0)),.p (.i .i64 0),.p (.i .i64 0),.p (.s (aG #[]))],.cells 31 [.p (.i .i64 kd),.p (.s ru),.p (.i .i64 ve),.sl 4 2 0 k,.p (.i .i64 0),.p (.i .i64 0),.p (.s (aG #[]))],.cells 123 [.p (.l 1 B.length (aE bG B)),.p (.i .i64 (↑(Rs.mk a e).at_:Int)),.p (.i .i64 (Rs.mk a e).er)],.row 56 2 k fun e o=>bP [0,1,2,3,4] (aQ aN L e o)])):=by kernel_rfl
theorem aQA(B:List UInt8)(F:Rs→Int×Rs)(T:Rs→ByteArray×Rs)(kd ve:Int)(ru:ByteArray)(L:List (ByteArray×ByteArray))(a:Nat)(e:Int)(b:Nat):dC (WH B F T) (dH 1 (bJ 7 (cW aB iY))) (bS 48 [(0,.c (.ptr 0 0)),(2,.c (.ptr 1 0)),(4,.c (.ptr 2 0))] [.pin 3 b,.cells 31 [.p (.i .i64 0),.p (.s ⟨#[]⟩),.p (.i .i64 0),.p (.z (.slice none 0 0)),.p (.i .i64 0),.p (.i .i64 0),.p (.s ⟨#[]⟩)],.cells 31 [.p (.i .i64 kd),.p (.s ru),.p (.i .i64 ve),.p (bY aN 2 L),.p (.i .i64 0),.p (.i .i64 0),.p (.s ⟨#[]⟩)],lI B ⟨a,e⟩]) (gG [0] (eZ 48 [0,2,4]) (bI aB iY))=Tr.rq
 ((C.p (PV.l 1 B.length (aE bG B))=C.p (PV.l 1 B.length (aE bG B))∧0≤(↑(Rs.mk a e).at_:Int)∧(↑(Rs.mk a e).at_:Int)≤(↑B.length:Int)∧B.length≤140737488355328)∧F=fO B)
 (.rq
 ((C.p (PV.l 1 B.length (aE bG B))=C.p (PV.l 1 B.length (aE bG B)) ∧
 0≤(↑(F (Rs.mk (↑(Rs.mk a e).at_:Int).toNat (Rs.mk a e).er)).snd.at_:Int) ∧
 (↑(F (Rs.mk (↑(Rs.mk a e).at_:Int).toNat (Rs.mk a e).er)).snd.at_:Int)≤(↑B.length:Int)∧B.length≤140737488355328) ∧
 F=fO B)
 (.rq
 ((C.p (PV.l 1 B.length (aE bG B))=C.p (PV.l 1 B.length (aE bG B)) ∧
 0≤(↑(F (Rs.mk (↑(F (Rs.mk (↑(Rs.mk a e).at_:Int).toNat (Rs.mk a e).er)).snd.at_:Int).toNat (F (Rs.mk (↑(Rs.mk a e).at_:Int).toNat (Rs.mk a e).er)).snd.er)).snd.at_:Int) ∧
 (↑(F (Rs.mk (↑(F (Rs.mk (↑(Rs.mk a e).at_:Int).toNat (Rs.mk a e).er)).snd.at_:Int).toNat (F (Rs.mk (↑(Rs.mk a e).at_:Int).toNat (Rs.mk a e).er)).snd.er)).snd.at_:Int) ≤
 (↑B.length:Int) ∧
 B.length≤140737488355328) ∧
 T=jF B)
 (.done .normal
 (bS 48 [(0,.c (.ptr 0 0)),(2,.c (.ptr 1 0)),(4,.c (.ptr 2 0))] [.pin 3 b,.cells 31 [.p (.i .i64 0),.p (.s (aG #[])),.p (.i .i64 0),.p (.z (bA none 0 0)),.p (.i .i64 0),.p (.i .i64 0),.p (.s (aG #[]))],.cells 31 [.p (.i .i64 kd),.p (.s ru),.p (.i .i64 ve),.p (.l 2 L.length (aE aN L)),.p (.i .i64 (F (Rs.mk (↑(Rs.mk a e).at_:Int).toNat (Rs.mk a e).er)).fst),.p (.i .i64 (F (Rs.mk (↑(F (Rs.mk (↑(Rs.mk a e).at_:Int).toNat (Rs.mk a e).er)).snd.at_:Int).toNat (F (Rs.mk (↑(Rs.mk a e).at_:Int).toNat (Rs.mk a e).er)).snd.er)).fst),.p (.s (T (Rs.mk (↑(F (Rs.mk (↑(F (Rs.mk (↑(Rs.mk a e).at_:Int).toNat (Rs.mk a e).er)).snd.at_:Int).toNat (F (Rs.mk (↑(Rs.mk a e).at_:Int).toNat (Rs.mk a e).er)).snd.er)).snd.at_:Int).toNat (F (Rs.mk (↑(F (Rs.mk (↑(Rs.mk a e).at_:Int).toNat (Rs.mk a e).er)).snd.at_:Int).toNat (F (Rs.mk (↑(Rs.mk a e).at_:Int).toNat (Rs.mk a e).er)).snd.er)).snd.er)).fst)],.cells 123 [.p (.l 1 B.length (aE bG B)),.p (.i .i64 (↑(T (Rs.mk (↑(F (Rs.mk (↑(F (Rs.mk (↑(Rs.mk a e).at_:Int).toNat (Rs.mk a e).er)).snd.at_:Int).toNat (F (Rs.mk (↑(Rs.mk a e).at_:Int).toNat (Rs.mk a e).er)).snd.er)).snd.at_:Int).toNat (F (Rs.mk (↑(F (Rs.mk (↑(Rs.mk a e).at_:Int).toNat (Rs.mk a e).er)).snd.at_:Int).toNat (F (Rs.mk (↑(Rs.mk a e).at_:Int).toNat (Rs.mk a e).er)).snd.er)).snd.er)).snd.at_:Int)),.p (.i .i64 (T (Rs.mk (↑(F (Rs.mk (↑(F (Rs.mk (↑(Rs.mk a e).at_:Int).toNat (Rs.mk a e).er)).snd.at_:Int).toNat (F (Rs.mk (↑(Rs.mk a e).at_:Int).toNat (Rs.mk a e).er)).snd.er)).snd.at_:Int).toNat (F (Rs.mk (↑(F (Rs.mk (↑(Rs.mk a e).at_:Int).toNat (Rs.mk a e).er)).snd.at_:Int).toNat (F (Rs.mk (↑(Rs.mk a e).at_:Int).toNat (Rs.mk a e).er)).snd.er)).snd.er)).snd.er)]])))):=by kernel_rfl
theorem aQ9(B:List UInt8)(kd ve st se:Int)(ru to:ByteArray)(L:List (ByteArray×ByteArray))(a:Nat)(e:Int)(b:Nat):dC eW (bJ 8 (cW aB iY)) (bS 48 [(0,.c (.ptr 0 0)),(2,.c (.ptr 1 0)),(4,.c (.ptr 2 0))] [.pin 3 b,.cells 31 [.p (.i .i64 0),.p (.s ⟨#[]⟩),.p (.i .i64 0),.p (.z (.slice none 0 0)),.p (.i .i64 0),.p (.i .i64 0),.p (.s ⟨#[]⟩)],.cells 31 [.p (.i .i64 kd),.p (.s ru),.p (.i .i64 ve),.p (bY aN 2 L),.p (.i .i64 st),.p (.i .i64 se),.p (.s to)],lI B ⟨a,e⟩]) (gG [0] [] (bI aB iY))=Tr.done X.ret
 (bS 3 [(0,.c (.ptr 0 0)),(1,.a [.p (.i .i64 kd),.p (.s ru),.p (.i .i64 ve),.p (.l 2 L.length (aE aN L)),.p (.i .i64 st),.p (.i .i64 se),.p (.s to)]),(2,.c (.p (.b true)))] [.pin 1 b,.cells 123 [.p (.l 1 B.length (aE bG B)),.p (.i .i64 (↑(Rs.mk a e).at_:Int)),.p (.i .i64 (Rs.mk a e).er)]]):=by kernel_rfl
theorem lG{B:List UInt8}{s:Rs}(h:s.at_≤B.length):(fO B s).2.at_≤B.length:=CS h
theorem oW{B:List UInt8}{s:Rs}(h:s.at_≤B.length):(jF B s).2.at_≤B.length:=aFF h
theorem CC{B:List UInt8}:∀(n:Nat) {s:Rs},s.at_≤B.length→(mB B n s).2.at_≤B.length
 |0,_,h=>h
 |n+1,_,h=>oW (oW (CC n h))
theorem EN{B:List UInt8}:∀(n:Nat) (s:Rs),(mB B n s).1.length=n
 |0,_=>rfl
 |n+1,s=>by
  show ((mB B n s).1++[_]).length=_
  rw[aV,EN n s];rfl
theorem JN(s:Rs):(⟨s.at_,s.er⟩:Rs)=s:=rfl
theorem aHN(x y:ByteArray):∀o:Nat,o<2→(fun e o:Nat=>bF C.top [C.p (PV.s x),C.p (PV.s y)] ((e+0)*2+o)) 0 o=.p (aN (x,y) o):=by
 intro o ho
 have:o=0∨o=1:=by omega
 rcases this with rfl|rfl<;>rfl
section
variable {G:Nat→Option Obj}
theorem tY(B:List UInt8):bH aB G (WH B (fO B) (jF B)):=dZ (by simp;exact⟨aBQ B (fO B),aGO B (jF B)⟩)
set_option maxRecDepth 100000 in
set_option maxHeartbeats 1000000 in
theorem XJ(B:List UInt8)(s:Rs)(hs:s.at_≤B.length)(hB:B.length≤140737488355328)(b:Nat)(Q:X→St→Prop):eL aB G (Zm [0] (bI aB iY) fun st=>cQ G st ⟨[.c (.ptr 0 0)]++[uO (jS B s).1,bV (jS B s).2.1],BX B (jS B s).2.2 b⟩) (cW aB iY) (jJ iY [0] [0] [b] [.c (.ptr 0 0)] [lI B s]) Q:=by
 obtain⟨a,e⟩:=s
 have hs:a≤B.length:=hs
 obtain⟨R,hR⟩:∃R,jS B ⟨a,e⟩=R:=⟨_,rfl⟩
 rw[hR]
 have f1:=lG (B:=B) (s:=⟨a,e⟩) hs
 have f2:=oW f1
 have f3:=lG f2
 have f4:=lG f3
 refine eL.evG (tY B) 3 (aQG B (fO B) (jF B) a e b) ?_;simp only[bB,aL,cF,dP,JN];unfold jS uV at hR;dsimp only at hR
 generalize hi1:fO B ⟨a,e⟩=i1 at f1 f2 f3 f4 hR ⊢
 obtain⟨kd,s1⟩:=i1;dsimp only at f1 f2 f3 f4 hR ⊢
 generalize hi2:jF B s1=i2 at f2 f3 f4 hR ⊢
 obtain⟨ru,s2⟩:=i2;dsimp only at f2 f3 f4 hR ⊢
 generalize hi3:fO B s2=i3 at f3 f4 hR ⊢
 obtain⟨ve,s3⟩:=i3;dsimp only at f3 f4 hR ⊢
 generalize hi4:fO B s3=i4 at f4 hR ⊢
 obtain⟨n,a4,e4⟩:=i4;dsimp only at f4 hR ⊢;refine⟨⟨⟨rfl,by omega,by omega,hB⟩,trivial⟩,⟨⟨trivial,by omega,by omega,hB⟩,trivial⟩,⟨⟨trivial,by omega,by omega,hB⟩,trivial⟩,⟨⟨trivial,by omega,by omega,hB⟩,trivial⟩,⟨?_⟩⟩
 refine eL.pre (aJ (st':=(fun a e=>bS 48 [(0,.c (.ptr 0 0)),(2,.c (.ptr 1 0)),(4,.c (.ptr 2 0)),(5,iV n)] [.pin 3 b,.cells 31 [.p (.i .i64 0),.p (.s ⟨#[]⟩),.p (.i .i64 0),.p (.z (.slice none 0 0)),.p (.i .i64 0),.p (.i .i64 0),.p (.s ⟨#[]⟩)],.cells 31 [.p (.i .i64 kd),.p (.s ru),.p (.i .i64 ve),.p (.z (.slice none 0 0)),.p (.i .i64 0),.p (.i .i64 0),.p (.s ⟨#[]⟩)],lI B ⟨a,e⟩]) a4 e4) (by kernel_rfl)) ?_
 refine eL.evG aX 3 (aQF B kd ve n ru a4 e4 b) ?_;simp only[bZ,aL,cF,jP,decide_eq_true_eq,decide_eq_false_iff_not]
 have bad:(n<0∨8<n)→cQ G (bS 3 [(0,.c (.ptr 0 0)),(1,.a [.p (.i .i64 0),.p (.s ⟨#[]⟩),.p (.i .i64 0),.p (.z (.slice none 0 0)),.p (.i .i64 0),.p (.i .i64 0),.p (.s ⟨#[]⟩)]),(2,bV false)] [.pin 1 b,lI B ⟨a4,e4⟩]) ⟨[.c (.ptr 0 0)]++[uO R.1,bV R.2.1],BX B R.2.2 b⟩:=fun h=>by
  rw[if_pos h]at hR;subst hR;refine(GI (st:=bS 3 [(0,.c (.ptr 0 0)),(1,.a [.p (.i .i64 0),.p (.s ⟨#[]⟩),.p (.i .i64 0),.p (.z (.slice none 0 0)),.p (.i .i64 0),.p (.i .i64 0),.p (.s ⟨#[]⟩)]),(2,bV false)] [.pin 1 b,lI B ⟨a4,e4⟩]) (j:=1) (y:=uO pg0) ?_).trans (aJ rfl);exact iF.a (xs:=[.i .i64 0,.s ⟨#[]⟩,.i .i64 0,.z (.slice none 0 0),.i .i64 0,.i .i64 0,.s ⟨#[]⟩]) (vs:=aFI pg0) (.cons (.refl _) (.cons (.refl _) (.cons (.refl _) (.cons (lE.nil 2 _) (.cons (.refl _) (.cons (.refl _) (.cons (.refl _) .nil)))))))
 refine⟨fun h1=>⟨bad (.inl h1)⟩,fun h1=>⟨fun h2=>⟨bad (.inr h2)⟩,fun h2=>⟨?_⟩⟩⟩;rw[if_neg (by omega)]at hR;clear bad
 obtain⟨m,rfl⟩:∃m:Nat,n=m:=⟨n.toNat,by omega⟩
 rw[dP]at hR
 have hm8:m≤8:=by omega
 refine eL.loop' (l:=bJ 3 (bJ 3 (cW aB iY))) (id:=0) (b:=inr (inr (bF .skip (cW aB iY) 6))) (r:=bJ 7 (cW aB iY)) (by kernel_rfl) (σ:=Nat)
   (fun i=>(fun(n:Int) (k a:Nat) e L=>bS 48 [(0,.c (.ptr 0 0)),(2,.c (.ptr 1 0)),(4,.c (.ptr 2 0)),(23,iV n),(24,iV i)] [.pin 3 b,.cells 31 [.p (.i .i64 0),.p (.s ⟨#[]⟩),.p (.i .i64 0),.p (.z (.slice none 0 0)),.p (.i .i64 0),.p (.i .i64 0),.p (.s ⟨#[]⟩)],.cells 31 [.p (.i .i64 kd),.p (.s ru),.p (.i .i64 ve),.sl 4 2 0 k,.p (.i .i64 0),.p (.i .i64 0),.p (.s ⟨#[]⟩)],lI B ⟨a,e⟩,.row 56 2 k (aQ aN L)]) (m:Int) i (mB B i ⟨a4,e4⟩).2.at_ (mB B i ⟨a4,e4⟩).2.er (mB B i ⟨a4,e4⟩).1) (fun i=>i≤m) (fun i=>m-i) 0 (bW _)
   ((yW 56 2 (aQ aN []) (id:=2) (k:=3) (t0:=31) (vs:=[.p (.i .i64 kd),.p (.s ru),.p (.i .i64 ve),.p (.z (.slice none 0 0)),.p (.i .i64 0),.p (.i .i64 0),.p (.s ⟨#[]⟩)]) (by kernel_rfl) (by kernel_rfl)).trans ((fG (eZ 48 [0,2,4,23,24]) _).trans (aJ (by kernel_rfl)))) ?_
 intro i hi Q1 q1n q1e _
 have g0:=CC (B:=B) i (s:=⟨a4,e4⟩) f4
 have gl:=EN (B:=B) i ⟨a4,e4⟩
 have hsn:mB B (i+1) ⟨a4,e4⟩=((mB B i ⟨a4,e4⟩).1++[((jF B (mB B i ⟨a4,e4⟩).2).1,(jF B (jF B (mB B i ⟨a4,e4⟩).2).2).1)],(jF B (jF B (mB B i ⟨a4,e4⟩).2).2).2):=rfl
 generalize hlb:mB B i ⟨a4,e4⟩=lb at g0 gl hsn ⊢
 obtain⟨L,al,el⟩:=lb;dsimp only at g0 gl hsn ⊢;refine eL.evG aX 2 (aQE B kd ve m ru L i i al el b) ?_;simp only[bZ,aL,cF,mC,decide_eq_true_eq,decide_eq_false_iff_not];refine⟨fun h3=>⟨?_⟩,fun h3=>⟨q1e _ ?_⟩⟩
 ·refine eL.blk' (l:=bJ 2 (gR (cW aB iY) 6)) (id:=1) (a:=inr (bF .skip (gR (cW aB iY) 6) 2)) (r:=bJ 3 (gR (cW aB iY) 6)) (by kernel_rfl) ?_
  intro Q2 q2n q2e _
  refine eL.pre (aJ (st':=(fun(n:Int) (k a:Nat) e L=>bS 48 [(0,.c (.ptr 0 0)),(2,.c (.ptr 1 0)),(4,.c (.ptr 2 0)),(23,iV n),(24,iV i)] [.pin 3 b,.cells 31 [.p (.i .i64 0),.p (.s ⟨#[]⟩),.p (.i .i64 0),.p (.z (.slice none 0 0)),.p (.i .i64 0),.p (.i .i64 0),.p (.s ⟨#[]⟩)],.cells 31 [.p (.i .i64 kd),.p (.s ru),.p (.i .i64 ve),.sl 4 2 0 k,.p (.i .i64 0),.p (.i .i64 0),.p (.s ⟨#[]⟩)],lI B ⟨a,e⟩,.row 56 2 k (aQ aN L)]) (m:Int) i al el L) (by kernel_rfl)) (eL.evG (tY B) 1 (aQD B (fO B) (jF B) kd ve m ru L i i al el b) ?_)
  have g1:=oW (B:=B) (s:=⟨al,el⟩) g0
  have g2:=oW g1
  simp only[bB,aL,cF,dP,JN]
  generalize hj1:jF B ⟨al,el⟩=j1 at g1 g2 hsn ⊢
  obtain⟨x,t1⟩:=j1;dsimp only at g1 g2 hsn ⊢
  generalize hj2:jF B t1=j2 at g2 hsn ⊢
  obtain⟨y,a2,e2⟩:=j2;dsimp only at g2 hsn ⊢;refine⟨⟨⟨trivial,by omega,by omega,hB⟩,trivial⟩,⟨⟨trivial,by omega,by omega,hB⟩,trivial⟩,⟨?_⟩⟩
  refine eL.pre (aJ (st':=(fun(n:Int) (k a:Nat) e L=>bS 48 [(0,.c (.ptr 0 0)),(2,.c (.ptr 1 0)),(4,.c (.ptr 2 0)),(6,.c (.ptr 3 0)),(23,iV n),(24,iV i)] [.pin 4 b,.cells 31 [.p (.i .i64 0),.p (.s ⟨#[]⟩),.p (.i .i64 0),.p (.z (.slice none 0 0)),.p (.i .i64 0),.p (.i .i64 0),.p (.s ⟨#[]⟩)],.cells 31 [.p (.i .i64 kd),.p (.s ru),.p (.i .i64 ve),.sl 5 2 0 k,.p (.i .i64 0),.p (.i .i64 0),.p (.s ⟨#[]⟩)],.cells 56 [.p (.s x),.p (.s y)],lI B ⟨a,e⟩,.row 56 2 k (aQ aN L)]) (m:Int) i a2 e2 L) (by kernel_rfl)) (eL.evH aX (aQC B kd ve m ru x y L i i a2 e2 b) ?_)
  simp only[bB,aL,cF];refine⟨trivial,aW _,⟨by omega,by omega,fun e o he ho=>?_⟩,⟨q2n _ ?_⟩⟩
  ·obtain rfl:e=0:=by omega
   have:o=0∨o=1:=by omega
   rcases this with rfl|rfl<;>rfl
  have hl2:(L++[(x,y)]).length=i+1:=by rw[aV,gl];rfl
  refine eL.pre (st2:=(fun(n:Int) (k a:Nat) e L=>bS 48 [(0,.c (.ptr 0 0)),(2,.c (.ptr 1 0)),(4,.c (.ptr 2 0)),(23,iV n),(24,iV i)] [.pin 3 b,.cells 31 [.p (.i .i64 0),.p (.s ⟨#[]⟩),.p (.i .i64 0),.p (.z (.slice none 0 0)),.p (.i .i64 0),.p (.i .i64 0),.p (.s ⟨#[]⟩)],.cells 31 [.p (.i .i64 kd),.p (.s ru),.p (.i .i64 ve),.sl 4 2 0 k,.p (.i .i64 0),.p (.i .i64 0),.p (.s ⟨#[]⟩)],lI B ⟨a,e⟩,.row 56 2 k (aQ aN L)]) (m:Int) (i+1) a2 e2 (L++[(x,y)])) (iG ⟨rfl,rfl,rfl,rfl,⟨rfl,rfl,rfl,fun e o he ho=>oT gl (aHN x y) he ho⟩,trivial⟩) ?_;refine eL.evH aX (aQB B kd ve m ru (L++[(x,y)]) i (i+1) a2 e2 b) ?_;simp only[bB,aL,cF,eV];refine⟨by omega,⟨q1n (i+1) _ (by omega) (by omega) ?_⟩⟩;rw[hsn]
  exact aJ (by kernel_rfl)
 ·obtain rfl:i=m:=by omega
  rw[hlb]at hR
  refine eL.pre ((WT (id:=4) (ty:=56) (sz:=2) (n:=i) (f:=aQ aN L) (aE aN L) (by kernel_rfl) (fun e o _ _=>by
    have:BA (aQ aN L e o)=true:=rfl
    exact this) (fun _ _ _ _=>lE.refl _) (ps:=[(0,i)]) (by kernel_rfl) (by simp)).trans ((fG (eZ 48 [0,2,4]) _).trans (aJ (st':=bS 48 [(0,.c (.ptr 0 0)),(2,.c (.ptr 1 0)),(4,.c (.ptr 2 0))] [.pin 3 b,.cells 31 [.p (.i .i64 0),.p (.s ⟨#[]⟩),.p (.i .i64 0),.p (.z (.slice none 0 0)),.p (.i .i64 0),.p (.i .i64 0),.p (.s ⟨#[]⟩)],.cells 31 [.p (.i .i64 kd),.p (.s ru),.p (.i .i64 ve),.p (.l 2 i (aE aN L)),.p (.i .i64 0),.p (.i .i64 0),.p (.s ⟨#[]⟩)],lI B ⟨al,el⟩]) (by kernel_rfl)))) ?_
  have ell:PV.l 2 i (aE aN L)=bY aN 2 L:=by unfold bY;rw[gl]
  rw[ell]
  have k1:=lG (B:=B) (s:=⟨al,el⟩) g0
  have k2:=lG k1
  have k3:=oW k2
  refine eL.evG (tY B) 1 (aQA B (fO B) (jF B) kd ve ru L al el b) ?_;simp only[bB,aL,cF,dP,JN];unfold tlS at hR;dsimp only at hR
  generalize hu1:fO B ⟨al,el⟩=u1 at k1 k2 k3 hR ⊢
  obtain⟨st,t1⟩:=u1;dsimp only at k1 k2 k3 hR ⊢
  generalize hu2:fO B t1=u2 at k2 k3 hR ⊢
  obtain⟨se,t2⟩:=u2;dsimp only at k2 k3 hR ⊢
  generalize hu3:jF B t2=u3 at k3 hR ⊢
  obtain⟨to,a3,e3⟩:=u3;dsimp only at k3 hR ⊢;refine⟨⟨⟨trivial,by omega,by omega,hB⟩,trivial⟩,⟨⟨trivial,by omega,by omega,hB⟩,trivial⟩,⟨⟨trivial,by omega,by omega,hB⟩,trivial⟩,⟨?_⟩⟩
  refine eL.pre (aJ (st':=(fun a e=>bS 48 [(0,.c (.ptr 0 0)),(2,.c (.ptr 1 0)),(4,.c (.ptr 2 0))] [.pin 3 b,.cells 31 [.p (.i .i64 0),.p (.s ⟨#[]⟩),.p (.i .i64 0),.p (.z (.slice none 0 0)),.p (.i .i64 0),.p (.i .i64 0),.p (.s ⟨#[]⟩)],.cells 31 [.p (.i .i64 kd),.p (.s ru),.p (.i .i64 ve),.p (bY aN 2 L),.p (.i .i64 st),.p (.i .i64 se),.p (.s to)],lI B ⟨a,e⟩]) a3 e3) (by kernel_rfl)) ?_
  refine eL.evH aX (aQ9 B kd ve st se ru to L a3 e3 b) ?_;simp only[aL,jP];subst hR
  exact⟨aJ (by kernel_rfl)⟩
def SC(B:List UInt8)(p:Pg)(ok:Bool)(s':Rs):jU:=fun args h=>match args with
 |[.c (.ptr j 0)]=>match GD B (nL h j) h with
  |some (q,a,e)=>some (q∧jS B ⟨a.toNat,e⟩=(p,ok,s'),.t [.a [.p (.i .i64 p.kd),.p (.s p.ru),.p (.i .i64 p.ve),.p (bY aN 2 p.L),.p (.i .i64 p.st),.p (.i .i64 p.se),.p (.s p.to)],.c (.p (.b ok))],iL [nL h j] [nL h j] [1] h (BX B s' 0))
  |none=>none
 |_=>none
set_option maxRecDepth 100000 in
theorem aGM(B:List UInt8)(p:Pg)(ok:Bool)(s':Rs):fZ aB G 68 (SC B p ok s'):=by
 intro args h p0 v h' hm hp;unfold SC at hm
 split at hm;rotate_left;· cases hm
 split at hm;rotate_left;· cases hm
 rename_i j _ q a e hw;obtain⟨rfl,rfl,rfl⟩:=lQ hm;obtain⟨hq,hr⟩:=hp;obtain⟨k1,k2,k3⟩:=qO hw hq
 have hm:=fun b=>XJ (G:=G) B _ k2 k3 b
 rw[hr]at hm
 exact pI (AN (args:=[]) (args0:=[]) (vs:=[uO p,bV ok]) Try.func68 (by kernel_rfl) k1 rfl fun b=>hm b _)
end
def rL(M:List Pg)(p:Pg):Bool×List Pg:=
 if p.kd=0 then ((vL M p).2==0,(vL M p).1) else if (p.kd≠1∧p.kd≠2)∨hJ p=false∨p.to≠⟨#[]⟩ then (false,M) else if (pN M p.ru p.ve p.L p.st).getD false≠(p.kd==1) then (false,M) else (true,M++[p])
noncomputable def SL(D D':Ld)(M:List Pg)(p:Pg)(M':List Pg)(e:Int):jU
 |[.c (.ptr j 0),x],h=>match EQ D (nL h j) h,ND x p with
  |some (q,r,a,b),some s=>some ((s∧q)∧(AC M∧eV .i64 p.ve)∧vL M p=(M',e)∧D=dQ M∧D'=dQ M',iV e,iL [nL h j,r,a,b] [nL h j] [1] h (oM D' 0))
  |_,_=>none
 |_,_=>none
noncomputable def aCU(D D':Ld)(p:Pg):jU
 |[.c (.ptr j 0),x],h=>match EQ D (nL h j) h,ND x p with
  |some (q,r,a,b),some s=>some ((s∧q)∧sP D p∧gF D p=D',.t [],iL [nL h j,r,a,b] [nL h j] [1] h (oM D' 0))
  |_,_=>none
 |_,_=>none
noncomputable def aKD(D D1 D2:Ld)(M:List Pg)(p:Pg)(M1:List Pg)(e:Int):Ext:=lH [(25,SL D D1 M p M1 e),(42,tT MZ),(43,tT mOf),(48,aCU D D2 p)]
theorem tAc(D D1 D2:Ld)(M M1:List Pg)(p:Pg)(e:Int)(b:Nat):dC (aKD D D1 D2 M p M1 e) (cW aB Try.f69) (jJ Try.f69 [0,1,2,3] [0] [b] [.c (.ptr 0 0),pgW p.kd p.ru p.ve p.L p.st p.se p.to] (lN D [])) (gG [0] [] (bI aB Try.f69))=bT (p.kd==0)
 (.rq
 (((kA aN 2 (bO cT p.L.length (aE aN p.L)) p.L.length (aE aN p.L)∧Pg.mk p.kd p.ru p.ve (bO cT p.L.length (aE aN p.L)) p.st p.se p.to=p) ∧
 D.M.length=D.M.length ∧
 D.M.length=D.M.length ∧
 (∀(e o:Nat),e<D.M.length→o<7→bP [0,1,2,3] (aQ aI D.M e o)=aQ aI D.M e o) ∧
 bQ aB 81=bQ aB 81∧D.gp=D.gp∧bQ aB 79=bQ aB 79∧D.gs=D.gs) ∧
 (AC M∧eV aC p.ve)∧vL M p=(M1,e)∧D=dQ M∧D1=dQ M1)
 (.done .ret
 (bS 2 [(0,.c (.ptr 0 0)),(1,.c (.p (.b (e==0))))] [.pin 1 b,.cells 86 [.sl 2 7 0 D1.M.length,.mp 3,.mp 4],.row 31 7 D1.M.length fun e o=>bP [4,0,8,9,10] (C.p (aE aI D1.M e o)),.mapb (bQ aB 81) D1.gp,.mapl (bQ aB 79) 3 1 D1.gs none])))
 (bT (p.kd != 1)
 (bT (p.kd != 2)
 (.done .ret
 (bS 2 [(0,.c (.ptr 0 0)),(1,.c (.p (.b false)))] [.pin 1 b,.cells 86 [.sl 2 7 0 D.M.length,.mp 3,.mp 4],.row 31 7 D.M.length fun e o=>bP [4,0,1,2,3] (bP [0,1,2,3] (aQ aI D.M e o)),.mapb (bQ aB 81) D.gp,.mapl (bQ aB 79) 3 1 D.gs none]))
 (.rq (kA aN 2 (bO cT p.L.length (aE aN p.L)) p.L.length (aE aN p.L))
 (bT (!hJ (Pg.mk p.kd p.ru p.ve (bO cT p.L.length (aE aN p.L)) p.st p.se p.to))
 (.done .ret
 (bS 2 [(0,.c (.ptr 0 0)),(1,.c (.p (.b false)))] [.pin 1 b,.cells 86 [.sl 2 7 0 D.M.length,.mp 3,.mp 4],.row 31 7 D.M.length fun e o=>bP [4,0,1,2,3] (bP [0,1,2,3] (aQ aI D.M e o)),.mapb (bQ aB 81) D.gp,.mapl (bQ aB 79) 3 1 D.gs none]))
 (bT (!p.to.toList==(aG #[]).toList)
 (.done .ret
 (bS 2 [(0,.c (.ptr 0 0)),(1,.c (.p (.b false)))] [.pin 1 b,.cells 86 [.sl 2 7 0 D.M.length,.mp 3,.mp 4],.row 31 7 D.M.length fun e o=>bP [4,0,1,2,3] (bP [0,1,2,3] (aQ aI D.M e o)),.mapb (bQ aB 81) D.gp,.mapl (bQ aB 79) 3 1 D.gs none]))
 (.rq (kA aN 2 (bO cT p.L.length (aE aN p.L)) p.L.length (aE aN p.L)∧(cE (bO cT p.L.length (aE aN p.L))).size≤1000000)
 (.rq
 (bQ aB 81=bQ aB 81 ∧
 bQ aB 81 (iB #[cP p.ru,cL aC p.ve,cP (cE (bO cT p.L.length (aE aN p.L))),cL aC p.st])=true)
 (bT
 (!(D.gp (iB #[cP p.ru,cL aC p.ve,cP (cE (bO cT p.L.length (aE aN p.L))),cL aC p.st])).getD false ==
 (p.kd==1))
 (.done .ret
 (bS 2 [(0,.c (.ptr 0 0)),(1,.c (.p (.b false)))] [.pin 1 b,.cells 86 [.sl 2 7 0 D.M.length,.mp 3,.mp 4],.row 31 7 D.M.length fun e o=>bP [4,0,1,2,3] (bP [0,1,2,3] (aQ aI D.M e o)),.mapb (bQ aB 81) D.gp,.mapl (bQ aB 79) 3 1 D.gs none]))
 (.rq
 (((kA aN 2 (bO cT p.L.length (aE aN p.L)) p.L.length (aE aN p.L)∧Pg.mk p.kd p.ru p.ve (bO cT p.L.length (aE aN p.L)) p.st p.se p.to=p) ∧
 D.M.length=D.M.length ∧
 D.M.length=D.M.length ∧
 (∀(e o:Nat),e<D.M.length→o<7→bP [0,1,2,3] (aQ aI D.M e o)=aQ aI D.M e o) ∧
 bQ aB 81=bQ aB 81∧D.gp=D.gp∧bQ aB 79=bQ aB 79∧D.gs=D.gs) ∧
 sP D p∧gF D p=D2)
 (.done .ret
 (bS 2 [(0,.c (.ptr 0 0)),(1,.c (.p (.b true)))] [.pin 1 b,.cells 86 [.sl 2 7 0 D2.M.length,.mp 3,.mp 4],.row 31 7 D2.M.length fun e o=>bP [4,0,8,9,10] (C.p (aE aI D2.M e o)),.mapb (bQ aB 81) D2.gp,.mapl (bQ aB 79) 3 1 D2.gs none]))))))))))
 (.rq (kA aN 2 (bO cT p.L.length (aE aN p.L)) p.L.length (aE aN p.L))
 (bT (!hJ (Pg.mk p.kd p.ru p.ve (bO cT p.L.length (aE aN p.L)) p.st p.se p.to))
 (.done .ret
 (bS 2 [(0,.c (.ptr 0 0)),(1,.c (.p (.b false)))] [.pin 1 b,.cells 86 [.sl 2 7 0 D.M.length,.mp 3,.mp 4],.row 31 7 D.M.length fun e o=>bP [4,0,1,2,3] (bP [0,1,2,3] (aQ aI D.M e o)),.mapb (bQ aB 81) D.gp,.mapl (bQ aB 79) 3 1 D.gs none]))
 (bT (!p.to.toList==(aG #[]).toList)
 (.done .ret
 (bS 2 [(0,.c (.ptr 0 0)),(1,.c (.p (.b false)))] [.pin 1 b,.cells 86 [.sl 2 7 0 D.M.length,.mp 3,.mp 4],.row 31 7 D.M.length fun e o=>bP [4,0,1,2,3] (bP [0,1,2,3] (aQ aI D.M e o)),.mapb (bQ aB 81) D.gp,.mapl (bQ aB 79) 3 1 D.gs none]))
 (.rq (kA aN 2 (bO cT p.L.length (aE aN p.L)) p.L.length (aE aN p.L)∧(cE (bO cT p.L.length (aE aN p.L))).size≤1000000)
 (.rq
 (bQ aB 81=bQ aB 81 ∧
 bQ aB 81 (iB #[cP p.ru,cL aC p.ve,cP (cE (bO cT p.L.length (aE aN p.L))),cL aC p.st])=true)
 (bT
 (!(D.gp (iB #[cP p.ru,cL aC p.ve,cP (cE (bO cT p.L.length (aE aN p.L))),cL aC p.st])).getD false ==
 (p.kd==1))
 (.done .ret
 (bS 2 [(0,.c (.ptr 0 0)),(1,.c (.p (.b false)))] [.pin 1 b,.cells 86 [.sl 2 7 0 D.M.length,.mp 3,.mp 4],.row 31 7 D.M.length fun e o=>bP [4,0,1,2,3] (bP [0,1,2,3] (aQ aI D.M e o)),.mapb (bQ aB 81) D.gp,.mapl (bQ aB 79) 3 1 D.gs none]))
 (.rq
 (((kA aN 2 (bO cT p.L.length (aE aN p.L)) p.L.length (aE aN p.L)∧Pg.mk p.kd p.ru p.ve (bO cT p.L.length (aE aN p.L)) p.st p.se p.to=p) ∧
 D.M.length=D.M.length ∧
 D.M.length=D.M.length ∧
 (∀(e o:Nat),e<D.M.length→o<7→bP [0,1,2,3] (aQ aI D.M e o)=aQ aI D.M e o) ∧
 bQ aB 81=bQ aB 81∧D.gp=D.gp∧bQ aB 79=bQ aB 79∧D.gs=D.gs) ∧
 sP D p∧gF D p=D2)
 (.done .ret
 (bS 2 [(0,.c (.ptr 0 0)),(1,.c (.p (.b true)))] [.pin 1 b,.cells 86 [.sl 2 7 0 D2.M.length,.mp 3,.mp 4],.row 31 7 D2.M.length fun e o=>bP [4,0,8,9,10] (C.p (aE aI D2.M e o)),.mapb (bQ aB 81) D2.gp,.mapl (bQ aB 79) 3 1 D2.gs none])))))))))):=by kernel_rfl
section
variable {G:Nat→Option Obj}
set_option maxRecDepth 100000 in
theorem aGY(D D':Ld)(M:List Pg)(p:Pg)(M':List Pg)(e:Int):fZ aB G 25 (SL D D' M p M' e):=by
 intro args h p0 v h' hm hp;unfold SL at hm
 split at hm;rotate_left;· cases hm
 split at hm;rotate_left;· cases hm
 rename_i j x _ _ q r a b s hl hx;obtain⟨rfl,rfl,rfl⟩:=gH hm;obtain⟨⟨hr,hq⟩,⟨hM,hve⟩,he,rfl,rfl⟩:=hp;obtain⟨g,k1,k2,k3,k4,hg⟩:=tV hl hq
 have hf:=HT hM p hve
 rw[he]at hf
 have hm:=IL (G:=G) (dQ M) p (fun _ hok=>FD hM hok hve) []
 rw[hf]at hm
 exact jN.args (args':=[.c (.ptr j 0),uO p]) (pI (yA (args:=[uO p]) (vs:=[iV e]) (D':=dQ M') Try.func25 (by kernel_rfl) k1 k2 k3 k4 hg rfl fun b=>hm b _)) (.cons (.refl _) (.cons (uS hx hr) .nil))
set_option maxRecDepth 100000 in
theorem aM2(D D':Ld)(p:Pg):fZ aB G 48 (aCU D D' p):=by
 intro args h p0 v h' hm hp;unfold aCU at hm
 split at hm;rotate_left;· cases hm
 split at hm;rotate_left;· cases hm
 rename_i j x _ _ q r a b s hl hx;obtain⟨rfl,rfl,rfl⟩:=gH hm;obtain⟨⟨hr,hq⟩,hF,rfl⟩:=hp;obtain⟨g,k1,k2,k3,k4,hg⟩:=tV hl hq
 exact jN.args (args':=[.c (.ptr j 0),uO p]) (pI (yA (args:=[uO p]) (vs:=[]) (D':=gF D p) Try.func48 (by kernel_rfl) k1 k2 k3 k4 hg rfl fun b=>QA D p hF [] b)) (.cons (.refl _) (.cons (uS hx hr) .nil))
theorem PM(D D1 D2:Ld)(M:List Pg)(p:Pg)(M1:List Pg)(e:Int):bH aB G (aKD D D1 D2 M p M1 e):=dZ (by simp;exact⟨aGY D D1 M p M1 e,RL.lift,aGS.lift,aM2 D D2 p⟩)
set_option maxRecDepth 100000 in
set_option maxHeartbeats 1000000 in
theorem aEJ(M:List Pg)(hM:AC M)(p:Pg)(hve:eV .i64 p.ve)(b:Nat)(Q:X→St→Prop):eL aB G (Zm [0] (bI aB Try.f69) fun s=>cQ G s ⟨[.c (.ptr 0 0)]++[bV (rL M p).1],oM (dQ (rL M p).2) b⟩) (cW aB Try.f69) (jJ Try.f69 [0,1,2,3] [0] [b] [.c (.ptr 0 0),uO p] (lN (dQ M) [])) Q:=by
 obtain⟨M1,e,hf⟩:∃M1 e,vL M p=(M1,e):=⟨_,_,rfl⟩
 obtain⟨R,hR⟩:∃R,rL M p=R:=⟨_,rfl⟩
 have hR2:=hR
 rw[hR];unfold rL at hR2;rw[hf]at hR2;dsimp only at hR2;refine eL.evH (PM (dQ M) (dQ M1) (gF (dQ M) p) M p M1 e) (tAc (dQ M) (dQ M1) (gF (dQ M) p) M M1 p e b) ?_;simp only[bZ,bB,aL,jP,gK,qB,beq_iff_eq,bne_iff_ne,bne_eq_false_iff_eq,beq_eq_false_iff_ne,ne_eq,eP,decide_eq_true_eq,decide_eq_false_iff_not,gA]
 have hIs:=dJ aN 2 p.L
 refine⟨fun h0=>?_,fun h0=>?_⟩
 ·rw[if_pos h0]at hR2
  subst hR2
  exact⟨⟨⟨⟨hIs,trivial⟩,trivial,trivial,fun _ _ _ _=>rfl,trivial,trivial,trivial,trivial⟩,⟨hM,hve⟩,hf,trivial,trivial⟩,⟨aJ (by kernel_rfl)⟩⟩
 rw[if_neg h0]at hR2;clear hf
 have no:(false,M)=R→cQ G (bS 2 [(0,.c (.ptr 0 0)),(1,bV false)] [.pin 1 b,.cells 86 [.sl 2 7 0 (dQ M).M.length,.mp 3,.mp 4],.row 31 7 (dQ M).M.length (aQ aI (dQ M).M),.mapb (bQ aB 81) (dQ M).gp,.mapl (bQ aB 79) 3 1 (dQ M).gs none]) ⟨[.c (.ptr 0 0)]++[bV R.1],oM (dQ R.2) b⟩:=by
  rintro rfl;exact aJ rfl
 have sz:hJ p=true→(cE p.L).size≤1000000∧bQ aB 81 (kK p.ru p.ve (cE p.L) p.st)=true∧sP (dQ M) p∧∀t,(dQ M).gp (kK p.ru p.ve (cE p.L) t)=pN M p.ru p.ve p.L t:=fun g=>by
  have hF:=FD hM g hve
  obtain⟨S,hv,_,_⟩:=(tJ hM.1).vw p.ru p.ve p.L (iM.1 g).2.2.1
  have:=hv.gp
  rw[lP]at this;exact⟨hF.2.2.1,hF.1,hF,this⟩
 refine⟨fun h1=>⟨fun h2=>⟨no (by rw[if_pos (.inl ⟨h1,h2⟩)]at hR2;exact hR2)⟩,fun h2=>?_⟩,fun h1=>?_⟩
 all_goals
  refine⟨hIs,fun g1=>⟨no (by rw[if_pos (.inr (.inl g1))]at hR2;exact hR2)⟩,fun g1=>⟨fun g2=>⟨no (by rw[if_pos (.inr (.inr g2))]at hR2;exact hR2)⟩,fun g2=>?_⟩⟩;obtain⟨s1,s2,s3,s4⟩:=sz g1
  have hk:¬(p.kd≠1∧p.kd≠2):=by omega
  rw[if_neg (fun q=>q.elim hk fun q=>q.elim (fun q=>absurd (g1.symm.trans q) (by decide)) fun q=>q g2)]at hR2
  have s5:=s4 p.st
  unfold kK at s5;rw[s5];refine⟨⟨hIs,s1⟩,⟨trivial,s2⟩,fun g3=>⟨no (by rw[if_pos (by simpa using g3)]at hR2;exact hR2)⟩,fun g3=>?_⟩;rw[if_neg (by simpa using g3)]at hR2;subst hR2;refine⟨⟨⟨⟨hIs,trivial⟩,trivial,trivial,fun _ _ _ _=>rfl,trivial,trivial,trivial,trivial⟩,s3,trivial⟩,⟨?_⟩⟩
  show cQ G _ ⟨[.c (.ptr 0 0)]++[bV true],oM (dQ (M++[p])) b⟩
  rw[zC]
  exact aJ (by kernel_rfl)
noncomputable def aCV(D D':Ld)(M:List Pg)(p:Pg)(M':List Pg)(ok:Bool):jU
 |[.c (.ptr j 0),x],h=>match EQ D (nL h j) h,ND x p with
  |some (q,r,a,b),some s=>some ((s∧q)∧(AC M∧eV .i64 p.ve)∧rL M p=(ok,M')∧D=dQ M∧D'=dQ M',bV ok,iL [nL h j,r,a,b] [nL h j] [1] h (oM D' 0))
  |_,_=>none
 |_,_=>none
set_option maxRecDepth 100000 in
theorem aM3(D D':Ld)(M:List Pg)(p:Pg)(M':List Pg)(ok:Bool):fZ aB G 69 (aCV D D' M p M' ok):=by
 intro args h p0 v h' hm hp;unfold aCV at hm
 split at hm;rotate_left;· cases hm
 split at hm;rotate_left;· cases hm
 rename_i j x _ _ q r a b s hl hx;obtain⟨rfl,rfl,rfl⟩:=gH hm;obtain⟨⟨hr,hq⟩,⟨hM,hve⟩,he,rfl,rfl⟩:=hp;obtain⟨g,k1,k2,k3,k4,hg⟩:=tV hl hq
 have hm:=aEJ (G:=G) M hM p hve
 rw[he]at hm
 exact jN.args (args':=[.c (.ptr j 0),uO p]) (pI (yA (args:=[uO p]) (vs:=[bV ok]) (D':=dQ M') Try.func69 (by kernel_rfl) k1 k2 k3 k4 hg rfl fun b=>hm b _)) (.cons (.refl _) (.cons (uS hx hr) .nil))
end
def vM(B:List UInt8):Nat→Option (List Pg×Rs)
 |0=>some ([],(fO B ⟨0,0⟩).2)
 |i+1=>match vM B i with
  |none=>none
  |some (M,s)=>match (jS B s).2.1 with
   |false=>none
   |true=>match (rL M (jS B s).1).1 with
    |false=>none
    |true=>some ((rL M (jS B s).1).2,(jS B s).2.2)
def wQ(B:List UInt8):Option (List Pg):=if (fO B ⟨0,0⟩).1<0 then none else match vM B (fO B ⟨0,0⟩).1.toNat with
 |none=>none
 |some (M,s)=>if GG B s≠0 then none else some M
noncomputable def aK6(B:List UInt8):Ext:=lH [(66,SF B),(20,aCK)]
def aK5(B:List UInt8)(F:Rs→Int×Rs):Ext:=lH [(67,VG B F)]
def aK4(B:List UInt8)(p:Pg)(ok:Bool)(s':Rs):Ext:=lH [(68,SC B p ok s')]
noncomputable def aK3(D D':Ld)(M:List Pg)(p:Pg)(M':List Pg)(ok:Bool):Ext:=lH [(69,aCV D D' M p M' ok)]
def aK2(B:List UInt8)(r:Int):Ext:=lH [(70,aCJ B r)]
theorem aRV(B:List UInt8)(h:List AO):dC (aK6 B) (dH 3 (cW aB jM)) (jJ jM [] [] [] [aU bG 1 B] h) (gG [] (eZ 37 [4,5]) (bI aB jM))=Tr.rq ((B.length=B.length∧∀(e o:Nat),e<B.length→o<1→aE bG B e o=aE bG B e o)∧B.length≤140737488355328)
 (.rq True
 (.done .normal
 (bS 37 [(4,.c (.ptr 0 0)),(5,.c (.ptr 1 0))] [.cells 123 [.p (.l 1 B.length (aE bG B)),.p (.i .i64 (↑(Rs.mk 0 0).at_:Int)),.p (.i .i64 (Rs.mk 0 0).er)],.cells 86 [.sl 2 7 0 0,.mp 3,.mp 4],.row 31 7 0 fun e o=>bP [0,1,2,3,4] (C.p (aE aI zO.M e o)),.mapb (bQ aB 81) zO.gp,.mapl (bQ aB 79) 3 1 zO.gs none]))):=by kernel_rfl
theorem aRU(B:List UInt8)(F:Rs→Int×Rs)(D:Ld)(a:Nat)(e:Int):dC (aK5 B F) (dH 4 (bJ 3 (cW aB jM))) (bS 37 [(4,.c (.ptr 0 0)),(5,.c (.ptr 1 0))] [lI B ⟨a,e⟩,.cells 86 [.sl 2 7 0 D.M.length,.mp 3,.mp 4],.row 31 7 D.M.length (aQ aI D.M),.mapb (bQ aB 81) D.gp,.mapl (bQ aB 79) 3 1 D.gs none]) (gG [] (eZ 37 [4,5,16,17]) (bI aB jM))=Tr.rq
 ((C.p (PV.l 1 B.length (aE bG B))=C.p (PV.l 1 B.length (aE bG B))∧0≤(↑(Rs.mk a e).at_:Int)∧(↑(Rs.mk a e).at_:Int)≤(↑B.length:Int)∧B.length≤140737488355328)∧F=fO B)
 (bT (decide ((F (Rs.mk (↑(Rs.mk a e).at_:Int).toNat (Rs.mk a e).er)).fst<0)) (.done .ret (bS 2 [(0,.c (.p (.z (Value.pointer none)))),(1,.c (.p (.i .i64 2)))] []))
 (.done .normal
 (bS 37 [(4,.c (.ptr 0 0)),(5,.c (.ptr 1 0)),(16,.c (.p (.i .i64 (F (Rs.mk (↑(Rs.mk a e).at_:Int).toNat (Rs.mk a e).er)).fst))),(17,.c (.p (.i .i64 0)))] [.cells 123 [.p (.l 1 B.length (aE bG B)),.p (.i .i64 (↑(F (Rs.mk (↑(Rs.mk a e).at_:Int).toNat (Rs.mk a e).er)).snd.at_:Int)),.p (.i .i64 (F (Rs.mk (↑(Rs.mk a e).at_:Int).toNat (Rs.mk a e).er)).snd.er)],.cells 86 [.sl 2 7 0 D.M.length,.mp 3,.mp 4],.row 31 7 D.M.length fun e o=>bP [0,1,2,3,4] (aQ aI D.M e o),.mapb (bQ aB 81) D.gp,.mapl (bQ aB 79) 3 1 D.gs none]))):=by kernel_rfl
theorem aRT(B:List UInt8)(D:Ld)(n:Int)(i a:Nat)(e:Int):dC eW (dH 2 (gR (cW aB jM) 7)) (bS 37 [(4,.c (.ptr 0 0)),(5,.c (.ptr 1 0)),(16,iV n),(17,iV i)] [lI B ⟨a,e⟩,.cells 86 [.sl 2 7 0 D.M.length,.mp 3,.mp 4],.row 31 7 D.M.length (aQ aI D.M),.mapb (bQ aB 81) D.gp,.mapl (bQ aB 79) 3 1 D.gs none]) (gG [] (eZ 37 [4,5,16,17]) (bI aB jM))=bT (decide ((↑i:Int)<n))
 (.done .normal
 (bS 37 [(4,.c (.ptr 0 0)),(5,.c (.ptr 1 0)),(16,.c (.p (.i .i64 n))),(17,.c (.p (.i .i64 (↑i:Int))))] [.cells 123 [.p (.l 1 B.length (aE bG B)),.p (.i .i64 (↑(Rs.mk a e).at_:Int)),.p (.i .i64 (Rs.mk a e).er)],.cells 86 [.sl 2 7 0 D.M.length,.mp 3,.mp 4],.row 31 7 D.M.length fun e o=>bP [0,1,2,3,4] (aQ aI D.M e o),.mapb (bQ aB 81) D.gp,.mapl (bQ aB 79) 3 1 D.gs none]))
 (.done (.exit 0)
 (bS 37 [(4,.c (.ptr 0 0)),(5,.c (.ptr 1 0)),(16,.c (.p (.i .i64 n))),(17,.c (.p (.i .i64 (↑i:Int))))] [.cells 123 [.p (.l 1 B.length (aE bG B)),.p (.i .i64 (↑(Rs.mk a e).at_:Int)),.p (.i .i64 (Rs.mk a e).er)],.cells 86 [.sl 2 7 0 D.M.length,.mp 3,.mp 4],.row 31 7 D.M.length fun e o=>bP [0,1,2,3,4] (aQ aI D.M e o),.mapb (bQ aB 81) D.gp,.mapl (bQ aB 79) 3 1 D.gs none])):=by kernel_rfl
theorem aRS(B:List UInt8)(D:Ld)(p:Pg)(ok:Bool)(n:Int)(i a a':Nat)(e e':Int):dC (aK4 B p ok ⟨a',e'⟩) (dH 1 (eX (inr (bF .skip (gR (cW aB jM) 7) 2)))) (bS 37 [(4,.c (.ptr 0 0)),(5,.c (.ptr 1 0)),(16,iV n),(17,iV i)] [lI B ⟨a,e⟩,.cells 86 [.sl 2 7 0 D.M.length,.mp 3,.mp 4],.row 31 7 D.M.length (aQ aI D.M),.mapb (bQ aB 81) D.gp,.mapl (bQ aB 79) 3 1 D.gs none]) (gG [] (eZ 37 [4,5,7,8,16,17]) (bI aB jM))=Tr.rq
 ((C.p (PV.l 1 B.length (aE bG B))=C.p (PV.l 1 B.length (aE bG B))∧0≤(↑(Rs.mk a e).at_:Int)∧(↑(Rs.mk a e).at_:Int)≤(↑B.length:Int)∧B.length≤140737488355328) ∧
 jS B (Rs.mk (↑(Rs.mk a e).at_:Int).toNat (Rs.mk a e).er)=(p,ok,Rs.mk a' e'))
 (.done .normal
 (bS 37 [(4,.c (.ptr 0 0)),(5,.c (.ptr 1 0)),(7,.c (.ptr 2 0)),(8,.c (.p (.b ok))),(16,.c (.p (.i .i64 n))),(17,.c (.p (.i .i64 (↑i:Int))))] [.cells 123 [.p (.l 1 B.length (aE bG B)),.p (.i .i64 (↑(Rs.mk a' e').at_:Int)),.p (.i .i64 (Rs.mk a' e').er)],.cells 86 [.sl 3 7 0 D.M.length,.mp 4,.mp 5],.cells 31 [.p (.i .i64 p.kd),.p (.s p.ru),.p (.i .i64 p.ve),.p (.l 2 p.L.length (aE aN p.L)),.p (.i .i64 p.st),.p (.i .i64 p.se),.p (.s p.to)],.row 31 7 D.M.length fun e o=>bP [0,1,7,2,3,4] (aQ aI D.M e o),.mapb (bQ aB 81) D.gp,.mapl (bQ aB 79) 3 1 D.gs none])):=by kernel_rfl
theorem aRR(B:List UInt8)(D D':Ld)(M M':List Pg)(p:Pg)(ok acc:Bool)(n:Int)(i a:Nat)(e:Int):dC (aK3 D D' M p M' acc) (bJ 1 (eX (inr (bF .skip (gR (cW aB jM) 7) 2)))) (bS 37 [(4,.c (.ptr 0 0)),(5,.c (.ptr 1 0)),(7,.c (.ptr 2 0)),(8,bV ok),(16,iV n),(17,iV i)] [lI B ⟨a,e⟩,.cells 86 [.sl 3 7 0 D.M.length,.mp 4,.mp 5],.cells 31 [.p (.i .i64 p.kd),.p (.s p.ru),.p (.i .i64 p.ve),.p (bY aN 2 p.L),.p (.i .i64 p.st),.p (.i .i64 p.se),.p (.s p.to)],.row 31 7 D.M.length (aQ aI D.M),.mapb (bQ aB 81) D.gp,.mapl (bQ aB 79) 3 1 D.gs none]) (gG [] (eZ 37 [4,5,16,17]) (bI aB jM))=bT (!ok) (.done .ret (bS 2 [(0,.c (.p (.z (Value.pointer none)))),(1,.c (.p (.i .i64 2)))] []))
 (.rq
 (((kA aN 2 (bO cT p.L.length (aE aN p.L)) p.L.length (aE aN p.L)∧Pg.mk p.kd p.ru p.ve (bO cT p.L.length (aE aN p.L)) p.st p.se p.to=p) ∧
 D.M.length=D.M.length ∧
 D.M.length=D.M.length ∧
 (∀(e o:Nat),e<D.M.length→o<7→aQ aI D.M e o=aQ aI D.M e o)∧bQ aB 81=bQ aB 81∧D.gp=D.gp∧bQ aB 79=bQ aB 79∧D.gs=D.gs) ∧
 (AC M∧eV aC p.ve)∧rL M p=(acc,M')∧D=dQ M∧D'=dQ M')
 (bT (!acc) (.done .ret (bS 2 [(0,.c (.p (.z (Value.pointer none)))),(1,.c (.p (.i .i64 2)))] []))
 (.done .normal
 (bS 37 [(4,.c (.ptr 0 0)),(5,.c (.ptr 1 0)),(16,.c (.p (.i .i64 n))),(17,.c (.p (.i .i64 (↑i:Int))))] [.cells 123 [.p (.l 1 B.length (aE bG B)),.p (.i .i64 (↑(Rs.mk a e).at_:Int)),.p (.i .i64 (Rs.mk a e).er)],.cells 86 [.sl 2 7 0 D'.M.length,.mp 3,.mp 4],.row 31 7 D'.M.length fun e o=>bP [0,1,8,9,10] (C.p (aE aI D'.M e o)),.mapb (bQ aB 81) D'.gp,.mapl (bQ aB 79) 3 1 D'.gs none])))):=by kernel_rfl
theorem aRQ(B:List UInt8)(D:Ld)(n:Int)(i a:Nat)(e:Int):dC eW (bJ 3 (gR (cW aB jM) 7)) (bS 37 [(4,.c (.ptr 0 0)),(5,.c (.ptr 1 0)),(16,iV n),(17,iV i)] [lI B ⟨a,e⟩,.cells 86 [.sl 2 7 0 D.M.length,.mp 3,.mp 4],.row 31 7 D.M.length (aQ aI D.M),.mapb (bQ aB 81) D.gp,.mapl (bQ aB 79) 3 1 D.gs none]) (gG [] (eZ 37 [4,5,16,17]) (bI aB jM))=Tr.rq (eV aC ((↑i:Int)+1))
 (.done .normal
 (bS 37 [(4,.c (.ptr 0 0)),(5,.c (.ptr 1 0)),(16,.c (.p (.i .i64 n))),(17,.c (.p (.i .i64 ((↑i:Int)+1))))] [.cells 123 [.p (.l 1 B.length (aE bG B)),.p (.i .i64 (↑(Rs.mk a e).at_:Int)),.p (.i .i64 (Rs.mk a e).er)],.cells 86 [.sl 2 7 0 D.M.length,.mp 3,.mp 4],.row 31 7 D.M.length fun e o=>bP [0,1,2,3,4] (aQ aI D.M e o),.mapb (bQ aB 81) D.gp,.mapl (bQ aB 79) 3 1 D.gs none])):=by kernel_rfl
theorem aRP(B:List UInt8)(D:Ld)(n:Int)(i a:Nat)(e r:Int):dC (aK2 B r) (bJ 8 (cW aB jM)) (bS 37 [(4,.c (.ptr 0 0)),(5,.c (.ptr 1 0)),(16,iV n),(17,iV i)] [lI B ⟨a,e⟩,.cells 86 [.sl 2 7 0 D.M.length,.mp 3,.mp 4],.row 31 7 D.M.length (aQ aI D.M),.mapb (bQ aB 81) D.gp,.mapl (bQ aB 79) 3 1 D.gs none]) (gG [] [] (bI aB jM))=Tr.rq
 ((C.p (PV.l 1 B.length (aE bG B))=C.p (PV.l 1 B.length (aE bG B))∧0≤(↑(Rs.mk a e).at_:Int)∧(↑(Rs.mk a e).at_:Int)≤(↑B.length:Int)∧B.length≤140737488355328) ∧
 GG B (Rs.mk (↑(Rs.mk a e).at_:Int).toNat (Rs.mk a e).er)=r)
 (bT (r != 0) (.done .ret (bS 2 [(0,.c (.p (.z (Value.pointer none)))),(1,.c (.p (.i .i64 2)))] []))
 (.done .ret
 (bS 2 [(0,.c (.ptr 0 0)),(1,.c (.p (.i .i64 0)))] [.cells 86 [.sl 1 7 0 D.M.length,.mp 2,.mp 3],.row 31 7 D.M.length fun e o=>bP [1,2,3,4] (aQ aI D.M e o),.mapb (bQ aB 81) D.gp,.mapl (bQ aB 79) 3 1 D.gs none]))):=by kernel_rfl
theorem AJ{B:List UInt8}:∀(f i a n:Nat),a≤(mS B f i a n).2.at_
 |0,_,a,_=>aW _
 |f+1,i,a,n=>by
  unfold mS;split
  ·exact aW _
  ·split
   ·exact Nat.le_succ _
   ·split
    ·exact Nat.le_succ _
    ·exact Nat.le_trans (Nat.le_succ _) (AJ f _ _ _)
theorem CP(B:List UInt8)(s:Rs):s.at_≤(jR B s).2.at_:=by
 unfold jR;split
 ·exact aW _
 ·exact AJ _ _ _ _
theorem uU(B:List UInt8)(s:Rs):s.at_≤(fO B s).2.at_:=CP B s
theorem uJ(B:List UInt8)(s:Rs):s.at_≤(jF B s).2.at_:=by
 have h:=CP B s
 show s.at_≤(nB B s).2.at_
 unfold nB;split
 ·exact h
 ·split
  ·exact h
  ·exact Nat.le_trans h (Nat.le_add_right _ _)
theorem IC(B:List UInt8):∀(n:Nat) (s:Rs),s.at_≤(mB B n s).2.at_
 |0,_=>aW _
 |n+1,s=>Nat.le_trans (IC B n s) (Nat.le_trans (uJ B _) (uJ B _))
theorem aEX{B:List UInt8}{s:Rs}(h:(jF B s).1≠⟨#[]⟩):s.er=0:=by
 refine LT (B:=B) (Decidable.byContradiction fun hu=>h ?_);unfold jF nB;rw[if_pos hu]
theorem VS(B:List UInt8)(s:Rs):eV .i64 (fO B s).1:=WR (CQ B s)
theorem aH8{s:ByteArray}(h:jC s=true):s≠⟨#[]⟩:=by
 rintro rfl;revert h
 have e:jC ⟨#[]⟩=false:=by kernel_rfl
 rw[e];decide
theorem AA{M M':List Pg}{p:Pg}(h:rL M p=(true,M')):M'=M++[p]∧hJ p=true∧(p.kd=0∨p.kd=1∨p.kd=2):=by
 unfold rL at h;split at h
 ·rename_i h0
  unfold vL at h;split at h
  ·injection h with h1 h2;exact absurd h1 (show ¬((1:Int)==0)=true by decide)
  rename_i hb;split at h
  ·injection h with h1 h2;exact absurd h1 (show ¬((10:Int)==0)=true by decide)
  split at h
  ·injection h with h1 h2;exact absurd h1 (show ¬((20:Int)==0)=true by decide)
  injection h with h1 h2;refine⟨h2.symm,?_,.inl h0⟩;cases hq:hJ p with
  |true=>rfl
  |false=>exact absurd (.inl hq) hb
 ·rename_i h0
  split at h
  ·injection h with h1 h2;exact absurd h1 (by decide)
  rename_i hb;split at h
  ·injection h with h1 h2;exact absurd h1 (by decide)
  injection h with h1 h2;refine⟨h2.symm,?_,?_⟩
  ·cases hq:hJ p with
   |true=>rfl
   |false=>exact absurd (.inr (.inl hq)) hb
  ·have:¬(p.kd≠1∧p.kd≠2):=fun h=>hb (.inl h)
   omega
theorem DO(B:List UInt8)(s:Rs):eV .i64 (jS B s).1.ve:=by
 unfold jS;dsimp only;split
 ·show (-9223372036854775808:Int)≤0∧(0:Int)≤9223372036854775807
  decide
 ·exact VS _ _
theorem aB2{B:List UInt8}{s:Rs}(h:s.at_≤B.length):(jS B s).2.2.at_≤B.length:=by
 have f4:=lG (lG (oW (lG h)))
 unfold jS;dsimp only;split
 ·exact f4
 ·exact oW (lG (lG (CC _ f4)))
theorem XL{B:List UInt8}{s:Rs}(h:(jS B s).1.ru≠⟨#[]⟩):s.er=0∧s.at_+1≤(jS B s).2.2.at_:=by
 unfold jS at h ⊢;dsimp only at h ⊢;split at h
 ·exact absurd rfl h
 ·rename_i hn
  rw[if_neg hn]
  have h:(jF B (fO B s).2).1≠⟨#[]⟩:=h
  have h1:=aEX h
  obtain⟨h2,h3,_⟩:=wN h1
  have hp:=GO (zag (fO B s).1)
  have e:(eT (fO B s).1).length=(iU (zag (fO B s).1)).length:=rfl
  refine⟨h2,?_⟩
  have k1:=uJ B (fO B s).2
  have k2:=uU B (jF B (fO B s).2).2
  have k3:=uU B (fO B (jF B (fO B s).2).2).2
  have k4:=IC B (uV B s).2.2.2.1.toNat (fO B (fO B (jF B (fO B s).2).2).2).2
  have k5:=uU B (mB B (uV B s).2.2.2.1.toNat (fO B (fO B (jF B (fO B s).2).2).2).2).2
  have k6:=uU B (fO B (mB B (uV B s).2.2.2.1.toNat (fO B (fO B (jF B (fO B s).2).2).2).2).2).2
  have k7:=uJ B (fO B (fO B (mB B (uV B s).2.2.2.1.toNat (fO B (fO B (jF B (fO B s).2).2).2).2).2).2).2
  show s.at_+1≤(jF B (fO B (fO B (mB B (uV B s).2.2.2.1.toNat (fO B (fO B (jF B (fO B s).2).2).2).2).2).2).2).2.at_
  omega
theorem uE(B:List UInt8):∀(i:Nat) (M:List Pg) (s:Rs),vM B i=some (M,s)→(∀q∈M,JE q)∧M.length=i∧i≤s.at_∧s.at_≤B.length
 |0,M,s,h=>by
  injection h with h;injection h with h1 h2;subst h1;subst h2;exact⟨fun q hq=>(by cases hq),rfl,bW _,lG (bW _)⟩
 |i+1,M,s,h=>by
  unfold vM at h;split at h
  ·cases h
  rename_i N t hN;obtain⟨k1,k2,k3,k4⟩:=uE B i N t hN;split at h
  ·cases h
  rename_i hok;split at h
  ·cases h
  rename_i hac;injection h with h;injection h with h1 h2;subst h1;subst h2;obtain⟨a1,a2,a3⟩:=AA (M:=N) (p:=(jS B t).1) (M':=(rL N (jS B t).1).2) (Prod.ext hac rfl);obtain⟨b1,b2⟩:=XL (aH8 (iM.1 a2).1);refine⟨fun q hq=>?_,by rw[a1,aV,k2];rfl,by omega,aB2 k4⟩;rw[a1]at hq
  rcases List.mem_append.1 hq with hq|hq
  ·exact k1 q hq
  ·obtain rfl:=List.mem_singleton.1 hq
   exact⟨a2,DO B t,a3⟩
theorem ZF{B:List UInt8}{i:Nat}{M:List Pg}{s:Rs}(h:vM B i=some (M,s)):vM B (i+1)=match (jS B s).2.1 with
  |false=>none
  |true=>match (rL M (jS B s).1).1 with
   |false=>none
   |true=>some ((rL M (jS B s).1).2,(jS B s).2.2):=by
 show (match vM B i with
  |none=>none
  |some (M,s)=>match (jS B s).2.1 with
   |false=>none
   |true=>match (rL M (jS B s).1).1 with
    |false=>none
    |true=>some ((rL M (jS B s).1).2,(jS B s).2.2))=_
 rw[h]
theorem IR{B:List UInt8}{i:Nat}(h:vM B i=none):∀k,vM B (i+k)=none
 |0=>h
 |k+1=>by
  show vM B (i+k+1)=none
  unfold vM;rw[IR h k]
theorem IP{B:List UInt8}{n:Nat}(hn:(fO B ⟨0,0⟩).1=n){i:Nat}(hi:i≤n)(h:vM B i=none):wQ B=none:=by
 unfold wQ;rw[hn,if_neg (by omega),dP,show n=i+(n-i) by omega,IR h]
def aJ0:List V:=[.c (.p (.z (.pointer none))),iV 2]
def IQ(B:List UInt8):List V:=match wQ B with
 |none=>aJ0
 |some _=>[.c (.ptr 0 0),iV 0]
noncomputable def ZG(B:List UInt8):List AO:=match wQ B with
 |none=>[]
 |some M=>lN (dQ M) []
section
variable {G:Nat→Option Obj}
theorem PE(B:List UInt8):bH aB G (aK6 B):=dZ (by simp;exact⟨aGP B,aBR⟩)
theorem PD(B:List UInt8):bH aB G (aK5 B (fO B)):=dZ (by simp;exact aBQ B (fO B))
theorem PC(B:List UInt8)(p:Pg)(ok:Bool)(s':Rs):bH aB G (aK4 B p ok s'):=dZ (by simp;exact aGM B p ok s')
theorem PB(D D':Ld)(M:List Pg)(p:Pg)(M':List Pg)(ok:Bool):bH aB G (aK3 D D' M p M' ok):=dZ (by simp;exact aM3 D D' M p M' ok)
theorem PA(B:List UInt8)(r:Int):bH aB G (aK2 B r):=dZ (by simp;exact aLU B r)
set_option maxRecDepth 100000 in
set_option maxHeartbeats 1000000 in
theorem PO(B:List UInt8)(hB:B.length≤140737488355328)(hN:(fO B ⟨0,0⟩).1≤50000∨B.length≤50000)(h:List AO)(Q:X→St→Prop):eL aB G (Zm [] (bI aB jM) fun s=>cQ G s ⟨[]++IQ B,ZG B⟩) (cW aB jM) (jJ jM [] [] [] [aU bG 1 B] h) Q:=by
 have bad:wQ B=none→cQ G (bS 2 [(0,.c (.p (.z (.pointer none)))),(1,iV 2)] []) ⟨[]++IQ B,ZG B⟩:=fun hz=>by
  unfold IQ ZG;rw[hz];exact aJ rfl
 refine eL.evG (PE B) 3 (aRV B h) ?_;simp only[bB,aL,cF];refine⟨⟨⟨trivial,fun _ _ _ _=>trivial⟩,hB⟩,trivial,⟨?_⟩⟩
 refine eL.pre (aJ (st':=(fun(D:Ld) (a:Nat) (e:Int)=>bS 37 [(4,.c (.ptr 0 0)),(5,.c (.ptr 1 0))] [lI B ⟨a,e⟩,.cells 86 [.sl 2 7 0 D.M.length,.mp 3,.mp 4],.row 31 7 D.M.length (aQ aI D.M),.mapb (bQ aB 81) D.gp,.mapl (bQ aB 79) 3 1 D.gs none]) zO 0 0) (by kernel_rfl)) ?_
 refine eL.evG (PD B) 4 (aRU B (fO B) zO 0 0) ?_;simp only[bZ,bB,aL,cF,jP,decide_eq_true_eq,decide_eq_false_iff_not,dP,JN]
 have f1:=lG (B:=B) (s:=⟨0,0⟩) (bW _)
 refine⟨⟨⟨trivial,by omega,by omega,hB⟩,trivial⟩,fun h1=>⟨bad (by unfold wQ;rw[if_pos h1])⟩,fun h1=>⟨?_⟩⟩
 obtain⟨n,hn⟩:∃n:Nat,(fO B ⟨0,0⟩).1=n:=⟨(fO B ⟨0,0⟩).1.toNat,by omega⟩
 have hd0:vM B 0=some ([],(fO B ⟨0,0⟩).2):=rfl
 rw[hn]at hN ⊢
 generalize hs0:(fO B ⟨0,0⟩).2=s0 at hd0 f1 ⊢
 obtain⟨a0,e0⟩:=s0
 refine eL.loop' (l:=bJ 4 (bJ 3 (cW aB jM))) (id:=0) (b:=inr (inr (bF .skip (cW aB jM) 7))) (r:=bJ 8 (cW aB jM)) (by kernel_rfl) (σ:=Nat×List Pg×Rs)
   (fun s=>(fun(D:Ld) (a:Nat) (e:Int) (n:Int) (i:Nat)=>bS 37 [(4,.c (.ptr 0 0)),(5,.c (.ptr 1 0)),(16,iV n),(17,iV i)] [lI B ⟨a,e⟩,.cells 86 [.sl 2 7 0 D.M.length,.mp 3,.mp 4],.row 31 7 D.M.length (aQ aI D.M),.mapb (bQ aB 81) D.gp,.mapl (bQ aB 79) 3 1 D.gs none]) (dQ s.2.1) s.2.2.at_ s.2.2.er (n:Int) s.1) (fun s=>s.1≤n∧vM B s.1=some s.2) (fun s=>n-s.1) (0,[],⟨a0,e0⟩) ⟨bW _,hd0⟩ (aJ (by kernel_rfl)) ?_
 clear hd0 f1;rintro⟨i,M,a,e⟩ ⟨hi,hd⟩ Q1 q1n q1e _;dsimp only at hi hd q1n ⊢;obtain⟨k1,k2,k3,k4⟩:=uE B i M ⟨a,e⟩ hd;dsimp only at k3 k4
 have hM:AC M:=⟨k1,by omega⟩
 refine eL.evG aX 2 (aRT B (dQ M) n i a e) ?_;simp only[bZ,aL,cF,mC,decide_eq_true_eq,decide_eq_false_iff_not];refine⟨fun h2=>⟨?_⟩,fun h2=>⟨q1e _ ?_⟩⟩
 ·have hdn:=ZF hd
  have hve:=DO B ⟨a,e⟩
  generalize hrd:jS B ⟨a,e⟩=rd at hdn hve ⊢
  obtain⟨p,ok,a',e'⟩:=rd;dsimp only at hdn hve ⊢
  refine eL.blk' (l:=bJ 2 (gR (cW aB jM) 7)) (id:=1) (a:=inr (bF .skip (gR (cW aB jM) 7) 2)) (r:=bJ 3 (gR (cW aB jM) 7)) (by kernel_rfl) ?_
  intro Q2 q2n q2e _
  refine eL.pre (aJ (st':=(fun(D:Ld) (n:Int)=>bS 37 [(4,.c (.ptr 0 0)),(5,.c (.ptr 1 0)),(16,iV n),(17,iV i)] [lI B ⟨a,e⟩,.cells 86 [.sl 2 7 0 D.M.length,.mp 3,.mp 4],.row 31 7 D.M.length (aQ aI D.M),.mapb (bQ aB 81) D.gp,.mapl (bQ aB 79) 3 1 D.gs none]) (dQ M) (n:Int)) (by kernel_rfl)) (eL.evG (PC B p ok ⟨a',e'⟩) 1 (aRS B (dQ M) p ok n i a a' e e') ?_)
  simp only[bB,aL,cF,dP];refine⟨⟨⟨trivial,by omega,by omega,hB⟩,hrd⟩,⟨?_⟩⟩
  obtain⟨acc,M',hac⟩:∃acc M',rL M p=(acc,M'):=⟨_,_,rfl⟩
  rw[hac]at hdn;dsimp only at hdn
  refine eL.pre (aJ (st':=(fun(D:Ld) (n:Int) (a:Nat) (e:Int)=>bS 37 [(4,.c (.ptr 0 0)),(5,.c (.ptr 1 0)),(7,.c (.ptr 2 0)),(8,bV ok),(16,iV n),(17,iV i)] [lI B ⟨a,e⟩,.cells 86 [.sl 3 7 0 D.M.length,.mp 4,.mp 5],.cells 31 [.p (.i .i64 p.kd),.p (.s p.ru),.p (.i .i64 p.ve),.p (bY aN 2 p.L),.p (.i .i64 p.st),.p (.i .i64 p.se),.p (.s p.to)],.row 31 7 D.M.length (aQ aI D.M),.mapb (bQ aB 81) D.gp,.mapl (bQ aB 79) 3 1 D.gs none]) (dQ M) (n:Int) a' e') (by kernel_rfl)) (eL.evH (PB (dQ M) (dQ M') M p M' acc) (aRR B (dQ M) (dQ M') M M' p ok acc n i a' e') ?_)
  simp only[bZ,bB,aL,cF,jP,gK,eP,gA];refine⟨fun h3=>⟨bad ?_⟩,fun h3=>⟨⟨⟨⟨dJ _ _ _,trivial⟩,trivial,trivial,fun _ _ _ _=>trivial,trivial,trivial,trivial,trivial⟩,⟨hM,hve⟩,hac,trivial,trivial⟩,fun h4=>⟨bad ?_⟩,fun h4=>⟨q2n _ ?_⟩⟩⟩
  ·rw[h3]at hdn
   exact IP hn (by omega:i+1≤n) hdn
  ·rw[h3,h4]at hdn
   exact IP hn (by omega:i+1≤n) hdn
  ·rw[h3,h4]at hdn
   refine eL.pre (aJ (st':=(fun(D:Ld) (n:Int) (a:Nat) (e:Int)=>bS 37 [(4,.c (.ptr 0 0)),(5,.c (.ptr 1 0)),(16,iV n),(17,iV i)] [lI B ⟨a,e⟩,.cells 86 [.sl 2 7 0 D.M.length,.mp 3,.mp 4],.row 31 7 D.M.length (aQ aI D.M),.mapb (bQ aB 81) D.gp,.mapl (bQ aB 79) 3 1 D.gs none]) (dQ M') (n:Int) a' e') (by kernel_rfl)) (eL.evH aX (aRQ B (dQ M') n i a' e') ?_)
   simp only[bB,aL,cF,eV]
   have hnr:=VS B ⟨0,0⟩
   rw[hn]at hnr;simp only[eV]at hnr
   exact⟨by omega,⟨q1n (i+1,M',⟨a',e'⟩) _ ⟨by show i+1≤n;omega,hdn⟩ (by show n-(i+1)<n-i;omega) (aJ (by kernel_rfl))⟩⟩
 ·obtain rfl:i=n:=by omega
  refine eL.pre (aJ (st':=(fun(D:Ld) (n:Int)=>bS 37 [(4,.c (.ptr 0 0)),(5,.c (.ptr 1 0)),(16,iV n),(17,iV i)] [lI B ⟨a,e⟩,.cells 86 [.sl 2 7 0 D.M.length,.mp 3,.mp 4],.row 31 7 D.M.length (aQ aI D.M),.mapb (bQ aB 81) D.gp,.mapl (bQ aB 79) 3 1 D.gs none]) (dQ M) (i:Int)) (by kernel_rfl)) ?_
  refine eL.evH (PA B (GG B ⟨a,e⟩)) (aRP B (dQ M) i i a e (GG B ⟨a,e⟩)) ?_;simp only[bZ,bB,aL,jP,dP,bne_iff_ne,bne_eq_false_iff_eq,ne_eq]
  have hz:wQ B=if GG B ⟨a,e⟩≠0 then none else some M:=by
   unfold wQ;rw[hn,if_neg (by omega),dP,hd]
  refine⟨⟨⟨trivial,by omega,by omega,hB⟩,trivial⟩,fun h3=>⟨bad (by rw[hz,if_pos h3])⟩,fun h3=>⟨?_⟩⟩;rw[if_neg (by simpa using h3)]at hz;unfold IQ ZG;rw[hz]
  exact aJ (by kernel_rfl)
noncomputable def aCS(B:List UInt8)(D:Ld)(R:Option (List Pg)):jU
 |[x],h=>match leU x B with
  |some s=>match R with
   |none=>some (s∧(B.length≤140737488355328∧((fO B ⟨0,0⟩).1≤50000∨B.length≤50000))∧wQ B=none,.t [.c (.p (.z (.pointer none))),.c (.p (.i .i64 2))],iL [] [] [] h [])
   |some M=>some (s∧(B.length≤140737488355328∧((fO B ⟨0,0⟩).1≤50000∨B.length≤50000))∧wQ B=some M∧D=dQ M,.t [.c (.ptr (fF h) 0),.c (.p (.i .i64 0))],iL [] [] [] h (lN D []))
  |none=>none
 |_,_=>none
set_option maxRecDepth 100000 in
theorem aM0(B:List UInt8)(D:Ld)(R:Option (List Pg)):fZ aB G 37 (aCS B D R):=by
 intro args h p0 v h' hm hp;unfold aCS at hm
 split at hm;rotate_left;· cases hm
 split at hm;rotate_left;· cases hm
 rename_i x _ s hx;cases R with
 |none=>
  obtain⟨rfl,rfl,rfl⟩:=gH hm;obtain⟨hq,⟨hB,hN⟩,hz⟩:=hp
  have hm:=PO (G:=G) B hB hN h
  unfold IQ ZG at hm;rw[hz]at hm
  exact jN.args (args':=[aU bG 1 B]) (CM (vs:=aJ0) (hE:=[]) Try.func37 (by kernel_rfl) rfl (hm _)) (.cons (zN hx hq) .nil)
 |some M=>
  obtain⟨rfl,rfl,rfl⟩:=gH hm;obtain⟨hq,⟨hB,hN⟩,hz,rfl⟩:=hp
  have hm:=PO (G:=G) B hB hN h
  unfold IQ ZG at hm;rw[hz]at hm
  exact jN.args (args':=[aU bG 1 B]) (CM (vs:=[.c (.ptr 0 0),iV 0]) (hE:=lN (dQ M) []) Try.func37 (by kernel_rfl) (by rw[eH];rfl) (hm _)) (.cons (zN hx hq) .nil)
end
theorem yY:∀(k:Nat) {n:Nat},n<128^(k+1)→(iU n).length≤k+1
 |0,n,h=>by
  rw[sZ (by simpa using h)];exact aW _
 |k+1,n,h=>by
  by_cases hn:n<128
  ·rw[sZ hn];show 1≤_;omega
  ·rw[wY hn,eB]
   have:=yY k (n:=n / 128) (by rw[Nat.pow_succ]at h;omega)
   omega
theorem rE{n:Int}(h:eV .i64 n):(eT n).length≤10:=by
 have h2:=aKL h.1 h.2
 exact yY 9 (Nat.lt_of_lt_of_le h2 (by decide))
theorem wZ{s:ByteArray}(h:s.size≤16):(gO s).length≤17:=by
 unfold gO
 have:s.data.toList.length=s.size:=by rw[Array.length_toList];rfl
 have h2:=yY 0 (n:=s.size) (by omega)
 rw[aV];omega
theorem VP:∀ {L:List (ByteArray×ByteArray)},(∀x∈L,x.1.size≤16∧x.2.size≤16)→(AW L).length≤34*L.length
 |[],_=>bW _
 |x::L,h=>by
  have h1:=h x (cY ..)
  have h2:=VP (L:=L) fun y hy=>h y (cM _ hy)
  have h3:=wZ h1.1
  have h4:=wZ h1.2
  show (gO x.1++gO x.2++AW L).length≤_
  simp only[aV,eB];omega
theorem aGF{p:Pg}(h:JE p):∀x∈p.L,x.1.size≤16∧x.2.size≤16:=fun x hx=>by
 obtain⟨_,h2⟩:=kS (iM.1 h.1).2.2.1;exact⟨uQ (h2 x hx).1,LP (h2 x hx).2⟩
theorem aLP{p:Pg}(h:JE p):eV .i64 p.kd∧p.ru.size≤16∧eV .i64 p.ve∧p.L.length≤8∧eV .i64 p.st∧eV .i64 p.se∧p.to.size≤16:=by
 obtain⟨g1,g2,g3,g4,g5,g6⟩:=iM.1 h.1;refine⟨?_,uQ g1,h.2.1,(kS g3).1,oX g4,oX g5,g6⟩
 have:=h.2.2
 simp only[eV];omega
theorem IE{k:Nat}(h:k≤1000000):eV .i64 (k:Int):=by simp only[eV];omega
theorem aFJ{p:Pg}(h:JE p):(RC p).length≤400:=by
 obtain⟨k1,k2,k3,k4,k5,k6,k7⟩:=aLP h
 have l1:=rE k1
 have l2:=wZ k2
 have l3:=rE k3
 have l4:=rE (IE (k:=p.L.length) (by omega))
 have l5:=VP (aGF h)
 have l6:=rE k5
 have l7:=rE k6
 have l8:=wZ k7
 unfold RC;simp only[aV];omega
theorem MK:∀ {M:List Pg},(∀p∈M,JE p)→(qU M).length≤400*M.length
 |[],_=>bW _
 |p::M,h=>by
  have h1:=aFJ (h p (cY ..))
  have h2:=MK (M:=M) fun q hq=>h q (cM _ hq)
  show (RC p++qU M).length≤_
  rw[aV,eB];omega
theorem EM{M:List Pg}(h:AC M):(mM M).length≤20000010:=by
 have h1:=MK h.1
 have h2:=h.2
 have h3:=rE (IE (k:=M.length) (by omega))
 unfold mM;rw[aV];omega
theorem NI{B:List UInt8}:∀(n:Nat) {s:Rs},s.at_≤B.length→(mB B n s).2.er=0→s.er=0∧Pc B (AW (mB B n s).1) s.at_ (mB B n s).2.at_
 |0,s,hs,h=>⟨h,Pc.nil hs⟩
 |n+1,s,hs,h=>by
  have h:(jF B (jF B (mB B n s).2).2).2.er=0:=h
  obtain⟨e2,p2⟩:=JI h;obtain⟨e1,p1⟩:=JI e2;obtain⟨e0,p0⟩:=NI n hs e1;refine⟨e0,?_⟩
  show Pc B (AW ((mB B n s).1++[_])) s.at_ (jF B (jF B (mB B n s).2).2).2.at_
  rw[CB];refine p0.app ?_
  show Pc B ((gO _++gO _)++[]) _ _
  rw[fP];exact p1.app p2
theorem XK{B:List UInt8}{s:Rs}(hs:s.at_≤B.length)(h1:(jS B s).2.1=true)(h0:(jS B s).2.2.er=0):s.er=0∧Pc B (RC (jS B s).1) s.at_ (jS B s).2.2.at_:=by
 unfold jS at h1 h0 ⊢;dsimp only at h1 h0 ⊢;split at h1
 ·cases h1
 rename_i hn;rw[if_neg hn]at h0 ⊢
 have f4:=lG (lG (oW (lG hs)))
 have f5:=CC (B:=B) (uV B s).2.2.2.1.toNat (s:=(uV B s).2.2.2.2) f4
 have hlen:=EN (B:=B) (uV B s).2.2.2.1.toNat (uV B s).2.2.2.2
 have hnn:((uV B s).2.2.2.1.toNat:Int)=(uV B s).2.2.2.1:=by omega
 have h0:(jF B (fO B (fO B (mB B (uV B s).2.2.2.1.toNat (uV B s).2.2.2.2).2).2).2).2.er=0:=h0
 obtain⟨e7,p7⟩:=JI h0;obtain⟨e6,p6⟩:=wN e7;obtain⟨e5,p5⟩:=wN e6;obtain⟨e4,p4⟩:=NI _ f4 e5
 have e4:(fO B (fO B (jF B (fO B s).2).2).2).2.er=0:=e4
 obtain⟨e3,p3⟩:=wN e4;obtain⟨e2,p2⟩:=wN e3;obtain⟨e1,p1⟩:=JI e2;obtain⟨e0,p0⟩:=wN e1;refine⟨e0,?_⟩
 have e:RC ⟨(uV B s).1,(uV B s).2.1,(uV B s).2.2.1,(mB B (uV B s).2.2.2.1.toNat (uV B s).2.2.2.2).1,(tlS B (mB B (uV B s).2.2.2.1.toNat (uV B s).2.2.2.2).2).1,(tlS B (mB B (uV B s).2.2.2.1.toNat (uV B s).2.2.2.2).2).2.1,(tlS B (mB B (uV B s).2.2.2.1.toNat (uV B s).2.2.2.2).2).2.2.1⟩ =
   eT (fO B s).1++gO (jF B (fO B s).2).1++eT (fO B (jF B (fO B s).2).2).1++eT (fO B (fO B (jF B (fO B s).2).2).2).1++AW (mB B (uV B s).2.2.2.1.toNat (uV B s).2.2.2.2).1++eT (fO B (mB B (uV B s).2.2.2.1.toNat (uV B s).2.2.2.2).2).1++eT (fO B (fO B (mB B (uV B s).2.2.2.1.toNat (uV B s).2.2.2.2).2).2).1++gO (jF B (fO B (fO B (mB B (uV B s).2.2.2.1.toNat (uV B s).2.2.2.2).2).2).2).1:=by
  unfold RC;dsimp only;rw[hlen,hnn];rfl
 rw[e];exact((((((p0.app p1).app p2).app p3).app p4).app p5).app p6).app p7
theorem aEL{M M':List Pg}{p:Pg}(hL:wT M)(hve:eV .i64 p.ve)(h:rL M p=(true,M')):wT M':=by
 obtain⟨rfl,h2,h3⟩:=AA h
 have hok:JE p:=⟨h2,hve,h3⟩
 unfold rL at h;split at h
 ·rename_i h0
  unfold vL at h;split at h
  ·injection h with h1 h2;exact absurd h1 (show ¬((1:Int)==0)=true by decide)
  split at h
  ·injection h with h1 h2;exact absurd h1 (show ¬((10:Int)==0)=true by decide)
  split at h
  ·injection h with h1 h2;exact absurd h1 (show ¬((20:Int)==0)=true by decide)
  rename_i n1 n2
  have hz:=JK M (fun q hq=>(hL.ok q hq).2.2) p
  refine .fire hL hok h0 ?_;cases hpd:pN M p.ru p.ve p.L p.st with
  |none=>rw[hpd]at hz;exact hz
  |some b=>
   rw[hpd]at hz;cases b with
   |true=>exact absurd hz n1
   |false=>exact absurd hz n2
 ·rename_i h0
  split at h
  ·injection h with h1 h2;exact absurd h1 (by decide)
  rename_i hb;split at h
  ·injection h with h1 h2;exact absurd h1 (by decide)
  rename_i hc
  have hto:p.to=⟨#[]⟩:=Decidable.byContradiction fun hq=>hb (.inr (.inr hq))
  have hc:=Decidable.not_not.1 hc
  rcases h3 with q|q|q
  ·exact absurd q h0
  ·exact .undo hL hok hto q (by rw[hc,q];decide)
  ·exact .late hL hok hto q (by rw[hc,q];decide)
theorem WI{B:List UInt8}:∀(i:Nat) {M:List Pg} {s:Rs},vM B i=some (M,s)→wT M∧(s.er=0→Pc B (eT (fO B ⟨0,0⟩).1++qU M) 0 s.at_)
 |0,M,s,h=>by
  injection h with h;injection h with h1 h2;subst h1;subst h2;refine⟨.nil,fun h0=>?_⟩
  have:=(wN h0).2
  rw[show eT (fO B ⟨0,0⟩).1++qU []=eT (fO B ⟨0,0⟩).1 from fP _];exact this
 |i+1,M,s,h=>by
  have hi:=uE B (i+1) M s h
  unfold vM at h;split at h
  ·cases h
  rename_i N t hN;obtain⟨l1,l2⟩:=WI i hN;obtain⟨_,_,_,k4⟩:=uE B i N t hN;split at h
  ·cases h
  rename_i hok;split at h
  ·cases h
  rename_i hac;injection h with h;injection h with h1 h2;subst h1;subst h2
  have hacc:rL N (jS B t).1=(true,(rL N (jS B t).1).2):=Prod.ext hac rfl
  refine⟨aEL l1 (DO B t) hacc,fun h0=>?_⟩;obtain⟨e1,p1⟩:=XK k4 hok h0;obtain⟨a1,_,_⟩:=AA hacc;rw[a1,xN,←dW];refine(l2 e1).app ?_
  show Pc B (RC _++[]) _ _
  rw[fP];exact p1
theorem aDZ{B:List UInt8}{M:List Pg}(h:wQ B=some M):B=mM M∧wT M∧M.length≤B.length:=by
 unfold wQ at h;split at h
 ·cases h
 rename_i hn;split at h
 ·cases h
 rename_i N s hN;split at h
 ·cases h
 rename_i he;injection h with h;subst h;obtain⟨l1,l2⟩:=WI _ hN;obtain⟨_,k2,k3,k4⟩:=uE B _ N s hN
 have he:=Decidable.not_not.1 he
 unfold GG at he;split at he
 ·rename_i h1;exact absurd he h1
 rename_i h1;split at he
 ·cases he
 rename_i h2
 have h3:=l2 (Decidable.not_not.1 h1)
 have e:s.at_=B.length:=by omega
 rw[e]at h3;refine⟨?_,l1,by omega⟩
 have:=h3.all
 rw[this];unfold mM;rw[show ((N.length:Nat):Int)=(fO B ⟨0,0⟩).1 by omega,←this]
noncomputable def VJ(D:Ld)(M:List Pg):jU
 |[.c (.ptr j 0)],h=>match EQ D (nL h j) h with
  |some (q,r,a,b)=>some (q∧AC M∧D=dQ M,aU bG 1 (mM M),iL [nL h j,r,a,b] [nL h j] [1] h (oM D 0))
  |none=>none
 |_,_=>none
def SB:Mod
 |[.c (.p (.l 1 n f)),.c (.p (.l 1 m g))]=>some (∃U:List UInt8,iF (.c (.p (.l 1 n f))) (aU bG 1 U)∧iF (.c (.p (.l 1 m g))) (aU bG 1 U)∧U.length≤140737488355328,bV true)
 |_=>none
theorem aQ8(A:List UInt8):dC eW (dH 4 (cW aB Try.f38)) (nH Try.f38 [aU bG 1 A,aU bG 1 A]) (iA (eZ 26 [0,1,5]) (bI aB Try.f38))=bT ((↑A.length:Int) != (↑A.length:Int)) (.done .ret (St.mk [V.c (C.p (PV.b false))] []))
 (.done .normal
 (bS 26 [(0,.c (.p (.l 1 A.length (aE bG A)))),(1,.c (.p (.l 1 A.length (aE bG A)))),(5,.c (.p (.i .i64 0)))] [])):=by kernel_rfl
theorem aQ7(A:List UInt8)(i:Nat):dC eW (gR (cW aB Try.f38) 4) (bS 26 [(0,aU bG 1 A),(1,aU bG 1 A),(5,iV i)] []) (iA (eZ 26 [0,1,5]) (bI aB Try.f38))=bT (decide ((↑i:Int)<(↑A.length:Int)))
 (.rq (0≤(↑i:Int)∧(↑i:Int)<(↑A.length:Int))
 (.rq (0≤(↑i:Int)∧(↑i:Int)<(↑A.length:Int))
 (bT ((↑(A.getD (↑i:Int).toNat default).toNat:Int) != (↑(A.getD (↑i:Int).toNat default).toNat:Int)) (.done .ret (St.mk [V.c (C.p (PV.b false))] []))
 (.rq (eV aC ((↑i:Int)+1))
 (.done .normal
 (bS 26 [(0,.c (.p (.l 1 A.length (aE bG A)))),(1,.c (.p (.l 1 A.length (aE bG A)))),(5,.c (.p (.i .i64 ((↑i:Int)+1))))] []))))))
 (.done (.exit 0)
 (bS 26 [(0,.c (.p (.l 1 A.length (aE bG A)))),(1,.c (.p (.l 1 A.length (aE bG A)))),(5,.c (.p (.i .i64 (↑i:Int))))] [])):=by kernel_rfl
theorem aQ6(A:List UInt8)(i:Nat):dC eW (bJ 5 (cW aB Try.f38)) (bS 26 [(0,aU bG 1 A),(1,aU bG 1 A),(5,iV i)] []) (iA (eZ 26 [0,1,5]) (bI aB Try.f38))=Tr.done X.ret (St.mk [V.c (C.p (PV.b true))] []):=by kernel_rfl
def kL(L:List UInt8)(m:Int):List UInt8:=L.take m.toNat
def VI(L:List UInt8)(m:Int):jU
 |[x,.c (.p (.i .i64 k))],h=>match leU x L with
  |some p=>some (p∧k=m∧0≤m∧(kL L m).length≤140737488355328,.c (.sl (fF h) 1 0 (kL L m).length),iL [] [] [] h [.row 5 1 (kL L m).length (aQ bG (kL L m))])
  |none=>none
 |_,_=>none
theorem tFw(h:List AO)(L:List UInt8)(m:Int):dC eW (cW aB Try.f40) (jJ Try.f40 [] [] [] [aU bG 1 L,iV m] h) (gG [] [] (bI aB Try.f40))=Tr.rq (0≤(↑0:Int)∧((↑0:Int)≤if m<(↑L.length:Int) then m else (↑L.length:Int))∧(if m<(↑L.length:Int) then m else (↑L.length:Int))≤(↑L.length:Int))
 (.rq
 ((0+((if m<(↑L.length:Int) then m else (↑L.length:Int)).toNat-0))*1≤140737488355328 ∧
 0+((if m<(↑L.length:Int) then m else (↑L.length:Int)).toNat-0)≤140737488355328 ∧
 ∀(e o:Nat),e<(if m<(↑L.length:Int) then m else (↑L.length:Int)).toNat-0→o<1→iH (C.p (aE bG L (e+0) o))=true)
 (.done .ret
 (St.mk [V.c (C.sl 0 1 0 (0+((if m<(↑L.length:Int) then m else (↑L.length:Int)).toNat-(↑0:Int).toNat)))] [AO.row 5 1 (0+((if m<(↑L.length:Int) then m else (↑L.length:Int)).toNat-(↑0:Int).toNat)) fun e o=>bP [0] (fC 0 (fun x x_1=>C.top) (fun e o=>C.p (PV.i bE (↑(L.getD (e+(↑0:Int).toNat) default).toNat:Int))) e o)]))):=by kernel_rfl
section
variable {G:Nat→Option Obj}
set_option maxRecDepth 100000 in
theorem aBY(D:Ld)(M:List Pg):fZ aB G 36 (VJ D M):=by
 intro args h p0 v h' hm hp;unfold VJ at hm
 split at hm;rotate_left;· cases hm
 split at hm;rotate_left;· cases hm
 rename_i j _ q r a b hl;obtain⟨rfl,rfl,rfl⟩:=gH hm;obtain⟨hq,hM,rfl⟩:=hp;obtain⟨g,q1,q2,q3,q4,hg⟩:=tV hl hq
 have hB:=EM hM
 have h2:=hM.2
 have hm:=aDU (G:=G) (dQ M) (by rw[lP];exact hM.1) (by rw[lP];omega) (by rw[lP];omega)
 rw[lP]at hm
 exact pI (yA (args:=[]) (vs:=[aU bG 1 (mM M)]) (D':=dQ M) Try.func36 (by kernel_rfl) q1 q2 q3 q4 hg rfl fun b=>hm b _)
set_option maxRecDepth 100000 in
theorem aGL:iO aB G 38 SB:=by
 intro args p v hm hp h;unfold SB at hm
 split at hm;rotate_left;· cases hm
 obtain⟨rfl,rfl⟩:=eM hm;obtain⟨A,hA,hB,hlen⟩:=hp;refine jN.args (args':=[aU bG 1 A,aU bG 1 A]) ?_ (.cons hA (.cons hB .nil));clear hA hB hm
 refine pW Try.func38 (by kernel_rfl) rfl ?_ h
 refine eJ.evG aX 4 (aQ8 A) ?_;simp only[bZ,aL,fI,cG,bne_iff_ne,bne_eq_false_iff_eq,ne_eq];refine⟨fun h1=>absurd trivial h1,fun h1=>⟨?_⟩⟩
 refine eJ.loop' (l:=bJ 4 (cW aB Try.f38)) (b:=inr (inr (bF .skip (cW aB Try.f38) 4))) (r:=bJ 5 (cW aB Try.f38)) (id:=0) (by kernel_rfl) (σ:=Nat)
   (fun i=>bS 26 [(0,aU bG 1 A),(1,aU bG 1 A),(5,iV i)] []) (fun i=>i≤A.length) (fun i=>A.length-i) 0 (bW _) (aJ (by kernel_rfl)) ?_
 rintro i hi Q1 q1n q1e -;refine eJ.evH aX (aQ7 A i) ?_;simp only[bZ,bB,aL,fI,cG,jQ,decide_eq_true_eq,decide_eq_false_iff_not,bne_iff_ne,bne_eq_false_iff_eq,ne_eq,eV,show (↑i:Int).toNat=i from rfl]
 refine⟨fun h2=>⟨by omega,by omega,fun c1=>absurd trivial c1,fun c1=>⟨by omega,⟨q1n (i+1) _ (by omega) (by omega) (aJ (by kernel_rfl))⟩⟩⟩,fun h2=>⟨q1e _ ?_⟩⟩
 refine eJ.evH aX (aQ6 A i) ?_;simp only[aL,fI];exact⟨iF.refl _⟩
set_option maxRecDepth 100000 in
theorem aBX(L:List UInt8)(m:Int):fZ aB G 40 (VI L m):=by
 intro args h p v h' hm hp;unfold VI at hm
 split at hm;rotate_left;· cases hm
 split at hm;rotate_left;· cases hm
 rename_i x k _ q hx;obtain⟨rfl,rfl,rfl⟩:=gH hm;obtain⟨hq,rfl,h0,hL⟩:=hp
 refine jN.args (args':=[aU bG 1 L,iV k]) (CM (vs:=[.c (.sl 0 1 0 (kL L k).length)]) (hE:=[.row 5 1 (kL L k).length (aQ bG (kL L k))]) Try.func40 (by kernel_rfl) (by rw[eH];rfl) ?_) (.cons (zN hx hq) (.cons (.refl _) .nil))
 refine eL.evH aX (tFw h L k) ?_
 have hk:(if k<(L.length:Int) then k else (L.length:Int))=((kL L k).length:Int):=by
  unfold kL;rw[cU];split<;>omega
 have hl:(kL L k).length≤L.length:=by unfold kL;rw[cU];omega
 simp only[bB,aL,jP,Nat.zero_add,hk,dP,Nat.sub_zero];refine⟨⟨by omega,by omega,by omega⟩,⟨by omega,by omega,fun _ _ _ _=>rfl⟩,⟨?_⟩⟩;refine BU ⟨⟨rfl,rfl,rfl,fun e o he ho=>?_⟩,trivial⟩
 show C.p (bG (L.getD (e+0) default) o)=C.p (bG ((L.take k.toNat).getD e default) o)
 have he:e<(L.take k.toNat).length:=he
 rw[cU]at he;rw[gM,aD,aD,List.getElem?_take_of_lt (by omega)]
end
noncomputable def aDQ(D:Ld)(M:List Pg)(m:Int):Ext:=lH [(36,VJ D M),(40,VI (mM M) m)]
def LD(L:List UInt8)(m:Int):Ext:=lH [(40,VI L m)]
def kG(x:List UInt8)(_:Nat):PV:=bY bG 1 x
theorem aRE(R:List UInt8)(A:List Int)(a:Int)(by_:Nat)(M:List Pg)(D:Ld):dC (aJG M D) (dH 4 (cW aB eO)) (nH eO [aU bG 1 R,aU aS 1 A,iV a,.c (.p (.i .u8 (by_:Nat)))]) (iA (eZ 96 [0,2,3,9]) (bI aB eO))=Tr.rq
 (kA aS 1 (bO gI A.length (aE aS A)) A.length (aE aS A) ∧
 (∀(t:Int),t∈bO gI A.length (aE aS A)→eV aC t)∧(bO gI A.length (aE aS A)).length≤9223372036854775807∧YF (bO gI A.length (aE aS A))=M)
 (.rq ((M.length=M.length∧∀(e o:Nat),e<M.length→o<7→lE (aE aI M e o) (aE aI M e o))∧(wT M∧M.length≤50000)∧D=dQ M)
 (.done .normal
 (bS 96 [(0,.c (.p (.l 1 R.length (aE bG R)))),(2,.c (.p (.i .i64 a))),(3,.c (.p (.i bE (↑by_:Int)))),(9,.c (.ptr 0 0))] [.cells 86 [.sl 1 7 0 D.M.length,.mp 2,.mp 3],.row 31 7 D.M.length fun e o=>bP [0,1,2,3] (C.p (aE aI D.M e o)),.mapb (bQ aB 81) D.gp,.mapl (bQ aB 79) 3 1 D.gs none]))):=by kernel_rfl
theorem aRD(R:List UInt8)(a:Int)(by_:Nat)(M:List Pg)(D:Ld)(m:Int):dC (aDQ D M m) (dH 1 (bJ 4 (cW aB eO))) (bS 96 [(0,aU bG 1 R),(2,iV a),(3,.c (.p (.i .u8 (by_:Nat)))),(9,.c (.ptr 0 0))] (lN D [])) (iA (eZ 96 [0,2,3,10]) (bI aB eO))=Tr.rq
 ((D.M.length=D.M.length ∧
 D.M.length=D.M.length ∧
 (∀(e o:Nat),e<D.M.length→o<7→aQ aI D.M e o=aQ aI D.M e o)∧bQ aB 81=bQ aB 81∧D.gp=D.gp∧bQ aB 79=bQ aB 79∧D.gs=D.gs) ∧
 AC M∧D=dQ M)
 (.rq
 (((mM M).length=(mM M).length∧∀(e o:Nat),e<(mM M).length→o<1→aE bG (mM M) e o=aE bG (mM M) e o)∧2000=m∧0≤m∧(kL (mM M) m).length≤140737488355328)
 (.done .normal
 (bS 96 [(0,.c (.p (.l 1 R.length (aE bG R)))),(2,.c (.p (.i .i64 a))),(3,.c (.p (.i bE (↑by_:Int)))),(10,.c (.sl 0 1 0 (kL (mM M) m).length))] [.row 5 1 (kL (mM M) m).length fun e o=>bP [9] (C.p (PV.i bE (↑((kL (mM M) m).getD e default).toNat:Int)))]))):=by kernel_rfl
theorem aRC(R K:List UInt8)(a:Int)(by_:Nat):dC (jV [(14,CA)]) (dH 2 (bJ 5 (cW aB eO))) (bS 96 [(0,aU bG 1 R),(2,iV a),(3,.c (.p (.i .u8 (by_:Nat)))),(10,.c (.sl 0 1 0 K.length))] [.row 5 1 K.length (aQ bG K)]) (iA (eZ 96 [0,3,10]) (bI aB eO))=bT (decide (0<(↑K.length:Int)))
 (.rq (eV aC a∧0<(↑K.length:Int))
 (.rq (0≤kD a (↑K.length:Int)∧kD a (↑K.length:Int)<(↑K.length:Int))
 (.rq ((kD a (↑K.length:Int)).toNat+0<K.length)
 (.done .normal
 (bS 96 [(0,.c (.p (.l 1 R.length (aE bG R)))),(3,.c (.p (.i bE (↑by_:Int)))),(10,.c (.sl 0 1 0 K.length))] [.row 5 1 K.length fun e o=>bP [0] (if e=(kD a (↑K.length:Int)).toNat+0 then if 0≤o∧o<1 then bF C.top [C.p (PV.i bE (↑by_:Int))] (o-0) else aQ bG K e o else aQ bG K e o)])))))
 (.done .normal
 (bS 96 [(0,.c (.p (.l 1 R.length (aE bG R)))),(3,.c (.p (.i bE (↑by_:Int)))),(10,.c (.sl 0 1 0 K.length))] [.row 5 1 K.length fun e o=>bP [0] (aQ bG K e o)])):=by kernel_rfl
theorem aRB(R K:List UInt8)(m:Int)(by_:Nat):iX (LD R m) (dH 2 (MG (bF .skip (cW aB eO) 7))) (bS 96 [(0,aU bG 1 R),(3,.c (.p (.i .u8 (by_:Nat)))),(10,aU bG 1 K)] []) (fun s=>.done .normal (QE (eZ 96 [3,10,35]) s))=Tr.rq ((R.length=R.length∧∀(e o:Nat),e<R.length→o<1→aE bG R e o=aE bG R e o)∧60=m∧0≤m∧(kL R m).length≤140737488355328)
  (Tr.done X.normal
   (bS 96 [(3,V.c (C.p (PV.i bE (↑by_:Int)))),(10,V.c (C.p (PV.l 1 K.length (aE bG K)))),(35,V.c (C.sl 0 1 0 (kL R m).length))] [AO.row 5 1 (kL R m).length fun e o=>bP [0] (C.p (PV.i bE (↑((kL R m).getD e default).toNat:Int)))])):=by kernel_rfl
theorem aRA(K K1:List UInt8)(m:Int)(by_:Nat):iX (LD K m) (dH 7 (bJ 2 (MG (bF .skip (cW aB eO) 7)))) (bS 96 [(3,.c (.p (.i .u8 (by_:Nat)))),(10,aU bG 1 K),(35,aU bG 1 K1)] []) (fun s=>.done .normal (QE (eZ 96 [3,10,35,36,42]) s))=Tr.rq (eV aC ((↑K.length:Int)-1))
  (Tr.rq
   ((K.length=K.length∧∀(e o:Nat),e<K.length→o<1→aE bG K e o=aE bG K e o) ∧
     (if 0<(↑K.length:Int)-1 then (↑K.length:Int)-1 else 0)=m∧0≤m∧(kL K m).length≤140737488355328)
   (Tr.done X.normal
    (bS 96 [(3,V.c (C.p (PV.i bE (↑by_:Int)))),(10,V.c (C.p (PV.l 1 K.length (aE bG K)))),(35,V.c (C.p (PV.l 1 K1.length (aE bG K1)))),(36,V.c (C.p (PV.l 1 K.length (aE bG K)))),(42,V.c (C.sl 0 1 0 (kL K m).length))] [AO.row 5 1 (kL K m).length fun e o=>bP [0] (C.p (PV.i bE (↑((kL K m).getD e default).toNat:Int)))]))):=by kernel_rfl
theorem aR9(K K1 K2:List UInt8)(m:Int)(by_:Nat):iX (LD K m) (dH 5 (bJ 9 (MG (bF .skip (cW aB eO) 7)))) (bS 96 [(3,.c (.p (.i .u8 (by_:Nat)))),(10,aU bG 1 K),(35,aU bG 1 K1),(36,aU bG 1 K),(42,aU bG 1 K2)] []) (fun s=>.done .normal (QE (eZ 96 [35,36,42,47]) s))=Tr.rq ((K.length=K.length∧∀(e o:Nat),e<K.length→o<1→aE bG K e o=aE bG K e o)∧2000=m∧0≤m∧(kL K m).length≤140737488355328)
  (Tr.rq ((kL K m).length=(kL K m).length)
   (Tr.rq (1≤1)
    (Tr.rq
     (((kL K m).length+1)*1≤140737488355328∧(kL K m).length+1≤140737488355328∧∀(e o:Nat),e<1→o<1→iH (lM [C.p (PV.i bE (↑by_:Int))] 1 1 (e+0) o)=true)
     (Tr.done X.normal
      (bS 96 [(35,V.c (C.p (PV.l 1 K1.length (aE bG K1)))),(36,V.c (C.p (PV.l 1 K.length (aE bG K)))),(42,V.c (C.p (PV.l 1 K2.length (aE bG K2)))),(47,V.c (C.sl 0 1 0 ((kL K m).length+1)))] [AO.row 5 1 ((kL K m).length+1) fun e o=>bP [2] (fC (kL K m).length (fun e o=>C.p (PV.i bE (↑((kL K m).getD e default).toNat:Int))) (fun e o=>bF C.top [C.p (PV.i bE (↑by_:Int))] ((e+0)*1+o)) e o)]))))):=by kernel_rfl
theorem aR8(K K1 K2 K3:List UInt8):iX eW (bJ 14 (MG (bF .skip (cW aB eO) 7))) (bS 96 [(35,aU bG 1 K1),(36,aU bG 1 K),(42,aU bG 1 K2),(47,aU bG 1 K3)] []) (fun s=>.done .normal (QE (eZ 96 [11]) s))=Tr.done X.normal
  (bS 96 [(11,V.c (C.sl 0 1 0 4))] [AO.row 63 1 4 fun e o=>bP [0] (bF C.top [C.p (PV.l 1 K1.length (aE bG K1)),C.p (PV.l 1 K.length (aE bG K)),C.p (PV.l 1 K2.length (aE bG K2)),C.p (PV.l 1 K3.length (aE bG K3))] (e*1+o))]):=by kernel_rfl
instance:Inhabited (List UInt8):=⟨[]⟩
noncomputable def TN(B:List UInt8)(D:Ld)(O:Option (List Pg)):Ext:=lH [(37,aCS B D O)]
noncomputable def aDP(D:Ld)(M:List Pg):Ext:=lH [(36,VJ D M),(38,tT SB)]
noncomputable def TM(D:Ld)(M:List Pg):Ext:=lH [(26,aCT D M),(11,VF M D),(23,tT aMA)]
noncomputable def aDO:Ext:=lH [(19,tT EK)]
theorem aR7(X:List (List UInt8))(i:Nat):dC eW (dH 2 (gR (cW aB eO) 9)) (bS 96 [(11,aU kG 1 X),(12,iV i)] []) (iA (eZ 96 [11,12]) (bI aB eO))=bT (decide ((↑i:Int)<4))
 (Tr.done AE.X.normal
 (bS 96 [(11,.c (.p (.l 1 X.length (aE kG X)))),(12,.c (.p (.i .i64 (↑i:Int))))] []))
 (Tr.done (AE.X.exit 0)
 (bS 96 [(11,.c (.p (.l 1 X.length (aE kG X)))),(12,.c (.p (.i .i64 (↑i:Int))))] [])):=by kernel_rfl
theorem aR6(X:List (List UInt8))(i:Nat)(D:Ld):dC (TN (X.getD i default) D none) (dH 1 (eX (inr (bF .skip (gR (cW aB eO) 9) 2)))) (bS 96 [(11,aU kG 1 X),(12,iV i)] []) (iA (eZ 96 [11,12,13,14]) (bI aB eO))=Tr.rq (0≤(↑i:Int)∧(↑i:Int)<(↑X.length:Int))
 (.rq
 (((X.getD (↑i:Int).toNat default).length=(X.getD i default).length ∧
 ∀(e o:Nat),e<(X.getD i default).length→o<1→aE bG (X.getD (↑i:Int).toNat default) e o=aE bG (X.getD i default) e o) ∧
 ((X.getD i default).length≤140737488355328∧((fO (X.getD i default) (Rs.mk 0 0)).fst≤50000∨(X.getD i default).length≤50000))∧wQ (X.getD i default)=none)
 (Tr.done AE.X.normal
 (bS 96 [(11,.c (.p (.l 1 X.length (aE kG X)))),(12,.c (.p (.i .i64 (↑i:Int)))),(13,.c (.p (.z (Value.pointer none)))),(14,.c (.p (.i .i64 2)))] []))):=by kernel_rfl
theorem aO6(X:List (List UInt8))(i:Nat)(D:Ld)(M:List Pg):dC (TN (X.getD i default) D (some M)) (dH 1 (eX (inr (bF .skip (gR (cW aB eO) 9) 2)))) (bS 96 [(11,aU kG 1 X),(12,iV i)] []) (iA (eZ 96 [11,12,13,14]) (bI aB eO))=Tr.rq (0≤(↑i:Int)∧(↑i:Int)<(↑X.length:Int))
 (.rq
 (((X.getD (↑i:Int).toNat default).length=(X.getD i default).length ∧
 ∀(e o:Nat),e<(X.getD i default).length→o<1→aE bG (X.getD (↑i:Int).toNat default) e o=aE bG (X.getD i default) e o) ∧
 ((X.getD i default).length≤140737488355328∧((fO (X.getD i default) (Rs.mk 0 0)).fst≤50000∨(X.getD i default).length≤50000))∧wQ (X.getD i default)=some M∧D=dQ M)
 (Tr.done AE.X.normal
 (bS 96 [(11,.c (.p (.l 1 X.length (aE kG X)))),(12,.c (.p (.i .i64 (↑i:Int)))),(13,.c (.ptr 0 0)),(14,.c (.p (.i .i64 0)))] [.cells 86 [.sl 1 7 0 D.M.length,.mp 2,.mp 3],.row 31 7 D.M.length fun e o=>bP [0,1,2,3] (C.p (aE aI D.M e o)),.mapb (bQ aB 81) D.gp,.mapl (bQ aB 79) 3 1 D.gs none]))):=by kernel_rfl
theorem aO5(X:List (List UInt8))(i:Nat):dC eW (bJ 1 (eX (inr (bF .skip (gR (cW aB eO) 9) 2)))) (bS 96 [(11,aU kG 1 X),(12,iV i),(13,.c (.p (.z (.pointer none)))),(14,iV 2)] []) (iA (eZ 96 [11,12]) (bI aB eO))=Tr.done (AE.X.exit 1)
 (bS 96 [(11,.c (.p (.l 1 X.length (aE kG X)))),(12,.c (.p (.i .i64 (↑i:Int))))] []):=by kernel_rfl
theorem aO4(X:List (List UInt8))(i:Nat)(D:Ld):dC eW (dH 2 (bJ 1 (eX (inr (bF .skip (gR (cW aB eO) 9) 2))))) (bS 96 [(11,aU kG 1 X),(12,iV i),(13,.c (.ptr 0 0)),(14,iV 0)] [.cells 86 [.sl 1 7 0 D.M.length,.mp 2,.mp 3],.row 31 7 D.M.length (aQ aI D.M),.mapb (bQ aB 81) D.gp,.mapl (bQ aB 79) 3 1 D.gs none]) (iA (eZ 96 [11,12,13]) (bI aB eO))=Tr.done AE.X.normal
 (bS 96 [(11,.c (.p (.l 1 X.length (aE kG X)))),(12,.c (.p (.i .i64 (↑i:Int)))),(13,.c (.ptr 0 0))] [.cells 86 [.sl 1 7 0 D.M.length,.mp 2,.mp 3],.row 31 7 D.M.length fun e o=>bP [0,1,2,3] (aQ aI D.M e o),.mapb (bQ aB 81) D.gp,.mapl (bQ aB 79) 3 1 D.gs none]):=by kernel_rfl
theorem aO3(X:List (List UInt8))(i:Nat)(D:Ld)(M:List Pg):aF8 (aDP D M) (aOL (bF .skip (eX (inr (bF .skip (gR (cW aB eO) 9) 2))) 3)) (aOK (bF .skip (eX (inr (bF .skip (gR (cW aB eO) 9) 2))) 3)) [4] (bS 96 [(11,aU kG 1 X),(12,iV i),(13,.c (.ptr 0 0))] [.cells 86 [.sl 1 7 0 D.M.length,.mp 2,.mp 3],.row 31 7 D.M.length (aQ aI D.M),.mapb (bQ aB 81) D.gp,.mapl (bQ aB 79) 3 1 D.gs none])=Tr.rq (0≤(↑i:Int)∧(↑i:Int)<(↑X.length:Int))
 (.rq
 ((D.M.length=D.M.length ∧
 D.M.length=D.M.length ∧
 (∀(e o:Nat),e<D.M.length→o<7→aQ aI D.M e o=aQ aI D.M e o)∧bQ aB 81=bQ aB 81∧D.gp=D.gp∧bQ aB 79=bQ aB 79∧D.gs=D.gs) ∧
 AC M∧D=dQ M)
 (.rq
 (∃U,
 iF (V.c (C.p (PV.l 1 (mM M).length (aE bG (mM M))))) (aU bG 1 U) ∧
 iF (V.c (C.p (PV.l 1 (X.getD (↑i:Int).toNat default).length (aE bG (X.getD (↑i:Int).toNat default))))) (aU bG 1 U)∧U.length≤140737488355328)
 (Tr.done AE.X.normal
 (bS 96 [(11,.c (.p (.l 1 X.length (aE kG X)))),(12,.c (.p (.i .i64 (↑i:Int)))),(13,.c (.ptr 0 0)),(69,.c (.ptr 0 0)),(70,.c (.p (.b false))),(71,.c (.p (.b false))),(72,.c (.ptr 0 0)),(73,.c (.p (.l 1 (mM M).length (aE bG (mM M))))),(74,.c (.p (.l 1 X.length (aE kG X)))),(75,.c (.p (.i .i64 (↑i:Int)))),(76,.c (.lp 1 X.length (aE kG X) (↑i:Int).toNat 0)),(77,.c (.p (.l 1 (X.getD (↑i:Int).toNat default).length (aE bG (X.getD (↑i:Int).toNat default))))),(78,.c (.p (.b true))),(79,.c (.p (.b false))),(80,.c (.p (.b false)))] [.cells 86 [.sl 6 7 0 D.M.length,.mp 7,.mp 8],.gone,.gone,.gone,.gone,.gone,.row 31 7 D.M.length fun e o=>C.p (aE aI D.M e o),.mapb (bQ aB 81) D.gp,.mapl (bQ aB 79) 3 1 D.gs none])))):=by kernel_rfl
theorem aO2(X:List (List UInt8))(i:Nat)(D:Ld)(M:List Pg):dC (TM D M) (dH 2 (bJ 4 (eX (inr (bF .skip (gR (cW aB eO) 9) 2))))) (bS 96 [(11,aU kG 1 X),(12,iV i),(13,.c (.ptr 0 0)),(80,bV false)] [.cells 86 [.sl 1 7 0 D.M.length,.mp 2,.mp 3],.row 31 7 D.M.length (aQ aI D.M),.mapb (bQ aB 81) D.gp,.mapl (bQ aB 79) 3 1 D.gs none]) (iA (eZ 96 [11,12,13,15]) (bI aB eO))=Tr.rq
 ((D.M.length=D.M.length ∧
 D.M.length=D.M.length ∧
 (∀(e o:Nat),e<D.M.length→o<7→aQ aI D.M e o=aQ aI D.M e o)∧bQ aB 81=bQ aB 81∧D.gp=D.gp∧bQ aB 79=bQ aB 79∧D.gs=D.gs) ∧
 AC M∧D=dQ M)
 (.rq ((M.length=M.length∧∀(e o:Nat),e<M.length→o<7→lE (aE aI M e o) (aE aI M e o))∧(wT M∧M.length≤50000)∧D=dQ M)
 (Tr.done AE.X.normal
 (bS 96 [(11,.c (.p (.l 1 X.length (aE kG X)))),(12,.c (.p (.i .i64 (↑i:Int)))),(13,.c (.ptr 0 0)),(15,.c (.ptr 1 0))] [.cells 86 [.sl 2 7 0 D.M.length,.mp 3,.mp 4],.cells 86 [.sl 5 7 0 D.M.length,.mp 6,.mp 7],.row 31 7 D.M.length fun e o=>bP [0,9,6,7,8,10,11,12] (C.p (aE aI D.M e o)),.mapb (bQ aB 81) D.gp,.mapl (bQ aB 79) 3 1 D.gs none,.row 31 7 D.M.length fun e o=>bP [0,9,6,7,8,10,11,12] (C.p (aE aI D.M e o)),.mapb (bQ aB 81) D.gp,.mapl (bQ aB 79) 3 1 D.gs none]))):=by kernel_rfl
theorem aO1(X:List (List UInt8))(i:Nat)(D:Ld)(M:List Pg):dC (TM D M) (bJ 6 (eX (inr (bF .skip (gR (cW aB eO) 9) 2)))) (bS 96 [(11,aU kG 1 X),(12,iV i),(13,.c (.ptr 0 0)),(15,.c (.ptr 1 0))] [.cells 86 [.sl 2 7 0 D.M.length,.mp 3,.mp 4],.cells 86 [.sl 5 7 0 D.M.length,.mp 6,.mp 7],.row 31 7 D.M.length (aQ aI D.M),.mapb (bQ aB 81) D.gp,.mapl (bQ aB 79) 3 1 D.gs none,.row 31 7 D.M.length (aQ aI D.M),.mapb (bQ aB 81) D.gp,.mapl (bQ aB 79) 3 1 D.gs none]) (iA (eZ 96 [11,12]) (bI aB eO))=Tr.rq
 ((D.M.length=D.M.length ∧
 D.M.length=D.M.length ∧
 (∀(e o:Nat),e<D.M.length→o<7→aQ aI D.M e o=aQ aI D.M e o)∧bQ aB 81=bQ aB 81∧D.gp=D.gp∧bQ aB 79=bQ aB 79∧D.gs=D.gs) ∧
 AC M∧D=dQ M)
 (.rq
 ((D.M.length=D.M.length ∧
 D.M.length=D.M.length ∧
 (∀(e o:Nat),e<D.M.length→o<7→aQ aI D.M e o=aQ aI D.M e o)∧bQ aB 81=bQ aB 81∧D.gp=D.gp∧bQ aB 79=bQ aB 79∧D.gs=D.gs) ∧
 AC M∧D=dQ M)
 (.rq
 (∃A,
 iF (V.c (C.p (PV.l 7 M.length (aE aI M)))) (aU aI 7 A) ∧
 iF (V.c (C.p (PV.l 7 M.length (aE aI M)))) (aU aI 7 A)∧A.length≤1000000∧∀(a:Pg),a∈A→a.L.length≤1000000)
 (Tr.done AE.X.normal
 (bS 96 [(11,.c (.p (.l 1 X.length (aE kG X)))),(12,.c (.p (.i .i64 (↑i:Int))))] [])))):=by kernel_rfl
theorem aO0(X:List (List UInt8))(i:Nat):dC eW (bJ 3 (gR (cW aB eO) 9)) (bS 96 [(11,aU kG 1 X),(12,iV i)] []) (iA (eZ 96 [11,12]) (bI aB eO))=Tr.rq (eV aC ((↑i:Int)+1))
 (Tr.done AE.X.normal
 (bS 96 [(11,.c (.p (.l 1 X.length (aE kG X)))),(12,.c (.p (.i .i64 ((↑i:Int)+1))))] [])):=by kernel_rfl
theorem aNZ  : dC aDO (bJ 10 (cW aB eO)) (bS 96 [] []) (iA [] (bI aB eO))=Tr.rq True (.done .ret (St.mk [V.c (C.p (PV.b true))] [])):=by kernel_rfl
theorem aSG{K:List UInt8}{k:Nat}{by_:UInt8}(hk:k<K.length){e:Nat}(he:e<K.length):(if e=k then C.p (PV.i .u8 (by_.toNat:Int)) else aQ bG K e 0)=aQ bG (K.set k by_) e 0:=by
 unfold aQ aE bG
 by_cases h:e=k
 ·subst h
  rw[if_pos rfl,aD,List.getElem?_set_self hk];rfl
 ·rw[if_neg h,aD,aD,List.getElem?_set_ne (fun h'=>h h'.symm)]
theorem aI7(L:List UInt8)(m:Int):(kL L m).length≤L.length:=by unfold kL;rw[cU];omega
section
variable {G:Nat→Option Obj}
theorem LE(D:Ld)(M:List Pg)(m:Int):bH aB G (aDQ D M m):=dZ (by simp;exact⟨aBY D M,aBX (mM M) m⟩)
theorem sL(L:List UInt8)(m:Int):bH aB G (LD L m):=dZ (by simp;exact aBX L m)
theorem yM(B:List UInt8)(D:Ld)(O:Option (List Pg)):bH aB G (TN B D O):=dZ (by simp;exact aM0 B D O)
theorem LC(D:Ld)(M:List Pg):bH aB G (aDP D M):=dZ (by simp;exact⟨aBY D M,aGL.lift⟩)
theorem yL(D:Ld)(M:List Pg):bH aB G (TM D M):=dZ (by simp;exact⟨aM1 D M,aBP M D,aOS.lift⟩)
theorem LB:bH aB G aDO:=dZ (by simp;exact YD.lift)
set_option maxRecDepth 100000 in
set_option maxHeartbeats 1000000 in
theorem TF(X:List (List UInt8))(hX:X.length=4)(hl:∀x∈X,x.length≤50000):eJ aB G (bI aB eO) (bV true) (bJ 9 (cW aB eO)) (bS 96 [(11,aU kG 1 X),(12,iV (0:Nat))] []) (fun _ _=>False):=by
 refine eJ.loop' (l:=bJ 9 (cW aB eO)) (b:=inr (inr (bF .skip (cW aB eO) 9))) (r:=bJ 10 (cW aB eO)) (id:=0) (by kernel_rfl) (σ:=Nat)
   (fun i=>bS 96 [(11,aU kG 1 X),(12,iV i)] []) (fun i=>i≤4) (fun i=>4-i) 0 (by omega) (aJ rfl) ?_
 intro i hi Q1 q1n q1e _;refine eJ.evG aX 2 (aR7 X i) ?_;simp only[bZ,aL,cG,jQ,decide_eq_true_eq,decide_eq_false_iff_not];refine⟨fun h1=>⟨?_⟩,fun h1=>⟨q1e _ ?_⟩⟩
 ·have hlt:i<X.length:=by omega
  have hx:=hl (X.getD i default) (by rw[aD,aM hlt];exact jI _)
  have after:eJ aB G (bI aB eO) (bV true) (bJ 3 (gR (cW aB eO) 9)) (bS 96 [(11,aU kG 1 X),(12,iV i)] []) Q1:=by
   refine eJ.evH aX (aO0 X i) ?_;simp only[bB,aL,cG,eV]
   exact⟨by omega,⟨q1n (i+1) _ (by omega) (by omega) (aJ (by kernel_rfl))⟩⟩
  refine eJ.blk' (l:=bJ 2 (gR (cW aB eO) 9)) (id:=1) (a:=inr (bF .skip (gR (cW aB eO) 9) 2)) (r:=bJ 3 (gR (cW aB eO) 9)) (by kernel_rfl) ?_
  intro Q2 q2n q2e _;cases hz:wQ (X.getD i default) with
  |none=>
   refine eJ.evG (yM (X.getD i default) zO none) 1 (aR6 X i zO) ?_;simp only[bB,aL,cG,show (↑i:Int).toNat=i from rfl];refine⟨⟨by omega,by omega⟩,⟨⟨trivial,fun _ _ _ _=>trivial⟩,⟨by omega,.inr hx⟩,hz⟩,⟨?_⟩⟩;refine eJ.evH aX (aO5 X i) ?_;simp only[aL,jQ];exact⟨q2e _ after⟩
  |some M=>
   obtain⟨hB,hLg,hMl⟩:=aDZ hz
   have hM:AC M:=⟨hLg.ok,by omega⟩
   have hlB:=EM hM
   refine eJ.evG (yM (X.getD i default) (dQ M) (some M)) 1 (aO6 X i (dQ M) M) ?_;simp only[bB,aL,cG,show (↑i:Int).toNat=i from rfl];refine⟨⟨by omega,by omega⟩,⟨⟨trivial,fun _ _ _ _=>trivial⟩,⟨by omega,.inr hx⟩,hz,trivial⟩,⟨?_⟩⟩
   refine eJ.pre (aJ (st':=(fun(D:Ld)=>bS 96 [(11,aU kG 1 X),(12,iV i),(13,.c (.ptr 0 0)),(14,iV 0)] [.cells 86 [.sl 1 7 0 D.M.length,.mp 2,.mp 3],.row 31 7 D.M.length (aQ aI D.M),.mapb (bQ aB 81) D.gp,.mapl (bQ aB 79) 3 1 D.gs none]) (dQ M)) (by kernel_rfl)) (eJ.evG aX 2 (aO4 X i (dQ M)) ?_)
   simp only[aL,cG]
   refine⟨eJ.pre (aJ (st':=(fun(D:Ld)=>bS 96 [(11,aU kG 1 X),(12,iV i),(13,.c (.ptr 0 0))] [.cells 86 [.sl 1 7 0 D.M.length,.mp 2,.mp 3],.row 31 7 D.M.length (aQ aI D.M),.mapb (bQ aB 81) D.gp,.mapl (bQ aB 79) 3 1 D.gs none]) (dQ M)) (by kernel_rfl)) ?_⟩
   refine eJ.regdC (LC (dQ M) M) (hd:=aOL (bF .skip (eX (inr (bF .skip (gR (cW aB eO) 9) 2))) 3)) (tl:=aOK (bF .skip (eX (inr (bF .skip (gR (cW aB eO) 9) 2))) 3)) (ns:=[4]) (l:=bJ 2 (bJ 1 (eX (inr (bF .skip (gR (cW aB eO) 9) 2))))) (r':=bJ 4 (eX (inr (bF .skip (gR (cW aB eO) 9) 2)))) (by kernel_rfl) (by kernel_rfl) (aO3 X i (dQ M) M) ?_
   simp only[bB,iD,show (↑i:Int).toNat=i from rfl]
   have rowOK:True∧True∧(∀(e o:Nat),e<(dQ M).M.length→o<7→True)∧True∧True∧True∧True:=⟨trivial,trivial,fun _ _ _ _=>trivial,trivial,trivial,trivial,trivial⟩
   refine⟨⟨by omega,by omega⟩,⟨rowOK,hM,trivial⟩,⟨mM M,iF.refl _,by rw[←hB];exact iF.refl _,by omega⟩,trivial,?_⟩
   refine eJ.pre ((fG (eZ 96 [11,12,13,80]) _).trans (aJ (st':=(fun(D:Ld)=>bS 96 [(11,aU kG 1 X),(12,iV i),(13,.c (.ptr 0 0)),(80,bV false)] [.cells 86 [.sl 1 7 0 D.M.length,.mp 2,.mp 3],.row 31 7 D.M.length (aQ aI D.M),.mapb (bQ aB 81) D.gp,.mapl (bQ aB 79) 3 1 D.gs none]) (dQ M)) (by kernel_rfl))) ?_
   refine eJ.evG (yL (dQ M) M) 2 (aO2 X i (dQ M) M) ?_;simp only[bB,aL,cG];refine⟨⟨rowOK,hM,trivial⟩,⟨⟨trivial,fun _ _ _ _=>lE.refl _⟩,⟨hLg,hM.2⟩,trivial⟩,⟨?_⟩⟩
   refine eJ.pre (aJ (st':=(fun(D:Ld)=>bS 96 [(11,aU kG 1 X),(12,iV i),(13,.c (.ptr 0 0)),(15,.c (.ptr 1 0))] [.cells 86 [.sl 2 7 0 D.M.length,.mp 3,.mp 4],.cells 86 [.sl 5 7 0 D.M.length,.mp 6,.mp 7],.row 31 7 D.M.length (aQ aI D.M),.mapb (bQ aB 81) D.gp,.mapl (bQ aB 79) 3 1 D.gs none,.row 31 7 D.M.length (aQ aI D.M),.mapb (bQ aB 81) D.gp,.mapl (bQ aB 79) 3 1 D.gs none]) (dQ M)) (by kernel_rfl)) ?_
   refine eJ.evH (yL (dQ M) M) (aO1 X i (dQ M) M) ?_;simp only[bB,aL,cG]
   have h5:=hM.2
   refine⟨⟨rowOK,hM,trivial⟩,⟨rowOK,hM,trivial⟩,⟨M,iF.refl _,iF.refl _,by omega,fun a ha=>?_⟩,⟨q2n _ after⟩⟩
   have:=(kS (iM.1 (hM.1 a ha).1).2.2.1).1
   omega
 ·refine eJ.pre (fG [] _) (eJ.pre (aJ (st':=bS 96 [] []) (by kernel_rfl)) (eJ.evH LB aNZ ?_))
  simp only[bB,aL,fI];exact⟨trivial,⟨iF.refl _⟩⟩
set_option maxRecDepth 100000 in
set_option maxHeartbeats 1000000 in
theorem pagesForms_fn(R:List UInt8)(A:List Int)(a:Int)(by_:UInt8)(hA:∀t∈A,eV .i64 t)(ha:eV .i64 a)(hAl:A.length≤9223372036854775807)(h:List AO):jN aB G 10 [aU bG 1 R,aU aS 1 A,iV a,.c (.p (.i .u8 (by_.toNat:Nat)))] h fun x h'=>x=bV true∧h'=h:=by
 refine pW Try.func10 (by kernel_rfl) rfl ?_ h
 have hM:=aLV A
 have hLg:=VM A
 have hMl:=UY A
 refine eJ.evG (NZ (YF A) (dQ (YF A))) 4 (aRE R A a by_.toNat (YF A) (dQ (YF A))) ?_;simp only[bZ,bB,aL,fI,cG,iN];refine⟨⟨dJ _ _ _,hA,hAl,trivial⟩,⟨⟨trivial,fun _ _ _ _=>lE.refl _⟩,⟨hLg,by omega⟩,trivial⟩,⟨?_⟩⟩
 generalize YF A=M at hM hLg hMl ⊢
 refine eJ.pre (aJ (st':=(fun(D:Ld) (by_:Nat)=>bS 96 [(0,aU bG 1 R),(2,iV a),(3,.c (.p (.i .u8 (by_:Nat)))),(9,.c (.ptr 0 0))] (lN D [])) (dQ M) by_.toNat) (by kernel_rfl)) ?_
 have hlB:=EM hM
 have hfw:=aI7 (mM M) 2000
 refine eJ.evG (LE (dQ M) M 2000) 1 (aRD R a by_.toNat M (dQ M) 2000) ?_;simp only[bB,aL,cG];refine⟨⟨⟨trivial,trivial,fun _ _ _ _=>trivial,trivial,trivial,trivial,trivial⟩,hM,trivial⟩,⟨⟨trivial,fun _ _ _ _=>trivial⟩,trivial,by decide,by omega⟩,⟨?_⟩⟩
 have hK:(kL (mM M) 2000).length≤2000:=by unfold kL;rw[cU];show min 2000 _≤2000;omega
 generalize kL (mM M) 2000=K0 at hK ⊢
 refine eJ.pre (aJ (st':=(fun(by_:Nat) (K:List UInt8)=>bS 96 [(0,aU bG 1 R),(2,iV a),(3,.c (.p (.i .u8 (by_:Nat)))),(10,.c (.sl 0 1 0 K.length))] [.row 5 1 K.length (aQ bG K)]) by_.toNat K0) (by kernel_rfl)) ?_
 refine eJ.evG (dY (by simp;exact MR)) 2 (aRC R K0 a by_.toNat) ?_;simp only[bZ,bB,aL,cG,decide_eq_true_eq,decide_eq_false_iff_not,gM]
 have tail:∀K:List UInt8,K.length≤2000→eJ aB G (bI aB eO) (bV true) (bJ 7 (cW aB eO)) ((fun(by_:Nat)=>bS 96 [(0,aU bG 1 R),(3,.c (.p (.i .u8 (by_:Nat)))),(10,.c (.sl 0 1 0 K.length))] [.row 5 1 K.length (aQ bG K)]) by_.toNat) (fun _ _=>False):=by
  intro K hK
  refine eJ.pre ((kZ (j:=10) (id:=0) (ty:=5) (sz:=1) (n:=K.length) (off:=0) (len:=K.length) (f:=aQ bG K) (by kernel_rfl) (by kernel_rfl) (by omega) (fun _ _ _ _=>rfl)).trans ((fG (eZ 96 [0,3,10]) _).trans (aJ (st':=(fun(by_:Nat) (C:List UInt8)=>bS 96 [(0,aU bG 1 R),(3,.c (.p (.i .u8 (by_:Nat)))),(10,aU bG 1 K)] []) by_.toNat K) (by kernel_rfl)))) ?_
  refine eJ.rg (al:=(MG (bF .skip (cW aB eO) 7))) (r:=bJ 8 (cW aB eO)) (by kernel_rfl) (Rg.cut 2 ?_)
  refine Rg.ev (sL R 60) (eZ 96 [3,10,35]) (aRB R K 60 by_.toNat) ?_;simp only[bB,aL]
  have h1:(kL R 60).length≤2000:=by unfold kL;rw[cU];show min 60 _≤2000;omega
  refine⟨⟨⟨trivial,fun _ _ _ _=>trivial⟩,trivial,by decide,by omega⟩,⟨?_⟩⟩
  generalize kL R 60=K1 at h1 ⊢
  refine Rg.pre ((kZ (j:=35) (id:=0) (ty:=5) (sz:=1) (n:=K1.length) (off:=0) (len:=K1.length) (f:=aQ bG K1) (by kernel_rfl) (by kernel_rfl) (by omega) (fun _ _ _ _=>rfl)).trans ((fG (eZ 96 [3,10,35]) _).trans (aJ (st':=(fun(by_:Nat)=>bS 96 [(3,.c (.p (.i .u8 (by_:Nat)))),(10,aU bG 1 K),(35,aU bG 1 K1)] []) by_.toNat) (by kernel_rfl)))) (Rg.cut 7 ?_)
  obtain⟨m,hm,hm0⟩:∃m:Int,(if 0<(K.length:Int)-1 then (K.length:Int)-1 else 0)=m∧0≤m:=⟨_,rfl,by split<;>omega⟩
  refine Rg.ev (sL K m) (eZ 96 [3,10,35,36,42]) (aRA K K1 m by_.toNat) ?_;simp only[bB,aL,eV]
  have h2:(kL K m).length≤2000:=by unfold kL;rw[cU];omega
  refine⟨by omega,⟨⟨trivial,fun _ _ _ _=>trivial⟩,hm,hm0,by omega⟩,⟨?_⟩⟩
  generalize kL K m=K2 at h2 ⊢
  refine Rg.pre ((kZ (j:=42) (id:=0) (ty:=5) (sz:=1) (n:=K2.length) (off:=0) (len:=K2.length) (f:=aQ bG K2) (by kernel_rfl) (by kernel_rfl) (by omega) (fun _ _ _ _=>rfl)).trans ((fG (eZ 96 [3,10,35,36,42]) _).trans (aJ (st':=(fun(by_:Nat)=>bS 96 [(3,.c (.p (.i .u8 (by_:Nat)))),(10,aU bG 1 K),(35,aU bG 1 K1),(36,aU bG 1 K),(42,aU bG 1 K2)] []) by_.toNat) (by kernel_rfl)))) (Rg.cut 5 ?_)
  refine Rg.ev (sL K 2000) (eZ 96 [35,36,42,47]) (aR9 K K1 K2 2000 by_.toNat) ?_;simp only[bB,aL]
  have h3:(kL K 2000).length≤2000:=by unfold kL;rw[cU];omega
  refine⟨⟨⟨trivial,fun _ _ _ _=>trivial⟩,trivial,by decide,by omega⟩,trivial,aW _,⟨by omega,by omega,fun e o he ho=>?_⟩,⟨?_⟩⟩
  ·obtain rfl:e=0:=by omega
   obtain rfl:o=0:=by omega
   rfl
  generalize kL K 2000=K3 at h3 ⊢
  have h4:(K3++[by_]).length=K3.length+1:=by simp
  refine Rg.pre (st2:=bS 96 [(35,aU bG 1 K1),(36,aU bG 1 K),(42,aU bG 1 K2),(47,.c (.sl 0 1 0 (K3.length+1)))] [.row 5 1 (K3.length+1) (aQ bG (K3++[by_]))]) (iG ⟨⟨rfl,rfl,rfl,fun e o he ho=>oT (enc:=bG) (L:=K3) (ρ:=[2]) (g:=fun e o=>bF C.top [C.p (PV.i bE (by_.toNat:Int))] ((e+0)*1+o)) rfl (CE by_) he ho⟩,trivial⟩) ?_;rw[←h4]
  generalize K3++[by_]=K4 at h4 ⊢
  refine Rg.pre ((kZ (j:=47) (id:=0) (ty:=5) (sz:=1) (n:=K4.length) (off:=0) (len:=K4.length) (f:=aQ bG K4) (by kernel_rfl) (by kernel_rfl) (by omega) (fun _ _ _ _=>rfl)).trans ((fG (eZ 96 [35,36,42,47]) _).trans (aJ (st':=bS 96 [(35,aU bG 1 K1),(36,aU bG 1 K),(42,aU bG 1 K2),(47,aU bG 1 K4)] []) (by kernel_rfl)))) ?_
  refine Rg.ev aX (eZ 96 [11]) (aR8 K K1 K2 K4) ?_;simp only[aL];refine⟨eJ.pre (st2:=bS 96 [(11,.c (.sl 0 1 0 4))] [.row 63 1 4 (aQ kG [K1,K,K2,K4])]) (iG ⟨⟨rfl,rfl,rfl,fun e o he ho=>?_⟩,trivial⟩) ?_⟩
  ·obtain rfl:o=0:=by omega
   have:e=0∨e=1∨e=2∨e=3:=by omega
   rcases this with rfl|rfl|rfl|rfl<;>rfl
  refine eJ.pre ((kZ (j:=11) (id:=0) (ty:=63) (sz:=1) (n:=4) (off:=0) (len:=4) (f:=aQ kG [K1,K,K2,K4]) (by kernel_rfl) (by kernel_rfl) (by omega) (fun _ _ _ _=>rfl)).trans ((fG (eZ 96 [11]) _).trans (aJ (st':=bS 96 [(11,aU kG 1 [K1,K,K2,K4])] []) (by kernel_rfl)))) ?_
  refine eJ.evG aX 1 (keep:=eZ 96 [11,12]) (tree:=.done .normal (bS 96 [(11,aU kG 1 [K1,K,K2,K4]),(12,iV (0:Nat))] [])) (by kernel_rfl) ?_
  simp only[aL,cG]
  have e9:bJ 1 (bJ 8 (cW aB eO))=bJ 9 (cW aB eO):=by kernel_rfl
  rw[e9];refine⟨TF [K1,K,K2,K4] rfl fun x hx=>?_⟩;simp only[List.mem_cons,List.not_mem_nil,or_false]at hx
  rcases hx with rfl|rfl|rfl|rfl<;>omega
 refine⟨fun h1=>?_,fun h1=>⟨eJ.pre (aJ (by kernel_rfl)) (tail K0 hK)⟩⟩
 have hr:0≤kD a K0.length∧kD a K0.length<K0.length:=⟨Int.emod_nonneg _ (by omega),Int.emod_lt_of_pos _ h1⟩
 refine⟨⟨ha,h1⟩,hr,by omega,⟨eJ.pre ?_ (tail (K0.set (kD a K0.length).toNat by_) (by rw[cB];exact hK))⟩⟩;rw[cB];refine iG ⟨⟨rfl,rfl,rfl,fun e o he ho=>?_⟩,trivial⟩
 obtain rfl:o=0:=by omega
 exact congrArg (bP [0]) (aSG (by omega) he)
end
theorem u8_nat{x:Int}(h:(Lit.int .u8 x).wf=true):∃b:UInt8,x=(b.toNat:Int):=by
 have:=bounds_u8 h
 refine⟨gW x.toNat,?_⟩;rw[UInt8.toNat_ofNat'];omega
theorem row_vrU{w:World}{a:Option Addr}{len cap:Nat}{zs:List Int}(h:(a=none∧len=0∧cap=0∧zs=[]) ∨
 ∃x:Addr,a=some x∧len≤cap∧cap≤maxLen∧zs.length=cap∧(∀i,i<zs.length→w.cell? (x.add i)=some (.int .u8 (zs.getD i 0)))∧∀n∈zs,(Lit.int .u8 n).wf=true) :
  ∃L:List UInt8,VR Bt.nil (fun b=>b<w.heap.size) w (aU bG 1 L) (.slice a len cap):=by
 rcases h with⟨rfl,rfl,rfl,rfl⟩|⟨x,rfl,h1,h2,h3,h4,h5⟩
 ·exact⟨[],none,0,rfl,aW _,bW _,fun h=>absurd h (Nat.lt_irrefl 0)⟩
 ·have hl:((zs.take len).map fun z=>gW z.toNat).length=len:=by rw[List.length_map,cU];omega
  refine⟨(zs.take len).map fun z=>gW z.toNat,some x,cap,by rw[hl],by rw[hl];exact h1,h2,fun hn=>?_⟩;rw[hl]at hn;refine⟨x,rfl,?_,fun e o he ho=>?_⟩
  ·have:=World.block_lt_of_cell? w _ (h4 0 (by omega))
   rwa [qE]at this
  ·rw[hl]at he
   obtain rfl:o=0:=by omega
   have hlt:e<zs.length:=by omega
   refine⟨_,h4 (e*1+0) (by omega),?_⟩
   show cL .u8 (zs.getD (e*1+0) 0)=cL .u8 ((((zs.take len).map fun z=>gW z.toNat).getD e default).toNat:Int)
   have hg:((zs.take len).map fun z=>gW z.toNat).getD e default=gW (zs.getD e 0).toNat:=by
    rw[aD,List.getElem?_map,List.getElem?_take_of_lt he,aD,aM hlt];rfl
   rw[hg,Nat.mul_one,gM,UInt8.toNat_ofNat']
   have:=bounds_u8 (h5 (zs.getD e 0) (by rw[aD,aM hlt];exact jI hlt))
   congr 1;omega
end Go.AE
