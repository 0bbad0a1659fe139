import Derived.Test.YtfjihbmehhccoaaB5
import Derived.Test.YtfjihbmehhccoaaB6
set_option linter.unusedVariables false
set_option linter.unusedSimpArgs false
namespace Go.AE
open _root_.Array renaming length_toList→jD
open _root_.Bool renaming not_eq_false'→fX,not_eq_true'→eQ
open _root_.ByteArray renaming mk→aH
open _root_.Int renaming toNat_natCast→dW
open IntKind renaming i64→aC,u8→bF
open _root_.List renaming append_assoc→cF,append_nil→eX,drop_eq_getElem_cons→dG,getD_eq_getElem?_getD→aD,getElem?_eq_getElem→aK,getElem_mem→jQ,length_append→aL,length_cons→eF,mem_cons_of_mem→cN,mem_cons_self→cZ,take_append_drop→fL,take_length→fF
open _root_.Nat renaming add_assoc→iL,le_refl→aW,zero_le→bX
open _root_.Go.Proofs.Try renaming f36→eN,f37→jV,f68→jG,prog→aB
open Value renaming agg→iK,int→cT,slice→bB,string→cU
open Go.Proofs Go.Proofs.Ytfjihbmehhccoaa Gp Go.RowKit Wi
def mQ:List (ByteArray×ByteArray)→List UInt8
 |[]=>[]
 |x::r=>dI x.1++dI x.2++mQ r
def CZ(p:Pg):List UInt8:=bR p.kd++dI p.ru++bR p.ve++bR p.L.length++mQ p.L++bR p.st++bR p.se++dI p.to
def lU:List Pg→List UInt8
 |[]=>[]
 |p::r=>CZ p++lU r
def lI(M:List Pg):List UInt8:=bR M.length++lU M
def sG(B:List UInt8)(m:Int):Ext:=mH [(34,aE2 B m)]
def zG(B:List UInt8)(m:ByteArray):Ext:=mH [(35,TN B m)]
def aKT(B:List UInt8):Ext:=mH [(39,LI B)]
theorem aT5(D:Ld)(b:Nat):dF fH (dL 2 (dC aB eN)) (jR eN [0,1,2,3] [0] [b] [.c (.ptr 0 0)] (mL D [])) (gP [0] (fJ 61 [0,3]) (bK aB eN))=Tr.done X.normal
 (bY 61 [(0,.c (.ptr 0 0)),(3,.c (.ptr 1 0))] [.pin 2 b,.cells 65 [.p (.z (bB none 0 0))],.cells 86 [.sl 3 7 0 D.M.length,.mp 4,.mp 5],.row 31 7 D.M.length fun e o=>bQ [4,5,0,1,2,3] (bQ [0,1,2,3] (aO aG D.M e o)),.mapb (bJ aB 81) D.gp,.mapl (bJ aB 79) 3 1 D.gs none]):=by kernel_rfl
theorem aT4(D:Ld)(b k:Nat)(B:List UInt8):dF (sG B D.M.length) (dL 1 (bL 2 (dC aB eN))) (bY 61 [(0,.c (.ptr 0 0)),(3,.c (.ptr 1 0))] [.pin 2 b,.cells 65 [.sl 3 1 0 k],.cells 86 [.sl 4 7 0 D.M.length,.mp 5,.mp 6],.row 5 1 k (aO bI B),.row 31 7 D.M.length (aO aG D.M),.mapb (bJ aB 81) D.gp,.mapl (bJ aB 79) 3 1 D.gs none]) (gP [0] (fJ 61 [0,3]) (bK aB eN))=Tr.rq
 ((k=B.length∧k=B.length∧∀(e o:Nat),e<B.length→o<1→aO bI B e o=aO bI B e o) ∧
 (↑D.M.length:Int)=(↑D.M.length:Int)∧eW aC (↑D.M.length:Int)∧(B++bR (↑D.M.length:Int)).length≤140737488355328)
 (.done .normal
 (bY 61 [(0,.c (.ptr 0 0)),(3,.c (.ptr 1 0))] [.pin 2 b,.cells 65 [.sl 3 1 0 (B++bR (↑D.M.length:Int)).length],.cells 86 [.sl 4 7 0 D.M.length,.mp 5,.mp 6],.row 5 1 (B++bR (↑D.M.length:Int)).length fun e o=>bQ [0,1,2,9,4,5,6] (C.p (PV.i bF (↑((B++bR (↑D.M.length:Int)).getD e default).toNat:Int))),.row 31 7 D.M.length fun e o=>bQ [0,1,2,9,4,5,6] (aO aG D.M e o),.mapb (bJ aB 81) D.gp,.mapl (bJ aB 79) 3 1 D.gs none])):=by kernel_rfl
theorem aT3(D:Ld)(b k:Nat)(B:List UInt8):dF fH (dL 1 (bL 3 (dC aB eN))) (bY 61 [(0,.c (.ptr 0 0)),(3,.c (.ptr 1 0))] [.pin 2 b,.cells 65 [.sl 3 1 0 k],.cells 86 [.sl 4 7 0 D.M.length,.mp 5,.mp 6],.row 5 1 k (aO bI B),.row 31 7 D.M.length (aO aG D.M),.mapb (bJ aB 81) D.gp,.mapl (bJ aB 79) 3 1 D.gs none]) (gP [0] (fJ 61 [0,3,17,18,19]) (bK aB eN))=Tr.done X.normal
 (bY 61 [(0,.c (.ptr 0 0)),(3,.c (.ptr 1 0)),(17,.c (.sl 2 7 0 D.M.length)),(18,.c (.p (.i .i64 (↑D.M.length:Int)))),(19,.c (.p (.i .i64 0)))] [.pin 3 b,.cells 65 [.sl 4 1 0 k],.row 31 7 D.M.length fun e o=>bQ [0,1,4,2,3,5,6] (aO aG D.M e o),.cells 86 [.sl 2 7 0 D.M.length,.mp 5,.mp 6],.row 5 1 k fun e o=>bQ [0,1,4,2,3,5,6] (aO bI B e o),.mapb (bJ aB 81) D.gp,.mapl (bJ aB 79) 3 1 D.gs none]):=by kernel_rfl
theorem aT2(i:Nat)(D:Ld)(b k:Nat)(B:List UInt8):dF fH (dL 2 (gQ (dC aB eN) 4)) (bY 61 [(0,.c (.ptr 0 0)),(3,.c (.ptr 1 0)),(17,.c (.sl 2 7 0 D.M.length)),(18,iV D.M.length),(19,iV i)] [.pin 3 b,.cells 65 [.sl 4 1 0 k],.row 31 7 D.M.length (aO aG D.M),.cells 86 [.sl 2 7 0 D.M.length,.mp 5,.mp 6],.row 5 1 k (aO bI B),.mapb (bJ aB 81) D.gp,.mapl (bJ aB 79) 3 1 D.gs none]) (gP [0] (fJ 61 [0,3,17,18,19]) (bK aB eN))=bT (decide ((↑i:Int)<(↑D.M.length:Int)))
 (.done .normal
 (bY 61 [(0,.c (.ptr 0 0)),(3,.c (.ptr 1 0)),(17,.c (.sl 2 7 0 D.M.length)),(18,.c (.p (.i .i64 (↑D.M.length:Int)))),(19,.c (.p (.i .i64 (↑i:Int))))] [.pin 3 b,.cells 65 [.sl 4 1 0 k],.row 31 7 D.M.length fun e o=>bQ [0,1,2,3,4,5,6] (aO aG D.M e o),.cells 86 [.sl 2 7 0 D.M.length,.mp 5,.mp 6],.row 5 1 k fun e o=>bQ [0,1,2,3,4,5,6] (aO bI B e o),.mapb (bJ aB 81) D.gp,.mapl (bJ aB 79) 3 1 D.gs none]))
 (.done (.exit 0)
 (bY 61 [(0,.c (.ptr 0 0)),(3,.c (.ptr 1 0)),(17,.c (.sl 2 7 0 D.M.length)),(18,.c (.p (.i .i64 (↑D.M.length:Int)))),(19,.c (.p (.i .i64 (↑i:Int))))] [.pin 3 b,.cells 65 [.sl 4 1 0 k],.row 31 7 D.M.length fun e o=>bQ [0,1,2,3,4,5,6] (aO aG D.M e o),.cells 86 [.sl 2 7 0 D.M.length,.mp 5,.mp 6],.row 5 1 k fun e o=>bQ [0,1,2,3,4,5,6] (aO bI B e o),.mapb (bJ aB 81) D.gp,.mapl (bJ aB 79) 3 1 D.gs none])):=by kernel_rfl
theorem aT1(i:Nat)(D:Ld)(b k:Nat)(B:List UInt8):dF fH (dL 1 (eZ (inr (bC .skip (gQ (dC aB eN) 4) 2)))) (bY 61 [(0,.c (.ptr 0 0)),(3,.c (.ptr 1 0)),(17,.c (.sl 2 7 0 D.M.length)),(18,iV D.M.length),(19,iV i)] [.pin 3 b,.cells 65 [.sl 4 1 0 k],.row 31 7 D.M.length (aO aG D.M),.cells 86 [.sl 2 7 0 D.M.length,.mp 5,.mp 6],.row 5 1 k (aO bI B),.mapb (bJ aB 81) D.gp,.mapl (bJ aB 79) 3 1 D.gs none]) (gP [0] (fJ 61 [0,3,5,17,18,19]) (bK aB eN))=Tr.rq (0≤(↑i:Int)∧(↑i:Int)<(↑D.M.length:Int))
 (.rq ((↑i:Int).toNat+0<D.M.length)
 (.done .normal
 (bY 61 [(0,.c (.ptr 0 0)),(3,.c (.ptr 1 0)),(5,.c (.ptr 2 0)),(17,.c (.sl 3 7 0 D.M.length)),(18,.c (.p (.i .i64 (↑D.M.length:Int)))),(19,.c (.p (.i .i64 (↑i:Int))))] [.pin 4 b,.cells 65 [.sl 5 1 0 k],.cells 31 [.p (.i .i64 (D.M.getD ((↑i:Int).toNat+0) default).kd),.p (.s (D.M.getD ((↑i:Int).toNat+0) default).ru),.p (.i .i64 (D.M.getD ((↑i:Int).toNat+0) default).ve),.p (.l 2 (D.M.getD ((↑i:Int).toNat+0) default).L.length (aE aN (D.M.getD ((↑i:Int).toNat+0) default).L)),.p (.i .i64 (D.M.getD ((↑i:Int).toNat+0) default).st),.p (.i .i64 (D.M.getD ((↑i:Int).toNat+0) default).se),.p (.s (D.M.getD ((↑i:Int).toNat+0) default).to)],.row 31 7 D.M.length fun e o=>bQ [0,1,7,2,3,4,5,6] (aO aG D.M e o),.cells 86 [.sl 3 7 0 D.M.length,.mp 6,.mp 7],.row 5 1 k fun e o=>bQ [0,1,7,2,3,4,5,6] (aO bI B e o),.mapb (bJ aB 81) D.gp,.mapl (bJ aB 79) 3 1 D.gs none]))):=by kernel_rfl
theorem aT0(i:Nat)(p:Pg)(D:Ld)(b k:Nat)(B:List UInt8):dF (sG B p.kd) (dL 1 (bL 1 (eZ (inr (bC .skip (gQ (dC aB eN) 4) 2))))) (bY 61 [(0,.c (.ptr 0 0)),(3,.c (.ptr 1 0)),(5,.c (.ptr 2 0)),(17,.c (.sl 3 7 0 D.M.length)),(18,iV D.M.length),(19,iV i)] [.pin 4 b,.cells 65 [.sl 5 1 0 k],.cells 31 [.p (.i .i64 p.kd),.p (.s p.ru),.p (.i .i64 p.ve),.p (bO aN 2 p.L),.p (.i .i64 p.st),.p (.i .i64 p.se),.p (.s p.to)],.row 31 7 D.M.length (aO aG D.M),.cells 86 [.sl 3 7 0 D.M.length,.mp 6,.mp 7],.row 5 1 k (aO bI B),.mapb (bJ aB 81) D.gp,.mapl (bJ aB 79) 3 1 D.gs none]) (gP [0] (fJ 61 [0,3,5,17,18,19]) (bK aB eN))=Tr.rq ((k=B.length∧k=B.length∧∀(e o:Nat),e<B.length→o<1→aO bI B e o=aO bI B e o)∧p.kd=p.kd∧eW aC p.kd∧(B++bR p.kd).length≤140737488355328)
 (.done .normal
 (bY 61 [(0,.c (.ptr 0 0)),(3,.c (.ptr 1 0)),(5,.c (.ptr 2 0)),(17,.c (.sl 3 7 0 D.M.length)),(18,.c (.p (.i .i64 (↑D.M.length:Int)))),(19,.c (.p (.i .i64 (↑i:Int))))] [.pin 4 b,.cells 65 [.sl 5 1 0 (B++bR p.kd).length],.cells 31 [.p (.i .i64 p.kd),.p (.s p.ru),.p (.i .i64 p.ve),.p (.l 2 p.L.length (aE aN p.L)),.p (.i .i64 p.st),.p (.i .i64 p.se),.p (.s p.to)],.row 31 7 D.M.length fun e o=>bQ [0,1,2,3,4,10,6,7] (aO aG D.M e o),.cells 86 [.sl 3 7 0 D.M.length,.mp 6,.mp 7],.row 5 1 (B++bR p.kd).length fun e o=>bQ [0,1,2,3,4,10,6,7] (C.p (PV.i bF (↑((B++bR p.kd).getD e default).toNat:Int))),.mapb (bJ aB 81) D.gp,.mapl (bJ aB 79) 3 1 D.gs none])):=by kernel_rfl
theorem aSZ(i:Nat)(p:Pg)(D:Ld)(b k:Nat)(B:List UInt8):dF (zG B p.ru) (dL 1 (bL 2 (eZ (inr (bC .skip (gQ (dC aB eN) 4) 2))))) (bY 61 [(0,.c (.ptr 0 0)),(3,.c (.ptr 1 0)),(5,.c (.ptr 2 0)),(17,.c (.sl 3 7 0 D.M.length)),(18,iV D.M.length),(19,iV i)] [.pin 4 b,.cells 65 [.sl 5 1 0 k],.cells 31 [.p (.i .i64 p.kd),.p (.s p.ru),.p (.i .i64 p.ve),.p (bO aN 2 p.L),.p (.i .i64 p.st),.p (.i .i64 p.se),.p (.s p.to)],.row 31 7 D.M.length (aO aG D.M),.cells 86 [.sl 3 7 0 D.M.length,.mp 6,.mp 7],.row 5 1 k (aO bI B),.mapb (bJ aB 81) D.gp,.mapl (bJ aB 79) 3 1 D.gs none]) (gP [0] (fJ 61 [0,3,5,17,18,19]) (bK aB eN))=Tr.rq ((k=B.length∧k=B.length∧∀(e o:Nat),e<B.length→o<1→aO bI B e o=aO bI B e o)∧p.ru=p.ru∧p.ru.size≤140737488355328∧(B++dI p.ru).length≤140737488355328)
 (.done .normal
 (bY 61 [(0,.c (.ptr 0 0)),(3,.c (.ptr 1 0)),(5,.c (.ptr 2 0)),(17,.c (.sl 3 7 0 D.M.length)),(18,.c (.p (.i .i64 (↑D.M.length:Int)))),(19,.c (.p (.i .i64 (↑i:Int))))] [.pin 4 b,.cells 65 [.sl 5 1 0 (B++dI p.ru).length],.cells 31 [.p (.i .i64 p.kd),.p (.s p.ru),.p (.i .i64 p.ve),.p (.l 2 p.L.length (aE aN p.L)),.p (.i .i64 p.st),.p (.i .i64 p.se),.p (.s p.to)],.row 31 7 D.M.length fun e o=>bQ [0,1,2,3,4,10,6,7] (aO aG D.M e o),.cells 86 [.sl 3 7 0 D.M.length,.mp 6,.mp 7],.row 5 1 (B++dI p.ru).length fun e o=>bQ [0,1,2,3,4,10,6,7] (C.p (PV.i bF (↑((B++dI p.ru).getD e default).toNat:Int))),.mapb (bJ aB 81) D.gp,.mapl (bJ aB 79) 3 1 D.gs none])):=by kernel_rfl
theorem aSY(i:Nat)(p:Pg)(D:Ld)(b k:Nat)(B:List UInt8):dF (sG B p.ve) (dL 1 (bL 3 (eZ (inr (bC .skip (gQ (dC aB eN) 4) 2))))) (bY 61 [(0,.c (.ptr 0 0)),(3,.c (.ptr 1 0)),(5,.c (.ptr 2 0)),(17,.c (.sl 3 7 0 D.M.length)),(18,iV D.M.length),(19,iV i)] [.pin 4 b,.cells 65 [.sl 5 1 0 k],.cells 31 [.p (.i .i64 p.kd),.p (.s p.ru),.p (.i .i64 p.ve),.p (bO aN 2 p.L),.p (.i .i64 p.st),.p (.i .i64 p.se),.p (.s p.to)],.row 31 7 D.M.length (aO aG D.M),.cells 86 [.sl 3 7 0 D.M.length,.mp 6,.mp 7],.row 5 1 k (aO bI B),.mapb (bJ aB 81) D.gp,.mapl (bJ aB 79) 3 1 D.gs none]) (gP [0] (fJ 61 [0,3,5,17,18,19]) (bK aB eN))=Tr.rq ((k=B.length∧k=B.length∧∀(e o:Nat),e<B.length→o<1→aO bI B e o=aO bI B e o)∧p.ve=p.ve∧eW aC p.ve∧(B++bR p.ve).length≤140737488355328)
 (.done .normal
 (bY 61 [(0,.c (.ptr 0 0)),(3,.c (.ptr 1 0)),(5,.c (.ptr 2 0)),(17,.c (.sl 3 7 0 D.M.length)),(18,.c (.p (.i .i64 (↑D.M.length:Int)))),(19,.c (.p (.i .i64 (↑i:Int))))] [.pin 4 b,.cells 65 [.sl 5 1 0 (B++bR p.ve).length],.cells 31 [.p (.i .i64 p.kd),.p (.s p.ru),.p (.i .i64 p.ve),.p (.l 2 p.L.length (aE aN p.L)),.p (.i .i64 p.st),.p (.i .i64 p.se),.p (.s p.to)],.row 31 7 D.M.length fun e o=>bQ [0,1,2,3,4,10,6,7] (aO aG D.M e o),.cells 86 [.sl 3 7 0 D.M.length,.mp 6,.mp 7],.row 5 1 (B++bR p.ve).length fun e o=>bQ [0,1,2,3,4,10,6,7] (C.p (PV.i bF (↑((B++bR p.ve).getD e default).toNat:Int))),.mapb (bJ aB 81) D.gp,.mapl (bJ aB 79) 3 1 D.gs none])):=by kernel_rfl
theorem aSX(i:Nat)(p:Pg)(D:Ld)(b k:Nat)(B:List UInt8):dF (sG B p.L.length) (dL 1 (bL 4 (eZ (inr (bC .skip (gQ (dC aB eN) 4) 2))))) (bY 61 [(0,.c (.ptr 0 0)),(3,.c (.ptr 1 0)),(5,.c (.ptr 2 0)),(17,.c (.sl 3 7 0 D.M.length)),(18,iV D.M.length),(19,iV i)] [.pin 4 b,.cells 65 [.sl 5 1 0 k],.cells 31 [.p (.i .i64 p.kd),.p (.s p.ru),.p (.i .i64 p.ve),.p (bO aN 2 p.L),.p (.i .i64 p.st),.p (.i .i64 p.se),.p (.s p.to)],.row 31 7 D.M.length (aO aG D.M),.cells 86 [.sl 3 7 0 D.M.length,.mp 6,.mp 7],.row 5 1 k (aO bI B),.mapb (bJ aB 81) D.gp,.mapl (bJ aB 79) 3 1 D.gs none]) (gP [0] (fJ 61 [0,3,5,17,18,19]) (bK aB eN))=Tr.rq
 ((k=B.length∧k=B.length∧∀(e o:Nat),e<B.length→o<1→aO bI B e o=aO bI B e o) ∧
 (↑p.L.length:Int)=(↑p.L.length:Int)∧eW aC (↑p.L.length:Int)∧(B++bR (↑p.L.length:Int)).length≤140737488355328)
 (.done .normal
 (bY 61 [(0,.c (.ptr 0 0)),(3,.c (.ptr 1 0)),(5,.c (.ptr 2 0)),(17,.c (.sl 3 7 0 D.M.length)),(18,.c (.p (.i .i64 (↑D.M.length:Int)))),(19,.c (.p (.i .i64 (↑i:Int))))] [.pin 4 b,.cells 65 [.sl 5 1 0 (B++bR (↑p.L.length:Int)).length],.cells 31 [.p (.i .i64 p.kd),.p (.s p.ru),.p (.i .i64 p.ve),.p (.l 2 p.L.length (aE aN p.L)),.p (.i .i64 p.st),.p (.i .i64 p.se),.p (.s p.to)],.row 31 7 D.M.length fun e o=>bQ [0,1,2,3,4,10,6,7] (aO aG D.M e o),.cells 86 [.sl 3 7 0 D.M.length,.mp 6,.mp 7],.row 5 1 (B++bR (↑p.L.length:Int)).length fun e o=>bQ [0,1,2,3,4,10,6,7] (C.p (PV.i bF (↑((B++bR (↑p.L.length:Int)).getD e default).toNat:Int))),.mapb (bJ aB 81) D.gp,.mapl (bJ aB 79) 3 1 D.gs none])):=by kernel_rfl
theorem aSW(i:Nat)(p:Pg)(D:Ld)(b k:Nat)(B:List UInt8):dF fH (dL 1 (bL 5 (eZ (inr (bC .skip (gQ (dC aB eN) 4) 2))))) (bY 61 [(0,.c (.ptr 0 0)),(3,.c (.ptr 1 0)),(5,.c (.ptr 2 0)),(17,.c (.sl 3 7 0 D.M.length)),(18,iV D.M.length),(19,iV i)] [.pin 4 b,.cells 65 [.sl 5 1 0 k],.cells 31 [.p (.i .i64 p.kd),.p (.s p.ru),.p (.i .i64 p.ve),.p (bO aN 2 p.L),.p (.i .i64 p.st),.p (.i .i64 p.se),.p (.s p.to)],.row 31 7 D.M.length (aO aG D.M),.cells 86 [.sl 3 7 0 D.M.length,.mp 6,.mp 7],.row 5 1 k (aO bI B),.mapb (bJ aB 81) D.gp,.mapl (bJ aB 79) 3 1 D.gs none]) (gP [0] (fJ 61 [0,3,5,17,18,19,37,38,39]) (bK aB eN))=Tr.done X.normal
 (bY 61 [(0,.c (.ptr 0 0)),(3,.c (.ptr 1 0)),(5,.c (.ptr 2 0)),(17,.c (.sl 3 7 0 D.M.length)),(18,.c (.p (.i .i64 (↑D.M.length:Int)))),(19,.c (.p (.i .i64 (↑i:Int)))),(37,.c (.p (.l 2 p.L.length (aE aN p.L)))),(38,.c (.p (.i .i64 (↑p.L.length:Int)))),(39,.c (.p (.i .i64 0)))] [.pin 4 b,.cells 65 [.sl 5 1 0 k],.cells 31 [.p (.i .i64 p.kd),.p (.s p.ru),.p (.i .i64 p.ve),.p (.l 2 p.L.length (aE aN p.L)),.p (.i .i64 p.st),.p (.i .i64 p.se),.p (.s p.to)],.row 31 7 D.M.length fun e o=>bQ [0,1,2,3,4,5,6,7] (aO aG D.M e o),.cells 86 [.sl 3 7 0 D.M.length,.mp 6,.mp 7],.row 5 1 k fun e o=>bQ [0,1,2,3,4,5,6,7] (aO bI B e o),.mapb (bJ aB 81) D.gp,.mapl (bJ aB 79) 3 1 D.gs none]):=by kernel_rfl
theorem aPU(i j:Nat)(p:Pg)(D:Ld)(b k:Nat)(B:List UInt8):dF fH (dL 2 (gQ (eZ (inr (bC .skip (gQ (dC aB eN) 4) 2))) 6)) (bY 61 [(0,.c (.ptr 0 0)),(3,.c (.ptr 1 0)),(5,.c (.ptr 2 0)),(17,.c (.sl 3 7 0 D.M.length)),(18,iV D.M.length),(19,iV i),(37,aU aN 2 p.L),(38,iV p.L.length),(39,iV j)] [.pin 4 b,.cells 65 [.sl 5 1 0 k],.cells 31 [.p (.i .i64 p.kd),.p (.s p.ru),.p (.i .i64 p.ve),.p (bO aN 2 p.L),.p (.i .i64 p.st),.p (.i .i64 p.se),.p (.s p.to)],.row 31 7 D.M.length (aO aG D.M),.cells 86 [.sl 3 7 0 D.M.length,.mp 6,.mp 7],.row 5 1 k (aO bI B),.mapb (bJ aB 81) D.gp,.mapl (bJ aB 79) 3 1 D.gs none]) (gP [0] (fJ 61 [0,3,5,17,18,19,37,38,39]) (bK aB eN))=bT (decide ((↑j:Int)<(↑p.L.length:Int)))
 (.done .normal
 (bY 61 [(0,.c (.ptr 0 0)),(3,.c (.ptr 1 0)),(5,.c (.ptr 2 0)),(17,.c (.sl 3 7 0 D.M.length)),(18,.c (.p (.i .i64 (↑D.M.length:Int)))),(19,.c (.p (.i .i64 (↑i:Int)))),(37,.c (.p (.l 2 p.L.length (aE aN p.L)))),(38,.c (.p (.i .i64 (↑p.L.length:Int)))),(39,.c (.p (.i .i64 (↑j:Int))))] [.pin 4 b,.cells 65 [.sl 5 1 0 k],.cells 31 [.p (.i .i64 p.kd),.p (.s p.ru),.p (.i .i64 p.ve),.p (.l 2 p.L.length (aE aN p.L)),.p (.i .i64 p.st),.p (.i .i64 p.se),.p (.s p.to)],.row 31 7 D.M.length fun e o=>bQ [0,1,2,3,4,5,6,7] (aO aG D.M e o),.cells 86 [.sl 3 7 0 D.M.length,.mp 6,.mp 7],.row 5 1 k fun e o=>bQ [0,1,2,3,4,5,6,7] (aO bI B e o),.mapb (bJ aB 81) D.gp,.mapl (bJ aB 79) 3 1 D.gs none]))
 (.done (.exit 2)
 (bY 61 [(0,.c (.ptr 0 0)),(3,.c (.ptr 1 0)),(5,.c (.ptr 2 0)),(17,.c (.sl 3 7 0 D.M.length)),(18,.c (.p (.i .i64 (↑D.M.length:Int)))),(19,.c (.p (.i .i64 (↑i:Int)))),(37,.c (.p (.l 2 p.L.length (aE aN p.L)))),(38,.c (.p (.i .i64 (↑p.L.length:Int)))),(39,.c (.p (.i .i64 (↑j:Int))))] [.pin 4 b,.cells 65 [.sl 5 1 0 k],.cells 31 [.p (.i .i64 p.kd),.p (.s p.ru),.p (.i .i64 p.ve),.p (.l 2 p.L.length (aE aN p.L)),.p (.i .i64 p.st),.p (.i .i64 p.se),.p (.s p.to)],.row 31 7 D.M.length fun e o=>bQ [0,1,2,3,4,5,6,7] (aO aG D.M e o),.cells 86 [.sl 3 7 0 D.M.length,.mp 6,.mp 7],.row 5 1 k fun e o=>bQ [0,1,2,3,4,5,6,7] (aO bI B e o),.mapb (bJ aB 81) D.gp,.mapl (bJ aB 79) 3 1 D.gs none])):=by kernel_rfl
theorem aPT(i j:Nat)(p:Pg)(D:Ld)(b k:Nat)(B:List UInt8):dF fH (dL 1 (eZ (inr (bC .skip (gQ (eZ (inr (bC .skip (gQ (dC aB eN) 4) 2))) 6) 2)))) (bY 61 [(0,.c (.ptr 0 0)),(3,.c (.ptr 1 0)),(5,.c (.ptr 2 0)),(17,.c (.sl 3 7 0 D.M.length)),(18,iV D.M.length),(19,iV i),(37,aU aN 2 p.L),(38,iV p.L.length),(39,iV j)] [.pin 4 b,.cells 65 [.sl 5 1 0 k],.cells 31 [.p (.i .i64 p.kd),.p (.s p.ru),.p (.i .i64 p.ve),.p (bO aN 2 p.L),.p (.i .i64 p.st),.p (.i .i64 p.se),.p (.s p.to)],.row 31 7 D.M.length (aO aG D.M),.cells 86 [.sl 3 7 0 D.M.length,.mp 6,.mp 7],.row 5 1 k (aO bI B),.mapb (bJ aB 81) D.gp,.mapl (bJ aB 79) 3 1 D.gs none]) (gP [0] (fJ 61 [0,3,5,7,17,18,19,37,38,39]) (bK aB eN))=Tr.rq (0≤(↑j:Int)∧(↑j:Int)<(↑p.L.length:Int))
 (.done .normal
 (bY 61 [(0,.c (.ptr 0 0)),(3,.c (.ptr 1 0)),(5,.c (.ptr 2 0)),(7,.c (.ptr 3 0)),(17,.c (.sl 4 7 0 D.M.length)),(18,.c (.p (.i .i64 (↑D.M.length:Int)))),(19,.c (.p (.i .i64 (↑i:Int)))),(37,.c (.p (.l 2 p.L.length (aE aN p.L)))),(38,.c (.p (.i .i64 (↑p.L.length:Int)))),(39,.c (.p (.i .i64 (↑j:Int))))] [.pin 5 b,.cells 65 [.sl 6 1 0 k],.cells 31 [.p (.i .i64 p.kd),.p (.s p.ru),.p (.i .i64 p.ve),.p (.l 2 p.L.length (aE aN p.L)),.p (.i .i64 p.st),.p (.i .i64 p.se),.p (.s p.to)],.cells 56 [.p (.s (p.L.getD (↑j:Int).toNat default).fst),.p (.s (p.L.getD (↑j:Int).toNat default).snd)],.row 31 7 D.M.length fun e o=>bQ [0,1,2,8,3,4,5,6,7] (aO aG D.M e o),.cells 86 [.sl 4 7 0 D.M.length,.mp 7,.mp 8],.row 5 1 k fun e o=>bQ [0,1,2,8,3,4,5,6,7] (aO bI B e o),.mapb (bJ aB 81) D.gp,.mapl (bJ aB 79) 3 1 D.gs none])):=by kernel_rfl
theorem aPS(i j:Nat)(p:Pg)(x:ByteArray×ByteArray)(D:Ld)(b k:Nat)(B:List UInt8):dF (zG B x.1) (dL 1 (bL 1 (eZ (inr (bC .skip (gQ (eZ (inr (bC .skip (gQ (dC aB eN) 4) 2))) 6) 2))))) (bY 61 [(0,.c (.ptr 0 0)),(3,.c (.ptr 1 0)),(5,.c (.ptr 2 0)),(7,.c (.ptr 3 0)),(17,.c (.sl 4 7 0 D.M.length)),(18,iV D.M.length),(19,iV i),(37,aU aN 2 p.L),(38,iV p.L.length),(39,iV j)] [.pin 5 b,.cells 65 [.sl 6 1 0 k],.cells 31 [.p (.i .i64 p.kd),.p (.s p.ru),.p (.i .i64 p.ve),.p (bO aN 2 p.L),.p (.i .i64 p.st),.p (.i .i64 p.se),.p (.s p.to)],.cells 56 [.p (.s x.1),.p (.s x.2)],.row 31 7 D.M.length (aO aG D.M),.cells 86 [.sl 4 7 0 D.M.length,.mp 7,.mp 8],.row 5 1 k (aO bI B),.mapb (bJ aB 81) D.gp,.mapl (bJ aB 79) 3 1 D.gs none]) (gP [0] (fJ 61 [0,3,5,7,17,18,19,37,38,39]) (bK aB eN))=Tr.rq
 ((k=B.length∧k=B.length∧∀(e o:Nat),e<B.length→o<1→aO bI B e o=aO bI B e o)∧x.fst=x.fst∧x.fst.size≤140737488355328∧(B++dI x.fst).length≤140737488355328)
 (.done .normal
 (bY 61 [(0,.c (.ptr 0 0)),(3,.c (.ptr 1 0)),(5,.c (.ptr 2 0)),(7,.c (.ptr 3 0)),(17,.c (.sl 4 7 0 D.M.length)),(18,.c (.p (.i .i64 (↑D.M.length:Int)))),(19,.c (.p (.i .i64 (↑i:Int)))),(37,.c (.p (.l 2 p.L.length (aE aN p.L)))),(38,.c (.p (.i .i64 (↑p.L.length:Int)))),(39,.c (.p (.i .i64 (↑j:Int))))] [.pin 5 b,.cells 65 [.sl 6 1 0 (B++dI x.fst).length],.cells 31 [.p (.i .i64 p.kd),.p (.s p.ru),.p (.i .i64 p.ve),.p (.l 2 p.L.length (aE aN p.L)),.p (.i .i64 p.st),.p (.i .i64 p.se),.p (.s p.to)],.cells 56 [.p (.s x.fst),.p (.s x.snd)],.row 31 7 D.M.length fun e o=>bQ [0,1,2,3,4,5,11,7,8] (aO aG D.M e o),.cells 86 [.sl 4 7 0 D.M.length,.mp 7,.mp 8],.row 5 1 (B++dI x.fst).length fun e o=>bQ [0,1,2,3,4,5,11,7,8] (C.p (PV.i bF (↑((B++dI x.fst).getD e default).toNat:Int))),.mapb (bJ aB 81) D.gp,.mapl (bJ aB 79) 3 1 D.gs none])):=by kernel_rfl
theorem aPR(i j:Nat)(p:Pg)(x:ByteArray×ByteArray)(D:Ld)(b k:Nat)(B:List UInt8):dF (zG B x.2) (bL 2 (eZ (inr (bC .skip (gQ (eZ (inr (bC .skip (gQ (dC aB eN) 4) 2))) 6) 2)))) (bY 61 [(0,.c (.ptr 0 0)),(3,.c (.ptr 1 0)),(5,.c (.ptr 2 0)),(7,.c (.ptr 3 0)),(17,.c (.sl 4 7 0 D.M.length)),(18,iV D.M.length),(19,iV i),(37,aU aN 2 p.L),(38,iV p.L.length),(39,iV j)] [.pin 5 b,.cells 65 [.sl 6 1 0 k],.cells 31 [.p (.i .i64 p.kd),.p (.s p.ru),.p (.i .i64 p.ve),.p (bO aN 2 p.L),.p (.i .i64 p.st),.p (.i .i64 p.se),.p (.s p.to)],.cells 56 [.p (.s x.1),.p (.s x.2)],.row 31 7 D.M.length (aO aG D.M),.cells 86 [.sl 4 7 0 D.M.length,.mp 7,.mp 8],.row 5 1 k (aO bI B),.mapb (bJ aB 81) D.gp,.mapl (bJ aB 79) 3 1 D.gs none]) (gP [0] (fJ 61 [0,3,5,17,18,19,37,38,39]) (bK aB eN))=Tr.rq
 ((k=B.length∧k=B.length∧∀(e o:Nat),e<B.length→o<1→aO bI B e o=aO bI B e o)∧x.snd=x.snd∧x.snd.size≤140737488355328∧(B++dI x.snd).length≤140737488355328)
 (.done .normal
 (bY 61 [(0,.c (.ptr 0 0)),(3,.c (.ptr 1 0)),(5,.c (.ptr 2 0)),(17,.c (.sl 3 7 0 D.M.length)),(18,.c (.p (.i .i64 (↑D.M.length:Int)))),(19,.c (.p (.i .i64 (↑i:Int)))),(37,.c (.p (.l 2 p.L.length (aE aN p.L)))),(38,.c (.p (.i .i64 (↑p.L.length:Int)))),(39,.c (.p (.i .i64 (↑j:Int))))] [.pin 4 b,.cells 65 [.sl 5 1 0 (B++dI x.snd).length],.cells 31 [.p (.i .i64 p.kd),.p (.s p.ru),.p (.i .i64 p.ve),.p (.l 2 p.L.length (aE aN p.L)),.p (.i .i64 p.st),.p (.i .i64 p.se),.p (.s p.to)],.row 31 7 D.M.length fun e o=>bQ [0,1,2,4,5,11,7,8] (aO aG D.M e o),.cells 86 [.sl 3 7 0 D.M.length,.mp 6,.mp 7],.row 5 1 (B++dI x.snd).length fun e o=>bQ [0,1,2,4,5,11,7,8] (C.p (PV.i bF (↑((B++dI x.snd).getD e default).toNat:Int))),.mapb (bJ aB 81) D.gp,.mapl (bJ aB 79) 3 1 D.gs none])):=by kernel_rfl
theorem aPQ(i j:Nat)(p:Pg)(D:Ld)(b k:Nat)(B:List UInt8):dF fH (bL 3 (gQ (eZ (inr (bC .skip (gQ (dC aB eN) 4) 2))) 6)) (bY 61 [(0,.c (.ptr 0 0)),(3,.c (.ptr 1 0)),(5,.c (.ptr 2 0)),(17,.c (.sl 3 7 0 D.M.length)),(18,iV D.M.length),(19,iV i),(37,aU aN 2 p.L),(38,iV p.L.length),(39,iV j)] [.pin 4 b,.cells 65 [.sl 5 1 0 k],.cells 31 [.p (.i .i64 p.kd),.p (.s p.ru),.p (.i .i64 p.ve),.p (bO aN 2 p.L),.p (.i .i64 p.st),.p (.i .i64 p.se),.p (.s p.to)],.row 31 7 D.M.length (aO aG D.M),.cells 86 [.sl 3 7 0 D.M.length,.mp 6,.mp 7],.row 5 1 k (aO bI B),.mapb (bJ aB 81) D.gp,.mapl (bJ aB 79) 3 1 D.gs none]) (gP [0] (fJ 61 [0,3,5,17,18,19,37,38,39]) (bK aB eN))=Tr.rq (eW aC ((↑j:Int)+1))
 (.done .normal
 (bY 61 [(0,.c (.ptr 0 0)),(3,.c (.ptr 1 0)),(5,.c (.ptr 2 0)),(17,.c (.sl 3 7 0 D.M.length)),(18,.c (.p (.i .i64 (↑D.M.length:Int)))),(19,.c (.p (.i .i64 (↑i:Int)))),(37,.c (.p (.l 2 p.L.length (aE aN p.L)))),(38,.c (.p (.i .i64 (↑p.L.length:Int)))),(39,.c (.p (.i .i64 ((↑j:Int)+1))))] [.pin 4 b,.cells 65 [.sl 5 1 0 k],.cells 31 [.p (.i .i64 p.kd),.p (.s p.ru),.p (.i .i64 p.ve),.p (.l 2 p.L.length (aE aN p.L)),.p (.i .i64 p.st),.p (.i .i64 p.se),.p (.s p.to)],.row 31 7 D.M.length fun e o=>bQ [0,1,2,3,4,5,6,7] (aO aG D.M e o),.cells 86 [.sl 3 7 0 D.M.length,.mp 6,.mp 7],.row 5 1 k fun e o=>bQ [0,1,2,3,4,5,6,7] (aO bI B e o),.mapb (bJ aB 81) D.gp,.mapl (bJ aB 79) 3 1 D.gs none])):=by kernel_rfl
theorem aPP(i:Nat)(p:Pg)(D:Ld)(b k:Nat)(B:List UInt8):dF (sG B p.st) (dL 1 (bL 7 (eZ (inr (bC .skip (gQ (dC aB eN) 4) 2))))) (bY 61 [(0,.c (.ptr 0 0)),(3,.c (.ptr 1 0)),(5,.c (.ptr 2 0)),(17,.c (.sl 3 7 0 D.M.length)),(18,iV D.M.length),(19,iV i)] [.pin 4 b,.cells 65 [.sl 5 1 0 k],.cells 31 [.p (.i .i64 p.kd),.p (.s p.ru),.p (.i .i64 p.ve),.p (bO aN 2 p.L),.p (.i .i64 p.st),.p (.i .i64 p.se),.p (.s p.to)],.row 31 7 D.M.length (aO aG D.M),.cells 86 [.sl 3 7 0 D.M.length,.mp 6,.mp 7],.row 5 1 k (aO bI B),.mapb (bJ aB 81) D.gp,.mapl (bJ aB 79) 3 1 D.gs none]) (gP [0] (fJ 61 [0,3,5,17,18,19]) (bK aB eN))=Tr.rq ((k=B.length∧k=B.length∧∀(e o:Nat),e<B.length→o<1→aO bI B e o=aO bI B e o)∧p.st=p.st∧eW aC p.st∧(B++bR p.st).length≤140737488355328)
 (.done .normal
 (bY 61 [(0,.c (.ptr 0 0)),(3,.c (.ptr 1 0)),(5,.c (.ptr 2 0)),(17,.c (.sl 3 7 0 D.M.length)),(18,.c (.p (.i .i64 (↑D.M.length:Int)))),(19,.c (.p (.i .i64 (↑i:Int))))] [.pin 4 b,.cells 65 [.sl 5 1 0 (B++bR p.st).length],.cells 31 [.p (.i .i64 p.kd),.p (.s p.ru),.p (.i .i64 p.ve),.p (.l 2 p.L.length (aE aN p.L)),.p (.i .i64 p.st),.p (.i .i64 p.se),.p (.s p.to)],.row 31 7 D.M.length fun e o=>bQ [0,1,2,3,4,10,6,7] (aO aG D.M e o),.cells 86 [.sl 3 7 0 D.M.length,.mp 6,.mp 7],.row 5 1 (B++bR p.st).length fun e o=>bQ [0,1,2,3,4,10,6,7] (C.p (PV.i bF (↑((B++bR p.st).getD e default).toNat:Int))),.mapb (bJ aB 81) D.gp,.mapl (bJ aB 79) 3 1 D.gs none])):=by kernel_rfl
theorem aPO(i:Nat)(p:Pg)(D:Ld)(b k:Nat)(B:List UInt8):dF (sG B p.se) (dL 1 (bL 8 (eZ (inr (bC .skip (gQ (dC aB eN) 4) 2))))) (bY 61 [(0,.c (.ptr 0 0)),(3,.c (.ptr 1 0)),(5,.c (.ptr 2 0)),(17,.c (.sl 3 7 0 D.M.length)),(18,iV D.M.length),(19,iV i)] [.pin 4 b,.cells 65 [.sl 5 1 0 k],.cells 31 [.p (.i .i64 p.kd),.p (.s p.ru),.p (.i .i64 p.ve),.p (bO aN 2 p.L),.p (.i .i64 p.st),.p (.i .i64 p.se),.p (.s p.to)],.row 31 7 D.M.length (aO aG D.M),.cells 86 [.sl 3 7 0 D.M.length,.mp 6,.mp 7],.row 5 1 k (aO bI B),.mapb (bJ aB 81) D.gp,.mapl (bJ aB 79) 3 1 D.gs none]) (gP [0] (fJ 61 [0,3,5,17,18,19]) (bK aB eN))=Tr.rq ((k=B.length∧k=B.length∧∀(e o:Nat),e<B.length→o<1→aO bI B e o=aO bI B e o)∧p.se=p.se∧eW aC p.se∧(B++bR p.se).length≤140737488355328)
 (.done .normal
 (bY 61 [(0,.c (.ptr 0 0)),(3,.c (.ptr 1 0)),(5,.c (.ptr 2 0)),(17,.c (.sl 3 7 0 D.M.length)),(18,.c (.p (.i .i64 (↑D.M.length:Int)))),(19,.c (.p (.i .i64 (↑i:Int))))] [.pin 4 b,.cells 65 [.sl 5 1 0 (B++bR p.se).length],.cells 31 [.p (.i .i64 p.kd),.p (.s p.ru),.p (.i .i64 p.ve),.p (.l 2 p.L.length (aE aN p.L)),.p (.i .i64 p.st),.p (.i .i64 p.se),.p (.s p.to)],.row 31 7 D.M.length fun e o=>bQ [0,1,2,3,4,10,6,7] (aO aG D.M e o),.cells 86 [.sl 3 7 0 D.M.length,.mp 6,.mp 7],.row 5 1 (B++bR p.se).length fun e o=>bQ [0,1,2,3,4,10,6,7] (C.p (PV.i bF (↑((B++bR p.se).getD e default).toNat:Int))),.mapb (bJ aB 81) D.gp,.mapl (bJ aB 79) 3 1 D.gs none])):=by kernel_rfl
theorem aPN(i:Nat)(p:Pg)(D:Ld)(b k:Nat)(B:List UInt8):dF (zG B p.to) (bL 9 (eZ (inr (bC .skip (gQ (dC aB eN) 4) 2)))) (bY 61 [(0,.c (.ptr 0 0)),(3,.c (.ptr 1 0)),(5,.c (.ptr 2 0)),(17,.c (.sl 3 7 0 D.M.length)),(18,iV D.M.length),(19,iV i)] [.pin 4 b,.cells 65 [.sl 5 1 0 k],.cells 31 [.p (.i .i64 p.kd),.p (.s p.ru),.p (.i .i64 p.ve),.p (bO aN 2 p.L),.p (.i .i64 p.st),.p (.i .i64 p.se),.p (.s p.to)],.row 31 7 D.M.length (aO aG D.M),.cells 86 [.sl 3 7 0 D.M.length,.mp 6,.mp 7],.row 5 1 k (aO bI B),.mapb (bJ aB 81) D.gp,.mapl (bJ aB 79) 3 1 D.gs none]) (gP [0] (fJ 61 [0,3,17,18,19]) (bK aB eN))=Tr.rq ((k=B.length∧k=B.length∧∀(e o:Nat),e<B.length→o<1→aO bI B e o=aO bI B e o)∧p.to=p.to∧p.to.size≤140737488355328∧(B++dI p.to).length≤140737488355328)
 (.done .normal
 (bY 61 [(0,.c (.ptr 0 0)),(3,.c (.ptr 1 0)),(17,.c (.sl 2 7 0 D.M.length)),(18,.c (.p (.i .i64 (↑D.M.length:Int)))),(19,.c (.p (.i .i64 (↑i:Int))))] [.pin 3 b,.cells 65 [.sl 4 1 0 (B++dI p.to).length],.row 31 7 D.M.length fun e o=>bQ [0,1,3,4,10,6,7] (aO aG D.M e o),.cells 86 [.sl 2 7 0 D.M.length,.mp 5,.mp 6],.row 5 1 (B++dI p.to).length fun e o=>bQ [0,1,3,4,10,6,7] (C.p (PV.i bF (↑((B++dI p.to).getD e default).toNat:Int))),.mapb (bJ aB 81) D.gp,.mapl (bJ aB 79) 3 1 D.gs none])):=by kernel_rfl
theorem aPM(i:Nat)(D:Ld)(b k:Nat)(B:List UInt8):dF fH (bL 3 (gQ (dC aB eN) 4)) (bY 61 [(0,.c (.ptr 0 0)),(3,.c (.ptr 1 0)),(17,.c (.sl 2 7 0 D.M.length)),(18,iV D.M.length),(19,iV i)] [.pin 3 b,.cells 65 [.sl 4 1 0 k],.row 31 7 D.M.length (aO aG D.M),.cells 86 [.sl 2 7 0 D.M.length,.mp 5,.mp 6],.row 5 1 k (aO bI B),.mapb (bJ aB 81) D.gp,.mapl (bJ aB 79) 3 1 D.gs none]) (gP [0] (fJ 61 [0,3,17,18,19]) (bK aB eN))=Tr.rq (eW aC ((↑i:Int)+1))
 (.done .normal
 (bY 61 [(0,.c (.ptr 0 0)),(3,.c (.ptr 1 0)),(17,.c (.sl 2 7 0 D.M.length)),(18,.c (.p (.i .i64 (↑D.M.length:Int)))),(19,.c (.p (.i .i64 ((↑i:Int)+1))))] [.pin 3 b,.cells 65 [.sl 4 1 0 k],.row 31 7 D.M.length fun e o=>bQ [0,1,2,3,4,5,6] (aO aG D.M e o),.cells 86 [.sl 2 7 0 D.M.length,.mp 5,.mp 6],.row 5 1 k fun e o=>bQ [0,1,2,3,4,5,6] (aO bI B e o),.mapb (bJ aB 81) D.gp,.mapl (bJ aB 79) 3 1 D.gs none])):=by kernel_rfl
theorem aPL(i:Nat)(D:Ld)(b k:Nat)(B:List UInt8):dF (aKT B) (bL 5 (dC aB eN)) (bY 61 [(0,.c (.ptr 0 0)),(3,.c (.ptr 1 0)),(17,.c (.sl 2 7 0 D.M.length)),(18,iV D.M.length),(19,iV i)] [.pin 3 b,.cells 65 [.sl 4 1 0 k],.row 31 7 D.M.length (aO aG D.M),.cells 86 [.sl 2 7 0 D.M.length,.mp 5,.mp 6],.row 5 1 k (aO bI B),.mapb (bJ aB 81) D.gp,.mapl (bJ aB 79) 3 1 D.gs none]) (gP [0] [] (bK aB eN))=Tr.rq ((k=B.length∧k=B.length∧∀(e o:Nat),e<B.length→o<1→aO bI B e o=aO bI B e o)∧B.length≤140737488355328)
 (.done .ret
 (bY 2 [(0,.c (.ptr 0 0)),(1,.c (.p (.l 1 B.length (aE bI B))))] [.pin 1 b,.cells 86 [.sl 2 7 0 D.M.length,.mp 3,.mp 4],.row 31 7 D.M.length fun e o=>bQ [0,3,2,5,6] (aO aG D.M e o),.mapb (bJ aB 81) D.gp,.mapl (bJ aB 79) 3 1 D.gs none])):=by kernel_rfl
theorem qX(s:ByteArray):s.size≤(dI s).length:=by
 unfold dI
 have:s.data.toList.length=s.size:=by rw[jD];rfl
 rw[aL];omega
theorem qF:∀(A C:List Pg),lU (A++C)=lU A++lU C
 |[],C=>rfl
 |p::A,C=>by
  show CZ p++lU (A++C)=(CZ p++lU A)++lU C
  rw[qF A C,cF]
theorem tK:∀(A C:List (ByteArray×ByteArray)),mQ (A++C)=mQ A++mQ C
 |[],C=>rfl
 |p::A,C=>by
  show (dI p.1++dI p.2)++mQ (A++C)=((dI p.1++dI p.2)++mQ A)++mQ C
  rw[tK A C,cF (dI p.1++dI p.2)]
theorem pW{α:Type}[Inhabited α](L:List α){i:Nat}(h:i<L.length):L.take (i+1)=L.take i++[L.getD i default]:=by
 rw[List.take_add_one,aD,aK h];rfl
section
variable {G:Nat→Option Obj}
theorem jX(B:List UInt8)(m:Int):bG aB G (sG B m):=eM (by simp;exact aNC B m)
theorem lW(B:List UInt8)(m:ByteArray):bG aB G (zG B m):=eM (by simp;exact aI6 B m)
theorem PH(B:List UInt8):bG aB G (aKT B):=eM (by simp;exact WK B)
set_option maxRecDepth 100000 in
set_option maxHeartbeats 1000000 in
theorem aFJ(D:Ld)(hM:∀p∈D.M,KL p)(hMl:D.M.length≤1000000)(hB:(lI D.M).length≤140737488355328)(b:Nat)(Q:X→St→Prop):eP aB G (Zm [0] (bK aB eN) fun s=>cW G s ⟨[.c (.ptr 0 0)]++[aU bI 1 (lI D.M)],pA D b⟩) (dC aB eN) (jR eN [0,1,2,3] [0] [b] [.c (.ptr 0 0)] (mL D [])) Q:=by
 refine eP.evG aY 2 (aT5 D b) ?_;simp only[aP,cI]
 refine⟨eP.pre ((vP 5 1 (aO bI []) (id:=1) (k:=0) (t0:=65) (vs:=[.p (.z (.slice none 0 0))]) (by kernel_rfl) (by kernel_rfl)).trans ((gB (fJ 61 [0,3]) _).trans (aI (st':=(fun k B=>bY 61 [(0,.c (.ptr 0 0)),(3,.c (.ptr 1 0))] [.pin 2 b,.cells 65 [.sl 3 1 0 k],.cells 86 [.sl 4 7 0 D.M.length,.mp 5,.mp 6],.row 5 1 k (aO bI B),.row 31 7 D.M.length (aO aG D.M),.mapb (bJ aB 81) D.gp,.mapl (bJ aB 79) 3 1 D.gs none]) 0 []) (by kernel_rfl)))) ?_⟩
 have hnB:(bR (D.M.length:Int)).length≤140737488355328:=by unfold lI at hB;rw[aL]at hB;omega
 refine eP.evG (jX [] D.M.length) 1 (aT4 D b 0 []) ?_;simp only[bA,aP,cI]
 refine⟨⟨⟨rfl,rfl,fun _ _ _ _=>trivial⟩,trivial,by simp only[eW];omega,by simpa using hnB⟩,⟨eP.pre (aI (st':=(fun k B=>bY 61 [(0,.c (.ptr 0 0)),(3,.c (.ptr 1 0))] [.pin 2 b,.cells 65 [.sl 3 1 0 k],.cells 86 [.sl 4 7 0 D.M.length,.mp 5,.mp 6],.row 5 1 k (aO bI B),.row 31 7 D.M.length (aO aG D.M),.mapb (bJ aB 81) D.gp,.mapl (bJ aB 79) 3 1 D.gs none]) (bR (D.M.length:Int)).length (bR (D.M.length:Int))) (by kernel_rfl)) ?_⟩⟩
 refine eP.evG aY 1 (aT3 D b (bR (D.M.length:Int)).length (bR (D.M.length:Int))) ?_;simp only[aP,cI];refine⟨?_⟩
 refine eP.loop' (l:=bL 1 (bL 3 (dC aB eN))) (id:=0) (b:=inr (inr (bC .skip (dC aB eN) 4))) (r:=bL 5 (dC aB eN)) (by kernel_rfl) (σ:=Nat)
   (fun i=>(fun k B=>bY 61 [(0,.c (.ptr 0 0)),(3,.c (.ptr 1 0)),(17,.c (.sl 2 7 0 D.M.length)),(18,iV D.M.length),(19,iV i)] [.pin 3 b,.cells 65 [.sl 4 1 0 k],.row 31 7 D.M.length (aO aG D.M),.cells 86 [.sl 2 7 0 D.M.length,.mp 5,.mp 6],.row 5 1 k (aO bI B),.mapb (bJ aB 81) D.gp,.mapl (bJ aB 79) 3 1 D.gs none]) (bR (D.M.length:Int)++lU (D.M.take i)).length (bR (D.M.length:Int)++lU (D.M.take i))) (fun i=>i≤D.M.length) (fun i=>D.M.length-i) 0 (bX _) (aI ?_) ?_
 ·show _=(fun(i k:Nat) B=>bY 61 [(0,.c (.ptr 0 0)),(3,.c (.ptr 1 0)),(17,.c (.sl 2 7 0 D.M.length)),(18,iV D.M.length),(19,iV i)] [.pin 3 b,.cells 65 [.sl 4 1 0 k],.row 31 7 D.M.length (aO aG D.M),.cells 86 [.sl 2 7 0 D.M.length,.mp 5,.mp 6],.row 5 1 k (aO bI B),.mapb (bJ aB 81) D.gp,.mapl (bJ aB 79) 3 1 D.gs none]) 0 (bR (D.M.length:Int)++lU (D.M.take 0)).length (bR (D.M.length:Int)++lU (D.M.take 0))
  have e:bR (D.M.length:Int)++lU (D.M.take 0)=bR (D.M.length:Int):=eX _
  rw[e];refine Eq.symm ?_
  kernel_rfl
 intro i hi Q1 q1n q1e _
 obtain⟨B0,hB0⟩:∃B0,bR (D.M.length:Int)++lU (D.M.take i)=B0:=⟨_,rfl⟩
 rw[hB0]
 have htot:B0.length+(lU (D.M.drop i)).length=(lI D.M).length:=by
  rw[←hB0,aL,iL,←aL,←qF,fL];unfold lI;rw[aL]
 refine eP.evG aY 2 (aT2 i D b B0.length B0) ?_;simp only[cD,aP,cI,mU,decide_eq_true_eq,decide_eq_false_iff_not];refine⟨fun h1=>⟨?_⟩,fun h1=>⟨q1e _ ?_⟩⟩
 ·have hlt:i<D.M.length:=by omega
  have hpm:D.M.getD i default∈D.M:=by rw[aD,aK hlt];exact jQ hlt
  have hsn:=pW D.M hlt
  have hdr:D.M.drop i=D.M.getD i default::D.M.drop (i+1):=by rw[aD,aK hlt];exact dG hlt
  rw[hdr]at htot
  refine eP.blk' (l:=bL 2 (gQ (dC aB eN) 4)) (id:=1) (a:=inr (bC .skip (gQ (dC aB eN) 4) 2)) (r:=bL 3 (gQ (dC aB eN) 4)) (by kernel_rfl) ?_
  intro Q2 q2n q2e _
  refine eP.pre (aI (st':=(fun k B=>bY 61 [(0,.c (.ptr 0 0)),(3,.c (.ptr 1 0)),(17,.c (.sl 2 7 0 D.M.length)),(18,iV D.M.length),(19,iV i)] [.pin 3 b,.cells 65 [.sl 4 1 0 k],.row 31 7 D.M.length (aO aG D.M),.cells 86 [.sl 2 7 0 D.M.length,.mp 5,.mp 6],.row 5 1 k (aO bI B),.mapb (bJ aB 81) D.gp,.mapl (bJ aB 79) 3 1 D.gs none]) B0.length B0) (by kernel_rfl)) (eP.evG aY 1 (aT1 i D b B0.length B0) ?_)
  simp only[bA,aP,cI,show (↑i:Int).toNat=i from rfl,Nat.add_zero]
  generalize D.M.getD i default=p at hpm hsn htot ⊢
  obtain⟨p1,p2,p3⟩:=hM p hpm;obtain⟨g1,g2,g3,g4,g5,g6⟩:=iP.1 p1
  have gL:=(kV g3).1
  have gst:=nU g4
  have gse:=nU g5
  have htot:B0.length+(CZ p++lU (D.M.drop (i+1))).length=(lI D.M).length:=htot
  have hpl:(CZ p).length=(bR p.kd).length+(dI p.ru).length+(bR p.ve).length+(bR p.L.length).length+(mQ p.L).length+(bR p.st).length+(bR p.se).length+(dI p.to).length:=by unfold CZ;simp only[aL]
  rw[aL,hpl]at htot
  have zr:=qX p.ru
  have zt:=qX p.to
  refine⟨⟨by omega,by omega⟩,by omega,⟨eP.pre (aI (st':=(fun k B=>bY 61 [(0,.c (.ptr 0 0)),(3,.c (.ptr 1 0)),(5,.c (.ptr 2 0)),(17,.c (.sl 3 7 0 D.M.length)),(18,iV D.M.length),(19,iV i)] [.pin 4 b,.cells 65 [.sl 5 1 0 k],.cells 31 [.p (.i .i64 p.kd),.p (.s p.ru),.p (.i .i64 p.ve),.p (bO aN 2 p.L),.p (.i .i64 p.st),.p (.i .i64 p.se),.p (.s p.to)],.row 31 7 D.M.length (aO aG D.M),.cells 86 [.sl 3 7 0 D.M.length,.mp 6,.mp 7],.row 5 1 k (aO bI B),.mapb (bJ aB 81) D.gp,.mapl (bJ aB 79) 3 1 D.gs none]) B0.length B0) (by kernel_rfl)) ?_⟩⟩
  refine eP.evG (jX (B0) p.kd) 1 (aT0 i p D b (B0).length (B0)) ?_;simp only[bA,aP,cI]
  refine⟨⟨⟨trivial,trivial,fun _ _ _ _=>trivial⟩,trivial,(by simp only[eW];omega),by simp only[aL];omega⟩,⟨eP.pre (aI (st':=(fun k B=>bY 61 [(0,.c (.ptr 0 0)),(3,.c (.ptr 1 0)),(5,.c (.ptr 2 0)),(17,.c (.sl 3 7 0 D.M.length)),(18,iV D.M.length),(19,iV i)] [.pin 4 b,.cells 65 [.sl 5 1 0 k],.cells 31 [.p (.i .i64 p.kd),.p (.s p.ru),.p (.i .i64 p.ve),.p (bO aN 2 p.L),.p (.i .i64 p.st),.p (.i .i64 p.se),.p (.s p.to)],.row 31 7 D.M.length (aO aG D.M),.cells 86 [.sl 3 7 0 D.M.length,.mp 6,.mp 7],.row 5 1 k (aO bI B),.mapb (bJ aB 81) D.gp,.mapl (bJ aB 79) 3 1 D.gs none]) (B0++bR p.kd).length (B0++bR p.kd)) (by kernel_rfl)) ?_⟩⟩
  refine eP.evG (lW ((B0++bR p.kd)) p.ru) 1 (aSZ i p D b ((B0++bR p.kd)).length ((B0++bR p.kd))) ?_;simp only[bA,aP,cI]
  refine⟨⟨⟨trivial,trivial,fun _ _ _ _=>trivial⟩,trivial,(by omega),by simp only[aL];omega⟩,⟨eP.pre (aI (st':=(fun k B=>bY 61 [(0,.c (.ptr 0 0)),(3,.c (.ptr 1 0)),(5,.c (.ptr 2 0)),(17,.c (.sl 3 7 0 D.M.length)),(18,iV D.M.length),(19,iV i)] [.pin 4 b,.cells 65 [.sl 5 1 0 k],.cells 31 [.p (.i .i64 p.kd),.p (.s p.ru),.p (.i .i64 p.ve),.p (bO aN 2 p.L),.p (.i .i64 p.st),.p (.i .i64 p.se),.p (.s p.to)],.row 31 7 D.M.length (aO aG D.M),.cells 86 [.sl 3 7 0 D.M.length,.mp 6,.mp 7],.row 5 1 k (aO bI B),.mapb (bJ aB 81) D.gp,.mapl (bJ aB 79) 3 1 D.gs none]) ((B0++bR p.kd)++dI p.ru).length ((B0++bR p.kd)++dI p.ru)) (by kernel_rfl)) ?_⟩⟩
  refine eP.evG (jX (((B0++bR p.kd)++dI p.ru)) p.ve) 1 (aSY i p D b (((B0++bR p.kd)++dI p.ru)).length (((B0++bR p.kd)++dI p.ru))) ?_;simp only[bA,aP,cI]
  refine⟨⟨⟨trivial,trivial,fun _ _ _ _=>trivial⟩,trivial,p2,by simp only[aL];omega⟩,⟨eP.pre (aI (st':=(fun k B=>bY 61 [(0,.c (.ptr 0 0)),(3,.c (.ptr 1 0)),(5,.c (.ptr 2 0)),(17,.c (.sl 3 7 0 D.M.length)),(18,iV D.M.length),(19,iV i)] [.pin 4 b,.cells 65 [.sl 5 1 0 k],.cells 31 [.p (.i .i64 p.kd),.p (.s p.ru),.p (.i .i64 p.ve),.p (bO aN 2 p.L),.p (.i .i64 p.st),.p (.i .i64 p.se),.p (.s p.to)],.row 31 7 D.M.length (aO aG D.M),.cells 86 [.sl 3 7 0 D.M.length,.mp 6,.mp 7],.row 5 1 k (aO bI B),.mapb (bJ aB 81) D.gp,.mapl (bJ aB 79) 3 1 D.gs none]) (((B0++bR p.kd)++dI p.ru)++bR p.ve).length (((B0++bR p.kd)++dI p.ru)++bR p.ve)) (by kernel_rfl)) ?_⟩⟩
  refine eP.evG (jX ((((B0++bR p.kd)++dI p.ru)++bR p.ve)) p.L.length) 1 (aSX i p D b ((((B0++bR p.kd)++dI p.ru)++bR p.ve)).length ((((B0++bR p.kd)++dI p.ru)++bR p.ve))) ?_;simp only[bA,aP,cI]
  refine⟨⟨⟨trivial,trivial,fun _ _ _ _=>trivial⟩,trivial,(by simp only[eW];omega),by simp only[aL];omega⟩,⟨eP.pre (aI (st':=(fun k B=>bY 61 [(0,.c (.ptr 0 0)),(3,.c (.ptr 1 0)),(5,.c (.ptr 2 0)),(17,.c (.sl 3 7 0 D.M.length)),(18,iV D.M.length),(19,iV i)] [.pin 4 b,.cells 65 [.sl 5 1 0 k],.cells 31 [.p (.i .i64 p.kd),.p (.s p.ru),.p (.i .i64 p.ve),.p (bO aN 2 p.L),.p (.i .i64 p.st),.p (.i .i64 p.se),.p (.s p.to)],.row 31 7 D.M.length (aO aG D.M),.cells 86 [.sl 3 7 0 D.M.length,.mp 6,.mp 7],.row 5 1 k (aO bI B),.mapb (bJ aB 81) D.gp,.mapl (bJ aB 79) 3 1 D.gs none]) ((((B0++bR p.kd)++dI p.ru)++bR p.ve)++bR p.L.length).length ((((B0++bR p.kd)++dI p.ru)++bR p.ve)++bR p.L.length)) (by kernel_rfl)) ?_⟩⟩
  obtain⟨B4,hB4⟩:∃B4,((((B0++bR p.kd)++dI p.ru)++bR p.ve)++bR p.L.length)=B4:=⟨_,rfl⟩
  have hB4l:B4.length=B0.length+(bR p.kd).length+(dI p.ru).length+(bR p.ve).length+(bR p.L.length).length:=by rw[←hB4];simp only[aL]
  rw[hB4];refine eP.evG aY 1 (aSW i p D b B4.length B4) ?_;simp only[aP,cI];refine⟨?_⟩
  refine eP.loop' (l:=bL 1 (bL 5 (eZ (inr (bC .skip (gQ (dC aB eN) 4) 2))))) (id:=2) (b:=inr (inr (bC .skip (eZ (inr (bC .skip (gQ (dC aB eN) 4) 2))) 6))) (r:=bL 7 (eZ (inr (bC .skip (gQ (dC aB eN) 4) 2)))) (by kernel_rfl) (σ:=Nat)
    (fun j=>(fun k B=>bY 61 [(0,.c (.ptr 0 0)),(3,.c (.ptr 1 0)),(5,.c (.ptr 2 0)),(17,.c (.sl 3 7 0 D.M.length)),(18,iV D.M.length),(19,iV i),(37,aU aN 2 p.L),(38,iV p.L.length),(39,iV j)] [.pin 4 b,.cells 65 [.sl 5 1 0 k],.cells 31 [.p (.i .i64 p.kd),.p (.s p.ru),.p (.i .i64 p.ve),.p (bO aN 2 p.L),.p (.i .i64 p.st),.p (.i .i64 p.se),.p (.s p.to)],.row 31 7 D.M.length (aO aG D.M),.cells 86 [.sl 3 7 0 D.M.length,.mp 6,.mp 7],.row 5 1 k (aO bI B),.mapb (bJ aB 81) D.gp,.mapl (bJ aB 79) 3 1 D.gs none]) (B4++mQ (p.L.take j)).length (B4++mQ (p.L.take j))) (fun j=>j≤p.L.length) (fun j=>p.L.length-j) 0 (bX _) (aI ?_) ?_
  ·show _=(fun(j k:Nat) B=>bY 61 [(0,.c (.ptr 0 0)),(3,.c (.ptr 1 0)),(5,.c (.ptr 2 0)),(17,.c (.sl 3 7 0 D.M.length)),(18,iV D.M.length),(19,iV i),(37,aU aN 2 p.L),(38,iV p.L.length),(39,iV j)] [.pin 4 b,.cells 65 [.sl 5 1 0 k],.cells 31 [.p (.i .i64 p.kd),.p (.s p.ru),.p (.i .i64 p.ve),.p (bO aN 2 p.L),.p (.i .i64 p.st),.p (.i .i64 p.se),.p (.s p.to)],.row 31 7 D.M.length (aO aG D.M),.cells 86 [.sl 3 7 0 D.M.length,.mp 6,.mp 7],.row 5 1 k (aO bI B),.mapb (bJ aB 81) D.gp,.mapl (bJ aB 79) 3 1 D.gs none]) 0 (B4++mQ (p.L.take 0)).length (B4++mQ (p.L.take 0))
   have e:B4++mQ (p.L.take 0)=B4:=eX _
   rw[e];refine Eq.symm ?_
   kernel_rfl
  ·intro j hj Q3 q3n q3e _
   obtain⟨B5,hB5⟩:∃B5,B4++mQ (p.L.take j)=B5:=⟨_,rfl⟩
   rw[hB5]
   have hB5l:B5.length+(mQ (p.L.drop j)).length=B4.length+(mQ p.L).length:=by
    rw[←hB5,aL,iL,←aL,←tK,fL]
   refine eP.evG aY 2 (aPU i j p D b B5.length B5) ?_;simp only[cD,aP,cI,mU,decide_eq_true_eq,decide_eq_false_iff_not];refine⟨fun h2=>⟨?_⟩,fun h2=>⟨q3e _ ?_⟩⟩
   ·have hlj:j<p.L.length:=by omega
    have hsj:=pW p.L hlj
    have hdj:p.L.drop j=p.L.getD j default::p.L.drop (j+1):=by rw[aD,aK hlj];exact dG hlj
    rw[hdj]at hB5l
    refine eP.blk' (l:=bL 2 (gQ (eZ (inr (bC .skip (gQ (dC aB eN) 4) 2))) 6)) (id:=3) (a:=inr (bC .skip (gQ (eZ (inr (bC .skip (gQ (dC aB eN) 4) 2))) 6) 2)) (r:=bL 3 (gQ (eZ (inr (bC .skip (gQ (dC aB eN) 4) 2))) 6)) (by kernel_rfl) ?_
    intro Q4 q4n q4e _
    refine eP.pre (aI (st':=(fun k B=>bY 61 [(0,.c (.ptr 0 0)),(3,.c (.ptr 1 0)),(5,.c (.ptr 2 0)),(17,.c (.sl 3 7 0 D.M.length)),(18,iV D.M.length),(19,iV i),(37,aU aN 2 p.L),(38,iV p.L.length),(39,iV j)] [.pin 4 b,.cells 65 [.sl 5 1 0 k],.cells 31 [.p (.i .i64 p.kd),.p (.s p.ru),.p (.i .i64 p.ve),.p (bO aN 2 p.L),.p (.i .i64 p.st),.p (.i .i64 p.se),.p (.s p.to)],.row 31 7 D.M.length (aO aG D.M),.cells 86 [.sl 3 7 0 D.M.length,.mp 6,.mp 7],.row 5 1 k (aO bI B),.mapb (bJ aB 81) D.gp,.mapl (bJ aB 79) 3 1 D.gs none]) B5.length B5) (by kernel_rfl)) (eP.evG aY 1 (aPT i j p D b B5.length B5) ?_)
    simp only[bA,aP,cI,show (↑j:Int).toNat=j from rfl]
    generalize p.L.getD j default=x at hsj hB5l ⊢
    have hB5l:B5.length+((dI x.1++dI x.2)++mQ (p.L.drop (j+1))).length=B4.length+(mQ p.L).length:=hB5l
    simp only[aL]at hB5l
    have z1:=qX x.1
    have z2:=qX x.2
    refine⟨⟨by omega,by omega⟩,⟨eP.pre (aI (st':=(fun k B=>bY 61 [(0,.c (.ptr 0 0)),(3,.c (.ptr 1 0)),(5,.c (.ptr 2 0)),(7,.c (.ptr 3 0)),(17,.c (.sl 4 7 0 D.M.length)),(18,iV D.M.length),(19,iV i),(37,aU aN 2 p.L),(38,iV p.L.length),(39,iV j)] [.pin 5 b,.cells 65 [.sl 6 1 0 k],.cells 31 [.p (.i .i64 p.kd),.p (.s p.ru),.p (.i .i64 p.ve),.p (bO aN 2 p.L),.p (.i .i64 p.st),.p (.i .i64 p.se),.p (.s p.to)],.cells 56 [.p (.s x.1),.p (.s x.2)],.row 31 7 D.M.length (aO aG D.M),.cells 86 [.sl 4 7 0 D.M.length,.mp 7,.mp 8],.row 5 1 k (aO bI B),.mapb (bJ aB 81) D.gp,.mapl (bJ aB 79) 3 1 D.gs none]) B5.length B5) (by kernel_rfl)) ?_⟩⟩
    refine eP.evG (lW B5 x.1) 1 (aPS i j p x D b B5.length B5) ?_;simp only[bA,aP,cI]
    refine⟨⟨⟨trivial,trivial,fun _ _ _ _=>trivial⟩,trivial,by omega,by simp only[aL];omega⟩,⟨eP.pre (aI (st':=(fun k B=>bY 61 [(0,.c (.ptr 0 0)),(3,.c (.ptr 1 0)),(5,.c (.ptr 2 0)),(7,.c (.ptr 3 0)),(17,.c (.sl 4 7 0 D.M.length)),(18,iV D.M.length),(19,iV i),(37,aU aN 2 p.L),(38,iV p.L.length),(39,iV j)] [.pin 5 b,.cells 65 [.sl 6 1 0 k],.cells 31 [.p (.i .i64 p.kd),.p (.s p.ru),.p (.i .i64 p.ve),.p (bO aN 2 p.L),.p (.i .i64 p.st),.p (.i .i64 p.se),.p (.s p.to)],.cells 56 [.p (.s x.1),.p (.s x.2)],.row 31 7 D.M.length (aO aG D.M),.cells 86 [.sl 4 7 0 D.M.length,.mp 7,.mp 8],.row 5 1 k (aO bI B),.mapb (bJ aB 81) D.gp,.mapl (bJ aB 79) 3 1 D.gs none]) (B5++dI x.1).length (B5++dI x.1)) (by kernel_rfl)) ?_⟩⟩
    refine eP.evH (lW (B5++dI x.1) x.2) (aPR i j p x D b (B5++dI x.1).length (B5++dI x.1)) ?_;simp only[bA,aP,cI]
    refine⟨⟨⟨trivial,trivial,fun _ _ _ _=>trivial⟩,trivial,by omega,by simp only[aL];omega⟩,⟨q4n _ (eP.pre (aI (st':=(fun k B=>bY 61 [(0,.c (.ptr 0 0)),(3,.c (.ptr 1 0)),(5,.c (.ptr 2 0)),(17,.c (.sl 3 7 0 D.M.length)),(18,iV D.M.length),(19,iV i),(37,aU aN 2 p.L),(38,iV p.L.length),(39,iV j)] [.pin 4 b,.cells 65 [.sl 5 1 0 k],.cells 31 [.p (.i .i64 p.kd),.p (.s p.ru),.p (.i .i64 p.ve),.p (bO aN 2 p.L),.p (.i .i64 p.st),.p (.i .i64 p.se),.p (.s p.to)],.row 31 7 D.M.length (aO aG D.M),.cells 86 [.sl 3 7 0 D.M.length,.mp 6,.mp 7],.row 5 1 k (aO bI B),.mapb (bJ aB 81) D.gp,.mapl (bJ aB 79) 3 1 D.gs none]) ((B5++dI x.1)++dI x.2).length ((B5++dI x.1)++dI x.2)) (by kernel_rfl)) ?_)⟩⟩
    refine eP.evH aY (aPQ i j p D b ((B5++dI x.1)++dI x.2).length ((B5++dI x.1)++dI x.2)) ?_;simp only[bA,aP,cI,eW];refine⟨by omega,⟨q3n (j+1) _ (by omega) (by omega) ?_⟩⟩
    have e:B4++mQ (p.L.take (j+1))=(B5++dI x.1)++dI x.2:=by
     rw[hsj,tK,←cF,hB5]
     show B5++((dI x.1++dI x.2)++[])=_
     rw[eX,cF]
    rw[e]
    exact aI (by kernel_rfl)
   ·obtain rfl:j=p.L.length:=by omega
    rw[fF]at hB5
    have hB5l:B5.length=B4.length+(mQ p.L).length:=by rw[←hB5,aL]
    refine eP.pre ((gB (fJ 61 [0,3,5,17,18,19]) _).trans (aI (st':=(fun k B=>bY 61 [(0,.c (.ptr 0 0)),(3,.c (.ptr 1 0)),(5,.c (.ptr 2 0)),(17,.c (.sl 3 7 0 D.M.length)),(18,iV D.M.length),(19,iV i)] [.pin 4 b,.cells 65 [.sl 5 1 0 k],.cells 31 [.p (.i .i64 p.kd),.p (.s p.ru),.p (.i .i64 p.ve),.p (bO aN 2 p.L),.p (.i .i64 p.st),.p (.i .i64 p.se),.p (.s p.to)],.row 31 7 D.M.length (aO aG D.M),.cells 86 [.sl 3 7 0 D.M.length,.mp 6,.mp 7],.row 5 1 k (aO bI B),.mapb (bJ aB 81) D.gp,.mapl (bJ aB 79) 3 1 D.gs none]) B5.length B5) (by kernel_rfl))) ?_
    refine eP.evG (jX (B5) p.st) 1 (aPP i p D b (B5).length (B5)) ?_;simp only[bA,aP,cI]
    refine⟨⟨⟨trivial,trivial,fun _ _ _ _=>trivial⟩,trivial,gst,by simp only[aL];omega⟩,⟨eP.pre (aI (st':=(fun k B=>bY 61 [(0,.c (.ptr 0 0)),(3,.c (.ptr 1 0)),(5,.c (.ptr 2 0)),(17,.c (.sl 3 7 0 D.M.length)),(18,iV D.M.length),(19,iV i)] [.pin 4 b,.cells 65 [.sl 5 1 0 k],.cells 31 [.p (.i .i64 p.kd),.p (.s p.ru),.p (.i .i64 p.ve),.p (bO aN 2 p.L),.p (.i .i64 p.st),.p (.i .i64 p.se),.p (.s p.to)],.row 31 7 D.M.length (aO aG D.M),.cells 86 [.sl 3 7 0 D.M.length,.mp 6,.mp 7],.row 5 1 k (aO bI B),.mapb (bJ aB 81) D.gp,.mapl (bJ aB 79) 3 1 D.gs none]) (B5++bR p.st).length (B5++bR p.st)) (by kernel_rfl)) ?_⟩⟩
    refine eP.evG (jX ((B5++bR p.st)) p.se) 1 (aPO i p D b ((B5++bR p.st)).length ((B5++bR p.st))) ?_;simp only[bA,aP,cI]
    refine⟨⟨⟨trivial,trivial,fun _ _ _ _=>trivial⟩,trivial,gse,by simp only[aL];omega⟩,⟨eP.pre (aI (st':=(fun k B=>bY 61 [(0,.c (.ptr 0 0)),(3,.c (.ptr 1 0)),(5,.c (.ptr 2 0)),(17,.c (.sl 3 7 0 D.M.length)),(18,iV D.M.length),(19,iV i)] [.pin 4 b,.cells 65 [.sl 5 1 0 k],.cells 31 [.p (.i .i64 p.kd),.p (.s p.ru),.p (.i .i64 p.ve),.p (bO aN 2 p.L),.p (.i .i64 p.st),.p (.i .i64 p.se),.p (.s p.to)],.row 31 7 D.M.length (aO aG D.M),.cells 86 [.sl 3 7 0 D.M.length,.mp 6,.mp 7],.row 5 1 k (aO bI B),.mapb (bJ aB 81) D.gp,.mapl (bJ aB 79) 3 1 D.gs none]) ((B5++bR p.st)++bR p.se).length ((B5++bR p.st)++bR p.se)) (by kernel_rfl)) ?_⟩⟩
    refine eP.evH (lW ((B5++bR p.st)++bR p.se) p.to) (aPN i p D b ((B5++bR p.st)++bR p.se).length ((B5++bR p.st)++bR p.se)) ?_;simp only[bA,aP,cI]
    refine⟨⟨⟨trivial,trivial,fun _ _ _ _=>trivial⟩,trivial,by omega,by simp only[aL];omega⟩,⟨q2n _ (eP.pre (aI (st':=(fun k B=>bY 61 [(0,.c (.ptr 0 0)),(3,.c (.ptr 1 0)),(17,.c (.sl 2 7 0 D.M.length)),(18,iV D.M.length),(19,iV i)] [.pin 3 b,.cells 65 [.sl 4 1 0 k],.row 31 7 D.M.length (aO aG D.M),.cells 86 [.sl 2 7 0 D.M.length,.mp 5,.mp 6],.row 5 1 k (aO bI B),.mapb (bJ aB 81) D.gp,.mapl (bJ aB 79) 3 1 D.gs none]) (((B5++bR p.st)++bR p.se)++dI p.to).length (((B5++bR p.st)++bR p.se)++dI p.to)) (by kernel_rfl)) ?_)⟩⟩
    refine eP.evH aY (aPM i D b (((B5++bR p.st)++bR p.se)++dI p.to).length (((B5++bR p.st)++bR p.se)++dI p.to)) ?_;simp only[bA,aP,cI,eW];refine⟨by omega,⟨q1n (i+1) _ (by omega) (by omega) ?_⟩⟩
    have e:bR (D.M.length:Int)++lU (D.M.take (i+1))=((B5++bR p.st)++bR p.se)++dI p.to:=by
     rw[hsn,qF,←cF,hB0,←hB5,←hB4]
     show B0++(CZ p++[])=_
     unfold CZ;simp only[eX,cF]
    rw[e]
    exact aI (by kernel_rfl)
 ·obtain rfl:i=D.M.length:=by omega
  rw[fF]at hB0
  have hB0:lI D.M=B0:=hB0
  refine eP.pre (aI (st':=(fun i k B=>bY 61 [(0,.c (.ptr 0 0)),(3,.c (.ptr 1 0)),(17,.c (.sl 2 7 0 D.M.length)),(18,iV D.M.length),(19,iV i)] [.pin 3 b,.cells 65 [.sl 4 1 0 k],.row 31 7 D.M.length (aO aG D.M),.cells 86 [.sl 2 7 0 D.M.length,.mp 5,.mp 6],.row 5 1 k (aO bI B),.mapb (bJ aB 81) D.gp,.mapl (bJ aB 79) 3 1 D.gs none]) D.M.length B0.length B0) (by kernel_rfl)) ?_
  refine eP.evH (PH B0) (aPL D.M.length D b B0.length B0) ?_;simp only[bA,aP,kA];refine⟨⟨⟨trivial,trivial,fun _ _ _ _=>trivial⟩,by omega⟩,⟨?_⟩⟩;rw[hB0]
  exact aI (by kernel_rfl)
end
def pL(B:List UInt8):Nat→Rs→List (ByteArray×ByteArray)×Rs
 |0,s=>([],s)
 |n+1,s=>let r:=pL B n s
  (r.1++[((jS B r.2).1,(jS B (jS B r.2).2).1)],(jS B (jS B r.2).2).2)
def hdS(B:List UInt8)(s:Rs):Int×ByteArray×Int×Int×Rs:=
 ((gE B s).1,(jS B (gE B s).2).1,(gE B (jS B (gE B s).2).2).1,(gE B (gE B (jS B (gE B s).2).2).2).1,(gE B (gE B (jS B (gE B s).2).2).2).2)
def tlS(B:List UInt8)(s:Rs):Int×Int×ByteArray×Rs:=
 ((gE B s).1,(gE B (gE B s).2).1,(jS B (gE B (gE B s).2).2).1,(jS B (gE B (gE B s).2).2).2)
def pg0:Pg:=⟨0,⟨#[]⟩,0,[],0,0,⟨#[]⟩⟩
def kR(B:List UInt8)(s:Rs):Pg×Bool×Rs:=
 let h:=hdS B s
 if h.2.2.2.1<0∨8<h.2.2.2.1 then (pg0,false,h.2.2.2.2) else
  let l:=pL B h.2.2.2.1.toNat h.2.2.2.2
  let t:=tlS B l.2
  (⟨h.1,h.2.1,h.2.2.1,l.1,t.1,t.2.1,t.2.2.1⟩,true,t.2.2.2)
def YD(B:List UInt8)(F:Rs→Int×Rs)(T:Rs→ByteArray×Rs):Ext:=mH [(67,XA B F),(88,TT B T)]
theorem aS6(B:List UInt8)(F:Rs→Int×Rs)(T:Rs→ByteArray×Rs)(a:Nat)(e:Int)(b:Nat):dF (YD B F T) (dL 3 (dC aB jG)) (jR jG [0] [0] [b] [.c (.ptr 0 0)] [lZ B ⟨a,e⟩]) (gP [0] (fJ 48 [0,2,4,5]) (bK aB jG))=Tr.rq
 ((bQ [0] (C.p (PV.l 1 B.length (aE bI B)))=C.p (PV.l 1 B.length (aE bI B))∧0≤(↑(Rs.mk a e).at_:Int)∧(↑(Rs.mk a e).at_:Int)≤(↑B.length:Int)∧B.length≤140737488355328) ∧
 F=gE B)
 (.rq
 ((C.p (PV.l 1 B.length (aE bI B))=C.p (PV.l 1 B.length (aE bI B)) ∧
 0≤(↑(F (Rs.mk (↑(Rs.mk a e).at_:Int).toNat (Rs.mk a e).er)).snd.at_:Int) ∧
 (↑(F (Rs.mk (↑(Rs.mk a e).at_:Int).toNat (Rs.mk a e).er)).snd.at_:Int)≤(↑B.length:Int)∧B.length≤140737488355328) ∧
 T=jS B)
 (.rq
 ((C.p (PV.l 1 B.length (aE bI B))=C.p (PV.l 1 B.length (aE bI B)) ∧
 0≤(↑(T (Rs.mk (↑(F (Rs.mk (↑(Rs.mk a e).at_:Int).toNat (Rs.mk a e).er)).snd.at_:Int).toNat (F (Rs.mk (↑(Rs.mk a e).at_:Int).toNat (Rs.mk a e).er)).snd.er)).snd.at_:Int) ∧
 (↑(T (Rs.mk (↑(F (Rs.mk (↑(Rs.mk a e).at_:Int).toNat (Rs.mk a e).er)).snd.at_:Int).toNat (F (Rs.mk (↑(Rs.mk a e).at_:Int).toNat (Rs.mk a e).er)).snd.er)).snd.at_:Int) ≤
 (↑B.length:Int) ∧
 B.length≤140737488355328) ∧
 F=gE B)
 (.rq
 ((C.p (PV.l 1 B.length (aE bI B))=C.p (PV.l 1 B.length (aE bI B)) ∧
 0 ≤
 (↑(F
 (Rs.mk
 (↑(T (Rs.mk (↑(F (Rs.mk (↑(Rs.mk a e).at_:Int).toNat (Rs.mk a e).er)).snd.at_:Int).toNat (F (Rs.mk (↑(Rs.mk a e).at_:Int).toNat (Rs.mk a e).er)).snd.er)).snd.at_ :
 Int).toNat
 (T
 (Rs.mk (↑(F (Rs.mk (↑(Rs.mk a e).at_:Int).toNat (Rs.mk a e).er)).snd.at_:Int).toNat
 (F (Rs.mk (↑(Rs.mk a e).at_:Int).toNat (Rs.mk a e).er)).snd.er)).snd.er)).snd.at_ :
 Int) ∧
 (↑(F
 (Rs.mk
 (↑(T (Rs.mk (↑(F (Rs.mk (↑(Rs.mk a e).at_:Int).toNat (Rs.mk a e).er)).snd.at_:Int).toNat (F (Rs.mk (↑(Rs.mk a e).at_:Int).toNat (Rs.mk a e).er)).snd.er)).snd.at_ :
 Int).toNat
 (T
 (Rs.mk (↑(F (Rs.mk (↑(Rs.mk a e).at_:Int).toNat (Rs.mk a e).er)).snd.at_:Int).toNat
 (F (Rs.mk (↑(Rs.mk a e).at_:Int).toNat (Rs.mk a e).er)).snd.er)).snd.er)).snd.at_ :
 Int) ≤
 (↑B.length:Int) ∧
 B.length≤140737488355328) ∧
 F=gE B)
 (.done .normal
 (bY 48 [(0,.c (.ptr 0 0)),(2,.c (.ptr 1 0)),(4,.c (.ptr 2 0)),(5,.c (.p (.i .i64 (F (Rs.mk (↑(F (Rs.mk (↑(T (Rs.mk (↑(F (Rs.mk (↑(Rs.mk a e).at_:Int).toNat (Rs.mk a e).er)).snd.at_:Int).toNat (F (Rs.mk (↑(Rs.mk a e).at_:Int).toNat (Rs.mk a e).er)).snd.er)).snd.at_:Int).toNat (T (Rs.mk (↑(F (Rs.mk (↑(Rs.mk a e).at_:Int).toNat (Rs.mk a e).er)).snd.at_:Int).toNat (F (Rs.mk (↑(Rs.mk a e).at_:Int).toNat (Rs.mk a e).er)).snd.er)).snd.er)).snd.at_:Int).toNat (F (Rs.mk (↑(T (Rs.mk (↑(F (Rs.mk (↑(Rs.mk a e).at_:Int).toNat (Rs.mk a e).er)).snd.at_:Int).toNat (F (Rs.mk (↑(Rs.mk a e).at_:Int).toNat (Rs.mk a e).er)).snd.er)).snd.at_:Int).toNat (T (Rs.mk (↑(F (Rs.mk (↑(Rs.mk a e).at_:Int).toNat (Rs.mk a e).er)).snd.at_:Int).toNat (F (Rs.mk (↑(Rs.mk a e).at_:Int).toNat (Rs.mk a e).er)).snd.er)).snd.er)).snd.er)).fst)))] [.pin 3 b,.cells 31 [.p (.i .i64 0),.p (.s (aH #[])),.p (.i .i64 0),.p (.z (bB none 0 0)),.p (.i .i64 0),.p (.i .i64 0),.p (.s (aH #[]))],.cells 31 [.p (.i .i64 (F (Rs.mk (↑(Rs.mk a e).at_:Int).toNat (Rs.mk a e).er)).fst),.p (.s (T (Rs.mk (↑(F (Rs.mk (↑(Rs.mk a e).at_:Int).toNat (Rs.mk a e).er)).snd.at_:Int).toNat (F (Rs.mk (↑(Rs.mk a e).at_:Int).toNat (Rs.mk a e).er)).snd.er)).fst),.p (.i .i64 (F (Rs.mk (↑(T (Rs.mk (↑(F (Rs.mk (↑(Rs.mk a e).at_:Int).toNat (Rs.mk a e).er)).snd.at_:Int).toNat (F (Rs.mk (↑(Rs.mk a e).at_:Int).toNat (Rs.mk a e).er)).snd.er)).snd.at_:Int).toNat (T (Rs.mk (↑(F (Rs.mk (↑(Rs.mk a e).at_:Int).toNat (Rs.mk a e).er)).snd.at_:Int).toNat (F (Rs.mk (↑(Rs.mk a e).at_:Int).toNat (Rs.mk a e).er)).snd.er)).snd.er)).fst),.p (.z (bB none 0 0)),.p (.i .i64 0),.p (.i .i64 0),.p (.s (aH #[]))],.cells 123 [.p (.l 1 B.length (aE bI B)),.p (.i .i64 (↑(F (Rs.mk (↑(F (Rs.mk (↑(T (Rs.mk (↑(F (Rs.mk (↑(Rs.mk a e).at_:Int).toNat (Rs.mk a e).er)).snd.at_:Int).toNat (F (Rs.mk (↑(Rs.mk a e).at_:Int).toNat (Rs.mk a e).er)).snd.er)).snd.at_:Int).toNat (T (Rs.mk (↑(F (Rs.mk (↑(Rs.mk a e).at_:Int).toNat (Rs.mk a e).er)).snd.at_:Int).toNat (F (Rs.mk (↑(Rs.mk a e).at_:Int).toNat (Rs.mk a e).er)).snd.er)).snd.er)).snd.at_:Int).toNat (F (Rs.mk (↑(T (Rs.mk (↑(F (Rs.mk (↑(Rs.mk a e).at_:Int).toNat (Rs.mk a e).er)).snd.at_:Int).toNat (F (Rs.mk (↑(Rs.mk a e).at_:Int).toNat (Rs.mk a e).er)).snd.er)).snd.at_:Int).toNat (T (Rs.mk (↑(F (Rs.mk (↑(Rs.mk a e).at_:Int).toNat (Rs.mk a e).er)).snd.at_:Int).toNat (F (Rs.mk (↑(Rs.mk a e).at_:Int).toNat (Rs.mk a e).er)).snd.er)).snd.er)).snd.er)).snd.at_:Int)),.p (.i .i64 (F (Rs.mk (↑(F (Rs.mk (↑(T (Rs.mk (↑(F (Rs.mk (↑(Rs.mk a e).at_:Int).toNat (Rs.mk a e).er)).snd.at_:Int).toNat (F (Rs.mk (↑(Rs.mk a e).at_:Int).toNat (Rs.mk a e).er)).snd.er)).snd.at_:Int).toNat (T (Rs.mk (↑(F (Rs.mk (↑(Rs.mk a e).at_:Int).toNat (Rs.mk a e).er)).snd.at_:Int).toNat (F (Rs.mk (↑(Rs.mk a e).at_:Int).toNat (Rs.mk a e).er)).snd.er)).snd.er)).snd.at_:Int).toNat (F (Rs.mk (↑(T (Rs.mk (↑(F (Rs.mk (↑(Rs.mk a e).at_:Int).toNat (Rs.mk a e).er)).snd.at_:Int).toNat (F (Rs.mk (↑(Rs.mk a e).at_:Int).toNat (Rs.mk a e).er)).snd.er)).snd.at_:Int).toNat (T (Rs.mk (↑(F (Rs.mk (↑(Rs.mk a e).at_:Int).toNat (Rs.mk a e).er)).snd.at_:Int).toNat (F (Rs.mk (↑(Rs.mk a e).at_:Int).toNat (Rs.mk a e).er)).snd.er)).snd.er)).snd.er)).snd.er)]]))))):=by kernel_rfl
theorem aS5(B:List UInt8)(kd ve n:Int)(ru:ByteArray)(a:Nat)(e:Int)(b:Nat):dF fH (dL 3 (bL 3 (dC aB jG))) (bY 48 [(0,.c (.ptr 0 0)),(2,.c (.ptr 1 0)),(4,.c (.ptr 2 0)),(5,iV n)] [.pin 3 b,.cells 31 [.p (.i .i64 0),.p (.s ⟨#[]⟩),.p (.i .i64 0),.p (.z (.slice none 0 0)),.p (.i .i64 0),.p (.i .i64 0),.p (.s ⟨#[]⟩)],.cells 31 [.p (.i .i64 kd),.p (.s ru),.p (.i .i64 ve),.p (.z (.slice none 0 0)),.p (.i .i64 0),.p (.i .i64 0),.p (.s ⟨#[]⟩)],lZ B ⟨a,e⟩]) (gP [0] (fJ 48 [0,2,4,23,24]) (bK aB jG))=bT (decide (n<0))
 (.done .ret
 (bY 3 [(0,.c (.ptr 0 0)),(1,.a [.p (.i .i64 0),.p (.s (aH #[])),.p (.i .i64 0),.p (.z (bB none 0 0)),.p (.i .i64 0),.p (.i .i64 0),.p (.s (aH #[]))]),(2,.c (.p (.b false)))] [.pin 1 b,.cells 123 [.p (.l 1 B.length (aE bI B)),.p (.i .i64 (↑(Rs.mk a e).at_:Int)),.p (.i .i64 (Rs.mk a e).er)]]))
 (bT (decide (8<n))
 (.done .ret
 (bY 3 [(0,.c (.ptr 0 0)),(1,.a [.p (.i .i64 0),.p (.s (aH #[])),.p (.i .i64 0),.p (.z (bB none 0 0)),.p (.i .i64 0),.p (.i .i64 0),.p (.s (aH #[]))]),(2,.c (.p (.b false)))] [.pin 1 b,.cells 123 [.p (.l 1 B.length (aE bI B)),.p (.i .i64 (↑(Rs.mk a e).at_:Int)),.p (.i .i64 (Rs.mk a e).er)]]))
 (.done .normal
 (bY 48 [(0,.c (.ptr 0 0)),(2,.c (.ptr 1 0)),(4,.c (.ptr 2 0)),(23,.c (.p (.i .i64 n))),(24,.c (.p (.i .i64 0)))] [.pin 3 b,.cells 31 [.p (.i .i64 0),.p (.s (aH #[])),.p (.i .i64 0),.p (.z (bB none 0 0)),.p (.i .i64 0),.p (.i .i64 0),.p (.s (aH #[]))],.cells 31 [.p (.i .i64 kd),.p (.s ru),.p (.i .i64 ve),.p (.z (bB none 0 0)),.p (.i .i64 0),.p (.i .i64 0),.p (.s (aH #[]))],.cells 123 [.p (.l 1 B.length (aE bI B)),.p (.i .i64 (↑(Rs.mk a e).at_:Int)),.p (.i .i64 (Rs.mk a e).er)]]))):=by kernel_rfl
theorem aS4(B:List UInt8)(kd ve n:Int)(ru:ByteArray)(L:List (ByteArray×ByteArray))(i k a:Nat)(e:Int)(b:Nat):dF fH (dL 2 (gQ (dC aB jG) 6)) (bY 48 [(0,.c (.ptr 0 0)),(2,.c (.ptr 1 0)),(4,.c (.ptr 2 0)),(23,iV n),(24,iV i)] [.pin 3 b,.cells 31 [.p (.i .i64 0),.p (.s ⟨#[]⟩),.p (.i .i64 0),.p (.z (.slice none 0 0)),.p (.i .i64 0),.p (.i .i64 0),.p (.s ⟨#[]⟩)],.cells 31 [.p (.i .i64 kd),.p (.s ru),.p (.i .i64 ve),.sl 4 2 0 k,.p (.i .i64 0),.p (.i .i64 0),.p (.s ⟨#[]⟩)],lZ B ⟨a,e⟩,.row 56 2 k (aO aN L)]) (gP [0] (fJ 48 [0,2,4,23,24]) (bK aB jG))=bT (decide ((↑i:Int)<n))
 (.done .normal
 (bY 48 [(0,.c (.ptr 0 0)),(2,.c (.ptr 1 0)),(4,.c (.ptr 2 0)),(23,.c (.p (.i .i64 n))),(24,.c (.p (.i .i64 (↑i:Int))))] [.pin 3 b,.cells 31 [.p (.i .i64 0),.p (.s (aH #[])),.p (.i .i64 0),.p (.z (bB none 0 0)),.p (.i .i64 0),.p (.i .i64 0),.p (.s (aH #[]))],.cells 31 [.p (.i .i64 kd),.p (.s ru),.p (.i .i64 ve),.sl 4 2 0 k,.p (.i .i64 0),.p (.i .i64 0),.p (.s (aH #[]))],.cells 123 [.p (.l 1 B.length (aE bI B)),.p (.i .i64 (↑(Rs.mk a e).at_:Int)),.p (.i .i64 (Rs.mk a e).er)],.row 56 2 k fun e o=>bQ [0,1,2,3,4] (aO aN L e o)]))
 (.done (.exit 0)
 (bY 48 [(0,.c (.ptr 0 0)),(2,.c (.ptr 1 0)),(4,.c (.ptr 2 0)),(23,.c (.p (.i .i64 n))),(24,.c (.p (.i .i64 (↑i:Int))))] [.pin 3 b,.cells 31 [.p (.i .i64 0),.p (.s (aH #[])),.p (.i .i64 0),.p (.z (bB none 0 0)),.p (.i .i64 0),.p (.i .i64 0),.p (.s (aH #[]))],.cells 31 [.p (.i .i64 kd),.p (.s ru),.p (.i .i64 ve),.sl 4 2 0 k,.p (.i .i64 0),.p (.i .i64 0),.p (.s (aH #[]))],.cells 123 [.p (.l 1 B.length (aE bI B)),.p (.i .i64 (↑(Rs.mk a e).at_:Int)),.p (.i .i64 (Rs.mk a e).er)],.row 56 2 k fun e o=>bQ [0,1,2,3,4] (aO aN L e o)])):=by kernel_rfl
theorem aS3(B:List UInt8)(F:Rs→Int×Rs)(T:Rs→ByteArray×Rs)(kd ve n:Int)(ru:ByteArray)(L:List (ByteArray×ByteArray))(i k a:Nat)(e:Int)(b:Nat):dF (YD B F T) (dL 1 (eZ (inr (bC .skip (gQ (dC aB jG) 6) 2)))) (bY 48 [(0,.c (.ptr 0 0)),(2,.c (.ptr 1 0)),(4,.c (.ptr 2 0)),(23,iV n),(24,iV i)] [.pin 3 b,.cells 31 [.p (.i .i64 0),.p (.s ⟨#[]⟩),.p (.i .i64 0),.p (.z (.slice none 0 0)),.p (.i .i64 0),.p (.i .i64 0),.p (.s ⟨#[]⟩)],.cells 31 [.p (.i .i64 kd),.p (.s ru),.p (.i .i64 ve),.sl 4 2 0 k,.p (.i .i64 0),.p (.i .i64 0),.p (.s ⟨#[]⟩)],lZ B ⟨a,e⟩,.row 56 2 k (aO aN L)]) (gP [0] (fJ 48 [0,2,4,6,23,24]) (bK aB jG))=Tr.rq
 ((C.p (PV.l 1 B.length (aE bI B))=C.p (PV.l 1 B.length (aE bI B))∧0≤(↑(Rs.mk a e).at_:Int)∧(↑(Rs.mk a e).at_:Int)≤(↑B.length:Int)∧B.length≤140737488355328)∧T=jS B)
 (.rq
 ((C.p (PV.l 1 B.length (aE bI B))=C.p (PV.l 1 B.length (aE bI B)) ∧
 0≤(↑(T (Rs.mk (↑(Rs.mk a e).at_:Int).toNat (Rs.mk a e).er)).snd.at_:Int) ∧
 (↑(T (Rs.mk (↑(Rs.mk a e).at_:Int).toNat (Rs.mk a e).er)).snd.at_:Int)≤(↑B.length:Int)∧B.length≤140737488355328) ∧
 T=jS B)
 (.done .normal
 (bY 48 [(0,.c (.ptr 0 0)),(2,.c (.ptr 1 0)),(4,.c (.ptr 2 0)),(6,.c (.ptr 3 0)),(23,.c (.p (.i .i64 n))),(24,.c (.p (.i .i64 (↑i:Int))))] [.pin 4 b,.cells 31 [.p (.i .i64 0),.p (.s (aH #[])),.p (.i .i64 0),.p (.z (bB none 0 0)),.p (.i .i64 0),.p (.i .i64 0),.p (.s (aH #[]))],.cells 31 [.p (.i .i64 kd),.p (.s ru),.p (.i .i64 ve),.sl 5 2 0 k,.p (.i .i64 0),.p (.i .i64 0),.p (.s (aH #[]))],.cells 56 [.p (.s (T (Rs.mk (↑(Rs.mk a e).at_:Int).toNat (Rs.mk a e).er)).fst),.p (.s (T (Rs.mk (↑(T (Rs.mk (↑(Rs.mk a e).at_:Int).toNat (Rs.mk a e).er)).snd.at_:Int).toNat (T (Rs.mk (↑(Rs.mk a e).at_:Int).toNat (Rs.mk a e).er)).snd.er)).fst)],.cells 123 [.p (.l 1 B.length (aE bI B)),.p (.i .i64 (↑(T (Rs.mk (↑(T (Rs.mk (↑(Rs.mk a e).at_:Int).toNat (Rs.mk a e).er)).snd.at_:Int).toNat (T (Rs.mk (↑(Rs.mk a e).at_:Int).toNat (Rs.mk a e).er)).snd.er)).snd.at_:Int)),.p (.i .i64 (T (Rs.mk (↑(T (Rs.mk (↑(Rs.mk a e).at_:Int).toNat (Rs.mk a e).er)).snd.at_:Int).toNat (T (Rs.mk (↑(Rs.mk a e).at_:Int).toNat (Rs.mk a e).er)).snd.er)).snd.er)],.row 56 2 k fun e o=>bQ [0,1,2,9,3,4] (aO aN L e o)]))):=by kernel_rfl
theorem aS2(B:List UInt8)(kd ve n:Int)(ru x y:ByteArray)(L:List (ByteArray×ByteArray))(i k a:Nat)(e:Int)(b:Nat):dF fH (bL 1 (eZ (inr (bC .skip (gQ (dC aB jG) 6) 2)))) (bY 48 [(0,.c (.ptr 0 0)),(2,.c (.ptr 1 0)),(4,.c (.ptr 2 0)),(6,.c (.ptr 3 0)),(23,iV n),(24,iV i)] [.pin 4 b,.cells 31 [.p (.i .i64 0),.p (.s ⟨#[]⟩),.p (.i .i64 0),.p (.z (.slice none 0 0)),.p (.i .i64 0),.p (.i .i64 0),.p (.s ⟨#[]⟩)],.cells 31 [.p (.i .i64 kd),.p (.s ru),.p (.i .i64 ve),.sl 5 2 0 k,.p (.i .i64 0),.p (.i .i64 0),.p (.s ⟨#[]⟩)],.cells 56 [.p (.s x),.p (.s y)],lZ B ⟨a,e⟩,.row 56 2 k (aO aN L)]) (gP [0] (fJ 48 [0,2,4,23,24]) (bK aB jG))=Tr.rq (k=k)
 (.rq (1≤1)
 (.rq ((k+1)*32≤140737488355328∧k+1≤140737488355328∧∀(e o:Nat),e<1→o<2→iQ (mI [C.p (PV.s x),C.p (PV.s y)] 2 1 (e+0) o)=true)
 (.done .normal
 (bY 48 [(0,.c (.ptr 0 0)),(2,.c (.ptr 1 0)),(4,.c (.ptr 2 0)),(23,.c (.p (.i .i64 n))),(24,.c (.p (.i .i64 (↑i:Int))))] [.pin 3 b,.cells 31 [.p (.i .i64 0),.p (.s (aH #[])),.p (.i .i64 0),.p (.z (bB none 0 0)),.p (.i .i64 0),.p (.i .i64 0),.p (.s (aH #[]))],.cells 31 [.p (.i .i64 kd),.p (.s ru),.p (.i .i64 ve),.sl 4 2 0 (k+1),.p (.i .i64 0),.p (.i .i64 0),.p (.s (aH #[]))],.cells 123 [.p (.l 1 B.length (aE bI B)),.p (.i .i64 (↑(Rs.mk a e).at_:Int)),.p (.i .i64 (Rs.mk a e).er)],.row 56 2 (k+1) fun e o=>bQ [0,1,2,4,7] (fI k (aO aN L) (fun e o=>bC C.top [C.p (PV.s x),C.p (PV.s y)] ((e+0)*2+o)) e o)])))):=by kernel_rfl
theorem aS1(B:List UInt8)(kd ve n:Int)(ru:ByteArray)(L:List (ByteArray×ByteArray))(i k a:Nat)(e:Int)(b:Nat):dF fH (bL 3 (gQ (dC aB jG) 6)) (bY 48 [(0,.c (.ptr 0 0)),(2,.c (.ptr 1 0)),(4,.c (.ptr 2 0)),(23,iV n),(24,iV i)] [.pin 3 b,.cells 31 [.p (.i .i64 0),.p (.s ⟨#[]⟩),.p (.i .i64 0),.p (.z (.slice none 0 0)),.p (.i .i64 0),.p (.i .i64 0),.p (.s ⟨#[]⟩)],.cells 31 [.p (.i .i64 kd),.p (.s ru),.p (.i .i64 ve),.sl 4 2 0 k,.p (.i .i64 0),.p (.i .i64 0),.p (.s ⟨#[]⟩)],lZ B ⟨a,e⟩,.row 56 2 k (aO aN L)]) (gP [0] (fJ 48 [0,2,4,23,24]) (bK aB jG))=Tr.rq (eW aC ((↑i:Int)+1))
 (.done .normal
 (bY 48 [(0,.c (.ptr 0 0)),(2,.c (.ptr 1 0)),(4,.c (.ptr 2 0)),(23,.c (.p (.i .i64 n))),(24,.c (.p (.i .i64 ((↑i:Int)+1))))] [.pin 3 b,.cells 31 [.p (.i .i64 0),.p (.s (aH #[])),.p (.i .i64 0),.p (.z (bB none 0 0)),.p (.i .i64 0),.p (.i .i64 0),.p (.s (aH #[]))],.cells 31 [.p (.i .i64 kd),.p (.s ru),.p (.i .i64 ve),.sl 4 2 0 k,.p (.i .i64 0),.p (.i .i64 0),.p (.s (aH #[]))],.cells 123 [.p (.l 1 B.length (aE bI B)),.p (.i .i64 (↑(Rs.mk a e).at_:Int)),.p (.i .i64 (Rs.mk a e).er)],.row 56 2 k fun e o=>bQ [0,1,2,3,4] (aO aN L e o)])):=by kernel_rfl
theorem aS0(B:List UInt8)(F:Rs→Int×Rs)(T:Rs→ByteArray×Rs)(kd ve:Int)(ru:ByteArray)(L:List (ByteArray×ByteArray))(a:Nat)(e:Int)(b:Nat):dF (YD B F T) (dL 1 (bL 7 (dC aB jG))) (bY 48 [(0,.c (.ptr 0 0)),(2,.c (.ptr 1 0)),(4,.c (.ptr 2 0))] [.pin 3 b,.cells 31 [.p (.i .i64 0),.p (.s ⟨#[]⟩),.p (.i .i64 0),.p (.z (.slice none 0 0)),.p (.i .i64 0),.p (.i .i64 0),.p (.s ⟨#[]⟩)],.cells 31 [.p (.i .i64 kd),.p (.s ru),.p (.i .i64 ve),.p (bO aN 2 L),.p (.i .i64 0),.p (.i .i64 0),.p (.s ⟨#[]⟩)],lZ B ⟨a,e⟩]) (gP [0] (fJ 48 [0,2,4]) (bK aB jG))=Tr.rq
 ((C.p (PV.l 1 B.length (aE bI B))=C.p (PV.l 1 B.length (aE bI B))∧0≤(↑(Rs.mk a e).at_:Int)∧(↑(Rs.mk a e).at_:Int)≤(↑B.length:Int)∧B.length≤140737488355328)∧F=gE B)
 (.rq
 ((C.p (PV.l 1 B.length (aE bI B))=C.p (PV.l 1 B.length (aE bI B)) ∧
 0≤(↑(F (Rs.mk (↑(Rs.mk a e).at_:Int).toNat (Rs.mk a e).er)).snd.at_:Int) ∧
 (↑(F (Rs.mk (↑(Rs.mk a e).at_:Int).toNat (Rs.mk a e).er)).snd.at_:Int)≤(↑B.length:Int)∧B.length≤140737488355328) ∧
 F=gE B)
 (.rq
 ((C.p (PV.l 1 B.length (aE bI B))=C.p (PV.l 1 B.length (aE bI B)) ∧
 0≤(↑(F (Rs.mk (↑(F (Rs.mk (↑(Rs.mk a e).at_:Int).toNat (Rs.mk a e).er)).snd.at_:Int).toNat (F (Rs.mk (↑(Rs.mk a e).at_:Int).toNat (Rs.mk a e).er)).snd.er)).snd.at_:Int) ∧
 (↑(F (Rs.mk (↑(F (Rs.mk (↑(Rs.mk a e).at_:Int).toNat (Rs.mk a e).er)).snd.at_:Int).toNat (F (Rs.mk (↑(Rs.mk a e).at_:Int).toNat (Rs.mk a e).er)).snd.er)).snd.at_:Int) ≤
 (↑B.length:Int) ∧
 B.length≤140737488355328) ∧
 T=jS B)
 (.done .normal
 (bY 48 [(0,.c (.ptr 0 0)),(2,.c (.ptr 1 0)),(4,.c (.ptr 2 0))] [.pin 3 b,.cells 31 [.p (.i .i64 0),.p (.s (aH #[])),.p (.i .i64 0),.p (.z (bB none 0 0)),.p (.i .i64 0),.p (.i .i64 0),.p (.s (aH #[]))],.cells 31 [.p (.i .i64 kd),.p (.s ru),.p (.i .i64 ve),.p (.l 2 L.length (aE aN L)),.p (.i .i64 (F (Rs.mk (↑(Rs.mk a e).at_:Int).toNat (Rs.mk a e).er)).fst),.p (.i .i64 (F (Rs.mk (↑(F (Rs.mk (↑(Rs.mk a e).at_:Int).toNat (Rs.mk a e).er)).snd.at_:Int).toNat (F (Rs.mk (↑(Rs.mk a e).at_:Int).toNat (Rs.mk a e).er)).snd.er)).fst),.p (.s (T (Rs.mk (↑(F (Rs.mk (↑(F (Rs.mk (↑(Rs.mk a e).at_:Int).toNat (Rs.mk a e).er)).snd.at_:Int).toNat (F (Rs.mk (↑(Rs.mk a e).at_:Int).toNat (Rs.mk a e).er)).snd.er)).snd.at_:Int).toNat (F (Rs.mk (↑(F (Rs.mk (↑(Rs.mk a e).at_:Int).toNat (Rs.mk a e).er)).snd.at_:Int).toNat (F (Rs.mk (↑(Rs.mk a e).at_:Int).toNat (Rs.mk a e).er)).snd.er)).snd.er)).fst)],.cells 123 [.p (.l 1 B.length (aE bI B)),.p (.i .i64 (↑(T (Rs.mk (↑(F (Rs.mk (↑(F (Rs.mk (↑(Rs.mk a e).at_:Int).toNat (Rs.mk a e).er)).snd.at_:Int).toNat (F (Rs.mk (↑(Rs.mk a e).at_:Int).toNat (Rs.mk a e).er)).snd.er)).snd.at_:Int).toNat (F (Rs.mk (↑(F (Rs.mk (↑(Rs.mk a e).at_:Int).toNat (Rs.mk a e).er)).snd.at_:Int).toNat (F (Rs.mk (↑(Rs.mk a e).at_:Int).toNat (Rs.mk a e).er)).snd.er)).snd.er)).snd.at_:Int)),.p (.i .i64 (T (Rs.mk (↑(F (Rs.mk (↑(F (Rs.mk (↑(Rs.mk a e).at_:Int).toNat (Rs.mk a e).er)).snd.at_:Int).toNat (F (Rs.mk (↑(Rs.mk a e).at_:Int).toNat (Rs.mk a e).er)).snd.er)).snd.at_:Int).toNat (F (Rs.mk (↑(F (Rs.mk (↑(Rs.mk a e).at_:Int).toNat (Rs.mk a e).er)).snd.at_:Int).toNat (F (Rs.mk (↑(Rs.mk a e).at_:Int).toNat (Rs.mk a e).er)).snd.er)).snd.er)).snd.er)]])))):=by kernel_rfl
theorem aRZ(B:List UInt8)(kd ve st se:Int)(ru to:ByteArray)(L:List (ByteArray×ByteArray))(a:Nat)(e:Int)(b:Nat):dF fH (bL 8 (dC aB jG)) (bY 48 [(0,.c (.ptr 0 0)),(2,.c (.ptr 1 0)),(4,.c (.ptr 2 0))] [.pin 3 b,.cells 31 [.p (.i .i64 0),.p (.s ⟨#[]⟩),.p (.i .i64 0),.p (.z (.slice none 0 0)),.p (.i .i64 0),.p (.i .i64 0),.p (.s ⟨#[]⟩)],.cells 31 [.p (.i .i64 kd),.p (.s ru),.p (.i .i64 ve),.p (bO aN 2 L),.p (.i .i64 st),.p (.i .i64 se),.p (.s to)],lZ B ⟨a,e⟩]) (gP [0] [] (bK aB jG))=Tr.done X.ret
 (bY 3 [(0,.c (.ptr 0 0)),(1,.a [.p (.i .i64 kd),.p (.s ru),.p (.i .i64 ve),.p (.l 2 L.length (aE aN L)),.p (.i .i64 st),.p (.i .i64 se),.p (.s to)]),(2,.c (.p (.b true)))] [.pin 1 b,.cells 123 [.p (.l 1 B.length (aE bI B)),.p (.i .i64 (↑(Rs.mk a e).at_:Int)),.p (.i .i64 (Rs.mk a e).er)]]):=by kernel_rfl
theorem nJ{B:List UInt8}{s:Rs}(h:s.at_≤B.length):(gE B s).2.at_≤B.length:=DO h
theorem qW{B:List UInt8}{s:Rs}(h:s.at_≤B.length):(jS B s).2.at_≤B.length:=aH6 h
theorem LZ{B:List UInt8}:∀(n:Nat) {s:Rs},s.at_≤B.length→(pL B n s).2.at_≤B.length
 |0,_,h=>h
 |n+1,_,h=>qW (qW (LZ n h))
theorem OY{B:List UInt8}:∀(n:Nat) (s:Rs),(pL B n s).1.length=n
 |0,_=>rfl
 |n+1,s=>by
  show ((pL B n s).1++[_]).length=_
  rw[aL,OY n s];rfl
theorem KX(s:Rs):(⟨s.at_,s.er⟩:Rs)=s:=rfl
theorem aJD(x y:ByteArray):∀o:Nat,o<2→(fun e o:Nat=>bC C.top [C.p (PV.s x),C.p (PV.s y)] ((e+0)*2+o)) 0 o=.p (aN (x,y) o):=by
 intro o ho
 have:o=0∨o=1:=by omega
 rcases this with rfl|rfl<;>rfl
section
variable {G:Nat→Option Obj}
theorem vE(B:List UInt8):bG aB G (YD B (gE B) (jS B)):=eM (by simp;exact⟨aDG B (gE B),aIC B (jS B)⟩)
set_option maxRecDepth 100000 in
set_option maxHeartbeats 1000000 in
theorem ZL(B:List UInt8)(s:Rs)(hs:s.at_≤B.length)(hB:B.length≤140737488355328)(b:Nat)(Q:X→St→Prop):eP aB G (Zm [0] (bK aB jG) fun st=>cW G st ⟨[.c (.ptr 0 0)]++[uK (kR B s).1,bV (kR B s).2.1],CY B (kR B s).2.2 b⟩) (dC aB jG) (jR jG [0] [0] [b] [.c (.ptr 0 0)] [lZ B s]) Q:=by
 obtain⟨a,e⟩:=s
 have hs:a≤B.length:=hs
 obtain⟨R,hR⟩:∃R,kR B ⟨a,e⟩=R:=⟨_,rfl⟩
 rw[hR]
 have f1:=nJ (B:=B) (s:=⟨a,e⟩) hs
 have f2:=qW f1
 have f3:=nJ f2
 have f4:=nJ f3
 refine eP.evG (vE B) 3 (aS6 B (gE B) (jS B) a e b) ?_;simp only[bA,aP,cI,dW,KX];unfold kR hdS at hR;dsimp only at hR
 generalize hi1:gE B ⟨a,e⟩=i1 at f1 f2 f3 f4 hR ⊢
 obtain⟨kd,s1⟩:=i1;dsimp only at f1 f2 f3 f4 hR ⊢
 generalize hi2:jS B s1=i2 at f2 f3 f4 hR ⊢
 obtain⟨ru,s2⟩:=i2;dsimp only at f2 f3 f4 hR ⊢
 generalize hi3:gE B s2=i3 at f3 f4 hR ⊢
 obtain⟨ve,s3⟩:=i3;dsimp only at f3 f4 hR ⊢
 generalize hi4:gE B s3=i4 at f4 hR ⊢
 obtain⟨n,a4,e4⟩:=i4;dsimp only at f4 hR ⊢;refine⟨⟨⟨rfl,by omega,by omega,hB⟩,trivial⟩,⟨⟨trivial,by omega,by omega,hB⟩,trivial⟩,⟨⟨trivial,by omega,by omega,hB⟩,trivial⟩,⟨⟨trivial,by omega,by omega,hB⟩,trivial⟩,⟨?_⟩⟩
 refine eP.pre (aI (st':=(fun a e=>bY 48 [(0,.c (.ptr 0 0)),(2,.c (.ptr 1 0)),(4,.c (.ptr 2 0)),(5,iV n)] [.pin 3 b,.cells 31 [.p (.i .i64 0),.p (.s ⟨#[]⟩),.p (.i .i64 0),.p (.z (.slice none 0 0)),.p (.i .i64 0),.p (.i .i64 0),.p (.s ⟨#[]⟩)],.cells 31 [.p (.i .i64 kd),.p (.s ru),.p (.i .i64 ve),.p (.z (.slice none 0 0)),.p (.i .i64 0),.p (.i .i64 0),.p (.s ⟨#[]⟩)],lZ B ⟨a,e⟩]) a4 e4) (by kernel_rfl)) ?_
 refine eP.evG aY 3 (aS5 B kd ve n ru a4 e4 b) ?_;simp only[cD,aP,cI,kA,decide_eq_true_eq,decide_eq_false_iff_not]
 have bad:(n<0∨8<n)→cW G (bY 3 [(0,.c (.ptr 0 0)),(1,.a [.p (.i .i64 0),.p (.s ⟨#[]⟩),.p (.i .i64 0),.p (.z (.slice none 0 0)),.p (.i .i64 0),.p (.i .i64 0),.p (.s ⟨#[]⟩)]),(2,bV false)] [.pin 1 b,lZ B ⟨a4,e4⟩]) ⟨[.c (.ptr 0 0)]++[uK R.1,bV R.2.1],CY B R.2.2 b⟩:=fun h=>by
  rw[if_pos h]at hR;subst hR;refine(HW (st:=bY 3 [(0,.c (.ptr 0 0)),(1,.a [.p (.i .i64 0),.p (.s ⟨#[]⟩),.p (.i .i64 0),.p (.z (.slice none 0 0)),.p (.i .i64 0),.p (.i .i64 0),.p (.s ⟨#[]⟩)]),(2,bV false)] [.pin 1 b,lZ B ⟨a4,e4⟩]) (j:=1) (y:=uK pg0) ?_).trans (aI rfl);exact iE.a (xs:=[.i .i64 0,.s ⟨#[]⟩,.i .i64 0,.z (.slice none 0 0),.i .i64 0,.i .i64 0,.s ⟨#[]⟩]) (vs:=aH9 pg0) (.cons (.refl _) (.cons (.refl _) (.cons (.refl _) (.cons (lY.nil 2 _) (.cons (.refl _) (.cons (.refl _) (.cons (.refl _) .nil)))))))
 refine⟨fun h1=>⟨bad (.inl h1)⟩,fun h1=>⟨fun h2=>⟨bad (.inr h2)⟩,fun h2=>⟨?_⟩⟩⟩;rw[if_neg (by omega)]at hR;clear bad
 obtain⟨m,rfl⟩:∃m:Nat,n=m:=⟨n.toNat,by omega⟩
 rw[dW]at hR
 have hm8:m≤8:=by omega
 refine eP.loop' (l:=bL 3 (bL 3 (dC aB jG))) (id:=0) (b:=inr (inr (bC .skip (dC aB jG) 6))) (r:=bL 7 (dC aB jG)) (by kernel_rfl) (σ:=Nat)
   (fun i=>(fun(n:Int) (k a:Nat) e L=>bY 48 [(0,.c (.ptr 0 0)),(2,.c (.ptr 1 0)),(4,.c (.ptr 2 0)),(23,iV n),(24,iV i)] [.pin 3 b,.cells 31 [.p (.i .i64 0),.p (.s ⟨#[]⟩),.p (.i .i64 0),.p (.z (.slice none 0 0)),.p (.i .i64 0),.p (.i .i64 0),.p (.s ⟨#[]⟩)],.cells 31 [.p (.i .i64 kd),.p (.s ru),.p (.i .i64 ve),.sl 4 2 0 k,.p (.i .i64 0),.p (.i .i64 0),.p (.s ⟨#[]⟩)],lZ B ⟨a,e⟩,.row 56 2 k (aO aN L)]) (m:Int) i (pL B i ⟨a4,e4⟩).2.at_ (pL B i ⟨a4,e4⟩).2.er (pL B i ⟨a4,e4⟩).1) (fun i=>i≤m) (fun i=>m-i) 0 (bX _)
   ((vP 56 2 (aO aN []) (id:=2) (k:=3) (t0:=31) (vs:=[.p (.i .i64 kd),.p (.s ru),.p (.i .i64 ve),.p (.z (.slice none 0 0)),.p (.i .i64 0),.p (.i .i64 0),.p (.s ⟨#[]⟩)]) (by kernel_rfl) (by kernel_rfl)).trans ((gB (fJ 48 [0,2,4,23,24]) _).trans (aI (by kernel_rfl)))) ?_
 intro i hi Q1 q1n q1e _
 have g0:=LZ (B:=B) i (s:=⟨a4,e4⟩) f4
 have gl:=OY (B:=B) i ⟨a4,e4⟩
 have hsn:pL B (i+1) ⟨a4,e4⟩=((pL B i ⟨a4,e4⟩).1++[((jS B (pL B i ⟨a4,e4⟩).2).1,(jS B (jS B (pL B i ⟨a4,e4⟩).2).2).1)],(jS B (jS B (pL B i ⟨a4,e4⟩).2).2).2):=rfl
 generalize hlb:pL B i ⟨a4,e4⟩=lb at g0 gl hsn ⊢
 obtain⟨L,al,el⟩:=lb;dsimp only at g0 gl hsn ⊢;refine eP.evG aY 2 (aS4 B kd ve m ru L i i al el b) ?_;simp only[cD,aP,cI,mU,decide_eq_true_eq,decide_eq_false_iff_not];refine⟨fun h3=>⟨?_⟩,fun h3=>⟨q1e _ ?_⟩⟩
 ·refine eP.blk' (l:=bL 2 (gQ (dC aB jG) 6)) (id:=1) (a:=inr (bC .skip (gQ (dC aB jG) 6) 2)) (r:=bL 3 (gQ (dC aB jG) 6)) (by kernel_rfl) ?_
  intro Q2 q2n q2e _
  refine eP.pre (aI (st':=(fun(n:Int) (k a:Nat) e L=>bY 48 [(0,.c (.ptr 0 0)),(2,.c (.ptr 1 0)),(4,.c (.ptr 2 0)),(23,iV n),(24,iV i)] [.pin 3 b,.cells 31 [.p (.i .i64 0),.p (.s ⟨#[]⟩),.p (.i .i64 0),.p (.z (.slice none 0 0)),.p (.i .i64 0),.p (.i .i64 0),.p (.s ⟨#[]⟩)],.cells 31 [.p (.i .i64 kd),.p (.s ru),.p (.i .i64 ve),.sl 4 2 0 k,.p (.i .i64 0),.p (.i .i64 0),.p (.s ⟨#[]⟩)],lZ B ⟨a,e⟩,.row 56 2 k (aO aN L)]) (m:Int) i al el L) (by kernel_rfl)) (eP.evG (vE B) 1 (aS3 B (gE B) (jS B) kd ve m ru L i i al el b) ?_)
  have g1:=qW (B:=B) (s:=⟨al,el⟩) g0
  have g2:=qW g1
  simp only[bA,aP,cI,dW,KX]
  generalize hj1:jS B ⟨al,el⟩=j1 at g1 g2 hsn ⊢
  obtain⟨x,t1⟩:=j1;dsimp only at g1 g2 hsn ⊢
  generalize hj2:jS B t1=j2 at g2 hsn ⊢
  obtain⟨y,a2,e2⟩:=j2;dsimp only at g2 hsn ⊢;refine⟨⟨⟨trivial,by omega,by omega,hB⟩,trivial⟩,⟨⟨trivial,by omega,by omega,hB⟩,trivial⟩,⟨?_⟩⟩
  refine eP.pre (aI (st':=(fun(n:Int) (k a:Nat) e L=>bY 48 [(0,.c (.ptr 0 0)),(2,.c (.ptr 1 0)),(4,.c (.ptr 2 0)),(6,.c (.ptr 3 0)),(23,iV n),(24,iV i)] [.pin 4 b,.cells 31 [.p (.i .i64 0),.p (.s ⟨#[]⟩),.p (.i .i64 0),.p (.z (.slice none 0 0)),.p (.i .i64 0),.p (.i .i64 0),.p (.s ⟨#[]⟩)],.cells 31 [.p (.i .i64 kd),.p (.s ru),.p (.i .i64 ve),.sl 5 2 0 k,.p (.i .i64 0),.p (.i .i64 0),.p (.s ⟨#[]⟩)],.cells 56 [.p (.s x),.p (.s y)],lZ B ⟨a,e⟩,.row 56 2 k (aO aN L)]) (m:Int) i a2 e2 L) (by kernel_rfl)) (eP.evH aY (aS2 B kd ve m ru x y L i i a2 e2 b) ?_)
  simp only[bA,aP,cI];refine⟨trivial,aW _,⟨by omega,by omega,fun e o he ho=>?_⟩,⟨q2n _ ?_⟩⟩
  ·obtain rfl:e=0:=by omega
   have:o=0∨o=1:=by omega
   rcases this with rfl|rfl<;>rfl
  have hl2:(L++[(x,y)]).length=i+1:=by rw[aL,gl];rfl
  refine eP.pre (st2:=(fun(n:Int) (k a:Nat) e L=>bY 48 [(0,.c (.ptr 0 0)),(2,.c (.ptr 1 0)),(4,.c (.ptr 2 0)),(23,iV n),(24,iV i)] [.pin 3 b,.cells 31 [.p (.i .i64 0),.p (.s ⟨#[]⟩),.p (.i .i64 0),.p (.z (.slice none 0 0)),.p (.i .i64 0),.p (.i .i64 0),.p (.s ⟨#[]⟩)],.cells 31 [.p (.i .i64 kd),.p (.s ru),.p (.i .i64 ve),.sl 4 2 0 k,.p (.i .i64 0),.p (.i .i64 0),.p (.s ⟨#[]⟩)],lZ B ⟨a,e⟩,.row 56 2 k (aO aN L)]) (m:Int) (i+1) a2 e2 (L++[(x,y)])) (jF ⟨rfl,rfl,rfl,rfl,⟨rfl,rfl,rfl,fun e o he ho=>pP gl (aJD x y) he ho⟩,trivial⟩) ?_;refine eP.evH aY (aS1 B kd ve m ru (L++[(x,y)]) i (i+1) a2 e2 b) ?_;simp only[bA,aP,cI,eW];refine⟨by omega,⟨q1n (i+1) _ (by omega) (by omega) ?_⟩⟩;rw[hsn]
  exact aI (by kernel_rfl)
 ·obtain rfl:i=m:=by omega
  rw[hlb]at hR
  refine eP.pre ((YU (id:=4) (ty:=56) (sz:=2) (n:=i) (f:=aO aN L) (aE aN L) (by kernel_rfl) (fun e o _ _=>by
    have:BZ (aO aN L e o)=true:=rfl
    exact this) (fun _ _ _ _=>lY.refl _) (ps:=[(0,i)]) (by kernel_rfl) (by simp)).trans ((gB (fJ 48 [0,2,4]) _).trans (aI (st':=bY 48 [(0,.c (.ptr 0 0)),(2,.c (.ptr 1 0)),(4,.c (.ptr 2 0))] [.pin 3 b,.cells 31 [.p (.i .i64 0),.p (.s ⟨#[]⟩),.p (.i .i64 0),.p (.z (.slice none 0 0)),.p (.i .i64 0),.p (.i .i64 0),.p (.s ⟨#[]⟩)],.cells 31 [.p (.i .i64 kd),.p (.s ru),.p (.i .i64 ve),.p (.l 2 i (aE aN L)),.p (.i .i64 0),.p (.i .i64 0),.p (.s ⟨#[]⟩)],lZ B ⟨al,el⟩]) (by kernel_rfl)))) ?_
  have ell:PV.l 2 i (aE aN L)=bO aN 2 L:=by unfold bO;rw[gl]
  rw[ell]
  have k1:=nJ (B:=B) (s:=⟨al,el⟩) g0
  have k2:=nJ k1
  have k3:=qW k2
  refine eP.evG (vE B) 1 (aS0 B (gE B) (jS B) kd ve ru L al el b) ?_;simp only[bA,aP,cI,dW,KX];unfold tlS at hR;dsimp only at hR
  generalize hu1:gE B ⟨al,el⟩=u1 at k1 k2 k3 hR ⊢
  obtain⟨st,t1⟩:=u1;dsimp only at k1 k2 k3 hR ⊢
  generalize hu2:gE B t1=u2 at k2 k3 hR ⊢
  obtain⟨se,t2⟩:=u2;dsimp only at k2 k3 hR ⊢
  generalize hu3:jS B t2=u3 at k3 hR ⊢
  obtain⟨to,a3,e3⟩:=u3;dsimp only at k3 hR ⊢;refine⟨⟨⟨trivial,by omega,by omega,hB⟩,trivial⟩,⟨⟨trivial,by omega,by omega,hB⟩,trivial⟩,⟨⟨trivial,by omega,by omega,hB⟩,trivial⟩,⟨?_⟩⟩
  refine eP.pre (aI (st':=(fun a e=>bY 48 [(0,.c (.ptr 0 0)),(2,.c (.ptr 1 0)),(4,.c (.ptr 2 0))] [.pin 3 b,.cells 31 [.p (.i .i64 0),.p (.s ⟨#[]⟩),.p (.i .i64 0),.p (.z (.slice none 0 0)),.p (.i .i64 0),.p (.i .i64 0),.p (.s ⟨#[]⟩)],.cells 31 [.p (.i .i64 kd),.p (.s ru),.p (.i .i64 ve),.p (bO aN 2 L),.p (.i .i64 st),.p (.i .i64 se),.p (.s to)],lZ B ⟨a,e⟩]) a3 e3) (by kernel_rfl)) ?_
  refine eP.evH aY (aRZ B kd ve st se ru to L a3 e3 b) ?_;simp only[aP,kA];subst hR
  exact⟨aI (by kernel_rfl)⟩
def TR(B:List UInt8)(p:Pg)(ok:Bool)(s':Rs):kD:=fun args h=>match args with
 |[.c (.ptr j 0)]=>match HG B (oG h j) h with
  |some (q,a,e)=>some (q∧kR B ⟨a.toNat,e⟩=(p,ok,s'),.t [.a [.p (.i .i64 p.kd),.p (.s p.ru),.p (.i .i64 p.ve),.p (bO aN 2 p.L),.p (.i .i64 p.st),.p (.i .i64 p.se),.p (.s p.to)],.c (.p (.b ok))],iT [oG h j] [oG h j] [1] h (CY B s' 0))
  |none=>none
 |_=>none
set_option maxRecDepth 100000 in
theorem aIA(B:List UInt8)(p:Pg)(ok:Bool)(s':Rs):gG aB G 68 (TR B p ok s'):=by
 intro args h p0 v h' hm hp;unfold TR at hm
 split at hm;rotate_left;· cases hm
 split at hm;rotate_left;· cases hm
 rename_i j _ q a e hw;obtain⟨rfl,rfl,rfl⟩:=mJ hm;obtain⟨hq,hr⟩:=hp;obtain⟨k1,k2,k3⟩:=rH hw hq
 have hm:=fun b=>ZL (G:=G) B _ k2 k3 b
 rw[hr]at hm
 exact pZ (BN (args:=[]) (args0:=[]) (vs:=[uK p,bV ok]) Try.func68 (by kernel_rfl) k1 rfl fun b=>hm b _)
end
def uJ(M:List Pg)(p:Pg):Bool×List Pg:=
 if p.kd=0 then ((sI M p).2==0,(sI M p).1) else if (p.kd≠1∧p.kd≠2)∨hP p=false∨p.to≠⟨#[]⟩ then (false,M) else if (qU M p.ru p.ve p.L p.st).getD false≠(p.kd==1) then (false,M) else (true,M++[p])
noncomputable def UA(D D':Ld)(M:List Pg)(p:Pg)(M':List Pg)(e:Int):kD
 |[.c (.ptr j 0),x],h=>match BY D (oG h j) h,LY x p with
  |some (q,r,a,b),some s=>some ((s∧q)∧(sJ M∧eW .i64 p.ve)∧sI M p=(M',e)∧D=dD M∧D'=dD M',iV e,iT [oG h j,r,a,b] [oG h j] [1] h (pA D' 0))
  |_,_=>none
 |_,_=>none
noncomputable def aEJ(D D':Ld)(p:Pg):kD
 |[.c (.ptr j 0),x],h=>match BY D (oG h j) h,LY x p with
  |some (q,r,a,b),some s=>some ((s∧q)∧tY D p∧gM D p=D',.t [],iT [oG h j,r,a,b] [oG h j] [1] h (pA D' 0))
  |_,_=>none
 |_,_=>none
noncomputable def aLY(D D1 D2:Ld)(M:List Pg)(p:Pg)(M1:List Pg)(e:Int):Ext:=mH [(25,UA D D1 M p M1 e),(42,uC OP),(43,uC mOf),(48,aEJ D D2 p)]
theorem tAc(D D1 D2:Ld)(M M1:List Pg)(p:Pg)(e:Int)(b:Nat):dF (aLY D D1 D2 M p M1 e) (dC aB Try.f69) (jR Try.f69 [0,1,2,3] [0] [b] [.c (.ptr 0 0),pgW p.kd p.ru p.ve p.L p.st p.se p.to] (mL D [])) (gP [0] [] (bK aB Try.f69))=bT (p.kd==0)
 (.rq
 (((kI aN 2 (bS cS p.L.length (aE aN p.L)) p.L.length (aE aN p.L)∧Pg.mk p.kd p.ru p.ve (bS cS p.L.length (aE aN p.L)) p.st p.se p.to=p) ∧
 D.M.length=D.M.length ∧
 D.M.length=D.M.length ∧
 (∀(e o:Nat),e<D.M.length→o<7→bQ [0,1,2,3] (aO aG D.M e o)=aO aG D.M e o) ∧
 bJ aB 81=bJ aB 81∧D.gp=D.gp∧bJ aB 79=bJ aB 79∧D.gs=D.gs) ∧
 (sJ M∧eW aC p.ve)∧sI M p=(M1,e)∧D=dD M∧D1=dD M1)
 (.done .ret
 (bY 2 [(0,.c (.ptr 0 0)),(1,.c (.p (.b (e==0))))] [.pin 1 b,.cells 86 [.sl 2 7 0 D1.M.length,.mp 3,.mp 4],.row 31 7 D1.M.length fun e o=>bQ [4,0,8,9,10] (C.p (aE aG D1.M e o)),.mapb (bJ aB 81) D1.gp,.mapl (bJ aB 79) 3 1 D1.gs none])))
 (bT (p.kd != 1)
 (bT (p.kd != 2)
 (.done .ret
 (bY 2 [(0,.c (.ptr 0 0)),(1,.c (.p (.b false)))] [.pin 1 b,.cells 86 [.sl 2 7 0 D.M.length,.mp 3,.mp 4],.row 31 7 D.M.length fun e o=>bQ [4,0,1,2,3] (bQ [0,1,2,3] (aO aG D.M e o)),.mapb (bJ aB 81) D.gp,.mapl (bJ aB 79) 3 1 D.gs none]))
 (.rq (kI aN 2 (bS cS p.L.length (aE aN p.L)) p.L.length (aE aN p.L))
 (bT (!hP (Pg.mk p.kd p.ru p.ve (bS cS p.L.length (aE aN p.L)) p.st p.se p.to))
 (.done .ret
 (bY 2 [(0,.c (.ptr 0 0)),(1,.c (.p (.b false)))] [.pin 1 b,.cells 86 [.sl 2 7 0 D.M.length,.mp 3,.mp 4],.row 31 7 D.M.length fun e o=>bQ [4,0,1,2,3] (bQ [0,1,2,3] (aO aG D.M e o)),.mapb (bJ aB 81) D.gp,.mapl (bJ aB 79) 3 1 D.gs none]))
 (bT (!p.to.toList==(aH #[]).toList)
 (.done .ret
 (bY 2 [(0,.c (.ptr 0 0)),(1,.c (.p (.b false)))] [.pin 1 b,.cells 86 [.sl 2 7 0 D.M.length,.mp 3,.mp 4],.row 31 7 D.M.length fun e o=>bQ [4,0,1,2,3] (bQ [0,1,2,3] (aO aG D.M e o)),.mapb (bJ aB 81) D.gp,.mapl (bJ aB 79) 3 1 D.gs none]))
 (.rq (kI aN 2 (bS cS p.L.length (aE aN p.L)) p.L.length (aE aN p.L)∧(cH (bS cS p.L.length (aE aN p.L))).size≤1000000)
 (.rq
 (bJ aB 81=bJ aB 81 ∧
 bJ aB 81 (iK #[cU p.ru,cT aC p.ve,cU (cH (bS cS p.L.length (aE aN p.L))),cT aC p.st])=true)
 (bT
 (!(D.gp (iK #[cU p.ru,cT aC p.ve,cU (cH (bS cS p.L.length (aE aN p.L))),cT aC p.st])).getD false ==
 (p.kd==1))
 (.done .ret
 (bY 2 [(0,.c (.ptr 0 0)),(1,.c (.p (.b false)))] [.pin 1 b,.cells 86 [.sl 2 7 0 D.M.length,.mp 3,.mp 4],.row 31 7 D.M.length fun e o=>bQ [4,0,1,2,3] (bQ [0,1,2,3] (aO aG D.M e o)),.mapb (bJ aB 81) D.gp,.mapl (bJ aB 79) 3 1 D.gs none]))
 (.rq
 (((kI aN 2 (bS cS p.L.length (aE aN p.L)) p.L.length (aE aN p.L)∧Pg.mk p.kd p.ru p.ve (bS cS p.L.length (aE aN p.L)) p.st p.se p.to=p) ∧
 D.M.length=D.M.length ∧
 D.M.length=D.M.length ∧
 (∀(e o:Nat),e<D.M.length→o<7→bQ [0,1,2,3] (aO aG D.M e o)=aO aG D.M e o) ∧
 bJ aB 81=bJ aB 81∧D.gp=D.gp∧bJ aB 79=bJ aB 79∧D.gs=D.gs) ∧
 tY D p∧gM D p=D2)
 (.done .ret
 (bY 2 [(0,.c (.ptr 0 0)),(1,.c (.p (.b true)))] [.pin 1 b,.cells 86 [.sl 2 7 0 D2.M.length,.mp 3,.mp 4],.row 31 7 D2.M.length fun e o=>bQ [4,0,8,9,10] (C.p (aE aG D2.M e o)),.mapb (bJ aB 81) D2.gp,.mapl (bJ aB 79) 3 1 D2.gs none]))))))))))
 (.rq (kI aN 2 (bS cS p.L.length (aE aN p.L)) p.L.length (aE aN p.L))
 (bT (!hP (Pg.mk p.kd p.ru p.ve (bS cS p.L.length (aE aN p.L)) p.st p.se p.to))
 (.done .ret
 (bY 2 [(0,.c (.ptr 0 0)),(1,.c (.p (.b false)))] [.pin 1 b,.cells 86 [.sl 2 7 0 D.M.length,.mp 3,.mp 4],.row 31 7 D.M.length fun e o=>bQ [4,0,1,2,3] (bQ [0,1,2,3] (aO aG D.M e o)),.mapb (bJ aB 81) D.gp,.mapl (bJ aB 79) 3 1 D.gs none]))
 (bT (!p.to.toList==(aH #[]).toList)
 (.done .ret
 (bY 2 [(0,.c (.ptr 0 0)),(1,.c (.p (.b false)))] [.pin 1 b,.cells 86 [.sl 2 7 0 D.M.length,.mp 3,.mp 4],.row 31 7 D.M.length fun e o=>bQ [4,0,1,2,3] (bQ [0,1,2,3] (aO aG D.M e o)),.mapb (bJ aB 81) D.gp,.mapl (bJ aB 79) 3 1 D.gs none]))
 (.rq (kI aN 2 (bS cS p.L.length (aE aN p.L)) p.L.length (aE aN p.L)∧(cH (bS cS p.L.length (aE aN p.L))).size≤1000000)
 (.rq
 (bJ aB 81=bJ aB 81 ∧
 bJ aB 81 (iK #[cU p.ru,cT aC p.ve,cU (cH (bS cS p.L.length (aE aN p.L))),cT aC p.st])=true)
 (bT
 (!(D.gp (iK #[cU p.ru,cT aC p.ve,cU (cH (bS cS p.L.length (aE aN p.L))),cT aC p.st])).getD false ==
 (p.kd==1))
 (.done .ret
 (bY 2 [(0,.c (.ptr 0 0)),(1,.c (.p (.b false)))] [.pin 1 b,.cells 86 [.sl 2 7 0 D.M.length,.mp 3,.mp 4],.row 31 7 D.M.length fun e o=>bQ [4,0,1,2,3] (bQ [0,1,2,3] (aO aG D.M e o)),.mapb (bJ aB 81) D.gp,.mapl (bJ aB 79) 3 1 D.gs none]))
 (.rq
 (((kI aN 2 (bS cS p.L.length (aE aN p.L)) p.L.length (aE aN p.L)∧Pg.mk p.kd p.ru p.ve (bS cS p.L.length (aE aN p.L)) p.st p.se p.to=p) ∧
 D.M.length=D.M.length ∧
 D.M.length=D.M.length ∧
 (∀(e o:Nat),e<D.M.length→o<7→bQ [0,1,2,3] (aO aG D.M e o)=aO aG D.M e o) ∧
 bJ aB 81=bJ aB 81∧D.gp=D.gp∧bJ aB 79=bJ aB 79∧D.gs=D.gs) ∧
 tY D p∧gM D p=D2)
 (.done .ret
 (bY 2 [(0,.c (.ptr 0 0)),(1,.c (.p (.b true)))] [.pin 1 b,.cells 86 [.sl 2 7 0 D2.M.length,.mp 3,.mp 4],.row 31 7 D2.M.length fun e o=>bQ [4,0,8,9,10] (C.p (aE aG D2.M e o)),.mapb (bJ aB 81) D2.gp,.mapl (bJ aB 79) 3 1 D2.gs none])))))))))):=by kernel_rfl
section
variable {G:Nat→Option Obj}
set_option maxRecDepth 100000 in
theorem aIM(D D':Ld)(M:List Pg)(p:Pg)(M':List Pg)(e:Int):gG aB G 25 (UA D D' M p M' e):=by
 intro args h p0 v h' hm hp;unfold UA at hm
 split at hm;rotate_left;· cases hm
 split at hm;rotate_left;· cases hm
 rename_i j x _ _ q r a b s hl hx;obtain⟨rfl,rfl,rfl⟩:=gO hm;obtain⟨⟨hr,hq⟩,⟨hM,hve⟩,he,rfl,rfl⟩:=hp;obtain⟨g,k1,k2,k3,k4,hg⟩:=rZ hl hq
 have hf:=AS hM p hve
 rw[he]at hf
 have hm:=AY (G:=G) (dD M) p (fun _ hok=>zF hM hok hve) []
 rw[hf]at hm
 exact jW.args (args':=[.c (.ptr j 0),uK p]) (pZ (vW (args:=[uK p]) (vs:=[iV e]) (D':=dD M') Try.func25 (by kernel_rfl) k1 k2 k3 k4 hg rfl fun b=>hm b _)) (.cons (.refl _) (.cons (tJ hx hr) .nil))
set_option maxRecDepth 100000 in
theorem aNP(D D':Ld)(p:Pg):gG aB G 48 (aEJ D D' p):=by
 intro args h p0 v h' hm hp;unfold aEJ at hm
 split at hm;rotate_left;· cases hm
 split at hm;rotate_left;· cases hm
 rename_i j x _ _ q r a b s hl hx;obtain⟨rfl,rfl,rfl⟩:=gO hm;obtain⟨⟨hr,hq⟩,hF,rfl⟩:=hp;obtain⟨g,k1,k2,k3,k4,hg⟩:=rZ hl hq
 exact jW.args (args':=[.c (.ptr j 0),uK p]) (pZ (vW (args:=[uK p]) (vs:=[]) (D':=gM D p) Try.func48 (by kernel_rfl) k1 k2 k3 k4 hg rfl fun b=>RR D p hF [] b)) (.cons (.refl _) (.cons (tJ hx hr) .nil))
theorem RD(D D1 D2:Ld)(M:List Pg)(p:Pg)(M1:List Pg)(e:Int):bG aB G (aLY D D1 D2 M p M1 e):=eM (by simp;exact⟨aIM D D1 M p M1 e,TC.lift,aIG.lift,aNP D D2 p⟩)
set_option maxRecDepth 100000 in
set_option maxHeartbeats 1000000 in
theorem aG6(M:List Pg)(hM:sJ M)(p:Pg)(hve:eW .i64 p.ve)(b:Nat)(Q:X→St→Prop):eP aB G (Zm [0] (bK aB Try.f69) fun s=>cW G s ⟨[.c (.ptr 0 0)]++[bV (uJ M p).1],pA (dD (uJ M p).2) b⟩) (dC aB Try.f69) (jR Try.f69 [0,1,2,3] [0] [b] [.c (.ptr 0 0),uK p] (mL (dD M) [])) Q:=by
 obtain⟨M1,e,hf⟩:∃M1 e,sI M p=(M1,e):=⟨_,_,rfl⟩
 obtain⟨R,hR⟩:∃R,uJ M p=R:=⟨_,rfl⟩
 have hR2:=hR
 rw[hR];unfold uJ at hR2;rw[hf]at hR2;dsimp only at hR2;refine eP.evH (RD (dD M) (dD M1) (gM (dD M) p) M p M1 e) (tAc (dD M) (dD M1) (gM (dD M) p) M M1 p e b) ?_;simp only[cD,bA,aP,kA,gN,qR,beq_iff_eq,bne_iff_ne,bne_eq_false_iff_eq,beq_eq_false_iff_ne,ne_eq,eQ,decide_eq_true_eq,decide_eq_false_iff_not,fX]
 have hIs:=dP aN 2 p.L
 refine⟨fun h0=>?_,fun h0=>?_⟩
 ·rw[if_pos h0]at hR2
  subst hR2
  exact⟨⟨⟨⟨hIs,trivial⟩,trivial,trivial,fun _ _ _ _=>rfl,trivial,trivial,trivial,trivial⟩,⟨hM,hve⟩,hf,trivial,trivial⟩,⟨aI (by kernel_rfl)⟩⟩
 rw[if_neg h0]at hR2;clear hf
 have no:(false,M)=R→cW G (bY 2 [(0,.c (.ptr 0 0)),(1,bV false)] [.pin 1 b,.cells 86 [.sl 2 7 0 (dD M).M.length,.mp 3,.mp 4],.row 31 7 (dD M).M.length (aO aG (dD M).M),.mapb (bJ aB 81) (dD M).gp,.mapl (bJ aB 79) 3 1 (dD M).gs none]) ⟨[.c (.ptr 0 0)]++[bV R.1],pA (dD R.2) b⟩:=by
  rintro rfl;exact aI rfl
 have sz:hP p=true→(cH p.L).size≤1000000∧bJ aB 81 (lC p.ru p.ve (cH p.L) p.st)=true∧tY (dD M) p∧∀t,(dD M).gp (lC p.ru p.ve (cH p.L) t)=qU M p.ru p.ve p.L t:=fun g=>by
  have hF:=zF hM g hve
  obtain⟨S,hv,_,_⟩:=(uU hM.1).vw p.ru p.ve p.L (iP.1 g).2.2.1
  have:=hv.gp
  rw[mF]at this;exact⟨hF.2.2.1,hF.1,hF,this⟩
 refine⟨fun h1=>⟨fun h2=>⟨no (by rw[if_pos (.inl ⟨h1,h2⟩)]at hR2;exact hR2)⟩,fun h2=>?_⟩,fun h1=>?_⟩
 all_goals
  refine⟨hIs,fun g1=>⟨no (by rw[if_pos (.inr (.inl g1))]at hR2;exact hR2)⟩,fun g1=>⟨fun g2=>⟨no (by rw[if_pos (.inr (.inr g2))]at hR2;exact hR2)⟩,fun g2=>?_⟩⟩;obtain⟨s1,s2,s3,s4⟩:=sz g1
  have hk:¬(p.kd≠1∧p.kd≠2):=by omega
  rw[if_neg (fun q=>q.elim hk fun q=>q.elim (fun q=>absurd (g1.symm.trans q) (by decide)) fun q=>q g2)]at hR2
  have s5:=s4 p.st
  unfold lC at s5;rw[s5];refine⟨⟨hIs,s1⟩,⟨trivial,s2⟩,fun g3=>⟨no (by rw[if_pos (by simpa using g3)]at hR2;exact hR2)⟩,fun g3=>?_⟩;rw[if_neg (by simpa using g3)]at hR2;subst hR2;refine⟨⟨⟨⟨hIs,trivial⟩,trivial,trivial,fun _ _ _ _=>rfl,trivial,trivial,trivial,trivial⟩,s3,trivial⟩,⟨?_⟩⟩
  show cW G _ ⟨[.c (.ptr 0 0)]++[bV true],pA (dD (M++[p])) b⟩
  rw[AA]
  exact aI (by kernel_rfl)
noncomputable def aEK(D D':Ld)(M:List Pg)(p:Pg)(M':List Pg)(ok:Bool):kD
 |[.c (.ptr j 0),x],h=>match BY D (oG h j) h,LY x p with
  |some (q,r,a,b),some s=>some ((s∧q)∧(sJ M∧eW .i64 p.ve)∧uJ M p=(ok,M')∧D=dD M∧D'=dD M',bV ok,iT [oG h j,r,a,b] [oG h j] [1] h (pA D' 0))
  |_,_=>none
 |_,_=>none
set_option maxRecDepth 100000 in
theorem aNQ(D D':Ld)(M:List Pg)(p:Pg)(M':List Pg)(ok:Bool):gG aB G 69 (aEK D D' M p M' ok):=by
 intro args h p0 v h' hm hp;unfold aEK at hm
 split at hm;rotate_left;· cases hm
 split at hm;rotate_left;· cases hm
 rename_i j x _ _ q r a b s hl hx;obtain⟨rfl,rfl,rfl⟩:=gO hm;obtain⟨⟨hr,hq⟩,⟨hM,hve⟩,he,rfl,rfl⟩:=hp;obtain⟨g,k1,k2,k3,k4,hg⟩:=rZ hl hq
 have hm:=aG6 (G:=G) M hM p hve
 rw[he]at hm
 exact jW.args (args':=[.c (.ptr j 0),uK p]) (pZ (vW (args:=[uK p]) (vs:=[bV ok]) (D':=dD M') Try.func69 (by kernel_rfl) k1 k2 k3 k4 hg rfl fun b=>hm b _)) (.cons (.refl _) (.cons (tJ hx hr) .nil))
end
def xU(B:List UInt8):Nat→Option (List Pg×Rs)
 |0=>some ([],(gE B ⟨0,0⟩).2)
 |i+1=>match xU B i with
  |none=>none
  |some (M,s)=>match (kR B s).2.1 with
   |false=>none
   |true=>match (uJ M (kR B s).1).1 with
    |false=>none
    |true=>some ((uJ M (kR B s).1).2,(kR B s).2.2)
def BD(B:List UInt8):Option (List Pg):=if (gE B ⟨0,0⟩).1<0 then none else match xU B (gE B ⟨0,0⟩).1.toNat with
 |none=>none
 |some (M,s)=>if GF B s≠0 then none else some M
noncomputable def aLR(B:List UInt8):Ext:=mH [(66,TU B),(20,aE9)]
def aLQ(B:List UInt8)(F:Rs→Int×Rs):Ext:=mH [(67,XA B F)]
def aLP(B:List UInt8)(p:Pg)(ok:Bool)(s':Rs):Ext:=mH [(68,TR B p ok s')]
noncomputable def aLO(D D':Ld)(M:List Pg)(p:Pg)(M':List Pg)(ok:Bool):Ext:=mH [(69,aEK D D' M p M' ok)]
def aLN(B:List UInt8)(r:Int):Ext:=mH [(70,aE8 B r)]
theorem aTC(B:List UInt8)(h:List AO):dF (aLR B) (dL 3 (dC aB jV)) (jR jV [] [] [] [aU bI 1 B] h) (gP [] (fJ 37 [4,5]) (bK aB jV))=Tr.rq ((B.length=B.length∧∀(e o:Nat),e<B.length→o<1→aE bI B e o=aE bI B e o)∧B.length≤140737488355328)
 (.rq True
 (.done .normal
 (bY 37 [(4,.c (.ptr 0 0)),(5,.c (.ptr 1 0))] [.cells 123 [.p (.l 1 B.length (aE bI B)),.p (.i .i64 (↑(Rs.mk 0 0).at_:Int)),.p (.i .i64 (Rs.mk 0 0).er)],.cells 86 [.sl 2 7 0 0,.mp 3,.mp 4],.row 31 7 0 fun e o=>bQ [0,1,2,3,4] (C.p (aE aG CO.M e o)),.mapb (bJ aB 81) CO.gp,.mapl (bJ aB 79) 3 1 CO.gs none]))):=by kernel_rfl
theorem aTB(B:List UInt8)(F:Rs→Int×Rs)(D:Ld)(a:Nat)(e:Int):dF (aLQ B F) (dL 4 (bL 3 (dC aB jV))) (bY 37 [(4,.c (.ptr 0 0)),(5,.c (.ptr 1 0))] [lZ B ⟨a,e⟩,.cells 86 [.sl 2 7 0 D.M.length,.mp 3,.mp 4],.row 31 7 D.M.length (aO aG D.M),.mapb (bJ aB 81) D.gp,.mapl (bJ aB 79) 3 1 D.gs none]) (gP [] (fJ 37 [4,5,16,17]) (bK aB jV))=Tr.rq
 ((C.p (PV.l 1 B.length (aE bI B))=C.p (PV.l 1 B.length (aE bI B))∧0≤(↑(Rs.mk a e).at_:Int)∧(↑(Rs.mk a e).at_:Int)≤(↑B.length:Int)∧B.length≤140737488355328)∧F=gE B)
 (bT (decide ((F (Rs.mk (↑(Rs.mk a e).at_:Int).toNat (Rs.mk a e).er)).fst<0)) (.done .ret (bY 2 [(0,.c (.p (.z (Value.pointer none)))),(1,.c (.p (.i .i64 2)))] []))
 (.done .normal
 (bY 37 [(4,.c (.ptr 0 0)),(5,.c (.ptr 1 0)),(16,.c (.p (.i .i64 (F (Rs.mk (↑(Rs.mk a e).at_:Int).toNat (Rs.mk a e).er)).fst))),(17,.c (.p (.i .i64 0)))] [.cells 123 [.p (.l 1 B.length (aE bI B)),.p (.i .i64 (↑(F (Rs.mk (↑(Rs.mk a e).at_:Int).toNat (Rs.mk a e).er)).snd.at_:Int)),.p (.i .i64 (F (Rs.mk (↑(Rs.mk a e).at_:Int).toNat (Rs.mk a e).er)).snd.er)],.cells 86 [.sl 2 7 0 D.M.length,.mp 3,.mp 4],.row 31 7 D.M.length fun e o=>bQ [0,1,2,3,4] (aO aG D.M e o),.mapb (bJ aB 81) D.gp,.mapl (bJ aB 79) 3 1 D.gs none]))):=by kernel_rfl
theorem aTA(B:List UInt8)(D:Ld)(n:Int)(i a:Nat)(e:Int):dF fH (dL 2 (gQ (dC aB jV) 7)) (bY 37 [(4,.c (.ptr 0 0)),(5,.c (.ptr 1 0)),(16,iV n),(17,iV i)] [lZ B ⟨a,e⟩,.cells 86 [.sl 2 7 0 D.M.length,.mp 3,.mp 4],.row 31 7 D.M.length (aO aG D.M),.mapb (bJ aB 81) D.gp,.mapl (bJ aB 79) 3 1 D.gs none]) (gP [] (fJ 37 [4,5,16,17]) (bK aB jV))=bT (decide ((↑i:Int)<n))
 (.done .normal
 (bY 37 [(4,.c (.ptr 0 0)),(5,.c (.ptr 1 0)),(16,.c (.p (.i .i64 n))),(17,.c (.p (.i .i64 (↑i:Int))))] [.cells 123 [.p (.l 1 B.length (aE bI B)),.p (.i .i64 (↑(Rs.mk a e).at_:Int)),.p (.i .i64 (Rs.mk a e).er)],.cells 86 [.sl 2 7 0 D.M.length,.mp 3,.mp 4],.row 31 7 D.M.length fun e o=>bQ [0,1,2,3,4] (aO aG D.M e o),.mapb (bJ aB 81) D.gp,.mapl (bJ aB 79) 3 1 D.gs none]))
 (.done (.exit 0)
 (bY 37 [(4,.c (.ptr 0 0)),(5,.c (.ptr 1 0)),(16,.c (.p (.i .i64 n))),(17,.c (.p (.i .i64 (↑i:Int))))] [.cells 123 [.p (.l 1 B.length (aE bI B)),.p (.i .i64 (↑(Rs.mk a e).at_:Int)),.p (.i .i64 (Rs.mk a e).er)],.cells 86 [.sl 2 7 0 D.M.length,.mp 3,.mp 4],.row 31 7 D.M.length fun e o=>bQ [0,1,2,3,4] (aO aG D.M e o),.mapb (bJ aB 81) D.gp,.mapl (bJ aB 79) 3 1 D.gs none])):=by kernel_rfl
theorem aT9(B:List UInt8)(D:Ld)(p:Pg)(ok:Bool)(n:Int)(i a a':Nat)(e e':Int):dF (aLP B p ok ⟨a',e'⟩) (dL 1 (eZ (inr (bC .skip (gQ (dC aB jV) 7) 2)))) (bY 37 [(4,.c (.ptr 0 0)),(5,.c (.ptr 1 0)),(16,iV n),(17,iV i)] [lZ B ⟨a,e⟩,.cells 86 [.sl 2 7 0 D.M.length,.mp 3,.mp 4],.row 31 7 D.M.length (aO aG D.M),.mapb (bJ aB 81) D.gp,.mapl (bJ aB 79) 3 1 D.gs none]) (gP [] (fJ 37 [4,5,7,8,16,17]) (bK aB jV))=Tr.rq
 ((C.p (PV.l 1 B.length (aE bI B))=C.p (PV.l 1 B.length (aE bI B))∧0≤(↑(Rs.mk a e).at_:Int)∧(↑(Rs.mk a e).at_:Int)≤(↑B.length:Int)∧B.length≤140737488355328) ∧
 kR B (Rs.mk (↑(Rs.mk a e).at_:Int).toNat (Rs.mk a e).er)=(p,ok,Rs.mk a' e'))
 (.done .normal
 (bY 37 [(4,.c (.ptr 0 0)),(5,.c (.ptr 1 0)),(7,.c (.ptr 2 0)),(8,.c (.p (.b ok))),(16,.c (.p (.i .i64 n))),(17,.c (.p (.i .i64 (↑i:Int))))] [.cells 123 [.p (.l 1 B.length (aE bI B)),.p (.i .i64 (↑(Rs.mk a' e').at_:Int)),.p (.i .i64 (Rs.mk a' e').er)],.cells 86 [.sl 3 7 0 D.M.length,.mp 4,.mp 5],.cells 31 [.p (.i .i64 p.kd),.p (.s p.ru),.p (.i .i64 p.ve),.p (.l 2 p.L.length (aE aN p.L)),.p (.i .i64 p.st),.p (.i .i64 p.se),.p (.s p.to)],.row 31 7 D.M.length fun e o=>bQ [0,1,7,2,3,4] (aO aG D.M e o),.mapb (bJ aB 81) D.gp,.mapl (bJ aB 79) 3 1 D.gs none])):=by kernel_rfl
theorem aT8(B:List UInt8)(D D':Ld)(M M':List Pg)(p:Pg)(ok acc:Bool)(n:Int)(i a:Nat)(e:Int):dF (aLO D D' M p M' acc) (bL 1 (eZ (inr (bC .skip (gQ (dC aB jV) 7) 2)))) (bY 37 [(4,.c (.ptr 0 0)),(5,.c (.ptr 1 0)),(7,.c (.ptr 2 0)),(8,bV ok),(16,iV n),(17,iV i)] [lZ B ⟨a,e⟩,.cells 86 [.sl 3 7 0 D.M.length,.mp 4,.mp 5],.cells 31 [.p (.i .i64 p.kd),.p (.s p.ru),.p (.i .i64 p.ve),.p (bO aN 2 p.L),.p (.i .i64 p.st),.p (.i .i64 p.se),.p (.s p.to)],.row 31 7 D.M.length (aO aG D.M),.mapb (bJ aB 81) D.gp,.mapl (bJ aB 79) 3 1 D.gs none]) (gP [] (fJ 37 [4,5,16,17]) (bK aB jV))=bT (!ok) (.done .ret (bY 2 [(0,.c (.p (.z (Value.pointer none)))),(1,.c (.p (.i .i64 2)))] []))
 (.rq
 (((kI aN 2 (bS cS p.L.length (aE aN p.L)) p.L.length (aE aN p.L)∧Pg.mk p.kd p.ru p.ve (bS cS p.L.length (aE aN p.L)) p.st p.se p.to=p) ∧
 D.M.length=D.M.length ∧
 D.M.length=D.M.length ∧
 (∀(e o:Nat),e<D.M.length→o<7→aO aG D.M e o=aO aG D.M e o)∧bJ aB 81=bJ aB 81∧D.gp=D.gp∧bJ aB 79=bJ aB 79∧D.gs=D.gs) ∧
 (sJ M∧eW aC p.ve)∧uJ M p=(acc,M')∧D=dD M∧D'=dD M')
 (bT (!acc) (.done .ret (bY 2 [(0,.c (.p (.z (Value.pointer none)))),(1,.c (.p (.i .i64 2)))] []))
 (.done .normal
 (bY 37 [(4,.c (.ptr 0 0)),(5,.c (.ptr 1 0)),(16,.c (.p (.i .i64 n))),(17,.c (.p (.i .i64 (↑i:Int))))] [.cells 123 [.p (.l 1 B.length (aE bI B)),.p (.i .i64 (↑(Rs.mk a e).at_:Int)),.p (.i .i64 (Rs.mk a e).er)],.cells 86 [.sl 2 7 0 D'.M.length,.mp 3,.mp 4],.row 31 7 D'.M.length fun e o=>bQ [0,1,8,9,10] (C.p (aE aG D'.M e o)),.mapb (bJ aB 81) D'.gp,.mapl (bJ aB 79) 3 1 D'.gs none])))):=by kernel_rfl
theorem aT7(B:List UInt8)(D:Ld)(n:Int)(i a:Nat)(e:Int):dF fH (bL 3 (gQ (dC aB jV) 7)) (bY 37 [(4,.c (.ptr 0 0)),(5,.c (.ptr 1 0)),(16,iV n),(17,iV i)] [lZ B ⟨a,e⟩,.cells 86 [.sl 2 7 0 D.M.length,.mp 3,.mp 4],.row 31 7 D.M.length (aO aG D.M),.mapb (bJ aB 81) D.gp,.mapl (bJ aB 79) 3 1 D.gs none]) (gP [] (fJ 37 [4,5,16,17]) (bK aB jV))=Tr.rq (eW aC ((↑i:Int)+1))
 (.done .normal
 (bY 37 [(4,.c (.ptr 0 0)),(5,.c (.ptr 1 0)),(16,.c (.p (.i .i64 n))),(17,.c (.p (.i .i64 ((↑i:Int)+1))))] [.cells 123 [.p (.l 1 B.length (aE bI B)),.p (.i .i64 (↑(Rs.mk a e).at_:Int)),.p (.i .i64 (Rs.mk a e).er)],.cells 86 [.sl 2 7 0 D.M.length,.mp 3,.mp 4],.row 31 7 D.M.length fun e o=>bQ [0,1,2,3,4] (aO aG D.M e o),.mapb (bJ aB 81) D.gp,.mapl (bJ aB 79) 3 1 D.gs none])):=by kernel_rfl
theorem aT6(B:List UInt8)(D:Ld)(n:Int)(i a:Nat)(e r:Int):dF (aLN B r) (bL 8 (dC aB jV)) (bY 37 [(4,.c (.ptr 0 0)),(5,.c (.ptr 1 0)),(16,iV n),(17,iV i)] [lZ B ⟨a,e⟩,.cells 86 [.sl 2 7 0 D.M.length,.mp 3,.mp 4],.row 31 7 D.M.length (aO aG D.M),.mapb (bJ aB 81) D.gp,.mapl (bJ aB 79) 3 1 D.gs none]) (gP [] [] (bK aB jV))=Tr.rq
 ((C.p (PV.l 1 B.length (aE bI B))=C.p (PV.l 1 B.length (aE bI B))∧0≤(↑(Rs.mk a e).at_:Int)∧(↑(Rs.mk a e).at_:Int)≤(↑B.length:Int)∧B.length≤140737488355328) ∧
 GF B (Rs.mk (↑(Rs.mk a e).at_:Int).toNat (Rs.mk a e).er)=r)
 (bT (r != 0) (.done .ret (bY 2 [(0,.c (.p (.z (Value.pointer none)))),(1,.c (.p (.i .i64 2)))] []))
 (.done .ret
 (bY 2 [(0,.c (.ptr 0 0)),(1,.c (.p (.i .i64 0)))] [.cells 86 [.sl 1 7 0 D.M.length,.mp 2,.mp 3],.row 31 7 D.M.length fun e o=>bQ [1,2,3,4] (aO aG D.M e o),.mapb (bJ aB 81) D.gp,.mapl (bJ aB 79) 3 1 D.gs none]))):=by kernel_rfl
theorem BJ{B:List UInt8}:∀(f i a n:Nat),a≤(mN B f i a n).2.at_
 |0,_,a,_=>aW _
 |f+1,i,a,n=>by
  unfold mN;split
  ·exact aW _
  ·split
   ·exact Nat.le_succ _
   ·split
    ·exact Nat.le_succ _
    ·exact Nat.le_trans (Nat.le_succ _) (BJ f _ _ _)
theorem DM(B:List UInt8)(s:Rs):s.at_≤(kE B s).2.at_:=by
 unfold kE;split
 ·exact aW _
 ·exact BJ _ _ _ _
theorem wC(B:List UInt8)(s:Rs):s.at_≤(gE B s).2.at_:=DM B s
theorem vQ(B:List UInt8)(s:Rs):s.at_≤(jS B s).2.at_:=by
 have h:=DM B s
 show s.at_≤(rO B s).2.at_
 unfold rO;split
 ·exact h
 ·split
  ·exact h
  ·exact Nat.le_trans h (Nat.le_add_right _ _)
theorem JN(B:List UInt8):∀(n:Nat) (s:Rs),s.at_≤(pL B n s).2.at_
 |0,_=>aW _
 |n+1,s=>Nat.le_trans (JN B n s) (Nat.le_trans (vQ B _) (vQ B _))
theorem aGN{B:List UInt8}{s:Rs}(h:(jS B s).1≠⟨#[]⟩):s.er=0:=by
 refine NE (B:=B) (Decidable.byContradiction fun hu=>h ?_);unfold jS rO;rw[if_pos hu]
theorem XM(B:List UInt8)(s:Rs):eW .i64 (gE B s).1:=YS (DN B s)
theorem aIX{s:ByteArray}(h:jK s=true):s≠⟨#[]⟩:=by
 rintro rfl;revert h
 have e:jK ⟨#[]⟩=false:=by kernel_rfl
 rw[e];decide
theorem aBJ{M M':List Pg}{p:Pg}(h:uJ M p=(true,M')):M'=M++[p]∧hP p=true∧(p.kd=0∨p.kd=1∨p.kd=2):=by
 unfold uJ at h;split at h
 ·rename_i h0
  unfold sI at h;split at h
  ·injection h with h1 h2;exact absurd h1 (show ¬((1:Int)==0)=true by decide)
  rename_i hb;split at h
  ·injection h with h1 h2;exact absurd h1 (show ¬((10:Int)==0)=true by decide)
  split at h
  ·injection h with h1 h2;exact absurd h1 (show ¬((20:Int)==0)=true by decide)
  injection h with h1 h2;refine⟨h2.symm,?_,.inl h0⟩;cases hq:hP p with
  |true=>rfl
  |false=>exact absurd (.inl hq) hb
 ·rename_i h0
  split at h
  ·injection h with h1 h2;exact absurd h1 (by decide)
  rename_i hb;split at h
  ·injection h with h1 h2;exact absurd h1 (by decide)
  injection h with h1 h2;refine⟨h2.symm,?_,?_⟩
  ·cases hq:hP p with
   |true=>rfl
   |false=>exact absurd (.inr (.inl hq)) hb
  ·have:¬(p.kd≠1∧p.kd≠2):=fun h=>hb (.inl h)
   omega
theorem NT(B:List UInt8)(s:Rs):eW .i64 (kR B s).1.ve:=by
 unfold kR;dsimp only;split
 ·show (-9223372036854775808:Int)≤0∧(0:Int)≤9223372036854775807
  decide
 ·exact XM _ _
theorem aCS{B:List UInt8}{s:Rs}(h:s.at_≤B.length):(kR B s).2.2.at_≤B.length:=by
 have f4:=nJ (nJ (qW (nJ h)))
 unfold kR;dsimp only;split
 ·exact f4
 ·exact qW (nJ (nJ (LZ _ f4)))
theorem ZM{B:List UInt8}{s:Rs}(h:(kR B s).1.ru≠⟨#[]⟩):s.er=0∧s.at_+1≤(kR B s).2.2.at_:=by
 unfold kR at h ⊢;dsimp only at h ⊢;split at h
 ·exact absurd rfl h
 ·rename_i hn
  rw[if_neg hn]
  have h:(jS B (gE B s).2).1≠⟨#[]⟩:=h
  have h1:=aGN h
  obtain⟨h2,h3,_⟩:=aO4 h1
  have hp:=zU (VT (gE B s).1)
  have e:(bR (gE B s).1).length=(hG (VT (gE B s).1)).length:=rfl
  refine⟨h2,?_⟩
  have k1:=vQ B (gE B s).2
  have k2:=wC B (jS B (gE B s).2).2
  have k3:=wC B (gE B (jS B (gE B s).2).2).2
  have k4:=JN B (hdS B s).2.2.2.1.toNat (gE B (gE B (jS B (gE B s).2).2).2).2
  have k5:=wC B (pL B (hdS B s).2.2.2.1.toNat (gE B (gE B (jS B (gE B s).2).2).2).2).2
  have k6:=wC B (gE B (pL B (hdS B s).2.2.2.1.toNat (gE B (gE B (jS B (gE B s).2).2).2).2).2).2
  have k7:=vQ B (gE B (gE B (pL B (hdS B s).2.2.2.1.toNat (gE B (gE B (jS B (gE B s).2).2).2).2).2).2).2
  show s.at_+1≤(jS B (gE B (gE B (pL B (hdS B s).2.2.2.1.toNat (gE B (gE B (jS B (gE B s).2).2).2).2).2).2).2).2.at_
  omega
theorem RG(B:List UInt8):∀(i:Nat) (M:List Pg) (s:Rs),xU B i=some (M,s)→(∀q∈M,KL q)∧M.length=i∧i≤s.at_∧s.at_≤B.length
 |0,M,s,h=>by
  injection h with h;injection h with h1 h2;subst h1;subst h2;exact⟨fun q hq=>(by cases hq),rfl,bX _,nJ (bX _)⟩
 |i+1,M,s,h=>by
  unfold xU at h;split at h
  ·cases h
  rename_i N t hN;obtain⟨k1,k2,k3,k4⟩:=RG B i N t hN;split at h
  ·cases h
  rename_i hok;split at h
  ·cases h
  rename_i hac;injection h with h;injection h with h1 h2;subst h1;subst h2;obtain⟨a1,a2,a3⟩:=aBJ (M:=N) (p:=(kR B t).1) (M':=(uJ N (kR B t).1).2) (Prod.ext hac rfl);obtain⟨b1,b2⟩:=ZM (aIX (iP.1 a2).1);refine⟨fun q hq=>?_,by rw[a1,aL,k2];rfl,by omega,aCS k4⟩;rw[a1]at hq
  rcases List.mem_append.1 hq with hq|hq
  ·exact k1 q hq
  ·obtain rfl:=List.mem_singleton.1 hq
   exact⟨a2,NT B t,a3⟩
theorem JZ{B:List UInt8}{i:Nat}{M:List Pg}{s:Rs}(h:xU B i=some (M,s)):xU B (i+1)=match (kR B s).2.1 with
  |false=>none
  |true=>match (uJ M (kR B s).1).1 with
   |false=>none
   |true=>some ((uJ M (kR B s).1).2,(kR B s).2.2):=by
 show (match xU B i with
  |none=>none
  |some (M,s)=>match (kR B s).2.1 with
   |false=>none
   |true=>match (uJ M (kR B s).1).1 with
    |false=>none
    |true=>some ((uJ M (kR B s).1).2,(kR B s).2.2))=_
 rw[h]
theorem KA{B:List UInt8}{i:Nat}(h:xU B i=none):∀k,xU B (i+k)=none
 |0=>h
 |k+1=>by
  show xU B (i+k+1)=none
  unfold xU;rw[KA h k]
theorem JX{B:List UInt8}{n:Nat}(hn:(gE B ⟨0,0⟩).1=n){i:Nat}(hi:i≤n)(h:xU B i=none):BD B=none:=by
 unfold BD;rw[hn,if_neg (by omega),dW,show n=i+(n-i) by omega,KA h]
def aKL:List V:=[.c (.p (.z (.pointer none))),iV 2]
def JY(B:List UInt8):List V:=match BD B with
 |none=>aKL
 |some _=>[.c (.ptr 0 0),iV 0]
noncomputable def aB0(B:List UInt8):List AO:=match BD B with
 |none=>[]
 |some M=>mL (dD M) []
section
variable {G:Nat→Option Obj}
theorem QV(B:List UInt8):bG aB G (aLR B):=eM (by simp;exact⟨aID B,aDH⟩)
theorem QU(B:List UInt8):bG aB G (aLQ B (gE B)):=eM (by simp;exact aDG B (gE B))
theorem QT(B:List UInt8)(p:Pg)(ok:Bool)(s':Rs):bG aB G (aLP B p ok s'):=eM (by simp;exact aIA B p ok s')
theorem QS(D D':Ld)(M:List Pg)(p:Pg)(M':List Pg)(ok:Bool):bG aB G (aLO D D' M p M' ok):=eM (by simp;exact aNQ D D' M p M' ok)
theorem QR(B:List UInt8)(r:Int):bG aB G (aLN B r):=eM (by simp;exact aNH B r)
set_option maxRecDepth 100000 in
set_option maxHeartbeats 1000000 in
theorem RF(B:List UInt8)(hB:B.length≤140737488355328)(hN:(gE B ⟨0,0⟩).1≤50000∨B.length≤50000)(h:List AO)(Q:X→St→Prop):eP aB G (Zm [] (bK aB jV) fun s=>cW G s ⟨[]++JY B,aB0 B⟩) (dC aB jV) (jR jV [] [] [] [aU bI 1 B] h) Q:=by
 have bad:BD B=none→cW G (bY 2 [(0,.c (.p (.z (.pointer none)))),(1,iV 2)] []) ⟨[]++JY B,aB0 B⟩:=fun hz=>by
  unfold JY aB0;rw[hz];exact aI rfl
 refine eP.evG (QV B) 3 (aTC B h) ?_;simp only[bA,aP,cI];refine⟨⟨⟨trivial,fun _ _ _ _=>trivial⟩,hB⟩,trivial,⟨?_⟩⟩
 refine eP.pre (aI (st':=(fun(D:Ld) (a:Nat) (e:Int)=>bY 37 [(4,.c (.ptr 0 0)),(5,.c (.ptr 1 0))] [lZ B ⟨a,e⟩,.cells 86 [.sl 2 7 0 D.M.length,.mp 3,.mp 4],.row 31 7 D.M.length (aO aG D.M),.mapb (bJ aB 81) D.gp,.mapl (bJ aB 79) 3 1 D.gs none]) CO 0 0) (by kernel_rfl)) ?_
 refine eP.evG (QU B) 4 (aTB B (gE B) CO 0 0) ?_;simp only[cD,bA,aP,cI,kA,decide_eq_true_eq,decide_eq_false_iff_not,dW,KX]
 have f1:=nJ (B:=B) (s:=⟨0,0⟩) (bX _)
 refine⟨⟨⟨trivial,by omega,by omega,hB⟩,trivial⟩,fun h1=>⟨bad (by unfold BD;rw[if_pos h1])⟩,fun h1=>⟨?_⟩⟩
 obtain⟨n,hn⟩:∃n:Nat,(gE B ⟨0,0⟩).1=n:=⟨(gE B ⟨0,0⟩).1.toNat,by omega⟩
 have hd0:xU B 0=some ([],(gE B ⟨0,0⟩).2):=rfl
 rw[hn]at hN ⊢
 generalize hs0:(gE B ⟨0,0⟩).2=s0 at hd0 f1 ⊢
 obtain⟨a0,e0⟩:=s0
 refine eP.loop' (l:=bL 4 (bL 3 (dC aB jV))) (id:=0) (b:=inr (inr (bC .skip (dC aB jV) 7))) (r:=bL 8 (dC aB jV)) (by kernel_rfl) (σ:=Nat×List Pg×Rs)
   (fun s=>(fun(D:Ld) (a:Nat) (e:Int) (n:Int) (i:Nat)=>bY 37 [(4,.c (.ptr 0 0)),(5,.c (.ptr 1 0)),(16,iV n),(17,iV i)] [lZ B ⟨a,e⟩,.cells 86 [.sl 2 7 0 D.M.length,.mp 3,.mp 4],.row 31 7 D.M.length (aO aG D.M),.mapb (bJ aB 81) D.gp,.mapl (bJ aB 79) 3 1 D.gs none]) (dD s.2.1) s.2.2.at_ s.2.2.er (n:Int) s.1) (fun s=>s.1≤n∧xU B s.1=some s.2) (fun s=>n-s.1) (0,[],⟨a0,e0⟩) ⟨bX _,hd0⟩ (aI (by kernel_rfl)) ?_
 clear hd0 f1;rintro⟨i,M,a,e⟩ ⟨hi,hd⟩ Q1 q1n q1e _;dsimp only at hi hd q1n ⊢;obtain⟨k1,k2,k3,k4⟩:=RG B i M ⟨a,e⟩ hd;dsimp only at k3 k4
 have hM:sJ M:=⟨k1,by omega⟩
 refine eP.evG aY 2 (aTA B (dD M) n i a e) ?_;simp only[cD,aP,cI,mU,decide_eq_true_eq,decide_eq_false_iff_not];refine⟨fun h2=>⟨?_⟩,fun h2=>⟨q1e _ ?_⟩⟩
 ·have hdn:=JZ hd
  have hve:=NT B ⟨a,e⟩
  generalize hrd:kR B ⟨a,e⟩=rd at hdn hve ⊢
  obtain⟨p,ok,a',e'⟩:=rd;dsimp only at hdn hve ⊢
  refine eP.blk' (l:=bL 2 (gQ (dC aB jV) 7)) (id:=1) (a:=inr (bC .skip (gQ (dC aB jV) 7) 2)) (r:=bL 3 (gQ (dC aB jV) 7)) (by kernel_rfl) ?_
  intro Q2 q2n q2e _
  refine eP.pre (aI (st':=(fun(D:Ld) (n:Int)=>bY 37 [(4,.c (.ptr 0 0)),(5,.c (.ptr 1 0)),(16,iV n),(17,iV i)] [lZ B ⟨a,e⟩,.cells 86 [.sl 2 7 0 D.M.length,.mp 3,.mp 4],.row 31 7 D.M.length (aO aG D.M),.mapb (bJ aB 81) D.gp,.mapl (bJ aB 79) 3 1 D.gs none]) (dD M) (n:Int)) (by kernel_rfl)) (eP.evG (QT B p ok ⟨a',e'⟩) 1 (aT9 B (dD M) p ok n i a a' e e') ?_)
  simp only[bA,aP,cI,dW];refine⟨⟨⟨trivial,by omega,by omega,hB⟩,hrd⟩,⟨?_⟩⟩
  obtain⟨acc,M',hac⟩:∃acc M',uJ M p=(acc,M'):=⟨_,_,rfl⟩
  rw[hac]at hdn;dsimp only at hdn
  refine eP.pre (aI (st':=(fun(D:Ld) (n:Int) (a:Nat) (e:Int)=>bY 37 [(4,.c (.ptr 0 0)),(5,.c (.ptr 1 0)),(7,.c (.ptr 2 0)),(8,bV ok),(16,iV n),(17,iV i)] [lZ B ⟨a,e⟩,.cells 86 [.sl 3 7 0 D.M.length,.mp 4,.mp 5],.cells 31 [.p (.i .i64 p.kd),.p (.s p.ru),.p (.i .i64 p.ve),.p (bO aN 2 p.L),.p (.i .i64 p.st),.p (.i .i64 p.se),.p (.s p.to)],.row 31 7 D.M.length (aO aG D.M),.mapb (bJ aB 81) D.gp,.mapl (bJ aB 79) 3 1 D.gs none]) (dD M) (n:Int) a' e') (by kernel_rfl)) (eP.evH (QS (dD M) (dD M') M p M' acc) (aT8 B (dD M) (dD M') M M' p ok acc n i a' e') ?_)
  simp only[cD,bA,aP,cI,kA,gN,eQ,fX];refine⟨fun h3=>⟨bad ?_⟩,fun h3=>⟨⟨⟨⟨dP _ _ _,trivial⟩,trivial,trivial,fun _ _ _ _=>trivial,trivial,trivial,trivial,trivial⟩,⟨hM,hve⟩,hac,trivial,trivial⟩,fun h4=>⟨bad ?_⟩,fun h4=>⟨q2n _ ?_⟩⟩⟩
  ·rw[h3]at hdn
   exact JX hn (by omega:i+1≤n) hdn
  ·rw[h3,h4]at hdn
   exact JX hn (by omega:i+1≤n) hdn
  ·rw[h3,h4]at hdn
   refine eP.pre (aI (st':=(fun(D:Ld) (n:Int) (a:Nat) (e:Int)=>bY 37 [(4,.c (.ptr 0 0)),(5,.c (.ptr 1 0)),(16,iV n),(17,iV i)] [lZ B ⟨a,e⟩,.cells 86 [.sl 2 7 0 D.M.length,.mp 3,.mp 4],.row 31 7 D.M.length (aO aG D.M),.mapb (bJ aB 81) D.gp,.mapl (bJ aB 79) 3 1 D.gs none]) (dD M') (n:Int) a' e') (by kernel_rfl)) (eP.evH aY (aT7 B (dD M') n i a' e') ?_)
   simp only[bA,aP,cI,eW]
   have hnr:=XM B ⟨0,0⟩
   rw[hn]at hnr;simp only[eW]at hnr
   exact⟨by omega,⟨q1n (i+1,M',⟨a',e'⟩) _ ⟨by show i+1≤n;omega,hdn⟩ (by show n-(i+1)<n-i;omega) (aI (by kernel_rfl))⟩⟩
 ·obtain rfl:i=n:=by omega
  refine eP.pre (aI (st':=(fun(D:Ld) (n:Int)=>bY 37 [(4,.c (.ptr 0 0)),(5,.c (.ptr 1 0)),(16,iV n),(17,iV i)] [lZ B ⟨a,e⟩,.cells 86 [.sl 2 7 0 D.M.length,.mp 3,.mp 4],.row 31 7 D.M.length (aO aG D.M),.mapb (bJ aB 81) D.gp,.mapl (bJ aB 79) 3 1 D.gs none]) (dD M) (i:Int)) (by kernel_rfl)) ?_
  refine eP.evH (QR B (GF B ⟨a,e⟩)) (aT6 B (dD M) i i a e (GF B ⟨a,e⟩)) ?_;simp only[cD,bA,aP,kA,dW,bne_iff_ne,bne_eq_false_iff_eq,ne_eq]
  have hz:BD B=if GF B ⟨a,e⟩≠0 then none else some M:=by
   unfold BD;rw[hn,if_neg (by omega),dW,hd]
  refine⟨⟨⟨trivial,by omega,by omega,hB⟩,trivial⟩,fun h3=>⟨bad (by rw[hz,if_pos h3])⟩,fun h3=>⟨?_⟩⟩;rw[if_neg (by simpa using h3)]at hz;unfold JY aB0;rw[hz]
  exact aI (by kernel_rfl)
noncomputable def aEI(B:List UInt8)(D:Ld)(R:Option (List Pg)):kD
 |[x],h=>match leU x B with
  |some s=>match R with
   |none=>some (s∧(B.length≤140737488355328∧((gE B ⟨0,0⟩).1≤50000∨B.length≤50000))∧BD B=none,.t [.c (.p (.z (.pointer none))),.c (.p (.i .i64 2))],iT [] [] [] h [])
   |some M=>some (s∧(B.length≤140737488355328∧((gE B ⟨0,0⟩).1≤50000∨B.length≤50000))∧BD B=some M∧D=dD M,.t [.c (.ptr (fG h) 0),.c (.p (.i .i64 0))],iT [] [] [] h (mL D []))
  |none=>none
 |_,_=>none
set_option maxRecDepth 100000 in
theorem aNO(B:List UInt8)(D:Ld)(R:Option (List Pg)):gG aB G 37 (aEI B D R):=by
 intro args h p0 v h' hm hp;unfold aEI at hm
 split at hm;rotate_left;· cases hm
 split at hm;rotate_left;· cases hm
 rename_i x _ s hx;cases R with
 |none=>
  obtain⟨rfl,rfl,rfl⟩:=gO hm;obtain⟨hq,⟨hB,hN⟩,hz⟩:=hp
  have hm:=RF (G:=G) B hB hN h
  unfold JY aB0 at hm;rw[hz]at hm
  exact jW.args (args':=[aU bI 1 B]) (KP (vs:=aKL) (hE:=[]) Try.func37 (by kernel_rfl) rfl (hm _)) (.cons (FH hx hq) .nil)
 |some M=>
  obtain⟨rfl,rfl,rfl⟩:=gO hm;obtain⟨hq,⟨hB,hN⟩,hz,rfl⟩:=hp
  have hm:=RF (G:=G) B hB hN h
  unfold JY aB0 at hm;rw[hz]at hm
  exact jW.args (args':=[aU bI 1 B]) (KP (vs:=[.c (.ptr 0 0),iV 0]) (hE:=mL (dD M) []) Try.func37 (by kernel_rfl) (by rw[eL];rfl) (hm _)) (.cons (FH hx hq) .nil)
end
theorem zV:∀(k:Nat) {n:Nat},n<128^(k+1)→(hG n).length≤k+1
 |0,n,h=>by
  rw[rT (by simpa using h)];exact aW _
 |k+1,n,h=>by
  by_cases hn:n<128
  ·rw[rT hn];show 1≤_;omega
  ·rw[uO hn,eF]
   have:=zV k (n:=n / 128) (by rw[Nat.pow_succ]at h;omega)
   omega
theorem sA{n:Int}(h:eW .i64 n):(bR n).length≤10:=by
 have h2:=aBV h.1 h.2
 exact zV 9 (Nat.lt_of_lt_of_le h2 (by decide))
theorem yC{s:ByteArray}(h:s.size≤16):(dI s).length≤17:=by
 unfold dI
 have:s.data.toList.length=s.size:=by rw[jD];rfl
 have h2:=zV 0 (n:=s.size) (by omega)
 rw[aL];omega
theorem XI:∀ {L:List (ByteArray×ByteArray)},(∀x∈L,x.1.size≤16∧x.2.size≤16)→(mQ L).length≤34*L.length
 |[],_=>bX _
 |x::L,h=>by
  have h1:=h x (cZ ..)
  have h2:=XI (L:=L) fun y hy=>h y (cN _ hy)
  have h3:=yC h1.1
  have h4:=yC h1.2
  show (dI x.1++dI x.2++mQ L).length≤_
  simp only[aL,eF];omega
theorem WI{p:Pg}(h:KL p):∀x∈p.L,x.1.size≤16∧x.2.size≤16:=fun x hx=>by
 obtain⟨_,h2⟩:=kV (iP.1 h.1).2.2.1;exact⟨vU (h2 x hx).1,MZ (h2 x hx).2⟩
theorem aD8{p:Pg}(h:KL p):eW .i64 p.kd∧p.ru.size≤16∧eW .i64 p.ve∧p.L.length≤8∧eW .i64 p.st∧eW .i64 p.se∧p.to.size≤16:=by
 obtain⟨g1,g2,g3,g4,g5,g6⟩:=iP.1 h.1;refine⟨?_,vU g1,h.2.1,(kV g3).1,nU g4,nU g5,g6⟩
 have:=h.2.2
 simp only[eW];omega
theorem wA{k:Nat}(h:k≤1000000):eW .i64 (k:Int):=by simp only[eW];omega
theorem aHA{p:Pg}(h:KL p):(CZ p).length≤400:=by
 obtain⟨k1,k2,k3,k4,k5,k6,k7⟩:=aD8 h
 have l1:=sA k1
 have l2:=yC k2
 have l3:=sA k3
 have l4:=sA (wA (k:=p.L.length) (by omega))
 have l5:=XI (WI h)
 have l6:=sA k5
 have l7:=sA k6
 have l8:=yC k7
 unfold CZ;simp only[aL];omega
theorem NW:∀ {M:List Pg},(∀p∈M,KL p)→(lU M).length≤400*M.length
 |[],_=>bX _
 |p::M,h=>by
  have h1:=aHA (h p (cZ ..))
  have h2:=NW (M:=M) fun q hq=>h q (cN _ hq)
  show (CZ p++lU M).length≤_
  rw[aL,eF];omega
theorem FG{M:List Pg}(h:sJ M):(lI M).length≤20000010:=by
 have h1:=NW h.1
 have h2:=h.2
 have h3:=sA (wA (k:=M.length) (by omega))
 unfold lI;rw[aL];omega
theorem KS{s:ByteArray}(h:s.size≤16):s.size<18446744073709551616:=by omega
theorem XK{L:List (ByteArray×ByteArray)}(h:∀x∈L,x.1.size≤16∧x.2.size≤16)(X Y:List UInt8):∀n,n≤L.length→pL (X++(mQ L++Y)) n ⟨X.length,0⟩=(L.take n,⟨X.length+(mQ (L.take n)).length,0⟩)
 |0,_=>rfl
 |n+1,hn=>by
  have ih:=XK h X Y n (by omega)
  have hx:=h (L.getD n default) (by rw[aD,aK (show n<L.length by omega)];exact jQ _)
  have hs:=pW L (show n<L.length by omega)
  have hd:L.drop n=L.getD n default::L.drop (n+1):=by
   rw[aD,aK (show n<L.length by omega)];exact dG (by omega)
  have hL:mQ L=mQ (L.take n)++((dI (L.getD n default).1++dI (L.getD n default).2)++mQ (L.drop (n+1))):=by
   conv=>lhs;rw[←fL n L,tK,hd]
   rfl
  show ((pL _ n _).1++[((jS _ (pL _ n _).2).1,(jS _ (jS _ (pL _ n _).2).2).1)],(jS _ (jS _ (pL _ n _).2).2).2)=_
  rw[ih];dsimp only
  generalize L.getD n default=x at hs hL hx
  generalize hZ:mQ (L.take n)=Z at hL ih ⊢
  have e1:X++(mQ L++Y)=(X++Z)++(dI x.1++(dI x.2++(mQ (L.drop (n+1))++Y))):=by rw[hL];simp only[cF]
  have e2:X++(mQ L++Y)=(X++Z++dI x.1)++(dI x.2++(mQ (L.drop (n+1))++Y)):=by rw[hL];simp only[cF]
  have t1:jS (X++(mQ L++Y)) ⟨X.length+Z.length,0⟩=(x.1,⟨X.length+Z.length+(dI x.1).length,0⟩):=by
   rw[e1]
   have:=CW (KS hx.1) (X++Z) (dI x.2++(mQ (L.drop (n+1))++Y))
   rw[aL]at this;exact this
  have t2:jS (X++(mQ L++Y)) ⟨X.length+Z.length+(dI x.1).length,0⟩=(x.2,⟨X.length+Z.length+(dI x.1).length+(dI x.2).length,0⟩):=by
   rw[e2]
   have:=CW (KS hx.2) (X++Z++dI x.1) (mQ (L.drop (n+1))++Y)
   rw[aL,aL]at this;exact this
  rw[t1];dsimp only;rw[t2];dsimp only;rw[hs,tK,hZ];refine Prod.ext rfl ?_
  show (⟨_,0⟩:Rs)=⟨X.length+(Z++((dI x.1++dI x.2)++[])).length,0⟩
  congr 1;simp only[aL,eX];omega
theorem aCR{p:Pg}(h:KL p)(X Y:List UInt8):kR (X++(CZ p++Y)) ⟨X.length,0⟩=(p,true,⟨X.length+(CZ p).length,0⟩):=by
 obtain⟨k1,k2,k3,k4,k5,k6,k7⟩:=aD8 h
 have hl:=WI h
 obtain⟨B,hB⟩:∃B,X++(CZ p++Y)=B:=⟨_,rfl⟩
 rw[hB]
 have a1:B=X++(bR p.kd++(dI p.ru++(bR p.ve++(bR p.L.length++(mQ p.L++(bR p.st++(bR p.se++(dI p.to++Y)))))))):=by rw[←hB];unfold CZ;simp only[cF]
 have s1:gE B ⟨X.length,0⟩=(p.kd,⟨X.length+(bR p.kd).length,0⟩):=by rw[a1];exact wB k1.1 k1.2 X _
 have a2:B=(X++bR p.kd)++(dI p.ru++(bR p.ve++(bR p.L.length++(mQ p.L++(bR p.st++(bR p.se++(dI p.to++Y))))))):=by rw[a1];simp only[cF]
 have s2:jS B ⟨X.length+(bR p.kd).length,0⟩=(p.ru,⟨X.length+(bR p.kd).length+(dI p.ru).length,0⟩):=by
  have:=CW (KS k2) (X++bR p.kd) (bR p.ve++(bR p.L.length++(mQ p.L++(bR p.st++(bR p.se++(dI p.to++Y))))))
  rw[←a2]at this;simpa only[aL] using this
 have a3:B=(X++bR p.kd++dI p.ru)++(bR p.ve++(bR p.L.length++(mQ p.L++(bR p.st++(bR p.se++(dI p.to++Y)))))):=by rw[a1];simp only[cF]
 have s3:gE B ⟨X.length+(bR p.kd).length+(dI p.ru).length,0⟩=(p.ve,⟨X.length+(bR p.kd).length+(dI p.ru).length+(bR p.ve).length,0⟩):=by
  have:=wB k3.1 k3.2 (X++bR p.kd++dI p.ru) (bR p.L.length++(mQ p.L++(bR p.st++(bR p.se++(dI p.to++Y)))))
  rw[←a3]at this;simpa only[aL] using this
 have a4:B=(X++bR p.kd++dI p.ru++bR p.ve)++(bR p.L.length++(mQ p.L++(bR p.st++(bR p.se++(dI p.to++Y))))):=by rw[a1];simp only[cF]
 have s4:gE B ⟨X.length+(bR p.kd).length+(dI p.ru).length+(bR p.ve).length,0⟩=((p.L.length:Int),⟨X.length+(bR p.kd).length+(dI p.ru).length+(bR p.ve).length+(bR p.L.length).length,0⟩):=by
  have hi:=wA (k:=p.L.length) (by omega)
  have:=wB hi.1 hi.2 (X++bR p.kd++dI p.ru++bR p.ve) (mQ p.L++(bR p.st++(bR p.se++(dI p.to++Y))))
  rw[←a4]at this;simpa only[aL] using this
 have a5:B=(X++bR p.kd++dI p.ru++bR p.ve++bR p.L.length)++(mQ p.L++(bR p.st++(bR p.se++(dI p.to++Y)))):=by rw[a1];simp only[cF]
 have s5:pL B p.L.length ⟨X.length+(bR p.kd).length+(dI p.ru).length+(bR p.ve).length+(bR p.L.length).length,0⟩=(p.L,⟨X.length+(bR p.kd).length+(dI p.ru).length+(bR p.ve).length+(bR p.L.length).length+(mQ p.L).length,0⟩):=by
  have:=XK hl (X++bR p.kd++dI p.ru++bR p.ve++bR p.L.length) (bR p.st++(bR p.se++(dI p.to++Y))) p.L.length (aW _)
  rw[←a5,fF]at this;simpa only[aL] using this
 have a6:B=(X++bR p.kd++dI p.ru++bR p.ve++bR p.L.length++mQ p.L)++(bR p.st++(bR p.se++(dI p.to++Y))):=by rw[a1];simp only[cF]
 have s6:gE B ⟨X.length+(bR p.kd).length+(dI p.ru).length+(bR p.ve).length+(bR p.L.length).length+(mQ p.L).length,0⟩=(p.st,⟨X.length+(bR p.kd).length+(dI p.ru).length+(bR p.ve).length+(bR p.L.length).length+(mQ p.L).length+(bR p.st).length,0⟩):=by
  have:=wB k5.1 k5.2 (X++bR p.kd++dI p.ru++bR p.ve++bR p.L.length++mQ p.L) (bR p.se++(dI p.to++Y))
  rw[←a6]at this;simpa only[aL] using this
 have a7:B=(X++bR p.kd++dI p.ru++bR p.ve++bR p.L.length++mQ p.L++bR p.st)++(bR p.se++(dI p.to++Y)):=by rw[a1];simp only[cF]
 have s7:gE B ⟨X.length+(bR p.kd).length+(dI p.ru).length+(bR p.ve).length+(bR p.L.length).length+(mQ p.L).length+(bR p.st).length,0⟩=(p.se,⟨X.length+(bR p.kd).length+(dI p.ru).length+(bR p.ve).length+(bR p.L.length).length+(mQ p.L).length+(bR p.st).length+(bR p.se).length,0⟩):=by
  have:=wB k6.1 k6.2 (X++bR p.kd++dI p.ru++bR p.ve++bR p.L.length++mQ p.L++bR p.st) (dI p.to++Y)
  rw[←a7]at this;simpa only[aL] using this
 have a8:B=(X++bR p.kd++dI p.ru++bR p.ve++bR p.L.length++mQ p.L++bR p.st++bR p.se)++(dI p.to++Y):=by rw[a1];simp only[cF]
 have s8:jS B ⟨X.length+(bR p.kd).length+(dI p.ru).length+(bR p.ve).length+(bR p.L.length).length+(mQ p.L).length+(bR p.st).length+(bR p.se).length,0⟩=(p.to,⟨X.length+(bR p.kd).length+(dI p.ru).length+(bR p.ve).length+(bR p.L.length).length+(mQ p.L).length+(bR p.st).length+(bR p.se).length+(dI p.to).length,0⟩):=by
  have:=CW (KS k7) (X++bR p.kd++dI p.ru++bR p.ve++bR p.L.length++mQ p.L++bR p.st++bR p.se) Y
  rw[←a8]at this;simpa only[aL] using this
 clear a1 a2 a3 a4 a5 a6 a7 a8 hB;unfold kR hdS;simp only[s1,s2,s3,s4,dW];rw[if_neg (by omega),s5];unfold tlS;simp only[s6,s7,s8];refine Prod.ext rfl (Prod.ext rfl ?_)
 show (⟨_,0⟩:Rs)=⟨_,0⟩
 congr 1;unfold CZ;simp only[aL];omega
theorem aBK{N:List Pg}{p:Pg}(h:zO N p):uJ N p=(true,N++[p]):=by
 obtain⟨h1,h2⟩:=h;unfold uJ
 rcases h2 with⟨k1,k2⟩|⟨k1,k2,k3⟩|⟨k1,k2,k3⟩
 ·rw[if_pos k1,XX h1.1 k1 k2]
  rfl
 ·rw[if_neg (by omega),if_neg,if_neg]
  ·rw[k3,k1];decide
  ·rintro (q|q|q)
   ·exact q.1 k1
   ·rw[h1.1]at q;cases q
   ·exact q k2
 ·rw[if_neg (by omega),if_neg,if_neg]
  ·rw[k3,k1];decide
  ·rintro (q|q|q)
   ·exact q.2 k1
   ·rw[h1.1]at q;cases q
   ·exact q k2
theorem UI{M:List Pg}(h:sJ M):gE (lI M) ⟨0,0⟩=((M.length:Int),⟨(bR (M.length:Int)).length,0⟩):=by
 have hi:=wA (k:=M.length) (by have:=h.2;omega)
 have:=wB hi.1 hi.2 [] (lU M)
 rw[List.nil_append,List.length_nil,Nat.zero_add]at this;exact this
theorem YI{M:List Pg}(h:sJ M)(hL:zS M):∀i,i≤M.length→xU (lI M) i=some (M.take i,⟨(bR (M.length:Int)).length+(lU (M.take i)).length,0⟩)
 |0,_=>by
  show some ([],(gE (lI M) ⟨0,0⟩).2)=_
  rw[UI h];rfl
 |i+1,hi=>by
  have ih:=YI h hL i (by omega)
  have hlt:i<M.length:=by omega
  have hs:=pW M hlt
  have hst:=hL.step i hlt
  have hd:M.drop i=M.getD i default::M.drop (i+1):=by
   rw[aD,aK hlt];exact dG hlt
  have hM:lI M=(bR (M.length:Int)++lU (M.take i))++(CZ (M.getD i default)++lU (M.drop (i+1))):=by
   unfold lI
   conv=>lhs;rw[show lU M=lU (M.take i++M.drop i) by rw[fL],qF,hd]
   rw[cF];rfl
  rw[JZ ih]
  have hr:kR (lI M) ⟨(bR (M.length:Int)).length+(lU (M.take i)).length,0⟩=(M.getD i default,true,⟨(bR (M.length:Int)).length+(lU (M.take i)).length+(CZ (M.getD i default)).length,0⟩):=by
   rw[hM]
   have:=aCR hst.1 (bR (M.length:Int)++lU (M.take i)) (lU (M.drop (i+1)))
   rw[aL]at this;exact this
  rw[hr];dsimp only;rw[aBK hst];dsimp only;rw[hs,qF];refine congrArg some (Prod.ext rfl ?_)
  show (⟨_,0⟩:Rs)=⟨_,0⟩
  congr 1
  show _=_+(lU (M.take i)++(CZ (M.getD i default)++[])).length
  rw[eX,aL];omega
theorem aJW{M:List Pg}(h:sJ M)(hL:zS M):BD (lI M)=some M:=by
 unfold BD;rw[UI h];dsimp only;rw[if_neg (by omega),dW,YI h hL M.length (aW _),fF];dsimp only
 have:GF (lI M) ⟨(bR (M.length:Int)).length+(lU M).length,0⟩=0:=by
  unfold GF;rw[if_neg (by simp),if_neg];unfold lI;rw[aL];exact Nat.lt_irrefl _
 rw[this];rfl
noncomputable def aEH(D:Ld)(M:List Pg):kD
 |[.c (.ptr j 0)],h=>match BY D (oG h j) h with
  |some (q,r,a,b)=>some (q∧sJ M∧D=dD M,aU bI 1 (lI M),iT [oG h j,r,a,b] [oG h j] [1] h (pA D 0))
  |none=>none
 |_,_=>none
def TQ:Mod
 |[.c (.p (.l 1 n f)),.c (.p (.l 1 m g))]=>some (∃U:List UInt8,iE (.c (.p (.l 1 n f))) (aU bI 1 U)∧iE (.c (.p (.l 1 m g))) (aU bI 1 U)∧U.length≤140737488355328,bV true)
 |_=>none
theorem aRY(A:List UInt8):dF fH (dL 4 (dC aB Try.f38)) (oB Try.f38 [aU bI 1 A,aU bI 1 A]) (gW (fJ 26 [0,1,5]) (bK aB Try.f38))=bT ((↑A.length:Int) != (↑A.length:Int)) (.done .ret (St.mk [V.c (C.p (PV.b false))] []))
 (.done .normal
 (bY 26 [(0,.c (.p (.l 1 A.length (aE bI A)))),(1,.c (.p (.l 1 A.length (aE bI A)))),(5,.c (.p (.i .i64 0)))] [])):=by kernel_rfl
theorem aRX(A:List UInt8)(i:Nat):dF fH (gQ (dC aB Try.f38) 4) (bY 26 [(0,aU bI 1 A),(1,aU bI 1 A),(5,iV i)] []) (gW (fJ 26 [0,1,5]) (bK aB Try.f38))=bT (decide ((↑i:Int)<(↑A.length:Int)))
 (.rq (0≤(↑i:Int)∧(↑i:Int)<(↑A.length:Int))
 (.rq (0≤(↑i:Int)∧(↑i:Int)<(↑A.length:Int))
 (bT ((↑(A.getD (↑i:Int).toNat default).toNat:Int) != (↑(A.getD (↑i:Int).toNat default).toNat:Int)) (.done .ret (St.mk [V.c (C.p (PV.b false))] []))
 (.rq (eW aC ((↑i:Int)+1))
 (.done .normal
 (bY 26 [(0,.c (.p (.l 1 A.length (aE bI A)))),(1,.c (.p (.l 1 A.length (aE bI A)))),(5,.c (.p (.i .i64 ((↑i:Int)+1))))] []))))))
 (.done (.exit 0)
 (bY 26 [(0,.c (.p (.l 1 A.length (aE bI A)))),(1,.c (.p (.l 1 A.length (aE bI A)))),(5,.c (.p (.i .i64 (↑i:Int))))] [])):=by kernel_rfl
theorem aRW(A:List UInt8)(i:Nat):dF fH (bL 5 (dC aB Try.f38)) (bY 26 [(0,aU bI 1 A),(1,aU bI 1 A),(5,iV i)] []) (gW (fJ 26 [0,1,5]) (bK aB Try.f38))=Tr.done X.ret (St.mk [V.c (C.p (PV.b true))] []):=by kernel_rfl
section
variable {G:Nat→Option Obj}
set_option maxRecDepth 100000 in
theorem aNN(D:Ld)(M:List Pg):gG aB G 36 (aEH D M):=by
 intro args h p0 v h' hm hp;unfold aEH at hm
 split at hm;rotate_left;· cases hm
 split at hm;rotate_left;· cases hm
 rename_i j _ q r a b hl;obtain⟨rfl,rfl,rfl⟩:=gO hm;obtain⟨hq,hM,rfl⟩:=hp;obtain⟨g,q1,q2,q3,q4,hg⟩:=rZ hl hq
 have hB:=FG hM
 have h2:=hM.2
 have hm:=aFJ (G:=G) (dD M) (by rw[mF];exact hM.1) (by rw[mF];omega) (by rw[mF];omega)
 rw[mF]at hm
 exact pZ (vW (args:=[]) (vs:=[aU bI 1 (lI M)]) (D':=dD M) Try.func36 (by kernel_rfl) q1 q2 q3 q4 hg rfl fun b=>hm b _)
set_option maxRecDepth 100000 in
theorem aI9:iW aB G 38 TQ:=by
 intro args p v hm hp h;unfold TQ at hm
 split at hm;rotate_left;· cases hm
 obtain⟨rfl,rfl⟩:=eY hm;obtain⟨A,hA,hB,hlen⟩:=hp;refine jW.args (args':=[aU bI 1 A,aU bI 1 A]) ?_ (.cons hA (.cons hB .nil));clear hA hB hm
 refine qN Try.func38 (by kernel_rfl) rfl ?_ h
 refine eG.evG aY 4 (aRY A) ?_;simp only[cD,aP,fP,cC,bne_iff_ne,bne_eq_false_iff_eq,ne_eq];refine⟨fun h1=>absurd trivial h1,fun h1=>⟨?_⟩⟩
 refine eG.loop' (l:=bL 4 (dC aB Try.f38)) (b:=inr (inr (bC .skip (dC aB Try.f38) 4))) (r:=bL 5 (dC aB Try.f38)) (id:=0) (by kernel_rfl) (σ:=Nat)
   (fun i=>bY 26 [(0,aU bI 1 A),(1,aU bI 1 A),(5,iV i)] []) (fun i=>i≤A.length) (fun i=>A.length-i) 0 (bX _) (aI (by kernel_rfl)) ?_
 rintro i hi Q1 q1n q1e -;refine eG.evH aY (aRX A i) ?_;simp only[cD,bA,aP,fP,cC,jZ,decide_eq_true_eq,decide_eq_false_iff_not,bne_iff_ne,bne_eq_false_iff_eq,ne_eq,eW,show (↑i:Int).toNat=i from rfl]
 refine⟨fun h2=>⟨by omega,by omega,fun c1=>absurd trivial c1,fun c1=>⟨by omega,⟨q1n (i+1) _ (by omega) (by omega) (aI (by kernel_rfl))⟩⟩⟩,fun h2=>⟨q1e _ ?_⟩⟩
 refine eG.evH aY (aRW A i) ?_;simp only[aP,fP];exact⟨iE.refl _⟩
end
end Go.AE
