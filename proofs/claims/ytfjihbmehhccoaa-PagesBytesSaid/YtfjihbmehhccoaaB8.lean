import Derived.Test.YtfjihbmehhccoaaB7
import Derived.Test.YtfjihbmehhccoaaB5
import Derived.Test.YtfjihbmehhccoaaB6
set_option linter.unusedVariables false
set_option linter.unusedSimpArgs false
set_option maxRecDepth 100000
set_option maxHeartbeats 2000000
namespace Go.AE
open IntKind renaming i64→aC,u8→bF
open _root_.List renaming append_assoc→cF,append_nil→eX,drop_eq_getElem_cons→dG,getD_eq_getElem?_getD→aD,getElem?_eq_getElem→aK,length_append→aL,take_append_drop→fL,take_length→fF
open _root_.Nat renaming add_assoc→iL
open _root_.True renaming intro→xZ8
open _root_.Inhabited renaming default→yZ8
open _root_.Go.Proofs.Try renaming f9→eI,prog→aB
open Go.Proofs Go.Proofs.Ytfjihbmehhccoaa Gp Go.RowKit Wi
noncomputable def aFG(D:Ld)(M:List Pg):Ext:=mH [(36,aEH D M)]
noncomputable def YH(B:List UInt8)(D:Ld)(M:List Pg):Ext:=mH [(37,aEI B D (some M))]
noncomputable def YG(B:List UInt8)(D:Ld)(M:List Pg):Ext:=mH [(39,LI B),(38,uC TQ),(26,XC D M),(23,uC aJ3)]
def YF(p:Pg):Ext:=kH [(13,DB p)]
noncomputable def YE(D D':Ld)(M:List Pg)(p:Pg)(M':List Pg)(e:Int):Ext:=mH [(25,UB D D' M p M' e),(26,XC D' M'),(23,uC aJ3),(19,uC FE)]
theorem aTM(A S:List Int)(M:List Pg)(D:Ld):dF (aL1 M D) (dL 6 (dC aB eI)) (oB eI [aU aT 1 A,aU aT 1 S]) (gW (fJ 126 [1,5,6,7]) (bK aB eI))=Tr.rq
 (kI aT 1 (bS gH A.length (aE aT A)) A.length (aE aT A) ∧
 (∀(t:Int),t∈bS gH A.length (aE aT A)→eW aC t)∧(bS gH A.length (aE aT A)).length≤9223372036854775807∧ofZ (bS gH A.length (aE aT A))=M)
 (.rq ((M.length=M.length∧∀(e o:Nat),e<M.length→o<7→lY (aE aG M e o) (aE aG M e o))∧(zS M∧M.length≤50000)∧D=dD M)
 (.done .normal
 (bY 126 [(1,.c (.p (.l 1 S.length (aE aT S)))),(5,.c (.ptr 0 0)),(6,.c (.ptr 1 0)),(7,.c (.ptr 2 0))] [.cells 27 [.p (.l 7 M.length (aE aG M))],.cells 86 [.sl 3 7 0 D.M.length,.mp 4,.mp 5],.cells 65 [.p (.z (Value.slice none 0 0))],.row 31 7 D.M.length fun e o=>bQ [0,1,5,2,3,4] (C.p (aE aG D.M e o)),.mapb (bJ aB 81) D.gp,.mapl (bJ aB 79) 3 1 D.gs none]))):=by kernel_rfl
theorem aTL(S:List Int)(M:List Pg)(D:Ld)(k:Nat)(B:List UInt8):dF (sG B M.length) (dL 2 (bL 6 (dC aB eI))) (bY 126 [(1,aU aT 1 S),(5,.c (.ptr 0 0)),(6,.c (.ptr 1 0)),(7,.c (.ptr 2 0))] [.cells 27 [.p (bO aG 7 M)],.cells 86 [.sl 3 7 0 D.M.length,.mp 4,.mp 5],.cells 65 [.sl 6 1 0 k],.row 31 7 D.M.length (aO aG D.M),.mapb (bJ aB 81) D.gp,.mapl (bJ aB 79) 3 1 D.gs none,.row 5 1 k (aO bI B)]) (gW (fJ 126 [1,5,6,7,8]) (bK aB eI))=Tr.rq
 ((k=B.length∧k=B.length∧∀(e o:Nat),e<B.length→o<1→aO bI B e o=aO bI B e o) ∧
 (↑M.length:Int)=(↑M.length:Int)∧eW aC (↑M.length:Int)∧(B++bR (↑M.length:Int)).length≤140737488355328)
 (.done .normal
 (bY 126 [(1,.c (.p (.l 1 S.length (aE aT S)))),(5,.c (.ptr 0 0)),(6,.c (.ptr 1 0)),(7,.c (.ptr 2 0)),(8,.c (.p (.i .i64 0)))] [.cells 27 [.p (.l 7 M.length (aE aG M))],.cells 86 [.sl 3 7 0 D.M.length,.mp 4,.mp 5],.cells 65 [.sl 6 1 0 (B++bR (↑M.length:Int)).length],.row 31 7 D.M.length fun e o=>bQ [0,1,2,3,4,5,9] (aO aG D.M e o),.mapb (bJ aB 81) D.gp,.mapl (bJ aB 79) 3 1 D.gs none,.row 5 1 (B++bR (↑M.length:Int)).length fun e o=>bQ [0,1,2,3,4,5,9] (C.p (PV.i bF (↑((B++bR (↑M.length:Int)).getD e yZ8).toNat:Int)))])):=by kernel_rfl
theorem aTK(i:Nat)(S:List Int)(M:List Pg)(D:Ld)(k:Nat)(B:List UInt8):dF fH (dL 2 (gQ (dC aB eI) 8)) (bY 126 [(1,aU aT 1 S),(5,.c (.ptr 0 0)),(6,.c (.ptr 1 0)),(7,.c (.ptr 2 0)),(8,iV i)] [.cells 27 [.p (bO aG 7 M)],.cells 86 [.sl 3 7 0 D.M.length,.mp 4,.mp 5],.cells 65 [.sl 6 1 0 k],.row 31 7 D.M.length (aO aG D.M),.mapb (bJ aB 81) D.gp,.mapl (bJ aB 79) 3 1 D.gs none,.row 5 1 k (aO bI B)]) (gW (fJ 126 [1,5,6,7,8]) (bK aB eI))=bT (decide ((↑i:Int)<(↑M.length:Int)))
 (.done .normal
 (bY 126 [(1,.c (.p (.l 1 S.length (aE aT S)))),(5,.c (.ptr 0 0)),(6,.c (.ptr 1 0)),(7,.c (.ptr 2 0)),(8,.c (.p (.i .i64 (↑i:Int))))] [.cells 27 [.p (.l 7 M.length (aE aG M))],.cells 86 [.sl 3 7 0 D.M.length,.mp 4,.mp 5],.cells 65 [.sl 6 1 0 k],.row 31 7 D.M.length fun e o=>bQ [0,1,2,3,4,5,6] (aO aG D.M e o),.mapb (bJ aB 81) D.gp,.mapl (bJ aB 79) 3 1 D.gs none,.row 5 1 k fun e o=>bQ [0,1,2,3,4,5,6] (aO bI B e o)]))
 (.done (.exit 0)
 (bY 126 [(1,.c (.p (.l 1 S.length (aE aT S)))),(5,.c (.ptr 0 0)),(6,.c (.ptr 1 0)),(7,.c (.ptr 2 0)),(8,.c (.p (.i .i64 (↑i:Int))))] [.cells 27 [.p (.l 7 M.length (aE aG M))],.cells 86 [.sl 3 7 0 D.M.length,.mp 4,.mp 5],.cells 65 [.sl 6 1 0 k],.row 31 7 D.M.length fun e o=>bQ [0,1,2,3,4,5,6] (aO aG D.M e o),.mapb (bJ aB 81) D.gp,.mapl (bJ aB 79) 3 1 D.gs none,.row 5 1 k fun e o=>bQ [0,1,2,3,4,5,6] (aO bI B e o)])):=by kernel_rfl
theorem aTJ(i:Nat)(S:List Int)(M:List Pg)(D:Ld)(k:Nat)(B:List UInt8):dF fH (dL 1 (eZ (inr (bC .skip (gQ (dC aB eI) 8) 2)))) (bY 126 [(1,aU aT 1 S),(5,.c (.ptr 0 0)),(6,.c (.ptr 1 0)),(7,.c (.ptr 2 0)),(8,iV i)] [.cells 27 [.p (bO aG 7 M)],.cells 86 [.sl 3 7 0 D.M.length,.mp 4,.mp 5],.cells 65 [.sl 6 1 0 k],.row 31 7 D.M.length (aO aG D.M),.mapb (bJ aB 81) D.gp,.mapl (bJ aB 79) 3 1 D.gs none,.row 5 1 k (aO bI B)]) (gW (fJ 126 [1,5,6,7,8,9]) (bK aB eI))=Tr.rq (0≤(↑i:Int)∧(↑i:Int)<(↑M.length:Int))
 (.done .normal
 (bY 126 [(1,.c (.p (.l 1 S.length (aE aT S)))),(5,.c (.ptr 0 0)),(6,.c (.ptr 1 0)),(7,.c (.ptr 2 0)),(8,.c (.p (.i .i64 (↑i:Int)))),(9,.c (.ptr 3 0))] [.cells 27 [.p (.l 7 M.length (aE aG M))],.cells 86 [.sl 4 7 0 D.M.length,.mp 5,.mp 6],.cells 65 [.sl 7 1 0 k],.cells 31 [.p (.i .i64 (M.getD (↑i:Int).toNat yZ8).kd),.p (.s (M.getD (↑i:Int).toNat yZ8).ru),.p (.i .i64 (M.getD (↑i:Int).toNat yZ8).ve),.p (.l 2 (M.getD (↑i:Int).toNat yZ8).L.length (aE aN (M.getD (↑i:Int).toNat yZ8).L)),.p (.i .i64 (M.getD (↑i:Int).toNat yZ8).st),.p (.i .i64 (M.getD (↑i:Int).toNat yZ8).se),.p (.s (M.getD (↑i:Int).toNat yZ8).to)],.row 31 7 D.M.length fun e o=>bQ [0,1,2,7,3,4,5,6] (aO aG D.M e o),.mapb (bJ aB 81) D.gp,.mapl (bJ aB 79) 3 1 D.gs none,.row 5 1 k fun e o=>bQ [0,1,2,7,3,4,5,6] (aO bI B e o)])):=by kernel_rfl
theorem aTI(i:Nat)(p:Pg)(S:List Int)(M:List Pg)(D:Ld)(k:Nat)(B:List UInt8):dF (sG B p.kd) (dL 1 (bL 1 (eZ (inr (bC .skip (gQ (dC aB eI) 8) 2))))) (bY 126 [(1,aU aT 1 S),(5,.c (.ptr 0 0)),(6,.c (.ptr 1 0)),(7,.c (.ptr 2 0)),(8,iV i),(9,.c (.ptr 3 0))] [.cells 27 [.p (bO aG 7 M)],.cells 86 [.sl 4 7 0 D.M.length,.mp 5,.mp 6],.cells 65 [.sl 7 1 0 k],.cells 31 [.p (.i .i64 p.kd),.p (.s p.ru),.p (.i .i64 p.ve),.p (bO aN 2 p.L),.p (.i .i64 p.st),.p (.i .i64 p.se),.p (.s p.to)],.row 31 7 D.M.length (aO aG D.M),.mapb (bJ aB 81) D.gp,.mapl (bJ aB 79) 3 1 D.gs none,.row 5 1 k (aO bI B)]) (gW (fJ 126 [1,5,6,7,8,9]) (bK aB eI))=Tr.rq ((k=B.length∧k=B.length∧∀(e o:Nat),e<B.length→o<1→aO bI B e o=aO bI B e o)∧p.kd=p.kd∧eW aC p.kd∧(B++bR p.kd).length≤140737488355328)
 (.done .normal
 (bY 126 [(1,.c (.p (.l 1 S.length (aE aT S)))),(5,.c (.ptr 0 0)),(6,.c (.ptr 1 0)),(7,.c (.ptr 2 0)),(8,.c (.p (.i .i64 (↑i:Int)))),(9,.c (.ptr 3 0))] [.cells 27 [.p (.l 7 M.length (aE aG M))],.cells 86 [.sl 4 7 0 D.M.length,.mp 5,.mp 6],.cells 65 [.sl 7 1 0 (B++bR p.kd).length],.cells 31 [.p (.i .i64 p.kd),.p (.s p.ru),.p (.i .i64 p.ve),.p (.l 2 p.L.length (aE aN p.L)),.p (.i .i64 p.st),.p (.i .i64 p.se),.p (.s p.to)],.row 31 7 D.M.length fun e o=>bQ [0,1,2,3,4,5,6,10] (aO aG D.M e o),.mapb (bJ aB 81) D.gp,.mapl (bJ aB 79) 3 1 D.gs none,.row 5 1 (B++bR p.kd).length fun e o=>bQ [0,1,2,3,4,5,6,10] (C.p (PV.i bF (↑((B++bR p.kd).getD e yZ8).toNat:Int)))])):=by kernel_rfl
theorem aTH(i:Nat)(p:Pg)(S:List Int)(M:List Pg)(D:Ld)(k:Nat)(B:List UInt8):dF (zG B p.ru) (dL 1 (bL 2 (eZ (inr (bC .skip (gQ (dC aB eI) 8) 2))))) (bY 126 [(1,aU aT 1 S),(5,.c (.ptr 0 0)),(6,.c (.ptr 1 0)),(7,.c (.ptr 2 0)),(8,iV i),(9,.c (.ptr 3 0))] [.cells 27 [.p (bO aG 7 M)],.cells 86 [.sl 4 7 0 D.M.length,.mp 5,.mp 6],.cells 65 [.sl 7 1 0 k],.cells 31 [.p (.i .i64 p.kd),.p (.s p.ru),.p (.i .i64 p.ve),.p (bO aN 2 p.L),.p (.i .i64 p.st),.p (.i .i64 p.se),.p (.s p.to)],.row 31 7 D.M.length (aO aG D.M),.mapb (bJ aB 81) D.gp,.mapl (bJ aB 79) 3 1 D.gs none,.row 5 1 k (aO bI B)]) (gW (fJ 126 [1,5,6,7,8,9]) (bK aB eI))=Tr.rq ((k=B.length∧k=B.length∧∀(e o:Nat),e<B.length→o<1→aO bI B e o=aO bI B e o)∧p.ru=p.ru∧p.ru.size≤140737488355328∧(B++dI p.ru).length≤140737488355328)
 (.done .normal
 (bY 126 [(1,.c (.p (.l 1 S.length (aE aT S)))),(5,.c (.ptr 0 0)),(6,.c (.ptr 1 0)),(7,.c (.ptr 2 0)),(8,.c (.p (.i .i64 (↑i:Int)))),(9,.c (.ptr 3 0))] [.cells 27 [.p (.l 7 M.length (aE aG M))],.cells 86 [.sl 4 7 0 D.M.length,.mp 5,.mp 6],.cells 65 [.sl 7 1 0 (B++dI p.ru).length],.cells 31 [.p (.i .i64 p.kd),.p (.s p.ru),.p (.i .i64 p.ve),.p (.l 2 p.L.length (aE aN p.L)),.p (.i .i64 p.st),.p (.i .i64 p.se),.p (.s p.to)],.row 31 7 D.M.length fun e o=>bQ [0,1,2,3,4,5,6,10] (aO aG D.M e o),.mapb (bJ aB 81) D.gp,.mapl (bJ aB 79) 3 1 D.gs none,.row 5 1 (B++dI p.ru).length fun e o=>bQ [0,1,2,3,4,5,6,10] (C.p (PV.i bF (↑((B++dI p.ru).getD e yZ8).toNat:Int)))])):=by kernel_rfl
theorem aTG(i:Nat)(p:Pg)(S:List Int)(M:List Pg)(D:Ld)(k:Nat)(B:List UInt8):dF (sG B p.ve) (dL 1 (bL 3 (eZ (inr (bC .skip (gQ (dC aB eI) 8) 2))))) (bY 126 [(1,aU aT 1 S),(5,.c (.ptr 0 0)),(6,.c (.ptr 1 0)),(7,.c (.ptr 2 0)),(8,iV i),(9,.c (.ptr 3 0))] [.cells 27 [.p (bO aG 7 M)],.cells 86 [.sl 4 7 0 D.M.length,.mp 5,.mp 6],.cells 65 [.sl 7 1 0 k],.cells 31 [.p (.i .i64 p.kd),.p (.s p.ru),.p (.i .i64 p.ve),.p (bO aN 2 p.L),.p (.i .i64 p.st),.p (.i .i64 p.se),.p (.s p.to)],.row 31 7 D.M.length (aO aG D.M),.mapb (bJ aB 81) D.gp,.mapl (bJ aB 79) 3 1 D.gs none,.row 5 1 k (aO bI B)]) (gW (fJ 126 [1,5,6,7,8,9]) (bK aB eI))=Tr.rq ((k=B.length∧k=B.length∧∀(e o:Nat),e<B.length→o<1→aO bI B e o=aO bI B e o)∧p.ve=p.ve∧eW aC p.ve∧(B++bR p.ve).length≤140737488355328)
 (.done .normal
 (bY 126 [(1,.c (.p (.l 1 S.length (aE aT S)))),(5,.c (.ptr 0 0)),(6,.c (.ptr 1 0)),(7,.c (.ptr 2 0)),(8,.c (.p (.i .i64 (↑i:Int)))),(9,.c (.ptr 3 0))] [.cells 27 [.p (.l 7 M.length (aE aG M))],.cells 86 [.sl 4 7 0 D.M.length,.mp 5,.mp 6],.cells 65 [.sl 7 1 0 (B++bR p.ve).length],.cells 31 [.p (.i .i64 p.kd),.p (.s p.ru),.p (.i .i64 p.ve),.p (.l 2 p.L.length (aE aN p.L)),.p (.i .i64 p.st),.p (.i .i64 p.se),.p (.s p.to)],.row 31 7 D.M.length fun e o=>bQ [0,1,2,3,4,5,6,10] (aO aG D.M e o),.mapb (bJ aB 81) D.gp,.mapl (bJ aB 79) 3 1 D.gs none,.row 5 1 (B++bR p.ve).length fun e o=>bQ [0,1,2,3,4,5,6,10] (C.p (PV.i bF (↑((B++bR p.ve).getD e yZ8).toNat:Int)))])):=by kernel_rfl
theorem aTF(i:Nat)(p:Pg)(S:List Int)(M:List Pg)(D:Ld)(k:Nat)(B:List UInt8):dF (sG B p.L.length) (dL 2 (bL 4 (eZ (inr (bC .skip (gQ (dC aB eI) 8) 2))))) (bY 126 [(1,aU aT 1 S),(5,.c (.ptr 0 0)),(6,.c (.ptr 1 0)),(7,.c (.ptr 2 0)),(8,iV i),(9,.c (.ptr 3 0))] [.cells 27 [.p (bO aG 7 M)],.cells 86 [.sl 4 7 0 D.M.length,.mp 5,.mp 6],.cells 65 [.sl 7 1 0 k],.cells 31 [.p (.i .i64 p.kd),.p (.s p.ru),.p (.i .i64 p.ve),.p (bO aN 2 p.L),.p (.i .i64 p.st),.p (.i .i64 p.se),.p (.s p.to)],.row 31 7 D.M.length (aO aG D.M),.mapb (bJ aB 81) D.gp,.mapl (bJ aB 79) 3 1 D.gs none,.row 5 1 k (aO bI B)]) (gW (fJ 126 [1,5,6,7,8,9,10]) (bK aB eI))=Tr.rq
 ((k=B.length∧k=B.length∧∀(e o:Nat),e<B.length→o<1→aO bI B e o=aO bI B e o) ∧
 (↑p.L.length:Int)=(↑p.L.length:Int)∧eW aC (↑p.L.length:Int)∧(B++bR (↑p.L.length:Int)).length≤140737488355328)
 (.done .normal
 (bY 126 [(1,.c (.p (.l 1 S.length (aE aT S)))),(5,.c (.ptr 0 0)),(6,.c (.ptr 1 0)),(7,.c (.ptr 2 0)),(8,.c (.p (.i .i64 (↑i:Int)))),(9,.c (.ptr 3 0)),(10,.c (.p (.i .i64 0)))] [.cells 27 [.p (.l 7 M.length (aE aG M))],.cells 86 [.sl 4 7 0 D.M.length,.mp 5,.mp 6],.cells 65 [.sl 7 1 0 (B++bR (↑p.L.length:Int)).length],.cells 31 [.p (.i .i64 p.kd),.p (.s p.ru),.p (.i .i64 p.ve),.p (.l 2 p.L.length (aE aN p.L)),.p (.i .i64 p.st),.p (.i .i64 p.se),.p (.s p.to)],.row 31 7 D.M.length fun e o=>bQ [0,1,2,3,4,5,6,10] (aO aG D.M e o),.mapb (bJ aB 81) D.gp,.mapl (bJ aB 79) 3 1 D.gs none,.row 5 1 (B++bR (↑p.L.length:Int)).length fun e o=>bQ [0,1,2,3,4,5,6,10] (C.p (PV.i bF (↑((B++bR (↑p.L.length:Int)).getD e yZ8).toNat:Int)))])):=by kernel_rfl
theorem aQ8(i j:Nat)(p:Pg)(S:List Int)(M:List Pg)(D:Ld)(k:Nat)(B:List UInt8):dF fH (dL 2 (gQ (eZ (inr (bC .skip (gQ (dC aB eI) 8) 2))) 6)) (bY 126 [(1,aU aT 1 S),(5,.c (.ptr 0 0)),(6,.c (.ptr 1 0)),(7,.c (.ptr 2 0)),(8,iV i),(9,.c (.ptr 3 0)),(10,iV j)] [.cells 27 [.p (bO aG 7 M)],.cells 86 [.sl 4 7 0 D.M.length,.mp 5,.mp 6],.cells 65 [.sl 7 1 0 k],.cells 31 [.p (.i .i64 p.kd),.p (.s p.ru),.p (.i .i64 p.ve),.p (bO aN 2 p.L),.p (.i .i64 p.st),.p (.i .i64 p.se),.p (.s p.to)],.row 31 7 D.M.length (aO aG D.M),.mapb (bJ aB 81) D.gp,.mapl (bJ aB 79) 3 1 D.gs none,.row 5 1 k (aO bI B)]) (gW (fJ 126 [1,5,6,7,8,9,10]) (bK aB eI))=bT (decide ((↑j:Int)<(↑p.L.length:Int)))
 (.done .normal
 (bY 126 [(1,.c (.p (.l 1 S.length (aE aT S)))),(5,.c (.ptr 0 0)),(6,.c (.ptr 1 0)),(7,.c (.ptr 2 0)),(8,.c (.p (.i .i64 (↑i:Int)))),(9,.c (.ptr 3 0)),(10,.c (.p (.i .i64 (↑j:Int))))] [.cells 27 [.p (.l 7 M.length (aE aG M))],.cells 86 [.sl 4 7 0 D.M.length,.mp 5,.mp 6],.cells 65 [.sl 7 1 0 k],.cells 31 [.p (.i .i64 p.kd),.p (.s p.ru),.p (.i .i64 p.ve),.p (.l 2 p.L.length (aE aN p.L)),.p (.i .i64 p.st),.p (.i .i64 p.se),.p (.s p.to)],.row 31 7 D.M.length fun e o=>bQ [0,1,2,3,4,5,6,7] (aO aG D.M e o),.mapb (bJ aB 81) D.gp,.mapl (bJ aB 79) 3 1 D.gs none,.row 5 1 k fun e o=>bQ [0,1,2,3,4,5,6,7] (aO bI B e o)]))
 (.done (.exit 2)
 (bY 126 [(1,.c (.p (.l 1 S.length (aE aT S)))),(5,.c (.ptr 0 0)),(6,.c (.ptr 1 0)),(7,.c (.ptr 2 0)),(8,.c (.p (.i .i64 (↑i:Int)))),(9,.c (.ptr 3 0)),(10,.c (.p (.i .i64 (↑j:Int))))] [.cells 27 [.p (.l 7 M.length (aE aG M))],.cells 86 [.sl 4 7 0 D.M.length,.mp 5,.mp 6],.cells 65 [.sl 7 1 0 k],.cells 31 [.p (.i .i64 p.kd),.p (.s p.ru),.p (.i .i64 p.ve),.p (.l 2 p.L.length (aE aN p.L)),.p (.i .i64 p.st),.p (.i .i64 p.se),.p (.s p.to)],.row 31 7 D.M.length fun e o=>bQ [0,1,2,3,4,5,6,7] (aO aG D.M e o),.mapb (bJ aB 81) D.gp,.mapl (bJ aB 79) 3 1 D.gs none,.row 5 1 k fun e o=>bQ [0,1,2,3,4,5,6,7] (aO bI B e o)])):=by kernel_rfl
theorem aQ7(i j:Nat)(p:Pg)(x:ByteArray×ByteArray)(S:List Int)(M:List Pg)(D:Ld)(k:Nat)(B:List UInt8):dF (zG B (p.L.getD j yZ8).1) (dL 1 (eZ (inr (bC .skip (gQ (eZ (inr (bC .skip (gQ (dC aB eI) 8) 2))) 6) 2)))) (bY 126 [(1,aU aT 1 S),(5,.c (.ptr 0 0)),(6,.c (.ptr 1 0)),(7,.c (.ptr 2 0)),(8,iV i),(9,.c (.ptr 3 0)),(10,iV j)] [.cells 27 [.p (bO aG 7 M)],.cells 86 [.sl 4 7 0 D.M.length,.mp 5,.mp 6],.cells 65 [.sl 7 1 0 k],.cells 31 [.p (.i .i64 p.kd),.p (.s p.ru),.p (.i .i64 p.ve),.p (bO aN 2 p.L),.p (.i .i64 p.st),.p (.i .i64 p.se),.p (.s p.to)],.row 31 7 D.M.length (aO aG D.M),.mapb (bJ aB 81) D.gp,.mapl (bJ aB 79) 3 1 D.gs none,.row 5 1 k (aO bI B)]) (gW (fJ 126 [1,5,6,7,8,9,10]) (bK aB eI))=Tr.rq (0≤(↑j:Int)∧(↑j:Int)<(↑p.L.length:Int))
 (.rq
 ((k=B.length∧k=B.length∧∀(e o:Nat),e<B.length→o<1→aO bI B e o=aO bI B e o) ∧
 (p.L.getD (↑j:Int).toNat yZ8).fst=(p.L.getD j yZ8).fst∧(p.L.getD j yZ8).fst.size≤140737488355328∧(B++dI (p.L.getD j yZ8).fst).length≤140737488355328)
 (.done .normal
 (bY 126 [(1,.c (.p (.l 1 S.length (aE aT S)))),(5,.c (.ptr 0 0)),(6,.c (.ptr 1 0)),(7,.c (.ptr 2 0)),(8,.c (.p (.i .i64 (↑i:Int)))),(9,.c (.ptr 3 0)),(10,.c (.p (.i .i64 (↑j:Int))))] [.cells 27 [.p (.l 7 M.length (aE aG M))],.cells 86 [.sl 4 7 0 D.M.length,.mp 5,.mp 6],.cells 65 [.sl 7 1 0 (B++dI (p.L.getD j yZ8).fst).length],.cells 31 [.p (.i .i64 p.kd),.p (.s p.ru),.p (.i .i64 p.ve),.p (.l 2 p.L.length (aE aN p.L)),.p (.i .i64 p.st),.p (.i .i64 p.se),.p (.s p.to)],.row 31 7 D.M.length fun e o=>bQ [0,1,2,3,4,5,6,10] (aO aG D.M e o),.mapb (bJ aB 81) D.gp,.mapl (bJ aB 79) 3 1 D.gs none,.row 5 1 (B++dI (p.L.getD j yZ8).fst).length fun e o=>bQ [0,1,2,3,4,5,6,10] (C.p (PV.i bF (↑((B++dI (p.L.getD j yZ8).fst).getD e yZ8).toNat:Int)))]))):=by kernel_rfl
theorem aQ6(i j:Nat)(p:Pg)(x:ByteArray×ByteArray)(S:List Int)(M:List Pg)(D:Ld)(k:Nat)(B:List UInt8):dF (zG B (p.L.getD j yZ8).2) (bL 1 (eZ (inr (bC .skip (gQ (eZ (inr (bC .skip (gQ (dC aB eI) 8) 2))) 6) 2)))) (bY 126 [(1,aU aT 1 S),(5,.c (.ptr 0 0)),(6,.c (.ptr 1 0)),(7,.c (.ptr 2 0)),(8,iV i),(9,.c (.ptr 3 0)),(10,iV j)] [.cells 27 [.p (bO aG 7 M)],.cells 86 [.sl 4 7 0 D.M.length,.mp 5,.mp 6],.cells 65 [.sl 7 1 0 k],.cells 31 [.p (.i .i64 p.kd),.p (.s p.ru),.p (.i .i64 p.ve),.p (bO aN 2 p.L),.p (.i .i64 p.st),.p (.i .i64 p.se),.p (.s p.to)],.row 31 7 D.M.length (aO aG D.M),.mapb (bJ aB 81) D.gp,.mapl (bJ aB 79) 3 1 D.gs none,.row 5 1 k (aO bI B)]) (gW (fJ 126 [1,5,6,7,8,9,10]) (bK aB eI))=Tr.rq (0≤(↑j:Int)∧(↑j:Int)<(↑p.L.length:Int))
 (.rq
 ((k=B.length∧k=B.length∧∀(e o:Nat),e<B.length→o<1→aO bI B e o=aO bI B e o) ∧
 (p.L.getD (↑j:Int).toNat yZ8).snd=(p.L.getD j yZ8).snd∧(p.L.getD j yZ8).snd.size≤140737488355328∧(B++dI (p.L.getD j yZ8).snd).length≤140737488355328)
 (.done .normal
 (bY 126 [(1,.c (.p (.l 1 S.length (aE aT S)))),(5,.c (.ptr 0 0)),(6,.c (.ptr 1 0)),(7,.c (.ptr 2 0)),(8,.c (.p (.i .i64 (↑i:Int)))),(9,.c (.ptr 3 0)),(10,.c (.p (.i .i64 (↑j:Int))))] [.cells 27 [.p (.l 7 M.length (aE aG M))],.cells 86 [.sl 4 7 0 D.M.length,.mp 5,.mp 6],.cells 65 [.sl 7 1 0 (B++dI (p.L.getD j yZ8).snd).length],.cells 31 [.p (.i .i64 p.kd),.p (.s p.ru),.p (.i .i64 p.ve),.p (.l 2 p.L.length (aE aN p.L)),.p (.i .i64 p.st),.p (.i .i64 p.se),.p (.s p.to)],.row 31 7 D.M.length fun e o=>bQ [0,1,2,3,4,5,6,10] (aO aG D.M e o),.mapb (bJ aB 81) D.gp,.mapl (bJ aB 79) 3 1 D.gs none,.row 5 1 (B++dI (p.L.getD j yZ8).snd).length fun e o=>bQ [0,1,2,3,4,5,6,10] (C.p (PV.i bF (↑((B++dI (p.L.getD j yZ8).snd).getD e yZ8).toNat:Int)))]))):=by kernel_rfl
theorem aQ5(i j:Nat)(p:Pg)(S:List Int)(M:List Pg)(D:Ld)(k:Nat)(B:List UInt8):dF fH (bL 3 (gQ (eZ (inr (bC .skip (gQ (dC aB eI) 8) 2))) 6)) (bY 126 [(1,aU aT 1 S),(5,.c (.ptr 0 0)),(6,.c (.ptr 1 0)),(7,.c (.ptr 2 0)),(8,iV i),(9,.c (.ptr 3 0)),(10,iV j)] [.cells 27 [.p (bO aG 7 M)],.cells 86 [.sl 4 7 0 D.M.length,.mp 5,.mp 6],.cells 65 [.sl 7 1 0 k],.cells 31 [.p (.i .i64 p.kd),.p (.s p.ru),.p (.i .i64 p.ve),.p (bO aN 2 p.L),.p (.i .i64 p.st),.p (.i .i64 p.se),.p (.s p.to)],.row 31 7 D.M.length (aO aG D.M),.mapb (bJ aB 81) D.gp,.mapl (bJ aB 79) 3 1 D.gs none,.row 5 1 k (aO bI B)]) (gW (fJ 126 [1,5,6,7,8,9,10]) (bK aB eI))=Tr.rq (eW aC ((↑j:Int)+1))
 (.done .normal
 (bY 126 [(1,.c (.p (.l 1 S.length (aE aT S)))),(5,.c (.ptr 0 0)),(6,.c (.ptr 1 0)),(7,.c (.ptr 2 0)),(8,.c (.p (.i .i64 (↑i:Int)))),(9,.c (.ptr 3 0)),(10,.c (.p (.i .i64 ((↑j:Int)+1))))] [.cells 27 [.p (.l 7 M.length (aE aG M))],.cells 86 [.sl 4 7 0 D.M.length,.mp 5,.mp 6],.cells 65 [.sl 7 1 0 k],.cells 31 [.p (.i .i64 p.kd),.p (.s p.ru),.p (.i .i64 p.ve),.p (.l 2 p.L.length (aE aN p.L)),.p (.i .i64 p.st),.p (.i .i64 p.se),.p (.s p.to)],.row 31 7 D.M.length fun e o=>bQ [0,1,2,3,4,5,6,7] (aO aG D.M e o),.mapb (bJ aB 81) D.gp,.mapl (bJ aB 79) 3 1 D.gs none,.row 5 1 k fun e o=>bQ [0,1,2,3,4,5,6,7] (aO bI B e o)])):=by kernel_rfl
theorem aQ4(i:Nat)(p:Pg)(S:List Int)(M:List Pg)(D:Ld)(k:Nat)(B:List UInt8):dF (sG B p.st) (dL 1 (bL 7 (eZ (inr (bC .skip (gQ (dC aB eI) 8) 2))))) (bY 126 [(1,aU aT 1 S),(5,.c (.ptr 0 0)),(6,.c (.ptr 1 0)),(7,.c (.ptr 2 0)),(8,iV i),(9,.c (.ptr 3 0))] [.cells 27 [.p (bO aG 7 M)],.cells 86 [.sl 4 7 0 D.M.length,.mp 5,.mp 6],.cells 65 [.sl 7 1 0 k],.cells 31 [.p (.i .i64 p.kd),.p (.s p.ru),.p (.i .i64 p.ve),.p (bO aN 2 p.L),.p (.i .i64 p.st),.p (.i .i64 p.se),.p (.s p.to)],.row 31 7 D.M.length (aO aG D.M),.mapb (bJ aB 81) D.gp,.mapl (bJ aB 79) 3 1 D.gs none,.row 5 1 k (aO bI B)]) (gW (fJ 126 [1,5,6,7,8,9]) (bK aB eI))=Tr.rq ((k=B.length∧k=B.length∧∀(e o:Nat),e<B.length→o<1→aO bI B e o=aO bI B e o)∧p.st=p.st∧eW aC p.st∧(B++bR p.st).length≤140737488355328)
 (.done .normal
 (bY 126 [(1,.c (.p (.l 1 S.length (aE aT S)))),(5,.c (.ptr 0 0)),(6,.c (.ptr 1 0)),(7,.c (.ptr 2 0)),(8,.c (.p (.i .i64 (↑i:Int)))),(9,.c (.ptr 3 0))] [.cells 27 [.p (.l 7 M.length (aE aG M))],.cells 86 [.sl 4 7 0 D.M.length,.mp 5,.mp 6],.cells 65 [.sl 7 1 0 (B++bR p.st).length],.cells 31 [.p (.i .i64 p.kd),.p (.s p.ru),.p (.i .i64 p.ve),.p (.l 2 p.L.length (aE aN p.L)),.p (.i .i64 p.st),.p (.i .i64 p.se),.p (.s p.to)],.row 31 7 D.M.length fun e o=>bQ [0,1,2,3,4,5,6,10] (aO aG D.M e o),.mapb (bJ aB 81) D.gp,.mapl (bJ aB 79) 3 1 D.gs none,.row 5 1 (B++bR p.st).length fun e o=>bQ [0,1,2,3,4,5,6,10] (C.p (PV.i bF (↑((B++bR p.st).getD e yZ8).toNat:Int)))])):=by kernel_rfl
theorem aQ3(i:Nat)(p:Pg)(S:List Int)(M:List Pg)(D:Ld)(k:Nat)(B:List UInt8):dF (sG B p.se) (dL 1 (bL 8 (eZ (inr (bC .skip (gQ (dC aB eI) 8) 2))))) (bY 126 [(1,aU aT 1 S),(5,.c (.ptr 0 0)),(6,.c (.ptr 1 0)),(7,.c (.ptr 2 0)),(8,iV i),(9,.c (.ptr 3 0))] [.cells 27 [.p (bO aG 7 M)],.cells 86 [.sl 4 7 0 D.M.length,.mp 5,.mp 6],.cells 65 [.sl 7 1 0 k],.cells 31 [.p (.i .i64 p.kd),.p (.s p.ru),.p (.i .i64 p.ve),.p (bO aN 2 p.L),.p (.i .i64 p.st),.p (.i .i64 p.se),.p (.s p.to)],.row 31 7 D.M.length (aO aG D.M),.mapb (bJ aB 81) D.gp,.mapl (bJ aB 79) 3 1 D.gs none,.row 5 1 k (aO bI B)]) (gW (fJ 126 [1,5,6,7,8,9]) (bK aB eI))=Tr.rq ((k=B.length∧k=B.length∧∀(e o:Nat),e<B.length→o<1→aO bI B e o=aO bI B e o)∧p.se=p.se∧eW aC p.se∧(B++bR p.se).length≤140737488355328)
 (.done .normal
 (bY 126 [(1,.c (.p (.l 1 S.length (aE aT S)))),(5,.c (.ptr 0 0)),(6,.c (.ptr 1 0)),(7,.c (.ptr 2 0)),(8,.c (.p (.i .i64 (↑i:Int)))),(9,.c (.ptr 3 0))] [.cells 27 [.p (.l 7 M.length (aE aG M))],.cells 86 [.sl 4 7 0 D.M.length,.mp 5,.mp 6],.cells 65 [.sl 7 1 0 (B++bR p.se).length],.cells 31 [.p (.i .i64 p.kd),.p (.s p.ru),.p (.i .i64 p.ve),.p (.l 2 p.L.length (aE aN p.L)),.p (.i .i64 p.st),.p (.i .i64 p.se),.p (.s p.to)],.row 31 7 D.M.length fun e o=>bQ [0,1,2,3,4,5,6,10] (aO aG D.M e o),.mapb (bJ aB 81) D.gp,.mapl (bJ aB 79) 3 1 D.gs none,.row 5 1 (B++bR p.se).length fun e o=>bQ [0,1,2,3,4,5,6,10] (C.p (PV.i bF (↑((B++bR p.se).getD e yZ8).toNat:Int)))])):=by kernel_rfl
theorem aQ2(i:Nat)(p:Pg)(S:List Int)(M:List Pg)(D:Ld)(k:Nat)(B:List UInt8):dF (zG B p.to) (bL 9 (eZ (inr (bC .skip (gQ (dC aB eI) 8) 2)))) (bY 126 [(1,aU aT 1 S),(5,.c (.ptr 0 0)),(6,.c (.ptr 1 0)),(7,.c (.ptr 2 0)),(8,iV i),(9,.c (.ptr 3 0))] [.cells 27 [.p (bO aG 7 M)],.cells 86 [.sl 4 7 0 D.M.length,.mp 5,.mp 6],.cells 65 [.sl 7 1 0 k],.cells 31 [.p (.i .i64 p.kd),.p (.s p.ru),.p (.i .i64 p.ve),.p (bO aN 2 p.L),.p (.i .i64 p.st),.p (.i .i64 p.se),.p (.s p.to)],.row 31 7 D.M.length (aO aG D.M),.mapb (bJ aB 81) D.gp,.mapl (bJ aB 79) 3 1 D.gs none,.row 5 1 k (aO bI B)]) (gW (fJ 126 [1,5,6,7,8]) (bK aB eI))=Tr.rq ((k=B.length∧k=B.length∧∀(e o:Nat),e<B.length→o<1→aO bI B e o=aO bI B e o)∧p.to=p.to∧p.to.size≤140737488355328∧(B++dI p.to).length≤140737488355328)
 (.done .normal
 (bY 126 [(1,.c (.p (.l 1 S.length (aE aT S)))),(5,.c (.ptr 0 0)),(6,.c (.ptr 1 0)),(7,.c (.ptr 2 0)),(8,.c (.p (.i .i64 (↑i:Int))))] [.cells 27 [.p (.l 7 M.length (aE aG M))],.cells 86 [.sl 3 7 0 D.M.length,.mp 4,.mp 5],.cells 65 [.sl 6 1 0 (B++dI p.to).length],.row 31 7 D.M.length fun e o=>bQ [0,1,2,4,5,6,10] (aO aG D.M e o),.mapb (bJ aB 81) D.gp,.mapl (bJ aB 79) 3 1 D.gs none,.row 5 1 (B++dI p.to).length fun e o=>bQ [0,1,2,4,5,6,10] (C.p (PV.i bF (↑((B++dI p.to).getD e yZ8).toNat:Int)))])):=by kernel_rfl
theorem aQ1(i:Nat)(S:List Int)(M:List Pg)(D:Ld)(k:Nat)(B:List UInt8):dF fH (bL 3 (gQ (dC aB eI) 8)) (bY 126 [(1,aU aT 1 S),(5,.c (.ptr 0 0)),(6,.c (.ptr 1 0)),(7,.c (.ptr 2 0)),(8,iV i)] [.cells 27 [.p (bO aG 7 M)],.cells 86 [.sl 3 7 0 D.M.length,.mp 4,.mp 5],.cells 65 [.sl 6 1 0 k],.row 31 7 D.M.length (aO aG D.M),.mapb (bJ aB 81) D.gp,.mapl (bJ aB 79) 3 1 D.gs none,.row 5 1 k (aO bI B)]) (gW (fJ 126 [1,5,6,7,8]) (bK aB eI))=Tr.rq (eW aC ((↑i:Int)+1))
 (.done .normal
 (bY 126 [(1,.c (.p (.l 1 S.length (aE aT S)))),(5,.c (.ptr 0 0)),(6,.c (.ptr 1 0)),(7,.c (.ptr 2 0)),(8,.c (.p (.i .i64 ((↑i:Int)+1))))] [.cells 27 [.p (.l 7 M.length (aE aG M))],.cells 86 [.sl 3 7 0 D.M.length,.mp 4,.mp 5],.cells 65 [.sl 6 1 0 k],.row 31 7 D.M.length fun e o=>bQ [0,1,2,3,4,5,6] (aO aG D.M e o),.mapb (bJ aB 81) D.gp,.mapl (bJ aB 79) 3 1 D.gs none,.row 5 1 k fun e o=>bQ [0,1,2,3,4,5,6] (aO bI B e o)])):=by kernel_rfl
theorem aQ0(i:Nat)(S:List Int)(M:List Pg)(D:Ld)(k:Nat)(B:List UInt8):dF (aFG D M) (dL 1 (bL 9 (dC aB eI))) (bY 126 [(1,aU aT 1 S),(5,.c (.ptr 0 0)),(6,.c (.ptr 1 0)),(7,.c (.ptr 2 0)),(8,iV i)] [.cells 27 [.p (bO aG 7 M)],.cells 86 [.sl 3 7 0 D.M.length,.mp 4,.mp 5],.cells 65 [.sl 6 1 0 k],.row 31 7 D.M.length (aO aG D.M),.mapb (bJ aB 81) D.gp,.mapl (bJ aB 79) 3 1 D.gs none,.row 5 1 k (aO bI B)]) (gW (fJ 126 [1,5,6,7,11]) (bK aB eI))=Tr.rq
 ((D.M.length=D.M.length ∧
 D.M.length=D.M.length ∧
 (∀(e o:Nat),e<D.M.length→o<7→aO aG D.M e o=aO aG D.M e o)∧bJ aB 81=bJ aB 81∧D.gp=D.gp∧bJ aB 79=bJ aB 79∧D.gs=D.gs) ∧
 sJ M∧D=dD M)
 (.done .normal
 (bY 126 [(1,.c (.p (.l 1 S.length (aE aT S)))),(5,.c (.ptr 0 0)),(6,.c (.ptr 1 0)),(7,.c (.ptr 2 0)),(11,.c (.p (.l 1 (lI M).length (aE bI (lI M)))))] [.cells 27 [.p (.l 7 M.length (aE aG M))],.cells 86 [.sl 3 7 0 D.M.length,.mp 4,.mp 5],.cells 65 [.sl 6 1 0 k],.row 31 7 D.M.length fun e o=>bQ [0,1,2,9,10,11,6] (C.p (aE aG D.M e o)),.mapb (bJ aB 81) D.gp,.mapl (bJ aB 79) 3 1 D.gs none,.row 5 1 k fun e o=>bQ [0,1,2,9,10,11,6] (aO bI B e o)])):=by kernel_rfl
theorem aPZ(S:List Int)(M:List Pg)(D:Ld)(k:Nat)(B:List UInt8):dF (YH B D M) (dL 1 (bL 10 (dC aB eI))) (bY 126 [(1,aU aT 1 S),(5,.c (.ptr 0 0)),(6,.c (.ptr 1 0)),(7,.c (.ptr 2 0)),(11,aU bI 1 B)] [.cells 27 [.p (bO aG 7 M)],.cells 86 [.sl 3 7 0 D.M.length,.mp 4,.mp 5],.cells 65 [.sl 6 1 0 k],.row 31 7 D.M.length (aO aG D.M),.mapb (bJ aB 81) D.gp,.mapl (bJ aB 79) 3 1 D.gs none,.row 5 1 k (aO bI B)]) (gW (fJ 126 [1,5,6,7,11,12,13]) (bK aB eI))=Tr.rq
 ((B.length=B.length∧∀(e o:Nat),e<B.length→o<1→aE bI B e o=aE bI B e o) ∧
 (B.length≤140737488355328∧((gE B (Rs.mk 0 0)).fst≤50000∨B.length≤50000))∧BD B=some M∧D=dD M)
 (.done .normal
 (bY 126 [(1,.c (.p (.l 1 S.length (aE aT S)))),(5,.c (.ptr 0 0)),(6,.c (.ptr 1 0)),(7,.c (.ptr 2 0)),(11,.c (.p (.l 1 B.length (aE bI B)))),(12,.c (.ptr 3 0)),(13,.c (.p (.i .i64 0)))] [.cells 27 [.p (.l 7 M.length (aE aG M))],.cells 86 [.sl 4 7 0 D.M.length,.mp 5,.mp 6],.cells 65 [.sl 7 1 0 k],.cells 86 [.sl 8 7 0 D.M.length,.mp 9,.mp 10],.row 31 7 D.M.length fun e o=>bQ [0,1,2,7,3,4,5,6,8,9,10] (aO aG D.M e o),.mapb (bJ aB 81) D.gp,.mapl (bJ aB 79) 3 1 D.gs none,.row 5 1 k fun e o=>bQ [0,1,2,7,3,4,5,6,8,9,10] (aO bI B e o),.row 31 7 D.M.length fun e o=>bQ [0,1,2,7,3,4,5,6,8,9,10] (C.p (aE aG D.M e o)),.mapb (bJ aB 81) D.gp,.mapl (bJ aB 79) 3 1 D.gs none])):=by kernel_rfl
theorem aPY(S:List Int)(M:List Pg)(D:Ld)(k:Nat)(B:List UInt8):aGY (YG B D M) (ZK (bC .skip (dC aB eI) 11)) (aH3 (bC .skip (dC aB eI) 11)) [1,14] (bY 126 [(1,aU aT 1 S),(5,.c (.ptr 0 0)),(6,.c (.ptr 1 0)),(7,.c (.ptr 2 0)),(11,aU bI 1 B),(12,.c (.ptr 3 0)),(13,iV 0)] [.cells 27 [.p (bO aG 7 M)],.cells 86 [.sl 4 7 0 D.M.length,.mp 5,.mp 6],.cells 65 [.sl 7 1 0 k],.cells 86 [.sl 8 7 0 D.M.length,.mp 9,.mp 10],.row 31 7 D.M.length (aO aG D.M),.mapb (bJ aB 81) D.gp,.mapl (bJ aB 79) 3 1 D.gs none,.row 5 1 k (aO bI B),.row 31 7 D.M.length (aO aG D.M),.mapb (bJ aB 81) D.gp,.mapl (bJ aB 79) 3 1 D.gs none])=Tr.rq ((k=B.length∧k=B.length∧∀(e o:Nat),e<B.length→o<1→aO bI B e o=aO bI B e o)∧B.length≤140737488355328)
 (.rq (∃U,iE (V.c (C.p (PV.l 1 B.length (aE bI B)))) (aU bI 1 U)∧iE (V.c (C.p (PV.l 1 B.length (aE bI B)))) (aU bI 1 U)∧U.length≤140737488355328)
 (.rq
 ((D.M.length=D.M.length ∧
 D.M.length=D.M.length ∧
 (∀(e o:Nat),e<D.M.length→o<7→aO aG D.M e o=aO aG D.M e o)∧bJ aB 81=bJ aB 81∧D.gp=D.gp∧bJ aB 79=bJ aB 79∧D.gs=D.gs) ∧
 sJ M∧D=dD M)
 (.rq (7=7∧M.length=M.length∧aE aG M=aE aG M)
 (.rq
 (∃A,
 iE (V.c (C.p (PV.l 7 M.length (aE aG M)))) (aU aG 7 A) ∧
 iE (V.c (C.p (PV.l 7 M.length (aE aG M)))) (aU aG 7 A)∧A.length≤1000000∧∀(a:Pg),a∈A→a.L.length≤1000000)
 (.done .normal
 (bY 126 [(1,.c (.p (.l 1 S.length (aE aT S)))),(5,.c (.ptr 0 0)),(6,.c (.ptr 1 0)),(7,.c (.ptr 2 0)),(11,.c (.p (.l 1 B.length (aE bI B)))),(12,.c (.ptr 3 0)),(13,.c (.p (.i .i64 0))),(87,.c (.p (.l 1 B.length (aE bI B)))),(88,.c (.p (.l 1 B.length (aE bI B)))),(89,.c (.p (.b true))),(90,.c (.p (.b false))),(91,.c (.p (.b false))),(92,.c (.p (.i .i64 0))),(93,.c (.p (.b false))),(94,.c (.p (.b false))),(95,.c (.p (.b false))),(96,.c (.ptr 3 0)),(97,.c (.p (.b false))),(98,.c (.p (.b false))),(99,.c (.p (.b false))),(100,.c (.ptr 3 0)),(101,.c (.p (.l 7 M.length (aE aG M)))),(102,.c (.ptr 0 0)),(103,.c (.p (.l 7 M.length (aE aG M)))),(104,.c (.p (.b true))),(105,.c (.p (.b false))),(106,.c (.p (.b false)))] [.cells 27 [.p (.l 7 M.length (aE aG M))],.cells 86 [.sl 4 7 0 D.M.length,.mp 5,.mp 6],.cells 65 [.sl 13 1 0 B.length],.cells 86 [.sl 16 7 0 D.M.length,.mp 17,.mp 18],.row 31 7 D.M.length (aO aG D.M),.mapb (bJ aB 81) D.gp,.mapl (bJ aB 79) 3 1 D.gs none,.gone,.gone,.gone,.gone,.gone,.gone,.row 5 1 B.length fun e o=>C.p (PV.i bF (↑(B.getD e yZ8).toNat:Int)),.gone,.gone,.row 31 7 D.M.length fun e o=>C.p (aE aG D.M e o),.mapb (bJ aB 81) D.gp,.mapl (bJ aB 79) 3 1 D.gs none])))))):=by kernel_rfl
theorem aPX(S:List Int)(M:List Pg)(D:Ld)(k:Nat)(B:List UInt8)(p:Pg):dF (YF p) (dL 1 (bL 13 (dC aB eI))) (bY 126 [(1,aU aT 1 S),(6,.c (.ptr 0 0)),(12,.c (.ptr 1 0))] [.cells 86 [.sl 2 7 0 D.M.length,.mp 3,.mp 4],.cells 86 [.sl 5 7 0 D.M.length,.mp 6,.mp 7],.row 31 7 D.M.length (aO aG D.M),.mapb (bJ aB 81) D.gp,.mapl (bJ aB 79) 3 1 D.gs none,.row 31 7 D.M.length (aO aG D.M),.mapb (bJ aB 81) D.gp,.mapl (bJ aB 79) 3 1 D.gs none]) (gW (fJ 126 [6,12,14]) (bK aB eI))=Tr.rq
 (kI aT 1 (bS gH S.length (aE aT S)) S.length (aE aT S) ∧
 (∀(t:Int),t∈bS gH S.length (aE aT S)→eW aC t)∧rI 0∧mP (bS gH S.length (aE aT S)) 0=p)
 (.done .normal
 (bY 126 [(6,.c (.ptr 0 0)),(12,.c (.ptr 1 0)),(14,.c (.ptr 2 0))] [.cells 86 [.sl 3 7 0 D.M.length,.mp 4,.mp 5],.cells 86 [.sl 6 7 0 D.M.length,.mp 7,.mp 8],.cells 31 [.p (.i .i64 p.kd),.p (.s p.ru),.p (.i .i64 p.ve),.p (.l 2 p.L.length (aE aN p.L)),.p (.i .i64 p.st),.p (.i .i64 p.se),.p (.s p.to)],.row 31 7 D.M.length fun e o=>bQ [0,1,8,2,3,4,5,6,7] (aO aG D.M e o),.mapb (bJ aB 81) D.gp,.mapl (bJ aB 79) 3 1 D.gs none,.row 31 7 D.M.length fun e o=>bQ [0,1,8,2,3,4,5,6,7] (aO aG D.M e o),.mapb (bJ aB 81) D.gp,.mapl (bJ aB 79) 3 1 D.gs none])):=by kernel_rfl
def aQB(hd:List AI):Sg:=
 let r:Sg:=.one (fJ 11 [6,7,8,10]) (VO 9 0 hd).1 9 (.fin [])
 .two (fJ 11 [0,1,3,4]) (VO 2 0 hd).1 2 (.one [] (VO 5 0 hd).1 5 r) (VO 5 0 hd).1 5 (.one [] (VO 2 0 hd).1 2 r)
theorem aPW(M M':List Pg)(D D':Ld)(p:Pg)(e:Int):WA (YE D D' M p M' e) (ZK (bC .skip (dC aB eI) 14)) (aH3 (bC .skip (dC aB eI) 14)) (aQB (ZK (bC .skip (dC aB eI) 14))) (bY 126 [(6,.c (.ptr 0 0)),(12,.c (.ptr 1 0)),(14,.c (.ptr 2 0))] [.cells 86 [.sl 3 7 0 D.M.length,.mp 4,.mp 5],.cells 86 [.sl 6 7 0 D.M.length,.mp 7,.mp 8],.cells 31 [.p (.i .i64 p.kd),.p (.s p.ru),.p (.i .i64 p.ve),.p (bO aN 2 p.L),.p (.i .i64 p.st),.p (.i .i64 p.se),.p (.s p.to)],.row 31 7 D.M.length (aO aG D.M),.mapb (bJ aB 81) D.gp,.mapl (bJ aB 79) 3 1 D.gs none,.row 31 7 D.M.length (aO aG D.M),.mapb (bJ aB 81) D.gp,.mapl (bJ aB 79) 3 1 D.gs none])=(Tr.rq
        (((kI aN 2 (bS cS p.L.length (aE aN p.L)) p.L.length (aE aN p.L)∧Pg.mk p.kd p.ru p.ve (bS cS p.L.length (aE aN p.L)) p.st p.se p.to=p) ∧
          D.M.length=D.M.length ∧
           D.M.length=D.M.length ∧
            (∀(e o:Nat),e<D.M.length→o<7→aO aG D.M e o=aO aG D.M e o)∧bJ aB 81=bJ aB 81∧D.gp=D.gp∧bJ aB 79=bJ aB 79∧D.gs=D.gs) ∧
          (sJ M∧eW aC p.ve)∧sI M p=(M',e)∧D=dD M∧D'=dD M')
        (Tr.rq (aC=aC∧p.kd=p.kd)
         (Tr.rq (p.ru=p.ru)
          (Tr.rq (aC=aC∧p.ve=p.ve)
           (Tr.rq (2=2∧p.L.length=p.L.length∧aE aN p.L=aE aN p.L)
            (Tr.rq (aC=aC∧p.st=p.st)
             (Tr.rq (aC=aC∧p.se=p.se)
              (Tr.rq (p.to=p.to)
               (Tr.rq
                (((kI aN 2 (bS cS p.L.length (aE aN p.L)) p.L.length (aE aN p.L)∧Pg.mk p.kd p.ru p.ve (bS cS p.L.length (aE aN p.L)) p.st p.se p.to=p) ∧
                  D.M.length=D.M.length ∧
                   D.M.length=D.M.length ∧
                    (∀(e o:Nat),e<D.M.length→o<7→aO aG D.M e o=aO aG D.M e o) ∧
                     bJ aB 81=bJ aB 81∧D.gp=D.gp∧bJ aB 79=bJ aB 79∧D.gs=D.gs) ∧
                  (sJ M∧eW aC p.ve)∧sI M p=(M',e)∧D=dD M∧D'=dD M')
                (Tr.rq (aC=aC∧p.kd=p.kd)
                 (Tr.rq (p.ru=p.ru)
                  (Tr.rq (aC=aC∧p.ve=p.ve)
                   (Tr.rq (2=2∧p.L.length=p.L.length∧aE aN p.L=aE aN p.L)
                    (Tr.rq (aC=aC∧p.st=p.st)
                     (Tr.rq (aC=aC∧p.se=p.se)
                      (Tr.rq (p.to=p.to)
                       (bT (e==e)
                        (Tr.rq
                         ((D'.M.length=D'.M.length ∧
                           D'.M.length=D'.M.length ∧
                            (∀(e o:Nat),e<D'.M.length→o<7→C.p (aE aG D'.M e o)=aO aG D'.M e o) ∧
                             bJ aB 81=bJ aB 81∧D'.gp=D'.gp∧bJ aB 79=bJ aB 79∧D'.gs=D'.gs) ∧
                           sJ M'∧D'=dD M')
                         (Tr.rq
                          ((D'.M.length=D'.M.length ∧
                            D'.M.length=D'.M.length ∧
                             (∀(e o:Nat),e<D'.M.length→o<7→C.p (aE aG D'.M e o)=aO aG D'.M e o) ∧
                              bJ aB 81=bJ aB 81∧D'.gp=D'.gp∧bJ aB 79=bJ aB 79∧D'.gs=D'.gs) ∧
                            sJ M'∧D'=dD M')
                          (Tr.rq
                           (∃A,
                            iE (V.c (C.p (PV.l 7 M'.length (aE aG M')))) (aU aG 7 A) ∧
                             iE (V.c (C.p (PV.l 7 M'.length (aE aG M')))) (aU aG 7 A)∧A.length≤1000000∧∀(a:Pg),a∈A→a.L.length≤1000000)
                           (Tr.rq True
                            (Tr.done X.normal
                             (bY 126 [(4,V.c (C.p (PV.b true))),(6,V.c (C.ptr 0 0)),(12,V.c (C.ptr 1 0)),(14,V.c (C.ptr 2 0)),(109,V.c (C.ptr 1 0)),(110,V.a [C.p (PV.i aC p.kd),C.p (PV.s p.ru),C.p (PV.i aC p.ve),C.p (PV.l 2 p.L.length (aE aN p.L)),C.p (PV.i aC p.st),C.p (PV.i aC p.se),C.p (PV.s p.to)]),(111,V.c (C.p (PV.i aC e))),(112,V.c (C.ptr 0 0)),(113,V.a [C.p (PV.i aC p.kd),C.p (PV.s p.ru),C.p (PV.i aC p.ve),C.p (PV.l 2 p.L.length (aE aN p.L)),C.p (PV.i aC p.st),C.p (PV.i aC p.se),C.p (PV.s p.to)]),(114,V.c (C.p (PV.i aC e))),(115,V.c (C.p (PV.b (e==e)))),(116,V.c (C.p (PV.b true))),(117,V.c (C.ptr 1 0)),(118,V.c (C.p (PV.l 7 M'.length (aE aG M')))),(119,V.c (C.ptr 0 0)),(120,V.c (C.p (PV.l 7 M'.length (aE aG M')))),(121,V.c (C.p (PV.b true))),(122,V.c (C.p (PV.b true))),(123,V.c (C.p (PV.b true))),(124,V.c (C.p (PV.b true))),(125,V.c (C.p (PV.b true)))] [AO.cells 86 [C.sl 26 7 0 D'.M.length,C.mp 27,C.mp 28],AO.cells 86 [C.sl 21 7 0 D'.M.length,C.mp 22,C.mp 23],AO.cells 31 [C.p (PV.i aC p.kd),C.p (PV.s p.ru),C.p (PV.i aC p.ve),C.p (PV.l 2 p.L.length (aE aN p.L)),C.p (PV.i aC p.st),C.p (PV.i aC p.se),C.p (PV.s p.to)],AO.gone,AO.gone,AO.gone,AO.gone,AO.gone,AO.gone,AO.gone,AO.gone,AO.gone,AO.gone,AO.gone,AO.gone,AO.gone,AO.gone,AO.gone,AO.gone,AO.gone,AO.gone,AO.row 31 7 D'.M.length fun e o=>C.p (aE aG D'.M e o),AO.mapb (bJ aB 81) D'.gp,AO.mapl (bJ aB 79) 3 1 D'.gs none,AO.gone,AO.gone,AO.row 31 7 D'.M.length fun e o=>C.p (aE aG D'.M e o),AO.mapb (bJ aB 81) D'.gp,AO.mapl (bJ aB 79) 3 1 D'.gs none]))))))
                        Tr.fail))))))))))))))))).alt
  (Tr.rq
   (((kI aN 2 (bS cS p.L.length (aE aN p.L)) p.L.length (aE aN p.L)∧Pg.mk p.kd p.ru p.ve (bS cS p.L.length (aE aN p.L)) p.st p.se p.to=p) ∧
     D.M.length=D.M.length ∧
      D.M.length=D.M.length ∧
       (∀(e o:Nat),e<D.M.length→o<7→aO aG D.M e o=aO aG D.M e o)∧bJ aB 81=bJ aB 81∧D.gp=D.gp∧bJ aB 79=bJ aB 79∧D.gs=D.gs) ∧
     (sJ M∧eW aC p.ve)∧sI M p=(M',e)∧D=dD M∧D'=dD M')
   (Tr.rq (aC=aC∧p.kd=p.kd)
    (Tr.rq (p.ru=p.ru)
     (Tr.rq (aC=aC∧p.ve=p.ve)
      (Tr.rq (2=2∧p.L.length=p.L.length∧aE aN p.L=aE aN p.L)
       (Tr.rq (aC=aC∧p.st=p.st)
        (Tr.rq (aC=aC∧p.se=p.se)
         (Tr.rq (p.to=p.to)
          (Tr.rq
           (((kI aN 2 (bS cS p.L.length (aE aN p.L)) p.L.length (aE aN p.L)∧Pg.mk p.kd p.ru p.ve (bS cS p.L.length (aE aN p.L)) p.st p.se p.to=p) ∧
             D.M.length=D.M.length ∧
              D.M.length=D.M.length ∧
               (∀(e o:Nat),e<D.M.length→o<7→aO aG D.M e o=aO aG D.M e o) ∧
                bJ aB 81=bJ aB 81∧D.gp=D.gp∧bJ aB 79=bJ aB 79∧D.gs=D.gs) ∧
             (sJ M∧eW aC p.ve)∧sI M p=(M',e)∧D=dD M∧D'=dD M')
           (Tr.rq (aC=aC∧p.kd=p.kd)
            (Tr.rq (p.ru=p.ru)
             (Tr.rq (aC=aC∧p.ve=p.ve)
              (Tr.rq (2=2∧p.L.length=p.L.length∧aE aN p.L=aE aN p.L)
               (Tr.rq (aC=aC∧p.st=p.st)
                (Tr.rq (aC=aC∧p.se=p.se)
                 (Tr.rq (p.to=p.to)
                  (bT (e==e)
                   (Tr.rq
                    ((D'.M.length=D'.M.length ∧
                      D'.M.length=D'.M.length ∧
                       (∀(e o:Nat),e<D'.M.length→o<7→C.p (aE aG D'.M e o)=aO aG D'.M e o) ∧
                        bJ aB 81=bJ aB 81∧D'.gp=D'.gp∧bJ aB 79=bJ aB 79∧D'.gs=D'.gs) ∧
                      sJ M'∧D'=dD M')
                    (Tr.rq
                     ((D'.M.length=D'.M.length ∧
                       D'.M.length=D'.M.length ∧
                        (∀(e o:Nat),e<D'.M.length→o<7→C.p (aE aG D'.M e o)=aO aG D'.M e o) ∧
                         bJ aB 81=bJ aB 81∧D'.gp=D'.gp∧bJ aB 79=bJ aB 79∧D'.gs=D'.gs) ∧
                       sJ M'∧D'=dD M')
                     (Tr.rq
                      (∃A,
                       iE (V.c (C.p (PV.l 7 M'.length (aE aG M')))) (aU aG 7 A) ∧
                        iE (V.c (C.p (PV.l 7 M'.length (aE aG M')))) (aU aG 7 A)∧A.length≤1000000∧∀(a:Pg),a∈A→a.L.length≤1000000)
                      (Tr.rq True
                       (Tr.done X.normal
                        (bY 126 [(4,V.c (C.p (PV.b true))),(6,V.c (C.ptr 0 0)),(12,V.c (C.ptr 1 0)),(14,V.c (C.ptr 2 0)),(109,V.c (C.ptr 1 0)),(110,V.a [C.p (PV.i aC p.kd),C.p (PV.s p.ru),C.p (PV.i aC p.ve),C.p (PV.l 2 p.L.length (aE aN p.L)),C.p (PV.i aC p.st),C.p (PV.i aC p.se),C.p (PV.s p.to)]),(111,V.c (C.p (PV.i aC e))),(112,V.c (C.ptr 0 0)),(113,V.a [C.p (PV.i aC p.kd),C.p (PV.s p.ru),C.p (PV.i aC p.ve),C.p (PV.l 2 p.L.length (aE aN p.L)),C.p (PV.i aC p.st),C.p (PV.i aC p.se),C.p (PV.s p.to)]),(114,V.c (C.p (PV.i aC e))),(115,V.c (C.p (PV.b (e==e)))),(116,V.c (C.p (PV.b true))),(117,V.c (C.ptr 1 0)),(118,V.c (C.p (PV.l 7 M'.length (aE aG M')))),(119,V.c (C.ptr 0 0)),(120,V.c (C.p (PV.l 7 M'.length (aE aG M')))),(121,V.c (C.p (PV.b true))),(122,V.c (C.p (PV.b true))),(123,V.c (C.p (PV.b true))),(124,V.c (C.p (PV.b true))),(125,V.c (C.p (PV.b true)))] [AO.cells 86 [C.sl 26 7 0 D'.M.length,C.mp 27,C.mp 28],AO.cells 86 [C.sl 21 7 0 D'.M.length,C.mp 22,C.mp 23],AO.cells 31 [C.p (PV.i aC p.kd),C.p (PV.s p.ru),C.p (PV.i aC p.ve),C.p (PV.l 2 p.L.length (aE aN p.L)),C.p (PV.i aC p.st),C.p (PV.i aC p.se),C.p (PV.s p.to)],AO.gone,AO.gone,AO.gone,AO.gone,AO.gone,AO.gone,AO.gone,AO.gone,AO.gone,AO.gone,AO.gone,AO.gone,AO.gone,AO.gone,AO.gone,AO.gone,AO.gone,AO.gone,AO.row 31 7 D'.M.length fun e o=>C.p (aE aG D'.M e o),AO.mapb (bJ aB 81) D'.gp,AO.mapl (bJ aB 79) 3 1 D'.gs none,AO.gone,AO.gone,AO.row 31 7 D'.M.length fun e o=>C.p (aE aG D'.M e o),AO.mapb (bJ aB 81) D'.gp,AO.mapl (bJ aB 79) 3 1 D'.gs none]))))))
                   Tr.fail))))))))))))))))):=by kernel_rfl
theorem aPV  : dF fH (bL 15 (dC aB eI)) (bY 126 [(4,bV true)] []) (gW [] (bK aB eI))=Tr.done X.ret (St.mk [V.c (C.p (PV.b true))] []):=by kernel_rfl
section
variable {G:Nat→Option Obj}
theorem MQ(D:Ld)(M:List Pg):bG aB G (aFG D M):=eM (by simp;exact aNN D M)
theorem HP(B:List UInt8)(D:Ld)(M:List Pg):bG aB G (YH B D M):=eM (by simp;exact aNO B D (some M))
theorem HO(B:List UInt8)(D:Ld)(M:List Pg):bG aB G (YG B D M):=eM (by simp;exact⟨WK B,aI9.lift,aDQ D M,aKI.lift⟩)
theorem HM(p:Pg):bG aB G (YF p):=eC (by simp;exact OG p)
theorem HJ(D D':Ld)(M:List Pg)(p:Pg)(M':List Pg)(e:Int):bG aB G (YE D D' M p M' e):=eM (by simp;exact⟨aIN D D' M p M' e,aDQ D' M',aKI.lift,aA4.lift⟩)
theorem aD9{B:List Pg}(hB:sJ B):∀a∈B,a.L.length≤1000000:=fun a ha=>by have:=(kV (iP.1 (hB.1 a ha).1).2.2.1).1;omega
theorem VJ(S:List Int)(M:List Pg)(hM:sJ M)(hLg:zS M)(hMl:M.length≤1275)(hS:∀t∈S,eW .i64 t):eG aB G (bK aB eI) (bV true) (bL 9 (dC aB eI)) ((fun(D:Ld) (i:Nat) (k:Nat) (B:List UInt8)=>bY 126 [(1,aU aT 1 S),(5,.c (.ptr 0 0)),(6,.c (.ptr 1 0)),(7,.c (.ptr 2 0)),(8,iV i)] [.cells 27 [.p (bO aG 7 M)],.cells 86 [.sl 3 7 0 D.M.length,.mp 4,.mp 5],.cells 65 [.sl 6 1 0 k],.row 31 7 D.M.length (aO aG D.M),.mapb (bJ aB 81) D.gp,.mapl (bJ aB 79) 3 1 D.gs none,.row 5 1 k (aO bI B)]) (dD M) M.length (lI M).length (lI M)) (fun _ _=>False):=by
 have hlB:=FG hM
 have rowOK:True∧True∧(∀(e o:Nat),e<(dD M).M.length→o<7→True)∧True∧True∧True∧True:=⟨xZ8,xZ8,fun _ _ _ _=>xZ8,xZ8,xZ8,xZ8,xZ8⟩
 refine eG.evG (MQ (dD M) M) 1 (aQ0 M.length S M (dD M) (lI M).length (lI M)) ?_;simp only[bA,aP,cC];refine⟨⟨rowOK,hM,xZ8⟩,⟨?_⟩⟩
 refine eG.pre (aI (st':=(fun(D:Ld) (k:Nat) (B:List UInt8)=>bY 126 [(1,aU aT 1 S),(5,.c (.ptr 0 0)),(6,.c (.ptr 1 0)),(7,.c (.ptr 2 0)),(11,aU bI 1 B)] [.cells 27 [.p (bO aG 7 M)],.cells 86 [.sl 3 7 0 D.M.length,.mp 4,.mp 5],.cells 65 [.sl 6 1 0 k],.row 31 7 D.M.length (aO aG D.M),.mapb (bJ aB 81) D.gp,.mapl (bJ aB 79) 3 1 D.gs none,.row 5 1 k (aO bI B)]) (dD M) (lI M).length (lI M)) (by kernel_rfl)) ?_
 refine eG.evG (HP (lI M) (dD M) M) 1 (aPZ S M (dD M) (lI M).length (lI M)) ?_;simp only[bA,aP,cC];refine⟨⟨⟨xZ8,fun _ _ _ _=>xZ8⟩,⟨by omega,.inl (by rw[UI hM];show (M.length:Int)≤50000;omega)⟩,aJW hM hLg,xZ8⟩,⟨?_⟩⟩
 refine eG.pre (aI (st':=(fun(D:Ld) (k:Nat) (B:List UInt8)=>bY 126 [(1,aU aT 1 S),(5,.c (.ptr 0 0)),(6,.c (.ptr 1 0)),(7,.c (.ptr 2 0)),(11,aU bI 1 B),(12,.c (.ptr 3 0)),(13,iV 0)] [.cells 27 [.p (bO aG 7 M)],.cells 86 [.sl 4 7 0 D.M.length,.mp 5,.mp 6],.cells 65 [.sl 7 1 0 k],.cells 86 [.sl 8 7 0 D.M.length,.mp 9,.mp 10],.row 31 7 D.M.length (aO aG D.M),.mapb (bJ aB 81) D.gp,.mapl (bJ aB 79) 3 1 D.gs none,.row 5 1 k (aO bI B),.row 31 7 D.M.length (aO aG D.M),.mapb (bJ aB 81) D.gp,.mapl (bJ aB 79) 3 1 D.gs none]) (dD M) (lI M).length (lI M)) (by kernel_rfl)) ?_
 refine eG.regdC (HO (lI M) (dD M) M) (hd:=ZK (bC .skip (dC aB eI) 11)) (tl:=aH3 (bC .skip (dC aB eI) 11)) (ns:=[1,14]) (l:=bL 1 (bL 1 (bL 9 (dC aB eI)))) (r':=bL 12 (dC aB eI)) (by kernel_rfl) (by kernel_rfl) (aPY S M (dD M) (lI M).length (lI M)) ?_
 simp only[bA,iA];refine⟨⟨⟨xZ8,xZ8,fun _ _ _ _=>xZ8⟩,by omega⟩,⟨lI M,iE.refl _,iE.refl _,by omega⟩,⟨rowOK,hM,xZ8⟩,⟨xZ8,xZ8,xZ8⟩,⟨M,iE.refl _,iE.refl _,by omega,aD9 hM⟩,xZ8,?_⟩
 refine eG.pre ((gB (fJ 126 [1,6,12,106]) _).trans (aI (st':=(fun(D:Ld)=>bY 126 [(1,aU aT 1 S),(6,.c (.ptr 0 0)),(12,.c (.ptr 1 0)),(106,bV false)] [.cells 86 [.sl 2 7 0 D.M.length,.mp 3,.mp 4],.cells 86 [.sl 5 7 0 D.M.length,.mp 6,.mp 7],.row 31 7 D.M.length (aO aG D.M),.mapb (bJ aB 81) D.gp,.mapl (bJ aB 79) 3 1 D.gs none,.row 31 7 D.M.length (aO aG D.M),.mapb (bJ aB 81) D.gp,.mapl (bJ aB 79) 3 1 D.gs none]) (dD M)) (by kernel_rfl))) ?_
 refine eG.evG aY 1 (keep:=fJ 126 [1,6,12]) (tree:=.done .normal ((fun(D:Ld)=>bY 126 [(1,aU aT 1 S),(6,.c (.ptr 0 0)),(12,.c (.ptr 1 0))] [.cells 86 [.sl 2 7 0 D.M.length,.mp 3,.mp 4],.cells 86 [.sl 5 7 0 D.M.length,.mp 6,.mp 7],.row 31 7 D.M.length (aO aG D.M),.mapb (bJ aB 81) D.gp,.mapl (bJ aB 79) 3 1 D.gs none,.row 31 7 D.M.length (aO aG D.M),.mapb (bJ aB 81) D.gp,.mapl (bJ aB 79) 3 1 D.gs none]) (dD M))) (by kernel_rfl) ?_
 simp only[aP,cC];refine⟨?_⟩
 have hve:eW .i64 (mP S 0).ve:=NZ S 0
 have hi0:rI 0:=by unfold rI;omega
 refine eG.evG (HM (mP S 0)) 1 (aPX S M (dD M) 0 [] (mP S 0)) ?_;simp only[bA,aP,cC,iS];refine⟨⟨dP _ _ _,hS,hi0,xZ8⟩,⟨?_⟩⟩
 generalize mP S 0=p at hve ⊢
 obtain⟨M',e,he⟩:∃M' e,sI M p=(M',e):=⟨_,_,rfl⟩
 obtain⟨hM',hM'l,_⟩:=aJT hM hMl hve he
 refine eG.pre (aI (st':=(fun(D:Ld)=>bY 126 [(6,.c (.ptr 0 0)),(12,.c (.ptr 1 0)),(14,.c (.ptr 2 0))] [.cells 86 [.sl 3 7 0 D.M.length,.mp 4,.mp 5],.cells 86 [.sl 6 7 0 D.M.length,.mp 7,.mp 8],.cells 31 [.p (.i .i64 p.kd),.p (.s p.ru),.p (.i .i64 p.ve),.p (bO aN 2 p.L),.p (.i .i64 p.st),.p (.i .i64 p.se),.p (.s p.to)],.row 31 7 D.M.length (aO aG D.M),.mapb (bJ aB 81) D.gp,.mapl (bJ aB 79) 3 1 D.gs none,.row 31 7 D.M.length (aO aG D.M),.mapb (bJ aB 81) D.gp,.mapl (bJ aB 79) 3 1 D.gs none]) (dD M)) (by kernel_rfl)) ?_
 refine eG.regdE (HJ (dD M) (dD M') M p M' e) (hd:=ZK (bC .skip (dC aB eI) 14)) (tl:=aH3 (bC .skip (dC aB eI) 14)) (r:=aQB (ZK (bC .skip (dC aB eI) 14))) (r':=bL 15 (dC aB eI)) (by kernel_rfl) (by kernel_rfl) (aPW M M' (dD M) (dD M') p e) ?_
 simp only[oR,cD,bA,iA,gN];refine⟨?_,?_⟩
 all_goals
  refine⟨⟨⟨⟨dP _ _ _,xZ8⟩,xZ8,xZ8,fun _ _ _ _=>xZ8,xZ8,xZ8,xZ8,xZ8⟩,⟨hM,hve⟩,he,xZ8,xZ8⟩,⟨xZ8,xZ8⟩,xZ8,⟨xZ8,xZ8⟩,⟨xZ8,xZ8,xZ8⟩,⟨xZ8,xZ8⟩,⟨xZ8,xZ8⟩,xZ8,⟨⟨⟨dP _ _ _,xZ8⟩,xZ8,xZ8,fun _ _ _ _=>xZ8,xZ8,xZ8,xZ8,xZ8⟩,⟨hM,hve⟩,he,xZ8,xZ8⟩,⟨xZ8,xZ8⟩,xZ8,⟨xZ8,xZ8⟩,⟨xZ8,xZ8,xZ8⟩,⟨xZ8,xZ8⟩,⟨xZ8,xZ8⟩,xZ8,fun _=>⟨⟨⟨xZ8,xZ8,fun _ _ _ _=>by trivial,xZ8,xZ8,xZ8,xZ8⟩,hM',xZ8⟩,⟨⟨xZ8,xZ8,fun _ _ _ _=>by trivial,xZ8,xZ8,xZ8,xZ8⟩,hM',xZ8⟩,⟨M',iE.refl _,iE.refl _,by omega,aD9 hM'⟩,xZ8,xZ8,?_⟩,fun h=>absurd h (by simp)⟩
  refine eG.pre ((gB (fJ 126 [4]) _).trans (aI (st':=bY 126 [(4,bV true)] []) (by kernel_rfl))) ?_
  refine eG.evH aY aPV ?_;simp only[aP,fP];exact⟨iE.refl _⟩
theorem VK(S:List Int)(M:List Pg)(hM:sJ M)(Q:X→St→Prop)
  (hQ:eG aB G (bK aB eI) (bV true) (bL 9 (dC aB eI)) ((fun(D:Ld) (i:Nat) (k:Nat) (B:List UInt8)=>bY 126 [(1,aU aT 1 S),(5,.c (.ptr 0 0)),(6,.c (.ptr 1 0)),(7,.c (.ptr 2 0)),(8,iV i)] [.cells 27 [.p (bO aG 7 M)],.cells 86 [.sl 3 7 0 D.M.length,.mp 4,.mp 5],.cells 65 [.sl 6 1 0 k],.row 31 7 D.M.length (aO aG D.M),.mapb (bJ aB 81) D.gp,.mapl (bJ aB 79) 3 1 D.gs none,.row 5 1 k (aO bI B)]) (dD M) M.length (lI M).length (lI M)) Q):eG aB G (bK aB eI) (bV true) (bL 6 (dC aB eI)) ((fun(D:Ld) (k:Nat) (B:List UInt8)=>bY 126 [(1,aU aT 1 S),(5,.c (.ptr 0 0)),(6,.c (.ptr 1 0)),(7,.c (.ptr 2 0))] [.cells 27 [.p (bO aG 7 M)],.cells 86 [.sl 3 7 0 D.M.length,.mp 4,.mp 5],.cells 65 [.sl 6 1 0 k],.row 31 7 D.M.length (aO aG D.M),.mapb (bJ aB 81) D.gp,.mapl (bJ aB 79) 3 1 D.gs none,.row 5 1 k (aO bI B)]) (dD M) 0 []) Q:=by
 have hB:=FG hM
 have hM5:=hM.2
 have hnB:(bR (M.length:Int)).length≤140737488355328:=by unfold lI at hB;rw[aL]at hB;omega
 refine eG.evG (jX [] M.length) 2 (aTL S M (dD M) 0 []) ?_;simp only[bA,aP,cC];refine⟨⟨⟨rfl,rfl,fun _ _ _ _=>xZ8⟩,xZ8,by simp only[eW];omega,by simpa using hnB⟩,⟨?_⟩⟩
 refine eG.loop' (l:=bL 2 (bL 6 (dC aB eI))) (id:=0) (b:=inr (inr (bC .skip (dC aB eI) 8))) (r:=bL 9 (dC aB eI)) (by kernel_rfl) (σ:=Nat)
   (fun i=>(fun(D:Ld) (k:Nat) (B:List UInt8)=>bY 126 [(1,aU aT 1 S),(5,.c (.ptr 0 0)),(6,.c (.ptr 1 0)),(7,.c (.ptr 2 0)),(8,iV i)] [.cells 27 [.p (bO aG 7 M)],.cells 86 [.sl 3 7 0 D.M.length,.mp 4,.mp 5],.cells 65 [.sl 6 1 0 k],.row 31 7 D.M.length (aO aG D.M),.mapb (bJ aB 81) D.gp,.mapl (bJ aB 79) 3 1 D.gs none,.row 5 1 k (aO bI B)]) (dD M) (bR (M.length:Int)++lU (M.take i)).length (bR (M.length:Int)++lU (M.take i))) (fun i=>i≤M.length) (fun i=>M.length-i) 0 (Nat.zero_le _) (aI ?_) ?_
 ·show _=(fun(D:Ld) (i k:Nat) (B:List UInt8)=>bY 126 [(1,aU aT 1 S),(5,.c (.ptr 0 0)),(6,.c (.ptr 1 0)),(7,.c (.ptr 2 0)),(8,iV i)] [.cells 27 [.p (bO aG 7 M)],.cells 86 [.sl 3 7 0 D.M.length,.mp 4,.mp 5],.cells 65 [.sl 6 1 0 k],.row 31 7 D.M.length (aO aG D.M),.mapb (bJ aB 81) D.gp,.mapl (bJ aB 79) 3 1 D.gs none,.row 5 1 k (aO bI B)]) (dD M) 0 (bR (M.length:Int)++lU (M.take 0)).length (bR (M.length:Int)++lU (M.take 0))
  have e:bR (M.length:Int)++lU (M.take 0)=bR (M.length:Int):=eX _
  rw[e];refine Eq.symm ?_
  kernel_rfl
 intro i hi Q1 q1n q1e _
 obtain⟨B0,hB0⟩:∃B0,bR (M.length:Int)++lU (M.take i)=B0:=⟨_,rfl⟩
 rw[hB0]
 have htot:B0.length+(lU (M.drop i)).length=(lI M).length:=by
  rw[←hB0,aL,iL,←aL,←qF,fL];unfold lI;rw[aL]
 refine eG.evG aY 2 (aTK i S M (dD M) B0.length B0) ?_;simp only[cD,aP,cC,jZ,decide_eq_true_eq,decide_eq_false_iff_not];refine⟨fun h1=>⟨?_⟩,fun h1=>⟨q1e _ ?_⟩⟩
 ·have hlt:i<M.length:=by omega
  have hpm:M.getD i yZ8∈M:=by rw[aD,aK hlt];exact List.getElem_mem hlt
  have hsn:=pW M hlt
  have hdr:M.drop i=M.getD i yZ8::M.drop (i+1):=by rw[aD,aK hlt];exact dG hlt
  rw[hdr]at htot
  refine eG.blk' (l:=bL 2 (gQ (dC aB eI) 8)) (id:=1) (a:=inr (bC .skip (gQ (dC aB eI) 8) 2)) (r:=bL 3 (gQ (dC aB eI) 8)) (by kernel_rfl) ?_
  intro Q2 q2n q2e _
  refine eG.pre (aI (st':=(fun(D:Ld) (k:Nat) (B:List UInt8)=>bY 126 [(1,aU aT 1 S),(5,.c (.ptr 0 0)),(6,.c (.ptr 1 0)),(7,.c (.ptr 2 0)),(8,iV i)] [.cells 27 [.p (bO aG 7 M)],.cells 86 [.sl 3 7 0 D.M.length,.mp 4,.mp 5],.cells 65 [.sl 6 1 0 k],.row 31 7 D.M.length (aO aG D.M),.mapb (bJ aB 81) D.gp,.mapl (bJ aB 79) 3 1 D.gs none,.row 5 1 k (aO bI B)]) (dD M) B0.length B0) (by kernel_rfl)) (eG.evG aY 1 (aTJ i S M (dD M) B0.length B0) ?_)
  simp only[bA,aP,cC,show (↑i:Int).toNat=i from rfl,Nat.add_zero]
  generalize M.getD i yZ8=p at hpm hsn htot ⊢
  obtain⟨p1,p2,p3⟩:=hM.1 p hpm;obtain⟨g1,g2,g3,g4,g5,g6⟩:=iP.1 p1
  have gL:=(kV g3).1
  have gst:=nU g4
  have gse:=nU g5
  have htot:B0.length+(CZ p++lU (M.drop (i+1))).length=(lI M).length:=htot
  have hpl:(CZ p).length=(bR p.kd).length+(dI p.ru).length+(bR p.ve).length+(bR p.L.length).length+(mQ p.L).length+(bR p.st).length+(bR p.se).length+(dI p.to).length:=by unfold CZ;simp only[aL]
  rw[aL,hpl]at htot
  have zr:=qX p.ru
  have zt:=qX p.to
  refine⟨by omega,⟨eG.pre (aI (st':=(fun(D:Ld) (k:Nat) (B:List UInt8)=>bY 126 [(1,aU aT 1 S),(5,.c (.ptr 0 0)),(6,.c (.ptr 1 0)),(7,.c (.ptr 2 0)),(8,iV i),(9,.c (.ptr 3 0))] [.cells 27 [.p (bO aG 7 M)],.cells 86 [.sl 4 7 0 D.M.length,.mp 5,.mp 6],.cells 65 [.sl 7 1 0 k],.cells 31 [.p (.i .i64 p.kd),.p (.s p.ru),.p (.i .i64 p.ve),.p (bO aN 2 p.L),.p (.i .i64 p.st),.p (.i .i64 p.se),.p (.s p.to)],.row 31 7 D.M.length (aO aG D.M),.mapb (bJ aB 81) D.gp,.mapl (bJ aB 79) 3 1 D.gs none,.row 5 1 k (aO bI B)]) (dD M) B0.length B0) (by kernel_rfl)) ?_⟩⟩
  refine eG.evG (jX (B0) p.kd) 1 (aTI i p S M (dD M) (B0).length (B0)) ?_;simp only[bA,aP,cC]
  refine⟨⟨⟨xZ8,xZ8,fun _ _ _ _=>xZ8⟩,xZ8,(by simp only[eW];omega),by simp only[aL];omega⟩,⟨eG.pre (aI (st':=(fun(D:Ld) (k:Nat) (B:List UInt8)=>bY 126 [(1,aU aT 1 S),(5,.c (.ptr 0 0)),(6,.c (.ptr 1 0)),(7,.c (.ptr 2 0)),(8,iV i),(9,.c (.ptr 3 0))] [.cells 27 [.p (bO aG 7 M)],.cells 86 [.sl 4 7 0 D.M.length,.mp 5,.mp 6],.cells 65 [.sl 7 1 0 k],.cells 31 [.p (.i .i64 p.kd),.p (.s p.ru),.p (.i .i64 p.ve),.p (bO aN 2 p.L),.p (.i .i64 p.st),.p (.i .i64 p.se),.p (.s p.to)],.row 31 7 D.M.length (aO aG D.M),.mapb (bJ aB 81) D.gp,.mapl (bJ aB 79) 3 1 D.gs none,.row 5 1 k (aO bI B)]) (dD M) (B0++bR p.kd).length (B0++bR p.kd)) (by kernel_rfl)) ?_⟩⟩
  refine eG.evG (lW ((B0++bR p.kd)) p.ru) 1 (aTH i p S M (dD M) ((B0++bR p.kd)).length ((B0++bR p.kd))) ?_;simp only[bA,aP,cC]
  refine⟨⟨⟨xZ8,xZ8,fun _ _ _ _=>xZ8⟩,xZ8,(by omega),by simp only[aL];omega⟩,⟨eG.pre (aI (st':=(fun(D:Ld) (k:Nat) (B:List UInt8)=>bY 126 [(1,aU aT 1 S),(5,.c (.ptr 0 0)),(6,.c (.ptr 1 0)),(7,.c (.ptr 2 0)),(8,iV i),(9,.c (.ptr 3 0))] [.cells 27 [.p (bO aG 7 M)],.cells 86 [.sl 4 7 0 D.M.length,.mp 5,.mp 6],.cells 65 [.sl 7 1 0 k],.cells 31 [.p (.i .i64 p.kd),.p (.s p.ru),.p (.i .i64 p.ve),.p (bO aN 2 p.L),.p (.i .i64 p.st),.p (.i .i64 p.se),.p (.s p.to)],.row 31 7 D.M.length (aO aG D.M),.mapb (bJ aB 81) D.gp,.mapl (bJ aB 79) 3 1 D.gs none,.row 5 1 k (aO bI B)]) (dD M) ((B0++bR p.kd)++dI p.ru).length ((B0++bR p.kd)++dI p.ru)) (by kernel_rfl)) ?_⟩⟩
  refine eG.evG (jX (((B0++bR p.kd)++dI p.ru)) p.ve) 1 (aTG i p S M (dD M) (((B0++bR p.kd)++dI p.ru)).length (((B0++bR p.kd)++dI p.ru))) ?_;simp only[bA,aP,cC]
  refine⟨⟨⟨xZ8,xZ8,fun _ _ _ _=>xZ8⟩,xZ8,p2,by simp only[aL];omega⟩,⟨eG.pre (aI (st':=(fun(D:Ld) (k:Nat) (B:List UInt8)=>bY 126 [(1,aU aT 1 S),(5,.c (.ptr 0 0)),(6,.c (.ptr 1 0)),(7,.c (.ptr 2 0)),(8,iV i),(9,.c (.ptr 3 0))] [.cells 27 [.p (bO aG 7 M)],.cells 86 [.sl 4 7 0 D.M.length,.mp 5,.mp 6],.cells 65 [.sl 7 1 0 k],.cells 31 [.p (.i .i64 p.kd),.p (.s p.ru),.p (.i .i64 p.ve),.p (bO aN 2 p.L),.p (.i .i64 p.st),.p (.i .i64 p.se),.p (.s p.to)],.row 31 7 D.M.length (aO aG D.M),.mapb (bJ aB 81) D.gp,.mapl (bJ aB 79) 3 1 D.gs none,.row 5 1 k (aO bI B)]) (dD M) (((B0++bR p.kd)++dI p.ru)++bR p.ve).length (((B0++bR p.kd)++dI p.ru)++bR p.ve)) (by kernel_rfl)) ?_⟩⟩
  refine eG.evG (jX ((((B0++bR p.kd)++dI p.ru)++bR p.ve)) p.L.length) 2 (aTF i p S M (dD M) ((((B0++bR p.kd)++dI p.ru)++bR p.ve)).length ((((B0++bR p.kd)++dI p.ru)++bR p.ve))) ?_;simp only[bA,aP,cC];refine⟨⟨⟨xZ8,xZ8,fun _ _ _ _=>xZ8⟩,xZ8,(by simp only[eW];omega),by simp only[aL];omega⟩,⟨?_⟩⟩
  obtain⟨B4,hB4⟩:∃B4,((((B0++bR p.kd)++dI p.ru)++bR p.ve)++bR p.L.length)=B4:=⟨_,rfl⟩
  have hB4l:B4.length=B0.length+(bR p.kd).length+(dI p.ru).length+(bR p.ve).length+(bR p.L.length).length:=by rw[←hB4];simp only[aL]
  refine eG.pre (aI (st':=(fun(D:Ld) (k:Nat) (B:List UInt8) (j:Nat)=>bY 126 [(1,aU aT 1 S),(5,.c (.ptr 0 0)),(6,.c (.ptr 1 0)),(7,.c (.ptr 2 0)),(8,iV i),(9,.c (.ptr 3 0)),(10,iV j)] [.cells 27 [.p (bO aG 7 M)],.cells 86 [.sl 4 7 0 D.M.length,.mp 5,.mp 6],.cells 65 [.sl 7 1 0 k],.cells 31 [.p (.i .i64 p.kd),.p (.s p.ru),.p (.i .i64 p.ve),.p (bO aN 2 p.L),.p (.i .i64 p.st),.p (.i .i64 p.se),.p (.s p.to)],.row 31 7 D.M.length (aO aG D.M),.mapb (bJ aB 81) D.gp,.mapl (bJ aB 79) 3 1 D.gs none,.row 5 1 k (aO bI B)]) (dD M) B4.length B4 0) (by subst hB4;kernel_rfl)) ?_
  refine eG.loop' (l:=bL 2 (bL 4 (eZ (inr (bC .skip (gQ (dC aB eI) 8) 2))))) (id:=2) (b:=inr (inr (bC .skip (eZ (inr (bC .skip (gQ (dC aB eI) 8) 2))) 6))) (r:=bL 7 (eZ (inr (bC .skip (gQ (dC aB eI) 8) 2)))) (by kernel_rfl) (σ:=Nat)
    (fun j=>(fun(D:Ld) (k:Nat) (B:List UInt8)=>bY 126 [(1,aU aT 1 S),(5,.c (.ptr 0 0)),(6,.c (.ptr 1 0)),(7,.c (.ptr 2 0)),(8,iV i),(9,.c (.ptr 3 0)),(10,iV j)] [.cells 27 [.p (bO aG 7 M)],.cells 86 [.sl 4 7 0 D.M.length,.mp 5,.mp 6],.cells 65 [.sl 7 1 0 k],.cells 31 [.p (.i .i64 p.kd),.p (.s p.ru),.p (.i .i64 p.ve),.p (bO aN 2 p.L),.p (.i .i64 p.st),.p (.i .i64 p.se),.p (.s p.to)],.row 31 7 D.M.length (aO aG D.M),.mapb (bJ aB 81) D.gp,.mapl (bJ aB 79) 3 1 D.gs none,.row 5 1 k (aO bI B)]) (dD M) (B4++mQ (p.L.take j)).length (B4++mQ (p.L.take j))) (fun j=>j≤p.L.length) (fun j=>p.L.length-j) 0 (Nat.zero_le _) (aI ?_) ?_
  ·show _=(fun(D:Ld) (j k:Nat) (B:List UInt8)=>bY 126 [(1,aU aT 1 S),(5,.c (.ptr 0 0)),(6,.c (.ptr 1 0)),(7,.c (.ptr 2 0)),(8,iV i),(9,.c (.ptr 3 0)),(10,iV j)] [.cells 27 [.p (bO aG 7 M)],.cells 86 [.sl 4 7 0 D.M.length,.mp 5,.mp 6],.cells 65 [.sl 7 1 0 k],.cells 31 [.p (.i .i64 p.kd),.p (.s p.ru),.p (.i .i64 p.ve),.p (bO aN 2 p.L),.p (.i .i64 p.st),.p (.i .i64 p.se),.p (.s p.to)],.row 31 7 D.M.length (aO aG D.M),.mapb (bJ aB 81) D.gp,.mapl (bJ aB 79) 3 1 D.gs none,.row 5 1 k (aO bI B)]) (dD M) 0 (B4++mQ (p.L.take 0)).length (B4++mQ (p.L.take 0))
   have e:B4++mQ (p.L.take 0)=B4:=eX _
   rw[e]
  ·intro j hj Q3 q3n q3e _
   obtain⟨B5,hB5⟩:∃B5,B4++mQ (p.L.take j)=B5:=⟨_,rfl⟩
   rw[hB5]
   have hB5l:B5.length+(mQ (p.L.drop j)).length=B4.length+(mQ p.L).length:=by
    rw[←hB5,aL,iL,←aL,←tK,fL]
   refine eG.evG aY 2 (aQ8 i j p S M (dD M) B5.length B5) ?_;simp only[cD,aP,cC,jZ,decide_eq_true_eq,decide_eq_false_iff_not];refine⟨fun h2=>⟨?_⟩,fun h2=>⟨q3e _ ?_⟩⟩
   ·have hlj:j<p.L.length:=by omega
    have hsj:=pW p.L hlj
    have hdj:p.L.drop j=p.L.getD j yZ8::p.L.drop (j+1):=by rw[aD,aK hlj];exact dG hlj
    rw[hdj]at hB5l
    have hB5l:B5.length+((dI (p.L.getD j yZ8).1++dI (p.L.getD j yZ8).2)++mQ (p.L.drop (j+1))).length=B4.length+(mQ p.L).length:=hB5l
    simp only[aL]at hB5l
    have z1:=qX (p.L.getD j yZ8).1
    have z2:=qX (p.L.getD j yZ8).2
    refine eG.blk' (l:=bL 2 (gQ (eZ (inr (bC .skip (gQ (dC aB eI) 8) 2))) 6)) (id:=3) (a:=inr (bC .skip (gQ (eZ (inr (bC .skip (gQ (dC aB eI) 8) 2))) 6) 2)) (r:=bL 3 (gQ (eZ (inr (bC .skip (gQ (dC aB eI) 8) 2))) 6)) (by kernel_rfl) ?_
    intro Q4 q4n q4e _
    refine eG.pre (aI (st':=(fun(D:Ld) (k:Nat) (B:List UInt8)=>bY 126 [(1,aU aT 1 S),(5,.c (.ptr 0 0)),(6,.c (.ptr 1 0)),(7,.c (.ptr 2 0)),(8,iV i),(9,.c (.ptr 3 0)),(10,iV j)] [.cells 27 [.p (bO aG 7 M)],.cells 86 [.sl 4 7 0 D.M.length,.mp 5,.mp 6],.cells 65 [.sl 7 1 0 k],.cells 31 [.p (.i .i64 p.kd),.p (.s p.ru),.p (.i .i64 p.ve),.p (bO aN 2 p.L),.p (.i .i64 p.st),.p (.i .i64 p.se),.p (.s p.to)],.row 31 7 D.M.length (aO aG D.M),.mapb (bJ aB 81) D.gp,.mapl (bJ aB 79) 3 1 D.gs none,.row 5 1 k (aO bI B)]) (dD M) B5.length B5) (by kernel_rfl)) ?_
    refine eG.evG (lW B5 (p.L.getD j yZ8).1) 1 (aQ7 i j p yZ8 S M (dD M) B5.length B5) ?_;simp only[bA,aP,cC,show (↑j:Int).toNat=j from rfl]
    refine⟨⟨by omega,by omega⟩,⟨⟨xZ8,xZ8,fun _ _ _ _=>xZ8⟩,xZ8,by omega,by simp only[aL];omega⟩,⟨eG.pre (aI (st':=(fun(D:Ld) (k:Nat) (B:List UInt8)=>bY 126 [(1,aU aT 1 S),(5,.c (.ptr 0 0)),(6,.c (.ptr 1 0)),(7,.c (.ptr 2 0)),(8,iV i),(9,.c (.ptr 3 0)),(10,iV j)] [.cells 27 [.p (bO aG 7 M)],.cells 86 [.sl 4 7 0 D.M.length,.mp 5,.mp 6],.cells 65 [.sl 7 1 0 k],.cells 31 [.p (.i .i64 p.kd),.p (.s p.ru),.p (.i .i64 p.ve),.p (bO aN 2 p.L),.p (.i .i64 p.st),.p (.i .i64 p.se),.p (.s p.to)],.row 31 7 D.M.length (aO aG D.M),.mapb (bJ aB 81) D.gp,.mapl (bJ aB 79) 3 1 D.gs none,.row 5 1 k (aO bI B)]) (dD M) (B5++dI (p.L.getD j yZ8).1).length (B5++dI (p.L.getD j yZ8).1)) (by kernel_rfl)) ?_⟩⟩
    refine eG.evH (lW (B5++dI (p.L.getD j yZ8).1) (p.L.getD j yZ8).2) (aQ6 i j p yZ8 S M (dD M) (B5++dI (p.L.getD j yZ8).1).length (B5++dI (p.L.getD j yZ8).1)) ?_;simp only[bA,aP,cC,show (↑j:Int).toNat=j from rfl]
    refine⟨⟨by omega,by omega⟩,⟨⟨xZ8,xZ8,fun _ _ _ _=>xZ8⟩,xZ8,by omega,by simp only[aL];omega⟩,⟨q4n _ (eG.pre (aI (st':=(fun(D:Ld) (k:Nat) (B:List UInt8)=>bY 126 [(1,aU aT 1 S),(5,.c (.ptr 0 0)),(6,.c (.ptr 1 0)),(7,.c (.ptr 2 0)),(8,iV i),(9,.c (.ptr 3 0)),(10,iV j)] [.cells 27 [.p (bO aG 7 M)],.cells 86 [.sl 4 7 0 D.M.length,.mp 5,.mp 6],.cells 65 [.sl 7 1 0 k],.cells 31 [.p (.i .i64 p.kd),.p (.s p.ru),.p (.i .i64 p.ve),.p (bO aN 2 p.L),.p (.i .i64 p.st),.p (.i .i64 p.se),.p (.s p.to)],.row 31 7 D.M.length (aO aG D.M),.mapb (bJ aB 81) D.gp,.mapl (bJ aB 79) 3 1 D.gs none,.row 5 1 k (aO bI B)]) (dD M) ((B5++dI (p.L.getD j yZ8).1)++dI (p.L.getD j yZ8).2).length ((B5++dI (p.L.getD j yZ8).1)++dI (p.L.getD j yZ8).2)) (by kernel_rfl)) ?_)⟩⟩
    refine eG.evH aY (aQ5 i j p S M (dD M) ((B5++dI (p.L.getD j yZ8).1)++dI (p.L.getD j yZ8).2).length ((B5++dI (p.L.getD j yZ8).1)++dI (p.L.getD j yZ8).2)) ?_;simp only[bA,aP,cC,eW];refine⟨by omega,⟨q3n (j+1) _ (by omega) (by omega) ?_⟩⟩
    have e:B4++mQ (p.L.take (j+1))=(B5++dI (p.L.getD j yZ8).1)++dI (p.L.getD j yZ8).2:=by
     rw[hsj,tK,←cF,hB5]
     show B5++((dI (p.L.getD j yZ8).1++dI (p.L.getD j yZ8).2)++[])=_
     rw[eX,cF]
    rw[e]
    exact aI (by kernel_rfl)
   ·obtain rfl:j=p.L.length:=by omega
    rw[fF]at hB5
    have hB5l:B5.length=B4.length+(mQ p.L).length:=by rw[←hB5,aL]
    refine eG.pre ((gB (fJ 126 [1,5,6,7,8,9]) _).trans (aI (st':=(fun(D:Ld) (k:Nat) (B:List UInt8)=>bY 126 [(1,aU aT 1 S),(5,.c (.ptr 0 0)),(6,.c (.ptr 1 0)),(7,.c (.ptr 2 0)),(8,iV i),(9,.c (.ptr 3 0))] [.cells 27 [.p (bO aG 7 M)],.cells 86 [.sl 4 7 0 D.M.length,.mp 5,.mp 6],.cells 65 [.sl 7 1 0 k],.cells 31 [.p (.i .i64 p.kd),.p (.s p.ru),.p (.i .i64 p.ve),.p (bO aN 2 p.L),.p (.i .i64 p.st),.p (.i .i64 p.se),.p (.s p.to)],.row 31 7 D.M.length (aO aG D.M),.mapb (bJ aB 81) D.gp,.mapl (bJ aB 79) 3 1 D.gs none,.row 5 1 k (aO bI B)]) (dD M) B5.length B5) (by kernel_rfl))) ?_
    refine eG.evG (jX (B5) p.st) 1 (aQ4 i p S M (dD M) (B5).length (B5)) ?_;simp only[bA,aP,cC]
    refine⟨⟨⟨xZ8,xZ8,fun _ _ _ _=>xZ8⟩,xZ8,gst,by simp only[aL];omega⟩,⟨eG.pre (aI (st':=(fun(D:Ld) (k:Nat) (B:List UInt8)=>bY 126 [(1,aU aT 1 S),(5,.c (.ptr 0 0)),(6,.c (.ptr 1 0)),(7,.c (.ptr 2 0)),(8,iV i),(9,.c (.ptr 3 0))] [.cells 27 [.p (bO aG 7 M)],.cells 86 [.sl 4 7 0 D.M.length,.mp 5,.mp 6],.cells 65 [.sl 7 1 0 k],.cells 31 [.p (.i .i64 p.kd),.p (.s p.ru),.p (.i .i64 p.ve),.p (bO aN 2 p.L),.p (.i .i64 p.st),.p (.i .i64 p.se),.p (.s p.to)],.row 31 7 D.M.length (aO aG D.M),.mapb (bJ aB 81) D.gp,.mapl (bJ aB 79) 3 1 D.gs none,.row 5 1 k (aO bI B)]) (dD M) (B5++bR p.st).length (B5++bR p.st)) (by kernel_rfl)) ?_⟩⟩
    refine eG.evG (jX ((B5++bR p.st)) p.se) 1 (aQ3 i p S M (dD M) ((B5++bR p.st)).length ((B5++bR p.st))) ?_;simp only[bA,aP,cC]
    refine⟨⟨⟨xZ8,xZ8,fun _ _ _ _=>xZ8⟩,xZ8,gse,by simp only[aL];omega⟩,⟨eG.pre (aI (st':=(fun(D:Ld) (k:Nat) (B:List UInt8)=>bY 126 [(1,aU aT 1 S),(5,.c (.ptr 0 0)),(6,.c (.ptr 1 0)),(7,.c (.ptr 2 0)),(8,iV i),(9,.c (.ptr 3 0))] [.cells 27 [.p (bO aG 7 M)],.cells 86 [.sl 4 7 0 D.M.length,.mp 5,.mp 6],.cells 65 [.sl 7 1 0 k],.cells 31 [.p (.i .i64 p.kd),.p (.s p.ru),.p (.i .i64 p.ve),.p (bO aN 2 p.L),.p (.i .i64 p.st),.p (.i .i64 p.se),.p (.s p.to)],.row 31 7 D.M.length (aO aG D.M),.mapb (bJ aB 81) D.gp,.mapl (bJ aB 79) 3 1 D.gs none,.row 5 1 k (aO bI B)]) (dD M) ((B5++bR p.st)++bR p.se).length ((B5++bR p.st)++bR p.se)) (by kernel_rfl)) ?_⟩⟩
    refine eG.evH (lW ((B5++bR p.st)++bR p.se) p.to) (aQ2 i p S M (dD M) ((B5++bR p.st)++bR p.se).length ((B5++bR p.st)++bR p.se)) ?_;simp only[bA,aP,cC]
    refine⟨⟨⟨xZ8,xZ8,fun _ _ _ _=>xZ8⟩,xZ8,by omega,by simp only[aL];omega⟩,⟨q2n _ (eG.pre (aI (st':=(fun(D:Ld) (k:Nat) (B:List UInt8)=>bY 126 [(1,aU aT 1 S),(5,.c (.ptr 0 0)),(6,.c (.ptr 1 0)),(7,.c (.ptr 2 0)),(8,iV i)] [.cells 27 [.p (bO aG 7 M)],.cells 86 [.sl 3 7 0 D.M.length,.mp 4,.mp 5],.cells 65 [.sl 6 1 0 k],.row 31 7 D.M.length (aO aG D.M),.mapb (bJ aB 81) D.gp,.mapl (bJ aB 79) 3 1 D.gs none,.row 5 1 k (aO bI B)]) (dD M) (((B5++bR p.st)++bR p.se)++dI p.to).length (((B5++bR p.st)++bR p.se)++dI p.to)) (by kernel_rfl)) ?_)⟩⟩
    refine eG.evH aY (aQ1 i S M (dD M) (((B5++bR p.st)++bR p.se)++dI p.to).length (((B5++bR p.st)++bR p.se)++dI p.to)) ?_;simp only[bA,aP,cC,eW];refine⟨by omega,⟨q1n (i+1) _ (by omega) (by omega) ?_⟩⟩
    have e:bR (M.length:Int)++lU (M.take (i+1))=((B5++bR p.st)++bR p.se)++dI p.to:=by
     rw[hsn,qF,←cF,hB0,←hB5,←hB4]
     show B0++(CZ p++[])=_
     unfold CZ;simp only[eX,cF]
    rw[e]
    exact aI (by kernel_rfl)
 ·obtain rfl:i=M.length:=by omega
  rw[fF]at hB0
  have hB0:lI M=B0:=hB0
  rw[←hB0]
  exact eG.pre (aI (by kernel_rfl)) hQ
theorem pagesBytes_fn(A S:List Int)(hA:∀t∈A,eW .i64 t)(hAl:A.length≤9223372036854775807)(hS:∀t∈S,eW .i64 t)(h:List AO):jW aB G 9 [aU aT 1 A,aU aT 1 S] h fun x h'=>x=bV true∧h'=h:=by
 refine qN Try.func9 (by kernel_rfl) rfl ?_ h
 have hM:=aNI A
 have hLg:=XF A
 have hMl:=WR A
 refine eG.evG (PQ (ofZ A) (dD (ofZ A))) 6 (aTM A S (ofZ A) (dD (ofZ A))) ?_;simp only[bA,aP,cC,iS];refine⟨⟨dP _ _ _,hA,hAl,xZ8⟩,⟨⟨xZ8,fun _ _ _ _=>lY.refl _⟩,⟨hLg,by omega⟩,xZ8⟩,⟨?_⟩⟩
 generalize ofZ A=M at hM hLg hMl ⊢
 refine eG.pre ((vP 5 1 (aO bI []) (id:=2) (k:=0) (t0:=65) (vs:=[.p (.z (.slice none 0 0))]) (by kernel_rfl) (by kernel_rfl)).trans (aI (st':=(fun(D:Ld) (k:Nat) (B:List UInt8)=>bY 126 [(1,aU aT 1 S),(5,.c (.ptr 0 0)),(6,.c (.ptr 1 0)),(7,.c (.ptr 2 0))] [.cells 27 [.p (bO aG 7 M)],.cells 86 [.sl 3 7 0 D.M.length,.mp 4,.mp 5],.cells 65 [.sl 6 1 0 k],.row 31 7 D.M.length (aO aG D.M),.mapb (bJ aB 81) D.gp,.mapl (bJ aB 79) 3 1 D.gs none,.row 5 1 k (aO bI B)]) (dD M) 0 []) (by kernel_rfl))) ?_
 exact VK S M hM _ (VJ S M hM hLg hMl hS)
end
end Go.AE
