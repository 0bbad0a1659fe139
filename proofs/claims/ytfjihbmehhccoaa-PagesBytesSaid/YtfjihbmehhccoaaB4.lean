import Derived.Test.YtfjihbmehhccoaaB3
set_option linter.unusedVariables false
set_option linter.unusedSimpArgs false
namespace Go.AE
open _root_.Array renaming getElem?_eq_some_iff→bH,getElem?_toList→cR,replicate→iJ,toList_inj→fO
open _root_.Bool renaming and_eq_true→aQ,not_eq_false'→fX,not_eq_true'→eQ,or_eq_true→bU
open _root_.ByteArray renaming mk→aH
open _root_.Int renaming ofNat→dR
open IntKind renaming i64→aC
open _root_.List renaming all_eq_true→fN,append_assoc→cF,append_nil→eX,drop_eq_getElem_cons→dG,getD_eq_getElem?_getD→aD,getElem?_append_left→cG,getElem?_append_right→cV,getElem?_eq_getElem→aK,getElem_of_mem→gA,length_append→aL,length_cons→eF,length_set→cE,length_take→eR,mem_append→dK,mem_cons_of_mem→cN,mem_cons_self→cZ,mem_iff_getElem?→dO,mem_singleton→eO,take_append_drop→fL,take_length→fF
open _root_.Nat renaming beq→cA,ble→dV,eq_of_beq_eq_true→aS,le_of_ble_eq_true→gV,le_refl→aW,lt_or_ge→cL,zero_add→cK,zero_le→bX
open _root_.Option renaming bind_eq_bind→aV,bind_eq_some_iff→aM,map_eq_some_iff→bD,pure_def→bE,some.injEq→aJ
open Region renaming ready→eH,waitsFor→cY,waitsFor_spec→dB
open _root_.Go.Proofs.Try renaming f12→jH,f22→iC,prog→aB
open Value renaming slice→bB
open Go.Proofs Go.Proofs.Ytfjihbmehhccoaa Gp Go.RowKit
def LR:Mod
 |[x]=>match xF x with
  |some (p,a)=>some (p,bV (hP a))
  |none=>none
 |_=>none
def uE(M:List Pg)(p:Pg):Int:=match M.reverse.find? fun q=>kO q p with
 |some q=>q.kd
 |none => -1
def aJ2(M:List Pg):Mod
 |[x,y]=>match leL x M,xF y with
  |some p,some (q,a)=>some ((p∧q)∧M.length≤1000000∧a.L.length≤1000000,iV (uE M a))
  |_,_=>none
 |_=>none
def aLG:Ext:=kH [(79,XB),(80,FD),(51,BU)]
def aLM(M:List Pg):Ext:=kH [(50,LR),(56,aJ2 M),(54,XD M)]
def aL8(M:List Pg):Ext:=kH [(55,LP),(56,aJ2 M)]
def aFC:Ext:=kH [(52,aNU)]
def aL6:Ext:=kH [(21,OO)]
theorem aMH(a:Int):GC fH (lD aB Try.f51) (oB Try.f51 [iV a]) (mC [] [] (bK aB Try.f51))=bT (decide (0≤a)) (.done .ret (St.mk [V.c (C.p (PV.b (decide (a≤1048576))))] [])) (.done .ret (St.mk [V.c (C.p (PV.b false))] [])):=by kernel_rfl
theorem aPK(p:Pg):dF aLG (dC aB Try.f50) (oB Try.f50 [.a [.p (.i .i64 p.kd),.p (.s p.ru),.p (.i .i64 p.ve),.p (bO aN 2 p.L),.p (.i .i64 p.st),.p (.i .i64 p.se),.p (.s p.to)]]) (mC [] [] (bK aB Try.f50))=Tr.rq True
 (.rq (kI aN 2 (bS cS p.L.length (aE aN p.L)) p.L.length (aE aN p.L))
 (.rq True
 (.rq True
 (bT (jK p.ru)
 (bT (mD (fun k=>(bS cS p.L.length (aE aN p.L)).getD k default) p.L.length)
 (bT (gU p.st)
 (bT (gU p.se) (bT (decide (1≤p.ve)) (.done .ret (St.mk [V.c (C.p (PV.b (decide ((↑p.to.size:Int)≤16))))] [])) (.done .ret (St.mk [V.c (C.p (PV.b false))] [])))
 (.done .ret (St.mk [V.c (C.p (PV.b false))] [])))
 (.done .ret (St.mk [V.c (C.p (PV.b false))] [])))
 (.done .ret (St.mk [V.c (C.p (PV.b false))] [])))
 (.done .ret (St.mk [V.c (C.p (PV.b false))] [])))))):=by kernel_rfl
theorem aP9(M:List Pg)(p:Pg):dF fH (dL 2 (dC aB Try.f56)) (oB Try.f56 [.a [.p (bO aG 7 M)],.a [.p (.i .i64 p.kd),.p (.s p.ru),.p (.i .i64 p.ve),.p (bO aN 2 p.L),.p (.i .i64 p.st),.p (.i .i64 p.se),.p (.s p.to)]]) (gW (fJ 29 [2,3,5]) (bK aB Try.f56))=Tr.rq (eW aC ((↑M.length:Int)-1))
 (.done .normal
 (bY 29 [(2,.c (.ptr 0 0)),(3,.c (.ptr 1 0)),(5,.c (.p (.i .i64 ((↑M.length:Int)-1))))] [.cells 27 [.p (.l 7 M.length (aE aG M))],.cells 31 [.p (.i .i64 p.kd),.p (.s p.ru),.p (.i .i64 p.ve),.p (.l 2 p.L.length (aE aN p.L)),.p (.i .i64 p.st),.p (.i .i64 p.se),.p (.s p.to)]])):=by kernel_rfl
theorem aP8(M:List Pg)(p:Pg)(i:Nat):dF UY (gQ (dC aB Try.f56) 2) (bY 29 [(2,.c (.ptr 0 0)),(3,.c (.ptr 1 0)),(5,iV ((i:Int)-1))] [.cells 27 [.p (bO aG 7 M)],.cells 31 [.p (.i .i64 p.kd),.p (.s p.ru),.p (.i .i64 p.ve),.p (bO aN 2 p.L),.p (.i .i64 p.st),.p (.i .i64 p.se),.p (.s p.to)]]) (gW (fJ 29 [2,3,5]) (bK aB Try.f56))=bT (decide (0≤(↑i:Int)-1))
 (.rq (0≤(↑i:Int)-1∧(↑i:Int)-1<(↑M.length:Int))
 (.rq
 ((kI aN 2 (bS cS (M.getD ((↑i:Int)-1).toNat default).L.length (aE aN (M.getD ((↑i:Int)-1).toNat default).L)) (M.getD ((↑i:Int)-1).toNat default).L.length
 (aE aN (M.getD ((↑i:Int)-1).toNat default).L) ∧
 kI aN 2 (bS cS p.L.length (aE aN p.L)) p.L.length (aE aN p.L)) ∧
 ((Pg.mk (M.getD ((↑i:Int)-1).toNat default).kd (M.getD ((↑i:Int)-1).toNat default).ru (M.getD ((↑i:Int)-1).toNat default).ve
 (bS cS (M.getD ((↑i:Int)-1).toNat default).L.length (aE aN (M.getD ((↑i:Int)-1).toNat default).L)) (M.getD ((↑i:Int)-1).toNat default).st
 (M.getD ((↑i:Int)-1).toNat default).se (M.getD ((↑i:Int)-1).toNat default).to).L.length ≤
 1000000 ∨
 (Pg.mk p.kd p.ru p.ve (bS cS p.L.length (aE aN p.L)) p.st p.se p.to).L.length≤1000000))
 (bT
 (kO
 (Pg.mk (M.getD ((↑i:Int)-1).toNat default).kd (M.getD ((↑i:Int)-1).toNat default).ru (M.getD ((↑i:Int)-1).toNat default).ve
 (bS cS (M.getD ((↑i:Int)-1).toNat default).L.length (aE aN (M.getD ((↑i:Int)-1).toNat default).L)) (M.getD ((↑i:Int)-1).toNat default).st
 (M.getD ((↑i:Int)-1).toNat default).se (M.getD ((↑i:Int)-1).toNat default).to)
 (Pg.mk p.kd p.ru p.ve (bS cS p.L.length (aE aN p.L)) p.st p.se p.to))
 (.rq (0≤(↑i:Int)-1∧(↑i:Int)-1<(↑M.length:Int)) (.done .ret (St.mk [V.c (C.p (PV.i aC (M.getD ((↑i:Int)-1).toNat default).kd))] [])))
 (.rq (eW aC ((↑i:Int)-1-1))
 (.done .normal
 (bY 29 [(2,.c (.ptr 0 0)),(3,.c (.ptr 1 0)),(5,.c (.p (.i .i64 ((↑i:Int)-1-1))))] [.cells 27 [.p (.l 7 M.length (aE aG M))],.cells 31 [.p (.i .i64 p.kd),.p (.s p.ru),.p (.i .i64 p.ve),.p (.l 2 p.L.length (aE aN p.L)),.p (.i .i64 p.st),.p (.i .i64 p.se),.p (.s p.to)]]))))))
 (.done (.exit 0)
 (bY 29 [(2,.c (.ptr 0 0)),(3,.c (.ptr 1 0)),(5,.c (.p (.i .i64 ((↑i:Int)-1))))] [.cells 27 [.p (.l 7 M.length (aE aG M))],.cells 31 [.p (.i .i64 p.kd),.p (.s p.ru),.p (.i .i64 p.ve),.p (.l 2 p.L.length (aE aN p.L)),.p (.i .i64 p.st),.p (.i .i64 p.se),.p (.s p.to)]])):=by kernel_rfl
theorem aP7(M:List Pg)(p:Pg)(i:Nat):dF fH (bL 3 (dC aB Try.f56)) (bY 29 [(2,.c (.ptr 0 0)),(3,.c (.ptr 1 0)),(5,iV ((i:Int)-1))] [.cells 27 [.p (bO aG 7 M)],.cells 31 [.p (.i .i64 p.kd),.p (.s p.ru),.p (.i .i64 p.ve),.p (bO aN 2 p.L),.p (.i .i64 p.st),.p (.i .i64 p.se),.p (.s p.to)]]) (gW [] (bK aB Try.f56))=Tr.done X.ret (St.mk [V.c (C.p (PV.i aC (-1)))] []):=by kernel_rfl
theorem tFi(M:List Pg)(p:Pg):dF (aLM M) (dC aB Try.f24) (oB Try.f24 [.a [.p (bO aG 7 M)],.a [.p (.i .i64 p.kd),.p (.s p.ru),.p (.i .i64 p.ve),.p (bO aN 2 p.L),.p (.i .i64 p.st),.p (.i .i64 p.se),.p (.s p.to)]]) (gW [] (bK aB Try.f24))=Tr.rq (kI aN 2 (bS cS p.L.length (aE aN p.L)) p.L.length (aE aN p.L))
 (bT (!hP (Pg.mk p.kd p.ru p.ve (bS cS p.L.length (aE aN p.L)) p.st p.se p.to))
 (.done .ret (St.mk [V.t [V1.a [C.p (PV.l 7 M.length (aE aG M))],V1.c (C.p (PV.i aC 1))]] []))
 (bT (p.kd != 0) (.done .ret (St.mk [V.t [V1.a [C.p (PV.l 7 M.length (aE aG M))],V1.c (C.p (PV.i aC 1))]] []))
 (.rq
 (((M.length=M.length∧∀(e o:Nat),e<M.length→o<7→lY (aE aG M e o) (aE aG M e o))∧kI aN 2 (bS cS p.L.length (aE aN p.L)) p.L.length (aE aN p.L)) ∧
 M.length≤1000000∧(Pg.mk p.kd p.ru p.ve (bS cS p.L.length (aE aN p.L)) p.st p.se p.to).L.length≤1000000)
 (bT (uE M (Pg.mk p.kd p.ru p.ve (bS cS p.L.length (aE aN p.L)) p.st p.se p.to)==0)
 (.done .ret (St.mk [V.t [V1.a [C.p (PV.l 7 M.length (aE aG M))],V1.c (C.p (PV.i aC 10))]] []))
 (bT (uE M (Pg.mk p.kd p.ru p.ve (bS cS p.L.length (aE aN p.L)) p.st p.se p.to)==2)
 (.done .ret (St.mk [V.t [V1.a [C.p (PV.l 7 M.length (aE aG M))],V1.c (C.p (PV.i aC 10))]] []))
 (bT (uE M (Pg.mk p.kd p.ru p.ve (bS cS p.L.length (aE aN p.L)) p.st p.se p.to)==1)
 (.done .ret (St.mk [V.t [V1.a [C.p (PV.l 7 M.length (aE aG M))],V1.c (C.p (PV.i aC 20))]] []))
 (.rq
 (((M.length=M.length∧∀(e o:Nat),e<M.length→o<7→lY (aE aG M e o) (aE aG M e o)) ∧
 kI aN 2 (bS cS p.L.length (aE aN p.L)) p.L.length (aE aN p.L)) ∧
 M.length≤1000000)
 (.done .ret
 (St.mk [V.t [V1.a [C.p (PV.l 7 (M++[Pg.mk p.kd p.ru p.ve (bS cS p.L.length (aE aN p.L)) p.st p.se p.to]).length (aE aG (M++[Pg.mk p.kd p.ru p.ve (bS cS p.L.length (aE aN p.L)) p.st p.se p.to])))],V1.c (C.p (PV.i aC 0))]] []))))))))):=by kernel_rfl
theorem aSN(M:List Pg)(p:Pg):dF fH (dL 3 (dC aB Try.f28)) (oB Try.f28 [.a [.p (bO aG 7 M)],.a [.p (.i .i64 p.kd),.p (.s p.ru),.p (.i .i64 p.ve),.p (bO aN 2 p.L),.p (.i .i64 p.st),.p (.i .i64 p.se),.p (.s p.to)]]) (gW (fJ 45 [2,3,5,6]) (bK aB Try.f28))=Tr.done X.normal
 (bY 45 [(2,.c (.ptr 0 0)),(3,.c (.ptr 1 0)),(5,.c (.p (.z (bB none 0 0)))),(6,.c (.p (.i .i64 0)))] [.cells 27 [.p (.l 7 M.length (aE aG M))],.cells 31 [.p (.i .i64 p.kd),.p (.s p.ru),.p (.i .i64 p.ve),.p (.l 2 p.L.length (aE aN p.L)),.p (.i .i64 p.st),.p (.i .i64 p.se),.p (.s p.to)]]):=by kernel_rfl
theorem aSM(M:List Pg)(p:Pg)(out:List Int)(k i:Nat):dF (aL8 M) (gQ (dC aB Try.f28) 3) (bY 45 [(2,.c (.ptr 0 0)),(3,.c (.ptr 1 0)),(5,.c (.sl 2 1 0 k)),(6,iV (i:Nat))] [.cells 27 [.p (bO aG 7 M)],.cells 31 [.p (.i .i64 p.kd),.p (.s p.ru),.p (.i .i64 p.ve),.p (bO aN 2 p.L),.p (.i .i64 p.st),.p (.i .i64 p.se),.p (.s p.to)],.row 3 1 k (aO aT out)]) (gW (fJ 45 [2,3,5,6]) (bK aB Try.f28))=bT (decide ((↑i:Int)<(↑M.length:Int)))
 (.rq (0≤(↑i:Int)∧(↑i:Int)<(↑M.length:Int))
 (.rq (0≤(↑i:Int)∧(↑i:Int)<(↑M.length:Int))
 (.rq
 ((kI aN 2 (bS cS (M.getD (↑i:Int).toNat default).L.length (aE aN (M.getD (↑i:Int).toNat default).L)) (M.getD (↑i:Int).toNat default).L.length
 (aE aN (M.getD (↑i:Int).toNat default).L) ∧
 kI aN 2 (bS cS p.L.length (aE aN p.L)) p.L.length (aE aN p.L)) ∧
 ((Pg.mk (M.getD (↑i:Int).toNat default).kd (M.getD (↑i:Int).toNat default).ru (M.getD (↑i:Int).toNat default).ve
 (bS cS (M.getD (↑i:Int).toNat default).L.length (aE aN (M.getD (↑i:Int).toNat default).L)) (M.getD (↑i:Int).toNat default).st (M.getD (↑i:Int).toNat default).se
 (M.getD (↑i:Int).toNat default).to).L.length ≤
 1000000 ∨
 (Pg.mk p.kd p.ru p.ve (bS cS p.L.length (aE aN p.L)) (M.getD (↑i:Int).toNat default).st p.se p.to).L.length≤1000000))
 (.rq
 (((M.length=M.length∧∀(e o:Nat),e<M.length→o<7→lY (aE aG M e o) (aE aG M e o))∧kI aN 2 (bS cS p.L.length (aE aN p.L)) p.L.length (aE aN p.L)) ∧
 M.length≤1000000∧(Pg.mk p.kd p.ru p.ve (bS cS p.L.length (aE aN p.L)) (M.getD (↑i:Int).toNat default).st p.se p.to).L.length≤1000000)
 (bT
 (kO
 (Pg.mk (M.getD (↑i:Int).toNat default).kd (M.getD (↑i:Int).toNat default).ru (M.getD (↑i:Int).toNat default).ve
 (bS cS (M.getD (↑i:Int).toNat default).L.length (aE aN (M.getD (↑i:Int).toNat default).L)) (M.getD (↑i:Int).toNat default).st (M.getD (↑i:Int).toNat default).se
 (M.getD (↑i:Int).toNat default).to)
 (Pg.mk p.kd p.ru p.ve (bS cS p.L.length (aE aN p.L)) (M.getD (↑i:Int).toNat default).st p.se p.to))
 (bT (uE M (Pg.mk p.kd p.ru p.ve (bS cS p.L.length (aE aN p.L)) (M.getD (↑i:Int).toNat default).st p.se p.to) != 1)
 (.rq (k=k)
 (.rq (1≤1)
 (.rq
 ((k+1)*8≤140737488355328 ∧
 k+1≤140737488355328∧∀(e o:Nat),e<1→o<1→iQ (mI [C.p (PV.i aC (M.getD (↑i:Int).toNat default).st)] 1 1 (e+0) o)=true)
 (.rq (eW aC ((↑i:Int)+1))
 (.done .normal
 (bY 45 [(2,.c (.ptr 0 0)),(3,.c (.ptr 1 0)),(5,.c (.sl 2 1 0 (k+1))),(6,.c (.p (.i .i64 ((↑i:Int)+1))))] [.cells 27 [.p (.l 7 M.length (aE aG M))],.cells 31 [.p (.i .i64 p.kd),.p (.s p.ru),.p (.i .i64 p.ve),.p (.l 2 p.L.length (aE aN p.L)),.p (.i .i64 (M.getD (↑i:Int).toNat default).st),.p (.i .i64 p.se),.p (.s p.to)],.row 3 1 (k+1) fun e o=>bQ [0,1,4] (fI k (aO aT out) (fun e o=>bC C.top [C.p (PV.i aC (M.getD (↑i:Int).toNat default).st)] ((e+0)*1+o)) e o)]))))))
 (.rq (eW aC ((↑i:Int)+1))
 (.done .normal
 (bY 45 [(2,.c (.ptr 0 0)),(3,.c (.ptr 1 0)),(5,.c (.sl 2 1 0 k)),(6,.c (.p (.i .i64 ((↑i:Int)+1))))] [.cells 27 [.p (.l 7 M.length (aE aG M))],.cells 31 [.p (.i .i64 p.kd),.p (.s p.ru),.p (.i .i64 p.ve),.p (.l 2 p.L.length (aE aN p.L)),.p (.i .i64 (M.getD (↑i:Int).toNat default).st),.p (.i .i64 p.se),.p (.s p.to)],.row 3 1 k fun e o=>bQ [0,1,2] (aO aT out e o)]))))
 (.rq (eW aC ((↑i:Int)+1))
 (.done .normal
 (bY 45 [(2,.c (.ptr 0 0)),(3,.c (.ptr 1 0)),(5,.c (.sl 2 1 0 k)),(6,.c (.p (.i .i64 ((↑i:Int)+1))))] [.cells 27 [.p (.l 7 M.length (aE aG M))],.cells 31 [.p (.i .i64 p.kd),.p (.s p.ru),.p (.i .i64 p.ve),.p (.l 2 p.L.length (aE aN p.L)),.p (.i .i64 (M.getD (↑i:Int).toNat default).st),.p (.i .i64 p.se),.p (.s p.to)],.row 3 1 k fun e o=>bQ [0,1,2] (aO aT out e o)]))))))))
 (.done (.exit 0)
 (bY 45 [(2,.c (.ptr 0 0)),(3,.c (.ptr 1 0)),(5,.c (.sl 2 1 0 k)),(6,.c (.p (.i .i64 (↑i:Int))))] [.cells 27 [.p (.l 7 M.length (aE aG M))],.cells 31 [.p (.i .i64 p.kd),.p (.s p.ru),.p (.i .i64 p.ve),.p (.l 2 p.L.length (aE aN p.L)),.p (.i .i64 p.st),.p (.i .i64 p.se),.p (.s p.to)],.row 3 1 k fun e o=>bQ [0,1,2] (aO aT out e o)])):=by kernel_rfl
theorem aSL(out:List Int):dF aFC (bL 4 (dC aB Try.f28)) (bY 45 [(5,aU aT 1 out)] []) (gW [] (bK aB Try.f28))=Tr.rq (kI aT 1 (bS gH out.length (aE aT out)) out.length (aE aT out)∧(bS gH out.length (aE aT out)).length≤1000000)
 (.done .ret (St.mk [V.c (C.p (PV.l 1 (nA (bS gH out.length (aE aT out))).length (aE aT (nA (bS gH out.length (aE aT out))))))] [])):=by kernel_rfl
theorem aRU(A:List Int)(a:Int):dF fH (dL 3 (dC aB Try.f15)) (oB Try.f15 [aU aT 1 A,iV a]) (gW (fJ 24 [0,1,5,6]) (bK aB Try.f15))=Tr.done X.normal
 (bY 24 [(0,.c (.p (.l 1 A.length (aE aT A)))),(1,.c (.p (.i .i64 a))),(5,.c (.p (.z (bB none 0 0)))),(6,.c (.p (.i .i64 0)))] []):=by kernel_rfl
theorem aRT(A out:List Int)(a:Int)(k i:Nat):dF aL6 (gQ (dC aB Try.f15) 3) (bY 24 [(0,aU aT 1 A),(1,iV a),(5,.c (.sl 0 1 0 k)),(6,iV (i:Nat))] [.row 3 1 k (aO aT out)]) (gW (fJ 24 [0,1,5,6]) (bK aB Try.f15))=Tr.rq (kI aT 1 (bS gH A.length (aE aT A)) A.length (aE aT A)∧(∀(t:Int),t∈bS gH A.length (aE aT A)→eW aC t)∧dR 0<dR 6)
 (bT (decide ((↑i:Int)<iG (bS gH A.length (aE aT A)) a 6))
 (.rq (eW aC (a+1))
 (.rq (eW aC (a+1+(↑i:Int)))
 (.rq (kI aT 1 (bS gH A.length (aE aT A)) A.length (aE aT A)∧(∀(t:Int),t∈bS gH A.length (aE aT A)→eW aC t)∧dR 0<dR 6)
 (.rq (k=k)
 (.rq (1≤1)
 (.rq
 ((k+1)*8≤140737488355328 ∧
 k+1≤140737488355328∧∀(e o:Nat),e<1→o<1→iQ (mI [C.p (PV.i aC (iG (bS gH A.length (aE aT A)) (a+1+(↑i:Int)) 6))] 1 1 (e+0) o)=true)
 (.rq (eW aC ((↑i:Int)+1))
 (.done .normal
 (bY 24 [(0,.c (.p (.l 1 A.length (aE aT A)))),(1,.c (.p (.i .i64 a))),(5,.c (.sl 0 1 0 (k+1))),(6,.c (.p (.i .i64 ((↑i:Int)+1))))] [.row 3 1 (k+1) fun e o=>bQ [2] (fI k (aO aT out) (fun e o=>bC C.top [C.p (PV.i aC (iG (bS gH A.length (aE aT A)) (a+1+(↑i:Int)) 6))] ((e+0)*1+o)) e o)])))))))))
 (.done (.exit 0)
 (bY 24 [(0,.c (.p (.l 1 A.length (aE aT A)))),(1,.c (.p (.i .i64 a))),(5,.c (.sl 0 1 0 k)),(6,.c (.p (.i .i64 (↑i:Int))))] [.row 3 1 k fun e o=>bQ [0] (aO aT out e o)]))):=by kernel_rfl
theorem aRS(A out:List Int)(a:Int)(k i:Nat):dF fH (bL 4 (dC aB Try.f15)) (bY 24 [(0,aU aT 1 A),(1,iV a),(5,.c (.sl 0 1 0 k)),(6,iV (i:Nat))] [.row 3 1 k (aO aT out)]) (gW [] (bK aB Try.f15))=Tr.rq (0+k≤k∧∀(e o:Nat),e<k→o<1→BZ (aO aT out (e+0) o)=true) (.done .ret (St.mk [V.c (C.p (PV.l 1 k fun e o=>mZ (aO aT out (e+0) o)))] [])):=by kernel_rfl
def zQ(p:Pg)(t:Int):Pg:=⟨p.kd,p.ru,p.ve,p.L,t,p.se,p.to⟩
theorem aAU{α:Type}(f:α→Bool)(M:List α)(i:Nat)(hi:i<M.length)(h1:f M[i]=true)(h2:∀q∈M.drop (i+1),f q=false):M.reverse.find? f=some M[i]:=by
 have e:M=M.take i++M[i]::M.drop (i+1):=by rw[←dG hi,fL]
 have h3:(M.drop (i+1)).reverse.find? f=none:=by
  rw[List.find?_eq_none];intro q hq
  rw[h2 q (List.mem_reverse.1 hq)];exact Bool.false_ne_true
 conv=>lhs;rw[e]
 rw[List.reverse_append,List.reverse_cons,cF,List.find?_append,h3]
 show List.find? f (M[i]::(M.take i).reverse)=_
 rw[List.find?_cons,h1]
theorem aML{M:List Pg}{p:Pg}{i:Nat}(hi:i<M.length)(h1:kO (M.getD i default) p=true)(h2:∀q∈M.drop (i+1),kO q p=false):uE M p=(M.getD i default).kd:=by
 have e:M.getD i default=M[i]:=by simp[hi]
 rw[e]at h1 ⊢;unfold uE;rw[aAU _ M i hi h1 h2]
theorem aMK{M:List Pg}{p:Pg}(h2:∀q∈M,kO q p=false):uE M p = -1:=by
 have h3:M.reverse.find? (fun q=>kO q p)=none:=by
  rw[List.find?_eq_none];intro q hq
  rw[h2 q (List.mem_reverse.1 hq)];exact Bool.false_ne_true
 unfold uE;rw[h3]
def sI(M:List Pg)(p:Pg):List Pg×Int:=
 if hP p=false∨p.kd≠0 then (M,1) else if uE M p=0∨uE M p=2 then (M,10) else if uE M p=1 then (M,20) else (M++[p],0)
def aEF(M:List Pg):Mod
 |[x,y]=>match leL x M,xF y with
  |some p,some (q,a)=>some ((p∧q)∧M.length≤1000000∧a.L.length≤1000000,.t [.a [.p (bO aG 7 (sI M a).1)],.c (.p (.i .i64 (sI M a).2))])
  |_,_=>none
 |_=>none
def LB(M:List Pg)(p:Pg)(i:Nat):List Int:=((M.take i).filter fun q=>kO q (zQ p q.st)&&(uE M (zQ p q.st) != 1)).map (·.st)
def gF(M:List Pg)(p:Pg):List Int:=nA (LB M p M.length)
def LQ(M:List Pg):Mod
 |[x,y]=>match leL x M,xF y with
  |some p,some (q,a)=>some ((p∧q)∧M.length≤1000000∧a.L.length≤1000000,aU aT 1 (gF M a))
  |_,_=>none
 |_=>none
def yF(A:List Int)(a:Int)(n:Nat):List Int:=(List.range n).map fun j=>iG A (a+1+(j:Nat)) 6
def oV(A:List Int)(a:Int):List Int:=yF A a (iG A a 6).toNat
def OQ:Mod
 |[x,.c (.p (.i .i64 a))]=>match CM x with
  |some (p,A)=>some (p∧(∀t∈A,eW .i64 t)∧rI a,aU aT 1 (oV A a))
  |none=>none
 |_=>none
theorem ZC(A:List Int)(a:Int)(n:Nat):yF A a (n+1)=yF A a n++[iG A (a+1+(n:Nat)) 6]:=by
 unfold yF;rw[List.range_succ,List.map_append];rfl
theorem NI(A:List Int)(a:Int)(n:Nat):(yF A a n).length=n:=by unfold yF;simp
theorem aCU(M:List Pg)(p:Pg)(i:Nat)(hi:i<M.length):LB M p (i+1)=LB M p i++(match kO (M.getD i default) (zQ p (M.getD i default).st)&&(uE M (zQ p (M.getD i default).st) != 1) with
  |true=>[(M.getD i default).st]
  |false=>[]):=by
 unfold LB;rw[List.take_add_one,List.filter_append,List.map_append];congr 1
 have e:M.getD i default=M[i]:=by simp[hi]
 rw[e,aK hi]
 show List.map _ (List.filter _ [M[i]])=_
 rw[List.filter_cons];cases kO M[i] (zQ p M[i].st)&&(uE M (zQ p M[i].st) != 1)<;>rfl
theorem WC(M:List Pg)(p:Pg)(i:Nat):(LB M p i).length≤i:=by
 unfold LB;rw[List.length_map]
 have:=List.length_filter_le (fun q=>kO q (zQ p q.st)&&(uE M (zQ p q.st) != 1)) (M.take i)
 rw[eR]at this;omega
section
variable {G:Nat→Option Obj}
set_option maxRecDepth 100000 in
theorem WO:iW aB G 51 BU:=by
 intro args p v hm hp h;unfold BU at hm
 split at hm;rotate_left;· cases hm
 rename_i t;obtain⟨rfl,rfl⟩:=eY hm
 refine HI aY Try.func51 (by kernel_rfl) rfl (aMH t) ?_ h
 simp only[cD,bA,iA,KF];refine⟨fun h1=>⟨_,rfl,iE.of_eq ?_⟩,fun h1=>⟨_,rfl,iE.of_eq ?_⟩⟩
 ·unfold gU;rw[h1];rfl
 ·unfold gU;rw[h1];rfl
theorem QJ:bG aB G aLG:=eC (by simp;exact⟨aDI,aA3,WO⟩)
set_option maxRecDepth 100000 in
theorem WQ:iW aB G 50 LR:=by
 intro args p v hm hp h;unfold LR at hm
 split at hm;rotate_left;· cases hm
 split at hm;rotate_left;· cases hm
 rename_i x _ q a hx;obtain⟨rfl,rfl⟩:=eY hm;refine jW.args (args':=[uK a]) ?_ (.cons (mT hx hp) .nil);clear hm hx
 refine qN Try.func50 (by kernel_rfl) rfl ?_ h
 refine eG.evA QJ [] [] rfl (aPK a) ?_
 have e:hP a=(jK a.ru&&decide (1≤a.ve)&&mD (fun k=>a.L.getD k default) a.L.length&&gU a.st&&gU a.se&&decide ((a.to.size:Int)≤16)):=by
  unfold hP mK XH;congr 1;exact decide_eq_decide.2 (by omega)
 rw[e];simp only[cD,bA,aP,fP,gN];refine⟨trivial,dP _ _ _,trivial,trivial,fun c1=>⟨fun c2=>⟨fun c3=>⟨fun c4=>⟨fun c5=>⟨?_⟩,fun c5=>⟨?_⟩⟩,fun c4=>⟨?_⟩⟩,fun c3=>⟨?_⟩⟩,fun c2=>⟨?_⟩⟩,fun c1=>⟨?_⟩⟩<;>simp only[*,Bool.and_true,Bool.true_and,Bool.and_false,Bool.false_and]<;>exact iE.refl _
set_option maxRecDepth 100000 in
theorem aKG(M:List Pg):iW aB G 56 (aJ2 M):=by
 intro args p v hm hp h;unfold aJ2 at hm
 split at hm;rotate_left;· cases hm
 split at hm;rotate_left;· cases hm
 rename_i x y _ _ p1 p2 a hx hy;obtain⟨rfl,rfl⟩:=eY hm;obtain⟨⟨hA,hB⟩,hlen,hl2⟩:=hp;refine jW.args (args':=[CN M,uK a]) ?_ (.cons (xP hx hA) (.cons (mT hy hB) .nil));clear hm hx hy hA hB
 refine qN Try.func56 (by kernel_rfl) rfl ?_ h
 refine eG.evG aY 2 (aP9 M a) ?_;simp only[bA,aP,cC,eW];refine⟨by omega,⟨?_⟩⟩
 refine eG.loop' (l:=bL 2 (dC aB Try.f56)) (b:=inr (inr (bC .skip (dC aB Try.f56) 2))) (r:=bL 3 (dC aB Try.f56)) (id:=0) (by kernel_rfl) (σ:=Nat)
   (fun i=>(fun p=>bY 29 [(2,.c (.ptr 0 0)),(3,.c (.ptr 1 0)),(5,iV ((i:Int)-1))] [.cells 27 [.p (bO aG 7 M)],.cells 31 [.p (.i .i64 p.kd),.p (.s p.ru),.p (.i .i64 p.ve),.p (bO aN 2 p.L),.p (.i .i64 p.st),.p (.i .i64 p.se),.p (.s p.to)]]) a) (fun i=>i≤M.length∧∀q∈M.drop i,kO q a=false) (fun i=>i) M.length ⟨aW _,fun q hq=>by rw[List.drop_length]at hq;cases hq⟩ (aI (by kernel_rfl)) ?_
 rintro i ⟨hi,hc⟩ Q1 q1n q1e -;refine eG.evH zH (aP8 M a i) ?_;simp only[cD,bA,aP,fP,cC,jZ,decide_eq_true_eq,decide_eq_false_iff_not,eW,gN];refine⟨fun h1=>?_,fun h1=>⟨q1e _ ?_⟩⟩
 ·have e1:((i:Int)-1).toNat=i-1:=by omega
  rw[e1]
  have hs:M.drop (i-1)=M.getD (i-1) default::M.drop i:=by
   rw[dG (show i-1<M.length by omega),show i-1+1=i by omega];simp[show i-1<M.length by omega]
  have hst:∀kd se,kO (Pg.mk kd (M.getD (i-1) default).ru (M.getD (i-1) default).ve (M.getD (i-1) default).L (M.getD (i-1) default).st se (M.getD (i-1) default).to) a=kO (M.getD (i-1) default) a:=fun _ _=>rfl
  refine⟨by omega,⟨⟨dP _ _ _,dP _ _ _⟩,.inr hl2⟩,fun h2=>⟨by omega,⟨iE.of_eq ?_⟩⟩,fun h2=>⟨by omega,⟨q1n (i-1) _ ⟨by omega,fun q hq=>?_⟩ (by omega) ?_⟩⟩⟩
  ·rw[aML (i:=i-1) (by omega) h2 (by rw[show i-1+1=i by omega];exact hc)];rfl
  ·rw[hs]at hq
   rcases List.mem_cons.1 hq with h3|h3
   ·rw[h3];exact h2
   ·exact hc q h3
  ·have e2:(i:Int)-1=((i-1:Nat):Int):=by omega
   rw[e2]
   exact aI (by kernel_rfl)
 ·refine eG.evH aY (aP7 M a i) ?_
  simp only[aP,fP]
  obtain rfl:i=0:=by omega
  exact⟨iE.of_eq (by rw[aMK (M:=M) (p:=a) fun q hq=>hc q (by simpa using hq)];rfl)⟩
theorem QQ(M:List Pg):bG aB G (aLM M):=eC (by simp;exact⟨WQ,aKG M,aDR M⟩)
set_option maxRecDepth 100000 in
theorem aIK(M:List Pg):iW aB G 24 (aEF M):=by
 intro args p v hm hp h;unfold aEF at hm
 split at hm;rotate_left;· cases hm
 split at hm;rotate_left;· cases hm
 rename_i x y _ _ p1 p2 a hx hy;obtain⟨rfl,rfl⟩:=eY hm;obtain⟨⟨hA,hB⟩,hlen,hl2⟩:=hp;refine jW.args (args':=[CN M,uK a]) ?_ (.cons (xP hx hA) (.cons (mT hy hB) .nil));clear hm hx hy hA hB
 refine qN Try.func24 (by kernel_rfl) rfl ?_ h
 refine eG.evH (QQ M) (tFi M a) ?_;simp only[cD,bA,aP,fP,gN,bne_iff_ne,bne_eq_false_iff_eq,ne_eq,beq_iff_eq,beq_eq_false_iff_ne,eQ,fX];refine⟨dP _ _ _,fun c1=>⟨iE.of_eq ?_⟩,fun c1=>⟨fun c2=>⟨iE.of_eq ?_⟩,fun c2=>⟨⟨⟨⟨trivial,fun _ _ _ _=>lY.refl _⟩,dP _ _ _⟩,hlen,hl2⟩,fun c3=>⟨iE.of_eq ?_⟩,fun c3=>⟨fun c4=>⟨iE.of_eq ?_⟩,fun c4=>⟨fun c5=>⟨iE.of_eq ?_⟩,fun c5=>⟨⟨⟨⟨trivial,fun _ _ _ _=>lY.refl _⟩,dP _ _ _⟩,hlen⟩,⟨iE.of_eq ?_⟩⟩⟩⟩⟩⟩⟩
 all_goals unfold sI
 ·rw[if_pos (.inl c1)];rfl
 ·rw[if_pos (.inr c2)];rfl
 ·rw[if_neg (fun h=>h.elim (fun h=>by rw[c1]at h;cases h) (fun h=>h c2)),if_pos (.inl c3)];rfl
 ·rw[if_neg (fun h=>h.elim (fun h=>by rw[c1]at h;cases h) (fun h=>h c2)),if_pos (.inr c4)];rfl
 ·rw[if_neg (fun h=>h.elim (fun h=>by rw[c1]at h;cases h) (fun h=>h c2)),if_neg (fun h=>h.elim c3 c4),if_pos c5];rfl
 ·rw[if_neg (fun h=>h.elim (fun h=>by rw[c1]at h;cases h) (fun h=>h c2)),if_neg (fun h=>h.elim c3 c4),if_neg c5];rfl
theorem QA(M:List Pg):bG aB G (aL8 M):=eC (by simp;exact⟨WP,aKG M⟩)
theorem MO:bG aB G aFC:=eC (by simp;exact aKH)
theorem PY:bG aB G aL6:=eC (by simp;exact TB)
set_option maxRecDepth 100000 in
theorem aDK(M:List Pg):iW aB G 28 (LQ M):=by
 intro args p v hm hp h;unfold LQ at hm
 split at hm;rotate_left;· cases hm
 split at hm;rotate_left;· cases hm
 rename_i x y _ _ p1 p2 a hx hy;obtain⟨rfl,rfl⟩:=eY hm;obtain⟨⟨hA,hB⟩,hlen,hl2⟩:=hp;refine jW.args (args':=[CN M,uK a]) ?_ (.cons (xP hx hA) (.cons (mT hy hB) .nil));clear hm hx hy hA hB
 refine qN Try.func28 (by kernel_rfl) rfl ?_ h
 refine eG.evG aY 3 (aSN M a) ?_;simp only[aP,cC];refine⟨?_⟩
 refine eG.loop' (l:=bL 3 (dC aB Try.f28)) (b:=inr (inr (bC .skip (dC aB Try.f28) 3))) (r:=bL 4 (dC aB Try.f28)) (id:=0) (by kernel_rfl) (σ:=Nat×Int)
   (fun(i,t)=>(fun p out k=>bY 45 [(2,.c (.ptr 0 0)),(3,.c (.ptr 1 0)),(5,.c (.sl 2 1 0 k)),(6,iV (i:Nat))] [.cells 27 [.p (bO aG 7 M)],.cells 31 [.p (.i .i64 p.kd),.p (.s p.ru),.p (.i .i64 p.ve),.p (bO aN 2 p.L),.p (.i .i64 p.st),.p (.i .i64 p.se),.p (.s p.to)],.row 3 1 k (aO aT out)]) (zQ a t) (LB M a i) (LB M a i).length) (fun(i,t)=>i≤M.length) (fun(i,t)=>M.length-i) (0,a.st) (bX _) ((mM 3 1 (aO aT []) 5 (by kernel_rfl)).trans (aI (by kernel_rfl))) ?_
 rintro⟨i,t⟩ hi Q1 q1n q1e -
 have hi:i≤M.length:=hi
 have hpl:=WC M a i
 refine eG.evH (QA M) (aSM M (zQ a t) (LB M a i) (LB M a i).length i) ?_;simp only[cD,bA,aP,cC,jZ,decide_eq_true_eq,decide_eq_false_iff_not,eW,gN,show (↑i:Int).toNat=i from rfl,bne_iff_ne,bne_eq_false_iff_eq,ne_eq];refine⟨fun h1=>?_,fun h1=>⟨q1e _ ?_⟩⟩
 ·have hlt:i<M.length:=by omega
  have hsn:=aCU M a i hlt
  generalize hq:M.getD i default=q at hsn ⊢
  change (0≤(i:Int)∧(i:Int)<M.length)∧_
  have stay:(kO q (zQ a q.st)&&(uE M (zQ a q.st) != 1))=false→Q1 .normal (bY 45 [(2,V.c (C.ptr 0 0)),(3,V.c (C.ptr 1 0)),(5,V.c (C.sl 2 1 0 (LB M a i).length)),(6,V.c (C.p (PV.i aC ((↑i:Int)+1))))] [AO.cells 27 [C.p (PV.l 7 M.length (aE aG M))],AO.cells 31 [C.p (PV.i aC (zQ a t).kd),C.p (PV.s (zQ a t).ru),C.p (PV.i aC (zQ a t).ve),C.p (PV.l 2 (zQ a t).L.length (aE aN (zQ a t).L)),C.p (PV.i aC q.st),C.p (PV.i aC (zQ a t).se),C.p (PV.s (zQ a t).to)],AO.row 3 1 (LB M a i).length fun e o=>bQ [0,1,2] (aO aT (LB M a i) e o)]):=fun hs=>by
   rw[hs]at hsn;simp only[eX]at hsn;rw[←hsn]
   exact q1n (i+1,q.st) _ (by simp only;omega) (by simp only;omega) (aI (by kernel_rfl))
  refine⟨⟨by omega,by omega⟩,⟨by omega,by omega⟩,⟨⟨dP _ _ _,dP _ _ _⟩,.inr hl2⟩,⟨⟨⟨trivial,fun _ _ _ _=>lY.refl _⟩,dP _ _ _⟩,hlen,hl2⟩,fun c1=>⟨fun c2=>⟨trivial,aW _,⟨by omega,by omega,fun e o he ho=>?_⟩,by omega,⟨?_⟩⟩,fun c2=>⟨by omega,⟨stay ?_⟩⟩⟩,fun c1=>⟨by omega,⟨stay ?_⟩⟩⟩
  ·obtain rfl:e=0:=by omega
   obtain rfl:o=0:=by omega
   rfl
  ·have hs:(kO q (zQ a q.st)&&(uE M (zQ a q.st) != 1))=true:=by
     rw[aQ];exact⟨c1,by rw[bne_iff_ne];exact c2⟩
   rw[hs]at hsn;simp only at hsn
   have hlx:(LB M a i).length+1=(LB M a (i+1)).length:=by rw[hsn];simp
   refine q1n (i+1,q.st) _ (by simp only;omega) (by simp only;omega) ?_;rw[hlx];refine jF ⟨rfl,rfl,⟨rfl,rfl,rfl,fun e o he ho=>?_⟩,trivial⟩;rw[hsn];exact pP rfl (zA q.st) (by rw[hsn]at he;simpa using he) ho
  ·rw[Bool.and_eq_false_iff];exact .inr (by rw[bne_eq_false_iff_eq];exact c2)
  ·rw[Bool.and_eq_false_iff];exact .inl c1
 ·obtain rfl:i=M.length:=by omega
  unfold gF
  generalize LB M a M.length=out at hpl ⊢
  refine eG.pre ((aI (by kernel_rfl)).trans ((pD (st:=bY 45 [(2,V.c (C.ptr 0 0)),(3,V.c (C.ptr 1 0)),(5,V.c (C.sl 2 1 0 out.length)),(6,V.c (C.p (PV.i aC (M.length:Int))))] [AO.cells 27 [C.p (PV.l 7 M.length (aE aG M))],AO.cells 31 [C.p (PV.i aC a.kd),C.p (PV.s a.ru),C.p (PV.i aC a.ve),C.p (PV.l 2 a.L.length (aE aN a.L)),C.p (PV.i aC t),C.p (PV.i aC a.se),C.p (PV.s a.to)],AO.row 3 1 out.length (aO aT out)]) (j:=5) (id:=2) (ty:=3) (sz:=1) (n:=out.length) (off:=0) (len:=out.length) (f:=aO aT out) (by kernel_rfl) (by kernel_rfl) (by omega) (fun _ _ _ _=>rfl)).trans ((gB (fJ 45 [5]) _).trans (aI (st':=bY 45 [(5,aU aT 1 out)] []) (by kernel_rfl))))) ?_
  refine eG.evH MO (aSL out) ?_;simp only[bA,aP,fP,iS];exact⟨⟨dP _ _ _,by omega⟩,⟨iE.refl _⟩⟩
set_option maxRecDepth 100000 in
theorem aA5:iW aB G 15 OQ:=by
 intro args p v hm hp h;unfold OQ at hm
 split at hm;rotate_left;· cases hm
 split at hm;rotate_left;· cases hm
 rename_i x s _ q A hx;obtain⟨rfl,rfl⟩:=eY hm;obtain⟨hA,hI,hpos⟩:=hp;refine jW.args (args':=[aU aT 1 A,iV s]) ?_ (.cons (oZ hx hA) (.cons (.refl _) .nil));clear hA hm hx
 refine qN Try.func15 (by kernel_rfl) rfl ?_ h
 refine eG.evG aY 3 (aRU A s) ?_;simp only[aP,cC];refine⟨?_⟩;unfold rI at hpos
 have hb:=pQ (L:=A) (i:=s) (m:=6) (by omega)
 refine eG.loop' (l:=bL 3 (dC aB Try.f15)) (b:=inr (inr (bC .skip (dC aB Try.f15) 3))) (r:=bL 4 (dC aB Try.f15)) (id:=0) (by kernel_rfl) (σ:=Nat)
   (fun i=>(fun out k=>bY 24 [(0,aU aT 1 A),(1,iV s),(5,.c (.sl 0 1 0 k)),(6,iV (i:Nat))] [.row 3 1 k (aO aT out)]) (yF A s i) (yF A s i).length) (fun i=>(i:Int)≤iG A s 6) (fun i=>6-i) 0 hb.1 ((mM 3 1 (aO aT []) 5 (by kernel_rfl)).trans (aI (by kernel_rfl))) ?_
 intro i hi Q1 q1n q1e _
 have hl:=NI A s i
 refine eG.evH PY (aRT A (yF A s i) s (yF A s i).length i) ?_;simp only[cD,bA,aP,cC,jZ,decide_eq_true_eq,decide_eq_false_iff_not,eW,iS];refine⟨⟨dP _ _ _,hI,by decide⟩,fun h1=>⟨by omega,by omega,⟨dP _ _ _,hI,by decide⟩,trivial,aW _,⟨by omega,by omega,fun e o he ho=>?_⟩,by omega,⟨?_⟩⟩,fun h1=>⟨q1e _ ?_⟩⟩
 ·obtain rfl:e=0:=by omega
  obtain rfl:o=0:=by omega
  rfl
 ·have hsn:=ZC A s i
  have hlx:(yF A s i).length+1=(yF A s (i+1)).length:=by rw[hsn];simp
  refine q1n (i+1) _ (by omega) (by omega) ?_;rw[hlx];refine jF ⟨⟨rfl,rfl,rfl,fun e o he ho=>?_⟩,trivial⟩;rw[hsn];exact pP rfl (zA _) (by rw[hsn]at he;simpa using he) ho
 ·refine eG.pre (aI (by kernel_rfl)) (eG.evH aY (aRS A (yF A s i) s (yF A s i).length i) ?_)
  simp only[bA,aP,fP];refine⟨⟨by omega,fun _ _ _ _=>rfl⟩,⟨?_⟩⟩;unfold oV;rw[show (iG A s 6).toNat=i by omega];exact iE.refl _
end
section
variable {P:Program} {G:Nat→Option Obj} {ops:Array Oper} {al:List AI} {N:Nat} {S:Nat→St} {ext:Ext}
def FY(os:List Oper)(N:Nat):Bool:=cA (fG os) (N+2)&&lN (fun i o => !cA i (N+1)||lN (fun j _=>dV N j||nC o j) 0 os) 0 os
theorem aAT(h:FY ops.toList N=true):ops.size=N+2∧∀j,j<N→cY .any ops (N+1) j=true:=by
 unfold FY at h;rw[aQ]at h;obtain⟨h1,h2⟩:=h
 have h1:=aS h1
 rw[eL]at h1
 have h1:ops.size=N+2:=by simpa using h1
 refine⟨h1,fun j hj=>?_⟩
 have h3:=fY h2 (N+1) ops[N+1] (by simp[show N+1<ops.size by omega])
 simp only[bU,cK]at h3
 rcases h3 with h3|h3
 ·rw[Nat.beq_refl]at h3;cases h3
 ·have h4:=fY h3 j ops[j] (by simp)
  simp only[bU,cK,Nat.ble_eq]at h4
  rcases h4 with h4|h4
  ·omega
  ·exact jE (by simp[show N+1<ops.size by omega]) h4
theorem OW{Q:Exit→Act→World→Prop}{k:Nat}{o:Oper}{listed:Array Bool}{a:Act}{w:World}(hk:ops[k]?=some o)(hs:listed.size=ops.size)(hu:listed.getD k true=false)(h1:∀i,i<ops.size→i≠k→listed.getD i false=true)(hb:∀e∈o.after,Region.binds .any e=true→e.on<k)(h:wpList P ops Q [o] a w):wpAny P .any ops Q 1 listed a w:=by
 have hks:k<ops.size:=(bH.1 hk).1
 have hrk:k∈eH .any ops listed:=mem_ready.2 ⟨hu,o,hk,fun e he hbi=>by
  have:=hb e he hbi
  exact h1 e.on (by omega) (by omega)⟩
 refine⟨fun h4=>(by rw[h4]at hrk;cases hrk),fun i hi=>?_⟩;obtain⟨q1,oi,q2,q3⟩:=mem_ready.1 hi
 have his:i<ops.size:=(bH.1 q2).1
 have hik:i=k:=Classical.byContradiction fun e=>by
  have:=h1 i his e
  rw[getD_both q1]at this;cases this
 subst hik
 have hw:wpOp P ops Q i (wpList P ops Q []) a w:=by unfold wpOp;simp only[hk];exact h
 refine wpOp_mono (fun a' w' h'=>⟨?_,h'⟩) hw;rw[List.eq_nil_iff_forall_not_mem];intro j hj
 obtain⟨q1,oj,q2,_⟩:=mem_ready.1 hj
 have hjs:j<ops.size:=(bH.1 q2).1
 by_cases e:i=j
 ·subst e;simp[hs,hks]at q1
 ·rw[getD_set_ne true e]at q1
  have:=h1 j hjs (fun h=>e h.symm)
  rw[getD_both q1]at this;cases this
variable {β0:Bt} {R0:Nat→Prop} {w0:World}
theorem xW.allBut(hr:xX P G ext al (N+1) S)(hok:RegB ops al (N+1)){listed:Array Bool}{a:Act}{w:World}{β:Bt}{R:Nat→Prop}(hI:xW G al (N+1) S β0 R0 w0 listed a w β R)(h1:∀i,i<N→listed.getD i false=true)(h2:listed.getD N false=false):iB G β R (S N) a w:=by
 have le:=hr.le (i:=N) (j:=N+1) (by omega) (aW _)
 have dm:∀i x,β i=some x→i<(S N).h.length:=fun i x hi=>by
  rcases cL i (S N).h.length with h|h
  ·exact h
  ·have h3:=hI.hs.dom i x hi
   have h4:=hI.fr N (by omega) h2 i h h3
   rw[hi]at h4;cases h4
 refine⟨hI.df,dJ.of_get (by have:=hI.sz;have:=le.1;simp;omega) ?_,?_⟩
 ·intro s x y hx hy
  have hy:a.tmps[s]?=some y:=by simpa using hy
  have hlN:N<al.length:=by have:=hr.len;omega
  have key:VR β R w (bC (.c .top) (S N).t s) y:=by
   by_cases hd:(al[N]).dst=some s
   ·have h3:=hI.s0 s y hy fun i ai hi ha hl hda=>by
      have hiN:i≠N:=fun e=>by subst e;rw[h2]at hl;cases hl
      exact hok.dst i N ai al[N] s ha (aK hlN) hi (by omega) hiN hda hd
    have h4:=(hr.le (i:=0) (j:=N) (by omega) (by omega)).2.2.2 s fun l ai _ hl ha hda=>hok.dst l N ai al[N] s ha (aK hlN) (by omega) (by omega) (by omega) hda hd
    rw[h4];exact h3
   ·have h3:=hI.sl s y hy fun i ai hi ha hl=>by
      have hiN:i=N:=Classical.byContradiction fun e=>by
       have:=h1 i (by omega)
       rw[hl]at this;cases this
      subst hiN;rw[aK hlN]at ha;injection ha with ha;subst ha;exact hd
    have h4:=le.2.2.2 s fun l ai q1 q2 ha=>by
     obtain rfl:l=N:=by omega
     rw[aK hlN]at ha;injection ha with ha;subst ha;exact hd
    rw[h4]at h3;exact h3
  rw[fU,aD,hx]at key;exact key
 ·have hb:∀i x,β i=some x→bC .gone (S (N+1)).h i=bC .gone (S N).h i:=fun i x hi=>le.2.2.1 i (dm i x hi)
  refine⟨dm,?_,?_,hI.hs.lt,hI.hs.rlt,?_,hI.hs.gl,fun b ad hq=>⟨(hI.hs.ql b ad hq).1,(hI.hs.ql b ad hq).2.1,fun i o hi=>by rw[←hb i _ hi];exact(hI.hs.ql b ad hq).2.2 i o hi⟩⟩
  ·intro i j b o o' hi hj li lj
   rw[←hb i _ hi]at li;rw[←hb j _ hj]at lj;exact hI.hs.inj i j b o o' hi hj li lj
  ·intro i b o hi li
   rw[←hb i _ hi]at li;exact hI.hs.sep i b o hi li
  ·intro i b o hi
   rw[←hb i _ hi];exact hI.hs.obj i b o hi
theorem aAP(hext:bG P G ext)(hr:xX P G ext al (N+1) S)(hok:RegB ops al (N+1))(hal:∀i o,i<N+1→ops[i]?=some o→∃ai,al[i]?=some ai∧pN P ops o=some ai)(hsz:ops.size=N+2)(hw1:∀j,j<N→cY .any ops (N+1) j=true){oF oA:Oper}(hF:ops[N]?=some oF)(hA:ops[N+1]?=some oA){Q:Exit→Act→World→Prop}
  (hT:∀a w β R,iB G β R (S (N+1)) a w→Gr β0 R0 w0 β R w→wpList P ops Q [oA] a w) (hX:∀a w β R,iB G β R (S N) a w→Gr β0 R0 w0 β R w→wpList P ops Q [oA,oF] a w) :
  ∀(f:Nat) (listed:Array Bool) (a:Act) (w:World) (β:Bt) (R:Nat→Prop),pJ listed (N+1)=f→HeadInv .any ops (N+1) listed→xW G al (N+1) S β0 R0 w0 listed a w β R→wpAny P .any ops Q (f+1) listed a w:=by
 intro f;induction f with
 |zero=>
  intro listed a w β R hc inv hI
  have hall:=lS hc
  have hsim:iB G β R (S (N+1)) a w:=by
   refine⟨hI.df,dJ.of_get (by simp[hI.sz]) ?_,hI.hs⟩;intro s x y hx hy
   have h1:=hI.sl s y (by simpa using hy) fun i ai hi _ hl=>by rw[hall i hi]at hl;cases hl
   rw[fU,aD,hx]at h1;exact h1
  exact OW hA inv.size (inv.tail (N+1) (aW _) (by omega)) (fun i hi hne=>hall i (by omega)) (hok.back (N+1) oA hA) (hT a w β R hsim hI.gr)
 |succ f ih=>
  intro listed a w β R hc inv hI;obtain⟨i0,hi0,hu0,hb0⟩:=pS (by omega:0<pJ listed (N+1))
  have hi0s:i0<ops.size:=by omega
  have hr0:i0∈eH .any ops listed:=lJ hok.back hi0s (getD_in (by rw[inv.size];exact hi0s) hu0) hb0
  refine⟨fun h=>(by rw[h]at hr0;cases hr0),fun i hi=>?_⟩;obtain⟨q1,o,q2,q3⟩:=mem_ready.1 hi;obtain⟨his,_,q4⟩:=nE hi
  have hun:=getD_both q1
  have hil:i<listed.size:=by rw[inv.size];exact his
  by_cases hin:i<N+1
  ·obtain⟨ai,ha,hco⟩:=hal i o hin q2
   exact hI.step hext hr hok hin hil ha q2 hco hun q3 inv.closed fun a' w' β' R' hI'=>ih _ a' w' β' R' (by have:=lX hil hun hin;omega) (inv.set hi hin) hI'
  ·obtain rfl:i=N+1:=by omega
   have e0:i0=N:=by
    rcases cL i0 N with h|h
    ·have:=q4 i0 (hw1 i0 h)
     rw[hu0]at this;cases this
    ·omega
   subst e0
   have hsim:=hI.allBut hr hok hb0 hu0
   have hc2:pJ listed i0=0:=by
    rcases Nat.eq_zero_or_pos (pJ listed i0) with h|h
    ·exact h
    ·obtain⟨j,k1,k2,_⟩:=pS h
     rw[hb0 j k1]at k2;cases k2
   obtain rfl:f=0:=by
    rw[pJ,hc2,hu0]at hc;simpa using hc.symm
   have h:=hX a w β R hsim hI.gr
   have hw:wpOp P ops Q (i0+1) (wpList P ops Q [oF]) a w:=by unfold wpOp;simp only[hA];exact h
   refine wpOp_mono (fun a' w' h'=>OW hF (by simpa using inv.size) ?_ ?_ (hok.back i0 oF hF) h') hw
   ·rw[getD_set_ne true (by omega)]
    exact getD_in (by rw[inv.size];exact hi0s) hu0
   ·intro j hj hne
    by_cases e:i0+1=j
    ·subst e;simp[hil]
    ·rw[getD_set_ne false e];exact hb0 j (by omega)
noncomputable def aCG(ext:Ext)(all:List AI)(N:Nat)(k:St→Tr)(st:St):Tr:=
 iY (iO ext) (all.take N) st fun s=>.alt (iY (iO ext) ((all.drop N).take 1) s fun s1=>iY ext (all.drop (N+1)) s1 k) (iY ext (all.drop (N+1)++(all.drop N).take 1) s k)
theorem SM(hext:bG P G ext){id:Nat}(hm:P.follows .mixedOrders=true){all:List AI}(hall:fD P ops ops.toList=some all)(hok0:EJ ops.toList (all.take (N+1)) (N+1)=true)(hfl:FY ops.toList N=true){st:St}{k:St→Tr}{K:X→St→Prop}
  (h:(aCG ext all N k st).holds P G K) {Q:Exit→Act→World→Prop} {β:Bt} {R:Nat→Prop} {a:Act} {w:World} (hs:iB G β R st a w)
  (hT:∀st' a' w' β' R',(k st').holds P G K→iB G β' R' st' a' w'→Gr β R w β' R' w'→Q .normal a' w'):(Code.region id ops true).wp P Q a w:=by
 obtain⟨hsz,hw1⟩:=aAT hfl
 have hok:=WB hok0
 obtain⟨hl0,hg0⟩:=gR hall
 have hla:all.length=N+2:=by rw[hl0];simpa using hsz
 have hF:ops[N]?=some ops[N]:=by simp
 have hA:ops[N+1]?=some ops[N+1]:=by simp
 obtain⟨aF,hF1,hF2⟩:=hg0 N ops[N] (by rw[cR];exact hF);obtain⟨aA,hA1,hA2⟩:=hg0 (N+1) ops[N+1] (by rw[cR];exact hA)
 have dN:all.drop N=[aF,aA]:=by
  rw[dG (by omega),dG (by omega),List.drop_of_length_le (by omega)];rw[aK (by omega)]at hF1 hA1;injection hF1 with hF1;injection hA1 with hA1;rw[hF1,hA1]
 have dN1:all.drop (N+1)=[aA]:=by
  rw[dG (by omega),List.drop_of_length_le (by omega)];rw[aK (by omega)]at hA1;injection hA1 with hA1;rw[hA1]
 have tN1:all.take (N+1)=all.take N++[aF]:=by
  rw[List.take_add_one,hF1];rfl
 have tlen:(all.take N).length=N:=by rw[eR];omega
 have hcA:fD P ops [ops[N+1]]=some [aA]:=by simp only[fD,hA2];rfl
 have hcAF:fD P ops [ops[N+1],ops[N]]=some [aA,aF]:=by simp only[fD,hA2,hF2];rfl
 unfold aCG at h;rw[dN,dN1]at h
 obtain⟨S1,k0,k1,k2⟩:=kY hext (all.take N) st (fun ai hai=>by
  obtain⟨i,hi⟩:=dO.1 hai
  have hiN:i<N:=by have:=(List.getElem?_eq_some_iff.1 hi).1;omega
  refine hok.hd i ai ?_ (by omega)
  rw[tN1,cG (by omega)];exact hi) h
 rw[tlen,oR]at k1;obtain⟨k1,kX⟩:=k1
 obtain⟨S2,m0,m1,m2⟩:=kY hext [aF] (S1 N) (fun ai hai=>by
  obtain rfl:=eO.1 hai
  exact hok.hd N ai (by rw[tN1,cV (by omega),tlen];simp) (by omega)) k1
 have m2:=m2 0 aF rfl
 rw[m0]at m2
 let S:Nat→St:=fun i=>if i≤N then S1 i else S2 1
 have eS:∀i,i≤N→S i=S1 i:=fun i hi=>if_pos hi
 have eS1:S (N+1)=S2 1:=if_neg (by omega)
 have hr:xX P G ext (all.take (N+1)) (N+1) S:=⟨by rw[eR];omega,fun i ai hi ha=>by
   rcases cL i N with h3|h3
   ·rw[eS i (by omega),eS (i+1) (by omega)]
    refine k2 i ai ?_;rw[tN1,cG (by omega)]at ha;exact ha
   ·obtain rfl:i=N:=by omega
    rw[eS i (aW _),eS1];rw[tN1,cV (by omega),tlen]at ha;simp at ha
    subst ha;exact m2⟩
 refine wp_region_any hm ?_;obtain⟨hs',hg⟩:=hs.drawn (w.drawn+1)
 have h0:S 0=st:=(eS 0 (bX _)).trans k0
 have hal:∀i o,i<N+1→ops[i]?=some o→∃ai,(all.take (N+1))[i]?=some ai∧pN P ops o=some ai:=fun i o hi ho=>by
  obtain⟨ai,q1,q2⟩:=hg0 i o (by simpa using ho);exact⟨ai,by rw[List.getElem?_take,if_pos hi];exact q1,q2⟩
 have fin:∀(l:List Oper) (al:List AI) (s:St) (a':Act) (w':World) (β':Bt) (R':Nat→Prop),fD P ops l=some al→(iY ext al s k).holds P G K→iB G β' R' s a' w'→Gr β R w β' R' w'→wpList P ops Q l a' w':=fun l al s a' w' β' R' q1 q2 q3 q4=>
  kW hext l al s a' w' β' R' q1 q2 q3 fun a2 w2 β2 R2 st2 p1 p2 p3=>hT st2 a2 w2 β2 R2 p1 p2 (q4.trans p3)
 have key:=aAP (β0:=β) (R0:=R) (w0:=w) hext hr hok hal hsz hw1 hF hA (Q:=Q)
  (fun a' w' β' R' q1 q2=>fin _ [aA] _ a' w' β' R' hcA m1 (by rw[eS1]at q1;exact q1) q2)
  (fun a' w' β' R' q1 q2=>fin _ _ _ a' w' β' R' hcAF kX (by rw[eS N (aW _)]at q1;exact q1) q2) (N+1) (iJ ops.size false) a { w with drawn:=w.drawn+1 } β R
  (rM (by omega)) ⟨by simp,fun j oj _ hl=>(by rw[getD_replicate_false]at hl;cases hl),fun t _ ht=>getD_in (by simpa using ht) (getD_replicate_false _ _)⟩ ?_
 ·rwa [show N+1+1=ops.size by omega]at key
 ·have hle:=hr.le (i:=0) (j:=N+1) (bX _) (aW _)
  rw[h0]at hle;refine⟨hg,?_,hs.df,?_,?_,?_,?_⟩
  ·have hb:∀i x,β i=some x→bC .gone (S (N+1)).h i=bC .gone st.h i:=fun i x hi=>hle.2.2.1 i (hs'.hs.dom i x hi)
   refine⟨fun i x hi=>Nat.lt_of_lt_of_le (hs'.hs.dom i x hi) hle.2.1,?_,?_,hs'.hs.lt,hs'.hs.rlt,?_,hs'.hs.gl,fun b ad hq=>⟨(hs'.hs.ql b ad hq).1,(hs'.hs.ql b ad hq).2.1,fun i o hi=>by rw[hb i _ hi];exact(hs'.hs.ql b ad hq).2.2 i o hi⟩⟩
   ·intro i j b o o' hi hj li lj
    rw[hb i _ hi]at li;rw[hb j _ hj]at lj;exact hs'.hs.inj i j b o o' hi hj li lj
   ·intro i b o hi li
    rw[hb i _ hi]at li;exact hs'.hs.sep i b o hi li
   ·intro i b o hi
    rw[hb i _ hi];exact hs'.hs.obj i b o hi
  ·have:=hs.tm.length;simp at this;omega
  ·intro s u hu hnd
   rw[hle.2.2.2 s fun l ai _ hl ha=>hnd l ai hl ha (getD_replicate_false _ _)]
   have hv:=bW (x:=.tmp s) hs' rfl
   have e:a.eval (.tmp s)=u:=by show a.tmps.getD s undef=u;simp[hu]
   rw[e]at hv;exact hv
  ·intro i hi _ id h1 h2
   cases hb:β id with
   |none=>rfl
   |some x=>
    have h3:=hs.hs.dom id x hb
    have:=(hr.le (i:=0) (j:=i) (bX _) (by omega)).2.1
    rw[h0]at this;omega
  ·intro s u hu _
   rw[h0]
   have hv:=bW (x:=.tmp s) hs' rfl
   have e:a.eval (.tmp s)=u:=by show a.tmps.getD s undef=u;simp[hu]
   rw[e]at hv;exact hv
theorem kM.regq{ext:Ext}(hext:bG P G ext){rid:Nat}(hm:P.follows .mixedOrders=true){all:List AI}(hall:fD P ops ops.toList=some all)(hok0:EJ ops.toList (all.take (N+1)) (N+1)=true)(hfl:FY ops.toList N=true){st:St}{K1:X→St→Prop}
  (hh:(aCG ext all N (fun s'=>.done .normal s') st).holds P G K1):kM P G (.raw (.region rid ops true)) st K1:=by
 refine kM.raw fun β R a w hs=>?_
 refine SM hext hm hall hok0 hfl hh hs ?_;intro st' a' w' β' R' hk hs' hg
 exact⟨β',R',st',hk,hs',hg.toFr,hg.rm⟩
theorem eG.rawQ{rs:List AR}{v:V}{ext:Ext}(hext:bG P G ext){rid:Nat}{all:List AI}(hm:P.follows .mixedOrders=true)(hall:fD P ops ops.toList=some all)(hok0:EJ ops.toList (all.take (N+1)) (N+1)=true)(hfl:FY ops.toList N=true){l r':List dQ}{st:St}{Q:X→St→Prop}(hl:l=.raw (.region rid ops true)::r'){tree:Tr}
  (ht:aCG ext all N (fun s'=>.done .normal s') st=tree) (h:tree.holds P G fun e s=>e=.normal∧eG P G rs v r' s Q):eG P G rs v l st Q:=by
 subst hl;subst ht;refine kM.mono (kM.regq hext hm hall hok0 hfl h) ?_;rintro e s ⟨rfl,h⟩;exact h
end
def LY(x:V)(p:Pg):Option Prop:=match xF x with
 |some (q,a)=>some (q∧a=p)
 |none=>none
theorem tJ{x:V}{p:Pg}{q:Prop}(h:LY x p=some q)(hq:q):iE x (uK p):=by
 unfold LY at h;split at h
 ·rename_i q' a hx
  injection h with h;subst h;obtain⟨h1,rfl⟩:=hq;exact mT hx h1
 ·cases h
def TY(W:List Int):kD
 |[x,.c (.p (.i .i64 k))],h=>match leI x W with
  |some p=>some (p∧k=W.length∧W.length≤1000000,.c (.sl (fG h) 1 0 W.length),fB (.row 3 1 W.length fun e o=>.p (aE aT W e o)) h)
  |none=>none
 |_,_=>none
def aE4(U:List Int):Mod
 |[x]=>match leI x U with
  |some p=>some (p∧U.length≤1000000,aU aT 1 (nA U))
  |none=>none
 |_=>none
def zR(W T:List Int)(p:Pg)(A:List Int):List Pg:=(A.filter fun t=>decide (t∈W) != decide (t∈T)).map (pU p.ru p.ve p.L p.se T)
def wO(M:List Pg)(p:Pg)(T:List Int):List Pg×List Pg:=
 match hP ⟨0,p.ru,p.ve,p.L,0,p.se,⟨#[]⟩⟩&&T.all gU with
 |true=>(M++zR (gF M p) T p (nA (gF M p++T)),zR (gF M p) T p (nA (gF M p++T)))
 |false=>(M,[])
def aC1(M out:List Pg):V:=.t [.a [.p (bO aG 7 M)],.c (.p (bO aG 7 out))]
def aEG(M:List Pg)(p:Pg)(T:List Int)(M' out:List Pg):Mod
 |[x,y,z]=>match leL x M,LY y p,leI z T with
  |some a,some b,some c=>some (((a∧b)∧c)∧(M.length+T.length≤100000∧p.L.length≤1000000)∧wO M p T=(M',out),aC1 M' out)
  |_,_,_=>none
 |_=>none
def DB(p:Pg):Mod
 |[x,.c (.p (.i .i64 i))]=>match CM x with
  |some (q,A)=>some (q∧(∀t∈A,eW .i64 t)∧rI i∧mP A i=p,.a [.p (.i .i64 p.kd),.p (.s p.ru),.p (.i .i64 p.ve),.p (bO aN 2 p.L),.p (.i .i64 p.st),.p (.i .i64 p.se),.p (.s p.to)])
  |none=>none
 |_=>none
def AP(T:List Int):Mod
 |[x,.c (.p (.i .i64 a))]=>match CM x with
  |some (p,A)=>some (p∧(∀t∈A,eW .i64 t)∧rI a∧oV A a=T,aU aT 1 T)
  |none=>none
 |_=>none
def LS(M:List Pg)(p:Pg)(M':List Pg)(e:Int):Mod
 |[x,y]=>match leL x M,LY y p with
  |some a,some b=>some ((a∧b)∧(M.length≤1000000∧p.L.length≤1000000)∧sI M p=(M',e),.t [.a [.p (bO aG 7 M')],.c (.p (.i .i64 e))])
  |_,_=>none
 |_=>none
noncomputable def aLD(W T:List Int):Ext:=mH [(53,TY W),(52,aOD (aE4 (W++T)))]
def aLJ:Ext:=kH [(50,LR)]
def aLH:Ext:=kH [(51,BU)]
def aLI(M:List Pg):Ext:=kH [(28,LQ M)]
def aLE:Ext:=kH [(18,aNW)]
def aLX(M:List Pg):Ext:=kH [(54,XD M)]
def aL7(p:Pg):Ext:=kH [(13,DB p),(21,OO)]
def aLA(M:List Pg)(p:Pg)(T:List Int)(M' out:List Pg):Ext:=kH [(15,AP T),(22,aEG M p T M' out)]
def aL9(M:List Pg)(p:Pg)(M':List Pg)(e:Int):Ext:=kH [(24,LS M p M' e)]
theorem tI(A:List Int)(k:Int):dF fH (dL 3 (dC aB Try.f53)) (oB Try.f53 [aU aT 1 A,iV k]) (gW (fJ 14 [4]) [])=Tr.rq (0≤(↑0:Int)∧((↑0:Int)≤if k<(↑A.length:Int) then k else (↑A.length:Int))∧(if k<(↑A.length:Int) then k else (↑A.length:Int))≤(↑A.length:Int))
 (.rq
 ((0+((if k<(↑A.length:Int) then k else (↑A.length:Int)).toNat-0))*8≤140737488355328 ∧
 0+((if k<(↑A.length:Int) then k else (↑A.length:Int)).toNat-0)≤140737488355328 ∧
 ∀(e o:Nat),e<(if k<(↑A.length:Int) then k else (↑A.length:Int)).toNat-0→o<1→iQ (C.p (aE aT A (e+0) o))=true)
 (.done .normal
 (bY 14 [(4,.c (.sl 0 1 0 (0+((if k<(↑A.length:Int) then k else (↑A.length:Int)).toNat-(↑0:Int).toNat))))] [.row 3 1 (0+((if k<(↑A.length:Int) then k else (↑A.length:Int)).toNat-(↑0:Int).toNat)) fun e o=>bQ [0] (fI 0 (fun x x_1=>C.top) (fun e o=>C.p (PV.i aC (A.getD (e+(↑0:Int).toNat) default))) e o)]))):=by kernel_rfl
theorem aTV(M:List Pg)(p:Pg)(T:List Int):dF aLJ (dL 3 (dC aB iC)) (oB iC [.a [.p (bO aG 7 M)],.a [.p (.i .i64 p.kd),.p (.s p.ru),.p (.i .i64 p.ve),.p (bO aN 2 p.L),.p (.i .i64 p.st),.p (.i .i64 p.se),.p (.s p.to)],aU aT 1 T]) (gW (fJ 111 [2,3,4,6,7,8,9]) (bK aB iC))=Tr.rq (kI aN 2 (bS cS p.L.length (aE aN p.L)) p.L.length (aE aN p.L))
 (.done .normal
 (bY 111 [(2,.c (.p (.l 1 T.length (aE aT T)))),(3,.c (.ptr 0 0)),(4,.c (.ptr 1 0)),(6,.c (.ptr 2 0)),(7,.c (.p (.z (bB none 0 0)))),(8,.c (.p (.b (hP (Pg.mk 0 p.ru p.ve (bS cS p.L.length (aE aN p.L)) 0 p.se (aH #[])))))),(9,.c (.p (.i .i64 0)))] [.cells 27 [.p (.l 7 M.length (aE aG M))],.cells 31 [.p (.i .i64 p.kd),.p (.s p.ru),.p (.i .i64 p.ve),.p (.l 2 p.L.length (aE aN p.L)),.p (.i .i64 p.st),.p (.i .i64 p.se),.p (.s p.to)],.cells 27 [.p (.z (bB none 0 0))]])):=by kernel_rfl
theorem aTU(M:List Pg)(p:Pg)(T:List Int)(g:Bool)(i:Nat):dF aLH (gQ (dC aB iC) 3) (bY 111 [(2,aU aT 1 T),(3,.c (.ptr 0 0)),(4,.c (.ptr 1 0)),(6,.c (.ptr 2 0)),(7,.c (.p (.z (.slice none 0 0)))),(8,bV g),(9,iV (i:Nat))] [.cells 27 [.p (bO aG 7 M)],.cells 31 [.p (.i .i64 p.kd),.p (.s p.ru),.p (.i .i64 p.ve),.p (bO aN 2 p.L),.p (.i .i64 p.st),.p (.i .i64 p.se),.p (.s p.to)],.cells 27 [.p (.z (.slice none 0 0))]]) (gW (fJ 111 [2,3,4,6,7,8,9]) (bK aB iC))=bT (decide ((↑i:Int)<(↑T.length:Int)))
 (.rq (0≤(↑i:Int)∧(↑i:Int)<(↑T.length:Int))
 (.rq True
 (bT g
 (.rq (eW aC ((↑i:Int)+1))
 (.done .normal
 (bY 111 [(2,.c (.p (.l 1 T.length (aE aT T)))),(3,.c (.ptr 0 0)),(4,.c (.ptr 1 0)),(6,.c (.ptr 2 0)),(7,.c (.p (.z (bB none 0 0)))),(8,.c (.p (.b (gU (T.getD (↑i:Int).toNat default))))),(9,.c (.p (.i .i64 ((↑i:Int)+1))))] [.cells 27 [.p (.l 7 M.length (aE aG M))],.cells 31 [.p (.i .i64 p.kd),.p (.s p.ru),.p (.i .i64 p.ve),.p (.l 2 p.L.length (aE aN p.L)),.p (.i .i64 p.st),.p (.i .i64 p.se),.p (.s p.to)],.cells 27 [.p (.z (bB none 0 0))]])))
 (.rq (eW aC ((↑i:Int)+1))
 (.done .normal
 (bY 111 [(2,.c (.p (.l 1 T.length (aE aT T)))),(3,.c (.ptr 0 0)),(4,.c (.ptr 1 0)),(6,.c (.ptr 2 0)),(7,.c (.p (.z (bB none 0 0)))),(8,.c (.p (.b false))),(9,.c (.p (.i .i64 ((↑i:Int)+1))))] [.cells 27 [.p (.l 7 M.length (aE aG M))],.cells 31 [.p (.i .i64 p.kd),.p (.s p.ru),.p (.i .i64 p.ve),.p (.l 2 p.L.length (aE aN p.L)),.p (.i .i64 p.st),.p (.i .i64 p.se),.p (.s p.to)],.cells 27 [.p (.z (bB none 0 0))]]))))))
 (.done (.exit 0)
 (bY 111 [(2,.c (.p (.l 1 T.length (aE aT T)))),(3,.c (.ptr 0 0)),(4,.c (.ptr 1 0)),(6,.c (.ptr 2 0)),(7,.c (.p (.z (bB none 0 0)))),(8,.c (.p (.b g))),(9,.c (.p (.i .i64 (↑i:Int))))] [.cells 27 [.p (.l 7 M.length (aE aG M))],.cells 31 [.p (.i .i64 p.kd),.p (.s p.ru),.p (.i .i64 p.ve),.p (.l 2 p.L.length (aE aN p.L)),.p (.i .i64 p.st),.p (.i .i64 p.se),.p (.s p.to)],.cells 27 [.p (.z (bB none 0 0))]])):=by kernel_rfl
theorem aTT(M:List Pg)(p:Pg)(T:List Int)(g:Bool):dF fH (dL 2 (bL 4 (dC aB iC))) (bY 111 [(2,aU aT 1 T),(3,.c (.ptr 0 0)),(4,.c (.ptr 1 0)),(6,.c (.ptr 2 0)),(7,.c (.p (.z (.slice none 0 0)))),(8,bV g)] [.cells 27 [.p (bO aG 7 M)],.cells 31 [.p (.i .i64 p.kd),.p (.s p.ru),.p (.i .i64 p.ve),.p (bO aN 2 p.L),.p (.i .i64 p.st),.p (.i .i64 p.se),.p (.s p.to)],.cells 27 [.p (.z (.slice none 0 0))]]) (gW (fJ 111 [2,3,4,6]) (bK aB iC))=bT (!g) (.done .ret (St.mk [V.t [V1.a [C.p (PV.l 7 M.length (aE aG M))],V1.c (C.p (PV.z (bB none 0 0)))]] []))
 (.done .normal
 (bY 111 [(2,.c (.p (.l 1 T.length (aE aT T)))),(3,.c (.ptr 0 0)),(4,.c (.ptr 1 0)),(6,.c (.ptr 2 0))] [.cells 27 [.p (.l 7 M.length (aE aG M))],.cells 31 [.p (.i .i64 p.kd),.p (.s p.ru),.p (.i .i64 p.ve),.p (.l 2 p.L.length (aE aN p.L)),.p (.i .i64 p.st),.p (.i .i64 p.se),.p (.s p.to)],.cells 27 [.p (.z (bB none 0 0))]])):=by kernel_rfl
theorem aTS(M:List Pg)(p:Pg)(T:List Int):dF (aLI M) (dL 1 (bL 2 (bL 4 (dC aB iC)))) (bY 111 [(2,aU aT 1 T),(3,.c (.ptr 0 0)),(4,.c (.ptr 1 0)),(6,.c (.ptr 2 0))] [.cells 27 [.p (bO aG 7 M)],.cells 31 [.p (.i .i64 p.kd),.p (.s p.ru),.p (.i .i64 p.ve),.p (bO aN 2 p.L),.p (.i .i64 p.st),.p (.i .i64 p.se),.p (.s p.to)],.cells 27 [.p (.z (.slice none 0 0))]]) (gW (fJ 111 [2,3,4,6,11]) (bK aB iC))=Tr.rq
 (((M.length=M.length∧∀(e o:Nat),e<M.length→o<7→lY (aE aG M e o) (aE aG M e o))∧kI aN 2 (bS cS p.L.length (aE aN p.L)) p.L.length (aE aN p.L)) ∧
 M.length≤1000000∧(Pg.mk p.kd p.ru p.ve (bS cS p.L.length (aE aN p.L)) p.st p.se p.to).L.length≤1000000)
 (.done .normal
 (bY 111 [(2,.c (.p (.l 1 T.length (aE aT T)))),(3,.c (.ptr 0 0)),(4,.c (.ptr 1 0)),(6,.c (.ptr 2 0)),(11,.c (.p (.l 1 (gF M (Pg.mk p.kd p.ru p.ve (bS cS p.L.length (aE aN p.L)) p.st p.se p.to)).length (aE aT (gF M (Pg.mk p.kd p.ru p.ve (bS cS p.L.length (aE aN p.L)) p.st p.se p.to))))))] [.cells 27 [.p (.l 7 M.length (aE aG M))],.cells 31 [.p (.i .i64 p.kd),.p (.s p.ru),.p (.i .i64 p.ve),.p (.l 2 p.L.length (aE aN p.L)),.p (.i .i64 p.st),.p (.i .i64 p.se),.p (.s p.to)],.cells 27 [.p (.z (bB none 0 0))]])):=by kernel_rfl
theorem aTR(M:List Pg)(p:Pg)(W T:List Int):dF (aLD W T) (dL 3 (bL 1 (bL 2 (bL 4 (dC aB iC))))) (bY 111 [(2,aU aT 1 T),(3,.c (.ptr 0 0)),(4,.c (.ptr 1 0)),(6,.c (.ptr 2 0)),(11,aU aT 1 W)] [.cells 27 [.p (bO aG 7 M)],.cells 31 [.p (.i .i64 p.kd),.p (.s p.ru),.p (.i .i64 p.ve),.p (bO aN 2 p.L),.p (.i .i64 p.st),.p (.i .i64 p.se),.p (.s p.to)],.cells 27 [.p (.z (.slice none 0 0))]]) (gW (fJ 111 [2,3,4,6,11,12,13,14]) (bK aB iC))=Tr.rq (kI aT 1 W W.length (aE aT W)∧(↑W.length:Int)=(↑W.length:Int)∧W.length≤1000000)
 (.rq (W.length=W.length)
 (.rq ((W.length+T.length)*8≤140737488355328∧W.length+T.length≤140737488355328∧∀(e o:Nat),e<T.length→o<1→iQ (C.p (aE aT T e o))=true)
 (.rq
 ((GJ 4 1 (W.length+T.length) [V.c (C.sl 4 1 0 (W.length+T.length))] ∧
 ∀(e o:Nat),
 e<W.length+T.length→o<1→BZ (fI W.length (fun e o=>C.p (PV.i aC (W.getD e default))) (fun e o=>C.p (PV.i aC (T.getD e default))) e o)=true) ∧
 (kI aT 1 (W++T) (W.length+T.length) fun e o=>mZ (fI W.length (fun e o=>C.p (aE aT W e o)) (fun e o=>C.p (aE aT T e o)) (e+0) o))∧(W++T).length≤1000000)
 (.done .normal
 (bY 111 [(2,.c (.p (.l 1 T.length (aE aT T)))),(3,.c (.ptr 0 0)),(4,.c (.ptr 1 0)),(6,.c (.ptr 2 0)),(11,.c (.p (.l 1 W.length (aE aT W)))),(12,.c (.p (.l 1 (nA (W++T)).length (aE aT (nA (W++T)))))),(13,.c (.p (.z (bB none 0 0)))),(14,.c (.p (.i .i64 0)))] [.cells 27 [.p (.l 7 M.length (aE aG M))],.cells 31 [.p (.i .i64 p.kd),.p (.s p.ru),.p (.i .i64 p.ve),.p (.l 2 p.L.length (aE aN p.L)),.p (.i .i64 p.st),.p (.i .i64 p.se),.p (.s p.to)],.cells 27 [.p (.z (bB none 0 0))]]))))):=by kernel_rfl
theorem aTQ(M out:List Pg)(p:Pg)(W T A:List Int)(k i:Nat):dF fH (dL 2 (gQ (dC aB iC) 10)) (bY 111 [(2,aU aT 1 T),(3,.c (.ptr 0 0)),(4,.c (.ptr 1 0)),(6,.c (.ptr 2 0)),(11,aU aT 1 W),(12,aU aT 1 A),(13,.c (.sl 3 7 0 k)),(14,iV (i:Nat))] [.cells 27 [.p (bO aG 7 M)],.cells 31 [.p (.i .i64 p.kd),.p (.s p.ru),.p (.i .i64 p.ve),.p (bO aN 2 p.L),.p (.i .i64 p.st),.p (.i .i64 p.se),.p (.s p.to)],.cells 27 [.p (.z (.slice none 0 0))],.row 31 7 k (aO aG out)]) (gW (fJ 111 [2,3,4,6,11,12,13,14]) (bK aB iC))=bT (decide ((↑i:Int)<(↑A.length:Int)))
 (.done .normal
 (bY 111 [(2,.c (.p (.l 1 T.length (aE aT T)))),(3,.c (.ptr 0 0)),(4,.c (.ptr 1 0)),(6,.c (.ptr 2 0)),(11,.c (.p (.l 1 W.length (aE aT W)))),(12,.c (.p (.l 1 A.length (aE aT A)))),(13,.c (.sl 3 7 0 k)),(14,.c (.p (.i .i64 (↑i:Int))))] [.cells 27 [.p (.l 7 M.length (aE aG M))],.cells 31 [.p (.i .i64 p.kd),.p (.s p.ru),.p (.i .i64 p.ve),.p (.l 2 p.L.length (aE aN p.L)),.p (.i .i64 p.st),.p (.i .i64 p.se),.p (.s p.to)],.cells 27 [.p (.z (bB none 0 0))],.row 31 7 k fun e o=>bQ [0,1,2,3] (aO aG out e o)]))
 (.done (.exit 2)
 (bY 111 [(2,.c (.p (.l 1 T.length (aE aT T)))),(3,.c (.ptr 0 0)),(4,.c (.ptr 1 0)),(6,.c (.ptr 2 0)),(11,.c (.p (.l 1 W.length (aE aT W)))),(12,.c (.p (.l 1 A.length (aE aT A)))),(13,.c (.sl 3 7 0 k)),(14,.c (.p (.i .i64 (↑i:Int))))] [.cells 27 [.p (.l 7 M.length (aE aG M))],.cells 31 [.p (.i .i64 p.kd),.p (.s p.ru),.p (.i .i64 p.ve),.p (.l 2 p.L.length (aE aN p.L)),.p (.i .i64 p.st),.p (.i .i64 p.se),.p (.s p.to)],.cells 27 [.p (.z (bB none 0 0))],.row 31 7 k fun e o=>bQ [0,1,2,3] (aO aG out e o)])):=by kernel_rfl
theorem aTP(M out:List Pg)(p:Pg)(W T A:List Int)(k i:Nat):dF aLE (dL 3 (eZ (inr (bC .skip (gQ (dC aB iC) 10) 2)))) (bY 111 [(2,aU aT 1 T),(3,.c (.ptr 0 0)),(4,.c (.ptr 1 0)),(6,.c (.ptr 2 0)),(11,aU aT 1 W),(12,aU aT 1 A),(13,.c (.sl 3 7 0 k)),(14,iV (i:Nat))] [.cells 27 [.p (bO aG 7 M)],.cells 31 [.p (.i .i64 p.kd),.p (.s p.ru),.p (.i .i64 p.ve),.p (bO aN 2 p.L),.p (.i .i64 p.st),.p (.i .i64 p.se),.p (.s p.to)],.cells 27 [.p (.z (.slice none 0 0))],.row 31 7 k (aO aG out)]) (gW (fJ 111 [2,3,4,6,11,12,13,14,15,16,17]) (bK aB iC))=Tr.rq (0≤(↑i:Int)∧(↑i:Int)<(↑A.length:Int))
 (.rq (0≤(↑i:Int)∧(↑i:Int)<(↑A.length:Int))
 (.rq (kI aT 1 (bS gH W.length (aE aT W)) W.length (aE aT W)∧(bS gH W.length (aE aT W)).length≤1000000)
 (.rq (0≤(↑i:Int)∧(↑i:Int)<(↑A.length:Int))
 (.rq (kI aT 1 (bS gH T.length (aE aT T)) T.length (aE aT T)∧(bS gH T.length (aE aT T)).length≤1000000)
 (.done .normal
 (bY 111 [(2,.c (.p (.l 1 T.length (aE aT T)))),(3,.c (.ptr 0 0)),(4,.c (.ptr 1 0)),(6,.c (.ptr 2 0)),(11,.c (.p (.l 1 W.length (aE aT W)))),(12,.c (.p (.l 1 A.length (aE aT A)))),(13,.c (.sl 3 7 0 k)),(14,.c (.p (.i .i64 (↑i:Int)))),(15,.c (.ptr 4 0)),(16,.c (.p (.b (decide (A.getD (↑i:Int).toNat default∈bS gH W.length (aE aT W)))))),(17,.c (.p (.b (decide (A.getD (↑i:Int).toNat default∈bS gH T.length (aE aT T))))))] [.cells 27 [.p (.l 7 M.length (aE aG M))],.cells 31 [.p (.i .i64 p.kd),.p (.s p.ru),.p (.i .i64 p.ve),.p (.l 2 p.L.length (aE aN p.L)),.p (.i .i64 p.st),.p (.i .i64 p.se),.p (.s p.to)],.cells 27 [.p (.z (bB none 0 0))],.row 31 7 k fun e o=>bQ [0,1,2,3,4] (aO aG out e o),.cells 31 [.p (.i .i64 0),.p (.s p.ru),.p (.i .i64 p.ve),.p (.l 2 p.L.length (aE aN p.L)),.p (.i .i64 (A.getD (↑i:Int).toNat default)),.p (.i .i64 p.se),.p (.s (aH #[]))]])))))):=by kernel_rfl
theorem aTO(M out:List Pg)(p:Pg)(W T A:List Int)(k i:Nat)(t:Int)(x y:Bool):dF (aLX M) (bL 3 (eZ (inr (bC .skip (gQ (dC aB iC) 10) 2)))) (bY 111 [(2,aU aT 1 T),(3,.c (.ptr 0 0)),(4,.c (.ptr 1 0)),(6,.c (.ptr 2 0)),(11,aU aT 1 W),(12,aU aT 1 A),(13,.c (.sl 3 7 0 k)),(14,iV (i:Nat)),(15,.c (.ptr 4 0)),(16,bV x),(17,bV y)] [.cells 27 [.p (bO aG 7 M)],.cells 31 [.p (.i .i64 p.kd),.p (.s p.ru),.p (.i .i64 p.ve),.p (bO aN 2 p.L),.p (.i .i64 p.st),.p (.i .i64 p.se),.p (.s p.to)],.cells 27 [.p (.z (.slice none 0 0))],.row 31 7 k (aO aG out),.cells 31 [.p (.i .i64 0),.p (.s p.ru),.p (.i .i64 p.ve),.p (bO aN 2 p.L),.p (.i .i64 t),.p (.i .i64 p.se),.p (.s ⟨#[]⟩)]]) (gW (fJ 111 [2,3,4,6,11,12,13,14]) (bK aB iC))=bT x
 (bT (!y)
 (bT y
 (bT (!x)
 (bT (!x==y)
 (.rq (k=k)
 (.rq (1≤1)
 (.rq
 ((k+1)*88≤140737488355328 ∧
 k+1≤140737488355328 ∧
 ∀(e o:Nat),
 e<1 →
 o<7 →
 iQ
 (mI
 [C.p (PV.i aC 2),C.p (PV.s p.ru),C.p (PV.i aC p.ve),C.p (PV.l 2 p.L.length (aE aN p.L)),C.p (PV.i aC t),C.p (PV.i aC p.se),
 C.p (PV.s (aH #[]))]
 7 1 (e+0) o) =
 true)
 (.rq
 (((M.length=M.length∧∀(e o:Nat),e<M.length→o<7→lY (aE aG M e o) (aE aG M e o)) ∧
 kI aN 2 (bS cS p.L.length (aE aN p.L)) p.L.length (aE aN p.L)) ∧
 M.length≤1000000)
 (.done .normal
 (bY 111 [(2,.c (.p (.l 1 T.length (aE aT T)))),(3,.c (.ptr 0 0)),(4,.c (.ptr 1 0)),(6,.c (.ptr 2 0)),(11,.c (.p (.l 1 W.length (aE aT W)))),(12,.c (.p (.l 1 A.length (aE aT A)))),(13,.c (.sl 3 7 0 (k+1))),(14,.c (.p (.i .i64 (↑i:Int))))] [.cells 27 [.p (.l 7 (M++[Pg.mk 2 p.ru p.ve (bS cS p.L.length (aE aN p.L)) t p.se (aH #[])]).length (aE aG (M++[Pg.mk 2 p.ru p.ve (bS cS p.L.length (aE aN p.L)) t p.se (aH #[])])))],.cells 31 [.p (.i .i64 p.kd),.p (.s p.ru),.p (.i .i64 p.ve),.p (.l 2 p.L.length (aE aN p.L)),.p (.i .i64 p.st),.p (.i .i64 p.se),.p (.s p.to)],.cells 27 [.p (.z (bB none 0 0))],.row 31 7 (k+1) fun e o=>bQ [0,1,2,6] (fI k (aO aG out) (fun e o=>bC C.top [C.p (PV.i aC 2),C.p (PV.s p.ru),C.p (PV.i aC p.ve),C.p (PV.l 2 p.L.length (aE aN p.L)),C.p (PV.i aC t),C.p (PV.i aC p.se),C.p (PV.s (aH #[]))] ((e+0)*7+o)) e o)]))))))
 (.done .normal
 (bY 111 [(2,.c (.p (.l 1 T.length (aE aT T)))),(3,.c (.ptr 0 0)),(4,.c (.ptr 1 0)),(6,.c (.ptr 2 0)),(11,.c (.p (.l 1 W.length (aE aT W)))),(12,.c (.p (.l 1 A.length (aE aT A)))),(13,.c (.sl 3 7 0 k)),(14,.c (.p (.i .i64 (↑i:Int))))] [.cells 27 [.p (.l 7 M.length (aE aG M))],.cells 31 [.p (.i .i64 p.kd),.p (.s p.ru),.p (.i .i64 p.ve),.p (.l 2 p.L.length (aE aN p.L)),.p (.i .i64 p.st),.p (.i .i64 p.se),.p (.s p.to)],.cells 27 [.p (.z (bB none 0 0))],.row 31 7 k fun e o=>bQ [0,1,2,3] (aO aG out e o)])))
 (bT (!x==y)
 (.rq (k=k)
 (.rq (1≤1)
 (.rq
 ((k+1)*88≤140737488355328 ∧
 k+1≤140737488355328 ∧
 ∀(e o:Nat),
 e<1 →
 o<7 →
 iQ
 (mI
 [C.p (PV.i aC 1),C.p (PV.s p.ru),C.p (PV.i aC p.ve),C.p (PV.l 2 p.L.length (aE aN p.L)),C.p (PV.i aC t),C.p (PV.i aC p.se),
 C.p (PV.s (aH #[]))]
 7 1 (e+0) o) =
 true)
 (.rq
 (((M.length=M.length∧∀(e o:Nat),e<M.length→o<7→lY (aE aG M e o) (aE aG M e o)) ∧
 kI aN 2 (bS cS p.L.length (aE aN p.L)) p.L.length (aE aN p.L)) ∧
 M.length≤1000000)
 (.done .normal
 (bY 111 [(2,.c (.p (.l 1 T.length (aE aT T)))),(3,.c (.ptr 0 0)),(4,.c (.ptr 1 0)),(6,.c (.ptr 2 0)),(11,.c (.p (.l 1 W.length (aE aT W)))),(12,.c (.p (.l 1 A.length (aE aT A)))),(13,.c (.sl 3 7 0 (k+1))),(14,.c (.p (.i .i64 (↑i:Int))))] [.cells 27 [.p (.l 7 (M++[Pg.mk 1 p.ru p.ve (bS cS p.L.length (aE aN p.L)) t p.se (aH #[])]).length (aE aG (M++[Pg.mk 1 p.ru p.ve (bS cS p.L.length (aE aN p.L)) t p.se (aH #[])])))],.cells 31 [.p (.i .i64 p.kd),.p (.s p.ru),.p (.i .i64 p.ve),.p (.l 2 p.L.length (aE aN p.L)),.p (.i .i64 p.st),.p (.i .i64 p.se),.p (.s p.to)],.cells 27 [.p (.z (bB none 0 0))],.row 31 7 (k+1) fun e o=>bQ [0,1,2,6] (fI k (aO aG out) (fun e o=>bC C.top [C.p (PV.i aC 1),C.p (PV.s p.ru),C.p (PV.i aC p.ve),C.p (PV.l 2 p.L.length (aE aN p.L)),C.p (PV.i aC t),C.p (PV.i aC p.se),C.p (PV.s (aH #[]))] ((e+0)*7+o)) e o)]))))))
 (.done .normal
 (bY 111 [(2,.c (.p (.l 1 T.length (aE aT T)))),(3,.c (.ptr 0 0)),(4,.c (.ptr 1 0)),(6,.c (.ptr 2 0)),(11,.c (.p (.l 1 W.length (aE aT W)))),(12,.c (.p (.l 1 A.length (aE aT A)))),(13,.c (.sl 3 7 0 k)),(14,.c (.p (.i .i64 (↑i:Int))))] [.cells 27 [.p (.l 7 M.length (aE aG M))],.cells 31 [.p (.i .i64 p.kd),.p (.s p.ru),.p (.i .i64 p.ve),.p (.l 2 p.L.length (aE aN p.L)),.p (.i .i64 p.st),.p (.i .i64 p.se),.p (.s p.to)],.cells 27 [.p (.z (bB none 0 0))],.row 31 7 k fun e o=>bQ [0,1,2,3] (aO aG out e o)]))))
 (bT (!x==y)
 (.rq (k=k)
 (.rq (1≤1)
 (.rq
 ((k+1)*88≤140737488355328 ∧
 k+1≤140737488355328 ∧
 ∀(e o:Nat),
 e<1 →
 o<7 →
 iQ
 (mI
 [C.p (PV.i aC 1),C.p (PV.s p.ru),C.p (PV.i aC p.ve),C.p (PV.l 2 p.L.length (aE aN p.L)),C.p (PV.i aC t),C.p (PV.i aC p.se),
 C.p (PV.s (aH #[]))]
 7 1 (e+0) o) =
 true)
 (.rq
 (((M.length=M.length∧∀(e o:Nat),e<M.length→o<7→lY (aE aG M e o) (aE aG M e o)) ∧
 kI aN 2 (bS cS p.L.length (aE aN p.L)) p.L.length (aE aN p.L)) ∧
 M.length≤1000000)
 (.done .normal
 (bY 111 [(2,.c (.p (.l 1 T.length (aE aT T)))),(3,.c (.ptr 0 0)),(4,.c (.ptr 1 0)),(6,.c (.ptr 2 0)),(11,.c (.p (.l 1 W.length (aE aT W)))),(12,.c (.p (.l 1 A.length (aE aT A)))),(13,.c (.sl 3 7 0 (k+1))),(14,.c (.p (.i .i64 (↑i:Int))))] [.cells 27 [.p (.l 7 (M++[Pg.mk 1 p.ru p.ve (bS cS p.L.length (aE aN p.L)) t p.se (aH #[])]).length (aE aG (M++[Pg.mk 1 p.ru p.ve (bS cS p.L.length (aE aN p.L)) t p.se (aH #[])])))],.cells 31 [.p (.i .i64 p.kd),.p (.s p.ru),.p (.i .i64 p.ve),.p (.l 2 p.L.length (aE aN p.L)),.p (.i .i64 p.st),.p (.i .i64 p.se),.p (.s p.to)],.cells 27 [.p (.z (bB none 0 0))],.row 31 7 (k+1) fun e o=>bQ [0,1,2,6] (fI k (aO aG out) (fun e o=>bC C.top [C.p (PV.i aC 1),C.p (PV.s p.ru),C.p (PV.i aC p.ve),C.p (PV.l 2 p.L.length (aE aN p.L)),C.p (PV.i aC t),C.p (PV.i aC p.se),C.p (PV.s (aH #[]))] ((e+0)*7+o)) e o)]))))))
 (.done .normal
 (bY 111 [(2,.c (.p (.l 1 T.length (aE aT T)))),(3,.c (.ptr 0 0)),(4,.c (.ptr 1 0)),(6,.c (.ptr 2 0)),(11,.c (.p (.l 1 W.length (aE aT W)))),(12,.c (.p (.l 1 A.length (aE aT A)))),(13,.c (.sl 3 7 0 k)),(14,.c (.p (.i .i64 (↑i:Int))))] [.cells 27 [.p (.l 7 M.length (aE aG M))],.cells 31 [.p (.i .i64 p.kd),.p (.s p.ru),.p (.i .i64 p.ve),.p (.l 2 p.L.length (aE aN p.L)),.p (.i .i64 p.st),.p (.i .i64 p.se),.p (.s p.to)],.cells 27 [.p (.z (bB none 0 0))],.row 31 7 k fun e o=>bQ [0,1,2,3] (aO aG out e o)]))))
 (bT y
 (bT (!x)
 (bT (!x==y)
 (.rq (k=k)
 (.rq (1≤1)
 (.rq
 ((k+1)*88≤140737488355328 ∧
 k+1≤140737488355328 ∧
 ∀(e o:Nat),
 e<1 →
 o<7 →
 iQ
 (mI
 [C.p (PV.i aC 2),C.p (PV.s p.ru),C.p (PV.i aC p.ve),C.p (PV.l 2 p.L.length (aE aN p.L)),C.p (PV.i aC t),C.p (PV.i aC p.se),
 C.p (PV.s (aH #[]))]
 7 1 (e+0) o) =
 true)
 (.rq
 (((M.length=M.length∧∀(e o:Nat),e<M.length→o<7→lY (aE aG M e o) (aE aG M e o)) ∧
 kI aN 2 (bS cS p.L.length (aE aN p.L)) p.L.length (aE aN p.L)) ∧
 M.length≤1000000)
 (.done .normal
 (bY 111 [(2,.c (.p (.l 1 T.length (aE aT T)))),(3,.c (.ptr 0 0)),(4,.c (.ptr 1 0)),(6,.c (.ptr 2 0)),(11,.c (.p (.l 1 W.length (aE aT W)))),(12,.c (.p (.l 1 A.length (aE aT A)))),(13,.c (.sl 3 7 0 (k+1))),(14,.c (.p (.i .i64 (↑i:Int))))] [.cells 27 [.p (.l 7 (M++[Pg.mk 2 p.ru p.ve (bS cS p.L.length (aE aN p.L)) t p.se (aH #[])]).length (aE aG (M++[Pg.mk 2 p.ru p.ve (bS cS p.L.length (aE aN p.L)) t p.se (aH #[])])))],.cells 31 [.p (.i .i64 p.kd),.p (.s p.ru),.p (.i .i64 p.ve),.p (.l 2 p.L.length (aE aN p.L)),.p (.i .i64 p.st),.p (.i .i64 p.se),.p (.s p.to)],.cells 27 [.p (.z (bB none 0 0))],.row 31 7 (k+1) fun e o=>bQ [0,1,2,6] (fI k (aO aG out) (fun e o=>bC C.top [C.p (PV.i aC 2),C.p (PV.s p.ru),C.p (PV.i aC p.ve),C.p (PV.l 2 p.L.length (aE aN p.L)),C.p (PV.i aC t),C.p (PV.i aC p.se),C.p (PV.s (aH #[]))] ((e+0)*7+o)) e o)]))))))
 (.done .normal
 (bY 111 [(2,.c (.p (.l 1 T.length (aE aT T)))),(3,.c (.ptr 0 0)),(4,.c (.ptr 1 0)),(6,.c (.ptr 2 0)),(11,.c (.p (.l 1 W.length (aE aT W)))),(12,.c (.p (.l 1 A.length (aE aT A)))),(13,.c (.sl 3 7 0 k)),(14,.c (.p (.i .i64 (↑i:Int))))] [.cells 27 [.p (.l 7 M.length (aE aG M))],.cells 31 [.p (.i .i64 p.kd),.p (.s p.ru),.p (.i .i64 p.ve),.p (.l 2 p.L.length (aE aN p.L)),.p (.i .i64 p.st),.p (.i .i64 p.se),.p (.s p.to)],.cells 27 [.p (.z (bB none 0 0))],.row 31 7 k fun e o=>bQ [0,1,2,3] (aO aG out e o)])))
 (bT (!x==y)
 (.rq (k=k)
 (.rq (1≤1)
 (.rq
 ((k+1)*88≤140737488355328 ∧
 k+1≤140737488355328 ∧
 ∀(e o:Nat),
 e<1 →
 o<7 →
 iQ
 (mI
 [C.p (PV.i aC 0),C.p (PV.s p.ru),C.p (PV.i aC p.ve),C.p (PV.l 2 p.L.length (aE aN p.L)),C.p (PV.i aC t),C.p (PV.i aC p.se),
 C.p (PV.s (aH #[]))]
 7 1 (e+0) o) =
 true)
 (.rq
 (((M.length=M.length∧∀(e o:Nat),e<M.length→o<7→lY (aE aG M e o) (aE aG M e o)) ∧
 kI aN 2 (bS cS p.L.length (aE aN p.L)) p.L.length (aE aN p.L)) ∧
 M.length≤1000000)
 (.done .normal
 (bY 111 [(2,.c (.p (.l 1 T.length (aE aT T)))),(3,.c (.ptr 0 0)),(4,.c (.ptr 1 0)),(6,.c (.ptr 2 0)),(11,.c (.p (.l 1 W.length (aE aT W)))),(12,.c (.p (.l 1 A.length (aE aT A)))),(13,.c (.sl 3 7 0 (k+1))),(14,.c (.p (.i .i64 (↑i:Int))))] [.cells 27 [.p (.l 7 (M++[Pg.mk 0 p.ru p.ve (bS cS p.L.length (aE aN p.L)) t p.se (aH #[])]).length (aE aG (M++[Pg.mk 0 p.ru p.ve (bS cS p.L.length (aE aN p.L)) t p.se (aH #[])])))],.cells 31 [.p (.i .i64 p.kd),.p (.s p.ru),.p (.i .i64 p.ve),.p (.l 2 p.L.length (aE aN p.L)),.p (.i .i64 p.st),.p (.i .i64 p.se),.p (.s p.to)],.cells 27 [.p (.z (bB none 0 0))],.row 31 7 (k+1) fun e o=>bQ [0,1,2,6] (fI k (aO aG out) (fun e o=>bC C.top [C.p (PV.i aC 0),C.p (PV.s p.ru),C.p (PV.i aC p.ve),C.p (PV.l 2 p.L.length (aE aN p.L)),C.p (PV.i aC t),C.p (PV.i aC p.se),C.p (PV.s (aH #[]))] ((e+0)*7+o)) e o)]))))))
 (.done .normal
 (bY 111 [(2,.c (.p (.l 1 T.length (aE aT T)))),(3,.c (.ptr 0 0)),(4,.c (.ptr 1 0)),(6,.c (.ptr 2 0)),(11,.c (.p (.l 1 W.length (aE aT W)))),(12,.c (.p (.l 1 A.length (aE aT A)))),(13,.c (.sl 3 7 0 k)),(14,.c (.p (.i .i64 (↑i:Int))))] [.cells 27 [.p (.l 7 M.length (aE aG M))],.cells 31 [.p (.i .i64 p.kd),.p (.s p.ru),.p (.i .i64 p.ve),.p (.l 2 p.L.length (aE aN p.L)),.p (.i .i64 p.st),.p (.i .i64 p.se),.p (.s p.to)],.cells 27 [.p (.z (bB none 0 0))],.row 31 7 k fun e o=>bQ [0,1,2,3] (aO aG out e o)]))))
 (bT (!x==y)
 (.rq (k=k)
 (.rq (1≤1)
 (.rq
 ((k+1)*88≤140737488355328 ∧
 k+1≤140737488355328 ∧
 ∀(e o:Nat),
 e<1 →
 o<7 →
 iQ
 (mI
 [C.p (PV.i aC 0),C.p (PV.s p.ru),C.p (PV.i aC p.ve),C.p (PV.l 2 p.L.length (aE aN p.L)),C.p (PV.i aC t),C.p (PV.i aC p.se),
 C.p (PV.s (aH #[]))]
 7 1 (e+0) o) =
 true)
 (.rq
 (((M.length=M.length∧∀(e o:Nat),e<M.length→o<7→lY (aE aG M e o) (aE aG M e o)) ∧
 kI aN 2 (bS cS p.L.length (aE aN p.L)) p.L.length (aE aN p.L)) ∧
 M.length≤1000000)
 (.done .normal
 (bY 111 [(2,.c (.p (.l 1 T.length (aE aT T)))),(3,.c (.ptr 0 0)),(4,.c (.ptr 1 0)),(6,.c (.ptr 2 0)),(11,.c (.p (.l 1 W.length (aE aT W)))),(12,.c (.p (.l 1 A.length (aE aT A)))),(13,.c (.sl 3 7 0 (k+1))),(14,.c (.p (.i .i64 (↑i:Int))))] [.cells 27 [.p (.l 7 (M++[Pg.mk 0 p.ru p.ve (bS cS p.L.length (aE aN p.L)) t p.se (aH #[])]).length (aE aG (M++[Pg.mk 0 p.ru p.ve (bS cS p.L.length (aE aN p.L)) t p.se (aH #[])])))],.cells 31 [.p (.i .i64 p.kd),.p (.s p.ru),.p (.i .i64 p.ve),.p (.l 2 p.L.length (aE aN p.L)),.p (.i .i64 p.st),.p (.i .i64 p.se),.p (.s p.to)],.cells 27 [.p (.z (bB none 0 0))],.row 31 7 (k+1) fun e o=>bQ [0,1,2,6] (fI k (aO aG out) (fun e o=>bC C.top [C.p (PV.i aC 0),C.p (PV.s p.ru),C.p (PV.i aC p.ve),C.p (PV.l 2 p.L.length (aE aN p.L)),C.p (PV.i aC t),C.p (PV.i aC p.se),C.p (PV.s (aH #[]))] ((e+0)*7+o)) e o)]))))))
 (.done .normal
 (bY 111 [(2,.c (.p (.l 1 T.length (aE aT T)))),(3,.c (.ptr 0 0)),(4,.c (.ptr 1 0)),(6,.c (.ptr 2 0)),(11,.c (.p (.l 1 W.length (aE aT W)))),(12,.c (.p (.l 1 A.length (aE aT A)))),(13,.c (.sl 3 7 0 k)),(14,.c (.p (.i .i64 (↑i:Int))))] [.cells 27 [.p (.l 7 M.length (aE aG M))],.cells 31 [.p (.i .i64 p.kd),.p (.s p.ru),.p (.i .i64 p.ve),.p (.l 2 p.L.length (aE aN p.L)),.p (.i .i64 p.st),.p (.i .i64 p.se),.p (.s p.to)],.cells 27 [.p (.z (bB none 0 0))],.row 31 7 k fun e o=>bQ [0,1,2,3] (aO aG out e o)])))))
 (bT y
 (bT (!x)
 (bT (!x==y)
 (.rq (k=k)
 (.rq (1≤1)
 (.rq
 ((k+1)*88≤140737488355328 ∧
 k+1≤140737488355328 ∧
 ∀(e o:Nat),
 e<1 →
 o<7 →
 iQ
 (mI
 [C.p (PV.i aC 2),C.p (PV.s p.ru),C.p (PV.i aC p.ve),C.p (PV.l 2 p.L.length (aE aN p.L)),C.p (PV.i aC t),C.p (PV.i aC p.se),
 C.p (PV.s (aH #[]))]
 7 1 (e+0) o) =
 true)
 (.rq
 (((M.length=M.length∧∀(e o:Nat),e<M.length→o<7→lY (aE aG M e o) (aE aG M e o)) ∧
 kI aN 2 (bS cS p.L.length (aE aN p.L)) p.L.length (aE aN p.L)) ∧
 M.length≤1000000)
 (.done .normal
 (bY 111 [(2,.c (.p (.l 1 T.length (aE aT T)))),(3,.c (.ptr 0 0)),(4,.c (.ptr 1 0)),(6,.c (.ptr 2 0)),(11,.c (.p (.l 1 W.length (aE aT W)))),(12,.c (.p (.l 1 A.length (aE aT A)))),(13,.c (.sl 3 7 0 (k+1))),(14,.c (.p (.i .i64 (↑i:Int))))] [.cells 27 [.p (.l 7 (M++[Pg.mk 2 p.ru p.ve (bS cS p.L.length (aE aN p.L)) t p.se (aH #[])]).length (aE aG (M++[Pg.mk 2 p.ru p.ve (bS cS p.L.length (aE aN p.L)) t p.se (aH #[])])))],.cells 31 [.p (.i .i64 p.kd),.p (.s p.ru),.p (.i .i64 p.ve),.p (.l 2 p.L.length (aE aN p.L)),.p (.i .i64 p.st),.p (.i .i64 p.se),.p (.s p.to)],.cells 27 [.p (.z (bB none 0 0))],.row 31 7 (k+1) fun e o=>bQ [0,1,2,6] (fI k (aO aG out) (fun e o=>bC C.top [C.p (PV.i aC 2),C.p (PV.s p.ru),C.p (PV.i aC p.ve),C.p (PV.l 2 p.L.length (aE aN p.L)),C.p (PV.i aC t),C.p (PV.i aC p.se),C.p (PV.s (aH #[]))] ((e+0)*7+o)) e o)]))))))
 (.done .normal
 (bY 111 [(2,.c (.p (.l 1 T.length (aE aT T)))),(3,.c (.ptr 0 0)),(4,.c (.ptr 1 0)),(6,.c (.ptr 2 0)),(11,.c (.p (.l 1 W.length (aE aT W)))),(12,.c (.p (.l 1 A.length (aE aT A)))),(13,.c (.sl 3 7 0 k)),(14,.c (.p (.i .i64 (↑i:Int))))] [.cells 27 [.p (.l 7 M.length (aE aG M))],.cells 31 [.p (.i .i64 p.kd),.p (.s p.ru),.p (.i .i64 p.ve),.p (.l 2 p.L.length (aE aN p.L)),.p (.i .i64 p.st),.p (.i .i64 p.se),.p (.s p.to)],.cells 27 [.p (.z (bB none 0 0))],.row 31 7 k fun e o=>bQ [0,1,2,3] (aO aG out e o)])))
 (bT (!x==y)
 (.rq (k=k)
 (.rq (1≤1)
 (.rq
 ((k+1)*88≤140737488355328 ∧
 k+1≤140737488355328 ∧
 ∀(e o:Nat),
 e<1 →
 o<7 →
 iQ
 (mI
 [C.p (PV.i aC 0),C.p (PV.s p.ru),C.p (PV.i aC p.ve),C.p (PV.l 2 p.L.length (aE aN p.L)),C.p (PV.i aC t),C.p (PV.i aC p.se),
 C.p (PV.s (aH #[]))]
 7 1 (e+0) o) =
 true)
 (.rq
 (((M.length=M.length∧∀(e o:Nat),e<M.length→o<7→lY (aE aG M e o) (aE aG M e o)) ∧
 kI aN 2 (bS cS p.L.length (aE aN p.L)) p.L.length (aE aN p.L)) ∧
 M.length≤1000000)
 (.done .normal
 (bY 111 [(2,.c (.p (.l 1 T.length (aE aT T)))),(3,.c (.ptr 0 0)),(4,.c (.ptr 1 0)),(6,.c (.ptr 2 0)),(11,.c (.p (.l 1 W.length (aE aT W)))),(12,.c (.p (.l 1 A.length (aE aT A)))),(13,.c (.sl 3 7 0 (k+1))),(14,.c (.p (.i .i64 (↑i:Int))))] [.cells 27 [.p (.l 7 (M++[Pg.mk 0 p.ru p.ve (bS cS p.L.length (aE aN p.L)) t p.se (aH #[])]).length (aE aG (M++[Pg.mk 0 p.ru p.ve (bS cS p.L.length (aE aN p.L)) t p.se (aH #[])])))],.cells 31 [.p (.i .i64 p.kd),.p (.s p.ru),.p (.i .i64 p.ve),.p (.l 2 p.L.length (aE aN p.L)),.p (.i .i64 p.st),.p (.i .i64 p.se),.p (.s p.to)],.cells 27 [.p (.z (bB none 0 0))],.row 31 7 (k+1) fun e o=>bQ [0,1,2,6] (fI k (aO aG out) (fun e o=>bC C.top [C.p (PV.i aC 0),C.p (PV.s p.ru),C.p (PV.i aC p.ve),C.p (PV.l 2 p.L.length (aE aN p.L)),C.p (PV.i aC t),C.p (PV.i aC p.se),C.p (PV.s (aH #[]))] ((e+0)*7+o)) e o)]))))))
 (.done .normal
 (bY 111 [(2,.c (.p (.l 1 T.length (aE aT T)))),(3,.c (.ptr 0 0)),(4,.c (.ptr 1 0)),(6,.c (.ptr 2 0)),(11,.c (.p (.l 1 W.length (aE aT W)))),(12,.c (.p (.l 1 A.length (aE aT A)))),(13,.c (.sl 3 7 0 k)),(14,.c (.p (.i .i64 (↑i:Int))))] [.cells 27 [.p (.l 7 M.length (aE aG M))],.cells 31 [.p (.i .i64 p.kd),.p (.s p.ru),.p (.i .i64 p.ve),.p (.l 2 p.L.length (aE aN p.L)),.p (.i .i64 p.st),.p (.i .i64 p.se),.p (.s p.to)],.cells 27 [.p (.z (bB none 0 0))],.row 31 7 k fun e o=>bQ [0,1,2,3] (aO aG out e o)]))))
 (bT (!x==y)
 (.rq (k=k)
 (.rq (1≤1)
 (.rq
 ((k+1)*88≤140737488355328 ∧
 k+1≤140737488355328 ∧
 ∀(e o:Nat),
 e<1 →
 o<7 →
 iQ
 (mI
 [C.p (PV.i aC 0),C.p (PV.s p.ru),C.p (PV.i aC p.ve),C.p (PV.l 2 p.L.length (aE aN p.L)),C.p (PV.i aC t),C.p (PV.i aC p.se),
 C.p (PV.s (aH #[]))]
 7 1 (e+0) o) =
 true)
 (.rq
 (((M.length=M.length∧∀(e o:Nat),e<M.length→o<7→lY (aE aG M e o) (aE aG M e o)) ∧
 kI aN 2 (bS cS p.L.length (aE aN p.L)) p.L.length (aE aN p.L)) ∧
 M.length≤1000000)
 (.done .normal
 (bY 111 [(2,.c (.p (.l 1 T.length (aE aT T)))),(3,.c (.ptr 0 0)),(4,.c (.ptr 1 0)),(6,.c (.ptr 2 0)),(11,.c (.p (.l 1 W.length (aE aT W)))),(12,.c (.p (.l 1 A.length (aE aT A)))),(13,.c (.sl 3 7 0 (k+1))),(14,.c (.p (.i .i64 (↑i:Int))))] [.cells 27 [.p (.l 7 (M++[Pg.mk 0 p.ru p.ve (bS cS p.L.length (aE aN p.L)) t p.se (aH #[])]).length (aE aG (M++[Pg.mk 0 p.ru p.ve (bS cS p.L.length (aE aN p.L)) t p.se (aH #[])])))],.cells 31 [.p (.i .i64 p.kd),.p (.s p.ru),.p (.i .i64 p.ve),.p (.l 2 p.L.length (aE aN p.L)),.p (.i .i64 p.st),.p (.i .i64 p.se),.p (.s p.to)],.cells 27 [.p (.z (bB none 0 0))],.row 31 7 (k+1) fun e o=>bQ [0,1,2,6] (fI k (aO aG out) (fun e o=>bC C.top [C.p (PV.i aC 0),C.p (PV.s p.ru),C.p (PV.i aC p.ve),C.p (PV.l 2 p.L.length (aE aN p.L)),C.p (PV.i aC t),C.p (PV.i aC p.se),C.p (PV.s (aH #[]))] ((e+0)*7+o)) e o)]))))))
 (.done .normal
 (bY 111 [(2,.c (.p (.l 1 T.length (aE aT T)))),(3,.c (.ptr 0 0)),(4,.c (.ptr 1 0)),(6,.c (.ptr 2 0)),(11,.c (.p (.l 1 W.length (aE aT W)))),(12,.c (.p (.l 1 A.length (aE aT A)))),(13,.c (.sl 3 7 0 k)),(14,.c (.p (.i .i64 (↑i:Int))))] [.cells 27 [.p (.l 7 M.length (aE aG M))],.cells 31 [.p (.i .i64 p.kd),.p (.s p.ru),.p (.i .i64 p.ve),.p (.l 2 p.L.length (aE aN p.L)),.p (.i .i64 p.st),.p (.i .i64 p.se),.p (.s p.to)],.cells 27 [.p (.z (bB none 0 0))],.row 31 7 k fun e o=>bQ [0,1,2,3] (aO aG out e o)])))):=by kernel_rfl
theorem aTN(M out:List Pg)(p:Pg)(W T A:List Int)(k i:Nat):dF fH (bL 3 (gQ (dC aB iC) 10)) (bY 111 [(2,aU aT 1 T),(3,.c (.ptr 0 0)),(4,.c (.ptr 1 0)),(6,.c (.ptr 2 0)),(11,aU aT 1 W),(12,aU aT 1 A),(13,.c (.sl 3 7 0 k)),(14,iV (i:Nat))] [.cells 27 [.p (bO aG 7 M)],.cells 31 [.p (.i .i64 p.kd),.p (.s p.ru),.p (.i .i64 p.ve),.p (bO aN 2 p.L),.p (.i .i64 p.st),.p (.i .i64 p.se),.p (.s p.to)],.cells 27 [.p (.z (.slice none 0 0))],.row 31 7 k (aO aG out)]) (gW (fJ 111 [2,3,4,6,11,12,13,14]) (bK aB iC))=Tr.rq (eW aC ((↑i:Int)+1))
 (.done .normal
 (bY 111 [(2,.c (.p (.l 1 T.length (aE aT T)))),(3,.c (.ptr 0 0)),(4,.c (.ptr 1 0)),(6,.c (.ptr 2 0)),(11,.c (.p (.l 1 W.length (aE aT W)))),(12,.c (.p (.l 1 A.length (aE aT A)))),(13,.c (.sl 3 7 0 k)),(14,.c (.p (.i .i64 ((↑i:Int)+1))))] [.cells 27 [.p (.l 7 M.length (aE aG M))],.cells 31 [.p (.i .i64 p.kd),.p (.s p.ru),.p (.i .i64 p.ve),.p (.l 2 p.L.length (aE aN p.L)),.p (.i .i64 p.st),.p (.i .i64 p.se),.p (.s p.to)],.cells 27 [.p (.z (bB none 0 0))],.row 31 7 k fun e o=>bQ [0,1,2,3] (aO aG out e o)])):=by kernel_rfl
theorem aQ9(M out:List Pg)(k:Nat):dF fH (bL 11 (dC aB iC)) (bY 111 [(3,.c (.ptr 0 0)),(6,.c (.ptr 1 0)),(13,.c (.sl 2 7 0 k))] [.cells 27 [.p (bO aG 7 M)],.cells 27 [.p (.z (.slice none 0 0))],.row 31 7 k (aO aG out)]) (gW [] (bK aB iC))=Tr.rq (0+k≤k∧∀(e o:Nat),e<k→o<7→BZ (aO aG out (e+0) o)=true)
 (.done .ret (St.mk [V.t [V1.a [C.p (PV.l 7 M.length (aE aG M))],V1.c (C.p (PV.l 7 k fun e o=>mZ (aO aG out (e+0) o)))]] [])):=by kernel_rfl
theorem aSU(A:List Int):dF fH (dL 3 (dC aB jH)) (oB jH [aU aT 1 A]) (gW (fJ 43 [0,2,3,4]) (bK aB jH))=Tr.done X.normal
 (bY 43 [(0,.c (.p (.l 1 A.length (aE aT A)))),(2,.c (.ptr 0 0)),(3,.c (.ptr 1 0)),(4,.c (.p (.i .i64 0)))] [.cells 27 [.p (.z (bB none 0 0))],.cells 27 [.p (.z (bB none 0 0))]]):=by kernel_rfl
theorem aST(A:List Int)(M:List Pg)(i:Nat):dF fH (dL 2 (gQ (dC aB jH) 3)) (bY 43 [(0,aU aT 1 A),(2,.c (.ptr 0 0)),(3,.c (.ptr 1 0)),(4,iV (i:Nat))] [.cells 27 [.p (.z (.slice none 0 0))],.cells 27 [.p (bO aG 7 M)]]) (gW (fJ 43 [0,2,3,4]) (bK aB jH))=Tr.rq (eW aC ((↑i:Int)+12))
 (bT (decide ((↑i:Int)+12<(↑A.length:Int)))
 (bT (decide ((↑i:Int)<104))
 (.done .normal
 (bY 43 [(0,.c (.p (.l 1 A.length (aE aT A)))),(2,.c (.ptr 0 0)),(3,.c (.ptr 1 0)),(4,.c (.p (.i .i64 (↑i:Int))))] [.cells 27 [.p (.z (bB none 0 0))],.cells 27 [.p (.l 7 M.length (aE aG M))]]))
 (.done (.exit 0)
 (bY 43 [(0,.c (.p (.l 1 A.length (aE aT A)))),(2,.c (.ptr 0 0)),(3,.c (.ptr 1 0)),(4,.c (.p (.i .i64 (↑i:Int))))] [.cells 27 [.p (.z (bB none 0 0))],.cells 27 [.p (.l 7 M.length (aE aG M))]])))
 (.done (.exit 0)
 (bY 43 [(0,.c (.p (.l 1 A.length (aE aT A)))),(2,.c (.ptr 0 0)),(3,.c (.ptr 1 0)),(4,.c (.p (.i .i64 (↑i:Int))))] [.cells 27 [.p (.z (bB none 0 0))],.cells 27 [.p (.l 7 M.length (aE aG M))]]))):=by kernel_rfl
theorem aSS(A:List Int)(M:List Pg)(p:Pg)(i:Nat):dF (aL7 p) (dL 2 (eZ (inr (bC .skip (gQ (dC aB jH) 3) 2)))) (bY 43 [(0,aU aT 1 A),(2,.c (.ptr 0 0)),(3,.c (.ptr 1 0)),(4,iV (i:Nat))] [.cells 27 [.p (.z (.slice none 0 0))],.cells 27 [.p (bO aG 7 M)]]) (gW (fJ 43 [0,2,3,4,5,25]) (bK aB jH))=Tr.rq
 (kI aT 1 (bS gH A.length (aE aT A)) A.length (aE aT A) ∧
 (∀(t:Int),t∈bS gH A.length (aE aT A)→eW aC t)∧rI (↑i:Int)∧mP (bS gH A.length (aE aT A)) (↑i:Int)=p)
 (.rq (eW aC ((↑i:Int)+6))
 (.rq (kI aT 1 (bS gH A.length (aE aT A)) A.length (aE aT A)∧(∀(t:Int),t∈bS gH A.length (aE aT A)→eW aC t)∧dR 0<dR 3)
 (.done .normal
 (bY 43 [(0,.c (.p (.l 1 A.length (aE aT A)))),(2,.c (.ptr 0 0)),(3,.c (.ptr 1 0)),(4,.c (.p (.i .i64 (↑i:Int)))),(5,.c (.ptr 2 0)),(25,.c (.p (.b (iG (bS gH A.length (aE aT A)) ((↑i:Int)+6) 3==0))))] [.cells 27 [.p (.z (bB none 0 0))],.cells 27 [.p (.l 7 M.length (aE aG M))],.cells 31 [.p (.i .i64 p.kd),.p (.s p.ru),.p (.i .i64 p.ve),.p (.l 2 p.L.length (aE aN p.L)),.p (.i .i64 p.st),.p (.i .i64 p.se),.p (.s p.to)]])))):=by kernel_rfl
noncomputable def aCZ:Array Oper:=LA (aJX (bC .skip (eZ (inr (bC .skip (gQ (dC aB jH) 3) 2))) 2))
noncomputable def aR7:List AI:=match fD aB aCZ aCZ.toList with
 |some al=>al
 |none=>[]
theorem aSR(A T:List Int)(M M' out:List Pg)(p:Pg)(i:Nat):aCG (aLA M p T M' out) aR7 9 (fun s'=>.done .normal s') (bY 43 [(0,aU aT 1 A),(2,.c (.ptr 0 0)),(3,.c (.ptr 1 0)),(4,iV (i:Nat)),(5,.c (.ptr 2 0))] [.cells 27 [.p (.z (.slice none 0 0))],.cells 27 [.p (bO aG 7 M)],.cells 31 [.p (.i .i64 p.kd),.p (.s p.ru),.p (.i .i64 p.ve),.p (bO aN 2 p.L),.p (.i .i64 p.st),.p (.i .i64 p.se),.p (.s p.to)]])=Tr.rq (eW aC ((↑i:Int)+7))
  (Tr.rq
   (kI aT 1 (bS gH A.length (aE aT A)) A.length (aE aT A) ∧
    (∀(t:Int),t∈bS gH A.length (aE aT A)→eW aC t)∧rI ((↑i:Int)+7)∧oV (bS gH A.length (aE aT A)) ((↑i:Int)+7)=T)
   (Tr.rq
    ((((M.length=M.length∧∀(e o:Nat),e<M.length→o<7→lY (aE aG M e o) (aE aG M e o)) ∧
       kI aN 2 (bS cS p.L.length (aE aN p.L)) p.L.length (aE aN p.L)∧Pg.mk p.kd p.ru p.ve (bS cS p.L.length (aE aN p.L)) p.st p.se p.to=p) ∧
        kI aT 1 T T.length (aE aT T)) ∧
      (M.length+T.length≤100000∧p.L.length≤1000000)∧wO M p T=(M',out))
    ((Tr.done X.normal
       (bY 43 [(0,V.c (C.p (PV.l 1 A.length (aE aT A)))),(2,V.c (C.ptr 0 0)),(3,V.c (C.ptr 1 0)),(4,V.c (C.p (PV.i aC (↑i:Int)))),(5,V.c (C.ptr 2 0)),(26,V.t [V1.a [C.p (PV.l 7 M'.length (aE aG M'))],V1.c (C.p (PV.l 7 out.length (aE aG out)))]),(27,V.a [C.p (PV.l 7 M.length (aE aG M))]),(28,V.a [C.p (PV.i aC p.kd),C.p (PV.s p.ru),C.p (PV.i aC p.ve),C.p (PV.l 2 p.L.length (aE aN p.L)),C.p (PV.i aC p.st),C.p (PV.i aC p.se),C.p (PV.s p.to)]),(29,V.c (C.p (PV.l 1 A.length (aE aT A)))),(30,V.c (C.p (PV.i aC (↑i:Int)))),(31,V.c (C.p (PV.i aC ((↑i:Int)+7)))),(32,V.c (C.p (PV.l 1 T.length (aE aT T)))),(33,V.t [V1.a [C.p (PV.l 7 M'.length (aE aG M'))],V1.c (C.p (PV.l 7 out.length (aE aG out)))]),(34,V.a [C.p (PV.l 7 M'.length (aE aG M'))]),(35,V.c (C.p (PV.l 7 out.length (aE aG out))))] [AO.cells 27 [C.p (PV.z (bB none 0 0))],AO.cells 27 [C.p (PV.l 7 M'.length (aE aG M'))],AO.cells 31 [C.p (PV.i aC p.kd),C.p (PV.s p.ru),C.p (PV.i aC p.ve),C.p (PV.l 2 p.L.length (aE aN p.L)),C.p (PV.i aC p.st),C.p (PV.i aC p.se),C.p (PV.s p.to)]])).alt
      (Tr.done X.normal
       (bY 43 [(0,V.c (C.p (PV.l 1 A.length (aE aT A)))),(2,V.c (C.ptr 0 0)),(3,V.c (C.ptr 1 0)),(4,V.c (C.p (PV.i aC (↑i:Int)))),(5,V.c (C.ptr 2 0)),(26,V.t [V1.a [C.p (PV.l 7 M'.length (aE aG M'))],V1.c (C.p (PV.l 7 out.length (aE aG out)))]),(27,V.a [C.p (PV.l 7 M.length (aE aG M))]),(28,V.a [C.p (PV.i aC p.kd),C.p (PV.s p.ru),C.p (PV.i aC p.ve),C.p (PV.l 2 p.L.length (aE aN p.L)),C.p (PV.i aC p.st),C.p (PV.i aC p.se),C.p (PV.s p.to)]),(29,V.c (C.p (PV.l 1 A.length (aE aT A)))),(30,V.c (C.p (PV.i aC (↑i:Int)))),(31,V.c (C.p (PV.i aC ((↑i:Int)+7)))),(32,V.c (C.p (PV.l 1 T.length (aE aT T)))),(33,V.t [V1.a [C.p (PV.l 7 M'.length (aE aG M'))],V1.c (C.p (PV.l 7 out.length (aE aG out)))]),(34,V.a [C.p (PV.l 7 M'.length (aE aG M'))]),(35,V.c (C.p (PV.l 7 out.length (aE aG out))))] [AO.cells 27 [C.p (PV.z (bB none 0 0))],AO.cells 27 [C.p (PV.l 7 M'.length (aE aG M'))],AO.cells 31 [C.p (PV.i aC p.kd),C.p (PV.s p.ru),C.p (PV.i aC p.ve),C.p (PV.l 2 p.L.length (aE aN p.L)),C.p (PV.i aC p.st),C.p (PV.i aC p.se),C.p (PV.s p.to)]]))))):=by kernel_rfl
theorem aSQ(A:List Int)(M M':List Pg)(p:Pg)(i:Nat)(e:Int):dF (aL9 M p M' e) (eZ (aON (bC .skip (eZ (inr (bC .skip (gQ (dC aB jH) 3) 2))) 2))) (bY 43 [(0,aU aT 1 A),(2,.c (.ptr 0 0)),(3,.c (.ptr 1 0)),(4,iV (i:Nat)),(5,.c (.ptr 2 0))] [.cells 27 [.p (.z (.slice none 0 0))],.cells 27 [.p (bO aG 7 M)],.cells 31 [.p (.i .i64 p.kd),.p (.s p.ru),.p (.i .i64 p.ve),.p (bO aN 2 p.L),.p (.i .i64 p.st),.p (.i .i64 p.se),.p (.s p.to)]]) (gW (fJ 43 [0,2,3,4]) (bK aB jH))=Tr.rq
 (((M.length=M.length∧∀(e o:Nat),e<M.length→o<7→lY (aE aG M e o) (aE aG M e o)) ∧
 kI aN 2 (bS cS p.L.length (aE aN p.L)) p.L.length (aE aN p.L)∧Pg.mk p.kd p.ru p.ve (bS cS p.L.length (aE aN p.L)) p.st p.se p.to=p) ∧
 (M.length≤1000000∧p.L.length≤1000000)∧sI M p=(M',e))
 (.done .normal
 (bY 43 [(0,.c (.p (.l 1 A.length (aE aT A)))),(2,.c (.ptr 0 0)),(3,.c (.ptr 1 0)),(4,.c (.p (.i .i64 (↑i:Int))))] [.cells 27 [.p (.z (bB none 0 0))],.cells 27 [.p (.l 7 M'.length (aE aG M'))]])):=by kernel_rfl
theorem aSP(A:List Int)(M:List Pg)(i:Nat):dF fH (bL 3 (gQ (dC aB jH) 3)) (bY 43 [(0,aU aT 1 A),(2,.c (.ptr 0 0)),(3,.c (.ptr 1 0)),(4,iV (i:Nat))] [.cells 27 [.p (.z (.slice none 0 0))],.cells 27 [.p (bO aG 7 M)]]) (gW (fJ 43 [0,2,3,4]) (bK aB jH))=Tr.rq (eW aC ((↑i:Int)+13))
 (.done .normal
 (bY 43 [(0,.c (.p (.l 1 A.length (aE aT A)))),(2,.c (.ptr 0 0)),(3,.c (.ptr 1 0)),(4,.c (.p (.i .i64 ((↑i:Int)+13))))] [.cells 27 [.p (.z (bB none 0 0))],.cells 27 [.p (.l 7 M.length (aE aG M))]])):=by kernel_rfl
theorem aSO(M:List Pg):dF fH (bL 4 (dC aB jH)) (bY 43 [(2,.c (.ptr 0 0)),(3,.c (.ptr 1 0))] [.cells 27 [.p (.z (.slice none 0 0))],.cells 27 [.p (bO aG 7 M)]]) (gW [] (bK aB jH))=Tr.done X.ret (St.mk [V.a [C.p (PV.l 7 M.length (aE aG M))]] []):=by kernel_rfl
theorem aG3(W T:List Int)(p:Pg)(A:List Int)(i:Nat)(hi:i<A.length):zR W T p (A.take (i+1))=zR W T p (A.take i)++(match decide (A.getD i default∈W) != decide (A.getD i default∈T) with
  |true=>[pU p.ru p.ve p.L p.se T (A.getD i default)]
  |false=>[]):=by
 unfold zR;rw[uA hi,List.filter_append,List.map_append];congr 1;rw[List.filter_cons];cases decide (A.getD i default∈W) != decide (A.getD i default∈T)<;>rfl
theorem YP(W T:List Int)(p:Pg)(A:List Int):(zR W T p A).length≤A.length:=by
 unfold zR;rw[List.length_map];exact List.length_filter_le _ _
theorem EA(A:List Int):(nA A).length≤A.length:=by
 have h1:=nY (iM A)
 rw[kP]at h1;exact h1
theorem xG(M:List Pg)(p:Pg):(gF M p).length≤M.length:=by
 have h1:=EA (LB M p M.length)
 have h2:=WC M p M.length
 unfold gF;omega
section
variable {G:Nat→Option Obj}
set_option maxRecDepth 100000 in
theorem aJH(W:List Int)(hW:W.length≤1000000)(h:List AO):jW aB G 53 [aU aT 1 W,iV (W.length:Nat)] h fun x h'=>x=.c (.sl (fG h) 1 0 W.length)∧h'=fB (.row 3 1 W.length fun e o=>.p (aE aT W e o)) h:=by
 refine MM (args:=[aU aT 1 W,iV (W.length:Nat)]) (r:=4) (ty:=3) (sz:=1) (n:=W.length) (F:=aE aT W) (pre:=dL 3 (dC aB Try.f53)) Try.func53 (by kernel_rfl) (by kernel_rfl) (by kernel_rfl) rfl ?_ h
 refine eG.evH aY (tI W (W.length:Nat)) ?_;rw[if_neg (by omega)];simp only[bA,aP,show (↑W.length:Int).toNat=W.length from rfl,Nat.sub_zero,cK]
 exact⟨⟨by omega,by omega,by omega⟩,⟨by omega,by omega,fun _ _ _ _=>rfl⟩,⟨rfl,fun j=>by simp,0,_,rfl,rfl,fun e o he ho=>by
   obtain rfl:o=0:=by omega
   rfl⟩⟩
theorem aII(W:List Int):gG aB G 53 (TY W):=by
 intro args h p v h' hm hp;unfold TY at hm
 split at hm;rotate_left;· cases hm
 split at hm;rotate_left;· cases hm
 rename_i x k _ q hx;obtain⟨rfl,rfl,rfl⟩:=gO hm;obtain⟨hq,rfl,hW⟩:=hp;exact jW.args (args':=[aU aT 1 W,iV (W.length:Nat)]) (aJH W hW h) (.cons (xQ hx hq) (.cons (.refl _) .nil))
theorem aNE(U:List Int):iW aB G 52 (aE4 U):=by
 intro args p v hm hp h;unfold aE4 at hm
 split at hm;rotate_left;· cases hm
 split at hm;rotate_left;· cases hm
 rename_i x _ q hx;obtain⟨rfl,rfl⟩:=eY hm;obtain⟨hA,hlen⟩:=hp;refine jW.args (args':=[aU aT 1 U]) ?_ (.cons (xQ hx hA) .nil)
 have:=aKH (G:=G) [aU aT 1 U] _ _ rfl ⟨by rw[iS];exact dP _ _ _,by rw[iS];exact hlen⟩ h
 rw[iS]at this;exact this
theorem QG(W T:List Int):bG aB G (aLD W T):=eM (by simp;exact⟨aII W,XW (aNE (W++T))⟩)
theorem QM:bG aB G aLJ:=eC (by simp;exact WQ)
theorem QK:bG aB G aLH:=eC (by simp;exact WO)
theorem QL(M:List Pg):bG aB G (aLI M):=eC (by simp;exact aDK M)
theorem QH:bG aB G aLE:=eC (by simp;exact aQH)
theorem RC(M:List Pg):bG aB G (aLX M):=eC (by simp;exact aDR M)
set_option maxRecDepth 100000 in
theorem aNM(M:List Pg)(p:Pg)(T:List Int)(Mr outr:List Pg):iW aB G 22 (aEG M p T Mr outr):=by
 intro args p0 v hm hp h;unfold aEG at hm
 split at hm;rotate_left;· cases hm
 split at hm;rotate_left;· cases hm
 rename_i x y z _ _ _ a b c hx hy hz;obtain⟨rfl,rfl⟩:=eY hm;obtain⟨⟨⟨hA,hB⟩,hC⟩,⟨hlen,hl2⟩,hr⟩:=hp;refine jW.args (args':=[CN M,uK p,aU aT 1 T]) ?_ (.cons (xP hx hA) (.cons (tJ hy hB) (.cons (xQ hz hC) .nil)));clear hm hx hy hz hA hB hC
 refine qN Try.func22 (by kernel_rfl) rfl ?_ h
 refine eG.evG QM 3 (aTV M p T) ?_;simp only[bA,aP,cC,gN];refine⟨dP _ _ _,⟨?_⟩⟩
 have hr':aC1 Mr outr=aC1 (wO M p T).1 (wO M p T).2:=by rw[hr]
 rw[hr'];clear hr hr';unfold wO
 generalize hP ⟨0,p.ru,p.ve,p.L,0,p.se,⟨#[]⟩⟩=g0
 refine eG.loop' (l:=bL 3 (dC aB iC)) (b:=inr (inr (bC .skip (dC aB iC) 3))) (r:=bL 4 (dC aB iC)) (id:=0) (by kernel_rfl) (σ:=Nat×Bool)
   (fun(i,g)=>bY 111 [(2,aU aT 1 T),(3,.c (.ptr 0 0)),(4,.c (.ptr 1 0)),(6,.c (.ptr 2 0)),(7,.c (.p (.z (.slice none 0 0)))),(8,bV g),(9,iV (i:Nat))] [.cells 27 [.p (bO aG 7 M)],.cells 31 [.p (.i .i64 p.kd),.p (.s p.ru),.p (.i .i64 p.ve),.p (bO aN 2 p.L),.p (.i .i64 p.st),.p (.i .i64 p.se),.p (.s p.to)],.cells 27 [.p (.z (.slice none 0 0))]]) (fun(i,g)=>i≤T.length∧g=(g0&&(T.take i).all gU)) (fun(i,g)=>T.length-i) (0,g0) ⟨bX _,by simp⟩ (aI (by kernel_rfl)) ?_
 rintro⟨i,g⟩ ⟨hi,hg⟩ Q1 q1n q1e -;refine eG.evH QK (aTU M p T g i) ?_;simp only[cD,bA,aP,cC,jZ,decide_eq_true_eq,decide_eq_false_iff_not,eW,show (↑i:Int).toNat=i from rfl];refine⟨fun h1=>?_,fun h1=>⟨q1e _ ?_⟩⟩
 ·have hsn:(T.take (i+1)).all gU=((T.take i).all gU&&gU (T.getD i default)):=by
    rw[uA (show i<T.length by omega),List.all_append];simp
  refine⟨by omega,trivial,fun c=>⟨by omega,⟨q1n (i+1,gU (T.getD i default)) _ ⟨by omega,?_⟩ (by simp only;omega) (aI (by kernel_rfl))⟩⟩,fun c=>⟨by omega,⟨q1n (i+1,false) _ ⟨by omega,?_⟩ (by simp only;omega) (aI (by kernel_rfl))⟩⟩⟩
  ·rw[hsn,←Bool.and_assoc,←hg,c];rfl
  ·rw[hsn,←Bool.and_assoc,←hg,c];rfl
 obtain rfl:i=T.length:=by omega
 rw[fF]at hg;rw[←hg]
 refine eG.pre ((gB (fJ 111 [2,3,4,6,7,8]) _).trans (aI (by kernel_rfl))) (eG.evG aY 2 (aTT M p T g) ?_)
 simp only[cD,aP,fP,cC,eQ,fX];refine⟨fun c=>⟨?_⟩,fun c=>⟨?_⟩⟩
 ·subst c
  exact iE.t (.cons (iE.refl _) (.cons (iE.p (lY.nil 7 _)) .nil))
 subst c
 refine eG.pre (aI (by kernel_rfl)) (eG.evG (QL M) 1 (aTS M p T) ?_)
 simp only[bA,aP,cC,gN];refine⟨⟨⟨⟨trivial,fun _ _ _ _=>lY.refl _⟩,dP _ _ _⟩,by omega,hl2⟩,⟨?_⟩⟩;change eG _ _ _ (aC1 (M++zR (gF M p) T p (nA (gF M p++T))) (zR (gF M p) T p (nA (gF M p++T)))) _ (bY 111 [(2,aU aT 1 T),(3,.c (.ptr 0 0)),(4,.c (.ptr 1 0)),(6,.c (.ptr 2 0)),(11,aU aT 1 (gF M p))] [.cells 27 [.p (bO aG 7 M)],.cells 31 [.p (.i .i64 p.kd),.p (.s p.ru),.p (.i .i64 p.ve),.p (bO aN 2 p.L),.p (.i .i64 p.st),.p (.i .i64 p.se),.p (.s p.to)],.cells 27 [.p (.z (.slice none 0 0))]]) _
 have hWl:=xG M p
 generalize gF M p=W at hWl ⊢
 refine eG.evG (QG W T) 3 (aTR M p W T) ?_;simp only[bA,aP,cC]
 have hAl:=EA (W++T)
 rw[aL]at hAl;refine⟨⟨dP _ _ _,trivial,by omega⟩,trivial,⟨by omega,by omega,fun _ _ _ _=>rfl⟩,⟨⟨⟨⟨rfl,by omega⟩,trivial⟩,fun e o he ho=>?_⟩,⟨?_,by rw[aL];omega⟩⟩,⟨?_⟩⟩
 ·unfold fI
  split<;>rfl
 ·refine⟨by simp,fun e o he ho=>?_⟩
  obtain rfl:o=0:=by omega
  unfold fI;dsimp only
  by_cases h1:e<W.length
  ·rw[if_pos (by omega)]
   show PV.i .i64 (W.getD e default)=PV.i .i64 ((W++T).getD e default)
   rw[aD,aD,cG h1]
  ·rw[if_neg (by omega)]
   show PV.i .i64 (T.getD (e-W.length) default)=PV.i .i64 ((W++T).getD e default)
   rw[aD,aD,cV (by omega)]
 generalize nA (W++T)=A at hAl ⊢
 refine eG.loop' (l:=bL 3 (bL 1 (bL 2 (bL 4 (dC aB iC))))) (b:=inr (inr (bC .skip (dC aB iC) 10))) (r:=bL 11 (dC aB iC)) (id:=2) (by kernel_rfl) (σ:=Nat)
   (fun i=>(fun M out k=>bY 111 [(2,aU aT 1 T),(3,.c (.ptr 0 0)),(4,.c (.ptr 1 0)),(6,.c (.ptr 2 0)),(11,aU aT 1 W),(12,aU aT 1 A),(13,.c (.sl 3 7 0 k)),(14,iV (i:Nat))] [.cells 27 [.p (bO aG 7 M)],.cells 31 [.p (.i .i64 p.kd),.p (.s p.ru),.p (.i .i64 p.ve),.p (bO aN 2 p.L),.p (.i .i64 p.st),.p (.i .i64 p.se),.p (.s p.to)],.cells 27 [.p (.z (.slice none 0 0))],.row 31 7 k (aO aG out)]) (M++zR W T p (A.take i)) (zR W T p (A.take i)) (zR W T p (A.take i)).length) (fun i=>i≤A.length) (fun i=>A.length-i) 0 (bX _) ?_ ?_
 ·have e:zR W T p (A.take 0)=[]:=rfl
  rw[e,eX]
  exact(mM 31 7 (aO aG []) 13 (by kernel_rfl)).trans (aI (by kernel_rfl))
 intro i hi Q1 q1n q1e _
 have hol:=YP W T p (A.take i)
 rw[eR]at hol
 have hsn:=aG3 W T p A i
 generalize hO:zR W T p (A.take i)=out at hol hsn ⊢
 refine eG.evG aY 2 (aTQ (M++out) out p W T A out.length i) ?_;simp only[cD,aP,cC,jZ,decide_eq_true_eq,decide_eq_false_iff_not];refine⟨fun h1=>⟨?_⟩,fun h1=>⟨q1e _ ?_⟩⟩
 ·have hlt:i<A.length:=by omega
  have hsn:=hsn hlt
  have after:∀out2,out2=zR W T p (A.take (i+1))→eG aB G (bK aB iC) (aC1 (M++zR W T p A) (zR W T p A)) (bL 3 (gQ (dC aB iC) 10)) ((fun M out k=>bY 111 [(2,aU aT 1 T),(3,.c (.ptr 0 0)),(4,.c (.ptr 1 0)),(6,.c (.ptr 2 0)),(11,aU aT 1 W),(12,aU aT 1 A),(13,.c (.sl 3 7 0 k)),(14,iV (i:Nat))] [.cells 27 [.p (bO aG 7 M)],.cells 31 [.p (.i .i64 p.kd),.p (.s p.ru),.p (.i .i64 p.ve),.p (bO aN 2 p.L),.p (.i .i64 p.st),.p (.i .i64 p.se),.p (.s p.to)],.cells 27 [.p (.z (.slice none 0 0))],.row 31 7 k (aO aG out)]) (M++out2) out2 out2.length) Q1:=fun out2 he=>by
   subst he;refine eG.evH aY (aTN (M++zR W T p (A.take (i+1))) (zR W T p (A.take (i+1))) p W T A (zR W T p (A.take (i+1))).length i) ?_;simp only[bA,aP,cC,eW]
   exact⟨by omega,⟨q1n (i+1) _ (by omega) (by omega) (aI (by kernel_rfl))⟩⟩
  refine eG.blk' (l:=bL 2 (gQ (dC aB iC) 10)) (id:=3) (a:=inr (bC .skip (gQ (dC aB iC) 10) 2)) (r:=bL 3 (gQ (dC aB iC) 10)) (by kernel_rfl) ?_
  intro Q2 q2n _ _
  refine eG.pre (aI (by kernel_rfl)) (eG.evG QH 3 (aTP (M++out) out p W T A out.length i) ?_)
  simp only[bA,aP,cC,iS,show (↑i:Int).toNat=i from rfl];refine⟨⟨by omega,by omega⟩,⟨by omega,by omega⟩,⟨dP _ _ _,by omega⟩,⟨by omega,by omega⟩,⟨dP _ _ _,by omega⟩,⟨?_⟩⟩
  generalize A.getD i default=t at hsn ⊢
  have hkd:(pU p.ru p.ve p.L p.se T t)=⟨match decide (t∈T) with
   |true=>2
   |false=>1,p.ru,p.ve,p.L,t,p.se,⟨#[]⟩⟩:=rfl
  rw[hkd]at hsn;clear hkd
  generalize decide (t∈W)=x at hsn ⊢
  generalize decide (t∈T)=y at hsn ⊢
  have hML:(M++out).length≤1000000:=by rw[aL];omega
  have one:∀(kd:Int) (e o:Nat),e<1→o<7→iQ (mI [C.p (.i .i64 kd),C.p (.s p.ru),C.p (.i .i64 p.ve),C.p (.l 2 p.L.length (aE aN p.L)),C.p (.i .i64 t),C.p (.i .i64 p.se),C.p (.s ⟨#[]⟩)] 7 1 (e+0) o)=true:=fun kd e o he ho=>by
   obtain rfl:e=0:=by omega
   have:o=0∨o=1∨o=2∨o=3∨o=4∨o=5∨o=6:=by omega
   rcases this with rfl|rfl|rfl|rfl|rfl|rfl|rfl<;>rfl
  refine eG.pre (aI (by kernel_rfl)) (eG.evH (RC (M++out)) (aTO (M++out) out p W T A out.length i t x y) ?_)
  have add:∀kd:Int,zR W T p (A.take (i+1))=out++[⟨kd,p.ru,p.ve,p.L,t,p.se,⟨#[]⟩⟩]→Q2 .normal (bY 111 [(2,V.c (C.p (PV.l 1 T.length (aE aT T)))),(3,V.c (C.ptr 0 0)),(4,V.c (C.ptr 1 0)),(6,V.c (C.ptr 2 0)),(11,V.c (C.p (PV.l 1 W.length (aE aT W)))),(12,V.c (C.p (PV.l 1 A.length (aE aT A)))),(13,V.c (C.sl 3 7 0 (out.length+1))),(14,V.c (C.p (PV.i aC (↑i:Int))))] [AO.cells 27 [C.p (PV.l 7 (M++out++[Pg.mk kd p.ru p.ve p.L t p.se (aH #[])]).length (aE aG (M++out++[Pg.mk kd p.ru p.ve p.L t p.se (aH #[])])))],AO.cells 31 [C.p (PV.i aC p.kd),C.p (PV.s p.ru),C.p (PV.i aC p.ve),C.p (PV.l 2 p.L.length (aE aN p.L)),C.p (PV.i aC p.st),C.p (PV.i aC p.se),C.p (PV.s p.to)],AO.cells 27 [C.p (PV.z (bB none 0 0))],AO.row 31 7 (out.length+1) fun e o=>bQ [0,1,2,6] (fI out.length (aO aG out) (fun e o=>bC C.top [C.p (PV.i aC kd),C.p (PV.s p.ru),C.p (PV.i aC p.ve),C.p (PV.l 2 p.L.length (aE aN p.L)),C.p (PV.i aC t),C.p (PV.i aC p.se),C.p (PV.s (aH #[]))] ((e+0)*7+o)) e o)]):=fun kd he=>by
   have hl2:out.length+1=(out++[Pg.mk kd p.ru p.ve p.L t p.se ⟨#[]⟩]).length:=by simp
   rw[hl2,cF];refine q2n _ (eG.pre ?_ (after (out++[⟨kd,p.ru,p.ve,p.L,t,p.se,⟨#[]⟩⟩]) he.symm));refine jF ⟨rfl,rfl,rfl,⟨rfl,rfl,rfl,fun e o he ho=>?_⟩,trivial⟩;exact pP rfl (IU kd p.ve t p.se p.ru ⟨#[]⟩ p.L) (by simpa using he) ho
  have stay:zR W T p (A.take (i+1))=out→Q2 .normal (bY 111 [(2,V.c (C.p (PV.l 1 T.length (aE aT T)))),(3,V.c (C.ptr 0 0)),(4,V.c (C.ptr 1 0)),(6,V.c (C.ptr 2 0)),(11,V.c (C.p (PV.l 1 W.length (aE aT W)))),(12,V.c (C.p (PV.l 1 A.length (aE aT A)))),(13,V.c (C.sl 3 7 0 out.length)),(14,V.c (C.p (PV.i aC (↑i:Int))))] [AO.cells 27 [C.p (PV.l 7 (M++out).length (aE aG (M++out)))],AO.cells 31 [C.p (PV.i aC p.kd),C.p (PV.s p.ru),C.p (PV.i aC p.ve),C.p (PV.l 2 p.L.length (aE aN p.L)),C.p (PV.i aC p.st),C.p (PV.i aC p.se),C.p (PV.s p.to)],AO.cells 27 [C.p (PV.z (bB none 0 0))],AO.row 31 7 out.length fun e o=>bQ [0,1,2,3] (aO aG out e o)]):=fun he=>q2n _ (eG.pre (aI (by kernel_rfl)) (after out he.symm))
  cases x<;>cases y<;>simp only[cD,bA,aP,cC,gN,Bool.not_true,Bool.not_false,true_implies,false_implies,reduceCtorEq,and_true,true_and,beq_self_eq_true,show (false==true)=false from rfl,show (true==false)=false from rfl]
  ·exact⟨stay (by rw[hsn];exact eX _)⟩
  ·exact⟨aW _,⟨by omega,by omega,one 2⟩,⟨⟨fun _ _ _ _=>lY.refl _,dP _ _ _⟩,hML⟩,⟨add 2 hsn⟩⟩
  ·exact⟨aW _,⟨by omega,by omega,one 1⟩,⟨⟨fun _ _ _ _=>lY.refl _,dP _ _ _⟩,hML⟩,⟨add 1 hsn⟩⟩
  ·exact⟨stay (by rw[hsn];exact eX _)⟩
 ·obtain rfl:i=A.length:=by omega
  rw[fF]at hO;rw[hO]
  refine eG.pre ((gB (fJ 111 [3,6,13]) _).trans (aI (by kernel_rfl))) (eG.evH aY (aQ9 (M++out) out out.length) ?_)
  simp only[bA,aP,fP];exact⟨⟨by omega,fun _ _ _ _=>rfl⟩,⟨iE.refl _⟩⟩
end
def xH(A:List Int)(M:List Pg)(i:Nat):List Pg:=
 if iG A ((i:Int)+6) 3=0 then (wO M (mP A i) (oV A ((i:Int)+7))).1 else (sI M (mP A i)).1
def RU(A:List Int):Nat→List Pg
 |0=>[]
 |n+1=>xH A (RU A n) (13*n)
def ofZ(A:List Int):List Pg:=RU A (min 8 (A.length / 13))
def aEE(M:List Pg):Mod
 |[x]=>match CM x with
  |some (p,A)=>some (p∧(∀t∈A,eW .i64 t)∧A.length≤9223372036854775807∧ofZ A=M,CN M)
  |none=>none
 |_=>none
theorem BK(A:List Int)(a:Int):(oV A a).length≤5:=by
 unfold oV;rw[NI]
 have:=pQ (L:=A) (i:=a) (m:=6) (by omega)
 omega
theorem aEQ(n:Int):(UN n).length≤2:=by
 unfold UN;split
 ·simp
 ·split
  ·simp
  ·split<;>simp
theorem aHB(A:List Int)(i:Int):(mP A i).L.length≤2:=aEQ _
theorem aK5(M:List Pg)(p:Pg)(T:List Int):(wO M p T).1.length≤2*M.length+T.length:=by
 unfold wO;split
 ·have h1:=YP (gF M p) T p (nA (gF M p++T))
  have h2:=EA (gF M p++T)
  have h3:=xG M p
  rw[aL]at h2;simp only[aL];omega
 ·simp only;omega
theorem aJU(M:List Pg)(p:Pg):(sI M p).1.length≤M.length+1:=by
 unfold sI;split
 ·simp
 ·split
  ·simp
  ·split<;>simp
theorem TG(A:List Int)(M:List Pg)(i:Nat):(xH A M i).length≤2*M.length+5:=by
 unfold xH;split
 ·have h1:=aK5 M (mP A i) (oV A ((i:Int)+7))
  have h2:=BK A ((i:Int)+7)
  omega
 ·have:=aJU M (mP A i)
  omega
theorem WS(A:List Int):∀n,(RU A n).length+5≤5*2^n
 |0=>by simp[RU]
 |n+1=>by
  have h1:=WS A n
  have h2:=TG A (RU A n) (13*n)
  rw[RU,Nat.pow_succ];omega
theorem aDT{A:List Int}{n:Nat}(h:n≤8):(RU A n).length≤1275:=by
 have h1:=WS A n
 have h2:2^n≤2^8:=Nat.pow_le_pow_right (by omega) h
 have h3:2^8=256:=rfl
 omega
theorem WR(A:List Int):(ofZ A).length≤1275:=aDT (by omega)
section
variable {G:Nat→Option Obj}
theorem RY{st:St}{id k:Nat}{t0:TypeId}{vs:List C}{x y:PV}(hid:bC .gone st.h id=.cells t0 vs)(hk:bC .top vs k=.p x)(hle:lY x y):cW G st ⟨st.t,eT (.cells t0 (eT (.p y) vs k)) st.h id⟩:=by
 intro β R a w hs
 have hh:=hs.hs
 have hlid:=fZ hid (by simp)
 have hl:∀i,(bC .gone (eT (.cells t0 (eT (.p y) vs k)) st.h id) i).live=(bC .gone st.h i).live:=fun i=>by
  by_cases e:id=i
  ·subst e;rw[eA _ _ _ hlid,hid];rfl
  ·rw[cP _ _ _ e]
 refine⟨β,R,⟨hs.df,hs.tm,?_⟩,Fr.refl _ _ _,fun _ hb=>hb⟩;refine⟨?_,?_,?_,hh.lt,hh.rlt,?_,hh.gl,?_⟩
 ·intro i y hi;rw[eV,cE];exact hh.dom i y hi
 ·intro i j b o1 o2 hi hj li lj
  rw[hl]at li lj;exact hh.inj i j b o1 o2 hi hj li lj
 ·intro i b o hi li
  rw[hl]at li;exact hh.sep i b o hi li
 ·intro i b o hi
  by_cases e:id=i
  ·subst e
   rw[eA _ _ _ hlid]
   have hob:=hh.obj id b o hi
   rw[hid]at hob;obtain⟨cs,g1,g2⟩:=hob;refine⟨cs,g1,?_⟩;clear hl hid hi
   generalize cs.toList=us at g2
   induction vs generalizing k us with
   |nil=>exact g2
   |cons v vs ih=>
    cases us with
    |nil=>exact g2.elim
    |cons u us=>
     cases k with
     |zero=>
      have hk:v=.p x:=hk
      subst hk;exact⟨hle _ _ _ g2.1,g2.2⟩
     |succ k=>exact⟨g2.1,ih hk us g2.2⟩
  ·rw[cP _ _ _ e]
   exact hh.obj i b o hi
 ·intro b ad hq
  obtain⟨q1,q2,q3⟩:=hh.ql b ad hq;exact⟨q1,q2,fun i o hi=>by rw[hl];exact q3 i o hi⟩
theorem OG(p:Pg):iW aB G 13 (DB p):=by
 intro args p0 v hm hp h;unfold DB at hm
 split at hm;rotate_left;· cases hm
 split at hm;rotate_left;· cases hm
 rename_i x i _ q A hx;obtain⟨rfl,rfl⟩:=eY hm;obtain⟨hA,hI,hpos,rfl⟩:=hp;refine jW.args (args':=[aU aT 1 A,iV i]) ?_ (.cons (oZ hx hA) (.cons (.refl _) .nil))
 have:=aIJ (G:=G) [aU aT 1 A,iV i] _ _ rfl ⟨by rw[iS];exact dP _ _ _,by rw[iS];exact hI,hpos⟩ h
 rw[iS]at this;exact this
theorem TE(T:List Int):iW aB G 15 (AP T):=by
 intro args p0 v hm hp h;unfold AP at hm
 split at hm;rotate_left;· cases hm
 split at hm;rotate_left;· cases hm
 rename_i x i _ q A hx;obtain⟨rfl,rfl⟩:=eY hm;obtain⟨hA,hI,hpos,rfl⟩:=hp;refine jW.args (args':=[aU aT 1 A,iV i]) ?_ (.cons (oZ hx hA) (.cons (.refl _) .nil))
 have:=aA5 (G:=G) [aU aT 1 A,iV i] _ _ rfl ⟨by rw[iS];exact dP _ _ _,by rw[iS];exact hI,hpos⟩ h
 rw[iS]at this;exact this
theorem aDL(M:List Pg)(p:Pg)(M':List Pg)(e:Int):iW aB G 24 (LS M p M' e):=by
 intro args p0 v hm hp h;unfold LS at hm
 split at hm;rotate_left;· cases hm
 split at hm;rotate_left;· cases hm
 rename_i x y _ _ a b hx hy;obtain⟨rfl,rfl⟩:=eY hm;obtain⟨⟨hA,hB⟩,⟨h1,h2⟩,he⟩:=hp;refine jW.args (args':=[CN M,uK p]) ?_ (.cons (xP hx hA) (.cons (tJ hy hB) .nil))
 have hd:bS cS p.L.length (aE aN p.L)=p.L:=gN _
 have:=aIK (G:=G) M [CN M,uK p] _ _ rfl ⟨⟨⟨rfl,fun _ _ _ _=>lY.refl _⟩,by rw[hd];exact dP _ _ _⟩,h1,by rw[hd];exact h2⟩ h
 rw[hd,he]at this;exact this
theorem PZ(p:Pg):bG aB G (aL7 p):=eC (by simp;exact⟨OG p,TB⟩)
theorem QD(M:List Pg)(p:Pg)(T:List Int)(M' out:List Pg):bG aB G (aLA M p T M' out):=eC (by simp;exact⟨TE T,aNM M p T M' out⟩)
theorem QC(M:List Pg)(p:Pg)(M':List Pg)(e:Int):bG aB G (aL9 M p M' e):=eC (by simp;exact aDL M p M' e)
set_option maxRecDepth 100000 in
theorem aNL(Mr:List Pg):iW aB G 12 (aEE Mr):=by
 intro args p0 v hm hp h;unfold aEE at hm
 split at hm;rotate_left;· cases hm
 split at hm;rotate_left;· cases hm
 rename_i x _ q A hx;obtain⟨rfl,rfl⟩:=eY hm;obtain⟨hA,hI,hAl,hr⟩:=hp;subst hr;refine jW.args (args':=[aU aT 1 A]) ?_ (.cons (oZ hx hA) .nil);clear hm hx hA
 refine qN Try.func12 (by kernel_rfl) rfl ?_ h
 refine eG.evG aY 3 (aSU A) ?_;simp only[aP,cC];refine⟨?_⟩
 refine eG.loop' (l:=bL 3 (dC aB jH)) (b:=inr (inr (bC .skip (dC aB jH) 3))) (r:=bL 4 (dC aB jH)) (id:=0) (by kernel_rfl) (σ:=Nat)
   (fun n=>(fun M i=>bY 43 [(0,aU aT 1 A),(2,.c (.ptr 0 0)),(3,.c (.ptr 1 0)),(4,iV (i:Nat))] [.cells 27 [.p (.z (.slice none 0 0))],.cells 27 [.p (bO aG 7 M)]]) (RU A n) (13*n)) (fun n=>n≤min 8 (A.length / 13)) (fun n=>8-n) 0 (bX _) ?_ ?_
 ·show cW G _ ((fun M i=>bY 43 [(0,aU aT 1 A),(2,.c (.ptr 0 0)),(3,.c (.ptr 1 0)),(4,iV (i:Nat))] [.cells 27 [.p (.z (.slice none 0 0))],.cells 27 [.p (bO aG 7 M)]]) [] 0)
  exact(RY (id:=1) (k:=0) (t0:=27) (vs:=[.p (.z (.slice none 0 0))]) (y:=bO aG 7 []) (by kernel_rfl) (by kernel_rfl) (lY.nil 7 _)).trans (aI (by kernel_rfl))
 intro n hn Q1 q1n q1e _
 have hMl:(RU A n).length≤1275:=aDT (by omega)
 have hst:RU A (n+1)=xH A (RU A n) (13*n):=rfl
 generalize hM:RU A n=M at hMl hst ⊢
 refine eG.evG aY 2 (aST A M (13*n)) ?_;simp only[cD,bA,aP,cC,jZ,decide_eq_true_eq,decide_eq_false_iff_not,eW]
 have ends:n=min 8 (A.length / 13)→Q1 (.exit 0) (bY 43 [(0,V.c (C.p (PV.l 1 A.length (aE aT A)))),(2,V.c (C.ptr 0 0)),(3,V.c (C.ptr 1 0)),(4,V.c (C.p (PV.i aC (↑(13*n):Int))))] [AO.cells 27 [C.p (PV.z (bB none 0 0))],AO.cells 27 [C.p (PV.l 7 M.length (aE aG M))]]):=fun he=>q1e _ (by
  refine eG.pre ((gB (fJ 43 [2,3]) _).trans (aI (by kernel_rfl))) (eG.evH aY (aSO M) ?_)
  simp only[aP,fP];refine⟨?_⟩;unfold ofZ;rw[←he,hM]
  exact iE.refl _)
 refine⟨by omega,fun h1=>⟨fun h2=>⟨?_⟩,fun h2=>⟨ends (by omega)⟩⟩,fun h1=>⟨ends (by omega)⟩⟩
 refine eG.blk' (l:=bL 2 (gQ (dC aB jH) 3)) (id:=1) (a:=inr (bC .skip (gQ (dC aB jH) 3) 2)) (r:=bL 3 (gQ (dC aB jH) 3)) (by kernel_rfl) ?_
 intro Q2 q2n _ _
 have hpL:=aHB A ((13*n:Nat):Int)
 have hstep:xH A M (13*n)=if iG A (((13*n:Nat):Int)+6) 3=0 then (wO M (mP A ((13*n:Nat):Int)) (oV A (((13*n:Nat):Int)+7))).1 else (sI M (mP A ((13*n:Nat):Int))).1:=rfl
 have hT:=BK A (((13*n:Nat):Int)+7)
 refine eG.pre (aI (by kernel_rfl)) (eG.evG (PZ (mP A ((13*n:Nat):Int))) 2 (aSS A M (mP A ((13*n:Nat):Int)) (13*n)) ?_)
 simp only[bA,aP,cC,iS,eW]
 have hpos:∀d:Int,0≤d→d≤100→rI (((13*n:Nat):Int)+d):=fun d h3 h4=>by unfold rI;omega
 have hpos0:rI ((13*n:Nat):Int):=by unfold rI;omega
 refine⟨⟨dP _ _ _,hI,hpos0,trivial⟩,by omega,⟨dP _ _ _,hI,by decide⟩,⟨?_⟩⟩
 have after:∀M2,M2=RU A (n+1)→eG aB G (bK aB jH) (CN (ofZ A)) (bL 3 (gQ (dC aB jH) 3)) ((fun M i=>bY 43 [(0,aU aT 1 A),(2,.c (.ptr 0 0)),(3,.c (.ptr 1 0)),(4,iV (i:Nat))] [.cells 27 [.p (.z (.slice none 0 0))],.cells 27 [.p (bO aG 7 M)]]) M2 (13*n)) Q1:=fun M2 he=>by
  subst he;refine eG.evH aY (aSP A (RU A (n+1)) (13*n)) ?_;simp only[bA,aP,cC,eW];refine⟨by omega,⟨q1n (n+1) _ (by omega) (by omega) ?_⟩⟩
  have e:((13*n:Nat):Int)+13=((13*(n+1):Nat):Int):=by omega
  rw[e]
  exact aI (by kernel_rfl)
 generalize mP A ((13*n:Nat):Int)=p at hpL hstep ⊢
 generalize hTT:oV A (((13*n:Nat):Int)+7)=T at hT hstep ⊢
 refine eG.cond (l:=bL 2 (eZ (inr (bC .skip (gQ (dC aB jH) 3) 2)))) (k:=25) (a:=aJX (bC .skip (eZ (inr (bC .skip (gQ (dC aB jH) 3) 2))) 2)) (b:=aON (bC .skip (eZ (inr (bC .skip (gQ (dC aB jH) 3) 2))) 2)) (r:=[]) (x:=iG A (((13*n:Nat):Int)+6) 3==0) (by kernel_rfl) (by kernel_rfl) ?_ ?_
 ·intro c Q' qn _
  rw[if_pos (by simpa using c)]at hstep
  refine eG.pre ((gB (fJ 43 [0,2,3,4,5]) _).trans (aI (by kernel_rfl))) (eG.rawQ (N:=9) (ops:=aCZ) (all:=aR7) (rid:=7) (r':=[]) (QD M p T (wO M p T).1 (wO M p T).2) (by kernel_rfl) (by kernel_rfl) (by kernel_rfl) (by kernel_rfl) (by kernel_rfl) (aSR A T M (wO M p T).1 (wO M p T).2 p (13*n)) ?_)
  simp only[bA,aP,oR,iS,gN,eW]
  have fin:eG aB G (bK aB jH) (CN (ofZ A)) [] (bY 43 [(0,aU aT 1 A),(2,.c (.ptr 0 0)),(3,.c (.ptr 1 0)),(4,iV (↑(13*n):Int))] [.cells 27 [.p (.z (.slice none 0 0))],.cells 27 [.p (bO aG 7 (wO M p T).1)]]) Q':=by
   exact⟨_,cW.refl _,qn _ ⟨_,cW.refl _,q2n _ (after _ (hstep.symm.trans hst.symm))⟩⟩
  refine⟨by omega,⟨dP _ _ _,hI,hpos 7 (by omega) (by omega),hTT⟩,⟨⟨⟨⟨trivial,fun _ _ _ _=>lY.refl _⟩,dP _ _ _,trivial⟩,dP _ _ _⟩,⟨by omega,by omega⟩,trivial⟩,⟨trivial,?_⟩,⟨trivial,?_⟩⟩
  ·exact eG.pre ((gB (fJ 43 [0,2,3,4]) _).trans (aI (by kernel_rfl))) fin
  ·exact eG.pre ((gB (fJ 43 [0,2,3,4]) _).trans (aI (by kernel_rfl))) fin
 ·intro c Q' qn _
  rw[if_neg (by simpa using c)]at hstep
  refine eG.pre ((gB (fJ 43 [0,2,3,4,5]) _).trans (aI (by kernel_rfl))) (eG.evH (QC M p (sI M p).1 (sI M p).2) (aSQ A M (sI M p).1 p (13*n) (sI M p).2) ?_)
  simp only[bA,aP,cC,gN];refine⟨⟨⟨⟨trivial,fun _ _ _ _=>lY.refl _⟩,dP _ _ _,trivial⟩,⟨by omega,by omega⟩,trivial⟩,⟨qn _ ?_⟩⟩
  exact⟨_,cW.refl _,q2n _ (eG.pre (aI (by kernel_rfl)) (after _ (hstep.symm.trans hst.symm)))⟩
end
theorem xC{α:Type}{c:α}:∀ {a b r s:List α},c ∉ a→c ∉ b→a++c::r=b++c::s→a=b∧r=s
 |[],[],r,s,_,_,h=>⟨rfl,by simpa using h⟩
 |[],y::b,r,s,_,hb,h=>by
  simp at h;exact absurd h.1 (fun e=>hb (by rw[e];exact cZ ..))
 |x::a,[],r,s,ha,_,h=>by
  simp at h;exact absurd h.1.symm (fun e=>ha (by rw[e];exact cZ ..))
 |x::a,y::b,r,s,ha,hb,h=>by
  simp at h;obtain⟨rfl,h⟩:=h;obtain⟨rfl,h2⟩:=xC (fun k=>ha (cN _ k)) (fun k=>hb (cN _ k)) h;exact⟨rfl,h2⟩
def HR:Bool→List (ByteArray×ByteArray)→List UInt8
 |_,[]=>[]
 |b,x::r=>(match b with
  |true=>[]
  |false=>[44])++(x.1.data.toList++61::34::(x.2.data.toList++34::HR false r))
def aER(g:Nat→ByteArray×ByteArray)(k:Nat):List UInt8:=[44]++(g k).1.data.toList++[61,34]++(g k).2.data.toList++[34]
theorem aFZ:∀(r:List (ByteArray×ByteArray)),(List.range r.length).flatMap (aER (XH r))=HR false r
 |[]=>rfl
 |x::r=>by
  rw[eF,List.range_succ_eq_map,List.flatMap_cons,List.flatMap_map]
  have e:(fun k=>aER (XH (x::r)) (Nat.succ k))=aER (XH r):=rfl
  rw[e,aFZ r]
  show ([44]++x.1.data.toList++[61,34]++x.2.data.toList++[34])++HR false r=[44]++(x.1.data.toList++61::34::(x.2.data.toList++34::HR false r))
  simp
theorem aK1:∀(r:List (ByteArray×ByteArray)),pO (XH r) r.length=HR true r
 |[]=>rfl
 |x::r=>by
  unfold pO;rw[eF,List.range_succ_eq_map,List.flatMap_cons,List.flatMap_map]
  have e:(fun k=>UO (XH (x::r)) (Nat.succ k))=aER (XH r):=by
   funext k;unfold UO aER;rw[if_pos (Nat.succ_pos k)];rfl
  rw[e,aFZ r]
  show ([]++x.1.data.toList++[61,34]++x.2.data.toList++[34])++HR false r=[]++(x.1.data.toList++61::34::(x.2.data.toList++34::HR false r))
  simp
def Cl(L:List (ByteArray×ByteArray)):Prop:=∀x∈L,(61:UInt8) ∉ x.1.data.toList∧(34:UInt8) ∉ x.2.data.toList
theorem YM:∀ {b:Bool} {L M:List (ByteArray×ByteArray)},Cl L→Cl M→HR b L=HR b M→L=M
 |_,[],[],_,_,_=>rfl
 |b,[],y::M,_,_,h=>by
  cases b<;>simp[HR]at h
 |b,x::L,[],_,_,h=>by
  cases b<;>simp[HR]at h
 |b,x::L,y::M,hL,hM,h=>by
  have h1:x.1.data.toList++61::34::(x.2.data.toList++34::HR false L)=y.1.data.toList++61::34::(y.2.data.toList++34::HR false M):=by
   cases b<;>simpa[HR] using h
  obtain⟨x1,x2⟩:=hL x (cZ ..);obtain⟨y1,y2⟩:=hM y (cZ ..);obtain⟨e1,h2⟩:=xC x1 y1 h1;injection h2 with _ h2;obtain⟨e2,h3⟩:=xC x2 y2 h2
  have e3:=YM (fun z hz=>hL z (cN _ hz)) (fun z hz=>hM z (cN _ hz)) h3
  have e4:x=y:=Prod.ext (ByteArray.ext (fO.mp e1)) (ByteArray.ext (fO.mp e2))
  rw[e3,e4]
theorem uP(L:List (ByteArray×ByteArray)):(cH L).data.toList=123::(HR true L++[125]):=by
 unfold cH NG;rw[aK1]
theorem KR{L M:List (ByteArray×ByteArray)}(hL:Cl L)(hM:Cl M)(h:cH L=cH M):L=M:=by
 have h1:(cH L).data.toList=(cH M).data.toList:=by rw[h]
 rw[uP,uP]at h1;injection h1 with _ h1;exact YM hL hM (List.append_cancel_right h1)
theorem aFV{s:ByteArray}{c:UInt8}(h:c∈s.data.toList):∃k,k<s.size∧PlainAid.bt s k=(c.toNat:Int):=by
 obtain⟨k,hk,rfl⟩:=gA h
 have hk':k<s.size:=by simpa using hk
 refine⟨k,hk',?_⟩;unfold PlainAid.bt;rw[dif_pos hk'];rfl
theorem TK{s:ByteArray}(h:jK s=true):(61:UInt8) ∉ s.data.toList:=fun hm=>by
 obtain⟨k,hk,e⟩:=aFV hm
 have:okc k (PlainAid.bt s k)=false:=by
  rw[e];unfold okc
  show ((decide ((97:Int)≤61)&&decide ((61:Int)≤122))||(decide (k≠0)&&((61:Int)==95||(decide ((48:Int)≤61)&&decide ((61:Int)≤57)))))=false
  simp
 rw[vV hk this]at h;cases h
theorem NA{s:ByteArray}(h:jY s=true):(34:UInt8) ∉ s.data.toList:=fun hm=>by
 obtain⟨k,hk,e⟩:=aFV hm
 have:okv (PlainAid.bt s k)=false:=by
  rw[e];rfl
 rw[sK hk this]at h;cases h
theorem kV{L:List (ByteArray×ByteArray)}(h:mK L=true):L.length≤8∧∀x∈L,jK x.1=true∧jY x.2=true:=by
 unfold mK mD yP at h;rw[aQ,decide_eq_true_eq,fN]at h;refine⟨h.1,fun x hx=>?_⟩;obtain⟨k,hk,rfl⟩:=gA hx
 have:=h.2 k (List.mem_range.2 hk)
 unfold okl at this;simp only[aQ]at this
 have e:XH L k=L[k]:=by unfold XH;simp[hk]
 rw[e]at this;exact⟨this.1.1.1,this.1.2⟩
theorem BI{L:List (ByteArray×ByteArray)}(h:mK L=true):Cl L:=fun x hx=>⟨TK ((kV h).2 x hx).1,NA ((kV h).2 x hx).2⟩
theorem DT{L M:List (ByteArray×ByteArray)}(hL:mK L=true)(hM:mK M=true)(h:cH L=cH M):L=M:=KR (BI hL) (BI hM) h
theorem vU{s:ByteArray}(h:jK s=true):s.size≤16:=by
 unfold jK at h;simp only[aQ,decide_eq_true_eq]at h;exact h.1.2
theorem MZ{s:ByteArray}(h:jY s=true):s.size≤16:=by
 unfold jY at h;simp only[aQ,decide_eq_true_eq]at h;exact h.1
theorem aFY:∀(b:Bool) (L:List (ByteArray×ByteArray)) (n:Nat),(∀x∈L,x.1.size≤n∧x.2.size≤n)→(HR b L).length≤L.length*(2*n+4)
 |_,[],_,_=>by simp[HR]
 |b,x::L,n,h=>by
  have h1:=aFY false L n fun z hz=>h z (cN _ hz)
  obtain⟨h2,h3⟩:=h x (cZ ..)
  have e1:x.1.data.toList.length=x.1.size:=by simp
  have e2:x.2.data.toList.length=x.2.size:=by simp
  have h4:(HR b (x::L)).length≤1+(x.1.size+(2+(x.2.size+(1+(HR false L).length)))):=by
   cases b<;>simp[HR]<;>omega
  rw[eF,Nat.add_mul];omega
theorem NF(L:List (ByteArray×ByteArray)):(cH L).size=(HR true L).length+2:=by
 have h:=congrArg List.length (uP L)
 have e:(cH L).data.toList.length=(cH L).size:=by simp
 rw[e]at h;rw[h];simp
theorem wZ{L:List (ByteArray×ByteArray)}(h:mK L=true):(cH L).size≤1000:=by
 obtain⟨h1,h2⟩:=kV h
 have h3:=aFY true L 16 fun x hx=>⟨vU (h2 x hx).1,MZ (h2 x hx).2⟩
 rw[NF]
 have:L.length*(2*16+4)≤8*36:=Nat.mul_le_mul_right _ h1
 omega
def qU(M:List Pg)(ru:ByteArray)(ve:Int)(L:List (ByteArray×ByteArray))(t:Int):Option Bool:=(M.reverse.find? fun q=>kO q ⟨0,ru,ve,L,t,0,⟨#[]⟩⟩).map fun q=>q.kd != 1
theorem oJ{a b:Pg}:kO a b=true↔a.L=b.L∧a.ru=b.ru∧a.ve=b.ve∧a.st=b.st:=by
 unfold kO;simp only[aQ,decide_eq_true_eq]
theorem EN(M:List Pg)(p:Pg)(ru:ByteArray)(ve:Int)(L:List (ByteArray×ByteArray))(t:Int):qU (M++[p]) ru ve L t=if p.L=L∧p.ru=ru∧p.ve=ve∧p.st=t then some (p.kd != 1) else qU M ru ve L t:=by
 unfold qU;rw[List.reverse_append]
 show Option.map _ (List.find? _ (p::M.reverse))=_
 rw[List.find?_cons]
 by_cases h:p.L=L∧p.ru=ru∧p.ve=ve∧p.st=t
 ·rw[if_pos h,(oJ (a:=p) (b:=⟨0,ru,ve,L,t,0,⟨#[]⟩⟩)).2 h]
  rfl
 ·rw[if_neg h]
  have:kO p ⟨0,ru,ve,L,t,0,⟨#[]⟩⟩=false:=by
   cases hs:kO p ⟨0,ru,ve,L,t,0,⟨#[]⟩⟩ with
   |false=>rfl
   |true=>exact absurd (oJ.1 hs) h
  rw[this]
theorem aF5{ru ru' tx tx':ByteArray}{ve ve':Int}(h:iR ru ve tx=iR ru' ve' tx'):ru=ru'∧ve=ve'∧tx=tx':=by
 unfold iR at h;simpa using h
theorem aAC{ru ru' tx tx':ByteArray}{ve ve' t t':Int}(h:lC ru ve tx t=lC ru' ve' tx' t'):ru=ru'∧ve=ve'∧tx=tx'∧t=t':=by
 unfold lC at h;simpa using h
def KL(p:Pg):Prop:=hP p=true∧eW .i64 p.ve∧(p.kd=0∨p.kd=1∨p.kd=2)
structure RW (D:Ld):Prop where
 ok:∀p∈D.M,KL p
 stg:∀k,∃S,GS D k S∧S.length≤D.M.length
 vw:∀ru ve L,mK L=true→∃S,Vw ru ve L D S (qU D.M ru ve L)∧S.length≤D.M.length∧∀t∈S,gU t=true
theorem iP{p:Pg}:hP p=true↔jK p.ru=true∧1≤p.ve∧mK p.L=true∧gU p.st=true∧gU p.se=true∧p.to.size≤16:=by
 unfold hP;simp only[aQ,decide_eq_true_eq];exact⟨fun⟨⟨⟨⟨⟨h1,h2⟩,h3⟩,h4⟩,h5⟩,h6⟩=>⟨h1,h2,h3,h4,h5,h6⟩,fun⟨h1,h2,h3,h4,h5,h6⟩=>⟨⟨⟨⟨⟨h1,h2⟩,h3⟩,h4⟩,h5⟩,h6⟩⟩
theorem aJG:RW CO:=⟨fun p hp=>(by cases hp),fun k=>⟨[],⟨rfl,fun e o he=>absurd he (Nat.not_lt_zero _)⟩,aW _⟩,fun ru ve L _=>⟨[],aBZ ru ve L,aW _,fun t ht=>(by cases ht)⟩⟩
theorem aC4{D:Ld}{gp:Value→Option Bool}{M:List Pg}{k:Value}{S:List Int}{x:Int}(h:GS D k S):GS ⟨M,gp,uH D.gs k x⟩ k (S++[x]):=by
 obtain⟨h1,h2⟩:=h;unfold GS
 show (uH D.gs k x k).1=_∧∀e o,e<_→o<1→(uH D.gs k x k).2 e o=_
 unfold uH;rw[rU];refine⟨by simp[h1],fun e o he ho=>?_⟩
 obtain rfl:o=0:=by omega
 dsimp only;rw[h1]
 by_cases he2:e<S.length
 ·rw[if_pos he2,h2 e 0 he2 (by omega)]
  unfold aE;simp[cG he2]
 ·have:e=S.length:=by simp at he;omega
  subst this;rw[if_neg (Nat.lt_irrefl _)];unfold aE;simp[bC,mZ,aT]
theorem ME{D:Ld}(hI:RW D){p:Pg}(hp:KL p):RW (gM D p):=by
 obtain⟨p1,p2,p3⟩:=hp
 have hpL:=(iP.1 p1).2.2.1
 have hpt:=(iP.1 p1).2.2.2.1
 have hM:(gM D p).M=D.M++[p]:=rfl
 have hlen:(gM D p).M.length=D.M.length+1:=by rw[hM];simp
 refine⟨fun q hq=>?_,fun k=>?_,fun ru ve L hL=>?_⟩
 ·rw[hM]at hq
  rcases dK.1 hq with h|h
  ·exact hI.ok q h
  ·rw[eO.1 h];exact⟨p1,p2,p3⟩
 ·obtain⟨S,h1,h2⟩:=hI.stg k
  rw[hlen];cases hs:(D.gp (lC p.ru p.ve (cH p.L) p.st)).isSome with
  |true=>
   have e:(gM D p).gs=D.gs:=by unfold gM;dsimp only;rw[hs]
   exact⟨S,by unfold GS;rw[e];exact h1,by omega⟩
  |false=>
   have e:(gM D p).gs=uH D.gs (iR p.ru p.ve (cH p.L)) p.st:=by unfold gM;dsimp only;rw[hs]
   by_cases hk:k=iR p.ru p.ve (cH p.L)
   ·subst hk
    refine⟨S++[p.st],?_,by simp;omega⟩;unfold GS;rw[e];exact aC4 (gp:=D.gp) (M:=D.M) h1
   ·refine⟨S,?_,by omega⟩
    unfold GS;rw[e];unfold uH;rw[sO _ _ _ hk];exact h1
 ·obtain⟨S,hv,h2,h3⟩:=hI.vw ru ve L hL
  rw[hlen]
  by_cases hg:p.L=L∧p.ru=ru∧p.ve=ve
  ·obtain⟨rfl,rfl,rfl⟩:=hg
   obtain⟨kd,ru,ve,L,st,se,to⟩:=p;obtain⟨S',k1,k2,k3⟩:=hv.add kd st se to;refine⟨S',?_,by omega,fun t ht=>?_⟩
   ·have e:qU (gM D ⟨kd,ru,ve,L,st,se,to⟩).M ru ve L=yB (qU D.M ru ve L) st (kd != 1):=by
      funext t;rw[hM,EN];unfold yB
      by_cases h:t=st
      ·subst h;simp
      ·rw[if_neg h,if_neg (fun h'=>h h'.2.2.2.symm)]
    show Vw ru ve L _ S' (qU (gM D ⟨kd,ru,ve,L,st,se,to⟩).M ru ve L)
    rw[e];exact k1
   ·rcases k3 t ht with h|h
    ·exact h3 t h
    ·rw[h];exact hpt
  ·have hkey:iR ru ve (cH L)≠iR p.ru p.ve (cH p.L):=fun h=>by
     obtain⟨e1,e2,e3⟩:=aF5 h;exact hg ⟨(DT hL hpL e3).symm,e1.symm,e2.symm⟩
   have hmk:∀t,lC ru ve (cH L) t≠lC p.ru p.ve (cH p.L) p.st:=fun t h=>by
    obtain⟨e1,e2,e3,_⟩:=aAC h;exact hg ⟨(DT hL hpL e3).symm,e1.symm,e2.symm⟩
   have e:qU (gM D p).M ru ve L=qU D.M ru ve L:=by
    funext t;rw[hM,EN,if_neg (fun h=>hg ⟨h.1,h.2.1,h.2.2.1⟩)]
   refine⟨S,?_,by omega,h3⟩;rw[e];refine⟨?_,fun t=>?_,hv.dom,hv.nd⟩
   ·have hst:=hv.st
    unfold GS at hst ⊢
    have:(gM D p).gs (iR ru ve (cH L))=D.gs (iR ru ve (cH L)):=by
     cases hs:(D.gp (lC p.ru p.ve (cH p.L) p.st)).isSome with
     |true=>
      have e:(gM D p).gs=D.gs:=by unfold gM;dsimp only;rw[hs]
      rw[e]
     |false=>
      have e:(gM D p).gs=uH D.gs (iR p.ru p.ve (cH p.L)) p.st:=by unfold gM;dsimp only;rw[hs]
      rw[e];unfold uH;rw[sO _ _ _ hkey]
    rw[this];exact hst
   ·show uS D.gp _ _ (lC ru ve (cH L) t)=_
    unfold uS;rw[if_neg (hmk t)];exact hv.gp t
theorem SC(M:List Pg)(hk:∀p∈M,p.kd=0∨p.kd=1∨p.kd=2)(p:Pg):match qU M p.ru p.ve p.L p.st with
  |some true=>uE M p=0∨uE M p=2
  |some false=>uE M p=1
  |none=>uE M p = -1:=by
 unfold qU uE
 have e:(fun q=>kO q ⟨0,p.ru,p.ve,p.L,p.st,0,⟨#[]⟩⟩)=fun q=>kO q p:=rfl
 rw[e]
 cases hf:M.reverse.find? fun q=>kO q p with
 |none=>rfl
 |some q=>
  have hq:q∈M:=List.mem_reverse.1 (List.mem_of_find?_eq_some hf)
  rcases hk q hq with h|h|h
  ·simp[h]
  ·simp[h]
  ·simp[h]
theorem UG{D:Ld}(hI:RW D)(p:Pg)(hve:eW .i64 p.ve):(jL D p).1=(sI D.M p).2∧(jL D p).2.M=(sI D.M p).1∧RW (jL D p).2:=by
 unfold sI
 by_cases h0:hP p=false∨p.kd≠0
 ·rw[if_pos h0]
  unfold jL
  rcases h0 with h|h
  ·rw[h]
   cases (p.kd != 0)<;>exact⟨rfl,rfl,hI⟩
  ·rw[bne_iff_ne.2 h]
   exact⟨rfl,rfl,hI⟩
 ·rw[if_neg h0]
  have h1:hP p=true:=by
   cases hq:hP p with
   |true=>rfl
   |false=>exact absurd (.inl hq) h0
  have h2:p.kd=0:=Classical.byContradiction fun h=>h0 (.inr h)
  obtain⟨S,hv,_,_⟩:=hI.vw p.ru p.ve p.L (iP.1 h1).2.2.1
  have hz:=SC D.M (fun q hq=>(hI.ok q hq).2.2) p
  have hgp:=hv.gp p.st
  have hf:jL D p=match qU D.M p.ru p.ve p.L p.st with
   |some true=>(10,D)
   |some false=>(20,D)
   |none=>(0,gM D p):=by
   unfold jL;rw[h1,hgp,h2];cases qU D.M p.ru p.ve p.L p.st with
   |none=>rfl
   |some b=>cases b<;>rfl
  rw[hf];cases hpd:qU D.M p.ru p.ve p.L p.st with
  |none=>
   rw[hpd]at hz
   have hz:uE D.M p = -1:=hz
   rw[hz,if_neg (by omega),if_neg (by omega)];exact⟨rfl,rfl,ME hI ⟨h1,hve,.inl h2⟩⟩
  |some b=>
   rw[hpd]at hz;cases b with
   |true=>
    have hz:uE D.M p=0∨uE D.M p=2:=hz
    rw[if_pos hz];exact⟨rfl,rfl,hI⟩
   |false=>
    have hz:uE D.M p=1:=hz
    rw[hz,if_neg (by omega),if_pos rfl];exact⟨rfl,rfl,hI⟩
theorem aJ0{M:List Pg}(hk:∀p∈M,p.kd=0∨p.kd=1∨p.kd=2)(p:Pg)(t:Int):t∈LB M p M.length↔(qU M p.ru p.ve p.L t).getD false=true:=by
 have hz:=SC M hk (zQ p t)
 have hz:match qU M p.ru p.ve p.L t with
  |some true=>uE M (zQ p t)=0∨uE M (zQ p t)=2
  |some false=>uE M (zQ p t)=1
  |none=>uE M (zQ p t) = -1:=hz
 unfold LB;rw[fF,List.mem_map];constructor
 ·rintro⟨q,hq,rfl⟩
  rw[List.mem_filter,aQ,bne_iff_ne]at hq;obtain⟨hq,hs,hn⟩:=hq;cases hpd:qU M p.ru p.ve p.L q.st with
  |none=>
   unfold qU at hpd;rw[Option.map_eq_none_iff,List.find?_eq_none]at hpd;exact absurd hs (hpd q (List.mem_reverse.2 hq))
  |some b=>
   rw[hpd]at hz;cases b with
   |true=>rfl
   |false=>exact absurd hz hn
 ·intro h
  cases hpd:qU M p.ru p.ve p.L t with
  |none=>rw[hpd]at h;cases h
  |some b=>
   rw[hpd]at h hz;obtain rfl:b=true:=h
   have hz:uE M (zQ p t)=0∨uE M (zQ p t)=2:=hz
   unfold qU at hpd;rw[bD]at hpd;obtain⟨q,hq,_⟩:=hpd
   have hs:=List.find?_some hq
   have hm:q∈M:=List.mem_reverse.1 (List.mem_of_find?_eq_some hq)
   obtain⟨e1,e2,e3,e4⟩:=oJ.1 hs
   have e4:q.st=t:=e4
   refine⟨q,?_,e4⟩;rw[List.mem_filter,aQ,bne_iff_ne,e4];exact⟨hm,oJ.2 ⟨e1,e2,e3,e4⟩,by omega⟩
theorem ZT(M:List Pg)(p:Pg):(gF M p).Pairwise (· < ·):=qT _
theorem oO{M:List Pg}(hk:∀p∈M,p.kd=0∨p.kd=1∨p.kd=2)(p:Pg)(t:Int):t∈gF M p↔(qU M p.ru p.ve p.L t).getD false=true:=(pB _ t).trans (aJ0 hk p t)
theorem RW.kds{D:Ld}(hI:RW D):∀p∈D.M,p.kd=0∨p.kd=1∨p.kd=2:=fun p hp=>(hI.ok p hp).2.2
theorem ZS{D:Ld}(hI:RW D){p:Pg}(h:hP ⟨0,p.ru,p.ve,p.L,0,0,⟨#[]⟩⟩=false):gF D.M p=[]:=by
 refine List.eq_nil_iff_forall_not_mem.2 fun t ht=>?_
 rw[oO hI.kds]at ht;cases hpd:qU D.M p.ru p.ve p.L t with
 |none=>rw[hpd]at ht;cases ht
 |some b=>
  unfold qU at hpd;rw[bD]at hpd;obtain⟨q,hq,_⟩:=hpd
  have hs:=List.find?_some hq
  have hm:q∈D.M:=List.mem_reverse.1 (List.mem_of_find?_eq_some hq)
  obtain⟨e1,e2,e3,_⟩:=oJ.1 hs
  have e1:q.L=p.L:=e1
  have e2:q.ru=p.ru:=e2
  have e3:q.ve=p.ve:=e3
  obtain⟨k1,k2,k3,_⟩:=iP.1 (hI.ok q hm).1
  have:hP ⟨0,p.ru,p.ve,p.L,0,0,⟨#[]⟩⟩=true:=iP.2 ⟨e2▸k1,e3▸k2,e1▸k3,rfl,rfl,bX _⟩
  rw[h]at this;cases this
theorem OS{D:Ld}(hI:RW D)(p:Pg):∃S,GS D (iR p.ru p.ve (cH p.L)) S∧S.length≤D.M.length∧(hP ⟨0,p.ru,p.ve,p.L,0,0,⟨#[]⟩⟩=true→(∀t∈S,gU t=true)∧nW D p.ru p.ve p.L S=aU aT 1 (gF D.M p))∧(hP ⟨0,p.ru,p.ve,p.L,0,0,⟨#[]⟩⟩=false→gF D.M p=[]∧nW D p.ru p.ve p.L S=.c (.p (.z (.slice none 0 0)))):=by
 cases h:hP ⟨0,p.ru,p.ve,p.L,0,0,⟨#[]⟩⟩ with
 |true=>
  obtain⟨S,hv,h2,h3⟩:=hI.vw p.ru p.ve p.L (iP.1 h).2.2.1;exact⟨S,hv.st,h2,fun _=>⟨h3,JG hv h (ZT _ _) fun t=>oO hI.kds p t⟩,fun h=>by cases h⟩
 |false=>
  obtain⟨S,h1,h2⟩:=hI.stg (iR p.ru p.ve (cH p.L));refine⟨S,h1,h2,fun h=>(by cases h),fun _=>⟨ZS hI h,?_⟩⟩;unfold nW;rw[h]
theorem SZ{ru:ByteArray}{ve:Int}{L:List (ByteArray×ByteArray)}{se:Int}(h:hP ⟨0,ru,ve,L,0,se,⟨#[]⟩⟩=true)(hve:eW .i64 ve){kd t:Int}(hk:kd=0∨kd=1∨kd=2)(ht:gU t=true):KL ⟨kd,ru,ve,L,t,se,⟨#[]⟩⟩:=by
 obtain⟨k1,k2,k3,_,k5,k6⟩:=iP.1 h;exact⟨iP.2 ⟨k1,k2,k3,ht,k5,k6⟩,hve,hk⟩
theorem FX{ru:ByteArray}{ve:Int}{L:List (ByteArray×ByteArray)}{se:Int}(h:hP ⟨0,ru,ve,L,0,se,⟨#[]⟩⟩=true)(hve:eW .i64 ve)(T:List Int):∀(A:List Int) (D:Ld) (out:List Pg),RW D→(∀t∈A,gU t=true) →
  RW (A.foldl (lM T ru ve L se) (D,out)).1∧∃Y,(A.foldl (lM T ru ve L se) (D,out)).1.M=D.M++Y∧(A.foldl (lM T ru ve L se) (D,out)).2=out++Y
 |[],D,out,hI,_=>⟨hI,[],(eX _).symm,(eX _).symm⟩
 |t::A,D,out,hI,hA=>by
  rw[List.foldl_cons]
  have ht:=hA t (cZ ..)
  have hA':∀t∈A,gU t=true:=fun u hu=>hA u (cN _ hu)
  have step:lM T ru ve L se (D,out) t=(D,out)∨∃kd,(kd=0∨kd=1∨kd=2)∧lM T ru ve L se (D,out) t=(gM D ⟨kd,ru,ve,L,t,se,⟨#[]⟩⟩,out++[⟨kd,ru,ve,L,t,se,⟨#[]⟩⟩]):=by
   unfold lM;dsimp only;cases (D.gp (lC ru ve (cH L) t)).getD false<;>cases decide (t∈T)
   ·exact .inl rfl
   ·exact .inr ⟨2,.inr (.inr rfl),rfl⟩
   ·exact .inr ⟨1,.inr (.inl rfl),rfl⟩
   ·exact .inl rfl
  rcases step with e|⟨kd,hk,e⟩
  ·rw[e];exact FX h hve T A D out hI hA'
  ·rw[e]
   obtain⟨h1,Y,h2,h3⟩:=FX h hve T A (gM D ⟨kd,ru,ve,L,t,se,⟨#[]⟩⟩) (out++[⟨kd,ru,ve,L,t,se,⟨#[]⟩⟩]) (ME hI (SZ h hve hk ht)) hA';refine⟨h1,⟨kd,ru,ve,L,t,se,⟨#[]⟩⟩::Y,?_,?_⟩
   ·rw[h2]
    show (D.M++[_])++Y=_
    rw[cF];rfl
   ·rw[h3,cF];rfl
theorem OX{D:Ld}(hI:RW D)(p:Pg)(T:List Int)(hve:eW .i64 p.ve):∃S D',GS D (iR p.ru p.ve (cH p.L)) S∧S.length≤D.M.length∧D'.M=(wO D.M p T).1∧RW D'∧(hP ⟨0,p.ru,p.ve,p.L,0,p.se,⟨#[]⟩⟩=true→∀t∈S,gU t=true) ∧
  ((hP ⟨0,p.ru,p.ve,p.L,0,p.se,⟨#[]⟩⟩&&T.all gU)=true→lA D p.ru p.ve p.L S T p.se=(aU aG 7 (wO D.M p T).2,D')) ∧
  ((hP ⟨0,p.ru,p.ve,p.L,0,p.se,⟨#[]⟩⟩&&T.all gU)=false→lA D p.ru p.ve p.L S T p.se=(.c (.p (.z (.slice none 0 0))),D')∧(wO D.M p T).2=[]):=by
 cases hq:hP ⟨0,p.ru,p.ve,p.L,0,p.se,⟨#[]⟩⟩ with
 |false=>
  obtain⟨S,h1,h2⟩:=hI.stg (iR p.ru p.ve (cH p.L))
  have hz:wO D.M p T=(D.M,[]):=by unfold wO;rw[hq];rfl
  refine⟨S,D,h1,h2,by rw[hz],hI,(fun h=>by cases h),(fun h=>by cases h),fun _=>⟨?_,by rw[hz]⟩⟩;unfold lA;rw[hq]
 |true=>
  obtain⟨S,hv,h2,h3⟩:=hI.vw p.ru p.ve p.L (iP.1 hq).2.2.1;cases hT:T.all gU with
  |false=>
   have hz:wO D.M p T=(D.M,[]):=by unfold wO;rw[hq,hT];rfl
   refine⟨S,D,hv.st,h2,by rw[hz],hI,fun _=>h3,(fun h=>by cases h),fun _=>⟨?_,by rw[hz]⟩⟩;unfold lA;rw[hq,hT]
  |true=>
   have hTt:∀t∈T,gU t=true:=fun t ht=>fN.1 hT t ht
   have hA:=pB (S++T)
   have hAt:∀t∈kU (iM (S++T)),gU t=true:=fun t ht=>by
    rcases dK.1 ((hA t).1 ht) with h|h
    ·exact h3 t h
    ·exact hTt t h
   obtain⟨i1,Y,i2,i3⟩:=FX hq hve T (kU (iM (S++T))) D [] hI hAt;obtain⟨S',k1,k2,_,_,_⟩:=wI T p.se (kU (iM (S++T))) D [] S _ hv (EY (qT _))
   have hY:Y=((kU (iM (S++T))).filter (nX (qU D.M p.ru p.ve p.L) T)).map (pU p.ru p.ve p.L p.se T):=by
    rw[i3]at k2;simpa using k2
   have hW:∀t,decide (t∈gF D.M p)=(qU D.M p.ru p.ve p.L t).getD false:=fun t=>by
    rw[Bool.eq_iff_iff,decide_eq_true_eq];exact oO hI.kds p t
   have hO:zR (gF D.M p) T p (nA (gF D.M p++T))=Y:=by
    rw[hY];unfold zR;congr 1
    refine qO ((qT _).sublist List.filter_sublist) ((qT _).sublist List.filter_sublist) fun t=>?_
    have hm:=pB (gF D.M p++T) t
    have hm:t∈nA (gF D.M p++T)↔t∈gF D.M p++T:=hm
    rw[List.mem_filter,List.mem_filter,hm,hA t,hW];unfold nX;constructor
    ·rintro⟨_,h2⟩
     refine⟨?_,h2⟩;rw[dK,hv.dom];cases hd:qU D.M p.ru p.ve p.L t with
     |some x=>exact .inl rfl
     |none=>
      rw[hd]at h2;exact .inr (by simpa using h2)
    ·rintro⟨_,h2⟩
     refine⟨?_,h2⟩;rw[dK]
     have:=hW t
     cases hd:(qU D.M p.ru p.ve p.L t).getD false with
     |true=>rw[hd]at this;exact .inl (by simpa using this)
     |false=>
      rw[hd]at h2;exact .inr (by simpa using h2)
   have hz:wO D.M p T=(D.M++Y,Y):=by unfold wO;rw[hq,hT,hO];rfl
   refine⟨S,_,hv.st,h2,by rw[hz];exact i2,i1,fun _=>h3,fun _=>?_,(fun h=>by cases h)⟩;unfold lA;rw[hq,hT,hz]
   show (aU aG 7 (nZ T p.ru p.ve p.L p.se D (kU (iM (S++T)))).2,_)=_
   unfold nZ;rw[i3];rfl
inductive zS:List Pg→Prop
 |nil:zS []
 |fire {M p}:zS M→KL p→p.kd=0→uE M p = -1→zS (M++[p])
 |undo {M p}:zS M→KL p→p.to=⟨#[]⟩→p.kd=1→(qU M p.ru p.ve p.L p.st).getD false=true→zS (M++[p])
 |late {M p}:zS M→KL p→p.to=⟨#[]⟩→p.kd=2→(qU M p.ru p.ve p.L p.st).getD false=false→zS (M++[p])
theorem zS.ok{M:List Pg}(h:zS M):∀p∈M,KL p:=by
 induction h with
 |nil=>intro p hp;cases hp
 |fire _ h1 _ _ ih=>intro q hq;rcases dK.1 hq with h|h;exact ih q h;rw[eO.1 h];exact h1
 |undo _ h1 _ _ _ ih=>intro q hq;rcases dK.1 hq with h|h;exact ih q h;rw[eO.1 h];exact h1
 |late _ h1 _ _ _ ih=>intro q hq;rcases dK.1 hq with h|h;exact ih q h;rw[eO.1 h];exact h1
theorem aJ6{M:List Pg}(h:zS M)(p:Pg)(hve:eW .i64 p.ve):zS (sI M p).1:=by
 unfold sI;split
 ·exact h
 ·rename_i h1
  split
  ·exact h
  ·rename_i h2
   split
   ·exact h
   ·rename_i h3
    have hk:p.kd=0:=Classical.byContradiction fun h=>h1 (.inr h)
    have hp:hP p=true:=by
     cases hq:hP p with
     |true=>rfl
     |false=>exact absurd (.inl hq) h1
    refine h.fire ⟨hp,hve,.inl hk⟩ hk ?_
    have hz:=SC M (fun q hq=>(h.ok q hq).2.2) p
    cases hpd:qU M p.ru p.ve p.L p.st with
    |none=>rw[hpd]at hz;exact hz
    |some b=>
     rw[hpd]at hz;cases b with
     |true=>exact absurd hz h2
     |false=>exact absurd hz h3
theorem aEM{ru:ByteArray}{ve:Int}{L:List (ByteArray×ByteArray)}{se:Int}(hq:hP ⟨0,ru,ve,L,0,se,⟨#[]⟩⟩=true)(hve:eW .i64 ve)(T:List Int):∀(A:List Int) (M:List Pg),zS M→A.Nodup→(∀t∈A,gU t=true∧(qU M ru ve L t).getD false≠decide (t∈T))→zS (M++A.map (pU ru ve L se T))
 |[],M,h,_,_=>by simpa using h
 |t::A,M,h,hn,hA=>by
  rw[List.nodup_cons]at hn;obtain⟨h1,h2⟩:=hA t (cZ ..)
  have key:zS (M++[pU ru ve L se T t]):=by
   cases hd:decide (t∈T) with
   |true=>
    have e:pU ru ve L se T t=⟨2,ru,ve,L,t,se,⟨#[]⟩⟩:=by unfold pU;rw[hd]
    rw[e];refine h.late (SZ hq hve (.inr (.inr rfl)) h1) rfl rfl ?_
    show (qU M ru ve L t).getD false=false
    rw[hd]at h2;simpa using h2
   |false=>
    have e:pU ru ve L se T t=⟨1,ru,ve,L,t,se,⟨#[]⟩⟩:=by unfold pU;rw[hd]
    rw[e];refine h.undo (SZ hq hve (.inr (.inl rfl)) h1) rfl rfl ?_
    show (qU M ru ve L t).getD false=true
    rw[hd]at h2;simpa using h2
  have:=aEM hq hve T A (M++[pU ru ve L se T t]) key hn.2 fun u hu=>by
   obtain⟨k1,k2⟩:=hA u (cN _ hu);refine⟨k1,?_⟩
   rw[EN,if_neg (fun h=>hn.1 (by have e:(pU ru ve L se T t).st=t:=rfl
                                 rw[←e,h.2.2.2];exact hu))]
   exact k2
  rw[List.map_cons];rw[cF]at this;exact this
theorem aJ7{M:List Pg}(h:zS M)(p:Pg)(T:List Int)(hve:eW .i64 p.ve):zS (wO M p T).1:=by
 unfold wO;cases hq:hP ⟨0,p.ru,p.ve,p.L,0,p.se,⟨#[]⟩⟩ with
 |false=>exact h
 |true=>
  cases hT:T.all gU with
  |false=>exact h
  |true=>
   have hk:∀q∈M,q.kd=0∨q.kd=1∨q.kd=2:=fun q hq=>(h.ok q hq).2.2
   show zS (M++zR (gF M p) T p (nA (gF M p++T)))
   unfold zR
   refine aEM hq hve T _ M h ((EY (qT _)).sublist List.filter_sublist) fun t ht=>?_
   rw[List.mem_filter]at ht;obtain⟨h1,h2⟩:=ht
   have hW:decide (t∈gF M p)=(qU M p.ru p.ve p.L t).getD false:=by
    rw[Bool.eq_iff_iff,decide_eq_true_eq];exact oO hk p t
   refine⟨?_,?_⟩
   ·have h1:=(pB _ t).1 h1
    rcases dK.1 h1 with h3|h3
    ·rw[oO hk]at h3
     cases hpd:qU M p.ru p.ve p.L t with
     |none=>rw[hpd]at h3;cases h3
     |some b=>
      unfold qU at hpd;rw[bD]at hpd;obtain⟨q,hq,_⟩:=hpd
      have hs:=List.find?_some hq
      have e:q.st=t:=(oJ.1 hs).2.2.2
      have hm:q∈M:=List.mem_reverse.1 (List.mem_of_find?_eq_some hq)
      have:=(iP.1 (h.ok q hm).1).2.2.2.1
      rw[e]at this;exact this
    ·exact fN.1 hT t h3
   ·rw[hW,bne_iff_ne]at h2
    exact h2
theorem UH{A:List Int}(hp:∀i,eW .i64 (mP A i).ve):∀n,zS (RU A n)
 |0=>.nil
 |n+1=>by
  show zS (xH A (RU A n) (13*n))
  unfold xH;split
  ·exact aJ7 (UH hp n) _ _ (hp _)
  ·exact aJ6 (UH hp n) _ (hp _)
theorem aCW(A:List Int)(i:Int):1≤(mP A i).ve∧(mP A i).ve≤2:=by
 have:=pQ (L:=A) (i:=i+1) (m:=8) (by omega)
 unfold mP;dsimp only;omega
theorem NZ(A:List Int)(i:Int):eW .i64 (mP A i).ve:=by
 have:=aCW A i
 unfold eW;omega
theorem XF(A:List Int):zS (ofZ A):=UH (NZ A) _
section
variable {P:Program} {G:Nat→Option Obj} {ops:Array Oper} {al:List AI} {N:Nat} {ext:Ext}
variable {F:St} {own:Nat→Nat→Prop} {β0 β:Bt} {R0 R:Nat→Prop} {w0 w:World} {listed:Array Bool} {a:Act}
def HF(st:St):nT→Option Nat
 |.load _ x=>match st.ev x with
  |.c (.ptr id _)=>some id
  |_=>none
 |_=>none
def kpP(st:St)(h':List AO):List AI→Prop
 |[]=>True
 |x::r=>(match HF st x.op with
  |some id=>pR (bC .gone st.h id)=true∧bC .gone h' id=bC .gone st.h id
  |none=>True)∧kpP st h' r
def FK(st:St):List AI→Bool
 |[]=>true
 |x::r=>kZ st x.op&&(!x.op.nw&&FK st r)
def aOI(x y:C)(k:Tr):Tr:=match x,y with
 |.p (.i a n),.p (.i b m)=>.rq (a=b∧n=m) k
 |.p (.s a),.p (.s b)=>.rq (a=b) k
 |.p (.b a),.p (.b b)=>.rq (a=b) k
 |.p (.l a n f),.p (.l b m g)=>.rq (a=b∧n=m∧f=g) k
 |.p (.z a),.p (.z b)=>.rq (a=b) k
 |_,_=>.fail
def aFI:List C→List C→Tr→Tr
 |[],[],k=>k
 |x::r,y::s,k=>aOI x y (aFI r s k)
 |_,_,_=>.fail
def kpT(st:St)(h':List AO):List AI→Tr→Tr
 |[],k=>k
 |x::r,k=>match HF st x.op with
  |some id=>match bC .gone st.h id,bC .gone h' id with
   |.cells t vs,.cells t' vs'=>nH (cA t t') (aFI vs vs' (kpT st h' r k))
   |_,_=>.fail
  |none=>kpT st h' r k
theorem VC{x y:C}{k:Tr}{K:X→St→Prop}(h:(aOI x y k).holds P G K):x=y∧k.holds P G K:=by
 unfold aOI at h;split at h
 ·obtain⟨⟨rfl,rfl⟩,h⟩:=h;exact⟨rfl,h⟩
 ·obtain⟨rfl,h⟩:=h;exact⟨rfl,h⟩
 ·obtain⟨rfl,h⟩:=h;exact⟨rfl,h⟩
 ·obtain⟨⟨rfl,rfl,rfl⟩,h⟩:=h;exact⟨rfl,h⟩
 ·obtain⟨rfl,h⟩:=h;exact⟨rfl,h⟩
 ·exact h.elim
theorem CE:∀ {xs ys:List C} {k:Tr} {K:X→St→Prop},(aFI xs ys k).holds P G K→xs=ys∧k.holds P G K
 |[],[],k,K,h=>⟨rfl,h⟩
 |x::r,y::s,k,K,h=>by
  obtain⟨h1,h2⟩:=VC h;obtain⟨h3,h4⟩:=CE h2;exact⟨by rw[h1,h3],h4⟩
 |[],_::_,k,K,h=>h.elim
 |_::_,[],k,K,h=>h.elim
theorem AU{st:St}{h':List AO}:∀ {l:List AI} {k:Tr} {K:X→St→Prop},(kpT st h' l k).holds P G K→kpP st h' l∧k.holds P G K
 |[],k,K,h=>⟨trivial,h⟩
 |x::r,k,K,h=>by
  simp only[kpT]at h;simp only[kpP];split at h
  ·rename_i id hid
   split at h
   ·rename_i t vs t' vs' e1 e2
    obtain⟨c1,c2⟩:=bZ h;obtain⟨c3,c4⟩:=CE c2;obtain⟨c5,c6⟩:=AU c4
    (try rw[hid])
    refine⟨⟨⟨by rw[e1];rfl,?_⟩,c5⟩,c6⟩;rw[e1,e2,c3,aS c1]
   ·exact h.elim
  ·rename_i hid
   obtain⟨c5,c6⟩:=AU h
   (try rw[hid])
   exact⟨⟨trivial,c5⟩,c6⟩
theorem JL{st:St}:∀ {l:List AI} {q:Nat} {x:AI},FK st l=true→l[q]?=some x→kZ st x.op=true∧x.op.nw=false
 |[],_,_,_,h=>by simp at h
 |y::r,0,x,h,hx=>by
  simp at hx;subst hx;simp only[FK,aQ,eQ]at h;exact⟨h.1,h.2.1⟩
 |y::r,q+1,x,h,hx=>by
  simp only[FK,aQ,eQ]at h;exact JL h.2.2 (by simpa using hx)
theorem XL{st:St}{h':List AO}:∀ {l:List AI} {q:Nat} {x:AI},kpP st h' l→l[q]?=some x→∀id,HF st x.op=some id→pR (bC .gone st.h id)=true∧bC .gone h' id=bC .gone st.h id
 |[],_,_,_,h=>by simp at h
 |y::r,0,x,h,hx=>by
  simp at hx;subst hx;intro id hid
  have h1:=h.1
  rw[hid]at h1;exact h1
 |y::r,q+1,x,h,hx=>XL (l:=r) (q:=q) h.2 (by simpa using hx)
theorem UL{op:nT}(hd:op.hd=true)(hn:op.nw=false){t:List V}{h h':List AO}(hl:kZ ⟨t,h⟩ op=true)(hc:∀id,HF ⟨t,h⟩ op=some id→pR (bC .gone h id)=true∧bC .gone h' id=bC .gone h id){k:V→List AO→Tr}{K:X→St→Prop}
  (hh:(iU (iO ext) ⟨t,h⟩ (fun v _=>k v h') op).holds P G K):(iU (iO ext) ⟨t,h'⟩ k op).holds P G K:=by
 cases op<;>simp only[nT.hd,nT.nw,Bool.false_eq_true,Bool.true_eq_false]at hd hn
 case load m x=>
  have e:∀y:AX,St.ev ⟨t,h'⟩ y=St.ev ⟨t,h⟩ y:=fun y=>by cases y<;>rfl
  simp only[iU,e]at hh ⊢;simp only[kZ]at hl;split at hh
  ·rename_i id off he
   obtain⟨c1,c2⟩:=hc id (by simp only[HF,he])
   (try rw[he])
   (try dsimp only at hh ⊢)
   split at hh
   ·rename_i ty vs hid
    rw[c2,hid];exact hh
   ·rename_i j b0 hid
    rw[hid]at c1;cases c1
   ·exact hh.elim
  ·rename_i he
   simp only[he]at hl;cases hl
  ·rename_i he
   (try rw[he])
   exact hh
  ·exact hh.elim
 case build z ps=>
  simp only[iU]at hh ⊢;rw[YC (h:=h') (h':=h)];exact hh
 case call f args=>
  simp only[iU]at hh ⊢;rw[WZ (h:=h') (h':=h)];exact hh
 case more o=>cases hl
 case look=>cases hl
 all_goals exact hh
theorem aIW{st:St}{op:nT}{x:AO}{mk:Nat→V}(h:uF st op=some (x,mk)):op.nw=true:=by
 cases op<;>simp only[uF]at h<;>first|rfl|cases h
theorem UK{st st':St}{op:nT}(h:dU st st' op.sls):HF st' op=HF st op:=by
 cases op<;>first|rfl|skip
 rename_i m x;simp only[HF];rw[cQ h]
theorem SX{ai:AI}{o:Nat→Prop}(hat:HU P G ext ai F o)(hd:ai.op.hd=true)(hlb:kZ F ai.op=true)(hnw:ai.op.nw=false){F2:St}(hck:∀id,HF F ai.op=some id→pR (bC .gone F.h id)=true∧bC .gone F2.h id=bC .gone F.h id)(htl:F2.t.length=F.t.length)
  (hs1:∀s∈ai.sls,bC (.c .top) F2.t s=bC (.c .top) F.t s) (hs2:∀s,ai.dst=some s→bC (.c .top) F2.t s=bC (.c .top) F.t s):HU P G ext ai F2 o:=by
 intro tM hag
 have hag1:dU F ⟨tM,F.h⟩ ai.sls:=fun s hs=>(hag s hs).trans (hs1 s hs)
 rcases hat tM hag1 with⟨hw,hd'⟩|⟨hw,v,hd',hk⟩|⟨hw,x,mk,id,hn,hd',hx,hid,ho⟩
 ·exact .inl ⟨hw,fun s h1 h2=>(hs2 s h1).trans (hd' s h1 (by omega))⟩
 ·refine .inr (.inl ⟨hw,v,fun s h1 h2=>(hs2 s h1).trans (hd' s h1 (by omega)),fun k' K' h=>?_⟩)
  refine UL hd hnw (AD (st:=F) (dU.right hag1) hlb) (fun id hid=>?_) (hk (fun v _=>k' v F2.h) K' h);rw[UK (st:=F) (dU.right hag1)]at hid;exact hck id hid
 ·rw[aIW hn]at hnw;cases hnw
structure GT (al:List AI) (N n:Nat) (e:List Bool):Prop where
 lt:∀i,fT e i→i<N
 up:∀i,fT e i→∃j x y d,i<j∧j<N∧(j=n∨fT e j)∧al[i]?=some x∧al[j]?=some y∧x.dst=some d∧d∈y.sls
theorem GR(hok:pM ops al N)(inv:HeadInv .any ops N listed){n:Nat}{e:List Bool}(he:GT al N n e){mm:AI}(hmm:al[n]?=some mm)(hrd:∀s∈AI.sls mm,∀j aj,j<N→al[j]?=some aj→aj.dst=some s→listed.getD j false=true):∀(k i:Nat),N-i≤k→fT e i→listed.getD i false=true:=by
 intro k;induction k with
 |zero=>intro i h1 h2;have:=he.lt i h2;omega
 |succ k ih=>
  intro i h1 h2;obtain⟨j,x,y,d,h3,h4,h5,h6,h7,h8,h9⟩:=he.up i h2
  rcases h5 with rfl|h5
  ·rw[hmm]at h7;injection h7 with h7;subst h7
   exact hrd d h9 i x (by omega) h6 h8
  ·have hj:=ih j (by omega) h5
   obtain⟨o,ho,e',he',hb,hon⟩:=dB (hok.dep j i y x d h7 h6 h4 (by omega) h8 h9)
   have:=inv.closed j o ho hj e' he' hb
   rwa [hon]at this
theorem PD{s s':St}{g:Option (Nat×Bool)}(h:∀j b,g=some (j,b)→bC (.c .top) s'.t j=bC (.c .top) s.t j):lQ s' g=lQ s g:=by
 cases g with
 |none=>rfl
 |some p=>
  obtain⟨j,b⟩:=p;simp only[lQ];rw[h j b rfl]
theorem YO(hext:bG P G ext)(hok:pM ops al N)(hal:fD P ops ops.toList=some al){u e:List Bool}{n:Nat}(hn:n<N∧¬fT u n)(hul:∀j,fT u j→j<N){mm:AI}(hmm:al[n]?=some mm){f:FuncId}{args:List AX}(hma:mm.op=.call f args)(hmg:lQ F mm.guard=some true){dM:Nat}(hmd:mm.dst=some dM)
  (hm1:∀i j x y d,fT u i→j<N→¬fT u j→al[i]?=some x→al[j]?=some y→y.dst=some d→d ∉ x.sls)
  (hz:FK F (jB (uG u e) al)=true) {kk:St→Tr} {K:X→St→Prop} (h:(iU ext F (fun v h'=>kpT F h' (jB (uG u e) al) (nH (dV (fG F.h) (fG h')) (kk ⟨mG F.t mm.dst v,h'⟩))) mm.op).holds P G K) {Q:Exit→Act→World→Prop}
  {o:Oper} (ho:ops[n]?=some o) (hrdy:n∈eH .any ops listed) (I:IZ P G ops al N ext u F own β0 R0 w0 listed a w β R) (hch:∀i,fT e i→listed.getD i false=true)
  (hrd:∀s∈AI.sls mm,∀j aj,j<N→al[j]?=some aj→aj.dst=some s→listed.getD j false=true) {K2:Act→World→Prop}
  (hK:∀st' own' a' w' β' R',(kk st').holds P G K→IZ P G ops al N ext (lV u (kN n)) st' own' β0 R0 w0 (listed.setIfInBounds n true) a' w' β' R'→(∀i ai,fT (lV u (kN n)) i→al[i]?=some ai→(listed.setIfInBounds n true).getD i false=false→kZ st' ai.op=true)→K2 a' w'):wpOp P ops Q n K2 a w:=by
 obtain⟨q1,o',q2,q3⟩:=mem_ready.1 hrdy;rw[ho]at q2;injection q2 with q2;subst q2
 have hns:n<ops.size:=(bH.1 ho).1
 have hun:=getD_both q1
 have hil:n<listed.size:=by rw[I.inv.size];exact hns
 obtain⟨ai,ha,hco⟩:=(gR hal).2 n o (by simpa using ho);rw[hmm]at ha;injection ha with ha;subst ha;simp only[pN,aV,aM,bE,aJ]at hco;obtain⟨aop,hop,g,hgd,rfl⟩:=hco;dsimp only at hma hmg hmd hz h;subst hma;obtain⟨tM,hsim,htM⟩:=I.dx.mask
 have hag0:∀s∈AI.sls ⟨o.dst,.call f args,g⟩,bC (.c .top) tM s=bC (.c .top) F.t s:=fun s hs=>htM s (fun j aj h1 h2 h3 h4=>by
  rw[hrd s hs j aj (hul j h1) h2 h4]at h3;cases h3)
 have hag:dU F ⟨tM,F.h⟩ (nT.call f args).sls:=fun s hs=>hag0 s (by simp[AI.sls,hs])
 unfold wpOp;simp only[ho]
 have hgw:lQ ⟨tM,F.h⟩ g=some true:=by
  rw[PD (s:=F) (s':=⟨tM,F.h⟩) (fun j b hjb=>hag0 j (by subst hjb;simp[AI.sls]))];exact hmg
 have hw':=kG (o:=o) (ai:=⟨o.dst,.call f args,g⟩) hsim hgd (b:=true) hgw
 rw[hw'];simp only[if_true];simp only[iU]at h;obtain⟨v,h',hkk,hv⟩:=hext.val _ _ _ _ _ h;obtain⟨hkp,hkk⟩:=AU hkk;obtain⟨hlen,hkk⟩:=bZ hkk
 have hlen:=gV hlen
 rw[eL,eL]at hlen
 have h1:(iU ext ⟨tM,F.h⟩ (fun v' h''=>.rq (v'=v∧h''=h') (.done .normal ⟨[],[]⟩)) (.call f args)).holds P G fun _ _=>True:=by
  simp only[iU];rw[rE (st:=F) (st':=⟨tM,F.h⟩) hag];exact hv _ _ ⟨⟨rfl,rfl⟩,trivial⟩
 refine .inl ((nO hsim hop hext h1).wp ?_);rintro x' w' ⟨β',R',x,hh,⟨⟨rfl,rfl⟩,_⟩,r2,r3,r4,r5⟩;rw[hmd]at hkk
 have slot:∀s,s≠dM→bC (.c .top) (eT x F.t dM) s=bC (.c .top) F.t s:=fun s hs=>cP _ _ _ (fun e=>hs e.symm)
 have unl:∀i,fT (lV u (kN n)) i→(listed.setIfInBounds n true).getD i false=false→fT u i∧i≠n∧listed.getD i false=false:=fun i hi hl=>by
  obtain⟨h3,h4⟩:=lR hl hil
  have hne:i≠n:=by first|exact h4|exact fun e=>h4 e.symm
  exact⟨(fV.1 hi).resolve_right (fun e=>hne (lP.1 e)),hne,h3⟩
 have late:∀i ai,fT u i→al[i]?=some ai→listed.getD i false=false→(kZ F ai.op=true∧ai.op.nw=false)∧∀id,HF F ai.op=some id→pR (bC .gone F.h id)=true∧bC .gone hh id=bC .gone F.h id:=fun i ai hi hai hl=>by
  have hc:bC false (uG u e) i=true:=by
   rw[yV]
   have h1:bC false u i=true:=hi
   rw[h1];cases hq:bC false e i with
   |false=>rfl
   |true=>rw[hch i hq]at hl;cases hl
  exact⟨JL hz (rA hc hai),XL hkp (rA hc hai)⟩
 refine hK ⟨eT x F.t dM,hh⟩ (fun i=>if i=n then fun _=>False else own i) _ w' β' R' hkk ⟨I.inv.set hrdy hn.1,fun i hi hiu=>?_,⟨I.dx.gr.trans r4,r3,?_,?_,?_,?_⟩,?_,?_,?_⟩ ?_
 ·have h2:¬fT u i:=fun e=>hiu (fV.2 (.inl e))
  have h3:i≠n:=fun e=>hiu (fV.2 (.inr (lP.2 e)))
  rw[getD_set_ne false (fun e=>h3 e.symm)];exact I.un i hi h2
 ·cases o.dst<;>exact I.dx.df
 ·rw[hmd]
  show (a.tmps.setIfInBounds dM x').size=(eT x F.t dM).length
  rw[Array.size_setIfInBounds,eV,cE];exact I.dx.sz
 ·intro s u' hu hnd
  rw[hmd]at hu
  have hu:(a.tmps.setIfInBounds dM x')[s]?=some u':=hu
  by_cases e:dM=s
  ·subst e
   have hss:dM<a.tmps.size:=by
    rcases cL dM a.tmps.size with h|h
    ·exact h
    ·rw[Array.getElem?_eq_none (by simpa using h)]at hu;cases hu
   simp[hss]at hu;subst hu
   show VR β' R' w' (bC (.c .top) (eT x F.t dM) dM) x'
   rw[eA _ _ _ (by rw[←I.dx.sz];exact hss)];exact r2
  ·have hu':a.tmps[s]?=some u':=by rwa [Array.getElem?_setIfInBounds_ne e]at hu
   show VR β' R' w' (bC (.c .top) (eT x F.t dM) s) u'
   rw[slot s (fun h=>e h.symm)];exact VR.keep r4.keeps (I.dx.sl s u' hu' (fun j aj hj hja hjl=>hnd j aj (fV.2 (.inl hj)) hja (by rw[getD_set_ne false (fun h=>hn.2 (by rw[h];exact hj))];exact hjl)))
 ·intro i hi hl id hid
  obtain⟨h2,h3,h4⟩:=unl i hi hl;rw[if_neg h3]at hid;rw[r5 id (I.ob i id h2 hid)];exact I.dx.fr i h2 h4 id hid
 ·intro i ai hi hai hl
  obtain⟨h2,h3,h4⟩:=unl i hi hl;rw[if_neg h3];obtain⟨q4,q5⟩:=I.opAt i ai h2 hai h4;obtain⟨⟨q6,q7⟩,q8⟩:=late i ai h2 hai h4;exact⟨SX q4 q5 q6 q7 q8 (by show (eT x F.t dM).length=_;rw[eV,cE]) (fun s hs=>slot s fun e=>hm1 i n ai _ dM h2 hn.1 hn.2 hai hmm hmd (e▸hs)) (fun s hs=>slot s fun e=>hok.dst i n ai _ s hai hmm (hul i h2) hn.1 h3 hs (by rw[hmd,e])),q5⟩
 ·intro i j id hi hj hne h1 h2
  by_cases ei:i=n
  ·rw[if_pos ei]at h1;exact h1
  by_cases ej:j=n
  ·rw[if_pos ej]at h2;exact h2
  rw[if_neg ei]at h1;rw[if_neg ej]at h2;exact I.od i j id ((fV.1 hi).resolve_right (fun e=>ei (lP.1 e))) ((fV.1 hj).resolve_right (fun e=>ej (lP.1 e))) hne h1 h2
 ·intro i id hi hid
  by_cases ei:i=n
  ·rw[if_pos ei]at hid;exact hid.elim
  rw[if_neg ei]at hid
  have:=I.ob i id ((fV.1 hi).resolve_right (fun e=>ei (lP.1 e))) hid
  show id<hh.length
  omega
 ·intro i ai hi hai hl
  obtain⟨h2,h3,h4⟩:=unl i hi hl
  have q6:=(late i ai h2 hai h4).1.1
  refine AD (st:=F) (fun s hs=>?_) q6
  exact slot s fun e=>hm1 i n ai _ dM h2 hn.1 hn.2 hai hmm hmd (e▸(by simp[AI.sls,hs]))
def aEV:nT→Bool
 |.call .. => true
 |_=>false
noncomputable def aCI(ext:Ext)(al:List AI)(kT:St→Tr):List Bool→List (List Bool×List Bool×Nat)→List Bool→St→Tr
 |_,[],m,st=>iY (iO ext) (jB m al) st kT
 |v,(m,e,n)::r,mE,st=>iY (iO ext) (jB m al) st fun st1=>match EX al n with
  |some mm=>match lQ st1 mm.guard with
   |some true=>nH (aEV mm.op&&(isS mm.dst&&FK st1 (jB (uG (lV v m) e) al))) (iU ext st1 (fun x h'=>kpT st1 h' (jB (uG (lV v m) e) al) (nH (dV (fG st1.h) (fG h')) (aCI ext al kT (lV (lV v m) (kN n)) r mE ⟨mG st1.t mm.dst x,h'⟩))) mm.op)
   |_=>.fail
  |none=>.fail
def DI(ops:Array Oper)(al:List AI)(N:Nat):List Bool→List (List Bool×List Bool×Nat)→List Bool→Prop
 |v,[],m=>pC ops al N v m∧∀i,i<N→fT (lV v m) i
 |v,(m,e,n)::r,mE=>pC ops al N v m∧xV ops al N (lV v m) n∧GT al N n e∧DI ops al N (lV (lV v m) (kN n)) r mE
theorem NN(hext:bG P G ext)(hok:pM ops al N)(hal:fD P ops ops.toList=some al){kT:St→Tr}{K:X→St→Prop}{Q:Exit→Act→World→Prop}
  (hT:∀st' a w β R,(kT st').holds P G K→iB G β R st' a w→Gr β0 R0 w0 β R w→wpList P ops Q (ops.toList.drop N) a w) :
  ∀(r:List (List Bool×List Bool×Nat)) (v mE:List Bool) (st:St) (own:Nat→Nat→Prop) (listed:Array Bool) (a:Act) (w:World) (β:Bt) (R:Nat→Prop),DI ops al N v r mE→(aCI ext al kT v r mE st).holds P G K→IZ P G ops al N ext v st own β0 R0 w0 listed a w β R→(∀i ai,fT v i→al[i]?=some ai→listed.getD i false=false→kZ st ai.op=true)→wpAny P .any ops Q (pJ listed N+(ops.size-N)) listed a w
 |[],v,mE,st,own,listed,a,w,β,R,hS,h,I,hl=>by
  obtain⟨hst,hall⟩:=hS
  obtain⟨S,h0,hk0,hstep⟩:=kY hext (jB mE al) st (fun ai hai=>by
   obtain⟨q,hq⟩:=dO.1 hai;obtain⟨j,h1,h2,_⟩:=lF hq
   exact hst.hd j ai h1 h2) h
  have hr:xX P G ext (jB mE al) (jB mE al).length S:=⟨aW _,fun i ai _ ha=>hstep i ai ha⟩
  obtain⟨own',I'⟩:=oI hok hst h0 rfl hr I hl;exact aOJ hext hok hal hall (fun j hj=>by rcases fV.1 hj with h|h;exact hst.vlt j h;exact hst.mlt j h) (fun a w β R s1 s2=>hT _ a w β R hk0 s1 s2) _ listed a w β R rfl I'
 |(m,e,n)::r,v,mE,st,own,listed,a,w,β,R,hS,h,I,hl=>by
  obtain⟨hst,hn,he,hS⟩:=hS
  obtain⟨S,h0,hk0,hstep⟩:=kY hext (jB m al) st (fun ai hai=>by
   obtain⟨q,hq⟩:=dO.1 hai;obtain⟨j,h1,h2,_⟩:=lF hq
   exact hst.hd j ai h1 h2) h
  have hr:xX P G ext (jB m al) (jB m al).length S:=⟨aW _,fun i ai _ ha=>hstep i ai ha⟩
  obtain⟨own',I'⟩:=oI hok hst h0 rfl hr I hl
  have hul:∀j,fT (lV v m) j→j<N:=fun j hj=>by rcases fV.1 hj with h|h;exact hst.vlt j h;exact hst.mlt j h
  rw[oX]at hk0;split at hk0
  case h_2=>exact hk0.elim
  rename_i mm hmm;split at hk0
  case h_2=>exact hk0.elim
  rename_i hmg;obtain⟨c1,hk⟩:=bZ hk0;simp only[aQ]at c1;obtain⟨c1,c3,c4⟩:=c1
  obtain⟨f,args,hma⟩:∃f args,mm.op=.call f args:=by
   cases hq:mm.op<;>rw[hq]at c1<;>first|exact⟨_,_,rfl⟩|cases c1
  obtain⟨dM,hmd⟩:∃d,mm.dst=some d:=by
   cases hg:mm.dst with
   |some d=>exact⟨d,rfl⟩
   |none=>rw[hg]at c3;cases c3
  refine aEL hext hok hal hn hul ?_ _ listed a w β R rfl I';intro listed a w β R o ho hrdy I2 _ hrd
  rw[hmm]at hrd;refine YO hext hok hal ⟨hn.nN,hn.nu⟩ hul hmm hma hmg hmd (fun i j x y d hi hj hnj=>hst.m1 i j x y d (fV.1 hi) hj (fun e=>hnj (fV.2 e))) c4 (kk:=fun st'=>aCI ext al kT (lV (lV v m) (kN n)) r mE st') hk ho hrdy I2 (fun i hi=>GR hok I2.inv he hmm hrd N i (by omega) hi) hrd ?_;intro st' own'' a' w' β' R' hk' I3 hl3
  have hns:n<ops.size:=(bH.1 ho).1
  obtain⟨q1,_⟩:=mem_ready.1 hrdy
  have hc:=lX (listed:=listed) (i:=n) (by rw[I2.inv.size];exact hns) (getD_both q1) hn.nN
  rw[show pJ listed N-1=pJ (listed.setIfInBounds n true) N by omega];exact NN hext hok hal hT r _ mE st' own'' _ a' w' β' R' hS hk' I3 hl3
theorem SP(hext:bG P G ext){id:Nat}(hm:P.follows .mixedOrders=true)(hal:fD P ops ops.toList=some al)(hok:pM ops al N){r:List (List Bool×List Bool×Nat)}{m:List Bool}(hS:DI ops al N [] r m){st:St}{kT:St→Tr}{K:X→St→Prop}
  (h:(aCI ext al kT [] r m st).holds P G K) {Q:Exit→Act→World→Prop} {a:Act} {w:World} (hs:iB G β R st a w)
  (hT:∀st' a' w' β' R',(kT st').holds P G K→iB G β' R' st' a' w'→Gr β R w β' R' w'→wpList P ops Q (ops.toList.drop N) a' w'):(Code.region id ops true).wp P Q a w:=by
 refine wp_region_any hm ?_;obtain⟨hs',hg⟩:=hs.drawn (w.drawn+1)
 have no:∀i,¬fT [] i:=fun i h=>by cases i<;>cases h
 have key:=NN (β0:=β) (R0:=R) (w0:=w) (Q:=Q) hext hok hal hT r [] m st (fun _ _=>False) (iJ ops.size false) a { w with drawn:=w.drawn+1 } β R hS h ⟨⟨by simp,fun j oj _ hl=>(by rw[getD_replicate_false]at hl;cases hl),fun t _ ht=>getD_in (by simpa using ht) (getD_replicate_false _ _)⟩,fun i _ _=>getD_replicate_false _ _,⟨hg,hs'.hs,hs.df,by have:=hs'.tm.length;simpa using this.symm,fun s u hu _=>?_,fun i hi=>absurd hi (no i)⟩,fun i ai hi=>absurd hi (no i),fun i j id hi=>absurd hi (no i),fun i id hi=>absurd hi (no i)⟩ (fun i ai hi=>absurd hi (no i))
 ·rwa [rM hok.le,show N+(ops.size-N)=ops.size by have:=hok.le;omega]at key
 ·have hv:=bW (x:=.tmp s) hs' rfl
  have e:a.eval (.tmp s)=u:=by show a.tmps.getD s undef=u;simp[hu]
  rw[e]at hv;exact hv
def aOL(al:List AI)(N:Nat):Bool:=nB N fun j=>nB (j+1) fun i => !CL (zK al j) (CJ al i)
theorem IL{n:Nat}(h:EI ops.toList al n=true)(hN:n≤al.length)(hd:aOL al n=true)(hl:al.length=ops.size):pM ops al n:=by
 have hr:=NR h
 have hb:=hr.toRegB
 refine⟨hb.back,fun i j x y d h1 h2 h3 h4=>hb.dst i j x y d h1 h2 h3 h4,fun i j x y d h1 h2 h3 h4 h5 h6=>?_,fun i h1 h2=>?_,fun t h1 h2=>?_,hl,by omega⟩
 ·rcases hb.dep i j x y d h1 h2 h3 h4 h5 h6 with h7|h7
  ·exact h7
  ·obtain⟨o,ho,e,he,hbi,hon⟩:=dB h7
   have hlt:=hb.back j o ho e he hbi
   rw[hon]at hlt
   have:=kB (kB hd j h4) i (by omega)
   rw[zJ h2,KU h1,h5,yW.2 h6]at this;cases this
 ·rcases hr.tl with h3|⟨h3,_⟩
  ·omega
  ·unfold Region.sinkB at h3
   rw[fN]at h3
   have:=h3 i (List.mem_range.2 h1)
   rw[List.any_eq_true]at this;obtain⟨j,hj,hq⟩:=this
   have hj:=List.mem_range.1 hj
   simp only[aQ,decide_eq_true_eq]at hq;exact⟨j,hq.1,by omega,hq.2⟩
 ·rcases hr.tl with h3|⟨_,h3⟩
  ·omega
  ·have:=fN.1 h3 t (List.mem_range.2 h2)
   simp only[bU,decide_eq_true_eq]at this
   rcases this with h|h
   ·omega
   ·exact h
def WW(al:List AI)(N:Nat)(u:List Bool)(n:Nat):Bool:=
 Nat.blt n N&&(!(bC false u n)&&nB N (fun i=>bC false u i||(cA i n || !nB i (fun j=>bC false u j || !CL (zK al j) (CJ al i)))))
theorem AM{d:Option Nat}{l:List Nat}(h:CL d l=true):∃a,d=some a∧a∈l:=by
 cases d with
 |none=>cases h
 |some a=>exact⟨a,rfl,yW.1 h⟩
theorem VD{al:List AI}{j d:Nat}(h:zK al j=some d):∃x,al[j]?=some x∧x.dst=some d:=by
 unfold zK at h;rw[oX]at h;cases hx:al[j]? with
 |none=>rw[hx]at h;cases h
 |some x=>rw[hx]at h;exact⟨x,rfl,h⟩
theorem SD{al:List AI}{i d:Nat}(h:d∈CJ al i):∃x,al[i]?=some x∧d∈x.sls:=by
 unfold CJ at h;rw[oX]at h;cases hx:al[i]? with
 |none=>rw[hx]at h;cases h
 |some x=>rw[hx]at h;exact⟨x,rfl,h⟩
theorem OK(hok:pM ops al N){u:List Bool}{n:Nat}(h:WW al N u n=true):xV ops al N u n:=by
 unfold WW at h;simp only[aQ]at h;obtain⟨h1,h2,h3⟩:=h;refine⟨by simpa using h1,fun e=>(by rw[show bC false u n=true from e]at h2;cases h2),fun i hi hu hne=>?_⟩
 have:=kB h3 i hi
 have e1:cA i n=false:=by
  cases hq:cA i n with
  |false=>rfl
  |true=>exact absurd (aS hq) hne
 rw[show bC false u i=false by simpa[fT] using hu,e1]at this;simp only[Bool.false_or,eQ]at this;obtain⟨j,h4,h5⟩:=vM this;simp only[Bool.or_eq_false_iff,fX]at h5;obtain⟨d,h6,h7⟩:=AM h5.2;obtain⟨y,h8,h9⟩:=VD h6;obtain⟨x,h10,h11⟩:=SD h7;exact⟨j,h4,fun e=>(by rw[show bC false u j=true from e]at h5;cases h5.1),hok.dep i j x y d h10 h8 hi (by omega) h9 h11⟩
def aBH(al:List AI)(N n:Nat)(e:List Bool):Bool:=dV (fG e) N&&(Nat.blt n N&&nB N fun i => !bC false e i || !nB N fun j => !(Nat.blt i j&&((cA j n||bC false e j)&&CL (zK al i) (CJ al j))))
theorem DH{n:Nat}{e:List Bool}(h:aBH al N n e=true):GT al N n e:=by
 unfold aBH at h;simp only[aQ]at h;obtain⟨h1,h2,h3⟩:=h
 have h1:=gV h1
 have lt:∀i,fT e i→i<N:=fun i hi=>by have:=MD hi;omega
 refine⟨lt,fun i hi=>?_⟩
 have:=kB h3 i (lt i hi)
 rw[show bC false e i=true from hi]at this;simp only[Bool.not_true,Bool.false_or,eQ]at this;obtain⟨j,h4,h5⟩:=vM this;simp only[fX,aQ,bU]at h5;obtain⟨h5,h6,h7⟩:=h5;obtain⟨d,h8,h9⟩:=AM h7;obtain⟨x,h10,h11⟩:=VD h8;obtain⟨y,h12,h13⟩:=SD h9;refine⟨j,x,y,d,by simpa using h5,h4,?_,h10,h12,h11,h13⟩
 rcases h6 with h6|h6
 ·exact .inl (aS h6)
 ·exact .inr h6
def yG(al:List AI)(N:Nat):List Bool→List (List Bool×List Bool×Nat)→List Bool→Bool
 |v,[],m=>sM al N v m&&nB N (bC false (lV v m))
 |v,(m,e,n)::r,mE=>sM al N v m&&(WW al N (lV v m) n&&(aBH al N n e&&yG al N (lV (lV v m) (kN n)) r mE))
theorem DW(hok:pM ops al N):∀ {r:List (List Bool×List Bool×Nat)} {v mE:List Bool},yG al N v r mE=true→DI ops al N v r mE
 |[],v,mE,h=>by
  simp only[yG,aQ]at h;exact⟨qB h.1,fun i hi=>kB h.2 i hi⟩
 |(m,e,n)::r,v,mE,h=>by
  simp only[yG,aQ]at h;exact⟨qB h.1,OK hok h.2.1,DH h.2.2.1,DW hok h.2.2.2⟩
def aFK(n:Nat):Nat→List Nat→List AI→List Bool
 |_,_,[]=>[]
 |i,ws,x::r=>match cA i n||uI (fun s=>pF s ws) x.sls with
  |true=>true::aFK n (i+1) (match x.dst with
   |some d=>d::ws
   |none=>ws) r
  |false=>false::aFK n (i+1) ws r
def aUM(b:Bool)(x:AI):List Bool×List Nat→List Bool×List Nat
 |(bs,ns)=>match b with
  |true=>(false::bs,x.sls)
  |false=>match CL x.dst ns with
   |true=>(true::bs,x.sls++ns)
   |false=>(false::bs,ns)
def VO(n:Nat):Nat→List AI→List Bool×List Nat
 |_,[]=>([],[])
 |i,x::r=>aUM (cA i n) x (VO n (i+1) r)
def zN{α:Type}:List α→List α→List α
 |[],m=>m
 |x::r,m=>x::zN r m
theorem GP{α:Type}:∀l m:List α,zN l m=l++m
 |[],_=>rfl
 |x::r,m=>by simp[zN,GP r m]
def JS:List Bool→List Bool→List Bool
 |_,[]=>[]
 |[],y::s=>(!y)::JS [] s
 |x::r,y::s=>(!x && !y)::JS r s
def aMJ(al:List AI):List Bool→List Nat→List (List Bool×List Bool×Nat)
 |_,[]=>[]
 |v,n::r=>(JS v (aFK n 0 [] al),(VO n 0 al).1,n)::aMJ al (lV (lV v (JS v (aFK n 0 [] al))) (kN n)) r
def aOK(al:List AI):List Bool→List Nat→List Bool
 |v,[]=>JS v (al.map fun _=>false)
 |v,n::r=>aOK al (lV (lV v (JS v (aFK n 0 [] al))) (kN n)) r
noncomputable def aGY(ext:Ext)(hd tl:List AI)(ns:List Nat)(st:St):Tr:=aCI ext (zN hd tl) (fun s=>iY ext tl s fun s'=>.done .normal s') [] (aMJ hd [] ns) (aOK hd [] ns) st
def aCQ(hd tl:List AI)(ns:List Nat):Bool:=aOL (zN hd tl) (fG hd)&&yG (zN hd tl) (fG hd) [] (aMJ hd [] ns) (aOK hd [] ns)
theorem NP{hd tl:List AI}{st:St}{K1:X→St→Prop}(hK:∀id ops,P.follows .mixedOrders=true→fD P ops ops.toList=some (hd++tl)→EI ops.toList (hd++tl) hd.length=true→Ex P G (.region id ops true) st K1):∀c:Code,fE P c=some (.regd hd tl)→Ex P G c st K1:=by
 intro c;induction c with
 |region id ops draw=>
  intro h;simp only[fE]at h;split at h
  case h_2=>cases h
  rename_i ac' hc;injection h with h;subst h;cases draw with
  |false=>
   simp only[HQ,bD]at hc;obtain⟨x,_,hc⟩:=hc;cases hc
  |true=>
   simp only[HQ]at hc;split at hc
   ·rename_i hm
    simp only[aV,aM,bE,aJ]at hc;obtain⟨al',h1,hc⟩:=hc;split at hc
    ·rename_i n h2
     injection hc with hc;injection hc with hc1 hc2;obtain⟨h3,h4⟩:=FZ h2;rw[eL]at h4;rw[zL]at hc2;rw[yD]at hc1
     have e1:hd++tl=al':=by rw[←hc1,←hc2];exact fL n al'
     have e2:hd.length=n:=by rw[←hc1,eR];omega
     exact hK id ops hm (by rw[e1];exact h1) (by rw[e1,e2];exact h3)
    ·repeat' (first|(cases hc;done)|(injection hc with hc;cases hc;done)|split at hc)
   ·cases hc
 |scope c ih=>
  intro h;exact GB (ih (by simpa[fE] using h))
 |_=>
  intro h;exfalso;simp[fE,aM,bD]at h
theorem kM.regdC{ext:Ext}(hext:bG P G ext){hd tl:List AI}{ns:List Nat}(hB:aCQ hd tl ns=true){st:St}{K1:X→St→Prop}(hh:(aGY ext hd tl ns st).holds P G K1):kM P G (.regd hd tl) st K1:=by
 refine NP fun id ops hm hal hro=>?_
 unfold aCQ at hB;unfold aGY at hh;rw[GP]at hB hh;rw[aQ,eL]at hB
 have hl:(hd++tl).length=ops.size:=by simpa using (gR hal).1
 have hok:=IL hro (by simp) hB.1 hl
 intro β R a w hs;refine SP hext hm hal hok (DW hok hB.2) hh hs ?_;intro st' a' w' β' R' hk hs' hg
 have hdr:=nS hd.length hal
 rw[List.drop_left]at hdr;exact kW hext (ops.toList.drop hd.length) tl st' a' w' β' R' hdr hk hs' (fun a2 w2 β2 R2 st2 q1 q2 q3=>⟨β2,R2,st2,q1,q2,(hg.trans q3).toFr,(hg.trans q3).rm⟩)
theorem eG.regdC{rs:List AR}{v:V}{ext:Ext}(hext:bG P G ext){hd tl:List AI}{ns:List Nat}(hB:aCQ hd tl ns=true){l r':List dQ}{st:St}{Q:X→St→Prop}(hl:l=.regd hd tl::r'){tree:Tr}
  (ht:aGY ext hd tl ns st=tree) (h:tree.holds P G fun e s=>e=.normal∧eG P G rs v r' s Q):eG P G rs v l st Q:=by
 subst hl;subst ht;refine kM.mono (kM.regdC hext hB h) ?_;rintro e s ⟨rfl,h⟩;exact h
def ZK:dQ→List AI
 |.regd al _=>al
 |_=>[]
def aH3:dQ→List AI
 |.regd _ tl=>tl
 |_=>[]
end
end Go.AE
