import Derived.Test.YtfjihbmehhccoaaF3
set_option linter.unusedVariables false
set_option linter.unusedSimpArgs false
namespace Go.AE
open _root_.Array renaming getElem?_eq_some_iff→bL,getElem?_toList→cK,replicate→jB,toList_inj→fN
open _root_.Bool renaming and_eq_true→aO,not_eq_false'→gA,not_eq_true'→eP,or_eq_true→cC
open _root_.ByteArray renaming mk→aG
open _root_.Int renaming ofNat→dI
open IntKind renaming i64→aC
open _root_.List renaming all_eq_true→fL,append_assoc→dW,append_nil→fP,drop_eq_getElem_cons→dX,getD_eq_getElem?_getD→aD,getElem?_append_left→cD,getElem?_append_right→cR,getElem?_eq_getElem→aM,getElem_of_mem→fU,length_append→aV,length_cons→eB,length_set→cB,length_take→cU,mem_append→dF,mem_cons_of_mem→cM,mem_cons_self→cY,mem_iff_getElem?→eU,mem_singleton→eN,take_append_drop→gS,take_length→fS
open _root_.Nat renaming beq→cA,ble→eI,eq_of_beq_eq_true→aR,le_of_ble_eq_true→iE,le_refl→aW,lt_or_ge→cS,zero_add→dB,zero_le→bW
open _root_.Option renaming bind_eq_bind→aT,bind_eq_some_iff→aK,map_eq_some_iff→bC,pure_def→bD,some.injEq→aH
open Region renaming ready→eY,waitsFor→cV,waitsFor_spec→dU
open _root_.Go.Proofs.Try renaming f12→iZ,f22→gY,prog→aB
open Value renaming slice→bA
open Go.Proofs Go.Proofs.Ytfjihbmehhccoaa Gp Go.RowKit
def KH:Mod
 |[x]=>match wC x with
  |some (p,a)=>some (p,bV (hJ a))
  |none=>none
 |_=>none
def sU(M:List Pg)(p:Pg):Int:=match M.reverse.find? fun q=>jZ q p with
 |some q=>q.kd
 |none => -1
def aHD(M:List Pg):Mod
 |[x,y]=>match leL x M,wC y with
  |some p,some (q,a)=>some ((p∧q)∧M.length≤1000000∧a.L.length≤1000000,iV (sU M a))
  |_,_=>none
 |_=>none
def aJV:Ext:=jV [(79,VH),(80,EJ),(51,AV)]
def aK1(M:List Pg):Ext:=jV [(50,KH),(56,aHD M),(54,VK M)]
def aJN(M:List Pg):Ext:=jV [(55,KD),(56,aHD M)]
def aDL:Ext:=jV [(52,aM7)]
def aJL:Ext:=jV [(21,MY)]
theorem aKV(a:Int):FH eW (kM aB Try.f51) (nH Try.f51 [iV a]) (lL [] [] (bI aB Try.f51))=bT (decide (0≤a)) (.done .ret (St.mk [V.c (C.p (PV.b (decide (a≤1048576))))] [])) (.done .ret (St.mk [V.c (C.p (PV.b false))] [])):=by kernel_rfl
theorem aNY(p:Pg):dC aJV (cW aB Try.f50) (nH Try.f50 [.a [.p (.i .i64 p.kd),.p (.s p.ru),.p (.i .i64 p.ve),.p (bY aN 2 p.L),.p (.i .i64 p.st),.p (.i .i64 p.se),.p (.s p.to)]]) (lL [] [] (bI aB Try.f50))=Tr.rq True
 (.rq (kA aN 2 (bO cT p.L.length (aE aN p.L)) p.L.length (aE aN p.L))
 (.rq True
 (.rq True
 (bT (jC p.ru)
 (bT (lO (fun k=>(bO cT p.L.length (aE aN p.L)).getD k default) p.L.length)
 (bT (gQ p.st)
 (bT (gQ p.se) (bT (decide (1≤p.ve)) (.done .ret (St.mk [V.c (C.p (PV.b (decide ((↑p.to.size:Int)≤16))))] [])) (.done .ret (St.mk [V.c (C.p (PV.b false))] [])))
 (.done .ret (St.mk [V.c (C.p (PV.b false))] [])))
 (.done .ret (St.mk [V.c (C.p (PV.b false))] [])))
 (.done .ret (St.mk [V.c (C.p (PV.b false))] [])))
 (.done .ret (St.mk [V.c (C.p (PV.b false))] [])))))):=by kernel_rfl
theorem aNN(M:List Pg)(p:Pg):dC eW (dH 2 (cW aB Try.f56)) (nH Try.f56 [.a [.p (bY aI 7 M)],.a [.p (.i .i64 p.kd),.p (.s p.ru),.p (.i .i64 p.ve),.p (bY aN 2 p.L),.p (.i .i64 p.st),.p (.i .i64 p.se),.p (.s p.to)]]) (iA (eZ 29 [2,3,5]) (bI aB Try.f56))=Tr.rq (eV aC ((↑M.length:Int)-1))
 (.done .normal
 (bS 29 [(2,.c (.ptr 0 0)),(3,.c (.ptr 1 0)),(5,.c (.p (.i .i64 ((↑M.length:Int)-1))))] [.cells 27 [.p (.l 7 M.length (aE aI M))],.cells 31 [.p (.i .i64 p.kd),.p (.s p.ru),.p (.i .i64 p.ve),.p (.l 2 p.L.length (aE aN p.L)),.p (.i .i64 p.st),.p (.i .i64 p.se),.p (.s p.to)]])):=by kernel_rfl
theorem aNM(M:List Pg)(p:Pg)(i:Nat):dC TJ (gR (cW aB Try.f56) 2) (bS 29 [(2,.c (.ptr 0 0)),(3,.c (.ptr 1 0)),(5,iV ((i:Int)-1))] [.cells 27 [.p (bY aI 7 M)],.cells 31 [.p (.i .i64 p.kd),.p (.s p.ru),.p (.i .i64 p.ve),.p (bY aN 2 p.L),.p (.i .i64 p.st),.p (.i .i64 p.se),.p (.s p.to)]]) (iA (eZ 29 [2,3,5]) (bI aB Try.f56))=bT (decide (0≤(↑i:Int)-1))
 (.rq (0≤(↑i:Int)-1∧(↑i:Int)-1<(↑M.length:Int))
 (.rq
 ((kA aN 2 (bO cT (M.getD ((↑i:Int)-1).toNat default).L.length (aE aN (M.getD ((↑i:Int)-1).toNat default).L)) (M.getD ((↑i:Int)-1).toNat default).L.length
 (aE aN (M.getD ((↑i:Int)-1).toNat default).L) ∧
 kA aN 2 (bO cT p.L.length (aE aN p.L)) p.L.length (aE aN p.L)) ∧
 ((Pg.mk (M.getD ((↑i:Int)-1).toNat default).kd (M.getD ((↑i:Int)-1).toNat default).ru (M.getD ((↑i:Int)-1).toNat default).ve
 (bO cT (M.getD ((↑i:Int)-1).toNat default).L.length (aE aN (M.getD ((↑i:Int)-1).toNat default).L)) (M.getD ((↑i:Int)-1).toNat default).st
 (M.getD ((↑i:Int)-1).toNat default).se (M.getD ((↑i:Int)-1).toNat default).to).L.length ≤
 1000000 ∨
 (Pg.mk p.kd p.ru p.ve (bO cT p.L.length (aE aN p.L)) p.st p.se p.to).L.length≤1000000))
 (bT
 (jZ
 (Pg.mk (M.getD ((↑i:Int)-1).toNat default).kd (M.getD ((↑i:Int)-1).toNat default).ru (M.getD ((↑i:Int)-1).toNat default).ve
 (bO cT (M.getD ((↑i:Int)-1).toNat default).L.length (aE aN (M.getD ((↑i:Int)-1).toNat default).L)) (M.getD ((↑i:Int)-1).toNat default).st
 (M.getD ((↑i:Int)-1).toNat default).se (M.getD ((↑i:Int)-1).toNat default).to)
 (Pg.mk p.kd p.ru p.ve (bO cT p.L.length (aE aN p.L)) p.st p.se p.to))
 (.rq (0≤(↑i:Int)-1∧(↑i:Int)-1<(↑M.length:Int)) (.done .ret (St.mk [V.c (C.p (PV.i aC (M.getD ((↑i:Int)-1).toNat default).kd))] [])))
 (.rq (eV aC ((↑i:Int)-1-1))
 (.done .normal
 (bS 29 [(2,.c (.ptr 0 0)),(3,.c (.ptr 1 0)),(5,.c (.p (.i .i64 ((↑i:Int)-1-1))))] [.cells 27 [.p (.l 7 M.length (aE aI M))],.cells 31 [.p (.i .i64 p.kd),.p (.s p.ru),.p (.i .i64 p.ve),.p (.l 2 p.L.length (aE aN p.L)),.p (.i .i64 p.st),.p (.i .i64 p.se),.p (.s p.to)]]))))))
 (.done (.exit 0)
 (bS 29 [(2,.c (.ptr 0 0)),(3,.c (.ptr 1 0)),(5,.c (.p (.i .i64 ((↑i:Int)-1))))] [.cells 27 [.p (.l 7 M.length (aE aI M))],.cells 31 [.p (.i .i64 p.kd),.p (.s p.ru),.p (.i .i64 p.ve),.p (.l 2 p.L.length (aE aN p.L)),.p (.i .i64 p.st),.p (.i .i64 p.se),.p (.s p.to)]])):=by kernel_rfl
theorem aNL(M:List Pg)(p:Pg)(i:Nat):dC eW (bJ 3 (cW aB Try.f56)) (bS 29 [(2,.c (.ptr 0 0)),(3,.c (.ptr 1 0)),(5,iV ((i:Int)-1))] [.cells 27 [.p (bY aI 7 M)],.cells 31 [.p (.i .i64 p.kd),.p (.s p.ru),.p (.i .i64 p.ve),.p (bY aN 2 p.L),.p (.i .i64 p.st),.p (.i .i64 p.se),.p (.s p.to)]]) (iA [] (bI aB Try.f56))=Tr.done X.ret (St.mk [V.c (C.p (PV.i aC (-1)))] []):=by kernel_rfl
theorem tFi(M:List Pg)(p:Pg):dC (aK1 M) (cW aB Try.f24) (nH Try.f24 [.a [.p (bY aI 7 M)],.a [.p (.i .i64 p.kd),.p (.s p.ru),.p (.i .i64 p.ve),.p (bY aN 2 p.L),.p (.i .i64 p.st),.p (.i .i64 p.se),.p (.s p.to)]]) (iA [] (bI aB Try.f24))=Tr.rq (kA aN 2 (bO cT p.L.length (aE aN p.L)) p.L.length (aE aN p.L))
 (bT (!hJ (Pg.mk p.kd p.ru p.ve (bO cT p.L.length (aE aN p.L)) p.st p.se p.to))
 (.done .ret (St.mk [V.t [V1.a [C.p (PV.l 7 M.length (aE aI M))],V1.c (C.p (PV.i aC 1))]] []))
 (bT (p.kd != 0) (.done .ret (St.mk [V.t [V1.a [C.p (PV.l 7 M.length (aE aI M))],V1.c (C.p (PV.i aC 1))]] []))
 (.rq
 (((M.length=M.length∧∀(e o:Nat),e<M.length→o<7→lE (aE aI M e o) (aE aI M e o))∧kA aN 2 (bO cT p.L.length (aE aN p.L)) p.L.length (aE aN p.L)) ∧
 M.length≤1000000∧(Pg.mk p.kd p.ru p.ve (bO cT p.L.length (aE aN p.L)) p.st p.se p.to).L.length≤1000000)
 (bT (sU M (Pg.mk p.kd p.ru p.ve (bO cT p.L.length (aE aN p.L)) p.st p.se p.to)==0)
 (.done .ret (St.mk [V.t [V1.a [C.p (PV.l 7 M.length (aE aI M))],V1.c (C.p (PV.i aC 10))]] []))
 (bT (sU M (Pg.mk p.kd p.ru p.ve (bO cT p.L.length (aE aN p.L)) p.st p.se p.to)==2)
 (.done .ret (St.mk [V.t [V1.a [C.p (PV.l 7 M.length (aE aI M))],V1.c (C.p (PV.i aC 10))]] []))
 (bT (sU M (Pg.mk p.kd p.ru p.ve (bO cT p.L.length (aE aN p.L)) p.st p.se p.to)==1)
 (.done .ret (St.mk [V.t [V1.a [C.p (PV.l 7 M.length (aE aI M))],V1.c (C.p (PV.i aC 20))]] []))
 (.rq
 (((M.length=M.length∧∀(e o:Nat),e<M.length→o<7→lE (aE aI M e o) (aE aI M e o)) ∧
 kA aN 2 (bO cT p.L.length (aE aN p.L)) p.L.length (aE aN p.L)) ∧
 M.length≤1000000)
 (.done .ret
 (St.mk [V.t [V1.a [C.p (PV.l 7 (M++[Pg.mk p.kd p.ru p.ve (bO cT p.L.length (aE aN p.L)) p.st p.se p.to]).length (aE aI (M++[Pg.mk p.kd p.ru p.ve (bO cT p.L.length (aE aN p.L)) p.st p.se p.to])))],V1.c (C.p (PV.i aC 0))]] []))))))))):=by kernel_rfl
theorem aQX(M:List Pg)(p:Pg):dC eW (dH 3 (cW aB Try.f28)) (nH Try.f28 [.a [.p (bY aI 7 M)],.a [.p (.i .i64 p.kd),.p (.s p.ru),.p (.i .i64 p.ve),.p (bY aN 2 p.L),.p (.i .i64 p.st),.p (.i .i64 p.se),.p (.s p.to)]]) (iA (eZ 45 [2,3,5,6]) (bI aB Try.f28))=Tr.done X.normal
 (bS 45 [(2,.c (.ptr 0 0)),(3,.c (.ptr 1 0)),(5,.c (.p (.z (bA none 0 0)))),(6,.c (.p (.i .i64 0)))] [.cells 27 [.p (.l 7 M.length (aE aI M))],.cells 31 [.p (.i .i64 p.kd),.p (.s p.ru),.p (.i .i64 p.ve),.p (.l 2 p.L.length (aE aN p.L)),.p (.i .i64 p.st),.p (.i .i64 p.se),.p (.s p.to)]]):=by kernel_rfl
theorem aQW(M:List Pg)(p:Pg)(out:List Int)(k i:Nat):dC (aJN M) (gR (cW aB Try.f28) 3) (bS 45 [(2,.c (.ptr 0 0)),(3,.c (.ptr 1 0)),(5,.c (.sl 2 1 0 k)),(6,iV (i:Nat))] [.cells 27 [.p (bY aI 7 M)],.cells 31 [.p (.i .i64 p.kd),.p (.s p.ru),.p (.i .i64 p.ve),.p (bY aN 2 p.L),.p (.i .i64 p.st),.p (.i .i64 p.se),.p (.s p.to)],.row 3 1 k (aQ aS out)]) (iA (eZ 45 [2,3,5,6]) (bI aB Try.f28))=bT (decide ((↑i:Int)<(↑M.length:Int)))
 (.rq (0≤(↑i:Int)∧(↑i:Int)<(↑M.length:Int))
 (.rq (0≤(↑i:Int)∧(↑i:Int)<(↑M.length:Int))
 (.rq
 ((kA aN 2 (bO cT (M.getD (↑i:Int).toNat default).L.length (aE aN (M.getD (↑i:Int).toNat default).L)) (M.getD (↑i:Int).toNat default).L.length
 (aE aN (M.getD (↑i:Int).toNat default).L) ∧
 kA aN 2 (bO cT p.L.length (aE aN p.L)) p.L.length (aE aN p.L)) ∧
 ((Pg.mk (M.getD (↑i:Int).toNat default).kd (M.getD (↑i:Int).toNat default).ru (M.getD (↑i:Int).toNat default).ve
 (bO cT (M.getD (↑i:Int).toNat default).L.length (aE aN (M.getD (↑i:Int).toNat default).L)) (M.getD (↑i:Int).toNat default).st (M.getD (↑i:Int).toNat default).se
 (M.getD (↑i:Int).toNat default).to).L.length ≤
 1000000 ∨
 (Pg.mk p.kd p.ru p.ve (bO cT p.L.length (aE aN p.L)) (M.getD (↑i:Int).toNat default).st p.se p.to).L.length≤1000000))
 (.rq
 (((M.length=M.length∧∀(e o:Nat),e<M.length→o<7→lE (aE aI M e o) (aE aI M e o))∧kA aN 2 (bO cT p.L.length (aE aN p.L)) p.L.length (aE aN p.L)) ∧
 M.length≤1000000∧(Pg.mk p.kd p.ru p.ve (bO cT p.L.length (aE aN p.L)) (M.getD (↑i:Int).toNat default).st p.se p.to).L.length≤1000000)
 (bT
 (jZ
 (Pg.mk (M.getD (↑i:Int).toNat default).kd (M.getD (↑i:Int).toNat default).ru (M.getD (↑i:Int).toNat default).ve
 (bO cT (M.getD (↑i:Int).toNat default).L.length (aE aN (M.getD (↑i:Int).toNat default).L)) (M.getD (↑i:Int).toNat default).st (M.getD (↑i:Int).toNat default).se
 (M.getD (↑i:Int).toNat default).to)
 (Pg.mk p.kd p.ru p.ve (bO cT p.L.length (aE aN p.L)) (M.getD (↑i:Int).toNat default).st p.se p.to))
 (bT (sU M (Pg.mk p.kd p.ru p.ve (bO cT p.L.length (aE aN p.L)) (M.getD (↑i:Int).toNat default).st p.se p.to) != 1)
 (.rq (k=k)
 (.rq (1≤1)
 (.rq
 ((k+1)*8≤140737488355328 ∧
 k+1≤140737488355328∧∀(e o:Nat),e<1→o<1→iH (lM [C.p (PV.i aC (M.getD (↑i:Int).toNat default).st)] 1 1 (e+0) o)=true)
 (.rq (eV aC ((↑i:Int)+1))
 (.done .normal
 (bS 45 [(2,.c (.ptr 0 0)),(3,.c (.ptr 1 0)),(5,.c (.sl 2 1 0 (k+1))),(6,.c (.p (.i .i64 ((↑i:Int)+1))))] [.cells 27 [.p (.l 7 M.length (aE aI M))],.cells 31 [.p (.i .i64 p.kd),.p (.s p.ru),.p (.i .i64 p.ve),.p (.l 2 p.L.length (aE aN p.L)),.p (.i .i64 (M.getD (↑i:Int).toNat default).st),.p (.i .i64 p.se),.p (.s p.to)],.row 3 1 (k+1) fun e o=>bP [0,1,4] (fC k (aQ aS out) (fun e o=>bF C.top [C.p (PV.i aC (M.getD (↑i:Int).toNat default).st)] ((e+0)*1+o)) e o)]))))))
 (.rq (eV aC ((↑i:Int)+1))
 (.done .normal
 (bS 45 [(2,.c (.ptr 0 0)),(3,.c (.ptr 1 0)),(5,.c (.sl 2 1 0 k)),(6,.c (.p (.i .i64 ((↑i:Int)+1))))] [.cells 27 [.p (.l 7 M.length (aE aI M))],.cells 31 [.p (.i .i64 p.kd),.p (.s p.ru),.p (.i .i64 p.ve),.p (.l 2 p.L.length (aE aN p.L)),.p (.i .i64 (M.getD (↑i:Int).toNat default).st),.p (.i .i64 p.se),.p (.s p.to)],.row 3 1 k fun e o=>bP [0,1,2] (aQ aS out e o)]))))
 (.rq (eV aC ((↑i:Int)+1))
 (.done .normal
 (bS 45 [(2,.c (.ptr 0 0)),(3,.c (.ptr 1 0)),(5,.c (.sl 2 1 0 k)),(6,.c (.p (.i .i64 ((↑i:Int)+1))))] [.cells 27 [.p (.l 7 M.length (aE aI M))],.cells 31 [.p (.i .i64 p.kd),.p (.s p.ru),.p (.i .i64 p.ve),.p (.l 2 p.L.length (aE aN p.L)),.p (.i .i64 (M.getD (↑i:Int).toNat default).st),.p (.i .i64 p.se),.p (.s p.to)],.row 3 1 k fun e o=>bP [0,1,2] (aQ aS out e o)]))))))))
 (.done (.exit 0)
 (bS 45 [(2,.c (.ptr 0 0)),(3,.c (.ptr 1 0)),(5,.c (.sl 2 1 0 k)),(6,.c (.p (.i .i64 (↑i:Int))))] [.cells 27 [.p (.l 7 M.length (aE aI M))],.cells 31 [.p (.i .i64 p.kd),.p (.s p.ru),.p (.i .i64 p.ve),.p (.l 2 p.L.length (aE aN p.L)),.p (.i .i64 p.st),.p (.i .i64 p.se),.p (.s p.to)],.row 3 1 k fun e o=>bP [0,1,2] (aQ aS out e o)])):=by kernel_rfl
theorem aQV(out:List Int):dC aDL (bJ 4 (cW aB Try.f28)) (bS 45 [(5,aU aS 1 out)] []) (iA [] (bI aB Try.f28))=Tr.rq (kA aS 1 (bO gI out.length (aE aS out)) out.length (aE aS out)∧(bO gI out.length (aE aS out)).length≤1000000)
 (.done .ret (St.mk [V.c (C.p (PV.l 1 (mJ (bO gI out.length (aE aS out))).length (aE aS (mJ (bO gI out.length (aE aS out))))))] [])):=by kernel_rfl
theorem aQ4(A:List Int)(a:Int):dC eW (dH 3 (cW aB Try.f15)) (nH Try.f15 [aU aS 1 A,iV a]) (iA (eZ 24 [0,1,5,6]) (bI aB Try.f15))=Tr.done X.normal
 (bS 24 [(0,.c (.p (.l 1 A.length (aE aS A)))),(1,.c (.p (.i .i64 a))),(5,.c (.p (.z (bA none 0 0)))),(6,.c (.p (.i .i64 0)))] []):=by kernel_rfl
theorem aQ3(A out:List Int)(a:Int)(k i:Nat):dC aJL (gR (cW aB Try.f15) 3) (bS 24 [(0,aU aS 1 A),(1,iV a),(5,.c (.sl 0 1 0 k)),(6,iV (i:Nat))] [.row 3 1 k (aQ aS out)]) (iA (eZ 24 [0,1,5,6]) (bI aB Try.f15))=Tr.rq (kA aS 1 (bO gI A.length (aE aS A)) A.length (aE aS A)∧(∀(t:Int),t∈bO gI A.length (aE aS A)→eV aC t)∧dI 0<dI 6)
 (bT (decide ((↑i:Int)<hG (bO gI A.length (aE aS A)) a 6))
 (.rq (eV aC (a+1))
 (.rq (eV aC (a+1+(↑i:Int)))
 (.rq (kA aS 1 (bO gI A.length (aE aS A)) A.length (aE aS A)∧(∀(t:Int),t∈bO gI A.length (aE aS A)→eV aC t)∧dI 0<dI 6)
 (.rq (k=k)
 (.rq (1≤1)
 (.rq
 ((k+1)*8≤140737488355328 ∧
 k+1≤140737488355328∧∀(e o:Nat),e<1→o<1→iH (lM [C.p (PV.i aC (hG (bO gI A.length (aE aS A)) (a+1+(↑i:Int)) 6))] 1 1 (e+0) o)=true)
 (.rq (eV aC ((↑i:Int)+1))
 (.done .normal
 (bS 24 [(0,.c (.p (.l 1 A.length (aE aS A)))),(1,.c (.p (.i .i64 a))),(5,.c (.sl 0 1 0 (k+1))),(6,.c (.p (.i .i64 ((↑i:Int)+1))))] [.row 3 1 (k+1) fun e o=>bP [2] (fC k (aQ aS out) (fun e o=>bF C.top [C.p (PV.i aC (hG (bO gI A.length (aE aS A)) (a+1+(↑i:Int)) 6))] ((e+0)*1+o)) e o)])))))))))
 (.done (.exit 0)
 (bS 24 [(0,.c (.p (.l 1 A.length (aE aS A)))),(1,.c (.p (.i .i64 a))),(5,.c (.sl 0 1 0 k)),(6,.c (.p (.i .i64 (↑i:Int))))] [.row 3 1 k fun e o=>bP [0] (aQ aS out e o)]))):=by kernel_rfl
theorem aQ2(A out:List Int)(a:Int)(k i:Nat):dC eW (bJ 4 (cW aB Try.f15)) (bS 24 [(0,aU aS 1 A),(1,iV a),(5,.c (.sl 0 1 0 k)),(6,iV (i:Nat))] [.row 3 1 k (aQ aS out)]) (iA [] (bI aB Try.f15))=Tr.rq (0+k≤k∧∀(e o:Nat),e<k→o<1→BA (aQ aS out (e+0) o)=true) (.done .ret (St.mk [V.c (C.p (PV.l 1 k fun e o=>mI (aQ aS out (e+0) o)))] [])):=by kernel_rfl
def yU(p:Pg)(t:Int):Pg:=⟨p.kd,p.ru,p.ve,p.L,t,p.se,p.to⟩
theorem YZ{α:Type}(f:α→Bool)(M:List α)(i:Nat)(hi:i<M.length)(h1:f M[i]=true)(h2:∀q∈M.drop (i+1),f q=false):M.reverse.find? f=some M[i]:=by
 have e:M=M.take i++M[i]::M.drop (i+1):=by rw[←dX hi,gS]
 have h3:(M.drop (i+1)).reverse.find? f=none:=by
  rw[List.find?_eq_none];intro q hq
  rw[h2 q (List.mem_reverse.1 hq)];exact Bool.false_ne_true
 conv=>lhs;rw[e]
 rw[List.reverse_append,List.reverse_cons,dW,List.find?_append,h3]
 show List.find? f (M[i]::(M.take i).reverse)=_
 rw[List.find?_cons,h1]
theorem aKZ{M:List Pg}{p:Pg}{i:Nat}(hi:i<M.length)(h1:jZ (M.getD i default) p=true)(h2:∀q∈M.drop (i+1),jZ q p=false):sU M p=(M.getD i default).kd:=by
 have e:M.getD i default=M[i]:=by simp[hi]
 rw[e]at h1 ⊢;unfold sU;rw[YZ _ M i hi h1 h2]
theorem aKY{M:List Pg}{p:Pg}(h2:∀q∈M,jZ q p=false):sU M p = -1:=by
 have h3:M.reverse.find? (fun q=>jZ q p)=none:=by
  rw[List.find?_eq_none];intro q hq
  rw[h2 q (List.mem_reverse.1 hq)];exact Bool.false_ne_true
 unfold sU;rw[h3]
def vL(M:List Pg)(p:Pg):List Pg×Int:=
 if hJ p=false∨p.kd≠0 then (M,1) else if sU M p=0∨sU M p=2 then (M,10) else if sU M p=1 then (M,20) else (M++[p],0)
def aCQ(M:List Pg):Mod
 |[x,y]=>match leL x M,wC y with
  |some p,some (q,a)=>some ((p∧q)∧M.length≤1000000∧a.L.length≤1000000,.t [.a [.p (bY aI 7 (vL M a).1)],.c (.p (.i .i64 (vL M a).2))])
  |_,_=>none
 |_=>none
def JR(M:List Pg)(p:Pg)(i:Nat):List Int:=((M.take i).filter fun q=>jZ q (yU p q.st)&&(sU M (yU p q.st) != 1)).map (·.st)
def fX(M:List Pg)(p:Pg):List Int:=mJ (JR M p M.length)
def KE(M:List Pg):Mod
 |[x,y]=>match leL x M,wC y with
  |some p,some (q,a)=>some ((p∧q)∧M.length≤1000000∧a.L.length≤1000000,aU aS 1 (fX M a))
  |_,_=>none
 |_=>none
def xD(A:List Int)(a:Int)(n:Nat):List Int:=(List.range n).map fun j=>hG A (a+1+(j:Nat)) 6
def oC(A:List Int)(a:Int):List Int:=xD A a (hG A a 6).toNat
def NA:Mod
 |[x,.c (.p (.i .i64 a))]=>match BK x with
  |some (p,A)=>some (p∧(∀t∈A,eV .i64 t)∧tW a,aU aS 1 (oC A a))
  |none=>none
 |_=>none
theorem XB(A:List Int)(a:Int)(n:Nat):xD A a (n+1)=xD A a n++[hG A (a+1+(n:Nat)) 6]:=by
 unfold xD;rw[List.range_succ,List.map_append];rfl
theorem LX(A:List Int)(a:Int)(n:Nat):(xD A a n).length=n:=by unfold xD;simp
theorem aB4(M:List Pg)(p:Pg)(i:Nat)(hi:i<M.length):JR M p (i+1)=JR M p i++(match jZ (M.getD i default) (yU p (M.getD i default).st)&&(sU M (yU p (M.getD i default).st) != 1) with
  |true=>[(M.getD i default).st]
  |false=>[]):=by
 unfold JR;rw[List.take_add_one,List.filter_append,List.map_append];congr 1
 have e:M.getD i default=M[i]:=by simp[hi]
 rw[e,aM hi]
 show List.map _ (List.filter _ [M[i]])=_
 rw[List.filter_cons];cases jZ M[i] (yU p M[i].st)&&(sU M (yU p M[i].st) != 1)<;>rfl
theorem UL(M:List Pg)(p:Pg)(i:Nat):(JR M p i).length≤i:=by
 unfold JR;rw[List.length_map]
 have:=List.length_filter_le (fun q=>jZ q (yU p q.st)&&(sU M (yU p q.st) != 1)) (M.take i)
 rw[cU]at this;omega
section
variable {G:Nat→Option Obj}
set_option maxRecDepth 100000 in
theorem UV:iO aB G 51 AV:=by
 intro args p v hm hp h;unfold AV at hm
 split at hm;rotate_left;· cases hm
 rename_i t;obtain⟨rfl,rfl⟩:=eM hm
 refine GF aX Try.func51 (by kernel_rfl) rfl (aKV t) ?_ h
 simp only[bZ,bB,iD,KF];refine⟨fun h1=>⟨_,rfl,iF.of_eq ?_⟩,fun h1=>⟨_,rfl,iF.of_eq ?_⟩⟩
 ·unfold gQ;rw[h1];rfl
 ·unfold gQ;rw[h1];rfl
theorem OS:bH aB G aJV:=dY (by simp;exact⟨aBS,YC,UV⟩)
set_option maxRecDepth 100000 in
theorem UX:iO aB G 50 KH:=by
 intro args p v hm hp h;unfold KH at hm
 split at hm;rotate_left;· cases hm
 split at hm;rotate_left;· cases hm
 rename_i x _ q a hx;obtain⟨rfl,rfl⟩:=eM hm;refine jN.args (args':=[uO a]) ?_ (.cons (lZ hx hp) .nil);clear hm hx
 refine pW Try.func50 (by kernel_rfl) rfl ?_ h
 refine eJ.evA OS [] [] rfl (aNY a) ?_
 have e:hJ a=(jC a.ru&&decide (1≤a.ve)&&lO (fun k=>a.L.getD k default) a.L.length&&gQ a.st&&gQ a.se&&decide ((a.to.size:Int)≤16)):=by
  unfold hJ lR VO;congr 1;exact decide_eq_decide.2 (by omega)
 rw[e];simp only[bZ,bB,aL,fI,gK];refine⟨trivial,dJ _ _ _,trivial,trivial,fun c1=>⟨fun c2=>⟨fun c3=>⟨fun c4=>⟨fun c5=>⟨?_⟩,fun c5=>⟨?_⟩⟩,fun c4=>⟨?_⟩⟩,fun c3=>⟨?_⟩⟩,fun c2=>⟨?_⟩⟩,fun c1=>⟨?_⟩⟩<;>simp only[*,Bool.and_true,Bool.true_and,Bool.and_false,Bool.false_and]<;>exact iF.refl _
set_option maxRecDepth 100000 in
theorem aIW(M:List Pg):iO aB G 56 (aHD M):=by
 intro args p v hm hp h;unfold aHD at hm
 split at hm;rotate_left;· cases hm
 split at hm;rotate_left;· cases hm
 rename_i x y _ _ p1 p2 a hx hy;obtain⟨rfl,rfl⟩:=eM hm;obtain⟨⟨hA,hB⟩,hlen,hl2⟩:=hp;refine jN.args (args':=[BL M,uO a]) ?_ (.cons (wL hx hA) (.cons (lZ hy hB) .nil));clear hm hx hy hA hB
 refine pW Try.func56 (by kernel_rfl) rfl ?_ h
 refine eJ.evG aX 2 (aNN M a) ?_;simp only[bB,aL,cG,eV];refine⟨by omega,⟨?_⟩⟩
 refine eJ.loop' (l:=bJ 2 (cW aB Try.f56)) (b:=inr (inr (bF .skip (cW aB Try.f56) 2))) (r:=bJ 3 (cW aB Try.f56)) (id:=0) (by kernel_rfl) (σ:=Nat)
   (fun i=>(fun p=>bS 29 [(2,.c (.ptr 0 0)),(3,.c (.ptr 1 0)),(5,iV ((i:Int)-1))] [.cells 27 [.p (bY aI 7 M)],.cells 31 [.p (.i .i64 p.kd),.p (.s p.ru),.p (.i .i64 p.ve),.p (bY aN 2 p.L),.p (.i .i64 p.st),.p (.i .i64 p.se),.p (.s p.to)]]) a) (fun i=>i≤M.length∧∀q∈M.drop i,jZ q a=false) (fun i=>i) M.length ⟨aW _,fun q hq=>by rw[List.drop_length]at hq;cases hq⟩ (aJ (by kernel_rfl)) ?_
 rintro i ⟨hi,hc⟩ Q1 q1n q1e -;refine eJ.evH yJ (aNM M a i) ?_;simp only[bZ,bB,aL,fI,cG,jQ,decide_eq_true_eq,decide_eq_false_iff_not,eV,gK];refine⟨fun h1=>?_,fun h1=>⟨q1e _ ?_⟩⟩
 ·have e1:((i:Int)-1).toNat=i-1:=by omega
  rw[e1]
  have hs:M.drop (i-1)=M.getD (i-1) default::M.drop i:=by
   rw[dX (show i-1<M.length by omega),show i-1+1=i by omega];simp[show i-1<M.length by omega]
  have hst:∀kd se,jZ (Pg.mk kd (M.getD (i-1) default).ru (M.getD (i-1) default).ve (M.getD (i-1) default).L (M.getD (i-1) default).st se (M.getD (i-1) default).to) a=jZ (M.getD (i-1) default) a:=fun _ _=>rfl
  refine⟨by omega,⟨⟨dJ _ _ _,dJ _ _ _⟩,.inr hl2⟩,fun h2=>⟨by omega,⟨iF.of_eq ?_⟩⟩,fun h2=>⟨by omega,⟨q1n (i-1) _ ⟨by omega,fun q hq=>?_⟩ (by omega) ?_⟩⟩⟩
  ·rw[aKZ (i:=i-1) (by omega) h2 (by rw[show i-1+1=i by omega];exact hc)];rfl
  ·rw[hs]at hq
   rcases List.mem_cons.1 hq with h3|h3
   ·rw[h3];exact h2
   ·exact hc q h3
  ·have e2:(i:Int)-1=((i-1:Nat):Int):=by omega
   rw[e2]
   exact aJ (by kernel_rfl)
 ·refine eJ.evH aX (aNL M a i) ?_
  simp only[aL,fI]
  obtain rfl:i=0:=by omega
  exact⟨iF.of_eq (by rw[aKY (M:=M) (p:=a) fun q hq=>hc q (by simpa using hq)];rfl)⟩
theorem OZ(M:List Pg):bH aB G (aK1 M):=dY (by simp;exact⟨UX,aIW M,aC2 M⟩)
set_option maxRecDepth 100000 in
theorem aGW(M:List Pg):iO aB G 24 (aCQ M):=by
 intro args p v hm hp h;unfold aCQ at hm
 split at hm;rotate_left;· cases hm
 split at hm;rotate_left;· cases hm
 rename_i x y _ _ p1 p2 a hx hy;obtain⟨rfl,rfl⟩:=eM hm;obtain⟨⟨hA,hB⟩,hlen,hl2⟩:=hp;refine jN.args (args':=[BL M,uO a]) ?_ (.cons (wL hx hA) (.cons (lZ hy hB) .nil));clear hm hx hy hA hB
 refine pW Try.func24 (by kernel_rfl) rfl ?_ h
 refine eJ.evH (OZ M) (tFi M a) ?_;simp only[bZ,bB,aL,fI,gK,bne_iff_ne,bne_eq_false_iff_eq,ne_eq,beq_iff_eq,beq_eq_false_iff_ne,eP,gA];refine⟨dJ _ _ _,fun c1=>⟨iF.of_eq ?_⟩,fun c1=>⟨fun c2=>⟨iF.of_eq ?_⟩,fun c2=>⟨⟨⟨⟨trivial,fun _ _ _ _=>lE.refl _⟩,dJ _ _ _⟩,hlen,hl2⟩,fun c3=>⟨iF.of_eq ?_⟩,fun c3=>⟨fun c4=>⟨iF.of_eq ?_⟩,fun c4=>⟨fun c5=>⟨iF.of_eq ?_⟩,fun c5=>⟨⟨⟨⟨trivial,fun _ _ _ _=>lE.refl _⟩,dJ _ _ _⟩,hlen⟩,⟨iF.of_eq ?_⟩⟩⟩⟩⟩⟩⟩
 all_goals unfold vL
 ·rw[if_pos (.inl c1)];rfl
 ·rw[if_pos (.inr c2)];rfl
 ·rw[if_neg (fun h=>h.elim (fun h=>by rw[c1]at h;cases h) (fun h=>h c2)),if_pos (.inl c3)];rfl
 ·rw[if_neg (fun h=>h.elim (fun h=>by rw[c1]at h;cases h) (fun h=>h c2)),if_pos (.inr c4)];rfl
 ·rw[if_neg (fun h=>h.elim (fun h=>by rw[c1]at h;cases h) (fun h=>h c2)),if_neg (fun h=>h.elim c3 c4),if_pos c5];rfl
 ·rw[if_neg (fun h=>h.elim (fun h=>by rw[c1]at h;cases h) (fun h=>h c2)),if_neg (fun h=>h.elim c3 c4),if_neg c5];rfl
theorem OI(M:List Pg):bH aB G (aJN M):=dY (by simp;exact⟨UW,aIW M⟩)
theorem LA:bH aB G aDL:=dY (by simp;exact aIX)
theorem OG:bH aB G aJL:=dY (by simp;exact RJ)
set_option maxRecDepth 100000 in
theorem aBU(M:List Pg):iO aB G 28 (KE M):=by
 intro args p v hm hp h;unfold KE at hm
 split at hm;rotate_left;· cases hm
 split at hm;rotate_left;· cases hm
 rename_i x y _ _ p1 p2 a hx hy;obtain⟨rfl,rfl⟩:=eM hm;obtain⟨⟨hA,hB⟩,hlen,hl2⟩:=hp;refine jN.args (args':=[BL M,uO a]) ?_ (.cons (wL hx hA) (.cons (lZ hy hB) .nil));clear hm hx hy hA hB
 refine pW Try.func28 (by kernel_rfl) rfl ?_ h
 refine eJ.evG aX 3 (aQX M a) ?_;simp only[aL,cG];refine⟨?_⟩
 refine eJ.loop' (l:=bJ 3 (cW aB Try.f28)) (b:=inr (inr (bF .skip (cW aB Try.f28) 3))) (r:=bJ 4 (cW aB Try.f28)) (id:=0) (by kernel_rfl) (σ:=Nat×Int)
   (fun(i,t)=>(fun p out k=>bS 45 [(2,.c (.ptr 0 0)),(3,.c (.ptr 1 0)),(5,.c (.sl 2 1 0 k)),(6,iV (i:Nat))] [.cells 27 [.p (bY aI 7 M)],.cells 31 [.p (.i .i64 p.kd),.p (.s p.ru),.p (.i .i64 p.ve),.p (bY aN 2 p.L),.p (.i .i64 p.st),.p (.i .i64 p.se),.p (.s p.to)],.row 3 1 k (aQ aS out)]) (yU a t) (JR M a i) (JR M a i).length) (fun(i,t)=>i≤M.length) (fun(i,t)=>M.length-i) (0,a.st) (bW _) ((lT 3 1 (aQ aS []) 5 (by kernel_rfl)).trans (aJ (by kernel_rfl))) ?_
 rintro⟨i,t⟩ hi Q1 q1n q1e -
 have hi:i≤M.length:=hi
 have hpl:=UL M a i
 refine eJ.evH (OI M) (aQW M (yU a t) (JR M a i) (JR M a i).length i) ?_;simp only[bZ,bB,aL,cG,jQ,decide_eq_true_eq,decide_eq_false_iff_not,eV,gK,show (↑i:Int).toNat=i from rfl,bne_iff_ne,bne_eq_false_iff_eq,ne_eq];refine⟨fun h1=>?_,fun h1=>⟨q1e _ ?_⟩⟩
 ·have hlt:i<M.length:=by omega
  have hsn:=aB4 M a i hlt
  generalize hq:M.getD i default=q at hsn ⊢
  change (0≤(i:Int)∧(i:Int)<M.length)∧_
  have stay:(jZ q (yU a q.st)&&(sU M (yU a q.st) != 1))=false→Q1 .normal (bS 45 [(2,V.c (C.ptr 0 0)),(3,V.c (C.ptr 1 0)),(5,V.c (C.sl 2 1 0 (JR M a i).length)),(6,V.c (C.p (PV.i aC ((↑i:Int)+1))))] [AO.cells 27 [C.p (PV.l 7 M.length (aE aI M))],AO.cells 31 [C.p (PV.i aC (yU a t).kd),C.p (PV.s (yU a t).ru),C.p (PV.i aC (yU a t).ve),C.p (PV.l 2 (yU a t).L.length (aE aN (yU a t).L)),C.p (PV.i aC q.st),C.p (PV.i aC (yU a t).se),C.p (PV.s (yU a t).to)],AO.row 3 1 (JR M a i).length fun e o=>bP [0,1,2] (aQ aS (JR M a i) e o)]):=fun hs=>by
   rw[hs]at hsn;simp only[fP]at hsn;rw[←hsn]
   exact q1n (i+1,q.st) _ (by simp only;omega) (by simp only;omega) (aJ (by kernel_rfl))
  refine⟨⟨by omega,by omega⟩,⟨by omega,by omega⟩,⟨⟨dJ _ _ _,dJ _ _ _⟩,.inr hl2⟩,⟨⟨⟨trivial,fun _ _ _ _=>lE.refl _⟩,dJ _ _ _⟩,hlen,hl2⟩,fun c1=>⟨fun c2=>⟨trivial,aW _,⟨by omega,by omega,fun e o he ho=>?_⟩,by omega,⟨?_⟩⟩,fun c2=>⟨by omega,⟨stay ?_⟩⟩⟩,fun c1=>⟨by omega,⟨stay ?_⟩⟩⟩
  ·obtain rfl:e=0:=by omega
   obtain rfl:o=0:=by omega
   rfl
  ·have hs:(jZ q (yU a q.st)&&(sU M (yU a q.st) != 1))=true:=by
     rw[aO];exact⟨c1,by rw[bne_iff_ne];exact c2⟩
   rw[hs]at hsn;simp only at hsn
   have hlx:(JR M a i).length+1=(JR M a (i+1)).length:=by rw[hsn];simp
   refine q1n (i+1,q.st) _ (by simp only;omega) (by simp only;omega) ?_;rw[hlx];refine iG ⟨rfl,rfl,⟨rfl,rfl,rfl,fun e o he ho=>?_⟩,trivial⟩;rw[hsn];exact oT rfl (yD q.st) (by rw[hsn]at he;simpa using he) ho
  ·rw[Bool.and_eq_false_iff];exact .inr (by rw[bne_eq_false_iff_eq];exact c2)
  ·rw[Bool.and_eq_false_iff];exact .inl c1
 ·obtain rfl:i=M.length:=by omega
  unfold fX
  generalize JR M a M.length=out at hpl ⊢
  refine eJ.pre ((aJ (by kernel_rfl)).trans ((kZ (st:=bS 45 [(2,V.c (C.ptr 0 0)),(3,V.c (C.ptr 1 0)),(5,V.c (C.sl 2 1 0 out.length)),(6,V.c (C.p (PV.i aC (M.length:Int))))] [AO.cells 27 [C.p (PV.l 7 M.length (aE aI M))],AO.cells 31 [C.p (PV.i aC a.kd),C.p (PV.s a.ru),C.p (PV.i aC a.ve),C.p (PV.l 2 a.L.length (aE aN a.L)),C.p (PV.i aC t),C.p (PV.i aC a.se),C.p (PV.s a.to)],AO.row 3 1 out.length (aQ aS out)]) (j:=5) (id:=2) (ty:=3) (sz:=1) (n:=out.length) (off:=0) (len:=out.length) (f:=aQ aS out) (by kernel_rfl) (by kernel_rfl) (by omega) (fun _ _ _ _=>rfl)).trans ((fG (eZ 45 [5]) _).trans (aJ (st':=bS 45 [(5,aU aS 1 out)] []) (by kernel_rfl))))) ?_
  refine eJ.evH LA (aQV out) ?_;simp only[bB,aL,fI,iN];exact⟨⟨dJ _ _ _,by omega⟩,⟨iF.refl _⟩⟩
set_option maxRecDepth 100000 in
theorem YE:iO aB G 15 NA:=by
 intro args p v hm hp h;unfold NA at hm
 split at hm;rotate_left;· cases hm
 split at hm;rotate_left;· cases hm
 rename_i x s _ q A hx;obtain⟨rfl,rfl⟩:=eM hm;obtain⟨hA,hI,hpos⟩:=hp;refine jN.args (args':=[aU aS 1 A,iV s]) ?_ (.cons (oG hx hA) (.cons (.refl _) .nil));clear hA hm hx
 refine pW Try.func15 (by kernel_rfl) rfl ?_ h
 refine eJ.evG aX 3 (aQ4 A s) ?_;simp only[aL,cG];refine⟨?_⟩;unfold tW at hpos
 have hb:=oZ (L:=A) (i:=s) (m:=6) (by omega)
 refine eJ.loop' (l:=bJ 3 (cW aB Try.f15)) (b:=inr (inr (bF .skip (cW aB Try.f15) 3))) (r:=bJ 4 (cW aB Try.f15)) (id:=0) (by kernel_rfl) (σ:=Nat)
   (fun i=>(fun out k=>bS 24 [(0,aU aS 1 A),(1,iV s),(5,.c (.sl 0 1 0 k)),(6,iV (i:Nat))] [.row 3 1 k (aQ aS out)]) (xD A s i) (xD A s i).length) (fun i=>(i:Int)≤hG A s 6) (fun i=>6-i) 0 hb.1 ((lT 3 1 (aQ aS []) 5 (by kernel_rfl)).trans (aJ (by kernel_rfl))) ?_
 intro i hi Q1 q1n q1e _
 have hl:=LX A s i
 refine eJ.evH OG (aQ3 A (xD A s i) s (xD A s i).length i) ?_;simp only[bZ,bB,aL,cG,jQ,decide_eq_true_eq,decide_eq_false_iff_not,eV,iN];refine⟨⟨dJ _ _ _,hI,by decide⟩,fun h1=>⟨by omega,by omega,⟨dJ _ _ _,hI,by decide⟩,trivial,aW _,⟨by omega,by omega,fun e o he ho=>?_⟩,by omega,⟨?_⟩⟩,fun h1=>⟨q1e _ ?_⟩⟩
 ·obtain rfl:e=0:=by omega
  obtain rfl:o=0:=by omega
  rfl
 ·have hsn:=XB A s i
  have hlx:(xD A s i).length+1=(xD A s (i+1)).length:=by rw[hsn];simp
  refine q1n (i+1) _ (by omega) (by omega) ?_;rw[hlx];refine iG ⟨⟨rfl,rfl,rfl,fun e o he ho=>?_⟩,trivial⟩;rw[hsn];exact oT rfl (yD _) (by rw[hsn]at he;simpa using he) ho
 ·refine eJ.pre (aJ (by kernel_rfl)) (eJ.evH aX (aQ2 A (xD A s i) s (xD A s i).length i) ?_)
  simp only[bB,aL,fI];refine⟨⟨by omega,fun _ _ _ _=>rfl⟩,⟨?_⟩⟩;unfold oC;rw[show (hG A s 6).toNat=i by omega];exact iF.refl _
end
section
variable {P:Program} {G:Nat→Option Obj} {ops:Array Oper} {al:List AI} {N:Nat} {S:Nat→St} {ext:Ext}
def FC(os:List Oper)(N:Nat):Bool:=cA (fF os) (N+2)&&mQ (fun i o => !cA i (N+1)||mQ (fun j _=>eI N j||oU o j) 0 os) 0 os
theorem YY(h:FC ops.toList N=true):ops.size=N+2∧∀j,j<N→cV .any ops (N+1) j=true:=by
 unfold FC at h;rw[aO]at h;obtain⟨h1,h2⟩:=h
 have h1:=aR h1
 rw[eH]at h1
 have h1:ops.size=N+2:=by simpa using h1
 refine⟨h1,fun j hj=>?_⟩
 have h3:=iJ h2 (N+1) ops[N+1] (by simp[show N+1<ops.size by omega])
 simp only[cC,dB]at h3
 rcases h3 with h3|h3
 ·rw[Nat.beq_refl]at h3;cases h3
 ·have h4:=iJ h3 j ops[j] (by simp)
  simp only[cC,dB,Nat.ble_eq]at h4
  rcases h4 with h4|h4
  ·omega
  ·exact jW (by simp[show N+1<ops.size by omega]) h4
theorem NG{Q:Exit→Act→World→Prop}{k:Nat}{o:Oper}{listed:Array Bool}{a:Act}{w:World}(hk:ops[k]?=some o)(hs:listed.size=ops.size)(hu:listed.getD k true=false)(h1:∀i,i<ops.size→i≠k→listed.getD i false=true)(hb:∀e∈o.after,Region.binds .any e=true→e.on<k)(h:wpList P ops Q [o] a w):wpAny P .any ops Q 1 listed a w:=by
 have hks:k<ops.size:=(bL.1 hk).1
 have hrk:k∈eY .any ops listed:=mem_ready.2 ⟨hu,o,hk,fun e he hbi=>by
  have:=hb e he hbi
  exact h1 e.on (by omega) (by omega)⟩
 refine⟨fun h4=>(by rw[h4]at hrk;cases hrk),fun i hi=>?_⟩;obtain⟨q1,oi,q2,q3⟩:=mem_ready.1 hi
 have his:i<ops.size:=(bL.1 q2).1
 have hik:i=k:=Classical.byContradiction fun e=>by
  have:=h1 i his e
  rw[getD_both q1]at this;cases this
 subst hik
 have hw:wpOp P ops Q i (wpList P ops Q []) a w:=by unfold wpOp;simp only[hk];exact h
 refine wpOp_mono (fun a' w' h'=>⟨?_,h'⟩) hw;rw[List.eq_nil_iff_forall_not_mem];intro j hj
 obtain⟨q1,oj,q2,_⟩:=mem_ready.1 hj
 have hjs:j<ops.size:=(bL.1 q2).1
 by_cases e:i=j
 ·subst e;simp[hs,hks]at q1
 ·rw[getD_set_ne true e]at q1
  have:=h1 j hjs (fun h=>e h.symm)
  rw[getD_both q1]at this;cases this
variable {β0:Bt} {R0:Nat→Prop} {w0:World}
theorem wS.allBut(hr:CI P G ext al (N+1) S)(hok:RegB ops al (N+1)){listed:Array Bool}{a:Act}{w:World}{β:Bt}{R:Nat→Prop}(hI:wS G al (N+1) S β0 R0 w0 listed a w β R)(h1:∀i,i<N→listed.getD i false=true)(h2:listed.getD N false=false):hZ G β R (S N) a w:=by
 have le:=hr.le (i:=N) (j:=N+1) (by omega) (aW _)
 have dm:∀i x,β i=some x→i<(S N).h.length:=fun i x hi=>by
  rcases cS i (S N).h.length with h|h
  ·exact h
  ·have h3:=hI.hs.dom i x hi
   have h4:=hI.fr N (by omega) h2 i h h3
   rw[hi]at h4;cases h4
 refine⟨hI.df,dD.of_get (by have:=hI.sz;have:=le.1;simp;omega) ?_,?_⟩
 ·intro s x y hx hy
  have hy:a.tmps[s]?=some y:=by simpa using hy
  have hlN:N<al.length:=by have:=hr.len;omega
  have key:VR β R w (bF (.c .top) (S N).t s) y:=by
   by_cases hd:(al[N]).dst=some s
   ·have h3:=hI.s0 s y hy fun i ai hi ha hl hda=>by
      have hiN:i≠N:=fun e=>by subst e;rw[h2]at hl;cases hl
      exact hok.dst i N ai al[N] s ha (aM hlN) hi (by omega) hiN hda hd
    have h4:=(hr.le (i:=0) (j:=N) (by omega) (by omega)).2.2.2 s fun l ai _ hl ha hda=>hok.dst l N ai al[N] s ha (aM hlN) (by omega) (by omega) (by omega) hda hd
    rw[h4];exact h3
   ·have h3:=hI.sl s y hy fun i ai hi ha hl=>by
      have hiN:i=N:=Classical.byContradiction fun e=>by
       have:=h1 i (by omega)
       rw[hl]at this;cases this
      subst hiN;rw[aM hlN]at ha;injection ha with ha;subst ha;exact hd
    have h4:=le.2.2.2 s fun l ai q1 q2 ha=>by
     obtain rfl:l=N:=by omega
     rw[aM hlN]at ha;injection ha with ha;subst ha;exact hd
    rw[h4]at h3;exact h3
  rw[fT,aD,hx]at key;exact key
 ·have hb:∀i x,β i=some x→bF .gone (S (N+1)).h i=bF .gone (S N).h i:=fun i x hi=>le.2.2.1 i (dm i x hi)
  refine⟨dm,?_,?_,hI.hs.lt,hI.hs.rlt,?_,hI.hs.gl,fun b ad hq=>⟨(hI.hs.ql b ad hq).1,(hI.hs.ql b ad hq).2.1,fun i o hi=>by rw[←hb i _ hi];exact(hI.hs.ql b ad hq).2.2 i o hi⟩⟩
  ·intro i j b o o' hi hj li lj
   rw[←hb i _ hi]at li;rw[←hb j _ hj]at lj;exact hI.hs.inj i j b o o' hi hj li lj
  ·intro i b o hi li
   rw[←hb i _ hi]at li;exact hI.hs.sep i b o hi li
  ·intro i b o hi
   rw[←hb i _ hi];exact hI.hs.obj i b o hi
theorem YU(hext:bH P G ext)(hr:CI P G ext al (N+1) S)(hok:RegB ops al (N+1))(hal:∀i o,i<N+1→ops[i]?=some o→∃ai,al[i]?=some ai∧pZ P ops o=some ai)(hsz:ops.size=N+2)(hw1:∀j,j<N→cV .any ops (N+1) j=true){oF oA:Oper}(hF:ops[N]?=some oF)(hA:ops[N+1]?=some oA){Q:Exit→Act→World→Prop}
  (hT:∀a w β R,hZ G β R (S (N+1)) a w→Gr β0 R0 w0 β R w→wpList P ops Q [oA] a w) (hX:∀a w β R,hZ G β R (S N) a w→Gr β0 R0 w0 β R w→wpList P ops Q [oA,oF] a w) :
  ∀(f:Nat) (listed:Array Bool) (a:Act) (w:World) (β:Bt) (R:Nat→Prop),rJ listed (N+1)=f→HeadInv .any ops (N+1) listed→wS G al (N+1) S β0 R0 w0 listed a w β R→wpAny P .any ops Q (f+1) listed a w:=by
 intro f;induction f with
 |zero=>
  intro listed a w β R hc inv hI
  have hall:=mP hc
  have hsim:hZ G β R (S (N+1)) a w:=by
   refine⟨hI.df,dD.of_get (by simp[hI.sz]) ?_,hI.hs⟩;intro s x y hx hy
   have h1:=hI.sl s y (by simpa using hy) fun i ai hi _ hl=>by rw[hall i hi]at hl;cases hl
   rw[fT,aD,hx]at h1;exact h1
  exact NG hA inv.size (inv.tail (N+1) (aW _) (by omega)) (fun i hi hne=>hall i (by omega)) (hok.back (N+1) oA hA) (hT a w β R hsim hI.gr)
 |succ f ih=>
  intro listed a w β R hc inv hI;obtain⟨i0,hi0,hu0,hb0⟩:=qT (by omega:0<rJ listed (N+1))
  have hi0s:i0<ops.size:=by omega
  have hr0:i0∈eY .any ops listed:=kR hok.back hi0s (getD_in (by rw[inv.size];exact hi0s) hu0) hb0
  refine⟨fun h=>(by rw[h]at hr0;cases hr0),fun i hi=>?_⟩;obtain⟨q1,o,q2,q3⟩:=mem_ready.1 hi;obtain⟨his,_,q4⟩:=mL hi
  have hun:=getD_both q1
  have hil:i<listed.size:=by rw[inv.size];exact his
  by_cases hin:i<N+1
  ·obtain⟨ai,ha,hco⟩:=hal i o hin q2
   exact hI.step hext hr hok hin hil ha q2 hco hun q3 inv.closed fun a' w' β' R' hI'=>ih _ a' w' β' R' (by have:=oH hil hun hin;omega) (inv.set hi hin) hI'
  ·obtain rfl:i=N+1:=by omega
   have e0:i0=N:=by
    rcases cS i0 N with h|h
    ·have:=q4 i0 (hw1 i0 h)
     rw[hu0]at this;cases this
    ·omega
   subst e0
   have hsim:=hI.allBut hr hok hb0 hu0
   have hc2:rJ listed i0=0:=by
    rcases Nat.eq_zero_or_pos (rJ listed i0) with h|h
    ·exact h
    ·obtain⟨j,k1,k2,_⟩:=qT h
     rw[hb0 j k1]at k2;cases k2
   obtain rfl:f=0:=by
    rw[rJ,hc2,hu0]at hc;simpa using hc.symm
   have h:=hX a w β R hsim hI.gr
   have hw:wpOp P ops Q (i0+1) (wpList P ops Q [oF]) a w:=by unfold wpOp;simp only[hA];exact h
   refine wpOp_mono (fun a' w' h'=>NG hF (by simpa using inv.size) ?_ ?_ (hok.back i0 oF hF) h') hw
   ·rw[getD_set_ne true (by omega)]
    exact getD_in (by rw[inv.size];exact hi0s) hu0
   ·intro j hj hne
    by_cases e:i0+1=j
    ·subst e;simp[hil]
    ·rw[getD_set_ne false e];exact hb0 j (by omega)
noncomputable def aAS(ext:Ext)(all:List AI)(N:Nat)(k:St→Tr)(st:St):Tr:=
 iX (iW ext) (all.take N) st fun s=>.alt (iX (iW ext) ((all.drop N).take 1) s fun s1=>iX ext (all.drop (N+1)) s1 k) (iX ext (all.drop (N+1)++(all.drop N).take 1) s k)
theorem QT(hext:bH P G ext){id:Nat}(hm:P.follows .mixedOrders=true){all:List AI}(hall:eE P ops ops.toList=some all)(hok0:DN ops.toList (all.take (N+1)) (N+1)=true)(hfl:FC ops.toList N=true){st:St}{k:St→Tr}{K:X→St→Prop}
  (h:(aAS ext all N k st).holds P G K) {Q:Exit→Act→World→Prop} {β:Bt} {R:Nat→Prop} {a:Act} {w:World} (hs:hZ G β R st a w)
  (hT:∀st' a' w' β' R',(k st').holds P G K→hZ G β' R' st' a' w'→Gr β R w β' R' w'→Q .normal a' w'):(Code.region id ops true).wp P Q a w:=by
 obtain⟨hsz,hw1⟩:=YY hfl
 have hok:=UK hok0
 obtain⟨hl0,hg0⟩:=jG hall
 have hla:all.length=N+2:=by rw[hl0];simpa using hsz
 have hF:ops[N]?=some ops[N]:=by simp
 have hA:ops[N+1]?=some ops[N+1]:=by simp
 obtain⟨aF,hF1,hF2⟩:=hg0 N ops[N] (by rw[cK];exact hF);obtain⟨aA,hA1,hA2⟩:=hg0 (N+1) ops[N+1] (by rw[cK];exact hA)
 have dN:all.drop N=[aF,aA]:=by
  rw[dX (by omega),dX (by omega),List.drop_of_length_le (by omega)];rw[aM (by omega)]at hF1 hA1;injection hF1 with hF1;injection hA1 with hA1;rw[hF1,hA1]
 have dN1:all.drop (N+1)=[aA]:=by
  rw[dX (by omega),List.drop_of_length_le (by omega)];rw[aM (by omega)]at hA1;injection hA1 with hA1;rw[hA1]
 have tN1:all.take (N+1)=all.take N++[aF]:=by
  rw[List.take_add_one,hF1];rfl
 have tlen:(all.take N).length=N:=by rw[cU];omega
 have hcA:eE P ops [ops[N+1]]=some [aA]:=by simp only[eE,hA2];rfl
 have hcAF:eE P ops [ops[N+1],ops[N]]=some [aA,aF]:=by simp only[eE,hA2,hF2];rfl
 unfold aAS at h;rw[dN,dN1]at h
 obtain⟨S1,k0,k1,k2⟩:=mK hext (all.take N) st (fun ai hai=>by
  obtain⟨i,hi⟩:=eU.1 hai
  have hiN:i<N:=by have:=(List.getElem?_eq_some_iff.1 hi).1;omega
  refine hok.hd i ai ?_ (by omega)
  rw[tN1,cD (by omega)];exact hi) h
 rw[tlen,pG]at k1;obtain⟨k1,kX⟩:=k1
 obtain⟨S2,m0,m1,m2⟩:=mK hext [aF] (S1 N) (fun ai hai=>by
  obtain rfl:=eN.1 hai
  exact hok.hd N ai (by rw[tN1,cR (by omega),tlen];simp) (by omega)) k1
 have m2:=m2 0 aF rfl
 rw[m0]at m2
 let S:Nat→St:=fun i=>if i≤N then S1 i else S2 1
 have eS:∀i,i≤N→S i=S1 i:=fun i hi=>if_pos hi
 have eS1:S (N+1)=S2 1:=if_neg (by omega)
 have hr:CI P G ext (all.take (N+1)) (N+1) S:=⟨by rw[cU];omega,fun i ai hi ha=>by
   rcases cS i N with h3|h3
   ·rw[eS i (by omega),eS (i+1) (by omega)]
    refine k2 i ai ?_;rw[tN1,cD (by omega)]at ha;exact ha
   ·obtain rfl:i=N:=by omega
    rw[eS i (aW _),eS1];rw[tN1,cR (by omega),tlen]at ha;simp at ha
    subst ha;exact m2⟩
 refine wp_region_any hm ?_;obtain⟨hs',hg⟩:=hs.drawn (w.drawn+1)
 have h0:S 0=st:=(eS 0 (bW _)).trans k0
 have hal:∀i o,i<N+1→ops[i]?=some o→∃ai,(all.take (N+1))[i]?=some ai∧pZ P ops o=some ai:=fun i o hi ho=>by
  obtain⟨ai,q1,q2⟩:=hg0 i o (by simpa using ho);exact⟨ai,by rw[List.getElem?_take,if_pos hi];exact q1,q2⟩
 have fin:∀(l:List Oper) (al:List AI) (s:St) (a':Act) (w':World) (β':Bt) (R':Nat→Prop),eE P ops l=some al→(iX ext al s k).holds P G K→hZ G β' R' s a' w'→Gr β R w β' R' w'→wpList P ops Q l a' w':=fun l al s a' w' β' R' q1 q2 q3 q4=>
  kI hext l al s a' w' β' R' q1 q2 q3 fun a2 w2 β2 R2 st2 p1 p2 p3=>hT st2 a2 w2 β2 R2 p1 p2 (q4.trans p3)
 have key:=YU (β0:=β) (R0:=R) (w0:=w) hext hr hok hal hsz hw1 hF hA (Q:=Q)
  (fun a' w' β' R' q1 q2=>fin _ [aA] _ a' w' β' R' hcA m1 (by rw[eS1]at q1;exact q1) q2)
  (fun a' w' β' R' q1 q2=>fin _ _ _ a' w' β' R' hcAF kX (by rw[eS N (aW _)]at q1;exact q1) q2) (N+1) (jB ops.size false) a { w with drawn:=w.drawn+1 } β R
  (uY (by omega)) ⟨by simp,fun j oj _ hl=>(by rw[getD_replicate_false]at hl;cases hl),fun t _ ht=>getD_in (by simpa using ht) (getD_replicate_false _ _)⟩ ?_
 ·rwa [show N+1+1=ops.size by omega]at key
 ·have hle:=hr.le (i:=0) (j:=N+1) (bW _) (aW _)
  rw[h0]at hle;refine⟨hg,?_,hs.df,?_,?_,?_,?_⟩
  ·have hb:∀i x,β i=some x→bF .gone (S (N+1)).h i=bF .gone st.h i:=fun i x hi=>hle.2.2.1 i (hs'.hs.dom i x hi)
   refine⟨fun i x hi=>Nat.lt_of_lt_of_le (hs'.hs.dom i x hi) hle.2.1,?_,?_,hs'.hs.lt,hs'.hs.rlt,?_,hs'.hs.gl,fun b ad hq=>⟨(hs'.hs.ql b ad hq).1,(hs'.hs.ql b ad hq).2.1,fun i o hi=>by rw[hb i _ hi];exact(hs'.hs.ql b ad hq).2.2 i o hi⟩⟩
   ·intro i j b o o' hi hj li lj
    rw[hb i _ hi]at li;rw[hb j _ hj]at lj;exact hs'.hs.inj i j b o o' hi hj li lj
   ·intro i b o hi li
    rw[hb i _ hi]at li;exact hs'.hs.sep i b o hi li
   ·intro i b o hi
    rw[hb i _ hi];exact hs'.hs.obj i b o hi
  ·have:=hs.tm.length;simp at this;omega
  ·intro s u hu hnd
   rw[hle.2.2.2 s fun l ai _ hl ha=>hnd l ai hl ha (getD_replicate_false _ _)]
   have hv:=bR (x:=.tmp s) hs' rfl
   have e:a.eval (.tmp s)=u:=by show a.tmps.getD s undef=u;simp[hu]
   rw[e]at hv;exact hv
  ·intro i hi _ id h1 h2
   cases hb:β id with
   |none=>rfl
   |some x=>
    have h3:=hs.hs.dom id x hb
    have:=(hr.le (i:=0) (j:=i) (bW _) (by omega)).2.1
    rw[h0]at this;omega
  ·intro s u hu _
   rw[h0]
   have hv:=bR (x:=.tmp s) hs' rfl
   have e:a.eval (.tmp s)=u:=by show a.tmps.getD s undef=u;simp[hu]
   rw[e]at hv;exact hv
theorem jY.regq{ext:Ext}(hext:bH P G ext){rid:Nat}(hm:P.follows .mixedOrders=true){all:List AI}(hall:eE P ops ops.toList=some all)(hok0:DN ops.toList (all.take (N+1)) (N+1)=true)(hfl:FC ops.toList N=true){st:St}{K1:X→St→Prop}
  (hh:(aAS ext all N (fun s'=>.done .normal s') st).holds P G K1):jY P G (.raw (.region rid ops true)) st K1:=by
 refine jY.raw fun β R a w hs=>?_
 refine QT hext hm hall hok0 hfl hh hs ?_;intro st' a' w' β' R' hk hs' hg
 exact⟨β',R',st',hk,hs',hg.toFr,hg.rm⟩
theorem eJ.rawQ{rs:List AR}{v:V}{ext:Ext}(hext:bH P G ext){rid:Nat}{all:List AI}(hm:P.follows .mixedOrders=true)(hall:eE P ops ops.toList=some all)(hok0:DN ops.toList (all.take (N+1)) (N+1)=true)(hfl:FC ops.toList N=true){l r':List dG}{st:St}{Q:X→St→Prop}(hl:l=.raw (.region rid ops true)::r'){tree:Tr}
  (ht:aAS ext all N (fun s'=>.done .normal s') st=tree) (h:tree.holds P G fun e s=>e=.normal∧eJ P G rs v r' s Q):eJ P G rs v l st Q:=by
 subst hl;subst ht;refine jY.mono (jY.regq hext hm hall hok0 hfl h) ?_;rintro e s ⟨rfl,h⟩;exact h
end
def ND(x:V)(p:Pg):Option Prop:=match wC x with
 |some (q,a)=>some (q∧a=p)
 |none=>none
theorem uS{x:V}{p:Pg}{q:Prop}(h:ND x p=some q)(hq:q):iF x (uO p):=by
 unfold ND at h;split at h
 ·rename_i q' a hx
  injection h with h;subst h;obtain⟨h1,rfl⟩:=hq;exact lZ hx h1
 ·cases h
def SJ(W:List Int):jU
 |[x,.c (.p (.i .i64 k))],h=>match leI x W with
  |some p=>some (p∧k=W.length∧W.length≤1000000,.c (.sl (fF h) 1 0 W.length),fB (.row 3 1 W.length fun e o=>.p (aE aS W e o)) h)
  |none=>none
 |_,_=>none
def aCG(U:List Int):Mod
 |[x]=>match leI x U with
  |some p=>some (p∧U.length≤1000000,aU aS 1 (mJ U))
  |none=>none
 |_=>none
def yV(W T:List Int)(p:Pg)(A:List Int):List Pg:=(A.filter fun t=>decide (t∈W) != decide (t∈T)).map (pD p.ru p.ve p.L p.se T)
def vN(M:List Pg)(p:Pg)(T:List Int):List Pg×List Pg:=
 match hJ ⟨0,p.ru,p.ve,p.L,0,p.se,⟨#[]⟩⟩&&T.all gQ with
 |true=>(M++yV (fX M p) T p (mJ (fX M p++T)),yV (fX M p) T p (mJ (fX M p++T)))
 |false=>(M,[])
def aAB(M out:List Pg):V:=.t [.a [.p (bY aI 7 M)],.c (.p (bY aI 7 out))]
def aCR(M:List Pg)(p:Pg)(T:List Int)(M' out:List Pg):Mod
 |[x,y,z]=>match leL x M,ND y p,leI z T with
  |some a,some b,some c=>some (((a∧b)∧c)∧(M.length+T.length≤100000∧p.L.length≤1000000)∧vN M p T=(M',out),aAB M' out)
  |_,_,_=>none
 |_=>none
def KG(p:Pg):Mod
 |[x,.c (.p (.i .i64 i))]=>match BK x with
  |some (q,A)=>some (q∧(∀t∈A,eV .i64 t)∧tW i∧nI A i=p,.a [.p (.i .i64 p.kd),.p (.s p.ru),.p (.i .i64 p.ve),.p (bY aN 2 p.L),.p (.i .i64 p.st),.p (.i .i64 p.se),.p (.s p.to)])
  |none=>none
 |_=>none
def zL(T:List Int):Mod
 |[x,.c (.p (.i .i64 a))]=>match BK x with
  |some (p,A)=>some (p∧(∀t∈A,eV .i64 t)∧tW a∧oC A a=T,aU aS 1 T)
  |none=>none
 |_=>none
def KI(M:List Pg)(p:Pg)(M':List Pg)(e:Int):Mod
 |[x,y]=>match leL x M,ND y p with
  |some a,some b=>some ((a∧b)∧(M.length≤1000000∧p.L.length≤1000000)∧vL M p=(M',e),.t [.a [.p (bY aI 7 M')],.c (.p (.i .i64 e))])
  |_,_=>none
 |_=>none
noncomputable def aJS(W T:List Int):Ext:=lH [(53,SJ W),(52,aMQ (aCG (W++T)))]
def aJY:Ext:=jV [(50,KH)]
def aJW:Ext:=jV [(51,AV)]
def aJX(M:List Pg):Ext:=jV [(28,KE M)]
def aJT:Ext:=jV [(18,aM9)]
def aKC(M:List Pg):Ext:=jV [(54,VK M)]
def aJM(p:Pg):Ext:=jV [(13,KG p),(21,MY)]
def aJP(M:List Pg)(p:Pg)(T:List Int)(M' out:List Pg):Ext:=jV [(15,zL T),(22,aCR M p T M' out)]
def aJO(M:List Pg)(p:Pg)(M':List Pg)(e:Int):Ext:=jV [(24,KI M p M' e)]
theorem tI(A:List Int)(k:Int):dC eW (dH 3 (cW aB Try.f53)) (nH Try.f53 [aU aS 1 A,iV k]) (iA (eZ 14 [4]) [])=Tr.rq (0≤(↑0:Int)∧((↑0:Int)≤if k<(↑A.length:Int) then k else (↑A.length:Int))∧(if k<(↑A.length:Int) then k else (↑A.length:Int))≤(↑A.length:Int))
 (.rq
 ((0+((if k<(↑A.length:Int) then k else (↑A.length:Int)).toNat-0))*8≤140737488355328 ∧
 0+((if k<(↑A.length:Int) then k else (↑A.length:Int)).toNat-0)≤140737488355328 ∧
 ∀(e o:Nat),e<(if k<(↑A.length:Int) then k else (↑A.length:Int)).toNat-0→o<1→iH (C.p (aE aS A (e+0) o))=true)
 (.done .normal
 (bS 14 [(4,.c (.sl 0 1 0 (0+((if k<(↑A.length:Int) then k else (↑A.length:Int)).toNat-(↑0:Int).toNat))))] [.row 3 1 (0+((if k<(↑A.length:Int) then k else (↑A.length:Int)).toNat-(↑0:Int).toNat)) fun e o=>bP [0] (fC 0 (fun x x_1=>C.top) (fun e o=>C.p (PV.i aC (A.getD (e+(↑0:Int).toNat) default))) e o)]))):=by kernel_rfl
theorem aS6(M:List Pg)(p:Pg)(T:List Int):dC aJY (dH 3 (cW aB gY)) (nH gY [.a [.p (bY aI 7 M)],.a [.p (.i .i64 p.kd),.p (.s p.ru),.p (.i .i64 p.ve),.p (bY aN 2 p.L),.p (.i .i64 p.st),.p (.i .i64 p.se),.p (.s p.to)],aU aS 1 T]) (iA (eZ 111 [2,3,4,6,7,8,9]) (bI aB gY))=Tr.rq (kA aN 2 (bO cT p.L.length (aE aN p.L)) p.L.length (aE aN p.L))
 (.done .normal
 (bS 111 [(2,.c (.p (.l 1 T.length (aE aS T)))),(3,.c (.ptr 0 0)),(4,.c (.ptr 1 0)),(6,.c (.ptr 2 0)),(7,.c (.p (.z (bA none 0 0)))),(8,.c (.p (.b (hJ (Pg.mk 0 p.ru p.ve (bO cT p.L.length (aE aN p.L)) 0 p.se (aG #[])))))),(9,.c (.p (.i .i64 0)))] [.cells 27 [.p (.l 7 M.length (aE aI M))],.cells 31 [.p (.i .i64 p.kd),.p (.s p.ru),.p (.i .i64 p.ve),.p (.l 2 p.L.length (aE aN p.L)),.p (.i .i64 p.st),.p (.i .i64 p.se),.p (.s p.to)],.cells 27 [.p (.z (bA none 0 0))]])):=by kernel_rfl
theorem aS5(M:List Pg)(p:Pg)(T:List Int)(g:Bool)(i:Nat):dC aJW (gR (cW aB gY) 3) (bS 111 [(2,aU aS 1 T),(3,.c (.ptr 0 0)),(4,.c (.ptr 1 0)),(6,.c (.ptr 2 0)),(7,.c (.p (.z (.slice none 0 0)))),(8,bV g),(9,iV (i:Nat))] [.cells 27 [.p (bY aI 7 M)],.cells 31 [.p (.i .i64 p.kd),.p (.s p.ru),.p (.i .i64 p.ve),.p (bY aN 2 p.L),.p (.i .i64 p.st),.p (.i .i64 p.se),.p (.s p.to)],.cells 27 [.p (.z (.slice none 0 0))]]) (iA (eZ 111 [2,3,4,6,7,8,9]) (bI aB gY))=bT (decide ((↑i:Int)<(↑T.length:Int)))
 (.rq (0≤(↑i:Int)∧(↑i:Int)<(↑T.length:Int))
 (.rq True
 (bT g
 (.rq (eV aC ((↑i:Int)+1))
 (.done .normal
 (bS 111 [(2,.c (.p (.l 1 T.length (aE aS T)))),(3,.c (.ptr 0 0)),(4,.c (.ptr 1 0)),(6,.c (.ptr 2 0)),(7,.c (.p (.z (bA none 0 0)))),(8,.c (.p (.b (gQ (T.getD (↑i:Int).toNat default))))),(9,.c (.p (.i .i64 ((↑i:Int)+1))))] [.cells 27 [.p (.l 7 M.length (aE aI M))],.cells 31 [.p (.i .i64 p.kd),.p (.s p.ru),.p (.i .i64 p.ve),.p (.l 2 p.L.length (aE aN p.L)),.p (.i .i64 p.st),.p (.i .i64 p.se),.p (.s p.to)],.cells 27 [.p (.z (bA none 0 0))]])))
 (.rq (eV aC ((↑i:Int)+1))
 (.done .normal
 (bS 111 [(2,.c (.p (.l 1 T.length (aE aS T)))),(3,.c (.ptr 0 0)),(4,.c (.ptr 1 0)),(6,.c (.ptr 2 0)),(7,.c (.p (.z (bA none 0 0)))),(8,.c (.p (.b false))),(9,.c (.p (.i .i64 ((↑i:Int)+1))))] [.cells 27 [.p (.l 7 M.length (aE aI M))],.cells 31 [.p (.i .i64 p.kd),.p (.s p.ru),.p (.i .i64 p.ve),.p (.l 2 p.L.length (aE aN p.L)),.p (.i .i64 p.st),.p (.i .i64 p.se),.p (.s p.to)],.cells 27 [.p (.z (bA none 0 0))]]))))))
 (.done (.exit 0)
 (bS 111 [(2,.c (.p (.l 1 T.length (aE aS T)))),(3,.c (.ptr 0 0)),(4,.c (.ptr 1 0)),(6,.c (.ptr 2 0)),(7,.c (.p (.z (bA none 0 0)))),(8,.c (.p (.b g))),(9,.c (.p (.i .i64 (↑i:Int))))] [.cells 27 [.p (.l 7 M.length (aE aI M))],.cells 31 [.p (.i .i64 p.kd),.p (.s p.ru),.p (.i .i64 p.ve),.p (.l 2 p.L.length (aE aN p.L)),.p (.i .i64 p.st),.p (.i .i64 p.se),.p (.s p.to)],.cells 27 [.p (.z (bA none 0 0))]])):=by kernel_rfl
theorem aS4(M:List Pg)(p:Pg)(T:List Int)(g:Bool):dC eW (dH 2 (bJ 4 (cW aB gY))) (bS 111 [(2,aU aS 1 T),(3,.c (.ptr 0 0)),(4,.c (.ptr 1 0)),(6,.c (.ptr 2 0)),(7,.c (.p (.z (.slice none 0 0)))),(8,bV g)] [.cells 27 [.p (bY aI 7 M)],.cells 31 [.p (.i .i64 p.kd),.p (.s p.ru),.p (.i .i64 p.ve),.p (bY aN 2 p.L),.p (.i .i64 p.st),.p (.i .i64 p.se),.p (.s p.to)],.cells 27 [.p (.z (.slice none 0 0))]]) (iA (eZ 111 [2,3,4,6]) (bI aB gY))=bT (!g) (.done .ret (St.mk [V.t [V1.a [C.p (PV.l 7 M.length (aE aI M))],V1.c (C.p (PV.z (bA none 0 0)))]] []))
 (.done .normal
 (bS 111 [(2,.c (.p (.l 1 T.length (aE aS T)))),(3,.c (.ptr 0 0)),(4,.c (.ptr 1 0)),(6,.c (.ptr 2 0))] [.cells 27 [.p (.l 7 M.length (aE aI M))],.cells 31 [.p (.i .i64 p.kd),.p (.s p.ru),.p (.i .i64 p.ve),.p (.l 2 p.L.length (aE aN p.L)),.p (.i .i64 p.st),.p (.i .i64 p.se),.p (.s p.to)],.cells 27 [.p (.z (bA none 0 0))]])):=by kernel_rfl
theorem aS3(M:List Pg)(p:Pg)(T:List Int):dC (aJX M) (dH 1 (bJ 2 (bJ 4 (cW aB gY)))) (bS 111 [(2,aU aS 1 T),(3,.c (.ptr 0 0)),(4,.c (.ptr 1 0)),(6,.c (.ptr 2 0))] [.cells 27 [.p (bY aI 7 M)],.cells 31 [.p (.i .i64 p.kd),.p (.s p.ru),.p (.i .i64 p.ve),.p (bY aN 2 p.L),.p (.i .i64 p.st),.p (.i .i64 p.se),.p (.s p.to)],.cells 27 [.p (.z (.slice none 0 0))]]) (iA (eZ 111 [2,3,4,6,11]) (bI aB gY))=Tr.rq
 (((M.length=M.length∧∀(e o:Nat),e<M.length→o<7→lE (aE aI M e o) (aE aI M e o))∧kA aN 2 (bO cT p.L.length (aE aN p.L)) p.L.length (aE aN p.L)) ∧
 M.length≤1000000∧(Pg.mk p.kd p.ru p.ve (bO cT p.L.length (aE aN p.L)) p.st p.se p.to).L.length≤1000000)
 (.done .normal
 (bS 111 [(2,.c (.p (.l 1 T.length (aE aS T)))),(3,.c (.ptr 0 0)),(4,.c (.ptr 1 0)),(6,.c (.ptr 2 0)),(11,.c (.p (.l 1 (fX M (Pg.mk p.kd p.ru p.ve (bO cT p.L.length (aE aN p.L)) p.st p.se p.to)).length (aE aS (fX M (Pg.mk p.kd p.ru p.ve (bO cT p.L.length (aE aN p.L)) p.st p.se p.to))))))] [.cells 27 [.p (.l 7 M.length (aE aI M))],.cells 31 [.p (.i .i64 p.kd),.p (.s p.ru),.p (.i .i64 p.ve),.p (.l 2 p.L.length (aE aN p.L)),.p (.i .i64 p.st),.p (.i .i64 p.se),.p (.s p.to)],.cells 27 [.p (.z (bA none 0 0))]])):=by kernel_rfl
theorem aS2(M:List Pg)(p:Pg)(W T:List Int):dC (aJS W T) (dH 3 (bJ 1 (bJ 2 (bJ 4 (cW aB gY))))) (bS 111 [(2,aU aS 1 T),(3,.c (.ptr 0 0)),(4,.c (.ptr 1 0)),(6,.c (.ptr 2 0)),(11,aU aS 1 W)] [.cells 27 [.p (bY aI 7 M)],.cells 31 [.p (.i .i64 p.kd),.p (.s p.ru),.p (.i .i64 p.ve),.p (bY aN 2 p.L),.p (.i .i64 p.st),.p (.i .i64 p.se),.p (.s p.to)],.cells 27 [.p (.z (.slice none 0 0))]]) (iA (eZ 111 [2,3,4,6,11,12,13,14]) (bI aB gY))=Tr.rq (kA aS 1 W W.length (aE aS W)∧(↑W.length:Int)=(↑W.length:Int)∧W.length≤1000000)
 (.rq (W.length=W.length)
 (.rq ((W.length+T.length)*8≤140737488355328∧W.length+T.length≤140737488355328∧∀(e o:Nat),e<T.length→o<1→iH (C.p (aE aS T e o))=true)
 (.rq
 ((FN 4 1 (W.length+T.length) [V.c (C.sl 4 1 0 (W.length+T.length))] ∧
 ∀(e o:Nat),
 e<W.length+T.length→o<1→BA (fC W.length (fun e o=>C.p (PV.i aC (W.getD e default))) (fun e o=>C.p (PV.i aC (T.getD e default))) e o)=true) ∧
 (kA aS 1 (W++T) (W.length+T.length) fun e o=>mI (fC W.length (fun e o=>C.p (aE aS W e o)) (fun e o=>C.p (aE aS T e o)) (e+0) o))∧(W++T).length≤1000000)
 (.done .normal
 (bS 111 [(2,.c (.p (.l 1 T.length (aE aS T)))),(3,.c (.ptr 0 0)),(4,.c (.ptr 1 0)),(6,.c (.ptr 2 0)),(11,.c (.p (.l 1 W.length (aE aS W)))),(12,.c (.p (.l 1 (mJ (W++T)).length (aE aS (mJ (W++T)))))),(13,.c (.p (.z (bA none 0 0)))),(14,.c (.p (.i .i64 0)))] [.cells 27 [.p (.l 7 M.length (aE aI M))],.cells 31 [.p (.i .i64 p.kd),.p (.s p.ru),.p (.i .i64 p.ve),.p (.l 2 p.L.length (aE aN p.L)),.p (.i .i64 p.st),.p (.i .i64 p.se),.p (.s p.to)],.cells 27 [.p (.z (bA none 0 0))]]))))):=by kernel_rfl
theorem aS1(M out:List Pg)(p:Pg)(W T A:List Int)(k i:Nat):dC eW (dH 2 (gR (cW aB gY) 10)) (bS 111 [(2,aU aS 1 T),(3,.c (.ptr 0 0)),(4,.c (.ptr 1 0)),(6,.c (.ptr 2 0)),(11,aU aS 1 W),(12,aU aS 1 A),(13,.c (.sl 3 7 0 k)),(14,iV (i:Nat))] [.cells 27 [.p (bY aI 7 M)],.cells 31 [.p (.i .i64 p.kd),.p (.s p.ru),.p (.i .i64 p.ve),.p (bY aN 2 p.L),.p (.i .i64 p.st),.p (.i .i64 p.se),.p (.s p.to)],.cells 27 [.p (.z (.slice none 0 0))],.row 31 7 k (aQ aI out)]) (iA (eZ 111 [2,3,4,6,11,12,13,14]) (bI aB gY))=bT (decide ((↑i:Int)<(↑A.length:Int)))
 (.done .normal
 (bS 111 [(2,.c (.p (.l 1 T.length (aE aS T)))),(3,.c (.ptr 0 0)),(4,.c (.ptr 1 0)),(6,.c (.ptr 2 0)),(11,.c (.p (.l 1 W.length (aE aS W)))),(12,.c (.p (.l 1 A.length (aE aS A)))),(13,.c (.sl 3 7 0 k)),(14,.c (.p (.i .i64 (↑i:Int))))] [.cells 27 [.p (.l 7 M.length (aE aI M))],.cells 31 [.p (.i .i64 p.kd),.p (.s p.ru),.p (.i .i64 p.ve),.p (.l 2 p.L.length (aE aN p.L)),.p (.i .i64 p.st),.p (.i .i64 p.se),.p (.s p.to)],.cells 27 [.p (.z (bA none 0 0))],.row 31 7 k fun e o=>bP [0,1,2,3] (aQ aI out e o)]))
 (.done (.exit 2)
 (bS 111 [(2,.c (.p (.l 1 T.length (aE aS T)))),(3,.c (.ptr 0 0)),(4,.c (.ptr 1 0)),(6,.c (.ptr 2 0)),(11,.c (.p (.l 1 W.length (aE aS W)))),(12,.c (.p (.l 1 A.length (aE aS A)))),(13,.c (.sl 3 7 0 k)),(14,.c (.p (.i .i64 (↑i:Int))))] [.cells 27 [.p (.l 7 M.length (aE aI M))],.cells 31 [.p (.i .i64 p.kd),.p (.s p.ru),.p (.i .i64 p.ve),.p (.l 2 p.L.length (aE aN p.L)),.p (.i .i64 p.st),.p (.i .i64 p.se),.p (.s p.to)],.cells 27 [.p (.z (bA none 0 0))],.row 31 7 k fun e o=>bP [0,1,2,3] (aQ aI out e o)])):=by kernel_rfl
theorem aS0(M out:List Pg)(p:Pg)(W T A:List Int)(k i:Nat):dC aJT (dH 3 (eX (inr (bF .skip (gR (cW aB gY) 10) 2)))) (bS 111 [(2,aU aS 1 T),(3,.c (.ptr 0 0)),(4,.c (.ptr 1 0)),(6,.c (.ptr 2 0)),(11,aU aS 1 W),(12,aU aS 1 A),(13,.c (.sl 3 7 0 k)),(14,iV (i:Nat))] [.cells 27 [.p (bY aI 7 M)],.cells 31 [.p (.i .i64 p.kd),.p (.s p.ru),.p (.i .i64 p.ve),.p (bY aN 2 p.L),.p (.i .i64 p.st),.p (.i .i64 p.se),.p (.s p.to)],.cells 27 [.p (.z (.slice none 0 0))],.row 31 7 k (aQ aI out)]) (iA (eZ 111 [2,3,4,6,11,12,13,14,15,16,17]) (bI aB gY))=Tr.rq (0≤(↑i:Int)∧(↑i:Int)<(↑A.length:Int))
 (.rq (0≤(↑i:Int)∧(↑i:Int)<(↑A.length:Int))
 (.rq (kA aS 1 (bO gI W.length (aE aS W)) W.length (aE aS W)∧(bO gI W.length (aE aS W)).length≤1000000)
 (.rq (0≤(↑i:Int)∧(↑i:Int)<(↑A.length:Int))
 (.rq (kA aS 1 (bO gI T.length (aE aS T)) T.length (aE aS T)∧(bO gI T.length (aE aS T)).length≤1000000)
 (.done .normal
 (bS 111 [(2,.c (.p (.l 1 T.length (aE aS T)))),(3,.c (.ptr 0 0)),(4,.c (.ptr 1 0)),(6,.c (.ptr 2 0)),(11,.c (.p (.l 1 W.length (aE aS W)))),(12,.c (.p (.l 1 A.length (aE aS A)))),(13,.c (.sl 3 7 0 k)),(14,.c (.p (.i .i64 (↑i:Int)))),(15,.c (.ptr 4 0)),(16,.c (.p (.b (decide (A.getD (↑i:Int).toNat default∈bO gI W.length (aE aS W)))))),(17,.c (.p (.b (decide (A.getD (↑i:Int).toNat default∈bO gI T.length (aE aS T))))))] [.cells 27 [.p (.l 7 M.length (aE aI M))],.cells 31 [.p (.i .i64 p.kd),.p (.s p.ru),.p (.i .i64 p.ve),.p (.l 2 p.L.length (aE aN p.L)),.p (.i .i64 p.st),.p (.i .i64 p.se),.p (.s p.to)],.cells 27 [.p (.z (bA none 0 0))],.row 31 7 k fun e o=>bP [0,1,2,3,4] (aQ aI out e o),.cells 31 [.p (.i .i64 0),.p (.s p.ru),.p (.i .i64 p.ve),.p (.l 2 p.L.length (aE aN p.L)),.p (.i .i64 (A.getD (↑i:Int).toNat default)),.p (.i .i64 p.se),.p (.s (aG #[]))]])))))):=by kernel_rfl
theorem aRZ(M out:List Pg)(p:Pg)(W T A:List Int)(k i:Nat)(t:Int)(x y:Bool):dC (aKC M) (bJ 3 (eX (inr (bF .skip (gR (cW aB gY) 10) 2)))) (bS 111 [(2,aU aS 1 T),(3,.c (.ptr 0 0)),(4,.c (.ptr 1 0)),(6,.c (.ptr 2 0)),(11,aU aS 1 W),(12,aU aS 1 A),(13,.c (.sl 3 7 0 k)),(14,iV (i:Nat)),(15,.c (.ptr 4 0)),(16,bV x),(17,bV y)] [.cells 27 [.p (bY aI 7 M)],.cells 31 [.p (.i .i64 p.kd),.p (.s p.ru),.p (.i .i64 p.ve),.p (bY aN 2 p.L),.p (.i .i64 p.st),.p (.i .i64 p.se),.p (.s p.to)],.cells 27 [.p (.z (.slice none 0 0))],.row 31 7 k (aQ aI out),.cells 31 [.p (.i .i64 0),.p (.s p.ru),.p (.i .i64 p.ve),.p (bY aN 2 p.L),.p (.i .i64 t),.p (.i .i64 p.se),.p (.s ⟨#[]⟩)]]) (iA (eZ 111 [2,3,4,6,11,12,13,14]) (bI aB gY))=bT x
 (bT (!y)
 (bT y
 (bT (!x)
 (bT (!x==y)
 (.rq (k=k)
 (.rq (1≤1)
 (.rq
 ((k+1)*88≤140737488355328 ∧
 k+1≤140737488355328 ∧
 ∀(e o:Nat),
 e<1 →
 o<7 →
 iH
 (lM
 [C.p (PV.i aC 2),C.p (PV.s p.ru),C.p (PV.i aC p.ve),C.p (PV.l 2 p.L.length (aE aN p.L)),C.p (PV.i aC t),C.p (PV.i aC p.se),
 C.p (PV.s (aG #[]))]
 7 1 (e+0) o) =
 true)
 (.rq
 (((M.length=M.length∧∀(e o:Nat),e<M.length→o<7→lE (aE aI M e o) (aE aI M e o)) ∧
 kA aN 2 (bO cT p.L.length (aE aN p.L)) p.L.length (aE aN p.L)) ∧
 M.length≤1000000)
 (.done .normal
 (bS 111 [(2,.c (.p (.l 1 T.length (aE aS T)))),(3,.c (.ptr 0 0)),(4,.c (.ptr 1 0)),(6,.c (.ptr 2 0)),(11,.c (.p (.l 1 W.length (aE aS W)))),(12,.c (.p (.l 1 A.length (aE aS A)))),(13,.c (.sl 3 7 0 (k+1))),(14,.c (.p (.i .i64 (↑i:Int))))] [.cells 27 [.p (.l 7 (M++[Pg.mk 2 p.ru p.ve (bO cT p.L.length (aE aN p.L)) t p.se (aG #[])]).length (aE aI (M++[Pg.mk 2 p.ru p.ve (bO cT p.L.length (aE aN p.L)) t p.se (aG #[])])))],.cells 31 [.p (.i .i64 p.kd),.p (.s p.ru),.p (.i .i64 p.ve),.p (.l 2 p.L.length (aE aN p.L)),.p (.i .i64 p.st),.p (.i .i64 p.se),.p (.s p.to)],.cells 27 [.p (.z (bA none 0 0))],.row 31 7 (k+1) fun e o=>bP [0,1,2,6] (fC k (aQ aI out) (fun e o=>bF C.top [C.p (PV.i aC 2),C.p (PV.s p.ru),C.p (PV.i aC p.ve),C.p (PV.l 2 p.L.length (aE aN p.L)),C.p (PV.i aC t),C.p (PV.i aC p.se),C.p (PV.s (aG #[]))] ((e+0)*7+o)) e o)]))))))
 (.done .normal
 (bS 111 [(2,.c (.p (.l 1 T.length (aE aS T)))),(3,.c (.ptr 0 0)),(4,.c (.ptr 1 0)),(6,.c (.ptr 2 0)),(11,.c (.p (.l 1 W.length (aE aS W)))),(12,.c (.p (.l 1 A.length (aE aS A)))),(13,.c (.sl 3 7 0 k)),(14,.c (.p (.i .i64 (↑i:Int))))] [.cells 27 [.p (.l 7 M.length (aE aI M))],.cells 31 [.p (.i .i64 p.kd),.p (.s p.ru),.p (.i .i64 p.ve),.p (.l 2 p.L.length (aE aN p.L)),.p (.i .i64 p.st),.p (.i .i64 p.se),.p (.s p.to)],.cells 27 [.p (.z (bA none 0 0))],.row 31 7 k fun e o=>bP [0,1,2,3] (aQ aI out e o)])))
 (bT (!x==y)
 (.rq (k=k)
 (.rq (1≤1)
 (.rq
 ((k+1)*88≤140737488355328 ∧
 k+1≤140737488355328 ∧
 ∀(e o:Nat),
 e<1 →
 o<7 →
 iH
 (lM
 [C.p (PV.i aC 1),C.p (PV.s p.ru),C.p (PV.i aC p.ve),C.p (PV.l 2 p.L.length (aE aN p.L)),C.p (PV.i aC t),C.p (PV.i aC p.se),
 C.p (PV.s (aG #[]))]
 7 1 (e+0) o) =
 true)
 (.rq
 (((M.length=M.length∧∀(e o:Nat),e<M.length→o<7→lE (aE aI M e o) (aE aI M e o)) ∧
 kA aN 2 (bO cT p.L.length (aE aN p.L)) p.L.length (aE aN p.L)) ∧
 M.length≤1000000)
 (.done .normal
 (bS 111 [(2,.c (.p (.l 1 T.length (aE aS T)))),(3,.c (.ptr 0 0)),(4,.c (.ptr 1 0)),(6,.c (.ptr 2 0)),(11,.c (.p (.l 1 W.length (aE aS W)))),(12,.c (.p (.l 1 A.length (aE aS A)))),(13,.c (.sl 3 7 0 (k+1))),(14,.c (.p (.i .i64 (↑i:Int))))] [.cells 27 [.p (.l 7 (M++[Pg.mk 1 p.ru p.ve (bO cT p.L.length (aE aN p.L)) t p.se (aG #[])]).length (aE aI (M++[Pg.mk 1 p.ru p.ve (bO cT p.L.length (aE aN p.L)) t p.se (aG #[])])))],.cells 31 [.p (.i .i64 p.kd),.p (.s p.ru),.p (.i .i64 p.ve),.p (.l 2 p.L.length (aE aN p.L)),.p (.i .i64 p.st),.p (.i .i64 p.se),.p (.s p.to)],.cells 27 [.p (.z (bA none 0 0))],.row 31 7 (k+1) fun e o=>bP [0,1,2,6] (fC k (aQ aI out) (fun e o=>bF C.top [C.p (PV.i aC 1),C.p (PV.s p.ru),C.p (PV.i aC p.ve),C.p (PV.l 2 p.L.length (aE aN p.L)),C.p (PV.i aC t),C.p (PV.i aC p.se),C.p (PV.s (aG #[]))] ((e+0)*7+o)) e o)]))))))
 (.done .normal
 (bS 111 [(2,.c (.p (.l 1 T.length (aE aS T)))),(3,.c (.ptr 0 0)),(4,.c (.ptr 1 0)),(6,.c (.ptr 2 0)),(11,.c (.p (.l 1 W.length (aE aS W)))),(12,.c (.p (.l 1 A.length (aE aS A)))),(13,.c (.sl 3 7 0 k)),(14,.c (.p (.i .i64 (↑i:Int))))] [.cells 27 [.p (.l 7 M.length (aE aI M))],.cells 31 [.p (.i .i64 p.kd),.p (.s p.ru),.p (.i .i64 p.ve),.p (.l 2 p.L.length (aE aN p.L)),.p (.i .i64 p.st),.p (.i .i64 p.se),.p (.s p.to)],.cells 27 [.p (.z (bA none 0 0))],.row 31 7 k fun e o=>bP [0,1,2,3] (aQ aI out e o)]))))
 (bT (!x==y)
 (.rq (k=k)
 (.rq (1≤1)
 (.rq
 ((k+1)*88≤140737488355328 ∧
 k+1≤140737488355328 ∧
 ∀(e o:Nat),
 e<1 →
 o<7 →
 iH
 (lM
 [C.p (PV.i aC 1),C.p (PV.s p.ru),C.p (PV.i aC p.ve),C.p (PV.l 2 p.L.length (aE aN p.L)),C.p (PV.i aC t),C.p (PV.i aC p.se),
 C.p (PV.s (aG #[]))]
 7 1 (e+0) o) =
 true)
 (.rq
 (((M.length=M.length∧∀(e o:Nat),e<M.length→o<7→lE (aE aI M e o) (aE aI M e o)) ∧
 kA aN 2 (bO cT p.L.length (aE aN p.L)) p.L.length (aE aN p.L)) ∧
 M.length≤1000000)
 (.done .normal
 (bS 111 [(2,.c (.p (.l 1 T.length (aE aS T)))),(3,.c (.ptr 0 0)),(4,.c (.ptr 1 0)),(6,.c (.ptr 2 0)),(11,.c (.p (.l 1 W.length (aE aS W)))),(12,.c (.p (.l 1 A.length (aE aS A)))),(13,.c (.sl 3 7 0 (k+1))),(14,.c (.p (.i .i64 (↑i:Int))))] [.cells 27 [.p (.l 7 (M++[Pg.mk 1 p.ru p.ve (bO cT p.L.length (aE aN p.L)) t p.se (aG #[])]).length (aE aI (M++[Pg.mk 1 p.ru p.ve (bO cT p.L.length (aE aN p.L)) t p.se (aG #[])])))],.cells 31 [.p (.i .i64 p.kd),.p (.s p.ru),.p (.i .i64 p.ve),.p (.l 2 p.L.length (aE aN p.L)),.p (.i .i64 p.st),.p (.i .i64 p.se),.p (.s p.to)],.cells 27 [.p (.z (bA none 0 0))],.row 31 7 (k+1) fun e o=>bP [0,1,2,6] (fC k (aQ aI out) (fun e o=>bF C.top [C.p (PV.i aC 1),C.p (PV.s p.ru),C.p (PV.i aC p.ve),C.p (PV.l 2 p.L.length (aE aN p.L)),C.p (PV.i aC t),C.p (PV.i aC p.se),C.p (PV.s (aG #[]))] ((e+0)*7+o)) e o)]))))))
 (.done .normal
 (bS 111 [(2,.c (.p (.l 1 T.length (aE aS T)))),(3,.c (.ptr 0 0)),(4,.c (.ptr 1 0)),(6,.c (.ptr 2 0)),(11,.c (.p (.l 1 W.length (aE aS W)))),(12,.c (.p (.l 1 A.length (aE aS A)))),(13,.c (.sl 3 7 0 k)),(14,.c (.p (.i .i64 (↑i:Int))))] [.cells 27 [.p (.l 7 M.length (aE aI M))],.cells 31 [.p (.i .i64 p.kd),.p (.s p.ru),.p (.i .i64 p.ve),.p (.l 2 p.L.length (aE aN p.L)),.p (.i .i64 p.st),.p (.i .i64 p.se),.p (.s p.to)],.cells 27 [.p (.z (bA none 0 0))],.row 31 7 k fun e o=>bP [0,1,2,3] (aQ aI out e o)]))))
 (bT y
 (bT (!x)
 (bT (!x==y)
 (.rq (k=k)
 (.rq (1≤1)
 (.rq
 ((k+1)*88≤140737488355328 ∧
 k+1≤140737488355328 ∧
 ∀(e o:Nat),
 e<1 →
 o<7 →
 iH
 (lM
 [C.p (PV.i aC 2),C.p (PV.s p.ru),C.p (PV.i aC p.ve),C.p (PV.l 2 p.L.length (aE aN p.L)),C.p (PV.i aC t),C.p (PV.i aC p.se),
 C.p (PV.s (aG #[]))]
 7 1 (e+0) o) =
 true)
 (.rq
 (((M.length=M.length∧∀(e o:Nat),e<M.length→o<7→lE (aE aI M e o) (aE aI M e o)) ∧
 kA aN 2 (bO cT p.L.length (aE aN p.L)) p.L.length (aE aN p.L)) ∧
 M.length≤1000000)
 (.done .normal
 (bS 111 [(2,.c (.p (.l 1 T.length (aE aS T)))),(3,.c (.ptr 0 0)),(4,.c (.ptr 1 0)),(6,.c (.ptr 2 0)),(11,.c (.p (.l 1 W.length (aE aS W)))),(12,.c (.p (.l 1 A.length (aE aS A)))),(13,.c (.sl 3 7 0 (k+1))),(14,.c (.p (.i .i64 (↑i:Int))))] [.cells 27 [.p (.l 7 (M++[Pg.mk 2 p.ru p.ve (bO cT p.L.length (aE aN p.L)) t p.se (aG #[])]).length (aE aI (M++[Pg.mk 2 p.ru p.ve (bO cT p.L.length (aE aN p.L)) t p.se (aG #[])])))],.cells 31 [.p (.i .i64 p.kd),.p (.s p.ru),.p (.i .i64 p.ve),.p (.l 2 p.L.length (aE aN p.L)),.p (.i .i64 p.st),.p (.i .i64 p.se),.p (.s p.to)],.cells 27 [.p (.z (bA none 0 0))],.row 31 7 (k+1) fun e o=>bP [0,1,2,6] (fC k (aQ aI out) (fun e o=>bF C.top [C.p (PV.i aC 2),C.p (PV.s p.ru),C.p (PV.i aC p.ve),C.p (PV.l 2 p.L.length (aE aN p.L)),C.p (PV.i aC t),C.p (PV.i aC p.se),C.p (PV.s (aG #[]))] ((e+0)*7+o)) e o)]))))))
 (.done .normal
 (bS 111 [(2,.c (.p (.l 1 T.length (aE aS T)))),(3,.c (.ptr 0 0)),(4,.c (.ptr 1 0)),(6,.c (.ptr 2 0)),(11,.c (.p (.l 1 W.length (aE aS W)))),(12,.c (.p (.l 1 A.length (aE aS A)))),(13,.c (.sl 3 7 0 k)),(14,.c (.p (.i .i64 (↑i:Int))))] [.cells 27 [.p (.l 7 M.length (aE aI M))],.cells 31 [.p (.i .i64 p.kd),.p (.s p.ru),.p (.i .i64 p.ve),.p (.l 2 p.L.length (aE aN p.L)),.p (.i .i64 p.st),.p (.i .i64 p.se),.p (.s p.to)],.cells 27 [.p (.z (bA none 0 0))],.row 31 7 k fun e o=>bP [0,1,2,3] (aQ aI out e o)])))
 (bT (!x==y)
 (.rq (k=k)
 (.rq (1≤1)
 (.rq
 ((k+1)*88≤140737488355328 ∧
 k+1≤140737488355328 ∧
 ∀(e o:Nat),
 e<1 →
 o<7 →
 iH
 (lM
 [C.p (PV.i aC 0),C.p (PV.s p.ru),C.p (PV.i aC p.ve),C.p (PV.l 2 p.L.length (aE aN p.L)),C.p (PV.i aC t),C.p (PV.i aC p.se),
 C.p (PV.s (aG #[]))]
 7 1 (e+0) o) =
 true)
 (.rq
 (((M.length=M.length∧∀(e o:Nat),e<M.length→o<7→lE (aE aI M e o) (aE aI M e o)) ∧
 kA aN 2 (bO cT p.L.length (aE aN p.L)) p.L.length (aE aN p.L)) ∧
 M.length≤1000000)
 (.done .normal
 (bS 111 [(2,.c (.p (.l 1 T.length (aE aS T)))),(3,.c (.ptr 0 0)),(4,.c (.ptr 1 0)),(6,.c (.ptr 2 0)),(11,.c (.p (.l 1 W.length (aE aS W)))),(12,.c (.p (.l 1 A.length (aE aS A)))),(13,.c (.sl 3 7 0 (k+1))),(14,.c (.p (.i .i64 (↑i:Int))))] [.cells 27 [.p (.l 7 (M++[Pg.mk 0 p.ru p.ve (bO cT p.L.length (aE aN p.L)) t p.se (aG #[])]).length (aE aI (M++[Pg.mk 0 p.ru p.ve (bO cT p.L.length (aE aN p.L)) t p.se (aG #[])])))],.cells 31 [.p (.i .i64 p.kd),.p (.s p.ru),.p (.i .i64 p.ve),.p (.l 2 p.L.length (aE aN p.L)),.p (.i .i64 p.st),.p (.i .i64 p.se),.p (.s p.to)],.cells 27 [.p (.z (bA none 0 0))],.row 31 7 (k+1) fun e o=>bP [0,1,2,6] (fC k (aQ aI out) (fun e o=>bF C.top [C.p (PV.i aC 0),C.p (PV.s p.ru),C.p (PV.i aC p.ve),C.p (PV.l 2 p.L.length (aE aN p.L)),C.p (PV.i aC t),C.p (PV.i aC p.se),C.p (PV.s (aG #[]))] ((e+0)*7+o)) e o)]))))))
 (.done .normal
 (bS 111 [(2,.c (.p (.l 1 T.length (aE aS T)))),(3,.c (.ptr 0 0)),(4,.c (.ptr 1 0)),(6,.c (.ptr 2 0)),(11,.c (.p (.l 1 W.length (aE aS W)))),(12,.c (.p (.l 1 A.length (aE aS A)))),(13,.c (.sl 3 7 0 k)),(14,.c (.p (.i .i64 (↑i:Int))))] [.cells 27 [.p (.l 7 M.length (aE aI M))],.cells 31 [.p (.i .i64 p.kd),.p (.s p.ru),.p (.i .i64 p.ve),.p (.l 2 p.L.length (aE aN p.L)),.p (.i .i64 p.st),.p (.i .i64 p.se),.p (.s p.to)],.cells 27 [.p (.z (bA none 0 0))],.row 31 7 k fun e o=>bP [0,1,2,3] (aQ aI out e o)]))))
 (bT (!x==y)
 (.rq (k=k)
 (.rq (1≤1)
 (.rq
 ((k+1)*88≤140737488355328 ∧
 k+1≤140737488355328 ∧
 ∀(e o:Nat),
 e<1 →
 o<7 →
 iH
 (lM
 [C.p (PV.i aC 0),C.p (PV.s p.ru),C.p (PV.i aC p.ve),C.p (PV.l 2 p.L.length (aE aN p.L)),C.p (PV.i aC t),C.p (PV.i aC p.se),
 C.p (PV.s (aG #[]))]
 7 1 (e+0) o) =
 true)
 (.rq
 (((M.length=M.length∧∀(e o:Nat),e<M.length→o<7→lE (aE aI M e o) (aE aI M e o)) ∧
 kA aN 2 (bO cT p.L.length (aE aN p.L)) p.L.length (aE aN p.L)) ∧
 M.length≤1000000)
 (.done .normal
 (bS 111 [(2,.c (.p (.l 1 T.length (aE aS T)))),(3,.c (.ptr 0 0)),(4,.c (.ptr 1 0)),(6,.c (.ptr 2 0)),(11,.c (.p (.l 1 W.length (aE aS W)))),(12,.c (.p (.l 1 A.length (aE aS A)))),(13,.c (.sl 3 7 0 (k+1))),(14,.c (.p (.i .i64 (↑i:Int))))] [.cells 27 [.p (.l 7 (M++[Pg.mk 0 p.ru p.ve (bO cT p.L.length (aE aN p.L)) t p.se (aG #[])]).length (aE aI (M++[Pg.mk 0 p.ru p.ve (bO cT p.L.length (aE aN p.L)) t p.se (aG #[])])))],.cells 31 [.p (.i .i64 p.kd),.p (.s p.ru),.p (.i .i64 p.ve),.p (.l 2 p.L.length (aE aN p.L)),.p (.i .i64 p.st),.p (.i .i64 p.se),.p (.s p.to)],.cells 27 [.p (.z (bA none 0 0))],.row 31 7 (k+1) fun e o=>bP [0,1,2,6] (fC k (aQ aI out) (fun e o=>bF C.top [C.p (PV.i aC 0),C.p (PV.s p.ru),C.p (PV.i aC p.ve),C.p (PV.l 2 p.L.length (aE aN p.L)),C.p (PV.i aC t),C.p (PV.i aC p.se),C.p (PV.s (aG #[]))] ((e+0)*7+o)) e o)]))))))
 (.done .normal
 (bS 111 [(2,.c (.p (.l 1 T.length (aE aS T)))),(3,.c (.ptr 0 0)),(4,.c (.ptr 1 0)),(6,.c (.ptr 2 0)),(11,.c (.p (.l 1 W.length (aE aS W)))),(12,.c (.p (.l 1 A.length (aE aS A)))),(13,.c (.sl 3 7 0 k)),(14,.c (.p (.i .i64 (↑i:Int))))] [.cells 27 [.p (.l 7 M.length (aE aI M))],.cells 31 [.p (.i .i64 p.kd),.p (.s p.ru),.p (.i .i64 p.ve),.p (.l 2 p.L.length (aE aN p.L)),.p (.i .i64 p.st),.p (.i .i64 p.se),.p (.s p.to)],.cells 27 [.p (.z (bA none 0 0))],.row 31 7 k fun e o=>bP [0,1,2,3] (aQ aI out e o)])))))
 (bT y
 (bT (!x)
 (bT (!x==y)
 (.rq (k=k)
 (.rq (1≤1)
 (.rq
 ((k+1)*88≤140737488355328 ∧
 k+1≤140737488355328 ∧
 ∀(e o:Nat),
 e<1 →
 o<7 →
 iH
 (lM
 [C.p (PV.i aC 2),C.p (PV.s p.ru),C.p (PV.i aC p.ve),C.p (PV.l 2 p.L.length (aE aN p.L)),C.p (PV.i aC t),C.p (PV.i aC p.se),
 C.p (PV.s (aG #[]))]
 7 1 (e+0) o) =
 true)
 (.rq
 (((M.length=M.length∧∀(e o:Nat),e<M.length→o<7→lE (aE aI M e o) (aE aI M e o)) ∧
 kA aN 2 (bO cT p.L.length (aE aN p.L)) p.L.length (aE aN p.L)) ∧
 M.length≤1000000)
 (.done .normal
 (bS 111 [(2,.c (.p (.l 1 T.length (aE aS T)))),(3,.c (.ptr 0 0)),(4,.c (.ptr 1 0)),(6,.c (.ptr 2 0)),(11,.c (.p (.l 1 W.length (aE aS W)))),(12,.c (.p (.l 1 A.length (aE aS A)))),(13,.c (.sl 3 7 0 (k+1))),(14,.c (.p (.i .i64 (↑i:Int))))] [.cells 27 [.p (.l 7 (M++[Pg.mk 2 p.ru p.ve (bO cT p.L.length (aE aN p.L)) t p.se (aG #[])]).length (aE aI (M++[Pg.mk 2 p.ru p.ve (bO cT p.L.length (aE aN p.L)) t p.se (aG #[])])))],.cells 31 [.p (.i .i64 p.kd),.p (.s p.ru),.p (.i .i64 p.ve),.p (.l 2 p.L.length (aE aN p.L)),.p (.i .i64 p.st),.p (.i .i64 p.se),.p (.s p.to)],.cells 27 [.p (.z (bA none 0 0))],.row 31 7 (k+1) fun e o=>bP [0,1,2,6] (fC k (aQ aI out) (fun e o=>bF C.top [C.p (PV.i aC 2),C.p (PV.s p.ru),C.p (PV.i aC p.ve),C.p (PV.l 2 p.L.length (aE aN p.L)),C.p (PV.i aC t),C.p (PV.i aC p.se),C.p (PV.s (aG #[]))] ((e+0)*7+o)) e o)]))))))
 (.done .normal
 (bS 111 [(2,.c (.p (.l 1 T.length (aE aS T)))),(3,.c (.ptr 0 0)),(4,.c (.ptr 1 0)),(6,.c (.ptr 2 0)),(11,.c (.p (.l 1 W.length (aE aS W)))),(12,.c (.p (.l 1 A.length (aE aS A)))),(13,.c (.sl 3 7 0 k)),(14,.c (.p (.i .i64 (↑i:Int))))] [.cells 27 [.p (.l 7 M.length (aE aI M))],.cells 31 [.p (.i .i64 p.kd),.p (.s p.ru),.p (.i .i64 p.ve),.p (.l 2 p.L.length (aE aN p.L)),.p (.i .i64 p.st),.p (.i .i64 p.se),.p (.s p.to)],.cells 27 [.p (.z (bA none 0 0))],.row 31 7 k fun e o=>bP [0,1,2,3] (aQ aI out e o)])))
 (bT (!x==y)
 (.rq (k=k)
 (.rq (1≤1)
 (.rq
 ((k+1)*88≤140737488355328 ∧
 k+1≤140737488355328 ∧
 ∀(e o:Nat),
 e<1 →
 o<7 →
 iH
 (lM
 [C.p (PV.i aC 0),C.p (PV.s p.ru),C.p (PV.i aC p.ve),C.p (PV.l 2 p.L.length (aE aN p.L)),C.p (PV.i aC t),C.p (PV.i aC p.se),
 C.p (PV.s (aG #[]))]
 7 1 (e+0) o) =
 true)
 (.rq
 (((M.length=M.length∧∀(e o:Nat),e<M.length→o<7→lE (aE aI M e o) (aE aI M e o)) ∧
 kA aN 2 (bO cT p.L.length (aE aN p.L)) p.L.length (aE aN p.L)) ∧
 M.length≤1000000)
 (.done .normal
 (bS 111 [(2,.c (.p (.l 1 T.length (aE aS T)))),(3,.c (.ptr 0 0)),(4,.c (.ptr 1 0)),(6,.c (.ptr 2 0)),(11,.c (.p (.l 1 W.length (aE aS W)))),(12,.c (.p (.l 1 A.length (aE aS A)))),(13,.c (.sl 3 7 0 (k+1))),(14,.c (.p (.i .i64 (↑i:Int))))] [.cells 27 [.p (.l 7 (M++[Pg.mk 0 p.ru p.ve (bO cT p.L.length (aE aN p.L)) t p.se (aG #[])]).length (aE aI (M++[Pg.mk 0 p.ru p.ve (bO cT p.L.length (aE aN p.L)) t p.se (aG #[])])))],.cells 31 [.p (.i .i64 p.kd),.p (.s p.ru),.p (.i .i64 p.ve),.p (.l 2 p.L.length (aE aN p.L)),.p (.i .i64 p.st),.p (.i .i64 p.se),.p (.s p.to)],.cells 27 [.p (.z (bA none 0 0))],.row 31 7 (k+1) fun e o=>bP [0,1,2,6] (fC k (aQ aI out) (fun e o=>bF C.top [C.p (PV.i aC 0),C.p (PV.s p.ru),C.p (PV.i aC p.ve),C.p (PV.l 2 p.L.length (aE aN p.L)),C.p (PV.i aC t),C.p (PV.i aC p.se),C.p (PV.s (aG #[]))] ((e+0)*7+o)) e o)]))))))
 (.done .normal
 (bS 111 [(2,.c (.p (.l 1 T.length (aE aS T)))),(3,.c (.ptr 0 0)),(4,.c (.ptr 1 0)),(6,.c (.ptr 2 0)),(11,.c (.p (.l 1 W.length (aE aS W)))),(12,.c (.p (.l 1 A.length (aE aS A)))),(13,.c (.sl 3 7 0 k)),(14,.c (.p (.i .i64 (↑i:Int))))] [.cells 27 [.p (.l 7 M.length (aE aI M))],.cells 31 [.p (.i .i64 p.kd),.p (.s p.ru),.p (.i .i64 p.ve),.p (.l 2 p.L.length (aE aN p.L)),.p (.i .i64 p.st),.p (.i .i64 p.se),.p (.s p.to)],.cells 27 [.p (.z (bA none 0 0))],.row 31 7 k fun e o=>bP [0,1,2,3] (aQ aI out e o)]))))
 (bT (!x==y)
 (.rq (k=k)
 (.rq (1≤1)
 (.rq
 ((k+1)*88≤140737488355328 ∧
 k+1≤140737488355328 ∧
 ∀(e o:Nat),
 e<1 →
 o<7 →
 iH
 (lM
 [C.p (PV.i aC 0),C.p (PV.s p.ru),C.p (PV.i aC p.ve),C.p (PV.l 2 p.L.length (aE aN p.L)),C.p (PV.i aC t),C.p (PV.i aC p.se),
 C.p (PV.s (aG #[]))]
 7 1 (e+0) o) =
 true)
 (.rq
 (((M.length=M.length∧∀(e o:Nat),e<M.length→o<7→lE (aE aI M e o) (aE aI M e o)) ∧
 kA aN 2 (bO cT p.L.length (aE aN p.L)) p.L.length (aE aN p.L)) ∧
 M.length≤1000000)
 (.done .normal
 (bS 111 [(2,.c (.p (.l 1 T.length (aE aS T)))),(3,.c (.ptr 0 0)),(4,.c (.ptr 1 0)),(6,.c (.ptr 2 0)),(11,.c (.p (.l 1 W.length (aE aS W)))),(12,.c (.p (.l 1 A.length (aE aS A)))),(13,.c (.sl 3 7 0 (k+1))),(14,.c (.p (.i .i64 (↑i:Int))))] [.cells 27 [.p (.l 7 (M++[Pg.mk 0 p.ru p.ve (bO cT p.L.length (aE aN p.L)) t p.se (aG #[])]).length (aE aI (M++[Pg.mk 0 p.ru p.ve (bO cT p.L.length (aE aN p.L)) t p.se (aG #[])])))],.cells 31 [.p (.i .i64 p.kd),.p (.s p.ru),.p (.i .i64 p.ve),.p (.l 2 p.L.length (aE aN p.L)),.p (.i .i64 p.st),.p (.i .i64 p.se),.p (.s p.to)],.cells 27 [.p (.z (bA none 0 0))],.row 31 7 (k+1) fun e o=>bP [0,1,2,6] (fC k (aQ aI out) (fun e o=>bF C.top [C.p (PV.i aC 0),C.p (PV.s p.ru),C.p (PV.i aC p.ve),C.p (PV.l 2 p.L.length (aE aN p.L)),C.p (PV.i aC t),C.p (PV.i aC p.se),C.p (PV.s (aG #[]))] ((e+0)*7+o)) e o)]))))))
 (.done .normal
 (bS 111 [(2,.c (.p (.l 1 T.length (aE aS T)))),(3,.c (.ptr 0 0)),(4,.c (.ptr 1 0)),(6,.c (.ptr 2 0)),(11,.c (.p (.l 1 W.length (aE aS W)))),(12,.c (.p (.l 1 A.length (aE aS A)))),(13,.c (.sl 3 7 0 k)),(14,.c (.p (.i .i64 (↑i:Int))))] [.cells 27 [.p (.l 7 M.length (aE aI M))],.cells 31 [.p (.i .i64 p.kd),.p (.s p.ru),.p (.i .i64 p.ve),.p (.l 2 p.L.length (aE aN p.L)),.p (.i .i64 p.st),.p (.i .i64 p.se),.p (.s p.to)],.cells 27 [.p (.z (bA none 0 0))],.row 31 7 k fun e o=>bP [0,1,2,3] (aQ aI out e o)])))):=by kernel_rfl
theorem aRY(M out:List Pg)(p:Pg)(W T A:List Int)(k i:Nat):dC eW (bJ 3 (gR (cW aB gY) 10)) (bS 111 [(2,aU aS 1 T),(3,.c (.ptr 0 0)),(4,.c (.ptr 1 0)),(6,.c (.ptr 2 0)),(11,aU aS 1 W),(12,aU aS 1 A),(13,.c (.sl 3 7 0 k)),(14,iV (i:Nat))] [.cells 27 [.p (bY aI 7 M)],.cells 31 [.p (.i .i64 p.kd),.p (.s p.ru),.p (.i .i64 p.ve),.p (bY aN 2 p.L),.p (.i .i64 p.st),.p (.i .i64 p.se),.p (.s p.to)],.cells 27 [.p (.z (.slice none 0 0))],.row 31 7 k (aQ aI out)]) (iA (eZ 111 [2,3,4,6,11,12,13,14]) (bI aB gY))=Tr.rq (eV aC ((↑i:Int)+1))
 (.done .normal
 (bS 111 [(2,.c (.p (.l 1 T.length (aE aS T)))),(3,.c (.ptr 0 0)),(4,.c (.ptr 1 0)),(6,.c (.ptr 2 0)),(11,.c (.p (.l 1 W.length (aE aS W)))),(12,.c (.p (.l 1 A.length (aE aS A)))),(13,.c (.sl 3 7 0 k)),(14,.c (.p (.i .i64 ((↑i:Int)+1))))] [.cells 27 [.p (.l 7 M.length (aE aI M))],.cells 31 [.p (.i .i64 p.kd),.p (.s p.ru),.p (.i .i64 p.ve),.p (.l 2 p.L.length (aE aN p.L)),.p (.i .i64 p.st),.p (.i .i64 p.se),.p (.s p.to)],.cells 27 [.p (.z (bA none 0 0))],.row 31 7 k fun e o=>bP [0,1,2,3] (aQ aI out e o)])):=by kernel_rfl
theorem aOH(M out:List Pg)(k:Nat):dC eW (bJ 11 (cW aB gY)) (bS 111 [(3,.c (.ptr 0 0)),(6,.c (.ptr 1 0)),(13,.c (.sl 2 7 0 k))] [.cells 27 [.p (bY aI 7 M)],.cells 27 [.p (.z (.slice none 0 0))],.row 31 7 k (aQ aI out)]) (iA [] (bI aB gY))=Tr.rq (0+k≤k∧∀(e o:Nat),e<k→o<7→BA (aQ aI out (e+0) o)=true)
 (.done .ret (St.mk [V.t [V1.a [C.p (PV.l 7 M.length (aE aI M))],V1.c (C.p (PV.l 7 k fun e o=>mI (aQ aI out (e+0) o)))]] [])):=by kernel_rfl
theorem aR4(A:List Int):dC eW (dH 3 (cW aB iZ)) (nH iZ [aU aS 1 A]) (iA (eZ 43 [0,2,3,4]) (bI aB iZ))=Tr.done X.normal
 (bS 43 [(0,.c (.p (.l 1 A.length (aE aS A)))),(2,.c (.ptr 0 0)),(3,.c (.ptr 1 0)),(4,.c (.p (.i .i64 0)))] [.cells 27 [.p (.z (bA none 0 0))],.cells 27 [.p (.z (bA none 0 0))]]):=by kernel_rfl
theorem aR3(A:List Int)(M:List Pg)(i:Nat):dC eW (dH 2 (gR (cW aB iZ) 3)) (bS 43 [(0,aU aS 1 A),(2,.c (.ptr 0 0)),(3,.c (.ptr 1 0)),(4,iV (i:Nat))] [.cells 27 [.p (.z (.slice none 0 0))],.cells 27 [.p (bY aI 7 M)]]) (iA (eZ 43 [0,2,3,4]) (bI aB iZ))=Tr.rq (eV aC ((↑i:Int)+12))
 (bT (decide ((↑i:Int)+12<(↑A.length:Int)))
 (bT (decide ((↑i:Int)<104))
 (.done .normal
 (bS 43 [(0,.c (.p (.l 1 A.length (aE aS A)))),(2,.c (.ptr 0 0)),(3,.c (.ptr 1 0)),(4,.c (.p (.i .i64 (↑i:Int))))] [.cells 27 [.p (.z (bA none 0 0))],.cells 27 [.p (.l 7 M.length (aE aI M))]]))
 (.done (.exit 0)
 (bS 43 [(0,.c (.p (.l 1 A.length (aE aS A)))),(2,.c (.ptr 0 0)),(3,.c (.ptr 1 0)),(4,.c (.p (.i .i64 (↑i:Int))))] [.cells 27 [.p (.z (bA none 0 0))],.cells 27 [.p (.l 7 M.length (aE aI M))]])))
 (.done (.exit 0)
 (bS 43 [(0,.c (.p (.l 1 A.length (aE aS A)))),(2,.c (.ptr 0 0)),(3,.c (.ptr 1 0)),(4,.c (.p (.i .i64 (↑i:Int))))] [.cells 27 [.p (.z (bA none 0 0))],.cells 27 [.p (.l 7 M.length (aE aI M))]]))):=by kernel_rfl
theorem aR2(A:List Int)(M:List Pg)(p:Pg)(i:Nat):dC (aJM p) (dH 2 (eX (inr (bF .skip (gR (cW aB iZ) 3) 2)))) (bS 43 [(0,aU aS 1 A),(2,.c (.ptr 0 0)),(3,.c (.ptr 1 0)),(4,iV (i:Nat))] [.cells 27 [.p (.z (.slice none 0 0))],.cells 27 [.p (bY aI 7 M)]]) (iA (eZ 43 [0,2,3,4,5,25]) (bI aB iZ))=Tr.rq
 (kA aS 1 (bO gI A.length (aE aS A)) A.length (aE aS A) ∧
 (∀(t:Int),t∈bO gI A.length (aE aS A)→eV aC t)∧tW (↑i:Int)∧nI (bO gI A.length (aE aS A)) (↑i:Int)=p)
 (.rq (eV aC ((↑i:Int)+6))
 (.rq (kA aS 1 (bO gI A.length (aE aS A)) A.length (aE aS A)∧(∀(t:Int),t∈bO gI A.length (aE aS A)→eV aC t)∧dI 0<dI 3)
 (.done .normal
 (bS 43 [(0,.c (.p (.l 1 A.length (aE aS A)))),(2,.c (.ptr 0 0)),(3,.c (.ptr 1 0)),(4,.c (.p (.i .i64 (↑i:Int)))),(5,.c (.ptr 2 0)),(25,.c (.p (.b (hG (bO gI A.length (aE aS A)) ((↑i:Int)+6) 3==0))))] [.cells 27 [.p (.z (bA none 0 0))],.cells 27 [.p (.l 7 M.length (aE aI M))],.cells 31 [.p (.i .i64 p.kd),.p (.s p.ru),.p (.i .i64 p.ve),.p (.l 2 p.L.length (aE aN p.L)),.p (.i .i64 p.st),.p (.i .i64 p.se),.p (.s p.to)]])))):=by kernel_rfl
noncomputable def aBA:Array Oper:=JQ (aI8 (bF .skip (eX (inr (bF .skip (gR (cW aB iZ) 3) 2))) 2))
noncomputable def aPJ:List AI:=match eE aB aBA aBA.toList with
 |some al=>al
 |none=>[]
theorem aR1(A T:List Int)(M M' out:List Pg)(p:Pg)(i:Nat):aAS (aJP M p T M' out) aPJ 9 (fun s'=>.done .normal s') (bS 43 [(0,aU aS 1 A),(2,.c (.ptr 0 0)),(3,.c (.ptr 1 0)),(4,iV (i:Nat)),(5,.c (.ptr 2 0))] [.cells 27 [.p (.z (.slice none 0 0))],.cells 27 [.p (bY aI 7 M)],.cells 31 [.p (.i .i64 p.kd),.p (.s p.ru),.p (.i .i64 p.ve),.p (bY aN 2 p.L),.p (.i .i64 p.st),.p (.i .i64 p.se),.p (.s p.to)]])=Tr.rq (eV aC ((↑i:Int)+7))
  (Tr.rq
   (kA aS 1 (bO gI A.length (aE aS A)) A.length (aE aS A) ∧
    (∀(t:Int),t∈bO gI A.length (aE aS A)→eV aC t)∧tW ((↑i:Int)+7)∧oC (bO gI A.length (aE aS A)) ((↑i:Int)+7)=T)
   (Tr.rq
    ((((M.length=M.length∧∀(e o:Nat),e<M.length→o<7→lE (aE aI M e o) (aE aI M e o)) ∧
       kA aN 2 (bO cT p.L.length (aE aN p.L)) p.L.length (aE aN p.L)∧Pg.mk p.kd p.ru p.ve (bO cT p.L.length (aE aN p.L)) p.st p.se p.to=p) ∧
        kA aS 1 T T.length (aE aS T)) ∧
      (M.length+T.length≤100000∧p.L.length≤1000000)∧vN M p T=(M',out))
    ((Tr.done X.normal
       (bS 43 [(0,V.c (C.p (PV.l 1 A.length (aE aS A)))),(2,V.c (C.ptr 0 0)),(3,V.c (C.ptr 1 0)),(4,V.c (C.p (PV.i aC (↑i:Int)))),(5,V.c (C.ptr 2 0)),(26,V.t [V1.a [C.p (PV.l 7 M'.length (aE aI M'))],V1.c (C.p (PV.l 7 out.length (aE aI out)))]),(27,V.a [C.p (PV.l 7 M.length (aE aI M))]),(28,V.a [C.p (PV.i aC p.kd),C.p (PV.s p.ru),C.p (PV.i aC p.ve),C.p (PV.l 2 p.L.length (aE aN p.L)),C.p (PV.i aC p.st),C.p (PV.i aC p.se),C.p (PV.s p.to)]),(29,V.c (C.p (PV.l 1 A.length (aE aS A)))),(30,V.c (C.p (PV.i aC (↑i:Int)))),(31,V.c (C.p (PV.i aC ((↑i:Int)+7)))),(32,V.c (C.p (PV.l 1 T.length (aE aS T)))),(33,V.t [V1.a [C.p (PV.l 7 M'.length (aE aI M'))],V1.c (C.p (PV.l 7 out.length (aE aI out)))]),(34,V.a [C.p (PV.l 7 M'.length (aE aI M'))]),(35,V.c (C.p (PV.l 7 out.length (aE aI out))))] [AO.cells 27 [C.p (PV.z (bA none 0 0))],AO.cells 27 [C.p (PV.l 7 M'.length (aE aI M'))],AO.cells 31 [C.p (PV.i aC p.kd),C.p (PV.s p.ru),C.p (PV.i aC p.ve),C.p (PV.l 2 p.L.length (aE aN p.L)),C.p (PV.i aC p.st),C.p (PV.i aC p.se),C.p (PV.s p.to)]])).alt
      (Tr.done X.normal
       (bS 43 [(0,V.c (C.p (PV.l 1 A.length (aE aS A)))),(2,V.c (C.ptr 0 0)),(3,V.c (C.ptr 1 0)),(4,V.c (C.p (PV.i aC (↑i:Int)))),(5,V.c (C.ptr 2 0)),(26,V.t [V1.a [C.p (PV.l 7 M'.length (aE aI M'))],V1.c (C.p (PV.l 7 out.length (aE aI out)))]),(27,V.a [C.p (PV.l 7 M.length (aE aI M))]),(28,V.a [C.p (PV.i aC p.kd),C.p (PV.s p.ru),C.p (PV.i aC p.ve),C.p (PV.l 2 p.L.length (aE aN p.L)),C.p (PV.i aC p.st),C.p (PV.i aC p.se),C.p (PV.s p.to)]),(29,V.c (C.p (PV.l 1 A.length (aE aS A)))),(30,V.c (C.p (PV.i aC (↑i:Int)))),(31,V.c (C.p (PV.i aC ((↑i:Int)+7)))),(32,V.c (C.p (PV.l 1 T.length (aE aS T)))),(33,V.t [V1.a [C.p (PV.l 7 M'.length (aE aI M'))],V1.c (C.p (PV.l 7 out.length (aE aI out)))]),(34,V.a [C.p (PV.l 7 M'.length (aE aI M'))]),(35,V.c (C.p (PV.l 7 out.length (aE aI out))))] [AO.cells 27 [C.p (PV.z (bA none 0 0))],AO.cells 27 [C.p (PV.l 7 M'.length (aE aI M'))],AO.cells 31 [C.p (PV.i aC p.kd),C.p (PV.s p.ru),C.p (PV.i aC p.ve),C.p (PV.l 2 p.L.length (aE aN p.L)),C.p (PV.i aC p.st),C.p (PV.i aC p.se),C.p (PV.s p.to)]]))))):=by kernel_rfl
theorem aR0(A:List Int)(M M':List Pg)(p:Pg)(i:Nat)(e:Int):dC (aJO M p M' e) (eX (aMY (bF .skip (eX (inr (bF .skip (gR (cW aB iZ) 3) 2))) 2))) (bS 43 [(0,aU aS 1 A),(2,.c (.ptr 0 0)),(3,.c (.ptr 1 0)),(4,iV (i:Nat)),(5,.c (.ptr 2 0))] [.cells 27 [.p (.z (.slice none 0 0))],.cells 27 [.p (bY aI 7 M)],.cells 31 [.p (.i .i64 p.kd),.p (.s p.ru),.p (.i .i64 p.ve),.p (bY aN 2 p.L),.p (.i .i64 p.st),.p (.i .i64 p.se),.p (.s p.to)]]) (iA (eZ 43 [0,2,3,4]) (bI aB iZ))=Tr.rq
 (((M.length=M.length∧∀(e o:Nat),e<M.length→o<7→lE (aE aI M e o) (aE aI M e o)) ∧
 kA aN 2 (bO cT p.L.length (aE aN p.L)) p.L.length (aE aN p.L)∧Pg.mk p.kd p.ru p.ve (bO cT p.L.length (aE aN p.L)) p.st p.se p.to=p) ∧
 (M.length≤1000000∧p.L.length≤1000000)∧vL M p=(M',e))
 (.done .normal
 (bS 43 [(0,.c (.p (.l 1 A.length (aE aS A)))),(2,.c (.ptr 0 0)),(3,.c (.ptr 1 0)),(4,.c (.p (.i .i64 (↑i:Int))))] [.cells 27 [.p (.z (bA none 0 0))],.cells 27 [.p (.l 7 M'.length (aE aI M'))]])):=by kernel_rfl
theorem aQZ(A:List Int)(M:List Pg)(i:Nat):dC eW (bJ 3 (gR (cW aB iZ) 3)) (bS 43 [(0,aU aS 1 A),(2,.c (.ptr 0 0)),(3,.c (.ptr 1 0)),(4,iV (i:Nat))] [.cells 27 [.p (.z (.slice none 0 0))],.cells 27 [.p (bY aI 7 M)]]) (iA (eZ 43 [0,2,3,4]) (bI aB iZ))=Tr.rq (eV aC ((↑i:Int)+13))
 (.done .normal
 (bS 43 [(0,.c (.p (.l 1 A.length (aE aS A)))),(2,.c (.ptr 0 0)),(3,.c (.ptr 1 0)),(4,.c (.p (.i .i64 ((↑i:Int)+13))))] [.cells 27 [.p (.z (bA none 0 0))],.cells 27 [.p (.l 7 M.length (aE aI M))]])):=by kernel_rfl
theorem aQY(M:List Pg):dC eW (bJ 4 (cW aB iZ)) (bS 43 [(2,.c (.ptr 0 0)),(3,.c (.ptr 1 0))] [.cells 27 [.p (.z (.slice none 0 0))],.cells 27 [.p (bY aI 7 M)]]) (iA [] (bI aB iZ))=Tr.done X.ret (St.mk [V.a [C.p (PV.l 7 M.length (aE aI M))]] []):=by kernel_rfl
theorem aEG(W T:List Int)(p:Pg)(A:List Int)(i:Nat)(hi:i<A.length):yV W T p (A.take (i+1))=yV W T p (A.take i)++(match decide (A.getD i default∈W) != decide (A.getD i default∈T) with
  |true=>[pD p.ru p.ve p.L p.se T (A.getD i default)]
  |false=>[]):=by
 unfold yV;rw[sR hi,List.filter_append,List.map_append];congr 1;rw[List.filter_cons];cases decide (A.getD i default∈W) != decide (A.getD i default∈T)<;>rfl
theorem WO(W T:List Int)(p:Pg)(A:List Int):(yV W T p A).length≤A.length:=by
 unfold yV;rw[List.length_map];exact List.length_filter_le _ _
theorem DE(A:List Int):(mJ A).length≤A.length:=by
 have h1:=nF (iC A)
 rw[kB]at h1;exact h1
theorem wD(M:List Pg)(p:Pg):(fX M p).length≤M.length:=by
 have h1:=DE (JR M p M.length)
 have h2:=UL M p M.length
 unfold fX;omega
section
variable {G:Nat→Option Obj}
set_option maxRecDepth 100000 in
theorem aHR(W:List Int)(hW:W.length≤1000000)(h:List AO):jN aB G 53 [aU aS 1 W,iV (W.length:Nat)] h fun x h'=>x=.c (.sl (fF h) 1 0 W.length)∧h'=fB (.row 3 1 W.length fun e o=>.p (aE aS W e o)) h:=by
 refine KZ (args:=[aU aS 1 W,iV (W.length:Nat)]) (r:=4) (ty:=3) (sz:=1) (n:=W.length) (F:=aE aS W) (pre:=dH 3 (cW aB Try.f53)) Try.func53 (by kernel_rfl) (by kernel_rfl) (by kernel_rfl) rfl ?_ h
 refine eJ.evH aX (tI W (W.length:Nat)) ?_;rw[if_neg (by omega)];simp only[bB,aL,show (↑W.length:Int).toNat=W.length from rfl,Nat.sub_zero,dB]
 exact⟨⟨by omega,by omega,by omega⟩,⟨by omega,by omega,fun _ _ _ _=>rfl⟩,⟨rfl,fun j=>by simp,0,_,rfl,rfl,fun e o he ho=>by
   obtain rfl:o=0:=by omega
   rfl⟩⟩
theorem aGU(W:List Int):fZ aB G 53 (SJ W):=by
 intro args h p v h' hm hp;unfold SJ at hm
 split at hm;rotate_left;· cases hm
 split at hm;rotate_left;· cases hm
 rename_i x k _ q hx;obtain⟨rfl,rfl,rfl⟩:=gH hm;obtain⟨hq,rfl,hW⟩:=hp;exact jN.args (args':=[aU aS 1 W,iV (W.length:Nat)]) (aHR W hW h) (.cons (wM hx hq) (.cons (.refl _) .nil))
theorem aLS(U:List Int):iO aB G 52 (aCG U):=by
 intro args p v hm hp h;unfold aCG at hm
 split at hm;rotate_left;· cases hm
 split at hm;rotate_left;· cases hm
 rename_i x _ q hx;obtain⟨rfl,rfl⟩:=eM hm;obtain⟨hA,hlen⟩:=hp;refine jN.args (args':=[aU aS 1 U]) ?_ (.cons (wM hx hA) .nil)
 have:=aIX (G:=G) [aU aS 1 U] _ _ rfl ⟨by rw[iN];exact dJ _ _ _,by rw[iN];exact hlen⟩ h
 rw[iN]at this;exact this
theorem OO(W T:List Int):bH aB G (aJS W T):=dZ (by simp;exact⟨aGU W,WC (aLS (W++T))⟩)
theorem OV:bH aB G aJY:=dY (by simp;exact UX)
theorem OT:bH aB G aJW:=dY (by simp;exact UV)
theorem OU(M:List Pg):bH aB G (aJX M):=dY (by simp;exact aBU M)
theorem OP:bH aB G aJT:=dY (by simp;exact aOQ)
theorem PL(M:List Pg):bH aB G (aKC M):=dY (by simp;exact aC2 M)
set_option maxRecDepth 100000 in
theorem aLZ(M:List Pg)(p:Pg)(T:List Int)(Mr outr:List Pg):iO aB G 22 (aCR M p T Mr outr):=by
 intro args p0 v hm hp h;unfold aCR at hm
 split at hm;rotate_left;· cases hm
 split at hm;rotate_left;· cases hm
 rename_i x y z _ _ _ a b c hx hy hz;obtain⟨rfl,rfl⟩:=eM hm;obtain⟨⟨⟨hA,hB⟩,hC⟩,⟨hlen,hl2⟩,hr⟩:=hp;refine jN.args (args':=[BL M,uO p,aU aS 1 T]) ?_ (.cons (wL hx hA) (.cons (uS hy hB) (.cons (wM hz hC) .nil)));clear hm hx hy hz hA hB hC
 refine pW Try.func22 (by kernel_rfl) rfl ?_ h
 refine eJ.evG OV 3 (aS6 M p T) ?_;simp only[bB,aL,cG,gK];refine⟨dJ _ _ _,⟨?_⟩⟩
 have hr':aAB Mr outr=aAB (vN M p T).1 (vN M p T).2:=by rw[hr]
 rw[hr'];clear hr hr';unfold vN
 generalize hJ ⟨0,p.ru,p.ve,p.L,0,p.se,⟨#[]⟩⟩=g0
 refine eJ.loop' (l:=bJ 3 (cW aB gY)) (b:=inr (inr (bF .skip (cW aB gY) 3))) (r:=bJ 4 (cW aB gY)) (id:=0) (by kernel_rfl) (σ:=Nat×Bool)
   (fun(i,g)=>bS 111 [(2,aU aS 1 T),(3,.c (.ptr 0 0)),(4,.c (.ptr 1 0)),(6,.c (.ptr 2 0)),(7,.c (.p (.z (.slice none 0 0)))),(8,bV g),(9,iV (i:Nat))] [.cells 27 [.p (bY aI 7 M)],.cells 31 [.p (.i .i64 p.kd),.p (.s p.ru),.p (.i .i64 p.ve),.p (bY aN 2 p.L),.p (.i .i64 p.st),.p (.i .i64 p.se),.p (.s p.to)],.cells 27 [.p (.z (.slice none 0 0))]]) (fun(i,g)=>i≤T.length∧g=(g0&&(T.take i).all gQ)) (fun(i,g)=>T.length-i) (0,g0) ⟨bW _,by simp⟩ (aJ (by kernel_rfl)) ?_
 rintro⟨i,g⟩ ⟨hi,hg⟩ Q1 q1n q1e -;refine eJ.evH OT (aS5 M p T g i) ?_;simp only[bZ,bB,aL,cG,jQ,decide_eq_true_eq,decide_eq_false_iff_not,eV,show (↑i:Int).toNat=i from rfl];refine⟨fun h1=>?_,fun h1=>⟨q1e _ ?_⟩⟩
 ·have hsn:(T.take (i+1)).all gQ=((T.take i).all gQ&&gQ (T.getD i default)):=by
    rw[sR (show i<T.length by omega),List.all_append];simp
  refine⟨by omega,trivial,fun c=>⟨by omega,⟨q1n (i+1,gQ (T.getD i default)) _ ⟨by omega,?_⟩ (by simp only;omega) (aJ (by kernel_rfl))⟩⟩,fun c=>⟨by omega,⟨q1n (i+1,false) _ ⟨by omega,?_⟩ (by simp only;omega) (aJ (by kernel_rfl))⟩⟩⟩
  ·rw[hsn,←Bool.and_assoc,←hg,c];rfl
  ·rw[hsn,←Bool.and_assoc,←hg,c];rfl
 obtain rfl:i=T.length:=by omega
 rw[fS]at hg;rw[←hg]
 refine eJ.pre ((fG (eZ 111 [2,3,4,6,7,8]) _).trans (aJ (by kernel_rfl))) (eJ.evG aX 2 (aS4 M p T g) ?_)
 simp only[bZ,aL,fI,cG,eP,gA];refine⟨fun c=>⟨?_⟩,fun c=>⟨?_⟩⟩
 ·subst c
  exact iF.t (.cons (iF.refl _) (.cons (iF.p (lE.nil 7 _)) .nil))
 subst c
 refine eJ.pre (aJ (by kernel_rfl)) (eJ.evG (OU M) 1 (aS3 M p T) ?_)
 simp only[bB,aL,cG,gK];refine⟨⟨⟨⟨trivial,fun _ _ _ _=>lE.refl _⟩,dJ _ _ _⟩,by omega,hl2⟩,⟨?_⟩⟩;change eJ _ _ _ (aAB (M++yV (fX M p) T p (mJ (fX M p++T))) (yV (fX M p) T p (mJ (fX M p++T)))) _ (bS 111 [(2,aU aS 1 T),(3,.c (.ptr 0 0)),(4,.c (.ptr 1 0)),(6,.c (.ptr 2 0)),(11,aU aS 1 (fX M p))] [.cells 27 [.p (bY aI 7 M)],.cells 31 [.p (.i .i64 p.kd),.p (.s p.ru),.p (.i .i64 p.ve),.p (bY aN 2 p.L),.p (.i .i64 p.st),.p (.i .i64 p.se),.p (.s p.to)],.cells 27 [.p (.z (.slice none 0 0))]]) _
 have hWl:=wD M p
 generalize fX M p=W at hWl ⊢
 refine eJ.evG (OO W T) 3 (aS2 M p W T) ?_;simp only[bB,aL,cG]
 have hAl:=DE (W++T)
 rw[aV]at hAl;refine⟨⟨dJ _ _ _,trivial,by omega⟩,trivial,⟨by omega,by omega,fun _ _ _ _=>rfl⟩,⟨⟨⟨⟨rfl,by omega⟩,trivial⟩,fun e o he ho=>?_⟩,⟨?_,by rw[aV];omega⟩⟩,⟨?_⟩⟩
 ·unfold fC
  split<;>rfl
 ·refine⟨by simp,fun e o he ho=>?_⟩
  obtain rfl:o=0:=by omega
  unfold fC;dsimp only
  by_cases h1:e<W.length
  ·rw[if_pos (by omega)]
   show PV.i .i64 (W.getD e default)=PV.i .i64 ((W++T).getD e default)
   rw[aD,aD,cD h1]
  ·rw[if_neg (by omega)]
   show PV.i .i64 (T.getD (e-W.length) default)=PV.i .i64 ((W++T).getD e default)
   rw[aD,aD,cR (by omega)]
 generalize mJ (W++T)=A at hAl ⊢
 refine eJ.loop' (l:=bJ 3 (bJ 1 (bJ 2 (bJ 4 (cW aB gY))))) (b:=inr (inr (bF .skip (cW aB gY) 10))) (r:=bJ 11 (cW aB gY)) (id:=2) (by kernel_rfl) (σ:=Nat)
   (fun i=>(fun M out k=>bS 111 [(2,aU aS 1 T),(3,.c (.ptr 0 0)),(4,.c (.ptr 1 0)),(6,.c (.ptr 2 0)),(11,aU aS 1 W),(12,aU aS 1 A),(13,.c (.sl 3 7 0 k)),(14,iV (i:Nat))] [.cells 27 [.p (bY aI 7 M)],.cells 31 [.p (.i .i64 p.kd),.p (.s p.ru),.p (.i .i64 p.ve),.p (bY aN 2 p.L),.p (.i .i64 p.st),.p (.i .i64 p.se),.p (.s p.to)],.cells 27 [.p (.z (.slice none 0 0))],.row 31 7 k (aQ aI out)]) (M++yV W T p (A.take i)) (yV W T p (A.take i)) (yV W T p (A.take i)).length) (fun i=>i≤A.length) (fun i=>A.length-i) 0 (bW _) ?_ ?_
 ·have e:yV W T p (A.take 0)=[]:=rfl
  rw[e,fP]
  exact(lT 31 7 (aQ aI []) 13 (by kernel_rfl)).trans (aJ (by kernel_rfl))
 intro i hi Q1 q1n q1e _
 have hol:=WO W T p (A.take i)
 rw[cU]at hol
 have hsn:=aEG W T p A i
 generalize hO:yV W T p (A.take i)=out at hol hsn ⊢
 refine eJ.evG aX 2 (aS1 (M++out) out p W T A out.length i) ?_;simp only[bZ,aL,cG,jQ,decide_eq_true_eq,decide_eq_false_iff_not];refine⟨fun h1=>⟨?_⟩,fun h1=>⟨q1e _ ?_⟩⟩
 ·have hlt:i<A.length:=by omega
  have hsn:=hsn hlt
  have after:∀out2,out2=yV W T p (A.take (i+1))→eJ aB G (bI aB gY) (aAB (M++yV W T p A) (yV W T p A)) (bJ 3 (gR (cW aB gY) 10)) ((fun M out k=>bS 111 [(2,aU aS 1 T),(3,.c (.ptr 0 0)),(4,.c (.ptr 1 0)),(6,.c (.ptr 2 0)),(11,aU aS 1 W),(12,aU aS 1 A),(13,.c (.sl 3 7 0 k)),(14,iV (i:Nat))] [.cells 27 [.p (bY aI 7 M)],.cells 31 [.p (.i .i64 p.kd),.p (.s p.ru),.p (.i .i64 p.ve),.p (bY aN 2 p.L),.p (.i .i64 p.st),.p (.i .i64 p.se),.p (.s p.to)],.cells 27 [.p (.z (.slice none 0 0))],.row 31 7 k (aQ aI out)]) (M++out2) out2 out2.length) Q1:=fun out2 he=>by
   subst he;refine eJ.evH aX (aRY (M++yV W T p (A.take (i+1))) (yV W T p (A.take (i+1))) p W T A (yV W T p (A.take (i+1))).length i) ?_;simp only[bB,aL,cG,eV]
   exact⟨by omega,⟨q1n (i+1) _ (by omega) (by omega) (aJ (by kernel_rfl))⟩⟩
  refine eJ.blk' (l:=bJ 2 (gR (cW aB gY) 10)) (id:=3) (a:=inr (bF .skip (gR (cW aB gY) 10) 2)) (r:=bJ 3 (gR (cW aB gY) 10)) (by kernel_rfl) ?_
  intro Q2 q2n _ _
  refine eJ.pre (aJ (by kernel_rfl)) (eJ.evG OP 3 (aS0 (M++out) out p W T A out.length i) ?_)
  simp only[bB,aL,cG,iN,show (↑i:Int).toNat=i from rfl];refine⟨⟨by omega,by omega⟩,⟨by omega,by omega⟩,⟨dJ _ _ _,by omega⟩,⟨by omega,by omega⟩,⟨dJ _ _ _,by omega⟩,⟨?_⟩⟩
  generalize A.getD i default=t at hsn ⊢
  have hkd:(pD p.ru p.ve p.L p.se T t)=⟨match decide (t∈T) with
   |true=>2
   |false=>1,p.ru,p.ve,p.L,t,p.se,⟨#[]⟩⟩:=rfl
  rw[hkd]at hsn;clear hkd
  generalize decide (t∈W)=x at hsn ⊢
  generalize decide (t∈T)=y at hsn ⊢
  have hML:(M++out).length≤1000000:=by rw[aV];omega
  have one:∀(kd:Int) (e o:Nat),e<1→o<7→iH (lM [C.p (.i .i64 kd),C.p (.s p.ru),C.p (.i .i64 p.ve),C.p (.l 2 p.L.length (aE aN p.L)),C.p (.i .i64 t),C.p (.i .i64 p.se),C.p (.s ⟨#[]⟩)] 7 1 (e+0) o)=true:=fun kd e o he ho=>by
   obtain rfl:e=0:=by omega
   have:o=0∨o=1∨o=2∨o=3∨o=4∨o=5∨o=6:=by omega
   rcases this with rfl|rfl|rfl|rfl|rfl|rfl|rfl<;>rfl
  refine eJ.pre (aJ (by kernel_rfl)) (eJ.evH (PL (M++out)) (aRZ (M++out) out p W T A out.length i t x y) ?_)
  have add:∀kd:Int,yV W T p (A.take (i+1))=out++[⟨kd,p.ru,p.ve,p.L,t,p.se,⟨#[]⟩⟩]→Q2 .normal (bS 111 [(2,V.c (C.p (PV.l 1 T.length (aE aS T)))),(3,V.c (C.ptr 0 0)),(4,V.c (C.ptr 1 0)),(6,V.c (C.ptr 2 0)),(11,V.c (C.p (PV.l 1 W.length (aE aS W)))),(12,V.c (C.p (PV.l 1 A.length (aE aS A)))),(13,V.c (C.sl 3 7 0 (out.length+1))),(14,V.c (C.p (PV.i aC (↑i:Int))))] [AO.cells 27 [C.p (PV.l 7 (M++out++[Pg.mk kd p.ru p.ve p.L t p.se (aG #[])]).length (aE aI (M++out++[Pg.mk kd p.ru p.ve p.L t p.se (aG #[])])))],AO.cells 31 [C.p (PV.i aC p.kd),C.p (PV.s p.ru),C.p (PV.i aC p.ve),C.p (PV.l 2 p.L.length (aE aN p.L)),C.p (PV.i aC p.st),C.p (PV.i aC p.se),C.p (PV.s p.to)],AO.cells 27 [C.p (PV.z (bA none 0 0))],AO.row 31 7 (out.length+1) fun e o=>bP [0,1,2,6] (fC out.length (aQ aI out) (fun e o=>bF C.top [C.p (PV.i aC kd),C.p (PV.s p.ru),C.p (PV.i aC p.ve),C.p (PV.l 2 p.L.length (aE aN p.L)),C.p (PV.i aC t),C.p (PV.i aC p.se),C.p (PV.s (aG #[]))] ((e+0)*7+o)) e o)]):=fun kd he=>by
   have hl2:out.length+1=(out++[Pg.mk kd p.ru p.ve p.L t p.se ⟨#[]⟩]).length:=by simp
   rw[hl2,dW];refine q2n _ (eJ.pre ?_ (after (out++[⟨kd,p.ru,p.ve,p.L,t,p.se,⟨#[]⟩⟩]) he.symm));refine iG ⟨rfl,rfl,rfl,⟨rfl,rfl,rfl,fun e o he ho=>?_⟩,trivial⟩;exact oT rfl (HA kd p.ve t p.se p.ru ⟨#[]⟩ p.L) (by simpa using he) ho
  have stay:yV W T p (A.take (i+1))=out→Q2 .normal (bS 111 [(2,V.c (C.p (PV.l 1 T.length (aE aS T)))),(3,V.c (C.ptr 0 0)),(4,V.c (C.ptr 1 0)),(6,V.c (C.ptr 2 0)),(11,V.c (C.p (PV.l 1 W.length (aE aS W)))),(12,V.c (C.p (PV.l 1 A.length (aE aS A)))),(13,V.c (C.sl 3 7 0 out.length)),(14,V.c (C.p (PV.i aC (↑i:Int))))] [AO.cells 27 [C.p (PV.l 7 (M++out).length (aE aI (M++out)))],AO.cells 31 [C.p (PV.i aC p.kd),C.p (PV.s p.ru),C.p (PV.i aC p.ve),C.p (PV.l 2 p.L.length (aE aN p.L)),C.p (PV.i aC p.st),C.p (PV.i aC p.se),C.p (PV.s p.to)],AO.cells 27 [C.p (PV.z (bA none 0 0))],AO.row 31 7 out.length fun e o=>bP [0,1,2,3] (aQ aI out e o)]):=fun he=>q2n _ (eJ.pre (aJ (by kernel_rfl)) (after out he.symm))
  cases x<;>cases y<;>simp only[bZ,bB,aL,cG,gK,Bool.not_true,Bool.not_false,true_implies,false_implies,reduceCtorEq,and_true,true_and,beq_self_eq_true,show (false==true)=false from rfl,show (true==false)=false from rfl]
  ·exact⟨stay (by rw[hsn];exact fP _)⟩
  ·exact⟨aW _,⟨by omega,by omega,one 2⟩,⟨⟨fun _ _ _ _=>lE.refl _,dJ _ _ _⟩,hML⟩,⟨add 2 hsn⟩⟩
  ·exact⟨aW _,⟨by omega,by omega,one 1⟩,⟨⟨fun _ _ _ _=>lE.refl _,dJ _ _ _⟩,hML⟩,⟨add 1 hsn⟩⟩
  ·exact⟨stay (by rw[hsn];exact fP _)⟩
 ·obtain rfl:i=A.length:=by omega
  rw[fS]at hO;rw[hO]
  refine eJ.pre ((fG (eZ 111 [3,6,13]) _).trans (aJ (by kernel_rfl))) (eJ.evH aX (aOH (M++out) out out.length) ?_)
  simp only[bB,aL,fI];exact⟨⟨by omega,fun _ _ _ _=>rfl⟩,⟨iF.refl _⟩⟩
end
def wE(A:List Int)(M:List Pg)(i:Nat):List Pg:=
 if hG A ((i:Int)+6) 3=0 then (vN M (nI A i) (oC A ((i:Int)+7))).1 else (vL M (nI A i)).1
def QD(A:List Int):Nat→List Pg
 |0=>[]
 |n+1=>wE A (QD A n) (13*n)
def YF(A:List Int):List Pg:=QD A (min 8 (A.length / 13))
def aCP(M:List Pg):Mod
 |[x]=>match BK x with
  |some (p,A)=>some (p∧(∀t∈A,eV .i64 t)∧A.length≤9223372036854775807∧YF A=M,BL M)
  |none=>none
 |_=>none
theorem AK(A:List Int)(a:Int):(oC A a).length≤5:=by
 unfold oC;rw[LX]
 have:=oZ (L:=A) (i:=a) (m:=6) (by omega)
 omega
theorem aD0(n:Int):(SX n).length≤2:=by
 unfold SX;split
 ·simp
 ·split
  ·simp
  ·split<;>simp
theorem aFK(A:List Int)(i:Int):(nI A i).L.length≤2:=aD0 _
theorem aIJ(M:List Pg)(p:Pg)(T:List Int):(vN M p T).1.length≤2*M.length+T.length:=by
 unfold vN;split
 ·have h1:=WO (fX M p) T p (mJ (fX M p++T))
  have h2:=DE (fX M p++T)
  have h3:=wD M p
  rw[aV]at h2;simp only[aV];omega
 ·simp only;omega
theorem aI5(M:List Pg)(p:Pg):(vL M p).1.length≤M.length+1:=by
 unfold vL;split
 ·simp
 ·split
  ·simp
  ·split<;>simp
theorem RP(A:List Int)(M:List Pg)(i:Nat):(wE A M i).length≤2*M.length+5:=by
 unfold wE;split
 ·have h1:=aIJ M (nI A i) (oC A ((i:Int)+7))
  have h2:=AK A ((i:Int)+7)
  omega
 ·have:=aI5 M (nI A i)
  omega
theorem UZ(A:List Int):∀n,(QD A n).length+5≤5*2^n
 |0=>by simp[QD]
 |n+1=>by
  have h1:=UZ A n
  have h2:=RP A (QD A n) (13*n)
  rw[QD,Nat.pow_succ];omega
theorem aC4{A:List Int}{n:Nat}(h:n≤8):(QD A n).length≤1275:=by
 have h1:=UZ A n
 have h2:2^n≤2^8:=Nat.pow_le_pow_right (by omega) h
 have h3:2^8=256:=rfl
 omega
theorem UY(A:List Int):(YF A).length≤1275:=aC4 (by omega)
section
variable {G:Nat→Option Obj}
theorem QI{st:St}{id k:Nat}{t0:TypeId}{vs:List C}{x y:PV}(hid:bF .gone st.h id=.cells t0 vs)(hk:bF .top vs k=.p x)(hle:lE x y):cQ G st ⟨st.t,fA (.cells t0 (fA (.p y) vs k)) st.h id⟩:=by
 intro β R a w hs
 have hh:=hs.hs
 have hlid:=fY hid (by simp)
 have hl:∀i,(bF .gone (fA (.cells t0 (fA (.p y) vs k)) st.h id) i).live=(bF .gone st.h i).live:=fun i=>by
  by_cases e:id=i
  ·subst e;rw[dV _ _ _ hlid,hid];rfl
  ·rw[cO _ _ _ e]
 refine⟨β,R,⟨hs.df,hs.tm,?_⟩,Fr.refl _ _ _,fun _ hb=>hb⟩;refine⟨?_,?_,?_,hh.lt,hh.rlt,?_,hh.gl,?_⟩
 ·intro i y hi;rw[eR,cB];exact hh.dom i y hi
 ·intro i j b o1 o2 hi hj li lj
  rw[hl]at li lj;exact hh.inj i j b o1 o2 hi hj li lj
 ·intro i b o hi li
  rw[hl]at li;exact hh.sep i b o hi li
 ·intro i b o hi
  by_cases e:id=i
  ·subst e
   rw[dV _ _ _ hlid]
   have hob:=hh.obj id b o hi
   rw[hid]at hob;obtain⟨cs,g1,g2⟩:=hob;refine⟨cs,g1,?_⟩;clear hl hid hi
   generalize cs.toList=us at g2
   induction vs generalizing k us with
   |nil=>exact g2
   |cons v vs ih=>
    cases us with
    |nil=>exact g2.elim
    |cons u us=>
     cases k with
     |zero=>
      have hk:v=.p x:=hk
      subst hk;exact⟨hle _ _ _ g2.1,g2.2⟩
     |succ k=>exact⟨g2.1,ih hk us g2.2⟩
  ·rw[cO _ _ _ e]
   exact hh.obj i b o hi
 ·intro b ad hq
  obtain⟨q1,q2,q3⟩:=hh.ql b ad hq;exact⟨q1,q2,fun i o hi=>by rw[hl];exact q3 i o hi⟩
theorem aBV(p:Pg):iO aB G 13 (KG p):=by
 intro args p0 v hm hp h;unfold KG at hm
 split at hm;rotate_left;· cases hm
 split at hm;rotate_left;· cases hm
 rename_i x i _ q A hx;obtain⟨rfl,rfl⟩:=eM hm;obtain⟨hA,hI,hpos,rfl⟩:=hp;refine jN.args (args':=[aU aS 1 A,iV i]) ?_ (.cons (oG hx hA) (.cons (.refl _) .nil))
 have:=aGV (G:=G) [aU aS 1 A,iV i] _ _ rfl ⟨by rw[iN];exact dJ _ _ _,by rw[iN];exact hI,hpos⟩ h
 rw[iN]at this;exact this
theorem RN(T:List Int):iO aB G 15 (zL T):=by
 intro args p0 v hm hp h;unfold zL at hm
 split at hm;rotate_left;· cases hm
 split at hm;rotate_left;· cases hm
 rename_i x i _ q A hx;obtain⟨rfl,rfl⟩:=eM hm;obtain⟨hA,hI,hpos,rfl⟩:=hp;refine jN.args (args':=[aU aS 1 A,iV i]) ?_ (.cons (oG hx hA) (.cons (.refl _) .nil))
 have:=YE (G:=G) [aU aS 1 A,iV i] _ _ rfl ⟨by rw[iN];exact dJ _ _ _,by rw[iN];exact hI,hpos⟩ h
 rw[iN]at this;exact this
theorem aBW(M:List Pg)(p:Pg)(M':List Pg)(e:Int):iO aB G 24 (KI M p M' e):=by
 intro args p0 v hm hp h;unfold KI at hm
 split at hm;rotate_left;· cases hm
 split at hm;rotate_left;· cases hm
 rename_i x y _ _ a b hx hy;obtain⟨rfl,rfl⟩:=eM hm;obtain⟨⟨hA,hB⟩,⟨h1,h2⟩,he⟩:=hp;refine jN.args (args':=[BL M,uO p]) ?_ (.cons (wL hx hA) (.cons (uS hy hB) .nil))
 have hd:bO cT p.L.length (aE aN p.L)=p.L:=gK _
 have:=aGW (G:=G) M [BL M,uO p] _ _ rfl ⟨⟨⟨rfl,fun _ _ _ _=>lE.refl _⟩,by rw[hd];exact dJ _ _ _⟩,h1,by rw[hd];exact h2⟩ h
 rw[hd,he]at this;exact this
theorem OH(p:Pg):bH aB G (aJM p):=dY (by simp;exact⟨aBV p,RJ⟩)
theorem OL(M:List Pg)(p:Pg)(T:List Int)(M' out:List Pg):bH aB G (aJP M p T M' out):=dY (by simp;exact⟨RN T,aLZ M p T M' out⟩)
theorem OK(M:List Pg)(p:Pg)(M':List Pg)(e:Int):bH aB G (aJO M p M' e):=dY (by simp;exact aBW M p M' e)
set_option maxRecDepth 100000 in
theorem aLY(Mr:List Pg):iO aB G 12 (aCP Mr):=by
 intro args p0 v hm hp h;unfold aCP at hm
 split at hm;rotate_left;· cases hm
 split at hm;rotate_left;· cases hm
 rename_i x _ q A hx;obtain⟨rfl,rfl⟩:=eM hm;obtain⟨hA,hI,hAl,hr⟩:=hp;subst hr;refine jN.args (args':=[aU aS 1 A]) ?_ (.cons (oG hx hA) .nil);clear hm hx hA
 refine pW Try.func12 (by kernel_rfl) rfl ?_ h
 refine eJ.evG aX 3 (aR4 A) ?_;simp only[aL,cG];refine⟨?_⟩
 refine eJ.loop' (l:=bJ 3 (cW aB iZ)) (b:=inr (inr (bF .skip (cW aB iZ) 3))) (r:=bJ 4 (cW aB iZ)) (id:=0) (by kernel_rfl) (σ:=Nat)
   (fun n=>(fun M i=>bS 43 [(0,aU aS 1 A),(2,.c (.ptr 0 0)),(3,.c (.ptr 1 0)),(4,iV (i:Nat))] [.cells 27 [.p (.z (.slice none 0 0))],.cells 27 [.p (bY aI 7 M)]]) (QD A n) (13*n)) (fun n=>n≤min 8 (A.length / 13)) (fun n=>8-n) 0 (bW _) ?_ ?_
 ·show cQ G _ ((fun M i=>bS 43 [(0,aU aS 1 A),(2,.c (.ptr 0 0)),(3,.c (.ptr 1 0)),(4,iV (i:Nat))] [.cells 27 [.p (.z (.slice none 0 0))],.cells 27 [.p (bY aI 7 M)]]) [] 0)
  exact(QI (id:=1) (k:=0) (t0:=27) (vs:=[.p (.z (.slice none 0 0))]) (y:=bY aI 7 []) (by kernel_rfl) (by kernel_rfl) (lE.nil 7 _)).trans (aJ (by kernel_rfl))
 intro n hn Q1 q1n q1e _
 have hMl:(QD A n).length≤1275:=aC4 (by omega)
 have hst:QD A (n+1)=wE A (QD A n) (13*n):=rfl
 generalize hM:QD A n=M at hMl hst ⊢
 refine eJ.evG aX 2 (aR3 A M (13*n)) ?_;simp only[bZ,bB,aL,cG,jQ,decide_eq_true_eq,decide_eq_false_iff_not,eV]
 have ends:n=min 8 (A.length / 13)→Q1 (.exit 0) (bS 43 [(0,V.c (C.p (PV.l 1 A.length (aE aS A)))),(2,V.c (C.ptr 0 0)),(3,V.c (C.ptr 1 0)),(4,V.c (C.p (PV.i aC (↑(13*n):Int))))] [AO.cells 27 [C.p (PV.z (bA none 0 0))],AO.cells 27 [C.p (PV.l 7 M.length (aE aI M))]]):=fun he=>q1e _ (by
  refine eJ.pre ((fG (eZ 43 [2,3]) _).trans (aJ (by kernel_rfl))) (eJ.evH aX (aQY M) ?_)
  simp only[aL,fI];refine⟨?_⟩;unfold YF;rw[←he,hM]
  exact iF.refl _)
 refine⟨by omega,fun h1=>⟨fun h2=>⟨?_⟩,fun h2=>⟨ends (by omega)⟩⟩,fun h1=>⟨ends (by omega)⟩⟩
 refine eJ.blk' (l:=bJ 2 (gR (cW aB iZ) 3)) (id:=1) (a:=inr (bF .skip (gR (cW aB iZ) 3) 2)) (r:=bJ 3 (gR (cW aB iZ) 3)) (by kernel_rfl) ?_
 intro Q2 q2n _ _
 have hpL:=aFK A ((13*n:Nat):Int)
 have hstep:wE A M (13*n)=if hG A (((13*n:Nat):Int)+6) 3=0 then (vN M (nI A ((13*n:Nat):Int)) (oC A (((13*n:Nat):Int)+7))).1 else (vL M (nI A ((13*n:Nat):Int))).1:=rfl
 have hT:=AK A (((13*n:Nat):Int)+7)
 refine eJ.pre (aJ (by kernel_rfl)) (eJ.evG (OH (nI A ((13*n:Nat):Int))) 2 (aR2 A M (nI A ((13*n:Nat):Int)) (13*n)) ?_)
 simp only[bB,aL,cG,iN,eV]
 have hpos:∀d:Int,0≤d→d≤100→tW (((13*n:Nat):Int)+d):=fun d h3 h4=>by unfold tW;omega
 have hpos0:tW ((13*n:Nat):Int):=by unfold tW;omega
 refine⟨⟨dJ _ _ _,hI,hpos0,trivial⟩,by omega,⟨dJ _ _ _,hI,by decide⟩,⟨?_⟩⟩
 have after:∀M2,M2=QD A (n+1)→eJ aB G (bI aB iZ) (BL (YF A)) (bJ 3 (gR (cW aB iZ) 3)) ((fun M i=>bS 43 [(0,aU aS 1 A),(2,.c (.ptr 0 0)),(3,.c (.ptr 1 0)),(4,iV (i:Nat))] [.cells 27 [.p (.z (.slice none 0 0))],.cells 27 [.p (bY aI 7 M)]]) M2 (13*n)) Q1:=fun M2 he=>by
  subst he;refine eJ.evH aX (aQZ A (QD A (n+1)) (13*n)) ?_;simp only[bB,aL,cG,eV];refine⟨by omega,⟨q1n (n+1) _ (by omega) (by omega) ?_⟩⟩
  have e:((13*n:Nat):Int)+13=((13*(n+1):Nat):Int):=by omega
  rw[e]
  exact aJ (by kernel_rfl)
 generalize nI A ((13*n:Nat):Int)=p at hpL hstep ⊢
 generalize hTT:oC A (((13*n:Nat):Int)+7)=T at hT hstep ⊢
 refine eJ.cond (l:=bJ 2 (eX (inr (bF .skip (gR (cW aB iZ) 3) 2)))) (k:=25) (a:=aI8 (bF .skip (eX (inr (bF .skip (gR (cW aB iZ) 3) 2))) 2)) (b:=aMY (bF .skip (eX (inr (bF .skip (gR (cW aB iZ) 3) 2))) 2)) (r:=[]) (x:=hG A (((13*n:Nat):Int)+6) 3==0) (by kernel_rfl) (by kernel_rfl) ?_ ?_
 ·intro c Q' qn _
  rw[if_pos (by simpa using c)]at hstep
  refine eJ.pre ((fG (eZ 43 [0,2,3,4,5]) _).trans (aJ (by kernel_rfl))) (eJ.rawQ (N:=9) (ops:=aBA) (all:=aPJ) (rid:=7) (r':=[]) (OL M p T (vN M p T).1 (vN M p T).2) (by kernel_rfl) (by kernel_rfl) (by kernel_rfl) (by kernel_rfl) (by kernel_rfl) (aR1 A T M (vN M p T).1 (vN M p T).2 p (13*n)) ?_)
  simp only[bB,aL,pG,iN,gK,eV]
  have fin:eJ aB G (bI aB iZ) (BL (YF A)) [] (bS 43 [(0,aU aS 1 A),(2,.c (.ptr 0 0)),(3,.c (.ptr 1 0)),(4,iV (↑(13*n):Int))] [.cells 27 [.p (.z (.slice none 0 0))],.cells 27 [.p (bY aI 7 (vN M p T).1)]]) Q':=by
   exact⟨_,cQ.refl _,qn _ ⟨_,cQ.refl _,q2n _ (after _ (hstep.symm.trans hst.symm))⟩⟩
  refine⟨by omega,⟨dJ _ _ _,hI,hpos 7 (by omega) (by omega),hTT⟩,⟨⟨⟨⟨trivial,fun _ _ _ _=>lE.refl _⟩,dJ _ _ _,trivial⟩,dJ _ _ _⟩,⟨by omega,by omega⟩,trivial⟩,⟨trivial,?_⟩,⟨trivial,?_⟩⟩
  ·exact eJ.pre ((fG (eZ 43 [0,2,3,4]) _).trans (aJ (by kernel_rfl))) fin
  ·exact eJ.pre ((fG (eZ 43 [0,2,3,4]) _).trans (aJ (by kernel_rfl))) fin
 ·intro c Q' qn _
  rw[if_neg (by simpa using c)]at hstep
  refine eJ.pre ((fG (eZ 43 [0,2,3,4,5]) _).trans (aJ (by kernel_rfl))) (eJ.evH (OK M p (vL M p).1 (vL M p).2) (aR0 A M (vL M p).1 p (13*n) (vL M p).2) ?_)
  simp only[bB,aL,cG,gK];refine⟨⟨⟨⟨trivial,fun _ _ _ _=>lE.refl _⟩,dJ _ _ _,trivial⟩,⟨by omega,by omega⟩,trivial⟩,⟨qn _ ?_⟩⟩
  exact⟨_,cQ.refl _,q2n _ (eJ.pre (aJ (by kernel_rfl)) (after _ (hstep.symm.trans hst.symm)))⟩
end
theorem wA{α:Type}{c:α}:∀ {a b r s:List α},c ∉ a→c ∉ b→a++c::r=b++c::s→a=b∧r=s
 |[],[],r,s,_,_,h=>⟨rfl,by simpa using h⟩
 |[],y::b,r,s,_,hb,h=>by
  simp at h;exact absurd h.1 (fun e=>hb (by rw[e];exact cY ..))
 |x::a,[],r,s,ha,_,h=>by
  simp at h;exact absurd h.1.symm (fun e=>ha (by rw[e];exact cY ..))
 |x::a,y::b,r,s,ha,hb,h=>by
  simp at h;obtain⟨rfl,h⟩:=h;obtain⟨rfl,h2⟩:=wA (fun k=>ha (cM _ k)) (fun k=>hb (cM _ k)) h;exact⟨rfl,h2⟩
def GH:Bool→List (ByteArray×ByteArray)→List UInt8
 |_,[]=>[]
 |b,x::r=>(match b with
  |true=>[]
  |false=>[44])++(x.1.data.toList++61::34::(x.2.data.toList++34::GH false r))
def aD1(g:Nat→ByteArray×ByteArray)(k:Nat):List UInt8:=[44]++(g k).1.data.toList++[61,34]++(g k).2.data.toList++[34]
theorem aEB:∀(r:List (ByteArray×ByteArray)),(List.range r.length).flatMap (aD1 (VO r))=GH false r
 |[]=>rfl
 |x::r=>by
  rw[eB,List.range_succ_eq_map,List.flatMap_cons,List.flatMap_map]
  have e:(fun k=>aD1 (VO (x::r)) (Nat.succ k))=aD1 (VO r):=rfl
  rw[e,aEB r]
  show ([44]++x.1.data.toList++[61,34]++x.2.data.toList++[34])++GH false r=[44]++(x.1.data.toList++61::34::(x.2.data.toList++34::GH false r))
  simp
theorem aID:∀(r:List (ByteArray×ByteArray)),oV (VO r) r.length=GH true r
 |[]=>rfl
 |x::r=>by
  unfold oV;rw[eB,List.range_succ_eq_map,List.flatMap_cons,List.flatMap_map]
  have e:(fun k=>SY (VO (x::r)) (Nat.succ k))=aD1 (VO r):=by
   funext k;unfold SY aD1;rw[if_pos (Nat.succ_pos k)];rfl
  rw[e,aEB r]
  show ([]++x.1.data.toList++[61,34]++x.2.data.toList++[34])++GH false r=[]++(x.1.data.toList++61::34::(x.2.data.toList++34::GH false r))
  simp
def Cl(L:List (ByteArray×ByteArray)):Prop:=∀x∈L,(61:UInt8) ∉ x.1.data.toList∧(34:UInt8) ∉ x.2.data.toList
theorem WM:∀ {b:Bool} {L M:List (ByteArray×ByteArray)},Cl L→Cl M→GH b L=GH b M→L=M
 |_,[],[],_,_,_=>rfl
 |b,[],y::M,_,_,h=>by
  cases b<;>simp[GH]at h
 |b,x::L,[],_,_,h=>by
  cases b<;>simp[GH]at h
 |b,x::L,y::M,hL,hM,h=>by
  have h1:x.1.data.toList++61::34::(x.2.data.toList++34::GH false L)=y.1.data.toList++61::34::(y.2.data.toList++34::GH false M):=by
   cases b<;>simpa[GH] using h
  obtain⟨x1,x2⟩:=hL x (cY ..);obtain⟨y1,y2⟩:=hM y (cY ..);obtain⟨e1,h2⟩:=wA x1 y1 h1;injection h2 with _ h2;obtain⟨e2,h3⟩:=wA x2 y2 h2
  have e3:=WM (fun z hz=>hL z (cM _ hz)) (fun z hz=>hM z (cM _ hz)) h3
  have e4:x=y:=Prod.ext (ByteArray.ext (fN.mp e1)) (ByteArray.ext (fN.mp e2))
  rw[e3,e4]
theorem tC(L:List (ByteArray×ByteArray)):(cE L).data.toList=123::(GH true L++[125]):=by
 unfold cE LV;rw[aID]
theorem JJ{L M:List (ByteArray×ByteArray)}(hL:Cl L)(hM:Cl M)(h:cE L=cE M):L=M:=by
 have h1:(cE L).data.toList=(cE M).data.toList:=by rw[h]
 rw[tC,tC]at h1;injection h1 with _ h1;exact WM hL hM (List.append_cancel_right h1)
theorem aE7{s:ByteArray}{c:UInt8}(h:c∈s.data.toList):∃k,k<s.size∧PlainAid.bt s k=(c.toNat:Int):=by
 obtain⟨k,hk,rfl⟩:=fU h
 have hk':k<s.size:=by simpa using hk
 refine⟨k,hk',?_⟩;unfold PlainAid.bt;rw[dif_pos hk'];rfl
theorem RU{s:ByteArray}(h:jC s=true):(61:UInt8) ∉ s.data.toList:=fun hm=>by
 obtain⟨k,hk,e⟩:=aE7 hm
 have:okc k (PlainAid.bt s k)=false:=by
  rw[e];unfold okc
  show ((decide ((97:Int)≤61)&&decide ((61:Int)≤122))||(decide (k≠0)&&((61:Int)==95||(decide ((48:Int)≤61)&&decide ((61:Int)≤57)))))=false
  simp
 rw[uR hk this]at h;cases h
theorem LQ{s:ByteArray}(h:jO s=true):(34:UInt8) ∉ s.data.toList:=fun hm=>by
 obtain⟨k,hk,e⟩:=aE7 hm
 have:okv (PlainAid.bt s k)=false:=by
  rw[e];rfl
 rw[rM hk this]at h;cases h
theorem kS{L:List (ByteArray×ByteArray)}(h:lR L=true):L.length≤8∧∀x∈L,jC x.1=true∧jO x.2=true:=by
 unfold lR lO xQ at h;rw[aO,decide_eq_true_eq,fL]at h;refine⟨h.1,fun x hx=>?_⟩;obtain⟨k,hk,rfl⟩:=fU hx
 have:=h.2 k (List.mem_range.2 hk)
 unfold okl at this;simp only[aO]at this
 have e:VO L k=L[k]:=by unfold VO;simp[hk]
 rw[e]at this;exact⟨this.1.1.1,this.1.2⟩
theorem AH{L:List (ByteArray×ByteArray)}(h:lR L=true):Cl L:=fun x hx=>⟨RU ((kS h).2 x hx).1,LQ ((kS h).2 x hx).2⟩
theorem CX{L M:List (ByteArray×ByteArray)}(hL:lR L=true)(hM:lR M=true)(h:cE L=cE M):L=M:=JJ (AH hL) (AH hM) h
theorem uQ{s:ByteArray}(h:jC s=true):s.size≤16:=by
 unfold jC at h;simp only[aO,decide_eq_true_eq]at h;exact h.1.2
theorem LP{s:ByteArray}(h:jO s=true):s.size≤16:=by
 unfold jO at h;simp only[aO,decide_eq_true_eq]at h;exact h.1
theorem aEA:∀(b:Bool) (L:List (ByteArray×ByteArray)) (n:Nat),(∀x∈L,x.1.size≤n∧x.2.size≤n)→(GH b L).length≤L.length*(2*n+4)
 |_,[],_,_=>by simp[GH]
 |b,x::L,n,h=>by
  have h1:=aEA false L n fun z hz=>h z (cM _ hz)
  obtain⟨h2,h3⟩:=h x (cY ..)
  have e1:x.1.data.toList.length=x.1.size:=by simp
  have e2:x.2.data.toList.length=x.2.size:=by simp
  have h4:(GH b (x::L)).length≤1+(x.1.size+(2+(x.2.size+(1+(GH false L).length)))):=by
   cases b<;>simp[GH]<;>omega
  rw[eB,Nat.add_mul];omega
theorem LU(L:List (ByteArray×ByteArray)):(cE L).size=(GH true L).length+2:=by
 have h:=congrArg List.length (tC L)
 have e:(cE L).data.toList.length=(cE L).size:=by simp
 rw[e]at h;rw[h];simp
theorem vY{L:List (ByteArray×ByteArray)}(h:lR L=true):(cE L).size≤1000:=by
 obtain⟨h1,h2⟩:=kS h
 have h3:=aEA true L 16 fun x hx=>⟨uQ (h2 x hx).1,LP (h2 x hx).2⟩
 rw[LU]
 have:L.length*(2*16+4)≤8*36:=Nat.mul_le_mul_right _ h1
 omega
def pN(M:List Pg)(ru:ByteArray)(ve:Int)(L:List (ByteArray×ByteArray))(t:Int):Option Bool:=(M.reverse.find? fun q=>jZ q ⟨0,ru,ve,L,t,0,⟨#[]⟩⟩).map fun q=>q.kd != 1
theorem nQ{a b:Pg}:jZ a b=true↔a.L=b.L∧a.ru=b.ru∧a.ve=b.ve∧a.st=b.st:=by
 unfold jZ;simp only[aO,decide_eq_true_eq]
theorem DS(M:List Pg)(p:Pg)(ru:ByteArray)(ve:Int)(L:List (ByteArray×ByteArray))(t:Int):pN (M++[p]) ru ve L t=if p.L=L∧p.ru=ru∧p.ve=ve∧p.st=t then some (p.kd != 1) else pN M ru ve L t:=by
 unfold pN;rw[List.reverse_append]
 show Option.map _ (List.find? _ (p::M.reverse))=_
 rw[List.find?_cons]
 by_cases h:p.L=L∧p.ru=ru∧p.ve=ve∧p.st=t
 ·rw[if_pos h,(nQ (a:=p) (b:=⟨0,ru,ve,L,t,0,⟨#[]⟩⟩)).2 h]
  rfl
 ·rw[if_neg h]
  have:jZ p ⟨0,ru,ve,L,t,0,⟨#[]⟩⟩=false:=by
   cases hs:jZ p ⟨0,ru,ve,L,t,0,⟨#[]⟩⟩ with
   |false=>rfl
   |true=>exact absurd (nQ.1 hs) h
  rw[this]
theorem aDE{ru ru' tx tx':ByteArray}{ve ve':Int}(h:iI ru ve tx=iI ru' ve' tx'):ru=ru'∧ve=ve'∧tx=tx':=by
 unfold iI at h;simpa using h
theorem YJ{ru ru' tx tx':ByteArray}{ve ve' t t':Int}(h:kK ru ve tx t=kK ru' ve' tx' t'):ru=ru'∧ve=ve'∧tx=tx'∧t=t':=by
 unfold kK at h;simpa using h
def JE(p:Pg):Prop:=hJ p=true∧eV .i64 p.ve∧(p.kd=0∨p.kd=1∨p.kd=2)
structure QG (D:Ld):Prop where
 ok:∀p∈D.M,JE p
 stg:∀k,∃S,FT D k S∧S.length≤D.M.length
 vw:∀ru ve L,lR L=true→∃S,Vw ru ve L D S (pN D.M ru ve L)∧S.length≤D.M.length∧∀t∈S,gQ t=true
theorem iM{p:Pg}:hJ p=true↔jC p.ru=true∧1≤p.ve∧lR p.L=true∧gQ p.st=true∧gQ p.se=true∧p.to.size≤16:=by
 unfold hJ;simp only[aO,decide_eq_true_eq];exact⟨fun⟨⟨⟨⟨⟨h1,h2⟩,h3⟩,h4⟩,h5⟩,h6⟩=>⟨h1,h2,h3,h4,h5,h6⟩,fun⟨h1,h2,h3,h4,h5,h6⟩=>⟨⟨⟨⟨⟨h1,h2⟩,h3⟩,h4⟩,h5⟩,h6⟩⟩
theorem aHQ:QG zO:=⟨fun p hp=>(by cases hp),fun k=>⟨[],⟨rfl,fun e o he=>absurd he (Nat.not_lt_zero _)⟩,aW _⟩,fun ru ve L _=>⟨[],aA9 ru ve L,aW _,fun t ht=>(by cases ht)⟩⟩
theorem aAE{D:Ld}{gp:Value→Option Bool}{M:List Pg}{k:Value}{S:List Int}{x:Int}(h:FT D k S):FT ⟨M,gp,sX D.gs k x⟩ k (S++[x]):=by
 obtain⟨h1,h2⟩:=h;unfold FT
 show (sX D.gs k x k).1=_∧∀e o,e<_→o<1→(sX D.gs k x k).2 e o=_
 unfold sX;rw[qZ];refine⟨by simp[h1],fun e o he ho=>?_⟩
 obtain rfl:o=0:=by omega
 dsimp only;rw[h1]
 by_cases he2:e<S.length
 ·rw[if_pos he2,h2 e 0 he2 (by omega)]
  unfold aE;simp[cD he2]
 ·have:e=S.length:=by simp at he;omega
  subst this;rw[if_neg (Nat.lt_irrefl _)];unfold aE;simp[bF,mI,aS]
theorem KR{D:Ld}(hI:QG D){p:Pg}(hp:JE p):QG (gF D p):=by
 obtain⟨p1,p2,p3⟩:=hp
 have hpL:=(iM.1 p1).2.2.1
 have hpt:=(iM.1 p1).2.2.2.1
 have hM:(gF D p).M=D.M++[p]:=rfl
 have hlen:(gF D p).M.length=D.M.length+1:=by rw[hM];simp
 refine⟨fun q hq=>?_,fun k=>?_,fun ru ve L hL=>?_⟩
 ·rw[hM]at hq
  rcases dF.1 hq with h|h
  ·exact hI.ok q h
  ·rw[eN.1 h];exact⟨p1,p2,p3⟩
 ·obtain⟨S,h1,h2⟩:=hI.stg k
  rw[hlen];cases hs:(D.gp (kK p.ru p.ve (cE p.L) p.st)).isSome with
  |true=>
   have e:(gF D p).gs=D.gs:=by unfold gF;dsimp only;rw[hs]
   exact⟨S,by unfold FT;rw[e];exact h1,by omega⟩
  |false=>
   have e:(gF D p).gs=sX D.gs (iI p.ru p.ve (cE p.L)) p.st:=by unfold gF;dsimp only;rw[hs]
   by_cases hk:k=iI p.ru p.ve (cE p.L)
   ·subst hk
    refine⟨S++[p.st],?_,by simp;omega⟩;unfold FT;rw[e];exact aAE (gp:=D.gp) (M:=D.M) h1
   ·refine⟨S,?_,by omega⟩
    unfold FT;rw[e];unfold sX;rw[rP _ _ _ hk];exact h1
 ·obtain⟨S,hv,h2,h3⟩:=hI.vw ru ve L hL
  rw[hlen]
  by_cases hg:p.L=L∧p.ru=ru∧p.ve=ve
  ·obtain⟨rfl,rfl,rfl⟩:=hg
   obtain⟨kd,ru,ve,L,st,se,to⟩:=p;obtain⟨S',k1,k2,k3⟩:=hv.add kd st se to;refine⟨S',?_,by omega,fun t ht=>?_⟩
   ·have e:pN (gF D ⟨kd,ru,ve,L,st,se,to⟩).M ru ve L=wX (pN D.M ru ve L) st (kd != 1):=by
      funext t;rw[hM,DS];unfold wX
      by_cases h:t=st
      ·subst h;simp
      ·rw[if_neg h,if_neg (fun h'=>h h'.2.2.2.symm)]
    show Vw ru ve L _ S' (pN (gF D ⟨kd,ru,ve,L,st,se,to⟩).M ru ve L)
    rw[e];exact k1
   ·rcases k3 t ht with h|h
    ·exact h3 t h
    ·rw[h];exact hpt
  ·have hkey:iI ru ve (cE L)≠iI p.ru p.ve (cE p.L):=fun h=>by
     obtain⟨e1,e2,e3⟩:=aDE h;exact hg ⟨(CX hL hpL e3).symm,e1.symm,e2.symm⟩
   have hmk:∀t,kK ru ve (cE L) t≠kK p.ru p.ve (cE p.L) p.st:=fun t h=>by
    obtain⟨e1,e2,e3,_⟩:=YJ h;exact hg ⟨(CX hL hpL e3).symm,e1.symm,e2.symm⟩
   have e:pN (gF D p).M ru ve L=pN D.M ru ve L:=by
    funext t;rw[hM,DS,if_neg (fun h=>hg ⟨h.1,h.2.1,h.2.2.1⟩)]
   refine⟨S,?_,by omega,h3⟩;rw[e];refine⟨?_,fun t=>?_,hv.dom,hv.nd⟩
   ·have hst:=hv.st
    unfold FT at hst ⊢
    have:(gF D p).gs (iI ru ve (cE L))=D.gs (iI ru ve (cE L)):=by
     cases hs:(D.gp (kK p.ru p.ve (cE p.L) p.st)).isSome with
     |true=>
      have e:(gF D p).gs=D.gs:=by unfold gF;dsimp only;rw[hs]
      rw[e]
     |false=>
      have e:(gF D p).gs=sX D.gs (iI p.ru p.ve (cE p.L)) p.st:=by unfold gF;dsimp only;rw[hs]
      rw[e];unfold sX;rw[rP _ _ _ hkey]
    rw[this];exact hst
   ·show tG D.gp _ _ (kK ru ve (cE L) t)=_
    unfold tG;rw[if_neg (hmk t)];exact hv.gp t
theorem JK(M:List Pg)(hk:∀p∈M,p.kd=0∨p.kd=1∨p.kd=2)(p:Pg):match pN M p.ru p.ve p.L p.st with
  |some true=>sU M p=0∨sU M p=2
  |some false=>sU M p=1
  |none=>sU M p = -1:=by
 unfold pN sU
 have e:(fun q=>jZ q ⟨0,p.ru,p.ve,p.L,p.st,0,⟨#[]⟩⟩)=fun q=>jZ q p:=rfl
 rw[e]
 cases hf:M.reverse.find? fun q=>jZ q p with
 |none=>rfl
 |some q=>
  have hq:q∈M:=List.mem_reverse.1 (List.mem_of_find?_eq_some hf)
  rcases hk q hq with h|h|h
  ·simp[h]
  ·simp[h]
  ·simp[h]
theorem SQ{D:Ld}(hI:QG D)(p:Pg)(hve:eV .i64 p.ve):(jD D p).1=(vL D.M p).2∧(jD D p).2.M=(vL D.M p).1∧QG (jD D p).2:=by
 unfold vL
 by_cases h0:hJ p=false∨p.kd≠0
 ·rw[if_pos h0]
  unfold jD
  rcases h0 with h|h
  ·rw[h]
   cases (p.kd != 0)<;>exact⟨rfl,rfl,hI⟩
  ·rw[bne_iff_ne.2 h]
   exact⟨rfl,rfl,hI⟩
 ·rw[if_neg h0]
  have h1:hJ p=true:=by
   cases hq:hJ p with
   |true=>rfl
   |false=>exact absurd (.inl hq) h0
  have h2:p.kd=0:=Classical.byContradiction fun h=>h0 (.inr h)
  obtain⟨S,hv,_,_⟩:=hI.vw p.ru p.ve p.L (iM.1 h1).2.2.1
  have hz:=JK D.M (fun q hq=>(hI.ok q hq).2.2) p
  have hgp:=hv.gp p.st
  have hf:jD D p=match pN D.M p.ru p.ve p.L p.st with
   |some true=>(10,D)
   |some false=>(20,D)
   |none=>(0,gF D p):=by
   unfold jD;rw[h1,hgp,h2];cases pN D.M p.ru p.ve p.L p.st with
   |none=>rfl
   |some b=>cases b<;>rfl
  rw[hf];cases hpd:pN D.M p.ru p.ve p.L p.st with
  |none=>
   rw[hpd]at hz
   have hz:sU D.M p = -1:=hz
   rw[hz,if_neg (by omega),if_neg (by omega)];exact⟨rfl,rfl,KR hI ⟨h1,hve,.inl h2⟩⟩
  |some b=>
   rw[hpd]at hz;cases b with
   |true=>
    have hz:sU D.M p=0∨sU D.M p=2:=hz
    rw[if_pos hz];exact⟨rfl,rfl,hI⟩
   |false=>
    have hz:sU D.M p=1:=hz
    rw[hz,if_neg (by omega),if_pos rfl];exact⟨rfl,rfl,hI⟩
theorem aHB{M:List Pg}(hk:∀p∈M,p.kd=0∨p.kd=1∨p.kd=2)(p:Pg)(t:Int):t∈JR M p M.length↔(pN M p.ru p.ve p.L t).getD false=true:=by
 have hz:=JK M hk (yU p t)
 have hz:match pN M p.ru p.ve p.L t with
  |some true=>sU M (yU p t)=0∨sU M (yU p t)=2
  |some false=>sU M (yU p t)=1
  |none=>sU M (yU p t) = -1:=hz
 unfold JR;rw[fS,List.mem_map];constructor
 ·rintro⟨q,hq,rfl⟩
  rw[List.mem_filter,aO,bne_iff_ne]at hq;obtain⟨hq,hs,hn⟩:=hq;cases hpd:pN M p.ru p.ve p.L q.st with
  |none=>
   unfold pN at hpd;rw[Option.map_eq_none_iff,List.find?_eq_none]at hpd;exact absurd hs (hpd q (List.mem_reverse.2 hq))
  |some b=>
   rw[hpd]at hz;cases b with
   |true=>rfl
   |false=>exact absurd hz hn
 ·intro h
  cases hpd:pN M p.ru p.ve p.L t with
  |none=>rw[hpd]at h;cases h
  |some b=>
   rw[hpd]at h hz;obtain rfl:b=true:=h
   have hz:sU M (yU p t)=0∨sU M (yU p t)=2:=hz
   unfold pN at hpd;rw[bC]at hpd;obtain⟨q,hq,_⟩:=hpd
   have hs:=List.find?_some hq
   have hm:q∈M:=List.mem_reverse.1 (List.mem_of_find?_eq_some hq)
   obtain⟨e1,e2,e3,e4⟩:=nQ.1 hs
   have e4:q.st=t:=e4
   refine⟨q,?_,e4⟩;rw[List.mem_filter,aO,bne_iff_ne,e4];exact⟨hm,nQ.2 ⟨e1,e2,e3,e4⟩,by omega⟩
theorem XS(M:List Pg)(p:Pg):(fX M p).Pairwise (· < ·):=qD _
theorem nV{M:List Pg}(hk:∀p∈M,p.kd=0∨p.kd=1∨p.kd=2)(p:Pg)(t:Int):t∈fX M p↔(pN M p.ru p.ve p.L t).getD false=true:=(oJ _ t).trans (aHB hk p t)
theorem QG.kds{D:Ld}(hI:QG D):∀p∈D.M,p.kd=0∨p.kd=1∨p.kd=2:=fun p hp=>(hI.ok p hp).2.2
theorem XR{D:Ld}(hI:QG D){p:Pg}(h:hJ ⟨0,p.ru,p.ve,p.L,0,0,⟨#[]⟩⟩=false):fX D.M p=[]:=by
 refine List.eq_nil_iff_forall_not_mem.2 fun t ht=>?_
 rw[nV hI.kds]at ht;cases hpd:pN D.M p.ru p.ve p.L t with
 |none=>rw[hpd]at ht;cases ht
 |some b=>
  unfold pN at hpd;rw[bC]at hpd;obtain⟨q,hq,_⟩:=hpd
  have hs:=List.find?_some hq
  have hm:q∈D.M:=List.mem_reverse.1 (List.mem_of_find?_eq_some hq)
  obtain⟨e1,e2,e3,_⟩:=nQ.1 hs
  have e1:q.L=p.L:=e1
  have e2:q.ru=p.ru:=e2
  have e3:q.ve=p.ve:=e3
  obtain⟨k1,k2,k3,_⟩:=iM.1 (hI.ok q hm).1
  have:hJ ⟨0,p.ru,p.ve,p.L,0,0,⟨#[]⟩⟩=true:=iM.2 ⟨e2▸k1,e3▸k2,e1▸k3,rfl,rfl,bW _⟩
  rw[h]at this;cases this
theorem NB{D:Ld}(hI:QG D)(p:Pg):∃S,FT D (iI p.ru p.ve (cE p.L)) S∧S.length≤D.M.length∧(hJ ⟨0,p.ru,p.ve,p.L,0,0,⟨#[]⟩⟩=true→(∀t∈S,gQ t=true)∧nD D p.ru p.ve p.L S=aU aS 1 (fX D.M p))∧(hJ ⟨0,p.ru,p.ve,p.L,0,0,⟨#[]⟩⟩=false→fX D.M p=[]∧nD D p.ru p.ve p.L S=.c (.p (.z (.slice none 0 0)))):=by
 cases h:hJ ⟨0,p.ru,p.ve,p.L,0,0,⟨#[]⟩⟩ with
 |true=>
  obtain⟨S,hv,h2,h3⟩:=hI.vw p.ru p.ve p.L (iM.1 h).2.2.1;exact⟨S,hv.st,h2,fun _=>⟨h3,HR hv h (XS _ _) fun t=>nV hI.kds p t⟩,fun h=>by cases h⟩
 |false=>
  obtain⟨S,h1,h2⟩:=hI.stg (iI p.ru p.ve (cE p.L));refine⟨S,h1,h2,fun h=>(by cases h),fun _=>⟨XR hI h,?_⟩⟩;unfold nD;rw[h]
theorem RH{ru:ByteArray}{ve:Int}{L:List (ByteArray×ByteArray)}{se:Int}(h:hJ ⟨0,ru,ve,L,0,se,⟨#[]⟩⟩=true)(hve:eV .i64 ve){kd t:Int}(hk:kd=0∨kd=1∨kd=2)(ht:gQ t=true):JE ⟨kd,ru,ve,L,t,se,⟨#[]⟩⟩:=by
 obtain⟨k1,k2,k3,_,k5,k6⟩:=iM.1 h;exact⟨iM.2 ⟨k1,k2,k3,ht,k5,k6⟩,hve,hk⟩
theorem FB{ru:ByteArray}{ve:Int}{L:List (ByteArray×ByteArray)}{se:Int}(h:hJ ⟨0,ru,ve,L,0,se,⟨#[]⟩⟩=true)(hve:eV .i64 ve)(T:List Int):∀(A:List Int) (D:Ld) (out:List Pg),QG D→(∀t∈A,gQ t=true) →
  QG (A.foldl (kW T ru ve L se) (D,out)).1∧∃Y,(A.foldl (kW T ru ve L se) (D,out)).1.M=D.M++Y∧(A.foldl (kW T ru ve L se) (D,out)).2=out++Y
 |[],D,out,hI,_=>⟨hI,[],(fP _).symm,(fP _).symm⟩
 |t::A,D,out,hI,hA=>by
  rw[List.foldl_cons]
  have ht:=hA t (cY ..)
  have hA':∀t∈A,gQ t=true:=fun u hu=>hA u (cM _ hu)
  have step:kW T ru ve L se (D,out) t=(D,out)∨∃kd,(kd=0∨kd=1∨kd=2)∧kW T ru ve L se (D,out) t=(gF D ⟨kd,ru,ve,L,t,se,⟨#[]⟩⟩,out++[⟨kd,ru,ve,L,t,se,⟨#[]⟩⟩]):=by
   unfold kW;dsimp only;cases (D.gp (kK ru ve (cE L) t)).getD false<;>cases decide (t∈T)
   ·exact .inl rfl
   ·exact .inr ⟨2,.inr (.inr rfl),rfl⟩
   ·exact .inr ⟨1,.inr (.inl rfl),rfl⟩
   ·exact .inl rfl
  rcases step with e|⟨kd,hk,e⟩
  ·rw[e];exact FB h hve T A D out hI hA'
  ·rw[e]
   obtain⟨h1,Y,h2,h3⟩:=FB h hve T A (gF D ⟨kd,ru,ve,L,t,se,⟨#[]⟩⟩) (out++[⟨kd,ru,ve,L,t,se,⟨#[]⟩⟩]) (KR hI (RH h hve hk ht)) hA';refine⟨h1,⟨kd,ru,ve,L,t,se,⟨#[]⟩⟩::Y,?_,?_⟩
   ·rw[h2]
    show (D.M++[_])++Y=_
    rw[dW];rfl
   ·rw[h3,dW];rfl
theorem NH{D:Ld}(hI:QG D)(p:Pg)(T:List Int)(hve:eV .i64 p.ve):∃S D',FT D (iI p.ru p.ve (cE p.L)) S∧S.length≤D.M.length∧D'.M=(vN D.M p T).1∧QG D'∧(hJ ⟨0,p.ru,p.ve,p.L,0,p.se,⟨#[]⟩⟩=true→∀t∈S,gQ t=true) ∧
  ((hJ ⟨0,p.ru,p.ve,p.L,0,p.se,⟨#[]⟩⟩&&T.all gQ)=true→kJ D p.ru p.ve p.L S T p.se=(aU aI 7 (vN D.M p T).2,D')) ∧
  ((hJ ⟨0,p.ru,p.ve,p.L,0,p.se,⟨#[]⟩⟩&&T.all gQ)=false→kJ D p.ru p.ve p.L S T p.se=(.c (.p (.z (.slice none 0 0))),D')∧(vN D.M p T).2=[]):=by
 cases hq:hJ ⟨0,p.ru,p.ve,p.L,0,p.se,⟨#[]⟩⟩ with
 |false=>
  obtain⟨S,h1,h2⟩:=hI.stg (iI p.ru p.ve (cE p.L))
  have hz:vN D.M p T=(D.M,[]):=by unfold vN;rw[hq];rfl
  refine⟨S,D,h1,h2,by rw[hz],hI,(fun h=>by cases h),(fun h=>by cases h),fun _=>⟨?_,by rw[hz]⟩⟩;unfold kJ;rw[hq]
 |true=>
  obtain⟨S,hv,h2,h3⟩:=hI.vw p.ru p.ve p.L (iM.1 hq).2.2.1;cases hT:T.all gQ with
  |false=>
   have hz:vN D.M p T=(D.M,[]):=by unfold vN;rw[hq,hT];rfl
   refine⟨S,D,hv.st,h2,by rw[hz],hI,fun _=>h3,(fun h=>by cases h),fun _=>⟨?_,by rw[hz]⟩⟩;unfold kJ;rw[hq,hT]
  |true=>
   have hTt:∀t∈T,gQ t=true:=fun t ht=>fL.1 hT t ht
   have hA:=oJ (S++T)
   have hAt:∀t∈kH (iC (S++T)),gQ t=true:=fun t ht=>by
    rcases dF.1 ((hA t).1 ht) with h|h
    ·exact h3 t h
    ·exact hTt t h
   obtain⟨i1,Y,i2,i3⟩:=FB hq hve T (kH (iC (S++T))) D [] hI hAt;obtain⟨S',k1,k2,_,_,_⟩:=vC T p.se (kH (iC (S++T))) D [] S _ hv (EE (qD _))
   have hY:Y=((kH (iC (S++T))).filter (nE (pN D.M p.ru p.ve p.L) T)).map (pD p.ru p.ve p.L p.se T):=by
    rw[i3]at k2;simpa using k2
   have hW:∀t,decide (t∈fX D.M p)=(pN D.M p.ru p.ve p.L t).getD false:=fun t=>by
    rw[Bool.eq_iff_iff,decide_eq_true_eq];exact nV hI.kds p t
   have hO:yV (fX D.M p) T p (mJ (fX D.M p++T))=Y:=by
    rw[hY];unfold yV;congr 1
    refine pX ((qD _).sublist List.filter_sublist) ((qD _).sublist List.filter_sublist) fun t=>?_
    have hm:=oJ (fX D.M p++T) t
    have hm:t∈mJ (fX D.M p++T)↔t∈fX D.M p++T:=hm
    rw[List.mem_filter,List.mem_filter,hm,hA t,hW];unfold nE;constructor
    ·rintro⟨_,h2⟩
     refine⟨?_,h2⟩;rw[dF,hv.dom];cases hd:pN D.M p.ru p.ve p.L t with
     |some x=>exact .inl rfl
     |none=>
      rw[hd]at h2;exact .inr (by simpa using h2)
    ·rintro⟨_,h2⟩
     refine⟨?_,h2⟩;rw[dF]
     have:=hW t
     cases hd:(pN D.M p.ru p.ve p.L t).getD false with
     |true=>rw[hd]at this;exact .inl (by simpa using this)
     |false=>
      rw[hd]at h2;exact .inr (by simpa using h2)
   have hz:vN D.M p T=(D.M++Y,Y):=by unfold vN;rw[hq,hT,hO];rfl
   refine⟨S,_,hv.st,h2,by rw[hz];exact i2,i1,fun _=>h3,fun _=>?_,(fun h=>by cases h)⟩;unfold kJ;rw[hq,hT,hz]
   show (aU aI 7 (nG T p.ru p.ve p.L p.se D (kH (iC (S++T)))).2,_)=_
   unfold nG;rw[i3];rfl
inductive wT:List Pg→Prop
 |nil:wT []
 |fire {M p}:wT M→JE p→p.kd=0→sU M p = -1→wT (M++[p])
 |undo {M p}:wT M→JE p→p.to=⟨#[]⟩→p.kd=1→(pN M p.ru p.ve p.L p.st).getD false=true→wT (M++[p])
 |late {M p}:wT M→JE p→p.to=⟨#[]⟩→p.kd=2→(pN M p.ru p.ve p.L p.st).getD false=false→wT (M++[p])
theorem wT.ok{M:List Pg}(h:wT M):∀p∈M,JE p:=by
 induction h with
 |nil=>intro p hp;cases hp
 |fire _ h1 _ _ ih=>intro q hq;rcases dF.1 hq with h|h;exact ih q h;rw[eN.1 h];exact h1
 |undo _ h1 _ _ _ ih=>intro q hq;rcases dF.1 hq with h|h;exact ih q h;rw[eN.1 h];exact h1
 |late _ h1 _ _ _ ih=>intro q hq;rcases dF.1 hq with h|h;exact ih q h;rw[eN.1 h];exact h1
theorem aHG{M:List Pg}(h:wT M)(p:Pg)(hve:eV .i64 p.ve):wT (vL M p).1:=by
 unfold vL;split
 ·exact h
 ·rename_i h1
  split
  ·exact h
  ·rename_i h2
   split
   ·exact h
   ·rename_i h3
    have hk:p.kd=0:=Classical.byContradiction fun h=>h1 (.inr h)
    have hp:hJ p=true:=by
     cases hq:hJ p with
     |true=>rfl
     |false=>exact absurd (.inl hq) h1
    refine h.fire ⟨hp,hve,.inl hk⟩ hk ?_
    have hz:=JK M (fun q hq=>(h.ok q hq).2.2) p
    cases hpd:pN M p.ru p.ve p.L p.st with
    |none=>rw[hpd]at hz;exact hz
    |some b=>
     rw[hpd]at hz;cases b with
     |true=>exact absurd hz h2
     |false=>exact absurd hz h3
theorem aCW{ru:ByteArray}{ve:Int}{L:List (ByteArray×ByteArray)}{se:Int}(hq:hJ ⟨0,ru,ve,L,0,se,⟨#[]⟩⟩=true)(hve:eV .i64 ve)(T:List Int):∀(A:List Int) (M:List Pg),wT M→A.Nodup→(∀t∈A,gQ t=true∧(pN M ru ve L t).getD false≠decide (t∈T))→wT (M++A.map (pD ru ve L se T))
 |[],M,h,_,_=>by simpa using h
 |t::A,M,h,hn,hA=>by
  rw[List.nodup_cons]at hn;obtain⟨h1,h2⟩:=hA t (cY ..)
  have key:wT (M++[pD ru ve L se T t]):=by
   cases hd:decide (t∈T) with
   |true=>
    have e:pD ru ve L se T t=⟨2,ru,ve,L,t,se,⟨#[]⟩⟩:=by unfold pD;rw[hd]
    rw[e];refine h.late (RH hq hve (.inr (.inr rfl)) h1) rfl rfl ?_
    show (pN M ru ve L t).getD false=false
    rw[hd]at h2;simpa using h2
   |false=>
    have e:pD ru ve L se T t=⟨1,ru,ve,L,t,se,⟨#[]⟩⟩:=by unfold pD;rw[hd]
    rw[e];refine h.undo (RH hq hve (.inr (.inl rfl)) h1) rfl rfl ?_
    show (pN M ru ve L t).getD false=true
    rw[hd]at h2;simpa using h2
  have:=aCW hq hve T A (M++[pD ru ve L se T t]) key hn.2 fun u hu=>by
   obtain⟨k1,k2⟩:=hA u (cM _ hu);refine⟨k1,?_⟩
   rw[DS,if_neg (fun h=>hn.1 (by have e:(pD ru ve L se T t).st=t:=rfl
                                 rw[←e,h.2.2.2];exact hu))]
   exact k2
  rw[List.map_cons];rw[dW]at this;exact this
theorem aHH{M:List Pg}(h:wT M)(p:Pg)(T:List Int)(hve:eV .i64 p.ve):wT (vN M p T).1:=by
 unfold vN;cases hq:hJ ⟨0,p.ru,p.ve,p.L,0,p.se,⟨#[]⟩⟩ with
 |false=>exact h
 |true=>
  cases hT:T.all gQ with
  |false=>exact h
  |true=>
   have hk:∀q∈M,q.kd=0∨q.kd=1∨q.kd=2:=fun q hq=>(h.ok q hq).2.2
   show wT (M++yV (fX M p) T p (mJ (fX M p++T)))
   unfold yV
   refine aCW hq hve T _ M h ((EE (qD _)).sublist List.filter_sublist) fun t ht=>?_
   rw[List.mem_filter]at ht;obtain⟨h1,h2⟩:=ht
   have hW:decide (t∈fX M p)=(pN M p.ru p.ve p.L t).getD false:=by
    rw[Bool.eq_iff_iff,decide_eq_true_eq];exact nV hk p t
   refine⟨?_,?_⟩
   ·have h1:=(oJ _ t).1 h1
    rcases dF.1 h1 with h3|h3
    ·rw[nV hk]at h3
     cases hpd:pN M p.ru p.ve p.L t with
     |none=>rw[hpd]at h3;cases h3
     |some b=>
      unfold pN at hpd;rw[bC]at hpd;obtain⟨q,hq,_⟩:=hpd
      have hs:=List.find?_some hq
      have e:q.st=t:=(nQ.1 hs).2.2.2
      have hm:q∈M:=List.mem_reverse.1 (List.mem_of_find?_eq_some hq)
      have:=(iM.1 (h.ok q hm).1).2.2.2.1
      rw[e]at this;exact this
    ·exact fL.1 hT t h3
   ·rw[hW,bne_iff_ne]at h2
    exact h2
theorem SR{A:List Int}(hp:∀i,eV .i64 (nI A i).ve):∀n,wT (QD A n)
 |0=>.nil
 |n+1=>by
  show wT (wE A (QD A n) (13*n))
  unfold wE;split
  ·exact aHH (SR hp n) _ _ (hp _)
  ·exact aHG (SR hp n) _ (hp _)
theorem aB6(A:List Int)(i:Int):1≤(nI A i).ve∧(nI A i).ve≤2:=by
 have:=oZ (L:=A) (i:=i+1) (m:=8) (by omega)
 unfold nI;dsimp only;omega
theorem aB7(A:List Int)(i:Int):eV .i64 (nI A i).ve:=by
 have:=aB6 A i
 unfold eV;omega
theorem VM(A:List Int):wT (YF A):=SR (aB7 A) _
section
variable {P:Program} {G:Nat→Option Obj} {ops:Array Oper} {al:List AI} {N:Nat} {ext:Ext}
variable {F:St} {own:Nat→Nat→Prop} {β0 β:Bt} {R0 R:Nat→Prop} {w0 w:World} {listed:Array Bool} {a:Act}
def GC(st:St):oB→Option Nat
 |.load _ x=>match st.ev x with
  |.c (.ptr id _)=>some id
  |_=>none
 |_=>none
def kpP(st:St)(h':List AO):List AI→Prop
 |[]=>True
 |x::r=>(match GC st x.op with
  |some id=>pB (bF .gone st.h id)=true∧bF .gone h' id=bF .gone st.h id
  |none=>True)∧kpP st h' r
def IA(st:St):List AI→Bool
 |[]=>true
 |x::r=>kY st x.op&&(!x.op.nw&&IA st r)
def aMV(x y:C)(k:Tr):Tr:=match x,y with
 |.p (.i a n),.p (.i b m)=>.rq (a=b∧n=m) k
 |.p (.s a),.p (.s b)=>.rq (a=b) k
 |.p (.b a),.p (.b b)=>.rq (a=b) k
 |.p (.l a n f),.p (.l b m g)=>.rq (a=b∧n=m∧f=g) k
 |.p (.z a),.p (.z b)=>.rq (a=b) k
 |_,_=>.fail
def aDT:List C→List C→Tr→Tr
 |[],[],k=>k
 |x::r,y::s,k=>aMV x y (aDT r s k)
 |_,_,_=>.fail
def kpT(st:St)(h':List AO):List AI→Tr→Tr
 |[],k=>k
 |x::r,k=>match GC st x.op with
  |some id=>match bF .gone st.h id,bF .gone h' id with
   |.cells t vs,.cells t' vs'=>mZ (cA t t') (aDT vs vs' (kpT st h' r k))
   |_,_=>.fail
  |none=>kpT st h' r k
theorem TP{x y:C}{k:Tr}{K:X→St→Prop}(h:(aMV x y k).holds P G K):x=y∧k.holds P G K:=by
 unfold aMV at h;split at h
 ·obtain⟨⟨rfl,rfl⟩,h⟩:=h;exact⟨rfl,h⟩
 ·obtain⟨rfl,h⟩:=h;exact⟨rfl,h⟩
 ·obtain⟨rfl,h⟩:=h;exact⟨rfl,h⟩
 ·obtain⟨⟨rfl,rfl,rfl⟩,h⟩:=h;exact⟨rfl,h⟩
 ·obtain⟨rfl,h⟩:=h;exact⟨rfl,h⟩
 ·exact h.elim
theorem BF:∀ {xs ys:List C} {k:Tr} {K:X→St→Prop},(aDT xs ys k).holds P G K→xs=ys∧k.holds P G K
 |[],[],k,K,h=>⟨rfl,h⟩
 |x::r,y::s,k,K,h=>by
  obtain⟨h1,h2⟩:=TP h;obtain⟨h3,h4⟩:=BF h2;exact⟨by rw[h1,h3],h4⟩
 |[],_::_,k,K,h=>h.elim
 |_::_,[],k,K,h=>h.elim
theorem zQ{st:St}{h':List AO}:∀ {l:List AI} {k:Tr} {K:X→St→Prop},(kpT st h' l k).holds P G K→kpP st h' l∧k.holds P G K
 |[],k,K,h=>⟨trivial,h⟩
 |x::r,k,K,h=>by
  simp only[kpT]at h;simp only[kpP];split at h
  ·rename_i id hid
   split at h
   ·rename_i t vs t' vs' e1 e2
    obtain⟨c1,c2⟩:=bX h;obtain⟨c3,c4⟩:=BF c2;obtain⟨c5,c6⟩:=zQ c4
    (try rw[hid])
    refine⟨⟨⟨by rw[e1];rfl,?_⟩,c5⟩,c6⟩;rw[e1,e2,c3,aR c1]
   ·exact h.elim
  ·rename_i hid
   obtain⟨c5,c6⟩:=zQ h
   (try rw[hid])
   exact⟨⟨trivial,c5⟩,c6⟩
theorem HZ{st:St}:∀ {l:List AI} {q:Nat} {x:AI},IA st l=true→l[q]?=some x→kY st x.op=true∧x.op.nw=false
 |[],_,_,_,h=>by simp at h
 |y::r,0,x,h,hx=>by
  simp at hx;subst hx;simp only[IA,aO,eP]at h;exact⟨h.1,h.2.1⟩
 |y::r,q+1,x,h,hx=>by
  simp only[IA,aO,eP]at h;exact HZ h.2.2 (by simpa using hx)
theorem VQ{st:St}{h':List AO}:∀ {l:List AI} {q:Nat} {x:AI},kpP st h' l→l[q]?=some x→∀id,GC st x.op=some id→pB (bF .gone st.h id)=true∧bF .gone h' id=bF .gone st.h id
 |[],_,_,_,h=>by simp at h
 |y::r,0,x,h,hx=>by
  simp at hx;subst hx;intro id hid
  have h1:=h.1
  rw[hid]at h1;exact h1
 |y::r,q+1,x,h,hx=>VQ (l:=r) (q:=q) h.2 (by simpa using hx)
theorem SV{op:oB}(hd:op.hd=true)(hn:op.nw=false){t:List V}{h h':List AO}(hl:kY ⟨t,h⟩ op=true)(hc:∀id,GC ⟨t,h⟩ op=some id→pB (bF .gone h id)=true∧bF .gone h' id=bF .gone h id){k:V→List AO→Tr}{K:X→St→Prop}
  (hh:(iR (iW ext) ⟨t,h⟩ (fun v _=>k v h') op).holds P G K):(iR (iW ext) ⟨t,h'⟩ k op).holds P G K:=by
 cases op<;>simp only[oB.hd,oB.nw,Bool.false_eq_true,Bool.true_eq_false]at hd hn
 case load m x=>
  have e:∀y:AX,St.ev ⟨t,h'⟩ y=St.ev ⟨t,h⟩ y:=fun y=>by cases y<;>rfl
  simp only[iR,e]at hh ⊢;simp only[kY]at hl;split at hh
  ·rename_i id off he
   obtain⟨c1,c2⟩:=hc id (by simp only[GC,he])
   (try rw[he])
   (try dsimp only at hh ⊢)
   split at hh
   ·rename_i ty vs hid
    rw[c2,hid];exact hh
   ·rename_i j b0 hid
    rw[hid]at c1;cases c1
   ·exact hh.elim
  ·rename_i he
   simp only[he]at hl;cases hl
  ·rename_i he
   (try rw[he])
   exact hh
  ·exact hh.elim
 case build z ps=>
  simp only[iR]at hh ⊢;rw[WG (h:=h') (h':=h)];exact hh
 case call f args=>
  simp only[iR]at hh ⊢;rw[VE (h:=h') (h':=h)];exact hh
 case more o=>cases hl
 case look=>cases hl
 all_goals exact hh
theorem aH7{st:St}{op:oB}{x:AO}{mk:Nat→V}(h:sW st op=some (x,mk)):op.nw=true:=by
 cases op<;>simp only[sW]at h<;>first|rfl|cases h
theorem ST{st st':St}{op:oB}(h:dR st st' op.sls):GC st' op=GC st op:=by
 cases op<;>first|rfl|skip
 rename_i m x;simp only[GC];rw[cN h]
theorem RF{ai:AI}{o:Nat→Prop}(hat:UB P G ext ai F o)(hd:ai.op.hd=true)(hlb:kY F ai.op=true)(hnw:ai.op.nw=false){F2:St}(hck:∀id,GC F ai.op=some id→pB (bF .gone F.h id)=true∧bF .gone F2.h id=bF .gone F.h id)(htl:F2.t.length=F.t.length)
  (hs1:∀s∈ai.sls,bF (.c .top) F2.t s=bF (.c .top) F.t s) (hs2:∀s,ai.dst=some s→bF (.c .top) F2.t s=bF (.c .top) F.t s):UB P G ext ai F2 o:=by
 intro tM hag
 have hag1:dR F ⟨tM,F.h⟩ ai.sls:=fun s hs=>(hag s hs).trans (hs1 s hs)
 rcases hat tM hag1 with⟨hw,hd'⟩|⟨hw,v,hd',hk⟩|⟨hw,x,mk,id,hn,hd',hx,hid,ho⟩
 ·exact .inl ⟨hw,fun s h1 h2=>(hs2 s h1).trans (hd' s h1 (by omega))⟩
 ·refine .inr (.inl ⟨hw,v,fun s h1 h2=>(hs2 s h1).trans (hd' s h1 (by omega)),fun k' K' h=>?_⟩)
  refine SV hd hnw (DV (st:=F) (dR.right hag1) hlb) (fun id hid=>?_) (hk (fun v _=>k' v F2.h) K' h);rw[ST (st:=F) (dR.right hag1)]at hid;exact hck id hid
 ·rw[aH7 hn]at hnw;cases hnw
structure aER (al:List AI) (N n:Nat) (e:List Bool):Prop where
 lt:∀i,gE e i→i<N
 up:∀i,gE e i→∃j x y d,i<j∧j<N∧(j=n∨gE e j)∧al[i]?=some x∧al[j]?=some y∧x.dst=some d∧d∈y.sls
theorem TY(hok:sO ops al N)(inv:HeadInv .any ops N listed){n:Nat}{e:List Bool}(he:aER al N n e){mm:AI}(hmm:al[n]?=some mm)(hrd:∀s∈AI.sls mm,∀j aj,j<N→al[j]?=some aj→aj.dst=some s→listed.getD j false=true):∀(k i:Nat),N-i≤k→gE e i→listed.getD i false=true:=by
 intro k;induction k with
 |zero=>intro i h1 h2;have:=he.lt i h2;omega
 |succ k ih=>
  intro i h1 h2;obtain⟨j,x,y,d,h3,h4,h5,h6,h7,h8,h9⟩:=he.up i h2
  rcases h5 with rfl|h5
  ·rw[hmm]at h7;injection h7 with h7;subst h7
   exact hrd d h9 i x (by omega) h6 h8
  ·have hj:=ih j (by omega) h5
   obtain⟨o,ho,e',he',hb,hon⟩:=dU (hok.dep j i y x d h7 h6 h4 (by omega) h8 h9)
   have:=inv.closed j o ho hj e' he' hb
   rwa [hon]at this
theorem NN{s s':St}{g:Option (Nat×Bool)}(h:∀j b,g=some (j,b)→bF (.c .top) s'.t j=bF (.c .top) s.t j):lF s' g=lF s g:=by
 cases g with
 |none=>rfl
 |some p=>
  obtain⟨j,b⟩:=p;simp only[lF];rw[h j b rfl]
theorem aIG(hext:bH P G ext)(hok:sO ops al N)(hal:eE P ops ops.toList=some al){u e:List Bool}{n:Nat}(hn:n<N∧¬gE u n)(hul:∀j,gE u j→j<N){mm:AI}(hmm:al[n]?=some mm){f:FuncId}{args:List AX}(hma:mm.op=.call f args)(hmg:lF F mm.guard=some true){dM:Nat}(hmd:mm.dst=some dM)
  (hm1:∀i j x y d,gE u i→j<N→¬gE u j→al[i]?=some x→al[j]?=some y→y.dst=some d→d ∉ x.sls)
  (hz:IA F (lJ (vK u e) al)=true) {kk:St→Tr} {K:X→St→Prop} (h:(iR ext F (fun v h'=>kpT F h' (lJ (vK u e) al) (mZ (eI (fF F.h) (fF h')) (kk ⟨lU F.t mm.dst v,h'⟩))) mm.op).holds P G K) {Q:Exit→Act→World→Prop}
  {o:Oper} (ho:ops[n]?=some o) (hrdy:n∈eY .any ops listed) (I:IZ P G ops al N ext u F own β0 R0 w0 listed a w β R) (hch:∀i,gE e i→listed.getD i false=true)
  (hrd:∀s∈AI.sls mm,∀j aj,j<N→al[j]?=some aj→aj.dst=some s→listed.getD j false=true) {K2:Act→World→Prop}
  (hK:∀st' own' a' w' β' R',(kk st').holds P G K→IZ P G ops al N ext (pP u (mH n)) st' own' β0 R0 w0 (listed.setIfInBounds n true) a' w' β' R'→(∀i ai,gE (pP u (mH n)) i→al[i]?=some ai→(listed.setIfInBounds n true).getD i false=false→kY st' ai.op=true)→K2 a' w'):wpOp P ops Q n K2 a w:=by
 obtain⟨q1,o',q2,q3⟩:=mem_ready.1 hrdy;rw[ho]at q2;injection q2 with q2;subst q2
 have hns:n<ops.size:=(bL.1 ho).1
 have hun:=getD_both q1
 have hil:n<listed.size:=by rw[I.inv.size];exact hns
 obtain⟨ai,ha,hco⟩:=(jG hal).2 n o (by simpa using ho);rw[hmm]at ha;injection ha with ha;subst ha;simp only[pZ,aT,aK,bD,aH]at hco;obtain⟨aop,hop,g,hgd,rfl⟩:=hco;dsimp only at hma hmg hmd hz h;subst hma;obtain⟨tM,hsim,htM⟩:=I.dx.mask
 have hag0:∀s∈AI.sls ⟨o.dst,.call f args,g⟩,bF (.c .top) tM s=bF (.c .top) F.t s:=fun s hs=>htM s (fun j aj h1 h2 h3 h4=>by
  rw[hrd s hs j aj (hul j h1) h2 h4]at h3;cases h3)
 have hag:dR F ⟨tM,F.h⟩ (oB.call f args).sls:=fun s hs=>hag0 s (by simp[AI.sls,hs])
 unfold wpOp;simp only[ho]
 have hgw:lF ⟨tM,F.h⟩ g=some true:=by
  rw[NN (s:=F) (s':=⟨tM,F.h⟩) (fun j b hjb=>hag0 j (by subst hjb;simp[AI.sls]))];exact hmg
 have hw':=kF (o:=o) (ai:=⟨o.dst,.call f args,g⟩) hsim hgd (b:=true) hgw
 rw[hw'];simp only[if_true];simp only[iR]at h;obtain⟨v,h',hkk,hv⟩:=hext.val _ _ _ _ _ h;obtain⟨hkp,hkk⟩:=zQ hkk;obtain⟨hlen,hkk⟩:=bX hkk
 have hlen:=iE hlen
 rw[eH,eH]at hlen
 have h1:(iR ext ⟨tM,F.h⟩ (fun v' h''=>.rq (v'=v∧h''=h') (.done .normal ⟨[],[]⟩)) (.call f args)).holds P G fun _ _=>True:=by
  simp only[iR];rw[qL (st:=F) (st':=⟨tM,F.h⟩) hag];exact hv _ _ ⟨⟨rfl,rfl⟩,trivial⟩
 refine .inl ((nT hsim hop hext h1).wp ?_);rintro x' w' ⟨β',R',x,hh,⟨⟨rfl,rfl⟩,_⟩,r2,r3,r4,r5⟩;rw[hmd]at hkk
 have slot:∀s,s≠dM→bF (.c .top) (fA x F.t dM) s=bF (.c .top) F.t s:=fun s hs=>cO _ _ _ (fun e=>hs e.symm)
 have unl:∀i,gE (pP u (mH n)) i→(listed.setIfInBounds n true).getD i false=false→gE u i∧i≠n∧listed.getD i false=false:=fun i hi hl=>by
  obtain⟨h3,h4⟩:=lW hl hil
  have hne:i≠n:=by first|exact h4|exact fun e=>h4 e.symm
  exact⟨(gJ.1 hi).resolve_right (fun e=>hne (lB.1 e)),hne,h3⟩
 have late:∀i ai,gE u i→al[i]?=some ai→listed.getD i false=false→(kY F ai.op=true∧ai.op.nw=false)∧∀id,GC F ai.op=some id→pB (bF .gone F.h id)=true∧bF .gone hh id=bF .gone F.h id:=fun i ai hi hai hl=>by
  have hc:bF false (vK u e) i=true:=by
   rw[xV]
   have h1:bF false u i=true:=hi
   rw[h1];cases hq:bF false e i with
   |false=>rfl
   |true=>rw[hch i hq]at hl;cases hl
  exact⟨HZ hz (xI hc hai),VQ hkp (xI hc hai)⟩
 refine hK ⟨fA x F.t dM,hh⟩ (fun i=>if i=n then fun _=>False else own i) _ w' β' R' hkk ⟨I.inv.set hrdy hn.1,fun i hi hiu=>?_,⟨I.dx.gr.trans r4,r3,?_,?_,?_,?_⟩,?_,?_,?_⟩ ?_
 ·have h2:¬gE u i:=fun e=>hiu (gJ.2 (.inl e))
  have h3:i≠n:=fun e=>hiu (gJ.2 (.inr (lB.2 e)))
  rw[getD_set_ne false (fun e=>h3 e.symm)];exact I.un i hi h2
 ·cases o.dst<;>exact I.dx.df
 ·rw[hmd]
  show (a.tmps.setIfInBounds dM x').size=(fA x F.t dM).length
  rw[Array.size_setIfInBounds,eR,cB];exact I.dx.sz
 ·intro s u' hu hnd
  rw[hmd]at hu
  have hu:(a.tmps.setIfInBounds dM x')[s]?=some u':=hu
  by_cases e:dM=s
  ·subst e
   have hss:dM<a.tmps.size:=by
    rcases cS dM a.tmps.size with h|h
    ·exact h
    ·rw[Array.getElem?_eq_none (by simpa using h)]at hu;cases hu
   simp[hss]at hu;subst hu
   show VR β' R' w' (bF (.c .top) (fA x F.t dM) dM) x'
   rw[dV _ _ _ (by rw[←I.dx.sz];exact hss)];exact r2
  ·have hu':a.tmps[s]?=some u':=by rwa [Array.getElem?_setIfInBounds_ne e]at hu
   show VR β' R' w' (bF (.c .top) (fA x F.t dM) s) u'
   rw[slot s (fun h=>e h.symm)];exact VR.keep r4.keeps (I.dx.sl s u' hu' (fun j aj hj hja hjl=>hnd j aj (gJ.2 (.inl hj)) hja (by rw[getD_set_ne false (fun h=>hn.2 (by rw[h];exact hj))];exact hjl)))
 ·intro i hi hl id hid
  obtain⟨h2,h3,h4⟩:=unl i hi hl;rw[if_neg h3]at hid;rw[r5 id (I.ob i id h2 hid)];exact I.dx.fr i h2 h4 id hid
 ·intro i ai hi hai hl
  obtain⟨h2,h3,h4⟩:=unl i hi hl;rw[if_neg h3];obtain⟨q4,q5⟩:=I.opAt i ai h2 hai h4;obtain⟨⟨q6,q7⟩,q8⟩:=late i ai h2 hai h4;exact⟨RF q4 q5 q6 q7 q8 (by show (fA x F.t dM).length=_;rw[eR,cB]) (fun s hs=>slot s fun e=>hm1 i n ai _ dM h2 hn.1 hn.2 hai hmm hmd (e▸hs)) (fun s hs=>slot s fun e=>hok.dst i n ai _ s hai hmm (hul i h2) hn.1 h3 hs (by rw[hmd,e])),q5⟩
 ·intro i j id hi hj hne h1 h2
  by_cases ei:i=n
  ·rw[if_pos ei]at h1;exact h1
  by_cases ej:j=n
  ·rw[if_pos ej]at h2;exact h2
  rw[if_neg ei]at h1;rw[if_neg ej]at h2;exact I.od i j id ((gJ.1 hi).resolve_right (fun e=>ei (lB.1 e))) ((gJ.1 hj).resolve_right (fun e=>ej (lB.1 e))) hne h1 h2
 ·intro i id hi hid
  by_cases ei:i=n
  ·rw[if_pos ei]at hid;exact hid.elim
  rw[if_neg ei]at hid
  have:=I.ob i id ((gJ.1 hi).resolve_right (fun e=>ei (lB.1 e))) hid
  show id<hh.length
  omega
 ·intro i ai hi hai hl
  obtain⟨h2,h3,h4⟩:=unl i hi hl
  have q6:=(late i ai h2 hai h4).1.1
  refine DV (st:=F) (fun s hs=>?_) q6
  exact slot s fun e=>hm1 i n ai _ dM h2 hn.1 hn.2 hai hmm hmd (e▸(by simp[AI.sls,hs]))
def aMH:oB→Bool
 |.call .. => true
 |_=>false
noncomputable def aAT(ext:Ext)(al:List AI)(kT:St→Tr):List Bool→List (List Bool×List Bool×Nat)→List Bool→St→Tr
 |_,[],m,st=>iX (iW ext) (lJ m al) st kT
 |v,(m,e,n)::r,mE,st=>iX (iW ext) (lJ m al) st fun st1=>match GB al n with
  |some mm=>match lF st1 mm.guard with
   |some true=>mZ (aMH mm.op&&(isS mm.dst&&IA st1 (lJ (vK (pP v m) e) al))) (iR ext st1 (fun x h'=>kpT st1 h' (lJ (vK (pP v m) e) al) (mZ (eI (fF st1.h) (fF h')) (aAT ext al kT (pP (pP v m) (mH n)) r mE ⟨lU st1.t mm.dst x,h'⟩))) mm.op)
   |_=>.fail
  |none=>.fail
def CH(ops:Array Oper)(al:List AI)(N:Nat):List Bool→List (List Bool×List Bool×Nat)→List Bool→Prop
 |v,[],m=>vE ops al N v m∧∀i,i<N→gE (pP v m) i
 |v,(m,e,n)::r,mE=>vE ops al N v m∧AD ops al N (pP v m) n∧aER al N n e∧CH ops al N (pP (pP v m) (mH n)) r mE
theorem MC(hext:bH P G ext)(hok:sO ops al N)(hal:eE P ops ops.toList=some al){kT:St→Tr}{K:X→St→Prop}{Q:Exit→Act→World→Prop}
  (hT:∀st' a w β R,(kT st').holds P G K→hZ G β R st' a w→Gr β0 R0 w0 β R w→wpList P ops Q (ops.toList.drop N) a w) :
  ∀(r:List (List Bool×List Bool×Nat)) (v mE:List Bool) (st:St) (own:Nat→Nat→Prop) (listed:Array Bool) (a:Act) (w:World) (β:Bt) (R:Nat→Prop),CH ops al N v r mE→(aAT ext al kT v r mE st).holds P G K→IZ P G ops al N ext v st own β0 R0 w0 listed a w β R→(∀i ai,gE v i→al[i]?=some ai→listed.getD i false=false→kY st ai.op=true)→wpAny P .any ops Q (rJ listed N+(ops.size-N)) listed a w
 |[],v,mE,st,own,listed,a,w,β,R,hS,h,I,hl=>by
  obtain⟨hst,hall⟩:=hS
  obtain⟨S,h0,hk0,hstep⟩:=mK hext (lJ mE al) st (fun ai hai=>by
   obtain⟨q,hq⟩:=eU.1 hai;obtain⟨j,h1,h2,_⟩:=nP hq
   exact hst.hd j ai h1 h2) h
  have hr:CI P G ext (lJ mE al) (lJ mE al).length S:=⟨aW _,fun i ai _ ha=>hstep i ai ha⟩
  obtain⟨own',I'⟩:=uK hok hst h0 rfl hr I hl;exact aPC hext hok hal hall (fun j hj=>by rcases gJ.1 hj with h|h;exact hst.vlt j h;exact hst.mlt j h) (fun a w β R s1 s2=>hT _ a w β R hk0 s1 s2) _ listed a w β R rfl I'
 |(m,e,n)::r,v,mE,st,own,listed,a,w,β,R,hS,h,I,hl=>by
  obtain⟨hst,hn,he,hS⟩:=hS
  obtain⟨S,h0,hk0,hstep⟩:=mK hext (lJ m al) st (fun ai hai=>by
   obtain⟨q,hq⟩:=eU.1 hai;obtain⟨j,h1,h2,_⟩:=nP hq
   exact hst.hd j ai h1 h2) h
  have hr:CI P G ext (lJ m al) (lJ m al).length S:=⟨aW _,fun i ai _ ha=>hstep i ai ha⟩
  obtain⟨own',I'⟩:=uK hok hst h0 rfl hr I hl
  have hul:∀j,gE (pP v m) j→j<N:=fun j hj=>by rcases gJ.1 hj with h|h;exact hst.vlt j h;exact hst.mlt j h
  rw[pA]at hk0;split at hk0
  case h_2=>exact hk0.elim
  rename_i mm hmm;split at hk0
  case h_2=>exact hk0.elim
  rename_i hmg;obtain⟨c1,hk⟩:=bX hk0;simp only[aO]at c1;obtain⟨c1,c3,c4⟩:=c1
  obtain⟨f,args,hma⟩:∃f args,mm.op=.call f args:=by
   cases hq:mm.op<;>rw[hq]at c1<;>first|exact⟨_,_,rfl⟩|cases c1
  obtain⟨dM,hmd⟩:∃d,mm.dst=some d:=by
   cases hg:mm.dst with
   |some d=>exact⟨d,rfl⟩
   |none=>rw[hg]at c3;cases c3
  refine aJ2 hext hok hal hn hul ?_ _ listed a w β R rfl I';intro listed a w β R o ho hrdy I2 _ hrd
  rw[hmm]at hrd;refine aIG hext hok hal ⟨hn.nN,hn.nu⟩ hul hmm hma hmg hmd (fun i j x y d hi hj hnj=>hst.m1 i j x y d (gJ.1 hi) hj (fun e=>hnj (gJ.2 e))) c4 (kk:=fun st'=>aAT ext al kT (pP (pP v m) (mH n)) r mE st') hk ho hrdy I2 (fun i hi=>TY hok I2.inv he hmm hrd N i (by omega) hi) hrd ?_;intro st' own'' a' w' β' R' hk' I3 hl3
  have hns:n<ops.size:=(bL.1 ho).1
  obtain⟨q1,_⟩:=mem_ready.1 hrdy
  have hc:=oH (listed:=listed) (i:=n) (by rw[I2.inv.size];exact hns) (getD_both q1) hn.nN
  rw[show rJ listed N-1=rJ (listed.setIfInBounds n true) N by omega];exact MC hext hok hal hT r _ mE st' own'' _ a' w' β' R' hS hk' I3 hl3
theorem QV(hext:bH P G ext){id:Nat}(hm:P.follows .mixedOrders=true)(hal:eE P ops ops.toList=some al)(hok:sO ops al N){r:List (List Bool×List Bool×Nat)}{m:List Bool}(hS:CH ops al N [] r m){st:St}{kT:St→Tr}{K:X→St→Prop}
  (h:(aAT ext al kT [] r m st).holds P G K) {Q:Exit→Act→World→Prop} {a:Act} {w:World} (hs:hZ G β R st a w)
  (hT:∀st' a' w' β' R',(kT st').holds P G K→hZ G β' R' st' a' w'→Gr β R w β' R' w'→wpList P ops Q (ops.toList.drop N) a' w'):(Code.region id ops true).wp P Q a w:=by
 refine wp_region_any hm ?_;obtain⟨hs',hg⟩:=hs.drawn (w.drawn+1)
 have no:∀i,¬gE [] i:=fun i h=>by cases i<;>cases h
 have key:=MC (β0:=β) (R0:=R) (w0:=w) (Q:=Q) hext hok hal hT r [] m st (fun _ _=>False) (jB ops.size false) a { w with drawn:=w.drawn+1 } β R hS h ⟨⟨by simp,fun j oj _ hl=>(by rw[getD_replicate_false]at hl;cases hl),fun t _ ht=>getD_in (by simpa using ht) (getD_replicate_false _ _)⟩,fun i _ _=>getD_replicate_false _ _,⟨hg,hs'.hs,hs.df,by have:=hs'.tm.length;simpa using this.symm,fun s u hu _=>?_,fun i hi=>absurd hi (no i)⟩,fun i ai hi=>absurd hi (no i),fun i j id hi=>absurd hi (no i),fun i id hi=>absurd hi (no i)⟩ (fun i ai hi=>absurd hi (no i))
 ·rwa [uY hok.le,show N+(ops.size-N)=ops.size by have:=hok.le;omega]at key
 ·have hv:=bR (x:=.tmp s) hs' rfl
  have e:a.eval (.tmp s)=u:=by show a.tmps.getD s undef=u;simp[hu]
  rw[e]at hv;exact hv
def aPD(al:List AI)(N:Nat):Bool:=nA N fun j=>nA (j+1) fun i => !EH (zX al j) (DD al i)
theorem XI{n:Nat}(h:DM ops.toList al n=true)(hN:n≤al.length)(hd:aPD al n=true)(hl:al.length=ops.size):sO ops al n:=by
 have hr:=MF h
 have hb:=hr.toRegB
 refine⟨hb.back,fun i j x y d h1 h2 h3 h4=>hb.dst i j x y d h1 h2 h3 h4,fun i j x y d h1 h2 h3 h4 h5 h6=>?_,fun i h1 h2=>?_,fun t h1 h2=>?_,hl,by omega⟩
 ·rcases hb.dep i j x y d h1 h2 h3 h4 h5 h6 with h7|h7
  ·exact h7
  ·obtain⟨o,ho,e,he,hbi,hon⟩:=dU h7
   have hlt:=hb.back j o ho e he hbi
   rw[hon]at hlt
   have:=kE (kE hd j h4) i (by omega)
   rw[yO h2,JL h1,h5,xW.2 h6]at this;cases this
 ·rcases hr.tl with h3|⟨h3,_⟩
  ·omega
  ·unfold Region.sinkB at h3
   rw[fL]at h3
   have:=h3 i (List.mem_range.2 h1)
   rw[List.any_eq_true]at this;obtain⟨j,hj,hq⟩:=this
   have hj:=List.mem_range.1 hj
   simp only[aO,decide_eq_true_eq]at hq;exact⟨j,hq.1,by omega,hq.2⟩
 ·rcases hr.tl with h3|⟨_,h3⟩
  ·omega
  ·have:=fL.1 h3 t (List.mem_range.2 h2)
   simp only[cC,decide_eq_true_eq]at this
   rcases this with h|h
   ·omega
   ·exact h
def aCB(al:List AI)(N:Nat)(u:List Bool)(n:Nat):Bool:=
 Nat.blt n N&&(!(bF false u n)&&nA N (fun i=>bF false u i||(cA i n || !nA i (fun j=>bF false u j || !EH (zX al j) (DD al i)))))
theorem HO{d:Option Nat}{l:List Nat}(h:EH d l=true):∃a,d=some a∧a∈l:=by
 cases d with
 |none=>cases h
 |some a=>exact⟨a,rfl,xW.1 h⟩
theorem aDV{al:List AI}{j d:Nat}(h:zX al j=some d):∃x,al[j]?=some x∧x.dst=some d:=by
 unfold zX at h;rw[pA]at h;cases hx:al[j]? with
 |none=>rw[hx]at h;cases h
 |some x=>rw[hx]at h;exact⟨x,rfl,h⟩
theorem aAN{al:List AI}{i d:Nat}(h:d∈DD al i):∃x,al[i]?=some x∧d∈x.sls:=by
 unfold DD at h;rw[pA]at h;cases hx:al[i]? with
 |none=>rw[hx]at h;cases h
 |some x=>rw[hx]at h;exact⟨x,rfl,h⟩
theorem aCA(hok:sO ops al N){u:List Bool}{n:Nat}(h:aCB al N u n=true):AD ops al N u n:=by
 unfold aCB at h;simp only[aO]at h;obtain⟨h1,h2,h3⟩:=h;refine⟨by simpa using h1,fun e=>(by rw[show bF false u n=true from e]at h2;cases h2),fun i hi hu hne=>?_⟩
 have:=kE h3 i hi
 have e1:cA i n=false:=by
  cases hq:cA i n with
  |false=>rfl
  |true=>exact absurd (aR hq) hne
 rw[show bF false u i=false by simpa[gE] using hu,e1]at this;simp only[Bool.false_or,eP]at this;obtain⟨j,h4,h5⟩:=yS this;simp only[Bool.or_eq_false_iff,gA]at h5;obtain⟨d,h6,h7⟩:=HO h5.2;obtain⟨y,h8,h9⟩:=aDV h6;obtain⟨x,h10,h11⟩:=aAN h7;exact⟨j,h4,fun e=>(by rw[show bF false u j=true from e]at h5;cases h5.1),hok.dep i j x y d h10 h8 hi (by omega) h9 h11⟩
def aN1(al:List AI)(N n:Nat)(e:List Bool):Bool:=eI (fF e) N&&(Nat.blt n N&&nA N fun i => !bF false e i || !nA N fun j => !(Nat.blt i j&&((cA j n||bF false e j)&&EH (zX al i) (DD al j))))
theorem aIH{n:Nat}{e:List Bool}(h:aN1 al N n e=true):aER al N n e:=by
 unfold aN1 at h;simp only[aO]at h;obtain⟨h1,h2,h3⟩:=h
 have h1:=iE h1
 have lt:∀i,gE e i→i<N:=fun i hi=>by have:=KQ hi;omega
 refine⟨lt,fun i hi=>?_⟩
 have:=kE h3 i (lt i hi)
 rw[show bF false e i=true from hi]at this;simp only[Bool.not_true,Bool.false_or,eP]at this;obtain⟨j,h4,h5⟩:=yS this;simp only[gA,aO,cC]at h5;obtain⟨h5,h6,h7⟩:=h5;obtain⟨d,h8,h9⟩:=HO h7;obtain⟨x,h10,h11⟩:=aDV h8;obtain⟨y,h12,h13⟩:=aAN h9;refine⟨j,x,y,d,by simpa using h5,h4,?_,h10,h12,h11,h13⟩
 rcases h6 with h6|h6
 ·exact .inl (aR h6)
 ·exact .inr h6
def xE(al:List AI)(N:Nat):List Bool→List (List Bool×List Bool×Nat)→List Bool→Bool
 |v,[],m=>yZ al N v m&&nA N (bF false (pP v m))
 |v,(m,e,n)::r,mE=>yZ al N v m&&(aCB al N (pP v m) n&&(aN1 al N n e&&xE al N (pP (pP v m) (mH n)) r mE))
theorem DA(hok:sO ops al N):∀ {r:List (List Bool×List Bool×Nat)} {v mE:List Bool},xE al N v r mE=true→CH ops al N v r mE
 |[],v,mE,h=>by
  simp only[xE,aO]at h;exact⟨xG h.1,fun i hi=>kE h.2 i hi⟩
 |(m,e,n)::r,v,mE,h=>by
  simp only[xE,aO]at h;exact⟨xG h.1,aCA hok h.2.1,aIH h.2.2.1,DA hok h.2.2.2⟩
def aDW(n:Nat):Nat→List Nat→List AI→List Bool
 |_,_,[]=>[]
 |i,ws,x::r=>match cA i n||zZ (fun s=>oL s ws) x.sls with
  |true=>true::aDW n (i+1) (match x.dst with
   |some d=>d::ws
   |none=>ws) r
  |false=>false::aDW n (i+1) ws r
def aT0(b:Bool)(x:AI):List Bool×List Nat→List Bool×List Nat
 |(bs,ns)=>match b with
  |true=>(false::bs,x.sls)
  |false=>match EH x.dst ns with
   |true=>(true::bs,x.sls++ns)
   |false=>(false::bs,ns)
def aPI(n:Nat):Nat→List AI→List Bool×List Nat
 |_,[]=>([],[])
 |i,x::r=>aT0 (cA i n) x (aPI n (i+1) r)
def JD{α:Type}:List α→List α→List α
 |[],m=>m
 |x::r,m=>x::JD r m
theorem PW{α:Type}:∀l m:List α,JD l m=l++m
 |[],_=>rfl
 |x::r,m=>by simp[JD,PW r m]
def II:List Bool→List Bool→List Bool
 |_,[]=>[]
 |[],y::s=>(!y)::II [] s
 |x::r,y::s=>(!x && !y)::II r s
def aKX(al:List AI):List Bool→List Nat→List (List Bool×List Bool×Nat)
 |_,[]=>[]
 |v,n::r=>(II v (aDW n 0 [] al),(aPI n 0 al).1,n)::aKX al (pP (pP v (II v (aDW n 0 [] al))) (mH n)) r
def aMW(al:List AI):List Bool→List Nat→List Bool
 |v,[]=>II v (al.map fun _=>false)
 |v,n::r=>aMW al (pP (pP v (II v (aDW n 0 [] al))) (mH n)) r
noncomputable def aF8(ext:Ext)(hd tl:List AI)(ns:List Nat)(st:St):Tr:=aAT ext (JD hd tl) (fun s=>iX ext tl s fun s'=>.done .normal s') [] (aKX hd [] ns) (aMW hd [] ns) st
def aB1(hd tl:List AI)(ns:List Nat):Bool:=aPD (JD hd tl) (fF hd)&&xE (JD hd tl) (fF hd) [] (aKX hd [] ns) (aMW hd [] ns)
theorem aAZ{hd tl:List AI}{st:St}{K1:X→St→Prop}(hK:∀id ops,P.follows .mixedOrders=true→eE P ops ops.toList=some (hd++tl)→DM ops.toList (hd++tl) hd.length=true→Ex P G (.region id ops true) st K1):∀c:Code,eG P c=some (.regd hd tl)→Ex P G c st K1:=by
 intro c;induction c with
 |region id ops draw=>
  intro h;simp only[eG]at h;split at h
  case h_2=>cases h
  rename_i ac' hc;injection h with h;subst h;cases draw with
  |false=>
   simp only[BS,bC]at hc;obtain⟨x,_,hc⟩:=hc;cases hc
  |true=>
   simp only[BS]at hc;split at hc
   ·rename_i hm
    simp only[aT,aK,bD,aH]at hc;obtain⟨al',h1,hc⟩:=hc;split at hc
    ·rename_i n h2
     injection hc with hc;injection hc with hc1 hc2;obtain⟨h3,h4⟩:=FE h2;rw[eH]at h4;rw[uD]at hc2;rw[tD]at hc1
     have e1:hd++tl=al':=by rw[←hc1,←hc2];exact gS n al'
     have e2:hd.length=n:=by rw[←hc1,cU];omega
     exact hK id ops hm (by rw[e1];exact h1) (by rw[e1,e2];exact h3)
    ·repeat' (first|(cases hc;done)|(injection hc with hc;cases hc;done)|split at hc)
   ·cases hc
 |scope c ih=>
  intro h;exact yN (ih (by simpa[eG] using h))
 |_=>
  intro h;exfalso;simp[eG,aK,bC]at h
theorem jY.regdC{ext:Ext}(hext:bH P G ext){hd tl:List AI}{ns:List Nat}(hB:aB1 hd tl ns=true){st:St}{K1:X→St→Prop}(hh:(aF8 ext hd tl ns st).holds P G K1):jY P G (.regd hd tl) st K1:=by
 refine aAZ fun id ops hm hal hro=>?_
 unfold aB1 at hB;unfold aF8 at hh;rw[PW]at hB hh;rw[aO,eH]at hB
 have hl:(hd++tl).length=ops.size:=by simpa using (jG hal).1
 have hok:=XI hro (by simp) hB.1 hl
 intro β R a w hs;refine QV hext hm hal hok (DA hok hB.2) hh hs ?_;intro st' a' w' β' R' hk hs' hg
 have hdr:=oQ hd.length hal
 rw[List.drop_left]at hdr;exact kI hext (ops.toList.drop hd.length) tl st' a' w' β' R' hdr hk hs' (fun a2 w2 β2 R2 st2 q1 q2 q3=>⟨β2,R2,st2,q1,q2,(hg.trans q3).toFr,(hg.trans q3).rm⟩)
theorem eJ.regdC{rs:List AR}{v:V}{ext:Ext}(hext:bH P G ext){hd tl:List AI}{ns:List Nat}(hB:aB1 hd tl ns=true){l r':List dG}{st:St}{Q:X→St→Prop}(hl:l=.regd hd tl::r'){tree:Tr}
  (ht:aF8 ext hd tl ns st=tree) (h:tree.holds P G fun e s=>e=.normal∧eJ P G rs v r' s Q):eJ P G rs v l st Q:=by
 subst hl;subst ht;refine jY.mono (jY.regdC hext hB h) ?_;rintro e s ⟨rfl,h⟩;exact h
def aOL:dG→List AI
 |.regd al _=>al
 |_=>[]
def aOK:dG→List AI
 |.regd _ tl=>tl
 |_=>[]
end
end Go.AE
