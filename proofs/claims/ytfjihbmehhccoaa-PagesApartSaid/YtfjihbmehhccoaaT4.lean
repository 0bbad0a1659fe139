/- Pages: P35, P36, Ae43, P37, P38, P39, P40, P41, P42, Ae44, as far as they are used here. -/
import Derived.Test.YtfjihbmehhccoaaT3
namespace Go.AE
set_option linter.unusedVariables false
set_option linter.unusedSimpArgs false
open Go.Proofs Go.Proofs.Ytfjihbmehhccoaa Gp Go.RowKit
def mGGood:Mod
 | [x] => match pgOf x with
   | some (p,a) => some (p,bV (pgOK a))
   | none => none
 | _ => none
def stZ (M:List Pg) (p:Pg):Int:=match M.reverse.find? fun q => sameM q p with
 | some q => q.kd
 | none => -1
def mStX (M:List Pg):Mod
 | [x,y] => match leL x M,pgOf y with
   | some p,some (q,a) => some ((p∧q)∧M.length≤1000000∧a.L.length≤1000000,iV (stZ M a))
   | _,_ => none
 | _ => none
def extGd:Ext:=extOf [(79,mName),(80,mRLValid),(51,mTick)]
def extFR (M:List Pg):Ext:=extOf [(50,mGGood),(56,mStX M),(54,mAddX M)]
def extPd (M:List Pg):Ext:=extOf [(55,mGSame),(56,mStX M)]
def extSet:Ext:=extOf [(52,mSet)]
def extPi:Ext:=extOf [(21,mPick)]
theorem tGTick (a:Int):exT ext0 (codeOf Try.prog Try.f51) (st0 Try.f51 [iV a]) (endF [] [] (resOf Try.prog Try.f51))=bT (decide (0≤a)) (.done .ret (St.mk [V.c (C.p (PV.b (decide (a≤1048576))))] [])) (.done .ret (St.mk [V.c (C.p (PV.b false))] [])):=by kernel_rfl
theorem tGood (p:Pg):exTs extGd (pcs Try.prog Try.f50) (st0 Try.f50 [.a [.p (.i .i64 p.kd),.p (.s p.ru),.p (.i .i64 p.ve),.p (listP enc2 2 p.L),.p (.i .i64 p.st),.p (.i .i64 p.se),.p (.s p.to)]]) (endF [] [] (resOf Try.prog Try.f50))=Tr.rq True
 (.rq (IsL enc2 2 (decL dec2 p.L.length (rowP enc2 p.L)) p.L.length (rowP enc2 p.L))
 (.rq True
 (.rq True
 (bT (nameB p.ru)
 (bT (validL (fun k => (decL dec2 p.L.length (rowP enc2 p.L)).getD k default) p.L.length)
 (bT (tickZ p.st)
 (bT (tickZ p.se) (bT (decide (1≤p.ve)) (.done .ret (St.mk [V.c (C.p (PV.b (decide ((↑p.to.size:Int)≤16))))] [])) (.done .ret (St.mk [V.c (C.p (PV.b false))] [])))
 (.done .ret (St.mk [V.c (C.p (PV.b false))] [])))
 (.done .ret (St.mk [V.c (C.p (PV.b false))] [])))
 (.done .ret (St.mk [V.c (C.p (PV.b false))] [])))
 (.done .ret (St.mk [V.c (C.p (PV.b false))] [])))))):=by kernel_rfl
theorem tSta1 (M:List Pg) (p:Pg):exTs ext0 (takeL 2 (pcs Try.prog Try.f56)) (st0 Try.f56 [.a [.p (listP encPg 7 M)],.a [.p (.i .i64 p.kd),.p (.s p.ru),.p (.i .i64 p.ve),.p (listP enc2 2 p.L),.p (.i .i64 p.st),.p (.i .i64 p.se),.p (.s p.to)]]) (endG (msk 29 [2,3,5]) (resOf Try.prog Try.f56))=Tr.rq (inR IntKind.i64 ((↑M.length:Int) - 1))
 (.done .normal
 (cst 29 [(2,.c (.ptr 0 0)),(3,.c (.ptr 1 0)),(5,.c (.p (.i .i64 ((↑M.length:Int) - 1))))] [.cells 27 [.p (.l 7 M.length (rowP encPg M))],.cells 31 [.p (.i .i64 p.kd),.p (.s p.ru),.p (.i .i64 p.ve),.p (.l 2 p.L.length (rowP enc2 p.L)),.p (.i .i64 p.st),.p (.i .i64 p.se),.p (.s p.to)]])):=by kernel_rfl
theorem tSta2 (M:List Pg) (p:Pg) (i:Nat):exTs extSmG (lpB (pcs Try.prog Try.f56) 2) (cst 29 [(2,.c (.ptr 0 0)),(3,.c (.ptr 1 0)),(5,iV ((i:Int) - 1))] [.cells 27 [.p (listP encPg 7 M)],.cells 31 [.p (.i .i64 p.kd),.p (.s p.ru),.p (.i .i64 p.ve),.p (listP enc2 2 p.L),.p (.i .i64 p.st),.p (.i .i64 p.se),.p (.s p.to)]]) (endG (msk 29 [2,3,5]) (resOf Try.prog Try.f56))=bT (decide (0≤(↑i:Int) - 1))
 (.rq (0≤(↑i:Int) - 1∧(↑i:Int) - 1<(↑M.length:Int))
 (.rq
 ((IsL enc2 2 (decL dec2 (M.getD ((↑i:Int) - 1).toNat default).L.length (rowP enc2 (M.getD ((↑i:Int) - 1).toNat default).L)) (M.getD ((↑i:Int) - 1).toNat default).L.length
 (rowP enc2 (M.getD ((↑i:Int) - 1).toNat default).L) ∧
 IsL enc2 2 (decL dec2 p.L.length (rowP enc2 p.L)) p.L.length (rowP enc2 p.L)) ∧
 ((Pg.mk (M.getD ((↑i:Int) - 1).toNat default).kd (M.getD ((↑i:Int) - 1).toNat default).ru (M.getD ((↑i:Int) - 1).toNat default).ve
 (decL dec2 (M.getD ((↑i:Int) - 1).toNat default).L.length (rowP enc2 (M.getD ((↑i:Int) - 1).toNat default).L)) (M.getD ((↑i:Int) - 1).toNat default).st
 (M.getD ((↑i:Int) - 1).toNat default).se (M.getD ((↑i:Int) - 1).toNat default).to).L.length ≤
 1000000 ∨
 (Pg.mk p.kd p.ru p.ve (decL dec2 p.L.length (rowP enc2 p.L)) p.st p.se p.to).L.length≤1000000))
 (bT
 (sameM
 (Pg.mk (M.getD ((↑i:Int) - 1).toNat default).kd (M.getD ((↑i:Int) - 1).toNat default).ru (M.getD ((↑i:Int) - 1).toNat default).ve
 (decL dec2 (M.getD ((↑i:Int) - 1).toNat default).L.length (rowP enc2 (M.getD ((↑i:Int) - 1).toNat default).L)) (M.getD ((↑i:Int) - 1).toNat default).st
 (M.getD ((↑i:Int) - 1).toNat default).se (M.getD ((↑i:Int) - 1).toNat default).to)
 (Pg.mk p.kd p.ru p.ve (decL dec2 p.L.length (rowP enc2 p.L)) p.st p.se p.to))
 (.rq (0≤(↑i:Int) - 1∧(↑i:Int) - 1<(↑M.length:Int)) (.done .ret (St.mk [V.c (C.p (PV.i IntKind.i64 (M.getD ((↑i:Int) - 1).toNat default).kd))] [])))
 (.rq (inR IntKind.i64 ((↑i:Int) - 1 - 1))
 (.done .normal
 (cst 29 [(2,.c (.ptr 0 0)),(3,.c (.ptr 1 0)),(5,.c (.p (.i .i64 ((↑i:Int) - 1 - 1))))] [.cells 27 [.p (.l 7 M.length (rowP encPg M))],.cells 31 [.p (.i .i64 p.kd),.p (.s p.ru),.p (.i .i64 p.ve),.p (.l 2 p.L.length (rowP enc2 p.L)),.p (.i .i64 p.st),.p (.i .i64 p.se),.p (.s p.to)]]))))))
 (.done (.exit 0)
 (cst 29 [(2,.c (.ptr 0 0)),(3,.c (.ptr 1 0)),(5,.c (.p (.i .i64 ((↑i:Int) - 1))))] [.cells 27 [.p (.l 7 M.length (rowP encPg M))],.cells 31 [.p (.i .i64 p.kd),.p (.s p.ru),.p (.i .i64 p.ve),.p (.l 2 p.L.length (rowP enc2 p.L)),.p (.i .i64 p.st),.p (.i .i64 p.se),.p (.s p.to)]])):=by kernel_rfl
theorem tSta3 (M:List Pg) (p:Pg) (i:Nat):exTs ext0 (dropL 3 (pcs Try.prog Try.f56)) (cst 29 [(2,.c (.ptr 0 0)),(3,.c (.ptr 1 0)),(5,iV ((i:Int) - 1))] [.cells 27 [.p (listP encPg 7 M)],.cells 31 [.p (.i .i64 p.kd),.p (.s p.ru),.p (.i .i64 p.ve),.p (listP enc2 2 p.L),.p (.i .i64 p.st),.p (.i .i64 p.se),.p (.s p.to)]]) (endG [] (resOf Try.prog Try.f56))=Tr.done X.ret (St.mk [V.c (C.p (PV.i IntKind.i64 (-1)))] []):=by kernel_rfl
theorem tFi (M:List Pg) (p:Pg):exTs (extFR M) (pcs Try.prog Try.f24) (st0 Try.f24 [.a [.p (listP encPg 7 M)],.a [.p (.i .i64 p.kd),.p (.s p.ru),.p (.i .i64 p.ve),.p (listP enc2 2 p.L),.p (.i .i64 p.st),.p (.i .i64 p.se),.p (.s p.to)]]) (endG [] (resOf Try.prog Try.f24))=Tr.rq (IsL enc2 2 (decL dec2 p.L.length (rowP enc2 p.L)) p.L.length (rowP enc2 p.L))
 (bT (!pgOK (Pg.mk p.kd p.ru p.ve (decL dec2 p.L.length (rowP enc2 p.L)) p.st p.se p.to))
 (.done .ret (St.mk [V.t [V1.a [C.p (PV.l 7 M.length (rowP encPg M))],V1.c (C.p (PV.i IntKind.i64 1))]] []))
 (bT (p.kd != 0) (.done .ret (St.mk [V.t [V1.a [C.p (PV.l 7 M.length (rowP encPg M))],V1.c (C.p (PV.i IntKind.i64 1))]] []))
 (.rq
 (((M.length=M.length∧∀ (e o:Nat),e<M.length→o<7→PLe (rowP encPg M e o) (rowP encPg M e o))∧IsL enc2 2 (decL dec2 p.L.length (rowP enc2 p.L)) p.L.length (rowP enc2 p.L)) ∧
 M.length≤1000000∧(Pg.mk p.kd p.ru p.ve (decL dec2 p.L.length (rowP enc2 p.L)) p.st p.se p.to).L.length≤1000000)
 (bT (stZ M (Pg.mk p.kd p.ru p.ve (decL dec2 p.L.length (rowP enc2 p.L)) p.st p.se p.to) == 0)
 (.done .ret (St.mk [V.t [V1.a [C.p (PV.l 7 M.length (rowP encPg M))],V1.c (C.p (PV.i IntKind.i64 10))]] []))
 (bT (stZ M (Pg.mk p.kd p.ru p.ve (decL dec2 p.L.length (rowP enc2 p.L)) p.st p.se p.to) == 2)
 (.done .ret (St.mk [V.t [V1.a [C.p (PV.l 7 M.length (rowP encPg M))],V1.c (C.p (PV.i IntKind.i64 10))]] []))
 (bT (stZ M (Pg.mk p.kd p.ru p.ve (decL dec2 p.L.length (rowP enc2 p.L)) p.st p.se p.to) == 1)
 (.done .ret (St.mk [V.t [V1.a [C.p (PV.l 7 M.length (rowP encPg M))],V1.c (C.p (PV.i IntKind.i64 20))]] []))
 (.rq
 (((M.length=M.length∧∀ (e o:Nat),e<M.length→o<7→PLe (rowP encPg M e o) (rowP encPg M e o)) ∧
 IsL enc2 2 (decL dec2 p.L.length (rowP enc2 p.L)) p.L.length (rowP enc2 p.L)) ∧
 M.length≤1000000)
 (.done .ret
 (St.mk [V.t [V1.a [C.p (PV.l 7 (M ++ [Pg.mk p.kd p.ru p.ve (decL dec2 p.L.length (rowP enc2 p.L)) p.st p.se p.to]).length (rowP encPg (M ++ [Pg.mk p.kd p.ru p.ve (decL dec2 p.L.length (rowP enc2 p.L)) p.st p.se p.to])))],V1.c (C.p (PV.i IntKind.i64 0))]] []))))))))):=by kernel_rfl
theorem tPd1 (M:List Pg) (p:Pg):exTs ext0 (takeL 3 (pcs Try.prog Try.f28)) (st0 Try.f28 [.a [.p (listP encPg 7 M)],.a [.p (.i .i64 p.kd),.p (.s p.ru),.p (.i .i64 p.ve),.p (listP enc2 2 p.L),.p (.i .i64 p.st),.p (.i .i64 p.se),.p (.s p.to)]]) (endG (msk 45 [2,3,5,6]) (resOf Try.prog Try.f28))=Tr.done X.normal
 (cst 45 [(2,.c (.ptr 0 0)),(3,.c (.ptr 1 0)),(5,.c (.p (.z (Value.slice none 0 0)))),(6,.c (.p (.i .i64 0)))] [.cells 27 [.p (.l 7 M.length (rowP encPg M))],.cells 31 [.p (.i .i64 p.kd),.p (.s p.ru),.p (.i .i64 p.ve),.p (.l 2 p.L.length (rowP enc2 p.L)),.p (.i .i64 p.st),.p (.i .i64 p.se),.p (.s p.to)]]):=by kernel_rfl
theorem tPd2 (M:List Pg) (p:Pg) (out:List Int) (k i:Nat):exTs (extPd M) (lpB (pcs Try.prog Try.f28) 3) (cst 45 [(2,.c (.ptr 0 0)),(3,.c (.ptr 1 0)),(5,.c (.sl 2 1 0 k)),(6,iV (i:Nat))] [.cells 27 [.p (listP encPg 7 M)],.cells 31 [.p (.i .i64 p.kd),.p (.s p.ru),.p (.i .i64 p.ve),.p (listP enc2 2 p.L),.p (.i .i64 p.st),.p (.i .i64 p.se),.p (.s p.to)],.row 3 1 k (rowC encI out)]) (endG (msk 45 [2,3,5,6]) (resOf Try.prog Try.f28))=bT (decide ((↑i:Int)<(↑M.length:Int)))
 (.rq (0≤(↑i:Int)∧(↑i:Int)<(↑M.length:Int))
 (.rq (0≤(↑i:Int)∧(↑i:Int)<(↑M.length:Int))
 (.rq
 ((IsL enc2 2 (decL dec2 (M.getD (↑i:Int).toNat default).L.length (rowP enc2 (M.getD (↑i:Int).toNat default).L)) (M.getD (↑i:Int).toNat default).L.length
 (rowP enc2 (M.getD (↑i:Int).toNat default).L) ∧
 IsL enc2 2 (decL dec2 p.L.length (rowP enc2 p.L)) p.L.length (rowP enc2 p.L)) ∧
 ((Pg.mk (M.getD (↑i:Int).toNat default).kd (M.getD (↑i:Int).toNat default).ru (M.getD (↑i:Int).toNat default).ve
 (decL dec2 (M.getD (↑i:Int).toNat default).L.length (rowP enc2 (M.getD (↑i:Int).toNat default).L)) (M.getD (↑i:Int).toNat default).st (M.getD (↑i:Int).toNat default).se
 (M.getD (↑i:Int).toNat default).to).L.length ≤
 1000000 ∨
 (Pg.mk p.kd p.ru p.ve (decL dec2 p.L.length (rowP enc2 p.L)) (M.getD (↑i:Int).toNat default).st p.se p.to).L.length≤1000000))
 (.rq
 (((M.length=M.length∧∀ (e o:Nat),e<M.length→o<7→PLe (rowP encPg M e o) (rowP encPg M e o))∧IsL enc2 2 (decL dec2 p.L.length (rowP enc2 p.L)) p.L.length (rowP enc2 p.L)) ∧
 M.length≤1000000∧(Pg.mk p.kd p.ru p.ve (decL dec2 p.L.length (rowP enc2 p.L)) (M.getD (↑i:Int).toNat default).st p.se p.to).L.length≤1000000)
 (bT
 (sameM
 (Pg.mk (M.getD (↑i:Int).toNat default).kd (M.getD (↑i:Int).toNat default).ru (M.getD (↑i:Int).toNat default).ve
 (decL dec2 (M.getD (↑i:Int).toNat default).L.length (rowP enc2 (M.getD (↑i:Int).toNat default).L)) (M.getD (↑i:Int).toNat default).st (M.getD (↑i:Int).toNat default).se
 (M.getD (↑i:Int).toNat default).to)
 (Pg.mk p.kd p.ru p.ve (decL dec2 p.L.length (rowP enc2 p.L)) (M.getD (↑i:Int).toNat default).st p.se p.to))
 (bT (stZ M (Pg.mk p.kd p.ru p.ve (decL dec2 p.L.length (rowP enc2 p.L)) (M.getD (↑i:Int).toNat default).st p.se p.to) != 1)
 (.rq (k=k)
 (.rq (1≤1)
 (.rq
 ((k+1) * 8≤140737488355328 ∧
 k+1≤140737488355328∧∀ (e o:Nat),e<1→o<1→oneC (bslF [C.p (PV.i IntKind.i64 (M.getD (↑i:Int).toNat default).st)] 1 1 (e+0) o)=true)
 (.rq (inR IntKind.i64 ((↑i:Int)+1))
 (.done .normal
 (cst 45 [(2,.c (.ptr 0 0)),(3,.c (.ptr 1 0)),(5,.c (.sl 2 1 0 (k+1))),(6,.c (.p (.i .i64 ((↑i:Int)+1))))] [.cells 27 [.p (.l 7 M.length (rowP encPg M))],.cells 31 [.p (.i .i64 p.kd),.p (.s p.ru),.p (.i .i64 p.ve),.p (.l 2 p.L.length (rowP enc2 p.L)),.p (.i .i64 (M.getD (↑i:Int).toNat default).st),.p (.i .i64 p.se),.p (.s p.to)],.row 3 1 (k+1) fun e o => renC [0,1,4] (appF k (rowC encI out) (fun e o => nth C.top [C.p (PV.i IntKind.i64 (M.getD (↑i:Int).toNat default).st)] ((e+0) * 1+o)) e o)]))))))
 (.rq (inR IntKind.i64 ((↑i:Int)+1))
 (.done .normal
 (cst 45 [(2,.c (.ptr 0 0)),(3,.c (.ptr 1 0)),(5,.c (.sl 2 1 0 k)),(6,.c (.p (.i .i64 ((↑i:Int)+1))))] [.cells 27 [.p (.l 7 M.length (rowP encPg M))],.cells 31 [.p (.i .i64 p.kd),.p (.s p.ru),.p (.i .i64 p.ve),.p (.l 2 p.L.length (rowP enc2 p.L)),.p (.i .i64 (M.getD (↑i:Int).toNat default).st),.p (.i .i64 p.se),.p (.s p.to)],.row 3 1 k fun e o => renC [0,1,2] (rowC encI out e o)]))))
 (.rq (inR IntKind.i64 ((↑i:Int)+1))
 (.done .normal
 (cst 45 [(2,.c (.ptr 0 0)),(3,.c (.ptr 1 0)),(5,.c (.sl 2 1 0 k)),(6,.c (.p (.i .i64 ((↑i:Int)+1))))] [.cells 27 [.p (.l 7 M.length (rowP encPg M))],.cells 31 [.p (.i .i64 p.kd),.p (.s p.ru),.p (.i .i64 p.ve),.p (.l 2 p.L.length (rowP enc2 p.L)),.p (.i .i64 (M.getD (↑i:Int).toNat default).st),.p (.i .i64 p.se),.p (.s p.to)],.row 3 1 k fun e o => renC [0,1,2] (rowC encI out e o)]))))))))
 (.done (.exit 0)
 (cst 45 [(2,.c (.ptr 0 0)),(3,.c (.ptr 1 0)),(5,.c (.sl 2 1 0 k)),(6,.c (.p (.i .i64 (↑i:Int))))] [.cells 27 [.p (.l 7 M.length (rowP encPg M))],.cells 31 [.p (.i .i64 p.kd),.p (.s p.ru),.p (.i .i64 p.ve),.p (.l 2 p.L.length (rowP enc2 p.L)),.p (.i .i64 p.st),.p (.i .i64 p.se),.p (.s p.to)],.row 3 1 k fun e o => renC [0,1,2] (rowC encI out e o)])):=by kernel_rfl
theorem tPd3 (out:List Int):exTs extSet (dropL 4 (pcs Try.prog Try.f28)) (cst 45 [(5,listV encI 1 out)] []) (endG [] (resOf Try.prog Try.f28))=Tr.rq (IsL encI 1 (decL decI out.length (rowP encI out)) out.length (rowP encI out)∧(decL decI out.length (rowP encI out)).length≤1000000)
 (.done .ret (St.mk [V.c (C.p (PV.l 1 (setL (decL decI out.length (rowP encI out))).length (rowP encI (setL (decL decI out.length (rowP encI out))))))] [])):=by kernel_rfl
theorem tSs1 (A:List Int) (a:Int):exTs ext0 (takeL 3 (pcs Try.prog Try.f15)) (st0 Try.f15 [listV encI 1 A,iV a]) (endG (msk 24 [0,1,5,6]) (resOf Try.prog Try.f15))=Tr.done X.normal
 (cst 24 [(0,.c (.p (.l 1 A.length (rowP encI A)))),(1,.c (.p (.i .i64 a))),(5,.c (.p (.z (Value.slice none 0 0)))),(6,.c (.p (.i .i64 0)))] []):=by kernel_rfl
theorem tSs2 (A out:List Int) (a:Int) (k i:Nat):exTs extPi (lpB (pcs Try.prog Try.f15) 3) (cst 24 [(0,listV encI 1 A),(1,iV a),(5,.c (.sl 0 1 0 k)),(6,iV (i:Nat))] [.row 3 1 k (rowC encI out)]) (endG (msk 24 [0,1,5,6]) (resOf Try.prog Try.f15))=Tr.rq (IsL encI 1 (decL decI A.length (rowP encI A)) A.length (rowP encI A)∧(∀ (t:Int),t∈decL decI A.length (rowP encI A)→inR IntKind.i64 t)∧Int.ofNat 0<Int.ofNat 6)
 (bT (decide ((↑i:Int)<pickZ (decL decI A.length (rowP encI A)) a 6))
 (.rq (inR IntKind.i64 (a+1))
 (.rq (inR IntKind.i64 (a+1+(↑i:Int)))
 (.rq (IsL encI 1 (decL decI A.length (rowP encI A)) A.length (rowP encI A)∧(∀ (t:Int),t∈decL decI A.length (rowP encI A)→inR IntKind.i64 t)∧Int.ofNat 0<Int.ofNat 6)
 (.rq (k=k)
 (.rq (1≤1)
 (.rq
 ((k+1) * 8≤140737488355328 ∧
 k+1≤140737488355328∧∀ (e o:Nat),e<1→o<1→oneC (bslF [C.p (PV.i IntKind.i64 (pickZ (decL decI A.length (rowP encI A)) (a+1+(↑i:Int)) 6))] 1 1 (e+0) o)=true)
 (.rq (inR IntKind.i64 ((↑i:Int)+1))
 (.done .normal
 (cst 24 [(0,.c (.p (.l 1 A.length (rowP encI A)))),(1,.c (.p (.i .i64 a))),(5,.c (.sl 0 1 0 (k+1))),(6,.c (.p (.i .i64 ((↑i:Int)+1))))] [.row 3 1 (k+1) fun e o => renC [2] (appF k (rowC encI out) (fun e o => nth C.top [C.p (PV.i IntKind.i64 (pickZ (decL decI A.length (rowP encI A)) (a+1+(↑i:Int)) 6))] ((e+0) * 1+o)) e o)])))))))))
 (.done (.exit 0)
 (cst 24 [(0,.c (.p (.l 1 A.length (rowP encI A)))),(1,.c (.p (.i .i64 a))),(5,.c (.sl 0 1 0 k)),(6,.c (.p (.i .i64 (↑i:Int))))] [.row 3 1 k fun e o => renC [0] (rowC encI out e o)]))):=by kernel_rfl
theorem tSs3 (A out:List Int) (a:Int) (k i:Nat):exTs ext0 (dropL 4 (pcs Try.prog Try.f15)) (cst 24 [(0,listV encI 1 A),(1,iV a),(5,.c (.sl 0 1 0 k)),(6,iV (i:Nat))] [.row 3 1 k (rowC encI out)]) (endG [] (resOf Try.prog Try.f15))=Tr.rq (0+k≤k∧∀ (e o:Nat),e<k→o<1→isF (rowC encI out (e+0) o)=true) (.done .ret (St.mk [V.c (C.p (PV.l 1 k fun e o => unP (rowC encI out (e+0) o)))] [])):=by kernel_rfl
end Go.AE
namespace Go.AE
set_option linter.unusedVariables false
set_option linter.unusedSimpArgs false
open Go.Proofs Go.Proofs.Ytfjihbmehhccoaa Gp Go.RowKit
def atS (p:Pg) (t:Int):Pg:=⟨p.kd,p.ru,p.ve,p.L,t,p.se,p.to⟩
theorem find_last {α:Type} (f:α→Bool) (M:List α) (i:Nat) (hi:i<M.length) (h1:f M[i]=true) (h2:∀ q∈M.drop (i+1),f q=false):M.reverse.find? f=some M[i]:=by
 have e:M=M.take i ++ M[i]::M.drop (i+1):=by rw [← List.drop_eq_getElem_cons hi,List.take_append_drop]
 have h3:(M.drop (i+1)).reverse.find? f=none:=by
  rw [List.find?_eq_none]
  intro q hq
  rw [h2 q (List.mem_reverse.1 hq)]
  exact Bool.false_ne_true
 conv => lhs;rw [e]
 rw [List.reverse_append,List.reverse_cons,List.append_assoc,List.find?_append,h3]
 show List.find? f (M[i]::(M.take i).reverse)=_
 rw [List.find?_cons,h1]
theorem stZ_at {M:List Pg} {p:Pg} {i:Nat} (hi:i<M.length) (h1:sameM (M.getD i default) p=true) (h2:∀ q∈M.drop (i+1),sameM q p=false):stZ M p=(M.getD i default).kd:=by
 have e:M.getD i default=M[i]:=by simp [hi]
 rw [e] at h1 ⊢
 unfold stZ
 rw [find_last _ M i hi h1 h2]
theorem stZ_no {M:List Pg} {p:Pg} (h2:∀ q∈M,sameM q p=false):stZ M p = -1:=by
 have h3:M.reverse.find? (fun q => sameM q p)=none:=by
  rw [List.find?_eq_none]
  intro q hq
  rw [h2 q (List.mem_reverse.1 hq)]
  exact Bool.false_ne_true
 unfold stZ
 rw [h3]
def frZ (M:List Pg) (p:Pg):List Pg × Int :=
 if pgOK p=false∨p.kd≠0 then (M,1) else if stZ M p=0∨stZ M p=2 then (M,10) else if stZ M p=1 then (M,20) else (M ++ [p],0)
def mGFire (M:List Pg):Mod
 | [x,y] => match leL x M,pgOf y with
   | some p,some (q,a) => some ((p∧q)∧M.length≤1000000∧a.L.length≤1000000,.t [.a [.p (listP encPg 7 (frZ M a).1)],.c (.p (.i .i64 (frZ M a).2))])
   | _,_ => none
 | _ => none
def pdL (M:List Pg) (p:Pg) (i:Nat):List Int:=((M.take i).filter fun q => sameM q (atS p q.st) && (stZ M (atS p q.st) != 1)).map (·.st)
def pagedZ (M:List Pg) (p:Pg):List Int:=setL (pdL M p M.length)
def mGPaged (M:List Pg):Mod
 | [x,y] => match leL x M,pgOf y with
   | some p,some (q,a) => some ((p∧q)∧M.length≤1000000∧a.L.length≤1000000,listV encI 1 (pagedZ M a))
   | _,_ => none
 | _ => none
def stsZ (A:List Int) (a:Int) (n:Nat):List Int:=(List.range n).map fun j => pickZ A (a+1+(j:Nat)) 6
def startsZ (A:List Int) (a:Int):List Int:=stsZ A a (pickZ A a 6).toNat
def mGStarts:Mod
 | [x,.c (.p (.i .i64 a))] => match liOf x with
   | some (p,A) => some (p∧(∀ t∈A,inR .i64 t)∧inPos a,listV encI 1 (startsZ A a))
   | none => none
 | _ => none
theorem stsZ_snoc (A:List Int) (a:Int) (n:Nat):stsZ A a (n+1)=stsZ A a n ++ [pickZ A (a+1+(n:Nat)) 6]:=by
 unfold stsZ
 rw [List.range_succ,List.map_append]
 rfl
theorem stsZ_len (A:List Int) (a:Int) (n:Nat):(stsZ A a n).length=n:=by unfold stsZ;simp
theorem pdL_snoc (M:List Pg) (p:Pg) (i:Nat) (hi:i<M.length):pdL M p (i+1)=pdL M p i ++ (match sameM (M.getD i default) (atS p (M.getD i default).st) && (stZ M (atS p (M.getD i default).st) != 1) with
  | true => [(M.getD i default).st]
  | false => []):=by
 unfold pdL
 rw [List.take_add_one,List.filter_append,List.map_append]
 congr 1
 have e:M.getD i default=M[i]:=by simp [hi]
 rw [e,List.getElem?_eq_getElem hi]
 show List.map _ (List.filter _ [M[i]])=_
 rw [List.filter_cons]
 cases sameM M[i] (atS p M[i].st) && (stZ M (atS p M[i].st) != 1) <;> rfl
theorem pdL_len (M:List Pg) (p:Pg) (i:Nat):(pdL M p i).length≤i:=by
 unfold pdL
 rw [List.length_map]
 have:=List.length_filter_le (fun q => sameM q (atS p q.st) && (stZ M (atS p q.st) != 1)) (M.take i)
 rw [List.length_take] at this
 omega
section
variable {G:Nat→Option Obj}
set_option maxRecDepth 100000 in
theorem okGTick:ModOK Try.prog G 51 mTick:=by
 intro args p v hm hp h
 unfold mTick at hm
 split at hm;rotate_left;· cases hm
 rename_i t
 obtain ⟨rfl,rfl⟩:=some_pair hm
 refine fn_T ext0_sound Try.func51 (by kernel_rfl) rfl (tGTick t) ?_ h
 simp only [holds_bT,holds_rq,holds_done,KF]
 refine ⟨fun h1 => ⟨_,rfl,VLe.of_eq ?_⟩,fun h1 => ⟨_,rfl,VLe.of_eq ?_⟩⟩
 · unfold tickZ;rw [h1];rfl
 · unfold tickZ;rw [h1];rfl
theorem extGd_sound:SoundExt Try.prog G extGd:=extOf_sound (by simp;exact ⟨okName,okRLValid,okGTick⟩)
set_option maxRecDepth 100000 in
theorem okGGood:ModOK Try.prog G 50 mGGood:=by
 intro args p v hm hp h
 unfold mGGood at hm
 split at hm;rotate_left;· cases hm
 split at hm;rotate_left;· cases hm
 rename_i x _ q a hx
 obtain ⟨rfl,rfl⟩:=some_pair hm
 refine FnS.args (args':=[pgV a]) ?_ (.cons (pgOf_le hx hp) .nil)
 clear hm hx
 refine fn_S Try.func50 (by kernel_rfl) rfl ?_ h
 refine ExS.evA extGd_sound [] [] rfl (tGood a) ?_
 have e:pgOK a=(nameB a.ru && decide (1≤a.ve) && validL (fun k => a.L.getD k default) a.L.length && tickZ a.st && tickZ a.se && decide ((a.to.size:Int)≤16)):=by
  unfold pgOK validLb lbF
  congr 1
  exact decide_eq_decide.2 (by omega)
 rw [e]
 simp only [holds_bT,holds_rq,holds_leaf,kf_ret',dec2_row]
 refine ⟨trivial,isL_row _ _ _,trivial,trivial,fun c1 => ⟨fun c2 => ⟨fun c3 => ⟨fun c4 => ⟨fun c5 => ⟨?_⟩,fun c5 => ⟨?_⟩⟩,fun c4 => ⟨?_⟩⟩,fun c3 => ⟨?_⟩⟩,fun c2 => ⟨?_⟩⟩,fun c1 => ⟨?_⟩⟩ <;> simp only [*,Bool.and_true,Bool.true_and,Bool.and_false,Bool.false_and] <;> exact VLe.refl _
set_option maxRecDepth 100000 in
theorem okStX (M:List Pg):ModOK Try.prog G 56 (mStX M):=by
 intro args p v hm hp h
 unfold mStX at hm
 split at hm;rotate_left;· cases hm
 split at hm;rotate_left;· cases hm
 rename_i x y _ _ p1 p2 a hx hy
 obtain ⟨rfl,rfl⟩:=some_pair hm
 obtain ⟨⟨hA,hB⟩,hlen,hl2⟩:=hp
 refine FnS.args (args':=[ledV M,pgV a]) ?_ (.cons (leL_le hx hA) (.cons (pgOf_le hy hB) .nil))
 clear hm hx hy hA hB
 refine fn_S Try.func56 (by kernel_rfl) rfl ?_ h
 refine ExS.evG ext0_sound 2 (tSta1 M a) ?_
 simp only [holds_rq,holds_leaf,kf_normal,inR]
 refine ⟨by omega,⟨?_⟩⟩
 refine ExS.loop' (l:=dropL 2 (pcs Try.prog Try.f56)) (b:=inr (inr (nth .skip (pcs Try.prog Try.f56) 2))) (r:=dropL 3 (pcs Try.prog Try.f56)) (id:=0) (by kernel_rfl) (σ:=Nat)
   (fun i => (fun p => cst 29 [(2,.c (.ptr 0 0)),(3,.c (.ptr 1 0)),(5,iV ((i:Int) - 1))] [.cells 27 [.p (listP encPg 7 M)],.cells 31 [.p (.i .i64 p.kd),.p (.s p.ru),.p (.i .i64 p.ve),.p (listP enc2 2 p.L),.p (.i .i64 p.st),.p (.i .i64 p.se),.p (.s p.to)]]) a) (fun i => i≤M.length∧∀ q∈M.drop i,sameM q a=false) (fun i => i) M.length ⟨Nat.le_refl _,fun q hq => by rw [List.drop_length] at hq;cases hq⟩ (weak_of_eq (by kernel_rfl)) ?_
 rintro i ⟨hi,hc⟩ Q1 q1n q1e -
 refine ExS.evH extSmG_sound (tSta2 M a i) ?_
 simp only [holds_bT,holds_rq,holds_leaf,kf_ret',kf_normal,kf_exit,decide_eq_true_eq,decide_eq_false_iff_not,inR,dec2_row]
 refine ⟨fun h1 => ?_,fun h1 => ⟨q1e _ ?_⟩⟩
 · have e1:((i:Int) - 1).toNat=i - 1:=by omega
   rw [e1]
   have hs:M.drop (i - 1)=M.getD (i - 1) default::M.drop i:=by
    rw [List.drop_eq_getElem_cons (show i - 1<M.length by omega),show i - 1+1=i by omega]
    simp [show i - 1<M.length by omega]
   have hst:∀ kd se,sameM (Pg.mk kd (M.getD (i - 1) default).ru (M.getD (i - 1) default).ve (M.getD (i - 1) default).L (M.getD (i - 1) default).st se (M.getD (i - 1) default).to) a=sameM (M.getD (i - 1) default) a:=fun _ _ => rfl
   refine ⟨by omega,⟨⟨isL_row _ _ _,isL_row _ _ _⟩,.inr hl2⟩,fun h2 => ⟨by omega,⟨VLe.of_eq ?_⟩⟩,fun h2 => ⟨by omega,⟨q1n (i - 1) _ ⟨by omega,fun q hq => ?_⟩ (by omega) ?_⟩⟩⟩
   · rw [stZ_at (i:=i - 1) (by omega) h2 (by rw [show i - 1+1=i by omega];exact hc)];rfl
   · rw [hs] at hq
     rcases List.mem_cons.1 hq with h3 | h3
     · rw [h3];exact h2
     · exact hc q h3
   · have e2:(i:Int) - 1=((i - 1:Nat):Int):=by omega
     rw [e2]
     exact weak_of_eq (by kernel_rfl)
 · refine ExS.evH ext0_sound (tSta3 M a i) ?_
   simp only [holds_leaf,kf_ret']
   obtain rfl:i=0:=by omega
   exact ⟨VLe.of_eq (by rw [stZ_no (M:=M) (p:=a) fun q hq => hc q (by simpa using hq)];rfl)⟩
theorem extFR_sound (M:List Pg):SoundExt Try.prog G (extFR M):=extOf_sound (by simp;exact ⟨okGGood,okStX M,okAddX M⟩)
set_option maxRecDepth 100000 in
theorem okGFire (M:List Pg):ModOK Try.prog G 24 (mGFire M):=by
 intro args p v hm hp h
 unfold mGFire at hm
 split at hm;rotate_left;· cases hm
 split at hm;rotate_left;· cases hm
 rename_i x y _ _ p1 p2 a hx hy
 obtain ⟨rfl,rfl⟩:=some_pair hm
 obtain ⟨⟨hA,hB⟩,hlen,hl2⟩:=hp
 refine FnS.args (args':=[ledV M,pgV a]) ?_ (.cons (leL_le hx hA) (.cons (pgOf_le hy hB) .nil))
 clear hm hx hy hA hB
 refine fn_S Try.func24 (by kernel_rfl) rfl ?_ h
 refine ExS.evH (extFR_sound M) (tFi M a) ?_
 simp only [holds_bT,holds_rq,holds_leaf,kf_ret',dec2_row,bne_iff_ne,bne_eq_false_iff_eq,ne_eq,beq_iff_eq,beq_eq_false_iff_ne,Bool.not_eq_true',Bool.not_eq_false']
 refine ⟨isL_row _ _ _,fun c1 => ⟨VLe.of_eq ?_⟩,fun c1 => ⟨fun c2 => ⟨VLe.of_eq ?_⟩,fun c2 => ⟨⟨⟨⟨trivial,fun _ _ _ _ => PLe.refl _⟩,isL_row _ _ _⟩,hlen,hl2⟩,fun c3 => ⟨VLe.of_eq ?_⟩,fun c3 => ⟨fun c4 => ⟨VLe.of_eq ?_⟩,fun c4 => ⟨fun c5 => ⟨VLe.of_eq ?_⟩,fun c5 => ⟨⟨⟨⟨trivial,fun _ _ _ _ => PLe.refl _⟩,isL_row _ _ _⟩,hlen⟩,⟨VLe.of_eq ?_⟩⟩⟩⟩⟩⟩⟩
 all_goals unfold frZ
 · rw [if_pos (.inl c1)];rfl
 · rw [if_pos (.inr c2)];rfl
 · rw [if_neg (fun h => h.elim (fun h => by rw [c1] at h;cases h) (fun h => h c2)),if_pos (.inl c3)];rfl
 · rw [if_neg (fun h => h.elim (fun h => by rw [c1] at h;cases h) (fun h => h c2)),if_pos (.inr c4)];rfl
 · rw [if_neg (fun h => h.elim (fun h => by rw [c1] at h;cases h) (fun h => h c2)),if_neg (fun h => h.elim c3 c4),if_pos c5];rfl
 · rw [if_neg (fun h => h.elim (fun h => by rw [c1] at h;cases h) (fun h => h c2)),if_neg (fun h => h.elim c3 c4),if_neg c5];rfl
theorem extPd_sound (M:List Pg):SoundExt Try.prog G (extPd M):=extOf_sound (by simp;exact ⟨okGSame,okStX M⟩)
theorem extSet_sound:SoundExt Try.prog G extSet:=extOf_sound (by simp;exact okSet)
theorem extPi_sound:SoundExt Try.prog G extPi:=extOf_sound (by simp;exact okPick)
set_option maxRecDepth 100000 in
theorem okGPaged (M:List Pg):ModOK Try.prog G 28 (mGPaged M):=by
 intro args p v hm hp h
 unfold mGPaged at hm
 split at hm;rotate_left;· cases hm
 split at hm;rotate_left;· cases hm
 rename_i x y _ _ p1 p2 a hx hy
 obtain ⟨rfl,rfl⟩:=some_pair hm
 obtain ⟨⟨hA,hB⟩,hlen,hl2⟩:=hp
 refine FnS.args (args':=[ledV M,pgV a]) ?_ (.cons (leL_le hx hA) (.cons (pgOf_le hy hB) .nil))
 clear hm hx hy hA hB
 refine fn_S Try.func28 (by kernel_rfl) rfl ?_ h
 refine ExS.evG ext0_sound 3 (tPd1 M a) ?_
 simp only [holds_leaf,kf_normal]
 refine ⟨?_⟩
 refine ExS.loop' (l:=dropL 3 (pcs Try.prog Try.f28)) (b:=inr (inr (nth .skip (pcs Try.prog Try.f28) 3))) (r:=dropL 4 (pcs Try.prog Try.f28)) (id:=0) (by kernel_rfl) (σ:=Nat × Int)
   (fun (i,t) => (fun p out k => cst 45 [(2,.c (.ptr 0 0)),(3,.c (.ptr 1 0)),(5,.c (.sl 2 1 0 k)),(6,iV (i:Nat))] [.cells 27 [.p (listP encPg 7 M)],.cells 31 [.p (.i .i64 p.kd),.p (.s p.ru),.p (.i .i64 p.ve),.p (listP enc2 2 p.L),.p (.i .i64 p.st),.p (.i .i64 p.se),.p (.s p.to)],.row 3 1 k (rowC encI out)]) (atS a t) (pdL M a i) (pdL M a i).length) (fun (i,t) => i≤M.length) (fun (i,t) => M.length - i) (0,a.st) (Nat.zero_le _) ((weak_nil 3 1 (rowC encI []) 5 (by kernel_rfl)).trans (weak_of_eq (by kernel_rfl))) ?_
 rintro ⟨i,t⟩ hi Q1 q1n q1e -
 have hi:i≤M.length:=hi
 have hpl:=pdL_len M a i
 refine ExS.evH (extPd_sound M) (tPd2 M (atS a t) (pdL M a i) (pdL M a i).length i) ?_
 simp only [holds_bT,holds_rq,holds_leaf,kf_normal,kf_exit,decide_eq_true_eq,decide_eq_false_iff_not,inR,dec2_row,show (↑i:Int).toNat=i from rfl,bne_iff_ne,bne_eq_false_iff_eq,ne_eq]
 refine ⟨fun h1 => ?_,fun h1 => ⟨q1e _ ?_⟩⟩
 · have hlt:i<M.length:=by omega
   have hsn:=pdL_snoc M a i hlt
   generalize hq:M.getD i default=q at hsn ⊢
   change (0≤(i:Int)∧(i:Int)<M.length)∧_
   have stay:(sameM q (atS a q.st) && (stZ M (atS a q.st) != 1))=false→Q1 .normal (cst 45 [(2,V.c (C.ptr 0 0)),(3,V.c (C.ptr 1 0)),(5,V.c (C.sl 2 1 0 (pdL M a i).length)),(6,V.c (C.p (PV.i IntKind.i64 ((↑i:Int)+1))))] [AO.cells 27 [C.p (PV.l 7 M.length (rowP encPg M))],AO.cells 31 [C.p (PV.i IntKind.i64 (atS a t).kd),C.p (PV.s (atS a t).ru),C.p (PV.i IntKind.i64 (atS a t).ve),C.p (PV.l 2 (atS a t).L.length (rowP enc2 (atS a t).L)),C.p (PV.i IntKind.i64 q.st),C.p (PV.i IntKind.i64 (atS a t).se),C.p (PV.s (atS a t).to)],AO.row 3 1 (pdL M a i).length fun e o => renC [0,1,2] (rowC encI (pdL M a i) e o)]):=fun hs => by
    rw [hs] at hsn
    simp only [List.append_nil] at hsn
    rw [← hsn]
    exact q1n (i+1,q.st) _ (by simp only;omega) (by simp only;omega) (weak_of_eq (by kernel_rfl))
   refine ⟨⟨by omega,by omega⟩,⟨by omega,by omega⟩,⟨⟨isL_row _ _ _,isL_row _ _ _⟩,.inr hl2⟩,⟨⟨⟨trivial,fun _ _ _ _ => PLe.refl _⟩,isL_row _ _ _⟩,hlen,hl2⟩,fun c1 => ⟨fun c2 => ⟨trivial,Nat.le_refl _,⟨by omega,by omega,fun e o he ho => ?_⟩,by omega,⟨?_⟩⟩,fun c2 => ⟨by omega,⟨stay ?_⟩⟩⟩,fun c1 => ⟨by omega,⟨stay ?_⟩⟩⟩
   · obtain rfl:e=0:=by omega
     obtain rfl:o=0:=by omega
     rfl
   · have hs:(sameM q (atS a q.st) && (stZ M (atS a q.st) != 1))=true:=by
       rw [Bool.and_eq_true];exact ⟨c1,by rw [bne_iff_ne];exact c2⟩
     rw [hs] at hsn
     simp only at hsn
     have hlx:(pdL M a i).length+1=(pdL M a (i+1)).length:=by rw [hsn];simp
     refine q1n (i+1,q.st) _ (by simp only;omega) (by simp only;omega) ?_
     rw [hlx]
     refine weak_cst ⟨rfl,rfl,⟨rfl,rfl,rfl,fun e o he ho => ?_⟩,trivial⟩
     rw [hsn]
     exact app1' rfl (intE_at q.st) (by rw [hsn] at he;simpa using he) ho
   · rw [Bool.and_eq_false_iff];exact .inr (by rw [bne_eq_false_iff_eq];exact c2)
   · rw [Bool.and_eq_false_iff];exact .inl c1
 · obtain rfl:i=M.length:=by omega
   unfold pagedZ
   generalize pdL M a M.length=out at hpl ⊢
   refine ExS.pre ((weak_of_eq (by kernel_rfl)).trans ((weak_frz (st:=cst 45 [(2,V.c (C.ptr 0 0)),(3,V.c (C.ptr 1 0)),(5,V.c (C.sl 2 1 0 out.length)),(6,V.c (C.p (PV.i IntKind.i64 (M.length:Int))))] [AO.cells 27 [C.p (PV.l 7 M.length (rowP encPg M))],AO.cells 31 [C.p (PV.i IntKind.i64 a.kd),C.p (PV.s a.ru),C.p (PV.i IntKind.i64 a.ve),C.p (PV.l 2 a.L.length (rowP enc2 a.L)),C.p (PV.i IntKind.i64 t),C.p (PV.i IntKind.i64 a.se),C.p (PV.s a.to)],AO.row 3 1 out.length (rowC encI out)]) (j:=5) (id:=2) (ty:=3) (sz:=1) (n:=out.length) (off:=0) (len:=out.length) (f:=rowC encI out) (by kernel_rfl) (by kernel_rfl) (by omega) (fun _ _ _ _ => rfl)).trans ((weak_gc (msk 45 [5]) _).trans (weak_of_eq (st':=cst 45 [(5,listV encI 1 out)] []) (by kernel_rfl))))) ?_
   refine ExS.evH extSet_sound (tPd3 out) ?_
   simp only [holds_rq,holds_leaf,kf_ret',decI_row]
   exact ⟨⟨isL_row _ _ _,by omega⟩,⟨VLe.refl _⟩⟩
set_option maxRecDepth 100000 in
theorem okGStarts:ModOK Try.prog G 15 mGStarts:=by
 intro args p v hm hp h
 unfold mGStarts at hm
 split at hm;rotate_left;· cases hm
 split at hm;rotate_left;· cases hm
 rename_i x s _ q A hx
 obtain ⟨rfl,rfl⟩:=some_pair hm
 obtain ⟨hA,hI,hpos⟩:=hp
 refine FnS.args (args':=[listV encI 1 A,iV s]) ?_ (.cons (liOf_le hx hA) (.cons (.refl _) .nil))
 clear hA hm hx
 refine fn_S Try.func15 (by kernel_rfl) rfl ?_ h
 refine ExS.evG ext0_sound 3 (tSs1 A s) ?_
 simp only [holds_leaf,kf_normal]
 refine ⟨?_⟩
 unfold inPos at hpos
 have hb:=pick_in (L:=A) (i:=s) (m:=6) (by omega)
 refine ExS.loop' (l:=dropL 3 (pcs Try.prog Try.f15)) (b:=inr (inr (nth .skip (pcs Try.prog Try.f15) 3))) (r:=dropL 4 (pcs Try.prog Try.f15)) (id:=0) (by kernel_rfl) (σ:=Nat)
   (fun i => (fun out k => cst 24 [(0,listV encI 1 A),(1,iV s),(5,.c (.sl 0 1 0 k)),(6,iV (i:Nat))] [.row 3 1 k (rowC encI out)]) (stsZ A s i) (stsZ A s i).length) (fun i => (i:Int)≤pickZ A s 6) (fun i => 6 - i) 0 hb.1 ((weak_nil 3 1 (rowC encI []) 5 (by kernel_rfl)).trans (weak_of_eq (by kernel_rfl))) ?_
 intro i hi Q1 q1n q1e _
 have hl:=stsZ_len A s i
 refine ExS.evH extPi_sound (tSs2 A (stsZ A s i) s (stsZ A s i).length i) ?_
 simp only [holds_bT,holds_rq,holds_leaf,kf_normal,kf_exit,decide_eq_true_eq,decide_eq_false_iff_not,inR,decI_row]
 refine ⟨⟨isL_row _ _ _,hI,by decide⟩,fun h1 => ⟨by omega,by omega,⟨isL_row _ _ _,hI,by decide⟩,trivial,Nat.le_refl _,⟨by omega,by omega,fun e o he ho => ?_⟩,by omega,⟨?_⟩⟩,fun h1 => ⟨q1e _ ?_⟩⟩
 · obtain rfl:e=0:=by omega
   obtain rfl:o=0:=by omega
   rfl
 · have hsn:=stsZ_snoc A s i
   have hlx:(stsZ A s i).length+1=(stsZ A s (i+1)).length:=by rw [hsn];simp
   refine q1n (i+1) _ (by omega) (by omega) ?_
   rw [hlx]
   refine weak_cst ⟨⟨rfl,rfl,rfl,fun e o he ho => ?_⟩,trivial⟩
   rw [hsn]
   exact app1' rfl (intE_at _) (by rw [hsn] at he;simpa using he) ho
 · refine ExS.pre (weak_of_eq (by kernel_rfl)) (ExS.evH ext0_sound (tSs3 A (stsZ A s i) s (stsZ A s i).length i) ?_)
   simp only [holds_rq,holds_leaf,kf_ret']
   refine ⟨⟨by omega,fun _ _ _ _ => rfl⟩,⟨?_⟩⟩
   unfold startsZ
   rw [show (pickZ A s 6).toNat=i by omega]
   exact VLe.refl _
end
end Go.AE
namespace Go.AE
set_option linter.unusedVariables false
set_option linter.unusedSimpArgs false
open Go.RowKit
section
variable {P:Program} {G:Nat→Option Obj} {ops:Array Oper} {al:List AI} {N:Nat} {S:Nat→St} {ext:Ext}
def floatB (os:List Oper) (N:Nat):Bool:=Nat.beq (lenL os) (N+2) && allI (fun i o => !Nat.beq i (N+1) || allI (fun j _ => Nat.ble N j || waits o j) 0 os) 0 os
theorem floatB_of (h:floatB ops.toList N=true):ops.size=N+2∧∀ j,j<N→Region.waitsFor .any ops (N+1) j=true:=by
 unfold floatB at h
 rw [Bool.and_eq_true] at h
 obtain ⟨h1,h2⟩:=h
 have h1:=Nat.eq_of_beq_eq_true h1
 rw [lenL_eq] at h1
 have h1:ops.size=N+2:=by simpa using h1
 refine ⟨h1,fun j hj => ?_⟩
 have h3:=allI_at h2 (N+1) ops[N+1] (by simp [show N+1<ops.size by omega])
 simp only [Bool.or_eq_true,Nat.zero_add] at h3
 rcases h3 with h3 | h3
 · rw [Nat.beq_refl] at h3;cases h3
 · have h4:=allI_at h3 j ops[j] (by simp)
   simp only [Bool.or_eq_true,Nat.zero_add,Nat.ble_eq] at h4
   rcases h4 with h4 | h4
   · omega
   · exact waits_for (by simp [show N+1<ops.size by omega]) h4
theorem last_any {Q:Exit→Act→World→Prop} {k:Nat} {o:Oper} {listed:Array Bool} {a:Act} {w:World} (hk:ops[k]? = some o) (hs:listed.size=ops.size) (hu:listed.getD k true=false) (h1:∀ i,i<ops.size→i≠k→listed.getD i false=true) (hb:∀ e∈o.after,Region.binds .any e=true→e.on<k) (h:wpList P ops Q [o] a w):wpAny P .any ops Q 1 listed a w:=by
 have hks:k<ops.size:=(Array.getElem?_eq_some_iff.1 hk).1
 have hrk:k∈Region.ready .any ops listed:=mem_ready.2 ⟨hu,o,hk,fun e he hbi => by
  have:=hb e he hbi
  exact h1 e.on (by omega) (by omega)⟩
 refine ⟨fun h4 => (by rw [h4] at hrk;cases hrk),fun i hi => ?_⟩
 obtain ⟨q1,oi,q2,q3⟩:=mem_ready.1 hi
 have his:i<ops.size:=(Array.getElem?_eq_some_iff.1 q2).1
 have hik:i=k:=Classical.byContradiction fun e => by
  have:=h1 i his e
  rw [getD_both q1] at this;cases this
 subst hik
 have hw:wpOp P ops Q i (wpList P ops Q []) a w:=by unfold wpOp;simp only [hk];exact h
 refine wpOp_mono (fun a' w' h' => ⟨?_,h'⟩) hw
 rw [List.eq_nil_iff_forall_not_mem]
 intro j hj
 obtain ⟨q1,oj,q2,_⟩:=mem_ready.1 hj
 have hjs:j<ops.size:=(Array.getElem?_eq_some_iff.1 q2).1
 by_cases e:i=j
 · subst e;simp [hs,hks] at q1
 · rw [getD_set_ne true e] at q1
   have:=h1 j hjs (fun h => e h.symm)
   rw [getD_both q1] at this;cases this
variable {β0:Bt} {R0:Nat→Prop} {w0:World}
theorem DInv.allBut (hr:Run P G ext al (N+1) S) (hok:RegB ops al (N+1)) {listed:Array Bool} {a:Act} {w:World} {β:Bt} {R:Nat→Prop} (hI:DInv G al (N+1) S β0 R0 w0 listed a w β R) (h1:∀ i,i<N→listed.getD i false=true) (h2:listed.getD N false=false):Sim G β R (S N) a w:=by
 have le:=hr.le (i:=N) (j:=N+1) (by omega) (Nat.le_refl _)
 have dm:∀ i x,β i=some x→i<(S N).h.length:=fun i x hi => by
  rcases Nat.lt_or_ge i (S N).h.length with h | h
  · exact h
  · have h3:=hI.hs.dom i x hi
    have h4:=hI.fr N (by omega) h2 i h h3
    rw [hi] at h4;cases h4
 refine ⟨hI.df,All2.of_get (by have:=hI.sz;have:=le.1;simp;omega) ?_,?_⟩
 · intro s x y hx hy
   have hy:a.tmps[s]? = some y:=by simpa using hy
   have hlN:N<al.length:=by have:=hr.len;omega
   have key:VR β R w (nth (.c .top) (S N).t s) y:=by
    by_cases hd:(al[N]).dst=some s
    · have h3:=hI.s0 s y hy fun i ai hi ha hl hda => by
        have hiN:i≠N:=fun e => by subst e;rw [h2] at hl;cases hl
        exact hok.dst i N ai al[N] s ha (List.getElem?_eq_getElem hlN) hi (by omega) hiN hda hd
      have h4:=(hr.le (i:=0) (j:=N) (by omega) (by omega)).2.2.2 s fun l ai _ hl ha hda => hok.dst l N ai al[N] s ha (List.getElem?_eq_getElem hlN) (by omega) (by omega) (by omega) hda hd
      rw [h4];exact h3
    · have h3:=hI.sl s y hy fun i ai hi ha hl => by
        have hiN:i=N:=Classical.byContradiction fun e => by
         have:=h1 i (by omega)
         rw [hl] at this;cases this
        subst hiN
        rw [List.getElem?_eq_getElem hlN] at ha
        injection ha with ha
        subst ha;exact hd
      have h4:=le.2.2.2 s fun l ai q1 q2 ha => by
       obtain rfl:l=N:=by omega
       rw [List.getElem?_eq_getElem hlN] at ha
       injection ha with ha
       subst ha;exact hd
      rw [h4] at h3;exact h3
   rw [nth_eq,List.getD_eq_getElem?_getD,hx] at key
   exact key
 · have hb:∀ i x,β i=some x→nth .gone (S (N+1)).h i=nth .gone (S N).h i:=fun i x hi => le.2.2.1 i (dm i x hi)
   refine ⟨dm,?_,?_,hI.hs.lt,hI.hs.rlt,?_,hI.hs.gl,fun b ad hq => ⟨(hI.hs.ql b ad hq).1,(hI.hs.ql b ad hq).2.1,fun i o hi => by rw [← hb i _ hi];exact (hI.hs.ql b ad hq).2.2 i o hi⟩⟩
   · intro i j b o o' hi hj li lj
     rw [← hb i _ hi] at li;rw [← hb j _ hj] at lj
     exact hI.hs.inj i j b o o' hi hj li lj
   · intro i b o hi li
     rw [← hb i _ hi] at li
     exact hI.hs.sep i b o hi li
   · intro i b o hi
     rw [← hb i _ hi]
     exact hI.hs.obj i b o hi
theorem head_anyQ (hext:SoundExt P G ext) (hr:Run P G ext al (N+1) S) (hok:RegB ops al (N+1)) (hal:∀ i o,i<N+1→ops[i]? = some o→∃ ai,al[i]? = some ai∧cOper P ops o=some ai) (hsz:ops.size=N+2) (hw1:∀ j,j<N→Region.waitsFor .any ops (N+1) j=true) {oF oA:Oper} (hF:ops[N]? = some oF) (hA:ops[N+1]? = some oA) {Q:Exit→Act→World→Prop}
  (hT:∀ a w β R,Sim G β R (S (N+1)) a w→Gr β0 R0 w0 β R w→wpList P ops Q [oA] a w) (hX:∀ a w β R,Sim G β R (S N) a w→Gr β0 R0 w0 β R w→wpList P ops Q [oA,oF] a w) :
  ∀ (f:Nat) (listed:Array Bool) (a:Act) (w:World) (β:Bt) (R:Nat→Prop),cnt listed (N+1)=f→HeadInv .any ops (N+1) listed→DInv G al (N+1) S β0 R0 w0 listed a w β R→wpAny P .any ops Q (f+1) listed a w:=by
 intro f
 induction f with
 | zero =>
   intro listed a w β R hc inv hI
   have hall:=cnt_zero hc
   have hsim:Sim G β R (S (N+1)) a w:=by
    refine ⟨hI.df,All2.of_get (by simp [hI.sz]) ?_,hI.hs⟩
    intro s x y hx hy
    have h1:=hI.sl s y (by simpa using hy) fun i ai hi _ hl => by rw [hall i hi] at hl;cases hl
    rw [nth_eq,List.getD_eq_getElem?_getD,hx] at h1
    exact h1
   exact last_any hA inv.size (inv.tail (N+1) (Nat.le_refl _) (by omega)) (fun i hi hne => hall i (by omega)) (hok.back (N+1) oA hA) (hT a w β R hsim hI.gr)
 | succ f ih =>
   intro listed a w β R hc inv hI
   obtain ⟨i0,hi0,hu0,hb0⟩:=cnt_pos (by omega:0<cnt listed (N+1))
   have hi0s:i0<ops.size:=by omega
   have hr0:i0∈Region.ready .any ops listed:=least_ready hok.back hi0s (getD_in (by rw [inv.size];exact hi0s) hu0) hb0
   refine ⟨fun h => (by rw [h] at hr0;cases hr0),fun i hi => ?_⟩
   obtain ⟨q1,o,q2,q3⟩:=mem_ready.1 hi
   obtain ⟨his,_,q4⟩:=ready_of hi
   have hun:=getD_both q1
   have hil:i<listed.size:=by rw [inv.size];exact his
   by_cases hin:i<N+1
   · obtain ⟨ai,ha,hco⟩:=hal i o hin q2
     exact hI.step hext hr hok hin hil ha q2 hco hun q3 inv.closed fun a' w' β' R' hI' => ih _ a' w' β' R' (by have:=cnt_set hil hun hin;omega) (inv.set hi hin) hI'
   · obtain rfl:i=N+1:=by omega
     have e0:i0=N:=by
      rcases Nat.lt_or_ge i0 N with h | h
      · have:=q4 i0 (hw1 i0 h)
        rw [hu0] at this;cases this
      · omega
     subst e0
     have hsim:=hI.allBut hr hok hb0 hu0
     have hc2:cnt listed i0=0:=by
      rcases Nat.eq_zero_or_pos (cnt listed i0) with h | h
      · exact h
      · obtain ⟨j,k1,k2,_⟩:=cnt_pos h
        rw [hb0 j k1] at k2;cases k2
     obtain rfl:f=0:=by
      rw [cnt,hc2,hu0] at hc
      simpa using hc.symm
     have h:=hX a w β R hsim hI.gr
     have hw:wpOp P ops Q (i0+1) (wpList P ops Q [oF]) a w:=by unfold wpOp;simp only [hA];exact h
     refine wpOp_mono (fun a' w' h' => last_any hF (by simpa using inv.size) ?_ ?_ (hok.back i0 oF hF) h') hw
     · rw [getD_set_ne true (by omega)]
       exact getD_in (by rw [inv.size];exact hi0s) hu0
     · intro j hj hne
       by_cases e:i0+1=j
       · subst e;simp [hil]
       · rw [getD_set_ne false e];exact hb0 j (by omega)
noncomputable def runQ (ext:Ext) (all:List AI) (N:Nat) (k:St→Tr) (st:St):Tr :=
 regT (pureX ext) (all.take N) st fun s => .alt (regT (pureX ext) ((all.drop N).take 1) s fun s1 => regT ext (all.drop (N+1)) s1 k) (regT ext (all.drop (N+1) ++ (all.drop N).take 1) s k)
theorem regQ_sound (hext:SoundExt P G ext) {id:Nat} (hm:P.follows .mixedOrders=true) {all:List AI} (hall:cOpers P ops ops.toList=some all) (hok0:regBB ops.toList (all.take (N+1)) (N+1)=true) (hfl:floatB ops.toList N=true) {st:St} {k:St→Tr} {K:X→St→Prop}
  (h:(runQ ext all N k st).holds P G K) {Q:Exit→Act→World→Prop} {β:Bt} {R:Nat→Prop} {a:Act} {w:World} (hs:Sim G β R st a w)
  (hT:∀ st' a' w' β' R',(k st').holds P G K→Sim G β' R' st' a' w'→Gr β R w β' R' w'→Q .normal a' w'):(Code.region id ops true).wp P Q a w:=by
 obtain ⟨hsz,hw1⟩:=floatB_of hfl
 have hok:=regB_of hok0
 obtain ⟨hl0,hg0⟩:=cOpers_get hall
 have hla:all.length=N+2:=by rw [hl0];simpa using hsz
 have hF:ops[N]? = some ops[N]:=by simp
 have hA:ops[N+1]? = some ops[N+1]:=by simp
 obtain ⟨aF,hF1,hF2⟩:=hg0 N ops[N] (by rw [Array.getElem?_toList];exact hF)
 obtain ⟨aA,hA1,hA2⟩:=hg0 (N+1) ops[N+1] (by rw [Array.getElem?_toList];exact hA)
 have dN:all.drop N=[aF,aA]:=by
  rw [List.drop_eq_getElem_cons (by omega),List.drop_eq_getElem_cons (by omega),List.drop_of_length_le (by omega)]
  rw [List.getElem?_eq_getElem (by omega)] at hF1 hA1
  injection hF1 with hF1;injection hA1 with hA1
  rw [hF1,hA1]
 have dN1:all.drop (N+1)=[aA]:=by
  rw [List.drop_eq_getElem_cons (by omega),List.drop_of_length_le (by omega)]
  rw [List.getElem?_eq_getElem (by omega)] at hA1
  injection hA1 with hA1
  rw [hA1]
 have tN1:all.take (N+1)=all.take N ++ [aF]:=by
  rw [List.take_add_one,hF1];rfl
 have tlen:(all.take N).length=N:=by rw [List.length_take];omega
 have hcA:cOpers P ops [ops[N+1]]=some [aA]:=by simp only [cOpers,hA2];rfl
 have hcAF:cOpers P ops [ops[N+1],ops[N]]=some [aA,aF]:=by simp only [cOpers,hA2,hF2];rfl
 unfold runQ at h
 rw [dN,dN1] at h
 obtain ⟨S1,k0,k1,k2⟩:=regT_run hext (all.take N) st (fun ai hai => by
  obtain ⟨i,hi⟩:=List.mem_iff_getElem?.1 hai
  have hiN:i<N:=by have:=(List.getElem?_eq_some_iff.1 hi).1;omega
  refine hok.hd i ai ?_ (by omega)
  rw [tN1,List.getElem?_append_left (by omega)];exact hi) h
 rw [tlen,holds_alt] at k1
 obtain ⟨k1,kX⟩:=k1
 obtain ⟨S2,m0,m1,m2⟩:=regT_run hext [aF] (S1 N) (fun ai hai => by
  obtain rfl:=List.mem_singleton.1 hai
  exact hok.hd N ai (by rw [tN1,List.getElem?_append_right (by omega),tlen];simp) (by omega)) k1
 have m2:=m2 0 aF rfl
 rw [m0] at m2
 let S:Nat→St:=fun i => if i≤N then S1 i else S2 1
 have eS:∀ i,i≤N→S i=S1 i:=fun i hi => if_pos hi
 have eS1:S (N+1)=S2 1:=if_neg (by omega)
 have hr:Run P G ext (all.take (N+1)) (N+1) S:=⟨by rw [List.length_take];omega,fun i ai hi ha => by
   rcases Nat.lt_or_ge i N with h3 | h3
   · rw [eS i (by omega),eS (i+1) (by omega)]
     refine k2 i ai ?_
     rw [tN1,List.getElem?_append_left (by omega)] at ha;exact ha
   · obtain rfl:i=N:=by omega
     rw [eS i (Nat.le_refl _),eS1]
     rw [tN1,List.getElem?_append_right (by omega),tlen] at ha
     simp at ha
     subst ha;exact m2⟩
 refine wp_region_any hm ?_
 obtain ⟨hs',hg⟩:=hs.drawn (w.drawn+1)
 have h0:S 0=st:=(eS 0 (Nat.zero_le _)).trans k0
 have hal:∀ i o,i<N+1→ops[i]? = some o→∃ ai,(all.take (N+1))[i]? = some ai∧cOper P ops o=some ai:=fun i o hi ho => by
  obtain ⟨ai,q1,q2⟩:=hg0 i o (by simpa using ho)
  exact ⟨ai,by rw [List.getElem?_take,if_pos hi];exact q1,q2⟩
 have fin:∀ (l:List Oper) (al:List AI) (s:St) (a':Act) (w':World) (β':Bt) (R':Nat→Prop),cOpers P ops l=some al→(regT ext al s k).holds P G K→Sim G β' R' s a' w'→Gr β R w β' R' w'→wpList P ops Q l a' w':=fun l al s a' w' β' R' q1 q2 q3 q4 =>
  regT_sound hext l al s a' w' β' R' q1 q2 q3 fun a2 w2 β2 R2 st2 p1 p2 p3 => hT st2 a2 w2 β2 R2 p1 p2 (q4.trans p3)
 have key:=head_anyQ (β0:=β) (R0:=R) (w0:=w) hext hr hok hal hsz hw1 hF hA (Q:=Q)
  (fun a' w' β' R' q1 q2 => fin _ [aA] _ a' w' β' R' hcA m1 (by rw [eS1] at q1;exact q1) q2)
  (fun a' w' β' R' q1 q2 => fin _ _ _ a' w' β' R' hcAF kX (by rw [eS N (Nat.le_refl _)] at q1;exact q1) q2) (N+1) (Array.replicate ops.size false) a { w with drawn:=w.drawn+1 } β R
  (cnt_all (by omega)) ⟨by simp,fun j oj _ hl => (by rw [getD_replicate_false] at hl;cases hl),fun t _ ht => getD_in (by simpa using ht) (getD_replicate_false _ _)⟩ ?_
 · rwa [show N+1+1=ops.size by omega] at key
 · have hle:=hr.le (i:=0) (j:=N+1) (Nat.zero_le _) (Nat.le_refl _)
   rw [h0] at hle
   refine ⟨hg,?_,hs.df,?_,?_,?_,?_⟩
   · have hb:∀ i x,β i=some x→nth .gone (S (N+1)).h i=nth .gone st.h i:=fun i x hi => hle.2.2.1 i (hs'.hs.dom i x hi)
     refine ⟨fun i x hi => Nat.lt_of_lt_of_le (hs'.hs.dom i x hi) hle.2.1,?_,?_,hs'.hs.lt,hs'.hs.rlt,?_,hs'.hs.gl,fun b ad hq => ⟨(hs'.hs.ql b ad hq).1,(hs'.hs.ql b ad hq).2.1,fun i o hi => by rw [hb i _ hi];exact (hs'.hs.ql b ad hq).2.2 i o hi⟩⟩
     · intro i j b o o' hi hj li lj
       rw [hb i _ hi] at li;rw [hb j _ hj] at lj
       exact hs'.hs.inj i j b o o' hi hj li lj
     · intro i b o hi li
       rw [hb i _ hi] at li
       exact hs'.hs.sep i b o hi li
     · intro i b o hi
       rw [hb i _ hi]
       exact hs'.hs.obj i b o hi
   · have:=hs.tm.length;simp at this;omega
   · intro s u hu hnd
     rw [hle.2.2.2 s fun l ai _ hl ha => hnd l ai hl ha (getD_replicate_false _ _)]
     have hv:=ev_sound (x:=.tmp s) hs' rfl
     have e:a.eval (.tmp s)=u:=by show a.tmps.getD s undef=u;simp [hu]
     rw [e] at hv
     exact hv
   · intro i hi _ id h1 h2
     cases hb:β id with
     | none => rfl
     | some x =>
       have h3:=hs.hs.dom id x hb
       have:=(hr.le (i:=0) (j:=i) (Nat.zero_le _) (by omega)).2.1
       rw [h0] at this
       omega
   · intro s u hu _
     rw [h0]
     have hv:=ev_sound (x:=.tmp s) hs' rfl
     have e:a.eval (.tmp s)=u:=by show a.tmps.getD s undef=u;simp [hu]
     rw [e] at hv
     exact hv
theorem ExA.regq {ext:Ext} (hext:SoundExt P G ext) {rid:Nat} (hm:P.follows .mixedOrders=true) {all:List AI} (hall:cOpers P ops ops.toList=some all) (hok0:regBB ops.toList (all.take (N+1)) (N+1)=true) (hfl:floatB ops.toList N=true) {st:St} {K1:X→St→Prop}
  (hh:(runQ ext all N (fun s' => .done .normal s') st).holds P G K1):ExA P G (.raw (.region rid ops true)) st K1:=by
 refine ExA.raw fun β R a w hs => ?_
 refine regQ_sound hext hm hall hok0 hfl hh hs ?_
 intro st' a' w' β' R' hk hs' hg
 exact ⟨β',R',st',hk,hs',hg.toFr,hg.rm⟩
theorem ExS.rawQ {rs:List AR} {v:V} {ext:Ext} (hext:SoundExt P G ext) {rid:Nat} {all:List AI} (hm:P.follows .mixedOrders=true) (hall:cOpers P ops ops.toList=some all) (hok0:regBB ops.toList (all.take (N+1)) (N+1)=true) (hfl:floatB ops.toList N=true) {l r':List ACode} {st:St} {Q:X→St→Prop} (hl:l=.raw (.region rid ops true)::r') {tree:Tr}
  (ht:runQ ext all N (fun s' => .done .normal s') st=tree) (h:tree.holds P G fun e s => e=.normal∧ExS P G rs v r' s Q):ExS P G rs v l st Q:=by
 subst hl;subst ht
 refine ExA.mono (ExA.regq hext hm hall hok0 hfl h) ?_
 rintro e s ⟨rfl,h⟩
 exact h
end
end Go.AE
namespace Go.AE
set_option linter.unusedVariables false
set_option linter.unusedSimpArgs false
open Go.Proofs Go.Proofs.Ytfjihbmehhccoaa Gp Go.RowKit
def lePg (x:V) (p:Pg):Option Prop:=match pgOf x with
 | some (q,a) => some (q∧a=p)
 | none => none
theorem lePg_le {x:V} {p:Pg} {q:Prop} (h:lePg x p=some q) (hq:q):VLe x (pgV p):=by
 unfold lePg at h
 split at h
 · rename_i q' a hx
   injection h with h
   subst h
   obtain ⟨h1,rfl⟩:=hq
   exact pgOf_le hx h1
 · cases h
def mIntsX (W:List Int):ModH
 | [x,.c (.p (.i .i64 k))],h => match leI x W with
   | some p => some (p∧k=W.length∧W.length≤1000000,.c (.sl (lenL h) 1 0 W.length),snoc (.row 3 1 W.length fun e o => .p (rowP encI W e o)) h)
   | none => none
 | _,_ => none
def mSetX (U:List Int):Mod
 | [x] => match leI x U with
   | some p => some (p∧U.length≤1000000,listV encI 1 (setL U))
   | none => none
 | _ => none
def amO (W T:List Int) (p:Pg) (A:List Int):List Pg:=(A.filter fun t => decide (t∈W) != decide (t∈T)).map (amPg p.ru p.ve p.L p.se T)
def amZ (M:List Pg) (p:Pg) (T:List Int):List Pg × List Pg :=
 match pgOK ⟨0,p.ru,p.ve,p.L,0,p.se,⟨#[]⟩⟩ && T.all tickZ with
 | true => (M ++ amO (pagedZ M p) T p (setL (pagedZ M p ++ T)),amO (pagedZ M p) T p (setL (pagedZ M p ++ T)))
 | false => (M,[])
def tupV (M out:List Pg):V:=.t [.a [.p (listP encPg 7 M)],.c (.p (listP encPg 7 out))]
def mGAmX (M:List Pg) (p:Pg) (T:List Int) (M' out:List Pg):Mod
 | [x,y,z] => match leL x M,lePg y p,leI z T with
   | some a,some b,some c => some (((a∧b)∧c)∧(M.length+T.length≤100000∧p.L.length≤1000000)∧amZ M p T=(M',out),tupV M' out)
   | _,_,_ => none
 | _ => none
def mGPageX (p:Pg):Mod
 | [x,.c (.p (.i .i64 i))] => match liOf x with
   | some (q,A) => some (q∧(∀ t∈A,inR .i64 t)∧inPos i∧pageZ A i=p,.a [.p (.i .i64 p.kd),.p (.s p.ru),.p (.i .i64 p.ve),.p (listP enc2 2 p.L),.p (.i .i64 p.st),.p (.i .i64 p.se),.p (.s p.to)])
   | none => none
 | _ => none
def mGStartsX (T:List Int):Mod
 | [x,.c (.p (.i .i64 a))] => match liOf x with
   | some (p,A) => some (p∧(∀ t∈A,inR .i64 t)∧inPos a∧startsZ A a=T,listV encI 1 T)
   | none => none
 | _ => none
def mGFireX (M:List Pg) (p:Pg) (M':List Pg) (e:Int):Mod
 | [x,y] => match leL x M,lePg y p with
   | some a,some b => some ((a∧b)∧(M.length≤1000000∧p.L.length≤1000000)∧frZ M p=(M',e),.t [.a [.p (listP encPg 7 M')],.c (.p (.i .i64 e))])
   | _,_ => none
 | _ => none
noncomputable def extIn (W T:List Int):Ext:=extH [(53,mIntsX W),(52,frzA (mSetX (W ++ T)))]
def extGG:Ext:=extOf [(50,mGGood)]
def extGT:Ext:=extOf [(51,mTick)]
def extGP (M:List Pg):Ext:=extOf [(28,mGPaged M)]
def extHs:Ext:=extOf [(18,mHas)]
def extAd (M:List Pg):Ext:=extOf [(54,mAddX M)]
def extPg (p:Pg):Ext:=extOf [(13,mGPageX p),(21,mPick)]
def extOA (M:List Pg) (p:Pg) (T:List Int) (M' out:List Pg):Ext:=extOf [(15,mGStartsX T),(22,mGAmX M p T M' out)]
def extOF (M:List Pg) (p:Pg) (M':List Pg) (e:Int):Ext:=extOf [(24,mGFireX M p M' e)]
theorem tI (A:List Int) (k:Int):exTs ext0 (takeL 3 (pcs Try.prog Try.f53)) (st0 Try.f53 [listV encI 1 A,iV k]) (endG (msk 14 [4]) [])=Tr.rq (0≤(↑0:Int)∧((↑0:Int)≤if k<(↑A.length:Int) then k else (↑A.length:Int))∧(if k<(↑A.length:Int) then k else (↑A.length:Int))≤(↑A.length:Int))
 (.rq
 ((0+((if k<(↑A.length:Int) then k else (↑A.length:Int)).toNat - 0)) * 8≤140737488355328 ∧
 0+((if k<(↑A.length:Int) then k else (↑A.length:Int)).toNat - 0)≤140737488355328 ∧
 ∀ (e o:Nat),e<(if k<(↑A.length:Int) then k else (↑A.length:Int)).toNat - 0→o<1→oneC (C.p (rowP encI A (e+0) o))=true)
 (.done .normal
 (cst 14 [(4,.c (.sl 0 1 0 (0+((if k<(↑A.length:Int) then k else (↑A.length:Int)).toNat - (↑0:Int).toNat))))] [.row 3 1 (0+((if k<(↑A.length:Int) then k else (↑A.length:Int)).toNat - (↑0:Int).toNat)) fun e o => renC [0] (appF 0 (fun x x_1 => C.top) (fun e o => C.p (PV.i IntKind.i64 (A.getD (e+(↑0:Int).toNat) default))) e o)]))):=by kernel_rfl
theorem tAm1 (M:List Pg) (p:Pg) (T:List Int):exTs extGG (takeL 3 (pcs Try.prog Try.f22)) (st0 Try.f22 [.a [.p (listP encPg 7 M)],.a [.p (.i .i64 p.kd),.p (.s p.ru),.p (.i .i64 p.ve),.p (listP enc2 2 p.L),.p (.i .i64 p.st),.p (.i .i64 p.se),.p (.s p.to)],listV encI 1 T]) (endG (msk 111 [2,3,4,6,7,8,9]) (resOf Try.prog Try.f22))=Tr.rq (IsL enc2 2 (decL dec2 p.L.length (rowP enc2 p.L)) p.L.length (rowP enc2 p.L))
 (.done .normal
 (cst 111 [(2,.c (.p (.l 1 T.length (rowP encI T)))),(3,.c (.ptr 0 0)),(4,.c (.ptr 1 0)),(6,.c (.ptr 2 0)),(7,.c (.p (.z (Value.slice none 0 0)))),(8,.c (.p (.b (pgOK (Pg.mk 0 p.ru p.ve (decL dec2 p.L.length (rowP enc2 p.L)) 0 p.se (ByteArray.mk #[])))))),(9,.c (.p (.i .i64 0)))] [.cells 27 [.p (.l 7 M.length (rowP encPg M))],.cells 31 [.p (.i .i64 p.kd),.p (.s p.ru),.p (.i .i64 p.ve),.p (.l 2 p.L.length (rowP enc2 p.L)),.p (.i .i64 p.st),.p (.i .i64 p.se),.p (.s p.to)],.cells 27 [.p (.z (Value.slice none 0 0))]])):=by kernel_rfl
theorem tAm2 (M:List Pg) (p:Pg) (T:List Int) (g:Bool) (i:Nat):exTs extGT (lpB (pcs Try.prog Try.f22) 3) (cst 111 [(2,listV encI 1 T),(3,.c (.ptr 0 0)),(4,.c (.ptr 1 0)),(6,.c (.ptr 2 0)),(7,.c (.p (.z (.slice none 0 0)))),(8,bV g),(9,iV (i:Nat))] [.cells 27 [.p (listP encPg 7 M)],.cells 31 [.p (.i .i64 p.kd),.p (.s p.ru),.p (.i .i64 p.ve),.p (listP enc2 2 p.L),.p (.i .i64 p.st),.p (.i .i64 p.se),.p (.s p.to)],.cells 27 [.p (.z (.slice none 0 0))]]) (endG (msk 111 [2,3,4,6,7,8,9]) (resOf Try.prog Try.f22))=bT (decide ((↑i:Int)<(↑T.length:Int)))
 (.rq (0≤(↑i:Int)∧(↑i:Int)<(↑T.length:Int))
 (.rq True
 (bT g
 (.rq (inR IntKind.i64 ((↑i:Int)+1))
 (.done .normal
 (cst 111 [(2,.c (.p (.l 1 T.length (rowP encI T)))),(3,.c (.ptr 0 0)),(4,.c (.ptr 1 0)),(6,.c (.ptr 2 0)),(7,.c (.p (.z (Value.slice none 0 0)))),(8,.c (.p (.b (tickZ (T.getD (↑i:Int).toNat default))))),(9,.c (.p (.i .i64 ((↑i:Int)+1))))] [.cells 27 [.p (.l 7 M.length (rowP encPg M))],.cells 31 [.p (.i .i64 p.kd),.p (.s p.ru),.p (.i .i64 p.ve),.p (.l 2 p.L.length (rowP enc2 p.L)),.p (.i .i64 p.st),.p (.i .i64 p.se),.p (.s p.to)],.cells 27 [.p (.z (Value.slice none 0 0))]])))
 (.rq (inR IntKind.i64 ((↑i:Int)+1))
 (.done .normal
 (cst 111 [(2,.c (.p (.l 1 T.length (rowP encI T)))),(3,.c (.ptr 0 0)),(4,.c (.ptr 1 0)),(6,.c (.ptr 2 0)),(7,.c (.p (.z (Value.slice none 0 0)))),(8,.c (.p (.b false))),(9,.c (.p (.i .i64 ((↑i:Int)+1))))] [.cells 27 [.p (.l 7 M.length (rowP encPg M))],.cells 31 [.p (.i .i64 p.kd),.p (.s p.ru),.p (.i .i64 p.ve),.p (.l 2 p.L.length (rowP enc2 p.L)),.p (.i .i64 p.st),.p (.i .i64 p.se),.p (.s p.to)],.cells 27 [.p (.z (Value.slice none 0 0))]]))))))
 (.done (.exit 0)
 (cst 111 [(2,.c (.p (.l 1 T.length (rowP encI T)))),(3,.c (.ptr 0 0)),(4,.c (.ptr 1 0)),(6,.c (.ptr 2 0)),(7,.c (.p (.z (Value.slice none 0 0)))),(8,.c (.p (.b g))),(9,.c (.p (.i .i64 (↑i:Int))))] [.cells 27 [.p (.l 7 M.length (rowP encPg M))],.cells 31 [.p (.i .i64 p.kd),.p (.s p.ru),.p (.i .i64 p.ve),.p (.l 2 p.L.length (rowP enc2 p.L)),.p (.i .i64 p.st),.p (.i .i64 p.se),.p (.s p.to)],.cells 27 [.p (.z (Value.slice none 0 0))]])):=by kernel_rfl
theorem tAm3 (M:List Pg) (p:Pg) (T:List Int) (g:Bool):exTs ext0 (takeL 2 (dropL 4 (pcs Try.prog Try.f22))) (cst 111 [(2,listV encI 1 T),(3,.c (.ptr 0 0)),(4,.c (.ptr 1 0)),(6,.c (.ptr 2 0)),(7,.c (.p (.z (.slice none 0 0)))),(8,bV g)] [.cells 27 [.p (listP encPg 7 M)],.cells 31 [.p (.i .i64 p.kd),.p (.s p.ru),.p (.i .i64 p.ve),.p (listP enc2 2 p.L),.p (.i .i64 p.st),.p (.i .i64 p.se),.p (.s p.to)],.cells 27 [.p (.z (.slice none 0 0))]]) (endG (msk 111 [2,3,4,6]) (resOf Try.prog Try.f22))=bT (!g) (.done .ret (St.mk [V.t [V1.a [C.p (PV.l 7 M.length (rowP encPg M))],V1.c (C.p (PV.z (Value.slice none 0 0)))]] []))
 (.done .normal
 (cst 111 [(2,.c (.p (.l 1 T.length (rowP encI T)))),(3,.c (.ptr 0 0)),(4,.c (.ptr 1 0)),(6,.c (.ptr 2 0))] [.cells 27 [.p (.l 7 M.length (rowP encPg M))],.cells 31 [.p (.i .i64 p.kd),.p (.s p.ru),.p (.i .i64 p.ve),.p (.l 2 p.L.length (rowP enc2 p.L)),.p (.i .i64 p.st),.p (.i .i64 p.se),.p (.s p.to)],.cells 27 [.p (.z (Value.slice none 0 0))]])):=by kernel_rfl
theorem tAm4 (M:List Pg) (p:Pg) (T:List Int):exTs (extGP M) (takeL 1 (dropL 2 (dropL 4 (pcs Try.prog Try.f22)))) (cst 111 [(2,listV encI 1 T),(3,.c (.ptr 0 0)),(4,.c (.ptr 1 0)),(6,.c (.ptr 2 0))] [.cells 27 [.p (listP encPg 7 M)],.cells 31 [.p (.i .i64 p.kd),.p (.s p.ru),.p (.i .i64 p.ve),.p (listP enc2 2 p.L),.p (.i .i64 p.st),.p (.i .i64 p.se),.p (.s p.to)],.cells 27 [.p (.z (.slice none 0 0))]]) (endG (msk 111 [2,3,4,6,11]) (resOf Try.prog Try.f22))=Tr.rq
 (((M.length=M.length∧∀ (e o:Nat),e<M.length→o<7→PLe (rowP encPg M e o) (rowP encPg M e o))∧IsL enc2 2 (decL dec2 p.L.length (rowP enc2 p.L)) p.L.length (rowP enc2 p.L)) ∧
 M.length≤1000000∧(Pg.mk p.kd p.ru p.ve (decL dec2 p.L.length (rowP enc2 p.L)) p.st p.se p.to).L.length≤1000000)
 (.done .normal
 (cst 111 [(2,.c (.p (.l 1 T.length (rowP encI T)))),(3,.c (.ptr 0 0)),(4,.c (.ptr 1 0)),(6,.c (.ptr 2 0)),(11,.c (.p (.l 1 (pagedZ M (Pg.mk p.kd p.ru p.ve (decL dec2 p.L.length (rowP enc2 p.L)) p.st p.se p.to)).length (rowP encI (pagedZ M (Pg.mk p.kd p.ru p.ve (decL dec2 p.L.length (rowP enc2 p.L)) p.st p.se p.to))))))] [.cells 27 [.p (.l 7 M.length (rowP encPg M))],.cells 31 [.p (.i .i64 p.kd),.p (.s p.ru),.p (.i .i64 p.ve),.p (.l 2 p.L.length (rowP enc2 p.L)),.p (.i .i64 p.st),.p (.i .i64 p.se),.p (.s p.to)],.cells 27 [.p (.z (Value.slice none 0 0))]])):=by kernel_rfl
theorem tAm5 (M:List Pg) (p:Pg) (W T:List Int):exTs (extIn W T) (takeL 3 (dropL 1 (dropL 2 (dropL 4 (pcs Try.prog Try.f22))))) (cst 111 [(2,listV encI 1 T),(3,.c (.ptr 0 0)),(4,.c (.ptr 1 0)),(6,.c (.ptr 2 0)),(11,listV encI 1 W)] [.cells 27 [.p (listP encPg 7 M)],.cells 31 [.p (.i .i64 p.kd),.p (.s p.ru),.p (.i .i64 p.ve),.p (listP enc2 2 p.L),.p (.i .i64 p.st),.p (.i .i64 p.se),.p (.s p.to)],.cells 27 [.p (.z (.slice none 0 0))]]) (endG (msk 111 [2,3,4,6,11,12,13,14]) (resOf Try.prog Try.f22))=Tr.rq (IsL encI 1 W W.length (rowP encI W)∧(↑W.length:Int)=(↑W.length:Int)∧W.length≤1000000)
 (.rq (W.length=W.length)
 (.rq ((W.length+T.length) * 8≤140737488355328∧W.length+T.length≤140737488355328∧∀ (e o:Nat),e<T.length→o<1→oneC (C.p (rowP encI T e o))=true)
 (.rq
 ((conVs 4 1 (W.length+T.length) [V.c (C.sl 4 1 0 (W.length+T.length))] ∧
 ∀ (e o:Nat),
 e<W.length+T.length→o<1→isF (appF W.length (fun e o => C.p (PV.i IntKind.i64 (W.getD e default))) (fun e o => C.p (PV.i IntKind.i64 (T.getD e default))) e o)=true) ∧
 (IsL encI 1 (W ++ T) (W.length+T.length) fun e o => unP (appF W.length (fun e o => C.p (rowP encI W e o)) (fun e o => C.p (rowP encI T e o)) (e+0) o))∧(W ++ T).length≤1000000)
 (.done .normal
 (cst 111 [(2,.c (.p (.l 1 T.length (rowP encI T)))),(3,.c (.ptr 0 0)),(4,.c (.ptr 1 0)),(6,.c (.ptr 2 0)),(11,.c (.p (.l 1 W.length (rowP encI W)))),(12,.c (.p (.l 1 (setL (W ++ T)).length (rowP encI (setL (W ++ T)))))),(13,.c (.p (.z (Value.slice none 0 0)))),(14,.c (.p (.i .i64 0)))] [.cells 27 [.p (.l 7 M.length (rowP encPg M))],.cells 31 [.p (.i .i64 p.kd),.p (.s p.ru),.p (.i .i64 p.ve),.p (.l 2 p.L.length (rowP enc2 p.L)),.p (.i .i64 p.st),.p (.i .i64 p.se),.p (.s p.to)],.cells 27 [.p (.z (Value.slice none 0 0))]]))))):=by kernel_rfl
theorem tAm6 (M out:List Pg) (p:Pg) (W T A:List Int) (k i:Nat):exTs ext0 (takeL 2 (lpB (pcs Try.prog Try.f22) 10)) (cst 111 [(2,listV encI 1 T),(3,.c (.ptr 0 0)),(4,.c (.ptr 1 0)),(6,.c (.ptr 2 0)),(11,listV encI 1 W),(12,listV encI 1 A),(13,.c (.sl 3 7 0 k)),(14,iV (i:Nat))] [.cells 27 [.p (listP encPg 7 M)],.cells 31 [.p (.i .i64 p.kd),.p (.s p.ru),.p (.i .i64 p.ve),.p (listP enc2 2 p.L),.p (.i .i64 p.st),.p (.i .i64 p.se),.p (.s p.to)],.cells 27 [.p (.z (.slice none 0 0))],.row 31 7 k (rowC encPg out)]) (endG (msk 111 [2,3,4,6,11,12,13,14]) (resOf Try.prog Try.f22))=bT (decide ((↑i:Int)<(↑A.length:Int)))
 (.done .normal
 (cst 111 [(2,.c (.p (.l 1 T.length (rowP encI T)))),(3,.c (.ptr 0 0)),(4,.c (.ptr 1 0)),(6,.c (.ptr 2 0)),(11,.c (.p (.l 1 W.length (rowP encI W)))),(12,.c (.p (.l 1 A.length (rowP encI A)))),(13,.c (.sl 3 7 0 k)),(14,.c (.p (.i .i64 (↑i:Int))))] [.cells 27 [.p (.l 7 M.length (rowP encPg M))],.cells 31 [.p (.i .i64 p.kd),.p (.s p.ru),.p (.i .i64 p.ve),.p (.l 2 p.L.length (rowP enc2 p.L)),.p (.i .i64 p.st),.p (.i .i64 p.se),.p (.s p.to)],.cells 27 [.p (.z (Value.slice none 0 0))],.row 31 7 k fun e o => renC [0,1,2,3] (rowC encPg out e o)]))
 (.done (.exit 2)
 (cst 111 [(2,.c (.p (.l 1 T.length (rowP encI T)))),(3,.c (.ptr 0 0)),(4,.c (.ptr 1 0)),(6,.c (.ptr 2 0)),(11,.c (.p (.l 1 W.length (rowP encI W)))),(12,.c (.p (.l 1 A.length (rowP encI A)))),(13,.c (.sl 3 7 0 k)),(14,.c (.p (.i .i64 (↑i:Int))))] [.cells 27 [.p (.l 7 M.length (rowP encPg M))],.cells 31 [.p (.i .i64 p.kd),.p (.s p.ru),.p (.i .i64 p.ve),.p (.l 2 p.L.length (rowP enc2 p.L)),.p (.i .i64 p.st),.p (.i .i64 p.se),.p (.s p.to)],.cells 27 [.p (.z (Value.slice none 0 0))],.row 31 7 k fun e o => renC [0,1,2,3] (rowC encPg out e o)])):=by kernel_rfl
theorem tAm7 (M out:List Pg) (p:Pg) (W T A:List Int) (k i:Nat):exTs extHs (takeL 3 (flat (inr (nth .skip (lpB (pcs Try.prog Try.f22) 10) 2)))) (cst 111 [(2,listV encI 1 T),(3,.c (.ptr 0 0)),(4,.c (.ptr 1 0)),(6,.c (.ptr 2 0)),(11,listV encI 1 W),(12,listV encI 1 A),(13,.c (.sl 3 7 0 k)),(14,iV (i:Nat))] [.cells 27 [.p (listP encPg 7 M)],.cells 31 [.p (.i .i64 p.kd),.p (.s p.ru),.p (.i .i64 p.ve),.p (listP enc2 2 p.L),.p (.i .i64 p.st),.p (.i .i64 p.se),.p (.s p.to)],.cells 27 [.p (.z (.slice none 0 0))],.row 31 7 k (rowC encPg out)]) (endG (msk 111 [2,3,4,6,11,12,13,14,15,16,17]) (resOf Try.prog Try.f22))=Tr.rq (0≤(↑i:Int)∧(↑i:Int)<(↑A.length:Int))
 (.rq (0≤(↑i:Int)∧(↑i:Int)<(↑A.length:Int))
 (.rq (IsL encI 1 (decL decI W.length (rowP encI W)) W.length (rowP encI W)∧(decL decI W.length (rowP encI W)).length≤1000000)
 (.rq (0≤(↑i:Int)∧(↑i:Int)<(↑A.length:Int))
 (.rq (IsL encI 1 (decL decI T.length (rowP encI T)) T.length (rowP encI T)∧(decL decI T.length (rowP encI T)).length≤1000000)
 (.done .normal
 (cst 111 [(2,.c (.p (.l 1 T.length (rowP encI T)))),(3,.c (.ptr 0 0)),(4,.c (.ptr 1 0)),(6,.c (.ptr 2 0)),(11,.c (.p (.l 1 W.length (rowP encI W)))),(12,.c (.p (.l 1 A.length (rowP encI A)))),(13,.c (.sl 3 7 0 k)),(14,.c (.p (.i .i64 (↑i:Int)))),(15,.c (.ptr 4 0)),(16,.c (.p (.b (decide (A.getD (↑i:Int).toNat default∈decL decI W.length (rowP encI W)))))),(17,.c (.p (.b (decide (A.getD (↑i:Int).toNat default∈decL decI T.length (rowP encI T))))))] [.cells 27 [.p (.l 7 M.length (rowP encPg M))],.cells 31 [.p (.i .i64 p.kd),.p (.s p.ru),.p (.i .i64 p.ve),.p (.l 2 p.L.length (rowP enc2 p.L)),.p (.i .i64 p.st),.p (.i .i64 p.se),.p (.s p.to)],.cells 27 [.p (.z (Value.slice none 0 0))],.row 31 7 k fun e o => renC [0,1,2,3,4] (rowC encPg out e o),.cells 31 [.p (.i .i64 0),.p (.s p.ru),.p (.i .i64 p.ve),.p (.l 2 p.L.length (rowP enc2 p.L)),.p (.i .i64 (A.getD (↑i:Int).toNat default)),.p (.i .i64 p.se),.p (.s (ByteArray.mk #[]))]])))))):=by kernel_rfl
theorem tAm8 (M out:List Pg) (p:Pg) (W T A:List Int) (k i:Nat) (t:Int) (x y:Bool):exTs (extAd M) (dropL 3 (flat (inr (nth .skip (lpB (pcs Try.prog Try.f22) 10) 2)))) (cst 111 [(2,listV encI 1 T),(3,.c (.ptr 0 0)),(4,.c (.ptr 1 0)),(6,.c (.ptr 2 0)),(11,listV encI 1 W),(12,listV encI 1 A),(13,.c (.sl 3 7 0 k)),(14,iV (i:Nat)),(15,.c (.ptr 4 0)),(16,bV x),(17,bV y)] [.cells 27 [.p (listP encPg 7 M)],.cells 31 [.p (.i .i64 p.kd),.p (.s p.ru),.p (.i .i64 p.ve),.p (listP enc2 2 p.L),.p (.i .i64 p.st),.p (.i .i64 p.se),.p (.s p.to)],.cells 27 [.p (.z (.slice none 0 0))],.row 31 7 k (rowC encPg out),.cells 31 [.p (.i .i64 0),.p (.s p.ru),.p (.i .i64 p.ve),.p (listP enc2 2 p.L),.p (.i .i64 t),.p (.i .i64 p.se),.p (.s ⟨#[]⟩)]]) (endG (msk 111 [2,3,4,6,11,12,13,14]) (resOf Try.prog Try.f22))=bT x
 (bT (!y)
 (bT y
 (bT (!x)
 (bT (!x == y)
 (.rq (k=k)
 (.rq (1≤1)
 (.rq
 ((k+1) * 88≤140737488355328 ∧
 k+1≤140737488355328 ∧
 ∀ (e o:Nat),
 e<1 →
 o<7 →
 oneC
 (bslF
 [C.p (PV.i IntKind.i64 2),C.p (PV.s p.ru),C.p (PV.i IntKind.i64 p.ve),C.p (PV.l 2 p.L.length (rowP enc2 p.L)),C.p (PV.i IntKind.i64 t),C.p (PV.i IntKind.i64 p.se),
 C.p (PV.s (ByteArray.mk #[]))]
 7 1 (e+0) o) =
 true)
 (.rq
 (((M.length=M.length∧∀ (e o:Nat),e<M.length→o<7→PLe (rowP encPg M e o) (rowP encPg M e o)) ∧
 IsL enc2 2 (decL dec2 p.L.length (rowP enc2 p.L)) p.L.length (rowP enc2 p.L)) ∧
 M.length≤1000000)
 (.done .normal
 (cst 111 [(2,.c (.p (.l 1 T.length (rowP encI T)))),(3,.c (.ptr 0 0)),(4,.c (.ptr 1 0)),(6,.c (.ptr 2 0)),(11,.c (.p (.l 1 W.length (rowP encI W)))),(12,.c (.p (.l 1 A.length (rowP encI A)))),(13,.c (.sl 3 7 0 (k+1))),(14,.c (.p (.i .i64 (↑i:Int))))] [.cells 27 [.p (.l 7 (M ++ [Pg.mk 2 p.ru p.ve (decL dec2 p.L.length (rowP enc2 p.L)) t p.se (ByteArray.mk #[])]).length (rowP encPg (M ++ [Pg.mk 2 p.ru p.ve (decL dec2 p.L.length (rowP enc2 p.L)) t p.se (ByteArray.mk #[])])))],.cells 31 [.p (.i .i64 p.kd),.p (.s p.ru),.p (.i .i64 p.ve),.p (.l 2 p.L.length (rowP enc2 p.L)),.p (.i .i64 p.st),.p (.i .i64 p.se),.p (.s p.to)],.cells 27 [.p (.z (Value.slice none 0 0))],.row 31 7 (k+1) fun e o => renC [0,1,2,6] (appF k (rowC encPg out) (fun e o => nth C.top [C.p (PV.i IntKind.i64 2),C.p (PV.s p.ru),C.p (PV.i IntKind.i64 p.ve),C.p (PV.l 2 p.L.length (rowP enc2 p.L)),C.p (PV.i IntKind.i64 t),C.p (PV.i IntKind.i64 p.se),C.p (PV.s (ByteArray.mk #[]))] ((e+0) * 7+o)) e o)]))))))
 (.done .normal
 (cst 111 [(2,.c (.p (.l 1 T.length (rowP encI T)))),(3,.c (.ptr 0 0)),(4,.c (.ptr 1 0)),(6,.c (.ptr 2 0)),(11,.c (.p (.l 1 W.length (rowP encI W)))),(12,.c (.p (.l 1 A.length (rowP encI A)))),(13,.c (.sl 3 7 0 k)),(14,.c (.p (.i .i64 (↑i:Int))))] [.cells 27 [.p (.l 7 M.length (rowP encPg M))],.cells 31 [.p (.i .i64 p.kd),.p (.s p.ru),.p (.i .i64 p.ve),.p (.l 2 p.L.length (rowP enc2 p.L)),.p (.i .i64 p.st),.p (.i .i64 p.se),.p (.s p.to)],.cells 27 [.p (.z (Value.slice none 0 0))],.row 31 7 k fun e o => renC [0,1,2,3] (rowC encPg out e o)])))
 (bT (!x == y)
 (.rq (k=k)
 (.rq (1≤1)
 (.rq
 ((k+1) * 88≤140737488355328 ∧
 k+1≤140737488355328 ∧
 ∀ (e o:Nat),
 e<1 →
 o<7 →
 oneC
 (bslF
 [C.p (PV.i IntKind.i64 1),C.p (PV.s p.ru),C.p (PV.i IntKind.i64 p.ve),C.p (PV.l 2 p.L.length (rowP enc2 p.L)),C.p (PV.i IntKind.i64 t),C.p (PV.i IntKind.i64 p.se),
 C.p (PV.s (ByteArray.mk #[]))]
 7 1 (e+0) o) =
 true)
 (.rq
 (((M.length=M.length∧∀ (e o:Nat),e<M.length→o<7→PLe (rowP encPg M e o) (rowP encPg M e o)) ∧
 IsL enc2 2 (decL dec2 p.L.length (rowP enc2 p.L)) p.L.length (rowP enc2 p.L)) ∧
 M.length≤1000000)
 (.done .normal
 (cst 111 [(2,.c (.p (.l 1 T.length (rowP encI T)))),(3,.c (.ptr 0 0)),(4,.c (.ptr 1 0)),(6,.c (.ptr 2 0)),(11,.c (.p (.l 1 W.length (rowP encI W)))),(12,.c (.p (.l 1 A.length (rowP encI A)))),(13,.c (.sl 3 7 0 (k+1))),(14,.c (.p (.i .i64 (↑i:Int))))] [.cells 27 [.p (.l 7 (M ++ [Pg.mk 1 p.ru p.ve (decL dec2 p.L.length (rowP enc2 p.L)) t p.se (ByteArray.mk #[])]).length (rowP encPg (M ++ [Pg.mk 1 p.ru p.ve (decL dec2 p.L.length (rowP enc2 p.L)) t p.se (ByteArray.mk #[])])))],.cells 31 [.p (.i .i64 p.kd),.p (.s p.ru),.p (.i .i64 p.ve),.p (.l 2 p.L.length (rowP enc2 p.L)),.p (.i .i64 p.st),.p (.i .i64 p.se),.p (.s p.to)],.cells 27 [.p (.z (Value.slice none 0 0))],.row 31 7 (k+1) fun e o => renC [0,1,2,6] (appF k (rowC encPg out) (fun e o => nth C.top [C.p (PV.i IntKind.i64 1),C.p (PV.s p.ru),C.p (PV.i IntKind.i64 p.ve),C.p (PV.l 2 p.L.length (rowP enc2 p.L)),C.p (PV.i IntKind.i64 t),C.p (PV.i IntKind.i64 p.se),C.p (PV.s (ByteArray.mk #[]))] ((e+0) * 7+o)) e o)]))))))
 (.done .normal
 (cst 111 [(2,.c (.p (.l 1 T.length (rowP encI T)))),(3,.c (.ptr 0 0)),(4,.c (.ptr 1 0)),(6,.c (.ptr 2 0)),(11,.c (.p (.l 1 W.length (rowP encI W)))),(12,.c (.p (.l 1 A.length (rowP encI A)))),(13,.c (.sl 3 7 0 k)),(14,.c (.p (.i .i64 (↑i:Int))))] [.cells 27 [.p (.l 7 M.length (rowP encPg M))],.cells 31 [.p (.i .i64 p.kd),.p (.s p.ru),.p (.i .i64 p.ve),.p (.l 2 p.L.length (rowP enc2 p.L)),.p (.i .i64 p.st),.p (.i .i64 p.se),.p (.s p.to)],.cells 27 [.p (.z (Value.slice none 0 0))],.row 31 7 k fun e o => renC [0,1,2,3] (rowC encPg out e o)]))))
 (bT (!x == y)
 (.rq (k=k)
 (.rq (1≤1)
 (.rq
 ((k+1) * 88≤140737488355328 ∧
 k+1≤140737488355328 ∧
 ∀ (e o:Nat),
 e<1 →
 o<7 →
 oneC
 (bslF
 [C.p (PV.i IntKind.i64 1),C.p (PV.s p.ru),C.p (PV.i IntKind.i64 p.ve),C.p (PV.l 2 p.L.length (rowP enc2 p.L)),C.p (PV.i IntKind.i64 t),C.p (PV.i IntKind.i64 p.se),
 C.p (PV.s (ByteArray.mk #[]))]
 7 1 (e+0) o) =
 true)
 (.rq
 (((M.length=M.length∧∀ (e o:Nat),e<M.length→o<7→PLe (rowP encPg M e o) (rowP encPg M e o)) ∧
 IsL enc2 2 (decL dec2 p.L.length (rowP enc2 p.L)) p.L.length (rowP enc2 p.L)) ∧
 M.length≤1000000)
 (.done .normal
 (cst 111 [(2,.c (.p (.l 1 T.length (rowP encI T)))),(3,.c (.ptr 0 0)),(4,.c (.ptr 1 0)),(6,.c (.ptr 2 0)),(11,.c (.p (.l 1 W.length (rowP encI W)))),(12,.c (.p (.l 1 A.length (rowP encI A)))),(13,.c (.sl 3 7 0 (k+1))),(14,.c (.p (.i .i64 (↑i:Int))))] [.cells 27 [.p (.l 7 (M ++ [Pg.mk 1 p.ru p.ve (decL dec2 p.L.length (rowP enc2 p.L)) t p.se (ByteArray.mk #[])]).length (rowP encPg (M ++ [Pg.mk 1 p.ru p.ve (decL dec2 p.L.length (rowP enc2 p.L)) t p.se (ByteArray.mk #[])])))],.cells 31 [.p (.i .i64 p.kd),.p (.s p.ru),.p (.i .i64 p.ve),.p (.l 2 p.L.length (rowP enc2 p.L)),.p (.i .i64 p.st),.p (.i .i64 p.se),.p (.s p.to)],.cells 27 [.p (.z (Value.slice none 0 0))],.row 31 7 (k+1) fun e o => renC [0,1,2,6] (appF k (rowC encPg out) (fun e o => nth C.top [C.p (PV.i IntKind.i64 1),C.p (PV.s p.ru),C.p (PV.i IntKind.i64 p.ve),C.p (PV.l 2 p.L.length (rowP enc2 p.L)),C.p (PV.i IntKind.i64 t),C.p (PV.i IntKind.i64 p.se),C.p (PV.s (ByteArray.mk #[]))] ((e+0) * 7+o)) e o)]))))))
 (.done .normal
 (cst 111 [(2,.c (.p (.l 1 T.length (rowP encI T)))),(3,.c (.ptr 0 0)),(4,.c (.ptr 1 0)),(6,.c (.ptr 2 0)),(11,.c (.p (.l 1 W.length (rowP encI W)))),(12,.c (.p (.l 1 A.length (rowP encI A)))),(13,.c (.sl 3 7 0 k)),(14,.c (.p (.i .i64 (↑i:Int))))] [.cells 27 [.p (.l 7 M.length (rowP encPg M))],.cells 31 [.p (.i .i64 p.kd),.p (.s p.ru),.p (.i .i64 p.ve),.p (.l 2 p.L.length (rowP enc2 p.L)),.p (.i .i64 p.st),.p (.i .i64 p.se),.p (.s p.to)],.cells 27 [.p (.z (Value.slice none 0 0))],.row 31 7 k fun e o => renC [0,1,2,3] (rowC encPg out e o)]))))
 (bT y
 (bT (!x)
 (bT (!x == y)
 (.rq (k=k)
 (.rq (1≤1)
 (.rq
 ((k+1) * 88≤140737488355328 ∧
 k+1≤140737488355328 ∧
 ∀ (e o:Nat),
 e<1 →
 o<7 →
 oneC
 (bslF
 [C.p (PV.i IntKind.i64 2),C.p (PV.s p.ru),C.p (PV.i IntKind.i64 p.ve),C.p (PV.l 2 p.L.length (rowP enc2 p.L)),C.p (PV.i IntKind.i64 t),C.p (PV.i IntKind.i64 p.se),
 C.p (PV.s (ByteArray.mk #[]))]
 7 1 (e+0) o) =
 true)
 (.rq
 (((M.length=M.length∧∀ (e o:Nat),e<M.length→o<7→PLe (rowP encPg M e o) (rowP encPg M e o)) ∧
 IsL enc2 2 (decL dec2 p.L.length (rowP enc2 p.L)) p.L.length (rowP enc2 p.L)) ∧
 M.length≤1000000)
 (.done .normal
 (cst 111 [(2,.c (.p (.l 1 T.length (rowP encI T)))),(3,.c (.ptr 0 0)),(4,.c (.ptr 1 0)),(6,.c (.ptr 2 0)),(11,.c (.p (.l 1 W.length (rowP encI W)))),(12,.c (.p (.l 1 A.length (rowP encI A)))),(13,.c (.sl 3 7 0 (k+1))),(14,.c (.p (.i .i64 (↑i:Int))))] [.cells 27 [.p (.l 7 (M ++ [Pg.mk 2 p.ru p.ve (decL dec2 p.L.length (rowP enc2 p.L)) t p.se (ByteArray.mk #[])]).length (rowP encPg (M ++ [Pg.mk 2 p.ru p.ve (decL dec2 p.L.length (rowP enc2 p.L)) t p.se (ByteArray.mk #[])])))],.cells 31 [.p (.i .i64 p.kd),.p (.s p.ru),.p (.i .i64 p.ve),.p (.l 2 p.L.length (rowP enc2 p.L)),.p (.i .i64 p.st),.p (.i .i64 p.se),.p (.s p.to)],.cells 27 [.p (.z (Value.slice none 0 0))],.row 31 7 (k+1) fun e o => renC [0,1,2,6] (appF k (rowC encPg out) (fun e o => nth C.top [C.p (PV.i IntKind.i64 2),C.p (PV.s p.ru),C.p (PV.i IntKind.i64 p.ve),C.p (PV.l 2 p.L.length (rowP enc2 p.L)),C.p (PV.i IntKind.i64 t),C.p (PV.i IntKind.i64 p.se),C.p (PV.s (ByteArray.mk #[]))] ((e+0) * 7+o)) e o)]))))))
 (.done .normal
 (cst 111 [(2,.c (.p (.l 1 T.length (rowP encI T)))),(3,.c (.ptr 0 0)),(4,.c (.ptr 1 0)),(6,.c (.ptr 2 0)),(11,.c (.p (.l 1 W.length (rowP encI W)))),(12,.c (.p (.l 1 A.length (rowP encI A)))),(13,.c (.sl 3 7 0 k)),(14,.c (.p (.i .i64 (↑i:Int))))] [.cells 27 [.p (.l 7 M.length (rowP encPg M))],.cells 31 [.p (.i .i64 p.kd),.p (.s p.ru),.p (.i .i64 p.ve),.p (.l 2 p.L.length (rowP enc2 p.L)),.p (.i .i64 p.st),.p (.i .i64 p.se),.p (.s p.to)],.cells 27 [.p (.z (Value.slice none 0 0))],.row 31 7 k fun e o => renC [0,1,2,3] (rowC encPg out e o)])))
 (bT (!x == y)
 (.rq (k=k)
 (.rq (1≤1)
 (.rq
 ((k+1) * 88≤140737488355328 ∧
 k+1≤140737488355328 ∧
 ∀ (e o:Nat),
 e<1 →
 o<7 →
 oneC
 (bslF
 [C.p (PV.i IntKind.i64 0),C.p (PV.s p.ru),C.p (PV.i IntKind.i64 p.ve),C.p (PV.l 2 p.L.length (rowP enc2 p.L)),C.p (PV.i IntKind.i64 t),C.p (PV.i IntKind.i64 p.se),
 C.p (PV.s (ByteArray.mk #[]))]
 7 1 (e+0) o) =
 true)
 (.rq
 (((M.length=M.length∧∀ (e o:Nat),e<M.length→o<7→PLe (rowP encPg M e o) (rowP encPg M e o)) ∧
 IsL enc2 2 (decL dec2 p.L.length (rowP enc2 p.L)) p.L.length (rowP enc2 p.L)) ∧
 M.length≤1000000)
 (.done .normal
 (cst 111 [(2,.c (.p (.l 1 T.length (rowP encI T)))),(3,.c (.ptr 0 0)),(4,.c (.ptr 1 0)),(6,.c (.ptr 2 0)),(11,.c (.p (.l 1 W.length (rowP encI W)))),(12,.c (.p (.l 1 A.length (rowP encI A)))),(13,.c (.sl 3 7 0 (k+1))),(14,.c (.p (.i .i64 (↑i:Int))))] [.cells 27 [.p (.l 7 (M ++ [Pg.mk 0 p.ru p.ve (decL dec2 p.L.length (rowP enc2 p.L)) t p.se (ByteArray.mk #[])]).length (rowP encPg (M ++ [Pg.mk 0 p.ru p.ve (decL dec2 p.L.length (rowP enc2 p.L)) t p.se (ByteArray.mk #[])])))],.cells 31 [.p (.i .i64 p.kd),.p (.s p.ru),.p (.i .i64 p.ve),.p (.l 2 p.L.length (rowP enc2 p.L)),.p (.i .i64 p.st),.p (.i .i64 p.se),.p (.s p.to)],.cells 27 [.p (.z (Value.slice none 0 0))],.row 31 7 (k+1) fun e o => renC [0,1,2,6] (appF k (rowC encPg out) (fun e o => nth C.top [C.p (PV.i IntKind.i64 0),C.p (PV.s p.ru),C.p (PV.i IntKind.i64 p.ve),C.p (PV.l 2 p.L.length (rowP enc2 p.L)),C.p (PV.i IntKind.i64 t),C.p (PV.i IntKind.i64 p.se),C.p (PV.s (ByteArray.mk #[]))] ((e+0) * 7+o)) e o)]))))))
 (.done .normal
 (cst 111 [(2,.c (.p (.l 1 T.length (rowP encI T)))),(3,.c (.ptr 0 0)),(4,.c (.ptr 1 0)),(6,.c (.ptr 2 0)),(11,.c (.p (.l 1 W.length (rowP encI W)))),(12,.c (.p (.l 1 A.length (rowP encI A)))),(13,.c (.sl 3 7 0 k)),(14,.c (.p (.i .i64 (↑i:Int))))] [.cells 27 [.p (.l 7 M.length (rowP encPg M))],.cells 31 [.p (.i .i64 p.kd),.p (.s p.ru),.p (.i .i64 p.ve),.p (.l 2 p.L.length (rowP enc2 p.L)),.p (.i .i64 p.st),.p (.i .i64 p.se),.p (.s p.to)],.cells 27 [.p (.z (Value.slice none 0 0))],.row 31 7 k fun e o => renC [0,1,2,3] (rowC encPg out e o)]))))
 (bT (!x == y)
 (.rq (k=k)
 (.rq (1≤1)
 (.rq
 ((k+1) * 88≤140737488355328 ∧
 k+1≤140737488355328 ∧
 ∀ (e o:Nat),
 e<1 →
 o<7 →
 oneC
 (bslF
 [C.p (PV.i IntKind.i64 0),C.p (PV.s p.ru),C.p (PV.i IntKind.i64 p.ve),C.p (PV.l 2 p.L.length (rowP enc2 p.L)),C.p (PV.i IntKind.i64 t),C.p (PV.i IntKind.i64 p.se),
 C.p (PV.s (ByteArray.mk #[]))]
 7 1 (e+0) o) =
 true)
 (.rq
 (((M.length=M.length∧∀ (e o:Nat),e<M.length→o<7→PLe (rowP encPg M e o) (rowP encPg M e o)) ∧
 IsL enc2 2 (decL dec2 p.L.length (rowP enc2 p.L)) p.L.length (rowP enc2 p.L)) ∧
 M.length≤1000000)
 (.done .normal
 (cst 111 [(2,.c (.p (.l 1 T.length (rowP encI T)))),(3,.c (.ptr 0 0)),(4,.c (.ptr 1 0)),(6,.c (.ptr 2 0)),(11,.c (.p (.l 1 W.length (rowP encI W)))),(12,.c (.p (.l 1 A.length (rowP encI A)))),(13,.c (.sl 3 7 0 (k+1))),(14,.c (.p (.i .i64 (↑i:Int))))] [.cells 27 [.p (.l 7 (M ++ [Pg.mk 0 p.ru p.ve (decL dec2 p.L.length (rowP enc2 p.L)) t p.se (ByteArray.mk #[])]).length (rowP encPg (M ++ [Pg.mk 0 p.ru p.ve (decL dec2 p.L.length (rowP enc2 p.L)) t p.se (ByteArray.mk #[])])))],.cells 31 [.p (.i .i64 p.kd),.p (.s p.ru),.p (.i .i64 p.ve),.p (.l 2 p.L.length (rowP enc2 p.L)),.p (.i .i64 p.st),.p (.i .i64 p.se),.p (.s p.to)],.cells 27 [.p (.z (Value.slice none 0 0))],.row 31 7 (k+1) fun e o => renC [0,1,2,6] (appF k (rowC encPg out) (fun e o => nth C.top [C.p (PV.i IntKind.i64 0),C.p (PV.s p.ru),C.p (PV.i IntKind.i64 p.ve),C.p (PV.l 2 p.L.length (rowP enc2 p.L)),C.p (PV.i IntKind.i64 t),C.p (PV.i IntKind.i64 p.se),C.p (PV.s (ByteArray.mk #[]))] ((e+0) * 7+o)) e o)]))))))
 (.done .normal
 (cst 111 [(2,.c (.p (.l 1 T.length (rowP encI T)))),(3,.c (.ptr 0 0)),(4,.c (.ptr 1 0)),(6,.c (.ptr 2 0)),(11,.c (.p (.l 1 W.length (rowP encI W)))),(12,.c (.p (.l 1 A.length (rowP encI A)))),(13,.c (.sl 3 7 0 k)),(14,.c (.p (.i .i64 (↑i:Int))))] [.cells 27 [.p (.l 7 M.length (rowP encPg M))],.cells 31 [.p (.i .i64 p.kd),.p (.s p.ru),.p (.i .i64 p.ve),.p (.l 2 p.L.length (rowP enc2 p.L)),.p (.i .i64 p.st),.p (.i .i64 p.se),.p (.s p.to)],.cells 27 [.p (.z (Value.slice none 0 0))],.row 31 7 k fun e o => renC [0,1,2,3] (rowC encPg out e o)])))))
 (bT y
 (bT (!x)
 (bT (!x == y)
 (.rq (k=k)
 (.rq (1≤1)
 (.rq
 ((k+1) * 88≤140737488355328 ∧
 k+1≤140737488355328 ∧
 ∀ (e o:Nat),
 e<1 →
 o<7 →
 oneC
 (bslF
 [C.p (PV.i IntKind.i64 2),C.p (PV.s p.ru),C.p (PV.i IntKind.i64 p.ve),C.p (PV.l 2 p.L.length (rowP enc2 p.L)),C.p (PV.i IntKind.i64 t),C.p (PV.i IntKind.i64 p.se),
 C.p (PV.s (ByteArray.mk #[]))]
 7 1 (e+0) o) =
 true)
 (.rq
 (((M.length=M.length∧∀ (e o:Nat),e<M.length→o<7→PLe (rowP encPg M e o) (rowP encPg M e o)) ∧
 IsL enc2 2 (decL dec2 p.L.length (rowP enc2 p.L)) p.L.length (rowP enc2 p.L)) ∧
 M.length≤1000000)
 (.done .normal
 (cst 111 [(2,.c (.p (.l 1 T.length (rowP encI T)))),(3,.c (.ptr 0 0)),(4,.c (.ptr 1 0)),(6,.c (.ptr 2 0)),(11,.c (.p (.l 1 W.length (rowP encI W)))),(12,.c (.p (.l 1 A.length (rowP encI A)))),(13,.c (.sl 3 7 0 (k+1))),(14,.c (.p (.i .i64 (↑i:Int))))] [.cells 27 [.p (.l 7 (M ++ [Pg.mk 2 p.ru p.ve (decL dec2 p.L.length (rowP enc2 p.L)) t p.se (ByteArray.mk #[])]).length (rowP encPg (M ++ [Pg.mk 2 p.ru p.ve (decL dec2 p.L.length (rowP enc2 p.L)) t p.se (ByteArray.mk #[])])))],.cells 31 [.p (.i .i64 p.kd),.p (.s p.ru),.p (.i .i64 p.ve),.p (.l 2 p.L.length (rowP enc2 p.L)),.p (.i .i64 p.st),.p (.i .i64 p.se),.p (.s p.to)],.cells 27 [.p (.z (Value.slice none 0 0))],.row 31 7 (k+1) fun e o => renC [0,1,2,6] (appF k (rowC encPg out) (fun e o => nth C.top [C.p (PV.i IntKind.i64 2),C.p (PV.s p.ru),C.p (PV.i IntKind.i64 p.ve),C.p (PV.l 2 p.L.length (rowP enc2 p.L)),C.p (PV.i IntKind.i64 t),C.p (PV.i IntKind.i64 p.se),C.p (PV.s (ByteArray.mk #[]))] ((e+0) * 7+o)) e o)]))))))
 (.done .normal
 (cst 111 [(2,.c (.p (.l 1 T.length (rowP encI T)))),(3,.c (.ptr 0 0)),(4,.c (.ptr 1 0)),(6,.c (.ptr 2 0)),(11,.c (.p (.l 1 W.length (rowP encI W)))),(12,.c (.p (.l 1 A.length (rowP encI A)))),(13,.c (.sl 3 7 0 k)),(14,.c (.p (.i .i64 (↑i:Int))))] [.cells 27 [.p (.l 7 M.length (rowP encPg M))],.cells 31 [.p (.i .i64 p.kd),.p (.s p.ru),.p (.i .i64 p.ve),.p (.l 2 p.L.length (rowP enc2 p.L)),.p (.i .i64 p.st),.p (.i .i64 p.se),.p (.s p.to)],.cells 27 [.p (.z (Value.slice none 0 0))],.row 31 7 k fun e o => renC [0,1,2,3] (rowC encPg out e o)])))
 (bT (!x == y)
 (.rq (k=k)
 (.rq (1≤1)
 (.rq
 ((k+1) * 88≤140737488355328 ∧
 k+1≤140737488355328 ∧
 ∀ (e o:Nat),
 e<1 →
 o<7 →
 oneC
 (bslF
 [C.p (PV.i IntKind.i64 0),C.p (PV.s p.ru),C.p (PV.i IntKind.i64 p.ve),C.p (PV.l 2 p.L.length (rowP enc2 p.L)),C.p (PV.i IntKind.i64 t),C.p (PV.i IntKind.i64 p.se),
 C.p (PV.s (ByteArray.mk #[]))]
 7 1 (e+0) o) =
 true)
 (.rq
 (((M.length=M.length∧∀ (e o:Nat),e<M.length→o<7→PLe (rowP encPg M e o) (rowP encPg M e o)) ∧
 IsL enc2 2 (decL dec2 p.L.length (rowP enc2 p.L)) p.L.length (rowP enc2 p.L)) ∧
 M.length≤1000000)
 (.done .normal
 (cst 111 [(2,.c (.p (.l 1 T.length (rowP encI T)))),(3,.c (.ptr 0 0)),(4,.c (.ptr 1 0)),(6,.c (.ptr 2 0)),(11,.c (.p (.l 1 W.length (rowP encI W)))),(12,.c (.p (.l 1 A.length (rowP encI A)))),(13,.c (.sl 3 7 0 (k+1))),(14,.c (.p (.i .i64 (↑i:Int))))] [.cells 27 [.p (.l 7 (M ++ [Pg.mk 0 p.ru p.ve (decL dec2 p.L.length (rowP enc2 p.L)) t p.se (ByteArray.mk #[])]).length (rowP encPg (M ++ [Pg.mk 0 p.ru p.ve (decL dec2 p.L.length (rowP enc2 p.L)) t p.se (ByteArray.mk #[])])))],.cells 31 [.p (.i .i64 p.kd),.p (.s p.ru),.p (.i .i64 p.ve),.p (.l 2 p.L.length (rowP enc2 p.L)),.p (.i .i64 p.st),.p (.i .i64 p.se),.p (.s p.to)],.cells 27 [.p (.z (Value.slice none 0 0))],.row 31 7 (k+1) fun e o => renC [0,1,2,6] (appF k (rowC encPg out) (fun e o => nth C.top [C.p (PV.i IntKind.i64 0),C.p (PV.s p.ru),C.p (PV.i IntKind.i64 p.ve),C.p (PV.l 2 p.L.length (rowP enc2 p.L)),C.p (PV.i IntKind.i64 t),C.p (PV.i IntKind.i64 p.se),C.p (PV.s (ByteArray.mk #[]))] ((e+0) * 7+o)) e o)]))))))
 (.done .normal
 (cst 111 [(2,.c (.p (.l 1 T.length (rowP encI T)))),(3,.c (.ptr 0 0)),(4,.c (.ptr 1 0)),(6,.c (.ptr 2 0)),(11,.c (.p (.l 1 W.length (rowP encI W)))),(12,.c (.p (.l 1 A.length (rowP encI A)))),(13,.c (.sl 3 7 0 k)),(14,.c (.p (.i .i64 (↑i:Int))))] [.cells 27 [.p (.l 7 M.length (rowP encPg M))],.cells 31 [.p (.i .i64 p.kd),.p (.s p.ru),.p (.i .i64 p.ve),.p (.l 2 p.L.length (rowP enc2 p.L)),.p (.i .i64 p.st),.p (.i .i64 p.se),.p (.s p.to)],.cells 27 [.p (.z (Value.slice none 0 0))],.row 31 7 k fun e o => renC [0,1,2,3] (rowC encPg out e o)]))))
 (bT (!x == y)
 (.rq (k=k)
 (.rq (1≤1)
 (.rq
 ((k+1) * 88≤140737488355328 ∧
 k+1≤140737488355328 ∧
 ∀ (e o:Nat),
 e<1 →
 o<7 →
 oneC
 (bslF
 [C.p (PV.i IntKind.i64 0),C.p (PV.s p.ru),C.p (PV.i IntKind.i64 p.ve),C.p (PV.l 2 p.L.length (rowP enc2 p.L)),C.p (PV.i IntKind.i64 t),C.p (PV.i IntKind.i64 p.se),
 C.p (PV.s (ByteArray.mk #[]))]
 7 1 (e+0) o) =
 true)
 (.rq
 (((M.length=M.length∧∀ (e o:Nat),e<M.length→o<7→PLe (rowP encPg M e o) (rowP encPg M e o)) ∧
 IsL enc2 2 (decL dec2 p.L.length (rowP enc2 p.L)) p.L.length (rowP enc2 p.L)) ∧
 M.length≤1000000)
 (.done .normal
 (cst 111 [(2,.c (.p (.l 1 T.length (rowP encI T)))),(3,.c (.ptr 0 0)),(4,.c (.ptr 1 0)),(6,.c (.ptr 2 0)),(11,.c (.p (.l 1 W.length (rowP encI W)))),(12,.c (.p (.l 1 A.length (rowP encI A)))),(13,.c (.sl 3 7 0 (k+1))),(14,.c (.p (.i .i64 (↑i:Int))))] [.cells 27 [.p (.l 7 (M ++ [Pg.mk 0 p.ru p.ve (decL dec2 p.L.length (rowP enc2 p.L)) t p.se (ByteArray.mk #[])]).length (rowP encPg (M ++ [Pg.mk 0 p.ru p.ve (decL dec2 p.L.length (rowP enc2 p.L)) t p.se (ByteArray.mk #[])])))],.cells 31 [.p (.i .i64 p.kd),.p (.s p.ru),.p (.i .i64 p.ve),.p (.l 2 p.L.length (rowP enc2 p.L)),.p (.i .i64 p.st),.p (.i .i64 p.se),.p (.s p.to)],.cells 27 [.p (.z (Value.slice none 0 0))],.row 31 7 (k+1) fun e o => renC [0,1,2,6] (appF k (rowC encPg out) (fun e o => nth C.top [C.p (PV.i IntKind.i64 0),C.p (PV.s p.ru),C.p (PV.i IntKind.i64 p.ve),C.p (PV.l 2 p.L.length (rowP enc2 p.L)),C.p (PV.i IntKind.i64 t),C.p (PV.i IntKind.i64 p.se),C.p (PV.s (ByteArray.mk #[]))] ((e+0) * 7+o)) e o)]))))))
 (.done .normal
 (cst 111 [(2,.c (.p (.l 1 T.length (rowP encI T)))),(3,.c (.ptr 0 0)),(4,.c (.ptr 1 0)),(6,.c (.ptr 2 0)),(11,.c (.p (.l 1 W.length (rowP encI W)))),(12,.c (.p (.l 1 A.length (rowP encI A)))),(13,.c (.sl 3 7 0 k)),(14,.c (.p (.i .i64 (↑i:Int))))] [.cells 27 [.p (.l 7 M.length (rowP encPg M))],.cells 31 [.p (.i .i64 p.kd),.p (.s p.ru),.p (.i .i64 p.ve),.p (.l 2 p.L.length (rowP enc2 p.L)),.p (.i .i64 p.st),.p (.i .i64 p.se),.p (.s p.to)],.cells 27 [.p (.z (Value.slice none 0 0))],.row 31 7 k fun e o => renC [0,1,2,3] (rowC encPg out e o)])))):=by kernel_rfl
theorem tAm9 (M out:List Pg) (p:Pg) (W T A:List Int) (k i:Nat):exTs ext0 (dropL 3 (lpB (pcs Try.prog Try.f22) 10)) (cst 111 [(2,listV encI 1 T),(3,.c (.ptr 0 0)),(4,.c (.ptr 1 0)),(6,.c (.ptr 2 0)),(11,listV encI 1 W),(12,listV encI 1 A),(13,.c (.sl 3 7 0 k)),(14,iV (i:Nat))] [.cells 27 [.p (listP encPg 7 M)],.cells 31 [.p (.i .i64 p.kd),.p (.s p.ru),.p (.i .i64 p.ve),.p (listP enc2 2 p.L),.p (.i .i64 p.st),.p (.i .i64 p.se),.p (.s p.to)],.cells 27 [.p (.z (.slice none 0 0))],.row 31 7 k (rowC encPg out)]) (endG (msk 111 [2,3,4,6,11,12,13,14]) (resOf Try.prog Try.f22))=Tr.rq (inR IntKind.i64 ((↑i:Int)+1))
 (.done .normal
 (cst 111 [(2,.c (.p (.l 1 T.length (rowP encI T)))),(3,.c (.ptr 0 0)),(4,.c (.ptr 1 0)),(6,.c (.ptr 2 0)),(11,.c (.p (.l 1 W.length (rowP encI W)))),(12,.c (.p (.l 1 A.length (rowP encI A)))),(13,.c (.sl 3 7 0 k)),(14,.c (.p (.i .i64 ((↑i:Int)+1))))] [.cells 27 [.p (.l 7 M.length (rowP encPg M))],.cells 31 [.p (.i .i64 p.kd),.p (.s p.ru),.p (.i .i64 p.ve),.p (.l 2 p.L.length (rowP enc2 p.L)),.p (.i .i64 p.st),.p (.i .i64 p.se),.p (.s p.to)],.cells 27 [.p (.z (Value.slice none 0 0))],.row 31 7 k fun e o => renC [0,1,2,3] (rowC encPg out e o)])):=by kernel_rfl
theorem tAm10 (M out:List Pg) (k:Nat):exTs ext0 (dropL 11 (pcs Try.prog Try.f22)) (cst 111 [(3,.c (.ptr 0 0)),(6,.c (.ptr 1 0)),(13,.c (.sl 2 7 0 k))] [.cells 27 [.p (listP encPg 7 M)],.cells 27 [.p (.z (.slice none 0 0))],.row 31 7 k (rowC encPg out)]) (endG [] (resOf Try.prog Try.f22))=Tr.rq (0+k≤k∧∀ (e o:Nat),e<k→o<7→isF (rowC encPg out (e+0) o)=true)
 (.done .ret (St.mk [V.t [V1.a [C.p (PV.l 7 M.length (rowP encPg M))],V1.c (C.p (PV.l 7 k fun e o => unP (rowC encPg out (e+0) o)))]] [])):=by kernel_rfl
theorem tOf1 (A:List Int):exTs ext0 (takeL 3 (pcs Try.prog Try.f12)) (st0 Try.f12 [listV encI 1 A]) (endG (msk 43 [0,2,3,4]) (resOf Try.prog Try.f12))=Tr.done X.normal
 (cst 43 [(0,.c (.p (.l 1 A.length (rowP encI A)))),(2,.c (.ptr 0 0)),(3,.c (.ptr 1 0)),(4,.c (.p (.i .i64 0)))] [.cells 27 [.p (.z (Value.slice none 0 0))],.cells 27 [.p (.z (Value.slice none 0 0))]]):=by kernel_rfl
theorem tOf2 (A:List Int) (M:List Pg) (i:Nat):exTs ext0 (takeL 2 (lpB (pcs Try.prog Try.f12) 3)) (cst 43 [(0,listV encI 1 A),(2,.c (.ptr 0 0)),(3,.c (.ptr 1 0)),(4,iV (i:Nat))] [.cells 27 [.p (.z (.slice none 0 0))],.cells 27 [.p (listP encPg 7 M)]]) (endG (msk 43 [0,2,3,4]) (resOf Try.prog Try.f12))=Tr.rq (inR IntKind.i64 ((↑i:Int)+12))
 (bT (decide ((↑i:Int)+12<(↑A.length:Int)))
 (bT (decide ((↑i:Int)<104))
 (.done .normal
 (cst 43 [(0,.c (.p (.l 1 A.length (rowP encI A)))),(2,.c (.ptr 0 0)),(3,.c (.ptr 1 0)),(4,.c (.p (.i .i64 (↑i:Int))))] [.cells 27 [.p (.z (Value.slice none 0 0))],.cells 27 [.p (.l 7 M.length (rowP encPg M))]]))
 (.done (.exit 0)
 (cst 43 [(0,.c (.p (.l 1 A.length (rowP encI A)))),(2,.c (.ptr 0 0)),(3,.c (.ptr 1 0)),(4,.c (.p (.i .i64 (↑i:Int))))] [.cells 27 [.p (.z (Value.slice none 0 0))],.cells 27 [.p (.l 7 M.length (rowP encPg M))]])))
 (.done (.exit 0)
 (cst 43 [(0,.c (.p (.l 1 A.length (rowP encI A)))),(2,.c (.ptr 0 0)),(3,.c (.ptr 1 0)),(4,.c (.p (.i .i64 (↑i:Int))))] [.cells 27 [.p (.z (Value.slice none 0 0))],.cells 27 [.p (.l 7 M.length (rowP encPg M))]]))):=by kernel_rfl
theorem tOf3 (A:List Int) (M:List Pg) (p:Pg) (i:Nat):exTs (extPg p) (takeL 2 (flat (inr (nth .skip (lpB (pcs Try.prog Try.f12) 3) 2)))) (cst 43 [(0,listV encI 1 A),(2,.c (.ptr 0 0)),(3,.c (.ptr 1 0)),(4,iV (i:Nat))] [.cells 27 [.p (.z (.slice none 0 0))],.cells 27 [.p (listP encPg 7 M)]]) (endG (msk 43 [0,2,3,4,5,25]) (resOf Try.prog Try.f12))=Tr.rq
 (IsL encI 1 (decL decI A.length (rowP encI A)) A.length (rowP encI A) ∧
 (∀ (t:Int),t∈decL decI A.length (rowP encI A)→inR IntKind.i64 t)∧inPos (↑i:Int)∧pageZ (decL decI A.length (rowP encI A)) (↑i:Int)=p)
 (.rq (inR IntKind.i64 ((↑i:Int)+6))
 (.rq (IsL encI 1 (decL decI A.length (rowP encI A)) A.length (rowP encI A)∧(∀ (t:Int),t∈decL decI A.length (rowP encI A)→inR IntKind.i64 t)∧Int.ofNat 0<Int.ofNat 3)
 (.done .normal
 (cst 43 [(0,.c (.p (.l 1 A.length (rowP encI A)))),(2,.c (.ptr 0 0)),(3,.c (.ptr 1 0)),(4,.c (.p (.i .i64 (↑i:Int)))),(5,.c (.ptr 2 0)),(25,.c (.p (.b (pickZ (decL decI A.length (rowP encI A)) ((↑i:Int)+6) 3 == 0))))] [.cells 27 [.p (.z (Value.slice none 0 0))],.cells 27 [.p (.l 7 M.length (rowP encPg M))],.cells 31 [.p (.i .i64 p.kd),.p (.s p.ru),.p (.i .i64 p.ve),.p (.l 2 p.L.length (rowP enc2 p.L)),.p (.i .i64 p.st),.p (.i .i64 p.se),.p (.s p.to)]])))):=by kernel_rfl
noncomputable def opsOf:Array Oper:=rawOps (cndA (nth .skip (flat (inr (nth .skip (lpB (pcs Try.prog Try.f12) 3) 2))) 2))
noncomputable def alOf:List AI:=match cOpers Try.prog opsOf opsOf.toList with
 | some al => al
 | none => []
theorem tOf4 (A T:List Int) (M M' out:List Pg) (p:Pg) (i:Nat):runQ (extOA M p T M' out) alOf 9 (fun s' => .done .normal s') (cst 43 [(0,listV encI 1 A),(2,.c (.ptr 0 0)),(3,.c (.ptr 1 0)),(4,iV (i:Nat)),(5,.c (.ptr 2 0))] [.cells 27 [.p (.z (.slice none 0 0))],.cells 27 [.p (listP encPg 7 M)],.cells 31 [.p (.i .i64 p.kd),.p (.s p.ru),.p (.i .i64 p.ve),.p (listP enc2 2 p.L),.p (.i .i64 p.st),.p (.i .i64 p.se),.p (.s p.to)]])=Tr.rq (inR IntKind.i64 ((↑i:Int)+7))
  (Tr.rq
   (IsL encI 1 (decL decI A.length (rowP encI A)) A.length (rowP encI A) ∧
    (∀ (t:Int),t∈decL decI A.length (rowP encI A)→inR IntKind.i64 t)∧inPos ((↑i:Int)+7)∧startsZ (decL decI A.length (rowP encI A)) ((↑i:Int)+7)=T)
   (Tr.rq
    ((((M.length=M.length∧∀ (e o:Nat),e<M.length→o<7→PLe (rowP encPg M e o) (rowP encPg M e o)) ∧
       IsL enc2 2 (decL dec2 p.L.length (rowP enc2 p.L)) p.L.length (rowP enc2 p.L)∧Pg.mk p.kd p.ru p.ve (decL dec2 p.L.length (rowP enc2 p.L)) p.st p.se p.to=p) ∧
        IsL encI 1 T T.length (rowP encI T)) ∧
      (M.length+T.length≤100000∧p.L.length≤1000000)∧amZ M p T=(M',out))
    ((Tr.done X.normal
       (cst 43 [(0,V.c (C.p (PV.l 1 A.length (rowP encI A)))),(2,V.c (C.ptr 0 0)),(3,V.c (C.ptr 1 0)),(4,V.c (C.p (PV.i IntKind.i64 (↑i:Int)))),(5,V.c (C.ptr 2 0)),(26,V.t [V1.a [C.p (PV.l 7 M'.length (rowP encPg M'))],V1.c (C.p (PV.l 7 out.length (rowP encPg out)))]),(27,V.a [C.p (PV.l 7 M.length (rowP encPg M))]),(28,V.a [C.p (PV.i IntKind.i64 p.kd),C.p (PV.s p.ru),C.p (PV.i IntKind.i64 p.ve),C.p (PV.l 2 p.L.length (rowP enc2 p.L)),C.p (PV.i IntKind.i64 p.st),C.p (PV.i IntKind.i64 p.se),C.p (PV.s p.to)]),(29,V.c (C.p (PV.l 1 A.length (rowP encI A)))),(30,V.c (C.p (PV.i IntKind.i64 (↑i:Int)))),(31,V.c (C.p (PV.i IntKind.i64 ((↑i:Int)+7)))),(32,V.c (C.p (PV.l 1 T.length (rowP encI T)))),(33,V.t [V1.a [C.p (PV.l 7 M'.length (rowP encPg M'))],V1.c (C.p (PV.l 7 out.length (rowP encPg out)))]),(34,V.a [C.p (PV.l 7 M'.length (rowP encPg M'))]),(35,V.c (C.p (PV.l 7 out.length (rowP encPg out))))] [AO.cells 27 [C.p (PV.z (Value.slice none 0 0))],AO.cells 27 [C.p (PV.l 7 M'.length (rowP encPg M'))],AO.cells 31 [C.p (PV.i IntKind.i64 p.kd),C.p (PV.s p.ru),C.p (PV.i IntKind.i64 p.ve),C.p (PV.l 2 p.L.length (rowP enc2 p.L)),C.p (PV.i IntKind.i64 p.st),C.p (PV.i IntKind.i64 p.se),C.p (PV.s p.to)]])).alt
      (Tr.done X.normal
       (cst 43 [(0,V.c (C.p (PV.l 1 A.length (rowP encI A)))),(2,V.c (C.ptr 0 0)),(3,V.c (C.ptr 1 0)),(4,V.c (C.p (PV.i IntKind.i64 (↑i:Int)))),(5,V.c (C.ptr 2 0)),(26,V.t [V1.a [C.p (PV.l 7 M'.length (rowP encPg M'))],V1.c (C.p (PV.l 7 out.length (rowP encPg out)))]),(27,V.a [C.p (PV.l 7 M.length (rowP encPg M))]),(28,V.a [C.p (PV.i IntKind.i64 p.kd),C.p (PV.s p.ru),C.p (PV.i IntKind.i64 p.ve),C.p (PV.l 2 p.L.length (rowP enc2 p.L)),C.p (PV.i IntKind.i64 p.st),C.p (PV.i IntKind.i64 p.se),C.p (PV.s p.to)]),(29,V.c (C.p (PV.l 1 A.length (rowP encI A)))),(30,V.c (C.p (PV.i IntKind.i64 (↑i:Int)))),(31,V.c (C.p (PV.i IntKind.i64 ((↑i:Int)+7)))),(32,V.c (C.p (PV.l 1 T.length (rowP encI T)))),(33,V.t [V1.a [C.p (PV.l 7 M'.length (rowP encPg M'))],V1.c (C.p (PV.l 7 out.length (rowP encPg out)))]),(34,V.a [C.p (PV.l 7 M'.length (rowP encPg M'))]),(35,V.c (C.p (PV.l 7 out.length (rowP encPg out))))] [AO.cells 27 [C.p (PV.z (Value.slice none 0 0))],AO.cells 27 [C.p (PV.l 7 M'.length (rowP encPg M'))],AO.cells 31 [C.p (PV.i IntKind.i64 p.kd),C.p (PV.s p.ru),C.p (PV.i IntKind.i64 p.ve),C.p (PV.l 2 p.L.length (rowP enc2 p.L)),C.p (PV.i IntKind.i64 p.st),C.p (PV.i IntKind.i64 p.se),C.p (PV.s p.to)]]))))):=by kernel_rfl
theorem tOf5 (A:List Int) (M M':List Pg) (p:Pg) (i:Nat) (e:Int):exTs (extOF M p M' e) (flat (cndB (nth .skip (flat (inr (nth .skip (lpB (pcs Try.prog Try.f12) 3) 2))) 2))) (cst 43 [(0,listV encI 1 A),(2,.c (.ptr 0 0)),(3,.c (.ptr 1 0)),(4,iV (i:Nat)),(5,.c (.ptr 2 0))] [.cells 27 [.p (.z (.slice none 0 0))],.cells 27 [.p (listP encPg 7 M)],.cells 31 [.p (.i .i64 p.kd),.p (.s p.ru),.p (.i .i64 p.ve),.p (listP enc2 2 p.L),.p (.i .i64 p.st),.p (.i .i64 p.se),.p (.s p.to)]]) (endG (msk 43 [0,2,3,4]) (resOf Try.prog Try.f12))=Tr.rq
 (((M.length=M.length∧∀ (e o:Nat),e<M.length→o<7→PLe (rowP encPg M e o) (rowP encPg M e o)) ∧
 IsL enc2 2 (decL dec2 p.L.length (rowP enc2 p.L)) p.L.length (rowP enc2 p.L)∧Pg.mk p.kd p.ru p.ve (decL dec2 p.L.length (rowP enc2 p.L)) p.st p.se p.to=p) ∧
 (M.length≤1000000∧p.L.length≤1000000)∧frZ M p=(M',e))
 (.done .normal
 (cst 43 [(0,.c (.p (.l 1 A.length (rowP encI A)))),(2,.c (.ptr 0 0)),(3,.c (.ptr 1 0)),(4,.c (.p (.i .i64 (↑i:Int))))] [.cells 27 [.p (.z (Value.slice none 0 0))],.cells 27 [.p (.l 7 M'.length (rowP encPg M'))]])):=by kernel_rfl
theorem tOf6 (A:List Int) (M:List Pg) (i:Nat):exTs ext0 (dropL 3 (lpB (pcs Try.prog Try.f12) 3)) (cst 43 [(0,listV encI 1 A),(2,.c (.ptr 0 0)),(3,.c (.ptr 1 0)),(4,iV (i:Nat))] [.cells 27 [.p (.z (.slice none 0 0))],.cells 27 [.p (listP encPg 7 M)]]) (endG (msk 43 [0,2,3,4]) (resOf Try.prog Try.f12))=Tr.rq (inR IntKind.i64 ((↑i:Int)+13))
 (.done .normal
 (cst 43 [(0,.c (.p (.l 1 A.length (rowP encI A)))),(2,.c (.ptr 0 0)),(3,.c (.ptr 1 0)),(4,.c (.p (.i .i64 ((↑i:Int)+13))))] [.cells 27 [.p (.z (Value.slice none 0 0))],.cells 27 [.p (.l 7 M.length (rowP encPg M))]])):=by kernel_rfl
theorem tOf7 (M:List Pg):exTs ext0 (dropL 4 (pcs Try.prog Try.f12)) (cst 43 [(2,.c (.ptr 0 0)),(3,.c (.ptr 1 0))] [.cells 27 [.p (.z (.slice none 0 0))],.cells 27 [.p (listP encPg 7 M)]]) (endG [] (resOf Try.prog Try.f12))=Tr.done X.ret (St.mk [V.a [C.p (PV.l 7 M.length (rowP encPg M))]] []):=by kernel_rfl
end Go.AE
namespace Go.AE
set_option linter.unusedVariables false
set_option linter.unusedSimpArgs false
open Go.Proofs Go.Proofs.Ytfjihbmehhccoaa Gp Go.RowKit
theorem amO_snoc (W T:List Int) (p:Pg) (A:List Int) (i:Nat) (hi:i<A.length):amO W T p (A.take (i+1))=amO W T p (A.take i) ++ (match decide (A.getD i default∈W) != decide (A.getD i default∈T) with
  | true => [amPg p.ru p.ve p.L p.se T (A.getD i default)]
  | false => []):=by
 unfold amO
 rw [takeD hi,List.filter_append,List.map_append]
 congr 1
 rw [List.filter_cons]
 cases decide (A.getD i default∈W) != decide (A.getD i default∈T) <;> rfl
theorem amO_len (W T:List Int) (p:Pg) (A:List Int):(amO W T p A).length≤A.length:=by
 unfold amO
 rw [List.length_map]
 exact List.length_filter_le _ _
theorem setL_len (A:List Int):(setL A).length≤A.length:=by
 have h1:=compI_length (sortI A)
 rw [sortI_length] at h1
 exact h1
theorem pagedZ_len (M:List Pg) (p:Pg):(pagedZ M p).length≤M.length:=by
 have h1:=setL_len (pdL M p M.length)
 have h2:=pdL_len M p M.length
 unfold pagedZ;omega
section
variable {G:Nat→Option Obj}
set_option maxRecDepth 100000 in
theorem ints_fn (W:List Int) (hW:W.length≤1000000) (h:List AO):FnS Try.prog G 53 [listV encI 1 W,iV (W.length:Nat)] h fun x h' => x=.c (.sl (lenL h) 1 0 W.length)∧h'=snoc (.row 3 1 W.length fun e o => .p (rowP encI W e o)) h:=by
 refine fn_rowS (args:=[listV encI 1 W,iV (W.length:Nat)]) (r:=4) (ty:=3) (sz:=1) (n:=W.length) (F:=rowP encI W) (pre:=takeL 3 (pcs Try.prog Try.f53)) Try.func53 (by kernel_rfl) (by kernel_rfl) (by kernel_rfl) rfl ?_ h
 refine ExS.evH ext0_sound (tI W (W.length:Nat)) ?_
 rw [if_neg (by omega)]
 simp only [holds_rq,holds_leaf,show (↑W.length:Int).toNat=W.length from rfl,Nat.sub_zero,Nat.zero_add]
 exact ⟨⟨by omega,by omega,by omega⟩,⟨by omega,by omega,fun _ _ _ _ => rfl⟩,⟨rfl,fun j => by simp,0,_,rfl,rfl,fun e o he ho => by
   obtain rfl:o=0:=by omega
   rfl⟩⟩
theorem okIntsX (W:List Int):ModHOK Try.prog G 53 (mIntsX W):=by
 intro args h p v h' hm hp
 unfold mIntsX at hm
 split at hm;rotate_left;· cases hm
 split at hm;rotate_left;· cases hm
 rename_i x k _ q hx
 obtain ⟨rfl,rfl,rfl⟩:=some_three hm
 obtain ⟨hq,rfl,hW⟩:=hp
 exact FnS.args (args':=[listV encI 1 W,iV (W.length:Nat)]) (ints_fn W hW h) (.cons (leI_le hx hq) (.cons (.refl _) .nil))
theorem okSetX (U:List Int):ModOK Try.prog G 52 (mSetX U):=by
 intro args p v hm hp h
 unfold mSetX at hm
 split at hm;rotate_left;· cases hm
 split at hm;rotate_left;· cases hm
 rename_i x _ q hx
 obtain ⟨rfl,rfl⟩:=some_pair hm
 obtain ⟨hA,hlen⟩:=hp
 refine FnS.args (args':=[listV encI 1 U]) ?_ (.cons (leI_le hx hA) .nil)
 have:=okSet (G:=G) [listV encI 1 U] _ _ rfl ⟨by rw [decI_row];exact isL_row _ _ _,by rw [decI_row];exact hlen⟩ h
 rw [decI_row] at this
 exact this
theorem extIn_sound (W T:List Int):SoundExt Try.prog G (extIn W T):=extH_sound (by simp;exact ⟨okIntsX W,frzA_ok (okSetX (W ++ T))⟩)
theorem extGG_sound:SoundExt Try.prog G extGG:=extOf_sound (by simp;exact okGGood)
theorem extGT_sound:SoundExt Try.prog G extGT:=extOf_sound (by simp;exact okGTick)
theorem extGP_sound (M:List Pg):SoundExt Try.prog G (extGP M):=extOf_sound (by simp;exact okGPaged M)
theorem extHs_sound:SoundExt Try.prog G extHs:=extOf_sound (by simp;exact okHas)
theorem extAd_sound (M:List Pg):SoundExt Try.prog G (extAd M):=extOf_sound (by simp;exact okAddX M)
set_option maxRecDepth 100000 in
theorem okGAmX (M:List Pg) (p:Pg) (T:List Int) (Mr outr:List Pg):ModOK Try.prog G 22 (mGAmX M p T Mr outr):=by
 intro args p0 v hm hp h
 unfold mGAmX at hm
 split at hm;rotate_left;· cases hm
 split at hm;rotate_left;· cases hm
 rename_i x y z _ _ _ a b c hx hy hz
 obtain ⟨rfl,rfl⟩:=some_pair hm
 obtain ⟨⟨⟨hA,hB⟩,hC⟩,⟨hlen,hl2⟩,hr⟩:=hp
 refine FnS.args (args':=[ledV M,pgV p,listV encI 1 T]) ?_ (.cons (leL_le hx hA) (.cons (lePg_le hy hB) (.cons (leI_le hz hC) .nil)))
 clear hm hx hy hz hA hB hC
 refine fn_S Try.func22 (by kernel_rfl) rfl ?_ h
 refine ExS.evG extGG_sound 3 (tAm1 M p T) ?_
 simp only [holds_rq,holds_leaf,kf_normal,dec2_row]
 refine ⟨isL_row _ _ _,⟨?_⟩⟩
 have hr':tupV Mr outr=tupV (amZ M p T).1 (amZ M p T).2:=by rw [hr]
 rw [hr']
 clear hr hr'
 unfold amZ
 generalize pgOK ⟨0,p.ru,p.ve,p.L,0,p.se,⟨#[]⟩⟩=g0
 refine ExS.loop' (l:=dropL 3 (pcs Try.prog Try.f22)) (b:=inr (inr (nth .skip (pcs Try.prog Try.f22) 3))) (r:=dropL 4 (pcs Try.prog Try.f22)) (id:=0) (by kernel_rfl) (σ:=Nat × Bool)
   (fun (i,g) => cst 111 [(2,listV encI 1 T),(3,.c (.ptr 0 0)),(4,.c (.ptr 1 0)),(6,.c (.ptr 2 0)),(7,.c (.p (.z (.slice none 0 0)))),(8,bV g),(9,iV (i:Nat))] [.cells 27 [.p (listP encPg 7 M)],.cells 31 [.p (.i .i64 p.kd),.p (.s p.ru),.p (.i .i64 p.ve),.p (listP enc2 2 p.L),.p (.i .i64 p.st),.p (.i .i64 p.se),.p (.s p.to)],.cells 27 [.p (.z (.slice none 0 0))]]) (fun (i,g) => i≤T.length∧g=(g0 && (T.take i).all tickZ)) (fun (i,g) => T.length - i) (0,g0) ⟨Nat.zero_le _,by simp⟩ (weak_of_eq (by kernel_rfl)) ?_
 rintro ⟨i,g⟩ ⟨hi,hg⟩ Q1 q1n q1e -
 refine ExS.evH extGT_sound (tAm2 M p T g i) ?_
 simp only [holds_bT,holds_rq,holds_leaf,kf_normal,kf_exit,decide_eq_true_eq,decide_eq_false_iff_not,inR,show (↑i:Int).toNat=i from rfl]
 refine ⟨fun h1 => ?_,fun h1 => ⟨q1e _ ?_⟩⟩
 · have hsn:(T.take (i+1)).all tickZ=((T.take i).all tickZ && tickZ (T.getD i default)):=by
     rw [takeD (show i<T.length by omega),List.all_append];simp
   refine ⟨by omega,trivial,fun c => ⟨by omega,⟨q1n (i+1,tickZ (T.getD i default)) _ ⟨by omega,?_⟩ (by simp only;omega) (weak_of_eq (by kernel_rfl))⟩⟩,fun c => ⟨by omega,⟨q1n (i+1,false) _ ⟨by omega,?_⟩ (by simp only;omega) (weak_of_eq (by kernel_rfl))⟩⟩⟩
   · rw [hsn,← Bool.and_assoc,← hg,c];rfl
   · rw [hsn,← Bool.and_assoc,← hg,c];rfl
 obtain rfl:i=T.length:=by omega
 rw [List.take_length] at hg
 rw [← hg]
 refine ExS.pre ((weak_gc (msk 111 [2,3,4,6,7,8]) _).trans (weak_of_eq (by kernel_rfl))) (ExS.evG ext0_sound 2 (tAm3 M p T g) ?_)
 simp only [holds_bT,holds_leaf,kf_ret',kf_normal,Bool.not_eq_true',Bool.not_eq_false']
 refine ⟨fun c => ⟨?_⟩,fun c => ⟨?_⟩⟩
 · subst c
   exact VLe.t (.cons (VLe.refl _) (.cons (VLe.p (PLe.nil 7 _)) .nil))
 subst c
 refine ExS.pre (weak_of_eq (by kernel_rfl)) (ExS.evG (extGP_sound M) 1 (tAm4 M p T) ?_)
 simp only [holds_rq,holds_leaf,kf_normal,dec2_row]
 refine ⟨⟨⟨⟨trivial,fun _ _ _ _ => PLe.refl _⟩,isL_row _ _ _⟩,by omega,hl2⟩,⟨?_⟩⟩
 change ExS _ _ _ (tupV (M ++ amO (pagedZ M p) T p (setL (pagedZ M p ++ T))) (amO (pagedZ M p) T p (setL (pagedZ M p ++ T)))) _ (cst 111 [(2,listV encI 1 T),(3,.c (.ptr 0 0)),(4,.c (.ptr 1 0)),(6,.c (.ptr 2 0)),(11,listV encI 1 (pagedZ M p))] [.cells 27 [.p (listP encPg 7 M)],.cells 31 [.p (.i .i64 p.kd),.p (.s p.ru),.p (.i .i64 p.ve),.p (listP enc2 2 p.L),.p (.i .i64 p.st),.p (.i .i64 p.se),.p (.s p.to)],.cells 27 [.p (.z (.slice none 0 0))]]) _
 have hWl:=pagedZ_len M p
 generalize pagedZ M p=W at hWl ⊢
 refine ExS.evG (extIn_sound W T) 3 (tAm5 M p W T) ?_
 simp only [holds_rq,holds_leaf,kf_normal]
 have hAl:=setL_len (W ++ T)
 rw [List.length_append] at hAl
 refine ⟨⟨isL_row _ _ _,trivial,by omega⟩,trivial,⟨by omega,by omega,fun _ _ _ _ => rfl⟩,⟨⟨⟨⟨rfl,by omega⟩,trivial⟩,fun e o he ho => ?_⟩,⟨?_,by rw [List.length_append];omega⟩⟩,⟨?_⟩⟩
 · unfold appF
   split <;> rfl
 · refine ⟨by simp,fun e o he ho => ?_⟩
   obtain rfl:o=0:=by omega
   unfold appF
   dsimp only
   by_cases h1:e<W.length
   · rw [if_pos (by omega)]
     show PV.i .i64 (W.getD e default)=PV.i .i64 ((W ++ T).getD e default)
     rw [List.getD_eq_getElem?_getD,List.getD_eq_getElem?_getD,List.getElem?_append_left h1]
   · rw [if_neg (by omega)]
     show PV.i .i64 (T.getD (e - W.length) default)=PV.i .i64 ((W ++ T).getD e default)
     rw [List.getD_eq_getElem?_getD,List.getD_eq_getElem?_getD,List.getElem?_append_right (by omega)]
 generalize setL (W ++ T)=A at hAl ⊢
 refine ExS.loop' (l:=dropL 3 (dropL 1 (dropL 2 (dropL 4 (pcs Try.prog Try.f22))))) (b:=inr (inr (nth .skip (pcs Try.prog Try.f22) 10))) (r:=dropL 11 (pcs Try.prog Try.f22)) (id:=2) (by kernel_rfl) (σ:=Nat)
   (fun i => (fun M out k => cst 111 [(2,listV encI 1 T),(3,.c (.ptr 0 0)),(4,.c (.ptr 1 0)),(6,.c (.ptr 2 0)),(11,listV encI 1 W),(12,listV encI 1 A),(13,.c (.sl 3 7 0 k)),(14,iV (i:Nat))] [.cells 27 [.p (listP encPg 7 M)],.cells 31 [.p (.i .i64 p.kd),.p (.s p.ru),.p (.i .i64 p.ve),.p (listP enc2 2 p.L),.p (.i .i64 p.st),.p (.i .i64 p.se),.p (.s p.to)],.cells 27 [.p (.z (.slice none 0 0))],.row 31 7 k (rowC encPg out)]) (M ++ amO W T p (A.take i)) (amO W T p (A.take i)) (amO W T p (A.take i)).length) (fun i => i≤A.length) (fun i => A.length - i) 0 (Nat.zero_le _) ?_ ?_
 · have e:amO W T p (A.take 0)=[]:=rfl
   rw [e,List.append_nil]
   exact (weak_nil 31 7 (rowC encPg []) 13 (by kernel_rfl)).trans (weak_of_eq (by kernel_rfl))
 intro i hi Q1 q1n q1e _
 have hol:=amO_len W T p (A.take i)
 rw [List.length_take] at hol
 have hsn:=amO_snoc W T p A i
 generalize hO:amO W T p (A.take i)=out at hol hsn ⊢
 refine ExS.evG ext0_sound 2 (tAm6 (M ++ out) out p W T A out.length i) ?_
 simp only [holds_bT,holds_leaf,kf_normal,kf_exit,decide_eq_true_eq,decide_eq_false_iff_not]
 refine ⟨fun h1 => ⟨?_⟩,fun h1 => ⟨q1e _ ?_⟩⟩
 · have hlt:i<A.length:=by omega
   have hsn:=hsn hlt
   have after:∀ out2,out2=amO W T p (A.take (i+1))→ExS Try.prog G (resOf Try.prog Try.f22) (tupV (M ++ amO W T p A) (amO W T p A)) (dropL 3 (lpB (pcs Try.prog Try.f22) 10)) ((fun M out k => cst 111 [(2,listV encI 1 T),(3,.c (.ptr 0 0)),(4,.c (.ptr 1 0)),(6,.c (.ptr 2 0)),(11,listV encI 1 W),(12,listV encI 1 A),(13,.c (.sl 3 7 0 k)),(14,iV (i:Nat))] [.cells 27 [.p (listP encPg 7 M)],.cells 31 [.p (.i .i64 p.kd),.p (.s p.ru),.p (.i .i64 p.ve),.p (listP enc2 2 p.L),.p (.i .i64 p.st),.p (.i .i64 p.se),.p (.s p.to)],.cells 27 [.p (.z (.slice none 0 0))],.row 31 7 k (rowC encPg out)]) (M ++ out2) out2 out2.length) Q1:=fun out2 he => by
    subst he
    refine ExS.evH ext0_sound (tAm9 (M ++ amO W T p (A.take (i+1))) (amO W T p (A.take (i+1))) p W T A (amO W T p (A.take (i+1))).length i) ?_
    simp only [holds_rq,holds_leaf,kf_normal,inR]
    exact ⟨by omega,⟨q1n (i+1) _ (by omega) (by omega) (weak_of_eq (by kernel_rfl))⟩⟩
   refine ExS.blk' (l:=dropL 2 (lpB (pcs Try.prog Try.f22) 10)) (id:=3) (a:=inr (nth .skip (lpB (pcs Try.prog Try.f22) 10) 2)) (r:=dropL 3 (lpB (pcs Try.prog Try.f22) 10)) (by kernel_rfl) ?_
   intro Q2 q2n _ _
   refine ExS.pre (weak_of_eq (by kernel_rfl)) (ExS.evG extHs_sound 3 (tAm7 (M ++ out) out p W T A out.length i) ?_)
   simp only [holds_rq,holds_leaf,kf_normal,decI_row,show (↑i:Int).toNat=i from rfl]
   refine ⟨⟨by omega,by omega⟩,⟨by omega,by omega⟩,⟨isL_row _ _ _,by omega⟩,⟨by omega,by omega⟩,⟨isL_row _ _ _,by omega⟩,⟨?_⟩⟩
   generalize A.getD i default=t at hsn ⊢
   have hkd:(amPg p.ru p.ve p.L p.se T t)=⟨match decide (t∈T) with
    | true => 2
    | false => 1,p.ru,p.ve,p.L,t,p.se,⟨#[]⟩⟩:=rfl
   rw [hkd] at hsn
   clear hkd
   generalize decide (t∈W)=x at hsn ⊢
   generalize decide (t∈T)=y at hsn ⊢
   have hML:(M ++ out).length≤1000000:=by rw [List.length_append];omega
   have one:∀ (kd:Int) (e o:Nat),e<1→o<7→oneC (bslF [C.p (.i .i64 kd),C.p (.s p.ru),C.p (.i .i64 p.ve),C.p (.l 2 p.L.length (rowP enc2 p.L)),C.p (.i .i64 t),C.p (.i .i64 p.se),C.p (.s ⟨#[]⟩)] 7 1 (e+0) o)=true:=fun kd e o he ho => by
    obtain rfl:e=0:=by omega
    have:o=0∨o=1∨o=2∨o=3∨o=4∨o=5∨o=6:=by omega
    rcases this with rfl | rfl | rfl | rfl | rfl | rfl | rfl <;> rfl
   refine ExS.pre (weak_of_eq (by kernel_rfl)) (ExS.evH (extAd_sound (M ++ out)) (tAm8 (M ++ out) out p W T A out.length i t x y) ?_)
   have add:∀ kd:Int,amO W T p (A.take (i+1))=out ++ [⟨kd,p.ru,p.ve,p.L,t,p.se,⟨#[]⟩⟩]→Q2 .normal (cst 111 [(2,V.c (C.p (PV.l 1 T.length (rowP encI T)))),(3,V.c (C.ptr 0 0)),(4,V.c (C.ptr 1 0)),(6,V.c (C.ptr 2 0)),(11,V.c (C.p (PV.l 1 W.length (rowP encI W)))),(12,V.c (C.p (PV.l 1 A.length (rowP encI A)))),(13,V.c (C.sl 3 7 0 (out.length+1))),(14,V.c (C.p (PV.i IntKind.i64 (↑i:Int))))] [AO.cells 27 [C.p (PV.l 7 (M ++ out ++ [Pg.mk kd p.ru p.ve p.L t p.se (ByteArray.mk #[])]).length (rowP encPg (M ++ out ++ [Pg.mk kd p.ru p.ve p.L t p.se (ByteArray.mk #[])])))],AO.cells 31 [C.p (PV.i IntKind.i64 p.kd),C.p (PV.s p.ru),C.p (PV.i IntKind.i64 p.ve),C.p (PV.l 2 p.L.length (rowP enc2 p.L)),C.p (PV.i IntKind.i64 p.st),C.p (PV.i IntKind.i64 p.se),C.p (PV.s p.to)],AO.cells 27 [C.p (PV.z (Value.slice none 0 0))],AO.row 31 7 (out.length+1) fun e o => renC [0,1,2,6] (appF out.length (rowC encPg out) (fun e o => nth C.top [C.p (PV.i IntKind.i64 kd),C.p (PV.s p.ru),C.p (PV.i IntKind.i64 p.ve),C.p (PV.l 2 p.L.length (rowP enc2 p.L)),C.p (PV.i IntKind.i64 t),C.p (PV.i IntKind.i64 p.se),C.p (PV.s (ByteArray.mk #[]))] ((e+0) * 7+o)) e o)]):=fun kd he => by
    have hl2:out.length+1=(out ++ [Pg.mk kd p.ru p.ve p.L t p.se ⟨#[]⟩]).length:=by simp
    rw [hl2,List.append_assoc]
    refine q2n _ (ExS.pre ?_ (after (out ++ [⟨kd,p.ru,p.ve,p.L,t,p.se,⟨#[]⟩⟩]) he.symm))
    refine weak_cst ⟨rfl,rfl,rfl,⟨rfl,rfl,rfl,fun e o he ho => ?_⟩,trivial⟩
    exact app1' rfl (pg_at kd p.ve t p.se p.ru ⟨#[]⟩ p.L) (by simpa using he) ho
   have stay:amO W T p (A.take (i+1))=out→Q2 .normal (cst 111 [(2,V.c (C.p (PV.l 1 T.length (rowP encI T)))),(3,V.c (C.ptr 0 0)),(4,V.c (C.ptr 1 0)),(6,V.c (C.ptr 2 0)),(11,V.c (C.p (PV.l 1 W.length (rowP encI W)))),(12,V.c (C.p (PV.l 1 A.length (rowP encI A)))),(13,V.c (C.sl 3 7 0 out.length)),(14,V.c (C.p (PV.i IntKind.i64 (↑i:Int))))] [AO.cells 27 [C.p (PV.l 7 (M ++ out).length (rowP encPg (M ++ out)))],AO.cells 31 [C.p (PV.i IntKind.i64 p.kd),C.p (PV.s p.ru),C.p (PV.i IntKind.i64 p.ve),C.p (PV.l 2 p.L.length (rowP enc2 p.L)),C.p (PV.i IntKind.i64 p.st),C.p (PV.i IntKind.i64 p.se),C.p (PV.s p.to)],AO.cells 27 [C.p (PV.z (Value.slice none 0 0))],AO.row 31 7 out.length fun e o => renC [0,1,2,3] (rowC encPg out e o)]):=fun he => q2n _ (ExS.pre (weak_of_eq (by kernel_rfl)) (after out he.symm))
   cases x <;> cases y <;> simp only [holds_bT,holds_rq,holds_leaf,kf_normal,dec2_row,Bool.not_true,Bool.not_false,true_implies,false_implies,reduceCtorEq,and_true,true_and,beq_self_eq_true,show (false == true)=false from rfl,show (true == false)=false from rfl]
   · exact ⟨stay (by rw [hsn];exact List.append_nil _)⟩
   · exact ⟨Nat.le_refl _,⟨by omega,by omega,one 2⟩,⟨⟨fun _ _ _ _ => PLe.refl _,isL_row _ _ _⟩,hML⟩,⟨add 2 hsn⟩⟩
   · exact ⟨Nat.le_refl _,⟨by omega,by omega,one 1⟩,⟨⟨fun _ _ _ _ => PLe.refl _,isL_row _ _ _⟩,hML⟩,⟨add 1 hsn⟩⟩
   · exact ⟨stay (by rw [hsn];exact List.append_nil _)⟩
 · obtain rfl:i=A.length:=by omega
   rw [List.take_length] at hO
   rw [hO]
   refine ExS.pre ((weak_gc (msk 111 [3,6,13]) _).trans (weak_of_eq (by kernel_rfl))) (ExS.evH ext0_sound (tAm10 (M ++ out) out out.length) ?_)
   simp only [holds_rq,holds_leaf,kf_ret']
   exact ⟨⟨by omega,fun _ _ _ _ => rfl⟩,⟨VLe.refl _⟩⟩
end
end Go.AE
namespace Go.AE
set_option linter.unusedVariables false
set_option linter.unusedSimpArgs false
open Go.Proofs Go.Proofs.Ytfjihbmehhccoaa Gp Go.RowKit
def ofStep (A:List Int) (M:List Pg) (i:Nat):List Pg :=
 if pickZ A ((i:Int)+6) 3=0 then (amZ M (pageZ A i) (startsZ A ((i:Int)+7))).1 else (frZ M (pageZ A i)).1
def ofL (A:List Int):Nat→List Pg
 | 0 => []
 | n+1 => ofStep A (ofL A n) (13 * n)
def ofZ (A:List Int):List Pg:=ofL A (min 8 (A.length / 13))
def mGOfX (M:List Pg):Mod
 | [x] => match liOf x with
   | some (p,A) => some (p∧(∀ t∈A,inR .i64 t)∧A.length≤9223372036854775807∧ofZ A=M,ledV M)
   | none => none
 | _ => none
theorem startsZ_len (A:List Int) (a:Int):(startsZ A a).length≤5:=by
 unfold startsZ
 rw [stsZ_len]
 have:=pick_in (L:=A) (i:=a) (m:=6) (by omega)
 omega
theorem labZ_len (n:Int):(labZ n).length≤2:=by
 unfold labZ
 split
 · simp
 · split
   · simp
   · split <;> simp
theorem pageZ_L (A:List Int) (i:Int):(pageZ A i).L.length≤2:=labZ_len _
theorem amZ_len (M:List Pg) (p:Pg) (T:List Int):(amZ M p T).1.length≤2 * M.length+T.length:=by
 unfold amZ
 split
 · have h1:=amO_len (pagedZ M p) T p (setL (pagedZ M p ++ T))
   have h2:=setL_len (pagedZ M p ++ T)
   have h3:=pagedZ_len M p
   rw [List.length_append] at h2
   simp only [List.length_append]
   omega
 · simp only;omega
theorem frZ_len (M:List Pg) (p:Pg):(frZ M p).1.length≤M.length+1:=by
 unfold frZ
 split
 · simp
 · split
   · simp
   · split <;> simp
theorem ofStep_len (A:List Int) (M:List Pg) (i:Nat):(ofStep A M i).length≤2 * M.length+5:=by
 unfold ofStep
 split
 · have h1:=amZ_len M (pageZ A i) (startsZ A ((i:Int)+7))
   have h2:=startsZ_len A ((i:Int)+7)
   omega
 · have:=frZ_len M (pageZ A i)
   omega
theorem ofL_len (A:List Int):∀ n,(ofL A n).length+5≤5 * 2 ^ n
 | 0 => by simp [ofL]
 | n+1 => by
   have h1:=ofL_len A n
   have h2:=ofStep_len A (ofL A n) (13 * n)
   rw [ofL,Nat.pow_succ]
   omega
theorem ofL_le {A:List Int} {n:Nat} (h:n≤8):(ofL A n).length≤1275:=by
 have h1:=ofL_len A n
 have h2:2 ^ n≤2 ^ 8:=Nat.pow_le_pow_right (by omega) h
 have h3:2 ^ 8=256:=rfl
 omega
theorem ofZ_len (A:List Int):(ofZ A).length≤1275:=ofL_le (by omega)
section
variable {G:Nat→Option Obj}
theorem weak_cellP {st:St} {id k:Nat} {t0:TypeId} {vs:List C} {x y:PV} (hid:nth .gone st.h id=.cells t0 vs) (hk:nth .top vs k=.p x) (hle:PLe x y):WeakS G st ⟨st.t,upd (.cells t0 (upd (.p y) vs k)) st.h id⟩:=by
 intro β R a w hs
 have hh:=hs.hs
 have hlid:=nth_gone hid (by simp)
 have hl:∀ i,(nth .gone (upd (.cells t0 (upd (.p y) vs k)) st.h id) i).live=(nth .gone st.h i).live:=fun i => by
  by_cases e:id=i
  · subst e;rw [nth_upd_eq _ _ _ hlid,hid];rfl
  · rw [nth_upd_ne _ _ _ e]
 refine ⟨β,R,⟨hs.df,hs.tm,?_⟩,Fr.refl _ _ _,fun _ hb => hb⟩
 refine ⟨?_,?_,?_,hh.lt,hh.rlt,?_,hh.gl,?_⟩
 · intro i y hi;rw [upd_eq,List.length_set];exact hh.dom i y hi
 · intro i j b o1 o2 hi hj li lj
   rw [hl] at li lj
   exact hh.inj i j b o1 o2 hi hj li lj
 · intro i b o hi li
   rw [hl] at li
   exact hh.sep i b o hi li
 · intro i b o hi
   by_cases e:id=i
   · subst e
     rw [nth_upd_eq _ _ _ hlid]
     have hob:=hh.obj id b o hi
     rw [hid] at hob
     obtain ⟨cs,g1,g2⟩:=hob
     refine ⟨cs,g1,?_⟩
     clear hl hid hi
     generalize cs.toList=us at g2
     induction vs generalizing k us with
     | nil => exact g2
     | cons v vs ih =>
       cases us with
       | nil => exact g2.elim
       | cons u us =>
         cases k with
         | zero =>
           have hk:v=.p x:=hk
           subst hk
           exact ⟨hle _ _ _ g2.1,g2.2⟩
         | succ k => exact ⟨g2.1,ih hk us g2.2⟩
   · rw [nth_upd_ne _ _ _ e]
     exact hh.obj i b o hi
 · intro b ad hq
   obtain ⟨q1,q2,q3⟩:=hh.ql b ad hq
   exact ⟨q1,q2,fun i o hi => by rw [hl];exact q3 i o hi⟩
theorem okGPageX (p:Pg):ModOK Try.prog G 13 (mGPageX p):=by
 intro args p0 v hm hp h
 unfold mGPageX at hm
 split at hm;rotate_left;· cases hm
 split at hm;rotate_left;· cases hm
 rename_i x i _ q A hx
 obtain ⟨rfl,rfl⟩:=some_pair hm
 obtain ⟨hA,hI,hpos,rfl⟩:=hp
 refine FnS.args (args':=[listV encI 1 A,iV i]) ?_ (.cons (liOf_le hx hA) (.cons (.refl _) .nil))
 have:=okGPage (G:=G) [listV encI 1 A,iV i] _ _ rfl ⟨by rw [decI_row];exact isL_row _ _ _,by rw [decI_row];exact hI,hpos⟩ h
 rw [decI_row] at this
 exact this
theorem okGStartsX (T:List Int):ModOK Try.prog G 15 (mGStartsX T):=by
 intro args p0 v hm hp h
 unfold mGStartsX at hm
 split at hm;rotate_left;· cases hm
 split at hm;rotate_left;· cases hm
 rename_i x i _ q A hx
 obtain ⟨rfl,rfl⟩:=some_pair hm
 obtain ⟨hA,hI,hpos,rfl⟩:=hp
 refine FnS.args (args':=[listV encI 1 A,iV i]) ?_ (.cons (liOf_le hx hA) (.cons (.refl _) .nil))
 have:=okGStarts (G:=G) [listV encI 1 A,iV i] _ _ rfl ⟨by rw [decI_row];exact isL_row _ _ _,by rw [decI_row];exact hI,hpos⟩ h
 rw [decI_row] at this
 exact this
theorem okGFireX (M:List Pg) (p:Pg) (M':List Pg) (e:Int):ModOK Try.prog G 24 (mGFireX M p M' e):=by
 intro args p0 v hm hp h
 unfold mGFireX at hm
 split at hm;rotate_left;· cases hm
 split at hm;rotate_left;· cases hm
 rename_i x y _ _ a b hx hy
 obtain ⟨rfl,rfl⟩:=some_pair hm
 obtain ⟨⟨hA,hB⟩,⟨h1,h2⟩,he⟩:=hp
 refine FnS.args (args':=[ledV M,pgV p]) ?_ (.cons (leL_le hx hA) (.cons (lePg_le hy hB) .nil))
 have hd:decL dec2 p.L.length (rowP enc2 p.L)=p.L:=dec2_row _
 have:=okGFire (G:=G) M [ledV M,pgV p] _ _ rfl ⟨⟨⟨rfl,fun _ _ _ _ => PLe.refl _⟩,by rw [hd];exact isL_row _ _ _⟩,h1,by rw [hd];exact h2⟩ h
 rw [hd,he] at this
 exact this
theorem extPg_sound (p:Pg):SoundExt Try.prog G (extPg p):=extOf_sound (by simp;exact ⟨okGPageX p,okPick⟩)
theorem extOA_sound (M:List Pg) (p:Pg) (T:List Int) (M' out:List Pg):SoundExt Try.prog G (extOA M p T M' out):=extOf_sound (by simp;exact ⟨okGStartsX T,okGAmX M p T M' out⟩)
theorem extOF_sound (M:List Pg) (p:Pg) (M':List Pg) (e:Int):SoundExt Try.prog G (extOF M p M' e):=extOf_sound (by simp;exact okGFireX M p M' e)
set_option maxRecDepth 100000 in
theorem okGOfX (Mr:List Pg):ModOK Try.prog G 12 (mGOfX Mr):=by
 intro args p0 v hm hp h
 unfold mGOfX at hm
 split at hm;rotate_left;· cases hm
 split at hm;rotate_left;· cases hm
 rename_i x _ q A hx
 obtain ⟨rfl,rfl⟩:=some_pair hm
 obtain ⟨hA,hI,hAl,hr⟩:=hp
 subst hr
 refine FnS.args (args':=[listV encI 1 A]) ?_ (.cons (liOf_le hx hA) .nil)
 clear hm hx hA
 refine fn_S Try.func12 (by kernel_rfl) rfl ?_ h
 refine ExS.evG ext0_sound 3 (tOf1 A) ?_
 simp only [holds_leaf,kf_normal]
 refine ⟨?_⟩
 refine ExS.loop' (l:=dropL 3 (pcs Try.prog Try.f12)) (b:=inr (inr (nth .skip (pcs Try.prog Try.f12) 3))) (r:=dropL 4 (pcs Try.prog Try.f12)) (id:=0) (by kernel_rfl) (σ:=Nat)
   (fun n => (fun M i => cst 43 [(0,listV encI 1 A),(2,.c (.ptr 0 0)),(3,.c (.ptr 1 0)),(4,iV (i:Nat))] [.cells 27 [.p (.z (.slice none 0 0))],.cells 27 [.p (listP encPg 7 M)]]) (ofL A n) (13 * n)) (fun n => n≤min 8 (A.length / 13)) (fun n => 8 - n) 0 (Nat.zero_le _) ?_ ?_
 · show WeakS G _ ((fun M i => cst 43 [(0,listV encI 1 A),(2,.c (.ptr 0 0)),(3,.c (.ptr 1 0)),(4,iV (i:Nat))] [.cells 27 [.p (.z (.slice none 0 0))],.cells 27 [.p (listP encPg 7 M)]]) [] 0)
   exact (weak_cellP (id:=1) (k:=0) (t0:=27) (vs:=[.p (.z (.slice none 0 0))]) (y:=listP encPg 7 []) (by kernel_rfl) (by kernel_rfl) (PLe.nil 7 _)).trans (weak_of_eq (by kernel_rfl))
 intro n hn Q1 q1n q1e _
 have hMl:(ofL A n).length≤1275:=ofL_le (by omega)
 have hst:ofL A (n+1)=ofStep A (ofL A n) (13 * n):=rfl
 generalize hM:ofL A n=M at hMl hst ⊢
 refine ExS.evG ext0_sound 2 (tOf2 A M (13 * n)) ?_
 simp only [holds_bT,holds_rq,holds_leaf,kf_normal,kf_exit,decide_eq_true_eq,decide_eq_false_iff_not,inR]
 have ends:n=min 8 (A.length / 13)→Q1 (.exit 0) (cst 43 [(0,V.c (C.p (PV.l 1 A.length (rowP encI A)))),(2,V.c (C.ptr 0 0)),(3,V.c (C.ptr 1 0)),(4,V.c (C.p (PV.i IntKind.i64 (↑(13 * n):Int))))] [AO.cells 27 [C.p (PV.z (Value.slice none 0 0))],AO.cells 27 [C.p (PV.l 7 M.length (rowP encPg M))]]):=fun he => q1e _ (by
  refine ExS.pre ((weak_gc (msk 43 [2,3]) _).trans (weak_of_eq (by kernel_rfl))) (ExS.evH ext0_sound (tOf7 M) ?_)
  simp only [holds_leaf,kf_ret']
  refine ⟨?_⟩
  unfold ofZ
  rw [← he,hM]
  exact VLe.refl _)
 refine ⟨by omega,fun h1 => ⟨fun h2 => ⟨?_⟩,fun h2 => ⟨ends (by omega)⟩⟩,fun h1 => ⟨ends (by omega)⟩⟩
 refine ExS.blk' (l:=dropL 2 (lpB (pcs Try.prog Try.f12) 3)) (id:=1) (a:=inr (nth .skip (lpB (pcs Try.prog Try.f12) 3) 2)) (r:=dropL 3 (lpB (pcs Try.prog Try.f12) 3)) (by kernel_rfl) ?_
 intro Q2 q2n _ _
 have hpL:=pageZ_L A ((13 * n:Nat):Int)
 have hstep:ofStep A M (13 * n)=if pickZ A (((13 * n:Nat):Int)+6) 3=0 then (amZ M (pageZ A ((13 * n:Nat):Int)) (startsZ A (((13 * n:Nat):Int)+7))).1 else (frZ M (pageZ A ((13 * n:Nat):Int))).1:=rfl
 have hT:=startsZ_len A (((13 * n:Nat):Int)+7)
 refine ExS.pre (weak_of_eq (by kernel_rfl)) (ExS.evG (extPg_sound (pageZ A ((13 * n:Nat):Int))) 2 (tOf3 A M (pageZ A ((13 * n:Nat):Int)) (13 * n)) ?_)
 simp only [holds_rq,holds_leaf,kf_normal,decI_row,inR]
 have hpos:∀ d:Int,0≤d→d≤100→inPos (((13 * n:Nat):Int)+d):=fun d h3 h4 => by unfold inPos;omega
 have hpos0:inPos ((13 * n:Nat):Int):=by unfold inPos;omega
 refine ⟨⟨isL_row _ _ _,hI,hpos0,trivial⟩,by omega,⟨isL_row _ _ _,hI,by decide⟩,⟨?_⟩⟩
 have after:∀ M2,M2=ofL A (n+1)→ExS Try.prog G (resOf Try.prog Try.f12) (ledV (ofZ A)) (dropL 3 (lpB (pcs Try.prog Try.f12) 3)) ((fun M i => cst 43 [(0,listV encI 1 A),(2,.c (.ptr 0 0)),(3,.c (.ptr 1 0)),(4,iV (i:Nat))] [.cells 27 [.p (.z (.slice none 0 0))],.cells 27 [.p (listP encPg 7 M)]]) M2 (13 * n)) Q1:=fun M2 he => by
  subst he
  refine ExS.evH ext0_sound (tOf6 A (ofL A (n+1)) (13 * n)) ?_
  simp only [holds_rq,holds_leaf,kf_normal,inR]
  refine ⟨by omega,⟨q1n (n+1) _ (by omega) (by omega) ?_⟩⟩
  have e:((13 * n:Nat):Int)+13=((13 * (n+1):Nat):Int):=by omega
  rw [e]
  exact weak_of_eq (by kernel_rfl)
 generalize pageZ A ((13 * n:Nat):Int)=p at hpL hstep ⊢
 generalize hTT:startsZ A (((13 * n:Nat):Int)+7)=T at hT hstep ⊢
 refine ExS.cond (l:=dropL 2 (flat (inr (nth .skip (lpB (pcs Try.prog Try.f12) 3) 2)))) (k:=25) (a:=cndA (nth .skip (flat (inr (nth .skip (lpB (pcs Try.prog Try.f12) 3) 2))) 2)) (b:=cndB (nth .skip (flat (inr (nth .skip (lpB (pcs Try.prog Try.f12) 3) 2))) 2)) (r:=[]) (x:=pickZ A (((13 * n:Nat):Int)+6) 3 == 0) (by kernel_rfl) (by kernel_rfl) ?_ ?_
 · intro c Q' qn _
   rw [if_pos (by simpa using c)] at hstep
   refine ExS.pre ((weak_gc (msk 43 [0,2,3,4,5]) _).trans (weak_of_eq (by kernel_rfl))) (ExS.rawQ (N:=9) (ops:=opsOf) (all:=alOf) (rid:=7) (r':=[]) (extOA_sound M p T (amZ M p T).1 (amZ M p T).2) (by kernel_rfl) (by kernel_rfl) (by kernel_rfl) (by kernel_rfl) (by kernel_rfl) (tOf4 A T M (amZ M p T).1 (amZ M p T).2 p (13 * n)) ?_)
   simp only [holds_rq,holds_leaf,holds_alt,decI_row,dec2_row,inR]
   have fin:ExS Try.prog G (resOf Try.prog Try.f12) (ledV (ofZ A)) [] (cst 43 [(0,listV encI 1 A),(2,.c (.ptr 0 0)),(3,.c (.ptr 1 0)),(4,iV (↑(13 * n):Int))] [.cells 27 [.p (.z (.slice none 0 0))],.cells 27 [.p (listP encPg 7 (amZ M p T).1)]]) Q':=by
    exact ⟨_,WeakS.refl _,qn _ ⟨_,WeakS.refl _,q2n _ (after _ (hstep.symm.trans hst.symm))⟩⟩
   refine ⟨by omega,⟨isL_row _ _ _,hI,hpos 7 (by omega) (by omega),hTT⟩,⟨⟨⟨⟨trivial,fun _ _ _ _ => PLe.refl _⟩,isL_row _ _ _,trivial⟩,isL_row _ _ _⟩,⟨by omega,by omega⟩,trivial⟩,⟨trivial,?_⟩,⟨trivial,?_⟩⟩
   · exact ExS.pre ((weak_gc (msk 43 [0,2,3,4]) _).trans (weak_of_eq (by kernel_rfl))) fin
   · exact ExS.pre ((weak_gc (msk 43 [0,2,3,4]) _).trans (weak_of_eq (by kernel_rfl))) fin
 · intro c Q' qn _
   rw [if_neg (by simpa using c)] at hstep
   refine ExS.pre ((weak_gc (msk 43 [0,2,3,4,5]) _).trans (weak_of_eq (by kernel_rfl))) (ExS.evH (extOF_sound M p (frZ M p).1 (frZ M p).2) (tOf5 A M (frZ M p).1 p (13 * n) (frZ M p).2) ?_)
   simp only [holds_rq,holds_leaf,kf_normal,dec2_row]
   refine ⟨⟨⟨⟨trivial,fun _ _ _ _ => PLe.refl _⟩,isL_row _ _ _,trivial⟩,⟨by omega,by omega⟩,trivial⟩,⟨qn _ ?_⟩⟩
   exact ⟨_,WeakS.refl _,q2n _ (ExS.pre (weak_of_eq (by kernel_rfl)) (after _ (hstep.symm.trans hst.symm)))⟩
end
end Go.AE
namespace Go.AE
set_option linter.unusedVariables false
set_option linter.unusedSimpArgs false
open Go.Proofs Go.Proofs.Ytfjihbmehhccoaa Gp Go.RowKit
theorem split_at_c {α:Type} {c:α}:∀ {a b r s:List α},c ∉ a→c ∉ b→a ++ c::r=b ++ c::s→a=b∧r=s
 | [],[],r,s,_,_,h => ⟨rfl,by simpa using h⟩
 | [],y::b,r,s,_,hb,h => by
   simp at h
   exact absurd h.1 (fun e => hb (by rw [e];exact List.mem_cons_self ..))
 | x::a,[],r,s,ha,_,h => by
   simp at h
   exact absurd h.1.symm (fun e => ha (by rw [e];exact List.mem_cons_self ..))
 | x::a,y::b,r,s,ha,hb,h => by
   simp at h
   obtain ⟨rfl,h⟩:=h
   obtain ⟨rfl,h2⟩:=split_at_c (fun k => ha (List.mem_cons_of_mem _ k)) (fun k => hb (List.mem_cons_of_mem _ k)) h
   exact ⟨rfl,h2⟩
def bdL:Bool→List (ByteArray × ByteArray)→List UInt8
 | _,[] => []
 | b,x::r => (match b with
   | true => []
   | false => [44]) ++ (x.1.data.toList ++ 61::34::(x.2.data.toList ++ 34::bdL false r))
def labC (g:Nat→ByteArray × ByteArray) (k:Nat):List UInt8:=[44] ++ (g k).1.data.toList ++ [61,34] ++ (g k).2.data.toList ++ [34]
theorem bdF_eq:∀ (r:List (ByteArray × ByteArray)),(List.range r.length).flatMap (labC (lbF r))=bdL false r
 | [] => rfl
 | x::r => by
   rw [List.length_cons,List.range_succ_eq_map,List.flatMap_cons,List.flatMap_map]
   have e:(fun k => labC (lbF (x::r)) (Nat.succ k))=labC (lbF r):=rfl
   rw [e,bdF_eq r]
   show ([44] ++ x.1.data.toList ++ [61,34] ++ x.2.data.toList ++ [34]) ++ bdL false r=[44] ++ (x.1.data.toList ++ 61::34::(x.2.data.toList ++ 34::bdL false r))
   simp
theorem body_eq:∀ (r:List (ByteArray × ByteArray)),bodyB (lbF r) r.length=bdL true r
 | [] => rfl
 | x::r => by
   unfold bodyB
   rw [List.length_cons,List.range_succ_eq_map,List.flatMap_cons,List.flatMap_map]
   have e:(fun k => labB (lbF (x::r)) (Nat.succ k))=labC (lbF r):=by
    funext k
    unfold labB labC
    rw [if_pos (Nat.succ_pos k)]
    rfl
   rw [e,bdF_eq r]
   show ([] ++ x.1.data.toList ++ [61,34] ++ x.2.data.toList ++ [34]) ++ bdL false r=[] ++ (x.1.data.toList ++ 61::34::(x.2.data.toList ++ 34::bdL false r))
   simp
def Cl (L:List (ByteArray × ByteArray)):Prop:=∀ x∈L,(61:UInt8) ∉ x.1.data.toList∧(34:UInt8) ∉ x.2.data.toList
theorem bdL_inj:∀ {b:Bool} {L M:List (ByteArray × ByteArray)},Cl L→Cl M→bdL b L=bdL b M→L=M
 | _,[],[],_,_,_ => rfl
 | b,[],y::M,_,_,h => by
   cases b <;> simp [bdL] at h
 | b,x::L,[],_,_,h => by
   cases b <;> simp [bdL] at h
 | b,x::L,y::M,hL,hM,h => by
   have h1:x.1.data.toList ++ 61::34::(x.2.data.toList ++ 34::bdL false L)=y.1.data.toList ++ 61::34::(y.2.data.toList ++ 34::bdL false M):=by
    cases b <;> simpa [bdL] using h
   obtain ⟨x1,x2⟩:=hL x (List.mem_cons_self ..)
   obtain ⟨y1,y2⟩:=hM y (List.mem_cons_self ..)
   obtain ⟨e1,h2⟩:=split_at_c x1 y1 h1
   injection h2 with _ h2
   obtain ⟨e2,h3⟩:=split_at_c x2 y2 h2
   have e3:=bdL_inj (fun z hz => hL z (List.mem_cons_of_mem _ hz)) (fun z hz => hM z (List.mem_cons_of_mem _ hz)) h3
   have e4:x=y:=Prod.ext (ByteArray.ext (Array.toList_inj.mp e1)) (ByteArray.ext (Array.toList_inj.mp e2))
   rw [e3,e4]
theorem textLb_data (L:List (ByteArray × ByteArray)):(textLb L).data.toList=123::(bdL true L ++ [125]):=by
 unfold textLb textB
 rw [body_eq]
theorem textLb_clean {L M:List (ByteArray × ByteArray)} (hL:Cl L) (hM:Cl M) (h:textLb L=textLb M):L=M:=by
 have h1:(textLb L).data.toList=(textLb M).data.toList:=by rw [h]
 rw [textLb_data,textLb_data] at h1
 injection h1 with _ h1
 exact bdL_inj hL hM (List.append_cancel_right h1)
theorem bt_mem {s:ByteArray} {c:UInt8} (h:c∈s.data.toList):∃ k,k<s.size∧PlainAid.bt s k=(c.toNat:Int):=by
 obtain ⟨k,hk,rfl⟩:=List.getElem_of_mem h
 have hk':k<s.size:=by simpa using hk
 refine ⟨k,hk',?_⟩
 unfold PlainAid.bt
 rw [dif_pos hk']
 rfl
theorem name_clean {s:ByteArray} (h:nameB s=true):(61:UInt8) ∉ s.data.toList:=fun hm => by
 obtain ⟨k,hk,e⟩:=bt_mem hm
 have:okc k (PlainAid.bt s k)=false:=by
  rw [e]
  unfold okc
  show ((decide ((97:Int)≤61) && decide ((61:Int)≤122)) || (decide (k≠0) && ((61:Int) == 95 || (decide ((48:Int)≤61) && decide ((61:Int)≤57)))))=false
  simp
 rw [nameB_bad hk this] at h
 cases h
theorem value_clean {s:ByteArray} (h:valueB s=true):(34:UInt8) ∉ s.data.toList:=fun hm => by
 obtain ⟨k,hk,e⟩:=bt_mem hm
 have:okv (PlainAid.bt s k)=false:=by
  rw [e]
  rfl
 rw [valueB_bad hk this] at h
 cases h
theorem validLb_at {L:List (ByteArray × ByteArray)} (h:validLb L=true):L.length≤8∧∀ x∈L,nameB x.1=true∧valueB x.2=true:=by
 unfold validLb validL oklUp at h
 rw [Bool.and_eq_true,decide_eq_true_eq,List.all_eq_true] at h
 refine ⟨h.1,fun x hx => ?_⟩
 obtain ⟨k,hk,rfl⟩:=List.getElem_of_mem hx
 have:=h.2 k (List.mem_range.2 hk)
 unfold okl at this
 simp only [Bool.and_eq_true] at this
 have e:lbF L k=L[k]:=by unfold lbF;simp [hk]
 rw [e] at this
 exact ⟨this.1.1.1,this.1.2⟩
theorem valid_clean {L:List (ByteArray × ByteArray)} (h:validLb L=true):Cl L:=fun x hx => ⟨name_clean ((validLb_at h).2 x hx).1,value_clean ((validLb_at h).2 x hx).2⟩
theorem textLb_inj {L M:List (ByteArray × ByteArray)} (hL:validLb L=true) (hM:validLb M=true) (h:textLb L=textLb M):L=M:=textLb_clean (valid_clean hL) (valid_clean hM) h
theorem name_sz {s:ByteArray} (h:nameB s=true):s.size≤16:=by
 unfold nameB at h
 simp only [Bool.and_eq_true,decide_eq_true_eq] at h
 exact h.1.2
theorem value_sz {s:ByteArray} (h:valueB s=true):s.size≤16:=by
 unfold valueB at h
 simp only [Bool.and_eq_true,decide_eq_true_eq] at h
 exact h.1
theorem bdL_sz:∀ (b:Bool) (L:List (ByteArray × ByteArray)) (n:Nat),(∀ x∈L,x.1.size≤n∧x.2.size≤n)→(bdL b L).length≤L.length * (2 * n+4)
 | _,[],_,_ => by simp [bdL]
 | b,x::L,n,h => by
   have h1:=bdL_sz false L n fun z hz => h z (List.mem_cons_of_mem _ hz)
   obtain ⟨h2,h3⟩:=h x (List.mem_cons_self ..)
   have e1:x.1.data.toList.length=x.1.size:=by simp
   have e2:x.2.data.toList.length=x.2.size:=by simp
   have h4:(bdL b (x::L)).length≤1+(x.1.size+(2+(x.2.size+(1+(bdL false L).length)))):=by
    cases b <;> simp [bdL] <;> omega
   rw [List.length_cons,Nat.add_mul]
   omega
theorem textLb_size (L:List (ByteArray × ByteArray)):(textLb L).size=(bdL true L).length+2:=by
 have h:=congrArg List.length (textLb_data L)
 have e:(textLb L).data.toList.length=(textLb L).size:=by simp
 rw [e] at h
 rw [h];simp
theorem valid_text {L:List (ByteArray × ByteArray)} (h:validLb L=true):(textLb L).size≤1000:=by
 obtain ⟨h1,h2⟩:=validLb_at h
 have h3:=bdL_sz true L 16 fun x hx => ⟨name_sz (h2 x hx).1,value_sz (h2 x hx).2⟩
 rw [textLb_size]
 have:L.length * (2 * 16+4)≤8 * 36:=Nat.mul_le_mul_right _ h1
 omega
end Go.AE
namespace Go.AE
set_option linter.unusedVariables false
set_option linter.unusedSimpArgs false
open Go.Proofs Go.Proofs.Ytfjihbmehhccoaa Gp Go.RowKit
def pdM (M:List Pg) (ru:ByteArray) (ve:Int) (L:List (ByteArray × ByteArray)) (t:Int):Option Bool:=(M.reverse.find? fun q => sameM q ⟨0,ru,ve,L,t,0,⟨#[]⟩⟩).map fun q => q.kd != 1
theorem sameM_iff {a b:Pg}:sameM a b=true↔a.L=b.L∧a.ru=b.ru∧a.ve=b.ve∧a.st=b.st:=by
 unfold sameM
 simp only [Bool.and_eq_true,decide_eq_true_eq]
theorem pdM_snoc (M:List Pg) (p:Pg) (ru:ByteArray) (ve:Int) (L:List (ByteArray × ByteArray)) (t:Int):pdM (M ++ [p]) ru ve L t=if p.L=L∧p.ru=ru∧p.ve=ve∧p.st=t then some (p.kd != 1) else pdM M ru ve L t:=by
 unfold pdM
 rw [List.reverse_append]
 show Option.map _ (List.find? _ (p::M.reverse))=_
 rw [List.find?_cons]
 by_cases h:p.L=L∧p.ru=ru∧p.ve=ve∧p.st=t
 · rw [if_pos h,(sameM_iff (a:=p) (b:=⟨0,ru,ve,L,t,0,⟨#[]⟩⟩)).2 h]
   rfl
 · rw [if_neg h]
   have:sameM p ⟨0,ru,ve,L,t,0,⟨#[]⟩⟩=false:=by
    cases hs:sameM p ⟨0,ru,ve,L,t,0,⟨#[]⟩⟩ with
    | false => rfl
    | true => exact absurd (sameM_iff.1 hs) h
   rw [this]
theorem gKey_inj {ru ru' tx tx':ByteArray} {ve ve':Int} (h:gKey ru ve tx=gKey ru' ve' tx'):ru=ru'∧ve=ve'∧tx=tx':=by
 unfold gKey at h
 simpa using h
theorem mKey_inj4 {ru ru' tx tx':ByteArray} {ve ve' t t':Int} (h:mKey ru ve tx t=mKey ru' ve' tx' t'):ru=ru'∧ve=ve'∧tx=tx'∧t=t':=by
 unfold mKey at h
 simpa using h
def Okp (p:Pg):Prop:=pgOK p=true∧inR .i64 p.ve∧(p.kd=0∨p.kd=1∨p.kd=2)
structure Inv (D:Ld):Prop where
 ok:∀ p∈D.M,Okp p
 stg:∀ k,∃ S,StG D k S∧S.length≤D.M.length
 vw:∀ ru ve L,validLb L=true→∃ S,Vw ru ve L D S (pdM D.M ru ve L)∧S.length≤D.M.length∧∀ t∈S,tickZ t=true
theorem pgOK_iff {p:Pg}:pgOK p=true↔nameB p.ru=true∧1≤p.ve∧validLb p.L=true∧tickZ p.st=true∧tickZ p.se=true∧p.to.size≤16:=by
 unfold pgOK
 simp only [Bool.and_eq_true,decide_eq_true_eq]
 exact ⟨fun ⟨⟨⟨⟨⟨h1,h2⟩,h3⟩,h4⟩,h5⟩,h6⟩ => ⟨h1,h2,h3,h4,h5,h6⟩,fun ⟨h1,h2,h3,h4,h5,h6⟩ => ⟨⟨⟨⟨⟨h1,h2⟩,h3⟩,h4⟩,h5⟩,h6⟩⟩
theorem inv_ld0:Inv ld0:=⟨fun p hp => (by cases hp),fun k => ⟨[],⟨rfl,fun e o he => absurd he (Nat.not_lt_zero _)⟩,Nat.le_refl _⟩,fun ru ve L _ => ⟨[],vw_ld0 ru ve L,Nat.le_refl _,fun t ht => (by cases ht)⟩⟩
theorem stg_gadd {D:Ld} {gp:Value→Option Bool} {M:List Pg} {k:Value} {S:List Int} {x:Int} (h:StG D k S):StG ⟨M,gp,gadd D.gs k x⟩ k (S ++ [x]):=by
 obtain ⟨h1,h2⟩:=h
 unfold StG
 show (gadd D.gs k x k).1=_∧∀ e o,e<_→o<1→(gadd D.gs k x k).2 e o=_
 unfold gadd
 rw [setG_same]
 refine ⟨by simp [h1],fun e o he ho => ?_⟩
 obtain rfl:o=0:=by omega
 dsimp only
 rw [h1]
 by_cases he2:e<S.length
 · rw [if_pos he2,h2 e 0 he2 (by omega)]
   unfold rowP
   simp [List.getElem?_append_left he2]
 · have:e=S.length:=by simp at he;omega
   subst this
   rw [if_neg (Nat.lt_irrefl _)]
   unfold rowP
   simp [nth,unP,encI]
theorem inv_add {D:Ld} (hI:Inv D) {p:Pg} (hp:Okp p):Inv (ladd D p):=by
 obtain ⟨p1,p2,p3⟩:=hp
 have hpL:=(pgOK_iff.1 p1).2.2.1
 have hpt:=(pgOK_iff.1 p1).2.2.2.1
 have hM:(ladd D p).M=D.M ++ [p]:=rfl
 have hlen:(ladd D p).M.length=D.M.length+1:=by rw [hM];simp
 refine ⟨fun q hq => ?_,fun k => ?_,fun ru ve L hL => ?_⟩
 · rw [hM] at hq
   rcases List.mem_append.1 hq with h | h
   · exact hI.ok q h
   · rw [List.mem_singleton.1 h];exact ⟨p1,p2,p3⟩
 · obtain ⟨S,h1,h2⟩:=hI.stg k
   rw [hlen]
   cases hs:(D.gp (mKey p.ru p.ve (textLb p.L) p.st)).isSome with
   | true =>
     have e:(ladd D p).gs=D.gs:=by unfold ladd;dsimp only;rw [hs]
     exact ⟨S,by unfold StG;rw [e];exact h1,by omega⟩
   | false =>
     have e:(ladd D p).gs=gadd D.gs (gKey p.ru p.ve (textLb p.L)) p.st:=by unfold ladd;dsimp only;rw [hs]
     by_cases hk:k=gKey p.ru p.ve (textLb p.L)
     · subst hk
       refine ⟨S ++ [p.st],?_,by simp;omega⟩
       unfold StG
       rw [e]
       exact stg_gadd (gp:=D.gp) (M:=D.M) h1
     · refine ⟨S,?_,by omega⟩
       unfold StG
       rw [e]
       unfold gadd
       rw [setG_other _ _ _ hk]
       exact h1
 · obtain ⟨S,hv,h2,h3⟩:=hI.vw ru ve L hL
   rw [hlen]
   by_cases hg:p.L=L∧p.ru=ru∧p.ve=ve
   · obtain ⟨rfl,rfl,rfl⟩:=hg
     obtain ⟨kd,ru,ve,L,st,se,to⟩:=p
     obtain ⟨S',k1,k2,k3⟩:=hv.add kd st se to
     refine ⟨S',?_,by omega,fun t ht => ?_⟩
     · have e:pdM (ladd D ⟨kd,ru,ve,L,st,se,to⟩).M ru ve L=updP (pdM D.M ru ve L) st (kd != 1):=by
         funext t
         rw [hM,pdM_snoc]
         unfold updP
         by_cases h:t=st
         · subst h;simp
         · rw [if_neg h,if_neg (fun h' => h h'.2.2.2.symm)]
       show Vw ru ve L _ S' (pdM (ladd D ⟨kd,ru,ve,L,st,se,to⟩).M ru ve L)
       rw [e];exact k1
     · rcases k3 t ht with h | h
       · exact h3 t h
       · rw [h];exact hpt
   · have hkey:gKey ru ve (textLb L)≠gKey p.ru p.ve (textLb p.L):=fun h => by
       obtain ⟨e1,e2,e3⟩:=gKey_inj h
       exact hg ⟨(textLb_inj hL hpL e3).symm,e1.symm,e2.symm⟩
     have hmk:∀ t,mKey ru ve (textLb L) t≠mKey p.ru p.ve (textLb p.L) p.st:=fun t h => by
      obtain ⟨e1,e2,e3,_⟩:=mKey_inj4 h
      exact hg ⟨(textLb_inj hL hpL e3).symm,e1.symm,e2.symm⟩
     have e:pdM (ladd D p).M ru ve L=pdM D.M ru ve L:=by
      funext t
      rw [hM,pdM_snoc,if_neg (fun h => hg ⟨h.1,h.2.1,h.2.2.1⟩)]
     refine ⟨S,?_,by omega,h3⟩
     rw [e]
     refine ⟨?_,fun t => ?_,hv.dom,hv.nd⟩
     · have hst:=hv.st
       unfold StG at hst ⊢
       have:(ladd D p).gs (gKey ru ve (textLb L))=D.gs (gKey ru ve (textLb L)):=by
        cases hs:(D.gp (mKey p.ru p.ve (textLb p.L) p.st)).isSome with
        | true =>
          have e:(ladd D p).gs=D.gs:=by unfold ladd;dsimp only;rw [hs]
          rw [e]
        | false =>
          have e:(ladd D p).gs=gadd D.gs (gKey p.ru p.ve (textLb p.L)) p.st:=by unfold ladd;dsimp only;rw [hs]
          rw [e]
          unfold gadd
          rw [setG_other _ _ _ hkey]
       rw [this];exact hst
     · show setM D.gp _ _ (mKey ru ve (textLb L) t)=_
       unfold setM
       rw [if_neg (hmk t)]
       exact hv.gp t
theorem stZ_pd (M:List Pg) (hk:∀ p∈M,p.kd=0∨p.kd=1∨p.kd=2) (p:Pg):match pdM M p.ru p.ve p.L p.st with
  | some true => stZ M p=0∨stZ M p=2
  | some false => stZ M p=1
  | none => stZ M p = -1:=by
 unfold pdM stZ
 have e:(fun q => sameM q ⟨0,p.ru,p.ve,p.L,p.st,0,⟨#[]⟩⟩)=fun q => sameM q p:=rfl
 rw [e]
 cases hf:M.reverse.find? fun q => sameM q p with
 | none => rfl
 | some q =>
   have hq:q∈M:=List.mem_reverse.1 (List.mem_of_find?_eq_some hf)
   rcases hk q hq with h | h | h
   · simp [h]
   · simp [h]
   · simp [h]
theorem lfire_link {D:Ld} (hI:Inv D) (p:Pg) (hve:inR .i64 p.ve):(lfire D p).1=(frZ D.M p).2∧(lfire D p).2.M=(frZ D.M p).1∧Inv (lfire D p).2:=by
 unfold frZ
 by_cases h0:pgOK p=false∨p.kd≠0
 · rw [if_pos h0]
   unfold lfire
   rcases h0 with h | h
   · rw [h]
     cases (p.kd != 0) <;> exact ⟨rfl,rfl,hI⟩
   · rw [bne_iff_ne.2 h]
     exact ⟨rfl,rfl,hI⟩
 · rw [if_neg h0]
   have h1:pgOK p=true:=by
    cases hq:pgOK p with
    | true => rfl
    | false => exact absurd (.inl hq) h0
   have h2:p.kd=0:=Classical.byContradiction fun h => h0 (.inr h)
   obtain ⟨S,hv,_,_⟩:=hI.vw p.ru p.ve p.L (pgOK_iff.1 h1).2.2.1
   have hz:=stZ_pd D.M (fun q hq => (hI.ok q hq).2.2) p
   have hgp:=hv.gp p.st
   have hf:lfire D p=match pdM D.M p.ru p.ve p.L p.st with
    | some true => (10,D)
    | some false => (20,D)
    | none => (0,ladd D p):=by
    unfold lfire
    rw [h1,hgp,h2]
    cases pdM D.M p.ru p.ve p.L p.st with
    | none => rfl
    | some b => cases b <;> rfl
   rw [hf]
   cases hpd:pdM D.M p.ru p.ve p.L p.st with
   | none =>
     rw [hpd] at hz
     have hz:stZ D.M p = -1:=hz
     rw [hz,if_neg (by omega),if_neg (by omega)]
     exact ⟨rfl,rfl,inv_add hI ⟨h1,hve,.inl h2⟩⟩
   | some b =>
     rw [hpd] at hz
     cases b with
     | true =>
       have hz:stZ D.M p=0∨stZ D.M p=2:=hz
       rw [if_pos hz];exact ⟨rfl,rfl,hI⟩
     | false =>
       have hz:stZ D.M p=1:=hz
       rw [hz,if_neg (by omega),if_pos rfl];exact ⟨rfl,rfl,hI⟩
theorem mem_pdL {M:List Pg} (hk:∀ p∈M,p.kd=0∨p.kd=1∨p.kd=2) (p:Pg) (t:Int):t∈pdL M p M.length↔(pdM M p.ru p.ve p.L t).getD false=true:=by
 have hz:=stZ_pd M hk (atS p t)
 have hz:match pdM M p.ru p.ve p.L t with
  | some true => stZ M (atS p t)=0∨stZ M (atS p t)=2
  | some false => stZ M (atS p t)=1
  | none => stZ M (atS p t) = -1:=hz
 unfold pdL
 rw [List.take_length,List.mem_map]
 constructor
 · rintro ⟨q,hq,rfl⟩
   rw [List.mem_filter,Bool.and_eq_true,bne_iff_ne] at hq
   obtain ⟨hq,hs,hn⟩:=hq
   cases hpd:pdM M p.ru p.ve p.L q.st with
   | none =>
     unfold pdM at hpd
     rw [Option.map_eq_none_iff,List.find?_eq_none] at hpd
     exact absurd hs (hpd q (List.mem_reverse.2 hq))
   | some b =>
     rw [hpd] at hz
     cases b with
     | true => rfl
     | false => exact absurd hz hn
 · intro h
   cases hpd:pdM M p.ru p.ve p.L t with
   | none => rw [hpd] at h;cases h
   | some b =>
     rw [hpd] at h hz
     obtain rfl:b=true:=h
     have hz:stZ M (atS p t)=0∨stZ M (atS p t)=2:=hz
     unfold pdM at hpd
     rw [Option.map_eq_some_iff] at hpd
     obtain ⟨q,hq,_⟩:=hpd
     have hs:=List.find?_some hq
     have hm:q∈M:=List.mem_reverse.1 (List.mem_of_find?_eq_some hq)
     obtain ⟨e1,e2,e3,e4⟩:=sameM_iff.1 hs
     have e4:q.st=t:=e4
     refine ⟨q,?_,e4⟩
     rw [List.mem_filter,Bool.and_eq_true,bne_iff_ne,e4]
     exact ⟨hm,sameM_iff.2 ⟨e1,e2,e3,e4⟩,by omega⟩
theorem pagedZ_lt (M:List Pg) (p:Pg):(pagedZ M p).Pairwise (· < ·):=all_lt _
theorem mem_pagedZ {M:List Pg} (hk:∀ p∈M,p.kd=0∨p.kd=1∨p.kd=2) (p:Pg) (t:Int):t∈pagedZ M p↔(pdM M p.ru p.ve p.L t).getD false=true:=(all_mem _ t).trans (mem_pdL hk p t)
theorem Inv.kds {D:Ld} (hI:Inv D):∀ p∈D.M,p.kd=0∨p.kd=1∨p.kd=2:=fun p hp => (hI.ok p hp).2.2
theorem paged_bad {D:Ld} (hI:Inv D) {p:Pg} (h:pgOK ⟨0,p.ru,p.ve,p.L,0,0,⟨#[]⟩⟩=false):pagedZ D.M p=[]:=by
 refine List.eq_nil_iff_forall_not_mem.2 fun t ht => ?_
 rw [mem_pagedZ hI.kds] at ht
 cases hpd:pdM D.M p.ru p.ve p.L t with
 | none => rw [hpd] at ht;cases ht
 | some b =>
   unfold pdM at hpd
   rw [Option.map_eq_some_iff] at hpd
   obtain ⟨q,hq,_⟩:=hpd
   have hs:=List.find?_some hq
   have hm:q∈D.M:=List.mem_reverse.1 (List.mem_of_find?_eq_some hq)
   obtain ⟨e1,e2,e3,_⟩:=sameM_iff.1 hs
   have e1:q.L=p.L:=e1
   have e2:q.ru=p.ru:=e2
   have e3:q.ve=p.ve:=e3
   obtain ⟨k1,k2,k3,_⟩:=pgOK_iff.1 (hI.ok q hm).1
   have:pgOK ⟨0,p.ru,p.ve,p.L,0,0,⟨#[]⟩⟩=true:=pgOK_iff.2 ⟨e2 ▸ k1,e3 ▸ k2,e1 ▸ k3,rfl,rfl,Nat.zero_le _⟩
   rw [h] at this;cases this
theorem lvalid_link {D:Ld} (hI:Inv D) (p:Pg):∃ S,StG D (gKey p.ru p.ve (textLb p.L)) S∧S.length≤D.M.length∧(pgOK ⟨0,p.ru,p.ve,p.L,0,0,⟨#[]⟩⟩=true→(∀ t∈S,tickZ t=true)∧lvalid D p.ru p.ve p.L S=listV encI 1 (pagedZ D.M p))∧(pgOK ⟨0,p.ru,p.ve,p.L,0,0,⟨#[]⟩⟩=false→pagedZ D.M p=[]∧lvalid D p.ru p.ve p.L S=.c (.p (.z (.slice none 0 0)))):=by
 cases h:pgOK ⟨0,p.ru,p.ve,p.L,0,0,⟨#[]⟩⟩ with
 | true =>
   obtain ⟨S,hv,h2,h3⟩:=hI.vw p.ru p.ve p.L (pgOK_iff.1 h).2.2.1
   exact ⟨S,hv.st,h2,fun _ => ⟨h3,lvalid_vw hv h (pagedZ_lt _ _) fun t => mem_pagedZ hI.kds p t⟩,fun h => by cases h⟩
 | false =>
   obtain ⟨S,h1,h2⟩:=hI.stg (gKey p.ru p.ve (textLb p.L))
   refine ⟨S,h1,h2,fun h => (by cases h),fun _ => ⟨paged_bad hI h,?_⟩⟩
   unfold lvalid
   rw [h]
end Go.AE
namespace Go.AE
set_option linter.unusedVariables false
set_option linter.unusedSimpArgs false
open Go.Proofs Go.Proofs.Ytfjihbmehhccoaa Gp Go.RowKit
theorem okp_am {ru:ByteArray} {ve:Int} {L:List (ByteArray × ByteArray)} {se:Int} (h:pgOK ⟨0,ru,ve,L,0,se,⟨#[]⟩⟩=true) (hve:inR .i64 ve) {kd t:Int} (hk:kd=0∨kd=1∨kd=2) (ht:tickZ t=true):Okp ⟨kd,ru,ve,L,t,se,⟨#[]⟩⟩:=by
 obtain ⟨k1,k2,k3,_,k5,k6⟩:=pgOK_iff.1 h
 exact ⟨pgOK_iff.2 ⟨k1,k2,k3,ht,k5,k6⟩,hve,hk⟩
theorem fold_inv {ru:ByteArray} {ve:Int} {L:List (ByteArray × ByteArray)} {se:Int} (h:pgOK ⟨0,ru,ve,L,0,se,⟨#[]⟩⟩=true) (hve:inR .i64 ve) (T:List Int):∀ (A:List Int) (D:Ld) (out:List Pg),Inv D→(∀ t∈A,tickZ t=true) →
  Inv (A.foldl (amStep T ru ve L se) (D,out)).1∧∃ Y,(A.foldl (amStep T ru ve L se) (D,out)).1.M=D.M ++ Y∧(A.foldl (amStep T ru ve L se) (D,out)).2=out ++ Y
 | [],D,out,hI,_ => ⟨hI,[],(List.append_nil _).symm,(List.append_nil _).symm⟩
 | t::A,D,out,hI,hA => by
   rw [List.foldl_cons]
   have ht:=hA t (List.mem_cons_self ..)
   have hA':∀ t∈A,tickZ t=true:=fun u hu => hA u (List.mem_cons_of_mem _ hu)
   have step:amStep T ru ve L se (D,out) t=(D,out)∨∃ kd,(kd=0∨kd=1∨kd=2)∧amStep T ru ve L se (D,out) t=(ladd D ⟨kd,ru,ve,L,t,se,⟨#[]⟩⟩,out ++ [⟨kd,ru,ve,L,t,se,⟨#[]⟩⟩]):=by
    unfold amStep
    dsimp only
    cases (D.gp (mKey ru ve (textLb L) t)).getD false <;> cases decide (t∈T)
    · exact .inl rfl
    · exact .inr ⟨2,.inr (.inr rfl),rfl⟩
    · exact .inr ⟨1,.inr (.inl rfl),rfl⟩
    · exact .inl rfl
   rcases step with e | ⟨kd,hk,e⟩
   · rw [e];exact fold_inv h hve T A D out hI hA'
   · rw [e]
     obtain ⟨h1,Y,h2,h3⟩:=fold_inv h hve T A (ladd D ⟨kd,ru,ve,L,t,se,⟨#[]⟩⟩) (out ++ [⟨kd,ru,ve,L,t,se,⟨#[]⟩⟩]) (inv_add hI (okp_am h hve hk ht)) hA'
     refine ⟨h1,⟨kd,ru,ve,L,t,se,⟨#[]⟩⟩::Y,?_,?_⟩
     · rw [h2]
       show (D.M ++ [_]) ++ Y=_
       rw [List.append_assoc];rfl
     · rw [h3,List.append_assoc];rfl
theorem lamend_link {D:Ld} (hI:Inv D) (p:Pg) (T:List Int) (hve:inR .i64 p.ve):∃ S D',StG D (gKey p.ru p.ve (textLb p.L)) S∧S.length≤D.M.length∧D'.M=(amZ D.M p T).1∧Inv D'∧(pgOK ⟨0,p.ru,p.ve,p.L,0,p.se,⟨#[]⟩⟩=true→∀ t∈S,tickZ t=true) ∧
  ((pgOK ⟨0,p.ru,p.ve,p.L,0,p.se,⟨#[]⟩⟩ && T.all tickZ)=true→lamend D p.ru p.ve p.L S T p.se=(listV encPg 7 (amZ D.M p T).2,D')) ∧
  ((pgOK ⟨0,p.ru,p.ve,p.L,0,p.se,⟨#[]⟩⟩ && T.all tickZ)=false→lamend D p.ru p.ve p.L S T p.se=(.c (.p (.z (.slice none 0 0))),D')∧(amZ D.M p T).2=[]):=by
 cases hq:pgOK ⟨0,p.ru,p.ve,p.L,0,p.se,⟨#[]⟩⟩ with
 | false =>
   obtain ⟨S,h1,h2⟩:=hI.stg (gKey p.ru p.ve (textLb p.L))
   have hz:amZ D.M p T=(D.M,[]):=by unfold amZ;rw [hq];rfl
   refine ⟨S,D,h1,h2,by rw [hz],hI,(fun h => by cases h),(fun h => by cases h),fun _ => ⟨?_,by rw [hz]⟩⟩
   unfold lamend
   rw [hq]
 | true =>
   obtain ⟨S,hv,h2,h3⟩:=hI.vw p.ru p.ve p.L (pgOK_iff.1 hq).2.2.1
   cases hT:T.all tickZ with
   | false =>
     have hz:amZ D.M p T=(D.M,[]):=by unfold amZ;rw [hq,hT];rfl
     refine ⟨S,D,hv.st,h2,by rw [hz],hI,fun _ => h3,(fun h => by cases h),fun _ => ⟨?_,by rw [hz]⟩⟩
     unfold lamend
     rw [hq,hT]
   | true =>
     have hTt:∀ t∈T,tickZ t=true:=fun t ht => List.all_eq_true.1 hT t ht
     have hA:=all_mem (S ++ T)
     have hAt:∀ t∈compI (sortI (S ++ T)),tickZ t=true:=fun t ht => by
      rcases List.mem_append.1 ((hA t).1 ht) with h | h
      · exact h3 t h
      · exact hTt t h
     obtain ⟨i1,Y,i2,i3⟩:=fold_inv hq hve T (compI (sortI (S ++ T))) D [] hI hAt
     obtain ⟨S',k1,k2,_,_,_⟩:=amFold_go T p.se (compI (sortI (S ++ T))) D [] S _ hv (nodup_lt (all_lt _))
     have hY:Y=((compI (sortI (S ++ T))).filter (flipB (pdM D.M p.ru p.ve p.L) T)).map (amPg p.ru p.ve p.L p.se T):=by
      rw [i3] at k2
      simpa using k2
     have hW:∀ t,decide (t∈pagedZ D.M p)=(pdM D.M p.ru p.ve p.L t).getD false:=fun t => by
      rw [Bool.eq_iff_iff,decide_eq_true_eq]
      exact mem_pagedZ hI.kds p t
     have hO:amO (pagedZ D.M p) T p (setL (pagedZ D.M p ++ T))=Y:=by
      rw [hY]
      unfold amO
      congr 1
      refine eq_of_lt ((all_lt _).sublist List.filter_sublist) ((all_lt _).sublist List.filter_sublist) fun t => ?_
      have hm:=all_mem (pagedZ D.M p ++ T) t
      have hm:t∈setL (pagedZ D.M p ++ T)↔t∈pagedZ D.M p ++ T:=hm
      rw [List.mem_filter,List.mem_filter,hm,hA t,hW]
      unfold flipB
      constructor
      · rintro ⟨_,h2⟩
        refine ⟨?_,h2⟩
        rw [List.mem_append,hv.dom]
        cases hd:pdM D.M p.ru p.ve p.L t with
        | some x => exact .inl rfl
        | none =>
          rw [hd] at h2
          exact .inr (by simpa using h2)
      · rintro ⟨_,h2⟩
        refine ⟨?_,h2⟩
        rw [List.mem_append]
        have:=hW t
        cases hd:(pdM D.M p.ru p.ve p.L t).getD false with
        | true => rw [hd] at this;exact .inl (by simpa using this)
        | false =>
          rw [hd] at h2
          exact .inr (by simpa using h2)
     have hz:amZ D.M p T=(D.M ++ Y,Y):=by unfold amZ;rw [hq,hT,hO];rfl
     refine ⟨S,_,hv.st,h2,by rw [hz];exact i2,i1,fun _ => h3,fun _ => ?_,(fun h => by cases h)⟩
     unfold lamend
     rw [hq,hT,hz]
     show (listV encPg 7 (amFold T p.ru p.ve p.L p.se D (compI (sortI (S ++ T)))).2,_)=_
     unfold amFold
     rw [i3]
     rfl
inductive Leg:List Pg→Prop
 | nil:Leg []
 | fire {M p}:Leg M→Okp p→p.kd=0→stZ M p = -1→Leg (M ++ [p])
 | undo {M p}:Leg M→Okp p→p.to=⟨#[]⟩→p.kd=1→(pdM M p.ru p.ve p.L p.st).getD false=true→Leg (M ++ [p])
 | late {M p}:Leg M→Okp p→p.to=⟨#[]⟩→p.kd=2→(pdM M p.ru p.ve p.L p.st).getD false=false→Leg (M ++ [p])
theorem Leg.ok {M:List Pg} (h:Leg M):∀ p∈M,Okp p:=by
 induction h with
 | nil => intro p hp;cases hp
 | fire _ h1 _ _ ih => intro q hq;rcases List.mem_append.1 hq with h | h;exact ih q h;rw [List.mem_singleton.1 h];exact h1
 | undo _ h1 _ _ _ ih => intro q hq;rcases List.mem_append.1 hq with h | h;exact ih q h;rw [List.mem_singleton.1 h];exact h1
 | late _ h1 _ _ _ ih => intro q hq;rcases List.mem_append.1 hq with h | h;exact ih q h;rw [List.mem_singleton.1 h];exact h1
theorem leg_frZ {M:List Pg} (h:Leg M) (p:Pg) (hve:inR .i64 p.ve):Leg (frZ M p).1:=by
 unfold frZ
 split
 · exact h
 · rename_i h1
   split
   · exact h
   · rename_i h2
     split
     · exact h
     · rename_i h3
       have hk:p.kd=0:=Classical.byContradiction fun h => h1 (.inr h)
       have hp:pgOK p=true:=by
        cases hq:pgOK p with
        | true => rfl
        | false => exact absurd (.inl hq) h1
       refine h.fire ⟨hp,hve,.inl hk⟩ hk ?_
       have hz:=stZ_pd M (fun q hq => (h.ok q hq).2.2) p
       cases hpd:pdM M p.ru p.ve p.L p.st with
       | none => rw [hpd] at hz;exact hz
       | some b =>
         rw [hpd] at hz
         cases b with
         | true => exact absurd hz h2
         | false => exact absurd hz h3
theorem leg_am {ru:ByteArray} {ve:Int} {L:List (ByteArray × ByteArray)} {se:Int} (hq:pgOK ⟨0,ru,ve,L,0,se,⟨#[]⟩⟩=true) (hve:inR .i64 ve) (T:List Int):∀ (A:List Int) (M:List Pg),Leg M→A.Nodup→(∀ t∈A,tickZ t=true∧(pdM M ru ve L t).getD false≠decide (t∈T))→Leg (M ++ A.map (amPg ru ve L se T))
 | [],M,h,_,_ => by simpa using h
 | t::A,M,h,hn,hA => by
   rw [List.nodup_cons] at hn
   obtain ⟨h1,h2⟩:=hA t (List.mem_cons_self ..)
   have key:Leg (M ++ [amPg ru ve L se T t]):=by
    cases hd:decide (t∈T) with
    | true =>
      have e:amPg ru ve L se T t=⟨2,ru,ve,L,t,se,⟨#[]⟩⟩:=by unfold amPg;rw [hd]
      rw [e]
      refine h.late (okp_am hq hve (.inr (.inr rfl)) h1) rfl rfl ?_
      show (pdM M ru ve L t).getD false=false
      rw [hd] at h2
      simpa using h2
    | false =>
      have e:amPg ru ve L se T t=⟨1,ru,ve,L,t,se,⟨#[]⟩⟩:=by unfold amPg;rw [hd]
      rw [e]
      refine h.undo (okp_am hq hve (.inr (.inl rfl)) h1) rfl rfl ?_
      show (pdM M ru ve L t).getD false=true
      rw [hd] at h2
      simpa using h2
   have:=leg_am hq hve T A (M ++ [amPg ru ve L se T t]) key hn.2 fun u hu => by
    obtain ⟨k1,k2⟩:=hA u (List.mem_cons_of_mem _ hu)
    refine ⟨k1,?_⟩
    rw [pdM_snoc,if_neg (fun h => hn.1 (by have e:(amPg ru ve L se T t).st=t:=rfl
                                           rw [← e,h.2.2.2];exact hu))]
    exact k2
   rw [List.map_cons]
   rw [List.append_assoc] at this
   exact this
theorem leg_amZ {M:List Pg} (h:Leg M) (p:Pg) (T:List Int) (hve:inR .i64 p.ve):Leg (amZ M p T).1:=by
 unfold amZ
 cases hq:pgOK ⟨0,p.ru,p.ve,p.L,0,p.se,⟨#[]⟩⟩ with
 | false => exact h
 | true =>
   cases hT:T.all tickZ with
   | false => exact h
   | true =>
     have hk:∀ q∈M,q.kd=0∨q.kd=1∨q.kd=2:=fun q hq => (h.ok q hq).2.2
     show Leg (M ++ amO (pagedZ M p) T p (setL (pagedZ M p ++ T)))
     unfold amO
     refine leg_am hq hve T _ M h ((nodup_lt (all_lt _)).sublist List.filter_sublist) fun t ht => ?_
     rw [List.mem_filter] at ht
     obtain ⟨h1,h2⟩:=ht
     have hW:decide (t∈pagedZ M p)=(pdM M p.ru p.ve p.L t).getD false:=by
      rw [Bool.eq_iff_iff,decide_eq_true_eq]
      exact mem_pagedZ hk p t
     refine ⟨?_,?_⟩
     · have h1:=(all_mem _ t).1 h1
       rcases List.mem_append.1 h1 with h3 | h3
       · rw [mem_pagedZ hk] at h3
         cases hpd:pdM M p.ru p.ve p.L t with
         | none => rw [hpd] at h3;cases h3
         | some b =>
           unfold pdM at hpd
           rw [Option.map_eq_some_iff] at hpd
           obtain ⟨q,hq,_⟩:=hpd
           have hs:=List.find?_some hq
           have e:q.st=t:=(sameM_iff.1 hs).2.2.2
           have hm:q∈M:=List.mem_reverse.1 (List.mem_of_find?_eq_some hq)
           have:=(pgOK_iff.1 (h.ok q hm).1).2.2.2.1
           rw [e] at this;exact this
       · exact List.all_eq_true.1 hT t h3
     · rw [hW,bne_iff_ne] at h2
       exact h2
theorem leg_of {A:List Int} (hp:∀ i,inR .i64 (pageZ A i).ve):∀ n,Leg (ofL A n)
 | 0 => .nil
 | n+1 => by
   show Leg (ofStep A (ofL A n) (13 * n))
   unfold ofStep
   split
   · exact leg_amZ (leg_of hp n) _ _ (hp _)
   · exact leg_frZ (leg_of hp n) _ (hp _)
theorem pageZ_ve (A:List Int) (i:Int):1≤(pageZ A i).ve∧(pageZ A i).ve≤2:=by
 have:=pick_in (L:=A) (i:=i+1) (m:=8) (by omega)
 unfold pageZ
 dsimp only
 omega
theorem pageZ_in (A:List Int) (i:Int):inR .i64 (pageZ A i).ve:=by
 have:=pageZ_ve A i
 unfold inR;omega
theorem leg_ofZ (A:List Int):Leg (ofZ A):=leg_of (pageZ_in A) _
end Go.AE
namespace Go.AE
set_option linter.unusedVariables false
set_option linter.unusedSimpArgs false
open Go.RowKit
section
variable {P:Program} {G:Nat→Option Obj} {ops:Array Oper} {al:List AI} {N:Nat} {ext:Ext}
variable {F:St} {own:Nat→Nat→Prop} {β0 β:Bt} {R0 R:Nat→Prop} {w0 w:World} {listed:Array Bool} {a:Act}
def ldId (st:St):AOp→Option Nat
 | .load _ x => match st.ev x with
   | .c (.ptr id _) => some id
   | _ => none
 | _ => none
def kpP (st:St) (h':List AO):List AI→Prop
 | [] => True
 | x::r => (match ldId st x.op with
   | some id => isCells (nth .gone st.h id)=true∧nth .gone h' id=nth .gone st.h id
   | none => True)∧kpP st h' r
def lateC (st:St):List AI→Bool
 | [] => true
 | x::r => lateB st x.op && (!x.op.nw && lateC st r)
def eqCT (x y:C) (k:Tr):Tr:=match x,y with
 | .p (.i a n),.p (.i b m) => .rq (a=b∧n=m) k
 | .p (.s a),.p (.s b) => .rq (a=b) k
 | .p (.b a),.p (.b b) => .rq (a=b) k
 | .p (.l a n f),.p (.l b m g) => .rq (a=b∧n=m∧f=g) k
 | .p (.z a),.p (.z b) => .rq (a=b) k
 | _,_ => .fail
def eqCsT:List C→List C→Tr→Tr
 | [],[],k => k
 | x::r,y::s,k => eqCT x y (eqCsT r s k)
 | _,_,_ => .fail
def kpT (st:St) (h':List AO):List AI→Tr→Tr
 | [],k => k
 | x::r,k => match ldId st x.op with
   | some id => match nth .gone st.h id,nth .gone h' id with
     | .cells t vs,.cells t' vs' => chk (Nat.beq t t') (eqCsT vs vs' (kpT st h' r k))
     | _,_ => .fail
   | none => kpT st h' r k
theorem eqCT_sound {x y:C} {k:Tr} {K:X→St→Prop} (h:(eqCT x y k).holds P G K):x=y∧k.holds P G K:=by
 unfold eqCT at h
 split at h
 · obtain ⟨⟨rfl,rfl⟩,h⟩:=h;exact ⟨rfl,h⟩
 · obtain ⟨rfl,h⟩:=h;exact ⟨rfl,h⟩
 · obtain ⟨rfl,h⟩:=h;exact ⟨rfl,h⟩
 · obtain ⟨⟨rfl,rfl,rfl⟩,h⟩:=h;exact ⟨rfl,h⟩
 · obtain ⟨rfl,h⟩:=h;exact ⟨rfl,h⟩
 · exact h.elim
theorem eqCsT_sound:∀ {xs ys:List C} {k:Tr} {K:X→St→Prop},(eqCsT xs ys k).holds P G K→xs=ys∧k.holds P G K
 | [],[],k,K,h => ⟨rfl,h⟩
 | x::r,y::s,k,K,h => by
   obtain ⟨h1,h2⟩:=eqCT_sound h
   obtain ⟨h3,h4⟩:=eqCsT_sound h2
   exact ⟨by rw [h1,h3],h4⟩
 | [],_::_,k,K,h => h.elim
 | _::_,[],k,K,h => h.elim
theorem kpT_sound {st:St} {h':List AO}:∀ {l:List AI} {k:Tr} {K:X→St→Prop},(kpT st h' l k).holds P G K→kpP st h' l∧k.holds P G K
 | [],k,K,h => ⟨trivial,h⟩
 | x::r,k,K,h => by
   simp only [kpT] at h
   simp only [kpP]
   split at h
   · rename_i id hid
     split at h
     · rename_i t vs t' vs' e1 e2
       obtain ⟨c1,c2⟩:=chk_true h
       obtain ⟨c3,c4⟩:=eqCsT_sound c2
       obtain ⟨c5,c6⟩:=kpT_sound c4
       (try rw [hid])
       refine ⟨⟨⟨by rw [e1];rfl,?_⟩,c5⟩,c6⟩
       rw [e1,e2,c3,Nat.eq_of_beq_eq_true c1]
     · exact h.elim
   · rename_i hid
     obtain ⟨c5,c6⟩:=kpT_sound h
     (try rw [hid])
     exact ⟨⟨trivial,c5⟩,c6⟩
theorem lateC_mem {st:St}:∀ {l:List AI} {q:Nat} {x:AI},lateC st l=true→l[q]? = some x→lateB st x.op=true∧x.op.nw=false
 | [],_,_,_,h => by simp at h
 | y::r,0,x,h,hx => by
   simp at hx;subst hx
   simp only [lateC,Bool.and_eq_true,Bool.not_eq_true'] at h
   exact ⟨h.1,h.2.1⟩
 | y::r,q+1,x,h,hx => by
   simp only [lateC,Bool.and_eq_true,Bool.not_eq_true'] at h
   exact lateC_mem h.2.2 (by simpa using hx)
theorem kpP_mem {st:St} {h':List AO}:∀ {l:List AI} {q:Nat} {x:AI},kpP st h' l→l[q]? = some x→∀ id,ldId st x.op=some id→isCells (nth .gone st.h id)=true∧nth .gone h' id=nth .gone st.h id
 | [],_,_,_,h => by simp at h
 | y::r,0,x,h,hx => by
   simp at hx;subst hx
   intro id hid
   have h1:=h.1
   rw [hid] at h1
   exact h1
 | y::r,q+1,x,h,hx => kpP_mem (l:=r) (q:=q) h.2 (by simpa using hx)
theorem late_moveC {op:AOp} (hd:op.hd=true) (hn:op.nw=false) {t:List V} {h h':List AO} (hl:lateB ⟨t,h⟩ op=true) (hc:∀ id,ldId ⟨t,h⟩ op=some id→isCells (nth .gone h id)=true∧nth .gone h' id=nth .gone h id) {k:V→List AO→Tr} {K:X→St→Prop}
  (hh:(opT (pureX ext) ⟨t,h⟩ (fun v _ => k v h') op).holds P G K):(opT (pureX ext) ⟨t,h'⟩ k op).holds P G K:=by
 cases op <;> simp only [AOp.hd,AOp.nw,Bool.false_eq_true,Bool.true_eq_false] at hd hn
 case load m x =>
  have e:∀ y:AX,St.ev ⟨t,h'⟩ y=St.ev ⟨t,h⟩ y:=fun y => by cases y <;> rfl
  simp only [opT,e] at hh ⊢
  simp only [lateB] at hl
  split at hh
  · rename_i id off he
    obtain ⟨c1,c2⟩:=hc id (by simp only [ldId,he])
    (try rw [he])
    (try dsimp only at hh ⊢)
    split at hh
    · rename_i ty vs hid
      rw [c2,hid]
      exact hh
    · rename_i j b0 hid
      rw [hid] at c1;cases c1
    · exact hh.elim
  · rename_i he
    simp only [he] at hl
    cases hl
  · rename_i he
    (try rw [he])
    exact hh
  · exact hh.elim
 case build z ps =>
  simp only [opT] at hh ⊢
  rw [fillP_h (h:=h') (h':=h)]
  exact hh
 case call f args =>
  simp only [opT] at hh ⊢
  rw [mapEv_h (h:=h') (h':=h)]
  exact hh
 case more o => cases hl
 case look => cases hl
 all_goals exact hh
theorem newB_nw {st:St} {op:AOp} {x:AO} {mk:Nat→V} (h:newB st op=some (x,mk)):op.nw=true:=by
 cases op <;> simp only [newB] at h <;> first | rfl | cases h
theorem ldId_agree {st st':St} {op:AOp} (h:Agree st st' op.sls):ldId st' op=ldId st op:=by
 cases op <;> first | rfl | skip
 rename_i m x
 simp only [ldId]
 rw [ev_agree h]
theorem opAt_moveC {ai:AI} {o:Nat→Prop} (hat:OpAt P G ext ai F o) (hd:ai.op.hd=true) (hlb:lateB F ai.op=true) (hnw:ai.op.nw=false) {F2:St} (hck:∀ id,ldId F ai.op=some id→isCells (nth .gone F.h id)=true∧nth .gone F2.h id=nth .gone F.h id) (htl:F2.t.length=F.t.length)
  (hs1:∀ s∈ai.sls,nth (.c .top) F2.t s=nth (.c .top) F.t s) (hs2:∀ s,ai.dst=some s→nth (.c .top) F2.t s=nth (.c .top) F.t s):OpAt P G ext ai F2 o:=by
 intro tM hag
 have hag1:Agree F ⟨tM,F.h⟩ ai.sls:=fun s hs => (hag s hs).trans (hs1 s hs)
 rcases hat tM hag1 with ⟨hw,hd'⟩ | ⟨hw,v,hd',hk⟩ | ⟨hw,x,mk,id,hn,hd',hx,hid,ho⟩
 · exact .inl ⟨hw,fun s h1 h2 => (hs2 s h1).trans (hd' s h1 (by omega))⟩
 · refine .inr (.inl ⟨hw,v,fun s h1 h2 => (hs2 s h1).trans (hd' s h1 (by omega)),fun k' K' h => ?_⟩)
   refine late_moveC hd hnw (opL_of (st:=F) (Agree.right hag1) hlb) (fun id hid => ?_) (hk (fun v _ => k' v F2.h) K' h)
   rw [ldId_agree (st:=F) (Agree.right hag1)] at hid
   exact hck id hid
 · rw [newB_nw hn] at hnw;cases hnw
structure AncOK (al:List AI) (N n:Nat) (e:List Bool):Prop where
 lt:∀ i,isIn e i→i<N
 up:∀ i,isIn e i→∃ j x y d,i<j∧j<N∧(j=n∨isIn e j)∧al[i]? = some x∧al[j]? = some y∧x.dst=some d∧d∈y.sls
theorem anc_listed (hok:RegZ ops al N) (inv:HeadInv .any ops N listed) {n:Nat} {e:List Bool} (he:AncOK al N n e) {mm:AI} (hmm:al[n]? = some mm) (hrd:∀ s∈AI.sls mm,∀ j aj,j<N→al[j]? = some aj→aj.dst=some s→listed.getD j false=true):∀ (k i:Nat),N - i≤k→isIn e i→listed.getD i false=true:=by
 intro k
 induction k with
 | zero => intro i h1 h2;have:=he.lt i h2;omega
 | succ k ih =>
   intro i h1 h2
   obtain ⟨j,x,y,d,h3,h4,h5,h6,h7,h8,h9⟩:=he.up i h2
   rcases h5 with rfl | h5
   · rw [hmm] at h7;injection h7 with h7;subst h7
     exact hrd d h9 i x (by omega) h6 h8
   · have hj:=ih j (by omega) h5
     obtain ⟨o,ho,e',he',hb,hon⟩:=Region.waitsFor_spec (hok.dep j i y x d h7 h6 h4 (by omega) h8 h9)
     have:=inv.closed j o ho hj e' he' hb
     rwa [hon] at this
theorem gwant_agree {s s':St} {g:Option (Nat × Bool)} (h:∀ j b,g=some (j,b)→nth (.c .top) s'.t j=nth (.c .top) s.t j):gwant s' g=gwant s g:=by
 cases g with
 | none => rfl
 | some p =>
   obtain ⟨j,b⟩:=p
   simp only [gwant]
   rw [h j b rfl]
theorem anchorC (hext:SoundExt P G ext) (hok:RegZ ops al N) (hal:cOpers P ops ops.toList=some al) {u e:List Bool} {n:Nat} (hn:NextOK ops al N u n) (hul:∀ j,isIn u j→j<N) {mm:AI} (hmm:al[n]? = some mm) {f:FuncId} {args:List AX} (hma:mm.op=.call f args) (hmg:gwant F mm.guard=some true) {dM:Nat} (hmd:mm.dst=some dM)
  (hm1:∀ i j x y d,isIn u i→j<N→¬ isIn u j→al[i]? = some x→al[j]? = some y→y.dst=some d→d ∉ x.sls)
  (hz:lateC F (selL (latB u e) al)=true) {kk:St→Tr} {K:X→St→Prop} (h:(opT ext F (fun v h' => kpT F h' (selL (latB u e) al) (chk (Nat.ble (lenL F.h) (lenL h')) (kk ⟨putT F.t mm.dst v,h'⟩))) mm.op).holds P G K) {Q:Exit→Act→World→Prop}
  {o:Oper} (ho:ops[n]? = some o) (hrdy:n∈Region.ready .any ops listed) (I:IZ P G ops al N ext u F own β0 R0 w0 listed a w β R) (hch:∀ i,isIn e i→listed.getD i false=true)
  (hrd:∀ s∈AI.sls mm,∀ j aj,j<N→al[j]? = some aj→aj.dst=some s→listed.getD j false=true) {K2:Act→World→Prop}
  (hK:∀ st' own' a' w' β' R',(kk st').holds P G K→IZ P G ops al N ext (orB u (unitB n)) st' own' β0 R0 w0 (listed.setIfInBounds n true) a' w' β' R'→(∀ i ai,isIn (orB u (unitB n)) i→al[i]? = some ai→(listed.setIfInBounds n true).getD i false=false→lateB st' ai.op=true)→K2 a' w'):wpOp P ops Q n K2 a w:=by
 obtain ⟨q1,o',q2,q3⟩:=mem_ready.1 hrdy
 rw [ho] at q2;injection q2 with q2;subst q2
 have hns:n<ops.size:=(Array.getElem?_eq_some_iff.1 ho).1
 have hun:=getD_both q1
 have hil:n<listed.size:=by rw [I.inv.size];exact hns
 obtain ⟨ai,ha,hco⟩:=(cOpers_get hal).2 n o (by simpa using ho)
 rw [hmm] at ha;injection ha with ha;subst ha
 simp only [cOper,Option.bind_eq_bind,Option.bind_eq_some_iff,Option.pure_def,Option.some.injEq] at hco
 obtain ⟨aop,hop,g,hgd,rfl⟩:=hco
 dsimp only at hma hmg hmd hz h
 subst hma
 obtain ⟨tM,hsim,htM⟩:=I.dx.mask
 have hag0:∀ s∈AI.sls ⟨o.dst,.call f args,g⟩,nth (.c .top) tM s=nth (.c .top) F.t s:=fun s hs => htM s (fun j aj h1 h2 h3 h4 => by
  rw [hrd s hs j aj (hul j h1) h2 h4] at h3;cases h3)
 have hag:Agree F ⟨tM,F.h⟩ (AOp.call f args).sls:=fun s hs => hag0 s (by simp [AI.sls,hs])
 unfold wpOp
 simp only [ho]
 have hgw:gwant ⟨tM,F.h⟩ g=some true:=by
  rw [gwant_agree (s:=F) (s':=⟨tM,F.h⟩) (fun j b hjb => hag0 j (by subst hjb;simp [AI.sls]))]
  exact hmg
 have hw':=gwant_sound (o:=o) (ai:=⟨o.dst,.call f args,g⟩) hsim hgd (b:=true) hgw
 rw [hw']
 simp only [if_true]
 simp only [opT] at h
 obtain ⟨v,h',hkk,hv⟩:=hext.val _ _ _ _ _ h
 obtain ⟨hkp,hkk⟩:=kpT_sound hkk
 obtain ⟨hlen,hkk⟩:=chk_true hkk
 have hlen:=Nat.le_of_ble_eq_true hlen
 rw [lenL_eq,lenL_eq] at hlen
 have h1:(opT ext ⟨tM,F.h⟩ (fun v' h'' => .rq (v'=v∧h''=h') (.done .normal ⟨[],[]⟩)) (.call f args)).holds P G fun _ _ => True:=by
  simp only [opT]
  rw [mapEv_agree (st:=F) (st':=⟨tM,F.h⟩) hag]
  exact hv _ _ ⟨⟨rfl,rfl⟩,trivial⟩
 refine .inl ((opT_sound hsim hop hext h1).wp ?_)
 rintro x' w' ⟨β',R',x,hh,⟨⟨rfl,rfl⟩,_⟩,r2,r3,r4,r5⟩
 rw [hmd] at hkk
 have slot:∀ s,s≠dM→nth (.c .top) (upd x F.t dM) s=nth (.c .top) F.t s:=fun s hs => nth_upd_ne _ _ _ (fun e => hs e.symm)
 have unl:∀ i,isIn (orB u (unitB n)) i→(listed.setIfInBounds n true).getD i false=false→isIn u i∧i≠n∧listed.getD i false=false:=fun i hi hl => by
  obtain ⟨h3,h4⟩:=getD_set_other hl hil
  have hne:i≠n:=by first | exact h4 | exact fun e => h4 e.symm
  exact ⟨(isIn_or.1 hi).resolve_right (fun e => hne (isIn_unit.1 e)),hne,h3⟩
 have late:∀ i ai,isIn u i→al[i]? = some ai→listed.getD i false=false→(lateB F ai.op=true∧ai.op.nw=false)∧∀ id,ldId F ai.op=some id→isCells (nth .gone F.h id)=true∧nth .gone hh id=nth .gone F.h id:=fun i ai hi hai hl => by
  have hc:nth false (latB u e) i=true:=by
   rw [nth_latB]
   have h1:nth false u i=true:=hi
   rw [h1]
   cases hq:nth false e i with
   | false => rfl
   | true => rw [hch i hq] at hl;cases hl
  exact ⟨lateC_mem hz (selL_at hc hai),kpP_mem hkp (selL_at hc hai)⟩
 refine hK ⟨upd x F.t dM,hh⟩ (fun i => if i=n then fun _ => False else own i) _ w' β' R' hkk ⟨I.inv.set hrdy hn.nN,fun i hi hiu => ?_,⟨I.dx.gr.trans r4,r3,?_,?_,?_,?_⟩,?_,?_,?_⟩ ?_
 · have h2:¬ isIn u i:=fun e => hiu (isIn_or.2 (.inl e))
   have h3:i≠n:=fun e => hiu (isIn_or.2 (.inr (isIn_unit.2 e)))
   rw [getD_set_ne false (fun e => h3 e.symm)];exact I.un i hi h2
 · cases o.dst <;> exact I.dx.df
 · rw [hmd]
   show (a.tmps.setIfInBounds dM x').size=(upd x F.t dM).length
   rw [Array.size_setIfInBounds,upd_eq,List.length_set];exact I.dx.sz
 · intro s u' hu hnd
   rw [hmd] at hu
   have hu:(a.tmps.setIfInBounds dM x')[s]? = some u':=hu
   by_cases e:dM=s
   · subst e
     have hss:dM<a.tmps.size:=by
      rcases Nat.lt_or_ge dM a.tmps.size with h | h
      · exact h
      · rw [Array.getElem?_eq_none (by simpa using h)] at hu;cases hu
     simp [hss] at hu
     subst hu
     show VR β' R' w' (nth (.c .top) (upd x F.t dM) dM) x'
     rw [nth_upd_eq _ _ _ (by rw [← I.dx.sz];exact hss)]
     exact r2
   · have hu':a.tmps[s]? = some u':=by rwa [Array.getElem?_setIfInBounds_ne e] at hu
     show VR β' R' w' (nth (.c .top) (upd x F.t dM) s) u'
     rw [slot s (fun h => e h.symm)]
     exact VR.keep r4.keeps (I.dx.sl s u' hu' (fun j aj hj hja hjl => hnd j aj (isIn_or.2 (.inl hj)) hja (by rw [getD_set_ne false (fun h => hn.nu (by rw [h];exact hj))];exact hjl)))
 · intro i hi hl id hid
   obtain ⟨h2,h3,h4⟩:=unl i hi hl
   rw [if_neg h3] at hid
   rw [r5 id (I.ob i id h2 hid)]
   exact I.dx.fr i h2 h4 id hid
 · intro i ai hi hai hl
   obtain ⟨h2,h3,h4⟩:=unl i hi hl
   rw [if_neg h3]
   obtain ⟨q4,q5⟩:=I.opAt i ai h2 hai h4
   obtain ⟨⟨q6,q7⟩,q8⟩:=late i ai h2 hai h4
   exact ⟨opAt_moveC q4 q5 q6 q7 q8 (by show (upd x F.t dM).length=_;rw [upd_eq,List.length_set]) (fun s hs => slot s fun e => hm1 i n ai _ dM h2 hn.nN hn.nu hai hmm hmd (e ▸ hs)) (fun s hs => slot s fun e => hok.dst i n ai _ s hai hmm (hul i h2) hn.nN h3 hs (by rw [hmd,e])),q5⟩
 · intro i j id hi hj hne h1 h2
   by_cases ei:i=n
   · rw [if_pos ei] at h1;exact h1
   by_cases ej:j=n
   · rw [if_pos ej] at h2;exact h2
   rw [if_neg ei] at h1
   rw [if_neg ej] at h2
   exact I.od i j id ((isIn_or.1 hi).resolve_right (fun e => ei (isIn_unit.1 e))) ((isIn_or.1 hj).resolve_right (fun e => ej (isIn_unit.1 e))) hne h1 h2
 · intro i id hi hid
   by_cases ei:i=n
   · rw [if_pos ei] at hid;exact hid.elim
   rw [if_neg ei] at hid
   have:=I.ob i id ((isIn_or.1 hi).resolve_right (fun e => ei (isIn_unit.1 e))) hid
   show id<hh.length
   omega
 · intro i ai hi hai hl
   obtain ⟨h2,h3,h4⟩:=unl i hi hl
   have q6:=(late i ai h2 hai h4).1.1
   refine opL_of (st:=F) (fun s hs => ?_) q6
   exact slot s fun e => hm1 i n ai _ dM h2 hn.nN hn.nu hai hmm hmd (e ▸ (by simp [AI.sls,hs]))
def isCall:AOp→Bool
 | .call .. => true
 | _ => false
noncomputable def runC (ext:Ext) (al:List AI) (kT:St→Tr):List Bool→List (List Bool × List Bool × Nat)→List Bool→St→Tr
 | _,[],m,st => regT (pureX ext) (selL m al) st kT
 | v,(m,e,n)::r,mE,st => regT (pureX ext) (selL m al) st fun st1 => match nthO al n with
   | some mm => match gwant st1 mm.guard with
     | some true => chk (isCall mm.op && (isS mm.dst && lateC st1 (selL (latB (orB v m) e) al))) (opT ext st1 (fun x h' => kpT st1 h' (selL (latB (orB v m) e) al) (chk (Nat.ble (lenL st1.h) (lenL h')) (runC ext al kT (orB (orB v m) (unitB n)) r mE ⟨putT st1.t mm.dst x,h'⟩))) mm.op)
     | _ => .fail
   | none => .fail
def StagesC (ops:Array Oper) (al:List AI) (N:Nat):List Bool→List (List Bool × List Bool × Nat)→List Bool→Prop
 | v,[],m => StageOK ops al N v m∧∀ i,i<N→isIn (orB v m) i
 | v,(m,e,n)::r,mE => StageOK ops al N v m∧NextOK ops al N (orB v m) n∧AncOK al N n e∧StagesC ops al N (orB (orB v m) (unitB n)) r mE
theorem runC_any (hext:SoundExt P G ext) (hok:RegZ ops al N) (hal:cOpers P ops ops.toList=some al) {kT:St→Tr} {K:X→St→Prop} {Q:Exit→Act→World→Prop}
  (hT:∀ st' a w β R,(kT st').holds P G K→Sim G β R st' a w→Gr β0 R0 w0 β R w→wpList P ops Q (ops.toList.drop N) a w) :
  ∀ (r:List (List Bool × List Bool × Nat)) (v mE:List Bool) (st:St) (own:Nat→Nat→Prop) (listed:Array Bool) (a:Act) (w:World) (β:Bt) (R:Nat→Prop),StagesC ops al N v r mE→(runC ext al kT v r mE st).holds P G K→IZ P G ops al N ext v st own β0 R0 w0 listed a w β R→(∀ i ai,isIn v i→al[i]? = some ai→listed.getD i false=false→lateB st ai.op=true)→wpAny P .any ops Q (cnt listed N+(ops.size - N)) listed a w
 | [],v,mE,st,own,listed,a,w,β,R,hS,h,I,hl => by
   obtain ⟨hst,hall⟩:=hS
   obtain ⟨S,h0,hk0,hstep⟩:=regT_run hext (selL mE al) st (fun ai hai => by
    obtain ⟨q,hq⟩:=List.mem_iff_getElem?.1 hai
    obtain ⟨j,h1,h2,_⟩:=selL_from hq
    exact hst.hd j ai h1 h2) h
   have hr:Run P G ext (selL mE al) (selL mE al).length S:=⟨Nat.le_refl _,fun i ai _ ha => hstep i ai ha⟩
   obtain ⟨own',I'⟩:=stage_run hok hst h0 rfl hr I hl
   exact endZ hext hok hal hall (fun j hj => by rcases isIn_or.1 hj with h | h;exact hst.vlt j h;exact hst.mlt j h) (fun a w β R s1 s2 => hT _ a w β R hk0 s1 s2) _ listed a w β R rfl I'
 | (m,e,n)::r,v,mE,st,own,listed,a,w,β,R,hS,h,I,hl => by
   obtain ⟨hst,hn,he,hS⟩:=hS
   obtain ⟨S,h0,hk0,hstep⟩:=regT_run hext (selL m al) st (fun ai hai => by
    obtain ⟨q,hq⟩:=List.mem_iff_getElem?.1 hai
    obtain ⟨j,h1,h2,_⟩:=selL_from hq
    exact hst.hd j ai h1 h2) h
   have hr:Run P G ext (selL m al) (selL m al).length S:=⟨Nat.le_refl _,fun i ai _ ha => hstep i ai ha⟩
   obtain ⟨own',I'⟩:=stage_run hok hst h0 rfl hr I hl
   have hul:∀ j,isIn (orB v m) j→j<N:=fun j hj => by rcases isIn_or.1 hj with h | h;exact hst.vlt j h;exact hst.mlt j h
   rw [nthO_eq] at hk0
   split at hk0
   case h_2 => exact hk0.elim
   rename_i mm hmm
   split at hk0
   case h_2 => exact hk0.elim
   rename_i hmg
   obtain ⟨c1,hk⟩:=chk_true hk0
   simp only [Bool.and_eq_true] at c1
   obtain ⟨c1,c3,c4⟩:=c1
   obtain ⟨f,args,hma⟩:∃ f args,mm.op=.call f args:=by
    cases hq:mm.op <;> rw [hq] at c1 <;> first | exact ⟨_,_,rfl⟩ | cases c1
   obtain ⟨dM,hmd⟩:∃ d,mm.dst=some d:=by
    cases hg:mm.dst with
    | some d => exact ⟨d,rfl⟩
    | none => rw [hg] at c3;cases c3
   refine loopZ hext hok hal hn hul ?_ _ listed a w β R rfl I'
   intro listed a w β R o ho hrdy I2 _ hrd
   rw [hmm] at hrd
   refine anchorC hext hok hal hn hul hmm hma hmg hmd (fun i j x y d hi hj hnj => hst.m1 i j x y d (isIn_or.1 hi) hj (fun e => hnj (isIn_or.2 e))) c4 (kk:=fun st' => runC ext al kT (orB (orB v m) (unitB n)) r mE st') hk ho hrdy I2 (fun i hi => anc_listed hok I2.inv he hmm hrd N i (by omega) hi) hrd ?_
   intro st' own'' a' w' β' R' hk' I3 hl3
   have hns:n<ops.size:=(Array.getElem?_eq_some_iff.1 ho).1
   obtain ⟨q1,_⟩:=mem_ready.1 hrdy
   have hc:=cnt_set (listed:=listed) (i:=n) (by rw [I2.inv.size];exact hns) (getD_both q1) hn.nN
   rw [show cnt listed N - 1=cnt (listed.setIfInBounds n true) N by omega]
   exact runC_any hext hok hal hT r _ mE st' own'' _ a' w' β' R' hS hk' I3 hl3
theorem regC_sound (hext:SoundExt P G ext) {id:Nat} (hm:P.follows .mixedOrders=true) (hal:cOpers P ops ops.toList=some al) (hok:RegZ ops al N) {r:List (List Bool × List Bool × Nat)} {m:List Bool} (hS:StagesC ops al N [] r m) {st:St} {kT:St→Tr} {K:X→St→Prop}
  (h:(runC ext al kT [] r m st).holds P G K) {Q:Exit→Act→World→Prop} {a:Act} {w:World} (hs:Sim G β R st a w)
  (hT:∀ st' a' w' β' R',(kT st').holds P G K→Sim G β' R' st' a' w'→Gr β R w β' R' w'→wpList P ops Q (ops.toList.drop N) a' w'):(Code.region id ops true).wp P Q a w:=by
 refine wp_region_any hm ?_
 obtain ⟨hs',hg⟩:=hs.drawn (w.drawn+1)
 have no:∀ i,¬ isIn [] i:=fun i h => by cases i <;> cases h
 have key:=runC_any (β0:=β) (R0:=R) (w0:=w) (Q:=Q) hext hok hal hT r [] m st (fun _ _ => False) (Array.replicate ops.size false) a { w with drawn:=w.drawn+1 } β R hS h ⟨⟨by simp,fun j oj _ hl => (by rw [getD_replicate_false] at hl;cases hl),fun t _ ht => getD_in (by simpa using ht) (getD_replicate_false _ _)⟩,fun i _ _ => getD_replicate_false _ _,⟨hg,hs'.hs,hs.df,by have:=hs'.tm.length;simpa using this.symm,fun s u hu _ => ?_,fun i hi => absurd hi (no i)⟩,fun i ai hi => absurd hi (no i),fun i j id hi => absurd hi (no i),fun i id hi => absurd hi (no i)⟩ (fun i ai hi => absurd hi (no i))
 · rwa [cnt_all hok.le,show N+(ops.size - N)=ops.size by have:=hok.le;omega] at key
 · have hv:=ev_sound (x:=.tmp s) hs' rfl
   have e:a.eval (.tmp s)=u:=by show a.tmps.getD s undef=u;simp [hu]
   rw [e] at hv
   exact hv
def depB (al:List AI) (N:Nat):Bool:=allN N fun j => allN (j+1) fun i => !memD (dstO al j) (slsO al i)
theorem regZ_regd {n:Nat} (h:regOK ops.toList al n=true) (hN:n≤al.length) (hd:depB al n=true) (hl:al.length=ops.size):RegZ ops al n:=by
 have hr:=regOK_of h
 have hb:=hr.toRegB
 refine ⟨hb.back,fun i j x y d h1 h2 h3 h4 => hb.dst i j x y d h1 h2 h3 h4,fun i j x y d h1 h2 h3 h4 h5 h6 => ?_,fun i h1 h2 => ?_,fun t h1 h2 => ?_,hl,by omega⟩
 · rcases hb.dep i j x y d h1 h2 h3 h4 h5 h6 with h7 | h7
   · exact h7
   · obtain ⟨o,ho,e,he,hbi,hon⟩:=Region.waitsFor_spec h7
     have hlt:=hb.back j o ho e he hbi
     rw [hon] at hlt
     have:=allN_at (allN_at hd j h4) i (by omega)
     rw [dstO_eq h2,slsO_eq h1,h5,memD_iff.2 h6] at this
     cases this
 · rcases hr.tl with h3 | ⟨h3,_⟩
   · omega
   · unfold Region.sinkB at h3
     rw [List.all_eq_true] at h3
     have:=h3 i (List.mem_range.2 h1)
     rw [List.any_eq_true] at this
     obtain ⟨j,hj,hq⟩:=this
     have hj:=List.mem_range.1 hj
     simp only [Bool.and_eq_true,decide_eq_true_eq] at hq
     exact ⟨j,hq.1,by omega,hq.2⟩
 · rcases hr.tl with h3 | ⟨_,h3⟩
   · omega
   · have:=List.all_eq_true.1 h3 t (List.mem_range.2 h2)
     simp only [Bool.or_eq_true,decide_eq_true_eq] at this
     rcases this with h | h
     · omega
     · exact h
def nextD (al:List AI) (N:Nat) (u:List Bool) (n:Nat):Bool :=
 Nat.blt n N && (!(nth false u n) && allN N (fun i => nth false u i || (Nat.beq i n || !allN i (fun j => nth false u j || !memD (dstO al j) (slsO al i)))))
theorem memD_some {d:Option Nat} {l:List Nat} (h:memD d l=true):∃ a,d=some a∧a∈l:=by
 cases d with
 | none => cases h
 | some a => exact ⟨a,rfl,memD_iff.1 h⟩
theorem dst_at {al:List AI} {j d:Nat} (h:dstO al j=some d):∃ x,al[j]? = some x∧x.dst=some d:=by
 unfold dstO at h
 rw [nthO_eq] at h
 cases hx:al[j]? with
 | none => rw [hx] at h;cases h
 | some x => rw [hx] at h;exact ⟨x,rfl,h⟩
theorem sls_at {al:List AI} {i d:Nat} (h:d∈slsO al i):∃ x,al[i]? = some x∧d∈x.sls:=by
 unfold slsO at h
 rw [nthO_eq] at h
 cases hx:al[i]? with
 | none => rw [hx] at h;cases h
 | some x => rw [hx] at h;exact ⟨x,rfl,h⟩
theorem nextD_of (hok:RegZ ops al N) {u:List Bool} {n:Nat} (h:nextD al N u n=true):NextOK ops al N u n:=by
 unfold nextD at h
 simp only [Bool.and_eq_true] at h
 obtain ⟨h1,h2,h3⟩:=h
 refine ⟨by simpa using h1,fun e => (by rw [show nth false u n=true from e] at h2;cases h2),fun i hi hu hne => ?_⟩
 have:=allN_at h3 i hi
 have e1:Nat.beq i n=false:=by
  cases hq:Nat.beq i n with
  | false => rfl
  | true => exact absurd (Nat.eq_of_beq_eq_true hq) hne
 rw [show nth false u i=false by simpa [isIn] using hu,e1] at this
 simp only [Bool.false_or,Bool.not_eq_true'] at this
 obtain ⟨j,h4,h5⟩:=allN_not this
 simp only [Bool.or_eq_false_iff,Bool.not_eq_false'] at h5
 obtain ⟨d,h6,h7⟩:=memD_some h5.2
 obtain ⟨y,h8,h9⟩:=dst_at h6
 obtain ⟨x,h10,h11⟩:=sls_at h7
 exact ⟨j,h4,fun e => (by rw [show nth false u j=true from e] at h5;cases h5.1),hok.dep i j x y d h10 h8 hi (by omega) h9 h11⟩
def ancB (al:List AI) (N n:Nat) (e:List Bool):Bool:=Nat.ble (lenL e) N && (Nat.blt n N && allN N fun i => !nth false e i || !allN N fun j => !(Nat.blt i j && ((Nat.beq j n || nth false e j) && memD (dstO al i) (slsO al j))))
theorem ancB_of {n:Nat} {e:List Bool} (h:ancB al N n e=true):AncOK al N n e:=by
 unfold ancB at h
 simp only [Bool.and_eq_true] at h
 obtain ⟨h1,h2,h3⟩:=h
 have h1:=Nat.le_of_ble_eq_true h1
 have lt:∀ i,isIn e i→i<N:=fun i hi => by have:=isIn_lt hi;omega
 refine ⟨lt,fun i hi => ?_⟩
 have:=allN_at h3 i (lt i hi)
 rw [show nth false e i=true from hi] at this
 simp only [Bool.not_true,Bool.false_or,Bool.not_eq_true'] at this
 obtain ⟨j,h4,h5⟩:=allN_not this
 simp only [Bool.not_eq_false',Bool.and_eq_true,Bool.or_eq_true] at h5
 obtain ⟨h5,h6,h7⟩:=h5
 obtain ⟨d,h8,h9⟩:=memD_some h7
 obtain ⟨x,h10,h11⟩:=dst_at h8
 obtain ⟨y,h12,h13⟩:=sls_at h9
 refine ⟨j,x,y,d,by simpa using h5,h4,?_,h10,h12,h11,h13⟩
 rcases h6 with h6 | h6
 · exact .inl (Nat.eq_of_beq_eq_true h6)
 · exact .inr h6
def stagesC (al:List AI) (N:Nat):List Bool→List (List Bool × List Bool × Nat)→List Bool→Bool
 | v,[],m => stageB al N v m && allN N (nth false (orB v m))
 | v,(m,e,n)::r,mE => stageB al N v m && (nextD al N (orB v m) n && (ancB al N n e && stagesC al N (orB (orB v m) (unitB n)) r mE))
theorem stagesC_of (hok:RegZ ops al N):∀ {r:List (List Bool × List Bool × Nat)} {v mE:List Bool},stagesC al N v r mE=true→StagesC ops al N v r mE
 | [],v,mE,h => by
   simp only [stagesC,Bool.and_eq_true] at h
   exact ⟨stage_of h.1,fun i hi => allN_at h.2 i hi⟩
 | (m,e,n)::r,v,mE,h => by
   simp only [stagesC,Bool.and_eq_true] at h
   exact ⟨stage_of h.1,nextD_of hok h.2.1,ancB_of h.2.2.1,stagesC_of hok h.2.2.2⟩
def dscL (n:Nat):Nat→List Nat→List AI→List Bool
 | _,_,[] => []
 | i,ws,x::r => match Nat.beq i n || anyL (fun s => memN s ws) x.sls with
   | true => true::dscL n (i+1) (match x.dst with
     | some d => d::ws
     | none => ws) r
   | false => false::dscL n (i+1) ws r
def ancS (b:Bool) (x:AI):List Bool × List Nat→List Bool × List Nat
 | (bs,ns) => match b with
   | true => (false::bs,x.sls)
   | false => match memD x.dst ns with
     | true => (true::bs,x.sls ++ ns)
     | false => (false::bs,ns)
def ancL (n:Nat):Nat→List AI→List Bool × List Nat
 | _,[] => ([],[])
 | i,x::r => ancS (Nat.beq i n) x (ancL n (i+1) r)
def appLL {α:Type}:List α→List α→List α
 | [],m => m
 | x::r,m => x::appLL r m
theorem appLL_eq {α:Type}:∀ l m:List α,appLL l m=l ++ m
 | [],_ => rfl
 | x::r,m => by simp [appLL,appLL_eq r m]
def freeB:List Bool→List Bool→List Bool
 | _,[] => []
 | [],y::s => (!y)::freeB [] s
 | x::r,y::s => (!x && !y)::freeB r s
def stgs (al:List AI):List Bool→List Nat→List (List Bool × List Bool × Nat)
 | _,[] => []
 | v,n::r => (freeB v (dscL n 0 [] al),(ancL n 0 al).1,n)::stgs al (orB (orB v (freeB v (dscL n 0 [] al))) (unitB n)) r
def endB (al:List AI):List Bool→List Nat→List Bool
 | v,[] => freeB v (al.map fun _ => false)
 | v,n::r => endB al (orB (orB v (freeB v (dscL n 0 [] al))) (unitB n)) r
noncomputable def runD (ext:Ext) (hd tl:List AI) (ns:List Nat) (st:St):Tr:=runC ext (appLL hd tl) (fun s => regT ext tl s fun s' => .done .normal s') [] (stgs hd [] ns) (endB hd [] ns) st
def regDB (hd tl:List AI) (ns:List Nat):Bool:=depB (appLL hd tl) (lenL hd) && stagesC (appLL hd tl) (lenL hd) [] (stgs hd [] ns) (endB hd [] ns)
theorem regd_inv {hd tl:List AI} {st:St} {K1:X→St→Prop} (hK:∀ id ops,P.follows .mixedOrders=true→cOpers P ops ops.toList=some (hd ++ tl)→regOK ops.toList (hd ++ tl) hd.length=true→Ex P G (.region id ops true) st K1):∀ c:Code,cCode P c=some (.regd hd tl)→Ex P G c st K1:=by
 intro c
 induction c with
 | region id ops draw =>
   intro h
   simp only [cCode] at h
   split at h
   case h_2 => cases h
   rename_i ac' hc
   injection h with h
   subst h
   cases draw with
   | false =>
     simp only [cReg,Option.map_eq_some_iff] at hc
     obtain ⟨x,_,hc⟩:=hc
     cases hc
   | true =>
     simp only [cReg] at hc
     split at hc
     · rename_i hm
       simp only [Option.bind_eq_bind,Option.bind_eq_some_iff,Option.pure_def,Option.some.injEq] at hc
       obtain ⟨al',h1,hc⟩:=hc
       split at hc
       · rename_i n h2
         injection hc with hc
         injection hc with hc1 hc2
         obtain ⟨h3,h4⟩:=findN_ok h2
         rw [lenL_eq] at h4
         rw [dropL_eq] at hc2
         rw [takeL_eq] at hc1
         have e1:hd ++ tl=al':=by rw [← hc1,← hc2];exact List.take_append_drop n al'
         have e2:hd.length=n:=by rw [← hc1,List.length_take];omega
         exact hK id ops hm (by rw [e1];exact h1) (by rw [e1,e2];exact h3)
       · repeat' (first | (cases hc;done) | (injection hc with hc;cases hc;done) | split at hc)
     · cases hc
 | scope c ih =>
   intro h
   exact ex_scope (ih (by simpa [cCode] using h))
 | _ =>
   intro h
   exfalso
   simp [cCode,Option.bind_eq_some_iff,Option.map_eq_some_iff] at h
theorem ExA.regdC {ext:Ext} (hext:SoundExt P G ext) {hd tl:List AI} {ns:List Nat} (hB:regDB hd tl ns=true) {st:St} {K1:X→St→Prop} (hh:(runD ext hd tl ns st).holds P G K1):ExA P G (.regd hd tl) st K1:=by
 refine regd_inv fun id ops hm hal hro => ?_
 unfold regDB at hB
 unfold runD at hh
 rw [appLL_eq] at hB hh
 rw [Bool.and_eq_true,lenL_eq] at hB
 have hl:(hd ++ tl).length=ops.size:=by simpa using (cOpers_get hal).1
 have hok:=regZ_regd hro (by simp) hB.1 hl
 intro β R a w hs
 refine regC_sound hext hm hal hok (stagesC_of hok hB.2) hh hs ?_
 intro st' a' w' β' R' hk hs' hg
 have hdr:=cOpers_drop hd.length hal
 rw [List.drop_left] at hdr
 exact regT_sound hext (ops.toList.drop hd.length) tl st' a' w' β' R' hdr hk hs' (fun a2 w2 β2 R2 st2 q1 q2 q3 => ⟨β2,R2,st2,q1,q2,(hg.trans q3).toFr,(hg.trans q3).rm⟩)
theorem ExS.regdC {rs:List AR} {v:V} {ext:Ext} (hext:SoundExt P G ext) {hd tl:List AI} {ns:List Nat} (hB:regDB hd tl ns=true) {l r':List ACode} {st:St} {Q:X→St→Prop} (hl:l=.regd hd tl::r') {tree:Tr}
  (ht:runD ext hd tl ns st=tree) (h:tree.holds P G fun e s => e=.normal∧ExS P G rs v r' s Q):ExS P G rs v l st Q:=by
 subst hl;subst ht
 refine ExA.mono (ExA.regdC hext hB h) ?_
 rintro e s ⟨rfl,h⟩
 exact h
def regL:ACode→List AI
 | .regd al _ => al
 | _ => []
def regR:ACode→List AI
 | .regd _ tl => tl
 | _ => []
end
end Go.AE
