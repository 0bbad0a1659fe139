import Derived.Test.YtfjihbmehhccoaaB4
import Derived.Test.YtfjihbmehhccoaaB2
set_option linter.unusedVariables false
set_option linter.unusedSimpArgs false
namespace Go.AE
open _root_.Int renaming ofNat→dR
open IntKind renaming i64→aC
open _root_.List renaming append_assoc→cF,append_nil→eX,getD_eq_getElem?_getD→aD,getElem?_eq_getElem→aK,length_append→aL,length_set→cE,length_take→eR,mem_append→dK,mem_singleton→eO,take_length→fF
open _root_.Nat renaming beq→cA,le_refl→aW,not_lt_zero→iH,zero_le→bX
open _root_.Go.Proofs.Try renaming f11→fQ,prog→aB
open Go.Proofs Go.Proofs.Ytfjihbmehhccoaa Gp Go.RowKit
def aKZ:Ext:=kH [(49,aE5)]
theorem aTY(D:Ld)(rest:List AO)(b:Nat):dF fH (dL 3 (dC aB Try.f26)) (jR Try.f26 [0,1,2,3] [0] [b] [.c (.ptr 0 0)] (mL D rest)) (gP [0] (fJ 28 [0,3,15,16,17]) (bK aB Try.f26))=Tr.rq (dR 0≤dR 0∧0≤(↑D.M.length:Int)∧(↑D.M.length:Int)*(↑88:Int)≤140737488355328∧(↑D.M.length:Int)≤140737488355328)
 (.done .normal
 (bY 28 [(0,.c (.ptr 0 0)),(3,.c (.sl 1 7 0 0)),(15,.c (.sl 2 7 0 D.M.length)),(16,.c (.p (.i .i64 (↑D.M.length:Int)))),(17,.c (.p (.i .i64 0)))] [.pin 3 b,.row 31 7 0 fun e o=>bQ [4,5,1,0,2,3] (C.p (bC (PV.b false) [PV.i aC 0,PV.s (ByteArray.mk #[]),PV.i aC 0,PV.z (Value.slice none 0 0),PV.i aC 0,PV.i aC 0,PV.s (ByteArray.mk #[])] o)),.row 31 7 D.M.length fun e o=>bQ [4,5,1,0,2,3] (bQ [0,1,2,3] (aO aG D.M e o)),.cells 86 [.sl 2 7 0 D.M.length,.mp 4,.mp 5],.mapb (bJ aB 81) D.gp,.mapl (bJ aB 79) 3 1 D.gs none])):=by kernel_rfl
theorem aTX(D:Ld)(b k i:Nat)(out:List Pg):dF aKZ (gQ (dC aB Try.f26) 3) (bY 28 [(0,.c (.ptr 0 0)),(3,.c (.sl 1 7 0 k)),(15,.c (.sl 2 7 0 D.M.length)),(16,iV (D.M.length:Nat)),(17,iV (i:Nat))] [.pin 3 b,.row 31 7 k (aO aG out),.row 31 7 D.M.length (aO aG D.M),.cells 86 [.sl 2 7 0 D.M.length,.mp 4,.mp 5],.mapb (bJ aB 81) D.gp,.mapl (bJ aB 79) 3 1 D.gs none]) (gP [0] (fJ 28 [0,3,15,16,17]) (bK aB Try.f26))=bT (decide ((↑i:Int)<(↑D.M.length:Int)))
 (.rq (0≤(↑i:Int)∧(↑i:Int)<(↑D.M.length:Int))
 (.rq ((↑i:Int).toNat+0<D.M.length)
 (.rq
 (kI aN 2 (bS cS (D.M.getD ((↑i:Int).toNat+0) default).L.length (aE aN (D.M.getD ((↑i:Int).toNat+0) default).L)) (D.M.getD ((↑i:Int).toNat+0) default).L.length
 (aE aN (D.M.getD ((↑i:Int).toNat+0) default).L) ∧
 (bS cS (D.M.getD ((↑i:Int).toNat+0) default).L.length (aE aN (D.M.getD ((↑i:Int).toNat+0) default).L)).length≤1000000)
 (.rq (k=k)
 (.rq (1≤1)
 (.rq
 ((k+1)*88≤140737488355328 ∧
 k+1≤140737488355328 ∧
 ∀(e o:Nat),
 e<1 →
 o<7 →
 iQ
 (mI
 [C.p (PV.i aC (D.M.getD ((↑i:Int).toNat+0) default).kd),C.p (PV.s (D.M.getD ((↑i:Int).toNat+0) default).ru),
 C.p (PV.i aC (D.M.getD ((↑i:Int).toNat+0) default).ve),
 C.p
 (PV.l 2 (bS cS (D.M.getD ((↑i:Int).toNat+0) default).L.length (aE aN (D.M.getD ((↑i:Int).toNat+0) default).L)).length
 (aE aN (bS cS (D.M.getD ((↑i:Int).toNat+0) default).L.length (aE aN (D.M.getD ((↑i:Int).toNat+0) default).L)))),
 C.p (PV.i aC (D.M.getD ((↑i:Int).toNat+0) default).st),C.p (PV.i aC (D.M.getD ((↑i:Int).toNat+0) default).se),
 C.p (PV.s (D.M.getD ((↑i:Int).toNat+0) default).to)]
 7 1 (e+0) o) =
 true)
 (.rq (eW aC ((↑i:Int)+1))
 (.done .normal
 (bY 28 [(0,.c (.ptr 0 0)),(3,.c (.sl 1 7 0 (k+1))),(15,.c (.sl 2 7 0 D.M.length)),(16,.c (.p (.i .i64 (↑D.M.length:Int)))),(17,.c (.p (.i .i64 ((↑i:Int)+1))))] [.pin 3 b,.row 31 7 (k+1) fun e o=>bQ [0,8,2,3,4,5] (fI k (aO aG out) (fun e o=>bC C.top [C.p (PV.i aC (D.M.getD ((↑i:Int).toNat+0) default).kd),C.p (PV.s (D.M.getD ((↑i:Int).toNat+0) default).ru),C.p (PV.i aC (D.M.getD ((↑i:Int).toNat+0) default).ve),C.p (PV.l 2 (bS cS (D.M.getD ((↑i:Int).toNat+0) default).L.length (aE aN (D.M.getD ((↑i:Int).toNat+0) default).L)).length (aE aN (bS cS (D.M.getD ((↑i:Int).toNat+0) default).L.length (aE aN (D.M.getD ((↑i:Int).toNat+0) default).L)))),C.p (PV.i aC (D.M.getD ((↑i:Int).toNat+0) default).st),C.p (PV.i aC (D.M.getD ((↑i:Int).toNat+0) default).se),C.p (PV.s (D.M.getD ((↑i:Int).toNat+0) default).to)] ((e+0)*7+o)) e o),.row 31 7 D.M.length fun e o=>bQ [0,8,2,3,4,5] (aO aG D.M e o),.cells 86 [.sl 2 7 0 D.M.length,.mp 4,.mp 5],.mapb (bJ aB 81) D.gp,.mapl (bJ aB 79) 3 1 D.gs none])))))))))
 (.done (.exit 0)
 (bY 28 [(0,.c (.ptr 0 0)),(3,.c (.sl 1 7 0 k)),(15,.c (.sl 2 7 0 D.M.length)),(16,.c (.p (.i .i64 (↑D.M.length:Int)))),(17,.c (.p (.i .i64 (↑i:Int))))] [.pin 3 b,.row 31 7 k fun e o=>bQ [0,1,2,3,4,5] (aO aG out e o),.row 31 7 D.M.length fun e o=>bQ [0,1,2,3,4,5] (aO aG D.M e o),.cells 86 [.sl 2 7 0 D.M.length,.mp 4,.mp 5],.mapb (bJ aB 81) D.gp,.mapl (bJ aB 79) 3 1 D.gs none])):=by kernel_rfl
theorem aTW(D:Ld)(b:Nat)(out:List Pg):dF fH (bL 4 (dC aB Try.f26)) (bY 28 [(0,.c (.ptr 0 0)),(3,aU aG 7 out)] [.pin 1 b,.cells 86 [.sl 2 7 0 D.M.length,.mp 3,.mp 4],.row 31 7 D.M.length (aO aG D.M),.mapb (bJ aB 81) D.gp,.mapl (bJ aB 79) 3 1 D.gs none]) (gP [0] [] (bK aB Try.f26))=Tr.done X.ret
 (bY 2 [(0,.c (.ptr 0 0)),(1,.c (.p (.l 7 out.length (aE aG out))))] [.pin 1 b,.cells 86 [.sl 2 7 0 D.M.length,.mp 3,.mp 4],.row 31 7 D.M.length fun e o=>bQ [0,1,2,3,4] (aO aG D.M e o),.mapb (bJ aB 81) D.gp,.mapl (bJ aB 79) 3 1 D.gs none]):=by kernel_rfl
section
variable {G:Nat→Option Obj}
theorem PO:bG aB G aKZ:=eC (by simp;exact aDF)
set_option maxRecDepth 100000 in
theorem aG4(D:Ld)(h1:D.M.length≤1000000)(h2:∀p∈D.M,p.L.length≤1000000)(rest:List AO)(b:Nat)(Q:X→St→Prop):eP aB G (Zm [0] (bK aB Try.f26) fun s=>cW G s ⟨[.c (.ptr 0 0)]++[aU aG 7 D.M],pA D b⟩) (dC aB Try.f26) (jR Try.f26 [0,1,2,3] [0] [b] [.c (.ptr 0 0)] (mL D rest)) Q:=by
 refine eP.evG aY 3 (aTY D rest b) ?_;simp only[bA,aP,cI];refine⟨⟨by decide,by omega,by omega,by omega⟩,⟨?_⟩⟩
 refine eP.loop' (l:=bL 3 (dC aB Try.f26)) (b:=inr (inr (bC .skip (dC aB Try.f26) 3))) (r:=bL 4 (dC aB Try.f26)) (id:=0) (by kernel_rfl) (σ:=Nat)
   (fun i=>(fun out k=>bY 28 [(0,.c (.ptr 0 0)),(3,.c (.sl 1 7 0 k)),(15,.c (.sl 2 7 0 D.M.length)),(16,iV (D.M.length:Nat)),(17,iV (i:Nat))] [.pin 3 b,.row 31 7 k (aO aG out),.row 31 7 D.M.length (aO aG D.M),.cells 86 [.sl 2 7 0 D.M.length,.mp 4,.mp 5],.mapb (bJ aB 81) D.gp,.mapl (bJ aB 79) 3 1 D.gs none]) (D.M.take i) (D.M.take i).length) (fun i=>i≤D.M.length) (fun i=>D.M.length-i) 0 (bX _) (jF ⟨rfl,⟨rfl,rfl,rfl,fun e o he=>absurd he (iH _)⟩,⟨rfl,rfl,rfl,fun e o he ho=>rfl⟩,rfl,rfl,rfl,trivial⟩) ?_
 intro i hi Q1 q1n q1e _;refine eP.evH (keep:=fJ 28 [0,3,15,16,17]) PO (aTX D b (D.M.take i).length i (D.M.take i)) ?_
 have hl:(D.M.take i).length=i:=by rw[eR];omega
 simp only[cD,bA,aP,cI,mU,decide_eq_true_eq,decide_eq_false_iff_not,eW,show ∀x:Nat,x+0=x from fun _=>rfl,Int.toNat_natCast,gN];refine⟨fun hlt=>?_,fun hge=>⟨q1e _ ?_⟩⟩
 ·have hlt:i<D.M.length:=by omega
  have hsn:=uA hlt
  have hL:(D.M.getD i default).L.length≤1000000:=h2 _ (by
   rw[aD,aK hlt]
   exact List.getElem_mem _)
  generalize D.M.getD i default=p at hsn hL ⊢
  refine⟨by omega,hlt,⟨dP _ _ _,hL⟩,trivial,aW _,⟨by omega,by omega,fun e o he ho=>?_⟩,by omega,⟨?_⟩⟩
  ·obtain rfl:e=0:=by omega
   have:o=0∨o=1∨o=2∨o=3∨o=4∨o=5∨o=6:=by omega
   rcases this with rfl|rfl|rfl|rfl|rfl|rfl|rfl<;>rfl
  ·refine q1n (i+1) _ (by omega) (by omega) ?_
   have hlx:(D.M.take i).length+1=(D.M.take (i+1)).length:=by rw[hsn];simp
   rw[hlx];refine jF ⟨rfl,⟨rfl,rfl,rfl,fun e o he ho=>?_⟩,⟨rfl,rfl,rfl,fun e o he ho=>rfl⟩,rfl,rfl,rfl,trivial⟩
   show _=aO aG (D.M.take (i+1)) e o
   rw[hsn];refine pP (ρ:=[0,8,2,3,4,5]) rfl (IU p.kd p.ve p.st p.se p.ru p.to p.L) ?_ ho
   have he:e<(D.M.take (i+1)).length:=he
   rw[hsn]at he;simpa using he
 ·obtain rfl:i=D.M.length:=by omega
  rw[fF]
  refine eP.pre ((aI (st':=(fun out k i=>bY 28 [(0,.c (.ptr 0 0)),(3,.c (.sl 1 7 0 k)),(15,.c (.sl 2 7 0 D.M.length)),(16,iV (D.M.length:Nat)),(17,iV (i:Nat))] [.pin 3 b,.row 31 7 k (aO aG out),.row 31 7 D.M.length (aO aG D.M),.cells 86 [.sl 2 7 0 D.M.length,.mp 4,.mp 5],.mapb (bJ aB 81) D.gp,.mapl (bJ aB 79) 3 1 D.gs none]) D.M D.M.length D.M.length) (by kernel_rfl)).trans ((pD (j:=3) (id:=1) (ty:=31) (sz:=7) (n:=D.M.length) (off:=0) (len:=D.M.length) (f:=aO aG D.M) (by kernel_rfl) (by kernel_rfl) (by omega) (fun _ _ _ _=>rfl)).trans ((gB (fJ 28 [0,3]) _).trans (aI (st':=(fun out=>bY 28 [(0,.c (.ptr 0 0)),(3,aU aG 7 out)] [.pin 1 b,.cells 86 [.sl 2 7 0 D.M.length,.mp 3,.mp 4],.row 31 7 D.M.length (aO aG D.M),.mapb (bJ aB 81) D.gp,.mapl (bJ aB 79) 3 1 D.gs none]) D.M) (by kernel_rfl))))) ?_
  refine eP.evH (keep:=[]) aY (aTW D b D.M) ?_;simp only[aP,kA]
  exact⟨aI (by kernel_rfl)⟩
end
noncomputable def dD(M:List Pg):Ld:=M.foldl gM CO
theorem AA(M:List Pg)(p:Pg):dD (M++[p])=gM (dD M) p:=by unfold dD;rw[List.foldl_append];rfl
theorem aCN(M Y:List Pg):dD (M++Y)=Y.foldl gM (dD M):=by unfold dD;rw[List.foldl_append]
theorem UV:∀(M:List Pg) (D:Ld),(M.foldl gM D).M=D.M++M
 |[],D=>(eX _).symm
 |p::M,D=>by
  rw[List.foldl_cons,UV M]
  show (D.M++[p])++M=_
  rw[cF];rfl
theorem mF(M:List Pg):(dD M).M=M:=UV M CO
theorem JT:∀(M:List Pg) (D:Ld),RW D→(∀p∈M,KL p)→RW (M.foldl gM D)
 |[],D,h,_=>h
 |p::M,D,h,hM=>JT M (gM D p) (ME h (hM p (List.mem_cons_self ..))) fun q hq=>hM q (List.mem_cons_of_mem _ hq)
theorem uU{M:List Pg}(h:∀p∈M,KL p):RW (dD M):=JT M CO aJG h
theorem vL(T:List Int)(ru:ByteArray)(ve:Int)(L:List (ByteArray×ByteArray))(se:Int):∀(A:List Int) (D:Ld) (out:List Pg),∃Y,A.foldl (lM T ru ve L se) (D,out)=(Y.foldl gM D,out++Y)
 |[],D,out=>⟨[],by simp⟩
 |t::A,D,out=>by
  rw[List.foldl_cons]
  have step:lM T ru ve L se (D,out) t=(D,out)∨∃p,lM T ru ve L se (D,out) t=(gM D p,out++[p]):=by
   unfold lM;dsimp only;cases (D.gp (lC ru ve (cH L) t)).getD false<;>cases decide (t∈T)
   ·exact .inl rfl
   ·exact .inr ⟨_,rfl⟩
   ·exact .inr ⟨_,rfl⟩
   ·exact .inl rfl
  rcases step with e|⟨p,e⟩
  ·rw[e];exact vL T ru ve L se A D out
  ·rw[e]
   obtain⟨Y,h⟩:=vL T ru ve L se A (gM D p) (out++[p]);exact⟨p::Y,by rw[h,cF];rfl⟩
def sJ(M:List Pg):Prop:=(∀q∈M,KL q)∧M.length≤50000
theorem AS{M:List Pg}(h:sJ M)(p:Pg)(hve:eW .i64 p.ve):jL (dD M) p=((sI M p).2,dD (sI M p).1):=by
 obtain⟨k1,k2,_⟩:=UG (uU h.1) p hve;rw[mF]at k1 k2
 have k3:(jL (dD M) p).2=dD M∨(jL (dD M) p).2=gM (dD M) p:=by
  unfold jL
  split<;>first|exact .inl rfl|exact .inr rfl
 refine Prod.ext k1 ?_
 show (jL (dD M) p).2=dD (sI M p).1
 rcases k3 with e|e
 ·rw[e,mF]at k2
  rw[e,←k2]
 ·rw[e]at k2
  have k2:(dD M).M++[p]=(sI M p).1:=k2
  rw[mF]at k2;rw[e,←k2,AA]
def aRI(M:List Pg)(p:Pg)(T:List Int)(S:List Int):Prop:=
 GS (dD M) (iR p.ru p.ve (cH p.L)) S∧S.length≤M.length∧(hP ⟨0,p.ru,p.ve,p.L,0,p.se,⟨#[]⟩⟩=true→∀t∈S,gU t=true)∧iE (lA (dD M) p.ru p.ve p.L S T p.se).1 (aU aG 7 (wO M p T).2)∧(lA (dD M) p.ru p.ve p.L S T p.se).2=dD (wO M p T).1
theorem UM{M:List Pg}(h:sJ M)(p:Pg)(T:List Int)(hve:eW .i64 p.ve):∃S,aRI M p T S:=by
 obtain⟨S,D',k1,k2,k3,k4,k5,k6,k7⟩:=OX (uU h.1) p T hve;rw[mF]at k2 k3 k6 k7
 have hD:(lA (dD M) p.ru p.ve p.L S T p.se).2=D'∧iE (lA (dD M) p.ru p.ve p.L S T p.se).1 (aU aG 7 (wO M p T).2):=by
  cases hc:hP ⟨0,p.ru,p.ve,p.L,0,p.se,⟨#[]⟩⟩&&T.all gU with
  |true=>
   have:=k6 hc
   rw[this];exact⟨rfl,iE.refl _⟩
  |false=>
   obtain⟨e1,e2⟩:=k7 hc;rw[e1,e2];exact⟨rfl,iE.p (lY.nil 7 _)⟩
 refine⟨S,k1,k2,k5,hD.2,?_⟩
 have hY:∃Y:List Pg,(lA (dD M) p.ru p.ve p.L S T p.se).2=Y.foldl gM (dD M):=by
  unfold lA;split
  ·obtain⟨Y,hY⟩:=vL T p.ru p.ve p.L p.se (kU (iM (S++T))) (dD M) []
   refine⟨Y,?_⟩;unfold nZ;rw[hY]
  ·exact⟨[],rfl⟩
 obtain⟨Y,hY⟩:=hY;rw[hY];rw[hD.1]at hY
 have e:(dD M).M++Y=(wO M p T).1:=by rw[←k3,hY,UV]
 rw[mF]at e;rw[←e,aCN]
theorem UF{M:List Pg}(h:sJ M)(p:Pg):∃S,GS (dD M) (iR p.ru p.ve (cH p.L)) S∧S.length≤M.length∧(hP ⟨0,p.ru,p.ve,p.L,0,0,⟨#[]⟩⟩=true→∀t∈S,gU t=true)∧iE (nW (dD M) p.ru p.ve p.L S) (aU aT 1 (gF M p)):=by
 obtain⟨S,k1,k2,k3,k4⟩:=OS (uU h.1) p;rw[mF]at k2 k3 k4;refine⟨S,k1,k2,fun hc=>(k3 hc).1,?_⟩;cases hc:hP ⟨0,p.ru,p.ve,p.L,0,0,⟨#[]⟩⟩ with
 |true=>rw[(k3 hc).2];exact iE.refl _
 |false=>
  obtain⟨e1,e2⟩:=k4 hc;rw[e2,e1];exact iE.p (lY.nil 1 _)
theorem zF{M:List Pg}(h:sJ M){p:Pg}(hp:hP p=true)(hve:eW .i64 p.ve):tY (dD M) p:=by
 obtain⟨k1,k2,k3,k4,k5,k6⟩:=iP.1 hp;obtain⟨S,hv,h2,_⟩:=(uU h.1).vw p.ru p.ve p.L k3;rw[mF]at h2
 have t1:p.ru.size≤1000000:=by have:=vU k1;omega
 have t2:(cH p.L).size≤1000000:=by have:=wZ k3;omega
 have t3:=(kV k3).1
 have t4:=h.2
 refine⟨yQ _ _ _ _ t1 hve t2 (nU k4),yR _ _ _ t1 hve t2,t2,by omega,by rw[mF];omega,?_⟩
 have:=hv.st.1
 omega
def aJ8(x:V)(L:List (ByteArray×ByteArray)):Option Prop:=match OU x with
 |some (q,a)=>some (q∧a=L)
 |none=>none
theorem XG{x:V}{L:List (ByteArray×ByteArray)}{q:Prop}(h:aJ8 x L=some q)(hq:q):iE x (aU aN 2 L):=by
 unfold aJ8 at h;split at h
 ·rename_i q' a hx
  injection h with h;subst h;obtain⟨h1,rfl⟩:=hq;exact vX hx h1
 ·cases h
noncomputable def TZ(D D':Ld)(M:List Pg)(p:Pg)(M':List Pg)(e:Int):kD
 |[.c (.ptr 0 0),x],h=>match MC D h,LY x p with
  |some (q,rest),some r=>some ((r∧q)∧(sJ M∧eW .i64 p.ve)∧sI M p=(M',e)∧D=dD M∧D'=dD M',iV e,iT [0,1,2,3] [0] [1] (mL D rest) (pA D' 0))
  |_,_=>none
 |_,_=>none
noncomputable def LJ(D:Ld)(M:List Pg)(p:Pg)(out:List Int):kD
 |[.c (.ptr 0 0),.c (.p (.s ru)),.c (.p (.i .i64 ve)),x],h=>match MC D h,aJ8 x p.L with
  |some (q,rest),some r=>some (((r∧q)∧ru=p.ru∧ve=p.ve)∧(sJ M∧eW .i64 p.ve)∧gF M p=out∧D=dD M,aU aT 1 out,iT [0,1,2,3] [0] [1] (mL D rest) (pA D 0))
  |_,_=>none
 |_,_=>none
noncomputable def LV(D D':Ld)(M:List Pg)(p:Pg)(T:List Int)(M' out:List Pg):kD
 |[.c (.ptr 0 0),.c (.p (.s ru)),.c (.p (.i .i64 ve)),x,y,.c (.p (.i .i64 se))],h=>match MC D h,aJ8 x p.L,leI y T with
  |some (q,rest),some r,some s=>some ((((r∧q)∧s)∧ru=p.ru∧ve=p.ve∧se=p.se)∧(sJ M∧eW .i64 p.ve∧T.length≤50000)∧wO M p T=(M',out)∧D=dD M∧D'=dD M',aU aG 7 out,iT [0,1,2,3] [0] [1] (mL D rest) (pA D' 0))
  |_,_,_=>none
 |_,_=>none
section
variable {G:Nat→Option Obj}
theorem jW.resLe{P:Program}{f:FuncId}{args:List V}{h:List AO}{K K':V→List AO→Prop}(hk:∀x h',K x h'→∃x',iE x x'∧K' x' h')(hf:jW P G f args h K):jW P G f args h K':=by
 intro β R w vs ha hh;refine(hf β R w vs ha hh).mono ?_;rintro e w' ⟨u,β2,R2,x,h3,q1,q2,q3,q4,q5,q6⟩;obtain⟨x',k1,k2⟩:=hk x h3 q2;exact⟨u,β2,R2,x',h3,q1,k2,k1 β2 R2 w' u q3,q4,q5,q6⟩
theorem aIL(D D':Ld)(M:List Pg)(p:Pg)(M':List Pg)(e:Int):gG aB G 25 (TZ D D' M p M' e):=by
 intro args h p0 v h' hm hp;unfold TZ at hm
 split at hm;rotate_left;· cases hm
 split at hm;rotate_left;· cases hm
 rename_i x _ _ q rest r hl hx;obtain⟨rfl,rfl,rfl⟩:=gO hm;obtain⟨⟨hr,hq⟩,⟨hM,hve⟩,he,rfl,rfl⟩:=hp
 have hf:=AS hM p hve
 rw[he]at hf
 have:=XY (G:=G) (dD M) p (fun _ hok=>zF hM hok hve) rest
 rw[hf]at this;exact jW.ledger hl hq (jW.args (args':=[.c (.ptr 0 0),uK p]) this (.cons (.refl _) (.cons (tJ hx hr) .nil)))
theorem aDB(D:Ld)(M:List Pg)(p:Pg)(out:List Int):gG aB G 16 (LJ D M p out):=by
 intro args h p0 v h' hm hp;unfold LJ at hm
 split at hm;rotate_left;· cases hm
 split at hm;rotate_left;· cases hm
 rename_i ru ve x _ _ q rest r hl hx;obtain⟨rfl,rfl,rfl⟩:=gO hm;obtain⟨⟨⟨hr,hq⟩,rfl,rfl⟩,⟨hM,hve⟩,rfl,rfl⟩:=hp;obtain⟨S,k1,k2,k3,k4⟩:=UF hM p;refine jW.ledger hl hq (jW.args (args':=[.c (.ptr 0 0),.c (.p (.s p.ru)),iV p.ve,aU aN 2 p.L]) (jW.resLe (fun x' h' hk=>?_) (NC (dD M) p.ru p.ve p.L S k1 (fun hok=>?_) rest)) (.cons (.refl _) (.cons (.refl _) (.cons (.refl _) (.cons (XG hx hr) .nil)))))
 ·obtain⟨rfl,rfl⟩:=hk
  exact⟨_,k4,rfl,rfl⟩
 ·obtain⟨m1,m2,m3,_⟩:=iP.1 hok
  have t1:p.ru.size≤1000000:=by have:p.ru.size≤16:=vU m1;omega
  have t2:(cH p.L).size≤1000000:=by have:(cH p.L).size≤1000:=wZ m3;omega
  have t4:=hM.2
  exact⟨t2,yR _ _ _ t1 hve t2,fun t ht=>yQ _ _ _ _ t1 hve t2 (nU (k3 hok t ht)),by omega⟩
theorem aDO(D D':Ld)(M:List Pg)(p:Pg)(T:List Int)(M' out:List Pg):gG aB G 17 (LV D D' M p T M' out):=by
 intro args h p0 v h' hm hp;unfold LV at hm
 split at hm;rotate_left;· cases hm
 split at hm;rotate_left;· cases hm
 rename_i ru ve x y se _ _ _ q rest r s hl hx hy;obtain⟨rfl,rfl,rfl⟩:=gO hm;obtain⟨⟨⟨⟨hr,hq⟩,hs⟩,rfl,rfl,rfl⟩,⟨hM,hve,hT⟩,he,rfl,rfl⟩:=hp;obtain⟨S,k1,k2,k3,k4,k5⟩:=UM hM p T hve;rw[he]at k4 k5;refine jW.ledger hl hq (jW.args (args':=[.c (.ptr 0 0),.c (.p (.s p.ru)),iV p.ve,aU aN 2 p.L,aU aT 1 T,iV p.se]) (jW.resLe (fun x' h' hk=>?_) (RP (dD M) p.ru p.ve p.L S T p.se k1 (fun hok=>?_) (by omega) rest)) (.cons (.refl _) (.cons (.refl _) (.cons (.refl _) (.cons (XG hx hr) (.cons (xQ hy hs) (.cons (.refl _) .nil)))))))
 ·obtain⟨rfl,rfl⟩:=hk
  exact⟨_,k4,rfl,by rw[k5]⟩
 ·obtain⟨m1,m2,m3,_⟩:=iP.1 hok
  have t1:p.ru.size≤1000000:=by have:p.ru.size≤16:=vU m1;omega
  have t2:(cH p.L).size≤1000000:=by have:(cH p.L).size≤1000:=wZ m3;omega
  have t3:p.L.length≤8:=(kV m3).1
  have t4:=hM.2
  exact⟨t2,t1,hve,by omega,fun t ht=>nU (k3 hok t ht),by omega,by rw[mF];omega⟩
end
noncomputable def aLB:Ext:=mH [(20,aE9)]
noncomputable def aLL(D D':Ld)(M:List Pg)(p:Pg)(M':List Pg)(e:Int):Ext:=mH [(25,TZ D D' M p M' e)]
noncomputable def aKV(D:Ld)(M:List Pg)(p:Pg)(out:List Int):Ext:=mH [(16,LJ D M p out)]
noncomputable def aLZ(D D':Ld)(M:List Pg)(p:Pg)(T:List Int)(M' out:List Pg):Ext:=mH [(17,LV D D' M p T M' out)]
theorem tR1(M:List Pg)(h:List AO):dF aLB (dL 5 (dC aB fQ)) (jR fQ [] [] [] [.a [.p (bO aG 7 M)]] h) (gP [] (fJ 92 [1,3,4]) (bK aB fQ))=Tr.rq True
 (.done .normal
 (bY 92 [(1,.c (.ptr 0 0)),(3,.c (.ptr 1 0)),(4,.c (.p (.i .i64 0)))] [.cells 27 [.p (.l 7 M.length (aE aG M))],.cells 86 [.sl 2 7 0 0,.mp 3,.mp 4],.row 31 7 0 fun e o=>bQ [0,1,2,3,4] (C.p (aE aG CO.M e o)),.mapb (bJ aB 81) CO.gp,.mapl (bJ aB 79) 3 1 CO.gs none])):=by kernel_rfl
theorem tR2(D:Ld)(M:List Pg)(i:Nat):dF fH (dL 2 (gQ (dC aB fQ) 5)) (bY 92 [(1,.c (.ptr 4 0)),(3,.c (.ptr 0 0)),(4,iV (i:Nat))] (mL D [.cells 27 [.p (bO aG 7 M)]])) (gP [] (fJ 92 [1,3,4]) (bK aB fQ))=bT (decide ((↑i:Int)<(↑M.length:Int)))
 (.done .normal
 (bY 92 [(1,.c (.ptr 0 0)),(3,.c (.ptr 1 0)),(4,.c (.p (.i .i64 (↑i:Int))))] [.cells 27 [.p (.l 7 M.length (aE aG M))],.cells 86 [.sl 2 7 0 D.M.length,.mp 3,.mp 4],.row 31 7 D.M.length fun e o=>bQ [4,0,1,2,3] (aO aG D.M e o),.mapb (bJ aB 81) D.gp,.mapl (bJ aB 79) 3 1 D.gs none]))
 (.done (.exit 0)
 (bY 92 [(1,.c (.ptr 0 0)),(3,.c (.ptr 1 0)),(4,.c (.p (.i .i64 (↑i:Int))))] [.cells 27 [.p (.l 7 M.length (aE aG M))],.cells 86 [.sl 2 7 0 D.M.length,.mp 3,.mp 4],.row 31 7 D.M.length fun e o=>bQ [4,0,1,2,3] (aO aG D.M e o),.mapb (bJ aB 81) D.gp,.mapl (bJ aB 79) 3 1 D.gs none])):=by kernel_rfl
theorem tR3(D:Ld)(M:List Pg)(i:Nat):dF fH (dL 2 (eZ (inr (bC .skip (gQ (dC aB fQ) 5) 2)))) (bY 92 [(1,.c (.ptr 4 0)),(3,.c (.ptr 0 0)),(4,iV (i:Nat))] (mL D [.cells 27 [.p (bO aG 7 M)]])) (gP [] (fJ 92 [1,3,4,5,27]) (bK aB fQ))=Tr.rq (0≤(↑i:Int)∧(↑i:Int)<(↑M.length:Int))
 (.done .normal
 (bY 92 [(1,.c (.ptr 0 0)),(3,.c (.ptr 1 0)),(4,.c (.p (.i .i64 (↑i:Int)))),(5,.c (.ptr 2 0)),(27,.c (.p (.b ((M.getD (↑i:Int).toNat default).kd==0))))] [.cells 27 [.p (.l 7 M.length (aE aG M))],.cells 86 [.sl 3 7 0 D.M.length,.mp 4,.mp 5],.cells 31 [.p (.i .i64 (M.getD (↑i:Int).toNat default).kd),.p (.s (M.getD (↑i:Int).toNat default).ru),.p (.i .i64 (M.getD (↑i:Int).toNat default).ve),.p (.l 2 (M.getD (↑i:Int).toNat default).L.length (aE aN (M.getD (↑i:Int).toNat default).L)),.p (.i .i64 (M.getD (↑i:Int).toNat default).st),.p (.i .i64 (M.getD (↑i:Int).toNat default).se),.p (.s (M.getD (↑i:Int).toNat default).to)],.row 31 7 D.M.length fun e o=>bQ [4,0,5,1,2,3] (aO aG D.M e o),.mapb (bJ aB 81) D.gp,.mapl (bJ aB 79) 3 1 D.gs none])):=by kernel_rfl
theorem tR4(D D':Ld)(M N N':List Pg)(p:Pg)(i:Nat)(e:Int):dF (aLL D D' N p N' e) (eZ (aJX (bC .skip (eZ (inr (bC .skip (gQ (dC aB fQ) 5) 2))) 2))) (bY 92 [(1,.c (.ptr 5 0)),(3,.c (.ptr 0 0)),(4,iV (i:Nat)),(5,.c (.ptr 4 0))] (mL D [.cells 31 [.p (.i .i64 p.kd),.p (.s p.ru),.p (.i .i64 p.ve),.p (bO aN 2 p.L),.p (.i .i64 p.st),.p (.i .i64 p.se),.p (.s p.to)],.cells 27 [.p (bO aG 7 M)]])) (gP [] (fJ 92 [1,3,4]) (bK aB fQ))=Tr.rq
 (((kI aN 2 (bS cS p.L.length (aE aN p.L)) p.L.length (aE aN p.L)∧Pg.mk p.kd p.ru p.ve (bS cS p.L.length (aE aN p.L)) p.st p.se p.to=p) ∧
 D.M.length=D.M.length ∧
 D.M.length=D.M.length ∧
 (∀(e o:Nat),e<D.M.length→o<7→aO aG D.M e o=aO aG D.M e o)∧bJ aB 81=bJ aB 81∧D.gp=D.gp∧bJ aB 79=bJ aB 79∧D.gs=D.gs) ∧
 (sJ N∧eW aC p.ve)∧sI N p=(N',e)∧D=dD N∧D'=dD N')
 (bT (e != 0) (.done .ret (St.mk [V.c (C.p (PV.z (Value.pointer none)))] []))
 (.done (.exit 1)
 (bY 92 [(1,.c (.ptr 0 0)),(3,.c (.ptr 1 0)),(4,.c (.p (.i .i64 (↑i:Int))))] [.cells 27 [.p (.l 7 M.length (aE aG M))],.cells 86 [.sl 2 7 0 D'.M.length,.mp 3,.mp 4],.row 31 7 D'.M.length fun e o=>bQ [5,0,8,9,10] (C.p (aE aG D'.M e o)),.mapb (bJ aB 81) D'.gp,.mapl (bJ aB 79) 3 1 D'.gs none]))):=by kernel_rfl
theorem tR5(D:Ld)(M N:List Pg)(p:Pg)(now:List Int)(i:Nat):dF (aKV D N p now) (dL 3 (bL 3 (eZ (inr (bC .skip (gQ (dC aB fQ) 5) 2))))) (bY 92 [(1,.c (.ptr 5 0)),(3,.c (.ptr 0 0)),(4,iV (i:Nat)),(5,.c (.ptr 4 0))] (mL D [.cells 31 [.p (.i .i64 p.kd),.p (.s p.ru),.p (.i .i64 p.ve),.p (bO aN 2 p.L),.p (.i .i64 p.st),.p (.i .i64 p.se),.p (.s p.to)],.cells 27 [.p (bO aG 7 M)]])) (gP [] (fJ 92 [1,3,4,5,6,7,8]) (bK aB fQ))=Tr.rq
 ((((kI aN 2 (bS cS p.L.length (aE aN p.L)) p.L.length (aE aN p.L)∧bS cS p.L.length (aE aN p.L)=p.L) ∧
 D.M.length=D.M.length ∧
 D.M.length=D.M.length ∧
 (∀(e o:Nat),e<D.M.length→o<7→aO aG D.M e o=aO aG D.M e o)∧bJ aB 81=bJ aB 81∧D.gp=D.gp∧bJ aB 79=bJ aB 79∧D.gs=D.gs) ∧
 p.ru=p.ru∧p.ve=p.ve) ∧
 (sJ N∧eW aC p.ve)∧gF N p=now∧D=dD N)
 (.done .normal
 (bY 92 [(1,.c (.ptr 0 0)),(3,.c (.ptr 1 0)),(4,.c (.p (.i .i64 (↑i:Int)))),(5,.c (.ptr 2 0)),(6,.c (.p (.l 1 now.length (aE aT now)))),(7,.c (.p (.z (Value.slice none 0 0)))),(8,.c (.p (.i .i64 0)))] [.cells 27 [.p (.l 7 M.length (aE aG M))],.cells 86 [.sl 3 7 0 D.M.length,.mp 4,.mp 5],.cells 31 [.p (.i .i64 p.kd),.p (.s p.ru),.p (.i .i64 p.ve),.p (.l 2 p.L.length (aE aN p.L)),.p (.i .i64 p.st),.p (.i .i64 p.se),.p (.s p.to)],.row 31 7 D.M.length fun e o=>bQ [5,0,4,8,9,10] (C.p (aE aG D.M e o)),.mapb (bJ aB 81) D.gp,.mapl (bJ aB 79) 3 1 D.gs none])):=by kernel_rfl
theorem tR6(D:Ld)(M:List Pg)(p:Pg)(now out:List Int)(i j k:Nat):dF fH (gQ (eZ (inr (bC .skip (gQ (dC aB fQ) 5) 2))) 6) (bY 92 [(1,.c (.ptr 0 0)),(3,.c (.ptr 1 0)),(4,iV (i:Nat)),(5,.c (.ptr 2 0)),(6,aU aT 1 now),(7,.c (.sl 3 1 0 k)),(8,iV (j:Nat))] [.cells 27 [.p (bO aG 7 M)],.cells 86 [.sl 4 7 0 D.M.length,.mp 5,.mp 6],.cells 31 [.p (.i .i64 p.kd),.p (.s p.ru),.p (.i .i64 p.ve),.p (bO aN 2 p.L),.p (.i .i64 p.st),.p (.i .i64 p.se),.p (.s p.to)],.row 3 1 k (aO aT out),.row 31 7 D.M.length (aO aG D.M),.mapb (bJ aB 81) D.gp,.mapl (bJ aB 79) 3 1 D.gs none]) (gP [] (fJ 92 [1,3,4,5,6,7,8]) (bK aB fQ))=bT (decide ((↑j:Int)<(↑now.length:Int)))
 (.rq (0≤(↑j:Int)∧(↑j:Int)<(↑now.length:Int))
 (bT (now.getD (↑j:Int).toNat default != p.st)
 (.rq (0≤(↑j:Int)∧(↑j:Int)<(↑now.length:Int))
 (.rq (k=k)
 (.rq (1≤1)
 (.rq
 ((k+1)*8≤140737488355328∧k+1≤140737488355328∧∀(e o:Nat),e<1→o<1→iQ (mI [C.p (PV.i aC (now.getD (↑j:Int).toNat default))] 1 1 (e+0) o)=true)
 (.rq (eW aC ((↑j:Int)+1))
 (.done .normal
 (bY 92 [(1,.c (.ptr 0 0)),(3,.c (.ptr 1 0)),(4,.c (.p (.i .i64 (↑i:Int)))),(5,.c (.ptr 2 0)),(6,.c (.p (.l 1 now.length (aE aT now)))),(7,.c (.sl 3 1 0 (k+1))),(8,.c (.p (.i .i64 ((↑j:Int)+1))))] [.cells 27 [.p (.l 7 M.length (aE aG M))],.cells 86 [.sl 4 7 0 D.M.length,.mp 5,.mp 6],.cells 31 [.p (.i .i64 p.kd),.p (.s p.ru),.p (.i .i64 p.ve),.p (.l 2 p.L.length (aE aN p.L)),.p (.i .i64 p.st),.p (.i .i64 p.se),.p (.s p.to)],.row 3 1 (k+1) fun e o=>bQ [0,1,2,8,4,5,6] (fI k (aO aT out) (fun e o=>bC C.top [C.p (PV.i aC (now.getD (↑j:Int).toNat default))] ((e+0)*1+o)) e o),.row 31 7 D.M.length fun e o=>bQ [0,1,2,8,4,5,6] (aO aG D.M e o),.mapb (bJ aB 81) D.gp,.mapl (bJ aB 79) 3 1 D.gs none])))))))
 (.rq (eW aC ((↑j:Int)+1))
 (.done .normal
 (bY 92 [(1,.c (.ptr 0 0)),(3,.c (.ptr 1 0)),(4,.c (.p (.i .i64 (↑i:Int)))),(5,.c (.ptr 2 0)),(6,.c (.p (.l 1 now.length (aE aT now)))),(7,.c (.sl 3 1 0 k)),(8,.c (.p (.i .i64 ((↑j:Int)+1))))] [.cells 27 [.p (.l 7 M.length (aE aG M))],.cells 86 [.sl 4 7 0 D.M.length,.mp 5,.mp 6],.cells 31 [.p (.i .i64 p.kd),.p (.s p.ru),.p (.i .i64 p.ve),.p (.l 2 p.L.length (aE aN p.L)),.p (.i .i64 p.st),.p (.i .i64 p.se),.p (.s p.to)],.row 3 1 k fun e o=>bQ [0,1,2,3,4,5,6] (aO aT out e o),.row 31 7 D.M.length fun e o=>bQ [0,1,2,3,4,5,6] (aO aG D.M e o),.mapb (bJ aB 81) D.gp,.mapl (bJ aB 79) 3 1 D.gs none])))))
 (.done (.exit 2)
 (bY 92 [(1,.c (.ptr 0 0)),(3,.c (.ptr 1 0)),(4,.c (.p (.i .i64 (↑i:Int)))),(5,.c (.ptr 2 0)),(6,.c (.p (.l 1 now.length (aE aT now)))),(7,.c (.sl 3 1 0 k)),(8,.c (.p (.i .i64 (↑j:Int))))] [.cells 27 [.p (.l 7 M.length (aE aG M))],.cells 86 [.sl 4 7 0 D.M.length,.mp 5,.mp 6],.cells 31 [.p (.i .i64 p.kd),.p (.s p.ru),.p (.i .i64 p.ve),.p (.l 2 p.L.length (aE aN p.L)),.p (.i .i64 p.st),.p (.i .i64 p.se),.p (.s p.to)],.row 3 1 k fun e o=>bQ [0,1,2,3,4,5,6] (aO aT out e o),.row 31 7 D.M.length fun e o=>bQ [0,1,2,3,4,5,6] (aO aG D.M e o),.mapb (bJ aB 81) D.gp,.mapl (bJ aB 79) 3 1 D.gs none])):=by kernel_rfl
theorem tR7(D:Ld)(M:List Pg)(p:Pg)(out:List Int)(i k:Nat):dF fH (dL 2 (bL 7 (eZ (inr (bC .skip (gQ (dC aB fQ) 5) 2))))) (bY 92 [(1,.c (.ptr 0 0)),(3,.c (.ptr 1 0)),(4,iV (i:Nat)),(5,.c (.ptr 2 0)),(7,.c (.sl 3 1 0 k))] [.cells 27 [.p (bO aG 7 M)],.cells 86 [.sl 4 7 0 D.M.length,.mp 5,.mp 6],.cells 31 [.p (.i .i64 p.kd),.p (.s p.ru),.p (.i .i64 p.ve),.p (bO aN 2 p.L),.p (.i .i64 p.st),.p (.i .i64 p.se),.p (.s p.to)],.row 3 1 k (aO aT out),.row 31 7 D.M.length (aO aG D.M),.mapb (bJ aB 81) D.gp,.mapl (bJ aB 79) 3 1 D.gs none]) (gP [] (fJ 92 [1,3,4,5,7]) (bK aB fQ))=bT (p.kd==2)
 (.rq (k=k)
 (.rq (1≤1)
 (.rq ((k+1)*8≤140737488355328∧k+1≤140737488355328∧∀(e o:Nat),e<1→o<1→iQ (mI [C.p (PV.i aC p.st)] 1 1 (e+0) o)=true)
 (.done .normal
 (bY 92 [(1,.c (.ptr 0 0)),(3,.c (.ptr 1 0)),(4,.c (.p (.i .i64 (↑i:Int)))),(5,.c (.ptr 2 0)),(7,.c (.sl 3 1 0 (k+1)))] [.cells 27 [.p (.l 7 M.length (aE aG M))],.cells 86 [.sl 4 7 0 D.M.length,.mp 5,.mp 6],.cells 31 [.p (.i .i64 p.kd),.p (.s p.ru),.p (.i .i64 p.ve),.p (.l 2 p.L.length (aE aN p.L)),.p (.i .i64 p.st),.p (.i .i64 p.se),.p (.s p.to)],.row 3 1 (k+1) fun e o=>bQ [0,1,2,8,4,5,6] (fI k (aO aT out) (fun e o=>bC C.top [C.p (PV.i aC p.st)] ((e+0)*1+o)) e o),.row 31 7 D.M.length fun e o=>bQ [0,1,2,8,4,5,6] (aO aG D.M e o),.mapb (bJ aB 81) D.gp,.mapl (bJ aB 79) 3 1 D.gs none])))))
 (.done .normal
 (bY 92 [(1,.c (.ptr 0 0)),(3,.c (.ptr 1 0)),(4,.c (.p (.i .i64 (↑i:Int)))),(5,.c (.ptr 2 0)),(7,.c (.sl 3 1 0 k))] [.cells 27 [.p (.l 7 M.length (aE aG M))],.cells 86 [.sl 4 7 0 D.M.length,.mp 5,.mp 6],.cells 31 [.p (.i .i64 p.kd),.p (.s p.ru),.p (.i .i64 p.ve),.p (.l 2 p.L.length (aE aN p.L)),.p (.i .i64 p.st),.p (.i .i64 p.se),.p (.s p.to)],.row 3 1 k fun e o=>bQ [0,1,2,3,4,5,6] (aO aT out e o),.row 31 7 D.M.length fun e o=>bQ [0,1,2,3,4,5,6] (aO aG D.M e o),.mapb (bJ aB 81) D.gp,.mapl (bJ aB 79) 3 1 D.gs none])):=by kernel_rfl
theorem tR8(D D':Ld)(M N N' out:List Pg)(p:Pg)(T:List Int)(i:Nat):dF (aLZ D D' N p T N' out) (dL 1 (bL 2 (bL 7 (eZ (inr (bC .skip (gQ (dC aB fQ) 5) 2)))))) (bY 92 [(1,.c (.ptr 5 0)),(3,.c (.ptr 0 0)),(4,iV (i:Nat)),(5,.c (.ptr 4 0)),(7,aU aT 1 T)] (mL D [.cells 31 [.p (.i .i64 p.kd),.p (.s p.ru),.p (.i .i64 p.ve),.p (bO aN 2 p.L),.p (.i .i64 p.st),.p (.i .i64 p.se),.p (.s p.to)],.cells 27 [.p (bO aG 7 M)]])) (gP [] (fJ 92 [1,3,4,5,9]) (bK aB fQ))=Tr.rq
 (((((kI aN 2 (bS cS p.L.length (aE aN p.L)) p.L.length (aE aN p.L)∧bS cS p.L.length (aE aN p.L)=p.L) ∧
 D.M.length=D.M.length ∧
 D.M.length=D.M.length ∧
 (∀(e o:Nat),e<D.M.length→o<7→aO aG D.M e o=aO aG D.M e o)∧bJ aB 81=bJ aB 81∧D.gp=D.gp∧bJ aB 79=bJ aB 79∧D.gs=D.gs) ∧
 kI aT 1 T T.length (aE aT T)) ∧
 p.ru=p.ru∧p.ve=p.ve∧p.se=p.se) ∧
 (sJ N∧eW aC p.ve∧T.length≤50000)∧wO N p T=(N',out)∧D=dD N∧D'=dD N')
 (.done .normal
 (bY 92 [(1,.c (.ptr 0 0)),(3,.c (.ptr 1 0)),(4,.c (.p (.i .i64 (↑i:Int)))),(5,.c (.ptr 2 0)),(9,.c (.p (.l 7 out.length (aE aG out))))] [.cells 27 [.p (.l 7 M.length (aE aG M))],.cells 86 [.sl 3 7 0 D'.M.length,.mp 4,.mp 5],.cells 31 [.p (.i .i64 p.kd),.p (.s p.ru),.p (.i .i64 p.ve),.p (.l 2 p.L.length (aE aN p.L)),.p (.i .i64 p.st),.p (.i .i64 p.se),.p (.s p.to)],.row 31 7 D'.M.length fun e o=>bQ [5,0,4,8,9,10] (C.p (aE aG D'.M e o)),.mapb (bJ aB 81) D'.gp,.mapl (bJ aB 79) 3 1 D'.gs none])):=by kernel_rfl
theorem tR9(D:Ld)(M out:List Pg)(p:Pg)(i:Nat):dF fH (bL 1 (bL 2 (bL 7 (eZ (inr (bC .skip (gQ (dC aB fQ) 5) 2)))))) (bY 92 [(1,.c (.ptr 5 0)),(3,.c (.ptr 0 0)),(4,iV (i:Nat)),(5,.c (.ptr 4 0)),(9,aU aG 7 out)] (mL D [.cells 31 [.p (.i .i64 p.kd),.p (.s p.ru),.p (.i .i64 p.ve),.p (bO aN 2 p.L),.p (.i .i64 p.st),.p (.i .i64 p.se),.p (.s p.to)],.cells 27 [.p (bO aG 7 M)]])) (gP [] (fJ 92 [1,3,4]) (bK aB fQ))=bT ((↑out.length:Int) != 1) (.done .ret (St.mk [V.c (C.p (PV.z (Value.pointer none)))] []))
 (.rq (dR 0≤dR 0∧0<(↑out.length:Int))
 (bT ((out.getD 0 default).kd != p.kd) (.done .ret (St.mk [V.c (C.p (PV.z (Value.pointer none)))] []))
 (.done .normal
 (bY 92 [(1,.c (.ptr 0 0)),(3,.c (.ptr 1 0)),(4,.c (.p (.i .i64 (↑i:Int))))] [.cells 27 [.p (.l 7 M.length (aE aG M))],.cells 86 [.sl 2 7 0 D.M.length,.mp 3,.mp 4],.row 31 7 D.M.length fun e o=>bQ [5,0,1,2,3] (aO aG D.M e o),.mapb (bJ aB 81) D.gp,.mapl (bJ aB 79) 3 1 D.gs none])))):=by kernel_rfl
theorem aS8(D:Ld)(M:List Pg)(i:Nat):dF fH (bL 3 (gQ (dC aB fQ) 5)) (bY 92 [(1,.c (.ptr 4 0)),(3,.c (.ptr 0 0)),(4,iV (i:Nat))] (mL D [.cells 27 [.p (bO aG 7 M)]])) (gP [] (fJ 92 [1,3,4]) (bK aB fQ))=Tr.rq (eW aC ((↑i:Int)+1))
 (.done .normal
 (bY 92 [(1,.c (.ptr 0 0)),(3,.c (.ptr 1 0)),(4,.c (.p (.i .i64 ((↑i:Int)+1))))] [.cells 27 [.p (.l 7 M.length (aE aG M))],.cells 86 [.sl 2 7 0 D.M.length,.mp 3,.mp 4],.row 31 7 D.M.length fun e o=>bQ [4,0,1,2,3] (aO aG D.M e o),.mapb (bJ aB 81) D.gp,.mapl (bJ aB 79) 3 1 D.gs none])):=by kernel_rfl
theorem aS7(D:Ld):dF fH (bL 6 (dC aB fQ)) (bY 92 [(3,.c (.ptr 0 0))] (mL D [])) (gP [] [] (bK aB fQ))=Tr.done X.ret
 (St.mk [V.c (C.ptr 0 0)] [AO.cells 86 [C.sl 1 7 0 D.M.length,C.mp 2,C.mp 3],AO.row 31 7 D.M.length fun e o=>bQ [0,1,2,3] (aO aG D.M e o),AO.mapb (bJ aB 81) D.gp,AO.mapl (bJ aB 79) 3 1 D.gs none]):=by kernel_rfl
def zO(N:List Pg)(p:Pg):Prop:=KL p∧((p.kd=0∧uE N p = -1)∨(p.kd=1∧p.to=⟨#[]⟩∧(qU N p.ru p.ve p.L p.st).getD false=true)∨(p.kd=2∧p.to=⟨#[]⟩∧(qU N p.ru p.ve p.L p.st).getD false=false))
theorem zC{M:List Pg}{p:Pg}{i:Nat}(h:i<M.length):(M++[p]).getD i default=M.getD i default∧(M++[p]).take i=M.take i:=by
 refine⟨?_,?_⟩
 ·rw[aD,aD,List.getElem?_append_left h]
 ·rw[List.take_append_of_le_length (by omega)]
theorem zD{M:List Pg}{p:Pg}:(M++[p]).getD M.length default=p∧(M++[p]).take M.length=M:=by simp
theorem tH{M:List Pg}{p:Pg}(ih:∀i,i<M.length→zO (M.take i) (M.getD i default))(hp:zO M p):∀i,i<(M++[p]).length→zO ((M++[p]).take i) ((M++[p]).getD i default):=fun i hi=>by
 rw[aL]at hi
 rcases Nat.lt_or_ge i M.length with h|h
 ·rw[(zC h).1,(zC h).2];exact ih i h
 ·obtain rfl:i=M.length:=by simp at hi;omega
  rw[zD.1,zD.2];exact hp
theorem zS.step{M:List Pg}(h:zS M):∀i,i<M.length→zO (M.take i) (M.getD i default):=by
 induction h with
 |nil=>intro i hi;exact absurd hi (iH _)
 |fire _ h1 h2 h3 ih=>exact tH ih ⟨h1,.inl ⟨h2,h3⟩⟩
 |undo _ h1 h2 h3 h4 ih=>exact tH ih ⟨h1,.inr (.inl ⟨h3,h2,h4⟩)⟩
 |late _ h1 h2 h3 h4 ih=>exact tH ih ⟨h1,.inr (.inr ⟨h3,h2,h4⟩)⟩
theorem XX{N:List Pg}{p:Pg}(h1:hP p=true)(h2:p.kd=0)(h3:uE N p = -1):sI N p=(N++[p],0):=by
 unfold sI;rw[if_neg (fun h=>h.elim (fun h=>by rw[h1]at h;cases h) (fun h=>h h2)),h3,if_neg (by omega),if_neg (by omega)]
def SF(now:List Int)(p:Pg):List Int:=now.filter (fun t=>t != p.st)++(if p.kd=2 then [p.st] else [])
theorem aK4{N:List Pg}(hN:∀q∈N,KL q){p:Pg}(hp:KL p)(hto:p.to=⟨#[]⟩)(hk:(p.kd=1∧(qU N p.ru p.ve p.L p.st).getD false=true)∨(p.kd=2∧(qU N p.ru p.ve p.L p.st).getD false=false)):wO N p (SF (gF N p) p)=(N++[p],[p]):=by
 obtain⟨k1,k2,k3,k4,k5,k6⟩:=iP.1 hp.1
 have hkd:∀q∈N,q.kd=0∨q.kd=1∨q.kd=2:=fun q hq=>(hN q hq).2.2
 have hq:hP ⟨0,p.ru,p.ve,p.L,0,p.se,⟨#[]⟩⟩=true:=iP.2 ⟨k1,k2,k3,rfl,k5,bX _⟩
 have hW:=oO hkd p
 have hWt:∀t∈gF N p,gU t=true:=fun t ht=>by
  rw[hW]at ht;cases hpd:qU N p.ru p.ve p.L t with
  |none=>rw[hpd]at ht;cases ht
  |some b=>
   unfold qU at hpd;rw[Option.map_eq_some_iff]at hpd;obtain⟨q,hq,_⟩:=hpd
   have hs:=List.find?_some hq
   have e:q.st=t:=(oJ.1 hs).2.2.2
   have hm:q∈N:=List.mem_reverse.1 (List.mem_of_find?_eq_some hq)
   have:=(iP.1 (hN q hm).1).2.2.2.1
   rw[e]at this;exact this
 generalize hWe:gF N p=W at hW hWt ⊢
 have hT:∀t,t∈SF W p↔(t∈W∧t≠p.st)∨(t=p.st∧p.kd=2):=fun t=>by
  unfold SF;rw[dK,List.mem_filter,bne_iff_ne]
  by_cases h:p.kd=2
  ·rw[if_pos h,eO];simp[h]
  ·rw[if_neg h];simp[h]
 have hTt:(SF W p).all gU=true:=List.all_eq_true.2 fun t ht=>by
  rcases (hT t).1 ht with h|h
  ·exact hWt t h.1
  ·rw[h.1];exact k4
 have hin:p.st∈W↔p.kd=1:=by
  rw[hW]
  rcases hk with⟨h1,h2⟩|⟨h1,h2⟩
  ·simp[h1,h2]
  ·simp[h1,h2]
 have hf:(nA (W++SF W p)).filter (fun t=>decide (t∈W) != decide (t∈SF W p))=[p.st]:=by
  refine qO ((qT _).sublist List.filter_sublist) (List.pairwise_singleton _ _) fun t=>?_
  have hm:t∈nA (W++SF W p)↔t∈W++SF W p:=pB _ t
  rw[List.mem_filter,hm,dK,eO,bne_iff_ne,ne_eq,decide_eq_decide,hT]
  by_cases e:t=p.st
  ·subst e
   rw[hin]
   rcases hk with⟨h1,_⟩|⟨h1,_⟩
   ·simp[h1]
   ·simp[h1]
  ·simp[e]
 have hO:zR W (SF W p) p (nA (W++SF W p))=[p]:=by
  unfold zR;rw[hf,List.map_singleton];congr 1;obtain⟨kd,ru,ve,L,st,se,to⟩:=p
  have hto:to=⟨#[]⟩:=hto
  subst hto;unfold pU
  have hd:decide (st∈SF W ⟨kd,ru,ve,L,st,se,⟨#[]⟩⟩)=decide (kd=2):=by
   rw[decide_eq_decide,hT];simp
  dsimp only;rw[hd]
  rcases hk with⟨h1,_⟩|⟨h1,_⟩
  ·have h1:kd=1:=h1
   subst h1;rfl
  ·have h1:kd=2:=h1
   subst h1;rfl
 unfold wO;rw[hq,hTt,hWe,hO];rfl
theorem aCJ(now:List Int)(p:Pg)(j:Nat)(hj:j<now.length):(now.take (j+1)).filter (fun t=>t != p.st)=(now.take j).filter (fun t=>t != p.st)++(match now.getD j default != p.st with
  |true=>[now.getD j default]
  |false=>[]):=by
 rw[uA hj,List.filter_append,List.filter_cons];cases now.getD j default != p.st<;>rfl
noncomputable def aE6(M:List Pg)(D:Ld):kD
 |[x],h=>match leL x M with
  |some p=>some (p∧(zS M∧M.length≤50000)∧D=dD M,.c (.ptr (fG h) 0),iT [] [] [] h (mL D []))
  |none=>none
 |_,_=>none
section
variable {G:Nat→Option Obj}
theorem QE:bG aB G aLB:=eM (by simp;exact aDH)
theorem QP(D D':Ld)(M:List Pg)(p:Pg)(M':List Pg)(e:Int):bG aB G (aLL D D' M p M' e):=eM (by simp;exact aIL D D' M p M' e)
theorem PJ(D:Ld)(M:List Pg)(p:Pg)(out:List Int):bG aB G (aKV D M p out):=eM (by simp;exact aDB D M p out)
theorem RE(D D':Ld)(M:List Pg)(p:Pg)(T:List Int)(M' out:List Pg):bG aB G (aLZ D D' M p T M' out):=eM (by simp;exact aDO D D' M p T M' out)
set_option maxRecDepth 100000 in
set_option maxHeartbeats 1000000 in
theorem aCM(M:List Pg)(hL:zS M)(hl:M.length≤50000)(h:List AO)(Q:X→St→Prop):eP aB G (Zm [] (bK aB fQ) fun s=>cW G s ⟨[]++[.c (.ptr 0 0)],mL (dD M) []⟩) (dC aB fQ) (jR fQ [] [] [] [.a [.p (bO aG 7 M)]] h) Q:=by
 have hok:=hL.ok
 have hst:=hL.step
 refine eP.evG QE 5 (tR1 M h) ?_;simp only[bA,aP,cI];refine⟨trivial,⟨?_⟩⟩
 refine eP.loop' (l:=bL 5 (dC aB fQ)) (b:=inr (inr (bC .skip (dC aB fQ) 5))) (r:=bL 6 (dC aB fQ)) (id:=0) (by kernel_rfl) (σ:=Nat)
   (fun i=>(fun D=>bY 92 [(1,.c (.ptr 4 0)),(3,.c (.ptr 0 0)),(4,iV (i:Nat))] (mL D [.cells 27 [.p (bO aG 7 M)]])) (dD (M.take i))) (fun i=>i≤M.length) (fun i=>M.length-i) 0 (bX _) ((gY [1,2,3,4,0] (fJ 92 [1,3,4]) (by kernel_rfl) _).trans (aI (by kernel_rfl))) ?_
 intro i hi Q1 q1n q1e _
 have hN:sJ (M.take i):=⟨fun q hq=>hok q (List.mem_of_mem_take hq),by rw[eR];omega⟩
 have hDM:=mF (M.take i)
 have hsn:i<M.length→dD (M.take (i+1))=gM (dD (M.take i)) (M.getD i default)∧M.take (i+1)=M.take i++[M.getD i default]:=fun hlt=>by
  have e:M.take (i+1)=M.take i++[M.getD i default]:=by
   rw[List.take_add_one,aD,aK hlt];rfl
  exact⟨by rw[e,AA],e⟩
 refine eP.evG aY 2 (tR2 (dD (M.take i)) M i) ?_;simp only[cD,aP,cI,mU,decide_eq_true_eq,decide_eq_false_iff_not];refine⟨fun h1=>⟨?_⟩,fun h1=>⟨q1e _ ?_⟩⟩
 ·have hlt:i<M.length:=by omega
  obtain⟨e1,e2⟩:=hsn hlt;obtain⟨hp,hc⟩:=hst i hlt
  have after:eP aB G (Zm [] (bK aB fQ) fun s=>cW G s ⟨[]++[.c (.ptr 0 0)],mL (dD M) []⟩) (bL 3 (gQ (dC aB fQ) 5)) ((fun D=>bY 92 [(1,.c (.ptr 4 0)),(3,.c (.ptr 0 0)),(4,iV (i:Nat))] (mL D [.cells 27 [.p (bO aG 7 M)]])) (dD (M.take (i+1)))) Q1:=by
   refine eP.evH (keep:=fJ 92 [1,3,4]) aY (aS8 (dD (M.take (i+1))) M i) ?_;simp only[bA,aP,cI,eW]
   exact⟨by omega,⟨q1n (i+1) _ (by omega) (by omega) ((gY [1,2,3,4,0] (fJ 92 [1,3,4]) (by kernel_rfl) _).trans (aI (by kernel_rfl)))⟩⟩
  refine eP.blk' (l:=bL 2 (gQ (dC aB fQ) 5)) (id:=1) (a:=inr (bC .skip (gQ (dC aB fQ) 5) 2)) (r:=bL 3 (gQ (dC aB fQ) 5)) (by kernel_rfl) ?_
  intro Q2 q2n q2e _
  refine eP.pre ((gY [1,2,3,4,0] (fJ 92 [1,3,4]) (by kernel_rfl) _).trans (aI (st':=(fun D=>bY 92 [(1,.c (.ptr 4 0)),(3,.c (.ptr 0 0)),(4,iV (i:Nat))] (mL D [.cells 27 [.p (bO aG 7 M)]])) (dD (M.take i))) (by kernel_rfl))) (eP.evG aY 2 (tR3 (dD (M.take i)) M i) ?_)
  simp only[bA,aP,cI,show (↑i:Int).toNat=i from rfl];refine⟨by omega,⟨?_⟩⟩
  generalize M.getD i default=p at e1 e2 hp hc ⊢
  generalize hNN:M.take i=N at hN hDM e1 e2 hc ⊢
  refine eP.cond (l:=bL 2 (eZ (inr (bC .skip (gQ (dC aB fQ) 5) 2)))) (k:=27) (a:=aJX (bC .skip (eZ (inr (bC .skip (gQ (dC aB fQ) 5) 2))) 2)) (b:=aON (bC .skip (eZ (inr (bC .skip (gQ (dC aB fQ) 5) 2))) 2)) (r:=bL 3 (eZ (inr (bC .skip (gQ (dC aB fQ) 5) 2)))) (x:=p.kd==0) (by kernel_rfl) (by kernel_rfl) ?_ ?_
  ·intro c Q' qn qe
   have c:p.kd=0:=by simpa using c
   have hz:uE N p = -1:=by
    rcases hc with h|h|h
    ·exact h.2
    ·omega
    ·omega
   refine eP.pre ((gY [1,3,4,5,2,0] (fJ 92 [1,3,4,5]) (by kernel_rfl) _).trans (aI (st':=(fun D=>bY 92 [(1,.c (.ptr 5 0)),(3,.c (.ptr 0 0)),(4,iV (i:Nat)),(5,.c (.ptr 4 0))] (mL D [.cells 31 [.p (.i .i64 p.kd),.p (.s p.ru),.p (.i .i64 p.ve),.p (bO aN 2 p.L),.p (.i .i64 p.st),.p (.i .i64 p.se),.p (.s p.to)],.cells 27 [.p (bO aG 7 M)]])) (dD N)) (by kernel_rfl))) (eP.evH (keep:=fJ 92 [1,3,4]) (QP (dD N) (dD (M.take (i+1))) N p (M.take (i+1)) 0) (tR4 (dD N) (dD (M.take (i+1))) M N (M.take (i+1)) p i 0) ?_)
   simp only[cD,bA,aP,cI,kA,mU,gN]
   refine⟨⟨⟨⟨dP _ _ _,trivial⟩,trivial,trivial,fun _ _ _ _=>trivial,trivial,trivial,trivial,trivial⟩,⟨hN,hp.2.1⟩,by rw[e2];exact XX hp.1 c hz,trivial,trivial⟩,fun h2=>absurd h2 (by decide),fun _=>⟨qe _ _ (q2e _ (eP.pre ((gY [1,2,3,4,0] (fJ 92 [1,3,4]) (by kernel_rfl) _).trans (aI (by kernel_rfl))) after))⟩⟩
  ·intro c Q' qn qe
   have c:p.kd≠0:=by simpa using c
   have hk:(p.kd=1∧(qU N p.ru p.ve p.L p.st).getD false=true)∨(p.kd=2∧(qU N p.ru p.ve p.L p.st).getD false=false):=by
    rcases hc with h|h|h
    ·exact absurd h.1 c
    ·exact .inl ⟨h.1,h.2.2⟩
    ·exact .inr ⟨h.1,h.2.2⟩
   have hto:p.to=⟨#[]⟩:=by
    rcases hc with h|h|h
    ·exact absurd h.1 c
    ·exact h.2.1
    ·exact h.2.1
   have hone:=aK4 hN.1 hp hto hk
   refine eP.pre (gB (fJ 92 [1,3,4,5]) _) (eP.evH (keep:=fJ 92 [1,3,4,5]) aY (tree:=.done .normal ((fun D=>bY 92 [(1,.c (.ptr 0 0)),(3,.c (.ptr 1 0)),(4,iV (i:Nat)),(5,.c (.ptr 2 0))] [.cells 27 [.p (bO aG 7 M)],.cells 86 [.sl 3 7 0 D.M.length,.mp 4,.mp 5],.cells 31 [.p (.i .i64 p.kd),.p (.s p.ru),.p (.i .i64 p.ve),.p (bO aN 2 p.L),.p (.i .i64 p.st),.p (.i .i64 p.se),.p (.s p.to)],.row 31 7 D.M.length (aO aG D.M),.mapb (bJ aB 81) D.gp,.mapl (bJ aB 79) 3 1 D.gs none]) (dD N))) (by kernel_rfl) ?_)
   refine qn _ ?_
   refine eP.pre ((gY [1,3,4,5,2,0] (fJ 92 [1,3,4,5]) (by kernel_rfl) _).trans (aI (st':=(fun D=>bY 92 [(1,.c (.ptr 5 0)),(3,.c (.ptr 0 0)),(4,iV (i:Nat)),(5,.c (.ptr 4 0))] (mL D [.cells 31 [.p (.i .i64 p.kd),.p (.s p.ru),.p (.i .i64 p.ve),.p (bO aN 2 p.L),.p (.i .i64 p.st),.p (.i .i64 p.se),.p (.s p.to)],.cells 27 [.p (bO aG 7 M)]])) (dD N)) (by kernel_rfl))) (eP.evG (PJ (dD N) N p (gF N p)) 3 (tR5 (dD N) M N p (gF N p) i) ?_)
   simp only[bA,aP,cI,gN];refine⟨⟨⟨⟨⟨dP _ _ _,trivial⟩,trivial,trivial,fun _ _ _ _=>trivial,trivial,trivial,trivial,trivial⟩,trivial,trivial⟩,⟨hN,hp.2.1⟩,trivial,trivial⟩,⟨?_⟩⟩
   have hnl:=xG N p
   have hNl:N.length≤49999:=by rw[←hNN,eR];omega
   have hrl:(SF (gF N p) p).length≤(gF N p).length+1:=by
    unfold SF;rw[aL]
    have:=List.length_filter_le (fun t=>t != p.st) (gF N p)
    split<;>simp<;>omega
   have hrt:SF (gF N p) p=(gF N p).filter (fun t=>t != p.st)++(if p.kd=2 then [p.st] else []):=rfl
   generalize gF N p=now at hone hnl hrl hrt ⊢
   refine eP.loop' (l:=bL 3 (bL 3 (eZ (inr (bC .skip (gQ (dC aB fQ) 5) 2))))) (b:=inr (inr (bC .skip (eZ (inr (bC .skip (gQ (dC aB fQ) 5) 2))) 6))) (r:=bL 7 (eZ (inr (bC .skip (gQ (dC aB fQ) 5) 2)))) (id:=2) (by kernel_rfl) (σ:=Nat)
     (fun j=>(fun D out k=>bY 92 [(1,.c (.ptr 0 0)),(3,.c (.ptr 1 0)),(4,iV (i:Nat)),(5,.c (.ptr 2 0)),(6,aU aT 1 now),(7,.c (.sl 3 1 0 k)),(8,iV (j:Nat))] [.cells 27 [.p (bO aG 7 M)],.cells 86 [.sl 4 7 0 D.M.length,.mp 5,.mp 6],.cells 31 [.p (.i .i64 p.kd),.p (.s p.ru),.p (.i .i64 p.ve),.p (bO aN 2 p.L),.p (.i .i64 p.st),.p (.i .i64 p.se),.p (.s p.to)],.row 3 1 k (aO aT out),.row 31 7 D.M.length (aO aG D.M),.mapb (bJ aB 81) D.gp,.mapl (bJ aB 79) 3 1 D.gs none]) (dD N) ((now.take j).filter (fun t=>t != p.st)) ((now.take j).filter (fun t=>t != p.st)).length) (fun j=>j≤now.length) (fun j=>now.length-j) 0 (bX _) ((mM 3 1 (aO aT []) 7 (by kernel_rfl)).trans ((gB (fJ 92 [1,3,4,5,6,7,8]) _).trans (aI (by kernel_rfl)))) ?_
   intro j hj Q3 q3n q3e _
   have hol:((now.take j).filter (fun t=>t != p.st)).length≤j:=by
    have:=List.length_filter_le (fun t=>t != p.st) (now.take j)
    rw[eR]at this;omega
   have hsn3:=aCJ now p j
   generalize hO:(now.take j).filter (fun t=>t != p.st)=out at hol hsn3 ⊢
   refine eP.evH (keep:=fJ 92 [1,3,4,5,6,7,8]) aY (tR6 (dD N) M p now out i j out.length) ?_;simp only[cD,bA,aP,cI,mU,decide_eq_true_eq,decide_eq_false_iff_not,eW,show (↑j:Int).toNat=j from rfl];refine⟨fun h2=>?_,fun h2=>⟨q3e _ ?_⟩⟩
   ·have hlj:j<now.length:=by omega
    have hsn3:=hsn3 hlj
    refine⟨by omega,fun h3=>⟨by omega,trivial,aW _,⟨by omega,by omega,fun e o he ho=>?_⟩,by omega,⟨q3n (j+1) _ (by omega) (by omega) ?_⟩⟩,fun h3=>⟨by omega,⟨q3n (j+1) _ (by omega) (by omega) ?_⟩⟩⟩
    ·obtain rfl:e=0:=by omega
     obtain rfl:o=0:=by omega
     rfl
    ·rw[h3]at hsn3
     have hsn3:_=out++[now.getD j default]:=hsn3
     have hlx:out.length+1=((now.take (j+1)).filter (fun t=>t != p.st)).length:=by rw[hsn3];simp
     rw[hlx];refine jF ⟨rfl,rfl,rfl,⟨rfl,rfl,rfl,fun e o he ho=>?_⟩,⟨rfl,rfl,rfl,fun e o he ho=>rfl⟩,rfl,rfl,trivial⟩
     show _=aO aT ((now.take (j+1)).filter (fun t=>t != p.st)) e o
     rw[hsn3];refine pP (ρ:=[0,1,2,8,4,5,6]) rfl (zA _) ?_ ho
     have he:e<((now.take (j+1)).filter (fun t=>t != p.st)).length:=he
     rw[hsn3]at he;simpa using he
    ·rw[h3]at hsn3
     have hsn3:_=out++[]:=hsn3
     rw[eX]at hsn3;rw[hsn3]
     exact aI (by kernel_rfl)
   obtain rfl:j=now.length:=by omega
   rw[fF]at hO;rw[hO]at hrt
   refine eP.pre ((gB (fJ 92 [1,3,4,5,7]) _).trans (aI (st':=(fun D k=>bY 92 [(1,.c (.ptr 0 0)),(3,.c (.ptr 1 0)),(4,iV (i:Nat)),(5,.c (.ptr 2 0)),(7,.c (.sl 3 1 0 k))] [.cells 27 [.p (bO aG 7 M)],.cells 86 [.sl 4 7 0 D.M.length,.mp 5,.mp 6],.cells 31 [.p (.i .i64 p.kd),.p (.s p.ru),.p (.i .i64 p.ve),.p (bO aN 2 p.L),.p (.i .i64 p.st),.p (.i .i64 p.se),.p (.s p.to)],.row 3 1 k (aO aT out),.row 31 7 D.M.length (aO aG D.M),.mapb (bJ aB 81) D.gp,.mapl (bJ aB 79) 3 1 D.gs none]) (dD N) out.length) (by kernel_rfl))) ?_
   show eP _ _ _ (bL 7 (eZ (inr (bC .skip (gQ (dC aB fQ) 5) 2)))) _ _
   refine eP.evG aY 2 (tR7 (dD N) M p out i out.length) ?_;simp only[cD,bA,aP,cI,beq_iff_eq,beq_eq_false_iff_ne]
   have fin:∀T,SF now p=T→eP aB G (Zm [] (bK aB fQ) fun s=>cW G s ⟨[]++[.c (.ptr 0 0)],mL (dD M) []⟩) (bL 2 (bL 7 (eZ (inr (bC .skip (gQ (dC aB fQ) 5) 2))))) ((fun D out k=>bY 92 [(1,.c (.ptr 0 0)),(3,.c (.ptr 1 0)),(4,iV (i:Nat)),(5,.c (.ptr 2 0)),(7,.c (.sl 3 1 0 k))] [.cells 27 [.p (bO aG 7 M)],.cells 86 [.sl 4 7 0 D.M.length,.mp 5,.mp 6],.cells 31 [.p (.i .i64 p.kd),.p (.s p.ru),.p (.i .i64 p.ve),.p (bO aN 2 p.L),.p (.i .i64 p.st),.p (.i .i64 p.se),.p (.s p.to)],.row 3 1 k (aO aT out),.row 31 7 D.M.length (aO aG D.M),.mapb (bJ aB 81) D.gp,.mapl (bJ aB 79) 3 1 D.gs none]) (dD N) T T.length) Q2:=fun T hT=>by
    rw[hT]at hone hrl
    refine eP.pre ((pD (j:=7) (id:=3) (ty:=3) (sz:=1) (n:=T.length) (off:=0) (len:=T.length) (f:=aO aT T) (by kernel_rfl) (by kernel_rfl) (by omega) (fun _ _ _ _=>rfl)).trans ((gY [1,4,5,6,2,0] (fJ 92 [1,3,4,5,7]) (by kernel_rfl) _).trans (aI (st':=(fun D=>bY 92 [(1,.c (.ptr 5 0)),(3,.c (.ptr 0 0)),(4,iV (i:Nat)),(5,.c (.ptr 4 0)),(7,aU aT 1 T)] (mL D [.cells 31 [.p (.i .i64 p.kd),.p (.s p.ru),.p (.i .i64 p.ve),.p (bO aN 2 p.L),.p (.i .i64 p.st),.p (.i .i64 p.se),.p (.s p.to)],.cells 27 [.p (bO aG 7 M)]])) (dD N)) (by kernel_rfl)))) ?_
    refine eP.evG (RE (dD N) (dD (M.take (i+1))) N p T (M.take (i+1)) [p]) 1 (tR8 (dD N) (dD (M.take (i+1))) M N (M.take (i+1)) [p] p T i) ?_;simp only[bA,aP,cI,gN];refine⟨⟨⟨⟨⟨⟨dP _ _ _,trivial⟩,trivial,trivial,fun _ _ _ _=>trivial,trivial,trivial,trivial,trivial⟩,dP _ _ _⟩,trivial,trivial,trivial⟩,⟨hN,hp.2.1,by omega⟩,by rw[e2];exact hone,trivial,trivial⟩,⟨?_⟩⟩
    refine eP.pre ((gY [1,3,4,5,2,0] (fJ 92 [1,3,4,5,9]) (by kernel_rfl) _).trans (aI (st':=(fun D out=>bY 92 [(1,.c (.ptr 5 0)),(3,.c (.ptr 0 0)),(4,iV (i:Nat)),(5,.c (.ptr 4 0)),(9,aU aG 7 out)] (mL D [.cells 31 [.p (.i .i64 p.kd),.p (.s p.ru),.p (.i .i64 p.ve),.p (bO aN 2 p.L),.p (.i .i64 p.st),.p (.i .i64 p.se),.p (.s p.to)],.cells 27 [.p (bO aG 7 M)]])) (dD (M.take (i+1))) [p]) (by kernel_rfl))) (eP.evH (keep:=fJ 92 [1,3,4]) aY (tR9 (dD (M.take (i+1))) M [p] p i) ?_)
    simp only[cD,bA,aP,cI,kA,bne_iff_ne,bne_eq_false_iff_eq,ne_eq]
    refine⟨fun h=>absurd rfl h,fun _=>⟨⟨by decide,by simp⟩,fun h=>absurd rfl h,fun _=>⟨q2n _ (eP.pre ((gY [1,2,3,4,0] (fJ 92 [1,3,4]) (by kernel_rfl) _).trans (aI (by kernel_rfl))) after)⟩⟩⟩
   refine⟨fun h3=>⟨trivial,aW _,⟨by omega,by omega,fun e o he ho=>?_⟩,⟨eP.pre ?_ (fin (out++[p.st]) (by rw[hrt,if_pos h3]))⟩⟩,fun h3=>⟨eP.pre (aI (by kernel_rfl)) (fin out (by rw[hrt,if_neg h3,eX]))⟩⟩
   ·obtain rfl:e=0:=by omega
    obtain rfl:o=0:=by omega
    rfl
   ·have hlx:out.length+1=(out++[p.st]).length:=by simp
    rw[hlx];refine jF ⟨rfl,rfl,rfl,⟨rfl,rfl,rfl,fun e o he ho=>?_⟩,⟨rfl,rfl,rfl,fun e o he ho=>rfl⟩,rfl,rfl,trivial⟩;exact pP (ρ:=[0,1,2,8,4,5,6]) rfl (zA _) (by simpa using he) ho
 ·obtain rfl:i=M.length:=by omega
  rw[fF]
  refine eP.pre ((gB (fJ 92 [3]) _).trans (aI (by kernel_rfl))) (eP.evH (keep:=[]) aY (aS7 (dD M)) ?_)
  simp only[aP,kA]
  exact⟨aI (by kernel_rfl)⟩
set_option maxRecDepth 100000 in
theorem aNF(M:List Pg)(D:Ld):gG aB G 11 (aE6 M D):=by
 intro args h p v h' hm hp;unfold aE6 at hm
 split at hm;rotate_left;· cases hm
 split at hm;rotate_left;· cases hm
 rename_i x _ q hx;obtain⟨rfl,rfl,rfl⟩:=gO hm;obtain⟨hq,⟨hL,hl⟩,rfl⟩:=hp;refine jW.args (args':=[CN M]) ?_ (.cons (xP hx hq) .nil)
 refine fun β R w us ha hh=>(tR (ρ:=[]) (ids:=[]) (ps:=[]) (pns:=[]) (js:=[]) (sl:=[]) (vs:=[.c (.ptr 0 0)]) (hE:=fun bs=>mL (dD M) []) Try.func11 (by kernel_rfl) rfl rfl (by simp) (by simp) rfl rfl rfl (fun i pn h=>by simp at h) (fun bs hb i pn j b h1 h2 h3=>by simp at h1) (fun bs hb=>?_) β R w us ha hh).mono ?_
 ·obtain rfl:bs=[]:=by simpa using hb
  exact aCM M hL hl h _
 ·rintro e w' ⟨u,β',R',x,h',rfl,⟨bs,hb,hx,hh'⟩,hr⟩
  refine⟨u,β',R',x,h',rfl,⟨hx.trans ?_,hh'⟩,hr⟩;rw[eL];rfl
end
noncomputable def aL1(M:List Pg)(D:Ld):Ext:=mH [(12,uC (aEE M)),(11,aE6 M D)]
theorem aNI(A:List Int):sJ (ofZ A):=⟨(XF A).ok,by have:=WR A;omega⟩
section
variable {G:Nat→Option Obj}
theorem PQ(M:List Pg)(D:Ld):bG aB G (aL1 M D):=eM (by simp;exact⟨(aNL M).lift,aNF M D⟩)
end
def BY(D:Ld)(j:Nat)(h:List AO):Option (Prop×Nat×Nat×Nat):=match bC .gone h j with
 |.cells 86 [.sl r 7 0 n,.mp a,.mp b]=>match bC .gone h r,bC .gone h a,bC .gone h b with
  |.row 31 7 n' f,.mapb ok gp,.mapl ok2 3 1 gs none=>some (n=D.M.length∧n'=D.M.length∧(∀e o,e<D.M.length→o<7→f e o=aO aG D.M e o)∧ok=bJ aB 81∧gp=D.gp∧ok2=bJ aB 79∧gs=D.gs,r,a,b)
  |_,_,_=>none
 |_=>none
theorem rZ{D:Ld}{j:Nat}{h:List AO}{r a b:Nat}{q:Prop}(he:BY D j h=some (q,r,a,b))(hq:q):∃f,bC .gone h j=.cells 86 [.sl r 7 0 D.M.length,.mp a,.mp b]∧bC .gone h r=.row 31 7 D.M.length f∧bC .gone h a=.mapb (bJ aB 81) D.gp∧bC .gone h b=.mapl (bJ aB 79) 3 1 D.gs none∧∀e o,e<D.M.length→o<7→f e o=aO aG D.M e o:=by
 unfold BY at he
 split at he;rotate_left;· cases he
 rename_i r0 n a0 b0 hj
 split at he;rotate_left;· cases he
 rename_i n' f ok gp ok2 gs h1 h2 h3;injection he with he;injection he with e1 he;injection he with e2 he;injection he with e3 e4;subst e1;subst e2;subst e3;subst e4;obtain⟨rfl,rfl,hf,rfl,rfl,rfl,rfl⟩:=hq;exact⟨f,hj,h1,h2,h3,hf⟩
theorem pX(j:Nat):cA j j=true:=Nat.beq_refl j
theorem kQ{j r:Nat}(h:j≠r):cA j r=false:=Bool.eq_false_iff.2 fun e=>h (Nat.eq_of_beq_eq_true e)
theorem aHC{ρ ids js:List Nat}{h hE:List AO}{r:Nat}(v:AO)(h1:wN ids js r=none)(h2:pF r ρ=true):iT ρ ids js (eT v h r) hE=iT ρ ids js h hE:=by
 unfold iT
 have hl:fG (eT v h r)=fG h:=by rw[eL,eL,eV,cE]
 rw[hl];congr 1
 generalize hF:wM ρ ids js (fG h) hE=F
 have hFr:∀x y,F r x=F r y:=fun x y=>by
  rw[←hF];unfold wM;rw[h1,h2]
 clear hF hl
 have key:∀(l:List AO) (i k:Nat),(∀x y,F (i+k) x=F (i+k) y)→xO F i (eT v l k)=xO F i l:=by
  intro l;induction l with
  |nil=>intro i k _;rfl
  |cons x l ih=>
   intro i k hk;cases k with
   |zero=>
    show F i v::_=F i x::_
    rw[show F i v=F i x from hk v x]
   |succ k=>
    show F i x::xO F (i+1) (eT v l k)=F i x::xO F (i+1) l
    rw[ih (i+1) k (by rw[show i+1+k=i+(k+1) by omega];exact hk)]
 exact key h 0 r (by rw[Nat.zero_add];exact hFr)
theorem aCX(ρ:List Nat)(j:Nat)(D:Ld)(W h:List AO)(b b':Nat):iT ρ [j] [1] h (pA D b++W)=iT ρ [j] [1] h (pA D b'++W):=by
 unfold iT
 have e:wM ρ [j] [1] (fG h) (pA D b++W)=wM ρ [j] [1] (fG h) (pA D b'++W):=by
  funext i x;unfold wM wN;cases cA j i<;>rfl
 rw[e];rfl
noncomputable def UB(D D':Ld)(M:List Pg)(p:Pg)(M':List Pg)(e:Int):kD
 |[.c (.ptr j 0),x],h=>match BY D j h,LY x p with
  |some (q,r,a,b),some s=>some ((s∧q)∧(sJ M∧eW .i64 p.ve)∧sI M p=(M',e)∧D=dD M∧D'=dD M',iV e,iT [j,r,a,b] [j] [1] h (pA D' 0))
  |_,_=>none
 |_,_=>none
noncomputable def XC(D:Ld)(M:List Pg):kD
 |[.c (.ptr j 0)],h=>match BY D j h with
  |some (q,r,a,b)=>some (q∧sJ M∧D=dD M,aU aG 7 M,iT [j,r,a,b] [j] [1] h (pA D 0))
  |none=>none
 |_,_=>none
section
variable {G:Nat→Option Obj}
set_option maxRecDepth 100000 in
theorem aEN{f:FuncId}{fn:Func}(hf:(aB).funcs[f]?=some fn)(hok:TF aB fn=true){args vs:List V}{D D':Ld}(W:List AO){h:List AO}{j r a b:Nat}{g:Nat→Nat→C}(hj:bC .gone h j=.cells 86 [.sl r 7 0 D.M.length,.mp a,.mp b])(hr:bC .gone h r=.row 31 7 D.M.length g)(ha:bC .gone h a=.mapb (bJ aB 81) D.gp)(hb:bC .gone h b=.mapl (bJ aB 79) 3 1 D.gs none)(hg:∀e o,e<D.M.length→o<7→g e o=aO aG D.M e o)
  (hargs:oQ [j,r,a,b] [j] 4 args=oQ [0,1,2,3] [0] 4 args)
  (H:∀b,eP aB G (Zm [0] (bK aB fn) fun s=>cW G s ⟨[.c (.ptr 0 0)]++vs,pA D' b++W⟩) (dC aB fn) (jR fn [0,1,2,3] [0] [b] (.c (.ptr 0 0)::args) (mL D [])) fun e s=>e=.normal∧Zm [0] (bK aB fn) (fun s=>cW G s ⟨[.c (.ptr 0 0)]++vs,pA D' b++W⟩) s):jW aB G f (.c (.ptr j 0)::args) h fun x h'=>x=OE (yN [1] [j] h.length vs)∧h'=iT [j,r,a,b] [j] [1] h (pA D' 0++W):=by
 have n1:j≠r:=by rintro rfl;rw[hj]at hr;cases hr
 have n2:j≠a:=by rintro rfl;rw[hj]at ha;cases ha
 have n3:j≠b:=by rintro rfl;rw[hj]at hb;cases hb
 have n4:r≠a:=by rintro rfl;rw[hr]at ha;cases ha
 have n5:r≠b:=by rintro rfl;rw[hr]at hb;cases hb
 have n6:a≠b:=by rintro rfl;rw[ha]at hb;cases hb
 have hlr:r<h.length:=fZ hr (by simp)
 refine jW.heapEq (h':=eT (.row 31 7 D.M.length (aO aG D.M)) h r) (fun β R w hh=>vD hh hr hg) (by rw[eV,cE]) ?_
 have hj':bC .gone (eT (.row 31 7 D.M.length (aO aG D.M)) h r) j=.cells 86 [.sl r 7 0 D.M.length,.mp a,.mp b]:=by rw[cP _ _ _ (Ne.symm n1)];exact hj
 have ha':bC .gone (eT (.row 31 7 D.M.length (aO aG D.M)) h r) a=.mapb (bJ aB 81) D.gp:=by rw[cP _ _ _ n4];exact ha
 have hb':bC .gone (eT (.row 31 7 D.M.length (aO aG D.M)) h r) b=.mapl (bJ aB 79) 3 1 D.gs none:=by rw[cP _ _ _ n5];exact hb
 have hr':bC .gone (eT (.row 31 7 D.M.length (aO aG D.M)) h r) r=.row 31 7 D.M.length (aO aG D.M):=eA _ _ _ hlr
 have hout:=aHC (ρ:=[j,r,a,b]) (ids:=[j]) (js:=[1]) (h:=h) (hE:=pA D' 0++W) (r:=r) (.row 31 7 D.M.length (aO aG D.M)) (by
  show (match cA j r with
   |true=>some 1
   |false=>wN [] [] r)=none
  rw[kQ n1];rfl) (by
  show (cA j r||(cA r r||_))=true
  rw[pX];simp)
 have hlen:(eT (.row 31 7 D.M.length (aO aG D.M)) h r).length=h.length:=by rw[eV,cE]
 rw[←hout,←hlen]
 generalize eT (.row 31 7 D.M.length (aO aG D.M)) h r=h0 at hj' ha' hb' hr' ⊢
 clear hj ha hb hr hg hout hlen hlr
 refine fun β R w us hw hh=>(tR (ρ:=[j,r,a,b]) (ids:=[j]) (ps:=[0]) (pns:=[0]) (js:=[1]) (sl:=[.c (.ptr 0 0)]) (vs:=vs) (hE:=fun bs=>pA D' (bC 0 bs 0)++W) hf hok ?_ ?_ (by simp) (by simp) rfl rfl rfl (fun i pn h=>?_) (fun bs hb i pn j b h1 h2 h3=>?_) (fun bs hb=>?_) β R w us hw hh).mono ?_
 ·simp[qI,pF,kQ n1,kQ n2,kQ n3,kQ n4,kQ n5,kQ n6,kQ (Ne.symm n1),kQ (Ne.symm n2),kQ (Ne.symm n3),kQ (Ne.symm n4),kQ (Ne.symm n5),kQ (Ne.symm n6)]
 ·simp[tD,hj',ha',hb',hr',AO.live]
 ·cases i with
  |zero=>obtain rfl:0=pn:=by simpa using h
         exact⟨0,by simp⟩
  |succ i=>simp at h
 ·cases i with
  |zero=>
   obtain rfl:0=pn:=by simpa using h1
   obtain rfl:1=j:=by simpa using h2
   cases bs with
   |nil=>simp at hb
   |cons b0 bs=>
    obtain rfl:b0=b:=by simpa using h3
    exact⟨rfl,rfl⟩
  |succ i=>simp at h1
 ·obtain⟨bb,rfl⟩:∃b,bs=[b]:=by
    cases bs with
    |nil=>simp at hb
    |cons b0 bs=>cases bs with
     |nil=>exact⟨b0,rfl⟩
     |cons _ _=>simp at hb
  have i1:jM j [j,r,a,b] 0=some 0:=by simp only[jM,pX]
  have i2:jM r [j,r,a,b] 0=some 1:=by simp only[jM,pX,kQ n1]
  have i3:jM a [j,r,a,b] 0=some 2:=by simp only[jM,pX,kQ n2,kQ n4]
  have i4:jM b [j,r,a,b] 0=some 3:=by simp only[jM,pX,kQ n3,kQ n5,kQ n6]
  have i5:jM j [j] 0=some 0:=by simp only[jM,pX]
  have e:jR fn [j,r,a,b] [j] [bb] (.c (.ptr j 0)::args) h0=jR fn [0,1,2,3] [0] [bb] (.c (.ptr 0 0)::args) (mL D []):=by
   unfold jR inH
   have e1:oQ [j,r,a,b] [j] ([j,r,a,b]:List Nat).length (.c (.ptr j 0)::args)=oQ [0,1,2,3] [0] ([0,1,2,3]:List Nat).length (.c (.ptr 0 0)::args):=by
    show CQ [j,r,a,b] [j] 4 (.c (.ptr j 0))::oQ [j,r,a,b] [j] 4 args=CQ [0,1,2,3] [0] 4 (.c (.ptr 0 0))::oQ [0,1,2,3] [0] 4 args
    rw[hargs];congr 1;simp only[CQ,inC,i5];rfl
   have e2:mO [j,r,a,b] h0 [j,r,a,b]=mO [0,1,2,3] (mL D []) [0,1,2,3]:=by
    simp only[mO,hj',hr',ha',hb',SH,wQ,bQ,i2,i3,i4,aMR];rfl
   have e3:vB [j,r,a,b] [j] [bb]=vB [0,1,2,3] [0] [bb]:=by
    simp only[vB,i1];rfl
   rw[e1,e2,e3];rfl
  rw[e];exact H bb
 ·rintro e w' ⟨u,β',R',x,h',rfl,⟨bs,hb,hx,hh'⟩,hr⟩
  exact⟨u,β',R',x,h',rfl,⟨hx,hh'.trans (aCX _ _ _ _ _ _ _)⟩,hr⟩
set_option maxRecDepth 100000 in
theorem vW{f:FuncId}{fn:Func}(hf:(aB).funcs[f]?=some fn)(hok:TF aB fn=true){args vs:List V}{D D':Ld}{h:List AO}{j r a b:Nat}{g:Nat→Nat→C}(hj:bC .gone h j=.cells 86 [.sl r 7 0 D.M.length,.mp a,.mp b])(hr:bC .gone h r=.row 31 7 D.M.length g)(ha:bC .gone h a=.mapb (bJ aB 81) D.gp)(hb:bC .gone h b=.mapl (bJ aB 79) 3 1 D.gs none)(hg:∀e o,e<D.M.length→o<7→g e o=aO aG D.M e o)
  (hargs:oQ [j,r,a,b] [j] 4 args=oQ [0,1,2,3] [0] 4 args)
  (H:∀b,eP aB G (Zm [0] (bK aB fn) fun s=>cW G s ⟨[.c (.ptr 0 0)]++vs,pA D' b⟩) (dC aB fn) (jR fn [0,1,2,3] [0] [b] (.c (.ptr 0 0)::args) (mL D [])) fun e s=>e=.normal∧Zm [0] (bK aB fn) (fun s=>cW G s ⟨[.c (.ptr 0 0)]++vs,pA D' b⟩) s):jW aB G f (.c (.ptr j 0)::args) h fun x h'=>x=OE (yN [1] [j] h.length vs)∧h'=iT [j,r,a,b] [j] [1] h (pA D' 0):=
 aEN (W:=[]) hf hok hj hr ha hb hg hargs (fun b=>H b)
set_option maxRecDepth 100000 in
theorem aIN(D D':Ld)(M:List Pg)(p:Pg)(M':List Pg)(e:Int):gG aB G 25 (UB D D' M p M' e):=by
 intro args h p0 v h' hm hp;unfold UB at hm
 split at hm;rotate_left;· cases hm
 split at hm;rotate_left;· cases hm
 rename_i j x _ _ q r a b s hl hx;obtain⟨rfl,rfl,rfl⟩:=gO hm;obtain⟨⟨hr,hq⟩,⟨hM,hve⟩,he,rfl,rfl⟩:=hp;obtain⟨g,k1,k2,k3,k4,hg⟩:=rZ hl hq
 have hf:=AS hM p hve
 rw[he]at hf
 have hm:=AY (G:=G) (dD M) p (fun _ hok=>zF hM hok hve) []
 rw[hf]at hm
 exact jW.args (args':=[.c (.ptr j 0),uK p]) (vW (args:=[uK p]) (vs:=[iV e]) (D':=dD M') Try.func25 (by kernel_rfl) k1 k2 k3 k4 hg rfl fun b=>hm b _) (.cons (.refl _) (.cons (tJ hx hr) .nil))
set_option maxRecDepth 100000 in
theorem aDQ(D:Ld)(M:List Pg):gG aB G 26 (XC D M):=by
 intro args h p0 v h' hm hp;unfold XC at hm
 split at hm;rotate_left;· cases hm
 split at hm;rotate_left;· cases hm
 rename_i j _ q r a b hl;obtain⟨rfl,rfl,rfl⟩:=gO hm;obtain⟨hq,hM,rfl⟩:=hp;obtain⟨g,q1,q2,q3,q4,hg⟩:=rZ hl hq
 have hm:=aG4 (G:=G) (dD M) (by rw[mF];have:=hM.2;omega) (fun p hp=>by
   rw[mF]at hp
   have:=(kV (iP.1 (hM.1 p hp).1).2.2.1).1
   omega) []
 rw[mF]at hm
 exact vW (args:=[]) (vs:=[aU aG 7 M]) (D':=dD M) Try.func26 (by kernel_rfl) q1 q2 q3 q4 hg rfl fun b=>hm b _
end
section
variable {G:Nat→Option Obj}
end
def aJ3:Mod
 |[.c (.p (.l 7 n f)),.c (.p (.l 7 m g))]=>some (∃A:List Pg,iE (.c (.p (.l 7 n f))) (aU aG 7 A)∧iE (.c (.p (.l 7 m g))) (aU aG 7 A)∧A.length≤1000000∧∀a∈A,a.L.length≤1000000,bV true)
 |_=>none
theorem aJT{M M':List Pg}{p:Pg}{e:Int}(h:sJ M)(hl:M.length≤1275)(hve:eW .i64 p.ve)(he:sI M p=(M',e)):sJ M'∧M'.length≤1276∧(e=0∨e=1∨e=10∨e=20):=by
 unfold sI at he;split at he
 ·cases he;exact⟨h,by omega,by omega⟩
 split at he
 ·cases he;exact⟨h,by omega,by omega⟩
 split at he
 ·cases he;exact⟨h,by omega,by omega⟩
 rename_i h1 _ _;cases he
 have h2:hP p=true:=by cases hq:hP p with
   |true=>rfl
   |false=>exact absurd (.inl hq) h1
 have h3:p.kd=0:=Decidable.byContradiction fun hq=>h1 (.inr hq)
 refine⟨⟨fun q hq=>?_,by rw[aL];simp;omega⟩,by rw[aL];simp;omega,by omega⟩
 rcases dK.1 hq with hq|hq
 ·exact h.1 q hq
 ·obtain rfl:=eO.1 hq
  exact⟨h2,hve,.inl h3⟩
section
variable {G:Nat→Option Obj}
theorem aKI:iW aB G 23 aJ3:=by
 intro args p v hm hp h;unfold aJ3 at hm
 split at hm;rotate_left;· cases hm
 obtain⟨rfl,rfl⟩:=eY hm;obtain⟨A,h1,h2,h3,h4⟩:=hp
 have h0:=aQI (G:=G) A A [aU aG 7 A,aU aG 7 A] _ _ rfl ⟨⟨⟨rfl,fun _ _ _ _=>lY.refl _⟩,rfl,fun _ _ _ _=>lY.refl _⟩,h3,h4⟩ h
 rw[decide_eq_true (rfl:A=A)]at h0;exact jW.args (args':=[aU aG 7 A,aU aG 7 A]) h0 (.cons h1 (.cons h2 .nil))
end
end Go.AE
