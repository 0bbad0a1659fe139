import Derived.Test.YtfjihbmehhccoaaF4
import Derived.Test.YtfjihbmehhccoaaF2
set_option linter.unusedVariables false
set_option linter.unusedSimpArgs false
namespace Go.AE
open _root_.Int renaming ofNat→dI
open IntKind renaming i64→aC
open _root_.List renaming append_assoc→dW,append_nil→fP,getD_eq_getElem?_getD→aD,getElem?_eq_getElem→aM,length_append→aV,length_set→cB,length_take→cU,mem_append→dF,mem_singleton→eN,take_length→fS
open _root_.Nat renaming beq→cA,le_refl→aW,not_lt_zero→jA,zero_le→bW
open _root_.Go.Proofs.Try renaming f11→fQ,prog→aB
open Go.Proofs Go.Proofs.Ytfjihbmehhccoaa Gp Go.RowKit
def aJE:Ext:=jV [(49,aCH)]
theorem aS9(D:Ld)(rest:List AO)(b:Nat):dC eW (dH 3 (cW aB Try.f26)) (jJ Try.f26 [0,1,2,3] [0] [b] [.c (.ptr 0 0)] (lN D rest)) (gG [0] (eZ 28 [0,3,15,16,17]) (bI aB Try.f26))=Tr.rq (dI 0≤dI 0∧0≤(↑D.M.length:Int)∧(↑D.M.length:Int)*(↑88:Int)≤140737488355328∧(↑D.M.length:Int)≤140737488355328)
 (.done .normal
 (bS 28 [(0,.c (.ptr 0 0)),(3,.c (.sl 1 7 0 0)),(15,.c (.sl 2 7 0 D.M.length)),(16,.c (.p (.i .i64 (↑D.M.length:Int)))),(17,.c (.p (.i .i64 0)))] [.pin 3 b,.row 31 7 0 fun e o=>bP [4,5,1,0,2,3] (C.p (bF (PV.b false) [PV.i aC 0,PV.s (ByteArray.mk #[]),PV.i aC 0,PV.z (Value.slice none 0 0),PV.i aC 0,PV.i aC 0,PV.s (ByteArray.mk #[])] o)),.row 31 7 D.M.length fun e o=>bP [4,5,1,0,2,3] (bP [0,1,2,3] (aQ aI D.M e o)),.cells 86 [.sl 2 7 0 D.M.length,.mp 4,.mp 5],.mapb (bQ aB 81) D.gp,.mapl (bQ aB 79) 3 1 D.gs none])):=by kernel_rfl
theorem aS8(D:Ld)(b k i:Nat)(out:List Pg):dC aJE (gR (cW aB Try.f26) 3) (bS 28 [(0,.c (.ptr 0 0)),(3,.c (.sl 1 7 0 k)),(15,.c (.sl 2 7 0 D.M.length)),(16,iV (D.M.length:Nat)),(17,iV (i:Nat))] [.pin 3 b,.row 31 7 k (aQ aI out),.row 31 7 D.M.length (aQ aI D.M),.cells 86 [.sl 2 7 0 D.M.length,.mp 4,.mp 5],.mapb (bQ aB 81) D.gp,.mapl (bQ aB 79) 3 1 D.gs none]) (gG [0] (eZ 28 [0,3,15,16,17]) (bI aB Try.f26))=bT (decide ((↑i:Int)<(↑D.M.length:Int)))
 (.rq (0≤(↑i:Int)∧(↑i:Int)<(↑D.M.length:Int))
 (.rq ((↑i:Int).toNat+0<D.M.length)
 (.rq
 (kA aN 2 (bO cT (D.M.getD ((↑i:Int).toNat+0) default).L.length (aE aN (D.M.getD ((↑i:Int).toNat+0) default).L)) (D.M.getD ((↑i:Int).toNat+0) default).L.length
 (aE aN (D.M.getD ((↑i:Int).toNat+0) default).L) ∧
 (bO cT (D.M.getD ((↑i:Int).toNat+0) default).L.length (aE aN (D.M.getD ((↑i:Int).toNat+0) default).L)).length≤1000000)
 (.rq (k=k)
 (.rq (1≤1)
 (.rq
 ((k+1)*88≤140737488355328 ∧
 k+1≤140737488355328 ∧
 ∀(e o:Nat),
 e<1 →
 o<7 →
 iH
 (lM
 [C.p (PV.i aC (D.M.getD ((↑i:Int).toNat+0) default).kd),C.p (PV.s (D.M.getD ((↑i:Int).toNat+0) default).ru),
 C.p (PV.i aC (D.M.getD ((↑i:Int).toNat+0) default).ve),
 C.p
 (PV.l 2 (bO cT (D.M.getD ((↑i:Int).toNat+0) default).L.length (aE aN (D.M.getD ((↑i:Int).toNat+0) default).L)).length
 (aE aN (bO cT (D.M.getD ((↑i:Int).toNat+0) default).L.length (aE aN (D.M.getD ((↑i:Int).toNat+0) default).L)))),
 C.p (PV.i aC (D.M.getD ((↑i:Int).toNat+0) default).st),C.p (PV.i aC (D.M.getD ((↑i:Int).toNat+0) default).se),
 C.p (PV.s (D.M.getD ((↑i:Int).toNat+0) default).to)]
 7 1 (e+0) o) =
 true)
 (.rq (eV aC ((↑i:Int)+1))
 (.done .normal
 (bS 28 [(0,.c (.ptr 0 0)),(3,.c (.sl 1 7 0 (k+1))),(15,.c (.sl 2 7 0 D.M.length)),(16,.c (.p (.i .i64 (↑D.M.length:Int)))),(17,.c (.p (.i .i64 ((↑i:Int)+1))))] [.pin 3 b,.row 31 7 (k+1) fun e o=>bP [0,8,2,3,4,5] (fC k (aQ aI out) (fun e o=>bF C.top [C.p (PV.i aC (D.M.getD ((↑i:Int).toNat+0) default).kd),C.p (PV.s (D.M.getD ((↑i:Int).toNat+0) default).ru),C.p (PV.i aC (D.M.getD ((↑i:Int).toNat+0) default).ve),C.p (PV.l 2 (bO cT (D.M.getD ((↑i:Int).toNat+0) default).L.length (aE aN (D.M.getD ((↑i:Int).toNat+0) default).L)).length (aE aN (bO cT (D.M.getD ((↑i:Int).toNat+0) default).L.length (aE aN (D.M.getD ((↑i:Int).toNat+0) default).L)))),C.p (PV.i aC (D.M.getD ((↑i:Int).toNat+0) default).st),C.p (PV.i aC (D.M.getD ((↑i:Int).toNat+0) default).se),C.p (PV.s (D.M.getD ((↑i:Int).toNat+0) default).to)] ((e+0)*7+o)) e o),.row 31 7 D.M.length fun e o=>bP [0,8,2,3,4,5] (aQ aI D.M e o),.cells 86 [.sl 2 7 0 D.M.length,.mp 4,.mp 5],.mapb (bQ aB 81) D.gp,.mapl (bQ aB 79) 3 1 D.gs none])))))))))
 (.done (.exit 0)
 (bS 28 [(0,.c (.ptr 0 0)),(3,.c (.sl 1 7 0 k)),(15,.c (.sl 2 7 0 D.M.length)),(16,.c (.p (.i .i64 (↑D.M.length:Int)))),(17,.c (.p (.i .i64 (↑i:Int))))] [.pin 3 b,.row 31 7 k fun e o=>bP [0,1,2,3,4,5] (aQ aI out e o),.row 31 7 D.M.length fun e o=>bP [0,1,2,3,4,5] (aQ aI D.M e o),.cells 86 [.sl 2 7 0 D.M.length,.mp 4,.mp 5],.mapb (bQ aB 81) D.gp,.mapl (bQ aB 79) 3 1 D.gs none])):=by kernel_rfl
theorem aS7(D:Ld)(b:Nat)(out:List Pg):dC eW (bJ 4 (cW aB Try.f26)) (bS 28 [(0,.c (.ptr 0 0)),(3,aU aI 7 out)] [.pin 1 b,.cells 86 [.sl 2 7 0 D.M.length,.mp 3,.mp 4],.row 31 7 D.M.length (aQ aI D.M),.mapb (bQ aB 81) D.gp,.mapl (bQ aB 79) 3 1 D.gs none]) (gG [0] [] (bI aB Try.f26))=Tr.done X.ret
 (bS 2 [(0,.c (.ptr 0 0)),(1,.c (.p (.l 7 out.length (aE aI out))))] [.pin 1 b,.cells 86 [.sl 2 7 0 D.M.length,.mp 3,.mp 4],.row 31 7 D.M.length fun e o=>bP [0,1,2,3,4] (aQ aI D.M e o),.mapb (bQ aB 81) D.gp,.mapl (bQ aB 79) 3 1 D.gs none]):=by kernel_rfl
section
variable {G:Nat→Option Obj}
theorem NX:bH aB G aJE:=dY (by simp;exact aBO)
set_option maxRecDepth 100000 in
theorem aEH(D:Ld)(h1:D.M.length≤1000000)(h2:∀p∈D.M,p.L.length≤1000000)(rest:List AO)(b:Nat)(Q:X→St→Prop):eL aB G (Zm [0] (bI aB Try.f26) fun s=>cQ G s ⟨[.c (.ptr 0 0)]++[aU aI 7 D.M],oM D b⟩) (cW aB Try.f26) (jJ Try.f26 [0,1,2,3] [0] [b] [.c (.ptr 0 0)] (lN D rest)) Q:=by
 refine eL.evG aX 3 (aS9 D rest b) ?_;simp only[bB,aL,cF];refine⟨⟨by decide,by omega,by omega,by omega⟩,⟨?_⟩⟩
 refine eL.loop' (l:=bJ 3 (cW aB Try.f26)) (b:=inr (inr (bF .skip (cW aB Try.f26) 3))) (r:=bJ 4 (cW aB Try.f26)) (id:=0) (by kernel_rfl) (σ:=Nat)
   (fun i=>(fun out k=>bS 28 [(0,.c (.ptr 0 0)),(3,.c (.sl 1 7 0 k)),(15,.c (.sl 2 7 0 D.M.length)),(16,iV (D.M.length:Nat)),(17,iV (i:Nat))] [.pin 3 b,.row 31 7 k (aQ aI out),.row 31 7 D.M.length (aQ aI D.M),.cells 86 [.sl 2 7 0 D.M.length,.mp 4,.mp 5],.mapb (bQ aB 81) D.gp,.mapl (bQ aB 79) 3 1 D.gs none]) (D.M.take i) (D.M.take i).length) (fun i=>i≤D.M.length) (fun i=>D.M.length-i) 0 (bW _) (iG ⟨rfl,⟨rfl,rfl,rfl,fun e o he=>absurd he (jA _)⟩,⟨rfl,rfl,rfl,fun e o he ho=>rfl⟩,rfl,rfl,rfl,trivial⟩) ?_
 intro i hi Q1 q1n q1e _;refine eL.evH (keep:=eZ 28 [0,3,15,16,17]) NX (aS8 D b (D.M.take i).length i (D.M.take i)) ?_
 have hl:(D.M.take i).length=i:=by rw[cU];omega
 simp only[bZ,bB,aL,cF,mC,decide_eq_true_eq,decide_eq_false_iff_not,eV,show ∀x:Nat,x+0=x from fun _=>rfl,Int.toNat_natCast,gK];refine⟨fun hlt=>?_,fun hge=>⟨q1e _ ?_⟩⟩
 ·have hlt:i<D.M.length:=by omega
  have hsn:=sR hlt
  have hL:(D.M.getD i default).L.length≤1000000:=h2 _ (by
   rw[aD,aM hlt]
   exact List.getElem_mem _)
  generalize D.M.getD i default=p at hsn hL ⊢
  refine⟨by omega,hlt,⟨dJ _ _ _,hL⟩,trivial,aW _,⟨by omega,by omega,fun e o he ho=>?_⟩,by omega,⟨?_⟩⟩
  ·obtain rfl:e=0:=by omega
   have:o=0∨o=1∨o=2∨o=3∨o=4∨o=5∨o=6:=by omega
   rcases this with rfl|rfl|rfl|rfl|rfl|rfl|rfl<;>rfl
  ·refine q1n (i+1) _ (by omega) (by omega) ?_
   have hlx:(D.M.take i).length+1=(D.M.take (i+1)).length:=by rw[hsn];simp
   rw[hlx];refine iG ⟨rfl,⟨rfl,rfl,rfl,fun e o he ho=>?_⟩,⟨rfl,rfl,rfl,fun e o he ho=>rfl⟩,rfl,rfl,rfl,trivial⟩
   show _=aQ aI (D.M.take (i+1)) e o
   rw[hsn];refine oT (ρ:=[0,8,2,3,4,5]) rfl (HA p.kd p.ve p.st p.se p.ru p.to p.L) ?_ ho
   have he:e<(D.M.take (i+1)).length:=he
   rw[hsn]at he;simpa using he
 ·obtain rfl:i=D.M.length:=by omega
  rw[fS]
  refine eL.pre ((aJ (st':=(fun out k i=>bS 28 [(0,.c (.ptr 0 0)),(3,.c (.sl 1 7 0 k)),(15,.c (.sl 2 7 0 D.M.length)),(16,iV (D.M.length:Nat)),(17,iV (i:Nat))] [.pin 3 b,.row 31 7 k (aQ aI out),.row 31 7 D.M.length (aQ aI D.M),.cells 86 [.sl 2 7 0 D.M.length,.mp 4,.mp 5],.mapb (bQ aB 81) D.gp,.mapl (bQ aB 79) 3 1 D.gs none]) D.M D.M.length D.M.length) (by kernel_rfl)).trans ((kZ (j:=3) (id:=1) (ty:=31) (sz:=7) (n:=D.M.length) (off:=0) (len:=D.M.length) (f:=aQ aI D.M) (by kernel_rfl) (by kernel_rfl) (by omega) (fun _ _ _ _=>rfl)).trans ((fG (eZ 28 [0,3]) _).trans (aJ (st':=(fun out=>bS 28 [(0,.c (.ptr 0 0)),(3,aU aI 7 out)] [.pin 1 b,.cells 86 [.sl 2 7 0 D.M.length,.mp 3,.mp 4],.row 31 7 D.M.length (aQ aI D.M),.mapb (bQ aB 81) D.gp,.mapl (bQ aB 79) 3 1 D.gs none]) D.M) (by kernel_rfl))))) ?_
  refine eL.evH (keep:=[]) aX (aS7 D b D.M) ?_;simp only[aL,jP]
  exact⟨aJ (by kernel_rfl)⟩
end
noncomputable def dQ(M:List Pg):Ld:=M.foldl gF zO
theorem zC(M:List Pg)(p:Pg):dQ (M++[p])=gF (dQ M) p:=by unfold dQ;rw[List.foldl_append];rfl
theorem aAY(M Y:List Pg):dQ (M++Y)=Y.foldl gF (dQ M):=by unfold dQ;rw[List.foldl_append]
theorem TG:∀(M:List Pg) (D:Ld),(M.foldl gF D).M=D.M++M
 |[],D=>(fP _).symm
 |p::M,D=>by
  rw[List.foldl_cons,TG M]
  show (D.M++[p])++M=_
  rw[dW];rfl
theorem lP(M:List Pg):(dQ M).M=M:=TG M zO
theorem IJ:∀(M:List Pg) (D:Ld),QG D→(∀p∈M,JE p)→QG (M.foldl gF D)
 |[],D,h,_=>h
 |p::M,D,h,hM=>IJ M (gF D p) (KR h (hM p (List.mem_cons_self ..))) fun q hq=>hM q (List.mem_cons_of_mem _ hq)
theorem tJ{M:List Pg}(h:∀p∈M,JE p):QG (dQ M):=IJ M zO aHQ h
theorem uG(T:List Int)(ru:ByteArray)(ve:Int)(L:List (ByteArray×ByteArray))(se:Int):∀(A:List Int) (D:Ld) (out:List Pg),∃Y,A.foldl (kW T ru ve L se) (D,out)=(Y.foldl gF D,out++Y)
 |[],D,out=>⟨[],by simp⟩
 |t::A,D,out=>by
  rw[List.foldl_cons]
  have step:kW T ru ve L se (D,out) t=(D,out)∨∃p,kW T ru ve L se (D,out) t=(gF D p,out++[p]):=by
   unfold kW;dsimp only;cases (D.gp (kK ru ve (cE L) t)).getD false<;>cases decide (t∈T)
   ·exact .inl rfl
   ·exact .inr ⟨_,rfl⟩
   ·exact .inr ⟨_,rfl⟩
   ·exact .inl rfl
  rcases step with e|⟨p,e⟩
  ·rw[e];exact uG T ru ve L se A D out
  ·rw[e]
   obtain⟨Y,h⟩:=uG T ru ve L se A (gF D p) (out++[p]);exact⟨p::Y,by rw[h,dW];rfl⟩
def AC(M:List Pg):Prop:=(∀q∈M,JE q)∧M.length≤50000
theorem HT{M:List Pg}(h:AC M)(p:Pg)(hve:eV .i64 p.ve):jD (dQ M) p=((vL M p).2,dQ (vL M p).1):=by
 obtain⟨k1,k2,_⟩:=SQ (tJ h.1) p hve;rw[lP]at k1 k2
 have k3:(jD (dQ M) p).2=dQ M∨(jD (dQ M) p).2=gF (dQ M) p:=by
  unfold jD
  split<;>first|exact .inl rfl|exact .inr rfl
 refine Prod.ext k1 ?_
 show (jD (dQ M) p).2=dQ (vL M p).1
 rcases k3 with e|e
 ·rw[e,lP]at k2
  rw[e,←k2]
 ·rw[e]at k2
  have k2:(dQ M).M++[p]=(vL M p).1:=k2
  rw[lP]at k2;rw[e,←k2,zC]
def aPU(M:List Pg)(p:Pg)(T:List Int)(S:List Int):Prop:=
 FT (dQ M) (iI p.ru p.ve (cE p.L)) S∧S.length≤M.length∧(hJ ⟨0,p.ru,p.ve,p.L,0,p.se,⟨#[]⟩⟩=true→∀t∈S,gQ t=true)∧iF (kJ (dQ M) p.ru p.ve p.L S T p.se).1 (aU aI 7 (vN M p T).2)∧(kJ (dQ M) p.ru p.ve p.L S T p.se).2=dQ (vN M p T).1
theorem SW{M:List Pg}(h:AC M)(p:Pg)(T:List Int)(hve:eV .i64 p.ve):∃S,aPU M p T S:=by
 obtain⟨S,D',k1,k2,k3,k4,k5,k6,k7⟩:=NH (tJ h.1) p T hve;rw[lP]at k2 k3 k6 k7
 have hD:(kJ (dQ M) p.ru p.ve p.L S T p.se).2=D'∧iF (kJ (dQ M) p.ru p.ve p.L S T p.se).1 (aU aI 7 (vN M p T).2):=by
  cases hc:hJ ⟨0,p.ru,p.ve,p.L,0,p.se,⟨#[]⟩⟩&&T.all gQ with
  |true=>
   have:=k6 hc
   rw[this];exact⟨rfl,iF.refl _⟩
  |false=>
   obtain⟨e1,e2⟩:=k7 hc;rw[e1,e2];exact⟨rfl,iF.p (lE.nil 7 _)⟩
 refine⟨S,k1,k2,k5,hD.2,?_⟩
 have hY:∃Y:List Pg,(kJ (dQ M) p.ru p.ve p.L S T p.se).2=Y.foldl gF (dQ M):=by
  unfold kJ;split
  ·obtain⟨Y,hY⟩:=uG T p.ru p.ve p.L p.se (kH (iC (S++T))) (dQ M) []
   refine⟨Y,?_⟩;unfold nG;rw[hY]
  ·exact⟨[],rfl⟩
 obtain⟨Y,hY⟩:=hY;rw[hY];rw[hD.1]at hY
 have e:(dQ M).M++Y=(vN M p T).1:=by rw[←k3,hY,TG]
 rw[lP]at e;rw[←e,aAY]
theorem SP{M:List Pg}(h:AC M)(p:Pg):∃S,FT (dQ M) (iI p.ru p.ve (cE p.L)) S∧S.length≤M.length∧(hJ ⟨0,p.ru,p.ve,p.L,0,0,⟨#[]⟩⟩=true→∀t∈S,gQ t=true)∧iF (nD (dQ M) p.ru p.ve p.L S) (aU aS 1 (fX M p)):=by
 obtain⟨S,k1,k2,k3,k4⟩:=NB (tJ h.1) p;rw[lP]at k2 k3 k4;refine⟨S,k1,k2,fun hc=>(k3 hc).1,?_⟩;cases hc:hJ ⟨0,p.ru,p.ve,p.L,0,0,⟨#[]⟩⟩ with
 |true=>rw[(k3 hc).2];exact iF.refl _
 |false=>
  obtain⟨e1,e2⟩:=k4 hc;rw[e2,e1];exact iF.p (lE.nil 1 _)
theorem FD{M:List Pg}(h:AC M){p:Pg}(hp:hJ p=true)(hve:eV .i64 p.ve):sP (dQ M) p:=by
 obtain⟨k1,k2,k3,k4,k5,k6⟩:=iM.1 hp;obtain⟨S,hv,h2,_⟩:=(tJ h.1).vw p.ru p.ve p.L k3;rw[lP]at h2
 have t1:p.ru.size≤1000000:=by have:=uQ k1;omega
 have t2:(cE p.L).size≤1000000:=by have:=vY k3;omega
 have t3:=(kS k3).1
 have t4:=h.2
 refine⟨xR _ _ _ _ t1 hve t2 (oX k4),xS _ _ _ t1 hve t2,t2,by omega,by rw[lP];omega,?_⟩
 have:=hv.st.1
 omega
def aHI(x:V)(L:List (ByteArray×ByteArray)):Option Prop:=match NE x with
 |some (q,a)=>some (q∧a=L)
 |none=>none
theorem VN{x:V}{L:List (ByteArray×ByteArray)}{q:Prop}(h:aHI x L=some q)(hq:q):iF x (aU aN 2 L):=by
 unfold aHI at h;split at h
 ·rename_i q' a hx
  injection h with h;subst h;obtain⟨h1,rfl⟩:=hq;exact uT hx h1
 ·cases h
noncomputable def SK(D D':Ld)(M:List Pg)(p:Pg)(M':List Pg)(e:Int):jU
 |[.c (.ptr 0 0),x],h=>match KP D h,ND x p with
  |some (q,rest),some r=>some ((r∧q)∧(AC M∧eV .i64 p.ve)∧vL M p=(M',e)∧D=dQ M∧D'=dQ M',iV e,iL [0,1,2,3] [0] [1] (lN D rest) (oM D' 0))
  |_,_=>none
 |_,_=>none
noncomputable def JY(D:Ld)(M:List Pg)(p:Pg)(out:List Int):jU
 |[.c (.ptr 0 0),.c (.p (.s ru)),.c (.p (.i .i64 ve)),x],h=>match KP D h,aHI x p.L with
  |some (q,rest),some r=>some (((r∧q)∧ru=p.ru∧ve=p.ve)∧(AC M∧eV .i64 p.ve)∧fX M p=out∧D=dQ M,aU aS 1 out,iL [0,1,2,3] [0] [1] (lN D rest) (oM D 0))
  |_,_=>none
 |_,_=>none
noncomputable def KL(D D':Ld)(M:List Pg)(p:Pg)(T:List Int)(M' out:List Pg):jU
 |[.c (.ptr 0 0),.c (.p (.s ru)),.c (.p (.i .i64 ve)),x,y,.c (.p (.i .i64 se))],h=>match KP D h,aHI x p.L,leI y T with
  |some (q,rest),some r,some s=>some ((((r∧q)∧s)∧ru=p.ru∧ve=p.ve∧se=p.se)∧(AC M∧eV .i64 p.ve∧T.length≤50000)∧vN M p T=(M',out)∧D=dQ M∧D'=dQ M',aU aI 7 out,iL [0,1,2,3] [0] [1] (lN D rest) (oM D' 0))
  |_,_,_=>none
 |_,_=>none
section
variable {G:Nat→Option Obj}
theorem jN.resLe{P:Program}{f:FuncId}{args:List V}{h:List AO}{K K':V→List AO→Prop}(hk:∀x h',K x h'→∃x',iF x x'∧K' x' h')(hf:jN P G f args h K):jN P G f args h K':=by
 intro β R w vs ha hh;refine(hf β R w vs ha hh).mono ?_;rintro e w' ⟨u,β2,R2,x,h3,q1,q2,q3,q4,q5,q6⟩;obtain⟨x',k1,k2⟩:=hk x h3 q2;exact⟨u,β2,R2,x',h3,q1,k2,k1 β2 R2 w' u q3,q4,q5,q6⟩
theorem aGX(D D':Ld)(M:List Pg)(p:Pg)(M':List Pg)(e:Int):fZ aB G 25 (SK D D' M p M' e):=by
 intro args h p0 v h' hm hp;unfold SK at hm
 split at hm;rotate_left;· cases hm
 split at hm;rotate_left;· cases hm
 rename_i x _ _ q rest r hl hx;obtain⟨rfl,rfl,rfl⟩:=gH hm;obtain⟨⟨hr,hq⟩,⟨hM,hve⟩,he,rfl,rfl⟩:=hp
 have hf:=HT hM p hve
 rw[he]at hf
 have:=WD (G:=G) (dQ M) p (fun _ hok=>FD hM hok hve) rest
 rw[hf]at this;exact jN.ledger hl hq (jN.args (args':=[.c (.ptr 0 0),uO p]) this (.cons (.refl _) (.cons (uS hx hr) .nil)))
theorem aBK(D:Ld)(M:List Pg)(p:Pg)(out:List Int):fZ aB G 16 (JY D M p out):=by
 intro args h p0 v h' hm hp;unfold JY at hm
 split at hm;rotate_left;· cases hm
 split at hm;rotate_left;· cases hm
 rename_i ru ve x _ _ q rest r hl hx;obtain⟨rfl,rfl,rfl⟩:=gH hm;obtain⟨⟨⟨hr,hq⟩,rfl,rfl⟩,⟨hM,hve⟩,rfl,rfl⟩:=hp;obtain⟨S,k1,k2,k3,k4⟩:=SP hM p;refine jN.ledger hl hq (jN.args (args':=[.c (.ptr 0 0),.c (.p (.s p.ru)),iV p.ve,aU aN 2 p.L]) (jN.resLe (fun x' h' hk=>?_) (LS (dQ M) p.ru p.ve p.L S k1 (fun hok=>?_) rest)) (.cons (.refl _) (.cons (.refl _) (.cons (.refl _) (.cons (VN hx hr) .nil)))))
 ·obtain⟨rfl,rfl⟩:=hk
  exact⟨_,k4,rfl,rfl⟩
 ·obtain⟨m1,m2,m3,_⟩:=iM.1 hok
  have t1:p.ru.size≤1000000:=by have:p.ru.size≤16:=uQ m1;omega
  have t2:(cE p.L).size≤1000000:=by have:(cE p.L).size≤1000:=vY m3;omega
  have t4:=hM.2
  exact⟨t2,xS _ _ _ t1 hve t2,fun t ht=>xR _ _ _ _ t1 hve t2 (oX (k3 hok t ht)),by omega⟩
theorem aC0(D D':Ld)(M:List Pg)(p:Pg)(T:List Int)(M' out:List Pg):fZ aB G 17 (KL D D' M p T M' out):=by
 intro args h p0 v h' hm hp;unfold KL at hm
 split at hm;rotate_left;· cases hm
 split at hm;rotate_left;· cases hm
 rename_i ru ve x y se _ _ _ q rest r s hl hx hy;obtain⟨rfl,rfl,rfl⟩:=gH hm;obtain⟨⟨⟨⟨hr,hq⟩,hs⟩,rfl,rfl,rfl⟩,⟨hM,hve,hT⟩,he,rfl,rfl⟩:=hp;obtain⟨S,k1,k2,k3,k4,k5⟩:=SW hM p T hve;rw[he]at k4 k5;refine jN.ledger hl hq (jN.args (args':=[.c (.ptr 0 0),.c (.p (.s p.ru)),iV p.ve,aU aN 2 p.L,aU aS 1 T,iV p.se]) (jN.resLe (fun x' h' hk=>?_) (PX (dQ M) p.ru p.ve p.L S T p.se k1 (fun hok=>?_) (by omega) rest)) (.cons (.refl _) (.cons (.refl _) (.cons (.refl _) (.cons (VN hx hr) (.cons (wM hy hs) (.cons (.refl _) .nil)))))))
 ·obtain⟨rfl,rfl⟩:=hk
  exact⟨_,k4,rfl,by rw[k5]⟩
 ·obtain⟨m1,m2,m3,_⟩:=iM.1 hok
  have t1:p.ru.size≤1000000:=by have:p.ru.size≤16:=uQ m1;omega
  have t2:(cE p.L).size≤1000000:=by have:(cE p.L).size≤1000:=vY m3;omega
  have t3:p.L.length≤8:=(kS m3).1
  have t4:=hM.2
  exact⟨t2,t1,hve,by omega,fun t ht=>oX (k3 hok t ht),by omega,by rw[lP];omega⟩
end
noncomputable def aJQ:Ext:=lH [(20,aCK)]
noncomputable def aK0(D D':Ld)(M:List Pg)(p:Pg)(M':List Pg)(e:Int):Ext:=lH [(25,SK D D' M p M' e)]
noncomputable def aJA(D:Ld)(M:List Pg)(p:Pg)(out:List Int):Ext:=lH [(16,JY D M p out)]
noncomputable def aKE(D D':Ld)(M:List Pg)(p:Pg)(T:List Int)(M' out:List Pg):Ext:=lH [(17,KL D D' M p T M' out)]
theorem tR1(M:List Pg)(h:List AO):dC aJQ (dH 5 (cW aB fQ)) (jJ fQ [] [] [] [.a [.p (bY aI 7 M)]] h) (gG [] (eZ 92 [1,3,4]) (bI aB fQ))=Tr.rq True
 (.done .normal
 (bS 92 [(1,.c (.ptr 0 0)),(3,.c (.ptr 1 0)),(4,.c (.p (.i .i64 0)))] [.cells 27 [.p (.l 7 M.length (aE aI M))],.cells 86 [.sl 2 7 0 0,.mp 3,.mp 4],.row 31 7 0 fun e o=>bP [0,1,2,3,4] (C.p (aE aI zO.M e o)),.mapb (bQ aB 81) zO.gp,.mapl (bQ aB 79) 3 1 zO.gs none])):=by kernel_rfl
theorem tR2(D:Ld)(M:List Pg)(i:Nat):dC eW (dH 2 (gR (cW aB fQ) 5)) (bS 92 [(1,.c (.ptr 4 0)),(3,.c (.ptr 0 0)),(4,iV (i:Nat))] (lN D [.cells 27 [.p (bY aI 7 M)]])) (gG [] (eZ 92 [1,3,4]) (bI aB fQ))=bT (decide ((↑i:Int)<(↑M.length:Int)))
 (.done .normal
 (bS 92 [(1,.c (.ptr 0 0)),(3,.c (.ptr 1 0)),(4,.c (.p (.i .i64 (↑i:Int))))] [.cells 27 [.p (.l 7 M.length (aE aI M))],.cells 86 [.sl 2 7 0 D.M.length,.mp 3,.mp 4],.row 31 7 D.M.length fun e o=>bP [4,0,1,2,3] (aQ aI D.M e o),.mapb (bQ aB 81) D.gp,.mapl (bQ aB 79) 3 1 D.gs none]))
 (.done (.exit 0)
 (bS 92 [(1,.c (.ptr 0 0)),(3,.c (.ptr 1 0)),(4,.c (.p (.i .i64 (↑i:Int))))] [.cells 27 [.p (.l 7 M.length (aE aI M))],.cells 86 [.sl 2 7 0 D.M.length,.mp 3,.mp 4],.row 31 7 D.M.length fun e o=>bP [4,0,1,2,3] (aQ aI D.M e o),.mapb (bQ aB 81) D.gp,.mapl (bQ aB 79) 3 1 D.gs none])):=by kernel_rfl
theorem tR3(D:Ld)(M:List Pg)(i:Nat):dC eW (dH 2 (eX (inr (bF .skip (gR (cW aB fQ) 5) 2)))) (bS 92 [(1,.c (.ptr 4 0)),(3,.c (.ptr 0 0)),(4,iV (i:Nat))] (lN D [.cells 27 [.p (bY aI 7 M)]])) (gG [] (eZ 92 [1,3,4,5,27]) (bI aB fQ))=Tr.rq (0≤(↑i:Int)∧(↑i:Int)<(↑M.length:Int))
 (.done .normal
 (bS 92 [(1,.c (.ptr 0 0)),(3,.c (.ptr 1 0)),(4,.c (.p (.i .i64 (↑i:Int)))),(5,.c (.ptr 2 0)),(27,.c (.p (.b ((M.getD (↑i:Int).toNat default).kd==0))))] [.cells 27 [.p (.l 7 M.length (aE aI M))],.cells 86 [.sl 3 7 0 D.M.length,.mp 4,.mp 5],.cells 31 [.p (.i .i64 (M.getD (↑i:Int).toNat default).kd),.p (.s (M.getD (↑i:Int).toNat default).ru),.p (.i .i64 (M.getD (↑i:Int).toNat default).ve),.p (.l 2 (M.getD (↑i:Int).toNat default).L.length (aE aN (M.getD (↑i:Int).toNat default).L)),.p (.i .i64 (M.getD (↑i:Int).toNat default).st),.p (.i .i64 (M.getD (↑i:Int).toNat default).se),.p (.s (M.getD (↑i:Int).toNat default).to)],.row 31 7 D.M.length fun e o=>bP [4,0,5,1,2,3] (aQ aI D.M e o),.mapb (bQ aB 81) D.gp,.mapl (bQ aB 79) 3 1 D.gs none])):=by kernel_rfl
theorem tR4(D D':Ld)(M N N':List Pg)(p:Pg)(i:Nat)(e:Int):dC (aK0 D D' N p N' e) (eX (aI8 (bF .skip (eX (inr (bF .skip (gR (cW aB fQ) 5) 2))) 2))) (bS 92 [(1,.c (.ptr 5 0)),(3,.c (.ptr 0 0)),(4,iV (i:Nat)),(5,.c (.ptr 4 0))] (lN D [.cells 31 [.p (.i .i64 p.kd),.p (.s p.ru),.p (.i .i64 p.ve),.p (bY aN 2 p.L),.p (.i .i64 p.st),.p (.i .i64 p.se),.p (.s p.to)],.cells 27 [.p (bY aI 7 M)]])) (gG [] (eZ 92 [1,3,4]) (bI aB fQ))=Tr.rq
 (((kA aN 2 (bO cT p.L.length (aE aN p.L)) p.L.length (aE aN p.L)∧Pg.mk p.kd p.ru p.ve (bO cT p.L.length (aE aN p.L)) p.st p.se p.to=p) ∧
 D.M.length=D.M.length ∧
 D.M.length=D.M.length ∧
 (∀(e o:Nat),e<D.M.length→o<7→aQ aI D.M e o=aQ aI D.M e o)∧bQ aB 81=bQ aB 81∧D.gp=D.gp∧bQ aB 79=bQ aB 79∧D.gs=D.gs) ∧
 (AC N∧eV aC p.ve)∧vL N p=(N',e)∧D=dQ N∧D'=dQ N')
 (bT (e != 0) (.done .ret (St.mk [V.c (C.p (PV.z (Value.pointer none)))] []))
 (.done (.exit 1)
 (bS 92 [(1,.c (.ptr 0 0)),(3,.c (.ptr 1 0)),(4,.c (.p (.i .i64 (↑i:Int))))] [.cells 27 [.p (.l 7 M.length (aE aI M))],.cells 86 [.sl 2 7 0 D'.M.length,.mp 3,.mp 4],.row 31 7 D'.M.length fun e o=>bP [5,0,8,9,10] (C.p (aE aI D'.M e o)),.mapb (bQ aB 81) D'.gp,.mapl (bQ aB 79) 3 1 D'.gs none]))):=by kernel_rfl
theorem tR5(D:Ld)(M N:List Pg)(p:Pg)(now:List Int)(i:Nat):dC (aJA D N p now) (dH 3 (bJ 3 (eX (inr (bF .skip (gR (cW aB fQ) 5) 2))))) (bS 92 [(1,.c (.ptr 5 0)),(3,.c (.ptr 0 0)),(4,iV (i:Nat)),(5,.c (.ptr 4 0))] (lN D [.cells 31 [.p (.i .i64 p.kd),.p (.s p.ru),.p (.i .i64 p.ve),.p (bY aN 2 p.L),.p (.i .i64 p.st),.p (.i .i64 p.se),.p (.s p.to)],.cells 27 [.p (bY aI 7 M)]])) (gG [] (eZ 92 [1,3,4,5,6,7,8]) (bI aB fQ))=Tr.rq
 ((((kA aN 2 (bO cT p.L.length (aE aN p.L)) p.L.length (aE aN p.L)∧bO cT p.L.length (aE aN p.L)=p.L) ∧
 D.M.length=D.M.length ∧
 D.M.length=D.M.length ∧
 (∀(e o:Nat),e<D.M.length→o<7→aQ aI D.M e o=aQ aI D.M e o)∧bQ aB 81=bQ aB 81∧D.gp=D.gp∧bQ aB 79=bQ aB 79∧D.gs=D.gs) ∧
 p.ru=p.ru∧p.ve=p.ve) ∧
 (AC N∧eV aC p.ve)∧fX N p=now∧D=dQ N)
 (.done .normal
 (bS 92 [(1,.c (.ptr 0 0)),(3,.c (.ptr 1 0)),(4,.c (.p (.i .i64 (↑i:Int)))),(5,.c (.ptr 2 0)),(6,.c (.p (.l 1 now.length (aE aS now)))),(7,.c (.p (.z (Value.slice none 0 0)))),(8,.c (.p (.i .i64 0)))] [.cells 27 [.p (.l 7 M.length (aE aI M))],.cells 86 [.sl 3 7 0 D.M.length,.mp 4,.mp 5],.cells 31 [.p (.i .i64 p.kd),.p (.s p.ru),.p (.i .i64 p.ve),.p (.l 2 p.L.length (aE aN p.L)),.p (.i .i64 p.st),.p (.i .i64 p.se),.p (.s p.to)],.row 31 7 D.M.length fun e o=>bP [5,0,4,8,9,10] (C.p (aE aI D.M e o)),.mapb (bQ aB 81) D.gp,.mapl (bQ aB 79) 3 1 D.gs none])):=by kernel_rfl
theorem tR6(D:Ld)(M:List Pg)(p:Pg)(now out:List Int)(i j k:Nat):dC eW (gR (eX (inr (bF .skip (gR (cW aB fQ) 5) 2))) 6) (bS 92 [(1,.c (.ptr 0 0)),(3,.c (.ptr 1 0)),(4,iV (i:Nat)),(5,.c (.ptr 2 0)),(6,aU aS 1 now),(7,.c (.sl 3 1 0 k)),(8,iV (j:Nat))] [.cells 27 [.p (bY aI 7 M)],.cells 86 [.sl 4 7 0 D.M.length,.mp 5,.mp 6],.cells 31 [.p (.i .i64 p.kd),.p (.s p.ru),.p (.i .i64 p.ve),.p (bY aN 2 p.L),.p (.i .i64 p.st),.p (.i .i64 p.se),.p (.s p.to)],.row 3 1 k (aQ aS out),.row 31 7 D.M.length (aQ aI D.M),.mapb (bQ aB 81) D.gp,.mapl (bQ aB 79) 3 1 D.gs none]) (gG [] (eZ 92 [1,3,4,5,6,7,8]) (bI aB fQ))=bT (decide ((↑j:Int)<(↑now.length:Int)))
 (.rq (0≤(↑j:Int)∧(↑j:Int)<(↑now.length:Int))
 (bT (now.getD (↑j:Int).toNat default != p.st)
 (.rq (0≤(↑j:Int)∧(↑j:Int)<(↑now.length:Int))
 (.rq (k=k)
 (.rq (1≤1)
 (.rq
 ((k+1)*8≤140737488355328∧k+1≤140737488355328∧∀(e o:Nat),e<1→o<1→iH (lM [C.p (PV.i aC (now.getD (↑j:Int).toNat default))] 1 1 (e+0) o)=true)
 (.rq (eV aC ((↑j:Int)+1))
 (.done .normal
 (bS 92 [(1,.c (.ptr 0 0)),(3,.c (.ptr 1 0)),(4,.c (.p (.i .i64 (↑i:Int)))),(5,.c (.ptr 2 0)),(6,.c (.p (.l 1 now.length (aE aS now)))),(7,.c (.sl 3 1 0 (k+1))),(8,.c (.p (.i .i64 ((↑j:Int)+1))))] [.cells 27 [.p (.l 7 M.length (aE aI M))],.cells 86 [.sl 4 7 0 D.M.length,.mp 5,.mp 6],.cells 31 [.p (.i .i64 p.kd),.p (.s p.ru),.p (.i .i64 p.ve),.p (.l 2 p.L.length (aE aN p.L)),.p (.i .i64 p.st),.p (.i .i64 p.se),.p (.s p.to)],.row 3 1 (k+1) fun e o=>bP [0,1,2,8,4,5,6] (fC k (aQ aS out) (fun e o=>bF C.top [C.p (PV.i aC (now.getD (↑j:Int).toNat default))] ((e+0)*1+o)) e o),.row 31 7 D.M.length fun e o=>bP [0,1,2,8,4,5,6] (aQ aI D.M e o),.mapb (bQ aB 81) D.gp,.mapl (bQ aB 79) 3 1 D.gs none])))))))
 (.rq (eV aC ((↑j:Int)+1))
 (.done .normal
 (bS 92 [(1,.c (.ptr 0 0)),(3,.c (.ptr 1 0)),(4,.c (.p (.i .i64 (↑i:Int)))),(5,.c (.ptr 2 0)),(6,.c (.p (.l 1 now.length (aE aS now)))),(7,.c (.sl 3 1 0 k)),(8,.c (.p (.i .i64 ((↑j:Int)+1))))] [.cells 27 [.p (.l 7 M.length (aE aI M))],.cells 86 [.sl 4 7 0 D.M.length,.mp 5,.mp 6],.cells 31 [.p (.i .i64 p.kd),.p (.s p.ru),.p (.i .i64 p.ve),.p (.l 2 p.L.length (aE aN p.L)),.p (.i .i64 p.st),.p (.i .i64 p.se),.p (.s p.to)],.row 3 1 k fun e o=>bP [0,1,2,3,4,5,6] (aQ aS out e o),.row 31 7 D.M.length fun e o=>bP [0,1,2,3,4,5,6] (aQ aI D.M e o),.mapb (bQ aB 81) D.gp,.mapl (bQ aB 79) 3 1 D.gs none])))))
 (.done (.exit 2)
 (bS 92 [(1,.c (.ptr 0 0)),(3,.c (.ptr 1 0)),(4,.c (.p (.i .i64 (↑i:Int)))),(5,.c (.ptr 2 0)),(6,.c (.p (.l 1 now.length (aE aS now)))),(7,.c (.sl 3 1 0 k)),(8,.c (.p (.i .i64 (↑j:Int))))] [.cells 27 [.p (.l 7 M.length (aE aI M))],.cells 86 [.sl 4 7 0 D.M.length,.mp 5,.mp 6],.cells 31 [.p (.i .i64 p.kd),.p (.s p.ru),.p (.i .i64 p.ve),.p (.l 2 p.L.length (aE aN p.L)),.p (.i .i64 p.st),.p (.i .i64 p.se),.p (.s p.to)],.row 3 1 k fun e o=>bP [0,1,2,3,4,5,6] (aQ aS out e o),.row 31 7 D.M.length fun e o=>bP [0,1,2,3,4,5,6] (aQ aI D.M e o),.mapb (bQ aB 81) D.gp,.mapl (bQ aB 79) 3 1 D.gs none])):=by kernel_rfl
theorem tR7(D:Ld)(M:List Pg)(p:Pg)(out:List Int)(i k:Nat):dC eW (dH 2 (bJ 7 (eX (inr (bF .skip (gR (cW aB fQ) 5) 2))))) (bS 92 [(1,.c (.ptr 0 0)),(3,.c (.ptr 1 0)),(4,iV (i:Nat)),(5,.c (.ptr 2 0)),(7,.c (.sl 3 1 0 k))] [.cells 27 [.p (bY aI 7 M)],.cells 86 [.sl 4 7 0 D.M.length,.mp 5,.mp 6],.cells 31 [.p (.i .i64 p.kd),.p (.s p.ru),.p (.i .i64 p.ve),.p (bY aN 2 p.L),.p (.i .i64 p.st),.p (.i .i64 p.se),.p (.s p.to)],.row 3 1 k (aQ aS out),.row 31 7 D.M.length (aQ aI D.M),.mapb (bQ aB 81) D.gp,.mapl (bQ aB 79) 3 1 D.gs none]) (gG [] (eZ 92 [1,3,4,5,7]) (bI aB fQ))=bT (p.kd==2)
 (.rq (k=k)
 (.rq (1≤1)
 (.rq ((k+1)*8≤140737488355328∧k+1≤140737488355328∧∀(e o:Nat),e<1→o<1→iH (lM [C.p (PV.i aC p.st)] 1 1 (e+0) o)=true)
 (.done .normal
 (bS 92 [(1,.c (.ptr 0 0)),(3,.c (.ptr 1 0)),(4,.c (.p (.i .i64 (↑i:Int)))),(5,.c (.ptr 2 0)),(7,.c (.sl 3 1 0 (k+1)))] [.cells 27 [.p (.l 7 M.length (aE aI M))],.cells 86 [.sl 4 7 0 D.M.length,.mp 5,.mp 6],.cells 31 [.p (.i .i64 p.kd),.p (.s p.ru),.p (.i .i64 p.ve),.p (.l 2 p.L.length (aE aN p.L)),.p (.i .i64 p.st),.p (.i .i64 p.se),.p (.s p.to)],.row 3 1 (k+1) fun e o=>bP [0,1,2,8,4,5,6] (fC k (aQ aS out) (fun e o=>bF C.top [C.p (PV.i aC p.st)] ((e+0)*1+o)) e o),.row 31 7 D.M.length fun e o=>bP [0,1,2,8,4,5,6] (aQ aI D.M e o),.mapb (bQ aB 81) D.gp,.mapl (bQ aB 79) 3 1 D.gs none])))))
 (.done .normal
 (bS 92 [(1,.c (.ptr 0 0)),(3,.c (.ptr 1 0)),(4,.c (.p (.i .i64 (↑i:Int)))),(5,.c (.ptr 2 0)),(7,.c (.sl 3 1 0 k))] [.cells 27 [.p (.l 7 M.length (aE aI M))],.cells 86 [.sl 4 7 0 D.M.length,.mp 5,.mp 6],.cells 31 [.p (.i .i64 p.kd),.p (.s p.ru),.p (.i .i64 p.ve),.p (.l 2 p.L.length (aE aN p.L)),.p (.i .i64 p.st),.p (.i .i64 p.se),.p (.s p.to)],.row 3 1 k fun e o=>bP [0,1,2,3,4,5,6] (aQ aS out e o),.row 31 7 D.M.length fun e o=>bP [0,1,2,3,4,5,6] (aQ aI D.M e o),.mapb (bQ aB 81) D.gp,.mapl (bQ aB 79) 3 1 D.gs none])):=by kernel_rfl
theorem tR8(D D':Ld)(M N N' out:List Pg)(p:Pg)(T:List Int)(i:Nat):dC (aKE D D' N p T N' out) (dH 1 (bJ 2 (bJ 7 (eX (inr (bF .skip (gR (cW aB fQ) 5) 2)))))) (bS 92 [(1,.c (.ptr 5 0)),(3,.c (.ptr 0 0)),(4,iV (i:Nat)),(5,.c (.ptr 4 0)),(7,aU aS 1 T)] (lN D [.cells 31 [.p (.i .i64 p.kd),.p (.s p.ru),.p (.i .i64 p.ve),.p (bY aN 2 p.L),.p (.i .i64 p.st),.p (.i .i64 p.se),.p (.s p.to)],.cells 27 [.p (bY aI 7 M)]])) (gG [] (eZ 92 [1,3,4,5,9]) (bI aB fQ))=Tr.rq
 (((((kA aN 2 (bO cT p.L.length (aE aN p.L)) p.L.length (aE aN p.L)∧bO cT p.L.length (aE aN p.L)=p.L) ∧
 D.M.length=D.M.length ∧
 D.M.length=D.M.length ∧
 (∀(e o:Nat),e<D.M.length→o<7→aQ aI D.M e o=aQ aI D.M e o)∧bQ aB 81=bQ aB 81∧D.gp=D.gp∧bQ aB 79=bQ aB 79∧D.gs=D.gs) ∧
 kA aS 1 T T.length (aE aS T)) ∧
 p.ru=p.ru∧p.ve=p.ve∧p.se=p.se) ∧
 (AC N∧eV aC p.ve∧T.length≤50000)∧vN N p T=(N',out)∧D=dQ N∧D'=dQ N')
 (.done .normal
 (bS 92 [(1,.c (.ptr 0 0)),(3,.c (.ptr 1 0)),(4,.c (.p (.i .i64 (↑i:Int)))),(5,.c (.ptr 2 0)),(9,.c (.p (.l 7 out.length (aE aI out))))] [.cells 27 [.p (.l 7 M.length (aE aI M))],.cells 86 [.sl 3 7 0 D'.M.length,.mp 4,.mp 5],.cells 31 [.p (.i .i64 p.kd),.p (.s p.ru),.p (.i .i64 p.ve),.p (.l 2 p.L.length (aE aN p.L)),.p (.i .i64 p.st),.p (.i .i64 p.se),.p (.s p.to)],.row 31 7 D'.M.length fun e o=>bP [5,0,4,8,9,10] (C.p (aE aI D'.M e o)),.mapb (bQ aB 81) D'.gp,.mapl (bQ aB 79) 3 1 D'.gs none])):=by kernel_rfl
theorem tR9(D:Ld)(M out:List Pg)(p:Pg)(i:Nat):dC eW (bJ 1 (bJ 2 (bJ 7 (eX (inr (bF .skip (gR (cW aB fQ) 5) 2)))))) (bS 92 [(1,.c (.ptr 5 0)),(3,.c (.ptr 0 0)),(4,iV (i:Nat)),(5,.c (.ptr 4 0)),(9,aU aI 7 out)] (lN D [.cells 31 [.p (.i .i64 p.kd),.p (.s p.ru),.p (.i .i64 p.ve),.p (bY aN 2 p.L),.p (.i .i64 p.st),.p (.i .i64 p.se),.p (.s p.to)],.cells 27 [.p (bY aI 7 M)]])) (gG [] (eZ 92 [1,3,4]) (bI aB fQ))=bT ((↑out.length:Int) != 1) (.done .ret (St.mk [V.c (C.p (PV.z (Value.pointer none)))] []))
 (.rq (dI 0≤dI 0∧0<(↑out.length:Int))
 (bT ((out.getD 0 default).kd != p.kd) (.done .ret (St.mk [V.c (C.p (PV.z (Value.pointer none)))] []))
 (.done .normal
 (bS 92 [(1,.c (.ptr 0 0)),(3,.c (.ptr 1 0)),(4,.c (.p (.i .i64 (↑i:Int))))] [.cells 27 [.p (.l 7 M.length (aE aI M))],.cells 86 [.sl 2 7 0 D.M.length,.mp 3,.mp 4],.row 31 7 D.M.length fun e o=>bP [5,0,1,2,3] (aQ aI D.M e o),.mapb (bQ aB 81) D.gp,.mapl (bQ aB 79) 3 1 D.gs none])))):=by kernel_rfl
theorem aQI(D:Ld)(M:List Pg)(i:Nat):dC eW (bJ 3 (gR (cW aB fQ) 5)) (bS 92 [(1,.c (.ptr 4 0)),(3,.c (.ptr 0 0)),(4,iV (i:Nat))] (lN D [.cells 27 [.p (bY aI 7 M)]])) (gG [] (eZ 92 [1,3,4]) (bI aB fQ))=Tr.rq (eV aC ((↑i:Int)+1))
 (.done .normal
 (bS 92 [(1,.c (.ptr 0 0)),(3,.c (.ptr 1 0)),(4,.c (.p (.i .i64 ((↑i:Int)+1))))] [.cells 27 [.p (.l 7 M.length (aE aI M))],.cells 86 [.sl 2 7 0 D.M.length,.mp 3,.mp 4],.row 31 7 D.M.length fun e o=>bP [4,0,1,2,3] (aQ aI D.M e o),.mapb (bQ aB 81) D.gp,.mapl (bQ aB 79) 3 1 D.gs none])):=by kernel_rfl
theorem aQH(D:Ld):dC eW (bJ 6 (cW aB fQ)) (bS 92 [(3,.c (.ptr 0 0))] (lN D [])) (gG [] [] (bI aB fQ))=Tr.done X.ret
 (St.mk [V.c (C.ptr 0 0)] [AO.cells 86 [C.sl 1 7 0 D.M.length,C.mp 2,C.mp 3],AO.row 31 7 D.M.length fun e o=>bP [0,1,2,3] (aQ aI D.M e o),AO.mapb (bQ aB 81) D.gp,AO.mapl (bQ aB 79) 3 1 D.gs none]):=by kernel_rfl
def CJ(N:List Pg)(p:Pg):Prop:=JE p∧((p.kd=0∧sU N p = -1)∨(p.kd=1∧p.to=⟨#[]⟩∧(pN N p.ru p.ve p.L p.st).getD false=true)∨(p.kd=2∧p.to=⟨#[]⟩∧(pN N p.ru p.ve p.L p.st).getD false=false))
theorem yG{M:List Pg}{p:Pg}{i:Nat}(h:i<M.length):(M++[p]).getD i default=M.getD i default∧(M++[p]).take i=M.take i:=by
 refine⟨?_,?_⟩
 ·rw[aD,aD,List.getElem?_append_left h]
 ·rw[List.take_append_of_le_length (by omega)]
theorem yH{M:List Pg}{p:Pg}:(M++[p]).getD M.length default=p∧(M++[p]).take M.length=M:=by simp
theorem sE{M:List Pg}{p:Pg}(ih:∀i,i<M.length→CJ (M.take i) (M.getD i default))(hp:CJ M p):∀i,i<(M++[p]).length→CJ ((M++[p]).take i) ((M++[p]).getD i default):=fun i hi=>by
 rw[aV]at hi
 rcases Nat.lt_or_ge i M.length with h|h
 ·rw[(yG h).1,(yG h).2];exact ih i h
 ·obtain rfl:i=M.length:=by simp at hi;omega
  rw[yH.1,yH.2];exact hp
theorem wT.step{M:List Pg}(h:wT M):∀i,i<M.length→CJ (M.take i) (M.getD i default):=by
 induction h with
 |nil=>intro i hi;exact absurd hi (jA _)
 |fire _ h1 h2 h3 ih=>exact sE ih ⟨h1,.inl ⟨h2,h3⟩⟩
 |undo _ h1 h2 h3 h4 ih=>exact sE ih ⟨h1,.inr (.inl ⟨h3,h2,h4⟩)⟩
 |late _ h1 h2 h3 h4 ih=>exact sE ih ⟨h1,.inr (.inr ⟨h3,h2,h4⟩)⟩
theorem aI4{N:List Pg}{p:Pg}(h1:hJ p=true)(h2:p.kd=0)(h3:sU N p = -1):vL N p=(N++[p],0):=by
 unfold vL;rw[if_neg (fun h=>h.elim (fun h=>by rw[h1]at h;cases h) (fun h=>h h2)),h3,if_neg (by omega),if_neg (by omega)]
def QM(now:List Int)(p:Pg):List Int:=now.filter (fun t=>t != p.st)++(if p.kd=2 then [p.st] else [])
theorem aII{N:List Pg}(hN:∀q∈N,JE q){p:Pg}(hp:JE p)(hto:p.to=⟨#[]⟩)(hk:(p.kd=1∧(pN N p.ru p.ve p.L p.st).getD false=true)∨(p.kd=2∧(pN N p.ru p.ve p.L p.st).getD false=false)):vN N p (QM (fX N p) p)=(N++[p],[p]):=by
 obtain⟨k1,k2,k3,k4,k5,k6⟩:=iM.1 hp.1
 have hkd:∀q∈N,q.kd=0∨q.kd=1∨q.kd=2:=fun q hq=>(hN q hq).2.2
 have hq:hJ ⟨0,p.ru,p.ve,p.L,0,p.se,⟨#[]⟩⟩=true:=iM.2 ⟨k1,k2,k3,rfl,k5,bW _⟩
 have hW:=nV hkd p
 have hWt:∀t∈fX N p,gQ t=true:=fun t ht=>by
  rw[hW]at ht;cases hpd:pN N p.ru p.ve p.L t with
  |none=>rw[hpd]at ht;cases ht
  |some b=>
   unfold pN at hpd;rw[Option.map_eq_some_iff]at hpd;obtain⟨q,hq,_⟩:=hpd
   have hs:=List.find?_some hq
   have e:q.st=t:=(nQ.1 hs).2.2.2
   have hm:q∈N:=List.mem_reverse.1 (List.mem_of_find?_eq_some hq)
   have:=(iM.1 (hN q hm).1).2.2.2.1
   rw[e]at this;exact this
 generalize hWe:fX N p=W at hW hWt ⊢
 have hT:∀t,t∈QM W p↔(t∈W∧t≠p.st)∨(t=p.st∧p.kd=2):=fun t=>by
  unfold QM;rw[dF,List.mem_filter,bne_iff_ne]
  by_cases h:p.kd=2
  ·rw[if_pos h,eN];simp[h]
  ·rw[if_neg h];simp[h]
 have hTt:(QM W p).all gQ=true:=List.all_eq_true.2 fun t ht=>by
  rcases (hT t).1 ht with h|h
  ·exact hWt t h.1
  ·rw[h.1];exact k4
 have hin:p.st∈W↔p.kd=1:=by
  rw[hW]
  rcases hk with⟨h1,h2⟩|⟨h1,h2⟩
  ·simp[h1,h2]
  ·simp[h1,h2]
 have hf:(mJ (W++QM W p)).filter (fun t=>decide (t∈W) != decide (t∈QM W p))=[p.st]:=by
  refine pX ((qD _).sublist List.filter_sublist) (List.pairwise_singleton _ _) fun t=>?_
  have hm:t∈mJ (W++QM W p)↔t∈W++QM W p:=oJ _ t
  rw[List.mem_filter,hm,dF,eN,bne_iff_ne,ne_eq,decide_eq_decide,hT]
  by_cases e:t=p.st
  ·subst e
   rw[hin]
   rcases hk with⟨h1,_⟩|⟨h1,_⟩
   ·simp[h1]
   ·simp[h1]
  ·simp[e]
 have hO:yV W (QM W p) p (mJ (W++QM W p))=[p]:=by
  unfold yV;rw[hf,List.map_singleton];congr 1;obtain⟨kd,ru,ve,L,st,se,to⟩:=p
  have hto:to=⟨#[]⟩:=hto
  subst hto;unfold pD
  have hd:decide (st∈QM W ⟨kd,ru,ve,L,st,se,⟨#[]⟩⟩)=decide (kd=2):=by
   rw[decide_eq_decide,hT];simp
  dsimp only;rw[hd]
  rcases hk with⟨h1,_⟩|⟨h1,_⟩
  ·have h1:kd=1:=h1
   subst h1;rfl
  ·have h1:kd=2:=h1
   subst h1;rfl
 unfold vN;rw[hq,hTt,hWe,hO];rfl
theorem aAU(now:List Int)(p:Pg)(j:Nat)(hj:j<now.length):(now.take (j+1)).filter (fun t=>t != p.st)=(now.take j).filter (fun t=>t != p.st)++(match now.getD j default != p.st with
  |true=>[now.getD j default]
  |false=>[]):=by
 rw[sR hj,List.filter_append,List.filter_cons];cases now.getD j default != p.st<;>rfl
noncomputable def VF(M:List Pg)(D:Ld):jU
 |[x],h=>match leL x M with
  |some p=>some (p∧(wT M∧M.length≤50000)∧D=dQ M,.c (.ptr (fF h) 0),iL [] [] [] h (lN D []))
  |none=>none
 |_,_=>none
section
variable {G:Nat→Option Obj}
theorem OM:bH aB G aJQ:=dZ (by simp;exact aBR)
theorem OY(D D':Ld)(M:List Pg)(p:Pg)(M':List Pg)(e:Int):bH aB G (aK0 D D' M p M' e):=dZ (by simp;exact aGX D D' M p M' e)
theorem NT(D:Ld)(M:List Pg)(p:Pg)(out:List Int):bH aB G (aJA D M p out):=dZ (by simp;exact aBK D M p out)
theorem PN(D D':Ld)(M:List Pg)(p:Pg)(T:List Int)(M' out:List Pg):bH aB G (aKE D D' M p T M' out):=dZ (by simp;exact aC0 D D' M p T M' out)
set_option maxRecDepth 100000 in
set_option maxHeartbeats 1000000 in
theorem aAX(M:List Pg)(hL:wT M)(hl:M.length≤50000)(h:List AO)(Q:X→St→Prop):eL aB G (Zm [] (bI aB fQ) fun s=>cQ G s ⟨[]++[.c (.ptr 0 0)],lN (dQ M) []⟩) (cW aB fQ) (jJ fQ [] [] [] [.a [.p (bY aI 7 M)]] h) Q:=by
 have hok:=hL.ok
 have hst:=hL.step
 refine eL.evG OM 5 (tR1 M h) ?_;simp only[bB,aL,cF];refine⟨trivial,⟨?_⟩⟩
 refine eL.loop' (l:=bJ 5 (cW aB fQ)) (b:=inr (inr (bF .skip (cW aB fQ) 5))) (r:=bJ 6 (cW aB fQ)) (id:=0) (by kernel_rfl) (σ:=Nat)
   (fun i=>(fun D=>bS 92 [(1,.c (.ptr 4 0)),(3,.c (.ptr 0 0)),(4,iV (i:Nat))] (lN D [.cells 27 [.p (bY aI 7 M)]])) (dQ (M.take i))) (fun i=>i≤M.length) (fun i=>M.length-i) 0 (bW _) ((gU [1,2,3,4,0] (eZ 92 [1,3,4]) (by kernel_rfl) _).trans (aJ (by kernel_rfl))) ?_
 intro i hi Q1 q1n q1e _
 have hN:AC (M.take i):=⟨fun q hq=>hok q (List.mem_of_mem_take hq),by rw[cU];omega⟩
 have hDM:=lP (M.take i)
 have hsn:i<M.length→dQ (M.take (i+1))=gF (dQ (M.take i)) (M.getD i default)∧M.take (i+1)=M.take i++[M.getD i default]:=fun hlt=>by
  have e:M.take (i+1)=M.take i++[M.getD i default]:=by
   rw[List.take_add_one,aD,aM hlt];rfl
  exact⟨by rw[e,zC],e⟩
 refine eL.evG aX 2 (tR2 (dQ (M.take i)) M i) ?_;simp only[bZ,aL,cF,mC,decide_eq_true_eq,decide_eq_false_iff_not];refine⟨fun h1=>⟨?_⟩,fun h1=>⟨q1e _ ?_⟩⟩
 ·have hlt:i<M.length:=by omega
  obtain⟨e1,e2⟩:=hsn hlt;obtain⟨hp,hc⟩:=hst i hlt
  have after:eL aB G (Zm [] (bI aB fQ) fun s=>cQ G s ⟨[]++[.c (.ptr 0 0)],lN (dQ M) []⟩) (bJ 3 (gR (cW aB fQ) 5)) ((fun D=>bS 92 [(1,.c (.ptr 4 0)),(3,.c (.ptr 0 0)),(4,iV (i:Nat))] (lN D [.cells 27 [.p (bY aI 7 M)]])) (dQ (M.take (i+1)))) Q1:=by
   refine eL.evH (keep:=eZ 92 [1,3,4]) aX (aQI (dQ (M.take (i+1))) M i) ?_;simp only[bB,aL,cF,eV]
   exact⟨by omega,⟨q1n (i+1) _ (by omega) (by omega) ((gU [1,2,3,4,0] (eZ 92 [1,3,4]) (by kernel_rfl) _).trans (aJ (by kernel_rfl)))⟩⟩
  refine eL.blk' (l:=bJ 2 (gR (cW aB fQ) 5)) (id:=1) (a:=inr (bF .skip (gR (cW aB fQ) 5) 2)) (r:=bJ 3 (gR (cW aB fQ) 5)) (by kernel_rfl) ?_
  intro Q2 q2n q2e _
  refine eL.pre ((gU [1,2,3,4,0] (eZ 92 [1,3,4]) (by kernel_rfl) _).trans (aJ (st':=(fun D=>bS 92 [(1,.c (.ptr 4 0)),(3,.c (.ptr 0 0)),(4,iV (i:Nat))] (lN D [.cells 27 [.p (bY aI 7 M)]])) (dQ (M.take i))) (by kernel_rfl))) (eL.evG aX 2 (tR3 (dQ (M.take i)) M i) ?_)
  simp only[bB,aL,cF,show (↑i:Int).toNat=i from rfl];refine⟨by omega,⟨?_⟩⟩
  generalize M.getD i default=p at e1 e2 hp hc ⊢
  generalize hNN:M.take i=N at hN hDM e1 e2 hc ⊢
  refine eL.cond (l:=bJ 2 (eX (inr (bF .skip (gR (cW aB fQ) 5) 2)))) (k:=27) (a:=aI8 (bF .skip (eX (inr (bF .skip (gR (cW aB fQ) 5) 2))) 2)) (b:=aMY (bF .skip (eX (inr (bF .skip (gR (cW aB fQ) 5) 2))) 2)) (r:=bJ 3 (eX (inr (bF .skip (gR (cW aB fQ) 5) 2)))) (x:=p.kd==0) (by kernel_rfl) (by kernel_rfl) ?_ ?_
  ·intro c Q' qn qe
   have c:p.kd=0:=by simpa using c
   have hz:sU N p = -1:=by
    rcases hc with h|h|h
    ·exact h.2
    ·omega
    ·omega
   refine eL.pre ((gU [1,3,4,5,2,0] (eZ 92 [1,3,4,5]) (by kernel_rfl) _).trans (aJ (st':=(fun D=>bS 92 [(1,.c (.ptr 5 0)),(3,.c (.ptr 0 0)),(4,iV (i:Nat)),(5,.c (.ptr 4 0))] (lN D [.cells 31 [.p (.i .i64 p.kd),.p (.s p.ru),.p (.i .i64 p.ve),.p (bY aN 2 p.L),.p (.i .i64 p.st),.p (.i .i64 p.se),.p (.s p.to)],.cells 27 [.p (bY aI 7 M)]])) (dQ N)) (by kernel_rfl))) (eL.evH (keep:=eZ 92 [1,3,4]) (OY (dQ N) (dQ (M.take (i+1))) N p (M.take (i+1)) 0) (tR4 (dQ N) (dQ (M.take (i+1))) M N (M.take (i+1)) p i 0) ?_)
   simp only[bZ,bB,aL,cF,jP,mC,gK]
   refine⟨⟨⟨⟨dJ _ _ _,trivial⟩,trivial,trivial,fun _ _ _ _=>trivial,trivial,trivial,trivial,trivial⟩,⟨hN,hp.2.1⟩,by rw[e2];exact aI4 hp.1 c hz,trivial,trivial⟩,fun h2=>absurd h2 (by decide),fun _=>⟨qe _ _ (q2e _ (eL.pre ((gU [1,2,3,4,0] (eZ 92 [1,3,4]) (by kernel_rfl) _).trans (aJ (by kernel_rfl))) after))⟩⟩
  ·intro c Q' qn qe
   have c:p.kd≠0:=by simpa using c
   have hk:(p.kd=1∧(pN N p.ru p.ve p.L p.st).getD false=true)∨(p.kd=2∧(pN N p.ru p.ve p.L p.st).getD false=false):=by
    rcases hc with h|h|h
    ·exact absurd h.1 c
    ·exact .inl ⟨h.1,h.2.2⟩
    ·exact .inr ⟨h.1,h.2.2⟩
   have hto:p.to=⟨#[]⟩:=by
    rcases hc with h|h|h
    ·exact absurd h.1 c
    ·exact h.2.1
    ·exact h.2.1
   have hone:=aII hN.1 hp hto hk
   refine eL.pre (fG (eZ 92 [1,3,4,5]) _) (eL.evH (keep:=eZ 92 [1,3,4,5]) aX (tree:=.done .normal ((fun D=>bS 92 [(1,.c (.ptr 0 0)),(3,.c (.ptr 1 0)),(4,iV (i:Nat)),(5,.c (.ptr 2 0))] [.cells 27 [.p (bY aI 7 M)],.cells 86 [.sl 3 7 0 D.M.length,.mp 4,.mp 5],.cells 31 [.p (.i .i64 p.kd),.p (.s p.ru),.p (.i .i64 p.ve),.p (bY aN 2 p.L),.p (.i .i64 p.st),.p (.i .i64 p.se),.p (.s p.to)],.row 31 7 D.M.length (aQ aI D.M),.mapb (bQ aB 81) D.gp,.mapl (bQ aB 79) 3 1 D.gs none]) (dQ N))) (by kernel_rfl) ?_)
   refine qn _ ?_
   refine eL.pre ((gU [1,3,4,5,2,0] (eZ 92 [1,3,4,5]) (by kernel_rfl) _).trans (aJ (st':=(fun D=>bS 92 [(1,.c (.ptr 5 0)),(3,.c (.ptr 0 0)),(4,iV (i:Nat)),(5,.c (.ptr 4 0))] (lN D [.cells 31 [.p (.i .i64 p.kd),.p (.s p.ru),.p (.i .i64 p.ve),.p (bY aN 2 p.L),.p (.i .i64 p.st),.p (.i .i64 p.se),.p (.s p.to)],.cells 27 [.p (bY aI 7 M)]])) (dQ N)) (by kernel_rfl))) (eL.evG (NT (dQ N) N p (fX N p)) 3 (tR5 (dQ N) M N p (fX N p) i) ?_)
   simp only[bB,aL,cF,gK];refine⟨⟨⟨⟨⟨dJ _ _ _,trivial⟩,trivial,trivial,fun _ _ _ _=>trivial,trivial,trivial,trivial,trivial⟩,trivial,trivial⟩,⟨hN,hp.2.1⟩,trivial,trivial⟩,⟨?_⟩⟩
   have hnl:=wD N p
   have hNl:N.length≤49999:=by rw[←hNN,cU];omega
   have hrl:(QM (fX N p) p).length≤(fX N p).length+1:=by
    unfold QM;rw[aV]
    have:=List.length_filter_le (fun t=>t != p.st) (fX N p)
    split<;>simp<;>omega
   have hrt:QM (fX N p) p=(fX N p).filter (fun t=>t != p.st)++(if p.kd=2 then [p.st] else []):=rfl
   generalize fX N p=now at hone hnl hrl hrt ⊢
   refine eL.loop' (l:=bJ 3 (bJ 3 (eX (inr (bF .skip (gR (cW aB fQ) 5) 2))))) (b:=inr (inr (bF .skip (eX (inr (bF .skip (gR (cW aB fQ) 5) 2))) 6))) (r:=bJ 7 (eX (inr (bF .skip (gR (cW aB fQ) 5) 2)))) (id:=2) (by kernel_rfl) (σ:=Nat)
     (fun j=>(fun D out k=>bS 92 [(1,.c (.ptr 0 0)),(3,.c (.ptr 1 0)),(4,iV (i:Nat)),(5,.c (.ptr 2 0)),(6,aU aS 1 now),(7,.c (.sl 3 1 0 k)),(8,iV (j:Nat))] [.cells 27 [.p (bY aI 7 M)],.cells 86 [.sl 4 7 0 D.M.length,.mp 5,.mp 6],.cells 31 [.p (.i .i64 p.kd),.p (.s p.ru),.p (.i .i64 p.ve),.p (bY aN 2 p.L),.p (.i .i64 p.st),.p (.i .i64 p.se),.p (.s p.to)],.row 3 1 k (aQ aS out),.row 31 7 D.M.length (aQ aI D.M),.mapb (bQ aB 81) D.gp,.mapl (bQ aB 79) 3 1 D.gs none]) (dQ N) ((now.take j).filter (fun t=>t != p.st)) ((now.take j).filter (fun t=>t != p.st)).length) (fun j=>j≤now.length) (fun j=>now.length-j) 0 (bW _) ((lT 3 1 (aQ aS []) 7 (by kernel_rfl)).trans ((fG (eZ 92 [1,3,4,5,6,7,8]) _).trans (aJ (by kernel_rfl)))) ?_
   intro j hj Q3 q3n q3e _
   have hol:((now.take j).filter (fun t=>t != p.st)).length≤j:=by
    have:=List.length_filter_le (fun t=>t != p.st) (now.take j)
    rw[cU]at this;omega
   have hsn3:=aAU now p j
   generalize hO:(now.take j).filter (fun t=>t != p.st)=out at hol hsn3 ⊢
   refine eL.evH (keep:=eZ 92 [1,3,4,5,6,7,8]) aX (tR6 (dQ N) M p now out i j out.length) ?_;simp only[bZ,bB,aL,cF,mC,decide_eq_true_eq,decide_eq_false_iff_not,eV,show (↑j:Int).toNat=j from rfl];refine⟨fun h2=>?_,fun h2=>⟨q3e _ ?_⟩⟩
   ·have hlj:j<now.length:=by omega
    have hsn3:=hsn3 hlj
    refine⟨by omega,fun h3=>⟨by omega,trivial,aW _,⟨by omega,by omega,fun e o he ho=>?_⟩,by omega,⟨q3n (j+1) _ (by omega) (by omega) ?_⟩⟩,fun h3=>⟨by omega,⟨q3n (j+1) _ (by omega) (by omega) ?_⟩⟩⟩
    ·obtain rfl:e=0:=by omega
     obtain rfl:o=0:=by omega
     rfl
    ·rw[h3]at hsn3
     have hsn3:_=out++[now.getD j default]:=hsn3
     have hlx:out.length+1=((now.take (j+1)).filter (fun t=>t != p.st)).length:=by rw[hsn3];simp
     rw[hlx];refine iG ⟨rfl,rfl,rfl,⟨rfl,rfl,rfl,fun e o he ho=>?_⟩,⟨rfl,rfl,rfl,fun e o he ho=>rfl⟩,rfl,rfl,trivial⟩
     show _=aQ aS ((now.take (j+1)).filter (fun t=>t != p.st)) e o
     rw[hsn3];refine oT (ρ:=[0,1,2,8,4,5,6]) rfl (yD _) ?_ ho
     have he:e<((now.take (j+1)).filter (fun t=>t != p.st)).length:=he
     rw[hsn3]at he;simpa using he
    ·rw[h3]at hsn3
     have hsn3:_=out++[]:=hsn3
     rw[fP]at hsn3;rw[hsn3]
     exact aJ (by kernel_rfl)
   obtain rfl:j=now.length:=by omega
   rw[fS]at hO;rw[hO]at hrt
   refine eL.pre ((fG (eZ 92 [1,3,4,5,7]) _).trans (aJ (st':=(fun D k=>bS 92 [(1,.c (.ptr 0 0)),(3,.c (.ptr 1 0)),(4,iV (i:Nat)),(5,.c (.ptr 2 0)),(7,.c (.sl 3 1 0 k))] [.cells 27 [.p (bY aI 7 M)],.cells 86 [.sl 4 7 0 D.M.length,.mp 5,.mp 6],.cells 31 [.p (.i .i64 p.kd),.p (.s p.ru),.p (.i .i64 p.ve),.p (bY aN 2 p.L),.p (.i .i64 p.st),.p (.i .i64 p.se),.p (.s p.to)],.row 3 1 k (aQ aS out),.row 31 7 D.M.length (aQ aI D.M),.mapb (bQ aB 81) D.gp,.mapl (bQ aB 79) 3 1 D.gs none]) (dQ N) out.length) (by kernel_rfl))) ?_
   show eL _ _ _ (bJ 7 (eX (inr (bF .skip (gR (cW aB fQ) 5) 2)))) _ _
   refine eL.evG aX 2 (tR7 (dQ N) M p out i out.length) ?_;simp only[bZ,bB,aL,cF,beq_iff_eq,beq_eq_false_iff_ne]
   have fin:∀T,QM now p=T→eL aB G (Zm [] (bI aB fQ) fun s=>cQ G s ⟨[]++[.c (.ptr 0 0)],lN (dQ M) []⟩) (bJ 2 (bJ 7 (eX (inr (bF .skip (gR (cW aB fQ) 5) 2))))) ((fun D out k=>bS 92 [(1,.c (.ptr 0 0)),(3,.c (.ptr 1 0)),(4,iV (i:Nat)),(5,.c (.ptr 2 0)),(7,.c (.sl 3 1 0 k))] [.cells 27 [.p (bY aI 7 M)],.cells 86 [.sl 4 7 0 D.M.length,.mp 5,.mp 6],.cells 31 [.p (.i .i64 p.kd),.p (.s p.ru),.p (.i .i64 p.ve),.p (bY aN 2 p.L),.p (.i .i64 p.st),.p (.i .i64 p.se),.p (.s p.to)],.row 3 1 k (aQ aS out),.row 31 7 D.M.length (aQ aI D.M),.mapb (bQ aB 81) D.gp,.mapl (bQ aB 79) 3 1 D.gs none]) (dQ N) T T.length) Q2:=fun T hT=>by
    rw[hT]at hone hrl
    refine eL.pre ((kZ (j:=7) (id:=3) (ty:=3) (sz:=1) (n:=T.length) (off:=0) (len:=T.length) (f:=aQ aS T) (by kernel_rfl) (by kernel_rfl) (by omega) (fun _ _ _ _=>rfl)).trans ((gU [1,4,5,6,2,0] (eZ 92 [1,3,4,5,7]) (by kernel_rfl) _).trans (aJ (st':=(fun D=>bS 92 [(1,.c (.ptr 5 0)),(3,.c (.ptr 0 0)),(4,iV (i:Nat)),(5,.c (.ptr 4 0)),(7,aU aS 1 T)] (lN D [.cells 31 [.p (.i .i64 p.kd),.p (.s p.ru),.p (.i .i64 p.ve),.p (bY aN 2 p.L),.p (.i .i64 p.st),.p (.i .i64 p.se),.p (.s p.to)],.cells 27 [.p (bY aI 7 M)]])) (dQ N)) (by kernel_rfl)))) ?_
    refine eL.evG (PN (dQ N) (dQ (M.take (i+1))) N p T (M.take (i+1)) [p]) 1 (tR8 (dQ N) (dQ (M.take (i+1))) M N (M.take (i+1)) [p] p T i) ?_;simp only[bB,aL,cF,gK];refine⟨⟨⟨⟨⟨⟨dJ _ _ _,trivial⟩,trivial,trivial,fun _ _ _ _=>trivial,trivial,trivial,trivial,trivial⟩,dJ _ _ _⟩,trivial,trivial,trivial⟩,⟨hN,hp.2.1,by omega⟩,by rw[e2];exact hone,trivial,trivial⟩,⟨?_⟩⟩
    refine eL.pre ((gU [1,3,4,5,2,0] (eZ 92 [1,3,4,5,9]) (by kernel_rfl) _).trans (aJ (st':=(fun D out=>bS 92 [(1,.c (.ptr 5 0)),(3,.c (.ptr 0 0)),(4,iV (i:Nat)),(5,.c (.ptr 4 0)),(9,aU aI 7 out)] (lN D [.cells 31 [.p (.i .i64 p.kd),.p (.s p.ru),.p (.i .i64 p.ve),.p (bY aN 2 p.L),.p (.i .i64 p.st),.p (.i .i64 p.se),.p (.s p.to)],.cells 27 [.p (bY aI 7 M)]])) (dQ (M.take (i+1))) [p]) (by kernel_rfl))) (eL.evH (keep:=eZ 92 [1,3,4]) aX (tR9 (dQ (M.take (i+1))) M [p] p i) ?_)
    simp only[bZ,bB,aL,cF,jP,bne_iff_ne,bne_eq_false_iff_eq,ne_eq]
    refine⟨fun h=>absurd rfl h,fun _=>⟨⟨by decide,by simp⟩,fun h=>absurd rfl h,fun _=>⟨q2n _ (eL.pre ((gU [1,2,3,4,0] (eZ 92 [1,3,4]) (by kernel_rfl) _).trans (aJ (by kernel_rfl))) after)⟩⟩⟩
   refine⟨fun h3=>⟨trivial,aW _,⟨by omega,by omega,fun e o he ho=>?_⟩,⟨eL.pre ?_ (fin (out++[p.st]) (by rw[hrt,if_pos h3]))⟩⟩,fun h3=>⟨eL.pre (aJ (by kernel_rfl)) (fin out (by rw[hrt,if_neg h3,fP]))⟩⟩
   ·obtain rfl:e=0:=by omega
    obtain rfl:o=0:=by omega
    rfl
   ·have hlx:out.length+1=(out++[p.st]).length:=by simp
    rw[hlx];refine iG ⟨rfl,rfl,rfl,⟨rfl,rfl,rfl,fun e o he ho=>?_⟩,⟨rfl,rfl,rfl,fun e o he ho=>rfl⟩,rfl,rfl,trivial⟩;exact oT (ρ:=[0,1,2,8,4,5,6]) rfl (yD _) (by simpa using he) ho
 ·obtain rfl:i=M.length:=by omega
  rw[fS]
  refine eL.pre ((fG (eZ 92 [3]) _).trans (aJ (by kernel_rfl))) (eL.evH (keep:=[]) aX (aQH (dQ M)) ?_)
  simp only[aL,jP]
  exact⟨aJ (by kernel_rfl)⟩
set_option maxRecDepth 100000 in
theorem aBP(M:List Pg)(D:Ld):fZ aB G 11 (VF M D):=by
 intro args h p v h' hm hp;unfold VF at hm
 split at hm;rotate_left;· cases hm
 split at hm;rotate_left;· cases hm
 rename_i x _ q hx;obtain⟨rfl,rfl,rfl⟩:=gH hm;obtain⟨hq,⟨hL,hl⟩,rfl⟩:=hp;refine jN.args (args':=[BL M]) ?_ (.cons (wL hx hq) .nil)
 refine fun β R w us ha hh=>(sI (ρ:=[]) (ids:=[]) (ps:=[]) (pns:=[]) (js:=[]) (sl:=[]) (vs:=[.c (.ptr 0 0)]) (hE:=fun bs=>lN (dQ M) []) Try.func11 (by kernel_rfl) rfl rfl (by simp) (by simp) rfl rfl rfl (fun i pn h=>by simp at h) (fun bs hb i pn j b h1 h2 h3=>by simp at h1) (fun bs hb=>?_) β R w us ha hh).mono ?_
 ·obtain rfl:bs=[]:=by simpa using hb
  exact aAX M hL hl h _
 ·rintro e w' ⟨u,β',R',x,h',rfl,⟨bs,hb,hx,hh'⟩,hr⟩
  refine⟨u,β',R',x,h',rfl,⟨hx.trans ?_,hh'⟩,hr⟩;rw[eH];rfl
end
noncomputable def aJG(M:List Pg)(D:Ld):Ext:=lH [(12,tT (aCP M)),(11,VF M D)]
theorem aLV(A:List Int):AC (YF A):=⟨(VM A).ok,by have:=UY A;omega⟩
section
variable {G:Nat→Option Obj}
theorem NZ(M:List Pg)(D:Ld):bH aB G (aJG M D):=dZ (by simp;exact⟨(aLY M).lift,aBP M D⟩)
end
def EQ(D:Ld)(j:Nat)(h:List AO):Option (Prop×Nat×Nat×Nat):=match bF .gone h j with
 |.cells 86 [.sl r 7 0 n,.mp a,.mp b]=>match bF .gone h r,bF .gone h a,bF .gone h b with
  |.row 31 7 n' f,.mapb ok gp,.mapl ok2 3 1 gs none=>some (n=D.M.length∧n'=D.M.length∧(∀e o,e<D.M.length→o<7→f e o=aQ aI D.M e o)∧ok=bQ aB 81∧gp=D.gp∧ok2=bQ aB 79∧gs=D.gs,r,a,b)
  |_,_,_=>none
 |_=>none
theorem tV{D:Ld}{j:Nat}{h:List AO}{r a b:Nat}{q:Prop}(he:EQ D j h=some (q,r,a,b))(hq:q):∃f,bF .gone h j=.cells 86 [.sl r 7 0 D.M.length,.mp a,.mp b]∧bF .gone h r=.row 31 7 D.M.length f∧bF .gone h a=.mapb (bQ aB 81) D.gp∧bF .gone h b=.mapl (bQ aB 79) 3 1 D.gs none∧∀e o,e<D.M.length→o<7→f e o=aQ aI D.M e o:=by
 unfold EQ at he
 split at he;rotate_left;· cases he
 rename_i r0 n a0 b0 hj
 split at he;rotate_left;· cases he
 rename_i n' f ok gp ok2 gs h1 h2 h3;injection he with he;injection he with e1 he;injection he with e2 he;injection he with e3 e4;subst e1;subst e2;subst e3;subst e4;obtain⟨rfl,rfl,hf,rfl,rfl,rfl,rfl⟩:=hq;exact⟨f,hj,h1,h2,h3,hf⟩
theorem pF(j:Nat):cA j j=true:=Nat.beq_refl j
theorem kC{j r:Nat}(h:j≠r):cA j r=false:=Bool.eq_false_iff.2 fun e=>h (Nat.eq_of_beq_eq_true e)
theorem aFM{ρ ids js:List Nat}{h hE:List AO}{r:Nat}(v:AO)(h1:vJ ids js r=none)(h2:oL r ρ=true):iL ρ ids js (fA v h r) hE=iL ρ ids js h hE:=by
 unfold iL
 have hl:fF (fA v h r)=fF h:=by rw[eH,eH,eR,cB]
 rw[hl];congr 1
 generalize hF:vI ρ ids js (fF h) hE=F
 have hFr:∀x y,F r x=F r y:=fun x y=>by
  rw[←hF];unfold vI;rw[h1,h2]
 clear hF hl
 have key:∀(l:List AO) (i k:Nat),(∀x y,F (i+k) x=F (i+k) y)→wK F i (fA v l k)=wK F i l:=by
  intro l;induction l with
  |nil=>intro i k _;rfl
  |cons x l ih=>
   intro i k hk;cases k with
   |zero=>
    show F i v::_=F i x::_
    rw[show F i v=F i x from hk v x]
   |succ k=>
    show F i x::wK F (i+1) (fA v l k)=F i x::wK F (i+1) l
    rw[ih (i+1) k (by rw[show i+1+k=i+(k+1) by omega];exact hk)]
 exact key h 0 r (by rw[Nat.zero_add];exact hFr)
theorem aB8(ρ:List Nat)(j:Nat)(D:Ld)(W h:List AO)(b b':Nat):iL ρ [j] [1] h (oM D b++W)=iL ρ [j] [1] h (oM D b'++W):=by
 unfold iL
 have e:vI ρ [j] [1] (fF h) (oM D b++W)=vI ρ [j] [1] (fF h) (oM D b'++W):=by
  funext i x;unfold vI vJ;cases cA j i<;>rfl
 rw[e];rfl
noncomputable def aCT(D:Ld)(M:List Pg):jU
 |[.c (.ptr j 0)],h=>match EQ D j h with
  |some (q,r,a,b)=>some (q∧AC M∧D=dQ M,aU aI 7 M,iL [j,r,a,b] [j] [1] h (oM D 0))
  |none=>none
 |_,_=>none
section
variable {G:Nat→Option Obj}
set_option maxRecDepth 100000 in
theorem aCX{f:FuncId}{fn:Func}(hf:(aB).funcs[f]?=some fn)(hok:RO aB fn=true){args vs:List V}{D D':Ld}(W:List AO){h:List AO}{j r a b:Nat}{g:Nat→Nat→C}(hj:bF .gone h j=.cells 86 [.sl r 7 0 D.M.length,.mp a,.mp b])(hr:bF .gone h r=.row 31 7 D.M.length g)(ha:bF .gone h a=.mapb (bQ aB 81) D.gp)(hb:bF .gone h b=.mapl (bQ aB 79) 3 1 D.gs none)(hg:∀e o,e<D.M.length→o<7→g e o=aQ aI D.M e o)
  (hargs:nX [j,r,a,b] [j] 4 args=nX [0,1,2,3] [0] 4 args)
  (H:∀b,eL aB G (Zm [0] (bI aB fn) fun s=>cQ G s ⟨[.c (.ptr 0 0)]++vs,oM D' b++W⟩) (cW aB fn) (jJ fn [0,1,2,3] [0] [b] (.c (.ptr 0 0)::args) (lN D [])) fun e s=>e=.normal∧Zm [0] (bI aB fn) (fun s=>cQ G s ⟨[.c (.ptr 0 0)]++vs,oM D' b++W⟩) s):jN aB G f (.c (.ptr j 0)::args) h fun x h'=>x=MQ (xO [1] [j] h.length vs)∧h'=iL [j,r,a,b] [j] [1] h (oM D' 0++W):=by
 have n1:j≠r:=by rintro rfl;rw[hj]at hr;cases hr
 have n2:j≠a:=by rintro rfl;rw[hj]at ha;cases ha
 have n3:j≠b:=by rintro rfl;rw[hj]at hb;cases hb
 have n4:r≠a:=by rintro rfl;rw[hr]at ha;cases ha
 have n5:r≠b:=by rintro rfl;rw[hr]at hb;cases hb
 have n6:a≠b:=by rintro rfl;rw[ha]at hb;cases hb
 have hlr:r<h.length:=fY hr (by simp)
 refine jN.heapEq (h':=fA (.row 31 7 D.M.length (aQ aI D.M)) h r) (fun β R w hh=>tX hh hr hg) (by rw[eR,cB]) ?_
 have hj':bF .gone (fA (.row 31 7 D.M.length (aQ aI D.M)) h r) j=.cells 86 [.sl r 7 0 D.M.length,.mp a,.mp b]:=by rw[cO _ _ _ (Ne.symm n1)];exact hj
 have ha':bF .gone (fA (.row 31 7 D.M.length (aQ aI D.M)) h r) a=.mapb (bQ aB 81) D.gp:=by rw[cO _ _ _ n4];exact ha
 have hb':bF .gone (fA (.row 31 7 D.M.length (aQ aI D.M)) h r) b=.mapl (bQ aB 79) 3 1 D.gs none:=by rw[cO _ _ _ n5];exact hb
 have hr':bF .gone (fA (.row 31 7 D.M.length (aQ aI D.M)) h r) r=.row 31 7 D.M.length (aQ aI D.M):=dV _ _ _ hlr
 have hout:=aFM (ρ:=[j,r,a,b]) (ids:=[j]) (js:=[1]) (h:=h) (hE:=oM D' 0++W) (r:=r) (.row 31 7 D.M.length (aQ aI D.M)) (by
  show (match cA j r with
   |true=>some 1
   |false=>vJ [] [] r)=none
  rw[kC n1];rfl) (by
  show (cA j r||(cA r r||_))=true
  rw[pF];simp)
 have hlen:(fA (.row 31 7 D.M.length (aQ aI D.M)) h r).length=h.length:=by rw[eR,cB]
 rw[←hout,←hlen]
 generalize fA (.row 31 7 D.M.length (aQ aI D.M)) h r=h0 at hj' ha' hb' hr' ⊢
 clear hj ha hb hr hg hout hlen hlr
 refine fun β R w us hw hh=>(sI (ρ:=[j,r,a,b]) (ids:=[j]) (ps:=[0]) (pns:=[0]) (js:=[1]) (sl:=[.c (.ptr 0 0)]) (vs:=vs) (hE:=fun bs=>oM D' (bF 0 bs 0)++W) hf hok ?_ ?_ (by simp) (by simp) rfl rfl rfl (fun i pn h=>?_) (fun bs hb i pn j b h1 h2 h3=>?_) (fun bs hb=>?_) β R w us hw hh).mono ?_
 ·simp[pS,oL,kC n1,kC n2,kC n3,kC n4,kC n5,kC n6,kC (Ne.symm n1),kC (Ne.symm n2),kC (Ne.symm n3),kC (Ne.symm n4),kC (Ne.symm n5),kC (Ne.symm n6)]
 ·simp[sB,hj',ha',hb',hr',AO.live]
 ·cases i with
  |zero=>obtain rfl:0=pn:=by simpa using h
         exact⟨0,by simp⟩
  |succ i=>simp at h
 ·cases i with
  |zero=>
   obtain rfl:0=pn:=by simpa using h1
   obtain rfl:1=j:=by simpa using h2
   cases bs with
   |nil=>simp at hb
   |cons b0 bs=>
    obtain rfl:b0=b:=by simpa using h3
    exact⟨rfl,rfl⟩
  |succ i=>simp at h1
 ·obtain⟨bb,rfl⟩:∃b,bs=[b]:=by
    cases bs with
    |nil=>simp at hb
    |cons b0 bs=>cases bs with
     |nil=>exact⟨b0,rfl⟩
     |cons _ _=>simp at hb
  have i1:jE j [j,r,a,b] 0=some 0:=by simp only[jE,pF]
  have i2:jE r [j,r,a,b] 0=some 1:=by simp only[jE,pF,kC n1]
  have i3:jE a [j,r,a,b] 0=some 2:=by simp only[jE,pF,kC n2,kC n4]
  have i4:jE b [j,r,a,b] 0=some 3:=by simp only[jE,pF,kC n3,kC n5,kC n6]
  have i5:jE j [j] 0=some 0:=by simp only[jE,pF]
  have e:jJ fn [j,r,a,b] [j] [bb] (.c (.ptr j 0)::args) h0=jJ fn [0,1,2,3] [0] [bb] (.c (.ptr 0 0)::args) (lN D []):=by
   unfold jJ inH
   have e1:nX [j,r,a,b] [j] ([j,r,a,b]:List Nat).length (.c (.ptr j 0)::args)=nX [0,1,2,3] [0] ([0,1,2,3]:List Nat).length (.c (.ptr 0 0)::args):=by
    show BN [j,r,a,b] [j] 4 (.c (.ptr j 0))::nX [j,r,a,b] [j] 4 args=BN [0,1,2,3] [0] 4 (.c (.ptr 0 0))::nX [0,1,2,3] [0] 4 args
    rw[hargs];congr 1;simp only[BN,inC,i5];rfl
   have e2:lV [j,r,a,b] h0 [j,r,a,b]=lV [0,1,2,3] (lN D []) [0,1,2,3]:=by
    simp only[lV,hj',hr',ha',hb',QO,vP,bP,i2,i3,i4,aL5];rfl
   have e3:tS [j,r,a,b] [j] [bb]=tS [0,1,2,3] [0] [bb]:=by
    simp only[tS,i1];rfl
   rw[e1,e2,e3];rfl
  rw[e];exact H bb
 ·rintro e w' ⟨u,β',R',x,h',rfl,⟨bs,hb,hx,hh'⟩,hr⟩
  exact⟨u,β',R',x,h',rfl,⟨hx,hh'.trans (aB8 _ _ _ _ _ _ _)⟩,hr⟩
set_option maxRecDepth 100000 in
theorem yA{f:FuncId}{fn:Func}(hf:(aB).funcs[f]?=some fn)(hok:RO aB fn=true){args vs:List V}{D D':Ld}{h:List AO}{j r a b:Nat}{g:Nat→Nat→C}(hj:bF .gone h j=.cells 86 [.sl r 7 0 D.M.length,.mp a,.mp b])(hr:bF .gone h r=.row 31 7 D.M.length g)(ha:bF .gone h a=.mapb (bQ aB 81) D.gp)(hb:bF .gone h b=.mapl (bQ aB 79) 3 1 D.gs none)(hg:∀e o,e<D.M.length→o<7→g e o=aQ aI D.M e o)
  (hargs:nX [j,r,a,b] [j] 4 args=nX [0,1,2,3] [0] 4 args)
  (H:∀b,eL aB G (Zm [0] (bI aB fn) fun s=>cQ G s ⟨[.c (.ptr 0 0)]++vs,oM D' b⟩) (cW aB fn) (jJ fn [0,1,2,3] [0] [b] (.c (.ptr 0 0)::args) (lN D [])) fun e s=>e=.normal∧Zm [0] (bI aB fn) (fun s=>cQ G s ⟨[.c (.ptr 0 0)]++vs,oM D' b⟩) s):jN aB G f (.c (.ptr j 0)::args) h fun x h'=>x=MQ (xO [1] [j] h.length vs)∧h'=iL [j,r,a,b] [j] [1] h (oM D' 0):=
 aCX (W:=[]) hf hok hj hr ha hb hg hargs (fun b=>H b)
set_option maxRecDepth 100000 in
theorem aM1(D:Ld)(M:List Pg):fZ aB G 26 (aCT D M):=by
 intro args h p0 v h' hm hp;unfold aCT at hm
 split at hm;rotate_left;· cases hm
 split at hm;rotate_left;· cases hm
 rename_i j _ q r a b hl;obtain⟨rfl,rfl,rfl⟩:=gH hm;obtain⟨hq,hM,rfl⟩:=hp;obtain⟨g,q1,q2,q3,q4,hg⟩:=tV hl hq
 have hm:=aEH (G:=G) (dQ M) (by rw[lP];have:=hM.2;omega) (fun p hp=>by
   rw[lP]at hp
   have:=(kS (iM.1 (hM.1 p hp).1).2.2.1).1
   omega) []
 rw[lP]at hm
 exact yA (args:=[]) (vs:=[aU aI 7 M]) (D':=dQ M) Try.func26 (by kernel_rfl) q1 q2 q3 q4 hg rfl fun b=>hm b _
end
section
variable {G:Nat→Option Obj}
end
def aMA:Mod
 |[.c (.p (.l 7 n f)),.c (.p (.l 7 m g))]=>some (∃A:List Pg,iF (.c (.p (.l 7 n f))) (aU aI 7 A)∧iF (.c (.p (.l 7 m g))) (aU aI 7 A)∧A.length≤1000000∧∀a∈A,a.L.length≤1000000,bV true)
 |_=>none
section
variable {G:Nat→Option Obj}
theorem aOS:iO aB G 23 aMA:=by
 intro args p v hm hp h;unfold aMA at hm
 split at hm;rotate_left;· cases hm
 obtain⟨rfl,rfl⟩:=eM hm;obtain⟨A,h1,h2,h3,h4⟩:=hp
 have h0:=aOR (G:=G) A A [aU aI 7 A,aU aI 7 A] _ _ rfl ⟨⟨⟨rfl,fun _ _ _ _=>lE.refl _⟩,rfl,fun _ _ _ _=>lE.refl _⟩,h3,h4⟩ h
 rw[decide_eq_true (rfl:A=A)]at h0;exact jN.args (args':=[aU aI 7 A,aU aI 7 A]) h0 (.cons h1 (.cons h2 .nil))
end
end Go.AE
