import Derived.Test.YtjfofadeahdnnaaGreatDoorERn
import Derived.Test.YtjfofadeahdnnaaGreatDoorERk
set_option linter.unusedVariables false
set_option linter.unusedSimpArgs false
namespace Go.AE
open _root_.ByteArray renaming mk→cG
open IntKind renaming i64→aC,u64→bD
open _root_.List renaming append_assoc→eN,append_nil→iG,getD_eq_getElem?_getD→aD,getElem?_eq_getElem→aH,getElem?_set_ne→iC,length_append→bJ,length_map→eA,length_set→cD,length_take→dY,map→iO,map_append→dT,take_length→fL,take_succ_eq_append_getElem→fP
open _root_.Nat renaming le_refl→aJ,le_trans→dS,zero_add→cK,zero_le→bK
open Value renaming slice→eM
open Go.Proofs Go.Proofs.YtjfofadeahdnnaaGreatDoor Go.RowKit Wi
def IK{α:Type}[Inhabited α](enc:α→Nat→PV)(sz:Nat)(x:V)(L:List α):Option Prop:=match x with
 |.c (.p (.l sz' n f))=>match Nat.beq sz' sz with
  |true=>some (n=L.length∧∀e o,e<L.length→o<sz→f e o=bF enc L e o)
  |false=>none
 |.c (.p (.z (.slice none 0 0)))=>some (L=[])
 |_=>none
theorem mE{α:Type}[Inhabited α]{enc:α→Nat→PV}{sz:Nat}{x:V}{p:Prop}{L:List α}(h:IK enc sz x L=some p)(hp:p):lO x (aQ enc sz L):=by
 unfold IK at h;split at h
 ·split at h
  ·rename_i hb
   obtain rfl:=Nat.eq_of_beq_eq_true hb;injection h with h;subst h;obtain⟨rfl,h2⟩:=hp;exact lO.p (nM.l fun e o he ho=>nM.of_eq (h2 e o he ho))
  ·cases h
 ·injection h with h
  subst h;subst hp;exact lO.p (nM.nil sz _)
 ·cases h
def aKJ(x:V)(c:Cl):Option Prop:=match x with
 |.a [.p (.i .i64 a),.p (.i .i64 b),.p (.i .i64 l),.p (.i .i64 u)]=>some (a=c.fr∧b=c.to∧l=c.lo∧u=c.hi)
 |_=>none
def TT(c:Cl):List PV:=[.i .i64 c.fr,.i .i64 c.to,.i .i64 c.lo,.i .i64 c.hi]
theorem aKI{x:V}{p:Prop}{c:Cl}(h:aKJ x c=some p)(hp:p):lO x (.a (lA (TT c))):=by
 unfold aKJ at h;split at h
 ·injection h with h
  subst h;obtain⟨rfl,rfl,rfl,rfl⟩:=hp;exact lO.refl _
 ·cases h
def KO(c:Cl):Mod
 |[.c (.p (.i .i64 i)),.c (.p (.i .i64 k)),x]=>match aKJ x c with
  |some p=>some (p∧0≤i∧0≤k,oP (qP i.toNat k.toNat c))
  |none=>none
 |_=>none
def XG(S:List Se):Mod
 |[x]=>match IK bQ 13 x S with
  |some p=>some (p∧S.length≤1000,aQ gG 12 (S.map Se.d))
  |none=>none
 |_=>none
def lR(D:List De):List Int:=D.map fun d=>BD mI (BC d)
def NY(D:List De):Mod
 |[x]=>match IK gG 12 x D with
  |some p=>some (p∧D.length≤1000∧∀d∈D,OkD d,aQ dG 1 (lR D))
  |none=>none
 |_=>none
def lL(S:List Se):List Int:=S.map fun s=>(s.C.length:Int)
def zA(S:List Se):Mod
 |[x]=>match IK bQ 13 x S with
  |some p=>some (p∧S.length≤1000∧∀s∈S,s.C.length≤1000,.t [.c (.p (mU gG 12 (S.map Se.d))),.c (.p (mU aU 1 (lL S)))])
  |none=>none
 |_=>none
def NZ(S:List Se):Mod
 |[x]=>match IK bQ 13 x S with
  |some p=>some (p∧S.length≤1000∧∀s∈S,s.C.length≤1000,aQ aU 1 (lL S))
  |none=>none
 |_=>none
def NX(S:List Se):Mod
 |[x]=>match IK bQ 13 x S with
  |some p=>some (p∧S.length≤10∧∀s∈S,s.C.length≤10,aQ dG 1 (fE S))
  |none=>none
 |_=>none
def FM(L:List Int):Mod
 |[x]=>match IK dG 1 x L with
  |some p=>some (p∧L.length≤1000,aQ IP 1 (nB L))
  |none=>none
 |_=>none
def aFP(L:List Int):Mod
 |[x]=>match IK IP 1 x (nB L) with
  |some p=>some (p∧L.length≤1000,oP (rI L))
  |none=>none
 |_=>none
theorem aSX(i k:Int)(c:Cl):dI fR (dN 1 (dW Tryz.prog Tryz.f62)) (pZ Tryz.f62 [iV i,iV k,.a (lA (TT c))]) (eK (iU 19 [0,1,5]) (bU Tryz.prog Tryz.f62))=Tr.done X.normal
 (cQ 19 [(0,.c (.p (.i .i64 i))),(1,.c (.p (.i .i64 k))),(5,.c (.ptr 0 0))] [.cells 51 [.p (.i .i64 c.fr),.p (.i .i64 c.to),.p (.i .i64 c.lo),.p (.i .i64 c.hi)]]):=by kernel_rfl
theorem aSW(i k:Int)(c:Cl)(M:List Int):dI (rT [(45,aGR (xS rD M))]) (bZ 1 (dW Tryz.prog Tryz.f62)) (cQ 19 [(0,iV i),(1,iV k),(5,.c (.ptr 0 0))] [.cells 51 (lA (TT c))]) (eK [] (bU Tryz.prog Tryz.f62))=Tr.rq
 ((HD 1 1 6 [V.c (C.p (PV.s (cG #[99,108,97,105,109]))),V.c (C.sl 1 1 0 6)] ∧
 ∀(e o:Nat),
 e<6 →
 o<1 →
 zE
 (aZ C.top [C.p (PV.i aC i),C.p (PV.i aC k),C.p (PV.i aC c.fr),C.p (PV.i aC c.to),C.p (PV.i aC c.lo),C.p (PV.i aC c.hi)]
 (e*1+o)) =
 true) ∧
 (6=M.length ∧
 ∀(e o:Nat),
 e<M.length →
 o<1 →
 pE
 (kY [C.p (PV.i aC i),C.p (PV.i aC k),C.p (PV.i aC c.fr),C.p (PV.i aC c.to),C.p (PV.i aC c.lo),C.p (PV.i aC c.hi)] 1 6
 (e+0) o) =
 bF aU M e o) ∧
 cG #[99,108,97,105,109]=rD∧5≤1000∧M.length≤1000000)
 (.done .ret (St.mk [V.c (C.p (PV.i bD (tB rD M)))] [])):=by kernel_rfl
theorem aSV(i k:Int)(c:Cl):dI fR (dN 1 (dW Tryz.prog Tryz.f64)) (pZ Tryz.f64 [iV i,iV k,.a (lA (TT c))]) (eK (iU 19 [0,1,5]) (bU Tryz.prog Tryz.f64))=Tr.done X.normal
 (cQ 19 [(0,.c (.p (.i .i64 i))),(1,.c (.p (.i .i64 k))),(5,.c (.ptr 0 0))] [.cells 51 [.p (.i .i64 c.fr),.p (.i .i64 c.to),.p (.i .i64 c.lo),.p (.i .i64 c.hi)]]):=by kernel_rfl
theorem aSU(i k:Int)(c:Cl)(M:List Int):dI (rT [(46,aGR (xS rD M))]) (bZ 1 (dW Tryz.prog Tryz.f64)) (cQ 19 [(0,iV i),(1,iV k),(5,.c (.ptr 0 0))] [.cells 51 (lA (TT c))]) (eK [] (bU Tryz.prog Tryz.f64))=Tr.rq
 ((HD 1 1 6 [V.c (C.p (PV.s (cG #[99,108,97,105,109]))),V.c (C.sl 1 1 0 6)] ∧
 ∀(e o:Nat),
 e<6 →
 o<1 →
 zE
 (aZ C.top [C.p (PV.i aC i),C.p (PV.i aC k),C.p (PV.i aC c.fr),C.p (PV.i aC c.to),C.p (PV.i aC c.lo),C.p (PV.i aC c.hi)]
 (e*1+o)) =
 true) ∧
 (6=M.length ∧
 ∀(e o:Nat),
 e<M.length →
 o<1 →
 pE
 (kY [C.p (PV.i aC i),C.p (PV.i aC k),C.p (PV.i aC c.fr),C.p (PV.i aC c.to),C.p (PV.i aC c.lo),C.p (PV.i aC c.hi)] 1 6
 (e+0) o) =
 bF aU M e o) ∧
 cG #[99,108,97,105,109]=rD∧5≤1000∧M.length≤1000000)
 (.done .ret (St.mk [V.c (C.p (PV.i bD (tB rD M)))] [])):=by kernel_rfl
theorem tTp(T:List (List Int)):dI fR (dW Tryz.prog Tryz.f39) (pZ Tryz.f39 [aQ IP 1 T]) (eK [] (bU Tryz.prog Tryz.f39))=Tr.rq (inR aC ((↑T.length:Int)-1))
 (.rq (0≤(↑T.length:Int)-1∧(↑T.length:Int)-1<(↑T.length:Int))
 (.rq (Int.ofNat 0≤Int.ofNat 0∧0<(↑(T.getD ((↑T.length:Int)-1).toNat default).length:Int))
 (.done .ret (St.mk [V.c (C.p (PV.i bD ((T.getD ((↑T.length:Int)-1).toNat default).getD (Int.toNat 0) default)))] [])))):=by kernel_rfl
theorem aTU(S:List Se):dI fR (dN 3 (dW Tryz.prog Tryz.f16)) (pZ Tryz.f16 [aQ bQ 13 S]) (eK (iU 20 [0,3,4]) (bU Tryz.prog Tryz.f16))=Tr.done X.normal
 (cQ 20 [(0,.c (.p (.l 13 S.length (bF bQ S)))),(3,.c (.p (.z (eM none 0 0)))),(4,.c (.p (.i .i64 0)))] []):=by kernel_rfl
theorem aTT(S:List Se)(out:List De)(k:Nat):dI fR (jM (dW Tryz.prog Tryz.f16) 3) (cQ 20 [(0,aQ bQ 13 S),(3,.c (.sl 0 12 0 k)),(4,iV (k:Nat))] [.row 47 12 k (aR gG out)]) (eK (iU 20 [0,3,4]) (bU Tryz.prog Tryz.f16))=bT (decide ((↑k:Int)<(↑S.length:Int)))
 (.rq (0≤(↑k:Int)∧(↑k:Int)<(↑S.length:Int))
 (.rq (k=k)
 (.rq (1≤1)
 (.rq
 ((k+1)*120≤140737488355328 ∧
 k+1≤140737488355328 ∧
 ∀(e o:Nat),
 e<1 →
 o<12 →
 jH
 (kY
 [C.p (PV.s (S.getD (↑k:Int).toNat default).d.nm),C.p (PV.l 2 (S.getD (↑k:Int).toNat default).d.L.length (bF kC (S.getD (↑k:Int).toNat default).d.L)),
 C.p (PV.i aC (S.getD (↑k:Int).toNat default).d.u0),C.p (PV.i aC (S.getD (↑k:Int).toNat default).d.u1),
 C.p (PV.i aC (S.getD (↑k:Int).toNat default).d.u2),C.p (PV.i aC (S.getD (↑k:Int).toNat default).d.lo),
 C.p (PV.i aC (S.getD (↑k:Int).toNat default).d.hi),C.p (PV.i aC (S.getD (↑k:Int).toNat default).d.dn),
 C.p (PV.i aC (S.getD (↑k:Int).toNat default).d.up),C.p (PV.i aC (S.getD (↑k:Int).toNat default).d.fi),
 C.p (PV.i aC (S.getD (↑k:Int).toNat default).d.la),C.p (PV.i aC (S.getD (↑k:Int).toNat default).d.bu)]
 12 1 (e+0) o) =
 true)
 (.rq (inR aC ((↑k:Int)+1))
 (.done .normal
 (cQ 20 [(0,.c (.p (.l 13 S.length (bF bQ S)))),(3,.c (.sl 0 12 0 (k+1))),(4,.c (.p (.i .i64 ((↑k:Int)+1))))] [.row 47 12 (k+1) fun e o=>cI [2] (fU k (aR gG out) (fun e o=>aZ C.top [C.p (PV.s (S.getD (↑k:Int).toNat default).d.nm),C.p (PV.l 2 (S.getD (↑k:Int).toNat default).d.L.length (bF kC (S.getD (↑k:Int).toNat default).d.L)),C.p (PV.i aC (S.getD (↑k:Int).toNat default).d.u0),C.p (PV.i aC (S.getD (↑k:Int).toNat default).d.u1),C.p (PV.i aC (S.getD (↑k:Int).toNat default).d.u2),C.p (PV.i aC (S.getD (↑k:Int).toNat default).d.lo),C.p (PV.i aC (S.getD (↑k:Int).toNat default).d.hi),C.p (PV.i aC (S.getD (↑k:Int).toNat default).d.dn),C.p (PV.i aC (S.getD (↑k:Int).toNat default).d.up),C.p (PV.i aC (S.getD (↑k:Int).toNat default).d.fi),C.p (PV.i aC (S.getD (↑k:Int).toNat default).d.la),C.p (PV.i aC (S.getD (↑k:Int).toNat default).d.bu)] ((e+0)*12+o)) e o)])))))))
 (.done (.exit 0)
 (cQ 20 [(0,.c (.p (.l 13 S.length (bF bQ S)))),(3,.c (.sl 0 12 0 k)),(4,.c (.p (.i .i64 (↑k:Int))))] [.row 47 12 k fun e o=>cI [0] (aR gG out e o)])):=by kernel_rfl
theorem aTS(S:List Se)(out:List De)(k:Nat):dI fR (bZ 4 (dW Tryz.prog Tryz.f16)) (cQ 20 [(0,aQ bQ 13 S),(3,.c (.sl 0 12 0 k)),(4,iV (k:Nat))] [.row 47 12 k (aR gG out)]) (eK [] (bU Tryz.prog Tryz.f16))=Tr.rq (0+k≤k∧∀(e o:Nat),e<k→o<12→zE (aR gG out (e+0) o)=true) (.done .ret (St.mk [V.c (C.p (PV.l 12 k fun e o=>pE (aR gG out (e+0) o)))] [])):=by kernel_rfl
theorem aT8(D:List De):dI fR (dN 3 (dW Tryz.prog Tryz.f15)) (pZ Tryz.f15 [aQ gG 12 D]) (eK (iU 21 [0,3,4]) (bU Tryz.prog Tryz.f15))=Tr.done X.normal
 (cQ 21 [(0,.c (.p (.l 12 D.length (bF gG D)))),(3,.c (.p (.z (eM none 0 0)))),(4,.c (.p (.i .i64 0)))] []):=by kernel_rfl
theorem aT7(D:List De)(out:List Int)(d:De)(B:List UInt8)(k:Nat):dI (kH [(35,XF d),(34,xT mI B)]) (jM (dW Tryz.prog Tryz.f15) 3) (cQ 21 [(0,aQ gG 12 D),(3,.c (.sl 0 1 0 k)),(4,iV (k:Nat))] [.row 23 1 k (aR dG out)]) (eK (iU 21 [0,3,4]) (bU Tryz.prog Tryz.f15))=bT (decide ((↑k:Int)<(↑D.length:Int)))
 (.rq (0≤(↑k:Int)∧(↑k:Int)<(↑D.length:Int))
 (.rq
 ((((D.getD (↑k:Int).toNat default).L.length=d.L.length∧∀(e o:Nat),e<d.L.length→o<2→bF kC (D.getD (↑k:Int).toNat default).L e o=bF kC d.L e o) ∧
 (D.getD (↑k:Int).toNat default).nm=d.nm ∧
 (D.getD (↑k:Int).toNat default).u0=d.u0 ∧
 (D.getD (↑k:Int).toNat default).u1=d.u1 ∧
 (D.getD (↑k:Int).toNat default).u2=d.u2 ∧
 (D.getD (↑k:Int).toNat default).lo=d.lo ∧
 (D.getD (↑k:Int).toNat default).hi=d.hi ∧
 (D.getD (↑k:Int).toNat default).dn=d.dn ∧
 (D.getD (↑k:Int).toNat default).up=d.up ∧
 (D.getD (↑k:Int).toNat default).fi=d.fi∧(D.getD (↑k:Int).toNat default).la=d.la∧(D.getD (↑k:Int).toNat default).bu=d.bu) ∧
 OkD d)
 (.rq (((BC d).length=B.length∧∀(e o:Nat),e<B.length→o<1→bF cT (BC d) e o=bF cT B e o)∧cG #[100,101,99,108]=mI∧4≤1000∧B.length≤1000000)
 (.rq (k=k)
 (.rq (1≤1)
 (.rq ((k+1)*8≤140737488355328∧k+1≤140737488355328∧∀(e o:Nat),e<1→o<1→jH (kY [C.p (PV.i bD (BD mI B))] 1 1 (e+0) o)=true)
 (.rq (inR aC ((↑k:Int)+1))
 (.done .normal
 (cQ 21 [(0,.c (.p (.l 12 D.length (bF gG D)))),(3,.c (.sl 0 1 0 (k+1))),(4,.c (.p (.i .i64 ((↑k:Int)+1))))] [.row 23 1 (k+1) fun e o=>cI [2] (fU k (aR dG out) (fun e o=>aZ C.top [C.p (PV.i bD (BD mI B))] ((e+0)*1+o)) e o)])))))))))
 (.done (.exit 0)
 (cQ 21 [(0,.c (.p (.l 12 D.length (bF gG D)))),(3,.c (.sl 0 1 0 k)),(4,.c (.p (.i .i64 (↑k:Int))))] [.row 23 1 k fun e o=>cI [0] (aR dG out e o)])):=by kernel_rfl
theorem aT6(D:List De)(out:List Int)(k:Nat):dI fR (bZ 4 (dW Tryz.prog Tryz.f15)) (cQ 21 [(0,aQ gG 12 D),(3,.c (.sl 0 1 0 k)),(4,iV (k:Nat))] [.row 23 1 k (aR dG out)]) (eK [] (bU Tryz.prog Tryz.f15))=Tr.rq (0+k≤k∧∀(e o:Nat),e<k→o<1→zE (aR dG out (e+0) o)=true) (.done .ret (St.mk [V.c (C.p (PV.l 1 k fun e o=>pE (aR dG out (e+0) o)))] [])):=by kernel_rfl
theorem aU4(S:List Se):dI fR (dN 3 (dW Tryz.prog Tryz.f41)) (pZ Tryz.f41 [aQ bQ 13 S]) (eK (iU 21 [0,3,4]) (bU Tryz.prog Tryz.f41))=Tr.done X.normal
 (cQ 21 [(0,.c (.p (.l 13 S.length (bF bQ S)))),(3,.c (.p (.z (eM none 0 0)))),(4,.c (.p (.i .i64 0)))] []):=by kernel_rfl
theorem aU3(S:List Se)(out:List Int)(k:Nat):dI fR (jM (dW Tryz.prog Tryz.f41) 3) (cQ 21 [(0,aQ bQ 13 S),(3,.c (.sl 0 1 0 k)),(4,iV (k:Nat))] [.row 3 1 k (aR aU out)]) (eK (iU 21 [0,3,4]) (bU Tryz.prog Tryz.f41))=bT (decide ((↑k:Int)<(↑S.length:Int)))
 (.rq (0≤(↑k:Int)∧(↑k:Int)<(↑S.length:Int))
 (.rq (k=k)
 (.rq (1≤1)
 (.rq
 ((k+1)*8≤140737488355328 ∧
 k+1≤140737488355328∧∀(e o:Nat),e<1→o<1→jH (kY [C.p (PV.i aC (↑(S.getD (↑k:Int).toNat default).C.length:Int))] 1 1 (e+0) o)=true)
 (.rq (inR aC ((↑k:Int)+1))
 (.done .normal
 (cQ 21 [(0,.c (.p (.l 13 S.length (bF bQ S)))),(3,.c (.sl 0 1 0 (k+1))),(4,.c (.p (.i .i64 ((↑k:Int)+1))))] [.row 3 1 (k+1) fun e o=>cI [2] (fU k (aR aU out) (fun e o=>aZ C.top [C.p (PV.i aC (↑(S.getD (↑k:Int).toNat default).C.length:Int))] ((e+0)*1+o)) e o)])))))))
 (.done (.exit 0)
 (cQ 21 [(0,.c (.p (.l 13 S.length (bF bQ S)))),(3,.c (.sl 0 1 0 k)),(4,.c (.p (.i .i64 (↑k:Int))))] [.row 3 1 k fun e o=>cI [0] (aR aU out e o)])):=by kernel_rfl
theorem aU2(S:List Se)(out:List Int)(k:Nat):dI fR (bZ 4 (dW Tryz.prog Tryz.f41)) (cQ 21 [(0,aQ bQ 13 S),(3,.c (.sl 0 1 0 k)),(4,iV (k:Nat))] [.row 3 1 k (aR aU out)]) (eK [] (bU Tryz.prog Tryz.f41))=Tr.rq (0+k≤k∧∀(e o:Nat),e<k→o<1→zE (aR aU out (e+0) o)=true) (.done .ret (St.mk [V.c (C.p (PV.l 1 k fun e o=>pE (aR aU out (e+0) o)))] [])):=by kernel_rfl
theorem aTX(S:List Se):dI fR (dN 4 (dW Tryz.prog Tryz.f36)) (pZ Tryz.f36 [aQ bQ 13 S]) (eK (iU 32 [0,4,5,8,9]) (bU Tryz.prog Tryz.f36))=Tr.done X.normal
 (cQ 32 [(0,.c (.p (.l 13 S.length (bF bQ S)))),(4,.c (.p (.z (eM none 0 0)))),(5,.c (.p (.z (eM none 0 0)))),(8,.c (.p (.i .i64 (↑S.length:Int)))),(9,.c (.p (.i .i64 0)))] []):=by kernel_rfl
theorem aTW(S:List Se)(out:List De)(cs:List Int)(k:Nat):dI fR (jM (dW Tryz.prog Tryz.f36) 4) (cQ 32 [(0,aQ bQ 13 S),(4,.c (.sl 0 12 0 k)),(5,.c (.sl 1 1 0 k)),(8,iV (S.length:Nat)),(9,iV (k:Nat))] [.row 47 12 k (aR gG out),.row 3 1 k (aR aU cs)]) (eK (iU 32 [0,4,5,8,9]) (bU Tryz.prog Tryz.f36))=bT (decide ((↑k:Int)<(↑S.length:Int)))
 (.rq (0≤(↑k:Int)∧(↑k:Int)<(↑S.length:Int))
 (.rq (k=k)
 (.rq (1≤1)
 (.rq
 ((k+1)*120≤140737488355328 ∧
 k+1≤140737488355328 ∧
 ∀(e o:Nat),
 e<1 →
 o<12 →
 jH
 (kY
 [C.p (PV.s (S.getD (↑k:Int).toNat default).d.nm),C.p (PV.l 2 (S.getD (↑k:Int).toNat default).d.L.length (bF kC (S.getD (↑k:Int).toNat default).d.L)),
 C.p (PV.i aC (S.getD (↑k:Int).toNat default).d.u0),C.p (PV.i aC (S.getD (↑k:Int).toNat default).d.u1),
 C.p (PV.i aC (S.getD (↑k:Int).toNat default).d.u2),C.p (PV.i aC (S.getD (↑k:Int).toNat default).d.lo),
 C.p (PV.i aC (S.getD (↑k:Int).toNat default).d.hi),C.p (PV.i aC (S.getD (↑k:Int).toNat default).d.dn),
 C.p (PV.i aC (S.getD (↑k:Int).toNat default).d.up),C.p (PV.i aC (S.getD (↑k:Int).toNat default).d.fi),
 C.p (PV.i aC (S.getD (↑k:Int).toNat default).d.la),C.p (PV.i aC (S.getD (↑k:Int).toNat default).d.bu)]
 12 1 (e+0) o) =
 true)
 (.rq (0≤(↑k:Int)∧(↑k:Int)<(↑S.length:Int))
 (.rq (k=k)
 (.rq (1≤1)
 (.rq
 ((k+1)*8≤140737488355328 ∧
 k+1≤140737488355328∧∀(e o:Nat),e<1→o<1→jH (kY [C.p (PV.i aC (↑(S.getD (↑k:Int).toNat default).C.length:Int))] 1 1 (e+0) o)=true)
 (.rq (inR aC ((↑k:Int)+1))
 (.done .normal
 (cQ 32 [(0,.c (.p (.l 13 S.length (bF bQ S)))),(4,.c (.sl 0 12 0 (k+1))),(5,.c (.sl 1 1 0 (k+1))),(8,.c (.p (.i .i64 (↑S.length:Int)))),(9,.c (.p (.i .i64 ((↑k:Int)+1))))] [.row 47 12 (k+1) fun e o=>cI [3,5] (fU k (aR gG out) (fun e o=>aZ C.top [C.p (PV.s (S.getD (↑k:Int).toNat default).d.nm),C.p (PV.l 2 (S.getD (↑k:Int).toNat default).d.L.length (bF kC (S.getD (↑k:Int).toNat default).d.L)),C.p (PV.i aC (S.getD (↑k:Int).toNat default).d.u0),C.p (PV.i aC (S.getD (↑k:Int).toNat default).d.u1),C.p (PV.i aC (S.getD (↑k:Int).toNat default).d.u2),C.p (PV.i aC (S.getD (↑k:Int).toNat default).d.lo),C.p (PV.i aC (S.getD (↑k:Int).toNat default).d.hi),C.p (PV.i aC (S.getD (↑k:Int).toNat default).d.dn),C.p (PV.i aC (S.getD (↑k:Int).toNat default).d.up),C.p (PV.i aC (S.getD (↑k:Int).toNat default).d.fi),C.p (PV.i aC (S.getD (↑k:Int).toNat default).d.la),C.p (PV.i aC (S.getD (↑k:Int).toNat default).d.bu)] ((e+0)*12+o)) e o),.row 3 1 (k+1) fun e o=>cI [3,5] (fU k (aR aU cs) (fun e o=>aZ C.top [C.p (PV.i aC (↑(S.getD (↑k:Int).toNat default).C.length:Int))] ((e+0)*1+o)) e o)])))))))))))
 (.done (.exit 0)
 (cQ 32 [(0,.c (.p (.l 13 S.length (bF bQ S)))),(4,.c (.sl 0 12 0 k)),(5,.c (.sl 1 1 0 k)),(8,.c (.p (.i .i64 (↑S.length:Int)))),(9,.c (.p (.i .i64 (↑k:Int))))] [.row 47 12 k fun e o=>cI [0,1] (aR gG out e o),.row 3 1 k fun e o=>cI [0,1] (aR aU cs e o)])):=by kernel_rfl
theorem aTV(S:List Se)(out:List De)(cs:List Int)(k:Nat):dI fR (bZ 5 (dW Tryz.prog Tryz.f36)) (cQ 32 [(0,aQ bQ 13 S),(4,.c (.sl 0 12 0 k)),(5,.c (.sl 1 1 0 k)),(8,iV (S.length:Nat)),(9,iV (k:Nat))] [.row 47 12 k (aR gG out),.row 3 1 k (aR aU cs)]) (eK [] (bU Tryz.prog Tryz.f36))=Tr.rq (0+k≤k∧∀(e o:Nat),e<k→o<12→zE (aR gG out (e+0) o)=true)
 (.rq (0+k≤k∧∀(e o:Nat),e<k→o<1→zE (aR aU cs (e+0) o)=true)
 (.done .ret (St.mk [V.t [V1.c (C.p (PV.l 12 k fun e o=>pE (aR gG out (e+0) o))),V1.c (C.p (PV.l 1 k fun e o=>pE (aR aU cs (e+0) o)))]] []))):=by kernel_rfl
theorem tG{α β:Type}[Inhabited α](f:α→β){S:List α}{k:Nat}(h:k<S.length):(S.take (k+1)).map f=(S.take k).map f++[f (S.getD k default)]:=by
 rw[fP h,dT,aD,aH h];rfl
theorem nC{α β:Type}(f:α→β)(S:List α){k:Nat}(h:k≤S.length):((S.take k).map f).length=k:=by rw[eA,dY];omega
theorem uA{α:Type}[Inhabited α]{S:List α}{k:Nat}(h:k<S.length):S.getD k default∈S:=by
 rw[aD,aH h];exact List.getElem_mem h
theorem MF(x:Int):∀e o:Nat,e<1→o<1→jH (kY [C.p (.i .u64 x)] 1 1 (e+0) o)=true:=UZ x
theorem aH8(d:De):∀e o:Nat,e<1→o<12→jH (kY [C.p (PV.s d.nm),C.p (PV.l 2 d.L.length (bF kC d.L)),C.p (PV.i aC d.u0),C.p (PV.i aC d.u1),C.p (PV.i aC d.u2),C.p (PV.i aC d.lo),C.p (PV.i aC d.hi),C.p (PV.i aC d.dn),C.p (PV.i aC d.up),C.p (PV.i aC d.fi),C.p (PV.i aC d.la),C.p (PV.i aC d.bu)] 12 1 (e+0) o)=true:=by
 intro e o he ho
 obtain rfl:e=0:=by omega
 match o,ho with
 |0,_|1,_|2,_|3,_|4,_|5,_|6,_|7,_|8,_|9,_|10,_|11,_=>rfl
theorem aMJ(d:De):∀o:Nat,o<12→(fun e o:Nat=>aZ C.top [C.p (PV.s d.nm),C.p (PV.l 2 d.L.length (bF kC d.L)),C.p (PV.i aC d.u0),C.p (PV.i aC d.u1),C.p (PV.i aC d.u2),C.p (PV.i aC d.lo),C.p (PV.i aC d.hi),C.p (PV.i aC d.dn),C.p (PV.i aC d.up),C.p (PV.i aC d.fi),C.p (PV.i aC d.la),C.p (PV.i aC d.bu)] ((e+0)*12+o)) 0 o=.p (gG d o):=by
 intro o ho
 match o,ho with
 |0,_|1,_|2,_|3,_|4,_|5,_|6,_|7,_|8,_|9,_|10,_|11,_=>rfl
theorem MK(i k:Int)(c:Cl):∀e o:Nat,e<6→o<1→aZ C.top [C.p (PV.i aC i),C.p (PV.i aC k),C.p (PV.i aC c.fr),C.p (PV.i aC c.to),C.p (PV.i aC c.lo),C.p (PV.i aC c.hi)] (e*1+o)=.p (bF aU [i,k,c.fr,c.to,c.lo,c.hi] e o):=by
 intro e o he ho
 obtain rfl:o=0:=by omega
 match e,he with
 |0,_|1,_|2,_|3,_|4,_|5,_=>rfl
section
variable {G:Nat→Option Obj}
theorem KR{f:FuncId}{c:Cl}{x:V}{q:Prop}{i k:Nat}{h:List AO}(hx:aKJ x c=some q)(hq:q)(H:lW Tryz.prog G f [iV i,iV k,.a (lA (TT c))] h fun x h'=>x=oP (qP i k c)∧h'=h):lW Tryz.prog G f [iV i,iV k,x] h fun x h'=>x=oP (qP i k c)∧h'=h:=
 lW.args H (.cons (.refl _) (.cons (.refl _) (.cons (aKI hx hq) .nil)))
set_option maxRecDepth 100000 in
theorem aNP(c:Cl):hO Tryz.prog G 62 (KO c):=by
 intro args p v hm hp h;unfold KO at hm
 split at hm;rotate_left;· cases hm
 split at hm;rotate_left;· cases hm
 rename_i i0 k0 x _ q hx;obtain⟨rfl,rfl⟩:=dB hm;clear hm;obtain⟨hq,hi,hk⟩:=hp
 obtain⟨i,rfl⟩:∃i:Nat,i0=i:=⟨i0.toNat,by omega⟩
 obtain⟨k,rfl⟩:∃k:Nat,k0=k:=⟨k0.toNat,by omega⟩
 rw[show (i:Int).toNat=i from rfl,show (k:Int).toNat=k from rfl];refine KR hx hq ?_
 refine oY Tryz.func62 (by kernel_rfl) rfl ?_ h
 refine dK.evG aV 1 (aSX i k c) ?_;simp only[aL,bE]
 refine⟨dK.pre (aP (st':=cQ 19 [(0,iV i),(1,iV k),(5,.c (.ptr 0 0))] [.cells 51 (lA (TT c))]) (by kernel_rfl)) ?_⟩
 refine dK.evH (iX (by simp;exact BS (aF8 rD [(i:Int),(k:Int),c.fr,c.to,c.lo,c.hi]))) (aSW i k c [(i:Int),(k:Int),c.fr,c.to,c.lo,c.hi]) ?_;simp only[aX,aL,gX];exact⟨⟨⟨⟨trivial,⟨rfl,by decide⟩,trivial⟩,fun e o he ho=>by rw[MK i k c e o he ho];rfl⟩,⟨rfl,fun e o he ho=>congrArg pE (MK i k c e o he ho)⟩,rfl,by decide,show 6≤1000000 by decide⟩,⟨lO.refl _⟩⟩
set_option maxRecDepth 100000 in
theorem aJO(c:Cl):hO Tryz.prog G 64 (KO c):=by
 intro args p v hm hp h;unfold KO at hm
 split at hm;rotate_left;· cases hm
 split at hm;rotate_left;· cases hm
 rename_i i0 k0 x _ q hx;obtain⟨rfl,rfl⟩:=dB hm;clear hm;obtain⟨hq,hi,hk⟩:=hp
 obtain⟨i,rfl⟩:∃i:Nat,i0=i:=⟨i0.toNat,by omega⟩
 obtain⟨k,rfl⟩:∃k:Nat,k0=k:=⟨k0.toNat,by omega⟩
 rw[show (i:Int).toNat=i from rfl,show (k:Int).toNat=k from rfl];refine KR hx hq ?_
 refine oY Tryz.func64 (by kernel_rfl) rfl ?_ h
 refine dK.evG aV 1 (aSV i k c) ?_;simp only[aL,bE]
 refine⟨dK.pre (aP (st':=cQ 19 [(0,iV i),(1,iV k),(5,.c (.ptr 0 0))] [.cells 51 (lA (TT c))]) (by kernel_rfl)) ?_⟩
 refine dK.evH (iX (by simp;exact BS (WK rD [(i:Int),(k:Int),c.fr,c.to,c.lo,c.hi]))) (aSU i k c [(i:Int),(k:Int),c.fr,c.to,c.lo,c.hi]) ?_;simp only[aX,aL,gX];exact⟨⟨⟨⟨trivial,⟨rfl,by decide⟩,trivial⟩,fun e o he ho=>by rw[MK i k c e o he ho];rfl⟩,⟨rfl,fun e o he ho=>congrArg pE (MK i k c e o he ho)⟩,rfl,by decide,show 6≤1000000 by decide⟩,⟨lO.refl _⟩⟩
theorem aC6(L:List Int):hO Tryz.prog G 20 (FM L):=by
 intro args p v hm hp h;unfold FM at hm
 split at hm;rotate_left;· cases hm
 split at hm;rotate_left;· cases hm
 rename_i x _ q hx;obtain⟨rfl,rfl⟩:=dB hm;clear hm;obtain⟨hq,h2⟩:=hp;refine lW.args (args':=[aQ dG 1 L]) ?_ (.cons (mE hx hq) .nil);refine GP rfl ?_ h;intro R w vs hr hg ha
 obtain⟨u,l,e,hu,ha⟩:=All2.nth2 ha;obtain rfl:=All2.nil2 ha;obtain⟨A,c,rfl,hnc,hcm,hc⟩:=(show PR R w (mU dG 1 L) u from hu)
 obtain rfl:vs = #[.slice A L.length c]:=by apply Array.ext';simpa using e
 have hRd:Rd w w.heap.size A L.length fun k=>.int .u64 (L.getD k 0):=fun hn=>by
  obtain⟨ad,rfl,hRb,hcell⟩:=hc hn;refine⟨ad,rfl,hr _ hRb,fun k hk=>?_⟩;obtain⟨u,e1,e2⟩:=hcell k 0 hk (by decide)
  have e2:u=.int .u64 (L.getD k default):=e2
  subst e2;rw[show k*1+0=k by omega]at e1;exact e1
 refine(callsIn_wide.1 (aCH Fence.wide 9 trivial trivial trivial trivial trivial trivial trivial trivial trivial rfl (by omega) A L.length c h2 L rfl w hRd)).mono ?_;rintro e w' ⟨hb,u,rfl,hP⟩;refine⟨u,rfl,?_,hb⟩
 show PR _ _ (mU IP 1 (nB L)) u
 unfold mU;rw[wY]
 refine aEU (aIT hP fun b hb=>.inr hb) fun e he=>?_
 unfold bF IP mU;rw[JG L he,kO];rfl
set_option maxRecDepth 100000 in
theorem aNK(L:List Int):hO Tryz.prog G 39 (aFP L):=by
 intro args p v hm hp h;unfold aFP at hm
 split at hm;rotate_left;· cases hm
 split at hm;rotate_left;· cases hm
 rename_i x _ q hx;obtain⟨rfl,rfl⟩:=dB hm;clear hm;obtain⟨hq,hL⟩:=hp;refine lW.args (args':=[aQ IP 1 (nB L)]) ?_ (.cons (mE hx hq) .nil)
 refine oY Tryz.func39 (by kernel_rfl) rfl ?_ h
 have hl:=wY L
 have hd:jS L.length≤10:=wO (by omega)
 refine dK.evH aV (tTp (nB L)) ?_
 have e1:(((nB L).length:Int)-1).toNat=jS L.length:=by omega
 have e2:(nB L).getD (jS L.length) default=mD gW L (jS L.length) (jS L.length):=JG L (by omega)
 have e3:=kO (pz:=gW) L (jS L.length) (jS L.length)
 rw[Nat.sub_self]at e3
 have e3:(mD gW L (jS L.length) (jS L.length)).length=1:=e3
 have e4:(mD gW L (jS L.length) (jS L.length)).getD (Int.toNat 0) default=rI L:=by
  rw[show Int.toNat 0=0 from rfl,pN L default (Nat.two_pow_pos _),Nat.zero_mul];rfl
 simp only[aX,aL,gX,e1,e2,e3,e4,inR];exact⟨by omega,⟨by omega,by omega⟩,⟨by decide,by decide⟩,⟨lO.refl _⟩⟩
set_option maxRecDepth 100000 in
theorem aJT(S:List Se):hO Tryz.prog G 16 (XG S):=by
 intro args p v hm hp h;unfold XG at hm
 split at hm;rotate_left;· cases hm
 split at hm;rotate_left;· cases hm
 rename_i x _ q hx;obtain⟨rfl,rfl⟩:=dB hm;clear hm;obtain⟨hq,hS⟩:=hp;refine lW.args (args':=[aQ bQ 13 S]) ?_ (.cons (mE hx hq) .nil)
 refine oY Tryz.func16 (by kernel_rfl) rfl ?_ h
 refine dK.evG aV 3 (aTU S) ?_;simp only[aL,bE];refine⟨?_⟩
 refine dK.loop' (l:=bZ 3 (dW Tryz.prog Tryz.f16)) (b:=inr (inr (aZ .skip (dW Tryz.prog Tryz.f16) 3))) (r:=bZ 4 (dW Tryz.prog Tryz.f16)) (id:=0) (by kernel_rfl) (σ:=Nat)
   (fun k=>(fun(out:List De) (k:Nat)=>cQ 20 [(0,aQ bQ 13 S),(3,.c (.sl 0 12 0 k)),(4,iV (k:Nat))] [.row 47 12 k (aR gG out)]) ((S.take k).map Se.d) k) (fun k=>k≤S.length) (fun k=>S.length-k) 0 (bK _) ((kE 47 12 (aR gG []) 3 (by kernel_rfl)).trans (aP (by kernel_rfl))) ?_
 rintro k hk Q1 q1n q1e -
 have hl:=nC Se.d S hk
 refine dK.evH aV (aTT S ((S.take k).map Se.d) k) ?_;simp only[eV,aX,aL,bE,jK,decide_eq_true_eq,decide_eq_false_iff_not,show (↑k:Int).toNat=k from rfl,inR];refine⟨fun c=>⟨⟨by omega,by omega⟩,trivial,aJ _,⟨by omega,by omega,aH8 (S.getD k default).d⟩,by omega,⟨q1n (k+1) _ (by omega) (by omega) ?_⟩⟩,fun c=>⟨q1e _ ?_⟩⟩
 ·show cL G _ ((fun(out:List De) (k:Nat)=>cQ 20 [(0,aQ bQ 13 S),(3,.c (.sl 0 12 0 k)),(4,iV (k:Nat))] [.row 47 12 k (aR gG out)]) ((S.take (k+1)).map Se.d) (k+1))
  rw[tG Se.d (by omega)];exact gU ⟨⟨rfl,rfl,rfl,fun e o he ho=>oT (ρ:=[2]) hl (aMJ (S.getD k default).d) he ho⟩,trivial⟩
 ·obtain rfl:k=S.length:=by omega
  refine dK.pre (aP (st':=(fun(out:List De) (k:Nat)=>cQ 20 [(0,aQ bQ 13 S),(3,.c (.sl 0 12 0 k)),(4,iV (k:Nat))] [.row 47 12 k (aR gG out)]) ((S.take S.length).map Se.d) S.length) (by kernel_rfl)) ?_
  refine dK.evH aV (aTS S ((S.take S.length).map Se.d) S.length) ?_;simp only[aX,aL,gX];refine⟨⟨by omega,fun _ _ _ _=>rfl⟩,⟨?_⟩⟩;rw[fL]
  exact kF (by simp) fun e o he ho=>rfl
set_option maxRecDepth 100000 in
theorem aFB(S:List Se):hO Tryz.prog G 41 (NZ S):=by
 intro args p v hm hp h;unfold NZ at hm
 split at hm;rotate_left;· cases hm
 split at hm;rotate_left;· cases hm
 rename_i x _ q hx;obtain⟨rfl,rfl⟩:=dB hm;clear hm;obtain⟨hq,hS,hC⟩:=hp;refine lW.args (args':=[aQ bQ 13 S]) ?_ (.cons (mE hx hq) .nil)
 refine oY Tryz.func41 (by kernel_rfl) rfl ?_ h
 refine dK.evG aV 3 (aU4 S) ?_;simp only[aL,bE];refine⟨?_⟩
 let fC:Se→Int:=fun s=>(s.C.length:Int)
 refine dK.loop' (l:=bZ 3 (dW Tryz.prog Tryz.f41)) (b:=inr (inr (aZ .skip (dW Tryz.prog Tryz.f41) 3))) (r:=bZ 4 (dW Tryz.prog Tryz.f41)) (id:=0) (by kernel_rfl) (σ:=Nat)
   (fun k=>(fun(out:List Int) (k:Nat)=>cQ 21 [(0,aQ bQ 13 S),(3,.c (.sl 0 1 0 k)),(4,iV (k:Nat))] [.row 3 1 k (aR aU out)]) ((S.take k).map fC) k) (fun k=>k≤S.length) (fun k=>S.length-k) 0 (bK _) ((kE 3 1 (aR aU []) 3 (by kernel_rfl)).trans (aP (by kernel_rfl))) ?_
 rintro k hk Q1 q1n q1e -
 have hl:=nC fC S hk
 refine dK.evH aV (aU3 S ((S.take k).map fC) k) ?_;simp only[eV,aX,aL,bE,jK,decide_eq_true_eq,decide_eq_false_iff_not,show (↑k:Int).toNat=k from rfl,inR];refine⟨fun c=>⟨⟨by omega,by omega⟩,trivial,aJ _,⟨by omega,by omega,yJ _⟩,by omega,⟨q1n (k+1) _ (by omega) (by omega) ?_⟩⟩,fun c=>⟨q1e _ ?_⟩⟩
 ·show cL G _ ((fun(out:List Int) (k:Nat)=>cQ 21 [(0,aQ bQ 13 S),(3,.c (.sl 0 1 0 k)),(4,iV (k:Nat))] [.row 3 1 k (aR aU out)]) ((S.take (k+1)).map fC) (k+1))
  rw[tG fC (by omega)];exact gU ⟨⟨rfl,rfl,rfl,fun e o he ho=>oT (ρ:=[2]) hl (YW _) he ho⟩,trivial⟩
 ·obtain rfl:k=S.length:=by omega
  refine dK.pre (aP (st':=(fun(out:List Int) (k:Nat)=>cQ 21 [(0,aQ bQ 13 S),(3,.c (.sl 0 1 0 k)),(4,iV (k:Nat))] [.row 3 1 k (aR aU out)]) ((S.take S.length).map fC) S.length) (by kernel_rfl)) ?_
  refine dK.evH aV (aU2 S ((S.take S.length).map fC) S.length) ?_;simp only[aX,aL,gX];refine⟨⟨by omega,fun _ _ _ _=>rfl⟩,⟨?_⟩⟩;rw[fL]
  exact kF (L:=lL S) (by unfold lL;simp) fun e o he ho=>rfl
set_option maxRecDepth 100000 in
theorem aF7(D:List De):hO Tryz.prog G 15 (NY D):=by
 intro args p v hm hp h;unfold NY at hm
 split at hm;rotate_left;· cases hm
 split at hm;rotate_left;· cases hm
 rename_i x _ q hx;obtain⟨rfl,rfl⟩:=dB hm;clear hm;obtain⟨hq,hS,hD⟩:=hp;refine lW.args (args':=[aQ gG 12 D]) ?_ (.cons (mE hx hq) .nil)
 refine oY Tryz.func15 (by kernel_rfl) rfl ?_ h
 refine dK.evG aV 3 (aT8 D) ?_;simp only[aL,bE];refine⟨?_⟩
 let fH:De→Int:=fun d=>BD mI (BC d)
 refine dK.loop' (l:=bZ 3 (dW Tryz.prog Tryz.f15)) (b:=inr (inr (aZ .skip (dW Tryz.prog Tryz.f15) 3))) (r:=bZ 4 (dW Tryz.prog Tryz.f15)) (id:=0) (by kernel_rfl) (σ:=Nat)
   (fun k=>(fun(out:List Int) (k:Nat)=>cQ 21 [(0,aQ gG 12 D),(3,.c (.sl 0 1 0 k)),(4,iV (k:Nat))] [.row 23 1 k (aR dG out)]) ((D.take k).map fH) k) (fun k=>k≤D.length) (fun k=>D.length-k) 0 (bK _) ((kE 23 1 (aR dG []) 3 (by kernel_rfl)).trans (aP (by kernel_rfl))) ?_
 rintro k hk Q1 q1n q1e -
 have hl:=nC fH D hk
 have hs:cF Tryz.prog G (kH [(35,XF (D.getD k default)),(34,xT mI (BC (D.getD k default)))]):=eB (by simp;exact⟨aFA _,aNN mI _⟩)
 refine dK.evH hs (aT7 D ((D.take k).map fH) (D.getD k default) (BC (D.getD k default)) k) ?_;simp only[eV,aX,aL,bE,jK,decide_eq_true_eq,decide_eq_false_iff_not,show (↑k:Int).toNat=k from rfl,inR];refine⟨fun c=>?_,fun c=>⟨q1e _ ?_⟩⟩
 ·have hd:=hD _ (uA (S:=D) (k:=k) (by omega))
  have hdl:=PA hd
  refine⟨⟨by omega,by omega⟩,⟨⟨⟨trivial,fun _ _ _ _=>trivial⟩,trivial,trivial,trivial,trivial,trivial,trivial,trivial,trivial,trivial,trivial,trivial⟩,hd⟩,⟨⟨trivial,fun _ _ _ _=>trivial⟩,rfl,by decide,by omega⟩,trivial,aJ _,⟨by omega,by omega,MF _⟩,by omega,⟨q1n (k+1) _ (by omega) (by omega) ?_⟩⟩
  show cL G _ ((fun(out:List Int) (k:Nat)=>cQ 21 [(0,aQ gG 12 D),(3,.c (.sl 0 1 0 k)),(4,iV (k:Nat))] [.row 23 1 k (aR dG out)]) ((D.take (k+1)).map fH) (k+1))
  rw[tG fH (by omega)];exact gU ⟨⟨rfl,rfl,rfl,fun e o he ho=>oT (ρ:=[2]) hl (PY _) he ho⟩,trivial⟩
 ·obtain rfl:k=D.length:=by omega
  refine dK.pre (aP (st':=(fun(out:List Int) (k:Nat)=>cQ 21 [(0,aQ gG 12 D),(3,.c (.sl 0 1 0 k)),(4,iV (k:Nat))] [.row 23 1 k (aR dG out)]) ((D.take D.length).map fH) D.length) (by kernel_rfl)) ?_
  refine dK.evH aV (aT6 D ((D.take D.length).map fH) D.length) ?_;simp only[aX,aL,gX];refine⟨⟨by omega,fun _ _ _ _=>rfl⟩,⟨?_⟩⟩;rw[fL]
  exact kF (L:=lR D) (by unfold lR;simp) fun e o he ho=>rfl
set_option maxRecDepth 100000 in
theorem WM(S:List Se):hO Tryz.prog G 36 (zA S):=by
 intro args p v hm hp h;unfold zA at hm
 split at hm;rotate_left;· cases hm
 split at hm;rotate_left;· cases hm
 rename_i x _ q hx;obtain⟨rfl,rfl⟩:=dB hm;clear hm;obtain⟨hq,hS,hC⟩:=hp;refine lW.args (args':=[aQ bQ 13 S]) ?_ (.cons (mE hx hq) .nil)
 refine oY Tryz.func36 (by kernel_rfl) rfl ?_ h
 refine dK.evG aV 4 (aTX S) ?_;simp only[aL,bE];refine⟨?_⟩
 let fC:Se→Int:=fun s=>(s.C.length:Int)
 refine dK.loop' (l:=bZ 4 (dW Tryz.prog Tryz.f36)) (b:=inr (inr (aZ .skip (dW Tryz.prog Tryz.f36) 4))) (r:=bZ 5 (dW Tryz.prog Tryz.f36)) (id:=0) (by kernel_rfl) (σ:=Nat)
   (fun k=>(fun(out:List De) (cs:List Int) (k:Nat)=>cQ 32 [(0,aQ bQ 13 S),(4,.c (.sl 0 12 0 k)),(5,.c (.sl 1 1 0 k)),(8,iV (S.length:Nat)),(9,iV (k:Nat))] [.row 47 12 k (aR gG out),.row 3 1 k (aR aU cs)]) ((S.take k).map Se.d) ((S.take k).map fC) k) (fun k=>k≤S.length) (fun k=>S.length-k) 0 (bK _) ((kE 47 12 (aR gG []) 4 (by kernel_rfl)).trans ((kE 3 1 (aR aU []) 5 (by kernel_rfl)).trans (aP (by kernel_rfl)))) ?_
 rintro k hk Q1 q1n q1e -
 have hl:=nC Se.d S hk
 have hl2:=nC fC S hk
 refine dK.evH aV (aTW S ((S.take k).map Se.d) ((S.take k).map fC) k) ?_;simp only[eV,aX,aL,bE,jK,decide_eq_true_eq,decide_eq_false_iff_not,show (↑k:Int).toNat=k from rfl,inR];refine⟨fun c=>?_,fun c=>⟨q1e _ ?_⟩⟩
 ·refine⟨⟨by omega,by omega⟩,trivial,aJ _,⟨by omega,by omega,aH8 (S.getD k default).d⟩,⟨by omega,by omega⟩,trivial,aJ _,⟨by omega,by omega,yJ _⟩,by omega,⟨q1n (k+1) _ (by omega) (by omega) ?_⟩⟩
  show cL G _ ((fun(out:List De) (cs:List Int) (k:Nat)=>cQ 32 [(0,aQ bQ 13 S),(4,.c (.sl 0 12 0 k)),(5,.c (.sl 1 1 0 k)),(8,iV (S.length:Nat)),(9,iV (k:Nat))] [.row 47 12 k (aR gG out),.row 3 1 k (aR aU cs)]) ((S.take (k+1)).map Se.d) ((S.take (k+1)).map fC) (k+1))
  rw[tG Se.d (by omega),tG fC (by omega)];exact gU ⟨⟨rfl,rfl,rfl,fun e o he ho=>oT (ρ:=[3,5]) hl (aMJ (S.getD k default).d) he ho⟩,⟨rfl,rfl,rfl,fun e o he ho=>oT (ρ:=[3,5]) hl2 (YW _) he ho⟩,trivial⟩
 ·obtain rfl:k=S.length:=by omega
  refine dK.pre (aP (st':=(fun(out:List De) (cs:List Int) (k:Nat)=>cQ 32 [(0,aQ bQ 13 S),(4,.c (.sl 0 12 0 k)),(5,.c (.sl 1 1 0 k)),(8,iV (S.length:Nat)),(9,iV (k:Nat))] [.row 47 12 k (aR gG out),.row 3 1 k (aR aU cs)]) ((S.take S.length).map Se.d) ((S.take S.length).map fC) S.length) (by kernel_rfl)) ?_
  refine dK.evH aV (aTV S ((S.take S.length).map Se.d) ((S.take S.length).map fC) S.length) ?_;simp only[aX,aL,gX];refine⟨⟨by omega,fun _ _ _ _=>rfl⟩,⟨by omega,fun _ _ _ _=>rfl⟩,⟨?_⟩⟩;rw[fL];exact lO.t (.cons (kF (L:=S.map Se.d) (by simp) fun e o he ho=>rfl) (.cons (kF (L:=lL S) (by unfold lL;simp) fun e o he ho=>rfl) .nil))
end
abbrev Pf:=Nat×Nat×Cl
def lI(x:Pf)(o:Nat):PV:=match o with
 |0=>.i .i64 (x.1:Int)
 |1=>.i .i64 (x.2.1:Int)
 |2=>.i .i64 x.2.2.fr
 |3=>.i .i64 x.2.2.to
 |4=>.i .i64 x.2.2.lo
 |5=>.i .i64 x.2.2.hi
 |_=>.z (.slice none 0 0)
def QY(i:Nat):Nat→List Cl→List Pf
 |_,[]=>[]
 |k,c::r=>(i,k,c)::QY i (k+1) r
def pfF:Nat→List Se→List Pf
 |_,[]=>[]
 |i,s::r=>QY i 0 s.C++pfF (i+1) r
def qN(x:Pf):Int:=qP x.1 x.2.1 x.2.2
theorem ZQ(i:Nat):∀(C:List Cl) (k:Nat),(QY i k C).map qN=vQ i k C
 |[],_=>rfl
 |c::r,k=>by show qN (i,k,c)::(QY i (k+1) r).map qN=_;rw[ZQ i r];rfl
theorem ZR:∀(S:List Se) (i:Nat),(pfF i S).map qN=oW i S
 |[],_=>rfl
 |s::r,i=>by show (QY i 0 s.C++pfF (i+1) r).map qN=_;rw[dT,ZQ,ZR r];rfl
theorem MM(i:Nat):∀(C:List Cl) (k:Nat),(QY i k C).length=C.length
 |[],_=>rfl
 |c::r,k=>by show (QY i (k+1) r).length+1=_;rw[MM i r];rfl
theorem MP:∀(S:List Se) (i:Nat),(∀s∈S,s.C.length≤10)→(pfF i S).length≤10*S.length
 |[],_,_=>bK _
 |s::r,i,h=>by
  show (QY i 0 s.C++pfF (i+1) r).length≤10*(r.length+1)
  rw[bJ,MM]
  have h1:=h s (List.mem_cons_self ..)
  have h2:=MP r (i+1) fun x hx=>h x (List.mem_cons_of_mem _ hx)
  omega
theorem QW(i:Nat):∀(C:List Cl) (a j:Nat),j<C.length→QY i a (C.take (j+1))=QY i a (C.take j)++[(i,a+j,C.getD j default)]
 |[],_,_,h=>by simp at h
 |c::r,a,0,_=>rfl
 |c::r,a,j+1,h=>by
  show (i,a,c)::QY i (a+1) (r.take (j+1))=(i,a,c)::QY i (a+1) (r.take j)++_
  rw[QW i r (a+1) j (by simpa using h),show a+1+j=a+(j+1) by omega];rfl
theorem RB:∀(S:List Se) (a i:Nat),i<S.length→pfF a (S.take (i+1))=pfF a (S.take i)++QY (a+i) 0 (S.getD i default).C
 |[],_,_,h=>by simp at h
 |s::r,a,0,_=>by show QY a 0 s.C++[]=[]++_;rw[iG];rfl
 |s::r,a,i+1,h=>by
  show QY a 0 s.C++pfF (a+1) (r.take (i+1))=(QY a 0 s.C++pfF (a+1) (r.take i))++_
  rw[RB r (a+1) i (by simpa using h),eN,show a+1+i=a+(i+1) by omega];rfl
def lG(S:List Se)(i j:Nat):List Pf:=pfF 0 (S.take i)++QY i 0 ((S.getD i default).C.take j)
theorem DM(S:List Se)(i:Nat):lG S i 0=pfF 0 (S.take i):=by unfold lG;rw[List.take_zero];show _++[]=_;rw[iG]
theorem RA(S:List Se){i:Nat}(h:i<S.length):lG S i (S.getD i default).C.length=lG S (i+1) 0:=by
 rw[DM,RB S 0 i h,cK];unfold lG;rw[fL]
theorem QZ(S:List Se){i j:Nat}(h:j<(S.getD i default).C.length):lG S i (j+1)=lG S i j++[(i,j,(S.getD i default).C.getD j default)]:=by
 unfold lG;rw[QW i _ 0 j h,cK,eN]
theorem MN{S:List Se}(hS:S.length≤10)(hC:∀s∈S,s.C.length≤10)(i j:Nat)(h:i≤S.length)(hj:j≤10):(lG S i j).length≤110:=by
 unfold lG;rw[bJ,MM,dY]
 have:=MP (S.take i) 0 fun s hs=>hC s (List.mem_of_mem_take hs)
 rw[dY]at this;omega
theorem MO(S:List Se):(lG S S.length 0).map qN=fE S:=by rw[DM,fL,ZR];rfl
def NV(S:List Se):Mod
 |[x]=>match IK bQ 13 x S with
  |some p=>some (p∧S.length≤10∧∀s∈S,s.C.length≤10,.t [.c (.p (mU lI 7 (lG S S.length 0))),.c (.p (mU IP 1 (nB (fE S))))])
  |none=>none
 |_=>none
def aMC(c:Cl):Ext:=kH [(62,KO c)]
def aMB(c:Cl):Ext:=kH [(64,KO c)]
theorem aSM(S:List Se):dI fR (dN 4 (dW Tryz.prog Tryz.f37)) (pZ Tryz.f37 [aQ bQ 13 S]) (eK (iU 44 [0,4,5,10,11]) (bU Tryz.prog Tryz.f37))=Tr.done X.normal
 (cQ 44 [(0,.c (.p (.l 13 S.length (bF bQ S)))),(4,.c (.p (.z (eM none 0 0)))),(5,.c (.p (.z (eM none 0 0)))),(10,.c (.p (.i .i64 (↑S.length:Int)))),(11,.c (.p (.i .i64 0)))] []):=by kernel_rfl
theorem aSL(S:List Se)(P:List Pf)(O:List Int)(k i:Nat):dI fR (dN 2 (jM (dW Tryz.prog Tryz.f37) 4)) (cQ 44 [(0,aQ bQ 13 S),(4,.c (.sl 0 7 0 k)),(5,.c (.sl 1 1 0 k)),(10,iV (S.length:Nat)),(11,iV (i:Nat))] [.row 108 7 k (aR lI P),.row 23 1 k (aR dG O)]) (eK (iU 44 [0,4,5,10,11]) (bU Tryz.prog Tryz.f37))=bT (decide ((↑i:Int)<(↑S.length:Int)))
 (.done .normal
 (cQ 44 [(0,.c (.p (.l 13 S.length (bF bQ S)))),(4,.c (.sl 0 7 0 k)),(5,.c (.sl 1 1 0 k)),(10,.c (.p (.i .i64 (↑S.length:Int)))),(11,.c (.p (.i .i64 (↑i:Int))))] [.row 108 7 k fun e o=>cI [0,1] (aR lI P e o),.row 23 1 k fun e o=>cI [0,1] (aR dG O e o)]))
 (.done (.exit 0)
 (cQ 44 [(0,.c (.p (.l 13 S.length (bF bQ S)))),(4,.c (.sl 0 7 0 k)),(5,.c (.sl 1 1 0 k)),(10,.c (.p (.i .i64 (↑S.length:Int)))),(11,.c (.p (.i .i64 (↑i:Int))))] [.row 108 7 k fun e o=>cI [0,1] (aR lI P e o),.row 23 1 k fun e o=>cI [0,1] (aR dG O e o)])):=by kernel_rfl
theorem aSK(S:List Se)(P:List Pf)(O:List Int)(k i:Nat):dI fR (dN 2 (iI (inr (aZ .skip (jM (dW Tryz.prog Tryz.f37) 4) 2)))) (cQ 44 [(0,aQ bQ 13 S),(4,.c (.sl 0 7 0 k)),(5,.c (.sl 1 1 0 k)),(10,iV (S.length:Nat)),(11,iV (i:Nat))] [.row 108 7 k (aR lI P),.row 23 1 k (aR dG O)]) (eK (iU 44 [0,4,5,6,10,11,18,19,20]) (bU Tryz.prog Tryz.f37))=Tr.rq (0≤(↑i:Int)∧(↑i:Int)<(↑S.length:Int))
 (.done .normal
 (cQ 44 [(0,.c (.p (.l 13 S.length (bF bQ S)))),(4,.c (.sl 0 7 0 k)),(5,.c (.sl 1 1 0 k)),(6,.c (.p (.i .i64 (↑i:Int)))),(10,.c (.p (.i .i64 (↑S.length:Int)))),(11,.c (.p (.i .i64 (↑i:Int)))),(18,.c (.p (.l 4 (S.getD (↑i:Int).toNat default).C.length (bF eH (S.getD (↑i:Int).toNat default).C)))),(19,.c (.p (.i .i64 (↑(S.getD (↑i:Int).toNat default).C.length:Int)))),(20,.c (.p (.i .i64 0)))] [.row 108 7 k fun e o=>cI [0,1] (aR lI P e o),.row 23 1 k fun e o=>cI [0,1] (aR dG O e o)])):=by kernel_rfl
theorem aSJ(S:List Se)(D:List Cl)(P:List Pf)(O:List Int)(k i j:Nat):dI fR (dN 2 (jM (iI (inr (aZ .skip (jM (dW Tryz.prog Tryz.f37) 4) 2))) 2)) (cQ 44 [(0,aQ bQ 13 S),(4,.c (.sl 0 7 0 k)),(5,.c (.sl 1 1 0 k)),(10,iV (S.length:Nat)),(11,iV (i:Nat)),(6,iV (i:Nat)),(18,aQ eH 4 D),(19,iV (D.length:Nat)),(20,iV (j:Nat))] [.row 108 7 k (aR lI P),.row 23 1 k (aR dG O)]) (eK (iU 44 [0,4,5,6,10,11,18,19,20]) (bU Tryz.prog Tryz.f37))=bT (decide ((↑j:Int)<(↑D.length:Int)))
 (.done .normal
 (cQ 44 [(0,.c (.p (.l 13 S.length (bF bQ S)))),(4,.c (.sl 0 7 0 k)),(5,.c (.sl 1 1 0 k)),(6,.c (.p (.i .i64 (↑i:Int)))),(10,.c (.p (.i .i64 (↑S.length:Int)))),(11,.c (.p (.i .i64 (↑i:Int)))),(18,.c (.p (.l 4 D.length (bF eH D)))),(19,.c (.p (.i .i64 (↑D.length:Int)))),(20,.c (.p (.i .i64 (↑j:Int))))] [.row 108 7 k fun e o=>cI [0,1] (aR lI P e o),.row 23 1 k fun e o=>cI [0,1] (aR dG O e o)]))
 (.done (.exit 2)
 (cQ 44 [(0,.c (.p (.l 13 S.length (bF bQ S)))),(4,.c (.sl 0 7 0 k)),(5,.c (.sl 1 1 0 k)),(6,.c (.p (.i .i64 (↑i:Int)))),(10,.c (.p (.i .i64 (↑S.length:Int)))),(11,.c (.p (.i .i64 (↑i:Int)))),(18,.c (.p (.l 4 D.length (bF eH D)))),(19,.c (.p (.i .i64 (↑D.length:Int)))),(20,.c (.p (.i .i64 (↑j:Int))))] [.row 108 7 k fun e o=>cI [0,1] (aR lI P e o),.row 23 1 k fun e o=>cI [0,1] (aR dG O e o)])):=by kernel_rfl
theorem aSI(S:List Se)(D:List Cl)(c:Cl)(P:List Pf)(O:List Int)(k i j:Nat):dI (aMC c) (bZ 2 (jM (iI (inr (aZ .skip (jM (dW Tryz.prog Tryz.f37) 4) 2))) 2)) (cQ 44 [(0,aQ bQ 13 S),(4,.c (.sl 0 7 0 k)),(5,.c (.sl 1 1 0 k)),(10,iV (S.length:Nat)),(11,iV (i:Nat)),(6,iV (i:Nat)),(18,aQ eH 4 D),(19,iV (D.length:Nat)),(20,iV (j:Nat))] [.row 108 7 k (aR lI P),.row 23 1 k (aR dG O)]) (eK (iU 44 [0,4,5,6,10,11,18,19,20]) (bU Tryz.prog Tryz.f37))=Tr.rq (0≤(↑j:Int)∧(↑j:Int)<(↑D.length:Int))
 (.rq (k=k)
 (.rq (1≤1)
 (.rq
 ((k+1)*72≤140737488355328 ∧
 k+1≤140737488355328 ∧
 ∀(e o:Nat),
 e<1 →
 o<7 →
 jH
 (kY
 [C.p (PV.i aC (↑i:Int)),C.p (PV.i aC (↑j:Int)),C.p (PV.i aC (D.getD (↑j:Int).toNat default).fr),
 C.p (PV.i aC (D.getD (↑j:Int).toNat default).to),C.p (PV.i aC (D.getD (↑j:Int).toNat default).lo),
 C.p (PV.i aC (D.getD (↑j:Int).toNat default).hi),C.p (PV.z (eM none 0 0))]
 7 1 (e+0) o) =
 true)
 (.rq
 (((D.getD (↑j:Int).toNat default).fr=c.fr∧(D.getD (↑j:Int).toNat default).to=c.to∧(D.getD (↑j:Int).toNat default).lo=c.lo∧(D.getD (↑j:Int).toNat default).hi=c.hi) ∧
 0≤(↑i:Int)∧0≤(↑j:Int))
 (.rq (k=k)
 (.rq (1≤1)
 (.rq
 ((k+1)*8≤140737488355328 ∧
 k+1≤140737488355328∧∀(e o:Nat),e<1→o<1→jH (kY [C.p (PV.i bD (qP (↑i:Int).toNat (↑j:Int).toNat c))] 1 1 (e+0) o)=true)
 (.rq (inR aC ((↑j:Int)+1))
 (.done .normal
 (cQ 44 [(0,.c (.p (.l 13 S.length (bF bQ S)))),(4,.c (.sl 0 7 0 (k+1))),(5,.c (.sl 1 1 0 (k+1))),(6,.c (.p (.i .i64 (↑i:Int)))),(10,.c (.p (.i .i64 (↑S.length:Int)))),(11,.c (.p (.i .i64 (↑i:Int)))),(18,.c (.p (.l 4 D.length (bF eH D)))),(19,.c (.p (.i .i64 (↑D.length:Int)))),(20,.c (.p (.i .i64 ((↑j:Int)+1))))] [.row 108 7 (k+1) fun e o=>cI [4,6] (fU k (aR lI P) (fun e o=>aZ C.top [C.p (PV.i aC (↑i:Int)),C.p (PV.i aC (↑j:Int)),C.p (PV.i aC (D.getD (↑j:Int).toNat default).fr),C.p (PV.i aC (D.getD (↑j:Int).toNat default).to),C.p (PV.i aC (D.getD (↑j:Int).toNat default).lo),C.p (PV.i aC (D.getD (↑j:Int).toNat default).hi),C.p (PV.z (eM none 0 0))] ((e+0)*7+o)) e o),.row 23 1 (k+1) fun e o=>cI [4,6] (fU k (aR dG O) (fun e o=>aZ C.top [C.p (PV.i bD (qP (↑i:Int).toNat (↑j:Int).toNat c))] ((e+0)*1+o)) e o)])))))))))):=by kernel_rfl
theorem aSH(S:List Se)(P:List Pf)(O:List Int)(k i:Nat):dI fR (bZ 3 (jM (dW Tryz.prog Tryz.f37) 4)) (cQ 44 [(0,aQ bQ 13 S),(4,.c (.sl 0 7 0 k)),(5,.c (.sl 1 1 0 k)),(10,iV (S.length:Nat)),(11,iV (i:Nat))] [.row 108 7 k (aR lI P),.row 23 1 k (aR dG O)]) (eK (iU 44 [0,4,5,10,11]) (bU Tryz.prog Tryz.f37))=Tr.rq (inR aC ((↑i:Int)+1))
 (.done .normal
 (cQ 44 [(0,.c (.p (.l 13 S.length (bF bQ S)))),(4,.c (.sl 0 7 0 k)),(5,.c (.sl 1 1 0 k)),(10,.c (.p (.i .i64 (↑S.length:Int)))),(11,.c (.p (.i .i64 ((↑i:Int)+1))))] [.row 108 7 k fun e o=>cI [0,1] (aR lI P e o),.row 23 1 k fun e o=>cI [0,1] (aR dG O e o)])):=by kernel_rfl
theorem aSG(S:List Se)(P:List Pf)(O:List Int)(k:Nat):dI (kH [(20,FM O)]) (bZ 5 (dW Tryz.prog Tryz.f37)) (cQ 44 [(4,.c (.sl 0 7 0 k)),(5,aQ dG 1 O)] [.row 108 7 k (aR lI P)]) (eK [] (bU Tryz.prog Tryz.f37))=Tr.rq ((O.length=O.length∧∀(e o:Nat),e<O.length→o<1→bF dG O e o=bF dG O e o)∧O.length≤1000)
 (.rq (0+k≤k∧∀(e o:Nat),e<k→o<7→zE (aR lI P (e+0) o)=true)
 (.done .ret (St.mk [V.t [V1.c (C.p (PV.l 7 k fun e o=>pE (aR lI P (e+0) o))),V1.c (C.p (PV.l 1 (nB O).length (bF IP (nB O))))]] []))):=by kernel_rfl
theorem aST(S:List Se):dI fR (dN 3 (dW Tryz.prog Tryz.f42)) (pZ Tryz.f42 [aQ bQ 13 S]) (eK (iU 37 [0,3,4]) (bU Tryz.prog Tryz.f42))=Tr.done X.normal
 (cQ 37 [(0,.c (.p (.l 13 S.length (bF bQ S)))),(3,.c (.p (.z (eM none 0 0)))),(4,.c (.p (.i .i64 0)))] []):=by kernel_rfl
theorem aSS(S:List Se)(O:List Int)(k i:Nat):dI fR (dN 2 (jM (dW Tryz.prog Tryz.f42) 3)) (cQ 37 [(0,aQ bQ 13 S),(3,.c (.sl 0 1 0 k)),(4,iV (i:Nat))] [.row 23 1 k (aR dG O)]) (eK (iU 37 [0,3,4]) (bU Tryz.prog Tryz.f42))=bT (decide ((↑i:Int)<(↑S.length:Int)))
 (.done .normal
 (cQ 37 [(0,.c (.p (.l 13 S.length (bF bQ S)))),(3,.c (.sl 0 1 0 k)),(4,.c (.p (.i .i64 (↑i:Int))))] [.row 23 1 k fun e o=>cI [0] (aR dG O e o)]))
 (.done (.exit 0)
 (cQ 37 [(0,.c (.p (.l 13 S.length (bF bQ S)))),(3,.c (.sl 0 1 0 k)),(4,.c (.p (.i .i64 (↑i:Int))))] [.row 23 1 k fun e o=>cI [0] (aR dG O e o)])):=by kernel_rfl
theorem aSR(S:List Se)(O:List Int)(k i:Nat):dI fR (dN 1 (iI (inr (aZ .skip (jM (dW Tryz.prog Tryz.f42) 3) 2)))) (cQ 37 [(0,aQ bQ 13 S),(3,.c (.sl 0 1 0 k)),(4,iV (i:Nat))] [.row 23 1 k (aR dG O)]) (eK (iU 37 [0,3,4,5]) (bU Tryz.prog Tryz.f42))=Tr.done X.normal
 (cQ 37 [(0,.c (.p (.l 13 S.length (bF bQ S)))),(3,.c (.sl 0 1 0 k)),(4,.c (.p (.i .i64 (↑i:Int)))),(5,.c (.p (.i .i64 0)))] [.row 23 1 k fun e o=>cI [0] (aR dG O e o)]):=by kernel_rfl
theorem aSQ(S:List Se)(O:List Int)(k i j:Nat):dI fR (dN 2 (jM (iI (inr (aZ .skip (jM (dW Tryz.prog Tryz.f42) 3) 2))) 1)) (cQ 37 [(0,aQ bQ 13 S),(3,.c (.sl 0 1 0 k)),(4,iV (i:Nat)),(5,iV (j:Nat))] [.row 23 1 k (aR dG O)]) (eK (iU 37 [0,3,4,5]) (bU Tryz.prog Tryz.f42))=Tr.rq (0≤(↑i:Int)∧(↑i:Int)<(↑S.length:Int))
 (bT (decide ((↑j:Int)<(↑(S.getD (↑i:Int).toNat default).C.length:Int)))
 (.done .normal
 (cQ 37 [(0,.c (.p (.l 13 S.length (bF bQ S)))),(3,.c (.sl 0 1 0 k)),(4,.c (.p (.i .i64 (↑i:Int)))),(5,.c (.p (.i .i64 (↑j:Int))))] [.row 23 1 k fun e o=>cI [0] (aR dG O e o)]))
 (.done (.exit 2)
 (cQ 37 [(0,.c (.p (.l 13 S.length (bF bQ S)))),(3,.c (.sl 0 1 0 k)),(4,.c (.p (.i .i64 (↑i:Int)))),(5,.c (.p (.i .i64 (↑j:Int))))] [.row 23 1 k fun e o=>cI [0] (aR dG O e o)]))):=by kernel_rfl
theorem aSP(S:List Se)(c:Cl)(O:List Int)(k i j:Nat):dI (aMB c) (bZ 2 (jM (iI (inr (aZ .skip (jM (dW Tryz.prog Tryz.f42) 3) 2))) 1)) (cQ 37 [(0,aQ bQ 13 S),(3,.c (.sl 0 1 0 k)),(4,iV (i:Nat)),(5,iV (j:Nat))] [.row 23 1 k (aR dG O)]) (eK (iU 37 [0,3,4,5]) (bU Tryz.prog Tryz.f42))=Tr.rq (0≤(↑i:Int)∧(↑i:Int)<(↑S.length:Int))
 (.rq (0≤(↑j:Int)∧(↑j:Int)<(↑(S.getD (↑i:Int).toNat default).C.length:Int))
 (.rq
 ((((S.getD (↑i:Int).toNat default).C.getD (↑j:Int).toNat default).fr=c.fr ∧
 ((S.getD (↑i:Int).toNat default).C.getD (↑j:Int).toNat default).to=c.to ∧
 ((S.getD (↑i:Int).toNat default).C.getD (↑j:Int).toNat default).lo=c.lo∧((S.getD (↑i:Int).toNat default).C.getD (↑j:Int).toNat default).hi=c.hi) ∧
 0≤(↑i:Int)∧0≤(↑j:Int))
 (.rq (k=k)
 (.rq (1≤1)
 (.rq
 ((k+1)*8≤140737488355328 ∧
 k+1≤140737488355328∧∀(e o:Nat),e<1→o<1→jH (kY [C.p (PV.i bD (qP (↑i:Int).toNat (↑j:Int).toNat c))] 1 1 (e+0) o)=true)
 (.rq (inR aC ((↑j:Int)+1))
 (.done .normal
 (cQ 37 [(0,.c (.p (.l 13 S.length (bF bQ S)))),(3,.c (.sl 0 1 0 (k+1))),(4,.c (.p (.i .i64 (↑i:Int)))),(5,.c (.p (.i .i64 ((↑j:Int)+1))))] [.row 23 1 (k+1) fun e o=>cI [2] (fU k (aR dG O) (fun e o=>aZ C.top [C.p (PV.i bD (qP (↑i:Int).toNat (↑j:Int).toNat c))] ((e+0)*1+o)) e o)])))))))):=by kernel_rfl
theorem aSO(S:List Se)(O:List Int)(k i:Nat):dI fR (bZ 3 (jM (dW Tryz.prog Tryz.f42) 3)) (cQ 37 [(0,aQ bQ 13 S),(3,.c (.sl 0 1 0 k)),(4,iV (i:Nat))] [.row 23 1 k (aR dG O)]) (eK (iU 37 [0,3,4]) (bU Tryz.prog Tryz.f42))=Tr.rq (inR aC ((↑i:Int)+1))
 (.done .normal
 (cQ 37 [(0,.c (.p (.l 13 S.length (bF bQ S)))),(3,.c (.sl 0 1 0 k)),(4,.c (.p (.i .i64 ((↑i:Int)+1))))] [.row 23 1 k fun e o=>cI [0] (aR dG O e o)])):=by kernel_rfl
theorem aSN(S:List Se)(O:List Int)(k i:Nat):dI fR (bZ 4 (dW Tryz.prog Tryz.f42)) (cQ 37 [(0,aQ bQ 13 S),(3,.c (.sl 0 1 0 k)),(4,iV (i:Nat))] [.row 23 1 k (aR dG O)]) (eK [] (bU Tryz.prog Tryz.f42))=Tr.rq (0+k≤k∧∀(e o:Nat),e<k→o<1→zE (aR dG O (e+0) o)=true) (.done .ret (St.mk [V.c (C.p (PV.l 1 k fun e o=>pE (aR dG O (e+0) o)))] [])):=by kernel_rfl
theorem aN6(i j:Nat)(c:Cl):∀e o:Nat,e<1→o<7→jH (kY [C.p (PV.i aC (i:Int)),C.p (PV.i aC (j:Int)),C.p (PV.i aC c.fr),C.p (PV.i aC c.to),C.p (PV.i aC c.lo),C.p (PV.i aC c.hi),C.p (PV.z (eM none 0 0))] 7 1 (e+0) o)=true:=by
 intro e o he ho
 obtain rfl:e=0:=by omega
 match o,ho with
 |0,_|1,_|2,_|3,_|4,_|5,_|6,_=>rfl
theorem aPW(i j:Nat)(c:Cl):∀o:Nat,o<7→(fun e o:Nat=>aZ C.top [C.p (PV.i aC (i:Int)),C.p (PV.i aC (j:Int)),C.p (PV.i aC c.fr),C.p (PV.i aC c.to),C.p (PV.i aC c.lo),C.p (PV.i aC c.hi),C.p (PV.z (eM none 0 0))] ((e+0)*7+o)) 0 o=.p (lI (i,j,c) o):=by
 intro o ho
 match o,ho with
 |0,_|1,_|2,_|3,_|4,_|5,_|6,_=>rfl
section
variable {G:Nat→Option Obj}
theorem TC(c:Cl):cF Tryz.prog G (aMC c):=eB (by simp;exact aNP c)
theorem TB(c:Cl):cF Tryz.prog G (aMB c):=eB (by simp;exact aJO c)
theorem NS(P:List Pf):(P.map qN).length=P.length:=eA ..
set_option maxRecDepth 100000 in
set_option maxHeartbeats 1000000 in
theorem aF5(S:List Se):hO Tryz.prog G 37 (NV S):=by
 intro args p v hm hp h;unfold NV at hm
 split at hm;rotate_left;· cases hm
 split at hm;rotate_left;· cases hm
 rename_i x _ q hx;obtain⟨rfl,rfl⟩:=dB hm;clear hm;obtain⟨hq,hS,hC⟩:=hp;refine lW.args (args':=[aQ bQ 13 S]) ?_ (.cons (mE hx hq) .nil)
 refine oY Tryz.func37 (by kernel_rfl) rfl ?_ h
 refine dK.evG aV 4 (aSM S) ?_;simp only[aL,bE];refine⟨?_⟩
 refine dK.loop' (l:=bZ 4 (dW Tryz.prog Tryz.f37)) (b:=inr (inr (aZ .skip (dW Tryz.prog Tryz.f37) 4))) (r:=bZ 5 (dW Tryz.prog Tryz.f37)) (id:=0) (by kernel_rfl) (σ:=Nat)
   (fun i=>(fun(P:List Pf) (O:List Int) (k i:Nat)=>cQ 44 [(0,aQ bQ 13 S),(4,.c (.sl 0 7 0 k)),(5,.c (.sl 1 1 0 k)),(10,iV (S.length:Nat)),(11,iV (i:Nat))] [.row 108 7 k (aR lI P),.row 23 1 k (aR dG O)]) (lG S i 0) ((lG S i 0).map qN) (lG S i 0).length i) (fun i=>i≤S.length) (fun i=>S.length-i) 0 (bK _) ((kE 108 7 (aR lI []) 4 (by kernel_rfl)).trans ((kE 23 1 (aR dG []) 5 (by kernel_rfl)).trans (aP (by kernel_rfl)))) ?_
 rintro i hi Q1 q1n q1e -;refine dK.evG aV 2 (aSL S (lG S i 0) ((lG S i 0).map qN) (lG S i 0).length i) ?_;simp only[eV,aX,aL,bE,jK,decide_eq_true_eq,decide_eq_false_iff_not];refine⟨fun c=>⟨?_⟩,fun c=>⟨q1e _ ?_⟩⟩
 ·have hlt:i<S.length:=by omega
  refine dK.blk' (l:=bZ 2 (jM (dW Tryz.prog Tryz.f37) 4)) (id:=1) (a:=inr (aZ .skip (jM (dW Tryz.prog Tryz.f37) 4) 2)) (r:=bZ 3 (jM (dW Tryz.prog Tryz.f37) 4)) (by kernel_rfl) ?_
  intro Q2 q2n q2e _
  refine dK.pre (aP (st':=(fun(P:List Pf) (O:List Int) (k i:Nat)=>cQ 44 [(0,aQ bQ 13 S),(4,.c (.sl 0 7 0 k)),(5,.c (.sl 1 1 0 k)),(10,iV (S.length:Nat)),(11,iV (i:Nat))] [.row 108 7 k (aR lI P),.row 23 1 k (aR dG O)]) (lG S i 0) ((lG S i 0).map qN) (lG S i 0).length i) (by kernel_rfl)) ?_
  refine dK.evG aV 2 (aSK S (lG S i 0) ((lG S i 0).map qN) (lG S i 0).length i) ?_;simp only[aX,aL,bE,show (↑i:Int).toNat=i from rfl];refine⟨⟨by omega,by omega⟩,⟨?_⟩⟩
  have hCi:=hC _ (uA hlt)
  have hst:=fun j=>QZ S (i:=i) (j:=j)
  have hnx:=RA S hlt
  generalize (S.getD i default).C=D at hCi hst hnx ⊢
  refine dK.loop' (l:=bZ 2 (iI (inr (aZ .skip (jM (dW Tryz.prog Tryz.f37) 4) 2)))) (b:=inr (inr (aZ .skip (iI (inr (aZ .skip (jM (dW Tryz.prog Tryz.f37) 4) 2))) 2))) (r:=bZ 3 (iI (inr (aZ .skip (jM (dW Tryz.prog Tryz.f37) 4) 2)))) (id:=2) (by kernel_rfl) (σ:=Nat)
    (fun j=>(fun(P:List Pf) (O:List Int) (k i j:Nat)=>cQ 44 [(0,aQ bQ 13 S),(4,.c (.sl 0 7 0 k)),(5,.c (.sl 1 1 0 k)),(10,iV (S.length:Nat)),(11,iV (i:Nat)),(6,iV (i:Nat)),(18,aQ eH 4 D),(19,iV (D.length:Nat)),(20,iV (j:Nat))] [.row 108 7 k (aR lI P),.row 23 1 k (aR dG O)]) (lG S i j) ((lG S i j).map qN) (lG S i j).length i j) (fun j=>j≤D.length) (fun j=>D.length-j) 0 (bK _) (aP (by kernel_rfl)) ?_
  rintro j hj Q3 q3n q3e -
  have hpl:=MN hS hC i j hi (by omega)
  have hml:=NS (lG S i j)
  refine dK.evG aV 2 (aSJ S D (lG S i j) ((lG S i j).map qN) (lG S i j).length i j) ?_;simp only[eV,aX,aL,bE,jK,decide_eq_true_eq,decide_eq_false_iff_not];refine⟨fun c=>⟨?_⟩,fun c=>⟨q3e _ ?_⟩⟩
  ·have hjl:j<D.length:=by omega
   have hst:=hst j hjl
   refine dK.pre (aP (st':=(fun(P:List Pf) (O:List Int) (k i j:Nat)=>cQ 44 [(0,aQ bQ 13 S),(4,.c (.sl 0 7 0 k)),(5,.c (.sl 1 1 0 k)),(10,iV (S.length:Nat)),(11,iV (i:Nat)),(6,iV (i:Nat)),(18,aQ eH 4 D),(19,iV (D.length:Nat)),(20,iV (j:Nat))] [.row 108 7 k (aR lI P),.row 23 1 k (aR dG O)]) (lG S i j) ((lG S i j).map qN) (lG S i j).length i j) (by kernel_rfl)) ?_
   refine dK.evH (TC (D.getD j default)) (aSI S D (D.getD j default) (lG S i j) ((lG S i j).map qN) (lG S i j).length i j) ?_;simp only[aX,aL,bE,show (↑i:Int).toNat=i from rfl,show (↑j:Int).toNat=j from rfl]
   generalize D.getD j default=c at hst ⊢
   have hst2:(lG S i (j+1)).length=(lG S i j).length+1:=by rw[hst,bJ];rfl
   refine⟨⟨by omega,by omega⟩,trivial,aJ _,⟨by omega,by omega,aN6 i j c⟩,⟨⟨trivial,trivial,trivial,trivial⟩,by omega,by omega⟩,trivial,aJ _,⟨by omega,by omega,MF _⟩,by simp only[inR];omega,⟨q3n (j+1) _ hjl (by omega) ?_⟩⟩
   show cL G _ ((fun(P:List Pf) (O:List Int) (k i j:Nat)=>cQ 44 [(0,aQ bQ 13 S),(4,.c (.sl 0 7 0 k)),(5,.c (.sl 1 1 0 k)),(10,iV (S.length:Nat)),(11,iV (i:Nat)),(6,iV (i:Nat)),(18,aQ eH 4 D),(19,iV (D.length:Nat)),(20,iV (j:Nat))] [.row 108 7 k (aR lI P),.row 23 1 k (aR dG O)]) (lG S i (j+1)) ((lG S i (j+1)).map qN) (lG S i (j+1)).length i (j+1))
   rw[hst2,hst,dT];exact gU ⟨⟨rfl,rfl,rfl,fun e o he ho=>oT (ρ:=[4,6]) rfl (aPW i j c) he ho⟩,⟨rfl,rfl,rfl,fun e o he ho=>oT (ρ:=[4,6]) hml (PY _) he ho⟩,trivial⟩
  ·obtain rfl:j=D.length:=by omega
   rw[hnx]
   refine⟨_,cL.refl _,q2n _ (dK.pre ((iT (iU 44 [0,4,5,10,11]) _).trans (aP (st':=(fun(P:List Pf) (O:List Int) (k i:Nat)=>cQ 44 [(0,aQ bQ 13 S),(4,.c (.sl 0 7 0 k)),(5,.c (.sl 1 1 0 k)),(10,iV (S.length:Nat)),(11,iV (i:Nat))] [.row 108 7 k (aR lI P),.row 23 1 k (aR dG O)]) (lG S (i+1) 0) ((lG S (i+1) 0).map qN) (lG S (i+1) 0).length i) (by kernel_rfl))) ?_)⟩
   refine dK.evH aV (aSH S (lG S (i+1) 0) ((lG S (i+1) 0).map qN) (lG S (i+1) 0).length i) ?_;simp only[aX,aL,bE,inR]
   exact⟨by omega,⟨q1n (i+1) _ hlt (by omega) (aP (by kernel_rfl))⟩⟩
 ·obtain rfl:i=S.length:=by omega
  have hpl:=MN hS hC S.length 0 (aJ _) (by omega)
  have hml:=NS (lG S S.length 0)
  have hal:=MO S
  rw[hal]at hml ⊢
  generalize lG S S.length 0=P at hpl hml hal ⊢
  generalize fE S=O at hml hal ⊢
  rw[←hml];rw[←hml]at hpl
  refine dK.pre ((pC (id:=1) (ty:=23) (sz:=1) (n:=O.length) (f:=fun e o=>cI [0,1] (aR dG O e o)) (bF dG O) (by kernel_rfl) (fun e o he ho=>rfl) (fun e o he ho=>nM.refl _) (ps:=[(0,O.length)]) (by kernel_rfl) (by simp)).trans ((iT (iU 44 [4,5]) _).trans (aP (st':=(fun(k:Nat)=>cQ 44 [(4,.c (.sl 0 7 0 k)),(5,aQ dG 1 O)] [.row 108 7 k (aR lI P)]) O.length) (by kernel_rfl)))) ?_
  refine dK.evH (eB (by simp;exact aC6 O)) (aSG S P O O.length) ?_;simp only[aX,aL,gX];refine⟨⟨⟨trivial,fun _ _ _ _=>trivial⟩,by omega⟩,⟨by omega,fun e o he ho=>?_⟩,⟨lO.t (.cons (kF hml fun e o he ho=>rfl) (.cons (lO.refl _) .nil))⟩⟩
  match o,ho with
  |0,_|1,_|2,_|3,_|4,_|5,_|6,_=>rfl
set_option maxRecDepth 100000 in
set_option maxHeartbeats 1000000 in
theorem aF6(S:List Se):hO Tryz.prog G 42 (NX S):=by
 intro args p v hm hp h;unfold NX at hm
 split at hm;rotate_left;· cases hm
 split at hm;rotate_left;· cases hm
 rename_i x _ q hx;obtain⟨rfl,rfl⟩:=dB hm;clear hm;obtain⟨hq,hS,hC⟩:=hp;refine lW.args (args':=[aQ bQ 13 S]) ?_ (.cons (mE hx hq) .nil)
 refine oY Tryz.func42 (by kernel_rfl) rfl ?_ h
 refine dK.evG aV 3 (aST S) ?_;simp only[aL,bE];refine⟨?_⟩
 refine dK.loop' (l:=bZ 3 (dW Tryz.prog Tryz.f42)) (b:=inr (inr (aZ .skip (dW Tryz.prog Tryz.f42) 3))) (r:=bZ 4 (dW Tryz.prog Tryz.f42)) (id:=0) (by kernel_rfl) (σ:=Nat)
   (fun i=>(fun(O:List Int) (k i:Nat)=>cQ 37 [(0,aQ bQ 13 S),(3,.c (.sl 0 1 0 k)),(4,iV (i:Nat))] [.row 23 1 k (aR dG O)]) ((lG S i 0).map qN) ((lG S i 0).map qN).length i) (fun i=>i≤S.length) (fun i=>S.length-i) 0 (bK _) ((kE 23 1 (aR dG []) 3 (by kernel_rfl)).trans (aP (by kernel_rfl))) ?_
 rintro i hi Q1 q1n q1e -;refine dK.evG aV 2 (aSS S ((lG S i 0).map qN) ((lG S i 0).map qN).length i) ?_;simp only[eV,aX,aL,bE,jK,decide_eq_true_eq,decide_eq_false_iff_not];refine⟨fun c=>⟨?_⟩,fun c=>⟨q1e _ ?_⟩⟩
 ·have hlt:i<S.length:=by omega
  refine dK.blk' (l:=bZ 2 (jM (dW Tryz.prog Tryz.f42) 3)) (id:=1) (a:=inr (aZ .skip (jM (dW Tryz.prog Tryz.f42) 3) 2)) (r:=bZ 3 (jM (dW Tryz.prog Tryz.f42) 3)) (by kernel_rfl) ?_
  intro Q2 q2n q2e _
  refine dK.pre (aP (st':=(fun(O:List Int) (k i:Nat)=>cQ 37 [(0,aQ bQ 13 S),(3,.c (.sl 0 1 0 k)),(4,iV (i:Nat))] [.row 23 1 k (aR dG O)]) ((lG S i 0).map qN) ((lG S i 0).map qN).length i) (by kernel_rfl)) ?_
  refine dK.evG aV 1 (aSR S ((lG S i 0).map qN) ((lG S i 0).map qN).length i) ?_;simp only[aX,aL,bE];refine⟨?_⟩
  have hCi:=hC _ (uA hlt)
  refine dK.loop' (l:=bZ 1 (iI (inr (aZ .skip (jM (dW Tryz.prog Tryz.f42) 3) 2)))) (b:=inr (inr (aZ .skip (iI (inr (aZ .skip (jM (dW Tryz.prog Tryz.f42) 3) 2))) 1))) (r:=bZ 2 (iI (inr (aZ .skip (jM (dW Tryz.prog Tryz.f42) 3) 2)))) (id:=2) (by kernel_rfl) (σ:=Nat)
    (fun j=>(fun(O:List Int) (k i j:Nat)=>cQ 37 [(0,aQ bQ 13 S),(3,.c (.sl 0 1 0 k)),(4,iV (i:Nat)),(5,iV (j:Nat))] [.row 23 1 k (aR dG O)]) ((lG S i j).map qN) ((lG S i j).map qN).length i j) (fun j=>j≤(S.getD i default).C.length) (fun j=>(S.getD i default).C.length-j) 0 (bK _) (aP (by kernel_rfl)) ?_
  rintro j hj Q3 q3n q3e -
  have hpl:=MN hS hC i j hi (by omega)
  have hml:=NS (lG S i j)
  refine dK.evG aV 2 (aSQ S ((lG S i j).map qN) ((lG S i j).map qN).length i j) ?_;simp only[eV,aX,aL,bE,jK,decide_eq_true_eq,decide_eq_false_iff_not,show (↑i:Int).toNat=i from rfl];refine⟨⟨by omega,by omega⟩,fun c=>⟨?_⟩,fun c=>⟨q3e _ ?_⟩⟩
  ·have hjl:j<(S.getD i default).C.length:=by omega
   have hst:=QZ S hjl
   refine dK.pre (aP (st':=(fun(O:List Int) (k i j:Nat)=>cQ 37 [(0,aQ bQ 13 S),(3,.c (.sl 0 1 0 k)),(4,iV (i:Nat)),(5,iV (j:Nat))] [.row 23 1 k (aR dG O)]) ((lG S i j).map qN) ((lG S i j).map qN).length i j) (by kernel_rfl)) ?_
   refine dK.evH (TB ((S.getD i default).C.getD j default)) (aSP S ((S.getD i default).C.getD j default) ((lG S i j).map qN) ((lG S i j).map qN).length i j) ?_;simp only[aX,aL,bE,show (↑i:Int).toNat=i from rfl,show (↑j:Int).toNat=j from rfl]
   generalize (S.getD i default).C.getD j default=c at hst ⊢
   have hst2:(lG S i (j+1)).map qN=(lG S i j).map qN++[qP i j c]:=by rw[hst,dT];rfl
   have hst3:((lG S i (j+1)).map qN).length=((lG S i j).map qN).length+1:=by rw[hst2,bJ];rfl
   refine⟨⟨by omega,by omega⟩,⟨by omega,by omega⟩,⟨⟨trivial,trivial,trivial,trivial⟩,by omega,by omega⟩,trivial,aJ _,⟨by omega,by omega,MF _⟩,by simp only[inR];omega,⟨q3n (j+1) _ hjl (by omega) ?_⟩⟩
   show cL G _ ((fun(O:List Int) (k i j:Nat)=>cQ 37 [(0,aQ bQ 13 S),(3,.c (.sl 0 1 0 k)),(4,iV (i:Nat)),(5,iV (j:Nat))] [.row 23 1 k (aR dG O)]) ((lG S i (j+1)).map qN) ((lG S i (j+1)).map qN).length i (j+1))
   rw[hst3,hst2];exact gU ⟨⟨rfl,rfl,rfl,fun e o he ho=>oT (ρ:=[2]) rfl (PY _) he ho⟩,trivial⟩
  ·obtain rfl:j=(S.getD i default).C.length:=by omega
   rw[RA S hlt]
   refine⟨_,cL.refl _,q2n _ (dK.pre ((iT (iU 37 [0,3,4]) _).trans (aP (st':=(fun(O:List Int) (k i:Nat)=>cQ 37 [(0,aQ bQ 13 S),(3,.c (.sl 0 1 0 k)),(4,iV (i:Nat))] [.row 23 1 k (aR dG O)]) ((lG S (i+1) 0).map qN) ((lG S (i+1) 0).map qN).length i) (by kernel_rfl))) ?_)⟩
   refine dK.evH aV (aSO S ((lG S (i+1) 0).map qN) ((lG S (i+1) 0).map qN).length i) ?_;simp only[aX,aL,bE,inR]
   exact⟨by omega,⟨q1n (i+1) _ hlt (by omega) (aP (by kernel_rfl))⟩⟩
 ·obtain rfl:i=S.length:=by omega
  rw[MO]
  refine dK.pre (aP (st':=(fun(O:List Int) (k i:Nat)=>cQ 37 [(0,aQ bQ 13 S),(3,.c (.sl 0 1 0 k)),(4,iV (i:Nat))] [.row 23 1 k (aR dG O)]) (fE S) (fE S).length S.length) (by kernel_rfl)) ?_
  refine dK.evH aV (aSN S (fE S) (fE S).length S.length) ?_;simp only[aX,aL,gX];exact⟨⟨by omega,fun _ _ _ _=>rfl⟩,⟨kF rfl fun e o he ho=>rfl⟩⟩
end
def PI(S:List Se):Prop:=S.length≤10∧(∀s∈S,s.C.length≤10)∧∀s∈S,OkD s.d
def aLF(S:List Se)(t:Int):Int:=tB vN (gS S++[qA t])
def OA(S:List Se)(t:Int):Mod
 |[x,y,.c (.p (.i .u64 u))]=>match IK gG 12 x (S.map Se.d),IK aU 1 y (lL S) with
  |some p,some q=>some (p∧q∧u=t∧PI S,oP (aLF S t))
  |_,_=>none
 |_=>none
def FN(S:List Se)(t:Int):Mod
 |[x,y,.c (.p (.i .u64 u))]=>match IK dG 1 x (lR (S.map Se.d)),IK aU 1 y (lL S) with
  |some p,some q=>some (p∧q∧u=t∧PI S,oP (aLF S t))
  |_,_=>none
 |_=>none
def aFQ(L:List Int):Mod
 |[x]=>match IK dG 1 x L with
  |some p=>some (p∧L.length≤1000,oP (rI L))
  |none=>none
 |_=>none
def aFR(S:List Se):Mod
 |[x]=>match IK bQ 13 x S with
  |some p=>some (p∧PI S,oP (qH S))
  |none=>none
 |_=>none
def XB(S:List Se):Mod
 |[x,y]=>match IK bQ 13 x S,IK dG 1 y (lR (S.map Se.d)) with
  |some p,some q=>some (p∧q∧PI S,oP (qH S))
  |_,_=>none
 |_=>none
theorem aU9(D:List De)(N:List Int)(t:Int):dI fR (dN 3 (dW Tryz.prog Tryz.f38)) (pZ Tryz.f38 [aQ gG 12 D,aQ aU 1 N,oP t]) (eK (iU 35 [0,1,2,7,10,11]) (bU Tryz.prog Tryz.f38))=Tr.done X.normal
 (cQ 35 [(0,.c (.p (.l 12 D.length (bF gG D)))),(1,.c (.p (.l 1 N.length (bF aU N)))),(2,.c (.p (.i bD t))),(7,.c (.p (.z (eM none 0 0)))),(10,.c (.p (.i .i64 (↑D.length:Int)))),(11,.c (.p (.i .i64 0)))] []):=by kernel_rfl
theorem aPP(D:List De)(N O:List Int)(d:De)(B:List UInt8)(t:Int)(k i:Nat):dI (kH [(35,XF d),(63,xT mI B)]) (jM (dW Tryz.prog Tryz.f38) 3) (cQ 35 [(0,aQ gG 12 D),(1,aQ aU 1 N),(2,oP t),(7,.c (.sl 0 1 0 k)),(10,iV (D.length:Nat)),(11,iV (i:Nat))] [.row 3 1 k (aR aU O)]) (eK (iU 35 [0,1,2,7,10,11]) (bU Tryz.prog Tryz.f38))=bT (decide ((↑i:Int)<(↑D.length:Int)))
 (.rq (0≤(↑i:Int)∧(↑i:Int)<(↑D.length:Int))
 (.rq
 ((((D.getD (↑i:Int).toNat default).L.length=d.L.length∧∀(e o:Nat),e<d.L.length→o<2→bF kC (D.getD (↑i:Int).toNat default).L e o=bF kC d.L e o) ∧
 (D.getD (↑i:Int).toNat default).nm=d.nm ∧
 (D.getD (↑i:Int).toNat default).u0=d.u0 ∧
 (D.getD (↑i:Int).toNat default).u1=d.u1 ∧
 (D.getD (↑i:Int).toNat default).u2=d.u2 ∧
 (D.getD (↑i:Int).toNat default).lo=d.lo ∧
 (D.getD (↑i:Int).toNat default).hi=d.hi ∧
 (D.getD (↑i:Int).toNat default).dn=d.dn ∧
 (D.getD (↑i:Int).toNat default).up=d.up ∧
 (D.getD (↑i:Int).toNat default).fi=d.fi∧(D.getD (↑i:Int).toNat default).la=d.la∧(D.getD (↑i:Int).toNat default).bu=d.bu) ∧
 OkD d)
 (.rq (((BC d).length=B.length∧∀(e o:Nat),e<B.length→o<1→bF cT (BC d) e o=bF cT B e o)∧cG #[100,101,99,108]=mI∧4≤1000∧B.length≤1000000)
 (.rq (0≤(↑i:Int)∧(↑i:Int)<(↑N.length:Int))
 (.rq (k=k)
 (.rq (2≤2)
 (.rq
 ((k+2)*8≤140737488355328 ∧
 k+2≤140737488355328 ∧
 ∀(e o:Nat),
 e<2→o<1→jH (kY [C.p (PV.i aC (aC.wrap (BD mI B))),C.p (PV.i aC (N.getD (↑i:Int).toNat default))] 1 2 (e+0) o)=true)
 (.rq (inR aC ((↑i:Int)+1))
 (.done .normal
 (cQ 35 [(0,.c (.p (.l 12 D.length (bF gG D)))),(1,.c (.p (.l 1 N.length (bF aU N)))),(2,.c (.p (.i bD t))),(7,.c (.sl 0 1 0 (k+2))),(10,.c (.p (.i .i64 (↑D.length:Int)))),(11,.c (.p (.i .i64 ((↑i:Int)+1))))] [.row 3 1 (k+2) fun e o=>cI [2] (fU k (aR aU O) (fun e o=>aZ C.top [C.p (PV.i aC (aC.wrap (BD mI B))),C.p (PV.i aC (N.getD (↑i:Int).toNat default))] ((e+0)*1+o)) e o)]))))))))))
 (.done (.exit 0)
 (cQ 35 [(0,.c (.p (.l 12 D.length (bF gG D)))),(1,.c (.p (.l 1 N.length (bF aU N)))),(2,.c (.p (.i bD t))),(7,.c (.sl 0 1 0 k)),(10,.c (.p (.i .i64 (↑D.length:Int)))),(11,.c (.p (.i .i64 (↑i:Int))))] [.row 3 1 k fun e o=>cI [0] (aR aU O e o)])):=by kernel_rfl
theorem aU8(D:List De)(N O M:List Int)(t:Int)(k i:Nat):dI (rT [(45,aGR (xS vN M))]) (bZ 4 (dW Tryz.prog Tryz.f38)) (cQ 35 [(0,aQ gG 12 D),(1,aQ aU 1 N),(2,oP t),(7,.c (.sl 0 1 0 k)),(10,iV (D.length:Nat)),(11,iV (i:Nat))] [.row 3 1 k (aR aU O)]) (eK [] (bU Tryz.prog Tryz.f38))=Tr.rq (k=k)
 (.rq (1≤1)
 (.rq ((k+1)*8≤140737488355328∧k+1≤140737488355328∧∀(e o:Nat),e<1→o<1→jH (kY [C.p (PV.i aC (aC.wrap t))] 1 1 (e+0) o)=true)
 (.rq
 ((HD 2 1 (k+1) [V.c (C.p (PV.s (cG #[114,111,111,116]))),V.c (C.sl 2 1 0 (k+1))] ∧
 ∀(e o:Nat),e<k+1→o<1→zE (fU k (aR aU O) (fun e o=>aZ C.top [C.p (PV.i aC (aC.wrap t))] ((e+0)*1+o)) e o)=true) ∧
 (k+1=M.length ∧
 ∀(e o:Nat),e<M.length→o<1→pE (fU k (aR aU O) (fun e o=>kY [C.p (PV.i aC (aC.wrap t))] 1 1 (e+0) o) (e+0) o)=bF aU M e o) ∧
 cG #[114,111,111,116]=vN∧4≤1000∧M.length≤1000000)
 (.done .ret (St.mk [V.c (C.p (PV.i bD (tB vN M)))] []))))):=by kernel_rfl
theorem aU7(H N:List Int)(t:Int):dI fR (dN 3 (dW Tryz.prog Tryz.f40)) (pZ Tryz.f40 [aQ dG 1 H,aQ aU 1 N,oP t]) (eK (iU 33 [0,1,2,7,8]) (bU Tryz.prog Tryz.f40))=Tr.done X.normal
 (cQ 33 [(0,.c (.p (.l 1 H.length (bF dG H)))),(1,.c (.p (.l 1 N.length (bF aU N)))),(2,.c (.p (.i bD t))),(7,.c (.p (.z (eM none 0 0)))),(8,.c (.p (.i .i64 0)))] []):=by kernel_rfl
theorem aU6(H N O:List Int)(t:Int)(k i:Nat):dI fR (jM (dW Tryz.prog Tryz.f40) 3) (cQ 33 [(0,aQ dG 1 H),(1,aQ aU 1 N),(2,oP t),(7,.c (.sl 0 1 0 k)),(8,iV (i:Nat))] [.row 3 1 k (aR aU O)]) (eK (iU 33 [0,1,2,7,8]) (bU Tryz.prog Tryz.f40))=bT (decide ((↑i:Int)<(↑H.length:Int)))
 (.rq (0≤(↑i:Int)∧(↑i:Int)<(↑H.length:Int))
 (.rq (0≤(↑i:Int)∧(↑i:Int)<(↑N.length:Int))
 (.rq (k=k)
 (.rq (2≤2)
 (.rq
 ((k+2)*8≤140737488355328 ∧
 k+2≤140737488355328 ∧
 ∀(e o:Nat),
 e<2 →
 o<1→jH (kY [C.p (PV.i aC (aC.wrap (H.getD (↑i:Int).toNat default))),C.p (PV.i aC (N.getD (↑i:Int).toNat default))] 1 2 (e+0) o)=true)
 (.rq (inR aC ((↑i:Int)+1))
 (.done .normal
 (cQ 33 [(0,.c (.p (.l 1 H.length (bF dG H)))),(1,.c (.p (.l 1 N.length (bF aU N)))),(2,.c (.p (.i bD t))),(7,.c (.sl 0 1 0 (k+2))),(8,.c (.p (.i .i64 ((↑i:Int)+1))))] [.row 3 1 (k+2) fun e o=>cI [2] (fU k (aR aU O) (fun e o=>aZ C.top [C.p (PV.i aC (aC.wrap (H.getD (↑i:Int).toNat default))),C.p (PV.i aC (N.getD (↑i:Int).toNat default))] ((e+0)*1+o)) e o)]))))))))
 (.done (.exit 0)
 (cQ 33 [(0,.c (.p (.l 1 H.length (bF dG H)))),(1,.c (.p (.l 1 N.length (bF aU N)))),(2,.c (.p (.i bD t))),(7,.c (.sl 0 1 0 k)),(8,.c (.p (.i .i64 (↑i:Int))))] [.row 3 1 k fun e o=>cI [0] (aR aU O e o)])):=by kernel_rfl
theorem aU5(H N O M:List Int)(t:Int)(k i:Nat):dI (rT [(46,aGR (xS vN M))]) (bZ 4 (dW Tryz.prog Tryz.f40)) (cQ 33 [(0,aQ dG 1 H),(1,aQ aU 1 N),(2,oP t),(7,.c (.sl 0 1 0 k)),(8,iV (i:Nat))] [.row 3 1 k (aR aU O)]) (eK [] (bU Tryz.prog Tryz.f40))=Tr.rq (k=k)
 (.rq (1≤1)
 (.rq ((k+1)*8≤140737488355328∧k+1≤140737488355328∧∀(e o:Nat),e<1→o<1→jH (kY [C.p (PV.i aC (aC.wrap t))] 1 1 (e+0) o)=true)
 (.rq
 ((HD 2 1 (k+1) [V.c (C.p (PV.s (cG #[114,111,111,116]))),V.c (C.sl 2 1 0 (k+1))] ∧
 ∀(e o:Nat),e<k+1→o<1→zE (fU k (aR aU O) (fun e o=>aZ C.top [C.p (PV.i aC (aC.wrap t))] ((e+0)*1+o)) e o)=true) ∧
 (k+1=M.length ∧
 ∀(e o:Nat),e<M.length→o<1→pE (fU k (aR aU O) (fun e o=>kY [C.p (PV.i aC (aC.wrap t))] 1 1 (e+0) o) (e+0) o)=bF aU M e o) ∧
 cG #[114,111,111,116]=vN∧4≤1000∧M.length≤1000000)
 (.done .ret (St.mk [V.c (C.p (PV.i bD (tB vN M)))] []))))):=by kernel_rfl
def aM8(S:List Se):Ext:=kH [(36,zA S),(37,NV S),(39,aFP (fE S)),(38,OA S (rI (fE S)))]
def aM6(S:List Se):Ext:=kH [(41,NZ S),(42,NX S),(12,aFQ (fE S)),(40,FN S (rI (fE S)))]
theorem tRo(S:List Se):dI (aM8 S) (dW Tryz.prog Tryz.f17) (pZ Tryz.f17 [aQ bQ 13 S]) (eK [] (bU Tryz.prog Tryz.f17))=Tr.rq ((S.length=S.length∧∀(e o:Nat),e<S.length→o<13→bF bQ S e o=bF bQ S e o)∧S.length≤1000∧∀(s:Se),s∈S→s.C.length≤1000)
 (.rq ((S.length=S.length∧∀(e o:Nat),e<S.length→o<13→bF bQ S e o=bF bQ S e o)∧S.length≤10∧∀(s:Se),s∈S→s.C.length≤10)
 (.rq
 (((nB (fE S)).length=(nB (fE S)).length∧∀(e o:Nat),e<(nB (fE S)).length→o<1→bF IP (nB (fE S)) e o=bF IP (nB (fE S)) e o) ∧
 (fE S).length≤1000)
 (.rq
 (((iO Se.d S).length=(iO Se.d S).length∧∀(e o:Nat),e<(iO Se.d S).length→o<12→bF gG (iO Se.d S) e o=bF gG (iO Se.d S) e o) ∧
 ((lL S).length=(lL S).length∧∀(e o:Nat),e<(lL S).length→o<1→bF aU (lL S) e o=bF aU (lL S) e o)∧rI (fE S)=rI (fE S)∧PI S)
 (.done .ret (St.mk [V.c (C.p (PV.i bD (aLF S (rI (fE S)))))] []))))):=by kernel_rfl
theorem tRq(S:List Se):dI (aM6 S) (dW Tryz.prog Tryz.f18) (pZ Tryz.f18 [aQ bQ 13 S,aQ dG 1 (lR (S.map Se.d))]) (eK [] (bU Tryz.prog Tryz.f18))=Tr.rq ((S.length=S.length∧∀(e o:Nat),e<S.length→o<13→bF bQ S e o=bF bQ S e o)∧S.length≤1000∧∀(s:Se),s∈S→s.C.length≤1000)
 (.rq ((S.length=S.length∧∀(e o:Nat),e<S.length→o<13→bF bQ S e o=bF bQ S e o)∧S.length≤10∧∀(s:Se),s∈S→s.C.length≤10)
 (.rq (((fE S).length=(fE S).length∧∀(e o:Nat),e<(fE S).length→o<1→bF dG (fE S) e o=bF dG (fE S) e o)∧(fE S).length≤1000)
 (.rq
 (((lR (iO Se.d S)).length=(lR (iO Se.d S)).length ∧
 ∀(e o:Nat),e<(lR (iO Se.d S)).length→o<1→bF dG (lR (iO Se.d S)) e o=bF dG (lR (iO Se.d S)) e o) ∧
 ((lL S).length=(lL S).length∧∀(e o:Nat),e<(lL S).length→o<1→bF aU (lL S) e o=bF aU (lL S) e o)∧rI (fE S)=rI (fE S)∧PI S)
 (.done .ret (St.mk [V.c (C.p (PV.i bD (aLF S (rI (fE S)))))] []))))):=by kernel_rfl
theorem xR{α β:Type}[Inhabited α][Inhabited β](f:α→β){S:List α}{i:Nat}(h:i<S.length):(S.map f).getD i default=f (S.getD i default):=by
 rw[aD,List.getElem?_map,aD,aH h];rfl
theorem zW{S:List Se}{i:Nat}(h:i<S.length):gS (S.take (i+1))=gS (S.take i)++[qA (BD mI (BC (S.getD i default).d)),((S.getD i default).C.length:Int)]:=by
 unfold gS;rw[fP h,List.flatMap_append,aD,aH h];simp
theorem vT:∀S:List Se,(gS S).length=2*S.length
 |[]=>rfl
 |s::r=>by
  show (gS r).length+1+1=2*(r.length+1)
  rw[vT r];omega
theorem LZ(x:Int):aC.wrap x=qA x:=by rw[IntKind.wrap_i64];unfold qA wrap64;rfl
theorem aB3{O:List Int}{k e o:Nat}{x:Int}(ho:o<1)(hk:e<k+1):zE (fU k (aR aU O) (fun e o=>aZ C.top [C.p (PV.i aC x)] ((e+0)*1+o)) e o)=true:=by
 unfold fU;split
 ·rfl
 ·obtain rfl:o=0:=by omega
  obtain rfl:e=k:=by omega
  rw[Nat.sub_self];rfl
theorem aB2{O:List Int}{k e o:Nat}{x:Int}(hk:O.length=k)(he:e<k+1)(ho:o<1):pE (fU k (aR aU O) (fun e o=>kY [C.p (PV.i aC x)] 1 1 (e+0) o) (e+0) o)=bF aU (O++[x]) e o:=by
 obtain rfl:o=0:=by omega
 subst hk;unfold fU bF
 by_cases c:e<O.length
 ·rw[if_pos (show e+0<O.length from c),aD (l:=O++[x]),List.getElem?_append_left c,←aD]
  rfl
 ·obtain rfl:e=O.length:=by omega
  rw[if_neg (show ¬O.length+0<O.length by omega),aD,List.getElem?_append_right (aJ _),show O.length+0-O.length=0 by omega,Nat.sub_self];rfl
section
variable {G:Nat→Option Obj}
theorem aNL(L:List Int):hO Tryz.prog G 12 (aFQ L):=by
 intro args p v hm hp h;unfold aFQ at hm
 split at hm;rotate_left;· cases hm
 split at hm;rotate_left;· cases hm
 rename_i x _ q hx;obtain⟨rfl,rfl⟩:=dB hm;clear hm;obtain⟨hq,hL⟩:=hp;refine lW.args (args':=[aQ dG 1 L]) ?_ (.cons (mE hx hq) .nil)
 have e:IQ TQ L.length (bF dG L)=L:=aH5 L
 refine aPZ (G:=G) [aQ dG 1 L] (IsL dG 1 L L.length (bF dG L)∧L.length≤1000) (oP (rI L)) ?_ ⟨aKN _ _ _,hL⟩ h
 show (match aKD (aQ dG 1 L) with
  |some (p,L)=>some (p∧L.length≤1000,oP (BF gW L (jS L.length) 0))
  |_=>none)=_
 show some (IsL dG 1 (IQ TQ L.length (bF dG L)) L.length (bF dG L)∧(IQ TQ L.length (bF dG L)).length≤1000,oP (BF gW (IQ TQ L.length (bF dG L)) (jS (IQ TQ L.length (bF dG L)).length) 0))=_
 rw[e];rfl
set_option maxRecDepth 100000 in
set_option maxHeartbeats 1000000 in
theorem aFC(S:List Se)(t:Int):hO Tryz.prog G 38 (OA S t):=by
 intro args p v hm hp h;unfold OA at hm
 split at hm;rotate_left;· cases hm
 split at hm;rotate_left;· cases hm
 rename_i x y u _ _ q1 q2 hx hy;obtain⟨rfl,rfl⟩:=dB hm;clear hm;obtain⟨hq1,hq2,rfl,hS,hC,hD⟩:=hp;refine lW.args (args':=[aQ gG 12 (S.map Se.d),aQ aU 1 (lL S),oP u]) ?_ (.cons (mE hx hq1) (.cons (mE hy hq2) (.cons (.refl _) .nil)));clear hx hy hq1 hq2
 have hDl:(S.map Se.d).length=S.length:=eA ..
 have hNl:(lL S).length=S.length:=eA ..
 refine oY Tryz.func38 (by kernel_rfl) rfl ?_ h
 refine dK.evG aV 3 (aU9 (S.map Se.d) (lL S) u) ?_;simp only[aL,bE];refine⟨?_⟩
 refine dK.loop' (l:=bZ 3 (dW Tryz.prog Tryz.f38)) (b:=inr (inr (aZ .skip (dW Tryz.prog Tryz.f38) 3))) (r:=bZ 4 (dW Tryz.prog Tryz.f38)) (id:=0) (by kernel_rfl) (σ:=Nat)
   (fun i=>(fun(D:List De) (N O:List Int) (t:Int) (k i:Nat)=>cQ 35 [(0,aQ gG 12 D),(1,aQ aU 1 N),(2,oP t),(7,.c (.sl 0 1 0 k)),(10,iV (D.length:Nat)),(11,iV (i:Nat))] [.row 3 1 k (aR aU O)]) (S.map Se.d) (lL S) (gS (S.take i)) u (2*i) i) (fun i=>i≤S.length) (fun i=>S.length-i) 0 (bK _) ((kE 3 1 (aR aU []) 7 (by kernel_rfl)).trans (aP (by kernel_rfl))) ?_
 rintro i hi Q1 q1n q1e -
 have hwl:(gS (S.take i)).length=2*i:=by rw[vT,dY];omega
 by_cases hlt:i<S.length
 ·have hdi:(S.map Se.d).getD i default=(S.getD i default).d:=xR Se.d hlt
  have hni:(lL S).getD i default=((S.getD i default).C.length:Int):=xR (fun s:Se=>(s.C.length:Int)) hlt
  have hw:=zW hlt
  have hd:=hD _ (uA hlt)
  generalize S.getD i default=s at hdi hni hw hd
  have hdl:=PA hd
  have hs:cF Tryz.prog G (kH [(35,XF s.d),(63,xT mI (BC s.d))]):=eB (by simp;exact⟨aFA _,aF9 mI _⟩)
  refine dK.evH hs (aPP (S.map Se.d) (lL S) (gS (S.take i)) s.d (BC s.d) u (2*i) i) ?_;simp only[eV,aX,aL,bE,jK,decide_eq_true_eq,decide_eq_false_iff_not,show (↑i:Int).toNat=i from rfl,inR,hdi,hni,LZ];refine⟨fun c=>?_,fun c=>absurd (show (i:Int)<(S.map Se.d).length by omega) c⟩;refine⟨⟨by omega,by omega⟩,⟨⟨⟨trivial,fun _ _ _ _=>trivial⟩,trivial,trivial,trivial,trivial,trivial,trivial,trivial,trivial,trivial,trivial,trivial⟩,hd⟩,⟨⟨trivial,fun _ _ _ _=>trivial⟩,rfl,by decide,by omega⟩,⟨by omega,by omega⟩,trivial,aJ _,⟨by omega,by omega,UU _ _⟩,by omega,⟨q1n (i+1) _ hlt (by omega) ?_⟩⟩
  show cL G _ ((fun(D:List De) (N O:List Int) (t:Int) (k i:Nat)=>cQ 35 [(0,aQ gG 12 D),(1,aQ aU 1 N),(2,oP t),(7,.c (.sl 0 1 0 k)),(10,iV (D.length:Nat)),(11,iV (i:Nat))] [.row 3 1 k (aR aU O)]) (S.map Se.d) (lL S) (gS (S.take (i+1))) u (2*(i+1)) (i+1))
  rw[hw,show 2*(i+1)=2*i+2 by omega];exact gU ⟨⟨rfl,rfl,rfl,fun e o he ho=>BU (gS (S.take i)) _ _ [2] (f0:=fun _ _=>.top) hwl.symm (fun _ _=>rfl) (by rw[bJ,hwl];exact he) ho⟩,trivial⟩
 ·obtain rfl:i=S.length:=by omega
  have hs:cF Tryz.prog G (kH [(35,XF default),(63,xT mI [])]):=eB (by simp;exact⟨aFA _,aF9 mI _⟩)
  refine dK.evH hs (aPP (S.map Se.d) (lL S) (gS (S.take S.length)) default [] u (2*S.length) S.length) ?_;simp only[eV,aL,bE,jK,decide_eq_true_eq,decide_eq_false_iff_not];refine⟨fun c=>absurd c (by omega),fun c=>⟨q1e _ ?_⟩⟩;rw[fL]at hwl ⊢
  refine dK.pre (aP (st':=(fun(D:List De) (N O:List Int) (t:Int) (k i:Nat)=>cQ 35 [(0,aQ gG 12 D),(1,aQ aU 1 N),(2,oP t),(7,.c (.sl 0 1 0 k)),(10,iV (D.length:Nat)),(11,iV (i:Nat))] [.row 3 1 k (aR aU O)]) (S.map Se.d) (lL S) (gS S) u (2*S.length) S.length) (by kernel_rfl)) ?_
  refine dK.evH (iX (by simp;exact BS (aF8 vN (gS S++[qA u])))) (aU8 (S.map Se.d) (lL S) (gS S) (gS S++[qA u]) u (2*S.length) S.length) ?_
  have hl2:(gS S++[qA u]).length=2*S.length+1:=by rw[bJ,hwl];rfl
  simp only[aX,aL,gX,LZ];exact⟨trivial,aJ _,⟨by omega,by omega,yJ _⟩,⟨⟨⟨trivial,⟨rfl,by omega⟩,trivial⟩,fun e o he ho=>aB3 ho he⟩,⟨hl2.symm,fun e o he ho=>aB2 hwl (by omega) ho⟩,rfl,by decide,by omega⟩,⟨lO.refl _⟩⟩
set_option maxRecDepth 100000 in
set_option maxHeartbeats 1000000 in
theorem aC7(S:List Se)(t:Int):hO Tryz.prog G 40 (FN S t):=by
 intro args p v hm hp h;unfold FN at hm
 split at hm;rotate_left;· cases hm
 split at hm;rotate_left;· cases hm
 rename_i x y u _ _ q1 q2 hx hy;obtain⟨rfl,rfl⟩:=dB hm;clear hm;obtain⟨hq1,hq2,rfl,hS,hC,hD⟩:=hp
 have hDl:(lR (S.map Se.d)).length=S.length:=by unfold lR;rw[eA,eA]
 have hNl:(lL S).length=S.length:=eA ..
 have hH:∀i,i<S.length→(lR (S.map Se.d)).getD i default=BD mI (BC (S.getD i default).d):=fun i hi=>by
  unfold lR;rw[xR _ (by rw[eA];exact hi),xR Se.d hi]
 generalize lR (S.map Se.d)=H at hDl hH hx
 refine lW.args (args':=[aQ dG 1 H,aQ aU 1 (lL S),oP u]) ?_ (.cons (mE hx hq1) (.cons (mE hy hq2) (.cons (.refl _) .nil)));clear hx hy hq1 hq2
 refine oY Tryz.func40 (by kernel_rfl) rfl ?_ h
 refine dK.evG aV 3 (aU7 H (lL S) u) ?_;simp only[aL,bE];refine⟨?_⟩
 refine dK.loop' (l:=bZ 3 (dW Tryz.prog Tryz.f40)) (b:=inr (inr (aZ .skip (dW Tryz.prog Tryz.f40) 3))) (r:=bZ 4 (dW Tryz.prog Tryz.f40)) (id:=0) (by kernel_rfl) (σ:=Nat)
   (fun i=>(fun(N O:List Int) (t:Int) (k i:Nat)=>cQ 33 [(0,aQ dG 1 H),(1,aQ aU 1 N),(2,oP t),(7,.c (.sl 0 1 0 k)),(8,iV (i:Nat))] [.row 3 1 k (aR aU O)]) (lL S) (gS (S.take i)) u (2*i) i) (fun i=>i≤S.length) (fun i=>S.length-i) 0 (bK _) ((kE 3 1 (aR aU []) 7 (by kernel_rfl)).trans (aP (by kernel_rfl))) ?_
 rintro i hi Q1 q1n q1e -
 have hwl:(gS (S.take i)).length=2*i:=by rw[vT,dY];omega
 refine dK.evH aV (aU6 H (lL S) (gS (S.take i)) u (2*i) i) ?_;simp only[eV,aX,aL,bE,jK,decide_eq_true_eq,decide_eq_false_iff_not,show (↑i:Int).toNat=i from rfl,inR,LZ];refine⟨fun c=>?_,fun c=>⟨q1e _ ?_⟩⟩
 ·have hlt:i<S.length:=by omega
  have hdi:=hH i hlt
  have hni:(lL S).getD i default=((S.getD i default).C.length:Int):=xR (fun s:Se=>(s.C.length:Int)) hlt
  have hw:=zW hlt
  rw[hdi,hni];refine⟨⟨by omega,by omega⟩,⟨by omega,by omega⟩,trivial,aJ _,⟨by omega,by omega,UU _ _⟩,by omega,⟨q1n (i+1) _ hlt (by omega) ?_⟩⟩
  show cL G _ ((fun(N O:List Int) (t:Int) (k i:Nat)=>cQ 33 [(0,aQ dG 1 H),(1,aQ aU 1 N),(2,oP t),(7,.c (.sl 0 1 0 k)),(8,iV (i:Nat))] [.row 3 1 k (aR aU O)]) (lL S) (gS (S.take (i+1))) u (2*(i+1)) (i+1))
  rw[hw,show 2*(i+1)=2*i+2 by omega];exact gU ⟨⟨rfl,rfl,rfl,fun e o he ho=>BU (gS (S.take i)) _ _ [2] (f0:=fun _ _=>.top) hwl.symm (fun _ _=>rfl) (by rw[bJ,hwl];exact he) ho⟩,trivial⟩
 ·obtain rfl:i=S.length:=by omega
  rw[fL]at hwl ⊢
  refine dK.pre (aP (st':=(fun(N O:List Int) (t:Int) (k i:Nat)=>cQ 33 [(0,aQ dG 1 H),(1,aQ aU 1 N),(2,oP t),(7,.c (.sl 0 1 0 k)),(8,iV (i:Nat))] [.row 3 1 k (aR aU O)]) (lL S) (gS S) u (2*S.length) S.length) (by kernel_rfl)) ?_
  refine dK.evH (iX (by simp;exact BS (WK vN (gS S++[qA u])))) (aU5 H (lL S) (gS S) (gS S++[qA u]) u (2*S.length) S.length) ?_
  have hl2:(gS S++[qA u]).length=2*S.length+1:=by rw[bJ,hwl];rfl
  simp only[aX,aL,gX,LZ];exact⟨trivial,aJ _,⟨by omega,by omega,yJ _⟩,⟨⟨⟨trivial,⟨rfl,by omega⟩,trivial⟩,fun e o he ho=>aB3 ho he⟩,⟨hl2.symm,fun e o he ho=>aB2 hwl (by omega) ho⟩,rfl,by decide,by omega⟩,⟨lO.refl _⟩⟩
theorem FQ{S:List Se}(h:PI S):(fE S).length≤1000:=by
 obtain⟨hS,hC,_⟩:=h
 have:=MP S 0 hC
 rw[←MO,DM,fL,eA];omega
set_option maxRecDepth 100000 in
theorem aNM(S:List Se):hO Tryz.prog G 17 (aFR S):=by
 intro args p v hm hp h;unfold aFR at hm
 split at hm;rotate_left;· cases hm
 split at hm;rotate_left;· cases hm
 rename_i x _ q hx;obtain⟨rfl,rfl⟩:=dB hm;clear hm;obtain⟨hq,hS⟩:=hp;refine lW.args (args':=[aQ bQ 13 S]) ?_ (.cons (mE hx hq) .nil)
 have hl:=FQ hS
 have hs:cF Tryz.prog G (aM8 S):=eB (by simp;exact⟨WM S,aF5 S,aNK (fE S),aFC S (rI (fE S))⟩)
 refine oY Tryz.func17 (by kernel_rfl) rfl ?_ h
 refine dK.evH hs (tRo S) ?_;simp only[aX,aL,gX,true_and];exact⟨⟨fun _ _ _ _=>trivial,dS hS.1 (by decide),fun s hs=>dS (hS.2.1 s hs) (by decide)⟩,⟨fun _ _ _ _=>trivial,hS.1,hS.2.1⟩,⟨fun _ _ _ _=>trivial,hl⟩,⟨fun _ _ _ _=>trivial,fun _ _ _ _=>trivial,hS⟩,⟨lO.refl _⟩⟩
set_option maxRecDepth 100000 in
theorem aJK(S:List Se):hO Tryz.prog G 18 (XB S):=by
 intro args p v hm hp h;unfold XB at hm
 split at hm;rotate_left;· cases hm
 split at hm;rotate_left;· cases hm
 rename_i x y _ _ q1 q2 hx hy;obtain⟨rfl,rfl⟩:=dB hm;clear hm;obtain⟨hq1,hq2,hS⟩:=hp;refine lW.args (args':=[aQ bQ 13 S,aQ dG 1 (lR (S.map Se.d))]) ?_ (.cons (mE hx hq1) (.cons (mE hy hq2) .nil))
 have hl:=FQ hS
 have hs:cF Tryz.prog G (aM6 S):=eB (by simp;exact⟨aFB S,aF6 S,aNL (fE S),aC7 S (rI (fE S))⟩)
 refine oY Tryz.func18 (by kernel_rfl) rfl ?_ h
 refine dK.evH hs (tRq S) ?_;simp only[aX,aL,gX,true_and];exact⟨⟨fun _ _ _ _=>trivial,dS hS.1 (by decide),fun s hs=>dS (hS.2.1 s hs) (by decide)⟩,⟨fun _ _ _ _=>trivial,hS.1,hS.2.1⟩,⟨fun _ _ _ _=>trivial,hl⟩,⟨fun _ _ _ _=>trivial,fun _ _ _ _=>trivial,hS⟩,⟨lO.refl _⟩⟩
end
def WZ(L:List Int)(S:List Se):Mod
 |[x]=>match PM x L with
  |some p=>some ((p∧L.length≤9223372036854775807)∧S=jT L (nA L),aQ bQ 13 S)
  |none=>none
 |_=>none
def aO5(i:Nat):Mod
 |[.c (.p (.i .i64 n)),.c (.p (.i .i64 m))]=>some ((inR .i64 n∧0<m)∧(i:Int)=dP n m,iV (i:Nat))
 |_=>none
def NT(S:List Se)(r:Int):Mod
 |[x]=>match IK bQ 13 x S with
  |some p=>some (p∧PI S∧r=qH S,oP r)
  |none=>none
 |_=>none
def NU(S:List Se)(r:Int):Mod
 |[x,y]=>match IK bQ 13 x S,IK dG 1 y (lR (S.map Se.d)) with
  |some p,some q=>some (p∧q∧PI S∧r=qH S,oP r)
  |_,_=>none
 |_=>none
def aMG(L:List Int)(S:List Se)(r:Int):Ext:=kH [(14,WZ L S),(16,XG S),(15,NY (S.map Se.d)),(17,NT S r),(18,NU S r),(13,rN)]
def aGZ(i:Nat):Ext:=kH [(6,aO5 i)]
def aMA:Ext:=kH [(13,rN)]
def aQR(S:List Se)(q:Int):Ext:=kH [(17,NT S q),(13,rN)]
theorem aTH(L:List Int)(S:List Se)(a w n r:Int):dI (aMG L S r) (dN 8 (dW Tryz.prog Tryz.f5)) (pZ Tryz.f5 [aQ aU 1 L,iV a,iV w,iV n]) (eK (iU 80 [1,2,3,9,11]) (bU Tryz.prog Tryz.f5))=Tr.rq (((L.length=L.length∧∀(e o:Nat),e<L.length→o<1→bF aU L e o=bF aU L e o)∧L.length≤9223372036854775807)∧S=jT L (nA L))
 (.rq ((S.length=S.length∧∀(e o:Nat),e<S.length→o<13→bF bQ S e o=bF bQ S e o)∧S.length≤1000)
 (.rq
 (((iO Se.d S).length=(iO Se.d S).length∧∀(e o:Nat),e<(iO Se.d S).length→o<12→bF gG (iO Se.d S) e o=bF gG (iO Se.d S) e o) ∧
 (iO Se.d S).length≤1000∧∀(d:De),d∈iO Se.d S→OkD d)
 (.rq ((S.length=S.length∧∀(e o:Nat),e<S.length→o<13→bF bQ S e o=bF bQ S e o)∧PI S∧r=qH S)
 (.rq
 ((S.length=S.length∧∀(e o:Nat),e<S.length→o<13→bF bQ S e o=bF bQ S e o) ∧
 ((lR (iO Se.d S)).length=(lR (iO Se.d S)).length ∧
 ∀(e o:Nat),e<(lR (iO Se.d S)).length→o<1→bF dG (lR (iO Se.d S)) e o=bF dG (lR (iO Se.d S)) e o) ∧
 PI S∧r=qH S)
 (bT (r != r) (.done .ret (St.mk [V.c (C.p (PV.b false))] []))
 (bT ((↑S.length:Int)==0) (.rq True (.done .ret (St.mk [V.c (C.p (PV.b true))] [])))
 (.done .normal
 (cQ 80 [(1,.c (.p (.i .i64 a))),(2,.c (.p (.i .i64 w))),(3,.c (.p (.i .i64 n))),(9,.c (.p (.l 13 S.length (bF bQ S)))),(11,.c (.p (.i bD r)))] [])))))))):=by kernel_rfl
theorem aTG(S:List Se)(a w n r:Int)(i:Nat):dI (aGZ i) (dN 2 (bZ 8 (dW Tryz.prog Tryz.f5))) (cQ 80 [(1,iV a),(2,iV w),(3,iV n),(9,aQ bQ 13 S),(11,oP r)] []) (eK (iU 80 [2,3,9,11,12,13]) (bU Tryz.prog Tryz.f5))=Tr.rq ((inR aC a∧0<(↑S.length:Int))∧(↑i:Int)=dP a (↑S.length:Int))
 (.rq (0≤(↑i:Int)∧(↑i:Int)<(↑S.length:Int))
 (.rq (0=0)
 (.rq
 ((0+(S.getD (↑i:Int).toNat default).C.length)*32≤140737488355328 ∧
 0+(S.getD (↑i:Int).toNat default).C.length≤140737488355328 ∧
 ∀(e o:Nat),e<(S.getD (↑i:Int).toNat default).C.length→o<4→jH (C.p (bF eH (S.getD (↑i:Int).toNat default).C e o))=true)
 (.done .normal
 (cQ 80 [(2,.c (.p (.i .i64 w))),(3,.c (.p (.i .i64 n))),(9,.c (.p (.l 13 S.length (bF bQ S)))),(11,.c (.p (.i bD r))),(12,.c (.p (.i .i64 (↑i:Int)))),(13,.c (.sl 0 4 0 (0+(S.getD (↑i:Int).toNat default).C.length)))] [.row 51 4 (0+(S.getD (↑i:Int).toNat default).C.length) fun e o=>cI [1] (fU 0 (fun e o=>aZ C.top [] (e*4+o)) (fun e o=>C.p (bF eH (S.getD (↑i:Int).toNat default).C e o)) e o)]))))):=by kernel_rfl
theorem aTF(S:List Se)(D:List Cl)(w n r:Int)(i m:Nat):dI aMA (dN 2 (bZ 10 (dW Tryz.prog Tryz.f5))) (cQ 80 [(2,iV w),(3,iV n),(9,aQ bQ 13 S),(11,oP r),(12,iV (i:Nat)),(13,.c (.sl 0 4 0 m))] [.row 51 4 m (aR eH D)]) (eK (iU 80 [2,3,9,11,12,13]) (bU Tryz.prog Tryz.f5))=bT ((↑m:Int)==0) (.rq True (.done .ret (St.mk [V.c (C.p (PV.b true))] [])))
 (.done .normal
 (cQ 80 [(2,.c (.p (.i .i64 w))),(3,.c (.p (.i .i64 n))),(9,.c (.p (.l 13 S.length (bF bQ S)))),(11,.c (.p (.i bD r))),(12,.c (.p (.i .i64 (↑i:Int)))),(13,.c (.sl 0 4 0 m))] [.row 51 4 m fun e o=>cI [0] (aR eH D e o)])):=by kernel_rfl
theorem aTE(S:List Se)(D:List Cl)(w n r:Int)(i m k:Nat):dI (aGZ k) (dN 1 (bZ 12 (dW Tryz.prog Tryz.f5))) (cQ 80 [(2,iV w),(3,iV n),(9,aQ bQ 13 S),(11,oP r),(12,iV (i:Nat)),(13,.c (.sl 0 4 0 m))] [.row 51 4 m (aR eH D)]) (eK (iU 80 [3,9,11,12,13,14]) (bU Tryz.prog Tryz.f5))=Tr.rq ((inR aC w∧0<(↑m:Int))∧(↑k:Int)=dP w (↑m:Int))
 (.done .normal
 (cQ 80 [(3,.c (.p (.i .i64 n))),(9,.c (.p (.l 13 S.length (bF bQ S)))),(11,.c (.p (.i bD r))),(12,.c (.p (.i .i64 (↑i:Int)))),(13,.c (.sl 0 4 0 m)),(14,.c (.p (.i .i64 (↑k:Int))))] [.row 51 4 m fun e o=>cI [0] (aR eH D e o)])):=by kernel_rfl
theorem aTD(S:List Se)(D:List Cl)(n r:Int)(i m k:Nat):dI fR (dN 2 (bZ 13 (dW Tryz.prog Tryz.f5))) (cQ 80 [(3,iV n),(9,aQ bQ 13 S),(11,oP r),(12,iV (i:Nat)),(13,.c (.sl 0 4 0 m)),(14,iV (k:Nat))] [.row 51 4 m (aR eH D)]) (eK (iU 80 [3,9,11,12,13,14]) (bU Tryz.prog Tryz.f5))=Tr.rq (0≤(↑k:Int)∧(↑k:Int)<(↑m:Int))
 (.rq ((↑k:Int).toNat+0<m)
 (bT ((D.getD ((↑k:Int).toNat+0) default).lo==n)
 (.rq (inR aC (n+1))
 (.done .normal
 (cQ 80 [(3,.c (.p (.i .i64 (n+1)))),(9,.c (.p (.l 13 S.length (bF bQ S)))),(11,.c (.p (.i bD r))),(12,.c (.p (.i .i64 (↑i:Int)))),(13,.c (.sl 0 4 0 m)),(14,.c (.p (.i .i64 (↑k:Int))))] [.row 51 4 m fun e o=>cI [0] (aR eH D e o)])))
 (.done .normal
 (cQ 80 [(3,.c (.p (.i .i64 n))),(9,.c (.p (.l 13 S.length (bF bQ S)))),(11,.c (.p (.i bD r))),(12,.c (.p (.i .i64 (↑i:Int)))),(13,.c (.sl 0 4 0 m)),(14,.c (.p (.i .i64 (↑k:Int))))] [.row 51 4 m fun e o=>cI [0] (aR eH D e o)])))):=by kernel_rfl
theorem aTC(S:List Se)(D:List Cl)(n r:Int)(i m k:Nat):dI fR (dN 1 (bZ 15 (dW Tryz.prog Tryz.f5))) (cQ 80 [(3,iV n),(9,aQ bQ 13 S),(11,oP r),(12,iV (i:Nat)),(13,.c (.sl 0 4 0 m)),(14,iV (k:Nat))] [.row 51 4 m (aR eH D)]) (eK (iU 80 [9,11,12,13]) (bU Tryz.prog Tryz.f5))=Tr.rq (0≤(↑k:Int)∧(↑k:Int)<(↑m:Int))
 (.rq ((↑k:Int).toNat+0<m)
 (.done .normal
 (cQ 80 [(9,.c (.p (.l 13 S.length (bF bQ S)))),(11,.c (.p (.i bD r))),(12,.c (.p (.i .i64 (↑i:Int)))),(13,.c (.sl 0 4 0 m))] [.row 51 4 m fun e o=>cI [0] (if e=(↑k:Int).toNat+0 then if 2≤o∧o<3 then aZ C.top [C.p (PV.i aC n)] (o-2) else aR eH D e o else aR eH D e o)]))):=by kernel_rfl
theorem aTB(S:List Se)(D:List Cl)(r:Int)(i:Nat):dI fR (dN 2 (bZ 16 (dW Tryz.prog Tryz.f5))) (cQ 80 [(9,aQ bQ 13 S),(11,oP r),(12,iV (i:Nat)),(13,aQ eH 4 D)] []) (eK (iU 80 [11,12,13,15]) (bU Tryz.prog Tryz.f5))=Tr.rq ((0+S.length)*144≤140737488355328∧0+S.length≤140737488355328∧∀(e o:Nat),e<S.length→o<13→jH (C.p (bF bQ S e o))=true)
 (.done .normal
 (cQ 80 [(11,.c (.p (.i bD r))),(12,.c (.p (.i .i64 (↑i:Int)))),(13,.c (.p (.l 4 D.length (bF eH D)))),(15,.c (.sl 0 13 0 (0+S.length)))] [.row 49 13 (0+S.length) fun e o=>cI [0] (fU 0 (fun x x_1=>C.top) (fun e o=>C.p (bF bQ S e o)) e o)])):=by kernel_rfl
theorem aTA(S:List Se)(D:List Cl)(r:Int)(i q:Nat):dI fR (dN 1 (bZ 18 (dW Tryz.prog Tryz.f5))) (cQ 80 [(11,oP r),(12,iV (i:Nat)),(13,aQ eH 4 D),(15,.c (.sl 0 13 0 q))] [.row 49 13 q (aR bQ S)]) (eK (iU 80 [11,15]) (bU Tryz.prog Tryz.f5))=Tr.rq (0≤(↑i:Int)∧(↑i:Int)<(↑q:Int))
 (.rq ((↑i:Int).toNat+0<q)
 (.done .normal
 (cQ 80 [(11,.c (.p (.i bD r))),(15,.c (.sl 0 13 0 q))] [.row 49 13 q fun e o=>cI [0] (if e=(↑i:Int).toNat+0 then if 12≤o∧o<13 then aZ C.top [C.p (PV.l 4 D.length (bF eH D))] (o-12) else aR bQ S e o else aR bQ S e o)]))):=by kernel_rfl
theorem aT9(S:List Se)(r q:Int):dI (aQR S q) (bZ 19 (dW Tryz.prog Tryz.f5)) (cQ 80 [(11,oP r),(15,aQ bQ 13 S)] []) (eK [] (bU Tryz.prog Tryz.f5))=Tr.rq ((S.length=S.length∧∀(e o:Nat),e<S.length→o<13→bF bQ S e o=bF bQ S e o)∧PI S∧q=qH S)
 (bT (q != r) (.rq True (.done .ret (St.mk [V.c (C.p (PV.b true))] []))) (.done .ret (St.mk [V.c (C.p (PV.b false))] []))):=by kernel_rfl
theorem aE5(l:List Int)(n:Nat):∀s∈jT l n,∀c∈s.C,-30000≤c.lo∧c.lo≤30000:=fun s hs c hc=>by
 unfold jT at hs;obtain⟨j,_,rfl⟩:=List.mem_map.1 hs
 have hc:c∈lF _ _ _ _:=hc
 unfold lF at hc;obtain⟨q,_,rfl⟩:=List.mem_map.1 hc
 generalize aML l j=b
 generalize lE l j 48=m
 have hsm:=yP b m
 have hl:(sM (CX b m) ((m.drop 11).take 14)).length=gZ (CX b m):=qR _ _
 have hsp:gZ (CX b m)=((CX b m).la-(CX b m).fi+1).toNat:=rfl
 have hbd:=OI ((m.drop 11).take 14) hsm
 have hs2:=hsm
 obtain⟨_,_,h1,h2,h3⟩:=hs2
 generalize sM (CX b m) ((m.drop 11).take 14)=W at hl hbd ⊢
 generalize (m.drop 25).take (3*(m.getD 40 default%5)).toNat=N
 obtain⟨_,_,r3⟩:=aHN hsm hbd (by omega) (by omega) N (3*q)
 have e:=OC hbd (HQ W N (3*q)).toNat (arN W N (3*q))
 simp only[rC];omega
theorem aF3(l:List Int){n:Nat}(hn:n≤10):PI (jT l n):=by
 have hv:=aE4 l n
 refine⟨by rw[rY];exact hn,fun s hs=>dS (hv s hs).Cl (by decide),fun s hs=>?_⟩
 have:=hv s hs
 exact⟨this.nm,this.Ll,this.L,this.d⟩
theorem aJJ{S:List Se}(h:PI S){i:Nat}(hi:i<S.length){D:List Cl}(hD:D.length=(S.getD i default).C.length):PI (S.set i ⟨(S.getD i default).d,D⟩):=by
 obtain⟨h1,h2,h3⟩:=h
 have hm:=uA hi
 refine⟨by rw[cD];exact h1,fun s hs=>?_,fun s hs=>?_⟩
 ·rcases List.mem_or_eq_of_mem_set hs with h|rfl
  ·exact h2 s h
  ·show D.length≤10
   rw[hD];exact h2 _ hm
 ·rcases List.mem_or_eq_of_mem_set hs with h|rfl
  ·exact h3 s h
  ·exact h3 (S.getD i default) hm
theorem LV(g0 g:Nat→Nat→C)(ρ:List Nat)(e o:Nat):cI ρ (fU 0 g0 g e o)=cI ρ (g e o):=by
 unfold fU;rw[if_neg (by omega)];rfl
theorem aOU(D:List Cl):∀e o:Nat,e<D.length→o<4→jH (C.p (bF eH D e o))=true:=fun e o _ ho=>by
 match o,ho with
 |0,_|1,_|2,_|3,_=>rfl
theorem aN0{D:List Cl}{k:Nat}{n:Int}(hk:k<D.length)(ρ:List Nat){e o j:Nat}(ho:o<4)(hj:j=k):cI ρ (if e=j then if 2≤o∧o<3 then aZ C.top [C.p (PV.i aC n)] (o-2) else aR eH D e o else aR eH D e o)=aR eH (D.set k { D.getD k default with lo:=n }) e o:=by
 subst hj
 by_cases c:e=j
 ·subst c
  rw[if_pos rfl]
  have hg:(D.set e { D.getD e default with lo:=n }).getD e default={ D.getD e default with lo:=n }:=by
   rw[aD,List.getElem?_set_self hk];rfl
  unfold aR bF;rw[hg]
  match o,ho with
  |0,_|1,_|2,_|3,_=>rfl
 ·rw[if_neg c]
  unfold aR bF;rw[aD (l:=D.set _ _),iC (fun h=>c h.symm),←aD];rfl
theorem aMZ{S:List Se}{i:Nat}{D:List Cl}(hi:i<S.length)(ρ:List Nat){e o j:Nat}(ho:o<13)(hj:j=i):cI ρ (if e=j then if 12≤o∧o<13 then aZ C.top [C.p (PV.l 4 D.length (bF eH D))] (o-12) else aR bQ S e o else aR bQ S e o)=aR bQ (S.set i ⟨(S.getD i default).d,D⟩) e o:=by
 subst hj
 by_cases c:e=j
 ·subst c
  rw[if_pos rfl]
  have hg:(S.set e ⟨(S.getD e default).d,D⟩).getD e default=⟨(S.getD e default).d,D⟩:=by
   rw[aD,List.getElem?_set_self hi];rfl
  unfold aR bF;rw[hg]
  match o,ho with
  |0,_|1,_|2,_|3,_|4,_|5,_|6,_|7,_|8,_|9,_|10,_|11,_|12,_=>rfl
 ·rw[if_neg c]
  unfold aR bF;rw[aD (l:=S.set _ _),iC (fun h=>c h.symm),←aD];rfl
section
variable {G:Nat→Option Obj}
theorem aJH{L:List Int}(hI:tC L)(S:List Se):hO Tryz.prog G 14 (WZ L S):=by
 intro args p v hm hp h;unfold WZ at hm
 split at hm;rotate_left;· cases hm
 rename_i x
 split at hm;rotate_left;· cases hm
 rename_i q hq;obtain⟨rfl,rfl⟩:=dB hm;obtain⟨h1,rfl⟩:=hp;exact aJI (G:=G) hI [x] _ _ (by simp only[XA,hq]) h1 h
theorem aQ5(i:Nat):hO Tryz.prog G 6 (aO5 i):=by
 intro args p v hm hp h;unfold aO5 at hm
 split at hm;rotate_left;· cases hm
 rename_i n m;obtain⟨rfl,rfl⟩:=dB hm;obtain⟨h1,h2⟩:=hp;rw[show iV (i:Nat)=iV (dP n m) by rw[←h2]];exact RL (G:=G) [.c (.p (.i .i64 n)),.c (.p (.i .i64 m))] _ _ rfl h1 h
theorem ZY(S:List Se)(r:Int):hO Tryz.prog G 17 (NT S r):=by
 intro args p v hm hp h;unfold NT at hm
 split at hm;rotate_left;· cases hm
 rename_i x
 split at hm;rotate_left;· cases hm
 rename_i q hq;obtain⟨rfl,rfl⟩:=dB hm;obtain⟨h1,h2,rfl⟩:=hp;exact aNM (G:=G) S [x] (q∧PI S) _ (by simp only[aFR,hq]) ⟨h1,h2⟩ h
theorem aF4(S:List Se)(r:Int):hO Tryz.prog G 18 (NU S r):=by
 intro args p v hm hp h;unfold NU at hm
 split at hm;rotate_left;· cases hm
 rename_i x y
 split at hm;rotate_left;· cases hm
 rename_i q1 q2 hq1 hq2;obtain⟨rfl,rfl⟩:=dB hm;obtain⟨h1,h2,h3,rfl⟩:=hp;exact aJK (G:=G) S [x,y] (q1∧q2∧PI S) _ (by simp only[XB,hq1,hq2]) ⟨h1,h2,h3⟩ h
theorem AT(i:Nat):cF Tryz.prog G (aGZ i):=eB (by simp;exact aQ5 i)
set_option maxRecDepth 100000 in
set_option maxHeartbeats 2000000 in
theorem evRoot_fn(hLv:hO Tryz.prog G 13 rN){a w n:Int}{L:List Int}(hI:tC L)(hL:L.length≤9223372036854775807)(ha:inR .i64 a)(hw:inR .i64 w)(hn:inR .i64 n)(h:List AO):lW Tryz.prog G 5 [aQ aU 1 L,iV a,iV w,iV n] h fun x h'=>x=bV true∧h'=h:=by
 have hvn:nA L≤10:=by
  have:=fJ L 1 (m:=4) (by omega)
  unfold nA;omega
 have hv0:0<nA L:=by unfold nA;omega
 obtain⟨S,hS⟩:∃S,S=jT L (nA L):=⟨_,rfl⟩
 have hSl:S.length=nA L:=by rw[hS];exact rY _ _
 have hok:PI S:=by rw[hS];exact aF3 L hvn
 have hlo:∀s∈S,∀c∈s.C,-30000≤c.lo∧c.lo≤30000:=by rw[hS];exact aE5 _ _
 obtain⟨r,hr⟩:∃r,r=qH S:=⟨_,rfl⟩
 have hs1:cF Tryz.prog G (aMG L S r):=eB (by simp;exact⟨aJH hI S,aJT S,aF7 (S.map Se.d),ZY S r,aF4 S r,hLv⟩)
 have hs3:cF Tryz.prog G aMA:=eB (by simp;exact hLv)
 refine oY Tryz.func5 (by kernel_rfl) rfl ?_ h
 refine dK.evG hs1 8 (aTH L S a w n r) ?_;simp only[eV,aX,aL,bE,gX,true_and,aDC,Bool.false_eq_true,false_imp_iff,true_imp_iff,beq_iff_eq,beq_eq_false_iff_ne,ne_eq];refine⟨⟨⟨fun _ _ _ _=>trivial,hL⟩,hS⟩,⟨fun _ _ _ _=>trivial,dS hok.1 (by decide)⟩,⟨fun _ _ _ _=>trivial,?_,fun d hd=>?_⟩,⟨fun _ _ _ _=>trivial,hok,hr⟩,⟨fun _ _ _ _=>trivial,fun _ _ _ _=>trivial,hok,hr⟩,fun _=>⟨lO.refl _⟩,fun _=>⟨?_⟩⟩
 ·rw[eA];exact dS hok.1 (by decide)
 ·obtain⟨s,hs,rfl⟩:=List.mem_map.1 hd
  exact hok.2.2 s hs
 clear hS hs1 hvn hL hI
 have ra:=kV a (m:=S.length) (by omega)
 obtain⟨i,hi⟩:∃i:Nat,(i:Int)=dP a S.length:=⟨(dP a S.length).toNat,Int.toNat_of_nonneg ra.1⟩
 have hil:i<S.length:=by omega
 refine dK.pre (aP (st':=cQ 80 [(1,iV a),(2,iV w),(3,iV n),(9,aQ bQ 13 S),(11,oP r)] []) (by kernel_rfl)) ?_
 refine dK.evG (AT i) 2 (aTG S a w n r i) ?_;simp only[aX,aL,bE,show (↑i:Int).toNat=i from rfl]
 have hS10:=hok.1
 have hCi:=hok.2.1 _ (uA hil)
 have hloi:=hlo _ (uA hil)
 have hne:=aEL S i
 have hoks:∀ {D:List Cl},D.length=(S.getD i default).C.length→PI (S.set i ⟨(S.getD i default).d,D⟩):=fun hD=>aJJ hok hil hD
 obtain⟨D,hD⟩:∃D,(S.getD i default).C=D:=⟨_,rfl⟩
 rw[hD]at hCi hloi hoks ⊢;refine⟨⟨⟨ha,by omega⟩,hi⟩,⟨by omega,by omega⟩,trivial,⟨by omega,by omega,aOU D⟩,⟨?_⟩⟩;rw[cK];refine dK.pre (show cL G _ ((fun(D:List Cl) (m:Nat)=>cQ 80 [(2,iV w),(3,iV n),(9,aQ bQ 13 S),(11,oP r),(12,iV (i:Nat)),(13,.c (.sl 0 4 0 m))] [.row 51 4 m (aR eH D)]) D D.length) from gU ⟨⟨rfl,rfl,rfl,fun e o he ho=>(LV _ _ _ e o).trans rfl⟩,trivial⟩) ?_;refine dK.evG hs3 2 (aTF S D w n r i D.length) ?_;simp only[eV,aX,aL,bE,gX,true_and,beq_iff_eq,beq_eq_false_iff_ne,ne_eq];refine⟨fun _=>⟨lO.refl _⟩,fun c0=>⟨?_⟩⟩
 have hD0:0<D.length:=by omega
 have rw':=kV w (m:=D.length) (by omega)
 obtain⟨k,hk⟩:∃k:Nat,(k:Int)=dP w D.length:=⟨(dP w D.length).toNat,Int.toNat_of_nonneg rw'.1⟩
 have hkl:k<D.length:=by omega
 refine dK.pre (aP (st':=(fun(D:List Cl) (m:Nat)=>cQ 80 [(2,iV w),(3,iV n),(9,aQ bQ 13 S),(11,oP r),(12,iV (i:Nat)),(13,.c (.sl 0 4 0 m))] [.row 51 4 m (aR eH D)]) D D.length) (by kernel_rfl)) ?_
 refine dK.evG (AT k) 1 (aTE S D w n r i D.length k) ?_;simp only[aX,aL,bE];refine⟨⟨⟨hw,by omega⟩,hk⟩,⟨?_⟩⟩
 refine dK.pre (aP (st':=(fun(D:List Cl) (n:Int) (m:Nat)=>cQ 80 [(3,iV n),(9,aQ bQ 13 S),(11,oP r),(12,iV (i:Nat)),(13,.c (.sl 0 4 0 m)),(14,iV (k:Nat))] [.row 51 4 m (aR eH D)]) D n D.length) (by kernel_rfl)) ?_
 refine dK.evG aV 2 (aTD S D n r i D.length k) ?_
 have hlk:=hloi _ (uA hkl)
 have fin:∀(n':Int) (st:St),inR .i64 n'→(D.getD k default).lo≠n'→cL G st ((fun(D:List Cl) (n:Int) (m:Nat)=>cQ 80 [(3,iV n),(9,aQ bQ 13 S),(11,oP r),(12,iV (i:Nat)),(13,.c (.sl 0 4 0 m)),(14,iV (k:Nat))] [.row 51 4 m (aR eH D)]) D n' D.length)→dK Tryz.prog G (bU Tryz.prog Tryz.f5) (bV true) (bZ 15 (dW Tryz.prog Tryz.f5)) st fun _ _=>False:=fun n' st hn' hnl hst=>by
  refine dK.pre hst ?_;refine dK.evG aV 1 (aTC S D n' r i D.length k) ?_;simp only[aX,aL,bE];refine⟨⟨by omega,by omega⟩,hkl,⟨?_⟩⟩
  obtain⟨D',hD'⟩:∃D',D.set k { D.getD k default with lo:=n' }=D':=⟨_,rfl⟩
  have hl':D.length=D'.length:=by rw[←hD',cD]
  have hr':qH (S.set i ⟨(S.getD i default).d,D'⟩)≠qH S:=by
   have:=hne k hil (by rw[hD];exact hkl) n' hn' (by rw[hD];simp only[inR];omega) (by rw[hD];exact hnl)
   rw[hD,hD']at this;exact this
  have hok':=hoks hl'.symm
  refine dK.pre ((show cL G _ (cQ 80 [(9,aQ bQ 13 S),(11,oP r),(12,iV (i:Nat)),(13,.c (.sl 0 4 0 D'.length))] [.row 51 4 D'.length (aR eH D')]) from by
   rw[hl'];refine gU ⟨⟨rfl,rfl,rfl,fun e o he ho=>?_⟩,trivial⟩;rw[←hD']
   exact aN0 hkl [0] ho rfl).trans ((pC (id:=0) (ty:=51) (sz:=4) (n:=D'.length) (f:=aR eH D') (bF eH D') (by kernel_rfl) (fun e o he ho=>rfl) (fun e o he ho=>nM.refl _) (ps:=[(0,D'.length)]) (by kernel_rfl) (by simp)).trans ((iT (iU 80 [9,11,12,13]) _).trans (aP (st':=(fun(D:List Cl)=>cQ 80 [(9,aQ bQ 13 S),(11,oP r),(12,iV (i:Nat)),(13,aQ eH 4 D)] []) D') (by kernel_rfl))))) ?_
  refine dK.evG aV 2 (aTB S D' r i) ?_;simp only[aX,aL,bE];refine⟨⟨by omega,by omega,fun e o he ho=>?_⟩,⟨?_⟩⟩
  ·match o,ho with
   |0,_|1,_|2,_|3,_|4,_|5,_|6,_|7,_|8,_|9,_|10,_|11,_|12,_=>rfl
  rw[cK];refine dK.pre (show cL G _ ((fun(D:List Cl) (q:Nat)=>cQ 80 [(11,oP r),(12,iV (i:Nat)),(13,aQ eH 4 D),(15,.c (.sl 0 13 0 q))] [.row 49 13 q (aR bQ S)]) D' S.length) from gU ⟨⟨rfl,rfl,rfl,fun e o he ho=>(LV _ _ _ e o).trans rfl⟩,trivial⟩) ?_;refine dK.evG aV 1 (aTA S D' r i S.length) ?_;simp only[aX,aL,bE];refine⟨⟨by omega,by omega⟩,hil,⟨?_⟩⟩
  obtain⟨S',hS'⟩:∃S',S.set i ⟨(S.getD i default).d,D'⟩=S':=⟨_,rfl⟩
  have hsl:S.length=S'.length:=by rw[←hS',cD]
  rw[hS']at hr' hok'
  refine dK.pre ((show cL G _ (cQ 80 [(11,oP r),(15,.c (.sl 0 13 0 S'.length))] [.row 49 13 S'.length (aR bQ S')]) from by
   rw[hsl];refine gU ⟨⟨rfl,rfl,rfl,fun e o he ho=>?_⟩,trivial⟩;rw[←hS']
   exact aMZ hil [0] ho rfl).trans ((pC (id:=0) (ty:=49) (sz:=13) (n:=S'.length) (f:=aR bQ S') (bF bQ S') (by kernel_rfl) (fun e o he ho=>rfl) (fun e o he ho=>nM.refl _) (ps:=[(0,S'.length)]) (by kernel_rfl) (by simp)).trans ((iT (iU 80 [11,15]) _).trans (aP (st':=(fun(S:List Se)=>cQ 80 [(11,oP r),(15,aQ bQ 13 S)] []) S') (by kernel_rfl))))) ?_
  obtain⟨q,hq⟩:∃q,q=qH S':=⟨_,rfl⟩
  have hqr:(q != r)=true:=by rw[hq,hr];simpa using hr'
  refine dK.evH (eB (by simp;exact⟨ZY S' q,hLv⟩)) (aT9 S' r q) ?_;simp only[eV,aX,aL,gX,true_and,hqr];exact⟨⟨fun _ _ _ _=>trivial,hok',hq⟩,fun _=>⟨lO.refl _⟩,fun c=>by cases c⟩
 simp only[eV,aX,aL,bE,show (↑k:Int).toNat=k from rfl,Nat.add_zero,beq_iff_eq,beq_eq_false_iff_ne,ne_eq]
 refine⟨⟨by omega,by omega⟩,hkl,fun c=>⟨by simp only[inR];omega,⟨fin (n+1) _ (by simp only[inR];omega) (by omega) (aP (by kernel_rfl))⟩⟩,fun c=>⟨fin n _ hn c (aP (by kernel_rfl))⟩⟩
end
end Go.AE
