import Derived.Test.YtjfofadeahdnnaaGreatDoorRows
import Derived.Test.YtjfofadeahdnnaaGreatDoorERh
import Derived.ProofKit
import Derived.OpenShut
import Derived.Lib.LaidTab
import Derived.Test.YtjfofadeahdnnaaGreatDoorERe
import Derived.Test.YtjfofadeahdnnaaGreatDoorERi
import Derived.Test.YtjfofadeahdnnaaGreatDoorERj
set_option linter.unusedVariables false
set_option linter.unusedSimpArgs false
namespace Go.CE
open IntKind renaming i64→aC,u64→bD
open _root_.List renaming getElem?_eq_getElem→aH,getElem?_map→cC,range→cS,replicate→eD
open _root_.Nat renaming pow_le_pow_right→iB,pow_succ'→iE
noncomputable def gw:List C:=[.f (.s [115,117,109]),.f (.s [109,105,110]),.f (.s [109,97,120]),.f (.s [99,111,117,110,116]),.f (.s [107,116,104])]
end Go.CE
namespace Go.Proofs.YtjfofadeahdnnaaGreatDoor
open IntKind renaming i64→aC,u64→bD
open _root_.List renaming getElem?_eq_getElem→aH,getElem?_map→cC,range→cS,replicate→eD
open _root_.Nat renaming pow_le_pow_right→iB,pow_succ'→iE
open Go.ChangeShapes Go.WideShapes Go.ChangeAt Go.RowKit
theorem aQM:Tryz.prog.globalNamed "intervalmon/parser.groupWords" = some 0:=by kernel_rfl
theorem aGN:(Tryz.prog.globals[0]?).map (·.type)=some 314:=by kernel_rfl
theorem aD5:Tryz.prog.cellsOf 9=1:=by kernel_rfl
def aRC(W:World):Prop:=∃o,W.heap[0]?=some o∧Go.CE.GlbOK o Go.CE.gw
theorem grp_of_laid{W:World}(h:laidMetH Tryz.prog [("intervalmon/parser.groupWords",Rows.laid_intervalmon_parser_groupWords)] W):aRC W:=by
 obtain⟨ps,⟨g',t',cs,fuel,p,q,hg',ht',hvar,hd,_,_⟩,_⟩:=h;obtain rfl:=Option.some.inj (aQM.symm.trans hg');obtain rfl:=Option.some.inj (aGN.symm.trans ht');obtain⟨xs,m,_,ex,hlc,hl,hel⟩:=DataW.trod_array Tryz.underlying314 hd;simp only[Prod.mk.injEq]at ex
 have hdat:xs.map (·.1)=[DataW.lit (.string [115,117,109]),.lit (.string [109,105,110]),.lit (.string [109,97,120]),.lit (.string [99,111,117,110,116]),.lit (.string [107,116,104])]:=by
  have:=ex.1
  unfold Rows.laid_intervalmon_parser_groupWords at this;injection this with this;exact this.symm
 rw[aD5]at hel
 have key:∀(i:Nat) (bs:List UInt8),i<5→(xs.map (·.1))[i]?=some (DataW.lit (.string bs))→∃s:ByteArray,cs[i]?=some (.string s)∧s.data.toList=bs:=by
  intro i bs hi hz
  have hi':i<xs.length:=by omega
  have h1:=hel i hi
  rw[cC,aH hi']at hz;rw[aH hi']at h1
  have hz':(xs[i]).1=DataW.lit (.string bs):=by injection hz
  obtain⟨s,e1,e2,_⟩:=DataW.trod_string Tryz.underlying9 h1;refine⟨s,?_,?_⟩
  ·have:=congrArg (·[0]?) e1
   simpa[List.getElem?_take,List.getElem?_drop] using this
  ·rw[e2]at hz'
   injection hz' with hz';injection hz'
 rw[hdat]at key
 have hv:∃ty fz,W.heap[0]?=some (.cells cs ty fz):=by
  unfold World.var? at hvar;rw[aQM]at hvar;simp only[Option.bind_some]at hvar;split at hvar
  ·rename_i c t f e;cases hvar;exact⟨_,_,e⟩
  ·cases hvar
 obtain⟨ty,fz,hv⟩:=hv;refine⟨_,hv,cs,ty,fz,rfl,?_,?_⟩
 ·obtain⟨s,h1,_⟩:=key 4 _ (by omega) rfl
  have:=(Array.getElem?_eq_some_iff.1 h1).1
  show 5≤cs.size
  omega
 ·intro k c hc
  have fin:∀(i:Nat) (bs:List UInt8),i<5→(∃s:ByteArray,cs[i]?=some (.string s)∧s.data.toList=bs)→∃u,cs[i]?=some u∧Go.CE.CR Go.CE.Bt.nil (.f (.s (bs.map UInt8.toNat))) u:=fun i bs hi ⟨s,h1,h2⟩=>⟨_,h1,s,rfl,by rw[h2]⟩
  have hk:k=0∨k=1∨k=2∨k=3∨k=4:=by
   have:k<5:=(List.getElem?_eq_some_iff.1 hc).1
   omega
  rcases hk with rfl|rfl|rfl|rfl|rfl<;>cases hc
  ·exact fin 0 _ (by omega) (key 0 _ (by omega) rfl)
  ·exact fin 1 _ (by omega) (key 1 _ (by omega) rfl)
  ·exact fin 2 _ (by omega) (key 2 _ (by omega) rfl)
  ·exact fin 3 _ (by omega) (key 3 _ (by omega) rfl)
  ·exact fin 4 _ (by omega) (key 4 _ (by omega) rfl)
end Go.Proofs.YtjfofadeahdnnaaGreatDoor
namespace Go.AE
open IntKind renaming i64→aC,u64→bD
open _root_.List renaming getElem?_eq_getElem→aH,getElem?_map→cC,range→cS,replicate→eD
open _root_.Nat renaming pow_le_pow_right→iB,pow_succ'→iE
open Go.Proofs Go.Proofs.YtjfofadeahdnnaaGreatDoor
def oP(n:Int):V:=.c (.p (.i .u64 n))
def dG(x:Int)(_:Nat):PV:=.i .u64 x
def TQ(f:Nat→PV):Int:=aO9 (f 0)
def gW(a b:Int):Int:=qX (gT (PlainAid.bt ⟨#[112,97,105,114]⟩) 4 1) 4 [qA a,qA b]
def aFS:Mod
 |[.c (.p (.i .u64 a)),.c (.p (.i .u64 b))]=>some (True,oP (gW a b))
 |_=>none
def uOf:PV→Option (Prop×List Int)
 |.l sz n f=>match Nat.beq sz 1 with
  |true=>some (IsL dG 1 (IQ TQ n f) n f,IQ TQ n f)
  |false=>none
 |.z (.slice none 0 0)=>some (True,[])
 |_=>none
def aKD:V→Option (Prop×List Int)
 |.c (.p x)=>uOf x
 |_=>none
theorem dB{p q:Prop}{v u:V}(e:some (p,v)=some (q,u)):p=q∧v=u:=by
 injection e with e;injection e with h1 h2;exact⟨h1,h2⟩
theorem aH5(L:List Int):IQ TQ L.length (bF dG L)=L:=aH6 (fun _=>rfl) L
theorem aMV{x:PV}{p:Prop}{L:List Int}(h:uOf x=some (p,L))(hp:p):nM x (mU dG 1 L):=by
 unfold uOf at h;split at h
 ·split at h
  ·rename_i hz
   have:=Nat.eq_of_beq_eq_true hz
   subst this;injection h with h;injection h with h1 h2;subst h1;subst h2;obtain⟨h3,h4⟩:=hp;unfold mU;rw[h3]
   exact nM.l fun e o he ho=>nM.of_eq (h4 e o he ho)
  ·cases h
 ·injection h with h;injection h with h1 h2
  subst h1;subst h2;exact nM.nil 1 _
 ·cases h
theorem aKC{x:V}{p:Prop}{L:List Int}(h:aKD x=some (p,L))(hp:p):lO x (aQ dG 1 L):=by
 unfold aKD at h;split at h
 ·exact lO.p (aMV h hp)
 ·cases h
section
variable {G:Nat→Option Obj}
end
def rN:Mod
 |[]=>some (True,bV true)
 |_=>none
theorem RE{a b:Int}(ha:tA a)(hb:tA b):∃s,tA s∧∀a b,tA a→tA b→gW a b=mY (mY (mY s a) b) 0:=by
 refine⟨mY (mY (oG 0 (gT (PlainAid.bt ⟨#[112,97,105,114]⟩) 4 1)) (4:Nat)) (2:Nat),jU _ _,fun a b ha hb=>?_⟩;unfold gW qX;simp only[List.map_cons,List.map_nil,BG ha,BG hb,List.length_cons,List.length_nil];rfl
theorem aIU(a b:Int):tA (gW a b):=by unfold gW qX;exact jU _ _
theorem u0:tA 0:=⟨by decide,by decide⟩
theorem VV{a c b:Int}(ha:tA a)(hc:tA c)(hb:tA b):gW a b=gW c b↔a=c:=by
 obtain⟨s,hs,e⟩:=RE ha hb;rw[e a b ha hb,e c b hc hb,rL (jU _ _) (jU _ _) u0,rL (jU _ _) (jU _ _) hb,wF hs ha hc]
theorem RD{a b c:Int}(ha:tA a)(hb:tA b)(hc:tA c):gW a b=gW a c↔b=c:=by
 obtain⟨s,hs,e⟩:=RE ha hb;rw[e a b ha hb,e a c ha hc,rL (jU _ _) (jU _ _) u0,wF (jU _ _) hb hc]
def UL(L:List Int):Prop:=∀x∈L,tA x
section
variable {G:Nat→Option Obj}
end
def IP(L:List Int)(_:Nat):PV:=mU dG 1 L
def nB(L:List Int):List (List Int):=(cS (jS L.length+1)).map (mD gW L (jS L.length))
theorem wY(L:List Int):(nB L).length=jS L.length+1:=by unfold nB;simp
theorem JG(L:List Int){k:Nat}(h:k<jS L.length+1):(nB L).getD k default=mD gW L (jS L.length) k:=by
 unfold nB;rw[List.getD_eq_getElem?_getD,cC,List.getElem?_range h];rfl
theorem UZ(x:Int):∀e o:Nat,e<1→o<1→jH (aZ C.top [C.p (.i .u64 x)] ((e+0)*1+o))=true:=by
 intro e o he ho
 obtain rfl:e=0:=by omega
 obtain rfl:o=0:=by omega
 rfl
theorem PY(x:Int):∀o:Nat,o<1→(fun e o:Nat=>aZ C.top [C.p (.i .u64 x)] ((e+0)*1+o)) 0 o=.p (dG x o):=by
 intro o ho
 obtain rfl:o=0:=by omega
 rfl
theorem aIT{R R':Nat→Prop}{w:World}{x:PV}{u:Value}(h:PR R w x u)(hr:∀b,R b→R' b):PR R' w x u:=
 VR.keep (β:=Bt.nil) (β':=Bt.nil) (x:=.c (.p x)) ⟨fun _ _ hi=>(by cases hi),hr,fun _ _=>rfl⟩ h
theorem aEU{R:Nat→Prop}{w:World}{n:Nat}{f g:Nat→Nat→PV}{u:Value}(h:PR R w (.l 1 n f) u)(hf:∀e,e<n→f e 0=g e 0):PR R w (.l 1 n g) u:=by
 obtain⟨A,c,e,h1,h2,h3⟩:=h;refine⟨A,c,e,h1,h2,fun hn=>?_⟩;obtain⟨ad,e1,e2,e3⟩:=h3 hn;refine⟨ad,e1,e2,fun e o he ho=>?_⟩;obtain⟨u,q1,q2⟩:=e3 e o he ho
 obtain rfl:o=0:=by omega
 exact⟨u,q1,by rw[←hf e he];exact q2⟩
section
variable {G:Nat→Option Obj}
end
def aQ8:Mod
 |[x]=>match aKD x with
  |some (p,L)=>some (p∧L.length≤1000,oP (BF gW L (jS L.length) 0))
  |_=>none
 |_=>none
def aM7:Ext:=kH [(24,aFS)]
theorem aSF(L:List Int):dI fR (dN 4 (dW Tryz.prog Tryz.f12)) (pZ Tryz.f12 [aQ dG 1 L]) (eK (iU 50 [3,4]) (bU Tryz.prog Tryz.f12))=Tr.rq ((0+L.length)*8≤140737488355328∧0+L.length≤140737488355328∧∀(e o:Nat),e<L.length→o<1→jH (C.p (bF dG L e o))=true)
 (.done .normal
 (cQ 50 [(3,.c (.sl 0 1 0 (0+L.length))),(4,.c (.p (.i .i64 1)))] [.row 23 1 (0+L.length) fun e o=>cI [0] (fU 0 (fun x x_1=>C.top) (fun e o=>C.p (PV.i bD (L.getD e default))) e o)])):=by kernel_rfl
theorem aSE(out:List Int)(w k:Nat):dI fR (jM (dW Tryz.prog Tryz.f12) 4) (cQ 50 [(3,.c (.sl 0 1 0 k)),(4,iV (w:Nat))] [.row 23 1 k (aR dG out)]) (eK (iU 50 [3,4]) (bU Tryz.prog Tryz.f12))=bT (decide ((↑w:Int)<(↑k:Int)))
 (.rq (inR aC (2*(↑w:Int)))
 (.done .normal
 (cQ 50 [(3,.c (.sl 0 1 0 k)),(4,.c (.p (.i .i64 (2*(↑w:Int)))))] [.row 23 1 k fun e o=>cI [0] (aR dG out e o)])))
 (.done (.exit 0)
 (cQ 50 [(3,.c (.sl 0 1 0 k)),(4,.c (.p (.i .i64 (↑w:Int))))] [.row 23 1 k fun e o=>cI [0] (aR dG out e o)])):=by kernel_rfl
theorem aSD(out:List Int)(w k:Nat):dI fR (jM (dW Tryz.prog Tryz.f12) 5) (cQ 50 [(3,.c (.sl 0 1 0 k)),(4,iV (w:Nat))] [.row 23 1 k (aR dG out)]) (eK (iU 50 [3,4]) (bU Tryz.prog Tryz.f12))=bT (decide ((↑k:Int)<(↑w:Int)))
 (.rq (k=k)
 (.rq (1≤1)
 (.rq ((k+1)*8≤140737488355328∧k+1≤140737488355328∧∀(e o:Nat),e<1→o<1→jH (kY [C.p (PV.i bD 0)] 1 1 (e+0) o)=true)
 (.done .normal
 (cQ 50 [(3,.c (.sl 0 1 0 (k+1))),(4,.c (.p (.i .i64 (↑w:Int))))] [.row 23 1 (k+1) fun e o=>cI [2] (fU k (aR dG out) (fun e o=>aZ C.top [C.p (PV.i bD 0)] ((e+0)*1+o)) e o)])))))
 (.done (.exit 2)
 (cQ 50 [(3,.c (.sl 0 1 0 k)),(4,.c (.p (.i .i64 (↑w:Int))))] [.row 23 1 k fun e o=>cI [0] (aR dG out e o)])):=by kernel_rfl
theorem aSC(M:List Int):dI fR (dN 2 (jM (dW Tryz.prog Tryz.f12) 6)) (cQ 50 [(3,aQ dG 1 M)] []) (eK (iU 50 [3]) (bU Tryz.prog Tryz.f12))=bT (decide (1<(↑M.length:Int)))
 (.done .normal
 (cQ 50 [(3,.c (.p (.l 1 M.length (bF dG M))))] []))
 (.done (.exit 4)
 (cQ 50 [(3,.c (.p (.l 1 M.length (bF dG M))))] [])):=by kernel_rfl
theorem aPN(M:List Int):dI fR (dN 2 (iI (inr (aZ .skip (jM (dW Tryz.prog Tryz.f12) 6) 2)))) (cQ 50 [(3,aQ dG 1 M)] []) (eK (iU 50 [3,5,6]) (bU Tryz.prog Tryz.f12))=Tr.done X.normal
 (cQ 50 [(3,.c (.p (.l 1 M.length (bF dG M)))),(5,.c (.p (.z (Value.slice none 0 0)))),(6,.c (.p (.i .i64 0)))] []):=by kernel_rfl
theorem aSB(M out:List Int)(k i:Nat):dI aM7 (jM (iI (inr (aZ .skip (jM (dW Tryz.prog Tryz.f12) 6) 2))) 2) (cQ 50 [(3,aQ dG 1 M),(5,.c (.sl 0 1 0 k)),(6,iV (i:Nat))] [.row 23 1 k (aR dG out)]) (eK (iU 50 [3,5,6]) (bU Tryz.prog Tryz.f12))=Tr.rq (inR aC ((↑i:Int)+1))
 (bT (decide ((↑i:Int)+1<(↑M.length:Int)))
 (.rq (0≤(↑i:Int)∧(↑i:Int)<(↑M.length:Int))
 (.rq (inR aC ((↑i:Int)+1))
 (.rq (0≤(↑i:Int)+1∧(↑i:Int)+1<(↑M.length:Int))
 (.rq True
 (.rq (k=k)
 (.rq (1≤1)
 (.rq
 ((k+1)*8≤140737488355328 ∧
 k+1≤140737488355328 ∧
 ∀(e o:Nat),e<1→o<1→jH (kY [C.p (PV.i bD (gW (M.getD (↑i:Int).toNat default) (M.getD ((↑i:Int)+1).toNat default)))] 1 1 (e+0) o)=true)
 (.rq (inR aC ((↑i:Int)+2))
 (.done .normal
 (cQ 50 [(3,.c (.p (.l 1 M.length (bF dG M)))),(5,.c (.sl 0 1 0 (k+1))),(6,.c (.p (.i .i64 ((↑i:Int)+2))))] [.row 23 1 (k+1) fun e o=>cI [2] (fU k (aR dG out) (fun e o=>aZ C.top [C.p (PV.i bD (gW (M.getD (↑i:Int).toNat default) (M.getD ((↑i:Int)+1).toNat default)))] ((e+0)*1+o)) e o)]))))))))))
 (.done (.exit 6)
 (cQ 50 [(3,.c (.p (.l 1 M.length (bF dG M)))),(5,.c (.sl 0 1 0 k)),(6,.c (.p (.i .i64 (↑i:Int))))] [.row 23 1 k fun e o=>cI [0] (aR dG out e o)]))):=by kernel_rfl
theorem aSA(M out:List Int)(k i:Nat):dI fR (bZ 3 (iI (inr (aZ .skip (jM (dW Tryz.prog Tryz.f12) 6) 2)))) (cQ 50 [(3,aQ dG 1 M),(5,.c (.sl 0 1 0 k)),(6,iV (i:Nat))] [.row 23 1 k (aR dG out)]) (eK (iU 50 [3]) (bU Tryz.prog Tryz.f12))=Tr.done X.normal
 (cQ 50 [(3,.c (.sl 0 1 0 k))] [.row 23 1 k fun e o=>cI [0] (aR dG out e o)]):=by kernel_rfl
theorem aS9(M:List Int):dI fR (bZ 7 (dW Tryz.prog Tryz.f12)) (cQ 50 [(3,aQ dG 1 M)] []) (eK [] (bU Tryz.prog Tryz.f12))=Tr.rq (Int.ofNat 0≤Int.ofNat 0∧0<(↑M.length:Int)) (.done .ret (St.mk [V.c (C.p (PV.i bD (M.getD (Int.toNat 0) default)))] [])):=by kernel_rfl
def pJ(M:List Int)(j:Nat):List Int:=(cS j).map fun t=>gW (M.getD (2*t) default) (M.getD (2*t+1) default)
theorem RC(M:List Int)(j:Nat):pJ M (j+1)=pJ M j++[gW (M.getD (2*j) default) (M.getD (2*j+1) default)]:=by unfold pJ;rw[List.range_succ,List.map_append];rfl
theorem IG(M:List Int)(j:Nat):(pJ M j).length=j:=by unfold pJ;simp
theorem XK(L:List Int){D k:Nat}(h:k<D):pJ (mD gW L D k) (2^(D-(k+1)))=mD gW L D (k+1):=by
 have h2:2^(D-k)=2*2^(D-(k+1)):=by rw[←iE,show (D-(k+1)).succ=D-k by omega]
 unfold pJ;rw[show mD gW L D (k+1)=(cS (2^(D-(k+1)))).map fun j=>BF gW L (k+1) (j*2^(k+1)) from rfl]
 refine List.map_congr_left fun j hj=>?_
 have hj:j<2^(D-(k+1)):=List.mem_range.1 hj
 generalize 2^(D-(k+1))=m at h2 hj
 rw[pN L default (by rw[h2];omega),pN L default (by rw[h2];omega)]
 show _=gW _ _
 have e1:2*j*2^k=j*2^(k+1):=by rw[iE,←Nat.mul_assoc,Nat.mul_comm j 2]
 have e2:(2*j+1)*2^k=j*2^(k+1)+2^k:=by rw[Nat.add_mul,e1,Nat.one_mul]
 rw[e1,e2]
section
variable {G:Nat→Option Obj}
theorem aJL:hO Tryz.prog G 24 aFS:=by
 intro args p v hm hp h;unfold aFS at hm
 split at hm;rotate_left;· cases hm
 rename_i a b;obtain⟨rfl,rfl⟩:=dB hm;refine GP rfl ?_ h;intro R w vs hr hg ha
 obtain⟨u,l,e,hu,ha⟩:=All2.nth2 ha;obtain⟨u1,l1,rfl,hu1,ha⟩:=All2.nth2 ha;obtain rfl:=All2.nil2 ha
 have hu:u=.int .u64 a:=hu
 have hu1:u1=.int .u64 b:=hu1
 subst hu;subst hu1
 obtain rfl:vs = #[.int .u64 a,.int .u64 b]:=by
  apply Array.ext';simpa using e
 refine(aBR a b w).mono ?_;rintro e w' ⟨rfl,hb⟩;exact⟨_,rfl,rfl,hb⟩
theorem SZ:cF Tryz.prog G aM7:=eB (by simp;exact aJL)
end
theorem aDC{α:Type}[BEq α][LawfulBEq α](a:α):(a != a)=false:=by simp
section
variable {G:Nat→Option Obj}
set_option maxRecDepth 100000 in
theorem aPZ:hO Tryz.prog G 12 aQ8:=by
 intro args p v hm hp h;unfold aQ8 at hm
 split at hm;rotate_left;· cases hm
 rename_i x
 split at hm;rotate_left;· cases hm
 rename_i q L hx;obtain⟨rfl,rfl⟩:=dB hm;clear hm;obtain⟨hq,hL⟩:=hp;refine lW.args (args':=[aQ dG 1 L]) ?_ (.cons (aKC hx hq) .nil)
 refine oY Tryz.func12 (by kernel_rfl) rfl ?_ h
 refine dK.evG aV 4 (aSF L) ?_;simp only[aX,aL,bE,Nat.zero_add]
 have hd10:jS L.length≤10:=wO (by omega)
 have hD2:2^jS L.length≤1024:=Nat.le_trans (iB (by omega) hd10) (by decide)
 have hnD:=yB L.length
 refine⟨⟨by omega,by omega,fun e o _ _=>rfl⟩,⟨?_⟩⟩
 refine dK.loop' (l:=bZ 4 (dW Tryz.prog Tryz.f12)) (b:=inr (inr (aZ .skip (dW Tryz.prog Tryz.f12) 4))) (r:=bZ 5 (dW Tryz.prog Tryz.f12)) (id:=0) (by kernel_rfl) (σ:=Nat×Nat)
   (fun x=>(fun out w k=>cQ 50 [(3,.c (.sl 0 1 0 k)),(4,iV (w:Nat))] [.row 23 1 k (aR dG out)]) L x.1 L.length) (fun x=>x.1=2^x.2∧(x.2=0∨2^(x.2-1)<L.length)) (fun x=>2000-x.1) (1,0) ⟨rfl,.inl rfl⟩ (gU ⟨⟨rfl,rfl,rfl,fun e o he ho=>by
    unfold fU cI aR bF dG;rfl⟩,trivial⟩) ?_
 rintro⟨w,d⟩ ⟨hw,hd⟩ Q1 q1n q1e -;dsimp only at hw hd q1n q1e ⊢
 have e2:2^(d+1)=2*2^d:=iE
 have hp:=Nat.one_le_two_pow (n:=d)
 rw[←hw]at e2 hp;refine dK.evH aV (aSE L w L.length) ?_;simp only[eV,aX,aL,gX,bE,jK,decide_eq_true_eq,decide_eq_false_iff_not,inR]
 refine⟨fun h2=>⟨by omega,⟨q1n (2*w,d+1) _ ⟨e2.symm,.inr (by rw[Nat.add_sub_cancel,←hw];omega)⟩ (show 2000-2*w<2000-w by omega) (aP (by kernel_rfl))⟩⟩,fun h2=>⟨q1e _ ?_⟩⟩
 clear q1n q1e Q1
 have hdd:=aAY (n:=L.length) (d:=d) (by rw[←hw];omega) hd
 subst hdd;clear hd e2 hp
 refine dK.loop' (l:=bZ 5 (dW Tryz.prog Tryz.f12)) (b:=inr (inr (aZ .skip (dW Tryz.prog Tryz.f12) 5))) (r:=bZ 6 (dW Tryz.prog Tryz.f12)) (id:=2) (by kernel_rfl) (σ:=Nat)
   (fun j=>(fun out w k=>cQ 50 [(3,.c (.sl 0 1 0 k)),(4,iV (w:Nat))] [.row 23 1 k (aR dG out)]) (L++eD j 0) w (L.length+j)) (fun j=>L.length+j≤w) (fun j=>w-j) 0 (show L.length+0≤w by omega) (gU ⟨⟨rfl,rfl,rfl,fun e o he ho=>by
     simp only[List.replicate_zero,List.append_nil];rfl⟩,trivial⟩) ?_
 rintro j hj Q1 q1n q1e -
 have hlj:(L++eD j 0).length=L.length+j:=by simp
 refine dK.evH aV (aSD (L++eD j 0) w (L.length+j)) ?_;simp only[eV,aX,aL,gX,bE,jK,decide_eq_true_eq,decide_eq_false_iff_not,inR];refine⟨fun h2=>⟨trivial,Nat.le_refl _,⟨by omega,by omega,UZ _⟩,⟨q1n (j+1) _ (show L.length+(j+1)≤w by omega) (show w-(j+1)<w-j by omega) ?_⟩⟩,fun h2=>⟨q1e _ ?_⟩⟩
 ·show cL G _ ((fun out w k=>cQ 50 [(3,.c (.sl 0 1 0 k)),(4,iV (w:Nat))] [.row 23 1 k (aR dG out)]) (L++eD (j+1) 0) w (L.length+(j+1)))
  rw[List.replicate_succ',←List.append_assoc];exact gU ⟨⟨rfl,rfl,rfl,fun e o he ho=>oT (ρ:=[2]) hlj (PY _) he ho⟩,trivial⟩
 clear q1n q1e Q1
 have hj2:L.length+j=w:=by omega
 have hout:L++eD j 0=mD gW L (jS L.length) 0:=by
  rw[zC,←hw,show w-L.length=j by omega]
 have hl0:(mD gW L (jS L.length) 0).length=L.length+j:=by rw[←hout,hlj]
 rw[hout]
 obtain⟨D,hD⟩:∃D,jS L.length=D:=⟨_,rfl⟩
 rw[hD]at hl0 hw hd10 ⊢
 have frz:∀(out:List Int) (k:Nat),out.length=k→cL G (cQ 50 [(3,V.c (C.sl 0 1 0 k))] [AO.row 23 1 k fun e o=>cI [0] (aR dG out e o)]) ((fun M=>cQ 50 [(3,aQ dG 1 M)] []) out):=by
  rintro out k rfl
  refine(pC (id:=0) (ty:=23) (sz:=1) (n:=out.length) (f:=fun e o=>cI [0] (aR dG out e o)) (bF dG out) (by kernel_rfl) (fun e o he ho=>rfl) (fun e o he ho=>nM.refl _) (ps:=[(0,out.length)]) (by kernel_rfl) (by simp)).trans ((aP (st':=cQ 50 [(3,.c (.p (.l 1 out.length fun e o=>bF dG out (e+0) o)))] [.gone]) (by kernel_rfl)).trans ?_)
  have hw2:lO (.c (.p (.l 1 out.length fun e o=>bF dG out (e+0) o))) (aQ dG 1 out):=lO.refl _
  exact(aB8 (j:=3) (y:=aQ dG 1 out) (by exact hw2)).trans ((iT (iU 50 [3]) _).trans (aP (by kernel_rfl)))
 refine dK.loop' (l:=bZ 6 (dW Tryz.prog Tryz.f12)) (b:=inr (inr (aZ .skip (dW Tryz.prog Tryz.f12) 6))) (r:=bZ 7 (dW Tryz.prog Tryz.f12)) (id:=4) (by kernel_rfl) (σ:=Nat)
   (fun k=>(fun M=>cQ 50 [(3,aQ dG 1 M)] []) (mD gW L D k)) (fun k=>k≤D) (fun k=>D-k) 0 (Nat.zero_le _) ((iT (iU 50 [3]) _).trans ((aP (by kernel_rfl)).trans (frz (mD gW L D 0) _ hl0))) ?_
 rintro k hk Q1 q1n q1e -
 have hlk:=kO (pz:=gW) L D k
 have hpk:2^(D-k)≤1024:=Nat.le_trans (iB (by omega) (by omega:D-k≤10)) (by decide)
 refine dK.evG aV 2 (aSC (mD gW L D k)) ?_;simp only[eV,aX,aL,gX,bE,jK,decide_eq_true_eq,decide_eq_false_iff_not];refine⟨fun h6=>⟨?_⟩,fun h6=>⟨q1e _ ?_⟩⟩;rotate_left
 ·obtain rfl:k=D:=by
    rcases Nat.lt_or_ge k D with h|h
    ·have h2:2^(D-k)=2*2^(D-(k+1)):=by rw[←iE,show (D-(k+1)).succ=D-k by omega]
     have:=Nat.one_le_two_pow (n:=D-(k+1))
     omega
    ·omega
  refine dK.evH aV (aS9 (mD gW L k k)) ?_;simp only[aX,aL,gX];refine⟨⟨by decide,by rw[hlk];have:=Nat.one_le_two_pow (n:=k-k);omega⟩,⟨?_⟩⟩;rw[show Int.toNat 0=0 from rfl,pN L default (Nat.two_pow_pos _),Nat.zero_mul];exact lO.refl _
 have hkD:k<D:=by
  rcases Nat.lt_or_ge k D with h|h
  ·exact h
  ·rw[hlk,show D-k=0 by omega]at h6
   simp at h6
 obtain⟨m,hm⟩:∃m,2^(D-(k+1))=m:=⟨_,rfl⟩
 have h2m:2^(D-k)=2*m:=by rw[←hm,←iE,show (D-(k+1)).succ=D-k by omega]
 have hpr:=XK L hkD
 rw[hm]at hpr;rw[h2m]at hlk hpk
 generalize mD gW L D k=M at hlk hpr ⊢
 refine dK.blk' (l:=bZ 2 (jM (dW Tryz.prog Tryz.f12) 6)) (id:=5) (a:=inr (aZ .skip (jM (dW Tryz.prog Tryz.f12) 6) 2)) (r:=bZ 3 (jM (dW Tryz.prog Tryz.f12) 6)) (by kernel_rfl) ?_
 intro Q2 q2n q2e _;refine dK.evG aV 2 (aPN M) ?_;simp only[aL,bE];refine⟨?_⟩
 refine dK.loop' (l:=bZ 2 (iI (inr (aZ .skip (jM (dW Tryz.prog Tryz.f12) 6) 2)))) (b:=inr (inr (aZ .skip (iI (inr (aZ .skip (jM (dW Tryz.prog Tryz.f12) 6) 2))) 2))) (r:=bZ 3 (iI (inr (aZ .skip (jM (dW Tryz.prog Tryz.f12) 6) 2)))) (id:=6) (by kernel_rfl) (σ:=Nat)
   (fun j=>(fun out k i=>cQ 50 [(3,aQ dG 1 M),(5,.c (.sl 0 1 0 k)),(6,iV (i:Nat))] [.row 23 1 k (aR dG out)]) (pJ M j) j (2*j)) (fun j=>2*j≤M.length) (fun j=>M.length-j) 0 (Nat.zero_le _) ((kE 23 1 (aR dG []) 5 (by kernel_rfl)).trans (aP (by kernel_rfl))) ?_
 rintro j hj Q3 q3n q3e -
 have hlj:=IG M j
 refine dK.evH SZ (aSB M (pJ M j) j (2*j)) ?_
 have e1:(((2*j:Nat):Int)+1).toNat=2*j+1:=by omega
 simp only[eV,aX,aL,bE,jK,decide_eq_true_eq,decide_eq_false_iff_not,inR,e1,show ((2*j:Nat):Int).toNat=2*j from rfl];refine⟨by omega,fun h7=>⟨by omega,by omega,by omega,trivial,trivial,Nat.le_refl _,⟨by omega,by omega,UZ _⟩,by omega,⟨q3n (j+1) _ (show 2*(j+1)≤M.length by omega) (show M.length-(j+1)<M.length-j by omega) ?_⟩⟩,fun h7=>⟨q3e _ ?_⟩⟩
 ·show cL G _ ((fun out k i=>cQ 50 [(3,aQ dG 1 M),(5,.c (.sl 0 1 0 k)),(6,iV (i:Nat))] [.row 23 1 k (aR dG out)]) (pJ M (j+1)) (j+1) (2*(j+1)))
  rw[RC];exact gU ⟨⟨rfl,rfl,rfl,fun e o he ho=>oT (ρ:=[2]) hlj (PY _) he ho⟩,trivial⟩
 ·obtain rfl:j=m:=by omega
  refine dK.evH aV (aSA M (pJ M j) j (2*j)) ?_;simp only[aL,bE];refine⟨q2n _ ?_⟩;rw[hpr];rw[hpr]at hlj;exact⟨_,frz _ _ hlj,q1n (k+1) _ (show k+1≤D by omega) (show D-(k+1)<D-k by omega) (cL.refl _)⟩
end
end Go.AE
