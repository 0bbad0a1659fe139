import Derived.Test.YtfjihbmehhccoaaB1
import Derived.Test.YtfjihbmehhccoaaBD
import Derived.Test.YtfjihbmehhccoaaShelf
import Derived.OpenShut
set_option linter.unusedVariables false
set_option linter.unusedSimpArgs false
namespace Go.AE
open _root_.ByteArray renaming mk→aH
open _root_.Int renaming ofNat→dR,toNat_natCast→dW
open IntKind renaming i64→aC
open _root_.List renaming all_eq_true→fN,getD_eq_getElem?_getD→aD,getElem?_eq_getElem→aK,getElem_mem→jQ,length_append→aL,mem_append→dK,mem_cons→fC,mem_cons_of_mem→cN,mem_cons_self→cZ,mem_singleton→eO,take_length→fF
open _root_.Nat renaming le_refl→aW,not_lt_zero→iH,zero_le→bX
open _root_.Go.Proofs.Try renaming prog→aB
open Value renaming agg→iK,int→cT,slice→bB,string→cU
open Go.Proofs Go.Proofs.Ytfjihbmehhccoaa Go.RowKit
def iM(L:List Int):List Int:=L.mergeSort fun x y=>decide (x≤y)
theorem kP(L:List Int):(iM L).length=L.length:=by unfold iM;exact List.length_mergeSort L
def aCK(L:List Int)(f:Nat→Nat→C):Prop:=∀e o,e<L.length→o<1→f e o=aO aT L e o
def LM(L:List Int):kD
 |[.c (.sl id 1 0 n)],h=>match bC .gone h id with
  |.row 3 1 n' f=>some (n=L.length∧n'=L.length∧aCK L f∧L.length≤1000000,.t [],eT (.row 3 1 L.length (aO aT (iM L))) h id)
  |_=>none
 |_,_=>none
section
variable {G:Nat→Option Obj}
theorem WL(L:List Int):gG aB G 44 (LM L):=by
 intro args h p v h' hm hp;unfold LM at hm
 split at hm;rotate_left;· cases hm
 split at hm;rotate_left;· cases hm
 rename_i id n h n' f hid;obtain⟨rfl,rfl,rfl⟩:=gO hm;obtain⟨rfl,rfl,hf,hL⟩:=hp;refine ZF hid hf (kP L) (fun w blk cap hH hb _=>?_) (fun w p cap _=>?_)
 ·exact Try.slices_Sort_int blk 0 cap L w hH hb (by omega)
 ·exact Try.slices_Sort_int_none p cap w
end
def aEC:kD
 |[.c (.p (.z (.slice none 0 0))),.c (.p (.i .i64 n))],h=>some (0≤n∧n≤1000000,.c (.sl (fG h) 1 0 0),fB (.row 3 1 0 fun e o=>.p (aE aT [] e o)) h)
 |_,_=>none
def aLF:Ext:=mH [(77,aEC)]
def nR(x:List Int)(_:Nat):PV:=bO aT 1 x
theorem tG1(n:Nat):dF fH (dL 6 (dC aB Try.f77)) (oB Try.f77 [.c (.p (.z (.slice none 0 0))),iV n]) (gW (fJ 27 [0]) [])=Tr.rq (eW aC (0-0))
 (.rq (eW aC ((↑n:Int)-(0-0)))
 (bT (decide (0<(↑n:Int)-(0-0)))
 (.rq ((↑(0:Nat):Int)=0∧(0:Int)=0)
 (.rq (0<(↑n:Int)-(0-0)∧((↑n:Int)-(0-0))*(↑(8:Nat):Int)≤140737488355328∧(↑n:Int)-(0-0)≤140737488355328)
 (.rq (0≤(↑(0:Nat):Int)∧(↑(0:Nat):Int)≤0∧0≤(↑((↑n:Int)-(0-0)).toNat:Int))
 (.done .normal
 (bY 27 [(0,.c (.sl 0 1 0 0))] [.row 3 1 ((↑n:Int)-(0-0)).toNat fun e o=>bQ [0] (C.p (bC (PV.b false) [PV.i aC 0] o))])))))
 (.done .normal
 (bY 27 [(0,.c (.p (.z (bB none 0 0))))] [])))):=by kernel_rfl
theorem tC1(LL:List (List Int)):dF fH (dL 3 (dC aB Try.f46)) (oB Try.f46 [aU nR 1 LL]) (gW (fJ 36 [0,3,9,10,11]) [])=Tr.done X.normal
 (bY 36 [(0,.c (.p (.l 1 LL.length (aE nR LL)))),(3,.c (.p (.i .i64 0))),(9,.c (.p (.l 1 LL.length (aE nR LL)))),(10,.c (.p (.i .i64 (↑LL.length:Int)))),(11,.c (.p (.i .i64 0)))] []):=by kernel_rfl
theorem tC2(LL:List (List Int))(s i:Nat):dF fH (gQ (dC aB Try.f46) 3) (bY 36 [(0,aU nR 1 LL),(3,iV s),(9,aU nR 1 LL),(10,iV (LL.length:Nat)),(11,iV i)] []) (gW (fJ 36 [0,3,9,10,11]) [])=bT (decide ((↑i:Int)<(↑LL.length:Int)))
 (.rq (0≤(↑i:Int)∧(↑i:Int)<(↑LL.length:Int))
 (.rq (eW aC ((↑s:Int)+(↑(LL.getD (↑i:Int).toNat default).length:Int)))
 (.rq (eW aC ((↑i:Int)+1))
 (.done .normal
 (bY 36 [(0,.c (.p (.l 1 LL.length (aE nR LL)))),(3,.c (.p (.i .i64 ((↑s:Int)+(↑(LL.getD (↑i:Int).toNat default).length:Int))))),(9,.c (.p (.l 1 LL.length (aE nR LL)))),(10,.c (.p (.i .i64 (↑LL.length:Int)))),(11,.c (.p (.i .i64 ((↑i:Int)+1))))] [])))))
 (.done (.exit 0)
 (bY 36 [(0,.c (.p (.l 1 LL.length (aE nR LL)))),(3,.c (.p (.i .i64 (↑s:Int)))),(9,.c (.p (.l 1 LL.length (aE nR LL)))),(10,.c (.p (.i .i64 (↑LL.length:Int)))),(11,.c (.p (.i .i64 (↑i:Int))))] [])):=by kernel_rfl
theorem tC3(LL:List (List Int))(s:Nat):dF aLF (dL 2 (bL 4 (dC aB Try.f46))) (bY 36 [(0,aU nR 1 LL),(3,iV s)] []) (gW (fJ 36 [6,25,26,27]) [])=Tr.rq (0≤(↑s:Int)∧(↑s:Int)≤1000000)
 (.done .normal
 (bY 36 [(6,.c (.sl 0 1 0 0)),(25,.c (.p (.l 1 LL.length (aE nR LL)))),(26,.c (.p (.i .i64 (↑LL.length:Int)))),(27,.c (.p (.i .i64 0)))] [.row 3 1 0 fun e o=>bQ [0] (C.p (PV.i aC ([].getD e default)))])):=by kernel_rfl
theorem tC4(LL:List (List Int))(out:List Int)(k i:Nat):dF fH (gQ (dC aB Try.f46) 6) (bY 36 [(6,.c (.sl 0 1 0 k)),(25,aU nR 1 LL),(26,iV (LL.length:Nat)),(27,iV i)] [.row 3 1 k (aO aT out)]) (gW (fJ 36 [6,25,26,27]) [])=bT (decide ((↑i:Int)<(↑LL.length:Int)))
 (.rq (0≤(↑i:Int)∧(↑i:Int)<(↑LL.length:Int))
 (.rq (k=k)
 (.rq
 ((k+(LL.getD (↑i:Int).toNat default).length)*8≤140737488355328 ∧
 k+(LL.getD (↑i:Int).toNat default).length≤140737488355328 ∧
 ∀(e o:Nat),e<(LL.getD (↑i:Int).toNat default).length→o<1→iQ (C.p (aE aT (LL.getD (↑i:Int).toNat default) e o))=true)
 (.rq (eW aC ((↑i:Int)+1))
 (.done .normal
 (bY 36 [(6,.c (.sl 0 1 0 (k+(LL.getD (↑i:Int).toNat default).length))),(25,.c (.p (.l 1 LL.length (aE nR LL)))),(26,.c (.p (.i .i64 (↑LL.length:Int)))),(27,.c (.p (.i .i64 ((↑i:Int)+1))))] [.row 3 1 (k+(LL.getD (↑i:Int).toNat default).length) fun e o=>bQ [1] (fI k (aO aT out) (fun e o=>C.p (PV.i aC ((LL.getD (↑i:Int).toNat default).getD e default))) e o)]))))))
 (.done (.exit 2)
 (bY 36 [(6,.c (.sl 0 1 0 k)),(25,.c (.p (.l 1 LL.length (aE nR LL)))),(26,.c (.p (.i .i64 (↑LL.length:Int)))),(27,.c (.p (.i .i64 (↑i:Int))))] [.row 3 1 k fun e o=>bQ [0] (aO aT out e o)])):=by kernel_rfl
theorem lY.of_isL{α:Type}[Inhabited α]{enc:α→Nat→PV}{sz:Nat}{L:List α}{n:Nat}{f:Nat→Nat→PV}(h:kI enc sz L n f):lY (.l sz n f) (bO enc sz L):=by
 obtain⟨rfl,h2⟩:=h
 exact lY.l fun e o he ho=>lY.of_eq (h2 e o he ho)
def iOf:PV→Option (Prop×List Int)
 |.l 1 n f=>some (kI aT 1 (bS gH n f) n f,bS gH n f)
 |.z (.slice none 0 0)=>some (True,[])
 |_=>none
theorem UR{x:PV}{p:Prop}{A:List Int}(h:iOf x=some (p,A))(hp:p):lY x (bO aT 1 A):=by
 unfold iOf at h;split at h
 ·injection h with h
  injection h with h1 h2;subst h2;subst h1;exact lY.of_isL hp
 ·injection h with h
  injection h with h1 h2;subst h2;subst h1;exact lY.nil 1 _
 ·cases h
def LT:kD
 |[.c (.p (.l 1 2 F))],h=>match iOf (F 0 0),iOf (F 1 0) with
  |some (p,A),some (q,B)=>some ((p∧q)∧A.length+B.length≤1000000,.c (.sl (fG h) 1 0 (A++B).length),fB (.row 3 1 (A++B).length fun e o=>.p (aE aT (A++B) e o)) h)
  |_,_=>none
 |_,_=>none
def kU(L:List Int):List Int:=Go.Lib.compact L
theorem nY(L:List Int):(kU L).length≤L.length:=Go.Lib.compact_length_le L
def UD(L:List Int):kD
 |[.c (.sl id 1 0 n)],h=>match bC .gone h id with
  |.row 3 1 n' f=>some (n=L.length∧n'=L.length∧aCK L f∧L.length≤1000000,.c (.sl id 1 0 (kU L).length),eT (.row 3 1 (kU L).length (aO aT (kU L))) h id)
  |_=>none
 |_,_=>none
section
variable {G:Nat→Option Obj}
set_option maxRecDepth 100000 in
theorem aNK:gG aB G 77 aEC:=by
 intro args h p v h' hm hp;unfold aEC at hm
 split at hm;rotate_left;· cases hm
 rename_i _ _ n0;obtain⟨rfl,rfl,rfl⟩:=gO hm;obtain⟨hn0,hn1⟩:=hp
 obtain⟨n,rfl⟩:∃n:Nat,n0=n:=⟨n0.toNat,by omega⟩
 refine MM (args:=[.c (.p (.z (.slice none 0 0))),iV n]) (r:=4) (ty:=3) (sz:=1) (n:=0) (F:=aE aT []) (pre:=dL 7 (dC aB Try.f77)) Try.func77 (by kernel_rfl) (by kernel_rfl) (by kernel_rfl) rfl ?_ h
 have fin:eG aB G [] vF (bL 6 (dL 7 (dC aB Try.f77))) (bY 27 [(0,.c (.sl 0 1 0 0))] [.row 3 1 0 (aO aT [])]) (fun e st=>e=.normal∧MW 4 3 1 0 (aE aT []) .ret st):=by
  refine eG.evH aY (keep:=fJ 27 [4]) (tree:=.done .normal (bY 27 [(4,.c (.sl 0 1 0 0))] [.row 3 1 0 fun e o=>bQ [0] (aO aT [] e o)])) (by kernel_rfl) ?_
  exact⟨rfl,fun j=>by simp,0,_,rfl,rfl,fun e o he ho=>absurd he (iH _)⟩
 refine eG.evG aY 6 (tG1 n) ?_;simp only[cD,bA,aP,cC,decide_eq_true_eq,decide_eq_false_iff_not,eW];refine⟨by omega,by omega,fun h1=>⟨⟨rfl,trivial⟩,by omega,by omega,⟨?_⟩⟩,fun h1=>⟨?_⟩⟩
 ·refine eG.pre ((RX (id:=0) (ty:=3) (sz:=1) (n:=((n:Int)-(0-0)).toNat) (f:=fun e o=>bQ [0] (C.p (bC (PV.b false) [PV.i aC 0] o))) 0 (by kernel_rfl) (bX _)).trans ((aI (by kernel_rfl)).trans (jF (h:=[.row 3 1 0 fun e o=>bQ [0] (C.p (bC (PV.b false) [PV.i aC 0] o))]) (h':=[.row 3 1 0 (aO aT [])]) ⟨⟨rfl,rfl,rfl,fun e o he ho=>absurd he (iH _)⟩,trivial⟩))) fin
 ·exact eG.pre ((mM 3 1 (aO aT []) 0 (by kernel_rfl)).trans (aI (by kernel_rfl))) fin
theorem QI:bG aB G aLF:=eM (by simp;exact aNK)
theorem LX:∀(LL:List (List Int)) (i:Nat),(LL.take i).flatten.length≤LL.flatten.length
 |[],i=>by simp
 |x::r,0=>by simp
 |x::r,i+1=>by
  have:=LX r i
  simp only[List.take_succ_cons,List.flatten_cons,aL];omega
theorem JU{LL:List (List Int)}{i:Nat}(hi:i<LL.length):(LL.take (i+1)).flatten=(LL.take i).flatten++LL.getD i default:=by
 rw[List.take_succ_eq_append_getElem hi,List.flatten_append,aD,aK hi];simp
set_option maxRecDepth 100000 in
theorem aB1(LL:List (List Int))(hL:LL.flatten.length≤1000000)(hn:LL.length≤1000000)(h:List AO):jW aB G 46 [aU nR 1 LL] h fun x h'=>x=.c (.sl (fG h) 1 0 LL.flatten.length)∧h'=fB (.row 3 1 LL.flatten.length fun e o=>.p (aE aT LL.flatten e o)) h:=by
 refine MM (args:=[aU nR 1 LL]) (r:=2) (ty:=3) (sz:=1) (n:=LL.flatten.length) (F:=aE aT LL.flatten) (pre:=dL 8 (dC aB Try.f46)) Try.func46 (by kernel_rfl) (by kernel_rfl) (by kernel_rfl) rfl ?_ h
 refine eG.evG aY 3 (tC1 LL) ?_;simp only[cD,bA,aP,cC];refine⟨?_⟩
 refine eG.loop' (l:=bL 3 (dL 8 (dC aB Try.f46))) (b:=inr (inr (bC .skip (dC aB Try.f46) 3))) (r:=bL 4 (dL 8 (dC aB Try.f46))) (id:=0) (by kernel_rfl) (σ:=Nat)
   (fun i=>(fun s=>bY 36 [(0,aU nR 1 LL),(3,iV s),(9,aU nR 1 LL),(10,iV (LL.length:Nat)),(11,iV (i:Nat))] []) ((LL.take i).flatten.length:Nat)) (fun i=>i≤LL.length) (fun i=>LL.length-i) 0 (bX _) (aI (by kernel_rfl)) ?_
 ·intro i hi Q1 q1n q1e _
  refine eG.evH aY (tC2 LL (LL.take i).flatten.length i) ?_
  have h1:=LX LL (i+1)
  simp only[cD,bA,aP,cC,jZ,decide_eq_true_eq,decide_eq_false_iff_not,eW,show (↑i:Int).toNat=i from rfl];refine⟨fun hlt=>?_,fun hge=>⟨q1e _ ?_⟩⟩
  ·have hlt:i<LL.length:=by omega
   have h2:=JU hlt
   have h3:(LL.take (i+1)).flatten.length=(LL.take i).flatten.length+(LL.getD i default).length:=by rw[h2,aL]
   refine⟨by omega,by omega,by omega,⟨q1n (i+1) _ (by omega) (by omega) ?_⟩⟩;rw[h3]
   exact aI (by kernel_rfl)
  ·obtain rfl:i=LL.length:=by omega
   rw[fF]
   refine eG.pre (gB (fJ 36 [0,3]) _) (eG.pre (aI (by kernel_rfl)) (eG.evG QI 2 (tC3 LL LL.flatten.length) ?_))
   simp only[cD,bA,aP,cC];refine⟨by omega,⟨?_⟩⟩
   refine eG.loop' (l:=bL 6 (dL 8 (dC aB Try.f46))) (b:=inr (inr (bC .skip (dC aB Try.f46) 6))) (r:=bL 7 (dL 8 (dC aB Try.f46))) (id:=2) (by kernel_rfl) (σ:=Nat)
     (fun i=>(fun out k=>bY 36 [(6,.c (.sl 0 1 0 k)),(25,aU nR 1 LL),(26,iV (LL.length:Nat)),(27,iV (i:Nat))] [.row 3 1 k (aO aT out)]) (LL.take i).flatten (LL.take i).flatten.length) (fun i=>i≤LL.length) (fun i=>LL.length-i) 0 (bX _) ((aI (by kernel_rfl)).trans (jF (h:=[.row 3 1 0 (fun e o=>bQ [0] (aO aT [] e o))]) ⟨⟨rfl,rfl,rfl,fun _ _ _ _=>rfl⟩,trivial⟩)) ?_
   intro i hi Q2 q2n q2e _;refine eG.evH aY (tC4 LL (LL.take i).flatten (LL.take i).flatten.length i) ?_
   have h1:=LX LL (i+1)
   simp only[cD,bA,aP,cC,jZ,decide_eq_true_eq,decide_eq_false_iff_not,eW,show (↑i:Int).toNat=i from rfl];refine⟨fun hlt=>?_,fun hge=>⟨q2e _ ?_⟩⟩
   ·have hlt:i<LL.length:=by omega
    have h2:=JU hlt
    have h3:(LL.take (i+1)).flatten.length=(LL.take i).flatten.length+(LL.getD i default).length:=by rw[h2,aL]
    refine⟨by omega,trivial,⟨by omega,by omega,fun _ _ _ _=>rfl⟩,by omega,⟨q2n (i+1) _ (by omega) (by omega) ?_⟩⟩;rw[h3,h2];refine jF ⟨⟨rfl,rfl,rfl,fun e o he ho=>?_⟩,trivial⟩;exact congrArg (bQ [1]) (aUL (enc:=aT) (L:=(LL.take i).flatten) (M:=LL.getD i default) rfl)
   ·obtain rfl:i=LL.length:=by omega
    rw[fF]
    refine eG.evH aY (keep:=fJ 36 [2]) (tree:=.done .normal (bY 36 [(2,.c (.sl 0 1 0 LL.flatten.length))] [.row 3 1 LL.flatten.length fun e o=>bQ [0] (bQ [0] (aO aT LL.flatten e o))])) (by kernel_rfl) ?_
    exact⟨rfl,fun j=>by simp,0,_,rfl,rfl,fun e o he ho=>rfl⟩
theorem aDM:gG aB G 46 LT:=by
 intro args h p v h' hm hp;unfold LT at hm
 split at hm;rotate_left;· cases hm
 split at hm;rotate_left;· cases hm
 rename_i F _ _ _ q1 A q2 B ha hb;obtain⟨rfl,rfl,rfl⟩:=gO hm;obtain⟨⟨hp1,hp2⟩,hL⟩:=hp;refine jW.args (args':=[aU nR 1 [A,B]]) ?_ (.cons (iE.p (lY.l fun e o he ho=>?_)) .nil)
 ·have:=aB1 (G:=G) [A,B] (by simp;omega) (by simp) h
  simpa using this
 ·obtain rfl:o=0:=by omega
  have he:e=0∨e=1:=by omega
  rcases he with rfl|rfl
  ·exact UR ha hp1
  ·exact UR hb hp2
theorem aIP(L:List Int):gG aB G 47 (UD L):=by
 intro args h p v h' hm hp;unfold UD at hm
 split at hm;rotate_left;· cases hm
 split at hm;rotate_left;· cases hm
 rename_i id n h n' f hid;obtain⟨rfl,rfl,rfl⟩:=gO hm;obtain⟨rfl,rfl,hf,hL⟩:=hp;refine VE hid hf (nY L) (fun w blk cap hH hb hc=>?_) (fun w p cap _=>?_)
 ·exact Try.slices_Compact_int blk 0 cap L w hH (by omega) hc
 ·exact Try.slices_Compact_int_empty p cap w
end
theorem aQT(d:Nat)(n:Int)(h:eW .i64 n):(aB).keyLits (d+1) 3 [.int .i64 n]=some [.int .i64 n]:=by
 unfold Program.keyLits;rw[Try.underlying3]
 have:(Lit.int .i64 n).wf=true:=by
  unfold eW at h
  have e1:aC.min = -9223372036854775808:=by decide
  have e2:aC.max=9223372036854775807:=by decide
  simp[Lit.wf,e1,e2];exact h
 simp[this]
theorem aQS(d:Nat)(s:ByteArray)(h:s.size≤1000000):(aB).keyLits (d+1) 9 [.string s]=some [.string s.data.toList]:=by
 unfold Program.keyLits;rw[Try.underlying9]
 have:s.size≤maxLen:=Nat.le_trans h (by decide)
 simp[this]
theorem c3:(aB).cellsOf 3=1:=by kernel_rfl
theorem c9:(aB).cellsOf 9=1:=by kernel_rfl
theorem c79:(aB).cellsOf 79=3:=by kernel_rfl
theorem c81:(aB).cellsOf 81=4:=by kernel_rfl
theorem k79:(aB).keyType 79=true:=by kernel_rfl
theorem k81:(aB).keyType 81=true:=by kernel_rfl
theorem szP:∃n,(aB).types.size+1=n+3:=⟨(aB).types.size+1-3,by
 have:Nat.ble 2 (aB).types.size=true:=by kernel_rfl
 have:=Nat.le_of_ble_eq_true this
 omega⟩
theorem kGr(d:Nat)(ru tx:ByteArray)(ve:Int)(h1:ru.size≤1000000)(h2:eW .i64 ve)(h3:tx.size≤1000000):(aB).keyLits (d+2) 79 [.string ru,.int .i64 ve,.string tx]=some [.string ru.data.toList,.int .i64 ve,.string tx.data.toList]:=by
 unfold Program.keyLits;rw[Try.underlying79];simp[c79,c3,c9,aQT d ve h2,aQS d ru h1,aQS d tx h3]
theorem yR(ru tx:ByteArray)(ve:Int)(h1:ru.size≤1000000)(h2:eW .i64 ve)(h3:tx.size≤1000000):bJ aB 79 (iR ru ve tx)=true:=by
 obtain⟨n,hn⟩:=szP;unfold bJ keyOf;rw[Try.underlying79,hn,k79];simp[iR,Value.formed,Try.underlying79,c79,Value.cells,kGr (n+1) ru tx ve h1 h2 h3]
theorem yQ(ru tx:ByteArray)(ve st:Int)(h1:ru.size≤1000000)(h2:eW .i64 ve)(h3:tx.size≤1000000)(h4:eW .i64 st):bJ aB 81 (lC ru ve tx st)=true:=by
 obtain⟨n,hn⟩:=szP;unfold bJ keyOf;rw[Try.underlying81,hn,k81]
 have e:(aB).keyLits (n+3) 81 [.string ru,.int .i64 ve,.string tx,.int .i64 st]=some [.string ru.data.toList,.int .i64 ve,.string tx.data.toList,.int .i64 st]:=by
  unfold Program.keyLits;rw[Try.underlying81];simp[c79,c3,c81,aQT (n+1) st h4,kGr n ru tx ve h1 h2 h3]
 simp[lC,Value.formed,Try.underlying81,c81,Value.cells,e]
theorem WN(st:Int)(h4:eW .i64 st):bJ aB 3 (.int .i64 st)=true:=by
 unfold bJ keyOf mapKey;rw[Try.underlying3]
 have:(Lit.int .i64 st).wf=true:=by
  unfold eW at h4
  have e1:aC.min = -9223372036854775808:=by decide
  have e2:aC.max=9223372036854775807:=by decide
  simp[Lit.wf,e1,e2];exact h4
 simp[this]
noncomputable def aL0(L:List Int):Ext:=mH [(44,LM L)]
def JW:Ext:=kH [(42,OP),(43,mOf)]
theorem tV1(D:Ld)(rest:List AO)(b:Nat)(ve:Int)(ru:ByteArray)(L:List (ByteArray×ByteArray)):dF JW (dL 6 (dC aB Try.f16)) (jR Try.f16 [0,1,2,3] [0] [b] [.c (.ptr 0 0),.c (.p (.s ru)),iV ve,aU aN 2 L] (mL D rest)) (gP [0] (fJ 51 [0,10,11]) (bK aB Try.f16))=Tr.rq (kI aN 2 (bS cS L.length (aE aN L)) L.length (aE aN L))
 (bT (!hP (Pg.mk 0 ru ve (bS cS L.length (aE aN L)) 0 0 (aH #[])))
 (.done .ret
 (bY 2 [(0,.c (.ptr 0 0)),(1,.c (.p (.z (bB none 0 0))))] [.pin 1 b,.cells 86 [.sl 2 7 0 D.M.length,.mp 3,.mp 4],.row 31 7 D.M.length fun e o=>bQ [4,0,1,2,3] (bQ [0,1,2,3] (aO aG D.M e o)),.mapb (bJ aB 81) D.gp,.mapl (bJ aB 79) 3 1 D.gs none]))
 (.rq (kI aN 2 (bS cS L.length (aE aN L)) L.length (aE aN L)∧(cH (bS cS L.length (aE aN L))).size≤1000000)
 (.done .normal
 (bY 51 [(0,.c (.ptr 0 0)),(10,.c (.p (.z (bB none 0 0)))),(11,.c (.ptr 1 0))] [.pin 2 b,.cells 79 [.p (.s ru),.p (.i .i64 ve),.p (.s (cH (bS cS L.length (aE aN L))))],.cells 86 [.sl 3 7 0 D.M.length,.mp 4,.mp 5],.row 31 7 D.M.length fun e o=>bQ [4,6,0,1,2,3] (bQ [0,1,2,3] (aO aG D.M e o)),.mapb (bJ aB 81) D.gp,.mapl (bJ aB 79) 3 1 D.gs none])))):=by kernel_rfl
theorem tV2(D:Ld)(b:Nat)(ve:Int)(ru tx:ByteArray)(S:List Int):dF JW (dL 1 (bL 6 (dC aB Try.f16))) (bY 51 [(0,.c (.ptr 0 0)),(10,.c (.sl 7 1 0 0)),(11,.c (.ptr 1 0))] [.pin 2 b,.cells 79 [.p (.s ru),.p (.i .i64 ve),.p (.s tx)],.cells 86 [.sl 3 7 0 D.M.length,.mp 4,.mp 5],.row 31 7 D.M.length (aO aG D.M),.mapb (bJ aB 81) D.gp,.mapl (bJ aB 79) 3 1 D.gs (some (iR ru ve tx,.sl 6 1 0 S.length)),.row 3 1 S.length (aO aT S),.row 3 1 0 (aO aT [])]) (gP [0] (fJ 51 [0,10,11,29,30,31]) (bK aB Try.f16))=Tr.rq
 ((bJ aB 79=bJ aB 79∧bJ aB 79 (iK #[cU ru,cT aC ve,cU tx])=true) ∧
 iK #[cU ru,cT aC ve,cU tx]=iR ru ve tx)
 (.done .normal
 (bY 51 [(0,.c (.ptr 0 0)),(10,.c (.sl 1 1 0 0)),(11,.c (.ptr 2 0)),(29,.c (.sl 3 1 0 S.length)),(30,.c (.p (.i .i64 (↑S.length:Int)))),(31,.c (.p (.i .i64 0)))] [.pin 4 b,.row 3 1 0 fun e o=>bQ [0,7,1,6,2,3,4,5] (aO aT [] e o),.cells 79 [.p (.s ru),.p (.i .i64 ve),.p (.s tx)],.row 3 1 S.length fun e o=>bQ [0,7,1,6,2,3,4,5] (aO aT S e o),.cells 86 [.sl 5 7 0 D.M.length,.mp 6,.mp 7],.row 31 7 D.M.length fun e o=>bQ [0,7,1,6,2,3,4,5] (aO aG D.M e o),.mapb (bJ aB 81) D.gp,.mapl (bJ aB 79) 3 1 D.gs (some (iR ru ve tx,C.sl 3 1 0 S.length))])):=by kernel_rfl
theorem tV3(D:Ld)(b:Nat)(ve:Int)(ru tx:ByteArray)(S out:List Int)(k i:Nat):dF JW (gQ (dC aB Try.f16) 7) (bY 51 [(0,.c (.ptr 0 0)),(10,.c (.sl 1 1 0 k)),(11,.c (.ptr 2 0)),(29,.c (.sl 3 1 0 S.length)),(30,iV (S.length:Nat)),(31,iV (i:Nat))] [.pin 4 b,.row 3 1 k (aO aT out),.cells 79 [.p (.s ru),.p (.i .i64 ve),.p (.s tx)],.row 3 1 S.length (aO aT S),.cells 86 [.sl 5 7 0 D.M.length,.mp 6,.mp 7],.row 31 7 D.M.length (aO aG D.M),.mapb (bJ aB 81) D.gp,.mapl (bJ aB 79) 3 1 D.gs (some (iR ru ve tx,.sl 3 1 0 S.length))]) (gP [0] (fJ 51 [0,10,11,29,30,31]) (bK aB Try.f16))=bT (decide ((↑i:Int)<(↑S.length:Int)))
 (.rq (0≤(↑i:Int)∧(↑i:Int)<(↑S.length:Int))
 (.rq ((↑i:Int).toNat+0<S.length)
 (.rq
 (bJ aB 81=bJ aB 81 ∧
 bJ aB 81 (iK #[cU ru,cT aC ve,cU tx,cT aC (S.getD ((↑i:Int).toNat+0) default)])=true)
 (bT ((D.gp (iK #[cU ru,cT aC ve,cU tx,cT aC (S.getD ((↑i:Int).toNat+0) default)])).getD false)
 (.rq (k=k)
 (.rq (1≤1)
 (.rq
 ((k+1)*8≤140737488355328 ∧
 k+1≤140737488355328∧∀(e o:Nat),e<1→o<1→iQ (mI [C.p (PV.i aC (S.getD ((↑i:Int).toNat+0) default))] 1 1 (e+0) o)=true)
 (.rq (eW aC ((↑i:Int)+1))
 (.done .normal
 (bY 51 [(0,.c (.ptr 0 0)),(10,.c (.sl 1 1 0 (k+1))),(11,.c (.ptr 2 0)),(29,.c (.sl 3 1 0 S.length)),(30,.c (.p (.i .i64 (↑S.length:Int)))),(31,.c (.p (.i .i64 ((↑i:Int)+1))))] [.pin 4 b,.row 3 1 (k+1) fun e o=>bQ [0,9,2,3,4,5,6,7] (fI k (aO aT out) (fun e o=>bC C.top [C.p (PV.i aC (S.getD ((↑i:Int).toNat+0) default))] ((e+0)*1+o)) e o),.cells 79 [.p (.s ru),.p (.i .i64 ve),.p (.s tx)],.row 3 1 S.length fun e o=>bQ [0,9,2,3,4,5,6,7] (aO aT S e o),.cells 86 [.sl 5 7 0 D.M.length,.mp 6,.mp 7],.row 31 7 D.M.length fun e o=>bQ [0,9,2,3,4,5,6,7] (aO aG D.M e o),.mapb (bJ aB 81) D.gp,.mapl (bJ aB 79) 3 1 D.gs (some (iR ru ve tx,C.sl 3 1 0 S.length))]))))))
 (.rq (eW aC ((↑i:Int)+1))
 (.done .normal
 (bY 51 [(0,.c (.ptr 0 0)),(10,.c (.sl 1 1 0 k)),(11,.c (.ptr 2 0)),(29,.c (.sl 3 1 0 S.length)),(30,.c (.p (.i .i64 (↑S.length:Int)))),(31,.c (.p (.i .i64 ((↑i:Int)+1))))] [.pin 4 b,.row 3 1 k fun e o=>bQ [0,1,2,3,4,5,6,7] (aO aT out e o),.cells 79 [.p (.s ru),.p (.i .i64 ve),.p (.s tx)],.row 3 1 S.length fun e o=>bQ [0,1,2,3,4,5,6,7] (aO aT S e o),.cells 86 [.sl 5 7 0 D.M.length,.mp 6,.mp 7],.row 31 7 D.M.length fun e o=>bQ [0,1,2,3,4,5,6,7] (aO aG D.M e o),.mapb (bJ aB 81) D.gp,.mapl (bJ aB 79) 3 1 D.gs (some (iR ru ve tx,C.sl 3 1 0 S.length))])))))))
 (.done (.exit 0)
 (bY 51 [(0,.c (.ptr 0 0)),(10,.c (.sl 1 1 0 k)),(11,.c (.ptr 2 0)),(29,.c (.sl 3 1 0 S.length)),(30,.c (.p (.i .i64 (↑S.length:Int)))),(31,.c (.p (.i .i64 (↑i:Int))))] [.pin 4 b,.row 3 1 k fun e o=>bQ [0,1,2,3,4,5,6,7] (aO aT out e o),.cells 79 [.p (.s ru),.p (.i .i64 ve),.p (.s tx)],.row 3 1 S.length fun e o=>bQ [0,1,2,3,4,5,6,7] (aO aT S e o),.cells 86 [.sl 5 7 0 D.M.length,.mp 6,.mp 7],.row 31 7 D.M.length fun e o=>bQ [0,1,2,3,4,5,6,7] (aO aG D.M e o),.mapb (bJ aB 81) D.gp,.mapl (bJ aB 79) 3 1 D.gs (some (iR ru ve tx,C.sl 3 1 0 S.length))])):=by kernel_rfl
theorem tV4(D:Ld)(b:Nat)(out:List Int)(k:Nat):dF (aL0 out) (dL 1 (bL 8 (dC aB Try.f16))) (bY 51 [(0,.c (.ptr 0 0)),(10,.c (.sl 1 1 0 k))] [.pin 2 b,.row 3 1 k (aO aT out),.cells 86 [.sl 3 7 0 D.M.length,.mp 4,.mp 5],.row 31 7 D.M.length (aO aG D.M),.mapb (bJ aB 81) D.gp,.mapl (bJ aB 79) 3 1 D.gs none]) (gP [0] (fJ 51 [0,10]) (bK aB Try.f16))=Tr.rq (k=out.length∧k=out.length∧aCK out (aO aT out)∧out.length≤1000000)
 (.done .normal
 (bY 51 [(0,.c (.ptr 0 0)),(10,.c (.sl 1 1 0 k))] [.pin 2 b,.row 3 1 out.length fun e o=>bQ [0,1,2,3,4,5] (aO aT (iM out) e o),.cells 86 [.sl 3 7 0 D.M.length,.mp 4,.mp 5],.row 31 7 D.M.length fun e o=>bQ [0,1,2,3,4,5] (aO aG D.M e o),.mapb (bJ aB 81) D.gp,.mapl (bJ aB 79) 3 1 D.gs none])):=by kernel_rfl
section
variable {G:Nat→Option Obj}
end
def sX(gp:Value→Option Bool)(ru:ByteArray)(ve:Int)(tx:ByteArray)(S:List Int):List Int:=S.filter fun t=>(gp (lC ru ve tx t)).getD false
noncomputable def nW(D:Ld)(ru:ByteArray)(ve:Int)(L:List (ByteArray×ByteArray))(S:List Int):V:=match hP (⟨0,ru,ve,L,0,0,⟨#[]⟩⟩:Pg) with
 |true=>aU aT 1 (iM (sX D.gp ru ve (cH L) S))
 |false=>.c (.p (.z (.slice none 0 0)))
def GS(D:Ld)(k:Value)(S:List Int):Prop:=(D.gs k).1=S.length∧∀e o,e<S.length→o<1→(D.gs k).2 e o=aE aT S e o
section
variable {G:Nat→Option Obj}
theorem pI:bG aB G JW:=eC (by simp;exact⟨TC,aIG⟩)
theorem PP(L:List Int):bG aB G (aL0 L):=eM (by simp;exact WL L)
theorem NY(gp:Value→Option Bool)(ru:ByteArray)(ve:Int)(tx:ByteArray)(S:List Int)(x:Int):sX gp ru ve tx (S++[x])=sX gp ru ve tx S++(match (gp (lC ru ve tx x)).getD false with
 |true=>[x]
 |false=>[]):=by
 unfold sX;rw[List.filter_append];congr 1
theorem IH(g:Value→Nat×(Nat→Nat→PV))(k:Value)(n:Nat)(hn:(g k).1=n):zY g k n (g k).2=g:=by
 subst hn;unfold zY;funext x
 by_cases h:x=k
 ·subst h;simp
 ·simp[h]
theorem aEW(x:Int):∀e o:Nat,e<1→o<1→iQ (bC C.top [C.p (.i .i64 x)] ((e+0)*1+o))=true:=by
 intro e o he ho
 obtain rfl:e=0:=by omega
 obtain rfl:o=0:=by omega
 rfl
theorem zA(x:Int):∀o:Nat,o<1→(fun e o:Nat=>bC C.top [C.p (.i .i64 x)] ((e+0)*1+o)) 0 o=.p (aT x o):=by
 intro o ho
 obtain rfl:o=0:=by omega
 rfl
set_option maxRecDepth 100000 in
set_option maxHeartbeats 2000000 in
theorem RZ(D:Ld)(ru:ByteArray)(ve:Int)(L:List (ByteArray×ByteArray))(S:List Int)(hS:GS D (iR ru ve (cH L)) S)(hT:hP (⟨0,ru,ve,L,0,0,⟨#[]⟩⟩:Pg)=true→(cH L).size≤1000000∧bJ aB 79 (iR ru ve (cH L))=true∧(∀t∈S,bJ aB 81 (lC ru ve (cH L) t)=true)∧S.length≤1000000)(rest:List AO)(b:Nat)(Q:X→St→Prop):eP aB G (Zm [0] (bK aB Try.f16) fun s=>cW G s ⟨[.c (.ptr 0 0)]++[nW D ru ve L S],pA D b⟩) (dC aB Try.f16) (jR Try.f16 [0,1,2,3] [0] [b] [.c (.ptr 0 0),.c (.p (.s ru)),iV ve,aU aN 2 L] (mL D rest)) Q:=by
 refine eP.evG pI 6 (tV1 D rest b ve ru L) ?_;simp only[cD,bA,aP,kA,cI,gN];unfold nW;refine⟨dP _ _ _,fun h1=>⟨?_⟩,fun h1=>?_⟩
 ·have h1:hP (⟨0,ru,ve,L,0,0,⟨#[]⟩⟩:Pg)=false:=by simpa using h1
  rw[h1];exact aI (by kernel_rfl)
 have h1:hP (⟨0,ru,ve,L,0,0,⟨#[]⟩⟩:Pg)=true:=by simpa using h1
 obtain⟨t1,t2,t3,t4⟩:=hT h1;rw[h1];refine⟨⟨dP _ _ _,t1⟩,⟨?_⟩⟩;obtain⟨s1,s2⟩:=hS
 obtain⟨tx,htx⟩:∃tx,tx=cH L:=⟨_,rfl⟩
 rw[←htx]at s1 s2 t1 t2 t3 ⊢
 have w1:cW G (bY 51 [(0,.c (.ptr 0 0)),(10,.c (.p (.z (.slice none 0 0)))),(11,.c (.ptr 1 0))] [.pin 2 b,.cells 79 [.p (.s ru),.p (.i .i64 ve),.p (.s tx)],.cells 86 [.sl 3 7 0 D.M.length,.mp 4,.mp 5],.row 31 7 D.M.length (aO aG D.M),.mapb (bJ aB 81) D.gp,.mapl (bJ aB 79) 3 1 D.gs none]) ((fun ru ve tx S=>bY 51 [(0,.c (.ptr 0 0)),(10,.c (.sl 7 1 0 0)),(11,.c (.ptr 1 0))] [.pin 2 b,.cells 79 [.p (.s ru),.p (.i .i64 ve),.p (.s tx)],.cells 86 [.sl 3 7 0 D.M.length,.mp 4,.mp 5],.row 31 7 D.M.length (aO aG D.M),.mapb (bJ aB 81) D.gp,.mapl (bJ aB 79) 3 1 D.gs (some (iR ru ve tx,.sl 6 1 0 S.length)),.row 3 1 S.length (aO aT S),.row 3 1 0 (aO aT [])]) ru ve tx S):=by
  refine(wY (id:=5) (iR ru ve tx) (by rfl)).trans ?_
  refine(mM 3 1 (aO aT []) 10 (by kernel_rfl)).trans ?_
  rw[s1]
  refine(aI (st':=bY 51 [(0,.c (.ptr 0 0)),(10,.c (.sl 7 1 0 0)),(11,.c (.ptr 1 0))] [.pin 2 b,.cells 79 [.p (.s ru),.p (.i .i64 ve),.p (.s tx)],.cells 86 [.sl 3 7 0 D.M.length,.mp 4,.mp 5],.row 31 7 D.M.length (aO aG D.M),.mapb (bJ aB 81) D.gp,.mapl (bJ aB 79) 3 1 D.gs (some (iR ru ve tx,.sl 6 1 0 S.length)),.row 3 1 S.length (fun e o=>.p ((D.gs (iR ru ve tx)).2 e o)),.row 3 1 0 (aO aT [])]) (by kernel_rfl)).trans ?_
  refine jF ⟨rfl,rfl,rfl,⟨rfl,rfl,rfl,fun _ _ _ _=>rfl⟩,rfl,rfl,⟨rfl,rfl,rfl,fun e o he ho=>?_⟩,⟨rfl,rfl,rfl,fun _ _ _ _=>rfl⟩,trivial⟩;exact congrArg C.p (s2 e o he ho)
 refine eP.pre ((aI (by kernel_rfl)).trans w1) ?_
 refine eP.evG pI 1 (tV2 D b ve ru tx S) ?_;simp only[bA,aP,cI];refine⟨⟨⟨trivial,t2⟩,rfl⟩,⟨?_⟩⟩
 refine eP.loop' (l:=bL 1 (bL 6 (dC aB Try.f16))) (b:=inr (inr (bC .skip (dC aB Try.f16) 7))) (r:=bL 8 (dC aB Try.f16)) (id:=0) (by kernel_rfl) (σ:=Nat×List Int)
   (fun(i,out)=>(fun k=>bY 51 [(0,.c (.ptr 0 0)),(10,.c (.sl 1 1 0 k)),(11,.c (.ptr 2 0)),(29,.c (.sl 3 1 0 S.length)),(30,iV (S.length:Nat)),(31,iV (i:Nat))] [.pin 4 b,.row 3 1 k (aO aT out),.cells 79 [.p (.s ru),.p (.i .i64 ve),.p (.s tx)],.row 3 1 S.length (aO aT S),.cells 86 [.sl 5 7 0 D.M.length,.mp 6,.mp 7],.row 31 7 D.M.length (aO aG D.M),.mapb (bJ aB 81) D.gp,.mapl (bJ aB 79) 3 1 D.gs (some (iR ru ve tx,.sl 3 1 0 S.length))]) out.length) (fun(i,out)=>i≤S.length∧out.length≤i∧out=sX D.gp ru ve tx (S.take i)) (fun(i,_)=>S.length-i) (0,[]) ⟨by omega,by simp,by simp[sX]⟩ (aI (by kernel_rfl)) ?_
 rintro⟨i,out⟩ ⟨i1,i2,i3⟩ Q1 q1n q1e -;refine eP.evH (keep:=fJ 51 [0,10,11,29,30,31]) pI (tV3 D b ve ru tx S out out.length i) ?_;simp only[cD,bA,aP,cI,mU,decide_eq_true_eq,decide_eq_false_iff_not,eW,show ∀x:Nat,x+0=x from fun _=>rfl,dW]
 have hnext:i<S.length→sX D.gp ru ve tx (S.take (i+1))=out++(match (D.gp (lC ru ve tx (S.getD i default))).getD false with
  |true=>[S.getD i default]
  |false=>[]):=fun hlt=>by
  rw[i3,←NY];congr 1;rw[List.take_succ_eq_append_getElem hlt,aD,aK hlt];rfl
 refine⟨fun hlt=>?_,fun hge=>⟨?_⟩⟩
 ·have hlt:i<S.length:=by omega
  have hn:=hnext hlt
  have hmem:bJ aB 81 (lC ru ve tx (S.getD i default))=true:=t3 _ (by
   rw[aD,aK hlt]
   exact jQ _)
  refine⟨⟨by omega,by omega⟩,hlt,⟨trivial,hmem⟩,fun hg=>⟨trivial,aW _,⟨by omega,by omega,aEW _⟩,⟨by omega,by omega⟩,⟨?_⟩⟩,fun hg=>⟨⟨by omega,by omega⟩,⟨?_⟩⟩⟩
  ·have hg:(D.gp (lC ru ve tx (S.getD i default))).getD false=true:=hg
   rw[hg]at hn;refine q1n (i+1,out++[S.getD i default]) _ ⟨by omega,by simp;omega,hn.symm⟩ (by simp only;omega) ?_
   show cW G _ ((fun k i out=>bY 51 [(0,.c (.ptr 0 0)),(10,.c (.sl 1 1 0 k)),(11,.c (.ptr 2 0)),(29,.c (.sl 3 1 0 S.length)),(30,iV (S.length:Nat)),(31,iV (i:Nat))] [.pin 4 b,.row 3 1 k (aO aT out),.cells 79 [.p (.s ru),.p (.i .i64 ve),.p (.s tx)],.row 3 1 S.length (aO aT S),.cells 86 [.sl 5 7 0 D.M.length,.mp 6,.mp 7],.row 31 7 D.M.length (aO aG D.M),.mapb (bJ aB 81) D.gp,.mapl (bJ aB 79) 3 1 D.gs (some (iR ru ve tx,.sl 3 1 0 S.length))]) (out++[S.getD i default]).length (i+1) (out++[S.getD i default]))
   rw[show (out++[S.getD i default]).length=out.length+1 by simp];exact jF ⟨rfl,⟨rfl,rfl,rfl,fun e o he ho=>pP (ρ:=[0,9,2,3,4,5,6,7]) rfl (zA _) he ho⟩,rfl,⟨rfl,rfl,rfl,fun _ _ _ _=>rfl⟩,rfl,⟨rfl,rfl,rfl,fun _ _ _ _=>rfl⟩,rfl,rfl,trivial⟩
  ·have hg:(D.gp (lC ru ve tx (S.getD i default))).getD false=false:=hg
   rw[hg]at hn
   exact q1n (i+1,out) _ ⟨by omega,by omega,by rw[hn];simp⟩ (by simp only;omega) (aI (by kernel_rfl))
 ·obtain rfl:i=S.length:=by omega
  rw[fF]at i3;rw[←i3]at q1e;refine q1e _ (eP.pre (st2:=(fun k=>bY 51 [(0,.c (.ptr 0 0)),(10,.c (.sl 1 1 0 k))] [.pin 2 b,.row 3 1 k (aO aT out),.cells 86 [.sl 3 7 0 D.M.length,.mp 4,.mp 5],.row 31 7 D.M.length (aO aG D.M),.mapb (bJ aB 81) D.gp,.mapl (bJ aB 79) 3 1 D.gs none]) out.length) ?_ ?_)
  ·refine(aI (st':=(fun k i=>bY 51 [(0,.c (.ptr 0 0)),(10,.c (.sl 1 1 0 k)),(11,.c (.ptr 2 0)),(29,.c (.sl 3 1 0 S.length)),(30,iV (S.length:Nat)),(31,iV (i:Nat))] [.pin 4 b,.row 3 1 k (aO aT out),.cells 79 [.p (.s ru),.p (.i .i64 ve),.p (.s tx)],.row 3 1 S.length (aO aT S),.cells 86 [.sl 5 7 0 D.M.length,.mp 6,.mp 7],.row 31 7 D.M.length (aO aG D.M),.mapb (bJ aB 81) D.gp,.mapl (bJ aB 79) 3 1 D.gs (some (iR ru ve tx,.sl 3 1 0 S.length))]) out.length S.length) (by kernel_rfl)).trans ?_
   refine(uM (id:=7) (m:=3) (k0:=iR ru ve tx) (n:=S.length) (h:=aO aT S) (D.gs (iR ru ve tx)).2 (by rfl) (by rfl) (fun e o he ho=>(congrArg C.p (s2 e o he ho)).symm)).trans ?_;rw[IH _ _ _ s1]
   exact(gB (fJ 51 [0,10]) _).trans (aI (by kernel_rfl))
  ·refine eP.evG (PP out) 1 (tV4 D b out out.length) ?_
   simp only[bA,aP,cI];refine⟨⟨trivial,trivial,fun _ _ _ _=>rfl,by omega⟩,⟨?_⟩⟩;rw[←kP out]
   refine eP.pre ((pD (j:=10) (id:=1) (ty:=3) (sz:=1) (n:=(iM out).length) (off:=0) (len:=(iM out).length) (f:=fun e o=>bQ [0,1,2,3,4,5] (aO aT (iM out) e o)) (by kernel_rfl) (by kernel_rfl) (by omega) (fun _ _ _ _=>rfl)).trans ((gB (fJ 51 [0,10]) _).trans (aI (st':=(fun out=>bY 51 [(0,.c (.ptr 0 0)),(10,aU aT 1 out)] [.pin 1 b,.cells 86 [.sl 2 7 0 D.M.length,.mp 3,.mp 4],.row 31 7 D.M.length (aO aG D.M),.mapb (bJ aB 81) D.gp,.mapl (bJ aB 79) 3 1 D.gs none]) (iM out)) (by kernel_rfl)))) ?_
   refine eP.evH (keep:=[]) aY (tree:=.done .ret (bY 2 [(0,.c (.ptr 0 0)),(1,aU aT 1 (iM out))] (pA D b))) (by kernel_rfl) ?_
   exact aI (by kernel_rfl)
set_option maxRecDepth 100000 in
theorem NC(D:Ld)(ru:ByteArray)(ve:Int)(L:List (ByteArray×ByteArray))(S:List Int)(hS:GS D (iR ru ve (cH L)) S)(hT:hP (⟨0,ru,ve,L,0,0,⟨#[]⟩⟩:Pg)=true→(cH L).size≤1000000∧bJ aB 79 (iR ru ve (cH L))=true∧(∀t∈S,bJ aB 81 (lC ru ve (cH L) t)=true)∧S.length≤1000000)(rest:List AO):jW aB G 16 [.c (.ptr 0 0),.c (.p (.s ru)),iV ve,aU aN 2 L] (mL D rest) fun x h'=>x=nW D ru ve L S∧h'=iT [0,1,2,3] [0] [1] (mL D rest) (pA D 0):=by
 refine fun β R w vs ha hh=>(aEO Try.func16 (by kernel_rfl) (args:=[.c (.p (.s ru)),iV ve,aU aN 2 L]) (vs:=[nW D ru ve L S]) (D':=D) (fun b=>RZ D ru ve L S hS hT rest b _) β R w vs ha hh).mono ?_
 rintro e w' ⟨u,β',R',x,h',rfl,⟨hx,hh'⟩,hr⟩;refine⟨u,β',R',x,h',rfl,⟨hx.trans ?_,hh'⟩,hr⟩;unfold nW;cases hP (⟨0,ru,ve,L,0,0,⟨#[]⟩⟩:Pg)<;>rfl
end
noncomputable def aKX:Ext:=kH [(45,BU)]
theorem tM1(D:Ld)(rest:List AO)(b:Nat)(ve se:Int)(ru:ByteArray)(L:List (ByteArray×ByteArray))(T:List Int):dF JW (dL 6 (dC aB Try.f17)) (jR Try.f17 [0,1,2,3] [0] [b] [.c (.ptr 0 0),.c (.p (.s ru)),iV ve,aU aN 2 L,aU aT 1 T,iV se] (mL D rest)) (gP [0] (fJ 95 [0,4,13,14,34,35,36]) (bK aB Try.f17))=Tr.rq (kI aN 2 (bS cS L.length (aE aN L)) L.length (aE aN L))
 (bT (!hP (Pg.mk 0 ru ve (bS cS L.length (aE aN L)) 0 se (aH #[])))
 (.done .ret
 (bY 2 [(0,.c (.ptr 0 0)),(1,.c (.p (.z (bB none 0 0))))] [.pin 1 b,.cells 86 [.sl 2 7 0 D.M.length,.mp 3,.mp 4],.row 31 7 D.M.length fun e o=>bQ [4,0,1,2,3] (bQ [0,1,2,3] (aO aG D.M e o)),.mapb (bJ aB 81) D.gp,.mapl (bJ aB 79) 3 1 D.gs none]))
 (.done .normal
 (bY 95 [(0,.c (.ptr 0 0)),(4,.c (.p (.l 1 T.length (aE aT T)))),(13,.c (.ptr 1 0)),(14,.c (.mp 2)),(34,.c (.p (.l 1 T.length (aE aT T)))),(35,.c (.p (.i .i64 (↑T.length:Int)))),(36,.c (.p (.i .i64 0)))] [.pin 3 b,.cells 31 [.p (.i .i64 0),.p (.s ru),.p (.i .i64 ve),.p (.l 2 L.length (aE aN L)),.p (.i .i64 0),.p (.i .i64 se),.p (.s (aH #[]))],.mapb (bJ aB 3) fun x=>none,.cells 86 [.sl 4 7 0 D.M.length,.mp 5,.mp 6],.row 31 7 D.M.length fun e o=>bQ [4,5,6,0,1,2,3] (bQ [0,1,2,3] (aO aG D.M e o)),.mapb (bJ aB 81) D.gp,.mapl (bJ aB 79) 3 1 D.gs none]))):=by kernel_rfl
theorem tM2(D:Ld)(b i:Nat)(ve se:Int)(ru:ByteArray)(L:List (ByteArray×ByteArray))(T:List Int)(nw:Value→Option Bool):dF aKX (gQ (dC aB Try.f17) 6) (bY 95 [(0,.c (.ptr 0 0)),(4,aU aT 1 T),(13,.c (.ptr 1 0)),(14,.c (.mp 2)),(34,aU aT 1 T),(35,iV (T.length:Nat)),(36,iV (i:Nat))] [.pin 3 b,.cells 31 [.p (.i .i64 0),.p (.s ru),.p (.i .i64 ve),.p (bO aN 2 L),.p (.i .i64 0),.p (.i .i64 se),.p (.s ⟨#[]⟩)],.mapb (bJ aB 3) nw,.cells 86 [.sl 4 7 0 D.M.length,.mp 5,.mp 6],.row 31 7 D.M.length (aO aG D.M),.mapb (bJ aB 81) D.gp,.mapl (bJ aB 79) 3 1 D.gs none]) (gP [0] (fJ 95 [0,4,13,14,34,35,36]) (bK aB Try.f17))=bT (decide ((↑i:Int)<(↑T.length:Int)))
 (.rq (0≤(↑i:Int)∧(↑i:Int)<(↑T.length:Int))
 (.rq True
 (bT (!gU (T.getD (↑i:Int).toNat default))
 (.done .ret
 (bY 2 [(0,.c (.ptr 0 0)),(1,.c (.p (.z (bB none 0 0))))] [.pin 1 b,.cells 86 [.sl 2 7 0 D.M.length,.mp 3,.mp 4],.row 31 7 D.M.length fun e o=>bQ [0,3,4,5,6] (aO aG D.M e o),.mapb (bJ aB 81) D.gp,.mapl (bJ aB 79) 3 1 D.gs none]))
 (.rq (bJ aB 3=bJ aB 3∧bJ aB 3 (cT aC (T.getD (↑i:Int).toNat default))=true)
 (.rq (eW aC ((↑i:Int)+1))
 (.done .normal
 (bY 95 [(0,.c (.ptr 0 0)),(4,.c (.p (.l 1 T.length (aE aT T)))),(13,.c (.ptr 1 0)),(14,.c (.mp 2)),(34,.c (.p (.l 1 T.length (aE aT T)))),(35,.c (.p (.i .i64 (↑T.length:Int)))),(36,.c (.p (.i .i64 ((↑i:Int)+1))))] [.pin 3 b,.cells 31 [.p (.i .i64 0),.p (.s ru),.p (.i .i64 ve),.p (.l 2 L.length (aE aN L)),.p (.i .i64 0),.p (.i .i64 se),.p (.s (aH #[]))],.mapb (bJ aB 3) (uS nw (cT aC (T.getD (↑i:Int).toNat default)) true),.cells 86 [.sl 4 7 0 D.M.length,.mp 5,.mp 6],.row 31 7 D.M.length fun e o=>bQ [0,1,2,3,4,5,6] (aO aG D.M e o),.mapb (bJ aB 81) D.gp,.mapl (bJ aB 79) 3 1 D.gs none])))))))
 (.done (.exit 0)
 (bY 95 [(0,.c (.ptr 0 0)),(4,.c (.p (.l 1 T.length (aE aT T)))),(13,.c (.ptr 1 0)),(14,.c (.mp 2)),(34,.c (.p (.l 1 T.length (aE aT T)))),(35,.c (.p (.i .i64 (↑T.length:Int)))),(36,.c (.p (.i .i64 (↑i:Int))))] [.pin 3 b,.cells 31 [.p (.i .i64 0),.p (.s ru),.p (.i .i64 ve),.p (.l 2 L.length (aE aN L)),.p (.i .i64 0),.p (.i .i64 se),.p (.s (aH #[]))],.mapb (bJ aB 3) nw,.cells 86 [.sl 4 7 0 D.M.length,.mp 5,.mp 6],.row 31 7 D.M.length fun e o=>bQ [0,1,2,3,4,5,6] (aO aG D.M e o),.mapb (bJ aB 81) D.gp,.mapl (bJ aB 79) 3 1 D.gs none])):=by kernel_rfl
theorem tM3(D:Ld)(b:Nat)(ve se:Int)(ru:ByteArray)(L:List (ByteArray×ByteArray))(T:List Int)(nw:Value→Option Bool):dF JW (dL 1 (bL 7 (dC aB Try.f17))) (bY 95 [(0,.c (.ptr 0 0)),(4,aU aT 1 T),(13,.c (.ptr 1 0)),(14,.c (.mp 2))] [.pin 3 b,.cells 31 [.p (.i .i64 0),.p (.s ru),.p (.i .i64 ve),.p (bO aN 2 L),.p (.i .i64 0),.p (.i .i64 se),.p (.s ⟨#[]⟩)],.mapb (bJ aB 3) nw,.cells 86 [.sl 4 7 0 D.M.length,.mp 5,.mp 6],.row 31 7 D.M.length (aO aG D.M),.mapb (bJ aB 81) D.gp,.mapl (bJ aB 79) 3 1 D.gs none]) (gP [0] (fJ 95 [0,4,13,14,17]) (bK aB Try.f17))=Tr.rq (kI aN 2 (bS cS L.length (aE aN L)) L.length (aE aN L)∧(cH (bS cS L.length (aE aN L))).size≤1000000)
 (.done .normal
 (bY 95 [(0,.c (.ptr 0 0)),(4,.c (.p (.l 1 T.length (aE aT T)))),(13,.c (.ptr 1 0)),(14,.c (.mp 2)),(17,.c (.ptr 3 0))] [.pin 4 b,.cells 31 [.p (.i .i64 0),.p (.s ru),.p (.i .i64 ve),.p (.l 2 L.length (aE aN L)),.p (.i .i64 0),.p (.i .i64 se),.p (.s (aH #[]))],.mapb (bJ aB 3) nw,.cells 79 [.p (.s ru),.p (.i .i64 ve),.p (.s (cH (bS cS L.length (aE aN L))))],.cells 86 [.sl 5 7 0 D.M.length,.mp 6,.mp 7],.row 31 7 D.M.length fun e o=>bQ [0,1,2,7,3,4,5,6] (aO aG D.M e o),.mapb (bJ aB 81) D.gp,.mapl (bJ aB 79) 3 1 D.gs none])):=by kernel_rfl
noncomputable def aLS(A:List Int):Ext:=aJY 46 LT (mH [(44,LM A),(47,UD (iM A))])
noncomputable def aLV(D:Ld):Ext:=mH [(48,aJ4 D),(49,uC aE5)]
theorem tM4(D:Ld)(b:Nat)(ve se:Int)(ru tx:ByteArray)(L:List (ByteArray×ByteArray))(S T:List Int)(nw:Value→Option Bool):dF (aLS (S++T)) (dL 4 (bL 1 (bL 7 (dC aB Try.f17)))) (bY 95 [(0,.c (.ptr 0 0)),(4,aU aT 1 T),(13,.c (.ptr 1 0)),(14,.c (.mp 2)),(17,.c (.ptr 3 0))] [.pin 4 b,.cells 31 [.p (.i .i64 0),.p (.s ru),.p (.i .i64 ve),.p (bO aN 2 L),.p (.i .i64 0),.p (.i .i64 se),.p (.s ⟨#[]⟩)],.mapb (bJ aB 3) nw,.cells 79 [.p (.s ru),.p (.i .i64 ve),.p (.s tx)],.cells 86 [.sl 5 7 0 D.M.length,.mp 6,.mp 7],.row 31 7 D.M.length (aO aG D.M),.mapb (bJ aB 81) D.gp,.mapl (bJ aB 79) 3 1 D.gs (some (iR ru ve tx,.sl 8 1 0 S.length)),.row 3 1 S.length (aO aT S)]) (gP [0] (fJ 95 [0,13,14,17,19,61,62,63]) (bK aB Try.f17))=Tr.rq
 ((bJ aB 79=bJ aB 79∧bJ aB 79 (iK #[cU ru,cT aC ve,cU tx])=true) ∧
 iK #[cU ru,cT aC ve,cU tx]=iR ru ve tx)
 (.rq (0+S.length≤S.length∧∀(e o:Nat),e<S.length→o<1→BZ (aO aT S e o)=true)
 (.rq
 ((((kI aT 1 (bS gH S.length fun e o=>mZ (aO aT S (e+0) o)) S.length fun e o=>mZ (aO aT S (e+0) o)) ∧
 kI aT 1 (bS gH T.length (aE aT T)) T.length (aE aT T)) ∧
 (bS gH S.length fun e o=>mZ (aO aT S (e+0) o)).length+(bS gH T.length (aE aT T)).length≤1000000) ∧
 ((bS gH S.length fun e o=>mZ (aO aT S (e+0) o))++bS gH T.length (aE aT T)).length =
 ((bS gH S.length fun e o=>mZ (aO aT S (e+0) o))++bS gH T.length (aE aT T)).length ∧
 ∀(e o:Nat),
 e<((bS gH S.length fun e o=>mZ (aO aT S (e+0) o))++bS gH T.length (aE aT T)).length →
 o<1→scC (C.p (aE aT ((bS gH S.length fun e o=>mZ (aO aT S (e+0) o))++bS gH T.length (aE aT T)) e o))=true)
 (.rq
 (((bS gH S.length fun e o=>mZ (aO aT S (e+0) o))++bS gH T.length (aE aT T)).length=(S++T).length ∧
 ((bS gH S.length fun e o=>mZ (aO aT S (e+0) o))++bS gH T.length (aE aT T)).length=(S++T).length ∧
 (aCK (S++T) fun e o=>C.p (aE aT ((bS gH S.length fun e o=>mZ (aO aT S (e+0) o))++bS gH T.length (aE aT T)) e o))∧(S++T).length≤1000000)
 (.rq
 (((bS gH S.length fun e o=>mZ (aO aT S (e+0) o))++bS gH T.length (aE aT T)).length=(iM (S++T)).length ∧
 (S++T).length=(iM (S++T)).length∧aCK (iM (S++T)) (aO aT (iM (S++T)))∧(iM (S++T)).length≤1000000)
 (.done .normal
 (bY 95 [(0,.c (.ptr 0 0)),(13,.c (.ptr 1 0)),(14,.c (.mp 2)),(17,.c (.ptr 3 0)),(19,.c (.p (.z (bB none 0 0)))),(61,.c (.sl 4 1 0 (kU (iM (S++T))).length)),(62,.c (.p (.i .i64 (↑(kU (iM (S++T))).length:Int)))),(63,.c (.p (.i .i64 0)))] [.pin 5 b,.cells 31 [.p (.i .i64 0),.p (.s ru),.p (.i .i64 ve),.p (.l 2 L.length (aE aN L)),.p (.i .i64 0),.p (.i .i64 se),.p (.s (aH #[]))],.mapb (bJ aB 3) nw,.cells 79 [.p (.s ru),.p (.i .i64 ve),.p (.s tx)],.row 3 1 (kU (iM (S++T))).length fun e o=>bQ [0,1,2,3,10,4,5,6,7,8] (aO aT (kU (iM (S++T))) e o),.cells 86 [.sl 6 7 0 D.M.length,.mp 7,.mp 8],.row 31 7 D.M.length fun e o=>bQ [0,1,2,3,10,4,5,6,7,8] (aO aG D.M e o),.mapb (bJ aB 81) D.gp,.mapl (bJ aB 79) 3 1 D.gs (some (iR ru ve tx,C.sl 9 1 0 S.length)),.row 3 1 S.length fun e o=>bQ [0,1,2,3,10,4,5,6,7,8] (aO aT S e o)])))))):=by kernel_rfl
theorem tM5(D:Ld)(b i k:Nat)(kd ve st se:Int)(ru tx:ByteArray)(L:List (ByteArray×ByteArray))(A:List Int)(out:List Pg)(nw:Value→Option Bool):dF (aLV D) (gQ (dC aB Try.f17) 12) (bY 95 [(0,.c (.ptr 4 0)),(13,.c (.ptr 5 0)),(14,.c (.mp 6)),(17,.c (.ptr 7 0)),(19,.c (.sl 8 7 0 k)),(61,aU aT 1 A),(62,iV (A.length:Nat)),(63,iV (i:Nat))] (mL D [.pin 0 b,.cells 31 [.p (.i .i64 kd),.p (.s ru),.p (.i .i64 ve),.p (bO aN 2 L),.p (.i .i64 st),.p (.i .i64 se),.p (.s ⟨#[]⟩)],.mapb (bJ aB 3) nw,.cells 79 [.p (.s ru),.p (.i .i64 ve),.p (.s tx)],.row 31 7 k (aO aG out)])) (gP [0] (fJ 95 [0,13,14,17,19,61,62,63]) (bK aB Try.f17))=bT (decide ((↑i:Int)<(↑A.length:Int)))
 (.rq (0≤(↑i:Int)∧(↑i:Int)<(↑A.length:Int))
 (.rq
 (bJ aB 81=bJ aB 81∧bJ aB 81 (iK #[cU ru,cT aC ve,cU tx,cT aC (A.getD (↑i:Int).toNat default)])=true)
 (.rq (bJ aB 3=bJ aB 3∧bJ aB 3 (cT aC (A.getD (↑i:Int).toNat default))=true)
 (bT
 ((D.gp (iK #[cU ru,cT aC ve,cU tx,cT aC (A.getD (↑i:Int).toNat default)])).getD false ==
 (nw (cT aC (A.getD (↑i:Int).toNat default))).getD false)
 (.rq (eW aC ((↑i:Int)+1))
 (.done .normal
 (bY 95 [(0,.c (.ptr 0 0)),(13,.c (.ptr 1 0)),(14,.c (.mp 2)),(17,.c (.ptr 3 0)),(19,.c (.sl 4 7 0 k)),(61,.c (.p (.l 1 A.length (aE aT A)))),(62,.c (.p (.i .i64 (↑A.length:Int)))),(63,.c (.p (.i .i64 ((↑i:Int)+1))))] [.pin 5 b,.cells 31 [.p (.i .i64 kd),.p (.s ru),.p (.i .i64 ve),.p (.l 2 L.length (aE aN L)),.p (.i .i64 st),.p (.i .i64 se),.p (.s (aH #[]))],.mapb (bJ aB 3) nw,.cells 79 [.p (.s ru),.p (.i .i64 ve),.p (.s tx)],.row 31 7 k fun e o=>bQ [4,5,6,7,8,0,1,2,3] (aO aG out e o),.cells 86 [.sl 6 7 0 D.M.length,.mp 7,.mp 8],.row 31 7 D.M.length fun e o=>bQ [4,5,6,7,8,0,1,2,3] (aO aG D.M e o),.mapb (bJ aB 81) D.gp,.mapl (bJ aB 79) 3 1 D.gs none])))
 (bT ((D.gp (iK #[cU ru,cT aC ve,cU tx,cT aC (A.getD (↑i:Int).toNat default)])).getD false)
 (.rq
 (kI aN 2 (bS cS L.length (aE aN L)) L.length (aE aN L) ∧
 (D.M.length=D.M.length ∧
 D.M.length=D.M.length∧aO aG D.M=aO aG D.M∧bJ aB 81=bJ aB 81∧D.gp=D.gp∧bJ aB 79=bJ aB 79∧D.gs=D.gs) ∧
 tY D (Pg.mk 1 ru ve (bS cS L.length (aE aN L)) (A.getD (↑i:Int).toNat default) se (aH #[])))
 (.rq (kI aN 2 (bS cS L.length (aE aN L)) L.length (aE aN L)∧(bS cS L.length (aE aN L)).length≤1000000)
 (.rq (k=k)
 (.rq (1≤1)
 (.rq
 ((k+1)*88≤140737488355328 ∧
 k+1≤140737488355328 ∧
 ∀(e o:Nat),
 e<1 →
 o<7 →
 iQ
 (mI
 [C.p (PV.i aC 1),C.p (PV.s ru),C.p (PV.i aC ve),
 C.p (PV.l 2 (bS cS L.length (aE aN L)).length (aE aN (bS cS L.length (aE aN L)))),C.p (PV.i aC (A.getD (↑i:Int).toNat default)),
 C.p (PV.i aC se),C.p (PV.s (aH #[]))]
 7 1 (e+0) o) =
 true)
 (.rq (eW aC ((↑i:Int)+1))
 (.done .normal
 (bY 95 [(0,.c (.ptr 0 0)),(13,.c (.ptr 1 0)),(14,.c (.mp 2)),(17,.c (.ptr 3 0)),(19,.c (.sl 4 7 0 (k+1))),(61,.c (.p (.l 1 A.length (aE aT A)))),(62,.c (.p (.i .i64 (↑A.length:Int)))),(63,.c (.p (.i .i64 ((↑i:Int)+1))))] [.pin 5 b,.cells 31 [.p (.i .i64 1),.p (.s ru),.p (.i .i64 ve),.p (.l 2 L.length (aE aN L)),.p (.i .i64 (A.getD (↑i:Int).toNat default)),.p (.i .i64 se),.p (.s (aH #[]))],.mapb (bJ aB 3) nw,.cells 79 [.p (.s ru),.p (.i .i64 ve),.p (.s tx)],.row 31 7 (k+1) fun e o=>bQ [4,5,6,7,15,0,11,12,13] (fI k (aO aG out) (fun e o=>bC C.top [C.p (PV.i aC 1),C.p (PV.s ru),C.p (PV.i aC ve),C.p (PV.l 2 (bS cS L.length (aE aN L)).length (aE aN (bS cS L.length (aE aN L)))),C.p (PV.i aC (A.getD (↑i:Int).toNat default)),C.p (PV.i aC se),C.p (PV.s (aH #[]))] ((e+0)*7+o)) e o),.cells 86 [.sl 6 7 0 (gM D (Pg.mk 1 ru ve (bS cS L.length (aE aN L)) (A.getD (↑i:Int).toNat default) se (aH #[]))).M.length,.mp 7,.mp 8],.row 31 7 (gM D (Pg.mk 1 ru ve (bS cS L.length (aE aN L)) (A.getD (↑i:Int).toNat default) se (aH #[]))).M.length fun e o=>bQ [4,5,6,7,15,0,11,12,13] (C.p (aE aG (gM D (Pg.mk 1 ru ve (bS cS L.length (aE aN L)) (A.getD (↑i:Int).toNat default) se (aH #[]))).M e o)),.mapb (bJ aB 81) (gM D (Pg.mk 1 ru ve (bS cS L.length (aE aN L)) (A.getD (↑i:Int).toNat default) se (aH #[]))).gp,.mapl (bJ aB 79) 3 1 (gM D (Pg.mk 1 ru ve (bS cS L.length (aE aN L)) (A.getD (↑i:Int).toNat default) se (aH #[]))).gs none]))))))))
 (.rq
 (kI aN 2 (bS cS L.length (aE aN L)) L.length (aE aN L) ∧
 (D.M.length=D.M.length ∧
 D.M.length=D.M.length∧aO aG D.M=aO aG D.M∧bJ aB 81=bJ aB 81∧D.gp=D.gp∧bJ aB 79=bJ aB 79∧D.gs=D.gs) ∧
 tY D (Pg.mk 2 ru ve (bS cS L.length (aE aN L)) (A.getD (↑i:Int).toNat default) se (aH #[])))
 (.rq (kI aN 2 (bS cS L.length (aE aN L)) L.length (aE aN L)∧(bS cS L.length (aE aN L)).length≤1000000)
 (.rq (k=k)
 (.rq (1≤1)
 (.rq
 ((k+1)*88≤140737488355328 ∧
 k+1≤140737488355328 ∧
 ∀(e o:Nat),
 e<1 →
 o<7 →
 iQ
 (mI
 [C.p (PV.i aC 2),C.p (PV.s ru),C.p (PV.i aC ve),
 C.p (PV.l 2 (bS cS L.length (aE aN L)).length (aE aN (bS cS L.length (aE aN L)))),C.p (PV.i aC (A.getD (↑i:Int).toNat default)),
 C.p (PV.i aC se),C.p (PV.s (aH #[]))]
 7 1 (e+0) o) =
 true)
 (.rq (eW aC ((↑i:Int)+1))
 (.done .normal
 (bY 95 [(0,.c (.ptr 0 0)),(13,.c (.ptr 1 0)),(14,.c (.mp 2)),(17,.c (.ptr 3 0)),(19,.c (.sl 4 7 0 (k+1))),(61,.c (.p (.l 1 A.length (aE aT A)))),(62,.c (.p (.i .i64 (↑A.length:Int)))),(63,.c (.p (.i .i64 ((↑i:Int)+1))))] [.pin 5 b,.cells 31 [.p (.i .i64 2),.p (.s ru),.p (.i .i64 ve),.p (.l 2 L.length (aE aN L)),.p (.i .i64 (A.getD (↑i:Int).toNat default)),.p (.i .i64 se),.p (.s (aH #[]))],.mapb (bJ aB 3) nw,.cells 79 [.p (.s ru),.p (.i .i64 ve),.p (.s tx)],.row 31 7 (k+1) fun e o=>bQ [4,5,6,7,15,0,11,12,13] (fI k (aO aG out) (fun e o=>bC C.top [C.p (PV.i aC 2),C.p (PV.s ru),C.p (PV.i aC ve),C.p (PV.l 2 (bS cS L.length (aE aN L)).length (aE aN (bS cS L.length (aE aN L)))),C.p (PV.i aC (A.getD (↑i:Int).toNat default)),C.p (PV.i aC se),C.p (PV.s (aH #[]))] ((e+0)*7+o)) e o),.cells 86 [.sl 6 7 0 (gM D (Pg.mk 2 ru ve (bS cS L.length (aE aN L)) (A.getD (↑i:Int).toNat default) se (aH #[]))).M.length,.mp 7,.mp 8],.row 31 7 (gM D (Pg.mk 2 ru ve (bS cS L.length (aE aN L)) (A.getD (↑i:Int).toNat default) se (aH #[]))).M.length fun e o=>bQ [4,5,6,7,15,0,11,12,13] (C.p (aE aG (gM D (Pg.mk 2 ru ve (bS cS L.length (aE aN L)) (A.getD (↑i:Int).toNat default) se (aH #[]))).M e o)),.mapb (bJ aB 81) (gM D (Pg.mk 2 ru ve (bS cS L.length (aE aN L)) (A.getD (↑i:Int).toNat default) se (aH #[]))).gp,.mapl (bJ aB 79) 3 1 (gM D (Pg.mk 2 ru ve (bS cS L.length (aE aN L)) (A.getD (↑i:Int).toNat default) se (aH #[]))).gs none])))))))))))))
 (.done (.exit 2)
 (bY 95 [(0,.c (.ptr 0 0)),(13,.c (.ptr 1 0)),(14,.c (.mp 2)),(17,.c (.ptr 3 0)),(19,.c (.sl 4 7 0 k)),(61,.c (.p (.l 1 A.length (aE aT A)))),(62,.c (.p (.i .i64 (↑A.length:Int)))),(63,.c (.p (.i .i64 (↑i:Int))))] [.pin 5 b,.cells 31 [.p (.i .i64 kd),.p (.s ru),.p (.i .i64 ve),.p (.l 2 L.length (aE aN L)),.p (.i .i64 st),.p (.i .i64 se),.p (.s (aH #[]))],.mapb (bJ aB 3) nw,.cells 79 [.p (.s ru),.p (.i .i64 ve),.p (.s tx)],.row 31 7 k fun e o=>bQ [4,5,6,7,8,0,1,2,3] (aO aG out e o),.cells 86 [.sl 6 7 0 D.M.length,.mp 7,.mp 8],.row 31 7 D.M.length fun e o=>bQ [4,5,6,7,8,0,1,2,3] (aO aG D.M e o),.mapb (bJ aB 81) D.gp,.mapl (bJ aB 79) 3 1 D.gs none])):=by kernel_rfl
noncomputable def nwF(T:List Int):Value→Option Bool:=T.foldl (fun g t=>uS g (.int .i64 t) true) fun _=>none
theorem aDV(T:List Int)(t:Int):nwF (T++[t])=uS (nwF T) (.int .i64 t) true:=by
 unfold nwF;rw[List.foldl_append];rfl
theorem aDW(T:List Int):∀(g:Value→Option Bool) (t:Int),((T.foldl (fun g t=>uS g (.int .i64 t) true) g) (.int .i64 t)).getD false=(decide (t∈T)||(g (.int .i64 t)).getD false):=by
 induction T with
 |nil=>intro g t;simp
 |cons x T ih=>
  intro g t;rw[List.foldl_cons,ih];unfold uS
  by_cases h:t=x
  ·subst h;simp
  ·simp[h]
theorem aIR(T:List Int)(t:Int):(nwF T (.int .i64 t)).getD false=decide (t∈T):=by
 unfold nwF;rw[aDW];simp
noncomputable def lM(T:List Int)(ru:ByteArray)(ve:Int)(L:List (ByteArray×ByteArray))(se:Int)(r:Ld×List Pg)(t:Int):Ld×List Pg:=
 match (r.1.gp (lC ru ve (cH L) t)).getD false,decide (t∈T) with
 |true,true=>r
 |false,false=>r
 |true,false=>(gM r.1 ⟨1,ru,ve,L,t,se,⟨#[]⟩⟩,r.2++[⟨1,ru,ve,L,t,se,⟨#[]⟩⟩])
 |false,true=>(gM r.1 ⟨2,ru,ve,L,t,se,⟨#[]⟩⟩,r.2++[⟨2,ru,ve,L,t,se,⟨#[]⟩⟩])
noncomputable def nZ(T:List Int)(ru:ByteArray)(ve:Int)(L:List (ByteArray×ByteArray))(se:Int)(D:Ld)(A:List Int):Ld×List Pg:=A.foldl (lM T ru ve L se) (D,[])
noncomputable def lA(D:Ld)(ru:ByteArray)(ve:Int)(L:List (ByteArray×ByteArray))(S T:List Int)(se:Int):V×Ld:=match hP (⟨0,ru,ve,L,0,se,⟨#[]⟩⟩:Pg),T.all gU with
 |true,true=>(aU aG 7 (nZ T ru ve L se D (kU (iM (S++T)))).2,(nZ T ru ve L se D (kU (iM (S++T)))).1)
 |_,_=>(.c (.p (.z (.slice none 0 0))),D)
theorem RQ(T:List Int)(ru:ByteArray)(ve:Int)(L:List (ByteArray×ByteArray))(se:Int)(D:Ld)(A:List Int)(t:Int):nZ T ru ve L se D (A++[t])=lM T ru ve L se (nZ T ru ve L se D A) t:=by
 unfold nZ;rw[List.foldl_append];rfl
theorem aJC(D:Ld)(p:Pg):((gM D p).gs (iR p.ru p.ve (cH p.L))).1≤(D.gs (iR p.ru p.ve (cH p.L))).1+1:=by
 unfold gM;dsimp only;cases (D.gp (lC p.ru p.ve (cH p.L) p.st)).isSome with
 |true=>exact Nat.le_succ _
 |false=>show (uH _ _ _ _).1≤_;unfold uH;rw[rU];exact aW _
theorem AL{L:List Int}{t:Int}:t∈iM L↔t∈L:=by unfold iM;exact List.mem_mergeSort
theorem JD{L:List Int}{t:Int}(h:t∈kU L):t∈L:=by
 unfold kU Go.Lib.compact Go.Lib.compactUpTo at h;obtain⟨j,h1,h2⟩:=List.mem_map.1 h
 have h1:=(List.mem_filter.1 h1).1
 have hj:j<L.length:=by simpa using h1
 subst h2;simp[hj]
theorem uA{α:Type}[Inhabited α]{l:List α}{i:Nat}(h:i<l.length):l.take (i+1)=l.take i++[l.getD i default]:=by
 rw[List.take_succ_eq_append_getElem h,aD,aK h];rfl
theorem sF{l:List Int}{i:Nat}(h:i<l.length):l.getD i default∈l:=by
 rw[aD,aK h];exact jQ _
theorem nU{t:Int}(h:gU t=true):eW .i64 t:=by
 unfold gU at h;simp at h;unfold eW;omega
section
variable {G:Nat→Option Obj}
theorem PM:bG aB G aKX:=eC (by simp;exact aDE)
theorem QW(A:List Int):bG aB G (aLS A):=VH aDM (eM (by simp;exact⟨WL _,aIP _⟩))
theorem RA(D:Ld):bG aB G (aLV D):=eM (by simp;exact⟨aDS D,aDF.lift⟩)
set_option maxRecDepth 100000 in
set_option maxHeartbeats 4000000 in
theorem VP(D:Ld)(ru:ByteArray)(ve:Int)(L:List (ByteArray×ByteArray))(S T:List Int)(se:Int)(hS:GS D (iR ru ve (cH L)) S)(hT:hP (⟨0,ru,ve,L,0,se,⟨#[]⟩⟩:Pg)=true→(cH L).size≤1000000∧ru.size≤1000000∧eW .i64 ve∧L.length≤1000000∧(∀t∈S,eW .i64 t)∧S.length+T.length≤100000∧D.M.length≤100000)(hTl:T.length≤1000000)(rest:List AO)(b:Nat)(Q:X→St→Prop):eP aB G (Zm [0] (bK aB Try.f17) fun s=>cW G s ⟨[.c (.ptr 0 0)]++[(lA D ru ve L S T se).1],pA (lA D ru ve L S T se).2 b⟩) (dC aB Try.f17) (jR Try.f17 [0,1,2,3] [0] [b] [.c (.ptr 0 0),.c (.p (.s ru)),iV ve,aU aN 2 L,aU aT 1 T,iV se] (mL D rest)) Q:=by
 refine eP.evG pI 6 (tM1 D rest b ve se ru L T) ?_;simp only[cD,bA,aP,kA,cI,gN];unfold lA;refine⟨dP _ _ _,fun h1=>⟨?_⟩,fun h1=>⟨?_⟩⟩
 ·have h1:hP (⟨0,ru,ve,L,0,se,⟨#[]⟩⟩:Pg)=false:=by simpa using h1
  rw[h1];exact aI (by kernel_rfl)
 have h1:hP (⟨0,ru,ve,L,0,se,⟨#[]⟩⟩:Pg)=true:=by simpa using h1
 obtain⟨t1,t2,t3,t4,t5,t6,t7⟩:=hT h1;clear hT;rw[h1]
 refine eP.loop' (l:=bL 6 (dC aB Try.f17)) (b:=inr (inr (bC .skip (dC aB Try.f17) 6))) (r:=bL 7 (dC aB Try.f17)) (id:=0) (by kernel_rfl) (σ:=Nat)
   (fun i=>(fun nw=>bY 95 [(0,.c (.ptr 0 0)),(4,aU aT 1 T),(13,.c (.ptr 1 0)),(14,.c (.mp 2)),(34,aU aT 1 T),(35,iV (T.length:Nat)),(36,iV (i:Nat))] [.pin 3 b,.cells 31 [.p (.i .i64 0),.p (.s ru),.p (.i .i64 ve),.p (bO aN 2 L),.p (.i .i64 0),.p (.i .i64 se),.p (.s ⟨#[]⟩)],.mapb (bJ aB 3) nw,.cells 86 [.sl 4 7 0 D.M.length,.mp 5,.mp 6],.row 31 7 D.M.length (aO aG D.M),.mapb (bJ aB 81) D.gp,.mapl (bJ aB 79) 3 1 D.gs none]) (nwF (T.take i))) (fun i=>i≤T.length∧(T.take i).all gU=true) (fun i=>T.length-i) 0 ⟨bX _,rfl⟩ (aI (by kernel_rfl)) ?_
 rintro i ⟨i1,i2⟩ Q1 q1n q1e -;refine eP.evH (keep:=fJ 95 [0,4,13,14,34,35,36]) PM (tM2 D b i ve se ru L T (nwF (T.take i))) ?_;simp only[cD,bA,aP,cI,mU,kA,decide_eq_true_eq,decide_eq_false_iff_not,eW,dW];refine⟨fun hlt=>?_,fun hge=>⟨?_⟩⟩
 ·have hlt:i<T.length:=by omega
  have hm:=sF hlt
  have hs:=uA hlt
  refine⟨by omega,trivial,fun h2=>⟨?_⟩,fun h2=>⟨⟨trivial,?_⟩,by omega,⟨?_⟩⟩⟩
  ·have h2:gU (T.getD i default)=false:=by simpa using h2
   have h3:T.all gU=false:=by
    cases hq:T.all gU with
    |false=>rfl
    |true=>rw[fN.1 hq _ hm]at h2;cases h2
   rw[h3];exact aI (by kernel_rfl)
  ·exact WN _ (nU (by simpa using h2))
  ·have h2:gU (T.getD i default)=true:=by simpa using h2
   refine q1n (i+1) _ ⟨by omega,by rw[hs,List.all_append,i2];show (true&&(gU (T.getD i default)&&true))=true;rw[h2];rfl⟩ (by omega) ?_;rw[hs,aDV]
   exact aI (by kernel_rfl)
 ·obtain rfl:i=T.length:=by omega
  rw[fF]at i2 ⊢;refine q1e _ ?_;rw[i2];clear q1n q1e hge i1
  have hTt:∀t∈T,eW .i64 t:=fun t ht=>nU (fN.1 i2 t ht)
  have hAt:∀t∈kU (iM (S++T)),eW .i64 t:=fun t ht=>by
   have:=AL.1 (JD ht)
   rcases dK.1 this with h|h
   ·exact t5 t h
   ·exact hTt t h
  have hAl:(kU (iM (S++T))).length≤S.length+T.length:=by
   have:=nY (iM (S++T))
   rw[kP,aL]at this;exact this
  have hnw:=aIR T
  obtain⟨nw,hnwe⟩:∃nw,nw=nwF T:=⟨_,rfl⟩
  rw[←hnwe]at hnw ⊢
  refine eP.pre ((gB (fJ 95 [0,4,13,14]) _).trans (aI (by kernel_rfl))) (eP.evG pI 1 (tM3 D b ve se ru L T nw) ?_)
  simp only[cD,bA,aP,cI,gN];refine⟨⟨dP _ _ _,t1⟩,⟨?_⟩⟩;obtain⟨s1,s2⟩:=hS
  have hmk:∀t,eW .i64 t→bJ aB 81 (lC ru ve (cH L) t)=true:=fun t ht=>yQ _ _ _ _ t2 t3 t1 ht
  have hgk:=yR ru (cH L) ve t2 t3 t1
  obtain⟨tx,htx⟩:∃tx,tx=cH L:=⟨_,rfl⟩
  rw[←htx]at s1 s2 hmk hgk t1 ⊢
  have w1:cW G (bY 95 [(0,.c (.ptr 0 0)),(4,aU aT 1 T),(13,.c (.ptr 1 0)),(14,.c (.mp 2)),(17,.c (.ptr 3 0))] [.pin 4 b,.cells 31 [.p (.i .i64 0),.p (.s ru),.p (.i .i64 ve),.p (bO aN 2 L),.p (.i .i64 0),.p (.i .i64 se),.p (.s ⟨#[]⟩)],.mapb (bJ aB 3) nw,.cells 79 [.p (.s ru),.p (.i .i64 ve),.p (.s tx)],.cells 86 [.sl 5 7 0 D.M.length,.mp 6,.mp 7],.row 31 7 D.M.length (aO aG D.M),.mapb (bJ aB 81) D.gp,.mapl (bJ aB 79) 3 1 D.gs none]) ((fun S=>bY 95 [(0,.c (.ptr 0 0)),(4,aU aT 1 T),(13,.c (.ptr 1 0)),(14,.c (.mp 2)),(17,.c (.ptr 3 0))] [.pin 4 b,.cells 31 [.p (.i .i64 0),.p (.s ru),.p (.i .i64 ve),.p (bO aN 2 L),.p (.i .i64 0),.p (.i .i64 se),.p (.s ⟨#[]⟩)],.mapb (bJ aB 3) nw,.cells 79 [.p (.s ru),.p (.i .i64 ve),.p (.s tx)],.cells 86 [.sl 5 7 0 D.M.length,.mp 6,.mp 7],.row 31 7 D.M.length (aO aG D.M),.mapb (bJ aB 81) D.gp,.mapl (bJ aB 79) 3 1 D.gs (some (iR ru ve tx,.sl 8 1 0 S.length)),.row 3 1 S.length (aO aT S)]) S):=by
   refine(wY (id:=7) (iR ru ve tx) (by rfl)).trans ?_;rw[s1]
   refine(aI (st':=bY 95 [(0,.c (.ptr 0 0)),(4,aU aT 1 T),(13,.c (.ptr 1 0)),(14,.c (.mp 2)),(17,.c (.ptr 3 0))] [.pin 4 b,.cells 31 [.p (.i .i64 0),.p (.s ru),.p (.i .i64 ve),.p (bO aN 2 L),.p (.i .i64 0),.p (.i .i64 se),.p (.s ⟨#[]⟩)],.mapb (bJ aB 3) nw,.cells 79 [.p (.s ru),.p (.i .i64 ve),.p (.s tx)],.cells 86 [.sl 5 7 0 D.M.length,.mp 6,.mp 7],.row 31 7 D.M.length (aO aG D.M),.mapb (bJ aB 81) D.gp,.mapl (bJ aB 79) 3 1 D.gs (some (iR ru ve tx,.sl 8 1 0 S.length)),.row 3 1 S.length (fun e o=>.p ((D.gs (iR ru ve tx)).2 e o))]) (by kernel_rfl)).trans ?_
   refine jF ⟨rfl,rfl,rfl,rfl,rfl,⟨rfl,rfl,rfl,fun _ _ _ _=>rfl⟩,rfl,rfl,⟨rfl,rfl,rfl,fun e o he ho=>?_⟩,trivial⟩;exact congrArg C.p (s2 e o he ho)
  refine eP.pre ((aI (by kernel_rfl)).trans w1) ?_
  refine eP.evG (QW (S++T)) 4 (tM4 D b ve se ru tx L S T nw) ?_;simp only[cD,bA,aP,cI]
  have dS:(bS gH S.length fun e o=>mZ (aO aT S (e+0) o))=S:=iS S
  have dT:bS gH T.length (aE aT T)=T:=iS T
  rw[dS,dT];refine⟨⟨⟨trivial,hgk⟩,rfl⟩,⟨by omega,fun _ _ _ _=>rfl⟩,⟨⟨⟨dP _ _ _,dP _ _ _⟩,by omega⟩,trivial,fun _ _ _ _=>rfl⟩,⟨rfl,rfl,fun _ _ _ _=>rfl,by rw[aL];omega⟩,⟨by rw[kP],by rw[kP],fun _ _ _ _=>rfl,by rw[kP,aL];omega⟩,⟨?_⟩⟩
  have hAe:=htx
  obtain⟨A,hA⟩:∃A,A=kU (iM (S++T)):=⟨_,rfl⟩
  rw[←hA]at hAt hAl ⊢
  have w2:cW G ((fun A S nw=>bY 95 [(0,.c (.ptr 0 0)),(13,.c (.ptr 1 0)),(14,.c (.mp 2)),(17,.c (.ptr 3 0)),(19,.c (.p (.z (.slice none 0 0)))),(61,.c (.sl 4 1 0 A.length)),(62,iV (A.length:Nat)),(63,iV 0)] [.pin 5 b,.cells 31 [.p (.i .i64 0),.p (.s ru),.p (.i .i64 ve),.p (bO aN 2 L),.p (.i .i64 0),.p (.i .i64 se),.p (.s ⟨#[]⟩)],.mapb (bJ aB 3) nw,.cells 79 [.p (.s ru),.p (.i .i64 ve),.p (.s tx)],.row 3 1 A.length (aO aT A),.cells 86 [.sl 6 7 0 D.M.length,.mp 7,.mp 8],.row 31 7 D.M.length (aO aG D.M),.mapb (bJ aB 81) D.gp,.mapl (bJ aB 79) 3 1 D.gs (some (iR ru ve tx,.sl 9 1 0 S.length)),.row 3 1 S.length (aO aT S)]) A S nw) ((fun D nw kd st out k i=>bY 95 [(0,.c (.ptr 4 0)),(13,.c (.ptr 5 0)),(14,.c (.mp 6)),(17,.c (.ptr 7 0)),(19,.c (.sl 8 7 0 k)),(61,aU aT 1 A),(62,iV (A.length:Nat)),(63,iV (i:Nat))] (mL D [.pin 0 b,.cells 31 [.p (.i .i64 kd),.p (.s ru),.p (.i .i64 ve),.p (bO aN 2 L),.p (.i .i64 st),.p (.i .i64 se),.p (.s ⟨#[]⟩)],.mapb (bJ aB 3) nw,.cells 79 [.p (.s ru),.p (.i .i64 ve),.p (.s tx)],.row 31 7 k (aO aG out)])) D nw 0 0 [] 0 0):=by
   refine(uM (id:=8) (m:=9) (k0:=iR ru ve tx) (n:=S.length) (h:=aO aT S) (D.gs (iR ru ve tx)).2 (by rfl) (by rfl) (fun e o he ho=>(congrArg C.p (s2 e o he ho)).symm)).trans ?_;rw[IH _ _ _ s1]
   refine(pD (j:=61) (id:=4) (ty:=3) (sz:=1) (n:=A.length) (off:=0) (len:=A.length) (f:=aO aT A) (by kernel_rfl) (by kernel_rfl) (by omega) (fun _ _ _ _=>rfl)).trans ?_
   refine(mM 31 7 (aO aG []) 19 (by kernel_rfl)).trans ?_
   refine(gY [5,6,7,8,0,1,2,3,10] (fJ 95 [0,13,14,17,19,61,62,63]) (by kernel_rfl) _).trans ?_
   exact aI (by kernel_rfl)
  refine eP.pre ((aI (by kernel_rfl)).trans w2) ?_
  clear w2
  refine eP.loop' (l:=bL 4 (bL 1 (bL 7 (dC aB Try.f17)))) (b:=inr (inr (bC .skip (dC aB Try.f17) 12))) (r:=bL 13 (dC aB Try.f17)) (id:=2) (by kernel_rfl) (σ:=Nat×Ld×List Pg×Int×Int)
    (fun(i,D,out,kd,st)=>(fun D nw kd st out k i=>bY 95 [(0,.c (.ptr 4 0)),(13,.c (.ptr 5 0)),(14,.c (.mp 6)),(17,.c (.ptr 7 0)),(19,.c (.sl 8 7 0 k)),(61,aU aT 1 A),(62,iV (A.length:Nat)),(63,iV (i:Nat))] (mL D [.pin 0 b,.cells 31 [.p (.i .i64 kd),.p (.s ru),.p (.i .i64 ve),.p (bO aN 2 L),.p (.i .i64 st),.p (.i .i64 se),.p (.s ⟨#[]⟩)],.mapb (bJ aB 3) nw,.cells 79 [.p (.s ru),.p (.i .i64 ve),.p (.s tx)],.row 31 7 k (aO aG out)])) D nw kd st out out.length i) (fun(i,D',out,_,_)=>i≤A.length∧(D',out)=nZ T ru ve L se D (A.take i)∧out.length≤i∧D'.M.length≤D.M.length+i∧(D'.gs (iR ru ve tx)).1≤S.length+i) (fun(i,_)=>A.length-i) (0,D,[],0,0) ⟨bX _,rfl,bX _,aW _,by rw[s1];exact aW _⟩ (cW.refl _) ?_
  rintro⟨i,D',out,kd,st⟩ ⟨i1,i2,i3,i4,i5⟩ Q1 q1n q1e -;refine eP.evH (keep:=fJ 95 [0,13,14,17,19,61,62,63]) (RA D') (tM5 D' b i out.length kd ve st se ru tx L A out nw) ?_;simp only[cD,bA,aP,cI,mU,decide_eq_true_eq,decide_eq_false_iff_not,eW,show ∀x:Nat,x+0=x from fun _=>rfl,dW,gN];refine⟨fun hlt=>?_,fun hge=>⟨?_⟩⟩
  ·have hlt:i<A.length:=by omega
   have hm:=sF hlt
   have hs:=uA hlt
   have hin:=hAt _ hm
   generalize A.getD i default=t at hm hs hin
   have hk:=hmk t hin
   have hst:nZ T ru ve L se D (A.take (i+1))=lM T ru ve L se (D',out) t:=by rw[hs,RQ,←i2]
   have hFit:∀kd,tY D' ⟨kd,ru,ve,L,t,se,⟨#[]⟩⟩:=fun kd=>by
    refine⟨?_,?_,?_,?_,?_,?_⟩
    ·rw[htx]at hk;exact hk
    ·rw[htx]at hgk;exact hgk
    ·rw[htx]at t1;exact t1
    ·exact t4
    ·omega
    ·rw[htx]at i5;show (D'.gs (iR ru ve (cH L))).1≤_;omega
   have hgr:∀kd,((gM D' ⟨kd,ru,ve,L,t,se,⟨#[]⟩⟩).gs (iR ru ve tx)).1≤S.length+(i+1):=fun kd=>by
    have:((gM D' ⟨kd,ru,ve,L,t,se,⟨#[]⟩⟩).gs (iR ru ve tx)).1≤(D'.gs (iR ru ve tx)).1+1:=by rw[htx];exact aJC D' ⟨kd,ru,ve,L,t,se,⟨#[]⟩⟩
    omega
   have hML:∀kd,(gM D' ⟨kd,ru,ve,L,t,se,⟨#[]⟩⟩).M.length≤D.M.length+(i+1):=fun kd=>by
    unfold gM;simp;omega
   unfold lM at hst;rw[←htx,←hnw]at hst;refine⟨⟨by omega,by omega⟩,⟨trivial,hk⟩,⟨trivial,WN _ hin⟩,fun he=>⟨by omega,⟨?_⟩⟩,fun he=>⟨fun hp=>⟨⟨dP _ _ _,⟨trivial,trivial,trivial,trivial,trivial,trivial,trivial⟩,hFit _⟩,⟨dP _ _ _,t4⟩,trivial,aW _,⟨by omega,by omega,SU 1 ve t se ru ⟨#[]⟩ L⟩,by omega,⟨?_⟩⟩,fun hp=>⟨⟨dP _ _ _,⟨trivial,trivial,trivial,trivial,trivial,trivial,trivial⟩,hFit _⟩,⟨dP _ _ _,t4⟩,trivial,aW _,⟨by omega,by omega,SU 2 ve t se ru ⟨#[]⟩ L⟩,by omega,⟨?_⟩⟩⟩⟩
   ·have he:((D'.gp (lC ru ve tx t)).getD false==(nw (.int .i64 t)).getD false)=true:=he
    have hst:nZ T ru ve L se D (A.take (i+1))=(D',out):=by
     rw[hst];revert he
     cases (D'.gp (lC ru ve tx t)).getD false<;>cases (nw (.int .i64 t)).getD false<;>intro he<;>first|rfl|cases he
    refine q1n (i+1,D',out,kd,st) _ ⟨by omega,hst.symm,by omega,by omega,by omega⟩ (by simp only;omega) ?_
    exact(gY [5,6,7,8,0,1,2,3,4] (fJ 95 [0,13,14,17,19,61,62,63]) (by kernel_rfl) _).trans (aI (by kernel_rfl))
   ·have he:((D'.gp (lC ru ve tx t)).getD false==(nw (.int .i64 t)).getD false)=false:=he
    have hp:(D'.gp (lC ru ve tx t)).getD false=true:=hp
    have hst:nZ T ru ve L se D (A.take (i+1))=(gM D' ⟨1,ru,ve,L,t,se,⟨#[]⟩⟩,out++[⟨1,ru,ve,L,t,se,⟨#[]⟩⟩]):=by
     rw[hst];rw[hp]at he ⊢;revert he
     cases (nw (.int .i64 t)).getD false<;>intro he<;>first|rfl|cases he
    refine q1n (i+1,gM D' ⟨1,ru,ve,L,t,se,⟨#[]⟩⟩,out++[⟨1,ru,ve,L,t,se,⟨#[]⟩⟩],1,t) _ ⟨by omega,hst.symm,by simp;omega,hML 1,hgr 1⟩ (by simp only;omega) ?_
    show cW G _ ((fun D nw kd st out k i=>bY 95 [(0,.c (.ptr 4 0)),(13,.c (.ptr 5 0)),(14,.c (.mp 6)),(17,.c (.ptr 7 0)),(19,.c (.sl 8 7 0 k)),(61,aU aT 1 A),(62,iV (A.length:Nat)),(63,iV (i:Nat))] (mL D [.pin 0 b,.cells 31 [.p (.i .i64 kd),.p (.s ru),.p (.i .i64 ve),.p (bO aN 2 L),.p (.i .i64 st),.p (.i .i64 se),.p (.s ⟨#[]⟩)],.mapb (bJ aB 3) nw,.cells 79 [.p (.s ru),.p (.i .i64 ve),.p (.s tx)],.row 31 7 k (aO aG out)])) (gM D' ⟨1,ru,ve,L,t,se,⟨#[]⟩⟩) nw 1 t (out++[⟨1,ru,ve,L,t,se,⟨#[]⟩⟩]) (out++[(⟨1,ru,ve,L,t,se,⟨#[]⟩⟩:Pg)]).length (i+1))
    rw[show (out++[(⟨1,ru,ve,L,t,se,⟨#[]⟩⟩:Pg)]).length=out.length+1 by simp]
    refine(gY [5,6,7,8,0,1,2,3,4] (fJ 95 [0,13,14,17,19,61,62,63]) (by kernel_rfl) _).trans ((HX (id:=8) (ty:=31) (sz:=7) (n:=out.length+1) (f:=fun e o=>bQ [5,6,7,8,0,1,2,3,4] (bQ [4,5,6,7,15,0,11,12,13] (fI out.length (aO aG out) (fun e o=>bC C.top [C.p (.i .i64 1),C.p (.s ru),C.p (.i .i64 ve),C.p (bO aN 2 L),C.p (.i .i64 t),C.p (.i .i64 se),C.p (.s ⟨#[]⟩)] ((e+0)*7+o)) e o))) (f':=aO aG (out++[⟨1,ru,ve,L,t,se,⟨#[]⟩⟩])) (by kernel_rfl) (fun e o he ho β R w ad u hu=>?_)).trans (aI (by kernel_rfl)))
    rw[pP (enc:=aG) (x:=⟨1,ru,ve,L,t,se,⟨#[]⟩⟩) rfl (IU 1 ve t se ru ⟨#[]⟩ L) he ho]at hu;exact hu
   ·have he:((D'.gp (lC ru ve tx t)).getD false==(nw (.int .i64 t)).getD false)=false:=he
    have hp:(D'.gp (lC ru ve tx t)).getD false=false:=hp
    have hst:nZ T ru ve L se D (A.take (i+1))=(gM D' ⟨2,ru,ve,L,t,se,⟨#[]⟩⟩,out++[⟨2,ru,ve,L,t,se,⟨#[]⟩⟩]):=by
     rw[hst];rw[hp]at he ⊢;revert he
     cases (nw (.int .i64 t)).getD false<;>intro he<;>first|rfl|cases he
    refine q1n (i+1,gM D' ⟨2,ru,ve,L,t,se,⟨#[]⟩⟩,out++[⟨2,ru,ve,L,t,se,⟨#[]⟩⟩],2,t) _ ⟨by omega,hst.symm,by simp;omega,hML 2,hgr 2⟩ (by simp only;omega) ?_
    show cW G _ ((fun D nw kd st out k i=>bY 95 [(0,.c (.ptr 4 0)),(13,.c (.ptr 5 0)),(14,.c (.mp 6)),(17,.c (.ptr 7 0)),(19,.c (.sl 8 7 0 k)),(61,aU aT 1 A),(62,iV (A.length:Nat)),(63,iV (i:Nat))] (mL D [.pin 0 b,.cells 31 [.p (.i .i64 kd),.p (.s ru),.p (.i .i64 ve),.p (bO aN 2 L),.p (.i .i64 st),.p (.i .i64 se),.p (.s ⟨#[]⟩)],.mapb (bJ aB 3) nw,.cells 79 [.p (.s ru),.p (.i .i64 ve),.p (.s tx)],.row 31 7 k (aO aG out)])) (gM D' ⟨2,ru,ve,L,t,se,⟨#[]⟩⟩) nw 2 t (out++[⟨2,ru,ve,L,t,se,⟨#[]⟩⟩]) (out++[(⟨2,ru,ve,L,t,se,⟨#[]⟩⟩:Pg)]).length (i+1))
    rw[show (out++[(⟨2,ru,ve,L,t,se,⟨#[]⟩⟩:Pg)]).length=out.length+1 by simp]
    refine(gY [5,6,7,8,0,1,2,3,4] (fJ 95 [0,13,14,17,19,61,62,63]) (by kernel_rfl) _).trans ((HX (id:=8) (ty:=31) (sz:=7) (n:=out.length+1) (f:=fun e o=>bQ [5,6,7,8,0,1,2,3,4] (bQ [4,5,6,7,15,0,11,12,13] (fI out.length (aO aG out) (fun e o=>bC C.top [C.p (.i .i64 2),C.p (.s ru),C.p (.i .i64 ve),C.p (bO aN 2 L),C.p (.i .i64 t),C.p (.i .i64 se),C.p (.s ⟨#[]⟩)] ((e+0)*7+o)) e o))) (f':=aO aG (out++[⟨2,ru,ve,L,t,se,⟨#[]⟩⟩])) (by kernel_rfl) (fun e o he ho β R w ad u hu=>?_)).trans (aI (by kernel_rfl)))
    rw[pP (enc:=aG) (x:=⟨2,ru,ve,L,t,se,⟨#[]⟩⟩) rfl (IU 2 ve t se ru ⟨#[]⟩ L) he ho]at hu;exact hu
  ·obtain rfl:i=A.length:=by omega
   rw[fF]at i2;refine q1e _ ?_;rw[←i2]
   refine(eP.pre ((pD (j:=19) (id:=4) (ty:=31) (sz:=7) (n:=out.length) (off:=0) (len:=out.length) (f:=fun e o=>bQ [4,5,6,7,8,0,1,2,3] (aO aG out e o)) (by kernel_rfl) (by kernel_rfl) (by omega) (fun _ _ _ _=>rfl)).trans ((gB (fJ 95 [0,19]) _).trans (aI (st':=bY 95 [(0,.c (.ptr 0 0)),(19,aU aG 7 out)] (pA D' b)) (by kernel_rfl)))) ?_)
   refine eP.evH (keep:=[]) aY (tree:=.done .ret (bY 2 [(0,.c (.ptr 0 0)),(1,aU aG 7 out)] (pA D' b))) (by kernel_rfl) ?_
   exact aI (by kernel_rfl)
set_option maxRecDepth 100000 in
theorem RP(D:Ld)(ru:ByteArray)(ve:Int)(L:List (ByteArray×ByteArray))(S T:List Int)(se:Int)(hS:GS D (iR ru ve (cH L)) S)(hT:hP (⟨0,ru,ve,L,0,se,⟨#[]⟩⟩:Pg)=true→(cH L).size≤1000000∧ru.size≤1000000∧eW .i64 ve∧L.length≤1000000∧(∀t∈S,eW .i64 t)∧S.length+T.length≤100000∧D.M.length≤100000)(hTl:T.length≤1000000)(rest:List AO):jW aB G 17 [.c (.ptr 0 0),.c (.p (.s ru)),iV ve,aU aN 2 L,aU aT 1 T,iV se] (mL D rest) fun x h'=>x=(lA D ru ve L S T se).1∧h'=iT [0,1,2,3] [0] [1] (mL D rest) (pA (lA D ru ve L S T se).2 0):=by
 refine fun β R w vs ha hh=>(aEO Try.func17 (by kernel_rfl) (args:=[.c (.p (.s ru)),iV ve,aU aN 2 L,aU aT 1 T,iV se]) (vs:=[(lA D ru ve L S T se).1]) (D':=(lA D ru ve L S T se).2) (fun b=>VP D ru ve L S T se hS hT hTl rest b _) β R w vs ha hh).mono ?_
 rintro e w' ⟨u,β',R',x,h',rfl,⟨hx,hh'⟩,hr⟩;refine⟨u,β',R',x,h',rfl,⟨hx.trans ?_,hh'⟩,hr⟩;unfold lA;cases hP (⟨0,ru,ve,L,0,se,⟨#[]⟩⟩:Pg)<;>cases T.all gU<;>rfl
end
def CM:V→Option (Prop×List Int)
 |.c (.p x)=>iOf x
 |_=>none
theorem oZ{x:V}{p:Prop}{A:List Int}(h:CM x=some (p,A))(hp:p):iE x (aU aT 1 A):=by
 unfold CM at h;split at h
 ·exact iE.p (UR h hp)
 ·cases h
def JF:Mod
 |[x,y]=>match CM x,CM y with
  |some (p,A),some (q,B)=>some ((p∧q)∧A.length≤1000000,bV (decide (A=B)))
  |_,_=>none
 |_=>none
def aNW:Mod
 |[x,.c (.p (.i .i64 n))]=>match CM x with
  |some (p,A)=>some (p∧A.length≤1000000,bV (decide (n∈A)))
  |_=>none
 |_=>none
theorem tI1(A B:List Int):dF fH (dL 4 (dC aB Try.f27)) (oB Try.f27 [aU aT 1 A,aU aT 1 B]) (gW (fJ 26 [0,1,5]) (bK aB Try.f27))=bT ((↑A.length:Int) != (↑B.length:Int)) (.done .ret (St.mk [V.c (C.p (PV.b false))] []))
 (.done .normal
 (bY 26 [(0,.c (.p (.l 1 A.length (aE aT A)))),(1,.c (.p (.l 1 B.length (aE aT B)))),(5,.c (.p (.i .i64 0)))] [])):=by kernel_rfl
theorem tI2(A B:List Int)(i:Nat):dF fH (gQ (dC aB Try.f27) 4) (bY 26 [(0,aU aT 1 A),(1,aU aT 1 B),(5,iV (i:Nat))] []) (gW (fJ 26 [0,1,5]) (bK aB Try.f27))=bT (decide ((↑i:Int)<(↑A.length:Int)))
 (.rq (0≤(↑i:Int)∧(↑i:Int)<(↑A.length:Int))
 (.rq (0≤(↑i:Int)∧(↑i:Int)<(↑B.length:Int))
 (bT (A.getD (↑i:Int).toNat default != B.getD (↑i:Int).toNat default) (.done .ret (St.mk [V.c (C.p (PV.b false))] []))
 (.rq (eW aC ((↑i:Int)+1))
 (.done .normal
 (bY 26 [(0,.c (.p (.l 1 A.length (aE aT A)))),(1,.c (.p (.l 1 B.length (aE aT B)))),(5,.c (.p (.i .i64 ((↑i:Int)+1))))] []))))))
 (.done (.exit 0)
 (bY 26 [(0,.c (.p (.l 1 A.length (aE aT A)))),(1,.c (.p (.l 1 B.length (aE aT B)))),(5,.c (.p (.i .i64 (↑i:Int))))] [])):=by kernel_rfl
theorem tI3(A B:List Int)(i:Nat):dF fH (bL 5 (dC aB Try.f27)) (bY 26 [(0,aU aT 1 A),(1,aU aT 1 B),(5,iV (i:Nat))] []) (gW [] (bK aB Try.f27))=Tr.done X.ret (St.mk [V.c (C.p (PV.b true))] []):=by kernel_rfl
theorem tH1(A:List Int)(n:Int):dF fH (dL 2 (dC aB Try.f18)) (oB Try.f18 [aU aT 1 A,iV n]) (gW (fJ 18 [0,1,5]) (bK aB Try.f18))=Tr.done X.normal
 (bY 18 [(0,.c (.p (.l 1 A.length (aE aT A)))),(1,.c (.p (.i .i64 n))),(5,.c (.p (.i .i64 0)))] []):=by kernel_rfl
theorem tH2(A:List Int)(n:Int)(i:Nat):dF fH (gQ (dC aB Try.f18) 2) (bY 18 [(0,aU aT 1 A),(1,iV n),(5,iV (i:Nat))] []) (gW (fJ 18 [0,1,5]) (bK aB Try.f18))=bT (decide ((↑i:Int)<(↑A.length:Int)))
 (.rq (0≤(↑i:Int)∧(↑i:Int)<(↑A.length:Int))
 (bT (A.getD (↑i:Int).toNat default==n) (.done .ret (St.mk [V.c (C.p (PV.b true))] []))
 (.rq (eW aC ((↑i:Int)+1))
 (.done .normal
 (bY 18 [(0,.c (.p (.l 1 A.length (aE aT A)))),(1,.c (.p (.i .i64 n))),(5,.c (.p (.i .i64 ((↑i:Int)+1))))] [])))))
 (.done (.exit 0)
 (bY 18 [(0,.c (.p (.l 1 A.length (aE aT A)))),(1,.c (.p (.i .i64 n))),(5,.c (.p (.i .i64 (↑i:Int))))] [])):=by kernel_rfl
theorem tH3(A:List Int)(n:Int)(i:Nat):dF fH (bL 3 (dC aB Try.f18)) (bY 18 [(0,aU aT 1 A),(1,iV n),(5,iV (i:Nat))] []) (gW [] (bK aB Try.f18))=Tr.done X.ret (St.mk [V.c (C.p (PV.b false))] []):=by kernel_rfl
section
variable {G:Nat→Option Obj}
set_option maxRecDepth 100000 in
theorem TA:iW aB G 27 JF:=by
 intro args p v hm hp h;unfold JF at hm
 split at hm;rotate_left;· cases hm
 split at hm;rotate_left;· cases hm
 rename_i x y _ _ p1 A p2 B hx hy;obtain⟨rfl,rfl⟩:=eY hm;obtain⟨⟨hA,hB⟩,hlen⟩:=hp;refine jW.args (args':=[aU aT 1 A,aU aT 1 B]) ?_ (.cons (oZ hx hA) (.cons (oZ hy hB) .nil));clear hA hB hm hx hy
 refine qN Try.func27 (by kernel_rfl) rfl ?_ h
 refine eG.evG aY 4 (tI1 A B) ?_;simp only[cD,aP,fP,cC,bne_iff_ne,bne_eq_false_iff_eq,ne_eq];refine⟨fun h1=>⟨iE.of_eq ?_⟩,fun h1=>⟨?_⟩⟩
 ·rw[decide_eq_false (fun e=>h1 (by rw[e]))];rfl
 have h1:A.length=B.length:=by omega
 refine eG.loop' (l:=bL 4 (dC aB Try.f27)) (b:=inr (inr (bC .skip (dC aB Try.f27) 4))) (r:=bL 5 (dC aB Try.f27)) (id:=0) (by kernel_rfl) (σ:=Nat)
   (fun i=>bY 26 [(0,aU aT 1 A),(1,aU aT 1 B),(5,iV (i:Nat))] []) (fun i=>i≤A.length∧A.take i=B.take i) (fun i=>A.length-i) 0 ⟨bX _,rfl⟩ (aI (by kernel_rfl)) ?_
 rintro i ⟨hi,hc⟩ Q1 q1n q1e -;refine eG.evH aY (tI2 A B i) ?_;simp only[cD,bA,aP,fP,cC,jZ,decide_eq_true_eq,decide_eq_false_iff_not,bne_iff_ne,bne_eq_false_iff_eq,ne_eq,eW,show (↑i:Int).toNat=i from rfl]
 refine⟨fun h2=>⟨by omega,by omega,fun c1=>⟨iE.of_eq ?_⟩,fun c1=>⟨by omega,⟨q1n (i+1) _ ⟨by omega,by rw[uA (by omega),uA (by omega),hc,c1]⟩ (by omega) (aI (by kernel_rfl))⟩⟩⟩,fun h2=>⟨q1e _ ?_⟩⟩
 ·rw[decide_eq_false (fun e=>c1 (by rw[e]))];rfl
 ·rw[List.take_of_length_le (by omega),List.take_of_length_le (by omega)]at hc
  refine eG.evH aY (tI3 A B i) ?_;simp only[aP,fP];rw[decide_eq_true hc];exact⟨iE.refl _⟩
set_option maxRecDepth 100000 in
theorem aQH:iW aB G 18 aNW:=by
 intro args p v hm hp h;unfold aNW at hm
 split at hm;rotate_left;· cases hm
 split at hm;rotate_left;· cases hm
 rename_i x n _ p1 A hx;obtain⟨rfl,rfl⟩:=eY hm;obtain⟨hA,hlen⟩:=hp;refine jW.args (args':=[aU aT 1 A,iV n]) ?_ (.cons (oZ hx hA) (.cons (.refl _) .nil));clear hA hm hx
 refine qN Try.func18 (by kernel_rfl) rfl ?_ h
 refine eG.evG aY 2 (tH1 A n) ?_;simp only[cD,aP,fP,cC];refine⟨?_⟩
 refine eG.loop' (l:=bL 2 (dC aB Try.f18)) (b:=inr (inr (bC .skip (dC aB Try.f18) 2))) (r:=bL 3 (dC aB Try.f18)) (id:=0) (by kernel_rfl) (σ:=Nat)
   (fun i=>bY 18 [(0,aU aT 1 A),(1,iV n),(5,iV (i:Nat))] []) (fun i=>i≤A.length∧n ∉ A.take i) (fun i=>A.length-i) 0 ⟨bX _,by simp⟩ (aI (by kernel_rfl)) ?_
 rintro i ⟨hi,hc⟩ Q1 q1n q1e -;refine eG.evH aY (tH2 A n i) ?_;simp only[cD,bA,aP,fP,cC,jZ,decide_eq_true_eq,decide_eq_false_iff_not,beq_iff_eq,beq_eq_false_iff_ne,ne_eq,eW,show (↑i:Int).toNat=i from rfl]
 refine⟨fun h2=>⟨by omega,fun c1=>⟨iE.of_eq ?_⟩,fun c1=>⟨by omega,⟨q1n (i+1) _ ⟨by omega,?_⟩ (by omega) (aI (by kernel_rfl))⟩⟩⟩,fun h2=>⟨q1e _ ?_⟩⟩
 ·rw[decide_eq_true (by rw[←c1];exact sF (by omega))];rfl
 ·rw[uA (by omega),dK]
  rintro (h|h)
  ·exact hc h
  ·exact c1 (eO.1 h).symm
 ·rw[List.take_of_length_le (by omega)]at hc
  refine eG.evH aY (tH3 A n i) ?_;simp only[aP,fP];rw[decide_eq_false hc];exact⟨iE.refl _⟩
end
def MC(D:Ld):List AO→Option (Prop×List AO)
 |.cells 86 [.sl 1 7 0 n,.mp 2,.mp 3]::.row 31 7 n' f::.mapb ok gp::.mapl ok2 3 1 gs none::rest=>some (n=D.M.length∧n'=D.M.length∧(∀e o,e<D.M.length→o<7→f e o=aO aG D.M e o)∧ok=bJ aB 81∧gp=D.gp∧ok2=bJ aB 79∧gs=D.gs,rest)
 |_=>none
noncomputable def UC(D:Ld):kD
 |[.c (.ptr 0 0),x],h=>match MC D h,xF x with
  |some (q,rest),some (r,p)=>some ((r∧q)∧(p.kd=0→hP p=true→tY D p),iV (jL D p).1,iT [0,1,2,3] [0] [1] (mL D rest) (pA (jL D p).2 0))
  |_,_=>none
 |_,_=>none
theorem aJF{D:Ld}{h rest:List AO}{q:Prop}(he:MC D h=some (q,rest))(hq:q):∃f,h=.cells 86 [.sl 1 7 0 D.M.length,.mp 2,.mp 3]::.row 31 7 D.M.length f::.mapb (bJ aB 81) D.gp::.mapl (bJ aB 79) 3 1 D.gs none::rest∧∀e o,e<D.M.length→o<7→f e o=aO aG D.M e o:=by
 unfold MC at he
 split at he;rotate_left;· cases he
 injection he with he;injection he with e1 e2;subst e1;subst e2;obtain⟨rfl,rfl,hf,rfl,rfl,rfl,rfl⟩:=hq;exact⟨_,rfl,hf⟩
section
variable {G:Nat→Option Obj}
theorem jW.heapEq{P:Program}{f:FuncId}{args:List V}{h h':List AO}{K:V→List AO→Prop}(he:∀(β:Bt) (R:Nat→Prop) (w:World),HS G β R w h→HS G β R w h')(hl:h'.length=h.length)(hf:jW P G f args h' K):jW P G f args h K:=by
 intro β R w vs ha hh;refine(hf β R w vs ha (he β R w hh)).mono ?_;rintro e w' ⟨u,β2,R2,x,h3,q1,q2,q3,q4,q5,q6⟩;exact⟨u,β2,R2,x,h3,q1,q2,q3,q4,q5,fun i hi=>q6 i (by omega)⟩
theorem jW.ledger{D:Ld}{h rest:List AO}{q:Prop}(he:MC D h=some (q,rest))(hq:q){f:FuncId}{args:List V}{K:V→List AO→Prop}(hf:jW aB G f args (mL D rest) K):jW aB G f args h K:=by
 obtain⟨g,rfl,hg⟩:=aJF he hq;refine jW.heapEq (h':=mL D rest) (fun β R w hh=>?_) rfl hf
 have:=vD hh (id:=1) (ty:=31) (sz:=7) (n:=D.M.length) (f:=g) (f':=aO aG D.M) rfl hg
 exact this
theorem aIO(D:Ld):gG aB G 25 (UC D):=by
 intro args h p v h' hm hp;unfold UC at hm
 split at hm;rotate_left;· cases hm
 split at hm;rotate_left;· cases hm
 rename_i x _ _ _ q rest r a hl hx;obtain⟨rfl,rfl,rfl⟩:=gO hm;obtain⟨⟨hr,hq⟩,hF⟩:=hp;exact jW.ledger hl hq (jW.args (args':=[.c (.ptr 0 0),uK a]) (XY D a hF rest) (.cons (.refl _) (.cons (mT hx hr) .nil)))
end
def leI:V→List Int→Option Prop
 |.c (.p (.l 1 n f)),W=>some (kI aT 1 W n f)
 |.c (.p (.z (.slice none 0 0))),W=>some (W=[])
 |_,_=>none
theorem xQ{x:V}{W:List Int}{p:Prop}(h:leI x W=some p)(hp:p):iE x (aU aT 1 W):=by
 unfold leI at h;split at h
 ·injection h with h
  subst h;exact hp.le
 ·injection h with h
  subst h;subst hp;exact iE.p (lY.nil 1 _)
 ·cases h
noncomputable def LW(D:Ld)(S T:List Int)(out:List Pg)(D':Ld):kD
 |[.c (.ptr 0 0),.c (.p (.s ru)),.c (.p (.i .i64 ve)),x,y,.c (.p (.i .i64 se))],h=>match MC D h,OU x,leI y T with
  |some (q,rest),some (r,L),some s=>some (((r∧q)∧s)∧GS D (iR ru ve (cH L)) S∧((cH L).size≤1000000∧ru.size≤1000000∧eW .i64 ve∧L.length≤1000000∧(∀t∈S,eW .i64 t)∧S.length+T.length≤100000∧D.M.length≤100000)∧lA D ru ve L S T se=(aU aG 7 out,D'),aU aG 7 out,iT [0,1,2,3] [0] [1] (mL D rest) (pA D' 0))
  |_,_,_=>none
 |_,_=>none
noncomputable def LK(D:Ld)(S out:List Int):kD
 |[.c (.ptr 0 0),.c (.p (.s ru)),.c (.p (.i .i64 ve)),x],h=>match MC D h,OU x with
  |some (q,rest),some (r,L)=>some ((r∧q)∧GS D (iR ru ve (cH L)) S∧((cH L).size≤1000000∧ru.size≤1000000∧eW .i64 ve∧(∀t∈S,eW .i64 t)∧S.length≤1000000)∧nW D ru ve L S=aU aT 1 out,aU aT 1 out,iT [0,1,2,3] [0] [1] (mL D rest) (pA D 0))
  |_,_=>none
 |_,_=>none
def TP(U W:List Int):Mod
 |[x,y]=>match leI x U,leI y W with
  |some p,some q=>some ((p∧q)∧U.length≤1000000,bV (decide (U=W)))
  |_,_=>none
 |_=>none
section
variable {G:Nat→Option Obj}
theorem aDP(D:Ld)(S T:List Int)(out:List Pg)(D':Ld):gG aB G 17 (LW D S T out D'):=by
 intro args h p v h' hm hp;unfold LW at hm
 split at hm;rotate_left;· cases hm
 split at hm;rotate_left;· cases hm
 rename_i ru ve x y se _ _ _ q rest r L s hl hx hy;obtain⟨rfl,rfl,rfl⟩:=gO hm;obtain⟨⟨⟨hr,hq⟩,hs⟩,hS,hT,he⟩:=hp
 have:=RP (G:=G) D ru ve L S T se hS (fun _=>hT) (by have:=hT.2.2.2.2.2.1;omega) rest
 rw[he]at this;exact jW.ledger hl hq (jW.args (args':=[.c (.ptr 0 0),.c (.p (.s ru)),iV ve,aU aN 2 L,aU aT 1 T,iV se]) this (.cons (.refl _) (.cons (.refl _) (.cons (.refl _) (.cons (vX hx hr) (.cons (xQ hy hs) (.cons (.refl _) .nil)))))))
theorem aDC(D:Ld)(S out:List Int):gG aB G 16 (LK D S out):=by
 intro args h p v h' hm hp;unfold LK at hm
 split at hm;rotate_left;· cases hm
 split at hm;rotate_left;· cases hm
 rename_i ru ve x _ _ q rest r L hl hx;obtain⟨rfl,rfl,rfl⟩:=gO hm;obtain⟨⟨hr,hq⟩,hS,⟨t1,t2,t3,t4,t5⟩,he⟩:=hp
 have:=NC (G:=G) D ru ve L S hS (fun _=>⟨t1,yR _ _ _ t2 t3 t1,fun t ht=>yQ _ _ _ _ t2 t3 t1 (t4 t ht),t5⟩) rest
 rw[he]at this;exact jW.ledger hl hq (jW.args (args':=[.c (.ptr 0 0),.c (.p (.s ru)),iV ve,aU aN 2 L]) this (.cons (.refl _) (.cons (.refl _) (.cons (.refl _) (.cons (vX hx hr) .nil)))))
theorem aI8(U W:List Int):iW aB G 27 (TP U W):=by
 intro args p v hm hp h;unfold TP at hm
 split at hm;rotate_left;· cases hm
 split at hm;rotate_left;· cases hm
 rename_i x y _ _ p q hx hy;obtain⟨rfl,rfl⟩:=eY hm;obtain⟨⟨hA,hB⟩,hlen⟩:=hp;refine jW.args (args':=[aU aT 1 U,aU aT 1 W]) ?_ (.cons (xQ hx hA) (.cons (xQ hy hB) .nil))
 have:=TA (G:=G) [aU aT 1 U,aU aT 1 W] _ _ rfl ⟨⟨by rw[iS];exact dP _ _ _,by rw[iS];exact dP _ _ _⟩,by rw[iS];exact hlen⟩ h
 rw[iS,iS]at this;exact this
end
noncomputable def QN(D:Ld):Ext:=mH [(20,aE9),(25,UC D)]
noncomputable def aLW(D:Ld)(S T:List Int)(out:List Pg)(D':Ld):Ext:=mH [(17,aKR (LW D S T out D'))]
noncomputable def aKU(D:Ld)(S U:List Int):Ext:=mH [(16,LK D S U),(27,aOD (TP U [3,8]))]
theorem tL1(u:Unit):dF (QN CO) (dL 5 (dC aB Try.f19)) (oB Try.f19 []) (gW (fJ 79 [1,2]) (bK aB Try.f19))=Tr.rq True
 (.done .normal
 (bY 79 [(1,.c (.ptr 0 0)),(2,.c (.ptr 1 0))] [.cells 86 [.sl 2 7 0 0,.mp 3,.mp 4],.cells 31 [.p (.i .i64 0),.p (.s (aH #[104,111,116])),.p (.i .i64 1),.p (.z (bB none 0 0)),.p (.i .i64 5),.p (.i .i64 6),.p (.s (aH #[]))],.row 31 7 0 fun e o=>bQ [0,4,1,2,3] (C.p (aE aG CO.M e o)),.mapb (bJ aB 81) CO.gp,.mapl (bJ aB 79) 3 1 CO.gs none])):=by kernel_rfl
theorem tL2(D:Ld):dF (QN D) (dL 1 (bL 5 (dC aB Try.f19))) (bY 79 [(1,.c (.ptr 0 0)),(2,.c (.ptr 4 0))] (mL D [.cells 31 [.p (.i .i64 0),.p (.s ⟨#[104,111,116]⟩),.p (.i .i64 1),.p (.z (.slice none 0 0)),.p (.i .i64 5),.p (.i .i64 6),.p (.s ⟨#[]⟩)]])) (gW (fJ 79 [1,2,3]) (bK aB Try.f19))=Tr.rq
 ((True ∧
 D.M.length=D.M.length ∧
 D.M.length=D.M.length ∧
 (∀(e o:Nat),e<D.M.length→o<7→aO aG D.M e o=aO aG D.M e o)∧bJ aB 81=bJ aB 81∧D.gp=D.gp∧bJ aB 79=bJ aB 79∧D.gs=D.gs) ∧
 ((Pg.mk 0 (aH #[104,111,116]) 1 [] 5 6 (aH #[])).kd=0 →
 hP (Pg.mk 0 (aH #[104,111,116]) 1 [] 5 6 (aH #[]))=true→tY D (Pg.mk 0 (aH #[104,111,116]) 1 [] 5 6 (aH #[]))))
 (.done .normal
 (bY 79 [(1,.c (.ptr 0 0)),(2,.c (.ptr 1 0)),(3,.c (.p (.i .i64 (jL D (Pg.mk 0 (aH #[104,111,116]) 1 [] 5 6 (aH #[]))).fst)))] [.cells 86 [.sl 2 7 0 (jL D (Pg.mk 0 (aH #[104,111,116]) 1 [] 5 6 (aH #[]))).snd.M.length,.mp 3,.mp 4],.cells 31 [.p (.i .i64 0),.p (.s (aH #[104,111,116])),.p (.i .i64 1),.p (.z (bB none 0 0)),.p (.i .i64 5),.p (.i .i64 6),.p (.s (aH #[]))],.row 31 7 (jL D (Pg.mk 0 (aH #[104,111,116]) 1 [] 5 6 (aH #[]))).snd.M.length fun e o=>bQ [0,4,7,8,9] (C.p (aE aG (jL D (Pg.mk 0 (aH #[104,111,116]) 1 [] 5 6 (aH #[]))).snd.M e o)),.mapb (bJ aB 81) (jL D (Pg.mk 0 (aH #[104,111,116]) 1 [] 5 6 (aH #[]))).snd.gp,.mapl (bJ aB 79) 3 1 (jL D (Pg.mk 0 (aH #[104,111,116]) 1 [] 5 6 (aH #[]))).snd.gs none])):=by kernel_rfl
theorem tL3(D:Ld)(a:Int):dF (QN D) (dL 1 (bL 1 (bL 5 (dC aB Try.f19)))) (bY 79 [(1,.c (.ptr 0 0)),(2,.c (.ptr 4 0)),(3,iV a)] (mL D [.cells 31 [.p (.i .i64 0),.p (.s ⟨#[104,111,116]⟩),.p (.i .i64 1),.p (.z (.slice none 0 0)),.p (.i .i64 5),.p (.i .i64 6),.p (.s ⟨#[]⟩)]])) (gW (fJ 79 [1,2,3,4]) (bK aB Try.f19))=Tr.rq
 ((True ∧
 D.M.length=D.M.length ∧
 D.M.length=D.M.length ∧
 (∀(e o:Nat),e<D.M.length→o<7→aO aG D.M e o=aO aG D.M e o)∧bJ aB 81=bJ aB 81∧D.gp=D.gp∧bJ aB 79=bJ aB 79∧D.gs=D.gs) ∧
 ((Pg.mk 0 (aH #[104,111,116]) 1 [] 5 6 (aH #[])).kd=0 →
 hP (Pg.mk 0 (aH #[104,111,116]) 1 [] 5 6 (aH #[]))=true→tY D (Pg.mk 0 (aH #[104,111,116]) 1 [] 5 6 (aH #[]))))
 (.done .normal
 (bY 79 [(1,.c (.ptr 0 0)),(2,.c (.ptr 1 0)),(3,.c (.p (.i .i64 a))),(4,.c (.p (.i .i64 (jL D (Pg.mk 0 (aH #[104,111,116]) 1 [] 5 6 (aH #[]))).fst)))] [.cells 86 [.sl 2 7 0 (jL D (Pg.mk 0 (aH #[104,111,116]) 1 [] 5 6 (aH #[]))).snd.M.length,.mp 3,.mp 4],.cells 31 [.p (.i .i64 0),.p (.s (aH #[104,111,116])),.p (.i .i64 1),.p (.z (bB none 0 0)),.p (.i .i64 5),.p (.i .i64 6),.p (.s (aH #[]))],.row 31 7 (jL D (Pg.mk 0 (aH #[104,111,116]) 1 [] 5 6 (aH #[]))).snd.M.length fun e o=>bQ [0,4,7,8,9] (C.p (aE aG (jL D (Pg.mk 0 (aH #[104,111,116]) 1 [] 5 6 (aH #[]))).snd.M e o)),.mapb (bJ aB 81) (jL D (Pg.mk 0 (aH #[104,111,116]) 1 [] 5 6 (aH #[]))).snd.gp,.mapl (bJ aB 79) 3 1 (jL D (Pg.mk 0 (aH #[104,111,116]) 1 [] 5 6 (aH #[]))).snd.gs none])):=by kernel_rfl
theorem tL4(D D':Ld)(S T:List Int)(out:List Pg)(a b:Int):dF (aLW D S T out D') (dL 1 (bL 1 (bL 1 (bL 5 (dC aB Try.f19))))) (bY 79 [(1,.c (.ptr 0 0)),(2,.c (.ptr 4 0)),(3,iV a),(4,iV b)] (mL D [.cells 31 [.p (.i .i64 0),.p (.s ⟨#[104,111,116]⟩),.p (.i .i64 1),.p (.z (.slice none 0 0)),.p (.i .i64 5),.p (.i .i64 6),.p (.s ⟨#[]⟩)]])) (gW (fJ 79 [1,2,3,4,5]) (bK aB Try.f19))=Tr.rq
 ((GJ 5 1 3
 [V.c (C.ptr 0 0),V.c (C.p (PV.s (aH #[104,111,116]))),V.c (C.p (PV.i aC 1)),V.c (C.p (PV.z (bB none 0 0))),V.c (C.sl 5 1 0 3),
 V.c (C.p (PV.i aC 9))] ∧
 ∀(e o:Nat),e<3→o<1→BZ (bC C.top [C.p (PV.i aC 8),C.p (PV.i aC 8),C.p (PV.i aC 3)] (e*1+o))=true) ∧
 ((True ∧
 D.M.length=D.M.length ∧
 D.M.length=D.M.length ∧
 (∀(e o:Nat),e<D.M.length→o<7→aO aG D.M e o=aO aG D.M e o)∧bJ aB 81=bJ aB 81∧D.gp=D.gp∧bJ aB 79=bJ aB 79∧D.gs=D.gs) ∧
 kI aT 1 T 3 fun e o=>mZ (mI [C.p (PV.i aC 8),C.p (PV.i aC 8),C.p (PV.i aC 3)] 1 3 (e+0) o)) ∧
 GS D (iR (aH #[104,111,116]) 1 (cH [])) S ∧
 (2≤1000000∧3≤1000000∧eW aC 1∧0≤1000000∧(∀(t:Int),t∈S→eW aC t)∧S.length+T.length≤100000∧D.M.length≤100000) ∧
 lA D (aH #[104,111,116]) 1 [] S T 9=(aU aG 7 out,D'))
 (.done .normal
 (bY 79 [(1,.c (.ptr 0 0)),(2,.c (.ptr 1 0)),(3,.c (.p (.i .i64 a))),(4,.c (.p (.i .i64 b))),(5,.c (.p (.l 7 out.length (aE aG out))))] [.cells 86 [.sl 2 7 0 D'.M.length,.mp 3,.mp 4],.cells 31 [.p (.i .i64 0),.p (.s (aH #[104,111,116])),.p (.i .i64 1),.p (.z (bB none 0 0)),.p (.i .i64 5),.p (.i .i64 6),.p (.s (aH #[]))],.row 31 7 D'.M.length fun e o=>bQ [0,4,8,9,10] (C.p (aE aG D'.M e o)),.mapb (bJ aB 81) D'.gp,.mapl (bJ aB 79) 3 1 D'.gs none])):=by kernel_rfl
theorem tL5(D:Ld)(out:List Pg)(a b:Int):dF (QN D) (dL 1 (bL 1 (bL 1 (bL 1 (bL 5 (dC aB Try.f19)))))) (bY 79 [(1,.c (.ptr 0 0)),(2,.c (.ptr 4 0)),(3,iV a),(4,iV b),(5,aU aG 7 out)] (mL D [.cells 31 [.p (.i .i64 0),.p (.s ⟨#[104,111,116]⟩),.p (.i .i64 1),.p (.z (.slice none 0 0)),.p (.i .i64 5),.p (.i .i64 6),.p (.s ⟨#[]⟩)]])) (gW (fJ 79 [1,3,4,5,6]) (bK aB Try.f19))=Tr.rq
 ((True ∧
 D.M.length=D.M.length ∧
 D.M.length=D.M.length ∧
 (∀(e o:Nat),e<D.M.length→o<7→aO aG D.M e o=aO aG D.M e o)∧bJ aB 81=bJ aB 81∧D.gp=D.gp∧bJ aB 79=bJ aB 79∧D.gs=D.gs) ∧
 ((Pg.mk 0 (aH #[104,111,116]) 1 [] 5 6 (aH #[])).kd=0 →
 hP (Pg.mk 0 (aH #[104,111,116]) 1 [] 5 6 (aH #[]))=true→tY D (Pg.mk 0 (aH #[104,111,116]) 1 [] 5 6 (aH #[]))))
 (.done .normal
 (bY 79 [(1,.c (.ptr 0 0)),(3,.c (.p (.i .i64 a))),(4,.c (.p (.i .i64 b))),(5,.c (.p (.l 7 out.length (aE aG out)))),(6,.c (.p (.i .i64 (jL D (Pg.mk 0 (aH #[104,111,116]) 1 [] 5 6 (aH #[]))).fst)))] [.cells 86 [.sl 1 7 0 (jL D (Pg.mk 0 (aH #[104,111,116]) 1 [] 5 6 (aH #[]))).snd.M.length,.mp 2,.mp 3],.row 31 7 (jL D (Pg.mk 0 (aH #[104,111,116]) 1 [] 5 6 (aH #[]))).snd.M.length fun e o=>bQ [0,7,8,9] (C.p (aE aG (jL D (Pg.mk 0 (aH #[104,111,116]) 1 [] 5 6 (aH #[]))).snd.M e o)),.mapb (bJ aB 81) (jL D (Pg.mk 0 (aH #[104,111,116]) 1 [] 5 6 (aH #[]))).snd.gp,.mapl (bJ aB 79) 3 1 (jL D (Pg.mk 0 (aH #[104,111,116]) 1 [] 5 6 (aH #[]))).snd.gs none])):=by kernel_rfl
theorem tL6(D:Ld)(S U:List Int)(out:List Pg)(a b c:Int):dF (aKU D S U) (bL 9 (dC aB Try.f19)) (bY 79 [(1,.c (.ptr 0 0)),(3,iV a),(4,iV b),(5,aU aG 7 out),(6,iV c)] (mL D [])) (gW [] (bK aB Try.f19))=bT (a==0)
 (bT (b==10)
 (bT (c==20)
 (bT ((↑out.length:Int)==3)
 (.rq (dR 0≤dR 0∧0<(↑out.length:Int))
 (bT ((out.getD 0 default).kd==2)
 (.rq (dR 0≤dR 0∧0<(↑out.length:Int))
 (bT ((out.getD 0 default).st==3)
 (.rq (dR 0≤dR 1∧1<(↑out.length:Int))
 (bT ((out.getD 1 default).kd==1)
 (.rq (dR 0≤dR 1∧1<(↑out.length:Int))
 (bT ((out.getD 1 default).st==5)
 (.rq (dR 0≤dR 2∧2<(↑out.length:Int))
 (bT ((out.getD 2 default).st==8)
 (.rq
 ((True ∧
 D.M.length=D.M.length ∧
 D.M.length=D.M.length ∧
 (∀(e o:Nat),e<D.M.length→o<7→aO aG D.M e o=aO aG D.M e o) ∧
 bJ aB 81=bJ aB 81∧D.gp=D.gp∧bJ aB 79=bJ aB 79∧D.gs=D.gs) ∧
 GS D (iR (aH #[104,111,116]) 1 (cH [])) S ∧
 (2≤1000000∧3≤1000000∧eW aC 1∧(∀(t:Int),t∈S→eW aC t)∧S.length≤1000000) ∧
 nW D (aH #[104,111,116]) 1 [] S=aU aT 1 U)
 (.rq
 ((GJ 9 1 2 [V.c (C.p (PV.l 1 U.length (aE aT U))),V.c (C.sl 9 1 0 2)] ∧
 ∀(e o:Nat),e<2→o<1→BZ (bC C.top [C.p (PV.i aC 3),C.p (PV.i aC 8)] (e*1+o))=true) ∧
 (kI aT 1 U U.length (aE aT U)∧kI aT 1 [3,8] 2 fun e o=>mZ (mI [C.p (PV.i aC 3),C.p (PV.i aC 8)] 1 2 (e+0) o)) ∧
 U.length≤1000000)
 (.done .ret (St.mk [V.c (C.p (PV.b (decide (U=[3,8]))))] []))))
 (.done .ret (St.mk [V.c (C.p (PV.b false))] []))))
 (.done .ret (St.mk [V.c (C.p (PV.b false))] []))))
 (.done .ret (St.mk [V.c (C.p (PV.b false))] []))))
 (.done .ret (St.mk [V.c (C.p (PV.b false))] []))))
 (.done .ret (St.mk [V.c (C.p (PV.b false))] []))))
 (.done .ret (St.mk [V.c (C.p (PV.b false))] [])))
 (.done .ret (St.mk [V.c (C.p (PV.b false))] [])))
 (.done .ret (St.mk [V.c (C.p (PV.b false))] [])))
 (.done .ret (St.mk [V.c (C.p (PV.b false))] [])):=by kernel_rfl
end Go.AE
namespace Go.AE
open _root_.ByteArray renaming mk→aH
open _root_.Int renaming ofNat→dR,toNat_natCast→dW
open IntKind renaming i64→aC
open _root_.List renaming all_eq_true→fN,getD_eq_getElem?_getD→aD,getElem?_eq_getElem→aK,getElem_mem→jQ,length_append→aL,mem_append→dK,mem_cons→fC,mem_cons_of_mem→cN,mem_cons_self→cZ,mem_singleton→eO,take_length→fF
open _root_.Nat renaming le_refl→aW,not_lt_zero→iH,zero_le→bX
open _root_.Go.Proofs.Try renaming prog→aB
open Value renaming agg→iK,int→cT,slice→bB,string→cU
open Go.Proofs Go.Proofs.Ytfjihbmehhccoaa Go.RowKit
theorem qO:∀ {A B:List Int},A.Pairwise (· < ·)→B.Pairwise (· < ·)→(∀t,t∈A↔t∈B)→A=B
 |[],[],_,_,_=>rfl
 |[],b::B,_,_,h=>absurd ((h b).2 (cZ ..)) (by simp)
 |a::A,[],_,_,h=>absurd ((h a).1 (cZ ..)) (by simp)
 |a::A,b::B,ha,hb,h=>by
  rw[List.pairwise_cons]at ha hb
  have e:a=b:=by
   have h1:=(h a).1 (cZ ..)
   have h2:=(h b).2 (cZ ..)
   rcases fC.1 h1 with h1|h1
   ·exact h1
   ·rcases fC.1 h2 with h2|h2
    ·exact h2.symm
    ·have:=ha.1 b h2
     have:=hb.1 a h1
     omega
  subst e;rw[qO ha.2 hb.2 fun t=>⟨fun ht=>?_,fun ht=>?_⟩]
  ·rcases fC.1 ((h t).1 (cN _ ht)) with h1|h1
   ·subst h1;exact absurd (ha.1 t ht) (by omega)
   ·exact h1
  ·rcases fC.1 ((h t).2 (cN _ ht)) with h1|h1
   ·subst h1;exact absurd (hb.1 t ht) (by omega)
   ·exact h1
theorem DZ(L:List Int):(iM L).Pairwise (· ≤ ·):=by
 have:=List.pairwise_mergeSort (le:=fun x y:Int=>decide (x≤y)) (fun a b c h1 h2=>by simp at *;omega) (fun a b=>by simp;omega) L
 unfold iM
 exact this.imp fun h=>by simpa using h
theorem EY{L:List Int}(h:L.Pairwise (· < ·)):L.Nodup:=h.imp fun h=>by omega
theorem aCC{L:List Int}(h:L.Nodup):(iM L).Pairwise (· < ·):=by
 have h1:=DZ L
 have h2:(iM L).Nodup:=(List.mergeSort_perm L _).nodup_iff.2 h
 exact h1.imp₂ (fun a b h3 (h4:a≠b)=>by omega) h2
theorem aFQ{L:List Int}(hs:L.Pairwise (· ≤ ·)):∀m,m≤L.length→(Go.Lib.compactUpTo L.toArray m).Pairwise (· < ·)∧(∀t∈Go.Lib.compactUpTo L.toArray m,∃j,j<m∧t=L.getD j default)∧∀j,j<m→L.getD j default∈Go.Lib.compactUpTo L.toArray m
 |0,_=>⟨by simp[Go.Lib.compactUpTo],by simp[Go.Lib.compactUpTo],fun j hj=>by omega⟩
 |m+1,hm=>by
  obtain⟨h1,h2,h3⟩:=aFQ hs m (by omega)
  have g:∀j,j<L.length→L.toArray[j]! = L.getD j default:=fun j hj=>by simp[hj]
  have mono:∀i j,i≤j→j<L.length→L.getD i default≤L.getD j default:=fun i j hij hj=>by
   by_cases e:i=j
   ·subst e;exact Int.le_refl _
   ·have:=(List.pairwise_iff_getElem.1 hs) i j (by omega) hj (by omega)
    simpa[show i<L.length by omega,hj] using this
  rw[Go.Lib.compactUpTo_succ]
  by_cases hk:Go.Lib.keeps L.toArray m=true
  ·rw[if_pos hk]
   have hk':m=0∨L.getD m default≠L.getD (m-1) default:=by
    unfold Go.Lib.keeps at hk;rw[decide_eq_true_eq,g m (by omega)]at hk
    rcases hk with h|h
    ·exact .inl h
    ·rw[g (m-1) (by omega)]at h;exact .inr h
   rw[g m (by omega)];refine⟨List.pairwise_append.2 ⟨h1,List.pairwise_singleton _ _,fun a ha b hb=>?_⟩,fun t ht=>?_,fun j hj=>?_⟩
   ·obtain rfl:=eO.1 hb
    obtain⟨j,hj,rfl⟩:=h2 a ha
    rcases hk' with h|h
    ·omega
    ·have q1:=mono j (m-1) (by omega) (by omega)
     have q2:=mono (m-1) m (by omega) (by omega)
     omega
   ·rcases dK.1 ht with h|h
    ·obtain⟨j,q1,q2⟩:=h2 t h
     exact⟨j,by omega,q2⟩
    ·exact⟨m,by omega,eO.1 h⟩
   ·by_cases e:j=m
    ·subst e;simp
    ·exact List.mem_append_left _ (h3 j (by omega))
  ·rw[if_neg hk,List.append_nil]
   refine⟨h1,fun t ht=>?_,fun j hj=>?_⟩
   ·obtain⟨j,q1,q2⟩:=h2 t ht
    exact⟨j,by omega,q2⟩
   ·by_cases e:j=m
    ·subst e
     have:¬(j=0∨L.toArray[j]! ≠ L.toArray[j-1]!):=by
      intro h;exact hk (by unfold Go.Lib.keeps;exact decide_eq_true h)
     have e0:j≠0:=fun e=>this (.inl e)
     have e1:L.toArray[j]! = L.toArray[j-1]! := Classical.byContradiction fun h=>this (.inr h)
     rw[g j (by omega),g (j-1) (by omega)]at e1;rw[e1];exact h3 (j-1) (by omega)
    ·exact h3 j (by omega)
theorem aFR{L:List Int}(hs:L.Pairwise (· ≤ ·)):(kU L).Pairwise (· < ·):=(aFQ hs L.length (aW _)).1
theorem aB2{L:List Int}(hs:L.Pairwise (· ≤ ·))(t:Int):t∈kU L↔t∈L:=by
 obtain⟨_,h2,h3⟩:=aFQ hs L.length (aW _);refine⟨JD,fun h=>?_⟩;obtain⟨j,hj,rfl⟩:=List.getElem_of_mem h
 have:=h3 j hj
 show L[j]∈Go.Lib.compactUpTo L.toArray L.length
 simpa[hj] using this
theorem qT(L:List Int):(kU (iM L)).Pairwise (· < ·):=aFR (DZ L)
theorem pB(L:List Int)(t:Int):t∈kU (iM L)↔t∈L:=(aB2 (DZ L) t).trans AL
structure Vw (ru:ByteArray) (ve:Int) (L:List (ByteArray×ByteArray)) (D:Ld) (S:List Int) (pd:Int→Option Bool):Prop where
 st:GS D (iR ru ve (cH L)) S
 gp:∀t,D.gp (lC ru ve (cH L) t)=pd t
 dom:∀t,t∈S↔(pd t).isSome=true
 nd:S.Nodup
def yB(pd:Int→Option Bool)(t:Int)(x:Bool):Int→Option Bool:=fun u=>if u=t then some x else pd u
theorem aEB{ru tx:ByteArray}{ve t u:Int}:lC ru ve tx t=lC ru ve tx u↔t=u:=by
 unfold lC;constructor
 ·intro h;simpa using h
 ·rintro rfl;rfl
theorem aBZ(ru:ByteArray)(ve:Int)(L:List (ByteArray×ByteArray)):Vw ru ve L CO [] fun _=>none:=
 ⟨⟨rfl,fun e o he=>absurd he (iH _)⟩,fun _=>rfl,fun t=>by simp,List.nodup_nil⟩
variable {ru:ByteArray} {ve:Int} {L:List (ByteArray×ByteArray)} {D:Ld} {S:List Int} {pd:Int→Option Bool}
theorem Vw.add(hv:Vw ru ve L D S pd)(kd st se:Int)(to:ByteArray):∃S',Vw ru ve L (gM D ⟨kd,ru,ve,L,st,se,to⟩) S' (yB pd st (kd != 1))∧S'.length≤S.length+1∧∀t∈S',t∈S∨t=st:=by
 have hgp:∀t,(gM D ⟨kd,ru,ve,L,st,se,to⟩).gp (lC ru ve (cH L) t)=yB pd st (kd != 1) t:=fun t=>by
  show uS D.gp (lC ru ve (cH L) st) (kd != 1) (lC ru ve (cH L) t)=_
  unfold uS yB
  by_cases e:t=st
  ·subst e;simp
  ·rw[if_neg (fun h=>e (aEB.1 h)),if_neg e,hv.gp]
 cases hs:(D.gp (lC ru ve (cH L) st)).isSome with
 |true=>
  refine⟨S,⟨?_,hgp,fun t=>?_,hv.nd⟩,by omega,fun t ht=>.inl ht⟩
  ·have e:(gM D ⟨kd,ru,ve,L,st,se,to⟩).gs=D.gs:=by unfold gM;dsimp only;rw[hs]
   unfold GS;rw[e];exact hv.st
  ·rw[hv.dom]
   unfold yB
   by_cases e:t=st
   ·subst e;rw[if_pos rfl];rw[hv.gp]at hs;simp[hs]
   ·rw[if_neg e]
 |false=>
  refine⟨S++[st],⟨?_,hgp,fun t=>?_,?_⟩,by simp,fun t ht=>by simpa using ht⟩
  ·have e:(gM D ⟨kd,ru,ve,L,st,se,to⟩).gs=uH D.gs (iR ru ve (cH L)) st:=by unfold gM;dsimp only;rw[hs]
   obtain⟨h1,h2⟩:=hv.st;unfold GS;rw[e];unfold uH;rw[rU];refine⟨by simp[h1],fun e o he ho=>?_⟩
   obtain rfl:o=0:=by omega
   dsimp only;rw[h1]
   by_cases he2:e<S.length
   ·rw[if_pos he2,h2 e 0 he2 (by omega)]
    unfold aE;simp[List.getElem?_append_left he2]
   ·have:e=S.length:=by simp at he;omega
    subst this;rw[if_neg (Nat.lt_irrefl _)];unfold aE;simp[bC,mZ,aT]
  ·unfold yB
   rw[dK,hv.dom]
   by_cases e:t=st
   ·subst e;simp
   ·rw[if_neg e];simp[e]
  ·refine List.nodup_append.2 ⟨hv.nd,by simp,fun a ha b hb=>?_⟩
   obtain rfl:=eO.1 hb;rintro rfl
   have:=(hv.dom a).1 ha
   rw[←hv.gp,hs]at this;cases this
def nX(pd:Int→Option Bool)(T:List Int)(t:Int):Bool:=(pd t).getD false != decide (t∈T)
def pdA(pd:Int→Option Bool)(T A:List Int):Int→Option Bool:=fun t=>if t∈A∧nX pd T t=true then some (decide (t∈T)) else pd t
def pU(ru:ByteArray)(ve:Int)(L:List (ByteArray×ByteArray))(se:Int)(T:List Int)(t:Int):Pg:=⟨match decide (t∈T) with
 |true=>2
 |false=>1,ru,ve,L,t,se,⟨#[]⟩⟩
theorem wI(T:List Int)(se:Int):∀(A:List Int) (D:Ld) (out:List Pg) (S:List Int) (pd:Int→Option Bool),Vw ru ve L D S pd→A.Nodup →
  ∃S',Vw ru ve L (A.foldl (lM T ru ve L se) (D,out)).1 S' (pdA pd T A)∧(A.foldl (lM T ru ve L se) (D,out)).2=out++(A.filter (nX pd T)).map (pU ru ve L se T)∧S'.length≤S.length+A.length∧(∀t∈S',t∈S∨t∈A)∧(A.foldl (lM T ru ve L se) (D,out)).1.M.length≤D.M.length+A.length
 |[],D,out,S,pd,hv,_=>⟨S,by
    have e:pdA pd T []=pd:=by funext t;unfold pdA;simp
    rw[e];exact hv,by simp,by simp,fun t ht=>.inl ht,by simp⟩
 |x::A,D,out,S,pd,hv,hA=>by
  rw[List.nodup_cons]at hA;rw[List.foldl_cons];cases hf:nX pd T x with
  |false=>
   have e1:lM T ru ve L se (D,out) x=(D,out):=by
    unfold lM;dsimp only;rw[hv.gp];unfold nX at hf;revert hf
    cases (pd x).getD false<;>cases decide (x∈T)<;>intro hf<;>first|rfl|cases hf
   rw[e1];obtain⟨S',h1,h2,h3,h4,h5⟩:=wI T se A D out S pd hv hA.2;refine⟨S',?_,?_,by simp;omega,fun t ht=>(h4 t ht).imp id (cN _),by simp;omega⟩
   ·have e:pdA pd T (x::A)=pdA pd T A:=by
      funext t;unfold pdA
      by_cases e:t=x
      ·subst e;simp[hf]
      ·simp[e]
    rw[e];exact h1
   ·rw[h2,List.filter_cons,hf];rfl
  |true=>
   have e1:lM T ru ve L se (D,out) x=(gM D (pU ru ve L se T x),out++[pU ru ve L se T x]):=by
    unfold lM pU;dsimp only;rw[hv.gp];unfold nX at hf;revert hf
    cases (pd x).getD false<;>cases decide (x∈T)<;>intro hf<;>first|rfl|cases hf
   rw[e1];obtain⟨S1,k1,k2,k3⟩:=hv.add (pU ru ve L se T x).kd x se ⟨#[]⟩
   have ek:((pU ru ve L se T x).kd != 1)=decide (x∈T):=by unfold pU;dsimp only;cases decide (x∈T)<;>rfl
   rw[ek]at k1
   have hpd:∀t,t≠x→yB pd x (decide (x∈T)) t=pd t:=fun t ht=>by unfold yB;rw[if_neg ht]
   have hfl:∀t,t≠x→nX (yB pd x (decide (x∈T))) T t=nX pd T t:=fun t ht=>by unfold nX;rw[hpd t ht]
   obtain⟨S',h1,h2,h3,h4,h5⟩:=wI T se A (gM D (pU ru ve L se T x)) (out++[pU ru ve L se T x]) S1 _ k1 hA.2
   have hM:(gM D (pU ru ve L se T x)).M.length=D.M.length+1:=by unfold gM;simp
   refine⟨S',?_,?_,by simp;omega,fun t ht=>?_,by simp;omega⟩
   ·have e:pdA pd T (x::A)=pdA (yB pd x (decide (x∈T))) T A:=by
      funext t;unfold pdA
      by_cases e:t=x
      ·subst e
       rw[if_pos ⟨cZ ..,hf⟩,if_neg (fun h=>hA.1 h.1)];unfold yB;rw[if_pos rfl]
      ·rw[hfl t e,hpd t e]
       simp[e]
    rw[e];exact h1
   ·rw[h2,List.filter_cons,hf,List.filter_congr (fun t ht=>hfl t (fun e=>hA.1 (e▸ht)))]
    simp
   ·rcases h4 t ht with h|h
    ·rcases k3 t h with h|h
     ·exact .inl h
     ·exact .inr (by rw[h];exact cZ ..)
    ·exact .inr (cN _ h)
def aG2(ru:ByteArray)(ve:Int)(L:List (ByteArray×ByteArray))(se:Int)(pd:Int→Option Bool)(S T:List Int):List Pg:=((kU (iM (S++T))).filter (nX pd T)).map (pU ru ve L se T)
theorem aAJ(hv:Vw ru ve L D S pd)(T:List Int)(se:Int)(h1:hP ⟨0,ru,ve,L,0,se,⟨#[]⟩⟩=true)(h2:∀t∈T,gU t=true):∃D' S' pd',lA D ru ve L S T se=(aU aG 7 (aG2 ru ve L se pd S T),D')∧Vw ru ve L D' S' pd'∧(∀t,(pd' t).getD false=decide (t∈T))∧(∀t,(pd t).isSome=true→(pd' t).isSome=true)∧S'.length≤2*(S.length+T.length)∧(∀t∈S',t∈S∨t∈T)∧D'.M.length≤D.M.length+S.length+T.length:=by
 have hA:=pB (S++T)
 have hlen:(kU (iM (S++T))).length≤S.length+T.length:=by
  have:=nY (iM (S++T))
  rw[kP,aL]at this;exact this
 obtain⟨S',k1,k2,k3,k4,k5⟩:=wI T se (kU (iM (S++T))) D [] S pd hv (EY (qT _));refine⟨_,S',_,?_,k1,fun t=>?_,fun t ht=>?_,by omega,fun t ht=>?_,by omega⟩
 ·unfold lA
  have e:T.all gU=true:=fN.2 h2
  rw[h1,e];dsimp only;unfold nZ;rw[k2];rfl
 ·unfold pdA
  by_cases e:t∈S++T
  ·by_cases f:nX pd T t=true
   ·rw[if_pos ⟨(hA t).2 e,f⟩];rfl
   ·rw[if_neg (fun h=>f h.2)]
    unfold nX at f;simpa using f
  ·rw[if_neg (fun h=>e ((hA t).1 h.1))]
   have e1:t ∉ S:=fun h=>e (List.mem_append_left _ h)
   have e2:t ∉ T:=fun h=>e (List.mem_append_right _ h)
   rw[hv.dom]at e1;cases hq:pd t with
   |none=>simp[e2]
   |some x=>rw[hq]at e1;exact absurd rfl e1
 ·unfold pdA
  split
  ·rfl
  ·exact ht
 ·rcases k4 t ht with h|h
  ·exact .inl h
  ·exact dK.1 ((hA t).1 h)
theorem JG(hv:Vw ru ve L D S pd)(h1:hP ⟨0,ru,ve,L,0,0,⟨#[]⟩⟩=true){B:List Int}(hB:B.Pairwise (· < ·))(hm:∀t,t∈B↔(pd t).getD false=true):nW D ru ve L S=aU aT 1 B:=by
 unfold nW;rw[h1];dsimp only;congr 1
 have e:sX D.gp ru ve (cH L) S=S.filter fun t=>(pd t).getD false:=by
  unfold sX
  exact List.filter_congr fun t _=>by rw[hv.gp]
 rw[e]
 refine qO (aCC (hv.nd.sublist List.filter_sublist)) hB fun t=>?_
 rw[AL,List.mem_filter,hm,hv.dom];cases pd t<;>simp
theorem aAE(hv:Vw ru ve L D S pd)(st se:Int)(to:ByteArray)(h1:hP ⟨0,ru,ve,L,st,se,to⟩=true)(h2:pd st=none):jL D ⟨0,ru,ve,L,st,se,to⟩=(0,gM D ⟨0,ru,ve,L,st,se,to⟩):=by
 unfold jL;dsimp only;rw[h1,hv.gp,h2];rfl
theorem FF(hv:Vw ru ve L D S pd)(st se:Int)(to:ByteArray)(h1:hP ⟨0,ru,ve,L,st,se,to⟩=true)(x:Bool)(h2:pd st=some x):jL D ⟨0,ru,ve,L,st,se,to⟩=(cond x 10 20,D):=by
 unfold jL;dsimp only;rw[h1,hv.gp,h2];cases x<;>rfl
end Go.AE
namespace Go.AE
open _root_.ByteArray renaming mk→aH
open _root_.Int renaming ofNat→dR,toNat_natCast→dW
open IntKind renaming i64→aC
open _root_.List renaming all_eq_true→fN,getD_eq_getElem?_getD→aD,getElem?_eq_getElem→aK,getElem_mem→jQ,length_append→aL,mem_append→dK,mem_cons→fC,mem_cons_of_mem→cN,mem_cons_self→cZ,mem_singleton→eO,take_length→fF
open _root_.Nat renaming le_refl→aW,not_lt_zero→iH,zero_le→bX
open _root_.Go.Proofs.Try renaming prog→aB
open Value renaming agg→iK,int→cT,slice→bB,string→cU
open Go.Proofs Go.Proofs.Ytfjihbmehhccoaa Go.RowKit
def FE:Mod
 |[]=>some (True,bV true)
 |_=>none
theorem aF2:jK ⟨#[104,111,116]⟩=true:=by decide
theorem aJO:mK []=true:=by decide
theorem UT{kd st se:Int}(h1:gU st=true)(h2:gU se=true):hP ⟨kd,⟨#[104,111,116]⟩,1,[],st,se,⟨#[]⟩⟩=true:=by
 unfold hP;rw[aF2,aJO,h1,h2];rfl
theorem aF1:(⟨#[104,111,116]⟩:ByteArray).size≤1000000:=by decide
theorem US:(cH []).size≤1000000:=by decide
theorem FR{D:Ld}{S:List Int}{pd:Int→Option Bool}(hv:Vw ⟨#[104,111,116]⟩ 1 [] D S pd)(hS:S.length≤1000)(hM:D.M.length≤1000)(kd st se:Int)(to:ByteArray)(hs:eW .i64 st):tY D ⟨kd,⟨#[104,111,116]⟩,1,[],st,se,to⟩:=by
 have h1:eW .i64 1:=by unfold eW;omega
 refine⟨yQ _ _ _ _ aF1 h1 US hs,yR _ _ _ aF1 h1 US,US,bX _,by omega,?_⟩
 have:=hv.st.1
 show (D.gs (iR ⟨#[104,111,116]⟩ 1 (cH []))).1≤_
 omega
section
variable {G:Nat→Option Obj}
theorem rL(D:Ld):bG aB G (QN D):=eM (by simp;exact⟨aDH,aIO D⟩)
theorem RB(D:Ld)(S T:List Int)(out:List Pg)(D':Ld):bG aB G (aLW D S T out D'):=eM (by simp;exact aF8 (aDP D S T out D'))
theorem PI(D:Ld)(S U:List Int):bG aB G (aKU D S U):=eM (by simp;exact⟨aDC D S U,XW (aI8 U [3,8])⟩)
theorem aUC(a b c:Int):kI aT 1 [a,b,c] 3 fun e o=>mZ (bC C.top [C.p (.i .i64 a),C.p (.i .i64 b),C.p (.i .i64 c)] ((e+0)*1+o)):=⟨rfl,fun e o he ho=>by
 obtain rfl:o=0:=by omega
 have:e=0∨e=1∨e=2:=by omega
 rcases this with rfl|rfl|rfl<;>rfl⟩
theorem aUD(a b:Int):kI aT 1 [a,b] 2 fun e o=>mZ (bC C.top [C.p (.i .i64 a),C.p (.i .i64 b)] ((e+0)*1+o)):=⟨rfl,fun e o he ho=>by
 obtain rfl:o=0:=by omega
 have:e=0∨e=1:=by omega
 rcases this with rfl|rfl<;>rfl⟩
set_option maxRecDepth 100000 in
theorem aA4:iW aB G 19 FE:=by
 intro args p v hm hp h;unfold FE at hm
 split at hm;rotate_left;· cases hm
 obtain⟨rfl,rfl⟩:=eY hm
 have i1:eW .i64 1:=by unfold eW;omega
 have i5:eW .i64 5:=by unfold eW;omega
 have o56:hP ⟨0,⟨#[104,111,116]⟩,1,[],5,6,⟨#[]⟩⟩=true:=UT rfl rfl
 have v0:=aBZ ⟨#[104,111,116]⟩ 1 []
 have e1:=aAE v0 5 6 ⟨#[]⟩ o56 rfl
 obtain⟨S1,v1,l1,m1⟩:=v0.add 0 5 6 ⟨#[]⟩
 have n1:(gM CO ⟨0,⟨#[104,111,116]⟩,1,[],5,6,⟨#[]⟩⟩).M.length=1:=rfl
 have f0:=FR v0 (by decide) (by decide) 0 5 6 ⟨#[]⟩ i5
 generalize gM CO ⟨0,⟨#[104,111,116]⟩,1,[],5,6,⟨#[]⟩⟩=D1 at e1 v1 n1
 have hp1:∀t,yB (fun _=>none) 5 ((0:Int) != 1) t=if t=5 then some true else none:=fun t=>rfl
 generalize yB (fun _=>none) 5 ((0:Int) != 1)=pd1 at v1 hp1
 have e2:=FF v1 5 6 ⟨#[]⟩ o56 true (by rw[hp1];rfl)
 have f1:=FR v1 (by simp at l1;omega) (by omega) 0 5 6 ⟨#[]⟩ i5
 obtain⟨D2,S2,pd2,e3,v2,g2,q2,l2,m2,n2⟩:=aAJ v1 [8,8,3] 9 (UT rfl rfl) (by decide)
 have d1:∀t,t∈S1↔t=5:=fun t=>by
  rw[v1.dom,hp1]
  by_cases e:t=5<;>simp[e]
 have eo:aG2 ⟨#[104,111,116]⟩ 1 [] 9 pd1 S1 [8,8,3]=[⟨2,⟨#[104,111,116]⟩,1,[],3,9,⟨#[]⟩⟩,⟨1,⟨#[104,111,116]⟩,1,[],5,9,⟨#[]⟩⟩,⟨2,⟨#[104,111,116]⟩,1,[],8,9,⟨#[]⟩⟩]:=by
  have:kU (iM (S1++[8,8,3]))=[3,5,8]:=qO (qT _) (by decide) fun t=>by
    rw[pB,dK,d1];simp;omega
  unfold aG2;rw[this]
  have k3:nX pd1 [8,8,3] 3=true:=by unfold nX;rw[hp1];rfl
  have k5:nX pd1 [8,8,3] 5=true:=by unfold nX;rw[hp1];rfl
  have k8:nX pd1 [8,8,3] 8=true:=by unfold nX;rw[hp1];rfl
  simp only[List.filter_cons,k3,k5,k8,List.filter_nil,if_true,List.map_cons,List.map_nil];rfl
 rw[eo]at e3
 obtain⟨O,hO⟩:∃O,O=([⟨2,⟨#[104,111,116]⟩,1,[],3,9,⟨#[]⟩⟩,⟨1,⟨#[104,111,116]⟩,1,[],5,9,⟨#[]⟩⟩,⟨2,⟨#[104,111,116]⟩,1,[],8,9,⟨#[]⟩⟩]:List Pg):=⟨_,rfl⟩
 rw[←hO]at e3
 have p25:pd2 5=some false:=by
  have h1:=q2 5 (by rw[hp1];rfl)
  have h2:=g2 5
  revert h1 h2;cases pd2 5 with
  |none=>intro h1;cases h1
  |some x=>intro _ h2;cases x with
   |true=>exact absurd h2 (by decide)
   |false=>rfl
 have e4:=FF v2 5 6 ⟨#[]⟩ o56 false p25
 simp at l1
 have l2':S2.length≤8:=by simp at l2;omega
 have n2':D2.M.length≤5:=by simp at n2;omega
 have f2:=FR v2 (by omega) (by omega) 0 5 6 ⟨#[]⟩ i5
 have e5:nW D2 ⟨#[104,111,116]⟩ 1 [] S2=aU aT 1 [3,8]:=JG v2 (UT rfl rfl) (by decide) fun t=>by
   rw[g2];simp;omega
 have r1:∀t∈S1,eW .i64 t:=fun t ht=>by rw[(d1 t).1 ht];exact i5
 have r2:∀t∈S2,eW .i64 t:=fun t ht=>by
  rcases m2 t ht with h|h
  ·exact r1 t h
  ·simp at h
   unfold eW;omega
 refine qN Try.func19 (by kernel_rfl) rfl ?_ h
 refine eG.evG (rL CO) 5 (tL1 ()) ?_;simp only[bA,aP,cC];refine⟨trivial,⟨?_⟩⟩
 refine eG.pre ((gY [0,2,3,4,1] (fJ 79 [1,2]) (by kernel_rfl) _).trans (aI (by kernel_rfl))) (eG.evG (rL CO) 1 (tL2 CO) ?_)
 simp only[bA,aP,cC];refine⟨⟨⟨trivial,trivial,trivial,fun _ _ _ _=>trivial,trivial,trivial,trivial,trivial⟩,fun _ _=>f0⟩,⟨?_⟩⟩;rw[e1]
 refine eG.pre ((gY [0,2,3,4,1] (fJ 79 [1,2,3]) (by kernel_rfl) _).trans (aI (by kernel_rfl))) (eG.evG (rL D1) 1 (tL3 D1 0) ?_)
 simp only[bA,aP,cC];refine⟨⟨⟨trivial,trivial,trivial,fun _ _ _ _=>trivial,trivial,trivial,trivial,trivial⟩,fun _ _=>f1⟩,⟨?_⟩⟩;rw[e2]
 refine eG.pre ((gY [0,2,3,4,1] (fJ 79 [1,2,3,4]) (by kernel_rfl) _).trans (aI (by kernel_rfl))) (eG.evG (RB D1 S1 [8,8,3] O D2) 1 (tL4 D1 D2 S1 [8,8,3] O 0 10) ?_)
 simp only[bA,aP,cC];refine⟨⟨⟨⟨trivial,trivial,trivial,trivial,⟨rfl,by decide⟩,trivial,trivial⟩,fun e o he ho=>?_⟩,⟨⟨trivial,trivial,trivial,fun _ _ _ _=>trivial,trivial,trivial,trivial,trivial⟩,aUC 8 8 3⟩,v1.st,⟨by decide,by decide,i1,by decide,r1,by simp;omega,by omega⟩,e3⟩,⟨?_⟩⟩
 ·obtain rfl:o=0:=by omega
  have:e=0∨e=1∨e=2:=by omega
  rcases this with rfl|rfl|rfl<;>rfl
 refine eG.pre ((gY [0,2,3,4,1] (fJ 79 [1,2,3,4,5]) (by kernel_rfl) _).trans (aI (by kernel_rfl))) (eG.evG (rL D2) 1 (tL5 D2 O 0 10) ?_)
 simp only[bA,aP,cC];refine⟨⟨⟨trivial,trivial,trivial,fun _ _ _ _=>trivial,trivial,trivial,trivial,trivial⟩,fun _ _=>f2⟩,⟨?_⟩⟩;rw[e4]
 refine eG.pre (aI (by kernel_rfl)) (eG.evH (PI D2 S2 [3,8]) (tL6 D2 S2 [3,8] O 0 10 20) ?_)
 subst hO;simp only[cD,bA,aP,fP];refine⟨fun _=>⟨fun _=>⟨fun _=>⟨fun _=>⟨by decide,fun _=>⟨by decide,fun _=>⟨by decide,fun _=>⟨by decide,fun _=>⟨by decide,fun _=>⟨⟨⟨trivial,trivial,trivial,fun _ _ _ _=>trivial,trivial,trivial,trivial,trivial⟩,v2.st,⟨by decide,by decide,i1,r2,by omega⟩,e5⟩,⟨⟨⟨trivial,⟨rfl,by decide⟩,trivial⟩,fun e o he ho=>?_⟩,⟨dP _ _ _,aUD 3 8⟩,by decide⟩,⟨iE.of_eq rfl⟩⟩,fun h=>absurd h (by decide)⟩,fun h=>absurd h (by decide)⟩,fun h=>absurd h (by decide)⟩,fun h=>absurd h (by decide)⟩,fun h=>absurd h (by decide)⟩,fun h=>absurd h (by decide)⟩,fun h=>absurd h (by decide)⟩,fun h=>absurd h (by decide)⟩,fun h=>absurd h (by decide)⟩
 obtain rfl:o=0:=by omega
 have:e=0∨e=1:=by omega
 rcases this with rfl|rfl<;>rfl
end
section
variable {G:Nat→Option Obj}
end
theorem aP2{x:Int}(h:(Lit.int .i64 x).wf=true):eW .i64 x:=by
 have:=bounds_i64 h
 exact⟨this.1,this.2⟩
theorem row_vr{w:World}{a:Option Addr}{len cap:Nat}{zs:List Int}(h:(a=none∧len=0∧cap=0∧zs=[]) ∨
 ∃x:Addr,a=some x∧len≤cap∧cap≤maxLen∧zs.length=cap∧(∀i,i<zs.length→w.cell? (x.add i)=some (.int .i64 (zs.getD i 0)))∧∀n∈zs,(Lit.int .i64 n).wf=true) :
  ∃L,(∀t∈L,eW .i64 t)∧L.length≤9223372036854775807∧VR Bt.nil (fun b=>b<w.heap.size) w (aU aT 1 L) (.slice a len cap):=by
 rcases h with⟨rfl,rfl,rfl,rfl⟩|⟨x,rfl,h1,h2,h3,h4,h5⟩
 ·exact⟨[],(fun x hx=>by cases hx),bX _,none,0,rfl,aW _,bX _,fun h=>absurd h (Nat.lt_irrefl 0)⟩
 ·have hl:(zs.take len).length=len:=by rw[List.length_take];omega
  refine⟨zs.take len,fun y hy=>aP2 (h5 y (List.mem_of_mem_take hy)),by rw[hl];simp only[maxLen]at h2;omega,some x,cap,by rw[hl],by rw[hl];exact h1,h2,fun hn=>?_⟩;rw[hl]at hn;refine⟨x,rfl,?_,fun e o he ho=>?_⟩
  ·have:=World.block_lt_of_cell? w _ (h4 0 (by omega))
   rwa [tX]at this
  ·rw[hl]at he
   obtain rfl:o=0:=by omega
   refine⟨_,h4 (e*1+0) (by omega),?_⟩
   show cT .i64 (zs.getD (e*1+0) 0)=cT .i64 ((zs.take len).getD e default)
   simp[he]
end Go.AE
