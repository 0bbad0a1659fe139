import Derived.Test.YtfjihbmehhccoaaF1
import Derived.Test.YtfjihbmehhccoaaFD
import Derived.Test.YtfjihbmehhccoaaShelf
import Derived.OpenShut
set_option linter.unusedVariables false
set_option linter.unusedSimpArgs false
namespace Go.AE
open _root_.ByteArray renaming mk→aG
open _root_.Int renaming ofNat→dI,toNat_natCast→dP
open IntKind renaming i64→aC
open _root_.List renaming all_eq_true→fL,getD_eq_getElem?_getD→aD,getElem?_eq_getElem→aM,getElem_mem→jI,length_append→aV,mem_append→dF,mem_cons→eQ,mem_cons_of_mem→cM,mem_cons_self→cY,mem_singleton→eN,take_length→fS
open _root_.Nat renaming le_refl→aW,not_lt_zero→jA,zero_le→bW
open _root_.Go.Proofs.Try renaming prog→aB
open Value renaming agg→iB,int→cL,slice→bA,string→cP
open Go.Proofs Go.Proofs.Ytfjihbmehhccoaa Go.RowKit
def iC(L:List Int):List Int:=L.mergeSort fun x y=>decide (x≤y)
theorem kB(L:List Int):(iC L).length=L.length:=by unfold iC;exact List.length_mergeSort L
def aAV(L:List Int)(f:Nat→Nat→C):Prop:=∀e o,e<L.length→o<1→f e o=aQ aS L e o
def KA(L:List Int):jU
 |[.c (.sl id 1 0 n)],h=>match bF .gone h id with
  |.row 3 1 n' f=>some (n=L.length∧n'=L.length∧aAV L f∧L.length≤1000000,.t [],fA (.row 3 1 L.length (aQ aS (iC L))) h id)
  |_=>none
 |_,_=>none
section
variable {G:Nat→Option Obj}
theorem US(L:List Int):fZ aB G 44 (KA L):=by
 intro args h p v h' hm hp;unfold KA at hm
 split at hm;rotate_left;· cases hm
 split at hm;rotate_left;· cases hm
 rename_i id n h n' f hid;obtain⟨rfl,rfl,rfl⟩:=gH hm;obtain⟨rfl,rfl,hf,hL⟩:=hp;refine XE hid hf (kB L) (fun w blk cap hH hb _=>?_) (fun w p cap _=>?_)
 ·exact Try.slices_Sort_int blk 0 cap L w hH hb (by omega)
 ·exact Try.slices_Sort_int_none p cap w
end
def aCN:jU
 |[.c (.p (.z (.slice none 0 0))),.c (.p (.i .i64 n))],h=>some (0≤n∧n≤1000000,.c (.sl (fF h) 1 0 0),fB (.row 3 1 0 fun e o=>.p (aE aS [] e o)) h)
 |_,_=>none
def aJU:Ext:=lH [(77,aCN)]
def mY(x:List Int)(_:Nat):PV:=bY aS 1 x
theorem tG1(n:Nat):dC eW (dH 6 (cW aB Try.f77)) (nH Try.f77 [.c (.p (.z (.slice none 0 0))),iV n]) (iA (eZ 27 [0]) [])=Tr.rq (eV aC (0-0))
 (.rq (eV aC ((↑n:Int)-(0-0)))
 (bT (decide (0<(↑n:Int)-(0-0)))
 (.rq ((↑(0:Nat):Int)=0∧(0:Int)=0)
 (.rq (0<(↑n:Int)-(0-0)∧((↑n:Int)-(0-0))*(↑(8:Nat):Int)≤140737488355328∧(↑n:Int)-(0-0)≤140737488355328)
 (.rq (0≤(↑(0:Nat):Int)∧(↑(0:Nat):Int)≤0∧0≤(↑((↑n:Int)-(0-0)).toNat:Int))
 (.done .normal
 (bS 27 [(0,.c (.sl 0 1 0 0))] [.row 3 1 ((↑n:Int)-(0-0)).toNat fun e o=>bP [0] (C.p (bF (PV.b false) [PV.i aC 0] o))])))))
 (.done .normal
 (bS 27 [(0,.c (.p (.z (bA none 0 0))))] [])))):=by kernel_rfl
theorem tC1(LL:List (List Int)):dC eW (dH 3 (cW aB Try.f46)) (nH Try.f46 [aU mY 1 LL]) (iA (eZ 36 [0,3,9,10,11]) [])=Tr.done X.normal
 (bS 36 [(0,.c (.p (.l 1 LL.length (aE mY LL)))),(3,.c (.p (.i .i64 0))),(9,.c (.p (.l 1 LL.length (aE mY LL)))),(10,.c (.p (.i .i64 (↑LL.length:Int)))),(11,.c (.p (.i .i64 0)))] []):=by kernel_rfl
theorem tC2(LL:List (List Int))(s i:Nat):dC eW (gR (cW aB Try.f46) 3) (bS 36 [(0,aU mY 1 LL),(3,iV s),(9,aU mY 1 LL),(10,iV (LL.length:Nat)),(11,iV i)] []) (iA (eZ 36 [0,3,9,10,11]) [])=bT (decide ((↑i:Int)<(↑LL.length:Int)))
 (.rq (0≤(↑i:Int)∧(↑i:Int)<(↑LL.length:Int))
 (.rq (eV aC ((↑s:Int)+(↑(LL.getD (↑i:Int).toNat default).length:Int)))
 (.rq (eV aC ((↑i:Int)+1))
 (.done .normal
 (bS 36 [(0,.c (.p (.l 1 LL.length (aE mY LL)))),(3,.c (.p (.i .i64 ((↑s:Int)+(↑(LL.getD (↑i:Int).toNat default).length:Int))))),(9,.c (.p (.l 1 LL.length (aE mY LL)))),(10,.c (.p (.i .i64 (↑LL.length:Int)))),(11,.c (.p (.i .i64 ((↑i:Int)+1))))] [])))))
 (.done (.exit 0)
 (bS 36 [(0,.c (.p (.l 1 LL.length (aE mY LL)))),(3,.c (.p (.i .i64 (↑s:Int)))),(9,.c (.p (.l 1 LL.length (aE mY LL)))),(10,.c (.p (.i .i64 (↑LL.length:Int)))),(11,.c (.p (.i .i64 (↑i:Int))))] [])):=by kernel_rfl
theorem tC3(LL:List (List Int))(s:Nat):dC aJU (dH 2 (bJ 4 (cW aB Try.f46))) (bS 36 [(0,aU mY 1 LL),(3,iV s)] []) (iA (eZ 36 [6,25,26,27]) [])=Tr.rq (0≤(↑s:Int)∧(↑s:Int)≤1000000)
 (.done .normal
 (bS 36 [(6,.c (.sl 0 1 0 0)),(25,.c (.p (.l 1 LL.length (aE mY LL)))),(26,.c (.p (.i .i64 (↑LL.length:Int)))),(27,.c (.p (.i .i64 0)))] [.row 3 1 0 fun e o=>bP [0] (C.p (PV.i aC ([].getD e default)))])):=by kernel_rfl
theorem tC4(LL:List (List Int))(out:List Int)(k i:Nat):dC eW (gR (cW aB Try.f46) 6) (bS 36 [(6,.c (.sl 0 1 0 k)),(25,aU mY 1 LL),(26,iV (LL.length:Nat)),(27,iV i)] [.row 3 1 k (aQ aS out)]) (iA (eZ 36 [6,25,26,27]) [])=bT (decide ((↑i:Int)<(↑LL.length:Int)))
 (.rq (0≤(↑i:Int)∧(↑i:Int)<(↑LL.length:Int))
 (.rq (k=k)
 (.rq
 ((k+(LL.getD (↑i:Int).toNat default).length)*8≤140737488355328 ∧
 k+(LL.getD (↑i:Int).toNat default).length≤140737488355328 ∧
 ∀(e o:Nat),e<(LL.getD (↑i:Int).toNat default).length→o<1→iH (C.p (aE aS (LL.getD (↑i:Int).toNat default) e o))=true)
 (.rq (eV aC ((↑i:Int)+1))
 (.done .normal
 (bS 36 [(6,.c (.sl 0 1 0 (k+(LL.getD (↑i:Int).toNat default).length))),(25,.c (.p (.l 1 LL.length (aE mY LL)))),(26,.c (.p (.i .i64 (↑LL.length:Int)))),(27,.c (.p (.i .i64 ((↑i:Int)+1))))] [.row 3 1 (k+(LL.getD (↑i:Int).toNat default).length) fun e o=>bP [1] (fC k (aQ aS out) (fun e o=>C.p (PV.i aC ((LL.getD (↑i:Int).toNat default).getD e default))) e o)]))))))
 (.done (.exit 2)
 (bS 36 [(6,.c (.sl 0 1 0 k)),(25,.c (.p (.l 1 LL.length (aE mY LL)))),(26,.c (.p (.i .i64 (↑LL.length:Int)))),(27,.c (.p (.i .i64 (↑i:Int))))] [.row 3 1 k fun e o=>bP [0] (aQ aS out e o)])):=by kernel_rfl
theorem lE.of_isL{α:Type}[Inhabited α]{enc:α→Nat→PV}{sz:Nat}{L:List α}{n:Nat}{f:Nat→Nat→PV}(h:kA enc sz L n f):lE (.l sz n f) (bY enc sz L):=by
 obtain⟨rfl,h2⟩:=h
 exact lE.l fun e o he ho=>lE.of_eq (h2 e o he ho)
def iOf:PV→Option (Prop×List Int)
 |.l 1 n f=>some (kA aS 1 (bO gI n f) n f,bO gI n f)
 |.z (.slice none 0 0)=>some (True,[])
 |_=>none
theorem TB{x:PV}{p:Prop}{A:List Int}(h:iOf x=some (p,A))(hp:p):lE x (bY aS 1 A):=by
 unfold iOf at h;split at h
 ·injection h with h
  injection h with h1 h2;subst h2;subst h1;exact lE.of_isL hp
 ·injection h with h
  injection h with h1 h2;subst h2;subst h1;exact lE.nil 1 _
 ·cases h
def KJ:jU
 |[.c (.p (.l 1 2 F))],h=>match iOf (F 0 0),iOf (F 1 0) with
  |some (p,A),some (q,B)=>some ((p∧q)∧A.length+B.length≤1000000,.c (.sl (fF h) 1 0 (A++B).length),fB (.row 3 1 (A++B).length fun e o=>.p (aE aS (A++B) e o)) h)
  |_,_=>none
 |_,_=>none
def kH(L:List Int):List Int:=Go.Lib.compact L
theorem nF(L:List Int):(kH L).length≤L.length:=Go.Lib.compact_length_le L
def SN(L:List Int):jU
 |[.c (.sl id 1 0 n)],h=>match bF .gone h id with
  |.row 3 1 n' f=>some (n=L.length∧n'=L.length∧aAV L f∧L.length≤1000000,.c (.sl id 1 0 (kH L).length),fA (.row 3 1 (kH L).length (aQ aS (kH L))) h id)
  |_=>none
 |_,_=>none
section
variable {G:Nat→Option Obj}
set_option maxRecDepth 100000 in
theorem aLX:fZ aB G 77 aCN:=by
 intro args h p v h' hm hp;unfold aCN at hm
 split at hm;rotate_left;· cases hm
 rename_i _ _ n0;obtain⟨rfl,rfl,rfl⟩:=gH hm;obtain⟨hn0,hn1⟩:=hp
 obtain⟨n,rfl⟩:∃n:Nat,n0=n:=⟨n0.toNat,by omega⟩
 refine KZ (args:=[.c (.p (.z (.slice none 0 0))),iV n]) (r:=4) (ty:=3) (sz:=1) (n:=0) (F:=aE aS []) (pre:=dH 7 (cW aB Try.f77)) Try.func77 (by kernel_rfl) (by kernel_rfl) (by kernel_rfl) rfl ?_ h
 have fin:eJ aB G [] vF (bJ 6 (dH 7 (cW aB Try.f77))) (bS 27 [(0,.c (.sl 0 1 0 0))] [.row 3 1 0 (aQ aS [])]) (fun e st=>e=.normal∧LM 4 3 1 0 (aE aS []) .ret st):=by
  refine eJ.evH aX (keep:=eZ 27 [4]) (tree:=.done .normal (bS 27 [(4,.c (.sl 0 1 0 0))] [.row 3 1 0 fun e o=>bP [0] (aQ aS [] e o)])) (by kernel_rfl) ?_
  exact⟨rfl,fun j=>by simp,0,_,rfl,rfl,fun e o he ho=>absurd he (jA _)⟩
 refine eJ.evG aX 6 (tG1 n) ?_;simp only[bZ,bB,aL,cG,decide_eq_true_eq,decide_eq_false_iff_not,eV];refine⟨by omega,by omega,fun h1=>⟨⟨rfl,trivial⟩,by omega,by omega,⟨?_⟩⟩,fun h1=>⟨?_⟩⟩
 ·refine eJ.pre ((QH (id:=0) (ty:=3) (sz:=1) (n:=((n:Int)-(0-0)).toNat) (f:=fun e o=>bP [0] (C.p (bF (PV.b false) [PV.i aC 0] o))) 0 (by kernel_rfl) (bW _)).trans ((aJ (by kernel_rfl)).trans (iG (h:=[.row 3 1 0 fun e o=>bP [0] (C.p (bF (PV.b false) [PV.i aC 0] o))]) (h':=[.row 3 1 0 (aQ aS [])]) ⟨⟨rfl,rfl,rfl,fun e o he ho=>absurd he (jA _)⟩,trivial⟩))) fin
 ·exact eJ.pre ((lT 3 1 (aQ aS []) 0 (by kernel_rfl)).trans (aJ (by kernel_rfl))) fin
theorem OQ:bH aB G aJU:=dZ (by simp;exact aLX)
theorem KN:∀(LL:List (List Int)) (i:Nat),(LL.take i).flatten.length≤LL.flatten.length
 |[],i=>by simp
 |x::r,0=>by simp
 |x::r,i+1=>by
  have:=KN r i
  simp only[List.take_succ_cons,List.flatten_cons,aV];omega
theorem IK{LL:List (List Int)}{i:Nat}(hi:i<LL.length):(LL.take (i+1)).flatten=(LL.take i).flatten++LL.getD i default:=by
 rw[List.take_succ_eq_append_getElem hi,List.flatten_append,aD,aM hi];simp
set_option maxRecDepth 100000 in
theorem ZH(LL:List (List Int))(hL:LL.flatten.length≤1000000)(hn:LL.length≤1000000)(h:List AO):jN aB G 46 [aU mY 1 LL] h fun x h'=>x=.c (.sl (fF h) 1 0 LL.flatten.length)∧h'=fB (.row 3 1 LL.flatten.length fun e o=>.p (aE aS LL.flatten e o)) h:=by
 refine KZ (args:=[aU mY 1 LL]) (r:=2) (ty:=3) (sz:=1) (n:=LL.flatten.length) (F:=aE aS LL.flatten) (pre:=dH 8 (cW aB Try.f46)) Try.func46 (by kernel_rfl) (by kernel_rfl) (by kernel_rfl) rfl ?_ h
 refine eJ.evG aX 3 (tC1 LL) ?_;simp only[bZ,bB,aL,cG];refine⟨?_⟩
 refine eJ.loop' (l:=bJ 3 (dH 8 (cW aB Try.f46))) (b:=inr (inr (bF .skip (cW aB Try.f46) 3))) (r:=bJ 4 (dH 8 (cW aB Try.f46))) (id:=0) (by kernel_rfl) (σ:=Nat)
   (fun i=>(fun s=>bS 36 [(0,aU mY 1 LL),(3,iV s),(9,aU mY 1 LL),(10,iV (LL.length:Nat)),(11,iV (i:Nat))] []) ((LL.take i).flatten.length:Nat)) (fun i=>i≤LL.length) (fun i=>LL.length-i) 0 (bW _) (aJ (by kernel_rfl)) ?_
 ·intro i hi Q1 q1n q1e _
  refine eJ.evH aX (tC2 LL (LL.take i).flatten.length i) ?_
  have h1:=KN LL (i+1)
  simp only[bZ,bB,aL,cG,jQ,decide_eq_true_eq,decide_eq_false_iff_not,eV,show (↑i:Int).toNat=i from rfl];refine⟨fun hlt=>?_,fun hge=>⟨q1e _ ?_⟩⟩
  ·have hlt:i<LL.length:=by omega
   have h2:=IK hlt
   have h3:(LL.take (i+1)).flatten.length=(LL.take i).flatten.length+(LL.getD i default).length:=by rw[h2,aV]
   refine⟨by omega,by omega,by omega,⟨q1n (i+1) _ (by omega) (by omega) ?_⟩⟩;rw[h3]
   exact aJ (by kernel_rfl)
  ·obtain rfl:i=LL.length:=by omega
   rw[fS]
   refine eJ.pre (fG (eZ 36 [0,3]) _) (eJ.pre (aJ (by kernel_rfl)) (eJ.evG OQ 2 (tC3 LL LL.flatten.length) ?_))
   simp only[bZ,bB,aL,cG];refine⟨by omega,⟨?_⟩⟩
   refine eJ.loop' (l:=bJ 6 (dH 8 (cW aB Try.f46))) (b:=inr (inr (bF .skip (cW aB Try.f46) 6))) (r:=bJ 7 (dH 8 (cW aB Try.f46))) (id:=2) (by kernel_rfl) (σ:=Nat)
     (fun i=>(fun out k=>bS 36 [(6,.c (.sl 0 1 0 k)),(25,aU mY 1 LL),(26,iV (LL.length:Nat)),(27,iV (i:Nat))] [.row 3 1 k (aQ aS out)]) (LL.take i).flatten (LL.take i).flatten.length) (fun i=>i≤LL.length) (fun i=>LL.length-i) 0 (bW _) ((aJ (by kernel_rfl)).trans (iG (h:=[.row 3 1 0 (fun e o=>bP [0] (aQ aS [] e o))]) ⟨⟨rfl,rfl,rfl,fun _ _ _ _=>rfl⟩,trivial⟩)) ?_
   intro i hi Q2 q2n q2e _;refine eJ.evH aX (tC4 LL (LL.take i).flatten (LL.take i).flatten.length i) ?_
   have h1:=KN LL (i+1)
   simp only[bZ,bB,aL,cG,jQ,decide_eq_true_eq,decide_eq_false_iff_not,eV,show (↑i:Int).toNat=i from rfl];refine⟨fun hlt=>?_,fun hge=>⟨q2e _ ?_⟩⟩
   ·have hlt:i<LL.length:=by omega
    have h2:=IK hlt
    have h3:(LL.take (i+1)).flatten.length=(LL.take i).flatten.length+(LL.getD i default).length:=by rw[h2,aV]
    refine⟨by omega,trivial,⟨by omega,by omega,fun _ _ _ _=>rfl⟩,by omega,⟨q2n (i+1) _ (by omega) (by omega) ?_⟩⟩;rw[h3,h2];refine iG ⟨⟨rfl,rfl,rfl,fun e o he ho=>?_⟩,trivial⟩;exact congrArg (bP [1]) (aSZ (enc:=aS) (L:=(LL.take i).flatten) (M:=LL.getD i default) rfl)
   ·obtain rfl:i=LL.length:=by omega
    rw[fS]
    refine eJ.evH aX (keep:=eZ 36 [2]) (tree:=.done .normal (bS 36 [(2,.c (.sl 0 1 0 LL.flatten.length))] [.row 3 1 LL.flatten.length fun e o=>bP [0] (bP [0] (aQ aS LL.flatten e o))])) (by kernel_rfl) ?_
    exact⟨rfl,fun j=>by simp,0,_,rfl,rfl,fun e o he ho=>rfl⟩
theorem aBZ:fZ aB G 46 KJ:=by
 intro args h p v h' hm hp;unfold KJ at hm
 split at hm;rotate_left;· cases hm
 split at hm;rotate_left;· cases hm
 rename_i F _ _ _ q1 A q2 B ha hb;obtain⟨rfl,rfl,rfl⟩:=gH hm;obtain⟨⟨hp1,hp2⟩,hL⟩:=hp;refine jN.args (args':=[aU mY 1 [A,B]]) ?_ (.cons (iF.p (lE.l fun e o he ho=>?_)) .nil)
 ·have:=ZH (G:=G) [A,B] (by simp;omega) (by simp) h
  simpa using this
 ·obtain rfl:o=0:=by omega
  have he:e=0∨e=1:=by omega
  rcases he with rfl|rfl
  ·exact TB ha hp1
  ·exact TB hb hp2
theorem aH0(L:List Int):fZ aB G 47 (SN L):=by
 intro args h p v h' hm hp;unfold SN at hm
 split at hm;rotate_left;· cases hm
 split at hm;rotate_left;· cases hm
 rename_i id n h n' f hid;obtain⟨rfl,rfl,rfl⟩:=gH hm;obtain⟨rfl,rfl,hf,hL⟩:=hp;refine TQ hid hf (nF L) (fun w blk cap hH hb hc=>?_) (fun w p cap _=>?_)
 ·exact Try.slices_Compact_int blk 0 cap L w hH (by omega) hc
 ·exact Try.slices_Compact_int_empty p cap w
end
theorem aP3(d:Nat)(n:Int)(h:eV .i64 n):(aB).keyLits (d+1) 3 [.int .i64 n]=some [.int .i64 n]:=by
 unfold Program.keyLits;rw[Try.underlying3]
 have:(Lit.int .i64 n).wf=true:=by
  unfold eV at h
  have e1:aC.min = -9223372036854775808:=by decide
  have e2:aC.max=9223372036854775807:=by decide
  simp[Lit.wf,e1,e2];exact h
 simp[this]
theorem aP2(d:Nat)(s:ByteArray)(h:s.size≤1000000):(aB).keyLits (d+1) 9 [.string s]=some [.string s.data.toList]:=by
 unfold Program.keyLits;rw[Try.underlying9]
 have:s.size≤maxLen:=Nat.le_trans h (by decide)
 simp[this]
theorem c3:(aB).cellsOf 3=1:=by kernel_rfl
theorem c9:(aB).cellsOf 9=1:=by kernel_rfl
theorem c79:(aB).cellsOf 79=3:=by kernel_rfl
theorem c81:(aB).cellsOf 81=4:=by kernel_rfl
theorem k79:(aB).keyType 79=true:=by kernel_rfl
theorem k81:(aB).keyType 81=true:=by kernel_rfl
theorem szP:∃n,(aB).types.size+1=n+3:=⟨(aB).types.size+1-3,by
 have:Nat.ble 2 (aB).types.size=true:=by kernel_rfl
 have:=Nat.le_of_ble_eq_true this
 omega⟩
theorem kGr(d:Nat)(ru tx:ByteArray)(ve:Int)(h1:ru.size≤1000000)(h2:eV .i64 ve)(h3:tx.size≤1000000):(aB).keyLits (d+2) 79 [.string ru,.int .i64 ve,.string tx]=some [.string ru.data.toList,.int .i64 ve,.string tx.data.toList]:=by
 unfold Program.keyLits;rw[Try.underlying79];simp[c79,c3,c9,aP3 d ve h2,aP2 d ru h1,aP2 d tx h3]
theorem xS(ru tx:ByteArray)(ve:Int)(h1:ru.size≤1000000)(h2:eV .i64 ve)(h3:tx.size≤1000000):bQ aB 79 (iI ru ve tx)=true:=by
 obtain⟨n,hn⟩:=szP;unfold bQ keyOf;rw[Try.underlying79,hn,k79];simp[iI,Value.formed,Try.underlying79,c79,Value.cells,kGr (n+1) ru tx ve h1 h2 h3]
theorem xR(ru tx:ByteArray)(ve st:Int)(h1:ru.size≤1000000)(h2:eV .i64 ve)(h3:tx.size≤1000000)(h4:eV .i64 st):bQ aB 81 (kK ru ve tx st)=true:=by
 obtain⟨n,hn⟩:=szP;unfold bQ keyOf;rw[Try.underlying81,hn,k81]
 have e:(aB).keyLits (n+3) 81 [.string ru,.int .i64 ve,.string tx,.int .i64 st]=some [.string ru.data.toList,.int .i64 ve,.string tx.data.toList,.int .i64 st]:=by
  unfold Program.keyLits;rw[Try.underlying81];simp[c79,c3,c81,aP3 (n+1) st h4,kGr n ru tx ve h1 h2 h3]
 simp[kK,Value.formed,Try.underlying81,c81,Value.cells,e]
theorem UU(st:Int)(h4:eV .i64 st):bQ aB 3 (.int .i64 st)=true:=by
 unfold bQ keyOf mapKey;rw[Try.underlying3]
 have:(Lit.int .i64 st).wf=true:=by
  unfold eV at h4
  have e1:aC.min = -9223372036854775808:=by decide
  have e2:aC.max=9223372036854775807:=by decide
  simp[Lit.wf,e1,e2];exact h4
 simp[this]
noncomputable def aJF(L:List Int):Ext:=lH [(44,KA L)]
def IM:Ext:=jV [(42,MZ),(43,mOf)]
theorem tV1(D:Ld)(rest:List AO)(b:Nat)(ve:Int)(ru:ByteArray)(L:List (ByteArray×ByteArray)):dC IM (dH 6 (cW aB Try.f16)) (jJ Try.f16 [0,1,2,3] [0] [b] [.c (.ptr 0 0),.c (.p (.s ru)),iV ve,aU aN 2 L] (lN D rest)) (gG [0] (eZ 51 [0,10,11]) (bI aB Try.f16))=Tr.rq (kA aN 2 (bO cT L.length (aE aN L)) L.length (aE aN L))
 (bT (!hJ (Pg.mk 0 ru ve (bO cT L.length (aE aN L)) 0 0 (aG #[])))
 (.done .ret
 (bS 2 [(0,.c (.ptr 0 0)),(1,.c (.p (.z (bA none 0 0))))] [.pin 1 b,.cells 86 [.sl 2 7 0 D.M.length,.mp 3,.mp 4],.row 31 7 D.M.length fun e o=>bP [4,0,1,2,3] (bP [0,1,2,3] (aQ aI D.M e o)),.mapb (bQ aB 81) D.gp,.mapl (bQ aB 79) 3 1 D.gs none]))
 (.rq (kA aN 2 (bO cT L.length (aE aN L)) L.length (aE aN L)∧(cE (bO cT L.length (aE aN L))).size≤1000000)
 (.done .normal
 (bS 51 [(0,.c (.ptr 0 0)),(10,.c (.p (.z (bA none 0 0)))),(11,.c (.ptr 1 0))] [.pin 2 b,.cells 79 [.p (.s ru),.p (.i .i64 ve),.p (.s (cE (bO cT L.length (aE aN L))))],.cells 86 [.sl 3 7 0 D.M.length,.mp 4,.mp 5],.row 31 7 D.M.length fun e o=>bP [4,6,0,1,2,3] (bP [0,1,2,3] (aQ aI D.M e o)),.mapb (bQ aB 81) D.gp,.mapl (bQ aB 79) 3 1 D.gs none])))):=by kernel_rfl
theorem tV2(D:Ld)(b:Nat)(ve:Int)(ru tx:ByteArray)(S:List Int):dC IM (dH 1 (bJ 6 (cW aB Try.f16))) (bS 51 [(0,.c (.ptr 0 0)),(10,.c (.sl 7 1 0 0)),(11,.c (.ptr 1 0))] [.pin 2 b,.cells 79 [.p (.s ru),.p (.i .i64 ve),.p (.s tx)],.cells 86 [.sl 3 7 0 D.M.length,.mp 4,.mp 5],.row 31 7 D.M.length (aQ aI D.M),.mapb (bQ aB 81) D.gp,.mapl (bQ aB 79) 3 1 D.gs (some (iI ru ve tx,.sl 6 1 0 S.length)),.row 3 1 S.length (aQ aS S),.row 3 1 0 (aQ aS [])]) (gG [0] (eZ 51 [0,10,11,29,30,31]) (bI aB Try.f16))=Tr.rq
 ((bQ aB 79=bQ aB 79∧bQ aB 79 (iB #[cP ru,cL aC ve,cP tx])=true) ∧
 iB #[cP ru,cL aC ve,cP tx]=iI ru ve tx)
 (.done .normal
 (bS 51 [(0,.c (.ptr 0 0)),(10,.c (.sl 1 1 0 0)),(11,.c (.ptr 2 0)),(29,.c (.sl 3 1 0 S.length)),(30,.c (.p (.i .i64 (↑S.length:Int)))),(31,.c (.p (.i .i64 0)))] [.pin 4 b,.row 3 1 0 fun e o=>bP [0,7,1,6,2,3,4,5] (aQ aS [] e o),.cells 79 [.p (.s ru),.p (.i .i64 ve),.p (.s tx)],.row 3 1 S.length fun e o=>bP [0,7,1,6,2,3,4,5] (aQ aS S e o),.cells 86 [.sl 5 7 0 D.M.length,.mp 6,.mp 7],.row 31 7 D.M.length fun e o=>bP [0,7,1,6,2,3,4,5] (aQ aI D.M e o),.mapb (bQ aB 81) D.gp,.mapl (bQ aB 79) 3 1 D.gs (some (iI ru ve tx,C.sl 3 1 0 S.length))])):=by kernel_rfl
theorem tV3(D:Ld)(b:Nat)(ve:Int)(ru tx:ByteArray)(S out:List Int)(k i:Nat):dC IM (gR (cW aB Try.f16) 7) (bS 51 [(0,.c (.ptr 0 0)),(10,.c (.sl 1 1 0 k)),(11,.c (.ptr 2 0)),(29,.c (.sl 3 1 0 S.length)),(30,iV (S.length:Nat)),(31,iV (i:Nat))] [.pin 4 b,.row 3 1 k (aQ aS out),.cells 79 [.p (.s ru),.p (.i .i64 ve),.p (.s tx)],.row 3 1 S.length (aQ aS S),.cells 86 [.sl 5 7 0 D.M.length,.mp 6,.mp 7],.row 31 7 D.M.length (aQ aI D.M),.mapb (bQ aB 81) D.gp,.mapl (bQ aB 79) 3 1 D.gs (some (iI ru ve tx,.sl 3 1 0 S.length))]) (gG [0] (eZ 51 [0,10,11,29,30,31]) (bI aB Try.f16))=bT (decide ((↑i:Int)<(↑S.length:Int)))
 (.rq (0≤(↑i:Int)∧(↑i:Int)<(↑S.length:Int))
 (.rq ((↑i:Int).toNat+0<S.length)
 (.rq
 (bQ aB 81=bQ aB 81 ∧
 bQ aB 81 (iB #[cP ru,cL aC ve,cP tx,cL aC (S.getD ((↑i:Int).toNat+0) default)])=true)
 (bT ((D.gp (iB #[cP ru,cL aC ve,cP tx,cL aC (S.getD ((↑i:Int).toNat+0) default)])).getD false)
 (.rq (k=k)
 (.rq (1≤1)
 (.rq
 ((k+1)*8≤140737488355328 ∧
 k+1≤140737488355328∧∀(e o:Nat),e<1→o<1→iH (lM [C.p (PV.i aC (S.getD ((↑i:Int).toNat+0) default))] 1 1 (e+0) o)=true)
 (.rq (eV aC ((↑i:Int)+1))
 (.done .normal
 (bS 51 [(0,.c (.ptr 0 0)),(10,.c (.sl 1 1 0 (k+1))),(11,.c (.ptr 2 0)),(29,.c (.sl 3 1 0 S.length)),(30,.c (.p (.i .i64 (↑S.length:Int)))),(31,.c (.p (.i .i64 ((↑i:Int)+1))))] [.pin 4 b,.row 3 1 (k+1) fun e o=>bP [0,9,2,3,4,5,6,7] (fC k (aQ aS out) (fun e o=>bF C.top [C.p (PV.i aC (S.getD ((↑i:Int).toNat+0) default))] ((e+0)*1+o)) e o),.cells 79 [.p (.s ru),.p (.i .i64 ve),.p (.s tx)],.row 3 1 S.length fun e o=>bP [0,9,2,3,4,5,6,7] (aQ aS S e o),.cells 86 [.sl 5 7 0 D.M.length,.mp 6,.mp 7],.row 31 7 D.M.length fun e o=>bP [0,9,2,3,4,5,6,7] (aQ aI D.M e o),.mapb (bQ aB 81) D.gp,.mapl (bQ aB 79) 3 1 D.gs (some (iI ru ve tx,C.sl 3 1 0 S.length))]))))))
 (.rq (eV aC ((↑i:Int)+1))
 (.done .normal
 (bS 51 [(0,.c (.ptr 0 0)),(10,.c (.sl 1 1 0 k)),(11,.c (.ptr 2 0)),(29,.c (.sl 3 1 0 S.length)),(30,.c (.p (.i .i64 (↑S.length:Int)))),(31,.c (.p (.i .i64 ((↑i:Int)+1))))] [.pin 4 b,.row 3 1 k fun e o=>bP [0,1,2,3,4,5,6,7] (aQ aS out e o),.cells 79 [.p (.s ru),.p (.i .i64 ve),.p (.s tx)],.row 3 1 S.length fun e o=>bP [0,1,2,3,4,5,6,7] (aQ aS S e o),.cells 86 [.sl 5 7 0 D.M.length,.mp 6,.mp 7],.row 31 7 D.M.length fun e o=>bP [0,1,2,3,4,5,6,7] (aQ aI D.M e o),.mapb (bQ aB 81) D.gp,.mapl (bQ aB 79) 3 1 D.gs (some (iI ru ve tx,C.sl 3 1 0 S.length))])))))))
 (.done (.exit 0)
 (bS 51 [(0,.c (.ptr 0 0)),(10,.c (.sl 1 1 0 k)),(11,.c (.ptr 2 0)),(29,.c (.sl 3 1 0 S.length)),(30,.c (.p (.i .i64 (↑S.length:Int)))),(31,.c (.p (.i .i64 (↑i:Int))))] [.pin 4 b,.row 3 1 k fun e o=>bP [0,1,2,3,4,5,6,7] (aQ aS out e o),.cells 79 [.p (.s ru),.p (.i .i64 ve),.p (.s tx)],.row 3 1 S.length fun e o=>bP [0,1,2,3,4,5,6,7] (aQ aS S e o),.cells 86 [.sl 5 7 0 D.M.length,.mp 6,.mp 7],.row 31 7 D.M.length fun e o=>bP [0,1,2,3,4,5,6,7] (aQ aI D.M e o),.mapb (bQ aB 81) D.gp,.mapl (bQ aB 79) 3 1 D.gs (some (iI ru ve tx,C.sl 3 1 0 S.length))])):=by kernel_rfl
theorem tV4(D:Ld)(b:Nat)(out:List Int)(k:Nat):dC (aJF out) (dH 1 (bJ 8 (cW aB Try.f16))) (bS 51 [(0,.c (.ptr 0 0)),(10,.c (.sl 1 1 0 k))] [.pin 2 b,.row 3 1 k (aQ aS out),.cells 86 [.sl 3 7 0 D.M.length,.mp 4,.mp 5],.row 31 7 D.M.length (aQ aI D.M),.mapb (bQ aB 81) D.gp,.mapl (bQ aB 79) 3 1 D.gs none]) (gG [0] (eZ 51 [0,10]) (bI aB Try.f16))=Tr.rq (k=out.length∧k=out.length∧aAV out (aQ aS out)∧out.length≤1000000)
 (.done .normal
 (bS 51 [(0,.c (.ptr 0 0)),(10,.c (.sl 1 1 0 k))] [.pin 2 b,.row 3 1 out.length fun e o=>bP [0,1,2,3,4,5] (aQ aS (iC out) e o),.cells 86 [.sl 3 7 0 D.M.length,.mp 4,.mp 5],.row 31 7 D.M.length fun e o=>bP [0,1,2,3,4,5] (aQ aI D.M e o),.mapb (bQ aB 81) D.gp,.mapl (bQ aB 79) 3 1 D.gs none])):=by kernel_rfl
section
variable {G:Nat→Option Obj}
end
def rW(gp:Value→Option Bool)(ru:ByteArray)(ve:Int)(tx:ByteArray)(S:List Int):List Int:=S.filter fun t=>(gp (kK ru ve tx t)).getD false
noncomputable def nD(D:Ld)(ru:ByteArray)(ve:Int)(L:List (ByteArray×ByteArray))(S:List Int):V:=match hJ (⟨0,ru,ve,L,0,0,⟨#[]⟩⟩:Pg) with
 |true=>aU aS 1 (iC (rW D.gp ru ve (cE L) S))
 |false=>.c (.p (.z (.slice none 0 0)))
def FT(D:Ld)(k:Value)(S:List Int):Prop:=(D.gs k).1=S.length∧∀e o,e<S.length→o<1→(D.gs k).2 e o=aE aS S e o
section
variable {G:Nat→Option Obj}
theorem oP:bH aB G IM:=dY (by simp;exact⟨RL,aGS⟩)
theorem NY(L:List Int):bH aB G (aJF L):=dZ (by simp;exact US L)
theorem MM(gp:Value→Option Bool)(ru:ByteArray)(ve:Int)(tx:ByteArray)(S:List Int)(x:Int):rW gp ru ve tx (S++[x])=rW gp ru ve tx S++(match (gp (kK ru ve tx x)).getD false with
 |true=>[x]
 |false=>[]):=by
 unfold rW;rw[List.filter_append];congr 1
theorem GT(g:Value→Nat×(Nat→Nat→PV))(k:Value)(n:Nat)(hn:(g k).1=n):zA g k n (g k).2=g:=by
 subst hn;unfold zA;funext x
 by_cases h:x=k
 ·subst h;simp
 ·simp[h]
theorem aD5(x:Int):∀e o:Nat,e<1→o<1→iH (bF C.top [C.p (.i .i64 x)] ((e+0)*1+o))=true:=by
 intro e o he ho
 obtain rfl:e=0:=by omega
 obtain rfl:o=0:=by omega
 rfl
theorem yD(x:Int):∀o:Nat,o<1→(fun e o:Nat=>bF C.top [C.p (.i .i64 x)] ((e+0)*1+o)) 0 o=.p (aS x o):=by
 intro o ho
 obtain rfl:o=0:=by omega
 rfl
set_option maxRecDepth 100000 in
set_option maxHeartbeats 2000000 in
theorem QJ(D:Ld)(ru:ByteArray)(ve:Int)(L:List (ByteArray×ByteArray))(S:List Int)(hS:FT D (iI ru ve (cE L)) S)(hT:hJ (⟨0,ru,ve,L,0,0,⟨#[]⟩⟩:Pg)=true→(cE L).size≤1000000∧bQ aB 79 (iI ru ve (cE L))=true∧(∀t∈S,bQ aB 81 (kK ru ve (cE L) t)=true)∧S.length≤1000000)(rest:List AO)(b:Nat)(Q:X→St→Prop):eL aB G (Zm [0] (bI aB Try.f16) fun s=>cQ G s ⟨[.c (.ptr 0 0)]++[nD D ru ve L S],oM D b⟩) (cW aB Try.f16) (jJ Try.f16 [0,1,2,3] [0] [b] [.c (.ptr 0 0),.c (.p (.s ru)),iV ve,aU aN 2 L] (lN D rest)) Q:=by
 refine eL.evG oP 6 (tV1 D rest b ve ru L) ?_;simp only[bZ,bB,aL,jP,cF,gK];unfold nD;refine⟨dJ _ _ _,fun h1=>⟨?_⟩,fun h1=>?_⟩
 ·have h1:hJ (⟨0,ru,ve,L,0,0,⟨#[]⟩⟩:Pg)=false:=by simpa using h1
  rw[h1];exact aJ (by kernel_rfl)
 have h1:hJ (⟨0,ru,ve,L,0,0,⟨#[]⟩⟩:Pg)=true:=by simpa using h1
 obtain⟨t1,t2,t3,t4⟩:=hT h1;rw[h1];refine⟨⟨dJ _ _ _,t1⟩,⟨?_⟩⟩;obtain⟨s1,s2⟩:=hS
 obtain⟨tx,htx⟩:∃tx,tx=cE L:=⟨_,rfl⟩
 rw[←htx]at s1 s2 t1 t2 t3 ⊢
 have w1:cQ G (bS 51 [(0,.c (.ptr 0 0)),(10,.c (.p (.z (.slice none 0 0)))),(11,.c (.ptr 1 0))] [.pin 2 b,.cells 79 [.p (.s ru),.p (.i .i64 ve),.p (.s tx)],.cells 86 [.sl 3 7 0 D.M.length,.mp 4,.mp 5],.row 31 7 D.M.length (aQ aI D.M),.mapb (bQ aB 81) D.gp,.mapl (bQ aB 79) 3 1 D.gs none]) ((fun ru ve tx S=>bS 51 [(0,.c (.ptr 0 0)),(10,.c (.sl 7 1 0 0)),(11,.c (.ptr 1 0))] [.pin 2 b,.cells 79 [.p (.s ru),.p (.i .i64 ve),.p (.s tx)],.cells 86 [.sl 3 7 0 D.M.length,.mp 4,.mp 5],.row 31 7 D.M.length (aQ aI D.M),.mapb (bQ aB 81) D.gp,.mapl (bQ aB 79) 3 1 D.gs (some (iI ru ve tx,.sl 6 1 0 S.length)),.row 3 1 S.length (aQ aS S),.row 3 1 0 (aQ aS [])]) ru ve tx S):=by
  refine(vX (id:=5) (iI ru ve tx) (by rfl)).trans ?_
  refine(lT 3 1 (aQ aS []) 10 (by kernel_rfl)).trans ?_
  rw[s1]
  refine(aJ (st':=bS 51 [(0,.c (.ptr 0 0)),(10,.c (.sl 7 1 0 0)),(11,.c (.ptr 1 0))] [.pin 2 b,.cells 79 [.p (.s ru),.p (.i .i64 ve),.p (.s tx)],.cells 86 [.sl 3 7 0 D.M.length,.mp 4,.mp 5],.row 31 7 D.M.length (aQ aI D.M),.mapb (bQ aB 81) D.gp,.mapl (bQ aB 79) 3 1 D.gs (some (iI ru ve tx,.sl 6 1 0 S.length)),.row 3 1 S.length (fun e o=>.p ((D.gs (iI ru ve tx)).2 e o)),.row 3 1 0 (aQ aS [])]) (by kernel_rfl)).trans ?_
  refine iG ⟨rfl,rfl,rfl,⟨rfl,rfl,rfl,fun _ _ _ _=>rfl⟩,rfl,rfl,⟨rfl,rfl,rfl,fun e o he ho=>?_⟩,⟨rfl,rfl,rfl,fun _ _ _ _=>rfl⟩,trivial⟩;exact congrArg C.p (s2 e o he ho)
 refine eL.pre ((aJ (by kernel_rfl)).trans w1) ?_
 refine eL.evG oP 1 (tV2 D b ve ru tx S) ?_;simp only[bB,aL,cF];refine⟨⟨⟨trivial,t2⟩,rfl⟩,⟨?_⟩⟩
 refine eL.loop' (l:=bJ 1 (bJ 6 (cW aB Try.f16))) (b:=inr (inr (bF .skip (cW aB Try.f16) 7))) (r:=bJ 8 (cW aB Try.f16)) (id:=0) (by kernel_rfl) (σ:=Nat×List Int)
   (fun(i,out)=>(fun k=>bS 51 [(0,.c (.ptr 0 0)),(10,.c (.sl 1 1 0 k)),(11,.c (.ptr 2 0)),(29,.c (.sl 3 1 0 S.length)),(30,iV (S.length:Nat)),(31,iV (i:Nat))] [.pin 4 b,.row 3 1 k (aQ aS out),.cells 79 [.p (.s ru),.p (.i .i64 ve),.p (.s tx)],.row 3 1 S.length (aQ aS S),.cells 86 [.sl 5 7 0 D.M.length,.mp 6,.mp 7],.row 31 7 D.M.length (aQ aI D.M),.mapb (bQ aB 81) D.gp,.mapl (bQ aB 79) 3 1 D.gs (some (iI ru ve tx,.sl 3 1 0 S.length))]) out.length) (fun(i,out)=>i≤S.length∧out.length≤i∧out=rW D.gp ru ve tx (S.take i)) (fun(i,_)=>S.length-i) (0,[]) ⟨by omega,by simp,by simp[rW]⟩ (aJ (by kernel_rfl)) ?_
 rintro⟨i,out⟩ ⟨i1,i2,i3⟩ Q1 q1n q1e -;refine eL.evH (keep:=eZ 51 [0,10,11,29,30,31]) oP (tV3 D b ve ru tx S out out.length i) ?_;simp only[bZ,bB,aL,cF,mC,decide_eq_true_eq,decide_eq_false_iff_not,eV,show ∀x:Nat,x+0=x from fun _=>rfl,dP]
 have hnext:i<S.length→rW D.gp ru ve tx (S.take (i+1))=out++(match (D.gp (kK ru ve tx (S.getD i default))).getD false with
  |true=>[S.getD i default]
  |false=>[]):=fun hlt=>by
  rw[i3,←MM];congr 1;rw[List.take_succ_eq_append_getElem hlt,aD,aM hlt];rfl
 refine⟨fun hlt=>?_,fun hge=>⟨?_⟩⟩
 ·have hlt:i<S.length:=by omega
  have hn:=hnext hlt
  have hmem:bQ aB 81 (kK ru ve tx (S.getD i default))=true:=t3 _ (by
   rw[aD,aM hlt]
   exact jI _)
  refine⟨⟨by omega,by omega⟩,hlt,⟨trivial,hmem⟩,fun hg=>⟨trivial,aW _,⟨by omega,by omega,aD5 _⟩,⟨by omega,by omega⟩,⟨?_⟩⟩,fun hg=>⟨⟨by omega,by omega⟩,⟨?_⟩⟩⟩
  ·have hg:(D.gp (kK ru ve tx (S.getD i default))).getD false=true:=hg
   rw[hg]at hn;refine q1n (i+1,out++[S.getD i default]) _ ⟨by omega,by simp;omega,hn.symm⟩ (by simp only;omega) ?_
   show cQ G _ ((fun k i out=>bS 51 [(0,.c (.ptr 0 0)),(10,.c (.sl 1 1 0 k)),(11,.c (.ptr 2 0)),(29,.c (.sl 3 1 0 S.length)),(30,iV (S.length:Nat)),(31,iV (i:Nat))] [.pin 4 b,.row 3 1 k (aQ aS out),.cells 79 [.p (.s ru),.p (.i .i64 ve),.p (.s tx)],.row 3 1 S.length (aQ aS S),.cells 86 [.sl 5 7 0 D.M.length,.mp 6,.mp 7],.row 31 7 D.M.length (aQ aI D.M),.mapb (bQ aB 81) D.gp,.mapl (bQ aB 79) 3 1 D.gs (some (iI ru ve tx,.sl 3 1 0 S.length))]) (out++[S.getD i default]).length (i+1) (out++[S.getD i default]))
   rw[show (out++[S.getD i default]).length=out.length+1 by simp];exact iG ⟨rfl,⟨rfl,rfl,rfl,fun e o he ho=>oT (ρ:=[0,9,2,3,4,5,6,7]) rfl (yD _) he ho⟩,rfl,⟨rfl,rfl,rfl,fun _ _ _ _=>rfl⟩,rfl,⟨rfl,rfl,rfl,fun _ _ _ _=>rfl⟩,rfl,rfl,trivial⟩
  ·have hg:(D.gp (kK ru ve tx (S.getD i default))).getD false=false:=hg
   rw[hg]at hn
   exact q1n (i+1,out) _ ⟨by omega,by omega,by rw[hn];simp⟩ (by simp only;omega) (aJ (by kernel_rfl))
 ·obtain rfl:i=S.length:=by omega
  rw[fS]at i3;rw[←i3]at q1e;refine q1e _ (eL.pre (st2:=(fun k=>bS 51 [(0,.c (.ptr 0 0)),(10,.c (.sl 1 1 0 k))] [.pin 2 b,.row 3 1 k (aQ aS out),.cells 86 [.sl 3 7 0 D.M.length,.mp 4,.mp 5],.row 31 7 D.M.length (aQ aI D.M),.mapb (bQ aB 81) D.gp,.mapl (bQ aB 79) 3 1 D.gs none]) out.length) ?_ ?_)
  ·refine(aJ (st':=(fun k i=>bS 51 [(0,.c (.ptr 0 0)),(10,.c (.sl 1 1 0 k)),(11,.c (.ptr 2 0)),(29,.c (.sl 3 1 0 S.length)),(30,iV (S.length:Nat)),(31,iV (i:Nat))] [.pin 4 b,.row 3 1 k (aQ aS out),.cells 79 [.p (.s ru),.p (.i .i64 ve),.p (.s tx)],.row 3 1 S.length (aQ aS S),.cells 86 [.sl 5 7 0 D.M.length,.mp 6,.mp 7],.row 31 7 D.M.length (aQ aI D.M),.mapb (bQ aB 81) D.gp,.mapl (bQ aB 79) 3 1 D.gs (some (iI ru ve tx,.sl 3 1 0 S.length))]) out.length S.length) (by kernel_rfl)).trans ?_
   refine(sY (id:=7) (m:=3) (k0:=iI ru ve tx) (n:=S.length) (h:=aQ aS S) (D.gs (iI ru ve tx)).2 (by rfl) (by rfl) (fun e o he ho=>(congrArg C.p (s2 e o he ho)).symm)).trans ?_;rw[GT _ _ _ s1]
   exact(fG (eZ 51 [0,10]) _).trans (aJ (by kernel_rfl))
  ·refine eL.evG (NY out) 1 (tV4 D b out out.length) ?_
   simp only[bB,aL,cF];refine⟨⟨trivial,trivial,fun _ _ _ _=>rfl,by omega⟩,⟨?_⟩⟩;rw[←kB out]
   refine eL.pre ((kZ (j:=10) (id:=1) (ty:=3) (sz:=1) (n:=(iC out).length) (off:=0) (len:=(iC out).length) (f:=fun e o=>bP [0,1,2,3,4,5] (aQ aS (iC out) e o)) (by kernel_rfl) (by kernel_rfl) (by omega) (fun _ _ _ _=>rfl)).trans ((fG (eZ 51 [0,10]) _).trans (aJ (st':=(fun out=>bS 51 [(0,.c (.ptr 0 0)),(10,aU aS 1 out)] [.pin 1 b,.cells 86 [.sl 2 7 0 D.M.length,.mp 3,.mp 4],.row 31 7 D.M.length (aQ aI D.M),.mapb (bQ aB 81) D.gp,.mapl (bQ aB 79) 3 1 D.gs none]) (iC out)) (by kernel_rfl)))) ?_
   refine eL.evH (keep:=[]) aX (tree:=.done .ret (bS 2 [(0,.c (.ptr 0 0)),(1,aU aS 1 (iC out))] (oM D b))) (by kernel_rfl) ?_
   exact aJ (by kernel_rfl)
set_option maxRecDepth 100000 in
theorem LS(D:Ld)(ru:ByteArray)(ve:Int)(L:List (ByteArray×ByteArray))(S:List Int)(hS:FT D (iI ru ve (cE L)) S)(hT:hJ (⟨0,ru,ve,L,0,0,⟨#[]⟩⟩:Pg)=true→(cE L).size≤1000000∧bQ aB 79 (iI ru ve (cE L))=true∧(∀t∈S,bQ aB 81 (kK ru ve (cE L) t)=true)∧S.length≤1000000)(rest:List AO):jN aB G 16 [.c (.ptr 0 0),.c (.p (.s ru)),iV ve,aU aN 2 L] (lN D rest) fun x h'=>x=nD D ru ve L S∧h'=iL [0,1,2,3] [0] [1] (lN D rest) (oM D 0):=by
 refine fun β R w vs ha hh=>(aCY Try.func16 (by kernel_rfl) (args:=[.c (.p (.s ru)),iV ve,aU aN 2 L]) (vs:=[nD D ru ve L S]) (D':=D) (fun b=>QJ D ru ve L S hS hT rest b _) β R w vs ha hh).mono ?_
 rintro e w' ⟨u,β',R',x,h',rfl,⟨hx,hh'⟩,hr⟩;refine⟨u,β',R',x,h',rfl,⟨hx.trans ?_,hh'⟩,hr⟩;unfold nD;cases hJ (⟨0,ru,ve,L,0,0,⟨#[]⟩⟩:Pg)<;>rfl
end
noncomputable def aJC:Ext:=jV [(45,AV)]
theorem tM1(D:Ld)(rest:List AO)(b:Nat)(ve se:Int)(ru:ByteArray)(L:List (ByteArray×ByteArray))(T:List Int):dC IM (dH 6 (cW aB Try.f17)) (jJ Try.f17 [0,1,2,3] [0] [b] [.c (.ptr 0 0),.c (.p (.s ru)),iV ve,aU aN 2 L,aU aS 1 T,iV se] (lN D rest)) (gG [0] (eZ 95 [0,4,13,14,34,35,36]) (bI aB Try.f17))=Tr.rq (kA aN 2 (bO cT L.length (aE aN L)) L.length (aE aN L))
 (bT (!hJ (Pg.mk 0 ru ve (bO cT L.length (aE aN L)) 0 se (aG #[])))
 (.done .ret
 (bS 2 [(0,.c (.ptr 0 0)),(1,.c (.p (.z (bA none 0 0))))] [.pin 1 b,.cells 86 [.sl 2 7 0 D.M.length,.mp 3,.mp 4],.row 31 7 D.M.length fun e o=>bP [4,0,1,2,3] (bP [0,1,2,3] (aQ aI D.M e o)),.mapb (bQ aB 81) D.gp,.mapl (bQ aB 79) 3 1 D.gs none]))
 (.done .normal
 (bS 95 [(0,.c (.ptr 0 0)),(4,.c (.p (.l 1 T.length (aE aS T)))),(13,.c (.ptr 1 0)),(14,.c (.mp 2)),(34,.c (.p (.l 1 T.length (aE aS T)))),(35,.c (.p (.i .i64 (↑T.length:Int)))),(36,.c (.p (.i .i64 0)))] [.pin 3 b,.cells 31 [.p (.i .i64 0),.p (.s ru),.p (.i .i64 ve),.p (.l 2 L.length (aE aN L)),.p (.i .i64 0),.p (.i .i64 se),.p (.s (aG #[]))],.mapb (bQ aB 3) fun x=>none,.cells 86 [.sl 4 7 0 D.M.length,.mp 5,.mp 6],.row 31 7 D.M.length fun e o=>bP [4,5,6,0,1,2,3] (bP [0,1,2,3] (aQ aI D.M e o)),.mapb (bQ aB 81) D.gp,.mapl (bQ aB 79) 3 1 D.gs none]))):=by kernel_rfl
theorem tM2(D:Ld)(b i:Nat)(ve se:Int)(ru:ByteArray)(L:List (ByteArray×ByteArray))(T:List Int)(nw:Value→Option Bool):dC aJC (gR (cW aB Try.f17) 6) (bS 95 [(0,.c (.ptr 0 0)),(4,aU aS 1 T),(13,.c (.ptr 1 0)),(14,.c (.mp 2)),(34,aU aS 1 T),(35,iV (T.length:Nat)),(36,iV (i:Nat))] [.pin 3 b,.cells 31 [.p (.i .i64 0),.p (.s ru),.p (.i .i64 ve),.p (bY aN 2 L),.p (.i .i64 0),.p (.i .i64 se),.p (.s ⟨#[]⟩)],.mapb (bQ aB 3) nw,.cells 86 [.sl 4 7 0 D.M.length,.mp 5,.mp 6],.row 31 7 D.M.length (aQ aI D.M),.mapb (bQ aB 81) D.gp,.mapl (bQ aB 79) 3 1 D.gs none]) (gG [0] (eZ 95 [0,4,13,14,34,35,36]) (bI aB Try.f17))=bT (decide ((↑i:Int)<(↑T.length:Int)))
 (.rq (0≤(↑i:Int)∧(↑i:Int)<(↑T.length:Int))
 (.rq True
 (bT (!gQ (T.getD (↑i:Int).toNat default))
 (.done .ret
 (bS 2 [(0,.c (.ptr 0 0)),(1,.c (.p (.z (bA none 0 0))))] [.pin 1 b,.cells 86 [.sl 2 7 0 D.M.length,.mp 3,.mp 4],.row 31 7 D.M.length fun e o=>bP [0,3,4,5,6] (aQ aI D.M e o),.mapb (bQ aB 81) D.gp,.mapl (bQ aB 79) 3 1 D.gs none]))
 (.rq (bQ aB 3=bQ aB 3∧bQ aB 3 (cL aC (T.getD (↑i:Int).toNat default))=true)
 (.rq (eV aC ((↑i:Int)+1))
 (.done .normal
 (bS 95 [(0,.c (.ptr 0 0)),(4,.c (.p (.l 1 T.length (aE aS T)))),(13,.c (.ptr 1 0)),(14,.c (.mp 2)),(34,.c (.p (.l 1 T.length (aE aS T)))),(35,.c (.p (.i .i64 (↑T.length:Int)))),(36,.c (.p (.i .i64 ((↑i:Int)+1))))] [.pin 3 b,.cells 31 [.p (.i .i64 0),.p (.s ru),.p (.i .i64 ve),.p (.l 2 L.length (aE aN L)),.p (.i .i64 0),.p (.i .i64 se),.p (.s (aG #[]))],.mapb (bQ aB 3) (tG nw (cL aC (T.getD (↑i:Int).toNat default)) true),.cells 86 [.sl 4 7 0 D.M.length,.mp 5,.mp 6],.row 31 7 D.M.length fun e o=>bP [0,1,2,3,4,5,6] (aQ aI D.M e o),.mapb (bQ aB 81) D.gp,.mapl (bQ aB 79) 3 1 D.gs none])))))))
 (.done (.exit 0)
 (bS 95 [(0,.c (.ptr 0 0)),(4,.c (.p (.l 1 T.length (aE aS T)))),(13,.c (.ptr 1 0)),(14,.c (.mp 2)),(34,.c (.p (.l 1 T.length (aE aS T)))),(35,.c (.p (.i .i64 (↑T.length:Int)))),(36,.c (.p (.i .i64 (↑i:Int))))] [.pin 3 b,.cells 31 [.p (.i .i64 0),.p (.s ru),.p (.i .i64 ve),.p (.l 2 L.length (aE aN L)),.p (.i .i64 0),.p (.i .i64 se),.p (.s (aG #[]))],.mapb (bQ aB 3) nw,.cells 86 [.sl 4 7 0 D.M.length,.mp 5,.mp 6],.row 31 7 D.M.length fun e o=>bP [0,1,2,3,4,5,6] (aQ aI D.M e o),.mapb (bQ aB 81) D.gp,.mapl (bQ aB 79) 3 1 D.gs none])):=by kernel_rfl
theorem tM3(D:Ld)(b:Nat)(ve se:Int)(ru:ByteArray)(L:List (ByteArray×ByteArray))(T:List Int)(nw:Value→Option Bool):dC IM (dH 1 (bJ 7 (cW aB Try.f17))) (bS 95 [(0,.c (.ptr 0 0)),(4,aU aS 1 T),(13,.c (.ptr 1 0)),(14,.c (.mp 2))] [.pin 3 b,.cells 31 [.p (.i .i64 0),.p (.s ru),.p (.i .i64 ve),.p (bY aN 2 L),.p (.i .i64 0),.p (.i .i64 se),.p (.s ⟨#[]⟩)],.mapb (bQ aB 3) nw,.cells 86 [.sl 4 7 0 D.M.length,.mp 5,.mp 6],.row 31 7 D.M.length (aQ aI D.M),.mapb (bQ aB 81) D.gp,.mapl (bQ aB 79) 3 1 D.gs none]) (gG [0] (eZ 95 [0,4,13,14,17]) (bI aB Try.f17))=Tr.rq (kA aN 2 (bO cT L.length (aE aN L)) L.length (aE aN L)∧(cE (bO cT L.length (aE aN L))).size≤1000000)
 (.done .normal
 (bS 95 [(0,.c (.ptr 0 0)),(4,.c (.p (.l 1 T.length (aE aS T)))),(13,.c (.ptr 1 0)),(14,.c (.mp 2)),(17,.c (.ptr 3 0))] [.pin 4 b,.cells 31 [.p (.i .i64 0),.p (.s ru),.p (.i .i64 ve),.p (.l 2 L.length (aE aN L)),.p (.i .i64 0),.p (.i .i64 se),.p (.s (aG #[]))],.mapb (bQ aB 3) nw,.cells 79 [.p (.s ru),.p (.i .i64 ve),.p (.s (cE (bO cT L.length (aE aN L))))],.cells 86 [.sl 5 7 0 D.M.length,.mp 6,.mp 7],.row 31 7 D.M.length fun e o=>bP [0,1,2,7,3,4,5,6] (aQ aI D.M e o),.mapb (bQ aB 81) D.gp,.mapl (bQ aB 79) 3 1 D.gs none])):=by kernel_rfl
noncomputable def aK7(A:List Int):Ext:=aIA 46 KJ (lH [(44,KA A),(47,SN (iC A))])
noncomputable def aKA(D:Ld):Ext:=lH [(48,aHE D),(49,tT aCH)]
theorem tM4(D:Ld)(b:Nat)(ve se:Int)(ru tx:ByteArray)(L:List (ByteArray×ByteArray))(S T:List Int)(nw:Value→Option Bool):dC (aK7 (S++T)) (dH 4 (bJ 1 (bJ 7 (cW aB Try.f17)))) (bS 95 [(0,.c (.ptr 0 0)),(4,aU aS 1 T),(13,.c (.ptr 1 0)),(14,.c (.mp 2)),(17,.c (.ptr 3 0))] [.pin 4 b,.cells 31 [.p (.i .i64 0),.p (.s ru),.p (.i .i64 ve),.p (bY aN 2 L),.p (.i .i64 0),.p (.i .i64 se),.p (.s ⟨#[]⟩)],.mapb (bQ aB 3) nw,.cells 79 [.p (.s ru),.p (.i .i64 ve),.p (.s tx)],.cells 86 [.sl 5 7 0 D.M.length,.mp 6,.mp 7],.row 31 7 D.M.length (aQ aI D.M),.mapb (bQ aB 81) D.gp,.mapl (bQ aB 79) 3 1 D.gs (some (iI ru ve tx,.sl 8 1 0 S.length)),.row 3 1 S.length (aQ aS S)]) (gG [0] (eZ 95 [0,13,14,17,19,61,62,63]) (bI aB Try.f17))=Tr.rq
 ((bQ aB 79=bQ aB 79∧bQ aB 79 (iB #[cP ru,cL aC ve,cP tx])=true) ∧
 iB #[cP ru,cL aC ve,cP tx]=iI ru ve tx)
 (.rq (0+S.length≤S.length∧∀(e o:Nat),e<S.length→o<1→BA (aQ aS S e o)=true)
 (.rq
 ((((kA aS 1 (bO gI S.length fun e o=>mI (aQ aS S (e+0) o)) S.length fun e o=>mI (aQ aS S (e+0) o)) ∧
 kA aS 1 (bO gI T.length (aE aS T)) T.length (aE aS T)) ∧
 (bO gI S.length fun e o=>mI (aQ aS S (e+0) o)).length+(bO gI T.length (aE aS T)).length≤1000000) ∧
 ((bO gI S.length fun e o=>mI (aQ aS S (e+0) o))++bO gI T.length (aE aS T)).length =
 ((bO gI S.length fun e o=>mI (aQ aS S (e+0) o))++bO gI T.length (aE aS T)).length ∧
 ∀(e o:Nat),
 e<((bO gI S.length fun e o=>mI (aQ aS S (e+0) o))++bO gI T.length (aE aS T)).length →
 o<1→scC (C.p (aE aS ((bO gI S.length fun e o=>mI (aQ aS S (e+0) o))++bO gI T.length (aE aS T)) e o))=true)
 (.rq
 (((bO gI S.length fun e o=>mI (aQ aS S (e+0) o))++bO gI T.length (aE aS T)).length=(S++T).length ∧
 ((bO gI S.length fun e o=>mI (aQ aS S (e+0) o))++bO gI T.length (aE aS T)).length=(S++T).length ∧
 (aAV (S++T) fun e o=>C.p (aE aS ((bO gI S.length fun e o=>mI (aQ aS S (e+0) o))++bO gI T.length (aE aS T)) e o))∧(S++T).length≤1000000)
 (.rq
 (((bO gI S.length fun e o=>mI (aQ aS S (e+0) o))++bO gI T.length (aE aS T)).length=(iC (S++T)).length ∧
 (S++T).length=(iC (S++T)).length∧aAV (iC (S++T)) (aQ aS (iC (S++T)))∧(iC (S++T)).length≤1000000)
 (.done .normal
 (bS 95 [(0,.c (.ptr 0 0)),(13,.c (.ptr 1 0)),(14,.c (.mp 2)),(17,.c (.ptr 3 0)),(19,.c (.p (.z (bA none 0 0)))),(61,.c (.sl 4 1 0 (kH (iC (S++T))).length)),(62,.c (.p (.i .i64 (↑(kH (iC (S++T))).length:Int)))),(63,.c (.p (.i .i64 0)))] [.pin 5 b,.cells 31 [.p (.i .i64 0),.p (.s ru),.p (.i .i64 ve),.p (.l 2 L.length (aE aN L)),.p (.i .i64 0),.p (.i .i64 se),.p (.s (aG #[]))],.mapb (bQ aB 3) nw,.cells 79 [.p (.s ru),.p (.i .i64 ve),.p (.s tx)],.row 3 1 (kH (iC (S++T))).length fun e o=>bP [0,1,2,3,10,4,5,6,7,8] (aQ aS (kH (iC (S++T))) e o),.cells 86 [.sl 6 7 0 D.M.length,.mp 7,.mp 8],.row 31 7 D.M.length fun e o=>bP [0,1,2,3,10,4,5,6,7,8] (aQ aI D.M e o),.mapb (bQ aB 81) D.gp,.mapl (bQ aB 79) 3 1 D.gs (some (iI ru ve tx,C.sl 9 1 0 S.length)),.row 3 1 S.length fun e o=>bP [0,1,2,3,10,4,5,6,7,8] (aQ aS S e o)])))))):=by kernel_rfl
theorem tM5(D:Ld)(b i k:Nat)(kd ve st se:Int)(ru tx:ByteArray)(L:List (ByteArray×ByteArray))(A:List Int)(out:List Pg)(nw:Value→Option Bool):dC (aKA D) (gR (cW aB Try.f17) 12) (bS 95 [(0,.c (.ptr 4 0)),(13,.c (.ptr 5 0)),(14,.c (.mp 6)),(17,.c (.ptr 7 0)),(19,.c (.sl 8 7 0 k)),(61,aU aS 1 A),(62,iV (A.length:Nat)),(63,iV (i:Nat))] (lN D [.pin 0 b,.cells 31 [.p (.i .i64 kd),.p (.s ru),.p (.i .i64 ve),.p (bY aN 2 L),.p (.i .i64 st),.p (.i .i64 se),.p (.s ⟨#[]⟩)],.mapb (bQ aB 3) nw,.cells 79 [.p (.s ru),.p (.i .i64 ve),.p (.s tx)],.row 31 7 k (aQ aI out)])) (gG [0] (eZ 95 [0,13,14,17,19,61,62,63]) (bI aB Try.f17))=bT (decide ((↑i:Int)<(↑A.length:Int)))
 (.rq (0≤(↑i:Int)∧(↑i:Int)<(↑A.length:Int))
 (.rq
 (bQ aB 81=bQ aB 81∧bQ aB 81 (iB #[cP ru,cL aC ve,cP tx,cL aC (A.getD (↑i:Int).toNat default)])=true)
 (.rq (bQ aB 3=bQ aB 3∧bQ aB 3 (cL aC (A.getD (↑i:Int).toNat default))=true)
 (bT
 ((D.gp (iB #[cP ru,cL aC ve,cP tx,cL aC (A.getD (↑i:Int).toNat default)])).getD false ==
 (nw (cL aC (A.getD (↑i:Int).toNat default))).getD false)
 (.rq (eV aC ((↑i:Int)+1))
 (.done .normal
 (bS 95 [(0,.c (.ptr 0 0)),(13,.c (.ptr 1 0)),(14,.c (.mp 2)),(17,.c (.ptr 3 0)),(19,.c (.sl 4 7 0 k)),(61,.c (.p (.l 1 A.length (aE aS A)))),(62,.c (.p (.i .i64 (↑A.length:Int)))),(63,.c (.p (.i .i64 ((↑i:Int)+1))))] [.pin 5 b,.cells 31 [.p (.i .i64 kd),.p (.s ru),.p (.i .i64 ve),.p (.l 2 L.length (aE aN L)),.p (.i .i64 st),.p (.i .i64 se),.p (.s (aG #[]))],.mapb (bQ aB 3) nw,.cells 79 [.p (.s ru),.p (.i .i64 ve),.p (.s tx)],.row 31 7 k fun e o=>bP [4,5,6,7,8,0,1,2,3] (aQ aI out e o),.cells 86 [.sl 6 7 0 D.M.length,.mp 7,.mp 8],.row 31 7 D.M.length fun e o=>bP [4,5,6,7,8,0,1,2,3] (aQ aI D.M e o),.mapb (bQ aB 81) D.gp,.mapl (bQ aB 79) 3 1 D.gs none])))
 (bT ((D.gp (iB #[cP ru,cL aC ve,cP tx,cL aC (A.getD (↑i:Int).toNat default)])).getD false)
 (.rq
 (kA aN 2 (bO cT L.length (aE aN L)) L.length (aE aN L) ∧
 (D.M.length=D.M.length ∧
 D.M.length=D.M.length∧aQ aI D.M=aQ aI D.M∧bQ aB 81=bQ aB 81∧D.gp=D.gp∧bQ aB 79=bQ aB 79∧D.gs=D.gs) ∧
 sP D (Pg.mk 1 ru ve (bO cT L.length (aE aN L)) (A.getD (↑i:Int).toNat default) se (aG #[])))
 (.rq (kA aN 2 (bO cT L.length (aE aN L)) L.length (aE aN L)∧(bO cT L.length (aE aN L)).length≤1000000)
 (.rq (k=k)
 (.rq (1≤1)
 (.rq
 ((k+1)*88≤140737488355328 ∧
 k+1≤140737488355328 ∧
 ∀(e o:Nat),
 e<1 →
 o<7 →
 iH
 (lM
 [C.p (PV.i aC 1),C.p (PV.s ru),C.p (PV.i aC ve),
 C.p (PV.l 2 (bO cT L.length (aE aN L)).length (aE aN (bO cT L.length (aE aN L)))),C.p (PV.i aC (A.getD (↑i:Int).toNat default)),
 C.p (PV.i aC se),C.p (PV.s (aG #[]))]
 7 1 (e+0) o) =
 true)
 (.rq (eV aC ((↑i:Int)+1))
 (.done .normal
 (bS 95 [(0,.c (.ptr 0 0)),(13,.c (.ptr 1 0)),(14,.c (.mp 2)),(17,.c (.ptr 3 0)),(19,.c (.sl 4 7 0 (k+1))),(61,.c (.p (.l 1 A.length (aE aS A)))),(62,.c (.p (.i .i64 (↑A.length:Int)))),(63,.c (.p (.i .i64 ((↑i:Int)+1))))] [.pin 5 b,.cells 31 [.p (.i .i64 1),.p (.s ru),.p (.i .i64 ve),.p (.l 2 L.length (aE aN L)),.p (.i .i64 (A.getD (↑i:Int).toNat default)),.p (.i .i64 se),.p (.s (aG #[]))],.mapb (bQ aB 3) nw,.cells 79 [.p (.s ru),.p (.i .i64 ve),.p (.s tx)],.row 31 7 (k+1) fun e o=>bP [4,5,6,7,15,0,11,12,13] (fC k (aQ aI out) (fun e o=>bF C.top [C.p (PV.i aC 1),C.p (PV.s ru),C.p (PV.i aC ve),C.p (PV.l 2 (bO cT L.length (aE aN L)).length (aE aN (bO cT L.length (aE aN L)))),C.p (PV.i aC (A.getD (↑i:Int).toNat default)),C.p (PV.i aC se),C.p (PV.s (aG #[]))] ((e+0)*7+o)) e o),.cells 86 [.sl 6 7 0 (gF D (Pg.mk 1 ru ve (bO cT L.length (aE aN L)) (A.getD (↑i:Int).toNat default) se (aG #[]))).M.length,.mp 7,.mp 8],.row 31 7 (gF D (Pg.mk 1 ru ve (bO cT L.length (aE aN L)) (A.getD (↑i:Int).toNat default) se (aG #[]))).M.length fun e o=>bP [4,5,6,7,15,0,11,12,13] (C.p (aE aI (gF D (Pg.mk 1 ru ve (bO cT L.length (aE aN L)) (A.getD (↑i:Int).toNat default) se (aG #[]))).M e o)),.mapb (bQ aB 81) (gF D (Pg.mk 1 ru ve (bO cT L.length (aE aN L)) (A.getD (↑i:Int).toNat default) se (aG #[]))).gp,.mapl (bQ aB 79) 3 1 (gF D (Pg.mk 1 ru ve (bO cT L.length (aE aN L)) (A.getD (↑i:Int).toNat default) se (aG #[]))).gs none]))))))))
 (.rq
 (kA aN 2 (bO cT L.length (aE aN L)) L.length (aE aN L) ∧
 (D.M.length=D.M.length ∧
 D.M.length=D.M.length∧aQ aI D.M=aQ aI D.M∧bQ aB 81=bQ aB 81∧D.gp=D.gp∧bQ aB 79=bQ aB 79∧D.gs=D.gs) ∧
 sP D (Pg.mk 2 ru ve (bO cT L.length (aE aN L)) (A.getD (↑i:Int).toNat default) se (aG #[])))
 (.rq (kA aN 2 (bO cT L.length (aE aN L)) L.length (aE aN L)∧(bO cT L.length (aE aN L)).length≤1000000)
 (.rq (k=k)
 (.rq (1≤1)
 (.rq
 ((k+1)*88≤140737488355328 ∧
 k+1≤140737488355328 ∧
 ∀(e o:Nat),
 e<1 →
 o<7 →
 iH
 (lM
 [C.p (PV.i aC 2),C.p (PV.s ru),C.p (PV.i aC ve),
 C.p (PV.l 2 (bO cT L.length (aE aN L)).length (aE aN (bO cT L.length (aE aN L)))),C.p (PV.i aC (A.getD (↑i:Int).toNat default)),
 C.p (PV.i aC se),C.p (PV.s (aG #[]))]
 7 1 (e+0) o) =
 true)
 (.rq (eV aC ((↑i:Int)+1))
 (.done .normal
 (bS 95 [(0,.c (.ptr 0 0)),(13,.c (.ptr 1 0)),(14,.c (.mp 2)),(17,.c (.ptr 3 0)),(19,.c (.sl 4 7 0 (k+1))),(61,.c (.p (.l 1 A.length (aE aS A)))),(62,.c (.p (.i .i64 (↑A.length:Int)))),(63,.c (.p (.i .i64 ((↑i:Int)+1))))] [.pin 5 b,.cells 31 [.p (.i .i64 2),.p (.s ru),.p (.i .i64 ve),.p (.l 2 L.length (aE aN L)),.p (.i .i64 (A.getD (↑i:Int).toNat default)),.p (.i .i64 se),.p (.s (aG #[]))],.mapb (bQ aB 3) nw,.cells 79 [.p (.s ru),.p (.i .i64 ve),.p (.s tx)],.row 31 7 (k+1) fun e o=>bP [4,5,6,7,15,0,11,12,13] (fC k (aQ aI out) (fun e o=>bF C.top [C.p (PV.i aC 2),C.p (PV.s ru),C.p (PV.i aC ve),C.p (PV.l 2 (bO cT L.length (aE aN L)).length (aE aN (bO cT L.length (aE aN L)))),C.p (PV.i aC (A.getD (↑i:Int).toNat default)),C.p (PV.i aC se),C.p (PV.s (aG #[]))] ((e+0)*7+o)) e o),.cells 86 [.sl 6 7 0 (gF D (Pg.mk 2 ru ve (bO cT L.length (aE aN L)) (A.getD (↑i:Int).toNat default) se (aG #[]))).M.length,.mp 7,.mp 8],.row 31 7 (gF D (Pg.mk 2 ru ve (bO cT L.length (aE aN L)) (A.getD (↑i:Int).toNat default) se (aG #[]))).M.length fun e o=>bP [4,5,6,7,15,0,11,12,13] (C.p (aE aI (gF D (Pg.mk 2 ru ve (bO cT L.length (aE aN L)) (A.getD (↑i:Int).toNat default) se (aG #[]))).M e o)),.mapb (bQ aB 81) (gF D (Pg.mk 2 ru ve (bO cT L.length (aE aN L)) (A.getD (↑i:Int).toNat default) se (aG #[]))).gp,.mapl (bQ aB 79) 3 1 (gF D (Pg.mk 2 ru ve (bO cT L.length (aE aN L)) (A.getD (↑i:Int).toNat default) se (aG #[]))).gs none])))))))))))))
 (.done (.exit 2)
 (bS 95 [(0,.c (.ptr 0 0)),(13,.c (.ptr 1 0)),(14,.c (.mp 2)),(17,.c (.ptr 3 0)),(19,.c (.sl 4 7 0 k)),(61,.c (.p (.l 1 A.length (aE aS A)))),(62,.c (.p (.i .i64 (↑A.length:Int)))),(63,.c (.p (.i .i64 (↑i:Int))))] [.pin 5 b,.cells 31 [.p (.i .i64 kd),.p (.s ru),.p (.i .i64 ve),.p (.l 2 L.length (aE aN L)),.p (.i .i64 st),.p (.i .i64 se),.p (.s (aG #[]))],.mapb (bQ aB 3) nw,.cells 79 [.p (.s ru),.p (.i .i64 ve),.p (.s tx)],.row 31 7 k fun e o=>bP [4,5,6,7,8,0,1,2,3] (aQ aI out e o),.cells 86 [.sl 6 7 0 D.M.length,.mp 7,.mp 8],.row 31 7 D.M.length fun e o=>bP [4,5,6,7,8,0,1,2,3] (aQ aI D.M e o),.mapb (bQ aB 81) D.gp,.mapl (bQ aB 79) 3 1 D.gs none])):=by kernel_rfl
noncomputable def nwF(T:List Int):Value→Option Bool:=T.foldl (fun g t=>tG g (.int .i64 t) true) fun _=>none
theorem aC6(T:List Int)(t:Int):nwF (T++[t])=tG (nwF T) (.int .i64 t) true:=by
 unfold nwF;rw[List.foldl_append];rfl
theorem aC7(T:List Int):∀(g:Value→Option Bool) (t:Int),((T.foldl (fun g t=>tG g (.int .i64 t) true) g) (.int .i64 t)).getD false=(decide (t∈T)||(g (.int .i64 t)).getD false):=by
 induction T with
 |nil=>intro g t;simp
 |cons x T ih=>
  intro g t;rw[List.foldl_cons,ih];unfold tG
  by_cases h:t=x
  ·subst h;simp
  ·simp[h]
theorem aH2(T:List Int)(t:Int):(nwF T (.int .i64 t)).getD false=decide (t∈T):=by
 unfold nwF;rw[aC7];simp
noncomputable def kW(T:List Int)(ru:ByteArray)(ve:Int)(L:List (ByteArray×ByteArray))(se:Int)(r:Ld×List Pg)(t:Int):Ld×List Pg:=
 match (r.1.gp (kK ru ve (cE L) t)).getD false,decide (t∈T) with
 |true,true=>r
 |false,false=>r
 |true,false=>(gF r.1 ⟨1,ru,ve,L,t,se,⟨#[]⟩⟩,r.2++[⟨1,ru,ve,L,t,se,⟨#[]⟩⟩])
 |false,true=>(gF r.1 ⟨2,ru,ve,L,t,se,⟨#[]⟩⟩,r.2++[⟨2,ru,ve,L,t,se,⟨#[]⟩⟩])
noncomputable def nG(T:List Int)(ru:ByteArray)(ve:Int)(L:List (ByteArray×ByteArray))(se:Int)(D:Ld)(A:List Int):Ld×List Pg:=A.foldl (kW T ru ve L se) (D,[])
noncomputable def kJ(D:Ld)(ru:ByteArray)(ve:Int)(L:List (ByteArray×ByteArray))(S T:List Int)(se:Int):V×Ld:=match hJ (⟨0,ru,ve,L,0,se,⟨#[]⟩⟩:Pg),T.all gQ with
 |true,true=>(aU aI 7 (nG T ru ve L se D (kH (iC (S++T)))).2,(nG T ru ve L se D (kH (iC (S++T)))).1)
 |_,_=>(.c (.p (.z (.slice none 0 0))),D)
theorem PY(T:List Int)(ru:ByteArray)(ve:Int)(L:List (ByteArray×ByteArray))(se:Int)(D:Ld)(A:List Int)(t:Int):nG T ru ve L se D (A++[t])=kW T ru ve L se (nG T ru ve L se D A) t:=by
 unfold nG;rw[List.foldl_append];rfl
theorem aHM(D:Ld)(p:Pg):((gF D p).gs (iI p.ru p.ve (cE p.L))).1≤(D.gs (iI p.ru p.ve (cE p.L))).1+1:=by
 unfold gF;dsimp only;cases (D.gp (kK p.ru p.ve (cE p.L) p.st)).isSome with
 |true=>exact Nat.le_succ _
 |false=>show (sX _ _ _ _).1≤_;unfold sX;rw[qZ];exact aW _
theorem zJ{L:List Int}{t:Int}:t∈iC L↔t∈L:=by unfold iC;exact List.mem_mergeSort
theorem HM{L:List Int}{t:Int}(h:t∈kH L):t∈L:=by
 unfold kH Go.Lib.compact Go.Lib.compactUpTo at h;obtain⟨j,h1,h2⟩:=List.mem_map.1 h
 have h1:=(List.mem_filter.1 h1).1
 have hj:j<L.length:=by simpa using h1
 subst h2;simp[hj]
theorem sR{α:Type}[Inhabited α]{l:List α}{i:Nat}(h:i<l.length):l.take (i+1)=l.take i++[l.getD i default]:=by
 rw[List.take_succ_eq_append_getElem h,aD,aM h];rfl
theorem rI{l:List Int}{i:Nat}(h:i<l.length):l.getD i default∈l:=by
 rw[aD,aM h];exact jI _
theorem oX{t:Int}(h:gQ t=true):eV .i64 t:=by
 unfold gQ at h;simp at h;unfold eV;omega
section
variable {G:Nat→Option Obj}
theorem NV:bH aB G aJC:=dY (by simp;exact aBN)
theorem PF(A:List Int):bH aB G (aK7 A):=TU aBZ (dZ (by simp;exact⟨US _,aH0 _⟩))
theorem PI(D:Ld):bH aB G (aKA D):=dZ (by simp;exact⟨aC3 D,aBO.lift⟩)
set_option maxRecDepth 100000 in
set_option maxHeartbeats 4000000 in
theorem TZ(D:Ld)(ru:ByteArray)(ve:Int)(L:List (ByteArray×ByteArray))(S T:List Int)(se:Int)(hS:FT D (iI ru ve (cE L)) S)(hT:hJ (⟨0,ru,ve,L,0,se,⟨#[]⟩⟩:Pg)=true→(cE L).size≤1000000∧ru.size≤1000000∧eV .i64 ve∧L.length≤1000000∧(∀t∈S,eV .i64 t)∧S.length+T.length≤100000∧D.M.length≤100000)(hTl:T.length≤1000000)(rest:List AO)(b:Nat)(Q:X→St→Prop):eL aB G (Zm [0] (bI aB Try.f17) fun s=>cQ G s ⟨[.c (.ptr 0 0)]++[(kJ D ru ve L S T se).1],oM (kJ D ru ve L S T se).2 b⟩) (cW aB Try.f17) (jJ Try.f17 [0,1,2,3] [0] [b] [.c (.ptr 0 0),.c (.p (.s ru)),iV ve,aU aN 2 L,aU aS 1 T,iV se] (lN D rest)) Q:=by
 refine eL.evG oP 6 (tM1 D rest b ve se ru L T) ?_;simp only[bZ,bB,aL,jP,cF,gK];unfold kJ;refine⟨dJ _ _ _,fun h1=>⟨?_⟩,fun h1=>⟨?_⟩⟩
 ·have h1:hJ (⟨0,ru,ve,L,0,se,⟨#[]⟩⟩:Pg)=false:=by simpa using h1
  rw[h1];exact aJ (by kernel_rfl)
 have h1:hJ (⟨0,ru,ve,L,0,se,⟨#[]⟩⟩:Pg)=true:=by simpa using h1
 obtain⟨t1,t2,t3,t4,t5,t6,t7⟩:=hT h1;clear hT;rw[h1]
 refine eL.loop' (l:=bJ 6 (cW aB Try.f17)) (b:=inr (inr (bF .skip (cW aB Try.f17) 6))) (r:=bJ 7 (cW aB Try.f17)) (id:=0) (by kernel_rfl) (σ:=Nat)
   (fun i=>(fun nw=>bS 95 [(0,.c (.ptr 0 0)),(4,aU aS 1 T),(13,.c (.ptr 1 0)),(14,.c (.mp 2)),(34,aU aS 1 T),(35,iV (T.length:Nat)),(36,iV (i:Nat))] [.pin 3 b,.cells 31 [.p (.i .i64 0),.p (.s ru),.p (.i .i64 ve),.p (bY aN 2 L),.p (.i .i64 0),.p (.i .i64 se),.p (.s ⟨#[]⟩)],.mapb (bQ aB 3) nw,.cells 86 [.sl 4 7 0 D.M.length,.mp 5,.mp 6],.row 31 7 D.M.length (aQ aI D.M),.mapb (bQ aB 81) D.gp,.mapl (bQ aB 79) 3 1 D.gs none]) (nwF (T.take i))) (fun i=>i≤T.length∧(T.take i).all gQ=true) (fun i=>T.length-i) 0 ⟨bW _,rfl⟩ (aJ (by kernel_rfl)) ?_
 rintro i ⟨i1,i2⟩ Q1 q1n q1e -;refine eL.evH (keep:=eZ 95 [0,4,13,14,34,35,36]) NV (tM2 D b i ve se ru L T (nwF (T.take i))) ?_;simp only[bZ,bB,aL,cF,mC,jP,decide_eq_true_eq,decide_eq_false_iff_not,eV,dP];refine⟨fun hlt=>?_,fun hge=>⟨?_⟩⟩
 ·have hlt:i<T.length:=by omega
  have hm:=rI hlt
  have hs:=sR hlt
  refine⟨by omega,trivial,fun h2=>⟨?_⟩,fun h2=>⟨⟨trivial,?_⟩,by omega,⟨?_⟩⟩⟩
  ·have h2:gQ (T.getD i default)=false:=by simpa using h2
   have h3:T.all gQ=false:=by
    cases hq:T.all gQ with
    |false=>rfl
    |true=>rw[fL.1 hq _ hm]at h2;cases h2
   rw[h3];exact aJ (by kernel_rfl)
  ·exact UU _ (oX (by simpa using h2))
  ·have h2:gQ (T.getD i default)=true:=by simpa using h2
   refine q1n (i+1) _ ⟨by omega,by rw[hs,List.all_append,i2];show (true&&(gQ (T.getD i default)&&true))=true;rw[h2];rfl⟩ (by omega) ?_;rw[hs,aC6]
   exact aJ (by kernel_rfl)
 ·obtain rfl:i=T.length:=by omega
  rw[fS]at i2 ⊢;refine q1e _ ?_;rw[i2];clear q1n q1e hge i1
  have hTt:∀t∈T,eV .i64 t:=fun t ht=>oX (fL.1 i2 t ht)
  have hAt:∀t∈kH (iC (S++T)),eV .i64 t:=fun t ht=>by
   have:=zJ.1 (HM ht)
   rcases dF.1 this with h|h
   ·exact t5 t h
   ·exact hTt t h
  have hAl:(kH (iC (S++T))).length≤S.length+T.length:=by
   have:=nF (iC (S++T))
   rw[kB,aV]at this;exact this
  have hnw:=aH2 T
  obtain⟨nw,hnwe⟩:∃nw,nw=nwF T:=⟨_,rfl⟩
  rw[←hnwe]at hnw ⊢
  refine eL.pre ((fG (eZ 95 [0,4,13,14]) _).trans (aJ (by kernel_rfl))) (eL.evG oP 1 (tM3 D b ve se ru L T nw) ?_)
  simp only[bZ,bB,aL,cF,gK];refine⟨⟨dJ _ _ _,t1⟩,⟨?_⟩⟩;obtain⟨s1,s2⟩:=hS
  have hmk:∀t,eV .i64 t→bQ aB 81 (kK ru ve (cE L) t)=true:=fun t ht=>xR _ _ _ _ t2 t3 t1 ht
  have hgk:=xS ru (cE L) ve t2 t3 t1
  obtain⟨tx,htx⟩:∃tx,tx=cE L:=⟨_,rfl⟩
  rw[←htx]at s1 s2 hmk hgk t1 ⊢
  have w1:cQ G (bS 95 [(0,.c (.ptr 0 0)),(4,aU aS 1 T),(13,.c (.ptr 1 0)),(14,.c (.mp 2)),(17,.c (.ptr 3 0))] [.pin 4 b,.cells 31 [.p (.i .i64 0),.p (.s ru),.p (.i .i64 ve),.p (bY aN 2 L),.p (.i .i64 0),.p (.i .i64 se),.p (.s ⟨#[]⟩)],.mapb (bQ aB 3) nw,.cells 79 [.p (.s ru),.p (.i .i64 ve),.p (.s tx)],.cells 86 [.sl 5 7 0 D.M.length,.mp 6,.mp 7],.row 31 7 D.M.length (aQ aI D.M),.mapb (bQ aB 81) D.gp,.mapl (bQ aB 79) 3 1 D.gs none]) ((fun S=>bS 95 [(0,.c (.ptr 0 0)),(4,aU aS 1 T),(13,.c (.ptr 1 0)),(14,.c (.mp 2)),(17,.c (.ptr 3 0))] [.pin 4 b,.cells 31 [.p (.i .i64 0),.p (.s ru),.p (.i .i64 ve),.p (bY aN 2 L),.p (.i .i64 0),.p (.i .i64 se),.p (.s ⟨#[]⟩)],.mapb (bQ aB 3) nw,.cells 79 [.p (.s ru),.p (.i .i64 ve),.p (.s tx)],.cells 86 [.sl 5 7 0 D.M.length,.mp 6,.mp 7],.row 31 7 D.M.length (aQ aI D.M),.mapb (bQ aB 81) D.gp,.mapl (bQ aB 79) 3 1 D.gs (some (iI ru ve tx,.sl 8 1 0 S.length)),.row 3 1 S.length (aQ aS S)]) S):=by
   refine(vX (id:=7) (iI ru ve tx) (by rfl)).trans ?_;rw[s1]
   refine(aJ (st':=bS 95 [(0,.c (.ptr 0 0)),(4,aU aS 1 T),(13,.c (.ptr 1 0)),(14,.c (.mp 2)),(17,.c (.ptr 3 0))] [.pin 4 b,.cells 31 [.p (.i .i64 0),.p (.s ru),.p (.i .i64 ve),.p (bY aN 2 L),.p (.i .i64 0),.p (.i .i64 se),.p (.s ⟨#[]⟩)],.mapb (bQ aB 3) nw,.cells 79 [.p (.s ru),.p (.i .i64 ve),.p (.s tx)],.cells 86 [.sl 5 7 0 D.M.length,.mp 6,.mp 7],.row 31 7 D.M.length (aQ aI D.M),.mapb (bQ aB 81) D.gp,.mapl (bQ aB 79) 3 1 D.gs (some (iI ru ve tx,.sl 8 1 0 S.length)),.row 3 1 S.length (fun e o=>.p ((D.gs (iI ru ve tx)).2 e o))]) (by kernel_rfl)).trans ?_
   refine iG ⟨rfl,rfl,rfl,rfl,rfl,⟨rfl,rfl,rfl,fun _ _ _ _=>rfl⟩,rfl,rfl,⟨rfl,rfl,rfl,fun e o he ho=>?_⟩,trivial⟩;exact congrArg C.p (s2 e o he ho)
  refine eL.pre ((aJ (by kernel_rfl)).trans w1) ?_
  refine eL.evG (PF (S++T)) 4 (tM4 D b ve se ru tx L S T nw) ?_;simp only[bZ,bB,aL,cF]
  have dS:(bO gI S.length fun e o=>mI (aQ aS S (e+0) o))=S:=iN S
  have dT:bO gI T.length (aE aS T)=T:=iN T
  rw[dS,dT];refine⟨⟨⟨trivial,hgk⟩,rfl⟩,⟨by omega,fun _ _ _ _=>rfl⟩,⟨⟨⟨dJ _ _ _,dJ _ _ _⟩,by omega⟩,trivial,fun _ _ _ _=>rfl⟩,⟨rfl,rfl,fun _ _ _ _=>rfl,by rw[aV];omega⟩,⟨by rw[kB],by rw[kB],fun _ _ _ _=>rfl,by rw[kB,aV];omega⟩,⟨?_⟩⟩
  have hAe:=htx
  obtain⟨A,hA⟩:∃A,A=kH (iC (S++T)):=⟨_,rfl⟩
  rw[←hA]at hAt hAl ⊢
  have w2:cQ G ((fun A S nw=>bS 95 [(0,.c (.ptr 0 0)),(13,.c (.ptr 1 0)),(14,.c (.mp 2)),(17,.c (.ptr 3 0)),(19,.c (.p (.z (.slice none 0 0)))),(61,.c (.sl 4 1 0 A.length)),(62,iV (A.length:Nat)),(63,iV 0)] [.pin 5 b,.cells 31 [.p (.i .i64 0),.p (.s ru),.p (.i .i64 ve),.p (bY aN 2 L),.p (.i .i64 0),.p (.i .i64 se),.p (.s ⟨#[]⟩)],.mapb (bQ aB 3) nw,.cells 79 [.p (.s ru),.p (.i .i64 ve),.p (.s tx)],.row 3 1 A.length (aQ aS A),.cells 86 [.sl 6 7 0 D.M.length,.mp 7,.mp 8],.row 31 7 D.M.length (aQ aI D.M),.mapb (bQ aB 81) D.gp,.mapl (bQ aB 79) 3 1 D.gs (some (iI ru ve tx,.sl 9 1 0 S.length)),.row 3 1 S.length (aQ aS S)]) A S nw) ((fun D nw kd st out k i=>bS 95 [(0,.c (.ptr 4 0)),(13,.c (.ptr 5 0)),(14,.c (.mp 6)),(17,.c (.ptr 7 0)),(19,.c (.sl 8 7 0 k)),(61,aU aS 1 A),(62,iV (A.length:Nat)),(63,iV (i:Nat))] (lN D [.pin 0 b,.cells 31 [.p (.i .i64 kd),.p (.s ru),.p (.i .i64 ve),.p (bY aN 2 L),.p (.i .i64 st),.p (.i .i64 se),.p (.s ⟨#[]⟩)],.mapb (bQ aB 3) nw,.cells 79 [.p (.s ru),.p (.i .i64 ve),.p (.s tx)],.row 31 7 k (aQ aI out)])) D nw 0 0 [] 0 0):=by
   refine(sY (id:=8) (m:=9) (k0:=iI ru ve tx) (n:=S.length) (h:=aQ aS S) (D.gs (iI ru ve tx)).2 (by rfl) (by rfl) (fun e o he ho=>(congrArg C.p (s2 e o he ho)).symm)).trans ?_;rw[GT _ _ _ s1]
   refine(kZ (j:=61) (id:=4) (ty:=3) (sz:=1) (n:=A.length) (off:=0) (len:=A.length) (f:=aQ aS A) (by kernel_rfl) (by kernel_rfl) (by omega) (fun _ _ _ _=>rfl)).trans ?_
   refine(lT 31 7 (aQ aI []) 19 (by kernel_rfl)).trans ?_
   refine(gU [5,6,7,8,0,1,2,3,10] (eZ 95 [0,13,14,17,19,61,62,63]) (by kernel_rfl) _).trans ?_
   exact aJ (by kernel_rfl)
  refine eL.pre ((aJ (by kernel_rfl)).trans w2) ?_
  clear w2
  refine eL.loop' (l:=bJ 4 (bJ 1 (bJ 7 (cW aB Try.f17)))) (b:=inr (inr (bF .skip (cW aB Try.f17) 12))) (r:=bJ 13 (cW aB Try.f17)) (id:=2) (by kernel_rfl) (σ:=Nat×Ld×List Pg×Int×Int)
    (fun(i,D,out,kd,st)=>(fun D nw kd st out k i=>bS 95 [(0,.c (.ptr 4 0)),(13,.c (.ptr 5 0)),(14,.c (.mp 6)),(17,.c (.ptr 7 0)),(19,.c (.sl 8 7 0 k)),(61,aU aS 1 A),(62,iV (A.length:Nat)),(63,iV (i:Nat))] (lN D [.pin 0 b,.cells 31 [.p (.i .i64 kd),.p (.s ru),.p (.i .i64 ve),.p (bY aN 2 L),.p (.i .i64 st),.p (.i .i64 se),.p (.s ⟨#[]⟩)],.mapb (bQ aB 3) nw,.cells 79 [.p (.s ru),.p (.i .i64 ve),.p (.s tx)],.row 31 7 k (aQ aI out)])) D nw kd st out out.length i) (fun(i,D',out,_,_)=>i≤A.length∧(D',out)=nG T ru ve L se D (A.take i)∧out.length≤i∧D'.M.length≤D.M.length+i∧(D'.gs (iI ru ve tx)).1≤S.length+i) (fun(i,_)=>A.length-i) (0,D,[],0,0) ⟨bW _,rfl,bW _,aW _,by rw[s1];exact aW _⟩ (cQ.refl _) ?_
  rintro⟨i,D',out,kd,st⟩ ⟨i1,i2,i3,i4,i5⟩ Q1 q1n q1e -;refine eL.evH (keep:=eZ 95 [0,13,14,17,19,61,62,63]) (PI D') (tM5 D' b i out.length kd ve st se ru tx L A out nw) ?_;simp only[bZ,bB,aL,cF,mC,decide_eq_true_eq,decide_eq_false_iff_not,eV,show ∀x:Nat,x+0=x from fun _=>rfl,dP,gK];refine⟨fun hlt=>?_,fun hge=>⟨?_⟩⟩
  ·have hlt:i<A.length:=by omega
   have hm:=rI hlt
   have hs:=sR hlt
   have hin:=hAt _ hm
   generalize A.getD i default=t at hm hs hin
   have hk:=hmk t hin
   have hst:nG T ru ve L se D (A.take (i+1))=kW T ru ve L se (D',out) t:=by rw[hs,PY,←i2]
   have hFit:∀kd,sP D' ⟨kd,ru,ve,L,t,se,⟨#[]⟩⟩:=fun kd=>by
    refine⟨?_,?_,?_,?_,?_,?_⟩
    ·rw[htx]at hk;exact hk
    ·rw[htx]at hgk;exact hgk
    ·rw[htx]at t1;exact t1
    ·exact t4
    ·omega
    ·rw[htx]at i5;show (D'.gs (iI ru ve (cE L))).1≤_;omega
   have hgr:∀kd,((gF D' ⟨kd,ru,ve,L,t,se,⟨#[]⟩⟩).gs (iI ru ve tx)).1≤S.length+(i+1):=fun kd=>by
    have:((gF D' ⟨kd,ru,ve,L,t,se,⟨#[]⟩⟩).gs (iI ru ve tx)).1≤(D'.gs (iI ru ve tx)).1+1:=by rw[htx];exact aHM D' ⟨kd,ru,ve,L,t,se,⟨#[]⟩⟩
    omega
   have hML:∀kd,(gF D' ⟨kd,ru,ve,L,t,se,⟨#[]⟩⟩).M.length≤D.M.length+(i+1):=fun kd=>by
    unfold gF;simp;omega
   unfold kW at hst;rw[←htx,←hnw]at hst;refine⟨⟨by omega,by omega⟩,⟨trivial,hk⟩,⟨trivial,UU _ hin⟩,fun he=>⟨by omega,⟨?_⟩⟩,fun he=>⟨fun hp=>⟨⟨dJ _ _ _,⟨trivial,trivial,trivial,trivial,trivial,trivial,trivial⟩,hFit _⟩,⟨dJ _ _ _,t4⟩,trivial,aW _,⟨by omega,by omega,RB 1 ve t se ru ⟨#[]⟩ L⟩,by omega,⟨?_⟩⟩,fun hp=>⟨⟨dJ _ _ _,⟨trivial,trivial,trivial,trivial,trivial,trivial,trivial⟩,hFit _⟩,⟨dJ _ _ _,t4⟩,trivial,aW _,⟨by omega,by omega,RB 2 ve t se ru ⟨#[]⟩ L⟩,by omega,⟨?_⟩⟩⟩⟩
   ·have he:((D'.gp (kK ru ve tx t)).getD false==(nw (.int .i64 t)).getD false)=true:=he
    have hst:nG T ru ve L se D (A.take (i+1))=(D',out):=by
     rw[hst];revert he
     cases (D'.gp (kK ru ve tx t)).getD false<;>cases (nw (.int .i64 t)).getD false<;>intro he<;>first|rfl|cases he
    refine q1n (i+1,D',out,kd,st) _ ⟨by omega,hst.symm,by omega,by omega,by omega⟩ (by simp only;omega) ?_
    exact(gU [5,6,7,8,0,1,2,3,4] (eZ 95 [0,13,14,17,19,61,62,63]) (by kernel_rfl) _).trans (aJ (by kernel_rfl))
   ·have he:((D'.gp (kK ru ve tx t)).getD false==(nw (.int .i64 t)).getD false)=false:=he
    have hp:(D'.gp (kK ru ve tx t)).getD false=true:=hp
    have hst:nG T ru ve L se D (A.take (i+1))=(gF D' ⟨1,ru,ve,L,t,se,⟨#[]⟩⟩,out++[⟨1,ru,ve,L,t,se,⟨#[]⟩⟩]):=by
     rw[hst];rw[hp]at he ⊢;revert he
     cases (nw (.int .i64 t)).getD false<;>intro he<;>first|rfl|cases he
    refine q1n (i+1,gF D' ⟨1,ru,ve,L,t,se,⟨#[]⟩⟩,out++[⟨1,ru,ve,L,t,se,⟨#[]⟩⟩],1,t) _ ⟨by omega,hst.symm,by simp;omega,hML 1,hgr 1⟩ (by simp only;omega) ?_
    show cQ G _ ((fun D nw kd st out k i=>bS 95 [(0,.c (.ptr 4 0)),(13,.c (.ptr 5 0)),(14,.c (.mp 6)),(17,.c (.ptr 7 0)),(19,.c (.sl 8 7 0 k)),(61,aU aS 1 A),(62,iV (A.length:Nat)),(63,iV (i:Nat))] (lN D [.pin 0 b,.cells 31 [.p (.i .i64 kd),.p (.s ru),.p (.i .i64 ve),.p (bY aN 2 L),.p (.i .i64 st),.p (.i .i64 se),.p (.s ⟨#[]⟩)],.mapb (bQ aB 3) nw,.cells 79 [.p (.s ru),.p (.i .i64 ve),.p (.s tx)],.row 31 7 k (aQ aI out)])) (gF D' ⟨1,ru,ve,L,t,se,⟨#[]⟩⟩) nw 1 t (out++[⟨1,ru,ve,L,t,se,⟨#[]⟩⟩]) (out++[(⟨1,ru,ve,L,t,se,⟨#[]⟩⟩:Pg)]).length (i+1))
    rw[show (out++[(⟨1,ru,ve,L,t,se,⟨#[]⟩⟩:Pg)]).length=out.length+1 by simp]
    refine(gU [5,6,7,8,0,1,2,3,4] (eZ 95 [0,13,14,17,19,61,62,63]) (by kernel_rfl) _).trans ((GJ (id:=8) (ty:=31) (sz:=7) (n:=out.length+1) (f:=fun e o=>bP [5,6,7,8,0,1,2,3,4] (bP [4,5,6,7,15,0,11,12,13] (fC out.length (aQ aI out) (fun e o=>bF C.top [C.p (.i .i64 1),C.p (.s ru),C.p (.i .i64 ve),C.p (bY aN 2 L),C.p (.i .i64 t),C.p (.i .i64 se),C.p (.s ⟨#[]⟩)] ((e+0)*7+o)) e o))) (f':=aQ aI (out++[⟨1,ru,ve,L,t,se,⟨#[]⟩⟩])) (by kernel_rfl) (fun e o he ho β R w ad u hu=>?_)).trans (aJ (by kernel_rfl)))
    rw[oT (enc:=aI) (x:=⟨1,ru,ve,L,t,se,⟨#[]⟩⟩) rfl (HA 1 ve t se ru ⟨#[]⟩ L) he ho]at hu;exact hu
   ·have he:((D'.gp (kK ru ve tx t)).getD false==(nw (.int .i64 t)).getD false)=false:=he
    have hp:(D'.gp (kK ru ve tx t)).getD false=false:=hp
    have hst:nG T ru ve L se D (A.take (i+1))=(gF D' ⟨2,ru,ve,L,t,se,⟨#[]⟩⟩,out++[⟨2,ru,ve,L,t,se,⟨#[]⟩⟩]):=by
     rw[hst];rw[hp]at he ⊢;revert he
     cases (nw (.int .i64 t)).getD false<;>intro he<;>first|rfl|cases he
    refine q1n (i+1,gF D' ⟨2,ru,ve,L,t,se,⟨#[]⟩⟩,out++[⟨2,ru,ve,L,t,se,⟨#[]⟩⟩],2,t) _ ⟨by omega,hst.symm,by simp;omega,hML 2,hgr 2⟩ (by simp only;omega) ?_
    show cQ G _ ((fun D nw kd st out k i=>bS 95 [(0,.c (.ptr 4 0)),(13,.c (.ptr 5 0)),(14,.c (.mp 6)),(17,.c (.ptr 7 0)),(19,.c (.sl 8 7 0 k)),(61,aU aS 1 A),(62,iV (A.length:Nat)),(63,iV (i:Nat))] (lN D [.pin 0 b,.cells 31 [.p (.i .i64 kd),.p (.s ru),.p (.i .i64 ve),.p (bY aN 2 L),.p (.i .i64 st),.p (.i .i64 se),.p (.s ⟨#[]⟩)],.mapb (bQ aB 3) nw,.cells 79 [.p (.s ru),.p (.i .i64 ve),.p (.s tx)],.row 31 7 k (aQ aI out)])) (gF D' ⟨2,ru,ve,L,t,se,⟨#[]⟩⟩) nw 2 t (out++[⟨2,ru,ve,L,t,se,⟨#[]⟩⟩]) (out++[(⟨2,ru,ve,L,t,se,⟨#[]⟩⟩:Pg)]).length (i+1))
    rw[show (out++[(⟨2,ru,ve,L,t,se,⟨#[]⟩⟩:Pg)]).length=out.length+1 by simp]
    refine(gU [5,6,7,8,0,1,2,3,4] (eZ 95 [0,13,14,17,19,61,62,63]) (by kernel_rfl) _).trans ((GJ (id:=8) (ty:=31) (sz:=7) (n:=out.length+1) (f:=fun e o=>bP [5,6,7,8,0,1,2,3,4] (bP [4,5,6,7,15,0,11,12,13] (fC out.length (aQ aI out) (fun e o=>bF C.top [C.p (.i .i64 2),C.p (.s ru),C.p (.i .i64 ve),C.p (bY aN 2 L),C.p (.i .i64 t),C.p (.i .i64 se),C.p (.s ⟨#[]⟩)] ((e+0)*7+o)) e o))) (f':=aQ aI (out++[⟨2,ru,ve,L,t,se,⟨#[]⟩⟩])) (by kernel_rfl) (fun e o he ho β R w ad u hu=>?_)).trans (aJ (by kernel_rfl)))
    rw[oT (enc:=aI) (x:=⟨2,ru,ve,L,t,se,⟨#[]⟩⟩) rfl (HA 2 ve t se ru ⟨#[]⟩ L) he ho]at hu;exact hu
  ·obtain rfl:i=A.length:=by omega
   rw[fS]at i2;refine q1e _ ?_;rw[←i2]
   refine(eL.pre ((kZ (j:=19) (id:=4) (ty:=31) (sz:=7) (n:=out.length) (off:=0) (len:=out.length) (f:=fun e o=>bP [4,5,6,7,8,0,1,2,3] (aQ aI out e o)) (by kernel_rfl) (by kernel_rfl) (by omega) (fun _ _ _ _=>rfl)).trans ((fG (eZ 95 [0,19]) _).trans (aJ (st':=bS 95 [(0,.c (.ptr 0 0)),(19,aU aI 7 out)] (oM D' b)) (by kernel_rfl)))) ?_)
   refine eL.evH (keep:=[]) aX (tree:=.done .ret (bS 2 [(0,.c (.ptr 0 0)),(1,aU aI 7 out)] (oM D' b))) (by kernel_rfl) ?_
   exact aJ (by kernel_rfl)
set_option maxRecDepth 100000 in
theorem PX(D:Ld)(ru:ByteArray)(ve:Int)(L:List (ByteArray×ByteArray))(S T:List Int)(se:Int)(hS:FT D (iI ru ve (cE L)) S)(hT:hJ (⟨0,ru,ve,L,0,se,⟨#[]⟩⟩:Pg)=true→(cE L).size≤1000000∧ru.size≤1000000∧eV .i64 ve∧L.length≤1000000∧(∀t∈S,eV .i64 t)∧S.length+T.length≤100000∧D.M.length≤100000)(hTl:T.length≤1000000)(rest:List AO):jN aB G 17 [.c (.ptr 0 0),.c (.p (.s ru)),iV ve,aU aN 2 L,aU aS 1 T,iV se] (lN D rest) fun x h'=>x=(kJ D ru ve L S T se).1∧h'=iL [0,1,2,3] [0] [1] (lN D rest) (oM (kJ D ru ve L S T se).2 0):=by
 refine fun β R w vs ha hh=>(aCY Try.func17 (by kernel_rfl) (args:=[.c (.p (.s ru)),iV ve,aU aN 2 L,aU aS 1 T,iV se]) (vs:=[(kJ D ru ve L S T se).1]) (D':=(kJ D ru ve L S T se).2) (fun b=>TZ D ru ve L S T se hS hT hTl rest b _) β R w vs ha hh).mono ?_
 rintro e w' ⟨u,β',R',x,h',rfl,⟨hx,hh'⟩,hr⟩;refine⟨u,β',R',x,h',rfl,⟨hx.trans ?_,hh'⟩,hr⟩;unfold kJ;cases hJ (⟨0,ru,ve,L,0,se,⟨#[]⟩⟩:Pg)<;>cases T.all gQ<;>rfl
end
def BK:V→Option (Prop×List Int)
 |.c (.p x)=>iOf x
 |_=>none
theorem oG{x:V}{p:Prop}{A:List Int}(h:BK x=some (p,A))(hp:p):iF x (aU aS 1 A):=by
 unfold BK at h;split at h
 ·exact iF.p (TB h hp)
 ·cases h
def HQ:Mod
 |[x,y]=>match BK x,BK y with
  |some (p,A),some (q,B)=>some ((p∧q)∧A.length≤1000000,bV (decide (A=B)))
  |_,_=>none
 |_=>none
def aM9:Mod
 |[x,.c (.p (.i .i64 n))]=>match BK x with
  |some (p,A)=>some (p∧A.length≤1000000,bV (decide (n∈A)))
  |_=>none
 |_=>none
theorem tI1(A B:List Int):dC eW (dH 4 (cW aB Try.f27)) (nH Try.f27 [aU aS 1 A,aU aS 1 B]) (iA (eZ 26 [0,1,5]) (bI aB Try.f27))=bT ((↑A.length:Int) != (↑B.length:Int)) (.done .ret (St.mk [V.c (C.p (PV.b false))] []))
 (.done .normal
 (bS 26 [(0,.c (.p (.l 1 A.length (aE aS A)))),(1,.c (.p (.l 1 B.length (aE aS B)))),(5,.c (.p (.i .i64 0)))] [])):=by kernel_rfl
theorem tI2(A B:List Int)(i:Nat):dC eW (gR (cW aB Try.f27) 4) (bS 26 [(0,aU aS 1 A),(1,aU aS 1 B),(5,iV (i:Nat))] []) (iA (eZ 26 [0,1,5]) (bI aB Try.f27))=bT (decide ((↑i:Int)<(↑A.length:Int)))
 (.rq (0≤(↑i:Int)∧(↑i:Int)<(↑A.length:Int))
 (.rq (0≤(↑i:Int)∧(↑i:Int)<(↑B.length:Int))
 (bT (A.getD (↑i:Int).toNat default != B.getD (↑i:Int).toNat default) (.done .ret (St.mk [V.c (C.p (PV.b false))] []))
 (.rq (eV aC ((↑i:Int)+1))
 (.done .normal
 (bS 26 [(0,.c (.p (.l 1 A.length (aE aS A)))),(1,.c (.p (.l 1 B.length (aE aS B)))),(5,.c (.p (.i .i64 ((↑i:Int)+1))))] []))))))
 (.done (.exit 0)
 (bS 26 [(0,.c (.p (.l 1 A.length (aE aS A)))),(1,.c (.p (.l 1 B.length (aE aS B)))),(5,.c (.p (.i .i64 (↑i:Int))))] [])):=by kernel_rfl
theorem tI3(A B:List Int)(i:Nat):dC eW (bJ 5 (cW aB Try.f27)) (bS 26 [(0,aU aS 1 A),(1,aU aS 1 B),(5,iV (i:Nat))] []) (iA [] (bI aB Try.f27))=Tr.done X.ret (St.mk [V.c (C.p (PV.b true))] []):=by kernel_rfl
theorem tH1(A:List Int)(n:Int):dC eW (dH 2 (cW aB Try.f18)) (nH Try.f18 [aU aS 1 A,iV n]) (iA (eZ 18 [0,1,5]) (bI aB Try.f18))=Tr.done X.normal
 (bS 18 [(0,.c (.p (.l 1 A.length (aE aS A)))),(1,.c (.p (.i .i64 n))),(5,.c (.p (.i .i64 0)))] []):=by kernel_rfl
theorem tH2(A:List Int)(n:Int)(i:Nat):dC eW (gR (cW aB Try.f18) 2) (bS 18 [(0,aU aS 1 A),(1,iV n),(5,iV (i:Nat))] []) (iA (eZ 18 [0,1,5]) (bI aB Try.f18))=bT (decide ((↑i:Int)<(↑A.length:Int)))
 (.rq (0≤(↑i:Int)∧(↑i:Int)<(↑A.length:Int))
 (bT (A.getD (↑i:Int).toNat default==n) (.done .ret (St.mk [V.c (C.p (PV.b true))] []))
 (.rq (eV aC ((↑i:Int)+1))
 (.done .normal
 (bS 18 [(0,.c (.p (.l 1 A.length (aE aS A)))),(1,.c (.p (.i .i64 n))),(5,.c (.p (.i .i64 ((↑i:Int)+1))))] [])))))
 (.done (.exit 0)
 (bS 18 [(0,.c (.p (.l 1 A.length (aE aS A)))),(1,.c (.p (.i .i64 n))),(5,.c (.p (.i .i64 (↑i:Int))))] [])):=by kernel_rfl
theorem tH3(A:List Int)(n:Int)(i:Nat):dC eW (bJ 3 (cW aB Try.f18)) (bS 18 [(0,aU aS 1 A),(1,iV n),(5,iV (i:Nat))] []) (iA [] (bI aB Try.f18))=Tr.done X.ret (St.mk [V.c (C.p (PV.b false))] []):=by kernel_rfl
section
variable {G:Nat→Option Obj}
set_option maxRecDepth 100000 in
theorem RI:iO aB G 27 HQ:=by
 intro args p v hm hp h;unfold HQ at hm
 split at hm;rotate_left;· cases hm
 split at hm;rotate_left;· cases hm
 rename_i x y _ _ p1 A p2 B hx hy;obtain⟨rfl,rfl⟩:=eM hm;obtain⟨⟨hA,hB⟩,hlen⟩:=hp;refine jN.args (args':=[aU aS 1 A,aU aS 1 B]) ?_ (.cons (oG hx hA) (.cons (oG hy hB) .nil));clear hA hB hm hx hy
 refine pW Try.func27 (by kernel_rfl) rfl ?_ h
 refine eJ.evG aX 4 (tI1 A B) ?_;simp only[bZ,aL,fI,cG,bne_iff_ne,bne_eq_false_iff_eq,ne_eq];refine⟨fun h1=>⟨iF.of_eq ?_⟩,fun h1=>⟨?_⟩⟩
 ·rw[decide_eq_false (fun e=>h1 (by rw[e]))];rfl
 have h1:A.length=B.length:=by omega
 refine eJ.loop' (l:=bJ 4 (cW aB Try.f27)) (b:=inr (inr (bF .skip (cW aB Try.f27) 4))) (r:=bJ 5 (cW aB Try.f27)) (id:=0) (by kernel_rfl) (σ:=Nat)
   (fun i=>bS 26 [(0,aU aS 1 A),(1,aU aS 1 B),(5,iV (i:Nat))] []) (fun i=>i≤A.length∧A.take i=B.take i) (fun i=>A.length-i) 0 ⟨bW _,rfl⟩ (aJ (by kernel_rfl)) ?_
 rintro i ⟨hi,hc⟩ Q1 q1n q1e -;refine eJ.evH aX (tI2 A B i) ?_;simp only[bZ,bB,aL,fI,cG,jQ,decide_eq_true_eq,decide_eq_false_iff_not,bne_iff_ne,bne_eq_false_iff_eq,ne_eq,eV,show (↑i:Int).toNat=i from rfl]
 refine⟨fun h2=>⟨by omega,by omega,fun c1=>⟨iF.of_eq ?_⟩,fun c1=>⟨by omega,⟨q1n (i+1) _ ⟨by omega,by rw[sR (by omega),sR (by omega),hc,c1]⟩ (by omega) (aJ (by kernel_rfl))⟩⟩⟩,fun h2=>⟨q1e _ ?_⟩⟩
 ·rw[decide_eq_false (fun e=>c1 (by rw[e]))];rfl
 ·rw[List.take_of_length_le (by omega),List.take_of_length_le (by omega)]at hc
  refine eJ.evH aX (tI3 A B i) ?_;simp only[aL,fI];rw[decide_eq_true hc];exact⟨iF.refl _⟩
set_option maxRecDepth 100000 in
theorem aOQ:iO aB G 18 aM9:=by
 intro args p v hm hp h;unfold aM9 at hm
 split at hm;rotate_left;· cases hm
 split at hm;rotate_left;· cases hm
 rename_i x n _ p1 A hx;obtain⟨rfl,rfl⟩:=eM hm;obtain⟨hA,hlen⟩:=hp;refine jN.args (args':=[aU aS 1 A,iV n]) ?_ (.cons (oG hx hA) (.cons (.refl _) .nil));clear hA hm hx
 refine pW Try.func18 (by kernel_rfl) rfl ?_ h
 refine eJ.evG aX 2 (tH1 A n) ?_;simp only[bZ,aL,fI,cG];refine⟨?_⟩
 refine eJ.loop' (l:=bJ 2 (cW aB Try.f18)) (b:=inr (inr (bF .skip (cW aB Try.f18) 2))) (r:=bJ 3 (cW aB Try.f18)) (id:=0) (by kernel_rfl) (σ:=Nat)
   (fun i=>bS 18 [(0,aU aS 1 A),(1,iV n),(5,iV (i:Nat))] []) (fun i=>i≤A.length∧n ∉ A.take i) (fun i=>A.length-i) 0 ⟨bW _,by simp⟩ (aJ (by kernel_rfl)) ?_
 rintro i ⟨hi,hc⟩ Q1 q1n q1e -;refine eJ.evH aX (tH2 A n i) ?_;simp only[bZ,bB,aL,fI,cG,jQ,decide_eq_true_eq,decide_eq_false_iff_not,beq_iff_eq,beq_eq_false_iff_ne,ne_eq,eV,show (↑i:Int).toNat=i from rfl]
 refine⟨fun h2=>⟨by omega,fun c1=>⟨iF.of_eq ?_⟩,fun c1=>⟨by omega,⟨q1n (i+1) _ ⟨by omega,?_⟩ (by omega) (aJ (by kernel_rfl))⟩⟩⟩,fun h2=>⟨q1e _ ?_⟩⟩
 ·rw[decide_eq_true (by rw[←c1];exact rI (by omega))];rfl
 ·rw[sR (by omega),dF]
  rintro (h|h)
  ·exact hc h
  ·exact c1 (eN.1 h).symm
 ·rw[List.take_of_length_le (by omega)]at hc
  refine eJ.evH aX (tH3 A n i) ?_;simp only[aL,fI];rw[decide_eq_false hc];exact⟨iF.refl _⟩
end
def KP(D:Ld):List AO→Option (Prop×List AO)
 |.cells 86 [.sl 1 7 0 n,.mp 2,.mp 3]::.row 31 7 n' f::.mapb ok gp::.mapl ok2 3 1 gs none::rest=>some (n=D.M.length∧n'=D.M.length∧(∀e o,e<D.M.length→o<7→f e o=aQ aI D.M e o)∧ok=bQ aB 81∧gp=D.gp∧ok2=bQ aB 79∧gs=D.gs,rest)
 |_=>none
noncomputable def SM(D:Ld):jU
 |[.c (.ptr 0 0),x],h=>match KP D h,wC x with
  |some (q,rest),some (r,p)=>some ((r∧q)∧(p.kd=0→hJ p=true→sP D p),iV (jD D p).1,iL [0,1,2,3] [0] [1] (lN D rest) (oM (jD D p).2 0))
  |_,_=>none
 |_,_=>none
theorem aHP{D:Ld}{h rest:List AO}{q:Prop}(he:KP D h=some (q,rest))(hq:q):∃f,h=.cells 86 [.sl 1 7 0 D.M.length,.mp 2,.mp 3]::.row 31 7 D.M.length f::.mapb (bQ aB 81) D.gp::.mapl (bQ aB 79) 3 1 D.gs none::rest∧∀e o,e<D.M.length→o<7→f e o=aQ aI D.M e o:=by
 unfold KP at he
 split at he;rotate_left;· cases he
 injection he with he;injection he with e1 e2;subst e1;subst e2;obtain⟨rfl,rfl,hf,rfl,rfl,rfl,rfl⟩:=hq;exact⟨_,rfl,hf⟩
section
variable {G:Nat→Option Obj}
theorem jN.heapEq{P:Program}{f:FuncId}{args:List V}{h h':List AO}{K:V→List AO→Prop}(he:∀(β:Bt) (R:Nat→Prop) (w:World),HS G β R w h→HS G β R w h')(hl:h'.length=h.length)(hf:jN P G f args h' K):jN P G f args h K:=by
 intro β R w vs ha hh;refine(hf β R w vs ha (he β R w hh)).mono ?_;rintro e w' ⟨u,β2,R2,x,h3,q1,q2,q3,q4,q5,q6⟩;exact⟨u,β2,R2,x,h3,q1,q2,q3,q4,q5,fun i hi=>q6 i (by omega)⟩
theorem jN.ledger{D:Ld}{h rest:List AO}{q:Prop}(he:KP D h=some (q,rest))(hq:q){f:FuncId}{args:List V}{K:V→List AO→Prop}(hf:jN aB G f args (lN D rest) K):jN aB G f args h K:=by
 obtain⟨g,rfl,hg⟩:=aHP he hq;refine jN.heapEq (h':=lN D rest) (fun β R w hh=>?_) rfl hf
 have:=tX hh (id:=1) (ty:=31) (sz:=7) (n:=D.M.length) (f:=g) (f':=aQ aI D.M) rfl hg
 exact this
theorem aGZ(D:Ld):fZ aB G 25 (SM D):=by
 intro args h p v h' hm hp;unfold SM at hm
 split at hm;rotate_left;· cases hm
 split at hm;rotate_left;· cases hm
 rename_i x _ _ _ q rest r a hl hx;obtain⟨rfl,rfl,rfl⟩:=gH hm;obtain⟨⟨hr,hq⟩,hF⟩:=hp;exact jN.ledger hl hq (jN.args (args':=[.c (.ptr 0 0),uO a]) (WD D a hF rest) (.cons (.refl _) (.cons (lZ hx hr) .nil)))
end
def leI:V→List Int→Option Prop
 |.c (.p (.l 1 n f)),W=>some (kA aS 1 W n f)
 |.c (.p (.z (.slice none 0 0))),W=>some (W=[])
 |_,_=>none
theorem wM{x:V}{W:List Int}{p:Prop}(h:leI x W=some p)(hp:p):iF x (aU aS 1 W):=by
 unfold leI at h;split at h
 ·injection h with h
  subst h;exact hp.le
 ·injection h with h
  subst h;subst hp;exact iF.p (lE.nil 1 _)
 ·cases h
noncomputable def KM(D:Ld)(S T:List Int)(out:List Pg)(D':Ld):jU
 |[.c (.ptr 0 0),.c (.p (.s ru)),.c (.p (.i .i64 ve)),x,y,.c (.p (.i .i64 se))],h=>match KP D h,NE x,leI y T with
  |some (q,rest),some (r,L),some s=>some (((r∧q)∧s)∧FT D (iI ru ve (cE L)) S∧((cE L).size≤1000000∧ru.size≤1000000∧eV .i64 ve∧L.length≤1000000∧(∀t∈S,eV .i64 t)∧S.length+T.length≤100000∧D.M.length≤100000)∧kJ D ru ve L S T se=(aU aI 7 out,D'),aU aI 7 out,iL [0,1,2,3] [0] [1] (lN D rest) (oM D' 0))
  |_,_,_=>none
 |_,_=>none
noncomputable def JZ(D:Ld)(S out:List Int):jU
 |[.c (.ptr 0 0),.c (.p (.s ru)),.c (.p (.i .i64 ve)),x],h=>match KP D h,NE x with
  |some (q,rest),some (r,L)=>some ((r∧q)∧FT D (iI ru ve (cE L)) S∧((cE L).size≤1000000∧ru.size≤1000000∧eV .i64 ve∧(∀t∈S,eV .i64 t)∧S.length≤1000000)∧nD D ru ve L S=aU aS 1 out,aU aS 1 out,iL [0,1,2,3] [0] [1] (lN D rest) (oM D 0))
  |_,_=>none
 |_,_=>none
def SA(U W:List Int):Mod
 |[x,y]=>match leI x U,leI y W with
  |some p,some q=>some ((p∧q)∧U.length≤1000000,bV (decide (U=W)))
  |_,_=>none
 |_=>none
section
variable {G:Nat→Option Obj}
theorem aC1(D:Ld)(S T:List Int)(out:List Pg)(D':Ld):fZ aB G 17 (KM D S T out D'):=by
 intro args h p v h' hm hp;unfold KM at hm
 split at hm;rotate_left;· cases hm
 split at hm;rotate_left;· cases hm
 rename_i ru ve x y se _ _ _ q rest r L s hl hx hy;obtain⟨rfl,rfl,rfl⟩:=gH hm;obtain⟨⟨⟨hr,hq⟩,hs⟩,hS,hT,he⟩:=hp
 have:=PX (G:=G) D ru ve L S T se hS (fun _=>hT) (by have:=hT.2.2.2.2.2.1;omega) rest
 rw[he]at this;exact jN.ledger hl hq (jN.args (args':=[.c (.ptr 0 0),.c (.p (.s ru)),iV ve,aU aN 2 L,aU aS 1 T,iV se]) this (.cons (.refl _) (.cons (.refl _) (.cons (.refl _) (.cons (uT hx hr) (.cons (wM hy hs) (.cons (.refl _) .nil)))))))
theorem aBL(D:Ld)(S out:List Int):fZ aB G 16 (JZ D S out):=by
 intro args h p v h' hm hp;unfold JZ at hm
 split at hm;rotate_left;· cases hm
 split at hm;rotate_left;· cases hm
 rename_i ru ve x _ _ q rest r L hl hx;obtain⟨rfl,rfl,rfl⟩:=gH hm;obtain⟨⟨hr,hq⟩,hS,⟨t1,t2,t3,t4,t5⟩,he⟩:=hp
 have:=LS (G:=G) D ru ve L S hS (fun _=>⟨t1,xS _ _ _ t2 t3 t1,fun t ht=>xR _ _ _ _ t2 t3 t1 (t4 t ht),t5⟩) rest
 rw[he]at this;exact jN.ledger hl hq (jN.args (args':=[.c (.ptr 0 0),.c (.p (.s ru)),iV ve,aU aN 2 L]) this (.cons (.refl _) (.cons (.refl _) (.cons (.refl _) (.cons (uT hx hr) .nil)))))
theorem aGK(U W:List Int):iO aB G 27 (SA U W):=by
 intro args p v hm hp h;unfold SA at hm
 split at hm;rotate_left;· cases hm
 split at hm;rotate_left;· cases hm
 rename_i x y _ _ p q hx hy;obtain⟨rfl,rfl⟩:=eM hm;obtain⟨⟨hA,hB⟩,hlen⟩:=hp;refine jN.args (args':=[aU aS 1 U,aU aS 1 W]) ?_ (.cons (wM hx hA) (.cons (wM hy hB) .nil))
 have:=RI (G:=G) [aU aS 1 U,aU aS 1 W] _ _ rfl ⟨⟨by rw[iN];exact dJ _ _ _,by rw[iN];exact dJ _ _ _⟩,by rw[iN];exact hlen⟩ h
 rw[iN,iN]at this;exact this
end
noncomputable def OW(D:Ld):Ext:=lH [(20,aCK),(25,SM D)]
noncomputable def aKB(D:Ld)(S T:List Int)(out:List Pg)(D':Ld):Ext:=lH [(17,aJ6 (KM D S T out D'))]
noncomputable def aJ9(D:Ld)(S U:List Int):Ext:=lH [(16,JZ D S U),(27,aMQ (SA U [3,8]))]
theorem tL1(u:Unit):dC (OW zO) (dH 5 (cW aB Try.f19)) (nH Try.f19 []) (iA (eZ 79 [1,2]) (bI aB Try.f19))=Tr.rq True
 (.done .normal
 (bS 79 [(1,.c (.ptr 0 0)),(2,.c (.ptr 1 0))] [.cells 86 [.sl 2 7 0 0,.mp 3,.mp 4],.cells 31 [.p (.i .i64 0),.p (.s (aG #[104,111,116])),.p (.i .i64 1),.p (.z (bA none 0 0)),.p (.i .i64 5),.p (.i .i64 6),.p (.s (aG #[]))],.row 31 7 0 fun e o=>bP [0,4,1,2,3] (C.p (aE aI zO.M e o)),.mapb (bQ aB 81) zO.gp,.mapl (bQ aB 79) 3 1 zO.gs none])):=by kernel_rfl
theorem tL2(D:Ld):dC (OW D) (dH 1 (bJ 5 (cW aB Try.f19))) (bS 79 [(1,.c (.ptr 0 0)),(2,.c (.ptr 4 0))] (lN D [.cells 31 [.p (.i .i64 0),.p (.s ⟨#[104,111,116]⟩),.p (.i .i64 1),.p (.z (.slice none 0 0)),.p (.i .i64 5),.p (.i .i64 6),.p (.s ⟨#[]⟩)]])) (iA (eZ 79 [1,2,3]) (bI aB Try.f19))=Tr.rq
 ((True ∧
 D.M.length=D.M.length ∧
 D.M.length=D.M.length ∧
 (∀(e o:Nat),e<D.M.length→o<7→aQ aI D.M e o=aQ aI D.M e o)∧bQ aB 81=bQ aB 81∧D.gp=D.gp∧bQ aB 79=bQ aB 79∧D.gs=D.gs) ∧
 ((Pg.mk 0 (aG #[104,111,116]) 1 [] 5 6 (aG #[])).kd=0 →
 hJ (Pg.mk 0 (aG #[104,111,116]) 1 [] 5 6 (aG #[]))=true→sP D (Pg.mk 0 (aG #[104,111,116]) 1 [] 5 6 (aG #[]))))
 (.done .normal
 (bS 79 [(1,.c (.ptr 0 0)),(2,.c (.ptr 1 0)),(3,.c (.p (.i .i64 (jD D (Pg.mk 0 (aG #[104,111,116]) 1 [] 5 6 (aG #[]))).fst)))] [.cells 86 [.sl 2 7 0 (jD D (Pg.mk 0 (aG #[104,111,116]) 1 [] 5 6 (aG #[]))).snd.M.length,.mp 3,.mp 4],.cells 31 [.p (.i .i64 0),.p (.s (aG #[104,111,116])),.p (.i .i64 1),.p (.z (bA none 0 0)),.p (.i .i64 5),.p (.i .i64 6),.p (.s (aG #[]))],.row 31 7 (jD D (Pg.mk 0 (aG #[104,111,116]) 1 [] 5 6 (aG #[]))).snd.M.length fun e o=>bP [0,4,7,8,9] (C.p (aE aI (jD D (Pg.mk 0 (aG #[104,111,116]) 1 [] 5 6 (aG #[]))).snd.M e o)),.mapb (bQ aB 81) (jD D (Pg.mk 0 (aG #[104,111,116]) 1 [] 5 6 (aG #[]))).snd.gp,.mapl (bQ aB 79) 3 1 (jD D (Pg.mk 0 (aG #[104,111,116]) 1 [] 5 6 (aG #[]))).snd.gs none])):=by kernel_rfl
theorem tL3(D:Ld)(a:Int):dC (OW D) (dH 1 (bJ 1 (bJ 5 (cW aB Try.f19)))) (bS 79 [(1,.c (.ptr 0 0)),(2,.c (.ptr 4 0)),(3,iV a)] (lN D [.cells 31 [.p (.i .i64 0),.p (.s ⟨#[104,111,116]⟩),.p (.i .i64 1),.p (.z (.slice none 0 0)),.p (.i .i64 5),.p (.i .i64 6),.p (.s ⟨#[]⟩)]])) (iA (eZ 79 [1,2,3,4]) (bI aB Try.f19))=Tr.rq
 ((True ∧
 D.M.length=D.M.length ∧
 D.M.length=D.M.length ∧
 (∀(e o:Nat),e<D.M.length→o<7→aQ aI D.M e o=aQ aI D.M e o)∧bQ aB 81=bQ aB 81∧D.gp=D.gp∧bQ aB 79=bQ aB 79∧D.gs=D.gs) ∧
 ((Pg.mk 0 (aG #[104,111,116]) 1 [] 5 6 (aG #[])).kd=0 →
 hJ (Pg.mk 0 (aG #[104,111,116]) 1 [] 5 6 (aG #[]))=true→sP D (Pg.mk 0 (aG #[104,111,116]) 1 [] 5 6 (aG #[]))))
 (.done .normal
 (bS 79 [(1,.c (.ptr 0 0)),(2,.c (.ptr 1 0)),(3,.c (.p (.i .i64 a))),(4,.c (.p (.i .i64 (jD D (Pg.mk 0 (aG #[104,111,116]) 1 [] 5 6 (aG #[]))).fst)))] [.cells 86 [.sl 2 7 0 (jD D (Pg.mk 0 (aG #[104,111,116]) 1 [] 5 6 (aG #[]))).snd.M.length,.mp 3,.mp 4],.cells 31 [.p (.i .i64 0),.p (.s (aG #[104,111,116])),.p (.i .i64 1),.p (.z (bA none 0 0)),.p (.i .i64 5),.p (.i .i64 6),.p (.s (aG #[]))],.row 31 7 (jD D (Pg.mk 0 (aG #[104,111,116]) 1 [] 5 6 (aG #[]))).snd.M.length fun e o=>bP [0,4,7,8,9] (C.p (aE aI (jD D (Pg.mk 0 (aG #[104,111,116]) 1 [] 5 6 (aG #[]))).snd.M e o)),.mapb (bQ aB 81) (jD D (Pg.mk 0 (aG #[104,111,116]) 1 [] 5 6 (aG #[]))).snd.gp,.mapl (bQ aB 79) 3 1 (jD D (Pg.mk 0 (aG #[104,111,116]) 1 [] 5 6 (aG #[]))).snd.gs none])):=by kernel_rfl
theorem tL4(D D':Ld)(S T:List Int)(out:List Pg)(a b:Int):dC (aKB D S T out D') (dH 1 (bJ 1 (bJ 1 (bJ 5 (cW aB Try.f19))))) (bS 79 [(1,.c (.ptr 0 0)),(2,.c (.ptr 4 0)),(3,iV a),(4,iV b)] (lN D [.cells 31 [.p (.i .i64 0),.p (.s ⟨#[104,111,116]⟩),.p (.i .i64 1),.p (.z (.slice none 0 0)),.p (.i .i64 5),.p (.i .i64 6),.p (.s ⟨#[]⟩)]])) (iA (eZ 79 [1,2,3,4,5]) (bI aB Try.f19))=Tr.rq
 ((FN 5 1 3
 [V.c (C.ptr 0 0),V.c (C.p (PV.s (aG #[104,111,116]))),V.c (C.p (PV.i aC 1)),V.c (C.p (PV.z (bA none 0 0))),V.c (C.sl 5 1 0 3),
 V.c (C.p (PV.i aC 9))] ∧
 ∀(e o:Nat),e<3→o<1→BA (bF C.top [C.p (PV.i aC 8),C.p (PV.i aC 8),C.p (PV.i aC 3)] (e*1+o))=true) ∧
 ((True ∧
 D.M.length=D.M.length ∧
 D.M.length=D.M.length ∧
 (∀(e o:Nat),e<D.M.length→o<7→aQ aI D.M e o=aQ aI D.M e o)∧bQ aB 81=bQ aB 81∧D.gp=D.gp∧bQ aB 79=bQ aB 79∧D.gs=D.gs) ∧
 kA aS 1 T 3 fun e o=>mI (lM [C.p (PV.i aC 8),C.p (PV.i aC 8),C.p (PV.i aC 3)] 1 3 (e+0) o)) ∧
 FT D (iI (aG #[104,111,116]) 1 (cE [])) S ∧
 (2≤1000000∧3≤1000000∧eV aC 1∧0≤1000000∧(∀(t:Int),t∈S→eV aC t)∧S.length+T.length≤100000∧D.M.length≤100000) ∧
 kJ D (aG #[104,111,116]) 1 [] S T 9=(aU aI 7 out,D'))
 (.done .normal
 (bS 79 [(1,.c (.ptr 0 0)),(2,.c (.ptr 1 0)),(3,.c (.p (.i .i64 a))),(4,.c (.p (.i .i64 b))),(5,.c (.p (.l 7 out.length (aE aI out))))] [.cells 86 [.sl 2 7 0 D'.M.length,.mp 3,.mp 4],.cells 31 [.p (.i .i64 0),.p (.s (aG #[104,111,116])),.p (.i .i64 1),.p (.z (bA none 0 0)),.p (.i .i64 5),.p (.i .i64 6),.p (.s (aG #[]))],.row 31 7 D'.M.length fun e o=>bP [0,4,8,9,10] (C.p (aE aI D'.M e o)),.mapb (bQ aB 81) D'.gp,.mapl (bQ aB 79) 3 1 D'.gs none])):=by kernel_rfl
theorem tL5(D:Ld)(out:List Pg)(a b:Int):dC (OW D) (dH 1 (bJ 1 (bJ 1 (bJ 1 (bJ 5 (cW aB Try.f19)))))) (bS 79 [(1,.c (.ptr 0 0)),(2,.c (.ptr 4 0)),(3,iV a),(4,iV b),(5,aU aI 7 out)] (lN D [.cells 31 [.p (.i .i64 0),.p (.s ⟨#[104,111,116]⟩),.p (.i .i64 1),.p (.z (.slice none 0 0)),.p (.i .i64 5),.p (.i .i64 6),.p (.s ⟨#[]⟩)]])) (iA (eZ 79 [1,3,4,5,6]) (bI aB Try.f19))=Tr.rq
 ((True ∧
 D.M.length=D.M.length ∧
 D.M.length=D.M.length ∧
 (∀(e o:Nat),e<D.M.length→o<7→aQ aI D.M e o=aQ aI D.M e o)∧bQ aB 81=bQ aB 81∧D.gp=D.gp∧bQ aB 79=bQ aB 79∧D.gs=D.gs) ∧
 ((Pg.mk 0 (aG #[104,111,116]) 1 [] 5 6 (aG #[])).kd=0 →
 hJ (Pg.mk 0 (aG #[104,111,116]) 1 [] 5 6 (aG #[]))=true→sP D (Pg.mk 0 (aG #[104,111,116]) 1 [] 5 6 (aG #[]))))
 (.done .normal
 (bS 79 [(1,.c (.ptr 0 0)),(3,.c (.p (.i .i64 a))),(4,.c (.p (.i .i64 b))),(5,.c (.p (.l 7 out.length (aE aI out)))),(6,.c (.p (.i .i64 (jD D (Pg.mk 0 (aG #[104,111,116]) 1 [] 5 6 (aG #[]))).fst)))] [.cells 86 [.sl 1 7 0 (jD D (Pg.mk 0 (aG #[104,111,116]) 1 [] 5 6 (aG #[]))).snd.M.length,.mp 2,.mp 3],.row 31 7 (jD D (Pg.mk 0 (aG #[104,111,116]) 1 [] 5 6 (aG #[]))).snd.M.length fun e o=>bP [0,7,8,9] (C.p (aE aI (jD D (Pg.mk 0 (aG #[104,111,116]) 1 [] 5 6 (aG #[]))).snd.M e o)),.mapb (bQ aB 81) (jD D (Pg.mk 0 (aG #[104,111,116]) 1 [] 5 6 (aG #[]))).snd.gp,.mapl (bQ aB 79) 3 1 (jD D (Pg.mk 0 (aG #[104,111,116]) 1 [] 5 6 (aG #[]))).snd.gs none])):=by kernel_rfl
theorem tL6(D:Ld)(S U:List Int)(out:List Pg)(a b c:Int):dC (aJ9 D S U) (bJ 9 (cW aB Try.f19)) (bS 79 [(1,.c (.ptr 0 0)),(3,iV a),(4,iV b),(5,aU aI 7 out),(6,iV c)] (lN D [])) (iA [] (bI aB Try.f19))=bT (a==0)
 (bT (b==10)
 (bT (c==20)
 (bT ((↑out.length:Int)==3)
 (.rq (dI 0≤dI 0∧0<(↑out.length:Int))
 (bT ((out.getD 0 default).kd==2)
 (.rq (dI 0≤dI 0∧0<(↑out.length:Int))
 (bT ((out.getD 0 default).st==3)
 (.rq (dI 0≤dI 1∧1<(↑out.length:Int))
 (bT ((out.getD 1 default).kd==1)
 (.rq (dI 0≤dI 1∧1<(↑out.length:Int))
 (bT ((out.getD 1 default).st==5)
 (.rq (dI 0≤dI 2∧2<(↑out.length:Int))
 (bT ((out.getD 2 default).st==8)
 (.rq
 ((True ∧
 D.M.length=D.M.length ∧
 D.M.length=D.M.length ∧
 (∀(e o:Nat),e<D.M.length→o<7→aQ aI D.M e o=aQ aI D.M e o) ∧
 bQ aB 81=bQ aB 81∧D.gp=D.gp∧bQ aB 79=bQ aB 79∧D.gs=D.gs) ∧
 FT D (iI (aG #[104,111,116]) 1 (cE [])) S ∧
 (2≤1000000∧3≤1000000∧eV aC 1∧(∀(t:Int),t∈S→eV aC t)∧S.length≤1000000) ∧
 nD D (aG #[104,111,116]) 1 [] S=aU aS 1 U)
 (.rq
 ((FN 9 1 2 [V.c (C.p (PV.l 1 U.length (aE aS U))),V.c (C.sl 9 1 0 2)] ∧
 ∀(e o:Nat),e<2→o<1→BA (bF C.top [C.p (PV.i aC 3),C.p (PV.i aC 8)] (e*1+o))=true) ∧
 (kA aS 1 U U.length (aE aS U)∧kA aS 1 [3,8] 2 fun e o=>mI (lM [C.p (PV.i aC 3),C.p (PV.i aC 8)] 1 2 (e+0) o)) ∧
 U.length≤1000000)
 (.done .ret (St.mk [V.c (C.p (PV.b (decide (U=[3,8]))))] []))))
 (.done .ret (St.mk [V.c (C.p (PV.b false))] []))))
 (.done .ret (St.mk [V.c (C.p (PV.b false))] []))))
 (.done .ret (St.mk [V.c (C.p (PV.b false))] []))))
 (.done .ret (St.mk [V.c (C.p (PV.b false))] []))))
 (.done .ret (St.mk [V.c (C.p (PV.b false))] []))))
 (.done .ret (St.mk [V.c (C.p (PV.b false))] [])))
 (.done .ret (St.mk [V.c (C.p (PV.b false))] [])))
 (.done .ret (St.mk [V.c (C.p (PV.b false))] [])))
 (.done .ret (St.mk [V.c (C.p (PV.b false))] [])):=by kernel_rfl
end Go.AE
namespace Go.AE
open _root_.ByteArray renaming mk→aG
open _root_.Int renaming ofNat→dI,toNat_natCast→dP
open IntKind renaming i64→aC
open _root_.List renaming all_eq_true→fL,getD_eq_getElem?_getD→aD,getElem?_eq_getElem→aM,getElem_mem→jI,length_append→aV,mem_append→dF,mem_cons→eQ,mem_cons_of_mem→cM,mem_cons_self→cY,mem_singleton→eN,take_length→fS
open _root_.Nat renaming le_refl→aW,not_lt_zero→jA,zero_le→bW
open _root_.Go.Proofs.Try renaming prog→aB
open Value renaming agg→iB,int→cL,slice→bA,string→cP
open Go.Proofs Go.Proofs.Ytfjihbmehhccoaa Go.RowKit
theorem pX:∀ {A B:List Int},A.Pairwise (· < ·)→B.Pairwise (· < ·)→(∀t,t∈A↔t∈B)→A=B
 |[],[],_,_,_=>rfl
 |[],b::B,_,_,h=>absurd ((h b).2 (cY ..)) (by simp)
 |a::A,[],_,_,h=>absurd ((h a).1 (cY ..)) (by simp)
 |a::A,b::B,ha,hb,h=>by
  rw[List.pairwise_cons]at ha hb
  have e:a=b:=by
   have h1:=(h a).1 (cY ..)
   have h2:=(h b).2 (cY ..)
   rcases eQ.1 h1 with h1|h1
   ·exact h1
   ·rcases eQ.1 h2 with h2|h2
    ·exact h2.symm
    ·have:=ha.1 b h2
     have:=hb.1 a h1
     omega
  subst e;rw[pX ha.2 hb.2 fun t=>⟨fun ht=>?_,fun ht=>?_⟩]
  ·rcases eQ.1 ((h t).1 (cM _ ht)) with h1|h1
   ·subst h1;exact absurd (ha.1 t ht) (by omega)
   ·exact h1
  ·rcases eQ.1 ((h t).2 (cM _ ht)) with h1|h1
   ·subst h1;exact absurd (hb.1 t ht) (by omega)
   ·exact h1
theorem DC(L:List Int):(iC L).Pairwise (· ≤ ·):=by
 have:=List.pairwise_mergeSort (le:=fun x y:Int=>decide (x≤y)) (fun a b c h1 h2=>by simp at *;omega) (fun a b=>by simp;omega) L
 unfold iC
 exact this.imp fun h=>by simpa using h
theorem EE{L:List Int}(h:L.Pairwise (· < ·)):L.Nodup:=h.imp fun h=>by omega
theorem aAM{L:List Int}(h:L.Nodup):(iC L).Pairwise (· < ·):=by
 have h1:=DC L
 have h2:(iC L).Nodup:=(List.mergeSort_perm L _).nodup_iff.2 h
 exact h1.imp₂ (fun a b h3 (h4:a≠b)=>by omega) h2
theorem aE3{L:List Int}(hs:L.Pairwise (· ≤ ·)):∀m,m≤L.length→(Go.Lib.compactUpTo L.toArray m).Pairwise (· < ·)∧(∀t∈Go.Lib.compactUpTo L.toArray m,∃j,j<m∧t=L.getD j default)∧∀j,j<m→L.getD j default∈Go.Lib.compactUpTo L.toArray m
 |0,_=>⟨by simp[Go.Lib.compactUpTo],by simp[Go.Lib.compactUpTo],fun j hj=>by omega⟩
 |m+1,hm=>by
  obtain⟨h1,h2,h3⟩:=aE3 hs m (by omega)
  have g:∀j,j<L.length→L.toArray[j]! = L.getD j default:=fun j hj=>by simp[hj]
  have mono:∀i j,i≤j→j<L.length→L.getD i default≤L.getD j default:=fun i j hij hj=>by
   by_cases e:i=j
   ·subst e;exact Int.le_refl _
   ·have:=(List.pairwise_iff_getElem.1 hs) i j (by omega) hj (by omega)
    simpa[show i<L.length by omega,hj] using this
  rw[Go.Lib.compactUpTo_succ]
  by_cases hk:Go.Lib.keeps L.toArray m=true
  ·rw[if_pos hk]
   have hk':m=0∨L.getD m default≠L.getD (m-1) default:=by
    unfold Go.Lib.keeps at hk;rw[decide_eq_true_eq,g m (by omega)]at hk
    rcases hk with h|h
    ·exact .inl h
    ·rw[g (m-1) (by omega)]at h;exact .inr h
   rw[g m (by omega)];refine⟨List.pairwise_append.2 ⟨h1,List.pairwise_singleton _ _,fun a ha b hb=>?_⟩,fun t ht=>?_,fun j hj=>?_⟩
   ·obtain rfl:=eN.1 hb
    obtain⟨j,hj,rfl⟩:=h2 a ha
    rcases hk' with h|h
    ·omega
    ·have q1:=mono j (m-1) (by omega) (by omega)
     have q2:=mono (m-1) m (by omega) (by omega)
     omega
   ·rcases dF.1 ht with h|h
    ·obtain⟨j,q1,q2⟩:=h2 t h
     exact⟨j,by omega,q2⟩
    ·exact⟨m,by omega,eN.1 h⟩
   ·by_cases e:j=m
    ·subst e;simp
    ·exact List.mem_append_left _ (h3 j (by omega))
  ·rw[if_neg hk,List.append_nil]
   refine⟨h1,fun t ht=>?_,fun j hj=>?_⟩
   ·obtain⟨j,q1,q2⟩:=h2 t ht
    exact⟨j,by omega,q2⟩
   ·by_cases e:j=m
    ·subst e
     have:¬(j=0∨L.toArray[j]! ≠ L.toArray[j-1]!):=by
      intro h;exact hk (by unfold Go.Lib.keeps;exact decide_eq_true h)
     have e0:j≠0:=fun e=>this (.inl e)
     have e1:L.toArray[j]! = L.toArray[j-1]! := Classical.byContradiction fun h=>this (.inr h)
     rw[g j (by omega),g (j-1) (by omega)]at e1;rw[e1];exact h3 (j-1) (by omega)
    ·exact h3 j (by omega)
theorem aE4{L:List Int}(hs:L.Pairwise (· ≤ ·)):(kH L).Pairwise (· < ·):=(aE3 hs L.length (aW _)).1
theorem ZI{L:List Int}(hs:L.Pairwise (· ≤ ·))(t:Int):t∈kH L↔t∈L:=by
 obtain⟨_,h2,h3⟩:=aE3 hs L.length (aW _);refine⟨HM,fun h=>?_⟩;obtain⟨j,hj,rfl⟩:=List.getElem_of_mem h
 have:=h3 j hj
 show L[j]∈Go.Lib.compactUpTo L.toArray L.length
 simpa[hj] using this
theorem qD(L:List Int):(kH (iC L)).Pairwise (· < ·):=aE4 (DC L)
theorem oJ(L:List Int)(t:Int):t∈kH (iC L)↔t∈L:=(ZI (DC L) t).trans zJ
structure Vw (ru:ByteArray) (ve:Int) (L:List (ByteArray×ByteArray)) (D:Ld) (S:List Int) (pd:Int→Option Bool):Prop where
 st:FT D (iI ru ve (cE L)) S
 gp:∀t,D.gp (kK ru ve (cE L) t)=pd t
 dom:∀t,t∈S↔(pd t).isSome=true
 nd:S.Nodup
def wX(pd:Int→Option Bool)(t:Int)(x:Bool):Int→Option Bool:=fun u=>if u=t then some x else pd u
theorem aCM{ru tx:ByteArray}{ve t u:Int}:kK ru ve tx t=kK ru ve tx u↔t=u:=by
 unfold kK;constructor
 ·intro h;simpa using h
 ·rintro rfl;rfl
theorem aA9(ru:ByteArray)(ve:Int)(L:List (ByteArray×ByteArray)):Vw ru ve L zO [] fun _=>none:=
 ⟨⟨rfl,fun e o he=>absurd he (jA _)⟩,fun _=>rfl,fun t=>by simp,List.nodup_nil⟩
variable {ru:ByteArray} {ve:Int} {L:List (ByteArray×ByteArray)} {D:Ld} {S:List Int} {pd:Int→Option Bool}
theorem Vw.add(hv:Vw ru ve L D S pd)(kd st se:Int)(to:ByteArray):∃S',Vw ru ve L (gF D ⟨kd,ru,ve,L,st,se,to⟩) S' (wX pd st (kd != 1))∧S'.length≤S.length+1∧∀t∈S',t∈S∨t=st:=by
 have hgp:∀t,(gF D ⟨kd,ru,ve,L,st,se,to⟩).gp (kK ru ve (cE L) t)=wX pd st (kd != 1) t:=fun t=>by
  show tG D.gp (kK ru ve (cE L) st) (kd != 1) (kK ru ve (cE L) t)=_
  unfold tG wX
  by_cases e:t=st
  ·subst e;simp
  ·rw[if_neg (fun h=>e (aCM.1 h)),if_neg e,hv.gp]
 cases hs:(D.gp (kK ru ve (cE L) st)).isSome with
 |true=>
  refine⟨S,⟨?_,hgp,fun t=>?_,hv.nd⟩,by omega,fun t ht=>.inl ht⟩
  ·have e:(gF D ⟨kd,ru,ve,L,st,se,to⟩).gs=D.gs:=by unfold gF;dsimp only;rw[hs]
   unfold FT;rw[e];exact hv.st
  ·rw[hv.dom]
   unfold wX
   by_cases e:t=st
   ·subst e;rw[if_pos rfl];rw[hv.gp]at hs;simp[hs]
   ·rw[if_neg e]
 |false=>
  refine⟨S++[st],⟨?_,hgp,fun t=>?_,?_⟩,by simp,fun t ht=>by simpa using ht⟩
  ·have e:(gF D ⟨kd,ru,ve,L,st,se,to⟩).gs=sX D.gs (iI ru ve (cE L)) st:=by unfold gF;dsimp only;rw[hs]
   obtain⟨h1,h2⟩:=hv.st;unfold FT;rw[e];unfold sX;rw[qZ];refine⟨by simp[h1],fun e o he ho=>?_⟩
   obtain rfl:o=0:=by omega
   dsimp only;rw[h1]
   by_cases he2:e<S.length
   ·rw[if_pos he2,h2 e 0 he2 (by omega)]
    unfold aE;simp[List.getElem?_append_left he2]
   ·have:e=S.length:=by simp at he;omega
    subst this;rw[if_neg (Nat.lt_irrefl _)];unfold aE;simp[bF,mI,aS]
  ·unfold wX
   rw[dF,hv.dom]
   by_cases e:t=st
   ·subst e;simp
   ·rw[if_neg e];simp[e]
  ·refine List.nodup_append.2 ⟨hv.nd,by simp,fun a ha b hb=>?_⟩
   obtain rfl:=eN.1 hb;rintro rfl
   have:=(hv.dom a).1 ha
   rw[←hv.gp,hs]at this;cases this
def nE(pd:Int→Option Bool)(T:List Int)(t:Int):Bool:=(pd t).getD false != decide (t∈T)
def pdA(pd:Int→Option Bool)(T A:List Int):Int→Option Bool:=fun t=>if t∈A∧nE pd T t=true then some (decide (t∈T)) else pd t
def pD(ru:ByteArray)(ve:Int)(L:List (ByteArray×ByteArray))(se:Int)(T:List Int)(t:Int):Pg:=⟨match decide (t∈T) with
 |true=>2
 |false=>1,ru,ve,L,t,se,⟨#[]⟩⟩
theorem vC(T:List Int)(se:Int):∀(A:List Int) (D:Ld) (out:List Pg) (S:List Int) (pd:Int→Option Bool),Vw ru ve L D S pd→A.Nodup →
  ∃S',Vw ru ve L (A.foldl (kW T ru ve L se) (D,out)).1 S' (pdA pd T A)∧(A.foldl (kW T ru ve L se) (D,out)).2=out++(A.filter (nE pd T)).map (pD ru ve L se T)∧S'.length≤S.length+A.length∧(∀t∈S',t∈S∨t∈A)∧(A.foldl (kW T ru ve L se) (D,out)).1.M.length≤D.M.length+A.length
 |[],D,out,S,pd,hv,_=>⟨S,by
    have e:pdA pd T []=pd:=by funext t;unfold pdA;simp
    rw[e];exact hv,by simp,by simp,fun t ht=>.inl ht,by simp⟩
 |x::A,D,out,S,pd,hv,hA=>by
  rw[List.nodup_cons]at hA;rw[List.foldl_cons];cases hf:nE pd T x with
  |false=>
   have e1:kW T ru ve L se (D,out) x=(D,out):=by
    unfold kW;dsimp only;rw[hv.gp];unfold nE at hf;revert hf
    cases (pd x).getD false<;>cases decide (x∈T)<;>intro hf<;>first|rfl|cases hf
   rw[e1];obtain⟨S',h1,h2,h3,h4,h5⟩:=vC T se A D out S pd hv hA.2;refine⟨S',?_,?_,by simp;omega,fun t ht=>(h4 t ht).imp id (cM _),by simp;omega⟩
   ·have e:pdA pd T (x::A)=pdA pd T A:=by
      funext t;unfold pdA
      by_cases e:t=x
      ·subst e;simp[hf]
      ·simp[e]
    rw[e];exact h1
   ·rw[h2,List.filter_cons,hf];rfl
  |true=>
   have e1:kW T ru ve L se (D,out) x=(gF D (pD ru ve L se T x),out++[pD ru ve L se T x]):=by
    unfold kW pD;dsimp only;rw[hv.gp];unfold nE at hf;revert hf
    cases (pd x).getD false<;>cases decide (x∈T)<;>intro hf<;>first|rfl|cases hf
   rw[e1];obtain⟨S1,k1,k2,k3⟩:=hv.add (pD ru ve L se T x).kd x se ⟨#[]⟩
   have ek:((pD ru ve L se T x).kd != 1)=decide (x∈T):=by unfold pD;dsimp only;cases decide (x∈T)<;>rfl
   rw[ek]at k1
   have hpd:∀t,t≠x→wX pd x (decide (x∈T)) t=pd t:=fun t ht=>by unfold wX;rw[if_neg ht]
   have hfl:∀t,t≠x→nE (wX pd x (decide (x∈T))) T t=nE pd T t:=fun t ht=>by unfold nE;rw[hpd t ht]
   obtain⟨S',h1,h2,h3,h4,h5⟩:=vC T se A (gF D (pD ru ve L se T x)) (out++[pD ru ve L se T x]) S1 _ k1 hA.2
   have hM:(gF D (pD ru ve L se T x)).M.length=D.M.length+1:=by unfold gF;simp
   refine⟨S',?_,?_,by simp;omega,fun t ht=>?_,by simp;omega⟩
   ·have e:pdA pd T (x::A)=pdA (wX pd x (decide (x∈T))) T A:=by
      funext t;unfold pdA
      by_cases e:t=x
      ·subst e
       rw[if_pos ⟨cY ..,hf⟩,if_neg (fun h=>hA.1 h.1)];unfold wX;rw[if_pos rfl]
      ·rw[hfl t e,hpd t e]
       simp[e]
    rw[e];exact h1
   ·rw[h2,List.filter_cons,hf,List.filter_congr (fun t ht=>hfl t (fun e=>hA.1 (e▸ht)))]
    simp
   ·rcases h4 t ht with h|h
    ·rcases k3 t h with h|h
     ·exact .inl h
     ·exact .inr (by rw[h];exact cY ..)
    ·exact .inr (cM _ h)
def aEF(ru:ByteArray)(ve:Int)(L:List (ByteArray×ByteArray))(se:Int)(pd:Int→Option Bool)(S T:List Int):List Pg:=((kH (iC (S++T))).filter (nE pd T)).map (pD ru ve L se T)
theorem YO(hv:Vw ru ve L D S pd)(T:List Int)(se:Int)(h1:hJ ⟨0,ru,ve,L,0,se,⟨#[]⟩⟩=true)(h2:∀t∈T,gQ t=true):∃D' S' pd',kJ D ru ve L S T se=(aU aI 7 (aEF ru ve L se pd S T),D')∧Vw ru ve L D' S' pd'∧(∀t,(pd' t).getD false=decide (t∈T))∧(∀t,(pd t).isSome=true→(pd' t).isSome=true)∧S'.length≤2*(S.length+T.length)∧(∀t∈S',t∈S∨t∈T)∧D'.M.length≤D.M.length+S.length+T.length:=by
 have hA:=oJ (S++T)
 have hlen:(kH (iC (S++T))).length≤S.length+T.length:=by
  have:=nF (iC (S++T))
  rw[kB,aV]at this;exact this
 obtain⟨S',k1,k2,k3,k4,k5⟩:=vC T se (kH (iC (S++T))) D [] S pd hv (EE (qD _));refine⟨_,S',_,?_,k1,fun t=>?_,fun t ht=>?_,by omega,fun t ht=>?_,by omega⟩
 ·unfold kJ
  have e:T.all gQ=true:=fL.2 h2
  rw[h1,e];dsimp only;unfold nG;rw[k2];rfl
 ·unfold pdA
  by_cases e:t∈S++T
  ·by_cases f:nE pd T t=true
   ·rw[if_pos ⟨(hA t).2 e,f⟩];rfl
   ·rw[if_neg (fun h=>f h.2)]
    unfold nE at f;simpa using f
  ·rw[if_neg (fun h=>e ((hA t).1 h.1))]
   have e1:t ∉ S:=fun h=>e (List.mem_append_left _ h)
   have e2:t ∉ T:=fun h=>e (List.mem_append_right _ h)
   rw[hv.dom]at e1;cases hq:pd t with
   |none=>simp[e2]
   |some x=>rw[hq]at e1;exact absurd rfl e1
 ·unfold pdA
  split
  ·rfl
  ·exact ht
 ·rcases k4 t ht with h|h
  ·exact .inl h
  ·exact dF.1 ((hA t).1 h)
theorem HR(hv:Vw ru ve L D S pd)(h1:hJ ⟨0,ru,ve,L,0,0,⟨#[]⟩⟩=true){B:List Int}(hB:B.Pairwise (· < ·))(hm:∀t,t∈B↔(pd t).getD false=true):nD D ru ve L S=aU aS 1 B:=by
 unfold nD;rw[h1];dsimp only;congr 1
 have e:rW D.gp ru ve (cE L) S=S.filter fun t=>(pd t).getD false:=by
  unfold rW
  exact List.filter_congr fun t _=>by rw[hv.gp]
 rw[e]
 refine pX (aAM (hv.nd.sublist List.filter_sublist)) hB fun t=>?_
 rw[zJ,List.mem_filter,hm,hv.dom];cases pd t<;>simp
theorem YL(hv:Vw ru ve L D S pd)(st se:Int)(to:ByteArray)(h1:hJ ⟨0,ru,ve,L,st,se,to⟩=true)(h2:pd st=none):jD D ⟨0,ru,ve,L,st,se,to⟩=(0,gF D ⟨0,ru,ve,L,st,se,to⟩):=by
 unfold jD;dsimp only;rw[h1,hv.gp,h2];rfl
theorem EL(hv:Vw ru ve L D S pd)(st se:Int)(to:ByteArray)(h1:hJ ⟨0,ru,ve,L,st,se,to⟩=true)(x:Bool)(h2:pd st=some x):jD D ⟨0,ru,ve,L,st,se,to⟩=(cond x 10 20,D):=by
 unfold jD;dsimp only;rw[h1,hv.gp,h2];cases x<;>rfl
end Go.AE
namespace Go.AE
open _root_.ByteArray renaming mk→aG
open _root_.Int renaming ofNat→dI,toNat_natCast→dP
open IntKind renaming i64→aC
open _root_.List renaming all_eq_true→fL,getD_eq_getElem?_getD→aD,getElem?_eq_getElem→aM,getElem_mem→jI,length_append→aV,mem_append→dF,mem_cons→eQ,mem_cons_of_mem→cM,mem_cons_self→cY,mem_singleton→eN,take_length→fS
open _root_.Nat renaming le_refl→aW,not_lt_zero→jA,zero_le→bW
open _root_.Go.Proofs.Try renaming prog→aB
open Value renaming agg→iB,int→cL,slice→bA,string→cP
open Go.Proofs Go.Proofs.Ytfjihbmehhccoaa Go.RowKit
def EK:Mod
 |[]=>some (True,bV true)
 |_=>none
theorem aDB:jC ⟨#[104,111,116]⟩=true:=by decide
theorem aHZ:lR []=true:=by decide
theorem TD{kd st se:Int}(h1:gQ st=true)(h2:gQ se=true):hJ ⟨kd,⟨#[104,111,116]⟩,1,[],st,se,⟨#[]⟩⟩=true:=by
 unfold hJ;rw[aDB,aHZ,h1,h2];rfl
theorem aDA:(⟨#[104,111,116]⟩:ByteArray).size≤1000000:=by decide
theorem TC:(cE []).size≤1000000:=by decide
theorem EV{D:Ld}{S:List Int}{pd:Int→Option Bool}(hv:Vw ⟨#[104,111,116]⟩ 1 [] D S pd)(hS:S.length≤1000)(hM:D.M.length≤1000)(kd st se:Int)(to:ByteArray)(hs:eV .i64 st):sP D ⟨kd,⟨#[104,111,116]⟩,1,[],st,se,to⟩:=by
 have h1:eV .i64 1:=by unfold eV;omega
 refine⟨xR _ _ _ _ aDA h1 TC hs,xS _ _ _ aDA h1 TC,TC,bW _,by omega,?_⟩
 have:=hv.st.1
 show (D.gs (iI ⟨#[104,111,116]⟩ 1 (cE []))).1≤_
 omega
section
variable {G:Nat→Option Obj}
theorem qS(D:Ld):bH aB G (OW D):=dZ (by simp;exact⟨aBR,aGZ D⟩)
theorem PJ(D:Ld)(S T:List Int)(out:List Pg)(D':Ld):bH aB G (aKB D S T out D'):=dZ (by simp;exact aDH (aC1 D S T out D'))
theorem NS(D:Ld)(S U:List Int):bH aB G (aJ9 D S U):=dZ (by simp;exact⟨aBL D S U,WC (aGK U [3,8])⟩)
theorem aSQ(a b c:Int):kA aS 1 [a,b,c] 3 fun e o=>mI (bF C.top [C.p (.i .i64 a),C.p (.i .i64 b),C.p (.i .i64 c)] ((e+0)*1+o)):=⟨rfl,fun e o he ho=>by
 obtain rfl:o=0:=by omega
 have:e=0∨e=1∨e=2:=by omega
 rcases this with rfl|rfl|rfl<;>rfl⟩
theorem aSR(a b:Int):kA aS 1 [a,b] 2 fun e o=>mI (bF C.top [C.p (.i .i64 a),C.p (.i .i64 b)] ((e+0)*1+o)):=⟨rfl,fun e o he ho=>by
 obtain rfl:o=0:=by omega
 have:e=0∨e=1:=by omega
 rcases this with rfl|rfl<;>rfl⟩
set_option maxRecDepth 100000 in
theorem YD:iO aB G 19 EK:=by
 intro args p v hm hp h;unfold EK at hm
 split at hm;rotate_left;· cases hm
 obtain⟨rfl,rfl⟩:=eM hm
 have i1:eV .i64 1:=by unfold eV;omega
 have i5:eV .i64 5:=by unfold eV;omega
 have o56:hJ ⟨0,⟨#[104,111,116]⟩,1,[],5,6,⟨#[]⟩⟩=true:=TD rfl rfl
 have v0:=aA9 ⟨#[104,111,116]⟩ 1 []
 have e1:=YL v0 5 6 ⟨#[]⟩ o56 rfl
 obtain⟨S1,v1,l1,m1⟩:=v0.add 0 5 6 ⟨#[]⟩
 have n1:(gF zO ⟨0,⟨#[104,111,116]⟩,1,[],5,6,⟨#[]⟩⟩).M.length=1:=rfl
 have f0:=EV v0 (by decide) (by decide) 0 5 6 ⟨#[]⟩ i5
 generalize gF zO ⟨0,⟨#[104,111,116]⟩,1,[],5,6,⟨#[]⟩⟩=D1 at e1 v1 n1
 have hp1:∀t,wX (fun _=>none) 5 ((0:Int) != 1) t=if t=5 then some true else none:=fun t=>rfl
 generalize wX (fun _=>none) 5 ((0:Int) != 1)=pd1 at v1 hp1
 have e2:=EL v1 5 6 ⟨#[]⟩ o56 true (by rw[hp1];rfl)
 have f1:=EV v1 (by simp at l1;omega) (by omega) 0 5 6 ⟨#[]⟩ i5
 obtain⟨D2,S2,pd2,e3,v2,g2,q2,l2,m2,n2⟩:=YO v1 [8,8,3] 9 (TD rfl rfl) (by decide)
 have d1:∀t,t∈S1↔t=5:=fun t=>by
  rw[v1.dom,hp1]
  by_cases e:t=5<;>simp[e]
 have eo:aEF ⟨#[104,111,116]⟩ 1 [] 9 pd1 S1 [8,8,3]=[⟨2,⟨#[104,111,116]⟩,1,[],3,9,⟨#[]⟩⟩,⟨1,⟨#[104,111,116]⟩,1,[],5,9,⟨#[]⟩⟩,⟨2,⟨#[104,111,116]⟩,1,[],8,9,⟨#[]⟩⟩]:=by
  have:kH (iC (S1++[8,8,3]))=[3,5,8]:=pX (qD _) (by decide) fun t=>by
    rw[oJ,dF,d1];simp;omega
  unfold aEF;rw[this]
  have k3:nE pd1 [8,8,3] 3=true:=by unfold nE;rw[hp1];rfl
  have k5:nE pd1 [8,8,3] 5=true:=by unfold nE;rw[hp1];rfl
  have k8:nE pd1 [8,8,3] 8=true:=by unfold nE;rw[hp1];rfl
  simp only[List.filter_cons,k3,k5,k8,List.filter_nil,if_true,List.map_cons,List.map_nil];rfl
 rw[eo]at e3
 obtain⟨O,hO⟩:∃O,O=([⟨2,⟨#[104,111,116]⟩,1,[],3,9,⟨#[]⟩⟩,⟨1,⟨#[104,111,116]⟩,1,[],5,9,⟨#[]⟩⟩,⟨2,⟨#[104,111,116]⟩,1,[],8,9,⟨#[]⟩⟩]:List Pg):=⟨_,rfl⟩
 rw[←hO]at e3
 have p25:pd2 5=some false:=by
  have h1:=q2 5 (by rw[hp1];rfl)
  have h2:=g2 5
  revert h1 h2;cases pd2 5 with
  |none=>intro h1;cases h1
  |some x=>intro _ h2;cases x with
   |true=>exact absurd h2 (by decide)
   |false=>rfl
 have e4:=EL v2 5 6 ⟨#[]⟩ o56 false p25
 simp at l1
 have l2':S2.length≤8:=by simp at l2;omega
 have n2':D2.M.length≤5:=by simp at n2;omega
 have f2:=EV v2 (by omega) (by omega) 0 5 6 ⟨#[]⟩ i5
 have e5:nD D2 ⟨#[104,111,116]⟩ 1 [] S2=aU aS 1 [3,8]:=HR v2 (TD rfl rfl) (by decide) fun t=>by
   rw[g2];simp;omega
 have r1:∀t∈S1,eV .i64 t:=fun t ht=>by rw[(d1 t).1 ht];exact i5
 have r2:∀t∈S2,eV .i64 t:=fun t ht=>by
  rcases m2 t ht with h|h
  ·exact r1 t h
  ·simp at h
   unfold eV;omega
 refine pW Try.func19 (by kernel_rfl) rfl ?_ h
 refine eJ.evG (qS zO) 5 (tL1 ()) ?_;simp only[bB,aL,cG];refine⟨trivial,⟨?_⟩⟩
 refine eJ.pre ((gU [0,2,3,4,1] (eZ 79 [1,2]) (by kernel_rfl) _).trans (aJ (by kernel_rfl))) (eJ.evG (qS zO) 1 (tL2 zO) ?_)
 simp only[bB,aL,cG];refine⟨⟨⟨trivial,trivial,trivial,fun _ _ _ _=>trivial,trivial,trivial,trivial,trivial⟩,fun _ _=>f0⟩,⟨?_⟩⟩;rw[e1]
 refine eJ.pre ((gU [0,2,3,4,1] (eZ 79 [1,2,3]) (by kernel_rfl) _).trans (aJ (by kernel_rfl))) (eJ.evG (qS D1) 1 (tL3 D1 0) ?_)
 simp only[bB,aL,cG];refine⟨⟨⟨trivial,trivial,trivial,fun _ _ _ _=>trivial,trivial,trivial,trivial,trivial⟩,fun _ _=>f1⟩,⟨?_⟩⟩;rw[e2]
 refine eJ.pre ((gU [0,2,3,4,1] (eZ 79 [1,2,3,4]) (by kernel_rfl) _).trans (aJ (by kernel_rfl))) (eJ.evG (PJ D1 S1 [8,8,3] O D2) 1 (tL4 D1 D2 S1 [8,8,3] O 0 10) ?_)
 simp only[bB,aL,cG];refine⟨⟨⟨⟨trivial,trivial,trivial,trivial,⟨rfl,by decide⟩,trivial,trivial⟩,fun e o he ho=>?_⟩,⟨⟨trivial,trivial,trivial,fun _ _ _ _=>trivial,trivial,trivial,trivial,trivial⟩,aSQ 8 8 3⟩,v1.st,⟨by decide,by decide,i1,by decide,r1,by simp;omega,by omega⟩,e3⟩,⟨?_⟩⟩
 ·obtain rfl:o=0:=by omega
  have:e=0∨e=1∨e=2:=by omega
  rcases this with rfl|rfl|rfl<;>rfl
 refine eJ.pre ((gU [0,2,3,4,1] (eZ 79 [1,2,3,4,5]) (by kernel_rfl) _).trans (aJ (by kernel_rfl))) (eJ.evG (qS D2) 1 (tL5 D2 O 0 10) ?_)
 simp only[bB,aL,cG];refine⟨⟨⟨trivial,trivial,trivial,fun _ _ _ _=>trivial,trivial,trivial,trivial,trivial⟩,fun _ _=>f2⟩,⟨?_⟩⟩;rw[e4]
 refine eJ.pre (aJ (by kernel_rfl)) (eJ.evH (NS D2 S2 [3,8]) (tL6 D2 S2 [3,8] O 0 10 20) ?_)
 subst hO;simp only[bZ,bB,aL,fI];refine⟨fun _=>⟨fun _=>⟨fun _=>⟨fun _=>⟨by decide,fun _=>⟨by decide,fun _=>⟨by decide,fun _=>⟨by decide,fun _=>⟨by decide,fun _=>⟨⟨⟨trivial,trivial,trivial,fun _ _ _ _=>trivial,trivial,trivial,trivial,trivial⟩,v2.st,⟨by decide,by decide,i1,r2,by omega⟩,e5⟩,⟨⟨⟨trivial,⟨rfl,by decide⟩,trivial⟩,fun e o he ho=>?_⟩,⟨dJ _ _ _,aSR 3 8⟩,by decide⟩,⟨iF.of_eq rfl⟩⟩,fun h=>absurd h (by decide)⟩,fun h=>absurd h (by decide)⟩,fun h=>absurd h (by decide)⟩,fun h=>absurd h (by decide)⟩,fun h=>absurd h (by decide)⟩,fun h=>absurd h (by decide)⟩,fun h=>absurd h (by decide)⟩,fun h=>absurd h (by decide)⟩,fun h=>absurd h (by decide)⟩
 obtain rfl:o=0:=by omega
 have:e=0∨e=1:=by omega
 rcases this with rfl|rfl<;>rfl
end
section
variable {G:Nat→Option Obj}
end
theorem wf_in{x:Int}(h:(Lit.int .i64 x).wf=true):eV .i64 x:=by
 have:=bounds_i64 h
 exact⟨this.1,this.2⟩
theorem row_vr{w:World}{a:Option Addr}{len cap:Nat}{zs:List Int}(h:(a=none∧len=0∧cap=0∧zs=[]) ∨
 ∃x:Addr,a=some x∧len≤cap∧cap≤maxLen∧zs.length=cap∧(∀i,i<zs.length→w.cell? (x.add i)=some (.int .i64 (zs.getD i 0)))∧∀n∈zs,(Lit.int .i64 n).wf=true) :
  ∃L,(∀t∈L,eV .i64 t)∧L.length≤9223372036854775807∧VR Bt.nil (fun b=>b<w.heap.size) w (aU aS 1 L) (.slice a len cap):=by
 rcases h with⟨rfl,rfl,rfl,rfl⟩|⟨x,rfl,h1,h2,h3,h4,h5⟩
 ·exact⟨[],(fun x hx=>by cases hx),bW _,none,0,rfl,aW _,bW _,fun h=>absurd h (Nat.lt_irrefl 0)⟩
 ·have hl:(zs.take len).length=len:=by rw[List.length_take];omega
  refine⟨zs.take len,fun y hy=>wf_in (h5 y (List.mem_of_mem_take hy)),by rw[hl];simp only[maxLen]at h2;omega,some x,cap,by rw[hl],by rw[hl];exact h1,h2,fun hn=>?_⟩;rw[hl]at hn;refine⟨x,rfl,?_,fun e o he ho=>?_⟩
  ·have:=World.block_lt_of_cell? w _ (h4 0 (by omega))
   rwa [qE]at this
  ·rw[hl]at he
   obtain rfl:o=0:=by omega
   refine⟨_,h4 (e*1+0) (by omega),?_⟩
   show cL .i64 (zs.getD (e*1+0) 0)=cL .i64 ((zs.take len).getD e default)
   simp[he]
end Go.AE
