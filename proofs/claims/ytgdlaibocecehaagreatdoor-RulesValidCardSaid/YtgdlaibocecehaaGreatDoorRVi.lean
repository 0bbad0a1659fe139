import Derived.Test.YtgdlaibocecehaaGreatDoorRVe
import Derived.Lib.AppendStr
import Derived.Laws.IdiomStrings
set_option linter.unusedVariables false
set_option linter.unusedSimpArgs false
namespace Go.AE
open _root_.Array renaming getD_eq_getD_getElem?→dR,getElem?_eq_some_iff→bF,getElem?_toList→bC,replicate→fJ
open _root_.Bool renaming and_eq_true→aY,not_eq_true'→bX
open _root_.List renaming getD_eq_getElem?_getD→aG,getElem?_eq_getElem→aN,getElem?_eq_some_iff→aV,length_set→fI
open _root_.Nat renaming beq→bE,ble→bS,eq_of_beq_eq_true→aH,le_of_ble_eq_true→aQ,le_refl→aU,lt_or_ge→cK
open _root_.Option renaming bind_eq_bind→aE,bind_eq_some_iff→aB,map_eq_some_iff→aM,pure_def→aK,some.injEq→aD
open Region renaming binds→eO,waitsFor→dF,waitsFor_spec→eZ,wanted→eD
open Go.RowKit
section
variable {P:Program} {G:Nat→Option Obj} {ops:Array Oper} {al:List AI} {ext:Ext} {U:Nat→Prop} {F:St} {own:Nat→Nat→Prop}
variable {β0 β β':Bt} {R0 R R':Nat→Prop} {w0 w w':World} {a:Act} {listed:Array Bool}
theorem aAK{ai:AI}{o:Nat→Prop}(hat:WT P G ext ai F o)(hd:ai.op.hd=true)(hlb:pN F ai.op=true){F2:St}(hck:CK F.h F2.h)(hown:∀x mk id,xS F ai.op=some (x,mk)→(∀s,ai.dst=some s→s<F.t.length→bN (.c .top) F.t s=mk id)→bN .gone F.h id=x→o id→id<F.h.length→bN .gone F2.h id=bN .gone F.h id∧id<F2.h.length)(htl:F2.t.length=F.t.length)
  (hs1:∀s∈ai.sls,bN (.c .top) F2.t s=bN (.c .top) F.t s) (hs2:∀s,ai.dst=some s→bN (.c .top) F2.t s=bN (.c .top) F.t s):WT P G ext ai F2 o:=by
 intro tM hag
 have hag1:dE F ⟨tM,F.h⟩ ai.sls:=fun s hs=>(hag s hs).trans (hs1 s hs)
 rcases hat tM hag1 with⟨hw,hd'⟩|⟨hw,v,hd',hk⟩|⟨hw,x,mk,id,hn,hd',hx,hid,ho⟩
 ·exact .inl ⟨hw,fun s h1 h2=>(hs2 s h1).trans (hd' s h1 (by omega))⟩
 ·refine .inr (.inl ⟨hw,v,fun s h1 h2=>(hs2 s h1).trans (hd' s h1 (by omega)),fun k' K' h=>?_⟩)
  cases hnw:ai.op.nw with
  |true=>exact(UJ hnw hk).elim
  |false=>exact VF hd hnw (UF (st:=F) (dE.right hag1) hlb) hck (hk (fun v _=>k' v F2.h) K' h)
 ·have hn':xS F ai.op=some (x,mk):=by rw[←hn];exact(sI (st:=F) (st':=⟨tM,F.h⟩) (dE.right hag1)).symm
  obtain⟨q1,q2⟩:=hown x mk id hn' hd' hx ho hid;refine .inr (.inr ⟨hw,x,mk,id,?_,fun s h1 h2=>(hs2 s h1).trans (hd' s h1 (by omega)),q1.trans hx,q2,ho⟩);rw[←hn];exact sI (st:=⟨tM,F.h⟩) (st':=⟨tM,F2.h⟩) (fun _ _=>rfl)
structure OK (ops:Array Oper) (al:List AI) (N:Nat):Prop where
 back:∀i o,ops[i]?=some o→∀e∈o.after,eO .any e=true→e.on<i
 dst:∀i j x y d,al[i]?=some x→al[j]?=some y→i<N→j<N→i≠j→x.dst=some d→y.dst≠some d
 dep:∀i j x y d,al[i]?=some x→al[j]?=some y→i<N→j<N→y.dst=some d→d∈x.sls→dF .any ops i j=true
 tl1:∀i,i<N→N<ops.size→∃j,i<j∧j≤N∧dF .any ops j i=true
 tl2:∀t,N<t→t<ops.size→dF .any ops t (t-1)=true
 len:al.length=ops.size
 le:N≤ops.size
variable {N:Nat}
theorem IV(hok:OK ops al N)(inv:HeadInv .any ops N listed){i i0:Nat}(h0:i0<N)(hu:listed.getD i0 false=false)(hi:i∈Region.ready .any ops listed):i<N:=by
 rcases cK i N with h|h
 case inl=>exact h
 obtain⟨q1,o,q2,q3⟩:=mem_ready.1 hi
 have his:i<ops.size:=(bF.1 q2).1
 by_cases e:i=N
 ·subst e
  have key:∀(k i0:Nat),i-i0≤k→i0<i→listed.getD i0 false=true:=by
   intro k;induction k with
   |zero=>intro i0 h1 h2;omega
   |succ k ih=>
    intro i0 h1 h2;obtain⟨j,j1,j2,j3⟩:=hok.tl1 i0 h2 his;obtain⟨o',ho',e,he,hb,hon⟩:=eZ j3
    by_cases ej:j=i
    ·subst ej
     rw[q2]at ho';injection ho' with ho';subst ho'
     have:=q3 e he hb
     rwa [hon]at this
    ·have:=inv.closed j o' ho' (ih j (by omega) (by omega)) e he hb
     rwa [hon]at this
  rw[key (i-i0) i0 (aU _) h0]at hu;cases hu
 ·obtain⟨o',ho',e',he,hb,hon⟩:=eZ (hok.tl2 i (by omega) his)
  rw[q2]at ho';injection ho' with ho';subst ho'
  have:=q3 e' he hb
  rw[hon,getD_both (inv.tail (i-1) (by omega) (by omega))]at this;cases this
theorem xJ(hok:OK ops al N)(inv:HeadInv .any ops N listed)(hc:0<cnt listed N):∃i0,i0<N∧listed.getD i0 false=false∧i0∈Region.ready .any ops listed:=by
 obtain⟨i0,hi0,hu0,hb0⟩:=cnt_pos hc
 have hi0s:i0<ops.size:=by have:=hok.le;omega
 exact⟨i0,hi0,hu0,mem_ready.2 ⟨getD_in (by rw[inv.size];exact hi0s) hu0,ops[i0],by simp[hi0s],fun e he hb=>hb0 e.on (hok.back i0 _ (by simp[hi0s]) e he hb)⟩⟩
theorem AL(hok:OK ops al N){i:Nat}{ai:AI}{o:Oper}(hi:i<N)(ha:al[i]?=some ai)(ho:ops[i]?=some o)(q3:∀e∈o.after,eO .any e=true→listed.getD e.on false=true) :
  ∀s∈ai.sls,∀j aj,j<N→al[j]?=some aj→aj.dst=some s→listed.getD j false=true:=by
 intro s hs j aj hj hja hd;obtain⟨o',ho',e,he,hb,hon⟩:=eZ (hok.dep i j ai aj s ha hja hi hj hd hs);rw[ho]at ho';injection ho' with ho';subst ho'
 have:=q3 e he hb
 rwa [hon]at this
def orB:List Bool→List Bool→List Bool
 |x::r,y::s=>(x||y)::orB r s
 |[],s=>s
 |r,[]=>r
theorem YC:∀(u v:List Bool) (i:Nat),bN false (orB u v) i=(bN false u i||bN false v i)
 |[],v,i=>by cases i<;>simp[orB,bN]
 |x::r,[],i=>by simp[orB,bN]
 |x::r,y::s,0=>rfl
 |x::r,y::s,i+1=>YC r s i
def fT(m:List Bool)(i:Nat):Prop:=bN false m i=true
theorem hZ{u v:List Bool}{i:Nat}:fT (orB u v) i↔fT u i∨fT v i:=by unfold fT;rw[YC,Bool.or_eq_true]
structure ZQ (ops:Array Oper) (al:List AI) (N:Nat) (v m:List Bool):Prop where
 mlt:∀i,fT m i→i<N
 vlt:∀i,fT v i→i<N
 mv:∀i,fT m i→¬fT v i
 hd:∀i ai,fT m i→al[i]?=some ai→ai.op.hd=true
 m1:∀i j x y d,(fT v i∨fT m i)→j<N→¬(fT v j∨fT m j)→al[i]?=some x→al[j]?=some y→y.dst=some d→d ∉ x.sls
 m2:∀i j x y d,fT v i→j<N→¬fT v j→al[i]?=some x→al[j]?=some y→y.dst=some d→d ∉ x.sls
structure aP1 (ops:Array Oper) (al:List AI) (N:Nat) (u:List Bool) (n:Nat):Prop where
 nN:n<N
 nu:¬fT u n
 out:∀i,i<N→¬fT u i→i≠n→∃j,j<i∧¬fT u j∧dF .any ops i j=true
structure IZ (P:Program) (G:Nat→Option Obj) (ops:Array Oper) (al:List AI) (N:Nat) (ext:Ext) (u:List Bool) (F:St) (own:Nat→Nat→Prop) (β0:Bt) (R0:Nat→Prop) (w0:World) (listed:Array Bool) (a:Act) (w:World) (β:Bt) (R:Nat→Prop):Prop where
 inv:HeadInv .any ops N listed
 un:∀i,i<N→¬fT u i→listed.getD i false=false
 dx:DX G al (fT u) F own β0 R0 w0 listed a w β R
 opAt:∀i ai,fT u i→al[i]?=some ai→listed.getD i false=false→WT P G ext ai F (own i)∧ai.op.hd=true
 od:∀i j id,fT u i→fT u j→j≠i→own i id→¬own j id
 ob:∀i id,fT u i→own i id→id<F.h.length
theorem aA1(hok:OK ops al N){v m:List Bool}(hst:ZQ ops al N v m){st:St}{n1:Nat}{S:Nat→St}(h0:S 0=st)(hn1:(oO m al).length=n1)(hr:Run P G ext (oO m al) n1 S)
  (I:IZ P G ops al N ext v st own β0 R0 w0 listed a w β R) (hlate:∀i ai,fT v i→al[i]?=some ai→listed.getD i false=false→pN st ai.op=true):∃own',IZ P G ops al N ext (orB v m) (S n1) own' β0 R0 w0 listed a w β R:=by
 have hle0:=hr.le (i:=0) (j:=n1) (Nat.zero_le _) (aU _)
 rw[h0]at hle0
 have hl1:∀q x,(oO m al)[q]?=some x→∃j,fT m j∧al[j]?=some x∧oV m j=q:=fun q x hq=>uO hq
 have hp1:∀i ai,al[i]?=some ai→fT m i→(oO m al)[oV m i]?=some ai∧oV m i<n1:=fun i ai ha hd=>by
  have h1:=BS hd ha
  exact⟨h1,by rw[←hn1];exact(aV.1 h1).1⟩
 have waits_lt:∀i j,dF .any ops i j=true→j<i:=fun i j hw=>by
  obtain⟨o',ho',e,he,hb,hon⟩:=eZ hw
  have:=hok.back i o' ho' e he hb
  omega
 have slot:∀s,(∀j aj,fT m j→al[j]?=some aj→aj.dst≠some s)→bN (.c .top) (S n1).t s=bN (.c .top) st.t s:=fun s hs=>hle0.2.2.2 s fun q aj _ _ hq hd=>by
  obtain⟨j,j1,j2,_⟩:=hl1 q aj hq;exact hs j aj j1 j2 hd
 open Classical in
 let own2:Nat→Nat→Prop:=fun i=>if fT m i then aHL S (oV m i) else own i
 have o2m:∀i,fT m i→own2 i=aHL S (oV m i):=fun i h=>by show (if _ then _ else _)=_;rw[if_pos h]
 have o2v:∀i,¬fT m i→own2 i=own i:=fun i h=>by show (if _ then _ else _)=_;rw[if_neg h]
 have nm:∀i,fT v i→¬fT m i:=fun i h k=>hst.mv i k h
 have hmal:∀i,fT m i→∃ai,al[i]?=some ai:=fun i h=>⟨al[i]'(by have:=hst.mlt i h;have:=hok.len;have:=hok.le;omega),aN _⟩
 have low:∀i id,fT v i→own i id→id<st.h.length:=I.ob
 have high:∀i id,fT m i→aHL S (oV m i) id→st.h.length≤id∧id<(S n1).h.length:=fun i id hi ⟨b1,b2⟩=>by
  obtain⟨ai,hai⟩:=hmal i hi
  have hp:=(hp1 i ai hai hi).2
  have q1:=(hr.le (i:=0) (j:=oV m i) (Nat.zero_le _) (by omega)).2.1
  have q2:=(hr.le (i:=oV m i+1) (j:=n1) (by omega) (aU _)).2.1
  rw[h0]at q1;omega
 refine⟨own2,I.inv,fun i hi hu=>I.un i hi (fun h=>hu (hZ.2 (.inl h))),⟨I.dx.gr,aJC I.dx.hs hle0.2.1 hle0.2.2.1,I.dx.df,by rw[I.dx.sz,hle0.1],?_,?_⟩,?_,?_,?_⟩
 ·intro s u' hu hnd
  rw[slot s (fun j aj hj hja hdd=>hnd j aj (hZ.2 (.inr hj)) hja (I.un j (hst.mlt j hj) (hst.mv j hj)) hdd)];exact I.dx.sl s u' hu (fun j aj hj hja hjl=>hnd j aj (hZ.2 (.inl hj)) hja hjl)
 ·intro i hi hil id hid
  rcases hZ.1 hi with h|h
  ·rw[o2v i (nm i h)]at hid
   exact I.dx.fr i h hil id hid
  ·rw[o2m i h]at hid
   cases hb:β id with
   |none=>rfl
   |some x=>have:=I.dx.hs.dom id x hb;have:=(high i id h hid).1;omega
 ·intro i ai hi hai hil
  by_cases hm:fT m i
  ·rw[o2m i hm]
   refine⟨aCT hr (hp1 i ai hai hm).2 (hp1 i ai hai hm).1 ?_ ?_,hst.hd i ai hm hai⟩
   ·intro s hs q aj hq _ hj hdj
    obtain⟨j,j1,j2,j3⟩:=hl1 q aj hj
    have hlt:=waits_lt i j (hok.dep i j ai aj s hai j2 (hst.mlt i hm) (hst.mlt j j1) hdj hs)
    have:=BV (bs:=m) j1 hlt
    omega
   ·intro s hs q aj hq _ hj hdj
    obtain⟨j,j1,j2,j3⟩:=hl1 q aj hj;exact hok.dst i j ai aj s hai j2 (hst.mlt i hm) (hst.mlt j j1) (fun e=>by rw[←e]at j3;omega) hs hdj
  ·have hv:fT v i:=(hZ.1 hi).resolve_right hm
   rw[o2v i hm];obtain⟨q1,q2⟩:=I.opAt i ai hv hai hil;refine⟨aAK q1 q2 (hlate i ai hv hai hil) (fun id x hx hid=>?_) (fun x mk id _ _ _ ho hl=>⟨hle0.2.2.1 id hl,by have:=hle0.2.1;omega⟩) hle0.1 (fun s hs=>slot s fun j aj hj hja hd=>hst.m2 i j ai aj s hv (hst.mlt j hj) (hst.mv j hj) hai hja hd hs) (fun s hs=>slot s fun j aj hj hja hd=>hok.dst i j ai aj s hai hja (hst.vlt i hv) (hst.mlt j hj) (fun e=>hm (e▸hj)) hs hd),q2⟩;rw[hle0.2.2.1 id (kF hid (aJ3 hx))];exact hid
 ·intro i j id hi hj hne h1 h2
  by_cases hmi:fT m i
  ·rw[o2m i hmi]at h1
   by_cases hmj:fT m j
   ·rw[o2m j hmj]at h2
    obtain⟨ai,hai⟩:=hmal i hmi;obtain⟨aj,haj⟩:=hmal j hmj;obtain⟨a1,a2⟩:=h1;obtain⟨b1,b2⟩:=h2
    rcases cK i j with h|h
    ·have h3:=BV (bs:=m) hmi h
     have:=(hr.le (i:=oV m i+1) (j:=oV m j) (by omega) (by have:=(hp1 j aj haj hmj).2;omega)).2.1
     omega
    ·have h3:=BV (bs:=m) hmj (show j<i by omega)
     have:=(hr.le (i:=oV m j+1) (j:=oV m i) (by omega) (by have:=(hp1 i ai hai hmi).2;omega)).2.1
     omega
   ·rw[o2v j hmj]at h2
    have:=low j id ((hZ.1 hj).resolve_right hmj) h2
    have:=(high i id hmi h1).1
    omega
  ·rw[o2v i hmi]at h1
   have q:=low i id ((hZ.1 hi).resolve_right hmi) h1
   by_cases hmj:fT m j
   ·rw[o2m j hmj]at h2
    have:=(high j id hmj h2).1
    omega
   ·rw[o2v j hmj]at h2
    exact I.od i j id ((hZ.1 hi).resolve_right hmi) ((hZ.1 hj).resolve_right hmj) hne h1 h2
 ·intro i id hi hid
  by_cases hmi:fT m i
  ·rw[o2m i hmi]at hid;exact(high i id hmi hid).2
  ·rw[o2v i hmi]at hid
   have:=low i id ((hZ.1 hi).resolve_right hmi) hid
   have:=hle0.2.1
   omega
theorem IZ.next(hext:bO P G ext)(hok:OK ops al N)(hal:fZ P ops ops.toList=some al){u:List Bool}{Q:Exit→Act→World→Prop}(I:IZ P G ops al N ext u F own β0 R0 w0 listed a w β R){i:Nat}(hi:i∈Region.ready .any ops listed)(hin:i<N)(hiu:fT u i)(hul:∀j,fT u j→j<N){K:Act→World→Prop}
  (hK:∀a' w' β' R',IZ P G ops al N ext u F own β0 R0 w0 (listed.setIfInBounds i true) a' w' β' R'→K a' w'):wpOp P ops Q i K a w:=by
 obtain⟨q1,o,q2,q3⟩:=mem_ready.1 hi
 have his:i<ops.size:=(bF.1 q2).1
 have hun:=getD_both q1
 have hil:i<listed.size:=by rw[I.inv.size];exact his
 obtain⟨ai,ha,hco⟩:=(iM hal).2 i o (by simpa using q2);obtain⟨hat,hhd⟩:=I.opAt i ai hiu ha hun
 refine I.dx.step hext hiu hil ha q2 hco hun hat (fun s hs j aj hj hja hd=>AL hok hin ha q2 q3 s hs j aj (hul j hj) hja hd) (fun j id hj hji h1=>I.od i j id hiu hj hji h1) fun a' w' β' R' hI'=>hK _ _ _ _ ⟨I.inv.set hi hin,fun j hj hju=>?_,hI',fun j aj hj hja hjl=>?_,I.od,I.ob⟩
 ·rw[getD_set_ne false (fun e:i=j=>hju (by rw[←e];exact hiu))];exact I.un j hj hju
 ·obtain⟨h3,h4⟩:=mR hjl hil
  exact I.opAt j aj hj hja h3
theorem aQG(hext:bO P G ext)(hok:OK ops al N)(hal:fZ P ops ops.toList=some al){u:List Bool}{n:Nat}(hn:aP1 ops al N u n)(hul:∀j,fT u j→j<N){Q:Exit→Act→World→Prop}
  (hM:∀(listed:Array Bool) (a:Act) (w:World) (β:Bt) (R:Nat→Prop) (o:Oper),ops[n]?=some o→n∈Region.ready .any ops listed→IZ P G ops al N ext u F own β0 R0 w0 listed a w β R→(∀i,i<n→Ch ops n i→listed.getD i false=true) →
   (∀s∈AI.sls ((al[n]?).getD ⟨none,.mv (.t 0),none⟩),∀j aj,j<N→al[j]?=some aj→aj.dst=some s→listed.getD j false=true) →
   wpOp P ops Q n (wpAny P .any ops Q (cnt listed N-1+(ops.size-N)) (listed.setIfInBounds n true)) a w) :
  ∀(f:Nat) (listed:Array Bool) (a:Act) (w:World) (β:Bt) (R:Nat→Prop),cnt listed N=f→IZ P G ops al N ext u F own β0 R0 w0 listed a w β R→wpAny P .any ops Q (f+(ops.size-N)) listed a w:=by
 intro f;induction f with
 |zero=>
  intro listed a w β R hc I
  have:=cnt_zero hc n hn.nN
  rw[I.un n hn.nN hn.nu]at this;cases this
 |succ f ih=>
  intro listed a w β R hc I;rw[show f+1+(ops.size-N)=(f+(ops.size-N))+1 by omega];obtain⟨i0,hi0,hu0,hr0⟩:=xJ hok I.inv (by omega);refine⟨fun h=>(by rw[h]at hr0;cases hr0),fun i hi=>?_⟩;obtain⟨q1,o,q2,q3⟩:=mem_ready.1 hi
  have his:i<ops.size:=(bF.1 q2).1
  have hin:=IV hok I.inv hi0 hu0 hi
  have hun:=getD_both q1
  have hil:i<listed.size:=by rw[I.inv.size];exact his
  obtain⟨ai,ha,hco⟩:=(iM hal).2 i o (by simpa using q2)
  by_cases e:i=n
  ·subst e
   have:=hM listed a w β R o q2 hi I (fun j hj hcj=>WJ I.inv q2 q3 i j (by omega) hj hcj) (fun s hs j aj hj hja hd=>by
     rw[ha]at hs
     exact AL hok hin ha q2 q3 s hs j aj hj hja hd)
   rwa [hc,Nat.add_sub_cancel]at this
  ·have hiu:fT u i:=Classical.byContradiction fun hnu=>by
     obtain⟨j,h1,h2,h3⟩:=hn.out i hin hnu e;obtain⟨o',ho',e,he,hb,hon⟩:=eZ h3;rw[q2]at ho';injection ho' with ho';subst ho'
     have:=q3 e he hb
     rw[hon,I.un j (by omega) h2]at this;cases this
   exact I.next hext hok hal hi hin hiu hul fun a' w' β' R' I'=>ih _ a' w' β' R' (by have:=cnt_set hil hun hin;omega) I'
theorem aXF(hext:bO P G ext)(hok:OK ops al N)(hal:fZ P ops ops.toList=some al){u:List Bool}(hall:∀i,i<N→fT u i)(hul:∀j,fT u j→j<N){Q:Exit→Act→World→Prop}
  (hT:∀a w β R,eC G β R F a w→Gr β0 R0 w0 β R w→wpList P ops Q (ops.toList.drop N) a w) :
  ∀(f:Nat) (listed:Array Bool) (a:Act) (w:World) (β:Bt) (R:Nat→Prop),cnt listed N=f→IZ P G ops al N ext u F own β0 R0 w0 listed a w β R→wpAny P .any ops Q (f+(ops.size-N)) listed a w:=by
 intro f;induction f with
 |zero=>
  intro listed a w β R hc I;rw[Nat.zero_add]
  have hall':=cnt_zero hc
  have hsim:eC G β R F a w:=by
   refine⟨I.dx.df,All2.of_get (by simp[I.dx.sz]) ?_,I.dx.hs⟩;intro s y z hx hy
   have h1:=I.dx.sl s z (by simpa using hy) fun i ai hi _ hl=>by rw[hall' i (hul i hi)]at hl;cases hl
   rw[eK,aG,hx]at h1;exact h1
  have:=CP hok.back (ops.toList.drop N) N listed a w (fun j=>by simp[List.getElem?_drop]) I.inv.size (fun i hi _=>hall' i hi) I.inv.tail (fun t ht hts=>hok.tl2 t ht hts) (hT a w β R hsim I.dx.gr)
  simpa using this
 |succ f ih=>
  intro listed a w β R hc I;rw[show f+1+(ops.size-N)=(f+(ops.size-N))+1 by omega];obtain⟨i0,hi0,hu0,hr0⟩:=xJ hok I.inv (by omega);refine⟨fun h=>(by rw[h]at hr0;cases hr0),fun i hi=>?_⟩;obtain⟨q1,o,q2,q3⟩:=mem_ready.1 hi
  have his:i<ops.size:=(bF.1 q2).1
  have hin:=IV hok I.inv hi0 hu0 hi
  have hun:=getD_both q1
  have hil:i<listed.size:=by rw[I.inv.size];exact his
  exact I.next hext hok hal hi hin (hall i hin) hul fun a' w' β' R' I'=>ih _ a' w' β' R' (by have:=cnt_set hil hun hin;omega) I'
def xC:Nat→List Bool
 |0=>[true]
 |n+1=>false::xC n
theorem mH:∀ {n i:Nat},fT (xC n) i↔i=n
 |0,0=>by simp[fT,xC,bN]
 |0,i+1=>by simp[fT,xC,bN]
 |n+1,0=>by simp[fT,xC,bN]
 |n+1,i+1=>by
  have:=mH (n:=n) (i:=i)
  unfold fT at this ⊢;simp only[xC,bN];rw[this];omega
def zO:List Bool→List Bool→List Bool
 |[],_=>[]
 |x::r,[]=>x::zO r []
 |x::r,y::s=>(x && !y)::zO r s
theorem FC:∀(u c:List Bool) (i:Nat),bN false (zO u c) i=(bN false u i && !bN false c i)
 |[],c,i=>by cases i<;>simp[zO,bN]
 |x::r,[],0=>by simp[zO,bN]
 |x::r,[],i+1=>by simpa[zO,bN] using FC r [] i
 |x::r,y::s,0=>by simp[zO,bN]
 |x::r,y::s,i+1=>by simpa[zO,bN] using FC r s i
def FF{α:Type}:List α→Nat→Option α
 |[],_=>none
 |x::_,0=>some x
 |_::r,n+1=>FF r n
theorem sF{α:Type}:∀(l:List α) (n:Nat),FF l n=l[n]?
 |[],n=>by simp[FF]
 |x::r,0=>rfl
 |x::r,n+1=>by simpa[FF] using sF r n
def sQ:Nat→(Nat→Bool)→Bool
 |0,_=>true
 |n+1,f=>f n&&sQ n f
theorem lD{f:Nat→Bool}:∀ {n:Nat},sQ n f=true→∀i,i<n→f i=true
 |n+1,h,i,hi=>by
  simp only[sQ,aY]at h
  by_cases e:i=n
  ·subst e;exact h.1
  ·exact lD h.2 i (by omega)
def UK(d:Option Nat)(l:List Nat):Bool:=match d with
 |some a=>l.any fun b=>bE a b
 |none=>false
theorem FI{d:Nat}{l:List Nat}:UK (some d) l=true↔d∈l:=by
 unfold UK;rw[List.any_eq_true];exact⟨fun⟨x,h1,h2⟩=>by rw[aH h2];exact h1,fun h=>⟨d,h,Nat.beq_refl d⟩⟩
def aKF:Option Nat→Option Nat→Bool
 |some a,some b=>bE a b
 |_,_=>false
def OA(al:List AI)(i:Nat):Option Nat:=match FF al i with
 |some x=>x.dst
 |none=>none
def aA5(al:List AI)(i:Nat):List Nat:=match FF al i with
 |some x=>x.sls
 |none=>[]
theorem yD{al:List AI}{i:Nat}{x:AI}(h:al[i]?=some x):OA al i=x.dst:=by unfold OA;rw[sF,h]
theorem XG{al:List AI}{i:Nat}{x:AI}(h:al[i]?=some x):aA5 al i=x.sls:=by unfold aA5;rw[sF,h]
def ZO(os:List Oper)(i:Nat):Bool:=match FF os i with
 |some o=>o.after.toList.all fun e => !eO .any e||Nat.blt e.on i
 |none=>true
def aD2(ops:Array Oper)(al:List AI)(N:Nat):Bool:=
 sQ ops.size (ZO ops.toList)&&(sQ N (fun i=>sQ N fun j=>bE i j || !aKF (OA al i) (OA al j))&&(sQ N (fun i=>sQ N fun j => !UK (OA al j) (aA5 al i)||dF .any ops i j) &&
 (sQ N (fun i=>bS ops.size N||dF .any ops N i)&&(sQ ops.size (fun t=>bS t N||dF .any ops t (t-1))&&(bE (fK al) ops.size&&bS N ops.size)))))
theorem aHG(h:aD2 ops al N=true):OK ops al N:=by
 unfold aD2 at h;simp only[aY]at h;obtain⟨h1,h2,h3,h4,h5,h6,h7⟩:=h;refine⟨fun i o ho e he hb=>?_,fun i j x y d hx hy hi hj hij hd hd'=>?_,fun i j x y d hx hy hi hj hd hs=>?_,fun i hi hN=>?_,fun t ht hts=>?_,by rw[←fH];exact aH h6,aQ h7⟩
 ·have:=lD h1 i (bF.1 ho).1
  unfold ZO at this;rw[sF,show ops.toList[i]?=some o by simpa using ho]at this
  have:=List.all_eq_true.1 this e (by simpa using he)
  rw[hb]at this;simpa using this
 ·have:=lD (lD h2 i hi) j hj
  rw[yD hx,yD hy,hd,hd']at this
  have e1:bE i j=false:=by
   cases hq:bE i j with
   |false=>rfl
   |true=>exact absurd (aH hq) hij
  rw[e1]at this;simp[aKF]at this
 ·have:=lD (lD h3 i hi) j hj
  rw[XG hx,yD hy,hd,FI.2 hs]at this;simpa using this
 ·have:=lD h4 i hi
  rw[show bS ops.size N=false by
   cases hq:bS ops.size N with
   |false=>rfl
   |true=>have:=aQ hq;omega]at this
  exact⟨N,hi,aU _,by simpa using this⟩
 ·have:=lD h5 t hts
  rw[show bS t N=false by
   cases hq:bS t N with
   |false=>rfl
   |true=>have:=aQ hq;omega]at this
  simpa using this
def hdO(al:List AI)(i:Nat):Bool:=match FF al i with
 |some x=>x.op.hd
 |none=>true
def SX(al:List AI)(N:Nat)(v m:List Bool):Bool:=
 bS (fK v) N&&(bS (fK m) N&&(sQ N (fun i => !(bN false m i&&bN false v i))&&(sQ N (fun i => !bN false m i||hdO al i) &&
 (sQ N (fun i=>sQ N fun j => !(bN false (orB v m) i)||(bN false (orB v m) j || !UK (OA al j) (aA5 al i)))&&sQ N (fun i=>sQ N fun j => !(bN false v i)||(bN false v j || !UK (OA al j) (aA5 al i)))))))
theorem NN{m:List Bool}{i:Nat}(h:fT m i):i<fK m:=by rw[fH];exact aNR h
theorem aCL{v m:List Bool}(h:SX al N v m=true):ZQ ops al N v m:=by
 unfold SX at h;simp only[aY]at h;obtain⟨h1,h2,h3,h4,h5,h6⟩:=h
 have h1:=aQ h1
 have h2:=aQ h2
 have hm:∀i,fT m i→i<N:=fun i hi=>by have:=NN hi;omega
 have hv:∀i,fT v i→i<N:=fun i hi=>by have:=NN hi;omega
 have key:∀ {u:List Bool},(∀i,fT u i→i<N)→sQ N (fun i=>sQ N fun j => !(bN false u i)||(bN false u j || !UK (OA al j) (aA5 al i)))=true→∀i j x y d,fT u i→j<N→¬fT u j→al[i]?=some x→al[j]?=some y→y.dst=some d→d ∉ x.sls:=by
  intro u hu hq i j x y d hi hj hnj hx hy hd hmem
  have:=lD (lD hq i (hu i hi)) j hj
  rw[show bN false u i=true from hi,show bN false u j=false by simpa[fT] using hnj,XG hx,yD hy,hd,FI.2 hmem]at this;simp at this
 refine⟨hm,hv,fun i hi hvi=>?_,fun i ai hi hai=>?_,fun i j x y d hi hj hnj=>key (fun i hi=>by rcases hZ.1 hi with h|h;exact hv i h;exact hm i h) h5 i j x y d (hZ.2 hi) hj (fun e=>hnj (hZ.1 e)),key hv h6⟩
 ·have:=lD h3 i (hm i hi)
  rw[show bN false m i=true from hi,show bN false v i=true from hvi]at this;simp at this
 ·have:=lD h4 i (hm i hi)
  rw[show bN false m i=true from hi]at this;unfold hdO at this;rw[sF,hai]at this;simpa using this
end
section
variable {P:Program} {G:Nat→Option Obj} {ops:Array Oper} {al:List AI} {N:Nat} {S:Nat→St} {ext:Ext}
variable {β0:Bt} {R0:Nat→Prop} {w0:World}
end
section
variable {P:Program} {G:Nat→Option Obj} {ops:Array Oper} {al:List AI} {N:Nat} {ext:Ext}
variable {F:St} {own:Nat→Nat→Prop} {β0 β:Bt} {R0 R:Nat→Prop} {w0 w:World} {listed:Array Bool} {a:Act}
def IB(st:St):rB→Option Nat
 |.load _ x=>match st.ev x with
  |.c (.ptr id _)=>some id
  |_=>none
 |_=>none
def kpP(st:St)(h':List AO):List AI→Prop
 |[]=>True
 |x::r=>(match IB st x.op with
  |some id=>nY (bN .gone st.h id)=true∧bN .gone h' id=bN .gone st.h id
  |none=>True)∧kpP st h' r
def KA(st:St):List AI→Bool
 |[]=>true
 |x::r=>pN st x.op&&(!x.op.nw&&KA st r)
def aOO(x y:C)(k:Tr):Tr:=match x,y with
 |.p (.i a n),.p (.i b m)=>.rq (a=b∧n=m) k
 |.p (.s a),.p (.s b)=>.rq (a=b) k
 |.p (.b a),.p (.b b)=>.rq (a=b) k
 |.p (.l a n f),.p (.l b m g)=>.rq (a=b∧n=m∧f=g) k
 |.p (.z a),.p (.z b)=>.rq (a=b) k
 |_,_=>.fail
def aFY:List C→List C→Tr→Tr
 |[],[],k=>k
 |x::r,y::s,k=>aOO x y (aFY r s k)
 |_,_,_=>.fail
def kpT(st:St)(h':List AO):List AI→Tr→Tr
 |[],k=>k
 |x::r,k=>match IB st x.op with
  |some id=>match bN .gone st.h id,bN .gone h' id with
   |.cells t vs,.cells t' vs'=>oN (bE t t') (aFY vs vs' (kpT st h' r k))
   |_,_=>.fail
  |none=>kpT st h' r k
theorem WE{x y:C}{k:Tr}{K:X→St→Prop}(h:(aOO x y k).holds P G K):x=y∧k.holds P G K:=by
 unfold aOO at h;split at h
 ·obtain⟨⟨rfl,rfl⟩,h⟩:=h;exact⟨rfl,h⟩
 ·obtain⟨rfl,h⟩:=h;exact⟨rfl,h⟩
 ·obtain⟨rfl,h⟩:=h;exact⟨rfl,h⟩
 ·obtain⟨⟨rfl,rfl,rfl⟩,h⟩:=h;exact⟨rfl,h⟩
 ·obtain⟨rfl,h⟩:=h;exact⟨rfl,h⟩
 ·exact h.elim
theorem BA:∀ {xs ys:List C} {k:Tr} {K:X→St→Prop},(aFY xs ys k).holds P G K→xs=ys∧k.holds P G K
 |[],[],k,K,h=>⟨rfl,h⟩
 |x::r,y::s,k,K,h=>by
  obtain⟨h1,h2⟩:=WE h;obtain⟨h3,h4⟩:=BA h2;exact⟨by rw[h1,h3],h4⟩
 |[],_::_,k,K,h=>h.elim
 |_::_,[],k,K,h=>h.elim
theorem zP{st:St}{h':List AO}:∀ {l:List AI} {k:Tr} {K:X→St→Prop},(kpT st h' l k).holds P G K→kpP st h' l∧k.holds P G K
 |[],k,K,h=>⟨trivial,h⟩
 |x::r,k,K,h=>by
  simp only[kpT]at h;simp only[kpP];split at h
  ·rename_i id hid
   split at h
   ·rename_i t vs t' vs' e1 e2
    obtain⟨c1,c2⟩:=cE h;obtain⟨c3,c4⟩:=BA c2;obtain⟨c5,c6⟩:=zP c4
    (try rw[hid])
    refine⟨⟨⟨by rw[e1];rfl,?_⟩,c5⟩,c6⟩;rw[e1,e2,c3,aH c1]
   ·exact h.elim
  ·rename_i hid
   obtain⟨c5,c6⟩:=zP h
   (try rw[hid])
   exact⟨⟨trivial,c5⟩,c6⟩
theorem JZ{st:St}:∀ {l:List AI} {q:Nat} {x:AI},KA st l=true→l[q]?=some x→pN st x.op=true∧x.op.nw=false
 |[],_,_,_,h=>by simp at h
 |y::r,0,x,h,hx=>by
  simp at hx;subst hx;simp only[KA,aY,bX]at h;exact⟨h.1,h.2.1⟩
 |y::r,q+1,x,h,hx=>by
  simp only[KA,aY,bX]at h;exact JZ h.2.2 (by simpa using hx)
theorem YQ{st:St}{h':List AO}:∀ {l:List AI} {q:Nat} {x:AI},kpP st h' l→l[q]?=some x→∀id,IB st x.op=some id→nY (bN .gone st.h id)=true∧bN .gone h' id=bN .gone st.h id
 |[],_,_,_,h=>by simp at h
 |y::r,0,x,h,hx=>by
  simp at hx;subst hx;intro id hid
  have h1:=h.1
  rw[hid]at h1;exact h1
 |y::r,q+1,x,h,hx=>YQ (l:=r) (q:=q) h.2 (by simpa using hx)
theorem VG{op:rB}(hd:op.hd=true)(hn:op.nw=false){t:List V}{h h':List AO}(hl:pN ⟨t,h⟩ op=true)(hc:∀id,IB ⟨t,h⟩ op=some id→nY (bN .gone h id)=true∧bN .gone h' id=bN .gone h id){k:V→List AO→Tr}{K:X→St→Prop}
  (hh:(gL (jE ext) ⟨t,h⟩ (fun v _=>k v h') op).holds P G K):(gL (jE ext) ⟨t,h'⟩ k op).holds P G K:=by
 cases op<;>simp only[rB.hd,rB.nw,Bool.false_eq_true,Bool.true_eq_false]at hd hn
 case load m x=>
  have e:∀y:AX,St.ev ⟨t,h'⟩ y=St.ev ⟨t,h⟩ y:=fun y=>by cases y<;>rfl
  simp only[gL,e]at hh ⊢;simp only[pN]at hl;split at hh
  ·rename_i id off he
   obtain⟨c1,c2⟩:=hc id (by simp only[IB,he])
   (try rw[he])
   (try dsimp only at hh ⊢)
   split at hh
   ·rename_i ty vs hid
    rw[c2,hid];exact hh
   ·rename_i j b0 hid
    rw[hid]at c1;cases c1
   ·exact hh.elim
  ·rename_i he
   simp only[he]at hl;cases hl
  ·rename_i he
   (try rw[he])
   exact hh
  ·exact hh.elim
 case build z ps=>
  simp only[gL]at hh ⊢;rw[ZC (h:=h') (h':=h)];exact hh
 case call f args=>
  simp only[gL]at hh ⊢;rw[YJ (h:=h') (h':=h)];exact hh
 case more o=>cases hl
 case look=>cases hl
 all_goals exact hh
theorem aIQ{st:St}{op:rB}{x:AO}{mk:Nat→V}(h:xS st op=some (x,mk)):op.nw=true:=by
 cases op<;>simp only[xS]at h<;>first|rfl|cases h
theorem VE{st st':St}{op:rB}(h:dE st st' op.sls):IB st' op=IB st op:=by
 cases op<;>first|rfl|skip
 rename_i m x;simp only[IB];rw[cH h]
theorem UG{ai:AI}{o:Nat→Prop}(hat:WT P G ext ai F o)(hd:ai.op.hd=true)(hlb:pN F ai.op=true)(hnw:ai.op.nw=false){F2:St}(hck:∀id,IB F ai.op=some id→nY (bN .gone F.h id)=true∧bN .gone F2.h id=bN .gone F.h id)(htl:F2.t.length=F.t.length)
  (hs1:∀s∈ai.sls,bN (.c .top) F2.t s=bN (.c .top) F.t s) (hs2:∀s,ai.dst=some s→bN (.c .top) F2.t s=bN (.c .top) F.t s):WT P G ext ai F2 o:=by
 intro tM hag
 have hag1:dE F ⟨tM,F.h⟩ ai.sls:=fun s hs=>(hag s hs).trans (hs1 s hs)
 rcases hat tM hag1 with⟨hw,hd'⟩|⟨hw,v,hd',hk⟩|⟨hw,x,mk,id,hn,hd',hx,hid,ho⟩
 ·exact .inl ⟨hw,fun s h1 h2=>(hs2 s h1).trans (hd' s h1 (by omega))⟩
 ·refine .inr (.inl ⟨hw,v,fun s h1 h2=>(hs2 s h1).trans (hd' s h1 (by omega)),fun k' K' h=>?_⟩)
  refine VG hd hnw (UF (st:=F) (dE.right hag1) hlb) (fun id hid=>?_) (hk (fun v _=>k' v F2.h) K' h);rw[VE (st:=F) (dE.right hag1)]at hid;exact hck id hid
 ·rw[aIQ hn]at hnw;cases hnw
end
section
variable {P:Program} {G:Nat→Option Obj}
end
section
variable {P:Program} {G:Nat→Option Obj}
theorem ST{id:Nat}{t0:TypeId}{vs vs':List C}{st:St}(hid:bN .gone st.h id=.cells t0 vs)(h:∀(β:Bt) (R:Nat→Prop) (w:World) us,All2 (CR β R w) vs us→All2 (CR β R w) vs' us) :
  cW G st ⟨st.t,upd (.cells t0 vs') st.h id⟩:=by
 intro β R a w hs
 have hh:=hs.hs
 have hlid:=kF hid (by simp)
 have hlv:∀i,(bN .gone (upd (.cells t0 vs') st.h id) i).live=(bN .gone st.h i).live:=fun i=>by
  by_cases e:id=i
  ·subst e;rw[gQ _ _ _ hlid,hid];rfl
  ·rw[fC _ _ _ e]
 refine⟨β,R,⟨hs.df,hs.tm,?_⟩,Fr.refl _ _ _,fun _ hb=>hb⟩;refine NR hh (by rw[jB,fI];exact aU _) (fun i x hi=>by rw[jB,fI];exact hh.dom i x hi) (fun _ h=>h) hh.rlt ?_ ?_ hh.lt ?_ ?_
 ·intro i j b o o' hi hj li lj
  rw[hlv]at li lj;exact hh.inj i j b o o' hi hj li lj
 ·intro i b o hi li
  rw[hlv]at li;exact hh.sep i b o hi li
 ·intro i b o hi
  by_cases e:id=i
  ·subst e
   rw[gQ _ _ _ hlid]
   have hob:=hh.obj id b o hi
   rw[hid]at hob;obtain⟨cs,g1,g2⟩:=hob;exact⟨cs,g1,h _ _ _ _ g2⟩
  ·rw[fC _ _ _ e]
   exact hh.obj i b o hi
 ·intro b ad hq
  obtain⟨q1,q2,q3⟩:=hh.ql b ad hq;exact⟨q1,q2,fun i o hi=>by rw[hlv];exact q3 i o hi⟩
end
section
variable {P:Program} {G:Nat→Option Obj} {st:St}
theorem aIW(b off k:Nat):(⟨b,off,none⟩:Addr).add k=⟨b,off+k,none⟩:=by simp[Addr.add]
theorem uJ{j id off n:Nat}{ty:TypeId}{cs:List C}(F:Nat→Nat→PV)(hj:bN (.c .top) st.t j=.c (.ptr id off))(hid:bN .gone st.h id=.cells ty cs)(hn:cs.length=n)(hF:∀o,o<n→∃x,bN .top cs o=.p x∧jT x (F 0 o)) :
  cW G st ⟨upd (.c (.lp n 1 F 0 off)) st.t j,upd .gone st.h id⟩:=by
 intro β R a w hs
 have hh:=hs.hs
 have hlid:=kF hid (by simp)
 have hlive:(bN .gone st.h id).live=true:=by rw[hid];rfl
 let R':Nat→Prop:=fun b1=>R b1∨∃N,β id=some (b1,N)
 have hkp:jC β R w β R' w:=⟨fun _ _ h=>h,fun _ h=>.inl h,fun _ _=>rfl⟩
 have hl2:∀i,(bN .gone (upd .gone st.h id) i).live=true→i≠id∧(bN .gone st.h i).live=true:=fun i hl=>jX hl
 have hlf:∀i,(bN .gone st.h i).live=false→(bN .gone (upd .gone st.h id) i).live=false:=fun i hl=>by
  by_cases e:id=i
  ·subst e;rw[gQ _ _ _ hlid];rfl
  ·rw[fC _ _ _ e];exact hl
 have hHS:HS G β R' w (upd .gone st.h id):=by
  refine NR hh (by rw[jB,fI];exact aU _) (fun i x hi=>by rw[jB,fI];exact hh.dom i x hi) (fun _ h=>.inl h) ?_ ?_ ?_ hh.lt ?_ ?_
  ·rintro b (h1|⟨N,h1⟩)
   ·exact hh.rlt b h1
   ·exact hh.lt id b N h1
  ·intro i j b o o' hi hj li lj
   exact hh.inj i j b o o' hi hj (hl2 i li).2 (hl2 j lj).2
  ·rintro i b o hi li (h1|⟨N,h1⟩)
   ·exact hh.sep i b o hi (hl2 i li).2 h1
   ·exact(hl2 i li).1 (hh.inj i id b o N hi h1 (hl2 i li).2 hlive)
  ·intro i b o hi
   cases hl:(bN .gone (upd .gone st.h id) i).live with
   |false=>exact OR.dead_gone hkp hl (hh.obj i b o hi)
   |true=>
    obtain⟨k1,k2⟩:=hl2 i hl;rw[fC _ _ _ (fun e=>k1 e.symm)];exact OR.keep hkp (fun b1 k h1=>⟨h1,rfl⟩) rfl (hh.obj i b o hi)
  ·intro b2 ad hq
   obtain⟨q1,q2,q3⟩:=hh.ql b2 ad hq;refine⟨q1,fun h=>h.elim q2 ?_,fun i o hi=>hlf i (q3 i o hi)⟩;rintro⟨N,h1⟩
   have:=q3 id N h1
   rw[hlive]at this;cases this
 have hgr:Gr β R w β R' w:=⟨⟨rfl,rfl,rfl,aU _,fun _ _=>rfl,fun _ _ _=>rfl,fun _ h=>.inl h,fun b hb=>by
  rcases hb with h|⟨N,h⟩
  ·exact .inl h
  ·exact .inr (.inl (.inl ⟨id,N,h⟩))⟩,fun _ _ h=>h,fun _ h=>.inl h⟩
 refine⟨β,R',⟨hs.df,?_,hHS⟩,hgr.toFr,hgr.rm⟩
 have htm:All2 (VR β R' w) st.t a.tmps.toList:=hs.tm.mono fun _ _ h=>VR.keep hkp h
 rw[jB]
 by_cases hjl:j<st.t.length
 ·obtain⟨v,hv,hvr⟩:=hs.tm.get j (bN (.c .top) st.t j) (by rw[eK,aG,aN hjl];rfl)
  rw[hj]at hvr;obtain⟨b,o,g1,rfl⟩:=hvr
  have hob:=hh.obj id b o g1
  rw[hid]at hob;obtain⟨us,g2,g3⟩:=hob
  have key:VR β R' w (.c (.lp n 1 F 0 off)) (.pointer (some ⟨b,off,none⟩)):=by
   refine⟨⟨b,0,none⟩,by rw[aIW];simp,by omega,.inr ⟨o,g1⟩,fun e q he hq=>?_⟩
   obtain rfl:e=0:=by omega
   obtain⟨x,h1,h2⟩:=hF q hq
   have hx:cs[q]?=some (.p x):=by
    rw[eK,aG,aN (by omega)]at h1;rw[aN (by omega)];exact congrArg some h1
   obtain⟨u,h3,h4⟩:=g3.get q (.p x) hx;refine⟨u,?_,h2 _ _ _ (PR.keep (fun _ h=>.inl h) (fun _ _=>rfl) _ h4)⟩;rw[add_mid,cell_of_row w b _ us ty (0,0) g2,←h3,bC];congr 1;omega
  have h9:=htm.set j _ _ key
  have h8:a.tmps.toList.set j (.pointer (some ⟨b,off,none⟩))=a.tmps.toList:=by
   obtain⟨hj2,hv2⟩:=aV.1 hv;rw[←hv2,List.set_getElem_self]
  rwa [h8]at h9
 ·rw[List.set_eq_of_length_le (by omega)]
  exact htm
end
def HV(o:Oper)(done:List Bool):Bool:=o.after.toList.all fun e => !eO .any e||bN false done e.on
def aK4:Option Tr→Option Tr→Option Tr
 |some a,some b=>some (.alt a b)
 |some a,none=>some a
 |none,b=>b
def aCQ:List Bool→Nat→List Bool
 |[],_=>[]
 |_::r,0=>true::r
 |b::r,i+1=>b::aCQ r i
def BN:List Bool→Bool
 |[]=>true
 |b::r=>b&&BN r
noncomputable def oC(ext:Ext)(full:List Bool)(st:St)(next:List Bool→St→Tr):Nat→List Oper→List AI→List Bool→Option Tr
 |i,o::os,ai::al,d::ds=>match d with
  |true=>oC ext full st next (i+1) os al ds
  |false=>match HV o full with
   |true=>aK4 (some (match ai.guard with
    |none=>gL ext st (fun v h=>next (aCQ full i) ⟨oP st.t ai.dst v,h⟩) ai.op
    |some _=>.fail)) (oC ext full st next (i+1) os al ds)
   |false=>oC ext full st next (i+1) os al ds
 |_,_,_,_=>none
def aWZ:Option Tr→Tr
 |some t=>t
 |none=>.fail
noncomputable def OH(ext:Ext)(os:List Oper)(all:List AI)(k:St→Tr):Nat→List Bool→St→Tr
 |0,done,st=>match BN done with
  |true=>k st
  |false=>.fail
 |n+1,done,st=>aWZ (oC ext done st (OH ext os all k n) 0 os all done)
def zV:Nat→List Bool
 |0=>[]
 |n+1=>false::zV n
theorem aBD(n:Nat):zV n=List.replicate n false:=by
 induction n with
 |zero=>rfl
 |succ n ih=>show false::zV n=_;rw[ih];rfl
theorem XK:∀(l:List Bool) (i:Nat),aCQ l i=l.set i true
 |[],_=>rfl
 |_::_,0=>rfl
 |b::r,i+1=>by show b::aCQ r i=b::r.set i true;rw[XK r i]
theorem ZN:∀ {l:List Bool},BN l=true→∀i,i<l.length→l[i]?=some true
 |b::r,h,i,hi=>by
  unfold BN at h;simp only[aY]at h;cases i with
  |zero=>rw[h.1];rfl
  |succ i=>exact ZN h.2 i (by simpa using hi)
section
variable {P:Program} {G:Nat→Option Obj} {ops:Array Oper}
theorem LI{a:Tr}{b:Option Tr}{t:Tr}(h:aK4 (some a) b=some t){K:X→St→Prop}(ht:t.holds P G K):a.holds P G K∧∀u,b=some u→u.holds P G K:=by
 cases b with
 |none=>
  injection h with h;subst h;exact⟨ht,fun u hu=>by cases hu⟩
 |some b=>
  injection h with h;subst h;exact⟨ht.1,fun u hu=>by injection hu with hu;subst hu;exact ht.2⟩
theorem OX{ext:Ext}{full:List Bool}{st:St}{next:List Bool→St→Tr}{K:X→St→Prop}:∀(os:List Oper) (al:List AI) (ds:List Bool) (i:Nat) (t:Tr),oC ext full st next i os al ds=some t→t.holds P G K →
  ∀(j:Nat) (o:Oper) (ai:AI),os[j]?=some o→al[j]?=some ai→ds[j]?=some false→HV o full=true→ai.guard=none∧(gL ext st (fun v h=>next (aCQ full (i+j)) ⟨oP st.t ai.dst v,h⟩) ai.op).holds P G K
 |o0::os,a0::al,d::ds,i,t,he,ht,j,o,ai,h1,h2,h3,h4=>by
  unfold oC at he;cases j with
  |zero=>
   obtain rfl:o0=o:=by simpa using h1
   obtain rfl:a0=ai:=by simpa using h2
   obtain rfl:d=false:=by simpa using h3
   rw[h4]at he;dsimp only at he
   have:=(LI he ht).1
   cases hg:a0.guard with
   |none=>rw[hg]at this;exact⟨rfl,this⟩
   |some _=>rw[hg]at this;exact this.elim
  |succ j=>
   have nxt:∀u,oC ext full st next (i+1) os al ds=some u→u.holds P G K→_:=fun u hu hv=>OX os al ds (i+1) u hu hv j o ai (by simpa using h1) (by simpa using h2) (by simpa using h3) h4
   rw[show i+(j+1)=i+1+j by omega];cases d with
   |true=>exact nxt t he ht
   |false=>
    dsimp only at he;cases hr:HV o0 full with
    |false=>rw[hr]at he;exact nxt t he ht
    |true=>
     rw[hr]at he;dsimp only at he
     cases hu:oC ext full st next (i+1) os al ds with
     |none=>
      exfalso
      have hn:∀(os:List Oper) (al:List AI) (ds:List Bool) (i j:Nat) (o:Oper) (ai:AI),os[j]?=some o→al[j]?=some ai→ds[j]?=some false→HV o full=true→oC ext full st next i os al ds≠none:=by
       intro os;induction os with
       |nil=>intro al ds i j o ai q1;simp at q1
       |cons o0 os ih=>
        intro al ds i j o ai q1 q2 q3 q4;cases al with
        |nil=>simp at q2
        |cons a0 al=>
         cases ds with
         |nil=>simp at q3
         |cons d ds=>
          unfold oC;cases j with
          |zero=>
           obtain rfl:o0=o:=by simpa using q1
           obtain rfl:d=false:=by simpa using q3
           rw[q4];dsimp only
           cases oC ext full st next (i+1) os al ds<;>simp[aK4]
          |succ j=>
           have:=ih al ds (i+1) j o ai (by simpa using q1) (by simpa using q2) (by simpa using q3) q4
           cases d with
           |true=>exact this
           |false=>
            dsimp only;cases HV o0 full with
            |false=>exact this
            |true=>
             dsimp only
             cases oC ext full st next (i+1) os al ds<;>simp[aK4]
      exact hn os al ds (i+1) j o ai (by simpa using h1) (by simpa using h2) (by simpa using h3) h4 hu
     |some u=>exact nxt u hu ((LI he ht).2 u hu)
 |[],_,_,_,_,_,_,j,_,_,h1,_,_,_=>by simp at h1
 |_::_,[],_,_,_,_,_,j,_,_,_,h2,_,_=>by simp at h2
 |_::_,_::_,[],_,_,_,_,j,_,_,_,_,h3,_=>by simp at h3
theorem CV{ext:Ext}{full:List Bool}{st:St}{next:List Bool→St→Tr}:∀(os:List Oper) (al:List AI) (ds:List Bool) (i:Nat),oC ext full st next i os al ds≠none→∃(j:Nat) (o:Oper),os[j]?=some o∧ds[j]?=some false∧HV o full=true
 |o0::os,a0::al,d::ds,i,h=>by
  have nxt:oC ext full st next (i+1) os al ds≠none→∃(j:Nat) (o:Oper),(o0::os)[j]?=some o∧(d::ds)[j]?=some false∧HV o full=true:=fun h=>by
   obtain⟨j,o,h1,h2,h3⟩:=CV os al ds (i+1) h;exact⟨j+1,o,by simpa using h1,by simpa using h2,h3⟩
  unfold oC at h;cases d with
  |true=>exact nxt h
  |false=>
   cases hr:HV o0 full with
   |false=>rw[hr]at h;exact nxt h
   |true=>exact⟨0,o0,rfl,rfl,hr⟩
 |[],_,_,_,h=>by exact absurd rfl h
 |_::_,[],_,_,h=>by exact absurd rfl h
 |_::_,_::_,[],_,h=>by exact absurd rfl h
theorem PH{o:Oper}{listed:Array Bool}:HV o listed.toList=true↔∀e∈o.after,eO .any e=true→listed.getD e.on false=true:=by
 unfold HV;rw[List.all_eq_true]
 have key:∀j:Nat,bN false listed.toList j=listed.getD j false:=fun j=>by
  rw[eK,aG,bC,dR]
 constructor
 ·intro h e he hb
  have:=h e (by simpa using he)
  rw[hb,key]at this;simpa using this
 ·intro h e he
  have he:e∈o.after:=by simpa using he
  cases hb:eO .any e with
  |false=>rfl
  |true=>rw[key,h e he hb];rfl
theorem HF{ext:Ext}(hext:bO P G ext){all:List AI}(hall:fZ P ops ops.toList=some all){k:St→Tr}{K:X→St→Prop}{Q:Exit→Act→World→Prop}{β0:Bt}{R0:Nat→Prop}{w0:World}
  (hT:∀st' a' w' β' R',(k st').holds P G K→eC G β' R' st' a' w'→Gr β0 R0 w0 β' R' w'→Q .normal a' w') :
  ∀(n:Nat) (listed:Array Bool) (st:St) (a:Act) (w:World) (β:Bt) (R:Nat→Prop),listed.size=ops.size→(OH ext ops.toList all k n listed.toList st).holds P G K→eC G β R st a w→Gr β0 R0 w0 β R w→wpAny P .any ops Q n listed a w
 |0,listed,st,a,w,β,R,hsz,h,hs,hg=>by
  unfold OH at h;split at h
  ·rename_i hd
   refine⟨?_,hT st a w β R h hs hg⟩;rw[List.eq_nil_iff_forall_not_mem];intro i hi
   obtain⟨q1,o,q2,_⟩:=mem_ready.1 hi
   have hil:i<listed.size:=by rw[hsz];exact(bF.1 q2).1
   have:=ZN hd i (by simpa using hil)
   rw[bC]at this;rw[dR,this]at q1;cases q1
  ·exact h.elim
 |n+1,listed,st,a,w,β,R,hsz,h,hs,hg=>by
  obtain⟨hl0,hg0⟩:=iM hall;unfold OH at h;refine⟨fun hr=>?_,fun i hi=>?_⟩
  ·exfalso
   cases he:oC ext listed.toList st (OH ext ops.toList all k n) 0 ops.toList all listed.toList with
   |none=>rw[he]at h;exact h.elim
   |some t=>
    obtain⟨j,o,h1,h2,h3⟩:=CV _ _ _ _ (by rw[he];simp)
    have hm:j∈Region.ready .any ops listed:=by
     refine mem_ready.2 ⟨?_,o,by simpa using h1,PH.1 h3⟩;rw[bC]at h2;rw[dR,h2];rfl
    rw[hr]at hm;cases hm
  ·obtain⟨q1,o,q2,q3⟩:=mem_ready.1 hi
   have hil:i<listed.size:=by rw[hsz];exact(bF.1 q2).1
   obtain⟨ai,ha,hco⟩:=hg0 i o (by simpa using q2)
   have hd:listed.toList[i]?=some false:=by
    rw[bC,Array.getElem?_eq_getElem hil];rw[dR,Array.getElem?_eq_getElem hil]at q1;simpa using q1
   cases he:oC ext listed.toList st (OH ext ops.toList all k n) 0 ops.toList all listed.toList with
   |none=>rw[he]at h;exact h.elim
   |some t=>
    rw[he]at h;obtain⟨hgu,hop⟩:=OX _ _ _ _ _ he h i o ai (by simpa using q2) ha hd (PH.2 q3);rw[Nat.zero_add,XK]at hop;simp only[lE,aE,aB,aK,aD]at hco;obtain⟨aop,h3,g,h4,rfl⟩:=hco
    have hgu:g=none:=hgu
    have hog:o.guard=none:=by
     subst hgu;cases hq:o.guard with
     |none=>rfl
     |some jw=>
      obtain⟨j,want⟩:=jw;rw[hq]at h4;simp only[mC,aM]at h4;obtain⟨d,_,h5⟩:=h4;cases h5
    have hw:eD o (yielded ops a.tmps)=true:=by unfold eD;rw[hog]
    have e:(listed.setIfInBounds i true).toList=listed.toList.set i true:=by simp
    unfold wpOp;rw[q2];dsimp only;rw[if_pos hw];refine .inl ((rH hs h3 hext hop).wp ?_);rintro u w' ⟨β',R',x,h',r1,r2,r3,r4,_⟩;exact HF hext hall hT n _ _ _ _ β' R' (by simpa using hsz) (by rw[e];exact r1) (hs.put r4 r3 r2 o.dst) (hg.trans r4)
theorem jV.any{ext:Ext}(hext:bO P G ext){rid:Nat}(hm:P.follows .mixedOrders=true){all:List AI}(hall:fZ P ops ops.toList=some all)(keep:List Bool){st:St}{K1:X→St→Prop}
  (hh:(OH ext ops.toList all (fun s'=>.done .normal (YU keep s')) (fK ops.toList) (zV (fK ops.toList)) st).holds P G K1):jV P G (.raw (.region rid ops true)) st fun e st'=>e=.normal∧K1 .normal (YU keep st'):=by
 refine jV.raw fun β R a w hs=>?_
 refine wp_region_any hm ?_;obtain⟨hs',hg⟩:=hs.drawn (w.drawn+1)
 have hl:fK ops.toList=ops.size:=by rw[fH];simp
 rw[hl]at hh;refine HF hext hall (k:=fun s'=>.done .normal (YU keep s')) (K:=K1) (β0:=β) (R0:=R) (w0:=w) ?_ _ _ st a _ β R (by simp) (by rw[Array.toList_replicate,←aBD];exact hh) hs' hg;intro st' a' w' β' R' hk hs2 hg2
 exact⟨β',R',st',⟨rfl,hk⟩,hs2,hg2.toFr,hg2.rm⟩
theorem cO.any{rs:List AR}{v:V}{ext:Ext}(hext:bO P G ext){rid:Nat}(hm:P.follows .mixedOrders=true){all:List AI}(hall:fZ P ops ops.toList=some all)(keep:List Bool){l r':List dA}{st:St}{Q:X→St→Prop}(hl:l=.raw (.region rid ops true)::r'){tree:Tr}
  (ht:OH ext ops.toList all (fun s'=>.done .normal (YU keep s')) (fK ops.toList) (zV (fK ops.toList)) st=tree) (h:tree.holds P G fun _ s=>cO P G rs v r' s Q):cO P G rs v l st Q:=by
 subst hl;subst ht;refine jV.mono (jV.any hext hm hall keep h) ?_;rintro e s ⟨rfl,h⟩;exact cO.pre (fW keep s) h
end
section
variable {P:Program} {G:Nat→Option Obj} {ops:Array Oper} {al:List AI} {N:Nat} {ext:Ext}
variable {F:St} {own:Nat→Nat→Prop} {β0 β:Bt} {R0 R:Nat→Prop} {w0 w:World} {listed:Array Bool} {a:Act}
def stS:rB→List Nat
 |.store _ x y=>x.sl++y.sl
 |_=>[]
def aJ7:rB→Bool
 |.store .. => true
 |_=>false
theorem uE{st st':St}{x:AX}(h:∀s∈x.sl,bN (.c .top) st'.t s=bN (.c .top) st.t s):st'.ev x=st.ev x:=cH h
theorem ZZ{st:St}{n:Nat}{x y:AX}{k:V→List AO→Tr}{K:X→St→Prop}(h:(gL ext st k (.store n x y)).holds P G K) :
  ∃h',(k (.t []) h').holds P G K∧∀st':St,st'.h=st.h→(∀s∈x.sl++y.sl,bN (.c .top) st'.t s=bN (.c .top) st.t s)→∀(k':V→List AO→Tr) (K':X→St→Prop),(k' (.t []) h').holds P G K'→(gL ext st' k' (.store n x y)).holds P G K':=by
 simp only[gL]at h;split at h
 case h_2=>exact h.elim
 rename_i cs hcs;split at h
 ·rename_i id off hx
  split at h
  ·rename_i ty vs hid
   obtain⟨c1,c2⟩:=cE h;refine⟨_,c2,fun st' hh hag k' K' hk=>?_⟩;simp only[gL,uE (fun s hs=>hag s (List.mem_append_left _ hs)),uE (fun s hs=>hag s (List.mem_append_right _ hs)),hcs,hx,hh,hid];exact eP c1 hk
  ·rename_i j b0 hid
   split at h
   ·rename_i ty vs hj
    obtain⟨c1,c2⟩:=cE h;refine⟨_,c2,fun st' hh hag k' K' hk=>?_⟩;simp only[gL,uE (fun s hs=>hag s (List.mem_append_left _ hs)),uE (fun s hs=>hag s (List.mem_append_right _ hs)),hcs,hx,hh,hid,hj];exact eP c1 hk
   ·exact h.elim
  ·exact h.elim
 ·rename_i id sz e o hx
  split at h
  ·rename_i ty sz' m f hid
   obtain⟨c0,h⟩:=h;obtain⟨c1,c2⟩:=cE h;refine⟨_,c2,fun st' hh hag k' K' hk=>?_⟩;simp only[gL,uE (fun s hs=>hag s (List.mem_append_left _ hs)),uE (fun s hs=>hag s (List.mem_append_right _ hs)),hcs,hx,hh,hid];exact⟨c0,eP c1 hk⟩
  ·rename_i ty sz' m e0 vs f hid
   obtain⟨c0,h⟩:=h;obtain⟨c1,c2⟩:=cE h;refine⟨_,c2,fun st' hh hag k' K' hk=>?_⟩;simp only[gL,uE (fun s hs=>hag s (List.mem_append_left _ hs)),uE (fun s hs=>hag s (List.mem_append_right _ hs)),hcs,hx,hh,hid];exact⟨c0,eP c1 hk⟩
  ·exact h.elim
 ·exact h.elim
theorem aK3(hext:bO P G ext)(hok:OK ops al N)(hal:fZ P ops ops.toList=some al){u e:List Bool}{n:Nat}(hn:n<N∧¬fT u n)(hul:∀j,fT u j→j<N){mm:AI}(hmm:al[n]?=some mm){sz:Nat}{ax ay:AX}(hma:mm.op=.store sz ax ay)(hmg:mm.guard=none)(hmd:mm.dst=none)
  (hz:KA F (oO (zO u e) al)=true) {kk:St→Tr} {K:X→St→Prop} (h:(gL ext F (fun v h'=>kpT F h' (oO (zO u e) al) (oN (bS (fK F.h) (fK h')) (kk ⟨F.t,h'⟩))) mm.op).holds P G K) {Q:Exit→Act→World→Prop}
  {o:Oper} (ho:ops[n]?=some o) (hrdy:n∈Region.ready .any ops listed) (I:IZ P G ops al N ext u F own β0 R0 w0 listed a w β R) (hch:∀i,fT e i→listed.getD i false=true)
  (hrd:∀s∈stS mm.op,∀j aj,j<N→al[j]?=some aj→aj.dst=some s→listed.getD j false=true) {K2:Act→World→Prop}
  (hK:∀st' own' a' w' β' R',(kk st').holds P G K→IZ P G ops al N ext (orB u (xC n)) st' own' β0 R0 w0 (listed.setIfInBounds n true) a' w' β' R'→(∀i ai,fT (orB u (xC n)) i→al[i]?=some ai→(listed.setIfInBounds n true).getD i false=false→pN st' ai.op=true)→K2 a' w'):wpOp P ops Q n K2 a w:=by
 obtain⟨q1,o',q2,q3⟩:=mem_ready.1 hrdy;rw[ho]at q2;injection q2 with q2;subst q2
 have hns:n<ops.size:=(bF.1 ho).1
 have hun:=getD_both q1
 have hil:n<listed.size:=by rw[I.inv.size];exact hns
 obtain⟨ai,ha,hco⟩:=(iM hal).2 n o (by simpa using ho);rw[hmm]at ha;injection ha with ha;subst ha;simp only[lE,aE,aB,aK,aD]at hco;obtain⟨aop,hop,g,hgd,rfl⟩:=hco;dsimp only at hma hmg hmd hz h hrd;subst hma
 have hog:o.guard=none:=by
  subst hmg;cases hq:o.guard with
  |none=>rfl
  |some jw=>
   obtain⟨j,want⟩:=jw;rw[hq]at hgd;simp only[mC,aM]at hgd;obtain⟨d,_,h5⟩:=hgd;cases h5
 obtain⟨tM,hsim,htM⟩:=I.dx.mask
 have hag:∀s∈ax.sl++ay.sl,bN (.c .top) tM s=bN (.c .top) F.t s:=fun s hs=>htM s (fun j aj h1 h2 h3 h4=>by
  rw[hrd s hs j aj (hul j h1) h2 h4]at h3;cases h3)
 unfold wpOp;simp only[ho]
 have hw':eD o (yielded ops a.tmps)=true:=by unfold eD;rw[hog]
 rw[hw'];simp only[if_true];obtain⟨h',hkk,hv⟩:=ZZ h;obtain⟨hkp,hkk⟩:=zP hkk;obtain⟨hlen,hkk⟩:=cE hkk
 have hlen:=aQ hlen
 rw[fH,fH]at hlen
 have h1:(gL ext ⟨tM,F.h⟩ (fun v' h''=>.rq (v'=.t []∧h''=h') (.done .normal ⟨[],[]⟩)) (.store sz ax ay)).holds P G fun _ _=>True:=
  hv ⟨tM,F.h⟩ rfl hag _ _ ⟨⟨rfl,rfl⟩,trivial⟩
 refine .inl ((rH hsim hop hext h1).wp ?_);rintro x' w' ⟨β',R',x,hh,⟨⟨rfl,rfl⟩,_⟩,r2,r3,r4,r5⟩
 have unl:∀i,fT (orB u (xC n)) i→(listed.setIfInBounds n true).getD i false=false→fT u i∧i≠n∧listed.getD i false=false:=fun i hi hl=>by
  obtain⟨h3,h4⟩:=mR hl hil
  have hne:i≠n:=by first|exact h4|exact fun e=>h4 e.symm
  exact⟨(hZ.1 hi).resolve_right (fun e=>hne (mH.1 e)),hne,h3⟩
 have late:∀i ai,fT u i→al[i]?=some ai→listed.getD i false=false→(pN F ai.op=true∧ai.op.nw=false)∧∀id,IB F ai.op=some id→nY (bN .gone F.h id)=true∧bN .gone hh id=bN .gone F.h id:=fun i ai hi hai hl=>by
  have hc:bN false (zO u e) i=true:=by
   rw[FC]
   have h1:bN false u i=true:=hi
   rw[h1];cases hq:bN false e i with
   |false=>rfl
   |true=>rw[hch i hq]at hl;cases hl
  exact⟨JZ hz (BS hc hai),YQ hkp (BS hc hai)⟩
 have hput:∀y,a.put o.dst y=a:=fun y=>by rw[hmd];rfl
 rw[hput];refine hK ⟨F.t,hh⟩ (fun i=>if i=n then fun _=>False else own i) _ w' β' R' hkk ⟨I.inv.set hrdy hn.1,fun i hi hiu=>?_,⟨I.dx.gr.trans r4,r3,I.dx.df,I.dx.sz,?_,?_⟩,?_,?_,?_⟩ ?_
 ·have h2:¬fT u i:=fun e=>hiu (hZ.2 (.inl e))
  have h3:i≠n:=fun e=>hiu (hZ.2 (.inr (mH.2 e)))
  rw[getD_set_ne false (fun e=>h3 e.symm)];exact I.un i hi h2
 ·intro s u' hu hnd
  show VR β' R' w' (bN (.c .top) F.t s) u'
  exact VR.keep r4.keeps (I.dx.sl s u' hu (fun j aj hj hja hjl=>hnd j aj (hZ.2 (.inl hj)) hja (by rw[getD_set_ne false (fun h=>hn.2 (by rw[h];exact hj))];exact hjl)))
 ·intro i hi hl id hid
  obtain⟨h2,h3,h4⟩:=unl i hi hl;rw[if_neg h3]at hid;rw[r5 id (I.ob i id h2 hid)];exact I.dx.fr i h2 h4 id hid
 ·intro i ai hi hai hl
  obtain⟨h2,h3,h4⟩:=unl i hi hl;rw[if_neg h3];obtain⟨q4,q5⟩:=I.opAt i ai h2 hai h4;obtain⟨⟨q6,q7⟩,q8⟩:=late i ai h2 hai h4;exact⟨UG q4 q5 q6 q7 q8 rfl (fun s hs=>rfl) (fun s hs=>rfl),q5⟩
 ·intro i j id hi hj hne h1 h2
  by_cases ei:i=n
  ·rw[if_pos ei]at h1;exact h1
  by_cases ej:j=n
  ·rw[if_pos ej]at h2;exact h2
  rw[if_neg ei]at h1;rw[if_neg ej]at h2;exact I.od i j id ((hZ.1 hi).resolve_right (fun e=>ei (mH.1 e))) ((hZ.1 hj).resolve_right (fun e=>ej (mH.1 e))) hne h1 h2
 ·intro i id hi hid
  by_cases ei:i=n
  ·rw[if_pos ei]at hid;exact hid.elim
  rw[if_neg ei]at hid
  have:=I.ob i id ((hZ.1 hi).resolve_right (fun e=>ei (mH.1 e))) hid
  show id<hh.length
  omega
 ·intro i ai hi hai hl
  obtain⟨h2,h3,h4⟩:=unl i hi hl;exact UF (st:=F) (fun s hs=>rfl) (late i ai h2 hai h4).1.1
def nC:Nat→List Bool
 |0=>[]
 |n+1=>true::nC n
theorem rL:∀ {n i:Nat},fT (nC n) i↔i<n
 |0,i=>by cases i<;>simp[fT,nC,bN]
 |n+1,0=>by simp[fT,nC,bN]
 |n+1,i+1=>by
  have:=rL (n:=n) (i:=i)
  simp only[fT]at this ⊢
  show bN false (nC n) i=true↔_
  rw[this];omega
def orS:Option AI→rB
 |some x=>x.op
 |none=>.mv (.t 0)
def aPF(ops:Array Oper)(al:List AI)(n:Nat)(e:List Bool):Bool:=sQ n fun j=>dF .any ops n j||(!bN false e j && !UK (OA al j) (stS (orS (FF al n))))
noncomputable def aHD(ext:Ext)(al:List AI)(n:Nat)(e:List Bool)(k:St→Tr)(st:St):Tr:=
 nB (jE ext) (oO (nC n) al) st fun st1=>match FF al n with
  |some mm=>match mm.guard,mm.dst with
   |none,none=>oN (aJ7 mm.op&&KA st1 (oO (zO (nC n) e) al)) (gL ext st1 (fun _ h'=>kpT st1 h' (oO (zO (nC n) e) al) (oN (bS (fK st1.h) (fK h')) (nB ext (bJ (n+1) al) ⟨st1.t,h'⟩ k))) mm.op)
   |_,_=>.fail
  |none=>.fail
def XO(ops:Array Oper)(al:List AI)(n:Nat)(e:List Bool):Bool:=aD2 ops al (n+1)&&(bS (fK e) n&&(SX al (n+1) [] (nC n)&&aPF ops al n e))
theorem aD3(hext:bO P G ext)(hal:fZ P ops ops.toList=some al){n:Nat}{e:List Bool}(hB:XO ops al n e=true){k:St→Tr}{K:X→St→Prop}{st:St}(h:(aHD ext al n e k st).holds P G K){Q:Exit→Act→World→Prop}{β:Bt}{R:Nat→Prop}{a:Act}{w:World}(hs:eC G β R st a w)
  (hT:∀st' a' w' β' R',(k st').holds P G K→eC G β' R' st' a' w'→Gr β R w β' R' w'→Q .normal a' w'):wpAny P .any ops Q ops.size (fJ ops.size false) a { w with drawn:=w.drawn+1 }:=by
 unfold XO at hB;simp only[aY]at hB;obtain⟨hB1,hB2,hB3,hB4⟩:=hB
 have hok:=aHG hB1
 have hst:=aCL (ops:=ops) hB3
 have hel:=aQ hB2
 have hwt:=fun j hj=>lD hB4 j hj
 obtain⟨hs',hg⟩:=hs.drawn (w.drawn+1)
 have no:∀i,¬fT [] i:=fun i h=>by cases i<;>cases h
 have I0:IZ P G ops al (n+1) ext [] st (fun _ _=>False) β R w (fJ ops.size false) a { w with drawn:=w.drawn+1 } β R:=⟨⟨by simp,fun j oj _ hl=>(by rw[getD_replicate_false]at hl;cases hl),fun t _ ht=>getD_in (by simpa using ht) (getD_replicate_false _ _)⟩,fun i _ _=>getD_replicate_false _ _,⟨hg,hs'.hs,hs.df,by have:=hs'.tm.length;simpa using this.symm,fun s u hu _=>(by
   have hv:=aR (x:=.tmp s) hs' rfl
   have e:a.eval (.tmp s)=u:=by show a.tmps.getD s undef=u;simp[hu]
   rw[e]at hv
   exact hv),fun i hi=>absurd hi (no i)⟩,fun i ai hi=>absurd hi (no i),fun i j id hi=>absurd hi (no i),fun i id hi=>absurd hi (no i)⟩
 have hle:=hok.le
 obtain⟨S,h0,hk0,hstep⟩:=DI hext (oO (nC n) al) st (fun ai hai=>by
  obtain⟨q,hq⟩:=List.mem_iff_getElem?.1 hai;obtain⟨j,h1,h2,_⟩:=uO hq
  exact hst.hd j ai h1 h2) h
 have hr:Run P G ext (oO (nC n) al) (oO (nC n) al).length S:=⟨aU _,fun i ai _ ha=>hstep i ai ha⟩
 obtain⟨own',I1⟩:=aA1 hok hst h0 rfl hr I0 (fun i ai hi=>absurd hi (no i))
 have eor:orB [] (nC n)=nC n:=by cases n<;>rfl
 rw[eor]at I1;rw[sF]at hk0;split at hk0
 case h_2=>exact hk0.elim
 rename_i mm hmm;split at hk0
 case h_2=>exact hk0.elim
 rename_i hmg hmd;obtain⟨c1,hk⟩:=cE hk0;simp only[aY]at c1;obtain⟨c1,c2⟩:=c1
 obtain⟨sz,ax,ay,hma⟩:∃sz ax ay,mm.op=.store sz ax ay:=by
  cases hq:mm.op<;>rw[hq]at c1<;>first|exact⟨_,_,_,rfl⟩|cases c1
 have hul:∀j,fT (nC n) j→j<n+1:=fun j hj=>by have:=rL.1 hj;omega
 have hnn:¬fT (nC n) n:=fun e=>by have:=rL.1 e;omega
 have hw:∀(listed:Array Bool) (o:Oper),ops[n]?=some o→n∈Region.ready .any ops listed→∀j,dF .any ops n j=true→listed.getD j false=true:=fun listed o ho hr j hj=>(aD7 hr).2.2 j hj
 have hmmop:orS (FF al n)=mm.op:=by rw[sF,hmm];rfl
 have key:=aQG (Q:=Q) hext hok hal (u:=nC n) (n:=n) ⟨by omega,hnn,fun i hi hu hne=>absurd (rL.2 (by omega)) hu⟩ hul (F:=S (oO (nC n) al).length) (own:=own') (β0:=β) (R0:=R) (w0:=w) (fun listed a w1 β1 R1 o ho hrdy I2 _ hrd=>by
   refine aK3 hext hok hal (e:=e) ⟨by omega,hnn⟩ hul hmm hma hmg hmd c2 (kk:=fun st'=>nB ext (bJ (n+1) al) st' k) hk ho hrdy I2 (fun i hi=>?_) (fun s hs j aj hj hja hjd=>?_) ?_
   ·have hil:i<fK e:=NN hi
    have:=hwt i (by omega)
    rw[show bN false e i=true from hi]at this;simp only[Bool.not_true,Bool.false_and,Bool.or_false]at this;exact hw listed o ho hrdy i this
   ·by_cases hjn:j=n
    ·subst hjn
     rw[hmm]at hja;injection hja with hja;subst hja;rw[hmd]at hjd;cases hjd
    ·have:=hwt j (by omega)
     rw[hmmop,yD hja,hjd,FI.2 hs]at this;simp only[Bool.not_true,Bool.and_false,Bool.or_false]at this;exact hw listed o ho hrdy j this
   ·intro st' own'' a' w' β' R' hk' I3 hl3
    have hns:n<ops.size:=(bF.1 ho).1
    obtain⟨q1,_⟩:=mem_ready.1 hrdy
    have hc:=cnt_set (listed:=listed) (i:=n) (by rw[I2.inv.size];exact hns) (getD_both q1) (show n<n+1 by omega)
    rw[show cnt listed (n+1)-1=cnt (listed.setIfInBounds n true) (n+1) by omega];refine aXF hext hok hal (fun i hi=>hZ.2 ?_) (fun j hj=>?_) (fun a w β R s1 s2=>?_) _ _ a' w' β' R' rfl I3
    ·rcases cK i n with h|h
     ·exact .inl (rL.2 h)
     ·exact .inr (mH.2 (by omega))
    ·rcases hZ.1 hj with h|h
     ·exact hul j h
     ·have:=mH.1 h;omega
    ·have hdr:=uF (n+1) hal
     rw[GO]at hk'
     exact pJ hext (ops.toList.drop (n+1)) _ st' a w β R hdr hk' s1 (fun a2 w2 β2 R2 st2 q1 q2 q3=>hT st2 a2 w2 β2 R2 q1 q2 (s2.trans q3)))
   _ _ a _ β R rfl I1
 rwa [cnt_all hok.le,show n+1+(ops.size-(n+1))=ops.size by omega]at key
theorem jV.regs{ext:Ext}(hext:bO P G ext){rid:Nat}(hm:P.follows .mixedOrders=true)(hal:fZ P ops ops.toList=some al){n:Nat}{e:List Bool}(hB:XO ops al n e=true)(keep:List Bool){st:St}{K1:X→St→Prop}
  (hh:(aHD ext al n e (fun s'=>.done .normal (YU keep s')) st).holds P G K1):jV P G (.raw (.region rid ops true)) st fun e st'=>e=.normal∧K1 .normal (YU keep st'):=by
 refine jV.raw fun β R a w hs=>?_
 refine wp_region_any hm ?_
 exact aD3 hext hal hB hh hs fun st' a' w' β' R' hk hs' hg=>⟨β',R',st',⟨rfl,hk⟩,hs',hg.toFr,hg.rm⟩
theorem jM.regs{Z:St→Prop}{ext:Ext}(hext:bO P G ext){rid:Nat}(hm:P.follows .mixedOrders=true)(hal:fZ P ops ops.toList=some al){n:Nat}{e:List Bool}(hB:XO ops al n e=true)(keep:List Bool){l r':List dA}{st:St}{Q:X→St→Prop}(hl:l=.raw (.region rid ops true)::r'){tree:Tr}
  (ht:aHD ext al n e (fun s'=>.done .normal (YU keep s')) st=tree) (h:tree.holds P G fun _ s=>jM P G Z r' s Q):jM P G Z l st Q:=by
 subst hl;subst ht;refine jV.mono (jV.regs hext hm hal hB keep h) ?_;rintro e s ⟨rfl,h⟩;exact jM.pre (fW keep s) h
end
end Go.AE
