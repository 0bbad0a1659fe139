import Derived.Test.YtfjihbmehhccoaaBD
import Derived.Lib.AppendStr
import Derived.Laws.IdiomStrings
import Derived.Test.YtfjihbmehhccoaaB4
import Derived.Test.YtfjihbmehhccoaaBC
import Derived.Laws.Bits64
import Derived.Test.YtfjihbmehhccoaaProg
import Derived.Test.YtfjihbmehhccoaaRows
import Derived.Test.YtfjihbmehhccoaaB1
set_option linter.unusedVariables false
set_option linter.unusedSimpArgs false
namespace Go.AE
open _root_.Array renaming getElem?_eq_some_iff→bH,length_toList→jD
open _root_.BitVec renaming ofInt→aZ
open _root_.Bool renaming and_eq_true→aQ
open _root_.Int renaming ofNat→dR,toNat_natCast→dW
open IntKind renaming i64→aC,u64→aR,u8→bF
open _root_.List renaming append_assoc→cF,drop_eq_getElem_cons→dG,eq_nil_of_length_eq_zero→gK,getD_eq_getElem?_getD→aD,getElem?_eq_getElem→aK,length_append→aL,length_cons→eF,length_set→cE,mem_iff_getElem?→dO
open _root_.Nat renaming beq→cA,eq_of_beq_eq_true→aS,le_refl→aW,mod_eq_of_lt→jP,mul_le_mul_right→bP,zero_add→cK,zero_le→bX
open Region renaming wanted→fK
open _root_.Go.Proofs.Try renaming f115→hJ,prog→aB
open _root_.UInt8 renaming ofNat→iN
open Value renaming slice→bB
open Go.RowKit
section
variable {P:Program} {G:Nat→Option Obj}
def aKB(P:Program)(ops:Array Oper)(Q:Exit→Act→World→Prop)(rest:List Oper):Exit→Act→World→Prop
 |.normal,a,w=>wpList P ops Q rest a w
 |e,a,w=>Q e a w
theorem aGK{ops:Array Oper}{Q:Exit→Act→World→Prop}{rest:List Oper}{o:Oper}{a:Act}{w:World}{next:Act→World→Prop}(h:o.wp P a w next (aKB P ops Q rest)):o.wp P a w next Q:=by
 unfold Oper.wp at *
 generalize (execOp a.eval o).run P w=r at *
 cases r with
 |ok n w'=>cases n<;>exact h
 |_=>exact h
theorem uL{ops:Array Oper}{Q:Exit→Act→World→Prop}{rest:List Oper}:∀(l:List Oper) (a:Act) (w:World),wpList P ops (aKB P ops Q rest) l a w→wpList P ops Q (l++rest) a w
 |[],a,w,h=>h
 |o::l,a,w,h=>by
  show wpList P ops Q (o::(l++rest)) a w
  unfold wpList at h ⊢;split at h
  ·rename_i hw
   rw[if_pos hw]
   rcases h with h|⟨h1,h2⟩
   ·exact .inl (aGK (Oper.wp_mono (fun a w hk=>uL l a w hk) h))
   ·exact .inr ⟨h1,h2⟩
  ·rename_i hw
   rw[if_neg hw];exact uL l _ _ h
def aG9(P:Program)(G:Nat→Option Obj)(ext:Ext)(op:Op)(sp:St→(V→List AO→Tr)→Tr):Prop:=
 ∀(β:Bt) (R:Nat→Prop) (st:St) (a:Act) (w:World) (o:Oper) (kk:V→List AO→Tr) (K:X→St→Prop),iB G β R st a w→o.op=op→(sp st kk).holds P G K→dY P G st.h.length (fun v h'=>(kk v h').holds P G K) β R o a w
theorem kM.spec{ext:Ext}(hext:bG P G ext){id:Nat}{ops:Array Oper}(n:Nat){o:Oper}{al1 al2:List AI}(ho:ops.toList.drop n=o::ops.toList.drop (n+1))(h1:fD P ops (ops.toList.take n)=some al1)(h2:fD P ops (ops.toList.drop (n+1))=some al2)(hg:o.guard=none)
  {sp:St→(V→List AO→Tr)→Tr} (hsp:aG9 P G ext o.op sp) {st:St} {kf:St→Tr} {K1:X→St→Prop} (hh:(iY ext al1 st fun s=>sp s fun v h=>iY ext al2 ⟨mG s.t o.dst v,h⟩ kf).holds P G K1):kM P G (.raw (.region id ops false)) st fun e st'=>e=.normal∧(kf st').holds P G K1:=by
 refine kM.raw fun β R a w hs=>?_
 refine wp_region_list ?_
 have hl:ops.toList=ops.toList.take n++(o::ops.toList.drop (n+1)):=by rw[←ho,List.take_append_drop]
 rw[hl];refine uL _ _ _ (kW hext _ al1 st a w β R h1 hh hs fun a1 w1 β1 R1 st1 q1 q2 q3=>?_)
 show wpList P ops _ (o::ops.toList.drop (n+1)) a1 w1
 have hw:fK o (yielded ops a1.tmps)=true:=by unfold fK;rw[hg]
 simp only[wpList,hw,if_true];refine .inl ((hsp β1 R1 st1 a1 w1 o _ K1 q2 rfl q1).wp ?_);rintro u w' ⟨β',R',x,h',r1,r2,r3,r4,_⟩
 refine kW hext _ al2 _ _ _ _ _ h2 r1 (q2.put r4 r3 r2 o.dst) fun a2 w2 β2 R2 st2 p1 p2 p3=>?_
 have g2:=(q3.trans r4).trans p3
 exact⟨β2,R2,st2,⟨rfl,p1⟩,p2,g2.toFr,g2.rm⟩
theorem eP.spec{ext:Ext}(hext:bG P G ext){Z:St→Prop}{l r:List dQ}{id:Nat}{ops:Array Oper}(hl:l=.raw (.region id ops false)::r)(n:Nat){o:Oper}{al1 al2:List AI}(ho:ops.toList.drop n=o::ops.toList.drop (n+1))(h1:fD P ops (ops.toList.take n)=some al1)(h2:fD P ops (ops.toList.drop (n+1))=some al2)(hg:o.guard=none)
  {sp:St→(V→List AO→Tr)→Tr} {op:Op} (hop:o.op=op) (hsp:aG9 P G ext op sp) {st:St} {Q:X→St→Prop} (keep:List Bool) {d:Option Nat} (hd:o.dst=d) {tree:Tr} (ht:(iY ext al1 st fun s=>sp s fun v h=>iY ext al2 ⟨mG s.t d v,h⟩ fun s'=>.done .normal (gcS keep s'))=tree) (h:tree.holds P G fun e st'=>eP P G Z r st' Q):eP P G Z l st Q:=by
 subst hl;subst hop;subst hd;subst ht;refine kM.mono (kM.spec hext n ho h1 h2 hg hsp h) ?_;rintro e st' ⟨rfl,q⟩;exact eP.pre (gB keep st') q
def aCB(e:TypeId)(ax ay:AX)(st:St)(k:V→List AO→Tr):Tr:=yS st ax (xT st e 1 ax fun n f old=>match st.ev ay with
 |.c (.p (.s s))=>.rq (n+s.size≤140737488355328) (k (.c (.sl (fG st.h) 1 0 (n+s.size))) (fB (.row e 1 (n+s.size) (fI n f fun e _=>.p (.i .u8 (s.data.toList.getD e 0).toNat))) (lB st.h old)))
 |_=>.fail) .fail
theorem NJ(s:ByteArray){j:Nat}(hj:j<s.size):(Lib.strCells s)[j]?=some (.int .u8 (s.data.toList.getD j 0).toNat):=by
 unfold Lib.strCells
 have h:j<s.data.toList.length:=by rw[jD];exact hj
 rw[List.getElem?_map,aK h,aD,aK h];rfl
theorem aCA{ext:Ext}{t u e:TypeId}{i:TypeInfo}{x y:Operand}{ax ay:AX}(ht:P.underlying t=some (.slice e))(hu:P.underlying u=some .string)(hi:P.info? e=some i)(hz:i.zero=some (.int .u8 0))(h1:i.size=1)(hb:i.bytes=1)(hx:cX x=some ax)(hy:cX y=some ay) :
  aG9 P G ext (.call { callee:=.builtin .append,args := #[x,y],argTypes := #[t,u] }) (aCB e ax ay):=by
 intro β R st a w o kk K hs ho h
 have hv:=bW hs hy
 unfold aCB at h
 rcases oM h with⟨h,hoff⟩|⟨_,_,_,_,_,_,h⟩
 rotate_left
 ·exact h.elim
 obtain⟨n,f,old,hd,h⟩:=GG hs hx hoff h;split at h
 case h_2=>exact h.elim
 rename_i s hes;rw[hes]at hv
 have hv:a.eval y=.string s:=hv
 obtain⟨hl,h⟩:=h
 have hrun:∀xs,w.ownsRow 0 e 1 (a.eval x) n xs→∃v' w',(execOp a.eval o).run P w=.ok (.value v') w'∧w'.ownsRow 0 e 1 v' (n+s.size) (xs++Lib.strCells s)∧w.grownBy w' (a.eval x).ownBlock∧(v'.ownBlock=(a.eval x).ownBlock∨v'.ownBlock=some w.heap.size):=by
  intro xs hown;obtain⟨v',w',hr,r1,r2,r3⟩:=Lib.run_append_own_string (P:=P) w 0 t u o.type e i ht hu hi hz h1 hb (a.eval x) n xs hown s (by unfold maxLen;omega) hl (bX _);refine⟨v',w',by simp[execOp,ho,resolve,invoke,builtin,hv,hr],r1,r2,?_⟩
  rcases hown.2 with⟨hn,h0⟩|⟨g,cap,cur,hn,hbg,hg,hnc,hcm,hcs,htake⟩
  ·by_cases hm:s.size=0
   ·left;rw[hn];rw[r3.2 ⟨hn,hm⟩]
   ·have hr2:=run_append_nil_string (P:=P) w t u o.type e i (.int .u8 0) ht hu hi hz s (by omega) (by omega) (by rw[hb];omega)
    rw[hn]at hr;rw[hr2]at hr;injection hr with e1 e2;right;rw[←e1];rfl
  ·have hcs':cur.size=cap:=by simpa using hcs
   by_cases hroom:n+s.size≤cap
   ·have hr2:=Lib.run_append_room_string (P:=P) w t u o.type e i ht hu hi h1 g n cap cur hg s hroom (by omega)
    rw[hn]at hr;rw[hr2]at hr;injection hr with e1 e2;left;rw[←e1,hn];rfl
   ·have holds:∀j u,xs[j]?=some u→w.cell? ((⟨g,0,none⟩:Addr).add j)=some u:=hown.cells (g:=g) (by rw[hn];rfl)
    have hxl:xs.length=n:=by simpa using hown.1
    have hr2:=Lib.run_append_grow_string (P:=P) w t u o.type e i (.int .u8 0) ht hu hi hz ⟨g,0,none⟩ n cap xs (by rw[h1];simpa using hxl) holds s (by omega) (by omega) (by rw[hb];exact growslice_fits (by omega) (by omega))
    rw[hn]at hr;rw[hr2]at hr;injection hr with e1 e2;right;rw[←e1];rfl
 obtain⟨v2,w',β',xv,h',q1,q2,q3,q4,q5,q6,_⟩:=RO hs (o:=o) (x:=x) (sz:=1) (m:=s.size) (g:=fun e _=>.p (.i .u8 (s.data.toList.getD e 0).toNat)) (news:=Lib.strCells s) (by decide) hd (by rw[Lib.strCells_length];omega)
   (fun e o he ho=>by
    obtain rfl:o=0:=by omega
    exact⟨_,by rw[Nat.mul_one,Nat.add_zero];exact NJ s he,rfl⟩) (fun _ _ _ _=>rfl) hrun h
 exact .inl ⟨v2,w',q1,β',R,xv,h',q2,q3,q4,q5,q6⟩
def aUJ:B→V
 |.p x=>.c (.p x)
 |.ptr id off=>.c (.ptr id off)
def aFW:List B→List V
 |[]=>[]
 |x::r=>aUJ x::aFW r
def aKQ(P:Program)(f:FuncId):Bool:=match P.funcs[f]? with
 |some fn=>fn.body.isSome&&fn.name != "runtime.NumGoroutine"
 |none=>false
def aC9(P:Program)(ext:Ext)(ax:AX)(st:St)(k:V→List AO→Tr):Tr:=match st.ev ax with
 |.c (.fn (.func f) first [])=>nH (aKQ P f) (ext f (aFW first) st.h k)
 |_=>.fail
theorem CH{β:Bt}{R:Nat→Prop}{w:World}:∀ {xs:List B} {us:List Value},dJ (BR β R w) xs us→dJ (VR β R w) (aFW xs) us
 |[],[],_=>trivial
 |[],_::_,h=>h.elim
 |_::_,[],h=>h.elim
 |x::xs,u::us,h=>⟨by cases x<;>exact h.1,CH h.2⟩
theorem aC8{ext:Ext}(hext:bG P G ext){x:Operand}{ax:AX}(hx:cX x=some ax):aG9 P G ext (.call { callee:=.value x,args := #[],argTypes := #[] }) (aC9 P ext ax):=by
 intro β R st a w o kk K hs ho h
 have hv:=bW hs hx
 unfold aC9 at h;split at h
 case h_2=>exact h.elim
 rename_i f first he
 rw[he]at hv;obtain⟨us,vs,e1,e2,e3⟩:=hv
 have e3:vs = #[]:=by
  cases hvl:vs.toList with
  |nil=>exact Array.toList_eq_nil_iff.1 hvl
  |cons _ _=>rw[hvl]at e3;exact e3.elim
 subst e3;obtain⟨c1,h⟩:=bZ h;unfold aKQ at c1;cases hf:P.funcs[f]? with
 |none=>rw[hf]at c1;cases c1
 |some fn=>
  rw[hf]at c1;simp only[aQ]at c1;obtain⟨hb,hnm⟩:=c1
  have hc:=hext.fn _ _ _ _ _ h β R w us (CH e2) hs.hs
  refine .inr (.inr ⟨f,us,?_,?_⟩)
  ·have hnm':¬fn.name = "runtime.NumGoroutine" := by simpa using hnm
   have hb':¬fn.body=none:=by cases hq:fn.body<;>simp_all
   simp only[execOp,ho,resolve,e1,Deferred.ofValue,invoke];simp[callFunc,hf];rw[if_neg hnm',if_neg hb']
  ·refine hc.mono ?_
   rintro e w' ⟨u,β',R',x,h',rfl,h1,h2,h3,h4,h5⟩;exact⟨u,rfl,β',R',x,h',h1,h2,h3,h4,h5⟩
def bI(b:UInt8)(_:Nat):PV:=.i .u8 b.toNat
def MR(f:Nat→PV):UInt8:=match f 0 with
 |.i _ k=>iN k.toNat
 |_=>0
theorem aFM(b:UInt8):MR (bI b)=b:=by
 show iN ((b.toNat:Int)).toNat=b
 simp
def aC7(ax:AX)(st:St)(k:V→List AO→Tr):Tr:=match st.ev ax with
 |.c (.p (.l 1 n f))=>.rq (kI bI 1 (bS MR n f) n f) (k (.c (.p (.s ⟨(bS MR n f).toArray⟩))) st.h)
 |.c (.p (.z (.slice none 0 0)))=>k (.c (.p (.s ⟨#[]⟩))) st.h
 |_=>.fail
theorem aC6{ext:Ext}{s d e:TypeId}{x:Operand}{ax:AX}(hs1:P.underlying s=some (.slice e))(he:P.underlying e=some (.int .u8))(hd:P.underlying d=some .string)(hx:cX x=some ax):aG9 P G ext (.convert s d x) (aC7 ax):=by
 intro β R st a w o kk K hs ho h
 have hv:=bW hs hx
 have nil:∀(A:Option Addr) (c:Nat),a.eval x=.slice A 0 c→(execOp a.eval o).run P w=.ok (.value (.string ⟨#[]⟩)) w:=fun A c hA=>by
  have hr:=run_convert_bytes_string (P:=P) w s d e A 0 c hs1 he hd
  have:(convert s d (.slice A 0 c)).run P w=.ok (.string ⟨#[]⟩) w:=by
   rw[hr];cases A<;>simp[Conv.bytesToString,loadCells]<;>rfl
  simp[execOp,ho,hA,this]
 unfold aC7 at h;split at h
 ·rename_i n f hev
  rw[hev]at hv;obtain⟨A,c,g1,g2,g3,g4⟩:=hv;obtain⟨⟨l1,l2⟩,h⟩:=h
  rcases Nat.eq_zero_or_pos n with h0|h0
  ·subst h0
   exact dY.same hs (u:=.string ⟨#[]⟩) (nil A c g1) h rfl
  ·obtain⟨ad,rfl,_,g5⟩:=g4 h0
   refine dY.same hs (u:=.string ⟨(bS MR n f).toArray⟩) ?_ h rfl
   have hr:=run_convert_bytes_back (P:=P) w s d e ad c (bS MR n f) hs1 he hd (fun j hj=>by
    rw[l1]at hj;obtain⟨u,q1,q2⟩:=g5 j 0 hj (by decide);rw[Nat.mul_one,Nat.add_zero]at q1;rw[l2 j 0 hj (by decide)]at q2
    have q2:u=.int .u8 (((bS MR n f).getD j default).toNat:Int):=q2
    rw[q1,q2,aD,aK (by rw[l1];exact hj)]
    rfl)
   rw[l1]at hr;simp[execOp,ho,g1,hr]
 ·rename_i hev
  rw[hev]at hv
  have hv:a.eval x=.slice none 0 0:=hv
  exact dY.same hs (u:=.string ⟨#[]⟩) (nil none 0 hv) h rfl
 ·exact h.elim
end
section
variable {P:Program} {G:Nat→Option Obj}
end
inductive Sg where
 |fin (m:List Bool)
 |one (m e:List Bool) (n:Nat) (r:Sg)
 |two (m e1:List Bool) (n1:Nat) (r1:Sg) (e2:List Bool) (n2:Nat) (r2:Sg)
noncomputable def NK(ext:Ext)(al:List AI)(u e:List Bool)(n:Nat)(k:St→Tr)(st1:St):Tr:=match EX al n with
 |some mm=>match lQ st1 mm.guard with
  |some true=>nH (aEV mm.op&&(isS mm.dst&&FK st1 (jB (uG u e) al))) (iU ext st1 (fun x h'=>kpT st1 h' (jB (uG u e) al) (nH (Nat.ble (fG st1.h) (fG h')) (k ⟨mG st1.t mm.dst x,h'⟩))) mm.op)
  |_=>.fail
 |none=>.fail
noncomputable def ZH(ext:Ext)(al:List AI)(kT:St→Tr):List Bool→Sg→St→Tr
 |v,.fin m,st=>iY (iO ext) (jB m al) st kT
 |v,.one m e n r,st=>iY (iO ext) (jB m al) st (NK ext al (lV v m) e n (ZH ext al kT (lV (lV v m) (kN n)) r))
 |v,.two m e1 n1 r1 e2 n2 r2,st=>iY (iO ext) (jB m al) st fun st1=>.alt (NK ext al (lV v m) e1 n1 (ZH ext al kT (lV (lV v m) (kN n1)) r1) st1) (NK ext al (lV v m) e2 n2 (ZH ext al kT (lV (lV v m) (kN n2)) r2) st1)
structure aGA (ops:Array Oper) (al:List AI) (N:Nat) (u:List Bool) (n1 n2:Nat):Prop where
 a:n1<N∧¬fT u n1
 b:n2<N∧¬fT u n2
 out:∀i,i<N→¬fT u i→i≠n1→i≠n2→∃j,j<i∧¬fT u j∧Region.waitsFor .any ops i j=true
def wJ(ops:Array Oper)(al:List AI)(N:Nat):List Bool→Sg→Prop
 |v,.fin m=>pC ops al N v m∧∀i,i<N→fT (lV v m) i
 |v,.one m e n r=>pC ops al N v m∧xV ops al N (lV v m) n∧GT al N n e∧wJ ops al N (lV (lV v m) (kN n)) r
 |v,.two m e1 n1 r1 e2 n2 r2=>pC ops al N v m∧aGA ops al N (lV v m) n1 n2∧(GT al N n1 e1∧wJ ops al N (lV (lV v m) (kN n1)) r1)∧GT al N n2 e2∧wJ ops al N (lV (lV v m) (kN n2)) r2
section
variable {P:Program} {G:Nat→Option Obj} {ext:Ext} {ops:Array Oper} {al:List AI} {N:Nat} {β0:Bt} {R0:Nat→Prop} {w0:World} {F:St} {own:Nat→Nat→Prop}
theorem aNZ(hext:bG P G ext)(hok:pM ops al N)(hal:fD P ops ops.toList=some al){u:List Bool}{n1 n2:Nat}(hn:aGA ops al N u n1 n2)(hul:∀j,fT u j→j<N){Q:Exit→Act→World→Prop}
  (hM:∀n,(n=n1∨n=n2)→∀(listed:Array Bool) (a:Act) (w:World) (β:Bt) (R:Nat→Prop) (o:Oper),ops[n]?=some o→n∈Region.ready .any ops listed→IZ P G ops al N ext u F own β0 R0 w0 listed a w β R →
   (∀s∈AI.sls ((al[n]?).getD ⟨none,.mv (.t 0),none⟩),∀j aj,j<N→al[j]?=some aj→aj.dst=some s→listed.getD j false=true) →
   wpOp P ops Q n (wpAny P .any ops Q (pJ listed N-1+(ops.size-N)) (listed.setIfInBounds n true)) a w) :
  ∀(f:Nat) (listed:Array Bool) (a:Act) (w:World) (β:Bt) (R:Nat→Prop),pJ listed N=f→IZ P G ops al N ext u F own β0 R0 w0 listed a w β R→wpAny P .any ops Q (f+(ops.size-N)) listed a w:=by
 intro f;induction f with
 |zero=>
  intro listed a w β R hc I
  have:=lS hc n1 hn.a.1
  rw[I.un n1 hn.a.1 hn.a.2]at this;cases this
 |succ f ih=>
  intro listed a w β R hc I;rw[show f+1+(ops.size-N)=(f+(ops.size-N))+1 by omega];obtain⟨i0,hi0,hu0,hr0⟩:=sS hok I.inv (by omega);refine⟨fun h=>(by rw[h]at hr0;cases hr0),fun i hi=>?_⟩;obtain⟨q1,o,q2,q3⟩:=mem_ready.1 hi
  have his:i<ops.size:=(bH.1 q2).1
  have hin:=zW hok I.inv hi0 hu0 hi
  have hun:=getD_both q1
  have hil:i<listed.size:=by rw[I.inv.size];exact his
  obtain⟨ai,ha,hco⟩:=(gR hal).2 i o (by simpa using q2)
  by_cases e:i=n1∨i=n2
  ·have:=hM i e listed a w β R o q2 hi I (fun s hs j aj hj hja hd=>by
     rw[ha]at hs
     exact uX hok hin ha q2 q3 s hs j aj hj hja hd)
   rwa [hc,Nat.add_sub_cancel]at this
  ·have hiu:fT u i:=Classical.byContradiction fun hnu=>by
     obtain⟨j,h1,h2,h3⟩:=hn.out i hin hnu (fun h=>e (.inl h)) (fun h=>e (.inr h));obtain⟨o',ho',e,he,hb,hon⟩:=Region.waitsFor_spec h3;rw[q2]at ho';injection ho' with ho';subst ho'
     have:=q3 e he hb
     rw[hon,I.un j (by omega) h2]at this;cases this
   exact I.next hext hok hal hi hin hiu hul fun a' w' β' R' I'=>ih _ a' w' β' R' (by have:=lX hil hun hin;omega) I'
theorem zX(hext:bG P G ext)(hok:pM ops al N)(hal:fD P ops ops.toList=some al){u v m e:List Bool}(hu:u=lV v m){n:Nat}(hst:pC ops al N v m)(hn:n<N∧¬fT u n)(he:GT al N n e){k:St→Tr}{K:X→St→Prop}{Q:Exit→Act→World→Prop}
  (h:(NK ext al u e n k F).holds P G K) {listed:Array Bool} {a:Act} {w:World} {β:Bt} {R:Nat→Prop} {o:Oper} (ho:ops[n]?=some o) (hrdy:n∈Region.ready .any ops listed) (I2:IZ P G ops al N ext u F own β0 R0 w0 listed a w β R)
  (hrd:∀s∈AI.sls ((al[n]?).getD ⟨none,.mv (.t 0),none⟩),∀j aj,j<N→al[j]?=some aj→aj.dst=some s→listed.getD j false=true)
  (hK:∀st' own' a' w' β' R',(k st').holds P G K→IZ P G ops al N ext (lV u (kN n)) st' own' β0 R0 w0 (listed.setIfInBounds n true) a' w' β' R'→(∀i ai,fT (lV u (kN n)) i→al[i]?=some ai→(listed.setIfInBounds n true).getD i false=false→kZ st' ai.op=true)→wpAny P .any ops Q (pJ (listed.setIfInBounds n true) N+(ops.size-N)) (listed.setIfInBounds n true) a' w') :
  wpOp P ops Q n (wpAny P .any ops Q (pJ listed N-1+(ops.size-N)) (listed.setIfInBounds n true)) a w:=by
 subst hu
 have hul:∀j,fT (lV v m) j→j<N:=fun j hj=>by rcases fV.1 hj with h|h;exact hst.vlt j h;exact hst.mlt j h
 unfold NK at h;rw[oX]at h;split at h
 case h_2=>exact h.elim
 rename_i mm hmm;split at h
 case h_2=>exact h.elim
 rename_i hmg;obtain⟨c1,hk⟩:=bZ h;simp only[aQ]at c1;obtain⟨c1,c3,c4⟩:=c1
 obtain⟨f,args,hma⟩:∃f args,mm.op=.call f args:=by
  cases hq:mm.op<;>rw[hq]at c1<;>first|exact⟨_,_,rfl⟩|cases c1
 obtain⟨dM,hmd⟩:∃d,mm.dst=some d:=by
  cases hg:mm.dst with
  |some d=>exact⟨d,rfl⟩
  |none=>rw[hg]at c3;cases c3
 rw[hmm]at hrd;refine YO hext hok hal hn hul hmm hma hmg hmd (fun i j x y d hi hj hnj=>hst.m1 i j x y d (fV.1 hi) hj (fun e=>hnj (fV.2 e))) c4 (kk:=k) hk ho hrdy I2 (fun i hi=>GR hok I2.inv he hmm hrd N i (by have:=hn.1;omega) hi) hrd ?_;intro st' own'' a' w' β' R' hk' I3 hl3
 have hns:n<ops.size:=(bH.1 ho).1
 obtain⟨q1,_⟩:=mem_ready.1 hrdy
 have hc:=lX (listed:=listed) (i:=n) (by rw[I2.inv.size];exact hns) (getD_both q1) hn.1
 rw[show pJ listed N-1=pJ (listed.setIfInBounds n true) N by omega];exact hK st' own'' a' w' β' R' hk' I3 hl3
theorem aCH(hext:bG P G ext)(hok:pM ops al N)(hal:fD P ops ops.toList=some al){kT:St→Tr}{K:X→St→Prop}{Q:Exit→Act→World→Prop}
  (hT:∀st' a w β R,(kT st').holds P G K→iB G β R st' a w→Gr β0 R0 w0 β R w→wpList P ops Q (ops.toList.drop N) a w) :
  ∀(r:Sg) (v:List Bool) (st:St) (own:Nat→Nat→Prop) (listed:Array Bool) (a:Act) (w:World) (β:Bt) (R:Nat→Prop),wJ ops al N v r→(ZH ext al kT v r st).holds P G K→IZ P G ops al N ext v st own β0 R0 w0 listed a w β R→(∀i ai,fT v i→al[i]?=some ai→listed.getD i false=false→kZ st ai.op=true)→wpAny P .any ops Q (pJ listed N+(ops.size-N)) listed a w:=by
 intro r;induction r with
 |fin mE=>
  intro v st own listed a w β R hS h I hl;obtain⟨hst,hall⟩:=hS
  obtain⟨S,h0,hk0,hstep⟩:=kY hext (jB mE al) st (fun ai hai=>by
   obtain⟨q,hq⟩:=dO.1 hai;obtain⟨j,h1,h2,_⟩:=lF hq
   exact hst.hd j ai h1 h2) h
  have hr:xX P G ext (jB mE al) (jB mE al).length S:=⟨aW _,fun i ai _ ha=>hstep i ai ha⟩
  obtain⟨own',I'⟩:=oI hok hst h0 rfl hr I hl;exact aOJ hext hok hal hall (fun j hj=>by rcases fV.1 hj with h|h;exact hst.vlt j h;exact hst.mlt j h) (fun a w β R s1 s2=>hT _ a w β R hk0 s1 s2) _ listed a w β R rfl I'
 |one m e n r ih=>
  intro v st own listed a w β R hS h I hl;obtain⟨hst,hn,he,hS⟩:=hS
  obtain⟨S,h0,hk0,hstep⟩:=kY hext (jB m al) st (fun ai hai=>by
   obtain⟨q,hq⟩:=dO.1 hai;obtain⟨j,h1,h2,_⟩:=lF hq
   exact hst.hd j ai h1 h2) h
  have hr:xX P G ext (jB m al) (jB m al).length S:=⟨aW _,fun i ai _ ha=>hstep i ai ha⟩
  obtain⟨own',I'⟩:=oI hok hst h0 rfl hr I hl
  have hul:∀j,fT (lV v m) j→j<N:=fun j hj=>by rcases fV.1 hj with h|h;exact hst.vlt j h;exact hst.mlt j h
  refine aEL hext hok hal hn hul ?_ _ listed a w β R rfl I';intro listed a w β R o ho hrdy I2 _ hrd
  exact zX hext hok hal rfl hst ⟨hn.nN,hn.nu⟩ he hk0 ho hrdy I2 hrd fun st' own' a' w' β' R' hk' I3 hl3=>ih _ st' own' _ a' w' β' R' hS hk' I3 hl3
 |two m e1 n1 r1 e2 n2 r2 ih1 ih2=>
  intro v st own listed a w β R hS h I hl;obtain⟨hst,hn,⟨he1,hS1⟩,he2,hS2⟩:=hS
  obtain⟨S,h0,hk0,hstep⟩:=kY hext (jB m al) st (fun ai hai=>by
   obtain⟨q,hq⟩:=dO.1 hai;obtain⟨j,h1,h2,_⟩:=lF hq
   exact hst.hd j ai h1 h2) h
  have hr:xX P G ext (jB m al) (jB m al).length S:=⟨aW _,fun i ai _ ha=>hstep i ai ha⟩
  obtain⟨own',I'⟩:=oI hok hst h0 rfl hr I hl
  have hul:∀j,fT (lV v m) j→j<N:=fun j hj=>by rcases fV.1 hj with h|h;exact hst.vlt j h;exact hst.mlt j h
  obtain⟨hk1,hk2⟩:=hk0;refine aNZ hext hok hal hn hul ?_ _ listed a w β R rfl I';intro n hnn listed a w β R o ho hrdy I2 hrd
  rcases hnn with rfl|rfl
  ·exact zX hext hok hal rfl hst hn.a he1 hk1 ho hrdy I2 hrd fun st' own' a' w' β' R' hk' I3 hl3=>ih1 _ st' own' _ a' w' β' R' hS1 hk' I3 hl3
  ·exact zX hext hok hal rfl hst hn.b he2 hk2 ho hrdy I2 hrd fun st' own' a' w' β' R' hk' I3 hl3=>ih2 _ st' own' _ a' w' β' R' hS2 hk' I3 hl3
theorem SO(hext:bG P G ext){id:Nat}(hm:P.follows .mixedOrders=true)(hal:fD P ops ops.toList=some al)(hok:pM ops al N){r:Sg}(hS:wJ ops al N [] r){β:Bt}{R:Nat→Prop}{w:World}{st:St}{kT:St→Tr}{K:X→St→Prop}
  (h:(ZH ext al kT [] r st).holds P G K) {Q:Exit→Act→World→Prop} {a:Act} (hs:iB G β R st a w)
  (hT:∀st' a' w' β' R',(kT st').holds P G K→iB G β' R' st' a' w'→Gr β R w β' R' w'→wpList P ops Q (ops.toList.drop N) a' w'):(Code.region id ops true).wp P Q a w:=by
 refine wp_region_any hm ?_;obtain⟨hs',hg⟩:=hs.drawn (w.drawn+1)
 have no:∀i,¬fT [] i:=fun i h=>by cases i<;>cases h
 have key:=aCH (β0:=β) (R0:=R) (w0:=w) (Q:=Q) hext hok hal hT r [] st (fun _ _=>False) (Array.replicate ops.size false) a { w with drawn:=w.drawn+1 } β R hS h ⟨⟨by simp,fun j oj _ hl=>(by rw[getD_replicate_false]at hl;cases hl),fun t _ ht=>getD_in (by simpa using ht) (getD_replicate_false _ _)⟩,fun i _ _=>getD_replicate_false _ _,⟨hg,hs'.hs,hs.df,by have:=hs'.tm.length;simpa using this.symm,fun s u hu _=>?_,fun i hi=>absurd hi (no i)⟩,fun i ai hi=>absurd hi (no i),fun i j id hi=>absurd hi (no i),fun i id hi=>absurd hi (no i)⟩ (fun i ai hi=>absurd hi (no i))
 ·rwa [rM hok.le,show N+(ops.size-N)=ops.size by have:=hok.le;omega]at key
 ·have hv:=bW (x:=.tmp s) hs' rfl
  have e:a.eval (.tmp s)=u:=by show a.tmps.getD s undef=u;simp[hu]
  rw[e]at hv;exact hv
def TI(al:List AI)(N:Nat)(u:List Bool)(n1 n2:Nat):Bool:=
 Nat.blt n1 N&&(!(bC false u n1)&&(Nat.blt n2 N&&(!(bC false u n2)&&nB N (fun i=>bC false u i||(cA i n1||(cA i n2 || !nB i (fun j=>bC false u j || !CL (zK al j) (CJ al i))))))))
theorem aAA(hok:pM ops al N){u:List Bool}{n1 n2:Nat}(h:TI al N u n1 n2=true):aGA ops al N u n1 n2:=by
 unfold TI at h;simp only[aQ]at h;obtain⟨h1,h2,h1',h2',h3⟩:=h;refine⟨⟨by simpa using h1,fun e=>(by rw[show bC false u n1=true from e]at h2;cases h2)⟩,⟨by simpa using h1',fun e=>(by rw[show bC false u n2=true from e]at h2';cases h2')⟩,fun i hi hu hne hne2=>?_⟩
 have:=kB h3 i hi
 have e1:∀n,i≠n→cA i n=false:=fun n hne=>by
  cases hq:cA i n with
  |false=>rfl
  |true=>exact absurd (aS hq) hne
 rw[show bC false u i=false by simpa[fT] using hu,e1 _ hne,e1 _ hne2]at this;simp only[Bool.false_or,Bool.not_eq_true']at this;obtain⟨j,h4,h5⟩:=vM this;simp only[Bool.or_eq_false_iff,Bool.not_eq_false']at h5;obtain⟨d,h6,h7⟩:=AM h5.2;obtain⟨y,h8,h9⟩:=VD h6;obtain⟨x,h10,h11⟩:=SD h7;exact⟨j,h4,fun e=>(by rw[show bC false u j=true from e]at h5;cases h5.1),hok.dep i j x y d h10 h8 hi (by omega) h9 h11⟩
def qZ(al:List AI)(N:Nat):List Bool→Sg→Bool
 |v,.fin m=>sM al N v m&&nB N (bC false (lV v m))
 |v,.one m e n r=>sM al N v m&&(WW al N (lV v m) n&&(aBH al N n e&&qZ al N (lV (lV v m) (kN n)) r))
 |v,.two m e1 n1 r1 e2 n2 r2=>sM al N v m&&(TI al N (lV v m) n1 n2&&((aBH al N n1 e1&&qZ al N (lV (lV v m) (kN n1)) r1)&&(aBH al N n2 e2&&qZ al N (lV (lV v m) (kN n2)) r2)))
theorem SB(hok:pM ops al N):∀ {r:Sg} {v:List Bool},qZ al N v r=true→wJ ops al N v r:=by
 intro r;induction r with
 |fin m=>
  intro v h;simp only[qZ,aQ]at h;exact⟨qB h.1,fun i hi=>kB h.2 i hi⟩
 |one m e n r ih=>
  intro v h;simp only[qZ,aQ]at h;exact⟨qB h.1,OK hok h.2.1,DH h.2.2.1,ih h.2.2.2⟩
 |two m e1 n1 r1 e2 n2 r2 ih1 ih2=>
  intro v h;simp only[qZ,aQ]at h;exact⟨qB h.1,aAA hok h.2.1,⟨DH h.2.2.1.1,ih1 h.2.2.1.2⟩,DH h.2.2.2.1,ih2 h.2.2.2.2⟩
noncomputable def WA(ext:Ext)(hd tl:List AI)(r:Sg)(st:St):Tr:=ZH ext (zN hd tl) (fun s=>iY ext tl s fun s'=>.done .normal s') [] r st
def aCP(hd tl:List AI)(r:Sg):Bool:=aOL (zN hd tl) (fG hd)&&qZ (zN hd tl) (fG hd) [] r
theorem kM.regdE{ext:Ext}(hext:bG P G ext){hd tl:List AI}{r:Sg}(hB:aCP hd tl r=true){st:St}{K1:X→St→Prop}(hh:(WA ext hd tl r st).holds P G K1):kM P G (.regd hd tl) st K1:=by
 refine NP fun id ops hm hal hro=>?_
 unfold aCP at hB;unfold WA at hh;rw[GP]at hB hh;rw[aQ,eL]at hB
 have hl:(hd++tl).length=ops.size:=by simpa using (gR hal).1
 have hok:=IL hro (by simp) hB.1 hl
 intro β R a w hs;refine SO hext hm hal hok (SB hok hB.2) hh hs ?_;intro st' a' w' β' R' hk hs' hg
 have hdr:=nS hd.length hal
 rw[List.drop_left]at hdr;exact kW hext (ops.toList.drop hd.length) tl st' a' w' β' R' hdr hk hs' (fun a2 w2 β2 R2 st2 q1 q2 q3=>⟨β2,R2,st2,q1,q2,(hg.trans q3).toFr,(hg.trans q3).rm⟩)
theorem eG.regdE{rs:List AR}{v:V}{ext:Ext}(hext:bG P G ext){hd tl:List AI}{r:Sg}(hB:aCP hd tl r=true){l r':List dQ}{st:St}{Q:X→St→Prop}(hl:l=.regd hd tl::r'){tree:Tr}
  (ht:WA ext hd tl r st=tree) (h:tree.holds P G fun e s=>e=.normal∧eG P G rs v r' s Q):eG P G rs v l st Q:=by
 subst hl;subst ht;refine kM.mono (kM.regdE hext hB h) ?_;rintro e s ⟨rfl,h⟩;exact h
end
end Go.AE
namespace Wi
open _root_.Array renaming getElem?_eq_some_iff→bH,length_toList→jD
open _root_.BitVec renaming ofInt→aZ
open _root_.Bool renaming and_eq_true→aQ
open _root_.Int renaming ofNat→dR,toNat_natCast→dW
open _root_.Go.IntKind renaming i64→aC,u64→aR,u8→bF
open _root_.List renaming append_assoc→cF,drop_eq_getElem_cons→dG,eq_nil_of_length_eq_zero→gK,getD_eq_getElem?_getD→aD,getElem?_eq_getElem→aK,length_append→aL,length_cons→eF,length_set→cE,mem_iff_getElem?→dO
open _root_.Nat renaming beq→cA,eq_of_beq_eq_true→aS,le_refl→aW,mod_eq_of_lt→jP,mul_le_mul_right→bP,zero_add→cK,zero_le→bX
open _root_.Go.Region renaming wanted→fK
open _root_.Go.Proofs.Try renaming f115→hJ,prog→aB
open _root_.UInt8 renaming ofNat→iN
open _root_.Go.Value renaming slice→bB
def hG(n:Nat):List UInt8:=if n<128 then [iN n] else iN (n%128+128)::hG (n / 128)
termination_by n
decreasing_by omega
def VT(n:Int):Nat:=if 0≤n then 2*n.toNat else 2*(-n).toNat-1
def zig(n:Nat):Int:=if n%2=0 then ((n / 2:Nat):Int) else -((n / 2:Nat):Int)-1
def bR(n:Int):List UInt8:=hG (VT n)
def dI(s:ByteArray):List UInt8:=hG s.size++s.data.toList
theorem aGI(n:Int):zig (VT n)=n:=by
 unfold zig VT;split<;>split<;>omega
theorem aGJ(n:Nat):VT (zig n)=n:=by
 unfold zig VT;split<;>split<;>omega
theorem aBV{n:Int}(h1 : -9223372036854775808≤n)(h2:n≤9223372036854775807):VT n<18446744073709551616:=by
 unfold VT;split<;>omega
theorem YS{n:Nat}(h:n<18446744073709551616) : -9223372036854775808≤zig n∧zig n≤9223372036854775807:=by
 unfold zig;split<;>omega
structure Rs where
 at_:Nat
 er:Int
def kL(B:List UInt8)(k:Nat):Nat:=(B.getD k 0).toNat
theorem RJ(B:List UInt8)(k:Nat):kL B k<256:=(B.getD k 0).toNat_lt
def ET(B:List UInt8)(s:Rs):Nat×Rs:=if s.er≠0 then (0,s) else if B.length≤s.at_ then (0,⟨s.at_,3⟩) else (kL B s.at_,⟨s.at_+1,0⟩)
def mN(B:List UInt8):Nat→Nat→Nat→Nat→Nat×Rs
 |0,_,a,_=>(0,⟨a,2⟩)
 |f+1,i,a,n=>if B.length≤a then (0,⟨a,3⟩) else
  if (i=9∧1<kL B a)∨(0<i∧kL B a=0) then (0,⟨a+1,2⟩) else
  if kL B a<128 then (n+kL B a%128*128^i,⟨a+1,0⟩) else mN B f (i+1) (a+1) (n+kL B a%128*128^i)
def kE(B:List UInt8)(s:Rs):Nat×Rs:=if s.er≠0 then (0,s) else mN B 10 0 s.at_ 0
def gE(B:List UInt8)(s:Rs):Int×Rs:=(zig (kE B s).1,(kE B s).2)
def rO(B:List UInt8)(s:Rs):List UInt8×Rs:=if (kE B s).2.er≠0 then ([],(kE B s).2) else
 if B.length-(kE B s).2.at_<(kE B s).1 then ([],⟨(kE B s).2.at_,3⟩) else ((B.drop (kE B s).2.at_).take (kE B s).1,⟨(kE B s).2.at_+(kE B s).1,0⟩)
def jS(B:List UInt8)(s:Rs):ByteArray×Rs:=(⟨(rO B s).1.toArray⟩,(rO B s).2)
theorem IC{B:List UInt8}:∀(f i a n:Nat),a≤B.length→(mN B f i a n).2.at_≤B.length
 |0,_,a,_,h=>h
 |f+1,i,a,n,h=>by
  unfold mN;split
  ·exact h
  ·split
   ·show a+1≤_;omega
   ·split
    ·show a+1≤_;omega
    ·exact IC f _ _ _ (by omega)
theorem DO{B:List UInt8}{s:Rs}(h:s.at_≤B.length):(kE B s).2.at_≤B.length:=by
 unfold kE;split
 ·exact h
 ·exact IC _ _ _ _ h
theorem aH6{B:List UInt8}{s:Rs}(h:s.at_≤B.length):(rO B s).2.at_≤B.length:=by
 have h1:=DO h
 unfold rO;split
 ·exact h1
 ·split
  ·exact h1
  ·show _+_≤_;omega
theorem EM(i:Nat)(h:i≤9):128^i≤9223372036854775808:=by
 have:i=0∨i=1∨i=2∨i=3∨i=4∨i=5∨i=6∨i=7∨i=8∨i=9:=by omega
 rcases this with rfl|rfl|rfl|rfl|rfl|rfl|rfl|rfl|rfl|rfl<;>decide
theorem IB{B:List UInt8}:∀(f i a n:Nat),i+f=10→n<128^i→(mN B f i a n).1<18446744073709551616
 |0,_,_,_,_,_=>by show 0<_;decide
 |f+1,i,a,n,hi,hn=>by
  unfold mN;split
  ·show 0<_;decide
  ·split
   ·show 0<_;decide
   ·rename_i h1 h2
    have hp:=EM i (by omega)
    have step:n+kL B a%128*128^i<128^(i+1):=by
     have hb:kL B a%128≤127:=by omega
     have h3:=bP (128^i) hb
     rw[Nat.pow_succ];omega
    split
    ·rename_i h3
     show _+_<_
     by_cases h9:i=9
     ·subst h9
      have hb:kL B a%128≤1:=by have:¬1<kL B a:=fun h=>h2 (.inl ⟨rfl,h⟩);omega
      have h4:=bP (128^9) hb
      have:(128:Nat)^9=9223372036854775808:=by decide
      omega
     ·have h5:=EM (i+1) (by omega)
      omega
    ·exact IB f (i+1) (a+1) _ (by omega) step
theorem DN(B:List UInt8)(s:Rs):(kE B s).1<18446744073709551616:=by
 unfold kE;split
 ·show 0<_;decide
 ·exact IB 10 0 _ 0 rfl (by decide)
theorem KE{X Y:List UInt8}{x:UInt8}:kL (X++x::Y) X.length=x.toNat:=by
 unfold kL;simp
theorem rT{n:Nat}(h:n<128):hG n=[iN n]:=by
 rw[hG,if_pos h]
theorem uO{n:Nat}(h:¬n<128):hG n=iN (n%128+128)::hG (n / 128):=by
 rw[hG,if_neg h]
theorem zU(n:Nat):0<(hG n).length:=by
 by_cases h:n<128
 ·rw[rT h];exact Nat.zero_lt_one
 ·rw[uO h];simp
theorem IA(B:List UInt8):∀(f i n m:Nat) (X Y:List UInt8),B=X++(hG m++Y)→i+f=10→m*128^i<18446744073709551616→(0<i→0<m) →
  mN B f i X.length n=(n+m*128^i,⟨X.length+(hG m).length,0⟩)
 |0,i,n,m,X,Y,hB,hi,hm,h0=>by
  obtain rfl:i=10:=by omega
  have:=h0 (by omega)
  have:(128:Nat)^10=1180591620717411303424:=by decide
  have:=bP (128^10) (show 1≤m by omega)
  omega
 |f+1,i,n,m,X,Y,hB,hi,hm,h0=>by
  have hlen:¬B.length≤X.length:=by
   have:=zU m
   subst hB;simp;omega
  unfold mN;rw[if_neg hlen]
  by_cases h:m<128
  ·have e:=rT h
   have hb:kL B X.length=m:=by
    rw[hB,e]
    show kL (X++iN m::Y) _=_
    rw[KE];simp;omega
   have hn:¬((i=9∧1<kL B X.length)∨(0<i∧kL B X.length=0)):=by
    rw[hb];rintro (⟨h1,h2⟩|⟨h1,h2⟩)
    ·subst h1
     have:(128:Nat)^9=9223372036854775808:=by decide
     have:=bP (128^9) (show 2≤m by omega)
     omega
    ·have:=h0 h1;omega
   rw[if_neg hn,if_pos (by omega),hb,e,jP h];rfl
  ·have e:=uO h
   have hb:kL B X.length=m%128+128:=by
    rw[hB,e]
    show kL (X++iN (m%128+128)::(hG (m / 128)++Y)) _=_
    rw[KE];simp;omega
   have h9:i≠9:=by
    rintro rfl
    have:(128:Nat)^9=9223372036854775808:=by decide
    have:=bP (128^9) (show 2≤m by omega)
    omega
   have hn:¬((i=9∧1<kL B X.length)∨(0<i∧kL B X.length=0)):=by
    rw[hb];rintro (⟨h1,h2⟩|⟨h1,h2⟩)
    ·exact h9 h1
    ·omega
   rw[if_neg hn,if_neg (by omega),hb]
   have hmul:m / 128*128^(i+1)+m%128*128^i=m*128^i:=by
    rw[Nat.pow_succ,Nat.mul_comm (128^i) 128,←Nat.mul_assoc,←Nat.add_mul,Nat.div_add_mod' m 128]
   have ih:=IA B f (i+1) (n+(m%128+128)%128*128^i) (m / 128) (X++[iN (m%128+128)]) Y (by rw[hB,e];simp) (by omega) (by omega) (by omega)
   have hl:(X++[iN (m%128+128)]).length=X.length+1:=by simp
   rw[hl]at ih;rw[ih,e]
   have e2:(m%128+128)%128=m%128:=by omega
   rw[e2];refine Prod.ext ?_ ?_
   ·show n+m%128*128^i+m / 128*128^(i+1)=n+m*128^i
    omega
   ·show (⟨X.length+1+(hG (m / 128)).length,0⟩:Rs)=⟨X.length+(iN (m%128+128)::hG (m / 128)).length,0⟩
    congr 1;simp;omega
theorem ND{m:Nat}(hm:m<18446744073709551616)(X Y:List UInt8):kE (X++(hG m++Y)) ⟨X.length,0⟩=(m,⟨X.length+(hG m).length,0⟩):=by
 unfold kE;rw[if_neg (by simp)]
 have:=IA _ 10 0 0 m X Y rfl rfl (by simpa using hm) (fun h=>absurd h (by decide))
 simpa using this
theorem wB{n:Int}(h1 : -9223372036854775808≤n)(h2:n≤9223372036854775807)(X Y:List UInt8):gE (X++(bR n++Y)) ⟨X.length,0⟩=(n,⟨X.length+(bR n).length,0⟩):=by
 unfold gE bR;rw[ND (aBV h1 h2)]
 show (zig (VT n),_)=_
 rw[aGI]
theorem aH5{L:List UInt8}(hs:L.length<18446744073709551616)(X Y:List UInt8):rO (X++((hG L.length++L)++Y)) ⟨X.length,0⟩=(L,⟨X.length+(hG L.length++L).length,0⟩):=by
 have hu:=ND hs X (L++Y)
 rw[show X++((hG L.length++L)++Y)=X++(hG L.length++(L++Y)) by simp];unfold rO;rw[hu];dsimp only;rw[if_neg (by simp),if_neg (by simp;omega)]
 have hd:(X++(hG L.length++(L++Y))).drop (X.length+(hG L.length).length)=L++Y:=by
  rw[←cF,←aL,List.drop_left]
 rw[hd,List.take_left,aL,Nat.add_assoc]
theorem CW{s:ByteArray}(hs:s.size<18446744073709551616)(X Y:List UInt8):jS (X++(dI s++Y)) ⟨X.length,0⟩=(s,⟨X.length+(dI s).length,0⟩):=by
 have hl:s.data.toList.length=s.size:=by rw[jD];rfl
 have h:=aH5 (L:=s.data.toList) (by omega) X Y
 rw[hl]at h;unfold jS dI;rw[h]
theorem DP(B:List UInt8):∀(f i a n v:Nat) (s:Rs),mN B f i a n=(v,s)→s.er=0→∃m,v=n+m*128^i∧(0<i→0<m)∧s.at_=a+(hG m).length∧s.at_≤B.length∧(B.drop a).take (hG m).length=hG m
 |0,i,a,n,v,s,h,h0=>by
  unfold mN at h;injection h with h1 h2;subst h2;exact absurd h0 (show ¬(2:Int)=0 by decide)
 |f+1,i,a,n,v,s,h,h0=>by
  unfold mN at h;split at h
  ·injection h with h1 h2;subst h2;exact absurd h0 (show ¬(3:Int)=0 by decide)
  split at h
  ·injection h with h1 h2;subst h2;exact absurd h0 (show ¬(2:Int)=0 by decide)
  rename_i hl hb
  have hlt:a<B.length:=by omega
  have hg:B.getD a 0=B[a]:=by rw[aD,aK hlt];rfl
  split at h
  ·rename_i hc
   injection h with h1 h2;subst h1;subst h2
   have e:=rT hc
   refine⟨kL B a,by rw[jP hc],fun hi=>?_,by rw[e];rfl,by show a+1≤_;omega,?_⟩
   ·have:¬kL B a=0:=fun hz=>hb (.inr ⟨hi,hz⟩)
    omega
   ·rw[e,dG hlt]
    show [B[a]]=_
    unfold kL;rw[hg];simp
  ·rename_i hc
   obtain⟨m,e1,e2,e3,e4,e5⟩:=DP B f (i+1) (a+1) _ v s h h0
   have hm:=e2 (by omega)
   have hb256:=RJ B a
   have hge:¬kL B a%128+m*128<128:=by omega
   have e:=uO hge
   have q1:(kL B a%128+m*128) / 128=m:=by omega
   have q2:(kL B a%128+m*128)%128+128=kL B a:=by omega
   rw[q1,q2]at e;refine⟨kL B a%128+m*128,?_,fun _=>by omega,?_,e4,?_⟩
   ·rw[e1,Nat.pow_succ,Nat.add_mul,Nat.mul_comm (128^i) 128,←Nat.mul_assoc];omega
   ·rw[e3,e];simp;omega
   ·rw[e,dG hlt]
    show B[a]::(B.drop (a+1)).take _=_
    rw[e5];congr 1;unfold kL;rw[hg];simp
theorem YZ{B:List UInt8}{a v:Nat}{s:Rs}(h:kE B ⟨a,0⟩=(v,s))(h0:s.er=0):s.at_=a+(hG v).length∧s.at_≤B.length∧(B.drop a).take (hG v).length=hG v:=by
 unfold kE at h;rw[if_neg (by simp)]at h;obtain⟨m,e1,_,e3,e4,e5⟩:=DP B 10 0 a 0 v s h h0
 have:v=m:=by simpa using e1
 subst this;exact⟨e3,e4,e5⟩
theorem NE{B:List UInt8}{s:Rs}(h:(kE B s).2.er=0):s.er=0:=by
 unfold kE at h;split at h
 ·rename_i hs;exact absurd h hs
 ·rename_i hs;exact Decidable.not_not.1 hs
def Pc(B Z:List UInt8)(a b:Nat):Prop:=b=a+Z.length∧b≤B.length∧(B.drop a).take Z.length=Z
theorem aGM{B:List UInt8}{s:Rs}(h:(kE B s).2.er=0):s.er=0∧Pc B (hG (kE B s).1) s.at_ (kE B s).2.at_:=by
 have h0:=NE h
 obtain⟨a,e⟩:=s;obtain rfl:e=0:=h0;exact⟨rfl,YZ rfl h⟩
theorem aO4{B:List UInt8}{s:Rs}(h:(gE B s).2.er=0):s.er=0∧Pc B (bR (gE B s).1) s.at_ (gE B s).2.at_:=by
 obtain⟨h1,h2⟩:=aGM (B:=B) (s:=s) h;refine⟨h1,?_⟩;unfold bR gE;rw[aGJ];exact h2
end Wi
namespace Wi
open _root_.Array renaming getElem?_eq_some_iff→bH,length_toList→jD
open _root_.BitVec renaming ofInt→aZ
open _root_.Bool renaming and_eq_true→aQ
open _root_.Int renaming ofNat→dR,toNat_natCast→dW
open _root_.Go.IntKind renaming i64→aC,u64→aR,u8→bF
open _root_.List renaming append_assoc→cF,drop_eq_getElem_cons→dG,eq_nil_of_length_eq_zero→gK,getD_eq_getElem?_getD→aD,getElem?_eq_getElem→aK,length_append→aL,length_cons→eF,length_set→cE,mem_iff_getElem?→dO
open _root_.Nat renaming beq→cA,eq_of_beq_eq_true→aS,le_refl→aW,mod_eq_of_lt→jP,mul_le_mul_right→bP,zero_add→cK,zero_le→bX
open _root_.Go.Region renaming wanted→fK
open _root_.Go.Proofs.Try renaming f115→hJ,prog→aB
open _root_.UInt8 renaming ofNat→iN
open _root_.Go.Value renaming slice→bB
open Go Go.AE
theorem w8(n:Int):bF.wrap n=n%256:=by simp[IntKind.wrap,IntKind.bits,IntKind.signed]
theorem VX(n:Int):aR.wrap n=n%18446744073709551616:=IntKind.wrap_u64 n
theorem aBX(n:Int):aC.wrap n=if n%18446744073709551616≥9223372036854775808 then n%18446744073709551616-18446744073709551616 else n%18446744073709551616:=by
 simp[IntKind.wrap,IntKind.bits,IntKind.signed]
theorem tV(w k:Nat):(aZ w (k:Int)).toNat=k%2^w:=by
 rw[BitVec.toNat_ofInt];omega
set_option maxRecDepth 100000 in
theorem aQF:∀x<256,x ||| 128=x%128+128:=by decide
set_option maxRecDepth 100000 in
theorem aOP:∀x<256,x &&& 127=x%128:=by decide
theorem aJP(n:Nat):bF.wrap (↑(aZ bF.bits (bF.wrap (n:Int)) ||| aZ bF.bits 128).toNat:Int)=((iN (n%128+128)).toNat:Int):=by
 have e:(aZ bF.bits (bF.wrap (n:Int)) ||| aZ bF.bits 128).toNat=n%128+128:=by
  show (aZ 8 (bF.wrap (n:Int)) ||| aZ 8 128).toNat=_
  have e1:bF.wrap (n:Int)=((n%256:Nat):Int):=by rw[w8];omega
  have e2:(aZ 8 128).toNat=128:=by decide
  rw[e1,BitVec.toNat_or,tV,e2,show n%256%2^8=n%256 by omega,aQF _ (by omega)];omega
 rw[e,w8,UInt8.toNat_ofNat'];omega
theorem aJ5{n:Nat}(h:n<128):bF.wrap (n:Int)=((iN n).toNat:Int):=by
 rw[w8,UInt8.toNat_ofNat'];omega
theorem aU4(n:Nat):(n:Int).fdiv (2^min (Int.toNat 7) aR.bits)=((n / 128:Nat):Int):=by
 show (n:Int).fdiv (2^7)=_
 rw[Int.fdiv_eq_ediv_of_nonneg _ (by decide)];rfl
theorem aBW{n:Int}(h1 : -9223372036854775808≤n)(h2:n≤9223372036854775807) :
  aR.wrap (↑(aZ aR.bits (aR.wrap (aR.wrap n*2^min (Int.toNat 1) aR.bits)) ^^^ aZ aR.bits (aR.wrap (n.fdiv (2^min (Int.toNat 63) aC.bits)))).toNat:Int)=(VT n:Int):=by
 have e1:aR.wrap (aR.wrap n*2^min (Int.toNat 1) aR.bits)=((2*n)%18446744073709551616).toNat:=by
  show aR.wrap (aR.wrap n*2^1)=_
  rw[VX,VX];omega
 have e2:n.fdiv (2^min (Int.toNat 63) aC.bits)=if 0≤n then 0 else -1:=by
  show n.fdiv (2^63)=_
  rw[Int.fdiv_eq_ediv_of_nonneg _ (by decide)]
  show n / 9223372036854775808=_
  split<;>omega
 rw[e1,e2];unfold VT
 show aR.wrap (↑(aZ 64 _ ^^^ aZ 64 _).toNat:Int)=_
 split
 ·rename_i h0
  rw[show aR.wrap 0=0 by decide]
  have e3:aZ 64 0=0#64:=by decide
  rw[e3,BitVec.xor_zero,tV,VX];omega
 ·rename_i h0
  have e3:aZ 64 (aR.wrap (-1))=BitVec.allOnes 64:=by decide
  rw[e3,BitVec.xor_allOnes,BitVec.toNat_not,tV,VX];omega
theorem aBT{n:Nat}(h:n<18446744073709551616):aC.wrap (↑(aZ aC.bits (aC.wrap ((n:Int).fdiv (2^min (Int.toNat 1) aR.bits))) ^^^ aZ aC.bits (-aC.wrap (aR.wrap ↑(aZ aR.bits (n:Int) &&& aZ aR.bits 1).toNat))).toNat:Int)=zig n∧eW .i64 (-aC.wrap (aR.wrap ↑(aZ aR.bits (n:Int) &&& aZ aR.bits 1).toNat)):=by
 have e1:(aZ aR.bits (n:Int) &&& aZ aR.bits 1).toNat=n%2:=by
  show (aZ 64 (n:Int) &&& aZ 64 1).toNat=n%2
  have e2:(aZ 64 1).toNat=2^1-1:=by decide
  rw[BitVec.toNat_and,tV,e2,Nat.and_two_pow_sub_one_eq_mod];omega
 have e2:aC.wrap (aR.wrap ((n%2:Nat):Int))=((n%2:Nat):Int):=by
  rw[VX,aBX];split<;>omega
 have e3:aC.wrap ((n:Int).fdiv (2^min (Int.toNat 1) aR.bits))=((n / 2:Nat):Int):=by
  show aC.wrap ((n:Int).fdiv (2^1))=_
  rw[Int.fdiv_eq_ediv_of_nonneg _ (by decide),aBX]
  show (if (n:Int) / 2%18446744073709551616≥9223372036854775808 then _ else (n:Int) / 2%18446744073709551616)=_
  rw[if_neg (by omega)];omega
 rw[e1,e2,e3];refine⟨?_,by simp only[eW];omega⟩;unfold zig
 show aC.wrap (↑(aZ 64 _ ^^^ aZ 64 _).toNat:Int)=_
 have h2:n%2=0∨n%2=1:=by omega
 rcases h2 with h2|h2
 ·rw[h2,if_pos rfl]
  have e4:aZ 64 (-((0:Nat):Int))=0#64:=by decide
  rw[e4,BitVec.xor_zero,tV,aBX,if_neg (by omega)];omega
 ·rw[h2,if_neg (by decide)]
  have e4:aZ 64 (-((1:Nat):Int))=BitVec.allOnes 64:=by decide
  rw[e4,BitVec.xor_allOnes,BitVec.toNat_not,tV,aBX,if_pos (by omega)];omega
theorem aG7{n c i:Nat}(hi:i≤9)(hn:n<128^i)(hc:c<256)(h9:i=9→c≤1) :
  aR.wrap (↑(aZ aR.bits (n:Int) ||| aZ aR.bits (aR.wrap (aR.wrap (bF.wrap ↑(aZ bF.bits (c:Int) &&& aZ bF.bits 127).toNat)*2^min (aR.wrap (7*aR.wrap (i:Int))).toNat aR.bits))).toNat:Int)=((n+c%128*128^i:Nat):Int):=by
 have e1:(aZ bF.bits (c:Int) &&& aZ bF.bits 127).toNat=c%128:=by
  show (aZ 8 (c:Int) &&& aZ 8 127).toNat=_
  have e2:(aZ 8 127).toNat=127:=by decide
  rw[BitVec.toNat_and,tV,e2,show c%2^8=c by omega,aOP _ hc]
 have e2:aR.wrap (bF.wrap ((c%128:Nat):Int))=((c%128:Nat):Int):=by rw[VX,w8];omega
 have e3:min (aR.wrap (7*aR.wrap (i:Int))).toNat aR.bits=7*i:=by
  rw[VX,VX,show (i:Int)%18446744073709551616=i by omega,show 7*(i:Int)%18446744073709551616=7*i by omega]
  show min _ 64=_
  omega
 have e4:(2:Int)^(7*i)=((128^i:Nat):Int):=by
  rw[Int.pow_mul];rfl
 rw[e1,e2,e3,e4]
 have hp:=EM i hi
 have hlt:c%128*128^i<18446744073709551616:=by
  by_cases h:i=9
  ·subst h
   have hb:c%128≤1:=by have:=h9 rfl;omega
   have h4:=bP (128^9) hb
   have:(128:Nat)^9=9223372036854775808:=by decide
   omega
  ·have h5:=EM (i+1) (by omega)
   have h3:=bP (128^i) (show c%128≤127 by omega)
   rw[Nat.pow_succ]at h5;omega
 have e5:aR.wrap (((c%128:Nat):Int)*((128^i:Nat):Int))=((c%128*128^i:Nat):Int):=by
  rw[←Int.natCast_mul,VX];omega
 rw[e5]
 show aR.wrap (↑(aZ 64 (n:Int) ||| aZ 64 ((c%128*128^i:Nat):Int)).toNat:Int)=_
 rw[BitVec.toNat_or,tV,tV,jP (show n<2^64 by omega),jP (show c%128*128^i<2^64 by omega)]
 have e6:128^i=2^(7*i):=by rw[Nat.pow_mul]
 have e7:n ||| c%128*128^i=n+c%128*128^i:=by
  rw[e6]at hn ⊢
  have:=Nat.shiftLeft_add_eq_or_of_lt hn (c%128)
  rw[Nat.shiftLeft_eq]at this;rw[Nat.or_comm,←this];omega
 rw[e7,VX]
 have hsum:n+c%128*128^i<18446744073709551616:=by
  by_cases h:i=9
  ·subst h
   have hb:c%128≤1:=by have:=h9 rfl;omega
   have h4:=bP (128^9) hb
   have:(128:Nat)^9=9223372036854775808:=by decide
   omega
  ·have h5:=EM (i+1) (by omega)
   have h3:=bP (128^i) (show c%128≤127 by omega)
   rw[Nat.pow_succ]at h5;omega
 omega
end Wi
namespace Go.AE
open _root_.Array renaming getElem?_eq_some_iff→bH,length_toList→jD
open _root_.BitVec renaming ofInt→aZ
open _root_.Bool renaming and_eq_true→aQ
open _root_.Int renaming ofNat→dR,toNat_natCast→dW
open IntKind renaming i64→aC,u64→aR,u8→bF
open _root_.List renaming append_assoc→cF,drop_eq_getElem_cons→dG,eq_nil_of_length_eq_zero→gK,getD_eq_getElem?_getD→aD,getElem?_eq_getElem→aK,length_append→aL,length_cons→eF,length_set→cE,mem_iff_getElem?→dO
open _root_.Nat renaming beq→cA,eq_of_beq_eq_true→aS,le_refl→aW,mod_eq_of_lt→jP,mul_le_mul_right→bP,zero_add→cK,zero_le→bX
open Region renaming wanted→fK
open _root_.Go.Proofs.Try renaming f115→hJ,prog→aB
open _root_.UInt8 renaming ofNat→iN
open Value renaming slice→bB
open Go.Proofs Go.Proofs.Ytfjihbmehhccoaa Go.RowKit Wi
def wrH(B:List UInt8):List AO:=[.cells 65 [.sl 1 1 0 B.length],.row 5 1 B.length (aO bI B)]
def uN(n:Int):V:=.c (.p (.i .u64 n))
def KN(B:List UInt8)(b:Nat):List AO:=[.pin 1 b,.cells 65 [.sl 2 1 0 B.length],.row 5 1 B.length (aO bI B)]
theorem tU1(n:Int)(b k:Nat)(B:List UInt8):dF fH (dL 2 (gQ (dC aB Try.f65) 0)) (bY 31 [(0,.c (.ptr 0 0)),(1,uN n)] [.pin 1 b,.cells 65 [.sl 2 1 0 k],.row 5 1 k (aO bI B)]) (gP [0] (fJ 31 [0,1]) (bK aB Try.f65))=bT (decide (128≤n))
 (.done .normal
 (bY 31 [(0,.c (.ptr 0 0)),(1,.c (.p (.i aR n)))] [.pin 1 b,.cells 65 [.sl 2 1 0 k],.row 5 1 k fun e o=>bQ [0,1,2] (aO bI B e o)]))
 (.done (.exit 0)
 (bY 31 [(0,.c (.ptr 0 0)),(1,.c (.p (.i aR n)))] [.pin 1 b,.cells 65 [.sl 2 1 0 k],.row 5 1 k fun e o=>bQ [0,1,2] (aO bI B e o)])):=by kernel_rfl
theorem tU2(n:Int)(b k:Nat)(B:List UInt8):dF fH (bL 2 (gQ (dC aB Try.f65) 0)) (bY 31 [(0,.c (.ptr 0 0)),(1,uN n)] [.pin 1 b,.cells 65 [.sl 2 1 0 k],.row 5 1 k (aO bI B)]) (gP [0] (fJ 31 [0,1]) (bK aB Try.f65))=Tr.rq (k=k)
 (.rq (1≤1)
 (.rq
 ((k+1)*1≤140737488355328 ∧
 k+1≤140737488355328 ∧
 ∀(e o:Nat),
 e<1 →
 o<1→iQ (mI [C.p (PV.i bF (bF.wrap (↑(aZ bF.bits (bF.wrap n) ||| aZ bF.bits 128).toNat:Int)))] 1 1 (e+0) o)=true)
 (.rq (dR 0≤dR 7)
 (.done .normal
 (bY 31 [(0,.c (.ptr 0 0)),(1,.c (.p (.i aR (n.fdiv (2^min (Int.toNat 7) aR.bits)))))] [.pin 1 b,.cells 65 [.sl 2 1 0 (k+1)],.row 5 1 (k+1) fun e o=>bQ [0,1,4] (fI k (aO bI B) (fun e o=>bC C.top [C.p (PV.i bF (bF.wrap (↑(aZ bF.bits (bF.wrap n) ||| aZ bF.bits 128).toNat:Int)))] ((e+0)*1+o)) e o)]))))):=by kernel_rfl
theorem tU3(n:Int)(b k:Nat)(B:List UInt8):dF fH (bL 1 (dC aB Try.f65)) (bY 31 [(0,.c (.ptr 0 0)),(1,uN n)] [.pin 1 b,.cells 65 [.sl 2 1 0 k],.row 5 1 k (aO bI B)]) (gP [0] (fJ 31 [0,1]) (bK aB Try.f65))=Tr.rq (k=k)
 (.rq (1≤1)
 (.rq ((k+1)*1≤140737488355328∧k+1≤140737488355328∧∀(e o:Nat),e<1→o<1→iQ (mI [C.p (PV.i bF (bF.wrap n))] 1 1 (e+0) o)=true)
 (.done .normal
 (bY 31 [(0,.c (.ptr 0 0)),(1,.c (.p (.i aR n)))] [.pin 1 b,.cells 65 [.sl 2 1 0 (k+1)],.row 5 1 (k+1) fun e o=>bQ [0,1,4] (fI k (aO bI B) (fun e o=>bC C.top [C.p (PV.i bF (bF.wrap n))] ((e+0)*1+o)) e o)])))):=by kernel_rfl
theorem HY(j:Nat):cA j j=true:=Nat.beq_refl j
theorem VW{j r:Nat}(h:j≠r):cA j r=false:=Bool.eq_false_iff.2 fun e=>h (aS e)
theorem aBY{P:Program}{G:Nat→Option Obj}{f:FuncId}{args:List V}{h h':List AO}{K:V→List AO→Prop}(he:∀(β:Bt) (R:Nat→Prop) (w:World),HS G β R w h→HS G β R w h')(hl:h'.length=h.length)(hf:jW P G f args h' K):jW P G f args h K:=by
 intro β R w vs ha hh;refine(hf β R w vs ha (he β R w hh)).mono ?_;rintro e w' ⟨u,β',R',x,h2,q1,q2,q3,q4,q5,q6⟩;exact⟨u,β',R',x,h2,q1,q2,q3,q4,q5,fun i hi=>q6 i (by omega)⟩
theorem aP3{ρ ids js:List Nat}{h hE:List AO}{r:Nat}(v:AO)(h1:wN ids js r=none)(h2:pF r ρ=true):iT ρ ids js (eT v h r) hE=iT ρ ids js h hE:=by
 unfold iT
 have hl:fG (eT v h r)=fG h:=by rw[eL,eL,eV,cE]
 rw[hl];congr 1
 generalize hF:wM ρ ids js (fG h) hE=F
 have hFr:∀x y,F r x=F r y:=fun x y=>by
  rw[←hF];unfold wM;rw[h1,h2]
 clear hF hl
 have key:∀(l:List AO) (i k:Nat),(∀x y,F (i+k) x=F (i+k) y)→xO F i (eT v l k)=xO F i l:=by
  intro l;induction l with
  |nil=>intro i k _;rfl
  |cons x l ih=>
   intro i k hk;cases k with
   |zero=>
    show F i v::_=F i x::_
    rw[show F i v=F i x from hk v x]
   |succ k=>
    show F i x::xO F (i+1) (eT v l k)=F i x::xO F (i+1) l
    rw[ih (i+1) k (by rw[show i+1+k=i+(k+1) by omega];exact hk)]
 exact key h 0 r (by rw[cK];exact hFr)
theorem aK9(ρ:List Nat)(j:Nat)(h:List AO){hE hE':List AO}(e:hE.tail=hE'.tail)(p:bC .gone hE 1=bC .gone hE' 1){b b':Nat}(h1:hE.head?=some (.pin 1 b))(h2:hE'.head?=some (.pin 1 b')):iT ρ [j] [1] h hE=iT ρ [j] [1] h hE':=by
 cases hE with
 |nil=>cases h1
 |cons x t=>
  cases hE' with
  |nil=>cases h2
  |cons y t'=>
   obtain rfl:x=.pin 1 b:=by simpa using h1
   obtain rfl:y=.pin 1 b':=by simpa using h2
   obtain rfl:t=t':=e;unfold iT
   have e:wM ρ [j] [1] (fG h) (.pin 1 b::t)=wM ρ [j] [1] (fG h) (.pin 1 b'::t):=by
    funext i x;unfold wM wN;cases cA j i<;>rfl
   rw[e];rfl
def aAN(B:List UInt8)(j:Nat)(h:List AO):Option (Prop×Nat):=match bC .gone h j with
 |.cells 65 [.sl r 1 0 n]=>match bC .gone h r with
  |.row 5 1 n' f=>some (n=B.length∧n'=B.length∧∀e o,e<B.length→o<1→f e o=aO bI B e o,r)
  |_=>none
 |_=>none
theorem DC{B:List UInt8}{j:Nat}{h:List AO}{r:Nat}{q:Prop}(he:aAN B j h=some (q,r))(hq:q):∃f,bC .gone h j=.cells 65 [.sl r 1 0 B.length]∧bC .gone h r=.row 5 1 B.length f∧∀e o,e<B.length→o<1→f e o=aO bI B e o:=by
 unfold aAN at he
 split at he;rotate_left;· cases he
 rename_i r0 n hj
 split at he;rotate_left;· cases he
 rename_i n' f h1;injection he with he;injection he with e1 e2;subst e1;subst e2;obtain⟨rfl,rfl,hf⟩:=hq;exact⟨f,hj,h1,hf⟩
section
variable {G:Nat→Option Obj}
set_option maxRecDepth 100000 in
theorem VU{f:FuncId}{fn:Func}(hf:(aB).funcs[f]?=some fn)(hok:TF aB fn=true){args vs:List V}{B B':List UInt8}{h:List AO}{j r:Nat}{g:Nat→Nat→C}(hj:bC .gone h j=.cells 65 [.sl r 1 0 B.length])(hr:bC .gone h r=.row 5 1 B.length g)(hg:∀e o,e<B.length→o<1→g e o=aO bI B e o)
  (hargs:oQ [j,r] [j] 2 args=oQ [0,1] [0] 2 args)
  (H:∀b,eP aB G (Zm [0] (bK aB fn) fun s=>cW G s ⟨[.c (.ptr 0 0)]++vs,KN B' b⟩) (dC aB fn) (jR fn [0,1] [0] [b] (.c (.ptr 0 0)::args) (wrH B)) fun e s=>e=.normal∧Zm [0] (bK aB fn) (fun s=>cW G s ⟨[.c (.ptr 0 0)]++vs,KN B' b⟩) s):jW aB G f (.c (.ptr j 0)::args) h fun x h'=>x=OE (yN [1] [j] h.length vs)∧h'=iT [j,r] [j] [1] h (KN B' 0):=by
 have n1:j≠r:=by rintro rfl;rw[hj]at hr;cases hr
 have hlr:r<h.length:=fZ hr (by simp)
 refine aBY (h':=eT (.row 5 1 B.length (aO bI B)) h r) (fun β R w hh=>vD hh hr hg) (by rw[eV,cE]) ?_
 have hj':bC .gone (eT (.row 5 1 B.length (aO bI B)) h r) j=.cells 65 [.sl r 1 0 B.length]:=by rw[cP _ _ _ (Ne.symm n1)];exact hj
 have hr':bC .gone (eT (.row 5 1 B.length (aO bI B)) h r) r=.row 5 1 B.length (aO bI B):=eA _ _ _ hlr
 have hout:=aP3 (ρ:=[j,r]) (ids:=[j]) (js:=[1]) (h:=h) (hE:=KN B' 0) (r:=r) (.row 5 1 B.length (aO bI B)) (by
  show (match cA j r with
   |true=>some 1
   |false=>wN [] [] r)=none
  rw[VW n1];rfl) (by
  show (cA j r||(cA r r||_))=true
  rw[HY];simp)
 have hlen:(eT (.row 5 1 B.length (aO bI B)) h r).length=h.length:=by rw[eV,cE]
 rw[←hout,←hlen]
 generalize eT (.row 5 1 B.length (aO bI B)) h r=h0 at hj' hr' ⊢
 clear hj hr hg hout hlen hlr
 refine fun β R w us hw hh=>(tR (ρ:=[j,r]) (ids:=[j]) (ps:=[0]) (pns:=[0]) (js:=[1]) (sl:=[.c (.ptr 0 0)]) (vs:=vs) (hE:=fun bs=>KN B' (bC 0 bs 0)) hf hok ?_ ?_ (by simp) (by simp) rfl rfl rfl (fun i pn h=>?_) (fun bs hb i pn j b h1 h2 h3=>?_) (fun bs hb=>?_) β R w us hw hh).mono ?_
 ·simp[qI,pF,VW n1,VW (Ne.symm n1)]
 ·simp[tD,hj',hr',AO.live]
 ·cases i with
  |zero=>obtain rfl:0=pn:=by simpa using h
         exact⟨0,by simp⟩
  |succ i=>simp at h
 ·cases i with
  |zero=>
   obtain rfl:0=pn:=by simpa using h1
   obtain rfl:1=j:=by simpa using h2
   cases bs with
   |nil=>simp at hb
   |cons b0 bs=>
    obtain rfl:b0=b:=by simpa using h3
    exact⟨rfl,rfl⟩
  |succ i=>simp at h1
 ·obtain⟨bb,rfl⟩:∃b,bs=[b]:=by
    cases bs with
    |nil=>simp at hb
    |cons b0 bs=>cases bs with
     |nil=>exact⟨b0,rfl⟩
     |cons _ _=>simp at hb
  have i1:jM j [j,r] 0=some 0:=by simp only[jM,HY]
  have i2:jM r [j,r] 0=some 1:=by simp only[jM,HY,VW n1]
  have i5:jM j [j] 0=some 0:=by simp only[jM,HY]
  have e:jR fn [j,r] [j] [bb] (.c (.ptr j 0)::args) h0=jR fn [0,1] [0] [bb] (.c (.ptr 0 0)::args) (wrH B):=by
   unfold jR inH
   have e1:oQ [j,r] [j] ([j,r]:List Nat).length (.c (.ptr j 0)::args)=oQ [0,1] [0] ([0,1]:List Nat).length (.c (.ptr 0 0)::args):=by
    show CQ [j,r] [j] 2 (.c (.ptr j 0))::oQ [j,r] [j] 2 args=CQ [0,1] [0] 2 (.c (.ptr 0 0))::oQ [0,1] [0] 2 args
    rw[hargs];congr 1;simp only[CQ,inC,i5];rfl
   have e2:mO [j,r] h0 [j,r]=mO [0,1] (wrH B) [0,1]:=by
    simp only[mO,hj',hr',SH,wQ,bQ,i2,aMR];rfl
   have e3:vB [j,r] [j] [bb]=vB [0,1] [0] [bb]:=by
    simp only[vB,i1];rfl
   rw[e1,e2,e3];rfl
  rw[e];exact H bb
 ·rintro e w' ⟨u,β',R',x,h',rfl,⟨bs,hb,hx,hh'⟩,hr⟩
  exact⟨u,β',R',x,h',rfl,⟨hx,hh'.trans (aK9 _ _ _ rfl rfl rfl rfl)⟩,hr⟩
theorem MF(x:UInt8):∀o:Nat,o<1→(fun e o:Nat=>bC C.top [C.p (PV.i bF (x.toNat:Int))] ((e+0)*1+o)) 0 o=.p (bI x o):=by
 intro o ho
 obtain rfl:o=0:=by omega
 rfl
set_option maxRecDepth 100000 in
theorem YY(B:List UInt8)(n:Nat)(hB:(B++hG n).length≤140737488355328)(b:Nat):eP aB G (Zm [0] (bK aB Try.f65) fun s=>cW G s ⟨[.c (.ptr 0 0)]++[],KN (B++hG n) b⟩) (dC aB Try.f65) (jR Try.f65 [0,1] [0] [b] [.c (.ptr 0 0),uN n] (wrH B)) fun e s=>e=.normal∧Zm [0] (bK aB Try.f65) (fun s=>cW G s ⟨[.c (.ptr 0 0)]++[],KN (B++hG n) b⟩) s:=by
 refine eP.loop' (l:=dC aB Try.f65) (id:=0) (b:=inr (inr (bC .skip (dC aB Try.f65) 0))) (r:=bL 1 (dC aB Try.f65)) (by kernel_rfl) (σ:=List UInt8×Nat)
   (fun s=>(fun n B k=>bY 31 [(0,.c (.ptr 0 0)),(1,uN n)] [.pin 1 b,.cells 65 [.sl 2 1 0 k],.row 5 1 k (aO bI B)]) ((s.2:Nat):Int) s.1 s.1.length) (fun s=>s.1++hG s.2=B++hG n) (fun s=>s.2) (B,n) rfl ((gY [2,0,1] (fJ 31 [0,1]) (by kernel_rfl) _).trans (aI (by kernel_rfl))) ?_
 rintro⟨B1,m⟩ h1 Q1 q1n q1e _;dsimp only at h1 q1n ⊢
 have hl:B1.length+(hG m).length=(B++hG n).length:=by rw[←h1,aL]
 have hp:=zU m
 have ex:∀x:UInt8,∀e o:Nat,e<1→o<1→iQ (mI [C.p (PV.i bF (x.toNat:Int))] 1 1 (e+0) o)=true:=fun x e o he ho=>by
  obtain rfl:e=0:=by omega
  obtain rfl:o=0:=by omega
  rfl
 refine eP.evG aY 2 (tU1 m b B1.length B1) ?_;simp only[cD,aP,cI,mU,decide_eq_true_eq,decide_eq_false_iff_not];refine⟨fun c=>⟨?_⟩,fun c=>⟨q1e _ ?_⟩⟩
 ·refine eP.pre (aI (st':=(fun n B k=>bY 31 [(0,.c (.ptr 0 0)),(1,uN n)] [.pin 1 b,.cells 65 [.sl 2 1 0 k],.row 5 1 k (aO bI B)]) (m:Int) B1 B1.length) (by kernel_rfl)) (eP.evH aY (tU2 m b B1.length B1) ?_)
  simp only[bA,aP,cI];rw[aJP,aU4]
  have e:=uO (n:=m) (by omega)
  rw[e]at h1 hl;rw[eF]at hl;refine⟨trivial,aW _,⟨by omega,by omega,ex _⟩,by decide,⟨q1n (B1++[iN (m%128+128)],m / 128) _ ?_ ?_ ?_⟩⟩
  ·show (B1++[_])++_=_
   rw[cF];exact h1
  ·show m / 128<m;omega
  ·have hlx:(B1++[iN (m%128+128)]).length=B1.length+1:=by simp
   rw[hlx];exact jF ⟨rfl,rfl,⟨rfl,rfl,rfl,fun e o he ho=>pP (ρ:=[0,1,4]) rfl (MF _) he ho⟩,trivial⟩
 ·refine eP.pre (aI (st':=(fun n B k=>bY 31 [(0,.c (.ptr 0 0)),(1,uN n)] [.pin 1 b,.cells 65 [.sl 2 1 0 k],.row 5 1 k (aO bI B)]) (m:Int) B1 B1.length) (by kernel_rfl)) (eP.evH aY (tU3 m b B1.length B1) ?_)
  simp only[bA,aP,cI]
  have hm:m<128:=by omega
  rw[aJ5 hm]
  have e:=rT hm
  rw[e]at h1 hl
  have hl:B1.length+1=_:=hl
  refine⟨trivial,aW _,⟨by omega,by omega,ex _⟩,⟨trivial,?_⟩⟩;refine⟨[],rfl,?_⟩;rw[←h1];unfold KN
  have hlx:(B1++[iN m]).length=B1.length+1:=by simp
  rw[hlx]
  refine(aI (st':=⟨[.c (.ptr 0 0)],[.pin 1 b,.cells 65 [.sl 2 1 0 (B1.length+1)],.row 5 1 (B1.length+1) (fun e o=>bQ [0,1,2] (bQ [0,1,4] (fI B1.length (aO bI B1) (fun e o=>bC C.top [C.p (PV.i bF ((iN m).toNat:Int))] ((e+0)*1+o)) e o)))]⟩) (by kernel_rfl)).trans ?_
  exact KO ⟨rfl,rfl,⟨rfl,rfl,rfl,fun e o he ho=>congrArg (bQ [0,1,2]) (pP (ρ:=[0,1,4]) rfl (MF _) he ho)⟩,trivial⟩
def oG(h:List AO)(j:Nat):Nat:=match bC .gone h j with
 |.pin i _=>i
 |_=>j
theorem pZ{P:Program}{f:FuncId}{q off:Nat}{args:List V}{h:List AO}{K:V→List AO→Prop}(hf:jW P G f (.c (.ptr (oG h q) off)::args) h K):jW P G f (.c (.ptr q off)::args) h K:=by
 unfold oG at hf;split at hf
 ·rename_i j b0 hq
  intro β R w vs ha hh;refine hf β R w vs ?_ hh
  generalize vs.toList=us at ha
  cases us with
  |nil=>exact ha.elim
  |cons u us=>
   obtain⟨h1,h2⟩:=ha;obtain⟨b,o,e1,e2⟩:=h1
   have hob:=hh.obj q b o e1
   rw[hq]at hob;obtain⟨e3,o2,e4⟩:=hob;subst e3;exact⟨⟨_,o2,e4,e2⟩,h2⟩
 ·exact hf
theorem mJ{p q:Prop}{v u:V}{h h':List AO}(e:some (p,v,h)=some (q,u,h')):p=q∧v=u∧h=h':=by
 injection e with e;injection e with e1 e;injection e with e2 e3;exact⟨e1,e2,e3⟩
def TM(B:List UInt8)(m:Nat):kD:=fun args h=>match args with
 |[.c (.ptr j 0),.c (.p (.i .u64 n))]=>match aAN B (oG h j) h with
  |some (q,r)=>some (q∧n=(m:Int)∧(B++hG m).length≤140737488355328,.t [],iT [oG h j,r] [oG h j] [1] h (KN (B++hG m) 0))
  |none=>none
 |_=>none
set_option maxRecDepth 100000 in
theorem aI5(B:List UInt8)(m:Nat):gG aB G 65 (TM B m):=by
 intro args h p v h' hm hp;unfold TM at hm
 split at hm;rotate_left;· cases hm
 split at hm;rotate_left;· cases hm
 rename_i j n _ q r hw;obtain⟨rfl,rfl,rfl⟩:=mJ hm;obtain⟨hq,rfl,hB⟩:=hp;obtain⟨g,k1,k2,k3⟩:=DC hw hq
 exact pZ (VU (args:=[uN m]) (vs:=[]) Try.func65 (by kernel_rfl) k1 k2 k3 rfl fun b=>YY B m hB b)
def aFB(B:List UInt8)(m:Nat):Ext:=mH [(65,TM B m)]
end
theorem tWI(n:Int)(m b:Nat)(B:List UInt8):dF (aFB B m) (dC aB Try.f34) (jR Try.f34 [0,1] [0] [b] [.c (.ptr 0 0),iV n] (wrH B)) (gP [0] (fJ 13 [0]) (bK aB Try.f34))=Tr.rq (dR 0≤dR 1)
 (.rq (dR 0≤dR 63)
 (.rq
 ((B.length=B.length∧B.length=B.length∧∀(e o:Nat),e<B.length→o<1→bQ [0,1] (aO bI B e o)=aO bI B e o) ∧
 aR.wrap (↑(aZ 64 (aR.wrap (aR.wrap n*2^1)) ^^^ aZ 64 (aR.wrap (n.fdiv (2^63)))).toNat:Int)=(↑m:Int) ∧
 (B++hG m).length≤140737488355328)
 (.done .normal
 (bY 13 [(0,.c (.ptr 0 0))] [.pin 1 b,.cells 65 [.sl 2 1 0 (B++hG m).length],.row 5 1 (B++hG m).length fun e o=>bQ [2,0,5] (C.p (PV.i bF (↑((B++hG m).getD e default).toNat:Int)))])))):=by kernel_rfl
theorem tWT(s:ByteArray)(m b:Nat)(B:List UInt8):dF (aFB B m) (dL 1 (dC aB Try.f35)) (jR Try.f35 [0,1] [0] [b] [.c (.ptr 0 0),.c (.p (.s s))] (wrH B)) (gP [0] (fJ 18 [0,1]) (bK aB Try.f35))=Tr.rq
 ((B.length=B.length∧B.length=B.length∧∀(e o:Nat),e<B.length→o<1→bQ [0,1] (aO bI B e o)=aO bI B e o) ∧
 aR.wrap (↑s.size:Int)=(↑m:Int)∧(B++hG m).length≤140737488355328)
 (.done .normal
 (bY 18 [(0,.c (.ptr 0 0)),(1,.c (.p (.s s)))] [.pin 1 b,.cells 65 [.sl 2 1 0 (B++hG m).length],.row 5 1 (B++hG m).length fun e o=>bQ [2,0,5] (C.p (PV.i bF (↑((B++hG m).getD e default).toNat:Int)))])):=by kernel_rfl
def KZ:dQ→Array Oper
 |.raw (.region _ ops _)=>ops
 |_ => #[]
noncomputable def ZW:Array Oper:=KZ (bC .skip (dC aB Try.f35) 1)
noncomputable def aRB:List AI:=(fD aB ZW (ZW.toList.take 6)).getD []
noncomputable def aR9:List AI:=(fD aB ZW (ZW.toList.drop 7)).getD []
theorem aRO(s:ByteArray)(b k:Nat)(B:List UInt8):iY fH aRB (bY 18 [(0,.c (.ptr 0 0)),(1,.c (.p (.s s)))] [.pin 1 b,.cells 65 [.sl 2 1 0 k],.row 5 1 k (aO bI B)]) (fun st=>aCB 5 (.t 13) (.t 14) st fun v h=>iY fH aR9 ⟨mG st.t (some 15) v,h⟩ fun s'=>.done .normal (gcS (fJ 18 [0]) s'))=Tr.rq (k=k)
  (Tr.rq (k+s.size≤140737488355328)
   (Tr.done X.normal
    (bY 18 [(0,V.c (C.ptr 0 0))] [AO.pin 1 b,AO.cells 65 [C.sl 2 1 0 (k+s.size)],AO.row 5 1 (k+s.size) fun e o=>bQ [0,1,3] (fI k (aO bI B) (fun e x=>C.p (PV.i bF (↑(s.data.toList.getD e 0).toNat:Int))) e o)]))):=by kernel_rfl
end Go.AE
namespace Go.AE
open _root_.Array renaming getElem?_eq_some_iff→bH,length_toList→jD
open _root_.BitVec renaming ofInt→aZ
open _root_.Bool renaming and_eq_true→aQ
open _root_.Int renaming ofNat→dR,toNat_natCast→dW
open IntKind renaming i64→aC,u64→aR,u8→bF
open _root_.List renaming append_assoc→cF,drop_eq_getElem_cons→dG,eq_nil_of_length_eq_zero→gK,getD_eq_getElem?_getD→aD,getElem?_eq_getElem→aK,length_append→aL,length_cons→eF,length_set→cE,mem_iff_getElem?→dO
open _root_.Nat renaming beq→cA,eq_of_beq_eq_true→aS,le_refl→aW,mod_eq_of_lt→jP,mul_le_mul_right→bP,zero_add→cK,zero_le→bX
open Region renaming wanted→fK
open _root_.Go.Proofs.Try renaming f115→hJ,prog→aB
open _root_.UInt8 renaming ofNat→iN
open Value renaming slice→bB
open Go.Proofs Go.Proofs.Ytfjihbmehhccoaa Go.RowKit Wi
theorem aUK(X M:List UInt8)(e o:Nat):fI X.length (aO bI X) (fun e x=>C.p (PV.i bF (↑(M.getD e 0).toNat:Int))) e o=aO bI (X++M) e o:=by
 unfold fI aO aE bI
 by_cases h:e<X.length
 ·rw[if_pos h]
  simp[List.getElem?_append_left h]
 ·rw[if_neg h]
  show C.p (PV.i bF (↑(M.getD (e-X.length) 0).toNat:Int))=C.p (PV.i bF (↑((X++M).getD e default).toNat:Int))
  rw[aD,aD,List.getElem?_append_right (by omega)];rfl
def leU(x:V)(B:List UInt8):Option Prop:=match x with
 |.c (.p (.l 1 n f))=>some (n=B.length∧∀e o,e<B.length→o<1→f e o=aE bI B e o)
 |.c (.p (.z (.slice none 0 0)))=>some (B=[])
 |_=>none
theorem FH{x:V}{p:Prop}{B:List UInt8}(h:leU x B=some p)(hp:p):iE x (aU bI 1 B):=by
 unfold leU at h;split at h
 ·injection h with h
  subst h;obtain⟨rfl,h2⟩:=hp;exact iE.p (lY.l fun e o he ho=>lY.of_eq (h2 e o he ho))
 ·injection h with h
  subst h;subst hp;exact iE.p (lY.nil 1 _)
 ·cases h
def aNY(L:List UInt8):kD
 |[x],h=>match leU x L with
  |some p=>some (p∧L.length≤140737488355328,.c (.sl (fG h) 1 0 L.length),iT [] [] [] h [.row 5 1 L.length (aO bI L)])
  |none=>none
 |_,_=>none
def aLU(L:List UInt8):Ext:=aIY 71 (aNY L) fH
theorem aTE(h:List AO)(L:List UInt8):dF fH (dC aB Try.f71) (jR Try.f71 [] [] [] [aU bI 1 L] h) (gP [] [] (bK aB Try.f71))=bT (decide (0<L.length))
 (Tr.rq (0=0)
 (Tr.rq ((0+L.length)*1≤140737488355328∧0+L.length≤140737488355328∧∀(e o:Nat),e<L.length→o<1→iQ (C.p (aE bI L e o))=true)
 (Tr.done X.ret
 (St.mk [V.c (C.sl 0 1 0 (0+L.length))] [AO.row 5 1 (0+L.length) fun e o=>bQ [1] (fI 0 (fun e o=>bC C.top [] (e*1+o)) (fun e o=>C.p (PV.i bF (↑(L.getD e default).toNat:Int))) e o)]))))
 ((Tr.done X.ret (St.mk [V.c (C.p (PV.z (bB none 0 0)))] [])).alt
 (Tr.rq (0=0)
 (Tr.rq ((0+L.length)*1≤140737488355328∧0+L.length≤140737488355328∧∀(e o:Nat),e<L.length→o<1→iQ (C.p (aE bI L e o))=true)
 (Tr.done X.ret
 (St.mk [V.c (C.sl 0 1 0 (0+L.length))] [AO.row 5 1 (0+L.length) fun e o=>bQ [1] (fI 0 (fun e o=>bC C.top [] (e*1+o)) (fun e o=>C.p (PV.i bF (↑(L.getD e default).toNat:Int))) e o)]))))):=by kernel_rfl
section
variable {G:Nat→Option Obj}
theorem CC(B:List UInt8)(m:Nat):bG aB G (aFB B m):=eM (by simp;exact aI5 B m)
set_option maxRecDepth 100000 in
theorem YT(B:List UInt8)(n:Int)(h1:eW .i64 n)(hB:(B++bR n).length≤140737488355328)(b:Nat):eP aB G (Zm [0] (bK aB Try.f34) fun s=>cW G s ⟨[.c (.ptr 0 0)]++[],KN (B++bR n) b⟩) (dC aB Try.f34) (jR Try.f34 [0,1] [0] [b] [.c (.ptr 0 0),iV n] (wrH B)) fun e s=>e=.normal∧Zm [0] (bK aB Try.f34) (fun s=>cW G s ⟨[.c (.ptr 0 0)]++[],KN (B++bR n) b⟩) s:=by
 refine eP.evH (CC B (VT n)) (tWI n (VT n) b B) ?_;simp only[bA,aP,cI];refine⟨by decide,by decide,⟨⟨trivial,trivial,fun _ _ _ _=>rfl⟩,?_,hB⟩,⟨trivial,[],rfl,aI ?_⟩⟩
 ·have:=aBW h1.1 h1.2
  exact this
 ·unfold KN bR
  rfl
set_option maxRecDepth 100000 in
theorem ZB(B:List UInt8)(s:ByteArray)(hs:s.size≤140737488355328)(hB:(B++dI s).length≤140737488355328)(b:Nat):eP aB G (Zm [0] (bK aB Try.f35) fun st=>cW G st ⟨[.c (.ptr 0 0)]++[],KN (B++dI s) b⟩) (dC aB Try.f35) (jR Try.f35 [0,1] [0] [b] [.c (.ptr 0 0),.c (.p (.s s))] (wrH B)) fun e st=>e=.normal∧Zm [0] (bK aB Try.f35) (fun st=>cW G st ⟨[.c (.ptr 0 0)]++[],KN (B++dI s) b⟩) st:=by
 have hl:s.data.toList.length=s.size:=by rw[jD];rfl
 have hB2:(B++dI s).length=(B++hG s.size).length+s.size:=by unfold dI;simp;omega
 refine eP.evG (CC B s.size) 1 (tWT s s.size b B) ?_;simp only[bA,aP,cI];refine⟨⟨⟨trivial,trivial,fun _ _ _ _=>rfl⟩,?_,by omega⟩,⟨?_⟩⟩
 ·rw[VX];omega
 have e:bL 1 (dC aB Try.f35)=[.raw (.region 1 ZW false)]:=by kernel_rfl
 rw[e]
 refine eP.pre (aI (st':=(fun k B=>bY 18 [(0,.c (.ptr 0 0)),(1,.c (.p (.s s)))] [.pin 1 b,.cells 65 [.sl 2 1 0 k],.row 5 1 k (aO bI B)]) (B++hG s.size).length (B++hG s.size)) (by kernel_rfl)) ?_
 refine eP.spec aY rfl 6 (o:=ZW.toList.getD 6 default) (al1:=aRB) (al2:=aR9) (by kernel_rfl) (by kernel_rfl) (by kernel_rfl) (by kernel_rfl) (op:=.call { callee:=.builtin .append,args := #[.tmp 13,.tmp 14],argTypes := #[63,9] }) (by kernel_rfl)
   (aCA (i:=((aB).info? 5).get (by kernel_rfl)) (by kernel_rfl) (by kernel_rfl) (by kernel_rfl) (by kernel_rfl) (by kernel_rfl) (by kernel_rfl) (by kernel_rfl) (by kernel_rfl)) (fJ 18 [0]) (d:=some 15) (by kernel_rfl) (aRO s b (B++hG s.size).length (B++hG s.size)) ?_
 simp only[bA,aP];refine⟨trivial,by omega,⟨_,cW.refl _,⟨rfl,[],rfl,?_⟩⟩⟩;unfold KN dI;rw[←cF]
 generalize B++hG s.size=X at hB2 ⊢
 have hlx:(X++s.data.toList).length=X.length+s.size:=by rw[aL,hl]
 rw[hlx]
 refine(aI (st':=⟨[.c (.ptr 0 0)],[.pin 1 b,.cells 65 [.sl 2 1 0 (X.length+s.size)],.row 5 1 (X.length+s.size) (fun e o=>bQ [0,1,2] (bQ [0,1,3] (fI X.length (aO bI X) (fun e x=>C.p (PV.i bF (↑(s.data.toList.getD e 0).toNat:Int))) e o)))]⟩) (by kernel_rfl)).trans ?_
 refine KO ⟨rfl,rfl,⟨rfl,rfl,rfl,fun e o he ho=>?_⟩,trivial⟩;exact congrArg (fun c=>bQ [0,1,2] (bQ [0,1,3] c)) (aUK X s.data.toList e o)
def aE2(B:List UInt8)(m:Int):kD:=fun args h=>match args with
 |[.c (.ptr j 0),.c (.p (.i .i64 n))]=>match aAN B (oG h j) h with
  |some (q,r)=>some (q∧n=m∧eW .i64 m∧(B++bR m).length≤140737488355328,.t [],iT [oG h j,r] [oG h j] [1] h (KN (B++bR m) 0))
  |none=>none
 |_=>none
def TN(B:List UInt8)(m:ByteArray):kD:=fun args h=>match args with
 |[.c (.ptr j 0),.c (.p (.s n))]=>match aAN B (oG h j) h with
  |some (q,r)=>some (q∧n=m∧m.size≤140737488355328∧(B++dI m).length≤140737488355328,.t [],iT [oG h j,r] [oG h j] [1] h (KN (B++dI m) 0))
  |none=>none
 |_=>none
set_option maxRecDepth 100000 in
theorem aNC(B:List UInt8)(m:Int):gG aB G 34 (aE2 B m):=by
 intro args h p v h' hm hp;unfold aE2 at hm
 split at hm;rotate_left;· cases hm
 split at hm;rotate_left;· cases hm
 rename_i j n _ q r hw;obtain⟨rfl,rfl,rfl⟩:=mJ hm;obtain⟨hq,rfl,hr,hB⟩:=hp;obtain⟨g,k1,k2,k3⟩:=DC hw hq
 exact pZ (VU (args:=[iV n]) (vs:=[]) Try.func34 (by kernel_rfl) k1 k2 k3 rfl fun b=>YT B n hr hB b)
set_option maxRecDepth 100000 in
theorem aI6(B:List UInt8)(m:ByteArray):gG aB G 35 (TN B m):=by
 intro args h p v h' hm hp;unfold TN at hm
 split at hm;rotate_left;· cases hm
 split at hm;rotate_left;· cases hm
 rename_i j n _ q r hw;obtain⟨rfl,rfl,rfl⟩:=mJ hm;obtain⟨hq,rfl,hr,hB⟩:=hp;obtain⟨g,k1,k2,k3⟩:=DC hw hq
 exact pZ (VU (args:=[.c (.p (.s n))]) (vs:=[]) Try.func35 (by kernel_rfl) k1 k2 k3 rfl fun b=>ZB B n hr hB b)
theorem KP{P:Program}{f:FuncId}{fn:Func}(hf:P.funcs[f]?=some fn)(hok:TF P fn=true){args vs:List V}{v:V}{h hE:List AO}(hv:OE (yN [] [] h.length vs)=v)
  (H:eP P G (Zm [] (bK P fn) fun s=>cW G s ⟨[]++vs,hE⟩) (dC P fn) (jR fn [] [] [] args h) fun e s=>e=.normal∧Zm [] (bK P fn) (fun s=>cW G s ⟨[]++vs,hE⟩) s) :
  jW P G f args h fun x h'=>x=v∧h'=iT [] [] [] h hE:=by
 refine fun β R w us ha hh=>(tR (ρ:=[]) (ids:=[]) (ps:=[]) (pns:=[]) (js:=[]) (sl:=[]) (vs:=vs) (hE:=fun bs=>hE) hf hok rfl rfl (by simp) (by simp) rfl rfl rfl (fun i pn h=>by simp at h) (fun bs hb i pn j b h1 h2 h3=>by simp at h1) (fun bs hb=>?_) β R w us ha hh).mono ?_
 ·obtain rfl:bs=[]:=by simpa using hb
  exact H
 ·rintro e w' ⟨u,β',R',x,h',rfl,⟨bs,hb,hx,hh'⟩,hr⟩
  exact⟨u,β',R',x,h',rfl,⟨hx.trans hv,hh'⟩,hr⟩
set_option maxRecDepth 100000 in
theorem aQK(L:List UInt8):gG aB G 71 (aNY L):=by
 intro args h p v h' hm hp;unfold aNY at hm
 split at hm;rotate_left;· cases hm
 split at hm;rotate_left;· cases hm
 rename_i x _ q hx;obtain⟨rfl,rfl,rfl⟩:=mJ hm;obtain⟨hq,hL⟩:=hp
 refine jW.args (args':=[aU bI 1 L]) (KP (vs:=[.c (.sl 0 1 0 L.length)]) (hE:=[.row 5 1 L.length (aO bI L)]) Try.func71 (by kernel_rfl) (by rw[eL];rfl) ?_) (.cons (FH hx hq) .nil)
 refine eP.evH aY (aTE h L) ?_;simp only[oR,cD,bA,aP,kA,cK]
 have one:∀(e o:Nat),iQ (C.p (aE bI L e o))=true:=fun e o=>rfl
 have big:L.length*1≤140737488355328∧L.length≤140737488355328∧∀(e o:Nat),e<L.length→o<1→iQ (C.p (aE bI L e o))=true:=⟨by omega,by omega,fun e o _ _=>one e o⟩
 have key:cW G (St.mk [V.c (C.sl 0 1 0 L.length)] [AO.row 5 1 L.length fun e o=>bQ [1] (fI 0 (fun e o=>bC C.top [] (e*1+o)) (fun e o=>C.p (aE bI L e o)) e o)]) ⟨[]++[.c (.sl 0 1 0 L.length)],[.row 5 1 L.length (aO bI L)]⟩:=aI (by kernel_rfl)
 refine⟨fun _=>⟨trivial,big,⟨key⟩⟩,fun h=>⟨⟨?_⟩,trivial,big,⟨key⟩⟩⟩
 have h0:L.length=0:=by have:=of_decide_eq_false h;omega
 obtain rfl:=gK h0
 exact(mM 5 1 (aO bI []) 0 (by rfl)).trans (aI (by kernel_rfl))
theorem QZ(L:List UInt8):bG aB G (aLU L):=TL (aQK L) aY
end
theorem aRP(b:Nat)(B:List UInt8):dF (aLU B) (dL 2 (dC aB Try.f39)) (jR Try.f39 [0,1] [0] [b] [.c (.ptr 0 0)] (wrH B)) (gP [0] (fJ 8 [0,2]) (bK aB Try.f39))=Tr.rq (0+B.length≤B.length∧∀(e o:Nat),e<B.length→o<1→BZ (bQ [0,1] (aO bI B e o))=true)
 (.rq
 (((B.length=B.length∧∀(e o:Nat),e<B.length→o<1→mZ (bQ [0,1] (aO bI B (e+0) o))=aE bI B e o)∧B.length≤140737488355328) ∧
 B.length=B.length∧∀(e o:Nat),e<B.length→o<1→scC (wL [] [] 0 (aO bI B e o))=true)
 (.done .normal
 (bY 8 [(0,.c (.ptr 0 0)),(2,.c (.sl 1 1 0 B.length))] [.pin 2 b,.row 5 1 B.length fun e o=>bQ [2,3,0,1] (C.p (PV.i bF (↑(B.getD e default).toNat:Int))),.cells 65 [.sl 3 1 0 B.length],.row 5 1 B.length fun e o=>bQ [2,3,0,1] (bQ [0,1] (aO bI B e o))]))):=by kernel_rfl
theorem aP5(b:Nat)(B:List UInt8):dF fH (bL 2 (dC aB Try.f39)) (bY 8 [(0,.c (.ptr 0 0)),(2,aU bI 1 B)] [.pin 1 b,.cells 65 [.sl 2 1 0 B.length],.row 5 1 B.length (aO bI B)]) (gP [0] (fJ 8 [0,2]) (bK aB Try.f39))=Tr.done X.ret (bY 2 [(0,.c (.ptr 0 0)),(1,.c (.p (.l 1 B.length (aE bI B))))] [.pin 1 b,.cells 65 [.sl 2 1 0 B.length],.row 5 1 B.length fun e o=>bQ [0,1,2] (aO bI B e o)]):=by kernel_rfl
def LI(B:List UInt8):kD:=fun args h=>match args with
 |[.c (.ptr j 0)]=>match aAN B (oG h j) h with
  |some (q,r)=>some (q∧B.length≤140737488355328,aU bI 1 B,iT [oG h j,r] [oG h j] [1] h (KN B 0))
  |none=>none
 |_=>none
def lZ(B:List UInt8)(s:Rs):AO:=.cells 123 [.p (bO bI 1 B),.p (.i .i64 s.at_),.p (.i .i64 s.er)]
def u8V(n:Nat):V:=.c (.p (.i .u8 n))
theorem tO(B:List UInt8)(a:Nat)(e:Int)(b:Nat):dF fH (dC aB Try.f106) (jR Try.f106 [0] [0] [b] [.c (.ptr 0 0)] [lZ B ⟨a,e⟩]) (gP [0] [] (bK aB Try.f106))=bT ((Rs.mk a e).er != 0)
 (.done .ret
 (bY 2 [(0,.c (.ptr 0 0)),(1,.c (.p (.i bF 0)))] [.pin 1 b,.cells 123 [.p (.l 1 B.length (aE bI B)),.p (.i .i64 (↑(Rs.mk a e).at_:Int)),.p (.i .i64 (Rs.mk a e).er)]]))
 (bT (decide ((↑B.length:Int)≤(↑(Rs.mk a e).at_:Int)))
 (.done .ret
 (bY 2 [(0,.c (.ptr 0 0)),(1,.c (.p (.i bF 0)))] [.pin 1 b,.cells 123 [.p (.l 1 B.length (aE bI B)),.p (.i .i64 (↑(Rs.mk a e).at_:Int)),.p (.i .i64 3)]]))
 (.rq (eW aC ((↑(Rs.mk a e).at_:Int)+1))
 (.rq (eW aC ((↑(Rs.mk a e).at_:Int)+1-1))
 (.rq (0≤(↑(Rs.mk a e).at_:Int)+1-1∧(↑(Rs.mk a e).at_:Int)+1-1<(↑B.length:Int))
 (.done .ret
 (bY 2 [(0,.c (.ptr 0 0)),(1,.c (.p (.i bF (↑(B.getD ((↑(Rs.mk a e).at_:Int)+1-1).toNat default).toNat:Int))))] [.pin 1 b,.cells 123 [.p (.l 1 B.length (aE bI B)),.p (.i .i64 ((↑(Rs.mk a e).at_:Int)+1)),.p (.i .i64 (Rs.mk a e).er)]])))))):=by kernel_rfl
section
variable {G:Nat→Option Obj}
set_option maxRecDepth 100000 in
theorem aAZ(B:List UInt8)(hB:B.length≤140737488355328)(b:Nat)(Q:X→St→Prop):eP aB G (Zm [0] (bK aB Try.f39) fun s=>cW G s ⟨[.c (.ptr 0 0)]++[aU bI 1 B],KN B b⟩) (dC aB Try.f39) (jR Try.f39 [0,1] [0] [b] [.c (.ptr 0 0)] (wrH B)) Q:=by
 refine eP.evG (QZ B) 2 (aRP b B) ?_;simp only[bA,aP,cI,cK];refine⟨⟨aW _,fun _ _ _ _=>rfl⟩,⟨⟨⟨trivial,fun _ _ _ _=>rfl⟩,hB⟩,trivial,fun _ _ _ _=>rfl⟩,⟨?_⟩⟩
 refine eP.pre ((pD (j:=2) (id:=1) (ty:=5) (sz:=1) (n:=B.length) (off:=0) (len:=B.length) (f:=aO bI B) (by kernel_rfl) (by kernel_rfl) (by omega) (fun _ _ _ _=>rfl)).trans ((gB (fJ 8 [0,2]) _).trans (aI (st':=bY 8 [(0,.c (.ptr 0 0)),(2,aU bI 1 B)] [.pin 1 b,.cells 65 [.sl 2 1 0 B.length],.row 5 1 B.length (aO bI B)]) (by kernel_rfl)))) ?_
 refine eP.evH aY (aP5 b B) ?_;simp only[aP,kA]
 exact⟨aI (by kernel_rfl)⟩
set_option maxRecDepth 100000 in
theorem WK(B:List UInt8):gG aB G 39 (LI B):=by
 intro args h p v h' hm hp;unfold LI at hm
 split at hm;rotate_left;· cases hm
 split at hm;rotate_left;· cases hm
 rename_i j _ q r hw;obtain⟨rfl,rfl,rfl⟩:=mJ hm;obtain⟨hq,hB⟩:=hp;obtain⟨g,k1,k2,k3⟩:=DC hw hq
 exact pZ (VU (args:=[]) (vs:=[aU bI 1 B]) Try.func39 (by kernel_rfl) k1 k2 k3 rfl fun b=>aAZ B hB b _)
def CY(B:List UInt8)(s:Rs)(b:Nat):List AO:=[.pin 1 b,lZ B s]
set_option maxRecDepth 100000 in
theorem BN{f:FuncId}{fn:Func}(hf:(aB).funcs[f]?=some fn)(hok:TF aB fn=true){args args0 vs:List V}{B:List UInt8}{s s':Rs}{h:List AO}{j:Nat}(hj:bC .gone h j=lZ B s)
  (hargs:oQ [j] [j] 1 args=oQ [0] [0] 1 args0)
  (H:∀b,eP aB G (Zm [0] (bK aB fn) fun st=>cW G st ⟨[.c (.ptr 0 0)]++vs,CY B s' b⟩) (dC aB fn) (jR fn [0] [0] [b] (.c (.ptr 0 0)::args0) [lZ B s]) fun e st=>e=.normal∧Zm [0] (bK aB fn) (fun st=>cW G st ⟨[.c (.ptr 0 0)]++vs,CY B s' b⟩) st):jW aB G f (.c (.ptr j 0)::args) h fun x h'=>x=OE (yN [1] [j] h.length vs)∧h'=iT [j] [j] [1] h (CY B s' 0):=by
 refine fun β R w us hw hh=>(tR (ρ:=[j]) (ids:=[j]) (ps:=[0]) (pns:=[0]) (js:=[1]) (sl:=[.c (.ptr 0 0)]) (vs:=vs) (hE:=fun bs=>CY B s' (bC 0 bs 0)) hf hok ?_ ?_ (by simp) (by simp) rfl rfl rfl (fun i pn h=>?_) (fun bs hb i pn j b h1 h2 h3=>?_) (fun bs hb=>?_) β R w us hw hh).mono ?_
 ·simp[qI,pF]
 ·simp[tD,hj,AO.live,lZ]
 ·cases i with
  |zero=>obtain rfl:0=pn:=by simpa using h
         exact⟨0,by simp⟩
  |succ i=>simp at h
 ·cases i with
  |zero=>
   obtain rfl:0=pn:=by simpa using h1
   obtain rfl:1=j:=by simpa using h2
   cases bs with
   |nil=>simp at hb
   |cons b0 bs=>
    obtain rfl:b0=b:=by simpa using h3
    exact⟨rfl,rfl⟩
  |succ i=>simp at h1
 ·obtain⟨bb,rfl⟩:∃b,bs=[b]:=by
    cases bs with
    |nil=>simp at hb
    |cons b0 bs=>cases bs with
     |nil=>exact⟨b0,rfl⟩
     |cons _ _=>simp at hb
  have i5:jM j [j] 0=some 0:=by simp only[jM,HY]
  have e:jR fn [j] [j] [bb] (.c (.ptr j 0)::args) h=jR fn [0] [0] [bb] (.c (.ptr 0 0)::args0) [lZ B s]:=by
   unfold jR inH
   have e1:oQ [j] [j] ([j]:List Nat).length (.c (.ptr j 0)::args)=oQ [0] [0] ([0]:List Nat).length (.c (.ptr 0 0)::args0):=by
    show CQ [j] [j] 1 (.c (.ptr j 0))::oQ [j] [j] 1 args=CQ [0] [0] 1 (.c (.ptr 0 0))::oQ [0] [0] 1 args0
    rw[hargs];congr 1;simp only[CQ,inC,i5];rfl
   have e2:mO [j] h [j]=mO [0] [lZ B s] [0]:=by
    simp only[mO,hj];rfl
   have e3:vB [j] [j] [bb]=vB [0] [0] [bb]:=by
    simp only[vB,i5];rfl
   have e4:args.length=args0.length:=by
    have e5:∀(ρ ids:List Nat) (n:Nat) (l:List V),(oQ ρ ids n l).length=l.length:=fun ρ ids n l=>CA l
    have:=congrArg List.length hargs
    rwa [e5,e5]at this
   rw[e1,e2,e3,eF,eF,e4];rfl
  rw[e];exact H bb
 ·rintro e w' ⟨u,β',R',x,h',rfl,⟨bs,hb,hx,hh'⟩,hr⟩
  exact⟨u,β',R',x,h',rfl,⟨hx,hh'.trans (aK9 _ _ _ rfl rfl rfl rfl)⟩,hr⟩
def HG(B:List UInt8)(j:Nat)(h:List AO):Option (Prop×Int×Int):=match bC .gone h j with
 |.cells 123 [x,.p (.i .i64 a),.p (.i .i64 e)]=>some (x=.p (bO bI 1 B)∧0≤a∧a≤B.length∧B.length≤140737488355328,a,e)
 |_=>none
theorem rH{B:List UInt8}{j:Nat}{h:List AO}{q:Prop}{a e:Int}(he:HG B j h=some (q,a,e))(hq:q):bC .gone h j=lZ B ⟨a.toNat,e⟩∧(⟨a.toNat,e⟩:Rs).at_≤B.length∧B.length≤140737488355328:=by
 unfold HG at he
 split at he;rotate_left;· cases he
 rename_i x a0 e0 hj;injection he with he;injection he with e1 he;injection he with e2 e3;subst e1;subst e2;subst e3;obtain⟨rfl,h1,h2,h3⟩:=hq;refine⟨?_,by show a0.toNat≤_;omega,h3⟩;rw[hj];unfold lZ;rw[Int.toNat_of_nonneg h1]
set_option maxRecDepth 100000 in
theorem aDU(B:List UInt8)(s:Rs)(hs:s.at_≤B.length)(hB:B.length≤140737488355328)(b:Nat)(Q:X→St→Prop):eP aB G (Zm [0] (bK aB Try.f106) fun st=>cW G st ⟨[.c (.ptr 0 0)]++[u8V (ET B s).1],CY B (ET B s).2 b⟩) (dC aB Try.f106) (jR Try.f106 [0] [0] [b] [.c (.ptr 0 0)] [lZ B s]) Q:=by
 obtain⟨a,e⟩:=s;refine eP.evH aY (tO B a e b) ?_;simp only[cD,bA,aP,kA,decide_eq_true_eq,decide_eq_false_iff_not,eW]
 have hs:a≤B.length:=hs
 unfold ET;dsimp only;refine⟨fun h=>?_,fun h=>⟨fun h1=>?_,fun h1=>⟨by omega,by omega,⟨by omega,by omega⟩,?_⟩⟩⟩
 ·rw[if_pos (by simpa using h)]
  exact⟨aI (by kernel_rfl)⟩
 ·rw[if_neg (by simpa using h),if_pos (by omega)]
  exact⟨aI (by kernel_rfl)⟩
 ·have h0:e=0:=by simpa using h
  subst h0;rw[if_neg (by simp),if_neg (by omega),show ((a:Int)+1-1).toNat=a by omega]
  exact⟨aI (by kernel_rfl)⟩
def aNV(B:List UInt8)(c:Nat)(s':Rs):kD:=fun args h=>match args with
 |[.c (.ptr j 0)]=>match HG B (oG h j) h with
  |some (q,a,e)=>some (q∧ET B ⟨a.toNat,e⟩=(c,s'),u8V c,iT [oG h j] [oG h j] [1] h (CY B s' 0))
  |none=>none
 |_=>none
set_option maxRecDepth 100000 in
theorem aQG(B:List UInt8)(c:Nat)(s':Rs):gG aB G 106 (aNV B c s'):=by
 intro args h p v h' hm hp;unfold aNV at hm
 split at hm;rotate_left;· cases hm
 split at hm;rotate_left;· cases hm
 rename_i j _ q a e hw;obtain⟨rfl,rfl,rfl⟩:=mJ hm;obtain⟨hq,hr⟩:=hp;obtain⟨k1,k2,k3⟩:=rH hw hq
 have hm:=fun b=>aDU (G:=G) B _ k2 k3 b
 rw[hr]at hm
 exact pZ (BN (args:=[]) (args0:=[]) (vs:=[u8V c]) Try.func106 (by kernel_rfl) k1 rfl fun b=>hm b _)
def QB(B:List UInt8)(c:Nat)(s':Rs):Ext:=mH [(106,aNV B c s')]
theorem vG(B:List UInt8)(c:Nat)(s':Rs):bG aB G (QB B c s'):=eM (by simp;exact aQG B c s')
end
theorem aSA(B:List UInt8)(a:Nat)(e:Int)(b:Nat):dF fH (dL 3 (dC aB Try.f87)) (jR Try.f87 [0] [0] [b] [.c (.ptr 0 0)] [lZ B ⟨a,e⟩]) (gP [0] (fJ 44 [0,3,4]) (bK aB Try.f87))=Tr.done X.normal
 (bY 44 [(0,.c (.ptr 0 0)),(3,.c (.p (.i aR 0))),(4,.c (.p (.i .i64 0)))] [.pin 1 b,.cells 123 [.p (.l 1 B.length (aE bI B)),.p (.i .i64 (↑(Rs.mk a e).at_:Int)),.p (.i .i64 (Rs.mk a e).er)]]):=by kernel_rfl
theorem aS9(B:List UInt8)(c a':Nat)(e':Int)(a:Nat)(e n i:Int)(b:Nat):dF (QB B c ⟨a',e'⟩) (gQ (dC aB Try.f87) 3) (bY 44 [(0,.c (.ptr 0 0)),(3,.c (.p (.i .u64 n))),(4,iV i)] [.pin 1 b,lZ B ⟨a,e⟩]) (gP [0] (fJ 44 [0,3,4]) (bK aB Try.f87))=Tr.rq
 ((C.p (PV.l 1 B.length (aE bI B))=C.p (PV.l 1 B.length (aE bI B))∧0≤(↑(Rs.mk a e).at_:Int)∧(↑(Rs.mk a e).at_:Int)≤(↑B.length:Int)∧B.length≤140737488355328) ∧
 ET B (Rs.mk (↑(Rs.mk a e).at_:Int).toNat (Rs.mk a e).er)=(c,Rs.mk a' e'))
 (bT ((Rs.mk a' e').er != 0)
 (.done .ret
 (bY 2 [(0,.c (.ptr 0 0)),(1,.c (.p (.i aR 0)))] [.pin 1 b,.cells 123 [.p (.l 1 B.length (aE bI B)),.p (.i .i64 (↑(Rs.mk a' e').at_:Int)),.p (.i .i64 (Rs.mk a' e').er)]]))
 (bT (i==9)
 (bT (decide (1<(↑c:Int)))
 (.done .ret
 (bY 2 [(0,.c (.ptr 0 0)),(1,.c (.p (.i aR 0)))] [.pin 1 b,.cells 123 [.p (.l 1 B.length (aE bI B)),.p (.i .i64 (↑(Rs.mk a' e').at_:Int)),.p (.i .i64 2)]]))
 (bT (decide (0<i))
 (bT ((↑c:Int)==0)
 (.done .ret
 (bY 2 [(0,.c (.ptr 0 0)),(1,.c (.p (.i aR 0)))] [.pin 1 b,.cells 123 [.p (.l 1 B.length (aE bI B)),.p (.i .i64 (↑(Rs.mk a' e').at_:Int)),.p (.i .i64 2)]]))
 (.rq (0≤aR.wrap (7*aR.wrap i))
 (bT (decide ((↑c:Int)<128))
 (.done .ret
 (bY 2 [(0,.c (.ptr 0 0)),(1,.c (.p (.i aR (aR.wrap (↑(aZ aR.bits n ||| aZ aR.bits (aR.wrap (aR.wrap (bF.wrap (↑(aZ bF.bits (↑c:Int) &&& aZ bF.bits 127).toNat:Int))*2^min (aR.wrap (7*aR.wrap i)).toNat aR.bits))).toNat:Int)))))] [.pin 1 b,.cells 123 [.p (.l 1 B.length (aE bI B)),.p (.i .i64 (↑(Rs.mk a' e').at_:Int)),.p (.i .i64 (Rs.mk a' e').er)]]))
 (.rq (eW aC (i+1))
 (.done .normal
 (bY 44 [(0,.c (.ptr 0 0)),(3,.c (.p (.i aR (aR.wrap (↑(aZ aR.bits n ||| aZ aR.bits (aR.wrap (aR.wrap (bF.wrap (↑(aZ bF.bits (↑c:Int) &&& aZ bF.bits 127).toNat:Int))*2^min (aR.wrap (7*aR.wrap i)).toNat aR.bits))).toNat:Int))))),(4,.c (.p (.i .i64 (i+1))))] [.pin 1 b,.cells 123 [.p (.l 1 B.length (aE bI B)),.p (.i .i64 (↑(Rs.mk a' e').at_:Int)),.p (.i .i64 (Rs.mk a' e').er)]]))))))
 (.rq (0≤aR.wrap (7*aR.wrap i))
 (bT (decide ((↑c:Int)<128))
 (.done .ret
 (bY 2 [(0,.c (.ptr 0 0)),(1,.c (.p (.i aR (aR.wrap (↑(aZ aR.bits n ||| aZ aR.bits (aR.wrap (aR.wrap (bF.wrap (↑(aZ bF.bits (↑c:Int) &&& aZ bF.bits 127).toNat:Int))*2^min (aR.wrap (7*aR.wrap i)).toNat aR.bits))).toNat:Int)))))] [.pin 1 b,.cells 123 [.p (.l 1 B.length (aE bI B)),.p (.i .i64 (↑(Rs.mk a' e').at_:Int)),.p (.i .i64 (Rs.mk a' e').er)]]))
 (.rq (eW aC (i+1))
 (.done .normal
 (bY 44 [(0,.c (.ptr 0 0)),(3,.c (.p (.i aR (aR.wrap (↑(aZ aR.bits n ||| aZ aR.bits (aR.wrap (aR.wrap (bF.wrap (↑(aZ bF.bits (↑c:Int) &&& aZ bF.bits 127).toNat:Int))*2^min (aR.wrap (7*aR.wrap i)).toNat aR.bits))).toNat:Int))))),(4,.c (.p (.i .i64 (i+1))))] [.pin 1 b,.cells 123 [.p (.l 1 B.length (aE bI B)),.p (.i .i64 (↑(Rs.mk a' e').at_:Int)),.p (.i .i64 (Rs.mk a' e').er)]])))))))
 (bT (decide (0<i))
 (bT ((↑c:Int)==0)
 (.done .ret
 (bY 2 [(0,.c (.ptr 0 0)),(1,.c (.p (.i aR 0)))] [.pin 1 b,.cells 123 [.p (.l 1 B.length (aE bI B)),.p (.i .i64 (↑(Rs.mk a' e').at_:Int)),.p (.i .i64 2)]]))
 (.rq (0≤aR.wrap (7*aR.wrap i))
 (bT (decide ((↑c:Int)<128))
 (.done .ret
 (bY 2 [(0,.c (.ptr 0 0)),(1,.c (.p (.i aR (aR.wrap (↑(aZ aR.bits n ||| aZ aR.bits (aR.wrap (aR.wrap (bF.wrap (↑(aZ bF.bits (↑c:Int) &&& aZ bF.bits 127).toNat:Int))*2^min (aR.wrap (7*aR.wrap i)).toNat aR.bits))).toNat:Int)))))] [.pin 1 b,.cells 123 [.p (.l 1 B.length (aE bI B)),.p (.i .i64 (↑(Rs.mk a' e').at_:Int)),.p (.i .i64 (Rs.mk a' e').er)]]))
 (.rq (eW aC (i+1))
 (.done .normal
 (bY 44 [(0,.c (.ptr 0 0)),(3,.c (.p (.i aR (aR.wrap (↑(aZ aR.bits n ||| aZ aR.bits (aR.wrap (aR.wrap (bF.wrap (↑(aZ bF.bits (↑c:Int) &&& aZ bF.bits 127).toNat:Int))*2^min (aR.wrap (7*aR.wrap i)).toNat aR.bits))).toNat:Int))))),(4,.c (.p (.i .i64 (i+1))))] [.pin 1 b,.cells 123 [.p (.l 1 B.length (aE bI B)),.p (.i .i64 (↑(Rs.mk a' e').at_:Int)),.p (.i .i64 (Rs.mk a' e').er)]]))))))
 (.rq (0≤aR.wrap (7*aR.wrap i))
 (bT (decide ((↑c:Int)<128))
 (.done .ret
 (bY 2 [(0,.c (.ptr 0 0)),(1,.c (.p (.i aR (aR.wrap (↑(aZ aR.bits n ||| aZ aR.bits (aR.wrap (aR.wrap (bF.wrap (↑(aZ bF.bits (↑c:Int) &&& aZ bF.bits 127).toNat:Int))*2^min (aR.wrap (7*aR.wrap i)).toNat aR.bits))).toNat:Int)))))] [.pin 1 b,.cells 123 [.p (.l 1 B.length (aE bI B)),.p (.i .i64 (↑(Rs.mk a' e').at_:Int)),.p (.i .i64 (Rs.mk a' e').er)]]))
 (.rq (eW aC (i+1))
 (.done .normal
 (bY 44 [(0,.c (.ptr 0 0)),(3,.c (.p (.i aR (aR.wrap (↑(aZ aR.bits n ||| aZ aR.bits (aR.wrap (aR.wrap (bF.wrap (↑(aZ bF.bits (↑c:Int) &&& aZ bF.bits 127).toNat:Int))*2^min (aR.wrap (7*aR.wrap i)).toNat aR.bits))).toNat:Int))))),(4,.c (.p (.i .i64 (i+1))))] [.pin 1 b,.cells 123 [.p (.l 1 B.length (aE bI B)),.p (.i .i64 (↑(Rs.mk a' e').at_:Int)),.p (.i .i64 (Rs.mk a' e').er)]])))))))):=by kernel_rfl
section
variable {G:Nat→Option Obj}
set_option maxRecDepth 100000 in
theorem SQ(B:List UInt8)(s0:Rs)(hs:s0.at_≤B.length)(hB:B.length≤140737488355328)(b:Nat)(Q:X→St→Prop):eP aB G (Zm [0] (bK aB Try.f87) fun st=>cW G st ⟨[.c (.ptr 0 0)]++[uN (kE B s0).1],CY B (kE B s0).2 b⟩) (dC aB Try.f87) (jR Try.f87 [0] [0] [b] [.c (.ptr 0 0)] [lZ B s0]) Q:=by
 obtain⟨T,hT⟩:∃T,kE B s0=T:=⟨_,rfl⟩
 rw[hT]
 have hI0:(s0.er≠0∧T=(0,s0))∨(s0.er=0∧T=mN B 10 0 s0.at_ 0):=by
  subst hT;unfold kE
  by_cases h:s0.er≠0
  ·rw[if_pos h];exact .inl ⟨h,rfl⟩
  ·rw[if_neg h];exact .inr ⟨Decidable.not_not.1 h,rfl⟩
 clear hT;obtain⟨a0,e0⟩:=s0;refine eP.evG aY 3 (aSA B a0 e0 b) ?_;simp only[aP,cI];refine⟨?_⟩
 refine eP.loop' (l:=bL 3 (dC aB Try.f87)) (id:=0) (b:=inr (inr (bC .skip (dC aB Try.f87) 3))) (r:=bL 4 (dC aB Try.f87)) (by kernel_rfl) (σ:=Nat×Nat×Int×Nat)
   (fun s=>(fun a e n i=>bY 44 [(0,.c (.ptr 0 0)),(3,.c (.p (.i .u64 n))),(4,iV i)] [.pin 1 b,lZ B ⟨a,e⟩]) s.2.1 s.2.2.1 ((s.2.2.2:Nat):Int) ((s.1:Nat):Int)) (fun s=>s.2.1≤B.length∧((s.2.2.1≠0∧T=(0,⟨s.2.1,s.2.2.1⟩))∨(s.2.2.1=0∧s.1≤9∧s.2.2.2<128^s.1∧T=mN B (10-s.1) s.1 s.2.1 s.2.2.2))) (fun s=>10-s.1) (0,a0,e0,0) ⟨hs,?_⟩ (aI (by kernel_rfl)) ?_
 ·rcases hI0 with⟨h1,h2⟩|⟨h1,h2⟩
  ·exact .inl ⟨h1,h2⟩
  ·exact .inr ⟨h1,bX _,Nat.zero_lt_one,h2⟩
 clear hI0 hs;rintro⟨i,a,e,n⟩ ⟨ha,hI⟩ Q1 q1n q1e _;dsimp only at ha hI q1n ⊢
 obtain⟨c,a',e',hoc⟩:∃c a' e',ET B ⟨a,e⟩=(c,⟨a',e'⟩):=⟨_,_,_,rfl⟩
 refine eP.evH (vG B c ⟨a',e'⟩) (aS9 B c a' e' a e n i b) ?_;simp only[cD,bA,aP,cI,kA,decide_eq_true_eq,decide_eq_false_iff_not,dW,beq_iff_eq,beq_eq_false_iff_ne,ne_eq,bne_iff_ne,bne_eq_false_iff_eq];refine⟨⟨⟨trivial,by omega,by omega,hB⟩,hoc⟩,?_⟩
 have ret:∀(v:Nat) (a2:Nat) (e2:Int),T=(v,⟨a2,e2⟩)→cW G (bY 2 [(0,.c (.ptr 0 0)),(1,.c (.p (.i .u64 (v:Int))))] [.pin 1 b,lZ B ⟨a2,e2⟩]) ⟨[.c (.ptr 0 0)]++[uN T.1],CY B T.2 b⟩:=fun v a2 e2 h=>by
  rw[h];exact aI rfl
 rcases hI with⟨h1,h2⟩|⟨h1,hi,hn,h2⟩
 ·unfold ET at hoc
  rw[if_pos (by simpa using h1)]at hoc;injection hoc with q1 q2;injection q2 with q2 q3;subst q1;subst q2;subst q3;exact⟨fun _=>⟨ret 0 a e h2⟩,fun h=>absurd h h1⟩
 subst h1;unfold ET at hoc;rw[if_neg (by simp)]at hoc;dsimp only at hoc
 obtain⟨f,hf⟩:∃f,10-i=f+1:=⟨9-i,by omega⟩
 rw[hf]at h2;unfold mN at h2
 by_cases hl:B.length≤a
 ·rw[if_pos hl]at hoc h2
  injection hoc with q1 q2;injection q2 with q2 q3;subst q1;subst q2;subst q3;exact⟨fun _=>⟨ret 0 a 3 h2⟩,fun h=>absurd h (by decide)⟩
 rw[if_neg hl]at hoc h2;injection hoc with q1 q2;injection q2 with q2 q3
 have hc:=RJ B a
 rw[q1]at hc h2;subst q2;subst q3;refine⟨fun h=>absurd rfl h,fun _=>?_⟩
 by_cases he:(i=9∧1<c)∨(0<i∧c=0)
 ·rw[if_pos he]at h2
  have bad:∀p:Prop,(i=9→¬1<c)→(0<i→¬c=0)→p:=fun p k1 k2=>(he.elim (fun h=>absurd h.2 (k1 h.1)) (fun h=>absurd h.2 (k2 h.1)))
  refine⟨fun k1=>⟨fun _=>⟨ret 0 (a+1) 2 h2⟩,fun k2=>⟨fun k3=>⟨fun _=>⟨ret 0 (a+1) 2 h2⟩,fun k4=>bad _ (fun _=>by omega) (fun _=>by omega)⟩,fun k3=>bad _ (fun _=>by omega) (fun _=>by omega)⟩⟩,fun k1=>⟨fun k3=>⟨fun _=>⟨ret 0 (a+1) 2 h2⟩,fun k4=>bad _ (fun _=>by omega) (fun _=>by omega)⟩,fun k3=>bad _ (fun _=>by omega) (fun _=>by omega)⟩⟩
 rw[if_neg he]at h2
 have h9:i=9→c≤1:=fun h=>by
  have:¬1<c:=fun h'=>he (.inl ⟨h,h'⟩)
  omega
 have hacc:=aG7 hi hn hc h9
 rw[hacc]
 have hw:0≤aR.wrap (7*aR.wrap (i:Int)):=by rw[VX];omega
 have last:0≤aR.wrap (7*aR.wrap (i:Int))∧((c:Int)<128→aOU (cW G (bY 2 [(0,.c (.ptr 0 0)),(1,.c (.p (.i .u64 ((n+c%128*128^i:Nat):Int))))] [.pin 1 b,lZ B ⟨a+1,0⟩]) ⟨[.c (.ptr 0 0)]++[uN T.1],CY B T.2 b⟩))∧(¬(c:Int)<128→eW .i64 ((i:Int)+1)∧aOU (Q1 .normal (bY 44 [(0,.c (.ptr 0 0)),(3,.c (.p (.i .u64 ((n+c%128*128^i:Nat):Int)))),(4,.c (.p (.i .i64 ((i:Int)+1))))] [.pin 1 b,lZ B ⟨a+1,0⟩]))):=by
  refine⟨hw,fun k=>?_,fun k=>⟨by simp only[eW];omega,⟨q1n (i+1,a+1,0,n+c%128*128^i) _ ?_ ?_ (aI (by kernel_rfl))⟩⟩⟩
  ·rw[if_pos (by omega)]at h2
   exact⟨ret _ _ _ h2⟩
  ·rw[if_neg (by omega)]at h2
   have hi8:i≤8:=by
    rcases Nat.lt_or_ge 8 i with h|h
    ·have:=h9 (by omega);omega
    ·exact h
   refine⟨by show a+1≤_;omega,.inr ⟨rfl,by show i+1≤9;omega,?_,?_⟩⟩
   ·show n+c%128*128^i<128^(i+1)
    have h3:=bP (128^i) (show c%128≤127 by omega)
    rw[Nat.pow_succ];omega
   ·show T=mN B (10-(i+1)) (i+1) (a+1) _
    rw[show 10-(i+1)=f by omega];exact h2
  ·show 10-(i+1)<10-i;omega
 have bad9:∀p:Prop,(i:Int)=9→1<(c:Int)→p:=fun p k1 k2=>absurd (.inl ⟨by omega,by omega⟩) he
 have bad0:∀p:Prop,0<(i:Int)→(c:Int)=0→p:=fun p k1 k2=>absurd (.inr ⟨by omega,by omega⟩) he
 exact⟨fun k1=>⟨fun k2=>bad9 _ k1 k2,fun k2=>⟨fun k3=>⟨fun k4=>bad0 _ k3 k4,fun _=>last⟩,fun _=>last⟩⟩,fun k1=>⟨fun k3=>⟨fun k4=>bad0 _ k3 k4,fun _=>last⟩,fun _=>last⟩⟩
end
def TS(B:List UInt8)(c:Nat)(s':Rs):kD:=fun args h=>match args with
 |[.c (.ptr j 0)]=>match HG B (oG h j) h with
  |some (q,a,e)=>some (q∧kE B ⟨a.toNat,e⟩=(c,s'),uN c,iT [oG h j] [oG h j] [1] h (CY B s' 0))
  |none=>none
 |_=>none
def XA(B:List UInt8)(F:Rs→Int×Rs):kD:=fun args h=>match args with
 |[.c (.ptr j 0)]=>match HG B (oG h j) h with
  |some (q,a,e)=>some (q∧F=gE B,iV (F ⟨a.toNat,e⟩).1,iT [oG h j] [oG h j] [1] h (CY B (F ⟨a.toNat,e⟩).2 0))
  |none=>none
 |_=>none
def GF(B:List UInt8)(s:Rs):Int:=if s.er≠0 then s.er else if s.at_<B.length then 2 else 0
def aE8(B:List UInt8)(r:Int):kD:=fun args h=>match args with
 |[.c (.ptr j 0)]=>match HG B (oG h j) h with
  |some (q,a,e)=>some (q∧GF B ⟨a.toNat,e⟩=r,iV r,iT [oG h j] [oG h j] [1] h (CY B ⟨a.toNat,e⟩ 0))
  |none=>none
 |_=>none
def aNX(L:List UInt8):Mod
 |[x]=>match leU x L with
  |some p=>some (p∧L.length≤140737488355328,aU bI 1 L)
  |none=>none
 |_=>none
def TU(L:List UInt8):kD
 |[x],h=>match leU x L with
  |some p=>some (p∧L.length≤140737488355328,.c (.ptr (fG h) 0),iT [] [] [] h [lZ L ⟨0,0⟩])
  |none=>none
 |_,_=>none
def aFE(B:List UInt8)(c:Nat)(s':Rs):Ext:=mH [(87,TS B c s')]
def aLT(L:List UInt8):Ext:=kH [(71,aNX L)]
theorem tQI(B:List UInt8)(c a':Nat)(e':Int)(a:Nat)(e:Int)(b:Nat):dF (aFE B c ⟨a',e'⟩) (dC aB Try.f67) (jR Try.f67 [0] [0] [b] [.c (.ptr 0 0)] [lZ B ⟨a,e⟩]) (gP [0] [] (bK aB Try.f67))=Tr.rq
 ((bQ [0] (C.p (PV.l 1 B.length (aE bI B)))=C.p (PV.l 1 B.length (aE bI B))∧0≤(↑(Rs.mk a e).at_:Int)∧(↑(Rs.mk a e).at_:Int)≤(↑B.length:Int)∧B.length≤140737488355328) ∧
 kE B (Rs.mk (↑(Rs.mk a e).at_:Int).toNat (Rs.mk a e).er)=(c,Rs.mk a' e'))
 (.rq (dR 0≤dR 1)
 (.rq (eW aC (-aC.wrap (aR.wrap (↑(aZ 64 (↑c:Int) &&& aZ 64 1).toNat:Int))))
 (.done .ret
 (bY 2 [(0,.c (.ptr 0 0)),(1,.c (.p (.i .i64 (aC.wrap (↑(aZ aC.bits (aC.wrap ((↑c:Int).fdiv (2^min (Int.toNat 1) aR.bits))) ^^^ aZ aC.bits (-aC.wrap (aR.wrap (↑(aZ aR.bits (↑c:Int) &&& aZ aR.bits 1).toNat:Int)))).toNat:Int)))))] [.pin 1 b,.cells 123 [.p (.l 1 B.length (aE bI B)),.p (.i .i64 (↑(Rs.mk a' e').at_:Int)),.p (.i .i64 (Rs.mk a' e').er)]])))):=by kernel_rfl
theorem tQE(B:List UInt8)(a:Nat)(e:Int)(b:Nat):dF fH (dC aB Try.f70) (jR Try.f70 [0] [0] [b] [.c (.ptr 0 0)] [lZ B ⟨a,e⟩]) (gP [0] [] (bK aB Try.f70))=bT ((Rs.mk a e).er != 0)
 (.done .ret
 (bY 2 [(0,.c (.ptr 0 0)),(1,.c (.p (.i .i64 (Rs.mk a e).er)))] [.pin 1 b,.cells 123 [.p (.l 1 B.length (aE bI B)),.p (.i .i64 (↑(Rs.mk a e).at_:Int)),.p (.i .i64 (Rs.mk a e).er)]]))
 (bT (decide ((↑(Rs.mk a e).at_:Int)<(↑B.length:Int)))
 (.done .ret
 (bY 2 [(0,.c (.ptr 0 0)),(1,.c (.p (.i .i64 2)))] [.pin 1 b,.cells 123 [.p (.l 1 B.length (aE bI B)),.p (.i .i64 (↑(Rs.mk a e).at_:Int)),.p (.i .i64 (Rs.mk a e).er)]]))
 (.done .ret
 (bY 2 [(0,.c (.ptr 0 0)),(1,.c (.p (.i .i64 0)))] [.pin 1 b,.cells 123 [.p (.l 1 B.length (aE bI B)),.p (.i .i64 (↑(Rs.mk a e).at_:Int)),.p (.i .i64 (Rs.mk a e).er)]]))):=by kernel_rfl
theorem aTD(L:List UInt8):GC fH (lD aB Try.f71) (oB Try.f71 [aU bI 1 L]) (mC [] [] (bK aB Try.f71))=bT (decide (0<L.length))
 (Tr.rq (0=0)
 (Tr.rq ((0+L.length)*1≤140737488355328∧0+L.length≤140737488355328∧∀(e o:Nat),e<L.length→o<1→iQ (C.p (aE bI L e o))=true)
 (Tr.rq
 (0+(0+L.length)≤0+L.length ∧
 ∀(e o:Nat),e<0+L.length→o<1→BZ (fI 0 (fun e o=>bC C.top [] (e*1+o)) (fun e o=>C.p (PV.i bF (↑(L.getD e default).toNat:Int))) (e+0) o)=true)
 (Tr.done X.ret
 (St.mk [V.c (C.p (PV.l 1 (0+L.length) fun e o=>mZ (fI 0 (fun e o=>bC C.top [] (e*1+o)) (fun e o=>C.p (PV.i bF (↑(L.getD e default).toNat:Int))) (e+0) o)))] [])))))
 ((Tr.done X.ret (St.mk [V.c (C.p (PV.z (bB none 0 0)))] [])).alt
 (Tr.rq (0=0)
 (Tr.rq ((0+L.length)*1≤140737488355328∧0+L.length≤140737488355328∧∀(e o:Nat),e<L.length→o<1→iQ (C.p (aE bI L e o))=true)
 (Tr.rq
 (0+(0+L.length)≤0+L.length ∧
 ∀(e o:Nat),e<0+L.length→o<1→BZ (fI 0 (fun e o=>bC C.top [] (e*1+o)) (fun e o=>C.p (PV.i bF (↑(L.getD e default).toNat:Int))) (e+0) o)=true)
 (Tr.done X.ret
 (St.mk [V.c (C.p (PV.l 1 (0+L.length) fun e o=>mZ (fI 0 (fun e o=>bC C.top [] (e*1+o)) (fun e o=>C.p (PV.i bF (↑(L.getD e default).toNat:Int))) (e+0) o)))] [])))))):=by kernel_rfl
theorem tQR(h:List AO)(L:List UInt8):dF (aLT L) (dC aB Try.f66) (jR Try.f66 [] [] [] [aU bI 1 L] h) (gP [] [] (bK aB Try.f66))=Tr.rq ((L.length=L.length∧∀(e o:Nat),e<L.length→o<1→aE bI L e o=aE bI L e o)∧L.length≤140737488355328)
 (.done .ret (St.mk [V.c (C.ptr 0 0)] [AO.cells 123 [C.p (PV.l 1 L.length (aE bI L)),C.p (PV.i aC 0),C.p (PV.i aC 0)]])):=by kernel_rfl
section
variable {G:Nat→Option Obj}
set_option maxRecDepth 100000 in
theorem aIB(B:List UInt8)(c:Nat)(s':Rs):gG aB G 87 (TS B c s'):=by
 intro args h p v h' hm hp;unfold TS at hm
 split at hm;rotate_left;· cases hm
 split at hm;rotate_left;· cases hm
 rename_i j _ q a e hw;obtain⟨rfl,rfl,rfl⟩:=mJ hm;obtain⟨hq,hr⟩:=hp;obtain⟨k1,k2,k3⟩:=rH hw hq
 have hm:=fun b=>SQ (G:=G) B _ k2 k3 b
 rw[hr]at hm
 exact pZ (BN (args:=[]) (args0:=[]) (vs:=[uN c]) Try.func87 (by kernel_rfl) k1 rfl fun b=>hm b _)
theorem CD(B:List UInt8)(c:Nat)(s':Rs):bG aB G (aFE B c s'):=eM (by simp;exact aIB B c s')
set_option maxRecDepth 100000 in
theorem ZP(B:List UInt8)(s:Rs)(hs:s.at_≤B.length)(hB:B.length≤140737488355328)(b:Nat)(Q:X→St→Prop):eP aB G (Zm [0] (bK aB Try.f67) fun st=>cW G st ⟨[.c (.ptr 0 0)]++[iV (gE B s).1],CY B (gE B s).2 b⟩) (dC aB Try.f67) (jR Try.f67 [0] [0] [b] [.c (.ptr 0 0)] [lZ B s]) Q:=by
 obtain⟨a,e⟩:=s
 have hs:a≤B.length:=hs
 obtain⟨c,a',e',hu⟩:∃c a' e',kE B ⟨a,e⟩=(c,⟨a',e'⟩):=⟨_,_,_,rfl⟩
 have hc:=DN B ⟨a,e⟩
 rw[hu]at hc
 have hc:c<18446744073709551616:=hc
 obtain⟨z1,z2⟩:=aBT hc;refine eP.evH (CD B c ⟨a',e'⟩) (tQI B c a' e' a e b) ?_;simp only[cD,bA,aP,kA,dW];refine⟨⟨⟨rfl,by omega,by omega,hB⟩,hu⟩,by decide,z2,⟨?_⟩⟩;rw[z1];unfold gE;rw[hu];exact aI rfl
set_option maxRecDepth 100000 in
theorem aDG(B:List UInt8)(F:Rs→Int×Rs):gG aB G 67 (XA B F):=by
 intro args h p v h' hm hp;unfold XA at hm
 split at hm;rotate_left;· cases hm
 split at hm;rotate_left;· cases hm
 rename_i j _ q a e hw;obtain⟨rfl,rfl,rfl⟩:=mJ hm;obtain⟨hq,rfl⟩:=hp;obtain⟨k1,k2,k3⟩:=rH hw hq
 exact pZ (BN (args:=[]) (args0:=[]) (vs:=[iV (gE B ⟨a.toNat,e⟩).1]) Try.func67 (by kernel_rfl) k1 rfl fun b=>ZP B _ k2 k3 b _)
set_option maxRecDepth 100000 in
theorem ZQ(B:List UInt8)(s:Rs)(b:Nat)(Q:X→St→Prop):eP aB G (Zm [0] (bK aB Try.f70) fun st=>cW G st ⟨[.c (.ptr 0 0)]++[iV (GF B s)],CY B s b⟩) (dC aB Try.f70) (jR Try.f70 [0] [0] [b] [.c (.ptr 0 0)] [lZ B s]) Q:=by
 obtain⟨a,e⟩:=s;refine eP.evH aY (tQE B a e b) ?_;simp only[cD,bA,aP,kA,decide_eq_true_eq,decide_eq_false_iff_not,bne_iff_ne,bne_eq_false_iff_eq,ne_eq];unfold GF;refine⟨fun h=>?_,fun h=>⟨fun h1=>?_,fun h1=>?_⟩⟩
 ·rw[if_pos h];exact⟨aI (by kernel_rfl)⟩
 ·rw[if_neg (by simpa using h),if_pos (show a<B.length by omega)];exact⟨aI (by kernel_rfl)⟩
 ·rw[if_neg (by simpa using h),if_neg (show ¬a<B.length by omega)];exact⟨aI (by kernel_rfl)⟩
set_option maxRecDepth 100000 in
theorem aNH(B:List UInt8)(r:Int):gG aB G 70 (aE8 B r):=by
 intro args h p v h' hm hp;unfold aE8 at hm
 split at hm;rotate_left;· cases hm
 split at hm;rotate_left;· cases hm
 rename_i j _ q a e hw;obtain⟨rfl,rfl,rfl⟩:=mJ hm;obtain⟨hq,rfl⟩:=hp;obtain⟨k1,k2,k3⟩:=rH hw hq
 exact pZ (BN (args:=[]) (args0:=[]) (vs:=[iV (GF B ⟨a.toNat,e⟩)]) Try.func70 (by kernel_rfl) k1 rfl fun b=>ZQ B _ b _)
theorem aQJ(L:List UInt8):iW aB G 71 (aNX L):=by
 intro args p v hm hp h;unfold aNX at hm
 split at hm;rotate_left;· cases hm
 split at hm;rotate_left;· cases hm
 rename_i x _ q hx;injection hm with hm;injection hm with e1 e2;subst e1;subst e2;refine jW.args (args':=[aU bI 1 L]) ?_ (.cons (FH hx hp.1) .nil);obtain⟨_,hL⟩:=hp
 refine HI aY Try.func71 (by kernel_rfl) rfl (aTD L) ?_ h
 simp only[oR,cD,bA,iA,KF];clear hx
 have key:iE (V.c (C.p (PV.l 1 (0+L.length) fun e o=>mZ (fI 0 (fun e o=>bC C.top [] (e*1+o)) (fun e o=>C.p (PV.i bF (↑(L.getD e default).toNat:Int))) (e+0) o)))) (aU bI 1 L):=by
  rw[cK];exact iE.refl _
 have big:(0+L.length)*1≤140737488355328∧0+L.length≤140737488355328∧∀(e o:Nat),e<L.length→o<1→iQ (C.p (aE bI L e o))=true:=⟨by omega,by omega,fun e o _ _=>rfl⟩
 refine⟨fun _=>⟨trivial,big,⟨by omega,fun _ _ _ _=>rfl⟩,_,rfl,key⟩,fun h0=>⟨⟨_,rfl,?_⟩,trivial,big,⟨by omega,fun _ _ _ _=>rfl⟩,_,rfl,key⟩⟩
 have h0:L.length=0:=by have:=of_decide_eq_false h0;omega
 obtain rfl:=gK h0;exact iE.p (lY.nil 1 _)
theorem QY(L:List UInt8):bG aB G (aLT L):=eC (by simp;exact aQJ L)
set_option maxRecDepth 100000 in
theorem aID(L:List UInt8):gG aB G 66 (TU L):=by
 intro args h p v h' hm hp;unfold TU at hm
 split at hm;rotate_left;· cases hm
 split at hm;rotate_left;· cases hm
 rename_i x _ q hx;obtain⟨rfl,rfl,rfl⟩:=mJ hm;obtain⟨hq,hL⟩:=hp
 refine jW.args (args':=[aU bI 1 L]) (KP (vs:=[.c (.ptr 0 0)]) (hE:=[lZ L ⟨0,0⟩]) Try.func66 (by kernel_rfl) (by rw[eL];rfl) ?_) (.cons (FH hx hq) .nil)
 refine eP.evH (QY L) (tQR h L) ?_;simp only[bA,aP,kA]
 exact⟨⟨⟨trivial,fun _ _ _ _=>trivial⟩,hL⟩,⟨aI (by kernel_rfl)⟩⟩
end
noncomputable def IX:Array Oper:=KZ (bC .skip (eZ (inr (bC .skip (gQ (dC aB hJ) 8) 2))) 0)
noncomputable def aRC:List AI:=(fD aB IX (IX.toList.take 2)).getD []
noncomputable def aRA:List AI:=(fD aB IX (IX.toList.drop 3)).getD []
theorem aSI(B:List UInt8)(c a':Nat)(e':Int)(a:Nat)(e:Int)(b:Nat):dF (aFE B c ⟨a',e'⟩) (dL 6 (dC aB hJ)) (jR hJ [0] [0] [b] [.c (.ptr 0 0),.c (.fn (.func 106) [.ptr 0 0] [])] [lZ B ⟨a,e⟩]) (gP [0] (fJ 49 [0,1,5]) (bK aB hJ))=Tr.rq
 ((bQ [0] (C.p (PV.l 1 B.length (aE bI B)))=C.p (PV.l 1 B.length (aE bI B))∧0≤(↑(Rs.mk a e).at_:Int)∧(↑(Rs.mk a e).at_:Int)≤(↑B.length:Int)∧B.length≤140737488355328) ∧
 kE B (Rs.mk (↑(Rs.mk a e).at_:Int).toNat (Rs.mk a e).er)=(c,Rs.mk a' e'))
 (bT ((Rs.mk a' e').er != 0)
 (.done .ret
 (bY 2 [(0,.c (.ptr 0 0)),(1,.c (.p (.z (bB none 0 0))))] [.pin 1 b,.cells 123 [.p (.l 1 B.length (aE bI B)),.p (.i .i64 (↑(Rs.mk a' e').at_:Int)),.p (.i .i64 (Rs.mk a' e').er)]]))
 (.rq (eW aC ((↑B.length:Int)-(↑(Rs.mk a' e').at_:Int)))
 (bT (decide (aR.wrap ((↑B.length:Int)-(↑(Rs.mk a' e').at_:Int))<(↑c:Int)))
 (.done .ret
 (bY 2 [(0,.c (.ptr 0 0)),(1,.c (.p (.z (bB none 0 0))))] [.pin 1 b,.cells 123 [.p (.l 1 B.length (aE bI B)),.p (.i .i64 (↑(Rs.mk a' e').at_:Int)),.p (.i .i64 3)]]))
 (.done .normal
 (bY 49 [(0,.c (.ptr 0 0)),(1,.c (.fn (Fn.func 106) [AE.B.ptr 1 0] [])),(5,.c (.p (.i aR (↑c:Int))))] [.pin 1 b,.cells 123 [.p (.l 1 B.length (aE bI B)),.p (.i .i64 (↑(Rs.mk a' e').at_:Int)),.p (.i .i64 (Rs.mk a' e').er)]]))))):=by kernel_rfl
theorem aSH(B:List UInt8)(c a b:Nat):dF fH (dL 2 (bL 6 (dC aB hJ))) (bY 49 [(0,.c (.ptr 0 0)),(1,.c (.fn (.func 106) [.ptr 1 0] [])),(5,uN c)] [.pin 1 b,lZ B ⟨a,0⟩]) (gP [0] (fJ 49 [0,1,6,34,35]) (bK aB hJ))=Tr.rq (dR 0≤dR 0∧0≤aC.wrap (↑c:Int)∧aC.wrap (↑c:Int)*(↑1:Int)≤140737488355328∧aC.wrap (↑c:Int)≤140737488355328)
 (.done .normal
 (bY 49 [(0,.c (.ptr 0 0)),(1,.c (.fn (Fn.func 106) [AE.B.ptr 2 0] [])),(6,.c (.sl 1 1 0 0)),(34,.c (.p (.i .i64 (aC.wrap (↑c:Int))))),(35,.c (.p (.i .i64 0)))] [.pin 2 b,.row 5 1 0 fun e o=>bQ [0,2,1] (C.p (bC (PV.b false) [PV.i bF 0] o)),.cells 123 [.p (.l 1 B.length (aE bI B)),.p (.i .i64 (↑(Rs.mk a 0).at_:Int)),.p (.i .i64 (Rs.mk a 0).er)]])):=by kernel_rfl
theorem aSG(B L:List UInt8)(k:Nat)(n:Int)(a b:Nat):dF fH (dL 2 (gQ (dC aB hJ) 8)) (bY 49 [(0,.c (.ptr 0 0)),(1,.c (.fn (.func 106) [.ptr 2 0] [])),(6,.c (.sl 1 1 0 k)),(34,iV n),(35,iV k)] [.pin 2 b,.row 5 1 k (aO bI L),lZ B ⟨a,0⟩]) (gP [0] (fJ 49 [0,1,6,34,35]) (bK aB hJ))=bT (decide ((↑k:Int)<n))
 (.done .normal
 (bY 49 [(0,.c (.ptr 0 0)),(1,.c (.fn (Fn.func 106) [AE.B.ptr 2 0] [])),(6,.c (.sl 1 1 0 k)),(34,.c (.p (.i .i64 n))),(35,.c (.p (.i .i64 (↑k:Int))))] [.pin 2 b,.row 5 1 k fun e o=>bQ [0,1,2] (aO bI L e o),.cells 123 [.p (.l 1 B.length (aE bI B)),.p (.i .i64 (↑(Rs.mk a 0).at_:Int)),.p (.i .i64 (Rs.mk a 0).er)]]))
 (.done (.exit 0)
 (bY 49 [(0,.c (.ptr 0 0)),(1,.c (.fn (Fn.func 106) [AE.B.ptr 2 0] [])),(6,.c (.sl 1 1 0 k)),(34,.c (.p (.i .i64 n))),(35,.c (.p (.i .i64 (↑k:Int))))] [.pin 2 b,.row 5 1 k fun e o=>bQ [0,1,2] (aO bI L e o),.cells 123 [.p (.l 1 B.length (aE bI B)),.p (.i .i64 (↑(Rs.mk a 0).at_:Int)),.p (.i .i64 (Rs.mk a 0).er)]])):=by kernel_rfl
theorem aSF(B L:List UInt8)(k:Nat)(n:Int)(c a' a b:Nat):iY (QB B c ⟨a',0⟩) aRC (bY 49 [(0,.c (.ptr 0 0)),(1,.c (.fn (.func 106) [.ptr 2 0] [])),(6,.c (.sl 1 1 0 k)),(34,iV n),(35,iV k)] [.pin 2 b,.row 5 1 k (aO bI L),lZ B ⟨a,0⟩]) (fun st=>aC9 aB (QB B c ⟨a',0⟩) (.t 38) st fun v h=>iY (QB B c ⟨a',0⟩) aRA ⟨mG st.t (some 39) v,h⟩ fun s'=>.done .normal (gcS (fJ 49 [0,1,6,34,35]) s'))=Tr.rq
  ((C.p (PV.l 1 B.length (aE bI B))=C.p (PV.l 1 B.length (aE bI B))∧0≤(↑(Rs.mk a 0).at_:Int)∧(↑(Rs.mk a 0).at_:Int)≤(↑B.length:Int)∧B.length≤140737488355328) ∧
    ET B (Rs.mk (↑(Rs.mk a 0).at_:Int).toNat (Rs.mk a 0).er)=(c,Rs.mk a' 0))
  (Tr.rq (k=k)
   (Tr.rq (1≤1)
    (Tr.rq ((k+1)*1≤140737488355328∧k+1≤140737488355328∧∀(e o:Nat),e<1→o<1→iQ (mI [C.p (PV.i bF (↑c:Int))] 1 1 (e+0) o)=true)
     (Tr.done X.normal
      (bY 49 [(0,V.c (C.ptr 0 0)),(1,V.c (C.fn (Fn.func 106) [AE.B.ptr 2 0] [])),(6,V.c (C.sl 1 1 0 (k+1))),(34,V.c (C.p (PV.i aC n))),(35,V.c (C.p (PV.i aC (↑k:Int))))] [AO.pin 2 b,AO.row 5 1 (k+1) fun e o=>bQ [0,6,2] (fI k (aO bI L) (fun e o=>bC C.top [C.p (PV.i bF (↑c:Int))] ((e+0)*1+o)) e o),AO.cells 123 [C.p (PV.l 1 B.length (aE bI B)),C.p (PV.i aC (↑(Rs.mk a' 0).at_:Int)),C.p (PV.i aC (Rs.mk a' 0).er)]]))))):=by kernel_rfl
theorem aSE(B L:List UInt8)(k:Nat)(n:Int)(a b:Nat):dF fH (bL 1 (eZ (inr (bC .skip (gQ (dC aB hJ) 8) 2)))) (bY 49 [(0,.c (.ptr 0 0)),(1,.c (.fn (.func 106) [.ptr 2 0] [])),(6,.c (.sl 1 1 0 (k+1))),(34,iV n),(35,iV k)] [.pin 2 b,.row 5 1 (k+1) (aO bI L),lZ B ⟨a,0⟩]) (gP [0] (fJ 49 [0,1,6,34,35]) (bK aB hJ))=Tr.done X.normal
 (bY 49 [(0,.c (.ptr 0 0)),(1,.c (.fn (Fn.func 106) [AE.B.ptr 2 0] [])),(6,.c (.sl 1 1 0 (k+1))),(34,.c (.p (.i .i64 n))),(35,.c (.p (.i .i64 (↑k:Int))))] [.pin 2 b,.row 5 1 (k+1) fun e o=>bQ [0,1,2] (aO bI L e o),.cells 123 [.p (.l 1 B.length (aE bI B)),.p (.i .i64 (↑(Rs.mk a 0).at_:Int)),.p (.i .i64 (Rs.mk a 0).er)]]):=by kernel_rfl
theorem aSD(B L:List UInt8)(k:Nat)(n:Int)(a b:Nat):dF fH (bL 3 (gQ (dC aB hJ) 8)) (bY 49 [(0,.c (.ptr 0 0)),(1,.c (.fn (.func 106) [.ptr 2 0] [])),(6,.c (.sl 1 1 0 (k+1))),(34,iV n),(35,iV k)] [.pin 2 b,.row 5 1 (k+1) (aO bI L),lZ B ⟨a,0⟩]) (gP [0] (fJ 49 [0,1,6,34,35]) (bK aB hJ))=Tr.rq (eW aC ((↑k:Int)+1))
 (.done .normal
 (bY 49 [(0,.c (.ptr 0 0)),(1,.c (.fn (Fn.func 106) [AE.B.ptr 2 0] [])),(6,.c (.sl 1 1 0 (k+1))),(34,.c (.p (.i .i64 n))),(35,.c (.p (.i .i64 ((↑k:Int)+1))))] [.pin 2 b,.row 5 1 (k+1) fun e o=>bQ [0,1,2] (aO bI L e o),.cells 123 [.p (.l 1 B.length (aE bI B)),.p (.i .i64 (↑(Rs.mk a 0).at_:Int)),.p (.i .i64 (Rs.mk a 0).er)]])):=by kernel_rfl
theorem aSC(B L:List UInt8)(k:Nat)(n:Int)(a b:Nat):dF fH (dL 1 (bL 9 (dC aB hJ))) (bY 49 [(0,.c (.ptr 0 0)),(1,.c (.fn (.func 106) [.ptr 2 0] [])),(6,.c (.sl 1 1 0 k)),(34,iV n),(35,iV k)] [.pin 2 b,.row 5 1 k (aO bI L),lZ B ⟨a,0⟩]) (gP [0] (fJ 49 [0,4]) (bK aB hJ))=Tr.done X.normal
 (bY 49 [(0,.c (.ptr 0 0)),(4,.c (.sl 1 1 0 k))] [.pin 2 b,.row 5 1 k fun e o=>bQ [0,1,2] (aO bI L e o),.cells 123 [.p (.l 1 B.length (aE bI B)),.p (.i .i64 (↑(Rs.mk a 0).at_:Int)),.p (.i .i64 (Rs.mk a 0).er)]]):=by kernel_rfl
theorem aSB(B L:List UInt8)(a b:Nat):dF fH (bL 10 (dC aB hJ)) (bY 49 [(0,.c (.ptr 0 0)),(4,aU bI 1 L)] [.pin 1 b,lZ B ⟨a,0⟩]) (gP [0] (fJ 49 [0,4]) (bK aB hJ))=Tr.done X.ret
 (bY 2 [(0,.c (.ptr 0 0)),(1,.c (.p (.l 1 L.length (aE bI L))))] [.pin 1 b,.cells 123 [.p (.l 1 B.length (aE bI B)),.p (.i .i64 (↑(Rs.mk a 0).at_:Int)),.p (.i .i64 (Rs.mk a 0).er)]]):=by kernel_rfl
section
variable {G:Nat→Option Obj}
set_option maxRecDepth 100000 in
theorem aAD(B:List UInt8)(s:Rs)(hs:s.at_≤B.length)(hB:B.length≤140737488355328)(b:Nat)(Q:X→St→Prop):eP aB G (Zm [0] (bK aB hJ) fun st=>cW G st ⟨[.c (.ptr 0 0)]++[aU bI 1 (rO B s).1],CY B (rO B s).2 b⟩) (dC aB hJ) (jR hJ [0] [0] [b] [.c (.ptr 0 0),.c (.fn (.func 106) [.ptr 0 0] [])] [lZ B s]) Q:=by
 obtain⟨a,e⟩:=s
 have hs:a≤B.length:=hs
 obtain⟨c,a',e',hu⟩:∃c a' e',kE B ⟨a,e⟩=(c,⟨a',e'⟩):=⟨_,_,_,rfl⟩
 have hc:=DN B ⟨a,e⟩
 have ha:=DO (B:=B) (s:=⟨a,e⟩) hs
 rw[hu]at hc ha
 have hc:c<18446744073709551616:=hc
 have ha:a'≤B.length:=ha
 obtain⟨T,hT⟩:∃T,rO B ⟨a,e⟩=T:=⟨_,rfl⟩
 rw[hT];unfold rO at hT;rw[hu]at hT;dsimp only at hT;refine eP.evG (CD B c ⟨a',e'⟩) 6 (aSI B c a' e' a e b) ?_;simp only[cD,bA,aP,kA,cI,dW,bne_iff_ne,bne_eq_false_iff_eq,ne_eq,decide_eq_true_eq,decide_eq_false_iff_not]
 have nilEnd:∀e2:Int,T=([],⟨a',e2⟩)→cW G (bY 2 [(0,.c (.ptr 0 0)),(1,.c (.p (.z (.slice none 0 0))))] [.pin 1 b,lZ B ⟨a',e2⟩]) ⟨[.c (.ptr 0 0)]++[aU bI 1 T.1],CY B T.2 b⟩:=fun e2 h=>by
  rw[h];exact(HW (st:=bY 2 [(0,.c (.ptr 0 0)),(1,.c (.p (.z (.slice none 0 0))))] [.pin 1 b,lZ B ⟨a',e2⟩]) (j:=1) (y:=aU bI 1 []) (iE.p (lY.nil 1 _))).trans (aI rfl)
 refine⟨⟨⟨rfl,by omega,by omega,hB⟩,hu⟩,fun h=>?_,fun h=>⟨by simp only[eW];omega,fun h1=>?_,fun h1=>?_⟩⟩
 ·rw[if_pos h]at hT
  exact⟨nilEnd _ hT.symm⟩
 ·rw[if_neg (by simpa using h),if_pos (by rw[VX]at h1;omega)]at hT
  exact⟨nilEnd _ hT.symm⟩
 have hca:c≤B.length-a':=by rw[VX]at h1;omega
 rw[if_neg (by simpa using h),if_neg (by omega)]at hT;subst h;subst hT;clear nilEnd h1
 have hw:aC.wrap (c:Int)=c:=by rw[aBX,if_neg (by omega)];omega
 refine⟨eP.pre (aI (st':=bY 49 [(0,.c (.ptr 0 0)),(1,.c (.fn (.func 106) [.ptr 1 0] [])),(5,uN c)] [.pin 1 b,lZ B ⟨a',0⟩]) (by kernel_rfl)) ?_⟩
 refine eP.evG aY 2 (aSH B c a' b) ?_;simp only[bA,aP,cI];rw[hw];refine⟨⟨by decide,by omega,by omega,by omega⟩,⟨?_⟩⟩
 refine eP.loop' (l:=bL 2 (bL 6 (dC aB hJ))) (id:=0) (b:=inr (inr (bC .skip (dC aB hJ) 8))) (r:=bL 9 (dC aB hJ)) (by kernel_rfl) (σ:=Nat)
   (fun k=>(fun(k:Nat) (n:Int) (a:Nat) (L:List UInt8)=>bY 49 [(0,.c (.ptr 0 0)),(1,.c (.fn (.func 106) [.ptr 2 0] [])),(6,.c (.sl 1 1 0 k)),(34,iV n),(35,iV k)] [.pin 2 b,.row 5 1 k (aO bI L),lZ B ⟨a,0⟩]) k (c:Int) (a'+k) ((B.drop a').take k)) (fun k=>k≤c) (fun k=>c-k) 0 (bX _) (jF ⟨rfl,⟨rfl,rfl,rfl,fun e o he=>absurd he (Nat.not_lt_zero _)⟩,rfl,trivial⟩) ?_
 intro k hk Q1 q1n q1e _
 have hlen:((B.drop a').take k).length=k:=by rw[List.length_take,List.length_drop];omega
 refine eP.evG aY 2 (aSG B ((B.drop a').take k) k c (a'+k) b) ?_;simp only[cD,aP,cI,mU,decide_eq_true_eq,decide_eq_false_iff_not];refine⟨fun h2=>⟨?_⟩,fun h2=>⟨q1e _ ?_⟩⟩
 ·have hlt:a'+k<B.length:=by omega
  have hoc:ET B ⟨a'+k,0⟩=(kL B (a'+k),⟨a'+(k+1),0⟩):=by
   unfold ET;rw[if_neg (by simp),if_neg (show ¬B.length≤a'+k by omega)];rfl
  have hsn:(B.drop a').take (k+1)=(B.drop a').take k++[B.getD (a'+k) 0]:=by
   rw[List.take_add_one,List.getElem?_drop,aD,aK hlt];rfl
  refine eP.blk' (l:=bL 2 (gQ (dC aB hJ) 8)) (id:=1) (a:=inr (bC .skip (gQ (dC aB hJ) 8) 2)) (r:=bL 3 (gQ (dC aB hJ) 8)) (by kernel_rfl) ?_
  intro Q2 q2n q2e _
  refine eP.pre (aI (st':=(fun(k:Nat) (n:Int) (a:Nat) (L:List UInt8)=>bY 49 [(0,.c (.ptr 0 0)),(1,.c (.fn (.func 106) [.ptr 2 0] [])),(6,.c (.sl 1 1 0 k)),(34,iV n),(35,iV k)] [.pin 2 b,.row 5 1 k (aO bI L),lZ B ⟨a,0⟩]) k (c:Int) (a'+k) ((B.drop a').take k)) (by kernel_rfl)) ?_
  refine eP.spec (l:=(eZ (inr (bC .skip (gQ (dC aB hJ) 8) 2)))) (r:=bL 1 (eZ (inr (bC .skip (gQ (dC aB hJ) 8) 2)))) (id:=10) (ops:=IX) (vG B (kL B (a'+k)) ⟨a'+(k+1),0⟩) (by kernel_rfl) 2 (o:=IX.toList.getD 2 default) (al1:=aRC) (al2:=aRA) (by kernel_rfl) (by kernel_rfl) (by kernel_rfl) (by kernel_rfl) (op:=.call { callee:=.value (.tmp 38),args := #[],argTypes := #[] }) (by kernel_rfl)
    (aC8 (vG B (kL B (a'+k)) ⟨a'+(k+1),0⟩) (by kernel_rfl)) (fJ 49 [0,1,6,34,35]) (d:=some 39) (by kernel_rfl) (aSF B ((B.drop a').take k) k c (kL B (a'+k)) (a'+(k+1)) (a'+k) b) ?_
  simp only[bA,aP,dW];refine⟨⟨⟨trivial,by omega,by omega,hB⟩,hoc⟩,trivial,aW _,⟨by omega,by omega,fun e o he ho=>?_⟩,⟨?_⟩⟩
  ·obtain rfl:e=0:=by omega
   obtain rfl:o=0:=by omega
   rfl
  refine eP.pre (st2:=(fun(k:Nat) (n:Int) (a:Nat) (L:List UInt8)=>bY 49 [(0,.c (.ptr 0 0)),(1,.c (.fn (.func 106) [.ptr 2 0] [])),(6,.c (.sl 1 1 0 (k+1))),(34,iV n),(35,iV k)] [.pin 2 b,.row 5 1 (k+1) (aO bI L),lZ B ⟨a,0⟩]) k (c:Int) (a'+(k+1)) ((B.drop a').take (k+1))) (jF ⟨rfl,⟨rfl,rfl,rfl,fun e o he ho=>?_⟩,rfl,trivial⟩) ?_
  ·rw[hsn]
   exact pP (ρ:=[0,6,2]) hlen (MF _) he ho
  refine eP.evH aY (aSE B ((B.drop a').take (k+1)) k c (a'+(k+1)) b) ?_;simp only[aP,cI]
  refine⟨q2n _ (eP.pre (aI (st':=(fun(k:Nat) (n:Int) (a:Nat) (L:List UInt8)=>bY 49 [(0,.c (.ptr 0 0)),(1,.c (.fn (.func 106) [.ptr 2 0] [])),(6,.c (.sl 1 1 0 (k+1))),(34,iV n),(35,iV k)] [.pin 2 b,.row 5 1 (k+1) (aO bI L),lZ B ⟨a,0⟩]) k (c:Int) (a'+(k+1)) ((B.drop a').take (k+1))) (by kernel_rfl)) ?_)⟩
  refine eP.evH aY (aSD B ((B.drop a').take (k+1)) k c (a'+(k+1)) b) ?_;simp only[bA,aP,cI,eW]
  exact⟨by omega,⟨q1n (k+1) _ (by omega) (by omega) (aI (by kernel_rfl))⟩⟩
 ·obtain rfl:k=c:=by omega
  refine eP.pre (aI (st':=(fun(k:Nat) (n:Int) (a:Nat) (L:List UInt8)=>bY 49 [(0,.c (.ptr 0 0)),(1,.c (.fn (.func 106) [.ptr 2 0] [])),(6,.c (.sl 1 1 0 k)),(34,iV n),(35,iV k)] [.pin 2 b,.row 5 1 k (aO bI L),lZ B ⟨a,0⟩]) k (k:Int) (a'+k) ((B.drop a').take k)) (by kernel_rfl)) ?_
  refine eP.evG aY 1 (aSC B ((B.drop a').take k) k k (a'+k) b) ?_;simp only[aP,cI]
  refine⟨eP.pre ((pD (j:=4) (id:=1) (ty:=5) (sz:=1) (n:=k) (off:=0) (len:=k) (f:=aO bI ((B.drop a').take k)) (by kernel_rfl) (by kernel_rfl) (by omega) (fun _ _ _ _=>rfl)).trans ((gB (fJ 49 [0,4]) _).trans (aI (st':=bY 49 [(0,.c (.ptr 0 0)),(4,.c (.p (.l 1 k (aE bI ((B.drop a').take k)))))] [.pin 1 b,lZ B ⟨a'+k,0⟩]) (by kernel_rfl)))) ?_⟩
  have el:V.c (.p (.l 1 k (aE bI ((B.drop a').take k))))=aU bI 1 ((B.drop a').take k):=by
   unfold aU bO;rw[hlen]
  rw[el];refine eP.evH aY (aSB B ((B.drop a').take k) (a'+k) b) ?_;simp only[aP,kA]
  exact⟨aI (by kernel_rfl)⟩
theorem aM9{P:Program}{f g:FuncId}{q:Nat}{h:List AO}{K:V→List AO→Prop}(hf:jW P G f [.c (.ptr (oG h q) 0),.c (.fn (.func g) [.ptr (oG h q) 0] [])] h K):jW P G f [.c (.ptr q 0),.c (.fn (.func g) [.ptr q 0] [])] h K:=by
 unfold oG at hf;split at hf
 ·rename_i j b0 hq
  intro β R w vs ha hh;refine hf β R w vs ?_ hh
  have key:∀u:Value,BR β R w (.ptr q 0) u→BR β R w (.ptr j 0) u:=fun u h1=>by
   obtain⟨b,o,e1,e2⟩:=h1
   have hob:=hh.obj q b o e1
   rw[hq]at hob;obtain⟨e3,o2,e4⟩:=hob;subst e3;exact⟨_,o2,e4,e2⟩
  generalize vs.toList=us at ha
  match us,ha with
  |[u1,u2],⟨h1,h2,_⟩=>
   refine⟨key u1 h1,?_,trivial⟩;obtain⟨xs,ys,e1,e2,e3⟩:=h2;refine⟨xs,ys,e1,?_,e3⟩
   generalize xs.toList=zs at e2
   match zs,e2 with
   |[z],⟨k1,_⟩=>exact⟨key z k1,trivial⟩
 ·exact hf
def TW(B:List UInt8)(L:List UInt8)(s':Rs):kD:=fun args h=>match args with
 |[.c (.ptr j 0),.c (.fn (.func g) [.ptr k 0] [])]=>match HG B (oG h j) h with
  |some (q,a,e)=>some (q∧(j=k∧g=106)∧rO B ⟨a.toNat,e⟩=(L,s'),aU bI 1 L,iT [oG h j] [oG h j] [1] h (CY B s' 0))
  |none=>none
 |_=>none
set_option maxRecDepth 100000 in
theorem aIF(B:List UInt8)(L:List UInt8)(s':Rs):gG aB G 115 (TW B L s'):=by
 intro args h p v h' hm hp;unfold TW at hm
 split at hm;rotate_left;· cases hm
 split at hm;rotate_left;· cases hm
 rename_i j g k _ q a e hw;obtain⟨rfl,rfl,rfl⟩:=mJ hm;obtain⟨hq,⟨rfl,rfl⟩,hr⟩:=hp;obtain⟨k1,k2,k3⟩:=rH hw hq
 have hm:=fun b=>aAD (G:=G) B _ k2 k3 b
 rw[hr]at hm
 refine aM9 (BN (args:=[.c (.fn (.func 106) [.ptr (oG h j) 0] [])]) (args0:=[.c (.fn (.func 106) [.ptr 0 0] [])]) (vs:=[aU bI 1 L]) Try.func115 (by kernel_rfl) k1 ?_ fun b=>hm b _)
 generalize oG h j=j
 show [CQ [j] [j] 1 _]=_
 simp only[CQ,inC,bQ,BL,ZJ,jM,HY];rfl
def aL4(B:List UInt8)(L:List UInt8)(s':Rs):Ext:=mH [(115,TW B L s')]
theorem PW(B:List UInt8)(L:List UInt8)(s':Rs):bG aB G (aL4 B L s'):=eM (by simp;exact aIF B L s')
end
theorem tQW(B L:List UInt8)(a':Nat)(e':Int)(a:Nat)(e:Int)(b:Nat):dF (aL4 B L ⟨a',e'⟩) (dC aB Try.f107) (jR Try.f107 [0] [0] [b] [.c (.ptr 0 0)] [lZ B ⟨a,e⟩]) (gP [0] [] (bK aB Try.f107))=Tr.rq
 ((bQ [0] (C.p (PV.l 1 B.length (aE bI B)))=C.p (PV.l 1 B.length (aE bI B))∧0≤(↑(Rs.mk a e).at_:Int)∧(↑(Rs.mk a e).at_:Int)≤(↑B.length:Int)∧B.length≤140737488355328) ∧
 (1=1∧106=106)∧rO B (Rs.mk (↑(Rs.mk a e).at_:Int).toNat (Rs.mk a e).er)=(L,Rs.mk a' e'))
 (.done .ret
 (bY 2 [(0,.c (.ptr 0 0)),(1,.c (.p (.l 1 L.length (aE bI L))))] [.pin 1 b,.cells 123 [.p (.l 1 B.length (aE bI B)),.p (.i .i64 (↑(Rs.mk a' e').at_:Int)),.p (.i .i64 (Rs.mk a' e').er)]])):=by kernel_rfl
def TT(B:List UInt8)(F:Rs→ByteArray×Rs):kD:=fun args h=>match args with
 |[.c (.ptr j 0)]=>match HG B (oG h j) h with
  |some (q,a,e)=>some (q∧F=jS B,.c (.p (.s (F ⟨a.toNat,e⟩).1)),iT [oG h j] [oG h j] [1] h (CY B (F ⟨a.toNat,e⟩).2 0))
  |none=>none
 |_=>none
def TV(B:List UInt8)(L:List UInt8)(s':Rs):kD:=fun args h=>match args with
 |[.c (.ptr j 0)]=>match HG B (oG h j) h with
  |some (q,a,e)=>some (q∧rO B ⟨a.toNat,e⟩=(L,s'),aU bI 1 L,iT [oG h j] [oG h j] [1] h (CY B s' 0))
  |none=>none
 |_=>none
def aFD(B:List UInt8)(L:List UInt8)(s':Rs):Ext:=mH [(107,TV B L s')]
noncomputable def IW:Array Oper:=KZ (bC .skip (dC aB Try.f88) 1)
noncomputable def aM3:List AI:=(fD aB IW (IW.toList.take 2)).getD []
noncomputable def aM2:List AI:=(fD aB IW (IW.toList.drop 3)).getD []
theorem aSK(B:List UInt8)(a:Nat)(e:Int)(b:Nat):dF fH (dL 1 (dC aB Try.f88)) (jR Try.f88 [0] [0] [b] [.c (.ptr 0 0)] [lZ B ⟨a,e⟩]) (gP [0] (fJ 6 [0,2]) (bK aB Try.f88))=Tr.done X.normal
 (bY 6 [(0,.c (.ptr 0 0)),(2,.c (.p (.s (ByteArray.mk #[]))))] [.pin 1 b,.cells 123 [.p (.l 1 B.length (aE bI B)),.p (.i .i64 (↑(Rs.mk a e).at_:Int)),.p (.i .i64 (Rs.mk a e).er)]]):=by kernel_rfl
theorem aSJ(B L:List UInt8)(a':Nat)(e':Int)(a:Nat)(e:Int)(b:Nat):iY (aFD B L ⟨a',e'⟩) aM3 (bY 6 [(0,.c (.ptr 0 0)),(2,.c (.p (.s ⟨#[]⟩)))] [.pin 1 b,lZ B ⟨a,e⟩]) (fun st=>aC7 (.t 4) st fun v h=>iY (aFD B L ⟨a',e'⟩) aM2 ⟨mG st.t (some 5) v,h⟩ fun s'=>.done .normal (gcS (fJ 6 [0,2]) s'))=Tr.rq
  ((C.p (PV.l 1 B.length (aE bI B))=C.p (PV.l 1 B.length (aE bI B))∧0≤(↑(Rs.mk a e).at_:Int)∧(↑(Rs.mk a e).at_:Int)≤(↑B.length:Int)∧B.length≤140737488355328) ∧
    rO B (Rs.mk (↑(Rs.mk a e).at_:Int).toNat (Rs.mk a e).er)=(L,Rs.mk a' e'))
  (Tr.rq (kI bI 1 (bS MR L.length (aE bI L)) L.length (aE bI L))
   (Tr.done X.normal
    (bY 6 [(0,V.c (C.ptr 0 0)),(2,V.c (C.p (PV.s (ByteArray.mk (bS MR L.length (aE bI L)).toArray))))] [AO.pin 1 b,AO.cells 123 [C.p (PV.l 1 B.length (aE bI B)),C.p (PV.i aC (↑(Rs.mk a' e').at_:Int)),C.p (PV.i aC (Rs.mk a' e').er)]]))):=by kernel_rfl
section
variable {G:Nat→Option Obj}
set_option maxRecDepth 100000 in
theorem aCT(B:List UInt8)(s:Rs)(hs:s.at_≤B.length)(hB:B.length≤140737488355328)(b:Nat)(Q:X→St→Prop):eP aB G (Zm [0] (bK aB Try.f107) fun st=>cW G st ⟨[.c (.ptr 0 0)]++[aU bI 1 (rO B s).1],CY B (rO B s).2 b⟩) (dC aB Try.f107) (jR Try.f107 [0] [0] [b] [.c (.ptr 0 0)] [lZ B s]) Q:=by
 obtain⟨a,e⟩:=s
 have hs:a≤B.length:=hs
 obtain⟨L,a',e',hu⟩:∃L a' e',rO B ⟨a,e⟩=(L,⟨a',e'⟩):=⟨_,_,_,rfl⟩
 rw[hu];refine eP.evH (PW B L ⟨a',e'⟩) (tQW B L a' e' a e b) ?_;simp only[bA,aP,kA,dW];exact⟨⟨⟨rfl,by omega,by omega,hB⟩,⟨trivial,trivial⟩,hu⟩,⟨aI rfl⟩⟩
set_option maxRecDepth 100000 in
theorem aIE(B:List UInt8)(L:List UInt8)(s':Rs):gG aB G 107 (TV B L s'):=by
 intro args h p v h' hm hp;unfold TV at hm
 split at hm;rotate_left;· cases hm
 split at hm;rotate_left;· cases hm
 rename_i j _ q a e hw;obtain⟨rfl,rfl,rfl⟩:=mJ hm;obtain⟨hq,hr⟩:=hp;obtain⟨k1,k2,k3⟩:=rH hw hq
 have hm:=fun b=>aCT (G:=G) B _ k2 k3 b
 rw[hr]at hm
 exact pZ (BN (args:=[]) (args0:=[]) (vs:=[aU bI 1 L]) Try.func107 (by kernel_rfl) k1 rfl fun b=>hm b _)
theorem PU(B:List UInt8)(L:List UInt8)(s':Rs):bG aB G (aFD B L s'):=eM (by simp;exact aIE B L s')
theorem aFL(L:List UInt8):bS MR L.length (aE bI L)=L:=GH (fun x=>aFM x) L
set_option maxRecDepth 100000 in
theorem SR(B:List UInt8)(s:Rs)(hs:s.at_≤B.length)(hB:B.length≤140737488355328)(b:Nat)(Q:X→St→Prop):eP aB G (Zm [0] (bK aB Try.f88) fun st=>cW G st ⟨[.c (.ptr 0 0)]++[.c (.p (.s (jS B s).1))],CY B (jS B s).2 b⟩) (dC aB Try.f88) (jR Try.f88 [0] [0] [b] [.c (.ptr 0 0)] [lZ B s]) Q:=by
 obtain⟨a,e⟩:=s
 have hs:a≤B.length:=hs
 obtain⟨L,a',e',hu⟩:∃L a' e',rO B ⟨a,e⟩=(L,⟨a',e'⟩):=⟨_,_,_,rfl⟩
 have ht:jS B ⟨a,e⟩=(⟨L.toArray⟩,⟨a',e'⟩):=by unfold jS;rw[hu]
 rw[ht];refine eP.evG aY 1 (aSK B a e b) ?_;simp only[aP,cI]
 refine⟨eP.pre (aI (st':=bY 6 [(0,.c (.ptr 0 0)),(2,.c (.p (.s ⟨#[]⟩)))] [.pin 1 b,lZ B ⟨a,e⟩]) (by kernel_rfl)) ?_⟩
 refine eP.spec (r:=bL 2 (dC aB Try.f88)) (id:=1) (ops:=IW) (PU B L ⟨a',e'⟩) (by kernel_rfl) 2 (o:=IW.toList.getD 2 default) (al1:=aM3) (al2:=aM2) (by kernel_rfl) (by kernel_rfl) (by kernel_rfl) (by kernel_rfl) (op:=.convert 63 9 (.tmp 4)) (by kernel_rfl)
   (aC6 (e:=5) (by kernel_rfl) (by kernel_rfl) (by kernel_rfl) (by kernel_rfl)) (fJ 6 [0,2]) (d:=some 5) (by kernel_rfl) (aSJ B L a' e' a e b) ?_
 simp only[bA,aP,dW,aFL];refine⟨⟨⟨trivial,by omega,by omega,hB⟩,hu⟩,dP _ _ _,⟨?_⟩⟩
 refine eP.evH aY (keep:=[]) (tree:=.done .ret ⟨[.c (.ptr 0 0),.c (.p (.s ⟨L.toArray⟩))],[.pin 1 b,lZ B ⟨a',e'⟩]⟩) (by kernel_rfl) ?_
 simp only[aP,kA];exact⟨aI rfl⟩
set_option maxRecDepth 100000 in
theorem aIC(B:List UInt8)(F:Rs→ByteArray×Rs):gG aB G 88 (TT B F):=by
 intro args h p v h' hm hp;unfold TT at hm
 split at hm;rotate_left;· cases hm
 split at hm;rotate_left;· cases hm
 rename_i j _ q a e hw;obtain⟨rfl,rfl,rfl⟩:=mJ hm;obtain⟨hq,rfl⟩:=hp;obtain⟨k1,k2,k3⟩:=rH hw hq
 exact pZ (BN (args:=[]) (args0:=[]) (vs:=[.c (.p (.s (jS B ⟨a.toNat,e⟩).1))]) Try.func88 (by kernel_rfl) k1 rfl fun b=>SR B _ k2 k3 b _)
end
end Go.AE
