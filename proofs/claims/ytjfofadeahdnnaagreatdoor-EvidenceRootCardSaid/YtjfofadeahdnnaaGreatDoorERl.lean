import Derived.Test.YtjfofadeahdnnaaGreatDoorERe
import Derived.Lib.AppendStr
import Derived.Laws.IdiomStrings
import Derived.Test.YtjfofadeahdnnaaGreatDoorERd
import Derived.Laws.Bits64
import Derived.Test.YtjfofadeahdnnaaGreatDoorProg
import Derived.Test.YtjfofadeahdnnaaGreatDoorRows
set_option linter.unusedVariables false
set_option linter.unusedSimpArgs false
namespace Go.AE
open _root_.Array renaming toList_append→eF
open _root_.BitVec renaming ofInt→cB
open _root_.Int renaming ofNat→aY
open IntKind renaming u64→bD,u8→cM
open _root_.List renaming append_assoc→eN,getD_eq_getElem?_getD→aD,getElem?_eq_getElem→aH,length_append→bJ,length_set→cD
open _root_.Nat renaming beq→aT,le_refl→aJ
open Region renaming wanted→eQ
open Go.RowKit
section
variable {P:Program} {G:Nat→Option Obj}
def aLP(P:Program)(ops:Array Oper)(Q:Exit→Act→World→Prop)(rest:List Oper):Exit→Act→World→Prop
 |.normal,a,w=>wpList P ops Q rest a w
 |e,a,w=>Q e a w
theorem aI3{ops:Array Oper}{Q:Exit→Act→World→Prop}{rest:List Oper}{o:Oper}{a:Act}{w:World}{next:Act→World→Prop}(h:o.wp P a w next (aLP P ops Q rest)):o.wp P a w next Q:=by
 unfold Oper.wp at *
 generalize (execOp a.eval o).run P w=r at *
 cases r with
 |ok n w'=>cases n<;>exact h
 |_=>exact h
theorem tD{ops:Array Oper}{Q:Exit→Act→World→Prop}{rest:List Oper}:∀(l:List Oper) (a:Act) (w:World),wpList P ops (aLP P ops Q rest) l a w→wpList P ops Q (l++rest) a w
 |[],a,w,h=>h
 |o::l,a,w,h=>by
  show wpList P ops Q (o::(l++rest)) a w
  unfold wpList at h ⊢;split at h
  ·rename_i hw
   rw[if_pos hw]
   rcases h with h|⟨h1,h2⟩
   ·exact .inl (aI3 (Oper.wp_mono (fun a w hk=>tD l a w hk) h))
   ·exact .inr ⟨h1,h2⟩
  ·rename_i hw
   rw[if_neg hw];exact tD l _ _ h
def aHS(P:Program)(G:Nat→Option Obj)(ext:Ext)(op:Op)(sp:St→(V→List AO→Tr)→Tr):Prop:=
 ∀(β:Bt) (R:Nat→Prop) (st:St) (a:Act) (w:World) (o:Oper) (kk:V→List AO→Tr) (K:X→St→Prop),eJ G β R st a w→o.op=op→(sp st kk).holds P G K→cW P G st.h.length (fun v h'=>(kk v h').holds P G K) β R o a w
theorem lM.spec{ext:Ext}(hext:cF P G ext){id:Nat}{ops:Array Oper}(n:Nat){o:Oper}{al1 al2:List AI}(ho:ops.toList.drop n=o::ops.toList.drop (n+1))(h1:gB P ops (ops.toList.take n)=some al1)(h2:gB P ops (ops.toList.drop (n+1))=some al2)(hg:o.guard=none)
  {sp:St→(V→List AO→Tr)→Tr} (hsp:aHS P G ext o.op sp) {st:St} {kf:St→Tr} {K1:X→St→Prop} (hh:(kG ext al1 st fun s=>sp s fun v h=>kG ext al2 ⟨mL s.t o.dst v,h⟩ kf).holds P G K1):lM P G (.raw (.region id ops false)) st fun e st'=>e=.normal∧(kf st').holds P G K1:=by
 refine lM.raw fun β R a w hs=>?_
 refine wp_region_list ?_
 have hl:ops.toList=ops.toList.take n++(o::ops.toList.drop (n+1)):=by rw[←ho,List.take_append_drop]
 rw[hl];refine tD _ _ _ (mK hext _ al1 st a w β R h1 hh hs fun a1 w1 β1 R1 st1 q1 q2 q3=>?_)
 show wpList P ops _ (o::ops.toList.drop (n+1)) a1 w1
 have hw:eQ o (yielded ops a1.tmps)=true:=by unfold eQ;rw[hg]
 simp only[wpList,hw,if_true];refine .inl ((hsp β1 R1 st1 a1 w1 o _ K1 q2 rfl q1).wp ?_);rintro u w' ⟨β',R',x,h',r1,r2,r3,r4,_⟩
 refine mK hext _ al2 _ _ _ _ _ h2 r1 (q2.put r4 r3 r2 o.dst) fun a2 w2 β2 R2 st2 p1 p2 p3=>?_
 have g2:=(q3.trans r4).trans p3
 exact⟨β2,R2,st2,⟨rfl,p1⟩,p2,g2.toFr,g2.rm⟩
theorem jP.spec{ext:Ext}(hext:cF P G ext){Z:St→Prop}{l r:List dD}{id:Nat}{ops:Array Oper}(hl:l=.raw (.region id ops false)::r)(n:Nat){o:Oper}{al1 al2:List AI}(ho:ops.toList.drop n=o::ops.toList.drop (n+1))(h1:gB P ops (ops.toList.take n)=some al1)(h2:gB P ops (ops.toList.drop (n+1))=some al2)(hg:o.guard=none)
  {sp:St→(V→List AO→Tr)→Tr} {op:Op} (hop:o.op=op) (hsp:aHS P G ext op sp) {st:St} {Q:X→St→Prop} (keep:List Bool) {d:Option Nat} (hd:o.dst=d) {tree:Tr} (ht:(kG ext al1 st fun s=>sp s fun v h=>kG ext al2 ⟨mL s.t d v,h⟩ fun s'=>.done .normal (gcS keep s'))=tree) (h:tree.holds P G fun e st'=>jP P G Z r st' Q):jP P G Z l st Q:=by
 subst hl;subst hop;subst hd;subst ht;refine lM.mono (lM.spec hext n ho h1 h2 hg hsp h) ?_;rintro e st' ⟨rfl,q⟩;exact jP.pre (iT keep st') q
theorem dK.spec{ext:Ext}(hext:cF P G ext){rs:List AR}{v:V}{l r:List dD}{id:Nat}{ops:Array Oper}(hl:l=.raw (.region id ops false)::r)(n:Nat){o:Oper}{al1 al2:List AI}(ho:ops.toList.drop n=o::ops.toList.drop (n+1))(h1:gB P ops (ops.toList.take n)=some al1)(h2:gB P ops (ops.toList.drop (n+1))=some al2)(hg:o.guard=none)
  {sp:St→(V→List AO→Tr)→Tr} {op:Op} (hop:o.op=op) (hsp:aHS P G ext op sp) {st:St} {Q:X→St→Prop} (keep:List Bool) {d:Option Nat} (hd:o.dst=d) {tree:Tr} (ht:(kG ext al1 st fun s=>sp s fun v h=>kG ext al2 ⟨mL s.t d v,h⟩ fun s'=>.done .normal (gcS keep s'))=tree) (h:tree.holds P G fun e st'=>dK P G rs v r st' Q):dK P G rs v l st Q:=by
 subst hl;subst hop;subst hd;subst ht;refine lM.mono (lM.spec hext n ho h1 h2 hg hsp h) ?_;rintro e st' ⟨rfl,q⟩;exact dK.pre (iT keep st') q
def aEE(e:TypeId)(ax ay:AX)(st:St)(k:V→List AO→Tr):Tr:=IH st ax (GX st e 1 ax fun n f old=>match st.ev ay with
 |.c (.p (.s s))=>.rq (n+s.size≤140737488355328) (k (.c (.sl (gA st.h) 1 0 (n+s.size))) (gE (.row e 1 (n+s.size) (fU n f fun e _=>.p (.i .u8 (s.data.toList.getD e 0).toNat))) (lB st.h old)))
 |_=>.fail) .fail
theorem QC(s:ByteArray){j:Nat}(hj:j<s.size):(Lib.strCells s)[j]?=some (.int .u8 (s.data.toList.getD j 0).toNat):=by
 unfold Lib.strCells
 have h:j<s.data.toList.length:=by rw[Array.length_toList];exact hj
 rw[List.getElem?_map,aH h,aD,aH h];rfl
theorem aED{ext:Ext}{t u e:TypeId}{i:TypeInfo}{x y:Operand}{ax ay:AX}(ht:P.underlying t=some (.slice e))(hu:P.underlying u=some .string)(hi:P.info? e=some i)(hz:i.zero=some (.int .u8 0))(h1:i.size=1)(hb:i.bytes=1)(hx:cX x=some ax)(hy:cX y=some ay) :
  aHS P G ext (.call { callee:=.builtin .append,args := #[x,y],argTypes := #[t,u] }) (aEE e ax ay):=by
 intro β R st a w o kk K hs ho h
 have hv:=aM hs hy
 unfold aEE at h
 rcases pM h with⟨h,hoff⟩|⟨_,_,_,_,_,_,h⟩
 rotate_left
 ·exact h.elim
 obtain⟨n,f,old,hd,h⟩:=GW hs hx hoff h;split at h
 case h_2=>exact h.elim
 rename_i s hes;rw[hes]at hv
 have hv:a.eval y=.string s:=hv
 obtain⟨hl,h⟩:=h
 have hrun:∀xs,w.ownsRow 0 e 1 (a.eval x) n xs→∃v' w',(execOp a.eval o).run P w=.ok (.value v') w'∧w'.ownsRow 0 e 1 v' (n+s.size) (xs++Lib.strCells s)∧w.grownBy w' (a.eval x).ownBlock∧(v'.ownBlock=(a.eval x).ownBlock∨v'.ownBlock=some w.heap.size):=by
  intro xs hown;obtain⟨v',w',hr,r1,r2,r3⟩:=Lib.run_append_own_string (P:=P) w 0 t u o.type e i ht hu hi hz h1 hb (a.eval x) n xs hown s (by unfold maxLen;omega) hl (Nat.zero_le _);refine⟨v',w',by simp[execOp,ho,resolve,invoke,builtin,hv,hr],r1,r2,?_⟩
  rcases hown.2 with⟨hn,h0⟩|⟨g,cap,cur,hn,hbg,hg,hnc,hcm,hcs,htake⟩
  ·by_cases hm:s.size=0
   ·left;rw[hn];rw[r3.2 ⟨hn,hm⟩]
   ·have hr2:=run_append_nil_string (P:=P) w t u o.type e i (.int .u8 0) ht hu hi hz s (by omega) (by omega) (by rw[hb];omega)
    rw[hn]at hr;rw[hr2]at hr;injection hr with e1 e2;right;rw[←e1];rfl
  ·have hcs':cur.size=cap:=by simpa using hcs
   by_cases hroom:n+s.size≤cap
   ·have hr2:=Lib.run_append_room_string (P:=P) w t u o.type e i ht hu hi h1 g n cap cur hg s hroom (by omega)
    rw[hn]at hr;rw[hr2]at hr;injection hr with e1 e2;left;rw[←e1,hn];rfl
   ·have holds:∀j u,xs[j]?=some u→w.cell? ((⟨g,0,none⟩:Addr).add j)=some u:=hown.cells (g:=g) (by rw[hn];rfl)
    have hxl:xs.length=n:=by simpa using hown.1
    have hr2:=Lib.run_append_grow_string (P:=P) w t u o.type e i (.int .u8 0) ht hu hi hz ⟨g,0,none⟩ n cap xs (by rw[h1];simpa using hxl) holds s (by omega) (by omega) (by rw[hb];exact growslice_fits (by omega) (by omega))
    rw[hn]at hr;rw[hr2]at hr;injection hr with e1 e2;right;rw[←e1];rfl
 obtain⟨v2,w',β',xv,h',q1,q2,q3,q4,q5,q6,_⟩:=uJ hs (o:=o) (x:=x) (sz:=1) (m:=s.size) (g:=fun e _=>.p (.i .u8 (s.data.toList.getD e 0).toNat)) (news:=Lib.strCells s) (by decide) hd (by rw[Lib.strCells_length];omega)
   (fun e o he ho=>by
    obtain rfl:o=0:=by omega
    exact⟨_,by rw[Nat.mul_one,Nat.add_zero];exact QC s he,rfl⟩) (fun _ _ _ _=>rfl) hrun h
 exact .inl ⟨v2,w',q1,β',R,xv,h',q2,q3,q4,q5,q6⟩
def aV6:B→V
 |.p x=>.c (.p x)
 |.ptr id off=>.c (.ptr id off)
def aB1:List B→List V
 |[]=>[]
 |x::r=>aV6 x::aB1 r
def aLZ(P:Program)(f:FuncId):Bool:=match P.funcs[f]? with
 |some fn=>fn.body.isSome&&fn.name != "runtime.NumGoroutine"
 |none=>false
theorem uI{β:Bt}{R:Nat→Prop}{w:World}:∀ {xs:List B} {us:List Value},All2 (BR β R w) xs us→All2 (VR β R w) (aB1 xs) us
 |[],[],_=>trivial
 |[],_::_,h=>h.elim
 |_::_,[],h=>h.elim
 |x::xs,u::us,h=>⟨by cases x<;>exact h.1,uI h.2⟩
def cT(b:UInt8)(_:Nat):PV:=.i .u8 b.toNat
end
section
variable {P:Program} {G:Nat→Option Obj}
def MJ(P:Program)(ext:Ext)(ax:AX)(args:List AX)(st:St)(k:V→List AO→Tr):Tr:=match st.ev ax with
 |.c (.fn (.func f) first cs)=>nH (aLZ P f) (ext f (aB1 first++(sY st args++aB1 cs)) st.h k)
 |_=>.fail
theorem All2.app{α γ:Type}{q:α→γ→Prop}:∀ {xs:List α} {us:List γ} {ys:List α} {vs:List γ},All2 q xs us→All2 q ys vs→All2 q (xs++ys) (us++vs)
 |[],[],_,_,_,h=>h
 |[],_::_,_,_,h,_=>h.elim
 |_::_,[],_,_,h,_=>h.elim
 |_::_,_::_,_,_,h,h2=>⟨h.1,All2.app h.2 h2⟩
theorem JK{ext:Ext}(hext:cF P G ext){x:Operand}{ax:AX}{args:Array Operand}{ts:Array TypeId}{al:List AX}(hx:cX x=some ax)(ha:yD args.toList=some al):aHS P G ext (.call { callee:=.value x,args:=args,argTypes:=ts }) (MJ P ext ax al):=by
 intro β R st a w o kk K hs ho h
 have hv:=aM hs hx
 unfold MJ at h;split at h
 case h_2=>exact h.elim
 rename_i f first cs he
 rw[he]at hv;obtain⟨us,vs,e1,e2,e3⟩:=hv;obtain⟨c1,h⟩:=bO h;unfold aLZ at c1;cases hf:P.funcs[f]? with
 |none=>rw[hf]at c1;cases c1
 |some fn=>
  rw[hf]at c1;simp only[Bool.and_eq_true]at c1;obtain⟨hb,hnm⟩:=c1
  have hc:=hext.fn _ _ _ _ _ h β R w (us++args.map a.eval++vs) (by
   have hm:All2 (VR β R w) (sY st al) (args.map a.eval).toList:=by simpa using rU hs args.toList al ha
   rw[eF,eF,eN]
   exact(uI e2).app (hm.app (uI e3))) hs.hs
  refine .inr (.inr ⟨f,us++args.map a.eval++vs,?_,?_⟩)
  ·have hnm':¬fn.name = "runtime.NumGoroutine" := by simpa using hnm
   have hb':¬fn.body=none:=by cases hq:fn.body<;>simp_all
   simp only[execOp,ho,resolve,e1,Deferred.ofValue,invoke];simp[callFunc,hf];rw[if_neg hnm',if_neg hb']
  ·refine hc.mono ?_
   rintro e w' ⟨u,β',R',x,h',rfl,h1,h2,h3,h4,h5⟩;exact⟨u,rfl,β',R',x,h',h1,h2,h3,h4,h5⟩
end
section
variable {P:Program} {G:Nat→Option Obj} {st:St}
theorem aK8(b off k:Nat):(⟨b,off,none⟩:Addr).add k=⟨b,off+k,none⟩:=by simp[Addr.add]
theorem pD{j id off n:Nat}{ty:TypeId}{cs:List C}(F:Nat→Nat→PV)(hj:aZ (.c .top) st.t j=.c (.ptr id off))(hid:aZ .gone st.h id=.cells ty cs)(hn:cs.length=n)(hF:∀o,o<n→∃x,aZ .top cs o=.p x∧nM x (F 0 o)) :
  cL G st ⟨upd (.c (.lp n 1 F 0 off)) st.t j,upd .gone st.h id⟩:=by
 intro β R a w hs
 have hh:=hs.hs
 have hlid:=iM hid (by simp)
 have hlive:(aZ .gone st.h id).live=true:=by rw[hid];rfl
 let R':Nat→Prop:=fun b1=>R b1∨∃N,β id=some (b1,N)
 have hkp:jI β R w β R' w:=⟨fun _ _ h=>h,fun _ h=>.inl h,fun _ _=>rfl⟩
 have hl2:∀i,(aZ .gone (upd .gone st.h id) i).live=true→i≠id∧(aZ .gone st.h i).live=true:=fun i hl=>kK hl
 have hlf:∀i,(aZ .gone st.h i).live=false→(aZ .gone (upd .gone st.h id) i).live=false:=fun i hl=>by
  by_cases e:id=i
  ·subst e;rw[eO _ _ _ hlid];rfl
  ·rw[dC _ _ _ e];exact hl
 have hHS:HS G β R' w (upd .gone st.h id):=by
  refine xY hh (by rw[fS,cD];exact aJ _) (fun i x hi=>by rw[fS,cD];exact hh.dom i x hi) (fun _ h=>.inl h) ?_ ?_ ?_ hh.lt ?_ ?_
  ·rintro b (h1|⟨N,h1⟩)
   ·exact hh.rlt b h1
   ·exact hh.lt id b N h1
  ·intro i j b o o' hi hj li lj
   exact hh.inj i j b o o' hi hj (hl2 i li).2 (hl2 j lj).2
  ·rintro i b o hi li (h1|⟨N,h1⟩)
   ·exact hh.sep i b o hi (hl2 i li).2 h1
   ·exact(hl2 i li).1 (hh.inj i id b o N hi h1 (hl2 i li).2 hlive)
  ·intro i b o hi
   cases hl:(aZ .gone (upd .gone st.h id) i).live with
   |false=>exact OR.dead_gone hkp hl (hh.obj i b o hi)
   |true=>
    obtain⟨k1,k2⟩:=hl2 i hl;rw[dC _ _ _ (fun e=>k1 e.symm)];exact OR.keep hkp (fun b1 k h1=>⟨h1,rfl⟩) rfl (hh.obj i b o hi)
  ·intro b2 ad hq
   obtain⟨q1,q2,q3⟩:=hh.ql b2 ad hq;refine⟨q1,fun h=>h.elim q2 ?_,fun i o hi=>hlf i (q3 i o hi)⟩;rintro⟨N,h1⟩
   have:=q3 id N h1
   rw[hlive]at this;cases this
 have hgr:Gr β R w β R' w:=⟨⟨rfl,rfl,rfl,aJ _,fun _ _=>rfl,fun _ _ _=>rfl,fun _ h=>.inl h,fun b hb=>by
  rcases hb with h|⟨N,h⟩
  ·exact .inl h
  ·exact .inr (.inl (.inl ⟨id,N,h⟩))⟩,fun _ _ h=>h,fun _ h=>.inl h⟩
 refine⟨β,R',⟨hs.df,?_,hHS⟩,hgr.toFr,hgr.rm⟩
 have htm:All2 (VR β R' w) st.t a.tmps.toList:=hs.tm.mono fun _ _ h=>VR.keep hkp h
 rw[fS]
 by_cases hjl:j<st.t.length
 ·obtain⟨v,hv,hvr⟩:=hs.tm.get j (aZ (.c .top) st.t j) (by rw[eG,aD,aH hjl];rfl)
  rw[hj]at hvr;obtain⟨b,o,g1,rfl⟩:=hvr
  have hob:=hh.obj id b o g1
  rw[hid]at hob;obtain⟨us,g2,g3⟩:=hob
  have key:VR β R' w (.c (.lp n 1 F 0 off)) (.pointer (some ⟨b,off,none⟩)):=by
   refine⟨⟨b,0,none⟩,by rw[aK8];simp,by omega,.inr ⟨o,g1⟩,fun e q he hq=>?_⟩
   obtain rfl:e=0:=by omega
   obtain⟨x,h1,h2⟩:=hF q hq
   have hx:cs[q]?=some (.p x):=by
    rw[eG,aD,aH (by omega)]at h1;rw[aH (by omega)];exact congrArg some h1
   obtain⟨u,h3,h4⟩:=g3.get q (.p x) hx;refine⟨u,?_,h2 _ _ _ (PR.keep (fun _ h=>.inl h) (fun _ _=>rfl) _ h4)⟩;rw[add_mid,cell_of_row w b _ us ty (0,0) g2,←h3,Array.getElem?_toList];congr 1;omega
  have h9:=htm.set j _ _ key
  have h8:a.tmps.toList.set j (.pointer (some ⟨b,off,none⟩))=a.tmps.toList:=by
   obtain⟨hj2,hv2⟩:=List.getElem?_eq_some_iff.1 hv;rw[←hv2,List.set_getElem_self]
  rwa [h8]at h9
 ·rw[List.set_eq_of_length_le (by omega)]
  exact htm
def VT(x:PV):C:=.lp 1 1 (fun _ _=>x) 0 0
theorem XJ{β:Bt}{R:Nat→Prop}{w:World}{sz n e o:Nat}{f:Nat→Nat→PV}{x:PV}{u:Value}(ho:o<sz)(hx:nM (f e o) x)(h:CR β R w (.lp sz n f e o) u):CR β R w (VT x) u:=by
 obtain⟨ad,rfl,he,hR,hc⟩:=h;refine⟨ad.add (e*sz+o),by cases ad;simp[Addr.add],by omega,by rw[pW];exact hR,fun e' o' he' ho'=>?_⟩
 obtain rfl:e'=0:=by omega
 obtain rfl:o'=0:=by omega
 obtain⟨u,h1,h2⟩:=hc e o he ho;refine⟨u,?_,hx _ _ _ h2⟩;rw[←h1];congr 1
end
end Go.AE
namespace Wi
open _root_.Array renaming toList_append→eF
open _root_.BitVec renaming ofInt→cB
open _root_.Int renaming ofNat→aY
open _root_.Go.IntKind renaming u64→bD,u8→cM
open _root_.List renaming append_assoc→eN,getD_eq_getElem?_getD→aD,getElem?_eq_getElem→aH,length_append→bJ,length_set→cD
open _root_.Nat renaming beq→aT,le_refl→aJ
open _root_.Go.Region renaming wanted→eQ
def jQ(n:Nat):List UInt8:=if n<128 then [UInt8.ofNat n] else UInt8.ofNat (n%128+128)::jQ (n / 128)
termination_by n
decreasing_by omega
def zag(n:Int):Nat:=if 0≤n then 2*n.toNat else 2*(-n).toNat-1
def rO(n:Int):List UInt8:=jQ (zag n)
def kX(s:ByteArray):List UInt8:=jQ s.size++s.data.toList
theorem aMQ{n:Int}(h1 : -9223372036854775808≤n)(h2:n≤9223372036854775807):zag n<18446744073709551616:=by
 unfold zag;split<;>omega
structure Rs where
 at_:Nat
 er:Int
theorem wX{n:Nat}(h:n<128):jQ n=[UInt8.ofNat n]:=by
 rw[jQ,if_pos h]
theorem CJ{n:Nat}(h:¬n<128):jQ n=UInt8.ofNat (n%128+128)::jQ (n / 128):=by
 rw[jQ,if_neg h]
theorem aBF(n:Nat):0<(jQ n).length:=by
 by_cases h:n<128
 ·rw[wX h];exact Nat.zero_lt_one
 ·rw[CJ h];simp
def Pc(B Z:List UInt8)(a b:Nat):Prop:=b=a+Z.length∧b≤B.length∧(B.drop a).take Z.length=Z
theorem Pc.app{B Z Z':List UInt8}{a b c:Nat}(h:Pc B Z a b)(k:Pc B Z' b c):Pc B (Z++Z') a c:=by
 obtain⟨rfl,h2,h3⟩:=h;obtain⟨rfl,k2,k3⟩:=k;refine⟨by rw[bJ];omega,k2,?_⟩;rw[bJ,List.take_add,h3,List.drop_drop,k3]
theorem Pc.nil{B:List UInt8}{a:Nat}(h:a≤B.length):Pc B [] a a:=⟨rfl,h,by simp⟩
theorem Pc.all{B Z:List UInt8}(h:Pc B Z 0 B.length):B=Z:=by
 obtain⟨h1,_,h3⟩:=h;rw[List.drop_zero,←show B.length=Z.length by omega,List.take_length]at h3;exact h3
end Wi
namespace Wi
open _root_.Array renaming toList_append→eF
open _root_.BitVec renaming ofInt→cB
open _root_.Int renaming ofNat→aY
open _root_.Go.IntKind renaming u64→bD,u8→cM
open _root_.List renaming append_assoc→eN,getD_eq_getElem?_getD→aD,getElem?_eq_getElem→aH,length_append→bJ,length_set→cD
open _root_.Nat renaming beq→aT,le_refl→aJ
open _root_.Go.Region renaming wanted→eQ
open Go Go.AE
theorem w8(n:Int):cM.wrap n=n%256:=by simp[IntKind.wrap,IntKind.bits,IntKind.signed]
theorem w64(n:Int):bD.wrap n=n%18446744073709551616:=IntKind.wrap_u64 n
theorem YQ(w k:Nat):(cB w (k:Int)).toNat=k%2^w:=by
 rw[BitVec.toNat_ofInt];omega
set_option maxRecDepth 100000 in
theorem aPY:∀x<256,x ||| 128=x%128+128:=by decide
theorem aKV(n:Nat):cM.wrap (↑(cB cM.bits (cM.wrap (n:Int)) ||| cB cM.bits 128).toNat:Int)=((UInt8.ofNat (n%128+128)).toNat:Int):=by
 have e:(cB cM.bits (cM.wrap (n:Int)) ||| cB cM.bits 128).toNat=n%128+128:=by
  show (cB 8 (cM.wrap (n:Int)) ||| cB 8 128).toNat=_
  have e1:cM.wrap (n:Int)=((n%256:Nat):Int):=by rw[w8];omega
  have e2:(cB 8 128).toNat=128:=by decide
  rw[e1,BitVec.toNat_or,YQ,e2,show n%256%2^8=n%256 by omega,aPY _ (by omega)];omega
 rw[e,w8,UInt8.toNat_ofNat'];omega
theorem aKG{n:Nat}(h:n<128):cM.wrap (n:Int)=((UInt8.ofNat n).toNat:Int):=by
 rw[w8,UInt8.toNat_ofNat'];omega
theorem aUK(n:Nat):(n:Int).fdiv (2^min (Int.toNat 7) bD.bits)=((n / 128:Nat):Int):=by
 show (n:Int).fdiv (2^7)=_
 rw[Int.fdiv_eq_ediv_of_nonneg _ (by decide)];rfl
theorem aDV{n:Int}(h1 : -9223372036854775808≤n)(h2:n≤9223372036854775807) :
  bD.wrap (↑(cB bD.bits (bD.wrap (bD.wrap n*2^min (Int.toNat 1) bD.bits)) ^^^ cB bD.bits (bD.wrap (n.fdiv (2^min (Int.toNat 63) IntKind.i64.bits)))).toNat:Int)=(zag n:Int):=by
 have e1:bD.wrap (bD.wrap n*2^min (Int.toNat 1) bD.bits)=((2*n)%18446744073709551616).toNat:=by
  show bD.wrap (bD.wrap n*2^1)=_
  rw[w64,w64];omega
 have e2:n.fdiv (2^min (Int.toNat 63) IntKind.i64.bits)=if 0≤n then 0 else -1:=by
  show n.fdiv (2^63)=_
  rw[Int.fdiv_eq_ediv_of_nonneg _ (by decide)]
  show n / 9223372036854775808=_
  split<;>omega
 rw[e1,e2];unfold zag
 show bD.wrap (↑(cB 64 _ ^^^ cB 64 _).toNat:Int)=_
 split
 ·rename_i h0
  rw[show bD.wrap 0=0 by decide]
  have e3:cB 64 0=0#64:=by decide
  rw[e3,BitVec.xor_zero,YQ,w64];omega
 ·rename_i h0
  have e3:cB 64 (bD.wrap (-1))=BitVec.allOnes 64:=by decide
  rw[e3,BitVec.xor_allOnes,BitVec.toNat_not,YQ,w64];omega
end Wi
namespace Go.AE
open _root_.Array renaming toList_append→eF
open _root_.BitVec renaming ofInt→cB
open _root_.Int renaming ofNat→aY
open IntKind renaming u64→bD,u8→cM
open _root_.List renaming append_assoc→eN,getD_eq_getElem?_getD→aD,getElem?_eq_getElem→aH,length_append→bJ,length_set→cD
open _root_.Nat renaming beq→aT,le_refl→aJ
open Region renaming wanted→eQ
open Go.Proofs Go.Proofs.YtjfofadeahdnnaaGreatDoor Go.RowKit Wi
def PQ(B:List UInt8):List AO:=[.cells 117 [.sl 1 1 0 B.length],.row 5 1 B.length (aR cT B)]
def uN(n:Int):V:=.c (.p (.i .u64 n))
def rV(B:List UInt8)(b:Nat):List AO:=[.pin 1 b,.cells 117 [.sl 2 1 0 B.length],.row 5 1 B.length (aR cT B)]
theorem tU1(n:Int)(b k:Nat)(B:List UInt8):dI fR (dN 2 (jM (dW Tryz.prog Tryz.f77) 0)) (cQ 31 [(0,.c (.ptr 0 0)),(1,uN n)] [.pin 1 b,.cells 117 [.sl 2 1 0 k],.row 5 1 k (aR cT B)]) (oZ [0] (iU 31 [0,1]) (bU Tryz.prog Tryz.f77))=bT (decide (128≤n))
 (.done .normal
 (cQ 31 [(0,.c (.ptr 0 0)),(1,.c (.p (.i bD n)))] [.pin 1 b,.cells 117 [.sl 2 1 0 k],.row 5 1 k fun e o=>cI [0,1,2] (aR cT B e o)]))
 (.done (.exit 0)
 (cQ 31 [(0,.c (.ptr 0 0)),(1,.c (.p (.i bD n)))] [.pin 1 b,.cells 117 [.sl 2 1 0 k],.row 5 1 k fun e o=>cI [0,1,2] (aR cT B e o)])):=by kernel_rfl
theorem tU2(n:Int)(b k:Nat)(B:List UInt8):dI fR (bZ 2 (jM (dW Tryz.prog Tryz.f77) 0)) (cQ 31 [(0,.c (.ptr 0 0)),(1,uN n)] [.pin 1 b,.cells 117 [.sl 2 1 0 k],.row 5 1 k (aR cT B)]) (oZ [0] (iU 31 [0,1]) (bU Tryz.prog Tryz.f77))=Tr.rq (k=k)
 (.rq (1≤1)
 (.rq
 ((k+1)*1≤140737488355328 ∧
 k+1≤140737488355328 ∧
 ∀(e o:Nat),
 e<1 →
 o<1→jH (kY [C.p (PV.i cM (cM.wrap (↑(cB cM.bits (cM.wrap n) ||| cB cM.bits 128).toNat:Int)))] 1 1 (e+0) o)=true)
 (.rq (aY 0≤aY 7)
 (.done .normal
 (cQ 31 [(0,.c (.ptr 0 0)),(1,.c (.p (.i bD (n.fdiv (2^min (Int.toNat 7) bD.bits)))))] [.pin 1 b,.cells 117 [.sl 2 1 0 (k+1)],.row 5 1 (k+1) fun e o=>cI [0,1,4] (fU k (aR cT B) (fun e o=>aZ C.top [C.p (PV.i cM (cM.wrap (↑(cB cM.bits (cM.wrap n) ||| cB cM.bits 128).toNat:Int)))] ((e+0)*1+o)) e o)]))))):=by kernel_rfl
theorem tU3(n:Int)(b k:Nat)(B:List UInt8):dI fR (bZ 1 (dW Tryz.prog Tryz.f77)) (cQ 31 [(0,.c (.ptr 0 0)),(1,uN n)] [.pin 1 b,.cells 117 [.sl 2 1 0 k],.row 5 1 k (aR cT B)]) (oZ [0] (iU 31 [0,1]) (bU Tryz.prog Tryz.f77))=Tr.rq (k=k)
 (.rq (1≤1)
 (.rq ((k+1)*1≤140737488355328∧k+1≤140737488355328∧∀(e o:Nat),e<1→o<1→jH (kY [C.p (PV.i cM (cM.wrap n))] 1 1 (e+0) o)=true)
 (.done .normal
 (cQ 31 [(0,.c (.ptr 0 0)),(1,.c (.p (.i bD n)))] [.pin 1 b,.cells 117 [.sl 2 1 0 (k+1)],.row 5 1 (k+1) fun e o=>cI [0,1,4] (fU k (aR cT B) (fun e o=>aZ C.top [C.p (PV.i cM (cM.wrap n))] ((e+0)*1+o)) e o)])))):=by kernel_rfl
theorem qE(j:Nat):aT j j=true:=Nat.beq_refl j
theorem nL{j r:Nat}(h:j≠r):aT j r=false:=Bool.eq_false_iff.2 fun e=>h (Nat.eq_of_beq_eq_true e)
theorem CF{P:Program}{G:Nat→Option Obj}{f:FuncId}{args:List V}{h h':List AO}{K:V→List AO→Prop}(he:∀(β:Bt) (R:Nat→Prop) (w:World),HS G β R w h→HS G β R w h')(hl:h'.length=h.length)(hf:lW P G f args h' K):lW P G f args h K:=by
 intro β R w vs ha hh;refine(hf β R w vs ha (he β R w hh)).mono ?_;rintro e w' ⟨u,β',R',x,h2,q1,q2,q3,q4,q5,q6⟩;exact⟨u,β',R',x,h2,q1,q2,q3,q4,q5,fun i hi=>q6 i (by omega)⟩
theorem aDY{ρ ids js:List Nat}{h hE:List AO}{r:Nat}(v:AO)(h1:xV ids js r=none)(h2:oV r ρ=true):lP ρ ids js (upd v h r) hE=lP ρ ids js h hE:=by
 unfold lP
 have hl:gA (upd v h r)=gA h:=by rw[fD,fD,fS,cD]
 rw[hl];congr 1
 generalize hF:RJ ρ ids js (gA h) hE=F
 have hFr:∀x y,F r x=F r y:=fun x y=>by
  rw[←hF];unfold RJ;rw[h1,h2]
 clear hF hl
 have key:∀(l:List AO) (i k:Nat),(∀x y,F (i+k) x=F (i+k) y)→FL F i (upd v l k)=FL F i l:=by
  intro l;induction l with
  |nil=>intro i k _;rfl
  |cons x l ih=>
   intro i k hk;cases k with
   |zero=>
    show F i v::_=F i x::_
    rw[show F i v=F i x from hk v x]
   |succ k=>
    show F i x::FL F (i+1) (upd v l k)=F i x::FL F (i+1) l
    rw[ih (i+1) k (by rw[show i+1+k=i+(k+1) by omega];exact hk)]
 exact key h 0 r (by rw[Nat.zero_add];exact hFr)
theorem aE1(ρ:List Nat)(j:Nat)(h:List AO){hE hE':List AO}(e:hE.tail=hE'.tail)(p:aZ .gone hE 1=aZ .gone hE' 1){b b':Nat}(h1:hE.head?=some (.pin 1 b))(h2:hE'.head?=some (.pin 1 b')):lP ρ [j] [1] h hE=lP ρ [j] [1] h hE':=by
 cases hE with
 |nil=>cases h1
 |cons x t=>
  cases hE' with
  |nil=>cases h2
  |cons y t'=>
   obtain rfl:x=.pin 1 b:=by simpa using h1
   obtain rfl:y=.pin 1 b':=by simpa using h2
   obtain rfl:t=t':=e;unfold lP
   have e:RJ ρ [j] [1] (gA h) (.pin 1 b::t)=RJ ρ [j] [1] (gA h) (.pin 1 b'::t):=by
    funext i x;unfold RJ xV;cases aT j i<;>rfl
   rw[e];rfl
def OG(B:List UInt8)(j:Nat)(h:List AO):Option (Prop×Nat):=match aZ .gone h j with
 |.cells 117 [.sl r 1 0 n]=>match aZ .gone h r with
  |.row 5 1 n' f=>some (n=B.length∧n'=B.length∧∀e o,e<B.length→o<1→f e o=aR cT B e o,r)
  |_=>none
 |_=>none
theorem oX{B:List UInt8}{j:Nat}{h:List AO}{r:Nat}{q:Prop}(he:OG B j h=some (q,r))(hq:q):∃f,aZ .gone h j=.cells 117 [.sl r 1 0 B.length]∧aZ .gone h r=.row 5 1 B.length f∧∀e o,e<B.length→o<1→f e o=aR cT B e o:=by
 unfold OG at he
 split at he;rotate_left;· cases he
 rename_i r0 n hj
 split at he;rotate_left;· cases he
 rename_i n' f h1;injection he with he;injection he with e1 e2;subst e1;subst e2;obtain⟨rfl,rfl,hf⟩:=hq;exact⟨f,hj,h1,hf⟩
section
variable {G:Nat→Option Obj}
set_option maxRecDepth 100000 in
theorem YY{f:FuncId}{fn:Func}(hf:(Tryz.prog).funcs[f]?=some fn)(hok:okF Tryz.prog fn=true){args vs:List V}{B B':List UInt8}{h:List AO}{j r:Nat}{g:Nat→Nat→C}(hj:aZ .gone h j=.cells 117 [.sl r 1 0 B.length])(hr:aZ .gone h r=.row 5 1 B.length g)(hg:∀e o,e<B.length→o<1→g e o=aR cT B e o)
  (hargs:qB [j,r] [j] 2 args=qB [0,1] [0] 2 args)
  (H:∀b,jP Tryz.prog G (Zm [0] (bU Tryz.prog fn) fun s=>cL G s ⟨[.c (.ptr 0 0)]++vs,rV B' b⟩) (dW Tryz.prog fn) (oU fn [0,1] [0] [b] (.c (.ptr 0 0)::args) (PQ B)) fun e s=>e=.normal∧Zm [0] (bU Tryz.prog fn) (fun s=>cL G s ⟨[.c (.ptr 0 0)]++vs,rV B' b⟩) s):lW Tryz.prog G f (.c (.ptr j 0)::args) h fun x h'=>x=aC5 (DO [1] [j] h.length vs)∧h'=lP [j,r] [j] [1] h (rV B' 0):=by
 have n1:j≠r:=by rintro rfl;rw[hj]at hr;cases hr
 have hlr:r<h.length:=iM hr (by simp)
 refine CF (h':=upd (.row 5 1 B.length (aR cT B)) h r) (fun β R w hh=>GE hh hr hg) (by rw[fS,cD]) ?_
 have hj':aZ .gone (upd (.row 5 1 B.length (aR cT B)) h r) j=.cells 117 [.sl r 1 0 B.length]:=by rw[dC _ _ _ (Ne.symm n1)];exact hj
 have hr':aZ .gone (upd (.row 5 1 B.length (aR cT B)) h r) r=.row 5 1 B.length (aR cT B):=eO _ _ _ hlr
 have hout:=aDY (ρ:=[j,r]) (ids:=[j]) (js:=[1]) (h:=h) (hE:=rV B' 0) (r:=r) (.row 5 1 B.length (aR cT B)) (by
  show (match aT j r with
   |true=>some 1
   |false=>xV [] [] r)=none
  rw[nL n1];rfl) (by
  show (aT j r||(aT r r||_))=true
  rw[qE];simp)
 have hlen:(upd (.row 5 1 B.length (aR cT B)) h r).length=h.length:=by rw[fS,cD]
 rw[←hout,←hlen]
 generalize upd (.row 5 1 B.length (aR cT B)) h r=h0 at hj' hr' ⊢
 clear hj hr hg hout hlen hlr
 refine fun β R w us hw hh=>(aGV (ρ:=[j,r]) (ids:=[j]) (ps:=[0]) (pns:=[0]) (js:=[1]) (sl:=[.c (.ptr 0 0)]) (vs:=vs) (hE:=fun bs=>rV B' (aZ 0 bs 0)) hf hok ?_ ?_ (by simp) (by simp) rfl rfl rfl (fun i pn h=>?_) (fun bs hb i pn j b h1 h2 h3=>?_) (fun bs hb=>?_) β R w us hw hh).mono ?_
 ·simp[oR,oV,nL n1,nL (Ne.symm n1)]
 ·simp[qM,hj',hr',AO.live]
 ·cases i with
  |zero=>obtain rfl:0=pn:=by simpa using h
         exact⟨0,by simp⟩
  |succ i=>simp at h
 ·cases i with
  |zero=>
   obtain rfl:0=pn:=by simpa using h1
   obtain rfl:1=j:=by simpa using h2
   cases bs with
   |nil=>simp at hb
   |cons b0 bs=>
    obtain rfl:b0=b:=by simpa using h3
    exact⟨rfl,rfl⟩
  |succ i=>simp at h1
 ·obtain⟨bb,rfl⟩:∃b,bs=[b]:=by
    cases bs with
    |nil=>simp at hb
    |cons b0 bs=>cases bs with
     |nil=>exact⟨b0,rfl⟩
     |cons _ _=>simp at hb
  have i1:iN j [j,r] 0=some 0:=by simp only[iN,qE]
  have i2:iN r [j,r] 0=some 1:=by simp only[iN,qE,nL n1]
  have i5:iN j [j] 0=some 0:=by simp only[iN,qE]
  have e:oU fn [j,r] [j] [bb] (.c (.ptr j 0)::args) h0=oU fn [0,1] [0] [bb] (.c (.ptr 0 0)::args) (PQ B):=by
   unfold oU inH
   have e1:qB [j,r] [j] ([j,r]:List Nat).length (.c (.ptr j 0)::args)=qB [0,1] [0] ([0,1]:List Nat).length (.c (.ptr 0 0)::args):=by
    show OJ [j,r] [j] 2 (.c (.ptr j 0))::qB [j,r] [j] 2 args=OJ [0,1] [0] 2 (.c (.ptr 0 0))::qB [0,1] [0] 2 args
    rw[hargs];congr 1;simp only[OJ,PN,i5];rfl
   have e2:mB [j,r] h0 [j,r]=mB [0,1] (PQ B) [0,1]:=by
    simp only[mB,hj',hr',QL,tN,cI,i2,aIO];rfl
   have e3:vG [j,r] [j] [bb]=vG [0,1] [0] [bb]:=by
    simp only[vG,i1];rfl
   rw[e1,e2,e3];rfl
  rw[e];exact H bb
 ·rintro e w' ⟨u,β',R',x,h',rfl,⟨bs,hb,hx,hh'⟩,hr⟩
  exact⟨u,β',R',x,h',rfl,⟨hx,hh'.trans (aE1 _ _ _ rfl rfl rfl rfl)⟩,hr⟩
theorem aAD(x:UInt8):∀o:Nat,o<1→(fun e o:Nat=>aZ C.top [C.p (PV.i cM (x.toNat:Int))] ((e+0)*1+o)) 0 o=.p (cT x o):=by
 intro o ho
 obtain rfl:o=0:=by omega
 rfl
set_option maxRecDepth 100000 in
theorem aBE(B:List UInt8)(n:Nat)(hB:(B++jQ n).length≤140737488355328)(b:Nat):jP Tryz.prog G (Zm [0] (bU Tryz.prog Tryz.f77) fun s=>cL G s ⟨[.c (.ptr 0 0)]++[],rV (B++jQ n) b⟩) (dW Tryz.prog Tryz.f77) (oU Tryz.f77 [0,1] [0] [b] [.c (.ptr 0 0),uN n] (PQ B)) fun e s=>e=.normal∧Zm [0] (bU Tryz.prog Tryz.f77) (fun s=>cL G s ⟨[.c (.ptr 0 0)]++[],rV (B++jQ n) b⟩) s:=by
 refine jP.loop' (l:=dW Tryz.prog Tryz.f77) (id:=0) (b:=inr (inr (aZ .skip (dW Tryz.prog Tryz.f77) 0))) (r:=bZ 1 (dW Tryz.prog Tryz.f77)) (by kernel_rfl) (σ:=List UInt8×Nat)
   (fun s=>(fun n B k=>cQ 31 [(0,.c (.ptr 0 0)),(1,uN n)] [.pin 1 b,.cells 117 [.sl 2 1 0 k],.row 5 1 k (aR cT B)]) ((s.2:Nat):Int) s.1 s.1.length) (fun s=>s.1++jQ s.2=B++jQ n) (fun s=>s.2) (B,n) rfl ((pB [2,0,1] (iU 31 [0,1]) (by kernel_rfl) _).trans (aP (by kernel_rfl))) ?_
 rintro⟨B1,m⟩ h1 Q1 q1n q1e _;dsimp only at h1 q1n ⊢
 have hl:B1.length+(jQ m).length=(B++jQ n).length:=by rw[←h1,bJ]
 have hp:=aBF m
 have ex:∀x:UInt8,∀e o:Nat,e<1→o<1→jH (kY [C.p (PV.i cM (x.toNat:Int))] 1 1 (e+0) o)=true:=fun x e o he ho=>by
  obtain rfl:e=0:=by omega
  obtain rfl:o=0:=by omega
  rfl
 refine jP.evG aV 2 (tU1 m b B1.length B1) ?_;simp only[eV,aL,jC,OE,decide_eq_true_eq,decide_eq_false_iff_not];refine⟨fun c=>⟨?_⟩,fun c=>⟨q1e _ ?_⟩⟩
 ·refine jP.pre (aP (st':=(fun n B k=>cQ 31 [(0,.c (.ptr 0 0)),(1,uN n)] [.pin 1 b,.cells 117 [.sl 2 1 0 k],.row 5 1 k (aR cT B)]) (m:Int) B1 B1.length) (by kernel_rfl)) (jP.evH aV (tU2 m b B1.length B1) ?_)
  simp only[aX,aL,jC];rw[aKV,aUK]
  have e:=CJ (n:=m) (by omega)
  rw[e]at h1 hl;rw[List.length_cons]at hl;refine⟨trivial,aJ _,⟨by omega,by omega,ex _⟩,by decide,⟨q1n (B1++[UInt8.ofNat (m%128+128)],m / 128) _ ?_ ?_ ?_⟩⟩
  ·show (B1++[_])++_=_
   rw[eN];exact h1
  ·show m / 128<m;omega
  ·have hlx:(B1++[UInt8.ofNat (m%128+128)]).length=B1.length+1:=by simp
   rw[hlx];exact gU ⟨rfl,rfl,⟨rfl,rfl,rfl,fun e o he ho=>oT (ρ:=[0,1,4]) rfl (aAD _) he ho⟩,trivial⟩
 ·refine jP.pre (aP (st':=(fun n B k=>cQ 31 [(0,.c (.ptr 0 0)),(1,uN n)] [.pin 1 b,.cells 117 [.sl 2 1 0 k],.row 5 1 k (aR cT B)]) (m:Int) B1 B1.length) (by kernel_rfl)) (jP.evH aV (tU3 m b B1.length B1) ?_)
  simp only[aX,aL,jC]
  have hm:m<128:=by omega
  rw[aKG hm]
  have e:=wX hm
  rw[e]at h1 hl
  have hl:B1.length+1=_:=hl
  refine⟨trivial,aJ _,⟨by omega,by omega,ex _⟩,⟨trivial,?_⟩⟩;refine⟨[],rfl,?_⟩;rw[←h1];unfold rV
  have hlx:(B1++[UInt8.ofNat m]).length=B1.length+1:=by simp
  rw[hlx]
  refine(aP (st':=⟨[.c (.ptr 0 0)],[.pin 1 b,.cells 117 [.sl 2 1 0 (B1.length+1)],.row 5 1 (B1.length+1) (fun e o=>cI [0,1,2] (cI [0,1,4] (fU B1.length (aR cT B1) (fun e o=>aZ C.top [C.p (PV.i cM ((UInt8.ofNat m).toNat:Int))] ((e+0)*1+o)) e o)))]⟩) (by kernel_rfl)).trans ?_
  exact YZ ⟨rfl,rfl,⟨rfl,rfl,rfl,fun e o he ho=>congrArg (cI [0,1,2]) (oT (ρ:=[0,1,4]) rfl (aAD _) he ho)⟩,trivial⟩
def wU(h:List AO)(j:Nat):Nat:=match aZ .gone h j with
 |.pin i _=>i
 |_=>j
theorem ZC{P:Program}{f:FuncId}{q off:Nat}{args:List V}{h:List AO}{K:V→List AO→Prop}(hf:lW P G f (.c (.ptr (wU h q) off)::args) h K):lW P G f (.c (.ptr q off)::args) h K:=by
 unfold wU at hf;split at hf
 ·rename_i j b0 hq
  intro β R w vs ha hh;refine hf β R w vs ?_ hh
  generalize vs.toList=us at ha
  cases us with
  |nil=>exact ha.elim
  |cons u us=>
   obtain⟨h1,h2⟩:=ha;obtain⟨b,o,e1,e2⟩:=h1
   have hob:=hh.obj q b o e1
   rw[hq]at hob;obtain⟨e3,o2,e4⟩:=hob;subst e3;exact⟨⟨_,o2,e4,e2⟩,h2⟩
 ·exact hf
theorem mZ{p q:Prop}{v u:V}{h h':List AO}(e:some (p,v,h)=some (q,u,h')):p=q∧v=u∧h=h':=by
 injection e with e;injection e with e1 e;injection e with e2 e3;exact⟨e1,e2,e3⟩
def WW(B:List UInt8)(m:Nat):sT:=fun args h=>match args with
 |[.c (.ptr j 0),.c (.p (.i .u64 n))]=>match OG B (wU h j) h with
  |some (q,r)=>some (q∧n=(m:Int)∧(B++jQ m).length≤140737488355328,.t [],lP [wU h j,r] [wU h j] [1] h (rV (B++jQ m) 0))
  |none=>none
 |_=>none
set_option maxRecDepth 100000 in
theorem aJE(B:List UInt8)(m:Nat):lV Tryz.prog G 77 (WW B m):=by
 intro args h p v h' hm hp;unfold WW at hm
 split at hm;rotate_left;· cases hm
 split at hm;rotate_left;· cases hm
 rename_i j n _ q r hw;obtain⟨rfl,rfl,rfl⟩:=mZ hm;obtain⟨hq,rfl,hB⟩:=hp;obtain⟨g,k1,k2,k3⟩:=oX hw hq
 exact ZC (YY (args:=[uN m]) (vs:=[]) Tryz.func77 (by kernel_rfl) k1 k2 k3 rfl fun b=>aBE B m hB b)
def aGW(B:List UInt8)(m:Nat):Ext:=rT [(77,WW B m)]
end
theorem tWI(n:Int)(m b:Nat)(B:List UInt8):dI (aGW B m) (dW Tryz.prog Tryz.f58) (oU Tryz.f58 [0,1] [0] [b] [.c (.ptr 0 0),iV n] (PQ B)) (oZ [0] (iU 13 [0]) (bU Tryz.prog Tryz.f58))=Tr.rq (aY 0≤aY 1)
 (.rq (aY 0≤aY 63)
 (.rq
 ((B.length=B.length∧B.length=B.length∧∀(e o:Nat),e<B.length→o<1→cI [0,1] (aR cT B e o)=aR cT B e o) ∧
 bD.wrap (↑(cB 64 (bD.wrap (bD.wrap n*2^1)) ^^^ cB 64 (bD.wrap (n.fdiv (2^63)))).toNat:Int)=(↑m:Int) ∧
 (B++jQ m).length≤140737488355328)
 (.done .normal
 (cQ 13 [(0,.c (.ptr 0 0))] [.pin 1 b,.cells 117 [.sl 2 1 0 (B++jQ m).length],.row 5 1 (B++jQ m).length fun e o=>cI [2,0,5] (C.p (PV.i cM (↑((B++jQ m).getD e default).toNat:Int)))])))):=by kernel_rfl
theorem tWT(s:ByteArray)(m b:Nat)(B:List UInt8):dI (aGW B m) (dN 1 (dW Tryz.prog Tryz.f56)) (oU Tryz.f56 [0,1] [0] [b] [.c (.ptr 0 0),.c (.p (.s s))] (PQ B)) (oZ [0] (iU 18 [0,1]) (bU Tryz.prog Tryz.f56))=Tr.rq
 ((B.length=B.length∧B.length=B.length∧∀(e o:Nat),e<B.length→o<1→cI [0,1] (aR cT B e o)=aR cT B e o) ∧
 bD.wrap (↑s.size:Int)=(↑m:Int)∧(B++jQ m).length≤140737488355328)
 (.done .normal
 (cQ 18 [(0,.c (.ptr 0 0)),(1,.c (.p (.s s)))] [.pin 1 b,.cells 117 [.sl 2 1 0 (B++jQ m).length],.row 5 1 (B++jQ m).length fun e o=>cI [2,0,5] (C.p (PV.i cM (↑((B++jQ m).getD e default).toNat:Int)))])):=by kernel_rfl
def ML:dD→Array Oper
 |.raw (.region _ ops _)=>ops
 |_ => #[]
noncomputable def aBY:Array Oper:=ML (aZ .skip (dW Tryz.prog Tryz.f56) 1)
noncomputable def aR4:List AI:=(gB Tryz.prog aBY (aBY.toList.take 6)).getD []
noncomputable def aR1:List AI:=(gB Tryz.prog aBY (aBY.toList.drop 7)).getD []
theorem aRY(s:ByteArray)(b k:Nat)(B:List UInt8):kG fR aR4 (cQ 18 [(0,.c (.ptr 0 0)),(1,.c (.p (.s s)))] [.pin 1 b,.cells 117 [.sl 2 1 0 k],.row 5 1 k (aR cT B)]) (fun st=>aEE 5 (.t 13) (.t 14) st fun v h=>kG fR aR1 ⟨mL st.t (some 15) v,h⟩ fun s'=>.done .normal (gcS (iU 18 [0]) s'))=Tr.rq (k=k)
  (Tr.rq (k+s.size≤140737488355328)
   (Tr.done X.normal
    (cQ 18 [(0,V.c (C.ptr 0 0))] [AO.pin 1 b,AO.cells 117 [C.sl 2 1 0 (k+s.size)],AO.row 5 1 (k+s.size) fun e o=>cI [0,1,3] (fU k (aR cT B) (fun e x=>C.p (PV.i cM (↑(s.data.toList.getD e 0).toNat:Int))) e o)]))):=by kernel_rfl
end Go.AE
namespace Go.AE
open _root_.Array renaming toList_append→eF
open _root_.BitVec renaming ofInt→cB
open _root_.Int renaming ofNat→aY
open IntKind renaming u64→bD,u8→cM
open _root_.List renaming append_assoc→eN,getD_eq_getElem?_getD→aD,getElem?_eq_getElem→aH,length_append→bJ,length_set→cD
open _root_.Nat renaming beq→aT,le_refl→aJ
open Region renaming wanted→eQ
open Go.Proofs Go.Proofs.YtjfofadeahdnnaaGreatDoor Go.RowKit Wi
theorem aV7(X M:List UInt8)(e o:Nat):fU X.length (aR cT X) (fun e x=>C.p (PV.i cM (↑(M.getD e 0).toNat:Int))) e o=aR cT (X++M) e o:=by
 unfold fU aR bF cT
 by_cases h:e<X.length
 ·rw[if_pos h]
  simp[List.getElem?_append_left h]
 ·rw[if_neg h]
  show C.p (PV.i cM (↑(M.getD (e-X.length) 0).toNat:Int))=C.p (PV.i cM (↑((X++M).getD e default).toNat:Int))
  rw[aD,aD,List.getElem?_append_right (by omega)];rfl
def leU(x:V)(B:List UInt8):Option Prop:=match x with
 |.c (.p (.l 1 n f))=>some (n=B.length∧∀e o,e<B.length→o<1→f e o=bF cT B e o)
 |.c (.p (.z (.slice none 0 0)))=>some (B=[])
 |_=>none
theorem aFX{x:V}{p:Prop}{B:List UInt8}(h:leU x B=some p)(hp:p):lO x (aQ cT 1 B):=by
 unfold leU at h;split at h
 ·injection h with h
  subst h;obtain⟨rfl,h2⟩:=hp;exact lO.p (nM.l fun e o he ho=>nM.of_eq (h2 e o he ho))
 ·injection h with h
  subst h;subst hp;exact lO.p (nM.nil 1 _)
 ·cases h
def aO3(L:List UInt8):sT
 |[x],h=>match leU x L with
  |some p=>some (p∧L.length≤140737488355328,.c (.sl (gA h) 1 0 L.length),lP [] [] [] h [.row 5 1 L.length (aR cT L)])
  |none=>none
 |_,_=>none
def aMF(L:List UInt8):Ext:=aK0 79 (aO3 L) fR
theorem aUA(h:List AO)(L:List UInt8):dI fR (dW Tryz.prog Tryz.f79) (oU Tryz.f79 [] [] [] [aQ cT 1 L] h) (oZ [] [] (bU Tryz.prog Tryz.f79))=bT (decide (0<L.length))
 (Tr.rq (0=0)
 (Tr.rq ((0+L.length)*1≤140737488355328∧0+L.length≤140737488355328∧∀(e o:Nat),e<L.length→o<1→jH (C.p (bF cT L e o))=true)
 (Tr.done X.ret
 (St.mk [V.c (C.sl 0 1 0 (0+L.length))] [AO.row 5 1 (0+L.length) fun e o=>cI [1] (fU 0 (fun e o=>aZ C.top [] (e*1+o)) (fun e o=>C.p (PV.i cM (↑(L.getD e default).toNat:Int))) e o)]))))
 ((Tr.done X.ret (St.mk [V.c (C.p (PV.z (Value.slice none 0 0)))] [])).alt
 (Tr.rq (0=0)
 (Tr.rq ((0+L.length)*1≤140737488355328∧0+L.length≤140737488355328∧∀(e o:Nat),e<L.length→o<1→jH (C.p (bF cT L e o))=true)
 (Tr.done X.ret
 (St.mk [V.c (C.sl 0 1 0 (0+L.length))] [AO.row 5 1 (0+L.length) fun e o=>cI [1] (fU 0 (fun e o=>aZ C.top [] (e*1+o)) (fun e o=>C.p (PV.i cM (↑(L.getD e default).toNat:Int))) e o)]))))):=by kernel_rfl
section
variable {G:Nat→Option Obj}
theorem AM(B:List UInt8)(m:Nat):cF Tryz.prog G (aGW B m):=iX (by simp;exact aJE B m)
set_option maxRecDepth 100000 in
theorem aB7(B:List UInt8)(n:Int)(h1:inR .i64 n)(hB:(B++rO n).length≤140737488355328)(b:Nat):jP Tryz.prog G (Zm [0] (bU Tryz.prog Tryz.f58) fun s=>cL G s ⟨[.c (.ptr 0 0)]++[],rV (B++rO n) b⟩) (dW Tryz.prog Tryz.f58) (oU Tryz.f58 [0,1] [0] [b] [.c (.ptr 0 0),iV n] (PQ B)) fun e s=>e=.normal∧Zm [0] (bU Tryz.prog Tryz.f58) (fun s=>cL G s ⟨[.c (.ptr 0 0)]++[],rV (B++rO n) b⟩) s:=by
 refine jP.evH (AM B (zag n)) (tWI n (zag n) b B) ?_;simp only[aX,aL,jC];refine⟨by decide,by decide,⟨⟨trivial,trivial,fun _ _ _ _=>rfl⟩,?_,hB⟩,⟨trivial,[],rfl,aP ?_⟩⟩
 ·have:=aDV h1.1 h1.2
  exact this
 ·unfold rV rO
  rfl
set_option maxRecDepth 100000 in
theorem aBG(B:List UInt8)(s:ByteArray)(hs:s.size≤140737488355328)(hB:(B++kX s).length≤140737488355328)(b:Nat):jP Tryz.prog G (Zm [0] (bU Tryz.prog Tryz.f56) fun st=>cL G st ⟨[.c (.ptr 0 0)]++[],rV (B++kX s) b⟩) (dW Tryz.prog Tryz.f56) (oU Tryz.f56 [0,1] [0] [b] [.c (.ptr 0 0),.c (.p (.s s))] (PQ B)) fun e st=>e=.normal∧Zm [0] (bU Tryz.prog Tryz.f56) (fun st=>cL G st ⟨[.c (.ptr 0 0)]++[],rV (B++kX s) b⟩) st:=by
 have hl:s.data.toList.length=s.size:=by rw[Array.length_toList];rfl
 have hB2:(B++kX s).length=(B++jQ s.size).length+s.size:=by unfold kX;simp;omega
 refine jP.evG (AM B s.size) 1 (tWT s s.size b B) ?_;simp only[aX,aL,jC];refine⟨⟨⟨trivial,trivial,fun _ _ _ _=>rfl⟩,?_,by omega⟩,⟨?_⟩⟩
 ·rw[w64];omega
 have e:bZ 1 (dW Tryz.prog Tryz.f56)=[.raw (.region 1 aBY false)]:=by kernel_rfl
 rw[e]
 refine jP.pre (aP (st':=(fun k B=>cQ 18 [(0,.c (.ptr 0 0)),(1,.c (.p (.s s)))] [.pin 1 b,.cells 117 [.sl 2 1 0 k],.row 5 1 k (aR cT B)]) (B++jQ s.size).length (B++jQ s.size)) (by kernel_rfl)) ?_
 refine jP.spec aV rfl 6 (o:=aBY.toList.getD 6 default) (al1:=aR4) (al2:=aR1) (by kernel_rfl) (by kernel_rfl) (by kernel_rfl) (by kernel_rfl) (op:=.call { callee:=.builtin .append,args := #[.tmp 13,.tmp 14],argTypes := #[85,9] }) (by kernel_rfl)
   (aED (i:=((Tryz.prog).info? 5).get (by kernel_rfl)) (by kernel_rfl) (by kernel_rfl) (by kernel_rfl) (by kernel_rfl) (by kernel_rfl) (by kernel_rfl) (by kernel_rfl) (by kernel_rfl)) (iU 18 [0]) (d:=some 15) (by kernel_rfl) (aRY s b (B++jQ s.size).length (B++jQ s.size)) ?_
 simp only[aX,aL];refine⟨trivial,by omega,⟨_,cL.refl _,⟨rfl,[],rfl,?_⟩⟩⟩;unfold rV kX;rw[←eN]
 generalize B++jQ s.size=X at hB2 ⊢
 have hlx:(X++s.data.toList).length=X.length+s.size:=by rw[bJ,hl]
 rw[hlx]
 refine(aP (st':=⟨[.c (.ptr 0 0)],[.pin 1 b,.cells 117 [.sl 2 1 0 (X.length+s.size)],.row 5 1 (X.length+s.size) (fun e o=>cI [0,1,2] (cI [0,1,3] (fU X.length (aR cT X) (fun e x=>C.p (PV.i cM (↑(s.data.toList.getD e 0).toNat:Int))) e o)))]⟩) (by kernel_rfl)).trans ?_
 refine YZ ⟨rfl,rfl,⟨rfl,rfl,rfl,fun e o he ho=>?_⟩,trivial⟩;exact congrArg (fun c=>cI [0,1,2] (cI [0,1,3] c)) (aV7 X s.data.toList e o)
def aFO(B:List UInt8)(m:Int):sT:=fun args h=>match args with
 |[.c (.ptr j 0),.c (.p (.i .i64 n))]=>match OG B (wU h j) h with
  |some (q,r)=>some (q∧n=m∧inR .i64 m∧(B++rO m).length≤140737488355328,.t [],lP [wU h j,r] [wU h j] [1] h (rV (B++rO m) 0))
  |none=>none
 |_=>none
def WX(B:List UInt8)(m:ByteArray):sT:=fun args h=>match args with
 |[.c (.ptr j 0),.c (.p (.s n))]=>match OG B (wU h j) h with
  |some (q,r)=>some (q∧n=m∧m.size≤140737488355328∧(B++kX m).length≤140737488355328,.t [],lP [wU h j,r] [wU h j] [1] h (rV (B++kX m) 0))
  |none=>none
 |_=>none
set_option maxRecDepth 100000 in
theorem aNJ(B:List UInt8)(m:Int):lV Tryz.prog G 58 (aFO B m):=by
 intro args h p v h' hm hp;unfold aFO at hm
 split at hm;rotate_left;· cases hm
 split at hm;rotate_left;· cases hm
 rename_i j n _ q r hw;obtain⟨rfl,rfl,rfl⟩:=mZ hm;obtain⟨hq,rfl,hr,hB⟩:=hp;obtain⟨g,k1,k2,k3⟩:=oX hw hq
 exact ZC (YY (args:=[iV n]) (vs:=[]) Tryz.func58 (by kernel_rfl) k1 k2 k3 rfl fun b=>aB7 B n hr hB b)
set_option maxRecDepth 100000 in
theorem aJF(B:List UInt8)(m:ByteArray):lV Tryz.prog G 56 (WX B m):=by
 intro args h p v h' hm hp;unfold WX at hm
 split at hm;rotate_left;· cases hm
 split at hm;rotate_left;· cases hm
 rename_i j n _ q r hw;obtain⟨rfl,rfl,rfl⟩:=mZ hm;obtain⟨hq,rfl,hr,hB⟩:=hp;obtain⟨g,k1,k2,k3⟩:=oX hw hq
 exact ZC (YY (args:=[.c (.p (.s n))]) (vs:=[]) Tryz.func56 (by kernel_rfl) k1 k2 k3 rfl fun b=>aBG B n hr hB b)
theorem aMS{P:Program}{f:FuncId}{fn:Func}(hf:P.funcs[f]?=some fn)(hok:okF P fn=true){args vs:List V}{v:V}{h hE:List AO}(hv:aC5 (DO [] [] h.length vs)=v)
  (H:jP P G (Zm [] (bU P fn) fun s=>cL G s ⟨[]++vs,hE⟩) (dW P fn) (oU fn [] [] [] args h) fun e s=>e=.normal∧Zm [] (bU P fn) (fun s=>cL G s ⟨[]++vs,hE⟩) s) :
  lW P G f args h fun x h'=>x=v∧h'=lP [] [] [] h hE:=by
 refine fun β R w us ha hh=>(aGV (ρ:=[]) (ids:=[]) (ps:=[]) (pns:=[]) (js:=[]) (sl:=[]) (vs:=vs) (hE:=fun bs=>hE) hf hok rfl rfl (by simp) (by simp) rfl rfl rfl (fun i pn h=>by simp at h) (fun bs hb i pn j b h1 h2 h3=>by simp at h1) (fun bs hb=>?_) β R w us ha hh).mono ?_
 ·obtain rfl:bs=[]:=by simpa using hb
  exact H
 ·rintro e w' ⟨u,β',R',x,h',rfl,⟨bs,hb,hx,hh'⟩,hr⟩
  exact⟨u,β',R',x,h',rfl,⟨hx.trans hv,hh'⟩,hr⟩
set_option maxRecDepth 100000 in
theorem aQ1(L:List UInt8):lV Tryz.prog G 79 (aO3 L):=by
 intro args h p v h' hm hp;unfold aO3 at hm
 split at hm;rotate_left;· cases hm
 split at hm;rotate_left;· cases hm
 rename_i x _ q hx;obtain⟨rfl,rfl,rfl⟩:=mZ hm;obtain⟨hq,hL⟩:=hp
 refine lW.args (args':=[aQ cT 1 L]) (aMS (vs:=[.c (.sl 0 1 0 L.length)]) (hE:=[.row 5 1 L.length (aR cT L)]) Tryz.func79 (by kernel_rfl) (by rw[fD];rfl) ?_) (.cons (aFX hx hq) .nil)
 refine jP.evH aV (aUA h L) ?_;simp only[aCQ,eV,aX,aL,aG0,Nat.zero_add]
 have one:∀(e o:Nat),jH (C.p (bF cT L e o))=true:=fun e o=>rfl
 have big:L.length*1≤140737488355328∧L.length≤140737488355328∧∀(e o:Nat),e<L.length→o<1→jH (C.p (bF cT L e o))=true:=⟨by omega,by omega,fun e o _ _=>one e o⟩
 have key:cL G (St.mk [V.c (C.sl 0 1 0 L.length)] [AO.row 5 1 L.length fun e o=>cI [1] (fU 0 (fun e o=>aZ C.top [] (e*1+o)) (fun e o=>C.p (bF cT L e o)) e o)]) ⟨[]++[.c (.sl 0 1 0 L.length)],[.row 5 1 L.length (aR cT L)]⟩:=aP (by kernel_rfl)
 refine⟨fun _=>⟨trivial,big,⟨key⟩⟩,fun h=>⟨⟨?_⟩,trivial,big,⟨key⟩⟩⟩
 have h0:L.length=0:=by have:=of_decide_eq_false h;omega
 obtain rfl:=List.eq_nil_of_length_eq_zero h0
 exact(kE 5 1 (aR cT []) 0 (by rfl)).trans (aP (by kernel_rfl))
theorem TF(L:List UInt8):cF Tryz.prog G (aMF L):=WT (aQ1 L) aV
end
theorem aRZ(b:Nat)(B:List UInt8):dI (aMF B) (dN 2 (dW Tryz.prog Tryz.f61)) (oU Tryz.f61 [0,1] [0] [b] [.c (.ptr 0 0)] (PQ B)) (oZ [0] (iU 8 [0,2]) (bU Tryz.prog Tryz.f61))=Tr.rq (0+B.length≤B.length∧∀(e o:Nat),e<B.length→o<1→zE (cI [0,1] (aR cT B e o))=true)
 (.rq
 (((B.length=B.length∧∀(e o:Nat),e<B.length→o<1→pE (cI [0,1] (aR cT B (e+0) o))=bF cT B e o)∧B.length≤140737488355328) ∧
 B.length=B.length∧∀(e o:Nat),e<B.length→o<1→scC (vH [] [] 0 (aR cT B e o))=true)
 (.done .normal
 (cQ 8 [(0,.c (.ptr 0 0)),(2,.c (.sl 1 1 0 B.length))] [.pin 2 b,.row 5 1 B.length fun e o=>cI [2,3,0,1] (C.p (PV.i cM (↑(B.getD e default).toNat:Int))),.cells 117 [.sl 3 1 0 B.length],.row 5 1 B.length fun e o=>cI [2,3,0,1] (cI [0,1] (aR cT B e o))]))):=by kernel_rfl
theorem aPM(b:Nat)(B:List UInt8):dI fR (bZ 2 (dW Tryz.prog Tryz.f61)) (cQ 8 [(0,.c (.ptr 0 0)),(2,aQ cT 1 B)] [.pin 1 b,.cells 117 [.sl 2 1 0 B.length],.row 5 1 B.length (aR cT B)]) (oZ [0] (iU 8 [0,2]) (bU Tryz.prog Tryz.f61))=Tr.done X.ret (cQ 2 [(0,.c (.ptr 0 0)),(1,.c (.p (.l 1 B.length (bF cT B))))] [.pin 1 b,.cells 117 [.sl 2 1 0 B.length],.row 5 1 B.length fun e o=>cI [0,1,2] (aR cT B e o)]):=by kernel_rfl
end Go.AE
