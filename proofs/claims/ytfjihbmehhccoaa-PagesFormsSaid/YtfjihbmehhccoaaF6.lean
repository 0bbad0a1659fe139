import Derived.Test.YtfjihbmehhccoaaFD
import Derived.Lib.AppendStr
import Derived.Laws.IdiomStrings
import Derived.Test.YtfjihbmehhccoaaFC
import Derived.Laws.Bits64
import Derived.Test.YtfjihbmehhccoaaProg
import Derived.Test.YtfjihbmehhccoaaRows
import Derived.Test.YtfjihbmehhccoaaF1
set_option linter.unusedVariables false
set_option linter.unusedSimpArgs false
namespace Go.AE
open _root_.BitVec renaming ofInt→aY
open _root_.Int renaming ofNat→dI,toNat_natCast→dP
open IntKind renaming i64→aC,u64→aP,u8→bE
open _root_.List renaming append_assoc→dW,drop_eq_getElem_cons→dX,eq_nil_of_length_eq_zero→gD,getD_eq_getElem?_getD→aD,getElem?_eq_getElem→aM,length_append→aV,length_cons→eB,length_set→cB,length_take→cU,take_append_drop→gS
open _root_.Nat renaming beq→cA,le_refl→aW,mul_le_mul_right→bK,zero_add→dB,zero_le→bW
open _root_.Option renaming bind_eq_bind→aT,bind_eq_some_iff→aK,map_eq_some_iff→bC,pure_def→bD,some.injEq→aH
open Region renaming wanted→fE
open _root_.Go.Proofs.Try renaming f115→gX,prog→aB
open _root_.UInt8 renaming ofNat→gW
open Value renaming slice→bA
open Go.RowKit
section
variable {P:Program} {G:Nat→Option Obj}
def aIQ(P:Program)(ops:Array Oper)(Q:Exit→Act→World→Prop)(rest:List Oper):Exit→Act→World→Prop
 |.normal,a,w=>wpList P ops Q rest a w
 |e,a,w=>Q e a w
theorem aEV{ops:Array Oper}{Q:Exit→Act→World→Prop}{rest:List Oper}{o:Oper}{a:Act}{w:World}{next:Act→World→Prop}(h:o.wp P a w next (aIQ P ops Q rest)):o.wp P a w next Q:=by
 unfold Oper.wp at *
 generalize (execOp a.eval o).run P w=r at *
 cases r with
 |ok n w'=>cases n<;>exact h
 |_=>exact h
theorem qF{ops:Array Oper}{Q:Exit→Act→World→Prop}{rest:List Oper}:∀(l:List Oper) (a:Act) (w:World),wpList P ops (aIQ P ops Q rest) l a w→wpList P ops Q (l++rest) a w
 |[],a,w,h=>h
 |o::l,a,w,h=>by
  show wpList P ops Q (o::(l++rest)) a w
  unfold wpList at h ⊢;split at h
  ·rename_i hw
   rw[if_pos hw]
   rcases h with h|⟨h1,h2⟩
   ·exact .inl (aEV (Oper.wp_mono (fun a w hk=>qF l a w hk) h))
   ·exact .inr ⟨h1,h2⟩
  ·rename_i hw
   rw[if_neg hw];exact qF l _ _ h
def aEN(P:Program)(G:Nat→Option Obj)(ext:Ext)(op:Op)(sp:St→(V→List AO→Tr)→Tr):Prop:=
 ∀(β:Bt) (R:Nat→Prop) (st:St) (a:Act) (w:World) (o:Oper) (kk:V→List AO→Tr) (K:X→St→Prop),hZ G β R st a w→o.op=op→(sp st kk).holds P G K→dK P G st.h.length (fun v h'=>(kk v h').holds P G K) β R o a w
theorem jY.spec{ext:Ext}(hext:bH P G ext){id:Nat}{ops:Array Oper}(n:Nat){o:Oper}{al1 al2:List AI}(ho:ops.toList.drop n=o::ops.toList.drop (n+1))(h1:eE P ops (ops.toList.take n)=some al1)(h2:eE P ops (ops.toList.drop (n+1))=some al2)(hg:o.guard=none)
  {sp:St→(V→List AO→Tr)→Tr} (hsp:aEN P G ext o.op sp) {st:St} {kf:St→Tr} {K1:X→St→Prop} (hh:(iX ext al1 st fun s=>sp s fun v h=>iX ext al2 ⟨lU s.t o.dst v,h⟩ kf).holds P G K1):jY P G (.raw (.region id ops false)) st fun e st'=>e=.normal∧(kf st').holds P G K1:=by
 refine jY.raw fun β R a w hs=>?_
 refine wp_region_list ?_
 have hl:ops.toList=ops.toList.take n++(o::ops.toList.drop (n+1)):=by rw[←ho,gS]
 rw[hl];refine qF _ _ _ (kI hext _ al1 st a w β R h1 hh hs fun a1 w1 β1 R1 st1 q1 q2 q3=>?_)
 show wpList P ops _ (o::ops.toList.drop (n+1)) a1 w1
 have hw:fE o (yielded ops a1.tmps)=true:=by unfold fE;rw[hg]
 simp only[wpList,hw,if_true];refine .inl ((hsp β1 R1 st1 a1 w1 o _ K1 q2 rfl q1).wp ?_);rintro u w' ⟨β',R',x,h',r1,r2,r3,r4,_⟩
 refine kI hext _ al2 _ _ _ _ _ h2 r1 (q2.put r4 r3 r2 o.dst) fun a2 w2 β2 R2 st2 p1 p2 p3=>?_
 have g2:=(q3.trans r4).trans p3
 exact⟨β2,R2,st2,⟨rfl,p1⟩,p2,g2.toFr,g2.rm⟩
theorem eL.spec{ext:Ext}(hext:bH P G ext){Z:St→Prop}{l r:List dG}{id:Nat}{ops:Array Oper}(hl:l=.raw (.region id ops false)::r)(n:Nat){o:Oper}{al1 al2:List AI}(ho:ops.toList.drop n=o::ops.toList.drop (n+1))(h1:eE P ops (ops.toList.take n)=some al1)(h2:eE P ops (ops.toList.drop (n+1))=some al2)(hg:o.guard=none)
  {sp:St→(V→List AO→Tr)→Tr} {op:Op} (hop:o.op=op) (hsp:aEN P G ext op sp) {st:St} {Q:X→St→Prop} (keep:List Bool) {d:Option Nat} (hd:o.dst=d) {tree:Tr} (ht:(iX ext al1 st fun s=>sp s fun v h=>iX ext al2 ⟨lU s.t d v,h⟩ fun s'=>.done .normal (QE keep s'))=tree) (h:tree.holds P G fun e st'=>eL P G Z r st' Q):eL P G Z l st Q:=by
 subst hl;subst hop;subst hd;subst ht;refine jY.mono (jY.spec hext n ho h1 h2 hg hsp h) ?_;rintro e st' ⟨rfl,q⟩;exact eL.pre (fG keep st') q
def aAL(e:TypeId)(ax ay:AX)(st:St)(k:V→List AO→Tr):Tr:=EA st ax (BP st e 1 ax fun n f old=>match st.ev ay with
 |.c (.p (.s s))=>.rq (n+s.size≤140737488355328) (k (.c (.sl (fF st.h) 1 0 (n+s.size))) (fB (.row e 1 (n+s.size) (fC n f fun e _=>.p (.i .u8 (s.data.toList.getD e 0).toNat))) (lC st.h old)))
 |_=>.fail) .fail
theorem LY(s:ByteArray){j:Nat}(hj:j<s.size):(Lib.strCells s)[j]?=some (.int .u8 (s.data.toList.getD j 0).toNat):=by
 unfold Lib.strCells
 have h:j<s.data.toList.length:=by rw[Array.length_toList];exact hj
 rw[List.getElem?_map,aM h,aD,aM h];rfl
theorem aAK{ext:Ext}{t u e:TypeId}{i:TypeInfo}{x y:Operand}{ax ay:AX}(ht:P.underlying t=some (.slice e))(hu:P.underlying u=some .string)(hi:P.info? e=some i)(hz:i.zero=some (.int .u8 0))(h1:i.size=1)(hb:i.bytes=1)(hx:cX x=some ax)(hy:cX y=some ay) :
  aEN P G ext (.call { callee:=.builtin .append,args := #[x,y],argTypes := #[t,u] }) (aAL e ax ay):=by
 intro β R st a w o kk K hs ho h
 have hv:=bR hs hy
 unfold aAL at h
 rcases pR h with⟨h,hoff⟩|⟨_,_,_,_,_,_,h⟩
 rotate_left
 ·exact h.elim
 obtain⟨n,f,old,hd,h⟩:=FK hs hx hoff h;split at h
 case h_2=>exact h.elim
 rename_i s hes;rw[hes]at hv
 have hv:a.eval y=.string s:=hv
 obtain⟨hl,h⟩:=h
 have hrun:∀xs,w.ownsRow 0 e 1 (a.eval x) n xs→∃v' w',(execOp a.eval o).run P w=.ok (.value v') w'∧w'.ownsRow 0 e 1 v' (n+s.size) (xs++Lib.strCells s)∧w.grownBy w' (a.eval x).ownBlock∧(v'.ownBlock=(a.eval x).ownBlock∨v'.ownBlock=some w.heap.size):=by
  intro xs hown;obtain⟨v',w',hr,r1,r2,r3⟩:=Lib.run_append_own_string (P:=P) w 0 t u o.type e i ht hu hi hz h1 hb (a.eval x) n xs hown s (by unfold maxLen;omega) hl (bW _);refine⟨v',w',by simp[execOp,ho,resolve,invoke,builtin,hv,hr],r1,r2,?_⟩
  rcases hown.2 with⟨hn,h0⟩|⟨g,cap,cur,hn,hbg,hg,hnc,hcm,hcs,htake⟩
  ·by_cases hm:s.size=0
   ·left;rw[hn];rw[r3.2 ⟨hn,hm⟩]
   ·have hr2:=run_append_nil_string (P:=P) w t u o.type e i (.int .u8 0) ht hu hi hz s (by omega) (by omega) (by rw[hb];omega)
    rw[hn]at hr;rw[hr2]at hr;injection hr with e1 e2;right;rw[←e1];rfl
  ·have hcs':cur.size=cap:=by simpa using hcs
   by_cases hroom:n+s.size≤cap
   ·have hr2:=Lib.run_append_room_string (P:=P) w t u o.type e i ht hu hi h1 g n cap cur hg s hroom (by omega)
    rw[hn]at hr;rw[hr2]at hr;injection hr with e1 e2;left;rw[←e1,hn];rfl
   ·have holds:∀j u,xs[j]?=some u→w.cell? ((⟨g,0,none⟩:Addr).add j)=some u:=hown.cells (g:=g) (by rw[hn];rfl)
    have hxl:xs.length=n:=by simpa using hown.1
    have hr2:=Lib.run_append_grow_string (P:=P) w t u o.type e i (.int .u8 0) ht hu hi hz ⟨g,0,none⟩ n cap xs (by rw[h1];simpa using hxl) holds s (by omega) (by omega) (by rw[hb];exact growslice_fits (by omega) (by omega))
    rw[hn]at hr;rw[hr2]at hr;injection hr with e1 e2;right;rw[←e1];rfl
 obtain⟨v2,w',β',xv,h',q1,q2,q3,q4,q5,q6,_⟩:=PU hs (o:=o) (x:=x) (sz:=1) (m:=s.size) (g:=fun e _=>.p (.i .u8 (s.data.toList.getD e 0).toNat)) (news:=Lib.strCells s) (by decide) hd (by rw[Lib.strCells_length];omega)
   (fun e o he ho=>by
    obtain rfl:o=0:=by omega
    exact⟨_,by rw[Nat.mul_one,Nat.add_zero];exact LY s he,rfl⟩) (fun _ _ _ _=>rfl) hrun h
 exact .inl ⟨v2,w',q1,β',R,xv,h',q2,q3,q4,q5,q6⟩
def aSX:B→V
 |.p x=>.c (.p x)
 |.ptr id off=>.c (.ptr id off)
def aE8:List B→List V
 |[]=>[]
 |x::r=>aSX x::aE8 r
def aJ5(P:Program)(f:FuncId):Bool:=match P.funcs[f]? with
 |some fn=>fn.body.isSome&&fn.name != "runtime.NumGoroutine"
 |none=>false
def aAJ(P:Program)(ext:Ext)(ax:AX)(st:St)(k:V→List AO→Tr):Tr:=match st.ev ax with
 |.c (.fn (.func f) first [])=>mZ (aJ5 P f) (ext f (aE8 first) st.h k)
 |_=>.fail
theorem BI{β:Bt}{R:Nat→Prop}{w:World}:∀ {xs:List B} {us:List Value},dD (BR β R w) xs us→dD (VR β R w) (aE8 xs) us
 |[],[],_=>trivial
 |[],_::_,h=>h.elim
 |_::_,[],h=>h.elim
 |x::xs,u::us,h=>⟨by cases x<;>exact h.1,BI h.2⟩
theorem aAI{ext:Ext}(hext:bH P G ext){x:Operand}{ax:AX}(hx:cX x=some ax):aEN P G ext (.call { callee:=.value x,args := #[],argTypes := #[] }) (aAJ P ext ax):=by
 intro β R st a w o kk K hs ho h
 have hv:=bR hs hx
 unfold aAJ at h;split at h
 case h_2=>exact h.elim
 rename_i f first he
 rw[he]at hv;obtain⟨us,vs,e1,e2,e3⟩:=hv
 have e3:vs = #[]:=by
  cases hvl:vs.toList with
  |nil=>exact Array.toList_eq_nil_iff.1 hvl
  |cons _ _=>rw[hvl]at e3;exact e3.elim
 subst e3;obtain⟨c1,h⟩:=bX h;unfold aJ5 at c1;cases hf:P.funcs[f]? with
 |none=>rw[hf]at c1;cases c1
 |some fn=>
  rw[hf]at c1;simp only[Bool.and_eq_true]at c1;obtain⟨hb,hnm⟩:=c1
  have hc:=hext.fn _ _ _ _ _ h β R w us (BI e2) hs.hs
  refine .inr (.inr ⟨f,us,?_,?_⟩)
  ·have hnm':¬fn.name = "runtime.NumGoroutine" := by simpa using hnm
   have hb':¬fn.body=none:=by cases hq:fn.body<;>simp_all
   simp only[execOp,ho,resolve,e1,Deferred.ofValue,invoke];simp[callFunc,hf];rw[if_neg hnm',if_neg hb']
  ·refine hc.mono ?_
   rintro e w' ⟨u,β',R',x,h',rfl,h1,h2,h3,h4,h5⟩;exact⟨u,rfl,β',R',x,h',h1,h2,h3,h4,h5⟩
def bG(b:UInt8)(_:Nat):PV:=.i .u8 b.toNat
def LG(f:Nat→PV):UInt8:=match f 0 with
 |.i _ k=>gW k.toNat
 |_=>0
theorem aDY(b:UInt8):LG (bG b)=b:=by
 show gW ((b.toNat:Int)).toNat=b
 simp
def aAH(ax:AX)(st:St)(k:V→List AO→Tr):Tr:=match st.ev ax with
 |.c (.p (.l 1 n f))=>.rq (kA bG 1 (bO LG n f) n f) (k (.c (.p (.s ⟨(bO LG n f).toArray⟩))) st.h)
 |.c (.p (.z (.slice none 0 0)))=>k (.c (.p (.s ⟨#[]⟩))) st.h
 |_=>.fail
theorem aAG{ext:Ext}{s d e:TypeId}{x:Operand}{ax:AX}(hs1:P.underlying s=some (.slice e))(he:P.underlying e=some (.int .u8))(hd:P.underlying d=some .string)(hx:cX x=some ax):aEN P G ext (.convert s d x) (aAH ax):=by
 intro β R st a w o kk K hs ho h
 have hv:=bR hs hx
 have nil:∀(A:Option Addr) (c:Nat),a.eval x=.slice A 0 c→(execOp a.eval o).run P w=.ok (.value (.string ⟨#[]⟩)) w:=fun A c hA=>by
  have hr:=run_convert_bytes_string (P:=P) w s d e A 0 c hs1 he hd
  have:(convert s d (.slice A 0 c)).run P w=.ok (.string ⟨#[]⟩) w:=by
   rw[hr];cases A<;>simp[Conv.bytesToString,loadCells]<;>rfl
  simp[execOp,ho,hA,this]
 unfold aAH at h;split at h
 ·rename_i n f hev
  rw[hev]at hv;obtain⟨A,c,g1,g2,g3,g4⟩:=hv;obtain⟨⟨l1,l2⟩,h⟩:=h
  rcases Nat.eq_zero_or_pos n with h0|h0
  ·subst h0
   exact dK.same hs (u:=.string ⟨#[]⟩) (nil A c g1) h rfl
  ·obtain⟨ad,rfl,_,g5⟩:=g4 h0
   refine dK.same hs (u:=.string ⟨(bO LG n f).toArray⟩) ?_ h rfl
   have hr:=run_convert_bytes_back (P:=P) w s d e ad c (bO LG n f) hs1 he hd (fun j hj=>by
    rw[l1]at hj;obtain⟨u,q1,q2⟩:=g5 j 0 hj (by decide);rw[Nat.mul_one,Nat.add_zero]at q1;rw[l2 j 0 hj (by decide)]at q2
    have q2:u=.int .u8 (((bO LG n f).getD j default).toNat:Int):=q2
    rw[q1,q2,aD,aM (by rw[l1];exact hj)]
    rfl)
   rw[l1]at hr;simp[execOp,ho,g1,hr]
 ·rename_i hev
  rw[hev]at hv
  have hv:a.eval x=.slice none 0 0:=hv
  exact dK.same hs (u:=.string ⟨#[]⟩) (nil none 0 hv) h rfl
 ·exact h.elim
end
section
variable {P:Program} {G:Nat→Option Obj}
def Rg(P:Program)(G:Nat→Option Obj)(al:List AI)(st:St)(K:St→Prop):Prop:=
 ∀(ops:Array Oper) (l:List Oper) (Q:Exit→Act→World→Prop) (β:Bt) (R:Nat→Prop) (a:Act) (w:World),eE P ops l=some al→hZ G β R st a w →
  (∀a' w' β' R' st',K st'→hZ G β' R' st' a' w'→Fr β R w β' R' w'→(∀b,R b→R' b)→Q .normal a' w')→wpList P ops Q l a w
theorem Rg.pre{al:List AI}{st st2:St}{K:St→Prop}(hw:cQ G st st2)(h:Rg P G al st2 K):Rg P G al st K:=by
 intro ops l Q β R a w hc hs hq;obtain⟨β2,R2,h1,h2,h3⟩:=hw β R a w hs
 exact h ops l Q β2 R2 a w hc h1 fun a' w' β' R' st' q1 q2 q3 q4=>hq a' w' β' R' st' q1 q2 (h2.trans q3 h3) fun b hb=>q4 b (h3 b hb)
theorem Rg.ev{ext:Ext}(hext:bH P G ext){al:List AI}{st:St}{K:St→Prop}(keep:List Bool){tree:Tr}(ht:(iX ext al st fun s=>.done .normal (QE keep s))=tree)(h:tree.holds P G fun _ s=>K s):Rg P G al st K:=by
 subst ht;intro ops l Q β R a w hc hs hq
 refine kI hext l al st a w β R hc h hs fun a' w' β' R' st' q1 q2 q3=>?_
 obtain⟨β2,R2,h1,h2,h3⟩:=fG keep st' β' R' a' w' q2
 exact hq a' w' β2 R2 (QE keep st') q1 h1 (q3.toFr.trans h2 q3.rm) fun b hb=>h3 b (q3.rm b hb)
theorem yQ:∀ {l:List Oper} {al:List AI} (n:Nat) {ops:Array Oper},eE P ops l=some al→eE P ops (l.take n)=some (al.take n)
 |l,al,0,ops,h=>by simp[eE]
 |[],al,n+1,ops,h=>by simp only[eE,aH]at h;subst h;simp[eE]
 |o::l,al,n+1,ops,h=>by
  simp only[eE,aT,aK,bD,aH]at h;obtain⟨ai,h1,al',h2,rfl⟩:=h
  have ih:=yQ n h2
  simp[eE,h1,ih]
theorem yR:∀ {l:List Oper} {al:List AI} (n:Nat) {ops:Array Oper},eE P ops l=some al→eE P ops (l.drop n)=some (al.drop n)
 |l,al,0,ops,h=>by simpa using h
 |[],al,n+1,ops,h=>by simp only[eE,aH]at h;subst h;simp[eE]
 |o::l,al,n+1,ops,h=>by
  simp only[eE,aT,aK,bD,aH]at h;obtain⟨ai,h1,al',h2,rfl⟩:=h;exact yR n h2
theorem Rg.cut(n:Nat){al:List AI}{st:St}{K:St→Prop}(h:Rg P G (dH n al) st fun s=>Rg P G (bJ n al) s K):Rg P G al st K:=by
 rw[tD,uD]at h;intro ops l Q β R a w hc hs hq
 rw[←gS n l];refine qF _ _ _ (h ops (l.take n) _ β R a w (yQ n hc) hs fun a' w' β' R' st' q1 q2 q3 q4=>?_)
 exact q1 ops (l.drop n) Q β' R' a' w' (yR n hc) q2 fun a2 w2 β2 R2 st2 p1 p2 p3 p4=>hq a2 w2 β2 R2 st2 p1 p2 (q3.trans p3 q4) fun b hb=>p4 b (q4 b hb)
theorem aFB{al:List AI}{st:St}{K1:X→St→Prop}(hK:∀id ops,eE P ops ops.toList=some al→Ex P G (.region id ops false) st K1):jY P G (.reg al) st K1:=by
 intro c;induction c with
 |region id ops draw=>
  intro h;simp only[eG]at h;split at h
  case h_2=>cases h
  rename_i ac' hc;injection h with h;subst h;cases draw with
  |false=>
   simp only[BS,bC]at hc;obtain⟨x,hx,hc⟩:=hc;injection hc with hc;subst hc;exact hK id ops hx
  |true=>
   simp only[BS]at hc;split at hc
   ·simp only[aT,aK,bD,aH]at hc
    obtain⟨al',h1,hc⟩:=hc
    repeat' split at hc
    all_goals first|(injection hc with hc;cases hc)|cases hc
   ·cases hc
 |scope c ih=>
  intro h;simp only[eG]at h;exact yN (ih h)
 |skip=>intro h;simp only[eG]at h;cases h
 |seq a b=>
  intro h;simp only[eG,aT,aK,bD,aH]at h;obtain⟨_,_,_,_,h⟩:=h;cases h
 |cond x a b=>
  intro h;simp only[eG,aT,aK,bD,aH]at h;obtain⟨_,_,_,_,_,_,h⟩:=h;cases h
 |block id a=>
  intro h;simp only[eG,bC]at h;obtain⟨_,_,h⟩:=h;cases h
 |loop a=>
  intro h;simp only[eG,bC]at h;obtain⟨_,_,h⟩:=h;cases h
 |_=>intro h;simp only[eG]at h;cases h
theorem jY.rg{al:List AI}{st:St}{K:X→St→Prop}(h:Rg P G al st (K .normal)):jY P G (.reg al) st K:=
 aFB fun id ops hc β R a w hs=>wp_region_list (h ops ops.toList _ β R a w hc hs fun a' w' β' R' st' q1 q2 q3 q4=>⟨β',R',st',q1,q2,q3,q4⟩)
theorem eJ.rg{rs:List AR}{v:V}{l r:List dG}{al:List AI}(hl:l=.reg al::r){st:St}{Q:X→St→Prop}(h:Rg P G al st fun s=>eJ P G rs v r s Q):eJ P G rs v l st Q:=by
 subst hl;exact jY.rg h
def MG:dG→List AI
 |.reg al=>al
 |_=>[]
end
end Go.AE
namespace Wi
open _root_.BitVec renaming ofInt→aY
open _root_.Int renaming ofNat→dI,toNat_natCast→dP
open _root_.Go.IntKind renaming i64→aC,u64→aP,u8→bE
open _root_.List renaming append_assoc→dW,drop_eq_getElem_cons→dX,eq_nil_of_length_eq_zero→gD,getD_eq_getElem?_getD→aD,getElem?_eq_getElem→aM,length_append→aV,length_cons→eB,length_set→cB,length_take→cU,take_append_drop→gS
open _root_.Nat renaming beq→cA,le_refl→aW,mul_le_mul_right→bK,zero_add→dB,zero_le→bW
open _root_.Option renaming bind_eq_bind→aT,bind_eq_some_iff→aK,map_eq_some_iff→bC,pure_def→bD,some.injEq→aH
open _root_.Go.Region renaming wanted→fE
open _root_.Go.Proofs.Try renaming f115→gX,prog→aB
open _root_.UInt8 renaming ofNat→gW
open _root_.Go.Value renaming slice→bA
def iU(n:Nat):List UInt8:=if n<128 then [gW n] else gW (n%128+128)::iU (n / 128)
termination_by n
decreasing_by omega
def zag(n:Int):Nat:=if 0≤n then 2*n.toNat else 2*(-n).toNat-1
def zig(n:Nat):Int:=if n%2=0 then ((n / 2:Nat):Int) else -((n / 2:Nat):Int)-1
def eT(n:Int):List UInt8:=iU (zag n)
def gO(s:ByteArray):List UInt8:=iU s.size++s.data.toList
theorem aEU(n:Nat):zag (zig n)=n:=by
 unfold zig zag;split<;>split<;>omega
theorem aKL{n:Int}(h1 : -9223372036854775808≤n)(h2:n≤9223372036854775807):zag n<18446744073709551616:=by
 unfold zag;split<;>omega
theorem WR{n:Nat}(h:n<18446744073709551616) : -9223372036854775808≤zig n∧zig n≤9223372036854775807:=by
 unfold zig;split<;>omega
structure Rs where
 at_:Nat
 er:Int
def lS(B:List UInt8)(k:Nat):Nat:=(B.getD k 0).toNat
theorem PP(B:List UInt8)(k:Nat):lS B k<256:=(B.getD k 0).toNat_lt
def EB(B:List UInt8)(s:Rs):Nat×Rs:=if s.er≠0 then (0,s) else if B.length≤s.at_ then (0,⟨s.at_,3⟩) else (lS B s.at_,⟨s.at_+1,0⟩)
def mS(B:List UInt8):Nat→Nat→Nat→Nat→Nat×Rs
 |0,_,a,_=>(0,⟨a,2⟩)
 |f+1,i,a,n=>if B.length≤a then (0,⟨a,3⟩) else
  if (i=9∧1<lS B a)∨(0<i∧lS B a=0) then (0,⟨a+1,2⟩) else
  if lS B a<128 then (n+lS B a%128*128^i,⟨a+1,0⟩) else mS B f (i+1) (a+1) (n+lS B a%128*128^i)
def jR(B:List UInt8)(s:Rs):Nat×Rs:=if s.er≠0 then (0,s) else mS B 10 0 s.at_ 0
def fO(B:List UInt8)(s:Rs):Int×Rs:=(zig (jR B s).1,(jR B s).2)
def nB(B:List UInt8)(s:Rs):List UInt8×Rs:=if (jR B s).2.er≠0 then ([],(jR B s).2) else
 if B.length-(jR B s).2.at_<(jR B s).1 then ([],⟨(jR B s).2.at_,3⟩) else ((B.drop (jR B s).2.at_).take (jR B s).1,⟨(jR B s).2.at_+(jR B s).1,0⟩)
def jF(B:List UInt8)(s:Rs):ByteArray×Rs:=(⟨(nB B s).1.toArray⟩,(nB B s).2)
theorem GN{B:List UInt8}:∀(f i a n:Nat),a≤B.length→(mS B f i a n).2.at_≤B.length
 |0,_,a,_,h=>h
 |f+1,i,a,n,h=>by
  unfold mS;split
  ·exact h
  ·split
   ·show a+1≤_;omega
   ·split
    ·show a+1≤_;omega
    ·exact GN f _ _ _ (by omega)
theorem CS{B:List UInt8}{s:Rs}(h:s.at_≤B.length):(jR B s).2.at_≤B.length:=by
 unfold jR;split
 ·exact h
 ·exact GN _ _ _ _ h
theorem aFF{B:List UInt8}{s:Rs}(h:s.at_≤B.length):(nB B s).2.at_≤B.length:=by
 have h1:=CS h
 unfold nB;split
 ·exact h1
 ·split
  ·exact h1
  ·show _+_≤_;omega
theorem DR(i:Nat)(h:i≤9):128^i≤9223372036854775808:=by
 have:i=0∨i=1∨i=2∨i=3∨i=4∨i=5∨i=6∨i=7∨i=8∨i=9:=by omega
 rcases this with rfl|rfl|rfl|rfl|rfl|rfl|rfl|rfl|rfl|rfl<;>decide
theorem GM{B:List UInt8}:∀(f i a n:Nat),i+f=10→n<128^i→(mS B f i a n).1<18446744073709551616
 |0,_,_,_,_,_=>by show 0<_;decide
 |f+1,i,a,n,hi,hn=>by
  unfold mS;split
  ·show 0<_;decide
  ·split
   ·show 0<_;decide
   ·rename_i h1 h2
    have hp:=DR i (by omega)
    have step:n+lS B a%128*128^i<128^(i+1):=by
     have hb:lS B a%128≤127:=by omega
     have h3:=bK (128^i) hb
     rw[Nat.pow_succ];omega
    split
    ·rename_i h3
     show _+_<_
     by_cases h9:i=9
     ·subst h9
      have hb:lS B a%128≤1:=by have:¬1<lS B a:=fun h=>h2 (.inl ⟨rfl,h⟩);omega
      have h4:=bK (128^9) hb
      have:(128:Nat)^9=9223372036854775808:=by decide
      omega
     ·have h5:=DR (i+1) (by omega)
      omega
    ·exact GM f (i+1) (a+1) _ (by omega) step
theorem CQ(B:List UInt8)(s:Rs):(jR B s).1<18446744073709551616:=by
 unfold jR;split
 ·show 0<_;decide
 ·exact GM 10 0 _ 0 rfl (by decide)
theorem sZ{n:Nat}(h:n<128):iU n=[gW n]:=by
 rw[iU,if_pos h]
theorem wY{n:Nat}(h:¬n<128):iU n=gW (n%128+128)::iU (n / 128):=by
 rw[iU,if_neg h]
theorem GO(n:Nat):0<(iU n).length:=by
 by_cases h:n<128
 ·rw[sZ h];exact Nat.zero_lt_one
 ·rw[wY h];simp
theorem CT(B:List UInt8):∀(f i a n v:Nat) (s:Rs),mS B f i a n=(v,s)→s.er=0→∃m,v=n+m*128^i∧(0<i→0<m)∧s.at_=a+(iU m).length∧s.at_≤B.length∧(B.drop a).take (iU m).length=iU m
 |0,i,a,n,v,s,h,h0=>by
  unfold mS at h;injection h with h1 h2;subst h2;exact absurd h0 (show ¬(2:Int)=0 by decide)
 |f+1,i,a,n,v,s,h,h0=>by
  unfold mS at h;split at h
  ·injection h with h1 h2;subst h2;exact absurd h0 (show ¬(3:Int)=0 by decide)
  split at h
  ·injection h with h1 h2;subst h2;exact absurd h0 (show ¬(2:Int)=0 by decide)
  rename_i hl hb
  have hlt:a<B.length:=by omega
  have hg:B.getD a 0=B[a]:=by rw[aD,aM hlt];rfl
  split at h
  ·rename_i hc
   injection h with h1 h2;subst h1;subst h2
   have e:=sZ hc
   refine⟨lS B a,by rw[Nat.mod_eq_of_lt hc],fun hi=>?_,by rw[e];rfl,by show a+1≤_;omega,?_⟩
   ·have:¬lS B a=0:=fun hz=>hb (.inr ⟨hi,hz⟩)
    omega
   ·rw[e,dX hlt]
    show [B[a]]=_
    unfold lS;rw[hg];simp
  ·rename_i hc
   obtain⟨m,e1,e2,e3,e4,e5⟩:=CT B f (i+1) (a+1) _ v s h h0
   have hm:=e2 (by omega)
   have hb256:=PP B a
   have hge:¬lS B a%128+m*128<128:=by omega
   have e:=wY hge
   have q1:(lS B a%128+m*128) / 128=m:=by omega
   have q2:(lS B a%128+m*128)%128+128=lS B a:=by omega
   rw[q1,q2]at e;refine⟨lS B a%128+m*128,?_,fun _=>by omega,?_,e4,?_⟩
   ·rw[e1,Nat.pow_succ,Nat.add_mul,Nat.mul_comm (128^i) 128,←Nat.mul_assoc];omega
   ·rw[e3,e];simp;omega
   ·rw[e,dX hlt]
    show B[a]::(B.drop (a+1)).take _=_
    rw[e5];congr 1;unfold lS;rw[hg];simp
theorem WY{B:List UInt8}{a v:Nat}{s:Rs}(h:jR B ⟨a,0⟩=(v,s))(h0:s.er=0):s.at_=a+(iU v).length∧s.at_≤B.length∧(B.drop a).take (iU v).length=iU v:=by
 unfold jR at h;rw[if_neg (by simp)]at h;obtain⟨m,e1,_,e3,e4,e5⟩:=CT B 10 0 a 0 v s h h0
 have:v=m:=by simpa using e1
 subst this;exact⟨e3,e4,e5⟩
theorem LT{B:List UInt8}{s:Rs}(h:(jR B s).2.er=0):s.er=0:=by
 unfold jR at h;split at h
 ·rename_i hs;exact absurd h hs
 ·rename_i hs;exact Decidable.not_not.1 hs
theorem aFE{B:List UInt8}{s:Rs}(h:(nB B s).2.er=0):(jR B s).2.er=0:=by
 unfold nB at h;split at h
 ·rename_i hs;exact absurd h hs
 ·rename_i hs;exact Decidable.not_not.1 hs
def Pc(B Z:List UInt8)(a b:Nat):Prop:=b=a+Z.length∧b≤B.length∧(B.drop a).take Z.length=Z
theorem Pc.app{B Z Z':List UInt8}{a b c:Nat}(h:Pc B Z a b)(k:Pc B Z' b c):Pc B (Z++Z') a c:=by
 obtain⟨rfl,h2,h3⟩:=h;obtain⟨rfl,k2,k3⟩:=k;refine⟨by rw[aV];omega,k2,?_⟩;rw[aV,List.take_add,h3,List.drop_drop,k3]
theorem Pc.nil{B:List UInt8}{a:Nat}(h:a≤B.length):Pc B [] a a:=⟨rfl,h,by simp⟩
theorem Pc.all{B Z:List UInt8}(h:Pc B Z 0 B.length):B=Z:=by
 obtain⟨h1,_,h3⟩:=h;rw[List.drop_zero,←show B.length=Z.length by omega,List.take_length]at h3;exact h3
theorem UI{B:List UInt8}{s:Rs}(h:(jR B s).2.er=0):s.er=0∧Pc B (iU (jR B s).1) s.at_ (jR B s).2.at_:=by
 have h0:=LT h
 obtain⟨a,e⟩:=s;obtain rfl:e=0:=h0;exact⟨rfl,WY rfl h⟩
theorem wN{B:List UInt8}{s:Rs}(h:(fO B s).2.er=0):s.er=0∧Pc B (eT (fO B s).1) s.at_ (fO B s).2.at_:=by
 obtain⟨h1,h2⟩:=UI (B:=B) (s:=s) h;refine⟨h1,?_⟩;unfold eT fO;rw[aEU];exact h2
theorem aL6{B:List UInt8}{s:Rs}(h:(nB B s).2.er=0):s.er=0∧Pc B (iU (nB B s).1.length++(nB B s).1) s.at_ (nB B s).2.at_:=by
 have hu:=aFE h
 obtain⟨h1,h2⟩:=UI hu;refine⟨h1,?_⟩;unfold nB at h ⊢;rw[if_neg (by rw[hu];simp)]at h ⊢;split
 ·rename_i hl
  rw[if_pos hl]at h;exact absurd h (show ¬(3:Int)=0 by decide)
 ·rename_i hl
  have h3:=h2.2.1
  have hlen:((B.drop (jR B s).2.at_).take (jR B s).1).length=(jR B s).1:=by rw[cU,List.length_drop];omega
  dsimp only;rw[hlen];refine h2.app ⟨?_,?_,?_⟩
  ·rw[hlen]
  ·omega
  ·rw[hlen]
theorem JI{B:List UInt8}{s:Rs}(h:(jF B s).2.er=0):s.er=0∧Pc B (gO (jF B s).1) s.at_ (jF B s).2.at_:=by
 obtain⟨h1,h2⟩:=aL6 (B:=B) (s:=s) h;refine⟨h1,?_⟩
 have e:gO (jF B s).1=iU (nB B s).1.length++(nB B s).1:=by
  unfold gO jF
  show iU ((nB B s).1.toArray).size++_=_
  simp
 rw[e];exact h2
end Wi
namespace Wi
open _root_.BitVec renaming ofInt→aY
open _root_.Int renaming ofNat→dI,toNat_natCast→dP
open _root_.Go.IntKind renaming i64→aC,u64→aP,u8→bE
open _root_.List renaming append_assoc→dW,drop_eq_getElem_cons→dX,eq_nil_of_length_eq_zero→gD,getD_eq_getElem?_getD→aD,getElem?_eq_getElem→aM,length_append→aV,length_cons→eB,length_set→cB,length_take→cU,take_append_drop→gS
open _root_.Nat renaming beq→cA,le_refl→aW,mul_le_mul_right→bK,zero_add→dB,zero_le→bW
open _root_.Option renaming bind_eq_bind→aT,bind_eq_some_iff→aK,map_eq_some_iff→bC,pure_def→bD,some.injEq→aH
open _root_.Go.Region renaming wanted→fE
open _root_.Go.Proofs.Try renaming f115→gX,prog→aB
open _root_.UInt8 renaming ofNat→gW
open _root_.Go.Value renaming slice→bA
open Go Go.AE
theorem w8(n:Int):bE.wrap n=n%256:=by simp[IntKind.wrap,IntKind.bits,IntKind.signed]
theorem UG(n:Int):aP.wrap n=n%18446744073709551616:=IntKind.wrap_u64 n
theorem aA7(n:Int):aC.wrap n=if n%18446744073709551616≥9223372036854775808 then n%18446744073709551616-18446744073709551616 else n%18446744073709551616:=by
 simp[IntKind.wrap,IntKind.bits,IntKind.signed]
theorem sM(w k:Nat):(aY w (k:Int)).toNat=k%2^w:=by
 rw[BitVec.toNat_ofInt];omega
set_option maxRecDepth 100000 in
theorem aOO:∀x<256,x ||| 128=x%128+128:=by decide
set_option maxRecDepth 100000 in
theorem aN0:∀x<256,x &&& 127=x%128:=by decide
theorem aI0(n:Nat):bE.wrap (↑(aY bE.bits (bE.wrap (n:Int)) ||| aY bE.bits 128).toNat:Int)=((gW (n%128+128)).toNat:Int):=by
 have e:(aY bE.bits (bE.wrap (n:Int)) ||| aY bE.bits 128).toNat=n%128+128:=by
  show (aY 8 (bE.wrap (n:Int)) ||| aY 8 128).toNat=_
  have e1:bE.wrap (n:Int)=((n%256:Nat):Int):=by rw[w8];omega
  have e2:(aY 8 128).toNat=128:=by decide
  rw[e1,BitVec.toNat_or,sM,e2,show n%256%2^8=n%256 by omega,aOO _ (by omega)];omega
 rw[e,w8,UInt8.toNat_ofNat'];omega
theorem aHF{n:Nat}(h:n<128):bE.wrap (n:Int)=((gW n).toNat:Int):=by
 rw[w8,UInt8.toNat_ofNat'];omega
theorem aSF(n:Nat):(n:Int).fdiv (2^min (Int.toNat 7) aP.bits)=((n / 128:Nat):Int):=by
 show (n:Int).fdiv (2^7)=_
 rw[Int.fdiv_eq_ediv_of_nonneg _ (by decide)];rfl
theorem aA5{n:Int}(h1 : -9223372036854775808≤n)(h2:n≤9223372036854775807) :
  aP.wrap (↑(aY aP.bits (aP.wrap (aP.wrap n*2^min (Int.toNat 1) aP.bits)) ^^^ aY aP.bits (aP.wrap (n.fdiv (2^min (Int.toNat 63) aC.bits)))).toNat:Int)=(zag n:Int):=by
 have e1:aP.wrap (aP.wrap n*2^min (Int.toNat 1) aP.bits)=((2*n)%18446744073709551616).toNat:=by
  show aP.wrap (aP.wrap n*2^1)=_
  rw[UG,UG];omega
 have e2:n.fdiv (2^min (Int.toNat 63) aC.bits)=if 0≤n then 0 else -1:=by
  show n.fdiv (2^63)=_
  rw[Int.fdiv_eq_ediv_of_nonneg _ (by decide)]
  show n / 9223372036854775808=_
  split<;>omega
 rw[e1,e2];unfold zag
 show aP.wrap (↑(aY 64 _ ^^^ aY 64 _).toNat:Int)=_
 split
 ·rename_i h0
  rw[show aP.wrap 0=0 by decide]
  have e3:aY 64 0=0#64:=by decide
  rw[e3,BitVec.xor_zero,sM,UG];omega
 ·rename_i h0
  have e3:aY 64 (aP.wrap (-1))=BitVec.allOnes 64:=by decide
  rw[e3,BitVec.xor_allOnes,BitVec.toNat_not,sM,UG];omega
theorem aA4{n:Nat}(h:n<18446744073709551616):aC.wrap (↑(aY aC.bits (aC.wrap ((n:Int).fdiv (2^min (Int.toNat 1) aP.bits))) ^^^ aY aC.bits (-aC.wrap (aP.wrap ↑(aY aP.bits (n:Int) &&& aY aP.bits 1).toNat))).toNat:Int)=zig n∧eV .i64 (-aC.wrap (aP.wrap ↑(aY aP.bits (n:Int) &&& aY aP.bits 1).toNat)):=by
 have e1:(aY aP.bits (n:Int) &&& aY aP.bits 1).toNat=n%2:=by
  show (aY 64 (n:Int) &&& aY 64 1).toNat=n%2
  have e2:(aY 64 1).toNat=2^1-1:=by decide
  rw[BitVec.toNat_and,sM,e2,Nat.and_two_pow_sub_one_eq_mod];omega
 have e2:aC.wrap (aP.wrap ((n%2:Nat):Int))=((n%2:Nat):Int):=by
  rw[UG,aA7];split<;>omega
 have e3:aC.wrap ((n:Int).fdiv (2^min (Int.toNat 1) aP.bits))=((n / 2:Nat):Int):=by
  show aC.wrap ((n:Int).fdiv (2^1))=_
  rw[Int.fdiv_eq_ediv_of_nonneg _ (by decide),aA7]
  show (if (n:Int) / 2%18446744073709551616≥9223372036854775808 then _ else (n:Int) / 2%18446744073709551616)=_
  rw[if_neg (by omega)];omega
 rw[e1,e2,e3];refine⟨?_,by simp only[eV];omega⟩;unfold zig
 show aC.wrap (↑(aY 64 _ ^^^ aY 64 _).toNat:Int)=_
 have h2:n%2=0∨n%2=1:=by omega
 rcases h2 with h2|h2
 ·rw[h2,if_pos rfl]
  have e4:aY 64 (-((0:Nat):Int))=0#64:=by decide
  rw[e4,BitVec.xor_zero,sM,aA7,if_neg (by omega)];omega
 ·rw[h2,if_neg (by decide)]
  have e4:aY 64 (-((1:Nat):Int))=BitVec.allOnes 64:=by decide
  rw[e4,BitVec.xor_allOnes,BitVec.toNat_not,sM,aA7,if_pos (by omega)];omega
theorem aEK{n c i:Nat}(hi:i≤9)(hn:n<128^i)(hc:c<256)(h9:i=9→c≤1) :
  aP.wrap (↑(aY aP.bits (n:Int) ||| aY aP.bits (aP.wrap (aP.wrap (bE.wrap ↑(aY bE.bits (c:Int) &&& aY bE.bits 127).toNat)*2^min (aP.wrap (7*aP.wrap (i:Int))).toNat aP.bits))).toNat:Int)=((n+c%128*128^i:Nat):Int):=by
 have e1:(aY bE.bits (c:Int) &&& aY bE.bits 127).toNat=c%128:=by
  show (aY 8 (c:Int) &&& aY 8 127).toNat=_
  have e2:(aY 8 127).toNat=127:=by decide
  rw[BitVec.toNat_and,sM,e2,show c%2^8=c by omega,aN0 _ hc]
 have e2:aP.wrap (bE.wrap ((c%128:Nat):Int))=((c%128:Nat):Int):=by rw[UG,w8];omega
 have e3:min (aP.wrap (7*aP.wrap (i:Int))).toNat aP.bits=7*i:=by
  rw[UG,UG,show (i:Int)%18446744073709551616=i by omega,show 7*(i:Int)%18446744073709551616=7*i by omega]
  show min _ 64=_
  omega
 have e4:(2:Int)^(7*i)=((128^i:Nat):Int):=by
  rw[Int.pow_mul];rfl
 rw[e1,e2,e3,e4]
 have hp:=DR i hi
 have hlt:c%128*128^i<18446744073709551616:=by
  by_cases h:i=9
  ·subst h
   have hb:c%128≤1:=by have:=h9 rfl;omega
   have h4:=bK (128^9) hb
   have:(128:Nat)^9=9223372036854775808:=by decide
   omega
  ·have h5:=DR (i+1) (by omega)
   have h3:=bK (128^i) (show c%128≤127 by omega)
   rw[Nat.pow_succ]at h5;omega
 have e5:aP.wrap (((c%128:Nat):Int)*((128^i:Nat):Int))=((c%128*128^i:Nat):Int):=by
  rw[←Int.natCast_mul,UG];omega
 rw[e5]
 show aP.wrap (↑(aY 64 (n:Int) ||| aY 64 ((c%128*128^i:Nat):Int)).toNat:Int)=_
 rw[BitVec.toNat_or,sM,sM,Nat.mod_eq_of_lt (show n<2^64 by omega),Nat.mod_eq_of_lt (show c%128*128^i<2^64 by omega)]
 have e6:128^i=2^(7*i):=by rw[Nat.pow_mul]
 have e7:n ||| c%128*128^i=n+c%128*128^i:=by
  rw[e6]at hn ⊢
  have:=Nat.shiftLeft_add_eq_or_of_lt hn (c%128)
  rw[Nat.shiftLeft_eq]at this;rw[Nat.or_comm,←this];omega
 rw[e7,UG]
 have hsum:n+c%128*128^i<18446744073709551616:=by
  by_cases h:i=9
  ·subst h
   have hb:c%128≤1:=by have:=h9 rfl;omega
   have h4:=bK (128^9) hb
   have:(128:Nat)^9=9223372036854775808:=by decide
   omega
  ·have h5:=DR (i+1) (by omega)
   have h3:=bK (128^i) (show c%128≤127 by omega)
   rw[Nat.pow_succ]at h5;omega
 omega
end Wi
namespace Go.AE
open _root_.BitVec renaming ofInt→aY
open _root_.Int renaming ofNat→dI,toNat_natCast→dP
open IntKind renaming i64→aC,u64→aP,u8→bE
open _root_.List renaming append_assoc→dW,drop_eq_getElem_cons→dX,eq_nil_of_length_eq_zero→gD,getD_eq_getElem?_getD→aD,getElem?_eq_getElem→aM,length_append→aV,length_cons→eB,length_set→cB,length_take→cU,take_append_drop→gS
open _root_.Nat renaming beq→cA,le_refl→aW,mul_le_mul_right→bK,zero_add→dB,zero_le→bW
open _root_.Option renaming bind_eq_bind→aT,bind_eq_some_iff→aK,map_eq_some_iff→bC,pure_def→bD,some.injEq→aH
open Region renaming wanted→fE
open _root_.Go.Proofs.Try renaming f115→gX,prog→aB
open _root_.UInt8 renaming ofNat→gW
open Value renaming slice→bA
open Go.Proofs Go.Proofs.Ytfjihbmehhccoaa Go.RowKit Wi
def wrH(B:List UInt8):List AO:=[.cells 65 [.sl 1 1 0 B.length],.row 5 1 B.length (aQ bG B)]
def uN(n:Int):V:=.c (.p (.i .u64 n))
def JG(B:List UInt8)(b:Nat):List AO:=[.pin 1 b,.cells 65 [.sl 2 1 0 B.length],.row 5 1 B.length (aQ bG B)]
theorem tU1(n:Int)(b k:Nat)(B:List UInt8):dC eW (dH 2 (gR (cW aB Try.f65) 0)) (bS 31 [(0,.c (.ptr 0 0)),(1,uN n)] [.pin 1 b,.cells 65 [.sl 2 1 0 k],.row 5 1 k (aQ bG B)]) (gG [0] (eZ 31 [0,1]) (bI aB Try.f65))=bT (decide (128≤n))
 (.done .normal
 (bS 31 [(0,.c (.ptr 0 0)),(1,.c (.p (.i aP n)))] [.pin 1 b,.cells 65 [.sl 2 1 0 k],.row 5 1 k fun e o=>bP [0,1,2] (aQ bG B e o)]))
 (.done (.exit 0)
 (bS 31 [(0,.c (.ptr 0 0)),(1,.c (.p (.i aP n)))] [.pin 1 b,.cells 65 [.sl 2 1 0 k],.row 5 1 k fun e o=>bP [0,1,2] (aQ bG B e o)])):=by kernel_rfl
theorem tU2(n:Int)(b k:Nat)(B:List UInt8):dC eW (bJ 2 (gR (cW aB Try.f65) 0)) (bS 31 [(0,.c (.ptr 0 0)),(1,uN n)] [.pin 1 b,.cells 65 [.sl 2 1 0 k],.row 5 1 k (aQ bG B)]) (gG [0] (eZ 31 [0,1]) (bI aB Try.f65))=Tr.rq (k=k)
 (.rq (1≤1)
 (.rq
 ((k+1)*1≤140737488355328 ∧
 k+1≤140737488355328 ∧
 ∀(e o:Nat),
 e<1 →
 o<1→iH (lM [C.p (PV.i bE (bE.wrap (↑(aY bE.bits (bE.wrap n) ||| aY bE.bits 128).toNat:Int)))] 1 1 (e+0) o)=true)
 (.rq (dI 0≤dI 7)
 (.done .normal
 (bS 31 [(0,.c (.ptr 0 0)),(1,.c (.p (.i aP (n.fdiv (2^min (Int.toNat 7) aP.bits)))))] [.pin 1 b,.cells 65 [.sl 2 1 0 (k+1)],.row 5 1 (k+1) fun e o=>bP [0,1,4] (fC k (aQ bG B) (fun e o=>bF C.top [C.p (PV.i bE (bE.wrap (↑(aY bE.bits (bE.wrap n) ||| aY bE.bits 128).toNat:Int)))] ((e+0)*1+o)) e o)]))))):=by kernel_rfl
theorem tU3(n:Int)(b k:Nat)(B:List UInt8):dC eW (bJ 1 (cW aB Try.f65)) (bS 31 [(0,.c (.ptr 0 0)),(1,uN n)] [.pin 1 b,.cells 65 [.sl 2 1 0 k],.row 5 1 k (aQ bG B)]) (gG [0] (eZ 31 [0,1]) (bI aB Try.f65))=Tr.rq (k=k)
 (.rq (1≤1)
 (.rq ((k+1)*1≤140737488355328∧k+1≤140737488355328∧∀(e o:Nat),e<1→o<1→iH (lM [C.p (PV.i bE (bE.wrap n))] 1 1 (e+0) o)=true)
 (.done .normal
 (bS 31 [(0,.c (.ptr 0 0)),(1,.c (.p (.i aP n)))] [.pin 1 b,.cells 65 [.sl 2 1 0 (k+1)],.row 5 1 (k+1) fun e o=>bP [0,1,4] (fC k (aQ bG B) (fun e o=>bF C.top [C.p (PV.i bE (bE.wrap n))] ((e+0)*1+o)) e o)])))):=by kernel_rfl
theorem GK(j:Nat):cA j j=true:=Nat.beq_refl j
theorem UF{j r:Nat}(h:j≠r):cA j r=false:=Bool.eq_false_iff.2 fun e=>h (Nat.eq_of_beq_eq_true e)
theorem aA8{P:Program}{G:Nat→Option Obj}{f:FuncId}{args:List V}{h h':List AO}{K:V→List AO→Prop}(he:∀(β:Bt) (R:Nat→Prop) (w:World),HS G β R w h→HS G β R w h')(hl:h'.length=h.length)(hf:jN P G f args h' K):jN P G f args h K:=by
 intro β R w vs ha hh;refine(hf β R w vs ha (he β R w hh)).mono ?_;rintro e w' ⟨u,β',R',x,h2,q1,q2,q3,q4,q5,q6⟩;exact⟨u,β',R',x,h2,q1,q2,q3,q4,q5,fun i hi=>q6 i (by omega)⟩
theorem aNG{ρ ids js:List Nat}{h hE:List AO}{r:Nat}(v:AO)(h1:vJ ids js r=none)(h2:oL r ρ=true):iL ρ ids js (fA v h r) hE=iL ρ ids js h hE:=by
 unfold iL
 have hl:fF (fA v h r)=fF h:=by rw[eH,eH,eR,cB]
 rw[hl];congr 1
 generalize hF:vI ρ ids js (fF h) hE=F
 have hFr:∀x y,F r x=F r y:=fun x y=>by
  rw[←hF];unfold vI;rw[h1,h2]
 clear hF hl
 have key:∀(l:List AO) (i k:Nat),(∀x y,F (i+k) x=F (i+k) y)→wK F i (fA v l k)=wK F i l:=by
  intro l;induction l with
  |nil=>intro i k _;rfl
  |cons x l ih=>
   intro i k hk;cases k with
   |zero=>
    show F i v::_=F i x::_
    rw[show F i v=F i x from hk v x]
   |succ k=>
    show F i x::wK F (i+1) (fA v l k)=F i x::wK F (i+1) l
    rw[ih (i+1) k (by rw[show i+1+k=i+(k+1) by omega];exact hk)]
 exact key h 0 r (by rw[dB];exact hFr)
theorem aIO(ρ:List Nat)(j:Nat)(h:List AO){hE hE':List AO}(e:hE.tail=hE'.tail)(p:bF .gone hE 1=bF .gone hE' 1){b b':Nat}(h1:hE.head?=some (.pin 1 b))(h2:hE'.head?=some (.pin 1 b')):iL ρ [j] [1] h hE=iL ρ [j] [1] h hE':=by
 cases hE with
 |nil=>cases h1
 |cons x t=>
  cases hE' with
  |nil=>cases h2
  |cons y t'=>
   obtain rfl:x=.pin 1 b:=by simpa using h1
   obtain rfl:y=.pin 1 b':=by simpa using h2
   obtain rfl:t=t':=e;unfold iL
   have e:vI ρ [j] [1] (fF h) (.pin 1 b::t)=vI ρ [j] [1] (fF h) (.pin 1 b'::t):=by
    funext i x;unfold vI vJ;cases cA j i<;>rfl
   rw[e];rfl
def YS(B:List UInt8)(j:Nat)(h:List AO):Option (Prop×Nat):=match bF .gone h j with
 |.cells 65 [.sl r 1 0 n]=>match bF .gone h r with
  |.row 5 1 n' f=>some (n=B.length∧n'=B.length∧∀e o,e<B.length→o<1→f e o=aQ bG B e o,r)
  |_=>none
 |_=>none
theorem CD{B:List UInt8}{j:Nat}{h:List AO}{r:Nat}{q:Prop}(he:YS B j h=some (q,r))(hq:q):∃f,bF .gone h j=.cells 65 [.sl r 1 0 B.length]∧bF .gone h r=.row 5 1 B.length f∧∀e o,e<B.length→o<1→f e o=aQ bG B e o:=by
 unfold YS at he
 split at he;rotate_left;· cases he
 rename_i r0 n hj
 split at he;rotate_left;· cases he
 rename_i n' f h1;injection he with he;injection he with e1 e2;subst e1;subst e2;obtain⟨rfl,rfl,hf⟩:=hq;exact⟨f,hj,h1,hf⟩
section
variable {G:Nat→Option Obj}
set_option maxRecDepth 100000 in
theorem UD{f:FuncId}{fn:Func}(hf:(aB).funcs[f]?=some fn)(hok:RO aB fn=true){args vs:List V}{B B':List UInt8}{h:List AO}{j r:Nat}{g:Nat→Nat→C}(hj:bF .gone h j=.cells 65 [.sl r 1 0 B.length])(hr:bF .gone h r=.row 5 1 B.length g)(hg:∀e o,e<B.length→o<1→g e o=aQ bG B e o)
  (hargs:nX [j,r] [j] 2 args=nX [0,1] [0] 2 args)
  (H:∀b,eL aB G (Zm [0] (bI aB fn) fun s=>cQ G s ⟨[.c (.ptr 0 0)]++vs,JG B' b⟩) (cW aB fn) (jJ fn [0,1] [0] [b] (.c (.ptr 0 0)::args) (wrH B)) fun e s=>e=.normal∧Zm [0] (bI aB fn) (fun s=>cQ G s ⟨[.c (.ptr 0 0)]++vs,JG B' b⟩) s):jN aB G f (.c (.ptr j 0)::args) h fun x h'=>x=MQ (xO [1] [j] h.length vs)∧h'=iL [j,r] [j] [1] h (JG B' 0):=by
 have n1:j≠r:=by rintro rfl;rw[hj]at hr;cases hr
 have hlr:r<h.length:=fY hr (by simp)
 refine aA8 (h':=fA (.row 5 1 B.length (aQ bG B)) h r) (fun β R w hh=>tX hh hr hg) (by rw[eR,cB]) ?_
 have hj':bF .gone (fA (.row 5 1 B.length (aQ bG B)) h r) j=.cells 65 [.sl r 1 0 B.length]:=by rw[cO _ _ _ (Ne.symm n1)];exact hj
 have hr':bF .gone (fA (.row 5 1 B.length (aQ bG B)) h r) r=.row 5 1 B.length (aQ bG B):=dV _ _ _ hlr
 have hout:=aNG (ρ:=[j,r]) (ids:=[j]) (js:=[1]) (h:=h) (hE:=JG B' 0) (r:=r) (.row 5 1 B.length (aQ bG B)) (by
  show (match cA j r with
   |true=>some 1
   |false=>vJ [] [] r)=none
  rw[UF n1];rfl) (by
  show (cA j r||(cA r r||_))=true
  rw[GK];simp)
 have hlen:(fA (.row 5 1 B.length (aQ bG B)) h r).length=h.length:=by rw[eR,cB]
 rw[←hout,←hlen]
 generalize fA (.row 5 1 B.length (aQ bG B)) h r=h0 at hj' hr' ⊢
 clear hj hr hg hout hlen hlr
 refine fun β R w us hw hh=>(sI (ρ:=[j,r]) (ids:=[j]) (ps:=[0]) (pns:=[0]) (js:=[1]) (sl:=[.c (.ptr 0 0)]) (vs:=vs) (hE:=fun bs=>JG B' (bF 0 bs 0)) hf hok ?_ ?_ (by simp) (by simp) rfl rfl rfl (fun i pn h=>?_) (fun bs hb i pn j b h1 h2 h3=>?_) (fun bs hb=>?_) β R w us hw hh).mono ?_
 ·simp[pS,oL,UF n1,UF (Ne.symm n1)]
 ·simp[sB,hj',hr',AO.live]
 ·cases i with
  |zero=>obtain rfl:0=pn:=by simpa using h
         exact⟨0,by simp⟩
  |succ i=>simp at h
 ·cases i with
  |zero=>
   obtain rfl:0=pn:=by simpa using h1
   obtain rfl:1=j:=by simpa using h2
   cases bs with
   |nil=>simp at hb
   |cons b0 bs=>
    obtain rfl:b0=b:=by simpa using h3
    exact⟨rfl,rfl⟩
  |succ i=>simp at h1
 ·obtain⟨bb,rfl⟩:∃b,bs=[b]:=by
    cases bs with
    |nil=>simp at hb
    |cons b0 bs=>cases bs with
     |nil=>exact⟨b0,rfl⟩
     |cons _ _=>simp at hb
  have i1:jE j [j,r] 0=some 0:=by simp only[jE,GK]
  have i2:jE r [j,r] 0=some 1:=by simp only[jE,GK,UF n1]
  have i5:jE j [j] 0=some 0:=by simp only[jE,GK]
  have e:jJ fn [j,r] [j] [bb] (.c (.ptr j 0)::args) h0=jJ fn [0,1] [0] [bb] (.c (.ptr 0 0)::args) (wrH B):=by
   unfold jJ inH
   have e1:nX [j,r] [j] ([j,r]:List Nat).length (.c (.ptr j 0)::args)=nX [0,1] [0] ([0,1]:List Nat).length (.c (.ptr 0 0)::args):=by
    show BN [j,r] [j] 2 (.c (.ptr j 0))::nX [j,r] [j] 2 args=BN [0,1] [0] 2 (.c (.ptr 0 0))::nX [0,1] [0] 2 args
    rw[hargs];congr 1;simp only[BN,inC,i5];rfl
   have e2:lV [j,r] h0 [j,r]=lV [0,1] (wrH B) [0,1]:=by
    simp only[lV,hj',hr',QO,vP,bP,i2,aL5];rfl
   have e3:tS [j,r] [j] [bb]=tS [0,1] [0] [bb]:=by
    simp only[tS,i1];rfl
   rw[e1,e2,e3];rfl
  rw[e];exact H bb
 ·rintro e w' ⟨u,β',R',x,h',rfl,⟨bs,hb,hx,hh'⟩,hr⟩
  exact⟨u,β',R',x,h',rfl,⟨hx,hh'.trans (aIO _ _ _ rfl rfl rfl rfl)⟩,hr⟩
theorem CE(x:UInt8):∀o:Nat,o<1→(fun e o:Nat=>bF C.top [C.p (PV.i bE (x.toNat:Int))] ((e+0)*1+o)) 0 o=.p (bG x o):=by
 intro o ho
 obtain rfl:o=0:=by omega
 rfl
set_option maxRecDepth 100000 in
theorem WX(B:List UInt8)(n:Nat)(hB:(B++iU n).length≤140737488355328)(b:Nat):eL aB G (Zm [0] (bI aB Try.f65) fun s=>cQ G s ⟨[.c (.ptr 0 0)]++[],JG (B++iU n) b⟩) (cW aB Try.f65) (jJ Try.f65 [0,1] [0] [b] [.c (.ptr 0 0),uN n] (wrH B)) fun e s=>e=.normal∧Zm [0] (bI aB Try.f65) (fun s=>cQ G s ⟨[.c (.ptr 0 0)]++[],JG (B++iU n) b⟩) s:=by
 refine eL.loop' (l:=cW aB Try.f65) (id:=0) (b:=inr (inr (bF .skip (cW aB Try.f65) 0))) (r:=bJ 1 (cW aB Try.f65)) (by kernel_rfl) (σ:=List UInt8×Nat)
   (fun s=>(fun n B k=>bS 31 [(0,.c (.ptr 0 0)),(1,uN n)] [.pin 1 b,.cells 65 [.sl 2 1 0 k],.row 5 1 k (aQ bG B)]) ((s.2:Nat):Int) s.1 s.1.length) (fun s=>s.1++iU s.2=B++iU n) (fun s=>s.2) (B,n) rfl ((gU [2,0,1] (eZ 31 [0,1]) (by kernel_rfl) _).trans (aJ (by kernel_rfl))) ?_
 rintro⟨B1,m⟩ h1 Q1 q1n q1e _;dsimp only at h1 q1n ⊢
 have hl:B1.length+(iU m).length=(B++iU n).length:=by rw[←h1,aV]
 have hp:=GO m
 have ex:∀x:UInt8,∀e o:Nat,e<1→o<1→iH (lM [C.p (PV.i bE (x.toNat:Int))] 1 1 (e+0) o)=true:=fun x e o he ho=>by
  obtain rfl:e=0:=by omega
  obtain rfl:o=0:=by omega
  rfl
 refine eL.evG aX 2 (tU1 m b B1.length B1) ?_;simp only[bZ,aL,cF,mC,decide_eq_true_eq,decide_eq_false_iff_not];refine⟨fun c=>⟨?_⟩,fun c=>⟨q1e _ ?_⟩⟩
 ·refine eL.pre (aJ (st':=(fun n B k=>bS 31 [(0,.c (.ptr 0 0)),(1,uN n)] [.pin 1 b,.cells 65 [.sl 2 1 0 k],.row 5 1 k (aQ bG B)]) (m:Int) B1 B1.length) (by kernel_rfl)) (eL.evH aX (tU2 m b B1.length B1) ?_)
  simp only[bB,aL,cF];rw[aI0,aSF]
  have e:=wY (n:=m) (by omega)
  rw[e]at h1 hl;rw[eB]at hl;refine⟨trivial,aW _,⟨by omega,by omega,ex _⟩,by decide,⟨q1n (B1++[gW (m%128+128)],m / 128) _ ?_ ?_ ?_⟩⟩
  ·show (B1++[_])++_=_
   rw[dW];exact h1
  ·show m / 128<m;omega
  ·have hlx:(B1++[gW (m%128+128)]).length=B1.length+1:=by simp
   rw[hlx];exact iG ⟨rfl,rfl,⟨rfl,rfl,rfl,fun e o he ho=>oT (ρ:=[0,1,4]) rfl (CE _) he ho⟩,trivial⟩
 ·refine eL.pre (aJ (st':=(fun n B k=>bS 31 [(0,.c (.ptr 0 0)),(1,uN n)] [.pin 1 b,.cells 65 [.sl 2 1 0 k],.row 5 1 k (aQ bG B)]) (m:Int) B1 B1.length) (by kernel_rfl)) (eL.evH aX (tU3 m b B1.length B1) ?_)
  simp only[bB,aL,cF]
  have hm:m<128:=by omega
  rw[aHF hm]
  have e:=sZ hm
  rw[e]at h1 hl
  have hl:B1.length+1=_:=hl
  refine⟨trivial,aW _,⟨by omega,by omega,ex _⟩,⟨trivial,?_⟩⟩;refine⟨[],rfl,?_⟩;rw[←h1];unfold JG
  have hlx:(B1++[gW m]).length=B1.length+1:=by simp
  rw[hlx]
  refine(aJ (st':=⟨[.c (.ptr 0 0)],[.pin 1 b,.cells 65 [.sl 2 1 0 (B1.length+1)],.row 5 1 (B1.length+1) (fun e o=>bP [0,1,2] (bP [0,1,4] (fC B1.length (aQ bG B1) (fun e o=>bF C.top [C.p (PV.i bE ((gW m).toNat:Int))] ((e+0)*1+o)) e o)))]⟩) (by kernel_rfl)).trans ?_
  exact BU ⟨rfl,rfl,⟨rfl,rfl,rfl,fun e o he ho=>congrArg (bP [0,1,2]) (oT (ρ:=[0,1,4]) rfl (CE _) he ho)⟩,trivial⟩
def nL(h:List AO)(j:Nat):Nat:=match bF .gone h j with
 |.pin i _=>i
 |_=>j
theorem pI{P:Program}{f:FuncId}{q off:Nat}{args:List V}{h:List AO}{K:V→List AO→Prop}(hf:jN P G f (.c (.ptr (nL h q) off)::args) h K):jN P G f (.c (.ptr q off)::args) h K:=by
 unfold nL at hf;split at hf
 ·rename_i j b0 hq
  intro β R w vs ha hh;refine hf β R w vs ?_ hh
  generalize vs.toList=us at ha
  cases us with
  |nil=>exact ha.elim
  |cons u us=>
   obtain⟨h1,h2⟩:=ha;obtain⟨b,o,e1,e2⟩:=h1
   have hob:=hh.obj q b o e1
   rw[hq]at hob;obtain⟨e3,o2,e4⟩:=hob;subst e3;exact⟨⟨_,o2,e4,e2⟩,h2⟩
 ·exact hf
theorem lQ{p q:Prop}{v u:V}{h h':List AO}(e:some (p,v,h)=some (q,u,h')):p=q∧v=u∧h=h':=by
 injection e with e;injection e with e1 e;injection e with e2 e3;exact⟨e1,e2,e3⟩
def RW(B:List UInt8)(m:Nat):jU:=fun args h=>match args with
 |[.c (.ptr j 0),.c (.p (.i .u64 n))]=>match YS B (nL h j) h with
  |some (q,r)=>some (q∧n=(m:Int)∧(B++iU m).length≤140737488355328,.t [],iL [nL h j,r] [nL h j] [1] h (JG (B++iU m) 0))
  |none=>none
 |_=>none
set_option maxRecDepth 100000 in
theorem aGG(B:List UInt8)(m:Nat):fZ aB G 65 (RW B m):=by
 intro args h p v h' hm hp;unfold RW at hm
 split at hm;rotate_left;· cases hm
 split at hm;rotate_left;· cases hm
 rename_i j n _ q r hw;obtain⟨rfl,rfl,rfl⟩:=lQ hm;obtain⟨hq,rfl,hB⟩:=hp;obtain⟨g,k1,k2,k3⟩:=CD hw hq
 exact pI (UD (args:=[uN m]) (vs:=[]) Try.func65 (by kernel_rfl) k1 k2 k3 rfl fun b=>WX B m hB b)
def aDK(B:List UInt8)(m:Nat):Ext:=lH [(65,RW B m)]
end
theorem tWI(n:Int)(m b:Nat)(B:List UInt8):dC (aDK B m) (cW aB Try.f34) (jJ Try.f34 [0,1] [0] [b] [.c (.ptr 0 0),iV n] (wrH B)) (gG [0] (eZ 13 [0]) (bI aB Try.f34))=Tr.rq (dI 0≤dI 1)
 (.rq (dI 0≤dI 63)
 (.rq
 ((B.length=B.length∧B.length=B.length∧∀(e o:Nat),e<B.length→o<1→bP [0,1] (aQ bG B e o)=aQ bG B e o) ∧
 aP.wrap (↑(aY 64 (aP.wrap (aP.wrap n*2^1)) ^^^ aY 64 (aP.wrap (n.fdiv (2^63)))).toNat:Int)=(↑m:Int) ∧
 (B++iU m).length≤140737488355328)
 (.done .normal
 (bS 13 [(0,.c (.ptr 0 0))] [.pin 1 b,.cells 65 [.sl 2 1 0 (B++iU m).length],.row 5 1 (B++iU m).length fun e o=>bP [2,0,5] (C.p (PV.i bE (↑((B++iU m).getD e default).toNat:Int)))])))):=by kernel_rfl
theorem tWT(s:ByteArray)(m b:Nat)(B:List UInt8):dC (aDK B m) (dH 1 (cW aB Try.f35)) (jJ Try.f35 [0,1] [0] [b] [.c (.ptr 0 0),.c (.p (.s s))] (wrH B)) (gG [0] (eZ 18 [0,1]) (bI aB Try.f35))=Tr.rq
 ((B.length=B.length∧B.length=B.length∧∀(e o:Nat),e<B.length→o<1→bP [0,1] (aQ bG B e o)=aQ bG B e o) ∧
 aP.wrap (↑s.size:Int)=(↑m:Int)∧(B++iU m).length≤140737488355328)
 (.done .normal
 (bS 18 [(0,.c (.ptr 0 0)),(1,.c (.p (.s s)))] [.pin 1 b,.cells 65 [.sl 2 1 0 (B++iU m).length],.row 5 1 (B++iU m).length fun e o=>bP [2,0,5] (C.p (PV.i bE (↑((B++iU m).getD e default).toNat:Int)))])):=by kernel_rfl
def JP:dG→Array Oper
 |.raw (.region _ ops _)=>ops
 |_ => #[]
noncomputable def XV:Array Oper:=JP (bF .skip (cW aB Try.f35) 1)
noncomputable def aPN:List AI:=(eE aB XV (XV.toList.take 6)).getD []
noncomputable def aPL:List AI:=(eE aB XV (XV.toList.drop 7)).getD []
theorem aPY(s:ByteArray)(b k:Nat)(B:List UInt8):iX eW aPN (bS 18 [(0,.c (.ptr 0 0)),(1,.c (.p (.s s)))] [.pin 1 b,.cells 65 [.sl 2 1 0 k],.row 5 1 k (aQ bG B)]) (fun st=>aAL 5 (.t 13) (.t 14) st fun v h=>iX eW aPL ⟨lU st.t (some 15) v,h⟩ fun s'=>.done .normal (QE (eZ 18 [0]) s'))=Tr.rq (k=k)
  (Tr.rq (k+s.size≤140737488355328)
   (Tr.done X.normal
    (bS 18 [(0,V.c (C.ptr 0 0))] [AO.pin 1 b,AO.cells 65 [C.sl 2 1 0 (k+s.size)],AO.row 5 1 (k+s.size) fun e o=>bP [0,1,3] (fC k (aQ bG B) (fun e x=>C.p (PV.i bE (↑(s.data.toList.getD e 0).toNat:Int))) e o)]))):=by kernel_rfl
end Go.AE
namespace Go.AE
open _root_.BitVec renaming ofInt→aY
open _root_.Int renaming ofNat→dI,toNat_natCast→dP
open IntKind renaming i64→aC,u64→aP,u8→bE
open _root_.List renaming append_assoc→dW,drop_eq_getElem_cons→dX,eq_nil_of_length_eq_zero→gD,getD_eq_getElem?_getD→aD,getElem?_eq_getElem→aM,length_append→aV,length_cons→eB,length_set→cB,length_take→cU,take_append_drop→gS
open _root_.Nat renaming beq→cA,le_refl→aW,mul_le_mul_right→bK,zero_add→dB,zero_le→bW
open _root_.Option renaming bind_eq_bind→aT,bind_eq_some_iff→aK,map_eq_some_iff→bC,pure_def→bD,some.injEq→aH
open Region renaming wanted→fE
open _root_.Go.Proofs.Try renaming f115→gX,prog→aB
open _root_.UInt8 renaming ofNat→gW
open Value renaming slice→bA
open Go.Proofs Go.Proofs.Ytfjihbmehhccoaa Go.RowKit Wi
theorem aSY(X M:List UInt8)(e o:Nat):fC X.length (aQ bG X) (fun e x=>C.p (PV.i bE (↑(M.getD e 0).toNat:Int))) e o=aQ bG (X++M) e o:=by
 unfold fC aQ aE bG
 by_cases h:e<X.length
 ·rw[if_pos h]
  simp[List.getElem?_append_left h]
 ·rw[if_neg h]
  show C.p (PV.i bE (↑(M.getD (e-X.length) 0).toNat:Int))=C.p (PV.i bE (↑((X++M).getD e default).toNat:Int))
  rw[aD,aD,List.getElem?_append_right (by omega)];rfl
def leU(x:V)(B:List UInt8):Option Prop:=match x with
 |.c (.p (.l 1 n f))=>some (n=B.length∧∀e o,e<B.length→o<1→f e o=aE bG B e o)
 |.c (.p (.z (.slice none 0 0)))=>some (B=[])
 |_=>none
theorem zN{x:V}{p:Prop}{B:List UInt8}(h:leU x B=some p)(hp:p):iF x (aU bG 1 B):=by
 unfold leU at h;split at h
 ·injection h with h
  subst h;obtain⟨rfl,h2⟩:=hp;exact iF.p (lE.l fun e o he ho=>lE.of_eq (h2 e o he ho))
 ·injection h with h
  subst h;subst hp;exact iF.p (lE.nil 1 _)
 ·cases h
def aMC(L:List UInt8):jU
 |[x],h=>match leU x L with
  |some p=>some (p∧L.length≤140737488355328,.c (.sl (fF h) 1 0 L.length),iL [] [] [] h [.row 5 1 L.length (aQ bG L)])
  |none=>none
 |_,_=>none
def aK9(L:List UInt8):Ext:=aH9 71 (aMC L) eW
theorem aRX(h:List AO)(L:List UInt8):dC eW (cW aB Try.f71) (jJ Try.f71 [] [] [] [aU bG 1 L] h) (gG [] [] (bI aB Try.f71))=bT (decide (0<L.length))
 (Tr.rq (0=0)
 (Tr.rq ((0+L.length)*1≤140737488355328∧0+L.length≤140737488355328∧∀(e o:Nat),e<L.length→o<1→iH (C.p (aE bG L e o))=true)
 (Tr.done X.ret
 (St.mk [V.c (C.sl 0 1 0 (0+L.length))] [AO.row 5 1 (0+L.length) fun e o=>bP [1] (fC 0 (fun e o=>bF C.top [] (e*1+o)) (fun e o=>C.p (PV.i bE (↑(L.getD e default).toNat:Int))) e o)]))))
 ((Tr.done X.ret (St.mk [V.c (C.p (PV.z (bA none 0 0)))] [])).alt
 (Tr.rq (0=0)
 (Tr.rq ((0+L.length)*1≤140737488355328∧0+L.length≤140737488355328∧∀(e o:Nat),e<L.length→o<1→iH (C.p (aE bG L e o))=true)
 (Tr.done X.ret
 (St.mk [V.c (C.sl 0 1 0 (0+L.length))] [AO.row 5 1 (0+L.length) fun e o=>bP [1] (fC 0 (fun e o=>bF C.top [] (e*1+o)) (fun e o=>C.p (PV.i bE (↑(L.getD e default).toNat:Int))) e o)]))))):=by kernel_rfl
section
variable {G:Nat→Option Obj}
theorem BD(B:List UInt8)(m:Nat):bH aB G (aDK B m):=dZ (by simp;exact aGG B m)
set_option maxRecDepth 100000 in
theorem WS(B:List UInt8)(n:Int)(h1:eV .i64 n)(hB:(B++eT n).length≤140737488355328)(b:Nat):eL aB G (Zm [0] (bI aB Try.f34) fun s=>cQ G s ⟨[.c (.ptr 0 0)]++[],JG (B++eT n) b⟩) (cW aB Try.f34) (jJ Try.f34 [0,1] [0] [b] [.c (.ptr 0 0),iV n] (wrH B)) fun e s=>e=.normal∧Zm [0] (bI aB Try.f34) (fun s=>cQ G s ⟨[.c (.ptr 0 0)]++[],JG (B++eT n) b⟩) s:=by
 refine eL.evH (BD B (zag n)) (tWI n (zag n) b B) ?_;simp only[bB,aL,cF];refine⟨by decide,by decide,⟨⟨trivial,trivial,fun _ _ _ _=>rfl⟩,?_,hB⟩,⟨trivial,[],rfl,aJ ?_⟩⟩
 ·have:=aA5 h1.1 h1.2
  exact this
 ·unfold JG eT
  rfl
set_option maxRecDepth 100000 in
theorem XA(B:List UInt8)(s:ByteArray)(hs:s.size≤140737488355328)(hB:(B++gO s).length≤140737488355328)(b:Nat):eL aB G (Zm [0] (bI aB Try.f35) fun st=>cQ G st ⟨[.c (.ptr 0 0)]++[],JG (B++gO s) b⟩) (cW aB Try.f35) (jJ Try.f35 [0,1] [0] [b] [.c (.ptr 0 0),.c (.p (.s s))] (wrH B)) fun e st=>e=.normal∧Zm [0] (bI aB Try.f35) (fun st=>cQ G st ⟨[.c (.ptr 0 0)]++[],JG (B++gO s) b⟩) st:=by
 have hl:s.data.toList.length=s.size:=by rw[Array.length_toList];rfl
 have hB2:(B++gO s).length=(B++iU s.size).length+s.size:=by unfold gO;simp;omega
 refine eL.evG (BD B s.size) 1 (tWT s s.size b B) ?_;simp only[bB,aL,cF];refine⟨⟨⟨trivial,trivial,fun _ _ _ _=>rfl⟩,?_,by omega⟩,⟨?_⟩⟩
 ·rw[UG];omega
 have e:bJ 1 (cW aB Try.f35)=[.raw (.region 1 XV false)]:=by kernel_rfl
 rw[e]
 refine eL.pre (aJ (st':=(fun k B=>bS 18 [(0,.c (.ptr 0 0)),(1,.c (.p (.s s)))] [.pin 1 b,.cells 65 [.sl 2 1 0 k],.row 5 1 k (aQ bG B)]) (B++iU s.size).length (B++iU s.size)) (by kernel_rfl)) ?_
 refine eL.spec aX rfl 6 (o:=XV.toList.getD 6 default) (al1:=aPN) (al2:=aPL) (by kernel_rfl) (by kernel_rfl) (by kernel_rfl) (by kernel_rfl) (op:=.call { callee:=.builtin .append,args := #[.tmp 13,.tmp 14],argTypes := #[63,9] }) (by kernel_rfl)
   (aAK (i:=((aB).info? 5).get (by kernel_rfl)) (by kernel_rfl) (by kernel_rfl) (by kernel_rfl) (by kernel_rfl) (by kernel_rfl) (by kernel_rfl) (by kernel_rfl) (by kernel_rfl)) (eZ 18 [0]) (d:=some 15) (by kernel_rfl) (aPY s b (B++iU s.size).length (B++iU s.size)) ?_
 simp only[bB,aL];refine⟨trivial,by omega,⟨_,cQ.refl _,⟨rfl,[],rfl,?_⟩⟩⟩;unfold JG gO;rw[←dW]
 generalize B++iU s.size=X at hB2 ⊢
 have hlx:(X++s.data.toList).length=X.length+s.size:=by rw[aV,hl]
 rw[hlx]
 refine(aJ (st':=⟨[.c (.ptr 0 0)],[.pin 1 b,.cells 65 [.sl 2 1 0 (X.length+s.size)],.row 5 1 (X.length+s.size) (fun e o=>bP [0,1,2] (bP [0,1,3] (fC X.length (aQ bG X) (fun e x=>C.p (PV.i bE (↑(s.data.toList.getD e 0).toNat:Int))) e o)))]⟩) (by kernel_rfl)).trans ?_
 refine BU ⟨rfl,rfl,⟨rfl,rfl,rfl,fun e o he ho=>?_⟩,trivial⟩;exact congrArg (fun c=>bP [0,1,2] (bP [0,1,3] c)) (aSY X s.data.toList e o)
def aCE(B:List UInt8)(m:Int):jU:=fun args h=>match args with
 |[.c (.ptr j 0),.c (.p (.i .i64 n))]=>match YS B (nL h j) h with
  |some (q,r)=>some (q∧n=m∧eV .i64 m∧(B++eT m).length≤140737488355328,.t [],iL [nL h j,r] [nL h j] [1] h (JG (B++eT m) 0))
  |none=>none
 |_=>none
def RX(B:List UInt8)(m:ByteArray):jU:=fun args h=>match args with
 |[.c (.ptr j 0),.c (.p (.s n))]=>match YS B (nL h j) h with
  |some (q,r)=>some (q∧n=m∧m.size≤140737488355328∧(B++gO m).length≤140737488355328,.t [],iL [nL h j,r] [nL h j] [1] h (JG (B++gO m) 0))
  |none=>none
 |_=>none
set_option maxRecDepth 100000 in
theorem aLQ(B:List UInt8)(m:Int):fZ aB G 34 (aCE B m):=by
 intro args h p v h' hm hp;unfold aCE at hm
 split at hm;rotate_left;· cases hm
 split at hm;rotate_left;· cases hm
 rename_i j n _ q r hw;obtain⟨rfl,rfl,rfl⟩:=lQ hm;obtain⟨hq,rfl,hr,hB⟩:=hp;obtain⟨g,k1,k2,k3⟩:=CD hw hq
 exact pI (UD (args:=[iV n]) (vs:=[]) Try.func34 (by kernel_rfl) k1 k2 k3 rfl fun b=>WS B n hr hB b)
set_option maxRecDepth 100000 in
theorem aGH(B:List UInt8)(m:ByteArray):fZ aB G 35 (RX B m):=by
 intro args h p v h' hm hp;unfold RX at hm
 split at hm;rotate_left;· cases hm
 split at hm;rotate_left;· cases hm
 rename_i j n _ q r hw;obtain⟨rfl,rfl,rfl⟩:=lQ hm;obtain⟨hq,rfl,hr,hB⟩:=hp;obtain⟨g,k1,k2,k3⟩:=CD hw hq
 exact pI (UD (args:=[.c (.p (.s n))]) (vs:=[]) Try.func35 (by kernel_rfl) k1 k2 k3 rfl fun b=>XA B n hr hB b)
theorem CM{P:Program}{f:FuncId}{fn:Func}(hf:P.funcs[f]?=some fn)(hok:RO P fn=true){args vs:List V}{v:V}{h hE:List AO}(hv:MQ (xO [] [] h.length vs)=v)
  (H:eL P G (Zm [] (bI P fn) fun s=>cQ G s ⟨[]++vs,hE⟩) (cW P fn) (jJ fn [] [] [] args h) fun e s=>e=.normal∧Zm [] (bI P fn) (fun s=>cQ G s ⟨[]++vs,hE⟩) s) :
  jN P G f args h fun x h'=>x=v∧h'=iL [] [] [] h hE:=by
 refine fun β R w us ha hh=>(sI (ρ:=[]) (ids:=[]) (ps:=[]) (pns:=[]) (js:=[]) (sl:=[]) (vs:=vs) (hE:=fun bs=>hE) hf hok rfl rfl (by simp) (by simp) rfl rfl rfl (fun i pn h=>by simp at h) (fun bs hb i pn j b h1 h2 h3=>by simp at h1) (fun bs hb=>?_) β R w us ha hh).mono ?_
 ·obtain rfl:bs=[]:=by simpa using hb
  exact H
 ·rintro e w' ⟨u,β',R',x,h',rfl,⟨bs,hb,hx,hh'⟩,hr⟩
  exact⟨u,β',R',x,h',rfl,⟨hx.trans hv,hh'⟩,hr⟩
set_option maxRecDepth 100000 in
theorem aOU(L:List UInt8):fZ aB G 71 (aMC L):=by
 intro args h p v h' hm hp;unfold aMC at hm
 split at hm;rotate_left;· cases hm
 split at hm;rotate_left;· cases hm
 rename_i x _ q hx;obtain⟨rfl,rfl,rfl⟩:=lQ hm;obtain⟨hq,hL⟩:=hp
 refine jN.args (args':=[aU bG 1 L]) (CM (vs:=[.c (.sl 0 1 0 L.length)]) (hE:=[.row 5 1 L.length (aQ bG L)]) Try.func71 (by kernel_rfl) (by rw[eH];rfl) ?_) (.cons (zN hx hq) .nil)
 refine eL.evH aX (aRX h L) ?_;simp only[pG,bZ,bB,aL,jP,dB]
 have one:∀(e o:Nat),iH (C.p (aE bG L e o))=true:=fun e o=>rfl
 have big:L.length*1≤140737488355328∧L.length≤140737488355328∧∀(e o:Nat),e<L.length→o<1→iH (C.p (aE bG L e o))=true:=⟨by omega,by omega,fun e o _ _=>one e o⟩
 have key:cQ G (St.mk [V.c (C.sl 0 1 0 L.length)] [AO.row 5 1 L.length fun e o=>bP [1] (fC 0 (fun e o=>bF C.top [] (e*1+o)) (fun e o=>C.p (aE bG L e o)) e o)]) ⟨[]++[.c (.sl 0 1 0 L.length)],[.row 5 1 L.length (aQ bG L)]⟩:=aJ (by kernel_rfl)
 refine⟨fun _=>⟨trivial,big,⟨key⟩⟩,fun h=>⟨⟨?_⟩,trivial,big,⟨key⟩⟩⟩
 have h0:L.length=0:=by have:=of_decide_eq_false h;omega
 obtain rfl:=gD h0
 exact(lT 5 1 (aQ bG []) 0 (by rfl)).trans (aJ (by kernel_rfl))
theorem PH(L:List UInt8):bH aB G (aK9 L):=RV (aOU L) aX
end
theorem aPZ(b:Nat)(B:List UInt8):dC (aK9 B) (dH 2 (cW aB Try.f39)) (jJ Try.f39 [0,1] [0] [b] [.c (.ptr 0 0)] (wrH B)) (gG [0] (eZ 8 [0,2]) (bI aB Try.f39))=Tr.rq (0+B.length≤B.length∧∀(e o:Nat),e<B.length→o<1→BA (bP [0,1] (aQ bG B e o))=true)
 (.rq
 (((B.length=B.length∧∀(e o:Nat),e<B.length→o<1→mI (bP [0,1] (aQ bG B (e+0) o))=aE bG B e o)∧B.length≤140737488355328) ∧
 B.length=B.length∧∀(e o:Nat),e<B.length→o<1→scC (vH [] [] 0 (aQ bG B e o))=true)
 (.done .normal
 (bS 8 [(0,.c (.ptr 0 0)),(2,.c (.sl 1 1 0 B.length))] [.pin 2 b,.row 5 1 B.length fun e o=>bP [2,3,0,1] (C.p (PV.i bE (↑(B.getD e default).toNat:Int))),.cells 65 [.sl 3 1 0 B.length],.row 5 1 B.length fun e o=>bP [2,3,0,1] (bP [0,1] (aQ bG B e o))]))):=by kernel_rfl
theorem aNJ(b:Nat)(B:List UInt8):dC eW (bJ 2 (cW aB Try.f39)) (bS 8 [(0,.c (.ptr 0 0)),(2,aU bG 1 B)] [.pin 1 b,.cells 65 [.sl 2 1 0 B.length],.row 5 1 B.length (aQ bG B)]) (gG [0] (eZ 8 [0,2]) (bI aB Try.f39))=Tr.done X.ret (bS 2 [(0,.c (.ptr 0 0)),(1,.c (.p (.l 1 B.length (aE bG B))))] [.pin 1 b,.cells 65 [.sl 2 1 0 B.length],.row 5 1 B.length fun e o=>bP [0,1,2] (aQ bG B e o)]):=by kernel_rfl
def RY(B:List UInt8):jU:=fun args h=>match args with
 |[.c (.ptr j 0)]=>match YS B (nL h j) h with
  |some (q,r)=>some (q∧B.length≤140737488355328,aU bG 1 B,iL [nL h j,r] [nL h j] [1] h (JG B 0))
  |none=>none
 |_=>none
def lI(B:List UInt8)(s:Rs):AO:=.cells 123 [.p (bY bG 1 B),.p (.i .i64 s.at_),.p (.i .i64 s.er)]
def u8V(n:Nat):V:=.c (.p (.i .u8 n))
theorem tO(B:List UInt8)(a:Nat)(e:Int)(b:Nat):dC eW (cW aB Try.f106) (jJ Try.f106 [0] [0] [b] [.c (.ptr 0 0)] [lI B ⟨a,e⟩]) (gG [0] [] (bI aB Try.f106))=bT ((Rs.mk a e).er != 0)
 (.done .ret
 (bS 2 [(0,.c (.ptr 0 0)),(1,.c (.p (.i bE 0)))] [.pin 1 b,.cells 123 [.p (.l 1 B.length (aE bG B)),.p (.i .i64 (↑(Rs.mk a e).at_:Int)),.p (.i .i64 (Rs.mk a e).er)]]))
 (bT (decide ((↑B.length:Int)≤(↑(Rs.mk a e).at_:Int)))
 (.done .ret
 (bS 2 [(0,.c (.ptr 0 0)),(1,.c (.p (.i bE 0)))] [.pin 1 b,.cells 123 [.p (.l 1 B.length (aE bG B)),.p (.i .i64 (↑(Rs.mk a e).at_:Int)),.p (.i .i64 3)]]))
 (.rq (eV aC ((↑(Rs.mk a e).at_:Int)+1))
 (.rq (eV aC ((↑(Rs.mk a e).at_:Int)+1-1))
 (.rq (0≤(↑(Rs.mk a e).at_:Int)+1-1∧(↑(Rs.mk a e).at_:Int)+1-1<(↑B.length:Int))
 (.done .ret
 (bS 2 [(0,.c (.ptr 0 0)),(1,.c (.p (.i bE (↑(B.getD ((↑(Rs.mk a e).at_:Int)+1-1).toNat default).toNat:Int))))] [.pin 1 b,.cells 123 [.p (.l 1 B.length (aE bG B)),.p (.i .i64 ((↑(Rs.mk a e).at_:Int)+1)),.p (.i .i64 (Rs.mk a e).er)]])))))):=by kernel_rfl
section
variable {G:Nat→Option Obj}
set_option maxRecDepth 100000 in
theorem ZE(B:List UInt8)(hB:B.length≤140737488355328)(b:Nat)(Q:X→St→Prop):eL aB G (Zm [0] (bI aB Try.f39) fun s=>cQ G s ⟨[.c (.ptr 0 0)]++[aU bG 1 B],JG B b⟩) (cW aB Try.f39) (jJ Try.f39 [0,1] [0] [b] [.c (.ptr 0 0)] (wrH B)) Q:=by
 refine eL.evG (PH B) 2 (aPZ b B) ?_;simp only[bB,aL,cF,dB];refine⟨⟨aW _,fun _ _ _ _=>rfl⟩,⟨⟨⟨trivial,fun _ _ _ _=>rfl⟩,hB⟩,trivial,fun _ _ _ _=>rfl⟩,⟨?_⟩⟩
 refine eL.pre ((kZ (j:=2) (id:=1) (ty:=5) (sz:=1) (n:=B.length) (off:=0) (len:=B.length) (f:=aQ bG B) (by kernel_rfl) (by kernel_rfl) (by omega) (fun _ _ _ _=>rfl)).trans ((fG (eZ 8 [0,2]) _).trans (aJ (st':=bS 8 [(0,.c (.ptr 0 0)),(2,aU bG 1 B)] [.pin 1 b,.cells 65 [.sl 2 1 0 B.length],.row 5 1 B.length (aQ bG B)]) (by kernel_rfl)))) ?_
 refine eL.evH aX (aNJ b B) ?_;simp only[aL,jP]
 exact⟨aJ (by kernel_rfl)⟩
set_option maxRecDepth 100000 in
theorem aGI(B:List UInt8):fZ aB G 39 (RY B):=by
 intro args h p v h' hm hp;unfold RY at hm
 split at hm;rotate_left;· cases hm
 split at hm;rotate_left;· cases hm
 rename_i j _ q r hw;obtain⟨rfl,rfl,rfl⟩:=lQ hm;obtain⟨hq,hB⟩:=hp;obtain⟨g,k1,k2,k3⟩:=CD hw hq
 exact pI (UD (args:=[]) (vs:=[aU bG 1 B]) Try.func39 (by kernel_rfl) k1 k2 k3 rfl fun b=>ZE B hB b _)
def BX(B:List UInt8)(s:Rs)(b:Nat):List AO:=[.pin 1 b,lI B s]
set_option maxRecDepth 100000 in
theorem AN{f:FuncId}{fn:Func}(hf:(aB).funcs[f]?=some fn)(hok:RO aB fn=true){args args0 vs:List V}{B:List UInt8}{s s':Rs}{h:List AO}{j:Nat}(hj:bF .gone h j=lI B s)
  (hargs:nX [j] [j] 1 args=nX [0] [0] 1 args0)
  (H:∀b,eL aB G (Zm [0] (bI aB fn) fun st=>cQ G st ⟨[.c (.ptr 0 0)]++vs,BX B s' b⟩) (cW aB fn) (jJ fn [0] [0] [b] (.c (.ptr 0 0)::args0) [lI B s]) fun e st=>e=.normal∧Zm [0] (bI aB fn) (fun st=>cQ G st ⟨[.c (.ptr 0 0)]++vs,BX B s' b⟩) st):jN aB G f (.c (.ptr j 0)::args) h fun x h'=>x=MQ (xO [1] [j] h.length vs)∧h'=iL [j] [j] [1] h (BX B s' 0):=by
 refine fun β R w us hw hh=>(sI (ρ:=[j]) (ids:=[j]) (ps:=[0]) (pns:=[0]) (js:=[1]) (sl:=[.c (.ptr 0 0)]) (vs:=vs) (hE:=fun bs=>BX B s' (bF 0 bs 0)) hf hok ?_ ?_ (by simp) (by simp) rfl rfl rfl (fun i pn h=>?_) (fun bs hb i pn j b h1 h2 h3=>?_) (fun bs hb=>?_) β R w us hw hh).mono ?_
 ·simp[pS,oL]
 ·simp[sB,hj,AO.live,lI]
 ·cases i with
  |zero=>obtain rfl:0=pn:=by simpa using h
         exact⟨0,by simp⟩
  |succ i=>simp at h
 ·cases i with
  |zero=>
   obtain rfl:0=pn:=by simpa using h1
   obtain rfl:1=j:=by simpa using h2
   cases bs with
   |nil=>simp at hb
   |cons b0 bs=>
    obtain rfl:b0=b:=by simpa using h3
    exact⟨rfl,rfl⟩
  |succ i=>simp at h1
 ·obtain⟨bb,rfl⟩:∃b,bs=[b]:=by
    cases bs with
    |nil=>simp at hb
    |cons b0 bs=>cases bs with
     |nil=>exact⟨b0,rfl⟩
     |cons _ _=>simp at hb
  have i5:jE j [j] 0=some 0:=by simp only[jE,GK]
  have e:jJ fn [j] [j] [bb] (.c (.ptr j 0)::args) h=jJ fn [0] [0] [bb] (.c (.ptr 0 0)::args0) [lI B s]:=by
   unfold jJ inH
   have e1:nX [j] [j] ([j]:List Nat).length (.c (.ptr j 0)::args)=nX [0] [0] ([0]:List Nat).length (.c (.ptr 0 0)::args0):=by
    show BN [j] [j] 1 (.c (.ptr j 0))::nX [j] [j] 1 args=BN [0] [0] 1 (.c (.ptr 0 0))::nX [0] [0] 1 args0
    rw[hargs];congr 1;simp only[BN,inC,i5];rfl
   have e2:lV [j] h [j]=lV [0] [lI B s] [0]:=by
    simp only[lV,hj];rfl
   have e3:tS [j] [j] [bb]=tS [0] [0] [bb]:=by
    simp only[tS,i5];rfl
   have e4:args.length=args0.length:=by
    have e5:∀(ρ ids:List Nat) (n:Nat) (l:List V),(nX ρ ids n l).length=l.length:=fun ρ ids n l=>BB l
    have:=congrArg List.length hargs
    rwa [e5,e5]at this
   rw[e1,e2,e3,eB,eB,e4];rfl
  rw[e];exact H bb
 ·rintro e w' ⟨u,β',R',x,h',rfl,⟨bs,hb,hx,hh'⟩,hr⟩
  exact⟨u,β',R',x,h',rfl,⟨hx,hh'.trans (aIO _ _ _ rfl rfl rfl rfl)⟩,hr⟩
def GD(B:List UInt8)(j:Nat)(h:List AO):Option (Prop×Int×Int):=match bF .gone h j with
 |.cells 123 [x,.p (.i .i64 a),.p (.i .i64 e)]=>some (x=.p (bY bG 1 B)∧0≤a∧a≤B.length∧B.length≤140737488355328,a,e)
 |_=>none
theorem qO{B:List UInt8}{j:Nat}{h:List AO}{q:Prop}{a e:Int}(he:GD B j h=some (q,a,e))(hq:q):bF .gone h j=lI B ⟨a.toNat,e⟩∧(⟨a.toNat,e⟩:Rs).at_≤B.length∧B.length≤140737488355328:=by
 unfold GD at he
 split at he;rotate_left;· cases he
 rename_i x a0 e0 hj;injection he with he;injection he with e1 he;injection he with e2 e3;subst e1;subst e2;subst e3;obtain⟨rfl,h1,h2,h3⟩:=hq;refine⟨?_,by show a0.toNat≤_;omega,h3⟩;rw[hj];unfold lI;rw[Int.toNat_of_nonneg h1]
set_option maxRecDepth 100000 in
theorem aC5(B:List UInt8)(s:Rs)(hs:s.at_≤B.length)(hB:B.length≤140737488355328)(b:Nat)(Q:X→St→Prop):eL aB G (Zm [0] (bI aB Try.f106) fun st=>cQ G st ⟨[.c (.ptr 0 0)]++[u8V (EB B s).1],BX B (EB B s).2 b⟩) (cW aB Try.f106) (jJ Try.f106 [0] [0] [b] [.c (.ptr 0 0)] [lI B s]) Q:=by
 obtain⟨a,e⟩:=s;refine eL.evH aX (tO B a e b) ?_;simp only[bZ,bB,aL,jP,decide_eq_true_eq,decide_eq_false_iff_not,eV]
 have hs:a≤B.length:=hs
 unfold EB;dsimp only;refine⟨fun h=>?_,fun h=>⟨fun h1=>?_,fun h1=>⟨by omega,by omega,⟨by omega,by omega⟩,?_⟩⟩⟩
 ·rw[if_pos (by simpa using h)]
  exact⟨aJ (by kernel_rfl)⟩
 ·rw[if_neg (by simpa using h),if_pos (by omega)]
  exact⟨aJ (by kernel_rfl)⟩
 ·have h0:e=0:=by simpa using h
  subst h0;rw[if_neg (by simp),if_neg (by omega),show ((a:Int)+1-1).toNat=a by omega]
  exact⟨aJ (by kernel_rfl)⟩
def aM8(B:List UInt8)(c:Nat)(s':Rs):jU:=fun args h=>match args with
 |[.c (.ptr j 0)]=>match GD B (nL h j) h with
  |some (q,a,e)=>some (q∧EB B ⟨a.toNat,e⟩=(c,s'),u8V c,iL [nL h j] [nL h j] [1] h (BX B s' 0))
  |none=>none
 |_=>none
set_option maxRecDepth 100000 in
theorem aOP(B:List UInt8)(c:Nat)(s':Rs):fZ aB G 106 (aM8 B c s'):=by
 intro args h p v h' hm hp;unfold aM8 at hm
 split at hm;rotate_left;· cases hm
 split at hm;rotate_left;· cases hm
 rename_i j _ q a e hw;obtain⟨rfl,rfl,rfl⟩:=lQ hm;obtain⟨hq,hr⟩:=hp;obtain⟨k1,k2,k3⟩:=qO hw hq
 have hm:=fun b=>aC5 (G:=G) B _ k2 k3 b
 rw[hr]at hm
 exact pI (AN (args:=[]) (args0:=[]) (vs:=[u8V c]) Try.func106 (by kernel_rfl) k1 rfl fun b=>hm b _)
def OJ(B:List UInt8)(c:Nat)(s':Rs):Ext:=lH [(106,aM8 B c s')]
theorem tZ(B:List UInt8)(c:Nat)(s':Rs):bH aB G (OJ B c s'):=dZ (by simp;exact aOP B c s')
end
theorem aQK(B:List UInt8)(a:Nat)(e:Int)(b:Nat):dC eW (dH 3 (cW aB Try.f87)) (jJ Try.f87 [0] [0] [b] [.c (.ptr 0 0)] [lI B ⟨a,e⟩]) (gG [0] (eZ 44 [0,3,4]) (bI aB Try.f87))=Tr.done X.normal
 (bS 44 [(0,.c (.ptr 0 0)),(3,.c (.p (.i aP 0))),(4,.c (.p (.i .i64 0)))] [.pin 1 b,.cells 123 [.p (.l 1 B.length (aE bG B)),.p (.i .i64 (↑(Rs.mk a e).at_:Int)),.p (.i .i64 (Rs.mk a e).er)]]):=by kernel_rfl
theorem aQJ(B:List UInt8)(c a':Nat)(e':Int)(a:Nat)(e n i:Int)(b:Nat):dC (OJ B c ⟨a',e'⟩) (gR (cW aB Try.f87) 3) (bS 44 [(0,.c (.ptr 0 0)),(3,.c (.p (.i .u64 n))),(4,iV i)] [.pin 1 b,lI B ⟨a,e⟩]) (gG [0] (eZ 44 [0,3,4]) (bI aB Try.f87))=Tr.rq
 ((C.p (PV.l 1 B.length (aE bG B))=C.p (PV.l 1 B.length (aE bG B))∧0≤(↑(Rs.mk a e).at_:Int)∧(↑(Rs.mk a e).at_:Int)≤(↑B.length:Int)∧B.length≤140737488355328) ∧
 EB B (Rs.mk (↑(Rs.mk a e).at_:Int).toNat (Rs.mk a e).er)=(c,Rs.mk a' e'))
 (bT ((Rs.mk a' e').er != 0)
 (.done .ret
 (bS 2 [(0,.c (.ptr 0 0)),(1,.c (.p (.i aP 0)))] [.pin 1 b,.cells 123 [.p (.l 1 B.length (aE bG B)),.p (.i .i64 (↑(Rs.mk a' e').at_:Int)),.p (.i .i64 (Rs.mk a' e').er)]]))
 (bT (i==9)
 (bT (decide (1<(↑c:Int)))
 (.done .ret
 (bS 2 [(0,.c (.ptr 0 0)),(1,.c (.p (.i aP 0)))] [.pin 1 b,.cells 123 [.p (.l 1 B.length (aE bG B)),.p (.i .i64 (↑(Rs.mk a' e').at_:Int)),.p (.i .i64 2)]]))
 (bT (decide (0<i))
 (bT ((↑c:Int)==0)
 (.done .ret
 (bS 2 [(0,.c (.ptr 0 0)),(1,.c (.p (.i aP 0)))] [.pin 1 b,.cells 123 [.p (.l 1 B.length (aE bG B)),.p (.i .i64 (↑(Rs.mk a' e').at_:Int)),.p (.i .i64 2)]]))
 (.rq (0≤aP.wrap (7*aP.wrap i))
 (bT (decide ((↑c:Int)<128))
 (.done .ret
 (bS 2 [(0,.c (.ptr 0 0)),(1,.c (.p (.i aP (aP.wrap (↑(aY aP.bits n ||| aY aP.bits (aP.wrap (aP.wrap (bE.wrap (↑(aY bE.bits (↑c:Int) &&& aY bE.bits 127).toNat:Int))*2^min (aP.wrap (7*aP.wrap i)).toNat aP.bits))).toNat:Int)))))] [.pin 1 b,.cells 123 [.p (.l 1 B.length (aE bG B)),.p (.i .i64 (↑(Rs.mk a' e').at_:Int)),.p (.i .i64 (Rs.mk a' e').er)]]))
 (.rq (eV aC (i+1))
 (.done .normal
 (bS 44 [(0,.c (.ptr 0 0)),(3,.c (.p (.i aP (aP.wrap (↑(aY aP.bits n ||| aY aP.bits (aP.wrap (aP.wrap (bE.wrap (↑(aY bE.bits (↑c:Int) &&& aY bE.bits 127).toNat:Int))*2^min (aP.wrap (7*aP.wrap i)).toNat aP.bits))).toNat:Int))))),(4,.c (.p (.i .i64 (i+1))))] [.pin 1 b,.cells 123 [.p (.l 1 B.length (aE bG B)),.p (.i .i64 (↑(Rs.mk a' e').at_:Int)),.p (.i .i64 (Rs.mk a' e').er)]]))))))
 (.rq (0≤aP.wrap (7*aP.wrap i))
 (bT (decide ((↑c:Int)<128))
 (.done .ret
 (bS 2 [(0,.c (.ptr 0 0)),(1,.c (.p (.i aP (aP.wrap (↑(aY aP.bits n ||| aY aP.bits (aP.wrap (aP.wrap (bE.wrap (↑(aY bE.bits (↑c:Int) &&& aY bE.bits 127).toNat:Int))*2^min (aP.wrap (7*aP.wrap i)).toNat aP.bits))).toNat:Int)))))] [.pin 1 b,.cells 123 [.p (.l 1 B.length (aE bG B)),.p (.i .i64 (↑(Rs.mk a' e').at_:Int)),.p (.i .i64 (Rs.mk a' e').er)]]))
 (.rq (eV aC (i+1))
 (.done .normal
 (bS 44 [(0,.c (.ptr 0 0)),(3,.c (.p (.i aP (aP.wrap (↑(aY aP.bits n ||| aY aP.bits (aP.wrap (aP.wrap (bE.wrap (↑(aY bE.bits (↑c:Int) &&& aY bE.bits 127).toNat:Int))*2^min (aP.wrap (7*aP.wrap i)).toNat aP.bits))).toNat:Int))))),(4,.c (.p (.i .i64 (i+1))))] [.pin 1 b,.cells 123 [.p (.l 1 B.length (aE bG B)),.p (.i .i64 (↑(Rs.mk a' e').at_:Int)),.p (.i .i64 (Rs.mk a' e').er)]])))))))
 (bT (decide (0<i))
 (bT ((↑c:Int)==0)
 (.done .ret
 (bS 2 [(0,.c (.ptr 0 0)),(1,.c (.p (.i aP 0)))] [.pin 1 b,.cells 123 [.p (.l 1 B.length (aE bG B)),.p (.i .i64 (↑(Rs.mk a' e').at_:Int)),.p (.i .i64 2)]]))
 (.rq (0≤aP.wrap (7*aP.wrap i))
 (bT (decide ((↑c:Int)<128))
 (.done .ret
 (bS 2 [(0,.c (.ptr 0 0)),(1,.c (.p (.i aP (aP.wrap (↑(aY aP.bits n ||| aY aP.bits (aP.wrap (aP.wrap (bE.wrap (↑(aY bE.bits (↑c:Int) &&& aY bE.bits 127).toNat:Int))*2^min (aP.wrap (7*aP.wrap i)).toNat aP.bits))).toNat:Int)))))] [.pin 1 b,.cells 123 [.p (.l 1 B.length (aE bG B)),.p (.i .i64 (↑(Rs.mk a' e').at_:Int)),.p (.i .i64 (Rs.mk a' e').er)]]))
 (.rq (eV aC (i+1))
 (.done .normal
 (bS 44 [(0,.c (.ptr 0 0)),(3,.c (.p (.i aP (aP.wrap (↑(aY aP.bits n ||| aY aP.bits (aP.wrap (aP.wrap (bE.wrap (↑(aY bE.bits (↑c:Int) &&& aY bE.bits 127).toNat:Int))*2^min (aP.wrap (7*aP.wrap i)).toNat aP.bits))).toNat:Int))))),(4,.c (.p (.i .i64 (i+1))))] [.pin 1 b,.cells 123 [.p (.l 1 B.length (aE bG B)),.p (.i .i64 (↑(Rs.mk a' e').at_:Int)),.p (.i .i64 (Rs.mk a' e').er)]]))))))
 (.rq (0≤aP.wrap (7*aP.wrap i))
 (bT (decide ((↑c:Int)<128))
 (.done .ret
 (bS 2 [(0,.c (.ptr 0 0)),(1,.c (.p (.i aP (aP.wrap (↑(aY aP.bits n ||| aY aP.bits (aP.wrap (aP.wrap (bE.wrap (↑(aY bE.bits (↑c:Int) &&& aY bE.bits 127).toNat:Int))*2^min (aP.wrap (7*aP.wrap i)).toNat aP.bits))).toNat:Int)))))] [.pin 1 b,.cells 123 [.p (.l 1 B.length (aE bG B)),.p (.i .i64 (↑(Rs.mk a' e').at_:Int)),.p (.i .i64 (Rs.mk a' e').er)]]))
 (.rq (eV aC (i+1))
 (.done .normal
 (bS 44 [(0,.c (.ptr 0 0)),(3,.c (.p (.i aP (aP.wrap (↑(aY aP.bits n ||| aY aP.bits (aP.wrap (aP.wrap (bE.wrap (↑(aY bE.bits (↑c:Int) &&& aY bE.bits 127).toNat:Int))*2^min (aP.wrap (7*aP.wrap i)).toNat aP.bits))).toNat:Int))))),(4,.c (.p (.i .i64 (i+1))))] [.pin 1 b,.cells 123 [.p (.l 1 B.length (aE bG B)),.p (.i .i64 (↑(Rs.mk a' e').at_:Int)),.p (.i .i64 (Rs.mk a' e').er)]])))))))):=by kernel_rfl
section
variable {G:Nat→Option Obj}
set_option maxRecDepth 100000 in
theorem QW(B:List UInt8)(s0:Rs)(hs:s0.at_≤B.length)(hB:B.length≤140737488355328)(b:Nat)(Q:X→St→Prop):eL aB G (Zm [0] (bI aB Try.f87) fun st=>cQ G st ⟨[.c (.ptr 0 0)]++[uN (jR B s0).1],BX B (jR B s0).2 b⟩) (cW aB Try.f87) (jJ Try.f87 [0] [0] [b] [.c (.ptr 0 0)] [lI B s0]) Q:=by
 obtain⟨T,hT⟩:∃T,jR B s0=T:=⟨_,rfl⟩
 rw[hT]
 have hI0:(s0.er≠0∧T=(0,s0))∨(s0.er=0∧T=mS B 10 0 s0.at_ 0):=by
  subst hT;unfold jR
  by_cases h:s0.er≠0
  ·rw[if_pos h];exact .inl ⟨h,rfl⟩
  ·rw[if_neg h];exact .inr ⟨Decidable.not_not.1 h,rfl⟩
 clear hT;obtain⟨a0,e0⟩:=s0;refine eL.evG aX 3 (aQK B a0 e0 b) ?_;simp only[aL,cF];refine⟨?_⟩
 refine eL.loop' (l:=bJ 3 (cW aB Try.f87)) (id:=0) (b:=inr (inr (bF .skip (cW aB Try.f87) 3))) (r:=bJ 4 (cW aB Try.f87)) (by kernel_rfl) (σ:=Nat×Nat×Int×Nat)
   (fun s=>(fun a e n i=>bS 44 [(0,.c (.ptr 0 0)),(3,.c (.p (.i .u64 n))),(4,iV i)] [.pin 1 b,lI B ⟨a,e⟩]) s.2.1 s.2.2.1 ((s.2.2.2:Nat):Int) ((s.1:Nat):Int)) (fun s=>s.2.1≤B.length∧((s.2.2.1≠0∧T=(0,⟨s.2.1,s.2.2.1⟩))∨(s.2.2.1=0∧s.1≤9∧s.2.2.2<128^s.1∧T=mS B (10-s.1) s.1 s.2.1 s.2.2.2))) (fun s=>10-s.1) (0,a0,e0,0) ⟨hs,?_⟩ (aJ (by kernel_rfl)) ?_
 ·rcases hI0 with⟨h1,h2⟩|⟨h1,h2⟩
  ·exact .inl ⟨h1,h2⟩
  ·exact .inr ⟨h1,bW _,Nat.zero_lt_one,h2⟩
 clear hI0 hs;rintro⟨i,a,e,n⟩ ⟨ha,hI⟩ Q1 q1n q1e _;dsimp only at ha hI q1n ⊢
 obtain⟨c,a',e',hoc⟩:∃c a' e',EB B ⟨a,e⟩=(c,⟨a',e'⟩):=⟨_,_,_,rfl⟩
 refine eL.evH (tZ B c ⟨a',e'⟩) (aQJ B c a' e' a e n i b) ?_;simp only[bZ,bB,aL,cF,jP,decide_eq_true_eq,decide_eq_false_iff_not,dP,beq_iff_eq,beq_eq_false_iff_ne,ne_eq,bne_iff_ne,bne_eq_false_iff_eq];refine⟨⟨⟨trivial,by omega,by omega,hB⟩,hoc⟩,?_⟩
 have ret:∀(v:Nat) (a2:Nat) (e2:Int),T=(v,⟨a2,e2⟩)→cQ G (bS 2 [(0,.c (.ptr 0 0)),(1,.c (.p (.i .u64 (v:Int))))] [.pin 1 b,lI B ⟨a2,e2⟩]) ⟨[.c (.ptr 0 0)]++[uN T.1],BX B T.2 b⟩:=fun v a2 e2 h=>by
  rw[h];exact aJ rfl
 rcases hI with⟨h1,h2⟩|⟨h1,hi,hn,h2⟩
 ·unfold EB at hoc
  rw[if_pos (by simpa using h1)]at hoc;injection hoc with q1 q2;injection q2 with q2 q3;subst q1;subst q2;subst q3;exact⟨fun _=>⟨ret 0 a e h2⟩,fun h=>absurd h h1⟩
 subst h1;unfold EB at hoc;rw[if_neg (by simp)]at hoc;dsimp only at hoc
 obtain⟨f,hf⟩:∃f,10-i=f+1:=⟨9-i,by omega⟩
 rw[hf]at h2;unfold mS at h2
 by_cases hl:B.length≤a
 ·rw[if_pos hl]at hoc h2
  injection hoc with q1 q2;injection q2 with q2 q3;subst q1;subst q2;subst q3;exact⟨fun _=>⟨ret 0 a 3 h2⟩,fun h=>absurd h (by decide)⟩
 rw[if_neg hl]at hoc h2;injection hoc with q1 q2;injection q2 with q2 q3
 have hc:=PP B a
 rw[q1]at hc h2;subst q2;subst q3;refine⟨fun h=>absurd rfl h,fun _=>?_⟩
 by_cases he:(i=9∧1<c)∨(0<i∧c=0)
 ·rw[if_pos he]at h2
  have bad:∀p:Prop,(i=9→¬1<c)→(0<i→¬c=0)→p:=fun p k1 k2=>(he.elim (fun h=>absurd h.2 (k1 h.1)) (fun h=>absurd h.2 (k2 h.1)))
  refine⟨fun k1=>⟨fun _=>⟨ret 0 (a+1) 2 h2⟩,fun k2=>⟨fun k3=>⟨fun _=>⟨ret 0 (a+1) 2 h2⟩,fun k4=>bad _ (fun _=>by omega) (fun _=>by omega)⟩,fun k3=>bad _ (fun _=>by omega) (fun _=>by omega)⟩⟩,fun k1=>⟨fun k3=>⟨fun _=>⟨ret 0 (a+1) 2 h2⟩,fun k4=>bad _ (fun _=>by omega) (fun _=>by omega)⟩,fun k3=>bad _ (fun _=>by omega) (fun _=>by omega)⟩⟩
 rw[if_neg he]at h2
 have h9:i=9→c≤1:=fun h=>by
  have:¬1<c:=fun h'=>he (.inl ⟨h,h'⟩)
  omega
 have hacc:=aEK hi hn hc h9
 rw[hacc]
 have hw:0≤aP.wrap (7*aP.wrap (i:Int)):=by rw[UG];omega
 have last:0≤aP.wrap (7*aP.wrap (i:Int))∧((c:Int)<128→aN6 (cQ G (bS 2 [(0,.c (.ptr 0 0)),(1,.c (.p (.i .u64 ((n+c%128*128^i:Nat):Int))))] [.pin 1 b,lI B ⟨a+1,0⟩]) ⟨[.c (.ptr 0 0)]++[uN T.1],BX B T.2 b⟩))∧(¬(c:Int)<128→eV .i64 ((i:Int)+1)∧aN6 (Q1 .normal (bS 44 [(0,.c (.ptr 0 0)),(3,.c (.p (.i .u64 ((n+c%128*128^i:Nat):Int)))),(4,.c (.p (.i .i64 ((i:Int)+1))))] [.pin 1 b,lI B ⟨a+1,0⟩]))):=by
  refine⟨hw,fun k=>?_,fun k=>⟨by simp only[eV];omega,⟨q1n (i+1,a+1,0,n+c%128*128^i) _ ?_ ?_ (aJ (by kernel_rfl))⟩⟩⟩
  ·rw[if_pos (by omega)]at h2
   exact⟨ret _ _ _ h2⟩
  ·rw[if_neg (by omega)]at h2
   have hi8:i≤8:=by
    rcases Nat.lt_or_ge 8 i with h|h
    ·have:=h9 (by omega);omega
    ·exact h
   refine⟨by show a+1≤_;omega,.inr ⟨rfl,by show i+1≤9;omega,?_,?_⟩⟩
   ·show n+c%128*128^i<128^(i+1)
    have h3:=bK (128^i) (show c%128≤127 by omega)
    rw[Nat.pow_succ];omega
   ·show T=mS B (10-(i+1)) (i+1) (a+1) _
    rw[show 10-(i+1)=f by omega];exact h2
  ·show 10-(i+1)<10-i;omega
 have bad9:∀p:Prop,(i:Int)=9→1<(c:Int)→p:=fun p k1 k2=>absurd (.inl ⟨by omega,by omega⟩) he
 have bad0:∀p:Prop,0<(i:Int)→(c:Int)=0→p:=fun p k1 k2=>absurd (.inr ⟨by omega,by omega⟩) he
 exact⟨fun k1=>⟨fun k2=>bad9 _ k1 k2,fun k2=>⟨fun k3=>⟨fun k4=>bad0 _ k3 k4,fun _=>last⟩,fun _=>last⟩⟩,fun k1=>⟨fun k3=>⟨fun k4=>bad0 _ k3 k4,fun _=>last⟩,fun _=>last⟩⟩
end
def SD(B:List UInt8)(c:Nat)(s':Rs):jU:=fun args h=>match args with
 |[.c (.ptr j 0)]=>match GD B (nL h j) h with
  |some (q,a,e)=>some (q∧jR B ⟨a.toNat,e⟩=(c,s'),uN c,iL [nL h j] [nL h j] [1] h (BX B s' 0))
  |none=>none
 |_=>none
def VG(B:List UInt8)(F:Rs→Int×Rs):jU:=fun args h=>match args with
 |[.c (.ptr j 0)]=>match GD B (nL h j) h with
  |some (q,a,e)=>some (q∧F=fO B,iV (F ⟨a.toNat,e⟩).1,iL [nL h j] [nL h j] [1] h (BX B (F ⟨a.toNat,e⟩).2 0))
  |none=>none
 |_=>none
def GG(B:List UInt8)(s:Rs):Int:=if s.er≠0 then s.er else if s.at_<B.length then 2 else 0
def aCJ(B:List UInt8)(r:Int):jU:=fun args h=>match args with
 |[.c (.ptr j 0)]=>match GD B (nL h j) h with
  |some (q,a,e)=>some (q∧GG B ⟨a.toNat,e⟩=r,iV r,iL [nL h j] [nL h j] [1] h (BX B ⟨a.toNat,e⟩ 0))
  |none=>none
 |_=>none
def aMB(L:List UInt8):Mod
 |[x]=>match leU x L with
  |some p=>some (p∧L.length≤140737488355328,aU bG 1 L)
  |none=>none
 |_=>none
def SF(L:List UInt8):jU
 |[x],h=>match leU x L with
  |some p=>some (p∧L.length≤140737488355328,.c (.ptr (fF h) 0),iL [] [] [] h [lI L ⟨0,0⟩])
  |none=>none
 |_,_=>none
def aDN(B:List UInt8)(c:Nat)(s':Rs):Ext:=lH [(87,SD B c s')]
def aK8(L:List UInt8):Ext:=jV [(71,aMB L)]
theorem tQI(B:List UInt8)(c a':Nat)(e':Int)(a:Nat)(e:Int)(b:Nat):dC (aDN B c ⟨a',e'⟩) (cW aB Try.f67) (jJ Try.f67 [0] [0] [b] [.c (.ptr 0 0)] [lI B ⟨a,e⟩]) (gG [0] [] (bI aB Try.f67))=Tr.rq
 ((bP [0] (C.p (PV.l 1 B.length (aE bG B)))=C.p (PV.l 1 B.length (aE bG B))∧0≤(↑(Rs.mk a e).at_:Int)∧(↑(Rs.mk a e).at_:Int)≤(↑B.length:Int)∧B.length≤140737488355328) ∧
 jR B (Rs.mk (↑(Rs.mk a e).at_:Int).toNat (Rs.mk a e).er)=(c,Rs.mk a' e'))
 (.rq (dI 0≤dI 1)
 (.rq (eV aC (-aC.wrap (aP.wrap (↑(aY 64 (↑c:Int) &&& aY 64 1).toNat:Int))))
 (.done .ret
 (bS 2 [(0,.c (.ptr 0 0)),(1,.c (.p (.i .i64 (aC.wrap (↑(aY aC.bits (aC.wrap ((↑c:Int).fdiv (2^min (Int.toNat 1) aP.bits))) ^^^ aY aC.bits (-aC.wrap (aP.wrap (↑(aY aP.bits (↑c:Int) &&& aY aP.bits 1).toNat:Int)))).toNat:Int)))))] [.pin 1 b,.cells 123 [.p (.l 1 B.length (aE bG B)),.p (.i .i64 (↑(Rs.mk a' e').at_:Int)),.p (.i .i64 (Rs.mk a' e').er)]])))):=by kernel_rfl
theorem tQE(B:List UInt8)(a:Nat)(e:Int)(b:Nat):dC eW (cW aB Try.f70) (jJ Try.f70 [0] [0] [b] [.c (.ptr 0 0)] [lI B ⟨a,e⟩]) (gG [0] [] (bI aB Try.f70))=bT ((Rs.mk a e).er != 0)
 (.done .ret
 (bS 2 [(0,.c (.ptr 0 0)),(1,.c (.p (.i .i64 (Rs.mk a e).er)))] [.pin 1 b,.cells 123 [.p (.l 1 B.length (aE bG B)),.p (.i .i64 (↑(Rs.mk a e).at_:Int)),.p (.i .i64 (Rs.mk a e).er)]]))
 (bT (decide ((↑(Rs.mk a e).at_:Int)<(↑B.length:Int)))
 (.done .ret
 (bS 2 [(0,.c (.ptr 0 0)),(1,.c (.p (.i .i64 2)))] [.pin 1 b,.cells 123 [.p (.l 1 B.length (aE bG B)),.p (.i .i64 (↑(Rs.mk a e).at_:Int)),.p (.i .i64 (Rs.mk a e).er)]]))
 (.done .ret
 (bS 2 [(0,.c (.ptr 0 0)),(1,.c (.p (.i .i64 0)))] [.pin 1 b,.cells 123 [.p (.l 1 B.length (aE bG B)),.p (.i .i64 (↑(Rs.mk a e).at_:Int)),.p (.i .i64 (Rs.mk a e).er)]]))):=by kernel_rfl
theorem aRW(L:List UInt8):FH eW (kM aB Try.f71) (nH Try.f71 [aU bG 1 L]) (lL [] [] (bI aB Try.f71))=bT (decide (0<L.length))
 (Tr.rq (0=0)
 (Tr.rq ((0+L.length)*1≤140737488355328∧0+L.length≤140737488355328∧∀(e o:Nat),e<L.length→o<1→iH (C.p (aE bG L e o))=true)
 (Tr.rq
 (0+(0+L.length)≤0+L.length ∧
 ∀(e o:Nat),e<0+L.length→o<1→BA (fC 0 (fun e o=>bF C.top [] (e*1+o)) (fun e o=>C.p (PV.i bE (↑(L.getD e default).toNat:Int))) (e+0) o)=true)
 (Tr.done X.ret
 (St.mk [V.c (C.p (PV.l 1 (0+L.length) fun e o=>mI (fC 0 (fun e o=>bF C.top [] (e*1+o)) (fun e o=>C.p (PV.i bE (↑(L.getD e default).toNat:Int))) (e+0) o)))] [])))))
 ((Tr.done X.ret (St.mk [V.c (C.p (PV.z (bA none 0 0)))] [])).alt
 (Tr.rq (0=0)
 (Tr.rq ((0+L.length)*1≤140737488355328∧0+L.length≤140737488355328∧∀(e o:Nat),e<L.length→o<1→iH (C.p (aE bG L e o))=true)
 (Tr.rq
 (0+(0+L.length)≤0+L.length ∧
 ∀(e o:Nat),e<0+L.length→o<1→BA (fC 0 (fun e o=>bF C.top [] (e*1+o)) (fun e o=>C.p (PV.i bE (↑(L.getD e default).toNat:Int))) (e+0) o)=true)
 (Tr.done X.ret
 (St.mk [V.c (C.p (PV.l 1 (0+L.length) fun e o=>mI (fC 0 (fun e o=>bF C.top [] (e*1+o)) (fun e o=>C.p (PV.i bE (↑(L.getD e default).toNat:Int))) (e+0) o)))] [])))))):=by kernel_rfl
theorem tQR(h:List AO)(L:List UInt8):dC (aK8 L) (cW aB Try.f66) (jJ Try.f66 [] [] [] [aU bG 1 L] h) (gG [] [] (bI aB Try.f66))=Tr.rq ((L.length=L.length∧∀(e o:Nat),e<L.length→o<1→aE bG L e o=aE bG L e o)∧L.length≤140737488355328)
 (.done .ret (St.mk [V.c (C.ptr 0 0)] [AO.cells 123 [C.p (PV.l 1 L.length (aE bG L)),C.p (PV.i aC 0),C.p (PV.i aC 0)]])):=by kernel_rfl
section
variable {G:Nat→Option Obj}
set_option maxRecDepth 100000 in
theorem aGN(B:List UInt8)(c:Nat)(s':Rs):fZ aB G 87 (SD B c s'):=by
 intro args h p v h' hm hp;unfold SD at hm
 split at hm;rotate_left;· cases hm
 split at hm;rotate_left;· cases hm
 rename_i j _ q a e hw;obtain⟨rfl,rfl,rfl⟩:=lQ hm;obtain⟨hq,hr⟩:=hp;obtain⟨k1,k2,k3⟩:=qO hw hq
 have hm:=fun b=>QW (G:=G) B _ k2 k3 b
 rw[hr]at hm
 exact pI (AN (args:=[]) (args0:=[]) (vs:=[uN c]) Try.func87 (by kernel_rfl) k1 rfl fun b=>hm b _)
theorem BE(B:List UInt8)(c:Nat)(s':Rs):bH aB G (aDN B c s'):=dZ (by simp;exact aGN B c s')
set_option maxRecDepth 100000 in
theorem XO(B:List UInt8)(s:Rs)(hs:s.at_≤B.length)(hB:B.length≤140737488355328)(b:Nat)(Q:X→St→Prop):eL aB G (Zm [0] (bI aB Try.f67) fun st=>cQ G st ⟨[.c (.ptr 0 0)]++[iV (fO B s).1],BX B (fO B s).2 b⟩) (cW aB Try.f67) (jJ Try.f67 [0] [0] [b] [.c (.ptr 0 0)] [lI B s]) Q:=by
 obtain⟨a,e⟩:=s
 have hs:a≤B.length:=hs
 obtain⟨c,a',e',hu⟩:∃c a' e',jR B ⟨a,e⟩=(c,⟨a',e'⟩):=⟨_,_,_,rfl⟩
 have hc:=CQ B ⟨a,e⟩
 rw[hu]at hc
 have hc:c<18446744073709551616:=hc
 obtain⟨z1,z2⟩:=aA4 hc;refine eL.evH (BE B c ⟨a',e'⟩) (tQI B c a' e' a e b) ?_;simp only[bZ,bB,aL,jP,dP];refine⟨⟨⟨rfl,by omega,by omega,hB⟩,hu⟩,by decide,z2,⟨?_⟩⟩;rw[z1];unfold fO;rw[hu];exact aJ rfl
set_option maxRecDepth 100000 in
theorem aBQ(B:List UInt8)(F:Rs→Int×Rs):fZ aB G 67 (VG B F):=by
 intro args h p v h' hm hp;unfold VG at hm
 split at hm;rotate_left;· cases hm
 split at hm;rotate_left;· cases hm
 rename_i j _ q a e hw;obtain⟨rfl,rfl,rfl⟩:=lQ hm;obtain⟨hq,rfl⟩:=hp;obtain⟨k1,k2,k3⟩:=qO hw hq
 exact pI (AN (args:=[]) (args0:=[]) (vs:=[iV (fO B ⟨a.toNat,e⟩).1]) Try.func67 (by kernel_rfl) k1 rfl fun b=>XO B _ k2 k3 b _)
set_option maxRecDepth 100000 in
theorem XP(B:List UInt8)(s:Rs)(b:Nat)(Q:X→St→Prop):eL aB G (Zm [0] (bI aB Try.f70) fun st=>cQ G st ⟨[.c (.ptr 0 0)]++[iV (GG B s)],BX B s b⟩) (cW aB Try.f70) (jJ Try.f70 [0] [0] [b] [.c (.ptr 0 0)] [lI B s]) Q:=by
 obtain⟨a,e⟩:=s;refine eL.evH aX (tQE B a e b) ?_;simp only[bZ,bB,aL,jP,decide_eq_true_eq,decide_eq_false_iff_not,bne_iff_ne,bne_eq_false_iff_eq,ne_eq];unfold GG;refine⟨fun h=>?_,fun h=>⟨fun h1=>?_,fun h1=>?_⟩⟩
 ·rw[if_pos h];exact⟨aJ (by kernel_rfl)⟩
 ·rw[if_neg (by simpa using h),if_pos (show a<B.length by omega)];exact⟨aJ (by kernel_rfl)⟩
 ·rw[if_neg (by simpa using h),if_neg (show ¬a<B.length by omega)];exact⟨aJ (by kernel_rfl)⟩
set_option maxRecDepth 100000 in
theorem aLU(B:List UInt8)(r:Int):fZ aB G 70 (aCJ B r):=by
 intro args h p v h' hm hp;unfold aCJ at hm
 split at hm;rotate_left;· cases hm
 split at hm;rotate_left;· cases hm
 rename_i j _ q a e hw;obtain⟨rfl,rfl,rfl⟩:=lQ hm;obtain⟨hq,rfl⟩:=hp;obtain⟨k1,k2,k3⟩:=qO hw hq
 exact pI (AN (args:=[]) (args0:=[]) (vs:=[iV (GG B ⟨a.toNat,e⟩)]) Try.func70 (by kernel_rfl) k1 rfl fun b=>XP B _ b _)
theorem aOT(L:List UInt8):iO aB G 71 (aMB L):=by
 intro args p v hm hp h;unfold aMB at hm
 split at hm;rotate_left;· cases hm
 split at hm;rotate_left;· cases hm
 rename_i x _ q hx;injection hm with hm;injection hm with e1 e2;subst e1;subst e2;refine jN.args (args':=[aU bG 1 L]) ?_ (.cons (zN hx hp.1) .nil);obtain⟨_,hL⟩:=hp
 refine GF aX Try.func71 (by kernel_rfl) rfl (aRW L) ?_ h
 simp only[pG,bZ,bB,iD,KF];clear hx
 have key:iF (V.c (C.p (PV.l 1 (0+L.length) fun e o=>mI (fC 0 (fun e o=>bF C.top [] (e*1+o)) (fun e o=>C.p (PV.i bE (↑(L.getD e default).toNat:Int))) (e+0) o)))) (aU bG 1 L):=by
  rw[dB];exact iF.refl _
 have big:(0+L.length)*1≤140737488355328∧0+L.length≤140737488355328∧∀(e o:Nat),e<L.length→o<1→iH (C.p (aE bG L e o))=true:=⟨by omega,by omega,fun e o _ _=>rfl⟩
 refine⟨fun _=>⟨trivial,big,⟨by omega,fun _ _ _ _=>rfl⟩,_,rfl,key⟩,fun h0=>⟨⟨_,rfl,?_⟩,trivial,big,⟨by omega,fun _ _ _ _=>rfl⟩,_,rfl,key⟩⟩
 have h0:L.length=0:=by have:=of_decide_eq_false h0;omega
 obtain rfl:=gD h0;exact iF.p (lE.nil 1 _)
theorem PG(L:List UInt8):bH aB G (aK8 L):=dY (by simp;exact aOT L)
set_option maxRecDepth 100000 in
theorem aGP(L:List UInt8):fZ aB G 66 (SF L):=by
 intro args h p v h' hm hp;unfold SF at hm
 split at hm;rotate_left;· cases hm
 split at hm;rotate_left;· cases hm
 rename_i x _ q hx;obtain⟨rfl,rfl,rfl⟩:=lQ hm;obtain⟨hq,hL⟩:=hp
 refine jN.args (args':=[aU bG 1 L]) (CM (vs:=[.c (.ptr 0 0)]) (hE:=[lI L ⟨0,0⟩]) Try.func66 (by kernel_rfl) (by rw[eH];rfl) ?_) (.cons (zN hx hq) .nil)
 refine eL.evH (PG L) (tQR h L) ?_;simp only[bB,aL,jP]
 exact⟨⟨⟨trivial,fun _ _ _ _=>trivial⟩,hL⟩,⟨aJ (by kernel_rfl)⟩⟩
end
noncomputable def HG:Array Oper:=JP (bF .skip (eX (inr (bF .skip (gR (cW aB gX) 8) 2))) 0)
noncomputable def aPO:List AI:=(eE aB HG (HG.toList.take 2)).getD []
noncomputable def aPM:List AI:=(eE aB HG (HG.toList.drop 3)).getD []
theorem aQS(B:List UInt8)(c a':Nat)(e':Int)(a:Nat)(e:Int)(b:Nat):dC (aDN B c ⟨a',e'⟩) (dH 6 (cW aB gX)) (jJ gX [0] [0] [b] [.c (.ptr 0 0),.c (.fn (.func 106) [.ptr 0 0] [])] [lI B ⟨a,e⟩]) (gG [0] (eZ 49 [0,1,5]) (bI aB gX))=Tr.rq
 ((bP [0] (C.p (PV.l 1 B.length (aE bG B)))=C.p (PV.l 1 B.length (aE bG B))∧0≤(↑(Rs.mk a e).at_:Int)∧(↑(Rs.mk a e).at_:Int)≤(↑B.length:Int)∧B.length≤140737488355328) ∧
 jR B (Rs.mk (↑(Rs.mk a e).at_:Int).toNat (Rs.mk a e).er)=(c,Rs.mk a' e'))
 (bT ((Rs.mk a' e').er != 0)
 (.done .ret
 (bS 2 [(0,.c (.ptr 0 0)),(1,.c (.p (.z (bA none 0 0))))] [.pin 1 b,.cells 123 [.p (.l 1 B.length (aE bG B)),.p (.i .i64 (↑(Rs.mk a' e').at_:Int)),.p (.i .i64 (Rs.mk a' e').er)]]))
 (.rq (eV aC ((↑B.length:Int)-(↑(Rs.mk a' e').at_:Int)))
 (bT (decide (aP.wrap ((↑B.length:Int)-(↑(Rs.mk a' e').at_:Int))<(↑c:Int)))
 (.done .ret
 (bS 2 [(0,.c (.ptr 0 0)),(1,.c (.p (.z (bA none 0 0))))] [.pin 1 b,.cells 123 [.p (.l 1 B.length (aE bG B)),.p (.i .i64 (↑(Rs.mk a' e').at_:Int)),.p (.i .i64 3)]]))
 (.done .normal
 (bS 49 [(0,.c (.ptr 0 0)),(1,.c (.fn (Fn.func 106) [AE.B.ptr 1 0] [])),(5,.c (.p (.i aP (↑c:Int))))] [.pin 1 b,.cells 123 [.p (.l 1 B.length (aE bG B)),.p (.i .i64 (↑(Rs.mk a' e').at_:Int)),.p (.i .i64 (Rs.mk a' e').er)]]))))):=by kernel_rfl
theorem aQR(B:List UInt8)(c a b:Nat):dC eW (dH 2 (bJ 6 (cW aB gX))) (bS 49 [(0,.c (.ptr 0 0)),(1,.c (.fn (.func 106) [.ptr 1 0] [])),(5,uN c)] [.pin 1 b,lI B ⟨a,0⟩]) (gG [0] (eZ 49 [0,1,6,34,35]) (bI aB gX))=Tr.rq (dI 0≤dI 0∧0≤aC.wrap (↑c:Int)∧aC.wrap (↑c:Int)*(↑1:Int)≤140737488355328∧aC.wrap (↑c:Int)≤140737488355328)
 (.done .normal
 (bS 49 [(0,.c (.ptr 0 0)),(1,.c (.fn (Fn.func 106) [AE.B.ptr 2 0] [])),(6,.c (.sl 1 1 0 0)),(34,.c (.p (.i .i64 (aC.wrap (↑c:Int))))),(35,.c (.p (.i .i64 0)))] [.pin 2 b,.row 5 1 0 fun e o=>bP [0,2,1] (C.p (bF (PV.b false) [PV.i bE 0] o)),.cells 123 [.p (.l 1 B.length (aE bG B)),.p (.i .i64 (↑(Rs.mk a 0).at_:Int)),.p (.i .i64 (Rs.mk a 0).er)]])):=by kernel_rfl
theorem aQQ(B L:List UInt8)(k:Nat)(n:Int)(a b:Nat):dC eW (dH 2 (gR (cW aB gX) 8)) (bS 49 [(0,.c (.ptr 0 0)),(1,.c (.fn (.func 106) [.ptr 2 0] [])),(6,.c (.sl 1 1 0 k)),(34,iV n),(35,iV k)] [.pin 2 b,.row 5 1 k (aQ bG L),lI B ⟨a,0⟩]) (gG [0] (eZ 49 [0,1,6,34,35]) (bI aB gX))=bT (decide ((↑k:Int)<n))
 (.done .normal
 (bS 49 [(0,.c (.ptr 0 0)),(1,.c (.fn (Fn.func 106) [AE.B.ptr 2 0] [])),(6,.c (.sl 1 1 0 k)),(34,.c (.p (.i .i64 n))),(35,.c (.p (.i .i64 (↑k:Int))))] [.pin 2 b,.row 5 1 k fun e o=>bP [0,1,2] (aQ bG L e o),.cells 123 [.p (.l 1 B.length (aE bG B)),.p (.i .i64 (↑(Rs.mk a 0).at_:Int)),.p (.i .i64 (Rs.mk a 0).er)]]))
 (.done (.exit 0)
 (bS 49 [(0,.c (.ptr 0 0)),(1,.c (.fn (Fn.func 106) [AE.B.ptr 2 0] [])),(6,.c (.sl 1 1 0 k)),(34,.c (.p (.i .i64 n))),(35,.c (.p (.i .i64 (↑k:Int))))] [.pin 2 b,.row 5 1 k fun e o=>bP [0,1,2] (aQ bG L e o),.cells 123 [.p (.l 1 B.length (aE bG B)),.p (.i .i64 (↑(Rs.mk a 0).at_:Int)),.p (.i .i64 (Rs.mk a 0).er)]])):=by kernel_rfl
theorem aQP(B L:List UInt8)(k:Nat)(n:Int)(c a' a b:Nat):iX (OJ B c ⟨a',0⟩) aPO (bS 49 [(0,.c (.ptr 0 0)),(1,.c (.fn (.func 106) [.ptr 2 0] [])),(6,.c (.sl 1 1 0 k)),(34,iV n),(35,iV k)] [.pin 2 b,.row 5 1 k (aQ bG L),lI B ⟨a,0⟩]) (fun st=>aAJ aB (OJ B c ⟨a',0⟩) (.t 38) st fun v h=>iX (OJ B c ⟨a',0⟩) aPM ⟨lU st.t (some 39) v,h⟩ fun s'=>.done .normal (QE (eZ 49 [0,1,6,34,35]) s'))=Tr.rq
  ((C.p (PV.l 1 B.length (aE bG B))=C.p (PV.l 1 B.length (aE bG B))∧0≤(↑(Rs.mk a 0).at_:Int)∧(↑(Rs.mk a 0).at_:Int)≤(↑B.length:Int)∧B.length≤140737488355328) ∧
    EB B (Rs.mk (↑(Rs.mk a 0).at_:Int).toNat (Rs.mk a 0).er)=(c,Rs.mk a' 0))
  (Tr.rq (k=k)
   (Tr.rq (1≤1)
    (Tr.rq ((k+1)*1≤140737488355328∧k+1≤140737488355328∧∀(e o:Nat),e<1→o<1→iH (lM [C.p (PV.i bE (↑c:Int))] 1 1 (e+0) o)=true)
     (Tr.done X.normal
      (bS 49 [(0,V.c (C.ptr 0 0)),(1,V.c (C.fn (Fn.func 106) [AE.B.ptr 2 0] [])),(6,V.c (C.sl 1 1 0 (k+1))),(34,V.c (C.p (PV.i aC n))),(35,V.c (C.p (PV.i aC (↑k:Int))))] [AO.pin 2 b,AO.row 5 1 (k+1) fun e o=>bP [0,6,2] (fC k (aQ bG L) (fun e o=>bF C.top [C.p (PV.i bE (↑c:Int))] ((e+0)*1+o)) e o),AO.cells 123 [C.p (PV.l 1 B.length (aE bG B)),C.p (PV.i aC (↑(Rs.mk a' 0).at_:Int)),C.p (PV.i aC (Rs.mk a' 0).er)]]))))):=by kernel_rfl
theorem aQO(B L:List UInt8)(k:Nat)(n:Int)(a b:Nat):dC eW (bJ 1 (eX (inr (bF .skip (gR (cW aB gX) 8) 2)))) (bS 49 [(0,.c (.ptr 0 0)),(1,.c (.fn (.func 106) [.ptr 2 0] [])),(6,.c (.sl 1 1 0 (k+1))),(34,iV n),(35,iV k)] [.pin 2 b,.row 5 1 (k+1) (aQ bG L),lI B ⟨a,0⟩]) (gG [0] (eZ 49 [0,1,6,34,35]) (bI aB gX))=Tr.done X.normal
 (bS 49 [(0,.c (.ptr 0 0)),(1,.c (.fn (Fn.func 106) [AE.B.ptr 2 0] [])),(6,.c (.sl 1 1 0 (k+1))),(34,.c (.p (.i .i64 n))),(35,.c (.p (.i .i64 (↑k:Int))))] [.pin 2 b,.row 5 1 (k+1) fun e o=>bP [0,1,2] (aQ bG L e o),.cells 123 [.p (.l 1 B.length (aE bG B)),.p (.i .i64 (↑(Rs.mk a 0).at_:Int)),.p (.i .i64 (Rs.mk a 0).er)]]):=by kernel_rfl
theorem aQN(B L:List UInt8)(k:Nat)(n:Int)(a b:Nat):dC eW (bJ 3 (gR (cW aB gX) 8)) (bS 49 [(0,.c (.ptr 0 0)),(1,.c (.fn (.func 106) [.ptr 2 0] [])),(6,.c (.sl 1 1 0 (k+1))),(34,iV n),(35,iV k)] [.pin 2 b,.row 5 1 (k+1) (aQ bG L),lI B ⟨a,0⟩]) (gG [0] (eZ 49 [0,1,6,34,35]) (bI aB gX))=Tr.rq (eV aC ((↑k:Int)+1))
 (.done .normal
 (bS 49 [(0,.c (.ptr 0 0)),(1,.c (.fn (Fn.func 106) [AE.B.ptr 2 0] [])),(6,.c (.sl 1 1 0 (k+1))),(34,.c (.p (.i .i64 n))),(35,.c (.p (.i .i64 ((↑k:Int)+1))))] [.pin 2 b,.row 5 1 (k+1) fun e o=>bP [0,1,2] (aQ bG L e o),.cells 123 [.p (.l 1 B.length (aE bG B)),.p (.i .i64 (↑(Rs.mk a 0).at_:Int)),.p (.i .i64 (Rs.mk a 0).er)]])):=by kernel_rfl
theorem aQM(B L:List UInt8)(k:Nat)(n:Int)(a b:Nat):dC eW (dH 1 (bJ 9 (cW aB gX))) (bS 49 [(0,.c (.ptr 0 0)),(1,.c (.fn (.func 106) [.ptr 2 0] [])),(6,.c (.sl 1 1 0 k)),(34,iV n),(35,iV k)] [.pin 2 b,.row 5 1 k (aQ bG L),lI B ⟨a,0⟩]) (gG [0] (eZ 49 [0,4]) (bI aB gX))=Tr.done X.normal
 (bS 49 [(0,.c (.ptr 0 0)),(4,.c (.sl 1 1 0 k))] [.pin 2 b,.row 5 1 k fun e o=>bP [0,1,2] (aQ bG L e o),.cells 123 [.p (.l 1 B.length (aE bG B)),.p (.i .i64 (↑(Rs.mk a 0).at_:Int)),.p (.i .i64 (Rs.mk a 0).er)]]):=by kernel_rfl
theorem aQL(B L:List UInt8)(a b:Nat):dC eW (bJ 10 (cW aB gX)) (bS 49 [(0,.c (.ptr 0 0)),(4,aU bG 1 L)] [.pin 1 b,lI B ⟨a,0⟩]) (gG [0] (eZ 49 [0,4]) (bI aB gX))=Tr.done X.ret
 (bS 2 [(0,.c (.ptr 0 0)),(1,.c (.p (.l 1 L.length (aE bG L))))] [.pin 1 b,.cells 123 [.p (.l 1 B.length (aE bG B)),.p (.i .i64 (↑(Rs.mk a 0).at_:Int)),.p (.i .i64 (Rs.mk a 0).er)]]):=by kernel_rfl
section
variable {G:Nat→Option Obj}
set_option maxRecDepth 100000 in
theorem YK(B:List UInt8)(s:Rs)(hs:s.at_≤B.length)(hB:B.length≤140737488355328)(b:Nat)(Q:X→St→Prop):eL aB G (Zm [0] (bI aB gX) fun st=>cQ G st ⟨[.c (.ptr 0 0)]++[aU bG 1 (nB B s).1],BX B (nB B s).2 b⟩) (cW aB gX) (jJ gX [0] [0] [b] [.c (.ptr 0 0),.c (.fn (.func 106) [.ptr 0 0] [])] [lI B s]) Q:=by
 obtain⟨a,e⟩:=s
 have hs:a≤B.length:=hs
 obtain⟨c,a',e',hu⟩:∃c a' e',jR B ⟨a,e⟩=(c,⟨a',e'⟩):=⟨_,_,_,rfl⟩
 have hc:=CQ B ⟨a,e⟩
 have ha:=CS (B:=B) (s:=⟨a,e⟩) hs
 rw[hu]at hc ha
 have hc:c<18446744073709551616:=hc
 have ha:a'≤B.length:=ha
 obtain⟨T,hT⟩:∃T,nB B ⟨a,e⟩=T:=⟨_,rfl⟩
 rw[hT];unfold nB at hT;rw[hu]at hT;dsimp only at hT;refine eL.evG (BE B c ⟨a',e'⟩) 6 (aQS B c a' e' a e b) ?_;simp only[bZ,bB,aL,jP,cF,dP,bne_iff_ne,bne_eq_false_iff_eq,ne_eq,decide_eq_true_eq,decide_eq_false_iff_not]
 have nilEnd:∀e2:Int,T=([],⟨a',e2⟩)→cQ G (bS 2 [(0,.c (.ptr 0 0)),(1,.c (.p (.z (.slice none 0 0))))] [.pin 1 b,lI B ⟨a',e2⟩]) ⟨[.c (.ptr 0 0)]++[aU bG 1 T.1],BX B T.2 b⟩:=fun e2 h=>by
  rw[h];exact(GI (st:=bS 2 [(0,.c (.ptr 0 0)),(1,.c (.p (.z (.slice none 0 0))))] [.pin 1 b,lI B ⟨a',e2⟩]) (j:=1) (y:=aU bG 1 []) (iF.p (lE.nil 1 _))).trans (aJ rfl)
 refine⟨⟨⟨rfl,by omega,by omega,hB⟩,hu⟩,fun h=>?_,fun h=>⟨by simp only[eV];omega,fun h1=>?_,fun h1=>?_⟩⟩
 ·rw[if_pos h]at hT
  exact⟨nilEnd _ hT.symm⟩
 ·rw[if_neg (by simpa using h),if_pos (by rw[UG]at h1;omega)]at hT
  exact⟨nilEnd _ hT.symm⟩
 have hca:c≤B.length-a':=by rw[UG]at h1;omega
 rw[if_neg (by simpa using h),if_neg (by omega)]at hT;subst h;subst hT;clear nilEnd h1
 have hw:aC.wrap (c:Int)=c:=by rw[aA7,if_neg (by omega)];omega
 refine⟨eL.pre (aJ (st':=bS 49 [(0,.c (.ptr 0 0)),(1,.c (.fn (.func 106) [.ptr 1 0] [])),(5,uN c)] [.pin 1 b,lI B ⟨a',0⟩]) (by kernel_rfl)) ?_⟩
 refine eL.evG aX 2 (aQR B c a' b) ?_;simp only[bB,aL,cF];rw[hw];refine⟨⟨by decide,by omega,by omega,by omega⟩,⟨?_⟩⟩
 refine eL.loop' (l:=bJ 2 (bJ 6 (cW aB gX))) (id:=0) (b:=inr (inr (bF .skip (cW aB gX) 8))) (r:=bJ 9 (cW aB gX)) (by kernel_rfl) (σ:=Nat)
   (fun k=>(fun(k:Nat) (n:Int) (a:Nat) (L:List UInt8)=>bS 49 [(0,.c (.ptr 0 0)),(1,.c (.fn (.func 106) [.ptr 2 0] [])),(6,.c (.sl 1 1 0 k)),(34,iV n),(35,iV k)] [.pin 2 b,.row 5 1 k (aQ bG L),lI B ⟨a,0⟩]) k (c:Int) (a'+k) ((B.drop a').take k)) (fun k=>k≤c) (fun k=>c-k) 0 (bW _) (iG ⟨rfl,⟨rfl,rfl,rfl,fun e o he=>absurd he (Nat.not_lt_zero _)⟩,rfl,trivial⟩) ?_
 intro k hk Q1 q1n q1e _
 have hlen:((B.drop a').take k).length=k:=by rw[cU,List.length_drop];omega
 refine eL.evG aX 2 (aQQ B ((B.drop a').take k) k c (a'+k) b) ?_;simp only[bZ,aL,cF,mC,decide_eq_true_eq,decide_eq_false_iff_not];refine⟨fun h2=>⟨?_⟩,fun h2=>⟨q1e _ ?_⟩⟩
 ·have hlt:a'+k<B.length:=by omega
  have hoc:EB B ⟨a'+k,0⟩=(lS B (a'+k),⟨a'+(k+1),0⟩):=by
   unfold EB;rw[if_neg (by simp),if_neg (show ¬B.length≤a'+k by omega)];rfl
  have hsn:(B.drop a').take (k+1)=(B.drop a').take k++[B.getD (a'+k) 0]:=by
   rw[List.take_add_one,List.getElem?_drop,aD,aM hlt];rfl
  refine eL.blk' (l:=bJ 2 (gR (cW aB gX) 8)) (id:=1) (a:=inr (bF .skip (gR (cW aB gX) 8) 2)) (r:=bJ 3 (gR (cW aB gX) 8)) (by kernel_rfl) ?_
  intro Q2 q2n q2e _
  refine eL.pre (aJ (st':=(fun(k:Nat) (n:Int) (a:Nat) (L:List UInt8)=>bS 49 [(0,.c (.ptr 0 0)),(1,.c (.fn (.func 106) [.ptr 2 0] [])),(6,.c (.sl 1 1 0 k)),(34,iV n),(35,iV k)] [.pin 2 b,.row 5 1 k (aQ bG L),lI B ⟨a,0⟩]) k (c:Int) (a'+k) ((B.drop a').take k)) (by kernel_rfl)) ?_
  refine eL.spec (l:=(eX (inr (bF .skip (gR (cW aB gX) 8) 2)))) (r:=bJ 1 (eX (inr (bF .skip (gR (cW aB gX) 8) 2)))) (id:=10) (ops:=HG) (tZ B (lS B (a'+k)) ⟨a'+(k+1),0⟩) (by kernel_rfl) 2 (o:=HG.toList.getD 2 default) (al1:=aPO) (al2:=aPM) (by kernel_rfl) (by kernel_rfl) (by kernel_rfl) (by kernel_rfl) (op:=.call { callee:=.value (.tmp 38),args := #[],argTypes := #[] }) (by kernel_rfl)
    (aAI (tZ B (lS B (a'+k)) ⟨a'+(k+1),0⟩) (by kernel_rfl)) (eZ 49 [0,1,6,34,35]) (d:=some 39) (by kernel_rfl) (aQP B ((B.drop a').take k) k c (lS B (a'+k)) (a'+(k+1)) (a'+k) b) ?_
  simp only[bB,aL,dP];refine⟨⟨⟨trivial,by omega,by omega,hB⟩,hoc⟩,trivial,aW _,⟨by omega,by omega,fun e o he ho=>?_⟩,⟨?_⟩⟩
  ·obtain rfl:e=0:=by omega
   obtain rfl:o=0:=by omega
   rfl
  refine eL.pre (st2:=(fun(k:Nat) (n:Int) (a:Nat) (L:List UInt8)=>bS 49 [(0,.c (.ptr 0 0)),(1,.c (.fn (.func 106) [.ptr 2 0] [])),(6,.c (.sl 1 1 0 (k+1))),(34,iV n),(35,iV k)] [.pin 2 b,.row 5 1 (k+1) (aQ bG L),lI B ⟨a,0⟩]) k (c:Int) (a'+(k+1)) ((B.drop a').take (k+1))) (iG ⟨rfl,⟨rfl,rfl,rfl,fun e o he ho=>?_⟩,rfl,trivial⟩) ?_
  ·rw[hsn]
   exact oT (ρ:=[0,6,2]) hlen (CE _) he ho
  refine eL.evH aX (aQO B ((B.drop a').take (k+1)) k c (a'+(k+1)) b) ?_;simp only[aL,cF]
  refine⟨q2n _ (eL.pre (aJ (st':=(fun(k:Nat) (n:Int) (a:Nat) (L:List UInt8)=>bS 49 [(0,.c (.ptr 0 0)),(1,.c (.fn (.func 106) [.ptr 2 0] [])),(6,.c (.sl 1 1 0 (k+1))),(34,iV n),(35,iV k)] [.pin 2 b,.row 5 1 (k+1) (aQ bG L),lI B ⟨a,0⟩]) k (c:Int) (a'+(k+1)) ((B.drop a').take (k+1))) (by kernel_rfl)) ?_)⟩
  refine eL.evH aX (aQN B ((B.drop a').take (k+1)) k c (a'+(k+1)) b) ?_;simp only[bB,aL,cF,eV]
  exact⟨by omega,⟨q1n (k+1) _ (by omega) (by omega) (aJ (by kernel_rfl))⟩⟩
 ·obtain rfl:k=c:=by omega
  refine eL.pre (aJ (st':=(fun(k:Nat) (n:Int) (a:Nat) (L:List UInt8)=>bS 49 [(0,.c (.ptr 0 0)),(1,.c (.fn (.func 106) [.ptr 2 0] [])),(6,.c (.sl 1 1 0 k)),(34,iV n),(35,iV k)] [.pin 2 b,.row 5 1 k (aQ bG L),lI B ⟨a,0⟩]) k (k:Int) (a'+k) ((B.drop a').take k)) (by kernel_rfl)) ?_
  refine eL.evG aX 1 (aQM B ((B.drop a').take k) k k (a'+k) b) ?_;simp only[aL,cF]
  refine⟨eL.pre ((kZ (j:=4) (id:=1) (ty:=5) (sz:=1) (n:=k) (off:=0) (len:=k) (f:=aQ bG ((B.drop a').take k)) (by kernel_rfl) (by kernel_rfl) (by omega) (fun _ _ _ _=>rfl)).trans ((fG (eZ 49 [0,4]) _).trans (aJ (st':=bS 49 [(0,.c (.ptr 0 0)),(4,.c (.p (.l 1 k (aE bG ((B.drop a').take k)))))] [.pin 1 b,lI B ⟨a'+k,0⟩]) (by kernel_rfl)))) ?_⟩
  have el:V.c (.p (.l 1 k (aE bG ((B.drop a').take k))))=aU bG 1 ((B.drop a').take k):=by
   unfold aU bY;rw[hlen]
  rw[el];refine eL.evH aX (aQL B ((B.drop a').take k) (a'+k) b) ?_;simp only[aL,jP]
  exact⟨aJ (by kernel_rfl)⟩
theorem aKN{P:Program}{f g:FuncId}{q:Nat}{h:List AO}{K:V→List AO→Prop}(hf:jN P G f [.c (.ptr (nL h q) 0),.c (.fn (.func g) [.ptr (nL h q) 0] [])] h K):jN P G f [.c (.ptr q 0),.c (.fn (.func g) [.ptr q 0] [])] h K:=by
 unfold nL at hf;split at hf
 ·rename_i j b0 hq
  intro β R w vs ha hh;refine hf β R w vs ?_ hh
  have key:∀u:Value,BR β R w (.ptr q 0) u→BR β R w (.ptr j 0) u:=fun u h1=>by
   obtain⟨b,o,e1,e2⟩:=h1
   have hob:=hh.obj q b o e1
   rw[hq]at hob;obtain⟨e3,o2,e4⟩:=hob;subst e3;exact⟨_,o2,e4,e2⟩
  generalize vs.toList=us at ha
  match us,ha with
  |[u1,u2],⟨h1,h2,_⟩=>
   refine⟨key u1 h1,?_,trivial⟩;obtain⟨xs,ys,e1,e2,e3⟩:=h2;refine⟨xs,ys,e1,?_,e3⟩
   generalize xs.toList=zs at e2
   match zs,e2 with
   |[z],⟨k1,_⟩=>exact⟨key z k1,trivial⟩
 ·exact hf
def SH(B:List UInt8)(L:List UInt8)(s':Rs):jU:=fun args h=>match args with
 |[.c (.ptr j 0),.c (.fn (.func g) [.ptr k 0] [])]=>match GD B (nL h j) h with
  |some (q,a,e)=>some (q∧(j=k∧g=106)∧nB B ⟨a.toNat,e⟩=(L,s'),aU bG 1 L,iL [nL h j] [nL h j] [1] h (BX B s' 0))
  |none=>none
 |_=>none
set_option maxRecDepth 100000 in
theorem aGR(B:List UInt8)(L:List UInt8)(s':Rs):fZ aB G 115 (SH B L s'):=by
 intro args h p v h' hm hp;unfold SH at hm
 split at hm;rotate_left;· cases hm
 split at hm;rotate_left;· cases hm
 rename_i j g k _ q a e hw;obtain⟨rfl,rfl,rfl⟩:=lQ hm;obtain⟨hq,⟨rfl,rfl⟩,hr⟩:=hp;obtain⟨k1,k2,k3⟩:=qO hw hq
 have hm:=fun b=>YK (G:=G) B _ k2 k3 b
 rw[hr]at hm
 refine aKN (AN (args:=[.c (.fn (.func 106) [.ptr (nL h j) 0] [])]) (args0:=[.c (.fn (.func 106) [.ptr 0 0] [])]) (vs:=[aU bG 1 L]) Try.func115 (by kernel_rfl) k1 ?_ fun b=>hm b _)
 generalize nL h j=j
 show [BN [j] [j] 1 _]=_
 simp only[BN,inC,bP,AL,XH,jE,GK];rfl
def aJJ(B:List UInt8)(L:List UInt8)(s':Rs):Ext:=lH [(115,SH B L s')]
theorem OD(B:List UInt8)(L:List UInt8)(s':Rs):bH aB G (aJJ B L s'):=dZ (by simp;exact aGR B L s')
end
theorem tQW(B L:List UInt8)(a':Nat)(e':Int)(a:Nat)(e:Int)(b:Nat):dC (aJJ B L ⟨a',e'⟩) (cW aB Try.f107) (jJ Try.f107 [0] [0] [b] [.c (.ptr 0 0)] [lI B ⟨a,e⟩]) (gG [0] [] (bI aB Try.f107))=Tr.rq
 ((bP [0] (C.p (PV.l 1 B.length (aE bG B)))=C.p (PV.l 1 B.length (aE bG B))∧0≤(↑(Rs.mk a e).at_:Int)∧(↑(Rs.mk a e).at_:Int)≤(↑B.length:Int)∧B.length≤140737488355328) ∧
 (1=1∧106=106)∧nB B (Rs.mk (↑(Rs.mk a e).at_:Int).toNat (Rs.mk a e).er)=(L,Rs.mk a' e'))
 (.done .ret
 (bS 2 [(0,.c (.ptr 0 0)),(1,.c (.p (.l 1 L.length (aE bG L))))] [.pin 1 b,.cells 123 [.p (.l 1 B.length (aE bG B)),.p (.i .i64 (↑(Rs.mk a' e').at_:Int)),.p (.i .i64 (Rs.mk a' e').er)]])):=by kernel_rfl
def SE(B:List UInt8)(F:Rs→ByteArray×Rs):jU:=fun args h=>match args with
 |[.c (.ptr j 0)]=>match GD B (nL h j) h with
  |some (q,a,e)=>some (q∧F=jF B,.c (.p (.s (F ⟨a.toNat,e⟩).1)),iL [nL h j] [nL h j] [1] h (BX B (F ⟨a.toNat,e⟩).2 0))
  |none=>none
 |_=>none
def SG(B:List UInt8)(L:List UInt8)(s':Rs):jU:=fun args h=>match args with
 |[.c (.ptr j 0)]=>match GD B (nL h j) h with
  |some (q,a,e)=>some (q∧nB B ⟨a.toNat,e⟩=(L,s'),aU bG 1 L,iL [nL h j] [nL h j] [1] h (BX B s' 0))
  |none=>none
 |_=>none
def aDM(B:List UInt8)(L:List UInt8)(s':Rs):Ext:=lH [(107,SG B L s')]
noncomputable def HF:Array Oper:=JP (bF .skip (cW aB Try.f88) 1)
noncomputable def aKH:List AI:=(eE aB HF (HF.toList.take 2)).getD []
noncomputable def aKG:List AI:=(eE aB HF (HF.toList.drop 3)).getD []
theorem aQU(B:List UInt8)(a:Nat)(e:Int)(b:Nat):dC eW (dH 1 (cW aB Try.f88)) (jJ Try.f88 [0] [0] [b] [.c (.ptr 0 0)] [lI B ⟨a,e⟩]) (gG [0] (eZ 6 [0,2]) (bI aB Try.f88))=Tr.done X.normal
 (bS 6 [(0,.c (.ptr 0 0)),(2,.c (.p (.s (ByteArray.mk #[]))))] [.pin 1 b,.cells 123 [.p (.l 1 B.length (aE bG B)),.p (.i .i64 (↑(Rs.mk a e).at_:Int)),.p (.i .i64 (Rs.mk a e).er)]]):=by kernel_rfl
theorem aQT(B L:List UInt8)(a':Nat)(e':Int)(a:Nat)(e:Int)(b:Nat):iX (aDM B L ⟨a',e'⟩) aKH (bS 6 [(0,.c (.ptr 0 0)),(2,.c (.p (.s ⟨#[]⟩)))] [.pin 1 b,lI B ⟨a,e⟩]) (fun st=>aAH (.t 4) st fun v h=>iX (aDM B L ⟨a',e'⟩) aKG ⟨lU st.t (some 5) v,h⟩ fun s'=>.done .normal (QE (eZ 6 [0,2]) s'))=Tr.rq
  ((C.p (PV.l 1 B.length (aE bG B))=C.p (PV.l 1 B.length (aE bG B))∧0≤(↑(Rs.mk a e).at_:Int)∧(↑(Rs.mk a e).at_:Int)≤(↑B.length:Int)∧B.length≤140737488355328) ∧
    nB B (Rs.mk (↑(Rs.mk a e).at_:Int).toNat (Rs.mk a e).er)=(L,Rs.mk a' e'))
  (Tr.rq (kA bG 1 (bO LG L.length (aE bG L)) L.length (aE bG L))
   (Tr.done X.normal
    (bS 6 [(0,V.c (C.ptr 0 0)),(2,V.c (C.p (PV.s (ByteArray.mk (bO LG L.length (aE bG L)).toArray))))] [AO.pin 1 b,AO.cells 123 [C.p (PV.l 1 B.length (aE bG B)),C.p (PV.i aC (↑(Rs.mk a' e').at_:Int)),C.p (PV.i aC (Rs.mk a' e').er)]]))):=by kernel_rfl
section
variable {G:Nat→Option Obj}
set_option maxRecDepth 100000 in
theorem aB3(B:List UInt8)(s:Rs)(hs:s.at_≤B.length)(hB:B.length≤140737488355328)(b:Nat)(Q:X→St→Prop):eL aB G (Zm [0] (bI aB Try.f107) fun st=>cQ G st ⟨[.c (.ptr 0 0)]++[aU bG 1 (nB B s).1],BX B (nB B s).2 b⟩) (cW aB Try.f107) (jJ Try.f107 [0] [0] [b] [.c (.ptr 0 0)] [lI B s]) Q:=by
 obtain⟨a,e⟩:=s
 have hs:a≤B.length:=hs
 obtain⟨L,a',e',hu⟩:∃L a' e',nB B ⟨a,e⟩=(L,⟨a',e'⟩):=⟨_,_,_,rfl⟩
 rw[hu];refine eL.evH (OD B L ⟨a',e'⟩) (tQW B L a' e' a e b) ?_;simp only[bB,aL,jP,dP];exact⟨⟨⟨rfl,by omega,by omega,hB⟩,⟨trivial,trivial⟩,hu⟩,⟨aJ rfl⟩⟩
set_option maxRecDepth 100000 in
theorem aGQ(B:List UInt8)(L:List UInt8)(s':Rs):fZ aB G 107 (SG B L s'):=by
 intro args h p v h' hm hp;unfold SG at hm
 split at hm;rotate_left;· cases hm
 split at hm;rotate_left;· cases hm
 rename_i j _ q a e hw;obtain⟨rfl,rfl,rfl⟩:=lQ hm;obtain⟨hq,hr⟩:=hp;obtain⟨k1,k2,k3⟩:=qO hw hq
 have hm:=fun b=>aB3 (G:=G) B _ k2 k3 b
 rw[hr]at hm
 exact pI (AN (args:=[]) (args0:=[]) (vs:=[aU bG 1 L]) Try.func107 (by kernel_rfl) k1 rfl fun b=>hm b _)
theorem OC(B:List UInt8)(L:List UInt8)(s':Rs):bH aB G (aDM B L s'):=dZ (by simp;exact aGQ B L s')
theorem aDX(L:List UInt8):bO LG L.length (aE bG L)=L:=FL (fun x=>aDY x) L
set_option maxRecDepth 100000 in
theorem QY(B:List UInt8)(s:Rs)(hs:s.at_≤B.length)(hB:B.length≤140737488355328)(b:Nat)(Q:X→St→Prop):eL aB G (Zm [0] (bI aB Try.f88) fun st=>cQ G st ⟨[.c (.ptr 0 0)]++[.c (.p (.s (jF B s).1))],BX B (jF B s).2 b⟩) (cW aB Try.f88) (jJ Try.f88 [0] [0] [b] [.c (.ptr 0 0)] [lI B s]) Q:=by
 obtain⟨a,e⟩:=s
 have hs:a≤B.length:=hs
 obtain⟨L,a',e',hu⟩:∃L a' e',nB B ⟨a,e⟩=(L,⟨a',e'⟩):=⟨_,_,_,rfl⟩
 have ht:jF B ⟨a,e⟩=(⟨L.toArray⟩,⟨a',e'⟩):=by unfold jF;rw[hu]
 rw[ht];refine eL.evG aX 1 (aQU B a e b) ?_;simp only[aL,cF]
 refine⟨eL.pre (aJ (st':=bS 6 [(0,.c (.ptr 0 0)),(2,.c (.p (.s ⟨#[]⟩)))] [.pin 1 b,lI B ⟨a,e⟩]) (by kernel_rfl)) ?_⟩
 refine eL.spec (r:=bJ 2 (cW aB Try.f88)) (id:=1) (ops:=HF) (OC B L ⟨a',e'⟩) (by kernel_rfl) 2 (o:=HF.toList.getD 2 default) (al1:=aKH) (al2:=aKG) (by kernel_rfl) (by kernel_rfl) (by kernel_rfl) (by kernel_rfl) (op:=.convert 63 9 (.tmp 4)) (by kernel_rfl)
   (aAG (e:=5) (by kernel_rfl) (by kernel_rfl) (by kernel_rfl) (by kernel_rfl)) (eZ 6 [0,2]) (d:=some 5) (by kernel_rfl) (aQT B L a' e' a e b) ?_
 simp only[bB,aL,dP,aDX];refine⟨⟨⟨trivial,by omega,by omega,hB⟩,hu⟩,dJ _ _ _,⟨?_⟩⟩
 refine eL.evH aX (keep:=[]) (tree:=.done .ret ⟨[.c (.ptr 0 0),.c (.p (.s ⟨L.toArray⟩))],[.pin 1 b,lI B ⟨a',e'⟩]⟩) (by kernel_rfl) ?_
 simp only[aL,jP];exact⟨aJ rfl⟩
set_option maxRecDepth 100000 in
theorem aGO(B:List UInt8)(F:Rs→ByteArray×Rs):fZ aB G 88 (SE B F):=by
 intro args h p v h' hm hp;unfold SE at hm
 split at hm;rotate_left;· cases hm
 split at hm;rotate_left;· cases hm
 rename_i j _ q a e hw;obtain⟨rfl,rfl,rfl⟩:=lQ hm;obtain⟨hq,rfl⟩:=hp;obtain⟨k1,k2,k3⟩:=qO hw hq
 exact pI (AN (args:=[]) (args0:=[]) (vs:=[.c (.p (.s (jF B ⟨a.toNat,e⟩).1))]) Try.func88 (by kernel_rfl) k1 rfl fun b=>QY B _ k2 k3 b _)
end
end Go.AE
