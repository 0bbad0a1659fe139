import Derived.Test.YtgdlaibocecehaaGreatDoorRVb
import Derived.StillTail
import Derived.Scope
set_option linter.unusedVariables false
set_option linter.unusedSimpArgs false
namespace Go.AE
open _root_.Array renaming getElem?_eq_some_iff→bF,getElem?_setIfInBounds_ne→dM,replicate→fJ
open _root_.Bool renaming and_eq_true→aY,false_eq_true→eI,or_eq_true→eH
open _root_.List renaming getD_eq_getElem?_getD→aG,getElem?_drop→gS,getElem?_eq_getElem→aN,getElem?_eq_none→bL,getElem?_map→dJ,getElem?_range→eM,getElem?_take→gD,mem_cons→dZ,range→dL
open _root_.Nat renaming ble_eq→fU,eq_of_beq_eq_true→aH,le_refl→aU,lt_of_lt_of_le→cI,lt_or_ge→cK,zero_add→dV,zero_le→bH
open _root_.Option renaming bind_eq_bind→aE,bind_eq_some_iff→aB,bind_some→gT,map_eq_some_iff→aM,map_some→dS,pure_def→aK,some.injEq→aD
open Region renaming binds→eO,waitsFor→dF,waitsFor_spec→eZ,wanted→eD
open Go.RowKit
section
variable {P:Program} {G:Nat→Option Obj} {β β':Bt} {R R':Nat→Prop} {w w':World} {st st':St} {a:Act} {o:Oper}
theorem CR.pure_{x:C}{u:Value}(hp:isP x=true)(h:CR β R w x u):CR β' R w x u:=by cases x<;>first|exact h|cases hp
theorem All2.pure_:∀ {cs:List C} {us:List Value},DL cs=true→All2 (CR β R w) cs us→All2 (CR β' R w) cs us
 |[],[],_,_=>trivial
 |[],_::_,_,h=>h.elim
 |_::_,[],_,h=>h.elim
 |c::cs,u::us,hp,h=>by
  simp only[DL,aY]at hp;exact⟨CR.pure_ hp.1 h.1,All2.pure_ hp.2 h.2⟩
theorem BO.pure_{x:V1}{u:Value}(hp:TO x=true)(h:BO β R w x u):BO β' R w x u:=by
 cases x with
 |c x=>exact CR.pure_ hp h
 |a cs=>obtain⟨us,h1,h2⟩:=h;exact⟨us,h1,All2.pure_ hp h2⟩
theorem All2.pureV1_:∀ {cs:List V1} {us:List Value},sB cs=true→All2 (BO β R w) cs us→All2 (BO β' R w) cs us
 |[],[],_,_=>trivial
 |[],_::_,_,h=>h.elim
 |_::_,[],_,h=>h.elim
 |c::cs,u::us,hp,h=>by
  simp only[sB,aY]at hp;exact⟨BO.pure_ hp.1 h.1,All2.pureV1_ hp.2 h.2⟩
theorem VR.pure_{x:V}{u:Value}(hp:oU x=true)(h:VR β R w x u):VR β' R w x u:=by
 cases x with
 |c x=>exact CR.pure_ hp h
 |a cs=>obtain⟨us,h1,h2⟩:=h;exact⟨us,h1,All2.pure_ hp h2⟩
 |t vs=>obtain⟨us,h1,h2⟩:=h;exact⟨us,h1,All2.pureV1_ hp h2⟩
theorem All2.pureV_:∀ {cs:List V} {us:List Value},(∀v∈cs,oU v=true)→All2 (VR β R w) cs us→All2 (VR β' R w) cs us
 |[],[],_,_=>trivial
 |[],_::_,_,h=>h.elim
 |_::_,[],_,h=>h.elim
 |c::cs,u::us,hp,h=>⟨VR.pure_ (hp c (by simp)) h.1,All2.pureV_ (fun v hv=>hp v (by simp[hv])) h.2⟩
def frz(β:Bt)(R:Nat→Prop)(b:Nat):Prop:=R b∨β.has b
theorem zS{h:List AO}(hh:HS G β R w h){β':Bt}{R':Nat→Prop}(k:Fr Bt.nil R w β' R' w')(hr:∀b,R b→R' b){h':List AO}(hh':HS G β' R' w' h') :
  HS G β (frz β' R') w' h∧Gr β R w β (frz β' R') w':=by
 have hx:∀b,frz β' R' b→R b∨w.heap.size≤b:=by
  rintro b (hb|hi)
  ·rcases k.rx b hb with h|h|h
   ·exact .inl h
   ·exact absurd h Bt.nil_has
   ·exact .inr h
  ·rcases k.ex b hi with h|h
   ·exact absurd h Bt.nil_has
   ·exact .inr h
 have gr:Gr β R w β (frz β' R') w':={
  os:=k.os,tape:=k.tape,output:=k.output,size:=k.size,rs:=k.rs
  fr:=fun b hb _=>k.fr b hb Bt.nil_has
  ex:=fun _ hi=>.inl hi
  rx:=fun b hb=>(hx b hb).imp id .inr
  bm:=fun _ _ hi=>hi
  rm:=fun b hb=>.inl (hr b hb) }
 have kq:vT β w β w':=fun b ad hb=>⟨hb,k.fr b (hh.ql b ad hb).1 Bt.nil_has⟩
 refine⟨⟨hh.dom,hh.inj,?_,?_,?_,?_,?_,?_⟩,gr⟩
 ·intro i b o hi hl hb
  rcases hx b hb with h|h
  ·exact hh.sep i b o hi hl h
  ·have:=hh.lt i b o hi;omega
 ·intro i b o hi;exact cI (hh.lt i b o hi) k.size
 ·rintro b (hb|⟨i,o,hi⟩|⟨ad,hi⟩)
  ·exact hh'.rlt b hb
  ·exact hh'.lt i b o hi
  ·exact(hh'.ql b ad hi).1
 ·intro i b o hi
  exact OR.keep gr.keeps (kq.at b) (k.fr b (hh.lt i b o hi) Bt.nil_has) (hh.obj i b o hi)
 ·intro b ob hb
  obtain⟨h1,h2⟩:=hh.gl b ob hb;exact⟨.inl (hr b h1),(k.rs b h1).trans h2⟩
 ·intro b ad hb
  obtain⟨h1,h2,h3⟩:=hh.ql b ad hb;refine⟨cI h1 k.size,fun hf=>?_,h3⟩
  rcases hx b hf with h|h
  ·exact h2 h
  ·omega
theorem eC.tmp_bool{β:Bt}{R:Nat→Prop}{w:World}{st:St}{a:Act}(hs:eC G β R st a w){d:Nat}{x:Bool}(h:bN (.c .top) st.t d=.c (.p (.b x))):a.tmps[d]?=some (.bool x):=by
 have hv:=aR (x:=.tmp d) hs rfl
 have e:st.ev (.t d)=.c (.p (.b x)):=h
 rw[e]at hv
 have hv:a.tmps.getD d undef=.bool x:=hv
 cases hq:a.tmps[d]? with
 |none=>simp[hq,undef]at hv
 |some u=>simp[hq]at hv;rw[hv]
theorem eC.tmp_undef{β:Bt}{R:Nat→Prop}{w:World}{st:St}{a:Act}(hs:eC G β R st a w){d:Nat}(h:bN (.c .top) st.t d=.t []):a.tmps[d]?=none∨a.tmps[d]?=some (.tuple #[]):=by
 have hv:=aR (x:=.tmp d) hs rfl
 have e:st.ev (.t d)=.t []:=h
 rw[e]at hv;obtain⟨us,hu,ha⟩:=hv
 have hl:=ha.length
 have:us = #[]:=by
  apply Array.toList_inj.1;exact List.eq_nil_of_length_eq_zero (by simpa using hl.symm)
 subst this;cases hq:a.tmps[d]? with
 |none=>exact .inl rfl
 |some u=>
  have hu:a.tmps.getD d undef=.tuple #[]:=hu
  simp[hq]at hu;rw[hu];exact .inr rfl
theorem wanted_bool{ops:Array Oper}{o:Oper}{j d:Nat}{want x:Bool}{a:Act}(hg:o.guard=some (j,want))(hd:(ops[j]?).bind (·.dst)=some d)(hx:a.tmps[d]?=some (.bool x)):eD o (yielded ops a.tmps)=(x==want):=by
 unfold eD yielded;simp only[hg,hd,gT,hx];cases x<;>cases want<;>rfl
theorem wanted_undef{ops:Array Oper}{o:Oper}{j d:Nat}{want:Bool}{a:Act}(hg:o.guard=some (j,want))(hd:(ops[j]?).bind (·.dst)=some d)(hx:a.tmps[d]?=none∨a.tmps[d]?=some (.tuple #[])):eD o (yielded ops a.tmps)=false:=by
 unfold eD yielded
 rcases hx with hx|hx<;>simp only[hg,hd,gT,hx]<;>rfl
theorem qD{β:Bt}{R:Nat→Prop}{w:World}:VR β R w (.t []) undef:=⟨#[],rfl,trivial⟩
theorem oD:∀ {vs:List V},mN vs=true→∀v∈vs,oU v=true
 |x::r,h,v,hv=>by
  simp only[mN,aY]at h
  rcases dZ.1 hv with rfl|hv
  ·exact h.1
  ·exact oD h.2 v hv
theorem AM{ext:Ext}(hext:bO P G ext):bO P G (jE ext) where
 fn:=by
  intro f args h k K hh;obtain⟨h1,h2⟩:=cE hh;intro β R w vs ha hs
  have hz:HS G Bt.nil R w []:=⟨(fun i x hi=>by cases hi),(fun i j b o o' hi=>by cases hi),(fun i b o hi=>by cases hi),(fun i b o hi=>by cases hi),hs.rlt,(fun i b o hi=>by cases hi),hs.gl,fun b ad hb=>by cases hb⟩
  refine(hext.fn _ _ _ _ _ h2 Bt.nil R w vs (All2.pureV_ (oD h1) ha) hz).mono ?_;rintro e w' ⟨u,β',R',x,h',rfl,q1,q2,q3,q4,q5⟩;cases h' with
  |cons _ _=>exact q1.elim
  |nil=>
   obtain⟨r1,r2⟩:=cE q1;obtain⟨c1,c2⟩:=zS hs q4.toFr q4.rm q3;exact⟨u,β,frz β' R',x,h,rfl,r2,VR.pure_ r1 (VR.keep (β':=β') (R':=frz β' R') ⟨fun _ _ h=>h,fun _ h=>.inl h,fun _ _=>rfl⟩ q2),c1,c2,fun _ _=>rfl⟩
 val:=by
  intro f args h k K hh;obtain⟨h1,h2⟩:=cE hh;obtain⟨v,h',q1,q2⟩:=hext.val _ _ _ _ _ h2;cases h' with
  |cons _ _=>exact q1.elim
  |nil=>
   obtain⟨r1,r2⟩:=cE q1;refine⟨v,h,r2,fun k' K' hk=>?_⟩;unfold jE;rw[h1];exact q2 _ K' (by rw[r1];exact hk)
theorem aAC{ext:Ext}(hext:bO P G ext){f:FuncId}{args:List V}{h:List AO}{k:V→List AO→Tr}{K:X→St→Prop}(hh:(jE ext f args h k).holds P G K) :
  ∃v,(k v h).holds P G K∧∀h2 k' K',(k' v h2).holds P G K'→(jE ext f args h2 k').holds P G K':=by
 obtain⟨h1,h2⟩:=cE hh;obtain⟨v,h',q1,q2⟩:=hext.val _ _ _ _ _ h2;cases h' with
 |cons _ _=>exact q1.elim
 |nil=>
  obtain⟨r1,r2⟩:=cE q1;refine⟨v,r2,fun h2 k' K' hk=>?_⟩;unfold jE;rw[h1];exact q2 _ K' (by rw[r1];exact hk)
theorem wQ{h:List AO}(hh:HS G β R w h)(ob:Obj){id:Nat}(hid:β id=none)(x:Nat×Nat)(hx:x.1=w.heap.size):Gr β R w (bn β id x) R (w.alloc ob) where
 os:=rfl
 tape:=rfl
 output:=rfl
 size:=by simp
 rs:=fun b hb=>heap_push_lt w ob (hh.rlt b hb)
 fr:=fun b hb _=>heap_push_lt w ob hb
 ex:=fun b hi=>(GY hi).imp (fun h=>h) (fun h=>by omega)
 rx:=fun b hb=>.inl hb
 bm:=fun i y hi=>by
  rw[dN];exact hi;rintro rfl;rw[hid]at hi;cases hi
 rm:=fun _ hb=>hb
theorem GB{h:List AO}(hh:HS G β R w h){id:Nat}(hid:β id=none)(hl:id<h.length){ob:Obj}{N:Nat}
  (hx:∀β' w',jC β R w β' R w'→w'.heap[w.heap.size]?=some ob→OR β' R w' (bN .gone h id) w.heap.size N) :
  HS G (bn β id (w.heap.size,N)) R (w.alloc ob) h:=by
 have gr:=wQ hh ob hid (w.heap.size,N) rfl
 have hnew:(w.alloc ob).heap[w.heap.size]?=some ob:=heap_alloc_new w ob
 have kq:vT β w (bn β id (w.heap.size,N)) (w.alloc ob):=fun b ad hb=>⟨hb,heap_push_lt w ob (hh.ql b ad hb).1⟩
 refine⟨?_,?_,?_,?_,?_,?_,?_,?_⟩
 ·intro i y hi
  by_cases e:i=id
  ·omega
  ·rw[dN _ e]at hi;exact hh.dom i y hi
 ·intro i j b o1 o2 hi hj li lj
  by_cases ei:i=id
  ·by_cases ej:j=id
   ·omega
   ·subst ei;rw[fN]at hi;rw[dN _ ej]at hj
    have:=hh.lt j b o2 hj;simp at hi;omega
  ·rw[dN _ ei]at hi
   by_cases ej:j=id
   ·subst ej;rw[fN]at hj
    have:=hh.lt i b o1 hi;simp at hj;omega
   ·rw[dN _ ej]at hj
    exact hh.inj i j b o1 o2 hi hj li lj
 ·intro i b o1 hi li
  by_cases ei:i=id
  ·subst ei;rw[fN]at hi;simp at hi
   intro hb;have:=hh.rlt b hb;omega
  ·rw[dN _ ei]at hi
   exact hh.sep i b o1 hi li
 ·intro i b o1 hi
  by_cases ei:i=id
  ·subst ei;rw[fN]at hi;simp at hi;simp;omega
  ·rw[dN _ ei]at hi;have:=hh.lt i b o1 hi;simp;omega
 ·intro b hb;have:=hh.rlt b hb;simp;omega
 ·intro i b o1 hi
  by_cases ei:i=id
  ·subst ei;rw[fN]at hi;simp at hi
   obtain⟨rfl,rfl⟩:=hi;exact hx _ _ gr.keeps hnew
  ·rw[dN _ ei]at hi
   exact OR.keep gr.keeps (kq.at b) (heap_push_lt w ob (hh.lt i b o1 hi)) (hh.obj i b o1 hi)
 ·intro b o1 hb
  obtain⟨h1,h2⟩:=hh.gl b o1 hb;exact⟨h1,(heap_push_lt w ob (hh.rlt b h1)).trans h2⟩
 ·intro b ad hb
  obtain⟨h1,h2,h3⟩:=hh.ql b ad hb;refine⟨by simp;omega,h2,fun i o1 hi=>?_⟩
  by_cases ei:i=id
  ·subst ei;rw[fN]at hi;simp at hi;omega
  ·rw[dN _ ei]at hi
   exact h3 i o1 hi
def aRI(P:Program)(β:Bt)(R:Nat→Prop)(o:Oper)(a:Act)(w:World)(x:AO)(mk:Nat→V):Prop:=
 ∃u ob N,(execOp a.eval o).run P w=.ok (.value u) (w.alloc ob)∧(∀β' w',jC β R w β' R w'→w'.heap[w.heap.size]?=some ob→OR β' R w' x w.heap.size N) ∧
  ∀β' id w',β' id=some (w.heap.size,N)→VR β' R w' (mk id) u
theorem aBO{op:Op}{t:TypeId}{z:List PV}(hc:gY P op=some (.alloc t z)):op=.alloc t∧iE P t=some z:=by
 cases op<;>simp only[gY,aM,aE,aB,aK,reduceCtorEq,and_false,exists_false,aD]at hc
 case alloc t'=>
  obtain⟨z',h1,h2⟩:=hc;injection h2 with h2 h3;subst h2;subst h3;exact⟨rfl,h1⟩
 case fieldAddr=>
  obtain⟨_,_,_,_,_,_,hc⟩:=hc;split at hc
  ·cases hc
  ·simp[aB]at hc
 all_goals (repeat' split at hc)
 all_goals (exfalso;simp_all [aM,aB];done)
theorem aJW{op:Op}{t:TypeId}{ax:AX}(hc:gY P op=some (.box t ax)):∃x,op=.box t x∧cX x=some ax:=by
 cases op<;>simp only[gY,aM,aE,aB,aK,reduceCtorEq,and_false,exists_false,aD]at hc
 case box t' x'=>
  obtain⟨z',h1,h2⟩:=hc;injection h2 with h2 h3;subst h2;subst h3;exact⟨_,rfl,h1⟩
 case fieldAddr=>
  obtain⟨_,_,_,_,_,_,hc⟩:=hc;split at hc
  ·cases hc
  ·simp[aB]at hc
 all_goals (repeat' split at hc)
 all_goals (exfalso;simp_all [aM,aB];done)
theorem aJV{op:Op}{e:TypeId}{sz len:Nat}{z:List PV}{l:List (Nat×Nat×AX)}(hc:gY P op=some (.bsl e sz len z l)):∃t ps,op=.buildSlice t len ps∧P.underlying t=some (.slice e)∧dK P e=some sz∧iE P e=some z∧jI (fun i=>some (i*sz,sz)) ps.toList=some l:=by
 cases op<;>simp only[gY,aM,aE,aB,aK,reduceCtorEq,and_false,exists_false,aD]at hc
 case buildSlice t' len' ps'=>
  obtain⟨e',h1,sz',h2,z',h3,l',h4,h5⟩:=hc;injection h5 with h5 h6 h7 h8 h9;subst h5;subst h6;subst h7;subst h8;subst h9;refine⟨_,_,rfl,?_,h2,h3,h4⟩;unfold iB at h1;split at h1
  ·rename_i e2 hu;injection h1 with h1;rw[hu,h1]
  ·cases h1
 case fieldAddr=>
  obtain⟨_,_,_,_,_,_,hc⟩:=hc;split at hc
  ·cases hc
  ·simp[aB]at hc
 all_goals (repeat' split at hc)
 all_goals (exfalso;simp_all [aM,aB];done)
theorem FG(hs:eC G β R st a w){aop:rB}(hc:gY P o.op=some aop){x:AO}{mk:Nat→V}(hn:xS st aop=some (x,mk)):aRI P β R o a w x mk:=by
 cases aop<;>simp only[xS,reduceCtorEq,aD,Prod.mk.injEq]at hn
 case alloc t z=>
  obtain⟨ho,hz⟩:=aBO hc;obtain⟨rfl,rfl⟩:=hn;obtain⟨v,hv,rfl⟩:=jA hz;refine⟨.pointer (some ⟨w.heap.size,0,none⟩),.cells v.cells t,0,?_,fun β' w' kp hb=>⟨v.cells,hb,(pD v).mono fun _ _=>CR.keep kp⟩,fun β' id w' hid=>⟨w.heap.size,0,hid,rfl⟩⟩;simp[execOp,ho,Instr.alloc,hv,newVar,newRow]
 case box t ax=>
  obtain⟨y,ho,hy⟩:=aJW hc
  have hv:=aR hs hy
  split at hn
  ·rename_i cs hcs
   split at hn
   ·rename_i h1
    simp only[aD,Prod.mk.injEq]at hn;obtain⟨rfl,rfl⟩:=hn;refine⟨.pointer (some ⟨w.heap.size,0,none⟩),.cells (a.eval y).cells t,0,?_,fun β' w' kp hb=>⟨(a.eval y).cells,hb,(iI hv hcs h1).1.mono fun _ _=>CR.keep kp⟩,fun β' id w' hid=>⟨w.heap.size,0,hid,rfl⟩⟩;simp[execOp,ho,Instr.box,newVar,newRow]
   ·cases hn
  ·cases hn
 case bsl e sz len z l=>
  obtain⟨t,ps,ho,hu,hsz,hz,hl⟩:=aJV hc;obtain⟨v,hv,rfl⟩:=jA hz;split at hn
  ·rename_i cs hcs
   split at hn
   ·rename_i c1
    simp only[aD,Prod.mk.injEq]at hn;obtain⟨rfl,rfl⟩:=hn;simp only[aY,fU,fH,List.length_map]at c1;obtain⟨⟨c1,c3⟩,c4⟩:=c1
    have c1:v.cells.size=sz:=by simpa using aH c1
    have c3:0<sz:=by simpa using c3
    subst c1
    have hstart:((Array.range (len*v.cells.size)).map (fun i=>v.cells[i%v.cells.size]!)).toList=replV v.cells.toList len:=by
     rw[Array.toList_map,Array.toList_range,range_cells v.cells c3 len]
    obtain⟨cells',h1,h2⟩:=kU hs _ ps.toList l _ cs ((Array.range (len*v.cells.size)).map (fun i=>v.cells[i%v.cells.size]!)) hl hcs (by rw[hstart];exact pI (pD v) len)
    have hlen:cs.length=len*v.cells.size:=by
     rw[sL st _ _ _ hcs,tK,BX];simp
    have hcl:cells'.size=len*v.cells.size:=by have:=h2.length;simp at this;omega
    refine⟨.slice (some ⟨w.heap.size,0,none⟩) len len,.cells cells' e,len*v.cells.size,?_,?_,?_⟩
    ·have hne:¬(len*v.cells.size>2^24):=by omega
     have e1:len*v.cells.size=0→(Array.range (len*v.cells.size)).map (fun _=>(default:Value))=(Array.range (len*v.cells.size)).map (fun i=>v.cells[i%v.cells.size]!):=fun h0=>by simp[h0]
     simp only[execOp,ho,Instr.buildSlice];simp[run_underlying hu,run_sizeOf hsz,if_neg hne]
     by_cases h0:len*v.cells.size=0
     ·rw[if_pos h0,e1 h0,h1]
      simp[newRow]
     ·rw[if_neg h0,hv]
      simp[h1,newRow]
    ·intro β' w' kp hb
     refine⟨cells',hb,hcl,aU _,?_⟩;intro i j hi hj
     have hlt:i*v.cells.size+j<len*v.cells.size:=by
      have:=Nat.mul_le_mul_right v.cells.size (show i+1≤len by omega)
      rw[Nat.add_mul,Nat.one_mul]at this;omega
     obtain⟨u,hu⟩:∃u,cells'.toList[i*v.cells.size+j]?=some u:=⟨_,aN (by simp;omega)⟩
     refine⟨u,by simpa using hu,?_⟩;rw[ZI hj (by omega)];exact rS.of ((wG st _ _ _ (wE (wF _) _) hcs).nth_ _) (CR.keep kp (h2.nth_get hu))
    ·intro β' id w' hid
     exact⟨_,len,rfl,aU _,by unfold maxLen;have:len*1≤len*v.cells.size:=Nat.mul_le_mul_left _ c3;omega,.inr ⟨w.heap.size,_,hid,by simp,by simp⟩⟩
   ·cases hn
  ·cases hn
def dE(st st':St)(l:List Nat):Prop:=∀s∈l,bN (.c .top) st'.t s=bN (.c .top) st.t s
theorem dE.left{l l':List Nat}(h:dE st st' (l++l')):dE st st' l:=fun s hs=>h s (List.mem_append.2 (.inl hs))
theorem dE.right{l l':List Nat}(h:dE st st' (l++l')):dE st st' l':=fun s hs=>h s (List.mem_append.2 (.inr hs))
theorem cH{x:AX}(h:dE st st' x.sl):st'.ev x=st.ev x:=by
 cases x with
 |t k=>exact h k (List.mem_singleton.2 rfl)
 |k v=>rfl
theorem tT:∀ {xs:List AX} (_:dE st st' (BG xs)),vS st' xs=vS st xs
 |[],_=>rfl
 |x::r,h=>by simp only[vS];rw[cH (dE.left h),tT (dE.right h)]
theorem qR:∀ {ps:List (Nat×Nat×AX)} {vs:List C} (_:dE st st' (OZ ps)),jL st' vs ps=jL st vs ps
 |[],_,_=>rfl
 |(o,s,x)::r,vs,h=>by
  simp only[jL];rw[cH (dE.left h)];split
  ·split
   ·exact qR (dE.right h)
   ·rfl
  ·rfl
theorem sI{op:rB}(h:dE st st' op.sls):xS st' op=xS st op:=by
 cases op<;>simp only[xS,rB.sls]at h ⊢
 case box ty x=>rw[cH h]
 case bsl=>rw[qR h]
theorem XX{ext:Ext}{K:X→St→Prop}{k:V→List AO→Tr}{op:rB}(hn:op.nw=true)(h:(gL ext st k op).holds P G K) :
  ∃x mk,xS st op=some (x,mk)∧(k (mk (fK st.h)) (iF x st.h)).holds P G K:=by
 cases op<;>simp only[rB.nw,eI]at hn
 case alloc ty z=>exact⟨_,_,rfl,h⟩
 case box ty x=>
  simp only[gL]at h;simp only[xS];split at h
  ·rename_i cs hcs
   obtain⟨h1,h2⟩:=cE h;simp only[h1];exact⟨_,_,rfl,h2⟩
  ·exact h.elim
 case bsl ty sz len z ps=>
  simp only[gL]at h;simp only[xS];split at h
  ·rename_i cs hcs
   obtain⟨h1,h2⟩:=cE h;simp only[h1];exact⟨_,_,rfl,h2⟩
  ·exact h.elim
end
section
variable {P:Program} {G:Nat→Option Obj} {st:St}
theorem kF{h:List AO}{id:Nat}{x:AO}(hx:bN .gone h id=x)(hl:x≠.gone):id<h.length:=by
 rw[eK]at hx
 rcases cK id h.length with h'|h'
 ·exact h'
 ·rw[aG,bL h',Option.getD_none]at hx
  exact absurd hx.symm hl
def aGH(P:Program)(G:Nat→Option Obj)(ext:Ext)(st:St)(op:rB)(v:V):Prop:=
 ∀st',dE st st' op.sls→(∀id,id<st.h.length→bN .gone st'.h id=bN .gone st.h id)→∀k' K',(k' v st'.h).holds P G K'→(gL ext st' k' op).holds P G K'
theorem eP{b:Bool}{p:Tr}{K:X→St→Prop}(hb:b=true)(h:p.holds P G K):(oN b p).holds P G K:=by rw[hb];exact h
theorem aBU{op:BinOp}{k:IntKind}{a b:Int}{q:PV→Tr}{K:X→St→Prop}(h:(IK op k a b q).holds P G K):∃v,(q v).holds P G K∧∀q' K',(q' v).holds P G K'→(IK op k a b q').holds P G K':=by
 cases op<;>simp only[IK]at h ⊢
 all_goals first
  |exact h.elim
  |exact⟨_,h.2,fun _ _ hk=>⟨h.1,hk⟩⟩
  |exact⟨_,h,fun _ _ hk=>hk⟩
theorem aBT{op:BinOp}{a b:ByteArray}{q:PV→Tr}{K:X→St→Prop}(h:(IJ op a b q).holds P G K):∃v,(q v).holds P G K∧∀q' K',(q' v).holds P G K'→(IJ op a b q').holds P G K':=by
 cases op<;>simp only[IJ]at h ⊢
 all_goals first
  |exact h.elim
  |exact⟨_,h.2,fun _ _ hk=>⟨h.1,hk⟩⟩
  |exact⟨_,h,fun _ _ hk=>hk⟩
theorem aBV{op:BinOp}{a b:Bool}{q:PV→Tr}{K:X→St→Prop}(h:(aBW op a b q).holds P G K):∃v,(q v).holds P G K∧∀q' K',(q' v).holds P G K'→(aBW op a b q').holds P G K':=by
 cases op<;>simp only[aBW]at h ⊢
 all_goals first
  |exact h.elim
  |exact⟨_,h,fun _ _ hk=>hk⟩
theorem uX{xs ys:List C}:∀ {l:List (Nat×PK)} {q:Bool→Tr} {K:X→St→Prop},(pV xs ys l q).holds P G K→∃b,(q b).holds P G K∧∀q' K',(q' b).holds P G K'→(pV xs ys l q').holds P G K'
 |[],q,K,h=>⟨true,h,fun _ _ hk=>hk⟩
 |(o,pk)::r,q,K,h=>by
  simp only[pV]at h ⊢;split at h
  ·obtain⟨h1,h2⟩:=cE h
   obtain⟨b,q1,q2⟩:=uX h2;exact⟨_,q1,fun q' K' hk=>eP h1 (q2 _ _ hk)⟩
  ·obtain⟨b,q1,q2⟩:=uX h
   exact⟨_,q1,fun q' K' hk=>q2 _ _ hk⟩
  ·obtain⟨b,q1,q2⟩:=uX h
   exact⟨_,q1,fun q' K' hk=>q2 _ _ hk⟩
  ·exact h.elim
theorem oH{d:Nat}{x:Option AX}{q:Int→Tr}{K:X→St→Prop}(h:(xX st d x q).holds P G K):∃n,(q n).holds P G K∧∀st',dE st st' (slO x)→∀q' K',(q' n).holds P G K'→(xX st' d x q').holds P G K':=by
 cases x with
 |none=>exact⟨d,h,fun _ _ _ _ hk=>hk⟩
 |some ax=>
  simp only[xX]at h ⊢;split at h
  ·rename_i he
   exact⟨_,h,fun st' ha q' K' hk=>by rw[cH ha,he];exact hk⟩
  ·exact h.elim
theorem aBS{op:BinOp}{k k2:IntKind}{a b:Int}{K1:Int→Tr}{K:X→St→Prop}(h:(SJ op k a k2 b K1).holds P G K):∃n,(K1 n).holds P G K∧∀(K2:Int→Tr) (K':X→St→Prop),(K2 n).holds P G K'→(SJ op k a k2 b K2).holds P G K':=by
 cases op<;>simp only[SJ]at h ⊢
 case add=>obtain⟨c,h⟩:=cE h;exact⟨_,h,fun _ _ hk=>eP c hk⟩
 case sub=>obtain⟨c,h⟩:=cE h;exact⟨_,h,fun _ _ hk=>eP c hk⟩
 case mul=>obtain⟨c,h⟩:=cE h;exact⟨_,h,fun _ _ hk=>eP c hk⟩
 case and=>obtain⟨c,h⟩:=cE h;exact⟨_,h,fun _ _ hk=>eP c hk⟩
 case or=>obtain⟨c,h⟩:=cE h;exact⟨_,h,fun _ _ hk=>eP c hk⟩
 case xor=>obtain⟨c,h⟩:=cE h;exact⟨_,h,fun _ _ hk=>eP c hk⟩
 case shl=>exact⟨_,h.2,fun _ _ hk=>⟨h.1,hk⟩⟩
 case shr=>exact⟨_,h.2,fun _ _ hk=>⟨h.1,hk⟩⟩
 all_goals exact h.elim
theorem aBH{x y:V}{K1:Bool→Tr}{K:X→St→Prop}(h:(aFX x y K1).holds P G K):∃b,(K1 b).holds P G K∧∀(K2:Bool→Tr) (K':X→St→Prop),(K2 b).holds P G K'→(aFX x y K2).holds P G K':=by
 unfold aFX at h ⊢;split at h
 ·exact⟨_,h,fun _ _ hk=>hk⟩
 ·exact⟨_,h,fun _ _ hk=>hk⟩
 ·exact h.elim
theorem FU{k:Int}{K1:Nat→Tr}{K:X→St→Prop}:∀ {n j:Nat},(ixT k n j K1).holds P G K→∃q,(K1 q).holds P G K∧∀(K2:Nat→Tr) (K':X→St→Prop),(K2 q).holds P G K'→(ixT k n j K2).holds P G K'
 |0,_,h=>h.elim
 |1,j,h=>⟨j,h,fun _ _ hk=>hk⟩
 |n+2,j,h=>by
  unfold ixT at h ⊢
  by_cases e:k=(j:Int)
  ·simp only[decide_eq_true e]at h ⊢
   exact⟨j,h,fun _ _ hk=>hk⟩
  ·simp only[decide_eq_false e]at h ⊢
   exact FU (n:=n+1) (j:=j+1) h
theorem aAI{op:SS}(hh:op.hd=true){k:V→List AO→Tr}{K:X→St→Prop}(h:(jR st k op).holds P G K) :
  ∃v,(k v st.h).holds P G K∧∀st',dE st st' op.sls→(∀id,id<st.h.length→bN .gone st'.h id=bN .gone st.h id)→∀(k':V→List AO→Tr) (K':X→St→Prop),(k' v st'.h).holds P G K'→(jR st' k' op).holds P G K':=by
 cases op<;>simp only[SS.hd,eI]at hh<;>simp only[jR]at h
 case nilc x=>
  split at h
  ·rename_i he
   exact⟨_,h,fun st' ha hp k' K' hk=>by simp only[jR,cH ha,he];exact hk⟩
  ·rename_i he
   exact⟨_,h,fun st' ha hp k' K' hk=>by simp only[jR,cH ha,he];exact hk⟩
  ·rename_i he
   exact⟨_,h,fun st' ha hp k' K' hk=>by simp only[jR,cH ha,he];exact hk⟩
  ·rename_i f fs cs he
   split at h
   ·exact⟨_,h,fun st' ha hp k' K' hk=>by simp only[jR,cH ha,he];exact hk⟩
   ·exact h.elim
  ·exact h.elim
 case eqp neg x y=>
  obtain⟨b,h1,h2⟩:=aBH h;exact⟨_,h1,fun st' ha hp k' K' hk=>by simp only[jR,cH (dE.left ha),cH (dE.right ha)];exact h2 _ _ hk⟩
 case faddrI sz n x i=>
  split at h
  ·rename_i he he2
   obtain⟨h0,h⟩:=h;obtain⟨q,h1,h2⟩:=FU h;exact⟨_,h1,fun st' ha hp k' K' hk=>by simp only[jR,cH (dE.left ha),cH (dE.right ha),he,he2];exact⟨h0,h2 _ _ hk⟩⟩
  ·exact h.elim
 case idxV sz n m x i=>
  split at h
  ·rename_i he he2
   obtain⟨hc,h⟩:=cE h;obtain⟨h0,h⟩:=h;obtain⟨q,h1,h2⟩:=FU h;exact⟨_,h1,fun st' ha hp k' K' hk=>by simp only[jR,cH (dE.left ha),cH (dE.right ha),he,he2];exact eP hc ⟨h0,h2 _ _ hk⟩⟩
  ·exact h.elim
 case min3 x y c=>
  split at h
  ·rename_i he he2 he3
   exact⟨_,h,fun st' ha hp k' K' hk=>by simp only[jR,cH (dE.left ha),cH (dE.left (dE.right ha)),cH (dE.right (dE.right ha)),he,he2,he3];exact hk⟩
  ·exact h.elim
 case gsl g n=>exact⟨_,h,fun st' ha hp k' K' hk=>by simp only[jR];exact hk⟩
 case conv kd x=>
  split at h
  ·rename_i he
   exact⟨_,h,fun st' ha hp k' K' hk=>by simp only[jR,cH ha,he];exact hk⟩
  ·exact h.elim
 case carry sub x y c=>
  split at h
  ·rename_i he he2 he3
   obtain⟨h0,h⟩:=h;exact⟨_,h,fun st' ha hp k' K' hk=>by simp only[jR,cH (dE.left ha),cH (dE.left (dE.right ha)),cH (dE.right (dE.right ha)),he,he2,he3];exact⟨h0,hk⟩⟩
  ·exact h.elim
 case negw kd x=>
  split at h
  ·rename_i he
   obtain⟨h0,h⟩:=cE h;exact⟨_,h,fun st' ha hp k' K' hk=>by simp only[jR,cH ha,he];exact eP h0 hk⟩
  ·exact h.elim
 case binw op kd x y=>
  split at h
  ·rename_i he he2
   obtain⟨h0,h⟩:=cE h;obtain⟨q,h1,h2⟩:=aBS h;exact⟨_,h1,fun st' ha hp k' K' hk=>by simp only[jR,cH (dE.left ha),cH (dE.right ha),he,he2];exact eP h0 (h2 _ _ hk)⟩
  ·exact h.elim
 case capn x=>
  split at h
  ·rename_i he
   exact⟨_,h,fun st' ha hp k' K' hk=>by simp only[jR,cH ha,he];exact hk⟩
  ·exact h.elim
 case lookl ok2 x y=>
  split at h
  ·rename_i id he
   split at h
   ·rename_i ok ty sz g k0 c hid
    split at h
    ·rename_i kv hkv
     obtain⟨h0,h1,h2⟩:=cE h;exact⟨_,h2,fun st' ha hp k' K' hk=>by simp only[jR,cH (dE.left ha),cH (dE.right ha),he,hp id (kF hid (by simp)),hid,hkv];exact eP h0 ⟨h1,hk⟩⟩
    ·exact h.elim
   ·exact h.elim
  ·exact h.elim
theorem aHT{ext:Ext}(hext:bO P G ext){op:rB}(hh:op.hd=true)(hn:op.nw=false){k:V→List AO→Tr}{K:X→St→Prop}(h:(gL (jE ext) st k op).holds P G K) :
  ∃v,(k v st.h).holds P G K∧aGH P G (jE ext) st op v:=by
 cases op<;>simp only[rB.hd,rB.nw,eI,Bool.true_eq_false]at hh hn<;>simp only[gL]at h
 case mv x=>exact⟨_,h,fun st' ha _ k' K' hk=>by simp only[gL,cH ha];exact hk⟩
 case more o=>
  obtain⟨v,h1,h2⟩:=aAI hh h;exact⟨v,h1,fun st' ha hp k' K' hk=>h2 st' ha hp k' K' hk⟩
 case look ok2 two x y=>
  split at h
  ·rename_i id he
   split at h
   ·rename_i ok g hid
    split at h
    ·rename_i kv hkv
     exact⟨_,h.2,fun st' ha hp k' K' hk=>by simp only[gL,cH (dE.left ha),cH (dE.right ha),he,hp id (kF hid (by simp)),hid,hkv];exact⟨h.1,hk⟩⟩
    ·exact h.elim
   ·exact h.elim
  ·exact h.elim
 case pick c x y=>
  split at h
  ·rename_i b hb
   cases b with
   |true=>exact⟨_,h,fun st' ha _ k' K' hk=>by simp only[gL,cH (dE.left ha),hb];exact(show (k' (st'.ev x) st'.h).holds P G K' by rw[cH (dE.left (dE.right ha))];exact hk)⟩
   |false=>exact⟨_,h,fun st' ha _ k' K' hk=>by simp only[gL,cH (dE.left ha),hb];exact(show (k' (st'.ev y) st'.h).holds P G K' by rw[cH (dE.right (dE.right ha))];exact hk)⟩
  ·exact h.elim
 case build z ps=>
  split at h
  ·rename_i cs hcs
   exact⟨_,h,fun st' ha _ k' K' hk=>by simp only[gL,qR ha,hcs];exact hk⟩
  ·exact h.elim
 case load n x=>
  split at h
  ·rename_i id off he
   split at h
   ·rename_i vs hb
    obtain⟨h1,h2⟩:=cE h;exact⟨_,h2,fun st' ha hp k' K' hk=>by simp only[gL,cH ha,he,hp id (kF hb (by simp)),hb];exact eP h1 hk⟩
   ·rename_i j b0 hb
    split at h
    ·rename_i vs hb2
     obtain⟨h1,h2⟩:=cE h;exact⟨_,h2,fun st' ha hp k' K' hk=>by simp only[gL,cH ha,he,hp id (kF hb (by simp)),hb,hp j (kF hb2 (by simp)),hb2];exact eP h1 hk⟩
    ·exact h.elim
   ·exact h.elim
  ·rename_i id sz e off he
   split at h
   ·rename_i sz' m f hb
    obtain⟨h0,h⟩:=h;obtain⟨h1,h2⟩:=cE h;exact⟨_,h2,fun st' ha hp k' K' hk=>by simp only[gL,cH ha,he,hp id (kF hb (by simp)),hb];exact⟨h0,eP h1 hk⟩⟩
   ·rename_i ty sz' m e0 vs f hb
    obtain⟨h0,h⟩:=h;obtain⟨h1,h2⟩:=cE h;exact⟨_,h2,fun st' ha hp k' K' hk=>by simp only[gL,cH ha,he,hp id (kF hb (by simp)),hb];exact⟨h0,eP h1 hk⟩⟩
   ·exact h.elim
  ·rename_i sz m f e off he
   obtain⟨h1,h2⟩:=cE h;exact⟨_,h2,fun st' ha hp k' K' hk=>by simp only[gL,cH ha,he];exact eP h1 hk⟩
  ·exact h.elim
 case bin op x y=>
  split at h
  ·rename_i i a j b hx hy
   obtain⟨h1,h2⟩:=cE h;obtain⟨v,q1,q2⟩:=aBU h2;exact⟨_,q1,fun st' ha _ k' K' hk=>by simp only[gL,cH (dE.left ha),cH (dE.right ha),hx,hy];exact eP h1 (q2 _ _ hk)⟩
  ·rename_i a b hx hy
   obtain⟨v,q1,q2⟩:=aBT h;exact⟨_,q1,fun st' ha _ k' K' hk=>by simp only[gL,cH (dE.left ha),cH (dE.right ha),hx,hy];exact q2 _ _ hk⟩
  ·exact h.elim
 case binb op x y=>
  split at h
  ·rename_i a b hx hy
   obtain⟨v,q1,q2⟩:=aBV h;exact⟨_,q1,fun st' ha _ k' K' hk=>by simp only[gL,cH (dE.left ha),cH (dE.right ha),hx,hy];exact q2 _ _ hk⟩
  ·exact h.elim
 case eqs neg l x y=>
  split at h
  ·rename_i xs ys hx hy
   obtain⟨b,q1,q2⟩:=uX h;exact⟨_,q1,fun st' ha _ k' K' hk=>by simp only[gL,cH (dE.left ha),cH (dE.right ha),hx,hy];exact q2 _ _ hk⟩
  ·exact h.elim
 case slc sz x lo hi=>
  split at h
  ·rename_i he
   obtain⟨h1,h2⟩:=cE h;obtain⟨n,q1,q2⟩:=oH h2;obtain⟨m,q3,q4⟩:=oH q1;exact⟨_,q3.2,fun st' ha _ k' K' hk=>by simp only[gL,cH (dE.left ha),he];exact eP h1 (q2 st' (dE.right (dE.right ha)) _ _ (q4 st' (dE.left (dE.right ha)) _ _ ⟨q3.1,hk⟩))⟩
  ·rename_i he
   obtain⟨h1,h2⟩:=cE h;obtain⟨n,q1,q2⟩:=oH h2;obtain⟨m,q3,q4⟩:=oH q1;exact⟨_,q3.2,fun st' ha _ k' K' hk=>by simp only[gL,cH (dE.left ha),he];exact eP h1 (q2 st' (dE.right (dE.right ha)) _ _ (q4 st' (dE.left (dE.right ha)) _ _ ⟨q3.1,hk⟩))⟩
  ·rename_i he
   obtain⟨n,q1,q2⟩:=oH h;obtain⟨m,q3,q4⟩:=oH q1;exact⟨_,q3.2,fun st' ha _ k' K' hk=>by simp only[gL,cH (dE.left ha),he];exact q2 st' (dE.right (dE.right ha)) _ _ (q4 st' (dE.left (dE.right ha)) _ _ ⟨q3.1,hk⟩)⟩
  ·exact h.elim
 case slcS x lo hi=>
  split at h
  ·rename_i he
   obtain⟨n,q1,q2⟩:=oH h;obtain⟨m,q3,q4⟩:=oH q1;exact⟨_,q3.2,fun st' ha _ k' K' hk=>by simp only[gL,cH (dE.left ha),he];exact q2 st' (dE.right (dE.right ha)) _ _ (q4 st' (dE.left (dE.right ha)) _ _ ⟨q3.1,hk⟩)⟩
  ·exact h.elim
 case not x=>
  split at h
  ·rename_i he
   exact⟨_,h,fun st' ha _ k' K' hk=>by simp only[gL,cH ha,he];exact hk⟩
  ·exact h.elim
 case neg x=>
  split at h
  ·rename_i he
   exact⟨_,h.2,fun st' ha _ k' K' hk=>by simp only[gL,cH ha,he];exact⟨h.1,hk⟩⟩
  ·exact h.elim
 case faddr off x=>
  split at h
  ·rename_i he
   exact⟨_,h,fun st' ha _ k' K' hk=>by simp only[gL,cH ha,he];exact hk⟩
  ·rename_i he
   exact⟨_,h,fun st' ha _ k' K' hk=>by simp only[gL,cH ha,he];exact hk⟩
  ·rename_i he
   exact⟨_,h,fun st' ha _ k' K' hk=>by simp only[gL,cH ha,he];exact hk⟩
  ·exact h.elim
 case fld off n x=>
  split at h
  ·rename_i he
   obtain⟨h1,h2⟩:=cE h;exact⟨_,h2,fun st' ha _ k' K' hk=>by simp only[gL,cH ha,he];exact eP h1 hk⟩
  ·exact h.elim
 case idxA sz x i=>
  split at h
  ·rename_i hi
   split at h
   ·rename_i he
    obtain⟨h1,h2⟩:=cE h;exact⟨_,h2.2,fun st' ha _ k' K' hk=>by simp only[gL,cH (dE.left ha),cH (dE.right ha),hi,he];exact eP h1 ⟨h2.1,hk⟩⟩
   ·rename_i he
    obtain⟨h1,h2⟩:=cE h;exact⟨_,h2.2,fun st' ha _ k' K' hk=>by simp only[gL,cH (dE.left ha),cH (dE.right ha),hi,he];exact eP h1 ⟨h2.1,hk⟩⟩
   ·exact h.elim
  ·exact h.elim
 case idxS x i=>
  split at h
  ·rename_i hi
   split at h
   ·rename_i he
    exact⟨_,h.2,fun st' ha _ k' K' hk=>by simp only[gL,cH (dE.left ha),cH (dE.right ha),hi,he];exact⟨h.1,hk⟩⟩
   ·exact h.elim
  ·exact h.elim
 case extr x i=>
  split at h
  ·rename_i he
   obtain⟨h1,h2⟩:=cE h;exact⟨_,h2,fun st' ha _ k' K' hk=>by simp only[gL,cH ha,he];exact eP h1 hk⟩
  ·exact h.elim
 case call f xs=>
  obtain⟨v,q1,q2⟩:=aAC hext h;exact⟨v,q1,fun st' ha _ k' K' hk=>by simp only[gL,tT ha];exact q2 _ _ _ hk⟩
 case len x=>
  split at h
  ·rename_i he
   exact⟨_,h,fun st' ha _ k' K' hk=>by simp only[gL,cH ha,he];exact hk⟩
  ·rename_i he
   exact⟨_,h,fun st' ha _ k' K' hk=>by simp only[gL,cH ha,he];exact hk⟩
  ·rename_i he
   exact⟨_,h,fun st' ha _ k' K' hk=>by simp only[gL,cH ha,he];exact hk⟩
  ·exact h.elim
 case lenS x=>
  split at h
  ·rename_i he
   exact⟨_,h,fun st' ha _ k' K' hk=>by simp only[gL,cH ha,he];exact hk⟩
  ·exact h.elim
 case min x y=>
  split at h
  ·rename_i hx hy
   exact⟨_,h,fun st' ha _ k' K' hk=>by simp only[gL,cH (dE.left ha),cH (dE.right ha),hx,hy];exact hk⟩
  ·exact h.elim
 case max x y=>
  split at h
  ·rename_i hx hy
   exact⟨_,h,fun st' ha _ k' K' hk=>by simp only[gL,cH (dE.left ha),cH (dE.right ha),hx,hy];exact hk⟩
  ·exact h.elim
end
section
variable {P:Program} {G:Nat→Option Obj}
theorem OP{α:Type}{d v:α}:∀ {l:List α} {j:Nat},bN d l j=v→upd v l j=l
 |[],_,_=>rfl
 |_::_,0,h=>by simp only[bN]at h;simp[upd,h]
 |_::r,j+1,h=>by simp only[bN]at h;simp[upd,OP (l:=r) h]
def mP(st:St):Option (Nat×Bool)→Option Bool
 |none=>some true
 |some (j,want)=>match bN (.c .top) st.t j with
  |.c (.p (.b x))=>some (x==want)
  |.t []=>some false
  |_=>none
def yL(P:Program)(G:Nat→Option Obj)(ext:Ext)(ai:AI)(s s1:St):Prop:=
 (mP s ai.guard=some false∧s1=⟨oP s.t ai.dst (.t []),s.h⟩) ∨
 (mP s ai.guard=some true∧∃v,s1=⟨oP s.t ai.dst v,s.h⟩∧aGH P G (jE ext) s ai.op v) ∨
 (mP s ai.guard=some true∧∃x mk,xS s ai.op=some (x,mk)∧s1=⟨oP s.t ai.dst (mk (fK s.h)),iF x s.h⟩)
theorem LV{ext:Ext}(hext:bO P G ext){ai:AI}(hd:ai.op.hd=true){s:St}{k:St→Tr}{K:X→St→Prop}(hg:mP s ai.guard=some true)
  (h:(gL (jE ext) s (fun v h'=>k ⟨oP s.t ai.dst v,h'⟩) ai.op).holds P G K):∃s1,(k s1).holds P G K∧yL P G ext ai s s1:=by
 cases hn:ai.op.nw with
 |true=>
  obtain⟨x,mk,h1,h2⟩:=XX hn h;exact⟨_,h2,.inr (.inr ⟨hg,x,mk,h1,rfl⟩)⟩
 |false=>
  obtain⟨v,h1,h2⟩:=aHT hext hd hn h;exact⟨_,h1,.inr (.inl ⟨hg,v,rfl,h2⟩)⟩
theorem DI{ext:Ext}(hext:bO P G ext){k:St→Tr}{K:X→St→Prop}:∀(l:List AI) (s:St),(∀ai∈l,ai.op.hd=true)→(nB (jE ext) l s k).holds P G K →
  ∃S:Nat→St,S 0=s∧(k (S l.length)).holds P G K∧∀i ai,l[i]?=some ai→yL P G ext ai (S i) (S (i+1))
 |[],s,_,h=>⟨fun _=>s,rfl,h,fun i ai hi=>by simp at hi⟩
 |ai::l,s,hd,h=>by
  have key:∃s1,(nB (jE ext) l s1 k).holds P G K∧yL P G ext ai s s1:=by
   have hai:=hd ai (by simp)
   simp only[nB]at h;cases hg:ai.guard with
   |none=>
    rw[hg]at h;exact LV hext hai (k:=fun s'=>nB (jE ext) l s' k) (by rw[hg];rfl) h
   |some jw=>
    obtain⟨j,want⟩:=jw;rw[hg]at h;dsimp only at h;split at h
    ·rename_i x hx
     have hgw:mP s ai.guard=some (x==want):=by rw[hg];simp only[mP,hx]
     have e:∀b,x=b→upd (.c (.p (.b b))) s.t j=s.t:=fun b hb=>OP (d:=.c .top) (by rw[hx,hb])
     cases want<;>cases x
     ·refine LV hext hai (k:=fun s'=>nB (jE ext) l s' k) hgw ?_
      have h:(gL (jE ext) ⟨upd (.c (.p (.b false))) s.t j,s.h⟩ (fun v h=>nB (jE ext) l ⟨oP (upd (.c (.p (.b false))) s.t j) ai.dst v,h⟩ k) ai.op).holds P G K:=h
      rw[e false rfl]at h;exact h
     ·have h:(nB (jE ext) l ⟨oP (upd (.c (.p (.b true))) s.t j) ai.dst (.t []),s.h⟩ k).holds P G K:=h
      rw[e true rfl]at h;exact⟨_,h,.inl ⟨hgw,rfl⟩⟩
     ·have h:(nB (jE ext) l ⟨oP (upd (.c (.p (.b false))) s.t j) ai.dst (.t []),s.h⟩ k).holds P G K:=h
      rw[e false rfl]at h;exact⟨_,h,.inl ⟨hgw,rfl⟩⟩
     ·refine LV hext hai (k:=fun s'=>nB (jE ext) l s' k) hgw ?_
      have h:(gL (jE ext) ⟨upd (.c (.p (.b true))) s.t j,s.h⟩ (fun v h=>nB (jE ext) l ⟨oP (upd (.c (.p (.b true))) s.t j) ai.dst v,h⟩ k) ai.op).holds P G K:=h
      rw[e true rfl]at h;exact h
    ·rename_i hx
     exact⟨_,h,.inl ⟨by rw[hg];simp only[mP,hx],rfl⟩⟩
    ·exact h.elim
  obtain⟨s1,h1,h2⟩:=key;obtain⟨S,q1,q2,q3⟩:=DI hext l s1 (fun ai hai=>hd ai (by simp[hai])) h1;refine⟨fun i=>match i with|0=>s|i+1=>S i,rfl,q2,fun i ai' hi=>?_⟩;cases i with
  |zero=>simp at hi;subst hi;dsimp only;rw[q1];exact h2
  |succ i=>exact q3 i ai' (by simpa using hi)
theorem oZ{α:Type}{f:Nat→α→Bool}:∀ {l:List α} {k:Nat},qB f k l=true→∀i x,l[i]?=some x→f (k+i) x=true
 |y::r,k,h,0,x,hx=>by
  simp only[qB,aY]at h;simp at hx;subst hx;exact h.1
 |y::r,k,h,i+1,x,hx=>by
  simp only[qB,aY]at h
  have:=oZ h.2 i x (by simpa using hx)
  rwa [show k+1+i=k+(i+1) by omega]at this
theorem ZM{α:Type}{f:α→Bool}:∀ {l:List α},aC1 f l=true→∀x∈l,f x=true
 |y::r,h,x,hx=>by
  simp only[aC1,aY]at h
  rcases dZ.1 hx with rfl|hx
  ·exact h.1
  ·exact ZM h.2 x hx
theorem vE{α:Type}{f:α→Bool}:∀ {l:List α},IL f l=true→∃x∈l,f x=true
 |y::r,h=>by
  simp only[IL,eH]at h
  rcases h with h|h
  ·exact⟨y,by simp,h⟩
  ·obtain⟨x,h1,h2⟩:=vE h;exact⟨x,by simp[h1],h2⟩
theorem rD{ops:Array Oper}{i j:Nat}{o:Oper}(ho:ops[i]?=some o)(h:tC o j=true):dF .any ops i j=true:=by
 obtain⟨e,he,h2⟩:=vE h;simp only[aY]at h2;unfold dF;simp only[ho];exact Array.any_eq_true'.2 ⟨e,by simpa using he,by simp[h2.1,aH h2.2]⟩
theorem oI{s:Nat}:∀ {l:List Nat},s∈l→qA s l=true
 |x::r,h=>by
  simp only[qA,eH]
  rcases dZ.1 h with rfl|h
  ·exact .inl (by simp)
  ·exact .inr (oI h)
structure RegB (ops:Array Oper) (al:List AI) (n:Nat):Prop where
 back:∀i o,ops[i]?=some o→∀e∈o.after,eO .any e=true→e.on<i
 hd:∀i ai,al[i]?=some ai→i<n→ai.op.hd=true
 dst:∀i j x y d,al[i]?=some x→al[j]?=some y→i<n→j<n→i≠j→x.dst=some d→y.dst≠some d
 dep:∀i j x y d,al[i]?=some x→al[j]?=some y→i<n→j<n→y.dst=some d→d∈x.sls→dF .any ops i j=true∨dF .any ops j i=true
structure LK (ops:Array Oper) (al:List AI) (n:Nat):Prop extends RegB ops al n where
 tl:ops.size≤n∨(Region.sinkB .any ops n=true∧Region.chainB .any ops n=true)
theorem OU{ops:Array Oper}{i:Nat}{o:Oper}(ho:o∈(ops.toList.drop i).take 1):ops[i]?=some o:=by
 rw[List.mem_iff_getElem?]at ho;obtain⟨q,hq⟩:=ho;rw[gD]at hq;split at hq
 ·have:q=0:=by omega
  subst this;simpa using hq
 ·cases hq
theorem aD5{ops:Array Oper}{al:List AI}{n:Nat}(h:PF ops.toList al n=true):LK ops al n:=by
 unfold PF at h;simp only[aY]at h;obtain⟨h1,h2,h3,h4,h5⟩:=h;refine⟨⟨?_,?_,?_,?_⟩,?_⟩
 ·intro i o ho e he hb
  have:=ZM (oZ h1 i o (by simpa using ho)) e (by simpa using he)
  simpa[hb] using this
 ·intro i ai hi hn
  have:=oZ h2 i ai hi
  simp only[eH,fU]at this
  rcases this with h|h
  ·omega
  ·exact h
 ·intro i j x y d hx hy hi hj hij hd hd'
  have:=oZ h3 i x hx
  simp only[eH,fU]at this
  rcases this with h|h
  ·omega
  ·have:=oZ h j y hy
   simp only[eH,fU,hd,hd',eqD]at this
   rcases this with h|h|h
   ·omega
   ·have:=aH h;omega
   ·simp at h
 ·intro i j x y d hx hy hi hj hd hs
  have:=oZ h4 i x hx
  simp only[eH,fU]at this
  rcases this with h|h
  ·omega
  ·have:=oZ h j y hy
   simp only[eH,fU,hd,inD]at this
   rcases this with h|h|h|h
   ·omega
   ·rw[oI hs]at h;cases h
   ·obtain⟨o,ho,hw⟩:=vE h
    rw[dV]at hw ho;exact .inl (rD (OU ho) hw)
   ·obtain⟨o,ho,hw⟩:=vE h
    rw[dV]at hw ho;exact .inr (rD (OU ho) hw)
 ·simp only[eH,fU,aY,fH]at h5
  rcases h5 with h|⟨h6,h7⟩
  ·exact .inl (by simpa using h)
  ·rcases cK n ops.size with hns|hns
   case inr=>exact .inl hns
   refine .inr ⟨?_,?_⟩
   ·unfold Region.sinkB
    rw[List.all_eq_true];intro i hi
    have hi:=List.mem_range.1 hi
    rw[List.any_eq_true]
    have his:i<ops.size:=by omega
    have:=oZ h6 i ops[i] (by simp[his])
    simp only[eH,fU,dV]at this
    rcases this with h|h
    ·omega
    ·obtain⟨o,ho,hw⟩:=vE h
     rw[List.mem_iff_getElem?]at ho;obtain⟨q,hq⟩:=ho;rw[gD]at hq;split at hq
     ·rw[gS]at hq
      refine⟨i+1+q,List.mem_range.2 (by omega),?_⟩;simp only[aY,decide_eq_true_eq];exact⟨by omega,rD (by simpa using hq) hw⟩
     ·cases hq
   ·unfold Region.chainB
    rw[List.all_eq_true];intro t ht
    have ht:=List.mem_range.1 ht
    have:=oZ h7 t ops[t] (by simp[ht])
    simp only[eH,fU,dV,decide_eq_true_eq]at this ⊢;exact this.imp id (fun h=>rD (by simp[ht]) h)
end
section
variable {P:Program} {G:Nat→Option Obj} {ops:Array Oper} {al:List AI} {n:Nat} {S:Nat→St} {ext:Ext}
structure Run (P:Program) (G:Nat→Option Obj) (ext:Ext) (al:List AI) (n:Nat) (S:Nat→St):Prop where
 len:n≤al.length
 step:∀i ai,i<n→al[i]?=some ai→yL P G ext ai (S i) (S (i+1))
theorem PI(t:List V)(d:Option Nat)(v:V):(oP t d v).length=t.length:=by
 cases d with
 |none=>rfl
 |some d=>show (upd v t d).length=_;rw[jB,List.length_set]
theorem TN{t:List V}{d:Option Nat}{v:V}{s:Nat}(h:d≠some s):bN (.c .top) (oP t d v) s=bN (.c .top) t s:=by
 cases d with
 |none=>rfl
 |some d=>exact fC _ _ _ (fun e=>h (by rw[e]))
theorem yL.t_{ai:AI}{s s1:St}(h:yL P G ext ai s s1):∃v,s1.t=oP s.t ai.dst v:=by
 rcases h with⟨_,rfl⟩|⟨_,v,rfl,_⟩|⟨_,x,mk,_,rfl⟩<;>exact⟨_,rfl⟩
theorem yL.h_{ai:AI}{s s1:St}(h:yL P G ext ai s s1):s1.h=s.h∨∃x,s1.h=iF x s.h:=by
 rcases h with⟨_,rfl⟩|⟨_,v,rfl,_⟩|⟨_,x,mk,_,rfl⟩
 ·exact .inl rfl
 ·exact .inl rfl
 ·exact .inr ⟨x,rfl⟩
theorem qF{α:Type}(x:α)(l:List α):(iF x l).length=l.length+1:=by rw[mM];simp
theorem Run.one(h:Run P G ext al n S){i:Nat}(hi:i<n):∃ai,al[i]?=some ai∧yL P G ext ai (S i) (S (i+1)):=
 ⟨al[i]'(cI hi h.len),aN _,h.step i _ hi (aN _)⟩
theorem Run.mono(h:Run P G ext al n S){i:Nat}:∀(d:Nat),i+d≤n→(S (i+d)).t.length=(S i).t.length∧(S i).h.length≤(S (i+d)).h.length ∧
  (∀id,id<(S i).h.length→bN .gone (S (i+d)).h id=bN .gone (S i).h id) ∧
  ∀s,(∀l ai,i≤l→l<i+d→al[l]?=some ai→ai.dst≠some s)→bN (.c .top) (S (i+d)).t s=bN (.c .top) (S i).t s
 |0,_=>⟨rfl,aU _,fun _ _=>rfl,fun _ _=>rfl⟩
 |d+1,hd=>by
  obtain⟨h1,h2,h3,h4⟩:=h.mono (i:=i) d (by omega);obtain⟨ai,ha,hs⟩:=h.one (i:=i+d) (by omega);obtain⟨v,hv⟩:=hs.t_;rw[←Nat.add_assoc];refine⟨by rw[hv,PI,h1],?_,?_,?_⟩
  ·rcases hs.h_ with e|⟨x,e⟩<;>rw[e]
   ·exact h2
   ·rw[qF];omega
  ·intro id hid
   rw[←h3 id hid]
   rcases hs.h_ with e|⟨x,e⟩<;>rw[e]
   exact hX _ _ _ (by omega)
  ·intro s hs'
   rw[hv,TN (hs' (i+d) ai (by omega) (by omega) ha)]
   exact h4 s fun l aj h5 h6 h7=>hs' l aj h5 (by omega) h7
theorem Run.le(h:Run P G ext al n S){i j:Nat}(hij:i≤j)(hj:j≤n):(S j).t.length=(S i).t.length∧(S i).h.length≤(S j).h.length ∧
  (∀id,id<(S i).h.length→bN .gone (S j).h id=bN .gone (S i).h id) ∧
  ∀s,(∀l ai,i≤l→l<j→al[l]?=some ai→ai.dst≠some s)→bN (.c .top) (S j).t s=bN (.c .top) (S i).t s:=by
 have:=h.mono (i:=i) (j-i) (by omega)
 rwa [show i+(j-i)=j by omega]at this
structure OL (G:Nat→Option Obj) (al:List AI) (n:Nat) (S:Nat→St) (β0:Bt) (R0:Nat→Prop) (w0:World) (listed:Array Bool) (a:Act) (w:World) (β:Bt) (R:Nat→Prop):Prop where
 gr:Gr β0 R0 w0 β R w
 hs:HS G β R w (S n).h
 df:a.defers=[]
 sz:a.tmps.size=(S n).t.length
 sl:∀s u,a.tmps[s]?=some u→(∀i ai,i<n→al[i]?=some ai→listed.getD i false=false→ai.dst≠some s)→VR β R w (bN (.c .top) (S n).t s) u
 fr:∀i,i<n→listed.getD i false=false→∀id,(S i).h.length≤id→id<(S (i+1)).h.length→β id=none
 s0:∀s u,a.tmps[s]?=some u→(∀i ai,i<n→al[i]?=some ai→listed.getD i false=true→ai.dst≠some s)→VR β R w (bN (.c .top) (S 0).t s) u
variable {β0 β β':Bt} {R0 R R':Nat→Prop} {w0 w w':World} {a:Act} {listed:Array Bool}
theorem mR{i j:Nat}(h:(listed.setIfInBounds i true).getD j false=false)(hi:i<listed.size):listed.getD j false=false∧j≠i:=by
 by_cases e:i=j
 ·subst e;simp[hi]at h
 ·rw[getD_set_ne false e]at h;exact⟨h,fun h'=>e h'.symm⟩
theorem OL.next(hr:Run P G ext al n S)(hok:RegB ops al n)(hI:OL G al n S β0 R0 w0 listed a w β R){i:Nat}{ai:AI}(hi:i<n)(hil:i<listed.size)(ha:al[i]?=some ai){v:V}{u:Value}
  (hv:VR β' R' w' v u) (hv':(S (i+1)).t=oP (S i).t ai.dst v) (hs':HS G β' R' w' (S n).h) (hg:Gr β R w β' R' w')
  (hb:∀id,id<(S n).h.length→(id<(S i).h.length∨(S (i+1)).h.length≤id)→β' id=β id):OL G al n S β0 R0 w0 (listed.setIfInBounds i true) (a.put ai.dst u) w' β' R':=by
 refine⟨hI.gr.trans hg,hs',?_,?_,?_,?_,?_⟩
 ·cases ai.dst<;>exact hI.df
 ·cases hd:ai.dst with
  |none=>exact hI.sz
  |some d=>show (a.tmps.setIfInBounds d u).size=_;rw[Array.size_setIfInBounds];exact hI.sz
 ·intro s u' hu hn
  by_cases hd:ai.dst=some s
  ·rw[hd]at hu
   have hu:(a.tmps.setIfInBounds s u)[s]?=some u':=hu
   have hss:s<a.tmps.size:=by
    rcases cK s a.tmps.size with h|h
    ·exact h
    ·rw[Array.getElem?_eq_none (by simpa using h)]at hu;cases hu
   simp[hss]at hu;subst hu
   have h1:=(hr.le (i:=i+1) (j:=n) hi (aU _)).2.2.2 s (fun l aj h1 h2 h3 h4=>hok.dst l i aj ai s h3 ha h2 hi (by omega) h4 hd)
   rw[h1,hv',hd]
   have hl:s<(S i).t.length:=by have:=(hr.le (i:=i) (j:=n) (by omega) (aU _)).1;have:=hI.sz;omega
   show VR β' R' w' (bN (.c .top) (upd v (S i).t s) s) u
   rw[gQ _ _ _ hl];exact hv
  ·have hu':a.tmps[s]?=some u':=by
     cases hq:ai.dst with
     |none=>rw[hq]at hu;exact hu
     |some d=>
      rw[hq]at hu hd
      have hu:(a.tmps.setIfInBounds d u)[s]?=some u':=hu
      rwa [dM (fun e=>hd (by rw[e]))]at hu
   refine VR.keep hg.keeps (hI.sl s u' hu' fun j aj hj hja hjl=>?_)
   by_cases e:j=i
   ·subst e
    rw[ha]at hja;injection hja with hja;subst hja;exact hd
   ·exact hn j aj hj hja (by rw[getD_set_ne false (fun h=>e h.symm)];exact hjl)
 ·intro j hj hjl id h1 h2
  obtain⟨h3,h4⟩:=mR hjl hil
  have h5:=(hr.le (i:=j+1) (j:=n) hj (aU _)).2.1
  rw[hb id (by omega) ?_]
  ·exact hI.fr j hj h3 id h1 h2
  ·rcases cK j i with h|h
   ·have:=(hr.le (i:=j+1) (j:=i) h (by omega)).2.1;left;omega
   ·have:=(hr.le (i:=i+1) (j:=j) (by omega) (by omega)).2.1;right;omega
 ·intro s u' hu hn
  have hd:ai.dst≠some s:=hn i ai hi ha (by simp[hil])
  have hu':a.tmps[s]?=some u':=by
   cases hq:ai.dst with
   |none=>rw[hq]at hu;exact hu
   |some d=>
    rw[hq]at hu hd
    have hu:(a.tmps.setIfInBounds d u)[s]?=some u':=hu
    rwa [dM (fun e=>hd (by rw[e]))]at hu
  refine VR.keep hg.keeps (hI.s0 s u' hu' fun j aj hj hja hjl=>?_)
  by_cases e:j=i
  ·subst e
   rw[ha]at hja;injection hja with hja;subst hja;exact hd
  ·exact hn j aj hj hja (by rw[getD_set_ne false (fun h=>e h.symm)];exact hjl)
theorem All2.of_get{α γ:Type}{q:α→γ→Prop}:∀ {xs:List α} {ys:List γ},xs.length=ys.length→(∀(i:Nat) x y,xs[i]?=some x→ys[i]?=some y→q x y)→All2 q xs ys
 |[],[],_,_=>trivial
 |[],_::_,h,_=>by simp at h
 |_::_,[],h,_=>by simp at h
 |x::xs,y::ys,h,hq=>⟨hq 0 x y rfl rfl,All2.of_get (by simpa using h) fun i x' y' h1 h2=>hq (i+1) x' y' (by simpa using h1) (by simpa using h2)⟩
theorem mJ{st:St}(hs:eC G β R st a w){o:Oper}{ai:AI}(hc:mC ops o.guard=some ai.guard){b:Bool}(hg:mP st ai.guard=some b):eD o (yielded ops a.tmps)=b:=by
 cases hgo:o.guard with
 |none=>
  rw[hgo]at hc;simp only[mC,aD]at hc;rw[←hc]at hg;simp only[mP,aD]at hg;unfold eD;rw[hgo];exact hg
 |some jw=>
  obtain⟨j,want⟩:=jw;rw[hgo]at hc;simp only[mC,aM]at hc;obtain⟨d,hd,hc⟩:=hc;rw[←hc]at hg;simp only[mP]at hg;split at hg
  ·rename_i x hx
   injection hg with hg;rw[←hg];exact wanted_bool hgo hd (hs.tmp_bool hx)
  ·rename_i hx
   injection hg with hg;rw[←hg];exact wanted_undef hgo hd (hs.tmp_undef hx)
  ·cases hg
open Classical in
theorem OL.step(hext:bO P G ext)(hr:Run P G ext al n S)(hok:RegB ops al n){Q:Exit→Act→World→Prop}(hI:OL G al n S β0 R0 w0 listed a w β R){i:Nat}{ai:AI}{o:Oper}(hi:i<n)(hil:i<listed.size)(ha:al[i]?=some ai)(ho:ops[i]?=some o)
  (hc:lE P ops o=some ai) (hun:listed.getD i false=false) (hready:∀e∈o.after,eO .any e=true→listed.getD e.on false=true)
  (hcl:∀j oj,ops[j]?=some oj→listed.getD j false=true→∀e∈oj.after,eO .any e=true→listed.getD e.on false=true) {K:Act→World→Prop}
  (hK:∀a' w' β' R',OL G al n S β0 R0 w0 (listed.setIfInBounds i true) a' w' β' R'→K a' w'):wpOp P ops Q i K a w:=by
 simp only[lE,aE,aB,aK,aD]at hc;obtain⟨aop,hop,g,hgd,rfl⟩:=hc
 let bad:Nat→Prop:=fun s=>∃j aj,j<n∧al[j]?=some aj∧listed.getD j false=false∧aj.dst=some s
 let tM:List V:=(dL (S n).t.length).map fun s=>if bad s then bN (.c .top) (S 0).t s else bN (.c .top) (S n).t s
 have hl0:=(hr.le (i:=0) (j:=n) (bH _) (aU _)).1
 have htM:∀s,¬bad s→bN (.c .top) tM s=bN (.c .top) (S n).t s:=by
  intro s hs;rw[eK,eK,aG,aG]
  rcases cK s (S n).t.length with h|h
  ·simp only[tM,dJ,eM h,dS,if_neg hs,Option.getD_some]
   rw[eK,aG]
  ·rw[bL h,bL (by simpa[tM] using h)]
 have htB:∀s,bad s→bN (.c .top) tM s=bN (.c .top) (S 0).t s:=by
  intro s hs;rw[eK,eK,aG,aG]
  rcases cK s (S n).t.length with h|h
  ·simp only[tM,dJ,eM h,dS,if_pos hs,Option.getD_some]
   rw[eK,aG]
  ·rw[bL (l:=(S 0).t) (by omega),bL (by simpa[tM] using h)]
 have hsim:eC G β R ⟨tM,(S n).h⟩ a w:=by
  refine⟨hI.df,All2.of_get (by simp[tM,hI.sz]) ?_,hI.hs⟩;intro s x y hx hy
  have hy:a.tmps[s]?=some y:=by simpa using hy
  have hsl:s<(S n).t.length:=by
   rcases cK s (S n).t.length with h|h
   ·exact h
   ·have hx:tM[s]?=some x:=hx
    rw[bL (by simpa[tM] using h)]at hx;cases hx
  simp only[tM,dJ,eM hsl,dS,aD]at hx;subst hx;split
  ·rename_i hb
   obtain⟨j,aj,h1,h2,h3,h4⟩:=hb
   refine hI.s0 s y hy fun j' aj' h1' h2' h3' h4'=>?_
   by_cases e:j'=j
   ·subst e;rw[h3]at h3';cases h3'
   ·exact hok.dst j' j aj' aj s h2' h2 h1' h1 e h4' h4
  ·rename_i hb
   exact hI.sl s y hy fun j aj h1 h2 h3 h4=>hb ⟨j,aj,h1,h2,h3,h4⟩
 have hdep:∀s∈AI.sls ⟨o.dst,aop,g⟩,∀j aj,j<n→al[j]?=some aj→aj.dst=some s→(j<i∧listed.getD j false=true)∨(i<j∧listed.getD j false=false):=by
  intro s hs j aj hj hja hd
  rcases hok.dep i j _ aj s ha hja hi hj hd hs with hw|hw
  ·obtain⟨o',ho',e,he,hb,hon⟩:=eZ hw
   rw[ho]at ho';injection ho' with ho';subst ho'
   have h1:=hok.back i o ho e he hb
   have h2:=hready e he hb
   rw[hon]at h1 h2;exact .inl ⟨h1,h2⟩
  ·obtain⟨o',ho',e,he,hb,hon⟩:=eZ hw
   have h1:=hok.back j o' ho' e he hb
   rw[hon]at h1;refine .inr ⟨h1,?_⟩;cases hl:listed.getD j false with
   |false=>rfl
   |true=>
    have:=hcl j o' ho' hl e he hb
    rw[hon,hun]at this;cases this
 have hag:dE (S i) ⟨tM,(S n).h⟩ (AI.sls ⟨o.dst,aop,g⟩):=by
  intro s hs
  show bN (.c .top) tM s=_
  by_cases hb:bad s
  ·rw[htB s hb]
   obtain⟨j,aj,h1,h2,h3,h4⟩:=hb
   have hij:i<j:=by
    rcases hdep s hs j aj h1 h2 h4 with⟨_,h⟩|⟨h,_⟩
    ·rw[h3]at h;cases h
    ·exact h
   exact((hr.le (i:=0) (j:=i) (bH _) (by omega)).2.2.2 s fun l al' _ h5 h6 h7=>hok.dst l j al' aj s h6 h2 (by omega) h1 (by omega) h7 h4).symm
  ·rw[htM s hb]
   exact(hr.le (i:=i) (j:=n) (by omega) (aU _)).2.2.2 s fun l aj h1 h2 h3 h4=>by
     rcases hdep s hs l aj h2 h3 h4 with h|h
     ·omega
     ·exact hb ⟨l,aj,h2,h3,h.2,h4⟩
 have hgw:mP ⟨tM,(S n).h⟩ g=mP (S i) g:=by
  cases g with
  |none=>rfl
  |some jw=>
   obtain⟨j,want⟩:=jw;simp only[mP];rw[hag j (by simp[AI.sls])]
 have hst:=hr.step i _ hi ha
 have hpre:=(hr.le (i:=i) (j:=n) (by omega) (aU _))
 have hag':dE (S i) ⟨tM,(S n).h⟩ aop.sls:=dE.right hag
 unfold wpOp;simp only[ho]
 rcases hst with⟨hw,hS⟩|⟨hw,v,hS,hk⟩|⟨hw,x,mk,hn,hS⟩
 ·have hw':=mJ (o:=o) (ai:=⟨o.dst,aop,g⟩) hsim hgd (hgw.trans hw)
  rw[hw'];simp only[eI,if_false];refine hK _ _ β R (hI.next hr hok hi hil ha qD (by rw[hS]) hI.hs (Gr.refl _ _ _) fun _ _ _=>rfl)
 ·have hw':=mJ (o:=o) (ai:=⟨o.dst,aop,g⟩) hsim hgd (hgw.trans hw)
  rw[hw'];simp only[if_true]
  have h:=hk ⟨tM,(S n).h⟩ hag' hpre.2.2.1 (fun v' h'=>.rq (v'=v∧h'=(S n).h) (.done .normal ⟨tM,(S n).h⟩)) (fun _ _=>True) ⟨⟨rfl,rfl⟩,trivial⟩
  refine .inl ((rH hsim hop (AM hext) h).wp ?_);rintro u w' ⟨β',R',x,h',⟨⟨rfl,rfl⟩,_⟩,r2,r3,r4,r5⟩;exact hK _ _ β' R' (hI.next hr hok hi hil ha r2 (by rw[hS]) r3 r4 fun id hid _=>r5 id hid)
 ·have hw':=mJ (o:=o) (ai:=⟨o.dst,aop,g⟩) hsim hgd (hgw.trans hw)
  rw[hw'];simp only[if_true];left;obtain⟨u,ob,N,h1,h2,h3⟩:=FG hsim hop ((sI hag').trans hn)
  have hl:(S i).h.length<(S (i+1)).h.length:=by rw[hS];show _<(iF x (S i).h).length;rw[qF];omega
  have hl':=(hr.le (i:=i+1) (j:=n) hi (aU _))
  have hid:=hI.fr i hi hun (S i).h.length (aU _) hl
  have hx:bN .gone (S n).h (S i).h.length=x:=by
   rw[hl'.2.2.1 _ hl,hS];exact mF _ _ _
  unfold Oper.wp;rw[h1];refine hK _ _ (bn β (S i).h.length (w.heap.size,N)) R (hI.next hr hok hi hil ha (h3 _ (S i).h.length _ (fN _ _ _)) (by rw[hS,fH]) (GB hI.hs hid (by omega) (by rw[hx];exact h2)) (wQ hI.hs _ hid _ rfl) ?_);intro id _ h5
  exact dN _ (by omega)
end
section
variable {P:Program} {G:Nat→Option Obj} {ops:Array Oper} {al:List AI} {n:Nat} {S:Nat→St} {ext:Ext}
theorem OT{α:Type}:∀(n:Nat) (l:List α),dH n l=l.take n
 |0,_=>by simp[dH]
 |_+1,[]=>by simp[dH]
 |n+1,x::r=>by simp[dH,OT n r]
theorem GO{α:Type}:∀(n:Nat) (l:List α),bJ n l=l.drop n
 |0,_=>by simp[bJ]
 |_+1,[]=>by simp[bJ]
 |n+1,x::r=>by simp[bJ,GO n r]
theorem iM:∀ {l:List Oper} {al:List AI},fZ P ops l=some al→al.length=l.length∧∀(i:Nat) o,l[i]?=some o→∃ai,al[i]?=some ai∧lE P ops o=some ai
 |[],al,h=>by simp only[fZ,aD]at h;subst h;exact⟨rfl,fun i o h=>by simp at h⟩
 |o::l,al,h=>by
  simp only[fZ,aE,aB,aK,aD]at h;obtain⟨ai,h1,al',h2,rfl⟩:=h;obtain⟨h3,h4⟩:=iM h2;refine⟨by simp[h3],fun i o' hi=>?_⟩;cases i with
  |zero=>simp at hi;subst hi;exact⟨ai,rfl,h1⟩
  |succ i=>simpa using h4 i o' (by simpa using hi)
theorem uF:∀ {l:List Oper} {al:List AI} (n:Nat),fZ P ops l=some al→fZ P ops (l.drop n)=some (al.drop n)
 |l,al,0,h=>by simpa using h
 |[],al,n+1,h=>by simp only[fZ,aD]at h;subst h;simp[fZ]
 |o::l,al,n+1,h=>by
  simp only[fZ,aE,aB,aK,aD]at h;obtain⟨ai,h1,al',h2,rfl⟩:=h;simpa using uF n h2
theorem RC{os:List Oper}{al:List AI}:∀ {f m n:Nat},ZB os al f m=some n→PF os al n=true∧n<m+f
 |0,_,_,h=>by cases h
 |f+1,m,n,h=>by
  simp only[ZB]at h;split at h
  ·rename_i hb;injection h with h;subst h;exact⟨(aY _ _▸hb).2,by omega⟩
  ·obtain⟨h1,h2⟩:=RC h;exact⟨h1,by omega⟩
theorem CP{Q:Exit→Act→World→Prop}(hback:∀i o,ops[i]?=some o→∀e∈o.after,eO .any e=true→e.on<i):∀(l:List Oper) (k:Nat) (listed:Array Bool) (a:Act) (w:World),(∀j,l[j]?=ops[k+j]?)→listed.size=ops.size →
  (∀i,i<k→i<ops.size→listed.getD i false=true)→(∀i,k≤i→i<ops.size→listed.getD i true=false)→(∀t,k<t→t<ops.size→dF .any ops t (t-1)=true) →
  wpList P ops Q l a w→wpAny P .any ops Q l.length listed a w
 |[],k,listed,a,w,hl,hs,h1,_,_,h=>by
  refine⟨?_,h⟩
  have hk:ops.size≤k:=by
   have:=hl 0
   simp only[List.getElem?_nil,Nat.add_zero]at this;exact Array.getElem?_eq_none_iff.1 this.symm
  rw[List.eq_nil_iff_forall_not_mem];intro j hj
  obtain⟨q1,oj,q2,_⟩:=mem_ready.1 hj
  have hjs:j<ops.size:=(bF.1 q2).1
  have:=h1 j (by omega) hjs
  rw[getD_both q1]at this;cases this
 |o::l,k,listed,a,w,hl,hs,h1,h2,h3,h=>by
  have h0:ops[k]?=some o:=by simpa using (hl 0).symm
  have hks:k<ops.size:=(bF.1 h0).1
  have hrk:k∈Region.ready .any ops listed:=mem_ready.2 ⟨h2 k (aU _) hks,o,h0,fun e he hb=>by
   have:=hback k o h0 e he hb
   exact h1 e.on this (by omega)⟩
  refine⟨fun h4=>(by rw[h4]at hrk;cases hrk),fun i hi=>?_⟩;obtain⟨q1,oi,q2,q3⟩:=mem_ready.1 hi
  have his:i<ops.size:=(bF.1 q2).1
  have hik:i=k:=by
   rcases Nat.lt_trichotomy i k with h4|h4|h4
   ·have:=h1 i h4 his;rw[getD_both q1]at this;cases this
   ·exact h4
   ·obtain⟨o',ho',e,he,hb,hon⟩:=eZ (h3 i h4 his)
    rw[q2]at ho';injection ho' with ho';subst ho'
    have:=q3 e he hb
    rw[hon,getD_both (h2 (i-1) (by omega) (by omega))]at this;cases this
  subst hik
  have hw:wpOp P ops Q i (wpList P ops Q l) a w:=by unfold wpOp;simp only[h0];exact h
  refine wpOp_mono (fun a' w' h'=>CP hback l (i+1) _ a' w' (fun j=>by have:=hl (j+1);simpa[Nat.add_assoc,Nat.add_comm 1 j] using this) (by simpa using hs) ?_ ?_ (fun t ht hts=>h3 t (by omega) hts) h') hw
  ·intro j hj hjs
   by_cases e:i=j
   ·subst e;simp[hs,hks]
   ·rw[getD_set_ne false e];exact h1 j (by omega) hjs
  ·intro j hj hjs
   rw[getD_set_ne true (by omega)];exact h2 j (by omega) hjs
def cnt(listed:Array Bool):Nat→Nat
 |0=>0
 |n+1=>cnt listed n+(if listed.getD n false=true then 0 else 1)
theorem aG3{listed:Array Bool}{i:Nat}:∀ {n:Nat},n≤i→cnt (listed.setIfInBounds i true) n=cnt listed n
 |0,_=>rfl
 |n+1,h=>by rw[cnt,cnt,aG3 (by omega),getD_set_ne false (by omega)]
theorem cnt_set{listed:Array Bool}{i:Nat}(hi:i<listed.size)(hun:listed.getD i false=false):∀ {n:Nat},i<n→cnt (listed.setIfInBounds i true) n+1=cnt listed n
 |n+1,h=>by
  rw[cnt,cnt]
  by_cases e:i=n
  ·subst e
   rw[aG3 (aU _),hun];simp[hi]
  ·have:=cnt_set hi hun (n:=n) (by omega)
   rw[getD_set_ne false e];omega
theorem cnt_zero{listed:Array Bool}:∀ {n:Nat},cnt listed n=0→∀i,i<n→listed.getD i false=true
 |n+1,h,i,hi=>by
  rw[cnt]at h
  by_cases e:i=n
  ·subst e
   by_cases hl:listed.getD i false=true
   ·exact hl
   ·rw[if_neg hl]at h;omega
  ·exact cnt_zero (n:=n) (by omega) i (by omega)
theorem cnt_pos{listed:Array Bool}:∀ {n:Nat},0<cnt listed n→∃i,i<n∧listed.getD i false=false∧∀j,j<i→listed.getD j false=true
 |n+1,h=>by
  by_cases h0:0<cnt listed n
  ·obtain⟨i,h1,h2,h3⟩:=cnt_pos h0;exact⟨i,by omega,h2,h3⟩
  ·rw[cnt]at h
   refine⟨n,by omega,?_,cnt_zero (by omega)⟩
   by_cases hl:listed.getD n false=true
   ·rw[if_pos hl]at h;omega
   ·simpa using hl
variable {β0:Bt} {R0:Nat→Prop} {w0:World}
theorem aF8(hext:bO P G ext)(hr:Run P G ext al n S)(hok:LK ops al n)(hal:fZ P ops ops.toList=some al){Q:Exit→Act→World→Prop}
  (hT:∀a w β R,eC G β R (S n) a w→Gr β0 R0 w0 β R w→wpList P ops Q (ops.toList.drop n) a w) :
  ∀(f:Nat) (listed:Array Bool) (a:Act) (w:World) (β:Bt) (R:Nat→Prop),cnt listed n=f→HeadInv .any ops n listed→OL G al n S β0 R0 w0 listed a w β R→wpAny P .any ops Q (f+(ops.size-n)) listed a w:=by
 have hlen:al.length=ops.size:=by simpa using (iM hal).1
 have hns:n≤ops.size:=by have:=hr.len;omega
 intro f;induction f with
 |zero=>
  intro listed a w β R hc inv hI
  have hall:=cnt_zero hc
  rw[dV]
  have hsim:eC G β R (S n) a w:=by
   refine⟨hI.df,All2.of_get (by simp[hI.sz]) ?_,hI.hs⟩;intro s x y hx hy
   have h1:=hI.sl s y (by simpa using hy) fun i ai hi _ hl=>by rw[hall i hi]at hl;cases hl
   rw[eK,aG,hx]at h1;exact h1
  have:=CP hok.back (ops.toList.drop n) n listed a w (fun j=>by simp[gS]) inv.size (fun i hi _=>hall i hi) inv.tail ?_ (hT a w β R hsim hI.gr)
  ·simpa using this
  ·intro t ht hts
   rcases hok.tl with h|⟨_,h⟩
   ·omega
   ·have:=List.all_eq_true.1 h t (List.mem_range.2 hts)
    simp only[eH,decide_eq_true_eq]at this
    rcases this with h|h
    ·omega
    ·exact h
 |succ f ih=>
  intro listed a w β R hc inv hI;rw[show f+1+(ops.size-n)=(f+(ops.size-n))+1 by omega];obtain⟨i0,hi0,hu0,hb0⟩:=cnt_pos (by omega:0<cnt listed n)
  have hi0s:i0<ops.size:=by omega
  have hr0:i0∈Region.ready .any ops listed:=mem_ready.2 ⟨getD_in (by rw[inv.size];exact hi0s) hu0,ops[i0],by simp[hi0s],fun e he hb=>hb0 e.on (hok.back i0 _ (by simp[hi0s]) e he hb)⟩
  refine⟨fun h=>(by rw[h]at hr0;cases hr0),fun i hi=>?_⟩;obtain⟨q1,o,q2,q3⟩:=mem_ready.1 hi
  have his:i<ops.size:=(bF.1 q2).1
  have hin:i<n:=by
   rcases hok.tl with h|⟨h1,h2⟩
   ·omega
   ·rcases cK i n with h|h
    ·exact h
    ·exact absurd hi (tail_waits h1 h2 (by omega) inv _ i0 rfl hi0 (getD_in (by rw[inv.size];exact hi0s) hu0) i h)
  have hun:=getD_both q1
  have hil:i<listed.size:=by rw[inv.size];exact his
  obtain⟨ai,ha,hco⟩:=(iM hal).2 i o (by simpa using q2)
  exact hI.step hext hr hok.toRegB hin hil ha q2 hco hun q3 inv.closed fun a' w' β' R' hI'=>ih _ a' w' β' R' (by have:=cnt_set hil hun hin;omega) (inv.set hi hin) hI'
theorem eC.drawn{β:Bt}{R:Nat→Prop}{st:St}{a:Act}{w:World}(hs:eC G β R st a w)(k:Nat):eC G β R st a { w with drawn:=k }∧Gr β R w β R { w with drawn:=k }:=by
 have gr:Gr β R w β R { w with drawn:=k }:=⟨⟨rfl,rfl,rfl,aU _,fun _ _=>rfl,fun _ _ _=>rfl,fun _ h=>.inl h,fun _ h=>.inl h⟩,fun _ _ h=>h,fun _ h=>h⟩
 refine⟨⟨hs.df,hs.tm.mono fun _ _=>VR.keep gr.keeps,?_⟩,gr⟩;exact⟨hs.hs.dom,hs.hs.inj,hs.hs.sep,hs.hs.lt,hs.hs.rlt,fun i b o hi=>OR.keep gr.keeps (fun _ _ h=>⟨h,rfl⟩) rfl (hs.hs.obj i b o hi),hs.hs.gl,hs.hs.ql⟩
theorem cnt_all{m n:Nat}(h:n≤m):cnt (fJ m false) n=n:=by
 induction n with
 |zero=>rfl
 |succ n ih=>rw[cnt,ih (by omega),getD_replicate_false];simp
theorem TM(hext:bO P G ext){id:Nat}(hm:P.follows .mixedOrders=true)(hal:fZ P ops ops.toList=some al)(hok:PF ops.toList al n=true)(hn:n≤al.length){st:St}{k:St→Tr}{K:X→St→Prop}
  (h:(nB (jE ext) (al.take n) st k).holds P G K) {Q:Exit→Act→World→Prop} {β:Bt} {R:Nat→Prop} {a:Act} {w:World} (hs:eC G β R st a w)
  (hT:∀st' a' w' β' R',(k st').holds P G K→eC G β' R' st' a' w'→Gr β R w β' R' w'→wpList P ops Q (ops.toList.drop n) a' w'):(Code.region id ops true).wp P Q a w:=by
 have hok:=aD5 hok
 have hlen:al.length=ops.size:=by simpa using (iM hal).1
 obtain⟨S,h0,hk,hst⟩:=DI hext (al.take n) st (fun ai hai=>by
  obtain⟨i,hi⟩:=List.mem_iff_getElem?.1 hai;rw[gD]at hi;split at hi
  ·rename_i hin;exact hok.hd i ai hi hin
  ·cases hi) h
 rw[List.length_take,Nat.min_eq_left hn]at hk
 have hr:Run P G ext al n S:=⟨hn,fun i ai hi ha=>hst i ai (by rw[gD,if_pos hi];exact ha)⟩
 refine wp_region_any hm ?_;obtain⟨hs',hg⟩:=hs.drawn (w.drawn+1)
 have hle:=hr.le (i:=0) (j:=n) (bH _) (aU _)
 have key:=aF8 (β0:=β) (R0:=R) (w0:=w) hext hr hok hal (Q:=Q) (fun a' w' β' R' h1 h2=>hT (S n) a' w' β' R' hk h1 h2) n (fJ ops.size false) a { w with drawn:=w.drawn+1 } β R
  (cnt_all (by omega)) ⟨by simp,fun j oj _ hl=>(by rw[getD_replicate_false]at hl;cases hl),fun t _ ht=>getD_in (by simpa using ht) (getD_replicate_false _ _)⟩ ?_
 ·rwa [show n+(ops.size-n)=ops.size by omega]at key
 ·rw[h0]at hle
  refine⟨hg,?_,hs.df,?_,?_,?_,?_⟩
  ·have hb:∀i x,β i=some x→bN .gone (S n).h i=bN .gone st.h i:=fun i x hi=>hle.2.2.1 i (hs'.hs.dom i x hi)
   refine⟨fun i x hi=>cI (hs'.hs.dom i x hi) hle.2.1,?_,?_,hs'.hs.lt,hs'.hs.rlt,?_,hs'.hs.gl,fun b ad hq=>⟨(hs'.hs.ql b ad hq).1,(hs'.hs.ql b ad hq).2.1,fun i o hi=>by rw[hb i _ hi];exact(hs'.hs.ql b ad hq).2.2 i o hi⟩⟩
   ·intro i j b o o' hi hj li lj
    rw[hb i _ hi]at li;rw[hb j _ hj]at lj;exact hs'.hs.inj i j b o o' hi hj li lj
   ·intro i b o hi li
    rw[hb i _ hi]at li;exact hs'.hs.sep i b o hi li
   ·intro i b o hi
    rw[hb i _ hi];exact hs'.hs.obj i b o hi
  ·have:=hs.tm.length;simp at this;omega
  ·intro s u hu hnd
   rw[hle.2.2.2 s fun l ai _ hl ha=>hnd l ai hl ha (getD_replicate_false _ _)]
   have hv:=aR (x:=.tmp s) hs' rfl
   have e:a.eval (.tmp s)=u:=by show a.tmps.getD s undef=u;simp[hu]
   rw[e]at hv;exact hv
  ·intro i hi _ id h1 h2
   cases hb:β id with
   |none=>rfl
   |some x=>
    have h3:=hs.hs.dom id x hb
    have:=(hr.le (i:=0) (j:=i) (bH _) (by omega)).2.1
    rw[h0]at this;omega
  ·intro s u hu _
   rw[h0]
   have hv:=aR (x:=.tmp s) hs' rfl
   have e:a.eval (.tmp s)=u:=by show a.tmps.getD s undef=u;simp[hu]
   rw[e]at hv;exact hv
end
section
variable {P:Program} {G:Nat→Option Obj} {ops:Array Oper} {al:List AI} {n:Nat} {S:Nat→St} {ext:Ext}
variable {β0 β β':Bt} {R0 R R':Nat→Prop} {w0 w w':World} {a:Act} {listed:Array Bool}
theorem FB{α:Type}{d v:α}{l:List α}{j:Nat}(h:bN d l j=v)(hv:v≠d):l[j]?=some v:=by
 rw[eK,aG]at h;cases hl:l[j]? with
 |none=>rw[hl]at h;exact absurd h.symm hv
 |some x=>rw[hl]at h;rw[←h];rfl
theorem ZL{α:Type}{f:Nat→α→Bool}:∀ {l:List α} {k:Nat},aK2 f k l=true→∃i x,l[i]?=some x∧f (k+i) x=true
 |x::r,k,h=>by
  simp only[aK2,eH]at h
  rcases h with h|h
  ·exact⟨0,x,rfl,h⟩
  ·obtain⟨i,y,h1,h2⟩:=ZL h
   exact⟨i+1,y,by simpa using h1,by rw[show k+(i+1)=k+1+i by omega];exact h2⟩
theorem aPJ{α:Type}{l:List α}{i:Nat}{x:α}(h:x∈(l.drop i).take 1):l[i]?=some x:=by
 rw[List.mem_iff_getElem?]at h;obtain⟨q,hq⟩:=h;rw[gD]at hq;split at hq
 ·have:q=0:=by omega
  subst this;simpa using hq
 ·cases hq
theorem SD{os:List Oper}{n:Nat}:∀ {d j:Nat},d≤n→bN false (chB os n d) j=true→n-d+j=n∨∃j' o,j<j'∧j'≤d∧bN false (chB os n d) j'=true∧os[n-d+j']?=some o∧tC o (n-d+j)=true
 |0,j,_,h=>by
  cases j with
  |zero=>left;omega
  |succ j=>simp[chB,bN]at h
 |d+1,j,hd,h=>by
  cases j with
  |zero=>
   simp only[chB,bN]at h;obtain⟨i,b,h1,h2⟩:=ZL h;simp only[aY,dV]at h2;obtain⟨o,h3,h4⟩:=vE h2.2
   have h3:=aPJ h3
   have hi:i≤d:=by
    have:=(List.getElem?_eq_some_iff.1 h1).1
    have hl:∀d,(chB os n d).length=d+1:=fun d=>by
     induction d with
     |zero=>rfl
     |succ d ih=>simp[chB,ih]
    rw[hl]at this;omega
   right;refine⟨i+1,o,by omega,by omega,?_,?_,?_⟩
   ·simp only[chB,bN]
    rw[eK,aG,h1];exact h2.1
   ·rw[show n-(d+1)+(i+1)=n-d+i by omega];exact h3
   ·rw[Nat.add_zero];exact h4
  |succ j=>
   simp only[chB,bN]at h
   rcases SD (by omega) h with h1|⟨j',o,h1,h2,h3,h4,h5⟩
   ·left;omega
   ·right
    refine⟨j'+1,o,by omega,by omega,by simpa only[chB,bN] using h3,?_,?_⟩
    ·rw[show n-(d+1)+(j'+1)=n-d+j' by omega];exact h4
    ·rw[show n-(d+1)+(j+1)=n-d+j by omega];exact h5
def Ch(ops:Array Oper)(n i:Nat):Prop:=bN false (chB ops.toList n n) i=true
structure aYZ (ops:Array Oper) (al:List AI) (n:Nat):Prop where
 back:∀i o,ops[i]?=some o→∀e∈o.after,eO .any e=true→e.on<i
 hd:∀i ai,al[i]?=some ai→i<n→ai.op.hd=true
 dst:∀i j x y d,al[i]?=some x→al[j]?=some y→i≤n→j≤n→i≠j→x.dst=some d→y.dst≠some d
 dep:∀i j x y d,al[i]?=some x→al[j]?=some y→i≤n→j≤n→y.dst=some d→d∈x.sls→dF .any ops i j=true
 ch:∀i ai,al[i]?=some ai→i<n→Ch ops n i∨(ai.op.ltk=true∧ai.guard=none)
 mid:∃m,al[n]?=some m∧m.op.isApp=true∧m.guard=none∧∃d,m.dst=some d
 tl1:∀i,i≤n→n+1<ops.size→dF .any ops (n+1) i=true
 tl2:∀t,n+1<t→t<ops.size→dF .any ops t (t-1)=true
structure D2 (G:Nat→Option Obj) (al:List AI) (n:Nat) (tF:List V) (hF:List AO) (β0:Bt) (R0:Nat→Prop) (w0:World) (listed:Array Bool) (a:Act) (w:World) (β:Bt) (R:Nat→Prop):Prop where
 gr:Gr β0 R0 w0 β R w
 hs:HS G β R w hF
 df:a.defers=[]
 sz:a.tmps.size=tF.length
 sl:∀s u,a.tmps[s]?=some u→(∀i ai,i<n→al[i]?=some ai→listed.getD i false=false→ai.dst≠some s)→VR β R w (bN (.c .top) tF s) u
open Classical in
theorem D2.mask{tF:List V}{hF:List AO}(hI:D2 G al n tF hF β0 R0 w0 listed a w β R):∃tM,eC G β R ⟨tM,hF⟩ a w∧∀s,(∀i ai,i<n→al[i]?=some ai→listed.getD i false=false→ai.dst≠some s)→bN (.c .top) tM s=bN (.c .top) tF s:=by
 let bad:Nat→Prop:=fun s=>∃j aj,j<n∧al[j]?=some aj∧listed.getD j false=false∧aj.dst=some s
 let tM:List V:=(dL tF.length).map fun s=>if bad s then V.c C.top else bN (.c .top) tF s
 refine⟨tM,⟨hI.df,All2.of_get (by simp[tM,hI.sz]) ?_,hI.hs⟩,?_⟩
 ·intro s x y hx hy
  have hy:a.tmps[s]?=some y:=by simpa using hy
  have hsl:s<tF.length:=by
   rcases cK s tF.length with h|h
   ·exact h
   ·have hx:tM[s]?=some x:=hx
    rw[bL (by simpa[tM] using h)]at hx;cases hx
  simp only[tM,dJ,eM hsl,dS,aD]at hx;subst hx;split
  ·exact trivial
  ·rename_i hb
   exact hI.sl s y hy fun j aj h1 h2 h3 h4=>hb ⟨j,aj,h1,h2,h3,h4⟩
 ·intro s hs
  have hs:¬bad s:=fun⟨j,aj,h1,h2,h3,h4⟩=>hs j aj h1 h2 h3 h4
  rw[eK,eK,aG,aG]
  rcases cK s tF.length with h|h
  ·simp only[tM,dJ,eM h,dS,if_neg hs,Option.getD_some]
   rw[eK,aG]
  ·rw[bL h,bL (by simpa[tM] using h)]
theorem OL.d2(h:OL G al n S β0 R0 w0 listed a w β R):D2 G al n (S n).t (S n).h β0 R0 w0 listed a w β R:=⟨h.gr,h.hs,h.df,h.sz,h.sl⟩
theorem D2.put{tF:List V}{hF hF':List AO}(hI:D2 G al n tF hF β0 R0 w0 listed a w β R){d:Option Nat}{x:V}{u:Value}{tF':List V}{listed':Array Bool}(hv:VR β' R' w' x u)(hs':HS G β' R' w' hF')(hg:Gr β R w β' R' w')
  (hl:tF'.length=tF.length) (h1:∀s,d=some s→s<tF.length→bN (.c .top) tF' s=x) (h2:∀s,d≠some s→bN (.c .top) tF' s=bN (.c .top) tF s)
  (h3:∀i ai,i<n→al[i]?=some ai→listed.getD i false=false→listed'.getD i false=false∨ai.dst=d):D2 G al n tF' hF' β0 R0 w0 listed' (a.put d u) w' β' R':=by
 refine⟨hI.gr.trans hg,hs',?_,?_,?_⟩
 ·cases d<;>exact hI.df
 ·cases d with
  |none=>rw[hl];exact hI.sz
  |some d=>show (a.tmps.setIfInBounds d u).size=_;rw[Array.size_setIfInBounds,hl];exact hI.sz
 ·intro s u' hu hn
  by_cases hd:d=some s
  ·rw[hd]at hu
   have hu:(a.tmps.setIfInBounds s u)[s]?=some u':=hu
   have hss:s<a.tmps.size:=by
    rcases cK s a.tmps.size with h|h
    ·exact h
    ·rw[Array.getElem?_eq_none (by simpa using h)]at hu;cases hu
   simp[hss]at hu;subst hu;rw[h1 s hd (by rw[←hI.sz];exact hss)];exact hv
  ·have hu':a.tmps[s]?=some u':=by
     cases hq:d with
     |none=>rw[hq]at hu;exact hu
     |some d=>
      rw[hq]at hu hd
      have hu:(a.tmps.setIfInBounds d u)[s]?=some u':=hu
      rwa [dM (fun e=>hd (by rw[e]))]at hu
   rw[h2 s hd];refine VR.keep hg.keeps (hI.sl s u' hu' fun j aj hj hja hjl he=>?_)
   rcases h3 j aj hj hja hjl with h|h
   ·exact hn j aj hj hja h he
   ·exact hd (h.symm.trans he)
def AO.kp:AO→Bool
 |.cells .. => true
 |.pin .. => true
 |_=>false
def CK(h h':List AO):Prop:=∀id x,x.kp=true→bN .gone h id=x→bN .gone h' id=x
theorem aJ3{x:AO}(h:x.kp=true):x≠.gone:=by rintro rfl;cases h
theorem aB2{op:rB}(ho:op.ltk=true){t:List V}{h h':List AO}(hl:pN ⟨t,h⟩ op=true)(hc:CK h h'){k:V→List AO→Tr}{K:X→St→Prop}
  (hh:(gL ext ⟨t,h⟩ (fun v _=>k v h') op).holds P G K):(gL ext ⟨t,h'⟩ k op).holds P G K:=by
 cases op<;>simp only[rB.ltk,eI]at ho
 case mv x=>exact hh
 case bin op x y=>exact hh
 case faddr o x=>exact hh
 case idxA sz x i=>exact hh
 case fld o n x=>exact hh
 case load m x=>
  have e:∀y:AX,St.ev ⟨t,h'⟩ y=St.ev ⟨t,h⟩ y:=fun y=>by cases y<;>rfl
  simp only[gL,e]at hh ⊢;simp only[pN]at hl;split at hh
  ·rename_i id off he
   (try rw[he])
   (try dsimp only at hh ⊢)
   split at hh
   ·rename_i ty vs hid
    rw[hc id _ rfl hid];exact hh
   ·rename_i j b0 hid
    rw[hc id _ rfl hid];dsimp only;split at hh
    ·rename_i ty vs hid2
     rw[hc j _ rfl hid2];exact hh
    ·exact hh.elim
   ·exact hh.elim
  ·rename_i he
   simp only[he]at hl;cases hl
  ·rename_i he
   (try rw[he])
   exact hh
  ·exact hh.elim
theorem UF{st st':St}{op:rB}(h:dE st st' op.sls)(hl:pN st op=true):pN st' op=true:=by
 cases op<;>first|rfl|(cases hl;done)|skip
 rename_i m x;simp only[pN]at hl ⊢;rw[cH h];exact hl
end
def oV:List Bool→Nat→Nat
 |[],_=>0
 |_::_,0=>0
 |b::bs,i+1=>(if b=true then 1 else 0)+oV bs i
theorem BS{α:Type}:∀ {bs:List Bool} {l:List α} {i:Nat} {x:α},bN false bs i=true→l[i]?=some x→(oO bs l)[oV bs i]?=some x
 |[],_,_,_,h,_=>by cases h
 |_::_,[],_,_,_,h=>by simp at h
 |b::bs,y::l,0,x,h,hx=>by
  have h:b=true:=h
  subst h;simpa[oO,oV] using hx
 |b::bs,y::l,i+1,x,h,hx=>by
  have ih:=BS (bs:=bs) (l:=l) (i:=i) (x:=x) h (by simpa using hx)
  cases b with
  |true=>simp only[oO,oV,if_true];rw[Nat.add_comm];simpa using ih
  |false=>simp only[oO,oV,eI,if_false];rw[dV];exact ih
theorem uO{α:Type}:∀ {bs:List Bool} {l:List α} {q:Nat} {x:α},(oO bs l)[q]?=some x→∃j,bN false bs j=true∧l[j]?=some x∧oV bs j=q
 |[],l,q,x,h=>by simp[oO]at h
 |b::bs,[],q,x,h=>by cases b<;>simp[oO]at h
 |true::bs,y::l,0,x,h=>⟨0,rfl,by simpa[oO] using h,rfl⟩
 |true::bs,y::l,q+1,x,h=>by
  obtain⟨j,h1,h2,h3⟩:=uO (bs:=bs) (l:=l) (q:=q) (x:=x) (by simpa[oO] using h);exact⟨j+1,h1,by simpa using h2,by simp only[oV,if_true];omega⟩
 |false::bs,y::l,q,x,h=>by
  obtain⟨j,h1,h2,h3⟩:=uO (bs:=bs) (l:=l) (q:=q) (x:=x) (by simpa[oO] using h);exact⟨j+1,h1,by simpa using h2,by simp only[oV,eI,if_false];omega⟩
theorem BV:∀ {bs:List Bool} {i j:Nat},bN false bs i=true→i<j→oV bs i<oV bs j
 |[],_,_,h,_=>by cases h
 |b::bs,i,0,_,h=>absurd h (by omega)
 |b::bs,0,j+1,h,_=>by
  have h:b=true:=h
  simp only[oV,if_pos h];omega
 |b::bs,i+1,j+1,h,h1=>by
  have:=BV (bs:=bs) (i:=i) (j:=j) h (by omega)
  simp only[oV];omega
section
variable {P:Program} {G:Nat→Option Obj} {ops:Array Oper} {al:List AI} {ext:Ext} {U:Nat→Prop} {F:St} {own:Nat→Nat→Prop}
variable {β0 β β':Bt} {R0 R R':Nat→Prop} {w0 w w':World} {a:Act} {listed:Array Bool}
def WT(P:Program)(G:Nat→Option Obj)(ext:Ext)(ai:AI)(F:St)(own:Nat→Prop):Prop:=∀tM:List V,dE F ⟨tM,F.h⟩ ai.sls →
 (mP ⟨tM,F.h⟩ ai.guard=some false∧∀s,ai.dst=some s→s<F.t.length→bN (.c .top) F.t s=.t []) ∨
 (mP ⟨tM,F.h⟩ ai.guard=some true∧∃v,(∀s,ai.dst=some s→s<F.t.length→bN (.c .top) F.t s=v)∧∀k' K',(k' v F.h).holds P G K'→(gL (jE ext) ⟨tM,F.h⟩ k' ai.op).holds P G K') ∨
 (mP ⟨tM,F.h⟩ ai.guard=some true∧∃x mk id,xS ⟨tM,F.h⟩ ai.op=some (x,mk)∧(∀s,ai.dst=some s→s<F.t.length→bN (.c .top) F.t s=mk id)∧bN .gone F.h id=x∧id<F.h.length∧own id)
structure DX (G:Nat→Option Obj) (al:List AI) (U:Nat→Prop) (F:St) (own:Nat→Nat→Prop) (β0:Bt) (R0:Nat→Prop) (w0:World) (listed:Array Bool) (a:Act) (w:World) (β:Bt) (R:Nat→Prop):Prop where
 gr:Gr β0 R0 w0 β R w
 hs:HS G β R w F.h
 df:a.defers=[]
 sz:a.tmps.size=F.t.length
 sl:∀s u,a.tmps[s]?=some u→(∀i ai,U i→al[i]?=some ai→listed.getD i false=false→ai.dst≠some s)→VR β R w (bN (.c .top) F.t s) u
 fr:∀i,U i→listed.getD i false=false→∀id,own i id→β id=none
open Classical in
theorem DX.mask(hI:DX G al U F own β0 R0 w0 listed a w β R):∃tM,eC G β R ⟨tM,F.h⟩ a w∧∀s,(∀i ai,U i→al[i]?=some ai→listed.getD i false=false→ai.dst≠some s)→bN (.c .top) tM s=bN (.c .top) F.t s:=by
 let bad:Nat→Prop:=fun s=>∃j aj,U j∧al[j]?=some aj∧listed.getD j false=false∧aj.dst=some s
 let tM:List V:=(dL F.t.length).map fun s=>if bad s then V.c C.top else bN (.c .top) F.t s
 refine⟨tM,⟨hI.df,All2.of_get (by simp[tM,hI.sz]) ?_,hI.hs⟩,?_⟩
 ·intro s x y hx hy
  have hy:a.tmps[s]?=some y:=by simpa using hy
  have hsl:s<F.t.length:=by
   rcases cK s F.t.length with h|h
   ·exact h
   ·have hx:tM[s]?=some x:=hx
    rw[bL (by simpa[tM] using h)]at hx;cases hx
  simp only[tM,dJ,eM hsl,dS,aD]at hx;subst hx;split
  ·exact trivial
  ·rename_i hb
   exact hI.sl s y hy fun j aj h1 h2 h3 h4=>hb ⟨j,aj,h1,h2,h3,h4⟩
 ·intro s hs
  have hs:¬bad s:=fun⟨j,aj,h1,h2,h3,h4⟩=>hs j aj h1 h2 h3 h4
  rw[eK,eK,aG,aG]
  rcases cK s F.t.length with h|h
  ·simp only[tM,dJ,eM h,dS,if_neg hs,Option.getD_some]
   rw[eK,aG]
  ·rw[bL h,bL (by simpa[tM] using h)]
theorem DX.put(hI:DX G al U F own β0 R0 w0 listed a w β R){i:Nat}(hil:i<listed.size){ai:AI}(ha:al[i]?=some ai){x:V}{u:Value}(hv:VR β' R' w' x u)(hs':HS G β' R' w' F.h)(hg:Gr β R w β' R' w')
  (h1:∀s,ai.dst=some s→s<F.t.length→bN (.c .top) F.t s=x) (hb:∀j id,U j→j≠i→own j id→β id=none→β' id=none):DX G al U F own β0 R0 w0 (listed.setIfInBounds i true) (a.put ai.dst u) w' β' R':=by
 refine⟨hI.gr.trans hg,hs',?_,?_,?_,?_⟩
 ·cases ai.dst<;>exact hI.df
 ·cases hd:ai.dst with
  |none=>exact hI.sz
  |some d=>show (a.tmps.setIfInBounds d u).size=_;rw[Array.size_setIfInBounds];exact hI.sz
 ·intro s u' hu hn
  by_cases hd:ai.dst=some s
  ·rw[hd]at hu
   have hu:(a.tmps.setIfInBounds s u)[s]?=some u':=hu
   have hss:s<a.tmps.size:=by
    rcases cK s a.tmps.size with h|h
    ·exact h
    ·rw[Array.getElem?_eq_none (by simpa using h)]at hu;cases hu
   simp[hss]at hu;subst hu;rw[h1 s hd (by rw[←hI.sz];exact hss)];exact hv
  ·have hu':a.tmps[s]?=some u':=by
     cases hq:ai.dst with
     |none=>rw[hq]at hu;exact hu
     |some d=>
      rw[hq]at hu hd
      have hu:(a.tmps.setIfInBounds d u)[s]?=some u':=hu
      rwa [dM (fun e=>hd (by rw[e]))]at hu
   refine VR.keep hg.keeps (hI.sl s u' hu' fun j aj hj hja hjl=>?_)
   by_cases e:j=i
   ·subst e
    rw[ha]at hja;injection hja with hja;subst hja;exact hd
   ·exact hn j aj hj hja (by rw[getD_set_ne false (fun h=>e h.symm)];exact hjl)
 ·intro j hj hjl id hid
  obtain⟨h3,h4⟩:=mR hjl hil;exact hb j id hj h4 hid (hI.fr j hj h3 id hid)
theorem DX.step(hext:bO P G ext){Q:Exit→Act→World→Prop}(hI:DX G al U F own β0 R0 w0 listed a w β R){i:Nat}{ai:AI}{o:Oper}(hU:U i)(hil:i<listed.size)(ha:al[i]?=some ai)(ho:ops[i]?=some o)
  (hc:lE P ops o=some ai) (hun:listed.getD i false=false) (hat:WT P G ext ai F (own i)) (hrd:∀s∈ai.sls,∀j aj,U j→al[j]?=some aj→aj.dst=some s→listed.getD j false=true)
  (hdis:∀j id,U j→j≠i→own i id→¬own j id) {K:Act→World→Prop}
  (hK:∀a' w' β' R',DX G al U F own β0 R0 w0 (listed.setIfInBounds i true) a' w' β' R'→K a' w'):wpOp P ops Q i K a w:=by
 simp only[lE,aE,aB,aK,aD]at hc;obtain⟨aop,hop,g,hgd,rfl⟩:=hc;obtain⟨tM,hsim,htM⟩:=hI.mask
 have hag:dE F ⟨tM,F.h⟩ (AI.sls ⟨o.dst,aop,g⟩):=fun s hs=>htM s (fun j aj h1 h2 h3 h4=>by rw[hrd s hs j aj h1 h2 h4]at h3;cases h3)
 unfold wpOp;simp only[ho]
 rcases hat tM hag with⟨hw,hd⟩|⟨hw,v,hd,hk⟩|⟨hw,x,mk,id,hn,hd,hx,hid,ho'⟩
 ·have hw':=mJ (o:=o) (ai:=⟨o.dst,aop,g⟩) hsim hgd hw
  rw[hw'];simp only[eI,if_false];exact hK _ _ β R (hI.put hil ha qD hI.hs (Gr.refl _ _ _) hd (fun _ _ _ _ _ h=>h))
 ·have hw':=mJ (o:=o) (ai:=⟨o.dst,aop,g⟩) hsim hgd hw
  rw[hw'];simp only[if_true]
  have h:=hk (fun v' h'=>.rq (v'=v∧h'=F.h) (.done .normal ⟨tM,F.h⟩)) (fun _ _=>True) ⟨⟨rfl,rfl⟩,trivial⟩
  refine .inl ((rH hsim hop (AM hext) h).wp ?_);rintro u w' ⟨β',R',x,h',⟨⟨rfl,rfl⟩,_⟩,r2,r3,r4,r5⟩
  exact hK _ _ β' R' (hI.put hil ha r2 r3 r4 hd (fun j id hj _ hid hn=>by
   rcases cK id F.h.length with hl|hl
   ·rw[r5 id hl];exact hn
   ·cases hq:β' id with
    |none=>rfl
    |some y=>have:=r3.dom id y hq;omega))
 ·have hw':=mJ (o:=o) (ai:=⟨o.dst,aop,g⟩) hsim hgd hw
  rw[hw'];simp only[if_true];left;obtain⟨u,ob,N,h1,h2,h3⟩:=FG hsim hop hn
  have hid0:=hI.fr i hU hun id ho'
  unfold Oper.wp;rw[h1];refine hK _ _ (bn β id (w.heap.size,N)) R (hI.put hil ha (h3 _ id _ (fN _ _ _)) (GB hI.hs hid0 hid (by rw[hx];exact h2)) (wQ hI.hs _ hid0 _ rfl) hd ?_);intro j jd hj hji hjd hn
  have hne:jd≠id:=fun e=>hdis j jd hj hji (by rw[e];exact ho') hjd
  rw[dN _ hne];exact hn
def aHL(S:Nat→St)(p id:Nat):Prop:=(S p).h.length≤id∧id<(S (p+1)).h.length
theorem aCT{l:List AI}{n:Nat}{S:Nat→St}(hr:Run P G ext l n S){p:Nat}{ai:AI}(hp:p<n)(ha:l[p]?=some ai)(hrd:∀s∈ai.sls,∀q aj,p≤q→q<n→l[q]?=some aj→aj.dst≠some s)
  (hds:∀s,ai.dst=some s→∀q aj,p<q→q<n→l[q]?=some aj→aj.dst≠some s):WT P G ext ai (S n) (aHL S p):=by
 intro tM hag
 have hle:=hr.le (i:=p) (j:=n) (by omega) (aU _)
 have hle1:=hr.le (i:=p+1) (j:=n) hp (aU _)
 have hag':dE (S p) ⟨tM,(S n).h⟩ ai.sls:=fun s hs=>(hag s hs).trans (hle.2.2.2 s (fun q aj h1 h2 h3=>hrd s hs q aj h1 h2 h3))
 have hgw:mP ⟨tM,(S n).h⟩ ai.guard=mP (S p) ai.guard:=by
  cases hg:ai.guard with
  |none=>rfl
  |some jw=>
   obtain⟨j,want⟩:=jw;simp only[mP];rw[hag' j (by simp[AI.sls,hg])]
 have hdst:∀s v,ai.dst=some s→s<(S n).t.length→(S (p+1)).t=oP (S p).t ai.dst v→bN (.c .top) (S n).t s=v:=by
  intro s v hd hs ht;rw[hle1.2.2.2 s (fun q aj h1 h2 h3=>hds s hd q aj (by omega) h2 h3),ht,hd]
  show bN (.c .top) (upd v (S p).t s) s=v
  exact gQ _ _ _ (by have:=hle.1;omega)
 have hag2:dE (S p) ⟨tM,(S n).h⟩ ai.op.sls:=dE.right hag'
 rcases hr.step p ai hp ha with⟨hw,hS⟩|⟨hw,v,hS,hk⟩|⟨hw,x,mk,hn,hS⟩
 ·exact .inl ⟨hgw.trans hw,fun s hd hs=>hdst s _ hd hs (by rw[hS])⟩
 ·exact .inr (.inl ⟨hgw.trans hw,v,fun s hd hs=>hdst s _ hd hs (by rw[hS]),fun k' K' h=>hk ⟨tM,(S n).h⟩ hag2 hle.2.2.1 k' K' h⟩)
 ·have hl:(S p).h.length<(S (p+1)).h.length:=by rw[hS];show _<(iF x (S p).h).length;rw[qF];omega
  refine .inr (.inr ⟨hgw.trans hw,x,mk,(S p).h.length,(sI hag2).trans hn,fun s hd hs=>hdst s _ hd hs (by rw[hS,fH]),?_,by have:=hle1.2.1;omega,aU _,hl⟩);rw[hle1.2.2.1 _ hl,hS];exact mF _ _ _
theorem YJ{t:List V}{h h':List AO}(xs:List AX):vS ⟨t,h⟩ xs=vS ⟨t,h'⟩ xs:=tT (st:=⟨t,h'⟩) (st':=⟨t,h⟩) (fun _ _=>rfl)
theorem ZC{t:List V}{h h':List AO}(vs:List C)(ps:List (Nat×Nat×AX)):jL ⟨t,h⟩ vs ps=jL ⟨t,h'⟩ vs ps:=qR (st:=⟨t,h'⟩) (st':=⟨t,h⟩) (fun _ _=>rfl)
theorem VF{op:rB}(hd:op.hd=true)(hn:op.nw=false){t:List V}{h h':List AO}(hl:pN ⟨t,h⟩ op=true)(hc:CK h h'){k:V→List AO→Tr}{K:X→St→Prop}
  (hh:(gL (jE ext) ⟨t,h⟩ (fun v _=>k v h') op).holds P G K):(gL (jE ext) ⟨t,h'⟩ k op).holds P G K:=by
 cases op<;>simp only[rB.hd,rB.nw,eI,Bool.true_eq_false]at hd hn
 case load m x=>exact aB2 (ext:=jE ext) rfl hl hc hh
 case build z ps=>
  simp only[gL]at hh ⊢;rw[ZC (h:=h') (h':=h)];exact hh
 case call f args=>
  simp only[gL]at hh ⊢;rw[YJ (h:=h') (h':=h)];exact hh
 case more o=>cases hl
 case look=>cases hl
 all_goals exact hh
theorem UJ{op:rB}(hn:op.nw=true){t:List V}{h:List AO}{v:V}(hk:∀(k':V→List AO→Tr) (K':X→St→Prop),(k' v h).holds P G K'→(gL (jE ext) ⟨t,h⟩ k' op).holds P G K'):False:=by
 have h1:=hk (fun _ h''=>.rq (h''=h) (.done .normal ⟨[],[]⟩)) (fun _ _=>True) ⟨rfl,trivial⟩
 obtain⟨x,mk,_,h2⟩:=XX hn h1
 have h2:iF x h=h:=h2.1
 have:=congrArg List.length h2
 rw[qF]at this;omega
structure aYY (ops:Array Oper) (al:List AI) (n N:Nat) (D:Nat→Prop):Prop where
 back:∀i o,ops[i]?=some o→∀e∈o.after,eO .any e=true→e.on<i
 hd:∀i ai,al[i]?=some ai→i<N→i≠n→ai.op.hd=true
 dst:∀i j x y d,al[i]?=some x→al[j]?=some y→i<N→j<N→i≠j→x.dst=some d→y.dst≠some d
 dep:∀i j x y d,al[i]?=some x→al[j]?=some y→i<N→j<N→y.dst=some d→d∈x.sls→dF .any ops i j=true
 nN:n<N
 dn:D n
 d2:∀i,i<N→D i→i≠n→∃j,j<i∧D j∧dF .any ops i j=true
 m1:∀i j x y d,al[i]?=some x→al[j]?=some y→i<N→j<N→¬D i→D j→y.dst=some d→d ∉ x.sls
 tl1:∀i,i<N→N<ops.size→dF .any ops N i=true
 tl2:∀t,N<t→t<ops.size→dF .any ops t (t-1)=true
variable {n N:Nat} {D:Nat→Prop}
theorem WJ(inv:HeadInv .any ops N listed){om:Oper}(hm:ops[n]?=some om)(hready:∀e∈om.after,eO .any e=true→listed.getD e.on false=true):∀(k i:Nat),n-i≤k→i<n→Ch ops n i→listed.getD i false=true:=by
 intro k;induction k with
 |zero=>intro i h1 h2;omega
 |succ k ih=>
  intro i h1 h2 h3
  rcases SD (aU n) h3 with h4|⟨j',o,h4,h5,h6,h7,h8⟩
  ·omega
  ·rw[Nat.sub_self,dV]at h7 h8
   have h7:ops[j']?=some o:=by simpa using h7
   obtain⟨o',ho',e,he,hb,hon⟩:=eZ (rD h7 h8);rw[h7]at ho';injection ho' with ho';subst ho'
   by_cases e1:j'=n
   ·subst e1
    rw[hm]at h7;injection h7 with h7;subst h7
    have:=hready e he hb
    rwa [hon]at this
   ·have:=inv.closed j' o h7 (ih j' (by omega) (by omega) h6) e he hb
    rwa [hon]at this
theorem aNR{bs:List Bool}{i:Nat}(h:bN false bs i=true):i<bs.length:=by
 rcases cK i bs.length with h'|h'
 ·exact h'
 ·rw[eK,aG,bL h']at h;cases h
theorem aJC{h hF:List AO}(hh:HS G β R w h)(h1:h.length≤hF.length)(h2:∀id,id<h.length→bN .gone hF id=bN .gone h id):HS G β R w hF:=by
 have hb:∀i x,β i=some x→bN .gone hF i=bN .gone h i:=fun i x hi=>h2 i (hh.dom i x hi)
 refine⟨fun i x hi=>cI (hh.dom i x hi) h1,?_,?_,hh.lt,hh.rlt,?_,hh.gl,fun b ad hq=>⟨(hh.ql b ad hq).1,(hh.ql b ad hq).2.1,fun i o hi=>by rw[hb i _ hi];exact(hh.ql b ad hq).2.2 i o hi⟩⟩
 ·intro i j b o o' hi hj li lj
  rw[hb i _ hi]at li;rw[hb j _ hj]at lj;exact hh.inj i j b o o' hi hj li lj
 ·intro i b o hi li
  rw[hb i _ hi]at li;exact hh.sep i b o hi li
 ·intro i b o hi
  rw[hb i _ hi];exact hh.obj i b o hi
end
section
variable {P:Program} {G:Nat→Option Obj}
theorem pJ{ext:Ext}(hext:bO P G ext){ops:Array Oper}{Q:Exit→Act→World→Prop}{k:St→Tr}{K:X→St→Prop} :
  ∀(l:List Oper) (al:List AI) (st:St) (a:Act) (w:World) (β:Bt) (R:Nat→Prop),fZ P ops l=some al→(nB ext al st k).holds P G K→eC G β R st a w →
   (∀a' w' β' R' st',(k st').holds P G K→eC G β' R' st' a' w'→Gr β R w β' R' w'→Q .normal a' w')→wpList P ops Q l a w
 |[],al,st,a,w,β,R,hc,h,hs,hq=>by
  simp only[fZ,aD]at hc;subst hc;exact hq a w β R st h hs (Gr.refl _ _ _)
 |o::l,al,st,a,w,β,R,hc,h,hs,hq=>by
  simp only[fZ,aE,aB,aK,aD]at hc;obtain⟨ai,h1,al',h2,rfl⟩:=hc;simp only[lE,aE,aB,aK,aD]at h1;obtain⟨aop,h3,g,h4,rfl⟩:=h1
  have next:∀ {iR:St},eC G β R iR a w→∀u w',Res G iR.h.length (fun v h'=>(nB ext al' ⟨oP iR.t o.dst v,h'⟩ k).holds P G K) β R w u w'→wpList P ops Q l (a.put o.dst u) w':=by
   rintro iR hs0 u w' ⟨β',R',x,h',r1,r2,r3,r4,_⟩;exact pJ hext l al' _ _ _ _ _ h2 r1 (hs0.put r4 r3 r2 o.dst) (fun a' w'' β'' R'' st' q1 q2 q3=>hq a' w'' β'' R'' st' q1 q2 (r4.trans q3))
  have run:∀ {iR:St},eC G β R iR a w→(gL ext iR (fun v h=>nB ext al' ⟨oP iR.t o.dst v,h⟩ k) aop).holds P G K→eD o (yielded ops a.tmps)=true→wpList P ops Q (o::l) a w:=by
   intro iR hs0 hh hw;simp only[wpList,hw,if_true];exact .inl ((rH hs0 h3 hext hh).wp (next hs0))
  have skip:∀ {iR:St},eC G β R iR a w→(nB ext al' ⟨oP iR.t o.dst (.t []),iR.h⟩ k).holds P G K→eD o (yielded ops a.tmps)=false→wpList P ops Q (o::l) a w:=by
   intro iR hs0 hh hw;simp only[wpList,hw,eI,if_false];exact pJ hext l al' _ _ _ _ _ h2 hh (hs0.put (Gr.refl _ _ _) hs0.hs qD o.dst) hq
  simp only[nB]at h;cases hg:o.guard with
  |none=>
   rw[hg]at h4;simp only[mC,aD]at h4;subst h4;exact run hs h (by unfold eD;rw[hg])
  |some jw=>
   obtain⟨j,want⟩:=jw;rw[hg]at h4;simp only[mC,aM]at h4;obtain⟨d,hd,rfl⟩:=h4;dsimp only at h;split at h
   ·rename_i x hx
    have hw:=wanted_bool hg hd (hs.tmp_bool hx)
    have same:eC G β R ⟨upd (.c (.p (.b x))) st.t d,st.h⟩ a w:=hs.same (fun u hu=>by rw[hx]at hu;exact hu)
    cases want<;>cases x
    ·exact run same h hw
    ·exact skip same h hw
    ·exact skip same h hw
    ·exact run same h hw
   ·rename_i hx
    exact skip hs h (wanted_undef hg hd (hs.tmp_undef hx))
   ·exact h.elim
theorem Po.trans{β β':Bt}{R R':Nat→Prop}{w w':World}{K:X→St→Prop}{e:X}{a2:Act}{w2:World}(h:Po G K β' R' w' e a2 w2)(k:Fr β R w β' R' w')(hr:∀b,R b→R' b):Po G K β R w e a2 w2:=by
 obtain⟨β2,R2,st2,h1,h2,h3,h4⟩:=h;exact⟨β2,R2,st2,h1,h2,k.trans h3 hr,fun b hb=>h4 b (hr b hb)⟩
theorem QX.trans{β β':Bt}{R R':Nat→Prop}{w w':World}{K:X→St→Prop}{e:Exit}{a2:Act}{w2:World}(h:QX G K β' R' w' e a2 w2)(k:Fr β R w β' R' w')(hr:∀b,R b→R' b):QX G K β R w e a2 w2:=by
 cases e with
 |normal=>exact Po.trans h k hr
 |exit id=>exact Po.trans h k hr
 |ret=>exact Po.trans h k hr
 |_=>exact h
theorem Po.here{β:Bt}{R:Nat→Prop}{w:World}{K:X→St→Prop}{e:X}{st:St}{a:Act}(hs:eC G β R st a w)(h:K e st):Po G K β R w e a w:=⟨β,R,st,h,hs,Fr.refl _ _ _,fun _ hb=>hb⟩
theorem RV{c:Code}{st:St}{K:X→St→Prop}(h:Ex P G c st K):Ex P G (.scope c) st K:=fun β R a w hs=>
 wp_scope_straight (Code.wp_mono (fun e _ _ q=>by cases e<;>exact q) (h β R a w hs))
theorem aBG{ext:Ext}(hext:bO P G ext):∀(c:Code) (ac:dA),dB P c=some ac→∀(st:St) (k:X→St→Tr) (K:X→St→Prop),(WC ext ac st k).holds P G K→Ex P G c st fun e st'=>(k e st').holds P G K:=by
 intro c;induction c with
 |skip=>
  intro ac hc st k K h β R a w hs;simp only[dB,aD]at hc;subst hc;exact wp_skip (show Po G (fun e st'=>(k e st').holds P G K) β R w .normal a w from Po.here hs h)
 |region id ops draw=>
  intro ac hc st k K h β R a w hs;simp only[dB]at hc;split at hc
  case h_2=>injection hc with hc;subst hc;exact h.elim
  rename_i ac' hc1;injection hc with hc;subst hc
  have hc:=hc1
  clear hc1;cases draw with
  |true=>
   simp only[SH]at hc;split at hc
   ·rename_i hm
    simp only[aE,aB,aK,aD]at hc;obtain⟨al,h1,hc⟩:=hc;split at hc
    ·rename_i n h2
     injection hc with hc;subst hc;obtain⟨h3,h4⟩:=RC h2;rw[fH]at h4;rw[OT,GO]at h;refine TM hext hm h1 h3 (by omega) h hs ?_;intro st' a' w' β' R' hk hs' hg
     exact pJ hext (ops.toList.drop n) (al.drop n) st' a' w' β' R' (uF n h1) hk hs' (fun a2 w2 β2 R2 st2 q1 q2 q3=>⟨β2,R2,st2,q1,q2,(hg.trans q3).toFr,(hg.trans q3).rm⟩)
    ·cases hc
   ·cases hc
  |false=>
   simp only[SH,aM]at hc;obtain⟨al,h1,rfl⟩:=hc;exact wp_region_list (pJ hext ops.toList al st a w β R h1 h hs (fun a' w' β' R' st' q1 q2 q3=>⟨β',R',st',q1,q2,q3.toFr,q3.rm⟩))
 |seq x y ihx ihy=>
  intro ac hc st k K h β R a w hs;simp only[dB,aE,aB,aK,aD]at hc;obtain⟨ax,h1,ay,h2,rfl⟩:=hc;refine wp_seq (Code.wp_mono ?_ (ihx ax h1 st _ K h β R a w hs));intro e a' w' hq
  cases e with
  |normal=>
   obtain⟨β',R',st',q1,q2,q3,q4⟩:=hq;exact Code.wp_mono (fun e a2 w2 q=>QX.trans q q3 q4) (ihy ay h2 st' k K q1 β' R' a' w' q2)
  |_=>exact hq
 |cond x c1 c2 ih1 ih2=>
  intro ac hc st k K h β R a w hs;simp only[dB,aE,aB,aK,aD]at hc;obtain⟨ax,hx,a1,h1,a2,h2,rfl⟩:=hc
  have hv:=aR hs hx
  simp only[WC]at h;split at h
  ·rename_i v he
   rw[he]at hv
   have hv:a.eval x=.bool v:=hv
   split at h
   ·rename_i j
    have same:eC G β R ⟨upd (.c (.p (.b v))) st.t j,st.h⟩ a w:=hs.same (fun u hu=>by
     have he:bN (.c .top) st.t j=.c (.p (.b v)):=he
     rw[he]at hu;exact hu)
    cases v with
    |true=>exact wp_cond_true hv (ih1 a1 h1 _ k K h β R a w same)
    |false=>exact wp_cond_false hv (ih2 a2 h2 _ k K h β R a w same)
   ·cases v with
    |true=>exact wp_cond_true hv (ih1 a1 h1 _ k K h β R a w hs)
    |false=>exact wp_cond_false hv (ih2 a2 h2 _ k K h β R a w hs)
  ·exact h.elim
 |block id c ih=>
  intro ac hc st k K h β R a w hs;simp only[dB,aM]at hc;obtain⟨a1,h1,rfl⟩:=hc;refine wp_block (Code.wp_mono ?_ (ih a1 h1 st _ K h β R a w hs));intro e a' w' hq
  cases e with
  |exit j=>
   obtain⟨β',R',st',q1,q2,q3,q4⟩:=hq;dsimp only at q1
   show (if j=id then QX G (fun e st'=>(k e st').holds P G K) β R w .normal a' w' else QX G (fun e st'=>(k e st').holds P G K) β R w (.exit j) a' w')
   cases hb:Nat.beq j id with
   |true=>
    rw[hb]at q1;rw[if_pos (aH hb)];exact⟨β',R',st',q1,q2,q3,q4⟩
   |false=>
    rw[hb]at q1;rw[if_neg (Nat.ne_of_beq_eq_false hb)];exact⟨β',R',st',q1,q2,q3,q4⟩
  |_=>exact hq
 |loop c ih=>
  intro ac hc st k K h β R a w hs;simp only[dB,aM]at hc;obtain⟨a1,h1,rfl⟩:=hc;exact h c h1 β R a w hs
 |exit id=>
  intro ac hc st k K h β R a w hs;simp only[dB,aD]at hc;subst hc;exact wp_exit (show Po G (fun e st'=>(k e st').holds P G K) β R w (.exit id) a w from Po.here hs h)
 |ret=>
  intro ac hc st k K h β R a w hs;simp only[dB,aD]at hc;subst hc;exact wp_ret (show Po G (fun e st'=>(k e st').holds P G K) β R w .ret a w from Po.here hs h)
 |scope c ih=>
  intro ac hc st k K h;exact RV (ih ac (by simpa only[dB] using hc) st k K h)
 |label l=>
  intro ac hc st k K h β R a w hs;simp only[dB,aD]at hc;subst hc;exact wp_label (show Po G (fun e st'=>(k e st').holds P G K) β R w .normal a w from Po.here hs h)
 |_=>intro ac hc;simp only[dB]at hc;cases hc
end
end Go.AE
