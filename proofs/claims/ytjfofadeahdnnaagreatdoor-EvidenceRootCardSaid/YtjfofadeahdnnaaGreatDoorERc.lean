import Derived.Test.YtjfofadeahdnnaaGreatDoorERb
import Derived.StillTail
import Derived.Scope
set_option linter.unusedVariables false
set_option linter.unusedSimpArgs false
namespace Go.AE
open _root_.Array renaming getElem?_eq_some_iff→aO,getElem?_setIfInBounds_ne→cY,replicate→fM
open _root_.Bool renaming and_eq_true→aS,false_eq_true→dO,or_eq_true→cE
open _root_.List renaming getD_eq_getElem?_getD→aD,getElem?_drop→iD,getElem?_eq_getElem→aH,getElem?_eq_none→bB,getElem?_eq_some_iff→aN,getElem?_map→cC,getElem?_range→eE,getElem?_take→fG,length_set→cD,length_take→dY,mem_append→gL,mem_cons→cR,mem_cons_of_mem→bL,mem_iff_getElem?→fI,range→cS
open _root_.Nat renaming beq→aT,ble_eq→dZ,eq_of_beq_eq_true→aF,le_refl→aJ,lt_of_lt_of_le→bM,lt_or_ge→cA,zero_add→cK,zero_le→bK
open _root_.Option renaming bind_eq_bind→aE,bind_eq_some_iff→aA,bind_some→gN,map_eq_some_iff→aI,map_some→cV,pure_def→aG,some.injEq→aB
open Region renaming binds→eW,ready→gJ,waitsFor→dR,waitsFor_spec→dQ,wanted→eQ
open Go.RowKit
section
variable {P:Program} {G:Nat→Option Obj} {β β':Bt} {R R':Nat→Prop} {w w':World} {st st':St} {a:Act} {o:Oper}
theorem CR.pure_{x:C}{u:Value}(hp:isP x=true)(h:CR β R w x u):CR β' R w x u:=by cases x<;>first|exact h|cases hp
theorem All2.pure_:∀ {cs:List C} {us:List Value},DK cs=true→All2 (CR β R w) cs us→All2 (CR β' R w) cs us
 |[],[],_,_=>trivial
 |[],_::_,_,h=>h.elim
 |_::_,[],_,h=>h.elim
 |c::cs,u::us,hp,h=>by
  simp only[DK,aS]at hp;exact⟨CR.pure_ hp.1 h.1,All2.pure_ hp.2 h.2⟩
theorem zS.pure_{x:V1}{u:Value}(hp:VQ x=true)(h:zS β R w x u):zS β' R w x u:=by
 cases x with
 |c x=>exact CR.pure_ hp h
 |a cs=>obtain⟨us,h1,h2⟩:=h;exact⟨us,h1,All2.pure_ hp h2⟩
theorem All2.pureV1_:∀ {cs:List V1} {us:List Value},sD cs=true→All2 (zS β R w) cs us→All2 (zS β' R w) cs us
 |[],[],_,_=>trivial
 |[],_::_,_,h=>h.elim
 |_::_,[],_,h=>h.elim
 |c::cs,u::us,hp,h=>by
  simp only[sD,aS]at hp;exact⟨zS.pure_ hp.1 h.1,All2.pureV1_ hp.2 h.2⟩
theorem VR.pure_{x:V}{u:Value}(hp:oQ x=true)(h:VR β R w x u):VR β' R w x u:=by
 cases x with
 |c x=>exact CR.pure_ hp h
 |a cs=>obtain⟨us,h1,h2⟩:=h;exact⟨us,h1,All2.pure_ hp h2⟩
 |t vs=>obtain⟨us,h1,h2⟩:=h;exact⟨us,h1,All2.pureV1_ hp h2⟩
theorem All2.pureV_:∀ {cs:List V} {us:List Value},(∀v∈cs,oQ v=true)→All2 (VR β R w) cs us→All2 (VR β' R w) cs us
 |[],[],_,_=>trivial
 |[],_::_,_,h=>h.elim
 |_::_,[],_,h=>h.elim
 |c::cs,u::us,hp,h=>⟨VR.pure_ (hp c (by simp)) h.1,All2.pureV_ (fun v hv=>hp v (by simp[hv])) h.2⟩
def frz(β:Bt)(R:Nat→Prop)(b:Nat):Prop:=R b∨β.has b
theorem zG{h:List AO}(hh:HS G β R w h){β':Bt}{R':Nat→Prop}(k:Fr Bt.nil R w β' R' w')(hr:∀b,R b→R' b){h':List AO}(hh':HS G β' R' w' h') :
  HS G β (frz β' R') w' h∧Gr β R w β (frz β' R') w':=by
 have hx:∀b,frz β' R' b→R b∨w.heap.size≤b:=by
  rintro b (hb|hi)
  ·rcases k.rx b hb with h|h|h
   ·exact .inl h
   ·exact absurd h Bt.nil_has
   ·exact .inr h
  ·rcases k.ex b hi with h|h
   ·exact absurd h Bt.nil_has
   ·exact .inr h
 have gr:Gr β R w β (frz β' R') w':={
  os:=k.os,tape:=k.tape,output:=k.output,size:=k.size,rs:=k.rs
  fr:=fun b hb _=>k.fr b hb Bt.nil_has
  ex:=fun _ hi=>.inl hi
  rx:=fun b hb=>(hx b hb).imp id .inr
  bm:=fun _ _ hi=>hi
  rm:=fun b hb=>.inl (hr b hb) }
 have kq:vS β w β w':=fun b ad hb=>⟨hb,k.fr b (hh.ql b ad hb).1 Bt.nil_has⟩
 refine⟨⟨hh.dom,hh.inj,?_,?_,?_,?_,?_,?_⟩,gr⟩
 ·intro i b o hi hl hb
  rcases hx b hb with h|h
  ·exact hh.sep i b o hi hl h
  ·have:=hh.lt i b o hi;omega
 ·intro i b o hi;exact bM (hh.lt i b o hi) k.size
 ·rintro b (hb|⟨i,o,hi⟩|⟨ad,hi⟩)
  ·exact hh'.rlt b hb
  ·exact hh'.lt i b o hi
  ·exact(hh'.ql b ad hi).1
 ·intro i b o hi
  exact OR.keep gr.keeps (kq.at b) (k.fr b (hh.lt i b o hi) Bt.nil_has) (hh.obj i b o hi)
 ·intro b ob hb
  obtain⟨h1,h2⟩:=hh.gl b ob hb;exact⟨.inl (hr b h1),(k.rs b h1).trans h2⟩
 ·intro b ad hb
  obtain⟨h1,h2,h3⟩:=hh.ql b ad hb;refine⟨bM h1 k.size,fun hf=>?_,h3⟩
  rcases hx b hf with h|h
  ·exact h2 h
  ·omega
theorem eJ.tmp_bool{β:Bt}{R:Nat→Prop}{w:World}{st:St}{a:Act}(hs:eJ G β R st a w){d:Nat}{x:Bool}(h:aZ (.c .top) st.t d=.c (.p (.b x))):a.tmps[d]?=some (.bool x):=by
 have hv:=aM (x:=.tmp d) hs rfl
 have e:st.ev (.t d)=.c (.p (.b x)):=h
 rw[e]at hv
 have hv:a.tmps.getD d undef=.bool x:=hv
 cases hq:a.tmps[d]? with
 |none=>simp[hq,undef]at hv
 |some u=>simp[hq]at hv;rw[hv]
theorem eJ.tmp_undef{β:Bt}{R:Nat→Prop}{w:World}{st:St}{a:Act}(hs:eJ G β R st a w){d:Nat}(h:aZ (.c .top) st.t d=.t []):a.tmps[d]?=none∨a.tmps[d]?=some (.tuple #[]):=by
 have hv:=aM (x:=.tmp d) hs rfl
 have e:st.ev (.t d)=.t []:=h
 rw[e]at hv;obtain⟨us,hu,ha⟩:=hv
 have hl:=ha.length
 have:us = #[]:=by
  apply Array.toList_inj.1;exact List.eq_nil_of_length_eq_zero (by simpa using hl.symm)
 subst this;cases hq:a.tmps[d]? with
 |none=>exact .inl rfl
 |some u=>
  have hu:a.tmps.getD d undef=.tuple #[]:=hu
  simp[hq]at hu;rw[hu];exact .inr rfl
theorem wanted_bool{ops:Array Oper}{o:Oper}{j d:Nat}{want x:Bool}{a:Act}(hg:o.guard=some (j,want))(hd:(ops[j]?).bind (·.dst)=some d)(hx:a.tmps[d]?=some (.bool x)):eQ o (yielded ops a.tmps)=(x==want):=by
 unfold eQ yielded;simp only[hg,hd,gN,hx];cases x<;>cases want<;>rfl
theorem wanted_undef{ops:Array Oper}{o:Oper}{j d:Nat}{want:Bool}{a:Act}(hg:o.guard=some (j,want))(hd:(ops[j]?).bind (·.dst)=some d)(hx:a.tmps[d]?=none∨a.tmps[d]?=some (.tuple #[])):eQ o (yielded ops a.tmps)=false:=by
 unfold eQ yielded
 rcases hx with hx|hx<;>simp only[hg,hd,gN,hx]<;>rfl
theorem qF{β:Bt}{R:Nat→Prop}{w:World}:VR β R w (.t []) undef:=⟨#[],rfl,trivial⟩
theorem oD:∀ {vs:List V},nD vs=true→∀v∈vs,oQ v=true
 |x::r,h,v,hv=>by
  simp only[nD,aS]at h
  rcases cR.1 hv with rfl|hv
  ·exact h.1
  ·exact oD h.2 v hv
theorem tR{ext:Ext}(hext:cF P G ext):cF P G (jY ext) where
 fn:=by
  intro f args h k K hh;obtain⟨h1,h2⟩:=bO hh;intro β R w vs ha hs
  have hz:HS G Bt.nil R w []:=⟨(fun i x hi=>by cases hi),(fun i j b o o' hi=>by cases hi),(fun i b o hi=>by cases hi),(fun i b o hi=>by cases hi),hs.rlt,(fun i b o hi=>by cases hi),hs.gl,fun b ad hb=>by cases hb⟩
  refine(hext.fn _ _ _ _ _ h2 Bt.nil R w vs (All2.pureV_ (oD h1) ha) hz).mono ?_;rintro e w' ⟨u,β',R',x,h',rfl,q1,q2,q3,q4,q5⟩;cases h' with
  |cons _ _=>exact q1.elim
  |nil=>
   obtain⟨r1,r2⟩:=bO q1;obtain⟨c1,c2⟩:=zG hs q4.toFr q4.rm q3;exact⟨u,β,frz β' R',x,h,rfl,r2,VR.pure_ r1 (VR.keep (β':=β') (R':=frz β' R') ⟨fun _ _ h=>h,fun _ h=>.inl h,fun _ _=>rfl⟩ q2),c1,c2,fun _ _=>rfl⟩
 val:=by
  intro f args h k K hh;obtain⟨h1,h2⟩:=bO hh;obtain⟨v,h',q1,q2⟩:=hext.val _ _ _ _ _ h2;cases h' with
  |cons _ _=>exact q1.elim
  |nil=>
   obtain⟨r1,r2⟩:=bO q1;refine⟨v,h,r2,fun k' K' hk=>?_⟩;unfold jY;rw[h1];exact q2 _ K' (by rw[r1];exact hk)
theorem aBS{ext:Ext}(hext:cF P G ext){f:FuncId}{args:List V}{h:List AO}{k:V→List AO→Tr}{K:X→St→Prop}(hh:(jY ext f args h k).holds P G K) :
  ∃v,(k v h).holds P G K∧∀h2 k' K',(k' v h2).holds P G K'→(jY ext f args h2 k').holds P G K':=by
 obtain⟨h1,h2⟩:=bO hh;obtain⟨v,h',q1,q2⟩:=hext.val _ _ _ _ _ h2;cases h' with
 |cons _ _=>exact q1.elim
 |nil=>
  obtain⟨r1,r2⟩:=bO q1;refine⟨v,r2,fun h2 k' K' hk=>?_⟩;unfold jY;rw[h1];exact q2 _ K' (by rw[r1];exact hk)
theorem wK{h:List AO}(hh:HS G β R w h)(ob:Obj){id:Nat}(hid:β id=none)(x:Nat×Nat)(hx:x.1=w.heap.size):Gr β R w (bn β id x) R (w.alloc ob) where
 os:=rfl
 tape:=rfl
 output:=rfl
 size:=by simp
 rs:=fun b hb=>heap_push_lt w ob (hh.rlt b hb)
 fr:=fun b hb _=>heap_push_lt w ob hb
 ex:=fun b hi=>(HN hi).imp (fun h=>h) (fun h=>by omega)
 rx:=fun b hb=>.inl hb
 bm:=fun i y hi=>by
  rw[dH];exact hi;rintro rfl;rw[hid]at hi;cases hi
 rm:=fun _ hb=>hb
theorem GG{h:List AO}(hh:HS G β R w h){id:Nat}(hid:β id=none)(hl:id<h.length){ob:Obj}{N:Nat}
  (hx:∀β' w',jI β R w β' R w'→w'.heap[w.heap.size]?=some ob→OR β' R w' (aZ .gone h id) w.heap.size N) :
  HS G (bn β id (w.heap.size,N)) R (w.alloc ob) h:=by
 have gr:=wK hh ob hid (w.heap.size,N) rfl
 have hnew:(w.alloc ob).heap[w.heap.size]?=some ob:=heap_alloc_new w ob
 have kq:vS β w (bn β id (w.heap.size,N)) (w.alloc ob):=fun b ad hb=>⟨hb,heap_push_lt w ob (hh.ql b ad hb).1⟩
 refine⟨?_,?_,?_,?_,?_,?_,?_,?_⟩
 ·intro i y hi
  by_cases e:i=id
  ·omega
  ·rw[dH _ e]at hi;exact hh.dom i y hi
 ·intro i j b o1 o2 hi hj li lj
  by_cases ei:i=id
  ·by_cases ej:j=id
   ·omega
   ·subst ei;rw[fO]at hi;rw[dH _ ej]at hj
    have:=hh.lt j b o2 hj;simp at hi;omega
  ·rw[dH _ ei]at hi
   by_cases ej:j=id
   ·subst ej;rw[fO]at hj
    have:=hh.lt i b o1 hi;simp at hj;omega
   ·rw[dH _ ej]at hj
    exact hh.inj i j b o1 o2 hi hj li lj
 ·intro i b o1 hi li
  by_cases ei:i=id
  ·subst ei;rw[fO]at hi;simp at hi
   intro hb;have:=hh.rlt b hb;omega
  ·rw[dH _ ei]at hi
   exact hh.sep i b o1 hi li
 ·intro i b o1 hi
  by_cases ei:i=id
  ·subst ei;rw[fO]at hi;simp at hi;simp;omega
  ·rw[dH _ ei]at hi;have:=hh.lt i b o1 hi;simp;omega
 ·intro b hb;have:=hh.rlt b hb;simp;omega
 ·intro i b o1 hi
  by_cases ei:i=id
  ·subst ei;rw[fO]at hi;simp at hi
   obtain⟨rfl,rfl⟩:=hi;exact hx _ _ gr.keeps hnew
  ·rw[dH _ ei]at hi
   exact OR.keep gr.keeps (kq.at b) (heap_push_lt w ob (hh.lt i b o1 hi)) (hh.obj i b o1 hi)
 ·intro b o1 hb
  obtain⟨h1,h2⟩:=hh.gl b o1 hb;exact⟨h1,(heap_push_lt w ob (hh.rlt b h1)).trans h2⟩
 ·intro b ad hb
  obtain⟨h1,h2,h3⟩:=hh.ql b ad hb;refine⟨by simp;omega,h2,fun i o1 hi=>?_⟩
  by_cases ei:i=id
  ·subst ei;rw[fO]at hi;simp at hi;omega
  ·rw[dH _ ei]at hi
   exact h3 i o1 hi
def aRA(P:Program)(β:Bt)(R:Nat→Prop)(o:Oper)(a:Act)(w:World)(x:AO)(mk:Nat→V):Prop:=
 ∃u ob N,(execOp a.eval o).run P w=.ok (.value u) (w.alloc ob)∧(∀β' w',jI β R w β' R w'→w'.heap[w.heap.size]?=some ob→OR β' R w' x w.heap.size N) ∧
  ∀β' id w',β' id=some (w.heap.size,N)→VR β' R w' (mk id) u
theorem aD6{op:Op}{t:TypeId}{z:List PV}(hc:iW P op=some (.alloc t z)):op=.alloc t∧iQ P t=some z:=by
 cases op<;>simp only[iW,aI,aE,aA,aG,reduceCtorEq,and_false,exists_false,aB]at hc
 case alloc t'=>
  obtain⟨z',h1,h2⟩:=hc;injection h2 with h2 h3;subst h2;subst h3;exact⟨rfl,h1⟩
 case fieldAddr=>
  obtain⟨_,_,_,_,_,_,hc⟩:=hc;split at hc
  ·cases hc
  ·simp[aA]at hc
 all_goals (repeat' split at hc)
 all_goals (exfalso;simp_all [aI,aA];done)
theorem aLH{op:Op}{t:TypeId}{ax:AX}(hc:iW P op=some (.box t ax)):∃x,op=.box t x∧cX x=some ax:=by
 cases op<;>simp only[iW,aI,aE,aA,aG,reduceCtorEq,and_false,exists_false,aB]at hc
 case box t' x'=>
  obtain⟨z',h1,h2⟩:=hc;injection h2 with h2 h3;subst h2;subst h3;exact⟨_,rfl,h1⟩
 case fieldAddr=>
  obtain⟨_,_,_,_,_,_,hc⟩:=hc;split at hc
  ·cases hc
  ·simp[aA]at hc
 all_goals (repeat' split at hc)
 all_goals (exfalso;simp_all [aI,aA];done)
theorem aLG{op:Op}{e:TypeId}{sz len:Nat}{z:List PV}{l:List (Nat×Nat×AX)}(hc:iW P op=some (.bsl e sz len z l)):∃t ps,op=.buildSlice t len ps∧P.underlying t=some (.slice e)∧dF P e=some sz∧iQ P e=some z∧kJ (fun i=>some (i*sz,sz)) ps.toList=some l:=by
 cases op<;>simp only[iW,aI,aE,aA,aG,reduceCtorEq,and_false,exists_false,aB]at hc
 case buildSlice t' len' ps'=>
  obtain⟨e',h1,sz',h2,z',h3,l',h4,h5⟩:=hc;injection h5 with h5 h6 h7 h8 h9;subst h5;subst h6;subst h7;subst h8;subst h9;refine⟨_,_,rfl,?_,h2,h3,h4⟩;unfold jF at h1;split at h1
  ·rename_i e2 hu;injection h1 with h1;rw[hu,h1]
  ·cases h1
 case fieldAddr=>
  obtain⟨_,_,_,_,_,_,hc⟩:=hc;split at hc
  ·cases hc
  ·simp[aA]at hc
 all_goals (repeat' split at hc)
 all_goals (exfalso;simp_all [aI,aA];done)
theorem FF(hs:eJ G β R st a w){aop:oN}(hc:iW P o.op=some aop){x:AO}{mk:Nat→V}(hn:yX st aop=some (x,mk)):aRA P β R o a w x mk:=by
 cases aop<;>simp only[yX,reduceCtorEq,aB,Prod.mk.injEq]at hn
 case alloc t z=>
  obtain⟨ho,hz⟩:=aD6 hc;obtain⟨rfl,rfl⟩:=hn;obtain⟨v,hv,rfl⟩:=kD hz;refine⟨.pointer (some ⟨w.heap.size,0,none⟩),.cells v.cells t,0,?_,fun β' w' kp hb=>⟨v.cells,hb,(nO v).mono fun _ _=>CR.keep kp⟩,fun β' id w' hid=>⟨w.heap.size,0,hid,rfl⟩⟩;simp[execOp,ho,Instr.alloc,hv,newVar,newRow]
 case box t ax=>
  obtain⟨y,ho,hy⟩:=aLH hc
  have hv:=aM hs hy
  split at hn
  ·rename_i cs hcs
   split at hn
   ·rename_i h1
    simp only[aB,Prod.mk.injEq]at hn;obtain⟨rfl,rfl⟩:=hn;refine⟨.pointer (some ⟨w.heap.size,0,none⟩),.cells (a.eval y).cells t,0,?_,fun β' w' kp hb=>⟨(a.eval y).cells,hb,(jO hv hcs h1).1.mono fun _ _=>CR.keep kp⟩,fun β' id w' hid=>⟨w.heap.size,0,hid,rfl⟩⟩;simp[execOp,ho,Instr.box,newVar,newRow]
   ·cases hn
  ·cases hn
 case bsl e sz len z l=>
  obtain⟨t,ps,ho,hu,hsz,hz,hl⟩:=aLG hc;obtain⟨v,hv,rfl⟩:=kD hz;split at hn
  ·rename_i cs hcs
   split at hn
   ·rename_i c1
    simp only[aB,Prod.mk.injEq]at hn;obtain⟨rfl,rfl⟩:=hn;simp only[aS,dZ,fD,List.length_map]at c1;obtain⟨⟨c1,c3⟩,c4⟩:=c1
    have c1:v.cells.size=sz:=by simpa using aF c1
    have c3:0<sz:=by simpa using c3
    subst c1
    have hstart:((Array.range (len*v.cells.size)).map (fun i=>v.cells[i%v.cells.size]!)).toList=replV v.cells.toList len:=by
     rw[Array.toList_map,Array.toList_range,range_cells v.cells c3 len]
    obtain⟨cells',h1,h2⟩:=lS hs _ ps.toList l _ cs ((Array.range (len*v.cells.size)).map (fun i=>v.cells[i%v.cells.size]!)) hl hcs (by rw[hstart];exact pH (nO v) len)
    have hlen:cs.length=len*v.cells.size:=by
     rw[sN st _ _ _ hcs,tJ,BM];simp
    have hcl:cells'.size=len*v.cells.size:=by have:=h2.length;simp at this;omega
    refine⟨.slice (some ⟨w.heap.size,0,none⟩) len len,.cells cells' e,len*v.cells.size,?_,?_,?_⟩
    ·have hne:¬(len*v.cells.size>2^24):=by omega
     have e1:len*v.cells.size=0→(Array.range (len*v.cells.size)).map (fun _=>(default:Value))=(Array.range (len*v.cells.size)).map (fun i=>v.cells[i%v.cells.size]!):=fun h0=>by simp[h0]
     simp only[execOp,ho,Instr.buildSlice];simp[run_underlying hu,run_sizeOf hsz,if_neg hne]
     by_cases h0:len*v.cells.size=0
     ·rw[if_pos h0,e1 h0,h1]
      simp[newRow]
     ·rw[if_neg h0,hv]
      simp[h1,newRow]
    ·intro β' w' kp hb
     refine⟨cells',hb,hcl,aJ _,?_⟩;intro i j hi hj
     have hlt:i*v.cells.size+j<len*v.cells.size:=by
      have:=Nat.mul_le_mul_right v.cells.size (show i+1≤len by omega)
      rw[Nat.add_mul,Nat.one_mul]at this;omega
     obtain⟨u,hu⟩:∃u,cells'.toList[i*v.cells.size+j]?=some u:=⟨_,aH (by simp;omega)⟩
     refine⟨u,by simpa using hu,?_⟩;rw[aB0 hj (by omega)];exact pY.of ((wD st _ _ _ (wB (wC _) _) hcs).nth_ _) (CR.keep kp (h2.nth_get hu))
    ·intro β' id w' hid
     exact⟨_,len,rfl,aJ _,by unfold maxLen;have:len*1≤len*v.cells.size:=Nat.mul_le_mul_left _ c3;omega,.inr ⟨w.heap.size,_,hid,by simp,by simp⟩⟩
   ·cases hn
  ·cases hn
def cZ(st st':St)(l:List Nat):Prop:=∀s∈l,aZ (.c .top) st'.t s=aZ (.c .top) st.t s
theorem cZ.left{l l':List Nat}(h:cZ st st' (l++l')):cZ st st' l:=fun s hs=>h s (gL.2 (.inl hs))
theorem cZ.right{l l':List Nat}(h:cZ st st' (l++l')):cZ st st' l':=fun s hs=>h s (gL.2 (.inr hs))
theorem bY{x:AX}(h:cZ st st' x.sl):st'.ev x=st.ev x:=by
 cases x with
 |t k=>exact h k (List.mem_singleton.2 rfl)
 |k v=>rfl
theorem tW:∀ {xs:List AX} (_:cZ st st' (AW xs)),sY st' xs=sY st xs
 |[],_=>rfl
 |x::r,h=>by simp only[sY];rw[bY (cZ.left h),tW (cZ.right h)]
theorem qT:∀ {ps:List (Nat×Nat×AX)} {vs:List C} (_:cZ st st' (QG ps)),kT st' vs ps=kT st vs ps
 |[],_,_=>rfl
 |(o,s,x)::r,vs,h=>by
  simp only[kT];rw[bY (cZ.left h)];split
  ·split
   ·exact qT (cZ.right h)
   ·rfl
  ·rfl
theorem wE{op:oN}(h:cZ st st' op.sls):yX st' op=yX st op:=by
 cases op<;>simp only[yX,oN.sls]at h ⊢
 case box ty x=>rw[bY h]
 case bsl=>rw[qT h]
theorem ZX{ext:Ext}{K:X→St→Prop}{k:V→List AO→Tr}{op:oN}(hn:op.nw=true)(h:(jB ext st k op).holds P G K) :
  ∃x mk,yX st op=some (x,mk)∧(k (mk (gA st.h)) (gE x st.h)).holds P G K:=by
 cases op<;>simp only[oN.nw,dO]at hn
 case alloc ty z=>exact⟨_,_,rfl,h⟩
 case box ty x=>
  simp only[jB]at h;simp only[yX];split at h
  ·rename_i cs hcs
   obtain⟨h1,h2⟩:=bO h;simp only[h1];exact⟨_,_,rfl,h2⟩
  ·exact h.elim
 case bsl ty sz len z ps=>
  simp only[jB]at h;simp only[yX];split at h
  ·rename_i cs hcs
   obtain⟨h1,h2⟩:=bO h;simp only[h1];exact⟨_,_,rfl,h2⟩
  ·exact h.elim
end
section
variable {P:Program} {G:Nat→Option Obj} {st:St}
theorem iM{h:List AO}{id:Nat}{x:AO}(hx:aZ .gone h id=x)(hl:x≠.gone):id<h.length:=by
 rw[eG]at hx
 rcases cA id h.length with h'|h'
 ·exact h'
 ·rw[aD,bB h',Option.getD_none]at hx
  exact absurd hx.symm hl
def aHV(P:Program)(G:Nat→Option Obj)(ext:Ext)(st:St)(op:oN)(v:V):Prop:=
 ∀st',cZ st st' op.sls→(∀id,id<st.h.length→aZ .gone st'.h id=aZ .gone st.h id)→∀k' K',(k' v st'.h).holds P G K'→(jB ext st' k' op).holds P G K'
theorem eI{b:Bool}{p:Tr}{K:X→St→Prop}(hb:b=true)(h:p.holds P G K):(nH b p).holds P G K:=by rw[hb];exact h
theorem aDF{op:BinOp}{k:IntKind}{a b:Int}{q:PV→Tr}{K:X→St→Prop}(h:(IW op k a b q).holds P G K):∃v,(q v).holds P G K∧∀q' K',(q' v).holds P G K'→(IW op k a b q').holds P G K':=by
 cases op<;>simp only[IW]at h ⊢
 all_goals first
  |exact h.elim
  |exact⟨_,h.2,fun _ _ hk=>⟨h.1,hk⟩⟩
  |exact⟨_,h,fun _ _ hk=>hk⟩
theorem aDE{op:BinOp}{a b:ByteArray}{q:PV→Tr}{K:X→St→Prop}(h:(IV op a b q).holds P G K):∃v,(q v).holds P G K∧∀q' K',(q' v).holds P G K'→(IV op a b q').holds P G K':=by
 cases op<;>simp only[IV]at h ⊢
 all_goals first
  |exact h.elim
  |exact⟨_,h.2,fun _ _ hk=>⟨h.1,hk⟩⟩
  |exact⟨_,h,fun _ _ hk=>hk⟩
theorem aDG{op:BinOp}{a b:Bool}{q:PV→Tr}{K:X→St→Prop}(h:(aDH op a b q).holds P G K):∃v,(q v).holds P G K∧∀q' K',(q' v).holds P G K'→(aDH op a b q').holds P G K':=by
 cases op<;>simp only[aDH]at h ⊢
 all_goals first
  |exact h.elim
  |exact⟨_,h,fun _ _ hk=>hk⟩
theorem uY{xs ys:List C}:∀ {l:List (Nat×PK)} {q:Bool→Tr} {K:X→St→Prop},(pT xs ys l q).holds P G K→∃b,(q b).holds P G K∧∀q' K',(q' b).holds P G K'→(pT xs ys l q').holds P G K'
 |[],q,K,h=>⟨true,h,fun _ _ hk=>hk⟩
 |(o,pk)::r,q,K,h=>by
  simp only[pT]at h ⊢;split at h
  ·obtain⟨h1,h2⟩:=bO h
   obtain⟨b,q1,q2⟩:=uY h2;exact⟨_,q1,fun q' K' hk=>eI h1 (q2 _ _ hk)⟩
  ·obtain⟨b,q1,q2⟩:=uY h
   exact⟨_,q1,fun q' K' hk=>q2 _ _ hk⟩
  ·obtain⟨b,q1,q2⟩:=uY h
   exact⟨_,q1,fun q' K' hk=>q2 _ _ hk⟩
  ·exact h.elim
theorem oH{d:Nat}{x:Option AX}{q:Int→Tr}{K:X→St→Prop}(h:(xX st d x q).holds P G K):∃n,(q n).holds P G K∧∀st',cZ st st' (slO x)→∀q' K',(q' n).holds P G K'→(xX st' d x q').holds P G K':=by
 cases x with
 |none=>exact⟨d,h,fun _ _ _ _ hk=>hk⟩
 |some ax=>
  simp only[xX]at h ⊢;split at h
  ·rename_i he
   exact⟨_,h,fun st' ha q' K' hk=>by rw[bY ha,he];exact hk⟩
  ·exact h.elim
theorem aDD{op:BinOp}{k k2:IntKind}{a b:Int}{K1:Int→Tr}{K:X→St→Prop}(h:(UC op k a k2 b K1).holds P G K):∃n,(K1 n).holds P G K∧∀(K2:Int→Tr) (K':X→St→Prop),(K2 n).holds P G K'→(UC op k a k2 b K2).holds P G K':=by
 cases op<;>simp only[UC]at h ⊢
 case add=>obtain⟨c,h⟩:=bO h;exact⟨_,h,fun _ _ hk=>eI c hk⟩
 case sub=>obtain⟨c,h⟩:=bO h;exact⟨_,h,fun _ _ hk=>eI c hk⟩
 case mul=>obtain⟨c,h⟩:=bO h;exact⟨_,h,fun _ _ hk=>eI c hk⟩
 case and=>obtain⟨c,h⟩:=bO h;exact⟨_,h,fun _ _ hk=>eI c hk⟩
 case or=>obtain⟨c,h⟩:=bO h;exact⟨_,h,fun _ _ hk=>eI c hk⟩
 case xor=>obtain⟨c,h⟩:=bO h;exact⟨_,h,fun _ _ hk=>eI c hk⟩
 case shl=>exact⟨_,h.2,fun _ _ hk=>⟨h.1,hk⟩⟩
 case shr=>exact⟨_,h.2,fun _ _ hk=>⟨h.1,hk⟩⟩
 all_goals exact h.elim
theorem aCY{x y:V}{K1:Bool→Tr}{K:X→St→Prop}(h:(aH2 x y K1).holds P G K):∃b,(K1 b).holds P G K∧∀(K2:Bool→Tr) (K':X→St→Prop),(K2 b).holds P G K'→(aH2 x y K2).holds P G K':=by
 unfold aH2 at h ⊢;split at h
 ·exact⟨_,h,fun _ _ hk=>hk⟩
 ·exact⟨_,h,fun _ _ hk=>hk⟩
 ·exact h.elim
theorem SO{k:Int}{K1:Nat→Tr}{K:X→St→Prop}:∀ {n j:Nat},(ixT k n j K1).holds P G K→∃q,(K1 q).holds P G K∧∀(K2:Nat→Tr) (K':X→St→Prop),(K2 q).holds P G K'→(ixT k n j K2).holds P G K'
 |0,_,h=>h.elim
 |1,j,h=>⟨j,h,fun _ _ hk=>hk⟩
 |n+2,j,h=>by
  unfold ixT at h ⊢
  by_cases e:k=(j:Int)
  ·simp only[decide_eq_true e]at h ⊢
   exact⟨j,h,fun _ _ hk=>hk⟩
  ·simp only[decide_eq_false e]at h ⊢
   exact SO (n:=n+1) (j:=j+1) h
theorem aC4{op:UP}(hh:op.hd=true){k:V→List AO→Tr}{K:X→St→Prop}(h:(kB st k op).holds P G K) :
  ∃v,(k v st.h).holds P G K∧∀st',cZ st st' op.sls→(∀id,id<st.h.length→aZ .gone st'.h id=aZ .gone st.h id)→∀(k':V→List AO→Tr) (K':X→St→Prop),(k' v st'.h).holds P G K'→(kB st' k' op).holds P G K':=by
 cases op<;>simp only[UP.hd,dO]at hh<;>simp only[kB]at h
 case nilc x=>
  split at h
  ·rename_i he
   exact⟨_,h,fun st' ha hp k' K' hk=>by simp only[kB,bY ha,he];exact hk⟩
  ·rename_i he
   exact⟨_,h,fun st' ha hp k' K' hk=>by simp only[kB,bY ha,he];exact hk⟩
  ·rename_i he
   exact⟨_,h,fun st' ha hp k' K' hk=>by simp only[kB,bY ha,he];exact hk⟩
  ·rename_i f fs cs he
   split at h
   ·exact⟨_,h,fun st' ha hp k' K' hk=>by simp only[kB,bY ha,he];exact hk⟩
   ·exact h.elim
  ·exact h.elim
 case eqp neg x y=>
  obtain⟨b,h1,h2⟩:=aCY h;exact⟨_,h1,fun st' ha hp k' K' hk=>by simp only[kB,bY (cZ.left ha),bY (cZ.right ha)];exact h2 _ _ hk⟩
 case faddrI sz n x i=>
  split at h
  ·rename_i he he2
   obtain⟨h0,h⟩:=h;obtain⟨q,h1,h2⟩:=SO h;exact⟨_,h1,fun st' ha hp k' K' hk=>by simp only[kB,bY (cZ.left ha),bY (cZ.right ha),he,he2];exact⟨h0,h2 _ _ hk⟩⟩
  ·exact h.elim
 case min3 x y c=>
  split at h
  ·rename_i he he2 he3
   exact⟨_,h,fun st' ha hp k' K' hk=>by simp only[kB,bY (cZ.left ha),bY (cZ.left (cZ.right ha)),bY (cZ.right (cZ.right ha)),he,he2,he3];exact hk⟩
  ·exact h.elim
 case gsl g n=>exact⟨_,h,fun st' ha hp k' K' hk=>by simp only[kB];exact hk⟩
 case conv kd x=>
  split at h
  ·rename_i he
   exact⟨_,h,fun st' ha hp k' K' hk=>by simp only[kB,bY ha,he];exact hk⟩
  ·exact h.elim
 case carry sub x y c=>
  split at h
  ·rename_i he he2 he3
   obtain⟨h0,h⟩:=h;exact⟨_,h,fun st' ha hp k' K' hk=>by simp only[kB,bY (cZ.left ha),bY (cZ.left (cZ.right ha)),bY (cZ.right (cZ.right ha)),he,he2,he3];exact⟨h0,hk⟩⟩
  ·exact h.elim
 case negw kd x=>
  split at h
  ·rename_i he
   obtain⟨h0,h⟩:=bO h;exact⟨_,h,fun st' ha hp k' K' hk=>by simp only[kB,bY ha,he];exact eI h0 hk⟩
  ·exact h.elim
 case binw op kd x y=>
  split at h
  ·rename_i he he2
   obtain⟨h0,h⟩:=bO h;obtain⟨q,h1,h2⟩:=aDD h;exact⟨_,h1,fun st' ha hp k' K' hk=>by simp only[kB,bY (cZ.left ha),bY (cZ.right ha),he,he2];exact eI h0 (h2 _ _ hk)⟩
  ·exact h.elim
 case capn x=>
  split at h
  ·rename_i he
   exact⟨_,h,fun st' ha hp k' K' hk=>by simp only[kB,bY ha,he];exact hk⟩
  ·exact h.elim
 case lookl ok2 x y=>
  split at h
  ·rename_i id he
   split at h
   ·rename_i ok ty sz g k0 c hid
    split at h
    ·rename_i kv hkv
     obtain⟨h0,h1,h2⟩:=bO h;exact⟨_,h2,fun st' ha hp k' K' hk=>by simp only[kB,bY (cZ.left ha),bY (cZ.right ha),he,hp id (iM hid (by simp)),hid,hkv];exact eI h0 ⟨h1,hk⟩⟩
    ·exact h.elim
   ·exact h.elim
  ·exact h.elim
theorem aJ2{ext:Ext}(hext:cF P G ext){op:oN}(hh:op.hd=true)(hn:op.nw=false){k:V→List AO→Tr}{K:X→St→Prop}(h:(jB (jY ext) st k op).holds P G K) :
  ∃v,(k v st.h).holds P G K∧aHV P G (jY ext) st op v:=by
 cases op<;>simp only[oN.hd,oN.nw,dO,Bool.true_eq_false]at hh hn<;>simp only[jB]at h
 case mv x=>exact⟨_,h,fun st' ha _ k' K' hk=>by simp only[jB,bY ha];exact hk⟩
 case more o=>
  obtain⟨v,h1,h2⟩:=aC4 hh h;exact⟨v,h1,fun st' ha hp k' K' hk=>h2 st' ha hp k' K' hk⟩
 case look ok2 two x y=>
  split at h
  ·rename_i id he
   split at h
   ·rename_i ok g hid
    split at h
    ·rename_i kv hkv
     exact⟨_,h.2,fun st' ha hp k' K' hk=>by simp only[jB,bY (cZ.left ha),bY (cZ.right ha),he,hp id (iM hid (by simp)),hid,hkv];exact⟨h.1,hk⟩⟩
    ·exact h.elim
   ·exact h.elim
  ·exact h.elim
 case pick c x y=>
  split at h
  ·rename_i b hb
   cases b with
   |true=>exact⟨_,h,fun st' ha _ k' K' hk=>by simp only[jB,bY (cZ.left ha),hb];exact(show (k' (st'.ev x) st'.h).holds P G K' by rw[bY (cZ.left (cZ.right ha))];exact hk)⟩
   |false=>exact⟨_,h,fun st' ha _ k' K' hk=>by simp only[jB,bY (cZ.left ha),hb];exact(show (k' (st'.ev y) st'.h).holds P G K' by rw[bY (cZ.right (cZ.right ha))];exact hk)⟩
  ·exact h.elim
 case build z ps=>
  split at h
  ·rename_i cs hcs
   exact⟨_,h,fun st' ha _ k' K' hk=>by simp only[jB,qT ha,hcs];exact hk⟩
  ·exact h.elim
 case load n x=>
  split at h
  ·rename_i id off he
   split at h
   ·rename_i vs hb
    obtain⟨h1,h2⟩:=bO h;exact⟨_,h2,fun st' ha hp k' K' hk=>by simp only[jB,bY ha,he,hp id (iM hb (by simp)),hb];exact eI h1 hk⟩
   ·rename_i j b0 hb
    split at h
    ·rename_i vs hb2
     obtain⟨h1,h2⟩:=bO h;exact⟨_,h2,fun st' ha hp k' K' hk=>by simp only[jB,bY ha,he,hp id (iM hb (by simp)),hb,hp j (iM hb2 (by simp)),hb2];exact eI h1 hk⟩
    ·exact h.elim
   ·exact h.elim
  ·rename_i id sz e off he
   split at h
   ·rename_i sz' m f hb
    obtain⟨h0,h⟩:=h;obtain⟨h1,h2⟩:=bO h;exact⟨_,h2,fun st' ha hp k' K' hk=>by simp only[jB,bY ha,he,hp id (iM hb (by simp)),hb];exact⟨h0,eI h1 hk⟩⟩
   ·rename_i ty sz' m e0 vs f hb
    obtain⟨h0,h⟩:=h;obtain⟨h1,h2⟩:=bO h;exact⟨_,h2,fun st' ha hp k' K' hk=>by simp only[jB,bY ha,he,hp id (iM hb (by simp)),hb];exact⟨h0,eI h1 hk⟩⟩
   ·exact h.elim
  ·rename_i sz m f e off he
   obtain⟨h1,h2⟩:=bO h;exact⟨_,h2,fun st' ha hp k' K' hk=>by simp only[jB,bY ha,he];exact eI h1 hk⟩
  ·exact h.elim
 case bin op x y=>
  split at h
  ·rename_i i a j b hx hy
   obtain⟨h1,h2⟩:=bO h;obtain⟨v,q1,q2⟩:=aDF h2;exact⟨_,q1,fun st' ha _ k' K' hk=>by simp only[jB,bY (cZ.left ha),bY (cZ.right ha),hx,hy];exact eI h1 (q2 _ _ hk)⟩
  ·rename_i a b hx hy
   obtain⟨v,q1,q2⟩:=aDE h;exact⟨_,q1,fun st' ha _ k' K' hk=>by simp only[jB,bY (cZ.left ha),bY (cZ.right ha),hx,hy];exact q2 _ _ hk⟩
  ·exact h.elim
 case binb op x y=>
  split at h
  ·rename_i a b hx hy
   obtain⟨v,q1,q2⟩:=aDG h;exact⟨_,q1,fun st' ha _ k' K' hk=>by simp only[jB,bY (cZ.left ha),bY (cZ.right ha),hx,hy];exact q2 _ _ hk⟩
  ·exact h.elim
 case eqs neg l x y=>
  split at h
  ·rename_i xs ys hx hy
   obtain⟨b,q1,q2⟩:=uY h;exact⟨_,q1,fun st' ha _ k' K' hk=>by simp only[jB,bY (cZ.left ha),bY (cZ.right ha),hx,hy];exact q2 _ _ hk⟩
  ·exact h.elim
 case slc sz x lo hi=>
  split at h
  ·rename_i he
   obtain⟨h1,h2⟩:=bO h;obtain⟨n,q1,q2⟩:=oH h2;obtain⟨m,q3,q4⟩:=oH q1;exact⟨_,q3.2,fun st' ha _ k' K' hk=>by simp only[jB,bY (cZ.left ha),he];exact eI h1 (q2 st' (cZ.right (cZ.right ha)) _ _ (q4 st' (cZ.left (cZ.right ha)) _ _ ⟨q3.1,hk⟩))⟩
  ·rename_i he
   obtain⟨h1,h2⟩:=bO h;obtain⟨n,q1,q2⟩:=oH h2;obtain⟨m,q3,q4⟩:=oH q1;exact⟨_,q3.2,fun st' ha _ k' K' hk=>by simp only[jB,bY (cZ.left ha),he];exact eI h1 (q2 st' (cZ.right (cZ.right ha)) _ _ (q4 st' (cZ.left (cZ.right ha)) _ _ ⟨q3.1,hk⟩))⟩
  ·rename_i he
   obtain⟨n,q1,q2⟩:=oH h;obtain⟨m,q3,q4⟩:=oH q1;exact⟨_,q3.2,fun st' ha _ k' K' hk=>by simp only[jB,bY (cZ.left ha),he];exact q2 st' (cZ.right (cZ.right ha)) _ _ (q4 st' (cZ.left (cZ.right ha)) _ _ ⟨q3.1,hk⟩)⟩
  ·exact h.elim
 case slcS x lo hi=>
  split at h
  ·rename_i he
   obtain⟨n,q1,q2⟩:=oH h;obtain⟨m,q3,q4⟩:=oH q1;exact⟨_,q3.2,fun st' ha _ k' K' hk=>by simp only[jB,bY (cZ.left ha),he];exact q2 st' (cZ.right (cZ.right ha)) _ _ (q4 st' (cZ.left (cZ.right ha)) _ _ ⟨q3.1,hk⟩)⟩
  ·exact h.elim
 case not x=>
  split at h
  ·rename_i he
   exact⟨_,h,fun st' ha _ k' K' hk=>by simp only[jB,bY ha,he];exact hk⟩
  ·exact h.elim
 case neg x=>
  split at h
  ·rename_i he
   exact⟨_,h.2,fun st' ha _ k' K' hk=>by simp only[jB,bY ha,he];exact⟨h.1,hk⟩⟩
  ·exact h.elim
 case faddr off x=>
  split at h
  ·rename_i he
   exact⟨_,h,fun st' ha _ k' K' hk=>by simp only[jB,bY ha,he];exact hk⟩
  ·rename_i he
   exact⟨_,h,fun st' ha _ k' K' hk=>by simp only[jB,bY ha,he];exact hk⟩
  ·rename_i he
   exact⟨_,h,fun st' ha _ k' K' hk=>by simp only[jB,bY ha,he];exact hk⟩
  ·exact h.elim
 case fld off n x=>
  split at h
  ·rename_i he
   obtain⟨h1,h2⟩:=bO h;exact⟨_,h2,fun st' ha _ k' K' hk=>by simp only[jB,bY ha,he];exact eI h1 hk⟩
  ·exact h.elim
 case idxA sz x i=>
  split at h
  ·rename_i hi
   split at h
   ·rename_i he
    obtain⟨h1,h2⟩:=bO h;exact⟨_,h2.2,fun st' ha _ k' K' hk=>by simp only[jB,bY (cZ.left ha),bY (cZ.right ha),hi,he];exact eI h1 ⟨h2.1,hk⟩⟩
   ·rename_i he
    obtain⟨h1,h2⟩:=bO h;exact⟨_,h2.2,fun st' ha _ k' K' hk=>by simp only[jB,bY (cZ.left ha),bY (cZ.right ha),hi,he];exact eI h1 ⟨h2.1,hk⟩⟩
   ·exact h.elim
  ·exact h.elim
 case idxS x i=>
  split at h
  ·rename_i hi
   split at h
   ·rename_i he
    exact⟨_,h.2,fun st' ha _ k' K' hk=>by simp only[jB,bY (cZ.left ha),bY (cZ.right ha),hi,he];exact⟨h.1,hk⟩⟩
   ·exact h.elim
  ·exact h.elim
 case extr x i=>
  split at h
  ·rename_i he
   obtain⟨h1,h2⟩:=bO h;exact⟨_,h2,fun st' ha _ k' K' hk=>by simp only[jB,bY ha,he];exact eI h1 hk⟩
  ·exact h.elim
 case call f xs=>
  obtain⟨v,q1,q2⟩:=aBS hext h;exact⟨v,q1,fun st' ha _ k' K' hk=>by simp only[jB,tW ha];exact q2 _ _ _ hk⟩
 case len x=>
  split at h
  ·rename_i he
   exact⟨_,h,fun st' ha _ k' K' hk=>by simp only[jB,bY ha,he];exact hk⟩
  ·rename_i he
   exact⟨_,h,fun st' ha _ k' K' hk=>by simp only[jB,bY ha,he];exact hk⟩
  ·rename_i he
   exact⟨_,h,fun st' ha _ k' K' hk=>by simp only[jB,bY ha,he];exact hk⟩
  ·exact h.elim
 case lenS x=>
  split at h
  ·rename_i he
   exact⟨_,h,fun st' ha _ k' K' hk=>by simp only[jB,bY ha,he];exact hk⟩
  ·exact h.elim
 case min x y=>
  split at h
  ·rename_i hx hy
   exact⟨_,h,fun st' ha _ k' K' hk=>by simp only[jB,bY (cZ.left ha),bY (cZ.right ha),hx,hy];exact hk⟩
  ·exact h.elim
 case max x y=>
  split at h
  ·rename_i hx hy
   exact⟨_,h,fun st' ha _ k' K' hk=>by simp only[jB,bY (cZ.left ha),bY (cZ.right ha),hx,hy];exact hk⟩
  ·exact h.elim
end
section
variable {P:Program} {G:Nat→Option Obj}
theorem PW{α:Type}{d v:α}:∀ {l:List α} {j:Nat},aZ d l j=v→upd v l j=l
 |[],_,_=>rfl
 |_::_,0,h=>by simp only[aZ]at h;simp[upd,h]
 |_::r,j+1,h=>by simp only[aZ]at h;simp[upd,PW (l:=r) h]
def mW(st:St):Option (Nat×Bool)→Option Bool
 |none=>some true
 |some (j,want)=>match aZ (.c .top) st.t j with
  |.c (.p (.b x))=>some (x==want)
  |.t []=>some false
  |_=>none
def yI(P:Program)(G:Nat→Option Obj)(ext:Ext)(ai:AI)(s s1:St):Prop:=
 (mW s ai.guard=some false∧s1=⟨mL s.t ai.dst (.t []),s.h⟩) ∨
 (mW s ai.guard=some true∧∃v,s1=⟨mL s.t ai.dst v,s.h⟩∧aHV P G (jY ext) s ai.op v) ∨
 (mW s ai.guard=some true∧∃x mk,yX s ai.op=some (x,mk)∧s1=⟨mL s.t ai.dst (mk (gA s.h)),gE x s.h⟩)
theorem MR{ext:Ext}(hext:cF P G ext){ai:AI}(hd:ai.op.hd=true){s:St}{k:St→Tr}{K:X→St→Prop}(hg:mW s ai.guard=some true)
  (h:(jB (jY ext) s (fun v h'=>k ⟨mL s.t ai.dst v,h'⟩) ai.op).holds P G K):∃s1,(k s1).holds P G K∧yI P G ext ai s s1:=by
 cases hn:ai.op.nw with
 |true=>
  obtain⟨x,mk,h1,h2⟩:=ZX hn h;exact⟨_,h2,.inr (.inr ⟨hg,x,mk,h1,rfl⟩)⟩
 |false=>
  obtain⟨v,h1,h2⟩:=aJ2 hext hd hn h;exact⟨_,h1,.inr (.inl ⟨hg,v,rfl,h2⟩)⟩
theorem tP{ext:Ext}(hext:cF P G ext){k:St→Tr}{K:X→St→Prop}:∀(l:List AI) (s:St),(∀ai∈l,ai.op.hd=true)→(kG (jY ext) l s k).holds P G K →
  ∃S:Nat→St,S 0=s∧(k (S l.length)).holds P G K∧∀i ai,l[i]?=some ai→yI P G ext ai (S i) (S (i+1))
 |[],s,_,h=>⟨fun _=>s,rfl,h,fun i ai hi=>by simp at hi⟩
 |ai::l,s,hd,h=>by
  have key:∃s1,(kG (jY ext) l s1 k).holds P G K∧yI P G ext ai s s1:=by
   have hai:=hd ai (by simp)
   simp only[kG]at h;cases hg:ai.guard with
   |none=>
    rw[hg]at h;exact MR hext hai (k:=fun s'=>kG (jY ext) l s' k) (by rw[hg];rfl) h
   |some jw=>
    obtain⟨j,want⟩:=jw;rw[hg]at h;dsimp only at h;split at h
    ·rename_i x hx
     have hgw:mW s ai.guard=some (x==want):=by rw[hg];simp only[mW,hx]
     have e:∀b,x=b→upd (.c (.p (.b b))) s.t j=s.t:=fun b hb=>PW (d:=.c .top) (by rw[hx,hb])
     cases want<;>cases x
     ·refine MR hext hai (k:=fun s'=>kG (jY ext) l s' k) hgw ?_
      have h:(jB (jY ext) ⟨upd (.c (.p (.b false))) s.t j,s.h⟩ (fun v h=>kG (jY ext) l ⟨mL (upd (.c (.p (.b false))) s.t j) ai.dst v,h⟩ k) ai.op).holds P G K:=h
      rw[e false rfl]at h;exact h
     ·have h:(kG (jY ext) l ⟨mL (upd (.c (.p (.b true))) s.t j) ai.dst (.t []),s.h⟩ k).holds P G K:=h
      rw[e true rfl]at h;exact⟨_,h,.inl ⟨hgw,rfl⟩⟩
     ·have h:(kG (jY ext) l ⟨mL (upd (.c (.p (.b false))) s.t j) ai.dst (.t []),s.h⟩ k).holds P G K:=h
      rw[e false rfl]at h;exact⟨_,h,.inl ⟨hgw,rfl⟩⟩
     ·refine MR hext hai (k:=fun s'=>kG (jY ext) l s' k) hgw ?_
      have h:(jB (jY ext) ⟨upd (.c (.p (.b true))) s.t j,s.h⟩ (fun v h=>kG (jY ext) l ⟨mL (upd (.c (.p (.b true))) s.t j) ai.dst v,h⟩ k) ai.op).holds P G K:=h
      rw[e true rfl]at h;exact h
    ·rename_i hx
     exact⟨_,h,.inl ⟨by rw[hg];simp only[mW,hx],rfl⟩⟩
    ·exact h.elim
  obtain⟨s1,h1,h2⟩:=key;obtain⟨S,q1,q2,q3⟩:=tP hext l s1 (fun ai hai=>hd ai (by simp[hai])) h1;refine⟨fun i=>match i with|0=>s|i+1=>S i,rfl,q2,fun i ai' hi=>?_⟩;cases i with
  |zero=>simp at hi;subst hi;dsimp only;rw[q1];exact h2
  |succ i=>exact q3 i ai' (by simpa using hi)
theorem gY{α:Type}{f:Nat→α→Bool}:∀ {l:List α} {k:Nat},mG f k l=true→∀i x,l[i]?=some x→f (k+i) x=true
 |y::r,k,h,0,x,hx=>by
  simp only[mG,aS]at h;simp at hx;subst hx;exact h.1
 |y::r,k,h,i+1,x,hx=>by
  simp only[mG,aS]at h
  have:=gY h.2 i x (by simpa using hx)
  rwa [show k+1+i=k+(i+1) by omega]at this
theorem vB{α:Type}{f:α→Bool}:∀ {l:List α},UG f l=true→∀x∈l,f x=true
 |y::r,h,x,hx=>by
  simp only[UG,aS]at h
  rcases cR.1 hx with rfl|hx
  ·exact h.1
  ·exact vB h.2 x hx
theorem nK{α:Type}{f:α→Bool}:∀ {l:List α},wR f l=true→∃x∈l,f x=true
 |y::r,h=>by
  simp only[wR,cE]at h
  rcases h with h|h
  ·exact⟨y,by simp,h⟩
  ·obtain⟨x,h1,h2⟩:=nK h;exact⟨x,by simp[h1],h2⟩
theorem kA{ops:Array Oper}{i j:Nat}{o:Oper}(ho:ops[i]?=some o)(h:oO o j=true):dR .any ops i j=true:=by
 obtain⟨e,he,h2⟩:=nK h;simp only[aS]at h2;unfold dR;simp only[ho];exact Array.any_eq_true'.2 ⟨e,by simpa using he,by simp[h2.1,aF h2.2]⟩
theorem kQ{s:Nat}:∀ {l:List Nat},s∈l→oM s l=true
 |x::r,h=>by
  simp only[oM,cE]
  rcases cR.1 h with rfl|h
  ·exact .inl (by simp)
  ·exact .inr (kQ h)
structure RegB (ops:Array Oper) (al:List AI) (n:Nat):Prop where
 back:∀i o,ops[i]?=some o→∀e∈o.after,eW .any e=true→e.on<i
 hd:∀i ai,al[i]?=some ai→i<n→ai.op.hd=true
 dst:∀i j x y d,al[i]?=some x→al[j]?=some y→i<n→j<n→i≠j→x.dst=some d→y.dst≠some d
 dep:∀i j x y d,al[i]?=some x→al[j]?=some y→i<n→j<n→y.dst=some d→d∈x.sls→dR .any ops i j=true∨dR .any ops j i=true
structure LY (ops:Array Oper) (al:List AI) (n:Nat):Prop extends RegB ops al n where
 tl:ops.size≤n∨(Region.sinkB .any ops n=true∧Region.chainB .any ops n=true)
theorem PZ{ops:Array Oper}{i:Nat}{o:Oper}(ho:o∈(ops.toList.drop i).take 1):ops[i]?=some o:=by
 rw[fI]at ho;obtain⟨q,hq⟩:=ho;rw[fG]at hq;split at hq
 ·have:q=0:=by omega
  subst this;simpa using hq
 ·cases hq
theorem aEQ{ops:Array Oper}{al:List AI}{n:Nat}(h:QO ops.toList al n=true):LY ops al n:=by
 unfold QO at h;simp only[aS]at h;obtain⟨h1,h2,h3,h4,h5⟩:=h;refine⟨⟨?_,?_,?_,?_⟩,?_⟩
 ·intro i o ho e he hb
  have:=vB (gY h1 i o (by simpa using ho)) e (by simpa using he)
  simpa[hb] using this
 ·intro i ai hi hn
  have:=gY h2 i ai hi
  simp only[cE,dZ]at this
  rcases this with h|h
  ·omega
  ·exact h
 ·intro i j x y d hx hy hi hj hij hd hd'
  have:=gY h3 i x hx
  simp only[cE,dZ]at this
  rcases this with h|h
  ·omega
  ·have:=gY h j y hy
   simp only[cE,dZ,hd,hd',eqD]at this
   rcases this with h|h|h
   ·omega
   ·have:=aF h;omega
   ·simp at h
 ·intro i j x y d hx hy hi hj hd hs
  have:=gY h4 i x hx
  simp only[cE,dZ]at this
  rcases this with h|h
  ·omega
  ·have:=gY h j y hy
   simp only[cE,dZ,hd,inD]at this
   rcases this with h|h|h|h
   ·omega
   ·rw[kQ hs]at h;cases h
   ·obtain⟨o,ho,hw⟩:=nK h
    rw[cK]at hw ho;exact .inl (kA (PZ ho) hw)
   ·obtain⟨o,ho,hw⟩:=nK h
    rw[cK]at hw ho;exact .inr (kA (PZ ho) hw)
 ·simp only[cE,dZ,aS,fD]at h5
  rcases h5 with h|⟨h6,h7⟩
  ·exact .inl (by simpa using h)
  ·rcases cA n ops.size with hns|hns
   case inr=>exact .inl hns
   refine .inr ⟨?_,?_⟩
   ·unfold Region.sinkB
    rw[List.all_eq_true];intro i hi
    have hi:=List.mem_range.1 hi
    rw[List.any_eq_true]
    have his:i<ops.size:=by omega
    have:=gY h6 i ops[i] (by simp[his])
    simp only[cE,dZ,cK]at this
    rcases this with h|h
    ·omega
    ·obtain⟨o,ho,hw⟩:=nK h
     rw[fI]at ho;obtain⟨q,hq⟩:=ho;rw[fG]at hq;split at hq
     ·rw[iD]at hq
      refine⟨i+1+q,List.mem_range.2 (by omega),?_⟩;simp only[aS,decide_eq_true_eq];exact⟨by omega,kA (by simpa using hq) hw⟩
     ·cases hq
   ·unfold Region.chainB
    rw[List.all_eq_true];intro t ht
    have ht:=List.mem_range.1 ht
    have:=gY h7 t ops[t] (by simp[ht])
    simp only[cE,dZ,cK,decide_eq_true_eq]at this ⊢;exact this.imp id (fun h=>kA (by simp[ht]) h)
end
section
variable {P:Program} {G:Nat→Option Obj} {ops:Array Oper} {al:List AI} {n:Nat} {S:Nat→St} {ext:Ext}
structure UK (P:Program) (G:Nat→Option Obj) (ext:Ext) (al:List AI) (n:Nat) (S:Nat→St):Prop where
 len:n≤al.length
 step:∀i ai,i<n→al[i]?=some ai→yI P G ext ai (S i) (S (i+1))
theorem QR(t:List V)(d:Option Nat)(v:V):(mL t d v).length=t.length:=by
 cases d with
 |none=>rfl
 |some d=>show (upd v t d).length=_;rw[fS,cD]
theorem VP{t:List V}{d:Option Nat}{v:V}{s:Nat}(h:d≠some s):aZ (.c .top) (mL t d v) s=aZ (.c .top) t s:=by
 cases d with
 |none=>rfl
 |some d=>exact dC _ _ _ (fun e=>h (by rw[e]))
theorem yI.t_{ai:AI}{s s1:St}(h:yI P G ext ai s s1):∃v,s1.t=mL s.t ai.dst v:=by
 rcases h with⟨_,rfl⟩|⟨_,v,rfl,_⟩|⟨_,x,mk,_,rfl⟩<;>exact⟨_,rfl⟩
theorem yI.h_{ai:AI}{s s1:St}(h:yI P G ext ai s s1):s1.h=s.h∨∃x,s1.h=gE x s.h:=by
 rcases h with⟨_,rfl⟩|⟨_,v,rfl,_⟩|⟨_,x,mk,_,rfl⟩
 ·exact .inl rfl
 ·exact .inl rfl
 ·exact .inr ⟨x,rfl⟩
theorem mR{α:Type}(x:α)(l:List α):(gE x l).length=l.length+1:=by rw[lN];simp
theorem UK.one(h:UK P G ext al n S){i:Nat}(hi:i<n):∃ai,al[i]?=some ai∧yI P G ext ai (S i) (S (i+1)):=
 ⟨al[i]'(bM hi h.len),aH _,h.step i _ hi (aH _)⟩
theorem UK.mono(h:UK P G ext al n S){i:Nat}:∀(d:Nat),i+d≤n→(S (i+d)).t.length=(S i).t.length∧(S i).h.length≤(S (i+d)).h.length ∧
  (∀id,id<(S i).h.length→aZ .gone (S (i+d)).h id=aZ .gone (S i).h id) ∧
  ∀s,(∀l ai,i≤l→l<i+d→al[l]?=some ai→ai.dst≠some s)→aZ (.c .top) (S (i+d)).t s=aZ (.c .top) (S i).t s
 |0,_=>⟨rfl,aJ _,fun _ _=>rfl,fun _ _=>rfl⟩
 |d+1,hd=>by
  obtain⟨h1,h2,h3,h4⟩:=h.mono (i:=i) d (by omega);obtain⟨ai,ha,hs⟩:=h.one (i:=i+d) (by omega);obtain⟨v,hv⟩:=hs.t_;rw[←Nat.add_assoc];refine⟨by rw[hv,QR,h1],?_,?_,?_⟩
  ·rcases hs.h_ with e|⟨x,e⟩<;>rw[e]
   ·exact h2
   ·rw[mR];omega
  ·intro id hid
   rw[←h3 id hid]
   rcases hs.h_ with e|⟨x,e⟩<;>rw[e]
   exact gP _ _ _ (by omega)
  ·intro s hs'
   rw[hv,VP (hs' (i+d) ai (by omega) (by omega) ha)]
   exact h4 s fun l aj h5 h6 h7=>hs' l aj h5 (by omega) h7
theorem UK.le(h:UK P G ext al n S){i j:Nat}(hij:i≤j)(hj:j≤n):(S j).t.length=(S i).t.length∧(S i).h.length≤(S j).h.length ∧
  (∀id,id<(S i).h.length→aZ .gone (S j).h id=aZ .gone (S i).h id) ∧
  ∀s,(∀l ai,i≤l→l<j→al[l]?=some ai→ai.dst≠some s)→aZ (.c .top) (S j).t s=aZ (.c .top) (S i).t s:=by
 have:=h.mono (i:=i) (j-i) (by omega)
 rwa [show i+(j-i)=j by omega]at this
structure HY (G:Nat→Option Obj) (al:List AI) (n:Nat) (S:Nat→St) (β0:Bt) (R0:Nat→Prop) (w0:World) (listed:Array Bool) (a:Act) (w:World) (β:Bt) (R:Nat→Prop):Prop where
 gr:Gr β0 R0 w0 β R w
 hs:HS G β R w (S n).h
 df:a.defers=[]
 sz:a.tmps.size=(S n).t.length
 sl:∀s u,a.tmps[s]?=some u→(∀i ai,i<n→al[i]?=some ai→listed.getD i false=false→ai.dst≠some s)→VR β R w (aZ (.c .top) (S n).t s) u
 fr:∀i,i<n→listed.getD i false=false→∀id,(S i).h.length≤id→id<(S (i+1)).h.length→β id=none
 s0:∀s u,a.tmps[s]?=some u→(∀i ai,i<n→al[i]?=some ai→listed.getD i false=true→ai.dst≠some s)→VR β R w (aZ (.c .top) (S 0).t s) u
variable {β0 β β':Bt} {R0 R R':Nat→Prop} {w0 w w':World} {a:Act} {listed:Array Bool}
theorem pP{i j:Nat}(h:(listed.setIfInBounds i true).getD j false=false)(hi:i<listed.size):listed.getD j false=false∧j≠i:=by
 by_cases e:i=j
 ·subst e;simp[hi]at h
 ·rw[getD_set_ne false e]at h;exact⟨h,fun h'=>e h'.symm⟩
theorem HY.next(hr:UK P G ext al n S)(hok:RegB ops al n)(hI:HY G al n S β0 R0 w0 listed a w β R){i:Nat}{ai:AI}(hi:i<n)(hil:i<listed.size)(ha:al[i]?=some ai){v:V}{u:Value}
  (hv:VR β' R' w' v u) (hv':(S (i+1)).t=mL (S i).t ai.dst v) (hs':HS G β' R' w' (S n).h) (hg:Gr β R w β' R' w')
  (hb:∀id,id<(S n).h.length→(id<(S i).h.length∨(S (i+1)).h.length≤id)→β' id=β id):HY G al n S β0 R0 w0 (listed.setIfInBounds i true) (a.put ai.dst u) w' β' R':=by
 refine⟨hI.gr.trans hg,hs',?_,?_,?_,?_,?_⟩
 ·cases ai.dst<;>exact hI.df
 ·cases hd:ai.dst with
  |none=>exact hI.sz
  |some d=>show (a.tmps.setIfInBounds d u).size=_;rw[Array.size_setIfInBounds];exact hI.sz
 ·intro s u' hu hn
  by_cases hd:ai.dst=some s
  ·rw[hd]at hu
   have hu:(a.tmps.setIfInBounds s u)[s]?=some u':=hu
   have hss:s<a.tmps.size:=by
    rcases cA s a.tmps.size with h|h
    ·exact h
    ·rw[Array.getElem?_eq_none (by simpa using h)]at hu;cases hu
   simp[hss]at hu;subst hu
   have h1:=(hr.le (i:=i+1) (j:=n) hi (aJ _)).2.2.2 s (fun l aj h1 h2 h3 h4=>hok.dst l i aj ai s h3 ha h2 hi (by omega) h4 hd)
   rw[h1,hv',hd]
   have hl:s<(S i).t.length:=by have:=(hr.le (i:=i) (j:=n) (by omega) (aJ _)).1;have:=hI.sz;omega
   show VR β' R' w' (aZ (.c .top) (upd v (S i).t s) s) u
   rw[eO _ _ _ hl];exact hv
  ·have hu':a.tmps[s]?=some u':=by
     cases hq:ai.dst with
     |none=>rw[hq]at hu;exact hu
     |some d=>
      rw[hq]at hu hd
      have hu:(a.tmps.setIfInBounds d u)[s]?=some u':=hu
      rwa [cY (fun e=>hd (by rw[e]))]at hu
   refine VR.keep hg.keeps (hI.sl s u' hu' fun j aj hj hja hjl=>?_)
   by_cases e:j=i
   ·subst e
    rw[ha]at hja;injection hja with hja;subst hja;exact hd
   ·exact hn j aj hj hja (by rw[getD_set_ne false (fun h=>e h.symm)];exact hjl)
 ·intro j hj hjl id h1 h2
  obtain⟨h3,h4⟩:=pP hjl hil
  have h5:=(hr.le (i:=j+1) (j:=n) hj (aJ _)).2.1
  rw[hb id (by omega) ?_]
  ·exact hI.fr j hj h3 id h1 h2
  ·rcases cA j i with h|h
   ·have:=(hr.le (i:=j+1) (j:=i) h (by omega)).2.1;left;omega
   ·have:=(hr.le (i:=i+1) (j:=j) (by omega) (by omega)).2.1;right;omega
 ·intro s u' hu hn
  have hd:ai.dst≠some s:=hn i ai hi ha (by simp[hil])
  have hu':a.tmps[s]?=some u':=by
   cases hq:ai.dst with
   |none=>rw[hq]at hu;exact hu
   |some d=>
    rw[hq]at hu hd
    have hu:(a.tmps.setIfInBounds d u)[s]?=some u':=hu
    rwa [cY (fun e=>hd (by rw[e]))]at hu
  refine VR.keep hg.keeps (hI.s0 s u' hu' fun j aj hj hja hjl=>?_)
  by_cases e:j=i
  ·subst e
   rw[ha]at hja;injection hja with hja;subst hja;exact hd
  ·exact hn j aj hj hja (by rw[getD_set_ne false (fun h=>e h.symm)];exact hjl)
theorem All2.of_get{α γ:Type}{q:α→γ→Prop}:∀ {xs:List α} {ys:List γ},xs.length=ys.length→(∀(i:Nat) x y,xs[i]?=some x→ys[i]?=some y→q x y)→All2 q xs ys
 |[],[],_,_=>trivial
 |[],_::_,h,_=>by simp at h
 |_::_,[],h,_=>by simp at h
 |x::xs,y::ys,h,hq=>⟨hq 0 x y rfl rfl,All2.of_get (by simpa using h) fun i x' y' h1 h2=>hq (i+1) x' y' (by simpa using h1) (by simpa using h2)⟩
theorem kR{st:St}(hs:eJ G β R st a w){o:Oper}{ai:AI}(hc:nZ ops o.guard=some ai.guard){b:Bool}(hg:mW st ai.guard=some b):eQ o (yielded ops a.tmps)=b:=by
 cases hgo:o.guard with
 |none=>
  rw[hgo]at hc;simp only[nZ,aB]at hc;rw[←hc]at hg;simp only[mW,aB]at hg;unfold eQ;rw[hgo];exact hg
 |some jw=>
  obtain⟨j,want⟩:=jw;rw[hgo]at hc;simp only[nZ,aI]at hc;obtain⟨d,hd,hc⟩:=hc;rw[←hc]at hg;simp only[mW]at hg;split at hg
  ·rename_i x hx
   injection hg with hg;rw[←hg];exact wanted_bool hgo hd (hs.tmp_bool hx)
  ·rename_i hx
   injection hg with hg;rw[←hg];exact wanted_undef hgo hd (hs.tmp_undef hx)
  ·cases hg
open Classical in
theorem HY.step(hext:cF P G ext)(hr:UK P G ext al n S)(hok:RegB ops al n){Q:Exit→Act→World→Prop}(hI:HY G al n S β0 R0 w0 listed a w β R){i:Nat}{ai:AI}{o:Oper}(hi:i<n)(hil:i<listed.size)(ha:al[i]?=some ai)(ho:ops[i]?=some o)
  (hc:lU P ops o=some ai) (hun:listed.getD i false=false) (hready:∀e∈o.after,eW .any e=true→listed.getD e.on false=true)
  (hcl:∀j oj,ops[j]?=some oj→listed.getD j false=true→∀e∈oj.after,eW .any e=true→listed.getD e.on false=true) {K:Act→World→Prop}
  (hK:∀a' w' β' R',HY G al n S β0 R0 w0 (listed.setIfInBounds i true) a' w' β' R'→K a' w'):wpOp P ops Q i K a w:=by
 simp only[lU,aE,aA,aG,aB]at hc;obtain⟨aop,hop,g,hgd,rfl⟩:=hc
 let bad:Nat→Prop:=fun s=>∃j aj,j<n∧al[j]?=some aj∧listed.getD j false=false∧aj.dst=some s
 let tM:List V:=(cS (S n).t.length).map fun s=>if bad s then aZ (.c .top) (S 0).t s else aZ (.c .top) (S n).t s
 have hl0:=(hr.le (i:=0) (j:=n) (bK _) (aJ _)).1
 have htM:∀s,¬bad s→aZ (.c .top) tM s=aZ (.c .top) (S n).t s:=by
  intro s hs;rw[eG,eG,aD,aD]
  rcases cA s (S n).t.length with h|h
  ·simp only[tM,cC,eE h,cV,if_neg hs,Option.getD_some]
   rw[eG,aD]
  ·rw[bB h,bB (by simpa[tM] using h)]
 have htB:∀s,bad s→aZ (.c .top) tM s=aZ (.c .top) (S 0).t s:=by
  intro s hs;rw[eG,eG,aD,aD]
  rcases cA s (S n).t.length with h|h
  ·simp only[tM,cC,eE h,cV,if_pos hs,Option.getD_some]
   rw[eG,aD]
  ·rw[bB (l:=(S 0).t) (by omega),bB (by simpa[tM] using h)]
 have hsim:eJ G β R ⟨tM,(S n).h⟩ a w:=by
  refine⟨hI.df,All2.of_get (by simp[tM,hI.sz]) ?_,hI.hs⟩;intro s x y hx hy
  have hy:a.tmps[s]?=some y:=by simpa using hy
  have hsl:s<(S n).t.length:=by
   rcases cA s (S n).t.length with h|h
   ·exact h
   ·have hx:tM[s]?=some x:=hx
    rw[bB (by simpa[tM] using h)]at hx;cases hx
  simp only[tM,cC,eE hsl,cV,aB]at hx;subst hx;split
  ·rename_i hb
   obtain⟨j,aj,h1,h2,h3,h4⟩:=hb
   refine hI.s0 s y hy fun j' aj' h1' h2' h3' h4'=>?_
   by_cases e:j'=j
   ·subst e;rw[h3]at h3';cases h3'
   ·exact hok.dst j' j aj' aj s h2' h2 h1' h1 e h4' h4
  ·rename_i hb
   exact hI.sl s y hy fun j aj h1 h2 h3 h4=>hb ⟨j,aj,h1,h2,h3,h4⟩
 have hdep:∀s∈AI.sls ⟨o.dst,aop,g⟩,∀j aj,j<n→al[j]?=some aj→aj.dst=some s→(j<i∧listed.getD j false=true)∨(i<j∧listed.getD j false=false):=by
  intro s hs j aj hj hja hd
  rcases hok.dep i j _ aj s ha hja hi hj hd hs with hw|hw
  ·obtain⟨o',ho',e,he,hb,hon⟩:=dQ hw
   rw[ho]at ho';injection ho' with ho';subst ho'
   have h1:=hok.back i o ho e he hb
   have h2:=hready e he hb
   rw[hon]at h1 h2;exact .inl ⟨h1,h2⟩
  ·obtain⟨o',ho',e,he,hb,hon⟩:=dQ hw
   have h1:=hok.back j o' ho' e he hb
   rw[hon]at h1;refine .inr ⟨h1,?_⟩;cases hl:listed.getD j false with
   |false=>rfl
   |true=>
    have:=hcl j o' ho' hl e he hb
    rw[hon,hun]at this;cases this
 have hag:cZ (S i) ⟨tM,(S n).h⟩ (AI.sls ⟨o.dst,aop,g⟩):=by
  intro s hs
  show aZ (.c .top) tM s=_
  by_cases hb:bad s
  ·rw[htB s hb]
   obtain⟨j,aj,h1,h2,h3,h4⟩:=hb
   have hij:i<j:=by
    rcases hdep s hs j aj h1 h2 h4 with⟨_,h⟩|⟨h,_⟩
    ·rw[h3]at h;cases h
    ·exact h
   exact((hr.le (i:=0) (j:=i) (bK _) (by omega)).2.2.2 s fun l al' _ h5 h6 h7=>hok.dst l j al' aj s h6 h2 (by omega) h1 (by omega) h7 h4).symm
  ·rw[htM s hb]
   exact(hr.le (i:=i) (j:=n) (by omega) (aJ _)).2.2.2 s fun l aj h1 h2 h3 h4=>by
     rcases hdep s hs l aj h2 h3 h4 with h|h
     ·omega
     ·exact hb ⟨l,aj,h2,h3,h.2,h4⟩
 have hgw:mW ⟨tM,(S n).h⟩ g=mW (S i) g:=by
  cases g with
  |none=>rfl
  |some jw=>
   obtain⟨j,want⟩:=jw;simp only[mW];rw[hag j (by simp[AI.sls])]
 have hst:=hr.step i _ hi ha
 have hpre:=(hr.le (i:=i) (j:=n) (by omega) (aJ _))
 have hag':cZ (S i) ⟨tM,(S n).h⟩ aop.sls:=cZ.right hag
 unfold wpOp;simp only[ho]
 rcases hst with⟨hw,hS⟩|⟨hw,v,hS,hk⟩|⟨hw,x,mk,hn,hS⟩
 ·have hw':=kR (o:=o) (ai:=⟨o.dst,aop,g⟩) hsim hgd (hgw.trans hw)
  rw[hw'];simp only[dO,if_false];refine hK _ _ β R (hI.next hr hok hi hil ha qF (by rw[hS]) hI.hs (Gr.refl _ _ _) fun _ _ _=>rfl)
 ·have hw':=kR (o:=o) (ai:=⟨o.dst,aop,g⟩) hsim hgd (hgw.trans hw)
  rw[hw'];simp only[if_true]
  have h:=hk ⟨tM,(S n).h⟩ hag' hpre.2.2.1 (fun v' h'=>.rq (v'=v∧h'=(S n).h) (.done .normal ⟨tM,(S n).h⟩)) (fun _ _=>True) ⟨⟨rfl,rfl⟩,trivial⟩
  refine .inl ((pG hsim hop (tR hext) h).wp ?_);rintro u w' ⟨β',R',x,h',⟨⟨rfl,rfl⟩,_⟩,r2,r3,r4,r5⟩;exact hK _ _ β' R' (hI.next hr hok hi hil ha r2 (by rw[hS]) r3 r4 fun id hid _=>r5 id hid)
 ·have hw':=kR (o:=o) (ai:=⟨o.dst,aop,g⟩) hsim hgd (hgw.trans hw)
  rw[hw'];simp only[if_true];left;obtain⟨u,ob,N,h1,h2,h3⟩:=FF hsim hop ((wE hag').trans hn)
  have hl:(S i).h.length<(S (i+1)).h.length:=by rw[hS];show _<(gE x (S i).h).length;rw[mR];omega
  have hl':=(hr.le (i:=i+1) (j:=n) hi (aJ _))
  have hid:=hI.fr i hi hun (S i).h.length (aJ _) hl
  have hx:aZ .gone (S n).h (S i).h.length=x:=by
   rw[hl'.2.2.1 _ hl,hS];exact mS _ _ _
  unfold Oper.wp;rw[h1];refine hK _ _ (bn β (S i).h.length (w.heap.size,N)) R (hI.next hr hok hi hil ha (h3 _ (S i).h.length _ (fO _ _ _)) (by rw[hS,fD]) (GG hI.hs hid (by omega) (by rw[hx];exact h2)) (wK hI.hs _ hid _ rfl) ?_);intro id _ h5
  exact dH _ (by omega)
end
section
variable {P:Program} {G:Nat→Option Obj} {ops:Array Oper} {al:List AI} {n:Nat} {S:Nat→St} {ext:Ext}
theorem CN{α:Type}:∀(n:Nat) (l:List α),dN n l=l.take n
 |0,_=>by simp[dN]
 |_+1,[]=>by simp[dN]
 |n+1,x::r=>by simp[dN,CN n r]
theorem GY{α:Type}:∀(n:Nat) (l:List α),bZ n l=l.drop n
 |0,_=>by simp[bZ]
 |_+1,[]=>by simp[bZ]
 |n+1,x::r=>by simp[bZ,GY n r]
theorem iP:∀ {l:List Oper} {al:List AI},gB P ops l=some al→al.length=l.length∧∀(i:Nat) o,l[i]?=some o→∃ai,al[i]?=some ai∧lU P ops o=some ai
 |[],al,h=>by simp only[gB,aB]at h;subst h;exact⟨rfl,fun i o h=>by simp at h⟩
 |o::l,al,h=>by
  simp only[gB,aE,aA,aG,aB]at h;obtain⟨ai,h1,al',h2,rfl⟩:=h;obtain⟨h3,h4⟩:=iP h2;refine⟨by simp[h3],fun i o' hi=>?_⟩;cases i with
  |zero=>simp at hi;subst hi;exact⟨ai,rfl,h1⟩
  |succ i=>simpa using h4 i o' (by simpa using hi)
theorem uH:∀ {l:List Oper} {al:List AI} (n:Nat),gB P ops l=some al→gB P ops (l.drop n)=some (al.drop n)
 |l,al,0,h=>by simpa using h
 |[],al,n+1,h=>by simp only[gB,aB]at h;subst h;simp[gB]
 |o::l,al,n+1,h=>by
  simp only[gB,aE,aA,aG,aB]at h;obtain⟨ai,h1,al',h2,rfl⟩:=h;simpa using uH n h2
theorem SS{os:List Oper}{al:List AI}:∀ {f m n:Nat},aAS os al f m=some n→QO os al n=true∧n<m+f
 |0,_,_,h=>by cases h
 |f+1,m,n,h=>by
  simp only[aAS]at h;split at h
  ·rename_i hb;injection h with h;subst h;exact⟨(aS _ _▸hb).2,by omega⟩
  ·obtain⟨h1,h2⟩:=SS h;exact⟨h1,by omega⟩
theorem wZ{Q:Exit→Act→World→Prop}(hback:∀i o,ops[i]?=some o→∀e∈o.after,eW .any e=true→e.on<i):∀(l:List Oper) (k:Nat) (listed:Array Bool) (a:Act) (w:World),(∀j,l[j]?=ops[k+j]?)→listed.size=ops.size →
  (∀i,i<k→i<ops.size→listed.getD i false=true)→(∀i,k≤i→i<ops.size→listed.getD i true=false)→(∀t,k<t→t<ops.size→dR .any ops t (t-1)=true) →
  wpList P ops Q l a w→wpAny P .any ops Q l.length listed a w
 |[],k,listed,a,w,hl,hs,h1,_,_,h=>by
  refine⟨?_,h⟩
  have hk:ops.size≤k:=by
   have:=hl 0
   simp only[List.getElem?_nil,Nat.add_zero]at this;exact Array.getElem?_eq_none_iff.1 this.symm
  rw[List.eq_nil_iff_forall_not_mem];intro j hj
  obtain⟨q1,oj,q2,_⟩:=mem_ready.1 hj
  have hjs:j<ops.size:=(aO.1 q2).1
  have:=h1 j (by omega) hjs
  rw[getD_both q1]at this;cases this
 |o::l,k,listed,a,w,hl,hs,h1,h2,h3,h=>by
  have h0:ops[k]?=some o:=by simpa using (hl 0).symm
  have hks:k<ops.size:=(aO.1 h0).1
  have hrk:k∈gJ .any ops listed:=mem_ready.2 ⟨h2 k (aJ _) hks,o,h0,fun e he hb=>by
   have:=hback k o h0 e he hb
   exact h1 e.on this (by omega)⟩
  refine⟨fun h4=>(by rw[h4]at hrk;cases hrk),fun i hi=>?_⟩;obtain⟨q1,oi,q2,q3⟩:=mem_ready.1 hi
  have his:i<ops.size:=(aO.1 q2).1
  have hik:i=k:=by
   rcases Nat.lt_trichotomy i k with h4|h4|h4
   ·have:=h1 i h4 his;rw[getD_both q1]at this;cases this
   ·exact h4
   ·obtain⟨o',ho',e,he,hb,hon⟩:=dQ (h3 i h4 his)
    rw[q2]at ho';injection ho' with ho';subst ho'
    have:=q3 e he hb
    rw[hon,getD_both (h2 (i-1) (by omega) (by omega))]at this;cases this
  subst hik
  have hw:wpOp P ops Q i (wpList P ops Q l) a w:=by unfold wpOp;simp only[h0];exact h
  refine wpOp_mono (fun a' w' h'=>wZ hback l (i+1) _ a' w' (fun j=>by have:=hl (j+1);simpa[Nat.add_assoc,Nat.add_comm 1 j] using this) (by simpa using hs) ?_ ?_ (fun t ht hts=>h3 t (by omega) hts) h') hw
  ·intro j hj hjs
   by_cases e:i=j
   ·subst e;simp[hs,hks]
   ·rw[getD_set_ne false e];exact h1 j (by omega) hjs
  ·intro j hj hjs
   rw[getD_set_ne true (by omega)];exact h2 j (by omega) hjs
def cnt(listed:Array Bool):Nat→Nat
 |0=>0
 |n+1=>cnt listed n+(if listed.getD n false=true then 0 else 1)
theorem YM{listed:Array Bool}{i:Nat}:∀ {n:Nat},n≤i→cnt (listed.setIfInBounds i true) n=cnt listed n
 |0,_=>rfl
 |n+1,h=>by rw[cnt,cnt,YM (by omega),getD_set_ne false (by omega)]
theorem cnt_set{listed:Array Bool}{i:Nat}(hi:i<listed.size)(hun:listed.getD i false=false):∀ {n:Nat},i<n→cnt (listed.setIfInBounds i true) n+1=cnt listed n
 |n+1,h=>by
  rw[cnt,cnt]
  by_cases e:i=n
  ·subst e
   rw[YM (aJ _),hun];simp[hi]
  ·have:=cnt_set hi hun (n:=n) (by omega)
   rw[getD_set_ne false e];omega
theorem cnt_zero{listed:Array Bool}:∀ {n:Nat},cnt listed n=0→∀i,i<n→listed.getD i false=true
 |n+1,h,i,hi=>by
  rw[cnt]at h
  by_cases e:i=n
  ·subst e
   by_cases hl:listed.getD i false=true
   ·exact hl
   ·rw[if_neg hl]at h;omega
  ·exact cnt_zero (n:=n) (by omega) i (by omega)
theorem cnt_pos{listed:Array Bool}:∀ {n:Nat},0<cnt listed n→∃i,i<n∧listed.getD i false=false∧∀j,j<i→listed.getD j false=true
 |n+1,h=>by
  by_cases h0:0<cnt listed n
  ·obtain⟨i,h1,h2,h3⟩:=cnt_pos h0;exact⟨i,by omega,h2,h3⟩
  ·rw[cnt]at h
   refine⟨n,by omega,?_,cnt_zero (by omega)⟩
   by_cases hl:listed.getD n false=true
   ·rw[if_pos hl]at h;omega
   ·simpa using hl
variable {β0:Bt} {R0:Nat→Prop} {w0:World}
theorem aGH(hext:cF P G ext)(hr:UK P G ext al n S)(hok:LY ops al n)(hal:gB P ops ops.toList=some al){Q:Exit→Act→World→Prop}
  (hT:∀a w β R,eJ G β R (S n) a w→Gr β0 R0 w0 β R w→wpList P ops Q (ops.toList.drop n) a w) :
  ∀(f:Nat) (listed:Array Bool) (a:Act) (w:World) (β:Bt) (R:Nat→Prop),cnt listed n=f→HeadInv .any ops n listed→HY G al n S β0 R0 w0 listed a w β R→wpAny P .any ops Q (f+(ops.size-n)) listed a w:=by
 have hlen:al.length=ops.size:=by simpa using (iP hal).1
 have hns:n≤ops.size:=by have:=hr.len;omega
 intro f;induction f with
 |zero=>
  intro listed a w β R hc inv hI
  have hall:=cnt_zero hc
  rw[cK]
  have hsim:eJ G β R (S n) a w:=by
   refine⟨hI.df,All2.of_get (by simp[hI.sz]) ?_,hI.hs⟩;intro s x y hx hy
   have h1:=hI.sl s y (by simpa using hy) fun i ai hi _ hl=>by rw[hall i hi]at hl;cases hl
   rw[eG,aD,hx]at h1;exact h1
  have:=wZ hok.back (ops.toList.drop n) n listed a w (fun j=>by simp[iD]) inv.size (fun i hi _=>hall i hi) inv.tail ?_ (hT a w β R hsim hI.gr)
  ·simpa using this
  ·intro t ht hts
   rcases hok.tl with h|⟨_,h⟩
   ·omega
   ·have:=List.all_eq_true.1 h t (List.mem_range.2 hts)
    simp only[cE,decide_eq_true_eq]at this
    rcases this with h|h
    ·omega
    ·exact h
 |succ f ih=>
  intro listed a w β R hc inv hI;rw[show f+1+(ops.size-n)=(f+(ops.size-n))+1 by omega];obtain⟨i0,hi0,hu0,hb0⟩:=cnt_pos (by omega:0<cnt listed n)
  have hi0s:i0<ops.size:=by omega
  have hr0:i0∈gJ .any ops listed:=mem_ready.2 ⟨getD_in (by rw[inv.size];exact hi0s) hu0,ops[i0],by simp[hi0s],fun e he hb=>hb0 e.on (hok.back i0 _ (by simp[hi0s]) e he hb)⟩
  refine⟨fun h=>(by rw[h]at hr0;cases hr0),fun i hi=>?_⟩;obtain⟨q1,o,q2,q3⟩:=mem_ready.1 hi
  have his:i<ops.size:=(aO.1 q2).1
  have hin:i<n:=by
   rcases hok.tl with h|⟨h1,h2⟩
   ·omega
   ·rcases cA i n with h|h
    ·exact h
    ·exact absurd hi (tail_waits h1 h2 (by omega) inv _ i0 rfl hi0 (getD_in (by rw[inv.size];exact hi0s) hu0) i h)
  have hun:=getD_both q1
  have hil:i<listed.size:=by rw[inv.size];exact his
  obtain⟨ai,ha,hco⟩:=(iP hal).2 i o (by simpa using q2)
  exact hI.step hext hr hok.toRegB hin hil ha q2 hco hun q3 inv.closed fun a' w' β' R' hI'=>ih _ a' w' β' R' (by have:=cnt_set hil hun hin;omega) (inv.set hi hin) hI'
theorem eJ.drawn{β:Bt}{R:Nat→Prop}{st:St}{a:Act}{w:World}(hs:eJ G β R st a w)(k:Nat):eJ G β R st a { w with drawn:=k }∧Gr β R w β R { w with drawn:=k }:=by
 have gr:Gr β R w β R { w with drawn:=k }:=⟨⟨rfl,rfl,rfl,aJ _,fun _ _=>rfl,fun _ _ _=>rfl,fun _ h=>.inl h,fun _ h=>.inl h⟩,fun _ _ h=>h,fun _ h=>h⟩
 refine⟨⟨hs.df,hs.tm.mono fun _ _=>VR.keep gr.keeps,?_⟩,gr⟩;exact⟨hs.hs.dom,hs.hs.inj,hs.hs.sep,hs.hs.lt,hs.hs.rlt,fun i b o hi=>OR.keep gr.keeps (fun _ _ h=>⟨h,rfl⟩) rfl (hs.hs.obj i b o hi),hs.hs.gl,hs.hs.ql⟩
theorem cnt_all{m n:Nat}(h:n≤m):cnt (fM m false) n=n:=by
 induction n with
 |zero=>rfl
 |succ n ih=>rw[cnt,ih (by omega),getD_replicate_false];simp
theorem VN(hext:cF P G ext){id:Nat}(hm:P.follows .mixedOrders=true)(hal:gB P ops ops.toList=some al)(hok:QO ops.toList al n=true)(hn:n≤al.length){st:St}{k:St→Tr}{K:X→St→Prop}
  (h:(kG (jY ext) (al.take n) st k).holds P G K) {Q:Exit→Act→World→Prop} {β:Bt} {R:Nat→Prop} {a:Act} {w:World} (hs:eJ G β R st a w)
  (hT:∀st' a' w' β' R',(k st').holds P G K→eJ G β' R' st' a' w'→Gr β R w β' R' w'→wpList P ops Q (ops.toList.drop n) a' w'):(Code.region id ops true).wp P Q a w:=by
 have hok:=aEQ hok
 have hlen:al.length=ops.size:=by simpa using (iP hal).1
 obtain⟨S,h0,hk,hst⟩:=tP hext (al.take n) st (fun ai hai=>by
  obtain⟨i,hi⟩:=fI.1 hai;rw[fG]at hi;split at hi
  ·rename_i hin;exact hok.hd i ai hi hin
  ·cases hi) h
 rw[dY,Nat.min_eq_left hn]at hk
 have hr:UK P G ext al n S:=⟨hn,fun i ai hi ha=>hst i ai (by rw[fG,if_pos hi];exact ha)⟩
 refine wp_region_any hm ?_;obtain⟨hs',hg⟩:=hs.drawn (w.drawn+1)
 have hle:=hr.le (i:=0) (j:=n) (bK _) (aJ _)
 have key:=aGH (β0:=β) (R0:=R) (w0:=w) hext hr hok hal (Q:=Q) (fun a' w' β' R' h1 h2=>hT (S n) a' w' β' R' hk h1 h2) n (fM ops.size false) a { w with drawn:=w.drawn+1 } β R
  (cnt_all (by omega)) ⟨by simp,fun j oj _ hl=>(by rw[getD_replicate_false]at hl;cases hl),fun t _ ht=>getD_in (by simpa using ht) (getD_replicate_false _ _)⟩ ?_
 ·rwa [show n+(ops.size-n)=ops.size by omega]at key
 ·rw[h0]at hle
  refine⟨hg,?_,hs.df,?_,?_,?_,?_⟩
  ·have hb:∀i x,β i=some x→aZ .gone (S n).h i=aZ .gone st.h i:=fun i x hi=>hle.2.2.1 i (hs'.hs.dom i x hi)
   refine⟨fun i x hi=>bM (hs'.hs.dom i x hi) hle.2.1,?_,?_,hs'.hs.lt,hs'.hs.rlt,?_,hs'.hs.gl,fun b ad hq=>⟨(hs'.hs.ql b ad hq).1,(hs'.hs.ql b ad hq).2.1,fun i o hi=>by rw[hb i _ hi];exact(hs'.hs.ql b ad hq).2.2 i o hi⟩⟩
   ·intro i j b o o' hi hj li lj
    rw[hb i _ hi]at li;rw[hb j _ hj]at lj;exact hs'.hs.inj i j b o o' hi hj li lj
   ·intro i b o hi li
    rw[hb i _ hi]at li;exact hs'.hs.sep i b o hi li
   ·intro i b o hi
    rw[hb i _ hi];exact hs'.hs.obj i b o hi
  ·have:=hs.tm.length;simp at this;omega
  ·intro s u hu hnd
   rw[hle.2.2.2 s fun l ai _ hl ha=>hnd l ai hl ha (getD_replicate_false _ _)]
   have hv:=aM (x:=.tmp s) hs' rfl
   have e:a.eval (.tmp s)=u:=by show a.tmps.getD s undef=u;simp[hu]
   rw[e]at hv;exact hv
  ·intro i hi _ id h1 h2
   cases hb:β id with
   |none=>rfl
   |some x=>
    have h3:=hs.hs.dom id x hb
    have:=(hr.le (i:=0) (j:=i) (bK _) (by omega)).2.1
    rw[h0]at this;omega
  ·intro s u hu _
   rw[h0]
   have hv:=aM (x:=.tmp s) hs' rfl
   have e:a.eval (.tmp s)=u:=by show a.tmps.getD s undef=u;simp[hu]
   rw[e]at hv;exact hv
end
section
variable {P:Program} {G:Nat→Option Obj} {ops:Array Oper} {al:List AI} {n:Nat} {S:Nat→St} {ext:Ext}
variable {β0 β β':Bt} {R0 R R':Nat→Prop} {w0 w w':World} {a:Act} {listed:Array Bool}
theorem xM{α:Type}{d v:α}{l:List α}{j:Nat}(h:aZ d l j=v)(hv:v≠d):l[j]?=some v:=by
 rw[eG,aD]at h;cases hl:l[j]? with
 |none=>rw[hl]at h;exact absurd h.symm hv
 |some x=>rw[hl]at h;rw[←h];rfl
theorem PG{α:Type}{f:Nat→α→Bool}:∀ {l:List α} {k:Nat},aDM f k l=true→∃i x,l[i]?=some x∧f (k+i) x=true
 |x::r,k,h=>by
  simp only[aDM,cE]at h
  rcases h with h|h
  ·exact⟨0,x,rfl,h⟩
  ·obtain⟨i,y,h1,h2⟩:=PG h
   exact⟨i+1,y,by simpa using h1,by rw[show k+(i+1)=k+1+i by omega];exact h2⟩
theorem JI{α:Type}{l:List α}{i:Nat}{x:α}(h:x∈(l.drop i).take 1):l[i]?=some x:=by
 rw[fI]at h;obtain⟨q,hq⟩:=h;rw[fG]at hq;split at hq
 ·have:q=0:=by omega
  subst this;simpa using hq
 ·cases hq
theorem HE{os:List Oper}{n:Nat}:∀ {d j:Nat},d≤n→aZ false (LQ os n d) j=true→n-d+j=n∨∃j' o,j<j'∧j'≤d∧aZ false (LQ os n d) j'=true∧os[n-d+j']?=some o∧oO o (n-d+j)=true
 |0,j,_,h=>by
  cases j with
  |zero=>left;omega
  |succ j=>simp[LQ,aZ]at h
 |d+1,j,hd,h=>by
  cases j with
  |zero=>
   simp only[LQ,aZ]at h;obtain⟨i,b,h1,h2⟩:=PG h;simp only[aS,cK]at h2;obtain⟨o,h3,h4⟩:=nK h2.2
   have h3:=JI h3
   have hi:i≤d:=by
    have:=(aN.1 h1).1
    have hl:∀d,(LQ os n d).length=d+1:=fun d=>by
     induction d with
     |zero=>rfl
     |succ d ih=>simp[LQ,ih]
    rw[hl]at this;omega
   right;refine⟨i+1,o,by omega,by omega,?_,?_,?_⟩
   ·simp only[LQ,aZ]
    rw[eG,aD,h1];exact h2.1
   ·rw[show n-(d+1)+(i+1)=n-d+i by omega];exact h3
   ·rw[Nat.add_zero];exact h4
  |succ j=>
   simp only[LQ,aZ]at h
   rcases HE (by omega) h with h1|⟨j',o,h1,h2,h3,h4,h5⟩
   ·left;omega
   ·right
    refine⟨j'+1,o,by omega,by omega,by simpa only[LQ,aZ] using h3,?_,?_⟩
    ·rw[show n-(d+1)+(j'+1)=n-d+j' by omega];exact h4
    ·rw[show n-(d+1)+(j+1)=n-d+j by omega];exact h5
def Ch(ops:Array Oper)(n i:Nat):Prop:=aZ false (LQ ops.toList n n) i=true
structure aDR (ops:Array Oper) (al:List AI) (n:Nat):Prop where
 back:∀i o,ops[i]?=some o→∀e∈o.after,eW .any e=true→e.on<i
 hd:∀i ai,al[i]?=some ai→i<n→ai.op.hd=true
 dst:∀i j x y d,al[i]?=some x→al[j]?=some y→i≤n→j≤n→i≠j→x.dst=some d→y.dst≠some d
 dep:∀i j x y d,al[i]?=some x→al[j]?=some y→i≤n→j≤n→y.dst=some d→d∈x.sls→dR .any ops i j=true
 ch:∀i ai,al[i]?=some ai→i<n→Ch ops n i∨(ai.op.ltk=true∧ai.guard=none)
 mid:∃m,al[n]?=some m∧m.op.isApp=true∧m.guard=none∧∃d,m.dst=some d
 tl1:∀i,i≤n→n+1<ops.size→dR .any ops (n+1) i=true
 tl2:∀t,n+1<t→t<ops.size→dR .any ops t (t-1)=true
theorem aDR.toB(h:aDR ops al n):RegB ops al n:=
 ⟨h.back,h.hd,fun i j x y d h1 h2 h3 h4=>h.dst i j x y d h1 h2 (by omega) (by omega),fun i j x y d h1 h2 h3 h4 h5 h6=>.inl (h.dep i j x y d h1 h2 (by omega) (by omega) h5 h6)⟩
theorem aIQ(h:QN ops.toList al n=true):aDR ops al n:=by
 unfold QN at h;simp only[aS]at h;obtain⟨h1,h2,h3,h4,h5,h6,h7,h8⟩:=h;refine⟨?_,?_,?_,?_,?_,?_,?_,?_⟩
 ·intro i o ho e he hb
  have:=vB (gY h1 i o (by simpa using ho)) e (by simpa using he)
  simpa[hb] using this
 ·intro i ai hi hn
  have:=gY h2 i ai hi
  simp only[cE,dZ]at this
  rcases this with h|h
  ·omega
  ·exact h
 ·intro i j x y d hx hy hi hj hij hd hd'
  have:=gY h3 i x hx
  simp only[cE,Nat.blt_eq]at this
  rcases this with h|h
  ·omega
  ·have:=gY h j y hy
   simp only[cE,Nat.blt_eq,hd,hd',eqD]at this
   rcases this with h|h|h
   ·omega
   ·have:=aF h;omega
   ·simp at h
 ·intro i j x y d hx hy hi hj hd hs
  have:=gY h4 i x hx
  simp only[cE,Nat.blt_eq]at this
  rcases this with h|h
  ·omega
  ·have:=gY h j y hy
   simp only[cE,Nat.blt_eq,hd,inD]at this
   rcases this with h|h|h
   ·omega
   ·rw[kQ hs]at h;cases h
   ·obtain⟨o,ho,hw⟩:=nK h
    have ho:ops[i]?=some o:=by simpa using JI ho
    rw[cK]at hw;exact kA ho hw
 ·intro i ai hi hn
  have:=gY h5 i ai hi
  simp only[cE,dZ,aS,cK]at this
  rcases this with h|h|⟨h,h'⟩
  ·omega
  ·exact .inl h
  ·refine .inr ⟨h,?_⟩
   cases hg:ai.guard with
   |none=>rfl
   |some _=>rw[hg]at h';cases h'
 ·obtain⟨m,hm,hb⟩:=nK h6
  simp only[aS]at hb;refine⟨m,JI hm,hb.1,?_,?_⟩
  ·cases hg:m.guard with
   |none=>rfl
   |some _=>rw[hg]at hb;cases hb.2.1
  ·cases hg:m.dst with
   |some d=>exact⟨d,rfl⟩
   |none=>rw[hg]at hb;cases hb.2.2
 ·intro i hi hn
  have his:i<ops.size:=by omega
  have:=gY h7 i ops[i] (by simp[his])
  simp only[cE,Nat.blt_eq,cK]at this
  rcases this with h|h
  ·omega
  ·have ho:ops[n+1]?=some ops[n+1]:=by simp[hn]
   refine kA ho (vB h _ ?_);rw[fI];exact⟨0,by simp[hn]⟩
 ·intro t ht hts
  have:=gY h8 t ops[t] (by simp[hts])
  simp only[cE,dZ,cK]at this
  rcases this with h|h
  ·omega
  ·exact kA (by simp[hts]) h
theorem aD4(inv:HeadInv .any ops (n+1) listed){om:Oper}(hm:ops[n]?=some om)(hready:∀e∈om.after,eW .any e=true→listed.getD e.on false=true):∀(k i:Nat),n-i≤k→i<n→Ch ops n i→listed.getD i false=true:=by
 intro k;induction k with
 |zero=>intro i h1 h2;omega
 |succ k ih=>
  intro i h1 h2 h3
  rcases HE (aJ n) h3 with h4|⟨j',o,h4,h5,h6,h7,h8⟩
  ·omega
  ·rw[Nat.sub_self,cK]at h7 h8
   have h7:ops[j']?=some o:=by simpa using h7
   obtain⟨o',ho',e,he,hb,hon⟩:=dQ (kA h7 h8);rw[h7]at ho';injection ho' with ho';subst ho'
   by_cases e1:j'=n
   ·subst e1
    rw[hm]at h7;injection h7 with h7;subst h7
    have:=hready e he hb
    rwa [hon]at this
   ·have:=inv.closed j' o h7 (ih j' (by omega) (by omega) h6) e he hb
    rwa [hon]at this
structure D2 (G:Nat→Option Obj) (al:List AI) (n:Nat) (tF:List V) (hF:List AO) (β0:Bt) (R0:Nat→Prop) (w0:World) (listed:Array Bool) (a:Act) (w:World) (β:Bt) (R:Nat→Prop):Prop where
 gr:Gr β0 R0 w0 β R w
 hs:HS G β R w hF
 df:a.defers=[]
 sz:a.tmps.size=tF.length
 sl:∀s u,a.tmps[s]?=some u→(∀i ai,i<n→al[i]?=some ai→listed.getD i false=false→ai.dst≠some s)→VR β R w (aZ (.c .top) tF s) u
open Classical in
theorem D2.mask{tF:List V}{hF:List AO}(hI:D2 G al n tF hF β0 R0 w0 listed a w β R):∃tM,eJ G β R ⟨tM,hF⟩ a w∧∀s,(∀i ai,i<n→al[i]?=some ai→listed.getD i false=false→ai.dst≠some s)→aZ (.c .top) tM s=aZ (.c .top) tF s:=by
 let bad:Nat→Prop:=fun s=>∃j aj,j<n∧al[j]?=some aj∧listed.getD j false=false∧aj.dst=some s
 let tM:List V:=(cS tF.length).map fun s=>if bad s then V.c C.top else aZ (.c .top) tF s
 refine⟨tM,⟨hI.df,All2.of_get (by simp[tM,hI.sz]) ?_,hI.hs⟩,?_⟩
 ·intro s x y hx hy
  have hy:a.tmps[s]?=some y:=by simpa using hy
  have hsl:s<tF.length:=by
   rcases cA s tF.length with h|h
   ·exact h
   ·have hx:tM[s]?=some x:=hx
    rw[bB (by simpa[tM] using h)]at hx;cases hx
  simp only[tM,cC,eE hsl,cV,aB]at hx;subst hx;split
  ·exact trivial
  ·rename_i hb
   exact hI.sl s y hy fun j aj h1 h2 h3 h4=>hb ⟨j,aj,h1,h2,h3,h4⟩
 ·intro s hs
  have hs:¬bad s:=fun⟨j,aj,h1,h2,h3,h4⟩=>hs j aj h1 h2 h3 h4
  rw[eG,eG,aD,aD]
  rcases cA s tF.length with h|h
  ·simp only[tM,cC,eE h,cV,if_neg hs,Option.getD_some]
   rw[eG,aD]
  ·rw[bB h,bB (by simpa[tM] using h)]
theorem HY.d2(h:HY G al n S β0 R0 w0 listed a w β R):D2 G al n (S n).t (S n).h β0 R0 w0 listed a w β R:=⟨h.gr,h.hs,h.df,h.sz,h.sl⟩
theorem D2.put{tF:List V}{hF hF':List AO}(hI:D2 G al n tF hF β0 R0 w0 listed a w β R){d:Option Nat}{x:V}{u:Value}{tF':List V}{listed':Array Bool}(hv:VR β' R' w' x u)(hs':HS G β' R' w' hF')(hg:Gr β R w β' R' w')
  (hl:tF'.length=tF.length) (h1:∀s,d=some s→s<tF.length→aZ (.c .top) tF' s=x) (h2:∀s,d≠some s→aZ (.c .top) tF' s=aZ (.c .top) tF s)
  (h3:∀i ai,i<n→al[i]?=some ai→listed.getD i false=false→listed'.getD i false=false∨ai.dst=d):D2 G al n tF' hF' β0 R0 w0 listed' (a.put d u) w' β' R':=by
 refine⟨hI.gr.trans hg,hs',?_,?_,?_⟩
 ·cases d<;>exact hI.df
 ·cases d with
  |none=>rw[hl];exact hI.sz
  |some d=>show (a.tmps.setIfInBounds d u).size=_;rw[Array.size_setIfInBounds,hl];exact hI.sz
 ·intro s u' hu hn
  by_cases hd:d=some s
  ·rw[hd]at hu
   have hu:(a.tmps.setIfInBounds s u)[s]?=some u':=hu
   have hss:s<a.tmps.size:=by
    rcases cA s a.tmps.size with h|h
    ·exact h
    ·rw[Array.getElem?_eq_none (by simpa using h)]at hu;cases hu
   simp[hss]at hu;subst hu;rw[h1 s hd (by rw[←hI.sz];exact hss)];exact hv
  ·have hu':a.tmps[s]?=some u':=by
     cases hq:d with
     |none=>rw[hq]at hu;exact hu
     |some d=>
      rw[hq]at hu hd
      have hu:(a.tmps.setIfInBounds d u)[s]?=some u':=hu
      rwa [cY (fun e=>hd (by rw[e]))]at hu
   rw[h2 s hd];refine VR.keep hg.keeps (hI.sl s u' hu' fun j aj hj hja hjl he=>?_)
   rcases h3 j aj hj hja hjl with h|h
   ·exact hn j aj hj hja h he
   ·exact hd (h.symm.trans he)
def AO.kp:AO→Bool
 |.cells .. => true
 |.pin .. => true
 |_=>false
def CK(h h':List AO):Prop:=∀id x,x.kp=true→aZ .gone h id=x→aZ .gone h' id=x
theorem BP{x:AO}(h:x.kp=true):x≠.gone:=by rintro rfl;cases h
theorem PB{h:List AO}{id:Nat}{x:AO}(hn:∀x:AO,x.kp=true→aZ .gone h id≠x):CK h (gE x (upd .gone h id)):=by
 intro i y hy hi
 have hl:=iM hi (BP hy)
 have hne:id≠i:=fun e=>hn y hy (e▸hi)
 rw[gP _ _ _ (by rw[fS,cD];exact hl),dC _ _ _ hne];exact hi
theorem aAZ{h:List AO}{x:AO}:CK h (gE x h):=by
 intro i y hy hi;rw[gP _ _ _ (iM hi (BP hy))];exact hi
theorem aHO{op:oN}(ho:op.isApp=true){st st':St}(hag:cZ st st' op.sls)(hh:st'.h=st.h){k:V→List AO→Tr}{K:X→St→Prop}(h:(jB ext st k op).holds P G K) :
  (jB ext st' (fun v h'=>.rq ((k v h').holds P G K∧CK st.h h') (.done .normal st')) op).holds P G fun _ _=>True:=by
 cases op<;>simp only[oN.isApp,dO]at ho;rename_i ty sz bytes z x y
 have ex:st'.ev x=st.ev x:=bY (cZ.left hag)
 have ey:st'.ev y=st.ev y:=bY (cZ.right hag)
 have src:∀ {kk kk':Nat→(Nat→Nat→C)→Tr} {K K':X→St→Prop},(∀m g,(kk m g).holds P G K→(kk' m g).holds P G K')→(vV st sz y kk).holds P G K→(vV st' sz y kk').holds P G K':=by
  intro kk kk' K K' hk h;simp only[vV,ey,hh]at h ⊢;split at h
  ·rename_i e1;(try rw[e1]);exact hk _ _ h
  ·rename_i e1;(try rw[e1]);obtain⟨c1,c2⟩:=bO h;exact eI c1 (hk _ _ c2)
  ·rename_i e1
   (try rw[e1])
   (try dsimp only at h ⊢)
   split at h
   ·rename_i e2;(try rw[e2]);obtain⟨c1,c2,c3⟩:=bO h;exact eI c1 ⟨c2,hk _ _ c3⟩
   ·exact h.elim
  ·exact h.elim
 simp only[jB]at h ⊢;obtain⟨c1,h⟩:=bO h;refine eI c1 ?_
 rcases pM h with⟨h,hoff⟩|⟨id,sz',off,len,e1,e2,h⟩
 ·have hoff':(IH st' x (GX st' ty sz x fun n f old=>vV st' sz y fun m g=>
      .rq ((n+m)*bytes≤140737488355328∧n+m≤140737488355328∧∀e o,e<m→o<sz→jH (g e o)=true) (.rq ((k (.c (.sl (gA st'.h) sz 0 (n+m))) (gE (.row ty sz (n+m) (fU n f g)) (lB st'.h old))).holds P G K∧CK st.h (gE (.row ty sz (n+m) (fU n f g)) (lB st'.h old))) (.done .normal st')))
      (PF st' (fun v h'=>.rq ((k v h').holds P G K∧CK st.h h') (.done .normal st')) ty sz bytes x y)).holds P G fun _ _=>True:=by
    have hd:(GX st' ty sz x fun n f old=>vV st' sz y fun m g=>
     .rq ((n+m)*bytes≤140737488355328∧n+m≤140737488355328∧∀e o,e<m→o<sz→jH (g e o)=true) (.rq ((k (.c (.sl (gA st'.h) sz 0 (n+m))) (gE (.row ty sz (n+m) (fU n f g)) (lB st'.h old))).holds P G K∧CK st.h (gE (.row ty sz (n+m) (fU n f g)) (lB st'.h old))) (.done .normal st'))).holds P G fun _ _=>True:=by
     simp only[GX,ex,hh]at h ⊢;split at h
     ·rename_i e1
      (try rw[e1])
      refine src (fun m g q=>?_) h;exact⟨q.1,⟨q.2,aAZ⟩,trivial⟩
     ·rename_i e1
      (try rw[e1])
      (try dsimp only at h ⊢)
      split at h
      ·rename_i e2
       (try rw[e2])
       obtain⟨c1,c2,c3⟩:=bO h;refine eI c1 ⟨c2,src (fun m g q=>?_) c3⟩;exact⟨q.1,⟨q.2,PB (by rw[e2];intro x hx h;subst h;cases hx)⟩,trivial⟩
      ·exact h.elim
     ·exact h.elim
    unfold IH;rw[ex];split
    ·rename_i e1
     have:=hoff _ _ _ _ e1
     subst this;exact hd
    ·exact hd
  exact hoff'
 ·unfold IH
  rw[ex,e1];dsimp only
  have hb:aT off 0=false:=by
   cases hq:aT off 0 with
   |false=>rfl
   |true=>exact absurd (aF hq) e2
  rw[hb]
  change (PF st' (fun v h'=>.rq ((k v h').holds P G K∧CK st.h h') (.done .normal st')) ty sz bytes x y).holds P G fun _ _=>True
  simp only[PF,ex,e1,hh]at h ⊢;split at h
  ·rename_i e3
   (try rw[e3])
   obtain⟨c1,c2,c3⟩:=bO h
   have hck:∀x:AO,CK st.h (gE x (upd .gone st.h id)):=fun x=>PB (by rw[e3];intro x hx h;subst h;cases hx)
   refine eI c1 ⟨c2,src (fun m g q=>?_) c3⟩;exact⟨q.1,⟨⟨q.2.1,hck _⟩,trivial⟩,⟨⟨q.2.2,hck _⟩,trivial⟩⟩
  ·exact h.elim
theorem KS{op:oN}(ho:op.ltk=true){t:List V}{h h':List AO}(hl:qQ ⟨t,h⟩ op=true)(hc:CK h h'){k:V→List AO→Tr}{K:X→St→Prop}
  (hh:(jB ext ⟨t,h⟩ (fun v _=>k v h') op).holds P G K):(jB ext ⟨t,h'⟩ k op).holds P G K:=by
 cases op<;>simp only[oN.ltk,dO]at ho
 case mv x=>exact hh
 case bin op x y=>exact hh
 case faddr o x=>exact hh
 case idxA sz x i=>exact hh
 case fld o n x=>exact hh
 case load m x=>
  have e:∀y:AX,St.ev ⟨t,h'⟩ y=St.ev ⟨t,h⟩ y:=fun y=>by cases y<;>rfl
  simp only[jB,e]at hh ⊢;simp only[qQ]at hl;split at hh
  ·rename_i id off he
   (try rw[he])
   (try dsimp only at hh ⊢)
   split at hh
   ·rename_i ty vs hid
    rw[hc id _ rfl hid];exact hh
   ·rename_i j b0 hid
    rw[hc id _ rfl hid];dsimp only;split at hh
    ·rename_i ty vs hid2
     rw[hc j _ rfl hid2];exact hh
    ·exact hh.elim
   ·exact hh.elim
  ·rename_i he
   simp only[he]at hl;cases hl
  ·rename_i he
   (try rw[he])
   exact hh
  ·exact hh.elim
theorem aF1{st st':St}{op:oN}(h:cZ st st' op.sls)(hl:qQ st op=true):qQ st' op=true:=by
 cases op<;>first|rfl|(cases hl;done)|skip
 rename_i m x;simp only[qQ]at hl ⊢;rw[bY h];exact hl
theorem aA2:∀ {bs:List Bool} {l:List AI} {i:Nat} {ai:AI},l[i]?=some ai→aZ false bs i≠true→i<bs.length→ai.op∈aC8 bs l
 |[],_,_,_,_,_,h=>by simp at h
 |_::_,[],_,_,h,_,_=>by simp at h
 |b::bs,x::l,0,ai,h,hb,_=>by
  simp at h;subst h;cases b with
  |true=>exact absurd rfl hb
  |false=>simp[aC8]
 |b::bs,x::l,i+1,ai,h,hb,hi=>by
  have:=aA2 (bs:=bs) (l:=l) (i:=i) (ai:=ai) (by simpa using h) hb (by simpa using hi)
  cases b with
  |true=>exact this
  |false=>exact bL _ this
theorem AJ{st:St}{l:List oN}(h:uW st l=true){x:oN}(hx:x∈l):qQ st x=true:=by
 induction l with
 |nil=>cases hx
 |cons y r ih=>
  have h:(qQ st y&&uW st r)=true:=h
  rw[aS]at h
  rcases cR.1 hx with e|hx
  ·rw[e];exact h.1
  ·exact ih h.2 hx
theorem wP(os:List Oper)(n:Nat):∀d,(LQ os n d).length=d+1
 |0=>rfl
 |d+1=>by simp[LQ,wP os n d]
theorem YR(hc:cnt listed n=0)(hn:listed.getD n false=true){i:Nat}(hi:i<n+1):listed.getD i false=true:=by
 by_cases e:i=n
 ·subst e;exact hn
 ·exact cnt_zero hc i (by omega)
theorem QA(hok:aDR ops al n)(inv:HeadInv .any ops (n+1) listed){i i0:Nat}(h0:i0≤n)(hu:listed.getD i0 false=false)(hi:i∈gJ .any ops listed):i≤n:=by
 rcases cA n i with h|h
 case inr=>exact h
 obtain⟨q1,o,q2,q3⟩:=mem_ready.1 hi
 have his:i<ops.size:=(aO.1 q2).1
 by_cases e:i=n+1
 ·subst e
  obtain⟨o',ho',e,he,hb,hon⟩:=dQ (hok.tl1 i0 h0 his);rw[q2]at ho';injection ho' with ho';subst ho'
  have:=q3 e he hb
  rw[hon,hu]at this;cases this
 ·obtain⟨o',ho',e',he,hb,hon⟩:=dQ (hok.tl2 i (by omega) his)
  rw[q2]at ho';injection ho' with ho';subst ho'
  have:=q3 e' he hb
  rw[hon,getD_both (inv.tail (i-1) (by omega) (by omega))]at this;cases this
theorem aFZ(hext:cF P G ext)(hr:UK P G ext al n S)(hok:aDR ops al n)(hal:gB P ops ops.toList=some al)(hsz:n<ops.size){Q:Exit→Act→World→Prop}{m:AI}{dM:Nat}(hmm:al[n]?=some m)(hmd:m.dst=some dM)
  (hlate:∀i ai,al[i]?=some ai→i<n→¬Ch ops n i→qQ (S n) ai.op=true) {x:V} {h':List AO} (hck:CK (S n).h h')
  (hT:∀a w β R,eJ G β R ⟨upd x (S n).t dM,h'⟩ a w→Gr β0 R0 w0 β R w→wpList P ops Q (ops.toList.drop (n+1)) a w) :
  ∀(f:Nat) (listed:Array Bool) (a:Act) (w:World) (β:Bt) (R:Nat→Prop),cnt listed n=f→listed.getD n false=true→HeadInv .any ops (n+1) listed→(∀i,i<n→Ch ops n i→listed.getD i false=true) →
   D2 G al n (upd x (S n).t dM) h' β0 R0 w0 listed a w β R→wpAny P .any ops Q (f+(ops.size-(n+1))) listed a w:=by
 intro f;induction f with
 |zero=>
  intro listed a w β R hc hn inv hch hI;rw[cK]
  have hall:∀i,i<n+1→listed.getD i false=true:=fun i hi=>YR hc hn hi
  have hsim:eJ G β R ⟨upd x (S n).t dM,h'⟩ a w:=by
   refine⟨hI.df,All2.of_get (by simp[hI.sz]) ?_,hI.hs⟩;intro s y z hx hy
   have h1:=hI.sl s z (by simpa using hy) fun i ai hi _ hl=>by rw[hall i (by omega)]at hl;cases hl
   have hx:(upd x (S n).t dM)[s]?=some y:=hx
   rw[eG,aD,hx]at h1;exact h1
  have:=wZ hok.back (ops.toList.drop (n+1)) (n+1) listed a w (fun j=>by simp[iD]) inv.size (fun i hi _=>hall i hi) inv.tail (fun t ht hts=>hok.tl2 t ht hts) (hT a w β R hsim hI.gr)
  simpa using this
 |succ f ih=>
  intro listed a w β R hc hn inv hch hI;rw[show f+1+(ops.size-(n+1))=(f+(ops.size-(n+1)))+1 by omega];obtain⟨i0,hi0,hu0,hb0⟩:=cnt_pos (by omega:0<cnt listed n)
  have hi0s:i0<ops.size:=by omega
  have hr0:i0∈gJ .any ops listed:=mem_ready.2 ⟨getD_in (by rw[inv.size];exact hi0s) hu0,ops[i0],by simp[hi0s],fun e he hb=>hb0 e.on (hok.back i0 _ (by simp[hi0s]) e he hb)⟩
  refine⟨fun h=>(by rw[h]at hr0;cases hr0),fun i hi=>?_⟩;obtain⟨q1,o,q2,q3⟩:=mem_ready.1 hi
  have his:i<ops.size:=(aO.1 q2).1
  have hin1:=QA hok inv (by omega:i0≤n) hu0 hi
  have hun:=getD_both q1
  have hin:i<n:=by
   rcases cA i n with h|h
   ·exact h
   ·have:i=n:=by omega
    subst this;rw[hn]at hun;cases hun
  have hil:i<listed.size:=by rw[inv.size];exact his
  obtain⟨ai,ha,hco⟩:=(iP hal).2 i o (by simpa using q2)
  have hnch:¬Ch ops n i:=fun h=>by rw[hch i hin h]at hun;cases hun
  obtain⟨hlt,hgn⟩:ai.op.ltk=true∧ai.guard=none:=(hok.ch i ai ha hin).resolve_left hnch
  have hlb:=hlate i ai ha hin hnch
  have hst:=hr.step i ai hin ha
  simp only[lU,aE,aA,aG,aB]at hco;obtain⟨aop,hop,g,hgd,rfl⟩:=hco;dsimp only at hlt hgn hlb;subst hgn;obtain⟨tM,hsim,htM⟩:=hI.mask
  have hdep:∀s∈AI.sls ⟨o.dst,aop,none⟩,∀j aj,j≤n→al[j]?=some aj→aj.dst=some s→j<i∧listed.getD j false=true:=by
   intro s hs j aj hj hja hd;obtain⟨o',ho',e,he,hb,hon⟩:=dQ (hok.dep i j _ aj s ha hja (by omega) hj hd hs);rw[q2]at ho';injection ho' with ho';subst ho'
   have h1:=hok.back i o q2 e he hb
   have h2:=q3 e he hb
   rw[hon]at h1 h2;exact⟨h1,h2⟩
  have hsub:∀s∈aop.sls,s∈AI.sls ⟨o.dst,aop,none⟩:=fun s hs=>by simp[AI.sls,hs]
  have hle:=hr.le (i:=i) (j:=n) (by omega) (aJ _)
  have hag1:cZ (S i) (S n) aop.sls:=by
   intro s hs
   exact hle.2.2.2 s fun l aj h1 h2 h3 h4=>by
    have:=(hdep s (hsub s hs) l aj (by omega) h3 h4).1;omega
  have hag:∀hh:List AO,cZ (S i) ⟨tM,hh⟩ aop.sls:=by
   intro hh s hs
   show aZ (.c .top) tM s=_
   rw[htM s (fun j aj h1 h2 h3 h4=>by rw[(hdep s (hsub s hs) j aj (by omega) h2 h4).2]at h3;cases h3)]
   rw[dC _ _ _ (fun e=>by
    have:=(hdep s (hsub s hs) n m (aJ _) hmm (by rw[hmd,e])).1
    omega)]
   exact hag1 s hs
  rcases hst with⟨hw,hS⟩|⟨hw,v,hS,hk⟩|⟨hw,x',mk,hnb,hS⟩
  ·simp only[mW,aB,Bool.true_eq_false]at hw
  ·unfold wpOp
   simp only[q2]
   have hw':=kR (o:=o) (ai:=⟨o.dst,aop,none⟩) hsim hgd (b:=true) rfl
   rw[hw'];simp only[if_true]
   have h1:=hk ⟨tM,(S i).h⟩ (hag _) (fun _ _=>rfl) (fun v' _=>.rq (v'=v∧h'=h') (.done .normal ⟨tM,h'⟩)) (fun _ _=>True) ⟨⟨rfl,rfl⟩,trivial⟩
   have hlb':qQ ⟨tM,(S i).h⟩ aop=true:=by
    refine aF1 (st:=S n) ?_ hlb;intro s hs
    rw[hag (S i).h s hs,hag1 s hs]
   have hck':CK (S i).h h':=fun id x hx hid=>hck id x hx (by rw[hle.2.2.1 id (iM hid (BP hx))];exact hid)
   have h2:=KS (ext:=jY ext) hlt hlb' hck' (k:=fun v' hh=>.rq (v'=v∧hh=h') (.done .normal ⟨tM,h'⟩)) (K:=fun _ _=>True) h1
   refine .inl ((pG hsim hop (tR hext) h2).wp ?_);rintro u w' ⟨β',R',x2,hh,⟨⟨rfl,rfl⟩,_⟩,r2,r3,r4,r5⟩;refine ih _ _ _ β' R' (by have:=cnt_set hil hun hin;omega) ?_ (inv.set hi (by omega)) ?_ ?_
   ·rw[getD_set_ne false (by omega)];exact hn
   ·intro j hj hc'
    rw[getD_set_ne false (fun e=>by subst e;exact hnch hc')];exact hch j hj hc'
   ·refine hI.put (d:=o.dst) r2 r3 r4 rfl ?_ (fun s _=>rfl) ?_
    ·intro s hs hsl
     have h5:=(hr.le (i:=i+1) (j:=n) hin (aJ _)).2.2.2 s (fun l aj h1 h2 h3 h4=>hok.dst l i aj _ s h3 ha (by omega) (by omega) (by omega) h4 hs)
     rw[dC _ _ _ (fun e=>hok.dst n i m _ dM hmm ha (aJ _) (by omega) (by omega) hmd (by rw[e];exact hs)),h5,hS]
     show aZ (.c .top) (mL (S i).t o.dst x2) s=x2
     rw[hs]
     show aZ (.c .top) (upd x2 (S i).t s) s=x2
     rw[eO _ _ _ (by rw[fS,cD]at hsl;have:=hle.1;omega)]
    ·intro j aj hj hja hjl
     by_cases e:j=i
     ·subst e;rw[ha]at hja;injection hja with hja;subst hja;exact .inr rfl
     ·left;rw[getD_set_ne false (fun h=>e h.symm)];exact hjl
  ·cases aop<;>simp only[oN.ltk,dO]at hlt<;>simp[yX]at hnb
theorem aK7(hext:cF P G ext)(hr:UK P G ext al n S)(hok:aDR ops al n)(hal:gB P ops ops.toList=some al)(hsz:n<ops.size){Q:Exit→Act→World→Prop}{m:AI}{dM:Nat}(hmm:al[n]?=some m)(hma:m.op.isApp=true)(hmg:m.guard=none)(hmd:m.dst=some dM)
  (hlate:∀i ai,al[i]?=some ai→i<n→¬Ch ops n i→qQ (S n) ai.op=true) {k:V→List AO→Tr} {K:X→St→Prop} (hM:(jB ext (S n) k m.op).holds P G K)
  (hT:∀x h' a w β R,(k x h').holds P G K→eJ G β R ⟨upd x (S n).t dM,h'⟩ a w→Gr β0 R0 w0 β R w→wpList P ops Q (ops.toList.drop (n+1)) a w) :
  ∀(f:Nat) (listed:Array Bool) (a:Act) (w:World) (β:Bt) (R:Nat→Prop),cnt listed n=f→listed.getD n false=false→HeadInv .any ops (n+1) listed →
   HY G al n S β0 R0 w0 listed a w β R→wpAny P .any ops Q (f+1+(ops.size-(n+1))) listed a w:=by
 intro f;induction f with
 |zero=>
  intro listed a w β R hc hn inv hI
  exact mid_step 0 listed a w β R hc hn inv hI (fun i hi hin=>by
   have:=cnt_zero hc i hin
   obtain⟨q1,_⟩:=mem_ready.1 hi
   rw[getD_both q1]at this;cases this)
 |succ f ih=>
  intro listed a w β R hc hn inv hI;refine mid_step (f+1) listed a w β R hc hn inv hI (fun i hi hin=>?_);obtain⟨q1,o,q2,q3⟩:=mem_ready.1 hi
  have his:i<ops.size:=(aO.1 q2).1
  have hun:=getD_both q1
  have hil:i<listed.size:=by rw[inv.size];exact his
  obtain⟨ai,ha,hco⟩:=(iP hal).2 i o (by simpa using q2);rw[show f+1+(ops.size-(n+1))=f+1+(ops.size-(n+1)) from rfl]
  exact hI.step hext hr hok.toB hin hil ha q2 hco hun q3 inv.closed fun a' w' β' R' hI'=>ih _ a' w' β' R' (by have:=cnt_set hil hun hin;omega) (by rw[getD_set_ne false (by omega)];exact hn) (inv.set hi (by omega)) hI'
where
 mid_step (f:Nat) (listed:Array Bool) (a:Act) (w:World) (β:Bt) (R:Nat→Prop) (hc:cnt listed n=f) (hn:listed.getD n false=false) (inv:HeadInv .any ops (n+1) listed) (hI:HY G al n S β0 R0 w0 listed a w β R)
   (hst:∀i∈gJ .any ops listed,i<n→wpOp P ops Q i (wpAny P .any ops Q (f+(ops.size-(n+1))) (listed.setIfInBounds i true)) a w):wpAny P .any ops Q (f+1+(ops.size-(n+1))) listed a w:=by
  rw[show f+1+(ops.size-(n+1))=(f+(ops.size-(n+1)))+1 by omega]
  obtain⟨i0,hi0,hu0,hb0⟩:∃i,i≤n∧listed.getD i false=false∧∀j,j<i→listed.getD j false=true:=by
   by_cases h0:0<cnt listed n
   ·obtain⟨i,h1,h2,h3⟩:=cnt_pos h0;exact⟨i,by omega,h2,h3⟩
   ·exact⟨n,aJ _,hn,cnt_zero (by omega)⟩
  have hi0s:i0<ops.size:=by omega
  have hr0:i0∈gJ .any ops listed:=mem_ready.2 ⟨getD_in (by rw[inv.size];exact hi0s) hu0,ops[i0],by simp[hi0s],fun e he hb=>hb0 e.on (hok.back i0 _ (by simp[hi0s]) e he hb)⟩
  refine⟨fun h=>(by rw[h]at hr0;cases hr0),fun i hi=>?_⟩
  have hin1:=QA hok inv hi0 hu0 hi
  rcases cA i n with hin|hin
  ·exact hst i hi hin
  have:i=n:=by omega
  subst this;obtain⟨q1,o,q2,q3⟩:=mem_ready.1 hi
  have hil:i<listed.size:=by rw[inv.size];exact hsz
  have hlist:=fun j (hj:j<i) hc'=>aD4 inv q2 q3 i j (by omega) hj hc'
  obtain⟨ai,ha,hco⟩:=(iP hal).2 i o (by simpa using q2);rw[hmm]at ha;injection ha with ha;subst ha;simp only[lU,aE,aA,aG,aB]at hco;obtain⟨aop,hop,g,hgd,rfl⟩:=hco;dsimp only at hma hmg hmd hM;subst hmg;obtain⟨tM,hsim,htM⟩:=hI.d2.mask
  have hag:cZ (S i) ⟨tM,(S i).h⟩ aop.sls:=by
   intro s hs
   show aZ (.c .top) tM s=_
   exact htM s (fun j aj h1 h2 h3 h4=>by
    obtain⟨o',ho',e,he,hb,hon⟩:=dQ (hok.dep i j _ aj s hmm h2 (aJ _) (by omega) h4 (by simp[AI.sls,hs]));rw[q2]at ho';injection ho' with ho';subst ho'
    have h2:=q3 e he hb
    rw[hon,h3]at h2;cases h2)
  unfold wpOp;simp only[q2]
  have hw':=kR (o:=o) (ai:=⟨o.dst,aop,none⟩) hsim hgd (b:=true) rfl
  rw[hw'];simp only[if_true]
  have h1:=aHO (P:=P) (G:=G) (ext:=ext) hma (st':=⟨tM,(S i).h⟩) hag rfl hM
  refine .inl ((pG hsim hop hext h1).wp ?_);rintro u w' ⟨β',R',x2,hh,⟨⟨hk,hck⟩,_⟩,r2,r3,r4,r5⟩;refine aFZ hext hr hok hal hsz hmm hmd hlate hck (fun a w β R h2 h3=>hT x2 hh a w β R hk h2 h3) f _ _ _ β' R' ?_ ?_ (inv.set hi (by omega)) ?_ ?_
  ·rw[YM (aJ _)];exact hc
  ·simp[hil]
  ·intro j hj hc'
   rw[getD_set_ne false (by omega)];exact hlist j hj hc'
  ·refine hI.d2.put (d:=o.dst) r2 r3 r4 (by rw[fS,cD]) ?_ ?_ ?_
   ·intro s hs hsl
    rw[hmd]at hs;injection hs with hs;subst hs;exact eO _ _ _ hsl
   ·intro s hs
    exact dC _ _ _ (fun e=>hs (by rw[hmd,e]))
   ·intro j aj hj hja hjl
    left;rw[getD_set_ne false (by omega)];exact hjl
theorem ST{os:List Oper}{al:List AI}:∀ {f m n:Nat},uC os al f m=some n→QN os al n=true
 |0,_,_,h=>by cases h
 |f+1,m,n,h=>by
  simp only[uC]at h;split at h
  ·rename_i hb;injection h with h;subst h;exact(aS _ _▸hb).2
  ·exact ST h
theorem VL(hext:cF P G ext){id:Nat}(hm:P.follows .mixedOrders=true)(hal:gB P ops ops.toList=some al)(hok:QN ops.toList al n=true){st:St}{k:St→Tr}{K:X→St→Prop}
  (h:(kG (jY ext) (al.take n) st fun st'=>nH (uW st' (aC8 (LQ ops.toList n n) (al.take n))) (kG ext (al.drop n) st' k)).holds P G K) {Q:Exit→Act→World→Prop} {β:Bt} {R:Nat→Prop} {a:Act} {w:World} (hs:eJ G β R st a w)
  (hT:∀st' a' w' β' R',(kG ext (al.drop (n+1)) st' k).holds P G K→eJ G β' R' st' a' w'→Gr β R w β' R' w'→wpList P ops Q (ops.toList.drop (n+1)) a' w'):(Code.region id ops true).wp P Q a w:=by
 have hok:=aIQ hok
 have hlen:al.length=ops.size:=by simpa using (iP hal).1
 obtain⟨m,hmm,hma,hmg,dM,hmd⟩:=hok.mid
 have hnl:n<al.length:=(aN.1 hmm).1
 have hn:n≤al.length:=by omega
 obtain⟨S,h0,hk,hst⟩:=tP hext (al.take n) st (fun ai hai=>by
  obtain⟨i,hi⟩:=fI.1 hai;rw[fG]at hi;split at hi
  ·rename_i hin;exact hok.hd i ai hi hin
  ·cases hi) h
 rw[dY,Nat.min_eq_left hn]at hk
 have hr:UK P G ext al n S:=⟨hn,fun i ai hi ha=>hst i ai (by rw[fG,if_pos hi];exact ha)⟩
 obtain⟨c1,hk⟩:=bO hk
 have hdrop:al.drop n=m::al.drop (n+1):=by
  rw[List.drop_eq_getElem_cons hnl]
  have:al[n]=m:=by rw[aH hnl]at hmm;injection hmm
  rw[this]
 rw[hdrop]at hk;simp only[kG,hmg]at hk
 have hlate:∀i ai,al[i]?=some ai→i<n→¬Ch ops n i→qQ (S n) ai.op=true:=fun i ai hi hin hc=>
  AJ c1 (aA2 (i:=i) (by rw[fG,if_pos hin];exact hi) hc (by rw[wP];omega))
 refine wp_region_any hm ?_;obtain⟨hs',hg⟩:=hs.drawn (w.drawn+1)
 have hle:=hr.le (i:=0) (j:=n) (bK _) (aJ _)
 have key:=aK7 (β0:=β) (R0:=R) (w0:=w) hext hr hok hal (by omega) (Q:=Q) hmm hma hmg hmd hlate hk (fun x h' a' w' β' R' h1 h2 h3=>hT _ a' w' β' R' (by rw[hmd]at h1;exact h1) h2 h3) n (fM ops.size false) a { w with drawn:=w.drawn+1 } β R
   (cnt_all (by omega)) (getD_replicate_false _ _) ⟨by simp,fun j oj _ hl=>(by rw[getD_replicate_false]at hl;cases hl),fun t _ ht=>getD_in (by simpa using ht) (getD_replicate_false _ _)⟩ ?_
 ·rwa [show n+1+(ops.size-(n+1))=ops.size by omega]at key
 ·rw[h0]at hle
  refine⟨hg,?_,hs.df,?_,?_,?_,?_⟩
  ·have hb:∀i x,β i=some x→aZ .gone (S n).h i=aZ .gone st.h i:=fun i x hi=>hle.2.2.1 i (hs'.hs.dom i x hi)
   refine⟨fun i x hi=>bM (hs'.hs.dom i x hi) hle.2.1,?_,?_,hs'.hs.lt,hs'.hs.rlt,?_,hs'.hs.gl,fun b ad hq=>⟨(hs'.hs.ql b ad hq).1,(hs'.hs.ql b ad hq).2.1,fun i o hi=>by rw[hb i _ hi];exact(hs'.hs.ql b ad hq).2.2 i o hi⟩⟩
   ·intro i j b o o' hi hj li lj
    rw[hb i _ hi]at li;rw[hb j _ hj]at lj;exact hs'.hs.inj i j b o o' hi hj li lj
   ·intro i b o hi li
    rw[hb i _ hi]at li;exact hs'.hs.sep i b o hi li
   ·intro i b o hi
    rw[hb i _ hi];exact hs'.hs.obj i b o hi
  ·have:=hs.tm.length;simp at this;omega
  ·intro s u hu hnd
   rw[hle.2.2.2 s fun l ai _ hl ha=>hnd l ai hl ha (getD_replicate_false _ _)]
   have hv:=aM (x:=.tmp s) hs' rfl
   have e:a.eval (.tmp s)=u:=by show a.tmps.getD s undef=u;simp[hu]
   rw[e]at hv;exact hv
  ·intro i hi _ id h1 h2
   cases hb:β id with
   |none=>rfl
   |some x=>
    have h3:=hs.hs.dom id x hb
    have:=(hr.le (i:=0) (j:=i) (bK _) (by omega)).2.1
    rw[h0]at this;omega
  ·intro s u hu _
   rw[h0]
   have hv:=aM (x:=.tmp s) hs' rfl
   have e:a.eval (.tmp s)=u:=by show a.tmps.getD s undef=u;simp[hu]
   rw[e]at hv;exact hv
end
def lD:List Bool→Nat→Nat
 |[],_=>0
 |_::_,0=>0
 |b::bs,i+1=>(if b=true then 1 else 0)+lD bs i
theorem BH{α:Type}:∀ {bs:List Bool} {l:List α} {i:Nat} {x:α},aZ false bs i=true→l[i]?=some x→(nR bs l)[lD bs i]?=some x
 |[],_,_,_,h,_=>by cases h
 |_::_,[],_,_,_,h=>by simp at h
 |b::bs,y::l,0,x,h,hx=>by
  have h:b=true:=h
  subst h;simpa[nR,lD] using hx
 |b::bs,y::l,i+1,x,h,hx=>by
  have ih:=BH (bs:=bs) (l:=l) (i:=i) (x:=x) h (by simpa using hx)
  cases b with
  |true=>simp only[nR,lD,if_true];rw[Nat.add_comm];simpa using ih
  |false=>simp only[nR,lD,dO,if_false];rw[cK];exact ih
theorem uP{α:Type}:∀ {bs:List Bool} {l:List α} {q:Nat} {x:α},(nR bs l)[q]?=some x→∃j,aZ false bs j=true∧l[j]?=some x∧lD bs j=q
 |[],l,q,x,h=>by simp[nR]at h
 |b::bs,[],q,x,h=>by cases b<;>simp[nR]at h
 |true::bs,y::l,0,x,h=>⟨0,rfl,by simpa[nR] using h,rfl⟩
 |true::bs,y::l,q+1,x,h=>by
  obtain⟨j,h1,h2,h3⟩:=uP (bs:=bs) (l:=l) (q:=q) (x:=x) (by simpa[nR] using h);exact⟨j+1,h1,by simpa using h2,by simp only[lD,if_true];omega⟩
 |false::bs,y::l,q,x,h=>by
  obtain⟨j,h1,h2,h3⟩:=uP (bs:=bs) (l:=l) (q:=q) (x:=x) (by simpa[nR] using h);exact⟨j+1,h1,by simpa using h2,by simp only[lD,dO,if_false];omega⟩
theorem sF:∀ {bs:List Bool} {i j:Nat},aZ false bs i=true→i<j→lD bs i<lD bs j
 |[],_,_,h,_=>by cases h
 |b::bs,i,0,_,h=>absurd h (by omega)
 |b::bs,0,j+1,h,_=>by
  have h:b=true:=h
  simp only[lD,if_pos h];omega
 |b::bs,i+1,j+1,h,h1=>by
  have:=sF (bs:=bs) (i:=i) (j:=j) h (by omega)
  simp only[lD];omega
section
variable {P:Program} {G:Nat→Option Obj} {ops:Array Oper} {al:List AI} {ext:Ext} {U:Nat→Prop} {F:St} {own:Nat→Nat→Prop}
variable {β0 β β':Bt} {R0 R R':Nat→Prop} {w0 w w':World} {a:Act} {listed:Array Bool}
def aHT(P:Program)(G:Nat→Option Obj)(ext:Ext)(ai:AI)(F:St)(own:Nat→Prop):Prop:=∀tM:List V,cZ F ⟨tM,F.h⟩ ai.sls →
 (mW ⟨tM,F.h⟩ ai.guard=some false∧∀s,ai.dst=some s→s<F.t.length→aZ (.c .top) F.t s=.t []) ∨
 (mW ⟨tM,F.h⟩ ai.guard=some true∧∃v,(∀s,ai.dst=some s→s<F.t.length→aZ (.c .top) F.t s=v)∧∀k' K',(k' v F.h).holds P G K'→(jB (jY ext) ⟨tM,F.h⟩ k' ai.op).holds P G K') ∨
 (mW ⟨tM,F.h⟩ ai.guard=some true∧∃x mk id,yX ⟨tM,F.h⟩ ai.op=some (x,mk)∧(∀s,ai.dst=some s→s<F.t.length→aZ (.c .top) F.t s=mk id)∧aZ .gone F.h id=x∧id<F.h.length∧own id)
structure DX (G:Nat→Option Obj) (al:List AI) (U:Nat→Prop) (F:St) (own:Nat→Nat→Prop) (β0:Bt) (R0:Nat→Prop) (w0:World) (listed:Array Bool) (a:Act) (w:World) (β:Bt) (R:Nat→Prop):Prop where
 gr:Gr β0 R0 w0 β R w
 hs:HS G β R w F.h
 df:a.defers=[]
 sz:a.tmps.size=F.t.length
 sl:∀s u,a.tmps[s]?=some u→(∀i ai,U i→al[i]?=some ai→listed.getD i false=false→ai.dst≠some s)→VR β R w (aZ (.c .top) F.t s) u
 fr:∀i,U i→listed.getD i false=false→∀id,own i id→β id=none
open Classical in
theorem DX.mask(hI:DX G al U F own β0 R0 w0 listed a w β R):∃tM,eJ G β R ⟨tM,F.h⟩ a w∧∀s,(∀i ai,U i→al[i]?=some ai→listed.getD i false=false→ai.dst≠some s)→aZ (.c .top) tM s=aZ (.c .top) F.t s:=by
 let bad:Nat→Prop:=fun s=>∃j aj,U j∧al[j]?=some aj∧listed.getD j false=false∧aj.dst=some s
 let tM:List V:=(cS F.t.length).map fun s=>if bad s then V.c C.top else aZ (.c .top) F.t s
 refine⟨tM,⟨hI.df,All2.of_get (by simp[tM,hI.sz]) ?_,hI.hs⟩,?_⟩
 ·intro s x y hx hy
  have hy:a.tmps[s]?=some y:=by simpa using hy
  have hsl:s<F.t.length:=by
   rcases cA s F.t.length with h|h
   ·exact h
   ·have hx:tM[s]?=some x:=hx
    rw[bB (by simpa[tM] using h)]at hx;cases hx
  simp only[tM,cC,eE hsl,cV,aB]at hx;subst hx;split
  ·exact trivial
  ·rename_i hb
   exact hI.sl s y hy fun j aj h1 h2 h3 h4=>hb ⟨j,aj,h1,h2,h3,h4⟩
 ·intro s hs
  have hs:¬bad s:=fun⟨j,aj,h1,h2,h3,h4⟩=>hs j aj h1 h2 h3 h4
  rw[eG,eG,aD,aD]
  rcases cA s F.t.length with h|h
  ·simp only[tM,cC,eE h,cV,if_neg hs,Option.getD_some]
   rw[eG,aD]
  ·rw[bB h,bB (by simpa[tM] using h)]
theorem DX.put(hI:DX G al U F own β0 R0 w0 listed a w β R){i:Nat}(hil:i<listed.size){ai:AI}(ha:al[i]?=some ai){x:V}{u:Value}(hv:VR β' R' w' x u)(hs':HS G β' R' w' F.h)(hg:Gr β R w β' R' w')
  (h1:∀s,ai.dst=some s→s<F.t.length→aZ (.c .top) F.t s=x) (hb:∀j id,U j→j≠i→own j id→β id=none→β' id=none):DX G al U F own β0 R0 w0 (listed.setIfInBounds i true) (a.put ai.dst u) w' β' R':=by
 refine⟨hI.gr.trans hg,hs',?_,?_,?_,?_⟩
 ·cases ai.dst<;>exact hI.df
 ·cases hd:ai.dst with
  |none=>exact hI.sz
  |some d=>show (a.tmps.setIfInBounds d u).size=_;rw[Array.size_setIfInBounds];exact hI.sz
 ·intro s u' hu hn
  by_cases hd:ai.dst=some s
  ·rw[hd]at hu
   have hu:(a.tmps.setIfInBounds s u)[s]?=some u':=hu
   have hss:s<a.tmps.size:=by
    rcases cA s a.tmps.size with h|h
    ·exact h
    ·rw[Array.getElem?_eq_none (by simpa using h)]at hu;cases hu
   simp[hss]at hu;subst hu;rw[h1 s hd (by rw[←hI.sz];exact hss)];exact hv
  ·have hu':a.tmps[s]?=some u':=by
     cases hq:ai.dst with
     |none=>rw[hq]at hu;exact hu
     |some d=>
      rw[hq]at hu hd
      have hu:(a.tmps.setIfInBounds d u)[s]?=some u':=hu
      rwa [cY (fun e=>hd (by rw[e]))]at hu
   refine VR.keep hg.keeps (hI.sl s u' hu' fun j aj hj hja hjl=>?_)
   by_cases e:j=i
   ·subst e
    rw[ha]at hja;injection hja with hja;subst hja;exact hd
   ·exact hn j aj hj hja (by rw[getD_set_ne false (fun h=>e h.symm)];exact hjl)
 ·intro j hj hjl id hid
  obtain⟨h3,h4⟩:=pP hjl hil;exact hb j id hj h4 hid (hI.fr j hj h3 id hid)
theorem DX.step(hext:cF P G ext){Q:Exit→Act→World→Prop}(hI:DX G al U F own β0 R0 w0 listed a w β R){i:Nat}{ai:AI}{o:Oper}(hU:U i)(hil:i<listed.size)(ha:al[i]?=some ai)(ho:ops[i]?=some o)
  (hc:lU P ops o=some ai) (hun:listed.getD i false=false) (hat:aHT P G ext ai F (own i)) (hrd:∀s∈ai.sls,∀j aj,U j→al[j]?=some aj→aj.dst=some s→listed.getD j false=true)
  (hdis:∀j id,U j→j≠i→own i id→¬own j id) {K:Act→World→Prop}
  (hK:∀a' w' β' R',DX G al U F own β0 R0 w0 (listed.setIfInBounds i true) a' w' β' R'→K a' w'):wpOp P ops Q i K a w:=by
 simp only[lU,aE,aA,aG,aB]at hc;obtain⟨aop,hop,g,hgd,rfl⟩:=hc;obtain⟨tM,hsim,htM⟩:=hI.mask
 have hag:cZ F ⟨tM,F.h⟩ (AI.sls ⟨o.dst,aop,g⟩):=fun s hs=>htM s (fun j aj h1 h2 h3 h4=>by rw[hrd s hs j aj h1 h2 h4]at h3;cases h3)
 unfold wpOp;simp only[ho]
 rcases hat tM hag with⟨hw,hd⟩|⟨hw,v,hd,hk⟩|⟨hw,x,mk,id,hn,hd,hx,hid,ho'⟩
 ·have hw':=kR (o:=o) (ai:=⟨o.dst,aop,g⟩) hsim hgd hw
  rw[hw'];simp only[dO,if_false];exact hK _ _ β R (hI.put hil ha qF hI.hs (Gr.refl _ _ _) hd (fun _ _ _ _ _ h=>h))
 ·have hw':=kR (o:=o) (ai:=⟨o.dst,aop,g⟩) hsim hgd hw
  rw[hw'];simp only[if_true]
  have h:=hk (fun v' h'=>.rq (v'=v∧h'=F.h) (.done .normal ⟨tM,F.h⟩)) (fun _ _=>True) ⟨⟨rfl,rfl⟩,trivial⟩
  refine .inl ((pG hsim hop (tR hext) h).wp ?_);rintro u w' ⟨β',R',x,h',⟨⟨rfl,rfl⟩,_⟩,r2,r3,r4,r5⟩
  exact hK _ _ β' R' (hI.put hil ha r2 r3 r4 hd (fun j id hj _ hid hn=>by
   rcases cA id F.h.length with hl|hl
   ·rw[r5 id hl];exact hn
   ·cases hq:β' id with
    |none=>rfl
    |some y=>have:=r3.dom id y hq;omega))
 ·have hw':=kR (o:=o) (ai:=⟨o.dst,aop,g⟩) hsim hgd hw
  rw[hw'];simp only[if_true];left;obtain⟨u,ob,N,h1,h2,h3⟩:=FF hsim hop hn
  have hid0:=hI.fr i hU hun id ho'
  unfold Oper.wp;rw[h1];refine hK _ _ (bn β id (w.heap.size,N)) R (hI.put hil ha (h3 _ id _ (fO _ _ _)) (GG hI.hs hid0 hid (by rw[hx];exact h2)) (wK hI.hs _ hid0 _ rfl) hd ?_);intro j jd hj hji hjd hn
  have hne:jd≠id:=fun e=>hdis j jd hj hji (by rw[e];exact ho') hjd
  rw[dH _ hne];exact hn
def DN(S:Nat→St)(p id:Nat):Prop:=(S p).h.length≤id∧id<(S (p+1)).h.length
theorem CZ{l:List AI}{n:Nat}{S:Nat→St}(hr:UK P G ext l n S){p:Nat}{ai:AI}(hp:p<n)(ha:l[p]?=some ai)(hrd:∀s∈ai.sls,∀q aj,p≤q→q<n→l[q]?=some aj→aj.dst≠some s)
  (hds:∀s,ai.dst=some s→∀q aj,p<q→q<n→l[q]?=some aj→aj.dst≠some s):aHT P G ext ai (S n) (DN S p):=by
 intro tM hag
 have hle:=hr.le (i:=p) (j:=n) (by omega) (aJ _)
 have hle1:=hr.le (i:=p+1) (j:=n) hp (aJ _)
 have hag':cZ (S p) ⟨tM,(S n).h⟩ ai.sls:=fun s hs=>(hag s hs).trans (hle.2.2.2 s (fun q aj h1 h2 h3=>hrd s hs q aj h1 h2 h3))
 have hgw:mW ⟨tM,(S n).h⟩ ai.guard=mW (S p) ai.guard:=by
  cases hg:ai.guard with
  |none=>rfl
  |some jw=>
   obtain⟨j,want⟩:=jw;simp only[mW];rw[hag' j (by simp[AI.sls,hg])]
 have hdst:∀s v,ai.dst=some s→s<(S n).t.length→(S (p+1)).t=mL (S p).t ai.dst v→aZ (.c .top) (S n).t s=v:=by
  intro s v hd hs ht;rw[hle1.2.2.2 s (fun q aj h1 h2 h3=>hds s hd q aj (by omega) h2 h3),ht,hd]
  show aZ (.c .top) (upd v (S p).t s) s=v
  exact eO _ _ _ (by have:=hle.1;omega)
 have hag2:cZ (S p) ⟨tM,(S n).h⟩ ai.op.sls:=cZ.right hag'
 rcases hr.step p ai hp ha with⟨hw,hS⟩|⟨hw,v,hS,hk⟩|⟨hw,x,mk,hn,hS⟩
 ·exact .inl ⟨hgw.trans hw,fun s hd hs=>hdst s _ hd hs (by rw[hS])⟩
 ·exact .inr (.inl ⟨hgw.trans hw,v,fun s hd hs=>hdst s _ hd hs (by rw[hS]),fun k' K' h=>hk ⟨tM,(S n).h⟩ hag2 hle.2.2.1 k' K' h⟩)
 ·have hl:(S p).h.length<(S (p+1)).h.length:=by rw[hS];show _<(gE x (S p).h).length;rw[mR];omega
  refine .inr (.inr ⟨hgw.trans hw,x,mk,(S p).h.length,(wE hag2).trans hn,fun s hd hs=>hdst s _ hd hs (by rw[hS,fD]),?_,by have:=hle1.2.1;omega,aJ _,hl⟩);rw[hle1.2.2.1 _ hl,hS];exact mS _ _ _
theorem aKA{t:List V}{h h':List AO}(xs:List AX):sY ⟨t,h⟩ xs=sY ⟨t,h'⟩ xs:=tW (st:=⟨t,h'⟩) (st':=⟨t,h⟩) (fun _ _=>rfl)
theorem aL8{t:List V}{h h':List AO}(vs:List C)(ps:List (Nat×Nat×AX)):kT ⟨t,h⟩ vs ps=kT ⟨t,h'⟩ vs ps:=qT (st:=⟨t,h'⟩) (st':=⟨t,h⟩) (fun _ _=>rfl)
theorem XN{op:oN}(hd:op.hd=true)(hn:op.nw=false){t:List V}{h h':List AO}(hl:qQ ⟨t,h⟩ op=true)(hc:CK h h'){k:V→List AO→Tr}{K:X→St→Prop}
  (hh:(jB (jY ext) ⟨t,h⟩ (fun v _=>k v h') op).holds P G K):(jB (jY ext) ⟨t,h'⟩ k op).holds P G K:=by
 cases op<;>simp only[oN.hd,oN.nw,dO,Bool.true_eq_false]at hd hn
 case load m x=>exact KS (ext:=jY ext) rfl hl hc hh
 case build z ps=>
  simp only[jB]at hh ⊢;rw[aL8 (h:=h') (h':=h)];exact hh
 case call f args=>
  simp only[jB]at hh ⊢;rw[aKA (h:=h') (h':=h)];exact hh
 case more o=>cases hl
 case look=>cases hl
 all_goals exact hh
theorem WP{op:oN}(hn:op.nw=true){t:List V}{h:List AO}{v:V}(hk:∀(k':V→List AO→Tr) (K':X→St→Prop),(k' v h).holds P G K'→(jB (jY ext) ⟨t,h⟩ k' op).holds P G K'):False:=by
 have h1:=hk (fun _ h''=>.rq (h''=h) (.done .normal ⟨[],[]⟩)) (fun _ _=>True) ⟨rfl,trivial⟩
 obtain⟨x,mk,_,h2⟩:=ZX hn h1
 have h2:gE x h=h:=h2.1
 have:=congrArg List.length h2
 rw[mR]at this;omega
theorem WS{st:St}{op:oN}(hb:op.isBsl=false){x:AO}{mk:Nat→V}(h:yX st op=some (x,mk)):∃ty vs,x=.cells ty vs:=by
 cases op<;>simp only[yX]at h<;>try cases h
 ·exact⟨_,_,rfl⟩
 ·split at h
  ·split at h
   ·injection h with h;injection h with h _;exact⟨_,_,h.symm⟩
   ·cases h
  ·cases h
 ·cases hb
theorem aCK{l:List AI}{n:Nat}{S:Nat→St}(hr:UK P G ext l n S){p:Nat}{ai:AI}(hp:p<n)(ha:l[p]?=some ai)(hrd:∀s∈ai.sls,∀q aj,p≤q→q<n→l[q]?=some aj→aj.dst≠some s)
  (hds:∀s,ai.dst=some s→∀q aj,p<q→q<n→l[q]?=some aj→aj.dst≠some s) (hdop:ai.op.hd=true) (hlb:qQ (S n) ai.op=true) (hbs:ai.op.isBsl=false) {F2:St} (hck:CK (S n).h F2.h) (htl:F2.t.length=(S n).t.length)
  (hs1:∀s∈ai.sls,aZ (.c .top) F2.t s=aZ (.c .top) (S n).t s) (hs2:∀s,ai.dst=some s→aZ (.c .top) F2.t s=aZ (.c .top) (S n).t s):aHT P G ext ai F2 (DN S p):=by
 intro tM hag
 have hag1:cZ (S n) ⟨tM,(S n).h⟩ ai.sls:=fun s hs=>(hag s hs).trans (hs1 s hs)
 rcases CZ hr hp ha hrd hds tM hag1 with⟨hw,hd⟩|⟨hw,v,hd,hk⟩|⟨hw,x,mk,id,hn,hd,hx,hid,ho⟩
 ·exact .inl ⟨hw,fun s h1 h2=>(hs2 s h1).trans (hd s h1 (by omega))⟩
 ·refine .inr (.inl ⟨hw,v,fun s h1 h2=>(hs2 s h1).trans (hd s h1 (by omega)),fun k' K' h=>?_⟩)
  cases hnw:ai.op.nw with
  |true=>exact(WP hnw hk).elim
  |false=>exact XN hdop hnw (aF1 (st:=S n) (cZ.right hag1) hlb) hck (hk (fun v _=>k' v F2.h) K' h)
 ·obtain⟨ty,vs,rfl⟩:=WS hbs hn
  refine .inr (.inr ⟨hw,.cells ty vs,mk,id,?_,fun s h1 h2=>(hs2 s h1).trans (hd s h1 (by omega)),hck id _ rfl hx,iM (hck id _ rfl hx) (by simp),ho⟩);rw[←hn];exact wE (st:=⟨tM,(S n).h⟩) (st':=⟨tM,F2.h⟩) (fun _ _=>rfl)
def CKX(h h':List AO):Prop:=CK h h'∧h.length≤h'.length
theorem TU{h:List AO}{id:Nat}{x:AO}(hn:∀x:AO,x.kp=true→aZ .gone h id≠x):CKX h (gE x (upd .gone h id)):=⟨PB hn,by rw[mR,fS,cD];omega⟩
theorem aHA{h:List AO}{x:AO}:CKX h (gE x h):=⟨aAZ,by rw[mR];omega⟩
theorem aDL{op:oN}(ho:op.isApp=true){st st':St}(hag:cZ st st' op.sls)(hh:st'.h=st.h){k:V→List AO→Tr}{K:X→St→Prop}(h:(jB ext st k op).holds P G K) :
  (jB ext st' (fun v h'=>.rq ((k v h').holds P G K∧CKX st.h h') (.done .normal st')) op).holds P G fun _ _=>True:=by
 cases op<;>simp only[oN.isApp,dO]at ho;rename_i ty sz bytes z x y
 have ex:st'.ev x=st.ev x:=bY (cZ.left hag)
 have ey:st'.ev y=st.ev y:=bY (cZ.right hag)
 have src:∀ {kk kk':Nat→(Nat→Nat→C)→Tr} {K K':X→St→Prop},(∀m g,(kk m g).holds P G K→(kk' m g).holds P G K')→(vV st sz y kk).holds P G K→(vV st' sz y kk').holds P G K':=by
  intro kk kk' K K' hk h;simp only[vV,ey,hh]at h ⊢;split at h
  ·rename_i e1;(try rw[e1]);exact hk _ _ h
  ·rename_i e1;(try rw[e1]);obtain⟨c1,c2⟩:=bO h;exact eI c1 (hk _ _ c2)
  ·rename_i e1
   (try rw[e1])
   (try dsimp only at h ⊢)
   split at h
   ·rename_i e2;(try rw[e2]);obtain⟨c1,c2,c3⟩:=bO h;exact eI c1 ⟨c2,hk _ _ c3⟩
   ·exact h.elim
  ·exact h.elim
 simp only[jB]at h ⊢;obtain⟨c1,h⟩:=bO h;refine eI c1 ?_
 rcases pM h with⟨h,hoff⟩|⟨id,sz',off,len,e1,e2,h⟩
 ·have hoff':(IH st' x (GX st' ty sz x fun n f old=>vV st' sz y fun m g=>
      .rq ((n+m)*bytes≤140737488355328∧n+m≤140737488355328∧∀e o,e<m→o<sz→jH (g e o)=true) (.rq ((k (.c (.sl (gA st'.h) sz 0 (n+m))) (gE (.row ty sz (n+m) (fU n f g)) (lB st'.h old))).holds P G K∧CKX st.h (gE (.row ty sz (n+m) (fU n f g)) (lB st'.h old))) (.done .normal st')))
      (PF st' (fun v h'=>.rq ((k v h').holds P G K∧CKX st.h h') (.done .normal st')) ty sz bytes x y)).holds P G fun _ _=>True:=by
    have hd:(GX st' ty sz x fun n f old=>vV st' sz y fun m g=>
     .rq ((n+m)*bytes≤140737488355328∧n+m≤140737488355328∧∀e o,e<m→o<sz→jH (g e o)=true) (.rq ((k (.c (.sl (gA st'.h) sz 0 (n+m))) (gE (.row ty sz (n+m) (fU n f g)) (lB st'.h old))).holds P G K∧CKX st.h (gE (.row ty sz (n+m) (fU n f g)) (lB st'.h old))) (.done .normal st'))).holds P G fun _ _=>True:=by
     simp only[GX,ex,hh]at h ⊢;split at h
     ·rename_i e1
      (try rw[e1])
      refine src (fun m g q=>?_) h;exact⟨q.1,⟨q.2,aHA⟩,trivial⟩
     ·rename_i e1
      (try rw[e1])
      (try dsimp only at h ⊢)
      split at h
      ·rename_i e2
       (try rw[e2])
       obtain⟨c1,c2,c3⟩:=bO h;refine eI c1 ⟨c2,src (fun m g q=>?_) c3⟩;exact⟨q.1,⟨q.2,TU (by rw[e2];intro x hx h;subst h;cases hx)⟩,trivial⟩
      ·exact h.elim
     ·exact h.elim
    unfold IH;rw[ex];split
    ·rename_i e1
     have:=hoff _ _ _ _ e1
     subst this;exact hd
    ·exact hd
  exact hoff'
 ·unfold IH
  rw[ex,e1];dsimp only
  have hb:aT off 0=false:=by
   cases hq:aT off 0 with
   |false=>rfl
   |true=>exact absurd (aF hq) e2
  rw[hb]
  change (PF st' (fun v h'=>.rq ((k v h').holds P G K∧CKX st.h h') (.done .normal st')) ty sz bytes x y).holds P G fun _ _=>True
  simp only[PF,ex,e1,hh]at h ⊢;split at h
  ·rename_i e3
   (try rw[e3])
   obtain⟨c1,c2,c3⟩:=bO h
   have hck:∀x:AO,CKX st.h (gE x (upd .gone st.h id)):=fun x=>TU (by rw[e3];intro x hx h;subst h;cases hx)
   refine eI c1 ⟨c2,src (fun m g q=>?_) c3⟩;exact⟨q.1,⟨⟨q.2.1,hck _⟩,trivial⟩,⟨⟨q.2.2,hck _⟩,trivial⟩⟩
  ·exact h.elim
structure aDQ (ops:Array Oper) (al:List AI) (n N:Nat) (D:Nat→Prop):Prop where
 back:∀i o,ops[i]?=some o→∀e∈o.after,eW .any e=true→e.on<i
 hd:∀i ai,al[i]?=some ai→i<N→i≠n→ai.op.hd=true
 dst:∀i j x y d,al[i]?=some x→al[j]?=some y→i<N→j<N→i≠j→x.dst=some d→y.dst≠some d
 dep:∀i j x y d,al[i]?=some x→al[j]?=some y→i<N→j<N→y.dst=some d→d∈x.sls→dR .any ops i j=true
 nN:n<N
 dn:D n
 d2:∀i,i<N→D i→i≠n→∃j,j<i∧D j∧dR .any ops i j=true
 m1:∀i j x y d,al[i]?=some x→al[j]?=some y→i<N→j<N→¬D i→D j→y.dst=some d→d ∉ x.sls
 tl1:∀i,i<N→N<ops.size→dR .any ops N i=true
 tl2:∀t,N<t→t<ops.size→dR .any ops t (t-1)=true
variable {n N:Nat} {D:Nat→Prop}
theorem JJ(hok:aDQ ops al n N D)(inv:HeadInv .any ops N listed){i i0:Nat}(h0:i0<N)(hu:listed.getD i0 false=false)(hi:i∈gJ .any ops listed):i<N:=by
 rcases cA i N with h|h
 case inl=>exact h
 obtain⟨q1,o,q2,q3⟩:=mem_ready.1 hi
 have his:i<ops.size:=(aO.1 q2).1
 by_cases e:i=N
 ·subst e
  obtain⟨o',ho',e,he,hb,hon⟩:=dQ (hok.tl1 i0 h0 his);rw[q2]at ho';injection ho' with ho';subst ho'
  have:=q3 e he hb
  rw[hon,hu]at this;cases this
 ·obtain⟨o',ho',e',he,hb,hon⟩:=dQ (hok.tl2 i (by omega) his)
  rw[q2]at ho';injection ho' with ho';subst ho'
  have:=q3 e' he hb
  rw[hon,getD_both (inv.tail (i-1) (by omega) (by omega))]at this;cases this
theorem AA(hok:aDQ ops al n N D)(hNs:N≤ops.size)(inv:HeadInv .any ops N listed)(hc:0<cnt listed N):∃i0,i0<N∧listed.getD i0 false=false∧i0∈gJ .any ops listed:=by
 obtain⟨i0,hi0,hu0,hb0⟩:=cnt_pos hc
 have hi0s:i0<ops.size:=by omega
 exact⟨i0,hi0,hu0,mem_ready.2 ⟨getD_in (by rw[inv.size];exact hi0s) hu0,ops[i0],by simp[hi0s],fun e he hb=>hb0 e.on (hok.back i0 _ (by simp[hi0s]) e he hb)⟩⟩
theorem vY(hok:aDQ ops al n N D){i:Nat}{ai:AI}{o:Oper}(hi:i<N)(ha:al[i]?=some ai)(ho:ops[i]?=some o)(q3:∀e∈o.after,eW .any e=true→listed.getD e.on false=true) :
  ∀s∈ai.sls,∀j aj,j<N→al[j]?=some aj→aj.dst=some s→listed.getD j false=true:=by
 intro s hs j aj hj hja hd;obtain⟨o',ho',e,he,hb,hon⟩:=dQ (hok.dep i j ai aj s ha hja hi hj hd hs);rw[ho]at ho';injection ho' with ho';subst ho'
 have:=q3 e he hb
 rwa [hon]at this
theorem aCL(hext:cF P G ext)(hok:aDQ ops al n N D)(hNs:N≤ops.size)(hal:gB P ops ops.toList=some al){Q:Exit→Act→World→Prop}
  (hat:∀i ai,i<N→al[i]?=some ai→i≠n→¬(i<n∧Ch ops n i)→aHT P G ext ai F (own i)) (hdis:∀i j id,i<N→j<N→j≠i→own i id→¬own j id)
  (hT:∀a w β R,eJ G β R F a w→Gr β0 R0 w0 β R w→wpList P ops Q (ops.toList.drop N) a w) :
  ∀(f:Nat) (listed:Array Bool) (a:Act) (w:World) (β:Bt) (R:Nat→Prop),cnt listed N=f→listed.getD n false=true→HeadInv .any ops N listed→(∀i,i<n→Ch ops n i→listed.getD i false=true) →
   DX G al (fun i=>i<N) F own β0 R0 w0 listed a w β R→wpAny P .any ops Q (f+(ops.size-N)) listed a w:=by
 intro f;induction f with
 |zero=>
  intro listed a w β R hc hn inv hch hI;rw[cK]
  have hall:=cnt_zero hc
  have hsim:eJ G β R F a w:=by
   refine⟨hI.df,All2.of_get (by simp[hI.sz]) ?_,hI.hs⟩;intro s y z hx hy
   have h1:=hI.sl s z (by simpa using hy) fun i ai hi _ hl=>by rw[hall i hi]at hl;cases hl
   rw[eG,aD,hx]at h1;exact h1
  have:=wZ hok.back (ops.toList.drop N) N listed a w (fun j=>by simp[iD]) inv.size (fun i hi _=>hall i hi) inv.tail (fun t ht hts=>hok.tl2 t ht hts) (hT a w β R hsim hI.gr)
  simpa using this
 |succ f ih=>
  intro listed a w β R hc hn inv hch hI;rw[show f+1+(ops.size-N)=(f+(ops.size-N))+1 by omega];obtain⟨i0,hi0,hu0,hr0⟩:=AA hok hNs inv (by omega);refine⟨fun h=>(by rw[h]at hr0;cases hr0),fun i hi=>?_⟩;obtain⟨q1,o,q2,q3⟩:=mem_ready.1 hi
  have his:i<ops.size:=(aO.1 q2).1
  have hin:=JJ hok inv hi0 hu0 hi
  have hun:=getD_both q1
  have hil:i<listed.size:=by rw[inv.size];exact his
  have hne:i≠n:=fun e=>by subst e;rw[hn]at hun;cases hun
  have hnch:¬(i<n∧Ch ops n i):=fun h=>by rw[hch i h.1 h.2]at hun;cases hun
  obtain⟨ai,ha,hco⟩:=(iP hal).2 i o (by simpa using q2)
  refine hI.step hext hin hil ha q2 hco hun (hat i ai hin ha hne hnch) (vY hok hin ha q2 q3) (fun j id hj hji h1=>hdis i j id hin hj hji h1) fun a' w' β' R' hI'=>ih _ a' w' β' R' (by have:=cnt_set hil hun hin;omega) ?_ (inv.set hi hin) ?_ hI'
  ·rw[getD_set_ne false hne];exact hn
  ·intro j hj hcj
   by_cases e:i=j
   ·subst e;exact absurd ⟨hj,hcj⟩ hnch
   ·rw[getD_set_ne false e];exact hch j hj hcj
theorem YN(inv:HeadInv .any ops N listed){om:Oper}(hm:ops[n]?=some om)(hready:∀e∈om.after,eW .any e=true→listed.getD e.on false=true):∀(k i:Nat),n-i≤k→i<n→Ch ops n i→listed.getD i false=true:=by
 intro k;induction k with
 |zero=>intro i h1 h2;omega
 |succ k ih=>
  intro i h1 h2 h3
  rcases HE (aJ n) h3 with h4|⟨j',o,h4,h5,h6,h7,h8⟩
  ·omega
  ·rw[Nat.sub_self,cK]at h7 h8
   have h7:ops[j']?=some o:=by simpa using h7
   obtain⟨o',ho',e,he,hb,hon⟩:=dQ (kA h7 h8);rw[h7]at ho';injection ho' with ho';subst ho'
   by_cases e1:j'=n
   ·subst e1
    rw[hm]at h7;injection h7 with h7;subst h7
    have:=hready e he hb
    rwa [hon]at this
   ·have:=inv.closed j' o h7 (ih j' (by omega) (by omega) h6) e he hb
    rwa [hon]at this
theorem aFM(hext:cF P G ext)(hok:aDQ ops al n N D)(hNs:N≤ops.size)(hal:gB P ops ops.toList=some al){Q:Exit→Act→World→Prop}
  (hat:∀i ai,i<N→al[i]?=some ai→¬D i→aHT P G ext ai F (own i)) (hdis:∀i j id,i<N→j<N→¬D i→¬D j→j≠i→own i id→¬own j id)
  (hM:∀(listed:Array Bool) (a:Act) (w:World) (β:Bt) (R:Nat→Prop) (o:Oper),ops[n]?=some o→n∈gJ .any ops listed→HeadInv .any ops N listed→(∀i,i<n→Ch ops n i→listed.getD i false=true)→(∀i,i<N→D i→listed.getD i false=false)→DX G al (fun i=>i<N∧¬D i) F own β0 R0 w0 listed a w β R →
   (∀s∈AI.sls ((al[n]?).getD ⟨none,.mv (.t 0),none⟩),∀j aj,(j<N∧¬D j)→al[j]?=some aj→aj.dst=some s→listed.getD j false=true) →
   wpOp P ops Q n (wpAny P .any ops Q (cnt listed N-1+(ops.size-N)) (listed.setIfInBounds n true)) a w) :
  ∀(f:Nat) (listed:Array Bool) (a:Act) (w:World) (β:Bt) (R:Nat→Prop),cnt listed N=f→HeadInv .any ops N listed→(∀i,i<N→D i→listed.getD i false=false) →
   DX G al (fun i=>i<N∧¬D i) F own β0 R0 w0 listed a w β R→wpAny P .any ops Q (f+(ops.size-N)) listed a w:=by
 intro f;induction f with
 |zero=>
  intro listed a w β R hc inv hD hI
  have:=cnt_zero hc n hok.nN
  rw[hD n hok.nN hok.dn]at this;cases this
 |succ f ih=>
  intro listed a w β R hc inv hD hI;rw[show f+1+(ops.size-N)=(f+(ops.size-N))+1 by omega];obtain⟨i0,hi0,hu0,hr0⟩:=AA hok hNs inv (by omega);refine⟨fun h=>(by rw[h]at hr0;cases hr0),fun i hi=>?_⟩;obtain⟨q1,o,q2,q3⟩:=mem_ready.1 hi
  have his:i<ops.size:=(aO.1 q2).1
  have hin:=JJ hok inv hi0 hu0 hi
  have hun:=getD_both q1
  have hil:i<listed.size:=by rw[inv.size];exact his
  obtain⟨ai,ha,hco⟩:=(iP hal).2 i o (by simpa using q2)
  by_cases hn:i=n
  ·subst hn
   have:=hM listed a w β R o q2 hi inv (fun j hj hcj=>YN inv q2 q3 i j (by omega) hj hcj) hD hI (fun s hs j aj hj hja hd=>by
     rw[ha]at hs
     exact vY hok hin ha q2 q3 s hs j aj hj.1 hja hd)
   rwa [hc,Nat.add_sub_cancel]at this
  ·have hnd:¬D i:=fun hd=>by
     obtain⟨j,h1,h2,h3⟩:=hok.d2 i hin hd hn;obtain⟨o',ho',e,he,hb,hon⟩:=dQ h3;rw[q2]at ho';injection ho' with ho';subst ho'
     have:=q3 e he hb
     rw[hon,hD j (by omega) h2]at this;cases this
   refine hI.step hext ⟨hin,hnd⟩ hil ha q2 hco hun (hat i ai hin ha hnd) (fun s hs j aj hj hja hd=>vY hok hin ha q2 q3 s hs j aj hj.1 hja hd) (fun j id hj hji h1=>hdis i j id hin hj.1 hnd hj.2 hji h1) fun a' w' β' R' hI'=>ih _ a' w' β' R' (by have:=cnt_set hil hun hin;omega) (inv.set hi hin) ?_ hI'
   intro j hj hdj;rw[getD_set_ne false (fun e:i=j=>hnd (by rw[e];exact hdj))];exact hD j hj hdj
theorem SB:∀ {bs:List Bool} {i:Nat},i<bs.length→aZ false (jZ bs) i = !aZ false bs i
 |[],_,h=>absurd h (Nat.not_lt_zero _)
 |_::_,0,_=>rfl
 |_::r,i+1,h=>SB (bs:=r) (Nat.lt_of_succ_lt_succ h)
theorem KJ:∀bs:List Bool,(jZ bs).length=bs.length
 |[]=>rfl
 |_::r=>congrArg (· + 1) (KJ r)
theorem NQ{bs:List Bool}{i:Nat}(h:aZ false bs i=true):i<bs.length:=by
 rcases cA i bs.length with h'|h'
 ·exact h'
 ·rw[eG,aD,bB h']at h;cases h
theorem FU:∀ {bs cs:List Bool} {i:Nat},i<bs.length→aZ false bs i=false→aZ false cs i=false→aZ false (SM bs cs) i=true
 |[],_,_,h,_,_=>absurd h (Nat.not_lt_zero _)
 |b::r,[],0,_,h1,_=>by have h1:b=false:=h1;subst h1;rfl
 |b::r,c::cs,0,_,h1,h2=>by have h1:b=false:=h1;have h2:c=false:=h2;subst h1;subst h2;rfl
 |b::r,[],i+1,h,h1,h2=>FU (bs:=r) (cs:=[]) (Nat.lt_of_succ_lt_succ h) h1 (by cases i<;>rfl)
 |b::r,c::cs,i+1,h,h1,h2=>FU (bs:=r) (cs:=cs) (Nat.lt_of_succ_lt_succ h) h1 h2
theorem RH:∀ {l:List AI} {q:Nat} {x:AI},l[q]?=some x→x.op∈aNA l
 |[],_,_,h=>by simp at h
 |y::r,0,x,h=>by simp at h;subst h;exact List.mem_cons_self ..
 |y::r,q+1,x,h=>bL _ (RH (by simpa using h))
theorem aCA{l:List oN}(h:aA3 l=true){x:oN}(hx:x∈l):x.isBsl=false:=by
 induction l with
 |nil=>cases hx
 |cons y r ih=>
  have h:(!y.isBsl&&aA3 r)=true:=h
  rw[aS]at h
  rcases cR.1 hx with e|hx
  ·rw[e];simpa using h.1
  ·exact ih h.2 hx
theorem II{bs:List Bool}{n i:Nat}:aZ false (upd false bs n) i=true↔aZ false bs i=true∧i≠n:=by
 by_cases e:i=n
 ·subst e
  constructor
  ·intro h
   have hl:=NQ h
   rw[fS,cD]at hl;rw[eO _ _ _ hl]at h;cases h
  ·intro h;exact absurd rfl h.2
 ·rw[dC _ _ _ (fun h=>e h.symm)]
  exact⟨fun h=>⟨h,e⟩,fun h=>h.1⟩
theorem aIP(h:JT ops.toList al n N=true):aDQ ops al n N (fun i=>aZ false (TR ops.toList n N) i=true)∧(∃m,al[n]?=some m∧m.op.isApp=true∧m.guard=none∧∃d,m.dst=some d)∧N≤al.length∧(TR ops.toList n N).length=N:=by
 unfold JT at h;simp only[aS]at h;obtain⟨h1,h2,h3,h4,h5,h6,h7,h8,h9,h10,h11,h12,h13⟩:=h
 have hlen:(TR ops.toList n N).length=N:=by rw[←fD];exact aF h13
 refine⟨⟨?_,?_,?_,?_,?_,h6,?_,?_,?_,?_⟩,?_,by rw[fD]at h12;exact Nat.le_of_ble_eq_true h12,hlen⟩
 ·intro i o ho e he hb
  have:=vB (gY h1 i o (by simpa using ho)) e (by simpa using he)
  simpa[hb] using this
 ·intro i ai hi hn hne
  have:=gY h2 i ai hi
  simp only[cE,dZ]at this
  rcases this with h|h|h
  ·omega
  ·have:=aF h;omega
  ·exact h
 ·intro i j x y d hx hy hi hj hij hd hd'
  have:=gY h3 i x hx
  simp only[cE,dZ]at this
  rcases this with h|h
  ·omega
  ·have:=gY h j y hy
   simp only[cE,dZ,hd,hd',eqD]at this
   rcases this with h|h|h
   ·omega
   ·have:=aF h;omega
   ·simp at h
 ·intro i j x y d hx hy hi hj hd hs
  have:=gY h4 i x hx
  simp only[cE,dZ]at this
  rcases this with h|h
  ·omega
  ·have:=gY h j y hy
   simp only[cE,dZ,hd,inD]at this
   rcases this with h|h|h
   ·omega
   ·rw[kQ hs]at h;cases h
   ·obtain⟨o,ho,hw⟩:=nK h
    have ho:ops[i]?=some o:=by simpa using JI ho
    rw[cK]at hw;exact kA ho hw
 ·simpa using h5
 ·intro i hi hd hne
  have hd':=hd
  have hg:(TR ops.toList n N)[i]?=some true:=xM hd' (by decide)
  have:=gY h7 i true hg
  simp only[cE,Bool.not_true,dO,false_or,cK]at this
  rcases this with h|h
  ·exact absurd (aF h) hne
  ·obtain⟨j,c,hj,hb⟩:=PG h
   simp only[aS,cK]at hb;obtain⟨hc,hlt,hw⟩:=hb;subst hc;obtain⟨o,ho,hw⟩:=nK hw
   have ho:ops[i]?=some o:=by simpa using JI ho
   refine⟨j,by simpa using hlt,?_,kA ho hw⟩
   show aZ false (TR ops.toList n N) j=true
   rw[eG,aD,hj];rfl
 ·intro i j x y d hx hy hi hj hdi hdj hd hs
  have:=gY h8 i x hx
  simp only[cE,dZ,cK]at this
  rcases this with h|h|h
  ·omega
  ·exact hdi h
  ·have:=gY h j y hy
   simp only[cE,dZ,hd,inD,cK]at this
   rcases this with h|h|h
   ·omega
   ·rw[hdj]at h;cases h
   ·rw[kQ hs]at h;cases h
 ·intro i hi hn
  have his:i<ops.size:=by omega
  have:=gY h10 i ops[i] (by simp[his])
  simp only[cE,dZ,cK]at this
  rcases this with h|h
  ·omega
  ·have ho:ops[N]?=some ops[N]:=by simp[hn]
   refine kA ho (vB h _ ?_);rw[fI];exact⟨0,by simp[hn]⟩
 ·intro t ht hts
  have:=gY h11 t ops[t] (by simp[hts])
  simp only[cE,dZ,cK]at this
  rcases this with h|h
  ·omega
  ·exact kA (by simp[hts]) h
 ·obtain⟨m,hm,hb⟩:=nK h9
  simp only[aS]at hb;refine⟨m,JI hm,hb.1,?_,?_⟩
  ·cases hg:m.guard with
   |none=>rfl
   |some _=>rw[hg]at hb;cases hb.2.1
  ·cases hg:m.dst with
   |some d=>exact⟨d,rfl⟩
   |none=>rw[hg]at hb;cases hb.2.2
theorem KY{os:List Oper}{al:List AI}{n:Nat}:∀ {f m N:Nat},OV os al n f m=some N→JT os al n N=true
 |0,_,_,h=>by cases h
 |f+1,m,N,h=>by
  simp only[OV]at h;split at h
  ·rename_i hb;injection h with h;subst h;exact(aS _ _▸hb).2
  ·exact KY h
theorem SR{os:List Oper}{al:List AI}:∀ {f m n N:Nat},aAR os al f m=some (n,N)→JT os al n N=true
 |0,_,_,_,h=>by cases h
 |f+1,m,n,N,h=>by
  simp only[aAR]at h;split at h
  ·split at h
   ·rename_i N' hb
    injection h with h;injection h with h1 h2;subst h1;subst h2;exact KY hb
   ·exact SR h
  ·exact SR h
theorem aAF{h hF:List AO}(hh:HS G β R w h)(h1:h.length≤hF.length)(h2:∀id,id<h.length→aZ .gone hF id=aZ .gone h id):HS G β R w hF:=by
 have hb:∀i x,β i=some x→aZ .gone hF i=aZ .gone h i:=fun i x hi=>h2 i (hh.dom i x hi)
 refine⟨fun i x hi=>bM (hh.dom i x hi) h1,?_,?_,hh.lt,hh.rlt,?_,hh.gl,fun b ad hq=>⟨(hh.ql b ad hq).1,(hh.ql b ad hq).2.1,fun i o hi=>by rw[hb i _ hi];exact(hh.ql b ad hq).2.2 i o hi⟩⟩
 ·intro i j b o o' hi hj li lj
  rw[hb i _ hi]at li;rw[hb j _ hj]at lj;exact hh.inj i j b o o' hi hj li lj
 ·intro i b o hi li
  rw[hb i _ hi]at li;exact hh.sep i b o hi li
 ·intro i b o hi
  rw[hb i _ hi];exact hh.obj i b o hi
theorem aN3(hext:cF P G ext){id:Nat}(hm:P.follows .mixedOrders=true)(hal:gB P ops ops.toList=some al)(hok:JT ops.toList al n N=true){mm:AI}(hmm:al[n]?=some mm){st:St}{k:St→Tr}{K:X→St→Prop}
  (h:(kG (jY ext) (nR (jZ (TR ops.toList n N)) al) st fun st1=>nH (uW st1 (aAB ops.toList al n N)&&aA3 (aAB ops.toList al n N)) (jB ext st1 (fun v h'=>kG (jY ext) (nR (upd false (TR ops.toList n N) n) al) ⟨mL st1.t mm.dst v,h'⟩ fun st2=>kG ext (al.drop N) st2 k) mm.op)).holds P G K)
  {Q:Exit→Act→World→Prop} {a:Act} {w:World} (hs:eJ G β R st a w)
  (hT:∀st' a' w' β' R',(kG ext (al.drop N) st' k).holds P G K→eJ G β' R' st' a' w'→Gr β R w β' R' w'→wpList P ops Q (ops.toList.drop N) a' w'):(Code.region id ops true).wp P Q a w:=by
 obtain⟨hx,hmid,hNl,hdbl⟩:=aIP hok;obtain⟨mm',hmm',hma,hmg,dM,hmd⟩:=hmid;rw[hmm]at hmm';injection hmm' with hmm';subst hmm'
 have hlen:al.length=ops.size:=by simpa using (iP hal).1
 have hNs:N≤ops.size:=by omega
 generalize hdb:TR ops.toList n N=db at *
 have hD:∀i,i<N→(aZ false (jZ db) i=true↔¬aZ false db i=true):=fun i hi=>by
  rw[SB (by omega)];cases aZ false db i<;>simp
 have hD2:∀i,aZ false (upd false db n) i=true↔aZ false db i=true∧i≠n:=fun i=>II
 have hl1:∀q x,(nR (jZ db) al)[q]?=some x→∃j,j<N∧¬aZ false db j=true∧al[j]?=some x∧lD (jZ db) j=q:=fun q x hq=>by
  obtain⟨j,h1,h2,h3⟩:=uP hq
  have hj:j<N:=by have:=NQ h1;rw[KJ]at this;omega
  exact⟨j,hj,(hD j hj).1 h1,h2,h3⟩
 have hl2:∀q x,(nR (upd false db n) al)[q]?=some x→∃j,j<N∧(aZ false db j=true∧j≠n)∧al[j]?=some x∧lD (upd false db n) j=q:=fun q x hq=>by
  obtain⟨j,h1,h2,h3⟩:=uP hq
  have h4:=(hD2 j).1 h1
  exact⟨j,by have:=NQ h4.1;omega,h4,h2,h3⟩
 obtain⟨S,h0,hk0,hst⟩:=tP hext (nR (jZ db) al) st (fun ai hai=>by
  obtain⟨q,hq⟩:=fI.1 hai;obtain⟨j,h1,h2,h3,_⟩:=hl1 q ai hq
  exact hx.hd j ai h3 h1 (fun e=>h2 (by rw[e];exact hx.dn))) h
 generalize hn1:(nR (jZ db) al).length=n1 at hk0
 have hr:UK P G ext (nR (jZ db) al) n1 S:=⟨by omega,fun i ai hi ha=>hst i ai ha⟩
 obtain⟨c1,hk⟩:=bO hk0;clear hk0;rw[aS]at c1;obtain⟨c1,c2⟩:=c1
 have hp1:∀i ai,i<N→al[i]?=some ai→¬aZ false db i=true→(nR (jZ db) al)[lD (jZ db) i]?=some ai∧lD (jZ db) i<n1:=fun i ai hi ha hd=>by
  have h1:=BH ((hD i hi).2 hd) ha
  exact⟨h1,by rw[←hn1];exact(aN.1 h1).1⟩
 have hp2:∀i ai,i<N→al[i]?=some ai→aZ false db i=true→i≠n→(nR (upd false db n) al)[lD (upd false db n) i]?=some ai:=fun i ai hi ha hd hne=>BH ((hD2 i).2 ⟨hd,hne⟩) ha
 have waits_lt:∀i j,i<N→dR .any ops i j=true→j<i:=fun i j hi hw=>by
  obtain⟨o',ho',e,he,hb,hon⟩:=dQ hw
  have:=hx.back i o' ho' e he hb
  omega
 have rd1:∀i ai,i<N→al[i]?=some ai→∀s∈ai.sls,∀q aj,lD (jZ db) i≤q→q<n1→(nR (jZ db) al)[q]?=some aj→aj.dst≠some s:=by
  intro i ai hi ha s hs q aj hq _ hj hd;obtain⟨j,j1,j2,j3,j4⟩:=hl1 q aj hj
  have hlt:=waits_lt i j hi (hx.dep i j ai aj s ha j3 hi j1 hd hs)
  have:=sF (bs:=jZ db) ((hD j j1).2 j2) hlt
  omega
 have ds1:∀i ai,i<N→al[i]?=some ai→∀s,ai.dst=some s→∀q aj,lD (jZ db) i<q→q<n1→(nR (jZ db) al)[q]?=some aj→aj.dst≠some s:=by
  intro i ai hi ha s hs q aj hq _ hj hd;obtain⟨j,j1,j2,j3,j4⟩:=hl1 q aj hj;exact hx.dst i j ai aj s ha j3 hi j1 (fun e=>by rw[←e]at j4;omega) hs hd
 have own1:∀i j id,i<N→j<N→¬aZ false db i=true→¬aZ false db j=true→j≠i→DN S (lD (jZ db) i) id→¬DN S (lD (jZ db) j) id:=by
  intro i j id hi hj hdi hdj hne ⟨a1,a2⟩ ⟨b1,b2⟩
  rcases cA i j with h|h
  ·have h1:=sF (bs:=jZ db) ((hD i hi).2 hdi) h
   obtain⟨aj,haj⟩:∃aj,al[j]?=some aj:=⟨al[j],aH (by omega)⟩
   have h2:=(hp1 j aj hj haj hdj).2
   have:=(hr.le (i:=lD (jZ db) i+1) (j:=lD (jZ db) j) (by omega) (by omega)).2.1
   omega
  ·have h1:=sF (bs:=jZ db) ((hD j hj).2 hdj) (show j<i by omega)
   obtain⟨aj,haj⟩:∃aj,al[i]?=some aj:=⟨al[i],aH (by omega)⟩
   have h2:=(hp1 i aj hi haj hdi).2
   have:=(hr.le (i:=lD (jZ db) j+1) (j:=lD (jZ db) i) (by omega) (by omega)).2.1
   omega
 have hle0:=hr.le (i:=0) (j:=n1) (bK _) (aJ _)
 refine wp_region_any hm ?_;obtain⟨hs',hg⟩:=hs.drawn (w.drawn+1)
 have key:=aFM (β0:=β) (R0:=R) (w0:=w) (F:=S n1) (own:=fun i=>DN S (lD (jZ db) i)) (Q:=Q) hext hx hNs hal
  (fun i ai hi ha hd=>CZ hr (hp1 i ai hi ha hd).2 (hp1 i ai hi ha hd).1 (rd1 i ai hi ha) (ds1 i ai hi ha)) own1 ?_
  N (fM ops.size false) a { w with drawn:=w.drawn+1 } β R (cnt_all hNs) ⟨by simp,fun j oj _ hl=>(by rw[getD_replicate_false]at hl;cases hl),fun t _ ht=>getD_in (by simpa using ht) (getD_replicate_false _ _)⟩ (fun i _ _=>getD_replicate_false _ _) ?_
 ·rwa [show N+(ops.size-N)=ops.size by omega]at key
 ·
   intro listed a w1 β1 R1 o ho hrdy inv hch hDl hI hrd
   have hrd:∀s∈AI.sls mm,∀j aj,(j<N∧¬aZ false db j=true)→al[j]?=some aj→aj.dst=some s→listed.getD j false=true:=by rw[hmm]at hrd;exact hrd
   obtain⟨q1,o',q2,q3⟩:=mem_ready.1 hrdy;rw[ho]at q2;injection q2 with q2;subst q2
   have hns:n<ops.size:=(aO.1 ho).1
   have hun:=getD_both q1
   have hil:n<listed.size:=by rw[inv.size];exact hns
   obtain⟨ai,ha,hco⟩:=(iP hal).2 n o (by simpa using ho);rw[hmm]at ha;injection ha with ha;subst ha;simp only[lU,aE,aA,aG,aB]at hco;obtain⟨aop,hop,g,hgd,rfl⟩:=hco;dsimp only at hma hmg hmd hk;subst hmg;obtain⟨tM,hsim,htM⟩:=hI.mask
   have hag:cZ (S n1) ⟨tM,(S n1).h⟩ aop.sls:=fun s hs=>htM s (fun j aj h1 h2 h3 h4=>by
    rw[hrd s (by simp[AI.sls,hs]) j aj h1 h2 h4]at h3;cases h3)
   unfold wpOp;simp only[ho]
   have hw':=kR (o:=o) (ai:=⟨o.dst,aop,none⟩) hsim hgd (b:=true) rfl
   rw[hw'];simp only[if_true]
   have h1:=aDL (P:=P) (G:=G) (ext:=ext) hma (st':=⟨tM,(S n1).h⟩) hag rfl hk
   refine .inl ((pG hsim hop hext h1).wp ?_);rintro u w' ⟨β',R',x,hh,⟨⟨hkk,hck,hcl⟩,_⟩,r2,r3,r4,r5⟩
   have hcl:(S n1).h.length≤hh.length:=hcl
   rw[hmd]at hkk
   obtain⟨T,t0,tk,tst⟩:=tP hext (nR (upd false db n) al) _ (fun ai hai=>by
    obtain⟨q,hq⟩:=fI.1 hai;obtain⟨j,h1,h2,h3,_⟩:=hl2 q ai hq
    exact hx.hd j ai h3 h1 h2.2) hkk
   generalize hn2:(nR (upd false db n) al).length=n2 at tk
   have hr2:UK P G ext (nR (upd false db n) al) n2 T:=⟨by omega,fun i ai hi ha=>tst i ai ha⟩
   have hle2:=hr2.le (i:=0) (j:=n2) (bK _) (aJ _)
   rw[t0]at hle2
   have hh2:(T 0).h=hh:=by rw[t0]
   have htl0:(T n2).t.length=(S n1).t.length:=by rw[hle2.1];show (upd x (S n1).t dM).length=_;rw[fS,cD]
   have slot2:∀s,(∀j aj,j<N→aZ false db j=true→al[j]?=some aj→aj.dst≠some s)→aZ (.c .top) (T n2).t s=aZ (.c .top) (S n1).t s:=by
    intro s hsj
    rw[hle2.2.2.2 s (fun q aj _ _ hq=>by
     obtain⟨j,j1,j2,j3,_⟩:=hl2 q aj hq
     exact hsj j aj j1 j2.1 j3)]
    exact dC _ _ _ (fun e=>hsj n _ hx.nN hx.dn hmm (by rw[hmd,e]))
   have hck2:CK (S n1).h (T n2).h:=fun id x hx hid=>by
    have h1:=hck id x hx hid
    rw[hle2.2.2.1 id (iM h1 (BP hx))];exact h1
   have pos2:∀i ai,i<N→al[i]?=some ai→aZ false db i=true→i≠n→lD (upd false db n) i<n2:=fun i ai hi ha hd hne=>by
    rw[←hn2];exact(aN.1 (hp2 i ai hi ha hd hne)).1
   open Classical in
   let own2:Nat→Nat→Prop:=fun i=>if aZ false db i=true then (if i=n then fun _=>False else DN T (lD (upd false db n) i)) else DN S (lD (jZ db) i)
   have o2d:∀i,aZ false db i=true→i≠n→own2 i=DN T (lD (upd false db n) i):=fun i h1 h2=>by show (if _ then _ else _)=_;rw[if_pos h1,if_neg h2]
   have o2n:∀i,¬aZ false db i=true→own2 i=DN S (lD (jZ db) i):=fun i h1=>by show (if _ then _ else _)=_;rw[if_neg h1]
   have o2a:∀id,¬own2 n id:=fun id h=>by
    have e:own2 n=fun _=>False:=by show (if _ then _ else _)=_;rw[if_pos hx.dn,if_pos rfl]
    rw[e]at h;exact h
   have lowS:∀i id,i<N→¬aZ false db i=true→DN S (lD (jZ db) i) id→id<(S n1).h.length:=fun i id hi hd ⟨_,b2⟩=>by
    obtain⟨ai,hai⟩:∃ai,al[i]?=some ai:=⟨al[i],aH (by omega)⟩
    have:=(hr.le (i:=lD (jZ db) i+1) (j:=n1) (by have:=(hp1 i ai hi hai hd).2;omega) (aJ _)).2.1
    omega
   have highT:∀i id,i<N→aZ false db i=true→i≠n→DN T (lD (upd false db n) i) id→hh.length≤id:=fun i id hi hd hne ⟨b1,_⟩=>by
    obtain⟨ai,hai⟩:∃ai,al[i]?=some ai:=⟨al[i],aH (by omega)⟩
    have:=(hr2.le (i:=0) (j:=lD (upd false db n) i) (bK _) (by have:=pos2 i ai hi hai hd hne;omega)).2.1
    rw[hh2]at this;omega
   have key2:=aCL (β0:=β) (R0:=R) (w0:=w) (F:=T n2) (own:=own2) (Q:=Q) hext hx hNs hal ?_ ?_ (fun a2 w2 β2 R2 s1 s2=>hT (T n2) a2 w2 β2 R2 tk s1 s2) (cnt listed N-1) (listed.setIfInBounds n true) (a.put o.dst u) w' β' R' (by have:=cnt_set hil hun hx.nN;omega) (by simp[hil]) (inv.set hrdy hx.nN) (fun i hi hc=>by rw[getD_set_ne false (by omega)];exact hch i hi hc) ?_
   ·exact key2
   ·
     intro i ai hi hai hne hnc
     by_cases hd:aZ false db i=true
     ·rw[o2d i hd hne]
      refine CZ hr2 (pos2 i ai hi hai hd hne) (hp2 i ai hi hai hd hne) ?_ ?_
      ·intro s hs q aj hq _ hj hdj
       obtain⟨j,j1,j2,j3,j4⟩:=hl2 q aj hj
       have hlt:=waits_lt i j hi (hx.dep i j ai aj s hai j3 hi j1 hdj hs)
       have:=sF (bs:=upd false db n) ((hD2 j).2 j2) hlt
       omega
      ·intro s hs q aj hq _ hj hdj
       obtain⟨j,j1,j2,j3,j4⟩:=hl2 q aj hj;exact hx.dst i j ai aj s hai j3 hi j1 (fun e=>by rw[←e]at j4;omega) hs hdj
     ·rw[o2n i hd]
      have hlate:ai.op∈aAB ops.toList al n N:=by
       have hch0:aZ false (LQ ops.toList n n) i=false:=by
        cases hq:aZ false (LQ ops.toList n n) i with
        |false=>rfl
        |true=>
         have h1:=NQ hq
         rw[wP]at h1;exact absurd ⟨by omega,hq⟩ hnc
       have h1:aZ false (SM db (LQ ops.toList n n)) i=true:=FU (by omega) (by cases hq:aZ false db i with
         |false=>rfl
         |true=>exact absurd hq hd) hch0
       unfold aAB;rw[hdb];exact RH (BH h1 hai)
      refine aCK hr (hp1 i ai hi hai hd).2 (hp1 i ai hi hai hd).1 (rd1 i ai hi hai) (ds1 i ai hi hai) (hx.hd i ai hai hi hne) (AJ c1 hlate) (aCA c2 hlate) hck2 htl0 ?_ ?_
      ·intro s hs
       exact slot2 s (fun j aj hj hdj hja hdd=>hx.m1 i j ai aj s hai hja hi hj hd hdj hdd hs)
      ·intro s hs
       exact slot2 s (fun j aj hj hdj hja hdd=>hx.dst i j ai aj s hai hja hi hj (fun e=>hd (by rw[e];exact hdj)) hs hdd)
   ·
     intro i j id hi hj hne h1 h2
     by_cases hi2:i=n
     ·subst hi2;exact o2a id h1
     by_cases hj2:j=n
     ·subst hj2;exact o2a id h2
     by_cases hdi:aZ false db i=true
     ·rw[o2d i hdi hi2]at h1
      by_cases hdj:aZ false db j=true
      ·rw[o2d j hdj hj2]at h2
       obtain⟨a1,a2⟩:=h1;obtain⟨b1,b2⟩:=h2
       rcases cA i j with h|h
       ·have h3:=sF (bs:=upd false db n) ((hD2 i).2 ⟨hdi,hi2⟩) h
        have:=(hr2.le (i:=lD (upd false db n) i+1) (j:=lD (upd false db n) j) (by omega) (by have:=pos2 j al[j] hj (aH (by omega)) hdj hj2;omega)).2.1
        omega
       ·have h3:=sF (bs:=upd false db n) ((hD2 j).2 ⟨hdj,hj2⟩) (show j<i by omega)
        have:=(hr2.le (i:=lD (upd false db n) j+1) (j:=lD (upd false db n) i) (by omega) (by have:=pos2 i al[i] hi (aH (by omega)) hdi hi2;omega)).2.1
        omega
      ·rw[o2n j hdj]at h2
       have:=lowS j id hj hdj h2
       have:=highT i id hi hdi hi2 h1
       omega
     ·rw[o2n i hdi]at h1
      by_cases hdj:aZ false db j=true
      ·rw[o2d j hdj hj2]at h2
       have:=lowS i id hi hdi h1
       have:=highT j id hj hdj hj2 h2
       omega
      ·rw[o2n j hdj]at h2
       exact own1 i j id hi hj hdi hdj hne h1 h2
   ·
     refine⟨hI.gr.trans r4,aAF r3 hle2.2.1 hle2.2.2.1,?_,?_,?_,?_⟩
     ·cases o.dst<;>exact hI.df
     ·rw[hmd,htl0]
      show (a.tmps.setIfInBounds dM u).size=_
      rw[Array.size_setIfInBounds];exact hI.sz
     ·intro s u' hu hnd
      rw[hmd]at hu
      have hu:(a.tmps.setIfInBounds dM u)[s]?=some u':=hu
      by_cases e:dM=s
      ·subst e
       have hss:dM<a.tmps.size:=by
        rcases cA dM a.tmps.size with h|h
        ·exact h
        ·rw[Array.getElem?_eq_none (by simpa using h)]at hu;cases hu
       simp[hss]at hu;subst hu
       rw[hle2.2.2.2 dM (fun q aj _ _ hq hdd=>by
        obtain⟨j,j1,j2,j3,_⟩:=hl2 q aj hq
        exact hx.dst n j _ aj dM hmm j3 hx.nN j1 (fun e=>j2.2 e.symm) hmd hdd)]
       show VR β' R' w' (aZ (.c .top) (upd x (S n1).t dM) dM) u
       rw[eO _ _ _ (by rw[←hI.sz];exact hss)];exact r2
      ·have hu':a.tmps[s]?=some u':=by rwa [cY e]at hu
       rw[slot2 s (fun j aj hj hdj hja hdd=>by
        by_cases e2:j=n
        ·subst e2
         rw[hmm]at hja;injection hja with hja;subst hja;rw[hmd]at hdd;injection hdd with hdd;exact e hdd
        ·exact hnd j aj hj hja (by rw[getD_set_ne false (fun h=>e2 h.symm)];exact hDl j hj hdj) hdd)]
       exact VR.keep r4.keeps (hI.sl s u' hu' (fun j aj hj hja hjl=>hnd j aj hj.1 hja (by rw[getD_set_ne false (fun h=>hj.2 (by rw[←h];exact hx.dn))];exact hjl)))
     ·intro i hi hil2 id hid
      by_cases hi2:i=n
      ·subst hi2;exact absurd hid (o2a id)
      obtain⟨h3,h4⟩:=pP hil2 hil
      by_cases hdi:aZ false db i=true
      ·rw[o2d i hdi hi2]at hid
       have:=highT i id hi hdi hi2 hid
       cases hq:β' id with
       |none=>rfl
       |some y=>have:=r3.dom id y hq;omega
      ·rw[o2n i hdi]at hid
       rw[r5 id (lowS i id hi hdi hid)];exact hI.fr i ⟨hi,hdi⟩ h3 id hid
 ·
   rw[h0]at hle0;refine⟨hg,aAF hs'.hs hle0.2.1 hle0.2.2.1,hs.df,?_,?_,?_⟩
   ·have:=hs.tm.length;simp at this;omega
   ·intro s u hu hnd
    rw[hle0.2.2.2 s fun q aj _ _ hq=>by
     obtain⟨j,j1,j2,j3,_⟩:=hl1 q aj hq
     exact hnd j aj ⟨j1,j2⟩ j3 (getD_replicate_false _ _)]
    have hv:=aM (x:=.tmp s) hs' rfl
    have e:a.eval (.tmp s)=u:=by show a.tmps.getD s undef=u;simp[hu]
    rw[e]at hv;exact hv
   ·intro i hi _ id ⟨h1,_⟩
    cases hb:β id with
    |none=>rfl
    |some x=>
     have h3:=hs.hs.dom id x hb
     obtain⟨ai,hai⟩:∃ai,al[i]?=some ai:=⟨al[i],aH (by omega)⟩
     have:=(hr.le (i:=0) (j:=lD (jZ db) i) (bK _) (by have:=(hp1 i ai hi.1 hai hi.2).2;omega)).2.1
     rw[h0]at this;omega
end
section
variable {P:Program} {G:Nat→Option Obj}
theorem mK{ext:Ext}(hext:cF P G ext){ops:Array Oper}{Q:Exit→Act→World→Prop}{k:St→Tr}{K:X→St→Prop} :
  ∀(l:List Oper) (al:List AI) (st:St) (a:Act) (w:World) (β:Bt) (R:Nat→Prop),gB P ops l=some al→(kG ext al st k).holds P G K→eJ G β R st a w →
   (∀a' w' β' R' st',(k st').holds P G K→eJ G β' R' st' a' w'→Gr β R w β' R' w'→Q .normal a' w')→wpList P ops Q l a w
 |[],al,st,a,w,β,R,hc,h,hs,hq=>by
  simp only[gB,aB]at hc;subst hc;exact hq a w β R st h hs (Gr.refl _ _ _)
 |o::l,al,st,a,w,β,R,hc,h,hs,hq=>by
  simp only[gB,aE,aA,aG,aB]at hc;obtain⟨ai,h1,al',h2,rfl⟩:=hc;simp only[lU,aE,aA,aG,aB]at h1;obtain⟨aop,h3,g,h4,rfl⟩:=h1
  have next:∀ {pZ:St},eJ G β R pZ a w→∀u w',Res G pZ.h.length (fun v h'=>(kG ext al' ⟨mL pZ.t o.dst v,h'⟩ k).holds P G K) β R w u w'→wpList P ops Q l (a.put o.dst u) w':=by
   rintro pZ hs0 u w' ⟨β',R',x,h',r1,r2,r3,r4,_⟩;exact mK hext l al' _ _ _ _ _ h2 r1 (hs0.put r4 r3 r2 o.dst) (fun a' w'' β'' R'' st' q1 q2 q3=>hq a' w'' β'' R'' st' q1 q2 (r4.trans q3))
  have run:∀ {pZ:St},eJ G β R pZ a w→(jB ext pZ (fun v h=>kG ext al' ⟨mL pZ.t o.dst v,h⟩ k) aop).holds P G K→eQ o (yielded ops a.tmps)=true→wpList P ops Q (o::l) a w:=by
   intro pZ hs0 hh hw;simp only[wpList,hw,if_true];exact .inl ((pG hs0 h3 hext hh).wp (next hs0))
  have skip:∀ {pZ:St},eJ G β R pZ a w→(kG ext al' ⟨mL pZ.t o.dst (.t []),pZ.h⟩ k).holds P G K→eQ o (yielded ops a.tmps)=false→wpList P ops Q (o::l) a w:=by
   intro pZ hs0 hh hw;simp only[wpList,hw,dO,if_false];exact mK hext l al' _ _ _ _ _ h2 hh (hs0.put (Gr.refl _ _ _) hs0.hs qF o.dst) hq
  simp only[kG]at h;cases hg:o.guard with
  |none=>
   rw[hg]at h4;simp only[nZ,aB]at h4;subst h4;exact run hs h (by unfold eQ;rw[hg])
  |some jw=>
   obtain⟨j,want⟩:=jw;rw[hg]at h4;simp only[nZ,aI]at h4;obtain⟨d,hd,rfl⟩:=h4;dsimp only at h;split at h
   ·rename_i x hx
    have hw:=wanted_bool hg hd (hs.tmp_bool hx)
    have same:eJ G β R ⟨upd (.c (.p (.b x))) st.t d,st.h⟩ a w:=hs.same (fun u hu=>by rw[hx]at hu;exact hu)
    cases want<;>cases x
    ·exact run same h hw
    ·exact skip same h hw
    ·exact skip same h hw
    ·exact run same h hw
   ·rename_i hx
    exact skip hs h (wanted_undef hg hd (hs.tmp_undef hx))
   ·exact h.elim
theorem Po.trans{β β':Bt}{R R':Nat→Prop}{w w':World}{K:X→St→Prop}{e:X}{a2:Act}{w2:World}(h:Po G K β' R' w' e a2 w2)(k:Fr β R w β' R' w')(hr:∀b,R b→R' b):Po G K β R w e a2 w2:=by
 obtain⟨β2,R2,st2,h1,h2,h3,h4⟩:=h;exact⟨β2,R2,st2,h1,h2,k.trans h3 hr,fun b hb=>h4 b (hr b hb)⟩
theorem QX.trans{β β':Bt}{R R':Nat→Prop}{w w':World}{K:X→St→Prop}{e:Exit}{a2:Act}{w2:World}(h:QX G K β' R' w' e a2 w2)(k:Fr β R w β' R' w')(hr:∀b,R b→R' b):QX G K β R w e a2 w2:=by
 cases e with
 |normal=>exact Po.trans h k hr
 |exit id=>exact Po.trans h k hr
 |ret=>exact Po.trans h k hr
 |_=>exact h
theorem Po.here{β:Bt}{R:Nat→Prop}{w:World}{K:X→St→Prop}{e:X}{st:St}{a:Act}(hs:eJ G β R st a w)(h:K e st):Po G K β R w e a w:=⟨β,R,st,h,hs,Fr.refl _ _ _,fun _ hb=>hb⟩
theorem TI{c:Code}{st:St}{K:X→St→Prop}(h:Ex P G c st K):Ex P G (.scope c) st K:=fun β R a w hs=>
 wp_scope_straight (Code.wp_mono (fun e _ _ q=>by cases e<;>exact q) (h β R a w hs))
theorem aCX{ext:Ext}(hext:cF P G ext):∀(c:Code) (ac:dD),dJ P c=some ac→∀(st:St) (k:X→St→Tr) (K:X→St→Prop),(exT ext ac st k).holds P G K→Ex P G c st fun e st'=>(k e st').holds P G K:=by
 intro c;induction c with
 |skip=>
  intro ac hc st k K h β R a w hs;simp only[dJ,aB]at hc;subst hc;exact wp_skip (show Po G (fun e st'=>(k e st').holds P G K) β R w .normal a w from Po.here hs h)
 |region id ops draw=>
  intro ac hc st k K h β R a w hs;simp only[dJ]at hc;split at hc
  case h_2=>injection hc with hc;subst hc;exact h.elim
  rename_i ac' hc1;injection hc with hc;subst hc
  have hc:=hc1
  clear hc1;cases draw with
  |true=>
   simp only[TY]at hc;split at hc
   ·rename_i hm
    simp only[aE,aA,aG,aB]at hc;obtain⟨al,h1,hc⟩:=hc;split at hc
    ·rename_i n h2
     injection hc with hc;subst hc;obtain⟨h3,h4⟩:=SS h2;rw[fD]at h4;rw[CN,GY]at h;refine VN hext hm h1 h3 (by omega) h hs ?_;intro st' a' w' β' R' hk hs' hg
     exact mK hext (ops.toList.drop n) (al.drop n) st' a' w' β' R' (uH n h1) hk hs' (fun a2 w2 β2 R2 st2 q1 q2 q3=>⟨β2,R2,st2,q1,q2,(hg.trans q3).toFr,(hg.trans q3).rm⟩)
    ·split at hc
     ·rename_i n h2
      injection hc with hc;subst hc
      have h3:=ST h2
      rw[CN,GY]at h;refine VL hext hm h1 h3 h hs ?_;intro st' a' w' β' R' hk hs' hg
      exact mK hext (ops.toList.drop (n+1)) (al.drop (n+1)) st' a' w' β' R' (uH (n+1) h1) hk hs' (fun a2 w2 β2 R2 st2 q1 q2 q3=>⟨β2,R2,st2,q1,q2,(hg.trans q3).toFr,(hg.trans q3).rm⟩)
     ·cases hc
   ·cases hc
  |false=>
   simp only[TY,aI]at hc;obtain⟨al,h1,rfl⟩:=hc;exact wp_region_list (mK hext ops.toList al st a w β R h1 h hs (fun a' w' β' R' st' q1 q2 q3=>⟨β',R',st',q1,q2,q3.toFr,q3.rm⟩))
 |seq x y ihx ihy=>
  intro ac hc st k K h β R a w hs;simp only[dJ,aE,aA,aG,aB]at hc;obtain⟨ax,h1,ay,h2,rfl⟩:=hc;refine wp_seq (Code.wp_mono ?_ (ihx ax h1 st _ K h β R a w hs));intro e a' w' hq
  cases e with
  |normal=>
   obtain⟨β',R',st',q1,q2,q3,q4⟩:=hq;exact Code.wp_mono (fun e a2 w2 q=>QX.trans q q3 q4) (ihy ay h2 st' k K q1 β' R' a' w' q2)
  |_=>exact hq
 |cond x c1 c2 ih1 ih2=>
  intro ac hc st k K h β R a w hs;simp only[dJ,aE,aA,aG,aB]at hc;obtain⟨ax,hx,a1,h1,a2,h2,rfl⟩:=hc
  have hv:=aM hs hx
  simp only[exT]at h;split at h
  ·rename_i v he
   rw[he]at hv
   have hv:a.eval x=.bool v:=hv
   split at h
   ·rename_i j
    have same:eJ G β R ⟨upd (.c (.p (.b v))) st.t j,st.h⟩ a w:=hs.same (fun u hu=>by
     have he:aZ (.c .top) st.t j=.c (.p (.b v)):=he
     rw[he]at hu;exact hu)
    cases v with
    |true=>exact wp_cond_true hv (ih1 a1 h1 _ k K h β R a w same)
    |false=>exact wp_cond_false hv (ih2 a2 h2 _ k K h β R a w same)
   ·cases v with
    |true=>exact wp_cond_true hv (ih1 a1 h1 _ k K h β R a w hs)
    |false=>exact wp_cond_false hv (ih2 a2 h2 _ k K h β R a w hs)
  ·exact h.elim
 |block id c ih=>
  intro ac hc st k K h β R a w hs;simp only[dJ,aI]at hc;obtain⟨a1,h1,rfl⟩:=hc;refine wp_block (Code.wp_mono ?_ (ih a1 h1 st _ K h β R a w hs));intro e a' w' hq
  cases e with
  |exit j=>
   obtain⟨β',R',st',q1,q2,q3,q4⟩:=hq;dsimp only at q1
   show (if j=id then QX G (fun e st'=>(k e st').holds P G K) β R w .normal a' w' else QX G (fun e st'=>(k e st').holds P G K) β R w (.exit j) a' w')
   cases hb:aT j id with
   |true=>
    rw[hb]at q1;rw[if_pos (aF hb)];exact⟨β',R',st',q1,q2,q3,q4⟩
   |false=>
    rw[hb]at q1;rw[if_neg (Nat.ne_of_beq_eq_false hb)];exact⟨β',R',st',q1,q2,q3,q4⟩
  |_=>exact hq
 |loop c ih=>
  intro ac hc st k K h β R a w hs;simp only[dJ,aI]at hc;obtain⟨a1,h1,rfl⟩:=hc;exact h c h1 β R a w hs
 |exit id=>
  intro ac hc st k K h β R a w hs;simp only[dJ,aB]at hc;subst hc;exact wp_exit (show Po G (fun e st'=>(k e st').holds P G K) β R w (.exit id) a w from Po.here hs h)
 |ret=>
  intro ac hc st k K h β R a w hs;simp only[dJ,aB]at hc;subst hc;exact wp_ret (show Po G (fun e st'=>(k e st').holds P G K) β R w .ret a w from Po.here hs h)
 |scope c ih=>
  intro ac hc st k K h;exact TI (ih ac (by simpa only[dJ] using hc) st k K h)
 |label l=>
  intro ac hc st k K h β R a w hs;simp only[dJ,aB]at hc;subst hc;exact wp_label (show Po G (fun e st'=>(k e st').holds P G K) β R w .normal a w from Po.here hs h)
 |_=>intro ac hc;simp only[dJ]at hc;cases hc
end
end Go.AE
