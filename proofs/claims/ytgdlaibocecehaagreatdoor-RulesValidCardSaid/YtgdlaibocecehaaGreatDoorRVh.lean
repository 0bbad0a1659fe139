import Derived.Test.YtgdlaibocecehaaGreatDoorRVg
import Derived.RangeFuncIn
import Derived.LoopNIn
import Derived.RangeFuncRecord
import Derived.RangeFuncNested
import Derived.Scope
import Derived.RangeFuncLeaves
import Derived.Below
set_option linter.unusedVariables false
set_option linter.unusedSimpArgs false
namespace Go.CE
open _root_.Array renaming getD_eq_getD_getElem?→dR,getElem?_eq_some_iff→bF,getElem?_extract→cQ,getElem?_toList→bC,replicate→fJ,toList_append→eN,toList_inj→bW
open _root_.Bool renaming or_eq_true→eH
open _root_.List renaming getD_eq_getElem?_getD→aG,getElem?_append_left→cZ,getElem?_eq_some_iff→aV,mem_cons→dZ,mem_cons_of_mem→cV,mem_cons_self→dI,mem_of_getElem?→cL,mem_singleton→gR,range→dL,rec→eA
open _root_.Nat renaming beq→bE,ble→bS,blt→cU,eq_of_beq_eq_true→aH,le_of_ble_eq_true→aQ,le_refl→aU,le_trans→fX,lt_of_lt_of_le→cI,lt_or_ge→cK,ne_of_beq_eq_false→gG,succ→gB,zero_le→bH
open _root_.Option renaming bind_eq_bind→aE,bind_eq_some_iff→aB,map_eq_some_iff→aM,pure_def→aK,some.injEq→aD
open Region renaming wanted→eD
open Go.RowKit
open Go.AE (All2 gZ dK iC rA gI iA iB vK lG kN tR nR)
section
variable {P:Program} {β:Bt} {w:World} {st:St} {a:Act} {o:Oper}
def kJ(P:Program)(f:FuncId):Prop:=∃fn,P.funcs[f]?=some fn∧fn.body.isSome=true∧fn.name ≠ "runtime.NumGoroutine"
theorem kJ.run{f:FuncId}(h:kJ P f)(args:Array Value)(w:World):(callFunc f args).run P w=.ok (.enter f args) w:=by
 obtain⟨fn,h1,h2,h3⟩:=h
 have hb:¬fn.body=none:=by cases hq:fn.body<;>simp_all
 simp[callFunc,h1];rw[if_neg h3,if_neg hb]
def CG(P:Program)(β:Bt)(o:Oper)(a:Act)(w:World)(cl:Cl)(args:List V):Prop:=
 (∃f vs,cl=.fn f∧(execOp a.eval o).run P w=.ok (.enter f vs) w∧All2 (VR β) args vs.toList) ∨
 ∃id l N vs,cl=.yl id∧β id=some (l,N)∧(execOp a.eval o).run P w=(Instr.yield l vs).run P w∧All2 (VR β) args vs.toList
theorem nP:∀ {xs:List F} {us:List Value},All2 (FR β) xs us→All2 (VR β) (mp fV xs) us
 |[],[],_=>trivial
 |[],_::_,h=>h.elim
 |_::_,[],h=>h.elim
 |x::xs,u::us,h=>⟨h.1,nP h.2⟩
theorem SF(hs:eC β st a w){f:FuncId}{args:Array Operand}{ts:Array TypeId}{l:List X}(ho:o.op=.call { callee:=.value (.func f),args,argTypes:=ts })(hl:yN args.toList=some l)(hf:kJ P f):CG P β o a w (.fn f) (KU st.t l):=by
 refine .inl ⟨f,args.map a.eval,rfl,?_,by simpa using nQ hs args.toList l hl⟩
 have e:a.eval (.func f)=.func (.func f) #[] #[]:=rfl
 have hr:=hf.run (args.map a.eval) w
 simp only[execOp,ho,resolve,e,Deferred.ofValue,invoke];simp[hr]
theorem aAT{t:TypeId}{name:String}{f:FuncId}(h:QM P t name=some f)(u:Value)(w:World):(method (P.types.size+Made.depth) t u name).run P w=.ok (f,u) w:=by
 unfold QM at h;split at h
 case h_2=>cases h
 rename_i el i hu hi;split at h
 case h_2=>cases h
 rename_i m hm;split at h
 case h_2=>cases h
 rename_i f' hp hf;injection h with h;subst h
 have hd:P.types.size+Made.depth=(P.types.size+99)+1:=rfl
 rw[hd];unfold method
 have hti:(typeInfo t).run P w=.ok i w:=by simp[typeInfo,hi]
 simp only[Sem.run_bind,hti,Result.andThen_ok,hm,hp,follow,Sem.run_pure,hf]
 have hr:∀nm,(receiverAt t (.val u) true nm).run P w=.ok u w:=by
  intro nm;unfold receiverAt;simp only[Sem.run_bind,run_underlying hu,Result.andThen_ok];simp[Place.get]
 simp[hr]
theorem tJ{t:TypeId}{name:String}{f:FuncId}(h:QM P t name=some f)(hf:kJ P f)(u:Value)(args:Array Value)(w:World):(callMethod (.iface t u) name args).run P w=.ok (.enter f (#[u]++args)) w:=by
 have h1:(program).run P w=.ok P w:=rfl
 have e:callMethod (.iface t u) name args=(do let (f,receiver) ←method ((←program).types.size+Made.depth) t u name;callFunc f (#[receiver]++args)):=rfl
 rw[e];simp only[Sem.run_bind,h1,Result.andThen_ok,aAT h,hf.run]
theorem yX(r:Value)(name:String)(args:Array Value)(w:World):(invoke (.fn (.method name) #[]) (#[r]++args)).run P w=(callMethod r name args).run P w:=by
 have h0:(#[r]++args)[0]?=some r:=by rw[Array.getElem?_append_left (by simp)];rfl
 have h1:(#[r]++args).extract 1 (#[r]++args).size=args:=by
  apply bW.1;simp
 simp only[invoke,h0,h1]
theorem SG(hs:eC β st a w){x:Operand}{name:String}{args:Array Operand}{ts:Array TypeId}{ax:X}{l:List X}(ho:o.op=.call { callee:=.invoke x name,args,argTypes:=ts })(hx:cX x=some ax)(hl:yN args.toList=some l){cl:Cl}{vs:List V}(h:pY P st.t (.inv ax name l)=some (cl,vs))(hcl:∀f,cl=.fn f→kJ P f):CG P β o a w cl vs:=by
 have hv:=aR hs hx
 simp only[pY]at h;split at h
 case h_2=>cases h
 rename_i dt y he;rw[he]at hv;obtain⟨u,hu,hy⟩:=hv;split at h
 case h_2=>cases h
 rename_i f hf;injection h with h;injection h with e1 e2;subst e1;subst e2;refine .inl ⟨f,#[u]++args.map a.eval,rfl,?_,?_⟩
 ·have hr:=tJ hf (hcl f rfl) u (args.map a.eval) w
  rw[←yX]at hr
  have hx0:(execOp a.eval o).run P w=(invoke (.fn (.method name) #[]) (#[.iface dt u]++args.map a.eval)).run P w:=by
   simp only[execOp,ho,resolve,hu,Sem.run_bind,Sem.run_pure,Result.andThen_ok]
  rw[hx0,hr]
 ·have:=nQ hs args.toList l hl
  rw[eN];exact⟨hy,by simpa using this⟩
theorem WK(hs:eC β st a w){x:Operand}{args:Array Operand}{ts:Array TypeId}{ax:X}{l:List X}(ho:o.op=.call { callee:=.value x,args,argTypes:=ts })(hx:cX x=some ax)(hl:yN args.toList=some l){cl:Cl}{vs:List V}(h:pY P st.t (.callv ax l)=some (cl,vs))(hcl:∀f,cl=.fn f→kJ P f):CG P β o a w cl vs:=by
 have hv:=aR hs hx
 have ha:=nQ hs args.toList l hl
 have ha:All2 (VR β) (KU st.t l) (args.map a.eval).toList:=by simpa using ha
 simp only[pY]at h;split at h
 ·rename_i f first cap he
  rw[he]at hv;obtain⟨us,cs,hu,hfs,hcs⟩:=hv;injection h with h;injection h with e1 e2;subst e1;subst e2;refine .inl ⟨f,us++(args.map a.eval++cs),rfl,?_,?_⟩
  ·have hr:=(hcl f rfl).run (us++(args.map a.eval++cs)) w
   simp only[execOp,ho,resolve,hu,Deferred.ofValue,invoke];simp[invoke,hr]
  ·rw[jQ,jQ,eN,eN]
   exact(nP hfs).append (ha.append (nP hcs))
 ·rename_i id he
  rw[he]at hv;obtain⟨b,N,h1,hu⟩:=hv;injection h with h;injection h with e1 e2;subst e1;subst e2;refine .inr ⟨id,b,N,args.map a.eval,rfl,h1,?_,ha⟩;simp only[execOp,ho,resolve,hu,Deferred.ofValue,invoke];simp[invoke]
 ·rename_i ty name he
  rw[he]at hv
  have hv:a.eval x=.func (.methodOf ty name) #[] #[]:=by
   obtain⟨us,cs,hu,h1,h2⟩:=hv
   have e1:us = #[]:=by
    cases hq:us.toList with
    |nil=>exact bW.1 hq
    |cons _ _=>rw[hq]at h1;exact h1.elim
   have e2:cs = #[]:=by
    cases hq:cs.toList with
    |nil=>exact bW.1 hq
    |cons _ _=>rw[hq]at h2;exact h2.elim
   rw[hu,e1,e2]
  split at h
  ·rename_i dt y r hi hr
   split at h
   case h_2=>cases h
   rename_i f hf;injection h with h;injection h with e1 e2;subst e1;subst e2;rw[hr]at ha
   obtain⟨ms,hms⟩:∃ms,P.underlying ty=some (.interface ms):=by
    unfold aKX at hi;split at hi
    ·rename_i ms hms;exact⟨ms,hms⟩
    ·cases hi
   cases hal:(args.map a.eval).toList with
   |nil=>rw[hal]at ha;exact ha.elim
   |cons u us=>
    rw[hal]at ha;obtain⟨⟨u',rfl,hy⟩,ha2⟩:=ha
    have harr:args.map a.eval = #[.iface dt u']++us.toArray:=by
     apply bW.1;rw[hal];simp
    refine .inl ⟨f,#[u']++us.toArray,rfl,?_,?_⟩
    ·have hrr:=tJ hf (hcl f rfl) u' us.toArray w
     simp only[execOp,ho,resolve,hv,Deferred.ofValue,invoke,harr]
     have hex:(#[Value.iface dt u']++us.toArray).extract 1 (#[Value.iface dt u']++us.toArray).size=us.toArray:=by
      apply bW.1;simp
     simp[invoke,run_underlying hms,hrr]
    ·rw[eN]
     exact⟨hy,by simpa using ha2⟩
  ·cases h
 ·cases h
set_option maxHeartbeats 4000000 in
theorem GU(hs:eC β st a w){op:CF}(hc:gY P o.op=some op){cl:Cl}{vs:List V}(h:pY P st.t op=some (cl,vs))(hcl:∀f,cl=.fn f→kJ P f):CG P β o a w cl vs:=by
 have h0:NO op=true:=by cases op<;>first|rfl|cases h
 cases hop:o.op
 all_goals rw[hop]at hc
 all_goals try (simp only[gY]at hc;cases hc;done)
 case move x=>
  simp only[gY,aM]at hc;obtain⟨ax,hx,rfl⟩:=hc;cases h0
 case assign x=>
  simp only[gY,aM]at hc;obtain⟨ax,hx,rfl⟩:=hc;cases h0
 case pick c x y=>
  simp only[gY,aE,aB,aK,aD]at hc;obtain⟨ac,h1,ax,h2,ay,h3,rfl⟩:=hc;cases h0
 case alloc t=>
  simp only[gY,aM]at hc;obtain⟨z,hz,rfl⟩:=hc;cases h0
 case box t x=>
  simp only[gY,aM]at hc;obtain⟨ax,hx,rfl⟩:=hc;cases h0
 case build t ps=>
  simp only[gY]at hc;split at hc
  ·rename_i fs hu
   simp only[aE,aB,aK,aD]at hc;obtain⟨places,h1,z,h2,l,h3,rfl⟩:=hc;cases h0
  ·rename_i n e hu
   simp only[aE,aB,aK,aD]at hc;obtain⟨s,h1,z,h2,l,h3,rfl⟩:=hc;cases h0
  ·cases hc
 case load t x=>
  simp only[gY,aE,aB,aK,aD]at hc;obtain⟨n,h1,ax,h2,rfl⟩:=hc;cases h0
 case store t x y=>
  simp only[gY,aE,aB,aK,aD]at hc;obtain⟨n,h1,ax,h2,ay,h3,rfl⟩:=hc;cases h0
 case binOp op t x y t'=>
  simp only[gY]at hc;split at hc
  ·split at hc
   ·simp only[aE,aB,aK,aD]at hc
    obtain⟨ax,h1,ay,h2,rfl⟩:=hc;cases h0
   ·simp only[aE,aB,aK,aD]at hc
    obtain⟨ax,h1,ay,h2,rfl⟩:=hc;cases h0
  ·simp only[aE,aB,aK,aD]at hc
   obtain⟨ax,h1,ay,h2,rfl⟩:=hc;cases h0
  ·rename_i hu
   simp only[aE,aB,aK,aD]at hc;obtain⟨ax,h1,ay,h2,rfl⟩:=hc;cases h0
  ·rename_i fs hu
   split at hc
   ·rename_i neg hg hn
    simp only[aE,aB,aK,aD]at hc;obtain⟨l,h0,ax,h1,ay,h2,rfl⟩:=hc;cases h0
   ·cases hc
  ·rename_i n e hu
   split at hc
   ·rename_i neg hg hn hz
    simp only[aE,aB,aK,aD]at hc;obtain⟨pk,h0,ax,h1,ay,h2,rfl⟩:=hc;cases h0
   ·cases hc
  ·rename_i e hu
   split at hc
   ·rename_i neg hn
    simp only[aE,aB,aK,aD]at hc;obtain⟨ax,h1,ay,h2,rfl⟩:=hc;cases h0
   ·cases hc
  ·rename_i e hu
   split at hc
   ·rename_i neg hn
    simp only[aM]at hc;obtain⟨ax,h1,rfl⟩:=hc;cases h0
   ·cases hc
  ·rename_i k e hu
   split at hc
   ·rename_i neg hn
    simp only[aM]at hc;obtain⟨ax,h1,rfl⟩:=hc;cases h0
   ·cases hc
  ·cases hc
 case convert s t x=>
  simp only[gY]at hc;split at hc
  ·rename_i k0 k hs0 hu
   simp only[aM]at hc;obtain⟨ax,hx,rfl⟩:=hc;cases h0
  ·rename_i el h0 hu
   split at hc
   ·rename_i hel
    simp only[aM]at hc;obtain⟨ax,hx,rfl⟩:=hc;cases h0
   ·cases hc
  ·split at hc
   ·simp only[aM]at hc
    obtain⟨ax,hx,rfl⟩:=hc;cases h0
   ·cases hc
  ·cases hc
 case range t x=>
  simp only[gY]at hc;split at hc
  ·rename_i hu
   simp only[aM]at hc;obtain⟨ax,hx,rfl⟩:=hc;cases h0
  ·cases hc
 case next x b=>
  cases b with
  |true=>
   simp only[gY,aM]at hc;obtain⟨ax,hx,rfl⟩:=hc;cases h0
  |false=>simp only[gY]at hc;cases hc
 case nilCheck x=>
  simp only[gY,aM]at hc;obtain⟨ax,hx,rfl⟩:=hc;cases h0
 case unOp op t x=>
  cases op
  all_goals try (simp only[gY]at hc;cases hc;done)
  case not=>
   simp only[gY,aM]at hc;obtain⟨ax,hx,rfl⟩:=hc;cases h0
  case neg=>
   simp only[gY]at hc;split at hc
   ·simp only[aM]at hc
    obtain⟨ax,hx,rfl⟩:=hc;cases h0
   ·simp only[aM]at hc
    obtain⟨ax,hx,rfl⟩:=hc;cases h0
 case fieldAddr t x k=>
  simp only[gY,aE,aB]at hc;obtain⟨fs,h1,f,h2,s,h3,h4⟩:=hc
  have hu:P.underlying t=some (.struct fs):=by
   unfold iA at h1;split at h1
   ·rename_i fs' hu;injection h1 with h1;rw[hu,h1]
   ·cases h1
  split at h4
  ·cases h4
  ·rename_i s' hs'
   simp only[aK,aB,aD]at h4;obtain⟨ax,hx,rfl⟩:=h4;cases h0
 case field t x k=>
  simp only[gY,aE,aB,aK,aD]at hc;obtain⟨fs,h1,f,h2,n,h3,ax,h4,rfl⟩:=hc
  have hu:P.underlying t=some (.struct fs):=by
   unfold iA at h1;split at h1
   ·rename_i fs' hu;injection h1 with h1;rw[hu,h1]
   ·cases h1
  cases h0
 case indexAddr t x i=>
  simp only[gY]at hc;split at hc
  ·rename_i n e hA
   have hu:P.underlying t=some (.array n e):=by
    unfold vK at hA;split at hA
    ·rename_i n' e' hu;injection hA with hA;injection hA with e1 e2;rw[hu,e1,e2]
    ·cases hA
   split at hc
   ·rename_i k h1
    simp only[aE,aB,aK,aD]at hc;obtain⟨sz,h2,ax,h3,rfl⟩:=hc;unfold lG at h1;split at h1
    ·rename_i kd k'
     split at h1
     ·rename_i hb
      injection h1 with h1;subst h1;cases h0
     ·cases h1
    ·cases h1
   ·simp only[aE,aB,aK,aD]at hc
    obtain⟨sz,h2,ax,h3,ai,h4,rfl⟩:=hc;cases h0
  ·simp only[aE,aB,aK,aD]at hc
   obtain⟨e,h1,sz,h2,ax,h3,ai,h4,rfl⟩:=hc
   have hu:P.underlying t=some (.slice e):=by
    unfold iB at h1;split at h1
    ·rename_i e' hu;injection h1 with h1;rw[hu,h1]
    ·cases h1
   cases h0
 case index t x i=>
  simp only[gY]at hc;split at hc
  ·rename_i hu
   simp only[aE,aB,aK,aD]at hc;obtain⟨ax,h1,ai,h2,rfl⟩:=hc;cases h0
  ·rename_i n el hu
   simp only[aE,aB,aK,aD]at hc;obtain⟨sz,h0,n,h3,ax,h1,ai,h2,rfl⟩:=hc;cases h0
  ·cases hc
 case extract x i=>
  simp only[gY,aE,aB,aK,aD]at hc;obtain⟨ax,h1,rfl⟩:=hc;cases h0
 case call c=>
  simp only[gY]at hc;obtain⟨callee,args,ats⟩:=c;dsimp only at hc
  have elem:∀ {t el:TypeId},iB P t=some el→P.underlying t=some (.slice el):=by
   intro t el h1;unfold iB at h1;split at h1
   ·rename_i e' hu;injection h1 with h1;rw[hu,h1]
   ·cases h1
  split at hc
  ·rename_i f
   split at hc
   ·rename_i fn hf
    split at hc
    ·simp only[aM]at hc
     obtain⟨l,hl,rfl⟩:=hc;injection h with h;injection h with e1 e2;subst e1;subst e2;exact SF hs hop hl (hcl f rfl)
    ·split at hc
     ·rename_i sub x y z hcb hargs
      simp only[aE,aB,aK,aD]at hc;obtain⟨ax,hx,ay,hy,az,hz,rfl⟩:=hc;cases h0
     ·cases hc
   ·cases hc
  ·simp only[aE,aB,aK,aD]at hc
   obtain⟨ax,hx,l,hl,rfl⟩:=hc;exact WK hs hop hx hl h hcl
  ·simp only[aE,aB,aK,aD]at hc
   obtain⟨ax,hx,l,hl,rfl⟩:=hc;exact SG hs hop hx hl h hcl
  ·split at hc
   ·rename_i x t ha ht
    obtain rfl:args = #[x]:=bW.1 ha;obtain rfl:ats = #[t]:=bW.1 ht;split at hc
    ·rename_i e hu
     simp only[aM]at hc;obtain⟨ax,hx,rfl⟩:=hc;cases h0
    ·rename_i hu
     simp only[aM]at hc;obtain⟨ax,hx,rfl⟩:=hc;cases h0
    ·cases hc
   ·cases hc
  ·split at hc
   ·rename_i x y ha
    obtain rfl:args = #[x,y]:=bW.1 ha;simp only[aE,aB,aK,aD]at hc;obtain⟨ax,h1,ay,h2,rfl⟩:=hc;cases h0
   ·cases hc
  ·split at hc
   ·rename_i x y ha
    obtain rfl:args = #[x,y]:=bW.1 ha;simp only[aE,aB,aK,aD]at hc;obtain⟨ax,h1,ay,h2,rfl⟩:=hc;cases h0
   ·cases hc
  ·split at hc
   ·rename_i x y t u ha ht
    obtain rfl:args = #[x,y]:=bW.1 ha;obtain rfl:ats = #[t,u]:=bW.1 ht;split at hc
    ·split at hc
     ·rename_i htu
      obtain rfl:=aH htu;simp only[aE,aB,aK,aD]at hc;obtain⟨e,h1,sz,h2,by_,h3,z,h4,ax,h5,ay,h6,rfl⟩:=hc;cases h0
     ·cases hc
    ·rename_i hu
     simp only[aE,aB]at hc;obtain⟨e,h1,hc⟩:=hc;split at hc
     ·rename_i hb
      simp only[aB,aK,aD]at hc;obtain⟨ax,h5,ay,h6,rfl⟩:=hc;cases h0
     ·cases hc
    ·cases hc
   ·cases hc
  ·split at hc
   ·rename_i x t ha ht
    obtain rfl:args = #[x]:=bW.1 ha;obtain rfl:ats = #[t]:=bW.1 ht;split at hc
    ·rename_i e hu
     simp only[aM]at hc;obtain⟨ax,hx,rfl⟩:=hc;cases h0
    ·cases hc
   ·cases hc
  ·split at hc
   ·rename_i x y t u ha ht
    obtain rfl:args = #[x,y]:=bW.1 ha;obtain rfl:ats = #[t,u]:=bW.1 ht;split at hc
    ·rename_i htu
     obtain rfl:=aH htu;simp only[aE,aB]at hc;obtain⟨e,h1,hc⟩:=hc;split at hc
     ·rename_i hb
      simp only[aB,aK,aD]at hc;obtain⟨ax,h5,ay,h6,rfl⟩:=hc;cases h0
     ·cases hc
    ·cases hc
   ·cases hc
  ·cases hc
 case panic x=>
  simp only[gY,aD]at hc;subst hc;cases h0
 case makeInterface t x=>
  simp only[gY]at hc;split at hc
  ·cases hc
  ·rename_i d hd hu
   simp only[aM]at hc;obtain⟨ax,hx,rfl⟩:=hc;cases h0
  ·cases hc
 case typeAssert x xt t two=>
  simp only[gY]at hc;split at hc
  ·cases hc
  ·rename_i d hd hu
   simp only[aE,aB,aK,aD]at hc;obtain⟨z,hz,ax,hx,rfl⟩:=hc;cases h0
  ·cases hc
 case buildSlice t len ps=>
  simp only[gY,aE,aB,aK,aD]at hc;obtain⟨e,h1,sz,h2,z,h3,l,h4,rfl⟩:=hc
  have hu:P.underlying t=some (.slice e):=by
   unfold iB at h1;split at h1
   ·rename_i e' hu;injection h1 with h1;rw[hu,h1]
   ·cases h1
  cases h0
 case makeSlice t x y=>
  simp only[gY,aE,aB,aK,aD]at hc;obtain⟨e,h1,sz,h2,by_,h3,z,h4,ax,h5,ay,h6,rfl⟩:=hc
  have hu:P.underlying t=some (.slice e):=by
   unfold iB at h1;split at h1
   ·rename_i e' hu;injection h1 with h1;rw[hu,h1]
   ·cases h1
  cases h0
 case makeMap t r=>
  cases r with
  |some x=>simp only[gY]at hc;cases hc
  |none=>
   simp only[gY,aM]at hc;obtain⟨k,_,rfl⟩:=hc;cases h0
 case makeFunc f fs cs=>
  simp only[gY,aE,aB,aK,aD]at hc;obtain⟨lf,h1,lc,h2,rfl⟩:=hc;cases h0
 case lookup t x k two=>
  simp only[gY]at hc;split at hc
  ·rename_i kd e hm
   simp only[aE,aB,aK,aD]at hc;obtain⟨z,h1,ax,h2,ay,h3,rfl⟩:=hc;cases h0
  ·cases hc
 case mapUpdate t x k y=>
  simp only[gY]at hc;split at hc
  ·rename_i kd e hm
   simp only[aE,aB,aK,aD]at hc;obtain⟨ax,h2,ay,h3,az,h4,rfl⟩:=hc;cases h0
  ·cases hc
 case slice t x lo hi mx=>
  cases mx with
  |some m=>
   cases hi with
   |none=>simp only[gY]at hc;cases hc
   |some hi=>
    simp only[gY]at hc;split at hc
    ·rename_i el hu
     simp only[aE,aB,aK,aD]at hc;obtain⟨sz,h0,ax,h1,al,h2,ah,h3,am,h4,rfl⟩:=hc;cases h0
    ·cases hc
  |none=>
   simp only[gY]at hc;split at hc
   ·simp only[aE,aB,aK,aD]at hc
    rename_i hu;obtain⟨ax,h1,al,h2,ah,h3,rfl⟩:=hc;cases h0
   ·simp only[aE,aB,aK,aD]at hc
    rename_i e hu;obtain⟨sz,h0,ax,h1,al,h2,ah,h3,rfl⟩:=hc;cases h0
   ·rename_i n e hu2
    simp only[aE,aB,aK,aD]at hc;obtain⟨sz,h0,ax,h1,al,h2,ah,h3,rfl⟩:=hc;cases h0
   ·cases hc
end
open Go.AE (All2 gZ dK iC rA gI iA iB vK lG kN tR nR)
def Fw(r:Option Nat):Fence:={ Fence.wide with round:=r }
section
variable {P:Program} {β:Bt} {w:World} {st:St} {a:Act} {o:Oper}
theorem jU{id:Nat}{x:O}{h:T O}(hid:id<16777000):gO (iK id x h)=fu (gO h) id x:=by
 funext j
 exact qQ _ _ 24 id j h (by have:(2:Nat)^24=16777216:=by decide
                            omega)
theorem pK{m:Nat}{t t':T V}{dst:Option Nat}{v:V}(h:put m t dst v=some t'):(∀d,dst=some d→d<m)∧gV t'=fun j=>if dst=some j then v else gV t j:=by
 unfold put at h;split at h
 ·cases h
  refine⟨fun d hd=>(by cases hd),?_⟩;funext j;rw[if_neg (by intro q;cases q)]
 ·rename_i k
  split at h
  ·rename_i hb
   cases h;rw[bR]at hb
   have h1:k<m:=aQ hb.1
   have h2:k<16777000:=aQ hb.2
   refine⟨fun d hd=>(by cases hd;exact h1),?_⟩;funext j
   show get _ (set _ _ _ _ _) j=_
   rw[qQ _ _ 24 k j t (by have:(2:Nat)^24=16777216:=by decide
                          omega)]
   by_cases e:j=k
   ·subst e;rw[if_pos rfl,if_pos rfl]
   ·rw[if_neg e,if_neg (by simpa using fun q=>e q.symm)];rfl
  ·cases h
theorem KX{h h':T O}{n n':Nat}{e:pZ}(hh:SA h n e=some (h',n')):gO h'=e.mem n (gO h)∧gO h' 0=gO h 0∧(n'=if e.isNw then n+1 else n):=by
 unfold SA at hh;split at hh
 ·cases hh;exact⟨aNY.symm,rfl,rfl⟩
 ·rename_i id o
  split at hh
  ·rename_i hb
   cases hh;rw[bR]at hb
   have h1:1≤id:=aQ hb.1
   have h2:id<16777000:=aQ hb.2
   rw[jU h2,zG];exact⟨rfl,cT _ (by omega),rfl⟩
  ·cases hh
 ·rename_i o
  split at hh
  ·rename_i hb
   cases hh;rw[bR]at hb
   have h1:1≤n:=aQ hb.1
   have h2:n<16777000:=aQ hb.2
   rw[jU h2,zH];exact⟨rfl,cT _ (by omega),rfl⟩
  ·cases hh
 ·rename_i id o
  split at hh
  ·rename_i hb
   cases hh;rw[bR,bR,bR]at hb
   have h1:1≤id:=aQ hb.1.1
   have h2:id<16777000:=aQ hb.1.2
   have h3:1≤n:=aQ hb.2.1
   have h4:n<16777000:=aQ hb.2.2
   rw[jU h4,jU h2,aE7];exact⟨rfl,by rw[cT _ (by omega),cT _ (by omega)],rfl⟩
  ·cases hh
def aK7(v:V)(h':Nat→O)(n n':Nat)(β:Bt)(w:World)(e:Ending)(w':World):Prop:=∃u β',e=.returned u∧VR β' v u∧HS β' w' h'∧Gn n β w β' w'∧∀i,n'≤i→β' i=none
structure Pre (β:Bt) (w:World) (args:List V) (vs:Array Value) (h:Nat→O) (n:Nat):Prop where
 ar:All2 (VR β) args vs.toList
 hs:HS β w h
 fr:∀i,n≤i→β i=none
 gl:∃N,β 0=some (0,N)
def aXO(P:Program)(f:FuncId)(args:List V)(h:Nat→O)(n:Nat)(v:V)(h':Nat→O)(n':Nat):Prop:=∀β w vs (k:Nat),Pre β w args vs h n→CallsIn Fence.wide k P f vs w (aK7 v h' n n' β w)
def aXL(P:Program)(id:Nat)(args:List V)(h:Nat→O)(n:Nat)(v:V)(h':Nat→O)(n':Nat):Prop:=∀β w vs (k l N:Nat),β id=some (l,N)→Pre β w args vs h n →
 ∃fn tmps assign body,(Instr.yield l vs).run P w=.ok (.round l fn tmps assign body) w∧RoundIn Fence.wide k P l fn tmps assign body w (aK7 v h' n n' β w)
def WW(P:Program)(cl:Cl)(args:List V)(h:Nat→O)(n:Nat)(v:V)(h':Nat→O)(n':Nat):Prop:=match cl with
 |.fn f=>kJ P f∧aXO P f args h n v h' n'
 |.yl id=>aXL P id args h n v h' n'
def sT(P:Program)(G:mY):Prop:=∀cl args h n v h' n',G cl args h n=some (v,h',n')→gO h' 0=gO h 0∧n≤n'∧WW P cl args (gO h) n v (gO h') n'
theorem uR{β β':Bt}{x:F}{u:Value}(hp:PJ x=true)(h:FR β x u):FR β' x u:=by cases x<;>first|exact h|cases hp
theorem jY{α:Type}{q q':α→Value→Prop}{f:α→Bool}(hq:∀x u,f x=true→q x u→q' x u):∀ {xs:List α} {us:List Value},(∀x∈xs,f x=true)→All2 q xs us→All2 q' xs us
 |[],[],_,_=>trivial
 |[],_::_,_,h=>h.elim
 |_::_,[],_,h=>h.elim
 |x::xs,u::us,hp,h=>⟨hq _ _ (hp x (by simp)) h.1,jY hq (fun y hy=>hp y (cV _ hy)) h.2⟩
theorem pA{β β':Bt}{x:C}{u:Value}(hp:AN x=true)(h:CR β x u):CR β' x u:=by
 cases x with
 |f x=>exact uR hp h
 |fn g fs cs=>
  simp only[AN]at hp;rw[bR]at hp;obtain⟨us,vs,h1,h2,h3⟩:=h;exact⟨us,vs,h1,jY (fun _ _=>uR) (gN hp.1) h2,jY (fun _ _=>uR) (gN hp.2) h3⟩
 |ifc t x=>obtain⟨u',h1,h2⟩:=h;exact⟨u',h1,uR hp h2⟩
 |top=>trivial
theorem aAD{β β':Bt}{x:W}{u:Value}(hp:aKI x=true)(h:WR β x u):WR β' x u:=by
 cases x with
 |c x=>exact pA hp h
 |a cs=>obtain⟨us,h1,h2⟩:=h;exact⟨us,h1,jY (fun _ _=>pA) (gN hp) h2⟩
theorem JF{β β':Bt}{x:V}{u:Value}(hp:oU x=true)(h:VR β x u):VR β' x u:=by
 cases x with
 |c x=>exact pA hp h
 |a cs=>obtain⟨us,h1,h2⟩:=h;exact⟨us,h1,jY (fun _ _=>pA) (gN hp) h2⟩
 |t vs=>obtain⟨us,h1,h2⟩:=h;exact⟨us,h1,jY (fun _ _=>aAD) (gN hp) h2⟩
theorem JG{β β':Bt}{x:O}{b N:Nat}(hp:aKJ x=true)(h:OR β w x b N):OR β' w x b N:=by
 cases x with
 |blk x0 ty vs=>
  obtain⟨cs,h1,h2,h3,h4⟩:=h;refine⟨cs,h1,h2,h3,fun k c hk=>?_⟩;obtain⟨u,h5,h6⟩:=h4 k c hk;exact⟨u,h5,pA (gN hp c (cL hk)) h6⟩
 |glb o vs=>
  obtain⟨cs,ty,fz,h1,h0,h2,h3,h4⟩:=h;refine⟨cs,ty,fz,h1,h0,h2,h3,fun k c hk=>?_⟩;obtain⟨u,h5,h6⟩:=h4 k c hk;exact⟨u,h5,pA (gN hp c (cL hk)) h6⟩
 |_=>cases hp
theorem vP{G:mY}(hG:sT P G){cl:Cl}{args:List V}{h:T O}{v:V}(hr:BU P G cl args h=some v):oU v=true∧∀h2 n2,h2 0=gO h 0→WW P cl args h2 n2 v h2 n2:=by
 cases cl with
 |yl id=>cases hr
 |fn f=>
  simp only[BU]at hr;split at hr
  case h_2=>cases hr
  rename_i hp;rw[bR,bR]at hp;obtain⟨_,hp0,hpa⟩:=hp;split at hr
  case h_2=>cases hr
  rename_i r hg;split at hr
  case h_2=>cases hr
  rename_i hpv;cases hr;obtain⟨v,h',n'⟩:=r
  have hg2:=hG _ _ _ _ _ _ _ hg
  obtain⟨e0,_,hc,hf⟩:=hg2
  have key:∀h2 n2,h2 0=gO h 0→WW P (.fn f) args h2 n2 v h2 n2:=by
   intro h2 n2 e2;refine⟨hc,fun β w vs k hpre=>?_⟩;obtain⟨N0,hN0⟩:=hpre.gl
   have hbase:gO (iK 0 (gO h 0) .e)=fu (gO .e) 0 (gO h 0):=jU (by decide)
   obtain⟨βr,hβr⟩:∃βr:Bt,βr=fun i=>if i=0 then β 0 else none:=⟨_,rfl⟩
   have r0:βr 0=some (0,N0):=by rw[hβr];simpa using hN0
   have rn:∀i x,βr i=some x→i=0∧β 0=some x:=by
    intro i x hi;rw[hβr]at hi
    by_cases e:i=0
    ·subst e;exact⟨rfl,by simpa using hi⟩
    ·simp[e]at hi
   have hob:OR βr w (gO h 0) 0 N0:=JG hp0 (by rw[←e2];exact hpre.hs.obj 0 0 N0 hN0)
   have hsr:HS βr w (gO (iK 0 (gO h 0) .e)):=by
    rw[hbase];refine⟨?_,?_,?_⟩
    ·intro i j b o1 o2 hi hj _ _
     rw[(rn i _ hi).1,(rn j _ hj).1]
    ·intro i b N hi;exact hpre.hs.lt 0 b N (rn i _ hi).2
    ·intro i b N hi
     obtain⟨rfl,hb⟩:=rn i _ hi;rw[hN0]at hb;cases hb;rw[eV];exact hob
   have hp':Pre βr w args vs (gO (iK 0 (gO h 0) .e)) 1:=⟨jY (fun _ _=>JF) (gN hpa) hpre.ar,hsr,fun i hi=>by rw[hβr];simp;omega,⟨N0,r0⟩⟩
   refine CallsIn.mono (hf βr w vs k hp') ?_;rintro e w' ⟨u,β',rfl,q1,q2,q3,q4⟩
   have hkeep:∀b,b<w.heap.size→b≠0→w'.heap[b]?=w.heap[b]?:=fun b hb hne=>q3.fr b hb fun i N hi=>by
    obtain⟨_,hb0⟩:=rn i _ hi;rw[hN0]at hb0;cases hb0;exact hne rfl
   have hob':OR β w' (gO h 0) 0 N0:=by
    have h1:=q2.obj 0 0 N0 (q3.bm 0 _ r0)
    rw[e0,hbase,eV]at h1;exact JG hp0 h1
   refine⟨u,β,rfl,JF hpv q1,⟨hpre.hs.inj,fun i b N hi=>cI (hpre.hs.lt i b N hi) q3.size,?_⟩,⟨⟨q3.os,q3.tape,q3.output,q3.size,?_,fun i b N hi=>.inl ⟨i,N,hi⟩,fun _ _ hi=>hi⟩,fun _ _=>rfl⟩,hpre.fr⟩
   ·intro i b N hi
    by_cases hb:b=0
    ·subst hb
     by_cases hi0:i=0
     ·subst hi0
      rw[hN0]at hi;cases hi;rw[e2];exact hob'
     ·cases hl:(h2 i).live with
      |false=>cases hq:h2 i<;>rw[hq]at hl<;>first|exact trivial|cases hl
      |true=>
       have h0l:(h2 0).live=true:=by
        rw[e2]
        cases hq:gO h 0<;>rw[hq]at hp0<;>first|rfl|cases hp0
       exact absurd (hpre.hs.inj i 0 0 N N0 hi hN0 hl h0l) hi0
    ·exact OR.keep (fun _ _ q=>q) (hkeep b (hpre.hs.lt i b N hi) hb) (hpre.hs.obj i b N hi)
   ·intro b hb hn
    refine q3.fr b hb fun i N hi=>?_
    obtain⟨_,hb0⟩:=rn i _ hi;exact hn 0 N hb0
  exact⟨hpv,key⟩
theorem aOI{G:mY}(hG:sT P G):sT P (goM P G):=by
 intro cl args h n v h' n' hr;unfold goM at hr;split at hr
 ·rename_i v0 hp
  cases hr;exact⟨rfl,aU _,(vP hG hp).2 _ _ rfl⟩
 ·exact hG _ _ _ _ _ _ _ hr
theorem uT{op:CF}(hc:gY P o.op=some op):∀c,o.op≠.defer c:=fun c e=>by rw[e]at hc;simp only[gY]at hc;cases hc
theorem aMH(hs:eC β st a w){op:CF}(hc:gY P o.op=some op){v:V}{e:pZ}(h:lI st.t st.h st.n op=some (v,e)){r:Option Nat}{k:Nat}{next:Act→World→Prop}{Q:Exit→Act→World→Prop}
  (hn:∀u w' β',VR β' v u→HS β' w' (e.mem st.n st.h)→Gr β w β' w'→(∀i,(i≠st.n∨e.isNw=false)→β' i=β i)→next (a.put o.dst u) w'):o.wpIn (Fw r) k P a w next Q:=by
 unfold Oper.wpIn;refine⟨fun _ _=>trivial,?_⟩;rw[Oper.semAt_eq _ _ _ (uT hc)];obtain⟨u,w',β',hr,q1,q2,q3,q4⟩:=JK hs (hs.fr _ (aU _)) hc h
 rcases hr with hr|⟨hr,rfl⟩
 ·rw[hr];exact hn u w' β' q1 q2 q3 q4
 ·rw[hr];exact hn undef w' β' q1 q2 q3 q4
theorem OE(hs:eC β st a w){op:CF}(hc:gY P o.op=some op){cl:Cl}{args:List V}(h:pY P st.t op=some (cl,args)){n:Nat}(hfr:∀i,n≤i→β i=none){v:V}{h':Nat→O}{n':Nat}(hok:WW P cl args st.h n v h' n'){r:Option Nat}{k:Nat}{next:Act→World→Prop}{Q:Exit→Act→World→Prop}
  (hn:∀u w' β',VR β' v u→HS β' w' h'→Gn n β w β' w'→(∀i,n'≤i→β' i=none)→next (a.put o.dst u) w'):o.wpIn (Fw r) k P a w next Q:=by
 unfold Oper.wpIn;refine⟨fun _ _=>trivial,?_⟩;rw[Oper.semAt_eq _ _ _ (uT hc)]
 have hcr:=GU hs hc h fun f hf=>by subst hf;exact hok.1
 rcases hcr with⟨f,vs,rfl,hr,ha⟩|⟨id,l,N,vs,rfl,hid,hr,ha⟩
 ·rw[hr,Oper.uponIn_enter]
  refine⟨fun q=>by simp[Fw,Fence.wide]at q,?_⟩
  have hcall:=hok.2 β w vs (k-1) ⟨ha,hs.hs,hfr,hs.gl⟩
  show CallsIn Fence.wide (k-1) P f vs w _
  refine CallsIn.mono hcall ?_;rintro e w' ⟨u,β',rfl,q1,q2,q3,q4⟩;exact hn u w' β' q1 q2 q3 q4
 ·obtain⟨fn,tmps,assign,body,h1,h2⟩:=hok β w vs (k-1) l N hid ⟨ha,hs.hs,hfr,hs.gl⟩
  rw[hr,h1,Oper.uponIn_round];refine⟨fun q=>by simp[Fw,Fence.wide]at q,?_⟩
  show RoundIn Fence.wide (k-1) P l fn tmps assign body w _
  refine RoundIn.mono h2 ?_;rintro e w' ⟨u,β',rfl,q1,q2,q3,q4⟩;exact hn u w' β' q1 q2 q3 q4
end
open Go.AE (All2 gZ)
section
variable {t t0:Nat→V} {h h0:Nat→O} {nid:Nat}
theorem zW{x:X}(hx:∀s∈x.sl,t s=t0 s):ev t x=ev t0 x:=by
 cases x with
 |t k=>exact hx k (by simp[X.sl])
 |k v=>rfl
theorem dO{α:Type}{a b:List α}{x:α}:x∈ap a b↔x∈a∨x∈b:=by rw[jQ];exact List.mem_append
theorem aA3{x:X}{xs:List X}:BG (x::xs)=ap x.sl (BG xs):=rfl
theorem yC:∀ {xs:List X},(∀s∈BG xs,t s=t0 s)→KU t xs=KU t0 xs
 |[],_=>rfl
 |x::xs,hx=>by
  rw[aA3]at hx;rw[RW,RW,zW fun s hs=>hx s (dO.2 (.inl hs)),yC fun s hs=>hx s (dO.2 (.inr hs))]
theorem aA4{p:Nat×Nat×X}{ps:List (Nat×Nat×X)}:OZ (p::ps)=ap p.2.2.sl (OZ ps):=rfl
theorem GK{p:Nat×Nat×X}{ps:List (Nat×Nat×X)}{vs:List C}:jL t (p::ps) vs=(match (ev t p.2.2).cells? with
  |some cs=>match eB (bE (len cs) p.2.1) (eB (bS (Nat.add p.1 p.2.1) (len vs)) (hH cs)) with
   |true=>jL t ps (jK vs p.1 cs)
   |false=>none
  |none=>none):=rfl
theorem zU:∀ {ps:List (Nat×Nat×X)} {vs:List C},(∀s∈OZ ps,t s=t0 s)→jL t ps vs=jL t0 ps vs
 |[],_,_=>rfl
 |p::ps,vs,hx=>by
  rw[aA4]at hx;rw[GK,GK,zW fun s hs=>hx s (dO.2 (.inl hs))];split
  ·split
   ·exact zU fun s hs=>hx s (dO.2 (.inr hs))
   ·rfl
  ·rfl
theorem aJ5{d:Nat}{x:Option X}(hx:∀s∈slO x,t s=t0 s):xX t d x=xX t0 d x:=by
 cases x with
 |none=>rfl
 |some x=>simp only[xX,zW (x:=x) hx]
theorem CA{id off:Nat}:id∈FZ (.c (.f (.ptr id off))):=gR.2 rfl
theorem VS{x:Bool}{id sz off n:Nat}:id∈FZ (.c (.f (.sl x id sz off n))):=gR.2 rfl
theorem aF4{id:Nat}:id∈FZ (.c (.f (.mp id))):=gR.2 rfl
theorem CW{sz:Nat}{v:V}(hh:∀id∈FZ v,h id=h0 id):OY h sz v=OY h0 sz v:=by
 unfold OY;split
 ·rfl
 ·rw[hh _ VS]
 ·rfl
theorem SB{ty sz:Nat}{v:V}(hh:∀id∈FZ v,h id=h0 id):WF h ty sz v=WF h0 ty sz v:=by
 unfold WF;split
 ·rfl
 ·rw[hh _ VS]
 ·rfl
set_option maxHeartbeats 2000000 in
theorem aI2{op:CF}(hs:∀s∈op.sls,t s=t0 s)(hh:∀id∈aRG t0 op,h id=h0 id):lI t h nid op=lI t0 h0 nid op:=by
 have one:∀ {x:X},(∀s∈x.sl,s∈op.sls)→ev t x=ev t0 x:=fun hx=>zW fun s q=>hs s (hx s q)
 have lst:∀ {xs:List X},(∀s∈BG xs,s∈op.sls)→KU t xs=KU t0 xs:=fun hx=>yC fun s q=>hs s (hx s q)
 have opt:∀ {d:Nat} {x:Option X},(∀s∈slO x,s∈op.sls)→xX t d x=xX t0 d x:=fun hx=>aJ5 fun s q=>hs s (hx s q)
 cases op
 case mv x=>simp only[lI,one (x:=x) (fun s q=>q)]
 case pick c a b=>simp only[lI,ED,one (x:=c) (fun s q=>dO.2 (.inl q)),one (x:=a) (fun s q=>dO.2 (.inr (dO.2 (.inl q)))),one (x:=b) (fun s q=>dO.2 (.inr (dO.2 (.inr q))))]
 case alloc ty z=>rfl
 case box ty x=>simp only[lI,JP,one (x:=x) (fun s q=>q)]
 case build z ps=>simp only[lI,xR,zU hs]
 case bsl ty sz n z ps=>simp only[lI,JO,zU hs]
 case load n x=>
  simp only[lI,EN,one (x:=x) (fun s q=>q)];split
  ·rename_i id off he
   rw[hh id (by show id∈FZ (ev t0 x);rw[he];exact CA)]
  ·rfl
 case store n a v=>
  simp only[lI,xP,one (x:=a) (fun s q=>dO.2 (.inl q)),one (x:=v) (fun s q=>dO.2 (.inr q))];split
  ·split
   ·rename_i id off he
    rw[hh id (by show id∈FZ (ev t0 a);rw[he];exact CA)]
   ·rfl
  ·rfl
 case bin op x y=>simp only[lI,QF,one (x:=x) (fun s q=>dO.2 (.inl q)),one (x:=y) (fun s q=>dO.2 (.inr q))]
 case binw op k x y=>simp only[lI,EY,one (x:=x) (fun s q=>dO.2 (.inl q)),one (x:=y) (fun s q=>dO.2 (.inr q))]
 case binb op x y=>simp only[lI,EZ,one (x:=x) (fun s q=>dO.2 (.inl q)),one (x:=y) (fun s q=>dO.2 (.inr q))]
 case eqs neg fs x y=>simp only[lI,EU,one (x:=x) (fun s q=>dO.2 (.inl q)),one (x:=y) (fun s q=>dO.2 (.inr q))]
 case not x=>simp only[lI,PY,one (x:=x) (fun s q=>q)]
 case neg x=>simp only[lI,PZ,one (x:=x) (fun s q=>q)]
 case faddr off x=>simp only[lI,sE,one (x:=x) (fun s q=>q)]
 case fadI sz n x i=>simp only[lI,ES,one (x:=x) (fun s q=>dO.2 (.inl q)),one (x:=i) (fun s q=>dO.2 (.inr q))]
 case fld off n x=>simp only[lI,QD,one (x:=x) (fun s q=>q)]
 case idxA sz x i=>simp only[lI,ER,one (x:=x) (fun s q=>dO.2 (.inl q)),one (x:=i) (fun s q=>dO.2 (.inr q))]
 case idxS x i=>simp only[lI,EQ,one (x:=x) (fun s q=>dO.2 (.inl q)),one (x:=i) (fun s q=>dO.2 (.inr q))]
 case extr x i=>simp only[lI,ET,one (x:=x) (fun s q=>q)]
 case lenA x=>simp only[lI,QC,one (x:=x) (fun s q=>q)]
 case lenS x=>simp only[lI,EO,one (x:=x) (fun s q=>q)]
 case min x y=>simp only[lI,QA,one (x:=x) (fun s q=>dO.2 (.inl q)),one (x:=y) (fun s q=>dO.2 (.inr q))]
 case max x y=>simp only[lI,QB,one (x:=x) (fun s q=>dO.2 (.inl q)),one (x:=y) (fun s q=>dO.2 (.inr q))]
 case app ty sz bytes z x y=>
  simp only[lI,JQ,one (x:=x) (fun s q=>dO.2 (.inl q)),one (x:=y) (fun s q=>dO.2 (.inr q))];rw[CW fun id q=>hh id (dO.2 (.inr q)),SB fun id q=>hh id (dO.2 (.inl q))]
 case appS ty x y=>
  simp only[lI,zC,one (x:=x) (fun s q=>dO.2 (.inl q)),one (x:=y) (fun s q=>dO.2 (.inr q))];rw[SB fun id q=>hh id q]
 case mksl ty sz bytes z x y=>simp only[lI,zB,one (x:=x) (fun s q=>dO.2 (.inl q)),one (x:=y) (fun s q=>dO.2 (.inr q))]
 case slc sz x lo hi=>simp only[lI,PW,one (x:=x) (fun s q=>dO.2 (.inl q)),opt (x:=lo) (fun s q=>dO.2 (.inr (dO.2 (.inl q)))),opt (x:=hi) (fun s q=>dO.2 (.inr (dO.2 (.inr q))))]
 case slcS x lo hi=>simp only[lI,DZ,one (x:=x) (fun s q=>dO.2 (.inl q)),opt (x:=lo) (fun s q=>dO.2 (.inr (dO.2 (.inl q)))),opt (x:=hi) (fun s q=>dO.2 (.inr (dO.2 (.inr q))))]
 case slc3 sz x lo hi mx=>simp only[lI,EB,one (x:=x) (fun s q=>dO.2 (.inl q)),opt (x:=lo) (fun s q=>dO.2 (.inr (dO.2 (.inl q)))),one (x:=hi) (fun s q=>dO.2 (.inr (dO.2 (.inr (dO.2 (.inl q)))))),one (x:=mx) (fun s q=>dO.2 (.inr (dO.2 (.inr (dO.2 (.inr q))))))]
 case slcP sz n x lo hi=>
  simp only[lI,EA,one (x:=x) (fun s q=>dO.2 (.inl q))];split
  ·rename_i id off he
   rw[hh id (by show id∈FZ (ev t0 x);rw[he];exact CA)]
  ·rfl
 case mkfn f fs cs=>simp only[lI,EL,lst (xs:=fs) (fun s q=>dO.2 (.inl q)),lst (xs:=cs) (fun s q=>dO.2 (.inr q))]
 case nilc x=>simp only[lI,EG,one (x:=x) (fun s q=>q)]
 case eqp neg x y=>simp only[lI,QE,one (x:=x) (fun s q=>dO.2 (.inl q)),one (x:=y) (fun s q=>dO.2 (.inr q))]
 case nils neg x=>simp only[lI,EE,one (x:=x) (fun s q=>q)]
 case nilm neg x=>simp only[lI,EF,one (x:=x) (fun s q=>q)]
 case conv k x=>simp only[lI,EW,one (x:=x) (fun s q=>q)]
 case negw k x=>simp only[lI,EH,one (x:=x) (fun s q=>q)]
 case carry sub x y c=>simp only[lI,xQ,one (x:=x) (fun s q=>dO.2 (.inl q)),one (x:=y) (fun s q=>dO.2 (.inr (dO.2 (.inl q)))),one (x:=c) (fun s q=>dO.2 (.inr (dO.2 (.inr q))))]
 case capn x=>simp only[lI,EX,one (x:=x) (fun s q=>q)]
 case mkif ty x=>simp only[lI,EK,one (x:=x) (fun s q=>q)]
 case tass ty z two x=>simp only[lI,DY,one (x:=x) (fun s q=>q)]
 case mkmap kd=>rfl
 case look kd z two x k=>
  simp only[lI,EM,one (x:=x) (fun s q=>dO.2 (.inl q)),one (x:=k) (fun s q=>dO.2 (.inr q))];split
  ·split
   ·split
    ·rfl
    ·rename_i id he
     rw[hh id (by show id∈FZ (ev t0 x);rw[he];exact aF4)]
    ·rfl
   ·rfl
  ·rfl
 case mset kd x k v=>
  simp only[lI,EJ,one (x:=x) (fun s q=>dO.2 (.inl q)),one (x:=k) (fun s q=>dO.2 (.inr (dO.2 (.inl q)))),one (x:=v) (fun s q=>dO.2 (.inr (dO.2 (.inr q))))];split
  ·rename_i kd1 n y id hk hv he
   rw[hh id (by show id∈FZ (ev t0 x);rw[he];exact aF4)]
  ·rfl
 case s2b ty x=>simp only[lI,JM,one (x:=x) (fun s q=>q)]
 case b2s x=>
  simp only[lI,QG,one (x:=x) (fun s q=>q)];rw[CW fun id q=>hh id q]
 case rng x=>simp only[lI,JN,one (x:=x) (fun s q=>q)]
 case nxt x=>
  simp only[lI,PX,one (x:=x) (fun s q=>q)];split
  ·rename_i id he
   rw[hh id (by show id∈FZ (ev t0 x);rw[he];exact CA)]
  ·rfl
 case idxV sz m n x i=>simp only[lI,EP,one (x:=x) (fun s q=>dO.2 (.inl q)),one (x:=i) (fun s q=>dO.2 (.inr q))]
 case copy sz x y=>
  simp only[lI,EV,one (x:=x) (fun s q=>dO.2 (.inl q)),one (x:=y) (fun s q=>dO.2 (.inr q))];rw[CW fun id q=>hh id (dO.2 (.inr q))];split
  ·split
   ·rename_i x0 id sz' off n he
    rw[hh id (dO.2 (.inl (by rw[he];exact VS)))]
   ·rfl
  ·rfl
 all_goals rfl
theorem GV{P:Program}{op:CF}(hs:∀s∈op.sls,t s=t0 s):pY P t op=pY P t0 op:=by
 cases op
 case call f args=>simp only[pY,yC hs]
 case callv x args=>simp only[pY,zW (x:=x) fun s q=>hs s (dO.2 (.inl q)),yC (xs:=args) fun s q=>hs s (dO.2 (.inr q))]
 case inv x m args=>simp only[pY,zW (x:=x) fun s q=>hs s (dO.2 (.inl q)),yC (xs:=args) fun s q=>hs s (dO.2 (.inr q))]
 all_goals rfl
theorem aI1{op:CF}{v:V}{e:pZ}(hh:lI t h nid op=some (v,e))(he:e.isNw=false)(n2:Nat):lI t h n2 op=some (v,e)∧e.upd n2=e.upd nid:=by
 have hu:e.upd n2=e.upd nid:=by cases e<;>first|rfl|cases he
 refine⟨?_,hu⟩;cases op
 case alloc ty z=>cases hh;cases he
 case box ty x=>
  simp only[lI,JP]at hh;split at hh
  ·have:=eY hh;obtain⟨_,q⟩:=this;cases q;cases he
  ·cases hh
 case bsl ty sz n z ps=>
  simp only[lI,JO]at hh;split at hh
  ·have:=eY hh;obtain⟨_,q⟩:=this;cases q;cases he
  ·cases hh
 case app ty sz bytes z x y=>
  simp only[lI,JQ]at hh;split at hh
  ·rename_i m news n vs old _ _
   have:=eY hh;obtain⟨_,q⟩:=this;cases q;cases old<;>cases he
  ·cases hh
 case appS ty x y=>
  simp only[lI,zC]at hh;split at hh
  ·rename_i l n vs old _ _
   have:=eY hh;obtain⟨_,q⟩:=this;cases q;cases old<;>cases he
  ·cases hh
 case mksl ty sz bytes z x y=>
  simp only[lI,zB]at hh;split at hh
  ·have:=eY hh;obtain⟨_,q⟩:=this;cases q;cases he
  ·cases hh
 case mkmap kd=>cases hh;cases he
 case s2b ty x=>
  simp only[lI,JM]at hh;split at hh
  ·cases hh;cases he
  ·cases hh
 case rng x=>
  simp only[lI,JN]at hh;split at hh
  ·cases hh;cases he
  ·cases hh
 all_goals exact hh
end
open Go.AE (All2 gZ)
noncomputable def TS.st(m:Nat)(ts:TS):St:=⟨gV ts.t,gO ts.h,ts.n,m,ts.d⟩
def yK(β:Bt):Option Nat→Option Nat→Prop
 |none,r=>r=none
 |some id,r=>∃l N,β id=some (l,N)∧r=some l
theorem yK.keep{β β':Bt}(k:Mo β β'):∀ {ρ r:Option Nat},yK β ρ r→yK β' ρ r
 |none,_,h=>h
 |some _,_,⟨l,N,h1,h2⟩=>⟨l,N,k _ _ h1,h2⟩
section
variable {P:Program} {β:Bt} {w:World} {st:St} {a:Act} {o:Oper} {ops:Array Oper}
theorem IW{x:V}{d:Nat}(hs:eC β st a w)(hx:st.t d=x):VR β x (a.tmps.getD d undef):=by rw[←hx];exact hs.tm d
theorem IX{x:Bool}{d:Nat}(hs:eC β st a w)(hx:st.t d=.c (.f (.b x))):a.tmps[d]?=some (.bool x):=by
 have h:a.tmps.getD d undef=.bool x:=IW hs hx
 cases he:a.tmps[d]? with
 |none=>rw[dR,he]at h;cases h
 |some u=>rw[dR,he]at h;simp at h;rw[h]
theorem CY{d:Nat}(hs:eC β st a w)(hx:st.t d=.t []):a.tmps[d]?=none∨a.tmps[d]?=some (.tuple #[]):=by
 have h:∃us,a.tmps.getD d undef=.tuple us∧All2 (WR β) [] us.toList:=IW hs hx
 obtain⟨us,h1,h2⟩:=h
 have e:us = #[]:=by
  cases hq:us.toList with
  |nil=>exact bW.1 hq
  |cons _ _=>rw[hq]at h2;exact h2.elim
 subst e;cases he:a.tmps[d]? with
 |none=>exact .inl rfl
 |some u=>rw[dR,he]at h1;simp at h1;rw[h1];exact .inr rfl
theorem rU{ts:TS}{m:Nat}{g:Option (Nat×Bool)}{b:Bool}(hs:eC β (ts.st m) a w)(hg:mC ops o.guard=some g)(hw:wZ ts.t g=some b):eD o (yielded ops a.tmps)=b:=by
 cases hgo:o.guard with
 |none=>
  rw[hgo]at hg;cases hg;cases hw;unfold eD;rw[hgo]
 |some q=>
  obtain⟨j,want⟩:=q;rw[hgo]at hg;simp only[mC,aM]at hg;obtain⟨d,hd,rfl⟩:=hg;simp only[wZ]at hw;split at hw
  ·rename_i x hx
   have hb:=IX hs hx
   have:=AE.wanted_bool hgo hd hb
   rw[this];cases want<;>cases x<;>cases hw<;>rfl
  ·rename_i hx
   cases hw;exact AE.wanted_undef hgo hd (CY hs hx)
  ·cases hw
theorem kW{ei:EI}(h:lE P ops o=some ei):∃g,mC ops o.guard=some g∧ei=⟨o.dst,gY P o.op,aBP o.op,g,KZ o⟩:=by
 simp only[lE,aE,aB,aK,aD]at h;obtain⟨g,h1,h2⟩:=h;exact⟨g,h1,h2.symm⟩
theorem iM:∀ {l:List Oper} {el:List EI},fZ P ops l=some el→el.length=l.length∧∀(i:Nat) (o:Oper),l[i]?=some o→∃ei,el[i]?=some ei∧lE P ops o=some ei
 |[],el,h=>by cases h;exact⟨rfl,fun i o h=>by simp at h⟩
 |x::l,el,h=>by
  simp only[fZ,aE,aB,aK,aD]at h;obtain⟨ei,h1,el',h2,rfl⟩:=h;obtain⟨h3,h4⟩:=iM h2;refine⟨by simp[h3],fun i o hi=>?_⟩;cases i with
  |zero=>simp at hi;subst hi;exact⟨ei,rfl,h1⟩
  |succ i=>exact h4 i o (by simpa using hi)
theorem uQ{ts:TS}{m:Nat}{dst:Option Nat}{v:V}{t':T V}{h':T O}{n':Nat}{β':Bt}{w':World}{u:Value}(hs:eC β (ts.st m) a w)(hp:put m ts.t dst v=some t')(k:Gr β w β' w')(hh:HS β' w' (gO h'))(hf:∀i,n'≤i→β' i=none)(hv:VR β' v u) :
  eC β' (TS.st m ⟨t',h',n',ts.d⟩) (a.put dst u) w':=by
 obtain⟨h1,h2⟩:=pK hp
 have:=XI hs k hh hf hv dst h1
 show eC β' ⟨gV t',gO h',n',m,ts.d⟩ _ _
 rw[h2];exact this
theorem aFF(r:Option Nat)(f:FuncId):(Fw r).fn f:=trivial
theorem XH{r:Option Nat}{k i:Nat}{Q:Exit→Act→World→Prop}{K:Act→World→Prop}(ho:ops[i]?=some o)(hw:eD o (yielded ops a.tmps)=false)(h:K (a.put o.dst undef) w):wpOpIn (Fw r) k P ops Q i K a w:=by
 unfold wpOpIn;simp only[ho,hw];exact⟨fun f _=>aFF r f,h⟩
theorem qC{r:Option Nat}{k i:Nat}{Q:Exit→Act→World→Prop}{K:Act→World→Prop}(ho:ops[i]?=some o)(hw:eD o (yielded ops a.tmps)=true)(h:o.wpIn (Fw r) k P a w K Q):wpOpIn (Fw r) k P ops Q i K a w:=by
 unfold wpOpIn;simp only[ho,hw,if_true];exact h
theorem xD{β:Bt}:VR β (.t []) undef:=⟨#[],rfl,trivial⟩
theorem aMI{β':Bt}{w':World}{n n':Nat}{e:pZ}(hg:Gr β w β' w')(hb:∀i,(i≠n∨e.isNw=false)→β' i=β i)(hn:n'=if e.isNw then n+1 else n)(hf:∀i,n≤i→β i=none):Gn n β w β' w'∧n≤n'∧∀i,n'≤i→β' i=none:=by
 refine⟨⟨hg,fun i hi=>hb i (.inl (by omega))⟩,?_,fun i hi=>?_⟩
 ·rw[hn];split<;>omega
 ·cases he:e.isNw with
  |true=>rw[he,if_pos rfl]at hn;rw[hb i (.inl (by omega))];exact hf i (by omega)
  |false=>rw[he,if_neg (by decide)]at hn;rw[hb i (.inr he)];exact hf i (by omega)
def aP0(P:Program)(ops:Array Oper)(ρ:Option Nat)(m i:Nat)(ts ts':TS):Prop:=(gO ts'.h 0=gO ts.h 0∧ts.n≤ts'.n) ∧
 ∀(β:Bt) (a:Act) (w:World) (r:Option Nat) (k:Nat) (K:Act→World→Prop) (Q:Exit→Act→World→Prop),yK β ρ r→eC β (ts.st m) a w→(∀a' w' β',eC β' (ts'.st m) a' w'→Gn ts.n β w β' w'→K a' w')→wpOpIn (Fw r) k P ops Q i K a w
theorem TH{G:mY}(hG:sT P G){i:Nat}{ei:EI}(ho:ops[i]?=some o)(hc:lE P ops o=some ei){ρ:Option Nat}{m:Nat}{ts ts':TS}(hw:wZ ts.t ei.guard=some true)(h:aCV P G m ei ts=some ts'):aP0 P ops ρ m i ts ts':=by
 obtain⟨g,hg,rfl⟩:=kW hc;simp only[aCV]at h;split at h
 case h_2=>cases h
 rename_i op hop;split at h
 ·split at h
  case h_2=>cases h
  rename_i ca hca;split at h
  case h_2=>cases h
  rename_i q hq;split at h
  case h_2=>cases h
  rename_i t' hp;cases h;obtain⟨v,h',n'⟩:=q;obtain⟨e0,hn,hok⟩:=aOI hG _ _ _ _ _ _ _ hq;refine⟨⟨e0,hn⟩,fun β a w r k K Q hr hs hK=>qC ho (rU hs hg hw) ?_⟩
  refine OE (cl:=ca.1) (args:=ca.2) hs hop hca hs.fr hok fun u w' β' q1 q2 q3 q4=>?_
  exact hK _ w' β' (uQ hs hp q3.toGr q2 q4 q1) q3
 ·split at h
  case h_2=>cases h
  rename_i q hq;obtain⟨v,e⟩:=q;split at h
  case h_2=>cases h
  rename_i hn he;obtain⟨h',n'⟩:=hn;split at h
  case h_2=>cases h
  rename_i t' hp;cases h;obtain⟨e1,e2,e3⟩:=KX he
  have hle:ts.n≤n':=by rw[e3];split<;>omega
  refine⟨⟨e2,hle⟩,fun β a w r k K Q hr hs hK=>qC ho (rU hs hg hw) ?_⟩
  refine aMH hs hop hq fun u w' β' q1 q2 q3 q4=>?_
  obtain⟨g1,g2,g3⟩:=aMI q3 q4 e3 hs.fr;refine hK _ w' β' (uQ hs hp q3 ?_ g3 q1) g1
  show HS β' w' (gO h')
  rw[e1];exact q2
theorem PB{i:Nat}{ei:EI}(ho:ops[i]?=some o)(hc:lE P ops o=some ei){x:X}{xs:List X}(hd:ei.df=some (x,xs)){m:Nat}{ts ts':TS}(hw:wZ ts.t ei.guard=some true)(h:PC P m ei x xs ts=some ts'):aP0 P ops none m i ts ts':=by
 obtain⟨g,hg,rfl⟩:=kW hc;simp only[PC]at h;split at h
 case h_2=>cases h
 rename_i f first cap hx
 split at h
 case h_2=>cases h
 rename_i t' hp;cases h;refine⟨⟨rfl,aU _⟩,fun β a w r k K Q hr hs hK=>qC ho (rU hs hg hw) ?_⟩
 have hr:r=none:=hr
 subst hr
 have hd:aBP o.op=some (x,xs):=hd
 unfold aBP at hd;split at hd
 case h_2=>cases hd
 rename_i c hop;split at hd
 case h_2=>cases hd
 rename_i y hcal;simp only[aE,aB,aK,aD,Prod.mk.injEq]at hd;obtain⟨ax,h1,al,h2,rfl,rfl⟩:=hd
 have hv:=aR hs h1
 have ha:=nQ hs c.args.toList al h2
 have ha:All2 (VR β) (KU (gV ts.t) al) (c.args.map a.eval).toList:=by rw[Array.toList_map];exact ha
 have hx:ev (ts.st m).t ax=.c (.fn (.func f) first cap):=hx
 rw[hx]at hv;obtain⟨us,cs,hu,hfs,hcs⟩:=hv;unfold Oper.wpIn;refine⟨fun f _=>aFF none f,?_⟩
 have e:(o.semAt (Fw none).round a.eval).run P w=.ok (.defer { target:=.fn (.func f) cs,args:=us++c.args.map a.eval }) w:=by
  show (execOp a.eval o).run P w=_
  simp only[execOp,hop,resolve,hcal,hu,Deferred.ofValue];rfl
 rw[e,Oper.uponIn_defer];refine hK _ w β ?_ (Gn.refl _ _ _)
 have hs':eC β (TS.st m ⟨ts.t,ts.h,ts.n,.cal f (ap (mp fV first) (ap (KU (gV ts.t) al) (mp fV cap)))::ts.d⟩) { a with defers:={ target:=.fn (.func f) cs,args:=us++c.args.map a.eval }::a.defers } w:=by
  refine⟨⟨⟨cs,rfl,?_⟩,hs.df⟩,hs.sz,hs.tm,hs.hs,hs.fr,hs.gl⟩;rw[jQ,jQ,eN,eN,List.append_assoc];exact(nP hfs).append (ha.append (nP hcs))
 have:=uQ (ts:=⟨ts.t,ts.h,ts.n,.cal f (ap (mp fV first) (ap (KU (gV ts.t) al) (mp fV cap)))::ts.d⟩) hs' hp (Gr.refl _ _) hs.hs hs.fr xD
 exact this
theorem OV{G:mY}(hG:sT P G){i:Nat}{ei:EI}(ho:ops[i]?=some o)(hc:lE P ops o=some ei){ρ:Option Nat}{m:Nat}{ts ts':TS}(h:vN P G ρ m ei ts=some ts'):aP0 P ops ρ m i ts ts':=by
 unfold vN at h;split at h
 ·rename_i hw
  split at h
  ·exact TH hG ho hc hw h
  ·rename_i x xs hd
   exact PB ho hc hd hw h
  ·cases h
 ·rename_i hw
  obtain⟨g,hg,rfl⟩:=kW hc;split at h
  case h_2=>cases h
  rename_i t' hp;cases h;refine⟨⟨rfl,aU _⟩,fun β a w r k K Q hr hs hK=>XH ho (rU hs hg hw) ?_⟩;exact hK _ w β (uQ hs hp (Gr.refl _ _) hs.hs hs.fr xD) (Gn.refl _ _ _)
 ·cases h
theorem JE{f:EI→TS→Option TS}{ei:EI}{l:List EI}{ts:TS}:PE f (ei::l) ts=(match f ei ts with
 |some s=>PE f l s
 |none=>none):=rfl
theorem DJ{G:mY}(hG:sT P G){ρ:Option Nat}{m:Nat}:∀(l:List EI) (i:Nat) (ts ts':TS),(∀j ei,l[j]?=some ei→∃o,ops[i+j]?=some o∧lE P ops o=some ei)→PE (vN P G ρ m) l ts=some ts' →
  (gO ts'.h 0=gO ts.h 0∧ts.n≤ts'.n)∧∀(β:Bt) (a:Act) (w:World) (r:Option Nat) (k:Nat) (Q:Exit→Act→World→Prop),yK β ρ r→eC β (ts.st m) a w→(∀a' w' β',eC β' (ts'.st m) a' w'→Gn ts.n β w β' w'→Q .normal a' w')→wpOpsIn (Fw r) k P ops Q ((dL l.length).map (i + ·)) a w
 |[],i,ts,ts',hl,h=>by
  cases h;exact⟨⟨rfl,aU _⟩,fun β a w r k Q hr hs hQ=>hQ a w β hs (Gn.refl _ _ _)⟩
 |ei::l,i,ts,ts',hl,h=>by
  rw[JE]at h;split at h
  case h_2=>cases h
  rename_i s hstep;obtain⟨o,ho,hc⟩:=hl 0 ei rfl;obtain⟨⟨a1,a2⟩,a3⟩:=OV hG (by simpa using ho) hc hstep
  obtain⟨⟨b1,b2⟩,b3⟩:=DJ hG l (i+1) s ts' (fun j ej hj=>by
   have:=hl (j+1) ej hj
   rwa [show i+(j+1)=i+1+j by omega]at this) h
  refine⟨⟨b1.trans a1,fX a2 b2⟩,fun β a w r k Q hr hs hQ=>?_⟩
  have e:(dL (ei::l).length).map (i + ·)=i::(dL l.length).map (i+1 + ·):=by
   rw[List.length_cons,List.range_succ_eq_map,List.map_cons,List.map_map];congr 1
   exact List.map_congr_left fun x _=>by simp only[Function.comp];omega
  rw[e,wpOpsIn_cons]
  refine a3 β a w r k _ Q hr hs fun a' w' β' hs' hg=>?_
  exact b3 β' a' w' r k Q (hr.keep hg.bm) hs' fun a2' w2 β2 hs2 hg2=>hQ a2' w2 β2 hs2 (hg.trans hg2 a2)
theorem aD0{G:mY}(hG:sT P G){ρ:Option Nat}{m:Nat}{l:List EI}{ts ts':TS}{id:Nat}(hl:fZ P ops ops.toList=some l)(h:PE (vN P G ρ m) l ts=some ts') :
  (gO ts'.h 0=gO ts.h 0∧ts.n≤ts'.n)∧∀(β:Bt) (a:Act) (w:World) (r:Option Nat) (k:Nat) (Q:Exit→Act→World→Prop),yK β ρ r→eC β (ts.st m) a w→(∀a' w' β',eC β' (ts'.st m) a' w'→Gn ts.n β w β' w'→Q .normal a' w')→(Code.region id ops false).wpIn (Fw r) k P Q a w:=by
 obtain⟨hlen,hget⟩:=iM hl
 have hlen:l.length=ops.size:=by simpa using hlen
 obtain⟨h1,h2⟩:=DJ (ops:=ops) hG l 0 ts ts' (fun j ei hj=>by
  have hjl:j<l.length:=(aV.1 hj).1
  have hjs:j<ops.size:=by omega
  obtain⟨ei',q1,q2⟩:=hget j ops[j] (by simp[hjs]);rw[hj]at q1;cases q1
  exact⟨ops[j],by simp[hjs],q2⟩) h
 refine⟨h1,fun β a w r k Q hr hs hQ=>wpIn_region ?_⟩
 have:=h2 β a w r k Q hr hs hQ
 have e:(dL l.length).map (0 + ·)=dL ops.size:=by
  rw[hlen]
  have q:(fun x:Nat=>0+x)=fun x=>x:=by funext x;omega
  rw[q,List.map_id']
 rwa [e]at this
end
open Go.AE (All2 gZ)
theorem oI{s:Nat}:∀ {l:List Nat},qA s l=true↔s∈l
 |[]=>by simp[qA]
 |x::l=>by
  have e:qA s (x::l)=(match bE x s with|true=>true|false=>qA s l):=rfl
  rw[e];cases h:bE x s with
  |true=>have:=aH h;simp[this]
  |false=>
   have:x≠s:=gG h
   simp only[oI,dZ];exact⟨.inr,fun q=>q.resolve_left fun e=>this e.symm⟩
theorem GQ:∀ {a b:List Nat},aJS a b=true→∀s,s∈a→s ∉ b
 |[],b,_,s,hs=>by cases hs
 |x::a,b,h,s,hs=>by
  have e:aJS (x::a) b=(match qA x b with|true=>false|false=>aJS a b):=rfl
  rw[e]at h;split at h
  ·cases h
  ·rename_i hx
   rcases dZ.1 hs with rfl|hs
   ·intro q;rw[oI.2 q]at hx;cases hx
   ·exact GQ h s hs
def sS:Option (List Nat)→Nat→Prop
 |none,_=>True
 |some l,id=>id∈l
theorem wU{a b:Option (List Nat)}(h:aG0 a b=true)(id:Nat)(ha:sS a id):¬sS b id:=by
 unfold aG0 at h;split at h
 ·cases ha
 ·intro q;cases q
 ·exact GQ h id ha
 ·cases h
theorem GR{d:Option Nat}{l:List Nat}(h:aJT d l=true){k:Nat}(hk:d=some k):qA k l=false:=by
 subst hk;simp only[aJT]at h;rw[nZ]at h;cases hq:qA k l<;>simp_all
theorem aAQ{a b:Option Nat}(h:neD a b=true){k:Nat}(ha:a=some k):b≠some k:=by
 subst ha;intro hb;subst hb
 simp only[neD]at h;rw[nZ,Nat.beq_refl]at h;cases h
theorem VM{x y:EI}(h:aO7 x y=true):(∀k,x.dst=some k→qA k y.sls=false∧y.dst≠some k)∧∀k,y.dst=some k→qA k x.sls=false:=by
 unfold aO7 at h;rw[bR,bR]at h;exact⟨fun k hk=>⟨GR h.1 hk,aAQ h.2.2 hk⟩,fun k hk=>GR h.2.1 hk⟩
theorem VN{x y:Re}(h:aEY x y=true):(∀id,sS x.wr id→¬sS y.acc id∧¬sS y.wr id)∧∀id,sS y.wr id→¬sS x.acc id:=by
 unfold aEY at h;rw[bR,bR]at h;exact⟨fun id hid=>⟨wU h.1 id hid,wU h.2.1 id hid⟩,fun id hid=>wU h.2.2 id hid⟩
def bit(a i:Nat):Prop:=Nat.land (Nat.shiftRight a i) 1≠0
theorem CC{a i:Nat}:bit a i↔a.testBit i=true:=by
 unfold bit Nat.testBit;rw[bne_iff_ne,←Nat.and_comm];exact Iff.rfl
section
variable {α:Type} {f:α→α→Bool}
theorem aC2{g:α→Bool}{a i:Nat}{x:α}{l:List α}:BN g a (x::l) i=(match Nat.land (Nat.shiftRight a i) 1 with
 |0=>match g x with
  |true=>BN g a l (gB i)
  |false=>false
 |_=>BN g a l (gB i)):=rfl
theorem HL{g:α→Bool}{a:Nat}:∀ {l:List α} {i:Nat},BN g a l i=true→∀(j:Nat) x,l[j]?=some x→¬bit a (i+j)→g x=true
 |[],i,_,j,x,hj,_=>by simp at hj
 |y::l,i,h,j,x,hj,hb=>by
  rw[aC2]at h;cases j with
  |zero=>
   simp at hj;subst hj
   have hb:Nat.land (Nat.shiftRight a i) 1=0:=Classical.not_not.1 hb
   rw[hb]at h;cases hg:g y with
   |true=>rfl
   |false=>simp only[hg]at h;cases h
  |succ j=>
   have hr:BN g a l (i+1)=true:=by
    split at h
    ·split at h
     ·exact h
     ·cases h
    ·exact h
   exact HL hr j x (by simpa using hj) (by rwa [show i+1+j=i+(j+1) by omega])
theorem TQ{y:α}{l:List α}{a:Nat}{an:List Nat}{pre:List α}:AQ f (y::l) (a::an) pre=(match BN (fun x=>f x y) a pre 0 with
 |true=>AQ f l an (ap pre [y])
 |false=>false):=rfl
theorem tP:∀ {l:List α} {an:List Nat} {pre:List α},AQ f l an pre=true→∀(i j:Nat) x y a,(pre++l)[i]?=some x→i<pre.length+j→l[j]?=some y→an[j]?=some a→¬bit a i→f x y=true
 |[],an,pre,_,i,j,x,y,a,_,_,hy,_,_=>by simp at hy
 |z::l,[],pre,h,i,j,x,y,a,_,_,_,ha,_=>by simp at ha
 |z::l,b::an,pre,h,i,j,x,y,a,hx,hij,hy,ha,hb=>by
  rw[TQ]at h;split at h
  case h_2=>cases h
  rename_i h0;cases j with
  |zero=>
   simp at hy ha;subst hy;subst ha;rw[cZ (by omega)]at hx;exact HL h0 i x hx (by simpa using hb)
  |succ j=>
   have e:ap pre [z]=pre++[z]:=jQ _ _
   rw[e]at h;refine tP h i j x y a (by simpa using hx) (by simp;omega) (by simpa using hy) (by simpa using ha) hb
end
noncomputable def IM(acc:List Nat)(es:List Nat):Nat:=eA (motive:=fun _=>Nat) 0 (fun e _ r=>Nat.lor (Nat.lor (Nat.shiftLeft 1 e) (bN 0 acc e)) r) es
noncomputable def HG(l:List EI)(acc:List Nat):List Nat:=eA (motive:=fun _=>List Nat→List Nat) (fun acc=>acc) (fun ei _ ih acc=>ih (ap acc [IM acc ei.es])) l acc
theorem sP{ei:EI}{l:List EI}{acc:List Nat}:HG (ei::l) acc=HG l (ap acc [IM acc ei.es]):=rfl
theorem CD(l:List EI):HI l=HG l []:=rfl
theorem AD:∀ {l:List EI} {acc:List Nat},(HG l acc).length=acc.length+l.length
 |[],acc=>rfl
 |ei::l,acc=>by rw[sP,AD,jQ];simp;omega
theorem AC:∀ {l:List EI} {acc:List Nat} {i:Nat},i<acc.length→(HG l acc)[i]?=acc[i]?
 |[],acc,i,_=>rfl
 |ei::l,acc,i,h=>by
  rw[sP,AC (by rw[jQ];simp;omega),jQ,cZ h]
theorem SM:∀ {l:List EI} {acc:List Nat} {j:Nat} {ei:EI},l[j]?=some ei→∃acc',acc'.length=acc.length+j∧(∀i,i<acc'.length→(HG l acc)[i]?=acc'[i]?)∧(HG l acc)[acc.length+j]?=some (IM acc' ei.es)
 |[],acc,j,ei,h=>by simp at h
 |e0::l,acc,0,ei,h=>by
  simp at h;subst h;refine⟨acc,rfl,fun i hi=>AC hi,?_⟩;rw[sP,AC (by rw[jQ];simp),jQ];simp
 |e0::l,acc,j+1,ei,h=>by
  rw[sP]
  have hl:(ap acc [IM acc e0.es]).length=acc.length+1:=by rw[jQ];simp
  obtain⟨acc',h1,h2,h3⟩:=SM (l:=l) (acc:=ap acc [IM acc e0.es]) (j:=j) (ei:=ei) (by simpa using h);exact⟨acc',by omega,h2,by rw[hl]at h3;rwa [show acc.length+(j+1)=acc.length+1+j by omega]⟩
theorem aC0{acc:List Nat}{e:Nat}{es:List Nat}:IM acc (e::es)=Nat.lor (Nat.lor (Nat.shiftLeft 1 e) (bN 0 acc e)) (IM acc es):=rfl
theorem SN{acc:List Nat}{i:Nat}:∀ {es:List Nat},bit (IM acc es) i→∃e∈es,e=i∨∃b,acc[e]?=some b∧bit b i
 |[],h=>by
  rw[CC]at h
  have e:IM acc []=0:=rfl
  rw[e]at h;simp at h
 |e::es,h=>by
  rw[CC,aC0]at h
  have h:((1 <<< e ||| bN 0 acc e) ||| IM acc es).testBit i=true:=h
  rw[Nat.testBit_or,Nat.testBit_or,eH,eH]at h
  rcases h with (h|h)|h
  ·refine⟨e,dI,.inl ?_⟩
   rw[Nat.one_shiftLeft]at h;rw[Nat.testBit_two_pow]at h;simpa using h
  ·refine⟨e,dI,.inr ?_⟩
   rw[eK]at h;cases hq:acc[e]? with
   |none=>rw[aG,hq]at h;simp at h
   |some b=>rw[aG,hq]at h;exact⟨b,rfl,CC.2 (by simpa using h)⟩
  ·obtain⟨e',q1,q2⟩:=SN (CC.2 h)
   exact⟨e',cV _ q1,q2⟩
def Anc(l:List EI)(i j:Nat):Prop:=∃a,(HI l)[j]?=some a∧bit a i
theorem aGE{l:List EI}{i j:Nat}{ei:EI}(hj:l[j]?=some ei)(h:Anc l i j):∃e∈ei.es,e=i∨(e<j∧Anc l i e):=by
 obtain⟨a,h1,h2⟩:=h;rw[CD]at h1;obtain⟨acc,q1,q2,q3⟩:=SM (acc:=[]) hj;simp at q1 q3;rw[h1]at q3;cases q3;obtain⟨e,he,r⟩:=SN h2;refine⟨e,he,?_⟩
 rcases r with r|⟨b,r1,r2⟩
 ·exact .inl r
 ·have hlt:e<acc.length:=(aV.1 r1).1
  exact .inr ⟨by omega,b,by rw[CD,q2 e hlt];exact r1,r2⟩
theorem BC:∀ {l:List EI} {i:Nat},eA (motive:=fun _=>Nat→Bool) (fun _=>true) (fun ei _ ih i=>match all (fun e=>cU e i) ei.es with
 |true=>ih (gB i)
 |false=>false) l i=true→∀(j:Nat) ei,l[j]?=some ei→∀e∈ei.es,e<i+j
 |[],i,_,j,ei,hj,_,_=>by simp at hj
 |x::l,i,h,j,ei,hj,e,he=>by
  have h:(match all (fun e=>cU e i) x.es with
   |true=>eA (motive:=fun _=>Nat→Bool) (fun _=>true) (fun ei _ ih i=>match all (fun e=>cU e i) ei.es with
    |true=>ih (gB i)
    |false=>false) l (gB i)
   |false=>false)=true:=h
  split at h
  case h_2=>cases h
  rename_i h0;cases j with
  |zero=>
   simp at hj;subst hj
   have:=gN h0 e he
   exact aQ this
  |succ j=>
   have:=BC (i:=i+1) h j ei (by simpa using hj) e he
   omega
open Go.AE (All2 gZ)
section
variable {β β':Bt} {w w':World}
theorem YG:∀ {B:List Nat} {id:Nat},(∀x∈B,x<16777000)→get false (mkT B) id=true→id∈B
 |[],id,_,h=>by
  have e:get false (mkT []) id=false:=rfl
  rw[e]at h;cases h
 |x::B,id,hb,h=>by
  have e24:(2:Nat)^24=16777216:=by decide
  have hx:=hb x dI
  have e:get false (mkT (x::B)) id=if id=x then true else get false (mkT B) id:=qQ _ _ 24 x id (mkT B) (by omega)
  rw[e]at h
  by_cases q:id=x
  ·subst q;exact dI
  ·rw[if_neg q]at h
   exact cV _ (YG (fun y hy=>hb y (cV _ hy)) h)
theorem WH{h' h:T O}{id:Nat}{B:List Nat}:qU h' (id::B) h=iK id (gO h' id) (qU h' B h):=rfl
theorem GS{h' h:T O}:∀ {B:List Nat},(∀x∈B,x<16777000)→∀id,gO (qU h' B h) id=if id∈B then gO h' id else gO h id
 |[],_,id=>by simp;rfl
 |x::B,hb,id=>by
  rw[WH,jU (hb x dI)]
  by_cases q:id=x
  ·subst q;rw[eV,if_pos dI]
  ·rw[cT _ q,GS fun y hy=>hb y (cV _ hy)]
   simp[q]
theorem aA6{k n:Nat}:TE (k+1) n=n::TE k (n+1):=rfl
theorem PA:∀ {k n id:Nat},id∈TE k n↔n≤id∧id<n+k
 |0,n,id=>by
  have e:TE 0 n=[]:=rfl
  rw[e];simp
 |k+1,n,id=>by
  rw[aA6,dZ,PA];omega
theorem aBI{a b:Value}(h:eqZ a b=true):a=b:=by
 unfold eqZ at h
 split at h<;>first|rfl|cases h
theorem KW{a b:F}(h:eqF a b=true):a=b:=by
 unfold eqF at h;split at h
 ·split at h<;>first|rfl|cases h
 ·rw[bR]at h
  have h1:=of_decide_eq_true h.1
  rw[h1,rT.1 h.2]
 ·rw[NZ.1 h]
 ·rw[aBI h]
 ·rw[bR]at h
  rw[aH h.1,aH h.2]
 ·rw[bR,bR,bR]at h
  rw[aH h.1.1,aH h.1.2,aH h.2.1,aH h.2.2]
 ·rw[bR,bR,bR]at h
  rw[aH h.1.1,aH h.1.2,aH h.2.1,aH h.2.2]
 ·rw[aH h]
 ·cases h
theorem aBM{a b:C}(h:eqC a b=true):a=b:=by
 unfold eqC at h;split at h
 ·rw[KW h]
 ·rw[bR]at h
  rw[KW h.2,aH h.1]
 ·rw[aH h]
 ·cases h
theorem sN:∀ {a b:List C},aBL a b=true→a=b
 |[],[],_=>rfl
 |[],_::_,h=>by cases h
 |_::_,[],h=>by cases h
 |x::a,y::b,h=>by
  have e:aBL (x::a) (y::b)=(match eqC x y with|true=>aBL a b|false=>false):=rfl
  rw[e]at h;split at h
  ·rename_i q;rw[aBM q,sN h]
  ·cases h
theorem aBJ{a b:O}(h:eqO a b=true):a=b:=by
 unfold eqO at h;split at h
 ·rw[bR]at h;rw[aH h.1,sN h.2]
 ·rw[bR]at h;rw[aH h.1,sN h.2]
 ·rw[bR]at h;rw[aH h.1,sN h.2]
 ·cases h
theorem LC{h h':T O}{id:Nat}{B:List Nat}:IH h h' (id::B)=(match bE id 0 with
 |true=>IH h h' B
 |false=>match eqO (gO h id) (gO h' id) with
  |true=>IH h h' B
  |false=>id::IH h h' B):=rfl
theorem mU{h h':T O}:∀ {B:List Nat} {id:Nat},id∈IH h h' B→id∈B∧id≠0
 |[],id,hi=>by cases hi
 |x::B,id,hi=>by
  rw[LC]at hi;split at hi
  ·exact⟨cV _ (mU hi).1,(mU hi).2⟩
  ·rename_i hx
   split at hi
   ·exact⟨cV _ (mU hi).1,(mU hi).2⟩
   ·rcases dZ.1 hi with rfl|hi
    ·exact⟨dI,gG hx⟩
    ·exact⟨cV _ (mU hi).1,(mU hi).2⟩
theorem yG{h h':T O}:∀ {B:List Nat} {id:Nat},id∈B→id ∉ IH h h' B→id=0∨gO h id=gO h' id
 |[],id,hi,_=>by cases hi
 |x::B,id,hi,hn=>by
  rw[LC]at hn;split at hn
  ·rename_i hx
   rcases dZ.1 hi with rfl|hi
   ·exact .inl (aH hx)
   ·exact yG hi hn
  ·split at hn
   ·rename_i he
    rcases dZ.1 hi with rfl|hi
    ·exact .inr (aBJ he)
    ·exact yG hi hn
   ·rcases dZ.1 hi with rfl|hi
    ·exact absurd dI hn
    ·exact yG hi fun q=>hn (cV _ q)
section
variable {M:T Bool} (hk:∀id x,get false M id=true→β id=some x→β' id=some x)
include hk
theorem NP{x:F}{u:Value}(hp:inF M x=true)(h:FR β x u):FR β' x u:=by
 cases x with
 |ptr id off=>obtain⟨b,o,h1,h2⟩:=h;exact⟨b,o,hk _ _ hp h1,h2⟩
 |sl x id sz off len=>
  obtain⟨A,c,h1,h2,h3,h4⟩:=h;refine⟨A,c,h1,h2,h3,?_⟩
  rcases h4 with h4|⟨b,N,h5,h6,h7⟩
  ·exact .inl h4
  ·exact .inr ⟨b,N,hk _ _ hp h5,h6,h7⟩
 |mp id=>obtain⟨b,N,h1,h2⟩:=h;exact⟨b,N,hk _ _ hp h1,h2⟩
 |yld id=>cases hp
 |_=>exact h
theorem wK{x:C}{u:Value}(hp:VO M x=true)(h:CR β x u):CR β' x u:=by
 cases x with
 |f x=>exact NP hk hp h
 |fn g fs cs=>
  simp only[VO]at hp;rw[bR]at hp;obtain⟨us,vs,h1,h2,h3⟩:=h;exact⟨us,vs,h1,jY (fun _ _=>NP hk) (gN hp.1) h2,jY (fun _ _=>NP hk) (gN hp.2) h3⟩
 |ifc t x=>obtain⟨u',h1,h2⟩:=h;exact⟨u',h1,NP hk hp h2⟩
 |top=>trivial
theorem aEZ{x:W}{u:Value}(hp:inW M x=true)(h:WR β x u):WR β' x u:=by
 cases x with
 |c x=>exact wK hk hp h
 |a cs=>obtain⟨us,h1,h2⟩:=h;exact⟨us,h1,jY (fun _ _=>wK hk) (gN hp) h2⟩
theorem aO8{x:V}{u:Value}(hp:inV M x=true)(h:VR β x u):VR β' x u:=by
 cases x with
 |c x=>exact wK hk hp h
 |a cs=>obtain⟨us,h1,h2⟩:=h;exact⟨us,h1,jY (fun _ _=>wK hk) (gN hp) h2⟩
 |t vs=>obtain⟨us,h1,h2⟩:=h;exact⟨us,h1,jY (fun _ _=>aEZ hk) (gN hp) h2⟩
theorem SO{kd:IntKind}:∀ {es:List (Int×W)} {us:List MapEntry},(∀p∈es,inW M p.2=true)→All2 (fun(p:Int×W) (e:MapEntry)=>e.key=.int kd p.1∧WR β p.2 e.val) es us→All2 (fun(p:Int×W) (e:MapEntry)=>e.key=.int kd p.1∧WR β' p.2 e.val) es us
 |[],[],_,_=>trivial
 |[],_::_,_,h=>h.elim
 |_::_,[],_,h=>h.elim
 |p::es,u::us,hp,h=>⟨⟨h.1.1,aEZ hk (hp p dI) h.1.2⟩,SO (fun q hq=>hp q (cV _ hq)) h.2⟩
theorem aO9{x:O}{b N:Nat}(hp:inO M x=true)(h:OR β w x b N):OR β' w x b N:=by
 cases x with
 |blk x0 ty vs=>
  obtain⟨cs,h1,h2,h3,h4⟩:=h;refine⟨cs,h1,h2,h3,fun k c hc=>?_⟩;obtain⟨u,h5,h6⟩:=h4 k c hc;exact⟨u,h5,wK hk (gN hp c (cL hc)) h6⟩
 |rdb ty vs=>
  obtain⟨cs,fz,h1,h2,h3,h4⟩:=h;refine⟨cs,fz,h1,h2,h3,fun k c hc=>?_⟩;obtain⟨u,h5,h6⟩:=h4 k c hc;exact⟨u,h5,wK hk (gN hp c (cL hc)) h6⟩
 |glb o vs=>
  obtain⟨cs,ty,fz,h1,h0,h2,h3,h4⟩:=h;refine⟨cs,ty,fz,h1,h0,h2,h3,fun k c hc=>?_⟩;obtain⟨u,h5,h6⟩:=h4 k c hc;exact⟨u,h5,wK hk (gN hp c (cL hc)) h6⟩
 |map kd es=>
  obtain⟨es',cl,h1,h3⟩:=h;exact⟨es',cl,h1,SO hk (gN hp) h3⟩
 |sit l pos=>exact h
 |_=>cases hp
end
theorem aF0{M:T Bool}{x:O}(h:inO M x=true):x.live=true:=by cases x<;>first|rfl|cases h
end
def aRJ(P:Program)(f:FuncId)(args:List V)(h0:Nat→O)(n:Nat)(r:LR):Prop:=∀(β:Bt) (w:World) (vs:Array Value) (k:Nat) (h2:Nat→O),All2 (VR β) args vs.toList→HS β w h2→(∃N,β 0=some (0,N))→(∀id∈r.B,h2 id=h0 id)→(∀id,n≤id→id<r.n→β id=none) →
 CallsIn Fence.wide k P f vs w fun e w'=>∃u β',e=.returned u∧VR β' r.v u∧HS β' w' (fun id=>(if id∈r.wr then some (gO r.h id) else none).getD (h2 id))∧Gr β w β' w'∧∀id,¬(n≤id∧id<r.n)→β' id=β id
set_option maxHeartbeats 1000000 in
theorem NJ{P:Program}{G:mY}(hG:sT P G){cl:Cl}{args:List V}{h:T O}{n:Nat}{r:LR}(hr:NK G cl args h n=some r):∃f,cl=.fn f∧kJ P f∧n≤r.n∧gO r.h 0=gO h 0∧(gO r.h=fun id=>(if id∈r.wr then some (gO r.h id) else none).getD (gO h id))∧(r.wr=[]→r.n=n)∧aRJ P f args (gO h) n r:=by
 cases cl with
 |yl id=>cases hr
 |fn f=>
 simp only[NK]at hr
 generalize dfs h 100000 (0::GT aQP args) .e []=B at hr
 split at hr
 case h_2=>cases hr
 rename_i hok;split at hr
 case h_2=>cases hr
 rename_i q hq;obtain⟨v,h',n'⟩:=q;split at hr
 case h_2=>cases hr
 rename_i hn;cases hr
 have hn:n'<16777000:=aQ hn
 unfold okB at hok;rw[bR,bR]at hok;obtain⟨hz,hargs,hall⟩:=hok
 have hargs:=gN hargs
 have hB:∀id∈B,id<n∧id<16777000∧inO (mkT B) (gO h id)=true:=fun id hid=>by
  have:=gN hall id hid
  rw[bR,bR]at this;exact⟨aQ this.1,aQ this.2.1,this.2.2⟩
 have hsm:∀x∈B,x<16777000:=fun x hx=>(hB x hx).2.1
 have hM:∀id,get false (mkT B) id=true→id∈B:=fun id hid=>YG hsm hid
 obtain⟨z0,hnn,hc,hfn⟩:=hG _ _ _ _ _ _ _ hq
 have hbase:∀id,gO (qU h B .e) id=if id∈B then gO h id else .gone:=fun id=>GS hsm id
 have h0B:0∈B:=hM 0 hz
 have z0:gO h' 0=gO h 0:=by rw[z0,hbase,if_pos h0B]
 obtain⟨wr,hwr⟩:∃wr,wr=ap (IH h h' B) (TE (Nat.sub n' n) n):=⟨_,rfl⟩
 have hwm:∀id,id∈wr↔id∈IH h h' B∨(n≤id∧id<n'):=fun id=>by
  rw[hwr,jQ,List.mem_append,PA]
  have:n+Nat.sub n' n=n':=by show n+(n'-n)=n';omega
  rw[this]
 have hwsm:∀x∈wr,x<16777000:=fun x hx=>by
  rcases (hwm x).1 hx with q|q
  ·exact hsm x (mU q).1
  ·omega
 have hgo:∀id,gO (qU h' wr h) id=if id∈wr then gO h' id else gO h id:=fun id=>GS hwsm id
 show ∃f0,Cl.fn f=.fn f0∧kJ P f0∧n≤n'∧gO (qU h' (ap (IH h h' B) (TE (Nat.sub n' n) n)) h) 0=gO h 0∧_
 rw[←hwr];refine⟨f,rfl,hc,hnn,?_,?_,?_,?_⟩
 ·rw[hgo,if_neg]
  intro q
  rcases (hwm 0).1 q with q|q
  ·exact(mU q).2 rfl
  ·have:=(hB 0 h0B).1;omega
 ·funext id
  show gO (qU h' wr h) id=(if id∈wr then some (gO (qU h' wr h) id) else none).getD (gO h id)
  by_cases q:id∈wr
  ·rw[if_pos q];rfl
  ·rw[hgo,if_neg q,if_neg q];rfl
 ·intro q
  have q:wr=[]:=q
  show n'=n
  rcases cK n n' with q2|q2
  ·have:=(hwm n).2 (.inr ⟨aU _,q2⟩)
   rw[q]at this;cases this
  ·omega
 ·intro β w vs k h2 har hhs hgl h2B hfr
  have h2B:∀id∈B,h2 id=gO h id:=h2B
  have hfr:∀id,n≤id→id<n'→β id=none:=hfr
  obtain⟨N0,hN0⟩:=hgl
  obtain⟨βr,hβr⟩:∃βr:Bt,βr=fun i=>if i∈B then β i else none:=⟨_,rfl⟩
  have rin:∀i,i∈B→βr i=β i:=fun i hi=>by rw[hβr];exact if_pos hi
  have rout:∀i,i ∉ B→βr i=none:=fun i hi=>by rw[hβr];exact if_neg hi
  have rn:∀i x,βr i=some x→i∈B∧β i=some x:=fun i x hi=>by
   by_cases q:i∈B
   ·exact⟨q,(rin i q).symm.trans hi⟩
   ·rw[rout i q]at hi;cases hi
  have hkr:∀id x,get false (mkT B) id=true→β id=some x→βr id=some x:=fun id x hid hx=>by rw[rin id (hM id hid)];exact hx
  have hlive:∀id∈B,(h2 id).live=true:=fun id hid=>by rw[h2B id hid];exact aF0 (hB id hid).2.2
  have hsr:HS βr w (gO (qU h B .e)):=by
   refine⟨?_,?_,?_⟩
   ·intro i j b o1 o2 hi hj _ _
    obtain⟨i1,i2⟩:=rn i _ hi;obtain⟨j1,j2⟩:=rn j _ hj;exact hhs.inj i j b o1 o2 i2 j2 (hlive i i1) (hlive j j1)
   ·intro i b N hi;exact hhs.lt i b N (rn i _ hi).2
   ·intro i b N hi
    obtain⟨i1,i2⟩:=rn i _ hi;rw[hbase,if_pos i1]
    have:=hhs.obj i b N i2
    rw[h2B i i1]at this;exact aO9 hkr (hB i i1).2.2 this
  have hpre:Pre βr w args vs (gO (qU h B .e)) n:=⟨jY (fun _ _=>aO8 hkr) hargs har,hsr,fun i hi=>rout i fun q=>by have:=(hB i q).1;omega,⟨N0,by rw[rin 0 h0B];exact hN0⟩⟩
  refine CallsIn.mono (hfn βr w vs k hpre) ?_;rintro e w' ⟨u,β',rfl,q1,q2,q3,q4⟩
  obtain⟨β2,hβ2⟩:∃β2:Bt,β2=fun i=>if n≤i∧i<n' then β' i else β i:=⟨_,rfl⟩
  have s1:∀i,n≤i→i<n'→β2 i=β' i:=fun i a b=>by rw[hβ2];exact if_pos ⟨a,b⟩
  have s2:∀i,¬(n≤i∧i<n')→β2 i=β i:=fun i a=>by rw[hβ2];exact if_neg a
  have hB2:∀i∈B,β2 i=β' i:=fun i hi=>by
   rw[s2 i (by have:=(hB i hi).1;omega),q3.nb i (hB i hi).1,rin i hi]
  have m1:Mo β' β2:=fun i x hi=>by
   by_cases a:n≤i∧i<n'
   ·rw[s1 i a.1 a.2];exact hi
   ·rw[s2 i a]
    rcases cK i n with b|b
    ·rw[q3.nb i b]at hi;exact(rn i x hi).2
    ·rw[q4 i (by omega)]at hi;cases hi
  have m2:Mo β β2:=fun i x hi=>by
   by_cases a:n≤i∧i<n'
   ·rw[hfr i a.1 a.2]at hi;cases hi
   ·rw[s2 i a];exact hi
  have part:∀i x,β2 i=some x→(β' i=some x∧(if i∈wr then gO h' i else h2 i)=gO h' i∧(i∈B∨(n≤i∧i<n')))∨(β i=some x∧i ∉ B∧(if i∈wr then gO h' i else h2 i)=h2 i):=fun i x hi=>by
   by_cases a:n≤i∧i<n'
   ·rw[s1 i a.1 a.2]at hi
    exact .inl ⟨hi,if_pos ((hwm i).2 (.inr a)),.inr a⟩
   ·by_cases b:i∈B
    ·rw[hB2 i b]at hi
     refine .inl ⟨hi,?_,.inl b⟩
     by_cases c:i∈wr
     ·rw[if_pos c]
     ·rw[if_neg c,h2B i b]
      rcases yG b (fun q=>c ((hwm i).2 (.inl q))) with d|d
      ·rw[d];exact z0.symm
      ·exact d
    ·rw[s2 i a]at hi
     refine .inr ⟨hi,b,if_neg fun q=>?_⟩
     rcases (hwm i).1 q with q|q
     ·exact b (mU q).1
     ·exact a q
  have hmer:(fun id=>(if id∈wr then some (gO (qU h' wr h) id) else none).getD (h2 id))=fun id=>if id∈wr then gO h' id else h2 id:=by
   funext id
   by_cases q:id∈wr
   ·rw[if_pos q,if_pos q,hgo,if_pos q];rfl
   ·rw[if_neg q,if_neg q];rfl
  have cross:∀i j b o1 o2,β' i=some (b,o1)→(i∈B∨(n≤i∧i<n'))→β j=some (b,o2)→j ∉ B→(h2 j).live=true→False:=by
   intro i j b o1 o2 hi hp hj hjB hl
   have fromB:∀i' o',i'∈B→β i'=some (b,o')→False:=fun i' o' hi' hb=>by
    have:=hhs.inj i' j b o' o2 hb hj (hlive i' hi') hl
    rw[this]at hi';exact hjB hi'
   rcases hp with hp|hp
   ·have:β i=some (b,o1):=by rw[←rin i hp,←q3.nb i (hB i hp).1];exact hi
    exact fromB i o1 hp this
   ·rcases q3.ex i b o1 hi with⟨j',o',hj'⟩|hge
    ·obtain⟨a1,a2⟩:=rn j' _ hj'
     exact fromB j' o' a1 a2
    ·have:=hhs.lt j b o2 hj;omega
  refine⟨u,β2,rfl,VR.keep m1 q1,?_,?_,s2⟩
  ·show HS β2 w' (fun id=>(if id∈wr then some (gO (qU h' wr h) id) else none).getD (h2 id))
   rw[hmer];refine⟨?_,?_,?_⟩
   ·intro i j b o1 o2 hi hj li lj
    rcases part i _ hi with⟨a1,a2,a3⟩|⟨a1,a2,a3⟩<;>rcases part j _ hj with⟨b1,b2,b3⟩|⟨b1,b2,b3⟩
    ·have li:(if i∈wr then gO h' i else h2 i).live=true:=li
     have lj:(if j∈wr then gO h' j else h2 j).live=true:=lj
     rw[a2]at li;rw[b2]at lj;exact q2.inj i j b o1 o2 a1 b1 li lj
    ·have lj:(if j∈wr then gO h' j else h2 j).live=true:=lj
     rw[b3]at lj;exact(cross i j b o1 o2 a1 a3 b1 b2 lj).elim
    ·have li:(if i∈wr then gO h' i else h2 i).live=true:=li
     rw[a3]at li;exact(cross j i b o2 o1 b1 b3 a1 a2 li).elim
    ·have li:(if i∈wr then gO h' i else h2 i).live=true:=li
     have lj:(if j∈wr then gO h' j else h2 j).live=true:=lj
     rw[a3]at li;rw[b3]at lj;exact hhs.inj i j b o1 o2 a1 b1 li lj
   ·intro i b N hi
    rcases part i _ hi with⟨a1,_,_⟩|⟨a1,_,_⟩
    ·exact q2.lt i b N a1
    ·exact cI (hhs.lt i b N a1) q3.size
   ·intro i b N hi
    show OR β2 w' (if i∈wr then gO h' i else h2 i) b N
    rcases part i _ hi with⟨a1,a2,_⟩|⟨a1,a2,a3⟩
    ·rw[a2];exact OR.keep m1 rfl (q2.obj i b N a1)
    ·rw[a3]
     cases hl:(h2 i).live with
     |false=>cases hq2:h2 i<;>rw[hq2]at hl<;>first|exact trivial|cases hl
     |true=>
      refine OR.keep m2 (q3.fr b (hhs.lt i b N a1) fun i' o' hi'=>?_) (hhs.obj i b N a1);obtain⟨c1,c2⟩:=rn i' _ hi'
      have:=hhs.inj i' i b o' N c2 a1 (hlive i' c1) hl
      rw[this]at c1;exact a2 c1
  ·refine⟨q3.os,q3.tape,q3.output,q3.size,fun b hb hno=>q3.fr b hb fun i o hi=>hno i o (rn i _ hi).2,fun i b o hi=>?_,m2⟩
   rcases part i _ hi with⟨a1,_,_⟩|⟨a1,_,_⟩
   ·rcases q3.ex i b o a1 with⟨j,o',hj⟩|hge
    ·exact .inl ⟨j,o',(rn j _ hj).2⟩
    ·exact .inr hge
   ·exact .inl ⟨i,o,a1⟩
open Go.AE (All2 gZ)
section
variable {P:Program} {β:Bt} {w:World} {st:St} {a:Act} {o:Oper} {ops:Array Oper}
theorem XA{t:T V}{g:Option (Nat×Bool)}{b:Bool}(hs:eC β st a w)(hg:mC ops o.guard=some g)(hw:wZ t g=some b)(hj:∀j q,g=some (j,q)→st.t j=gV t j):eD o (yielded ops a.tmps)=b:=by
 cases hgo:o.guard with
 |none=>
  rw[hgo]at hg;cases hg;cases hw;unfold eD;rw[hgo]
 |some q=>
  obtain⟨j,want⟩:=q;rw[hgo]at hg;simp only[mC,aM]at hg;obtain⟨d,hd,rfl⟩:=hg
  have hj:=hj d want rfl
  simp only[wZ]at hw;split at hw
  ·rename_i x hx
   have hb:=IX hs (hj.trans hx)
   have:=AE.wanted_bool hgo hd hb
   rw[this];cases want<;>cases x<;>cases hw<;>rfl
  ·rename_i hx
   cases hw;exact AE.wanted_undef hgo hd (CY hs (hj.trans hx))
  ·cases hw
theorem XT(hs:eC β st a w){nid:Nat}(hid:β nid=none){op:CF}(hc:gY P o.op=some op){v:V}{e:pZ}(h:lI st.t st.h nid op=some (v,e)){r:Option Nat}{k:Nat}{next:Act→World→Prop}{Q:Exit→Act→World→Prop}
  (hn:∀u w' β',VR β' v u→HS β' w' (e.mem nid st.h)→Gr β w β' w'→(∀i,(i≠nid∨e.isNw=false)→β' i=β i)→next (a.put o.dst u) w'):o.wpIn (Fw r) k P a w next Q:=by
 unfold Oper.wpIn;refine⟨fun _ _=>trivial,?_⟩;rw[Oper.semAt_eq _ _ _ (uT hc)];obtain⟨u,w',β',hr,q1,q2,q3,q4⟩:=JK hs hid hc h
 rcases hr with hr|⟨hr,rfl⟩
 ·rw[hr];exact hn u w' β' q1 q2 q3 q4
 ·rw[hr];exact hn undef w' β' q1 q2 q3 q4
theorem aG5(hs:eC β st a w){op:CF}(hc:gY P o.op=some op){f:FuncId}{args:List V}(h:pY P st.t op=some (.fn f,args))(hcal:kJ P f){r:Option Nat}{k:Nat}{next:Act→World→Prop}{Q:Exit→Act→World→Prop}
  (hn:∀vs:Array Value,All2 (VR β) args vs.toList→CallsIn Fence.wide (k-1) P f vs w fun e w'=>∃u,e=.returned u∧next (a.put o.dst u) w'):o.wpIn (Fw r) k P a w next Q:=by
 unfold Oper.wpIn;refine⟨fun _ _=>trivial,?_⟩;rw[Oper.semAt_eq _ _ _ (uT hc)]
 have hcr:=GU hs hc h fun f' hf=>by cases hf;exact hcal
 rcases hcr with⟨f',vs,e1,hr,ha⟩|⟨id,l,N,vs,e1,_⟩
 ·cases e1
  rw[hr,Oper.uponIn_enter];refine⟨fun q=>by simp[Fw,Fence.wide]at q,?_⟩
  show CallsIn Fence.wide (k-1) P f vs w _
  refine CallsIn.mono (hn vs ha) ?_;rintro e w' ⟨u,rfl,q⟩;exact q
 ·cases e1
theorem aM2{n id:Nat}{e:pZ}(h:(e.upd n id).isSome=true):id∈wrE n e:=by
 cases e with
 |no=>cases h
 |wr id0 x=>
  simp only[pZ.upd]at h;split at h
  ·rename_i q;simp[wrE,q]
  ·cases h
 |nw x=>
  simp only[pZ.upd]at h;split at h
  ·rename_i q;simp[wrE,q]
  ·cases h
 |ap id0 x=>
  simp only[pZ.upd]at h;split at h
  ·rename_i q;simp[wrE,q]
  ·split at h
   ·rename_i q;simp[wrE,q]
   ·cases h
structure StD (P:Program) (ops:Array Oper) (m i:Nat) (o:Oper) (sls:List Nat) (s s':TS) (re:Re) (v:V) (up:Nat→Option O):Prop where
 t:gV s'.t=fun j=>if o.dst=some j then v else gV s.t j
 h:gO s'.h=fun id=>(up id).getD (gO s.h id)
 d:s'.d=s.d
 n:s.n≤s'.n
 z:gO s'.h 0=gO s.h 0
 dl:∀d,o.dst=some d→d<m
 wr:∀id,(up id).isSome=true→sS re.wr id
 nn:re.wr=some []→s'.n=s.n
 wp:∀(t:Nat→V) (h:Nat→O) (nE:Nat) (ds:List D) (a:Act) (w:World) (β:Bt) (K:Act→World→Prop) (Q:Exit→Act→World→Prop) (r:Option Nat) (k:Nat),s'.n≤nE→eC β ⟨t,h,nE,m,ds⟩ a w →
  (∀k,qA k sls=true→t k=gV s.t k)→(∀id,sS re.acc id→h id=gO s.h id)→(∀id,s.n≤id→id<s'.n→β id=none)→(re.wr=none→∀id,s.n≤id→β id=none) →
  (∀u w' β',VR β' v u→HS β' w' (fun id=>(up id).getD (h id))→Gr β w β' w'→(∀id,¬(s.n≤id∧id<s'.n)→β' id=β id)→K (a.put o.dst u) w')→wpOpIn (Fw r) k P ops Q i K a w
theorem aOF{g:Option (Nat×Bool)}{op:Option CF}{dst:Option Nat}{df:Option (X×List X)}{es:List Nat}{s:Nat}:s∈(EI.mk dst op df g es).sls↔(∃q,g=some (s,q))∨∃x,op=some x∧s∈x.sls:=by
 unfold EI.sls;rw[jQ,List.mem_append];refine or_congr ?_ ?_
 ·cases g with
  |none=>simp
  |some q=>obtain⟨j,b⟩:=q;simp[eq_comm]
 ·cases op<;>simp
set_option maxHeartbeats 1000000 in
theorem OW{G:mY}(hG:sT P G){i:Nat}{ei:EI}(ho:ops[i]?=some o)(hc:lE P ops o=some ei){m:Nat}{s s':TS}{re:Re}{loc:Bool}(h:XC P G loc m ei s=some (s',re)):∃v up,StD P ops m i o ei.sls s s' re v up:=by
 obtain⟨g,hg,rfl⟩:=kW hc;unfold XC at h;split at h
 ·rename_i hw hdf
  split at h
  case h_2=>cases h
  rename_i op hop
  have want:∀ {t:Nat→V} {h:Nat→O} {nE:Nat} {ds:List D} {a:Act} {w:World} {β:Bt},eC β ⟨t,h,nE,m,ds⟩ a w→(∀k,qA k (EI.sls ⟨o.dst,gY P o.op,aBP o.op,g,KZ o⟩)=true→t k=gV s.t k)→eD o (yielded ops a.tmps)=true:=fun hs hl=>
   XA hs hg hw fun j q e=>hl j (oI.2 (aOF.2 (.inl ⟨q,e⟩)))
  have osl:∀ {t:Nat→V},(∀k,qA k (EI.sls ⟨o.dst,gY P o.op,aBP o.op,g,KZ o⟩)=true→t k=gV s.t k)→∀k∈op.sls,t k=gV s.t k:=fun hl k hk=>hl k (oI.2 (aOF.2 (.inr ⟨op,hop,hk⟩)))
  split at h
  ·split at h
   case h_2=>cases h
   rename_i ca hca;split at h
   ·
     rename_i v hpr;split at h
     case h_2=>cases h
     rename_i t' hp;cases h;obtain⟨p1,p2⟩:=pK hp;refine⟨v,fun _=>none,p2,rfl,rfl,aU _,rfl,p1,fun id q=>(by cases q),fun _=>rfl,?_⟩;intro t h nE ds a w β K Q r k hle hs ht hh hn _ hK
     have hok:=(vP hG hpr).2 h nE (hh 0 (gR.2 rfl))
     refine qC ho (want hs ht) (OE (cl:=ca.1) (args:=ca.2) hs hop ?_ hs.fr hok fun u w' β' q1 q2 q3 q4=>?_)
     ·show pY P t op=_
      rw[GV (osl ht)];exact hca
     ·refine hK u w' β' q1 q2 q3.toGr fun id _=>?_
      by_cases e:id<nE
      ·exact q3.nb id e
      ·rw[q4 id (by omega)];exact(hs.fr id (by show nE≤id;omega)).symm
   ·split at h
    ·
      rename_i r hr;split at h
      case h_2=>cases h
      rename_i t' hp;cases h
      have hr:NK G ca.1 ca.2 s.h s.n=some r:=by
       cases loc with
       |true=>exact hr
       |false=>cases hr
      obtain⟨f,ecl,hcal,hn,e0,eh,enn,hloc⟩:=NJ hG hr;obtain⟨p1,p2⟩:=pK hp;refine⟨r.v,fun id=>if id∈r.wr then some (gO r.h id) else none,p2,eh,rfl,hn,e0,p1,fun id q=>?_,fun q=>enn (by injection q),?_⟩
      ·show id∈r.wr
       by_cases q2:id∈r.wr
       ·exact q2
       ·rw[if_neg q2]at q;cases q
      ·intro t h nE ds a w β K Q r0 k hle hs ht hh hnn _ hK
       refine qC ho (want hs ht) (aG5 (f:=f) (args:=ca.2) hs hop ?_ hcal fun vs hvs=>?_)
       ·show pY P t op=_
        rw[GV (osl ht),hca,←ecl]
       ·refine CallsIn.mono (hloc β w vs (k-1) h hvs hs.hs hs.gl hh hnn) ?_
        rintro e w' ⟨u,β',rfl,q1,q2,q3,q4⟩;exact⟨u,rfl,hK u w' β' q1 q2 q3 q4⟩
    split at h
    case h_2=>cases h
    rename_i q hq;split at h
    case h_2=>cases h
    rename_i t' hp;cases h;obtain⟨v,h',n'⟩:=q;obtain⟨e0,hn,hok⟩:=hG _ _ _ _ _ _ _ hq;obtain⟨p1,p2⟩:=pK hp;refine⟨v,fun id=>some (gO h' id),p2,rfl,rfl,hn,e0,p1,fun id q=>trivial,fun q=>(by cases q),?_⟩;intro t h nE ds a w β K Q r k hle hs ht hh _ hn2 hK
    have eh:h=gO s.h:=funext fun id=>hh id trivial
    subst eh;refine qC ho (want hs ht) (OE (cl:=ca.1) (args:=ca.2) hs hop ?_ (hn2 rfl) hok fun u w' β' q1 q2 q3 q4=>?_)
    ·show pY P t op=_
     rw[GV (osl ht)];exact hca
    ·refine hK u w' β' q1 q2 q3.toGr fun id hid=>?_
     by_cases e:id<s.n
     ·exact q3.nb id e
     ·have:n'≤id:=by
        rcases cK id n' with q|q
        ·exact absurd ⟨by omega,q⟩ hid
        ·exact q
      rw[q4 id this];exact(hn2 rfl id (by omega)).symm
  ·split at h
   case h_2=>cases h
   rename_i q hq;obtain⟨v,e⟩:=q;split at h
   case h_2=>cases h
   rename_i hn he;obtain⟨h',n'⟩:=hn;split at h
   case h_2=>cases h
   rename_i t' hp;cases h;obtain⟨e1,e2,e3⟩:=KX he;obtain⟨p1,p2⟩:=pK hp
   have hle:s.n≤n':=by rw[e3];split<;>omega
   refine⟨v,e.upd s.n,p2,e1,rfl,hle,e2,p1,fun id q=>aM2 q,fun q=>?_,?_⟩
   ·have q:wrE s.n e=[]:=by injection q
    show n'=s.n
    rw[e3]
    cases e<;>first|rfl|cases q
   ·intro t h nE ds a w β K Q r k hle2 hs ht hh hn _ hK
    have hle2:n'≤nE:=hle2
    have hop2:lI t h s.n op=some (v,e):=by
     rw[aI2 (t0:=gV s.t) (h0:=gO s.h) (osl ht) hh];exact hq
    cases hnw:e.isNw with
    |true=>
     rw[hnw,if_pos rfl]at e3;refine qC ho (want hs ht) (XT hs (nid:=s.n) (hn s.n (aU _) (by show s.n<n';omega)) hop hop2 fun u w' β' q1 q2 q3 q4=>?_)
     exact hK u w' β' q1 q2 q3 fun id hid=>q4 id (.inl fun q=>hid ⟨by omega,by show id<n';omega⟩)
    |false=>
     obtain⟨r1,r2⟩:=aI1 hop2 hnw nE;refine qC ho (want hs ht) (XT hs (nid:=nE) (hs.fr nE (aU _)) hop r1 fun u w' β' q1 q2 q3 q4=>?_)
     refine hK u w' β' q1 ?_ q3 fun id hid=>q4 id (.inr hnw)
     unfold pZ.mem at q2;rw[r2]at q2;exact q2
 ·rename_i hw hdf
  split at h
  case h_2=>cases h
  rename_i t' hp;cases h;obtain⟨p1,p2⟩:=pK hp;refine⟨.t [],fun _=>none,p2,rfl,rfl,aU _,rfl,p1,fun id q=>(by cases q),fun _=>rfl,?_⟩;intro t h nE ds a w β K Q r k hle hs ht hh hn _ hK
  refine XH ho (XA hs hg hw fun j q e=>ht j (oI.2 (aOF.2 (.inl ⟨q,e⟩)))) ?_
  exact hK undef w β xD hs.hs (Gr.refl _ _) fun _ _=>rfl
 ·cases h
theorem aAB{f:EI→TS→Option (TS×Re)}{ei:EI}{l:List EI}{ts:TS}:aD6 f (ei::l) ts=(match f ei ts with
 |some s=>match aD6 f l s.1 with
  |some r=>some (r.1,s.2::r.2)
  |none=>none
 |none=>none):=rfl
theorem PG{f:EI→TS→Option (TS×Re)}:∀ {l:List EI} {ts ts':TS} {rs:List Re},aD6 f l ts=some (ts',rs)→∃S:Nat→TS,S 0=ts∧S l.length=ts'∧rs.length=l.length∧∀(i:Nat) ei,l[i]?=some ei→∃re,rs[i]?=some re∧f ei (S i)=some (S (i+1),re)
 |[],ts,ts',rs,h=>by
  cases h;exact⟨fun _=>ts,rfl,rfl,rfl,fun i ei h=>by simp at h⟩
 |e0::l,ts,ts',rs,h=>by
  rw[aAB]at h;split at h
  case h_2=>cases h
  rename_i s hs;split at h
  case h_2=>cases h
  rename_i q hq;cases h;obtain⟨S,h1,h2,h3,h4⟩:=PG (ts':=q.1) (rs:=q.2) hq;refine⟨fun i=>match i with|0=>ts|i+1=>S i,rfl,h2,by simp[h3],fun i ei hi=>?_⟩;cases i with
  |zero=>
   simp at hi;subst hi;exact⟨s.2,rfl,by show f e0 ts=some (S 0,s.2);rw[h1,hs]⟩
  |succ i=>exact h4 i ei (by simpa using hi)
theorem NV{α:Type}{U:Nat→Nat→Option α}{x0:Nat→α}{i k:Nat}:∀ {n:Nat},i≤n→pR U x0 (fun j=>decide (j<i)) n k=pR U x0 (fun _=>true) i k
 |0,h=>by
  have:i=0:=by omega
  subst this;rfl
 |n+1,h=>by
  by_cases e:i=n+1
  ·subst e
   exact nO fun j hj _=>by simp[hj]
  ·show (if decide (n<i)=true then _ else pR U x0 (fun j=>decide (j<i)) n k)=_
   rw[if_neg (by simp;omega)];exact NV (by omega)
theorem NU{α:Type}{U:Nat→Nat→Option α}{x0:Nat→α}{p:Nat→Bool}{k:Nat}:∀ {n:Nat},(∀j,j<n→p j=false)→pR U x0 p n k=x0 k
 |0,_=>rfl
 |n+1,h=>by
  show (if p n=true then _ else pR U x0 p n k)=_
  rw[h n (by omega),if_neg (by decide)]
  exact NU fun j hj=>h j (by omega)
theorem eC.heap{w':World}(hs:eC β st a w)(hh:w'.heap=w.heap):eC β st a w':=
 ⟨hs.df,hs.sz,hs.tm,⟨hs.hs.inj,fun i b N hi=>by rw[hh];exact hs.hs.lt i b N hi,fun i b N hi=>OR.keep (fun _ _ q=>q) (by rw[hh]) (hs.hs.obj i b N hi)⟩,hs.fr,hs.gl⟩
theorem KY{e:Nat}:e∈KZ o↔∃x∈o.after,Region.binds .any x=true∧x.on=e:=by
 unfold KZ;simp only[List.mem_map,List.mem_filter,Array.mem_toList_iff];constructor
 ·rintro⟨x,⟨h1,h2⟩,h3⟩;exact⟨x,h1,h2,h3⟩
 ·rintro⟨x,h1,h2,h3⟩;exact⟨x,⟨h1,h2⟩,h3⟩
set_option maxHeartbeats 1000000 in
theorem aD1{G:mY}(hG:sT P G)(hm:P.follows .mixedOrders=true){m:Nat}{l:List EI}{ts ts':TS}{rs:List Re}{id:Nat}(hl:fZ P ops ops.toList=some l)(hok:okS l=true){loc:Bool}(h:aD6 (XC P G loc m) l ts=some (ts',rs))(hq:aDA rs=true∨AQ aEY rs (HI l) []=true) :
  (gO ts'.h 0=gO ts.h 0∧ts.n≤ts'.n)∧∀(β:Bt) (a:Act) (w:World) (r:Option Nat) (k:Nat) (Q:Exit→Act→World→Prop),eC β (ts.st m) a w→(∀a' w' β',eC β' (ts'.st m) a' w'→Gn ts.n β w β' w'→Q .normal a' w')→(Code.region id ops true).wpIn (Fw r) k P Q a w:=by
 obtain⟨hlen,hget⟩:=iM hl
 have hlen:l.length=ops.size:=by simpa using hlen
 have hgo:∀i ei,l[i]?=some ei→∃o,ops[i]?=some o∧lE P ops o=some ei:=fun i ei hi=>by
  have hil:i<l.length:=(aV.1 hi).1
  have his:i<ops.size:=by omega
  obtain⟨ei',q1,q2⟩:=hget i ops[i] (by simp[his]);rw[hi]at q1;cases q1;exact⟨ops[i],Array.getElem?_eq_getElem his,q2⟩
 unfold okS at hok;rw[bR]at hok;obtain⟨hback,hpair⟩:=hok
 have hback:=BC hback
 obtain⟨S,hS0,hSN,hrl,hstep⟩:=PG h
 have hex:∀i,∃x:Rc,∀ei,l[i]?=some ei→∃o re,ops[i]?=some o∧lE P ops o=some ei∧rs[i]?=some re∧StD P ops m i o ei.sls (S i) (S (i+1)) re x.v x.up∧x.dst=o.dst∧x.rs=(fun k=>qA k ei.sls)∧x.acc=sS re.acc∧x.nw=fun id=>(S i).n≤id∧id<(S (i+1)).n:=by
  intro i;cases hi:l[i]? with
  |none=>exact⟨⟨none,fun _=>false,.t [],fun _=>none,fun _=>False,fun _=>False⟩,fun ei q=>by cases q⟩
  |some ei=>
   obtain⟨o,ho,hc⟩:=hgo i ei hi;obtain⟨re,hr,hf⟩:=hstep i ei hi;obtain⟨v,up,hst⟩:=OW hG ho hc hf;exact⟨⟨o.dst,fun k=>qA k ei.sls,v,up,sS re.acc,fun id=>(S i).n≤id∧id<(S (i+1)).n⟩,fun ei' q=>by cases q;exact⟨o,re,ho,hc,hr,hst,rfl,rfl,rfl,rfl⟩⟩
 obtain⟨rc,hrc⟩:=Classical.axiomOfChoice hex
 have hat:∀i,i<l.length→∃ei o re,l[i]?=some ei∧ops[i]?=some o∧lE P ops o=some ei∧rs[i]?=some re∧StD P ops m i o ei.sls (S i) (S (i+1)) re (rc i).v (rc i).up∧(rc i).dst=o.dst∧(rc i).rs=(fun k=>qA k ei.sls)∧(rc i).acc=sS re.acc∧(rc i).nw=fun id=>(S i).n≤id∧id<(S (i+1)).n:=fun i hi=>by
  obtain⟨o,re,h1⟩:=hrc i l[i] (by simp[hi]);exact⟨l[i],o,re,by simp[hi],h1⟩
 have hmono:∀i j,i≤j→j≤l.length→(S i).n≤(S j).n:=by
  intro i j hij;induction j with
  |zero=>intro _;have:i=0:=by omega
         subst this;exact aU _
  |succ j ih=>
   intro hj
   by_cases e:i=j+1
   ·subst e;exact aU _
   ·obtain⟨ei,o,re,_,_,_,_,hst,_⟩:=hat j (by omega)
    exact fX (ih (by omega) (by omega)) hst.n
 have hz:∀j,j≤l.length→gO (S j).h 0=gO (S 0).h 0:=by
  intro j;induction j with
  |zero=>intro _;rfl
  |succ j ih=>
   intro hj;obtain⟨ei,o,re,_,_,_,_,hst,_⟩:=hat j (by omega);exact hst.z.trans (ih (by omega))
 have hd:∀j,j≤l.length→(S j).d=(S 0).d:=by
  intro j;induction j with
  |zero=>intro _;rfl
  |succ j ih=>
   intro hj;obtain⟨ei,o,re,_,_,_,_,hst,_⟩:=hat j (by omega);exact hst.d.trans (ih (by omega))
 have ht:∀j,j≤l.length→∀k,pR (fun i=>(rc i).us) (gV (S 0).t) (fun _=>true) j k=gV (S j).t k:=by
  intro j;induction j with
  |zero=>intro _ k;rfl
  |succ j ih=>
   intro hj k;obtain⟨ei,o,re,_,_,_,_,hst,hdst,_⟩:=hat j (by omega)
   show ((rc j).us k).getD (pR (fun i=>(rc i).us) (gV (S 0).t) (fun _=>true) j k)=_
   rw[ih (by omega),hst.t];unfold Rc.us;rw[hdst]
   by_cases e:o.dst=some k
   ·show _=if o.dst=some k then (rc j).v else gV (S j).t k
    rw[if_pos e,if_pos e];rfl
   ·show _=if o.dst=some k then (rc j).v else gV (S j).t k
    rw[if_neg e,if_neg e];rfl
 have hh:∀j,j≤l.length→∀k,pR (fun i=>(rc i).up) (gO (S 0).h) (fun _=>true) j k=gO (S j).h k:=by
  intro j;induction j with
  |zero=>intro _ k;rfl
  |succ j ih=>
   intro hj k;obtain⟨ei,o,re,_,_,_,_,hst,hdst,_⟩:=hat j (by omega)
   show ((rc j).up k).getD (pR (fun i=>(rc i).up) (gO (S 0).h) (fun _=>true) j k)=_
   rw[ih (by omega),hst.h]
 have hmem:∀i j (ri rj:Re),i<j→rs[i]?=some ri→rs[j]?=some rj→¬Anc l i j→(∀id,sS ri.wr id→¬sS rj.acc id∧¬sS rj.wr id)∧∀id,sS rj.wr id→¬sS ri.acc id:=by
  intro i j ri rj hij hi hj hna
  rcases hq with hq|hq
  ·have hno:∀(k:Nat) re,rs[k]?=some re→∀id,¬sS re.wr id:=by
     intro k re hk id
     have:=gN (f:=fun r:Re=>match r.wr with|some []=>true|_=>false) hq re (cL hk)
     split at this
     ·rename_i q;rw[q];intro q2;cases q2
     ·cases this
   exact⟨fun id q=>absurd q (hno i ri hi id),fun id q=>absurd q (hno j rj hj id)⟩
  ·have hjl:j<(HI l).length:=by
     rw[CD,AD]
     have:=(aV.1 hj).1
     simp;omega
   have:=tP hq i j ri rj (HI l)[j] (by simpa using hi) (by simpa using hij) hj (by simp[hjl]) (fun q=>hna ⟨_,by simp[hjl],q⟩)
   exact VN this
 have hROK:LK ops rc l.length (S 0).n (S l.length).n m (Anc l):=by
  refine⟨hlen.symm,?_,?_,?_,?_,?_,?_⟩
  ·intro i j o ho ha
   have hjl:j<l.length:=by have:=(bF.1 ho).1;omega
   obtain⟨ei,o',re,q1,q2,q3,_⟩:=hat j hjl;rw[ho]at q2;cases q2;obtain⟨e,he,hr⟩:=aGE q1 ha;obtain⟨g,_,rfl⟩:=kW q3
   have hlt:=hback j _ q1 e he
   obtain⟨x,x1,x2,rfl⟩:=KY.1 he;exact⟨x,x1,x2,by omega,hr.imp (fun q=>q) fun q=>q.2⟩
  ·intro i o ho e he hb
   have hil:i<l.length:=by have:=(bF.1 ho).1;omega
   obtain⟨ei,o',re,q1,q2,q3,_⟩:=hat i hil;rw[ho]at q2;cases q2;obtain⟨g,_,rfl⟩:=kW q3
   have:=hback i _ q1 e.on (KY.2 ⟨e,he,hb,rfl⟩)
   omega
  ·intro i j hij hj hna
   obtain⟨ei,oi,ri,i1,i2,i3,i4,i5,i6,i7,i8,i9⟩:=hat i (by omega);obtain⟨ej,oj,rj,j1,j2,j3,j4,j5,j6,j7,j8,j9⟩:=hat j hj
   have hjl:j<(HI l).length:=by rw[CD,AD];simp;omega
   have hS:=VM (tP hpair i j ei ej (HI l)[j] (by simpa using i1) (by simpa using hij) j1 (by simp[hjl]) (fun q=>hna ⟨_,by simp[hjl],q⟩))
   have ein:ei.dst=oi.dst:=by obtain⟨g,_,rfl⟩:=kW i3;rfl
   have ejn:ej.dst=oj.dst:=by obtain⟨g,_,rfl⟩:=kW j3;rfl
   have us:∀ {x:Rc} {k:Nat},(x.us k).isSome=true→x.dst=some k:=by
    intro x k hk;unfold Rc.us at hk;split at hk
    ·rename_i q;exact q
    ·cases hk
   have hM:=hmem i j ri rj hij i4 j4 hna
   refine⟨fun k hk=>?_,fun k hk=>?_,fun id hid=>?_,fun id hid=>?_⟩
   ·have:=hS.1 k (by rw[ein,←i6];exact us hk)
    refine⟨by rw[j7];exact this.1,?_⟩;cases hq2:((rc j).us k).isSome with
    |false=>rfl
    |true=>exact absurd (by rw[ejn,←j6];exact us hq2) this.2
   ·have:=hS.2 k (by rw[ejn,←j6];exact us hk)
    rw[i7];exact this
   ·have:=hM.1 id (i5.wr id hid)
    refine⟨by rw[j8];exact this.1,?_⟩;cases hq2:((rc j).up id).isSome with
    |false=>rfl
    |true=>exact absurd (j5.wr id hq2) this.2
   ·have:=hM.2 id (j5.wr id hid)
    rw[i8];exact this
  ·intro i j hi hj hij id h1 h2
   obtain⟨_,_,_,_,_,_,_,_,_,_,_,i9⟩:=hat i hi;obtain⟨_,_,_,_,_,_,_,_,_,_,_,j9⟩:=hat j hj;rw[i9]at h1;rw[j9]at h2
   rcases Nat.lt_or_gt_of_ne hij with q|q
   ·have:=hmono (i+1) j (by omega) (by omega);omega
   ·have:=hmono (j+1) i (by omega) (by omega);omega
  ·intro i hi id h1
   obtain⟨_,_,_,_,_,_,_,_,_,_,_,i9⟩:=hat i hi;rw[i9]at h1
   have q1:=hmono 0 i (by omega) (by omega)
   have q2:=hmono (i+1) l.length (by omega) (aU _)
   omega
  ·intro i hi d hd
   obtain⟨_,o,_,_,_,_,_,i5,i6,_⟩:=hat i hi;exact i5.dl d (by rw[←i6];exact hd)
 refine⟨⟨?_,?_⟩,?_⟩
 ·rw[←hSN,←hS0];exact hz _ (aU _)
 ·rw[←hSN,←hS0];exact hmono 0 _ (bH _) (aU _)
 ·intro β a w r k Q hs hQ
  have hs2:eC β ((S 0).st m) a { w with drawn:=w.drawn+1 }:=by rw[hS0];exact hs.heap rfl
  have hstp:∀i,i<l.length→aGG (Fw r) k P ops Q rc (gV (S 0).t) (gO (S 0).h) l.length (S l.length).n m (S 0).d (Anc l) i:=by
   intro i hi t h a w β hs ht1 hh1 hn K hK;obtain⟨ei,o,re,i1,i2,i3,i4,i5,i6,i7,i8,i9⟩:=hat i hi
   have hn0:∀id,(S i).n≤id→id<(S (i+1)).n→β id=none:=fun id q1 q2=>hn i (aU _) hi (.inl rfl) id (by rw[i9];exact⟨q1,q2⟩)
   refine i5.wp t h _ _ a w β K Q r k (hmono _ _ (by omega) (aU _)) hs ?_ ?_ hn0 ?_ ?_
   ·intro j hj
    have e1:pR (fun i=>(rc i).us) (gV (S 0).t) (fun j=>decide (j<i)) l.length j=gV (S i).t j:=(NV (by omega)).trans (ht i (by omega) j)
    exact(ht1 j (by rw[i7];exact hj)).trans e1
   ·intro id hid
    have e1:pR (fun i=>(rc i).up) (gO (S 0).h) (fun j=>decide (j<i)) l.length id=gO (S i).h id:=(NV (by omega)).trans (hh i (by omega) id)
    exact(hh1 id (by rw[i8];exact hid)).trans e1
   ·intro hwn id hid
    rcases cK id (S l.length).n with q|q
    ·
      have hfind:∀d,d≤l.length-i→id<(S (i+d)).n→β id=none:=by
       intro d;induction d with
       |zero=>intro _ q2;exfalso;have q2:id<(S i).n:=q2;omega
       |succ d ih=>
        intro hd q2
        rcases cK id (S (i+d)).n with q3|q3
        ·exact ih (by omega) q3
        ·obtain⟨ej,oj,rj,j1,j2,j3,j4,j5,j6,j7,j8,j9⟩:=hat (i+d) (by omega)
         by_cases ha:i+d=i∨Anc l i (i+d)
         ·exact hn (i+d) (by omega) (by omega) ha id (by rw[j9];exact⟨q3,q2⟩)
         ·exfalso
          have hne:i≠i+d:=fun e=>ha (.inl e.symm)
          have hM:=hmem i (i+d) re rj (by omega) i4 j4 fun q=>ha (.inr q)
          have hw0:rj.wr=some []:=by
           have hall:∀id,¬sS rj.wr id:=fun id=>(hM.1 id (by rw[hwn];trivial)).2
           cases hq3:rj.wr with
           |none=>rw[hq3]at hall;exact absurd trivial (hall 0)
           |some wl=>
            cases wl with
            |nil=>rfl
            |cons x xs=>rw[hq3]at hall;exact absurd (dI (a:=x) (l:=xs)) (hall x)
          have q4:=j5.nn hw0
          have q2:id<(S (i+d+1)).n:=q2
          omega
      exact hfind (l.length-i) (aU _) (by rw[show i+(l.length-i)=l.length by omega];exact q)
    ·exact hs.fr id q
   ·intro u w' β' q1 q2 q3 q4
    rw[←i6]
    exact hK u w' β' q1 q2 q3 fun id hid=>q4 id (by rw[i9]at hid;exact hid)
  refine wpIn_region_any hm ?_;rw[←hlen];refine TL (rc:=rc) (t0:=gV (S 0).t) (h0:=gO (S 0).h) (N:=l.length) (n0:=(S 0).n) (nE:=(S l.length).n) (m:=m) (ds:=(S 0).d) (anc:=Anc l) (β0:=β) (w0:={ w with drawn:=w.drawn+1 }) hROK hstp ?_ _ _ a _ β (AE.cnt_all (aU _)) ?_ ?_ (Gn.refl _ _ _) ?_
  ·intro a' w' β' hs' hg
   refine hQ a' w' β' ?_ ?_
   ·have e:SY rc (gV (S 0).t) (gO (S 0).h) (S l.length).n m (S 0).d l.length (fun _=>true)=(S l.length).st m:=by
      unfold SY TS.st;congr 1
      ·exact funext fun k=>ht _ (aU _) k
      ·exact funext fun k=>hh _ (aU _) k
      ·exact(hd _ (aU _)).symm
    rw[e,hSN]at hs';exact hs'
   ·rw[hS0]at hg
    exact⟨⟨hg.os,hg.tape,hg.output,hg.size,hg.fr,hg.ex,hg.bm⟩,hg.nb⟩
  ·refine⟨by simp[hlen],fun j oj hj hl2=>?_,fun t h1 h2=>?_⟩
   ·rw[getD_replicate_false]at hl2;cases hl2
   ·omega
  ·have e:SY rc (gV (S 0).t) (gO (S 0).h) (S l.length).n m (S 0).d l.length (fun j=>(fJ l.length false).getD j false)=⟨gV (S 0).t,gO (S 0).h,(S l.length).n,m,(S 0).d⟩:=by
     unfold SY;congr 1
     ·exact funext fun k=>NU fun j _=>getD_replicate_false _ _
     ·exact funext fun k=>NU fun j _=>getD_replicate_false _ _
   rw[e];exact⟨hs2.df,hs2.sz,hs2.tm,hs2.hs,fun i hi=>hs2.fr i (fX (hmono 0 _ (bH _) (aU _)) hi),hs2.gl⟩
  ·intro j hj hl2 id hid
   obtain⟨_,_,_,_,_,_,_,_,_,_,_,i9⟩:=hat j hj;rw[i9]at hid;exact hs2.fr id (fX (hmono 0 j (bH _) (by omega)) hid.1)
end
open Go.AE (All2 gZ)
def Ex.up:Ex→Exit
 |.normal=>.normal
 |.exit id=>.exit id
 |.ret=>.ret
section
variable {P:Program} {F:Fence} {n:Nat} {b:Frame} {a:Act} {k:List Item} {cs:List Frame} {w:World} {Q:Exit→Act→World→Prop}
theorem mE{c:Code}:step P (lone (b.atR a (.code (.scope c)::k)) cs w)=.next (lone (b.atR a (.code c::.inScope c::k)) cs w):=
 step_lone_go (by simp[stepG,stepG.exec,Frame.atR])
theorem HR{c:Code}:step P (lone (b.atR a (.inScope c::k)) cs w)=.next (lone (b.atR a k) cs w):=
 step_lone_go (by simp[stepG,stepG.exec,Frame.atR])
theorem vG{c:Code}(h:c.wpIn F n P (Exit.noGoto Q) a w):(Code.scope c).wpIn F n P Q a w:=by
 intro b k cs hro hb hr
 have h0:(lone (b.atR a (.code (.scope c)::k)) cs w).fenced P F:=fenced_calm hb hr rfl
 obtain⟨e,a₁,w₁,hq,harr⟩:=h b (.inScope c::k) cs hro hb hr;cases e with
 |normal=>exact⟨.normal,a₁,w₁,hq,.head h0 mE (StepsIn.trans harr (.one (fenced_calm hb hr rfl) HR))⟩
 |exit id=>
  have hx:exitTo id (.inScope c::k)=exitTo id k:=by simp[exitTo]
  exact⟨.exit id,a₁,w₁,hq,fun k' hk=>.head h0 mE (harr.1 k' (by rw[hx];exact hk)),
    fun hr' hk=>let ⟨k₁,h1,h2⟩:=harr.2 hr' (by rw[hx];exact hk);⟨k₁,h1,.head h0 mE h2⟩⟩
 |goto l=>exact hq.elim
 |ret=>exact⟨_,a₁,w₁,hq,.of_steps (.one h0 mE) harr⟩
 |panic ch=>exact⟨_,a₁,w₁,hq,.of_steps (.one h0 mE) harr⟩
 |outgrown=>exact⟨_,a₁,w₁,hq,.of_steps (.one h0 mE) harr⟩
end
section
variable {P:Program} {β:Bt} {w:World} {st:St} {a:Act} {o:Oper} {ops:Array Oper}
def mD(P:Program)(ρ:Option Nat)(m:Nat)(c:Code)(ts:TS)(e:Ex)(ts':TS):Prop:=(gO ts'.h 0=gO ts.h 0∧ts.n≤ts'.n) ∧
 ∀(β:Bt) (a:Act) (w:World) (r:Option Nat) (k:Nat) (Q:Exit→Act→World→Prop),yK β ρ r→eC β (ts.st m) a w→(∀a' w' β',eC β' (ts'.st m) a' w'→Gn ts.n β w β' w'→Q e.up a' w')→c.wpIn (Fw r) k P Q a w
def AF(P:Program)(ρ:Option Nat)(m:Nat)(c:Code)(ts:TS)(e:Ex)(ts':TS):Prop:=(gO ts'.h 0=gO ts.h 0∧ts.n≤ts'.n) ∧
 ∃j,∀(β:Bt) (a:Act) (w:World) (r:Option Nat) (k:Nat) (Q:Exit→Act→World→Prop),yK β ρ r→eC β (ts.st m) a w→(∀a' w' β',eC β' (ts'.st m) a' w'→Gn ts.n β w β' w'→Q e.up a' w')→Code.roundsIn (Fw r) k P c Q j a w
theorem BT{h:Nat→O}(hh:HS β w h){id b N:Nat}(hid:β id=some (b,N))(hl:(h id).live=true){x:O}{o:Obj}(hx:(w.putObj b o).heap[b]?=some o→OR β (w.putObj b o) x b N):HS β (w.putObj b o) (fu h id x)∧Gr β w β (w.putObj b o):=
 pP hh hid hl rfl rfl rfl (by simp) (fun j hj=>World.putObj_heap_other hj) (hx (World.putObj_heap_same (hh.lt id b N hid)))
theorem RZ{ρ r:Option Nat}{ts:TS}{m:Nat}(hr:yK β ρ r)(hs:eC β (ts.st m) a w){x:X}{ps:Array Tmp}{assign body:Code}{q:Nat×T O×Nat×List D}
  (hq:aHK ρ ts=some q) (h1:1≤ts.n) (hid:q.2.2.1<16777000) (fn:FuncId) :
  (gO (iK q.2.2.1 (.loop ⟨.ready,none,ts.t,m,ps.toList,assign,body,q.1⟩) q.2.1) 0=gO ts.h 0∧ts.n≤q.2.2.1) ∧
  ∃l mark w1 β',(Instr.enterLoop fn a.tmps ps assign body r).run P w=.ok (l,mark) w1∧HS β' w1 (gO (iK q.2.2.1 (.loop ⟨.ready,none,ts.t,m,ps.toList,assign,body,q.1⟩) q.2.1))∧Gn ts.n β w β' w1∧(∀i,q.2.2.1+1≤i→β' i=none)∧β' q.2.2.1=some (l,0)∧All2 (DR β') q.2.2.2 (mark++a.defers):=by
 cases ρ with
 |none=>
  have hr:r=none:=hr
  subst hr;cases hq
  have hid:ts.n+1<16777000:=hid
  have e1:gO (iK ts.n .dfr ts.h)=fu (gO ts.h) ts.n .dfr:=jU (by omega)
  have e2:gO (iK (ts.n+1) (.loop ⟨.ready,none,ts.t,m,ps.toList,assign,body,ts.n⟩) (iK ts.n .dfr ts.h))=fu (fu (gO ts.h) ts.n .dfr) (ts.n+1) (.loop ⟨.ready,none,ts.t,m,ps.toList,assign,body,ts.n⟩):=by
   rw[jU hid,e1]
  show (gO (iK (ts.n+1) _ (iK ts.n .dfr ts.h)) 0=_∧ts.n≤ts.n+1)∧_
  refine⟨⟨by rw[e2,cT _ (by omega),cT _ (by omega)],by omega⟩,?_⟩
  obtain⟨a1,a2⟩:=kT hs.hs (hs.fr ts.n (aU _)) (x:=.dfr) (o:=.deferred (some [])) (N:=0) fun w' h=>h
  have hn1:fu β ts.n (some (w.heap.size,0)) (ts.n+1)=none:=by rw[cT _ (by omega)];exact hs.fr _ (by show ts.n≤ts.n+1;omega)
  have hm:=sX (β:=β) (x:=(w.heap.size,0)) (hs.fr ts.n (aU _))
  obtain⟨b1,b2⟩:=kT a1 hn1 (x:=.loop ⟨.ready,none,ts.t,m,ps.toList,assign,body,ts.n⟩) (o:=.loop { state:=.ready,pending:=none,fn,tmps:=a.tmps,params:=ps,assign,body,defers:=w.heap.size }) (N:=0) fun w' h=>
   ⟨_,h,rfl,rfl,hs.sz,fun k=>VR.keep (sX hn1) (VR.keep hm (hs.tm k)),rfl,rfl,rfl,0,by rw[cT _ (by show ts.n≠ts.n+1;omega),eV]⟩
  have hsz:(w.alloc (.deferred (some []))).heap.size=w.heap.size+1:=World.size_alloc _ _
  rw[hsz]at b1 b2;refine⟨w.heap.size+1,_,_,_,run_enterLoop_outer fn a.tmps ps assign body,?_,⟨a2.trans b2,fun i hi=>?_⟩,fun i hi=>?_,eV _ _ _,?_⟩
  ·show HS _ _ (gO (iK (ts.n+1) _ (iK ts.n .dfr ts.h)))
   rw[e2];exact b1
  ·rw[cT _ (by show i≠ts.n+1;omega),cT _ (by omega)]
  ·have hi:ts.n+1+1≤i:=hi
   rw[cT _ (by show i≠ts.n+1;omega),cT _ (by omega)];exact hs.fr i (by show ts.n≤i;omega)
  ·refine⟨⟨w.heap.size,0,?_,rfl⟩,?_⟩
   ·rw[cT _ (by show ts.n≠ts.n+1;omega),eV]
   ·exact hs.df.mono fun _ _ q=>DR.keep (sX hn1) (DR.keep hm q)
 |some l0=>
  obtain⟨b,N,hb,rfl⟩:=hr;simp only[aHK]at hq;split at hq
  case h_2=>cases hq
  rename_i L hL;cases hq
  have hid:ts.n<16777000:=hid
  have e2:gO (iK ts.n (.loop ⟨.ready,none,ts.t,m,ps.toList,assign,body,L.dr⟩) ts.h)=fu (gO ts.h) ts.n (.loop ⟨.ready,none,ts.t,m,ps.toList,assign,body,L.dr⟩):=jU hid
  show (gO (iK ts.n _ ts.h) 0=_∧ts.n≤ts.n)∧_
  refine⟨⟨by rw[e2,cT _ (by omega)],aU _⟩,?_⟩
  have hob:=hs.hs.obj l0 b N hb
  have hL2:(ts.st m).h l0=.loop L:=hL
  rw[hL2]at hob;obtain⟨r0,g1,g2,g3,g4,g5,g6,g7,g8,N9,g9⟩:=hob
  have hn:=hs.fr ts.n (aU _)
  obtain⟨b1,b2⟩:=kT hs.hs hn (x:=.loop ⟨.ready,none,ts.t,m,ps.toList,assign,body,L.dr⟩) (o:=.loop { state:=.ready,pending:=none,fn,tmps:=a.tmps,params:=ps,assign,body,defers:=r0.defers }) (N:=0) fun w' h=>
   ⟨_,h,rfl,rfl,hs.sz,fun k=>VR.keep (sX hn) (hs.tm k),rfl,rfl,rfl,N9,sX hn _ _ g9⟩
  refine⟨w.heap.size,_,_,_,run_enterLoop_inner g1 fn a.tmps ps assign body,?_,⟨b2,fun i hi=>?_⟩,fun i hi=>?_,eV _ _ _,?_⟩
  ·show HS _ _ (gO (iK ts.n _ ts.h))
   rw[e2];exact b1
  ·rw[cT _ (by omega)]
  ·have hi:ts.n+1≤i:=hi
   rw[cT _ (by omega)];exact hs.fr i (by show ts.n≤i;omega)
  ·exact hs.df.mono fun _ _ q=>DR.keep (sX hn) q
theorem VX{t:T V}{x:X}{f:FuncId}{first cap:List F}(h:aOM t x=some (f,first,cap)):ev (gV t) x=.c (.fn (.func f) first cap):=by
 unfold aOM at h;split at h
 ·rename_i he;cases h;exact he
 ·cases h
theorem TG{G:mY}(hG:sT P G){ρ:Option Nat}{m:Nat}{g:Operand}{x:X}(hx:cX g=some x){ps:Array Tmp}{assign body:Code}{ts ts':TS}{e:Ex}(h:runR P G ρ m x ps.toList assign body ts=some (e,ts')):mD P ρ m (.rangeFunc g ps assign body) ts e ts':=by
 unfold runR at h;split at h
 case h_2=>cases h
 rename_i f first cap hf
 split at h
 case h_2=>cases h
 rename_i q dr h1 id d1 hq;split at h
 case h_2=>cases h
 rename_i hb;rw[bR]at hb
 have hb1:1≤ts.n:=aQ hb.1
 have hb2:id<16777000:=aQ hb.2
 split at h
 case h_2=>cases h
 rename_i v h2 n2 hgo;split at h
 case h_2=>cases h
 rename_i L hL;split at h
 ·cases h
 rename_i hbusy;split at h
 case h_2=>cases h
 rename_i e0 hj;cases h;obtain⟨z0,hn2,hc,hfn⟩:=hG _ _ _ _ _ _ _ hgo
 have hkeep:gO (iK id (.loop ⟨.ready,none,ts.t,m,ps.toList,assign,body,dr⟩) h1) 0=gO ts.h 0∧ts.n≤id:=by
  cases ρ with
  |none=>
   cases hq
   have hb2:ts.n+1<16777000:=hb2
   show gO (iK (ts.n+1) _ (iK ts.n .dfr ts.h)) 0=_∧ts.n≤ts.n+1
   refine⟨?_,by omega⟩;rw[jU hb2,cT _ (by omega),jU (by omega),cT _ (by omega)]
  |some l0=>
   simp only[aHK]at hq;split at hq
   case h_2=>cases hq
   cases hq;exact⟨by rw[jU hb2,cT _ (by omega)],aU _⟩
 have e4:gO (iK id (.loop { L with st:=.exhausted }) h2)=fu (gO h2) id (.loop { L with st:=.exhausted }):=jU hb2
 refine⟨⟨?_,?_⟩,?_⟩
 ·show gO (iK id (.loop { L with st:=.exhausted }) h2) 0=_
  rw[e4,cT _ (by omega),z0];exact hkeep.1
 ·show ts.n≤n2
  have:id+1≤n2:=hn2
  omega
 ·intro β a w r k Q hr hs hQ
  refine wpIn_rangeFunc fun fn _=>?_
  obtain⟨⟨_,_⟩,l,mark,w1,β1,c1,c2,c3,c4,c5,c6⟩:=RZ (P:=P) (x:=x) (ps:=ps) (assign:=assign) (body:=body) (q:=(dr,h1,id,d1)) hr hs hq hb1 hb2 fn
  have hv:=aR hs hx
  have hfo:ev (ts.st m).t x=.c (.fn (.func f) first cap):=VX hf
  rw[hfo]at hv;obtain⟨us,cs,hu,hfs,hcs⟩:=hv
  have hargs:All2 (VR β1) (ap (mp fV first) (.c (.f (.yld id))::mp fV cap)) ((us ++ #[Value.func (.yield l) #[] #[]])++cs).toList:=by
   rw[jQ,eN,eN,List.append_assoc];exact(nP (hfs.mono fun _ _=>FR.keep c3.bm)).append ⟨⟨l,0,c5,rfl⟩,nP (hcs.mono fun _ _=>FR.keep c3.bm)⟩
  have hgl:∃N,β1 0=some (0,N):=let ⟨N,hN⟩:=hs.gl;⟨N,c3.bm _ _ hN⟩
  have hcall:=hfn β1 w1 ((us ++ #[Value.func (.yield l) #[] #[]])++cs) (k-1) ⟨hargs,c2,c4,hgl⟩
  refine⟨l,mark,w1,{ target:=.fn (.func f) cs,args:=us ++ #[Value.func (.yield l) #[] #[]] },w1,f,(us ++ #[Value.func (.yield l) #[] #[]])++cs,w1,c1,?_,fun f' _=>aFF r f',?_,fun q=>by simp[Fw,Fence.wide]at q,?_⟩
  ·have e5:a.eval (.const (.func (.yield l) #[] #[]))=.func (.yield l) #[] #[]:=rfl
   simp only[resolve,rangeCall,hu,Deferred.ofValue];simp[e5]
  ·show (callFunc f ((us ++ #[Value.func (.yield l) #[] #[]])++cs)).run P w1=_
   exact hc.run _ _
  ·refine CallsIn.mono hcall ?_
   rintro e w3 ⟨u,β2,rfl,p1,p2,p3,p4⟩
   have hb3:β2 id=some (l,0):=(p3.nb id (by omega)).trans c5
   have hob:=p2.obj id l 0 hb3
   rw[hL]at hob;obtain⟨rr,g1,g2,g3,g4,g5,g6,g7,g8,N9,g9⟩:=hob
   have hend:=run_endLoop (P:=P) g1 (by rw[g2];exact hbusy)
   refine⟨rr.pending,_,hend,?_⟩
   obtain⟨s1,s2⟩:=BT p2 hb3 (by rw[hL];rfl) (x:=.loop { L with st:=.exhausted }) (o:=.loop { rr with state:=.exhausted }) fun hp=>⟨_,hp,rfl,g3,g4,g5,g6,g7,g8,N9,g9⟩
   have hfin:eC β2 (TS.st m ⟨ts.t,iK id (.loop { L with st:=.exhausted }) h2,n2,d1⟩) { a with defers:=mark++a.defers } (w3.putObj l (.loop { rr with state:=.exhausted })):=by
    have hmo:Mo β β2:=fun i y hy=>p3.bm _ _ (c3.bm _ _ hy)
    refine⟨c6.mono fun _ _ q=>DR.keep p3.bm q,hs.sz,fun k=>VR.keep hmo (hs.tm k),?_,p4,let ⟨N,hN⟩:=hs.gl;⟨N,hmo _ _ hN⟩⟩
    show HS _ _ (gO (iK id _ h2))
    rw[e4];exact s1
   have hgn:Gn ts.n β w β2 (w3.putObj l (.loop { rr with state:=.exhausted })):=c3.trans (p3.trans ⟨s2,fun _ _=>rfl⟩ (aU _)) (by omega)
   have hfinal:=hQ _ _ _ hfin hgn
   have key:∀(jump:Option Code) (W:World),jump=L.pend→Q e.up { a with defers:=mark++a.defers } W→(match jump with
     |none=>Q .normal { a with defers:=mark++a.defers } W
     |some c=>c.wpIn (Fw r) k P Q { a with defers:=mark++a.defers } W):=by
    intro jump W hjp hW;subst hjp;cases hp:L.pend with
    |none=>
     rw[hp]at hj;cases hj;exact hW
    |some c=>
     rw[hp]at hj;cases c with
     |ret=>cases hj;exact wpIn_ret hW
     |exit id=>cases hj;exact wpIn_exit hW
     |_=>cases hj
   exact key _ _ g3 hfinal
theorem mD.seq{ρ:Option Nat}{m:Nat}{c1 c2:Code}{ts s ts':TS}{e:Ex}(h1:mD P ρ m c1 ts .normal s)(h2:mD P ρ m c2 s e ts'):mD P ρ m (.seq c1 c2) ts e ts':=by
 obtain⟨⟨a1,a2⟩,a3⟩:=h1;obtain⟨⟨b1,b2⟩,b3⟩:=h2;refine⟨⟨b1.trans a1,fX a2 b2⟩,fun β a w r k Q hr hs hQ=>wpIn_seq (a3 β a w r k _ hr hs fun a' w' β' hs' hg=>?_)⟩
 exact b3 β' a' w' r k Q (hr.keep hg.bm) hs' fun a2' w2 β2 hs2 hg2=>hQ a2' w2 β2 hs2 (hg.trans hg2 a2)
theorem mD.exits{ρ:Option Nat}{m:Nat}{c1 c2:Code}{ts s:TS}{e:Ex}(h1:mD P ρ m c1 ts e s)(he:e≠.normal):mD P ρ m (.seq c1 c2) ts e s:=
 ⟨h1.1,fun β a w r k Q hr hs hQ=>wpIn_seq (h1.2 β a w r k _ hr hs fun a' w' β' hs' hg=>by cases e<;>first|exact absurd rfl he|exact hQ a' w' β' hs' hg)⟩
theorem aJ0{ρ:Option Nat}{m:Nat}{c:Code}{ts ts':TS}{e:Ex}(h:AF P ρ m c ts e ts'):mD P ρ m (.loop c) ts e ts':=
 let ⟨h1,j,h2⟩:=h
 ⟨h1,fun β a w r k Q hr hs hQ=>wpIn_loop_rounds j (h2 β a w r k Q hr hs hQ)⟩
theorem aAZ{ρ:Option Nat}{m:Nat}{c:Code}{ts s ts':TS}{e:Ex}(h1:mD P ρ m c ts .normal s)(h2:AF P ρ m c s e ts'):AF P ρ m c ts e ts':=by
 obtain⟨⟨a1,a2⟩,a3⟩:=h1;obtain⟨⟨b1,b2⟩,j,b3⟩:=h2;refine⟨⟨b1.trans a1,fX a2 b2⟩,j+1,fun β a w r k Q hr hs hQ=>a3 β a w r k _ hr hs fun a' w' β' hs' hg=>?_⟩
 exact b3 β' a' w' r k Q (hr.keep hg.bm) hs' fun a2' w2 β2 hs2 hg2=>hQ a2' w2 β2 hs2 (hg.trans hg2 a2)
theorem JY{ρ:Option Nat}{m:Nat}{c:Code}{ts s:TS}{e:Ex}(h1:mD P ρ m c ts e s)(he:e≠.normal):AF P ρ m c ts e s:=
 ⟨h1.1,1,fun β a w r k Q hr hs hQ=>h1.2 β a w r k _ hr hs fun a' w' β' hs' hg=>by cases e<;>first|exact absurd rfl he|exact hQ a' w' β' hs' hg⟩
theorem uZ{ρ:Option Nat}{m:Nat}{c:Code}{ts:TS}{e:Ex}(h:∀(r:Option Nat) (k:Nat) (Q:Exit→Act→World→Prop) a w,Q e.up a w→c.wpIn (Fw r) k P Q a w):mD P ρ m c ts e ts:=
 ⟨⟨rfl,aU _⟩,fun β a w r k Q hr hs hQ=>h r k Q a w (hQ a w β hs (Gn.refl _ _ _))⟩
section
variable {G:mY} {ρ:Option Nat} {m:Nat}
theorem KQ{c:EC}{ts:TS}:exec P G ρ m 0 c ts=none:=rfl
theorem RU{n:Nat}{l:List EI}{ts:TS}:exec P G ρ m (n+1) (.reg l) ts=(match PE (vN P G ρ m) l ts with
   |some s=>some (.normal,s)
   |none=>none):=rfl
theorem KS{n:Nat}{l:List EI}{ts:TS}:exec P G ρ m (n+1) (.dreg l) ts=(match okS l with
   |true=>match LB P G (BW l) m l ts with
    |some r=>some (.normal,r)
    |none=>none
   |false=>none):=rfl
theorem RS{n:Nat}{a b:EC}{ts:TS}:exec P G ρ m (n+1) (.seq a b) ts=(match exec P G ρ m n a ts with
   |some r=>match r.1 with
    |.normal=>exec P G ρ m n b r.2
    |e=>some (e,r.2)
   |none=>none):=rfl
theorem KT{n:Nat}{x:X}{a b:EC}{ts:TS}:exec P G ρ m (n+1) (.cond x a b) ts=(match ev (gV ts.t) x with
   |.c (.f (.b v))=>match v with
    |true=>exec P G ρ m n a ts
    |false=>exec P G ρ m n b ts
   |_=>none):=rfl
theorem GM{n id:Nat}{a:EC}{ts:TS}:exec P G ρ m (n+1) (.block id a) ts=(match exec P G ρ m n a ts with
   |some r=>match r.1 with
    |.exit j=>match bE j id with
     |true=>some (.normal,r.2)
     |false=>some (.exit j,r.2)
    |e=>some (e,r.2)
   |none=>none):=rfl
theorem KR{n:Nat}{a:EC}{ts:TS}:exec P G ρ m (n+1) (.loop a) ts=(match exec P G ρ m n a ts with
   |some r=>match r.1 with
    |.normal=>exec P G ρ m n (.loop a) r.2
    |e=>some (e,r.2)
   |none=>none):=rfl
theorem aBF{n:Nat}{x:X}{ps:List Nat}{assign body:Code}{ts:TS}:exec P G ρ m (n+1) (.rfun x ps assign body) ts=runR P G ρ m x ps assign body ts:=rfl
theorem uA{n:Nat}{ts:TS}:exec P G ρ m n .bad ts=none:=by cases n<;>rfl
theorem sM(hG:sT P G):∀n,(∀(c:Code) (ts:TS) e ts',exec P G ρ m n (dB P c) ts=some (e,ts')→mD P ρ m c ts e ts')∧∀(c:Code) (ts:TS) e ts',exec P G ρ m n (.loop (dB P c)) ts=some (e,ts')→AF P ρ m c ts e ts'
 |0=>⟨fun c ts e ts' h=>(by rw[KQ]at h;cases h),fun c ts e ts' h=>(by rw[KQ]at h;cases h)⟩
 |n+1=>by
  obtain⟨ih1,ih2⟩:=sM hG n
  have hl:∀(c:Code) (ts:TS) e ts',exec P G ρ m (n+1) (.loop (dB P c)) ts=some (e,ts')→AF P ρ m c ts e ts':=by
   intro c ts e ts' h;rw[KR]at h;split at h
   case h_2=>cases h
   rename_i r hr;obtain⟨e1,s⟩:=r
   have h1:=ih1 c ts e1 s hr
   cases e1 with
   |normal=>exact aAZ h1 (ih2 c s e ts' h)
   |exit id=>cases h;exact JY h1 (by intro q;cases q)
   |ret=>cases h;exact JY h1 (by intro q;cases q)
  refine⟨fun c=>?_,hl⟩;induction c with
  |skip=>intro ts e ts' h;cases h;exact uZ fun r k Q a w h=>wpIn_skip h
  |region id ops draw=>
   intro ts e ts' h;simp only[dB]at h;split at h
   ·rename_i l hcl
    rw[RU]at h;split at h
    case h_2=>cases h
    rename_i s hs;cases h;exact aD0 hG hcl hs
   ·rename_i l hcl
    split at h
    ·rename_i hm
     rw[KS]at h;split at h
     case h_2=>cases h
     rename_i hok
     have fin:∀ {loc:Bool} {s:TS},LB P G loc m l ts=some s→mD P ρ m (.region id ops true) ts .normal s:=by
      intro loc s hd;unfold LB at hd;split at hd
      case h_2=>cases hd
      rename_i q hq;obtain⟨s',rs⟩:=q
      have fin:(aDA rs=true∨AQ aEY rs (HI l) []=true)→mD P ρ m (.region id ops true) ts .normal s':=fun hor=>by
       obtain⟨h1,h2⟩:=aD1 (id:=id) hG hm hcl hok hq hor;exact⟨h1,fun β a w r k Q _ hs hQ=>h2 β a w r k Q hs hQ⟩
      split at hd
      ·rename_i hqu;cases hd;exact fin (.inl hqu)
      ·split at hd
       ·rename_i hp;cases hd;exact fin (.inr hp)
       ·cases hd
     split at h
     ·rename_i s hs;cases h;exact fin hs
     ·cases h
    ·rw[uA]at h;cases h
   ·rw[uA]at h;cases h
  |seq c1 c2 _ _=>
   intro ts e ts' h;rw[dB,RS]at h;split at h
   case h_2=>cases h
   rename_i r hr;obtain⟨e1,s⟩:=r
   have h1:=ih1 c1 ts e1 s hr
   cases e1 with
   |normal=>exact h1.seq (ih1 c2 s e ts' h)
   |exit id=>cases h;exact h1.exits (by intro q;cases q)
   |ret=>cases h;exact h1.exits (by intro q;cases q)
  |cond x c1 c2 _ _=>
   intro ts e ts' h;rw[dB]at h;split at h
   case h_2=>rw[uA]at h;cases h
   rename_i ax hx;rw[KT]at h;split at h
   case h_2=>cases h
   rename_i v hv
   have hb:∀ {β a w},eC β (ts.st m) a w→a.eval x=.bool v:=fun {β a w} hs=>by
    have:=aR hs hx
    have e1:ev (ts.st m).t ax=.c (.f (.b v)):=hv
    rw[e1]at this;exact this
   cases v with
   |true=>
    have h1:=ih1 c1 ts e ts' h
    exact⟨h1.1,fun β a w r k Q hr hs hQ=>wpIn_cond_true (hb hs) (h1.2 β a w r k Q hr hs hQ)⟩
   |false=>
    have h1:=ih1 c2 ts e ts' h
    exact⟨h1.1,fun β a w r k Q hr hs hQ=>wpIn_cond_false (hb hs) (h1.2 β a w r k Q hr hs hQ)⟩
  |block id c _=>
   intro ts e ts' h;rw[dB,GM]at h;split at h
   case h_2=>cases h
   rename_i r hr;obtain⟨e1,s⟩:=r
   have h1:=ih1 c ts e1 s hr
   cases e1 with
   |normal=>cases h;exact⟨h1.1,fun β a w r k Q hr hs hQ=>wpIn_block (h1.2 β a w r k _ hr hs fun a' w' β' hs' hg=>hQ a' w' β' hs' hg)⟩
   |ret=>cases h;exact⟨h1.1,fun β a w r k Q hr hs hQ=>wpIn_block (h1.2 β a w r k _ hr hs fun a' w' β' hs' hg=>hQ a' w' β' hs' hg)⟩
   |exit j=>
    simp only at h;split at h
    ·rename_i hj
     cases h
     have hj:=aH hj
     subst hj;refine⟨h1.1,fun β a w r k Q hr hs hQ=>wpIn_block (h1.2 β a w r k _ hr hs fun a' w' β' hs' hg=>?_)⟩
     show if j=j then Q .normal a' w' else Q (.exit j) a' w'
     rw[if_pos rfl];exact hQ a' w' β' hs' hg
    ·rename_i hj
     cases h
     have hj:=gG hj
     refine⟨h1.1,fun β a w r k Q hr hs hQ=>wpIn_block (h1.2 β a w r k _ hr hs fun a' w' β' hs' hg=>?_)⟩
     show if j=id then Q .normal a' w' else Q (.exit j) a' w'
     rw[if_neg hj];exact hQ a' w' β' hs' hg
  |loop c _=>intro ts e ts' h;exact aJ0 (hl c ts e ts' h)
  |exit id=>intro ts e ts' h;cases h;exact uZ fun r k Q a w h=>wpIn_exit h
  |ret=>intro ts e ts' h;cases h;exact uZ fun r k Q a w h=>wpIn_ret h
  |scope c ih=>
   intro ts e ts' h
   have h1:=ih ts e ts' h
   exact⟨h1.1,fun β a w r k Q hr hs hQ=>vG (h1.2 β a w r k _ hr hs fun a' w' β' hs' hg=>by
    have:=hQ a' w' β' hs' hg
    cases e<;>exact this)⟩
  |label l=>intro ts e ts' h;cases h;exact uZ fun r k Q a w h=>wpIn_label h
  |rangeFunc g ps assign body _ _=>
   intro ts e ts' h;rw[dB]at h;split at h
   case h_2=>rw[uA]at h;cases h
   rename_i ax hx;rw[aBF]at h;exact TG hG hx h
  |_=>intro ts e ts' h;simp only[dB]at h;rw[uA]at h;cases h
end
end
open Go.AE (All2 gZ gI)
section
variable {P:Program} {β:Bt} {w:World} {st:St} {a:Act} {o:Oper} {ops:Array Oper}
theorem aG7{fn:Func}{c:FnC}(h:cFn P fn=some c):∃code,fn.body=some code∧fn.name ≠ "runtime.NumGoroutine" ∧ oX P fn.results.toList=some c.res∧c.m=fn.ntmps∧c.code=dB P code:=by
 unfold cFn at h;split at h
 ·rename_i code rs h1 h2 h3
  cases h;exact⟨code,h1,by simpa using h3,h2,rfl,rfl⟩
 ·cases h
theorem aCJ{f:FuncId}{c:FnC}(h:tab P f=some c):∃fn code,P.funcs[f]?=some fn∧fn.body=some code∧fn.name ≠ "runtime.NumGoroutine" ∧ oX P fn.results.toList=some c.res∧c.m=fn.ntmps∧c.code=dB P code:=by
 unfold tab at h;rw[eK,QK,aG,List.getElem?_map]at h;cases hq:P.funcs.toList[f]? with
 |none=>rw[hq]at h;cases h
 |some fn=>
  rw[hq]at h;obtain⟨code,h1⟩:=aG7 (c:=c) h;exact⟨fn,code,by simpa using hq,h1⟩
theorem WA{v:V}{vs:List V}{k:Nat}{t:T V}:GL (v::vs) k t=GL vs (k+1) (set (.t []) v 24 k t):=rfl
theorem RE:∀ {vs:List V} {k:Nat} {t:T V} {j:Nat},k+vs.length<16777000→gV (GL vs k t) j=if k≤j then (vs[j-k]?).getD (gV t j) else gV t j
 |[],k,t,j,_=>by
  show gV t j=_
  split<;>simp
 |v::vs,k,t,j,h=>by
  have h:k+(vs.length+1)<16777000:=h
  rw[WA,RE (by omega)]
  have e24:(2:Nat)^24=16777216:=by decide
  have e:gV (set (.t []) v 24 k t) j=if j=k then v else gV t j:=qQ _ _ 24 k j t (by omega)
  rw[e]
  by_cases h1:k+1≤j
  ·have h2:j≠k:=by omega
   have h3:k≤j:=by omega
   rw[if_pos h1,if_neg h2,if_pos h3,show j-k=(j-(k+1))+1 by omega];simp
  ·rw[if_neg h1]
   by_cases h2:j=k
   ·subst h2;simp
   ·rw[if_neg h2,if_neg (by omega)]
theorem SP{α γ:Type}{R:α→γ→Prop}:∀ {xs:List α} {ys:List γ},All2 R xs ys→∀ {k:Nat} {x y},xs[k]?=some x→ys[k]?=some y→R x y
 |[],_,_,k,x,y,h,_=>by simp at h
 |_::_,[],h,_,_,_,_,_=>h.elim
 |_::xs,_::ys,h,0,x,y,h1,h2=>by simp at h1 h2;subst h1;subst h2;exact h.1
 |_::xs,_::ys,h,k+1,x,y,h1,h2=>SP h.2 (by simpa using h1) (by simpa using h2)
theorem aX9{j:Nat}:gV .e j=.t []:=by
 unfold gV;cases j<;>rfl
theorem aA0{args:List V}{vs:Array Value}{h:T O}{n m:Nat}(hp:Pre β w args vs (gO h) n)(hm:args.length≤m)(hk:args.length<16777000):eC β (TS.st m ⟨GL args 0 .e,h,n,[]⟩) { tmps:=vs++fJ (m-vs.size) undef,defers:=[] } w:=by
 have hl:args.length=vs.size:=by simpa using hp.ar.length
 refine⟨trivial,by show (vs++fJ (m-vs.size) undef).size=m;simp;omega,fun j=>?_,hp.hs,hp.fr,hp.gl⟩
 show VR β (gV (GL args 0 .e) j) ((vs++fJ (m-vs.size) undef).getD j undef)
 rw[RE (by omega),if_pos (bH _),aX9,Nat.sub_zero,dR]
 by_cases hj:j<vs.size
 ·have h1:args[j]?=some args[j]:=by simp[hl,hj]
  have h2:vs.toList[j]?=some vs[j]:=by simp[hj]
  have:=SP hp.ar h1 h2
  rw[h1,Array.getElem?_append_left hj];simpa[hj] using this
 ·have h1:args[j]?=none:=by simp;omega
  rw[h1,Array.getElem?_append_right (by omega),Array.getElem?_replicate];split<;>exact xD
theorem JB{t:T V}{h:T O}{r:AR}{rs:List AR}:TJ t h (r::rs)=(match HW t h r,TJ t h rs with
 |some v,some l=>some (v::l)
 |_,_=>none):=rfl
theorem rZ{t:T V}{h:T O}{tmps:Array Value}(tm:∀k,VR β (gV t k) (tmps.getD k undef))(hh:HS β w (gO h)):∀(frs:List ResultVar) (rs:List AR) (vs:List W),oX P frs=some rs→TJ t h rs=some vs→∃us,(frs.mapM (AE.runR tmps)).run P w=.ok us w∧All2 (WR β) vs us
 |[],rs,vs,hr,hv=>by
  cases hr;cases hv;exact⟨[],by simp,trivial⟩
 |.tmp k::frs,rs,vs,hr,hv=>by
  simp only[oX,aM]at hr;obtain⟨rs',hr,rfl⟩:=hr;rw[JB]at hv;split at hv
  case h_2=>cases hv
  rename_i x l h1 h2;cases hv;obtain⟨us,q1,q2⟩:=rZ tm hh frs rs' l hr h2;refine⟨tmps.getD k undef::us,?_,AB (tm k) h1,q2⟩;simp[List.mapM_cons,AE.runR,q1]
 |.cell k ty::frs,rs,vs,hr,hv=>by
  simp only[oX,aE,aB,aK,aD]at hr;obtain⟨n,hn,rs',hr,rfl⟩:=hr;rw[JB]at hv;split at hv
  case h_2=>cases hv
  rename_i x l h1 h2;cases hv;obtain⟨us,q1,q2⟩:=rZ tm hh frs rs' l hr h2;simp only[HW]at h1;split at h1
  case h_2=>cases h1
  rename_i id off hp;split at h1
  case h_2=>cases h1
  rename_i x0 ty' cells hid;split at h1
  case h_2=>cases h1
  rename_i hle
  have hptr:=tm k
  rw[hp]at hptr;obtain⟨b,N,g1,g2⟩:=hptr
  have hob:=hh.obj id b N g1
  rw[hid]at hob;obtain⟨cs,g3,g4,g5,g6⟩:=hob
  have hlen:off+gZ n≤cells.length:=by rw[gF]at hle;exact aQ hle
  have hl:(cs.extract off (off+gZ n)).toList.length=gZ n:=by simp;omega
  have hrr:w.rangeAt b off (cs.extract off (off+gZ n)).toList:=by
   intro j u hu;rw[bC,cQ]at hu;split at hu
   ·rw[cell_of_row w b (off+j) cs ty' _ g3];exact hu
   ·cases hu
  have hrun:=AE.run_load_gen (P:=P) (w:=w) hn hl hrr
  have hrun:(loadVar ty ⟨b,off,none⟩).run P w=.ok (AE.ldV (cs.extract off (off+gZ n)).toList n) w:=by
   simpa[Instr.loadAt,Instr.sureAddr] using hrun
  have hval:VR β (BZ cells off n) (AE.ldV (cs.extract off (off+gZ n)).toList n):=iX hlen hl fun j c u hc hu=>by
   have hj:j<gZ n:=by have:=(aV.1 hu).1;omega
   obtain⟨u',h5,h6⟩:=g6 (off+j) c hc;rw[bC,cQ,if_pos (by omega),h5]at hu;injection hu with hu;subst hu;exact h6
  refine⟨_::us,?_,AB hval h1,q2⟩
  have hra:(AE.runR tmps (.cell k ty)).run P w=.ok (AE.ldV (cs.extract off (off+gZ n)).toList n) w:=by
   show (do loadVar ty (←asAddr (tmps.getD k undef))).run P w=_
   rw[g2];simp only[asAddr,pure_bind];exact hrun
  rw[List.mapM_cons,Sem.run_bind,hra,Result.andThen_ok,Sem.run_bind,q1];rfl
theorem wB:∀ {vs:List W} {us:List Value},All2 (WR β) vs us→VR β (vI vs) (AE.oneU us)
 |[],[],_=>⟨#[],rfl,trivial⟩
 |[_],[_],h=>WR.up h.1
 |_::_::_,_::_::_,h=>⟨_,rfl,h⟩
 |[],_::_,h=>h.elim
 |_::_,[],h=>h.elim
 |[_],_::_::_,h=>h.2.elim
 |_::_::_,[_],h=>h.2.elim
theorem GW{G:mY}(hG:sT P G){n:Nat}{f:FuncId}{args:List V}{h:T O}{nn:Nat}{c:FnC}{ts:TS}(hb:GX P n G f args h nn=some (c,ts)) :
  ∃fn code,P.funcs[f]?=some fn∧fn.body=some code∧fn.name ≠ "runtime.NumGoroutine" ∧ oX P fn.results.toList=some c.res∧(gO ts.h 0=gO h 0∧nn≤ts.n) ∧
   ∀(β:Bt) (w:World) (vs:Array Value) (k:Nat) (Q:Exit→Act→World→Prop),Pre β w args vs (gO h) nn→(∀e a' w' β',(e=.normal∨e=.ret)→eC β' (ts.st c.m) a' w'→Gn nn β w β' w'→Q e a' w') →
    code.wpIn Fence.wide k P Q { tmps:=vs++fJ (fn.ntmps-vs.size) undef,defers:=[] } w:=by
 unfold GX at hb;split at hb
 case h_2=>cases hb
 rename_i c0 hc;split at hb
 case h_2=>cases hb
 rename_i hm;rw[bR,gF]at hm;split at hb
 case h_2=>cases hb
 rename_i r hr;obtain⟨fn,code,h1,h2,h3,h4,h5,h6⟩:=aCJ hc;rw[h6]at hr;obtain⟨e,s⟩:=r
 have hok:=(sM (ρ:=none) (m:=c0.m) hG n).1 code _ e s hr
 have he:(e=.normal∨e=.ret)∧c=c0∧ts=s:=by
  cases e with
  |normal=>cases hb;exact⟨.inl rfl,rfl,rfl⟩
  |ret=>cases hb;exact⟨.inr rfl,rfl,rfl⟩
  |exit id=>cases hb
 obtain⟨he,rfl,rfl⟩:=he;refine⟨fn,code,h1,h2,h3,h4,hok.1,fun β w vs k Q hp hQ=>?_⟩
 have hs:=aA0 (m:=c.m) hp (aQ hm.1) (aQ hm.2)
 rw[h5]at hs
 have:=hok.2 β _ w none k Q rfl (by rw[h5];exact hs) fun a' w' β' hs' hg=>hQ e.up a' w' β' (by rcases he with rfl|rfl<;>simp[Ex.up]) hs' hg
 exact this
theorem aB0{n:Nat}{G:mY}{id:Nat}{ds:List D}{h:T O}{nn:Nat}:FQ P n G (.col id::ds) h nn=(match gO h id with
   |.dfr=>match eB (bS 1 id) (cU id 16777000) with
    |true=>FQ P n G ds (iK id .gone h) nn
    |false=>none
   |_=>none):=rfl
theorem aB1{n:Nat}{G:mY}{f:FuncId}{vs:List V}{ds:List D}{h:T O}{nn:Nat}:FQ P n G (.cal f vs::ds) h nn=(match GX P n G f vs h nn with
   |some r=>match r.2.d,TJ r.2.t r.2.h r.1.res with
    |[],some _=>FQ P n G ds r.2.h r.2.n
    |_,_=>none
   |none=>none):=rfl
theorem BQ(f:FuncId):Fence.wide.fn f:=trivial
theorem qO{G:mY}(hG:sT P G){n:Nat}{fn:Func}{tmps:Array Value}{R:Ending→World→Prop}{k:Nat}{h':T O}{n':Nat}:∀(ds:List D) (h:T O) (nn:Nat),FQ P n G ds h nn=some (h',n')→(gO h' 0=gO h 0∧nn≤n') ∧
  ∀(β:Bt) (w:World) (ds':List Deferred),All2 (DR β) ds ds'→HS β w (gO h)→(∀i,nn≤i→β i=none)→(∃N,β 0=some (0,N)) →
   (∀β' w',HS β' w' (gO h')→Gn nn β w β' w'→(∀i,n'≤i→β' i=none)→LeavesIn Fence.wide k P fn tmps R [] .returning w')→LeavesInM Fence.wide k P fn tmps R ds' .returning w
 |[],h,nn,hl=>by
  cases hl;refine⟨⟨rfl,aU _⟩,fun β w ds' hd hh hf hgl hK=>?_⟩;cases ds' with
  |nil=>exact hK β w hh (Gn.refl _ _ _) hf
  |cons _ _=>exact hd.elim
 |.col id::ds,h,nn,hl=>by
  rw[aB0]at hl;split at hl
  case h_2=>cases hl
  rename_i hdf;split at hl
  case h_2=>cases hl
  rename_i hb;rw[bR]at hb
  have hb1:1≤id:=aQ hb.1
  have hb2:id<16777000:=aQ hb.2
  have e1:gO (iK id .gone h)=fu (gO h) id .gone:=jU hb2
  obtain⟨⟨z1,z2⟩,ih⟩:=qO hG (fn:=fn) (tmps:=tmps) (R:=R) (k:=k) ds (iK id .gone h) nn hl;refine⟨⟨by rw[z1,e1,cT _ (by omega)],z2⟩,fun β w ds' hd hh hf hgl hK=>?_⟩;cases ds' with
  |nil=>exact hd.elim
  |cons d ds'=>
   obtain⟨⟨b,N,g1,g2⟩,hd⟩:=hd
   have hob:=hh.obj id b N g1
   rw[hdf]at hob
   have htake:=run_takeDeferred (P:=P) hob
   obtain⟨s1,s2⟩:=BT hh g1 (by rw[hdf];rfl) (x:=.gone) (o:=.deferred none) fun _=>trivial
   refine⟨(by intro q;cases q),.inl ⟨b,_,g2,htake,?_⟩⟩
   refine ih β _ ds' hd (by rw[e1];exact s1) hf hgl fun β' w' q1 q2 q3=>hK β' w' q1 (Gn.trans ⟨s2,fun _ _=>rfl⟩ q2 (aU _)) q3
 |.cal f vs::ds,h,nn,hl=>by
  rw[aB1]at hl;split at hl
  case h_2=>cases hl
  rename_i r hr;split at hl
  case h_2=>cases hl
  rename_i x hd0 hres;obtain⟨c,ts⟩:=r;obtain⟨fn',code,h1,h2,h3,h4,⟨z1,z2⟩,h5⟩:=GW hG hr;obtain⟨⟨y1,y2⟩,ih⟩:=qO hG (fn:=fn) (tmps:=tmps) (R:=R) (k:=k) ds ts.h ts.n hl;refine⟨⟨y1.trans z1,fX z2 y2⟩,fun β w ds' hd hh hf hgl hK=>?_⟩;cases ds' with
  |nil=>exact hd.elim
  |cons d ds'=>
   obtain⟨⟨cap,g1,g2⟩,hd⟩:=hd;refine⟨(by intro q;cases q),.inr ⟨fun q=>by simp[Fence.wide]at q,.func f,cap,f,d.args++cap,g1,?_,fun g _=>BQ g,?_⟩⟩
   ·rw[g1]
    exact kJ.run ⟨fn',h1,by rw[h2];rfl,h3⟩ _ _
   ·have hpre:Pre β w vs (d.args++cap) (gO h) nn:=⟨g2,hh,hf,hgl⟩
    have hcall:=callsDIn_of_wp (F:=Fence.wide) (n:=k-1) (u:=.returning) (R:=fun e w'=>∃u β',e=.returned u∧HS β' w' (gO ts.h)∧Gn nn β w β' w'∧∀i,ts.n≤i→β' i=none) h1 h2 (BQ f) (h5 β w (d.args++cap) (k-1) _ hpre fun e a' w' β' he hs' hg=>by
     have hdf:=hs'.df
     have hdf:All2 (DR β') ts.d a'.defers:=hdf
     have hd0:ts.d=[]:=hd0
     rw[hd0]at hdf
     have ha:a'.defers=[]:=by
      cases hq:a'.defers with
      |nil=>rfl
      |cons _ _=>rw[hq]at hdf;exact hdf.elim
     obtain⟨us,q1,q2⟩:=rZ (P:=P) (t:=ts.t) (h:=ts.h) hs'.tm hs'.hs fn'.results.toList c.res x h4 hres
     have hres:=AE.results_eq fn' a'.tmps q1
     rcases he with rfl|rfl<;>exact⟨ha,_,hres,_,β',rfl,hs'.hs,hg,hs'.fr⟩)
    refine CallsDIn.mono hcall ?_;rintro e u' w' ⟨rfl,u,β',rfl,q1,q2,q3⟩
    show LeavesInM Fence.wide k P fn tmps R ds' (settle .returning) w'
    refine ih β' w' ds' (hd.mono fun _ _ q=>DR.keep q2.bm q) q1 q3 (let ⟨N,hN⟩:=hgl;⟨N,q2.bm _ _ hN⟩) fun β2 w2 p1 p2 p3=>hK β2 w2 p1 (q2.trans p2 z2) p3
theorem TI{G:mY}(hG:sT P G){n:Nat}{f:FuncId}{args:List V}{h:T O}{nn:Nat}{v:V}{h':T O}{n':Nat}(hr:aCW P n G f args h nn=some (v,h',n')) :
  gO h' 0=gO h 0∧nn≤n'∧WW P (.fn f) args (gO h) nn v (gO h') n':=by
 unfold aCW at hr;split at hr
 case h_2=>cases hr
 rename_i r hb;split at hr
 case h_2=>cases hr
 rename_i hn hl;split at hr
 case h_2=>cases hr
 rename_i vs hres;cases hr;obtain⟨c,ts⟩:=r;obtain⟨h1',n1'⟩:=hn;obtain⟨fn,code,h1,h2,h3,h4,⟨z1,z2⟩,h5⟩:=GW hG hb
 have hl0:=(qO hG (fn:=fn) (tmps := #[]) (R:=fun _ _=>True) (k:=0) ts.d ts.h ts.n hl).1
 refine⟨hl0.1.trans z1,fX z2 hl0.2,⟨fn,h1,by rw[h2];rfl,h3⟩,fun β w us k hpre=>?_⟩;refine callsIn_of_wp_marks h1 h2 (BQ f) (h5 β w us k _ hpre fun e a' w' β' he hs' hg=>?_)
 have key:LeavesInM Fence.wide k P fn a'.tmps (aK7 (vI vs) (gO h1') nn n1' β w) a'.defers .returning w':=by
  obtain⟨_,h6⟩:=qO hG (fn:=fn) (tmps:=a'.tmps) (R:=aK7 (vI vs) (gO h1') nn n1' β w) (k:=k) ts.d ts.h ts.n hl
  refine h6 β' w' a'.defers hs'.df hs'.hs hs'.fr hs'.gl fun β2 w2 p1 p2 p3=>?_
  obtain⟨us2,q1,q2⟩:=rZ (P:=P) (β:=β2) (t:=ts.t) (h:=h1') (fun j=>VR.keep p2.bm (hs'.tm j)) p1 fn.results.toList c.res vs h4 hres;exact⟨_,AE.results_eq fn a'.tmps q1,_,β2,rfl,wB q2,p1,hg.trans p2 z2,p3⟩
 rcases he with rfl|rfl<;>exact key
theorem RD{m p:Nat}{ps:List Nat}{v:V}{vs:List V}{t:T V}:NX m (p::ps) (v::vs) t=(match put m t (some p) v with
   |some t=>NX m ps vs t
   |none=>none):=rfl
theorem yA{m:Nat}:∀(ps:List Nat) (args:List V) (t t':T V) (us:List Value) (tmps:Array Value),NX m ps args t=some t'→All2 (VR β) args us→(∀k,VR β (gV t k) (tmps.getD k undef))→tmps.size=m →
  us.length=ps.length∧((ps.zip us).foldl (fun tmps (x:Tmp×Value)=>tmps.setIfInBounds x.1 x.2) tmps).size=m∧∀k,VR β (gV t' k) (((ps.zip us).foldl (fun tmps (x:Tmp×Value)=>tmps.setIfInBounds x.1 x.2) tmps).getD k undef)
 |[],[],t,t',us,tmps,h,ha,ht,hm=>by
  cases h;cases us with
  |nil=>exact⟨rfl,hm,ht⟩
  |cons _ _=>exact ha.elim
 |[],_::_,t,t',us,tmps,h,ha,ht,hm=>by cases h
 |_::_,[],t,t',us,tmps,h,ha,ht,hm=>by cases h
 |p::ps,v::vs,t,t',[],tmps,h,ha,ht,hm=>ha.elim
 |p::ps,v::vs,t,t',u::us,tmps,h,ha,ht,hm=>by
  rw[RD]at h;split at h
  case h_2=>cases h
  rename_i t1 hp;obtain⟨q1,q2⟩:=pK hp
  have hpm:=q1 p rfl
  have:=yA ps vs t1 t' us (tmps.setIfInBounds p u) h ha.2 (fun k=>by
   rw[q2]
   show VR β (if some p=some k then v else gV t k) _
   by_cases e:p=k
   ·subst e
    rw[if_pos rfl]
    have:(tmps.setIfInBounds p u).getD p undef=u:=by simp[hm,hpm]
    rw[this];exact ha.1
   ·rw[if_neg (by simpa using e)]
    have e2:(tmps.setIfInBounds p u).getD k undef=tmps.getD k undef:=by
     rw[dR,dR,Array.getElem?_setIfInBounds_ne e]
    rw[e2];exact ht k) (by simpa using hm)
  exact⟨by simp[this.1],this.2⟩
theorem TF{G:mY}(hG:sT P G){n:Nat}{id:Nat}{args:List V}{h:T O}{nn:Nat}{v:V}{h':T O}{n':Nat}(hr:aCU P n G id args h nn=some (v,h',n')) :
  gO h' 0=gO h 0∧nn≤n'∧WW P (.yl id) args (gO h) nn v (gO h') n':=by
 unfold aCU at hr;split at hr
 case h_2=>cases hr
 rename_i L hL;split at hr
 case h_2=>cases hr
 rename_i t1 hfill hb;rw[bR]at hb
 have hb1:1≤id:=aQ hb.1
 have hb2:id<16777000:=aQ hb.2
 have hset:∀(x:O) (h:T O),gO (iK id x h)=fu (gO h) id x:=fun x h=>jU hb2
 split at hr
 case h_2=>cases hr
 rename_i r hex;obtain⟨e1,s1⟩:=r;split at hr
 case h_2=>cases hr
 rename_i L1 he1 hL1
 have he1:e1=.normal:=he1
 subst he1;split at hr
 case h_2=>cases hr
 rename_i hready;split at hr
 case h_2=>cases hr
 rename_i q hex2;obtain⟨e2,s2⟩:=q;split at hr
 case h_2=>cases hr
 rename_i L2 hL2
 have hL1:gO s1.h id=.loop L1:=hL1
 have hL2:gO s2.h id=.loop L2:=hL2
 obtain⟨⟨a1,a2⟩,a3⟩:=(sM (ρ:=some id) (m:=L.m) hG n).1 L.assign _ _ s1 hex;obtain⟨⟨b1,b2⟩,b3⟩:=(sM (ρ:=some id) (m:=L.m) hG n).1 L.body _ e2 s2 hex2
 have a2:nn≤s1.n:=a2
 have b2:s1.n≤s2.n:=b2
 have a1:gO s1.h 0=gO h 0:=a1
 have b1:gO s2.h 0=gO s1.h 0:=by
  have:gO s2.h 0=gO (iK id (.loop { L1 with st:=.busy }) s1.h) 0:=b1
  rw[this,hset,cT _ (by omega)]
 have fin:∀(jump:Option Code) (st:LoopState),(st=if jump.isNone then LoopState.ready else .done)→(∀l (R:Ending→World→Prop) a w,(∃v w',(Instr.endRound l jump).run P w=.ok v w'∧R (.returned v) w')→roundPost P l R e2.up a w) →
   (v,h',n')=(V.c (.f (.b jump.isNone)),iK id (.loop { L2 with st:=st,pend:=jump }) s2.h,s2.n)→gO h' 0=gO h 0∧nn≤n'∧WW P (.yl id) args (gO h) nn v (gO h') n':=by
  intro jump stt hst hpost heq;cases heq;refine⟨by rw[hset,cT _ (by omega),b1,a1],by omega,?_⟩;intro β w vs k l N hid hpre
  have hob:=hpre.hs.obj id l N hid
  rw[hL]at hob;obtain⟨rr,g1,g2,g3,g4,g5,g6,g7,g8,N9,g9⟩:=hob;obtain⟨f1,f2,f3⟩:=yA (β:=β) L.ps args L.tm t1 vs.toList rr.tmps hfill hpre.ar g5 g4
  have hsz:vs.size=rr.params.size:=by
   rw[←g6]at f1;simpa using f1
  refine⟨rr.fn,_,rr.assign,rr.body,run_yield g1 hsz,?_⟩
  have efold:(rr.params.zip vs).foldl (fun tmps (x:Tmp×Value)=>tmps.setIfInBounds x.1 x.2) rr.tmps=(L.ps.zip vs.toList).foldl (fun tmps (x:Tmp×Value)=>tmps.setIfInBounds x.1 x.2) rr.tmps:=by
   rw[←Array.foldl_toList,Array.toList_zip,g6]
  refine roundIn_of_wpIn (BQ _) ?_;rw[g7]
  have hs0:eC β (TS.st L.m ⟨t1,h,nn,[]⟩) { tmps:=(rr.params.zip vs).foldl (fun tmps (x:Tmp×Value)=>tmps.setIfInBounds x.1 x.2) rr.tmps,defers:=[] } w:=by
   rw[efold];exact⟨trivial,f2,f3,hpre.hs,hpre.fr,hpre.gl⟩
  refine a3 β _ w (some l) k _ ⟨l,N,hid,rfl⟩ hs0 fun aa w1 β1 hs1 hg1=>?_
  have hid1:β1 id=some (l,N):=hg1.bm _ _ hid
  have hob1:=hs1.hs.obj id l N hid1
  have hL1':(s1.st L.m).h id=.loop L1:=hL1
  rw[hL1']at hob1;obtain⟨r1,i1,i2,i3,i4,i5,i6,i7,i8,M9,i9⟩:=hob1
  have hbegin:=run_beginRound (P:=P) i1 (by rw[i2];exact hready)
  refine⟨_,hbegin,?_⟩
  obtain⟨c1,c2⟩:=BT hs1.hs hid1 (by rw[hL1'];rfl) (x:=.loop { L1 with st:=.busy }) (o:=.loop { r1 with state:=.busy }) fun hp=>⟨_,hp,rfl,i3,i4,i5,i6,i7,i8,M9,i9⟩
  have hs1b:eC β1 (TS.st L.m ⟨s1.t,iK id (.loop { L1 with st:=.busy }) s1.h,s1.n,s1.d⟩) aa (w1.putObj l (.loop { r1 with state:=.busy })):=by
   refine⟨hs1.df,hs1.sz,hs1.tm,?_,hs1.fr,hs1.gl⟩
   show HS _ _ (gO (iK id _ s1.h))
   rw[hset];exact c1
  rw[g8]
  refine b3 β1 aa _ (some l) k _ ⟨l,N,hid1,rfl⟩ hs1b fun a2' w2 β2 hs2 hg2=>?_
  have hid2:β2 id=some (l,N):=hg2.bm _ _ hid1
  have hob2:=hs2.hs.obj id l N hid2
  have hL2':(s2.st L.m).h id=.loop L2:=hL2
  rw[hL2']at hob2;obtain⟨r2,j1,j2,j3,j4,j5,j6,j7,j8,K9,j9⟩:=hob2
  have hend:=run_endRound (P:=P) jump j1
  obtain⟨d1,d2⟩:=BT hs2.hs hid2 (by rw[hL2'];rfl) (x:=.loop { L2 with st:=stt,pend:=jump }) (o:=.loop { r2 with state:=if jump.isNone then .ready else .done,pending:=jump }) fun hp=>⟨_,hp,hst.symm,rfl,j4,j5,j6,j7,j8,K9,j9⟩
  refine hpost l _ a2' w2 ⟨_,_,hend,?_⟩;refine⟨_,β2,rfl,rfl,?_,?_,hs2.fr⟩
  ·rw[hset];exact d1
  ·exact hg1.trans (Gn.trans ⟨c2,fun _ _=>rfl⟩ (Gn.trans hg2 ⟨d2,fun _ _=>rfl⟩ (aU _)) (aU _)) a2
 cases e2 with
 |normal=>cases hr;exact fin none .ready rfl (fun l R a w h=>h) rfl
 |ret=>cases hr;exact fin (some .ret) .done rfl (fun l R a w h=>h) rfl
 |exit j=>cases hr;exact fin (some (.exit j)) .done rfl (fun l R a w h=>h) rfl
theorem aFB(P:Program)(n:Nat):∀d,sT P (go P n d)
 |0=>fun cl args h nn v h' n' hr=>by cases hr
 |d+1=>fun cl args h nn v h' n' hr=>by
  cases cl with
  |fn f=>exact TI (aFB P n d) hr
  |yl id=>exact TF (aFB P n d) hr
end
open Go.AE (All2 gZ)
abbrev RT:=Option TS
noncomputable def bq(b:Bool)(x:RT):RT:=Bool.rec (motive:=fun _=>RT→RT) (fun _=>none) (fun x=>x) b x
noncomputable def aGC(a b:Bool):Bool:=Bool.rec (motive:=fun _=>Bool→Bool) (fun _=>false) (fun b=>b) a b
theorem SK{a b:Bool}:aGC a b=eB a b:=by cases a<;>rfl
noncomputable def okN(k m:Nat):Bool:=aGC (bS (gB k) m) (bS (gB k) 16777000)
noncomputable def okI(k:Nat):Bool:=aGC (bS 1 k) (bS (gB k) 16777000)
noncomputable def BH(dst:Option Nat)(m:Nat)(v:V)(t:T V)(h:T O)(n:Nat)(d:List D):RT:=
 Option.rec (motive:=fun _=>Nat→V→T V→T O→Nat→List D→RT) (fun _ _ t h n d=>some ⟨t,h,n,d⟩)
  (fun k m v t h n d=>bq (okN k m) (some ⟨set (.t []) v 24 k t,h,n,d⟩)) dst m v t h n d
theorem sA{dst:Option Nat}{m:Nat}{v:V}{t:T V}{h:T O}{n:Nat}{d:List D}:BH dst m v t h n d=(match put m t dst v with
  |some t=>some ⟨t,h,n,d⟩
  |none=>none):=by
 cases dst with
 |none=>rfl
 |some k=>
  show bq (okN k m) _=_
  unfold put okN;rw[SK]
  show bq (eB (cU k m) (cU k 16777000)) _=(match (match eB (cU k m) (cU k 16777000) with
   |true=>some (set (.t []) v 24 k t)
   |false=>none) with
   |some t=>some ⟨t,h,n,d⟩
   |none=>none)
  cases eB (cU k m) (cU k 16777000)<;>rfl
noncomputable def aXG(e:pZ):V→Nat→Option Nat→TS→RT:=pZ.rec (motive:=fun _=>V→Nat→Option Nat→TS→RT)
 (fun v m dst ts=>BH dst m v ts.t ts.h ts.n ts.d)
 (fun id o v m dst ts=>bq (okI id) (BH dst m v ts.t (iK id o ts.h) ts.n ts.d))
 (fun o v m dst ts=>bq (okI ts.n) (BH dst m v ts.t (iK ts.n o ts.h) (gB ts.n) ts.d))
 (fun id o v m dst ts=>bq (okI id) (bq (okI ts.n) (BH dst m v ts.t (iK ts.n o (iK id .gone ts.h)) (gB ts.n) ts.d))) e
noncomputable def iL(r:nU):Nat→Option Nat→TS→RT:=Option.rec (motive:=fun _=>Nat→Option Nat→TS→RT) (fun _ _ _=>none) (fun r=>aXG r.2 r.1) r
noncomputable def aBC(r:nU)(m:Nat)(dst:Option Nat)(ts:TS):RT:=match r with
 |some r=>match SA ts.h ts.n r.2 with
  |some hn=>match put m ts.t dst r.1 with
   |some t=>some ⟨t,hn.1,hn.2,ts.d⟩
   |none=>none
  |none=>none
 |none=>none
theorem NW{r:nU}{m:Nat}{dst:Option Nat}{ts:TS}:iL r m dst ts=aBC r m dst ts:=by
 cases r with
 |none=>rfl
 |some r=>
  obtain⟨v,e⟩:=r
  have hI:∀k,okI k=eB (bS 1 k) (cU k 16777000):=fun k=>SK
  cases e with
  |no=>exact sA
  |wr id o=>
   show bq (okI id) (BH _ _ _ _ _ _ _)=_
   rw[hI,sA];simp only[aBC,SA];cases eB (bS 1 id) (cU id 16777000)<;>rfl
  |nw o=>
   show bq (okI ts.n) (BH _ _ _ _ _ _ _)=_
   rw[hI,sA];simp only[aBC,SA];cases eB (bS 1 ts.n) (cU ts.n 16777000)<;>rfl
  |ap id o=>
   show bq (okI id) (bq (okI ts.n) (BH _ _ _ _ _ _ _))=_
   rw[hI,hI,sA];simp only[aBC,SA];cases eB (bS 1 id) (cU id 16777000)<;>cases eB (bS 1 ts.n) (cU ts.n 16777000)<;>rfl
noncomputable def aQW(r:Option (V×T O×Nat)):Nat→Option Nat→TS→RT:=Option.rec (motive:=fun _=>Nat→Option Nat→TS→RT) (fun _ _ _=>none)
 (fun r m dst ts=>BH dst m r.1 ts.t r.2.1 r.2.2 ts.d) r
noncomputable def aJO(P:Program)(G:mY)(r:Option (Cl×List V)):Nat→Option Nat→TS→RT:=Option.rec (motive:=fun _=>Program→mY→Nat→Option Nat→TS→RT) (fun _ _ _ _ _=>none)
 (fun ca P G m dst ts=>aQW (goM P G ca.1 ca.2 ts.h ts.n) m dst ts) r P G
noncomputable def evQ(t:T V)(x:X):V:=X.rec (motive:=fun _=>T V→V) (fun k t=>get (.t []) t k) (fun v _=>v) x t
theorem aFW{t:T V}{x:X}:evQ t x=ev (gV t) x:=by cases x<;>rfl
section
variable {m:Nat} {dst:Option Nat} {ts:TS}
theorem aJN{v:V}:aBC (some (v,.no)) m dst ts=BH dst m v ts.t ts.h ts.n ts.d:=sA.symm
noncomputable def mvQ(x:X)(m:Nat)(dst:Option Nat)(ts:TS):RT:=BH dst m (evQ ts.t x) ts.t ts.h ts.n ts.d
theorem aNU{x:X}:mvQ x m dst ts=aBC (some (ev (gV ts.t) x,.no)) m dst ts:=by rw[aJN];unfold mvQ;rw[aFW]
end
noncomputable def opQ(op:CF):Program→mY→Nat→Option Nat→TS→RT:=CF.rec (motive:=fun _=>Program→mY→Nat→Option Nat→TS→RT)
 (fun x0 P G m dst ts=>mvQ x0 m dst ts)
 (fun x0 x1 x2 P G m dst ts=>iL (ED (gV ts.t) x0 x1 x2) m dst ts)
 (fun x0 x1 P G m dst ts=>iL (some (.c (.f (.ptr ts.n 0)),.nw (.blk true x0 x1))) m dst ts)
 (fun x0 x1 P G m dst ts=>iL (JP (gV ts.t) ts.n x0 x1) m dst ts)
 (fun x0 x1 P G m dst ts=>iL (xR (gV ts.t) x0 x1) m dst ts)
 (fun x0 x1 x2 x3 x4 P G m dst ts=>iL (JO (gV ts.t) ts.n x0 x1 x2 x3 x4) m dst ts)
 (fun x0 x1 P G m dst ts=>iL (EN (gV ts.t) (gO ts.h) x0 x1) m dst ts)
 (fun x0 x1 x2 P G m dst ts=>iL (xP (gV ts.t) (gO ts.h) x0 x1 x2) m dst ts)
 (fun x0 x1 x2 P G m dst ts=>iL (QF (gV ts.t) x0 x1 x2) m dst ts)
 (fun x0 x1 x2 x3 P G m dst ts=>iL (EY (gV ts.t) x0 x1 x2 x3) m dst ts)
 (fun x0 x1 x2 P G m dst ts=>iL (EZ (gV ts.t) x0 x1 x2) m dst ts)
 (fun x0 x1 x2 x3 P G m dst ts=>iL (EU (gV ts.t) x0 x1 x2 x3) m dst ts)
 (fun x0 P G m dst ts=>iL (PY (gV ts.t) x0) m dst ts)
 (fun x0 P G m dst ts=>iL (PZ (gV ts.t) x0) m dst ts)
 (fun x0 x1 P G m dst ts=>iL (sE (gV ts.t) x0 x1) m dst ts)
 (fun x0 x1 x2 x3 P G m dst ts=>iL (ES (gV ts.t) x0 x1 x2 x3) m dst ts)
 (fun x0 x1 x2 P G m dst ts=>iL (QD (gV ts.t) x0 x1 x2) m dst ts)
 (fun x0 x1 x2 P G m dst ts=>iL (ER (gV ts.t) x0 x1 x2) m dst ts)
 (fun x0 x1 P G m dst ts=>iL (EQ (gV ts.t) x0 x1) m dst ts)
 (fun x0 x1 P G m dst ts=>iL (ET (gV ts.t) x0 x1) m dst ts)
 (fun x0 x1 P G m dst ts=>aJO P G (pY P (gV ts.t) (.call x0 x1)) m dst ts)
 (fun x0 x1 P G m dst ts=>aJO P G (pY P (gV ts.t) (.callv x0 x1)) m dst ts)
 (fun x0 x1 x2 P G m dst ts=>aJO P G (pY P (gV ts.t) (.inv x0 x1 x2)) m dst ts)
 (fun x0 P G m dst ts=>iL (QC (gV ts.t) x0) m dst ts)
 (fun x0 P G m dst ts=>iL (EO (gV ts.t) x0) m dst ts)
 (fun x0 x1 P G m dst ts=>iL (QA (gV ts.t) x0 x1) m dst ts)
 (fun x0 x1 P G m dst ts=>iL (QB (gV ts.t) x0 x1) m dst ts)
 (fun x0 x1 x2 x3 x4 x5 P G m dst ts=>iL (JQ (gV ts.t) (gO ts.h) ts.n x0 x1 x2 x3 x4 x5) m dst ts)
 (fun x0 x1 x2 P G m dst ts=>iL (zC (gV ts.t) (gO ts.h) ts.n x0 x1 x2) m dst ts)
 (fun x0 x1 x2 x3 x4 x5 P G m dst ts=>iL (zB (gV ts.t) ts.n x0 x1 x2 x3 x4 x5) m dst ts)
 (fun x0 x1 x2 x3 P G m dst ts=>iL (PW (gV ts.t) x0 x1 x2 x3) m dst ts)
 (fun x0 x1 x2 P G m dst ts=>iL (DZ (gV ts.t) x0 x1 x2) m dst ts)
 (fun x0 x1 x2 x3 x4 P G m dst ts=>iL (EB (gV ts.t) x0 x1 x2 x3 x4) m dst ts)
 (fun x0 P G m dst ts=>iL (JN (gV ts.t) ts.n x0) m dst ts)
 (fun x0 P G m dst ts=>iL (PX (gV ts.t) (gO ts.h) x0) m dst ts)
 (fun x0 x1 x2 x3 x4 P G m dst ts=>iL (EP (gV ts.t) x0 x1 x2 x3 x4) m dst ts)
 (fun x0 x1 x2 x3 x4 P G m dst ts=>iL (EA (gV ts.t) (gO ts.h) x0 x1 x2 x3 x4) m dst ts)
 (fun x0 x1 x2 P G m dst ts=>iL (EL (gV ts.t) x0 x1 x2) m dst ts)
 (fun x0 P G m dst ts=>iL (EG (gV ts.t) x0) m dst ts)
 (fun x0 x1 x2 P G m dst ts=>iL (QE (gV ts.t) x0 x1 x2) m dst ts)
 (fun x0 x1 P G m dst ts=>iL (EE (gV ts.t) x0 x1) m dst ts)
 (fun x0 x1 P G m dst ts=>iL (EF (gV ts.t) x0 x1) m dst ts)
 (fun x0 x1 P G m dst ts=>iL (EW (gV ts.t) x0 x1) m dst ts)
 (fun x0 x1 P G m dst ts=>iL (EH (gV ts.t) x0 x1) m dst ts)
 (fun x0 x1 x2 x3 P G m dst ts=>iL (xQ (gV ts.t) x0 x1 x2 x3) m dst ts)
 (fun x0 P G m dst ts=>iL (EX (gV ts.t) x0) m dst ts)
 (fun x0 x1 P G m dst ts=>iL (EK (gV ts.t) x0 x1) m dst ts)
 (fun x0 x1 x2 x3 P G m dst ts=>iL (DY (gV ts.t) x0 x1 x2 x3) m dst ts)
 (fun x0 P G m dst ts=>iL (some (.c (.f (.mp ts.n)),.nw (.map x0 []))) m dst ts)
 (fun x0 x1 x2 x3 x4 P G m dst ts=>iL (EM (gV ts.t) (gO ts.h) x0 x1 x2 x3 x4) m dst ts)
 (fun x0 x1 x2 x3 P G m dst ts=>iL (EJ (gV ts.t) (gO ts.h) x0 x1 x2 x3) m dst ts)
 (fun x0 x1 P G m dst ts=>iL (JM (gV ts.t) ts.n x0 x1) m dst ts)
 (fun x0 P G m dst ts=>iL (QG (gV ts.t) (gO ts.h) x0) m dst ts)
 (fun x0 x1 x2 P G m dst ts=>iL (EV (gV ts.t) (gO ts.h) x0 x1 x2) m dst ts)
 (fun x0 x1 x2 P G m dst ts=>none)
 (fun P G m dst ts=>none) op
theorem aJP{r:Option (V×T O×Nat)}{m:Nat}{dst:Option Nat}{ts:TS}:aQW r m dst ts=(match r with
        |some r=>match put m ts.t dst r.1 with
         |some t=>some ⟨t,r.2.1,r.2.2,ts.d⟩
         |none=>none
        |none=>none):=by
 cases r with
 |none=>rfl
 |some r=>exact sA
theorem aMO{P:Program}{G:mY}{m:Nat}{dst:Option Nat}{ts:TS}{op:CF}{df:Option (X×List X)}{g:Option (Nat×Bool)}{es:List Nat}:opQ op P G m dst ts=aCV P G m ⟨dst,some op,df,g,es⟩ ts:=by
 have hcall:∀r:Option (Cl×List V),aJO P G r m dst ts=(match r with
   |some ca=>match goM P G ca.1 ca.2 ts.h ts.n with
    |some r=>match put m ts.t dst r.1 with
     |some t=>some ⟨t,r.2.1,r.2.2,ts.d⟩
     |none=>none
    |none=>none
   |none=>none):=fun r=>by
  cases r with
  |none=>rfl
  |some ca=>exact aJP
 cases op
 case call f args=>exact(hcall (pY P (gV ts.t) (.call f args))).trans rfl
 case callv x args=>exact(hcall (pY P (gV ts.t) (.callv x args))).trans rfl
 case inv x nm args=>exact(hcall (pY P (gV ts.t) (.inv x nm args))).trans rfl
 case alloc ty z=>exact(NW (r:=some (.c (.f (.ptr ts.n 0)),.nw (.blk true ty z)))).trans rfl
 case mkmap kd=>exact(NW (r:=some (.c (.f (.mp ts.n)),.nw (.map kd [])))).trans rfl
 all_goals first|rfl|exact NW  | exact aNU
noncomputable def aOE(x want:Bool):RT→RT→RT:=Bool.rec (motive:=fun _=>Bool→RT→RT→RT) (fun want r s=>Bool.rec (motive:=fun _=>RT) r s want) (fun want r s=>Bool.rec (motive:=fun _=>RT) s r want) x want
noncomputable def aOD(c:C):Bool→RT→RT→RT:=C.rec (motive:=fun _=>Bool→RT→RT→RT) (fun f=>F.rec (motive:=fun _=>Bool→RT→RT→RT) (fun x want r s=>aOE x want r s) (fun _ _ _ _ _=>none) (fun _ _ _ _=>none) (fun _ _ _ _=>none) (fun _ _ _ _ _=>none) (fun _ _ _ _ _ _ _ _=>none) (fun _ _ _ _=>none) (fun _ _ _ _=>none) f) (fun _ _ _ _ _ _=>none) (fun _ _ _ _ _=>none) (fun _ _ _=>none) c
noncomputable def VV(v:V):Bool→RT→RT→RT:=V.rec (motive:=fun _=>Bool→RT→RT→RT) aOD (fun _ _ _ _=>none) (fun vs _ _ s=>eA (motive:=fun _=>RT→RT) (fun s=>s) (fun _ _ _ _=>none) vs s) v
noncomputable def aMD(P:Program)(G:mY)(ρ:Option Nat)(m:Nat)(ei:EI)(ts:TS):RT:=Option.rec (motive:=fun _=>Program→mY→Option Nat→Nat→EI→TS→RT)
 (fun P G _ m ei ts=>Option.rec (motive:=fun _=>Program→mY→Nat→Option Nat→TS→RT) (fun _ _ _ _ _=>none) opQ ei.op P G m ei.dst ts)
 (fun q P G ρ m ei ts=>Option.rec (motive:=fun _=>RT) (PC P m ei q.1 q.2 ts) (fun _=>none) ρ) ei.df P G ρ m ei ts
noncomputable def XB(P:Program)(G:mY)(ρ:Option Nat)(m:Nat)(ei:EI)(ts:TS):RT:=Option.rec (motive:=fun _=>Program→mY→Option Nat→Nat→EI→TS→RT) aMD
 (fun g P G ρ m ei ts=>VV (get (.t []) ts.t g.1) g.2 (aMD P G ρ m ei ts) (BH ei.dst m (.t []) ts.t ts.h ts.n ts.d)) ei.guard P G ρ m ei ts
theorem XL{P:Program}{G:mY}{ρ:Option Nat}{m:Nat}{ei:EI}{ts:TS}:aMD P G ρ m ei ts=(match ei.df,ρ with
  |none,_=>aCV P G m ei ts
  |some (x,xs),none=>PC P m ei x xs ts
  |some _,some _=>none):=by
 obtain⟨dst,op,df,g,es⟩:=ei;cases df with
 |none=>
  cases op with
  |none=>rfl
  |some op=>exact aMO
 |some q=>cases ρ<;>rfl
theorem aB8{v:V}{want:Bool}{r s:RT}:VV v want r s=(match (match v with
  |.c (.f (.b x))=>match want with
   |true=>some x
   |false=>some (sO x)
  |.t []=>some false
  |_=>none) with
  |some true=>r
  |some false=>s
  |none=>none):=by
 rcases v with c|_|vs
 ·rcases c with f|_|_|_
  ·cases f with
   |b x=>cases x<;>cases want<;>rfl
   |_=>rfl
  ·rfl
  ·rfl
  ·rfl
 ·rfl
 ·cases vs<;>rfl
theorem aCK{P:Program}{G:mY}{ρ:Option Nat}{m:Nat}{ei:EI}{ts:TS}:XB P G ρ m ei ts=vN P G ρ m ei ts:=by
 obtain⟨dst,op,df,g,es⟩:=ei;cases g with
 |none=>exact XL
 |some g=>
  obtain⟨j,want⟩:=g
  show VV (gV ts.t j) want _ _=_
  rw[aB8,XL,sA];unfold vN wZ;rfl
noncomputable def aD4(f:EI→TS→RT)(l:List EI)(ts:TS):RT:=eA (motive:=fun _=>(EI→TS→RT)→TS→RT) (fun _ ts=>some ts)
 (fun ei _ ih f ts=>Option.rec (motive:=fun _=>((EI→TS→RT)→TS→RT)→(EI→TS→RT)→RT) (fun _ _=>none) (fun s ih f=>ih f s) (f ei ts) ih f) l f ts
theorem XP{f:EI→TS→RT}:∀ {l:List EI} {ts:TS},aD4 f l ts=PE f l ts
 |[],ts=>rfl
 |ei::l,ts=>by
  have e:aD4 f (ei::l) ts=Option.rec (motive:=fun _=>((EI→TS→RT)→TS→RT)→(EI→TS→RT)→RT) (fun _ _=>none) (fun s ih f=>ih f s) (f ei ts) (fun f ts=>aD4 f l ts) f:=rfl
  rw[e,JE];cases f ei ts with
  |none=>rfl
  |some s=>exact XP
abbrev RX:=Option (Ex×TS)
noncomputable def aPV(r:RT):RX:=Option.rec (motive:=fun _=>RX) none (fun s=>some (.normal,s)) r
noncomputable def aHA(r:RX)(ih:EC→TS→RX)(b:EC):RX:=Option.rec (motive:=fun _=>(EC→TS→RX)→EC→RX) (fun _ _=>none)
 (fun r ih b=>Ex.rec (motive:=fun _=>TS→(EC→TS→RX)→EC→RX) (fun s ih b=>ih b s) (fun id s _ _=>some (.exit id,s)) (fun s _ _=>some (.ret,s)) r.1 r.2 ih b) r ih b
noncomputable def aR8(r:RX)(id:Nat):RX:=Option.rec (motive:=fun _=>Nat→RX) (fun _=>none)
 (fun r id=>Ex.rec (motive:=fun _=>TS→Nat→RX) (fun s _=>some (.normal,s)) (fun j s id=>Bool.rec (motive:=fun _=>RX) (some (.exit j,s)) (some (.normal,s)) (bE j id)) (fun s _=>some (.ret,s)) r.1 r.2 id) r id
noncomputable def aR4(c:C):RX→RX→RX:=C.rec (motive:=fun _=>RX→RX→RX) (fun f=>F.rec (motive:=fun _=>RX→RX→RX) (fun x a b=>Bool.rec (motive:=fun _=>RX) b a x) (fun _ _ _ _=>none) (fun _ _ _=>none) (fun _ _ _=>none) (fun _ _ _ _=>none) (fun _ _ _ _ _ _ _=>none) (fun _ _ _=>none) (fun _ _ _=>none) f) (fun _ _ _ _ _=>none) (fun _ _ _ _=>none) (fun _ _=>none) c
noncomputable def aLW(v:V):RX→RX→RX:=V.rec (motive:=fun _=>RX→RX→RX) aR4 (fun _ _ _=>none) (fun _ _ _=>none) v
noncomputable def aFZ(P:Program)(G:mY)(m:Nat)(l:List EI)(ts:TS):RX:=Bool.rec (motive:=fun _=>RX) none
 (Option.rec (motive:=fun _=>RX) none (fun s=>some (.normal,s)) (LB P G (BW l) m l ts)) (okS l)
noncomputable def ecQ(c:EC):(EC→TS→RX)→Program→mY→Option Nat→Nat→TS→RX:=EC.rec (motive:=fun _=>(EC→TS→RX)→Program→mY→Option Nat→Nat→TS→RX)
 (fun _ _ _ _ _ ts=>some (.normal,ts))
 (fun l _ P G ρ m ts=>aPV (aD4 (XB P G ρ m) l ts))
 (fun l _ P G _ m ts=>aFZ P G m l ts)
 (fun a b _ _ ih _ _ _ _ ts=>aHA (ih a ts) ih b)
 (fun x a b _ _ ih _ _ _ _ ts=>aLW (evQ ts.t x) (ih a ts) (ih b ts))
 (fun id a _ ih _ _ _ _ ts=>aR8 (ih a ts) id)
 (fun a _ ih _ _ _ _ ts=>aHA (ih a ts) ih (.loop a))
 (fun id _ _ _ _ _ ts=>some (.exit id,ts))
 (fun _ _ _ _ _ ts=>some (.ret,ts))
 (fun x ps a b _ P G ρ m ts=>runR P G ρ m x ps a b ts)
 (fun _ _ _ _ _ _=>none) c
noncomputable def uB(P:Program)(G:mY)(ρ:Option Nat)(m:Nat)(n:Nat):EC→TS→RX:=Nat.rec (motive:=fun _=>EC→TS→RX) (fun _ _=>none) (fun _ ih c ts=>ecQ c ih P G ρ m ts) n
theorem oK{P:Program}{G:mY}{ρ:Option Nat}{m:Nat}:∀ {n:Nat} {c:EC} {ts:TS},uB P G ρ m n c ts=exec P G ρ m n c ts
 |0,c,ts=>rfl
 |n+1,c,ts=>by
  have e:uB P G ρ m (n+1) c ts=ecQ c (uB P G ρ m n) P G ρ m ts:=rfl
  rw[e];cases c with
  |reg l=>
   show aPV (aD4 (XB P G ρ m) l ts)=_
   have e1:XB P G ρ m=vN P G ρ m:=by funext ei ts;exact aCK
   rw[e1,XP,RU];cases PE (vN P G ρ m) l ts<;>rfl
  |dreg l=>
   rw[KS]
   show aFZ P G m l ts=_
   unfold aFZ;cases okS l with
   |false=>rfl
   |true=>
    cases LB P G (BW l) m l ts<;>rfl
  |seq a b=>
   show aHA (uB P G ρ m n a ts) (uB P G ρ m n) b=_
   rw[RS,oK];cases exec P G ρ m n a ts with
   |none=>rfl
   |some r=>
    obtain⟨e,s⟩:=r;cases e with
    |normal=>exact oK
    |exit id=>rfl
    |ret=>rfl
  |cond x a b=>
   show aLW (evQ ts.t x) (uB P G ρ m n a ts) (uB P G ρ m n b ts)=_
   rw[KT,oK,oK,aFW]
   rcases ev (gV ts.t) x with c|_|_
   ·rcases c with f|_|_|_
    ·cases f with
     |b v=>cases v<;>rfl
     |_=>rfl
    ·rfl
    ·rfl
    ·rfl
   ·rfl
   ·rfl
  |block id a=>
   show aR8 (uB P G ρ m n a ts) id=_
   rw[GM,oK];cases exec P G ρ m n a ts with
   |none=>rfl
   |some r=>
    obtain⟨e,s⟩:=r;cases e with
    |exit j=>
     show Bool.rec (motive:=fun _=>RX) _ _ (bE j id)=match bE j id with|true=>_|false=>_
     cases bE j id<;>rfl
    |_=>rfl
  |loop a=>
   show aHA (uB P G ρ m n a ts) (uB P G ρ m n) (.loop a)=_
   rw[KR,oK];cases exec P G ρ m n a ts with
   |none=>rfl
   |some r=>
    obtain⟨e,s⟩:=r;cases e with
    |normal=>exact oK
    |exit id=>rfl
    |ret=>rfl
  |_=>rfl
noncomputable def aGA(P:Program)(n:Nat)(G:mY)(f:FuncId)(args:List V)(h:T O)(nn:Nat):Option (FnC×TS):=match tab P f with
 |some c=>match eB (bS (len args) c.m) (cU (len args) 16777000) with
  |true=>match uB P G none c.m n c.code ⟨GL args 0 .e,h,nn,[]⟩ with
   |some r=>match r.1 with
    |.exit _=>none
    |_=>some (c,r.2)
   |none=>none
  |false=>none
 |none=>none
theorem aG9{P:Program}{n:Nat}{G:mY}{f:FuncId}{args:List V}{h:T O}{nn:Nat}:aGA P n G f args h nn=GX P n G f args h nn:=by
 unfold aGA GX;cases tab P f with
 |none=>rfl
 |some c=>simp only[oK];rfl
noncomputable def XM(P:Program)(n:Nat)(G:mY)(f:FuncId)(args:List V)(h:T O)(nn:Nat):Option (V×T O×Nat):=match aGA P n G f args h nn with
 |some r=>match FQ P n G r.2.d r.2.h r.2.n with
  |some hn=>match TJ r.2.t hn.1 r.1.res with
   |some vs=>some (vI vs,hn.1,hn.2)
   |none=>none
  |none=>none
 |none=>none
noncomputable def goQ(P:Program)(n:Nat)(d:Nat):mY:=Nat.rec (motive:=fun _=>mY) (fun _ _ _ _=>none) (fun _ G cl args h nn=>match cl with
 |.fn f=>XM P n G f args h nn
 |.yl id=>aCU P n G id args h nn) d
theorem aFC(P:Program)(n:Nat):∀d,goQ P n d=go P n d
 |0=>rfl
 |d+1=>by
  funext cl args h nn
  have e:goQ P n (d+1) cl args h nn=(match cl with
   |.fn f=>XM P n (goQ P n d) f args h nn
   |.yl id=>aCU P n (goQ P n d) id args h nn):=rfl
  rw[e,aFC P n d];cases cl with
  |yl id=>rfl
  |fn f=>
   show XM P n (go P n d) f args h nn=aCW P n (go P n d) f args h nn
   unfold XM aCW;rw[aG9];rfl
open Go.AE (All2)
noncomputable def hG(o:Obj)(vs:List C):T O:=iK 0 (.glb o vs) .e
def aJ6:Option (V×T O×Nat)→Bool
 |some (.c (.f (.b true)),_,_)=>true
 |_=>false
theorem aB5{r:Option (V×T O×Nat)}(h:aJ6 r=true):∃h' n',r=some (.c (.f (.b true)),h',n'):=by
 unfold aJ6 at h;split at h
 ·exact⟨_,_,rfl⟩
 ·cases h
def GlbOK(o:Obj)(vs:List C):Prop:=∃cs ty fz,o=.cells cs ty fz∧vs.length≤cs.size∧∀(k:Nat) c,vs[k]?=some c→∃u,cs[k]?=some u∧CR Bt.nil c u
theorem II{P:Program}{G:mY}(hOK:sT P G){f:FuncId}{o:Obj}{vs:List C}(hr:aJ6 (G (.fn f) [] (hG o vs) 1)=true)(ho:GlbOK o vs){w:World}(hw:w.heap[0]?=some o) :
  Calls P f #[] w fun e w'=>e=.returned (.bool true)∧Below w.heap.size w w':=by
 obtain⟨h',n',hr⟩:=aB5 hr;obtain⟨e0,_,_,hf⟩:=hOK _ _ _ _ _ _ _ hr;obtain⟨cs,ty,fz,rfl,h1,h2⟩:=ho
 have hg:gO (hG (.cells cs ty fz) vs)=fu (gO .e) 0 (.glb (.cells cs ty fz) vs):=jU (by decide)
 obtain⟨β,hβ⟩:∃β:Bt,β=fun i=>if i=0 then some (0,cs.size) else none:=⟨_,rfl⟩
 have b0:β 0=some (0,cs.size):=by rw[hβ];simp
 have bn:∀i x,β i=some x→i=0∧x=(0,cs.size):=by
  intro i x hi;rw[hβ]at hi
  by_cases e:i=0
  ·subst e;simp at hi;exact⟨rfl,hi.symm⟩
  ·simp[e]at hi
 have hlt:0<w.heap.size:=(bF.1 hw).1
 have hmo:Mo Bt.nil β:=fun i x hi=>by cases hi
 have hpre:Pre β w [] #[] (gO (hG (.cells cs ty fz) vs)) 1:=by
  refine⟨trivial,⟨?_,?_,?_⟩,fun i hi=>by rw[hβ];simp;omega,⟨_,b0⟩⟩
  ·intro i j b o1 o2 hi hj _ _;rw[(bn i _ hi).1,(bn j _ hj).1]
  ·intro i b N hi
   obtain⟨_,hx⟩:=bn i _ hi;cases hx;exact hlt
  ·intro i b N hi
   obtain⟨rfl,hx⟩:=bn i _ hi;cases hx;rw[hg,eV];refine⟨cs,ty,fz,hw,rfl,rfl,h1,fun k c hc=>?_⟩;obtain⟨u,h3,h4⟩:=h2 k c hc;exact⟨u,h3,CR.keep hmo h4⟩
 refine(callsIn_wide.1 (hf β w #[] 0 hpre)).mono ?_;rintro e w' ⟨u,β',rfl,q1,q2,q3,_⟩
 have q1:u=.bool true:=q1
 subst q1;refine⟨rfl,q3.os,q3.tape,q3.output,q3.size,fun k hk=>?_⟩
 by_cases hk0:k=0
 ·subst hk0
  have h5:=q2.obj 0 0 _ (q3.bm 0 _ b0)
  rw[e0,hg,eV]at h5;obtain⟨_,_,_,h6,_⟩:=h5;rw[h6,hw]
 ·exact q3.fr k hk fun i N hi=>by
    obtain⟨_,hx⟩:=bn i _ hi;cases hx;exact hk0 rfl
theorem aOH(P:Program)(n d:Nat):sT P (goQ P n d):=by rw[aFC];exact aFB P n d
open Go.AE (All2)
end Go.CE
