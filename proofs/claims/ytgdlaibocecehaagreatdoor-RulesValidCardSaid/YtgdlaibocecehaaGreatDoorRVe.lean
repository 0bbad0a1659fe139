import Derived.Test.YtgdlaibocecehaaGreatDoorRVd
import Derived.Sort.Row
import Derived.Sort.Grow
import Derived.Test.YtgdlaibocecehaaGreatDoorProg
set_option linter.unusedVariables false
set_option linter.unusedSimpArgs false
namespace Go.AE
open _root_.Array renaming getElem?_toList→bC
open _root_.Bool renaming and_eq_true→aY
open IntKind renaming i64→aA
open _root_.List renaming getD_eq_getElem?_getD→aG,getElem?_eq_getElem→aN,getElem?_eq_none→bL,getElem?_eq_some_iff→aV,length_append→gC,length_set→fI,mem_cons→dZ,mem_cons_of_mem→cV,mem_cons_self→dI,mem_of_getElem?→cL
open _root_.Nat renaming beq→bE,eq_of_beq_eq_true→aH,lt_of_lt_of_le→cI,lt_or_ge→cK,zero_add→dV
open _root_.Option renaming bind_eq_bind→aE,bind_eq_some_iff→aB,map_eq_some_iff→aM,pure_def→aK,some.injEq→aD
open Go.RowKit
section
variable {P:Program} {G:Nat→Option Obj}
end
section
variable {P:Program} {G:Nat→Option Obj}
end
section
variable {P:Program} {G:Nat→Option Obj} {β:Bt} {R:Nat→Prop} {w:World} {st:St}
theorem NR{h h':List AO}(hh:HS G β R w h){β':Bt}{R':Nat→Prop}(hlen:h.length≤h'.length)(hf:∀i x,β' i=some x→i<h'.length)(hrm:∀b,R b→R' b)(hrlt:∀b,R' b→b<w.heap.size)
  (hinj:∀i j b o o',β' i=some (b,o)→β' j=some (b,o')→(bN .gone h' i).live=true→(bN .gone h' j).live=true→i=j) (hsep:∀i b o,β' i=some (b,o)→(bN .gone h' i).live=true→¬R' b)
  (hlt:∀i b o,β' i=some (b,o)→b<w.heap.size) (hobj:∀i b o,β' i=some (b,o)→OR β' R' w (bN .gone h' i) b o)
  (hql:∀b ad,β'.q b=some ad→b<w.heap.size∧¬R' b∧∀i o,β' i=some (b,o)→(bN .gone h' i).live=false):HS G β' R' w h':=
 ⟨hf,hinj,hsep,hlt,hrlt,hobj,fun b o hb=>⟨hrm b (hh.gl b o hb).1,(hh.gl b o hb).2⟩,hql⟩
theorem aJM(c:dA):jH c≠[]:=by
 induction c with
 |seq a b iha _=>
  simp only[jH];cases h:jH a with
  |nil=>exact absurd h iha
  |cons x r=>simp[qY]
 |_=>simp[jH]
theorem HE:∀ {a b pre:List dA} {x:dA},b≠[]→qY a b=qY pre [x]→∃pb,b=qY pb [x]∧pre=qY a pb
 |[],b,pre,x,_,h=>⟨pre,h,rfl⟩
 |c::a,b,[],x,hb,h=>by
  simp only[qY,List.cons.injEq]at h;cases a with
  |nil=>exact absurd h.2 hb
  |cons _ _=>simp[qY]at h
 |c::a,b,p::pre,x,hb,h=>by
  simp only[qY,List.cons.injEq]at h;obtain⟨pb,h1,h2⟩:=HE hb h.2;exact⟨pb,h1,by rw[h.1,h2];rfl⟩
def vF:V:=.c (.lp 0 0 (fun _ _=>.b true) 0 0)
theorem aNS{G:Nat→Option Obj}{K:X→St→Prop}{st:St}(h:RK P G [] vF K .ret st):False:=by
 obtain⟨x,h1,h2⟩:=h
 have h1:[vI []]=[x]:=h1
 injection h1 with h1 _
 have:=h2 Bt.nil (fun _=>False) (default:World) (.tuple #[]) (by rw[←h1];exact⟨#[],rfl,trivial⟩)
 obtain⟨ad,_,h3,_⟩:=this;exact absurd h3 (Nat.lt_irrefl 0)
theorem cO.toRet{G:Nat→Option Obj}:∀ {c:dA} {pre:List dA} {st:St} {Q:X→St→Prop} {K:X→St→Prop},jH c=qY pre [.ret]→cO P G [] vF pre st Q→(∀st,Q .normal st→K .ret st)→(∀id st,Q (.exit id) st→K (.exit id) st)→jV P G c st K:=by
 intro c;induction c with
 |seq a b iha ihb=>
  intro pre st Q K hf h hk hx;obtain⟨pb,h1,rfl⟩:=HE (aJM b) hf
  have h2:=cO.code (cO.cut h)
  refine jV.seq h2 (fun st' hq=>ihb h1 hq hk hx) (fun e st' he hq=>?_);cases e with
  |normal=>exact absurd rfl he
  |exit id=>exact hx id st' hq
  |ret=>exact(aNS hq).elim
 |ret=>
  intro pre st Q K hf h hk hx;cases pre with
  |nil=>
   obtain⟨st2,h1,h2⟩:=h;refine jV.pre h1 ?_;exact jV.ev (ext:=fB []) (cD (by simp)) (ac:=.ret) (st:=st2) (k:=fun e s=>.done e s) (K:=K) (hk _ h2)
  |cons p pre=>cases pre<;>simp[jH,qY]at hf
 |_=>
  intro pre st Q K hf;cases pre with
  |nil=>simp[jH,qY]at hf
  |cons p pre=>cases pre<;>simp[jH,qY]at hf
theorem aJK{G:Nat→Option Obj}{f:FuncId}{fn:Func}{r:Nat}{ty:TypeId}{sz n:Nat}{F:Nat→Nat→PV}{pre:List dA}(hf:P.funcs[f]?=some fn)(hok:okF P fn=true)(hr:fn.results.toList=[.tmp r])(hpre:cS P fn=qY pre [.ret]){args:List V}(hp:mN args=true)
  (h:cO P G [] vF pre (iR fn args) fun e st=>e=.normal∧WQ r ty sz n F .ret st) (h0:List AO) :
  lW P G f args h0 fun x h'=>x=.c (.sl (fK h0) sz 0 n)∧h'=iF (.row ty sz n fun e o=>.p (F e o)) h0:=
 aOL hf hok hr hp (cO.toRet hpre h (fun _ hq=>hq.2) (fun _ _ hq=>by cases hq.1)) h0
theorem KE{p q:Tr}{K:X→St→Prop}:(Tr.alt p q).holds P G K↔p.holds P G K∧q.holds P G K:=Iff.rfl
theorem ZV{j:Nat}{y:V}(h:eL (bN (.c .top) st.t j) y):cW G st ⟨upd y st.t j,st.h⟩:=fun β R a w hs=>
 ⟨β,R,eC.same hs (fun u hu=>h β R w u hu),Fr.refl _ _ _,fun _ hb=>hb⟩
end
section
variable {P:Program} {G:Nat→Option Obj} {β:Bt} {R:Nat→Prop} {w:World} {st:St}
end
section
variable {P:Program} {G:Nat→Option Obj}
theorem aFG{β:Bt}{R:Nat→Prop}{w:World}{h:List AO}(hh:HS G β R w h){id:Nat}{ty:TypeId}{sz n:Nat}{f:Nat→Nat→C}(hid:bN .gone h id=.row ty sz n f)(hf:∀e o,e<n→o<sz→BJ (f e o)=true) :
  ∃β' R',HS G β' R' w (upd .gone h id)∧Gr β R w β' R' w∧(∀i,β' i=β i)∧∀off len u,off+len≤n→CR β R w (.sl id sz off len) u→PR R' w (.l sz len fun e o=>tE (f (e+off) o)) u:=by
 have hlid:=kF hid (by simp)
 let own:Nat→Prop:=fun b1=>(∃N,β id=some (b1,N))∨∃b N k,β id=some (b,N)∧β.q b1=some (b,k)
 let R':Nat→Prop:=fun b1=>R b1∨own b1
 open Classical in
 let β':Bt:=⟨β.f,fun b1=>if own b1 then none else β.q b1⟩
 have hq':∀b2 ad,β'.q b2=some ad→¬own b2∧β.q b2=some ad:=by
  intro b2 ad h
  have h:(if own b2 then none else β.q b2)=some ad:=h
  split at h
  ·cases h
  ·rename_i h1;exact⟨h1,h⟩
 have hq2:∀b2 ad,¬own b2→β.q b2=some ad→β'.q b2=some ad:=by
  intro b2 ad h1 h2
  show (if own b2 then none else β.q b2)=some ad
  rw[if_neg h1];exact h2
 have hkp:jC β R w β' R' w:=⟨fun _ _ h=>h,fun _ h=>.inl h,fun _ _=>rfl⟩
 have hlive:(bN .gone h id).live=true:=by rw[hid];rfl
 have hl2:∀i,(bN .gone (upd .gone h id) i).live=true→i≠id∧(bN .gone h i).live=true:=fun i hl=>jX hl
 have hlf:∀i,(bN .gone h i).live=false→(bN .gone (upd .gone h id) i).live=false:=fun i hl=>by
  by_cases e:id=i
  ·subst e;rw[gQ _ _ _ hlid];rfl
  ·rw[fC _ _ _ e];exact hl
 have hown_live:∀i b o,β i=some (b,o)→(bN .gone (upd .gone h id) i).live=true→¬own b:=by
  intro i b o hi hl;obtain⟨k1,k2⟩:=hl2 i hl;rintro (⟨N,h1⟩|⟨b0,N,k,h1,h2⟩)
  ·exact k1 (hh.inj i id b o N hi h1 k2 hlive)
  ·have:=(hh.ql b _ h2).2.2 i o hi
   rw[k2]at this;cases this
 have hval:∀off len u,off+len≤n→CR β R w (.sl id sz off len) u→PR R' w (.l sz len fun e o=>tE (f (e+off) o)) u:=by
  rintro off len u hn ⟨A,c,rfl,g1,g2,g3⟩;refine⟨A,c,rfl,g1,g2,fun hn0=>?_⟩
  rcases g3 with⟨_,g4,_⟩|⟨b,o0,g4,rfl,g7⟩
  ·omega
  ·have hob:=hh.obj id b o0 g4
   rw[hid]at hob;obtain⟨cs,g8,g80,g9,g10⟩:=hob;refine⟨_,rfl,.inr (.inl ⟨o0,g4⟩),fun e q he hq=>?_⟩;obtain⟨u,h5,h6⟩:=g10 (e+off) q (by omega) hq;refine⟨u,?_,?_⟩
   ·rw[add_mid,cell_of_row w b _ cs ty (0,0) g8,←h5]
    congr 1;rw[Nat.add_mul];omega
   ·have:=hf (e+off) q (by omega) hq
    show PR R' w (tE (f (e+off) q)) u
    cases hfe:f (e+off) q with
    |p x=>
     rw[hfe]at h6;exact PR.keep (fun _ h=>.inl h) (fun _ _=>rfl) _ h6
    |own ty2 sz2 n2 f2=>
     rw[hfe]at h6;obtain⟨A,c,k1,k2,k3,k4⟩:=h6;refine⟨A,c,k1,k2,k3,fun hn=>?_⟩
     rcases k4 with⟨_,k5,_⟩|⟨b2,cs2,k5,k6,k7,k8,k9⟩
     ·omega
     ·refine⟨_,k5,.inr (.inr ⟨b,o0,_,g4,k6⟩),fun e2 o2 he2 ho2=>?_⟩
      obtain⟨u2,r1,r2⟩:=k9 e2 o2 he2 ho2;exact⟨u2,by rw[add_mid,cell_of_row w b2 _ cs2 ty2 (0,0) k7,dV];exact r1,PR.keep (fun _ h=>.inl h) (fun _ _=>rfl) _ r2⟩
    |_=>rw[hfe]at this;cases this
 have hHS:HS G β' R' w (upd .gone h id):=by
  refine NR hh (by rw[jB,fI];exact Nat.le_refl _) (fun i x hi=>by rw[jB,fI];exact hh.dom i x hi) (fun _ h=>.inl h) ?_ ?_ ?_ hh.lt ?_ ?_
  ·rintro b (h1|⟨N,h1⟩|⟨b0,N,k,h1,h2⟩)
   ·exact hh.rlt b h1
   ·exact hh.lt id b N h1
   ·exact(hh.ql b _ h2).1
  ·intro i j b o o' hi hj li lj
   exact hh.inj i j b o o' hi hj (hl2 i li).2 (hl2 j lj).2
  ·rintro i b o hi li (h1|h1)
   ·exact hh.sep i b o hi (hl2 i li).2 h1
   ·exact hown_live i b o hi li h1
  ·intro i b o hi
   cases hl:(bN .gone (upd .gone h id) i).live with
   |false=>exact OR.dead_gone hkp hl (hh.obj i b o hi)
   |true=>
    obtain⟨k1,k2⟩:=hl2 i hl;rw[fC _ _ _ (fun e=>k1 e.symm)];refine OR.keep hkp (fun b1 k h1=>⟨hq2 b1 _ ?_ h1,rfl⟩) rfl (hh.obj i b o hi);rintro (⟨N,h2⟩|⟨b0,N,k',h2,h3⟩)
    ·have:=(hh.ql b1 _ h1).2.2 id N h2
     rw[hlive]at this;cases this
    ·rw[h1]at h3;injection h3 with h3;injection h3 with h3 _
     exact k1 (hh.inj i id b o N hi (h3▸h2) k2 hlive)
  ·intro b2 ad hq
   obtain⟨k1,k2⟩:=hq' b2 ad hq;obtain⟨q1,q2,q3⟩:=hh.ql b2 ad k2;exact⟨q1,fun h=>h.elim q2 k1,fun i o hi=>hlf i (q3 i o hi)⟩
 refine⟨β',R',hHS,⟨⟨rfl,rfl,rfl,Nat.le_refl _,fun _ _=>rfl,fun _ _ _=>rfl,?_,?_⟩,fun _ _ h=>h,fun _ h=>.inl h⟩,fun _=>rfl,hval⟩
 ·rintro b2 (⟨i,o,hi⟩|⟨ad,hq⟩)
  ·exact .inl (.inl ⟨i,o,hi⟩)
  ·exact .inl (.inr ⟨ad,(hq' b2 ad hq).2⟩)
 ·rintro b (h1|⟨N,h1⟩|⟨b0,N,k,h1,h2⟩)
  ·exact .inl h1
  ·exact .inr (.inl (.inl ⟨id,N,h1⟩))
  ·exact .inr (.inl (.inr ⟨_,h2⟩))
end
def aJI(id sz:Nat)(F:Nat→Nat→PV):C→C
 |.sl i s off len=>match bE i id&&bE s sz with
  |true=>.p (.l sz len fun e o=>F (e+off) o)
  |false=>.sl i s off len
 |x=>x
def YX(id sz:Nat)(F:Nat→Nat→PV):List C→List C
 |[]=>[]
 |x::r=>aJI id sz F x::YX id sz F r
def aXA(id sz:Nat)(F:Nat→Nat→PV):V→V
 |.c x=>.c (aJI id sz F x)
 |.a cs=>.a (YX id sz F cs)
 |.t vs=>.t vs
def aOJ(id sz:Nat)(F:Nat→Nat→PV):List V→List V
 |[]=>[]
 |x::r=>aXA id sz F x::aOJ id sz F r
def aJH(id sz:Nat)(F:Nat→Nat→PV):AO→AO
 |.cells ty vs=>.cells ty (YX id sz F vs)
 |x=>x
def BM(id sz:Nat)(F:Nat→Nat→PV):List AO→List AO
 |[]=>[]
 |x::r=>aJH id sz F x::BM id sz F r
def ocC(id sz:Nat):C→List (Nat×Nat)
 |.sl i s off len=>match bE i id&&bE s sz with
  |true=>[(off,len)]
  |false=>[]
 |_=>[]
def MX(id sz:Nat):List C→List (Nat×Nat)→List (Nat×Nat)
 |[],l=>l
 |x::r,l=>match ocC id sz x with
  |[]=>MX id sz r l
  |p::_=>p::MX id sz r l
def ocT(id sz:Nat):List V→List (Nat×Nat)→List (Nat×Nat)
 |[],l=>l
 |.c x::r,l=>MX id sz [x] (ocT id sz r l)
 |.a cs::r,l=>MX id sz cs (ocT id sz r l)
 |.t _::r,l=>ocT id sz r l
def ocH(id sz:Nat):List AO→List (Nat×Nat)→List (Nat×Nat)
 |[],l=>l
 |.cells _ vs::r,l=>MX id sz vs (ocH id sz r l)
 |_::r,l=>ocH id sz r l
def aX2(id sz:Nat)(st:St):List (Nat×Nat):=ocT id sz st.t (ocH id sz st.h [])
def aXB(id sz:Nat)(F:Nat→Nat→PV)(st:St):St:=⟨aOJ id sz F st.t,BM id sz F (upd .gone st.h id)⟩
theorem nJ{id sz:Nat}{p:Nat×Nat}:∀ {cs:List C} {l:List (Nat×Nat)},p∈l→p∈MX id sz cs l
 |[],_,h=>h
 |x::r,l,h=>by
  unfold MX;split
  ·exact nJ h
  ·exact cV _ (nJ h)
theorem xO{id sz off len:Nat}:∀ {cs:List C} {l:List (Nat×Nat)},C.sl id sz off len∈cs→(off,len)∈MX id sz cs l
 |x::r,l,h=>by
  unfold MX
  rcases dZ.1 h with rfl|h
  ·have:ocC id sz (.sl id sz off len)=[(off,len)]:=by show (match bE id id&&bE sz sz with|true=>[(off,len)]|false=>[])=_;rw[Nat.beq_refl,Nat.beq_refl];rfl
   rw[this];exact dI ..
  ·split
   ·exact xO h
   ·exact cV _ (xO h)
theorem xN{id sz:Nat}{p:Nat×Nat}:∀ {t:List V} {l:List (Nat×Nat)},p∈l→p∈ocT id sz t l
 |[],_,h=>h
 |.c _::r,l,h=>nJ (xN h)
 |.a _::r,l,h=>nJ (xN h)
 |.t _::r,l,h=>by unfold ocT;exact xN h
def inV(x:C):V→Prop
 |.c y=>x=y
 |.a cs=>x∈cs
 |.t _=>False
theorem MW{id sz off len:Nat}:∀ {t:List V} {l:List (Nat×Nat)} {v:V},v∈t→inV (.sl id sz off len) v→(off,len)∈ocT id sz t l
 |x::r,l,v,h,hv=>by
  rcases dZ.1 h with rfl|h1
  ·cases v with
   |c y=>cases hv;exact xO (dI ..)
   |a cs=>exact xO hv
   |t _=>exact hv.elim
  ·cases x with
   |c y=>exact nJ (MW h1 hv)
   |a cs=>exact nJ (MW h1 hv)
   |t _=>unfold ocT;exact MW h1 hv
theorem UI{id sz off len:Nat}{ty:TypeId}{vs:List C}:∀ {h:List AO} {l:List (Nat×Nat)},AO.cells ty vs∈h→.sl id sz off len∈vs→(off,len)∈ocH id sz h l
 |x::r,l,h,hv=>by
  rcases dZ.1 h with rfl|h1
  ·exact xO hv
  ·cases x with
   |cells ty' vs'=>exact nJ (UI h1 hv)
   |_=>unfold ocH;exact UI h1 hv
theorem YW(id sz:Nat)(F:Nat→Nat→PV):∀(h:List AO),BM id sz F h=h.map (aJH id sz F)
 |[]=>rfl
 |_::r=>by rw[BM,YW id sz F r];rfl
section
variable {G:Nat→Option Obj} {st:St}
theorem YY{β β':Bt}{R R':Nat→Prop}{w:World}{id sz n:Nat}{f:Nat→Nat→C}{F:Nat→Nat→PV}(hk:jC β R w β' R' w)
  (hF:∀e o,e<n→o<sz→jT (tE (f e o)) (F e o))
  (hval:∀off len u,off+len≤n→CR β R w (.sl id sz off len) u→PR R' w (.l sz len fun e o=>tE (f (e+off) o)) u) {x:C} {u:Value} (hc:∀off len,x=.sl id sz off len→off+len≤n) (h:CR β R w x u):CR β' R' w (aJI id sz F x) u:=by
 unfold aJI;split
 ·rename_i i s off len
  split
  ·rename_i e
   rw[aY]at e;obtain rfl:=aH e.1;obtain rfl:=aH e.2;exact jT.l (fun e o he ho=>hF (e+off) o (by have:=hc off len rfl;omega) ho) R' w u (hval off len u (hc off len rfl) h)
  ·exact CR.keep hk h
 ·exact CR.keep hk h
theorem GC{β β':Bt}{R R':Nat→Prop}{w:World}{id sz n:Nat}{f:Nat→Nat→C}{F:Nat→Nat→PV}(hk:jC β R w β' R' w)
  (hF:∀e o,e<n→o<sz→jT (tE (f e o)) (F e o))
  (hval:∀off len u,off+len≤n→CR β R w (.sl id sz off len) u→PR R' w (.l sz len fun e o=>tE (f (e+off) o)) u):∀ {cs:List C} {us:List Value},(∀x∈cs,∀off len,x=.sl id sz off len→off+len≤n)→All2 (CR β R w) cs us→All2 (CR β' R' w) (YX id sz F cs) us
 |[],[],_,_=>trivial
 |[],_::_,_,h=>h.elim
 |_::_,[],_,h=>h.elim
 |_::_,_::_,hc,h=>⟨YY hk hF hval (hc _ (dI ..)) h.1,GC hk hF hval (fun x hx=>hc x (cV _ hx)) h.2⟩
theorem YV{β β':Bt}{R R':Nat→Prop}{w:World}{id sz n:Nat}{f:Nat→Nat→C}{F:Nat→Nat→PV}(hk:jC β R w β' R' w)
  (hF:∀e o,e<n→o<sz→jT (tE (f e o)) (F e o))
  (hval:∀off len u,off+len≤n→CR β R w (.sl id sz off len) u→PR R' w (.l sz len fun e o=>tE (f (e+off) o)) u):∀ {vs:List V} {us:List Value},(∀v∈vs,∀off len,inV (.sl id sz off len) v→off+len≤n)→All2 (VR β R w) vs us→All2 (VR β' R' w) (aOJ id sz F vs) us
 |[],[],_,_=>trivial
 |[],_::_,_,h=>h.elim
 |_::_,[],_,h=>h.elim
 |v::_,_::_,hc,h=>⟨by
   cases v with
   |c x=>exact YY hk hF hval (fun off len e=>hc _ (dI ..) off len e.symm) h.1
   |a cs=>
    obtain⟨us,h1,h2⟩:=h.1;exact⟨us,h1,GC hk hF hval (fun x hx off len e=>hc _ (dI ..) off len (e▸hx)) h2⟩
   |t vs=>exact VR.keep hk h.1,YV hk hF hval (fun x hx=>hc x (cV _ hx)) h.2⟩
theorem uW(id sz:Nat)(F:Nat→Nat→PV)(x:AO):(aJH id sz F x).live=x.live:=by cases x<;>rfl
theorem rI(id sz:Nat)(F:Nat→Nat→PV):∀(h:List AO) (i:Nat),bN .gone (BM id sz F h) i=aJH id sz F (bN .gone h i)
 |[],_=>rfl
 |_::_,0=>rfl
 |_::r,i+1=>rI id sz F r i
theorem aIN{h:List AO}{i:Nat}(hl:(bN .gone h i).live=true):bN .gone h i∈h:=by
 rw[eK]at hl ⊢
 by_cases hi:i<h.length
 ·simp[aG,aN hi]
 ·rw[aG,bL (by omega)]at hl
  cases hl
theorem yO{id:Nat}{ty:TypeId}{sz n:Nat}{f:Nat→Nat→C}(F:Nat→Nat→PV)(hid:bN .gone st.h id=.row ty sz n f)(hf:∀e o,e<n→o<sz→BJ (f e o)=true)(hF:∀e o,e<n→o<sz→jT (tE (f e o)) (F e o))
  {ps:List (Nat×Nat)} (hp:aX2 id sz st=ps) (ho:∀p∈ps,p.1+p.2≤n):cW G st (aXB id sz F st):=by
 subst hp;intro β R a w hs
 obtain⟨β',R',k1,k2,k3,k4⟩:=aFG hs.hs hid hf;refine⟨β',R',⟨hs.df,YV k2.keeps hF k4 (fun v hv off len hi=>ho (off,len) (MW hv hi)) hs.tm,?_⟩,k2.toFr,k2.rm⟩
 have hlen:(BM id sz F (upd .gone st.h id)).length=(upd .gone st.h id).length:=by rw[YW,List.length_map]
 refine⟨fun i x hi=>by show i<(BM id sz F (upd .gone st.h id)).length;rw[hlen];exact k1.dom i x hi,?_,?_,k1.lt,k1.rlt,?_,k1.gl,?_⟩
 ·intro i j b o o' hi hj li lj
  refine k1.inj i j b o o' hi hj ?_ ?_
  ·have li:(bN .gone (BM id sz F (upd .gone st.h id)) i).live=true:=li
   rwa [rI,uW]at li
  ·have lj:(bN .gone (BM id sz F (upd .gone st.h id)) j).live=true:=lj
   rwa [rI,uW]at lj
 ·intro i b o hi li
  have li:(bN .gone (BM id sz F (upd .gone st.h id)) i).live=true:=li
  rw[rI,uW]at li;exact k1.sep i b o hi li
 ·intro i b o hi
  show OR β' R' w (bN .gone (BM id sz F (upd .gone st.h id)) i) b o
  rw[rI]
  have h1:=k1.obj i b o hi
  by_cases e:i=id
  ·subst e
   rw[gQ _ _ _ (kF hid (by simp))];exact trivial
  ·rw[fC _ _ _ (fun h=>e h.symm)]at h1 ⊢
   cases hx:bN .gone st.h i with
   |cells ty' vs=>
    have h0:=hs.hs.obj i b o (by rw[←k3 i];exact hi)
    rw[hx]at h0;obtain⟨cs,g1,g2⟩:=h0;refine⟨cs,g1,GC k2.keeps hF k4 (fun x hx' off len e=>ho (off,len) (xN (UI (ty:=ty') (vs:=vs) ?_ (e▸hx')))) g2⟩;rw[←hx];exact aIN (by rw[hx];rfl)
   |_=>rw[hx]at h1;exact h1
 ·intro b ad hq
  obtain⟨q1,q2,q3⟩:=k1.ql b ad hq;refine⟨q1,q2,fun i o hi=>?_⟩
  show (bN .gone (BM id sz F (upd .gone st.h id)) i).live=false
  rw[rI,uW];exact q3 i o hi
end
section
variable {P:Program} {G:Nat→Option Obj} {β:Bt} {R:Nat→Prop} {w:World} {h:List AO}
end
section
variable {P:Program} {G:Nat→Option Obj}
end
section
variable {P:Program} {G:Nat→Option Obj}
theorem jV.cond{k:Nat}{a b:dA}{st:St}{x:Bool}{K:X→St→Prop}(hx:bN (.c .top) st.t k=.c (.p (.b x)))(h1:x=true→jV P G a ⟨upd (.c (.p (.b true))) st.t k,st.h⟩ K)(h2:x=false→jV P G b ⟨upd (.c (.p (.b false))) st.t k,st.h⟩ K):jV P G (.cond (.t k) a b) st K:=by
 refine jV.core fun c hns hc=>?_
 cases c with
 |scope c'=>exact absurd rfl (hns c')
 |cond y c1 c2=>
  simp only[dB,aE,aB,aK,aD]at hc;obtain⟨ax,g1,a1,g2,a2,g3,g4⟩:=hc;injection g4 with e1 e2 e3;subst e1;subst e2;subst e3;intro β R a w hs
  have hv:=aR hs g1
  have he:st.ev (.t k)=.c (.p (.b x)):=hx
  rw[he]at hv
  have hv:a.eval y=.bool x:=hv
  have same:eC G β R ⟨upd (.c (.p (.b x))) st.t k,st.h⟩ a w:=hs.same (fun u hu=>by rw[hx]at hu;exact hu)
  cases x with
  |true=>exact wp_cond_true hv (h1 rfl c1 g2 β R a w same)
  |false=>exact wp_cond_false hv (h2 rfl c2 g3 β R a w same)
 |region id ops draw=>cases oY hc
 |seq c1 c2=>cases h2:dB P c1<;>cases h3:dB P c2<;>simp[dB,h2,h3]at hc
 |block id c=>cases h1:dB P c<;>simp[dB,h1]at hc
 |loop c=>cases h1:dB P c<;>simp[dB,h1]at hc
 |_=>simp[dB]at hc
theorem cO.cond{rs:List AR}{v:V}{k:Nat}{a b:dA}{l r:List dA}{st:St}{x:Bool}{Q:X→St→Prop}(hl:l=.cond (.t k) a b::r)(hx:bN (.c .top) st.t k=.c (.p (.b x)))
  (h1:x=true→∀Q':X→St→Prop,(∀st,cO P G rs v r st Q→Q' .normal st)→(∀j st,Q (.exit j) st→Q' (.exit j) st)→cO P G rs v (jH a) ⟨upd (.c (.p (.b true))) st.t k,st.h⟩ Q')
  (h2:x=false→∀Q':X→St→Prop,(∀st,cO P G rs v r st Q→Q' .normal st)→(∀j st,Q (.exit j) st→Q' (.exit j) st)→cO P G rs v (jH b) ⟨upd (.c (.p (.b false))) st.t k,st.h⟩ Q'):cO P G rs v l st Q:=by
 subst hl
 exact jV.cond hx (fun e=>cO.code (h1 e (fun e st'=>match e with
  |.normal=>cO P G rs v r st' Q
  |e=>Q e st') (fun _ h=>h) (fun _ _ h=>h))) (fun e=>cO.code (h2 e (fun e st'=>match e with
  |.normal=>cO P G rs v r st' Q
  |e=>Q e st') (fun _ h=>h) (fun _ _ h=>h)))
end
def aR6:dA→dA
 |.cond _ a _=>a
 |c=>c
def aR5:dA→dA
 |.cond _ _ b=>b
 |c=>c
section
variable {P:Program} {G:Nat→Option Obj} {β:Bt} {R:Nat→Prop} {w:World} {st:St}
end
def aK5{α:Type}:List α→List Bool
 |[]=>[]
 |_::r=>true::aK5 r
def aME(st:St):AR→Option V
 |.tmp t=>match bN (.c .top) st.t t with
  |.t _=>none
  |v=>some v
 |.cell t n=>match bN (.c .top) st.t t with
  |.c (.ptr id off)=>match bN .gone st.h id with
   |.cells _ vs=>match Nat.ble (off+gZ n) (fK vs) with
    |true=>match BZ (bN .top vs) off n with
     |.t _=>none
     |v=>some v
    |false=>none
   |_=>none
  |_=>none
 |.new _=>none
def DK(st:St):List AR→Option (List V)
 |[]=>some []
 |r::l=>match aME st r with
  |some v=>match DK st l with
   |some vs=>some (v::vs)
   |none=>none
  |none=>none
def tI(st:St):List Nat→List V→List V
 |[],vs=>vs
 |j::r,vs=>bN (.c .top) st.t j::tI st r vs
def aLV(ps:List Nat)(vs:List V)(st:St):St:=YU (aK5 (tI st ps vs)) ⟨tI st ps vs,st.h⟩
def pW(ps:List Nat)(keep:List Bool)(rs:List AR)(e:X)(st:St):Tr:=match e with
 |.ret=>match DK st rs with
  |some vs=>.done .ret (aLV ps vs st)
  |none=>.fail
 |e=>.done e (YU keep st)
section
variable {P:Program} {G:Nat→Option Obj}
def Zm(ps:List Nat)(rs:List AR)(Z0:St→Prop)(st:St):Prop:=∃vs,DK st rs=some vs∧Z0 (aLV ps vs st)
def KFZ(Z0:St→Prop)(K:X→St→Prop)(e:X)(st:St):Prop:=match e with
 |.ret=>Z0 st
 |e=>K e st
theorem uV{Z:St→Prop}{K:X→St→Prop}{j:Nat}{st:St}:KFZ Z K (.exit j) st↔K (.exit j) st:=Iff.rfl
theorem iY{Z:St→Prop}{K:X→St→Prop}{st:St}:KFZ Z K .normal st↔K .normal st:=Iff.rfl
theorem nL{Z:St→Prop}{K:X→St→Prop}{st:St}:KFZ Z K .ret st↔Z st:=Iff.rfl
def lT(P:Program)(G:Nat→Option Obj)(Z:St→Prop)(ac:dA)(st:St)(K:X→St→Prop):Prop:=jV P G ac st (KFZ Z K)
def jM(P:Program)(G:Nat→Option Obj)(Z:St→Prop):List dA→St→(X→St→Prop)→Prop
 |[],st,Q=>∃st2,cW G st st2∧Q .normal st2
 |c::r,st,Q=>lT P G Z c st fun e st'=>match e with
  |.normal=>jM P G Z r st' Q
  |e=>Q e st'
variable {Z:St→Prop}
theorem lT.pre{ac:dA}{st st2:St}{K:X→St→Prop}(hw:cW G st st2)(h:lT P G Z ac st2 K):lT P G Z ac st K:=jV.pre hw h
theorem lT.mono{ac:dA}{st:St}{K K':X→St→Prop}(h:lT P G Z ac st K)(hk:∀e st,e≠.ret→K e st→K' e st):lT P G Z ac st K':=
 jV.mono h fun e st q=>by
  cases e with
  |ret=>exact q
  |normal=>exact hk _ _ (by simp) q
  |exit id=>exact hk _ _ (by simp) q
theorem lT.seq{a b:dA}{st:St}{K1 K:X→St→Prop}(h:lT P G Z a st K1)(hn:∀st',K1 .normal st'→lT P G Z b st' K)(hx:∀id st',K1 (.exit id) st'→K (.exit id) st'):lT P G Z (.seq a b) st K:=
 jV.seq h hn fun e st' he q=>by
  cases e with
  |normal=>exact absurd rfl he
  |ret=>exact q
  |exit id=>exact hx id st' q
theorem lT.block{id:Nat}{a:dA}{st:St}{K:X→St→Prop}(h:lT P G Z a st fun e st'=>match e with
  |.exit j=>if j=id then K .normal st' else K (.exit j) st'
  |e=>K e st'):lT P G Z (.block id a) st K:=
 jV.block (jV.mono h fun e st' q=>by
  cases e with
  |normal=>exact q
  |ret=>exact q
  |exit j=>
   show if j=id then KFZ Z K .normal st' else KFZ Z K (.exit j) st'
   exact q)
theorem lT.loop{a:dA}{K:X→St→Prop}{σ:Type}(C:σ→St)(I:σ→Prop)(μ:σ→Nat)(s0:σ)(hI:I s0)
  (step:∀s,I s→lT P G Z a (C s) fun e st'=>match e with
   |.normal=>∃s',I s'∧μ s'<μ s∧cW G st' (C s')
   |e=>K e st'):lT P G Z (.loop a) (C s0) K:=
 jV.loop C I μ s0 hI fun s hs=>jV.mono (step s hs) fun e st' q=>by
  cases e with
  |normal=>exact q
  |ret=>exact q
  |exit j=>exact q
theorem lT.post{ac:dA}{st:St}{K:X→St→Prop}(h:lT P G Z ac st fun e st'=>∃st2,cW G st' st2∧K e st2):lT P G Z ac st K:=by
 refine jV.post (jV.mono h fun e st' hk=>?_);cases e with
 |ret=>exact⟨st',cW.refl st',hk⟩
 |normal=>exact hk
 |exit id=>exact hk
theorem jM.pre{l:List dA}{st st2:St}{Q:X→St→Prop}(hw:cW G st st2)(h:jM P G Z l st2 Q):jM P G Z l st Q:=by
 cases l with
 |nil=>obtain⟨st3,h1,h2⟩:=h;exact⟨st3,hw.trans h1,h2⟩
 |cons c r=>exact lT.pre hw h
theorem jM.cut:∀ {a b:List dA} {st:St} {Q:X→St→Prop},jM P G Z (qY a b) st Q→jM P G Z a st fun e st'=>match e with
  |.normal=>jM P G Z b st' Q
  |e=>Q e st'
 |[],_,st,_,h=>⟨st,cW.refl st,h⟩
 |_::_,_,_,_,h=>lT.mono h fun e st' _ q=>by
  cases e with
  |normal=>exact jM.cut q
  |ret=>exact q
  |exit id=>exact q
theorem jM.glue:∀ {a b:List dA} {st:St} {Q:X→St→Prop},(jM P G Z a st fun e st'=>match e with
  |.normal=>jM P G Z b st' Q
  |e=>Q e st')→jM P G Z (qY a b) st Q
 |[],_,_,_,⟨_,h1,h2⟩=>jM.pre h1 h2
 |_::_,_,_,_,h=>lT.mono h fun e st' _ q=>by
  cases e with
  |normal=>exact jM.glue q
  |ret=>exact q
  |exit id=>exact q
theorem jM.code:∀ {c:dA} {st:St} {Q:X→St→Prop},jM P G Z (jH c) st Q→lT P G Z c st Q:=by
 intro c;induction c with
 |seq a b iha ihb=>
  intro st Q h
  have h1:=jM.cut (a:=jH a) (b:=jH b) h
  refine lT.seq (iha h1) (fun st' hq=>ihb hq) (fun id st' hq=>hq)
 |_=>
  intro st Q h;refine lT.post (lT.mono h fun e st' _ q=>?_);cases e with
  |normal=>exact q
  |ret=>exact⟨st',cW.refl st',q⟩
  |exit id=>exact⟨st',cW.refl st',q⟩
theorem zX{ps:List Nat}{keep:List Bool}{rs:List AR}{Z0:St→Prop}{e:X}{st:St}{K:X→St→Prop}(h:(pW ps keep rs e st).holds P G (KFZ Z0 K)):∃st2,cW G st st2∧KFZ (Zm ps rs Z0) K e st2:=by
 cases e with
 |ret=>
  refine⟨st,cW.refl st,?_⟩;unfold pW at h;dsimp only at h;split at h
  ·rename_i vs hvs;exact⟨vs,hvs,h⟩
  ·exact h.elim
 |normal=>exact⟨_,fW keep st,h⟩
 |exit id=>exact⟨_,fW keep st,h⟩
theorem uC{ext:Ext}(hext:bO P G ext){ps:List Nat}{keep:List Bool}{rs:List AR}{Z0:St→Prop}:∀ {l:List dA} {st:St} {K:X→St→Prop},(cJ ext l st (pW ps keep rs)).holds P G (KFZ Z0 K)→jM P G (Zm ps rs Z0) l st K
 |[],st,K,h=>zX h
 |c::r,st,K,h=>by
  have h1:=jV.ev hext h
  refine lT.post ?_;refine jV.post (jV.mono h1 fun e st' q=>?_);cases e with
  |normal=>exact⟨st',cW.refl st',st',cW.refl st',uC hext q⟩
  |ret=>
   obtain⟨st2,q1,q2⟩:=zX q;exact⟨st2,q1,q2⟩
  |exit id=>
   obtain⟨st2,q1,q2⟩:=zX q;exact⟨st2,q1,st2,cW.refl st2,q2⟩
theorem jM.evG{ext:Ext}(hext:bO P G ext)(n:Nat){ps:List Nat}{keep:List Bool}{rs:List AR}{Z0:St→Prop}{l:List dA}{st:St}{Q:X→St→Prop}{tree:Tr}(ht:cJ ext (dH n l) st (pW ps keep rs)=tree)
  (h:tree.holds P G (KFZ Z0 fun e st'=>match e with
   |.normal=>jM P G (Zm ps rs Z0) (bJ n l) st' Q
   |e=>Q e st')):jM P G (Zm ps rs Z0) l st Q:=by
 rw[←qE n l];subst ht;exact jM.glue (uC hext h)
theorem jM.evH{ext:Ext}(hext:bO P G ext){ps:List Nat}{keep:List Bool}{rs:List AR}{Z0:St→Prop}{l:List dA}{st:St}{Q:X→St→Prop}{tree:Tr}(ht:cJ ext l st (pW ps keep rs)=tree)(h:tree.holds P G (KFZ Z0 Q)):jM P G (Zm ps rs Z0) l st Q:=by
 subst ht;exact uC hext h
theorem jM.loop{id:Nat}{b:dA}{l r:List dA}{st:St}{Q:X→St→Prop}(hl:l=.block id (.loop b)::r){σ:Type}(C:σ→St)(I:σ→Prop)(μ:σ→Nat)(s0:σ)(hI:I s0)(hw:cW G st (C s0))
  (step:∀s,I s→jM P G Z (jH b) (C s) fun e st'=>match e with
   |.normal=>∃s',I s'∧μ s'<μ s∧cW G st' (C s')
   |.exit j=>if j=id then jM P G Z r st' Q else Q (.exit j) st'
   |.ret=>True):jM P G Z l st Q:=by
 subst hl;refine lT.pre hw (lT.block ?_)
 refine lT.loop C I μ s0 hI fun s hs=>?_
 refine lT.mono (jM.code (step s hs)) fun e st' he q=>?_
 cases e with
 |normal=>exact q
 |exit j=>exact q
 |ret=>exact absurd rfl he
theorem jM.loop'{id:Nat}{b:dA}{l r:List dA}{st:St}{Q:X→St→Prop}(hl:l=.block id (.loop b)::r){σ:Type}(C:σ→St)(I:σ→Prop)(μ:σ→Nat)(s0:σ)(hI:I s0)(hw:cW G st (C s0))
  (step:∀s,I s→∀Q':X→St→Prop,(∀s' st',I s'→μ s'<μ s→cW G st' (C s')→Q' .normal st')→(∀st',jM P G Z r st' Q→Q' (.exit id) st')→(∀j st',j≠id→Q (.exit j) st'→Q' (.exit j) st')→jM P G Z (jH b) (C s) Q'):jM P G Z l st Q:=
 jM.loop hl C I μ s0 hI hw fun s hs=>step s hs _ (fun s' _ h1 h2 h3=>⟨s',h1,h2,h3⟩) (fun _ h=>by simpa using h) (fun j _ hj h=>by simpa[hj] using h)
theorem qH{β:Bt}{R:Nat→Prop}{w:World}{st:St}{a:Act}(hs:eC G β R st a w):∀(frs:List ResultVar) (rs:List AR) (_:oX P frs=some rs) {vs:List V} (_:DK st rs=some vs),
  ∃us,(frs.mapM (runR a.tmps)).run P w=.ok us w∧All2 (VR β R w) vs us
 |[],rs,hr,vs,h=>by
  simp only[oX,aD]at hr;subst hr;simp only[DK,aD]at h;subst h;exact⟨[],by simp,trivial⟩
 |.tmp t::frs,rs,hr,vs,h=>by
  simp only[oX,aM]at hr;obtain⟨rs',hr,rfl⟩:=hr;simp only[DK]at h;split at h
  ·rename_i v hv
   split at h
   ·rename_i vs' hvs
    injection h with h;subst h;obtain⟨us,h4,h5⟩:=qH hs frs rs' hr hvs
    have hv2:bN (.c .top) st.t t=v:=by
     simp only[aME]at hv;split at hv
     ·cases hv
     ·injection hv
    have h1:=aR (x:=.tmp t) hs rfl
    have h1:VR β R w (bN (.c .top) st.t t) (a.tmps.getD t undef):=h1
    rw[hv2]at h1;refine⟨_::us,?_,⟨h1,h5⟩⟩;simp[List.mapM_cons,runR,h4]
   ·cases h
  ·cases h
 |.cell t ty::frs,rs,hr,vs,h=>by
  simp only[oX,aE,aB,aK,aD]at hr;obtain⟨n,hn,rs',hr,rfl⟩:=hr;simp only[DK]at h;split at h
  ·rename_i v hv
   split at h
   ·rename_i vs' hvs
    injection h with h;subst h;obtain⟨us,h4,h5⟩:=qH hs frs rs' hr hvs;simp only[aME]at hv;split at hv
    ·rename_i id off hp
     split at hv
     ·rename_i ty' cv hid
      split at hv
      ·rename_i hb
       have hv2:BZ (bN .top cv) off n=v:=by
        split at hv
        ·cases hv
        ·injection hv
       have hptr:=aR (x:=.tmp t) hs rfl
       have e:st.ev (.t t)=.c (.ptr id off):=hp
       rw[e]at hptr;obtain⟨b,o0,g1,g2⟩:=hptr
       have hob:=hs.hs.obj id b o0 g1
       rw[hid]at hob;obtain⟨cs,g3,g4⟩:=hob
       have hlen:off+gZ n≤cv.length:=by rw[fH]at hb;simpa using hb
       have hsz:cv.length=cs.size:=by simpa using g4.length
       have hl:(cs.extract off (off+gZ n)).toList.length=gZ n:=by simp;omega
       have g2:a.tmps.getD t undef=.pointer (some ⟨b,off,none⟩):=g2
       have hrun:=run_load_gen (P:=P) (w:=w) hn hl (World.rangeAt_of_block g3 off (gZ n))
       have hrun:(loadVar ty ⟨b,off,none⟩).run P w=.ok (ldV (cs.extract off (off+gZ n)).toList n) w:=by
        simpa[Instr.loadAt,Instr.sureAddr] using hrun
       have hval:VR β R w (BZ (bN .top cv) off n) (ldV (cs.extract off (off+gZ n)).toList n):=iX hl (fun j u hu=>by
        have hj:j<gZ n:=by have:=(aV.1 hu).1;omega
        refine g4.nth_get ?_
        rw[←hu,bC,bC,Array.getElem?_extract,if_pos (by omega)])
       rw[hv2]at hval;refine⟨_::us,?_,⟨hval,h5⟩⟩
       have hra:(runR a.tmps (.cell t ty)).run P w=.ok (ldV (cs.extract off (off+gZ n)).toList n) w:=by
        show (do loadVar ty (←asAddr (a.tmps.getD t undef))).run P w=_
        rw[g2];simp only[asAddr,pure_bind];exact hrun
       rw[List.mapM_cons,Sem.run_bind,hra,Result.andThen_ok,Sem.run_bind,h4];rfl
      ·cases hv
     ·cases hv
    ·cases hv
   ·cases h
  ·cases h
end
def aF1(ρ ids:List Nat)(n:Nat):B→Option B
 |.p x=>some (.p x)
 |.ptr id off=>match kA id ids 0 with
  |some i=>some (.ptr (n+i) off)
  |none=>aAA ρ (.ptr id off)
def VP(ρ ids:List Nat)(n:Nat):List B→Option (List B)
 |[]=>some []
 |b::r=>match aF1 ρ ids n b,VP ρ ids n r with
  |some b',some r'=>some (b'::r')
  |_,_=>none
def VO(ρ ids:List Nat)(n:Nat):C→C
 |.ptr id off=>match kA id ids 0 with
  |some i=>.ptr (n+i) off
  |none=>fG ρ (.ptr id off)
 |.fn f fs cs=>match VP ρ ids n fs,VP ρ ids n cs with
  |some fs',some cs'=>.fn f fs' cs'
  |_,_=>.top
 |x=>fG ρ x
def aOA(ρ ids:List Nat)(n:Nat):List C→List C
 |[]=>[]
 |c::r=>VO ρ ids n c::aOA ρ ids n r
def aJ9(ρ ids:List Nat)(n:Nat):V→V
 |.c x=>.c (VO ρ ids n x)
 |.a cs=>.a (aOA ρ ids n cs)
 |.t _=>.c .top
def xY(ρ ids:List Nat)(n:Nat):List V→List V
 |[]=>[]
 |v::r=>aJ9 ρ ids n v::xY ρ ids n r
def DN(ρ:List Nat):List Nat→List Nat→List AO
 |id::r,b::bs=>(match kA id ρ 0 with
  |some j=>.pin j b
  |none=>.gone)::DN ρ r bs
 |_,_=>[]
def HD:List AO→List AO→List AO
 |[],m=>m
 |x::r,m=>x::HD r m
theorem uG:∀l m:List AO,HD l m=l++m
 |[],_=>rfl
 |x::r,m=>by simp[HD,uG r m]
def inH(ρ ids:List Nat)(h:List AO)(bs:List Nat):List AO:=HD (oE ρ h ρ) (DN ρ ids bs)
def FP:List Nat→List Nat→Nat→Option Nat
 |j::js,id::ids,x=>match bE j x with
  |true=>some id
  |false=>FP js ids x
 |_,_,_=>none
def aMG(js ids:List Nat)(L x:Nat):Nat:=match FP js ids x with
 |some id=>id
 |none=>L+x
def wA(js ids:List Nat)(L:Nat):C→C
 |.p x=>.p x
 |.ptr id off=>.ptr (aMG js ids L id) off
 |.rp id sz e o=>match rK id js with
  |true=>.top
  |false=>.rp (L+id) sz e o
 |.lp sz n f e o=>.lp sz n f e o
 |.sl id sz off len=>match rK id js with
  |true=>.top
  |false=>.sl (L+id) sz off len
 |.mp id=>match rK id js with
  |true=>.top
  |false=>.mp (L+id)
 |.own ty sz n f=>.own ty sz n f
 |.fn .. => .top
 |.top=>.top
def AS(js ids:List Nat)(L:Nat):List C→List C
 |[]=>[]
 |c::r=>wA js ids L c::AS js ids L r
def aPZ(js ids:List Nat)(L:Nat):V→V
 |.c x=>.c (wA js ids L x)
 |.a cs=>.a (AS js ids L cs)
 |.t _=>.c .top
def aAG(js ids:List Nat)(L:Nat):AO→AO
 |.cells ty vs=>.cells ty (AS js ids L vs)
 |.row ty sz n f=>.row ty sz n fun e o=>wA js ids L (f e o)
 |.foc ty sz n e0 vs f=>.foc ty sz n e0 (AS js ids L vs) fun e o=>wA js ids L (f e o)
 |.mapb ok g=>.mapb ok g
 |.mapl ok ty sz g none=>.mapl ok ty sz g none
 |.mapl ok ty sz g (some (k,c))=>.mapl ok ty sz g (some (k,wA js ids L c))
 |.pin .. => .gone
 |.gone=>.gone
def UM(f:Nat→AO→AO):Nat→List AO→List AO
 |_,[]=>[]
 |i,x::r=>f i x::UM f (i+1) r
def MQ(ρ ids js:List Nat)(L:Nat)(hE:List AO)(i:Nat)(x:AO):AO:=match FP ids js i with
 |some j=>aAG js ids L (bN .gone hE j)
 |none=>match rK i ρ with
  |true=>.gone
  |false=>x
def aNT(js ids:List Nat)(L:Nat)(j:Nat)(x:AO):AO:=match rK j js with
 |true=>.gone
 |false=>aAG js ids L x
def oF(ρ ids js:List Nat)(h hE:List AO):List AO:=HD (UM (MQ ρ ids js (fK h) hE) 0 h) (UM (aNT js ids (fK h)) 0 hE)
theorem mG(f:Nat→AO→AO):∀(i:Nat) (l:List AO),(UM f i l).length=l.length
 |_,[]=>rfl
 |i,x::r=>by simp[UM,mG f (i+1) r]
theorem FL(f:Nat→AO→AO):∀(i:Nat) (l:List AO) (j:Nat),j<l.length→bN .gone (UM f i l) j=f (i+j) (bN .gone l j)
 |_,[],j,h=>by simp at h
 |i,x::r,0,_=>rfl
 |i,x::r,j+1,h=>by
  show bN .gone (UM f (i+1) r) j=_
  rw[FL f (i+1) r j (by simpa using h),show i+1+j=i+(j+1) by omega];rfl
theorem FD{l m:List AO}{i:Nat}(h:i<l.length):bN .gone (HD l m) i=bN .gone l i:=by
 rw[uG,eK,eK,aG,aG,List.getElem?_append_left h]
theorem FE{l m:List AO}{i:Nat}(h:l.length≤i):bN .gone (HD l m) i=bN .gone m (i-l.length):=by
 rw[uG,eK,eK,aG,aG,List.getElem?_append_right h]
theorem QH{ρ ids js:List Nat}{h hE:List AO}{i:Nat}(hi:i<h.length):bN .gone (oF ρ ids js h hE) i=MQ ρ ids js (fK h) hE i (bN .gone h i):=by
 unfold oF;rw[FD (by rw[mG];exact hi),FL _ _ _ _ hi,dV]
theorem QI{ρ ids js:List Nat}{h hE:List AO}{j:Nat}(hj:j<hE.length):bN .gone (oF ρ ids js h hE) (h.length+j)=aNT js ids (fK h) j (bN .gone hE j):=by
 unfold oF;rw[FE (by rw[mG];omega),mG,show h.length+j-h.length=j by omega,FL _ _ _ _ hj,dV]
theorem PM{ρ ids js:List Nat}{h hE:List AO}:(oF ρ ids js h hE).length=h.length+hE.length:=by
 unfold oF;rw[uG,gC,mG,mG]
theorem zN{x y:Nat}:∀ {js ids:List Nat},FP js ids x=some y→∃m:Nat,js[m]?=some x∧ids[m]?=some y
 |[],_,h=>by simp[FP]at h
 |_::_,[],h=>by simp[FP]at h
 |j::js,id::ids,h=>by
  simp only[FP]at h;cases hb:bE j x with
  |true=>
   rw[hb]at h;injection h with h;exact⟨0,by simp[aH hb],by simp[h]⟩
  |false=>
   rw[hb]at h;obtain⟨m,h1,h2⟩:=zN h;exact⟨m+1,by simpa using h1,by simpa using h2⟩
theorem aAF{js ids:List Nat}{L:Nat}{x:AO}(h:(aAG js ids L x).live=true):x.live=true:=by
 cases x with
 |pin=>cases h
 |gone=>cases h
 |_=>rfl
section
variable {P:Program} {G:Nat→Option Obj} {β β2 β3:Bt} {R R2:Nat→Prop} {w w':World} {h hE:List AO} {ρ ids js bs:List Nat}
def sD(β:Bt)(ρ:List Nat)(b:Nat):Prop:=∃id∈ρ,∃o,β id=some (b,o)
open Classical in
noncomputable def wY(β:Bt)(ρ ids:List Nat):Bt:=⟨fun j=>if j<ρ.length then (ρ[j]?).bind β.f else (ids[j-ρ.length]?).bind β.f,fun b=>match β.q b with
 |some (bi,c)=>if sD β ρ bi then some (bi,c) else none
 |none=>none⟩
theorem AW{j:Nat}{x:Nat×Nat}(hx:wY β ρ ids j=some x):(j<ρ.length∧∃id,ρ[j]?=some id∧β id=some x)∨(ρ.length≤j∧∃id,ids[j-ρ.length]?=some id∧β id=some x):=by
 simp only[wY]at hx;split at hx
 ·rename_i hj
  simp only[aB]at hx;exact .inl ⟨hj,hx⟩
 ·rename_i hj
  simp only[aB]at hx;exact .inr ⟨by omega,hx⟩
theorem aKY{b:Nat}{ad:Nat×Nat}(hx:(wY β ρ ids).q b=some ad):β.q b=some ad∧sD β ρ ad.1:=by
 simp only[wY]at hx;split at hx
 ·rename_i bi c hq
  split at hx
  ·rename_i hp;injection hx with hx;subst hx;exact⟨hq,hp⟩
  ·cases hx
 ·cases hx
theorem aF2{b:Nat}{ad:Nat×Nat}(h1:β.q b=some ad)(h2:sD β ρ ad.1):(wY β ρ ids).q b=some ad:=by
 simp only[wY,h1,if_pos h2]
theorem FY{j:Nat}(hj:j<ρ.length):wY β ρ ids j=(ρ[j]?).bind β.f:=by simp only[wY,if_pos hj]
theorem aF3{j:Nat}(hj:ρ.length≤j):wY β ρ ids j=(ids[j-ρ.length]?).bind β.f:=by simp only[wY,if_neg (show ¬j<ρ.length by omega)]
theorem NQ{b:Nat}(hsub:∀id∈ids,id∈ρ)(hb:(wY β ρ ids).has b):sD β ρ b∨∃ad,β.q b=some ad∧sD β ρ ad.1:=by
 rcases hb with⟨i,o,hi⟩|⟨ad,hi⟩
 ·left
  rcases AW hi with⟨_,id,h1,h2⟩|⟨_,id,h1,h2⟩
  ·exact⟨id,cL h1,o,h2⟩
  ·exact⟨id,hsub id (cL h1),o,h2⟩
 ·exact .inr ⟨ad,aKY hi⟩
theorem AP:∀ {ids bs:List Nat},ids.length=bs.length→(DN ρ ids bs).length=ids.length
 |[],[],_=>rfl
 |[],_::_,h=>by simp at h
 |_::_,[],h=>by simp at h
 |_::ids,_::bs,h=>by simp[DN,AP (ids:=ids) (bs:=bs) (by simpa using h)]
theorem PL:∀ {ids bs:List Nat} {i id b:Nat},ids[i]?=some id→bs[i]?=some b→bN .gone (DN ρ ids bs) i=(match kA id ρ 0 with
  |some j=>AO.pin j b
  |none=>.gone)
 |[],_,i,_,_,h,_=>by simp at h
 |_::_,[],i,_,_,_,h=>by simp at h
 |_::ids,_::bs,0,_,_,h1,h2=>by
  simp at h1 h2;subst h1;subst h2;rfl
 |_::ids,_::bs,i+1,_,_,h1,h2=>by
  show bN .gone (DN ρ ids bs) i=_
  exact PL (by simpa using h1) (by simpa using h2)
theorem KC{id:Nat}:∀ {l:List Nat} (n:Nat),id∈l→∃j,kA id l n=some j
 |[],_,h=>by cases h
 |k::r,n,h=>by
  simp only[kA];cases hb:bE k id with
  |true=>exact⟨n,rfl⟩
  |false=>
   rcases dZ.1 h with rfl|h
   ·rw[Nat.beq_refl]at hb;cases hb
   ·exact KC (n+1) h
theorem JH:∀(ids bs:List Nat) (i:Nat),(bN .gone (DN ρ ids bs) i).live=false
 |[],_,_=>by cases ‹Nat› <;> rfl
 |_::_,[],i=>by cases i<;>rfl
 |id::ids,b::bs,0=>by
  show (match kA id ρ 0 with
  |some j=>AO.pin j b
  |none=>.gone).live=false
  cases kA id ρ 0<;>rfl
 |id::ids,b::bs,i+1=>JH ids bs i
theorem aQQ(hh:HS G β R w h)(hρ:qJ ρ=true)(hlv:∀id∈ρ,(bN .gone h id).live=true)(hsub:∀id∈ids,id∈ρ)(hbl:ids.length=bs.length)
  (hbs:∀(i:Nat) id b,ids[i]?=some id→bs[i]?=some b→∃o,β id=some (b,o)):HS G (wY β ρ ids) R w (inH ρ ids h bs):=by
 have hpl:(oE ρ h ρ).length=ρ.length:=sC ρ
 have hn1:∀j id,ρ[j]?=some id→bN .gone (inH ρ ids h bs) j=aA9 ρ (bN .gone h id):=fun j id hj=>by
  unfold inH;rw[FD (by rw[hpl];exact(aV.1 hj).1),nI hj]
 have hn2:∀j,ρ.length≤j→bN .gone (inH ρ ids h bs) j=bN .gone (DN ρ ids bs) (j-ρ.length):=fun j hj=>by
  unfold inH;rw[FE (by rw[hpl];exact hj),hpl]
 have hdead:∀j,ρ.length≤j→(bN .gone (inH ρ ids h bs) j).live=false:=fun j hj=>by rw[hn2 j hj];exact JH _ _ _
 have hkp:jC (bρ ρ β) R w (wY β ρ ids) R w:=⟨fun i x hi=>by
  have hi:(ρ[i]?).bind β.f=some x:=hi
  have hlt:i<ρ.length:=by
   rcases cK i ρ.length with h|h
   ·exact h
   ·rw[bL h]at hi;cases hi
  rw[FY hlt];exact hi,fun _ h=>h,fun _ _=>rfl⟩
 refine⟨?_,?_,?_,?_,hh.rlt,?_,hh.gl,?_⟩
 ·intro j x hj
  have hlen:(inH ρ ids h bs).length=ρ.length+ids.length:=by unfold inH;rw[uG,gC,hpl,AP hbl]
  rcases AW hj with⟨h1,_⟩|⟨h1,id,h2,_⟩
  ·omega
  ·have:=(aV.1 h2).1;omega
 ·intro i j b o o' hi hj li lj
  rcases AW hi with⟨h1,id,h2,h3⟩|⟨h1,_⟩
  ·rcases AW hj with⟨h4,jd,h5,h6⟩|⟨h4,_⟩
   ·have:=hh.inj id jd b o o' h3 h6 (hlv id (cL h2)) (hlv jd (cL h5))
    subst this;exact zE hρ h2 h5
   ·rw[hdead j h4]at lj;cases lj
  ·rw[hdead i h1]at li;cases li
 ·intro i b o hi li
  rcases AW hi with⟨h1,id,h2,h3⟩|⟨h1,_⟩
  ·exact hh.sep id b o h3 (hlv id (cL h2))
  ·rw[hdead i h1]at li;cases li
 ·intro i b o hi
  rcases AW hi with⟨h1,id,h2,h3⟩|⟨h1,id,h2,h3⟩
  ·exact hh.lt id b o h3
  ·exact hh.lt id b o h3
 ·intro i b o hi
  rcases AW hi with⟨h1,id,h2,h3⟩|⟨h1,id,h2,h3⟩
  ·rw[hn1 i id h2]
   exact OR.keep hkp (fun b1 c hq=>⟨aF2 hq ⟨id,cL h2,o,h3⟩,rfl⟩) rfl (DF (hh.obj id b o h3))
  ·have hlt:=(aV.1 h2).1
   have hb2:bs[i-ρ.length]?=some (bs[i-ρ.length]'(by omega)):=aN (by omega)
   generalize bs[i-ρ.length]'(by omega)=b2 at hb2
   obtain⟨j,hj⟩:=KC (l:=ρ) 0 (hsub id (cL h2));rw[hn2 i h1,PL h2 hb2,hj];obtain⟨o2,h4⟩:=hbs _ id b2 h2 hb2;rw[h3]at h4;injection h4 with h4;injection h4 with h4 h5;subst h4;subst h5;refine⟨rfl,o,?_⟩
   have h6:=(pO hj).2
   simp only[Nat.sub_zero]at h6;rw[FY (aV.1 h6).1,h6];exact h3
 ·intro b ad hb
  obtain⟨h1,h2⟩:=aKY hb;obtain⟨q1,q2,q3⟩:=hh.ql b ad h1;refine⟨q1,q2,fun i o hi=>?_⟩
  rcases AW hi with⟨h3,id,h4,h5⟩|⟨h3,_⟩
  ·have:=q3 id o h5
   rw[hlv id (cL h4)]at this;cases this
  ·exact hdead i h3
theorem VQ(hsub:∀id∈ids,id∈ρ){x y:B}{u:Value}(hy:aF1 ρ ids ρ.length x=some y)(hx:BR β R w x u):BR (wY β ρ ids) R w y u:=by
 have hkp:jC (bρ ρ β) R w (wY β ρ ids) R w:=⟨fun i x hi=>by
  have hi:(ρ[i]?).bind β.f=some x:=hi
  have hlt:i<ρ.length:=by
   rcases cK i ρ.length with h|h
   ·exact h
   ·rw[bL h]at hi;cases hi
  rw[FY hlt];exact hi,fun _ h=>h,fun _ _=>rfl⟩
 cases x with
 |p x=>simp only[aF1,aD]at hy;subst hy;exact hx
 |ptr id off=>
  simp only[aF1]at hy;split at hy
  ·rename_i i hi
   injection hy with hy;subst hy
   have h6:=(pO hi).2
   simp only[Nat.sub_zero]at h6;obtain⟨b,o,h1,h2⟩:=hx;refine⟨b,o,?_,h2⟩;rw[aF3 (by omega),show ρ.length+i-ρ.length=i by omega,h6];exact h1
  ·exact BR.keep hkp (DH hy hx)
theorem wL(hsub:∀id∈ids,id∈ρ):∀ {xs ys:List B} {us:List Value} (_:VP ρ ids ρ.length xs=some ys) (_:All2 (BR β R w) xs us),All2 (BR (wY β ρ ids) R w) ys us
 |[],ys,us,hy,h=>by
  simp only[VP,aD]at hy;subst hy;cases us<;>exact h
 |x::xs,ys,us,hy,h=>by
  simp only[VP]at hy;cases h1:aF1 ρ ids ρ.length x with
  |none=>simp[h1]at hy
  |some y=>
   cases h2:VP ρ ids ρ.length xs with
   |none=>simp[h1,h2]at hy
   |some ys'=>
    simp only[h1,h2,aD]at hy;subst hy;cases us with
    |nil=>exact h.elim
    |cons u us=>exact⟨VQ hsub h1 h.1,wL hsub h2 h.2⟩
theorem KB(hsub:∀id∈ids,id∈ρ){x:C}{u:Value}(hx:CR β R w x u):CR (wY β ρ ids) R w (VO ρ ids ρ.length x) u:=by
 have hkp:jC (bρ ρ β) R w (wY β ρ ids) R w:=⟨fun i x hi=>by
  have hi:(ρ[i]?).bind β.f=some x:=hi
  have hlt:i<ρ.length:=by
   rcases cK i ρ.length with h|h
   ·exact h
   ·rw[bL h]at hi;cases hi
  rw[FY hlt];exact hi,fun _ h=>h,fun _ _=>rfl⟩
 have gen:∀y:C,CR β R w y u→CR (wY β ρ ids) R w (fG ρ y) u:=fun y hy=>
  CR.keep (β:=⟨(bρ ρ β).f,β.q⟩) ⟨hkp.bm,fun _ h=>h,fun _ _=>rfl⟩ (lZ hy)
 cases x with
 |ptr id off=>
  show CR _ _ _ (match kA id ids 0 with
   |some i=>C.ptr (ρ.length+i) off
   |none=>fG ρ (.ptr id off)) u
  cases hi:kA id ids 0 with
  |none=>exact gen _ hx
  |some i=>
   have h6:=(pO hi).2
   simp only[Nat.sub_zero]at h6;obtain⟨b,o,h1,h2⟩:=hx;refine⟨b,o,?_,h2⟩;rw[aF3 (by omega),show ρ.length+i-ρ.length=i by omega,h6];exact h1
 |fn f fs cs=>
  simp only[VO];split
  ·rename_i h1 h2
   obtain⟨us,vs,e1,e2,e3⟩:=hx;exact⟨us,vs,e1,wL hsub h1 e2,wL hsub h2 e3⟩
  ·exact trivial
 |_=>exact gen _ hx
theorem FX(hsub:∀id∈ids,id∈ρ):∀ {xs:List C} {us:List Value},All2 (CR β R w) xs us→All2 (CR (wY β ρ ids) R w) (aOA ρ ids ρ.length xs) us
 |[],[],_=>trivial
 |[],_::_,h=>h.elim
 |_::_,[],h=>h.elim
 |_::_,_::_,h=>⟨KB hsub h.1,FX hsub h.2⟩
theorem FW(hsub:∀id∈ids,id∈ρ):∀ {xs:List V} {us:List Value},All2 (VR β R w) xs us→All2 (VR (wY β ρ ids) R w) (xY ρ ids ρ.length xs) us
 |[],[],_=>trivial
 |[],_::_,h=>h.elim
 |_::_,[],h=>h.elim
 |v::_,_::_,h=>⟨by
   cases v with
   |c x=>exact KB hsub h.1
   |a cs=>obtain⟨us,h1,h2⟩:=h.1;exact⟨us,h1,FX hsub h2⟩
   |t vs=>exact trivial,FW hsub h.2⟩
open Classical in
noncomputable def pL(β β2:Bt)(ρ:List Nat)(L:Nat):Bt:=⟨fun i=>if i<L then β i else β2 (i-L),fun b=>match β2.q b with
 |some ad=>some ad
 |none=>match β.q b with
  |some (bi,c)=>if sD β ρ bi then none else some (bi,c)
  |none=>none⟩
theorem aHM{L i:Nat}(hi:i<L):pL β β2 ρ L i=β i:=by simp only[pL,if_pos hi]
theorem PN{L j:Nat}:pL β β2 ρ L (L+j)=β2 j:=by
 simp only[pL,if_neg (show ¬L+j<L by omega)];rw[show L+j-L=j by omega]
theorem XS{L b:Nat}{ad:Nat×Nat}(hq:β2.q b=some ad):(pL β β2 ρ L).q b=some ad:=by simp only[pL,hq]
theorem aDC{L b:Nat}{ad:Nat×Nat}(hq:(pL β β2 ρ L).q b=some ad):β2.q b=some ad∨(β.q b=some ad∧¬sD β ρ ad.1):=by
 simp only[pL]at hq;split at hq
 ·rename_i ad' h1;injection hq with hq;subst hq;exact .inl h1
 ·split at hq
  ·rename_i bi c h1
   split at hq
   ·cases hq
   ·rename_i hp;injection hq with hq;subst hq;exact .inr ⟨h1,hp⟩
  ·cases hq
theorem TT{β3:Bt}{L:Nat}(hjs:js.length=ids.length)(hnum:∀j x,β2 j=some x→β3 (L+j)=some x)(hpin:∀(i:Nat) id j,ids[i]?=some id→js[i]?=some j→∃b o o2,β3 id=some (b,o)∧β2 j=some (b,o2)){x:C}{u:Value}(hx:CR β2 R2 w' x u):CR β3 R2 w' (wA js ids L x) u:=by
 cases x with
 |p x=>exact hx
 |lp=>exact hx
 |own=>exact trivial
 |fn=>exact trivial
 |top=>exact trivial
 |ptr id off=>
  obtain⟨b,o,h1,h2⟩:=hx
  show ∃b o,β3 (aMG js ids L id)=some (b,o)∧_
  unfold aMG;cases hl:FP js ids id with
  |none=>exact⟨b,o,hnum _ _ h1,h2⟩
  |some id'=>
   obtain⟨m,h3,h4⟩:=zN hl;obtain⟨b',o',o2,h5,h6⟩:=hpin m id' id h4 h3;rw[h1]at h6;injection h6 with h6;injection h6 with h6 h7;subst h6;exact⟨_,o',h5,h2⟩
 |rp id sz e o=>
  obtain⟨b,o,h1,h2⟩:=hx
  show CR _ _ _ (match rK id js with
   |true=>C.top
   |false=>.rp (L+id) sz e _) u
  cases rK id js with
  |true=>exact trivial
  |false=>exact⟨b,o,hnum _ _ h1,h2⟩
 |sl id sz off len=>
  obtain⟨A,c,h1,h2,h3,h4⟩:=hx
  show CR _ _ _ (match rK id js with
   |true=>C.top
   |false=>.sl (L+id) sz off len) u
  cases rK id js with
  |true=>exact trivial
  |false=>
   refine⟨A,c,h1,h2,h3,?_⟩
   rcases h4 with h4|⟨b,N,h5,h6,h7⟩
   ·exact .inl h4
   ·exact .inr ⟨b,N,hnum _ _ h5,h6,h7⟩
 |mp id=>
  obtain⟨b,N,h1,h2⟩:=hx
  show CR _ _ _ (match rK id js with
   |true=>C.top
   |false=>.mp (L+id)) u
  cases rK id js with
  |true=>exact trivial
  |false=>exact⟨b,N,hnum _ _ h1,h2⟩
theorem xM(L:Nat):∀xs:List C,(AS js ids L xs).length=xs.length
 |[]=>rfl
 |_::xs=>by simp[AS,xM L xs]
theorem JI(L:Nat):∀(xs:List C) (i:Nat),bN .top (AS js ids L xs) i=wA js ids L (bN .top xs i)
 |[],_=>rfl
 |_::_,0=>rfl
 |_::xs,i+1=>JI L xs i
theorem yZ{β3:Bt}{L:Nat}(hc:∀(x:C) (u:Value),CR β2 R2 w' x u→CR β3 R2 w' (wA js ids L x) u):∀ {xs:List C} {us:List Value},All2 (CR β2 R2 w') xs us→All2 (CR β3 R2 w') (AS js ids L xs) us
 |[],[],_=>trivial
 |[],_::_,h=>h.elim
 |_::_,[],h=>h.elim
 |_::_,_::_,h=>⟨hc _ _ h.1,yZ hc h.2⟩
theorem TR{β3:Bt}{L:Nat}(hc:∀(x:C) (u:Value),CR β2 R2 w' x u→CR β3 R2 w' (wA js ids L x) u){x:V}{u:Value}(h:VR β2 R2 w' x u):VR β3 R2 w' (aPZ js ids L x) u:=by
 cases x with
 |c x=>exact hc _ _ h
 |a cs=>obtain⟨us,h1,h2⟩:=h;exact⟨us,h1,yZ hc h2⟩
 |t vs=>exact trivial
theorem DO{β3:Bt}{L:Nat}(hc:∀(x:C) (u:Value),CR β2 R2 w' x u→CR β3 R2 w' (wA js ids L x) u)(hq:∀b ad,β2.q b=some ad→β3.q b=some ad){x:AO}{b o:Nat}(h:OR β2 R2 w' x b o):OR β3 R2 w' (aAG js ids L x) b o:=by
 have hco:∀(ad:Nat×Nat) (x:C) (u:Value),rS β2 R2 w' ad x u→rS β3 R2 w' ad (wA js ids L x) u:=by
  intro ad x u hx;cases ho:x.isOwn with
  |true=>
   cases x with
   |own ty sz n f=>
    obtain⟨A,c,h1,h2,h3,h4⟩:=hx;refine⟨A,c,h1,h2,h3,?_⟩
    rcases h4 with h4|⟨b,cs,h5,h6,h7⟩
    ·exact .inl h4
    ·exact .inr ⟨b,cs,h5,hq _ _ h6,h7⟩
   |_=>cases ho
  |false=>
   refine rS.of ?_ (hc _ _ hx.cr)
   cases x<;>first|rfl|(cases ho;done)|(simp only[wA];split<;>rfl)
 cases x with
 |cells ty vs=>obtain⟨cs,h2,h3⟩:=h;exact⟨cs,h2,yZ hc h3⟩
 |row ty sz n f=>
  obtain⟨cs,h1,h0,h2,h3⟩:=h;refine⟨cs,h1,h0,h2,fun e k he hk=>?_⟩;obtain⟨u,h4,h5⟩:=h3 e k he hk;exact⟨u,h4,hco _ _ _ h5⟩
 |foc ty sz n e0 vs f=>
  obtain⟨cs,h1,h0,h2,h21,h22,h3⟩:=h;refine⟨cs,h1,h0,h2,h21,by rw[xM];exact h22,fun e k he hk=>?_⟩;obtain⟨u,h4,h5,h6⟩:=h3 e k he hk;exact⟨u,h4,fun h=>by rw[JI];exact hc _ _ (h5 h),fun h=>hco _ _ _ (h6 h)⟩
 |mapb ok g=>exact h
 |mapl ok ty sz g fo=>
  obtain⟨es,cl,h2,h3,h4,h5⟩:=h;cases fo with
  |none=>
   refine⟨es,cl,h2,h3,fun i e he=>?_,fun k0 hk0=>?_⟩
   ·obtain⟨q1,q2,q3⟩:=h4 i e he
    exact⟨q1,fun k0 c h1=>(by cases h1),fun _=>hco (b,i) _ _ (q3 (fun _ _ h=>by cases h))⟩
   ·obtain⟨q1,q2⟩:=h5 k0 hk0
    exact⟨fun k1 c h1=>(by cases h1),fun _=>q2 (fun _ _ h=>by cases h)⟩
  |some kc=>
   obtain⟨k9,c9⟩:=kc;refine⟨es,cl,h2,h3,fun i e he=>?_,fun k0 hk0=>?_⟩
   ·obtain⟨q1,q2,q3⟩:=h4 i e he
    refine⟨q1,fun k0 c h1 h2=>?_,fun h1=>hco (b,i) _ _ (q3 fun k0 c h2=>?_)⟩
    ·injection h1 with h1;injection h1 with h1 h3;subst h1;subst h3
     exact hc _ _ (q2 _ _ rfl h2)
    ·injection h2 with h2;injection h2 with h2 h3;subst h2;subst h3
     exact h1 _ _ rfl
   ·obtain⟨q1,q2⟩:=h5 k0 hk0
    refine⟨fun k1 c h1 h2=>?_,fun h1=>q2 fun k1 c h2=>?_⟩
    ·injection h1 with h1;injection h1 with h1 h3;subst h1;subst h3
     exact hc _ _ (q1 _ _ rfl h2)
    ·injection h2 with h2;injection h2 with h2 h3;subst h2;subst h3
     exact h1 _ _ rfl
 |pin=>exact trivial
 |gone=>exact trivial
def nY:AO→Bool
 |.cells .. => true
 |_=>false
set_option maxHeartbeats 1000000 in
theorem aF6(hh:HS G β R w h)(hlv:∀id∈ρ,(bN .gone h id).live=true)(hsub:∀id∈ids,id∈ρ)(hjs:js.length=ids.length)
  (fr:Fr (wY β ρ ids) R w β2 R2 w') (rm:∀b,R b→R2 b) (h2:HS G β2 R2 w' hE)
  (hpin:∀(i:Nat) id j,ids[i]?=some id→js[i]?=some j→nY (bN .gone hE j)=true∧∃b o o2,β id=some (b,o)∧β2 j=some (b,o2)) :
  HS G (pL β β2 ρ h.length) R2 w' (oF ρ ids js h hE)∧Gr β R w (pL β β2 ρ h.length) R2 w' ∧
   (∀(x:C) (u:Value),CR β2 R2 w' x u→CR (pL β β2 ρ h.length) R2 w' (wA js ids h.length x) u)∧∀i,i<h.length→pL β β2 ρ h.length i=β i:=by
 have hold:∀i,i<h.length→pL β β2 ρ h.length i=β i:=fun i hi=>aHM hi
 have hcase:∀i x,pL β β2 ρ h.length i=some x→(i<h.length∧β i=some x)∨∃j,i=h.length+j∧β2 j=some x:=fun i x hx=>by
  rcases cK i h.length with hi|hi
  ·rw[hold i hi]at hx;exact .inl ⟨hi,hx⟩
  ·obtain⟨j,rfl⟩:∃j,i=h.length+j:=⟨i-h.length,by omega⟩
   rw[PN]at hx;exact .inr ⟨j,rfl,hx⟩
 have hnew:∀j x,β2 j=some x→pL β β2 ρ h.length (h.length+j)=some x:=fun j x hx=>by rw[PN];exact hx
 have hpin':∀(i:Nat) id j,ids[i]?=some id→js[i]?=some j→∃b o o2,pL β β2 ρ h.length id=some (b,o)∧β2 j=some (b,o2):=fun i id j h1 h3=>by
  obtain⟨_,b,o,o2,h4,h5⟩:=hpin i id j h1 h3;exact⟨b,o,o2,by rw[hold id (hh.dom id _ h4)];exact h4,h5⟩
 have hC:∀(x:C) (u:Value),CR β2 R2 w' x u→CR (pL β β2 ρ h.length) R2 w' (wA js ids h.length x) u:=fun x u hx=>TT hjs hnew hpin' hx
 have hL:fK h=h.length:=fH h
 have hne:∀i b o,β i=some (b,o)→(bN .gone h i).live=true→i ∉ ρ→¬(wY β ρ ids).has b:=by
  intro i b o hi li hn hb
  rcases NQ hsub hb with⟨id,h3,o',h4⟩|⟨ad,h3,_⟩
  ·exact hn (hh.inj i id b o o' hi h4 li (hlv id h3)▸h3)
  ·have:=(hh.ql b ad h3).2.2 i o hi
   rw[li]at this;cases this
 have hhas:∀b,(wY β ρ ids).has b→β.has b∧b<w.heap.size:=by
  intro b hb
  rcases NQ hsub hb with⟨id,_,o,h4⟩|⟨ad,h3,_⟩
  ·exact⟨.inl ⟨id,o,h4⟩,hh.lt id b o h4⟩
  ·exact⟨.inr ⟨ad,h3⟩,(hh.ql b ad h3).1⟩
 have hqn:∀b ad,β.q b=some ad→¬sD β ρ ad.1→¬(wY β ρ ids).has b:=by
  intro b ad h3 h4 hb
  rcases NQ hsub hb with⟨id,h5,o,h6⟩|⟨ad',h5,h6⟩
  ·have:=(hh.ql b ad h3).2.2 id o h6
   rw[hlv id h5]at this;cases this
  ·rw[h3]at h5;injection h5 with h5;subst h5;exact h4 h6
 have hb2:∀b,β2.has b→(wY β ρ ids).has b∨w.heap.size≤b:=fr.ex
 have old_cases:∀i,i<h.length→(∃(m:Nat) (j:Nat),ids[m]?=some i∧js[m]?=some j∧bN .gone (oF ρ ids js h hE) i=aAG js ids h.length (bN .gone hE j)) ∨
   (i∈ρ∧bN .gone (oF ρ ids js h hE) i=.gone)∨(i ∉ ρ∧bN .gone (oF ρ ids js h hE) i=bN .gone h i):=by
  intro i hi;rw[QH hi,hL];unfold MQ;cases hl:FP ids js i with
  |some j=>
   obtain⟨m,h3,h4⟩:=zN hl;exact .inl ⟨m,j,h3,h4,rfl⟩
  |none=>
   cases hm:rK i ρ with
   |true=>exact .inr (.inl ⟨rJ.1 hm,rfl⟩)
   |false=>exact .inr (.inr ⟨fun h3=>(by rw[rJ.2 h3]at hm;cases hm),rfl⟩)
 have new_cases:∀j x,β2 j=some x→(j∈js∧bN .gone (oF ρ ids js h hE) (h.length+j)=.gone)∨(j ∉ js∧bN .gone (oF ρ ids js h hE) (h.length+j)=aAG js ids h.length (bN .gone hE j)):=by
  intro j x hj;rw[QI (h2.dom j x hj),hL];unfold aNT;cases hm:rK j js with
  |true=>exact .inl ⟨rJ.1 hm,rfl⟩
  |false=>exact .inr ⟨fun h3=>(by rw[rJ.2 h3]at hm;cases hm),rfl⟩
 have key:∀i b o,pL β β2 ρ h.length i=some (b,o)→(bN .gone (oF ρ ids js h hE) i).live=true →
   (i<h.length∧i ∉ ρ∧β i=some (b,o)∧(bN .gone h i).live=true) ∨
   (∃(m:Nat) (j:Nat) (o2:Nat),i<h.length∧ids[m]?=some i∧js[m]?=some j∧β i=some (b,o)∧β2 j=some (b,o2)∧(bN .gone hE j).live=true) ∨
   (∃j,i=h.length+j∧j ∉ js∧β2 j=some (b,o)∧(bN .gone hE j).live=true):=by
  intro i b o hi li
  rcases hcase i _ hi with⟨h3,h4⟩|⟨j,rfl,h4⟩
  ·rcases old_cases i h3 with⟨m,j,h5,h6,h7⟩|⟨h5,h6⟩|⟨h5,h6⟩
   ·obtain⟨hc,b',o',o2,h8,h9⟩:=hpin m i j h5 h6
    rw[h4]at h8;injection h8 with h8;injection h8 with h8 h10;subst h8;subst h10;refine .inr (.inl ⟨m,j,o2,h3,h5,h6,h4,h9,?_⟩)
    cases hx:bN .gone hE j<;>rw[hx]at hc<;>first|rfl|cases hc
   ·rw[h6]at li;cases li
   ·rw[h6]at li;exact .inl ⟨h3,h5,h4,li⟩
  ·rcases new_cases j _ h4 with⟨h5,h6⟩|⟨h5,h6⟩
   ·rw[h6]at li;cases li
   ·rw[h6]at li;exact .inr (.inr ⟨j,rfl,h5,h4,aAF li⟩)
 have frk:jC β R w (pL β β2 ρ h.length) R2 w':=⟨fun i x hi=>by rw[hold i (hh.dom i x hi)];exact hi,rm,fr.rs⟩
 have gr:Gr β R w (pL β β2 ρ h.length) R2 w':={
  os:=fr.os,tape:=fr.tape,output:=fr.output,size:=fr.size,rs:=fr.rs
  fr:=fun b hb hn=>fr.fr b hb fun hi=>hn (hhas b hi).1
  ex:=fun b hi=>by
   have h9:β2.has b→β.has b∨w.heap.size≤b:=fun h3=>(hb2 b h3).imp (fun h4=>(hhas b h4).1) id
   rcases hi with⟨i,o,hi⟩|⟨ad,hi⟩
   ·rcases hcase i _ hi with⟨_,h4⟩|⟨j,_,h4⟩
    ·exact .inl (.inl ⟨i,o,h4⟩)
    ·exact h9 (.inl ⟨j,o,h4⟩)
   ·rcases aDC hi with h4|⟨h4,_⟩
    ·exact h9 (.inr ⟨ad,h4⟩)
    ·exact .inl (.inr ⟨ad,h4⟩)
  rx:=fun b hb=>(fr.rx b hb).imp id (Or.imp (fun h4=>(hhas b h4).1) id)
  bm:=frk.bm
  rm:=rm }
 have hR2:∀b,R2 b→b<w.heap.size→¬(wY β ρ ids).has b→R b:=fun b hb hlt hn=>by
  rcases fr.rx b hb with h3|h3|h3
  ·exact h3
  ·exact absurd h3 hn
  ·omega
 refine⟨⟨?_,?_,?_,?_,h2.rlt,?_,h2.gl,?_⟩,gr,hC,hold⟩
 ·intro i x hi
  rw[PM]
  rcases hcase i _ hi with⟨h3,_⟩|⟨j,rfl,h4⟩
  ·omega
  ·have:=h2.dom j x h4;omega
 ·intro i1 i2 b o1 o2 hi1 hi2 l1 l2
  rcases key i1 b o1 hi1 l1 with⟨a1,a2,a3,a4⟩|⟨m1,j1,p1,a1,a2,a3,a4,a5,a6⟩|⟨j1,rfl,a1,a2,a3⟩
  ·rcases key i2 b o2 hi2 l2 with⟨c1,c2,c3,c4⟩|⟨m2,j2,p2,c1,c2,c3,c4,c5,c6⟩|⟨j2,rfl,c1,c2,c3⟩
   ·exact hh.inj i1 i2 b o1 o2 a3 c3 a4 c4
   ·exact hh.inj i1 i2 b o1 o2 a3 c4 a4 (hlv i2 (hsub i2 (cL c2)))
   ·rcases hb2 b (.inl ⟨j2,o2,c2⟩) with h3|h3
    ·exact absurd h3 (hne i1 b o1 a3 a4 a2)
    ·have:=hh.lt i1 b o1 a3;omega
  ·have la:=hlv i1 (hsub i1 (cL a2))
   rcases key i2 b o2 hi2 l2 with⟨c1,c2,c3,c4⟩|⟨m2,j2,p2,c1,c2,c3,c4,c5,c6⟩|⟨j2,rfl,c1,c2,c3⟩
   ·exact hh.inj i1 i2 b o1 o2 a4 c3 la c4
   ·exact hh.inj i1 i2 b o1 o2 a4 c4 la (hlv i2 (hsub i2 (cL c2)))
   ·have:=h2.inj j1 j2 b p1 o2 a5 c2 a6 c3
    subst this;exact absurd (cL a3) c1
  ·rcases key i2 b o2 hi2 l2 with⟨c1,c2,c3,c4⟩|⟨m2,j2,p2,c1,c2,c3,c4,c5,c6⟩|⟨j2,rfl,c1,c2,c3⟩
   ·rcases hb2 b (.inl ⟨j1,o1,a2⟩) with h3|h3
    ·exact absurd h3 (hne i2 b o2 c3 c4 c2)
    ·have:=hh.lt i2 b o2 c3;omega
   ·have:=h2.inj j1 j2 b o1 p2 a2 c5 a3 c6
    subst this;exact absurd (cL c3) a1
   ·rw[h2.inj j1 j2 b o1 o2 a2 c2 a3 c3]
 ·intro i b o hi li
  rcases key i b o hi li with⟨a1,a2,a3,a4⟩|⟨m1,j1,p1,a1,a2,a3,a4,a5,a6⟩|⟨j1,rfl,a1,a2,a3⟩
  ·exact fun hb=>hh.sep i b o a3 a4 (hR2 b hb (hh.lt i b o a3) (hne i b o a3 a4 a2))
  ·exact h2.sep j1 b p1 a5 a6
  ·exact h2.sep j1 b o a2 a3
 ·intro i b o hi
  rcases hcase i _ hi with⟨_,h4⟩|⟨j,_,h4⟩
  ·exact cI (hh.lt i b o h4) fr.size
  ·exact h2.lt j b o h4
 ·intro i b o hi
  rcases hcase i _ hi with⟨h3,h4⟩|⟨j,rfl,h4⟩
  ·rcases old_cases i h3 with⟨m,j,h5,h6,h7⟩|⟨h5,h6⟩|⟨h5,h6⟩
   ·rw[h7]
    obtain⟨hc,b',o',o2,h8,h9⟩:=hpin m i j h5 h6;rw[h4]at h8;injection h8 with h8;injection h8 with h8 h10;subst h8;subst h10
    have h11:=DO (js:=js) (ids:=ids) (L:=h.length) hC (fun b ad hq=>XS hq) (h2.obj j b o2 h9)
    cases hx:bN .gone hE j with
    |cells ty vs=>rw[hx]at h11;exact h11
    |_=>rw[hx]at hc;cases hc
   ·rw[h6];exact trivial
   ·rw[h6]
    cases hl:(bN .gone h i).live with
    |false=>exact OR.dead frk hl (hh.obj i b o h4)
    |true=>
     have hnh:=hne i b o h4 hl h5
     refine OR.keep frk (fun b1 c hq=>?_) (fr.fr b (hh.lt i b o h4) hnh) (hh.obj i b o h4)
     have hnp:¬sD β ρ b:=fun⟨id,h8,o',h9⟩=>hnh (by
      obtain⟨j,hj⟩:=List.mem_iff_getElem?.1 h8
      exact .inl ⟨j,o',by rw[FY (aV.1 hj).1,hj];exact h9⟩)
     have hn1:=hqn b1 (b,c) hq hnp
     have hlt1:=(hh.ql b1 _ hq).1
     refine⟨?_,fr.fr b1 hlt1 hn1⟩
     have hq2:β2.q b1=none:=by
      cases hq2:β2.q b1 with
      |none=>rfl
      |some ad=>
       rcases hb2 b1 (.inr ⟨ad,hq2⟩) with h8|h8
       ·exact absurd h8 hn1
       ·omega
     simp only[pL,hq2,hq,if_neg hnp]
  ·rcases new_cases j _ h4 with⟨h5,h6⟩|⟨h5,h6⟩
   ·rw[h6];exact trivial
   ·rw[h6];exact DO hC (fun b ad hq=>XS hq) (h2.obj j b o h4)
 ·intro b ad hq
  rcases aDC hq with h3|⟨h3,h4⟩
  ·obtain⟨q1,q2,q3⟩:=h2.ql b ad h3
   refine⟨q1,q2,fun i o hi=>?_⟩;cases li:(bN .gone (oF ρ ids js h hE) i).live with
   |false=>rfl
   |true=>
    rcases key i b o hi li with⟨a1,a2,a3,a4⟩|⟨m1,j1,p1,a1,a2,a3,a4,a5,a6⟩|⟨j1,rfl,a1,a2,a3⟩
    ·rcases hb2 b (.inr ⟨ad,h3⟩) with h8|h8
     ·exact absurd h8 (hne i b o a3 a4 a2)
     ·have:=hh.lt i b o a3;omega
    ·have:=q3 j1 p1 a5;rw[a6]at this;cases this
    ·have:=q3 j1 o a2;rw[a3]at this;cases this
  ·obtain⟨q1,q2,q3⟩:=hh.ql b ad h3
   have hn1:=hqn b ad h3 h4
   refine⟨cI q1 fr.size,fun hb=>q2 (hR2 b hb q1 hn1),fun i o hi=>?_⟩;cases li:(bN .gone (oF ρ ids js h hE) i).live with
   |false=>rfl
   |true=>
    have hnb:¬β2.has b:=fun hb=>by
     rcases hb2 b hb with h8|h8
     ·exact hn1 h8
     ·omega
    rcases key i b o hi li with⟨a1,a2,a3,a4⟩|⟨m1,j1,p1,a1,a2,a3,a4,a5,a6⟩|⟨j1,rfl,a1,a2,a3⟩
    ·have:=q3 i o a3;rw[a4]at this;cases this
    ·exact absurd (.inl ⟨j1,p1,a5⟩) hnb
    ·exact absurd (.inl ⟨j1,o,a2⟩) hnb
end
def rF(fn:Func)(ρ ids bs:List Nat)(args:List V)(h:List AO):St:=⟨xY ρ ids ρ.length args++List.replicate (fn.ntmps-args.length) (.t []),inH ρ ids h bs⟩
def aPG:V→V1
 |.c x=>.c x
 |.a cs=>.a cs
 |.t _=>.c .top
def aCA:List V→List V1
 |[]=>[]
 |v::r=>aPG v::aCA r
def aMQ:List V→V
 |[v]=>v
 |vs=>.t (aCA vs)
def XR(js ids:List Nat)(L:Nat):List V→List V
 |[]=>[]
 |v::r=>aPZ js ids L v::XR js ids L r
def sK(h:List AO):List Nat→Bool
 |[]=>true
 |id::r=>(bN .gone h id).live&&sK h r
theorem qL{h:List AO}:∀ {l:List Nat},sK h l=true→∀id∈l,(bN .gone h id).live=true
 |x::r,hl,id,hi=>by
  simp only[sK,aY]at hl
  rcases dZ.1 hi with rfl|hi
  ·exact hl.1
  ·exact qL hl.2 id hi
section
variable {P:Program} {G:Nat→Option Obj} {β:Bt} {R:Nat→Prop} {w:World}
theorem All2.split{α γ:Type}{q:α→γ→Prop}:∀ {xs xs':List α} {ys ys':List γ},xs.length=ys.length→All2 q (xs++xs') (ys++ys')→All2 q xs ys∧All2 q xs' ys'
 |[],_,[],_,_,h=>⟨trivial,h⟩
 |[],_,_::_,_,hl,_=>by simp at hl
 |_::_,_,[],_,hl,_=>by simp at hl
 |_::xs,_,_::ys,_,hl,h=>⟨⟨h.1,(All2.split (xs:=xs) (ys:=ys) (by simpa using hl) h.2).1⟩,(All2.split (xs:=xs) (ys:=ys) (by simpa using hl) h.2).2⟩
theorem SW{v:V}{u:Value}(h:VR β R w v u):BO β R w (aPG v) u:=by
 cases v with
 |c x=>exact h
 |a cs=>exact h
 |t vs=>exact trivial
theorem AH:∀ {vs:List V} {us:List Value},All2 (VR β R w) vs us→All2 (BO β R w) (aCA vs) us
 |[],[],_=>trivial
 |[],_::_,h=>h.elim
 |_::_,[],h=>h.elim
 |_::_,_::_,h=>⟨SW h.1,AH h.2⟩
theorem DT:∀ {vs:List V} {us:List Value} (_:All2 (VR β R w) vs us),VR β R w (aMQ vs) (oneU us)
 |[],[],_=>⟨#[],rfl,trivial⟩
 |[_],[_],h=>h.1
 |_::_::_,_::_::_,h=>⟨_,rfl,AH h⟩
 |[],_::_,h=>h.elim
 |_::_,[],h=>h.elim
 |[_],_::_::_,h=>h.2.elim
 |_::_::_,[_],h=>h.2.elim
theorem rX{st:St}{a:Act}(hs:eC G β R st a w){vs:List V}{us:List Value}(h:All2 (VR β R w) vs us):∀ps:List Nat,All2 (VR β R w) (tI st ps vs) (ps.map (fun j=>a.tmps.getD j undef)++us)
 |[]=>h
 |j::ps=>⟨aR (x:=.tmp j) hs rfl,rX hs h ps⟩
theorem All2.mem_{α γ:Type}{q:α→γ→Prop}:∀ {xs:List α} {ys:List γ},All2 q xs ys→∀x∈xs,∃y,q x y
 |_::_,y::_,h,x,hx=>by
  rcases dZ.1 hx with rfl|hx
  ·exact⟨y,h.1⟩
  ·exact All2.mem_ h.2 x hx
 |_::_,[],h,_,_=>h.elim
def aDZ(id:Nat):V→Prop
 |.c (.ptr i _)=>i=id
 |.c (.fn _ fs cs)=>∃off,B.ptr id off∈fs∨B.ptr id off∈cs
 |_=>False
theorem wD{id:Nat}{v:V}{u:Value}(ho:aDZ id v)(h:VR β R w v u):∃b o,β id=some (b,o):=by
 unfold aDZ at ho;split at ho
 ·subst ho
  obtain⟨b,o,h1,_⟩:=h;exact⟨b,o,h1⟩
 ·obtain⟨us,vs,_,h2,h3⟩:=h
  obtain⟨off,h4|h4⟩:=ho
  ·obtain⟨u,b,o,h5,_⟩:=All2.mem_ h2 _ h4
   exact⟨b,o,h5⟩
  ·obtain⟨u,b,o,h5,_⟩:=All2.mem_ h3 _ h4
   exact⟨b,o,h5⟩
 ·exact ho.elim
theorem LG{args:List V}{us:List Value}(ha:All2 (VR β R w) args us):∀ {ids:List Nat},(∀id∈ids,∃v∈args,aDZ id v)→∃bs:List Nat,bs.length=ids.length∧∀(i:Nat) id b,ids[i]?=some id→bs[i]?=some b→∃o,β id=some (b,o)
 |[],_=>⟨[],rfl,fun i id b h=>by simp at h⟩
 |id::ids,h=>by
  obtain⟨bs,h1,h2⟩:=LG ha (ids:=ids) fun x hx=>h x (cV _ hx)
  obtain⟨v,h3,h3o⟩:=h id (dI ..);obtain⟨u,h4⟩:=All2.mem_ ha _ h3;obtain⟨b,o,h5⟩:=wD h3o h4;refine⟨b::bs,by simp[h1],fun i id' b' hi hb=>?_⟩;cases i with
  |zero=>simp at hi hb;subst hi;subst hb;exact⟨o,h5⟩
  |succ i=>exact h2 i id' b' (by simpa using hi) (by simpa using hb)
theorem yY{β3:Bt}{js ids:List Nat}{L:Nat}(hc:∀(x:C) (u:Value),CR β R w x u→CR β3 R w (wA js ids L x) u):∀ {xs:List V} {us:List Value},All2 (VR β R w) xs us→All2 (VR β3 R w) (XR js ids L xs) us
 |[],[],_=>trivial
 |[],_::_,h=>h.elim
 |_::_,[],h=>h.elim
 |_::_,_::_,h=>⟨TR hc h.1,yY hc h.2⟩
theorem aJL{f:FuncId}{fn:Func}(hf:P.funcs[f]?=some fn)(hok:okF P fn=true){ρ ids ps pns js:List Nat}{args:List V}{h:List AO}(hρ:qJ ρ=true)(hlv:sK h ρ=true)(hsub:∀id∈ids,id∈ρ)(hin:∀id∈ids,∃v∈args,aDZ id v)
  (hjs:js.length=ids.length) {sl vs:List V} {hE:List Nat→List AO} (hps:sl.length=ps.length) (hpn:pns.length=ids.length) (hsl:∀(i:Nat) pn,pns[i]?=some pn→∃v∈sl,aDZ pn v)
  (hEp:∀bs:List Nat,bs.length=ids.length→∀(i:Nat) pn j b,pns[i]?=some pn→js[i]?=some j→bs[i]?=some b→bN .gone (hE bs) pn=.pin j b∧nY (bN .gone (hE bs) j)=true)
  (H:∀bs:List Nat,bs.length=ids.length→jM P G (Zm ps (bB P fn) fun s=>cW G s ⟨sl++vs,hE bs⟩) (cS P fn) (rF fn ρ ids bs args h) fun e s=>e=.normal∧Zm ps (bB P fn) (fun s=>cW G s ⟨sl++vs,hE bs⟩) s) :
  lW P G f args h fun x h'=>∃bs:List Nat,bs.length=ids.length∧x=aMQ (XR js ids h.length vs)∧h'=oF ρ ids js h (hE bs):=by
 unfold okF at hok;simp only[aY,Option.isSome_iff_exists]at hok;obtain⟨⟨c,hc⟩,rs,hr⟩:=hok
 have e1:mT P fn=c:=by unfold mT;rw[hc];rfl
 have e2:bB P fn=rs:=by unfold bB;rw[hr];rfl
 simp only[aB]at hc;obtain⟨c0,hb,hc⟩:=hc;intro β R w us0 ha hh
 obtain⟨bs,hbl,hbs⟩:=LG ha hin
 have H:=jM.code (H bs hbl)
 rw[e1,e2]at H
 have hs0:=aQQ hh hρ (qL hlv) hsub hbl.symm hbs
 refine calls_of_wp hf hb (Code.wp_mono ?_ (H c0 hc (wY β ρ ids) R { tmps:=us0++Array.replicate (fn.ntmps-us0.size) undef,defers:=[] } w ?_))
 ·intro e a' w' hq
  cases e with
  |ret=>
   obtain⟨β',R',st',⟨ws,hws,hz⟩,hs,hfr,hrr⟩:=hq;obtain⟨us,hrun,hall⟩:=qH hs fn.results.toList rs hr hws
   have hs1:eC G β' R' ⟨tI st' ps ws,st'.h⟩ { tmps:=(ps.map (fun j=>a'.tmps.getD j undef)++us).toArray,defers:=[] } w':=⟨rfl,by simpa using rX hs hall ps,hs.hs⟩
   obtain⟨β1,R1,k1,k2,k3⟩:=fW (aK5 (tI st' ps ws)) _ β' R' _ w' hs1;obtain⟨β2,R2,k4,k5,k6⟩:=hz β1 R1 _ w' k1
   have frr:Fr (wY β ρ ids) R w β2 R2 w':=(hfr.trans k2 hrr).trans k5 fun b hb=>k3 b (hrr b hb)
   have hsp:All2 (VR β2 R2 w') (sl++vs) (ps.map (fun j=>a'.tmps.getD j undef)++us):=by simpa using k4.tm
   obtain⟨hsp1,hsp2⟩:=hsp.split (by simpa using hps)
   have hpin:∀(i:Nat) id j,ids[i]?=some id→js[i]?=some j→nY (bN .gone (hE bs) j)=true∧∃b o o2,β id=some (b,o)∧β2 j=some (b,o2):=by
    intro i id j h1 h2
    have hil:=(aV.1 h1).1
    have h3:pns[i]?=some (pns[i]'(by omega)):=aN _
    generalize pns[i]'(by omega)=pn at h3
    have h4:bs[i]?=some (bs[i]'(by omega)):=aN _
    generalize bs[i]'(by omega)=b at h4
    obtain⟨g1,g2⟩:=hEp bs hbl i pn j b h3 h2 h4;obtain⟨v5,h5,h5o⟩:=hsl i pn h3;obtain⟨u,h6⟩:=All2.mem_ hsp1 _ h5;obtain⟨b',o',h7⟩:=wD h5o h6
    have hob:=k4.hs.obj pn b' o' h7
    have g1:bN .gone (hE bs) pn=.pin j b:=g1
    have hob:OR β2 R2 w' (bN .gone (hE bs) pn) b' o':=hob
    rw[g1]at hob;obtain⟨_,o2,h8⟩:=hob;obtain⟨o,h9⟩:=hbs i id b h1 h4;exact⟨g2,b,o,o2,h9,h8⟩
   obtain⟨f1,f2,f3,f4⟩:=aF6 hh (qL hlv) hsub hjs frr (fun b hb=>k6 b (k3 b (hrr b hb))) k4.hs hpin;exact⟨hs.df,_,results_eq fn a'.tmps hrun,_,pL β β2 ρ h.length,R2,_,_,rfl,⟨bs,hbl,rfl,rfl⟩,DT (yY f3 hsp2),f1,f2,f4⟩
  |normal=>
   obtain⟨β',R',st',⟨_,hq0⟩,hs,hfr,hrr⟩:=hq;obtain⟨ws,hws,hz⟩:=hq0;obtain⟨us,hrun,hall⟩:=qH hs fn.results.toList rs hr hws
   have hs1:eC G β' R' ⟨tI st' ps ws,st'.h⟩ { tmps:=(ps.map (fun j=>a'.tmps.getD j undef)++us).toArray,defers:=[] } w':=⟨rfl,by simpa using rX hs hall ps,hs.hs⟩
   obtain⟨β1,R1,k1,k2,k3⟩:=fW (aK5 (tI st' ps ws)) _ β' R' _ w' hs1;obtain⟨β2,R2,k4,k5,k6⟩:=hz β1 R1 _ w' k1
   have frr:Fr (wY β ρ ids) R w β2 R2 w':=(hfr.trans k2 hrr).trans k5 fun b hb=>k3 b (hrr b hb)
   have hsp:All2 (VR β2 R2 w') (sl++vs) (ps.map (fun j=>a'.tmps.getD j undef)++us):=by simpa using k4.tm
   obtain⟨hsp1,hsp2⟩:=hsp.split (by simpa using hps)
   have hpin:∀(i:Nat) id j,ids[i]?=some id→js[i]?=some j→nY (bN .gone (hE bs) j)=true∧∃b o o2,β id=some (b,o)∧β2 j=some (b,o2):=by
    intro i id j h1 h2
    have hil:=(aV.1 h1).1
    have h3:pns[i]?=some (pns[i]'(by omega)):=aN _
    generalize pns[i]'(by omega)=pn at h3
    have h4:bs[i]?=some (bs[i]'(by omega)):=aN _
    generalize bs[i]'(by omega)=b at h4
    obtain⟨g1,g2⟩:=hEp bs hbl i pn j b h3 h2 h4;obtain⟨v5,h5,h5o⟩:=hsl i pn h3;obtain⟨u,h6⟩:=All2.mem_ hsp1 _ h5;obtain⟨b',o',h7⟩:=wD h5o h6
    have hob:=k4.hs.obj pn b' o' h7
    have g1:bN .gone (hE bs) pn=.pin j b:=g1
    have hob:OR β2 R2 w' (bN .gone (hE bs) pn) b' o':=hob
    rw[g1]at hob;obtain⟨_,o2,h8⟩:=hob;obtain⟨o,h9⟩:=hbs i id b h1 h4;exact⟨g2,b,o,o2,h9,h8⟩
   obtain⟨f1,f2,f3,f4⟩:=aF6 hh (qL hlv) hsub hjs frr (fun b hb=>k6 b (k3 b (hrr b hb))) k4.hs hpin;exact⟨hs.df,_,results_eq fn a'.tmps hrun,_,pL β β2 ρ h.length,R2,_,_,rfl,⟨bs,hbl,rfl,rfl⟩,DT (yY f3 hsp2),f1,f2,f4⟩
  |exit id=>obtain⟨_,_,_,q1,_⟩:=hq;exact nomatch q1.1
  |_=>exact hq.elim
 ·refine⟨rfl,?_,hs0⟩
  have hl:args.length=us0.size:=by simpa using ha.length
  show All2 _ (xY ρ ids ρ.length args++List.replicate (fn.ntmps-args.length) (.t [])) _
  rw[Array.toList_append,Array.toList_replicate,hl];exact(FW hsub ha).append (vW _)
theorem aFM{f:FuncId}{fn:Func}(hf:P.funcs[f]?=some fn)(hok:okF P fn=true){ρ ids ps pns js:List Nat}{args:List V}{h:List AO}(hρ:qJ ρ=true)(hlv:sK h ρ=true)(hsub:∀id∈ids,id∈ρ)(hin:∀id∈ids,∃off,V.c (.ptr id off)∈args)
  (hjs:js.length=ids.length) {sl vs:List V} {hE:List Nat→List AO} (hps:sl.length=ps.length) (hpn:pns.length=ids.length) (hsl:∀(i:Nat) pn,pns[i]?=some pn→∃off,V.c (.ptr pn off)∈sl)
  (hEp:∀bs:List Nat,bs.length=ids.length→∀(i:Nat) pn j b,pns[i]?=some pn→js[i]?=some j→bs[i]?=some b→bN .gone (hE bs) pn=.pin j b∧nY (bN .gone (hE bs) j)=true)
  (H:∀bs:List Nat,bs.length=ids.length→jM P G (Zm ps (bB P fn) fun s=>cW G s ⟨sl++vs,hE bs⟩) (cS P fn) (rF fn ρ ids bs args h) fun e s=>e=.normal∧Zm ps (bB P fn) (fun s=>cW G s ⟨sl++vs,hE bs⟩) s) :
  lW P G f args h fun x h'=>∃bs:List Nat,bs.length=ids.length∧x=aMQ (XR js ids h.length vs)∧h'=oF ρ ids js h (hE bs):=
 aJL hf hok hρ hlv hsub (fun id hid=>by obtain⟨off,h⟩:=hin id hid;exact⟨_,h,rfl⟩) hjs hps hpn (fun i pn h=>by obtain⟨off,h⟩:=hsl i pn h;exact⟨_,h,rfl⟩) hEp H
end
section
variable {P:Program} {G:Nat→Option Obj} {ops:Array Oper} {al:List AI} {n:Nat} {S:Nat→St} {ext:Ext}
theorem aD7{listed:Array Bool}{i:Nat}(h:i∈Region.ready .any ops listed):i<ops.size∧listed.getD i true=false∧∀j,Region.waitsFor .any ops i j=true→listed.getD j false=true:=by
 obtain⟨q1,o,q2,q3⟩:=mem_ready.1 h;refine⟨(Array.getElem?_eq_some_iff.1 q2).1,q1,fun j hj=>?_⟩;obtain⟨o',ho',e,he,hb,hon⟩:=Region.waitsFor_spec hj;rw[q2]at ho';injection ho' with ho';subst ho'
 have:=q3 e he hb
 rwa [hon]at this
variable {β0:Bt} {R0:Nat→Prop} {w0:World}
end
section
variable {P:Program} {G:Nat→Option Obj}
end
section
variable {P:Program} {G:Nat→Option Obj}
variable {ops:Array Oper} {ok:Value→Bool} {ty:TypeId} {sz:Nat} {g:Value→Nat×(Nat→Nat→PV)} {kv:Value} {id:Nat} {h:List AO} {m:Nat} {gy:Nat→Nat→C} {t:List V} {β0:Bt} {R0:Nat→Prop} {w0 w:World} {a:Act} {Q:Exit→Act→World→Prop} {K:Act→World→Prop} {x0 xA x1:Bool}
def aQK:dA→Bool
 |.raw _=>true
 |_=>false
theorem aG6{ops:Array Oper}{draw:Bool}{c:dA}(hc:SH P ops draw=some c):aQK c=false:=by
 cases draw with
 |false=>
  simp only[SH,aM]at hc;obtain⟨al,_,rfl⟩:=hc;rfl
 |true=>
  simp only[SH]at hc;split at hc
  ·simp only[aE,aB,aK,aD]at hc
   obtain⟨al,_,hc⟩:=hc;split at hc
   ·injection hc with hc;subst hc;rfl
   ·cases hc
  ·cases hc
theorem jV.raw{id:Nat}{ops:Array Oper}{draw:Bool}{st:St}{K:X→St→Prop}(h:Ex P G (.region id ops draw) st K):jV P G (.raw (.region id ops draw)) st K:=by
 refine jV.core fun c hns hc=>?_
 cases c with
 |scope c'=>exact absurd rfl (hns c')
 |region id' ops' draw'=>
  simp only[dB]at hc;split at hc
  ·rename_i c1 hc1
   injection hc with hc;subst hc;cases aG6 hc1
  ·injection hc with hc
   injection hc with hc;injection hc with e1 e2 e3;subst e1;subst e2;subst e3;exact h
 |seq c1 c2=>cases h2:dB P c1<;>cases h3:dB P c2<;>simp[dB,h2,h3]at hc
 |cond y c1 c2=>cases h1:cX y<;>cases h2:dB P c1<;>cases h3:dB P c2<;>simp[dB,h1,h2,h3]at hc
 |block id c=>cases h1:dB P c<;>simp[dB,h1]at hc
 |loop c=>cases h1:dB P c<;>simp[dB,h1]at hc
 |_=>simp[dB]at hc
end
open Go.Sort
section
variable {P:Program} {G:Nat→Option Obj} {β:Bt} {R:Nat→Prop} {w w':World} {h:List AO}
end
section
variable {P:Program} {G:Nat→Option Obj} {β:Bt} {R:Nat→Prop} {w w':World} {h:List AO} {st:St}
end
section
variable {P:Program} {G:Nat→Option Obj} {β:Bt} {R:Nat→Prop} {w:World} {h:List AO}
end
section
variable {P:Program} {G:Nat→Option Obj}
end
open Go.Proofs
def cM(n m:Int):Int:=(if n<0 then -(n+1) else n)%m
def qM(n:Int):Bool:=decide (97≤n)&&decide (n≤122)
def NI:Mod
 |[.c (.p (.i .i64 n)),.c (.p (.i .i64 m))]=>some (inR .i64 n∧0<m,iV (cM n m))
 |_=>none
def ND:Mod
 |[.c (.p (.i .u8 n))]=>some (True,bV (qM n))
 |_=>none
def dX:Ext:=fB []
def aBE:Ext:=fB [(30,NI)]
theorem aH3(n m:Int):WC dX (mT Tryz.prog Tryz.f30) (iR Tryz.f30 [iV n,iV m]) (wT [] [] (bB Tryz.prog Tryz.f30))=bT (decide (n<0)) (.rq (inR aA (n+1)) (.rq (inR aA (-(n+1))) (.rq (0 ≤ -(n+1)∧0<m) (.done .ret (St.mk [V.c (C.p (PV.i aA (-(n+1)%m)))] [])))))
 (.rq (0≤n∧0<m) (.done .ret (St.mk [V.c (C.p (PV.i aA (n%m)))] []))):=by kernel_rfl
theorem aH2(n:Int):WC dX (mT Tryz.prog Tryz.f80) (iR Tryz.f80 [.c (.p (.i .u8 n))]) (wT [] [] (bB Tryz.prog Tryz.f80))=bT (decide (97≤n)) (.done .ret (St.mk [V.c (C.p (PV.b (decide (n≤122))))] [])) (.done .ret (St.mk [V.c (C.p (PV.b false))] [])):=by kernel_rfl
section
variable {G:Nat→Option Obj}
theorem aT{P:Program}:bO P G dX:=cD (by simp)
theorem aDX:dD Tryz.prog G 30 NI:=by
 intro args p v hm hp h;unfold NI at hm;split at hm
 ·rename_i n m
  injection hm with hm;injection hm with e1 e2;subst e1;subst e2;obtain⟨hn,hm⟩:=hp;simp only[inR]at hn
  refine aQU aT Tryz.func30 (by kernel_rfl) rfl (aH3 n m) ?_ h
  simp only[bD,aS,nM,KF];refine⟨fun h1=>?_,fun h1=>?_⟩
  ·have h1:n<0:=by simpa using h1
   refine⟨by simp only[inR];omega,by simp only[inR];omega,by omega,_,rfl,eL.of_eq ?_⟩;unfold cM;rw[if_pos h1];rfl
  ·have h1:¬n<0:=by simpa using h1
   refine⟨by omega,_,rfl,eL.of_eq ?_⟩;unfold cM;rw[if_neg h1];rfl
 ·cases hm
theorem aDP:dD Tryz.prog G 80 ND:=by
 intro args p v hm hp h;unfold ND at hm;split at hm
 ·rename_i n
  injection hm with hm;injection hm with e1 e2;subst e1;subst e2
  refine aQU aT Tryz.func80 (by kernel_rfl) rfl (aH2 n) ?_ h
  simp only[bD,aS,nM,KF];refine⟨fun h1=>?_,fun h1=>?_⟩
  ·refine⟨_,rfl,eL.of_eq ?_⟩
   unfold qM;rw[h1];rfl
  ·refine⟨_,rfl,eL.of_eq ?_⟩
   unfold qM;rw[h1];rfl
 ·cases hm
theorem pS:bO Tryz.prog G aBE:=cD (by simp;exact aDX)
end
end Go.AE
