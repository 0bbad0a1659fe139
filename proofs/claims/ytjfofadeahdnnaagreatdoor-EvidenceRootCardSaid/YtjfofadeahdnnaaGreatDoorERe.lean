import Derived.Test.YtjfofadeahdnnaaGreatDoorERd
import Derived.Sort.Row
import Derived.Sort.Grow
import Derived.Test.YtjfofadeahdnnaaGreatDoorProg
set_option linter.unusedVariables false
set_option linter.unusedSimpArgs false
namespace Go.AE
open _root_.Array renaming getElem?_toList→aW
open _root_.Bool renaming and_eq_true→aS
open IntKind renaming i64→aC
open _root_.List renaming getD_eq_getElem?_getD→aD,getElem?_eq_getElem→aH,getElem?_eq_none→bB,getElem?_eq_some_iff→aN,length_append→bJ,length_set→cD,mem_cons→cR,mem_cons_of_mem→bL,mem_cons_self→bH,mem_of_getElem?→bR,replicate→eD
open _root_.Nat renaming beq→aT,eq_of_beq_eq_true→aF,le_refl→aJ,lt_of_lt_of_le→bM,lt_or_ge→cA,zero_add→cK
open _root_.Option renaming bind_eq_bind→aE,bind_eq_some_iff→aA,map_eq_some_iff→aI,pure_def→aG,some.injEq→aB
open Region renaming waitsFor→dR
open Go.RowKit
section
variable {P:Program} {G:Nat→Option Obj}
def aV9(G:Nat→Option Obj)(h:List AO)(x v:V):Prop:=∀β R w u,HS G β R w h→VR β R w x u→VR Bt.nil (fun b=>b<w.heap.size) w v u
inductive UJ (G:Nat→Option Obj) (h:List AO):List V→List V→Prop
 |nil:UJ G h [] []
 |cons {x v:V} {xs vs:List V}:aV9 G h x v→UJ G h xs vs→UJ G h (x::xs) (v::vs)
theorem UJ.all{h:List AO}{β:Bt}{R:Nat→Prop}{w:World}(hh:HS G β R w h){xs vs:List V}(hl:UJ G h xs vs):∀ {us:List Value},All2 (VR β R w) xs us→All2 (VR Bt.nil (fun b=>b<w.heap.size) w) vs us:=by
 induction hl with
 |nil=>intro us hu;cases us<;>exact hu
 |cons h1 _ ih=>
  intro us hu;cases us with
  |nil=>exact hu.elim
  |cons u us=>exact⟨h1 _ _ _ _ hh hu.1,ih hu.2⟩
def b1(g N:Nat):Bt:=⟨fun i=>if i=0 then some (g,N) else none,fun _=>none⟩
theorem aOP{R:Nat→Prop}{w w':World}(hr:∀b,R b→b<w.heap.size)(hb:Below w.heap.size w w'){g N:Nat}(hg:w.heap.size≤g):Fr Bt.nil R w (b1 g N) R w':=
 ⟨hb.os,hb.tape,hb.output,hb.size,fun b h=>hb.block b (hr b h),fun b h _=>hb.block b h,(fun b h=>by
  rcases h with⟨i,o,h⟩|⟨ad,h⟩
  ·have h:(if i=0 then some (g,N) else none)=some (b,o):=h
   split at h
   ·injection h with h;injection h with h1 h2;exact .inr (h1▸hg)
   ·cases h
  ·cases h),fun _ h=>.inl h⟩
theorem aOF{β:Bt}{R:Nat→Prop}{w w':World}{h:List AO}(hh:HS G β R w h)(hb:Below w.heap.size w w'){g N:Nat}(hg:w.heap.size≤g)(hlt:g<w'.heap.size){x:AO}(hob:OR (b1 g N) R w' x g N):HS G (b1 g N) R w' [x]:=by
 have key:∀ {i:Nat} {y:Nat×Nat},b1 g N i=some y→i=0∧y=(g,N):=by
  intro i y hy
  have hy:(if i=0 then some (g,N) else none)=some y:=hy
  split at hy
  ·rename_i h0;injection hy with hy;exact⟨h0,hy.symm⟩
  ·cases hy
 refine⟨?_,?_,?_,?_,?_,?_,?_,(fun _ _ h=>by cases h)⟩
 ·intro i y hy;rw[(key hy).1];exact Nat.zero_lt_one
 ·intro i j b o o' hi hj _ _;rw[(key hi).1,(key hj).1]
 ·intro i b o hi _ hr
  have:=(key hi).2
  injection this with h1 h2
  have:=hh.rlt b hr
  omega
 ·intro i b o hi
  have:=(key hi).2
  injection this with h1 h2;omega
 ·intro b hr;exact bM (hh.rlt b hr) hb.size
 ·intro i b o hi
  obtain⟨h1,h2⟩:=key hi;injection h2 with h2 h3;subst h1;subst h2;subst h3;exact hob
 ·intro b o hgb
  obtain⟨h1,h2⟩:=hh.gl b o hgb;exact⟨h1,(hb.block b (hh.rlt b h1)).trans h2⟩
end
section
variable {P:Program} {G:Nat→Option Obj}
end
section
variable {P:Program} {G:Nat→Option Obj} {β:Bt} {R:Nat→Prop} {w:World} {st:St}
theorem xY{h h':List AO}(hh:HS G β R w h){β':Bt}{R':Nat→Prop}(hlen:h.length≤h'.length)(hf:∀i x,β' i=some x→i<h'.length)(hrm:∀b,R b→R' b)(hrlt:∀b,R' b→b<w.heap.size)
  (hinj:∀i j b o o',β' i=some (b,o)→β' j=some (b,o')→(aZ .gone h' i).live=true→(aZ .gone h' j).live=true→i=j) (hsep:∀i b o,β' i=some (b,o)→(aZ .gone h' i).live=true→¬R' b)
  (hlt:∀i b o,β' i=some (b,o)→b<w.heap.size) (hobj:∀i b o,β' i=some (b,o)→OR β' R' w (aZ .gone h' i) b o)
  (hql:∀b ad,β'.q b=some ad→b<w.heap.size∧¬R' b∧∀i o,β' i=some (b,o)→(aZ .gone h' i).live=false):HS G β' R' w h':=
 ⟨hf,hinj,hsep,hlt,hrlt,hobj,fun b o hb=>⟨hrm b (hh.gl b o hb).1,(hh.gl b o hb).2⟩,hql⟩
theorem aDX{j id:Nat}{ty:TypeId}{sz n off len:Nat}{f:Nat→Nat→C}(ht:aZ (.c .top) st.t j=.c (.sl id sz off len))(hid:aZ .gone st.h id=.row ty sz n f)(hn:off+len≤n)(hf:∀e o,e<len→o<sz→zE (f (e+off) o)=true) :
  cL G st ⟨upd (.c (.p (.l sz len fun e o=>pE (f (e+off) o)))) st.t j,upd .gone st.h id⟩:=by
 intro β R a w hs
 have hh:=hs.hs
 have hlid:=iM hid (by simp)
 let own:Nat→Prop:=fun b1=>(∃N,β id=some (b1,N))∨∃b N k,β id=some (b,N)∧β.q b1=some (b,k)
 let R':Nat→Prop:=fun b1=>R b1∨own b1
 open Classical in
 let β':Bt:=⟨β.f,fun b1=>if own b1 then none else β.q b1⟩
 have hq':∀b2 ad,β'.q b2=some ad→¬own b2∧β.q b2=some ad:=by
  intro b2 ad h
  have h:(if own b2 then none else β.q b2)=some ad:=h
  split at h
  ·cases h
  ·rename_i h1;exact⟨h1,h⟩
 have hq2:∀b2 ad,¬own b2→β.q b2=some ad→β'.q b2=some ad:=by
  intro b2 ad h1 h2
  show (if own b2 then none else β.q b2)=some ad
  rw[if_neg h1];exact h2
 have hkp:jI β R w β' R' w:=⟨fun _ _ h=>h,fun _ h=>.inl h,fun _ _=>rfl⟩
 have hlive:(aZ .gone st.h id).live=true:=by rw[hid];rfl
 have hl2:∀i,(aZ .gone (upd .gone st.h id) i).live=true→i≠id∧(aZ .gone st.h i).live=true:=fun i hl=>kK hl
 have hlf:∀i,(aZ .gone st.h i).live=false→(aZ .gone (upd .gone st.h id) i).live=false:=fun i hl=>by
  by_cases e:id=i
  ·subst e;rw[eO _ _ _ hlid];rfl
  ·rw[dC _ _ _ e];exact hl
 have hown_live:∀i b o,β i=some (b,o)→(aZ .gone (upd .gone st.h id) i).live=true→¬own b:=by
  intro i b o hi hl;obtain⟨k1,k2⟩:=hl2 i hl;rintro (⟨N,h1⟩|⟨b0,N,k,h1,h2⟩)
  ·exact k1 (hh.inj i id b o N hi h1 k2 hlive)
  ·have:=(hh.ql b _ h2).2.2 i o hi
   rw[k2]at this;cases this
 have hval:∀u,VR β R w (.c (.sl id sz off len)) u→PR R' w (.l sz len fun e o=>pE (f (e+off) o)) u:=by
  rintro u ⟨A,c,rfl,g1,g2,g3⟩;refine⟨A,c,rfl,g1,g2,fun hn0=>?_⟩
  rcases g3 with⟨_,g4,_⟩|⟨b,o0,g4,rfl,g7⟩
  ·omega
  ·have hob:=hh.obj id b o0 g4
   rw[hid]at hob;obtain⟨cs,g8,g80,g9,g10⟩:=hob;refine⟨_,rfl,.inr (.inl ⟨o0,g4⟩),fun e q he hq=>?_⟩;obtain⟨u,h5,h6⟩:=g10 (e+off) q (by omega) hq;refine⟨u,?_,?_⟩
   ·rw[add_mid,cell_of_row w b _ cs ty (0,0) g8,←h5]
    congr 1;rw[Nat.add_mul];omega
   ·have:=hf e q he hq
    show PR R' w (pE (f (e+off) q)) u
    cases hfe:f (e+off) q with
    |p x=>
     rw[hfe]at h6;exact PR.keep (fun _ h=>.inl h) (fun _ _=>rfl) _ h6
    |own ty2 sz2 n2 f2=>
     rw[hfe]at h6;obtain⟨A,c,k1,k2,k3,k4⟩:=h6;refine⟨A,c,k1,k2,k3,fun hn=>?_⟩
     rcases k4 with⟨_,k5,_⟩|⟨b2,cs2,k5,k6,k7,k8,k9⟩
     ·omega
     ·refine⟨_,k5,.inr (.inr ⟨b,o0,_,g4,k6⟩),fun e2 o2 he2 ho2=>?_⟩
      obtain⟨u2,r1,r2⟩:=k9 e2 o2 he2 ho2;exact⟨u2,by rw[add_mid,cell_of_row w b2 _ cs2 ty2 (0,0) k7,cK];exact r1,PR.keep (fun _ h=>.inl h) (fun _ _=>rfl) _ r2⟩
    |_=>rw[hfe]at this;cases this
 have hHS:HS G β' R' w (upd .gone st.h id):=by
  refine xY hh (by rw[fS,cD];exact aJ _) (fun i x hi=>by rw[fS,cD];exact hh.dom i x hi) (fun _ h=>.inl h) ?_ ?_ ?_ hh.lt ?_ ?_
  ·rintro b (h1|⟨N,h1⟩|⟨b0,N,k,h1,h2⟩)
   ·exact hh.rlt b h1
   ·exact hh.lt id b N h1
   ·exact(hh.ql b _ h2).1
  ·intro i j b o o' hi hj li lj
   exact hh.inj i j b o o' hi hj (hl2 i li).2 (hl2 j lj).2
  ·rintro i b o hi li (h1|h1)
   ·exact hh.sep i b o hi (hl2 i li).2 h1
   ·exact hown_live i b o hi li h1
  ·intro i b o hi
   cases hl:(aZ .gone (upd .gone st.h id) i).live with
   |false=>exact OR.dead_gone hkp hl (hh.obj i b o hi)
   |true=>
    obtain⟨k1,k2⟩:=hl2 i hl;rw[dC _ _ _ (fun e=>k1 e.symm)];refine OR.keep hkp (fun b1 k h1=>⟨hq2 b1 _ ?_ h1,rfl⟩) rfl (hh.obj i b o hi);rintro (⟨N,h2⟩|⟨b0,N,k',h2,h3⟩)
    ·have:=(hh.ql b1 _ h1).2.2 id N h2
     rw[hlive]at this;cases this
    ·rw[h1]at h3;injection h3 with h3;injection h3 with h3 _
     exact k1 (hh.inj i id b o N hi (h3▸h2) k2 hlive)
  ·intro b2 ad hq
   obtain⟨k1,k2⟩:=hq' b2 ad hq;obtain⟨q1,q2,q3⟩:=hh.ql b2 ad k2;exact⟨q1,fun h=>h.elim q2 k1,fun i o hi=>hlf i (q3 i o hi)⟩
 refine⟨β',R',⟨hs.df,?_,hHS⟩,⟨rfl,rfl,rfl,aJ _,fun _ _=>rfl,fun _ _ _=>rfl,?_,?_⟩,fun _ h=>.inl h⟩
 ·have h1:eJ G β' R' ⟨st.t,upd .gone st.h id⟩ a w:=⟨hs.df,hs.tm.mono fun _ _=>VR.keep hkp,hHS⟩
  have h0:=hs.tm
  show All2 (VR β' R' w) (upd (.c (.p (.l sz len fun e o=>pE (f (e+off) o)))) st.t j) a.tmps.toList
  have h2:∀(xs:List V) (ys:List Value) (j:Nat),aZ (.c .top) xs j=.c (.sl id sz off len)→All2 (VR β R w) xs ys→All2 (VR β' R' w) (upd (.c (.p (.l sz len fun e o=>pE (f (e+off) o)))) xs j) ys:=by
   intro xs;induction xs with
   |nil=>intro ys j _ h;cases ys<;>exact h
   |cons x xs ih=>
    intro ys j hj h;cases ys with
    |nil=>exact h.elim
    |cons y ys=>
     cases j with
     |zero=>
      have hj:x=.c (.sl id sz off len):=hj
      subst hj;exact⟨hval y h.1,h.2.mono fun _ _=>VR.keep hkp⟩
     |succ j=>exact⟨VR.keep hkp h.1,ih ys j hj h.2⟩
  exact h2 st.t a.tmps.toList j ht h0
 ·rintro b2 (⟨i,o,hi⟩|⟨ad,hq⟩)
  ·exact .inl (.inl ⟨i,o,hi⟩)
  ·exact .inl (.inr ⟨ad,(hq' b2 ad hq).2⟩)
 ·rintro b (h1|⟨N,h1⟩|⟨b0,N,k,h1,h2⟩)
  ·exact .inl h1
  ·exact .inr (.inl (.inl ⟨id,N,h1⟩))
  ·exact .inr (.inl (.inr ⟨_,h2⟩))
theorem aL3(c:dD):iI c≠[]:=by
 induction c with
 |seq a b iha _=>
  simp only[iI];cases h:iI a with
  |nil=>exact absurd h iha
  |cons x r=>simp[rE]
 |_=>simp[iI]
theorem HT:∀ {a b pre:List dD} {x:dD},b≠[]→rE a b=rE pre [x]→∃pb,b=rE pb [x]∧pre=rE a pb
 |[],b,pre,x,_,h=>⟨pre,h,rfl⟩
 |c::a,b,[],x,hb,h=>by
  simp only[rE,List.cons.injEq]at h;cases a with
  |nil=>exact absurd h.2 hb
  |cons _ _=>simp[rE]at h
 |c::a,b,p::pre,x,hb,h=>by
  simp only[rE,List.cons.injEq]at h;obtain⟨pb,h1,h2⟩:=HT hb h.2;exact⟨pb,h1,by rw[h.1,h2];rfl⟩
def vF:V:=.c (.lp 0 0 (fun _ _=>.b true) 0 0)
theorem aNS{G:Nat→Option Obj}{K:X→St→Prop}{st:St}(h:RK P G [] vF K .ret st):False:=by
 obtain⟨x,h1,h2⟩:=h
 have h1:[vI []]=[x]:=h1
 injection h1 with h1 _
 have:=h2 Bt.nil (fun _=>False) (default:World) (.tuple #[]) (by rw[←h1];exact⟨#[],rfl,trivial⟩)
 obtain⟨ad,_,h3,_⟩:=this;exact absurd h3 (Nat.lt_irrefl 0)
theorem dK.toRet{G:Nat→Option Obj}:∀ {c:dD} {pre:List dD} {st:St} {Q:X→St→Prop} {K:X→St→Prop},iI c=rE pre [.ret]→dK P G [] vF pre st Q→(∀st,Q .normal st→K .ret st)→(∀id st,Q (.exit id) st→K (.exit id) st)→lM P G c st K:=by
 intro c;induction c with
 |seq a b iha ihb=>
  intro pre st Q K hf h hk hx;obtain⟨pb,h1,rfl⟩:=HT (aL3 b) hf
  have h2:=dK.code (dK.cut h)
  refine lM.seq h2 (fun st' hq=>ihb h1 hq hk hx) (fun e st' he hq=>?_);cases e with
  |normal=>exact absurd rfl he
  |exit id=>exact hx id st' hq
  |ret=>exact(aNS hq).elim
 |ret=>
  intro pre st Q K hf h hk hx;cases pre with
  |nil=>
   obtain⟨st2,h1,h2⟩:=h;refine lM.pre h1 ?_;exact lM.ev (ext:=kH []) (eB (by simp)) (ac:=.ret) (st:=st2) (k:=fun e s=>.done e s) (K:=K) (hk _ h2)
  |cons p pre=>cases pre<;>simp[iI,rE]at hf
 |_=>
  intro pre st Q K hf;cases pre with
  |nil=>simp[iI,rE]at hf
  |cons p pre=>cases pre<;>simp[iI,rE]at hf
theorem aL2{G:Nat→Option Obj}{f:FuncId}{fn:Func}{r:Nat}{ty:TypeId}{sz n:Nat}{F:Nat→Nat→PV}{pre:List dD}(hf:P.funcs[f]?=some fn)(hok:okF P fn=true)(hr:fn.results.toList=[.tmp r])(hpre:dW P fn=rE pre [.ret]){args:List V}(hp:nD args=true)
  (h:dK P G [] vF pre (pZ fn args) fun e st=>e=.normal∧YT r ty sz n F .ret st) (h0:List AO) :
  lW P G f args h0 fun x h'=>x=.c (.sl (gA h0) sz 0 n)∧h'=gE (.row ty sz n fun e o=>.p (F e o)) h0:=
 aOQ hf hok hr hp (dK.toRet hpre h (fun _ hq=>hq.2) (fun _ _ hq=>by cases hq.1)) h0
theorem aCQ{p q:Tr}{K:X→St→Prop}:(Tr.alt p q).holds P G K↔p.holds P G K∧q.holds P G K:=Iff.rfl
theorem aB8{j:Nat}{y:V}(h:lO (aZ (.c .top) st.t j) y):cL G st ⟨upd y st.t j,st.h⟩:=fun β R a w hs=>
 ⟨β,R,eJ.same hs (fun u hu=>h β R w u hu),Fr.refl _ _ _,fun _ hb=>hb⟩
theorem JC{id:Nat}{ty:TypeId}{sz n:Nat}{f f':Nat→Nat→C}(hid:aZ .gone st.h id=.row ty sz n f)(h:∀e o,e<n→o<sz→∀(β:Bt) (R:Nat→Prop) (w:World) ad u,pY β R w ad (f e o) u→pY β R w ad (f' e o) u) :
  cL G st ⟨st.t,upd (.row ty sz n f') st.h id⟩:=by
 intro β R a w hs
 have hh:=hs.hs
 have hlid:=iM hid (by simp)
 have hlv:∀i,(aZ .gone (upd (.row ty sz n f') st.h id) i).live=(aZ .gone st.h i).live:=fun i=>by
  by_cases e:id=i
  ·subst e;rw[eO _ _ _ hlid,hid];rfl
  ·rw[dC _ _ _ e]
 refine⟨β,R,⟨hs.df,hs.tm,?_⟩,Fr.refl _ _ _,fun _ hb=>hb⟩;refine xY hh (by rw[fS,cD];exact aJ _) (fun i x hi=>by rw[fS,cD];exact hh.dom i x hi) (fun _ h=>h) hh.rlt ?_ ?_ hh.lt ?_ ?_
 ·intro i j b o o' hi hj li lj
  rw[hlv]at li lj;exact hh.inj i j b o o' hi hj li lj
 ·intro i b o hi li
  rw[hlv]at li;exact hh.sep i b o hi li
 ·intro i b o hi
  by_cases e:id=i
  ·subst e
   rw[eO _ _ _ hlid]
   have hob:=hh.obj id b o hi
   rw[hid]at hob;obtain⟨cs,g1,g2,g3,g4⟩:=hob;refine⟨cs,g1,g2,g3,fun e k he hk=>?_⟩;obtain⟨u,u1,u2⟩:=g4 e k he hk;exact⟨u,u1,h e k he hk _ _ _ _ _ u2⟩
  ·rw[dC _ _ _ e]
   exact hh.obj i b o hi
 ·intro b ad hq
  obtain⟨q1,q2,q3⟩:=hh.ql b ad hq;exact⟨q1,q2,fun i o hi=>by rw[hlv];exact q3 i o hi⟩
end
section
variable {P:Program} {G:Nat→Option Obj} {β:Bt} {R:Nat→Prop} {w:World} {st:St}
theorem aB9(ty:TypeId)(sz:Nat)(f:Nat→Nat→C){id k:Nat}{t0:TypeId}{vs:List C}(hid:aZ .gone st.h id=.cells t0 vs)(hk:aZ .top vs k=.p (.z (.slice none 0 0))) :
  cL G st ⟨st.t,gE (.row ty sz 0 f) (upd (.cells t0 (upd (.sl (gA st.h) sz 0 0) vs k)) st.h id)⟩:=by
 intro β R a w hs
 have hh:=hs.hs
 have hlid:=iM hid (by simp)
 have hlenu:∀x:AO,(upd x st.h id).length=st.h.length:=fun x=>by rw[fS];simp
 have hnth:∀i x,β i=some x→aZ .gone (gE (.row ty sz 0 f) (upd (.cells t0 (upd (.sl (gA st.h) sz 0 0) vs k)) st.h id)) i=aZ .gone (upd (.cells t0 (upd (.sl (gA st.h) sz 0 0) vs k)) st.h id) i:=fun i x hi=>gP _ _ _ (by rw[hlenu];exact hh.dom i x hi)
 have hlv:∀i x,β i=some x→(aZ .gone (gE (.row ty sz 0 f) (upd (.cells t0 (upd (.sl (gA st.h) sz 0 0) vs k)) st.h id)) i).live=(aZ .gone st.h i).live:=fun i x hi=>by
  rw[hnth i x hi]
  by_cases e:id=i
  ·subst e;rw[eO _ _ _ hlid,hid];rfl
  ·rw[dC _ _ _ e]
 refine⟨β,R,⟨hs.df,hs.tm,?_⟩,Fr.refl _ _ _,fun _ hb=>hb⟩;refine xY hh (by rw[lN];simp[hlenu]) (fun i x hi=>by rw[lN];have:=hh.dom i x hi;simp[hlenu];omega) (fun _ h=>h) hh.rlt ?_ ?_ hh.lt ?_ ?_
 ·intro i j b o o' hi hj li lj
  rw[hlv i _ hi]at li;rw[hlv j _ hj]at lj;exact hh.inj i j b o o' hi hj li lj
 ·intro i b o hi li
  rw[hlv i _ hi]at li;exact hh.sep i b o hi li
 ·intro i b o hi
  rw[hnth i _ hi]
  by_cases e:id=i
  ·subst e
   rw[eO _ _ _ hlid]
   have hob:=hh.obj id b o hi
   rw[hid]at hob;obtain⟨cs,g1,g2⟩:=hob;refine⟨cs,g1,?_⟩;clear hlv hnth hid hi
   generalize cs.toList=us at g2
   induction vs generalizing k us with
   |nil=>exact g2
   |cons v vs ih=>
    cases us with
    |nil=>exact g2.elim
    |cons u us=>
     cases k with
     |zero=>
      have hk:v=.p (.z (.slice none 0 0)):=hk
      subst hk;refine⟨?_,g2.2⟩
      have h1:u=.slice none 0 0:=g2.1
      exact⟨none,0,h1,aJ _,Nat.zero_le _,.inl ⟨.inl rfl,rfl,rfl⟩⟩
     |succ k=>exact⟨g2.1,ih hk us g2.2⟩
  ·rw[dC _ _ _ e]
   exact hh.obj i b o hi
 ·intro b ad hq
  obtain⟨q1,q2,q3⟩:=hh.ql b ad hq;exact⟨q1,q2,fun i o hi=>by rw[hlv i _ hi];exact q3 i o hi⟩
end
section
variable {P:Program} {G:Nat→Option Obj}
theorem GJ{β:Bt}{R:Nat→Prop}{w:World}{h:List AO}(hh:HS G β R w h){id:Nat}{ty:TypeId}{sz n:Nat}{f:Nat→Nat→C}(hid:aZ .gone h id=.row ty sz n f)(hf:∀e o,e<n→o<sz→zE (f e o)=true) :
  ∃β' R',HS G β' R' w (upd .gone h id)∧Gr β R w β' R' w∧(∀i,β' i=β i)∧∀off len u,off+len≤n→CR β R w (.sl id sz off len) u→PR R' w (.l sz len fun e o=>pE (f (e+off) o)) u:=by
 have hlid:=iM hid (by simp)
 let own:Nat→Prop:=fun b1=>(∃N,β id=some (b1,N))∨∃b N k,β id=some (b,N)∧β.q b1=some (b,k)
 let R':Nat→Prop:=fun b1=>R b1∨own b1
 open Classical in
 let β':Bt:=⟨β.f,fun b1=>if own b1 then none else β.q b1⟩
 have hq':∀b2 ad,β'.q b2=some ad→¬own b2∧β.q b2=some ad:=by
  intro b2 ad h
  have h:(if own b2 then none else β.q b2)=some ad:=h
  split at h
  ·cases h
  ·rename_i h1;exact⟨h1,h⟩
 have hq2:∀b2 ad,¬own b2→β.q b2=some ad→β'.q b2=some ad:=by
  intro b2 ad h1 h2
  show (if own b2 then none else β.q b2)=some ad
  rw[if_neg h1];exact h2
 have hkp:jI β R w β' R' w:=⟨fun _ _ h=>h,fun _ h=>.inl h,fun _ _=>rfl⟩
 have hlive:(aZ .gone h id).live=true:=by rw[hid];rfl
 have hl2:∀i,(aZ .gone (upd .gone h id) i).live=true→i≠id∧(aZ .gone h i).live=true:=fun i hl=>kK hl
 have hlf:∀i,(aZ .gone h i).live=false→(aZ .gone (upd .gone h id) i).live=false:=fun i hl=>by
  by_cases e:id=i
  ·subst e;rw[eO _ _ _ hlid];rfl
  ·rw[dC _ _ _ e];exact hl
 have hown_live:∀i b o,β i=some (b,o)→(aZ .gone (upd .gone h id) i).live=true→¬own b:=by
  intro i b o hi hl;obtain⟨k1,k2⟩:=hl2 i hl;rintro (⟨N,h1⟩|⟨b0,N,k,h1,h2⟩)
  ·exact k1 (hh.inj i id b o N hi h1 k2 hlive)
  ·have:=(hh.ql b _ h2).2.2 i o hi
   rw[k2]at this;cases this
 have hval:∀off len u,off+len≤n→CR β R w (.sl id sz off len) u→PR R' w (.l sz len fun e o=>pE (f (e+off) o)) u:=by
  rintro off len u hn ⟨A,c,rfl,g1,g2,g3⟩;refine⟨A,c,rfl,g1,g2,fun hn0=>?_⟩
  rcases g3 with⟨_,g4,_⟩|⟨b,o0,g4,rfl,g7⟩
  ·omega
  ·have hob:=hh.obj id b o0 g4
   rw[hid]at hob;obtain⟨cs,g8,g80,g9,g10⟩:=hob;refine⟨_,rfl,.inr (.inl ⟨o0,g4⟩),fun e q he hq=>?_⟩;obtain⟨u,h5,h6⟩:=g10 (e+off) q (by omega) hq;refine⟨u,?_,?_⟩
   ·rw[add_mid,cell_of_row w b _ cs ty (0,0) g8,←h5]
    congr 1;rw[Nat.add_mul];omega
   ·have:=hf (e+off) q (by omega) hq
    show PR R' w (pE (f (e+off) q)) u
    cases hfe:f (e+off) q with
    |p x=>
     rw[hfe]at h6;exact PR.keep (fun _ h=>.inl h) (fun _ _=>rfl) _ h6
    |own ty2 sz2 n2 f2=>
     rw[hfe]at h6;obtain⟨A,c,k1,k2,k3,k4⟩:=h6;refine⟨A,c,k1,k2,k3,fun hn=>?_⟩
     rcases k4 with⟨_,k5,_⟩|⟨b2,cs2,k5,k6,k7,k8,k9⟩
     ·omega
     ·refine⟨_,k5,.inr (.inr ⟨b,o0,_,g4,k6⟩),fun e2 o2 he2 ho2=>?_⟩
      obtain⟨u2,r1,r2⟩:=k9 e2 o2 he2 ho2;exact⟨u2,by rw[add_mid,cell_of_row w b2 _ cs2 ty2 (0,0) k7,cK];exact r1,PR.keep (fun _ h=>.inl h) (fun _ _=>rfl) _ r2⟩
    |_=>rw[hfe]at this;cases this
 have hHS:HS G β' R' w (upd .gone h id):=by
  refine xY hh (by rw[fS,cD];exact aJ _) (fun i x hi=>by rw[fS,cD];exact hh.dom i x hi) (fun _ h=>.inl h) ?_ ?_ ?_ hh.lt ?_ ?_
  ·rintro b (h1|⟨N,h1⟩|⟨b0,N,k,h1,h2⟩)
   ·exact hh.rlt b h1
   ·exact hh.lt id b N h1
   ·exact(hh.ql b _ h2).1
  ·intro i j b o o' hi hj li lj
   exact hh.inj i j b o o' hi hj (hl2 i li).2 (hl2 j lj).2
  ·rintro i b o hi li (h1|h1)
   ·exact hh.sep i b o hi (hl2 i li).2 h1
   ·exact hown_live i b o hi li h1
  ·intro i b o hi
   cases hl:(aZ .gone (upd .gone h id) i).live with
   |false=>exact OR.dead_gone hkp hl (hh.obj i b o hi)
   |true=>
    obtain⟨k1,k2⟩:=hl2 i hl;rw[dC _ _ _ (fun e=>k1 e.symm)];refine OR.keep hkp (fun b1 k h1=>⟨hq2 b1 _ ?_ h1,rfl⟩) rfl (hh.obj i b o hi);rintro (⟨N,h2⟩|⟨b0,N,k',h2,h3⟩)
    ·have:=(hh.ql b1 _ h1).2.2 id N h2
     rw[hlive]at this;cases this
    ·rw[h1]at h3;injection h3 with h3;injection h3 with h3 _
     exact k1 (hh.inj i id b o N hi (h3▸h2) k2 hlive)
  ·intro b2 ad hq
   obtain⟨k1,k2⟩:=hq' b2 ad hq;obtain⟨q1,q2,q3⟩:=hh.ql b2 ad k2;exact⟨q1,fun h=>h.elim q2 k1,fun i o hi=>hlf i (q3 i o hi)⟩
 refine⟨β',R',hHS,⟨⟨rfl,rfl,rfl,aJ _,fun _ _=>rfl,fun _ _ _=>rfl,?_,?_⟩,fun _ _ h=>h,fun _ h=>.inl h⟩,fun _=>rfl,hval⟩
 ·rintro b2 (⟨i,o,hi⟩|⟨ad,hq⟩)
  ·exact .inl (.inl ⟨i,o,hi⟩)
  ·exact .inl (.inr ⟨ad,(hq' b2 ad hq).2⟩)
 ·rintro b (h1|⟨N,h1⟩|⟨b0,N,k,h1,h2⟩)
  ·exact .inl h1
  ·exact .inr (.inl (.inl ⟨id,N,h1⟩))
  ·exact .inr (.inl (.inr ⟨_,h2⟩))
def fzC(id:Nat)(f:Nat→Nat→C):C→C
 |.sl i s off len=>if i=id then .p (.l s len fun e o=>pE (f (e+off) o)) else .sl i s off len
 |x=>x
def fzV(id:Nat)(f:Nat→Nat→C):V→V
 |.c x=>.c (fzC id f x)
 |.a cs=>.a (cs.map (fzC id f))
 |.t vs=>.t vs
def aOT(id sz n:Nat):C→Prop
 |.sl i s off len=>if i=id then s=sz∧off+len≤n else True
 |_=>True
def aH9(id sz n:Nat):List C→Prop
 |[]=>True
 |x::r=>aOT id sz n x∧aH9 id sz n r
def aQV(id sz n:Nat):V→Prop
 |.c x=>aOT id sz n x
 |.a cs=>aH9 id sz n cs
 |.t _=>True
def HD(id sz n:Nat):List V→Prop
 |[]=>True
 |x::r=>aQV id sz n x∧HD id sz n r
def aGQ(m:Mod):List Nat→sT
 |[],args,h=>match m args with
  |some (p,v)=>some (p,v,h)
  |none=>none
 |id::r,args,h=>match aZ .gone h id with
  |.row _ sz n f=>match aGQ m r (args.map (fzV id f)) (upd .gone h id) with
   |some (p,v,h')=>some ((HD id sz n args∧∀e o,e<n→o<sz→zE (f e o)=true)∧p,v,h')
   |none=>none
  |_=>none
def slC:C→List Nat
 |.sl i _ _ _=>[i]
 |_=>[]
def aPR:List C→List Nat
 |[]=>[]
 |x::r=>slC x++aPR r
def aIF:List V→List Nat
 |[]=>[]
 |.c x::r=>slC x++aIF r
 |.a cs::r=>aPR cs++aIF r
 |.t _::r=>aIF r
def aGR(m:Mod):sT:=fun args h=>aGQ m (aIF args).eraseDups args h
theorem aGO{β β':Bt}{R R':Nat→Prop}{w:World}{id sz n:Nat}{f:Nat→Nat→C}(hk:jI β R w β' R' w)
  (hval:∀off len u,off+len≤n→CR β R w (.sl id sz off len) u→PR R' w (.l sz len fun e o=>pE (f (e+off) o)) u) {x:C} {u:Value} (hc:aOT id sz n x) (h:CR β R w x u):CR β' R' w (fzC id f x) u:=by
 unfold fzC;split
 ·rename_i i s off len
  split
  ·rename_i e
   subst e
   have hc:if i=i then s=sz∧off+len≤n else True:=hc
   rw[if_pos rfl]at hc;obtain⟨rfl,h2⟩:=hc;exact hval off len u h2 h
  ·exact CR.keep hk h
 ·exact CR.keep hk h
theorem aAM{β β':Bt}{R R':Nat→Prop}{w:World}{id sz n:Nat}{f:Nat→Nat→C}(hk:jI β R w β' R' w)
  (hval:∀off len u,off+len≤n→CR β R w (.sl id sz off len) u→PR R' w (.l sz len fun e o=>pE (f (e+off) o)) u):∀ {cs:List C} {us:List Value},aH9 id sz n cs→All2 (CR β R w) cs us→All2 (CR β' R' w) (cs.map (fzC id f)) us
 |[],[],_,_=>trivial
 |[],_::_,_,h=>h.elim
 |_::_,[],_,h=>h.elim
 |_::_,_::_,hc,h=>⟨aGO hk hval hc.1 h.1,aAM hk hval hc.2 h.2⟩
theorem aON{β β':Bt}{R R':Nat→Prop}{w:World}{id sz n:Nat}{f:Nat→Nat→C}(hk:jI β R w β' R' w)
  (hval:∀off len u,off+len≤n→CR β R w (.sl id sz off len) u→PR R' w (.l sz len fun e o=>pE (f (e+off) o)) u) {x:V} {u:Value} (hc:aQV id sz n x) (h:VR β R w x u):VR β' R' w (fzV id f x) u:=by
 cases x with
 |c x=>exact aGO hk hval hc h
 |a cs=>obtain⟨us,h1,h2⟩:=h;exact⟨us,h1,aAM hk hval hc h2⟩
 |t vs=>exact VR.keep hk h
theorem aAL{β β':Bt}{R R':Nat→Prop}{w:World}{id sz n:Nat}{f:Nat→Nat→C}(hk:jI β R w β' R' w)
  (hval:∀off len u,off+len≤n→CR β R w (.sl id sz off len) u→PR R' w (.l sz len fun e o=>pE (f (e+off) o)) u):∀ {xs:List V} {us:List Value},HD id sz n xs→All2 (VR β R w) xs us→All2 (VR β' R' w) (xs.map (fzV id f)) us
 |[],[],_,_=>trivial
 |[],_::_,_,h=>h.elim
 |_::_,[],_,h=>h.elim
 |_::_,_::_,hc,h=>⟨aON hk hval hc.1 h.1,aAL hk hval hc.2 h.2⟩
theorem aAN{fn:FuncId}{m:Mod}(hm:hO P G fn m):∀ids,lV P G fn (aGQ m ids)
 |[]=>by
  intro args h p v h' he hp;unfold aGQ at he;split at he
  ·rename_i p' v' hq
   injection he with he;injection he with e1 he;injection he with e2 e3;subst e1;subst e2;subst e3;exact hm args _ _ hq hp _
  ·cases he
 |id::r=>by
  intro args h p v h' he hp;unfold aGQ at he;split at he
  ·rename_i ty sz n f hid
   split at he
   ·rename_i p' v' h2 hq
    injection he with he;injection he with e1 he;injection he with e2 e3;subst e1;subst e2;subst e3;obtain⟨⟨hc,hf⟩,hp⟩:=hp;intro β R w vs ha hh
    obtain⟨β',R',k1,k2,k3,k4⟩:=GJ hh hid hf
    have ih:=aAN hm r _ _ _ _ _ hq hp β' R' w vs (aAL k2.keeps k4 hc ha) k1
    refine ih.mono ?_;rintro e w' ⟨u,β2,R2,x,h3,q1,q2,q3,q4,q5,q6⟩;refine⟨u,β2,R2,x,h3,q1,q2,q3,q4,k2.trans q5,fun i hi=>?_⟩;rw[q6 i (by rw[fS,cD];exact hi),k3 i]
   ·cases he
  ·cases he
theorem BS{fn:FuncId}{m:Mod}(hm:hO P G fn m):lV P G fn (aGR m):=fun args h=>aAN hm _ args h
end
def aKZ(id sz:Nat)(F:Nat→Nat→PV):C→C
 |.sl i s off len=>match aT i id&&aT s sz with
  |true=>.p (.l sz len fun e o=>F (e+off) o)
  |false=>.sl i s off len
 |x=>x
def aAJ(id sz:Nat)(F:Nat→Nat→PV):List C→List C
 |[]=>[]
 |x::r=>aKZ id sz F x::aAJ id sz F r
def aUX(id sz:Nat)(F:Nat→Nat→PV):V→V
 |.c x=>.c (aKZ id sz F x)
 |.a cs=>.a (aAJ id sz F cs)
 |.t vs=>.t vs
def aOM(id sz:Nat)(F:Nat→Nat→PV):List V→List V
 |[]=>[]
 |x::r=>aUX id sz F x::aOM id sz F r
def aKY(id sz:Nat)(F:Nat→Nat→PV):AO→AO
 |.cells ty vs=>.cells ty (aAJ id sz F vs)
 |x=>x
def BA(id sz:Nat)(F:Nat→Nat→PV):List AO→List AO
 |[]=>[]
 |x::r=>aKY id sz F x::BA id sz F r
def ocC(id sz:Nat):C→List (Nat×Nat)
 |.sl i s off len=>match aT i id&&aT s sz with
  |true=>[(off,len)]
  |false=>[]
 |_=>[]
def NP(id sz:Nat):List C→List (Nat×Nat)→List (Nat×Nat)
 |[],l=>l
 |x::r,l=>match ocC id sz x with
  |[]=>NP id sz r l
  |p::_=>p::NP id sz r l
def ocT(id sz:Nat):List V→List (Nat×Nat)→List (Nat×Nat)
 |[],l=>l
 |.c x::r,l=>NP id sz [x] (ocT id sz r l)
 |.a cs::r,l=>NP id sz cs (ocT id sz r l)
 |.t _::r,l=>ocT id sz r l
def ocH(id sz:Nat):List AO→List (Nat×Nat)→List (Nat×Nat)
 |[],l=>l
 |.cells _ vs::r,l=>NP id sz vs (ocH id sz r l)
 |_::r,l=>ocH id sz r l
def aUO(id sz:Nat)(st:St):List (Nat×Nat):=ocT id sz st.t (ocH id sz st.h [])
def aUZ(id sz:Nat)(F:Nat→Nat→PV)(st:St):St:=⟨aOM id sz F st.t,BA id sz F (upd .gone st.h id)⟩
theorem nT{id sz:Nat}{p:Nat×Nat}:∀ {cs:List C} {l:List (Nat×Nat)},p∈l→p∈NP id sz cs l
 |[],_,h=>h
 |x::r,l,h=>by
  unfold NP;split
  ·exact nT h
  ·exact bL _ (nT h)
theorem xI{id sz off len:Nat}:∀ {cs:List C} {l:List (Nat×Nat)},C.sl id sz off len∈cs→(off,len)∈NP id sz cs l
 |x::r,l,h=>by
  unfold NP
  rcases cR.1 h with rfl|h
  ·have:ocC id sz (.sl id sz off len)=[(off,len)]:=by show (match aT id id&&aT sz sz with|true=>[(off,len)]|false=>[])=_;rw[Nat.beq_refl,Nat.beq_refl];rfl
   rw[this];exact bH ..
  ·split
   ·exact xI h
   ·exact bL _ (xI h)
theorem xH{id sz:Nat}{p:Nat×Nat}:∀ {t:List V} {l:List (Nat×Nat)},p∈l→p∈ocT id sz t l
 |[],_,h=>h
 |.c _::r,l,h=>nT (xH h)
 |.a _::r,l,h=>nT (xH h)
 |.t _::r,l,h=>by unfold ocT;exact xH h
def inV(x:C):V→Prop
 |.c y=>x=y
 |.a cs=>x∈cs
 |.t _=>False
theorem NO{id sz off len:Nat}:∀ {t:List V} {l:List (Nat×Nat)} {v:V},v∈t→inV (.sl id sz off len) v→(off,len)∈ocT id sz t l
 |x::r,l,v,h,hv=>by
  rcases cR.1 h with rfl|h1
  ·cases v with
   |c y=>cases hv;exact xI (bH ..)
   |a cs=>exact xI hv
   |t _=>exact hv.elim
  ·cases x with
   |c y=>exact nT (NO h1 hv)
   |a cs=>exact nT (NO h1 hv)
   |t _=>unfold ocT;exact NO h1 hv
theorem WO{id sz off len:Nat}{ty:TypeId}{vs:List C}:∀ {h:List AO} {l:List (Nat×Nat)},AO.cells ty vs∈h→.sl id sz off len∈vs→(off,len)∈ocH id sz h l
 |x::r,l,h,hv=>by
  rcases cR.1 h with rfl|h1
  ·exact xI hv
  ·cases x with
   |cells ty' vs'=>exact nT (WO h1 hv)
   |_=>unfold ocH;exact WO h1 hv
theorem aAI(id sz:Nat)(F:Nat→Nat→PV):∀(h:List AO),BA id sz F h=h.map (aKY id sz F)
 |[]=>rfl
 |_::r=>by rw[BA,aAI id sz F r];rfl
section
variable {G:Nat→Option Obj} {st:St}
theorem aAK{β β':Bt}{R R':Nat→Prop}{w:World}{id sz n:Nat}{f:Nat→Nat→C}{F:Nat→Nat→PV}(hk:jI β R w β' R' w)
  (hF:∀e o,e<n→o<sz→nM (pE (f e o)) (F e o))
  (hval:∀off len u,off+len≤n→CR β R w (.sl id sz off len) u→PR R' w (.l sz len fun e o=>pE (f (e+off) o)) u) {x:C} {u:Value} (hc:∀off len,x=.sl id sz off len→off+len≤n) (h:CR β R w x u):CR β' R' w (aKZ id sz F x) u:=by
 unfold aKZ;split
 ·rename_i i s off len
  split
  ·rename_i e
   rw[aS]at e;obtain rfl:=aF e.1;obtain rfl:=aF e.2;exact nM.l (fun e o he ho=>hF (e+off) o (by have:=hc off len rfl;omega) ho) R' w u (hval off len u (hc off len rfl) h)
  ·exact CR.keep hk h
 ·exact CR.keep hk h
theorem GI{β β':Bt}{R R':Nat→Prop}{w:World}{id sz n:Nat}{f:Nat→Nat→C}{F:Nat→Nat→PV}(hk:jI β R w β' R' w)
  (hF:∀e o,e<n→o<sz→nM (pE (f e o)) (F e o))
  (hval:∀off len u,off+len≤n→CR β R w (.sl id sz off len) u→PR R' w (.l sz len fun e o=>pE (f (e+off) o)) u):∀ {cs:List C} {us:List Value},(∀x∈cs,∀off len,x=.sl id sz off len→off+len≤n)→All2 (CR β R w) cs us→All2 (CR β' R' w) (aAJ id sz F cs) us
 |[],[],_,_=>trivial
 |[],_::_,_,h=>h.elim
 |_::_,[],_,h=>h.elim
 |_::_,_::_,hc,h=>⟨aAK hk hF hval (hc _ (bH ..)) h.1,GI hk hF hval (fun x hx=>hc x (bL _ hx)) h.2⟩
theorem aAH{β β':Bt}{R R':Nat→Prop}{w:World}{id sz n:Nat}{f:Nat→Nat→C}{F:Nat→Nat→PV}(hk:jI β R w β' R' w)
  (hF:∀e o,e<n→o<sz→nM (pE (f e o)) (F e o))
  (hval:∀off len u,off+len≤n→CR β R w (.sl id sz off len) u→PR R' w (.l sz len fun e o=>pE (f (e+off) o)) u):∀ {vs:List V} {us:List Value},(∀v∈vs,∀off len,inV (.sl id sz off len) v→off+len≤n)→All2 (VR β R w) vs us→All2 (VR β' R' w) (aOM id sz F vs) us
 |[],[],_,_=>trivial
 |[],_::_,_,h=>h.elim
 |_::_,[],_,h=>h.elim
 |v::_,_::_,hc,h=>⟨by
   cases v with
   |c x=>exact aAK hk hF hval (fun off len e=>hc _ (bH ..) off len e.symm) h.1
   |a cs=>
    obtain⟨us,h1,h2⟩:=h.1;exact⟨us,h1,GI hk hF hval (fun x hx off len e=>hc _ (bH ..) off len (e▸hx)) h2⟩
   |t vs=>exact VR.keep hk h.1,aAH hk hF hval (fun x hx=>hc x (bL _ hx)) h.2⟩
theorem uX(id sz:Nat)(F:Nat→Nat→PV)(x:AO):(aKY id sz F x).live=x.live:=by cases x<;>rfl
theorem rK(id sz:Nat)(F:Nat→Nat→PV):∀(h:List AO) (i:Nat),aZ .gone (BA id sz F h) i=aKY id sz F (aZ .gone h i)
 |[],_=>rfl
 |_::_,0=>rfl
 |_::r,i+1=>rK id sz F r i
theorem aJX{h:List AO}{i:Nat}(hl:(aZ .gone h i).live=true):aZ .gone h i∈h:=by
 rw[eG]at hl ⊢
 by_cases hi:i<h.length
 ·simp[aD,aH hi]
 ·rw[aD,bB (by omega)]at hl
  cases hl
theorem pC{id:Nat}{ty:TypeId}{sz n:Nat}{f:Nat→Nat→C}(F:Nat→Nat→PV)(hid:aZ .gone st.h id=.row ty sz n f)(hf:∀e o,e<n→o<sz→zE (f e o)=true)(hF:∀e o,e<n→o<sz→nM (pE (f e o)) (F e o))
  {ps:List (Nat×Nat)} (hp:aUO id sz st=ps) (ho:∀p∈ps,p.1+p.2≤n):cL G st (aUZ id sz F st):=by
 subst hp;intro β R a w hs
 obtain⟨β',R',k1,k2,k3,k4⟩:=GJ hs.hs hid hf;refine⟨β',R',⟨hs.df,aAH k2.keeps hF k4 (fun v hv off len hi=>ho (off,len) (NO hv hi)) hs.tm,?_⟩,k2.toFr,k2.rm⟩
 have hlen:(BA id sz F (upd .gone st.h id)).length=(upd .gone st.h id).length:=by rw[aAI,List.length_map]
 refine⟨fun i x hi=>by show i<(BA id sz F (upd .gone st.h id)).length;rw[hlen];exact k1.dom i x hi,?_,?_,k1.lt,k1.rlt,?_,k1.gl,?_⟩
 ·intro i j b o o' hi hj li lj
  refine k1.inj i j b o o' hi hj ?_ ?_
  ·have li:(aZ .gone (BA id sz F (upd .gone st.h id)) i).live=true:=li
   rwa [rK,uX]at li
  ·have lj:(aZ .gone (BA id sz F (upd .gone st.h id)) j).live=true:=lj
   rwa [rK,uX]at lj
 ·intro i b o hi li
  have li:(aZ .gone (BA id sz F (upd .gone st.h id)) i).live=true:=li
  rw[rK,uX]at li;exact k1.sep i b o hi li
 ·intro i b o hi
  show OR β' R' w (aZ .gone (BA id sz F (upd .gone st.h id)) i) b o
  rw[rK]
  have h1:=k1.obj i b o hi
  by_cases e:i=id
  ·subst e
   rw[eO _ _ _ (iM hid (by simp))];exact trivial
  ·rw[dC _ _ _ (fun h=>e h.symm)]at h1 ⊢
   cases hx:aZ .gone st.h i with
   |cells ty' vs=>
    have h0:=hs.hs.obj i b o (by rw[←k3 i];exact hi)
    rw[hx]at h0;obtain⟨cs,g1,g2⟩:=h0;refine⟨cs,g1,GI k2.keeps hF k4 (fun x hx' off len e=>ho (off,len) (xH (WO (ty:=ty') (vs:=vs) ?_ (e▸hx')))) g2⟩;rw[←hx];exact aJX (by rw[hx];rfl)
   |_=>rw[hx]at h1;exact h1
 ·intro b ad hq
  obtain⟨q1,q2,q3⟩:=k1.ql b ad hq;refine⟨q1,q2,fun i o hi=>?_⟩
  show (aZ .gone (BA id sz F (upd .gone st.h id)) i).live=false
  rw[rK,uX];exact q3 i o hi
end
def vwC(h:List AO)(c:C)(k:C→Tr):Tr:=match c with
 |.p x=>k (.p x)
 |.sl id sz off len=>match aZ .gone h id with
  |.row _ sz' n f=>nH (aT sz sz') (.rq (off+len≤n∧∀e o,e<n→o<sz→zE (f e o)=true) (k (.p (.l sz len fun e o=>pE (f (e+off) o)))))
  |_=>.fail
 |_=>.fail
def aBD(h:List AO):List C→(List C→Tr)→Tr
 |[],k=>k []
 |c::r,k=>vwC h c fun c'=>aBD h r fun r'=>k (c'::r')
def vwV(h:List AO)(v:V)(k:V→Tr):Tr:=match v with
 |.c x=>vwC h x fun x'=>k (.c x')
 |.a cs=>aBD h cs fun cs'=>k (.a cs')
 |.t _=>.fail
def aBB(h:List AO):List V→(List V→Tr)→Tr
 |[],k=>k []
 |v::r,k=>vwV h v fun v'=>aBB h r fun r'=>k (v'::r')
def scP:PV→Bool
 |.b _=>true
 |.i _ _=>true
 |.s _=>true
 |.z _=>true
 |_=>false
def scC:C→Bool
 |.p x=>scP x
 |_=>false
def aEI:List C→Bool
 |[]=>true
 |c::r=>scC c&&aEI r
def aUM:V1→Bool
 |.c x=>scC x
 |.a cs=>aEI cs
def ZL:List V1→Bool
 |[]=>true
 |c::r=>aUM c&&ZL r
def scV:V→Bool
 |.c x=>scC x
 |.a cs=>aEI cs
 |.t vs=>ZL vs
def aCC(m:sT)(h:List AO)(k:V→List AO→Tr)(args:List V):Tr:=match m args [] with
 |some (p,v,[])=>.rq p (nH (scV v) (k v h))
 |some (p,.c (.sl 0 sz 0 n),[.row ty sz' n' f])=>nH (aT sz sz') (.rq (p∧n=n'∧∀e o,e<n'→o<sz→scC (f e o)=true) (k (.c (.sl (gA h) sz 0 n)) (gE (.row ty sz' n' f) h)))
 |_=>.fail
def aK0(f0:FuncId)(m:sT)(rest:Ext):Ext:=fun f args h k=>match aT f0 f with
 |true=>aBB h args (aCC m h k)
 |false=>rest f args h k
section
variable {P:Program} {G:Nat→Option Obj} {β:Bt} {R:Nat→Prop} {w:World} {h:List AO}
abbrev IY(w:World):Nat→Prop:=fun b=>b<w.heap.size
theorem mA{b:Bool}{t:Tr}{K:X→St→Prop}:(nH b t).holds P G K↔b=true∧t.holds P G K:=by
 cases b<;>simp[nH,Tr.holds]
theorem JE(hh:HS G β R w h){c:C}{u:Value}(hc:CR β R w c u){k:C→Tr}{K:X→St→Prop}(hk:(vwC h c k).holds P G K):∃c',CR Bt.nil (IY w) w c' u∧(k c').holds P G K:=by
 unfold vwC at hk;split at hk
 ·rename_i x
  exact⟨.p x,PR.keep (R':=IY w) hh.rlt (fun _ _=>rfl) x hc,hk⟩
 ·rename_i id sz off len
  split at hk
  ·rename_i ty sz' n f hid
   rw[mA]at hk;obtain⟨h1,⟨h2,h3⟩,h4⟩:=hk;obtain rfl:=aF h1;obtain⟨β',R',k1,k2,k3,k4⟩:=GJ hh hid h3;exact⟨.p (.l sz len fun e o=>pE (f (e+off) o)),PR.keep (R':=IY w) k1.rlt (fun _ _=>rfl) _ (k4 off len u h2 hc),h4⟩
  ·exact hk.elim
 ·exact hk.elim
theorem CH(hh:HS G β R w h):∀ {cs:List C} {us:List Value},All2 (CR β R w) cs us→∀ {k:List C→Tr} {K:X→St→Prop},(aBD h cs k).holds P G K→∃cs',All2 (CR Bt.nil (IY w) w) cs' us∧(k cs').holds P G K
 |[],[],_,k,K,hk=>⟨[],trivial,hk⟩
 |[],_::_,h,_,_,_=>h.elim
 |_::_,[],h,_,_,_=>h.elim
 |c::r,u::us,hc,k,K,hk=>by
  obtain⟨c',h1,h2⟩:=JE hh hc.1 hk;obtain⟨r',h3,h4⟩:=CH hh hc.2 h2;exact⟨c'::r',⟨h1,h3⟩,h4⟩
theorem aBC(hh:HS G β R w h){v:V}{u:Value}(hc:VR β R w v u){k:V→Tr}{K:X→St→Prop}(hk:(vwV h v k).holds P G K):∃v',VR Bt.nil (IY w) w v' u∧(k v').holds P G K:=by
 unfold vwV at hk;split at hk
 ·obtain⟨c',h1,h2⟩:=JE hh hc hk
  exact⟨.c c',h1,h2⟩
 ·obtain⟨us,h0,hc⟩:=hc
  obtain⟨cs',h1,h2⟩:=CH hh hc hk;exact⟨.a cs',⟨us,h0,h1⟩,h2⟩
 ·exact hk.elim
theorem CG(hh:HS G β R w h):∀ {vs:List V} {us:List Value},All2 (VR β R w) vs us→∀ {k:List V→Tr} {K:X→St→Prop},(aBB h vs k).holds P G K→∃vs',All2 (VR Bt.nil (IY w) w) vs' us∧(k vs').holds P G K
 |[],[],_,k,K,hk=>⟨[],trivial,hk⟩
 |[],_::_,h,_,_,_=>h.elim
 |_::_,[],h,_,_,_=>h.elim
 |c::r,u::us,hc,k,K,hk=>by
  obtain⟨c',h1,h2⟩:=aBC hh hc.1 hk;obtain⟨r',h3,h4⟩:=CG hh hc.2 h2;exact⟨c'::r',⟨h1,h3⟩,h4⟩
theorem aIL{x:PV}{u:Value}{R':Nat→Prop}{w':World}(hx:scP x=true)(h:PR R w x u):PR R' w' x u:=by
 cases x<;>first|exact h|cases hx
theorem BI{x:C}{u:Value}{β':Bt}{R':Nat→Prop}{w':World}(hx:scC x=true)(h:CR β R w x u):CR β' R' w' x u:=by
 cases x<;>first|exact aIL hx h|cases hx
theorem CY{β':Bt}{R':Nat→Prop}{w':World}:∀ {cs:List C} {us:List Value},aEI cs=true→All2 (CR β R w) cs us→All2 (CR β' R' w') cs us
 |[],[],_,_=>trivial
 |[],_::_,_,h=>h.elim
 |_::_,[],_,h=>h.elim
 |c::r,u::us,hs,h=>by
  simp only[aEI,aS]at hs;exact⟨BI hs.1 h.1,CY hs.2 h.2⟩
theorem JO{β':Bt}{R':Nat→Prop}{w':World}:∀ {cs:List V1} {us:List Value},ZL cs=true→All2 (zS β R w) cs us→All2 (zS β' R' w') cs us
 |[],[],_,_=>trivial
 |[],_::_,_,h=>h.elim
 |_::_,[],_,h=>h.elim
 |c::r,u::us,hs,h=>by
  simp only[ZL,aS]at hs;refine⟨?_,JO hs.2 h.2⟩
  have h1:=h.1
  have h2:=hs.1
  cases c with
  |c x=>exact BI h2 h1
  |a cs=>obtain⟨us,e,h1⟩:=h1;exact⟨us,e,CY h2 h1⟩
theorem aIK{β':Bt}{R':Nat→Prop}{w':World}{x:V}{u:Value}(hx:scV x=true)(h:VR β R w x u):VR β' R' w' x u:=by
 cases x with
 |c x=>exact BI hx h
 |a cs=>obtain⟨us,e,h⟩:=h;exact⟨us,e,CY hx h⟩
 |t vs=>obtain⟨us,e,h⟩:=h;exact⟨us,e,JO hx h⟩
theorem ON(hh:HS G β R w h)(x:AO):HS G β R w (gE x h):=by
 have hn:∀i y,β i=some y→aZ .gone (gE x h) i=aZ .gone h i:=fun i y hi=>gP _ _ _ (hh.dom i y hi)
 refine⟨?_,?_,?_,hh.lt,hh.rlt,?_,hh.gl,fun b ad hb=>⟨(hh.ql b ad hb).1,(hh.ql b ad hb).2.1,fun i o hi=>by rw[hn i _ hi];exact(hh.ql b ad hb).2.2 i o hi⟩⟩
 ·intro i y hi
  have:=hh.dom i y hi
  rw[lN,bJ];omega
 ·intro i j b o o' hi hj li lj
  rw[hn i _ hi]at li;rw[hn j _ hj]at lj;exact hh.inj i j b o o' hi hj li lj
 ·intro i b o hi li
  rw[hn i _ hi]at li;exact hh.sep i b o hi li
 ·intro i b o hi
  rw[hn i _ hi];exact hh.obj i b o hi
theorem aK1{f0:FuncId}{m:sT}(hm:lV P G f0 m)(hh:HS G β R w h){args':List V}{vs:Array Value}(ha:All2 (VR Bt.nil (IY w) w) args' vs.toList){k:V→List AO→Tr}{K:X→St→Prop}(hk:(aCC m h k args').holds P G K) :
  Calls P f0 vs w fun e w'=>∃u β' R' x h',e=.returned u∧(k x h').holds P G K∧VR β' R' w' x u∧HS G β' R' w' h'∧Gr β R w β' R' w'∧∀i,i<h.length→β' i=β i:=by
 have h0:HS G Bt.nil (IY w) w []:=⟨(fun _ _ h=>by cases h),(fun _ _ _ _ _ h=>by cases h),(fun _ _ _ h=>by cases h),(fun _ _ _ h=>by cases h),(fun _ h=>h),(fun _ _ _ h=>by cases h),fun b o hb=>⟨hh.rlt b (hh.gl b o hb).1,(hh.gl b o hb).2⟩,(fun _ _ h=>by cases h)⟩
 unfold aCC at hk;split at hk
 ·rename_i p v he
  obtain⟨hp,hk⟩:=hk;rw[mA]at hk;obtain⟨hs,hk⟩:=hk;refine(hm args' [] p v [] he hp Bt.nil (IY w) w vs ha h0).mono ?_;rintro e w' ⟨u,β1,R1,x,h1,rfl,⟨rfl,rfl⟩,h2,_,h3,_⟩
  have hb:Below w.heap.size w w':=⟨h3.os,h3.tape,h3.output,h3.size,fun b hb=>h3.rs b hb⟩
  obtain⟨c1,c2⟩:=hh.below hb;exact⟨u,β,WQ R w w',x,h,rfl,hk,aIK hs h2,c1,c2,fun _ _=>rfl⟩
 ·rename_i p sz n ty sz' n' f he
  rw[mA]at hk;obtain⟨hz,⟨hp,rfl,hsc⟩,hk⟩:=hk;obtain rfl:=aF hz;refine(hm args' [] p _ _ he hp Bt.nil (IY w) w vs ha h0).mono ?_;rintro e w' ⟨u,β1,R1,x,h1,rfl,⟨rfl,rfl⟩,h2,hs1,h3,_⟩
  have hb:Below w.heap.size w w':=⟨h3.os,h3.tape,h3.output,h3.size,fun b hb=>h3.rs b hb⟩
  obtain⟨A,c,rfl,g1,g2,g3⟩:=h2
  rcases g3 with⟨q1,q2,q3⟩|⟨b,N,q1,q2,q3⟩
  ·obtain⟨c1,c2⟩:=hh.below hb
   exact⟨_,β,WQ R w w',_,_,rfl,hk,⟨A,c,rfl,g1,g2,.inl ⟨q1,q2,q3⟩⟩,ON c1 _,c2,fun _ _=>rfl⟩
  ·have hg:w.heap.size≤b:=by
     rcases h3.ex b (.inl ⟨0,N,q1⟩) with h|h
     ·exact absurd h Bt.nil_has
     ·exact h
   have hob:∀β2:Bt,OR β2 R w' (.row ty sz n f) b N:=fun β2=>by
    obtain⟨cs,k1,k2,k3,k4⟩:=hs1.obj 0 b N q1;refine⟨cs,k1,k2,k3,fun e o he ho=>?_⟩;obtain⟨u,r1,r2⟩:=k4 e o he ho;refine⟨u,r1,pY.of ?_ (BI (hsc e o he ho) r2.cr)⟩
    have:=hsc e o he ho
    cases hf:f e o<;>first|rfl|(rw[hf]at this;cases this)
   obtain⟨c1,c2⟩:=vR (x:=.row ty sz n f) hh (aOP (N:=N) hh.rlt hb hg) (fun _ h=>h) (aOF hh hb hg (hs1.lt 0 b N q1) (hob _)) rfl (id:=0) (b:=b) (N:=N) (by unfold b1;rfl) rfl (fun β2 _=>hob β2);refine⟨_,bn β h.length (b,N),R,_,_,rfl,hk,⟨A,c,rfl,g1,g2,.inr ⟨b,N,?_,q2,q3⟩⟩,c1,c2,fun i hi=>dH _ (by omega)⟩;rw[fD];exact fO _ _ _
 ·exact hk.elim
end
section
variable {P:Program} {G:Nat→Option Obj}
theorem ZD{h:List AO}{c:C}{k:C→Tr}{K:X→St→Prop}(hk:(vwC h c k).holds P G K):∃c',(k c').holds P G K∧∀(k':C→Tr) (K':X→St→Prop),(k' c').holds P G K'→(vwC h c k').holds P G K':=by
 unfold vwC at hk ⊢;split at hk
 ·exact⟨_,hk,fun k' K' h=>h⟩
 ·split at hk
  ·rw[mA]at hk
   obtain⟨h1,h2,h3⟩:=hk;exact⟨_,h3,fun k' K' h=>by rw[mA];exact⟨h1,h2,h⟩⟩
  ·exact hk.elim
 ·exact hk.elim
theorem PU{h:List AO}:∀ {cs:List C} {k:List C→Tr} {K:X→St→Prop},(aBD h cs k).holds P G K→∃cs',(k cs').holds P G K∧∀(k':List C→Tr) (K':X→St→Prop),(k' cs').holds P G K'→(aBD h cs k').holds P G K'
 |[],k,K,hk=>⟨[],hk,fun _ _ h=>h⟩
 |c::r,k,K,hk=>by
  obtain⟨c',h1,h2⟩:=ZD hk;obtain⟨r',h3,h4⟩:=PU h1;exact⟨c'::r',h3,fun k' K' hq=>h2 (fun c'=>aBD h r fun r'=>k' (c'::r')) K' (h4 (fun r'=>k' (c'::r')) K' hq)⟩
theorem aI5{h:List AO}{c:V}{k:V→Tr}{K:X→St→Prop}(hk:(vwV h c k).holds P G K):∃c',(k c').holds P G K∧∀(k':V→Tr) (K':X→St→Prop),(k' c').holds P G K'→(vwV h c k').holds P G K':=by
 unfold vwV at hk ⊢;split at hk
 ·obtain⟨c',h1,h2⟩:=ZD hk
  exact⟨_,h1,fun k' K' h=>h2 (fun x=>k' (.c x)) K' h⟩
 ·obtain⟨c',h1,h2⟩:=PU hk
  exact⟨_,h1,fun k' K' h=>h2 (fun x=>k' (.a x)) K' h⟩
 ·exact hk.elim
theorem PT{h:List AO}:∀ {cs:List V} {k:List V→Tr} {K:X→St→Prop},(aBB h cs k).holds P G K→∃cs',(k cs').holds P G K∧∀(k':List V→Tr) (K':X→St→Prop),(k' cs').holds P G K'→(aBB h cs k').holds P G K'
 |[],k,K,hk=>⟨[],hk,fun _ _ h=>h⟩
 |c::r,k,K,hk=>by
  obtain⟨c',h1,h2⟩:=aI5 hk;obtain⟨r',h3,h4⟩:=PT h1;exact⟨c'::r',h3,fun k' K' hq=>h2 (fun c'=>aBB h r fun r'=>k' (c'::r')) K' (h4 (fun r'=>k' (c'::r')) K' hq)⟩
theorem aFJ{m:sT}{h:List AO}{k:V→List AO→Tr}{args:List V}{K:X→St→Prop}(hk:(aCC m h k args).holds P G K):∃v h',(k v h').holds P G K∧∀(k':V→List AO→Tr) (K':X→St→Prop),(k' v h').holds P G K'→(aCC m h k' args).holds P G K':=by
 unfold aCC at hk ⊢;split at hk
 ·obtain⟨h1,h2⟩:=hk
  rw[mA]at h2;exact⟨_,_,h2.2,fun k' K' h=>⟨h1,by rw[mA];exact⟨h2.1,h⟩⟩⟩
 ·rw[mA]at hk
  obtain⟨h1,h2,h3⟩:=hk;exact⟨_,_,h3,fun k' K' h=>by rw[mA];exact⟨h1,h2,h⟩⟩
 ·exact hk.elim
theorem WT{f0:FuncId}{m:sT}{rest:Ext}(hm:lV P G f0 m)(hr:cF P G rest):cF P G (aK0 f0 m rest):=by
 refine⟨?_,?_⟩
 ·intro f args h k K hh
  unfold aK0 at hh;split at hh
  ·rename_i hb
   obtain rfl:=aF hb;intro β R w vs ha hs
   obtain⟨args',h1,h2⟩:=CG hs ha hh;exact aK1 hm hs h1 h2
  ·exact hr.fn _ _ _ _ _ hh
 ·intro f args h k K hh
  unfold aK0 at hh ⊢;split at hh
  ·obtain⟨args',h1,h2⟩:=PT hh
   obtain⟨v,h',h3,h4⟩:=aFJ h1;exact⟨v,h',h3,fun k' K' hk=>h2 _ K' (h4 k' K' hk)⟩
  ·exact hr.val _ _ _ _ _ hh
end
section
variable {P:Program} {G:Nat→Option Obj}
end
section
variable {P:Program} {G:Nat→Option Obj} {β:Bt} {R:Nat→Prop} {w:World} {st:St}
end
def aLM{α:Type}:List α→List Bool
 |[]=>[]
 |_::r=>true::aLM r
def aN4(st:St):AR→Option V
 |.tmp t=>match aZ (.c .top) st.t t with
  |.t _=>none
  |v=>some v
 |.cell t n=>match aZ (.c .top) st.t t with
  |.c (.ptr id off)=>match aZ .gone st.h id with
   |.cells _ vs=>match Nat.ble (off+jJ n) (gA vs) with
    |true=>match FT (aZ .top vs) off n with
     |.t _=>none
     |v=>some v
    |false=>none
   |_=>none
  |_=>none
 |.new _=>none
def DI(st:St):List AR→Option (List V)
 |[]=>some []
 |r::l=>match aN4 st r with
  |some v=>match DI st l with
   |some vs=>some (v::vs)
   |none=>none
  |none=>none
def tH(st:St):List Nat→List V→List V
 |[],vs=>vs
 |j::r,vs=>aZ (.c .top) st.t j::tH st r vs
def aMI(ps:List Nat)(vs:List V)(st:St):St:=gcS (aLM (tH st ps vs)) ⟨tH st ps vs,st.h⟩
def oZ(ps:List Nat)(keep:List Bool)(rs:List AR)(e:X)(st:St):Tr:=match e with
 |.ret=>match DI st rs with
  |some vs=>.done .ret (aMI ps vs st)
  |none=>.fail
 |e=>.done e (gcS keep st)
section
variable {P:Program} {G:Nat→Option Obj}
def Zm(ps:List Nat)(rs:List AR)(Z0:St→Prop)(st:St):Prop:=∃vs,DI st rs=some vs∧Z0 (aMI ps vs st)
def KFZ(Z0:St→Prop)(K:X→St→Prop)(e:X)(st:St):Prop:=match e with
 |.ret=>Z0 st
 |e=>K e st
theorem OE{Z:St→Prop}{K:X→St→Prop}{j:Nat}{st:St}:KFZ Z K (.exit j) st↔K (.exit j) st:=Iff.rfl
theorem jC{Z:St→Prop}{K:X→St→Prop}{st:St}:KFZ Z K .normal st↔K .normal st:=Iff.rfl
theorem aG0{Z:St→Prop}{K:X→St→Prop}{st:St}:KFZ Z K .ret st↔Z st:=Iff.rfl
def lX(P:Program)(G:Nat→Option Obj)(Z:St→Prop)(ac:dD)(st:St)(K:X→St→Prop):Prop:=lM P G ac st (KFZ Z K)
def jP(P:Program)(G:Nat→Option Obj)(Z:St→Prop):List dD→St→(X→St→Prop)→Prop
 |[],st,Q=>∃st2,cL G st st2∧Q .normal st2
 |c::r,st,Q=>lX P G Z c st fun e st'=>match e with
  |.normal=>jP P G Z r st' Q
  |e=>Q e st'
variable {Z:St→Prop}
theorem lX.pre{ac:dD}{st st2:St}{K:X→St→Prop}(hw:cL G st st2)(h:lX P G Z ac st2 K):lX P G Z ac st K:=lM.pre hw h
theorem lX.mono{ac:dD}{st:St}{K K':X→St→Prop}(h:lX P G Z ac st K)(hk:∀e st,e≠.ret→K e st→K' e st):lX P G Z ac st K':=
 lM.mono h fun e st q=>by
  cases e with
  |ret=>exact q
  |normal=>exact hk _ _ (by simp) q
  |exit id=>exact hk _ _ (by simp) q
theorem lX.seq{a b:dD}{st:St}{K1 K:X→St→Prop}(h:lX P G Z a st K1)(hn:∀st',K1 .normal st'→lX P G Z b st' K)(hx:∀id st',K1 (.exit id) st'→K (.exit id) st'):lX P G Z (.seq a b) st K:=
 lM.seq h hn fun e st' he q=>by
  cases e with
  |normal=>exact absurd rfl he
  |ret=>exact q
  |exit id=>exact hx id st' q
theorem lX.block{id:Nat}{a:dD}{st:St}{K:X→St→Prop}(h:lX P G Z a st fun e st'=>match e with
  |.exit j=>if j=id then K .normal st' else K (.exit j) st'
  |e=>K e st'):lX P G Z (.block id a) st K:=
 lM.block (lM.mono h fun e st' q=>by
  cases e with
  |normal=>exact q
  |ret=>exact q
  |exit j=>
   show if j=id then KFZ Z K .normal st' else KFZ Z K (.exit j) st'
   exact q)
theorem lX.loop{a:dD}{K:X→St→Prop}{σ:Type}(C:σ→St)(I:σ→Prop)(μ:σ→Nat)(s0:σ)(hI:I s0)
  (step:∀s,I s→lX P G Z a (C s) fun e st'=>match e with
   |.normal=>∃s',I s'∧μ s'<μ s∧cL G st' (C s')
   |e=>K e st'):lX P G Z (.loop a) (C s0) K:=
 lM.loop C I μ s0 hI fun s hs=>lM.mono (step s hs) fun e st' q=>by
  cases e with
  |normal=>exact q
  |ret=>exact q
  |exit j=>exact q
theorem lX.post{ac:dD}{st:St}{K:X→St→Prop}(h:lX P G Z ac st fun e st'=>∃st2,cL G st' st2∧K e st2):lX P G Z ac st K:=by
 refine lM.post (lM.mono h fun e st' hk=>?_);cases e with
 |ret=>exact⟨st',cL.refl st',hk⟩
 |normal=>exact hk
 |exit id=>exact hk
theorem jP.pre{l:List dD}{st st2:St}{Q:X→St→Prop}(hw:cL G st st2)(h:jP P G Z l st2 Q):jP P G Z l st Q:=by
 cases l with
 |nil=>obtain⟨st3,h1,h2⟩:=h;exact⟨st3,hw.trans h1,h2⟩
 |cons c r=>exact lX.pre hw h
theorem jP.mono:∀ {l:List dD} {st:St} {Q Q':X→St→Prop},jP P G Z l st Q→(∀e st,e≠.ret→Q e st→Q' e st)→jP P G Z l st Q'
 |[],_,_,_,⟨st2,h1,h2⟩,hq=>⟨st2,h1,hq _ _ (by simp) h2⟩
 |_::_,_,_,_,h,hq=>lX.mono h fun e st' he q=>by
  cases e with
  |normal=>exact jP.mono q hq
  |ret=>exact absurd rfl he
  |exit id=>exact hq _ _ he q
theorem jP.cut:∀ {a b:List dD} {st:St} {Q:X→St→Prop},jP P G Z (rE a b) st Q→jP P G Z a st fun e st'=>match e with
  |.normal=>jP P G Z b st' Q
  |e=>Q e st'
 |[],_,st,_,h=>⟨st,cL.refl st,h⟩
 |_::_,_,_,_,h=>lX.mono h fun e st' _ q=>by
  cases e with
  |normal=>exact jP.cut q
  |ret=>exact q
  |exit id=>exact q
theorem jP.glue:∀ {a b:List dD} {st:St} {Q:X→St→Prop},(jP P G Z a st fun e st'=>match e with
  |.normal=>jP P G Z b st' Q
  |e=>Q e st')→jP P G Z (rE a b) st Q
 |[],_,_,_,⟨_,h1,h2⟩=>jP.pre h1 h2
 |_::_,_,_,_,h=>lX.mono h fun e st' _ q=>by
  cases e with
  |normal=>exact jP.glue q
  |ret=>exact q
  |exit id=>exact q
theorem jP.code:∀ {c:dD} {st:St} {Q:X→St→Prop},jP P G Z (iI c) st Q→lX P G Z c st Q:=by
 intro c;induction c with
 |seq a b iha ihb=>
  intro st Q h
  have h1:=jP.cut (a:=iI a) (b:=iI b) h
  refine lX.seq (iha h1) (fun st' hq=>ihb hq) (fun id st' hq=>hq)
 |_=>
  intro st Q h;refine lX.post (lX.mono h fun e st' _ q=>?_);cases e with
  |normal=>exact q
  |ret=>exact⟨st',cL.refl st',q⟩
  |exit id=>exact⟨st',cL.refl st',q⟩
theorem zL{ps:List Nat}{keep:List Bool}{rs:List AR}{Z0:St→Prop}{e:X}{st:St}{K:X→St→Prop}(h:(oZ ps keep rs e st).holds P G (KFZ Z0 K)):∃st2,cL G st st2∧KFZ (Zm ps rs Z0) K e st2:=by
 cases e with
 |ret=>
  refine⟨st,cL.refl st,?_⟩;unfold oZ at h;dsimp only at h;split at h
  ·rename_i vs hvs;exact⟨vs,hvs,h⟩
  ·exact h.elim
 |normal=>exact⟨_,iT keep st,h⟩
 |exit id=>exact⟨_,iT keep st,h⟩
theorem uF{ext:Ext}(hext:cF P G ext){ps:List Nat}{keep:List Bool}{rs:List AR}{Z0:St→Prop}:∀ {l:List dD} {st:St} {K:X→St→Prop},(dI ext l st (oZ ps keep rs)).holds P G (KFZ Z0 K)→jP P G (Zm ps rs Z0) l st K
 |[],st,K,h=>zL h
 |c::r,st,K,h=>by
  have h1:=lM.ev hext h
  refine lX.post ?_;refine lM.post (lM.mono h1 fun e st' q=>?_);cases e with
  |normal=>exact⟨st',cL.refl st',st',cL.refl st',uF hext q⟩
  |ret=>
   obtain⟨st2,q1,q2⟩:=zL q;exact⟨st2,q1,q2⟩
  |exit id=>
   obtain⟨st2,q1,q2⟩:=zL q;exact⟨st2,q1,st2,cL.refl st2,q2⟩
theorem jP.evG{ext:Ext}(hext:cF P G ext)(n:Nat){ps:List Nat}{keep:List Bool}{rs:List AR}{Z0:St→Prop}{l:List dD}{st:St}{Q:X→St→Prop}{tree:Tr}(ht:dI ext (dN n l) st (oZ ps keep rs)=tree)
  (h:tree.holds P G (KFZ Z0 fun e st'=>match e with
   |.normal=>jP P G (Zm ps rs Z0) (bZ n l) st' Q
   |e=>Q e st')):jP P G (Zm ps rs Z0) l st Q:=by
 rw[←qG n l];subst ht;exact jP.glue (uF hext h)
theorem jP.evH{ext:Ext}(hext:cF P G ext){ps:List Nat}{keep:List Bool}{rs:List AR}{Z0:St→Prop}{l:List dD}{st:St}{Q:X→St→Prop}{tree:Tr}(ht:dI ext l st (oZ ps keep rs)=tree)(h:tree.holds P G (KFZ Z0 Q)):jP P G (Zm ps rs Z0) l st Q:=by
 subst ht;exact uF hext h
theorem jP.loop{id:Nat}{b:dD}{l r:List dD}{st:St}{Q:X→St→Prop}(hl:l=.block id (.loop b)::r){σ:Type}(C:σ→St)(I:σ→Prop)(μ:σ→Nat)(s0:σ)(hI:I s0)(hw:cL G st (C s0))
  (step:∀s,I s→jP P G Z (iI b) (C s) fun e st'=>match e with
   |.normal=>∃s',I s'∧μ s'<μ s∧cL G st' (C s')
   |.exit j=>if j=id then jP P G Z r st' Q else Q (.exit j) st'
   |.ret=>True):jP P G Z l st Q:=by
 subst hl;refine lX.pre hw (lX.block ?_)
 refine lX.loop C I μ s0 hI fun s hs=>?_
 refine lX.mono (jP.code (step s hs)) fun e st' he q=>?_
 cases e with
 |normal=>exact q
 |exit j=>exact q
 |ret=>exact absurd rfl he
theorem jP.loop'{id:Nat}{b:dD}{l r:List dD}{st:St}{Q:X→St→Prop}(hl:l=.block id (.loop b)::r){σ:Type}(C:σ→St)(I:σ→Prop)(μ:σ→Nat)(s0:σ)(hI:I s0)(hw:cL G st (C s0))
  (step:∀s,I s→∀Q':X→St→Prop,(∀s' st',I s'→μ s'<μ s→cL G st' (C s')→Q' .normal st')→(∀st',jP P G Z r st' Q→Q' (.exit id) st')→(∀j st',j≠id→Q (.exit j) st'→Q' (.exit j) st')→jP P G Z (iI b) (C s) Q'):jP P G Z l st Q:=
 jP.loop hl C I μ s0 hI hw fun s hs=>step s hs _ (fun s' _ h1 h2 h3=>⟨s',h1,h2,h3⟩) (fun _ h=>by simpa using h) (fun j _ hj h=>by simpa[hj] using h)
theorem jP.blk{id:Nat}{a:dD}{l r:List dD}{st:St}{Q:X→St→Prop}(hl:l=.block id a::r)(h:jP P G Z (iI a) st fun e st'=>match e with
   |.normal=>jP P G Z r st' Q
   |.exit j=>if j=id then jP P G Z r st' Q else Q (.exit j) st'
   |.ret=>True):jP P G Z l st Q:=by
 subst hl;refine lX.block (lX.mono (jP.code h) fun e st' he q=>?_);cases e with
 |normal=>exact q
 |exit j=>exact q
 |ret=>exact absurd rfl he
theorem jP.blk'{id:Nat}{a:dD}{l r:List dD}{st:St}{Q:X→St→Prop}(hl:l=.block id a::r)
  (h:∀Q':X→St→Prop,(∀st',jP P G Z r st' Q→Q' .normal st')→(∀st',jP P G Z r st' Q→Q' (.exit id) st')→(∀j st',j≠id→Q (.exit j) st'→Q' (.exit j) st')→jP P G Z (iI a) st Q'):jP P G Z l st Q:=
 jP.blk hl (h _ (fun _ h=>h) (fun _ h=>by simpa using h) (fun j _ hj h=>by simpa[hj] using h))
theorem qJ{β:Bt}{R:Nat→Prop}{w:World}{st:St}{a:Act}(hs:eJ G β R st a w):∀(frs:List ResultVar) (rs:List AR) (_:pA P frs=some rs) {vs:List V} (_:DI st rs=some vs),
  ∃us,(frs.mapM (runR a.tmps)).run P w=.ok us w∧All2 (VR β R w) vs us
 |[],rs,hr,vs,h=>by
  simp only[pA,aB]at hr;subst hr;simp only[DI,aB]at h;subst h;exact⟨[],by simp,trivial⟩
 |.tmp t::frs,rs,hr,vs,h=>by
  simp only[pA,aI]at hr;obtain⟨rs',hr,rfl⟩:=hr;simp only[DI]at h;split at h
  ·rename_i v hv
   split at h
   ·rename_i vs' hvs
    injection h with h;subst h;obtain⟨us,h4,h5⟩:=qJ hs frs rs' hr hvs
    have hv2:aZ (.c .top) st.t t=v:=by
     simp only[aN4]at hv;split at hv
     ·cases hv
     ·injection hv
    have h1:=aM (x:=.tmp t) hs rfl
    have h1:VR β R w (aZ (.c .top) st.t t) (a.tmps.getD t undef):=h1
    rw[hv2]at h1;refine⟨_::us,?_,⟨h1,h5⟩⟩;simp[List.mapM_cons,runR,h4]
   ·cases h
  ·cases h
 |.cell t ty::frs,rs,hr,vs,h=>by
  simp only[pA,aE,aA,aG,aB]at hr;obtain⟨n,hn,rs',hr,rfl⟩:=hr;simp only[DI]at h;split at h
  ·rename_i v hv
   split at h
   ·rename_i vs' hvs
    injection h with h;subst h;obtain⟨us,h4,h5⟩:=qJ hs frs rs' hr hvs;simp only[aN4]at hv;split at hv
    ·rename_i id off hp
     split at hv
     ·rename_i ty' cv hid
      split at hv
      ·rename_i hb
       have hv2:FT (aZ .top cv) off n=v:=by
        split at hv
        ·cases hv
        ·injection hv
       have hptr:=aM (x:=.tmp t) hs rfl
       have e:st.ev (.t t)=.c (.ptr id off):=hp
       rw[e]at hptr;obtain⟨b,o0,g1,g2⟩:=hptr
       have hob:=hs.hs.obj id b o0 g1
       rw[hid]at hob;obtain⟨cs,g3,g4⟩:=hob
       have hlen:off+jJ n≤cv.length:=by rw[fD]at hb;simpa using hb
       have hsz:cv.length=cs.size:=by simpa using g4.length
       have hl:(cs.extract off (off+jJ n)).toList.length=jJ n:=by simp;omega
       have g2:a.tmps.getD t undef=.pointer (some ⟨b,off,none⟩):=g2
       have hrun:=run_load_gen (P:=P) (w:=w) hn hl (World.rangeAt_of_block g3 off (jJ n))
       have hrun:(loadVar ty ⟨b,off,none⟩).run P w=.ok (ldV (cs.extract off (off+jJ n)).toList n) w:=by
        simpa[Instr.loadAt,Instr.sureAddr] using hrun
       have hval:VR β R w (FT (aZ .top cv) off n) (ldV (cs.extract off (off+jJ n)).toList n):=kL hl (fun j u hu=>by
        have hj:j<jJ n:=by have:=(aN.1 hu).1;omega
        refine g4.nth_get ?_
        rw[←hu,aW,aW,Array.getElem?_extract,if_pos (by omega)])
       rw[hv2]at hval;refine⟨_::us,?_,⟨hval,h5⟩⟩
       have hra:(runR a.tmps (.cell t ty)).run P w=.ok (ldV (cs.extract off (off+jJ n)).toList n) w:=by
        show (do loadVar ty (←asAddr (a.tmps.getD t undef))).run P w=_
        rw[g2];simp only[asAddr,pure_bind];exact hrun
       rw[List.mapM_cons,Sem.run_bind,hra,Result.andThen_ok,Sem.run_bind,h4];rfl
      ·cases hv
     ·cases hv
    ·cases hv
   ·cases h
  ·cases h
end
def XS(ρ ids:List Nat)(n:Nat):B→Option B
 |.p x=>some (.p x)
 |.ptr id off=>match iN id ids 0 with
  |some i=>some (.ptr (n+i) off)
  |none=>aBP ρ (.ptr id off)
def OL(ρ ids:List Nat)(n:Nat):List B→Option (List B)
 |[]=>some []
 |b::r=>match XS ρ ids n b,OL ρ ids n r with
  |some b',some r'=>some (b'::r')
  |_,_=>none
def PN(ρ ids:List Nat)(n:Nat):C→C
 |.ptr id off=>match iN id ids 0 with
  |some i=>.ptr (n+i) off
  |none=>cI ρ (.ptr id off)
 |.fn f fs cs=>match OL ρ ids n fs,OL ρ ids n cs with
  |some fs',some cs'=>.fn f fs' cs'
  |_,_=>.top
 |x=>cI ρ x
def aOD(ρ ids:List Nat)(n:Nat):List C→List C
 |[]=>[]
 |c::r=>PN ρ ids n c::aOD ρ ids n r
def OJ(ρ ids:List Nat)(n:Nat):V→V
 |.c x=>.c (PN ρ ids n x)
 |.a cs=>.a (aOD ρ ids n cs)
 |.t _=>.c .top
def qB(ρ ids:List Nat)(n:Nat):List V→List V
 |[]=>[]
 |v::r=>OJ ρ ids n v::qB ρ ids n r
def vG(ρ:List Nat):List Nat→List Nat→List AO
 |id::r,b::bs=>(match iN id ρ 0 with
  |some j=>.pin j b
  |none=>.gone)::vG ρ r bs
 |_,_=>[]
def HR:List AO→List AO→List AO
 |[],m=>m
 |x::r,m=>x::HR r m
theorem uK:∀l m:List AO,HR l m=l++m
 |[],_=>rfl
 |x::r,m=>by simp[HR,uK r m]
def inH(ρ ids:List Nat)(h:List AO)(bs:List Nat):List AO:=HR (mB ρ h ρ) (vG ρ ids bs)
def xV:List Nat→List Nat→Nat→Option Nat
 |j::js,id::ids,x=>match aT j x with
  |true=>some id
  |false=>xV js ids x
 |_,_,_=>none
def aN7(js ids:List Nat)(L x:Nat):Nat:=match xV js ids x with
 |some id=>id
 |none=>L+x
def vH(js ids:List Nat)(L:Nat):C→C
 |.p x=>.p x
 |.ptr id off=>.ptr (aN7 js ids L id) off
 |.rp id sz e o=>match oV id js with
  |true=>.top
  |false=>.rp (L+id) sz e o
 |.lp sz n f e o=>.lp sz n f e o
 |.sl id sz off len=>match oV id js with
  |true=>.top
  |false=>.sl (L+id) sz off len
 |.mp id=>match oV id js with
  |true=>.top
  |false=>.mp (L+id)
 |.own ty sz n f=>.own ty sz n f
 |.fn .. => .top
 |.top=>.top
def AD(js ids:List Nat)(L:Nat):List C→List C
 |[]=>[]
 |c::r=>vH js ids L c::AD js ids L r
def aPX(js ids:List Nat)(L:Nat):V→V
 |.c x=>.c (vH js ids L x)
 |.a cs=>.a (AD js ids L cs)
 |.t _=>.c .top
def aBX(js ids:List Nat)(L:Nat):AO→AO
 |.cells ty vs=>.cells ty (AD js ids L vs)
 |.row ty sz n f=>.row ty sz n fun e o=>vH js ids L (f e o)
 |.foc ty sz n e0 vs f=>.foc ty sz n e0 (AD js ids L vs) fun e o=>vH js ids L (f e o)
 |.mapb ok g=>.mapb ok g
 |.mapl ok ty sz g none=>.mapl ok ty sz g none
 |.mapl ok ty sz g (some (k,c))=>.mapl ok ty sz g (some (k,vH js ids L c))
 |.pin .. => .gone
 |.gone=>.gone
def FL(f:Nat→AO→AO):Nat→List AO→List AO
 |_,[]=>[]
 |i,x::r=>f i x::FL f (i+1) r
def RJ(ρ ids js:List Nat)(L:Nat)(hE:List AO)(i:Nat)(x:AO):AO:=match xV ids js i with
 |some j=>aBX js ids L (aZ .gone hE j)
 |none=>match oV i ρ with
  |true=>.gone
  |false=>x
def aNT(js ids:List Nat)(L:Nat)(j:Nat)(x:AO):AO:=match oV j js with
 |true=>.gone
 |false=>aBX js ids L x
def lP(ρ ids js:List Nat)(h hE:List AO):List AO:=HR (FL (RJ ρ ids js (gA h) hE) 0 h) (FL (aNT js ids (gA h)) 0 hE)
theorem mT(f:Nat→AO→AO):∀(i:Nat) (l:List AO),(FL f i l).length=l.length
 |_,[]=>rfl
 |i,x::r=>by simp[FL,mT f (i+1) r]
theorem FK(f:Nat→AO→AO):∀(i:Nat) (l:List AO) (j:Nat),j<l.length→aZ .gone (FL f i l) j=f (i+j) (aZ .gone l j)
 |_,[],j,h=>by simp at h
 |i,x::r,0,_=>rfl
 |i,x::r,j+1,h=>by
  show aZ .gone (FL f (i+1) r) j=_
  rw[FK f (i+1) r j (by simpa using h),show i+1+j=i+(j+1) by omega];rfl
theorem FD{l m:List AO}{i:Nat}(h:i<l.length):aZ .gone (HR l m) i=aZ .gone l i:=by
 rw[uK,eG,eG,aD,aD,List.getElem?_append_left h]
theorem FE{l m:List AO}{i:Nat}(h:l.length≤i):aZ .gone (HR l m) i=aZ .gone m (i-l.length):=by
 rw[uK,eG,eG,aD,aD,List.getElem?_append_right h]
theorem RZ{ρ ids js:List Nat}{h hE:List AO}{i:Nat}(hi:i<h.length):aZ .gone (lP ρ ids js h hE) i=RJ ρ ids js (gA h) hE i (aZ .gone h i):=by
 unfold lP;rw[FD (by rw[mT];exact hi),FK _ _ _ _ hi,cK]
theorem SA{ρ ids js:List Nat}{h hE:List AO}{j:Nat}(hj:j<hE.length):aZ .gone (lP ρ ids js h hE) (h.length+j)=aNT js ids (gA h) j (aZ .gone hE j):=by
 unfold lP;rw[FE (by rw[mT];omega),mT,show h.length+j-h.length=j by omega,FK _ _ _ _ hj,cK]
theorem RF{ρ ids js:List Nat}{h hE:List AO}:(lP ρ ids js h hE).length=h.length+hE.length:=by
 unfold lP;rw[uK,bJ,mT,mT]
theorem zB{x y:Nat}:∀ {js ids:List Nat},xV js ids x=some y→∃m:Nat,js[m]?=some x∧ids[m]?=some y
 |[],_,h=>by simp[xV]at h
 |_::_,[],h=>by simp[xV]at h
 |j::js,id::ids,h=>by
  simp only[xV]at h;cases hb:aT j x with
  |true=>
   rw[hb]at h;injection h with h;exact⟨0,by simp[aF hb],by simp[h]⟩
  |false=>
   rw[hb]at h;obtain⟨m,h1,h2⟩:=zB h;exact⟨m+1,by simpa using h1,by simpa using h2⟩
theorem aBW{js ids:List Nat}{L:Nat}{x:AO}(h:(aBX js ids L x).live=true):x.live=true:=by
 cases x with
 |pin=>cases h
 |gone=>cases h
 |_=>rfl
section
variable {P:Program} {G:Nat→Option Obj} {β β2 β3:Bt} {R R2:Nat→Prop} {w w':World} {h hE:List AO} {ρ ids js bs:List Nat}
def sG(β:Bt)(ρ:List Nat)(b:Nat):Prop:=∃id∈ρ,∃o,β id=some (b,o)
open Classical in
noncomputable def wS(β:Bt)(ρ ids:List Nat):Bt:=⟨fun j=>if j<ρ.length then (ρ[j]?).bind β.f else (ids[j-ρ.length]?).bind β.f,fun b=>match β.q b with
 |some (bi,c)=>if sG β ρ bi then some (bi,c) else none
 |none=>none⟩
theorem AL{j:Nat}{x:Nat×Nat}(hx:wS β ρ ids j=some x):(j<ρ.length∧∃id,ρ[j]?=some id∧β id=some x)∨(ρ.length≤j∧∃id,ids[j-ρ.length]?=some id∧β id=some x):=by
 simp only[wS]at hx;split at hx
 ·rename_i hj
  simp only[aA]at hx;exact .inl ⟨hj,hx⟩
 ·rename_i hj
  simp only[aA]at hx;exact .inr ⟨by omega,hx⟩
theorem aLY{b:Nat}{ad:Nat×Nat}(hx:(wS β ρ ids).q b=some ad):β.q b=some ad∧sG β ρ ad.1:=by
 simp only[wS]at hx;split at hx
 ·rename_i bi c hq
  split at hx
  ·rename_i hp;injection hx with hx;subst hx;exact⟨hq,hp⟩
  ·cases hx
 ·cases hx
theorem aGB{b:Nat}{ad:Nat×Nat}(h1:β.q b=some ad)(h2:sG β ρ ad.1):(wS β ρ ids).q b=some ad:=by
 simp only[wS,h1,if_pos h2]
theorem GC{j:Nat}(hj:j<ρ.length):wS β ρ ids j=(ρ[j]?).bind β.f:=by simp only[wS,if_pos hj]
theorem aGC{j:Nat}(hj:ρ.length≤j):wS β ρ ids j=(ids[j-ρ.length]?).bind β.f:=by simp only[wS,if_neg (show ¬j<ρ.length by omega)]
theorem OM{b:Nat}(hsub:∀id∈ids,id∈ρ)(hb:(wS β ρ ids).has b):sG β ρ b∨∃ad,β.q b=some ad∧sG β ρ ad.1:=by
 rcases hb with⟨i,o,hi⟩|⟨ad,hi⟩
 ·left
  rcases AL hi with⟨_,id,h1,h2⟩|⟨_,id,h1,h2⟩
  ·exact⟨id,bR h1,o,h2⟩
  ·exact⟨id,hsub id (bR h1),o,h2⟩
 ·exact .inr ⟨ad,aLY hi⟩
theorem AB:∀ {ids bs:List Nat},ids.length=bs.length→(vG ρ ids bs).length=ids.length
 |[],[],_=>rfl
 |[],_::_,h=>by simp at h
 |_::_,[],h=>by simp at h
 |_::ids,_::bs,h=>by simp[vG,AB (ids:=ids) (bs:=bs) (by simpa using h)]
theorem QV:∀ {ids bs:List Nat} {i id b:Nat},ids[i]?=some id→bs[i]?=some b→aZ .gone (vG ρ ids bs) i=(match iN id ρ 0 with
  |some j=>AO.pin j b
  |none=>.gone)
 |[],_,i,_,_,h,_=>by simp at h
 |_::_,[],i,_,_,_,h=>by simp at h
 |_::ids,_::bs,0,_,_,h1,h2=>by
  simp at h1 h2;subst h1;subst h2;rfl
 |_::ids,_::bs,i+1,_,_,h1,h2=>by
  show aZ .gone (vG ρ ids bs) i=_
  exact QV (by simpa using h1) (by simpa using h2)
theorem KW{id:Nat}:∀ {l:List Nat} (n:Nat),id∈l→∃j,iN id l n=some j
 |[],_,h=>by cases h
 |k::r,n,h=>by
  simp only[iN];cases hb:aT k id with
  |true=>exact⟨n,rfl⟩
  |false=>
   rcases cR.1 h with rfl|h
   ·rw[Nat.beq_refl]at hb;cases hb
   ·exact KW (n+1) h
theorem JZ:∀(ids bs:List Nat) (i:Nat),(aZ .gone (vG ρ ids bs) i).live=false
 |[],_,_=>by cases ‹Nat› <;> rfl
 |_::_,[],i=>by cases i<;>rfl
 |id::ids,b::bs,0=>by
  show (match iN id ρ 0 with
  |some j=>AO.pin j b
  |none=>.gone).live=false
  cases iN id ρ 0<;>rfl
 |id::ids,b::bs,i+1=>JZ ids bs i
theorem aQJ(hh:HS G β R w h)(hρ:oR ρ=true)(hlv:∀id∈ρ,(aZ .gone h id).live=true)(hsub:∀id∈ids,id∈ρ)(hbl:ids.length=bs.length)
  (hbs:∀(i:Nat) id b,ids[i]?=some id→bs[i]?=some b→∃o,β id=some (b,o)):HS G (wS β ρ ids) R w (inH ρ ids h bs):=by
 have hpl:(mB ρ h ρ).length=ρ.length:=sE ρ
 have hn1:∀j id,ρ[j]?=some id→aZ .gone (inH ρ ids h bs) j=QL ρ (aZ .gone h id):=fun j id hj=>by
  unfold inH;rw[FD (by rw[hpl];exact(aN.1 hj).1),nS hj]
 have hn2:∀j,ρ.length≤j→aZ .gone (inH ρ ids h bs) j=aZ .gone (vG ρ ids bs) (j-ρ.length):=fun j hj=>by
  unfold inH;rw[FE (by rw[hpl];exact hj),hpl]
 have hdead:∀j,ρ.length≤j→(aZ .gone (inH ρ ids h bs) j).live=false:=fun j hj=>by rw[hn2 j hj];exact JZ _ _ _
 have hkp:jI (bρ ρ β) R w (wS β ρ ids) R w:=⟨fun i x hi=>by
  have hi:(ρ[i]?).bind β.f=some x:=hi
  have hlt:i<ρ.length:=by
   rcases cA i ρ.length with h|h
   ·exact h
   ·rw[bB h]at hi;cases hi
  rw[GC hlt];exact hi,fun _ h=>h,fun _ _=>rfl⟩
 refine⟨?_,?_,?_,?_,hh.rlt,?_,hh.gl,?_⟩
 ·intro j x hj
  have hlen:(inH ρ ids h bs).length=ρ.length+ids.length:=by unfold inH;rw[uK,bJ,hpl,AB hbl]
  rcases AL hj with⟨h1,_⟩|⟨h1,id,h2,_⟩
  ·omega
  ·have:=(aN.1 h2).1;omega
 ·intro i j b o o' hi hj li lj
  rcases AL hi with⟨h1,id,h2,h3⟩|⟨h1,_⟩
  ·rcases AL hj with⟨h4,jd,h5,h6⟩|⟨h4,_⟩
   ·have:=hh.inj id jd b o o' h3 h6 (hlv id (bR h2)) (hlv jd (bR h5))
    subst this;exact yW hρ h2 h5
   ·rw[hdead j h4]at lj;cases lj
  ·rw[hdead i h1]at li;cases li
 ·intro i b o hi li
  rcases AL hi with⟨h1,id,h2,h3⟩|⟨h1,_⟩
  ·exact hh.sep id b o h3 (hlv id (bR h2))
  ·rw[hdead i h1]at li;cases li
 ·intro i b o hi
  rcases AL hi with⟨h1,id,h2,h3⟩|⟨h1,id,h2,h3⟩
  ·exact hh.lt id b o h3
  ·exact hh.lt id b o h3
 ·intro i b o hi
  rcases AL hi with⟨h1,id,h2,h3⟩|⟨h1,id,h2,h3⟩
  ·rw[hn1 i id h2]
   exact OR.keep hkp (fun b1 c hq=>⟨aGB hq ⟨id,bR h2,o,h3⟩,rfl⟩) rfl (DE (hh.obj id b o h3))
  ·have hlt:=(aN.1 h2).1
   have hb2:bs[i-ρ.length]?=some (bs[i-ρ.length]'(by omega)):=aH (by omega)
   generalize bs[i-ρ.length]'(by omega)=b2 at hb2
   obtain⟨j,hj⟩:=KW (l:=ρ) 0 (hsub id (bR h2));rw[hn2 i h1,QV h2 hb2,hj];obtain⟨o2,h4⟩:=hbs _ id b2 h2 hb2;rw[h3]at h4;injection h4 with h4;injection h4 with h4 h5;subst h4;subst h5;refine⟨rfl,o,?_⟩
   have h6:=(pO hj).2
   simp only[Nat.sub_zero]at h6;rw[GC (aN.1 h6).1,h6];exact h3
 ·intro b ad hb
  obtain⟨h1,h2⟩:=aLY hb;obtain⟨q1,q2,q3⟩:=hh.ql b ad h1;refine⟨q1,q2,fun i o hi=>?_⟩
  rcases AL hi with⟨h3,id,h4,h5⟩|⟨h3,_⟩
  ·have:=q3 id o h5
   rw[hlv id (bR h4)]at this;cases this
  ·exact hdead i h3
theorem XR(hsub:∀id∈ids,id∈ρ){x y:B}{u:Value}(hy:XS ρ ids ρ.length x=some y)(hx:BR β R w x u):BR (wS β ρ ids) R w y u:=by
 have hkp:jI (bρ ρ β) R w (wS β ρ ids) R w:=⟨fun i x hi=>by
  have hi:(ρ[i]?).bind β.f=some x:=hi
  have hlt:i<ρ.length:=by
   rcases cA i ρ.length with h|h
   ·exact h
   ·rw[bB h]at hi;cases hi
  rw[GC hlt];exact hi,fun _ h=>h,fun _ _=>rfl⟩
 cases x with
 |p x=>simp only[XS,aB]at hy;subst hy;exact hx
 |ptr id off=>
  simp only[XS]at hy;split at hy
  ·rename_i i hi
   injection hy with hy;subst hy
   have h6:=(pO hi).2
   simp only[Nat.sub_zero]at h6;obtain⟨b,o,h1,h2⟩:=hx;refine⟨b,o,?_,h2⟩;rw[aGC (by omega),show ρ.length+i-ρ.length=i by omega,h6];exact h1
  ·exact BR.keep hkp (DG hy hx)
theorem wJ(hsub:∀id∈ids,id∈ρ):∀ {xs ys:List B} {us:List Value} (_:OL ρ ids ρ.length xs=some ys) (_:All2 (BR β R w) xs us),All2 (BR (wS β ρ ids) R w) ys us
 |[],ys,us,hy,h=>by
  simp only[OL,aB]at hy;subst hy;cases us<;>exact h
 |x::xs,ys,us,hy,h=>by
  simp only[OL]at hy;cases h1:XS ρ ids ρ.length x with
  |none=>simp[h1]at hy
  |some y=>
   cases h2:OL ρ ids ρ.length xs with
   |none=>simp[h1,h2]at hy
   |some ys'=>
    simp only[h1,h2,aB]at hy;subst hy;cases us with
    |nil=>exact h.elim
    |cons u us=>exact⟨XR hsub h1 h.1,wJ hsub h2 h.2⟩
theorem KU(hsub:∀id∈ids,id∈ρ){x:C}{u:Value}(hx:CR β R w x u):CR (wS β ρ ids) R w (PN ρ ids ρ.length x) u:=by
 have hkp:jI (bρ ρ β) R w (wS β ρ ids) R w:=⟨fun i x hi=>by
  have hi:(ρ[i]?).bind β.f=some x:=hi
  have hlt:i<ρ.length:=by
   rcases cA i ρ.length with h|h
   ·exact h
   ·rw[bB h]at hi;cases hi
  rw[GC hlt];exact hi,fun _ h=>h,fun _ _=>rfl⟩
 have gen:∀y:C,CR β R w y u→CR (wS β ρ ids) R w (cI ρ y) u:=fun y hy=>
  CR.keep (β:=⟨(bρ ρ β).f,β.q⟩) ⟨hkp.bm,fun _ h=>h,fun _ _=>rfl⟩ (mJ hy)
 cases x with
 |ptr id off=>
  show CR _ _ _ (match iN id ids 0 with
   |some i=>C.ptr (ρ.length+i) off
   |none=>cI ρ (.ptr id off)) u
  cases hi:iN id ids 0 with
  |none=>exact gen _ hx
  |some i=>
   have h6:=(pO hi).2
   simp only[Nat.sub_zero]at h6;obtain⟨b,o,h1,h2⟩:=hx;refine⟨b,o,?_,h2⟩;rw[aGC (by omega),show ρ.length+i-ρ.length=i by omega,h6];exact h1
 |fn f fs cs=>
  simp only[PN];split
  ·rename_i h1 h2
   obtain⟨us,vs,e1,e2,e3⟩:=hx;exact⟨us,vs,e1,wJ hsub h1 e2,wJ hsub h2 e3⟩
  ·exact trivial
 |_=>exact gen _ hx
theorem GB(hsub:∀id∈ids,id∈ρ):∀ {xs:List C} {us:List Value},All2 (CR β R w) xs us→All2 (CR (wS β ρ ids) R w) (aOD ρ ids ρ.length xs) us
 |[],[],_=>trivial
 |[],_::_,h=>h.elim
 |_::_,[],h=>h.elim
 |_::_,_::_,h=>⟨KU hsub h.1,GB hsub h.2⟩
theorem GA(hsub:∀id∈ids,id∈ρ):∀ {xs:List V} {us:List Value},All2 (VR β R w) xs us→All2 (VR (wS β ρ ids) R w) (qB ρ ids ρ.length xs) us
 |[],[],_=>trivial
 |[],_::_,h=>h.elim
 |_::_,[],h=>h.elim
 |v::_,_::_,h=>⟨by
   cases v with
   |c x=>exact KU hsub h.1
   |a cs=>obtain⟨us,h1,h2⟩:=h.1;exact⟨us,h1,GB hsub h2⟩
   |t vs=>exact trivial,GA hsub h.2⟩
open Classical in
noncomputable def pK(β β2:Bt)(ρ:List Nat)(L:Nat):Bt:=⟨fun i=>if i<L then β i else β2 (i-L),fun b=>match β2.q b with
 |some ad=>some ad
 |none=>match β.q b with
  |some (bi,c)=>if sG β ρ bi then none else some (bi,c)
  |none=>none⟩
theorem aIV{L i:Nat}(hi:i<L):pK β β2 ρ L i=β i:=by simp only[pK,if_pos hi]
theorem RG{L j:Nat}:pK β β2 ρ L (L+j)=β2 j:=by
 simp only[pK,if_neg (show ¬L+j<L by omega)];rw[show L+j-L=j by omega]
theorem ZU{L b:Nat}{ad:Nat×Nat}(hq:β2.q b=some ad):(pK β β2 ρ L).q b=some ad:=by simp only[pK,hq]
theorem aEX{L b:Nat}{ad:Nat×Nat}(hq:(pK β β2 ρ L).q b=some ad):β2.q b=some ad∨(β.q b=some ad∧¬sG β ρ ad.1):=by
 simp only[pK]at hq;split at hq
 ·rename_i ad' h1;injection hq with hq;subst hq;exact .inl h1
 ·split at hq
  ·rename_i bi c h1
   split at hq
   ·cases hq
   ·rename_i hp;injection hq with hq;subst hq;exact .inr ⟨h1,hp⟩
  ·cases hq
theorem VX{β3:Bt}{L:Nat}(hjs:js.length=ids.length)(hnum:∀j x,β2 j=some x→β3 (L+j)=some x)(hpin:∀(i:Nat) id j,ids[i]?=some id→js[i]?=some j→∃b o o2,β3 id=some (b,o)∧β2 j=some (b,o2)){x:C}{u:Value}(hx:CR β2 R2 w' x u):CR β3 R2 w' (vH js ids L x) u:=by
 cases x with
 |p x=>exact hx
 |lp=>exact hx
 |own=>exact trivial
 |fn=>exact trivial
 |top=>exact trivial
 |ptr id off=>
  obtain⟨b,o,h1,h2⟩:=hx
  show ∃b o,β3 (aN7 js ids L id)=some (b,o)∧_
  unfold aN7;cases hl:xV js ids id with
  |none=>exact⟨b,o,hnum _ _ h1,h2⟩
  |some id'=>
   obtain⟨m,h3,h4⟩:=zB hl;obtain⟨b',o',o2,h5,h6⟩:=hpin m id' id h4 h3;rw[h1]at h6;injection h6 with h6;injection h6 with h6 h7;subst h6;exact⟨_,o',h5,h2⟩
 |rp id sz e o=>
  obtain⟨b,o,h1,h2⟩:=hx
  show CR _ _ _ (match oV id js with
   |true=>C.top
   |false=>.rp (L+id) sz e _) u
  cases oV id js with
  |true=>exact trivial
  |false=>exact⟨b,o,hnum _ _ h1,h2⟩
 |sl id sz off len=>
  obtain⟨A,c,h1,h2,h3,h4⟩:=hx
  show CR _ _ _ (match oV id js with
   |true=>C.top
   |false=>.sl (L+id) sz off len) u
  cases oV id js with
  |true=>exact trivial
  |false=>
   refine⟨A,c,h1,h2,h3,?_⟩
   rcases h4 with h4|⟨b,N,h5,h6,h7⟩
   ·exact .inl h4
   ·exact .inr ⟨b,N,hnum _ _ h5,h6,h7⟩
 |mp id=>
  obtain⟨b,N,h1,h2⟩:=hx
  show CR _ _ _ (match oV id js with
   |true=>C.top
   |false=>.mp (L+id)) u
  cases oV id js with
  |true=>exact trivial
  |false=>exact⟨b,N,hnum _ _ h1,h2⟩
theorem xG(L:Nat):∀xs:List C,(AD js ids L xs).length=xs.length
 |[]=>rfl
 |_::xs=>by simp[AD,xG L xs]
theorem KA(L:Nat):∀(xs:List C) (i:Nat),aZ .top (AD js ids L xs) i=vH js ids L (aZ .top xs i)
 |[],_=>rfl
 |_::_,0=>rfl
 |_::xs,i+1=>KA L xs i
theorem yS{β3:Bt}{L:Nat}(hc:∀(x:C) (u:Value),CR β2 R2 w' x u→CR β3 R2 w' (vH js ids L x) u):∀ {xs:List C} {us:List Value},All2 (CR β2 R2 w') xs us→All2 (CR β3 R2 w') (AD js ids L xs) us
 |[],[],_=>trivial
 |[],_::_,h=>h.elim
 |_::_,[],h=>h.elim
 |_::_,_::_,h=>⟨hc _ _ h.1,yS hc h.2⟩
theorem VW{β3:Bt}{L:Nat}(hc:∀(x:C) (u:Value),CR β2 R2 w' x u→CR β3 R2 w' (vH js ids L x) u){x:V}{u:Value}(h:VR β2 R2 w' x u):VR β3 R2 w' (aPX js ids L x) u:=by
 cases x with
 |c x=>exact hc _ _ h
 |a cs=>obtain⟨us,h1,h2⟩:=h;exact⟨us,h1,yS hc h2⟩
 |t vs=>exact trivial
theorem DP{β3:Bt}{L:Nat}(hc:∀(x:C) (u:Value),CR β2 R2 w' x u→CR β3 R2 w' (vH js ids L x) u)(hq:∀b ad,β2.q b=some ad→β3.q b=some ad){x:AO}{b o:Nat}(h:OR β2 R2 w' x b o):OR β3 R2 w' (aBX js ids L x) b o:=by
 have hco:∀(ad:Nat×Nat) (x:C) (u:Value),pY β2 R2 w' ad x u→pY β3 R2 w' ad (vH js ids L x) u:=by
  intro ad x u hx;cases ho:x.isOwn with
  |true=>
   cases x with
   |own ty sz n f=>
    obtain⟨A,c,h1,h2,h3,h4⟩:=hx;refine⟨A,c,h1,h2,h3,?_⟩
    rcases h4 with h4|⟨b,cs,h5,h6,h7⟩
    ·exact .inl h4
    ·exact .inr ⟨b,cs,h5,hq _ _ h6,h7⟩
   |_=>cases ho
  |false=>
   refine pY.of ?_ (hc _ _ hx.cr)
   cases x<;>first|rfl|(cases ho;done)|(simp only[vH];split<;>rfl)
 cases x with
 |cells ty vs=>obtain⟨cs,h2,h3⟩:=h;exact⟨cs,h2,yS hc h3⟩
 |row ty sz n f=>
  obtain⟨cs,h1,h0,h2,h3⟩:=h;refine⟨cs,h1,h0,h2,fun e k he hk=>?_⟩;obtain⟨u,h4,h5⟩:=h3 e k he hk;exact⟨u,h4,hco _ _ _ h5⟩
 |foc ty sz n e0 vs f=>
  obtain⟨cs,h1,h0,h2,h21,h22,h3⟩:=h;refine⟨cs,h1,h0,h2,h21,by rw[xG];exact h22,fun e k he hk=>?_⟩;obtain⟨u,h4,h5,h6⟩:=h3 e k he hk;exact⟨u,h4,fun h=>by rw[KA];exact hc _ _ (h5 h),fun h=>hco _ _ _ (h6 h)⟩
 |mapb ok g=>exact h
 |mapl ok ty sz g fo=>
  obtain⟨es,cl,h2,h3,h4,h5⟩:=h;cases fo with
  |none=>
   refine⟨es,cl,h2,h3,fun i e he=>?_,fun k0 hk0=>?_⟩
   ·obtain⟨q1,q2,q3⟩:=h4 i e he
    exact⟨q1,fun k0 c h1=>(by cases h1),fun _=>hco (b,i) _ _ (q3 (fun _ _ h=>by cases h))⟩
   ·obtain⟨q1,q2⟩:=h5 k0 hk0
    exact⟨fun k1 c h1=>(by cases h1),fun _=>q2 (fun _ _ h=>by cases h)⟩
  |some kc=>
   obtain⟨k9,c9⟩:=kc;refine⟨es,cl,h2,h3,fun i e he=>?_,fun k0 hk0=>?_⟩
   ·obtain⟨q1,q2,q3⟩:=h4 i e he
    refine⟨q1,fun k0 c h1 h2=>?_,fun h1=>hco (b,i) _ _ (q3 fun k0 c h2=>?_)⟩
    ·injection h1 with h1;injection h1 with h1 h3;subst h1;subst h3
     exact hc _ _ (q2 _ _ rfl h2)
    ·injection h2 with h2;injection h2 with h2 h3;subst h2;subst h3
     exact h1 _ _ rfl
   ·obtain⟨q1,q2⟩:=h5 k0 hk0
    refine⟨fun k1 c h1 h2=>?_,fun h1=>q2 fun k1 c h2=>?_⟩
    ·injection h1 with h1;injection h1 with h1 h3;subst h1;subst h3
     exact hc _ _ (q1 _ _ rfl h2)
    ·injection h2 with h2;injection h2 with h2 h3;subst h2;subst h3
     exact h1 _ _ rfl
 |pin=>exact trivial
 |gone=>exact trivial
def isCells:AO→Bool
 |.cells .. => true
 |_=>false
set_option maxHeartbeats 1000000 in
theorem aGF(hh:HS G β R w h)(hlv:∀id∈ρ,(aZ .gone h id).live=true)(hsub:∀id∈ids,id∈ρ)(hjs:js.length=ids.length)
  (fr:Fr (wS β ρ ids) R w β2 R2 w') (rm:∀b,R b→R2 b) (h2:HS G β2 R2 w' hE)
  (hpin:∀(i:Nat) id j,ids[i]?=some id→js[i]?=some j→isCells (aZ .gone hE j)=true∧∃b o o2,β id=some (b,o)∧β2 j=some (b,o2)) :
  HS G (pK β β2 ρ h.length) R2 w' (lP ρ ids js h hE)∧Gr β R w (pK β β2 ρ h.length) R2 w' ∧
   (∀(x:C) (u:Value),CR β2 R2 w' x u→CR (pK β β2 ρ h.length) R2 w' (vH js ids h.length x) u)∧∀i,i<h.length→pK β β2 ρ h.length i=β i:=by
 have hold:∀i,i<h.length→pK β β2 ρ h.length i=β i:=fun i hi=>aIV hi
 have hcase:∀i x,pK β β2 ρ h.length i=some x→(i<h.length∧β i=some x)∨∃j,i=h.length+j∧β2 j=some x:=fun i x hx=>by
  rcases cA i h.length with hi|hi
  ·rw[hold i hi]at hx;exact .inl ⟨hi,hx⟩
  ·obtain⟨j,rfl⟩:∃j,i=h.length+j:=⟨i-h.length,by omega⟩
   rw[RG]at hx;exact .inr ⟨j,rfl,hx⟩
 have hnew:∀j x,β2 j=some x→pK β β2 ρ h.length (h.length+j)=some x:=fun j x hx=>by rw[RG];exact hx
 have hpin':∀(i:Nat) id j,ids[i]?=some id→js[i]?=some j→∃b o o2,pK β β2 ρ h.length id=some (b,o)∧β2 j=some (b,o2):=fun i id j h1 h3=>by
  obtain⟨_,b,o,o2,h4,h5⟩:=hpin i id j h1 h3;exact⟨b,o,o2,by rw[hold id (hh.dom id _ h4)];exact h4,h5⟩
 have hC:∀(x:C) (u:Value),CR β2 R2 w' x u→CR (pK β β2 ρ h.length) R2 w' (vH js ids h.length x) u:=fun x u hx=>VX hjs hnew hpin' hx
 have hL:gA h=h.length:=fD h
 have hne:∀i b o,β i=some (b,o)→(aZ .gone h i).live=true→i ∉ ρ→¬(wS β ρ ids).has b:=by
  intro i b o hi li hn hb
  rcases OM hsub hb with⟨id,h3,o',h4⟩|⟨ad,h3,_⟩
  ·exact hn (hh.inj i id b o o' hi h4 li (hlv id h3)▸h3)
  ·have:=(hh.ql b ad h3).2.2 i o hi
   rw[li]at this;cases this
 have hhas:∀b,(wS β ρ ids).has b→β.has b∧b<w.heap.size:=by
  intro b hb
  rcases OM hsub hb with⟨id,_,o,h4⟩|⟨ad,h3,_⟩
  ·exact⟨.inl ⟨id,o,h4⟩,hh.lt id b o h4⟩
  ·exact⟨.inr ⟨ad,h3⟩,(hh.ql b ad h3).1⟩
 have hqn:∀b ad,β.q b=some ad→¬sG β ρ ad.1→¬(wS β ρ ids).has b:=by
  intro b ad h3 h4 hb
  rcases OM hsub hb with⟨id,h5,o,h6⟩|⟨ad',h5,h6⟩
  ·have:=(hh.ql b ad h3).2.2 id o h6
   rw[hlv id h5]at this;cases this
  ·rw[h3]at h5;injection h5 with h5;subst h5;exact h4 h6
 have hb2:∀b,β2.has b→(wS β ρ ids).has b∨w.heap.size≤b:=fr.ex
 have old_cases:∀i,i<h.length→(∃(m:Nat) (j:Nat),ids[m]?=some i∧js[m]?=some j∧aZ .gone (lP ρ ids js h hE) i=aBX js ids h.length (aZ .gone hE j)) ∨
   (i∈ρ∧aZ .gone (lP ρ ids js h hE) i=.gone)∨(i ∉ ρ∧aZ .gone (lP ρ ids js h hE) i=aZ .gone h i):=by
  intro i hi;rw[RZ hi,hL];unfold RJ;cases hl:xV ids js i with
  |some j=>
   obtain⟨m,h3,h4⟩:=zB hl;exact .inl ⟨m,j,h3,h4,rfl⟩
  |none=>
   cases hm:oV i ρ with
   |true=>exact .inr (.inl ⟨rM.1 hm,rfl⟩)
   |false=>exact .inr (.inr ⟨fun h3=>(by rw[rM.2 h3]at hm;cases hm),rfl⟩)
 have new_cases:∀j x,β2 j=some x→(j∈js∧aZ .gone (lP ρ ids js h hE) (h.length+j)=.gone)∨(j ∉ js∧aZ .gone (lP ρ ids js h hE) (h.length+j)=aBX js ids h.length (aZ .gone hE j)):=by
  intro j x hj;rw[SA (h2.dom j x hj),hL];unfold aNT;cases hm:oV j js with
  |true=>exact .inl ⟨rM.1 hm,rfl⟩
  |false=>exact .inr ⟨fun h3=>(by rw[rM.2 h3]at hm;cases hm),rfl⟩
 have key:∀i b o,pK β β2 ρ h.length i=some (b,o)→(aZ .gone (lP ρ ids js h hE) i).live=true →
   (i<h.length∧i ∉ ρ∧β i=some (b,o)∧(aZ .gone h i).live=true) ∨
   (∃(m:Nat) (j:Nat) (o2:Nat),i<h.length∧ids[m]?=some i∧js[m]?=some j∧β i=some (b,o)∧β2 j=some (b,o2)∧(aZ .gone hE j).live=true) ∨
   (∃j,i=h.length+j∧j ∉ js∧β2 j=some (b,o)∧(aZ .gone hE j).live=true):=by
  intro i b o hi li
  rcases hcase i _ hi with⟨h3,h4⟩|⟨j,rfl,h4⟩
  ·rcases old_cases i h3 with⟨m,j,h5,h6,h7⟩|⟨h5,h6⟩|⟨h5,h6⟩
   ·obtain⟨hc,b',o',o2,h8,h9⟩:=hpin m i j h5 h6
    rw[h4]at h8;injection h8 with h8;injection h8 with h8 h10;subst h8;subst h10;refine .inr (.inl ⟨m,j,o2,h3,h5,h6,h4,h9,?_⟩)
    cases hx:aZ .gone hE j<;>rw[hx]at hc<;>first|rfl|cases hc
   ·rw[h6]at li;cases li
   ·rw[h6]at li;exact .inl ⟨h3,h5,h4,li⟩
  ·rcases new_cases j _ h4 with⟨h5,h6⟩|⟨h5,h6⟩
   ·rw[h6]at li;cases li
   ·rw[h6]at li;exact .inr (.inr ⟨j,rfl,h5,h4,aBW li⟩)
 have frk:jI β R w (pK β β2 ρ h.length) R2 w':=⟨fun i x hi=>by rw[hold i (hh.dom i x hi)];exact hi,rm,fr.rs⟩
 have gr:Gr β R w (pK β β2 ρ h.length) R2 w':={
  os:=fr.os,tape:=fr.tape,output:=fr.output,size:=fr.size,rs:=fr.rs
  fr:=fun b hb hn=>fr.fr b hb fun hi=>hn (hhas b hi).1
  ex:=fun b hi=>by
   have h9:β2.has b→β.has b∨w.heap.size≤b:=fun h3=>(hb2 b h3).imp (fun h4=>(hhas b h4).1) id
   rcases hi with⟨i,o,hi⟩|⟨ad,hi⟩
   ·rcases hcase i _ hi with⟨_,h4⟩|⟨j,_,h4⟩
    ·exact .inl (.inl ⟨i,o,h4⟩)
    ·exact h9 (.inl ⟨j,o,h4⟩)
   ·rcases aEX hi with h4|⟨h4,_⟩
    ·exact h9 (.inr ⟨ad,h4⟩)
    ·exact .inl (.inr ⟨ad,h4⟩)
  rx:=fun b hb=>(fr.rx b hb).imp id (Or.imp (fun h4=>(hhas b h4).1) id)
  bm:=frk.bm
  rm:=rm }
 have hR2:∀b,R2 b→b<w.heap.size→¬(wS β ρ ids).has b→R b:=fun b hb hlt hn=>by
  rcases fr.rx b hb with h3|h3|h3
  ·exact h3
  ·exact absurd h3 hn
  ·omega
 refine⟨⟨?_,?_,?_,?_,h2.rlt,?_,h2.gl,?_⟩,gr,hC,hold⟩
 ·intro i x hi
  rw[RF]
  rcases hcase i _ hi with⟨h3,_⟩|⟨j,rfl,h4⟩
  ·omega
  ·have:=h2.dom j x h4;omega
 ·intro i1 i2 b o1 o2 hi1 hi2 l1 l2
  rcases key i1 b o1 hi1 l1 with⟨a1,a2,a3,a4⟩|⟨m1,j1,p1,a1,a2,a3,a4,a5,a6⟩|⟨j1,rfl,a1,a2,a3⟩
  ·rcases key i2 b o2 hi2 l2 with⟨c1,c2,c3,c4⟩|⟨m2,j2,p2,c1,c2,c3,c4,c5,c6⟩|⟨j2,rfl,c1,c2,c3⟩
   ·exact hh.inj i1 i2 b o1 o2 a3 c3 a4 c4
   ·exact hh.inj i1 i2 b o1 o2 a3 c4 a4 (hlv i2 (hsub i2 (bR c2)))
   ·rcases hb2 b (.inl ⟨j2,o2,c2⟩) with h3|h3
    ·exact absurd h3 (hne i1 b o1 a3 a4 a2)
    ·have:=hh.lt i1 b o1 a3;omega
  ·have la:=hlv i1 (hsub i1 (bR a2))
   rcases key i2 b o2 hi2 l2 with⟨c1,c2,c3,c4⟩|⟨m2,j2,p2,c1,c2,c3,c4,c5,c6⟩|⟨j2,rfl,c1,c2,c3⟩
   ·exact hh.inj i1 i2 b o1 o2 a4 c3 la c4
   ·exact hh.inj i1 i2 b o1 o2 a4 c4 la (hlv i2 (hsub i2 (bR c2)))
   ·have:=h2.inj j1 j2 b p1 o2 a5 c2 a6 c3
    subst this;exact absurd (bR a3) c1
  ·rcases key i2 b o2 hi2 l2 with⟨c1,c2,c3,c4⟩|⟨m2,j2,p2,c1,c2,c3,c4,c5,c6⟩|⟨j2,rfl,c1,c2,c3⟩
   ·rcases hb2 b (.inl ⟨j1,o1,a2⟩) with h3|h3
    ·exact absurd h3 (hne i2 b o2 c3 c4 c2)
    ·have:=hh.lt i2 b o2 c3;omega
   ·have:=h2.inj j1 j2 b o1 p2 a2 c5 a3 c6
    subst this;exact absurd (bR c3) a1
   ·rw[h2.inj j1 j2 b o1 o2 a2 c2 a3 c3]
 ·intro i b o hi li
  rcases key i b o hi li with⟨a1,a2,a3,a4⟩|⟨m1,j1,p1,a1,a2,a3,a4,a5,a6⟩|⟨j1,rfl,a1,a2,a3⟩
  ·exact fun hb=>hh.sep i b o a3 a4 (hR2 b hb (hh.lt i b o a3) (hne i b o a3 a4 a2))
  ·exact h2.sep j1 b p1 a5 a6
  ·exact h2.sep j1 b o a2 a3
 ·intro i b o hi
  rcases hcase i _ hi with⟨_,h4⟩|⟨j,_,h4⟩
  ·exact bM (hh.lt i b o h4) fr.size
  ·exact h2.lt j b o h4
 ·intro i b o hi
  rcases hcase i _ hi with⟨h3,h4⟩|⟨j,rfl,h4⟩
  ·rcases old_cases i h3 with⟨m,j,h5,h6,h7⟩|⟨h5,h6⟩|⟨h5,h6⟩
   ·rw[h7]
    obtain⟨hc,b',o',o2,h8,h9⟩:=hpin m i j h5 h6;rw[h4]at h8;injection h8 with h8;injection h8 with h8 h10;subst h8;subst h10
    have h11:=DP (js:=js) (ids:=ids) (L:=h.length) hC (fun b ad hq=>ZU hq) (h2.obj j b o2 h9)
    cases hx:aZ .gone hE j with
    |cells ty vs=>rw[hx]at h11;exact h11
    |_=>rw[hx]at hc;cases hc
   ·rw[h6];exact trivial
   ·rw[h6]
    cases hl:(aZ .gone h i).live with
    |false=>exact OR.dead frk hl (hh.obj i b o h4)
    |true=>
     have hnh:=hne i b o h4 hl h5
     refine OR.keep frk (fun b1 c hq=>?_) (fr.fr b (hh.lt i b o h4) hnh) (hh.obj i b o h4)
     have hnp:¬sG β ρ b:=fun⟨id,h8,o',h9⟩=>hnh (by
      obtain⟨j,hj⟩:=List.mem_iff_getElem?.1 h8
      exact .inl ⟨j,o',by rw[GC (aN.1 hj).1,hj];exact h9⟩)
     have hn1:=hqn b1 (b,c) hq hnp
     have hlt1:=(hh.ql b1 _ hq).1
     refine⟨?_,fr.fr b1 hlt1 hn1⟩
     have hq2:β2.q b1=none:=by
      cases hq2:β2.q b1 with
      |none=>rfl
      |some ad=>
       rcases hb2 b1 (.inr ⟨ad,hq2⟩) with h8|h8
       ·exact absurd h8 hn1
       ·omega
     simp only[pK,hq2,hq,if_neg hnp]
  ·rcases new_cases j _ h4 with⟨h5,h6⟩|⟨h5,h6⟩
   ·rw[h6];exact trivial
   ·rw[h6];exact DP hC (fun b ad hq=>ZU hq) (h2.obj j b o h4)
 ·intro b ad hq
  rcases aEX hq with h3|⟨h3,h4⟩
  ·obtain⟨q1,q2,q3⟩:=h2.ql b ad h3
   refine⟨q1,q2,fun i o hi=>?_⟩;cases li:(aZ .gone (lP ρ ids js h hE) i).live with
   |false=>rfl
   |true=>
    rcases key i b o hi li with⟨a1,a2,a3,a4⟩|⟨m1,j1,p1,a1,a2,a3,a4,a5,a6⟩|⟨j1,rfl,a1,a2,a3⟩
    ·rcases hb2 b (.inr ⟨ad,h3⟩) with h8|h8
     ·exact absurd h8 (hne i b o a3 a4 a2)
     ·have:=hh.lt i b o a3;omega
    ·have:=q3 j1 p1 a5;rw[a6]at this;cases this
    ·have:=q3 j1 o a2;rw[a3]at this;cases this
  ·obtain⟨q1,q2,q3⟩:=hh.ql b ad h3
   have hn1:=hqn b ad h3 h4
   refine⟨bM q1 fr.size,fun hb=>q2 (hR2 b hb q1 hn1),fun i o hi=>?_⟩;cases li:(aZ .gone (lP ρ ids js h hE) i).live with
   |false=>rfl
   |true=>
    have hnb:¬β2.has b:=fun hb=>by
     rcases hb2 b hb with h8|h8
     ·exact hn1 h8
     ·omega
    rcases key i b o hi li with⟨a1,a2,a3,a4⟩|⟨m1,j1,p1,a1,a2,a3,a4,a5,a6⟩|⟨j1,rfl,a1,a2,a3⟩
    ·have:=q3 i o a3;rw[a4]at this;cases this
    ·exact absurd (.inl ⟨j1,p1,a5⟩) hnb
    ·exact absurd (.inl ⟨j1,o,a2⟩) hnb
end
def oU(fn:Func)(ρ ids bs:List Nat)(args:List V)(h:List AO):St:=⟨qB ρ ids ρ.length args++eD (fn.ntmps-args.length) (.t []),inH ρ ids h bs⟩
def aPJ:V→V1
 |.c x=>.c x
 |.a cs=>.a cs
 |.t _=>.c .top
def aE2:List V→List V1
 |[]=>[]
 |v::r=>aPJ v::aE2 r
def aC5:List V→V
 |[v]=>v
 |vs=>.t (aE2 vs)
def DO(js ids:List Nat)(L:Nat):List V→List V
 |[]=>[]
 |v::r=>aPX js ids L v::DO js ids L r
def qM(h:List AO):List Nat→Bool
 |[]=>true
 |id::r=>(aZ .gone h id).live&&qM h r
theorem qL{h:List AO}:∀ {l:List Nat},qM h l=true→∀id∈l,(aZ .gone h id).live=true
 |x::r,hl,id,hi=>by
  simp only[qM,aS]at hl
  rcases cR.1 hi with rfl|hi
  ·exact hl.1
  ·exact qL hl.2 id hi
section
variable {P:Program} {G:Nat→Option Obj} {β:Bt} {R:Nat→Prop} {w:World}
theorem All2.split{α γ:Type}{q:α→γ→Prop}:∀ {xs xs':List α} {ys ys':List γ},xs.length=ys.length→All2 q (xs++xs') (ys++ys')→All2 q xs ys∧All2 q xs' ys'
 |[],_,[],_,_,h=>⟨trivial,h⟩
 |[],_,_::_,_,hl,_=>by simp at hl
 |_::_,_,[],_,hl,_=>by simp at hl
 |_::xs,_,_::ys,_,hl,h=>⟨⟨h.1,(All2.split (xs:=xs) (ys:=ys) (by simpa using hl) h.2).1⟩,(All2.split (xs:=xs) (ys:=ys) (by simpa using hl) h.2).2⟩
theorem UY{v:V}{u:Value}(h:VR β R w v u):zS β R w (aPJ v) u:=by
 cases v with
 |c x=>exact h
 |a cs=>exact h
 |t vs=>exact trivial
theorem zX:∀ {vs:List V} {us:List Value},All2 (VR β R w) vs us→All2 (zS β R w) (aE2 vs) us
 |[],[],_=>trivial
 |[],_::_,h=>h.elim
 |_::_,[],h=>h.elim
 |_::_,_::_,h=>⟨UY h.1,zX h.2⟩
theorem DW:∀ {vs:List V} {us:List Value} (_:All2 (VR β R w) vs us),VR β R w (aC5 vs) (oneU us)
 |[],[],_=>⟨#[],rfl,trivial⟩
 |[_],[_],h=>h.1
 |_::_::_,_::_::_,h=>⟨_,rfl,zX h⟩
 |[],_::_,h=>h.elim
 |_::_,[],h=>h.elim
 |[_],_::_::_,h=>h.2.elim
 |_::_::_,[_],h=>h.2.elim
theorem rZ{st:St}{a:Act}(hs:eJ G β R st a w){vs:List V}{us:List Value}(h:All2 (VR β R w) vs us):∀ps:List Nat,All2 (VR β R w) (tH st ps vs) (ps.map (fun j=>a.tmps.getD j undef)++us)
 |[]=>h
 |j::ps=>⟨aM (x:=.tmp j) hs rfl,rZ hs h ps⟩
theorem All2.mem_{α γ:Type}{q:α→γ→Prop}:∀ {xs:List α} {ys:List γ},All2 q xs ys→∀x∈xs,∃y,q x y
 |_::_,y::_,h,x,hx=>by
  rcases cR.1 hx with rfl|hx
  ·exact⟨y,h.1⟩
  ·exact All2.mem_ h.2 x hx
 |_::_,[],h,_,_=>h.elim
def WN(id:Nat):V→Prop
 |.c (.ptr i _)=>i=id
 |.c (.fn _ fs cs)=>∃off,B.ptr id off∈fs∨B.ptr id off∈cs
 |_=>False
theorem wA{id:Nat}{v:V}{u:Value}(ho:WN id v)(h:VR β R w v u):∃b o,β id=some (b,o):=by
 unfold WN at ho;split at ho
 ·subst ho
  obtain⟨b,o,h1,_⟩:=h;exact⟨b,o,h1⟩
 ·obtain⟨us,vs,_,h2,h3⟩:=h
  obtain⟨off,h4|h4⟩:=ho
  ·obtain⟨u,b,o,h5,_⟩:=All2.mem_ h2 _ h4
   exact⟨b,o,h5⟩
  ·obtain⟨u,b,o,h5,_⟩:=All2.mem_ h3 _ h4
   exact⟨b,o,h5⟩
 ·exact ho.elim
theorem LU{args:List V}{us:List Value}(ha:All2 (VR β R w) args us):∀ {ids:List Nat},(∀id∈ids,∃v∈args,WN id v)→∃bs:List Nat,bs.length=ids.length∧∀(i:Nat) id b,ids[i]?=some id→bs[i]?=some b→∃o,β id=some (b,o)
 |[],_=>⟨[],rfl,fun i id b h=>by simp at h⟩
 |id::ids,h=>by
  obtain⟨bs,h1,h2⟩:=LU ha (ids:=ids) fun x hx=>h x (bL _ hx)
  obtain⟨v,h3,h3o⟩:=h id (bH ..);obtain⟨u,h4⟩:=All2.mem_ ha _ h3;obtain⟨b,o,h5⟩:=wA h3o h4;refine⟨b::bs,by simp[h1],fun i id' b' hi hb=>?_⟩;cases i with
  |zero=>simp at hi hb;subst hi;subst hb;exact⟨o,h5⟩
  |succ i=>exact h2 i id' b' (by simpa using hi) (by simpa using hb)
theorem yR{β3:Bt}{js ids:List Nat}{L:Nat}(hc:∀(x:C) (u:Value),CR β R w x u→CR β3 R w (vH js ids L x) u):∀ {xs:List V} {us:List Value},All2 (VR β R w) xs us→All2 (VR β3 R w) (DO js ids L xs) us
 |[],[],_=>trivial
 |[],_::_,h=>h.elim
 |_::_,[],h=>h.elim
 |_::_,_::_,h=>⟨VW hc h.1,yR hc h.2⟩
theorem OU{f:FuncId}{fn:Func}(hf:P.funcs[f]?=some fn)(hok:okF P fn=true){ρ ids ps pns js:List Nat}{args:List V}{h:List AO}(hρ:oR ρ=true)(hlv:qM h ρ=true)(hsub:∀id∈ids,id∈ρ)(hin:∀id∈ids,∃v∈args,WN id v)
  (hjs:js.length=ids.length) {sl vs:List V} {hE:List Nat→List AO} (hps:sl.length=ps.length) (hpn:pns.length=ids.length) (hsl:∀(i:Nat) pn,pns[i]?=some pn→∃v∈sl,WN pn v)
  (hEp:∀bs:List Nat,bs.length=ids.length→∀(i:Nat) pn j b,pns[i]?=some pn→js[i]?=some j→bs[i]?=some b→aZ .gone (hE bs) pn=.pin j b∧isCells (aZ .gone (hE bs) j)=true)
  (H:∀bs:List Nat,bs.length=ids.length→jP P G (Zm ps (bU P fn) fun s=>cL G s ⟨sl++vs,hE bs⟩) (dW P fn) (oU fn ρ ids bs args h) fun e s=>e=.normal∧Zm ps (bU P fn) (fun s=>cL G s ⟨sl++vs,hE bs⟩) s) :
  lW P G f args h fun x h'=>∃bs:List Nat,bs.length=ids.length∧x=aC5 (DO js ids h.length vs)∧h'=lP ρ ids js h (hE bs):=by
 unfold okF at hok;simp only[aS,Option.isSome_iff_exists]at hok;obtain⟨⟨c,hc⟩,rs,hr⟩:=hok
 have e1:nY P fn=c:=by unfold nY;rw[hc];rfl
 have e2:bU P fn=rs:=by unfold bU;rw[hr];rfl
 simp only[aA]at hc;obtain⟨c0,hb,hc⟩:=hc;intro β R w us0 ha hh
 obtain⟨bs,hbl,hbs⟩:=LU ha hin
 have H:=jP.code (H bs hbl)
 rw[e1,e2]at H
 have hs0:=aQJ hh hρ (qL hlv) hsub hbl.symm hbs
 refine calls_of_wp hf hb (Code.wp_mono ?_ (H c0 hc (wS β ρ ids) R { tmps:=us0++Array.replicate (fn.ntmps-us0.size) undef,defers:=[] } w ?_))
 ·intro e a' w' hq
  cases e with
  |ret=>
   obtain⟨β',R',st',⟨ws,hws,hz⟩,hs,hfr,hrr⟩:=hq;obtain⟨us,hrun,hall⟩:=qJ hs fn.results.toList rs hr hws
   have hs1:eJ G β' R' ⟨tH st' ps ws,st'.h⟩ { tmps:=(ps.map (fun j=>a'.tmps.getD j undef)++us).toArray,defers:=[] } w':=⟨rfl,by simpa using rZ hs hall ps,hs.hs⟩
   obtain⟨β1,R1,k1,k2,k3⟩:=iT (aLM (tH st' ps ws)) _ β' R' _ w' hs1;obtain⟨β2,R2,k4,k5,k6⟩:=hz β1 R1 _ w' k1
   have frr:Fr (wS β ρ ids) R w β2 R2 w':=(hfr.trans k2 hrr).trans k5 fun b hb=>k3 b (hrr b hb)
   have hsp:All2 (VR β2 R2 w') (sl++vs) (ps.map (fun j=>a'.tmps.getD j undef)++us):=by simpa using k4.tm
   obtain⟨hsp1,hsp2⟩:=hsp.split (by simpa using hps)
   have hpin:∀(i:Nat) id j,ids[i]?=some id→js[i]?=some j→isCells (aZ .gone (hE bs) j)=true∧∃b o o2,β id=some (b,o)∧β2 j=some (b,o2):=by
    intro i id j h1 h2
    have hil:=(aN.1 h1).1
    have h3:pns[i]?=some (pns[i]'(by omega)):=aH _
    generalize pns[i]'(by omega)=pn at h3
    have h4:bs[i]?=some (bs[i]'(by omega)):=aH _
    generalize bs[i]'(by omega)=b at h4
    obtain⟨g1,g2⟩:=hEp bs hbl i pn j b h3 h2 h4;obtain⟨v5,h5,h5o⟩:=hsl i pn h3;obtain⟨u,h6⟩:=All2.mem_ hsp1 _ h5;obtain⟨b',o',h7⟩:=wA h5o h6
    have hob:=k4.hs.obj pn b' o' h7
    have g1:aZ .gone (hE bs) pn=.pin j b:=g1
    have hob:OR β2 R2 w' (aZ .gone (hE bs) pn) b' o':=hob
    rw[g1]at hob;obtain⟨_,o2,h8⟩:=hob;obtain⟨o,h9⟩:=hbs i id b h1 h4;exact⟨g2,b,o,o2,h9,h8⟩
   obtain⟨f1,f2,f3,f4⟩:=aGF hh (qL hlv) hsub hjs frr (fun b hb=>k6 b (k3 b (hrr b hb))) k4.hs hpin;exact⟨hs.df,_,results_eq fn a'.tmps hrun,_,pK β β2 ρ h.length,R2,_,_,rfl,⟨bs,hbl,rfl,rfl⟩,DW (yR f3 hsp2),f1,f2,f4⟩
  |normal=>
   obtain⟨β',R',st',⟨_,hq0⟩,hs,hfr,hrr⟩:=hq;obtain⟨ws,hws,hz⟩:=hq0;obtain⟨us,hrun,hall⟩:=qJ hs fn.results.toList rs hr hws
   have hs1:eJ G β' R' ⟨tH st' ps ws,st'.h⟩ { tmps:=(ps.map (fun j=>a'.tmps.getD j undef)++us).toArray,defers:=[] } w':=⟨rfl,by simpa using rZ hs hall ps,hs.hs⟩
   obtain⟨β1,R1,k1,k2,k3⟩:=iT (aLM (tH st' ps ws)) _ β' R' _ w' hs1;obtain⟨β2,R2,k4,k5,k6⟩:=hz β1 R1 _ w' k1
   have frr:Fr (wS β ρ ids) R w β2 R2 w':=(hfr.trans k2 hrr).trans k5 fun b hb=>k3 b (hrr b hb)
   have hsp:All2 (VR β2 R2 w') (sl++vs) (ps.map (fun j=>a'.tmps.getD j undef)++us):=by simpa using k4.tm
   obtain⟨hsp1,hsp2⟩:=hsp.split (by simpa using hps)
   have hpin:∀(i:Nat) id j,ids[i]?=some id→js[i]?=some j→isCells (aZ .gone (hE bs) j)=true∧∃b o o2,β id=some (b,o)∧β2 j=some (b,o2):=by
    intro i id j h1 h2
    have hil:=(aN.1 h1).1
    have h3:pns[i]?=some (pns[i]'(by omega)):=aH _
    generalize pns[i]'(by omega)=pn at h3
    have h4:bs[i]?=some (bs[i]'(by omega)):=aH _
    generalize bs[i]'(by omega)=b at h4
    obtain⟨g1,g2⟩:=hEp bs hbl i pn j b h3 h2 h4;obtain⟨v5,h5,h5o⟩:=hsl i pn h3;obtain⟨u,h6⟩:=All2.mem_ hsp1 _ h5;obtain⟨b',o',h7⟩:=wA h5o h6
    have hob:=k4.hs.obj pn b' o' h7
    have g1:aZ .gone (hE bs) pn=.pin j b:=g1
    have hob:OR β2 R2 w' (aZ .gone (hE bs) pn) b' o':=hob
    rw[g1]at hob;obtain⟨_,o2,h8⟩:=hob;obtain⟨o,h9⟩:=hbs i id b h1 h4;exact⟨g2,b,o,o2,h9,h8⟩
   obtain⟨f1,f2,f3,f4⟩:=aGF hh (qL hlv) hsub hjs frr (fun b hb=>k6 b (k3 b (hrr b hb))) k4.hs hpin;exact⟨hs.df,_,results_eq fn a'.tmps hrun,_,pK β β2 ρ h.length,R2,_,_,rfl,⟨bs,hbl,rfl,rfl⟩,DW (yR f3 hsp2),f1,f2,f4⟩
  |exit id=>obtain⟨_,_,_,q1,_⟩:=hq;exact nomatch q1.1
  |_=>exact hq.elim
 ·refine⟨rfl,?_,hs0⟩
  have hl:args.length=us0.size:=by simpa using ha.length
  show All2 _ (qB ρ ids ρ.length args++eD (fn.ntmps-args.length) (.t [])) _
  rw[Array.toList_append,Array.toList_replicate,hl];exact(GA hsub ha).append (vU _)
theorem aGV{f:FuncId}{fn:Func}(hf:P.funcs[f]?=some fn)(hok:okF P fn=true){ρ ids ps pns js:List Nat}{args:List V}{h:List AO}(hρ:oR ρ=true)(hlv:qM h ρ=true)(hsub:∀id∈ids,id∈ρ)(hin:∀id∈ids,∃off,V.c (.ptr id off)∈args)
  (hjs:js.length=ids.length) {sl vs:List V} {hE:List Nat→List AO} (hps:sl.length=ps.length) (hpn:pns.length=ids.length) (hsl:∀(i:Nat) pn,pns[i]?=some pn→∃off,V.c (.ptr pn off)∈sl)
  (hEp:∀bs:List Nat,bs.length=ids.length→∀(i:Nat) pn j b,pns[i]?=some pn→js[i]?=some j→bs[i]?=some b→aZ .gone (hE bs) pn=.pin j b∧isCells (aZ .gone (hE bs) j)=true)
  (H:∀bs:List Nat,bs.length=ids.length→jP P G (Zm ps (bU P fn) fun s=>cL G s ⟨sl++vs,hE bs⟩) (dW P fn) (oU fn ρ ids bs args h) fun e s=>e=.normal∧Zm ps (bU P fn) (fun s=>cL G s ⟨sl++vs,hE bs⟩) s) :
  lW P G f args h fun x h'=>∃bs:List Nat,bs.length=ids.length∧x=aC5 (DO js ids h.length vs)∧h'=lP ρ ids js h (hE bs):=
 OU hf hok hρ hlv hsub (fun id hid=>by obtain⟨off,h⟩:=hin id hid;exact⟨_,h,rfl⟩) hjs hps hpn (fun i pn h=>by obtain⟨off,h⟩:=hsl i pn h;exact⟨_,h,rfl⟩) hEp H
end
section
variable {P:Program} {G:Nat→Option Obj} {ops:Array Oper} {al:List AI} {n:Nat} {S:Nat→St} {ext:Ext}
theorem QQ{listed:Array Bool}{i:Nat}(h:i∈Region.ready .any ops listed):i<ops.size∧listed.getD i true=false∧∀j,dR .any ops i j=true→listed.getD j false=true:=by
 obtain⟨q1,o,q2,q3⟩:=mem_ready.1 h;refine⟨(Array.getElem?_eq_some_iff.1 q2).1,q1,fun j hj=>?_⟩;obtain⟨o',ho',e,he,hb,hon⟩:=Region.waitsFor_spec hj;rw[q2]at ho';injection ho' with ho';subst ho'
 have:=q3 e he hb
 rwa [hon]at this
theorem SK{listed:Array Bool}{i:Nat}(hback:∀i o,ops[i]?=some o→∀e∈o.after,Region.binds .any e=true→e.on<i)(hi:i<ops.size)(hn:listed.getD i true=false)(hl:∀j,j<i→listed.getD j false=true):i∈Region.ready .any ops listed:=
 mem_ready.2 ⟨hn,ops[i],by simp[hi],fun e he hb=>hl e.on (hback i _ (by simp[hi]) e he hb)⟩
variable {β0:Bt} {R0:Nat→Prop} {w0:World}
end
section
variable {P:Program} {G:Nat→Option Obj}
def aE7:List Nat→List V→List V
 |[],t=>t
 |d::r,t=>aE7 r (upd (.c .top) t d)
end
section
variable {P:Program} {G:Nat→Option Obj}
structure MA where
 n:Nat
 tm:TypeId
 ts:TypeId
 r:TypeId×TypeId×Nat
 bytes:Nat
 z:List PV
 sm:Nat
 sk:Nat
 sy:Nat
 dE:Nat
 d0:Nat
 dA:Nat
 d1:Nat
def MA.ds(x:MA):List Nat:=[x.dE,x.d0,x.dA,x.d1]
structure aWS (P:Program) (ops:Array Oper) (x:MA):Prop where
 size:ops.size=x.n+5
 oE:∃o,ops[x.n]?=some o∧o.op=.mapEntry x.tm (.tmp x.sm) (.tmp x.sk)∧o.dst=some x.dE∧o.guard=none
 o0:∃o,ops[x.n+1]?=some o∧o.op=.extract (.tmp x.dE) 0∧o.dst=some x.d0∧o.guard=none
 oA:∃o,ops[x.n+2]?=some o∧o.op=.call { callee:=.builtin .append,args := #[.tmp x.d0,.tmp x.sy],argTypes := #[x.ts,x.ts] }∧o.dst=some x.dA∧o.guard=none
 o1:∃o,ops[x.n+3]?=some o∧o.op=.extract (.tmp x.dE) 1∧o.dst=some x.d1∧o.guard=none
 oS:∃o,ops[x.n+4]?=some o∧o.op=.entryStore x.tm (.tmp x.sm) (.tmp x.d1) (.tmp x.dA)∧o.dst=none∧o.guard=none
 back:∀i o,ops[i]?=some o→∀e∈o.after,Region.binds .any e=true→e.on<i
 w10:dR .any ops (x.n+1) x.n=true
 w21:dR .any ops (x.n+2) (x.n+1)=true
 w30:dR .any ops (x.n+3) x.n=true
 w42:dR .any ops (x.n+4) (x.n+2)=true
 w43:dR .any ops (x.n+4) (x.n+3)=true
 dE0:x.dE≠x.d0
 dEA:x.dE≠x.dA
 dE1:x.dE≠x.d1
 d0A:x.d0≠x.dA
 d01:x.d0≠x.d1
 dA1:x.dA≠x.d1
 smN:x.sm ∉ x.ds
 skN:x.sk ∉ x.ds
 syN:x.sy ∉ x.ds
 hm:AG P x.tm=some x.r
 ht:P.underlying x.ts=some (.slice x.r.2.1)
 hsz:dF P x.r.2.1=some x.r.2.2
 hby:jA P x.r.2.1=some x.bytes
 hz:iQ P x.r.2.1=some x.z
def aM0(ok:Value→Bool)(ty:TypeId)(sz:Nat)(g:Value→Nat×(Nat→Nat→PV))(kv:Value)(id:Nat)(h:List AO):List AO:=
 gE (.row ty sz (g kv).1 fun e o=>.p ((g kv).2 e o)) (upd (.mapl ok ty sz g (some (kv,.sl h.length sz 0 (g kv).1))) h id)
def aUV(ok:Value→Bool)(ty:TypeId)(sz:Nat)(g:Value→Nat×(Nat→Nat→PV))(kv:Value)(id:Nat)(h:List AO)(m:Nat)(gy:Nat→Nat→C):List AO:=
 gE (.row ty sz ((g kv).1+m) (fU (g kv).1 (fun e o=>.p ((g kv).2 e o)) gy)) (upd .gone (aM0 ok ty sz g kv id h) h.length)
structure MS (G:Nat→Option Obj) (x:MA) (ok:Value→Bool) (ty:TypeId) (sz:Nat) (g:Value→Nat×(Nat→Nat→PV)) (kv:Value) (id:Nat) (h:List AO) (m:Nat) (gy:Nat→Nat→C) (t:List V) (β0:Bt) (R0:Nat→Prop) (w0:World) (x0 xA x1:Bool) (a:Act) (w:World):Prop where
 ex:∃(β:Bt) (R:Nat→Prop) (b N:Nat) (v:Value) (s:Nat) (es:Array MapEntry) (clock j:Nat) (e:MapEntry),eJ G β R ⟨aE7 x.ds t,match xA with|true=>aUV ok ty sz g kv id h m gy|false=>aM0 ok ty sz g kv id h⟩ a w∧Fr β0 R0 w0 β R w∧(∀b,R0 b→R b)∧β id=some (b,N) ∧
   w.heap[b]?=some (.map es clock)∧sV es clock∧es.toList[j]?=some e∧e.key=kv∧e.born=s∧a.tmps[x.dE]?=some (.tuple #[v,.int .i64 (s:Nat)])∧(x0=true→a.tmps[x.d0]?=some v)∧(x1=true→a.tmps[x.d1]?=some (.int .i64 (s:Nat))) ∧
   (xA=false→CR β R w (.sl h.length sz 0 (g kv).1) v)∧(xA=true→∃u,a.tmps[x.dA]?=some u∧CR β R w (.sl (h.length+1) sz 0 ((g kv).1+m)) u)
variable {x:MA} {ops:Array Oper} {ok:Value→Bool} {ty:TypeId} {sz:Nat} {g:Value→Nat×(Nat→Nat→PV)} {kv:Value} {id:Nat} {h:List AO} {m:Nat} {gy:Nat→Nat→C} {t:List V} {β0:Bt} {R0:Nat→Prop} {w0 w:World} {a:Act} {Q:Exit→Act→World→Prop} {K:Act→World→Prop} {x0 xA x1:Bool}
def aQE:dD→Bool
 |.raw _=>true
 |_=>false
theorem aHD{ops:Array Oper}{draw:Bool}{c:dD}(hc:TY P ops draw=some c):aQE c=false:=by
 cases draw with
 |false=>
  simp only[TY,aI]at hc;obtain⟨al,_,rfl⟩:=hc;rfl
 |true=>
  simp only[TY]at hc;split at hc
  ·simp only[aE,aA,aG,aB]at hc
   obtain⟨al,_,hc⟩:=hc;split at hc
   ·injection hc with hc;subst hc;rfl
   ·split at hc
    ·injection hc with hc;subst hc;rfl
    ·cases hc
  ·cases hc
theorem lM.raw{id:Nat}{ops:Array Oper}{draw:Bool}{st:St}{K:X→St→Prop}(h:Ex P G (.region id ops draw) st K):lM P G (.raw (.region id ops draw)) st K:=by
 refine lM.core fun c hns hc=>?_
 cases c with
 |scope c'=>exact absurd rfl (hns c')
 |region id' ops' draw'=>
  simp only[dJ]at hc;split at hc
  ·rename_i c1 hc1
   injection hc with hc;subst hc;cases aHD hc1
  ·injection hc with hc
   injection hc with hc;injection hc with e1 e2 e3;subst e1;subst e2;subst e3;exact h
 |seq c1 c2=>cases h2:dJ P c1<;>cases h3:dJ P c2<;>simp[dJ,h2,h3]at hc
 |cond y c1 c2=>cases h1:cX y<;>cases h2:dJ P c1<;>cases h3:dJ P c2<;>simp[dJ,h1,h2,h3]at hc
 |block id c=>cases h1:dJ P c<;>simp[dJ,h1]at hc
 |loop c=>cases h1:dJ P c<;>simp[dJ,h1]at hc
 |_=>simp[dJ]at hc
end
open Go.Sort
section
variable {P:Program} {G:Nat→Option Obj} {β:Bt} {R:Nat→Prop} {w w':World} {h:List AO}
theorem GE(hh:HS G β R w h){id:Nat}{ty:TypeId}{sz n:Nat}{f f':Nat→Nat→C}(hid:aZ .gone h id=.row ty sz n f)(hf:∀e o,e<n→o<sz→f e o=f' e o):HS G β R w (upd (.row ty sz n f') h id):=by
 have hlid:=iM hid (by simp)
 have hl:∀i,(aZ .gone (upd (.row ty sz n f') h id) i).live=(aZ .gone h i).live:=fun i=>by
  by_cases e:id=i
  ·subst e;rw[eO _ _ _ hlid,hid];rfl
  ·rw[dC _ _ _ e]
 refine⟨?_,?_,?_,hh.lt,hh.rlt,?_,hh.gl,?_⟩
 ·intro i y hi;rw[fS,cD];exact hh.dom i y hi
 ·intro i j b o1 o2 hi hj li lj
  rw[hl]at li lj;exact hh.inj i j b o1 o2 hi hj li lj
 ·intro i b o hi li
  rw[hl]at li;exact hh.sep i b o hi li
 ·intro i b o hi
  by_cases e:id=i
  ·subst e
   rw[eO _ _ _ hlid]
   have:=hh.obj id b o hi
   rw[hid]at this;obtain⟨cs,h1,h2,h3,h4⟩:=this;exact⟨cs,h1,h2,h3,fun e k he hk=>by rw[←hf e k he hk];exact h4 e k he hk⟩
  ·rw[dC _ _ _ e];exact hh.obj i b o hi
 ·intro b ad hb
  obtain⟨h1,h2,h3⟩:=hh.ql b ad hb;exact⟨h1,h2,fun i o hi=>by rw[hl];exact h3 i o hi⟩
end
section
variable {P:Program} {G:Nat→Option Obj} {β:Bt} {R:Nat→Prop} {w w':World} {h:List AO} {st:St}
end
section
variable {P:Program} {G:Nat→Option Obj} {β:Bt} {R:Nat→Prop} {w:World} {h:List AO}
end
section
variable {P:Program} {G:Nat→Option Obj}
end
open Go.Proofs
def dP(n m:Int):Int:=(if n<0 then -(n+1) else n)%m
def OB:Mod
 |[.c (.p (.i .i64 n)),.c (.p (.i .i64 m))]=>some (inR .i64 n∧0<m,iV (dP n m))
 |_=>none
def fR:Ext:=kH []
def aH0:Ext:=kH [(6,OB)]
theorem aIC(n m:Int):exT fR (nY Tryz.prog Tryz.f6) (pZ Tryz.f6 [iV n,iV m]) (TM [] [] (bU Tryz.prog Tryz.f6))=bT (decide (n<0)) (.rq (inR aC (n+1)) (.rq (inR aC (-(n+1))) (.rq (0 ≤ -(n+1)∧0<m) (.done .ret (St.mk [V.c (C.p (PV.i aC (-(n+1)%m)))] [])))))
 (.rq (0≤n∧0<m) (.done .ret (St.mk [V.c (C.p (PV.i aC (n%m)))] []))):=by kernel_rfl
section
variable {G:Nat→Option Obj}
theorem aV{P:Program}:cF P G fR:=eB (by simp)
theorem RL:hO Tryz.prog G 6 OB:=by
 intro args p v hm hp h;unfold OB at hm;split at hm
 ·rename_i n m
  injection hm with hm;injection hm with e1 e2;subst e1;subst e2;obtain⟨hn,hm⟩:=hp;simp only[inR]at hn
  refine aV0 aV Tryz.func6 (by kernel_rfl) rfl (aIC n m) ?_ h
  simp only[eV,aX,XV,KF];refine⟨fun h1=>?_,fun h1=>?_⟩
  ·have h1:n<0:=by simpa using h1
   refine⟨by simp only[inR];omega,by simp only[inR];omega,by omega,_,rfl,lO.of_eq ?_⟩;unfold dP;rw[if_pos h1];rfl
  ·have h1:¬n<0:=by simpa using h1
   refine⟨by omega,_,rfl,lO.of_eq ?_⟩;unfold dP;rw[if_neg h1];rfl
 ·cases hm
theorem sO:cF Tryz.prog G aH0:=eB (by simp;exact RL)
end
end Go.AE
