import Derived.Test.YtfjihbmehhccoaaBC
import Derived.Sort.Row
import Derived.Sort.Grow
set_option linter.unusedVariables false
set_option linter.unusedSimpArgs false
namespace Go.AE
open _root_.Array renaming getElem?_eq_some_iff→bH,getElem?_toList→cR,replicate→iJ
open _root_.Bool renaming and_eq_true→aQ,or_eq_true→bU
open ChangeMaps renaming setBlock→cO
open _root_.List renaming getD_eq_getElem?_getD→aD,getElem?_append_left→cG,getElem?_append_right→cV,getElem?_eq_getElem→aK,getElem?_eq_none→cB,getElem?_eq_some_iff→aX,length_append→aL,length_set→cE,mem_cons→fC,mem_cons_of_mem→cN,mem_cons_self→cZ,mem_iff_getElem?→dO,mem_of_getElem?→cM,pairwise_iff_getElem→dZ,replicate→iI
open MapKept renaming run_getObj_map→fS,run_setObj_map→iZ
open _root_.Nat renaming add_zero→iD,beq→cA,ble→dV,ble_eq→eD,blt→gT,eq_of_beq_eq_true→aS,le_refl→aW,lt_of_lt_of_le→cJ,lt_or_ge→cL,mul_le_mul_right→bP,not_lt_zero→iH,zero_add→cK,zero_le→bX
open _root_.Option renaming bind_eq_bind→aV,bind_eq_some_iff→aM,isSome_iff_exists→eK,map_eq_some_iff→bD,pure_def→bE,some.injEq→aJ
open Region renaming binds→fR,ready→eH,waitsFor→cY,wanted→fK
open Value renaming int→cT
open Go.RowKit
section
variable {P:Program} {G:Nat→Option Obj}
def aUN(G:Nat→Option Obj)(h:List AO)(x v:V):Prop:=∀β R w u,HS G β R w h→VR β R w x u→VR Bt.nil (fun b=>b<w.heap.size) w v u
inductive aG8 (G:Nat→Option Obj) (h:List AO):List V→List V→Prop
 |nil:aG8 G h [] []
 |cons {x v:V} {xs vs:List V}:aUN G h x v→aG8 G h xs vs→aG8 G h (x::xs) (v::vs)
def b1(g N:Nat):Bt:=⟨fun i=>if i=0 then some (g,N) else none,fun _=>none⟩
theorem aOE{R:Nat→Prop}{w w':World}(hr:∀b,R b→b<w.heap.size)(hb:Below w.heap.size w w'){g N:Nat}(hg:w.heap.size≤g):Fr Bt.nil R w (b1 g N) R w':=
 ⟨hb.os,hb.tape,hb.output,hb.size,fun b h=>hb.block b (hr b h),fun b h _=>hb.block b h,(fun b h=>by
  rcases h with⟨i,o,h⟩|⟨ad,h⟩
  ·have h:(if i=0 then some (g,N) else none)=some (b,o):=h
   split at h
   ·injection h with h;injection h with h1 h2;exact .inr (h1▸hg)
   ·cases h
  ·cases h),fun _ h=>.inl h⟩
theorem aOA{β:Bt}{R:Nat→Prop}{w w':World}{h:List AO}(hh:HS G β R w h)(hb:Below w.heap.size w w'){g N:Nat}(hg:w.heap.size≤g)(hlt:g<w'.heap.size){x:AO}(hob:OR (b1 g N) R w' x g N):HS G (b1 g N) R w' [x]:=by
 have key:∀ {i:Nat} {y:Nat×Nat},b1 g N i=some y→i=0∧y=(g,N):=by
  intro i y hy
  have hy:(if i=0 then some (g,N) else none)=some y:=hy
  split at hy
  ·rename_i h0;injection hy with hy;exact⟨h0,hy.symm⟩
  ·cases hy
 refine⟨?_,?_,?_,?_,?_,?_,?_,(fun _ _ h=>by cases h)⟩
 ·intro i y hy;rw[(key hy).1];exact Nat.zero_lt_one
 ·intro i j b o o' hi hj _ _;rw[(key hi).1,(key hj).1]
 ·intro i b o hi _ hr
  have:=(key hi).2
  injection this with h1 h2
  have:=hh.rlt b hr
  omega
 ·intro i b o hi
  have:=(key hi).2
  injection this with h1 h2;omega
 ·intro b hr;exact cJ (hh.rlt b hr) hb.size
 ·intro i b o hi
  obtain⟨h1,h2⟩:=key hi;injection h2 with h2 h3;subst h1;subst h2;subst h3;exact hob
 ·intro b o hgb
  obtain⟨h1,h2⟩:=hh.gl b o hgb;exact⟨h1,(hb.block b (hh.rlt b h1)).trans h2⟩
end
section
variable {P:Program} {G:Nat→Option Obj}
end
section
variable {P:Program} {G:Nat→Option Obj} {β:Bt} {R:Nat→Prop} {w:World} {st:St}
theorem tQ{h h':List AO}(hh:HS G β R w h){β':Bt}{R':Nat→Prop}(hlen:h.length≤h'.length)(hf:∀i x,β' i=some x→i<h'.length)(hrm:∀b,R b→R' b)(hrlt:∀b,R' b→b<w.heap.size)
  (hinj:∀i j b o o',β' i=some (b,o)→β' j=some (b,o')→(bC .gone h' i).live=true→(bC .gone h' j).live=true→i=j) (hsep:∀i b o,β' i=some (b,o)→(bC .gone h' i).live=true→¬R' b)
  (hlt:∀i b o,β' i=some (b,o)→b<w.heap.size) (hobj:∀i b o,β' i=some (b,o)→OR β' R' w (bC .gone h' i) b o)
  (hql:∀b ad,β'.q b=some ad→b<w.heap.size∧¬R' b∧∀i o,β' i=some (b,o)→(bC .gone h' i).live=false):HS G β' R' w h':=
 ⟨hf,hinj,hsep,hlt,hrlt,hobj,fun b o hb=>⟨hrm b (hh.gl b o hb).1,(hh.gl b o hb).2⟩,hql⟩
def ZO(β:Bt)(b:Nat)(x:Option (Nat×Nat)):Bt:=⟨β.f,fun b1=>if b1=b then x else β.q b1⟩
theorem IP(β:Bt)(b:Nat)(x:Option (Nat×Nat)):(ZO β b x).q b=x:=by simp[ZO]
theorem oK{β:Bt}{b b1:Nat}(x:Option (Nat×Nat))(h:b1≠b):(ZO β b x).q b1=β.q b1:=by simp[ZO,h]
theorem pD{j id:Nat}{ty:TypeId}{sz n off len:Nat}{f:Nat→Nat→C}(ht:bC (.c .top) st.t j=.c (.sl id sz off len))(hid:bC .gone st.h id=.row ty sz n f)(hn:off+len≤n)(hf:∀e o,e<len→o<sz→BZ (f (e+off) o)=true) :
  cW G st ⟨eT (.c (.p (.l sz len fun e o=>mZ (f (e+off) o)))) st.t j,eT .gone st.h id⟩:=by
 intro β R a w hs
 have hh:=hs.hs
 have hlid:=fZ hid (by simp)
 let own:Nat→Prop:=fun b1=>(∃N,β id=some (b1,N))∨∃b N k,β id=some (b,N)∧β.q b1=some (b,k)
 let R':Nat→Prop:=fun b1=>R b1∨own b1
 open Classical in
 let β':Bt:=⟨β.f,fun b1=>if own b1 then none else β.q b1⟩
 have hq':∀b2 ad,β'.q b2=some ad→¬own b2∧β.q b2=some ad:=by
  intro b2 ad h
  have h:(if own b2 then none else β.q b2)=some ad:=h
  split at h
  ·cases h
  ·rename_i h1;exact⟨h1,h⟩
 have hq2:∀b2 ad,¬own b2→β.q b2=some ad→β'.q b2=some ad:=by
  intro b2 ad h1 h2
  show (if own b2 then none else β.q b2)=some ad
  rw[if_neg h1];exact h2
 have hkp:iX β R w β' R' w:=⟨fun _ _ h=>h,fun _ h=>.inl h,fun _ _=>rfl⟩
 have hlive:(bC .gone st.h id).live=true:=by rw[hid];rfl
 have hl2:∀i,(bC .gone (eT .gone st.h id) i).live=true→i≠id∧(bC .gone st.h i).live=true:=fun i hl=>lO hl
 have hlf:∀i,(bC .gone st.h i).live=false→(bC .gone (eT .gone st.h id) i).live=false:=fun i hl=>by
  by_cases e:id=i
  ·subst e;rw[eA _ _ _ hlid];rfl
  ·rw[cP _ _ _ e];exact hl
 have hown_live:∀i b o,β i=some (b,o)→(bC .gone (eT .gone st.h id) i).live=true→¬own b:=by
  intro i b o hi hl;obtain⟨k1,k2⟩:=hl2 i hl;rintro (⟨N,h1⟩|⟨b0,N,k,h1,h2⟩)
  ·exact k1 (hh.inj i id b o N hi h1 k2 hlive)
  ·have:=(hh.ql b _ h2).2.2 i o hi
   rw[k2]at this;cases this
 have hval:∀u,VR β R w (.c (.sl id sz off len)) u→PR R' w (.l sz len fun e o=>mZ (f (e+off) o)) u:=by
  rintro u ⟨A,c,rfl,g1,g2,g3⟩;refine⟨A,c,rfl,g1,g2,fun hn0=>?_⟩
  rcases g3 with⟨_,g4,_⟩|⟨b,o0,g4,rfl,g7⟩
  ·omega
  ·have hob:=hh.obj id b o0 g4
   rw[hid]at hob;obtain⟨cs,g8,g80,g9,g10⟩:=hob;refine⟨_,rfl,.inr (.inl ⟨o0,g4⟩),fun e q he hq=>?_⟩;obtain⟨u,h5,h6⟩:=g10 (e+off) q (by omega) hq;refine⟨u,?_,?_⟩
   ·rw[add_mid,cell_of_row w b _ cs ty (0,0) g8,←h5]
    congr 1;rw[Nat.add_mul];omega
   ·have:=hf e q he hq
    show PR R' w (mZ (f (e+off) q)) u
    cases hfe:f (e+off) q with
    |p x=>
     rw[hfe]at h6;exact PR.keep (fun _ h=>.inl h) (fun _ _=>rfl) _ h6
    |own ty2 sz2 n2 f2=>
     rw[hfe]at h6;obtain⟨A,c,k1,k2,k3,k4⟩:=h6;refine⟨A,c,k1,k2,k3,fun hn=>?_⟩
     rcases k4 with⟨_,k5,_⟩|⟨b2,cs2,k5,k6,k7,k8,k9⟩
     ·omega
     ·refine⟨_,k5,.inr (.inr ⟨b,o0,_,g4,k6⟩),fun e2 o2 he2 ho2=>?_⟩
      obtain⟨u2,r1,r2⟩:=k9 e2 o2 he2 ho2;exact⟨u2,by rw[add_mid,cell_of_row w b2 _ cs2 ty2 (0,0) k7,cK];exact r1,PR.keep (fun _ h=>.inl h) (fun _ _=>rfl) _ r2⟩
    |_=>rw[hfe]at this;cases this
 have hHS:HS G β' R' w (eT .gone st.h id):=by
  refine tQ hh (by rw[eV,cE];exact aW _) (fun i x hi=>by rw[eV,cE];exact hh.dom i x hi) (fun _ h=>.inl h) ?_ ?_ ?_ hh.lt ?_ ?_
  ·rintro b (h1|⟨N,h1⟩|⟨b0,N,k,h1,h2⟩)
   ·exact hh.rlt b h1
   ·exact hh.lt id b N h1
   ·exact(hh.ql b _ h2).1
  ·intro i j b o o' hi hj li lj
   exact hh.inj i j b o o' hi hj (hl2 i li).2 (hl2 j lj).2
  ·rintro i b o hi li (h1|h1)
   ·exact hh.sep i b o hi (hl2 i li).2 h1
   ·exact hown_live i b o hi li h1
  ·intro i b o hi
   cases hl:(bC .gone (eT .gone st.h id) i).live with
   |false=>exact OR.dead_gone hkp hl (hh.obj i b o hi)
   |true=>
    obtain⟨k1,k2⟩:=hl2 i hl;rw[cP _ _ _ (fun e=>k1 e.symm)];refine OR.keep hkp (fun b1 k h1=>⟨hq2 b1 _ ?_ h1,rfl⟩) rfl (hh.obj i b o hi);rintro (⟨N,h2⟩|⟨b0,N,k',h2,h3⟩)
    ·have:=(hh.ql b1 _ h1).2.2 id N h2
     rw[hlive]at this;cases this
    ·rw[h1]at h3;injection h3 with h3;injection h3 with h3 _
     exact k1 (hh.inj i id b o N hi (h3▸h2) k2 hlive)
  ·intro b2 ad hq
   obtain⟨k1,k2⟩:=hq' b2 ad hq;obtain⟨q1,q2,q3⟩:=hh.ql b2 ad k2;exact⟨q1,fun h=>h.elim q2 k1,fun i o hi=>hlf i (q3 i o hi)⟩
 refine⟨β',R',⟨hs.df,?_,hHS⟩,⟨rfl,rfl,rfl,aW _,fun _ _=>rfl,fun _ _ _=>rfl,?_,?_⟩,fun _ h=>.inl h⟩
 ·have h1:iB G β' R' ⟨st.t,eT .gone st.h id⟩ a w:=⟨hs.df,hs.tm.mono fun _ _=>VR.keep hkp,hHS⟩
  have h0:=hs.tm
  show dJ (VR β' R' w) (eT (.c (.p (.l sz len fun e o=>mZ (f (e+off) o)))) st.t j) a.tmps.toList
  have h2:∀(xs:List V) (ys:List Value) (j:Nat),bC (.c .top) xs j=.c (.sl id sz off len)→dJ (VR β R w) xs ys→dJ (VR β' R' w) (eT (.c (.p (.l sz len fun e o=>mZ (f (e+off) o)))) xs j) ys:=by
   intro xs;induction xs with
   |nil=>intro ys j _ h;cases ys<;>exact h
   |cons x xs ih=>
    intro ys j hj h;cases ys with
    |nil=>exact h.elim
    |cons y ys=>
     cases j with
     |zero=>
      have hj:x=.c (.sl id sz off len):=hj
      subst hj;exact⟨hval y h.1,h.2.mono fun _ _=>VR.keep hkp⟩
     |succ j=>exact⟨VR.keep hkp h.1,ih ys j hj h.2⟩
  exact h2 st.t a.tmps.toList j ht h0
 ·rintro b2 (⟨i,o,hi⟩|⟨ad,hq⟩)
  ·exact .inl (.inl ⟨i,o,hi⟩)
  ·exact .inl (.inr ⟨ad,(hq' b2 ad hq).2⟩)
 ·rintro b (h1|⟨N,h1⟩|⟨b0,N,k,h1,h2⟩)
  ·exact .inl h1
  ·exact .inr (.inl (.inl ⟨id,N,h1⟩))
  ·exact .inr (.inl (.inr ⟨_,h2⟩))
theorem aJV(c:dQ):eZ c≠[]:=by
 induction c with
 |seq a b iha _=>
  simp only[eZ];cases h:eZ a with
  |nil=>exact absurd h iha
  |cons x r=>simp[rS]
 |_=>simp[eZ]
theorem GQ:∀ {a b pre:List dQ} {x:dQ},b≠[]→rS a b=rS pre [x]→∃pb,b=rS pb [x]∧pre=rS a pb
 |[],b,pre,x,_,h=>⟨pre,h,rfl⟩
 |c::a,b,[],x,hb,h=>by
  simp only[rS,List.cons.injEq]at h;cases a with
  |nil=>exact absurd h.2 hb
  |cons _ _=>simp[rS]at h
 |c::a,b,p::pre,x,hb,h=>by
  simp only[rS,List.cons.injEq]at h;obtain⟨pb,h1,h2⟩:=GQ hb h.2;exact⟨pb,h1,by rw[h.1,h2];rfl⟩
def vF:V:=.c (.lp 0 0 (fun _ _=>.b true) 0 0)
theorem aNR{G:Nat→Option Obj}{K:X→St→Prop}{st:St}(h:RK P G [] vF K .ret st):False:=by
 obtain⟨x,h1,h2⟩:=h
 have h1:[GZ []]=[x]:=h1
 injection h1 with h1 _
 have:=h2 Bt.nil (fun _=>False) (default:World) (.tuple #[]) (by rw[←h1];exact⟨#[],rfl,trivial⟩)
 obtain⟨ad,_,h3,_⟩:=this;exact absurd h3 (Nat.lt_irrefl 0)
theorem eG.toRet{G:Nat→Option Obj}:∀ {c:dQ} {pre:List dQ} {st:St} {Q:X→St→Prop} {K:X→St→Prop},eZ c=rS pre [.ret]→eG P G [] vF pre st Q→(∀st,Q .normal st→K .ret st)→(∀id st,Q (.exit id) st→K (.exit id) st)→kM P G c st K:=by
 intro c;induction c with
 |seq a b iha ihb=>
  intro pre st Q K hf h hk hx;obtain⟨pb,h1,rfl⟩:=GQ (aJV b) hf
  have h2:=eG.code (eG.cut h)
  refine kM.seq h2 (fun st' hq=>ihb h1 hq hk hx) (fun e st' he hq=>?_);cases e with
  |normal=>exact absurd rfl he
  |exit id=>exact hx id st' hq
  |ret=>exact(aNR hq).elim
 |ret=>
  intro pre st Q K hf h hk hx;cases pre with
  |nil=>
   obtain⟨st2,h1,h2⟩:=h;refine kM.pre h1 ?_;exact kM.ev (ext:=kH []) (eC (by simp)) (ac:=.ret) (st:=st2) (k:=fun e s=>.done e s) (K:=K) (hk _ h2)
  |cons p pre=>cases pre<;>simp[eZ,rS]at hf
 |_=>
  intro pre st Q K hf;cases pre with
  |nil=>simp[eZ,rS]at hf
  |cons p pre=>cases pre<;>simp[eZ,rS]at hf
theorem MM{G:Nat→Option Obj}{f:FuncId}{fn:Func}{r:Nat}{ty:TypeId}{sz n:Nat}{F:Nat→Nat→PV}{pre:List dQ}(hf:P.funcs[f]?=some fn)(hok:TF P fn=true)(hr:fn.results.toList=[.tmp r])(hpre:dC P fn=rS pre [.ret]){args:List V}(hp:nV args=true)
  (h:eG P G [] vF pre (oB fn args) fun e st=>e=.normal∧MW r ty sz n F .ret st) (h0:List AO) :
  jW P G f args h0 fun x h'=>x=.c (.sl (fG h0) sz 0 n)∧h'=fB (.row ty sz n fun e o=>.p (F e o)) h0:=
 aOF hf hok hr hp (eG.toRet hpre h (fun _ hq=>hq.2) (fun _ _ hq=>by cases hq.1)) h0
theorem oR{p q:Tr}{K:X→St→Prop}:(Tr.alt p q).holds P G K↔p.holds P G K∧q.holds P G K:=Iff.rfl
theorem HW{j:Nat}{y:V}(h:iE (bC (.c .top) st.t j) y):cW G st ⟨eT y st.t j,st.h⟩:=fun β R a w hs=>
 ⟨β,R,iB.same hs (fun u hu=>h β R w u hu),Fr.refl _ _ _,fun _ hb=>hb⟩
theorem HX{id:Nat}{ty:TypeId}{sz n:Nat}{f f':Nat→Nat→C}(hid:bC .gone st.h id=.row ty sz n f)(h:∀e o,e<n→o<sz→∀(β:Bt) (R:Nat→Prop) (w:World) ad u,oU β R w ad (f e o) u→oU β R w ad (f' e o) u) :
  cW G st ⟨st.t,eT (.row ty sz n f') st.h id⟩:=by
 intro β R a w hs
 have hh:=hs.hs
 have hlid:=fZ hid (by simp)
 have hlv:∀i,(bC .gone (eT (.row ty sz n f') st.h id) i).live=(bC .gone st.h i).live:=fun i=>by
  by_cases e:id=i
  ·subst e;rw[eA _ _ _ hlid,hid];rfl
  ·rw[cP _ _ _ e]
 refine⟨β,R,⟨hs.df,hs.tm,?_⟩,Fr.refl _ _ _,fun _ hb=>hb⟩;refine tQ hh (by rw[eV,cE];exact aW _) (fun i x hi=>by rw[eV,cE];exact hh.dom i x hi) (fun _ h=>h) hh.rlt ?_ ?_ hh.lt ?_ ?_
 ·intro i j b o o' hi hj li lj
  rw[hlv]at li lj;exact hh.inj i j b o o' hi hj li lj
 ·intro i b o hi li
  rw[hlv]at li;exact hh.sep i b o hi li
 ·intro i b o hi
  by_cases e:id=i
  ·subst e
   rw[eA _ _ _ hlid]
   have hob:=hh.obj id b o hi
   rw[hid]at hob;obtain⟨cs,g1,g2,g3,g4⟩:=hob;refine⟨cs,g1,g2,g3,fun e k he hk=>?_⟩;obtain⟨u,u1,u2⟩:=g4 e k he hk;exact⟨u,u1,h e k he hk _ _ _ _ _ u2⟩
  ·rw[cP _ _ _ e]
   exact hh.obj i b o hi
 ·intro b ad hq
  obtain⟨q1,q2,q3⟩:=hh.ql b ad hq;exact⟨q1,q2,fun i o hi=>by rw[hlv];exact q3 i o hi⟩
end
section
variable {P:Program} {G:Nat→Option Obj} {β:Bt} {R:Nat→Prop} {w:World} {st:St}
theorem vP(ty:TypeId)(sz:Nat)(f:Nat→Nat→C){id k:Nat}{t0:TypeId}{vs:List C}(hid:bC .gone st.h id=.cells t0 vs)(hk:bC .top vs k=.p (.z (.slice none 0 0))) :
  cW G st ⟨st.t,fB (.row ty sz 0 f) (eT (.cells t0 (eT (.sl (fG st.h) sz 0 0) vs k)) st.h id)⟩:=by
 intro β R a w hs
 have hh:=hs.hs
 have hlid:=fZ hid (by simp)
 have hlenu:∀x:AO,(eT x st.h id).length=st.h.length:=fun x=>by rw[eV];simp
 have hnth:∀i x,β i=some x→bC .gone (fB (.row ty sz 0 f) (eT (.cells t0 (eT (.sl (fG st.h) sz 0 0) vs k)) st.h id)) i=bC .gone (eT (.cells t0 (eT (.sl (fG st.h) sz 0 0) vs k)) st.h id) i:=fun i x hi=>fM _ _ _ (by rw[hlenu];exact hh.dom i x hi)
 have hlv:∀i x,β i=some x→(bC .gone (fB (.row ty sz 0 f) (eT (.cells t0 (eT (.sl (fG st.h) sz 0 0) vs k)) st.h id)) i).live=(bC .gone st.h i).live:=fun i x hi=>by
  rw[hnth i x hi]
  by_cases e:id=i
  ·subst e;rw[eA _ _ _ hlid,hid];rfl
  ·rw[cP _ _ _ e]
 refine⟨β,R,⟨hs.df,hs.tm,?_⟩,Fr.refl _ _ _,fun _ hb=>hb⟩;refine tQ hh (by rw[kK];simp[hlenu]) (fun i x hi=>by rw[kK];have:=hh.dom i x hi;simp[hlenu];omega) (fun _ h=>h) hh.rlt ?_ ?_ hh.lt ?_ ?_
 ·intro i j b o o' hi hj li lj
  rw[hlv i _ hi]at li;rw[hlv j _ hj]at lj;exact hh.inj i j b o o' hi hj li lj
 ·intro i b o hi li
  rw[hlv i _ hi]at li;exact hh.sep i b o hi li
 ·intro i b o hi
  rw[hnth i _ hi]
  by_cases e:id=i
  ·subst e
   rw[eA _ _ _ hlid]
   have hob:=hh.obj id b o hi
   rw[hid]at hob;obtain⟨cs,g1,g2⟩:=hob;refine⟨cs,g1,?_⟩;clear hlv hnth hid hi
   generalize cs.toList=us at g2
   induction vs generalizing k us with
   |nil=>exact g2
   |cons v vs ih=>
    cases us with
    |nil=>exact g2.elim
    |cons u us=>
     cases k with
     |zero=>
      have hk:v=.p (.z (.slice none 0 0)):=hk
      subst hk;refine⟨?_,g2.2⟩
      have h1:u=.slice none 0 0:=g2.1
      exact⟨none,0,h1,aW _,bX _,.inl ⟨.inl rfl,rfl,rfl⟩⟩
     |succ k=>exact⟨g2.1,ih hk us g2.2⟩
  ·rw[cP _ _ _ e]
   exact hh.obj i b o hi
 ·intro b ad hq
  obtain⟨q1,q2,q3⟩:=hh.ql b ad hq;exact⟨q1,q2,fun i o hi=>by rw[hlv i _ hi];exact q3 i o hi⟩
end
section
variable {P:Program} {G:Nat→Option Obj}
theorem zE{β:Bt}{R:Nat→Prop}{w:World}{h:List AO}(hh:HS G β R w h){id:Nat}{ty:TypeId}{sz n:Nat}{f:Nat→Nat→C}(hid:bC .gone h id=.row ty sz n f)(hf:∀e o,e<n→o<sz→BZ (f e o)=true) :
  ∃β' R',HS G β' R' w (eT .gone h id)∧Gr β R w β' R' w∧(∀i,β' i=β i)∧∀off len u,off+len≤n→CR β R w (.sl id sz off len) u→PR R' w (.l sz len fun e o=>mZ (f (e+off) o)) u:=by
 have hlid:=fZ hid (by simp)
 let own:Nat→Prop:=fun b1=>(∃N,β id=some (b1,N))∨∃b N k,β id=some (b,N)∧β.q b1=some (b,k)
 let R':Nat→Prop:=fun b1=>R b1∨own b1
 open Classical in
 let β':Bt:=⟨β.f,fun b1=>if own b1 then none else β.q b1⟩
 have hq':∀b2 ad,β'.q b2=some ad→¬own b2∧β.q b2=some ad:=by
  intro b2 ad h
  have h:(if own b2 then none else β.q b2)=some ad:=h
  split at h
  ·cases h
  ·rename_i h1;exact⟨h1,h⟩
 have hq2:∀b2 ad,¬own b2→β.q b2=some ad→β'.q b2=some ad:=by
  intro b2 ad h1 h2
  show (if own b2 then none else β.q b2)=some ad
  rw[if_neg h1];exact h2
 have hkp:iX β R w β' R' w:=⟨fun _ _ h=>h,fun _ h=>.inl h,fun _ _=>rfl⟩
 have hlive:(bC .gone h id).live=true:=by rw[hid];rfl
 have hl2:∀i,(bC .gone (eT .gone h id) i).live=true→i≠id∧(bC .gone h i).live=true:=fun i hl=>lO hl
 have hlf:∀i,(bC .gone h i).live=false→(bC .gone (eT .gone h id) i).live=false:=fun i hl=>by
  by_cases e:id=i
  ·subst e;rw[eA _ _ _ hlid];rfl
  ·rw[cP _ _ _ e];exact hl
 have hown_live:∀i b o,β i=some (b,o)→(bC .gone (eT .gone h id) i).live=true→¬own b:=by
  intro i b o hi hl;obtain⟨k1,k2⟩:=hl2 i hl;rintro (⟨N,h1⟩|⟨b0,N,k,h1,h2⟩)
  ·exact k1 (hh.inj i id b o N hi h1 k2 hlive)
  ·have:=(hh.ql b _ h2).2.2 i o hi
   rw[k2]at this;cases this
 have hval:∀off len u,off+len≤n→CR β R w (.sl id sz off len) u→PR R' w (.l sz len fun e o=>mZ (f (e+off) o)) u:=by
  rintro off len u hn ⟨A,c,rfl,g1,g2,g3⟩;refine⟨A,c,rfl,g1,g2,fun hn0=>?_⟩
  rcases g3 with⟨_,g4,_⟩|⟨b,o0,g4,rfl,g7⟩
  ·omega
  ·have hob:=hh.obj id b o0 g4
   rw[hid]at hob;obtain⟨cs,g8,g80,g9,g10⟩:=hob;refine⟨_,rfl,.inr (.inl ⟨o0,g4⟩),fun e q he hq=>?_⟩;obtain⟨u,h5,h6⟩:=g10 (e+off) q (by omega) hq;refine⟨u,?_,?_⟩
   ·rw[add_mid,cell_of_row w b _ cs ty (0,0) g8,←h5]
    congr 1;rw[Nat.add_mul];omega
   ·have:=hf (e+off) q (by omega) hq
    show PR R' w (mZ (f (e+off) q)) u
    cases hfe:f (e+off) q with
    |p x=>
     rw[hfe]at h6;exact PR.keep (fun _ h=>.inl h) (fun _ _=>rfl) _ h6
    |own ty2 sz2 n2 f2=>
     rw[hfe]at h6;obtain⟨A,c,k1,k2,k3,k4⟩:=h6;refine⟨A,c,k1,k2,k3,fun hn=>?_⟩
     rcases k4 with⟨_,k5,_⟩|⟨b2,cs2,k5,k6,k7,k8,k9⟩
     ·omega
     ·refine⟨_,k5,.inr (.inr ⟨b,o0,_,g4,k6⟩),fun e2 o2 he2 ho2=>?_⟩
      obtain⟨u2,r1,r2⟩:=k9 e2 o2 he2 ho2;exact⟨u2,by rw[add_mid,cell_of_row w b2 _ cs2 ty2 (0,0) k7,cK];exact r1,PR.keep (fun _ h=>.inl h) (fun _ _=>rfl) _ r2⟩
    |_=>rw[hfe]at this;cases this
 have hHS:HS G β' R' w (eT .gone h id):=by
  refine tQ hh (by rw[eV,cE];exact aW _) (fun i x hi=>by rw[eV,cE];exact hh.dom i x hi) (fun _ h=>.inl h) ?_ ?_ ?_ hh.lt ?_ ?_
  ·rintro b (h1|⟨N,h1⟩|⟨b0,N,k,h1,h2⟩)
   ·exact hh.rlt b h1
   ·exact hh.lt id b N h1
   ·exact(hh.ql b _ h2).1
  ·intro i j b o o' hi hj li lj
   exact hh.inj i j b o o' hi hj (hl2 i li).2 (hl2 j lj).2
  ·rintro i b o hi li (h1|h1)
   ·exact hh.sep i b o hi (hl2 i li).2 h1
   ·exact hown_live i b o hi li h1
  ·intro i b o hi
   cases hl:(bC .gone (eT .gone h id) i).live with
   |false=>exact OR.dead_gone hkp hl (hh.obj i b o hi)
   |true=>
    obtain⟨k1,k2⟩:=hl2 i hl;rw[cP _ _ _ (fun e=>k1 e.symm)];refine OR.keep hkp (fun b1 k h1=>⟨hq2 b1 _ ?_ h1,rfl⟩) rfl (hh.obj i b o hi);rintro (⟨N,h2⟩|⟨b0,N,k',h2,h3⟩)
    ·have:=(hh.ql b1 _ h1).2.2 id N h2
     rw[hlive]at this;cases this
    ·rw[h1]at h3;injection h3 with h3;injection h3 with h3 _
     exact k1 (hh.inj i id b o N hi (h3▸h2) k2 hlive)
  ·intro b2 ad hq
   obtain⟨k1,k2⟩:=hq' b2 ad hq;obtain⟨q1,q2,q3⟩:=hh.ql b2 ad k2;exact⟨q1,fun h=>h.elim q2 k1,fun i o hi=>hlf i (q3 i o hi)⟩
 refine⟨β',R',hHS,⟨⟨rfl,rfl,rfl,aW _,fun _ _=>rfl,fun _ _ _=>rfl,?_,?_⟩,fun _ _ h=>h,fun _ h=>.inl h⟩,fun _=>rfl,hval⟩
 ·rintro b2 (⟨i,o,hi⟩|⟨ad,hq⟩)
  ·exact .inl (.inl ⟨i,o,hi⟩)
  ·exact .inl (.inr ⟨ad,(hq' b2 ad hq).2⟩)
 ·rintro b (h1|⟨N,h1⟩|⟨b0,N,k,h1,h2⟩)
  ·exact .inl h1
  ·exact .inr (.inl (.inl ⟨id,N,h1⟩))
  ·exact .inr (.inl (.inr ⟨_,h2⟩))
def fzC(id:Nat)(f:Nat→Nat→C):C→C
 |.sl i s off len=>if i=id then .p (.l s len fun e o=>mZ (f (e+off) o)) else .sl i s off len
 |x=>x
def fzV(id:Nat)(f:Nat→Nat→C):V→V
 |.c x=>.c (fzC id f x)
 |.a cs=>.a (cs.map (fzC id f))
 |.t vs=>.t vs
def aOM(id sz n:Nat):C→Prop
 |.sl i s off len=>if i=id then s=sz∧off+len≤n else True
 |_=>True
def aFP(id sz n:Nat):List C→Prop
 |[]=>True
 |x::r=>aOM id sz n x∧aFP id sz n r
def aR3(id sz n:Nat):V→Prop
 |.c x=>aOM id sz n x
 |.a cs=>aFP id sz n cs
 |.t _=>True
def GJ(id sz n:Nat):List V→Prop
 |[]=>True
 |x::r=>aR3 id sz n x∧GJ id sz n r
def aF7(m:Mod):List Nat→kD
 |[],args,h=>match m args with
  |some (p,v)=>some (p,v,h)
  |none=>none
 |id::r,args,h=>match bC .gone h id with
  |.row _ sz n f=>match aF7 m r (args.map (fzV id f)) (eT .gone h id) with
   |some (p,v,h')=>some ((GJ id sz n args∧∀e o,e<n→o<sz→BZ (f e o)=true)∧p,v,h')
   |none=>none
  |_=>none
def slC:C→List Nat
 |.sl i _ _ _=>[i]
 |_=>[]
def aQA:List C→List Nat
 |[]=>[]
 |x::r=>slC x++aQA r
def aCE:List V→List Nat
 |[]=>[]
 |.c x::r=>slC x++aCE r
 |.a cs::r=>aQA cs++aCE r
 |.t _::r=>aCE r
def aOD(m:Mod):kD:=fun args h=>aF7 m (aCE args).eraseDups args h
theorem aF6{β β':Bt}{R R':Nat→Prop}{w:World}{id sz n:Nat}{f:Nat→Nat→C}(hk:iX β R w β' R' w)
  (hval:∀off len u,off+len≤n→CR β R w (.sl id sz off len) u→PR R' w (.l sz len fun e o=>mZ (f (e+off) o)) u) {x:C} {u:Value} (hc:aOM id sz n x) (h:CR β R w x u):CR β' R' w (fzC id f x) u:=by
 unfold fzC;split
 ·rename_i i s off len
  split
  ·rename_i e
   subst e
   have hc:if i=i then s=sz∧off+len≤n else True:=hc
   rw[if_pos rfl]at hc;obtain⟨rfl,h2⟩:=hc;exact hval off len u h2 h
  ·exact CR.keep hk h
 ·exact CR.keep hk h
theorem XT{β β':Bt}{R R':Nat→Prop}{w:World}{id sz n:Nat}{f:Nat→Nat→C}(hk:iX β R w β' R' w)
  (hval:∀off len u,off+len≤n→CR β R w (.sl id sz off len) u→PR R' w (.l sz len fun e o=>mZ (f (e+off) o)) u):∀ {cs:List C} {us:List Value},aFP id sz n cs→dJ (CR β R w) cs us→dJ (CR β' R' w) (cs.map (fzC id f)) us
 |[],[],_,_=>trivial
 |[],_::_,_,h=>h.elim
 |_::_,[],_,h=>h.elim
 |_::_,_::_,hc,h=>⟨aF6 hk hval hc.1 h.1,XT hk hval hc.2 h.2⟩
theorem aOC{β β':Bt}{R R':Nat→Prop}{w:World}{id sz n:Nat}{f:Nat→Nat→C}(hk:iX β R w β' R' w)
  (hval:∀off len u,off+len≤n→CR β R w (.sl id sz off len) u→PR R' w (.l sz len fun e o=>mZ (f (e+off) o)) u) {x:V} {u:Value} (hc:aR3 id sz n x) (h:VR β R w x u):VR β' R' w (fzV id f x) u:=by
 cases x with
 |c x=>exact aF6 hk hval hc h
 |a cs=>obtain⟨us,h1,h2⟩:=h;exact⟨us,h1,XT hk hval hc h2⟩
 |t vs=>exact VR.keep hk h
theorem ML{β β':Bt}{R R':Nat→Prop}{w:World}{id sz n:Nat}{f:Nat→Nat→C}(hk:iX β R w β' R' w)
  (hval:∀off len u,off+len≤n→CR β R w (.sl id sz off len) u→PR R' w (.l sz len fun e o=>mZ (f (e+off) o)) u):∀ {xs:List V} {us:List Value},GJ id sz n xs→dJ (VR β R w) xs us→dJ (VR β' R' w) (xs.map (fzV id f)) us
 |[],[],_,_=>trivial
 |[],_::_,_,h=>h.elim
 |_::_,[],_,h=>h.elim
 |_::_,_::_,hc,h=>⟨aOC hk hval hc.1 h.1,ML hk hval hc.2 h.2⟩
theorem XU{fn:FuncId}{m:Mod}(hm:iW P G fn m):∀ids,gG P G fn (aF7 m ids)
 |[]=>by
  intro args h p v h' he hp;unfold aF7 at he;split at he
  ·rename_i p' v' hq
   injection he with he;injection he with e1 he;injection he with e2 e3;subst e1;subst e2;subst e3;exact hm args _ _ hq hp _
  ·cases he
 |id::r=>by
  intro args h p v h' he hp;unfold aF7 at he;split at he
  ·rename_i ty sz n f hid
   split at he
   ·rename_i p' v' h2 hq
    injection he with he;injection he with e1 he;injection he with e2 e3;subst e1;subst e2;subst e3;obtain⟨⟨hc,hf⟩,hp⟩:=hp;intro β R w vs ha hh
    obtain⟨β',R',k1,k2,k3,k4⟩:=zE hh hid hf
    have ih:=XU hm r _ _ _ _ _ hq hp β' R' w vs (ML k2.keeps k4 hc ha) k1
    refine ih.mono ?_;rintro e w' ⟨u,β2,R2,x,h3,q1,q2,q3,q4,q5,q6⟩;refine⟨u,β2,R2,x,h3,q1,q2,q3,q4,k2.trans q5,fun i hi=>?_⟩;rw[q6 i (by rw[eV,cE];exact hi),k3 i]
   ·cases he
  ·cases he
theorem XW{fn:FuncId}{m:Mod}(hm:iW P G fn m):gG P G fn (aOD m):=fun args h=>XU hm _ args h
end
def aJS(id sz:Nat)(F:Nat→Nat→PV):C→C
 |.sl i s off len=>match cA i id&&cA s sz with
  |true=>.p (.l sz len fun e o=>F (e+off) o)
  |false=>.sl i s off len
 |x=>x
def XR(id sz:Nat)(F:Nat→Nat→PV):List C→List C
 |[]=>[]
 |x::r=>aJS id sz F x::XR id sz F r
def aUF(id sz:Nat)(F:Nat→Nat→PV):V→V
 |.c x=>.c (aJS id sz F x)
 |.a cs=>.a (XR id sz F cs)
 |.t vs=>.t vs
def aOB(id sz:Nat)(F:Nat→Nat→PV):List V→List V
 |[]=>[]
 |x::r=>aUF id sz F x::aOB id sz F r
def aJR(id sz:Nat)(F:Nat→Nat→PV):AO→AO
 |.cells ty vs=>.cells ty (XR id sz F vs)
 |x=>x
def CS(id sz:Nat)(F:Nat→Nat→PV):List AO→List AO
 |[]=>[]
 |x::r=>aJR id sz F x::CS id sz F r
def ocC(id sz:Nat):C→List (Nat×Nat)
 |.sl i s off len=>match cA i id&&cA s sz with
  |true=>[(off,len)]
  |false=>[]
 |_=>[]
def LF(id sz:Nat):List C→List (Nat×Nat)→List (Nat×Nat)
 |[],l=>l
 |x::r,l=>match ocC id sz x with
  |[]=>LF id sz r l
  |p::_=>p::LF id sz r l
def ocT(id sz:Nat):List V→List (Nat×Nat)→List (Nat×Nat)
 |[],l=>l
 |.c x::r,l=>LF id sz [x] (ocT id sz r l)
 |.a cs::r,l=>LF id sz cs (ocT id sz r l)
 |.t _::r,l=>ocT id sz r l
def ocH(id sz:Nat):List AO→List (Nat×Nat)→List (Nat×Nat)
 |[],l=>l
 |.cells _ vs::r,l=>LF id sz vs (ocH id sz r l)
 |_::r,l=>ocH id sz r l
def aU8(id sz:Nat)(st:St):List (Nat×Nat):=ocT id sz st.t (ocH id sz st.h [])
def aUG(id sz:Nat)(F:Nat→Nat→PV)(st:St):St:=⟨aOB id sz F st.t,CS id sz F (eT .gone st.h id)⟩
theorem oN{id sz:Nat}{p:Nat×Nat}:∀ {cs:List C} {l:List (Nat×Nat)},p∈l→p∈LF id sz cs l
 |[],_,h=>h
 |x::r,l,h=>by
  unfold LF;split
  ·exact oN h
  ·exact cN _ (oN h)
theorem yU{id sz off len:Nat}:∀ {cs:List C} {l:List (Nat×Nat)},C.sl id sz off len∈cs→(off,len)∈LF id sz cs l
 |x::r,l,h=>by
  unfold LF
  rcases fC.1 h with rfl|h
  ·have:ocC id sz (.sl id sz off len)=[(off,len)]:=by show (match cA id id&&cA sz sz with|true=>[(off,len)]|false=>[])=_;rw[Nat.beq_refl,Nat.beq_refl];rfl
   rw[this];exact cZ ..
  ·split
   ·exact yU h
   ·exact cN _ (yU h)
theorem yT{id sz:Nat}{p:Nat×Nat}:∀ {t:List V} {l:List (Nat×Nat)},p∈l→p∈ocT id sz t l
 |[],_,h=>h
 |.c _::r,l,h=>oN (yT h)
 |.a _::r,l,h=>oN (yT h)
 |.t _::r,l,h=>by unfold ocT;exact yT h
def inV(x:C):V→Prop
 |.c y=>x=y
 |.a cs=>x∈cs
 |.t _=>False
theorem LE{id sz off len:Nat}:∀ {t:List V} {l:List (Nat×Nat)} {v:V},v∈t→inV (.sl id sz off len) v→(off,len)∈ocT id sz t l
 |x::r,l,v,h,hv=>by
  rcases fC.1 h with rfl|h1
  ·cases v with
   |c y=>cases hv;exact yU (cZ ..)
   |a cs=>exact yU hv
   |t _=>exact hv.elim
  ·cases x with
   |c y=>exact oN (LE h1 hv)
   |a cs=>exact oN (LE h1 hv)
   |t _=>unfold ocT;exact LE h1 hv
theorem TH{id sz off len:Nat}{ty:TypeId}{vs:List C}:∀ {h:List AO} {l:List (Nat×Nat)},AO.cells ty vs∈h→.sl id sz off len∈vs→(off,len)∈ocH id sz h l
 |x::r,l,h,hv=>by
  rcases fC.1 h with rfl|h1
  ·exact yU hv
  ·cases x with
   |cells ty' vs'=>exact oN (TH h1 hv)
   |_=>unfold ocH;exact TH h1 hv
theorem XQ(id sz:Nat)(F:Nat→Nat→PV):∀(h:List AO),CS id sz F h=h.map (aJR id sz F)
 |[]=>rfl
 |_::r=>by rw[CS,XQ id sz F r];rfl
section
variable {G:Nat→Option Obj} {st:St}
theorem XS{β β':Bt}{R R':Nat→Prop}{w:World}{id sz n:Nat}{f:Nat→Nat→C}{F:Nat→Nat→PV}(hk:iX β R w β' R' w)
  (hF:∀e o,e<n→o<sz→lY (mZ (f e o)) (F e o))
  (hval:∀off len u,off+len≤n→CR β R w (.sl id sz off len) u→PR R' w (.l sz len fun e o=>mZ (f (e+off) o)) u) {x:C} {u:Value} (hc:∀off len,x=.sl id sz off len→off+len≤n) (h:CR β R w x u):CR β' R' w (aJS id sz F x) u:=by
 unfold aJS;split
 ·rename_i i s off len
  split
  ·rename_i e
   rw[aQ]at e;obtain rfl:=aS e.1;obtain rfl:=aS e.2;exact lY.l (fun e o he ho=>hF (e+off) o (by have:=hc off len rfl;omega) ho) R' w u (hval off len u (hc off len rfl) h)
  ·exact CR.keep hk h
 ·exact CR.keep hk h
theorem FS{β β':Bt}{R R':Nat→Prop}{w:World}{id sz n:Nat}{f:Nat→Nat→C}{F:Nat→Nat→PV}(hk:iX β R w β' R' w)
  (hF:∀e o,e<n→o<sz→lY (mZ (f e o)) (F e o))
  (hval:∀off len u,off+len≤n→CR β R w (.sl id sz off len) u→PR R' w (.l sz len fun e o=>mZ (f (e+off) o)) u):∀ {cs:List C} {us:List Value},(∀x∈cs,∀off len,x=.sl id sz off len→off+len≤n)→dJ (CR β R w) cs us→dJ (CR β' R' w) (XR id sz F cs) us
 |[],[],_,_=>trivial
 |[],_::_,_,h=>h.elim
 |_::_,[],_,h=>h.elim
 |_::_,_::_,hc,h=>⟨XS hk hF hval (hc _ (cZ ..)) h.1,FS hk hF hval (fun x hx=>hc x (cN _ hx)) h.2⟩
theorem XP{β β':Bt}{R R':Nat→Prop}{w:World}{id sz n:Nat}{f:Nat→Nat→C}{F:Nat→Nat→PV}(hk:iX β R w β' R' w)
  (hF:∀e o,e<n→o<sz→lY (mZ (f e o)) (F e o))
  (hval:∀off len u,off+len≤n→CR β R w (.sl id sz off len) u→PR R' w (.l sz len fun e o=>mZ (f (e+off) o)) u):∀ {vs:List V} {us:List Value},(∀v∈vs,∀off len,inV (.sl id sz off len) v→off+len≤n)→dJ (VR β R w) vs us→dJ (VR β' R' w) (aOB id sz F vs) us
 |[],[],_,_=>trivial
 |[],_::_,_,h=>h.elim
 |_::_,[],_,h=>h.elim
 |v::_,_::_,hc,h=>⟨by
   cases v with
   |c x=>exact XS hk hF hval (fun off len e=>hc _ (cZ ..) off len e.symm) h.1
   |a cs=>
    obtain⟨us,h1,h2⟩:=h.1;exact⟨us,h1,FS hk hF hval (fun x hx off len e=>hc _ (cZ ..) off len (e▸hx)) h2⟩
   |t vs=>exact VR.keep hk h.1,XP hk hF hval (fun x hx=>hc x (cN _ hx)) h.2⟩
theorem wD(id sz:Nat)(F:Nat→Nat→PV)(x:AO):(aJR id sz F x).live=x.live:=by cases x<;>rfl
theorem rX(id sz:Nat)(F:Nat→Nat→PV):∀(h:List AO) (i:Nat),bC .gone (CS id sz F h) i=aJR id sz F (bC .gone h i)
 |[],_=>rfl
 |_::_,0=>rfl
 |_::r,i+1=>rX id sz F r i
theorem aIT{h:List AO}{i:Nat}(hl:(bC .gone h i).live=true):bC .gone h i∈h:=by
 rw[fU]at hl ⊢
 by_cases hi:i<h.length
 ·simp[aD,aK hi]
 ·rw[aD,cB (by omega)]at hl
  cases hl
theorem YU{id:Nat}{ty:TypeId}{sz n:Nat}{f:Nat→Nat→C}(F:Nat→Nat→PV)(hid:bC .gone st.h id=.row ty sz n f)(hf:∀e o,e<n→o<sz→BZ (f e o)=true)(hF:∀e o,e<n→o<sz→lY (mZ (f e o)) (F e o))
  {ps:List (Nat×Nat)} (hp:aU8 id sz st=ps) (ho:∀p∈ps,p.1+p.2≤n):cW G st (aUG id sz F st):=by
 subst hp;intro β R a w hs
 obtain⟨β',R',k1,k2,k3,k4⟩:=zE hs.hs hid hf;refine⟨β',R',⟨hs.df,XP k2.keeps hF k4 (fun v hv off len hi=>ho (off,len) (LE hv hi)) hs.tm,?_⟩,k2.toFr,k2.rm⟩
 have hlen:(CS id sz F (eT .gone st.h id)).length=(eT .gone st.h id).length:=by rw[XQ,List.length_map]
 refine⟨fun i x hi=>by show i<(CS id sz F (eT .gone st.h id)).length;rw[hlen];exact k1.dom i x hi,?_,?_,k1.lt,k1.rlt,?_,k1.gl,?_⟩
 ·intro i j b o o' hi hj li lj
  refine k1.inj i j b o o' hi hj ?_ ?_
  ·have li:(bC .gone (CS id sz F (eT .gone st.h id)) i).live=true:=li
   rwa [rX,wD]at li
  ·have lj:(bC .gone (CS id sz F (eT .gone st.h id)) j).live=true:=lj
   rwa [rX,wD]at lj
 ·intro i b o hi li
  have li:(bC .gone (CS id sz F (eT .gone st.h id)) i).live=true:=li
  rw[rX,wD]at li;exact k1.sep i b o hi li
 ·intro i b o hi
  show OR β' R' w (bC .gone (CS id sz F (eT .gone st.h id)) i) b o
  rw[rX]
  have h1:=k1.obj i b o hi
  by_cases e:i=id
  ·subst e
   rw[eA _ _ _ (fZ hid (by simp))];exact trivial
  ·rw[cP _ _ _ (fun h=>e h.symm)]at h1 ⊢
   cases hx:bC .gone st.h i with
   |cells ty' vs=>
    have h0:=hs.hs.obj i b o (by rw[←k3 i];exact hi)
    rw[hx]at h0;obtain⟨cs,g1,g2⟩:=h0;refine⟨cs,g1,FS k2.keeps hF k4 (fun x hx' off len e=>ho (off,len) (yT (TH (ty:=ty') (vs:=vs) ?_ (e▸hx')))) g2⟩;rw[←hx];exact aIT (by rw[hx];rfl)
   |_=>rw[hx]at h1;exact h1
 ·intro b ad hq
  obtain⟨q1,q2,q3⟩:=k1.ql b ad hq;refine⟨q1,q2,fun i o hi=>?_⟩
  show (bC .gone (CS id sz F (eT .gone st.h id)) i).live=false
  rw[rX,wD];exact q3 i o hi
end
def vwC(h:List AO)(c:C)(k:C→Tr):Tr:=match c with
 |.p x=>k (.p x)
 |.sl id sz off len=>match bC .gone h id with
  |.row _ sz' n f=>nH (cA sz sz') (.rq (off+len≤n∧∀e o,e<n→o<sz→BZ (f e o)=true) (k (.p (.l sz len fun e o=>mZ (f (e+off) o)))))
  |_=>.fail
 |_=>.fail
def YX(h:List AO):List C→(List C→Tr)→Tr
 |[],k=>k []
 |c::r,k=>vwC h c fun c'=>YX h r fun r'=>k (c'::r')
def vwV(h:List AO)(v:V)(k:V→Tr):Tr:=match v with
 |.c x=>vwC h x fun x'=>k (.c x')
 |.a cs=>YX h cs fun cs'=>k (.a cs')
 |.t _=>.fail
def YV(h:List AO):List V→(List V→Tr)→Tr
 |[],k=>k []
 |v::r,k=>vwV h v fun v'=>YV h r fun r'=>k (v'::r')
def scP:PV→Bool
 |.b _=>true
 |.i _ _=>true
 |.s _=>true
 |.z _=>true
 |_=>false
def scC:C→Bool
 |.p x=>scP x
 |_=>false
def aCF:List C→Bool
 |[]=>true
 |c::r=>scC c&&aCF r
def aU5:V1→Bool
 |.c x=>scC x
 |.a cs=>aCF cs
def VZ:List V1→Bool
 |[]=>true
 |c::r=>aU5 c&&VZ r
def scV:V→Bool
 |.c x=>scC x
 |.a cs=>aCF cs
 |.t vs=>VZ vs
def LH(m:kD)(h:List AO)(k:V→List AO→Tr)(args:List V):Tr:=match m args [] with
 |some (p,v,[])=>.rq p (nH (scV v) (k v h))
 |some (p,.c (.sl 0 sz 0 n),[.row ty sz' n' f])=>nH (cA sz sz') (.rq (p∧n=n'∧∀e o,e<n'→o<sz→scC (f e o)=true) (k (.c (.sl (fG h) sz 0 n)) (fB (.row ty sz' n' f) h)))
 |_=>.fail
def aIY(f0:FuncId)(m:kD)(rest:Ext):Ext:=fun f args h k=>match cA f0 f with
 |true=>YV h args (LH m h k)
 |false=>rest f args h k
section
variable {P:Program} {G:Nat→Option Obj} {β:Bt} {R:Nat→Prop} {w:World} {h:List AO}
abbrev CV(w:World):Nat→Prop:=fun b=>b<w.heap.size
theorem mV{b:Bool}{t:Tr}{K:X→St→Prop}:(nH b t).holds P G K↔b=true∧t.holds P G K:=by
 cases b<;>simp[nH,Tr.holds]
theorem zT(hh:HS G β R w h){c:C}{u:Value}(hc:CR β R w c u){k:C→Tr}{K:X→St→Prop}(hk:(vwC h c k).holds P G K):∃c',CR Bt.nil (CV w) w c' u∧(k c').holds P G K:=by
 unfold vwC at hk;split at hk
 ·rename_i x
  exact⟨.p x,PR.keep (R':=CV w) hh.rlt (fun _ _=>rfl) x hc,hk⟩
 ·rename_i id sz off len
  split at hk
  ·rename_i ty sz' n f hid
   rw[mV]at hk;obtain⟨h1,⟨h2,h3⟩,h4⟩:=hk;obtain rfl:=aS h1;obtain⟨β',R',k1,k2,k3,k4⟩:=zE hh hid h3;exact⟨.p (.l sz len fun e o=>mZ (f (e+off) o)),PR.keep (R':=CV w) k1.rlt (fun _ _=>rfl) _ (k4 off len u h2 hc),h4⟩
  ·exact hk.elim
 ·exact hk.elim
theorem DL(hh:HS G β R w h):∀ {cs:List C} {us:List Value},dJ (CR β R w) cs us→∀ {k:List C→Tr} {K:X→St→Prop},(YX h cs k).holds P G K→∃cs',dJ (CR Bt.nil (CV w) w) cs' us∧(k cs').holds P G K
 |[],[],_,k,K,hk=>⟨[],trivial,hk⟩
 |[],_::_,h,_,_,_=>h.elim
 |_::_,[],h,_,_,_=>h.elim
 |c::r,u::us,hc,k,K,hk=>by
  obtain⟨c',h1,h2⟩:=zT hh hc.1 hk;obtain⟨r',h3,h4⟩:=DL hh hc.2 h2;exact⟨c'::r',⟨h1,h3⟩,h4⟩
theorem YW(hh:HS G β R w h){v:V}{u:Value}(hc:VR β R w v u){k:V→Tr}{K:X→St→Prop}(hk:(vwV h v k).holds P G K):∃v',VR Bt.nil (CV w) w v' u∧(k v').holds P G K:=by
 unfold vwV at hk;split at hk
 ·obtain⟨c',h1,h2⟩:=zT hh hc hk
  exact⟨.c c',h1,h2⟩
 ·obtain⟨us,h0,hc⟩:=hc
  obtain⟨cs',h1,h2⟩:=DL hh hc hk;exact⟨.a cs',⟨us,h0,h1⟩,h2⟩
 ·exact hk.elim
theorem DK(hh:HS G β R w h):∀ {vs:List V} {us:List Value},dJ (VR β R w) vs us→∀ {k:List V→Tr} {K:X→St→Prop},(YV h vs k).holds P G K→∃vs',dJ (VR Bt.nil (CV w) w) vs' us∧(k vs').holds P G K
 |[],[],_,k,K,hk=>⟨[],trivial,hk⟩
 |[],_::_,h,_,_,_=>h.elim
 |_::_,[],h,_,_,_=>h.elim
 |c::r,u::us,hc,k,K,hk=>by
  obtain⟨c',h1,h2⟩:=YW hh hc.1 hk;obtain⟨r',h3,h4⟩:=DK hh hc.2 h2;exact⟨c'::r',⟨h1,h3⟩,h4⟩
theorem aGX{x:PV}{u:Value}{R':Nat→Prop}{w':World}(hx:scP x=true)(h:PR R w x u):PR R' w' x u:=by
 cases x<;>first|exact h|cases hx
theorem CX{x:C}{u:Value}{β':Bt}{R':Nat→Prop}{w':World}(hx:scC x=true)(h:CR β R w x u):CR β' R' w' x u:=by
 cases x<;>first|exact aGX hx h|cases hx
theorem EB{β':Bt}{R':Nat→Prop}{w':World}:∀ {cs:List C} {us:List Value},aCF cs=true→dJ (CR β R w) cs us→dJ (CR β' R' w') cs us
 |[],[],_,_=>trivial
 |[],_::_,_,h=>h.elim
 |_::_,[],_,h=>h.elim
 |c::r,u::us,hs,h=>by
  simp only[aCF,aQ]at hs;exact⟨CX hs.1 h.1,EB hs.2 h.2⟩
theorem II{β':Bt}{R':Nat→Prop}{w':World}:∀ {cs:List V1} {us:List Value},VZ cs=true→dJ (BF β R w) cs us→dJ (BF β' R' w') cs us
 |[],[],_,_=>trivial
 |[],_::_,_,h=>h.elim
 |_::_,[],_,h=>h.elim
 |c::r,u::us,hs,h=>by
  simp only[VZ,aQ]at hs;refine⟨?_,II hs.2 h.2⟩
  have h1:=h.1
  have h2:=hs.1
  cases c with
  |c x=>exact CX h2 h1
  |a cs=>obtain⟨us,e,h1⟩:=h1;exact⟨us,e,EB h2 h1⟩
theorem aGW{β':Bt}{R':Nat→Prop}{w':World}{x:V}{u:Value}(hx:scV x=true)(h:VR β R w x u):VR β' R' w' x u:=by
 cases x with
 |c x=>exact CX hx h
 |a cs=>obtain⟨us,e,h⟩:=h;exact⟨us,e,EB hx h⟩
 |t vs=>obtain⟨us,e,h⟩:=h;exact⟨us,e,II hx h⟩
theorem MI(hh:HS G β R w h)(x:AO):HS G β R w (fB x h):=by
 have hn:∀i y,β i=some y→bC .gone (fB x h) i=bC .gone h i:=fun i y hi=>fM _ _ _ (hh.dom i y hi)
 refine⟨?_,?_,?_,hh.lt,hh.rlt,?_,hh.gl,fun b ad hb=>⟨(hh.ql b ad hb).1,(hh.ql b ad hb).2.1,fun i o hi=>by rw[hn i _ hi];exact(hh.ql b ad hb).2.2 i o hi⟩⟩
 ·intro i y hi
  have:=hh.dom i y hi
  rw[kK,aL];omega
 ·intro i j b o o' hi hj li lj
  rw[hn i _ hi]at li;rw[hn j _ hj]at lj;exact hh.inj i j b o o' hi hj li lj
 ·intro i b o hi li
  rw[hn i _ hi]at li;exact hh.sep i b o hi li
 ·intro i b o hi
  rw[hn i _ hi];exact hh.obj i b o hi
theorem WY{f0:FuncId}{m:kD}(hm:gG P G f0 m)(hh:HS G β R w h){args':List V}{vs:Array Value}(ha:dJ (VR Bt.nil (CV w) w) args' vs.toList){k:V→List AO→Tr}{K:X→St→Prop}(hk:(LH m h k args').holds P G K) :
  Calls P f0 vs w fun e w'=>∃u β' R' x h',e=.returned u∧(k x h').holds P G K∧VR β' R' w' x u∧HS G β' R' w' h'∧Gr β R w β' R' w'∧∀i,i<h.length→β' i=β i:=by
 have h0:HS G Bt.nil (CV w) w []:=⟨(fun _ _ h=>by cases h),(fun _ _ _ _ _ h=>by cases h),(fun _ _ _ h=>by cases h),(fun _ _ _ h=>by cases h),(fun _ h=>h),(fun _ _ _ h=>by cases h),fun b o hb=>⟨hh.rlt b (hh.gl b o hb).1,(hh.gl b o hb).2⟩,(fun _ _ h=>by cases h)⟩
 unfold LH at hk;split at hk
 ·rename_i p v he
  obtain⟨hp,hk⟩:=hk;rw[mV]at hk;obtain⟨hs,hk⟩:=hk;refine(hm args' [] p v [] he hp Bt.nil (CV w) w vs ha h0).mono ?_;rintro e w' ⟨u,β1,R1,x,h1,rfl,⟨rfl,rfl⟩,h2,_,h3,_⟩
  have hb:Below w.heap.size w w':=⟨h3.os,h3.tape,h3.output,h3.size,fun b hb=>h3.rs b hb⟩
  obtain⟨c1,c2⟩:=hh.below hb;exact⟨u,β,TJ R w w',x,h,rfl,hk,aGW hs h2,c1,c2,fun _ _=>rfl⟩
 ·rename_i p sz n ty sz' n' f he
  rw[mV]at hk;obtain⟨hz,⟨hp,rfl,hsc⟩,hk⟩:=hk;obtain rfl:=aS hz;refine(hm args' [] p _ _ he hp Bt.nil (CV w) w vs ha h0).mono ?_;rintro e w' ⟨u,β1,R1,x,h1,rfl,⟨rfl,rfl⟩,h2,hs1,h3,_⟩
  have hb:Below w.heap.size w w':=⟨h3.os,h3.tape,h3.output,h3.size,fun b hb=>h3.rs b hb⟩
  obtain⟨A,c,rfl,g1,g2,g3⟩:=h2
  rcases g3 with⟨q1,q2,q3⟩|⟨b,N,q1,q2,q3⟩
  ·obtain⟨c1,c2⟩:=hh.below hb
   exact⟨_,β,TJ R w w',_,_,rfl,hk,⟨A,c,rfl,g1,g2,.inl ⟨q1,q2,q3⟩⟩,MI c1 _,c2,fun _ _=>rfl⟩
  ·have hg:w.heap.size≤b:=by
     rcases h3.ex b (.inl ⟨0,N,q1⟩) with h|h
     ·exact absurd h Bt.nil_has
     ·exact h
   have hob:∀β2:Bt,OR β2 R w' (.row ty sz n f) b N:=fun β2=>by
    obtain⟨cs,k1,k2,k3,k4⟩:=hs1.obj 0 b N q1;refine⟨cs,k1,k2,k3,fun e o he ho=>?_⟩;obtain⟨u,r1,r2⟩:=k4 e o he ho;refine⟨u,r1,oU.of ?_ (CX (hsc e o he ho) r2.cr)⟩
    have:=hsc e o he ho
    cases hf:f e o<;>first|rfl|(rw[hf]at this;cases this)
   obtain⟨c1,c2⟩:=wV (x:=.row ty sz n f) hh (aOE (N:=N) hh.rlt hb hg) (fun _ h=>h) (aOA hh hb hg (hs1.lt 0 b N q1) (hob _)) rfl (id:=0) (b:=b) (N:=N) (by unfold b1;rfl) rfl (fun β2 _=>hob β2);refine⟨_,bn β h.length (b,N),R,_,_,rfl,hk,⟨A,c,rfl,g1,g2,.inr ⟨b,N,?_,q2,q3⟩⟩,c1,c2,fun i hi=>eE _ (by omega)⟩;rw[eL];exact gI _ _ _
 ·exact hk.elim
end
section
variable {P:Program} {G:Nat→Option Obj}
theorem KQ{h:List AO}{c:C}{k:C→Tr}{K:X→St→Prop}(hk:(vwC h c k).holds P G K):∃c',(k c').holds P G K∧∀(k':C→Tr) (K':X→St→Prop),(k' c').holds P G K'→(vwC h c k').holds P G K':=by
 unfold vwC at hk ⊢;split at hk
 ·exact⟨_,hk,fun k' K' h=>h⟩
 ·split at hk
  ·rw[mV]at hk
   obtain⟨h1,h2,h3⟩:=hk;exact⟨_,h3,fun k' K' h=>by rw[mV];exact⟨h1,h2,h⟩⟩
  ·exact hk.elim
 ·exact hk.elim
theorem MY{h:List AO}:∀ {cs:List C} {k:List C→Tr} {K:X→St→Prop},(YX h cs k).holds P G K→∃cs',(k cs').holds P G K∧∀(k':List C→Tr) (K':X→St→Prop),(k' cs').holds P G K'→(YX h cs k').holds P G K'
 |[],k,K,hk=>⟨[],hk,fun _ _ h=>h⟩
 |c::r,k,K,hk=>by
  obtain⟨c',h1,h2⟩:=KQ hk;obtain⟨r',h3,h4⟩:=MY h1;exact⟨c'::r',h3,fun k' K' hq=>h2 (fun c'=>YX h r fun r'=>k' (c'::r')) K' (h4 (fun r'=>k' (c'::r')) K' hq)⟩
theorem aGL{h:List AO}{c:V}{k:V→Tr}{K:X→St→Prop}(hk:(vwV h c k).holds P G K):∃c',(k c').holds P G K∧∀(k':V→Tr) (K':X→St→Prop),(k' c').holds P G K'→(vwV h c k').holds P G K':=by
 unfold vwV at hk ⊢;split at hk
 ·obtain⟨c',h1,h2⟩:=KQ hk
  exact⟨_,h1,fun k' K' h=>h2 (fun x=>k' (.c x)) K' h⟩
 ·obtain⟨c',h1,h2⟩:=MY hk
  exact⟨_,h1,fun k' K' h=>h2 (fun x=>k' (.a x)) K' h⟩
 ·exact hk.elim
theorem MX{h:List AO}:∀ {cs:List V} {k:List V→Tr} {K:X→St→Prop},(YV h cs k).holds P G K→∃cs',(k cs').holds P G K∧∀(k':List V→Tr) (K':X→St→Prop),(k' cs').holds P G K'→(YV h cs k').holds P G K'
 |[],k,K,hk=>⟨[],hk,fun _ _ h=>h⟩
 |c::r,k,K,hk=>by
  obtain⟨c',h1,h2⟩:=aGL hk;obtain⟨r',h3,h4⟩:=MX h1;exact⟨c'::r',h3,fun k' K' hq=>h2 (fun c'=>YV h r fun r'=>k' (c'::r')) K' (h4 (fun r'=>k' (c'::r')) K' hq)⟩
theorem OM{m:kD}{h:List AO}{k:V→List AO→Tr}{args:List V}{K:X→St→Prop}(hk:(LH m h k args).holds P G K):∃v h',(k v h').holds P G K∧∀(k':V→List AO→Tr) (K':X→St→Prop),(k' v h').holds P G K'→(LH m h k' args).holds P G K':=by
 unfold LH at hk ⊢;split at hk
 ·obtain⟨h1,h2⟩:=hk
  rw[mV]at h2;exact⟨_,_,h2.2,fun k' K' h=>⟨h1,by rw[mV];exact⟨h2.1,h⟩⟩⟩
 ·rw[mV]at hk
  obtain⟨h1,h2,h3⟩:=hk;exact⟨_,_,h3,fun k' K' h=>by rw[mV];exact⟨h1,h2,h⟩⟩
 ·exact hk.elim
theorem TL{f0:FuncId}{m:kD}{rest:Ext}(hm:gG P G f0 m)(hr:bG P G rest):bG P G (aIY f0 m rest):=by
 refine⟨?_,?_⟩
 ·intro f args h k K hh
  unfold aIY at hh;split at hh
  ·rename_i hb
   obtain rfl:=aS hb;intro β R w vs ha hs
   obtain⟨args',h1,h2⟩:=DK hs ha hh;exact WY hm hs h1 h2
  ·exact hr.fn _ _ _ _ _ hh
 ·intro f args h k K hh
  unfold aIY at hh ⊢;split at hh
  ·obtain⟨args',h1,h2⟩:=MX hh
   obtain⟨v,h',h3,h4⟩:=OM h1;exact⟨v,h',h3,fun k' K' hk=>h2 _ K' (h4 k' K' hk)⟩
  ·exact hr.val _ _ _ _ _ hh
end
section
variable {P:Program} {G:Nat→Option Obj}
theorem kM.cond{k:Nat}{a b:dQ}{st:St}{x:Bool}{K:X→St→Prop}(hx:bC (.c .top) st.t k=.c (.p (.b x)))(h1:x=true→kM P G a ⟨eT (.c (.p (.b true))) st.t k,st.h⟩ K)(h2:x=false→kM P G b ⟨eT (.c (.p (.b false))) st.t k,st.h⟩ K):kM P G (.cond (.t k) a b) st K:=by
 refine kM.core fun c hns hc=>?_
 cases c with
 |scope c'=>exact absurd rfl (hns c')
 |cond y c1 c2=>
  simp only[fE,aV,aM,bE,aJ]at hc;obtain⟨ax,g1,a1,g2,a2,g3,g4⟩:=hc;injection g4 with e1 e2 e3;subst e1;subst e2;subst e3;intro β R a w hs
  have hv:=bW hs g1
  have he:st.ev (.t k)=.c (.p (.b x)):=hx
  rw[he]at hv
  have hv:a.eval y=.bool x:=hv
  have same:iB G β R ⟨eT (.c (.p (.b x))) st.t k,st.h⟩ a w:=hs.same (fun u hu=>by rw[hx]at hu;exact hu)
  cases x with
  |true=>exact wp_cond_true hv (h1 rfl c1 g2 β R a w same)
  |false=>exact wp_cond_false hv (h2 rfl c2 g3 β R a w same)
 |region id ops draw=>cases pT hc
 |seq c1 c2=>cases h2:fE P c1<;>cases h3:fE P c2<;>simp[fE,h2,h3]at hc
 |block id c=>cases h1:fE P c<;>simp[fE,h1]at hc
 |loop c=>cases h1:fE P c<;>simp[fE,h1]at hc
 |_=>simp[fE]at hc
theorem eG.cond{rs:List AR}{v:V}{k:Nat}{a b:dQ}{l r:List dQ}{st:St}{x:Bool}{Q:X→St→Prop}(hl:l=.cond (.t k) a b::r)(hx:bC (.c .top) st.t k=.c (.p (.b x)))
  (h1:x=true→∀Q':X→St→Prop,(∀st,eG P G rs v r st Q→Q' .normal st)→(∀j st,Q (.exit j) st→Q' (.exit j) st)→eG P G rs v (eZ a) ⟨eT (.c (.p (.b true))) st.t k,st.h⟩ Q')
  (h2:x=false→∀Q':X→St→Prop,(∀st,eG P G rs v r st Q→Q' .normal st)→(∀j st,Q (.exit j) st→Q' (.exit j) st)→eG P G rs v (eZ b) ⟨eT (.c (.p (.b false))) st.t k,st.h⟩ Q'):eG P G rs v l st Q:=by
 subst hl
 exact kM.cond hx (fun e=>eG.code (h1 e (fun e st'=>match e with
  |.normal=>eG P G rs v r st' Q
  |e=>Q e st') (fun _ h=>h) (fun _ _ h=>h))) (fun e=>eG.code (h2 e (fun e st'=>match e with
  |.normal=>eG P G rs v r st' Q
  |e=>Q e st') (fun _ h=>h) (fun _ _ h=>h)))
end
def aJX:dQ→dQ
 |.cond _ a _=>a
 |c=>c
def aON:dQ→dQ
 |.cond _ _ b=>b
 |c=>c
section
variable {P:Program} {G:Nat→Option Obj} {β:Bt} {R:Nat→Prop} {w:World} {st:St}
theorem ZX{id:Nat}{Y:AO}{ty':TypeId}{sz' n':Nat}{g:Nat→Nat→PV}(hl0:(bC .gone st.h id).live=true)(hY:Y.live=true)
  (H:∀β R w,HS G β R w st.h→∀b N,β id=some (b,N)→OR β R w Y b N∨∃b1 cs1 c k,β.q b1=some (b,k)∧w.heap[b1]?=some (.cells cs1 ty' (0,0))∧cs1.size=c*sz'∧n'≤c∧(∀e o,e<n'→o<sz'→∃u,cs1[e*sz'+o]?=some u∧PR R w (g e o) u) ∧
   ∀β',iX β R w β' R w→(∀b2 k2,β.q b2=some (b,k2)→k2≠k→β'.q b2=some (b,k2))→β' st.h.length=some (b1,c*sz')→OR β' R w Y b N) :
  cW G st ⟨st.t,fB (.row ty' sz' n' fun e o=>.p (g e o)) (eT Y st.h id)⟩:=by
 intro β R a w hs
 have hh:=hs.hs
 have hlid:id<st.h.length:=fZ rfl (fun e=>by rw[e]at hl0;cases hl0)
 have hlenu:∀x:AO,(eT x st.h id).length=st.h.length:=fun x=>by rw[eV];simp
 have hnew:bC .gone (fB (.row ty' sz' n' fun e o=>.p (g e o)) (eT Y st.h id)) st.h.length=(.row ty' sz' n' fun e o=>.p (g e o)):=by
  have:=lH AO.gone (.row ty' sz' n' fun e o=>.p (g e o)) (eT Y st.h id)
  rwa [hlenu]at this
 have hold:∀i,i<st.h.length→bC .gone (fB (.row ty' sz' n' fun e o=>.p (g e o)) (eT Y st.h id)) i=bC .gone (eT Y st.h id) i:=fun i hi=>fM _ _ _ (by rw[hlenu];exact hi)
 have hne:∀i,i<st.h.length→i≠id→bC .gone (fB (.row ty' sz' n' fun e o=>.p (g e o)) (eT Y st.h id)) i=bC .gone st.h i:=fun i hi e=>by
  rw[hold i hi,cP _ _ _ (fun h=>e h.symm)]
 have heq:bC .gone (fB (.row ty' sz' n' fun e o=>.p (g e o)) (eT Y st.h id)) id=Y:=by rw[hold id hlid,eA _ _ _ hlid]
 have hlive:∀i,(bC .gone st.h i).live=true→i≠id→∀b o b' o',β i=some (b,o)→β id=some (b',o')→b≠b':=fun i hl hne b o b' o' h1 h2 e=>
  hne (hh.inj i id b o o' h1 (e▸h2) hl hl0)
 have hlv:∀i,i<st.h.length→(bC .gone (fB (.row ty' sz' n' fun e o=>.p (g e o)) (eT Y st.h id)) i).live=(bC .gone st.h i).live:=fun i hi=>by
  by_cases e:i=id
  ·subst e;rw[heq,hY,hl0]
  ·rw[hne i hi e]
 have same:(∀b N,β id=some (b,N)→OR β R w Y b N)→∃β2 R2,iB G β2 R2 ⟨st.t,fB (.row ty' sz' n' fun e o=>.p (g e o)) (eT Y st.h id)⟩ a w∧Fr β R w β2 R2 w∧∀b,R b→R2 b:=fun hO=>by
  refine⟨β,R,⟨hs.df,hs.tm,?_⟩,Fr.refl _ _ _,fun _ h=>h⟩;refine tQ hh (by rw[kK];simp[hlenu]) (fun i x hi=>by rw[kK];have:=hh.dom i x hi;simp[hlenu];omega) (fun _ h=>h) hh.rlt ?_ ?_ hh.lt ?_ ?_
  ·intro i j b o o' hi hj li lj
   rw[hlv i (hh.dom i _ hi)]at li;rw[hlv j (hh.dom j _ hj)]at lj;exact hh.inj i j b o o' hi hj li lj
  ·intro i b o hi li
   rw[hlv i (hh.dom i _ hi)]at li;exact hh.sep i b o hi li
  ·intro i b' o hi
   by_cases e:i=id
   ·subst e;rw[heq];exact hO b' o hi
   ·rw[hne i (hh.dom i _ hi) e]
    exact hh.obj i b' o hi
  ·intro b' ad hq
   obtain⟨q1,q2,q3⟩:=hh.ql b' ad hq;exact⟨q1,q2,fun i o hi=>by rw[hlv i (hh.dom i _ hi)];exact q3 i o hi⟩
 cases hb:β id with
 |none=>exact same fun b N h=>by rw[hb]at h;cases h
 |some bN=>
  obtain⟨b,N⟩:=bN
  rcases H β R w hh b N hb with hO|⟨b1,cs1,c,k,p1,p2,p3,a2,p4,hO⟩
  ·exact same fun b' N' h=>by rw[hb]at h;injection h with h;injection h with h1 h2;subst h1;subst h2;exact hO
  ·obtain⟨q1,q2,q3⟩:=hh.ql b1 _ p1
   let β':Bt:=ZO (bn β st.h.length (b1,c*sz')) b1 none
   have hf':∀i,β' i=bn β st.h.length (b1,c*sz') i:=fun i=>rfl
   have hm:∀i x,β i=some x→β' i=some x:=fun i x hi=>by
    rw[hf',eE _ (by have:=hh.dom i x hi;omega)];exact hi
   have hcase:∀i y,β' i=some y→(i=st.h.length∧y=(b1,c*sz'))∨(i<st.h.length∧β i=some y):=fun i y hi=>by
    rw[hf']at hi
    by_cases he:i=st.h.length
    ·subst he;rw[gI]at hi;injection hi with hi;exact .inl ⟨rfl,hi.symm⟩
    ·rw[eE _ he]at hi;exact .inr ⟨hh.dom i y hi,hi⟩
   have hq':∀b2 ad,β'.q b2=some ad→b2≠b1∧β.q b2=some ad:=fun b2 ad h=>by
    by_cases e:b2=b1
    ·subst e;rw[IP]at h;cases h
    ·rw[oK _ e]at h;exact⟨e,h⟩
   have hkp:iX β R w β' R w:=⟨hm,fun _ h=>h,fun _ _=>rfl⟩
   have hdead:∀i o,β i=some (b1,o)→(bC .gone st.h i).live=false:=q3
   have hO:=hO β' hkp (fun b2 k2 h1 h2=>by
    rw[oK _ (fun e=>by subst e;rw[p1]at h1;injection h1 with h1;injection h1 with _ h1;exact h2 h1.symm)];exact h1) (by rw[hf',gI])
   refine⟨β',R,⟨hs.df,hs.tm.mono fun _ _=>VR.keep hkp,?_⟩,⟨rfl,rfl,rfl,aW _,fun _ _=>rfl,fun _ _ _=>rfl,?_,fun _ h=>.inl h⟩,fun _ h=>h⟩
   ·refine tQ hh (by rw[kK];simp[hlenu]) ?_ (fun _ h=>h) hh.rlt ?_ ?_ ?_ ?_ ?_
    ·intro i x hi
     rw[kK];simp[hlenu]
     rcases hcase i x hi with⟨e,_⟩|⟨e,_⟩<;>omega
    ·intro i j b' o o' hi hj li lj
     rcases hcase i _ hi with⟨e1,k1⟩|⟨e1,k1⟩
     ·rcases hcase j _ hj with⟨e2,k2⟩|⟨e2,k2⟩
      ·omega
      ·injection k1 with k1 _
       subst k1;rw[hlv j e2,hdead j _ k2]at lj;cases lj
     ·rw[hlv i e1]at li
      rcases hcase j _ hj with⟨e2,k2⟩|⟨e2,k2⟩
      ·injection k2 with k2 _
       subst k2;rw[hdead i _ k1]at li;cases li
      ·rw[hlv j e2]at lj
       exact hh.inj i j b' o o' k1 k2 li lj
    ·intro i b' o hi li
     rcases hcase i _ hi with⟨e1,k1⟩|⟨e1,k1⟩
     ·injection k1 with k1 _;subst k1;exact q2
     ·rw[hlv i e1]at li;exact hh.sep i b' o k1 li
    ·intro i b' o hi
     rcases hcase i _ hi with⟨e1,k1⟩|⟨e1,k1⟩
     ·injection k1 with k1 _;subst k1;exact q1
     ·exact hh.lt i b' o k1
    ·intro i b' o hi
     rcases hcase i _ hi with⟨e1,k1⟩|⟨e1,k1⟩
     ·injection k1 with k1 k2
      subst k1;subst k2;subst e1;rw[hnew]
      exact⟨cs1,p2,p3,bP _ a2,fun e k he hk=>by
       obtain⟨u,r1,r2⟩:=p4 e k he hk
       exact⟨u,r1,r2⟩⟩
     ·by_cases e:i=id
      ·subst e
       rw[heq];rw[hb]at k1;injection k1 with k1;injection k1 with e1 e2;subst e1;subst e2;exact hO
      ·rw[hne i e1 e]
       cases hl:(bC .gone st.h i).live with
       |false=>exact OR.dead hkp hl (hh.obj i b' o k1)
       |true=>
        refine OR.keep hkp (fun b2 k h1=>⟨?_,rfl⟩) rfl (hh.obj i b' o k1)
        rw[oK _ (fun e2=>by
         subst e2;rw[p1]at h1;injection h1 with h1;injection h1 with h1 _
         exact hlive i hl e b' o b N k1 hb h1.symm)]
        exact h1
    ·intro b2 ad hq
     obtain⟨e1,k1⟩:=hq' b2 ad hq;obtain⟨r1,r2,r3⟩:=hh.ql b2 ad k1;refine⟨r1,r2,fun i o hi=>?_⟩
     rcases hcase i _ hi with⟨e2,k2⟩|⟨e2,k2⟩
     ·injection k2 with k2 _;exact absurd k2 e1
     ·rw[hlv i e2];exact r3 i o k2
   ·rintro b2 (⟨i,o,hi⟩|⟨ad,hq⟩)
    ·rcases hcase i _ hi with⟨e2,k2⟩|⟨e2,k2⟩
     ·injection k2 with k2 _;subst k2;exact .inl (.inr ⟨_,p1⟩)
     ·exact .inl (.inl ⟨i,o,k2⟩)
    ·exact .inl (.inr ⟨ad,(hq' b2 ad hq).2⟩)
theorem VG{id m:Nat}{Y:AO}{ty':TypeId}{sz' n':Nat}{h:Nat→Nat→C}{g:Nat→Nat→PV}(hl0:(bC .gone st.h id).live=true)(hY:Y.live=true)(hmd:bC .gone st.h m=.row ty' sz' n' h)(hg:∀e o,e<n'→o<sz'→h e o=.p (g e o))(him:id≠m)
  (H:∀β R w,HS G β R w st.h→∀b N,β id=some (b,N)→∃k,∀β',(∀i,β' i=β i)→iX β R w β' R w→(∀b1 k1,β.q b1=some (b,k1)→β'.q b1=some (b,k1)) →
   (∀u,CR β R w (.sl m sz' 0 n') u→oU β' R w (b,k) (.own ty' sz' n' g) u)→OR β' R w Y b N) :
  cW G st ⟨st.t,eT .gone (eT Y st.h id) m⟩:=by
 intro β R a w hs
 have hh:=hs.hs
 have hlid:id<st.h.length:=fZ rfl (fun e=>by rw[e]at hl0;cases hl0)
 have hlm:=fZ hmd (by simp)
 have hlenu:(eT .gone (eT Y st.h id) m).length=st.h.length:=by rw[eV,eV];simp
 have hne:∀i,i≠id→i≠m→bC .gone (eT .gone (eT Y st.h id) m) i=bC .gone st.h i:=fun i e1 e2=>by
  rw[cP _ _ _ (fun h=>e2 h.symm),cP _ _ _ (fun h=>e1 h.symm)]
 have heq:bC .gone (eT .gone (eT Y st.h id) m) id=Y:=by rw[cP _ _ _ (fun h=>him h.symm),eA _ _ _ hlid]
 have hem:bC .gone (eT .gone (eT Y st.h id) m) m=.gone:=eA _ _ _ (by rw[eV,cE];exact hlm)
 have hlv:∀(i:Nat),(bC .gone (eT .gone (eT Y st.h id) m) i).live=true→i≠m∧(bC .gone st.h i).live=true:=fun i hl=>by
  by_cases e1:i=m
  ·subst e1;rw[hem]at hl;cases hl
  ·refine⟨e1,?_⟩
   by_cases e2:i=id
   ·subst e2;exact hl0
   ·rw[hne i e2 e1]at hl;exact hl
 have hlf:∀(i:Nat),(bC .gone st.h i).live=false→(bC .gone (eT .gone (eT Y st.h id) m) i).live=false:=fun i hl=>by
  by_cases e1:i=m
  ·subst e1;rw[hem];rfl
  ·by_cases e2:i=id
   ·subst e2;rw[hl0]at hl;cases hl
   ·rw[hne i e2 e1];exact hl
 have fin:∀(β':Bt),(∀i,β' i=β i)→(∀b N,β id=some (b,N)→iX β R w β' R w→OR β' R w Y b N) →
   (∀b2 ad,β'.q b2=some ad→β.q b2=some ad∨∃N,β m=some (b2,N))→(∀b2 ad,β.q b2=some ad→β'.q b2=some ad) →
   ∃β2 R2,iB G β2 R2 ⟨st.t,eT .gone (eT Y st.h id) m⟩ a w∧Fr β R w β2 R2 w∧∀b,R b→R2 b:=by
  intro β' hf hu hq1 hq2
  have hkp:iX β R w β' R w:=⟨fun i x h=>by rw[hf];exact h,fun _ h=>h,fun _ _=>rfl⟩
  refine⟨β',R,⟨hs.df,hs.tm.mono fun _ _=>VR.keep hkp,?_⟩,⟨rfl,rfl,rfl,aW _,fun _ _=>rfl,fun _ _ _=>rfl,?_,fun _ h=>.inl h⟩,fun _ h=>h⟩
  ·refine tQ hh (by rw[hlenu];exact aW _) (fun i x hi=>by rw[hlenu];rw[hf]at hi;exact hh.dom i x hi) (fun _ h=>h) hh.rlt ?_ ?_ ?_ ?_ ?_
   ·intro i j b o o' hi hj li lj
    rw[hf]at hi hj;exact hh.inj i j b o o' hi hj (hlv i li).2 (hlv j lj).2
   ·intro i b o hi li
    rw[hf]at hi;exact hh.sep i b o hi (hlv i li).2
   ·intro i b o hi
    rw[hf]at hi;exact hh.lt i b o hi
   ·intro i b o hi
    rw[hf]at hi
    by_cases e2:i=id
    ·subst e2
     rw[heq];exact hu b o hi hkp
    ·by_cases e1:i=m
     ·subst e1;rw[hem];exact trivial
     ·rw[hne i e2 e1]
      exact OR.keep hkp (fun b1 k h=>⟨hq2 b1 _ h,rfl⟩) rfl (hh.obj i b o hi)
   ·intro b2 ad hq
    rcases hq1 b2 ad hq with h1|⟨N,h1⟩
    ·obtain⟨q1,q2,q3⟩:=hh.ql b2 ad h1
     exact⟨q1,q2,fun i o hi=>hlf i (q3 i o (by rw[hf]at hi;exact hi))⟩
    ·refine⟨hh.lt m b2 N h1,hh.sep m b2 N h1 (by rw[hmd];rfl),fun i o hi=>?_⟩
     rw[hf]at hi;cases hl:(bC .gone (eT .gone (eT Y st.h id) m) i).live with
     |false=>rfl
     |true=>
      obtain⟨k1,k2⟩:=hlv i hl;exact absurd (hh.inj i m b2 o N hi h1 k2 (by rw[hmd];rfl)) k1
  ·rintro b2 (⟨i,o,hi⟩|⟨ad,hq⟩)
   ·rw[hf]at hi;exact .inl (.inl ⟨i,o,hi⟩)
   ·rcases hq1 b2 ad hq with h1|⟨N,h1⟩
    ·exact .inl (.inr ⟨ad,h1⟩)
    ·exact .inl (.inl ⟨m,N,h1⟩)
 cases hb:β id with
 |none=>exact fin β (fun _=>rfl) (fun b N h=>by rw[hb]at h;cases h) (fun _ _ h=>.inl h) (fun _ _ h=>h)
 |some bN=>
  obtain⟨b,N⟩:=bN;obtain⟨k,hO⟩:=H β R w hh b N hb;cases hbm:β m with
  |none=>
   refine fin β (fun _=>rfl) ?_ (fun _ _ h=>.inl h) (fun _ _ h=>h);intro b' N' hb' kp
   rw[hb]at hb';injection hb' with hb';injection hb' with e1 e2;subst e1;subst e2
   refine hO β (fun _=>rfl) kp (fun _ _ h=>h) fun u hu=>?_
   obtain⟨A,c,a1,a2,a3,a4⟩:=hu
   rcases a4 with⟨h1,h2,h3⟩|⟨b1,N1,h1,_⟩
   ·exact⟨A,c,a1,a2,a3,.inl ⟨h1.resolve_right (by omega),h2,h3⟩⟩
   ·rw[hbm]at h1;cases h1
  |some bM=>
   obtain⟨b1,N1⟩:=bM
   have hob:=hh.obj m b1 N1 hbm
   rw[hmd]at hob;obtain⟨cs1,p1,p2,p3,p4⟩:=hob
   have hq0:∀b2 ad,β.q b2=some ad→b2≠b1:=fun b2 ad h e=>by
    have:=(hh.ql b2 ad h).2.2 m N1 (e▸hbm)
    rw[hmd]at this;cases this
   refine fin (ZO β b1 (some (b,k))) (fun _=>rfl) ?_ ?_ ?_
   ·intro b' N' hb' kp
    rw[hb]at hb';injection hb' with hb';injection hb' with e1 e2;subst e1;subst e2
    refine hO _ (fun _=>rfl) kp (fun b2 k2 h=>by rw[oK _ (hq0 b2 _ h)];exact h) fun u hu=>?_
    obtain⟨A,c,a1,a2,a3,a4⟩:=hu
    rcases a4 with⟨h1,h2,h3⟩|⟨b2,N2,h1,h2,h3⟩
    ·exact⟨A,c,a1,a2,a3,.inl ⟨h1.resolve_right (by omega),h2,h3⟩⟩
    ·rw[hbm]at h1;injection h1 with h1;injection h1 with e1 e2;subst e1;subst e2
     refine⟨A,c,a1,a2,a3,.inr ⟨b1,cs1,by simpa using h2,IP _ _ _,p1,by rw[p2,←h3];simp,fun e k he hk=>?_⟩⟩;obtain⟨u,r1,r2⟩:=p4 e k he hk;rw[hg e k he hk]at r2;exact⟨u,r1,r2⟩
   ·intro b2 ad hq
    by_cases e:b2=b1
    ·subst e;exact .inr ⟨N1,hbm⟩
    ·rw[oK _ e]at hq;exact .inl hq
   ·intro b2 ad hq
    rw[oK _ (hq0 b2 ad hq)];exact hq
theorem wY{id:Nat}{ok:Value→Bool}{ty:TypeId}{sz:Nat}{g:Value→Nat×(Nat→Nat→PV)}(k0:Value)(hid:bC .gone st.h id=.mapl ok ty sz g none) :
  cW G st ⟨st.t,fB (.row ty sz (g k0).1 fun e o=>.p ((g k0).2 e o)) (eT (.mapl ok ty sz g (some (k0,.sl (fG st.h) sz 0 (g k0).1))) st.h id)⟩:=by
 rw[eL];refine ZX (by rw[hid];rfl) rfl ?_;intro β R w hh b N hb
 have hob:=hh.obj id b N hb
 rw[hid]at hob;obtain⟨es,cl,g1,g2,g3,g4⟩:=hob
 have key:∀β',iX β R w β' R w→(∀(i:Nat) (e:MapEntry),es.toList[i]?=some e→e.key≠k0→oU β' R w (b,i) (.own ty sz (g e.key).1 (g e.key).2) e.val)→(∀(i:Nat) (e:MapEntry),es.toList[i]?=some e→e.key=k0→CR β' R w (.sl st.h.length sz 0 (g k0).1) e.val) →
   ((∀e∈es.toList,e.key≠k0)→CR β' R w (.sl st.h.length sz 0 (g k0).1) (.slice none 0 0))→OR β' R w (.mapl ok ty sz g (some (k0,.sl st.h.length sz 0 (g k0).1))) b N:=by
  intro β' kp h1 h2 h3;refine⟨es,cl,g1,g2,fun i e he=>⟨(g3 i e he).1,fun k1 c1 q1 q2=>?_,fun q1=>h1 i e he (q1 k0 _ rfl)⟩,fun k hk=>⟨fun k1 c1 q1 q2=>?_,fun _=>(g4 k hk).2 (fun _ _ q=>by cases q)⟩⟩
  ·injection q1 with q1;injection q1 with e1 e2;subst e1;subst e2
   exact h2 i e he q2
  ·injection q1 with q1;injection q1 with e1 e2;subst e1;subst e2;subst q2
   exact h3 hk
 have hkp:iX β R w β R w:=⟨fun _ _ h=>h,fun _ h=>h,fun _ _=>rfl⟩
 have own:∀(i:Nat) (e:MapEntry),es.toList[i]?=some e→oU β R w (b,i) (.own ty sz (g e.key).1 (g e.key).2) e.val:=fun i e he=>(g3 i e he).2.2 fun _ _ q=>by cases q
 have uniq:∀(i j:Nat) (e e':MapEntry),es.toList[i]?=some e→es.toList[j]?=some e'→e.key=e'.key→i=j:=fun i j e e' hi hj hk=>by
  obtain⟨hi',hie⟩:=aX.1 hi;obtain⟨hj',hje⟩:=aX.1 hj
  rcases Nat.lt_trichotomy i j with hl|hl|hl
  ·exact absurd (by rw[hie,hje];exact hk) (dZ.1 g2.1 i j hi' hj' hl)
  ·exact hl
  ·exact absurd (by rw[hie,hje];exact hk.symm) (dZ.1 g2.1 j i hj' hi' hl)
 have nilsl:(g k0).1=0→CR β R w (.sl st.h.length sz 0 (g k0).1) (.slice none 0 0):=fun h0=>by
  rw[h0];exact⟨none,0,rfl,aW _,bX _,.inl ⟨.inl rfl,rfl,rfl⟩⟩
 by_cases hex:∃(j:Nat) (e:MapEntry),es.toList[j]?=some e∧e.key=k0
 ·obtain⟨j,e0,hj,hk⟩:=hex
  have hu:=own j e0 hj
  rw[hk]at hu;obtain⟨A,c,a1,a2,a3,a4⟩:=hu
  rcases a4 with⟨rfl,h0,rfl⟩|⟨b1,cs1,rfl,p1,p2,p3,p4⟩
  ·left
   refine key β hkp (fun i e he _=>own i e he) (fun i e he hk'=>?_) (fun h=>absurd hk (h e0 (cM hj)))
   have:i=j:=uniq i j e e0 he hj (hk'.trans hk.symm)
   subst this;rw[hj]at he;injection he with he;subst he;rw[a1,h0];exact⟨none,0,rfl,aW _,bX _,.inl ⟨.inl rfl,rfl,rfl⟩⟩
  ·right
   refine⟨b1,cs1,c,j,p1,p2,p3,a2,p4,fun β' kp kq hn=>?_⟩;refine key β' kp (fun i e he hne=>?_) (fun i e he hk'=>?_) (fun h=>absurd hk (h e0 (cM hj)))
   ·refine KM kp (fun b2 hq=>⟨kq b2 i hq fun hij=>?_,rfl⟩) (own i e he)
    subst hij;rw[hj]at he;injection he with he;subst he;exact hne hk
   ·have:i=j:=uniq i j e e0 he hj (hk'.trans hk.symm)
    subst this;rw[hj]at he;injection he with he;subst he;exact⟨_,c,a1,a2,a3,.inr ⟨b1,c*sz,hn,by simp,by simp⟩⟩
 ·left
  have hno:∀e∈es.toList,e.key≠k0:=fun e he hk=>by
   obtain⟨i,hi⟩:=List.getElem?_of_mem he;exact hex ⟨i,e,hi,hk⟩
  refine key β hkp (fun i e he _=>own i e he) (fun i e he hk'=>absurd hk' (hno e (cM he))) (fun _=>nilsl ((g4 k0 hno).2 fun _ _ q=>by cases q))
noncomputable def zY(g:Value→Nat×(Nat→Nat→PV))(k0:Value)(n:Nat)(f:Nat→Nat→PV):Value→Nat×(Nat→Nat→PV):=by
 classical
 exact fun k=>if k=k0 then (n,f) else g k
theorem rU(g:Value→Nat×(Nat→Nat→PV))(k0:Value)(n:Nat)(f:Nat→Nat→PV):zY g k0 n f k0=(n,f):=by unfold zY;simp
theorem sO(g:Value→Nat×(Nat→Nat→PV)){k0 k:Value}(n:Nat)(f:Nat→Nat→PV)(h:k≠k0):zY g k0 n f k=g k:=by unfold zY;simp[h]
theorem uM{id m:Nat}{ok:Value→Bool}{ty:TypeId}{sz n:Nat}{g:Value→Nat×(Nat→Nat→PV)}{k0:Value}{h:Nat→Nat→C}(F:Nat→Nat→PV)(hid:bC .gone st.h id=.mapl ok ty sz g (some (k0,.sl m sz 0 n)))(hmd:bC .gone st.h m=.row ty sz n h)(hg:∀e o,e<n→o<sz→h e o=.p (F e o)) :
  cW G st ⟨st.t,eT .gone (eT (.mapl ok ty sz (zY g k0 n F) none) st.h id) m⟩:=by
 refine VG (by rw[hid];rfl) rfl hmd hg (fun e=>by subst e;rw[hid]at hmd;cases hmd) ?_;intro β R w hh b N hb
 have hob:=hh.obj id b N hb
 rw[hid]at hob;obtain⟨es,cl,g1,g2,g3,g4⟩:=hob
 have uniq:∀(i j:Nat) (e e':MapEntry),es.toList[i]?=some e→es.toList[j]?=some e'→e.key=e'.key→i=j:=fun i j e e' hi hj hk=>by
  obtain⟨hi',hie⟩:=aX.1 hi;obtain⟨hj',hje⟩:=aX.1 hj
  rcases Nat.lt_trichotomy i j with hl|hl|hl
  ·exact absurd (by rw[hie,hje];exact hk) (dZ.1 g2.1 i j hi' hj' hl)
  ·exact hl
  ·exact absurd (by rw[hie,hje];exact hk.symm) (dZ.1 g2.1 j i hj' hi' hl)
 have rest:∀(j:Nat) (β':Bt),(∀(i:Nat) (e:MapEntry),es.toList[i]?=some e→e.key=k0→i=j)→iX β R w β' R w→(∀b1 k1,β.q b1=some (b,k1)→β'.q b1=some (b,k1)) →
   (∀u,CR β R w (.sl m sz 0 n) u→oU β' R w (b,j) (.own ty sz n F) u)→OR β' R w (.mapl ok ty sz (zY g k0 n F) none) b N:=by
  intro j β' hj kp kq hu;refine⟨es,cl,g1,g2,fun i e he=>⟨(g3 i e he).1,fun _ _ q=>(by cases q),fun _=>?_⟩,fun k hk=>⟨fun _ _ q=>(by cases q),fun _=>?_⟩⟩
  ·by_cases hk:e.key=k0
   ·rw[hk,rU]
    have:=hj i e he hk
    subst this;exact hu _ ((g3 i e he).2.1 k0 _ rfl hk)
   ·rw[sO _ _ _ hk]
    refine KM kp (fun b2 hq=>⟨kq b2 i hq,rfl⟩) ((g3 i e he).2.2 fun k1 c1 q=>?_);injection q with q;injection q with q _;subst q;exact hk
  ·by_cases hk0:k=k0
   ·subst hk0
    rw[rU]
    have:=(g4 k hk).1 k _ rfl rfl
    obtain⟨A,c,a1,a2,a3,a4⟩:=this;injection a1 with _ a1 _;exact a1.symm
   ·rw[sO _ _ _ hk0]
    exact(g4 k hk).2 fun k1 c1 q=>by injection q with q;injection q with q _;subst q;exact hk0
 by_cases hex:∃(j:Nat) (e:MapEntry),es.toList[j]?=some e∧e.key=k0
 ·obtain⟨j,e0,hj,hk⟩:=hex
  exact⟨j,fun β' _ kp kq hu=>rest j β' (fun i e he hk'=>uniq i j e e0 he hj (hk'.trans hk.symm)) kp kq hu⟩
 ·exact⟨0,fun β' _ kp kq hu=>rest 0 β' (fun i e he hk'=>absurd ⟨i,e,he,hk'⟩ hex) kp kq hu⟩
end
def aK6{α:Type}:List α→List Bool
 |[]=>[]
 |_::r=>true::aK6 r
def aMT(st:St):AR→Option V
 |.tmp t=>match bC (.c .top) st.t t with
  |.t _=>none
  |v=>some v
 |.cell t n=>match bC (.c .top) st.t t with
  |.c (.ptr id off)=>match bC .gone st.h id with
   |.cells _ vs=>match dV (off+oY n) (fG vs) with
    |true=>match ldN (bC .top vs) off n with
     |.t _=>none
     |v=>some v
    |false=>none
   |_=>none
  |_=>none
 |.new _=>none
def EK(st:St):List AR→Option (List V)
 |[]=>some []
 |r::l=>match aMT st r with
  |some v=>match EK st l with
   |some vs=>some (v::vs)
   |none=>none
  |none=>none
def uR(st:St):List Nat→List V→List V
 |[],vs=>vs
 |j::r,vs=>bC (.c .top) st.t j::uR st r vs
def aM1(ps:List Nat)(vs:List V)(st:St):St:=gcS (aK6 (uR st ps vs)) ⟨uR st ps vs,st.h⟩
def gP(ps:List Nat)(keep:List Bool)(rs:List AR)(e:X)(st:St):Tr:=match e with
 |.ret=>match EK st rs with
  |some vs=>.done .ret (aM1 ps vs st)
  |none=>.fail
 |e=>.done e (gcS keep st)
section
variable {P:Program} {G:Nat→Option Obj}
def Zm(ps:List Nat)(rs:List AR)(Z0:St→Prop)(st:St):Prop:=∃vs,EK st rs=some vs∧Z0 (aM1 ps vs st)
def KFZ(Z0:St→Prop)(K:X→St→Prop)(e:X)(st:St):Prop:=match e with
 |.ret=>Z0 st
 |e=>K e st
theorem mU{Z:St→Prop}{K:X→St→Prop}{j:Nat}{st:St}:KFZ Z K (.exit j) st↔K (.exit j) st:=Iff.rfl
theorem cI{Z:St→Prop}{K:X→St→Prop}{st:St}:KFZ Z K .normal st↔K .normal st:=Iff.rfl
theorem kA{Z:St→Prop}{K:X→St→Prop}{st:St}:KFZ Z K .ret st↔Z st:=Iff.rfl
def mY(P:Program)(G:Nat→Option Obj)(Z:St→Prop)(ac:dQ)(st:St)(K:X→St→Prop):Prop:=kM P G ac st (KFZ Z K)
def eP(P:Program)(G:Nat→Option Obj)(Z:St→Prop):List dQ→St→(X→St→Prop)→Prop
 |[],st,Q=>∃st2,cW G st st2∧Q .normal st2
 |c::r,st,Q=>mY P G Z c st fun e st'=>match e with
  |.normal=>eP P G Z r st' Q
  |e=>Q e st'
variable {Z:St→Prop}
theorem mY.pre{ac:dQ}{st st2:St}{K:X→St→Prop}(hw:cW G st st2)(h:mY P G Z ac st2 K):mY P G Z ac st K:=kM.pre hw h
theorem mY.mono{ac:dQ}{st:St}{K K':X→St→Prop}(h:mY P G Z ac st K)(hk:∀e st,e≠.ret→K e st→K' e st):mY P G Z ac st K':=
 kM.mono h fun e st q=>by
  cases e with
  |ret=>exact q
  |normal=>exact hk _ _ (by simp) q
  |exit id=>exact hk _ _ (by simp) q
theorem mY.seq{a b:dQ}{st:St}{K1 K:X→St→Prop}(h:mY P G Z a st K1)(hn:∀st',K1 .normal st'→mY P G Z b st' K)(hx:∀id st',K1 (.exit id) st'→K (.exit id) st'):mY P G Z (.seq a b) st K:=
 kM.seq h hn fun e st' he q=>by
  cases e with
  |normal=>exact absurd rfl he
  |ret=>exact q
  |exit id=>exact hx id st' q
theorem mY.block{id:Nat}{a:dQ}{st:St}{K:X→St→Prop}(h:mY P G Z a st fun e st'=>match e with
  |.exit j=>if j=id then K .normal st' else K (.exit j) st'
  |e=>K e st'):mY P G Z (.block id a) st K:=
 kM.block (kM.mono h fun e st' q=>by
  cases e with
  |normal=>exact q
  |ret=>exact q
  |exit j=>
   show if j=id then KFZ Z K .normal st' else KFZ Z K (.exit j) st'
   exact q)
theorem mY.loop{a:dQ}{K:X→St→Prop}{σ:Type}(C:σ→St)(I:σ→Prop)(μ:σ→Nat)(s0:σ)(hI:I s0)
  (step:∀s,I s→mY P G Z a (C s) fun e st'=>match e with
   |.normal=>∃s',I s'∧μ s'<μ s∧cW G st' (C s')
   |e=>K e st'):mY P G Z (.loop a) (C s0) K:=
 kM.loop C I μ s0 hI fun s hs=>kM.mono (step s hs) fun e st' q=>by
  cases e with
  |normal=>exact q
  |ret=>exact q
  |exit j=>exact q
theorem mY.post{ac:dQ}{st:St}{K:X→St→Prop}(h:mY P G Z ac st fun e st'=>∃st2,cW G st' st2∧K e st2):mY P G Z ac st K:=by
 refine kM.post (kM.mono h fun e st' hk=>?_);cases e with
 |ret=>exact⟨st',cW.refl st',hk⟩
 |normal=>exact hk
 |exit id=>exact hk
theorem eP.pre{l:List dQ}{st st2:St}{Q:X→St→Prop}(hw:cW G st st2)(h:eP P G Z l st2 Q):eP P G Z l st Q:=by
 cases l with
 |nil=>obtain⟨st3,h1,h2⟩:=h;exact⟨st3,hw.trans h1,h2⟩
 |cons c r=>exact mY.pre hw h
theorem eP.cut:∀ {a b:List dQ} {st:St} {Q:X→St→Prop},eP P G Z (rS a b) st Q→eP P G Z a st fun e st'=>match e with
  |.normal=>eP P G Z b st' Q
  |e=>Q e st'
 |[],_,st,_,h=>⟨st,cW.refl st,h⟩
 |_::_,_,_,_,h=>mY.mono h fun e st' _ q=>by
  cases e with
  |normal=>exact eP.cut q
  |ret=>exact q
  |exit id=>exact q
theorem eP.glue:∀ {a b:List dQ} {st:St} {Q:X→St→Prop},(eP P G Z a st fun e st'=>match e with
  |.normal=>eP P G Z b st' Q
  |e=>Q e st')→eP P G Z (rS a b) st Q
 |[],_,_,_,⟨_,h1,h2⟩=>eP.pre h1 h2
 |_::_,_,_,_,h=>mY.mono h fun e st' _ q=>by
  cases e with
  |normal=>exact eP.glue q
  |ret=>exact q
  |exit id=>exact q
theorem eP.code:∀ {c:dQ} {st:St} {Q:X→St→Prop},eP P G Z (eZ c) st Q→mY P G Z c st Q:=by
 intro c;induction c with
 |seq a b iha ihb=>
  intro st Q h
  have h1:=eP.cut (a:=eZ a) (b:=eZ b) h
  refine mY.seq (iha h1) (fun st' hq=>ihb hq) (fun id st' hq=>hq)
 |_=>
  intro st Q h;refine mY.post (mY.mono h fun e st' _ q=>?_);cases e with
  |normal=>exact q
  |ret=>exact⟨st',cW.refl st',q⟩
  |exit id=>exact⟨st',cW.refl st',q⟩
theorem BA{ps:List Nat}{keep:List Bool}{rs:List AR}{Z0:St→Prop}{e:X}{st:St}{K:X→St→Prop}(h:(gP ps keep rs e st).holds P G (KFZ Z0 K)):∃st2,cW G st st2∧KFZ (Zm ps rs Z0) K e st2:=by
 cases e with
 |ret=>
  refine⟨st,cW.refl st,?_⟩;unfold gP at h;dsimp only at h;split at h
  ·rename_i vs hvs;exact⟨vs,hvs,h⟩
  ·exact h.elim
 |normal=>exact⟨_,gB keep st,h⟩
 |exit id=>exact⟨_,gB keep st,h⟩
theorem vH{ext:Ext}(hext:bG P G ext){ps:List Nat}{keep:List Bool}{rs:List AR}{Z0:St→Prop}:∀ {l:List dQ} {st:St} {K:X→St→Prop},(dF ext l st (gP ps keep rs)).holds P G (KFZ Z0 K)→eP P G (Zm ps rs Z0) l st K
 |[],st,K,h=>BA h
 |c::r,st,K,h=>by
  have h1:=kM.ev hext h
  refine mY.post ?_;refine kM.post (kM.mono h1 fun e st' q=>?_);cases e with
  |normal=>exact⟨st',cW.refl st',st',cW.refl st',vH hext q⟩
  |ret=>
   obtain⟨st2,q1,q2⟩:=BA q;exact⟨st2,q1,q2⟩
  |exit id=>
   obtain⟨st2,q1,q2⟩:=BA q;exact⟨st2,q1,st2,cW.refl st2,q2⟩
theorem eP.evG{ext:Ext}(hext:bG P G ext)(n:Nat){ps:List Nat}{keep:List Bool}{rs:List AR}{Z0:St→Prop}{l:List dQ}{st:St}{Q:X→St→Prop}{tree:Tr}(ht:dF ext (dL n l) st (gP ps keep rs)=tree)
  (h:tree.holds P G (KFZ Z0 fun e st'=>match e with
   |.normal=>eP P G (Zm ps rs Z0) (bL n l) st' Q
   |e=>Q e st')):eP P G (Zm ps rs Z0) l st Q:=by
 rw[←qY n l];subst ht;exact eP.glue (vH hext h)
theorem eP.evH{ext:Ext}(hext:bG P G ext){ps:List Nat}{keep:List Bool}{rs:List AR}{Z0:St→Prop}{l:List dQ}{st:St}{Q:X→St→Prop}{tree:Tr}(ht:dF ext l st (gP ps keep rs)=tree)(h:tree.holds P G (KFZ Z0 Q)):eP P G (Zm ps rs Z0) l st Q:=by
 subst ht;exact vH hext h
theorem eP.loop{id:Nat}{b:dQ}{l r:List dQ}{st:St}{Q:X→St→Prop}(hl:l=.block id (.loop b)::r){σ:Type}(C:σ→St)(I:σ→Prop)(μ:σ→Nat)(s0:σ)(hI:I s0)(hw:cW G st (C s0))
  (step:∀s,I s→eP P G Z (eZ b) (C s) fun e st'=>match e with
   |.normal=>∃s',I s'∧μ s'<μ s∧cW G st' (C s')
   |.exit j=>if j=id then eP P G Z r st' Q else Q (.exit j) st'
   |.ret=>True):eP P G Z l st Q:=by
 subst hl;refine mY.pre hw (mY.block ?_)
 refine mY.loop C I μ s0 hI fun s hs=>?_
 refine mY.mono (eP.code (step s hs)) fun e st' he q=>?_
 cases e with
 |normal=>exact q
 |exit j=>exact q
 |ret=>exact absurd rfl he
theorem eP.loop'{id:Nat}{b:dQ}{l r:List dQ}{st:St}{Q:X→St→Prop}(hl:l=.block id (.loop b)::r){σ:Type}(C:σ→St)(I:σ→Prop)(μ:σ→Nat)(s0:σ)(hI:I s0)(hw:cW G st (C s0))
  (step:∀s,I s→∀Q':X→St→Prop,(∀s' st',I s'→μ s'<μ s→cW G st' (C s')→Q' .normal st')→(∀st',eP P G Z r st' Q→Q' (.exit id) st')→(∀j st',j≠id→Q (.exit j) st'→Q' (.exit j) st')→eP P G Z (eZ b) (C s) Q'):eP P G Z l st Q:=
 eP.loop hl C I μ s0 hI hw fun s hs=>step s hs _ (fun s' _ h1 h2 h3=>⟨s',h1,h2,h3⟩) (fun _ h=>by simpa using h) (fun j _ hj h=>by simpa[hj] using h)
theorem eP.blk{id:Nat}{a:dQ}{l r:List dQ}{st:St}{Q:X→St→Prop}(hl:l=.block id a::r)(h:eP P G Z (eZ a) st fun e st'=>match e with
   |.normal=>eP P G Z r st' Q
   |.exit j=>if j=id then eP P G Z r st' Q else Q (.exit j) st'
   |.ret=>True):eP P G Z l st Q:=by
 subst hl;refine mY.block (mY.mono (eP.code h) fun e st' he q=>?_);cases e with
 |normal=>exact q
 |exit j=>exact q
 |ret=>exact absurd rfl he
theorem eP.blk'{id:Nat}{a:dQ}{l r:List dQ}{st:St}{Q:X→St→Prop}(hl:l=.block id a::r)
  (h:∀Q':X→St→Prop,(∀st',eP P G Z r st' Q→Q' .normal st')→(∀st',eP P G Z r st' Q→Q' (.exit id) st')→(∀j st',j≠id→Q (.exit j) st'→Q' (.exit j) st')→eP P G Z (eZ a) st Q'):eP P G Z l st Q:=
 eP.blk hl (h _ (fun _ h=>h) (fun _ h=>by simpa using h) (fun j _ hj h=>by simpa[hj] using h))
theorem eP.cond{k:Nat}{a b:dQ}{l r:List dQ}{st:St}{x:Bool}{Q:X→St→Prop}(hl:l=.cond (.t k) a b::r)(hx:bC (.c .top) st.t k=.c (.p (.b x)))
  (h1:x=true→∀Q':X→St→Prop,(∀st,eP P G Z r st Q→Q' .normal st)→(∀j st,Q (.exit j) st→Q' (.exit j) st)→eP P G Z (eZ a) ⟨eT (.c (.p (.b true))) st.t k,st.h⟩ Q')
  (h2:x=false→∀Q':X→St→Prop,(∀st,eP P G Z r st Q→Q' .normal st)→(∀j st,Q (.exit j) st→Q' (.exit j) st)→eP P G Z (eZ b) ⟨eT (.c (.p (.b false))) st.t k,st.h⟩ Q'):eP P G Z l st Q:=by
 subst hl
 exact kM.cond hx (fun e=>eP.code (h1 e (fun e st'=>match e with
  |.normal=>eP P G Z r st' Q
  |e=>Q e st') (fun _ h=>h) (fun _ _ h=>h))) (fun e=>eP.code (h2 e (fun e st'=>match e with
  |.normal=>eP P G Z r st' Q
  |e=>Q e st') (fun _ h=>h) (fun _ _ h=>h)))
theorem rC{β:Bt}{R:Nat→Prop}{w:World}{st:St}{a:Act}(hs:iB G β R st a w):∀(frs:List ResultVar) (rs:List AR) (_:zM P frs=some rs) {vs:List V} (_:EK st rs=some vs),
  ∃us,(frs.mapM (KW a.tmps)).run P w=.ok us w∧dJ (VR β R w) vs us
 |[],rs,hr,vs,h=>by
  simp only[zM,aJ]at hr;subst hr;simp only[EK,aJ]at h;subst h;exact⟨[],by simp,trivial⟩
 |.tmp t::frs,rs,hr,vs,h=>by
  simp only[zM,bD]at hr;obtain⟨rs',hr,rfl⟩:=hr;simp only[EK]at h;split at h
  ·rename_i v hv
   split at h
   ·rename_i vs' hvs
    injection h with h;subst h;obtain⟨us,h4,h5⟩:=rC hs frs rs' hr hvs
    have hv2:bC (.c .top) st.t t=v:=by
     simp only[aMT]at hv;split at hv
     ·cases hv
     ·injection hv
    have h1:=bW (x:=.tmp t) hs rfl
    have h1:VR β R w (bC (.c .top) st.t t) (a.tmps.getD t undef):=h1
    rw[hv2]at h1;refine⟨_::us,?_,⟨h1,h5⟩⟩;simp[List.mapM_cons,KW,h4]
   ·cases h
  ·cases h
 |.cell t ty::frs,rs,hr,vs,h=>by
  simp only[zM,aV,aM,bE,aJ]at hr;obtain⟨n,hn,rs',hr,rfl⟩:=hr;simp only[EK]at h;split at h
  ·rename_i v hv
   split at h
   ·rename_i vs' hvs
    injection h with h;subst h;obtain⟨us,h4,h5⟩:=rC hs frs rs' hr hvs;simp only[aMT]at hv;split at hv
    ·rename_i id off hp
     split at hv
     ·rename_i ty' cv hid
      split at hv
      ·rename_i hb
       have hv2:ldN (bC .top cv) off n=v:=by
        split at hv
        ·cases hv
        ·injection hv
       have hptr:=bW (x:=.tmp t) hs rfl
       have e:st.ev (.t t)=.c (.ptr id off):=hp
       rw[e]at hptr;obtain⟨b,o0,g1,g2⟩:=hptr
       have hob:=hs.hs.obj id b o0 g1
       rw[hid]at hob;obtain⟨cs,g3,g4⟩:=hob
       have hlen:off+oY n≤cv.length:=by rw[eL]at hb;simpa using hb
       have hsz:cv.length=cs.size:=by simpa using g4.length
       have hl:(cs.extract off (off+oY n)).toList.length=oY n:=by simp;omega
       have g2:a.tmps.getD t undef=.pointer (some ⟨b,off,none⟩):=g2
       have hrun:=sQ (P:=P) (w:=w) hn hl (World.rangeAt_of_block g3 off (oY n))
       have hrun:(loadVar ty ⟨b,off,none⟩).run P w=.ok (ldV (cs.extract off (off+oY n)).toList n) w:=by
        simpa[Instr.loadAt,Instr.sureAddr] using hrun
       have hval:VR β R w (ldN (bC .top cv) off n) (ldV (cs.extract off (off+oY n)).toList n):=oP hl (fun j u hu=>by
        have hj:j<oY n:=by have:=(aX.1 hu).1;omega
        refine g4.nth_get ?_
        rw[←hu,cR,cR,Array.getElem?_extract,if_pos (by omega)])
       rw[hv2]at hval;refine⟨_::us,?_,⟨hval,h5⟩⟩
       have hra:(KW a.tmps (.cell t ty)).run P w=.ok (ldV (cs.extract off (off+oY n)).toList n) w:=by
        show (do loadVar ty (←asAddr (a.tmps.getD t undef))).run P w=_
        rw[g2];simp only[asAddr,pure_bind];exact hrun
       rw[List.mapM_cons,Sem.run_bind,hra,Result.andThen_ok,Sem.run_bind,h4];rfl
      ·cases hv
     ·cases hv
    ·cases hv
   ·cases h
  ·cases h
end
def inC(ρ ids:List Nat)(n:Nat):C→C
 |.ptr id off=>match jM id ids 0 with
  |some i=>.ptr (n+i) off
  |none=>bQ ρ (.ptr id off)
 |x=>bQ ρ x
def aO6(ρ ids:List Nat)(n:Nat):List C→List C
 |[]=>[]
 |c::r=>inC ρ ids n c::aO6 ρ ids n r
def CQ(ρ ids:List Nat)(n:Nat):V→V
 |.c x=>.c (inC ρ ids n x)
 |.a cs=>.a (aO6 ρ ids n cs)
 |.t _=>.c .top
def oQ(ρ ids:List Nat)(n:Nat):List V→List V
 |[]=>[]
 |v::r=>CQ ρ ids n v::oQ ρ ids n r
def vB(ρ:List Nat):List Nat→List Nat→List AO
 |id::r,b::bs=>(match jM id ρ 0 with
  |some j=>.pin j b
  |none=>.gone)::vB ρ r bs
 |_,_=>[]
def GO:List AO→List AO→List AO
 |[],m=>m
 |x::r,m=>x::GO r m
theorem vK:∀l m:List AO,GO l m=l++m
 |[],_=>rfl
 |x::r,m=>by simp[GO,vK r m]
def inH(ρ ids:List Nat)(h:List AO)(bs:List Nat):List AO:=GO (mO ρ h ρ) (vB ρ ids bs)
def wN:List Nat→List Nat→Nat→Option Nat
 |j::js,id::ids,x=>match cA j x with
  |true=>some id
  |false=>wN js ids x
 |_,_,_=>none
def aMW(js ids:List Nat)(L x:Nat):Nat:=match wN js ids x with
 |some id=>id
 |none=>L+x
def wL(js ids:List Nat)(L:Nat):C→C
 |.p x=>.p x
 |.ptr id off=>.ptr (aMW js ids L id) off
 |.rp id sz e o=>match pF id js with
  |true=>.top
  |false=>.rp (L+id) sz e o
 |.lp sz n f e o=>.lp sz n f e o
 |.sl id sz off len=>match pF id js with
  |true=>.top
  |false=>.sl (L+id) sz off len
 |.mp id=>match pF id js with
  |true=>.top
  |false=>.mp (L+id)
 |.own ty sz n f=>.own ty sz n f
 |.fn .. => .top
 |.top=>.top
def BQ(js ids:List Nat)(L:Nat):List C→List C
 |[]=>[]
 |c::r=>wL js ids L c::BQ js ids L r
def aQE(js ids:List Nat)(L:Nat):V→V
 |.c x=>.c (wL js ids L x)
 |.a cs=>.a (BQ js ids L cs)
 |.t _=>.c .top
def ZV(js ids:List Nat)(L:Nat):AO→AO
 |.cells ty vs=>.cells ty (BQ js ids L vs)
 |.row ty sz n f=>.row ty sz n fun e o=>wL js ids L (f e o)
 |.foc ty sz n e0 vs f=>.foc ty sz n e0 (BQ js ids L vs) fun e o=>wL js ids L (f e o)
 |.mapb ok g=>.mapb ok g
 |.mapl ok ty sz g none=>.mapl ok ty sz g none
 |.mapl ok ty sz g (some (k,c))=>.mapl ok ty sz g (some (k,wL js ids L c))
 |.pin .. => .gone
 |.gone=>.gone
def xO(f:Nat→AO→AO):Nat→List AO→List AO
 |_,[]=>[]
 |i,x::r=>f i x::xO f (i+1) r
def wM(ρ ids js:List Nat)(L:Nat)(hE:List AO)(i:Nat)(x:AO):AO:=match wN ids js i with
 |some j=>ZV js ids L (bC .gone hE j)
 |none=>match pF i ρ with
  |true=>.gone
  |false=>x
def aNS(js ids:List Nat)(L:Nat)(j:Nat)(x:AO):AO:=match pF j js with
 |true=>.gone
 |false=>ZV js ids L x
def iT(ρ ids js:List Nat)(h hE:List AO):List AO:=GO (xO (wM ρ ids js (fG h) hE) 0 h) (xO (aNS js ids (fG h)) 0 hE)
theorem nP(f:Nat→AO→AO):∀(i:Nat) (l:List AO),(xO f i l).length=l.length
 |_,[]=>rfl
 |i,x::r=>by simp[xO,nP f (i+1) r]
theorem FC(f:Nat→AO→AO):∀(i:Nat) (l:List AO) (j:Nat),j<l.length→bC .gone (xO f i l) j=f (i+j) (bC .gone l j)
 |_,[],j,h=>by simp at h
 |i,x::r,0,_=>rfl
 |i,x::r,j+1,h=>by
  show bC .gone (xO f (i+1) r) j=_
  rw[FC f (i+1) r j (by simpa using h),show i+1+j=i+(j+1) by omega];rfl
theorem EV{l m:List AO}{i:Nat}(h:i<l.length):bC .gone (GO l m) i=bC .gone l i:=by
 rw[vK,fU,fU,aD,aD,cG h]
theorem EW{l m:List AO}{i:Nat}(h:l.length≤i):bC .gone (GO l m) i=bC .gone m (i-l.length):=by
 rw[vK,fU,fU,aD,aD,cV h]
theorem OH{ρ ids js:List Nat}{h hE:List AO}{i:Nat}(hi:i<h.length):bC .gone (iT ρ ids js h hE) i=wM ρ ids js (fG h) hE i (bC .gone h i):=by
 unfold iT;rw[EV (by rw[nP];exact hi),FC _ _ _ _ hi,cK]
theorem OI{ρ ids js:List Nat}{h hE:List AO}{j:Nat}(hj:j<hE.length):bC .gone (iT ρ ids js h hE) (h.length+j)=aNS js ids (fG h) j (bC .gone hE j):=by
 unfold iT;rw[EW (by rw[nP];omega),nP,show h.length+j-h.length=j by omega,FC _ _ _ _ hj,cK]
theorem OA{ρ ids js:List Nat}{h hE:List AO}:(iT ρ ids js h hE).length=h.length+hE.length:=by
 unfold iT;rw[vK,aL,nP,nP]
theorem AQ{x y:Nat}:∀ {js ids:List Nat},wN js ids x=some y→∃m:Nat,js[m]?=some x∧ids[m]?=some y
 |[],_,h=>by simp[wN]at h
 |_::_,[],h=>by simp[wN]at h
 |j::js,id::ids,h=>by
  simp only[wN]at h;cases hb:cA j x with
  |true=>
   rw[hb]at h;injection h with h;exact⟨0,by simp[aS hb],by simp[h]⟩
  |false=>
   rw[hb]at h;obtain⟨m,h1,h2⟩:=AQ h;exact⟨m+1,by simpa using h1,by simpa using h2⟩
theorem ZU{js ids:List Nat}{L:Nat}{x:AO}(h:(ZV js ids L x).live=true):x.live=true:=by
 cases x with
 |pin=>cases h
 |gone=>cases h
 |_=>rfl
section
variable {P:Program} {G:Nat→Option Obj} {β β2 β3:Bt} {R R2:Nat→Prop} {w w':World} {h hE:List AO} {ρ ids js bs:List Nat}
def sW(β:Bt)(ρ:List Nat)(b:Nat):Prop:=∃id∈ρ,∃o,β id=some (b,o)
open Classical in
noncomputable def AV(β:Bt)(ρ ids:List Nat):Bt:=⟨fun j=>if j<ρ.length then (ρ[j]?).bind β.f else (ids[j-ρ.length]?).bind β.f,fun b=>match β.q b with
 |some (bi,c)=>if sW β ρ bi then some (bi,c) else none
 |none=>none⟩
theorem CB{j:Nat}{x:Nat×Nat}(hx:AV β ρ ids j=some x):(j<ρ.length∧∃id,ρ[j]?=some id∧β id=some x)∨(ρ.length≤j∧∃id,ids[j-ρ.length]?=some id∧β id=some x):=by
 simp only[AV]at hx;split at hx
 ·rename_i hj
  simp only[aM]at hx;exact .inl ⟨hj,hx⟩
 ·rename_i hj
  simp only[aM]at hx;exact .inr ⟨by omega,hx⟩
theorem aKO{b:Nat}{ad:Nat×Nat}(hx:(AV β ρ ids).q b=some ad):β.q b=some ad∧sW β ρ ad.1:=by
 simp only[AV]at hx;split at hx
 ·rename_i bi c hq
  split at hx
  ·rename_i hp;injection hx with hx;subst hx;exact⟨hq,hp⟩
  ·cases hx
 ·cases hx
theorem aEX{b:Nat}{ad:Nat×Nat}(h1:β.q b=some ad)(h2:sW β ρ ad.1):(AV β ρ ids).q b=some ad:=by
 simp only[AV,h1,if_pos h2]
theorem MG{j:Nat}(hj:j<ρ.length):AV β ρ ids j=(ρ[j]?).bind β.f:=by simp only[AV,if_pos hj]
theorem aO8{j:Nat}(hj:ρ.length≤j):AV β ρ ids j=(ids[j-ρ.length]?).bind β.f:=by simp only[AV,if_neg (show ¬j<ρ.length by omega)]
theorem MH{b:Nat}(hsub:∀id∈ids,id∈ρ)(hb:(AV β ρ ids).has b):sW β ρ b∨∃ad,β.q b=some ad∧sW β ρ ad.1:=by
 rcases hb with⟨i,o,hi⟩|⟨ad,hi⟩
 ·left
  rcases CB hi with⟨_,id,h1,h2⟩|⟨_,id,h1,h2⟩
  ·exact⟨id,cM h1,o,h2⟩
  ·exact⟨id,hsub id (cM h1),o,h2⟩
 ·exact .inr ⟨ad,aKO hi⟩
theorem BP:∀ {ids bs:List Nat},ids.length=bs.length→(vB ρ ids bs).length=ids.length
 |[],[],_=>rfl
 |[],_::_,h=>by simp at h
 |_::_,[],h=>by simp at h
 |_::ids,_::bs,h=>by simp[vB,BP (ids:=ids) (bs:=bs) (by simpa using h)]
theorem NV:∀ {ids bs:List Nat} {i id b:Nat},ids[i]?=some id→bs[i]?=some b→bC .gone (vB ρ ids bs) i=(match jM id ρ 0 with
  |some j=>AO.pin j b
  |none=>.gone)
 |[],_,i,_,_,h,_=>by simp at h
 |_::_,[],i,_,_,_,h=>by simp at h
 |_::ids,_::bs,0,_,_,h1,h2=>by
  simp at h1 h2;subst h1;subst h2;rfl
 |_::ids,_::bs,i+1,_,_,h1,h2=>by
  show bC .gone (vB ρ ids bs) i=_
  exact NV (by simpa using h1) (by simpa using h2)
theorem JQ{id:Nat}:∀ {l:List Nat} (n:Nat),id∈l→∃j,jM id l n=some j
 |[],_,h=>by cases h
 |k::r,n,h=>by
  simp only[jM];cases hb:cA k id with
  |true=>exact⟨n,rfl⟩
  |false=>
   rcases fC.1 h with rfl|h
   ·rw[Nat.beq_refl]at hb;cases hb
   ·exact JQ (n+1) h
theorem IR:∀(ids bs:List Nat) (i:Nat),(bC .gone (vB ρ ids bs) i).live=false
 |[],_,_=>by cases ‹Nat› <;> rfl
 |_::_,[],i=>by cases i<;>rfl
 |id::ids,b::bs,0=>by
  show (match jM id ρ 0 with
  |some j=>AO.pin j b
  |none=>.gone).live=false
  cases jM id ρ 0<;>rfl
 |id::ids,b::bs,i+1=>IR ids bs i
theorem aQY(hh:HS G β R w h)(hρ:qI ρ=true)(hlv:∀id∈ρ,(bC .gone h id).live=true)(hsub:∀id∈ids,id∈ρ)(hbl:ids.length=bs.length)
  (hbs:∀(i:Nat) id b,ids[i]?=some id→bs[i]?=some b→∃o,β id=some (b,o)):HS G (AV β ρ ids) R w (inH ρ ids h bs):=by
 have hpl:(mO ρ h ρ).length=ρ.length:=sU ρ
 have hn1:∀j id,ρ[j]?=some id→bC .gone (inH ρ ids h bs) j=SH ρ (bC .gone h id):=fun j id hj=>by
  unfold inH;rw[EV (by rw[hpl];exact(aX.1 hj).1),oL hj]
 have hn2:∀j,ρ.length≤j→bC .gone (inH ρ ids h bs) j=bC .gone (vB ρ ids bs) (j-ρ.length):=fun j hj=>by
  unfold inH;rw[EW (by rw[hpl];exact hj),hpl]
 have hdead:∀j,ρ.length≤j→(bC .gone (inH ρ ids h bs) j).live=false:=fun j hj=>by rw[hn2 j hj];exact IR _ _ _
 have hkp:iX (bρ ρ β) R w (AV β ρ ids) R w:=⟨fun i x hi=>by
  have hi:(ρ[i]?).bind β.f=some x:=hi
  have hlt:i<ρ.length:=by
   rcases cL i ρ.length with h|h
   ·exact h
   ·rw[cB h]at hi;cases hi
  rw[MG hlt];exact hi,fun _ h=>h,fun _ _=>rfl⟩
 refine⟨?_,?_,?_,?_,hh.rlt,?_,hh.gl,?_⟩
 ·intro j x hj
  have hlen:(inH ρ ids h bs).length=ρ.length+ids.length:=by unfold inH;rw[vK,aL,hpl,BP hbl]
  rcases CB hj with⟨h1,_⟩|⟨h1,id,h2,_⟩
  ·omega
  ·have:=(aX.1 h2).1;omega
 ·intro i j b o o' hi hj li lj
  rcases CB hi with⟨h1,id,h2,h3⟩|⟨h1,_⟩
  ·rcases CB hj with⟨h4,jd,h5,h6⟩|⟨h4,_⟩
   ·have:=hh.inj id jd b o o' h3 h6 (hlv id (cM h2)) (hlv jd (cM h5))
    subst this;exact AJ hρ h2 h5
   ·rw[hdead j h4]at lj;cases lj
  ·rw[hdead i h1]at li;cases li
 ·intro i b o hi li
  rcases CB hi with⟨h1,id,h2,h3⟩|⟨h1,_⟩
  ·exact hh.sep id b o h3 (hlv id (cM h2))
  ·rw[hdead i h1]at li;cases li
 ·intro i b o hi
  rcases CB hi with⟨h1,id,h2,h3⟩|⟨h1,id,h2,h3⟩
  ·exact hh.lt id b o h3
  ·exact hh.lt id b o h3
 ·intro i b o hi
  rcases CB hi with⟨h1,id,h2,h3⟩|⟨h1,id,h2,h3⟩
  ·rw[hn1 i id h2]
   exact OR.keep hkp (fun b1 c hq=>⟨aEX hq ⟨id,cM h2,o,h3⟩,rfl⟩) rfl (EH (hh.obj id b o h3))
  ·have hlt:=(aX.1 h2).1
   have hb2:bs[i-ρ.length]?=some (bs[i-ρ.length]'(by omega)):=aK (by omega)
   generalize bs[i-ρ.length]'(by omega)=b2 at hb2
   obtain⟨j,hj⟩:=JQ (l:=ρ) 0 (hsub id (cM h2));rw[hn2 i h1,NV h2 hb2,hj];obtain⟨o2,h4⟩:=hbs _ id b2 h2 hb2;rw[h3]at h4;injection h4 with h4;injection h4 with h4 h5;subst h4;subst h5;refine⟨rfl,o,?_⟩
   have h6:=(tP hj).2
   simp only[Nat.sub_zero]at h6;rw[MG (aX.1 h6).1,h6];exact h3
 ·intro b ad hb
  obtain⟨h1,h2⟩:=aKO hb;obtain⟨q1,q2,q3⟩:=hh.ql b ad h1;refine⟨q1,q2,fun i o hi=>?_⟩
  rcases CB hi with⟨h3,id,h4,h5⟩|⟨h3,_⟩
  ·have:=q3 id o h5
   rw[hlv id (cM h4)]at this;cases this
  ·exact hdead i h3
theorem JP(hsub:∀id∈ids,id∈ρ){x:C}{u:Value}(hx:CR β R w x u):CR (AV β ρ ids) R w (inC ρ ids ρ.length x) u:=by
 have hkp:iX (bρ ρ β) R w (AV β ρ ids) R w:=⟨fun i x hi=>by
  have hi:(ρ[i]?).bind β.f=some x:=hi
  have hlt:i<ρ.length:=by
   rcases cL i ρ.length with h|h
   ·exact h
   ·rw[cB h]at hi;cases hi
  rw[MG hlt];exact hi,fun _ h=>h,fun _ _=>rfl⟩
 have gen:∀y:C,CR β R w y u→CR (AV β ρ ids) R w (bQ ρ y) u:=fun y hy=>
  CR.keep (β:=⟨(bρ ρ β).f,β.q⟩) ⟨hkp.bm,fun _ h=>h,fun _ _=>rfl⟩ (nL hy)
 cases x with
 |ptr id off=>
  show CR _ _ _ (match jM id ids 0 with
   |some i=>C.ptr (ρ.length+i) off
   |none=>bQ ρ (.ptr id off)) u
  cases hi:jM id ids 0 with
  |none=>exact gen _ hx
  |some i=>
   have h6:=(tP hi).2
   simp only[Nat.sub_zero]at h6;obtain⟨b,o,h1,h2⟩:=hx;refine⟨b,o,?_,h2⟩;rw[aO8 (by omega),show ρ.length+i-ρ.length=i by omega,h6];exact h1
 |_=>exact gen _ hx
theorem FO(hsub:∀id∈ids,id∈ρ):∀ {xs:List C} {us:List Value},dJ (CR β R w) xs us→dJ (CR (AV β ρ ids) R w) (aO6 ρ ids ρ.length xs) us
 |[],[],_=>trivial
 |[],_::_,h=>h.elim
 |_::_,[],h=>h.elim
 |_::_,_::_,h=>⟨JP hsub h.1,FO hsub h.2⟩
theorem FN(hsub:∀id∈ids,id∈ρ):∀ {xs:List V} {us:List Value},dJ (VR β R w) xs us→dJ (VR (AV β ρ ids) R w) (oQ ρ ids ρ.length xs) us
 |[],[],_=>trivial
 |[],_::_,h=>h.elim
 |_::_,[],h=>h.elim
 |v::_,_::_,h=>⟨by
   cases v with
   |c x=>exact JP hsub h.1
   |a cs=>obtain⟨us,h1,h2⟩:=h.1;exact⟨us,h1,FO hsub h2⟩
   |t vs=>exact trivial,FN hsub h.2⟩
theorem CA{n:Nat}:∀xs:List V,(oQ ρ ids n xs).length=xs.length
 |[]=>rfl
 |_::xs=>by simp[oQ,CA xs]
open Classical in
noncomputable def qG(β β2:Bt)(ρ:List Nat)(L:Nat):Bt:=⟨fun i=>if i<L then β i else β2 (i-L),fun b=>match β2.q b with
 |some ad=>some ad
 |none=>match β.q b with
  |some (bi,c)=>if sW β ρ bi then none else some (bi,c)
  |none=>none⟩
theorem aHD{L i:Nat}(hi:i<L):qG β β2 ρ L i=β i:=by simp only[qG,if_pos hi]
theorem OB{L j:Nat}:qG β β2 ρ L (L+j)=β2 j:=by
 simp only[qG,if_neg (show ¬L+j<L by omega)];rw[show L+j-L=j by omega]
theorem WD{L b:Nat}{ad:Nat×Nat}(hq:β2.q b=some ad):(qG β β2 ρ L).q b=some ad:=by simp only[qG,hq]
theorem aCY{L b:Nat}{ad:Nat×Nat}(hq:(qG β β2 ρ L).q b=some ad):β2.q b=some ad∨(β.q b=some ad∧¬sW β ρ ad.1):=by
 simp only[qG]at hq;split at hq
 ·rename_i ad' h1;injection hq with hq;subst hq;exact .inl h1
 ·split at hq
  ·rename_i bi c h1
   split at hq
   ·cases hq
   ·rename_i hp;injection hq with hq;subst hq;exact .inr ⟨h1,hp⟩
  ·cases hq
theorem SW{β3:Bt}{L:Nat}(hjs:js.length=ids.length)(hnum:∀j x,β2 j=some x→β3 (L+j)=some x)(hpin:∀(i:Nat) id j,ids[i]?=some id→js[i]?=some j→∃b o o2,β3 id=some (b,o)∧β2 j=some (b,o2)){x:C}{u:Value}(hx:CR β2 R2 w' x u):CR β3 R2 w' (wL js ids L x) u:=by
 cases x with
 |p x=>exact hx
 |lp=>exact hx
 |own=>exact trivial
 |fn=>exact trivial
 |top=>exact trivial
 |ptr id off=>
  obtain⟨b,o,h1,h2⟩:=hx
  show ∃b o,β3 (aMW js ids L id)=some (b,o)∧_
  unfold aMW;cases hl:wN js ids id with
  |none=>exact⟨b,o,hnum _ _ h1,h2⟩
  |some id'=>
   obtain⟨m,h3,h4⟩:=AQ hl;obtain⟨b',o',o2,h5,h6⟩:=hpin m id' id h4 h3;rw[h1]at h6;injection h6 with h6;injection h6 with h6 h7;subst h6;exact⟨_,o',h5,h2⟩
 |rp id sz e o=>
  obtain⟨b,o,h1,h2⟩:=hx
  show CR _ _ _ (match pF id js with
   |true=>C.top
   |false=>.rp (L+id) sz e _) u
  cases pF id js with
  |true=>exact trivial
  |false=>exact⟨b,o,hnum _ _ h1,h2⟩
 |sl id sz off len=>
  obtain⟨A,c,h1,h2,h3,h4⟩:=hx
  show CR _ _ _ (match pF id js with
   |true=>C.top
   |false=>.sl (L+id) sz off len) u
  cases pF id js with
  |true=>exact trivial
  |false=>
   refine⟨A,c,h1,h2,h3,?_⟩
   rcases h4 with h4|⟨b,N,h5,h6,h7⟩
   ·exact .inl h4
   ·exact .inr ⟨b,N,hnum _ _ h5,h6,h7⟩
 |mp id=>
  obtain⟨b,N,h1,h2⟩:=hx
  show CR _ _ _ (match pF id js with
   |true=>C.top
   |false=>.mp (L+id)) u
  cases pF id js with
  |true=>exact trivial
  |false=>exact⟨b,N,hnum _ _ h1,h2⟩
theorem yO(L:Nat):∀xs:List C,(BQ js ids L xs).length=xs.length
 |[]=>rfl
 |_::xs=>by simp[BQ,yO L xs]
theorem IV(L:Nat):∀(xs:List C) (i:Nat),bC .top (BQ js ids L xs) i=wL js ids L (bC .top xs i)
 |[],_=>rfl
 |_::_,0=>rfl
 |_::xs,i+1=>IV L xs i
theorem AC{β3:Bt}{L:Nat}(hc:∀(x:C) (u:Value),CR β2 R2 w' x u→CR β3 R2 w' (wL js ids L x) u):∀ {xs:List C} {us:List Value},dJ (CR β2 R2 w') xs us→dJ (CR β3 R2 w') (BQ js ids L xs) us
 |[],[],_=>trivial
 |[],_::_,h=>h.elim
 |_::_,[],h=>h.elim
 |_::_,_::_,h=>⟨hc _ _ h.1,AC hc h.2⟩
theorem SV{β3:Bt}{L:Nat}(hc:∀(x:C) (u:Value),CR β2 R2 w' x u→CR β3 R2 w' (wL js ids L x) u){x:V}{u:Value}(h:VR β2 R2 w' x u):VR β3 R2 w' (aQE js ids L x) u:=by
 cases x with
 |c x=>exact hc _ _ h
 |a cs=>obtain⟨us,h1,h2⟩:=h;exact⟨us,h1,AC hc h2⟩
 |t vs=>exact trivial
theorem EO{β3:Bt}{L:Nat}(hc:∀(x:C) (u:Value),CR β2 R2 w' x u→CR β3 R2 w' (wL js ids L x) u)(hq:∀b ad,β2.q b=some ad→β3.q b=some ad){x:AO}{b o:Nat}(h:OR β2 R2 w' x b o):OR β3 R2 w' (ZV js ids L x) b o:=by
 have hco:∀(ad:Nat×Nat) (x:C) (u:Value),oU β2 R2 w' ad x u→oU β3 R2 w' ad (wL js ids L x) u:=by
  intro ad x u hx;cases ho:x.isOwn with
  |true=>
   cases x with
   |own ty sz n f=>
    obtain⟨A,c,h1,h2,h3,h4⟩:=hx;refine⟨A,c,h1,h2,h3,?_⟩
    rcases h4 with h4|⟨b,cs,h5,h6,h7⟩
    ·exact .inl h4
    ·exact .inr ⟨b,cs,h5,hq _ _ h6,h7⟩
   |_=>cases ho
  |false=>
   refine oU.of ?_ (hc _ _ hx.cr)
   cases x<;>first|rfl|(cases ho;done)|(simp only[wL];split<;>rfl)
 cases x with
 |cells ty vs=>obtain⟨cs,h2,h3⟩:=h;exact⟨cs,h2,AC hc h3⟩
 |row ty sz n f=>
  obtain⟨cs,h1,h0,h2,h3⟩:=h;refine⟨cs,h1,h0,h2,fun e k he hk=>?_⟩;obtain⟨u,h4,h5⟩:=h3 e k he hk;exact⟨u,h4,hco _ _ _ h5⟩
 |foc ty sz n e0 vs f=>
  obtain⟨cs,h1,h0,h2,h21,h22,h3⟩:=h;refine⟨cs,h1,h0,h2,h21,by rw[yO];exact h22,fun e k he hk=>?_⟩;obtain⟨u,h4,h5,h6⟩:=h3 e k he hk;exact⟨u,h4,fun h=>by rw[IV];exact hc _ _ (h5 h),fun h=>hco _ _ _ (h6 h)⟩
 |mapb ok g=>exact h
 |mapl ok ty sz g fo=>
  obtain⟨es,cl,h2,h3,h4,h5⟩:=h;cases fo with
  |none=>
   refine⟨es,cl,h2,h3,fun i e he=>?_,fun k0 hk0=>?_⟩
   ·obtain⟨q1,q2,q3⟩:=h4 i e he
    exact⟨q1,fun k0 c h1=>(by cases h1),fun _=>hco (b,i) _ _ (q3 (fun _ _ h=>by cases h))⟩
   ·obtain⟨q1,q2⟩:=h5 k0 hk0
    exact⟨fun k1 c h1=>(by cases h1),fun _=>q2 (fun _ _ h=>by cases h)⟩
  |some kc=>
   obtain⟨k9,c9⟩:=kc;refine⟨es,cl,h2,h3,fun i e he=>?_,fun k0 hk0=>?_⟩
   ·obtain⟨q1,q2,q3⟩:=h4 i e he
    refine⟨q1,fun k0 c h1 h2=>?_,fun h1=>hco (b,i) _ _ (q3 fun k0 c h2=>?_)⟩
    ·injection h1 with h1;injection h1 with h1 h3;subst h1;subst h3
     exact hc _ _ (q2 _ _ rfl h2)
    ·injection h2 with h2;injection h2 with h2 h3;subst h2;subst h3
     exact h1 _ _ rfl
   ·obtain⟨q1,q2⟩:=h5 k0 hk0
    refine⟨fun k1 c h1 h2=>?_,fun h1=>q2 fun k1 c h2=>?_⟩
    ·injection h1 with h1;injection h1 with h1 h3;subst h1;subst h3
     exact hc _ _ (q1 _ _ rfl h2)
    ·injection h2 with h2;injection h2 with h2 h3;subst h2;subst h3
     exact h1 _ _ rfl
 |pin=>exact trivial
 |gone=>exact trivial
def pR:AO→Bool
 |.cells .. => true
 |_=>false
set_option maxHeartbeats 1000000 in
theorem aEZ(hh:HS G β R w h)(hlv:∀id∈ρ,(bC .gone h id).live=true)(hsub:∀id∈ids,id∈ρ)(hjs:js.length=ids.length)
  (fr:Fr (AV β ρ ids) R w β2 R2 w') (rm:∀b,R b→R2 b) (h2:HS G β2 R2 w' hE)
  (hpin:∀(i:Nat) id j,ids[i]?=some id→js[i]?=some j→pR (bC .gone hE j)=true∧∃b o o2,β id=some (b,o)∧β2 j=some (b,o2)) :
  HS G (qG β β2 ρ h.length) R2 w' (iT ρ ids js h hE)∧Gr β R w (qG β β2 ρ h.length) R2 w' ∧
   (∀(x:C) (u:Value),CR β2 R2 w' x u→CR (qG β β2 ρ h.length) R2 w' (wL js ids h.length x) u)∧∀i,i<h.length→qG β β2 ρ h.length i=β i:=by
 have hold:∀i,i<h.length→qG β β2 ρ h.length i=β i:=fun i hi=>aHD hi
 have hcase:∀i x,qG β β2 ρ h.length i=some x→(i<h.length∧β i=some x)∨∃j,i=h.length+j∧β2 j=some x:=fun i x hx=>by
  rcases cL i h.length with hi|hi
  ·rw[hold i hi]at hx;exact .inl ⟨hi,hx⟩
  ·obtain⟨j,rfl⟩:∃j,i=h.length+j:=⟨i-h.length,by omega⟩
   rw[OB]at hx;exact .inr ⟨j,rfl,hx⟩
 have hnew:∀j x,β2 j=some x→qG β β2 ρ h.length (h.length+j)=some x:=fun j x hx=>by rw[OB];exact hx
 have hpin':∀(i:Nat) id j,ids[i]?=some id→js[i]?=some j→∃b o o2,qG β β2 ρ h.length id=some (b,o)∧β2 j=some (b,o2):=fun i id j h1 h3=>by
  obtain⟨_,b,o,o2,h4,h5⟩:=hpin i id j h1 h3;exact⟨b,o,o2,by rw[hold id (hh.dom id _ h4)];exact h4,h5⟩
 have hC:∀(x:C) (u:Value),CR β2 R2 w' x u→CR (qG β β2 ρ h.length) R2 w' (wL js ids h.length x) u:=fun x u hx=>SW hjs hnew hpin' hx
 have hL:fG h=h.length:=eL h
 have hne:∀i b o,β i=some (b,o)→(bC .gone h i).live=true→i ∉ ρ→¬(AV β ρ ids).has b:=by
  intro i b o hi li hn hb
  rcases MH hsub hb with⟨id,h3,o',h4⟩|⟨ad,h3,_⟩
  ·exact hn (hh.inj i id b o o' hi h4 li (hlv id h3)▸h3)
  ·have:=(hh.ql b ad h3).2.2 i o hi
   rw[li]at this;cases this
 have hhas:∀b,(AV β ρ ids).has b→β.has b∧b<w.heap.size:=by
  intro b hb
  rcases MH hsub hb with⟨id,_,o,h4⟩|⟨ad,h3,_⟩
  ·exact⟨.inl ⟨id,o,h4⟩,hh.lt id b o h4⟩
  ·exact⟨.inr ⟨ad,h3⟩,(hh.ql b ad h3).1⟩
 have hqn:∀b ad,β.q b=some ad→¬sW β ρ ad.1→¬(AV β ρ ids).has b:=by
  intro b ad h3 h4 hb
  rcases MH hsub hb with⟨id,h5,o,h6⟩|⟨ad',h5,h6⟩
  ·have:=(hh.ql b ad h3).2.2 id o h6
   rw[hlv id h5]at this;cases this
  ·rw[h3]at h5;injection h5 with h5;subst h5;exact h4 h6
 have hb2:∀b,β2.has b→(AV β ρ ids).has b∨w.heap.size≤b:=fr.ex
 have old_cases:∀i,i<h.length→(∃(m:Nat) (j:Nat),ids[m]?=some i∧js[m]?=some j∧bC .gone (iT ρ ids js h hE) i=ZV js ids h.length (bC .gone hE j)) ∨
   (i∈ρ∧bC .gone (iT ρ ids js h hE) i=.gone)∨(i ∉ ρ∧bC .gone (iT ρ ids js h hE) i=bC .gone h i):=by
  intro i hi;rw[OH hi,hL];unfold wM;cases hl:wN ids js i with
  |some j=>
   obtain⟨m,h3,h4⟩:=AQ hl;exact .inl ⟨m,j,h3,h4,rfl⟩
  |none=>
   cases hm:pF i ρ with
   |true=>exact .inr (.inl ⟨rY.1 hm,rfl⟩)
   |false=>exact .inr (.inr ⟨fun h3=>(by rw[rY.2 h3]at hm;cases hm),rfl⟩)
 have new_cases:∀j x,β2 j=some x→(j∈js∧bC .gone (iT ρ ids js h hE) (h.length+j)=.gone)∨(j ∉ js∧bC .gone (iT ρ ids js h hE) (h.length+j)=ZV js ids h.length (bC .gone hE j)):=by
  intro j x hj;rw[OI (h2.dom j x hj),hL];unfold aNS;cases hm:pF j js with
  |true=>exact .inl ⟨rY.1 hm,rfl⟩
  |false=>exact .inr ⟨fun h3=>(by rw[rY.2 h3]at hm;cases hm),rfl⟩
 have key:∀i b o,qG β β2 ρ h.length i=some (b,o)→(bC .gone (iT ρ ids js h hE) i).live=true →
   (i<h.length∧i ∉ ρ∧β i=some (b,o)∧(bC .gone h i).live=true) ∨
   (∃(m:Nat) (j:Nat) (o2:Nat),i<h.length∧ids[m]?=some i∧js[m]?=some j∧β i=some (b,o)∧β2 j=some (b,o2)∧(bC .gone hE j).live=true) ∨
   (∃j,i=h.length+j∧j ∉ js∧β2 j=some (b,o)∧(bC .gone hE j).live=true):=by
  intro i b o hi li
  rcases hcase i _ hi with⟨h3,h4⟩|⟨j,rfl,h4⟩
  ·rcases old_cases i h3 with⟨m,j,h5,h6,h7⟩|⟨h5,h6⟩|⟨h5,h6⟩
   ·obtain⟨hc,b',o',o2,h8,h9⟩:=hpin m i j h5 h6
    rw[h4]at h8;injection h8 with h8;injection h8 with h8 h10;subst h8;subst h10;refine .inr (.inl ⟨m,j,o2,h3,h5,h6,h4,h9,?_⟩)
    cases hx:bC .gone hE j<;>rw[hx]at hc<;>first|rfl|cases hc
   ·rw[h6]at li;cases li
   ·rw[h6]at li;exact .inl ⟨h3,h5,h4,li⟩
  ·rcases new_cases j _ h4 with⟨h5,h6⟩|⟨h5,h6⟩
   ·rw[h6]at li;cases li
   ·rw[h6]at li;exact .inr (.inr ⟨j,rfl,h5,h4,ZU li⟩)
 have frk:iX β R w (qG β β2 ρ h.length) R2 w':=⟨fun i x hi=>by rw[hold i (hh.dom i x hi)];exact hi,rm,fr.rs⟩
 have gr:Gr β R w (qG β β2 ρ h.length) R2 w':={
  os:=fr.os,tape:=fr.tape,output:=fr.output,size:=fr.size,rs:=fr.rs
  fr:=fun b hb hn=>fr.fr b hb fun hi=>hn (hhas b hi).1
  ex:=fun b hi=>by
   have h9:β2.has b→β.has b∨w.heap.size≤b:=fun h3=>(hb2 b h3).imp (fun h4=>(hhas b h4).1) id
   rcases hi with⟨i,o,hi⟩|⟨ad,hi⟩
   ·rcases hcase i _ hi with⟨_,h4⟩|⟨j,_,h4⟩
    ·exact .inl (.inl ⟨i,o,h4⟩)
    ·exact h9 (.inl ⟨j,o,h4⟩)
   ·rcases aCY hi with h4|⟨h4,_⟩
    ·exact h9 (.inr ⟨ad,h4⟩)
    ·exact .inl (.inr ⟨ad,h4⟩)
  rx:=fun b hb=>(fr.rx b hb).imp id (Or.imp (fun h4=>(hhas b h4).1) id)
  bm:=frk.bm
  rm:=rm }
 have hR2:∀b,R2 b→b<w.heap.size→¬(AV β ρ ids).has b→R b:=fun b hb hlt hn=>by
  rcases fr.rx b hb with h3|h3|h3
  ·exact h3
  ·exact absurd h3 hn
  ·omega
 refine⟨⟨?_,?_,?_,?_,h2.rlt,?_,h2.gl,?_⟩,gr,hC,hold⟩
 ·intro i x hi
  rw[OA]
  rcases hcase i _ hi with⟨h3,_⟩|⟨j,rfl,h4⟩
  ·omega
  ·have:=h2.dom j x h4;omega
 ·intro i1 i2 b o1 o2 hi1 hi2 l1 l2
  rcases key i1 b o1 hi1 l1 with⟨a1,a2,a3,a4⟩|⟨m1,j1,p1,a1,a2,a3,a4,a5,a6⟩|⟨j1,rfl,a1,a2,a3⟩
  ·rcases key i2 b o2 hi2 l2 with⟨c1,c2,c3,c4⟩|⟨m2,j2,p2,c1,c2,c3,c4,c5,c6⟩|⟨j2,rfl,c1,c2,c3⟩
   ·exact hh.inj i1 i2 b o1 o2 a3 c3 a4 c4
   ·exact hh.inj i1 i2 b o1 o2 a3 c4 a4 (hlv i2 (hsub i2 (cM c2)))
   ·rcases hb2 b (.inl ⟨j2,o2,c2⟩) with h3|h3
    ·exact absurd h3 (hne i1 b o1 a3 a4 a2)
    ·have:=hh.lt i1 b o1 a3;omega
  ·have la:=hlv i1 (hsub i1 (cM a2))
   rcases key i2 b o2 hi2 l2 with⟨c1,c2,c3,c4⟩|⟨m2,j2,p2,c1,c2,c3,c4,c5,c6⟩|⟨j2,rfl,c1,c2,c3⟩
   ·exact hh.inj i1 i2 b o1 o2 a4 c3 la c4
   ·exact hh.inj i1 i2 b o1 o2 a4 c4 la (hlv i2 (hsub i2 (cM c2)))
   ·have:=h2.inj j1 j2 b p1 o2 a5 c2 a6 c3
    subst this;exact absurd (cM a3) c1
  ·rcases key i2 b o2 hi2 l2 with⟨c1,c2,c3,c4⟩|⟨m2,j2,p2,c1,c2,c3,c4,c5,c6⟩|⟨j2,rfl,c1,c2,c3⟩
   ·rcases hb2 b (.inl ⟨j1,o1,a2⟩) with h3|h3
    ·exact absurd h3 (hne i2 b o2 c3 c4 c2)
    ·have:=hh.lt i2 b o2 c3;omega
   ·have:=h2.inj j1 j2 b o1 p2 a2 c5 a3 c6
    subst this;exact absurd (cM c3) a1
   ·rw[h2.inj j1 j2 b o1 o2 a2 c2 a3 c3]
 ·intro i b o hi li
  rcases key i b o hi li with⟨a1,a2,a3,a4⟩|⟨m1,j1,p1,a1,a2,a3,a4,a5,a6⟩|⟨j1,rfl,a1,a2,a3⟩
  ·exact fun hb=>hh.sep i b o a3 a4 (hR2 b hb (hh.lt i b o a3) (hne i b o a3 a4 a2))
  ·exact h2.sep j1 b p1 a5 a6
  ·exact h2.sep j1 b o a2 a3
 ·intro i b o hi
  rcases hcase i _ hi with⟨_,h4⟩|⟨j,_,h4⟩
  ·exact cJ (hh.lt i b o h4) fr.size
  ·exact h2.lt j b o h4
 ·intro i b o hi
  rcases hcase i _ hi with⟨h3,h4⟩|⟨j,rfl,h4⟩
  ·rcases old_cases i h3 with⟨m,j,h5,h6,h7⟩|⟨h5,h6⟩|⟨h5,h6⟩
   ·rw[h7]
    obtain⟨hc,b',o',o2,h8,h9⟩:=hpin m i j h5 h6;rw[h4]at h8;injection h8 with h8;injection h8 with h8 h10;subst h8;subst h10
    have h11:=EO (js:=js) (ids:=ids) (L:=h.length) hC (fun b ad hq=>WD hq) (h2.obj j b o2 h9)
    cases hx:bC .gone hE j with
    |cells ty vs=>rw[hx]at h11;exact h11
    |_=>rw[hx]at hc;cases hc
   ·rw[h6];exact trivial
   ·rw[h6]
    cases hl:(bC .gone h i).live with
    |false=>exact OR.dead frk hl (hh.obj i b o h4)
    |true=>
     have hnh:=hne i b o h4 hl h5
     refine OR.keep frk (fun b1 c hq=>?_) (fr.fr b (hh.lt i b o h4) hnh) (hh.obj i b o h4)
     have hnp:¬sW β ρ b:=fun⟨id,h8,o',h9⟩=>hnh (by
      obtain⟨j,hj⟩:=dO.1 h8
      exact .inl ⟨j,o',by rw[MG (aX.1 hj).1,hj];exact h9⟩)
     have hn1:=hqn b1 (b,c) hq hnp
     have hlt1:=(hh.ql b1 _ hq).1
     refine⟨?_,fr.fr b1 hlt1 hn1⟩
     have hq2:β2.q b1=none:=by
      cases hq2:β2.q b1 with
      |none=>rfl
      |some ad=>
       rcases hb2 b1 (.inr ⟨ad,hq2⟩) with h8|h8
       ·exact absurd h8 hn1
       ·omega
     simp only[qG,hq2,hq,if_neg hnp]
  ·rcases new_cases j _ h4 with⟨h5,h6⟩|⟨h5,h6⟩
   ·rw[h6];exact trivial
   ·rw[h6];exact EO hC (fun b ad hq=>WD hq) (h2.obj j b o h4)
 ·intro b ad hq
  rcases aCY hq with h3|⟨h3,h4⟩
  ·obtain⟨q1,q2,q3⟩:=h2.ql b ad h3
   refine⟨q1,q2,fun i o hi=>?_⟩;cases li:(bC .gone (iT ρ ids js h hE) i).live with
   |false=>rfl
   |true=>
    rcases key i b o hi li with⟨a1,a2,a3,a4⟩|⟨m1,j1,p1,a1,a2,a3,a4,a5,a6⟩|⟨j1,rfl,a1,a2,a3⟩
    ·rcases hb2 b (.inr ⟨ad,h3⟩) with h8|h8
     ·exact absurd h8 (hne i b o a3 a4 a2)
     ·have:=hh.lt i b o a3;omega
    ·have:=q3 j1 p1 a5;rw[a6]at this;cases this
    ·have:=q3 j1 o a2;rw[a3]at this;cases this
  ·obtain⟨q1,q2,q3⟩:=hh.ql b ad h3
   have hn1:=hqn b ad h3 h4
   refine⟨cJ q1 fr.size,fun hb=>q2 (hR2 b hb q1 hn1),fun i o hi=>?_⟩;cases li:(bC .gone (iT ρ ids js h hE) i).live with
   |false=>rfl
   |true=>
    have hnb:¬β2.has b:=fun hb=>by
     rcases hb2 b hb with h8|h8
     ·exact hn1 h8
     ·omega
    rcases key i b o hi li with⟨a1,a2,a3,a4⟩|⟨m1,j1,p1,a1,a2,a3,a4,a5,a6⟩|⟨j1,rfl,a1,a2,a3⟩
    ·have:=q3 i o a3;rw[a4]at this;cases this
    ·exact absurd (.inl ⟨j1,p1,a5⟩) hnb
    ·exact absurd (.inl ⟨j1,o,a2⟩) hnb
end
def jR(fn:Func)(ρ ids bs:List Nat)(args:List V)(h:List AO):St:=⟨oQ ρ ids ρ.length args++iI (fn.ntmps-args.length) (.t []),inH ρ ids h bs⟩
def aP4:V→V1
 |.c x=>.c x
 |.a cs=>.a cs
 |.t _=>.c .top
def aC0:List V→List V1
 |[]=>[]
 |v::r=>aP4 v::aC0 r
def OE:List V→V
 |[v]=>v
 |vs=>.t (aC0 vs)
def yN(js ids:List Nat)(L:Nat):List V→List V
 |[]=>[]
 |v::r=>aQE js ids L v::yN js ids L r
def tD(h:List AO):List Nat→Bool
 |[]=>true
 |id::r=>(bC .gone h id).live&&tD h r
theorem rF{h:List AO}:∀ {l:List Nat},tD h l=true→∀id∈l,(bC .gone h id).live=true
 |x::r,hl,id,hi=>by
  simp only[tD,aQ]at hl
  rcases fC.1 hi with rfl|hi
  ·exact hl.1
  ·exact rF hl.2 id hi
section
variable {P:Program} {G:Nat→Option Obj} {β:Bt} {R:Nat→Prop} {w:World}
theorem dJ.split{α γ:Type}{q:α→γ→Prop}:∀ {xs xs':List α} {ys ys':List γ},xs.length=ys.length→dJ q (xs++xs') (ys++ys')→dJ q xs ys∧dJ q xs' ys'
 |[],_,[],_,_,h=>⟨trivial,h⟩
 |[],_,_::_,_,hl,_=>by simp at hl
 |_::_,_,[],_,hl,_=>by simp at hl
 |_::xs,_,_::ys,_,hl,h=>⟨⟨h.1,(dJ.split (xs:=xs) (ys:=ys) (by simpa using hl) h.2).1⟩,(dJ.split (xs:=xs) (ys:=ys) (by simpa using hl) h.2).2⟩
theorem SA{v:V}{u:Value}(h:VR β R w v u):BF β R w (aP4 v) u:=by
 cases v with
 |c x=>exact h
 |a cs=>exact h
 |t vs=>exact trivial
theorem BH:∀ {vs:List V} {us:List Value},dJ (VR β R w) vs us→dJ (BF β R w) (aC0 vs) us
 |[],[],_=>trivial
 |[],_::_,h=>h.elim
 |_::_,[],h=>h.elim
 |_::_,_::_,h=>⟨SA h.1,BH h.2⟩
theorem EQ:∀ {vs:List V} {us:List Value} (_:dJ (VR β R w) vs us),VR β R w (OE vs) (aI4 us)
 |[],[],_=>⟨#[],rfl,trivial⟩
 |[_],[_],h=>h.1
 |_::_::_,_::_::_,h=>⟨_,rfl,BH h⟩
 |[],_::_,h=>h.elim
 |_::_,[],h=>h.elim
 |[_],_::_::_,h=>h.2.elim
 |_::_::_,[_],h=>h.2.elim
theorem sN{st:St}{a:Act}(hs:iB G β R st a w){vs:List V}{us:List Value}(h:dJ (VR β R w) vs us):∀ps:List Nat,dJ (VR β R w) (uR st ps vs) (ps.map (fun j=>a.tmps.getD j undef)++us)
 |[]=>h
 |j::ps=>⟨bW (x:=.tmp j) hs rfl,sN hs h ps⟩
theorem dJ.mem_{α γ:Type}{q:α→γ→Prop}:∀ {xs:List α} {ys:List γ},dJ q xs ys→∀x∈xs,∃y,q x y
 |_::_,y::_,h,x,hx=>by
  rcases fC.1 hx with rfl|hx
  ·exact⟨y,h.1⟩
  ·exact dJ.mem_ h.2 x hx
 |_::_,[],h,_,_=>h.elim
theorem KI{args:List V}{us:List Value}(ha:dJ (VR β R w) args us):∀ {ids:List Nat},(∀id∈ids,∃off,V.c (.ptr id off)∈args)→∃bs:List Nat,bs.length=ids.length∧∀(i:Nat) id b,ids[i]?=some id→bs[i]?=some b→∃o,β id=some (b,o)
 |[],_=>⟨[],rfl,fun i id b h=>by simp at h⟩
 |id::ids,h=>by
  obtain⟨bs,h1,h2⟩:=KI ha (ids:=ids) fun x hx=>h x (cN _ hx)
  obtain⟨off,h3⟩:=h id (cZ ..);obtain⟨u,h4⟩:=dJ.mem_ ha _ h3;obtain⟨b,o,h5,_⟩:=h4;refine⟨b::bs,by simp[h1],fun i id' b' hi hb=>?_⟩;cases i with
  |zero=>simp at hi hb;subst hi;subst hb;exact⟨o,h5⟩
  |succ i=>exact h2 i id' b' (by simpa using hi) (by simpa using hb)
theorem AB{β3:Bt}{js ids:List Nat}{L:Nat}(hc:∀(x:C) (u:Value),CR β R w x u→CR β3 R w (wL js ids L x) u):∀ {xs:List V} {us:List Value},dJ (VR β R w) xs us→dJ (VR β3 R w) (yN js ids L xs) us
 |[],[],_=>trivial
 |[],_::_,h=>h.elim
 |_::_,[],h=>h.elim
 |_::_,_::_,h=>⟨SV hc h.1,AB hc h.2⟩
theorem tR{f:FuncId}{fn:Func}(hf:P.funcs[f]?=some fn)(hok:TF P fn=true){ρ ids ps pns js:List Nat}{args:List V}{h:List AO}(hρ:qI ρ=true)(hlv:tD h ρ=true)(hsub:∀id∈ids,id∈ρ)(hin:∀id∈ids,∃off,V.c (.ptr id off)∈args)
  (hjs:js.length=ids.length) {sl vs:List V} {hE:List Nat→List AO} (hps:sl.length=ps.length) (hpn:pns.length=ids.length) (hsl:∀(i:Nat) pn,pns[i]?=some pn→∃off,V.c (.ptr pn off)∈sl)
  (hEp:∀bs:List Nat,bs.length=ids.length→∀(i:Nat) pn j b,pns[i]?=some pn→js[i]?=some j→bs[i]?=some b→bC .gone (hE bs) pn=.pin j b∧pR (bC .gone (hE bs) j)=true)
  (H:∀bs:List Nat,bs.length=ids.length→eP P G (Zm ps (bK P fn) fun s=>cW G s ⟨sl++vs,hE bs⟩) (dC P fn) (jR fn ρ ids bs args h) fun e s=>e=.normal∧Zm ps (bK P fn) (fun s=>cW G s ⟨sl++vs,hE bs⟩) s) :
  jW P G f args h fun x h'=>∃bs:List Nat,bs.length=ids.length∧x=OE (yN js ids h.length vs)∧h'=iT ρ ids js h (hE bs):=by
 unfold TF at hok;simp only[aQ,eK]at hok;obtain⟨⟨c,hc⟩,rs,hr⟩:=hok
 have e1:lD P fn=c:=by unfold lD;rw[hc];rfl
 have e2:bK P fn=rs:=by unfold bK;rw[hr];rfl
 simp only[aM]at hc;obtain⟨c0,hb,hc⟩:=hc;intro β R w us0 ha hh
 obtain⟨bs,hbl,hbs⟩:=KI ha hin
 have H:=eP.code (H bs hbl)
 rw[e1,e2]at H
 have hs0:=aQY hh hρ (rF hlv) hsub hbl.symm hbs
 refine calls_of_wp hf hb (Code.wp_mono ?_ (H c0 hc (AV β ρ ids) R { tmps:=us0++iJ (fn.ntmps-us0.size) undef,defers:=[] } w ?_))
 ·intro e a' w' hq
  cases e with
  |ret=>
   obtain⟨β',R',st',⟨ws,hws,hz⟩,hs,hfr,hrr⟩:=hq;obtain⟨us,hrun,hall⟩:=rC hs fn.results.toList rs hr hws
   have hs1:iB G β' R' ⟨uR st' ps ws,st'.h⟩ { tmps:=(ps.map (fun j=>a'.tmps.getD j undef)++us).toArray,defers:=[] } w':=⟨rfl,by simpa using sN hs hall ps,hs.hs⟩
   obtain⟨β1,R1,k1,k2,k3⟩:=gB (aK6 (uR st' ps ws)) _ β' R' _ w' hs1;obtain⟨β2,R2,k4,k5,k6⟩:=hz β1 R1 _ w' k1
   have frr:Fr (AV β ρ ids) R w β2 R2 w':=(hfr.trans k2 hrr).trans k5 fun b hb=>k3 b (hrr b hb)
   have hsp:dJ (VR β2 R2 w') (sl++vs) (ps.map (fun j=>a'.tmps.getD j undef)++us):=by simpa using k4.tm
   obtain⟨hsp1,hsp2⟩:=hsp.split (by simpa using hps)
   have hpin:∀(i:Nat) id j,ids[i]?=some id→js[i]?=some j→pR (bC .gone (hE bs) j)=true∧∃b o o2,β id=some (b,o)∧β2 j=some (b,o2):=by
    intro i id j h1 h2
    have hil:=(aX.1 h1).1
    have h3:pns[i]?=some (pns[i]'(by omega)):=aK _
    generalize pns[i]'(by omega)=pn at h3
    have h4:bs[i]?=some (bs[i]'(by omega)):=aK _
    generalize bs[i]'(by omega)=b at h4
    obtain⟨g1,g2⟩:=hEp bs hbl i pn j b h3 h2 h4;obtain⟨off,h5⟩:=hsl i pn h3;obtain⟨u,h6⟩:=dJ.mem_ hsp1 _ h5;obtain⟨b',o',h7,_⟩:=h6
    have hob:=k4.hs.obj pn b' o' h7
    have g1:bC .gone (hE bs) pn=.pin j b:=g1
    have hob:OR β2 R2 w' (bC .gone (hE bs) pn) b' o':=hob
    rw[g1]at hob;obtain⟨_,o2,h8⟩:=hob;obtain⟨o,h9⟩:=hbs i id b h1 h4;exact⟨g2,b,o,o2,h9,h8⟩
   obtain⟨f1,f2,f3,f4⟩:=aEZ hh (rF hlv) hsub hjs frr (fun b hb=>k6 b (k3 b (hrr b hb))) k4.hs hpin;exact⟨hs.df,_,sR fn a'.tmps hrun,_,qG β β2 ρ h.length,R2,_,_,rfl,⟨bs,hbl,rfl,rfl⟩,EQ (AB f3 hsp2),f1,f2,f4⟩
  |normal=>
   obtain⟨β',R',st',⟨_,hq0⟩,hs,hfr,hrr⟩:=hq;obtain⟨ws,hws,hz⟩:=hq0;obtain⟨us,hrun,hall⟩:=rC hs fn.results.toList rs hr hws
   have hs1:iB G β' R' ⟨uR st' ps ws,st'.h⟩ { tmps:=(ps.map (fun j=>a'.tmps.getD j undef)++us).toArray,defers:=[] } w':=⟨rfl,by simpa using sN hs hall ps,hs.hs⟩
   obtain⟨β1,R1,k1,k2,k3⟩:=gB (aK6 (uR st' ps ws)) _ β' R' _ w' hs1;obtain⟨β2,R2,k4,k5,k6⟩:=hz β1 R1 _ w' k1
   have frr:Fr (AV β ρ ids) R w β2 R2 w':=(hfr.trans k2 hrr).trans k5 fun b hb=>k3 b (hrr b hb)
   have hsp:dJ (VR β2 R2 w') (sl++vs) (ps.map (fun j=>a'.tmps.getD j undef)++us):=by simpa using k4.tm
   obtain⟨hsp1,hsp2⟩:=hsp.split (by simpa using hps)
   have hpin:∀(i:Nat) id j,ids[i]?=some id→js[i]?=some j→pR (bC .gone (hE bs) j)=true∧∃b o o2,β id=some (b,o)∧β2 j=some (b,o2):=by
    intro i id j h1 h2
    have hil:=(aX.1 h1).1
    have h3:pns[i]?=some (pns[i]'(by omega)):=aK _
    generalize pns[i]'(by omega)=pn at h3
    have h4:bs[i]?=some (bs[i]'(by omega)):=aK _
    generalize bs[i]'(by omega)=b at h4
    obtain⟨g1,g2⟩:=hEp bs hbl i pn j b h3 h2 h4;obtain⟨off,h5⟩:=hsl i pn h3;obtain⟨u,h6⟩:=dJ.mem_ hsp1 _ h5;obtain⟨b',o',h7,_⟩:=h6
    have hob:=k4.hs.obj pn b' o' h7
    have g1:bC .gone (hE bs) pn=.pin j b:=g1
    have hob:OR β2 R2 w' (bC .gone (hE bs) pn) b' o':=hob
    rw[g1]at hob;obtain⟨_,o2,h8⟩:=hob;obtain⟨o,h9⟩:=hbs i id b h1 h4;exact⟨g2,b,o,o2,h9,h8⟩
   obtain⟨f1,f2,f3,f4⟩:=aEZ hh (rF hlv) hsub hjs frr (fun b hb=>k6 b (k3 b (hrr b hb))) k4.hs hpin;exact⟨hs.df,_,sR fn a'.tmps hrun,_,qG β β2 ρ h.length,R2,_,_,rfl,⟨bs,hbl,rfl,rfl⟩,EQ (AB f3 hsp2),f1,f2,f4⟩
  |exit id=>obtain⟨_,_,_,q1,_⟩:=hq;exact nomatch q1.1
  |_=>exact hq.elim
 ·refine⟨rfl,?_,hs0⟩
  have hl:args.length=us0.size:=by simpa using ha.length
  show dJ _ (oQ ρ ids ρ.length args++iI (fn.ntmps-args.length) (.t [])) _
  rw[Array.toList_append,Array.toList_replicate,hl];exact(FN hsub ha).append (xB _)
end
def EJ(os:List Oper)(al:List AI)(n:Nat):Bool:=
 lN (fun i o=>HT (fun e => !fR .any e||gT e.on i) o.after.toList) 0 os &&
 (lN (fun i x=>dV n i||x.op.hd) 0 al &&
 (lN (fun i x=>dV n i||lN (fun j y=>dV n j||(cA i j || !eqD x.dst y.dst)) 0 al) 0 al &&
 lN (fun i x=>dV n i||lN (fun j y=>dV n j||(!inD y.dst x.sls||(uI (fun o=>nC o j) ((os.drop i).take 1)||uI (fun o=>nC o i) ((os.drop j).take 1)))) 0 al) 0 al))
def wtB(os:List Oper)(n:Nat):Bool:=
 lN (fun i o=>gT i n||match cA i n with
  |true=>lN (fun j _=>dV n j||nC o j) 0 os
  |false=>VN (fun j _=>dV n j&&gT j i&&nC o j) 0 os) 0 os
section
variable {P:Program} {G:Nat→Option Obj} {ops:Array Oper} {al:List AI} {n:Nat} {S:Nat→St} {ext:Ext}
theorem WB{ops:Array Oper}{al:List AI}{n:Nat}(h:EJ ops.toList al n=true):RegB ops al n:=by
 unfold EJ at h;simp only[aQ]at h;obtain⟨h1,h2,h3,h4⟩:=h;refine⟨?_,?_,?_,?_⟩
 ·intro i o ho e he hb
  have:=rN (fY h1 i o (by simpa using ho)) e (by simpa using he)
  simpa[hb] using this
 ·intro i ai hi hn
  have:=fY h2 i ai hi
  simp only[bU,eD]at this
  rcases this with h|h
  ·omega
  ·exact h
 ·intro i j x y d hx hy hi hj hij hd hd'
  have:=fY h3 i x hx
  simp only[bU,eD]at this
  rcases this with h|h
  ·omega
  ·have:=fY h j y hy
   simp only[bU,eD,hd,hd',eqD]at this
   rcases this with h|h|h
   ·omega
   ·have:=aS h;omega
   ·simp at h
 ·intro i j x y d hx hy hi hj hd hs
  have:=fY h4 i x hx
  simp only[bU,eD]at this
  rcases this with h|h
  ·omega
  ·have:=fY h j y hy
   simp only[bU,eD,hd,inD]at this
   rcases this with h|h|h|h
   ·omega
   ·rw[sD hs]at h;cases h
   ·obtain⟨o,ho,hw⟩:=mX h
    rw[cK]at hw ho;exact .inl (jE (yE ho) hw)
   ·obtain⟨o,ho,hw⟩:=mX h
    rw[cK]at hw ho;exact .inr (jE (yE ho) hw)
theorem aM8(h:wtB ops.toList n=true):(∀j,j<n→n<ops.size→cY .any ops n j=true)∧∀i,n<i→i<ops.size→∃j,n≤j∧j<i∧cY .any ops i j=true:=by
 unfold wtB at h;refine⟨fun j hj hn=>?_,fun i hi his=>?_⟩
 ·have h1:=fY h n ops[n] (by simp[hn])
  simp only[bU,cK]at h1
  rcases h1 with h1|h1
  ·simp at h1
  ·rw[Nat.beq_refl]at h1
   have h2:=fY h1 j ops[j] (by simp)
   simp only[bU,cK,eD]at h2
   rcases h2 with h2|h2
   ·omega
   ·exact jE (by simp[hn]) h2
 ·have h1:=fY h i ops[i] (by simp[his])
  simp only[bU,cK]at h1
  rcases h1 with h1|h1
  ·have:i<n:=by simpa using h1
   omega
  ·have hb:cA i n=false:=by
     cases hq:cA i n with
     |false=>rfl
     |true=>have:=aS hq;omega
   rw[hb]at h1;obtain⟨j,x,h2,h3⟩:=DG h1;simp only[aQ,eD,cK]at h3;obtain⟨⟨h4,h5⟩,h6⟩:=h3;exact⟨j,h4,by simpa using h5,jE (by simp[his]) h6⟩
theorem nE{listed:Array Bool}{i:Nat}(h:i∈eH .any ops listed):i<ops.size∧listed.getD i true=false∧∀j,cY .any ops i j=true→listed.getD j false=true:=by
 obtain⟨q1,o,q2,q3⟩:=mem_ready.1 h;refine⟨(bH.1 q2).1,q1,fun j hj=>?_⟩;obtain⟨o',ho',e,he,hb,hon⟩:=Region.waitsFor_spec hj;rw[q2]at ho';injection ho' with ho';subst ho'
 have:=q3 e he hb
 rwa [hon]at this
theorem lJ{listed:Array Bool}{i:Nat}(hback:∀i o,ops[i]?=some o→∀e∈o.after,fR .any e=true→e.on<i)(hi:i<ops.size)(hn:listed.getD i true=false)(hl:∀j,j<i→listed.getD j false=true):i∈eH .any ops listed:=
 mem_ready.2 ⟨hn,ops[i],by simp[hi],fun e he hb=>hl e.on (hback i _ (by simp[hi]) e he hb)⟩
variable {β0:Bt} {R0:Nat→Prop} {w0:World}
theorem aAQ(hext:bG P G ext)(hr:xX P G ext al n S)(hok:RegB ops al n)(hal:∀i o,i<n→ops[i]?=some o→∃ai,al[i]?=some ai∧pN P ops o=some ai)(hns:n≤ops.size)(hwt:wtB ops.toList n=true){Q:Exit→Act→World→Prop}{F:Nat}
  (hT:∀listed a w β R,HeadInv .any ops n listed→(∀i,i<n→listed.getD i false=true)→iB G β R (S n) a w→Gr β0 R0 w0 β R w→wpAny P .any ops Q F listed a w) :
  ∀(f:Nat) (listed:Array Bool) (a:Act) (w:World) (β:Bt) (R:Nat→Prop),pJ listed n=f→HeadInv .any ops n listed→xW G al n S β0 R0 w0 listed a w β R→wpAny P .any ops Q (f+F) listed a w:=by
 obtain⟨hw1,hw2⟩:=aM8 hwt;intro f
 induction f with
 |zero=>
  intro listed a w β R hc inv hI
  have hall:=lS hc
  rw[cK]
  have hsim:iB G β R (S n) a w:=by
   refine⟨hI.df,dJ.of_get (by simp[hI.sz]) ?_,hI.hs⟩;intro s x y hx hy
   have h1:=hI.sl s y (by simpa using hy) fun i ai hi _ hl=>by rw[hall i hi]at hl;cases hl
   rw[fU,aD,hx]at h1;exact h1
  exact hT listed a w β R inv hall hsim hI.gr
 |succ f ih=>
  intro listed a w β R hc inv hI;rw[show f+1+F=(f+F)+1 by omega];obtain⟨i0,hi0,hu0,hb0⟩:=pS (by omega:0<pJ listed n)
  have hi0s:i0<ops.size:=by omega
  have hr0:i0∈eH .any ops listed:=lJ hok.back hi0s (getD_in (by rw[inv.size];exact hi0s) hu0) hb0
  refine⟨fun h=>(by rw[h]at hr0;cases hr0),fun i hi=>?_⟩;obtain⟨q1,o,q2,q3⟩:=mem_ready.1 hi;obtain⟨his,_,q4⟩:=nE hi
  have hin:i<n:=by
   rcases Nat.lt_trichotomy i n with h|h|h
   ·exact h
   ·subst h
    have:=q4 i0 (hw1 i0 hi0 his)
    rw[hu0]at this;cases this
   ·obtain⟨j,h1,h2,h3⟩:=hw2 i h his
    have h4:=q4 j h3
    have h5:=inv.tail j h1 (by omega)
    rw[getD_both h5]at h4;cases h4
  have hun:=getD_both q1
  have hil:i<listed.size:=by rw[inv.size];exact his
  obtain⟨ai,ha,hco⟩:=hal i o hin q2
  exact hI.step hext hr hok hin hil ha q2 hco hun q3 inv.closed fun a' w' β' R' hI'=>ih _ a' w' β' R' (by have:=lX hil hun hin;omega) (inv.set hi hin) hI'
theorem SN(hext:bG P G ext){id:Nat}(hm:P.follows .mixedOrders=true)(hal0:fD P ops (ops.toList.take n)=some al)(hok0:EJ ops.toList al n=true)(hns:n≤ops.size)(hwt:wtB ops.toList n=true){st:St}{k:St→Tr}{K:X→St→Prop}
  (h:(iY (iO ext) al st k).holds P G K) {Q:Exit→Act→World→Prop} {β:Bt} {R:Nat→Prop} {a:Act} {w:World} (hs:iB G β R st a w)
  (hT:∀st' listed a' w' β' R',(k st').holds P G K→HeadInv .any ops n listed→(∀i,i<n→listed.getD i false=true)→iB G β' R' st' a' w'→Gr β R w β' R' w'→wpAny P .any ops Q (ops.size-n) listed a' w'):(Code.region id ops true).wp P Q a w:=by
 have hok:=WB hok0
 obtain⟨hl0,hg0⟩:=gR hal0
 have hlen:al.length=n:=by rw[hl0,List.length_take];simp;omega
 have hal:∀i o,i<n→ops[i]?=some o→∃ai,al[i]?=some ai∧pN P ops o=some ai:=fun i o hi ho=>hg0 i o (by rw[List.getElem?_take,if_pos hi];simpa using ho)
 obtain⟨S,h0,hk,hst⟩:=kY hext al st (fun ai hai=>by
  obtain⟨i,hi⟩:=dO.1 hai
  exact hok.hd i ai hi (by have:=(aX.1 hi).1;omega)) h
 rw[hlen]at hk
 have hr:xX P G ext al n S:=⟨by omega,fun i ai hi ha=>hst i ai ha⟩
 refine wp_region_any hm ?_;obtain⟨hs',hg⟩:=hs.drawn (w.drawn+1)
 have hle:=hr.le (i:=0) (j:=n) (bX _) (aW _)
 have key:=aAQ (β0:=β) (R0:=R) (w0:=w) hext hr hok hal hns hwt (Q:=Q) (F:=ops.size-n) (fun listed a' w' β' R' i1 i2 h1 h2=>hT (S n) listed a' w' β' R' hk i1 i2 h1 h2) n (iJ ops.size false) a { w with drawn:=w.drawn+1 } β R
  (rM (by omega)) ⟨by simp,fun j oj _ hl=>(by rw[getD_replicate_false]at hl;cases hl),fun t _ ht=>getD_in (by simpa using ht) (getD_replicate_false _ _)⟩ ?_
 ·rwa [show n+(ops.size-n)=ops.size by omega]at key
 ·rw[h0]at hle
  refine⟨hg,?_,hs.df,?_,?_,?_,?_⟩
  ·have hb:∀i x,β i=some x→bC .gone (S n).h i=bC .gone st.h i:=fun i x hi=>hle.2.2.1 i (hs'.hs.dom i x hi)
   refine⟨fun i x hi=>cJ (hs'.hs.dom i x hi) hle.2.1,?_,?_,hs'.hs.lt,hs'.hs.rlt,?_,hs'.hs.gl,fun b ad hq=>⟨(hs'.hs.ql b ad hq).1,(hs'.hs.ql b ad hq).2.1,fun i o hi=>by rw[hb i _ hi];exact(hs'.hs.ql b ad hq).2.2 i o hi⟩⟩
   ·intro i j b o o' hi hj li lj
    rw[hb i _ hi]at li;rw[hb j _ hj]at lj;exact hs'.hs.inj i j b o o' hi hj li lj
   ·intro i b o hi li
    rw[hb i _ hi]at li;exact hs'.hs.sep i b o hi li
   ·intro i b o hi
    rw[hb i _ hi];exact hs'.hs.obj i b o hi
  ·have:=hs.tm.length;simp at this;omega
  ·intro s u hu hnd
   rw[hle.2.2.2 s fun l ai _ hl ha=>hnd l ai hl ha (getD_replicate_false _ _)]
   have hv:=bW (x:=.tmp s) hs' rfl
   have e:a.eval (.tmp s)=u:=by show a.tmps.getD s undef=u;simp[hu]
   rw[e]at hv;exact hv
  ·intro i hi _ id h1 h2
   cases hb:β id with
   |none=>rfl
   |some x=>
    have h3:=hs.hs.dom id x hb
    have:=(hr.le (i:=0) (j:=i) (bX _) (by omega)).2.1
    rw[h0]at this;omega
  ·intro s u hu _
   rw[h0]
   have hv:=bW (x:=.tmp s) hs' rfl
   have e:a.eval (.tmp s)=u:=by show a.tmps.getD s undef=u;simp[hu]
   rw[e]at hv;exact hv
end
section
variable {P:Program} {G:Nat→Option Obj}
theorem aNT{tm:TypeId}{r:TypeId×TypeId×Nat}(hm:yX P tm=some r){w:World}{b:Nat}{es:Array MapEntry}{clock:Nat}(g1:w.heap[b]?=some (.map es clock))(g2:nM es clock)(g3:∀e∈es.toList,bJ P r.1 e.key=true){kv:Value}(hok:bJ P r.1 kv=true) :
  ∃(v:Value) (s:Nat) (es1:Array MapEntry) (clock1 j:Nat) (e:MapEntry),(Instr.mapEntry tm (.map (some b)) kv).run P w=.ok (.tuple #[v,.int .i64 (s:Int)]) (cO w b (.map es1 clock1))∧nM es1 clock1∧es1.toList[j]?=some e∧e.key=kv∧e.val=v∧e.born=s ∧
   ((v=.slice none 0 0∧(∀x∈es.toList,x.key≠kv)∧es1.toList=es.toList++[e]∧j=es.toList.length)∨(es.toList[j]?=some e∧es1.toList=es.toList)):=by
 obtain⟨e,hu,hK,hz⟩:=xL hm
 have hok':=hok
 unfold bJ at hok';obtain⟨l,hl⟩:=eK.1 hok'
 have hes:∀e∈es.toList,∃l,keyOf P r.1 e.key=some l:=fun e he=>eK.1 (g3 e he)
 rcases hK.find w hl es.toList hes with⟨f1,f2⟩|⟨j,e0,f1,f2,f3⟩
 ·refine⟨.slice none 0 0,clock,es.push ⟨kv,.slice none 0 0,clock⟩,clock+1,es.toList.length,⟨kv,.slice none 0 0,clock⟩,?_,KH g2 f2,by simp,rfl,rfl,rfl,.inl ⟨rfl,f2,by simp,rfl⟩⟩
  simp[Instr.mapEntry,run_underlying hu,fS g1,hK.check w false hl,f1,hz,iZ _ g1,Result.andThen,cO,goInt]
 ·have hj:es[j]?=some e0:=by simpa using f2
  have hlist:(es.modify j (fun e'=>{ e' with key:=kv })).toList=es.toList:=by
   rw[Array.toList_modify,ChangeMaps.modify_eq_set _ _ _ _ f2];apply List.ext_getElem?;intro i
   rw[List.getElem?_set];split
   ·rename_i h;subst h
    rw[if_pos (aX.1 f2).1,f2];subst f3;rfl
   ·rfl
  have hst:=hK.stays w hl
  have hB:nM (es.modify j (fun e'=>{ e' with key:=kv })) clock:=by
   unfold nM;rw[hlist];exact g2
  refine⟨e0.val,e0.born,es.modify j (fun e'=>{ e' with key:=kv }),clock,j,e0,?_,hB,by rw[hlist];exact f2,f3,rfl,rfl,.inr ⟨f2,hlist⟩⟩;simp[Instr.mapEntry,run_underlying hu,fS g1,hK.check w false hl,f1,hj,f3,hst,iZ _ g1,Result.andThen,cO,goInt]
theorem aOH{tm:TypeId}{w:World}{b:Nat}{es:Array MapEntry}{clock:Nat}(g1:w.heap[b]?=some (.map es clock))(g2:nM es clock){j:Nat}{e:MapEntry}(hj:es.toList[j]?=some e){s:Nat}(hs:e.born=s)(u:Value) :
  (Instr.entryStore tm (.map (some b)) (.int .i64 (s:Int)) u).run P w=.ok () (cO w b (.map (es.modify j fun e=>{ e with val:=u }) clock)):=by
 have hjl:=(aX.1 hj).1
 have hjs:j<es.size:=by simpa using hjl
 have he:es[j]=e:=by
  have:=(aX.1 hj).2
  simpa using this
 have hf:es.findIdx? (fun e=>(e.born:Int)==(s:Int))=some j:=by
  rw[Array.findIdx?_eq_some_iff_getElem];refine⟨hjs,by rw[he,hs];simp,fun i hi=>?_⟩
  have:=dZ.1 g2.2.1 i j (by simp;omega) hjl hi
  have h2:es.toList[j].born=s:=by rw[(aX.1 hj).2,hs]
  rw[h2]at this
  have h3:es.toList[i]'(by simp;omega)=es[i]:=by simp
  rw[h3]at this;simp;omega
 simp[Instr.entryStore,fS g1,asInt,asIntOf,hf,iZ _ g1,Result.andThen,cO]
theorem iB.know{β:Bt}{R:Nat→Prop}{w:World}{st:St}{a:Act}(hs:iB G β R st a w){j:Nat}{u:Value}{y:V}(hu:a.tmps[j]?=some u)(hv:VR β R w y u):iB G β R ⟨eT y st.t j,st.h⟩ a w:=by
 refine⟨hs.df,?_,hs.hs⟩
 have h1:=hs.tm.set j y u hv
 show dJ _ (eT y st.t j) a.tmps.toList
 rw[eV]
 have e:a.tmps.toList.set j u=a.tmps.toList:=by
  apply List.ext_getElem?;intro i
  rw[List.getElem?_set];split
  ·rename_i h;subst h
   have hl:=(bH.1 hu).1
   rw[if_pos (by simpa using hl),cR,hu]
  ·rfl
 rwa [e]at h1
theorem pV{a:Act}{d:Nat}{v:Value}(h:d<a.tmps.size):(a.put (some d) v).tmps[d]?=some v:=by
 show (a.tmps.setIfInBounds d v)[d]?=some v
 simp[h]
theorem kC{a:Act}{d s:Nat}{v:Value}(h:d≠s):(a.put (some d) v).tmps[s]?=a.tmps[s]?:=by
 show (a.tmps.setIfInBounds d v)[s]?=_
 exact Array.getElem?_setIfInBounds_ne h
def jT:List Nat→List V→List V
 |[],t=>t
 |d::r,t=>jT r (eT (.c .top) t d)
theorem lK:∀(l:List Nat) (t:List V),(jT l t).length=t.length
 |[],_=>rfl
 |d::r,t=>by rw[jT,lK r,eV,cE]
theorem mS{s:Nat}:∀(l:List Nat) (t:List V),s ∉ l→bC (.c .top) (jT l t) s=bC (.c .top) t s
 |[],_,_=>rfl
 |d::r,t,h=>by
  rw[jT,mS r _ (fun h'=>h (cN _ h'))];exact cP _ _ _ (fun e=>h (by simp[e]))
theorem BS{t:List V}{d s:Nat}:bC (.c .top) (eT (V.c C.top) t d) s=.c .top∨(d≠s∧bC (.c .top) (eT (V.c C.top) t d) s=bC (.c .top) t s):=by
 by_cases e:d=s
 ·subst e
  left
  rcases cL d t.length with h|h
  ·exact eA _ _ _ h
  ·rw[fU,eV,aD,cB (by simpa using h)];rfl
 ·exact .inr ⟨e,cP _ _ _ e⟩
theorem DQ:∀(l:List Nat) (t:List V) (s:Nat),bC (.c .top) (jT l t) s=.c .top∨bC (.c .top) (jT l t) s=bC (.c .top) t s
 |[],_,_=>.inr rfl
 |d::r,t,s=>by
  rcases DQ r (eT (.c .top) t d) s with h|h
  ·exact .inl h
  ·rcases BS (t:=t) (d:=d) (s:=s) with h1|⟨_,h1⟩
   ·exact .inl (h.trans h1)
   ·exact .inr (h.trans h1)
theorem qA{s:Nat}:∀(l:List Nat) (t:List V),s∈l→bC (.c .top) (jT l t) s=.c .top
 |d::r,t,h=>by
  by_cases hr:s∈r
  ·exact qA r _ hr
  ·rw[jT,mS r _ hr]
   have e:s=d:=(fC.1 h).resolve_right hr
   subst e
   rcases BS (t:=t) (d:=s) (s:=s) with h1|⟨h1,_⟩
   ·exact h1
   ·exact absurd rfl h1
theorem iB.tops{β:Bt}{R:Nat→Prop}{w:World}{st:St}{a:Act}(hs:iB G β R st a w)(l:List Nat):iB G β R ⟨jT l st.t,st.h⟩ a w:=by
 refine⟨hs.df,dJ.of_get (by rw[lK];exact hs.tm.length) ?_,hs.hs⟩;intro i x y hx hy
 have hx:(jT l st.t)[i]?=some x:=hx
 have e:bC (.c .top) (jT l st.t) i=x:=by rw[fU,aD,hx];rfl
 rcases DQ l st.t i with h|h
 ·rw[←e,h];exact trivial
 ·rw[←e,h]
  have hl:i<st.t.length:=by
   have:=(aX.1 hx).1
   rwa [lK]at this
  obtain⟨y',h1,h2⟩:=hs.tm.get i st.t[i] (aK hl);rw[hy]at h1;injection h1 with h1;subst h1;rw[fU,aD,aK hl];exact h2
theorem iB.put_top{β β':Bt}{R R':Nat→Prop}{w w':World}{t:List V}{h h':List AO}{a:Act}(hs:iB G β R ⟨t,h⟩ a w)(k:Gr β R w β' R' w')(hh:HS G β' R' w' h'){d:Nat}(hd:bC (.c .top) t d=.c .top)(u:Value):iB G β' R' ⟨t,h'⟩ (a.put (some d) u) w':=by
 have h1:=hs.put k hh (x:=.c .top) (u:=u) trivial (some d)
 have e:mG t (some d) (.c .top)=t:=yA (d:=.c .top) hd
 have h2:iB G β' R' ⟨mG t (some d) (.c .top),h'⟩ (a.put (some d) u) w':=h1
 rwa [e]at h2
end
section
variable {P:Program} {G:Nat→Option Obj}
structure MA where
 n:Nat
 tm:TypeId
 ts:TypeId
 r:TypeId×TypeId×Nat
 bytes:Nat
 z:List PV
 sm:Nat
 sk:Nat
 sy:Nat
 dE:Nat
 d0:Nat
 dA:Nat
 d1:Nat
def MA.ds(x:MA):List Nat:=[x.dE,x.d0,x.dA,x.d1]
structure RS (P:Program) (ops:Array Oper) (x:MA):Prop where
 size:ops.size=x.n+5
 oE:∃o,ops[x.n]?=some o∧o.op=.mapEntry x.tm (.tmp x.sm) (.tmp x.sk)∧o.dst=some x.dE∧o.guard=none
 o0:∃o,ops[x.n+1]?=some o∧o.op=.extract (.tmp x.dE) 0∧o.dst=some x.d0∧o.guard=none
 oA:∃o,ops[x.n+2]?=some o∧o.op=.call { callee:=.builtin .append,args := #[.tmp x.d0,.tmp x.sy],argTypes := #[x.ts,x.ts] }∧o.dst=some x.dA∧o.guard=none
 o1:∃o,ops[x.n+3]?=some o∧o.op=.extract (.tmp x.dE) 1∧o.dst=some x.d1∧o.guard=none
 oS:∃o,ops[x.n+4]?=some o∧o.op=.entryStore x.tm (.tmp x.sm) (.tmp x.d1) (.tmp x.dA)∧o.dst=none∧o.guard=none
 back:∀i o,ops[i]?=some o→∀e∈o.after,fR .any e=true→e.on<i
 w10:cY .any ops (x.n+1) x.n=true
 w21:cY .any ops (x.n+2) (x.n+1)=true
 w30:cY .any ops (x.n+3) x.n=true
 w42:cY .any ops (x.n+4) (x.n+2)=true
 w43:cY .any ops (x.n+4) (x.n+3)=true
 dE0:x.dE≠x.d0
 dEA:x.dE≠x.dA
 dE1:x.dE≠x.d1
 d0A:x.d0≠x.dA
 d01:x.d0≠x.d1
 dA1:x.dA≠x.d1
 smN:x.sm ∉ x.ds
 skN:x.sk ∉ x.ds
 syN:x.sy ∉ x.ds
 hm:yX P x.tm=some x.r
 ht:P.underlying x.ts=some (.slice x.r.2.1)
 hsz:iF P x.r.2.1=some x.r.2.2
 hby:oT P x.r.2.1=some x.bytes
 hz:lG P x.r.2.1=some x.z
noncomputable def maT(P:Program)(x:MA)(st:St)(k:St→Tr):Tr:=
 nH (HT (fun d=>gT d (fG st.t)) x.ds)<|match bC (.c .top) st.t x.sm with
 |.c (.mp id)=>match bC .gone st.h id with
  |.mapl ok ty sz g none=>match MB (bC (.c .top) st.t x.sk) with
   |some kv=>nH (cA ty x.r.2.1&&cA sz x.r.2.2&&gT 0 sz&&cA (fG x.z) sz) (.rq (ok=bJ P x.r.1∧ok kv=true) (nD st sz (.t x.sy) fun m gy=>.rq (((g kv).1+m)*x.bytes≤140737488355328∧(g kv).1+m≤140737488355328∧∀e o,e<m→o<sz→isP (gy e o)=true∧iQ (gy e o)=true)
    (k ⟨jT x.ds st.t,fB .gone (fB .gone (eT (.mapl ok ty sz (zY g kv ((g kv).1+m) fun e o=>if e<(g kv).1 then (g kv).2 e o else mZ (gy (e-(g kv).1) o)) none) st.h id))⟩)))
   |none=>.fail
  |_=>.fail
 |_=>.fail
def nG(ok:Value→Bool)(ty:TypeId)(sz:Nat)(g:Value→Nat×(Nat→Nat→PV))(kv:Value)(id:Nat)(h:List AO):List AO:=
 fB (.row ty sz (g kv).1 fun e o=>.p ((g kv).2 e o)) (eT (.mapl ok ty sz g (some (kv,.sl h.length sz 0 (g kv).1))) h id)
def HH(ok:Value→Bool)(ty:TypeId)(sz:Nat)(g:Value→Nat×(Nat→Nat→PV))(kv:Value)(id:Nat)(h:List AO)(m:Nat)(gy:Nat→Nat→C):List AO:=
 fB (.row ty sz ((g kv).1+m) (fI (g kv).1 (fun e o=>.p ((g kv).2 e o)) gy)) (eT .gone (nG ok ty sz g kv id h) h.length)
structure MS (G:Nat→Option Obj) (x:MA) (ok:Value→Bool) (ty:TypeId) (sz:Nat) (g:Value→Nat×(Nat→Nat→PV)) (kv:Value) (id:Nat) (h:List AO) (m:Nat) (gy:Nat→Nat→C) (t:List V) (β0:Bt) (R0:Nat→Prop) (w0:World) (x0 xA x1:Bool) (a:Act) (w:World):Prop where
 ex:∃(β:Bt) (R:Nat→Prop) (b N:Nat) (v:Value) (s:Nat) (es:Array MapEntry) (clock j:Nat) (e:MapEntry),iB G β R ⟨jT x.ds t,match xA with|true=>HH ok ty sz g kv id h m gy|false=>nG ok ty sz g kv id h⟩ a w∧Fr β0 R0 w0 β R w∧(∀b,R0 b→R b)∧β id=some (b,N) ∧
   w.heap[b]?=some (.map es clock)∧nM es clock∧es.toList[j]?=some e∧e.key=kv∧e.born=s∧a.tmps[x.dE]?=some (.tuple #[v,.int .i64 (s:Nat)])∧(x0=true→a.tmps[x.d0]?=some v)∧(x1=true→a.tmps[x.d1]?=some (.int .i64 (s:Nat))) ∧
   (xA=false→CR β R w (.sl h.length sz 0 (g kv).1) v)∧(xA=true→∃u,a.tmps[x.dA]?=some u∧CR β R w (.sl (h.length+1) sz 0 ((g kv).1+m)) u)
variable {x:MA} {ops:Array Oper} {ok:Value→Bool} {ty:TypeId} {sz:Nat} {g:Value→Nat×(Nat→Nat→PV)} {kv:Value} {id:Nat} {h:List AO} {m:Nat} {gy:Nat→Nat→C} {t:List V} {β0:Bt} {R0:Nat→Prop} {w0 w:World} {a:Act} {Q:Exit→Act→World→Prop} {K:Act→World→Prop} {x0 xA x1:Bool}
theorem aKM(hx:RS P ops x)(hr:∀d∈x.ds,d<t.length)(hs:MS G x ok ty sz g kv id h m gy t β0 R0 w0 x0 xA x1 a w)(hK:∀a' w',MS G x ok ty sz g kv id h m gy t β0 R0 w0 true xA x1 a' w'→K a' w'):wpOp P ops Q (x.n+1) K a w:=by
 obtain⟨o,h1,h2,h3,h4⟩:=hx.o0;obtain⟨β,R,b,N,v,s,es,clock,j,e,q1,q2,q3,q4,q5,q6,q7,q8,q9,q10,q11,q12,q13,q14⟩:=hs.ex
 have hsz:a.tmps.size=t.length:=by have:=q1.tm.length;rw[lK]at this;simpa using this.symm
 unfold wpOp;simp only[h1];rw[show fK o (yielded ops a.tmps)=true by unfold fK;rw[h4]];simp only[if_true];left
 have hev:a.eval (.tmp x.dE)=.tuple #[v,.int .i64 (s:Nat)]:=by show a.tmps.getD x.dE undef=_;simp[q10]
 have hrun:(execOp a.eval o).run P w=.ok (.value v) w:=by simp[execOp,h2,hev,Instr.extract]
 unfold Oper.wp;rw[hrun];refine hK _ _ ⟨β,R,b,N,v,s,es,clock,j,e,?_,q2,q3,q4,q5,q6,q7,q8,q9,?_,fun _=>?_,fun h=>?_,q13,fun h=>?_⟩
 ·rw[h3];exact q1.put_top (Gr.refl _ _ _) q1.hs (qA _ _ (by simp[MA.ds])) v
 ·rw[h3,kC hx.dE0.symm];exact q10
 ·rw[h3];exact pV (by rw[hsz];exact hr _ (by simp[MA.ds]))
 ·rw[h3,kC hx.d01];exact q12 h
 ·obtain⟨u,k1,k2⟩:=q14 h
  exact⟨u,by rw[h3,kC hx.d0A];exact k1,k2⟩
theorem aE0(hx:RS P ops x)(hr:∀d∈x.ds,d<t.length)(hs:MS G x ok ty sz g kv id h m gy t β0 R0 w0 x0 xA x1 a w)(hK:∀a' w',MS G x ok ty sz g kv id h m gy t β0 R0 w0 x0 xA true a' w'→K a' w'):wpOp P ops Q (x.n+3) K a w:=by
 obtain⟨o,h1,h2,h3,h4⟩:=hx.o1;obtain⟨β,R,b,N,v,s,es,clock,j,e,q1,q2,q3,q4,q5,q6,q7,q8,q9,q10,q11,q12,q13,q14⟩:=hs.ex
 have hsz:a.tmps.size=t.length:=by have:=q1.tm.length;rw[lK]at this;simpa using this.symm
 unfold wpOp;simp only[h1];rw[show fK o (yielded ops a.tmps)=true by unfold fK;rw[h4]];simp only[if_true];left
 have hev:a.eval (.tmp x.dE)=.tuple #[v,.int .i64 (s:Nat)]:=by show a.tmps.getD x.dE undef=_;simp[q10]
 have hrun:(execOp a.eval o).run P w=.ok (.value (.int .i64 (s:Nat))) w:=by simp[execOp,h2,hev,Instr.extract]
 unfold Oper.wp;rw[hrun];refine hK _ _ ⟨β,R,b,N,v,s,es,clock,j,e,?_,q2,q3,q4,q5,q6,q7,q8,q9,?_,fun h=>?_,fun _=>?_,q13,fun h=>?_⟩
 ·rw[h3];exact q1.put_top (Gr.refl _ _ _) q1.hs (qA _ _ (by simp[MA.ds])) _
 ·rw[h3,kC hx.dE1.symm];exact q10
 ·rw[h3,kC hx.d01.symm];exact q11 h
 ·rw[h3];exact pV (by rw[hsz];exact hr _ (by simp[MA.ds]))
 ·obtain⟨u,k1,k2⟩:=q14 h
  exact⟨u,by rw[h3,kC hx.dA1.symm];exact k1,k2⟩
theorem LG{i:Nat}(hi:i<h.length)(hne:i≠id):bC .gone (nG ok ty sz g kv id h) i=bC .gone h i:=by
 unfold nG;rw[fM _ _ _ (by rw[eV,cE];exact hi),cP _ _ _ (Ne.symm hne)]
theorem sZ(hi:id<h.length):bC .gone (nG ok ty sz g kv id h) id=.mapl ok ty sz g (some (kv,.sl h.length sz 0 (g kv).1)):=by
 unfold nG;rw[fM _ _ _ (by rw[eV,cE];exact hi),eA _ _ _ hi]
theorem wT:bC .gone (nG ok ty sz g kv id h) h.length=.row ty sz (g kv).1 fun e o=>.p ((g kv).2 e o):=by
 unfold nG
 have:=lH AO.gone (.row ty sz (g kv).1 fun e o=>.p ((g kv).2 e o)) (eT (.mapl ok ty sz g (some (kv,.sl h.length sz 0 (g kv).1))) h id)
 rwa [eV,cE,←eV]at this
theorem zB:(nG ok ty sz g kv id h).length=h.length+1:=by unfold nG;rw[kF,eV,cE]
theorem ZD{st st':St}{y:AX}{k1 k2:Nat→(Nat→Nat→C)→Tr}{K1 K2:X→St→Prop}(he:st'.ev y=st.ev y)(hrow:∀i ty sz n f,bC .gone st.h i=.row ty sz n f→bC .gone st'.h i=.row ty sz n f)(hk:∀m gy,(k1 m gy).holds P G K1→(k2 m gy).holds P G K2)(hh:(nD st sz y k1).holds P G K1):(nD st' sz y k2).holds P G K2:=by
 simp only[nD,he]at hh ⊢;split at hh
 ·rename_i e1
  (try rw[e1])
  exact hk _ _ hh
 ·rename_i e1
  (try rw[e1])
  obtain⟨c1,c2⟩:=bZ hh;exact eB c1 (hk _ _ c2)
 ·rename_i sz' id' off len e1
  (try rw[e1])
  (try dsimp only at hh ⊢)
  split at hh
  ·rename_i e2
   rw[hrow _ _ _ _ _ e2];obtain⟨c1,c2,c3⟩:=bZ hh;exact eB c1 ⟨c2,hk _ _ c3⟩
  ·exact hh.elim
 ·exact hh.elim
theorem aUA(hx:RS P ops x)(hr:∀d∈x.ds,d<t.length){β:Bt}{R:Nat→Prop}(hs:iB G β R ⟨t,h⟩ a w)(hf:Fr β0 R0 w0 β R w)(hrm:∀b,R0 b→R b)(hid:bC .gone h id=.mapl ok ty sz g none)(hsm:bC (.c .top) t x.sm=.c (.mp id))(hsk:MB (bC (.c .top) t x.sk)=some kv)(hok:ok=bJ P x.r.1)(hkv:ok kv=true)
  (hK:∀a' w',MS G x ok ty sz g kv id h m gy t β0 R0 w0 false false false a' w'→K a' w'):wpOp P ops Q x.n K a w:=by
 obtain⟨o,h1,h2,h3,h4⟩:=hx.oE;subst hok
 have hsz:a.tmps.size=t.length:=by have:=hs.tm.length;simpa using this.symm
 have hidl:id<h.length:=fZ hid (by simp)
 obtain⟨β2,R2,s1,f1,f2⟩:=wY (st:=⟨t,h⟩) kv hid β R a w hs;rw[eL]at s1
 have s1:iB G β2 R2 ⟨t,nG (bJ P x.r.1) ty sz g kv id h⟩ a w:=s1
 have hm1:=bW (x:=.tmp x.sm) s1 rfl
 have hm1:VR β2 R2 w (bC (.c .top) t x.sm) (a.eval (.tmp x.sm)):=hm1
 rw[hsm]at hm1;obtain⟨b,N,q1,q2⟩:=hm1
 have hk1:=bW (x:=.tmp x.sk) s1 rfl
 have hk1:VR β2 R2 w (bC (.c .top) t x.sk) (a.eval (.tmp x.sk)):=hk1
 have q3:=qL hk1 hsk
 have hob:=s1.hs.obj id b N q1
 have hidO:=sZ (ok:=bJ P x.r.1) (ty:=ty) (sz:=sz) (g:=g) (kv:=kv) (id:=id) hidl
 have hob:OR β2 R2 w (bC .gone (nG (bJ P x.r.1) ty sz g kv id h) id) b N:=hob
 rw[hidO]at hob;obtain⟨es,clock,g1,g2,g3,g4⟩:=hob
 obtain⟨v,sp,es1,clock1,j,e,hrun,hB,hj,hek,hev,hbs,hcase⟩:=aNT hx.hm g1 g2 (fun e he=>by
  obtain⟨i,hi⟩:=List.getElem?_of_mem he
  exact(g3 i e hi).1) hkv
 unfold wpOp;simp only[h1];rw[show fK o (yielded ops a.tmps)=true by unfold fK;rw[h4]];simp only[if_true];left
 have hex:(execOp a.eval o).run P w=.ok (.value (.tuple #[v,.int .i64 (sp:Nat)])) (cO w b (.map es1 clock1)):=by simp[execOp,h2,q2,q3,hrun]
 unfold Oper.wp;rw[hex]
 have hnil:CR β2 R2 w (.sl h.length sz 0 (g kv).1) v:=by
  rcases hcase with⟨rfl,c2,_⟩|⟨c1,_⟩
  ·exact(g4 kv c2).1 kv _ rfl rfl
  ·have:=(g3 j e c1).2.1 kv _ rfl hek
   rwa [hev]at this
 have hsub:∀y∈es.toList,y∈es1.toList:=fun y hy=>by
  rcases hcase with⟨_,_,c3,_⟩|⟨_,c2⟩
  ·rw[c3];exact List.mem_append_left _ hy
  ·rw[c2];exact hy
 obtain⟨r1,r2⟩:=sB s1.hs q1 (by show (bC .gone (nG _ _ _ _ _ _ _) id).live=true;rw[hidO];rfl) (x:=.mapl (bJ P x.r.1) ty sz g (some (kv,.sl h.length sz 0 (g kv).1))) (w':=cO w b (.map es1 clock1)) rfl rfl rfl (by simp[cO]) (fun j hj=>ChangeMaps.heap_setBlock_other g1 _ (fun e=>hj e)) (by
   intro kp kq;refine⟨es1,clock1,ChangeMaps.heap_setBlock_same g1 _,hB,fun i e' he=>?_,fun k hk=>?_⟩
   ·have old:es.toList[i]?=some e'→bJ P x.r.1 e'.key=true∧(∀k0 c,some (kv,C.sl h.length sz 0 (g kv).1)=some (k0,c)→e'.key=k0→CR β2 R2 (cO w b (.map es1 clock1)) c e'.val)∧((∀k0 c,some (kv,C.sl h.length sz 0 (g kv).1)=some (k0,c)→e'.key≠k0)→oU β2 R2 (cO w b (.map es1 clock1)) (b,i) (.own ty sz (g e'.key).1 (g e'.key).2) e'.val):=fun hi=>by
      obtain⟨a1,a2,a3⟩:=g3 i e' hi;exact⟨a1,fun k0 c c1 c2=>CR.keep kp (a2 k0 c c1 c2),fun c1=>oU.keep kp (kq.at b) (a3 c1)⟩
    rcases hcase with⟨c1,c2,c3,c4⟩|⟨_,c2⟩
    ·rw[c3]at he
     by_cases hlt:i<es.toList.length
     ·rw[cG hlt]at he
      exact old he
     ·rw[cV (by omega)]at he
      have h0:i-es.toList.length=0:=by
       cases hq:i-es.toList.length with
       |zero=>rfl
       |succ q=>rw[hq]at he;simp at he
      rw[h0]at he;simp at he;subst he;refine⟨by rw[hek];exact hkv,fun k0 c d1 d2=>?_,fun d1=>absurd hek (d1 kv _ rfl)⟩;injection d1 with d1;injection d1 with d1 d3;subst d3;rw[hev];exact CR.keep kp hnil
    ·rw[c2]at he
     exact old he
   ·obtain⟨a1,a2⟩:=g4 k fun y hy=>hk y (hsub y hy)
    exact⟨fun k1 c d1 d2=>CR.keep kp (a1 k1 c d1 d2),a2⟩)
 have r1:HS G β2 R2 (cO w b (.map es1 clock1)) (eT (.mapl (bJ P x.r.1) ty sz g (some (kv,.sl h.length sz 0 (g kv).1))) (nG (bJ P x.r.1) ty sz g kv id h) id):=r1
 rw[yA hidO]at r1
 have f3:Fr β0 R0 w0 β2 R2 (cO w b (.map es1 clock1)):=(hf.trans f1 hrm).trans r2.toFr fun b hb=>f2 b (hrm b hb)
 refine hK _ _ ⟨β2,R2,b,N,v,sp,es1,clock1,j,e,?_,f3,fun b hb=>f2 b (hrm b hb),q1,ChangeMaps.heap_setBlock_same g1 _,hB,hj,hek,hbs,?_,fun h=>(by cases h),fun h=>(by cases h),fun _=>CR.keep r2.keeps hnil,fun h=>(by cases h)⟩
 ·rw[h3]
  exact(s1.tops x.ds).put_top r2 r1 (qA _ _ (by simp[MA.ds])) _
 ·rw[h3];exact pV (by rw[hsz];exact hr _ (by simp[MA.ds]))
theorem aQO(hx:RS P ops x)(hr:∀d∈x.ds,d<t.length)(hty:ty=x.r.2.1)(hz:sz=x.r.2.2)(hz0:0<sz)(hzl:fG x.z=sz)(hid:bC .gone h id=.mapl ok ty sz g none)(hlim:((g kv).1+m)*x.bytes≤140737488355328∧(g kv).1+m≤140737488355328∧∀e o,e<m→o<sz→isP (gy e o)=true∧iQ (gy e o)=true)
  (hsrc:∀(k2:Nat→(Nat→Nat→C)→Tr) (K2:X→St→Prop),(k2 m gy).holds P G K2→(nD ⟨t,h⟩ sz (.t x.sy) k2).holds P G K2) (hs:MS G x ok ty sz g kv id h m gy t β0 R0 w0 true false x1 a w)
  (hK:∀a' w',MS G x ok ty sz g kv id h m gy t β0 R0 w0 true true x1 a' w'→K a' w'):wpOp P ops Q (x.n+2) K a w:=by
 obtain⟨o,h1,h2,h3,h4⟩:=hx.oA;subst hty;obtain⟨β,R,b,N,v,s,es,clock,j,e,q1,q2,q3,q4,q5,q6,q7,q8,q9,q10,q11,q12,q13,q14⟩:=hs.ex
 have hsz:a.tmps.size=t.length:=by have:=q1.tm.length;rw[lK]at this;simpa using this.symm
 have hidl:id<h.length:=fZ hid (by simp)
 have q1:iB G β R ⟨jT x.ds t,nG ok x.r.2.1 sz g kv id h⟩ a w:=q1
 have hv:=q13 rfl
 have q1k:=q1.know (q11 rfl) (show VR β R w (.c (.sl h.length sz 0 (g kv).1)) v from hv)
 have ev0:St.ev ⟨eT (.c (.sl h.length sz 0 (g kv).1)) (jT x.ds t) x.d0,nG ok x.r.2.1 sz g kv id h⟩ (.t x.d0)=.c (.sl h.length sz 0 (g kv).1):=eA _ _ _ (by rw[lK];exact hr _ (by simp[MA.ds]))
 have evy:St.ev ⟨eT (.c (.sl h.length sz 0 (g kv).1)) (jT x.ds t) x.d0,nG ok x.r.2.1 sz g kv id h⟩ (.t x.sy)=St.ev ⟨t,h⟩ (.t x.sy):=by
  show bC (.c .top) (eT _ (jT x.ds t) x.d0) x.sy=bC (.c .top) t x.sy
  rw[cP _ _ _ (fun e=>hx.syN (by rw[←e];simp[MA.ds])),mS _ _ hx.syN]
 have hopT:(iU (fun _ _ _ _=>.fail) ⟨eT (.c (.sl h.length sz 0 (g kv).1)) (jT x.ds t) x.d0,nG ok x.r.2.1 sz g kv id h⟩ (fun v h'=>.rq (v=.c (.sl (h.length+1) sz 0 ((g kv).1+m))∧h'=HH ok x.r.2.1 sz g kv id h m gy) (.done .normal ⟨[],[]⟩)) (.app x.r.2.1 sz x.bytes x.z (.t x.d0) (.t x.sy))).holds P G fun _ _=>True:=by
  simp only[iU];refine eB (by rw[aQ];exact⟨by simpa using hz0,by rw[hzl];exact Nat.beq_refl _⟩) ?_;simp only[yS,ev0,bT,show cA 0 0=true from rfl,xT,wT];refine eB (by simp) ⟨trivial,?_⟩;refine ZD (K1:=fun _ _=>True) (k1:=fun m' gy'=>.rq (m'=m∧gy'=gy) (.done .normal ⟨[],[]⟩)) evy (fun i ty' sz' n' f' hi=>?_) (fun m' gy' hh=>?_) (hsrc _ _ ⟨⟨rfl,rfl⟩,trivial⟩)
  ·rw[LG (fZ hi (by simp)) (fun e=>by subst e;rw[hid]at hi;cases hi)];exact hi
  ·obtain⟨⟨rfl,rfl⟩,_⟩:=hh
   refine⟨⟨hlim.1,hlim.2.1,fun e o he ho=>(hlim.2.2 e o he ho).2⟩,⟨?_,rfl⟩,trivial⟩;rw[eL,zB]
 obtain⟨u,w2,β2,xv,h',k1,k2,k3,k4,k5,k6,k7⟩:=YN q1k hx.ht (by rw[hz];exact hx.hsz) hx.hby hx.hz rfl rfl h2 hopT (fun id' sz' off len he=>by
   rw[ev0]at he;injection he with he;injection he with _ _ he _;exact he.symm)
 obtain⟨⟨rfl,rfl⟩,_⟩:=k2;unfold wpOp;simp only[h1];rw[show fK o (yielded ops a.tmps)=true by unfold fK;rw[h4]];simp only[if_true];left;unfold Oper.wp;rw[k1]
 have hev0:a.eval (.tmp x.d0)=v:=by show a.tmps.getD x.d0 undef=v;simp[q11 rfl]
 have hne:some b≠(a.eval (.tmp x.d0)).ownBlock:=by
  rw[hev0];obtain⟨A,c,rfl,_,_,hc⟩:=hv
  rcases hc with⟨hA,_,_⟩|⟨b1,N1,c1,rfl,_⟩
  ·have hA:A=none:=hA.resolve_right (by omega)
   subst hA;simp[Value.ownBlock]
  ·intro hb
   have hb:b=b1:=by simpa[Value.ownBlock] using hb
   subst hb
   have:=q1.hs.inj id h.length b N N1 q4 c1 (by show (bC .gone (nG _ _ _ _ _ _ _) id).live=true;rw[sZ hidl];rfl) (by show (bC .gone (nG _ _ _ _ _ _ _) h.length).live=true;rw[wT];rfl)
   omega
 have hb2:w2.heap[b]?=some (.map es clock):=(k7.block b (q1.hs.lt id b N q4) hne).trans q5
 refine hK _ _ ⟨β2,R,b,N,v,s,es,clock,j,e,?_,q2.trans k5.toFr q3,fun b hb=>k5.rm b (q3 b hb),k5.bm _ _ q4,hb2,q6,q7,q8,q9,?_,fun _=>?_,fun h=>?_,fun h=>(by cases h),fun _=>⟨u,?_,k3⟩⟩
 ·rw[h3]
  exact q1.put_top k5 k4 (qA _ _ (by simp[MA.ds])) u
 ·rw[h3,kC hx.dEA.symm];exact q10
 ·rw[h3,kC hx.d0A.symm];exact q11 rfl
 ·rw[h3,kC hx.dA1];exact q12 h
 ·rw[h3];exact pV (by rw[hsz];exact hr _ (by simp[MA.ds]))
theorem aF4{X:AO}(hidl:id<h.length):eT X (HH ok ty sz g kv id h m gy) id=fB (.row ty sz ((g kv).1+m) (fI (g kv).1 (fun e o=>.p ((g kv).2 e o)) gy)) (fB .gone (eT X h id)):=by
 unfold HH nG;simp only[eV,kK];rw[List.set_append_left _ _ (by simp;omega)];congr 1;rw[List.set_append_right _ _ (by simp),List.set_append_left _ _ (by simpa using hidl)];simp
theorem BT(hidl:id<h.length):bC .gone (HH ok ty sz g kv id h m gy) id=.mapl ok ty sz g (some (kv,.sl h.length sz 0 (g kv).1)):=by
 unfold HH;rw[fM _ _ _ (by rw[eV,cE,zB];omega),cP _ _ _ (by omega),sZ hidl]
theorem aU9(hx:RS P ops x)(hid:bC .gone h id=.mapl ok ty sz g none)(hsm:bC (.c .top) t x.sm=.c (.mp id))(hlim:∀e o,e<m→o<sz→isP (gy e o)=true)(hs:MS G x ok ty sz g kv id h m gy t β0 R0 w0 true true true a w)
  (hK:∀a' w' β R,iB G β R ⟨jT x.ds t,fB .gone (fB .gone (eT (.mapl ok ty sz (zY g kv ((g kv).1+m) fun e o=>if e<(g kv).1 then (g kv).2 e o else mZ (gy (e-(g kv).1) o)) none) h id))⟩ a' w'→Fr β0 R0 w0 β R w'→(∀b,R0 b→R b)→K a' w'):wpOp P ops Q (x.n+4) K a w:=by
 obtain⟨o,h1,h2,h3,h4⟩:=hx.oS;obtain⟨β,R,b,N,v,s,es,clock,j,e,q1,q2,q3,q4,q5,q6,q7,q8,q9,q10,q11,q12,q13,q14⟩:=hs.ex
 have q1:iB G β R ⟨jT x.ds t,HH ok ty sz g kv id h m gy⟩ a w:=q1
 have hidl:id<h.length:=fZ hid (by simp)
 obtain⟨u,hu1,hu2⟩:=q14 rfl
 have hm1:=bW (x:=.tmp x.sm) q1 rfl
 have hm1:VR β R w (bC (.c .top) (jT x.ds t) x.sm) (a.eval (.tmp x.sm)):=hm1
 rw[mS _ _ hx.smN,hsm]at hm1;obtain⟨b',N',p1,p2⟩:=hm1;rw[q4]at p1;injection p1 with p1;injection p1 with p1 _;subst p1
 have hu3:a.eval (.tmp x.dA)=u:=by show a.tmps.getD x.dA undef=u;simp[hu1]
 have hst:a.eval (.tmp x.d1)=.int .i64 (s:Nat):=by show a.tmps.getD x.d1 undef=_;simp[q12 rfl]
 have hrun:=aOH (P:=P) (tm:=x.tm) q5 q6 q7 q9 u
 unfold wpOp;simp only[h1];rw[show fK o (yielded ops a.tmps)=true by unfold fK;rw[h4]];simp only[if_true];left
 have hex:(execOp a.eval o).run P w=.ok .skip (cO w b (.map (es.modify j fun e=>{ e with val:=u }) clock)):=by simp[execOp,h2,p2,hu3,hst,hrun]
 unfold Oper.wp;rw[hex]
 have hob:=q1.hs.obj id b N q4
 have hob:OR β R w (bC .gone (HH ok ty sz g kv id h m gy) id) b N:=hob
 rw[BT hidl]at hob;obtain⟨es',clock',g1,g2,g3,g4⟩:=hob;rw[q5]at g1;injection g1 with g1;injection g1 with g1 g1';subst g1;subst g1'
 have hlist:(es.modify j fun e=>{ e with val:=u }).toList=es.toList.set j { e with val:=u }:=by rw[Array.toList_modify,ChangeMaps.modify_eq_set _ _ _ _ q7]
 have hB:nM (es.modify j fun e=>{ e with val:=u }) clock:=RL (e1:={ e with val:=u }) q6 q7 rfl rfl hlist
 have hjl:=(aX.1 q7).1
 obtain⟨r1,r2⟩:=sB q1.hs q4 (by show (bC .gone (HH _ _ _ _ _ _ _ _ _) id).live=true;rw[BT hidl];rfl) (x:=.mapl ok ty sz g (some (kv,.sl (h.length+1) sz 0 ((g kv).1+m)))) (w':=cO w b (.map (es.modify j fun e=>{ e with val:=u }) clock)) rfl rfl rfl (by simp[cO]) (fun j hj=>ChangeMaps.heap_setBlock_other q5 _ (fun e=>hj e)) (by
   intro kp kq;refine⟨_,clock,ChangeMaps.heap_setBlock_same q5 _,hB,fun i e' he=>?_,fun k hk=>?_⟩
   ·rw[hlist,List.getElem?_set]at he
    split at he
    ·rename_i hij
     subst hij;injection he with he;subst he;refine⟨(g3 j e q7).1,fun k0 c d1 d2=>?_,fun d1=>absurd q8 (d1 kv _ rfl)⟩;injection d1 with d1;injection d1 with d1 d3;subst d3;exact CR.keep kp hu2
    ·rename_i hij
     obtain⟨a1,a2,a3⟩:=g3 i e' he
     have hne:e'.key≠kv:=fun hk=>hij (by
      have hil:=(aX.1 he).1
      have ei:es.toList[i].key=kv:=by rw[(aX.1 he).2];exact hk
      have ej:es.toList[j].key=kv:=by rw[(aX.1 q7).2];exact q8
      rcases Nat.lt_trichotomy i j with hl|hl|hl
      ·exact absurd (ei.trans ej.symm) (dZ.1 q6.1 i j hil hjl hl)
      ·exact hl.symm
      ·exact absurd (ej.trans ei.symm) (dZ.1 q6.1 j i hjl hil hl))
     refine⟨a1,fun k0 c d1 d2=>?_,fun _=>oU.keep kp (kq.at b) (a3 fun k0 c d1=>?_)⟩
     ·injection d1 with d1;injection d1 with d1 d3;subst d1;exact absurd d2 hne
     ·injection d1 with d1;injection d1 with d1 d3;subst d1;exact hne
   ·have hk':∀y∈es.toList,y.key≠k:=fun y hy=>by
      obtain⟨i,hi⟩:=List.getElem?_of_mem hy
      by_cases hij:j=i
      ·subst hij
       rw[q7]at hi;injection hi with hi;subst hi;exact hk { e with val:=u } (by rw[hlist];exact List.mem_set hjl _)
      ·exact hk y (by rw[hlist];exact cM (by rw[List.getElem?_set_ne hij];exact hi))
    obtain⟨a1,a2⟩:=g4 k hk'
    have hne:k≠kv:=fun hkk=>hk' e (cM q7) (q8.trans hkk.symm)
    refine⟨fun k1 c d1 d2=>?_,fun _=>a2 fun k1 c d1=>?_⟩
    ·injection d1 with d1;injection d1 with d1 d3;subst d1;exact absurd d2 hne
    ·injection d1 with d1;injection d1 with d1 d3;subst d1;exact hne)
 have r1:HS G β R (cO w b (.map (es.modify j fun e=>{ e with val:=u }) clock)) (eT (.mapl ok ty sz g (some (kv,.sl (h.length+1) sz 0 ((g kv).1+m)))) (HH ok ty sz g kv id h m gy) id):=r1
 rw[aF4 hidl]at r1
 have hsim:iB G β R ⟨jT x.ds t,fB (.row ty sz ((g kv).1+m) (fI (g kv).1 (fun e o=>.p ((g kv).2 e o)) gy)) (fB .gone (eT (.mapl ok ty sz g (some (kv,.sl (h.length+1) sz 0 ((g kv).1+m)))) h id))⟩ a (cO w b (.map (es.modify j fun e=>{ e with val:=u }) clock)):=⟨q1.df,q1.tm.mono fun _ _=>VR.keep r2.keeps,r1⟩
 have hl1:(eT (AO.mapl ok ty sz g (some (kv,.sl (h.length+1) sz 0 ((g kv).1+m)))) h id).length=h.length:=by rw[eV,cE]
 have e1:bC .gone (fB (.row ty sz ((g kv).1+m) (fI (g kv).1 (fun e o=>.p ((g kv).2 e o)) gy)) (fB .gone (eT (.mapl ok ty sz g (some (kv,.sl (h.length+1) sz 0 ((g kv).1+m)))) h id))) id=.mapl ok ty sz g (some (kv,.sl (h.length+1) sz 0 ((g kv).1+m))):=by
  rw[fM _ _ _ (by rw[kF,hl1];omega),fM _ _ _ (by rw[hl1];exact hidl),eA _ _ _ hidl]
 have e2:bC .gone (fB (.row ty sz ((g kv).1+m) (fI (g kv).1 (fun e o=>.p ((g kv).2 e o)) gy)) (fB .gone (eT (.mapl ok ty sz g (some (kv,.sl (h.length+1) sz 0 ((g kv).1+m)))) h id))) (h.length+1)=.row ty sz ((g kv).1+m) (fI (g kv).1 (fun e o=>.p ((g kv).2 e o)) gy):=by
  have:=lH AO.gone (.row ty sz ((g kv).1+m) (fI (g kv).1 (fun e o=>.p ((g kv).2 e o)) gy)) (fB .gone (eT (.mapl ok ty sz g (some (kv,.sl (h.length+1) sz 0 ((g kv).1+m)))) h id))
  rwa [kF,hl1]at this
 obtain⟨β3,R3,t1,t2,t3⟩:=uM (st:=⟨jT x.ds t,_⟩) (fun e o=>if e<(g kv).1 then (g kv).2 e o else mZ (gy (e-(g kv).1) o)) e1 e2 (fun e o he ho=>by
  unfold fI
  by_cases hlt:e<(g kv).1
  ·rw[if_pos hlt,if_pos hlt]
  ·rw[if_neg hlt,if_neg hlt]
   have:=hlim (e-(g kv).1) o (by omega) ho
   cases hg:gy (e-(g kv).1) o<;>rw[hg]at this<;>first|rfl|cases this) β R a _ hsim
 refine hK _ _ β3 R3 ?_ ((q2.trans r2.toFr q3).trans t2 (fun b hb=>r2.rm b (q3 b hb))) (fun b hb=>t3 b (r2.rm b (q3 b hb)));rw[h3]
 have t1:iB G β3 R3 ⟨jT x.ds t,eT .gone (eT (.mapl ok ty sz (zY g kv ((g kv).1+m) fun e o=>if e<(g kv).1 then (g kv).2 e o else mZ (gy (e-(g kv).1) o)) none) (fB (.row ty sz ((g kv).1+m) (fI (g kv).1 (fun e o=>.p ((g kv).2 e o)) gy)) (fB .gone (eT (.mapl ok ty sz g (some (kv,.sl (h.length+1) sz 0 ((g kv).1+m)))) h id))) id) (h.length+1)⟩ a _:=t1
 have e3:∀(A B Y:AO),eT .gone (eT Y (fB A (fB .gone (eT B h id))) id) (h.length+1)=fB .gone (fB .gone (eT Y h id)):=by
  intro A B Y;simp only[eV,kK]
  have a1:((h.set id B++[AO.gone])++[A]).set id Y=(h.set id Y++[AO.gone])++[A]:=by
   rw[List.set_append_left _ _ (by simp;omega),List.set_append_left _ _ (by simpa using hidl),List.set_set]
  have a2:((h.set id Y++[AO.gone])++[A]).set (h.length+1) AO.gone=(h.set id Y++[AO.gone])++[AO.gone]:=by
   rw[List.set_append_right _ _ (by simp)];simp
  rw[a1,a2]
 rw[e3]at t1;exact t1
theorem aJ1(hx:RS P ops x){listed:Array Bool}(inv:HeadInv .any ops x.n listed)(hall:∀i,i<x.n→listed.getD i false=true)(hr:∀d∈x.ds,d<t.length){β:Bt}{R:Nat→Prop}(hs:iB G β R ⟨t,h⟩ a w)(hf:Fr β0 R0 w0 β R w)(hrm:∀b,R0 b→R b)
  (hty:ty=x.r.2.1) (hz:sz=x.r.2.2) (hz0:0<sz) (hzl:fG x.z=sz) (hid:bC .gone h id=.mapl ok ty sz g none) (hsm:bC (.c .top) t x.sm=.c (.mp id)) (hsk:MB (bC (.c .top) t x.sk)=some kv) (hok:ok=bJ P x.r.1) (hkv:ok kv=true)
  (hlim:((g kv).1+m)*x.bytes≤140737488355328∧(g kv).1+m≤140737488355328∧∀e o,e<m→o<sz→isP (gy e o)=true∧iQ (gy e o)=true)
  (hsrc:∀(k2:Nat→(Nat→Nat→C)→Tr) (K2:X→St→Prop),(k2 m gy).holds P G K2→(nD ⟨t,h⟩ sz (.t x.sy) k2).holds P G K2)
  (hQ:∀a' w' β R,iB G β R ⟨jT x.ds t,fB .gone (fB .gone (eT (.mapl ok ty sz (zY g kv ((g kv).1+m) fun e o=>if e<(g kv).1 then (g kv).2 e o else mZ (gy (e-(g kv).1) o)) none) h id))⟩ a' w'→Fr β0 R0 w0 β R w'→(∀b,R0 b→R b)→Q .normal a' w'):wpAny P .any ops Q 5 listed a w:=by
 have hsz:=hx.size
 have hls:=inv.size
 have un:∀(l:Array Bool) (S:List Nat),l.size=ops.size→(∀i,i<ops.size→(l.getD i true=false↔i ∉ S∧x.n≤i))→True:=fun _ _ _ _=>trivial
 have st:∀(l:Array Bool) (i:Nat),l.size=ops.size→(l.setIfInBounds i true).size=ops.size:=fun l i h=>by simpa using h
 have sett:∀(l:Array Bool) (i:Nat),l.size=ops.size→i<ops.size→(l.setIfInBounds i true).getD i true=true∧(l.setIfInBounds i true).getD i false=true:=fun l i h hi=>by
  have:i<l.size:=by omega
  constructor<;>simp[this]
 have keep:∀(l:Array Bool) (i j:Nat) (d:Bool),i≠j→(l.setIfInBounds i true).getD j d=l.getD j d:=fun l i j d h=>getD_set_ne d h
 have nontrue:∀ {l:Array Bool} {i:Nat},l.getD i true=false→l.getD i false=false:=fun h=>getD_both h
 have t0:=inv.tail x.n (aW _) (by omega)
 have t1:=inv.tail (x.n+1) (by omega) (by omega)
 have t2:=inv.tail (x.n+2) (by omega) (by omega)
 have t3:=inv.tail (x.n+3) (by omega) (by omega)
 have t4:=inv.tail (x.n+4) (by omega) (by omega)
 have fin:∀(l:Array Bool) (fuel:Nat),l.size=ops.size→(∀i,i<ops.size→i≠x.n+4→l.getD i false=true)→l.getD (x.n+4) true=false→∀a w,MS G x ok ty sz g kv id h m gy t β0 R0 w0 true true true a w→wpAny P .any ops Q 1 l a w:=by
  intro l fuel h1 h2 h3 a w hm
  have hrd:x.n+4∈eH .any ops l:=lJ hx.back (by omega) h3 fun j hj=>h2 j (by omega) (by omega)
  refine⟨fun h=>(by rw[h]at hrd;cases hrd),fun i hi=>?_⟩;obtain⟨i1,i2,i3⟩:=nE hi
  have:i=x.n+4:=by
   apply Classical.byContradiction;intro hne
   have:=h2 i i1 hne
   rw[nontrue i2]at this;cases this
  subst this
  refine aU9 hx hid hsm (fun e o he ho=>(hlim.2.2 e o he ho).1) hm fun a' w' β R k1 k2 k3=>?_
  refine⟨?_,hQ a' w' β R k1 k2 k3⟩;rw[List.eq_nil_iff_forall_not_mem];intro j hj
  obtain⟨j1,j2,_⟩:=nE hj
  by_cases e:j=x.n+4
  ·subst e
   rw[(sett l _ h1 (by omega)).1]at j2;cases j2
  ·rw[keep l _ _ _ (Ne.symm e)]at j2
   have:=h2 j j1 e
   rw[nontrue j2]at this;cases this
 refine⟨fun hnil=>?_,fun i hi=>?_⟩
 ·have:x.n∈eH .any ops listed:=lJ hx.back (by omega) t0 hall
  rw[hnil]at this;cases this
 obtain⟨i1,i2,i3⟩:=nE hi
 have hin:i=x.n:=by
  rcases Nat.lt_trichotomy i x.n with hl|hl|hl
  ·have:=hall i hl;rw[nontrue i2]at this;cases this
  ·exact hl
  ·exfalso
   have c:i=x.n+1∨i=x.n+2∨i=x.n+3∨i=x.n+4:=by omega
   rcases c with rfl|rfl|rfl|rfl
   ·have:=i3 _ hx.w10;rw[nontrue t0]at this;cases this
   ·have:=i3 _ hx.w21;rw[nontrue t1]at this;cases this
   ·have:=i3 _ hx.w30;rw[nontrue t0]at this;cases this
   ·have:=i3 _ hx.w42;rw[nontrue t2]at this;cases this
 subst hin
 refine aUA (m:=m) (gy:=gy) hx hr hs hf hrm hid hsm hsk hok hkv fun a1 w1 m1=>?_
 have l1:=st listed x.n hls
 have s1:=sett listed x.n hls (by omega)
 have L1:∀j,j<x.n+1→(listed.setIfInBounds x.n true).getD j false=true:=fun j hj=>by
  by_cases e:x.n=j
  ·subst e;exact s1.2
  ·rw[keep listed _ _ _ e];exact hall j (by omega)
 have k11:(listed.setIfInBounds x.n true).getD (x.n+1) true=false:=by rw[keep listed _ _ _ (by omega)];exact t1
 have k12:(listed.setIfInBounds x.n true).getD (x.n+2) true=false:=by rw[keep listed _ _ _ (by omega)];exact t2
 have k13:(listed.setIfInBounds x.n true).getD (x.n+3) true=false:=by rw[keep listed _ _ _ (by omega)];exact t3
 have k14:(listed.setIfInBounds x.n true).getD (x.n+4) true=false:=by rw[keep listed _ _ _ (by omega)];exact t4
 generalize listed.setIfInBounds x.n true=A at l1 L1 k11 k12 k13 k14
 refine⟨fun hnil=>?_,fun i hi=>?_⟩
 ·have:x.n+1∈eH .any ops A:=lJ hx.back (by omega) k11 L1
  rw[hnil]at this;cases this
 obtain⟨i1,i2,i3⟩:=nE hi
 have hc:i=x.n+1∨i=x.n+3:=by
  by_cases hl:i<x.n+1
  ·have:=L1 i hl;rw[nontrue i2]at this;cases this
  ·have c:i=x.n+1∨i=x.n+2∨i=x.n+3∨i=x.n+4:=by omega
   rcases c with rfl|rfl|rfl|rfl
   ·exact .inl rfl
   ·have:=i3 _ hx.w21;rw[nontrue k11]at this;cases this
   ·exact .inr rfl
   ·have:=i3 _ hx.w42;rw[nontrue k12]at this;cases this
 have goA:∀(B:Array Bool),B.size=ops.size→(∀i,i<ops.size→i≠x.n+2→i≠x.n+4→B.getD i false=true)→B.getD (x.n+2) true=false→B.getD (x.n+4) true=false→∀a w,MS G x ok ty sz g kv id h m gy t β0 R0 w0 true false true a w→wpAny P .any ops Q 2 B a w:=by
  intro B b1 b2 b3 b4 a w hm;refine⟨fun hnil=>?_,fun i hi=>?_⟩
  ·have:x.n+2∈eH .any ops B:=lJ hx.back (by omega) b3 fun j hj=>b2 j (by omega) (by omega) (by omega)
   rw[hnil]at this;cases this
  obtain⟨i1,i2,i3⟩:=nE hi
  have hin:i=x.n+2:=by
   by_cases e1:i=x.n+2
   ·exact e1
   ·by_cases e2:i=x.n+4
    ·subst e2
     have:=i3 _ hx.w42;rw[nontrue b3]at this;cases this
    ·have:=b2 i i1 e1 e2;rw[nontrue i2]at this;cases this
  subst hin
  refine aQO hx hr hty hz hz0 hzl hid hlim hsrc hm fun a' w' m'=>?_
  exact fin _ 0 (st B _ b1) (fun i h1 h2=>by
   by_cases e:x.n+2=i
   ·subst e;exact(sett B _ b1 (by omega)).2
   ·rw[keep B _ _ _ e];exact b2 i h1 (Ne.symm e) h2) (by rw[keep B _ _ _ (by omega)];exact b4) a' w' m'
 rcases hc with rfl|rfl
 ·refine aKM hx hr m1 fun a2 w2 m2=>?_
  have l2:=st A (x.n+1) l1
  have s2:=sett A (x.n+1) l1 (by omega)
  have L2:∀j,j<x.n+2→(A.setIfInBounds (x.n+1) true).getD j false=true:=fun j hj=>by
   by_cases e:x.n+1=j
   ·subst e;exact s2.2
   ·rw[keep A _ _ _ e];exact L1 j (by omega)
  have k22:(A.setIfInBounds (x.n+1) true).getD (x.n+2) true=false:=by rw[keep A _ _ _ (by omega)];exact k12
  have k23:(A.setIfInBounds (x.n+1) true).getD (x.n+3) true=false:=by rw[keep A _ _ _ (by omega)];exact k13
  have k24:(A.setIfInBounds (x.n+1) true).getD (x.n+4) true=false:=by rw[keep A _ _ _ (by omega)];exact k14
  generalize A.setIfInBounds (x.n+1) true=B at l2 L2 k22 k23 k24
  refine⟨fun hnil=>?_,fun i hi=>?_⟩
  ·have:x.n+2∈eH .any ops B:=lJ hx.back (by omega) k22 L2
   rw[hnil]at this;cases this
  obtain⟨i1,i2,i3⟩:=nE hi
  have hc:i=x.n+2∨i=x.n+3:=by
   by_cases hl:i<x.n+2
   ·have:=L2 i hl;rw[nontrue i2]at this;cases this
   ·have c:i=x.n+2∨i=x.n+3∨i=x.n+4:=by omega
    rcases c with rfl|rfl|rfl
    ·exact .inl rfl
    ·exact .inr rfl
    ·have:=i3 _ hx.w42;rw[nontrue k22]at this;cases this
  rcases hc with rfl|rfl
  ·refine aQO hx hr hty hz hz0 hzl hid hlim hsrc m2 fun a3 w3 m3=>?_
   have l3:=st B (x.n+2) l2
   have s3:=sett B (x.n+2) l2 (by omega)
   have L3:∀j,j<x.n+3→(B.setIfInBounds (x.n+2) true).getD j false=true:=fun j hj=>by
    by_cases e:x.n+2=j
    ·subst e;exact s3.2
    ·rw[keep B _ _ _ e];exact L2 j (by omega)
   have k33:(B.setIfInBounds (x.n+2) true).getD (x.n+3) true=false:=by rw[keep B _ _ _ (by omega)];exact k23
   have k34:(B.setIfInBounds (x.n+2) true).getD (x.n+4) true=false:=by rw[keep B _ _ _ (by omega)];exact k24
   generalize B.setIfInBounds (x.n+2) true=D at l3 L3 k33 k34
   refine⟨fun hnil=>?_,fun i hi=>?_⟩
   ·have:x.n+3∈eH .any ops D:=lJ hx.back (by omega) k33 L3
    rw[hnil]at this;cases this
   obtain⟨i1,i2,i3⟩:=nE hi
   have hin:i=x.n+3:=by
    by_cases hl:i<x.n+3
    ·have:=L3 i hl;rw[nontrue i2]at this;cases this
    ·have c:i=x.n+3∨i=x.n+4:=by omega
     rcases c with rfl|rfl
     ·rfl
     ·have:=i3 _ hx.w43;rw[nontrue k33]at this;cases this
   subst hin
   refine aE0 hx hr m3 fun a4 w4 m4=>?_
   exact fin _ 0 (st D _ l3) (fun i h1 h2=>by
    by_cases e:x.n+3=i
    ·subst e;exact(sett D _ l3 (by omega)).2
    ·rw[keep D _ _ _ e];exact L3 i (by omega)) (by rw[keep D _ _ _ (by omega)];exact k34) a4 w4 m4
  ·refine aE0 hx hr m2 fun a3 w3 m3=>?_
   exact goA _ (st B _ l2) (fun i h1 h2 h3=>by
    by_cases e:x.n+3=i
    ·subst e;exact(sett B _ l2 (by omega)).2
    ·rw[keep B _ _ _ e];exact L2 i (by omega)) (by rw[keep B _ _ _ (by omega)];exact k22) (by rw[keep B _ _ _ (by omega)];exact k24) a3 w3 m3
 ·refine aE0 hx hr m1 fun a2 w2 m2=>?_
  have l2:=st A (x.n+3) l1
  have s2:=sett A (x.n+3) l1 (by omega)
  have L2:∀j,j<x.n+1→(A.setIfInBounds (x.n+3) true).getD j false=true:=fun j hj=>by
   rw[keep A _ _ _ (by omega)];exact L1 j hj
  have k21:(A.setIfInBounds (x.n+3) true).getD (x.n+1) true=false:=by rw[keep A _ _ _ (by omega)];exact k11
  have k22:(A.setIfInBounds (x.n+3) true).getD (x.n+2) true=false:=by rw[keep A _ _ _ (by omega)];exact k12
  have k24:(A.setIfInBounds (x.n+3) true).getD (x.n+4) true=false:=by rw[keep A _ _ _ (by omega)];exact k14
  generalize A.setIfInBounds (x.n+3) true=B at l2 s2 L2 k21 k22 k24
  refine⟨fun hnil=>?_,fun i hi=>?_⟩
  ·have:x.n+1∈eH .any ops B:=lJ hx.back (by omega) k21 L2
   rw[hnil]at this;cases this
  obtain⟨i1,i2,i3⟩:=nE hi
  have hin:i=x.n+1:=by
   by_cases hl:i<x.n+1
   ·have:=L2 i hl;rw[nontrue i2]at this;cases this
   ·have c:i=x.n+1∨i=x.n+2∨i=x.n+3∨i=x.n+4:=by omega
    rcases c with rfl|rfl|rfl|rfl
    ·rfl
    ·have:=i3 _ hx.w21;rw[nontrue k21]at this;cases this
    ·rw[s2.1]at i2;cases i2
    ·have:=i3 _ hx.w42;rw[nontrue k22]at this;cases this
  subst hin
  refine aKM hx hr m2 fun a3 w3 m3=>?_
  exact goA _ (st B _ l2) (fun i h1 h2 h3=>by
   by_cases e:x.n+1=i
   ·subst e;exact(sett B _ l2 (by omega)).2
   ·rw[keep B _ _ _ e]
    by_cases e3:i=x.n+3
    ·subst e3;exact s2.2
    ·exact L2 i (by omega)) (by rw[keep B _ _ _ (by omega)];exact k22) (by rw[keep B _ _ _ (by omega)];exact k24) a3 w3 m3
theorem aC5{st:St}{y:AX}{k1:Nat→(Nat→Nat→C)→Tr}{K1:X→St→Prop}(hh:(nD st sz y k1).holds P G K1):∃m gy,(k1 m gy).holds P G K1∧∀(k2:Nat→(Nat→Nat→C)→Tr) (K2:X→St→Prop),(k2 m gy).holds P G K2→(nD st sz y k2).holds P G K2:=by
 simp only[nD]at hh;split at hh
 ·rename_i e1
  exact⟨_,_,hh,fun k2 K2 h2=>by simp only[nD,e1];exact h2⟩
 ·rename_i e1
  obtain⟨c1,c2⟩:=bZ hh;exact⟨_,_,c2,fun k2 K2 h2=>by simp only[nD,e1];exact eB c1 h2⟩
 ·rename_i sz' id' off len e1
  split at hh
  ·rename_i e2
   obtain⟨c1,c2,c3⟩:=bZ hh;exact⟨_,_,c3,fun k2 K2 h2=>by simp only[nD,e1,e2];exact eB c1 ⟨c2,h2⟩⟩
  ·exact hh.elim
 ·exact hh.elim
def aQV:dQ→Bool
 |.raw _=>true
 |_=>false
theorem aFU{ops:Array Oper}{draw:Bool}{c:dQ}(hc:HQ P ops draw=some c):aQV c=false:=by
 cases draw with
 |false=>
  simp only[HQ,bD]at hc;obtain⟨al,_,rfl⟩:=hc;rfl
 |true=>
  simp only[HQ]at hc;split at hc
  ·simp only[aV,aM,bE,aJ]at hc
   obtain⟨al,_,hc⟩:=hc;split at hc
   ·injection hc with hc;subst hc;rfl
   ·split at hc
    ·injection hc with hc;subst hc;rfl
    ·cases hc
  ·cases hc
theorem kM.raw{id:Nat}{ops:Array Oper}{draw:Bool}{st:St}{K:X→St→Prop}(h:Ex P G (.region id ops draw) st K):kM P G (.raw (.region id ops draw)) st K:=by
 refine kM.core fun c hns hc=>?_
 cases c with
 |scope c'=>exact absurd rfl (hns c')
 |region id' ops' draw'=>
  simp only[fE]at hc;split at hc
  ·rename_i c1 hc1
   injection hc with hc;subst hc;cases aFU hc1
  ·injection hc with hc
   injection hc with hc;injection hc with e1 e2 e3;subst e1;subst e2;subst e3;exact h
 |seq c1 c2=>cases h2:fE P c1<;>cases h3:fE P c2<;>simp[fE,h2,h3]at hc
 |cond y c1 c2=>cases h1:cX y<;>cases h2:fE P c1<;>cases h3:fE P c2<;>simp[fE,h1,h2,h3]at hc
 |block id c=>cases h1:fE P c<;>simp[fE,h1]at hc
 |loop c=>cases h1:fE P c<;>simp[fE,h1]at hc
 |_=>simp[fE]at hc
theorem kM.mapapp{ext:Ext}(hext:bG P G ext){rid:Nat}{al:List AI}(hmx:P.follows .mixedOrders=true)(hal0:fD P ops (ops.toList.take x.n)=some al)(hok0:EJ ops.toList al x.n=true)(hwt:wtB ops.toList x.n=true)(hx:RS P ops x){st:St}{K1:X→St→Prop}
  (hh:(iY (iO ext) al st fun s=>maT P x s fun s'=>.done .normal s').holds P G K1):kM P G (.raw (.region rid ops true)) st K1:=by
 refine kM.raw fun β R a w hs=>?_
 refine SN hext hmx hal0 hok0 (by have:=hx.size;omega) hwt hh hs ?_;intro st' listed a' w' β' R' hk inv hall hs' hg
 rw[show ops.size-x.n=5 by have:=hx.size;omega];unfold maT at hk;obtain⟨c0,hk⟩:=bZ hk
 have hr:∀d∈x.ds,d<st'.t.length:=fun d hd=>by
  have:=rN c0 d hd
  rw[eL]at this;simpa using this
 split at hk
 case h_2=>exact hk.elim
 rename_i id hsm;split at hk
 case h_2=>exact hk.elim
 rename_i ok ty sz g hid;split at hk
 case h_2=>exact hk.elim
 rename_i kv hsk;obtain⟨c1,⟨c2,c3⟩,hk⟩:=bZ hk;simp only[aQ]at c1;obtain⟨⟨⟨d1,d2⟩,d3⟩,d4⟩:=c1;obtain⟨m,gy,hk,hsrc⟩:=aC5 hk;obtain⟨hlim,hk⟩:=hk;cases st' with
 |mk t h=>
  refine aJ1 hx inv hall hr hs' hg.toFr hg.rm (aS d1) (aS d2) (by simpa using d3) (aS d4) hid hsm hsk c2 c3 hlim hsrc ?_;intro a2 w2 β2 R2 k1 k2 k3
  exact⟨β2,R2,_,hk,k1,k2,k3⟩
end
open Go.Sort
section
variable {P:Program} {G:Nat→Option Obj} {β:Bt} {R:Nat→Prop} {w w':World} {h:List AO}
theorem JR(hh:HS G β R w h){id b o:Nat}(hid:β id=some (b,o))(hl:(bC .gone h id).live=true){x:AO}(hos:w'.os=w.os)(htp:w'.tape=w.tape)(hou:w'.output=w.output)
  (hsz:w.heap.size≤w'.heap.size) (hw:∀j,j<w.heap.size→j≠b→w'.heap[j]?=w.heap[j]?) (hx:iX β R w β R w'→uD β w β w'→OR β R w' x b o) :
  HS G β R w' (eT x h id)∧Gr β R w β R w':=by
 have hnb:∀b',R b'→b'≠b:=fun b' hb e=>hh.sep id b o hid hl (e▸hb)
 have gr:Gr β R w β R w':={
  os:=hos,tape:=htp,output:=hou,size:=hsz
  rs:=fun b' hb=>hw b' (hh.rlt b' hb) (hnb b' hb)
  fr:=fun b' hlt hn=>hw b' hlt (fun e=>hn (.inl ⟨id,o,e▸hid⟩))
  ex:=fun _ hi=>.inl hi
  rx:=fun b' hb=>.inl hb
  bm:=fun _ _ hi=>hi
  rm:=fun _ hb=>hb }
 have hidl:=hh.dom id _ hid
 have hqb:∀b' ad,β.q b'=some ad→b'≠b:=fun b' ad hb e=>by
  have:=(hh.ql b' ad hb).2.2 id o (e▸hid)
  rw[hl]at this;cases this
 have kq:uD β w β w':=fun b' ad hb=>⟨hb,hw b' (hh.ql b' ad hb).1 (hqb b' ad hb)⟩
 refine⟨⟨?_,?_,?_,?_,?_,?_,?_,?_⟩,gr⟩
 ·intro i y hi;rw[eV,cE];exact hh.dom i y hi
 ·intro i j b1 o1 o2 hi hj li lj
  have li':(bC .gone h i).live=true:=by
   by_cases e:id=i
   ·subst e;exact hl
   ·rw[cP _ _ _ e]at li;exact li
  have lj':(bC .gone h j).live=true:=by
   by_cases e:id=j
   ·subst e;exact hl
   ·rw[cP _ _ _ e]at lj;exact lj
  exact hh.inj i j b1 o1 o2 hi hj li' lj'
 ·intro i b1 o1 hi li
  have li':(bC .gone h i).live=true:=by
   by_cases e:id=i
   ·subst e;exact hl
   ·rw[cP _ _ _ e]at li;exact li
  exact hh.sep i b1 o1 hi li'
 ·intro i b1 o1 hi;exact cJ (hh.lt i b1 o1 hi) hsz
 ·intro b1 hb;exact cJ (hh.rlt b1 hb) hsz
 ·intro i b1 o1 hi
  by_cases e:id=i
  ·subst e
   rw[eA _ _ _ hidl];rw[hid]at hi;injection hi with hi;injection hi with h1 h2;subst h1;subst h2;exact hx gr.keeps kq
  ·rw[cP _ _ _ e]
   by_cases eb:b1=b
   ·subst eb
    cases hn:(bC .gone h i).live with
    |false=>exact OR.dead gr.keeps hn (hh.obj i b1 o1 hi)
    |true=>exact absurd (hh.inj id i b1 o o1 hid hi hl hn) e
   ·exact OR.keep gr.keeps (kq.at b1) (hw b1 (hh.lt i b1 o1 hi) eb) (hh.obj i b1 o1 hi)
 ·intro b1 ob hb
  obtain⟨h1,h2⟩:=hh.gl b1 ob hb;exact⟨h1,(hw b1 (hh.rlt b1 h1) (hnb b1 h1)).trans h2⟩
 ·intro b1 ad hb
  obtain⟨h1,h2,h3⟩:=hh.ql b1 ad hb;refine⟨cJ h1 hsz,h2,fun i o1 hi=>?_⟩
  by_cases e:id=i
  ·subst e
   rw[hid]at hi;injection hi with hi;injection hi with q1 q2;exact absurd q1.symm (hqb b1 ad hb)
  ·rw[cP _ _ _ e];exact h3 i o1 hi
theorem vD(hh:HS G β R w h){id:Nat}{ty:TypeId}{sz n:Nat}{f f':Nat→Nat→C}(hid:bC .gone h id=.row ty sz n f)(hf:∀e o,e<n→o<sz→f e o=f' e o):HS G β R w (eT (.row ty sz n f') h id):=by
 have hlid:=fZ hid (by simp)
 have hl:∀i,(bC .gone (eT (.row ty sz n f') h id) i).live=(bC .gone h i).live:=fun i=>by
  by_cases e:id=i
  ·subst e;rw[eA _ _ _ hlid,hid];rfl
  ·rw[cP _ _ _ e]
 refine⟨?_,?_,?_,hh.lt,hh.rlt,?_,hh.gl,?_⟩
 ·intro i y hi;rw[eV,cE];exact hh.dom i y hi
 ·intro i j b o1 o2 hi hj li lj
  rw[hl]at li lj;exact hh.inj i j b o1 o2 hi hj li lj
 ·intro i b o hi li
  rw[hl]at li;exact hh.sep i b o hi li
 ·intro i b o hi
  by_cases e:id=i
  ·subst e
   rw[eA _ _ _ hlid]
   have:=hh.obj id b o hi
   rw[hid]at this;obtain⟨cs,h1,h2,h3,h4⟩:=this;exact⟨cs,h1,h2,h3,fun e k he hk=>by rw[←hf e k he hk];exact h4 e k he hk⟩
  ·rw[cP _ _ _ e];exact hh.obj i b o hi
 ·intro b ad hb
  obtain⟨h1,h2,h3⟩:=hh.ql b ad hb;exact⟨h1,h2,fun i o hi=>by rw[hl];exact h3 i o hi⟩
theorem wW{w:World}{os:Array Obj}{i:Nat}(hi:i<w.heap.size):(grow w os).heap[i]?=w.heap[i]?:=by
 unfold grow;simp[Array.getElem?_append_left hi]
theorem rJ{α:Type}[Inhabited α](enc:α→Value){w:World}{blk off i:Nat}{d:Array α}(hi:i≠blk):(putRow enc w blk off d).heap[i]?=w.heap[i]?:=by
 unfold putRow mapBlock;simp[Array.getElem?_modify,Ne.symm hi]
theorem sC{α:Type}[Inhabited α](enc:α→Value){w:World}{blk off:Nat}{d:Array α}{cs:Array Value}{ty:TypeId}{fr:Nat×Nat}(hb:w.heap[blk]?=some (.cells cs ty fr)):(putRow enc w blk off d).heap[blk]?=some (.cells (putCells enc off d cs) ty fr):=by
 unfold putRow mapBlock;simp[Array.getElem?_modify,hb,onCells]
theorem wR{α:Type}[Inhabited α](enc:α→Value)(off:Nat)(d:Array α)(c:Array Value):(putCells enc off d c).size=c.size:=by simp[putCells]
theorem BO{α:Type}[Inhabited α](enc:α→Value){d:Array α}{c:Array Value}{i:Nat}(hi:i<d.size)(hc:i<c.size):(putCells enc 0 d c)[i]?=some (enc d[i]!):=by
 unfold putCells;simp[Array.getElem?_mapIdx,hc,hi]
theorem ZF{f:FuncId}{id:Nat}{ty:TypeId}{L ys:List Int}{g:Nat→Nat→C}(hid:bC .gone h id=.row ty 1 L.length g)(hg:∀e o,e<L.length→o<1→g e o=aO aT L e o)(hy:ys.length=L.length)
  (hc:∀(w:World) (blk cap:Nat),Holds (cT .i64) w blk 0 L.toArray→blk<w.heap.size→L.length≤cap→Calls P f #[.slice (some ⟨blk,0,none⟩) L.length cap] w fun e w'=>e=.returned (.tuple #[])∧∃n os,w'=grow (putRow (cT .i64) (Go.Sort.ahead w n) blk 0 ys.toArray) os)
  (h0:∀(w:World) (p:Option Addr) (cap:Nat),L.length=0→Calls P f #[.slice p 0 cap] w fun e w'=>e=.returned (.tuple #[])∧w'=w) :
  jW P G f [.c (.sl id 1 0 L.length)] h fun x h'=>x=.t []∧h'=eT (.row ty 1 L.length (aO aT ys)) h id:=by
 intro β R w vs ha hh
 have hlive:(bC .gone h id).live=true:=by rw[hid];rfl
 have hlid:=fZ hid (by simp)
 obtain⟨u1,hvs⟩:∃u1,vs = #[u1]:=by
  have hl:=ha.length
  have:vs.size=1:=by simpa using hl.symm
  exact⟨vs[0],by apply Array.ext (by simpa using this);intro i h1 h2;match i,h1,h2 with|0,_,_=>rfl⟩
 subst hvs;obtain⟨⟨A,c,rfl,h1,h2,h3⟩,_⟩:=ha
 by_cases hz:L.length=0
 ·rw[hz]at h3 ⊢
  refine(h0 w A c hz).mono ?_;rintro e w' ⟨rfl,rfl⟩;refine⟨_,β,R,.t [],_,rfl,⟨rfl,rfl⟩,⟨#[],rfl,trivial⟩,?_,Gr.refl _ _ _,fun _ _=>rfl⟩;rw[hz]at hid;exact vD hh hid (fun e o he ho=>absurd he (iH _))
 rcases h3 with⟨h3,h7,h8⟩|⟨blk,N,h7,h8,h9⟩
 ·exact absurd h7 hz
 ·have hob:=hh.obj id blk N h7
  rw[hid]at hob;obtain⟨cs,g1,g2,g3,g4⟩:=hob
  have hlt:=hh.lt id blk N h7
  have e0:0*1=0:=rfl
  rw[e0]at h8;subst h8
  have hold:Holds (cT .i64) w blk 0 L.toArray:=fun j hj=>by
   have hj':j<L.length:=by simpa using hj
   obtain⟨u,q1,q2⟩:=g4 j 0 hj' (by omega);rw[hg j 0 hj' (by omega)]at q2
   have q2:u=.int .i64 (L.getD j default):=q2
   rw[Nat.mul_one,iD]at q1;refine⟨?_,?_⟩
   ·rw[cK]
    simp only[World.cell?,g1];rw[q1,q2];simp[aD,hj']
   ·simp[World.frozen?,g1]
  refine(hc w blk c hold hlt h1).mono ?_;rintro e w' ⟨rfl,n,os,rfl⟩
  have hW:=JR hh h7 hlive (x:=.row ty 1 L.length (aO aT ys)) (w':=grow (putRow (cT .i64) (Go.Sort.ahead w n) blk 0 ys.toArray) os) rfl rfl rfl (by
   rw[size_grow,size_putRow];exact Nat.le_add_right _ _) (fun j hj hne=>by
   rw[wW (by rw[size_putRow];exact hj),rJ _ hne];rfl) (fun _ _=>by
   have hb:(grow (putRow (cT .i64) (Go.Sort.ahead w n) blk 0 ys.toArray) os).heap[blk]?=some (.cells (putCells (cT .i64) 0 ys.toArray cs) ty (0,0)):=by
    rw[wW (by rw[size_putRow];exact hlt),sC _ (w:=Go.Sort.ahead w n) g1]
   refine⟨_,hb,by rw[wR];exact g2,g3,fun e k he hk=>?_⟩
   obtain rfl:k=0:=by omega
   refine⟨.int .i64 (ys.getD e default),?_,rfl⟩;rw[Nat.mul_one,iD,BO (cT .i64) (by simp;omega) (by omega)]
   simp[aD,show e<ys.length by omega])
  exact⟨_,β,R,.t [],_,rfl,⟨rfl,rfl⟩,⟨#[],rfl,trivial⟩,hW.1,hW.2,fun _ _=>rfl⟩
end
section
variable {P:Program} {G:Nat→Option Obj} {β:Bt} {R:Nat→Prop} {w w':World} {h:List AO} {st:St}
theorem aF0(hh:HS G β R w h){id:Nat}{x y:AO}(hid:bC .gone h id=x)(hx:x.live=true)(hy:y.live=true)(ho:∀b o,OR β R w x b o→OR β R w y b o):HS G β R w (eT y h id):=by
 have hlid:=fZ hid (by cases x<;>first|exact fun h=>AO.noConfusion h|cases hx)
 have hl:∀i,(bC .gone (eT y h id) i).live=(bC .gone h i).live:=fun i=>by
  by_cases e:id=i
  ·subst e;rw[eA _ _ _ hlid,hid,hx,hy]
  ·rw[cP _ _ _ e]
 refine⟨?_,?_,?_,hh.lt,hh.rlt,?_,hh.gl,?_⟩
 ·intro i y hi;rw[eV,cE];exact hh.dom i y hi
 ·intro i j b o1 o2 hi hj li lj
  rw[hl]at li lj;exact hh.inj i j b o1 o2 hi hj li lj
 ·intro i b o hi li
  rw[hl]at li;exact hh.sep i b o hi li
 ·intro i b o hi
  by_cases e:id=i
  ·subst e
   rw[eA _ _ _ hlid]
   have:=hh.obj id b o hi
   rw[hid]at this;exact ho b o this
  ·rw[cP _ _ _ e];exact hh.obj i b o hi
 ·intro b ad hb
  obtain⟨h1,h2,h3⟩:=hh.ql b ad hb;exact⟨h1,h2,fun i o hi=>by rw[hl];exact h3 i o hi⟩
theorem RX{id:Nat}{ty:TypeId}{sz n:Nat}{f:Nat→Nat→C}(k:Nat)(hid:bC .gone st.h id=.row ty sz n f)(hk:k≤n):cW G st ⟨st.t,eT (.row ty sz k f) st.h id⟩:=by
 intro β R a w hs;refine⟨β,R,⟨hs.df,hs.tm,aF0 hs.hs hid rfl rfl fun b o=>?_⟩,Fr.refl _ _ _,fun _ hb=>hb⟩;rintro⟨cs,h1,h2,h3,h4⟩;exact⟨cs,h1,h2,Nat.le_trans (bP _ hk) h3,fun e o he ho=>h4 e o (by omega) ho⟩
theorem VE{f:FuncId}{id:Nat}{ty:TypeId}{L ys:List Int}{g:Nat→Nat→C}(hid:bC .gone h id=.row ty 1 L.length g)(hg:∀e o,e<L.length→o<1→g e o=aO aT L e o)(hy:ys.length≤L.length)
  (hc:∀(w:World) (blk cap:Nat),Holds (cT .i64) w blk 0 L.toArray→blk<w.heap.size→L.length≤cap→Calls P f #[.slice (some ⟨blk,0,none⟩) L.length cap] w fun e w'=>e=.returned (.slice (some ⟨blk,0,none⟩) ys.length cap)∧∃n,w'=putRow (cT .i64) (Go.Sort.ahead w n) blk 0 (ys++iI (L.length-ys.length) 0).toArray)
  (h0:∀(w:World) (p:Option Addr) (cap:Nat),L.length=0→Calls P f #[.slice p 0 cap] w fun e w'=>e=.returned (.slice p 0 cap)∧w'=w) :
  jW P G f [.c (.sl id 1 0 L.length)] h fun x h'=>x=.c (.sl id 1 0 ys.length)∧h'=eT (.row ty 1 ys.length (aO aT ys)) h id:=by
 intro β R w vs ha hh
 have hlive:(bC .gone h id).live=true:=by rw[hid];rfl
 have hlid:=fZ hid (by simp)
 obtain⟨u1,hvs⟩:∃u1,vs = #[u1]:=by
  have hl:=ha.length
  have:vs.size=1:=by simpa using hl.symm
  exact⟨vs[0],by apply Array.ext (by simpa using this);intro i h1 h2;match i,h1,h2 with|0,_,_=>rfl⟩
 subst hvs;obtain⟨⟨A,c,rfl,h1,h2,h3⟩,_⟩:=ha
 by_cases hz:L.length=0
 ·have hy0:ys.length=0:=by omega
  rw[hz]at h3 ⊢;refine(h0 w A c hz).mono ?_;rintro e w' ⟨rfl,rfl⟩;refine⟨_,β,R,_,_,rfl,⟨rfl,rfl⟩,?_,?_,Gr.refl _ _ _,fun _ _=>rfl⟩
  ·rw[hy0]
   exact⟨A,c,rfl,bX _,h2,h3⟩
  rw[hz]at hid;rw[hy0];exact vD hh hid (fun e o he ho=>absurd he (iH _))
 rcases h3 with⟨h3,h7,h8⟩|⟨blk,N,h7,h8,h9⟩
 ·exact absurd h7 hz
 ·have hob:=hh.obj id blk N h7
  rw[hid]at hob;obtain⟨cs,g1,g2,g3,g4⟩:=hob
  have hlt:=hh.lt id blk N h7
  have e0:0*1=0:=rfl
  rw[e0]at h8;subst h8
  have hold:Holds (cT .i64) w blk 0 L.toArray:=fun j hj=>by
   have hj':j<L.length:=by simpa using hj
   obtain⟨u,q1,q2⟩:=g4 j 0 hj' (by omega);rw[hg j 0 hj' (by omega)]at q2
   have q2:u=.int .i64 (L.getD j default):=q2
   rw[Nat.mul_one,iD]at q1;refine⟨?_,?_⟩
   ·rw[cK]
    simp only[World.cell?,g1];rw[q1,q2];simp[aD,hj']
   ·simp[World.frozen?,g1]
  refine(hc w blk c hold hlt h1).mono ?_;rintro e w' ⟨rfl,n,rfl⟩
  have hW:=JR hh h7 hlive (x:=.row ty 1 ys.length (aO aT ys)) (w':=putRow (cT .i64) (Go.Sort.ahead w n) blk 0 (ys++iI (L.length-ys.length) 0).toArray) rfl rfl rfl (by
   rw[size_putRow];exact aW _) (fun j hj hne=>by
   rw[rJ _ hne];rfl) (fun _ _=>by
   have hb:(putRow (cT .i64) (Go.Sort.ahead w n) blk 0 (ys++iI (L.length-ys.length) 0).toArray).heap[blk]?=some (.cells (putCells (cT .i64) 0 (ys++iI (L.length-ys.length) 0).toArray cs) ty (0,0)):=by
    rw[sC _ (w:=Go.Sort.ahead w n) g1]
   refine⟨_,hb,by rw[wR];exact g2,by omega,fun e k he hk=>?_⟩
   obtain rfl:k=0:=by omega
   refine⟨.int .i64 (ys.getD e default),?_,rfl⟩;rw[Nat.mul_one,iD,BO (cT .i64) (by simp;omega) (by omega)]
   have e2:(ys++iI (L.length-ys.length) 0).toArray[e]! = ys.getD e default:=by
    rw[aD,List.getElem!_toArray,List.getElem!_eq_getElem?_getD,cG he]
   rw[e2])
  exact⟨_,β,R,_,_,rfl,⟨rfl,rfl⟩,⟨_,c,rfl,by omega,h2,.inr ⟨blk,N,h7,rfl,h9⟩⟩,hW.1,hW.2,fun _ _=>rfl⟩
end
def vwP(h:List AO)(c:C)(k:PV→Tr):Tr:=vwC h c fun c'=>match c' with
 |.p x=>k x
 |_=>.fail
def NX(a b:PV):Nat→Nat→PV:=fun e _=>match e with
 |0=>a
 |_=>b
def aJY(f0:FuncId)(m:kD)(rest:Ext):Ext:=fun f args h k=>match cA f0 f with
 |true=>match args with
  |[.c (.sl id 1 0 2)]=>match bC .gone h id with
   |.row _ 1 2 g=>vwP h (g 0 0) fun a=>vwP h (g 1 0) fun b=>LH m h k [.c (.p (.l 1 2 (NX a b)))]
   |_=>.fail
  |_=>.fail
 |false=>rest f args h k
section
variable {P:Program} {G:Nat→Option Obj} {β:Bt} {R:Nat→Prop} {w:World} {h:List AO}
theorem HZ(hh:HS G β R w h){c:C}{u:Value}(hc:CR β R w c u){k:PV→Tr}{K:X→St→Prop}(hk:(vwP h c k).holds P G K):∃x,PR (CV w) w x u∧(k x).holds P G K:=by
 obtain⟨c',h1,h2⟩:=zT hh hc hk
 cases c'<;>first|exact h2.elim|exact⟨_,h1,h2⟩
theorem VY{c:C}{k:PV→Tr}{K:X→St→Prop}(hk:(vwP h c k).holds P G K):∃x,(k x).holds P G K∧∀(k':PV→Tr) (K':X→St→Prop),(k' x).holds P G K'→(vwP h c k').holds P G K':=by
 obtain⟨c',h1,h2⟩:=KQ hk
 cases c'<;>first|exact h1.elim|exact⟨_,h1,fun k' K' hq=>h2 _ K' hq⟩
theorem VH{f0:FuncId}{m:kD}{rest:Ext}(hm:gG P G f0 m)(hr:bG P G rest):bG P G (aJY f0 m rest):=by
 refine⟨?_,?_⟩
 ·intro f args h k K hh
  unfold aJY at hh;split at hh
  ·rename_i hb
   obtain rfl:=aS hb
   split at hh;rotate_left;· exact hh.elim
   split at hh;rotate_left;· exact hh.elim
   rename_i id _ ty g hid;intro β R w vs ha hs
   obtain⟨u1,hvs⟩:∃u1,vs = #[u1]:=by
    have hl:=ha.length
    have:vs.size=1:=by simpa using hl.symm
    exact⟨vs[0],by apply Array.ext (by simpa using this);intro i h1 h2;match i,h1,h2 with|0,_,_=>rfl⟩
   subst hvs;obtain⟨⟨A,c,rfl,h1,h2,h3⟩,_⟩:=ha
   rcases h3 with⟨_,h7,_⟩|⟨blk,N,h7,h8,h9⟩
   ·cases h7
   have hob:=hs.obj id blk N h7
   rw[hid]at hob;obtain⟨cs,g1,g2,g3,g4⟩:=hob;obtain⟨u0,q1,q2⟩:=g4 0 0 (by omega) (by omega);obtain⟨u1,q3,q4⟩:=g4 1 0 (by omega) (by omega);obtain⟨a,a1,hh⟩:=HZ hs q2.cr hh;obtain⟨b,b1,hh⟩:=HZ hs q4.cr hh;subst h8
   have hp:PR (CV w) w (.l 1 2 (NX a b)) (.slice (some ⟨blk,0*1,none⟩) 2 c):=by
    refine⟨_,c,rfl,h1,h2,fun _=>?_⟩;refine⟨_,rfl,hs.lt id blk N h7,fun e o he ho=>?_⟩
    obtain rfl:o=0:=by omega
    have he:e=0∨e=1:=by omega
    rcases he with rfl|rfl
    ·refine⟨u0,?_,a1⟩
     simpa[World.cell?,Addr.add,g1] using q1
    ·refine⟨u1,?_,b1⟩
     simpa[World.cell?,Addr.add,g1] using q3
   exact WY hm hs (args':=[.c (.p (.l 1 2 (NX a b)))]) (vs := #[.slice (some ⟨blk,0*1,none⟩) 2 c]) ⟨hp,trivial⟩ hh
  ·exact hr.fn _ _ _ _ _ hh
 ·intro f args h k K hh
  unfold aJY at hh ⊢;split at hh
  ·split at hh;rotate_left;· exact hh.elim
   split at hh;rotate_left;· exact hh.elim
   obtain⟨a,a1,a2⟩:=VY hh;obtain⟨b,b1,b2⟩:=VY a1;obtain⟨v,h',h3,h4⟩:=OM b1;refine⟨v,h',h3,fun k' K' hk=>?_⟩;exact a2 (fun a=>vwP h _ fun b=>LH m h k' [.c (.p (.l 1 2 (NX a b)))]) K' (b2 (fun b=>LH m h k' [.c (.p (.l 1 2 (NX a b)))]) K' (h4 k' K' hk))
  ·exact hr.val _ _ _ _ _ hh
end
section
variable {P:Program} {G:Nat→Option Obj}
def XV(m:kD):List Nat→kD
 |[],args,h=>m args h
 |id::r,args,h=>match bC .gone h id with
  |.row _ sz n f=>match XV m r (args.map (fzV id f)) (eT .gone h id) with
   |some (p,v,h')=>some ((GJ id sz n args∧∀e o,e<n→o<sz→BZ (f e o)=true)∧p,v,h')
   |none=>none
  |_=>none
def aKR(m:kD):kD:=fun args h=>XV m (aCE args).eraseDups args h
theorem PE{fn:FuncId}{m:kD}(hm:gG P G fn m):∀ids,gG P G fn (XV m ids)
 |[]=>hm
 |id::r=>by
  intro args h p v h' he hp;unfold XV at he;split at he
  ·rename_i ty sz n f hid
   split at he
   ·rename_i p' v' h2 hq
    injection he with he;injection he with e1 he;injection he with e2 e3;subst e1;subst e2;subst e3;obtain⟨⟨hc,hf⟩,hp⟩:=hp;intro β R w vs ha hh
    obtain⟨β',R',k1,k2,k3,k4⟩:=zE hh hid hf
    have ih:=PE hm r _ _ _ _ _ hq hp β' R' w vs (ML k2.keeps k4 hc ha) k1
    refine ih.mono ?_;rintro e w' ⟨u,β2,R2,x,h3,q1,q2,q3,q4,q5,q6⟩;refine⟨u,β2,R2,x,h3,q1,q2,q3,q4,k2.trans q5,fun i hi=>?_⟩;rw[q6 i (by rw[eV,cE];exact hi),k3 i]
   ·cases he
  ·cases he
theorem aF8{fn:FuncId}{m:kD}(hm:gG P G fn m):gG P G fn (aKR m):=fun args h=>PE hm _ args h
end
end Go.AE
