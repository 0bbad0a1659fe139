import Derived.Test.YtfjihbmehhccoaaBB
import Derived.Deep.LoopGhost
import Derived.KernelRfl
set_option linter.unusedVariables false
set_option linter.unusedSimpArgs false
namespace Go.AE
open _root_.Array renaming getElem?_toList→cR,replicate→iJ
open _root_.Bool renaming and_eq_true→aQ
open _root_.List renaming getElem?_append_left→cG,getElem?_eq_none→cB,getElem?_eq_some_iff→aX,length_append→aL,mem_cons_of_mem→cN,mem_cons_self→cZ,mem_of_getElem?→cM,replicate→iI
open _root_.Nat renaming beq→cA,eq_of_beq_eq_true→aS,le_refl→aW,lt_of_lt_of_le→cJ
open _root_.Option renaming bind_eq_bind→aV,bind_eq_some_iff→aM,isSome_iff_exists→eK,map_eq_some_iff→bD,pure_def→bE,some.injEq→aJ
open Go.RowKit
inductive AR where
 |tmp (t:Nat)
 |cell (t:Nat) (n:Option Nat)
 |new (t:Nat)
def zM(P:Program):List ResultVar→Option (List AR)
 |[]=>some []
 |.tmp t::r=>(zM P r).map (.tmp t :: ·)
 |.cell t ty::r=>do pure (.cell t (←rR P ty)::(←zM P r))
def UU(h:List AO)(c:C)(k:PV→Tr):Tr:=match c with
 |.p x=>k x
 |.sl id sz off len=>match bC .gone h id with
  |.row _ sz' n f=>nH (cA sz sz') (.rq (off+len≤n∧∀e o,e<len→o<sz→BZ (f (e+off) o)=true) (k (.l sz len fun e o=>mZ (f (e+off) o))))
  |_=>.fail
 |_=>.fail
def aAS(h:List AO):List C→(List PV→Tr)→Tr
 |[],k=>k []
 |c::r,k=>UU h c fun x=>aAS h r fun xs=>k (x::xs)
def aAR(h:List AO):V1→(V1→Tr)→Tr
 |.c x,k=>UU h x fun p=>k (.c (.p p))
 |.a cs,k=>aAS h cs fun ps=>k (.a (qK ps))
def aGO:V→Option V1
 |.c x=>some (.c x)
 |.a cs=>some (.a cs)
 |.t _=>none
def ZN(st:St):AR→(V1→Tr)→Tr
 |.tmp t,k=>match aGO (bC (.c .top) st.t t) with
  |some v=>k v
  |none=>.fail
 |.cell t n,k=>match bC (.c .top) st.t t with
  |.c (.ptr id off)=>match bC .gone st.h id with
   |.cells _ vs=>nH (Nat.ble (off+oY n) (fG vs)) (match aGO (ldN (bC .top vs) off n) with
    |some v=>k v
    |none=>.fail)
   |_=>.fail
  |_=>.fail
 |.new t,k=>match bC (.c .top) st.t t with
  |.c (.sl id sz off len)=>k (.c (.sl id sz off len))
  |.c (.p (.z (.slice none 0 0)))=>k (.c (.p (.z (.slice none 0 0))))
  |_=>.fail
def EE(st:St):List AR→(List V1→Tr)→Tr
 |[],k=>k []
 |r::rs,k=>ZN st r fun v=>aAR st.h v fun v'=>EE st rs fun vs=>k (v'::vs)
def GZ:List V1→V
 |[v]=>v.up
 |vs=>.t vs
def UX(rs:List AR)(e:X)(st:St):Tr:=match e with
 |.exit _=>.fail
 |_=>EE st rs fun vs=>.done .ret ⟨[GZ vs],[]⟩
section
variable {P:Program} {G:Nat→Option Obj} {β β':Bt} {R R':Nat→Prop} {w w':World} {st:St} {a:Act}
theorem PR.frz{x:PV}{u:Value}(h:PR R w x u):PR (frz β R) w x u:=PR.keep (fun _ hb=>.inl hb) (fun _ _=>rfl) x h
theorem FV(hh:HS G β R w st.h){c:C}{u:Value}(hc:CR β R w c u){k:PV→Tr}{K:X→St→Prop}(h:(UU st.h c k).holds P G K):∃p,PR (frz β R) w p u∧(k p).holds P G K:=by
 cases c with
 |p x=>exact⟨x,PR.frz hc,h⟩
 |sl id sz off len=>
  simp only[UU]at h;split at h
  ·rename_i ty sz' n f hid
   obtain⟨c1,⟨h1,h2⟩,h3⟩:=bZ h;obtain rfl:=aS c1;refine⟨_,?_,h3⟩;obtain⟨A,c,rfl,g1,g2,g3⟩:=hc;refine⟨A,c,rfl,g1,g2,fun hn=>?_⟩
   rcases g3 with⟨_,g4,_⟩|⟨b,o0,g4,rfl,g7⟩
   ·omega
   ·have hob:=hh.obj id b o0 g4
    rw[hid]at hob;obtain⟨cs,g8,g80,g9,g10⟩:=hob;refine⟨_,rfl,.inr (.inl ⟨id,o0,g4⟩),fun e q he hq=>?_⟩;obtain⟨u,h5,h6⟩:=g10 (e+off) q (by omega) hq;refine⟨u,?_,?_⟩
    ·rw[add_mid,cell_of_row w b _ cs ty (0,0) g8,←h5]
     congr 1;rw[Nat.add_mul];omega
    ·have:=h2 e q he hq
     cases hf:f (e+off) q with
     |p x=>
      rw[hf]at h6
      show PR (frz β R) w (mZ (f (e+off) q)) u
      rw[hf];exact PR.frz h6
     |own ty2 sz2 n2 f2=>
      rw[hf]at h6
      show PR (frz β R) w (mZ (f (e+off) q)) u
      rw[hf];obtain⟨A,c,k1,k2,k3,k4⟩:=h6;refine⟨A,c,k1,k2,k3,fun hn=>?_⟩
      rcases k4 with⟨_,k5,_⟩|⟨b2,cs2,k5,k6,k7,k8,k9⟩
      ·omega
      ·refine⟨_,k5,.inr (.inr ⟨_,k6⟩),fun e2 o2 he2 ho2=>?_⟩
       obtain⟨u2,r1,r2⟩:=k9 e2 o2 he2 ho2;exact⟨u2,by rw[add_mid,cell_of_row w b2 _ cs2 ty2 (0,0) k7,Nat.zero_add];exact r1,PR.frz r2⟩
     |_=>rw[hf]at this;cases this
  ·exact h.elim
 |_=>exact h.elim
theorem FU(hh:HS G β R w st.h):∀ {cs:List C} {us:List Value} (_:dJ (CR β R w) cs us) {k:List PV→Tr} {K:X→St→Prop} (_:(aAS st.h cs k).holds P G K),∃ps,dJ (PR (frz β R) w) ps us∧(k ps).holds P G K
 |[],[],_,k,K,h=>⟨[],trivial,h⟩
 |[],_::_,hc,_,_,_=>hc.elim
 |_::_,[],hc,_,_,_=>hc.elim
 |c::cs,u::us,hc,k,K,h=>by
  simp only[aAS]at h;obtain⟨p,h1,h2⟩:=FV hh hc.1 h;obtain⟨ps,h3,h4⟩:=FU hh hc.2 h2;exact⟨p::ps,⟨h1,h3⟩,h4⟩
theorem ON:∀ {ps:List PV} {us:List Value},dJ (PR R w) ps us→dJ (CR β R w) (qK ps) us
 |[],[],_=>trivial
 |[],_::_,h=>h.elim
 |_::_,[],h=>h.elim
 |_::_,_::_,h=>⟨h.1,ON h.2⟩
theorem JE:∀ps:List PV,EL (qK ps)=true
 |[]=>rfl
 |_::r=>by simp[qK,EL,isP,JE r]
theorem FT(hh:HS G β R w st.h){v:V1}{u:Value}(hc:BF β R w v u){k:V1→Tr}{K:X→St→Prop}(h:(aAR st.h v k).holds P G K):∃v',BF β' (frz β R) w v' u∧ST v'=true∧(k v').holds P G K:=by
 cases v with
 |c x=>
  obtain⟨p,h1,h2⟩:=FV hh hc h;exact⟨.c (.p p),h1,rfl,h2⟩
 |a cs=>
  obtain⟨us,rfl,h0⟩:=hc;obtain⟨ps,h1,h2⟩:=FU hh h0 h;exact⟨.a (qK ps),⟨us,rfl,ON h1⟩,JE ps,h2⟩
def KW(tmps:Array Value):ResultVar→Sem Value
 |.tmp t=>pure (tmps.getD t undef)
 |.cell a t=>do loadVar t (←asAddr (tmps.getD a undef))
theorem DR{v:V}{v1:V1}{u:Value}(h:VR β R w v u)(hv:aGO v=some v1):BF β R w v1 u:=by
 cases v<;>simp only[aGO,aJ]at hv
 ·subst hv;exact h
 ·subst hv;exact h
 ·cases hv
theorem xD(hs:iB G β R st a w):∀(frs:List ResultVar) (rs:List AR) (_:zM P frs=some rs) {k:List V1→Tr} {K:X→St→Prop} (_:(EE st rs k).holds P G K),
  ∃us vs,(frs.mapM (KW a.tmps)).run P w=.ok us w∧dJ (BF β' (frz β R) w) vs us∧sT vs=true∧(k vs).holds P G K
 |[],rs,hr,k,K,h=>by
  simp only[zM,aJ]at hr;subst hr;exact⟨[],[],by simp,trivial,rfl,h⟩
 |.tmp t::frs,rs,hr,k,K,h=>by
  simp only[zM,bD]at hr;obtain⟨rs',hr,rfl⟩:=hr;simp only[EE,ZN]at h;split at h
  ·rename_i v hv
   have hval:=DR (bW (x:=.tmp t) hs rfl) hv
   obtain⟨v',h1,h2,h3⟩:=FT (β':=β') hs.hs hval h;obtain⟨us,vs,h4,h5,h6,h7⟩:=xD hs frs rs' hr h3;refine⟨_::us,v'::vs,?_,⟨h1,h5⟩,by simp[sT,h2,h6],h7⟩;simp[List.mapM_cons,KW,h4,Act.eval]
  ·exact h.elim
 |.cell t ty::frs,rs,hr,k,K,h=>by
  simp only[zM,aV,aM,bE,aJ]at hr;obtain⟨n,hn,rs',hr,rfl⟩:=hr;simp only[EE,ZN]at h;split at h
  ·rename_i id off hp
   split at h
   ·rename_i ty' vs hid
    obtain⟨c1,c2⟩:=bZ h;split at c2
    ·rename_i v hv
     have hptr:=bW (x:=.tmp t) hs rfl
     have e:st.ev (.t t)=.c (.ptr id off):=hp
     rw[e]at hptr;obtain⟨b,o0,g1,g2⟩:=hptr
     have hob:=hs.hs.obj id b o0 g1
     rw[hid]at hob;obtain⟨cs,g3,g4⟩:=hob
     have hlen:off+oY n≤vs.length:=by rw[eL]at c1;simpa using c1
     have hsz:vs.length=cs.size:=by simpa using g4.length
     have hl:(cs.extract off (off+oY n)).toList.length=oY n:=by simp;omega
     have g2:a.tmps.getD t undef=.pointer (some ⟨b,off,none⟩):=g2
     have hrun:=sQ (P:=P) (w:=w) hn hl (World.rangeAt_of_block g3 off (oY n))
     have hrun:(loadVar ty ⟨b,off,none⟩).run P w=.ok (ldV (cs.extract off (off+oY n)).toList n) w:=by
      simpa[Instr.loadAt,Instr.sureAddr] using hrun
     have hval:VR β R w (ldN (bC .top vs) off n) (ldV (cs.extract off (off+oY n)).toList n):=oP hl (fun j u hu=>by
      have hj:j<oY n:=by have:=(aX.1 hu).1;omega
      refine g4.nth_get ?_
      rw[←hu,cR,cR,Array.getElem?_extract,if_pos (by omega)])
     obtain⟨v',h1,h2,h3⟩:=FT (β':=β') hs.hs (DR hval hv) c2;obtain⟨us,vs',h4,h5,h6,h7⟩:=xD hs frs rs' hr h3;refine⟨_::us,v'::vs',?_,⟨h1,h5⟩,by simp[sT,h2,h6],h7⟩
     have hra:(KW a.tmps (.cell t ty)).run P w=.ok (ldV (cs.extract off (off+oY n)).toList n) w:=by
      show (do loadVar ty (←asAddr (a.tmps.getD t undef))).run P w=_
      rw[g2];simp only[asAddr,pure_bind];exact hrun
     rw[List.mapM_cons,Sem.run_bind,hra,Result.andThen_ok,Sem.run_bind,h4];rfl
    ·exact c2.elim
   ·exact h.elim
  ·exact h.elim
def aI4:List Value→Value
 |[u]=>u
 |us=>.tuple us.toArray
theorem sR(fn:Func)(tmps:Array Value){us:List Value}(h:(fn.results.toList.mapM (KW tmps)).run P w=.ok us w):(results fn tmps).run P w=.ok (aI4 us) w:=by
 have e:results fn tmps=(do let vs ←fn.results.mapM (KW tmps);pure (if h:vs.size=1 then vs[0] else .tuple vs)):=by
  unfold results;congr 1
 rw[e,Array.mapM_eq_mapM_toList];simp only[Sem.run_bind,Sem.run_map,h,Result.andThen_ok]
 match us with
 |[]=>rfl
 |[u]=>rfl
 |u::v::r=>simp[aI4]
theorem SY:∀ {vs:List V1} {us:List Value} (_:dJ (BF β R w) vs us),VR β R w (GZ vs) (aI4 us)
 |[],[],_=>⟨#[],rfl,trivial⟩
 |[_],[_],h=>BF.up h.1
 |_::_::_,_::_::_,h=>⟨_,rfl,h⟩
 |[],_::_,h=>h.elim
 |_::_,[],h=>h.elim
 |[_],_::_::_,h=>h.2.elim
 |_::_::_,[_],h=>h.2.elim
theorem JA:∀ {vs:List V1},sT vs=true→vA (GZ vs)=true
 |[],_=>rfl
 |[v],h=>by
  simp only[sT,Bool.and_true]at h;cases v<;>exact h
 |_::_::_,h=>h
theorem xB(n:Nat):dJ (VR β R w) (iI n (.t [])) (iI n undef):=by
 induction n with
 |zero=>exact trivial
 |succ n ih=>rw[List.replicate_succ,List.replicate_succ];exact⟨qV,ih⟩
end
def jM(id:Nat):List Nat→Nat→Option Nat
 |[],_=>none
 |j::r,n=>match cA j id with
  |true=>some n
  |false=>jM id r (n+1)
def ZJ(ρ:List Nat):B→Option B
 |.p x=>some (.p x)
 |.ptr id off=>(jM id ρ 0).map fun j=>.ptr j off
def BL(ρ:List Nat):List B→Option (List B)
 |[]=>some []
 |b::r=>match ZJ ρ b,BL ρ r with
  |some b',some r'=>some (b'::r')
  |_,_=>none
def bQ(ρ:List Nat):C→C
 |.p x=>.p x
 |.ptr id off=>match jM id ρ 0 with
  |some j=>.ptr j off
  |none=>.top
 |.rp id sz e o=>match jM id ρ 0 with
  |some j=>.rp j sz e o
  |none=>.top
 |.lp sz n f e o=>.lp sz n f e o
 |.sl id sz off len=>match jM id ρ 0 with
  |some j=>.sl j sz off len
  |none=>.top
 |.mp id=>match jM id ρ 0 with
  |some j=>.mp j
  |none=>.top
 |.fn f fs cs=>match BL ρ fs,BL ρ cs with
  |some fs',some cs'=>.fn f fs' cs'
  |_,_=>.top
 |.own ty sz n f=>.own ty sz n f
 |.top=>.top
def wQ(ρ:List Nat):List C→List C
 |[]=>[]
 |c::r=>bQ ρ c::wQ ρ r
def aQC(ρ:List Nat):V→V
 |.c x=>.c (bQ ρ x)
 |.a cs=>.a (wQ ρ cs)
 |.t _=>.c .top
def aMR(ρ:List Nat):Option (Value×C)→Option (Value×C)
 |some (k,c)=>some (k,bQ ρ c)
 |none=>none
def SH(ρ:List Nat):AO→AO
 |.cells ty vs=>.cells ty (wQ ρ vs)
 |.row ty sz n f=>.row ty sz n fun e o=>bQ ρ (f e o)
 |.foc ty sz n e0 vs f=>.foc ty sz n e0 (wQ ρ vs) fun e o=>bQ ρ (f e o)
 |.mapb ok g=>.mapb ok g
 |.mapl ok ty sz g fo=>.mapl ok ty sz g (aMR ρ fo)
 |.pin j b0=>match jM j ρ 0 with
  |some j'=>.pin j' b0
  |none=>.gone
 |.gone=>.gone
def yL(ρ:List Nat):List Bool→List V→List V
 |_,[]=>[]
 |[],_::r=>.c .top::yL ρ [] r
 |true::k,v::r=>aQC ρ v::yL ρ k r
 |false::k,_::r=>.c .top::yL ρ k r
def mO(ρ:List Nat)(h:List AO):List Nat→List AO
 |[]=>[]
 |id::r=>SH ρ (bC .gone h id)::mO ρ h r
def aMU(ρ:List Nat)(keep:List Bool)(st:St):St:=⟨yL ρ keep st.t,mO ρ st.h ρ⟩
def pF(id:Nat):List Nat→Bool
 |[]=>false
 |j::r=>cA j id||pF id r
def qI:List Nat→Bool
 |[]=>true
 |j::r => !pF j r&&qI r
section
variable {P:Program} {G:Nat→Option Obj} {β β':Bt} {R R':Nat→Prop} {w w':World} {st:St} {a:Act}
def cW(G:Nat→Option Obj)(st st2:St):Prop:=∀β R a w,iB G β R st a w→∃β2 R2,iB G β2 R2 st2 a w∧Fr β R w β2 R2 w∧∀b,R b→R2 b
theorem cW.trans{s1 s2 s3:St}(h:cW G s1 s2)(k:cW G s2 s3):cW G s1 s3:=by
 intro β R a w hs;obtain⟨β2,R2,h1,h2,h3⟩:=h β R a w hs;obtain⟨β3,R3,h4,h5,h6⟩:=k β2 R2 a w h1;exact⟨β3,R3,h4,h2.trans h5 h3,fun b hb=>h6 b (h3 b hb)⟩
def bρ(ρ:List Nat)(β:Bt):Bt:=⟨fun j=>(ρ[j]?).bind β.f,β.q⟩
theorem tP{id:Nat}:∀ {ρ:List Nat} {n j:Nat},jM id ρ n=some j→n≤j∧ρ[j-n]?=some id
 |[],_,_,h=>by cases h
 |k::r,n,j,h=>by
  simp only[jM]at h;cases hb:cA k id with
  |true=>
   rw[hb]at h;injection h with h;subst h;exact⟨aW _,by simp[aS hb]⟩
  |false=>
   rw[hb]at h;obtain⟨h1,h2⟩:=tP h;refine⟨by omega,?_⟩;rw[show j-n=(j-(n+1))+1 by omega];simpa using h2
theorem KD{ρ:List Nat}{id j:Nat}(h:jM id ρ 0=some j):bρ ρ β j=β id:=by
 have:=(tP h).2
 simp only[Nat.sub_zero]at this;simp[bρ,this]
theorem SI{ρ:List Nat}{x y:B}{u:Value}(hy:ZJ ρ x=some y)(h:BR β R w x u):BR (bρ ρ β) R w y u:=by
 cases x with
 |p x=>simp only[ZJ,aJ]at hy;subst hy;exact h
 |ptr id off=>
  simp only[ZJ,bD]at hy;obtain⟨j,hj,rfl⟩:=hy;obtain⟨b,o,h1,h2⟩:=h;exact⟨b,o,(KD hj).trans h1,h2⟩
theorem uW{ρ:List Nat}:∀ {xs ys:List B} {us:List Value} (_:BL ρ xs=some ys) (_:dJ (BR β R w) xs us),dJ (BR (bρ ρ β) R w) ys us
 |[],ys,us,hy,h=>by
  simp only[BL,aJ]at hy;subst hy;cases us<;>exact h
 |x::xs,ys,us,hy,h=>by
  simp only[BL]at hy;cases h1:ZJ ρ x with
  |none=>simp[h1]at hy
  |some y=>
   cases h2:BL ρ xs with
   |none=>simp[h1,h2]at hy
   |some ys'=>
    simp only[h1,h2,aJ]at hy;subst hy;cases us with
    |nil=>exact h.elim
    |cons u us=>exact⟨SI h1 h.1,uW h2 h.2⟩
theorem nL{ρ:List Nat}{x:C}{u:Value}(h:CR β R w x u):CR (bρ ρ β) R w (bQ ρ x) u:=by
 cases x with
 |p x=>exact h
 |ptr id off=>
  simp only[bQ];split
  ·rename_i j hj;obtain⟨b,o,h1,h2⟩:=h;exact⟨b,o,(KD hj).trans h1,h2⟩
  ·exact trivial
 |rp id sz e o=>
  simp only[bQ];split
  ·rename_i j hj;obtain⟨b,o,h1,h2⟩:=h;exact⟨b,o,(KD hj).trans h1,h2⟩
  ·exact trivial
 |lp sz n f e o=>exact h
 |sl id sz off len=>
  simp only[bQ];split
  ·rename_i j hj
   obtain⟨A,c,h1,h2,h3,h4⟩:=h;refine⟨A,c,h1,h2,h3,?_⟩
   rcases h4 with h4|⟨b,N,h5,h6,h7⟩
   ·exact .inl h4
   ·exact .inr ⟨b,N,(KD hj).trans h5,h6,h7⟩
  ·exact trivial
 |mp id=>
  simp only[bQ];split
  ·rename_i j hj;obtain⟨b,N,h1,h2⟩:=h;exact⟨b,N,(KD hj).trans h1,h2⟩
  ·exact trivial
 |fn f fs cs=>
  simp only[bQ];obtain⟨us,vs,h1,h2,h3⟩:=h;split
  ·rename_i fs' cs' hf hc;exact⟨us,vs,h1,uW hf h2,uW hc h3⟩
  ·exact trivial
 |own=>exact trivial
 |top=>exact trivial
theorem rB{ρ:List Nat}{ad:Nat×Nat}{x:C}{u:Value}(h:oU β R w ad x u):oU (bρ ρ β) R w ad (bQ ρ x) u:=by
 cases hx:x.isOwn with
 |true=>cases x<;>first|exact h|cases hx
 |false=>
  refine oU.of ?_ (nL h.cr)
  cases x<;>first|rfl|(simp only[bQ];split<;>rfl)|cases hx
theorem IK{ρ:List Nat}:∀(vs:List C) (k:Nat),bC .top (wQ ρ vs) k=bQ ρ (bC .top vs k)
 |[],_=>rfl
 |_::_,0=>rfl
 |_::r,k+1=>IK r k
theorem yK{ρ:List Nat}:∀vs:List C,(wQ ρ vs).length=vs.length
 |[]=>rfl
 |_::r=>by simp[wQ,yK r]
theorem uV{ρ:List Nat}:∀ {xs:List C} {us:List Value} (_:dJ (CR β R w) xs us),dJ (CR (bρ ρ β) R w) (wQ ρ xs) us
 |[],[],_=>trivial
 |[],_::_,h=>h.elim
 |_::_,[],h=>h.elim
 |_::_,_::_,h=>⟨nL h.1,uV h.2⟩
theorem SG{ρ:List Nat}{x:V}{u:Value}(h:VR β R w x u):VR (bρ ρ β) R w (aQC ρ x) u:=by
 cases x with
 |c x=>exact nL h
 |a cs=>obtain⟨us,h1,h2⟩:=h;exact⟨us,h1,uV h2⟩
 |t vs=>exact trivial
theorem rD{ρ:List Nat}:∀ {keep:List Bool} {xs:List V} {us:List Value} (_:dJ (VR β R w) xs us),dJ (VR (bρ ρ β) R w) (yL ρ keep xs) us
 |_,[],[],_=>by simp only[yL];exact trivial
 |_,[],_::_,h=>h.elim
 |_,_::_,[],h=>h.elim
 |[],_::_,_::_,h=>by simp only[yL];exact⟨trivial,rD h.2⟩
 |true::k,_::_,_::_,h=>by simp only[yL];exact⟨SG h.1,rD h.2⟩
 |false::k,_::_,_::_,h=>by simp only[yL];exact⟨trivial,rD h.2⟩
theorem EH{ρ:List Nat}{x:AO}{b o:Nat}(h:OR β R w x b o):OR (bρ ρ β) R w (SH ρ x) b o:=by
 cases x with
 |cells ty vs=>obtain⟨cs,h2,h3⟩:=h;exact⟨cs,h2,uV h3⟩
 |row ty sz n f=>
  obtain⟨cs,h1,h0,h2,h3⟩:=h;refine⟨cs,h1,h0,h2,fun e k he hk=>?_⟩;obtain⟨u,h4,h5⟩:=h3 e k he hk;exact⟨u,h4,rB h5⟩
 |foc ty sz n e0 vs f=>
  obtain⟨cs,h1,h0,h2,h21,h22,h3⟩:=h;refine⟨cs,h1,h0,h2,h21,by rw[yK];exact h22,fun e k he hk=>?_⟩;obtain⟨u,h4,h5,h6⟩:=h3 e k he hk;exact⟨u,h4,fun h=>by rw[IK];exact nL (h5 h),fun h=>rB (h6 h)⟩
 |mapb ok g=>exact h
 |mapl ok ty sz g fo=>
  obtain⟨es,cl,h2,h3,h4,h5⟩:=h;cases fo with
  |none=>
   refine⟨es,cl,h2,h3,fun i e he=>?_,fun k0 hk0=>?_⟩
   ·obtain⟨q1,q2,q3⟩:=h4 i e he
    exact⟨q1,fun k0 c h1=>(by cases h1),fun _=>rB (q3 (fun _ _ h=>by cases h))⟩
   ·obtain⟨q1,q2⟩:=h5 k0 hk0
    exact⟨fun k1 c h1=>(by cases h1),fun _=>q2 (fun _ _ h=>by cases h)⟩
  |some kc=>
   obtain⟨k9,c9⟩:=kc;refine⟨es,cl,h2,h3,fun i e he=>?_,fun k0 hk0=>?_⟩
   ·obtain⟨q1,q2,q3⟩:=h4 i e he
    refine⟨q1,fun k0 c h1 h2=>?_,fun h1=>rB (q3 fun k0 c h2=>?_)⟩
    ·injection h1 with h1;injection h1 with h1 h3;subst h1;subst h3
     exact nL (q2 _ _ rfl h2)
    ·injection h2 with h2;injection h2 with h2 h3;subst h2;subst h3
     exact h1 _ _ rfl
   ·obtain⟨q1,q2⟩:=h5 k0 hk0
    refine⟨fun k1 c h1 h2=>?_,fun h1=>q2 fun k1 c h2=>?_⟩
    ·injection h1 with h1;injection h1 with h1 h3;subst h1;subst h3
     exact nL (q1 _ _ rfl h2)
    ·injection h2 with h2;injection h2 with h2 h3;subst h2;subst h3
     exact h1 _ _ rfl
 |pin j b0=>
  obtain⟨h1,o1,h2⟩:=h
  show OR _ _ _ (match jM j ρ 0 with
   |some j'=>AO.pin j' b0
   |none=>.gone) _ _
  cases hi:jM j ρ 0 with
  |none=>exact trivial
  |some j'=>exact⟨h1,o1,(KD hi).trans h2⟩
 |gone=>exact trivial
theorem vS{ρ:List Nat}{x:AO}:(SH ρ x).live=x.live:=by
 cases x with
 |pin j b0=>
  show (match jM j ρ 0 with
   |some j'=>AO.pin j' b0
   |none=>.gone).live=false
  cases jM j ρ 0<;>rfl
 |_=>rfl
theorem oL{ρ:List Nat}{h:List AO}:∀ {l:List Nat} {j id:Nat},l[j]?=some id→bC .gone (mO ρ h l) j=SH ρ (bC .gone h id)
 |[],_,_,hj=>by simp at hj
 |k::l,0,id,hj=>by simp at hj;subst hj;rfl
 |k::l,j+1,id,hj=>by simpa[mO,bC] using oL (l:=l) (j:=j) (by simpa using hj)
theorem sU{ρ:List Nat}{h:List AO}:∀l:List Nat,(mO ρ h l).length=l.length
 |[]=>rfl
 |_::l=>by simp[mO,sU l]
theorem rY{id:Nat}:∀ {l:List Nat},pF id l=true↔id∈l
 |[]=>by simp[pF]
 |j::r=>by
  simp only[pF,Bool.or_eq_true,List.mem_cons,rY (l:=r)];constructor
  ·rintro (h|h)
   ·exact .inl (aS h).symm
   ·exact .inr h
  ·rintro (h|h)
   ·exact .inl (by rw[h];exact Nat.beq_refl j)
   ·exact .inr h
theorem AJ:∀ {l:List Nat},qI l=true→∀ {i j x:Nat},l[i]?=some x→l[j]?=some x→i=j
 |[],_,_,_,_,h,_=>by simp at h
 |k::l,hd,i,j,x,hi,hj=>by
  simp only[qI,aQ,Bool.not_eq_true']at hd
  have hk:k ∉ l:=fun h=>by rw[rY.2 h]at hd;cases hd.1
  cases i with
  |zero=>
   cases j with
   |zero=>rfl
   |succ j=>
    simp at hi hj;subst hi;exact absurd (cM hj) hk
  |succ i=>
   cases j with
   |zero=>
    simp at hi hj;subst hj;exact absurd (cM hi) hk
   |succ j=>simp at hi hj;exact congrArg (· + 1) (AJ hd.2 hi hj)
theorem gY(ρ:List Nat)(keep:List Bool)(hn:qI ρ=true)(st:St):cW G st (aMU ρ keep st):=by
 intro β R a w hs
 have key:∀ {j:Nat} {x:Nat×Nat},bρ ρ β j=some x→∃id,ρ[j]?=some id∧β id=some x:=by
  intro j x hj;simp only[bρ,aM]at hj;exact hj
 refine⟨bρ ρ β,R,⟨hs.df,rD hs.tm,⟨?_,?_,?_,?_,hs.hs.rlt,?_,hs.hs.gl,?_⟩⟩,?_,fun _ hb=>hb⟩
 ·intro j x hj
  obtain⟨id,h1,_⟩:=key hj
  show j<(mO ρ st.h ρ).length
  rw[sU];exact(aX.1 h1).1
 ·intro i j b o o' hi hj li lj
  obtain⟨id,h1,h2⟩:=key hi;obtain⟨jd,h3,h4⟩:=key hj
  have li:(bC .gone (mO ρ st.h ρ) i).live=true:=li
  have lj:(bC .gone (mO ρ st.h ρ) j).live=true:=lj
  rw[oL h1,vS]at li;rw[oL h3,vS]at lj
  have:=hs.hs.inj id jd b o o' h2 h4 li lj
  subst this;exact AJ hn h1 h3
 ·intro i b o hi li
  obtain⟨id,h1,h2⟩:=key hi
  have li:(bC .gone (mO ρ st.h ρ) i).live=true:=li
  rw[oL h1,vS]at li;exact hs.hs.sep id b o h2 li
 ·intro i b o hi
  obtain⟨id,h1,h2⟩:=key hi;exact hs.hs.lt id b o h2
 ·intro i b o hi
  obtain⟨id,h1,h2⟩:=key hi
  show OR _ _ _ (bC .gone (mO ρ st.h ρ) i) b o
  rw[oL h1];exact EH (hs.hs.obj id b o h2)
 ·intro b ad hb
  obtain⟨h1,h2,h3⟩:=hs.hs.ql b ad hb;refine⟨h1,h2,fun i o hi=>?_⟩;obtain⟨id,h4,h5⟩:=key hi
  show (bC .gone (mO ρ st.h ρ) i).live=false
  rw[oL h4,vS];exact h3 id o h5
 ·refine⟨rfl,rfl,rfl,aW _,fun _ _=>rfl,fun _ _ _=>rfl,?_,fun _ hb=>.inl hb⟩
  rintro b (⟨i,o,hi⟩|hi)
  ·obtain⟨id,_,h2⟩:=key hi
   exact .inl (.inl ⟨id,o,h2⟩)
  ·exact .inl (.inr hi)
def RV:AO→AO→Prop
 |.row ty sz n f,.row ty' sz' n' f'=>ty=ty'∧sz=sz'∧n=n'∧∀e o,e<n→o<sz→f e o=f' e o
 |.foc ty sz n e0 vs f,.foc ty' sz' n' e0' vs' f'=>ty=ty'∧sz=sz'∧n=n'∧e0=e0'∧vs=vs'∧∀e o,e<n→e≠e0→o<sz→f e o=f' e o
 |x,y=>x=y
def aUO(s s':St):Prop:=s.t=s'.t∧dJ RV s.h s'.h
theorem RV.sound{x y:AO}(h:RV x y){b o:Nat}(hx:OR β R w x b o):OR β R w y b o:=by
 cases x with
 |row ty sz n f=>
  cases y with
  |row ty' sz' n' f'=>
   obtain⟨rfl,rfl,rfl,h4⟩:=h;obtain⟨cs,h1,h0,h2,h3⟩:=hx;refine⟨cs,h1,h0,h2,fun e k he hk=>?_⟩;rw[←h4 e k he hk];exact h3 e k he hk
  |_=>cases h
 |cells ty vs=>cases y<;>first|(have h:AO.cells ty vs=_:=h;rw[←h];exact hx)|cases h
 |foc ty sz n e0 vs f=>
  cases y with
  |foc ty' sz' n' e0' vs' f'=>
   obtain⟨rfl,rfl,rfl,rfl,rfl,h4⟩:=h;obtain⟨cs,h1,h0,h2,h21,h22,h3⟩:=hx;refine⟨cs,h1,h0,h2,h21,h22,fun e k he hk=>?_⟩;obtain⟨u,h5,h6,h7⟩:=h3 e k he hk;exact⟨u,h5,h6,fun hne=>by rw[←h4 e k he hne hk];exact h7 hne⟩
  |_=>cases h
 |mapb ok g=>cases y<;>first|(have h:AO.mapb ok g=_:=h;rw[←h];exact hx)|cases h
 |mapl ok ty sz g fo=>cases y<;>first|(have h:AO.mapl ok ty sz g fo=_:=h;rw[←h];exact hx)|cases h
 |pin j b0=>cases y<;>first|(have h:AO.pin j b0=_:=h;rw[←h];exact hx)|cases h
 |gone=>cases y<;>first|exact hx|cases h
theorem RV.live_{x y:AO}(h:RV x y):x.live=y.live:=by cases x<;>cases y<;>first|rfl|cases h
theorem RV.nth_:∀ {hs hs':List AO} (_:dJ RV hs hs') (i:Nat),RV (bC .gone hs i) (bC .gone hs' i)
 |[],[],_,_=>rfl
 |[],_::_,h,_=>h.elim
 |_::_,[],h,_=>h.elim
 |_::_,_::_,h,0=>h.1
 |_::_,_::_,h,i+1=>RV.nth_ h.2 i
theorem VV{s s':St}(h:aUO s s'):cW G s s':=by
 intro β R a w hs;obtain⟨h1,h2⟩:=h;refine⟨β,R,⟨hs.df,h1▸hs.tm,⟨?_,?_,?_,hs.hs.lt,hs.hs.rlt,?_,hs.hs.gl,fun b ad hb=>⟨(hs.hs.ql b ad hb).1,(hs.hs.ql b ad hb).2.1,fun i o hi=>by rw[←(RV.nth_ h2 i).live_];exact(hs.hs.ql b ad hb).2.2 i o hi⟩⟩⟩,Fr.refl _ _ _,fun _ hb=>hb⟩
 ·intro i x hi;rw[←h2.length];exact hs.hs.dom i x hi
 ·intro i j b o o' hi hj li lj
  rw[←(RV.nth_ h2 i).live_]at li;rw[←(RV.nth_ h2 j).live_]at lj;exact hs.hs.inj i j b o o' hi hj li lj
 ·intro i b o hi li
  rw[←(RV.nth_ h2 i).live_]at li;exact hs.hs.sep i b o hi li
 ·intro i b o hi;exact(RV.nth_ h2 i).sound (hs.hs.obj i b o hi)
end
section
variable {P:Program} {G:Nat→Option Obj}
def kM(P:Program)(G:Nat→Option Obj)(ac:dQ)(st:St)(K:X→St→Prop):Prop:=∀c,fE P c=some ac→Ex P G c st K
theorem QX.mono{K K':X→St→Prop}(hk:∀e st,K e st→K' e st){β:Bt}{R:Nat→Prop}{w:World}{e:Exit}{a2:Act}{w2:World}(h:QX G K β R w e a2 w2):QX G K' β R w e a2 w2:=by
 have key:∀x,Po G K β R w x a2 w2→Po G K' β R w x a2 w2:=fun x ⟨β',R',st',h1,h2⟩=>⟨β',R',st',hk _ _ h1,h2⟩
 cases e with
 |normal=>exact key _ h
 |exit id=>exact key _ h
 |ret=>exact key _ h
 |_=>exact h
theorem kM.mono{ac:dQ}{st:St}{K K':X→St→Prop}(h:kM P G ac st K)(hk:∀e st,K e st→K' e st):kM P G ac st K':=
 fun c hc β R a w hs=>Code.wp_mono (fun _ _ _ q=>QX.mono hk q) (h c hc β R a w hs)
theorem kM.pre{ac:dQ}{st st2:St}{K:X→St→Prop}(hw:cW G st st2)(h:kM P G ac st2 K):kM P G ac st K:=by
 intro c hc β R a w hs;obtain⟨β2,R2,h1,h2,h3⟩:=hw β R a w hs;exact Code.wp_mono (fun _ _ _ q=>QX.trans q h2 h3) (h c hc β2 R2 a w h1)
theorem kM.post{ac:dQ}{st:St}{K:X→St→Prop}(h:kM P G ac st fun e st'=>∃st2,cW G st' st2∧K e st2):kM P G ac st K:=by
 intro c hc β R a w hs;refine Code.wp_mono ?_ (h c hc β R a w hs);intro e a2 w2 hq
 have key:∀x,Po G (fun e st'=>∃st2,cW G st' st2∧K e st2) β R w x a2 w2→Po G K β R w x a2 w2:=by
  rintro x ⟨β',R',st',⟨st2,hw,hk⟩,h2,h3,h4⟩;obtain⟨β2,R2,q1,q2,q3⟩:=hw β' R' a2 w2 h2;exact⟨β2,R2,st2,hk,q1,h3.trans q2 h4,fun b hb=>q3 b (h4 b hb)⟩
 cases e with
 |normal=>exact key _ hq
 |exit id=>exact key _ hq
 |ret=>exact key _ hq
 |_=>exact hq
theorem kM.ev{ext:Ext}(hext:bG P G ext){ac:dQ}{st:St}{k:X→St→Tr}{K:X→St→Prop}(h:(GC ext ac st k).holds P G K):kM P G ac st fun e st'=>(k e st').holds P G K:=
 fun c hc=>aAW hext c ac hc st k K h
def dQ.isReg:dQ→Bool
 |.reg .. | .regd .. | .regm .. | .regx .. | .raw .. => true
 |_=>false
theorem pT{id:Nat}{ops:Array Oper}{draw:Bool}{ac:dQ}(hc:fE P (.region id ops draw)=some ac):ac.isReg=true:=by
 simp only[fE]at hc;split at hc
 case h_2=>injection hc with hc;subst hc;rfl
 rename_i ac' hc1;injection hc with hc;subst hc;cases draw with
 |false=>
  simp only[HQ,bD]at hc1;obtain⟨al,_,rfl⟩:=hc1;rfl
 |true=>
  simp only[HQ]at hc1;split at hc1
  ·simp only[aV,aM,bE,aJ]at hc1
   obtain⟨al,_,hc1⟩:=hc1;split at hc1
   ·injection hc1 with hc1;subst hc1;rfl
   ·split at hc1
    ·injection hc1 with hc1;subst hc1;rfl
    ·cases hc1
  ·cases hc1
theorem kM.core{ac:dQ}{st:St}{K:X→St→Prop}(h:∀c,(∀c',c≠.scope c')→fE P c=some ac→Ex P G c st K):kM P G ac st K:=by
 intro c;induction c with
 |scope c ih=>exact fun hc=>GB (ih (by simpa only[fE] using hc))
 |_=>exact fun hc=>h _ (by intro c' e;cases e) hc
theorem kM.seq{a b:dQ}{st:St}{K1 K:X→St→Prop}(h:kM P G a st K1)(hn:∀st',K1 .normal st'→kM P G b st' K)(hx:∀e st',e≠.normal→K1 e st'→K e st'):kM P G (.seq a b) st K:=by
 refine kM.core fun c hns hc=>?_
 cases c with
 |scope c'=>exact absurd rfl (hns c')
 |seq x y=>
  simp only[fE,aV,aM,bE,aJ]at hc;obtain⟨ax,h1,ay,h2,h3⟩:=hc;injection h3 with e1 e2;subst e1;subst e2;intro β R a w hs
  refine wp_seq (Code.wp_mono ?_ (h x h1 β R a w hs));intro e a' w' hq
  cases e with
  |normal=>
   obtain⟨β',R',st',q1,q2,q3,q4⟩:=hq;exact Code.wp_mono (fun e a2 w2 q=>QX.trans q q3 q4) (hn st' q1 y h2 β' R' a' w' q2)
  |exit id=>obtain⟨β',R',st',q1,q2⟩:=hq;exact⟨β',R',st',hx _ _ (by simp) q1,q2⟩
  |ret=>obtain⟨β',R',st',q1,q2⟩:=hq;exact⟨β',R',st',hx _ _ (by simp) q1,q2⟩
  |_=>exact hq
 |region id ops draw=>cases pT hc
 |cond x c1 c2=>cases h1:cX x<;>cases h2:fE P c1<;>cases h3:fE P c2<;>simp[fE,h1,h2,h3]at hc
 |block id c=>cases h1:fE P c<;>simp[fE,h1]at hc
 |loop c=>cases h1:fE P c<;>simp[fE,h1]at hc
 |_=>simp[fE]at hc
theorem kM.block{id:Nat}{a:dQ}{st:St}{K:X→St→Prop}(h:kM P G a st fun e st'=>match e with
  |.exit j=>if j=id then K .normal st' else K (.exit j) st'
  |e=>K e st'):kM P G (.block id a) st K:=by
 refine kM.core fun c hns hc=>?_
 cases c with
 |scope c'=>exact absurd rfl (hns c')
 |block id' x=>
  simp only[fE,bD]at hc;obtain⟨ax,h1,h2⟩:=hc;injection h2 with e1 e2;subst e1;subst e2;intro β R a w hs
  refine wp_block (Code.wp_mono ?_ (h x h1 β R a w hs));intro e a' w' hq
  cases e with
  |exit j=>
   obtain⟨β',R',st',q1,q2,q3,q4⟩:=hq;dsimp only at q1
   show (if j=id' then QX G K β R w .normal a' w' else QX G K β R w (.exit j) a' w')
   by_cases hj:j=id'
   ·rw[if_pos hj]at q1 ⊢;exact⟨β',R',st',q1,q2,q3,q4⟩
   ·rw[if_neg hj]at q1 ⊢;exact⟨β',R',st',q1,q2,q3,q4⟩
  |_=>exact hq
 |region id ops draw=>cases pT hc
 |cond x c1 c2=>cases h1:cX x<;>cases h2:fE P c1<;>cases h3:fE P c2<;>simp[fE,h1,h2,h3]at hc
 |seq c d=>cases h1:fE P c<;>cases h2:fE P d<;>simp[fE,h1,h2]at hc
 |loop c=>cases h1:fE P c<;>simp[fE,h1]at hc
 |_=>simp[fE]at hc
theorem kM.loop{a:dQ}{K:X→St→Prop}{σ:Type}(C:σ→St)(I:σ→Prop)(μ:σ→Nat)(s0:σ)(hI:I s0)
  (step:∀s,I s→kM P G a (C s) fun e st'=>match e with
   |.normal=>∃s',I s'∧μ s'<μ s∧cW G st' (C s')
   |e=>K e st'):kM P G (.loop a) (C s0) K:=by
 refine kM.core fun c hns hc=>?_
 cases c with
 |scope c'=>exact absurd rfl (hns c')
 |loop x=>
  simp only[fE,bD]at hc;obtain⟨ax,h1,h2⟩:=hc;injection h2 with e1;subst e1;intro β0 R0 a0 w0 hs0
  refine wp_loop_ghost (fun n a w=>∃s β R,μ s=n∧I s∧iB G β R (C s) a w∧Fr β0 R0 w0 β R w∧∀b,R0 b→R b) (μ s0) ⟨s0,β0,R0,rfl,hI,hs0,Fr.refl _ _ _,fun _ hb=>hb⟩ ?_;rintro n a w ⟨s,β,R,rfl,hs,hsim,hfr,hr⟩;refine Code.wp_mono ?_ (step s hs x h1 β R a w hsim);intro e a' w' hq
  cases e with
  |normal=>
   obtain⟨β',R',st',⟨s',q1,q2,q3⟩,q4,q5,q6⟩:=hq;obtain⟨β2,R2,r1,r2,r3⟩:=q3 β' R' a' w' q4;exact⟨μ s',q2,s',β2,R2,rfl,q1,r1,(hfr.trans q5 hr).trans r2 (fun b hb=>q6 b (hr b hb)),fun b hb=>r3 b (q6 b (hr b hb))⟩
  |exit id=>obtain⟨β',R',st',q1,q2,q3,q4⟩:=hq;exact⟨β',R',st',q1,q2,hfr.trans q3 hr,fun b hb=>q4 b (hr b hb)⟩
  |ret=>obtain⟨β',R',st',q1,q2,q3,q4⟩:=hq;exact⟨β',R',st',q1,q2,hfr.trans q3 hr,fun b hb=>q4 b (hr b hb)⟩
  |_=>exact hq.elim
 |region id ops draw=>cases pT hc
 |cond x c1 c2=>cases h1:cX x<;>cases h2:fE P c1<;>cases h3:fE P c2<;>simp[fE,h1,h2,h3]at hc
 |seq c d=>cases h1:fE P c<;>cases h2:fE P d<;>simp[fE,h1,h2]at hc
 |block id c=>cases h1:fE P c<;>simp[fE,h1]at hc
 |_=>simp[fE]at hc
def Fin(P:Program)(G:Nat→Option Obj)(rs:List AR)(K:V→Prop)(e:X)(st:St):Prop:=(UX rs e st).holds P G fun _ st'=>∃v,st'.t=[v]∧(vA v=true→K v)
theorem aF9{f:FuncId}{fn:Func}{ac:dQ}{rs:List AR}{n:Nat}(hf:P.funcs[f]?=some fn)(hc:fn.body.bind (fE P)=some ac)(hr:zM P fn.results.toList=some rs)(hn:fn.ntmps=n)
  {args:List V} (hp:∀v∈args,vA v=true) {K:V→Prop} (h:kM P G ac ⟨args++iI (n-args.length) (.t []),[]⟩ (Fin P G rs K)) (hc':List AO) :
  jW P G f args hc' fun v h'=>K v∧vA v=true∧h'=hc':=by
 subst hn;simp only[aM]at hc;obtain⟨c,hb,hc⟩:=hc;intro β R w vs ha hh
 refine calls_of_wp hf hb (Code.wp_mono ?_ (h c hc Bt.nil R { tmps:=vs++iJ (fn.ntmps-vs.size) undef,defers:=[] } w ?_))
 ·intro e a' w' hq
  have key:∀x:X,(∀id,x≠.exit id)→Po G (Fin P G rs K) Bt.nil R w x a' w' →
    a'.defers=[]∧∃v,(results fn a'.tmps).run P w'=.ok v w'∧∃u β' R' x h',Ending.returned v=.returned u∧(K x∧vA x=true∧h'=hc')∧VR β' R' w' x u∧HS G β' R' w' h'∧Gr β R w β' R' w'∧∀i,i<hc'.length→β' i=β i:=by
   rintro x hx ⟨β',R',st',q1,q2,q3,q4⟩
   have q1:(EE st' rs fun vs=>.done .ret ⟨[GZ vs],[]⟩).holds P G fun _ st'=>∃v,st'.t=[v]∧(vA v=true→K v):=by
    cases x with
    |exit id=>exact absurd rfl (hx id)
    |normal=>exact q1
    |ret=>exact q1
   obtain⟨us,vs',h1,h2,h3,v,h4,h5⟩:=xD (β':=β) q2 fn.results.toList rs hr q1;simp only[List.cons.injEq,and_true]at h4;subst h4;obtain⟨c1,c2⟩:=AW hh q3 q4 q2.hs;exact⟨q2.df,_,sR fn a'.tmps h1,_,β,frz β' R',GZ vs',hc',rfl,⟨h5 (JA h3),JA h3,rfl⟩,SY h2,c1,c2,fun _ _=>rfl⟩
  cases e with
  |normal=>exact key .normal (by intro id h;cases h) hq
  |ret=>exact key .ret (by intro id h;cases h) hq
  |exit id=>
   obtain⟨β',R',st',q1,_⟩:=hq;exact q1.elim
  |_=>exact hq.elim
 ·refine⟨rfl,?_,?_⟩
  ·have hl:args.length=vs.size:=by simpa using ha.length
   rw[Array.toList_append,Array.toList_replicate,hl];exact(dJ.pureV_ hp ha).append (xB _)
  ·exact⟨(fun i x hi=>by cases hi),(fun i j b o o' hi=>by cases hi),(fun i b o hi=>by cases hi),(fun i b o hi=>by cases hi),hh.rlt,(fun i b o hi=>by cases hi),hh.gl,fun b ad hb=>by cases hb⟩
end
abbrev Mod:=List V→Option (Prop×V)
def kH:List (FuncId×Mod)→Ext
 |[],_,_,_,_=>.fail
 |(g,m)::r,f,args,h,k=>match cA g f with
  |true=>match m args with
   |some (p,v)=>.rq p (k v h)
   |none=>.fail
  |false=>kH r f args h k
section
variable {P:Program} {G:Nat→Option Obj}
theorem jW.mono{f:FuncId}{args:List V}{h:List AO}{K K':V→List AO→Prop}(hh:jW P G f args h K)(hk:∀v h',K v h'→K' v h'):jW P G f args h K':=
 fun β R w vs ha hs=>(hh β R w vs ha hs).mono fun _ _ ⟨u,β',R',x,h',q1,q2,q3⟩=>⟨u,β',R',x,h',q1,hk _ _ q2,q3⟩
def iW(P:Program)(G:Nat→Option Obj)(f:FuncId)(m:Mod):Prop:=∀args p v,m args=some (p,v)→p→∀h,jW P G f args h fun x h'=>x=v∧h'=h
theorem eC:∀ {l:List (FuncId×Mod)},(∀e∈l,iW P G e.1 e.2)→bG P G (kH l)
 |[],_=>⟨fun _ _ _ _ _ h=>h.elim,fun _ _ _ _ _ h=>h.elim⟩
 |(g,m)::r,hl=>by
  have ih:=eC (l:=r) fun e he=>hl e (cN _ he)
  have h0:iW P G g m:=hl (g,m) (cZ ..)
  refine⟨?_,?_⟩
  ·intro f args h k K hh
   simp only[kH]at hh;split at hh
   ·rename_i hb
    obtain rfl:=aS hb;split at hh
    ·rename_i p v hm
     exact(h0 args p v hm hh.1 h).mono fun x h' ⟨e1,e2⟩=>by rw[e1,e2];exact hh.2
    ·exact hh.elim
   ·exact ih.fn _ _ _ _ _ hh
  ·intro f args h k K hh
   simp only[kH]at hh ⊢;split at hh
   ·rename_i hb
    split at hh
    ·rename_i p v hm
     exact⟨v,h,hh.2,fun k' K' hk=>⟨hh.1,hk⟩⟩
    ·exact hh.elim
   ·exact ih.val _ _ _ _ _ hh
end
def iV(n:Int):V:=.c (.p (.i .i64 n))
def bV(b:Bool):V:=.c (.p (.b b))
def sV(s:ByteArray):V:=.c (.p (.s s))
def lD(P:Program)(f:Func):dQ:=(f.body.bind (fE P)).getD .skip
def inr:dQ→dQ
 |.block _ a=>a
 |.loop a=>a
 |a=>a
section
variable {P:Program} {G:Nat→Option Obj}
theorem Lp.mono{a:dQ}{st:St}{K K':X→St→Prop}(hk:∀e s,K e s→K' e s)(h:Lp P G a st K):Lp P G a st K':=
 fun c hc β R a' w hs=>Code.wp_mono (fun _ _ _ q=>QX.mono hk q) (h c hc β R a' w hs)
theorem Tr.holds_mono{K K':X→St→Prop}(hk:∀e s,K e s→K' e s):∀ {t:Tr},t.holds P G K→t.holds P G K'
 |.fail,h=>h
 |.rq _ _,h=>⟨h.1,Tr.holds_mono hk h.2⟩
 |.alt _ _,h=>⟨Tr.holds_mono hk h.1,Tr.holds_mono hk h.2⟩
 |.loop _ _ _,h=>Lp.mono (fun _ _ q=>Tr.holds_mono hk q) h
 |.done _ _,h=>hk _ _ h
end
section
variable {P:Program} {G:Nat→Option Obj} {β β':Bt} {R R':Nat→Prop} {w w':World}
theorem bA{p:Prop}{k:Tr}{K:X→St→Prop}:(Tr.rq p k).holds P G K↔p∧k.holds P G K:=Iff.rfl
theorem iA{e:X}{st:St}{K:X→St→Prop}:(Tr.done e st).holds P G K↔K e st:=Iff.rfl
theorem cD{b:Bool}{t e:Tr}{K:X→St→Prop}:(bT b t e).holds P G K↔(b=true→t.holds P G K)∧(b=false→e.holds P G K):=by
 cases b<;>simp[bT]
theorem mM(ty:TypeId)(sz:Nat)(f:Nat→Nat→C)(j:Nat){st:St}(h:bC (.c .top) st.t j=.c (.p (.z (.slice none 0 0)))) :
  cW G st ⟨eT (.c (.sl (fG st.h) sz 0 0)) st.t j,fB (.row ty sz 0 f) st.h⟩:=by
 intro β R a w hs
 have h1:=iB.same hs (j:=j) (y:=.c (.sl (fG st.h) sz 0 0)) (fun u hu=>by
  rw[h]at hu
  have hu:u=.slice none 0 0:=hu
  subst hu
  exact⟨none,0,rfl,aW _,Nat.zero_le _,.inl ⟨.inl rfl,rfl,rfl⟩⟩)
 have hn:∀i x,β i=some x→bC .gone (fB (.row ty sz 0 f) st.h) i=bC .gone st.h i:=fun i x hi=>fM _ _ _ (hs.hs.dom i x hi)
 refine⟨β,R,⟨hs.df,h1.tm,⟨?_,?_,?_,hs.hs.lt,hs.hs.rlt,?_,hs.hs.gl,fun b ad hb=>⟨(hs.hs.ql b ad hb).1,(hs.hs.ql b ad hb).2.1,fun i o hi=>by show (bC .gone (fB _ st.h) i).live=false;rw[hn i _ hi];exact(hs.hs.ql b ad hb).2.2 i o hi⟩⟩⟩,Fr.refl _ _ _,fun _ hb=>hb⟩
 ·intro i x hi
  have:=hs.hs.dom i x hi
  show i<(fB _ st.h).length
  rw[kK,aL];omega
 ·intro i j b o o' hi hj li lj
  rw[hn i _ hi]at li;rw[hn j _ hj]at lj;exact hs.hs.inj i j b o o' hi hj li lj
 ·intro i b o hi li
  rw[hn i _ hi]at li;exact hs.hs.sep i b o hi li
 ·intro i b o hi
  show OR β R w (bC .gone (fB _ st.h) i) b o
  rw[hn i _ hi];exact hs.hs.obj i b o hi
def iE(x v:V):Prop:=∀β R w u,VR β R w x u→VR β R w v u
def lY(x v:PV):Prop:=∀R w u,PR R w x u→PR R w v u
theorem iE.refl(x:V):iE x x:=fun _ _ _ _ h=>h
theorem lY.refl(x:PV):lY x x:=fun _ _ _ h=>h
theorem iE.of_eq{x v:V}(h:x=v):iE x v:=h▸iE.refl x
theorem lY.of_eq{x v:PV}(h:x=v):lY x v:=h▸lY.refl x
theorem iE.p{x v:PV}(h:lY x v):iE (.c (.p x)) (.c (.p v)):=fun _ R w u hu=>h R w u hu
theorem lY.l{sz n:Nat}{f g:Nat→Nat→PV}(h:∀e o,e<n→o<sz→lY (f e o) (g e o)):lY (.l sz n f) (.l sz n g):=by
 rintro R w u ⟨A,c,rfl,h1,h2,h3⟩;refine⟨A,c,rfl,h1,h2,fun hn=>?_⟩;obtain⟨ad,e1,e2,e3⟩:=h3 hn;refine⟨ad,e1,e2,fun e o he ho=>?_⟩;obtain⟨u,q1,q2⟩:=e3 e o he ho;exact⟨u,q1,h e o he ho R w u q2⟩
theorem lY.nil(sz:Nat)(g:Nat→Nat→PV):lY (.z (.slice none 0 0)) (.l sz 0 g):=by
 rintro R w u rfl;exact⟨none,0,rfl,aW _,Nat.zero_le _,fun h=>absurd h (Nat.lt_irrefl 0)⟩
inductive aBO:List PV→List PV→Prop
 |nil:aBO [] []
 |cons {x v:PV} {xs vs:List PV}:lY x v→aBO xs vs→aBO (x::xs) (v::vs)
theorem aBO.cs{xs vs:List PV}(h:aBO xs vs):∀ {us:List Value},dJ (CR β R w) (qK xs) us→dJ (CR β R w) (qK vs) us:=by
 induction h with
 |nil=>exact fun h=>h
 |cons h1 _ ih=>
  intro us hu;cases us with
  |nil=>exact hu.elim
  |cons u us=>exact⟨h1 _ _ _ hu.1,ih hu.2⟩
theorem iE.a{xs vs:List PV}(h:aBO xs vs):iE (.a (qK xs)) (.a (qK vs)):=fun _ _ _ _ ⟨us,e,hu⟩=>⟨us,e,h.cs hu⟩
def aOT(x v:V1):Prop:=iE x.up v.up
inductive YR:List V1→List V1→Prop
 |nil:YR [] []
 |cons {x v:V1} {xs vs:List V1}:aOT x v→YR xs vs→YR (x::xs) (v::vs)
theorem aOT.r{x v:V1}(h:aOT x v){u:Value}(hu:BF β R w x u):BF β R w v u:=by
 have:=h β R w u (BF.up hu)
 cases v<;>exact this
theorem iE.t{xs vs:List V1}(h:YR xs vs):iE (.t xs) (.t vs):=by
 rintro β R w _ ⟨us,rfl,hu⟩;refine⟨us,rfl,?_⟩
 generalize us.toList=us' at hu
 induction h generalizing us' with
 |nil=>exact hu
 |cons h1 _ ih=>
  cases us' with
  |nil=>exact hu.elim
  |cons u us=>exact⟨h1.r hu.1,ih _ hu.2⟩
theorem jW.le{f:FuncId}{args:List V}{h:List AO}{v:V}(hf:jW P G f args h fun x h'=>iE x v∧h'=h):jW P G f args h fun x h'=>x=v∧h'=h:=
 fun β R w vs ha hs=>(hf β R w vs ha hs).mono fun _ _ ⟨u,β',R',_,h',q1,q2,q3,q4⟩=>⟨u,β',R',v,h',q1,⟨rfl,q2.2⟩,q2.1 _ _ _ _ q3,q4⟩
theorem aR0{f:FuncId}{fn:Func}{rs:List AR}{n:Nat}(hf:P.funcs[f]?=some fn)(hc:fn.body.bind (fE P)=some (lD P fn))(hr:zM P fn.results.toList=some rs)(hn:fn.ntmps=n)
  {args:List V} (hp:nV args=true) {v:V} (h:kM P G (lD P fn) ⟨args++iI (n-args.length) (.t []),[]⟩ fun e st=>(UX rs e st).holds P G fun _ st'=>∃x,st'.t=[x]∧iE x v) (h0:List AO) :
  jW P G f args h0 fun x h'=>x=v∧h'=h0:=
 jW.le ((aF9 (K:=fun x=>iE x v) hf hc hr hn (pE hp) (h.mono fun _ _ hk=>Tr.holds_mono (fun _ _ ⟨x,h1,h2⟩=>⟨x,h1,fun _=>h2⟩) hk) h0).mono fun _ _ q=>⟨q.1,q.2.2⟩)
def TJ(R:Nat→Prop)(w w':World):Nat→Prop:=fun b=>R b∨(w.heap.size≤b∧b<w'.heap.size)
theorem HS.below{h:List AO}(hh:HS G β R w h)(hb:Below w.heap.size w w'):HS G β (TJ R w w') w' h∧Gr β R w β (TJ R w w') w':=by
 have hk:iX β R w β (TJ R w w') w':=⟨fun _ _ hi=>hi,fun _ hb=>.inl hb,fun b hr=>hb.block b (hh.rlt b hr)⟩
 refine⟨⟨hh.dom,hh.inj,?_,?_,?_,?_,?_,?_⟩,⟨⟨hb.os,hb.tape,hb.output,hb.size,hk.rs,fun b hlt _=>hb.block b hlt,fun _ hi=>.inl hi,?_⟩,hk.bm,hk.rm⟩⟩
 ·rintro i b o hi hl (hr|⟨h1,_⟩)
  ·exact hh.sep i b o hi hl hr
  ·have:=hh.lt i b o hi;omega
 ·intro i b o hi
  exact cJ (hh.lt i b o hi) hb.size
 ·rintro b (hr|⟨_,h1⟩)
  ·exact cJ (hh.rlt b hr) hb.size
  ·exact h1
 ·intro i b o hi
  exact OR.keep hk (fun b1 k hq=>⟨hq,hb.block b1 (hh.ql b1 _ hq).1⟩) (hb.block b (hh.lt i b o hi)) (hh.obj i b o hi)
 ·intro b o hg
  obtain⟨h1,h2⟩:=hh.gl b o hg;exact⟨.inl h1,(hk.rs b h1).trans h2⟩
 ·intro b ad hq
  obtain⟨h1,h2,h3⟩:=hh.ql b ad hq;refine⟨cJ h1 hb.size,?_,h3⟩;rintro (hr|⟨h4,_⟩)
  ·exact h2 hr
  ·omega
 ·rintro b (hr|⟨h1,_⟩)
  ·exact .inl hr
  ·exact .inr (.inr h1)
theorem VR.up_none{x:V}{u:Value}(h:VR Bt.nil R w x u):VR β R w x u:=VR.keep ⟨fun _ _ hi=>(by cases hi),fun _ hb=>hb,fun _ _=>rfl⟩ h
theorem dJ.nth2{α γ:Type}{q:α→γ→Prop}{x:α}{xs:List α}{ys:List γ}(h:dJ q (x::xs) ys):∃y ys',ys=y::ys'∧q x y∧dJ q xs ys':=by
 cases ys with
 |nil=>exact h.elim
 |cons y ys=>exact⟨y,ys,rfl,h.1,h.2⟩
theorem dJ.nil2{α γ:Type}{q:α→γ→Prop}{ys:List γ}(h:dJ q ([]:List α) ys):ys=[]:=by
 cases ys with
 |nil=>rfl
 |cons y ys=>exact h.elim
theorem UW{f:FuncId}{args:List V}{v:V}(hp:nV args=true)
  (hk:∀R w (vs:Array Value),(∀b,R b→b<w.heap.size)→(∀b o,G b=some o→w.heap[b]?=some o)→dJ (VR Bt.nil R w) args vs.toList →
   Calls P f vs w fun e w'=>∃u,e=.returned u∧VR Bt.nil (TJ R w w') w' v u∧Below w.heap.size w w') (h:List AO):jW P G f args h fun x h'=>x=v∧h'=h:=by
 intro β R w vs ha hh;refine(hk R w vs hh.rlt (fun b o hg=>(hh.gl b o hg).2) (dJ.pureV_ (pE hp) ha)).mono ?_;rintro e w' ⟨u,rfl,h1,h2⟩;obtain⟨h3,h4⟩:=hh.below h2;exact⟨u,β,TJ R w w',v,h,rfl,⟨rfl,rfl⟩,VR.up_none h1,h3,h4,fun _ _=>rfl⟩
theorem calls_of_fn{f:FuncId}{args:List V}{vs:Array Value}(h:jW P G f args [] fun x _=>x=bV true)(ha:dJ (VR Bt.nil (fun b=>b<w.heap.size) w) args vs.toList)(hg:∀b o,G b=some o→w.heap[b]?=some o) :
  Calls P f vs w fun e w'=>e=.returned (.bool true)∧Below w.heap.size w w':=by
 refine(h Bt.nil (fun b=>b<w.heap.size) w vs ha ⟨(fun _ _ h=>by cases h),(fun _ _ _ _ _ h=>by cases h),(fun _ _ _ h=>by cases h),(fun _ _ _ h=>by cases h),(fun _ h=>h),(fun _ _ _ h=>by cases h),fun b o hb=>⟨(Array.getElem?_eq_some_iff.1 (hg b o hb)).1,hg b o hb⟩,(fun _ _ h=>by cases h)⟩).mono ?_
 ·rintro e w' ⟨u,β',R',x,h',rfl,rfl,h1,_,h2,_⟩
  have h1:u=.bool true:=h1
  subst h1;exact⟨rfl,h2.os,h2.tape,h2.output,h2.size,fun b hb=>h2.rs b hb⟩
end
section
variable {α:Type} [Inhabited α]
def aE(enc:α→Nat→PV)(L:List α)(e o:Nat):PV:=enc (L.getD e default) o
def aO(enc:α→Nat→PV)(L:List α)(e o:Nat):C:=.p (aE enc L e o)
def bO(enc:α→Nat→PV)(sz:Nat)(L:List α):PV:=.l sz L.length (aE enc L)
def aU(enc:α→Nat→PV)(sz:Nat)(L:List α):V:=.c (.p (bO enc sz L))
def bS(dec:(Nat→PV)→α)(n:Nat)(f:Nat→Nat→PV):List α:=(List.range n).map fun e=>dec (f e)
theorem GH{enc:α→Nat→PV}{dec:(Nat→PV)→α}(hd:∀x,dec (enc x)=x)(L:List α):bS dec L.length (aE enc L)=L:=by
 apply List.ext_getElem?;intro i
 unfold bS
 by_cases hi:i<L.length
 ·rw[List.getElem?_map,List.getElem?_range hi,List.getElem?_eq_getElem hi]
  simp only[Option.map_some,aJ]
  have:aE enc L i=enc L[i]:=by unfold aE;simp[hi]
  rw[this,hd]
 ·rw[cB (by simpa using hi),cB (by omega)]
def kI(enc:α→Nat→PV)(sz:Nat)(L:List α)(n:Nat)(f:Nat→Nat→PV):Prop:=L.length=n∧∀e o,e<n→o<sz→f e o=aE enc L e o
theorem dP(enc:α→Nat→PV)(sz:Nat)(L:List α):kI enc sz L L.length (aE enc L):=⟨rfl,fun _ _ _ _=>rfl⟩
theorem kI.le{enc:α→Nat→PV}{sz:Nat}{L:List α}{n:Nat}{f:Nat→Nat→PV}(h:kI enc sz L n f):iE (.c (.p (.l sz n f))) (aU enc sz L):=by
 obtain⟨rfl,h2⟩:=h;exact iE.p (lY.l fun e o he ho=>lY.of_eq (h2 e o he ho))
theorem aUL{enc:α→Nat→PV}{L M:List α}{n e o:Nat}(hn:L.length=n):fI n (aO enc L) (aO enc M) e o=aO enc (L++M) e o:=by
 unfold fI aO aE;subst hn
 by_cases h1:e<L.length
 ·rw[if_pos h1];simp[cG h1]
 ·rw[if_neg h1];simp[List.getElem?_append_right (show L.length≤e by omega)]
end
section
variable {P:Program} {G:Nat→Option Obj}
inductive aBL:List V→List V→Prop
 |nil:aBL [] []
 |cons {x v:V} {xs vs:List V}:iE x v→aBL xs vs→aBL (x::xs) (v::vs)
theorem aBL.all{β:Bt}{R:Nat→Prop}{w:World}{xs vs:List V}(h:aBL xs vs):∀ {us:List Value},dJ (VR β R w) xs us→dJ (VR β R w) vs us:=by
 induction h with
 |nil=>exact fun h=>h
 |cons h1 _ ih=>
  intro us hu;cases us with
  |nil=>exact hu.elim
  |cons u us=>exact⟨h1 _ _ _ _ hu.1,ih hu.2⟩
theorem jW.args{f:FuncId}{args args':List V}{h:List AO}{K:V→List AO→Prop}(hf:jW P G f args' h K)(hl:aBL args args'):jW P G f args h K:=
 fun β R w vs ha hs=>hf β R w vs (hl.all ha) hs
end
def aKC:PV→ByteArray
 |.s x=>x
 |_=>⟨#[]⟩
def aO5:PV→Int
 |.i _ n=>n
 |_=>0
def aT(x:Int)(_:Nat):PV:=.i .i64 x
def aN(x:ByteArray×ByteArray)(o:Nat):PV:=match o with
 |0=>.s x.1
 |_=>.s x.2
def gH(f:Nat→PV):Int:=aO5 (f 0)
def cS(f:Nat→PV):ByteArray×ByteArray:=(aKC (f 0),aKC (f 1))
theorem iS(L:List Int):bS gH L.length (aE aT L)=L:=GH (fun _=>rfl) L
theorem gN(L:List (ByteArray×ByteArray)):bS cS L.length (aE aN L)=L:=GH (fun _=>rfl) L
def bK(P:Program)(fn:Func):List AR:=(zM P fn.results.toList).getD []
def TF(P:Program)(fn:Func):Bool:=(fn.body.bind (fE P)).isSome&&(zM P fn.results.toList).isSome
def oB(fn:Func)(args:List V):St:=⟨args++iI (fn.ntmps-args.length) (.t []),[]⟩
def mC(ρ:List Nat)(keep:List Bool)(rs:List AR)(e:X)(st:St):Tr:=match e with
 |.ret=>UX rs .ret st
 |e=>.done e (aMU ρ keep st)
section
variable {P:Program} {G:Nat→Option Obj}
def KF(v:V)(K:X→St→Prop)(e:X)(st:St):Prop:=match e with
 |.ret=>∃x,st.t=[x]∧iE x v
 |e=>K e st
def RK(P:Program)(G:Nat→Option Obj)(rs:List AR)(v:V)(K:X→St→Prop)(e:X)(st:St):Prop:=match e with
 |.ret=>(UX rs .ret st).holds P G fun _ s=>∃x,s.t=[x]∧iE x v
 |e=>K e st
def tZ(P:Program)(G:Nat→Option Obj)(rs:List AR)(ac:dQ)(st:St)(v:V)(K:X→St→Prop):Prop:=kM P G ac st (RK P G rs v K)
theorem ED{rs:List AR}{v:V}{K:X→St→Prop}{st':St}(hk:(UX rs .ret st').holds P G (KF v K)):(UX rs .ret st').holds P G fun _ s=>∃x,s.t=[x]∧iE x v:=by
 have key:∀(l:List AR) (g:List V1→List V1),(EE st' l fun vs=>.done .ret ⟨[GZ (g vs)],[]⟩).holds P G (KF v K)→(EE st' l fun vs=>.done .ret ⟨[GZ (g vs)],[]⟩).holds P G fun _ s=>∃x,s.t=[x]∧iE x v:=by
  have kc:∀(c:C) (k:PV→Tr),(UU st'.h c k).holds P G (KF v K)→(∀p,(k p).holds P G (KF v K)→(k p).holds P G fun _ s=>∃x,s.t=[x]∧iE x v)→(UU st'.h c k).holds P G fun _ s=>∃x,s.t=[x]∧iE x v:=by
   intro c k h hk;cases c with
   |p x=>exact hk _ h
   |sl id sz off len=>
    simp only[UU]at h ⊢;split at h
    ·obtain⟨c1,c2,c3⟩:=bZ h
     simp only[c1,nH];exact⟨c2,hk _ c3⟩
    ·exact h.elim
   |_=>exact h.elim
  have kl:∀(cs:List C) (k:List PV→Tr),(aAS st'.h cs k).holds P G (KF v K)→(∀p,(k p).holds P G (KF v K)→(k p).holds P G fun _ s=>∃x,s.t=[x]∧iE x v)→(aAS st'.h cs k).holds P G fun _ s=>∃x,s.t=[x]∧iE x v:=by
   intro cs;induction cs with
   |nil=>exact fun k h hk=>hk _ h
   |cons c cs ih=>exact fun k h hk=>kc c _ h fun p hp=>ih _ hp fun ps hps=>hk _ hps
  have kv:∀(x:V1) (k:V1→Tr),(aAR st'.h x k).holds P G (KF v K)→(∀p,(k p).holds P G (KF v K)→(k p).holds P G fun _ s=>∃x,s.t=[x]∧iE x v)→(aAR st'.h x k).holds P G fun _ s=>∃x,s.t=[x]∧iE x v:=by
   intro x k h hk;cases x with
   |c c=>exact kc c _ h fun p hp=>hk _ hp
   |a cs=>exact kl cs _ h fun p hp=>hk _ hp
  intro l;induction l with
  |nil=>exact fun g h=>h
  |cons r l ih=>
   intro g h
   have step:∀x:V1,(aAR st'.h x fun v'=>EE st' l fun vs=>.done .ret ⟨[GZ (g (v'::vs))],[]⟩).holds P G (KF v K)→(aAR st'.h x fun v'=>EE st' l fun vs=>.done .ret ⟨[GZ (g (v'::vs))],[]⟩).holds P G fun _ s=>∃x,s.t=[x]∧iE x v:=
    fun x hx=>kv x _ hx fun p hp=>ih (fun vs=>g (p::vs)) hp
   simp only[EE]at h ⊢;cases r with
   |tmp t=>
    simp only[ZN]at h ⊢;split at h
    ·exact step _ h
    ·exact h.elim
   |cell t n=>
    simp only[ZN]at h ⊢;split at h
    ·split at h
     ·obtain⟨c1,c2⟩:=bZ h
      simp only[c1,nH];split at c2
      ·exact step _ c2
      ·exact c2.elim
     ·exact h.elim
    ·exact h.elim
   |new t=>
    simp only[ZN]at h ⊢;split at h
    ·exact step _ h
    ·exact step _ h
    ·exact h.elim
 exact key rs id hk
theorem tZ.ev{ext:Ext}(hext:bG P G ext){rs:List AR}{ac:dQ}{st:St}{v:V}{K:X→St→Prop}(ρ:List Nat)(keep:List Bool)(hn:qI ρ=true){tree:Tr}(ht:GC ext ac st (mC ρ keep rs)=tree)(h:tree.holds P G (KF v K)):tZ P G rs ac st v K:=by
 subst ht;refine kM.post ((kM.ev hext h).mono fun e st' hk=>?_);cases e with
 |ret=>exact⟨st',fun β R a w hs=>⟨β,R,hs,Fr.refl _ _ _,fun _ hb=>hb⟩,ED hk⟩
 |normal=>exact⟨_,gY ρ keep hn st',hk⟩
 |exit id=>exact⟨_,gY ρ keep hn st',hk⟩
theorem tZ.pre{rs:List AR}{ac:dQ}{st st2:St}{v:V}{K:X→St→Prop}(hw:cW G st st2)(h:tZ P G rs ac st2 v K):tZ P G rs ac st v K:=kM.pre hw h
theorem tZ.mono{rs:List AR}{ac:dQ}{st:St}{v:V}{K K':X→St→Prop}(h:tZ P G rs ac st v K)(hk:∀e st,e≠.ret→K e st→K' e st):tZ P G rs ac st v K':=
 kM.mono h fun e st q=>by
  cases e with
  |ret=>exact q
  |normal=>exact hk _ _ (by simp) q
  |exit id=>exact hk _ _ (by simp) q
theorem tZ.seq{rs:List AR}{a b:dQ}{st:St}{v:V}{K1 K:X→St→Prop}(h:tZ P G rs a st v K1)(hn:∀st',K1 .normal st'→tZ P G rs b st' v K)(hx:∀id st',K1 (.exit id) st'→K (.exit id) st'):tZ P G rs (.seq a b) st v K:=
 kM.seq h hn fun e st' he q=>by
  cases e with
  |normal=>exact absurd rfl he
  |ret=>exact q
  |exit id=>exact hx id st' q
theorem tZ.block{rs:List AR}{id:Nat}{a:dQ}{st:St}{v:V}{K:X→St→Prop}(h:tZ P G rs a st v fun e st'=>match e with
  |.exit j=>if j=id then K .normal st' else K (.exit j) st'
  |e=>K e st'):tZ P G rs (.block id a) st v K:=
 kM.block (kM.mono h fun e st' q=>by
  cases e with
  |normal=>exact q
  |ret=>exact q
  |exit j=>exact q)
theorem tZ.loop{rs:List AR}{a:dQ}{v:V}{K:X→St→Prop}{σ:Type}(C:σ→St)(I:σ→Prop)(μ:σ→Nat)(s0:σ)(hI:I s0)
  (step:∀s,I s→tZ P G rs a (C s) v fun e st'=>match e with
   |.normal=>∃s',I s'∧μ s'<μ s∧cW G st' (C s')
   |e=>K e st'):tZ P G rs (.loop a) (C s0) v K:=
 kM.loop C I μ s0 hI fun s hs=>kM.mono (step s hs) fun e st' q=>by
  cases e with
  |normal=>exact q
  |ret=>exact q
  |exit j=>exact q
theorem aR1{f:FuncId}{fn:Func}(hf:P.funcs[f]?=some fn)(hok:TF P fn=true){args:List V}(hp:nV args=true){v:V}(h:tZ P G (bK P fn) (lD P fn) (oB fn args) v fun _ _=>False)(h0:List AO) :
  jW P G f args h0 fun x h'=>x=v∧h'=h0:=by
 unfold TF at hok;simp only[aQ,eK]at hok;obtain⟨⟨c,hc⟩,rs,hr⟩:=hok
 have e1:lD P fn=c:=by unfold lD;rw[hc];rfl
 have e2:bK P fn=rs:=by unfold bK;rw[hr];rfl
 refine aR0 hf (by rw[hc,e1]) hr rfl hp ?_ h0
 refine kM.mono h fun e st q=>?_
 rw[e2]at q;cases e with
 |ret=>exact q
 |normal=>exact q.elim
 |exit id=>exact q.elim
theorem HI{ext:Ext}(hext:bG P G ext){f:FuncId}{fn:Func}(hf:P.funcs[f]?=some fn)(hok:TF P fn=true){args:List V}(hp:nV args=true){v:V}{tree:Tr}(ht:GC ext (lD P fn) (oB fn args) (mC [] [] (bK P fn))=tree)
  (h:tree.holds P G (KF v fun _ _=>False)) (h0:List AO):jW P G f args h0 fun x h'=>x=v∧h'=h0:=
 aR1 hf hok hp (tZ.ev hext [] [] rfl ht h) h0
end
def rS:List dQ→List dQ→List dQ
 |[],m=>m
 |c::r,m=>c::rS r m
def eZ:dQ→List dQ
 |.seq a b=>rS (eZ a) (eZ b)
 |c=>[c]
noncomputable def dF(Fn:Ext):List dQ→St→(X→St→Tr)→Tr
 |[],st,K=>K .normal st
 |c::r,st,K=>GC Fn c st fun e st'=>match e with
  |.normal=>dF Fn r st' K
  |e=>K e st'
def dC(P:Program)(fn:Func):List dQ:=eZ (lD P fn)
def gQ(l:List dQ)(n:Nat):List dQ:=eZ (inr (inr (bC .skip l n)))
section
variable {P:Program} {G:Nat→Option Obj}
def eG(P:Program)(G:Nat→Option Obj)(rs:List AR)(v:V):List dQ→St→(X→St→Prop)→Prop
 |[],st,Q=>∃st2,cW G st st2∧Q .normal st2
 |c::r,st,Q=>tZ P G rs c st v fun e st'=>match e with
  |.normal=>eG P G rs v r st' Q
  |e=>Q e st'
variable {rs:List AR} {v:V}
theorem cW.refl(st:St):cW G st st:=fun β R _ _ hs=>⟨β,R,hs,Fr.refl _ _ _,fun _ hb=>hb⟩
theorem tZ.post{ac:dQ}{st:St}{K:X→St→Prop}(h:tZ P G rs ac st v fun e st'=>∃st2,cW G st' st2∧K e st2):tZ P G rs ac st v K:=by
 refine kM.post (kM.mono h fun e st' hk=>?_);cases e with
 |ret=>exact⟨st',cW.refl st',hk⟩
 |normal=>exact hk
 |exit id=>exact hk
theorem eG.pre{l:List dQ}{st st2:St}{Q:X→St→Prop}(hw:cW G st st2)(h:eG P G rs v l st2 Q):eG P G rs v l st Q:=by
 cases l with
 |nil=>obtain⟨st3,h1,h2⟩:=h;exact⟨st3,hw.trans h1,h2⟩
 |cons c r=>exact tZ.pre hw h
theorem eG.cut:∀ {a b:List dQ} {st:St} {Q:X→St→Prop},eG P G rs v (rS a b) st Q→eG P G rs v a st fun e st'=>match e with
  |.normal=>eG P G rs v b st' Q
  |e=>Q e st'
 |[],_,st,_,h=>⟨st,cW.refl st,h⟩
 |_::_,_,_,_,h=>tZ.mono h fun e st' _ q=>by
  cases e with
  |normal=>exact eG.cut q
  |ret=>exact q
  |exit id=>exact q
theorem eG.glue:∀ {a b:List dQ} {st:St} {Q:X→St→Prop},(eG P G rs v a st fun e st'=>match e with
  |.normal=>eG P G rs v b st' Q
  |e=>Q e st')→eG P G rs v (rS a b) st Q
 |[],_,_,_,⟨_,h1,h2⟩=>eG.pre h1 h2
 |_::_,_,_,_,h=>tZ.mono h fun e st' _ q=>by
  cases e with
  |normal=>exact eG.glue q
  |ret=>exact q
  |exit id=>exact q
theorem eG.code:∀ {c:dQ} {st:St} {Q:X→St→Prop},eG P G rs v (eZ c) st Q→tZ P G rs c st v Q:=by
 intro c;induction c with
 |seq a b iha ihb=>
  intro st Q h
  have h1:=eG.cut (a:=eZ a) (b:=eZ b) h
  refine tZ.seq (iha h1) (fun st' hq=>ihb hq) (fun id st' hq=>hq)
 |_=>
  intro st Q h;refine tZ.post (tZ.mono h fun e st' _ q=>?_);cases e with
  |normal=>exact q
  |ret=>exact⟨st',cW.refl st',q⟩
  |exit id=>exact⟨st',cW.refl st',q⟩
theorem BC{ρ:List Nat}{keep:List Bool}(hn:qI ρ=true){e:X}{st:St}{K:X→St→Prop}(h:(mC ρ keep rs e st).holds P G (KF v K)):∃st2,cW G st st2∧RK P G rs v K e st2:=by
 cases e with
 |ret=>exact⟨st,cW.refl st,ED h⟩
 |normal=>exact⟨_,gY ρ keep hn st,h⟩
 |exit id=>exact⟨_,gY ρ keep hn st,h⟩
theorem xS{ext:Ext}(hext:bG P G ext){ρ:List Nat}{keep:List Bool}(hn:qI ρ=true):∀ {l:List dQ} {st:St} {K:X→St→Prop},(dF ext l st (mC ρ keep rs)).holds P G (KF v K)→eG P G rs v l st K
 |[],st,K,h=>BC hn h
 |c::r,st,K,h=>by
  have h1:=kM.ev hext h
  refine tZ.post ?_;refine kM.post (kM.mono h1 fun e st' q=>?_);cases e with
  |normal=>exact⟨st',cW.refl st',st',cW.refl st',xS hext hn q⟩
  |ret=>
   obtain⟨st2,q1,q2⟩:=BC hn q;exact⟨st2,q1,q2⟩
  |exit id=>
   obtain⟨st2,q1,q2⟩:=BC hn q;exact⟨st2,q1,st2,cW.refl st2,q2⟩
theorem qY:∀(n:Nat) (l:List dQ),rS (dL n l) (bL n l)=l
 |0,l=>by cases l<;>rfl
 |n+1,[]=>rfl
 |n+1,c::r=>by simp[dL,bL,rS,qY n r]
theorem eG.ev{ext:Ext}(hext:bG P G ext)(n:Nat)(ρ:List Nat)(keep:List Bool)(hn:qI ρ=true){l:List dQ}{st:St}{Q:X→St→Prop}{tree:Tr}(ht:dF ext (dL n l) st (mC ρ keep rs)=tree)
  (h:tree.holds P G (KF v fun e st'=>match e with
   |.normal=>eG P G rs v (bL n l) st' Q
   |e=>Q e st')):eG P G rs v l st Q:=by
 rw[←qY n l];subst ht;exact eG.glue (xS hext hn h)
theorem eG.evA{ext:Ext}(hext:bG P G ext)(ρ:List Nat)(keep:List Bool)(hn:qI ρ=true){l:List dQ}{st:St}{Q:X→St→Prop}{tree:Tr}(ht:dF ext l st (mC ρ keep rs)=tree)
  (h:tree.holds P G (KF v Q)):eG P G rs v l st Q:=by
 subst ht;exact xS hext hn h
theorem eG.loop{id:Nat}{b:dQ}{l r:List dQ}{st:St}{Q:X→St→Prop}(hl:l=.block id (.loop b)::r){σ:Type}(C:σ→St)(I:σ→Prop)(μ:σ→Nat)(s0:σ)(hI:I s0)(hw:cW G st (C s0))
  (step:∀s,I s→eG P G rs v (eZ b) (C s) fun e st'=>match e with
   |.normal=>∃s',I s'∧μ s'<μ s∧cW G st' (C s')
   |.exit j=>if j=id then eG P G rs v r st' Q else Q (.exit j) st'
   |.ret=>True):eG P G rs v l st Q:=by
 subst hl;refine tZ.pre hw (tZ.block ?_)
 refine tZ.loop C I μ s0 hI fun s hs=>?_
 refine tZ.mono (eG.code (step s hs)) fun e st' he q=>?_
 cases e with
 |normal=>exact q
 |exit j=>exact q
 |ret=>exact absurd rfl he
theorem qN{f:FuncId}{fn:Func}(hf:P.funcs[f]?=some fn)(hok:TF P fn=true){args:List V}(hp:nV args=true){v:V}(h:eG P G (bK P fn) v (dC P fn) (oB fn args) fun _ _=>False)(h0:List AO) :
  jW P G f args h0 fun x h'=>x=v∧h'=h0:=aR1 hf hok hp (eG.code h) h0
end
def aCD(j:Nat):List (Nat×V)→V
 |[]=>.c .top
 |(i,v)::r=>match cA i j with
  |true=>v
  |false=>aCD j r
def aKS:Nat→Nat→List (Nat×V)→List V
 |0,_,_=>[]
 |n+1,j,l=>aCD j l::aKS n (j+1) l
def bY(n:Nat)(l:List (Nat×V))(h:List AO):St:=⟨aKS n 0 l,h⟩
def aQN:Nat→Nat→List Nat→List Bool
 |0,_,_=>[]
 |n+1,j,l=>pF j l::aQN n (j+1) l
def fJ(n:Nat)(l:List Nat):List Bool:=aQN n 0 l
abbrev kD:=List V→List AO→Option (Prop×V×List AO)
def uC(m:Mod):kD:=fun args h=>match m args with
 |some (p,v)=>some (p,v,h)
 |none=>none
def mH:List (FuncId×kD)→Ext
 |[],_,_,_,_=>.fail
 |(g,m)::r,f,args,h,k=>match cA g f with
  |true=>match m args h with
   |some (p,v,h')=>.rq p (k v h')
   |none=>.fail
  |false=>mH r f args h k
structure aOU (p:Prop):Prop where
 h:p
section
variable {P:Program} {G:Nat→Option Obj}
theorem aP{e:X}{st:St}{K:X→St→Prop}:(Tr.done e st).holds P G K↔aOU (K e st):=⟨fun h=>⟨h⟩,fun h=>h.h⟩
theorem jZ{v:V}{K:X→St→Prop}{j:Nat}{st:St}:KF v K (.exit j) st↔K (.exit j) st:=Iff.rfl
theorem cC{v:V}{K:X→St→Prop}{st:St}:KF v K .normal st↔K .normal st:=Iff.rfl
theorem fP{v x:V}{K:X→St→Prop}{h:List AO}:KF v K .ret ⟨[x],h⟩↔iE x v:=⟨fun⟨_,h1,h2⟩=>by injection h1 with h1;exact h1▸h2,fun h=>⟨x,rfl,h⟩⟩
theorem aI{st st':St}(h:st=st'):cW G st st':=h▸cW.refl st
theorem KO{t:List V}{h h':List AO}(hh:dJ RV h h'):cW G ⟨t,h⟩ ⟨t,h'⟩:=VV ⟨rfl,hh⟩
def gG(P:Program)(G:Nat→Option Obj)(f:FuncId)(m:kD):Prop:=∀args h p v h',m args h=some (p,v,h')→p→jW P G f args h fun x h2=>x=v∧h2=h'
theorem iW.lift{f:FuncId}{m:Mod}(hm:iW P G f m):gG P G f (uC m):=by
 intro args h p v h' he hp;unfold uC at he;split at he
 ·rename_i p' v' hq
  injection he with he;injection he with e1 he;injection he with e2 e3;subst e1;subst e2;subst e3;exact hm args _ _ hq hp h
 ·cases he
theorem eM:∀ {l:List (FuncId×kD)},(∀e∈l,gG P G e.1 e.2)→bG P G (mH l)
 |[],_=>⟨fun _ _ _ _ _ h=>h.elim,fun _ _ _ _ _ h=>h.elim⟩
 |(g,m)::r,hl=>by
  have ih:=eM (l:=r) fun e he=>hl e (cN _ he)
  have h0:gG P G g m:=hl (g,m) (cZ ..)
  refine⟨?_,?_⟩
  ·intro f args h k K hh
   simp only[mH]at hh;split at hh
   ·rename_i hb
    obtain rfl:=aS hb;split at hh
    ·rename_i p v h' hm
     exact(h0 args h p v h' hm hh.1).mono fun x h2 ⟨e1,e2⟩=>by rw[e1,e2];exact hh.2
    ·exact hh.elim
   ·exact ih.fn _ _ _ _ _ hh
  ·intro f args h k K hh
   simp only[mH]at hh ⊢;split at hh
   ·rename_i hb
    split at hh
    ·rename_i p v h' hm
     exact⟨v,h',hh.2,fun k' K' hk=>⟨hh.1,hk⟩⟩
    ·exact hh.elim
   ·exact ih.val _ _ _ _ _ hh
end
section
variable {P:Program} {G:Nat→Option Obj} {β β':Bt} {R R':Nat→Prop} {w w':World}
theorem wV{h:List AO}(hh:HS G β R w h)(k:Fr Bt.nil R w β' R' w')(hr:∀b,R b→R' b){h':List AO}(hh':HS G β' R' w' h'){x:AO}(hx:x.live=true){id b N:Nat}(hid:β' id=some (b,N))(hl:(bC .gone h' id).live=true)
  (hob:∀β2,iX Bt.nil R' w' β2 R' w'→OR β2 R' w' x b N) :
  HS G (bn β h.length (b,N)) R' w' (fB x h)∧Gr β R w (bn β h.length (b,N)) R' w':=by
 have hxr:∀b,R' b→R b∨w.heap.size≤b:=by
  intro b hb
  rcases k.rx b hb with h|h|h
  ·exact .inl h
  ·exact absurd h Bt.nil_has
  ·exact .inr h
 have hfresh:w.heap.size≤b:=by
  rcases k.ex b (.inl ⟨id,N,hid⟩) with h|h
  ·exact absurd h Bt.nil_has
  ·exact h
 have hold:∀i y,β i=some y→bn β h.length (b,N) i=some y:=fun i y hi=>by
  rw[eE _ (by have:=hh.dom i y hi;omega)];exact hi
 have hcase:∀i y,bn β h.length (b,N) i=some y→(i=h.length∧y=(b,N))∨(i≠h.length∧β i=some y):=fun i y hi=>by
  by_cases he:i=h.length
  ·subst he;rw[gI]at hi;injection hi with hi;exact .inl ⟨rfl,hi.symm⟩
  ·rw[eE _ he]at hi;exact .inr ⟨he,hi⟩
 have gr:Gr β R w (bn β h.length (b,N)) R' w':={
  os:=k.os,tape:=k.tape,output:=k.output,size:=k.size,rs:=k.rs
  fr:=fun b hb _=>k.fr b hb Bt.nil_has
  ex:=fun b' hi=>(GN hi).imp (fun h=>h) (fun h=>by have h:b'=b:=h;omega)
  rx:=fun b hb=>(hxr b hb).imp (fun h=>h) .inr
  bm:=hold
  rm:=hr }
 have hlen:(fB x h).length=h.length+1:=by rw[kK];simp
 have hnew:bC .gone (fB x h) h.length=x:=lH _ _ _
 have holdn:∀i y,β i=some y→bC .gone (fB x h) i=bC .gone h i:=fun i y hi=>fM _ _ _ (hh.dom i y hi)
 have kq:uD β w (bn β h.length (b,N)) w':=fun b' ad hb=>⟨hb,k.fr b' (hh.ql b' ad hb).1 Bt.nil_has⟩
 refine⟨⟨?_,?_,?_,?_,hh'.rlt,?_,?_,?_⟩,gr⟩
 ·intro i y hi
  rcases hcase i y hi with⟨e,_⟩|⟨_,e⟩
  ·omega
  ·have:=hh.dom i y e;omega
 ·intro i j b' o o' hi hj li lj
  rcases hcase i _ hi with⟨e1,q1⟩|⟨e1,q1⟩
  ·rcases hcase j _ hj with⟨e2,q2⟩|⟨e2,q2⟩
   ·omega
   ·injection q1 with q1 _
    have:=hh.lt j b' o' q2;omega
  ·rcases hcase j _ hj with⟨e2,q2⟩|⟨e2,q2⟩
   ·injection q2 with q2 _
    have:=hh.lt i b' o q1;omega
   ·rw[holdn i _ q1]at li
    rw[holdn j _ q2]at lj;exact hh.inj i j b' o o' q1 q2 li lj
 ·intro i b' o hi li hb
  rcases hcase i _ hi with⟨e1,q1⟩|⟨e1,q1⟩
  ·injection q1 with q1 _
   subst q1;exact hh'.sep id _ N hid hl hb
  ·rw[holdn i _ q1]at li
   rcases hxr b' hb with h|h
   ·exact hh.sep i b' o q1 li h
   ·have:=hh.lt i b' o q1;omega
 ·intro i b' o hi
  rcases hcase i _ hi with⟨e1,q1⟩|⟨e1,q1⟩
  ·injection q1 with q1 _
   subst q1;exact hh'.lt id _ N hid
  ·exact cJ (hh.lt i b' o q1) k.size
 ·intro i b' o hi
  rcases hcase i _ hi with⟨e1,q1⟩|⟨e1,q1⟩
  ·injection q1 with q1 q2
   subst q1;subst q2;subst e1;rw[hnew];exact hob _ ⟨(fun _ _ h=>by cases h),fun _ h=>h,fun _ _=>rfl⟩
  ·rw[holdn i _ q1]
   exact OR.keep gr.keeps (kq.at b') (k.fr b' (hh.lt i b' o q1) Bt.nil_has) (hh.obj i b' o q1)
 ·intro b' ob hb
  exact hh'.gl b' ob hb
 ·intro b' ad hb
  obtain⟨h1,h2,h3⟩:=hh.ql b' ad hb;refine⟨cJ h1 k.size,fun hf=>?_,fun i o hi=>?_⟩
  ·rcases hxr b' hf with h|h
   ·exact h2 h
   ·omega
  ·rcases hcase i _ hi with⟨e1,q1⟩|⟨e1,q1⟩
   ·injection q1 with q1 _;omega
   ·rw[holdn i _ q1];exact h3 i o q1
theorem FP{h:List AO}(hh:HS G β R w h)(k:Fr Bt.nil R w β' R' w')(hr:∀b,R b→R' b){h':List AO}(hh':HS G β' R' w' h')(x:AO) :
  HS G β (frz β' R') w' (fB x h)∧Gr β R w β (frz β' R') w':=by
 obtain⟨h1,h2⟩:=AW hh k hr hh'
 have hn:∀i y,β i=some y→bC .gone (fB x h) i=bC .gone h i:=fun i y hi=>fM _ _ _ (hh.dom i y hi)
 refine⟨⟨?_,?_,?_,h1.lt,h1.rlt,?_,h1.gl,fun b ad hb=>⟨(h1.ql b ad hb).1,(h1.ql b ad hb).2.1,fun i o hi=>by rw[hn i _ hi];exact(h1.ql b ad hb).2.2 i o hi⟩⟩,h2⟩
 ·intro i y hi
  have:=hh.dom i y hi
  rw[kK,aL];omega
 ·intro i j b o o' hi hj li lj
  rw[hn i _ hi]at li;rw[hn j _ hj]at lj;exact h1.inj i j b o o' hi hj li lj
 ·intro i b o hi li
  rw[hn i _ hi]at li;exact h1.sep i b o hi li
 ·intro i b o hi
  rw[hn i _ hi];exact h1.obj i b o hi
def MW(r:Nat)(ty:TypeId)(sz n:Nat)(F:Nat→Nat→PV)(e:X)(st:St):Prop:=
 (∀j,e≠.exit j)∧∃id f,bC (.c .top) st.t r=.c (.sl id sz 0 n)∧bC .gone st.h id=.row ty sz n f∧∀e o,e<n→o<sz→f e o=.p (F e o)
theorem aOF{f:FuncId}{fn:Func}{r:Nat}{ty:TypeId}{sz n:Nat}{F:Nat→Nat→PV}(hf:P.funcs[f]?=some fn)(hok:TF P fn=true)(hr:fn.results.toList=[.tmp r]){args:List V}(hp:nV args=true)
  (h:kM P G (lD P fn) (oB fn args) (MW r ty sz n F)) (h0:List AO) :
  jW P G f args h0 fun x h'=>x=.c (.sl (fG h0) sz 0 n)∧h'=fB (.row ty sz n fun e o=>.p (F e o)) h0:=by
 unfold TF at hok;simp only[aQ,eK]at hok;obtain⟨⟨c,hc⟩,_⟩:=hok
 have e1:lD P fn=c:=by unfold lD;rw[hc];rfl
 rw[e1]at h;simp only[aM]at hc;obtain⟨c0,hb,hc⟩:=hc;intro β R w vs ha hh
 refine calls_of_wp hf hb (Code.wp_mono ?_ (h c0 hc Bt.nil R { tmps:=vs++iJ (fn.ntmps-vs.size) undef,defers:=[] } w ?_))
 ·intro e a' w' hq
  have key:∀x:X,(∀id,x≠.exit id)→Po G (MW r ty sz n F) Bt.nil R w x a' w' →
    a'.defers=[]∧∃v,(results fn a'.tmps).run P w'=.ok v w'∧∃u β' R' x h',Ending.returned v=.returned u∧(x=.c (.sl (fG h0) sz 0 n)∧h'=fB (.row ty sz n fun e o=>.p (F e o)) h0)∧VR β' R' w' x u∧HS G β' R' w' h'∧Gr β R w β' R' w'∧∀i,i<h0.length→β' i=β i:=by
   rintro x hx ⟨β',R',st',⟨_,id,f',q1,q2,q3⟩,hs,hfr,hrr⟩
   have hv:=bW (x:=.tmp r) hs rfl
   have e2:st'.ev (.t r)=.c (.sl id sz 0 n):=q1
   rw[e2]at hv
   have hres:(results fn a'.tmps).run P w'=.ok (a'.tmps.getD r undef) w':=by
    refine sR (us:=[a'.tmps.getD r undef]) fn a'.tmps ?_;rw[hr];simp[List.mapM_cons,KW]
   refine⟨hs.df,_,hres,?_⟩;obtain⟨A,cp,hsl,hle,hmx,hcase⟩:=hv
   have hsl:a'.tmps.getD r undef=.slice A n cp:=hsl
   rw[hsl]
   rcases hcase with⟨hA,hn0,hc0⟩|⟨b,N,hb1,hb2,hb3⟩
   ·obtain⟨c1,c2⟩:=FP hh hfr hrr hs.hs (.row ty sz n fun e o=>.p (F e o))
    refine⟨_,β,frz β' R',_,_,rfl,⟨rfl,rfl⟩,?_,c1,c2,fun _ _=>rfl⟩;exact⟨A,cp,rfl,hle,hmx,.inl ⟨hA,hn0,hc0⟩⟩
   ·obtain⟨c1,c2⟩:=wV (x:=.row ty sz n fun e o=>.p (F e o)) hh hfr hrr hs.hs rfl hb1 (by rw[q2];rfl) (fun β2 hk=>by
      have hob:=hs.hs.obj id b N hb1
      rw[q2]at hob;obtain⟨cs,g1,g2,g3,g4⟩:=hob;refine⟨cs,g1,g2,g3,fun e o he ho=>?_⟩;obtain⟨u,k1,k2⟩:=g4 e o he ho;rw[q3 e o he ho]at k2
      exact⟨u,k1,k2⟩)
    refine⟨_,bn β h0.length (b,N),R',_,_,rfl,⟨rfl,rfl⟩,?_,c1,c2,fun i hi=>eE _ (by omega)⟩;refine⟨A,cp,rfl,hle,hmx,.inr ⟨b,N,?_,hb2,hb3⟩⟩;rw[eL];exact gI _ _ _
  cases e with
  |normal=>exact key .normal (by intro id h;cases h) hq
  |ret=>exact key .ret (by intro id h;cases h) hq
  |exit id=>
   obtain⟨β',R',st',q1,_⟩:=hq;exact absurd rfl (q1.1 id)
  |_=>exact hq.elim
 ·refine⟨rfl,?_,?_⟩
  ·have hl:args.length=vs.size:=by simpa using ha.length
   show dJ _ (args++iI (fn.ntmps-args.length) (.t [])) _
   rw[Array.toList_append,Array.toList_replicate,hl];exact(dJ.pureV_ (pE hp) ha).append (xB _)
  ·exact⟨(fun i x hi=>by cases hi),(fun i j b o o' hi=>by cases hi),(fun i b o hi=>by cases hi),(fun i b o hi=>by cases hi),hh.rlt,(fun i b o hi=>by cases hi),hh.gl,fun b ad hb=>by cases hb⟩
theorem eG.blk{rs:List AR}{v:V}{id:Nat}{a:dQ}{l r:List dQ}{st:St}{Q:X→St→Prop}(hl:l=.block id a::r)(h:eG P G rs v (eZ a) st fun e st'=>match e with
   |.normal=>eG P G rs v r st' Q
   |.exit j=>if j=id then eG P G rs v r st' Q else Q (.exit j) st'
   |.ret=>True):eG P G rs v l st Q:=by
 subst hl;refine tZ.block (tZ.mono (eG.code h) fun e st' he q=>?_);cases e with
 |normal=>exact q
 |exit j=>exact q
 |ret=>exact absurd rfl he
theorem jF{n:Nat}{l:List (Nat×V)}{h h':List AO}(hh:dJ RV h h'):cW G (bY n l h) (bY n l h'):=VV ⟨rfl,hh⟩
theorem eG.loop'{rs:List AR}{v:V}{id:Nat}{b:dQ}{l r:List dQ}{st:St}{Q:X→St→Prop}(hl:l=.block id (.loop b)::r){σ:Type}(C:σ→St)(I:σ→Prop)(μ:σ→Nat)(s0:σ)(hI:I s0)(hw:cW G st (C s0))
  (step:∀s,I s→∀Q':X→St→Prop,(∀s' st',I s'→μ s'<μ s→cW G st' (C s')→Q' .normal st')→(∀st',eG P G rs v r st' Q→Q' (.exit id) st')→(∀j st',j≠id→Q (.exit j) st'→Q' (.exit j) st')→eG P G rs v (eZ b) (C s) Q'):eG P G rs v l st Q:=
 eG.loop hl C I μ s0 hI hw fun s hs=>step s hs _ (fun s' _ h1 h2 h3=>⟨s',h1,h2,h3⟩) (fun _ h=>by simpa using h) (fun j _ hj h=>by simpa[hj] using h)
theorem eG.blk'{rs:List AR}{v:V}{id:Nat}{a:dQ}{l r:List dQ}{st:St}{Q:X→St→Prop}(hl:l=.block id a::r)
  (h:∀Q':X→St→Prop,(∀st',eG P G rs v r st' Q→Q' .normal st')→(∀st',eG P G rs v r st' Q→Q' (.exit id) st')→(∀j st',j≠id→Q (.exit j) st'→Q' (.exit j) st')→eG P G rs v (eZ a) st Q'):eG P G rs v l st Q:=
 eG.blk hl (h _ (fun _ h=>h) (fun _ h=>by simpa using h) (fun j _ hj h=>by simpa[hj] using h))
theorem pP{α:Type}[Inhabited α]{enc:α→Nat→PV}{L:List α}{sz n:Nat}{ρ:List Nat}{g:Nat→Nat→C}{x:α}(hn:L.length=n)(h:∀o,o<sz→g 0 o=.p (enc x o)){e o:Nat}(he:e<n+1)(ho:o<sz) :
  bQ ρ (fI n (aO enc L) g e o)=aO enc (L++[x]) e o:=by
 unfold fI;subst hn
 by_cases h1:e<L.length
 ·rw[if_pos h1];show aO enc L e o=_;unfold aO aE;simp[cG h1]
 ·obtain rfl:e=L.length:=by omega
  rw[if_neg h1,Nat.sub_self,h o ho];show C.p _=_;unfold aO aE;simp
end
def idC:C→Option Nat
 |.ptr id _=>some id
 |.rp id _ _ _=>some id
 |.sl id _ _ _=>some id
 |.mp id=>some id
 |_=>none
def aK8(o:Option Nat)(l:List Nat):List Nat:=match o with
 |some id=>match pF id l with
  |true=>l
  |false=>fB id l
 |none=>l
def aJM:List C→List Nat→List Nat
 |[],l=>l
 |c::r,l=>aJM r (aK8 (idC c) l)
def aJL:List Bool→List V→List Nat→List Nat
 |true::k,.c x::r,l=>aJL k r (aK8 (idC x) l)
 |true::k,.a cs::r,l=>aJL k r (aJM cs l)
 |_::k,_::r,l=>aJL k r l
 |_,_,l=>l
def aAO(h:List AO):List Nat→List Nat→List Nat
 |[],l=>l
 |id::r,l=>match bC .gone h id with
  |.cells _ vs=>aAO h r (aJM vs l)
  |.foc _ _ _ _ vs _=>aAO h r (aJM vs l)
  |.mapl _ _ _ _ (some (_,c))=>aAO h r (aK8 (idC c) l)
  |.pin j _=>aAO h r (aK8 (some j) l)
  |_=>aAO h r l
def aO9(h:List AO)(l:List Nat):List Nat:=aAO h l l
def aut(keep:List Bool)(st:St):List Nat:=aO9 st.h (aO9 st.h (aO9 st.h (aJL keep st.t [])))
def gcS(keep:List Bool)(st:St):St:=match qI (aut keep st) with
 |true=>aMU (aut keep st) keep st
 |false=>st
def gW(keep:List Bool)(rs:List AR)(e:X)(st:St):Tr:=match e with
 |.ret=>UX rs .ret st
 |e=>.done e (gcS keep st)
section
variable {P:Program} {G:Nat→Option Obj} {rs:List AR} {v:V}
theorem gB(keep:List Bool)(st:St):cW G st (gcS keep st):=by
 unfold gcS;split
 ·rename_i h;exact gY _ keep h st
 ·exact cW.refl st
theorem BB{keep:List Bool}{e:X}{st:St}{K:X→St→Prop}(h:(gW keep rs e st).holds P G (KF v K)):∃st2,cW G st st2∧RK P G rs v K e st2:=by
 cases e with
 |ret=>exact⟨st,cW.refl st,ED h⟩
 |normal=>exact⟨_,gB keep st,h⟩
 |exit id=>exact⟨_,gB keep st,h⟩
theorem vI{ext:Ext}(hext:bG P G ext){keep:List Bool}:∀ {l:List dQ} {st:St} {K:X→St→Prop},(dF ext l st (gW keep rs)).holds P G (KF v K)→eG P G rs v l st K
 |[],st,K,h=>BB h
 |c::r,st,K,h=>by
  have h1:=kM.ev hext h
  refine tZ.post ?_;refine kM.post (kM.mono h1 fun e st' q=>?_);cases e with
  |normal=>exact⟨st',cW.refl st',st',cW.refl st',vI hext q⟩
  |ret=>
   obtain⟨st2,q1,q2⟩:=BB q;exact⟨st2,q1,q2⟩
  |exit id=>
   obtain⟨st2,q1,q2⟩:=BB q;exact⟨st2,q1,st2,cW.refl st2,q2⟩
theorem eG.evG{ext:Ext}(hext:bG P G ext)(n:Nat){keep:List Bool}{l:List dQ}{st:St}{Q:X→St→Prop}{tree:Tr}(ht:dF ext (dL n l) st (gW keep rs)=tree)
  (h:tree.holds P G (KF v fun e st'=>match e with
   |.normal=>eG P G rs v (bL n l) st' Q
   |e=>Q e st')):eG P G rs v l st Q:=by
 rw[←qY n l];subst ht;exact eG.glue (vI hext h)
theorem eG.evH{ext:Ext}(hext:bG P G ext){keep:List Bool}{l:List dQ}{st:St}{Q:X→St→Prop}{tree:Tr}(ht:dF ext l st (gW keep rs)=tree)(h:tree.holds P G (KF v Q)):eG P G rs v l st Q:=by
 subst ht;exact vI hext h
end
section
variable {P:Program} {G:Nat→Option Obj}
end
end Go.AE
