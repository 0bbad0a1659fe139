import Derived.Test.YtfjihbmehhccoaaFB
import Derived.Deep.LoopGhost
import Derived.KernelRfl
set_option linter.unusedVariables false
set_option linter.unusedSimpArgs false
namespace Go.AE
open _root_.Array renaming getElem?_toList→cK,replicate→jB
open _root_.Bool renaming and_eq_true→aO
open _root_.List renaming getElem?_append_left→cD,getElem?_eq_none→bU,getElem?_eq_some_iff→aZ,length_append→aV,mem_cons_of_mem→cM,mem_cons_self→cY,mem_of_getElem?→cI,replicate→hP
open _root_.Nat renaming beq→cA,eq_of_beq_eq_true→aR,le_refl→aW,lt_of_lt_of_le→cH
open _root_.Option renaming bind_eq_bind→aT,bind_eq_some_iff→aK,isSome_iff_exists→eD,map_eq_some_iff→bC,pure_def→bD,some.injEq→aH
open Go.RowKit
inductive AR where
 |tmp (t:Nat)
 |cell (t:Nat) (n:Option Nat)
 |new (t:Nat)
def yP(P:Program):List ResultVar→Option (List AR)
 |[]=>some []
 |.tmp t::r=>(yP P r).map (.tmp t :: ·)
 |.cell t ty::r=>do pure (.cell t (←qX P ty)::(←yP P r))
def TE(h:List AO)(c:C)(k:PV→Tr):Tr:=match c with
 |.p x=>k x
 |.sl id sz off len=>match bF .gone h id with
  |.row _ sz' n f=>mZ (cA sz sz') (.rq (off+len≤n∧∀e o,e<len→o<sz→BA (f (e+off) o)=true) (k (.l sz len fun e o=>mI (f (e+off) o))))
  |_=>.fail
 |_=>.fail
def YX(h:List AO):List C→(List PV→Tr)→Tr
 |[],k=>k []
 |c::r,k=>TE h c fun x=>YX h r fun xs=>k (x::xs)
def YW(h:List AO):V1→(V1→Tr)→Tr
 |.c x,k=>TE h x fun p=>k (.c (.p p))
 |.a cs,k=>YX h cs fun ps=>k (.a (pT ps))
def aEY:V→Option V1
 |.c x=>some (.c x)
 |.a cs=>some (.a cs)
 |.t _=>none
def XM(st:St):AR→(V1→Tr)→Tr
 |.tmp t,k=>match aEY (bF (.c .top) st.t t) with
  |some v=>k v
  |none=>.fail
 |.cell t n,k=>match bF (.c .top) st.t t with
  |.c (.ptr id off)=>match bF .gone st.h id with
   |.cells _ vs=>mZ (Nat.ble (off+oD n) (fF vs)) (match aEY (YN (bF .top vs) off n) with
    |some v=>k v
    |none=>.fail)
   |_=>.fail
  |_=>.fail
 |.new t,k=>match bF (.c .top) st.t t with
  |.c (.sl id sz off len)=>k (.c (.sl id sz off len))
  |.c (.p (.z (.slice none 0 0)))=>k (.c (.p (.z (.slice none 0 0))))
  |_=>.fail
def DI(st:St):List AR→(List V1→Tr)→Tr
 |[],k=>k []
 |r::rs,k=>XM st r fun v=>YW st.h v fun v'=>DI st rs fun vs=>k (v'::vs)
def FZ:List V1→V
 |[v]=>v.up
 |vs=>.t vs
def TI(rs:List AR)(e:X)(st:St):Tr:=match e with
 |.exit _=>.fail
 |_=>DI st rs fun vs=>.done .ret ⟨[FZ vs],[]⟩
section
variable {P:Program} {G:Nat→Option Obj} {β β':Bt} {R R':Nat→Prop} {w w':World} {st:St} {a:Act}
theorem PR.frz{x:PV}{u:Value}(h:PR R w x u):PR (frz β R) w x u:=PR.keep (fun _ hb=>.inl hb) (fun _ _=>rfl) x h
theorem EZ(hh:HS G β R w st.h){c:C}{u:Value}(hc:CR β R w c u){k:PV→Tr}{K:X→St→Prop}(h:(TE st.h c k).holds P G K):∃p,PR (frz β R) w p u∧(k p).holds P G K:=by
 cases c with
 |p x=>exact⟨x,PR.frz hc,h⟩
 |sl id sz off len=>
  simp only[TE]at h;split at h
  ·rename_i ty sz' n f hid
   obtain⟨c1,⟨h1,h2⟩,h3⟩:=bX h;obtain rfl:=aR c1;refine⟨_,?_,h3⟩;obtain⟨A,c,rfl,g1,g2,g3⟩:=hc;refine⟨A,c,rfl,g1,g2,fun hn=>?_⟩
   rcases g3 with⟨_,g4,_⟩|⟨b,o0,g4,rfl,g7⟩
   ·omega
   ·have hob:=hh.obj id b o0 g4
    rw[hid]at hob;obtain⟨cs,g8,g80,g9,g10⟩:=hob;refine⟨_,rfl,.inr (.inl ⟨id,o0,g4⟩),fun e q he hq=>?_⟩;obtain⟨u,h5,h6⟩:=g10 (e+off) q (by omega) hq;refine⟨u,?_,?_⟩
    ·rw[add_mid,cell_of_row w b _ cs ty (0,0) g8,←h5]
     congr 1;rw[Nat.add_mul];omega
    ·have:=h2 e q he hq
     cases hf:f (e+off) q with
     |p x=>
      rw[hf]at h6
      show PR (frz β R) w (mI (f (e+off) q)) u
      rw[hf];exact PR.frz h6
     |own ty2 sz2 n2 f2=>
      rw[hf]at h6
      show PR (frz β R) w (mI (f (e+off) q)) u
      rw[hf];obtain⟨A,c,k1,k2,k3,k4⟩:=h6;refine⟨A,c,k1,k2,k3,fun hn=>?_⟩
      rcases k4 with⟨_,k5,_⟩|⟨b2,cs2,k5,k6,k7,k8,k9⟩
      ·omega
      ·refine⟨_,k5,.inr (.inr ⟨_,k6⟩),fun e2 o2 he2 ho2=>?_⟩
       obtain⟨u2,r1,r2⟩:=k9 e2 o2 he2 ho2;exact⟨u2,by rw[add_mid,cell_of_row w b2 _ cs2 ty2 (0,0) k7,Nat.zero_add];exact r1,PR.frz r2⟩
     |_=>rw[hf]at this;cases this
  ·exact h.elim
 |_=>exact h.elim
theorem EY(hh:HS G β R w st.h):∀ {cs:List C} {us:List Value} (_:dD (CR β R w) cs us) {k:List PV→Tr} {K:X→St→Prop} (_:(YX st.h cs k).holds P G K),∃ps,dD (PR (frz β R) w) ps us∧(k ps).holds P G K
 |[],[],_,k,K,h=>⟨[],trivial,h⟩
 |[],_::_,hc,_,_,_=>hc.elim
 |_::_,[],hc,_,_,_=>hc.elim
 |c::cs,u::us,hc,k,K,h=>by
  simp only[YX]at h;obtain⟨p,h1,h2⟩:=EZ hh hc.1 h;obtain⟨ps,h3,h4⟩:=EY hh hc.2 h2;exact⟨p::ps,⟨h1,h3⟩,h4⟩
theorem MX:∀ {ps:List PV} {us:List Value},dD (PR R w) ps us→dD (CR β R w) (pT ps) us
 |[],[],_=>trivial
 |[],_::_,h=>h.elim
 |_::_,[],h=>h.elim
 |_::_,_::_,h=>⟨h.1,MX h.2⟩
theorem HP:∀ps:List PV,DQ (pT ps)=true
 |[]=>rfl
 |_::r=>by simp[pT,DQ,isP,HP r]
theorem EX(hh:HS G β R w st.h){v:V1}{u:Value}(hc:AB β R w v u){k:V1→Tr}{K:X→St→Prop}(h:(YW st.h v k).holds P G K):∃v',AB β' (frz β R) w v' u∧RA v'=true∧(k v').holds P G K:=by
 cases v with
 |c x=>
  obtain⟨p,h1,h2⟩:=EZ hh hc h;exact⟨.c (.p p),h1,rfl,h2⟩
 |a cs=>
  obtain⟨us,rfl,h0⟩:=hc;obtain⟨ps,h1,h2⟩:=EY hh h0 h;exact⟨.a (pT ps),⟨us,rfl,MX h1⟩,HP ps,h2⟩
def JM(tmps:Array Value):ResultVar→Sem Value
 |.tmp t=>pure (tmps.getD t undef)
 |.cell a t=>do loadVar t (←asAddr (tmps.getD a undef))
theorem CV{v:V}{v1:V1}{u:Value}(h:VR β R w v u)(hv:aEY v=some v1):AB β R w v1 u:=by
 cases v<;>simp only[aEY,aH]at hv
 ·subst hv;exact h
 ·subst hv;exact h
 ·cases hv
theorem wB(hs:hZ G β R st a w):∀(frs:List ResultVar) (rs:List AR) (_:yP P frs=some rs) {k:List V1→Tr} {K:X→St→Prop} (_:(DI st rs k).holds P G K),
  ∃us vs,(frs.mapM (JM a.tmps)).run P w=.ok us w∧dD (AB β' (frz β R) w) vs us∧rT vs=true∧(k vs).holds P G K
 |[],rs,hr,k,K,h=>by
  simp only[yP,aH]at hr;subst hr;exact⟨[],[],by simp,trivial,rfl,h⟩
 |.tmp t::frs,rs,hr,k,K,h=>by
  simp only[yP,bC]at hr;obtain⟨rs',hr,rfl⟩:=hr;simp only[DI,XM]at h;split at h
  ·rename_i v hv
   have hval:=CV (bR (x:=.tmp t) hs rfl) hv
   obtain⟨v',h1,h2,h3⟩:=EX (β':=β') hs.hs hval h;obtain⟨us,vs,h4,h5,h6,h7⟩:=wB hs frs rs' hr h3;refine⟨_::us,v'::vs,?_,⟨h1,h5⟩,by simp[rT,h2,h6],h7⟩;simp[List.mapM_cons,JM,h4,Act.eval]
  ·exact h.elim
 |.cell t ty::frs,rs,hr,k,K,h=>by
  simp only[yP,aT,aK,bD,aH]at hr;obtain⟨n,hn,rs',hr,rfl⟩:=hr;simp only[DI,XM]at h;split at h
  ·rename_i id off hp
   split at h
   ·rename_i ty' vs hid
    obtain⟨c1,c2⟩:=bX h;split at c2
    ·rename_i v hv
     have hptr:=bR (x:=.tmp t) hs rfl
     have e:st.ev (.t t)=.c (.ptr id off):=hp
     rw[e]at hptr;obtain⟨b,o0,g1,g2⟩:=hptr
     have hob:=hs.hs.obj id b o0 g1
     rw[hid]at hob;obtain⟨cs,g3,g4⟩:=hob
     have hlen:off+oD n≤vs.length:=by rw[eH]at c1;simpa using c1
     have hsz:vs.length=cs.size:=by simpa using g4.length
     have hl:(cs.extract off (off+oD n)).toList.length=oD n:=by simp;omega
     have g2:a.tmps.getD t undef=.pointer (some ⟨b,off,none⟩):=g2
     have hrun:=rR (P:=P) (w:=w) hn hl (World.rangeAt_of_block g3 off (oD n))
     have hrun:(loadVar ty ⟨b,off,none⟩).run P w=.ok (YM (cs.extract off (off+oD n)).toList n) w:=by
      simpa[Instr.loadAt,Instr.sureAddr] using hrun
     have hval:VR β R w (YN (bF .top vs) off n) (YM (cs.extract off (off+oD n)).toList n):=nW hl (fun j u hu=>by
      have hj:j<oD n:=by have:=(aZ.1 hu).1;omega
      refine g4.nth_get ?_
      rw[←hu,cK,cK,Array.getElem?_extract,if_pos (by omega)])
     obtain⟨v',h1,h2,h3⟩:=EX (β':=β') hs.hs (CV hval hv) c2;obtain⟨us,vs',h4,h5,h6,h7⟩:=wB hs frs rs' hr h3;refine⟨_::us,v'::vs',?_,⟨h1,h5⟩,by simp[rT,h2,h6],h7⟩
     have hra:(JM a.tmps (.cell t ty)).run P w=.ok (YM (cs.extract off (off+oD n)).toList n) w:=by
      show (do loadVar ty (←asAddr (a.tmps.getD t undef))).run P w=_
      rw[g2];simp only[asAddr,pure_bind];exact hrun
     rw[List.mapM_cons,Sem.run_bind,hra,Result.andThen_ok,Sem.run_bind,h4];rfl
    ·exact c2.elim
   ·exact h.elim
  ·exact h.elim
def aGE:List Value→Value
 |[u]=>u
 |us=>.tuple us.toArray
theorem rS(fn:Func)(tmps:Array Value){us:List Value}(h:(fn.results.toList.mapM (JM tmps)).run P w=.ok us w):(results fn tmps).run P w=.ok (aGE us) w:=by
 have e:results fn tmps=(do let vs ←fn.results.mapM (JM tmps);pure (if h:vs.size=1 then vs[0] else .tuple vs)):=by
  unfold results;congr 1
 rw[e,Array.mapM_eq_mapM_toList];simp only[Sem.run_bind,Sem.run_map,h,Result.andThen_ok]
 match us with
 |[]=>rfl
 |[u]=>rfl
 |u::v::r=>simp[aGE]
theorem RG:∀ {vs:List V1} {us:List Value} (_:dD (AB β R w) vs us),VR β R w (FZ vs) (aGE us)
 |[],[],_=>⟨#[],rfl,trivial⟩
 |[_],[_],h=>AB.up h.1
 |_::_::_,_::_::_,h=>⟨_,rfl,h⟩
 |[],_::_,h=>h.elim
 |_::_,[],h=>h.elim
 |[_],_::_::_,h=>h.2.elim
 |_::_::_,[_],h=>h.2.elim
theorem HI:∀ {vs:List V1},rT vs=true→tR (FZ vs)=true
 |[],_=>rfl
 |[v],h=>by
  simp only[rT,Bool.and_true]at h;cases v<;>exact h
 |_::_::_,h=>h
theorem vZ(n:Nat):dD (VR β R w) (hP n (.t [])) (hP n undef):=by
 induction n with
 |zero=>exact trivial
 |succ n ih=>rw[List.replicate_succ,List.replicate_succ];exact⟨qG,ih⟩
end
def jE(id:Nat):List Nat→Nat→Option Nat
 |[],_=>none
 |j::r,n=>match cA j id with
  |true=>some n
  |false=>jE id r (n+1)
def XH(ρ:List Nat):B→Option B
 |.p x=>some (.p x)
 |.ptr id off=>(jE id ρ 0).map fun j=>.ptr j off
def AL(ρ:List Nat):List B→Option (List B)
 |[]=>some []
 |b::r=>match XH ρ b,AL ρ r with
  |some b',some r'=>some (b'::r')
  |_,_=>none
def bP(ρ:List Nat):C→C
 |.p x=>.p x
 |.ptr id off=>match jE id ρ 0 with
  |some j=>.ptr j off
  |none=>.top
 |.rp id sz e o=>match jE id ρ 0 with
  |some j=>.rp j sz e o
  |none=>.top
 |.lp sz n f e o=>.lp sz n f e o
 |.sl id sz off len=>match jE id ρ 0 with
  |some j=>.sl j sz off len
  |none=>.top
 |.mp id=>match jE id ρ 0 with
  |some j=>.mp j
  |none=>.top
 |.fn f fs cs=>match AL ρ fs,AL ρ cs with
  |some fs',some cs'=>.fn f fs' cs'
  |_,_=>.top
 |.own ty sz n f=>.own ty sz n f
 |.top=>.top
def vP(ρ:List Nat):List C→List C
 |[]=>[]
 |c::r=>bP ρ c::vP ρ r
def aOJ(ρ:List Nat):V→V
 |.c x=>.c (bP ρ x)
 |.a cs=>.a (vP ρ cs)
 |.t _=>.c .top
def aL5(ρ:List Nat):Option (Value×C)→Option (Value×C)
 |some (k,c)=>some (k,bP ρ c)
 |none=>none
def QO(ρ:List Nat):AO→AO
 |.cells ty vs=>.cells ty (vP ρ vs)
 |.row ty sz n f=>.row ty sz n fun e o=>bP ρ (f e o)
 |.foc ty sz n e0 vs f=>.foc ty sz n e0 (vP ρ vs) fun e o=>bP ρ (f e o)
 |.mapb ok g=>.mapb ok g
 |.mapl ok ty sz g fo=>.mapl ok ty sz g (aL5 ρ fo)
 |.pin j b0=>match jE j ρ 0 with
  |some j'=>.pin j' b0
  |none=>.gone
 |.gone=>.gone
def xL(ρ:List Nat):List Bool→List V→List V
 |_,[]=>[]
 |[],_::r=>.c .top::xL ρ [] r
 |true::k,v::r=>aOJ ρ v::xL ρ k r
 |false::k,_::r=>.c .top::xL ρ k r
def lV(ρ:List Nat)(h:List AO):List Nat→List AO
 |[]=>[]
 |id::r=>QO ρ (bF .gone h id)::lV ρ h r
def aL8(ρ:List Nat)(keep:List Bool)(st:St):St:=⟨xL ρ keep st.t,lV ρ st.h ρ⟩
def oL(id:Nat):List Nat→Bool
 |[]=>false
 |j::r=>cA j id||oL id r
def pS:List Nat→Bool
 |[]=>true
 |j::r => !oL j r&&pS r
section
variable {P:Program} {G:Nat→Option Obj} {β β':Bt} {R R':Nat→Prop} {w w':World} {st:St} {a:Act}
def cQ(G:Nat→Option Obj)(st st2:St):Prop:=∀β R a w,hZ G β R st a w→∃β2 R2,hZ G β2 R2 st2 a w∧Fr β R w β2 R2 w∧∀b,R b→R2 b
theorem cQ.trans{s1 s2 s3:St}(h:cQ G s1 s2)(k:cQ G s2 s3):cQ G s1 s3:=by
 intro β R a w hs;obtain⟨β2,R2,h1,h2,h3⟩:=h β R a w hs;obtain⟨β3,R3,h4,h5,h6⟩:=k β2 R2 a w h1;exact⟨β3,R3,h4,h2.trans h5 h3,fun b hb=>h6 b (h3 b hb)⟩
def bρ(ρ:List Nat)(β:Bt):Bt:=⟨fun j=>(ρ[j]?).bind β.f,β.q⟩
theorem sG{id:Nat}:∀ {ρ:List Nat} {n j:Nat},jE id ρ n=some j→n≤j∧ρ[j-n]?=some id
 |[],_,_,h=>by cases h
 |k::r,n,j,h=>by
  simp only[jE]at h;cases hb:cA k id with
  |true=>
   rw[hb]at h;injection h with h;subst h;exact⟨aW _,by simp[aR hb]⟩
  |false=>
   rw[hb]at h;obtain⟨h1,h2⟩:=sG h;refine⟨by omega,?_⟩;rw[show j-n=(j-(n+1))+1 by omega];simpa using h2
theorem IX{ρ:List Nat}{id j:Nat}(h:jE id ρ 0=some j):bρ ρ β j=β id:=by
 have:=(sG h).2
 simp only[Nat.sub_zero]at this;simp[bρ,this]
theorem QP{ρ:List Nat}{x y:B}{u:Value}(hy:XH ρ x=some y)(h:BR β R w x u):BR (bρ ρ β) R w y u:=by
 cases x with
 |p x=>simp only[XH,aH]at hy;subst hy;exact h
 |ptr id off=>
  simp only[XH,bC]at hy;obtain⟨j,hj,rfl⟩:=hy;obtain⟨b,o,h1,h2⟩:=h;exact⟨b,o,(IX hj).trans h1,h2⟩
theorem tL{ρ:List Nat}:∀ {xs ys:List B} {us:List Value} (_:AL ρ xs=some ys) (_:dD (BR β R w) xs us),dD (BR (bρ ρ β) R w) ys us
 |[],ys,us,hy,h=>by
  simp only[AL,aH]at hy;subst hy;cases us<;>exact h
 |x::xs,ys,us,hy,h=>by
  simp only[AL]at hy;cases h1:XH ρ x with
  |none=>simp[h1]at hy
  |some y=>
   cases h2:AL ρ xs with
   |none=>simp[h1,h2]at hy
   |some ys'=>
    simp only[h1,h2,aH]at hy;subst hy;cases us with
    |nil=>exact h.elim
    |cons u us=>exact⟨QP h1 h.1,tL h2 h.2⟩
theorem mT{ρ:List Nat}{x:C}{u:Value}(h:CR β R w x u):CR (bρ ρ β) R w (bP ρ x) u:=by
 cases x with
 |p x=>exact h
 |ptr id off=>
  simp only[bP];split
  ·rename_i j hj;obtain⟨b,o,h1,h2⟩:=h;exact⟨b,o,(IX hj).trans h1,h2⟩
  ·exact trivial
 |rp id sz e o=>
  simp only[bP];split
  ·rename_i j hj;obtain⟨b,o,h1,h2⟩:=h;exact⟨b,o,(IX hj).trans h1,h2⟩
  ·exact trivial
 |lp sz n f e o=>exact h
 |sl id sz off len=>
  simp only[bP];split
  ·rename_i j hj
   obtain⟨A,c,h1,h2,h3,h4⟩:=h;refine⟨A,c,h1,h2,h3,?_⟩
   rcases h4 with h4|⟨b,N,h5,h6,h7⟩
   ·exact .inl h4
   ·exact .inr ⟨b,N,(IX hj).trans h5,h6,h7⟩
  ·exact trivial
 |mp id=>
  simp only[bP];split
  ·rename_i j hj;obtain⟨b,N,h1,h2⟩:=h;exact⟨b,N,(IX hj).trans h1,h2⟩
  ·exact trivial
 |fn f fs cs=>
  simp only[bP];obtain⟨us,vs,h1,h2,h3⟩:=h;split
  ·rename_i fs' cs' hf hc;exact⟨us,vs,h1,tL hf h2,tL hc h3⟩
  ·exact trivial
 |own=>exact trivial
 |top=>exact trivial
theorem qI{ρ:List Nat}{ad:Nat×Nat}{x:C}{u:Value}(h:nZ β R w ad x u):nZ (bρ ρ β) R w ad (bP ρ x) u:=by
 cases hx:x.isOwn with
 |true=>cases x<;>first|exact h|cases hx
 |false=>
  refine nZ.of ?_ (mT h.cr)
  cases x<;>first|rfl|(simp only[bP];split<;>rfl)|cases hx
theorem GW{ρ:List Nat}:∀(vs:List C) (k:Nat),bF .top (vP ρ vs) k=bP ρ (bF .top vs k)
 |[],_=>rfl
 |_::_,0=>rfl
 |_::r,k+1=>GW r k
theorem xJ{ρ:List Nat}:∀vs:List C,(vP ρ vs).length=vs.length
 |[]=>rfl
 |_::r=>by simp[vP,xJ r]
theorem tK{ρ:List Nat}:∀ {xs:List C} {us:List Value} (_:dD (CR β R w) xs us),dD (CR (bρ ρ β) R w) (vP ρ xs) us
 |[],[],_=>trivial
 |[],_::_,h=>h.elim
 |_::_,[],h=>h.elim
 |_::_,_::_,h=>⟨mT h.1,tK h.2⟩
theorem QN{ρ:List Nat}{x:V}{u:Value}(h:VR β R w x u):VR (bρ ρ β) R w (aOJ ρ x) u:=by
 cases x with
 |c x=>exact mT h
 |a cs=>obtain⟨us,h1,h2⟩:=h;exact⟨us,h1,tK h2⟩
 |t vs=>exact trivial
theorem qK{ρ:List Nat}:∀ {keep:List Bool} {xs:List V} {us:List Value} (_:dD (VR β R w) xs us),dD (VR (bρ ρ β) R w) (xL ρ keep xs) us
 |_,[],[],_=>by simp only[xL];exact trivial
 |_,[],_::_,h=>h.elim
 |_,_::_,[],h=>h.elim
 |[],_::_,_::_,h=>by simp only[xL];exact⟨trivial,qK h.2⟩
 |true::k,_::_,_::_,h=>by simp only[xL];exact⟨QN h.1,qK h.2⟩
 |false::k,_::_,_::_,h=>by simp only[xL];exact⟨trivial,qK h.2⟩
theorem DL{ρ:List Nat}{x:AO}{b o:Nat}(h:OR β R w x b o):OR (bρ ρ β) R w (QO ρ x) b o:=by
 cases x with
 |cells ty vs=>obtain⟨cs,h2,h3⟩:=h;exact⟨cs,h2,tK h3⟩
 |row ty sz n f=>
  obtain⟨cs,h1,h0,h2,h3⟩:=h;refine⟨cs,h1,h0,h2,fun e k he hk=>?_⟩;obtain⟨u,h4,h5⟩:=h3 e k he hk;exact⟨u,h4,qI h5⟩
 |foc ty sz n e0 vs f=>
  obtain⟨cs,h1,h0,h2,h21,h22,h3⟩:=h;refine⟨cs,h1,h0,h2,h21,by rw[xJ];exact h22,fun e k he hk=>?_⟩;obtain⟨u,h4,h5,h6⟩:=h3 e k he hk;exact⟨u,h4,fun h=>by rw[GW];exact mT (h5 h),fun h=>qI (h6 h)⟩
 |mapb ok g=>exact h
 |mapl ok ty sz g fo=>
  obtain⟨es,cl,h2,h3,h4,h5⟩:=h;cases fo with
  |none=>
   refine⟨es,cl,h2,h3,fun i e he=>?_,fun k0 hk0=>?_⟩
   ·obtain⟨q1,q2,q3⟩:=h4 i e he
    exact⟨q1,fun k0 c h1=>(by cases h1),fun _=>qI (q3 (fun _ _ h=>by cases h))⟩
   ·obtain⟨q1,q2⟩:=h5 k0 hk0
    exact⟨fun k1 c h1=>(by cases h1),fun _=>q2 (fun _ _ h=>by cases h)⟩
  |some kc=>
   obtain⟨k9,c9⟩:=kc;refine⟨es,cl,h2,h3,fun i e he=>?_,fun k0 hk0=>?_⟩
   ·obtain⟨q1,q2,q3⟩:=h4 i e he
    refine⟨q1,fun k0 c h1 h2=>?_,fun h1=>qI (q3 fun k0 c h2=>?_)⟩
    ·injection h1 with h1;injection h1 with h1 h3;subst h1;subst h3
     exact mT (q2 _ _ rfl h2)
    ·injection h2 with h2;injection h2 with h2 h3;subst h2;subst h3
     exact h1 _ _ rfl
   ·obtain⟨q1,q2⟩:=h5 k0 hk0
    refine⟨fun k1 c h1 h2=>?_,fun h1=>q2 fun k1 c h2=>?_⟩
    ·injection h1 with h1;injection h1 with h1 h3;subst h1;subst h3
     exact mT (q1 _ _ rfl h2)
    ·injection h2 with h2;injection h2 with h2 h3;subst h2;subst h3
     exact h1 _ _ rfl
 |pin j b0=>
  obtain⟨h1,o1,h2⟩:=h
  show OR _ _ _ (match jE j ρ 0 with
   |some j'=>AO.pin j' b0
   |none=>.gone) _ _
  cases hi:jE j ρ 0 with
  |none=>exact trivial
  |some j'=>exact⟨h1,o1,(IX hi).trans h2⟩
 |gone=>exact trivial
theorem uM{ρ:List Nat}{x:AO}:(QO ρ x).live=x.live:=by
 cases x with
 |pin j b0=>
  show (match jE j ρ 0 with
   |some j'=>AO.pin j' b0
   |none=>.gone).live=false
  cases jE j ρ 0<;>rfl
 |_=>rfl
theorem nS{ρ:List Nat}{h:List AO}:∀ {l:List Nat} {j id:Nat},l[j]?=some id→bF .gone (lV ρ h l) j=QO ρ (bF .gone h id)
 |[],_,_,hj=>by simp at hj
 |k::l,0,id,hj=>by simp at hj;subst hj;rfl
 |k::l,j+1,id,hj=>by simpa[lV,bF] using nS (l:=l) (j:=j) (by simpa using hj)
theorem rU{ρ:List Nat}{h:List AO}:∀l:List Nat,(lV ρ h l).length=l.length
 |[]=>rfl
 |_::l=>by simp[lV,rU l]
theorem rD{id:Nat}:∀ {l:List Nat},oL id l=true↔id∈l
 |[]=>by simp[oL]
 |j::r=>by
  simp only[oL,Bool.or_eq_true,List.mem_cons,rD (l:=r)];constructor
  ·rintro (h|h)
   ·exact .inl (aR h).symm
   ·exact .inr h
  ·rintro (h|h)
   ·exact .inl (by rw[h];exact Nat.beq_refl j)
   ·exact .inr h
theorem zH:∀ {l:List Nat},pS l=true→∀ {i j x:Nat},l[i]?=some x→l[j]?=some x→i=j
 |[],_,_,_,_,h,_=>by simp at h
 |k::l,hd,i,j,x,hi,hj=>by
  simp only[pS,aO,Bool.not_eq_true']at hd
  have hk:k ∉ l:=fun h=>by rw[rD.2 h]at hd;cases hd.1
  cases i with
  |zero=>
   cases j with
   |zero=>rfl
   |succ j=>
    simp at hi hj;subst hi;exact absurd (cI hj) hk
  |succ i=>
   cases j with
   |zero=>
    simp at hi hj;subst hj;exact absurd (cI hi) hk
   |succ j=>simp at hi hj;exact congrArg (· + 1) (zH hd.2 hi hj)
theorem gU(ρ:List Nat)(keep:List Bool)(hn:pS ρ=true)(st:St):cQ G st (aL8 ρ keep st):=by
 intro β R a w hs
 have key:∀ {j:Nat} {x:Nat×Nat},bρ ρ β j=some x→∃id,ρ[j]?=some id∧β id=some x:=by
  intro j x hj;simp only[bρ,aK]at hj;exact hj
 refine⟨bρ ρ β,R,⟨hs.df,qK hs.tm,⟨?_,?_,?_,?_,hs.hs.rlt,?_,hs.hs.gl,?_⟩⟩,?_,fun _ hb=>hb⟩
 ·intro j x hj
  obtain⟨id,h1,_⟩:=key hj
  show j<(lV ρ st.h ρ).length
  rw[rU];exact(aZ.1 h1).1
 ·intro i j b o o' hi hj li lj
  obtain⟨id,h1,h2⟩:=key hi;obtain⟨jd,h3,h4⟩:=key hj
  have li:(bF .gone (lV ρ st.h ρ) i).live=true:=li
  have lj:(bF .gone (lV ρ st.h ρ) j).live=true:=lj
  rw[nS h1,uM]at li;rw[nS h3,uM]at lj
  have:=hs.hs.inj id jd b o o' h2 h4 li lj
  subst this;exact zH hn h1 h3
 ·intro i b o hi li
  obtain⟨id,h1,h2⟩:=key hi
  have li:(bF .gone (lV ρ st.h ρ) i).live=true:=li
  rw[nS h1,uM]at li;exact hs.hs.sep id b o h2 li
 ·intro i b o hi
  obtain⟨id,h1,h2⟩:=key hi;exact hs.hs.lt id b o h2
 ·intro i b o hi
  obtain⟨id,h1,h2⟩:=key hi
  show OR _ _ _ (bF .gone (lV ρ st.h ρ) i) b o
  rw[nS h1];exact DL (hs.hs.obj id b o h2)
 ·intro b ad hb
  obtain⟨h1,h2,h3⟩:=hs.hs.ql b ad hb;refine⟨h1,h2,fun i o hi=>?_⟩;obtain⟨id,h4,h5⟩:=key hi
  show (bF .gone (lV ρ st.h ρ) i).live=false
  rw[nS h4,uM];exact h3 id o h5
 ·refine⟨rfl,rfl,rfl,aW _,fun _ _=>rfl,fun _ _ _=>rfl,?_,fun _ hb=>.inl hb⟩
  rintro b (⟨i,o,hi⟩|hi)
  ·obtain⟨id,_,h2⟩:=key hi
   exact .inl (.inl ⟨id,o,h2⟩)
  ·exact .inl (.inr hi)
def QF:AO→AO→Prop
 |.row ty sz n f,.row ty' sz' n' f'=>ty=ty'∧sz=sz'∧n=n'∧∀e o,e<n→o<sz→f e o=f' e o
 |.foc ty sz n e0 vs f,.foc ty' sz' n' e0' vs' f'=>ty=ty'∧sz=sz'∧n=n'∧e0=e0'∧vs=vs'∧∀e o,e<n→e≠e0→o<sz→f e o=f' e o
 |x,y=>x=y
def aT2(s s':St):Prop:=s.t=s'.t∧dD QF s.h s'.h
theorem QF.sound{x y:AO}(h:QF x y){b o:Nat}(hx:OR β R w x b o):OR β R w y b o:=by
 cases x with
 |row ty sz n f=>
  cases y with
  |row ty' sz' n' f'=>
   obtain⟨rfl,rfl,rfl,h4⟩:=h;obtain⟨cs,h1,h0,h2,h3⟩:=hx;refine⟨cs,h1,h0,h2,fun e k he hk=>?_⟩;rw[←h4 e k he hk];exact h3 e k he hk
  |_=>cases h
 |cells ty vs=>cases y<;>first|(have h:AO.cells ty vs=_:=h;rw[←h];exact hx)|cases h
 |foc ty sz n e0 vs f=>
  cases y with
  |foc ty' sz' n' e0' vs' f'=>
   obtain⟨rfl,rfl,rfl,rfl,rfl,h4⟩:=h;obtain⟨cs,h1,h0,h2,h21,h22,h3⟩:=hx;refine⟨cs,h1,h0,h2,h21,h22,fun e k he hk=>?_⟩;obtain⟨u,h5,h6,h7⟩:=h3 e k he hk;exact⟨u,h5,h6,fun hne=>by rw[←h4 e k he hne hk];exact h7 hne⟩
  |_=>cases h
 |mapb ok g=>cases y<;>first|(have h:AO.mapb ok g=_:=h;rw[←h];exact hx)|cases h
 |mapl ok ty sz g fo=>cases y<;>first|(have h:AO.mapl ok ty sz g fo=_:=h;rw[←h];exact hx)|cases h
 |pin j b0=>cases y<;>first|(have h:AO.pin j b0=_:=h;rw[←h];exact hx)|cases h
 |gone=>cases y<;>first|exact hx|cases h
theorem QF.live_{x y:AO}(h:QF x y):x.live=y.live:=by cases x<;>cases y<;>first|rfl|cases h
theorem QF.nth_:∀ {hs hs':List AO} (_:dD QF hs hs') (i:Nat),QF (bF .gone hs i) (bF .gone hs' i)
 |[],[],_,_=>rfl
 |[],_::_,h,_=>h.elim
 |_::_,[],h,_=>h.elim
 |_::_,_::_,h,0=>h.1
 |_::_,_::_,h,i+1=>QF.nth_ h.2 i
theorem UE{s s':St}(h:aT2 s s'):cQ G s s':=by
 intro β R a w hs;obtain⟨h1,h2⟩:=h;refine⟨β,R,⟨hs.df,h1▸hs.tm,⟨?_,?_,?_,hs.hs.lt,hs.hs.rlt,?_,hs.hs.gl,fun b ad hb=>⟨(hs.hs.ql b ad hb).1,(hs.hs.ql b ad hb).2.1,fun i o hi=>by rw[←(QF.nth_ h2 i).live_];exact(hs.hs.ql b ad hb).2.2 i o hi⟩⟩⟩,Fr.refl _ _ _,fun _ hb=>hb⟩
 ·intro i x hi;rw[←h2.length];exact hs.hs.dom i x hi
 ·intro i j b o o' hi hj li lj
  rw[←(QF.nth_ h2 i).live_]at li;rw[←(QF.nth_ h2 j).live_]at lj;exact hs.hs.inj i j b o o' hi hj li lj
 ·intro i b o hi li
  rw[←(QF.nth_ h2 i).live_]at li;exact hs.hs.sep i b o hi li
 ·intro i b o hi;exact(QF.nth_ h2 i).sound (hs.hs.obj i b o hi)
end
section
variable {P:Program} {G:Nat→Option Obj}
def jY(P:Program)(G:Nat→Option Obj)(ac:dG)(st:St)(K:X→St→Prop):Prop:=∀c,eG P c=some ac→Ex P G c st K
theorem QX.mono{K K':X→St→Prop}(hk:∀e st,K e st→K' e st){β:Bt}{R:Nat→Prop}{w:World}{e:Exit}{a2:Act}{w2:World}(h:QX G K β R w e a2 w2):QX G K' β R w e a2 w2:=by
 have key:∀x,Po G K β R w x a2 w2→Po G K' β R w x a2 w2:=fun x ⟨β',R',st',h1,h2⟩=>⟨β',R',st',hk _ _ h1,h2⟩
 cases e with
 |normal=>exact key _ h
 |exit id=>exact key _ h
 |ret=>exact key _ h
 |_=>exact h
theorem jY.mono{ac:dG}{st:St}{K K':X→St→Prop}(h:jY P G ac st K)(hk:∀e st,K e st→K' e st):jY P G ac st K':=
 fun c hc β R a w hs=>Code.wp_mono (fun _ _ _ q=>QX.mono hk q) (h c hc β R a w hs)
theorem jY.pre{ac:dG}{st st2:St}{K:X→St→Prop}(hw:cQ G st st2)(h:jY P G ac st2 K):jY P G ac st K:=by
 intro c hc β R a w hs;obtain⟨β2,R2,h1,h2,h3⟩:=hw β R a w hs;exact Code.wp_mono (fun _ _ _ q=>QX.trans q h2 h3) (h c hc β2 R2 a w h1)
theorem jY.post{ac:dG}{st:St}{K:X→St→Prop}(h:jY P G ac st fun e st'=>∃st2,cQ G st' st2∧K e st2):jY P G ac st K:=by
 intro c hc β R a w hs;refine Code.wp_mono ?_ (h c hc β R a w hs);intro e a2 w2 hq
 have key:∀x,Po G (fun e st'=>∃st2,cQ G st' st2∧K e st2) β R w x a2 w2→Po G K β R w x a2 w2:=by
  rintro x ⟨β',R',st',⟨st2,hw,hk⟩,h2,h3,h4⟩;obtain⟨β2,R2,q1,q2,q3⟩:=hw β' R' a2 w2 h2;exact⟨β2,R2,st2,hk,q1,h3.trans q2 h4,fun b hb=>q3 b (h4 b hb)⟩
 cases e with
 |normal=>exact key _ hq
 |exit id=>exact key _ hq
 |ret=>exact key _ hq
 |_=>exact hq
theorem jY.ev{ext:Ext}(hext:bH P G ext){ac:dG}{st:St}{k:X→St→Tr}{K:X→St→Prop}(h:(FH ext ac st k).holds P G K):jY P G ac st fun e st'=>(k e st').holds P G K:=
 fun c hc=>ZB hext c ac hc st k K h
def dG.isReg:dG→Bool
 |.reg .. | .regd .. | .regm .. | .regx .. | .raw .. => true
 |_=>false
theorem pC{id:Nat}{ops:Array Oper}{draw:Bool}{ac:dG}(hc:eG P (.region id ops draw)=some ac):ac.isReg=true:=by
 simp only[eG]at hc;split at hc
 case h_2=>injection hc with hc;subst hc;rfl
 rename_i ac' hc1;injection hc with hc;subst hc;cases draw with
 |false=>
  simp only[BS,bC]at hc1;obtain⟨al,_,rfl⟩:=hc1;rfl
 |true=>
  simp only[BS]at hc1;split at hc1
  ·simp only[aT,aK,bD,aH]at hc1
   obtain⟨al,_,hc1⟩:=hc1;split at hc1
   ·injection hc1 with hc1;subst hc1;rfl
   ·split at hc1
    ·injection hc1 with hc1;subst hc1;rfl
    ·cases hc1
  ·cases hc1
theorem jY.core{ac:dG}{st:St}{K:X→St→Prop}(h:∀c,(∀c',c≠.scope c')→eG P c=some ac→Ex P G c st K):jY P G ac st K:=by
 intro c;induction c with
 |scope c ih=>exact fun hc=>yN (ih (by simpa only[eG] using hc))
 |_=>exact fun hc=>h _ (by intro c' e;cases e) hc
theorem jY.seq{a b:dG}{st:St}{K1 K:X→St→Prop}(h:jY P G a st K1)(hn:∀st',K1 .normal st'→jY P G b st' K)(hx:∀e st',e≠.normal→K1 e st'→K e st'):jY P G (.seq a b) st K:=by
 refine jY.core fun c hns hc=>?_
 cases c with
 |scope c'=>exact absurd rfl (hns c')
 |seq x y=>
  simp only[eG,aT,aK,bD,aH]at hc;obtain⟨ax,h1,ay,h2,h3⟩:=hc;injection h3 with e1 e2;subst e1;subst e2;intro β R a w hs
  refine wp_seq (Code.wp_mono ?_ (h x h1 β R a w hs));intro e a' w' hq
  cases e with
  |normal=>
   obtain⟨β',R',st',q1,q2,q3,q4⟩:=hq;exact Code.wp_mono (fun e a2 w2 q=>QX.trans q q3 q4) (hn st' q1 y h2 β' R' a' w' q2)
  |exit id=>obtain⟨β',R',st',q1,q2⟩:=hq;exact⟨β',R',st',hx _ _ (by simp) q1,q2⟩
  |ret=>obtain⟨β',R',st',q1,q2⟩:=hq;exact⟨β',R',st',hx _ _ (by simp) q1,q2⟩
  |_=>exact hq
 |region id ops draw=>cases pC hc
 |cond x c1 c2=>cases h1:cX x<;>cases h2:eG P c1<;>cases h3:eG P c2<;>simp[eG,h1,h2,h3]at hc
 |block id c=>cases h1:eG P c<;>simp[eG,h1]at hc
 |loop c=>cases h1:eG P c<;>simp[eG,h1]at hc
 |_=>simp[eG]at hc
theorem jY.block{id:Nat}{a:dG}{st:St}{K:X→St→Prop}(h:jY P G a st fun e st'=>match e with
  |.exit j=>if j=id then K .normal st' else K (.exit j) st'
  |e=>K e st'):jY P G (.block id a) st K:=by
 refine jY.core fun c hns hc=>?_
 cases c with
 |scope c'=>exact absurd rfl (hns c')
 |block id' x=>
  simp only[eG,bC]at hc;obtain⟨ax,h1,h2⟩:=hc;injection h2 with e1 e2;subst e1;subst e2;intro β R a w hs
  refine wp_block (Code.wp_mono ?_ (h x h1 β R a w hs));intro e a' w' hq
  cases e with
  |exit j=>
   obtain⟨β',R',st',q1,q2,q3,q4⟩:=hq;dsimp only at q1
   show (if j=id' then QX G K β R w .normal a' w' else QX G K β R w (.exit j) a' w')
   by_cases hj:j=id'
   ·rw[if_pos hj]at q1 ⊢;exact⟨β',R',st',q1,q2,q3,q4⟩
   ·rw[if_neg hj]at q1 ⊢;exact⟨β',R',st',q1,q2,q3,q4⟩
  |_=>exact hq
 |region id ops draw=>cases pC hc
 |cond x c1 c2=>cases h1:cX x<;>cases h2:eG P c1<;>cases h3:eG P c2<;>simp[eG,h1,h2,h3]at hc
 |seq c d=>cases h1:eG P c<;>cases h2:eG P d<;>simp[eG,h1,h2]at hc
 |loop c=>cases h1:eG P c<;>simp[eG,h1]at hc
 |_=>simp[eG]at hc
theorem jY.loop{a:dG}{K:X→St→Prop}{σ:Type}(C:σ→St)(I:σ→Prop)(μ:σ→Nat)(s0:σ)(hI:I s0)
  (step:∀s,I s→jY P G a (C s) fun e st'=>match e with
   |.normal=>∃s',I s'∧μ s'<μ s∧cQ G st' (C s')
   |e=>K e st'):jY P G (.loop a) (C s0) K:=by
 refine jY.core fun c hns hc=>?_
 cases c with
 |scope c'=>exact absurd rfl (hns c')
 |loop x=>
  simp only[eG,bC]at hc;obtain⟨ax,h1,h2⟩:=hc;injection h2 with e1;subst e1;intro β0 R0 a0 w0 hs0
  refine wp_loop_ghost (fun n a w=>∃s β R,μ s=n∧I s∧hZ G β R (C s) a w∧Fr β0 R0 w0 β R w∧∀b,R0 b→R b) (μ s0) ⟨s0,β0,R0,rfl,hI,hs0,Fr.refl _ _ _,fun _ hb=>hb⟩ ?_;rintro n a w ⟨s,β,R,rfl,hs,hsim,hfr,hr⟩;refine Code.wp_mono ?_ (step s hs x h1 β R a w hsim);intro e a' w' hq
  cases e with
  |normal=>
   obtain⟨β',R',st',⟨s',q1,q2,q3⟩,q4,q5,q6⟩:=hq;obtain⟨β2,R2,r1,r2,r3⟩:=q3 β' R' a' w' q4;exact⟨μ s',q2,s',β2,R2,rfl,q1,r1,(hfr.trans q5 hr).trans r2 (fun b hb=>q6 b (hr b hb)),fun b hb=>r3 b (q6 b (hr b hb))⟩
  |exit id=>obtain⟨β',R',st',q1,q2,q3,q4⟩:=hq;exact⟨β',R',st',q1,q2,hfr.trans q3 hr,fun b hb=>q4 b (hr b hb)⟩
  |ret=>obtain⟨β',R',st',q1,q2,q3,q4⟩:=hq;exact⟨β',R',st',q1,q2,hfr.trans q3 hr,fun b hb=>q4 b (hr b hb)⟩
  |_=>exact hq.elim
 |region id ops draw=>cases pC hc
 |cond x c1 c2=>cases h1:cX x<;>cases h2:eG P c1<;>cases h3:eG P c2<;>simp[eG,h1,h2,h3]at hc
 |seq c d=>cases h1:eG P c<;>cases h2:eG P d<;>simp[eG,h1,h2]at hc
 |block id c=>cases h1:eG P c<;>simp[eG,h1]at hc
 |_=>simp[eG]at hc
def Fin(P:Program)(G:Nat→Option Obj)(rs:List AR)(K:V→Prop)(e:X)(st:St):Prop:=(TI rs e st).holds P G fun _ st'=>∃v,st'.t=[v]∧(tR v=true→K v)
theorem aDI{f:FuncId}{fn:Func}{ac:dG}{rs:List AR}{n:Nat}(hf:P.funcs[f]?=some fn)(hc:fn.body.bind (eG P)=some ac)(hr:yP P fn.results.toList=some rs)(hn:fn.ntmps=n)
  {args:List V} (hp:∀v∈args,tR v=true) {K:V→Prop} (h:jY P G ac ⟨args++hP (n-args.length) (.t []),[]⟩ (Fin P G rs K)) (hc':List AO) :
  jN P G f args hc' fun v h'=>K v∧tR v=true∧h'=hc':=by
 subst hn;simp only[aK]at hc;obtain⟨c,hb,hc⟩:=hc;intro β R w vs ha hh
 refine calls_of_wp hf hb (Code.wp_mono ?_ (h c hc Bt.nil R { tmps:=vs++jB (fn.ntmps-vs.size) undef,defers:=[] } w ?_))
 ·intro e a' w' hq
  have key:∀x:X,(∀id,x≠.exit id)→Po G (Fin P G rs K) Bt.nil R w x a' w' →
    a'.defers=[]∧∃v,(results fn a'.tmps).run P w'=.ok v w'∧∃u β' R' x h',Ending.returned v=.returned u∧(K x∧tR x=true∧h'=hc')∧VR β' R' w' x u∧HS G β' R' w' h'∧Gr β R w β' R' w'∧∀i,i<hc'.length→β' i=β i:=by
   rintro x hx ⟨β',R',st',q1,q2,q3,q4⟩
   have q1:(DI st' rs fun vs=>.done .ret ⟨[FZ vs],[]⟩).holds P G fun _ st'=>∃v,st'.t=[v]∧(tR v=true→K v):=by
    cases x with
    |exit id=>exact absurd rfl (hx id)
    |normal=>exact q1
    |ret=>exact q1
   obtain⟨us,vs',h1,h2,h3,v,h4,h5⟩:=wB (β':=β) q2 fn.results.toList rs hr q1;simp only[List.cons.injEq,and_true]at h4;subst h4;obtain⟨c1,c2⟩:=zS hh q3 q4 q2.hs;exact⟨q2.df,_,rS fn a'.tmps h1,_,β,frz β' R',FZ vs',hc',rfl,⟨h5 (HI h3),HI h3,rfl⟩,RG h2,c1,c2,fun _ _=>rfl⟩
  cases e with
  |normal=>exact key .normal (by intro id h;cases h) hq
  |ret=>exact key .ret (by intro id h;cases h) hq
  |exit id=>
   obtain⟨β',R',st',q1,_⟩:=hq;exact q1.elim
  |_=>exact hq.elim
 ·refine⟨rfl,?_,?_⟩
  ·have hl:args.length=vs.size:=by simpa using ha.length
   rw[Array.toList_append,Array.toList_replicate,hl];exact(dD.pureV_ hp ha).append (vZ _)
  ·exact⟨(fun i x hi=>by cases hi),(fun i j b o o' hi=>by cases hi),(fun i b o hi=>by cases hi),(fun i b o hi=>by cases hi),hh.rlt,(fun i b o hi=>by cases hi),hh.gl,fun b ad hb=>by cases hb⟩
end
abbrev Mod:=List V→Option (Prop×V)
def jV:List (FuncId×Mod)→Ext
 |[],_,_,_,_=>.fail
 |(g,m)::r,f,args,h,k=>match cA g f with
  |true=>match m args with
   |some (p,v)=>.rq p (k v h)
   |none=>.fail
  |false=>jV r f args h k
section
variable {P:Program} {G:Nat→Option Obj}
theorem jN.mono{f:FuncId}{args:List V}{h:List AO}{K K':V→List AO→Prop}(hh:jN P G f args h K)(hk:∀v h',K v h'→K' v h'):jN P G f args h K':=
 fun β R w vs ha hs=>(hh β R w vs ha hs).mono fun _ _ ⟨u,β',R',x,h',q1,q2,q3⟩=>⟨u,β',R',x,h',q1,hk _ _ q2,q3⟩
def iO(P:Program)(G:Nat→Option Obj)(f:FuncId)(m:Mod):Prop:=∀args p v,m args=some (p,v)→p→∀h,jN P G f args h fun x h'=>x=v∧h'=h
theorem dY:∀ {l:List (FuncId×Mod)},(∀e∈l,iO P G e.1 e.2)→bH P G (jV l)
 |[],_=>⟨fun _ _ _ _ _ h=>h.elim,fun _ _ _ _ _ h=>h.elim⟩
 |(g,m)::r,hl=>by
  have ih:=dY (l:=r) fun e he=>hl e (cM _ he)
  have h0:iO P G g m:=hl (g,m) (cY ..)
  refine⟨?_,?_⟩
  ·intro f args h k K hh
   simp only[jV]at hh;split at hh
   ·rename_i hb
    obtain rfl:=aR hb;split at hh
    ·rename_i p v hm
     exact(h0 args p v hm hh.1 h).mono fun x h' ⟨e1,e2⟩=>by rw[e1,e2];exact hh.2
    ·exact hh.elim
   ·exact ih.fn _ _ _ _ _ hh
  ·intro f args h k K hh
   simp only[jV]at hh ⊢;split at hh
   ·rename_i hb
    split at hh
    ·rename_i p v hm
     exact⟨v,h,hh.2,fun k' K' hk=>⟨hh.1,hk⟩⟩
    ·exact hh.elim
   ·exact ih.val _ _ _ _ _ hh
end
def iV(n:Int):V:=.c (.p (.i .i64 n))
def bV(b:Bool):V:=.c (.p (.b b))
def sV(s:ByteArray):V:=.c (.p (.s s))
def kM(P:Program)(f:Func):dG:=(f.body.bind (eG P)).getD .skip
def inr:dG→dG
 |.block _ a=>a
 |.loop a=>a
 |a=>a
section
variable {P:Program} {G:Nat→Option Obj}
theorem Lp.mono{a:dG}{st:St}{K K':X→St→Prop}(hk:∀e s,K e s→K' e s)(h:Lp P G a st K):Lp P G a st K':=
 fun c hc β R a' w hs=>Code.wp_mono (fun _ _ _ q=>QX.mono hk q) (h c hc β R a' w hs)
theorem Tr.holds_mono{K K':X→St→Prop}(hk:∀e s,K e s→K' e s):∀ {t:Tr},t.holds P G K→t.holds P G K'
 |.fail,h=>h
 |.rq _ _,h=>⟨h.1,Tr.holds_mono hk h.2⟩
 |.alt _ _,h=>⟨Tr.holds_mono hk h.1,Tr.holds_mono hk h.2⟩
 |.loop _ _ _,h=>Lp.mono (fun _ _ q=>Tr.holds_mono hk q) h
 |.done _ _,h=>hk _ _ h
end
section
variable {P:Program} {G:Nat→Option Obj} {β β':Bt} {R R':Nat→Prop} {w w':World}
theorem bB{p:Prop}{k:Tr}{K:X→St→Prop}:(Tr.rq p k).holds P G K↔p∧k.holds P G K:=Iff.rfl
theorem iD{e:X}{st:St}{K:X→St→Prop}:(Tr.done e st).holds P G K↔K e st:=Iff.rfl
theorem bZ{b:Bool}{t e:Tr}{K:X→St→Prop}:(bT b t e).holds P G K↔(b=true→t.holds P G K)∧(b=false→e.holds P G K):=by
 cases b<;>simp[bT]
theorem lT(ty:TypeId)(sz:Nat)(f:Nat→Nat→C)(j:Nat){st:St}(h:bF (.c .top) st.t j=.c (.p (.z (.slice none 0 0)))) :
  cQ G st ⟨fA (.c (.sl (fF st.h) sz 0 0)) st.t j,fB (.row ty sz 0 f) st.h⟩:=by
 intro β R a w hs
 have h1:=hZ.same hs (j:=j) (y:=.c (.sl (fF st.h) sz 0 0)) (fun u hu=>by
  rw[h]at hu
  have hu:u=.slice none 0 0:=hu
  subst hu
  exact⟨none,0,rfl,aW _,Nat.zero_le _,.inl ⟨.inl rfl,rfl,rfl⟩⟩)
 have hn:∀i x,β i=some x→bF .gone (fB (.row ty sz 0 f) st.h) i=bF .gone st.h i:=fun i x hi=>fH _ _ _ (hs.hs.dom i x hi)
 refine⟨β,R,⟨hs.df,h1.tm,⟨?_,?_,?_,hs.hs.lt,hs.hs.rlt,?_,hs.hs.gl,fun b ad hb=>⟨(hs.hs.ql b ad hb).1,(hs.hs.ql b ad hb).2.1,fun i o hi=>by show (bF .gone (fB _ st.h) i).live=false;rw[hn i _ hi];exact(hs.hs.ql b ad hb).2.2 i o hi⟩⟩⟩,Fr.refl _ _ _,fun _ hb=>hb⟩
 ·intro i x hi
  have:=hs.hs.dom i x hi
  show i<(fB _ st.h).length
  rw[jX,aV];omega
 ·intro i j b o o' hi hj li lj
  rw[hn i _ hi]at li;rw[hn j _ hj]at lj;exact hs.hs.inj i j b o o' hi hj li lj
 ·intro i b o hi li
  rw[hn i _ hi]at li;exact hs.hs.sep i b o hi li
 ·intro i b o hi
  show OR β R w (bF .gone (fB _ st.h) i) b o
  rw[hn i _ hi];exact hs.hs.obj i b o hi
def iF(x v:V):Prop:=∀β R w u,VR β R w x u→VR β R w v u
def lE(x v:PV):Prop:=∀R w u,PR R w x u→PR R w v u
theorem iF.refl(x:V):iF x x:=fun _ _ _ _ h=>h
theorem lE.refl(x:PV):lE x x:=fun _ _ _ h=>h
theorem iF.of_eq{x v:V}(h:x=v):iF x v:=h▸iF.refl x
theorem lE.of_eq{x v:PV}(h:x=v):lE x v:=h▸lE.refl x
theorem iF.p{x v:PV}(h:lE x v):iF (.c (.p x)) (.c (.p v)):=fun _ R w u hu=>h R w u hu
theorem lE.l{sz n:Nat}{f g:Nat→Nat→PV}(h:∀e o,e<n→o<sz→lE (f e o) (g e o)):lE (.l sz n f) (.l sz n g):=by
 rintro R w u ⟨A,c,rfl,h1,h2,h3⟩;refine⟨A,c,rfl,h1,h2,fun hn=>?_⟩;obtain⟨ad,e1,e2,e3⟩:=h3 hn;refine⟨ad,e1,e2,fun e o he ho=>?_⟩;obtain⟨u,q1,q2⟩:=e3 e o he ho;exact⟨u,q1,h e o he ho R w u q2⟩
theorem lE.nil(sz:Nat)(g:Nat→Nat→PV):lE (.z (.slice none 0 0)) (.l sz 0 g):=by
 rintro R w u rfl;exact⟨none,0,rfl,aW _,Nat.zero_le _,fun h=>absurd h (Nat.lt_irrefl 0)⟩
inductive ZZ:List PV→List PV→Prop
 |nil:ZZ [] []
 |cons {x v:PV} {xs vs:List PV}:lE x v→ZZ xs vs→ZZ (x::xs) (v::vs)
theorem ZZ.cs{xs vs:List PV}(h:ZZ xs vs):∀ {us:List Value},dD (CR β R w) (pT xs) us→dD (CR β R w) (pT vs) us:=by
 induction h with
 |nil=>exact fun h=>h
 |cons h1 _ ih=>
  intro us hu;cases us with
  |nil=>exact hu.elim
  |cons u us=>exact⟨h1 _ _ _ hu.1,ih hu.2⟩
theorem iF.a{xs vs:List PV}(h:ZZ xs vs):iF (.a (pT xs)) (.a (pT vs)):=fun _ _ _ _ ⟨us,e,hu⟩=>⟨us,e,h.cs hu⟩
def aN5(x v:V1):Prop:=iF x.up v.up
inductive WQ:List V1→List V1→Prop
 |nil:WQ [] []
 |cons {x v:V1} {xs vs:List V1}:aN5 x v→WQ xs vs→WQ (x::xs) (v::vs)
theorem aN5.r{x v:V1}(h:aN5 x v){u:Value}(hu:AB β R w x u):AB β R w v u:=by
 have:=h β R w u (AB.up hu)
 cases v<;>exact this
theorem iF.t{xs vs:List V1}(h:WQ xs vs):iF (.t xs) (.t vs):=by
 rintro β R w _ ⟨us,rfl,hu⟩;refine⟨us,rfl,?_⟩
 generalize us.toList=us' at hu
 induction h generalizing us' with
 |nil=>exact hu
 |cons h1 _ ih=>
  cases us' with
  |nil=>exact hu.elim
  |cons u us=>exact⟨h1.r hu.1,ih _ hu.2⟩
theorem jN.le{f:FuncId}{args:List V}{h:List AO}{v:V}(hf:jN P G f args h fun x h'=>iF x v∧h'=h):jN P G f args h fun x h'=>x=v∧h'=h:=
 fun β R w vs ha hs=>(hf β R w vs ha hs).mono fun _ _ ⟨u,β',R',_,h',q1,q2,q3,q4⟩=>⟨u,β',R',v,h',q1,⟨rfl,q2.2⟩,q2.1 _ _ _ _ q3,q4⟩
theorem aP9{f:FuncId}{fn:Func}{rs:List AR}{n:Nat}(hf:P.funcs[f]?=some fn)(hc:fn.body.bind (eG P)=some (kM P fn))(hr:yP P fn.results.toList=some rs)(hn:fn.ntmps=n)
  {args:List V} (hp:nC args=true) {v:V} (h:jY P G (kM P fn) ⟨args++hP (n-args.length) (.t []),[]⟩ fun e st=>(TI rs e st).holds P G fun _ st'=>∃x,st'.t=[x]∧iF x v) (h0:List AO) :
  jN P G f args h0 fun x h'=>x=v∧h'=h0:=
 jN.le ((aDI (K:=fun x=>iF x v) hf hc hr hn (oK hp) (h.mono fun _ _ hk=>Tr.holds_mono (fun _ _ ⟨x,h1,h2⟩=>⟨x,h1,fun _=>h2⟩) hk) h0).mono fun _ _ q=>⟨q.1,q.2.2⟩)
def RS(R:Nat→Prop)(w w':World):Nat→Prop:=fun b=>R b∨(w.heap.size≤b∧b<w'.heap.size)
theorem HS.below{h:List AO}(hh:HS G β R w h)(hb:Below w.heap.size w w'):HS G β (RS R w w') w' h∧Gr β R w β (RS R w w') w':=by
 have hk:iP β R w β (RS R w w') w':=⟨fun _ _ hi=>hi,fun _ hb=>.inl hb,fun b hr=>hb.block b (hh.rlt b hr)⟩
 refine⟨⟨hh.dom,hh.inj,?_,?_,?_,?_,?_,?_⟩,⟨⟨hb.os,hb.tape,hb.output,hb.size,hk.rs,fun b hlt _=>hb.block b hlt,fun _ hi=>.inl hi,?_⟩,hk.bm,hk.rm⟩⟩
 ·rintro i b o hi hl (hr|⟨h1,_⟩)
  ·exact hh.sep i b o hi hl hr
  ·have:=hh.lt i b o hi;omega
 ·intro i b o hi
  exact cH (hh.lt i b o hi) hb.size
 ·rintro b (hr|⟨_,h1⟩)
  ·exact cH (hh.rlt b hr) hb.size
  ·exact h1
 ·intro i b o hi
  exact OR.keep hk (fun b1 k hq=>⟨hq,hb.block b1 (hh.ql b1 _ hq).1⟩) (hb.block b (hh.lt i b o hi)) (hh.obj i b o hi)
 ·intro b o hg
  obtain⟨h1,h2⟩:=hh.gl b o hg;exact⟨.inl h1,(hk.rs b h1).trans h2⟩
 ·intro b ad hq
  obtain⟨h1,h2,h3⟩:=hh.ql b ad hq;refine⟨cH h1 hb.size,?_,h3⟩;rintro (hr|⟨h4,_⟩)
  ·exact h2 hr
  ·omega
 ·rintro b (hr|⟨h1,_⟩)
  ·exact .inl hr
  ·exact .inr (.inr h1)
theorem VR.up_none{x:V}{u:Value}(h:VR Bt.nil R w x u):VR β R w x u:=VR.keep ⟨fun _ _ hi=>(by cases hi),fun _ hb=>hb,fun _ _=>rfl⟩ h
theorem dD.nth2{α γ:Type}{q:α→γ→Prop}{x:α}{xs:List α}{ys:List γ}(h:dD q (x::xs) ys):∃y ys',ys=y::ys'∧q x y∧dD q xs ys':=by
 cases ys with
 |nil=>exact h.elim
 |cons y ys=>exact⟨y,ys,rfl,h.1,h.2⟩
theorem dD.nil2{α γ:Type}{q:α→γ→Prop}{ys:List γ}(h:dD q ([]:List α) ys):ys=[]:=by
 cases ys with
 |nil=>rfl
 |cons y ys=>exact h.elim
theorem TH{f:FuncId}{args:List V}{v:V}(hp:nC args=true)
  (hk:∀R w (vs:Array Value),(∀b,R b→b<w.heap.size)→(∀b o,G b=some o→w.heap[b]?=some o)→dD (VR Bt.nil R w) args vs.toList →
   Calls P f vs w fun e w'=>∃u,e=.returned u∧VR Bt.nil (RS R w w') w' v u∧Below w.heap.size w w') (h:List AO):jN P G f args h fun x h'=>x=v∧h'=h:=by
 intro β R w vs ha hh;refine(hk R w vs hh.rlt (fun b o hg=>(hh.gl b o hg).2) (dD.pureV_ (oK hp) ha)).mono ?_;rintro e w' ⟨u,rfl,h1,h2⟩;obtain⟨h3,h4⟩:=hh.below h2;exact⟨u,β,RS R w w',v,h,rfl,⟨rfl,rfl⟩,VR.up_none h1,h3,h4,fun _ _=>rfl⟩
theorem calls_of_fn{f:FuncId}{args:List V}{vs:Array Value}(h:jN P G f args [] fun x _=>x=bV true)(ha:dD (VR Bt.nil (fun b=>b<w.heap.size) w) args vs.toList)(hg:∀b o,G b=some o→w.heap[b]?=some o) :
  Calls P f vs w fun e w'=>e=.returned (.bool true)∧Below w.heap.size w w':=by
 refine(h Bt.nil (fun b=>b<w.heap.size) w vs ha ⟨(fun _ _ h=>by cases h),(fun _ _ _ _ _ h=>by cases h),(fun _ _ _ h=>by cases h),(fun _ _ _ h=>by cases h),(fun _ h=>h),(fun _ _ _ h=>by cases h),fun b o hb=>⟨(Array.getElem?_eq_some_iff.1 (hg b o hb)).1,hg b o hb⟩,(fun _ _ h=>by cases h)⟩).mono ?_
 ·rintro e w' ⟨u,β',R',x,h',rfl,rfl,h1,_,h2,_⟩
  have h1:u=.bool true:=h1
  subst h1;exact⟨rfl,h2.os,h2.tape,h2.output,h2.size,fun b hb=>h2.rs b hb⟩
end
section
variable {α:Type} [Inhabited α]
def aE(enc:α→Nat→PV)(L:List α)(e o:Nat):PV:=enc (L.getD e default) o
def aQ(enc:α→Nat→PV)(L:List α)(e o:Nat):C:=.p (aE enc L e o)
def bY(enc:α→Nat→PV)(sz:Nat)(L:List α):PV:=.l sz L.length (aE enc L)
def aU(enc:α→Nat→PV)(sz:Nat)(L:List α):V:=.c (.p (bY enc sz L))
def bO(dec:(Nat→PV)→α)(n:Nat)(f:Nat→Nat→PV):List α:=(List.range n).map fun e=>dec (f e)
theorem FL{enc:α→Nat→PV}{dec:(Nat→PV)→α}(hd:∀x,dec (enc x)=x)(L:List α):bO dec L.length (aE enc L)=L:=by
 apply List.ext_getElem?;intro i
 unfold bO
 by_cases hi:i<L.length
 ·rw[List.getElem?_map,List.getElem?_range hi,List.getElem?_eq_getElem hi]
  simp only[Option.map_some,aH]
  have:aE enc L i=enc L[i]:=by unfold aE;simp[hi]
  rw[this,hd]
 ·rw[bU (by simpa using hi),bU (by omega)]
def kA(enc:α→Nat→PV)(sz:Nat)(L:List α)(n:Nat)(f:Nat→Nat→PV):Prop:=L.length=n∧∀e o,e<n→o<sz→f e o=aE enc L e o
theorem dJ(enc:α→Nat→PV)(sz:Nat)(L:List α):kA enc sz L L.length (aE enc L):=⟨rfl,fun _ _ _ _=>rfl⟩
theorem kA.le{enc:α→Nat→PV}{sz:Nat}{L:List α}{n:Nat}{f:Nat→Nat→PV}(h:kA enc sz L n f):iF (.c (.p (.l sz n f))) (aU enc sz L):=by
 obtain⟨rfl,h2⟩:=h;exact iF.p (lE.l fun e o he ho=>lE.of_eq (h2 e o he ho))
theorem aSZ{enc:α→Nat→PV}{L M:List α}{n e o:Nat}(hn:L.length=n):fC n (aQ enc L) (aQ enc M) e o=aQ enc (L++M) e o:=by
 unfold fC aQ aE;subst hn
 by_cases h1:e<L.length
 ·rw[if_pos h1];simp[cD h1]
 ·rw[if_neg h1];simp[List.getElem?_append_right (show L.length≤e by omega)]
end
section
variable {P:Program} {G:Nat→Option Obj}
inductive ZX:List V→List V→Prop
 |nil:ZX [] []
 |cons {x v:V} {xs vs:List V}:iF x v→ZX xs vs→ZX (x::xs) (v::vs)
theorem ZX.all{β:Bt}{R:Nat→Prop}{w:World}{xs vs:List V}(h:ZX xs vs):∀ {us:List Value},dD (VR β R w) xs us→dD (VR β R w) vs us:=by
 induction h with
 |nil=>exact fun h=>h
 |cons h1 _ ih=>
  intro us hu;cases us with
  |nil=>exact hu.elim
  |cons u us=>exact⟨h1 _ _ _ _ hu.1,ih hu.2⟩
theorem jN.args{f:FuncId}{args args':List V}{h:List AO}{K:V→List AO→Prop}(hf:jN P G f args' h K)(hl:ZX args args'):jN P G f args h K:=
 fun β R w vs ha hs=>hf β R w vs (hl.all ha) hs
end
def aIS:PV→ByteArray
 |.s x=>x
 |_=>⟨#[]⟩
def aMI:PV→Int
 |.i _ n=>n
 |_=>0
def aS(x:Int)(_:Nat):PV:=.i .i64 x
def aN(x:ByteArray×ByteArray)(o:Nat):PV:=match o with
 |0=>.s x.1
 |_=>.s x.2
def gI(f:Nat→PV):Int:=aMI (f 0)
def cT(f:Nat→PV):ByteArray×ByteArray:=(aIS (f 0),aIS (f 1))
theorem iN(L:List Int):bO gI L.length (aE aS L)=L:=FL (fun _=>rfl) L
theorem gK(L:List (ByteArray×ByteArray)):bO cT L.length (aE aN L)=L:=FL (fun _=>rfl) L
def bI(P:Program)(fn:Func):List AR:=(yP P fn.results.toList).getD []
def RO(P:Program)(fn:Func):Bool:=(fn.body.bind (eG P)).isSome&&(yP P fn.results.toList).isSome
def nH(fn:Func)(args:List V):St:=⟨args++hP (fn.ntmps-args.length) (.t []),[]⟩
def lL(ρ:List Nat)(keep:List Bool)(rs:List AR)(e:X)(st:St):Tr:=match e with
 |.ret=>TI rs .ret st
 |e=>.done e (aL8 ρ keep st)
section
variable {P:Program} {G:Nat→Option Obj}
def KF(v:V)(K:X→St→Prop)(e:X)(st:St):Prop:=match e with
 |.ret=>∃x,st.t=[x]∧iF x v
 |e=>K e st
def RK(P:Program)(G:Nat→Option Obj)(rs:List AR)(v:V)(K:X→St→Prop)(e:X)(st:St):Prop:=match e with
 |.ret=>(TI rs .ret st).holds P G fun _ s=>∃x,s.t=[x]∧iF x v
 |e=>K e st
def sQ(P:Program)(G:Nat→Option Obj)(rs:List AR)(ac:dG)(st:St)(v:V)(K:X→St→Prop):Prop:=jY P G ac st (RK P G rs v K)
theorem DH{rs:List AR}{v:V}{K:X→St→Prop}{st':St}(hk:(TI rs .ret st').holds P G (KF v K)):(TI rs .ret st').holds P G fun _ s=>∃x,s.t=[x]∧iF x v:=by
 have key:∀(l:List AR) (g:List V1→List V1),(DI st' l fun vs=>.done .ret ⟨[FZ (g vs)],[]⟩).holds P G (KF v K)→(DI st' l fun vs=>.done .ret ⟨[FZ (g vs)],[]⟩).holds P G fun _ s=>∃x,s.t=[x]∧iF x v:=by
  have kc:∀(c:C) (k:PV→Tr),(TE st'.h c k).holds P G (KF v K)→(∀p,(k p).holds P G (KF v K)→(k p).holds P G fun _ s=>∃x,s.t=[x]∧iF x v)→(TE st'.h c k).holds P G fun _ s=>∃x,s.t=[x]∧iF x v:=by
   intro c k h hk;cases c with
   |p x=>exact hk _ h
   |sl id sz off len=>
    simp only[TE]at h ⊢;split at h
    ·obtain⟨c1,c2,c3⟩:=bX h
     simp only[c1,mZ];exact⟨c2,hk _ c3⟩
    ·exact h.elim
   |_=>exact h.elim
  have kl:∀(cs:List C) (k:List PV→Tr),(YX st'.h cs k).holds P G (KF v K)→(∀p,(k p).holds P G (KF v K)→(k p).holds P G fun _ s=>∃x,s.t=[x]∧iF x v)→(YX st'.h cs k).holds P G fun _ s=>∃x,s.t=[x]∧iF x v:=by
   intro cs;induction cs with
   |nil=>exact fun k h hk=>hk _ h
   |cons c cs ih=>exact fun k h hk=>kc c _ h fun p hp=>ih _ hp fun ps hps=>hk _ hps
  have kv:∀(x:V1) (k:V1→Tr),(YW st'.h x k).holds P G (KF v K)→(∀p,(k p).holds P G (KF v K)→(k p).holds P G fun _ s=>∃x,s.t=[x]∧iF x v)→(YW st'.h x k).holds P G fun _ s=>∃x,s.t=[x]∧iF x v:=by
   intro x k h hk;cases x with
   |c c=>exact kc c _ h fun p hp=>hk _ hp
   |a cs=>exact kl cs _ h fun p hp=>hk _ hp
  intro l;induction l with
  |nil=>exact fun g h=>h
  |cons r l ih=>
   intro g h
   have step:∀x:V1,(YW st'.h x fun v'=>DI st' l fun vs=>.done .ret ⟨[FZ (g (v'::vs))],[]⟩).holds P G (KF v K)→(YW st'.h x fun v'=>DI st' l fun vs=>.done .ret ⟨[FZ (g (v'::vs))],[]⟩).holds P G fun _ s=>∃x,s.t=[x]∧iF x v:=
    fun x hx=>kv x _ hx fun p hp=>ih (fun vs=>g (p::vs)) hp
   simp only[DI]at h ⊢;cases r with
   |tmp t=>
    simp only[XM]at h ⊢;split at h
    ·exact step _ h
    ·exact h.elim
   |cell t n=>
    simp only[XM]at h ⊢;split at h
    ·split at h
     ·obtain⟨c1,c2⟩:=bX h
      simp only[c1,mZ];split at c2
      ·exact step _ c2
      ·exact c2.elim
     ·exact h.elim
    ·exact h.elim
   |new t=>
    simp only[XM]at h ⊢;split at h
    ·exact step _ h
    ·exact step _ h
    ·exact h.elim
 exact key rs id hk
theorem sQ.ev{ext:Ext}(hext:bH P G ext){rs:List AR}{ac:dG}{st:St}{v:V}{K:X→St→Prop}(ρ:List Nat)(keep:List Bool)(hn:pS ρ=true){tree:Tr}(ht:FH ext ac st (lL ρ keep rs)=tree)(h:tree.holds P G (KF v K)):sQ P G rs ac st v K:=by
 subst ht;refine jY.post ((jY.ev hext h).mono fun e st' hk=>?_);cases e with
 |ret=>exact⟨st',fun β R a w hs=>⟨β,R,hs,Fr.refl _ _ _,fun _ hb=>hb⟩,DH hk⟩
 |normal=>exact⟨_,gU ρ keep hn st',hk⟩
 |exit id=>exact⟨_,gU ρ keep hn st',hk⟩
theorem sQ.pre{rs:List AR}{ac:dG}{st st2:St}{v:V}{K:X→St→Prop}(hw:cQ G st st2)(h:sQ P G rs ac st2 v K):sQ P G rs ac st v K:=jY.pre hw h
theorem sQ.mono{rs:List AR}{ac:dG}{st:St}{v:V}{K K':X→St→Prop}(h:sQ P G rs ac st v K)(hk:∀e st,e≠.ret→K e st→K' e st):sQ P G rs ac st v K':=
 jY.mono h fun e st q=>by
  cases e with
  |ret=>exact q
  |normal=>exact hk _ _ (by simp) q
  |exit id=>exact hk _ _ (by simp) q
theorem sQ.seq{rs:List AR}{a b:dG}{st:St}{v:V}{K1 K:X→St→Prop}(h:sQ P G rs a st v K1)(hn:∀st',K1 .normal st'→sQ P G rs b st' v K)(hx:∀id st',K1 (.exit id) st'→K (.exit id) st'):sQ P G rs (.seq a b) st v K:=
 jY.seq h hn fun e st' he q=>by
  cases e with
  |normal=>exact absurd rfl he
  |ret=>exact q
  |exit id=>exact hx id st' q
theorem sQ.block{rs:List AR}{id:Nat}{a:dG}{st:St}{v:V}{K:X→St→Prop}(h:sQ P G rs a st v fun e st'=>match e with
  |.exit j=>if j=id then K .normal st' else K (.exit j) st'
  |e=>K e st'):sQ P G rs (.block id a) st v K:=
 jY.block (jY.mono h fun e st' q=>by
  cases e with
  |normal=>exact q
  |ret=>exact q
  |exit j=>exact q)
theorem sQ.loop{rs:List AR}{a:dG}{v:V}{K:X→St→Prop}{σ:Type}(C:σ→St)(I:σ→Prop)(μ:σ→Nat)(s0:σ)(hI:I s0)
  (step:∀s,I s→sQ P G rs a (C s) v fun e st'=>match e with
   |.normal=>∃s',I s'∧μ s'<μ s∧cQ G st' (C s')
   |e=>K e st'):sQ P G rs (.loop a) (C s0) v K:=
 jY.loop C I μ s0 hI fun s hs=>jY.mono (step s hs) fun e st' q=>by
  cases e with
  |normal=>exact q
  |ret=>exact q
  |exit j=>exact q
theorem aPA{f:FuncId}{fn:Func}(hf:P.funcs[f]?=some fn)(hok:RO P fn=true){args:List V}(hp:nC args=true){v:V}(h:sQ P G (bI P fn) (kM P fn) (nH fn args) v fun _ _=>False)(h0:List AO) :
  jN P G f args h0 fun x h'=>x=v∧h'=h0:=by
 unfold RO at hok;simp only[aO,eD]at hok;obtain⟨⟨c,hc⟩,rs,hr⟩:=hok
 have e1:kM P fn=c:=by unfold kM;rw[hc];rfl
 have e2:bI P fn=rs:=by unfold bI;rw[hr];rfl
 refine aP9 hf (by rw[hc,e1]) hr rfl hp ?_ h0
 refine jY.mono h fun e st q=>?_
 rw[e2]at q;cases e with
 |ret=>exact q
 |normal=>exact q.elim
 |exit id=>exact q.elim
theorem GF{ext:Ext}(hext:bH P G ext){f:FuncId}{fn:Func}(hf:P.funcs[f]?=some fn)(hok:RO P fn=true){args:List V}(hp:nC args=true){v:V}{tree:Tr}(ht:FH ext (kM P fn) (nH fn args) (lL [] [] (bI P fn))=tree)
  (h:tree.holds P G (KF v fun _ _=>False)) (h0:List AO):jN P G f args h0 fun x h'=>x=v∧h'=h0:=
 aPA hf hok hp (sQ.ev hext [] [] rfl ht h) h0
end
def qY:List dG→List dG→List dG
 |[],m=>m
 |c::r,m=>c::qY r m
def eX:dG→List dG
 |.seq a b=>qY (eX a) (eX b)
 |c=>[c]
noncomputable def dC(Fn:Ext):List dG→St→(X→St→Tr)→Tr
 |[],st,K=>K .normal st
 |c::r,st,K=>FH Fn c st fun e st'=>match e with
  |.normal=>dC Fn r st' K
  |e=>K e st'
def cW(P:Program)(fn:Func):List dG:=eX (kM P fn)
def gR(l:List dG)(n:Nat):List dG:=eX (inr (inr (bF .skip l n)))
section
variable {P:Program} {G:Nat→Option Obj}
def eJ(P:Program)(G:Nat→Option Obj)(rs:List AR)(v:V):List dG→St→(X→St→Prop)→Prop
 |[],st,Q=>∃st2,cQ G st st2∧Q .normal st2
 |c::r,st,Q=>sQ P G rs c st v fun e st'=>match e with
  |.normal=>eJ P G rs v r st' Q
  |e=>Q e st'
variable {rs:List AR} {v:V}
theorem cQ.refl(st:St):cQ G st st:=fun β R _ _ hs=>⟨β,R,hs,Fr.refl _ _ _,fun _ hb=>hb⟩
theorem sQ.post{ac:dG}{st:St}{K:X→St→Prop}(h:sQ P G rs ac st v fun e st'=>∃st2,cQ G st' st2∧K e st2):sQ P G rs ac st v K:=by
 refine jY.post (jY.mono h fun e st' hk=>?_);cases e with
 |ret=>exact⟨st',cQ.refl st',hk⟩
 |normal=>exact hk
 |exit id=>exact hk
theorem eJ.pre{l:List dG}{st st2:St}{Q:X→St→Prop}(hw:cQ G st st2)(h:eJ P G rs v l st2 Q):eJ P G rs v l st Q:=by
 cases l with
 |nil=>obtain⟨st3,h1,h2⟩:=h;exact⟨st3,hw.trans h1,h2⟩
 |cons c r=>exact sQ.pre hw h
theorem eJ.cut:∀ {a b:List dG} {st:St} {Q:X→St→Prop},eJ P G rs v (qY a b) st Q→eJ P G rs v a st fun e st'=>match e with
  |.normal=>eJ P G rs v b st' Q
  |e=>Q e st'
 |[],_,st,_,h=>⟨st,cQ.refl st,h⟩
 |_::_,_,_,_,h=>sQ.mono h fun e st' _ q=>by
  cases e with
  |normal=>exact eJ.cut q
  |ret=>exact q
  |exit id=>exact q
theorem eJ.glue:∀ {a b:List dG} {st:St} {Q:X→St→Prop},(eJ P G rs v a st fun e st'=>match e with
  |.normal=>eJ P G rs v b st' Q
  |e=>Q e st')→eJ P G rs v (qY a b) st Q
 |[],_,_,_,⟨_,h1,h2⟩=>eJ.pre h1 h2
 |_::_,_,_,_,h=>sQ.mono h fun e st' _ q=>by
  cases e with
  |normal=>exact eJ.glue q
  |ret=>exact q
  |exit id=>exact q
theorem eJ.code:∀ {c:dG} {st:St} {Q:X→St→Prop},eJ P G rs v (eX c) st Q→sQ P G rs c st v Q:=by
 intro c;induction c with
 |seq a b iha ihb=>
  intro st Q h
  have h1:=eJ.cut (a:=eX a) (b:=eX b) h
  refine sQ.seq (iha h1) (fun st' hq=>ihb hq) (fun id st' hq=>hq)
 |_=>
  intro st Q h;refine sQ.post (sQ.mono h fun e st' _ q=>?_);cases e with
  |normal=>exact q
  |ret=>exact⟨st',cQ.refl st',q⟩
  |exit id=>exact⟨st',cQ.refl st',q⟩
theorem zW{ρ:List Nat}{keep:List Bool}(hn:pS ρ=true){e:X}{st:St}{K:X→St→Prop}(h:(lL ρ keep rs e st).holds P G (KF v K)):∃st2,cQ G st st2∧RK P G rs v K e st2:=by
 cases e with
 |ret=>exact⟨st,cQ.refl st,DH h⟩
 |normal=>exact⟨_,gU ρ keep hn st,h⟩
 |exit id=>exact⟨_,gU ρ keep hn st,h⟩
theorem wP{ext:Ext}(hext:bH P G ext){ρ:List Nat}{keep:List Bool}(hn:pS ρ=true):∀ {l:List dG} {st:St} {K:X→St→Prop},(dC ext l st (lL ρ keep rs)).holds P G (KF v K)→eJ P G rs v l st K
 |[],st,K,h=>zW hn h
 |c::r,st,K,h=>by
  have h1:=jY.ev hext h
  refine sQ.post ?_;refine jY.post (jY.mono h1 fun e st' q=>?_);cases e with
  |normal=>exact⟨st',cQ.refl st',st',cQ.refl st',wP hext hn q⟩
  |ret=>
   obtain⟨st2,q1,q2⟩:=zW hn q;exact⟨st2,q1,q2⟩
  |exit id=>
   obtain⟨st2,q1,q2⟩:=zW hn q;exact⟨st2,q1,st2,cQ.refl st2,q2⟩
theorem qH:∀(n:Nat) (l:List dG),qY (dH n l) (bJ n l)=l
 |0,l=>by cases l<;>rfl
 |n+1,[]=>rfl
 |n+1,c::r=>by simp[dH,bJ,qY,qH n r]
theorem eJ.ev{ext:Ext}(hext:bH P G ext)(n:Nat)(ρ:List Nat)(keep:List Bool)(hn:pS ρ=true){l:List dG}{st:St}{Q:X→St→Prop}{tree:Tr}(ht:dC ext (dH n l) st (lL ρ keep rs)=tree)
  (h:tree.holds P G (KF v fun e st'=>match e with
   |.normal=>eJ P G rs v (bJ n l) st' Q
   |e=>Q e st')):eJ P G rs v l st Q:=by
 rw[←qH n l];subst ht;exact eJ.glue (wP hext hn h)
theorem eJ.evA{ext:Ext}(hext:bH P G ext)(ρ:List Nat)(keep:List Bool)(hn:pS ρ=true){l:List dG}{st:St}{Q:X→St→Prop}{tree:Tr}(ht:dC ext l st (lL ρ keep rs)=tree)
  (h:tree.holds P G (KF v Q)):eJ P G rs v l st Q:=by
 subst ht;exact wP hext hn h
theorem eJ.loop{id:Nat}{b:dG}{l r:List dG}{st:St}{Q:X→St→Prop}(hl:l=.block id (.loop b)::r){σ:Type}(C:σ→St)(I:σ→Prop)(μ:σ→Nat)(s0:σ)(hI:I s0)(hw:cQ G st (C s0))
  (step:∀s,I s→eJ P G rs v (eX b) (C s) fun e st'=>match e with
   |.normal=>∃s',I s'∧μ s'<μ s∧cQ G st' (C s')
   |.exit j=>if j=id then eJ P G rs v r st' Q else Q (.exit j) st'
   |.ret=>True):eJ P G rs v l st Q:=by
 subst hl;refine sQ.pre hw (sQ.block ?_)
 refine sQ.loop C I μ s0 hI fun s hs=>?_
 refine sQ.mono (eJ.code (step s hs)) fun e st' he q=>?_
 cases e with
 |normal=>exact q
 |exit j=>exact q
 |ret=>exact absurd rfl he
theorem pW{f:FuncId}{fn:Func}(hf:P.funcs[f]?=some fn)(hok:RO P fn=true){args:List V}(hp:nC args=true){v:V}(h:eJ P G (bI P fn) v (cW P fn) (nH fn args) fun _ _=>False)(h0:List AO) :
  jN P G f args h0 fun x h'=>x=v∧h'=h0:=aPA hf hok hp (eJ.code h) h0
end
def aAO(j:Nat):List (Nat×V)→V
 |[]=>.c .top
 |(i,v)::r=>match cA i j with
  |true=>v
  |false=>aAO j r
def aJ7:Nat→Nat→List (Nat×V)→List V
 |0,_,_=>[]
 |n+1,j,l=>aAO j l::aJ7 n (j+1) l
def bS(n:Nat)(l:List (Nat×V))(h:List AO):St:=⟨aJ7 n 0 l,h⟩
def aOX:Nat→Nat→List Nat→List Bool
 |0,_,_=>[]
 |n+1,j,l=>oL j l::aOX n (j+1) l
def eZ(n:Nat)(l:List Nat):List Bool:=aOX n 0 l
abbrev jU:=List V→List AO→Option (Prop×V×List AO)
def tT(m:Mod):jU:=fun args h=>match m args with
 |some (p,v)=>some (p,v,h)
 |none=>none
def lH:List (FuncId×jU)→Ext
 |[],_,_,_,_=>.fail
 |(g,m)::r,f,args,h,k=>match cA g f with
  |true=>match m args h with
   |some (p,v,h')=>.rq p (k v h')
   |none=>.fail
  |false=>lH r f args h k
structure aN6 (p:Prop):Prop where
 h:p
section
variable {P:Program} {G:Nat→Option Obj}
theorem aL{e:X}{st:St}{K:X→St→Prop}:(Tr.done e st).holds P G K↔aN6 (K e st):=⟨fun h=>⟨h⟩,fun h=>h.h⟩
theorem jQ{v:V}{K:X→St→Prop}{j:Nat}{st:St}:KF v K (.exit j) st↔K (.exit j) st:=Iff.rfl
theorem cG{v:V}{K:X→St→Prop}{st:St}:KF v K .normal st↔K .normal st:=Iff.rfl
theorem fI{v x:V}{K:X→St→Prop}{h:List AO}:KF v K .ret ⟨[x],h⟩↔iF x v:=⟨fun⟨_,h1,h2⟩=>by injection h1 with h1;exact h1▸h2,fun h=>⟨x,rfl,h⟩⟩
theorem aJ{st st':St}(h:st=st'):cQ G st st':=h▸cQ.refl st
theorem BU{t:List V}{h h':List AO}(hh:dD QF h h'):cQ G ⟨t,h⟩ ⟨t,h'⟩:=UE ⟨rfl,hh⟩
def fZ(P:Program)(G:Nat→Option Obj)(f:FuncId)(m:jU):Prop:=∀args h p v h',m args h=some (p,v,h')→p→jN P G f args h fun x h2=>x=v∧h2=h'
theorem iO.lift{f:FuncId}{m:Mod}(hm:iO P G f m):fZ P G f (tT m):=by
 intro args h p v h' he hp;unfold tT at he;split at he
 ·rename_i p' v' hq
  injection he with he;injection he with e1 he;injection he with e2 e3;subst e1;subst e2;subst e3;exact hm args _ _ hq hp h
 ·cases he
theorem dZ:∀ {l:List (FuncId×jU)},(∀e∈l,fZ P G e.1 e.2)→bH P G (lH l)
 |[],_=>⟨fun _ _ _ _ _ h=>h.elim,fun _ _ _ _ _ h=>h.elim⟩
 |(g,m)::r,hl=>by
  have ih:=dZ (l:=r) fun e he=>hl e (cM _ he)
  have h0:fZ P G g m:=hl (g,m) (cY ..)
  refine⟨?_,?_⟩
  ·intro f args h k K hh
   simp only[lH]at hh;split at hh
   ·rename_i hb
    obtain rfl:=aR hb;split at hh
    ·rename_i p v h' hm
     exact(h0 args h p v h' hm hh.1).mono fun x h2 ⟨e1,e2⟩=>by rw[e1,e2];exact hh.2
    ·exact hh.elim
   ·exact ih.fn _ _ _ _ _ hh
  ·intro f args h k K hh
   simp only[lH]at hh ⊢;split at hh
   ·rename_i hb
    split at hh
    ·rename_i p v h' hm
     exact⟨v,h',hh.2,fun k' K' hk=>⟨hh.1,hk⟩⟩
    ·exact hh.elim
   ·exact ih.val _ _ _ _ _ hh
end
section
variable {P:Program} {G:Nat→Option Obj} {β β':Bt} {R R':Nat→Prop} {w w':World}
theorem vU{h:List AO}(hh:HS G β R w h)(k:Fr Bt.nil R w β' R' w')(hr:∀b,R b→R' b){h':List AO}(hh':HS G β' R' w' h'){x:AO}(hx:x.live=true){id b N:Nat}(hid:β' id=some (b,N))(hl:(bF .gone h' id).live=true)
  (hob:∀β2,iP Bt.nil R' w' β2 R' w'→OR β2 R' w' x b N) :
  HS G (bn β h.length (b,N)) R' w' (fB x h)∧Gr β R w (bn β h.length (b,N)) R' w':=by
 have hxr:∀b,R' b→R b∨w.heap.size≤b:=by
  intro b hb
  rcases k.rx b hb with h|h|h
  ·exact .inl h
  ·exact absurd h Bt.nil_has
  ·exact .inr h
 have hfresh:w.heap.size≤b:=by
  rcases k.ex b (.inl ⟨id,N,hid⟩) with h|h
  ·exact absurd h Bt.nil_has
  ·exact h
 have hold:∀i y,β i=some y→bn β h.length (b,N) i=some y:=fun i y hi=>by
  rw[eA _ (by have:=hh.dom i y hi;omega)];exact hi
 have hcase:∀i y,bn β h.length (b,N) i=some y→(i=h.length∧y=(b,N))∨(i≠h.length∧β i=some y):=fun i y hi=>by
  by_cases he:i=h.length
  ·subst he;rw[gB]at hi;injection hi with hi;exact .inl ⟨rfl,hi.symm⟩
  ·rw[eA _ he]at hi;exact .inr ⟨he,hi⟩
 have gr:Gr β R w (bn β h.length (b,N)) R' w':={
  os:=k.os,tape:=k.tape,output:=k.output,size:=k.size,rs:=k.rs
  fr:=fun b hb _=>k.fr b hb Bt.nil_has
  ex:=fun b' hi=>(FQ hi).imp (fun h=>h) (fun h=>by have h:b'=b:=h;omega)
  rx:=fun b hb=>(hxr b hb).imp (fun h=>h) .inr
  bm:=hold
  rm:=hr }
 have hlen:(fB x h).length=h.length+1:=by rw[jX];simp
 have hnew:bF .gone (fB x h) h.length=x:=kQ _ _ _
 have holdn:∀i y,β i=some y→bF .gone (fB x h) i=bF .gone h i:=fun i y hi=>fH _ _ _ (hh.dom i y hi)
 have kq:sT β w (bn β h.length (b,N)) w':=fun b' ad hb=>⟨hb,k.fr b' (hh.ql b' ad hb).1 Bt.nil_has⟩
 refine⟨⟨?_,?_,?_,?_,hh'.rlt,?_,?_,?_⟩,gr⟩
 ·intro i y hi
  rcases hcase i y hi with⟨e,_⟩|⟨_,e⟩
  ·omega
  ·have:=hh.dom i y e;omega
 ·intro i j b' o o' hi hj li lj
  rcases hcase i _ hi with⟨e1,q1⟩|⟨e1,q1⟩
  ·rcases hcase j _ hj with⟨e2,q2⟩|⟨e2,q2⟩
   ·omega
   ·injection q1 with q1 _
    have:=hh.lt j b' o' q2;omega
  ·rcases hcase j _ hj with⟨e2,q2⟩|⟨e2,q2⟩
   ·injection q2 with q2 _
    have:=hh.lt i b' o q1;omega
   ·rw[holdn i _ q1]at li
    rw[holdn j _ q2]at lj;exact hh.inj i j b' o o' q1 q2 li lj
 ·intro i b' o hi li hb
  rcases hcase i _ hi with⟨e1,q1⟩|⟨e1,q1⟩
  ·injection q1 with q1 _
   subst q1;exact hh'.sep id _ N hid hl hb
  ·rw[holdn i _ q1]at li
   rcases hxr b' hb with h|h
   ·exact hh.sep i b' o q1 li h
   ·have:=hh.lt i b' o q1;omega
 ·intro i b' o hi
  rcases hcase i _ hi with⟨e1,q1⟩|⟨e1,q1⟩
  ·injection q1 with q1 _
   subst q1;exact hh'.lt id _ N hid
  ·exact cH (hh.lt i b' o q1) k.size
 ·intro i b' o hi
  rcases hcase i _ hi with⟨e1,q1⟩|⟨e1,q1⟩
  ·injection q1 with q1 q2
   subst q1;subst q2;subst e1;rw[hnew];exact hob _ ⟨(fun _ _ h=>by cases h),fun _ h=>h,fun _ _=>rfl⟩
  ·rw[holdn i _ q1]
   exact OR.keep gr.keeps (kq.at b') (k.fr b' (hh.lt i b' o q1) Bt.nil_has) (hh.obj i b' o q1)
 ·intro b' ob hb
  exact hh'.gl b' ob hb
 ·intro b' ad hb
  obtain⟨h1,h2,h3⟩:=hh.ql b' ad hb;refine⟨cH h1 k.size,fun hf=>?_,fun i o hi=>?_⟩
  ·rcases hxr b' hf with h|h
   ·exact h2 h
   ·omega
  ·rcases hcase i _ hi with⟨e1,q1⟩|⟨e1,q1⟩
   ·injection q1 with q1 _;omega
   ·rw[holdn i _ q1];exact h3 i o q1
theorem ET{h:List AO}(hh:HS G β R w h)(k:Fr Bt.nil R w β' R' w')(hr:∀b,R b→R' b){h':List AO}(hh':HS G β' R' w' h')(x:AO) :
  HS G β (frz β' R') w' (fB x h)∧Gr β R w β (frz β' R') w':=by
 obtain⟨h1,h2⟩:=zS hh k hr hh'
 have hn:∀i y,β i=some y→bF .gone (fB x h) i=bF .gone h i:=fun i y hi=>fH _ _ _ (hh.dom i y hi)
 refine⟨⟨?_,?_,?_,h1.lt,h1.rlt,?_,h1.gl,fun b ad hb=>⟨(h1.ql b ad hb).1,(h1.ql b ad hb).2.1,fun i o hi=>by rw[hn i _ hi];exact(h1.ql b ad hb).2.2 i o hi⟩⟩,h2⟩
 ·intro i y hi
  have:=hh.dom i y hi
  rw[jX,aV];omega
 ·intro i j b o o' hi hj li lj
  rw[hn i _ hi]at li;rw[hn j _ hj]at lj;exact h1.inj i j b o o' hi hj li lj
 ·intro i b o hi li
  rw[hn i _ hi]at li;exact h1.sep i b o hi li
 ·intro i b o hi
  rw[hn i _ hi];exact h1.obj i b o hi
def LM(r:Nat)(ty:TypeId)(sz n:Nat)(F:Nat→Nat→PV)(e:X)(st:St):Prop:=
 (∀j,e≠.exit j)∧∃id f,bF (.c .top) st.t r=.c (.sl id sz 0 n)∧bF .gone st.h id=.row ty sz n f∧∀e o,e<n→o<sz→f e o=.p (F e o)
theorem aMS{f:FuncId}{fn:Func}{r:Nat}{ty:TypeId}{sz n:Nat}{F:Nat→Nat→PV}(hf:P.funcs[f]?=some fn)(hok:RO P fn=true)(hr:fn.results.toList=[.tmp r]){args:List V}(hp:nC args=true)
  (h:jY P G (kM P fn) (nH fn args) (LM r ty sz n F)) (h0:List AO) :
  jN P G f args h0 fun x h'=>x=.c (.sl (fF h0) sz 0 n)∧h'=fB (.row ty sz n fun e o=>.p (F e o)) h0:=by
 unfold RO at hok;simp only[aO,eD]at hok;obtain⟨⟨c,hc⟩,_⟩:=hok
 have e1:kM P fn=c:=by unfold kM;rw[hc];rfl
 rw[e1]at h;simp only[aK]at hc;obtain⟨c0,hb,hc⟩:=hc;intro β R w vs ha hh
 refine calls_of_wp hf hb (Code.wp_mono ?_ (h c0 hc Bt.nil R { tmps:=vs++jB (fn.ntmps-vs.size) undef,defers:=[] } w ?_))
 ·intro e a' w' hq
  have key:∀x:X,(∀id,x≠.exit id)→Po G (LM r ty sz n F) Bt.nil R w x a' w' →
    a'.defers=[]∧∃v,(results fn a'.tmps).run P w'=.ok v w'∧∃u β' R' x h',Ending.returned v=.returned u∧(x=.c (.sl (fF h0) sz 0 n)∧h'=fB (.row ty sz n fun e o=>.p (F e o)) h0)∧VR β' R' w' x u∧HS G β' R' w' h'∧Gr β R w β' R' w'∧∀i,i<h0.length→β' i=β i:=by
   rintro x hx ⟨β',R',st',⟨_,id,f',q1,q2,q3⟩,hs,hfr,hrr⟩
   have hv:=bR (x:=.tmp r) hs rfl
   have e2:st'.ev (.t r)=.c (.sl id sz 0 n):=q1
   rw[e2]at hv
   have hres:(results fn a'.tmps).run P w'=.ok (a'.tmps.getD r undef) w':=by
    refine rS (us:=[a'.tmps.getD r undef]) fn a'.tmps ?_;rw[hr];simp[List.mapM_cons,JM]
   refine⟨hs.df,_,hres,?_⟩;obtain⟨A,cp,hsl,hle,hmx,hcase⟩:=hv
   have hsl:a'.tmps.getD r undef=.slice A n cp:=hsl
   rw[hsl]
   rcases hcase with⟨hA,hn0,hc0⟩|⟨b,N,hb1,hb2,hb3⟩
   ·obtain⟨c1,c2⟩:=ET hh hfr hrr hs.hs (.row ty sz n fun e o=>.p (F e o))
    refine⟨_,β,frz β' R',_,_,rfl,⟨rfl,rfl⟩,?_,c1,c2,fun _ _=>rfl⟩;exact⟨A,cp,rfl,hle,hmx,.inl ⟨hA,hn0,hc0⟩⟩
   ·obtain⟨c1,c2⟩:=vU (x:=.row ty sz n fun e o=>.p (F e o)) hh hfr hrr hs.hs rfl hb1 (by rw[q2];rfl) (fun β2 hk=>by
      have hob:=hs.hs.obj id b N hb1
      rw[q2]at hob;obtain⟨cs,g1,g2,g3,g4⟩:=hob;refine⟨cs,g1,g2,g3,fun e o he ho=>?_⟩;obtain⟨u,k1,k2⟩:=g4 e o he ho;rw[q3 e o he ho]at k2
      exact⟨u,k1,k2⟩)
    refine⟨_,bn β h0.length (b,N),R',_,_,rfl,⟨rfl,rfl⟩,?_,c1,c2,fun i hi=>eA _ (by omega)⟩;refine⟨A,cp,rfl,hle,hmx,.inr ⟨b,N,?_,hb2,hb3⟩⟩;rw[eH];exact gB _ _ _
  cases e with
  |normal=>exact key .normal (by intro id h;cases h) hq
  |ret=>exact key .ret (by intro id h;cases h) hq
  |exit id=>
   obtain⟨β',R',st',q1,_⟩:=hq;exact absurd rfl (q1.1 id)
  |_=>exact hq.elim
 ·refine⟨rfl,?_,?_⟩
  ·have hl:args.length=vs.size:=by simpa using ha.length
   show dD _ (args++hP (fn.ntmps-args.length) (.t [])) _
   rw[Array.toList_append,Array.toList_replicate,hl];exact(dD.pureV_ (oK hp) ha).append (vZ _)
  ·exact⟨(fun i x hi=>by cases hi),(fun i j b o o' hi=>by cases hi),(fun i b o hi=>by cases hi),(fun i b o hi=>by cases hi),hh.rlt,(fun i b o hi=>by cases hi),hh.gl,fun b ad hb=>by cases hb⟩
theorem eJ.blk{rs:List AR}{v:V}{id:Nat}{a:dG}{l r:List dG}{st:St}{Q:X→St→Prop}(hl:l=.block id a::r)(h:eJ P G rs v (eX a) st fun e st'=>match e with
   |.normal=>eJ P G rs v r st' Q
   |.exit j=>if j=id then eJ P G rs v r st' Q else Q (.exit j) st'
   |.ret=>True):eJ P G rs v l st Q:=by
 subst hl;refine sQ.block (sQ.mono (eJ.code h) fun e st' he q=>?_);cases e with
 |normal=>exact q
 |exit j=>exact q
 |ret=>exact absurd rfl he
theorem iG{n:Nat}{l:List (Nat×V)}{h h':List AO}(hh:dD QF h h'):cQ G (bS n l h) (bS n l h'):=UE ⟨rfl,hh⟩
theorem eJ.loop'{rs:List AR}{v:V}{id:Nat}{b:dG}{l r:List dG}{st:St}{Q:X→St→Prop}(hl:l=.block id (.loop b)::r){σ:Type}(C:σ→St)(I:σ→Prop)(μ:σ→Nat)(s0:σ)(hI:I s0)(hw:cQ G st (C s0))
  (step:∀s,I s→∀Q':X→St→Prop,(∀s' st',I s'→μ s'<μ s→cQ G st' (C s')→Q' .normal st')→(∀st',eJ P G rs v r st' Q→Q' (.exit id) st')→(∀j st',j≠id→Q (.exit j) st'→Q' (.exit j) st')→eJ P G rs v (eX b) (C s) Q'):eJ P G rs v l st Q:=
 eJ.loop hl C I μ s0 hI hw fun s hs=>step s hs _ (fun s' _ h1 h2 h3=>⟨s',h1,h2,h3⟩) (fun _ h=>by simpa using h) (fun j _ hj h=>by simpa[hj] using h)
theorem eJ.blk'{rs:List AR}{v:V}{id:Nat}{a:dG}{l r:List dG}{st:St}{Q:X→St→Prop}(hl:l=.block id a::r)
  (h:∀Q':X→St→Prop,(∀st',eJ P G rs v r st' Q→Q' .normal st')→(∀st',eJ P G rs v r st' Q→Q' (.exit id) st')→(∀j st',j≠id→Q (.exit j) st'→Q' (.exit j) st')→eJ P G rs v (eX a) st Q'):eJ P G rs v l st Q:=
 eJ.blk hl (h _ (fun _ h=>h) (fun _ h=>by simpa using h) (fun j _ hj h=>by simpa[hj] using h))
theorem oT{α:Type}[Inhabited α]{enc:α→Nat→PV}{L:List α}{sz n:Nat}{ρ:List Nat}{g:Nat→Nat→C}{x:α}(hn:L.length=n)(h:∀o,o<sz→g 0 o=.p (enc x o)){e o:Nat}(he:e<n+1)(ho:o<sz) :
  bP ρ (fC n (aQ enc L) g e o)=aQ enc (L++[x]) e o:=by
 unfold fC;subst hn
 by_cases h1:e<L.length
 ·rw[if_pos h1];show aQ enc L e o=_;unfold aQ aE;simp[cD h1]
 ·obtain rfl:e=L.length:=by omega
  rw[if_neg h1,Nat.sub_self,h o ho];show C.p _=_;unfold aQ aE;simp
end
def idC:C→Option Nat
 |.ptr id _=>some id
 |.rp id _ _ _=>some id
 |.sl id _ _ _=>some id
 |.mp id=>some id
 |_=>none
def aIM(o:Option Nat)(l:List Nat):List Nat:=match o with
 |some id=>match oL id l with
  |true=>l
  |false=>fB id l
 |none=>l
def aHW:List C→List Nat→List Nat
 |[],l=>l
 |c::r,l=>aHW r (aIM (idC c) l)
def aHV:List Bool→List V→List Nat→List Nat
 |true::k,.c x::r,l=>aHV k r (aIM (idC x) l)
 |true::k,.a cs::r,l=>aHV k r (aHW cs l)
 |_::k,_::r,l=>aHV k r l
 |_,_,l=>l
def YT(h:List AO):List Nat→List Nat→List Nat
 |[],l=>l
 |id::r,l=>match bF .gone h id with
  |.cells _ vs=>YT h r (aHW vs l)
  |.foc _ _ _ _ vs _=>YT h r (aHW vs l)
  |.mapl _ _ _ _ (some (_,c))=>YT h r (aIM (idC c) l)
  |.pin j _=>YT h r (aIM (some j) l)
  |_=>YT h r l
def aMM(h:List AO)(l:List Nat):List Nat:=YT h l l
def aut(keep:List Bool)(st:St):List Nat:=aMM st.h (aMM st.h (aMM st.h (aHV keep st.t [])))
def QE(keep:List Bool)(st:St):St:=match pS (aut keep st) with
 |true=>aL8 (aut keep st) keep st
 |false=>st
def iA(keep:List Bool)(rs:List AR)(e:X)(st:St):Tr:=match e with
 |.ret=>TI rs .ret st
 |e=>.done e (QE keep st)
section
variable {P:Program} {G:Nat→Option Obj} {rs:List AR} {v:V}
theorem fG(keep:List Bool)(st:St):cQ G st (QE keep st):=by
 unfold QE;split
 ·rename_i h;exact gU _ keep h st
 ·exact cQ.refl st
theorem zV{keep:List Bool}{e:X}{st:St}{K:X→St→Prop}(h:(iA keep rs e st).holds P G (KF v K)):∃st2,cQ G st st2∧RK P G rs v K e st2:=by
 cases e with
 |ret=>exact⟨st,cQ.refl st,DH h⟩
 |normal=>exact⟨_,fG keep st,h⟩
 |exit id=>exact⟨_,fG keep st,h⟩
theorem uB{ext:Ext}(hext:bH P G ext){keep:List Bool}:∀ {l:List dG} {st:St} {K:X→St→Prop},(dC ext l st (iA keep rs)).holds P G (KF v K)→eJ P G rs v l st K
 |[],st,K,h=>zV h
 |c::r,st,K,h=>by
  have h1:=jY.ev hext h
  refine sQ.post ?_;refine jY.post (jY.mono h1 fun e st' q=>?_);cases e with
  |normal=>exact⟨st',cQ.refl st',st',cQ.refl st',uB hext q⟩
  |ret=>
   obtain⟨st2,q1,q2⟩:=zV q;exact⟨st2,q1,q2⟩
  |exit id=>
   obtain⟨st2,q1,q2⟩:=zV q;exact⟨st2,q1,st2,cQ.refl st2,q2⟩
theorem eJ.evG{ext:Ext}(hext:bH P G ext)(n:Nat){keep:List Bool}{l:List dG}{st:St}{Q:X→St→Prop}{tree:Tr}(ht:dC ext (dH n l) st (iA keep rs)=tree)
  (h:tree.holds P G (KF v fun e st'=>match e with
   |.normal=>eJ P G rs v (bJ n l) st' Q
   |e=>Q e st')):eJ P G rs v l st Q:=by
 rw[←qH n l];subst ht;exact eJ.glue (uB hext h)
theorem eJ.evH{ext:Ext}(hext:bH P G ext){keep:List Bool}{l:List dG}{st:St}{Q:X→St→Prop}{tree:Tr}(ht:dC ext l st (iA keep rs)=tree)(h:tree.holds P G (KF v Q)):eJ P G rs v l st Q:=by
 subst ht;exact uB hext h
end
section
variable {P:Program} {G:Nat→Option Obj}
end
end Go.AE
