import Derived.Test.YtgdlaibocecehaaGreatDoorRVc
import Derived.Deep.LoopGhost
import Derived.KernelRfl
set_option linter.unusedVariables false
set_option linter.unusedSimpArgs false
namespace Go.AE
open _root_.Array renaming getElem?_toList→bC,replicate→fJ,toList_append→eN
open _root_.Bool renaming and_eq_true→aY
open _root_.List renaming getElem?_eq_none→bL,getElem?_eq_some_iff→aV,length_append→gC,mem_cons_of_mem→cV,mem_cons_self→dI,mem_of_getElem?→cL
open _root_.Nat renaming beq→bE,eq_of_beq_eq_true→aH,le_refl→aU,lt_of_lt_of_le→cI
open _root_.Option renaming bind_eq_bind→aE,bind_eq_some_iff→aB,isSome_iff_exists→fS,map_eq_some_iff→aM,pure_def→aK,some.injEq→aD
open Go.RowKit
inductive AR where
 |tmp (t:Nat)
 |cell (t:Nat) (n:Option Nat)
 |new (t:Nat)
def oX(P:Program):List ResultVar→Option (List AR)
 |[]=>some []
 |.tmp t::r=>(oX P r).map (.tmp t :: ·)
 |.cell t ty::r=>do pure (.cell t (←gI P ty)::(←oX P r))
def VW(h:List AO)(c:C)(k:PV→Tr):Tr:=match c with
 |.p x=>k x
 |.sl id sz off len=>match bN .gone h id with
  |.row _ sz' n f=>oN (bE sz sz') (.rq (off+len≤n∧∀e o,e<len→o<sz→BJ (f (e+off) o)=true) (k (.l sz len fun e o=>tE (f (e+off) o))))
  |_=>.fail
 |_=>.fail
def aBB(h:List AO):List C→(List PV→Tr)→Tr
 |[],k=>k []
 |c::r,k=>VW h c fun x=>aBB h r fun xs=>k (x::xs)
def aBA(h:List AO):V1→(V1→Tr)→Tr
 |.c x,k=>VW h x fun p=>k (.c (.p p))
 |.a cs,k=>aBB h cs fun ps=>k (.a (iP ps))
def aGW:V→Option V1
 |.c x=>some (.c x)
 |.a cs=>some (.a cs)
 |.t _=>none
def HW(st:St):AR→(V1→Tr)→Tr
 |.tmp t,k=>match aGW (bN (.c .top) st.t t) with
  |some v=>k v
  |none=>.fail
 |.cell t n,k=>match bN (.c .top) st.t t with
  |.c (.ptr id off)=>match bN .gone st.h id with
   |.cells _ vs=>oN (Nat.ble (off+gZ n) (fK vs)) (match aGW (BZ (bN .top vs) off n) with
    |some v=>k v
    |none=>.fail)
   |_=>.fail
  |_=>.fail
 |.new t,k=>match bN (.c .top) st.t t with
  |.c (.sl id sz off len)=>k (.c (.sl id sz off len))
  |.c (.p (.z (.slice none 0 0)))=>k (.c (.p (.z (.slice none 0 0))))
  |_=>.fail
def DE(st:St):List AR→(List V1→Tr)→Tr
 |[],k=>k []
 |r::rs,k=>HW st r fun v=>aBA st.h v fun v'=>DE st rs fun vs=>k (v'::vs)
def vI:List V1→V
 |[v]=>v.up
 |vs=>.t vs
def VZ(rs:List AR)(e:X)(st:St):Tr:=match e with
 |.exit _=>.fail
 |_=>DE st rs fun vs=>.done .ret ⟨[vI vs],[]⟩
section
variable {P:Program} {G:Nat→Option Obj} {β β':Bt} {R R':Nat→Prop} {w w':World} {st:St} {a:Act}
theorem PR.frz{x:PV}{u:Value}(h:PR R w x u):PR (frz β R) w x u:=PR.keep (fun _ hb=>.inl hb) (fun _ _=>rfl) x h
theorem GG(hh:HS G β R w st.h){c:C}{u:Value}(hc:CR β R w c u){k:PV→Tr}{K:X→St→Prop}(h:(VW st.h c k).holds P G K):∃p,PR (frz β R) w p u∧(k p).holds P G K:=by
 cases c with
 |p x=>exact⟨x,PR.frz hc,h⟩
 |sl id sz off len=>
  simp only[VW]at h;split at h
  ·rename_i ty sz' n f hid
   obtain⟨c1,⟨h1,h2⟩,h3⟩:=cE h;obtain rfl:=aH c1;refine⟨_,?_,h3⟩;obtain⟨A,c,rfl,g1,g2,g3⟩:=hc;refine⟨A,c,rfl,g1,g2,fun hn=>?_⟩
   rcases g3 with⟨_,g4,_⟩|⟨b,o0,g4,rfl,g7⟩
   ·omega
   ·have hob:=hh.obj id b o0 g4
    rw[hid]at hob;obtain⟨cs,g8,g80,g9,g10⟩:=hob;refine⟨_,rfl,.inr (.inl ⟨id,o0,g4⟩),fun e q he hq=>?_⟩;obtain⟨u,h5,h6⟩:=g10 (e+off) q (by omega) hq;refine⟨u,?_,?_⟩
    ·rw[add_mid,cell_of_row w b _ cs ty (0,0) g8,←h5]
     congr 1;rw[Nat.add_mul];omega
    ·have:=h2 e q he hq
     cases hf:f (e+off) q with
     |p x=>
      rw[hf]at h6
      show PR (frz β R) w (tE (f (e+off) q)) u
      rw[hf];exact PR.frz h6
     |own ty2 sz2 n2 f2=>
      rw[hf]at h6
      show PR (frz β R) w (tE (f (e+off) q)) u
      rw[hf];obtain⟨A,c,k1,k2,k3,k4⟩:=h6;refine⟨A,c,k1,k2,k3,fun hn=>?_⟩
      rcases k4 with⟨_,k5,_⟩|⟨b2,cs2,k5,k6,k7,k8,k9⟩
      ·omega
      ·refine⟨_,k5,.inr (.inr ⟨_,k6⟩),fun e2 o2 he2 ho2=>?_⟩
       obtain⟨u2,r1,r2⟩:=k9 e2 o2 he2 ho2;exact⟨u2,by rw[add_mid,cell_of_row w b2 _ cs2 ty2 (0,0) k7,Nat.zero_add];exact r1,PR.frz r2⟩
     |_=>rw[hf]at this;cases this
  ·exact h.elim
 |_=>exact h.elim
theorem GF(hh:HS G β R w st.h):∀ {cs:List C} {us:List Value} (_:All2 (CR β R w) cs us) {k:List PV→Tr} {K:X→St→Prop} (_:(aBB st.h cs k).holds P G K),∃ps,All2 (PR (frz β R) w) ps us∧(k ps).holds P G K
 |[],[],_,k,K,h=>⟨[],trivial,h⟩
 |[],_::_,hc,_,_,_=>hc.elim
 |_::_,[],hc,_,_,_=>hc.elim
 |c::cs,u::us,hc,k,K,h=>by
  simp only[aBB]at h;obtain⟨p,h1,h2⟩:=GG hh hc.1 h;obtain⟨ps,h3,h4⟩:=GF hh hc.2 h2;exact⟨p::ps,⟨h1,h3⟩,h4⟩
theorem QN:∀ {ps:List PV} {us:List Value},All2 (PR R w) ps us→All2 (CR β R w) (iP ps) us
 |[],[],_=>trivial
 |[],_::_,h=>h.elim
 |_::_,[],h=>h.elim
 |_::_,_::_,h=>⟨h.1,QN h.2⟩
theorem JT:∀ps:List PV,DL (iP ps)=true
 |[]=>rfl
 |_::r=>by simp[iP,DL,isP,JT r]
theorem GE(hh:HS G β R w st.h){v:V1}{u:Value}(hc:BO β R w v u){k:V1→Tr}{K:X→St→Prop}(h:(aBA st.h v k).holds P G K):∃v',BO β' (frz β R) w v' u∧TO v'=true∧(k v').holds P G K:=by
 cases v with
 |c x=>
  obtain⟨p,h1,h2⟩:=GG hh hc h;exact⟨.c (.p p),h1,rfl,h2⟩
 |a cs=>
  obtain⟨us,rfl,h0⟩:=hc;obtain⟨ps,h1,h2⟩:=GF hh h0 h;exact⟨.a (iP ps),⟨us,rfl,QN h1⟩,JT ps,h2⟩
def runR(tmps:Array Value):ResultVar→Sem Value
 |.tmp t=>pure (tmps.getD t undef)
 |.cell a t=>do loadVar t (←asAddr (tmps.getD a undef))
theorem CO{v:V}{v1:V1}{u:Value}(h:VR β R w v u)(hv:aGW v=some v1):BO β R w v1 u:=by
 cases v<;>simp only[aGW,aD]at hv
 ·subst hv;exact h
 ·subst hv;exact h
 ·cases hv
theorem vY(hs:eC G β R st a w):∀(frs:List ResultVar) (rs:List AR) (_:oX P frs=some rs) {k:List V1→Tr} {K:X→St→Prop} (_:(DE st rs k).holds P G K),
  ∃us vs,(frs.mapM (runR a.tmps)).run P w=.ok us w∧All2 (BO β' (frz β R) w) vs us∧sB vs=true∧(k vs).holds P G K
 |[],rs,hr,k,K,h=>by
  simp only[oX,aD]at hr;subst hr;exact⟨[],[],by simp,trivial,rfl,h⟩
 |.tmp t::frs,rs,hr,k,K,h=>by
  simp only[oX,aM]at hr;obtain⟨rs',hr,rfl⟩:=hr;simp only[DE,HW]at h;split at h
  ·rename_i v hv
   have hval:=CO (aR (x:=.tmp t) hs rfl) hv
   obtain⟨v',h1,h2,h3⟩:=GE (β':=β') hs.hs hval h;obtain⟨us,vs,h4,h5,h6,h7⟩:=vY hs frs rs' hr h3;refine⟨_::us,v'::vs,?_,⟨h1,h5⟩,by simp[sB,h2,h6],h7⟩;simp[List.mapM_cons,runR,h4,Act.eval]
  ·exact h.elim
 |.cell t ty::frs,rs,hr,k,K,h=>by
  simp only[oX,aE,aB,aK,aD]at hr;obtain⟨n,hn,rs',hr,rfl⟩:=hr;simp only[DE,HW]at h;split at h
  ·rename_i id off hp
   split at h
   ·rename_i ty' vs hid
    obtain⟨c1,c2⟩:=cE h;split at c2
    ·rename_i v hv
     have hptr:=aR (x:=.tmp t) hs rfl
     have e:st.ev (.t t)=.c (.ptr id off):=hp
     rw[e]at hptr;obtain⟨b,o0,g1,g2⟩:=hptr
     have hob:=hs.hs.obj id b o0 g1
     rw[hid]at hob;obtain⟨cs,g3,g4⟩:=hob
     have hlen:off+gZ n≤vs.length:=by rw[fH]at c1;simpa using c1
     have hsz:vs.length=cs.size:=by simpa using g4.length
     have hl:(cs.extract off (off+gZ n)).toList.length=gZ n:=by simp;omega
     have g2:a.tmps.getD t undef=.pointer (some ⟨b,off,none⟩):=g2
     have hrun:=run_load_gen (P:=P) (w:=w) hn hl (World.rangeAt_of_block g3 off (gZ n))
     have hrun:(loadVar ty ⟨b,off,none⟩).run P w=.ok (ldV (cs.extract off (off+gZ n)).toList n) w:=by
      simpa[Instr.loadAt,Instr.sureAddr] using hrun
     have hval:VR β R w (BZ (bN .top vs) off n) (ldV (cs.extract off (off+gZ n)).toList n):=iX hl (fun j u hu=>by
      have hj:j<gZ n:=by have:=(aV.1 hu).1;omega
      refine g4.nth_get ?_
      rw[←hu,bC,bC,Array.getElem?_extract,if_pos (by omega)])
     obtain⟨v',h1,h2,h3⟩:=GE (β':=β') hs.hs (CO hval hv) c2;obtain⟨us,vs',h4,h5,h6,h7⟩:=vY hs frs rs' hr h3;refine⟨_::us,v'::vs',?_,⟨h1,h5⟩,by simp[sB,h2,h6],h7⟩
     have hra:(runR a.tmps (.cell t ty)).run P w=.ok (ldV (cs.extract off (off+gZ n)).toList n) w:=by
      show (do loadVar ty (←asAddr (a.tmps.getD t undef))).run P w=_
      rw[g2];simp only[asAddr,pure_bind];exact hrun
     rw[List.mapM_cons,Sem.run_bind,hra,Result.andThen_ok,Sem.run_bind,h4];rfl
    ·exact c2.elim
   ·exact h.elim
  ·exact h.elim
def oneU:List Value→Value
 |[u]=>u
 |us=>.tuple us.toArray
theorem results_eq(fn:Func)(tmps:Array Value){us:List Value}(h:(fn.results.toList.mapM (runR tmps)).run P w=.ok us w):(results fn tmps).run P w=.ok (oneU us) w:=by
 have e:results fn tmps=(do let vs ←fn.results.mapM (runR tmps);pure (if h:vs.size=1 then vs[0] else .tuple vs)):=by
  unfold results;congr 1
 rw[e,Array.mapM_eq_mapM_toList];simp only[Sem.run_bind,Sem.run_map,h,Result.andThen_ok]
 match us with
 |[]=>rfl
 |[u]=>rfl
 |u::v::r=>simp[oneU]
theorem wB:∀ {vs:List V1} {us:List Value} (_:All2 (BO β R w) vs us),VR β R w (vI vs) (oneU us)
 |[],[],_=>⟨#[],rfl,trivial⟩
 |[_],[_],h=>BO.up h.1
 |_::_::_,_::_::_,h=>⟨_,rfl,h⟩
 |[],_::_,h=>h.elim
 |_::_,[],h=>h.elim
 |[_],_::_::_,h=>h.2.elim
 |_::_::_,[_],h=>h.2.elim
theorem JL:∀ {vs:List V1},sB vs=true→oU (vI vs)=true
 |[],_=>rfl
 |[v],h=>by
  simp only[sB,Bool.and_true]at h;cases v<;>exact h
 |_::_::_,h=>h
theorem vW(n:Nat):All2 (VR β R w) (List.replicate n (.t [])) (List.replicate n undef):=by
 induction n with
 |zero=>exact trivial
 |succ n ih=>rw[List.replicate_succ,List.replicate_succ];exact⟨qD,ih⟩
end
def kA(id:Nat):List Nat→Nat→Option Nat
 |[],_=>none
 |j::r,n=>match bE j id with
  |true=>some n
  |false=>kA id r (n+1)
def aAA(ρ:List Nat):B→Option B
 |.p x=>some (.p x)
 |.ptr id off=>(kA id ρ 0).map fun j=>.ptr j off
def DG(ρ:List Nat):List B→Option (List B)
 |[]=>some []
 |b::r=>match aAA ρ b,DG ρ r with
  |some b',some r'=>some (b'::r')
  |_,_=>none
def fG(ρ:List Nat):C→C
 |.p x=>.p x
 |.ptr id off=>match kA id ρ 0 with
  |some j=>.ptr j off
  |none=>.top
 |.rp id sz e o=>match kA id ρ 0 with
  |some j=>.rp j sz e o
  |none=>.top
 |.lp sz n f e o=>.lp sz n f e o
 |.sl id sz off len=>match kA id ρ 0 with
  |some j=>.sl j sz off len
  |none=>.top
 |.mp id=>match kA id ρ 0 with
  |some j=>.mp j
  |none=>.top
 |.fn f fs cs=>match DG ρ fs,DG ρ cs with
  |some fs',some cs'=>.fn f fs' cs'
  |_,_=>.top
 |.own ty sz n f=>.own ty sz n f
 |.top=>.top
def xI(ρ:List Nat):List C→List C
 |[]=>[]
 |c::r=>fG ρ c::xI ρ r
def aPW(ρ:List Nat):V→V
 |.c x=>.c (fG ρ x)
 |.a cs=>.a (xI ρ cs)
 |.t _=>.c .top
def aWY(ρ:List Nat):Option (Value×C)→Option (Value×C)
 |some (k,c)=>some (k,fG ρ c)
 |none=>none
def aA9(ρ:List Nat):AO→AO
 |.cells ty vs=>.cells ty (xI ρ vs)
 |.row ty sz n f=>.row ty sz n fun e o=>fG ρ (f e o)
 |.foc ty sz n e0 vs f=>.foc ty sz n e0 (xI ρ vs) fun e o=>fG ρ (f e o)
 |.mapb ok g=>.mapb ok g
 |.mapl ok ty sz g fo=>.mapl ok ty sz g (aWY ρ fo)
 |.pin j b0=>match kA j ρ 0 with
  |some j'=>.pin j' b0
  |none=>.gone
 |.gone=>.gone
def xL(ρ:List Nat):List Bool→List V→List V
 |_,[]=>[]
 |[],_::r=>.c .top::xL ρ [] r
 |true::k,v::r=>aPW ρ v::xL ρ k r
 |false::k,_::r=>.c .top::xL ρ k r
def oE(ρ:List Nat)(h:List AO):List Nat→List AO
 |[]=>[]
 |id::r=>aA9 ρ (bN .gone h id)::oE ρ h r
def aMF(ρ:List Nat)(keep:List Bool)(st:St):St:=⟨xL ρ keep st.t,oE ρ st.h ρ⟩
def rK(id:Nat):List Nat→Bool
 |[]=>false
 |j::r=>bE j id||rK id r
def qJ:List Nat→Bool
 |[]=>true
 |j::r => !rK j r&&qJ r
section
variable {P:Program} {G:Nat→Option Obj} {β β':Bt} {R R':Nat→Prop} {w w':World} {st:St} {a:Act}
def cW(G:Nat→Option Obj)(st st2:St):Prop:=∀β R a w,eC G β R st a w→∃β2 R2,eC G β2 R2 st2 a w∧Fr β R w β2 R2 w∧∀b,R b→R2 b
theorem cW.trans{s1 s2 s3:St}(h:cW G s1 s2)(k:cW G s2 s3):cW G s1 s3:=by
 intro β R a w hs;obtain⟨β2,R2,h1,h2,h3⟩:=h β R a w hs;obtain⟨β3,R3,h4,h5,h6⟩:=k β2 R2 a w h1;exact⟨β3,R3,h4,h2.trans h5 h3,fun b hb=>h6 b (h3 b hb)⟩
def bρ(ρ:List Nat)(β:Bt):Bt:=⟨fun j=>(ρ[j]?).bind β.f,β.q⟩
theorem pO{id:Nat}:∀ {ρ:List Nat} {n j:Nat},kA id ρ n=some j→n≤j∧ρ[j-n]?=some id
 |[],_,_,h=>by cases h
 |k::r,n,j,h=>by
  simp only[kA]at h;cases hb:bE k id with
  |true=>
   rw[hb]at h;injection h with h;subst h;exact⟨aU _,by simp[aH hb]⟩
  |false=>
   rw[hb]at h;obtain⟨h1,h2⟩:=pO h;refine⟨by omega,?_⟩;rw[show j-n=(j-(n+1))+1 by omega];simpa using h2
theorem LE{ρ:List Nat}{id j:Nat}(h:kA id ρ 0=some j):bρ ρ β j=β id:=by
 have:=(pO h).2
 simp only[Nat.sub_zero]at this;simp[bρ,this]
theorem DH{ρ:List Nat}{x y:B}{u:Value}(hy:aAA ρ x=some y)(h:BR β R w x u):BR (bρ ρ β) R w y u:=by
 cases x with
 |p x=>simp only[aAA,aD]at hy;subst hy;exact h
 |ptr id off=>
  simp only[aAA,aM]at hy;obtain⟨j,hj,rfl⟩:=hy;obtain⟨b,o,h1,h2⟩:=h;exact⟨b,o,(LE hj).trans h1,h2⟩
theorem tO{ρ:List Nat}:∀ {xs ys:List B} {us:List Value} (_:DG ρ xs=some ys) (_:All2 (BR β R w) xs us),All2 (BR (bρ ρ β) R w) ys us
 |[],ys,us,hy,h=>by
  simp only[DG,aD]at hy;subst hy;cases us<;>exact h
 |x::xs,ys,us,hy,h=>by
  simp only[DG]at hy;cases h1:aAA ρ x with
  |none=>simp[h1]at hy
  |some y=>
   cases h2:DG ρ xs with
   |none=>simp[h1,h2]at hy
   |some ys'=>
    simp only[h1,h2,aD]at hy;subst hy;cases us with
    |nil=>exact h.elim
    |cons u us=>exact⟨DH h1 h.1,tO h2 h.2⟩
theorem lZ{ρ:List Nat}{x:C}{u:Value}(h:CR β R w x u):CR (bρ ρ β) R w (fG ρ x) u:=by
 cases x with
 |p x=>exact h
 |ptr id off=>
  simp only[fG];split
  ·rename_i j hj;obtain⟨b,o,h1,h2⟩:=h;exact⟨b,o,(LE hj).trans h1,h2⟩
  ·exact trivial
 |rp id sz e o=>
  simp only[fG];split
  ·rename_i j hj;obtain⟨b,o,h1,h2⟩:=h;exact⟨b,o,(LE hj).trans h1,h2⟩
  ·exact trivial
 |lp sz n f e o=>exact h
 |sl id sz off len=>
  simp only[fG];split
  ·rename_i j hj
   obtain⟨A,c,h1,h2,h3,h4⟩:=h;refine⟨A,c,h1,h2,h3,?_⟩
   rcases h4 with h4|⟨b,N,h5,h6,h7⟩
   ·exact .inl h4
   ·exact .inr ⟨b,N,(LE hj).trans h5,h6,h7⟩
  ·exact trivial
 |mp id=>
  simp only[fG];split
  ·rename_i j hj;obtain⟨b,N,h1,h2⟩:=h;exact⟨b,N,(LE hj).trans h1,h2⟩
  ·exact trivial
 |fn f fs cs=>
  simp only[fG];obtain⟨us,vs,h1,h2,h3⟩:=h;split
  ·rename_i fs' cs' hf hc;exact⟨us,vs,h1,tO hf h2,tO hc h3⟩
  ·exact trivial
 |own=>exact trivial
 |top=>exact trivial
theorem qG{ρ:List Nat}{ad:Nat×Nat}{x:C}{u:Value}(h:rS β R w ad x u):rS (bρ ρ β) R w ad (fG ρ x) u:=by
 cases hx:x.isOwn with
 |true=>cases x<;>first|exact h|cases hx
 |false=>
  refine rS.of ?_ (lZ h.cr)
  cases x<;>first|rfl|(simp only[fG];split<;>rfl)|cases hx
theorem JD{ρ:List Nat}:∀(vs:List C) (k:Nat),bN .top (xI ρ vs) k=fG ρ (bN .top vs k)
 |[],_=>rfl
 |_::_,0=>rfl
 |_::r,k+1=>JD r k
theorem xH{ρ:List Nat}:∀vs:List C,(xI ρ vs).length=vs.length
 |[]=>rfl
 |_::r=>by simp[xI,xH r]
theorem tN{ρ:List Nat}:∀ {xs:List C} {us:List Value} (_:All2 (CR β R w) xs us),All2 (CR (bρ ρ β) R w) (xI ρ xs) us
 |[],[],_=>trivial
 |[],_::_,h=>h.elim
 |_::_,[],h=>h.elim
 |_::_,_::_,h=>⟨lZ h.1,tN h.2⟩
theorem TK{ρ:List Nat}{x:V}{u:Value}(h:VR β R w x u):VR (bρ ρ β) R w (aPW ρ x) u:=by
 cases x with
 |c x=>exact lZ h
 |a cs=>obtain⟨us,h1,h2⟩:=h;exact⟨us,h1,tN h2⟩
 |t vs=>exact trivial
theorem qI{ρ:List Nat}:∀ {keep:List Bool} {xs:List V} {us:List Value} (_:All2 (VR β R w) xs us),All2 (VR (bρ ρ β) R w) (xL ρ keep xs) us
 |_,[],[],_=>by simp only[xL];exact trivial
 |_,[],_::_,h=>h.elim
 |_,_::_,[],h=>h.elim
 |[],_::_,_::_,h=>by simp only[xL];exact⟨trivial,qI h.2⟩
 |true::k,_::_,_::_,h=>by simp only[xL];exact⟨TK h.1,qI h.2⟩
 |false::k,_::_,_::_,h=>by simp only[xL];exact⟨trivial,qI h.2⟩
theorem DF{ρ:List Nat}{x:AO}{b o:Nat}(h:OR β R w x b o):OR (bρ ρ β) R w (aA9 ρ x) b o:=by
 cases x with
 |cells ty vs=>obtain⟨cs,h2,h3⟩:=h;exact⟨cs,h2,tN h3⟩
 |row ty sz n f=>
  obtain⟨cs,h1,h0,h2,h3⟩:=h;refine⟨cs,h1,h0,h2,fun e k he hk=>?_⟩;obtain⟨u,h4,h5⟩:=h3 e k he hk;exact⟨u,h4,qG h5⟩
 |foc ty sz n e0 vs f=>
  obtain⟨cs,h1,h0,h2,h21,h22,h3⟩:=h;refine⟨cs,h1,h0,h2,h21,by rw[xH];exact h22,fun e k he hk=>?_⟩;obtain⟨u,h4,h5,h6⟩:=h3 e k he hk;exact⟨u,h4,fun h=>by rw[JD];exact lZ (h5 h),fun h=>qG (h6 h)⟩
 |mapb ok g=>exact h
 |mapl ok ty sz g fo=>
  obtain⟨es,cl,h2,h3,h4,h5⟩:=h;cases fo with
  |none=>
   refine⟨es,cl,h2,h3,fun i e he=>?_,fun k0 hk0=>?_⟩
   ·obtain⟨q1,q2,q3⟩:=h4 i e he
    exact⟨q1,fun k0 c h1=>(by cases h1),fun _=>qG (q3 (fun _ _ h=>by cases h))⟩
   ·obtain⟨q1,q2⟩:=h5 k0 hk0
    exact⟨fun k1 c h1=>(by cases h1),fun _=>q2 (fun _ _ h=>by cases h)⟩
  |some kc=>
   obtain⟨k9,c9⟩:=kc;refine⟨es,cl,h2,h3,fun i e he=>?_,fun k0 hk0=>?_⟩
   ·obtain⟨q1,q2,q3⟩:=h4 i e he
    refine⟨q1,fun k0 c h1 h2=>?_,fun h1=>qG (q3 fun k0 c h2=>?_)⟩
    ·injection h1 with h1;injection h1 with h1 h3;subst h1;subst h3
     exact lZ (q2 _ _ rfl h2)
    ·injection h2 with h2;injection h2 with h2 h3;subst h2;subst h3
     exact h1 _ _ rfl
   ·obtain⟨q1,q2⟩:=h5 k0 hk0
    refine⟨fun k1 c h1 h2=>?_,fun h1=>q2 fun k1 c h2=>?_⟩
    ·injection h1 with h1;injection h1 with h1 h3;subst h1;subst h3
     exact lZ (q1 _ _ rfl h2)
    ·injection h2 with h2;injection h2 with h2 h3;subst h2;subst h3
     exact h1 _ _ rfl
 |pin j b0=>
  obtain⟨h1,o1,h2⟩:=h
  show OR _ _ _ (match kA j ρ 0 with
   |some j'=>AO.pin j' b0
   |none=>.gone) _ _
  cases hi:kA j ρ 0 with
  |none=>exact trivial
  |some j'=>exact⟨h1,o1,(LE hi).trans h2⟩
 |gone=>exact trivial
theorem uP{ρ:List Nat}{x:AO}:(aA9 ρ x).live=x.live:=by
 cases x with
 |pin j b0=>
  show (match kA j ρ 0 with
   |some j'=>AO.pin j' b0
   |none=>.gone).live=false
  cases kA j ρ 0<;>rfl
 |_=>rfl
theorem nI{ρ:List Nat}{h:List AO}:∀ {l:List Nat} {j id:Nat},l[j]?=some id→bN .gone (oE ρ h l) j=aA9 ρ (bN .gone h id)
 |[],_,_,hj=>by simp at hj
 |k::l,0,id,hj=>by simp at hj;subst hj;rfl
 |k::l,j+1,id,hj=>by simpa[oE,bN] using nI (l:=l) (j:=j) (by simpa using hj)
theorem sC{ρ:List Nat}{h:List AO}:∀l:List Nat,(oE ρ h l).length=l.length
 |[]=>rfl
 |_::l=>by simp[oE,sC l]
theorem rJ{id:Nat}:∀ {l:List Nat},rK id l=true↔id∈l
 |[]=>by simp[rK]
 |j::r=>by
  simp only[rK,Bool.or_eq_true,List.mem_cons,rJ (l:=r)];constructor
  ·rintro (h|h)
   ·exact .inl (aH h).symm
   ·exact .inr h
  ·rintro (h|h)
   ·exact .inl (by rw[h];exact Nat.beq_refl j)
   ·exact .inr h
theorem zE:∀ {l:List Nat},qJ l=true→∀ {i j x:Nat},l[i]?=some x→l[j]?=some x→i=j
 |[],_,_,_,_,h,_=>by simp at h
 |k::l,hd,i,j,x,hi,hj=>by
  simp only[qJ,aY,Bool.not_eq_true']at hd
  have hk:k ∉ l:=fun h=>by rw[rJ.2 h]at hd;cases hd.1
  cases i with
  |zero=>
   cases j with
   |zero=>rfl
   |succ j=>
    simp at hi hj;subst hi;exact absurd (cL hj) hk
  |succ i=>
   cases j with
   |zero=>
    simp at hi hj;subst hj;exact absurd (cL hi) hk
   |succ j=>simp at hi hj;exact congrArg (· + 1) (zE hd.2 hi hj)
theorem rC(ρ:List Nat)(keep:List Bool)(hn:qJ ρ=true)(st:St):cW G st (aMF ρ keep st):=by
 intro β R a w hs
 have key:∀ {j:Nat} {x:Nat×Nat},bρ ρ β j=some x→∃id,ρ[j]?=some id∧β id=some x:=by
  intro j x hj;simp only[bρ,aB]at hj;exact hj
 refine⟨bρ ρ β,R,⟨hs.df,qI hs.tm,⟨?_,?_,?_,?_,hs.hs.rlt,?_,hs.hs.gl,?_⟩⟩,?_,fun _ hb=>hb⟩
 ·intro j x hj
  obtain⟨id,h1,_⟩:=key hj
  show j<(oE ρ st.h ρ).length
  rw[sC];exact(aV.1 h1).1
 ·intro i j b o o' hi hj li lj
  obtain⟨id,h1,h2⟩:=key hi;obtain⟨jd,h3,h4⟩:=key hj
  have li:(bN .gone (oE ρ st.h ρ) i).live=true:=li
  have lj:(bN .gone (oE ρ st.h ρ) j).live=true:=lj
  rw[nI h1,uP]at li;rw[nI h3,uP]at lj
  have:=hs.hs.inj id jd b o o' h2 h4 li lj
  subst this;exact zE hn h1 h3
 ·intro i b o hi li
  obtain⟨id,h1,h2⟩:=key hi
  have li:(bN .gone (oE ρ st.h ρ) i).live=true:=li
  rw[nI h1,uP]at li;exact hs.hs.sep id b o h2 li
 ·intro i b o hi
  obtain⟨id,h1,h2⟩:=key hi;exact hs.hs.lt id b o h2
 ·intro i b o hi
  obtain⟨id,h1,h2⟩:=key hi
  show OR _ _ _ (bN .gone (oE ρ st.h ρ) i) b o
  rw[nI h1];exact DF (hs.hs.obj id b o h2)
 ·intro b ad hb
  obtain⟨h1,h2,h3⟩:=hs.hs.ql b ad hb;refine⟨h1,h2,fun i o hi=>?_⟩;obtain⟨id,h4,h5⟩:=key hi
  show (bN .gone (oE ρ st.h ρ) i).live=false
  rw[nI h4,uP];exact h3 id o h5
 ·refine⟨rfl,rfl,rfl,aU _,fun _ _=>rfl,fun _ _ _=>rfl,?_,fun _ hb=>.inl hb⟩
  rintro b (⟨i,o,hi⟩|hi)
  ·obtain⟨id,_,h2⟩:=key hi
   exact .inl (.inl ⟨id,o,h2⟩)
  ·exact .inl (.inr hi)
def WU:AO→AO→Prop
 |.row ty sz n f,.row ty' sz' n' f'=>ty=ty'∧sz=sz'∧n=n'∧∀e o,e<n→o<sz→f e o=f' e o
 |.foc ty sz n e0 vs f,.foc ty' sz' n' e0' vs' f'=>ty=ty'∧sz=sz'∧n=n'∧e0=e0'∧vs=vs'∧∀e o,e<n→e≠e0→o<sz→f e o=f' e o
 |x,y=>x=y
def aXM(s s':St):Prop:=s.t=s'.t∧All2 WU s.h s'.h
theorem WU.sound{x y:AO}(h:WU x y){b o:Nat}(hx:OR β R w x b o):OR β R w y b o:=by
 cases x with
 |row ty sz n f=>
  cases y with
  |row ty' sz' n' f'=>
   obtain⟨rfl,rfl,rfl,h4⟩:=h;obtain⟨cs,h1,h0,h2,h3⟩:=hx;refine⟨cs,h1,h0,h2,fun e k he hk=>?_⟩;rw[←h4 e k he hk];exact h3 e k he hk
  |_=>cases h
 |cells ty vs=>cases y<;>first|(have h:AO.cells ty vs=_:=h;rw[←h];exact hx)|cases h
 |foc ty sz n e0 vs f=>
  cases y with
  |foc ty' sz' n' e0' vs' f'=>
   obtain⟨rfl,rfl,rfl,rfl,rfl,h4⟩:=h;obtain⟨cs,h1,h0,h2,h21,h22,h3⟩:=hx;refine⟨cs,h1,h0,h2,h21,h22,fun e k he hk=>?_⟩;obtain⟨u,h5,h6,h7⟩:=h3 e k he hk;exact⟨u,h5,h6,fun hne=>by rw[←h4 e k he hne hk];exact h7 hne⟩
  |_=>cases h
 |mapb ok g=>cases y<;>first|(have h:AO.mapb ok g=_:=h;rw[←h];exact hx)|cases h
 |mapl ok ty sz g fo=>cases y<;>first|(have h:AO.mapl ok ty sz g fo=_:=h;rw[←h];exact hx)|cases h
 |pin j b0=>cases y<;>first|(have h:AO.pin j b0=_:=h;rw[←h];exact hx)|cases h
 |gone=>cases y<;>first|exact hx|cases h
theorem WU.live_{x y:AO}(h:WU x y):x.live=y.live:=by cases x<;>cases y<;>first|rfl|cases h
theorem WU.nth_:∀ {hs hs':List AO} (_:All2 WU hs hs') (i:Nat),WU (bN .gone hs i) (bN .gone hs' i)
 |[],[],_,_=>rfl
 |[],_::_,h,_=>h.elim
 |_::_,[],h,_=>h.elim
 |_::_,_::_,h,0=>h.1
 |_::_,_::_,h,i+1=>WU.nth_ h.2 i
theorem aGS{s s':St}(h:aXM s s'):cW G s s':=by
 intro β R a w hs;obtain⟨h1,h2⟩:=h;refine⟨β,R,⟨hs.df,h1▸hs.tm,⟨?_,?_,?_,hs.hs.lt,hs.hs.rlt,?_,hs.hs.gl,fun b ad hb=>⟨(hs.hs.ql b ad hb).1,(hs.hs.ql b ad hb).2.1,fun i o hi=>by rw[←(WU.nth_ h2 i).live_];exact(hs.hs.ql b ad hb).2.2 i o hi⟩⟩⟩,Fr.refl _ _ _,fun _ hb=>hb⟩
 ·intro i x hi;rw[←h2.length];exact hs.hs.dom i x hi
 ·intro i j b o o' hi hj li lj
  rw[←(WU.nth_ h2 i).live_]at li;rw[←(WU.nth_ h2 j).live_]at lj;exact hs.hs.inj i j b o o' hi hj li lj
 ·intro i b o hi li
  rw[←(WU.nth_ h2 i).live_]at li;exact hs.hs.sep i b o hi li
 ·intro i b o hi;exact(WU.nth_ h2 i).sound (hs.hs.obj i b o hi)
end
section
variable {P:Program} {G:Nat→Option Obj}
def jV(P:Program)(G:Nat→Option Obj)(ac:dA)(st:St)(K:X→St→Prop):Prop:=∀c,dB P c=some ac→Ex P G c st K
theorem QX.mono{K K':X→St→Prop}(hk:∀e st,K e st→K' e st){β:Bt}{R:Nat→Prop}{w:World}{e:Exit}{a2:Act}{w2:World}(h:QX G K β R w e a2 w2):QX G K' β R w e a2 w2:=by
 have key:∀x,Po G K β R w x a2 w2→Po G K' β R w x a2 w2:=fun x ⟨β',R',st',h1,h2⟩=>⟨β',R',st',hk _ _ h1,h2⟩
 cases e with
 |normal=>exact key _ h
 |exit id=>exact key _ h
 |ret=>exact key _ h
 |_=>exact h
theorem jV.mono{ac:dA}{st:St}{K K':X→St→Prop}(h:jV P G ac st K)(hk:∀e st,K e st→K' e st):jV P G ac st K':=
 fun c hc β R a w hs=>Code.wp_mono (fun _ _ _ q=>QX.mono hk q) (h c hc β R a w hs)
theorem jV.pre{ac:dA}{st st2:St}{K:X→St→Prop}(hw:cW G st st2)(h:jV P G ac st2 K):jV P G ac st K:=by
 intro c hc β R a w hs;obtain⟨β2,R2,h1,h2,h3⟩:=hw β R a w hs;exact Code.wp_mono (fun _ _ _ q=>QX.trans q h2 h3) (h c hc β2 R2 a w h1)
theorem jV.post{ac:dA}{st:St}{K:X→St→Prop}(h:jV P G ac st fun e st'=>∃st2,cW G st' st2∧K e st2):jV P G ac st K:=by
 intro c hc β R a w hs;refine Code.wp_mono ?_ (h c hc β R a w hs);intro e a2 w2 hq
 have key:∀x,Po G (fun e st'=>∃st2,cW G st' st2∧K e st2) β R w x a2 w2→Po G K β R w x a2 w2:=by
  rintro x ⟨β',R',st',⟨st2,hw,hk⟩,h2,h3,h4⟩;obtain⟨β2,R2,q1,q2,q3⟩:=hw β' R' a2 w2 h2;exact⟨β2,R2,st2,hk,q1,h3.trans q2 h4,fun b hb=>q3 b (h4 b hb)⟩
 cases e with
 |normal=>exact key _ hq
 |exit id=>exact key _ hq
 |ret=>exact key _ hq
 |_=>exact hq
theorem jV.ev{ext:Ext}(hext:bO P G ext){ac:dA}{st:St}{k:X→St→Tr}{K:X→St→Prop}(h:(WC ext ac st k).holds P G K):jV P G ac st fun e st'=>(k e st').holds P G K:=
 fun c hc=>aBG hext c ac hc st k K h
def dA.isReg:dA→Bool
 |.reg .. | .regd .. | .regm .. | .regx .. | .raw .. => true
 |_=>false
theorem oY{id:Nat}{ops:Array Oper}{draw:Bool}{ac:dA}(hc:dB P (.region id ops draw)=some ac):ac.isReg=true:=by
 simp only[dB]at hc;split at hc
 case h_2=>injection hc with hc;subst hc;rfl
 rename_i ac' hc1;injection hc with hc;subst hc;cases draw with
 |false=>
  simp only[SH,aM]at hc1;obtain⟨al,_,rfl⟩:=hc1;rfl
 |true=>
  simp only[SH]at hc1;split at hc1
  ·simp only[aE,aB,aK,aD]at hc1
   obtain⟨al,_,hc1⟩:=hc1;split at hc1
   ·injection hc1 with hc1;subst hc1;rfl
   ·cases hc1
  ·cases hc1
theorem jV.core{ac:dA}{st:St}{K:X→St→Prop}(h:∀c,(∀c',c≠.scope c')→dB P c=some ac→Ex P G c st K):jV P G ac st K:=by
 intro c;induction c with
 |scope c ih=>exact fun hc=>RV (ih (by simpa only[dB] using hc))
 |_=>exact fun hc=>h _ (by intro c' e;cases e) hc
theorem jV.seq{a b:dA}{st:St}{K1 K:X→St→Prop}(h:jV P G a st K1)(hn:∀st',K1 .normal st'→jV P G b st' K)(hx:∀e st',e≠.normal→K1 e st'→K e st'):jV P G (.seq a b) st K:=by
 refine jV.core fun c hns hc=>?_
 cases c with
 |scope c'=>exact absurd rfl (hns c')
 |seq x y=>
  simp only[dB,aE,aB,aK,aD]at hc;obtain⟨ax,h1,ay,h2,h3⟩:=hc;injection h3 with e1 e2;subst e1;subst e2;intro β R a w hs
  refine wp_seq (Code.wp_mono ?_ (h x h1 β R a w hs));intro e a' w' hq
  cases e with
  |normal=>
   obtain⟨β',R',st',q1,q2,q3,q4⟩:=hq;exact Code.wp_mono (fun e a2 w2 q=>QX.trans q q3 q4) (hn st' q1 y h2 β' R' a' w' q2)
  |exit id=>obtain⟨β',R',st',q1,q2⟩:=hq;exact⟨β',R',st',hx _ _ (by simp) q1,q2⟩
  |ret=>obtain⟨β',R',st',q1,q2⟩:=hq;exact⟨β',R',st',hx _ _ (by simp) q1,q2⟩
  |_=>exact hq
 |region id ops draw=>cases oY hc
 |cond x c1 c2=>cases h1:cX x<;>cases h2:dB P c1<;>cases h3:dB P c2<;>simp[dB,h1,h2,h3]at hc
 |block id c=>cases h1:dB P c<;>simp[dB,h1]at hc
 |loop c=>cases h1:dB P c<;>simp[dB,h1]at hc
 |_=>simp[dB]at hc
theorem jV.block{id:Nat}{a:dA}{st:St}{K:X→St→Prop}(h:jV P G a st fun e st'=>match e with
  |.exit j=>if j=id then K .normal st' else K (.exit j) st'
  |e=>K e st'):jV P G (.block id a) st K:=by
 refine jV.core fun c hns hc=>?_
 cases c with
 |scope c'=>exact absurd rfl (hns c')
 |block id' x=>
  simp only[dB,aM]at hc;obtain⟨ax,h1,h2⟩:=hc;injection h2 with e1 e2;subst e1;subst e2;intro β R a w hs
  refine wp_block (Code.wp_mono ?_ (h x h1 β R a w hs));intro e a' w' hq
  cases e with
  |exit j=>
   obtain⟨β',R',st',q1,q2,q3,q4⟩:=hq;dsimp only at q1
   show (if j=id' then QX G K β R w .normal a' w' else QX G K β R w (.exit j) a' w')
   by_cases hj:j=id'
   ·rw[if_pos hj]at q1 ⊢;exact⟨β',R',st',q1,q2,q3,q4⟩
   ·rw[if_neg hj]at q1 ⊢;exact⟨β',R',st',q1,q2,q3,q4⟩
  |_=>exact hq
 |region id ops draw=>cases oY hc
 |cond x c1 c2=>cases h1:cX x<;>cases h2:dB P c1<;>cases h3:dB P c2<;>simp[dB,h1,h2,h3]at hc
 |seq c d=>cases h1:dB P c<;>cases h2:dB P d<;>simp[dB,h1,h2]at hc
 |loop c=>cases h1:dB P c<;>simp[dB,h1]at hc
 |_=>simp[dB]at hc
theorem jV.loop{a:dA}{K:X→St→Prop}{σ:Type}(C:σ→St)(I:σ→Prop)(μ:σ→Nat)(s0:σ)(hI:I s0)
  (step:∀s,I s→jV P G a (C s) fun e st'=>match e with
   |.normal=>∃s',I s'∧μ s'<μ s∧cW G st' (C s')
   |e=>K e st'):jV P G (.loop a) (C s0) K:=by
 refine jV.core fun c hns hc=>?_
 cases c with
 |scope c'=>exact absurd rfl (hns c')
 |loop x=>
  simp only[dB,aM]at hc;obtain⟨ax,h1,h2⟩:=hc;injection h2 with e1;subst e1;intro β0 R0 a0 w0 hs0
  refine wp_loop_ghost (fun n a w=>∃s β R,μ s=n∧I s∧eC G β R (C s) a w∧Fr β0 R0 w0 β R w∧∀b,R0 b→R b) (μ s0) ⟨s0,β0,R0,rfl,hI,hs0,Fr.refl _ _ _,fun _ hb=>hb⟩ ?_;rintro n a w ⟨s,β,R,rfl,hs,hsim,hfr,hr⟩;refine Code.wp_mono ?_ (step s hs x h1 β R a w hsim);intro e a' w' hq
  cases e with
  |normal=>
   obtain⟨β',R',st',⟨s',q1,q2,q3⟩,q4,q5,q6⟩:=hq;obtain⟨β2,R2,r1,r2,r3⟩:=q3 β' R' a' w' q4;exact⟨μ s',q2,s',β2,R2,rfl,q1,r1,(hfr.trans q5 hr).trans r2 (fun b hb=>q6 b (hr b hb)),fun b hb=>r3 b (q6 b (hr b hb))⟩
  |exit id=>obtain⟨β',R',st',q1,q2,q3,q4⟩:=hq;exact⟨β',R',st',q1,q2,hfr.trans q3 hr,fun b hb=>q4 b (hr b hb)⟩
  |ret=>obtain⟨β',R',st',q1,q2,q3,q4⟩:=hq;exact⟨β',R',st',q1,q2,hfr.trans q3 hr,fun b hb=>q4 b (hr b hb)⟩
  |_=>exact hq.elim
 |region id ops draw=>cases oY hc
 |cond x c1 c2=>cases h1:cX x<;>cases h2:dB P c1<;>cases h3:dB P c2<;>simp[dB,h1,h2,h3]at hc
 |seq c d=>cases h1:dB P c<;>cases h2:dB P d<;>simp[dB,h1,h2]at hc
 |block id c=>cases h1:dB P c<;>simp[dB,h1]at hc
 |_=>simp[dB]at hc
def Fin(P:Program)(G:Nat→Option Obj)(rs:List AR)(K:V→Prop)(e:X)(st:St):Prop:=(VZ rs e st).holds P G fun _ st'=>∃v,st'.t=[v]∧(oU v=true→K v)
theorem aFL{f:FuncId}{fn:Func}{ac:dA}{rs:List AR}{n:Nat}(hf:P.funcs[f]?=some fn)(hc:fn.body.bind (dB P)=some ac)(hr:oX P fn.results.toList=some rs)(hn:fn.ntmps=n)
  {args:List V} (hp:∀v∈args,oU v=true) {K:V→Prop} (h:jV P G ac ⟨args++List.replicate (n-args.length) (.t []),[]⟩ (Fin P G rs K)) (hc':List AO) :
  lW P G f args hc' fun v h'=>K v∧oU v=true∧h'=hc':=by
 subst hn;simp only[aB]at hc;obtain⟨c,hb,hc⟩:=hc;intro β R w vs ha hh
 refine calls_of_wp hf hb (Code.wp_mono ?_ (h c hc Bt.nil R { tmps:=vs++fJ (fn.ntmps-vs.size) undef,defers:=[] } w ?_))
 ·intro e a' w' hq
  have key:∀x:X,(∀id,x≠.exit id)→Po G (Fin P G rs K) Bt.nil R w x a' w' →
    a'.defers=[]∧∃v,(results fn a'.tmps).run P w'=.ok v w'∧∃u β' R' x h',Ending.returned v=.returned u∧(K x∧oU x=true∧h'=hc')∧VR β' R' w' x u∧HS G β' R' w' h'∧Gr β R w β' R' w'∧∀i,i<hc'.length→β' i=β i:=by
   rintro x hx ⟨β',R',st',q1,q2,q3,q4⟩
   have q1:(DE st' rs fun vs=>.done .ret ⟨[vI vs],[]⟩).holds P G fun _ st'=>∃v,st'.t=[v]∧(oU v=true→K v):=by
    cases x with
    |exit id=>exact absurd rfl (hx id)
    |normal=>exact q1
    |ret=>exact q1
   obtain⟨us,vs',h1,h2,h3,v,h4,h5⟩:=vY (β':=β) q2 fn.results.toList rs hr q1;simp only[List.cons.injEq,and_true]at h4;subst h4;obtain⟨c1,c2⟩:=zS hh q3 q4 q2.hs;exact⟨q2.df,_,results_eq fn a'.tmps h1,_,β,frz β' R',vI vs',hc',rfl,⟨h5 (JL h3),JL h3,rfl⟩,wB h2,c1,c2,fun _ _=>rfl⟩
  cases e with
  |normal=>exact key .normal (by intro id h;cases h) hq
  |ret=>exact key .ret (by intro id h;cases h) hq
  |exit id=>
   obtain⟨β',R',st',q1,_⟩:=hq;exact q1.elim
  |_=>exact hq.elim
 ·refine⟨rfl,?_,?_⟩
  ·have hl:args.length=vs.size:=by simpa using ha.length
   rw[eN,Array.toList_replicate,hl];exact(All2.pureV_ hp ha).append (vW _)
  ·exact⟨(fun i x hi=>by cases hi),(fun i j b o o' hi=>by cases hi),(fun i b o hi=>by cases hi),(fun i b o hi=>by cases hi),hh.rlt,(fun i b o hi=>by cases hi),hh.gl,fun b ad hb=>by cases hb⟩
end
abbrev Mod:=List V→Option (Prop×V)
def fB:List (FuncId×Mod)→Ext
 |[],_,_,_,_=>.fail
 |(g,m)::r,f,args,h,k=>match bE g f with
  |true=>match m args with
   |some (p,v)=>.rq p (k v h)
   |none=>.fail
  |false=>fB r f args h k
section
variable {P:Program} {G:Nat→Option Obj}
theorem lW.mono{f:FuncId}{args:List V}{h:List AO}{K K':V→List AO→Prop}(hh:lW P G f args h K)(hk:∀v h',K v h'→K' v h'):lW P G f args h K':=
 fun β R w vs ha hs=>(hh β R w vs ha hs).mono fun _ _ ⟨u,β',R',x,h',q1,q2,q3⟩=>⟨u,β',R',x,h',q1,hk _ _ q2,q3⟩
def dD(P:Program)(G:Nat→Option Obj)(f:FuncId)(m:Mod):Prop:=∀args p v,m args=some (p,v)→p→∀h,lW P G f args h fun x h'=>x=v∧h'=h
theorem cD:∀ {l:List (FuncId×Mod)},(∀e∈l,dD P G e.1 e.2)→bO P G (fB l)
 |[],_=>⟨fun _ _ _ _ _ h=>h.elim,fun _ _ _ _ _ h=>h.elim⟩
 |(g,m)::r,hl=>by
  have ih:=cD (l:=r) fun e he=>hl e (cV _ he)
  have h0:dD P G g m:=hl (g,m) (dI ..)
  refine⟨?_,?_⟩
  ·intro f args h k K hh
   simp only[fB]at hh;split at hh
   ·rename_i hb
    obtain rfl:=aH hb;split at hh
    ·rename_i p v hm
     exact(h0 args p v hm hh.1 h).mono fun x h' ⟨e1,e2⟩=>by rw[e1,e2];exact hh.2
    ·exact hh.elim
   ·exact ih.fn _ _ _ _ _ hh
  ·intro f args h k K hh
   simp only[fB]at hh ⊢;split at hh
   ·rename_i hb
    split at hh
    ·rename_i p v hm
     exact⟨v,h,hh.2,fun k' K' hk=>⟨hh.1,hk⟩⟩
    ·exact hh.elim
   ·exact ih.val _ _ _ _ _ hh
end
def iV(n:Int):V:=.c (.p (.i .i64 n))
def bV(b:Bool):V:=.c (.p (.b b))
def sV(s:ByteArray):V:=.c (.p (.s s))
def mT(P:Program)(f:Func):dA:=(f.body.bind (dB P)).getD .skip
def inr:dA→dA
 |.block _ a=>a
 |.loop a=>a
 |a=>a
section
variable {P:Program} {G:Nat→Option Obj}
theorem Lp.mono{a:dA}{st:St}{K K':X→St→Prop}(hk:∀e s,K e s→K' e s)(h:Lp P G a st K):Lp P G a st K':=
 fun c hc β R a' w hs=>Code.wp_mono (fun _ _ _ q=>QX.mono hk q) (h c hc β R a' w hs)
theorem Tr.holds_mono{K K':X→St→Prop}(hk:∀e s,K e s→K' e s):∀ {t:Tr},t.holds P G K→t.holds P G K'
 |.fail,h=>h
 |.rq _ _,h=>⟨h.1,Tr.holds_mono hk h.2⟩
 |.alt _ _,h=>⟨Tr.holds_mono hk h.1,Tr.holds_mono hk h.2⟩
 |.loop _ _ _,h=>Lp.mono (fun _ _ q=>Tr.holds_mono hk q) h
 |.done _ _,h=>hk _ _ h
end
section
variable {P:Program} {G:Nat→Option Obj} {β β':Bt} {R R':Nat→Prop} {w w':World}
theorem aS{p:Prop}{k:Tr}{K:X→St→Prop}:(Tr.rq p k).holds P G K↔p∧k.holds P G K:=Iff.rfl
theorem nM{e:X}{st:St}{K:X→St→Prop}:(Tr.done e st).holds P G K↔K e st:=Iff.rfl
theorem bD{b:Bool}{t e:Tr}{K:X→St→Prop}:(bT b t e).holds P G K↔(b=true→t.holds P G K)∧(b=false→e.holds P G K):=by
 cases b<;>simp[bT]
theorem pF(ty:TypeId)(sz:Nat)(f:Nat→Nat→C)(j:Nat){st:St}(h:bN (.c .top) st.t j=.c (.p (.z (.slice none 0 0)))) :
  cW G st ⟨upd (.c (.sl (fK st.h) sz 0 0)) st.t j,iF (.row ty sz 0 f) st.h⟩:=by
 intro β R a w hs
 have h1:=eC.same hs (j:=j) (y:=.c (.sl (fK st.h) sz 0 0)) (fun u hu=>by
  rw[h]at hu
  have hu:u=.slice none 0 0:=hu
  subst hu
  exact⟨none,0,rfl,aU _,Nat.zero_le _,.inl ⟨.inl rfl,rfl,rfl⟩⟩)
 have hn:∀i x,β i=some x→bN .gone (iF (.row ty sz 0 f) st.h) i=bN .gone st.h i:=fun i x hi=>hX _ _ _ (hs.hs.dom i x hi)
 refine⟨β,R,⟨hs.df,h1.tm,⟨?_,?_,?_,hs.hs.lt,hs.hs.rlt,?_,hs.hs.gl,fun b ad hb=>⟨(hs.hs.ql b ad hb).1,(hs.hs.ql b ad hb).2.1,fun i o hi=>by show (bN .gone (iF _ st.h) i).live=false;rw[hn i _ hi];exact(hs.hs.ql b ad hb).2.2 i o hi⟩⟩⟩,Fr.refl _ _ _,fun _ hb=>hb⟩
 ·intro i x hi
  have:=hs.hs.dom i x hi
  show i<(iF _ st.h).length
  rw[mM,gC];omega
 ·intro i j b o o' hi hj li lj
  rw[hn i _ hi]at li;rw[hn j _ hj]at lj;exact hs.hs.inj i j b o o' hi hj li lj
 ·intro i b o hi li
  rw[hn i _ hi]at li;exact hs.hs.sep i b o hi li
 ·intro i b o hi
  show OR β R w (bN .gone (iF _ st.h) i) b o
  rw[hn i _ hi];exact hs.hs.obj i b o hi
def eL(x v:V):Prop:=∀β R w u,VR β R w x u→VR β R w v u
def jT(x v:PV):Prop:=∀R w u,PR R w x u→PR R w v u
theorem eL.refl(x:V):eL x x:=fun _ _ _ _ h=>h
theorem jT.refl(x:PV):jT x x:=fun _ _ _ h=>h
theorem eL.of_eq{x v:V}(h:x=v):eL x v:=h▸eL.refl x
theorem jT.of_eq{x v:PV}(h:x=v):jT x v:=h▸jT.refl x
theorem eL.p{x v:PV}(h:jT x v):eL (.c (.p x)) (.c (.p v)):=fun _ R w u hu=>h R w u hu
theorem jT.l{sz n:Nat}{f g:Nat→Nat→PV}(h:∀e o,e<n→o<sz→jT (f e o) (g e o)):jT (.l sz n f) (.l sz n g):=by
 rintro R w u ⟨A,c,rfl,h1,h2,h3⟩;refine⟨A,c,rfl,h1,h2,fun hn=>?_⟩;obtain⟨ad,e1,e2,e3⟩:=h3 hn;refine⟨ad,e1,e2,fun e o he ho=>?_⟩;obtain⟨u,q1,q2⟩:=e3 e o he ho;exact⟨u,q1,h e o he ho R w u q2⟩
theorem jT.nil(sz:Nat)(g:Nat→Nat→PV):jT (.z (.slice none 0 0)) (.l sz 0 g):=by
 rintro R w u rfl;exact⟨none,0,rfl,aU _,Nat.zero_le _,fun h=>absurd h (Nat.lt_irrefl 0)⟩
inductive WS:List PV→List PV→Prop
 |nil:WS [] []
 |cons {x v:PV} {xs vs:List PV}:jT x v→WS xs vs→WS (x::xs) (v::vs)
theorem WS.cs{xs vs:List PV}(h:WS xs vs):∀ {us:List Value},All2 (CR β R w) (iP xs) us→All2 (CR β R w) (iP vs) us:=by
 induction h with
 |nil=>exact fun h=>h
 |cons h1 _ ih=>
  intro us hu;cases us with
  |nil=>exact hu.elim
  |cons u us=>exact⟨h1 _ _ _ hu.1,ih hu.2⟩
theorem eL.a{xs vs:List PV}(h:WS xs vs):eL (.a (iP xs)) (.a (iP vs)):=fun _ _ _ _ ⟨us,e,hu⟩=>⟨us,e,h.cs hu⟩
def aOZ(x v:V1):Prop:=eL x.up v.up
inductive ZP:List V1→List V1→Prop
 |nil:ZP [] []
 |cons {x v:V1} {xs vs:List V1}:aOZ x v→ZP xs vs→ZP (x::xs) (v::vs)
theorem aOZ.r{x v:V1}(h:aOZ x v){u:Value}(hu:BO β R w x u):BO β R w v u:=by
 have:=h β R w u (BO.up hu)
 cases v<;>exact this
theorem eL.t{xs vs:List V1}(h:ZP xs vs):eL (.t xs) (.t vs):=by
 rintro β R w _ ⟨us,rfl,hu⟩;refine⟨us,rfl,?_⟩
 generalize us.toList=us' at hu
 induction h generalizing us' with
 |nil=>exact hu
 |cons h1 _ ih=>
  cases us' with
  |nil=>exact hu.elim
  |cons u us=>exact⟨h1.r hu.1,ih _ hu.2⟩
theorem lW.le{f:FuncId}{args:List V}{h:List AO}{v:V}(hf:lW P G f args h fun x h'=>eL x v∧h'=h):lW P G f args h fun x h'=>x=v∧h'=h:=
 fun β R w vs ha hs=>(hf β R w vs ha hs).mono fun _ _ ⟨u,β',R',_,h',q1,q2,q3,q4⟩=>⟨u,β',R',v,h',q1,⟨rfl,q2.2⟩,q2.1 _ _ _ _ q3,q4⟩
theorem aQT{f:FuncId}{fn:Func}{rs:List AR}{n:Nat}(hf:P.funcs[f]?=some fn)(hc:fn.body.bind (dB P)=some (mT P fn))(hr:oX P fn.results.toList=some rs)(hn:fn.ntmps=n)
  {args:List V} (hp:mN args=true) {v:V} (h:jV P G (mT P fn) ⟨args++List.replicate (n-args.length) (.t []),[]⟩ fun e st=>(VZ rs e st).holds P G fun _ st'=>∃x,st'.t=[x]∧eL x v) (h0:List AO) :
  lW P G f args h0 fun x h'=>x=v∧h'=h0:=
 lW.le ((aFL (K:=fun x=>eL x v) hf hc hr hn (oD hp) (h.mono fun _ _ hk=>Tr.holds_mono (fun _ _ ⟨x,h1,h2⟩=>⟨x,h1,fun _=>h2⟩) hk) h0).mono fun _ _ q=>⟨q.1,q.2.2⟩)
def aE3(R:Nat→Prop)(w w':World):Nat→Prop:=fun b=>R b∨(w.heap.size≤b∧b<w'.heap.size)
theorem HS.below{h:List AO}(hh:HS G β R w h)(hb:Below w.heap.size w w'):HS G β (aE3 R w w') w' h∧Gr β R w β (aE3 R w w') w':=by
 have hk:jC β R w β (aE3 R w w') w':=⟨fun _ _ hi=>hi,fun _ hb=>.inl hb,fun b hr=>hb.block b (hh.rlt b hr)⟩
 refine⟨⟨hh.dom,hh.inj,?_,?_,?_,?_,?_,?_⟩,⟨⟨hb.os,hb.tape,hb.output,hb.size,hk.rs,fun b hlt _=>hb.block b hlt,fun _ hi=>.inl hi,?_⟩,hk.bm,hk.rm⟩⟩
 ·rintro i b o hi hl (hr|⟨h1,_⟩)
  ·exact hh.sep i b o hi hl hr
  ·have:=hh.lt i b o hi;omega
 ·intro i b o hi
  exact cI (hh.lt i b o hi) hb.size
 ·rintro b (hr|⟨_,h1⟩)
  ·exact cI (hh.rlt b hr) hb.size
  ·exact h1
 ·intro i b o hi
  exact OR.keep hk (fun b1 k hq=>⟨hq,hb.block b1 (hh.ql b1 _ hq).1⟩) (hb.block b (hh.lt i b o hi)) (hh.obj i b o hi)
 ·intro b o hg
  obtain⟨h1,h2⟩:=hh.gl b o hg;exact⟨.inl h1,(hk.rs b h1).trans h2⟩
 ·intro b ad hq
  obtain⟨h1,h2,h3⟩:=hh.ql b ad hq;refine⟨cI h1 hb.size,?_,h3⟩;rintro (hr|⟨h4,_⟩)
  ·exact h2 hr
  ·omega
 ·rintro b (hr|⟨h1,_⟩)
  ·exact .inl hr
  ·exact .inr (.inr h1)
theorem VR.up_none{x:V}{u:Value}(h:VR Bt.nil R w x u):VR β R w x u:=VR.keep ⟨fun _ _ hi=>(by cases hi),fun _ hb=>hb,fun _ _=>rfl⟩ h
theorem All2.nth2{α γ:Type}{q:α→γ→Prop}{x:α}{xs:List α}{ys:List γ}(h:All2 q (x::xs) ys):∃y ys',ys=y::ys'∧q x y∧All2 q xs ys':=by
 cases ys with
 |nil=>exact h.elim
 |cons y ys=>exact⟨y,ys,rfl,h.1,h.2⟩
theorem All2.nil2{α γ:Type}{q:α→γ→Prop}{ys:List γ}(h:All2 q ([]:List α) ys):ys=[]:=by
 cases ys with
 |nil=>rfl
 |cons y ys=>exact h.elim
theorem GJ{f:FuncId}{args:List V}{v:V}(hp:mN args=true)
  (hk:∀R w (vs:Array Value),(∀b,R b→b<w.heap.size)→(∀b o,G b=some o→w.heap[b]?=some o)→All2 (VR Bt.nil R w) args vs.toList →
   Calls P f vs w fun e w'=>∃u,e=.returned u∧VR Bt.nil (aE3 R w w') w' v u∧Below w.heap.size w w') (h:List AO):lW P G f args h fun x h'=>x=v∧h'=h:=by
 intro β R w vs ha hh;refine(hk R w vs hh.rlt (fun b o hg=>(hh.gl b o hg).2) (All2.pureV_ (oD hp) ha)).mono ?_;rintro e w' ⟨u,rfl,h1,h2⟩;obtain⟨h3,h4⟩:=hh.below h2;exact⟨u,β,aE3 R w w',v,h,rfl,⟨rfl,rfl⟩,VR.up_none h1,h3,h4,fun _ _=>rfl⟩
theorem calls_of_fn{f:FuncId}{args:List V}{vs:Array Value}(h:lW P G f args [] fun x _=>x=bV true)(ha:All2 (VR Bt.nil (fun b=>b<w.heap.size) w) args vs.toList)(hg:∀b o,G b=some o→w.heap[b]?=some o) :
  Calls P f vs w fun e w'=>e=.returned (.bool true)∧Below w.heap.size w w':=by
 refine(h Bt.nil (fun b=>b<w.heap.size) w vs ha ⟨(fun _ _ h=>by cases h),(fun _ _ _ _ _ h=>by cases h),(fun _ _ _ h=>by cases h),(fun _ _ _ h=>by cases h),(fun _ h=>h),(fun _ _ _ h=>by cases h),fun b o hb=>⟨(Array.getElem?_eq_some_iff.1 (hg b o hb)).1,hg b o hb⟩,(fun _ _ h=>by cases h)⟩).mono ?_
 ·rintro e w' ⟨u,β',R',x,h',rfl,rfl,h1,_,h2,_⟩
  have h1:u=.bool true:=h1
  subst h1;exact⟨rfl,h2.os,h2.tape,h2.output,h2.size,fun b hb=>h2.rs b hb⟩
end
section
variable {α:Type} [Inhabited α]
def aJ(enc:α→Nat→PV)(L:List α)(e o:Nat):PV:=enc (L.getD e default) o
def cR(enc:α→Nat→PV)(L:List α)(e o:Nat):C:=.p (aJ enc L e o)
def AT(enc:α→Nat→PV)(sz:Nat)(L:List α):PV:=.l sz L.length (aJ enc L)
def aX(enc:α→Nat→PV)(sz:Nat)(L:List α):V:=.c (.p (AT enc sz L))
def eR(dec:(Nat→PV)→α)(n:Nat)(f:Nat→Nat→PV):List α:=(List.range n).map fun e=>dec (f e)
theorem rQ{enc:α→Nat→PV}{dec:(Nat→PV)→α}(hd:∀x,dec (enc x)=x)(L:List α):eR dec L.length (aJ enc L)=L:=by
 apply List.ext_getElem?;intro i
 unfold eR
 by_cases hi:i<L.length
 ·rw[List.getElem?_map,List.getElem?_range hi,List.getElem?_eq_getElem hi]
  simp only[Option.map_some,aD]
  have:aJ enc L i=enc L[i]:=by unfold aJ;simp[hi]
  rw[this,hd]
 ·rw[bL (by simpa using hi),bL (by omega)]
def BE(enc:α→Nat→PV)(sz:Nat)(L:List α)(n:Nat)(f:Nat→Nat→PV):Prop:=L.length=n∧∀e o,e<n→o<sz→f e o=aJ enc L e o
theorem lV(enc:α→Nat→PV)(sz:Nat)(L:List α):BE enc sz L L.length (aJ enc L):=⟨rfl,fun _ _ _ _=>rfl⟩
theorem BE.le{enc:α→Nat→PV}{sz:Nat}{L:List α}{n:Nat}{f:Nat→Nat→PV}(h:BE enc sz L n f):eL (.c (.p (.l sz n f))) (aX enc sz L):=by
 obtain⟨rfl,h2⟩:=h;exact eL.p (jT.l fun e o he ho=>jT.of_eq (h2 e o he ho))
end
section
variable {P:Program} {G:Nat→Option Obj}
inductive WP:List V→List V→Prop
 |nil:WP [] []
 |cons {x v:V} {xs vs:List V}:eL x v→WP xs vs→WP (x::xs) (v::vs)
theorem WP.all{β:Bt}{R:Nat→Prop}{w:World}{xs vs:List V}(h:WP xs vs):∀ {us:List Value},All2 (VR β R w) xs us→All2 (VR β R w) vs us:=by
 induction h with
 |nil=>exact fun h=>h
 |cons h1 _ ih=>
  intro us hu;cases us with
  |nil=>exact hu.elim
  |cons u us=>exact⟨h1 _ _ _ _ hu.1,ih hu.2⟩
theorem lW.args{f:FuncId}{args args':List V}{h:List AO}{K:V→List AO→Prop}(hf:lW P G f args' h K)(hl:WP args args'):lW P G f args h K:=
 fun β R w vs ha hs=>hf β R w vs (hl.all ha) hs
end
def tH:PV→ByteArray
 |.s x=>x
 |_=>⟨#[]⟩
def eW:PV→Int
 |.i _ n=>n
 |_=>0
def aW(x:Int)(_:Nat):PV:=.i .i64 x
def bM(x:ByteArray)(_:Nat):PV:=.s x
def fD(x:ByteArray×ByteArray)(o:Nat):PV:=match o with
 |0=>.s x.1
 |_=>.s x.2
def kO(f:Nat→PV):ByteArray:=tH (f 0)
def oL(f:Nat→PV):ByteArray×ByteArray:=(tH (f 0),tH (f 1))
theorem kV(L:List ByteArray):eR kO L.length (aJ bM L)=L:=rQ (fun _=>rfl) L
def bB(P:Program)(fn:Func):List AR:=(oX P fn.results.toList).getD []
def okF(P:Program)(fn:Func):Bool:=(fn.body.bind (dB P)).isSome&&(oX P fn.results.toList).isSome
def iR(fn:Func)(args:List V):St:=⟨args++List.replicate (fn.ntmps-args.length) (.t []),[]⟩
def wT(ρ:List Nat)(keep:List Bool)(rs:List AR)(e:X)(st:St):Tr:=match e with
 |.ret=>VZ rs .ret st
 |e=>.done e (aMF ρ keep st)
section
variable {P:Program} {G:Nat→Option Obj}
def KF(v:V)(K:X→St→Prop)(e:X)(st:St):Prop:=match e with
 |.ret=>∃x,st.t=[x]∧eL x v
 |e=>K e st
def RK(P:Program)(G:Nat→Option Obj)(rs:List AR)(v:V)(K:X→St→Prop)(e:X)(st:St):Prop:=match e with
 |.ret=>(VZ rs .ret st).holds P G fun _ s=>∃x,s.t=[x]∧eL x v
 |e=>K e st
def sU(P:Program)(G:Nat→Option Obj)(rs:List AR)(ac:dA)(st:St)(v:V)(K:X→St→Prop):Prop:=jV P G ac st (RK P G rs v K)
theorem DD{rs:List AR}{v:V}{K:X→St→Prop}{st':St}(hk:(VZ rs .ret st').holds P G (KF v K)):(VZ rs .ret st').holds P G fun _ s=>∃x,s.t=[x]∧eL x v:=by
 have key:∀(l:List AR) (g:List V1→List V1),(DE st' l fun vs=>.done .ret ⟨[vI (g vs)],[]⟩).holds P G (KF v K)→(DE st' l fun vs=>.done .ret ⟨[vI (g vs)],[]⟩).holds P G fun _ s=>∃x,s.t=[x]∧eL x v:=by
  have kc:∀(c:C) (k:PV→Tr),(VW st'.h c k).holds P G (KF v K)→(∀p,(k p).holds P G (KF v K)→(k p).holds P G fun _ s=>∃x,s.t=[x]∧eL x v)→(VW st'.h c k).holds P G fun _ s=>∃x,s.t=[x]∧eL x v:=by
   intro c k h hk;cases c with
   |p x=>exact hk _ h
   |sl id sz off len=>
    simp only[VW]at h ⊢;split at h
    ·obtain⟨c1,c2,c3⟩:=cE h
     simp only[c1,oN];exact⟨c2,hk _ c3⟩
    ·exact h.elim
   |_=>exact h.elim
  have kl:∀(cs:List C) (k:List PV→Tr),(aBB st'.h cs k).holds P G (KF v K)→(∀p,(k p).holds P G (KF v K)→(k p).holds P G fun _ s=>∃x,s.t=[x]∧eL x v)→(aBB st'.h cs k).holds P G fun _ s=>∃x,s.t=[x]∧eL x v:=by
   intro cs;induction cs with
   |nil=>exact fun k h hk=>hk _ h
   |cons c cs ih=>exact fun k h hk=>kc c _ h fun p hp=>ih _ hp fun ps hps=>hk _ hps
  have kv:∀(x:V1) (k:V1→Tr),(aBA st'.h x k).holds P G (KF v K)→(∀p,(k p).holds P G (KF v K)→(k p).holds P G fun _ s=>∃x,s.t=[x]∧eL x v)→(aBA st'.h x k).holds P G fun _ s=>∃x,s.t=[x]∧eL x v:=by
   intro x k h hk;cases x with
   |c c=>exact kc c _ h fun p hp=>hk _ hp
   |a cs=>exact kl cs _ h fun p hp=>hk _ hp
  intro l;induction l with
  |nil=>exact fun g h=>h
  |cons r l ih=>
   intro g h
   have step:∀x:V1,(aBA st'.h x fun v'=>DE st' l fun vs=>.done .ret ⟨[vI (g (v'::vs))],[]⟩).holds P G (KF v K)→(aBA st'.h x fun v'=>DE st' l fun vs=>.done .ret ⟨[vI (g (v'::vs))],[]⟩).holds P G fun _ s=>∃x,s.t=[x]∧eL x v:=
    fun x hx=>kv x _ hx fun p hp=>ih (fun vs=>g (p::vs)) hp
   simp only[DE]at h ⊢;cases r with
   |tmp t=>
    simp only[HW]at h ⊢;split at h
    ·exact step _ h
    ·exact h.elim
   |cell t n=>
    simp only[HW]at h ⊢;split at h
    ·split at h
     ·obtain⟨c1,c2⟩:=cE h
      simp only[c1,oN];split at c2
      ·exact step _ c2
      ·exact c2.elim
     ·exact h.elim
    ·exact h.elim
   |new t=>
    simp only[HW]at h ⊢;split at h
    ·exact step _ h
    ·exact step _ h
    ·exact h.elim
 exact key rs id hk
theorem sU.ev{ext:Ext}(hext:bO P G ext){rs:List AR}{ac:dA}{st:St}{v:V}{K:X→St→Prop}(ρ:List Nat)(keep:List Bool)(hn:qJ ρ=true){tree:Tr}(ht:WC ext ac st (wT ρ keep rs)=tree)(h:tree.holds P G (KF v K)):sU P G rs ac st v K:=by
 subst ht;refine jV.post ((jV.ev hext h).mono fun e st' hk=>?_);cases e with
 |ret=>exact⟨st',fun β R a w hs=>⟨β,R,hs,Fr.refl _ _ _,fun _ hb=>hb⟩,DD hk⟩
 |normal=>exact⟨_,rC ρ keep hn st',hk⟩
 |exit id=>exact⟨_,rC ρ keep hn st',hk⟩
theorem sU.pre{rs:List AR}{ac:dA}{st st2:St}{v:V}{K:X→St→Prop}(hw:cW G st st2)(h:sU P G rs ac st2 v K):sU P G rs ac st v K:=jV.pre hw h
theorem sU.mono{rs:List AR}{ac:dA}{st:St}{v:V}{K K':X→St→Prop}(h:sU P G rs ac st v K)(hk:∀e st,e≠.ret→K e st→K' e st):sU P G rs ac st v K':=
 jV.mono h fun e st q=>by
  cases e with
  |ret=>exact q
  |normal=>exact hk _ _ (by simp) q
  |exit id=>exact hk _ _ (by simp) q
theorem sU.seq{rs:List AR}{a b:dA}{st:St}{v:V}{K1 K:X→St→Prop}(h:sU P G rs a st v K1)(hn:∀st',K1 .normal st'→sU P G rs b st' v K)(hx:∀id st',K1 (.exit id) st'→K (.exit id) st'):sU P G rs (.seq a b) st v K:=
 jV.seq h hn fun e st' he q=>by
  cases e with
  |normal=>exact absurd rfl he
  |ret=>exact q
  |exit id=>exact hx id st' q
theorem sU.block{rs:List AR}{id:Nat}{a:dA}{st:St}{v:V}{K:X→St→Prop}(h:sU P G rs a st v fun e st'=>match e with
  |.exit j=>if j=id then K .normal st' else K (.exit j) st'
  |e=>K e st'):sU P G rs (.block id a) st v K:=
 jV.block (jV.mono h fun e st' q=>by
  cases e with
  |normal=>exact q
  |ret=>exact q
  |exit j=>exact q)
theorem sU.loop{rs:List AR}{a:dA}{v:V}{K:X→St→Prop}{σ:Type}(C:σ→St)(I:σ→Prop)(μ:σ→Nat)(s0:σ)(hI:I s0)
  (step:∀s,I s→sU P G rs a (C s) v fun e st'=>match e with
   |.normal=>∃s',I s'∧μ s'<μ s∧cW G st' (C s')
   |e=>K e st'):sU P G rs (.loop a) (C s0) v K:=
 jV.loop C I μ s0 hI fun s hs=>jV.mono (step s hs) fun e st' q=>by
  cases e with
  |normal=>exact q
  |ret=>exact q
  |exit j=>exact q
theorem aQV{f:FuncId}{fn:Func}(hf:P.funcs[f]?=some fn)(hok:okF P fn=true){args:List V}(hp:mN args=true){v:V}(h:sU P G (bB P fn) (mT P fn) (iR fn args) v fun _ _=>False)(h0:List AO) :
  lW P G f args h0 fun x h'=>x=v∧h'=h0:=by
 unfold okF at hok;simp only[aY,fS]at hok;obtain⟨⟨c,hc⟩,rs,hr⟩:=hok
 have e1:mT P fn=c:=by unfold mT;rw[hc];rfl
 have e2:bB P fn=rs:=by unfold bB;rw[hr];rfl
 refine aQT hf (by rw[hc,e1]) hr rfl hp ?_ h0
 refine jV.mono h fun e st q=>?_
 rw[e2]at q;cases e with
 |ret=>exact q
 |normal=>exact q.elim
 |exit id=>exact q.elim
theorem aQU{ext:Ext}(hext:bO P G ext){f:FuncId}{fn:Func}(hf:P.funcs[f]?=some fn)(hok:okF P fn=true){args:List V}(hp:mN args=true){v:V}{tree:Tr}(ht:WC ext (mT P fn) (iR fn args) (wT [] [] (bB P fn))=tree)
  (h:tree.holds P G (KF v fun _ _=>False)) (h0:List AO):lW P G f args h0 fun x h'=>x=v∧h'=h0:=
 aQV hf hok hp (sU.ev hext [] [] rfl ht h) h0
end
def qY:List dA→List dA→List dA
 |[],m=>m
 |c::r,m=>c::qY r m
def jH:dA→List dA
 |.seq a b=>qY (jH a) (jH b)
 |c=>[c]
noncomputable def cJ(Fn:Ext):List dA→St→(X→St→Tr)→Tr
 |[],st,K=>K .normal st
 |c::r,st,K=>WC Fn c st fun e st'=>match e with
  |.normal=>cJ Fn r st' K
  |e=>K e st'
def cS(P:Program)(fn:Func):List dA:=jH (mT P fn)
def jZ(l:List dA)(n:Nat):List dA:=jH (inr (inr (bN .skip l n)))
section
variable {P:Program} {G:Nat→Option Obj}
def cO(P:Program)(G:Nat→Option Obj)(rs:List AR)(v:V):List dA→St→(X→St→Prop)→Prop
 |[],st,Q=>∃st2,cW G st st2∧Q .normal st2
 |c::r,st,Q=>sU P G rs c st v fun e st'=>match e with
  |.normal=>cO P G rs v r st' Q
  |e=>Q e st'
variable {rs:List AR} {v:V}
theorem cW.refl(st:St):cW G st st:=fun β R _ _ hs=>⟨β,R,hs,Fr.refl _ _ _,fun _ hb=>hb⟩
theorem sU.post{ac:dA}{st:St}{K:X→St→Prop}(h:sU P G rs ac st v fun e st'=>∃st2,cW G st' st2∧K e st2):sU P G rs ac st v K:=by
 refine jV.post (jV.mono h fun e st' hk=>?_);cases e with
 |ret=>exact⟨st',cW.refl st',hk⟩
 |normal=>exact hk
 |exit id=>exact hk
theorem cO.pre{l:List dA}{st st2:St}{Q:X→St→Prop}(hw:cW G st st2)(h:cO P G rs v l st2 Q):cO P G rs v l st Q:=by
 cases l with
 |nil=>obtain⟨st3,h1,h2⟩:=h;exact⟨st3,hw.trans h1,h2⟩
 |cons c r=>exact sU.pre hw h
theorem cO.cut:∀ {a b:List dA} {st:St} {Q:X→St→Prop},cO P G rs v (qY a b) st Q→cO P G rs v a st fun e st'=>match e with
  |.normal=>cO P G rs v b st' Q
  |e=>Q e st'
 |[],_,st,_,h=>⟨st,cW.refl st,h⟩
 |_::_,_,_,_,h=>sU.mono h fun e st' _ q=>by
  cases e with
  |normal=>exact cO.cut q
  |ret=>exact q
  |exit id=>exact q
theorem cO.glue:∀ {a b:List dA} {st:St} {Q:X→St→Prop},(cO P G rs v a st fun e st'=>match e with
  |.normal=>cO P G rs v b st' Q
  |e=>Q e st')→cO P G rs v (qY a b) st Q
 |[],_,_,_,⟨_,h1,h2⟩=>cO.pre h1 h2
 |_::_,_,_,_,h=>sU.mono h fun e st' _ q=>by
  cases e with
  |normal=>exact cO.glue q
  |ret=>exact q
  |exit id=>exact q
theorem cO.code:∀ {c:dA} {st:St} {Q:X→St→Prop},cO P G rs v (jH c) st Q→sU P G rs c st v Q:=by
 intro c;induction c with
 |seq a b iha ihb=>
  intro st Q h
  have h1:=cO.cut (a:=jH a) (b:=jH b) h
  refine sU.seq (iha h1) (fun st' hq=>ihb hq) (fun id st' hq=>hq)
 |_=>
  intro st Q h;refine sU.post (sU.mono h fun e st' _ q=>?_);cases e with
  |normal=>exact q
  |ret=>exact⟨st',cW.refl st',q⟩
  |exit id=>exact⟨st',cW.refl st',q⟩
theorem zZ{ρ:List Nat}{keep:List Bool}(hn:qJ ρ=true){e:X}{st:St}{K:X→St→Prop}(h:(wT ρ keep rs e st).holds P G (KF v K)):∃st2,cW G st st2∧RK P G rs v K e st2:=by
 cases e with
 |ret=>exact⟨st,cW.refl st,DD h⟩
 |normal=>exact⟨_,rC ρ keep hn st,h⟩
 |exit id=>exact⟨_,rC ρ keep hn st,h⟩
theorem wS{ext:Ext}(hext:bO P G ext){ρ:List Nat}{keep:List Bool}(hn:qJ ρ=true):∀ {l:List dA} {st:St} {K:X→St→Prop},(cJ ext l st (wT ρ keep rs)).holds P G (KF v K)→cO P G rs v l st K
 |[],st,K,h=>zZ hn h
 |c::r,st,K,h=>by
  have h1:=jV.ev hext h
  refine sU.post ?_;refine jV.post (jV.mono h1 fun e st' q=>?_);cases e with
  |normal=>exact⟨st',cW.refl st',st',cW.refl st',wS hext hn q⟩
  |ret=>
   obtain⟨st2,q1,q2⟩:=zZ hn q;exact⟨st2,q1,q2⟩
  |exit id=>
   obtain⟨st2,q1,q2⟩:=zZ hn q;exact⟨st2,q1,st2,cW.refl st2,q2⟩
theorem qE:∀(n:Nat) (l:List dA),qY (dH n l) (bJ n l)=l
 |0,l=>by cases l<;>rfl
 |n+1,[]=>rfl
 |n+1,c::r=>by simp[dH,bJ,qY,qE n r]
theorem cO.ev{ext:Ext}(hext:bO P G ext)(n:Nat)(ρ:List Nat)(keep:List Bool)(hn:qJ ρ=true){l:List dA}{st:St}{Q:X→St→Prop}{tree:Tr}(ht:cJ ext (dH n l) st (wT ρ keep rs)=tree)
  (h:tree.holds P G (KF v fun e st'=>match e with
   |.normal=>cO P G rs v (bJ n l) st' Q
   |e=>Q e st')):cO P G rs v l st Q:=by
 rw[←qE n l];subst ht;exact cO.glue (wS hext hn h)
theorem cO.evA{ext:Ext}(hext:bO P G ext)(ρ:List Nat)(keep:List Bool)(hn:qJ ρ=true){l:List dA}{st:St}{Q:X→St→Prop}{tree:Tr}(ht:cJ ext l st (wT ρ keep rs)=tree)
  (h:tree.holds P G (KF v Q)):cO P G rs v l st Q:=by
 subst ht;exact wS hext hn h
theorem cO.loop{id:Nat}{b:dA}{l r:List dA}{st:St}{Q:X→St→Prop}(hl:l=.block id (.loop b)::r){σ:Type}(C:σ→St)(I:σ→Prop)(μ:σ→Nat)(s0:σ)(hI:I s0)(hw:cW G st (C s0))
  (step:∀s,I s→cO P G rs v (jH b) (C s) fun e st'=>match e with
   |.normal=>∃s',I s'∧μ s'<μ s∧cW G st' (C s')
   |.exit j=>if j=id then cO P G rs v r st' Q else Q (.exit j) st'
   |.ret=>True):cO P G rs v l st Q:=by
 subst hl;refine sU.pre hw (sU.block ?_)
 refine sU.loop C I μ s0 hI fun s hs=>?_
 refine sU.mono (cO.code (step s hs)) fun e st' he q=>?_
 cases e with
 |normal=>exact q
 |exit j=>exact q
 |ret=>exact absurd rfl he
theorem fR{f:FuncId}{fn:Func}(hf:P.funcs[f]?=some fn)(hok:okF P fn=true){args:List V}(hp:mN args=true){v:V}(h:cO P G (bB P fn) v (cS P fn) (iR fn args) fun _ _=>False)(h0:List AO) :
  lW P G f args h0 fun x h'=>x=v∧h'=h0:=aQV hf hok hp (cO.code h) h0
end
def aCN(j:Nat):List (Nat×V)→V
 |[]=>.c .top
 |(i,v)::r=>match bE i j with
  |true=>v
  |false=>aCN j r
def aL0:Nat→Nat→List (Nat×V)→List V
 |0,_,_=>[]
 |n+1,j,l=>aCN j l::aL0 n (j+1) l
def bU(n:Nat)(l:List (Nat×V))(h:List AO):St:=⟨aL0 n 0 l,h⟩
def aQE:Nat→Nat→List Nat→List Bool
 |0,_,_=>[]
 |n+1,j,l=>rK j l::aQE n (j+1) l
def fO(n:Nat)(l:List Nat):List Bool:=aQE n 0 l
abbrev SQ:=List V→List AO→Option (Prop×V×List AO)
def sY(m:Mod):SQ:=fun args h=>match m args with
 |some (p,v)=>some (p,v,h)
 |none=>none
def yB:List (FuncId×SQ)→Ext
 |[],_,_,_,_=>.fail
 |(g,m)::r,f,args,h,k=>match bE g f with
  |true=>match m args h with
   |some (p,v,h')=>.rq p (k v h')
   |none=>.fail
  |false=>yB r f args h k
structure mX (p:Prop):Prop where
 h:p
section
variable {P:Program} {G:Nat→Option Obj}
theorem aI{e:X}{st:St}{K:X→St→Prop}:(Tr.done e st).holds P G K↔mX (K e st):=⟨fun h=>⟨h⟩,fun h=>h.h⟩
theorem fE{v:V}{K:X→St→Prop}{j:Nat}{st:St}:KF v K (.exit j) st↔K (.exit j) st:=Iff.rfl
theorem aZ{v:V}{K:X→St→Prop}{st:St}:KF v K .normal st↔K .normal st:=Iff.rfl
theorem bK{v x:V}{K:X→St→Prop}{h:List AO}:KF v K .ret ⟨[x],h⟩↔eL x v:=⟨fun⟨_,h1,h2⟩=>by injection h1 with h1;exact h1▸h2,fun h=>⟨x,rfl,h⟩⟩
theorem aP{st st':St}(h:st=st'):cW G st st':=h▸cW.refl st
def lH(P:Program)(G:Nat→Option Obj)(f:FuncId)(m:SQ):Prop:=∀args h p v h',m args h=some (p,v,h')→p→lW P G f args h fun x h2=>x=v∧h2=h'
theorem dD.lift{f:FuncId}{m:Mod}(hm:dD P G f m):lH P G f (sY m):=by
 intro args h p v h' he hp;unfold sY at he;split at he
 ·rename_i p' v' hq
  injection he with he;injection he with e1 he;injection he with e2 e3;subst e1;subst e2;subst e3;exact hm args _ _ hq hp h
 ·cases he
theorem jO:∀ {l:List (FuncId×SQ)},(∀e∈l,lH P G e.1 e.2)→bO P G (yB l)
 |[],_=>⟨fun _ _ _ _ _ h=>h.elim,fun _ _ _ _ _ h=>h.elim⟩
 |(g,m)::r,hl=>by
  have ih:=jO (l:=r) fun e he=>hl e (cV _ he)
  have h0:lH P G g m:=hl (g,m) (dI ..)
  refine⟨?_,?_⟩
  ·intro f args h k K hh
   simp only[yB]at hh;split at hh
   ·rename_i hb
    obtain rfl:=aH hb;split at hh
    ·rename_i p v h' hm
     exact(h0 args h p v h' hm hh.1).mono fun x h2 ⟨e1,e2⟩=>by rw[e1,e2];exact hh.2
    ·exact hh.elim
   ·exact ih.fn _ _ _ _ _ hh
  ·intro f args h k K hh
   simp only[yB]at hh ⊢;split at hh
   ·rename_i hb
    split at hh
    ·rename_i p v h' hm
     exact⟨v,h',hh.2,fun k' K' hk=>⟨hh.1,hk⟩⟩
    ·exact hh.elim
   ·exact ih.val _ _ _ _ _ hh
end
section
variable {P:Program} {G:Nat→Option Obj} {β β':Bt} {R R':Nat→Prop} {w w':World}
theorem IE{h:List AO}(hh:HS G β R w h)(k:Fr Bt.nil R w β' R' w')(hr:∀b,R b→R' b){h':List AO}(hh':HS G β' R' w' h'){x:AO}(hx:x.live=true){id b N:Nat}(hid:β' id=some (b,N))(hl:(bN .gone h' id).live=true)
  (hob:∀β2,jC Bt.nil R' w' β2 R' w'→OR β2 R' w' x b N) :
  HS G (bn β h.length (b,N)) R' w' (iF x h)∧Gr β R w (bn β h.length (b,N)) R' w':=by
 have hxr:∀b,R' b→R b∨w.heap.size≤b:=by
  intro b hb
  rcases k.rx b hb with h|h|h
  ·exact .inl h
  ·exact absurd h Bt.nil_has
  ·exact .inr h
 have hfresh:w.heap.size≤b:=by
  rcases k.ex b (.inl ⟨id,N,hid⟩) with h|h
  ·exact absurd h Bt.nil_has
  ·exact h
 have hold:∀i y,β i=some y→bn β h.length (b,N) i=some y:=fun i y hi=>by
  rw[dN _ (by have:=hh.dom i y hi;omega)];exact hi
 have hcase:∀i y,bn β h.length (b,N) i=some y→(i=h.length∧y=(b,N))∨(i≠h.length∧β i=some y):=fun i y hi=>by
  by_cases he:i=h.length
  ·subst he;rw[fN]at hi;injection hi with hi;exact .inl ⟨rfl,hi.symm⟩
  ·rw[dN _ he]at hi;exact .inr ⟨he,hi⟩
 have gr:Gr β R w (bn β h.length (b,N)) R' w':={
  os:=k.os,tape:=k.tape,output:=k.output,size:=k.size,rs:=k.rs
  fr:=fun b hb _=>k.fr b hb Bt.nil_has
  ex:=fun b' hi=>(GY hi).imp (fun h=>h) (fun h=>by have h:b'=b:=h;omega)
  rx:=fun b hb=>(hxr b hb).imp (fun h=>h) .inr
  bm:=hold
  rm:=hr }
 have hlen:(iF x h).length=h.length+1:=by rw[mM];simp
 have hnew:bN .gone (iF x h) h.length=x:=mF _ _ _
 have holdn:∀i y,β i=some y→bN .gone (iF x h) i=bN .gone h i:=fun i y hi=>hX _ _ _ (hh.dom i y hi)
 have kq:vT β w (bn β h.length (b,N)) w':=fun b' ad hb=>⟨hb,k.fr b' (hh.ql b' ad hb).1 Bt.nil_has⟩
 refine⟨⟨?_,?_,?_,?_,hh'.rlt,?_,?_,?_⟩,gr⟩
 ·intro i y hi
  rcases hcase i y hi with⟨e,_⟩|⟨_,e⟩
  ·omega
  ·have:=hh.dom i y e;omega
 ·intro i j b' o o' hi hj li lj
  rcases hcase i _ hi with⟨e1,q1⟩|⟨e1,q1⟩
  ·rcases hcase j _ hj with⟨e2,q2⟩|⟨e2,q2⟩
   ·omega
   ·injection q1 with q1 _
    have:=hh.lt j b' o' q2;omega
  ·rcases hcase j _ hj with⟨e2,q2⟩|⟨e2,q2⟩
   ·injection q2 with q2 _
    have:=hh.lt i b' o q1;omega
   ·rw[holdn i _ q1]at li
    rw[holdn j _ q2]at lj;exact hh.inj i j b' o o' q1 q2 li lj
 ·intro i b' o hi li hb
  rcases hcase i _ hi with⟨e1,q1⟩|⟨e1,q1⟩
  ·injection q1 with q1 _
   subst q1;exact hh'.sep id _ N hid hl hb
  ·rw[holdn i _ q1]at li
   rcases hxr b' hb with h|h
   ·exact hh.sep i b' o q1 li h
   ·have:=hh.lt i b' o q1;omega
 ·intro i b' o hi
  rcases hcase i _ hi with⟨e1,q1⟩|⟨e1,q1⟩
  ·injection q1 with q1 _
   subst q1;exact hh'.lt id _ N hid
  ·exact cI (hh.lt i b' o q1) k.size
 ·intro i b' o hi
  rcases hcase i _ hi with⟨e1,q1⟩|⟨e1,q1⟩
  ·injection q1 with q1 q2
   subst q1;subst q2;subst e1;rw[hnew];exact hob _ ⟨(fun _ _ h=>by cases h),fun _ h=>h,fun _ _=>rfl⟩
  ·rw[holdn i _ q1]
   exact OR.keep gr.keeps (kq.at b') (k.fr b' (hh.lt i b' o q1) Bt.nil_has) (hh.obj i b' o q1)
 ·intro b' ob hb
  exact hh'.gl b' ob hb
 ·intro b' ad hb
  obtain⟨h1,h2,h3⟩:=hh.ql b' ad hb;refine⟨cI h1 k.size,fun hf=>?_,fun i o hi=>?_⟩
  ·rcases hxr b' hf with h|h
   ·exact h2 h
   ·omega
  ·rcases hcase i _ hi with⟨e1,q1⟩|⟨e1,q1⟩
   ·injection q1 with q1 _;omega
   ·rw[holdn i _ q1];exact h3 i o q1
theorem GA{h:List AO}(hh:HS G β R w h)(k:Fr Bt.nil R w β' R' w')(hr:∀b,R b→R' b){h':List AO}(hh':HS G β' R' w' h')(x:AO) :
  HS G β (frz β' R') w' (iF x h)∧Gr β R w β (frz β' R') w':=by
 obtain⟨h1,h2⟩:=zS hh k hr hh'
 have hn:∀i y,β i=some y→bN .gone (iF x h) i=bN .gone h i:=fun i y hi=>hX _ _ _ (hh.dom i y hi)
 refine⟨⟨?_,?_,?_,h1.lt,h1.rlt,?_,h1.gl,fun b ad hb=>⟨(h1.ql b ad hb).1,(h1.ql b ad hb).2.1,fun i o hi=>by rw[hn i _ hi];exact(h1.ql b ad hb).2.2 i o hi⟩⟩,h2⟩
 ·intro i y hi
  have:=hh.dom i y hi
  rw[mM,gC];omega
 ·intro i j b o o' hi hj li lj
  rw[hn i _ hi]at li;rw[hn j _ hj]at lj;exact h1.inj i j b o o' hi hj li lj
 ·intro i b o hi li
  rw[hn i _ hi]at li;exact h1.sep i b o hi li
 ·intro i b o hi
  rw[hn i _ hi];exact h1.obj i b o hi
def WQ(r:Nat)(ty:TypeId)(sz n:Nat)(F:Nat→Nat→PV)(e:X)(st:St):Prop:=
 (∀j,e≠.exit j)∧∃id f,bN (.c .top) st.t r=.c (.sl id sz 0 n)∧bN .gone st.h id=.row ty sz n f∧∀e o,e<n→o<sz→f e o=.p (F e o)
theorem aOL{f:FuncId}{fn:Func}{r:Nat}{ty:TypeId}{sz n:Nat}{F:Nat→Nat→PV}(hf:P.funcs[f]?=some fn)(hok:okF P fn=true)(hr:fn.results.toList=[.tmp r]){args:List V}(hp:mN args=true)
  (h:jV P G (mT P fn) (iR fn args) (WQ r ty sz n F)) (h0:List AO) :
  lW P G f args h0 fun x h'=>x=.c (.sl (fK h0) sz 0 n)∧h'=iF (.row ty sz n fun e o=>.p (F e o)) h0:=by
 unfold okF at hok;simp only[aY,fS]at hok;obtain⟨⟨c,hc⟩,_⟩:=hok
 have e1:mT P fn=c:=by unfold mT;rw[hc];rfl
 rw[e1]at h;simp only[aB]at hc;obtain⟨c0,hb,hc⟩:=hc;intro β R w vs ha hh
 refine calls_of_wp hf hb (Code.wp_mono ?_ (h c0 hc Bt.nil R { tmps:=vs++fJ (fn.ntmps-vs.size) undef,defers:=[] } w ?_))
 ·intro e a' w' hq
  have key:∀x:X,(∀id,x≠.exit id)→Po G (WQ r ty sz n F) Bt.nil R w x a' w' →
    a'.defers=[]∧∃v,(results fn a'.tmps).run P w'=.ok v w'∧∃u β' R' x h',Ending.returned v=.returned u∧(x=.c (.sl (fK h0) sz 0 n)∧h'=iF (.row ty sz n fun e o=>.p (F e o)) h0)∧VR β' R' w' x u∧HS G β' R' w' h'∧Gr β R w β' R' w'∧∀i,i<h0.length→β' i=β i:=by
   rintro x hx ⟨β',R',st',⟨_,id,f',q1,q2,q3⟩,hs,hfr,hrr⟩
   have hv:=aR (x:=.tmp r) hs rfl
   have e2:st'.ev (.t r)=.c (.sl id sz 0 n):=q1
   rw[e2]at hv
   have hres:(results fn a'.tmps).run P w'=.ok (a'.tmps.getD r undef) w':=by
    refine results_eq (us:=[a'.tmps.getD r undef]) fn a'.tmps ?_;rw[hr];simp[List.mapM_cons,runR]
   refine⟨hs.df,_,hres,?_⟩;obtain⟨A,cp,hsl,hle,hmx,hcase⟩:=hv
   have hsl:a'.tmps.getD r undef=.slice A n cp:=hsl
   rw[hsl]
   rcases hcase with⟨hA,hn0,hc0⟩|⟨b,N,hb1,hb2,hb3⟩
   ·obtain⟨c1,c2⟩:=GA hh hfr hrr hs.hs (.row ty sz n fun e o=>.p (F e o))
    refine⟨_,β,frz β' R',_,_,rfl,⟨rfl,rfl⟩,?_,c1,c2,fun _ _=>rfl⟩;exact⟨A,cp,rfl,hle,hmx,.inl ⟨hA,hn0,hc0⟩⟩
   ·obtain⟨c1,c2⟩:=IE (x:=.row ty sz n fun e o=>.p (F e o)) hh hfr hrr hs.hs rfl hb1 (by rw[q2];rfl) (fun β2 hk=>by
      have hob:=hs.hs.obj id b N hb1
      rw[q2]at hob;obtain⟨cs,g1,g2,g3,g4⟩:=hob;refine⟨cs,g1,g2,g3,fun e o he ho=>?_⟩;obtain⟨u,k1,k2⟩:=g4 e o he ho;rw[q3 e o he ho]at k2
      exact⟨u,k1,k2⟩)
    refine⟨_,bn β h0.length (b,N),R',_,_,rfl,⟨rfl,rfl⟩,?_,c1,c2,fun i hi=>dN _ (by omega)⟩;refine⟨A,cp,rfl,hle,hmx,.inr ⟨b,N,?_,hb2,hb3⟩⟩;rw[fH];exact fN _ _ _
  cases e with
  |normal=>exact key .normal (by intro id h;cases h) hq
  |ret=>exact key .ret (by intro id h;cases h) hq
  |exit id=>
   obtain⟨β',R',st',q1,_⟩:=hq;exact absurd rfl (q1.1 id)
  |_=>exact hq.elim
 ·refine⟨rfl,?_,?_⟩
  ·have hl:args.length=vs.size:=by simpa using ha.length
   show All2 _ (args++List.replicate (fn.ntmps-args.length) (.t [])) _
   rw[eN,Array.toList_replicate,hl];exact(All2.pureV_ (oD hp) ha).append (vW _)
  ·exact⟨(fun i x hi=>by cases hi),(fun i j b o o' hi=>by cases hi),(fun i b o hi=>by cases hi),(fun i b o hi=>by cases hi),hh.rlt,(fun i b o hi=>by cases hi),hh.gl,fun b ad hb=>by cases hb⟩
theorem cO.blk{rs:List AR}{v:V}{id:Nat}{a:dA}{l r:List dA}{st:St}{Q:X→St→Prop}(hl:l=.block id a::r)(h:cO P G rs v (jH a) st fun e st'=>match e with
   |.normal=>cO P G rs v r st' Q
   |.exit j=>if j=id then cO P G rs v r st' Q else Q (.exit j) st'
   |.ret=>True):cO P G rs v l st Q:=by
 subst hl;refine sU.block (sU.mono (cO.code h) fun e st' he q=>?_);cases e with
 |normal=>exact q
 |exit j=>exact q
 |ret=>exact absurd rfl he
theorem kP{n:Nat}{l:List (Nat×V)}{h h':List AO}(hh:All2 WU h h'):cW G (bU n l h) (bU n l h'):=aGS ⟨rfl,hh⟩
theorem cO.loop'{rs:List AR}{v:V}{id:Nat}{b:dA}{l r:List dA}{st:St}{Q:X→St→Prop}(hl:l=.block id (.loop b)::r){σ:Type}(C:σ→St)(I:σ→Prop)(μ:σ→Nat)(s0:σ)(hI:I s0)(hw:cW G st (C s0))
  (step:∀s,I s→∀Q':X→St→Prop,(∀s' st',I s'→μ s'<μ s→cW G st' (C s')→Q' .normal st')→(∀st',cO P G rs v r st' Q→Q' (.exit id) st')→(∀j st',j≠id→Q (.exit j) st'→Q' (.exit j) st')→cO P G rs v (jH b) (C s) Q'):cO P G rs v l st Q:=
 cO.loop hl C I μ s0 hI hw fun s hs=>step s hs _ (fun s' _ h1 h2 h3=>⟨s',h1,h2,h3⟩) (fun _ h=>by simpa using h) (fun j _ hj h=>by simpa[hj] using h)
theorem cO.blk'{rs:List AR}{v:V}{id:Nat}{a:dA}{l r:List dA}{st:St}{Q:X→St→Prop}(hl:l=.block id a::r)
  (h:∀Q':X→St→Prop,(∀st',cO P G rs v r st' Q→Q' .normal st')→(∀st',cO P G rs v r st' Q→Q' (.exit id) st')→(∀j st',j≠id→Q (.exit j) st'→Q' (.exit j) st')→cO P G rs v (jH a) st Q'):cO P G rs v l st Q:=
 cO.blk hl (h _ (fun _ h=>h) (fun _ h=>by simpa using h) (fun j _ hj h=>by simpa[hj] using h))
theorem BD{α:Type}[Inhabited α]{enc:α→Nat→PV}{L:List α}{sz n:Nat}{ρ:List Nat}{g:Nat→Nat→C}{x:α}(hn:L.length=n)(h:∀o,o<sz→g 0 o=.p (enc x o)){e o:Nat}(he:e<n+1)(ho:o<sz) :
  fG ρ (iZ n (cR enc L) g e o)=cR enc (L++[x]) e o:=by
 unfold iZ;subst hn
 by_cases h1:e<L.length
 ·rw[if_pos h1];show cR enc L e o=_;unfold cR aJ;simp[List.getElem?_append_left h1]
 ·obtain rfl:e=L.length:=by omega
  rw[if_neg h1,Nat.sub_self,h o ho];show C.p _=_;unfold cR aJ;simp
end
def idC:C→Option Nat
 |.ptr id _=>some id
 |.rp id _ _ _=>some id
 |.sl id _ _ _=>some id
 |.mp id=>some id
 |_=>none
def aOY(o:Option Nat)(l:List Nat):List Nat:=match o with
 |some id=>match rK id l with
  |true=>l
  |false=>iF id l
 |none=>l
def idB:List B→List Nat→List Nat
 |[],l=>l
 |.ptr id _::r,l=>idB r (aOY (some id) l)
 |_::r,l=>idB r l
def idN(c:C)(l:List Nat):List Nat:=match c with
 |.fn _ fs cs=>idB cs (idB fs l)
 |c=>aOY (idC c) l
def BK:List C→List Nat→List Nat
 |[],l=>l
 |c::r,l=>BK r (idN c l)
def aJA:List Bool→List V→List Nat→List Nat
 |true::k,.c x::r,l=>aJA k r (idN x l)
 |true::k,.a cs::r,l=>aJA k r (BK cs l)
 |_::k,_::r,l=>aJA k r l
 |_,_,l=>l
def aB7(h:List AO):List Nat→List Nat→List Nat
 |[],l=>l
 |id::r,l=>match bN .gone h id with
  |.cells _ vs=>aB7 h r (BK vs l)
  |.foc _ _ _ _ vs _=>aB7 h r (BK vs l)
  |.mapl _ _ _ _ (some (_,c))=>aB7 h r (idN c l)
  |.pin j _=>aB7 h r (aOY (some j) l)
  |_=>aB7 h r l
def aOB(h:List AO)(l:List Nat):List Nat:=aB7 h l l
def aut(keep:List Bool)(st:St):List Nat:=aOB st.h (aOB st.h (aOB st.h (aJA keep st.t [])))
def YU(keep:List Bool)(st:St):St:=match qJ (aut keep st) with
 |true=>aMF (aut keep st) keep st
 |false=>st
def cP(keep:List Bool)(rs:List AR)(e:X)(st:St):Tr:=match e with
 |.ret=>VZ rs .ret st
 |e=>.done e (YU keep st)
section
variable {P:Program} {G:Nat→Option Obj} {rs:List AR} {v:V}
theorem fW(keep:List Bool)(st:St):cW G st (YU keep st):=by
 unfold YU;split
 ·rename_i h;exact rC _ keep h st
 ·exact cW.refl st
theorem zY{keep:List Bool}{e:X}{st:St}{K:X→St→Prop}(h:(cP keep rs e st).holds P G (KF v K)):∃st2,cW G st st2∧RK P G rs v K e st2:=by
 cases e with
 |ret=>exact⟨st,cW.refl st,DD h⟩
 |normal=>exact⟨_,fW keep st,h⟩
 |exit id=>exact⟨_,fW keep st,h⟩
theorem uD{ext:Ext}(hext:bO P G ext){keep:List Bool}:∀ {l:List dA} {st:St} {K:X→St→Prop},(cJ ext l st (cP keep rs)).holds P G (KF v K)→cO P G rs v l st K
 |[],st,K,h=>zY h
 |c::r,st,K,h=>by
  have h1:=jV.ev hext h
  refine sU.post ?_;refine jV.post (jV.mono h1 fun e st' q=>?_);cases e with
  |normal=>exact⟨st',cW.refl st',st',cW.refl st',uD hext q⟩
  |ret=>
   obtain⟨st2,q1,q2⟩:=zY q;exact⟨st2,q1,q2⟩
  |exit id=>
   obtain⟨st2,q1,q2⟩:=zY q;exact⟨st2,q1,st2,cW.refl st2,q2⟩
theorem cO.evG{ext:Ext}(hext:bO P G ext)(n:Nat){keep:List Bool}{l:List dA}{st:St}{Q:X→St→Prop}{tree:Tr}(ht:cJ ext (dH n l) st (cP keep rs)=tree)
  (h:tree.holds P G (KF v fun e st'=>match e with
   |.normal=>cO P G rs v (bJ n l) st' Q
   |e=>Q e st')):cO P G rs v l st Q:=by
 rw[←qE n l];subst ht;exact cO.glue (uD hext h)
theorem cO.evH{ext:Ext}(hext:bO P G ext){keep:List Bool}{l:List dA}{st:St}{Q:X→St→Prop}{tree:Tr}(ht:cJ ext l st (cP keep rs)=tree)(h:tree.holds P G (KF v Q)):cO P G rs v l st Q:=by
 subst ht;exact uD hext h
end
def brN(z:Int)(k:V→Tr):Nat→Nat→Tr
 |0,_=>.fail
 |n+1,j=>bT (z==(j:Int)) (k (.c (.p (.i .i64 (j:Int))))) (brN z k n (j+1))
def LT(f0:FuncId)(m:List V→Option (Prop×Int×Nat))(rest:Ext):Ext:=fun f args h k=>match bE f0 f with
 |true=>match m args with
  |some (p,z,n)=>.rq (p∧0≤z∧z<n) (brN z (fun v=>k v h) n 0)
  |none=>.fail
 |false=>rest f args h k
section
variable {P:Program} {G:Nat→Option Obj}
theorem vD{z:Int}{k:V→Tr}{K:X→St→Prop}:∀(n j:Nat),(j:Int)≤z→z<j+n→((brN z k n j).holds P G K↔(k (.c (.p (.i .i64 z)))).holds P G K)
 |0,j,h1,h2=>by omega
 |n+1,j,h1,h2=>by
  simp only[brN,bD,beq_iff_eq,beq_eq_false_iff_ne]
  by_cases hz:z=j
  ·subst hz;simp
  ·have ih:=vD (z:=z) (k:=k) (K:=K) n (j+1) (by omega) (by omega)
   rw[ih];exact⟨fun h=>h.2 hz,fun h=>⟨fun h'=>absurd h' hz,fun _=>h⟩⟩
theorem LS{f0:FuncId}{m:List V→Option (Prop×Int×Nat)}{rest:Ext}(hr:bO P G rest)(hm:∀args p z n,m args=some (p,z,n)→p→∀h,lW P G f0 args h fun x h'=>x=.c (.p (.i .i64 z))∧h'=h):bO P G (LT f0 m rest):=by
 refine⟨?_,?_⟩
 ·intro f args h k K hh
  unfold LT at hh;split at hh
  ·rename_i hb
   obtain rfl:=aH hb;split at hh
   ·rename_i p z n he
    obtain⟨⟨hp,h0,h1⟩,h2⟩:=hh;rw[vD n 0 (by omega) (by omega)]at h2
    exact(hm args p z n he hp h).mono fun x h' ⟨e1,e2⟩=>by rw[e1,e2];exact h2
   ·exact hh.elim
  ·exact hr.fn _ _ _ _ _ hh
 ·intro f args h k K hh
  unfold LT at hh ⊢;split at hh
  ·rename_i hb
   split at hh
   ·rename_i p z n he
    obtain⟨⟨hp,h0,h1⟩,h2⟩:=hh;rw[vD n 0 (by omega) (by omega)]at h2;exact⟨_,h,h2,fun k' K' hk=>⟨⟨hp,h0,h1⟩,(vD n 0 (by omega) (by omega)).2 hk⟩⟩
   ·exact hh.elim
  ·exact hr.val _ _ _ _ _ hh
end
abbrev cF(x0 x1 x2 x3 x4 x5 x6:Int)(x7:ByteArray)(x8:Nat)(x9:Nat→Nat→PV)(x10:Nat)(x11:Nat→Nat→PV)(x12:Nat)(x13:Nat→Nat→PV):List C:=[.p (.i .i64 x0),.p (.i .i64 x1),.p (.i .i64 x2),.p (.i .i64 x3),.p (.i .i64 x4),.p (.i .i64 x5),.p (.i .i64 x6),.p (.s x7),.p (.l 3 x8 x9),.p (.l 1 x10 x11),.p (.l 11 x12 x13)]
abbrev aH9(x0 x1 x2 x3 x4 x5:Int)(x6:ByteArray)(x7:Nat)(x8:Nat→Nat→PV)(x9:Nat)(x10:Nat→Nat→PV)(x11:Nat)(x12:Nat→Nat→PV):List C:=[.p (.i .i64 x0),.p (.i .i64 x1),.p (.i .i64 x2),.p (.i .i64 x3),.p (.i .i64 x4),.p (.i .i64 x5),.p (.s x6),.p (.l 3 x7 x8),.p (.l 1 x9 x10),.p (.l 11 x11 x12)]
abbrev SZ(x0:ByteArray)(x1:Int)(x2:ByteArray):List C:=[.p (.s x0),.p (.i .i64 x1),.p (.s x2)]
abbrev aPS(x0 x1 x2 x3:ByteArray):List C:=[.p (.s x0),.p (.s x1),.p (.s x2),.p (.s x3)]
abbrev aWW(x0:ByteArray)(x1 x2 x3 x4 x5 x6 x7 x8 x9 x10:Int):List C:=[.p (.s x0),.p (.z (.slice none 0 0)),.p (.i .i64 x1),.p (.i .i64 x2),.p (.i .i64 x3),.p (.i .i64 x4),.p (.i .i64 x5),.p (.i .i64 x6),.p (.i .i64 x7),.p (.i .i64 x8),.p (.i .i64 x9),.p (.i .i64 x10)]
abbrev CZ(x0:ByteArray)(x1:Nat)(x2:Nat→Nat→PV)(x3 x4 x5 x6 x7 x8 x9 x10 x11 x12:Int):List C:=[.p (.s x0),.p (.l 2 x1 x2),.p (.i .i64 x3),.p (.i .i64 x4),.p (.i .i64 x5),.p (.i .i64 x6),.p (.i .i64 x7),.p (.i .i64 x8),.p (.i .i64 x9),.p (.i .i64 x10),.p (.i .i64 x11),.p (.i .i64 x12)]
abbrev aH8(x0 x1 x2 x3:Int):List C:=[.p (.i .i64 x0),.p (.i .i64 x1),.p (.i .i64 x2),.p (.i .i64 x3)]
abbrev aH7(x0:ByteArray)(x1:Nat)(x2:Nat→Nat→PV)(x3 x4 x5 x6 x7 x8 x9 x10 x11 x12:Int)(x13:Nat)(x14:Nat→Nat→PV):List C:=[.p (.s x0),.p (.l 2 x1 x2),.p (.i .i64 x3),.p (.i .i64 x4),.p (.i .i64 x5),.p (.i .i64 x6),.p (.i .i64 x7),.p (.i .i64 x8),.p (.i .i64 x9),.p (.i .i64 x10),.p (.i .i64 x11),.p (.i .i64 x12),.p (.l 4 x13 x14)]
abbrev bG(x0 x1 x2:Int):List C:=[.p (.i .i64 x0),.p (.i .i64 x1),.p (.i .i64 x2)]
abbrev pH(x0:ByteArray)(x1 x2 x3 x4 x5 x6 x7 x8:Int)(x9:ByteArray)(x10:Nat)(x11:Nat→Nat→PV)(x12:Nat)(x13:Nat→Nat→PV)(x14:Nat)(x15:Nat→Nat→PV)(x16:Bool)(x17 x18 x19 x20 x21:Int):List C:=[.p (.s x0),.p (.i .i64 x1),.p (.i .i64 x2),.p (.i .i64 x3),.p (.i .i64 x4),.p (.i .i64 x5),.p (.i .i64 x6),.p (.i .i64 x7),.p (.i .i64 x8),.p (.s x9),.p (.l 3 x10 x11),.p (.l 1 x12 x13),.p (.l 11 x14 x15),.p (.b x16),.p (.i .i64 x17),.p (.i .i64 x18),.p (.i .i64 x19),.p (.i .i64 x20),.p (.i .i64 x21)]
abbrev aPT(x0:ByteArray)(x1 x2 x3 x4 x5 x6 x7 x8:Int)(x9:ByteArray)(x10:Bool)(x11 x12 x13 x14 x15:Int):List C:=[.p (.s x0),.p (.i .i64 x1),.p (.i .i64 x2),.p (.i .i64 x3),.p (.i .i64 x4),.p (.i .i64 x5),.p (.i .i64 x6),.p (.i .i64 x7),.p (.i .i64 x8),.p (.s x9),.p (.z (.slice none 0 0)),.p (.z (.slice none 0 0)),.p (.z (.slice none 0 0)),.p (.b x10),.p (.i .i64 x11),.p (.i .i64 x12),.p (.i .i64 x13),.p (.i .i64 x14),.p (.i .i64 x15)]
abbrev aKE(x0 x1 x2 x3 x4 x5 x6:Int)(x7:ByteArray)(x8:Nat)(x9:Nat→Nat→PV)(x10:Nat)(x11:Nat→Nat→PV)(x12:Nat)(x13:Nat→Nat→PV)(x14 x15 x16 x17 x18 x19 x20:Int)(x21:ByteArray)(x22:Nat)(x23:Nat→Nat→PV)(x24:Nat)(x25:Nat→Nat→PV)(x26:Nat)(x27:Nat→Nat→PV):List C:=[.p (.i .i64 x0),.p (.i .i64 x1),.p (.i .i64 x2),.p (.i .i64 x3),.p (.i .i64 x4),.p (.i .i64 x5),.p (.i .i64 x6),.p (.s x7),.p (.l 3 x8 x9),.p (.l 1 x10 x11),.p (.l 11 x12 x13),.p (.i .i64 x14),.p (.i .i64 x15),.p (.i .i64 x16),.p (.i .i64 x17),.p (.i .i64 x18),.p (.i .i64 x19),.p (.i .i64 x20),.p (.s x21),.p (.l 3 x22 x23),.p (.l 1 x24 x25),.p (.l 11 x26 x27)]
abbrev lK(x0 x1 x2 x3 x4 x5:Int):List C:=[.p (.i .i64 x0),.p (.i .i64 x1),.p (.i .i64 x2),.p (.i .i64 x3),.p (.i .i64 x4),.p (.i .i64 x5)]
abbrev kE(x0 x1 x2 x3 x4 x5 x6:Int)(x7:ByteArray):List C:=[.p (.i .i64 x0),.p (.i .i64 x1),.p (.i .i64 x2),.p (.i .i64 x3),.p (.i .i64 x4),.p (.i .i64 x5),.p (.i .i64 x6),.p (.s x7),.p (.z (.slice none 0 0)),.p (.z (.slice none 0 0)),.p (.z (.slice none 0 0))]
abbrev aCO(x0 x1 x2 x3 x4 x5 x6:Int)(x7:ByteArray)(x8:Nat)(x9:Nat→Nat→PV):List C:=[.p (.i .i64 x0),.p (.i .i64 x1),.p (.i .i64 x2),.p (.i .i64 x3),.p (.i .i64 x4),.p (.i .i64 x5),.p (.i .i64 x6),.p (.s x7),.p (.z (.slice none 0 0)),.p (.z (.slice none 0 0)),.p (.l 11 x8 x9)]
end Go.AE
