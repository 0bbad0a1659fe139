import Derived.Test.YtgdlaibocecehaaGreatDoorRVa
import Derived.Laws.Tables
import Derived.Maps.AppendAt
import Derived.Maps.Own
import Derived.Laws.Externs
import Derived.Shelf.Spec.BitsCarry
import Derived.Lib.AppendZeros
import Derived.Laws.IdiomCopy
set_option linter.unusedVariables false
set_option linter.unusedSimpArgs false
namespace Go.AE
open _root_.Array renaming getElem?_eq_some_iff→bF,getElem?_extract→cQ,getElem?_toList→bC,toList_inj→bW
open _root_.BitVec renaming ofInt→dW
open _root_.Bool renaming and_eq_true→aY
open _root_.Int renaming eq_ofNat_of_zero_le→dQ
open _root_.List renaming eq_nil_of_length_eq_zero→eU,getD_eq_getElem?_getD→aG,getElem?_append_left→cZ,getElem?_append_right→eF,getElem?_eq_getElem→aN,getElem?_eq_none→bL,getElem?_eq_some_iff→aV,mem_cons→dZ,mem_of_getElem?→cL
open _root_.Nat renaming add_mul→dG,eq_of_beq_eq_true→aH,le_of_ble_eq_true→aQ,le_refl→aU,lt_of_lt_of_le→cI,mul_le_mul_right→bP,one_mul→gW,zero_le→bH
open Op renaming equalIn→eE,intArith→gA
open _root_.Option renaming bind_eq_bind→aE,bind_eq_some_iff→aB,bind_some→gT,isSome_iff_exists→fS,map_eq_some_iff→aM,pure_def→aK,some.injEq→aD
open Go.RowKit
section
variable {P:Program} {G:Nat→Option Obj} {β:Bt} {R:Nat→Prop} {w:World} {st:St} {a:Act} {o:Oper} {KV:V→List AO→Prop}
theorem YN{Q:Nat→Value→Prop}:∀(k:Nat),(∀j,j<k→∃u,Q j u)→∃us:List Value,us.length=k∧∀j u,us[j]?=some u→Q j u
 |0,_=>⟨[],rfl,fun j u hu=>by simp at hu⟩
 |k+1,h=>by
  obtain⟨us,h1,h2⟩:=YN k (fun j hj=>h j (by omega));obtain⟨u,h3⟩:=h k (by omega);refine⟨us++[u],by simp[h1],fun j v hj=>?_⟩
  by_cases e1:j<us.length
  ·rw[cZ e1]at hj;exact h2 j v hj
  ·rw[eF (by omega)]at hj
   have:j-us.length=0:=by
    have:=(aV.1 hj).1
    simp at this;omega
   rw[this]at hj;simp at hj;subst hj
   obtain rfl:j=k:=by omega
   exact h3
theorem wM{e o m sz:Nat}(he:e<m)(ho:o<sz):e*sz+o<m*sz:=by
 have:=bP sz (show e+1≤m by omega)
 rw[dG,gW]at this;omega
def ZR(β:Bt)(R:Nat→Prop)(w:World)(sz m:Nat)(g:Nat→Nat→C)(v:Value):Prop:=
 ∃(A:Option Addr) (c:Nat) (news:List Value),v=.slice A m c∧news.length=m*sz∧(A=none→m=0)∧(∀ad,A=some ad→∀j u,news[j]?=some u→w.cell? (ad.add j)=some u) ∧
  ∀e o,e<m→o<sz→∃u,news[e*sz+o]?=some u∧CR β R w (g e o) u
theorem CX(hs:eC G β R st a w){x:Operand}{ax:AX}(hx:cX x=some ax){sz:Nat}(hz:0<sz){k:Nat→(Nat→Nat→C)→Tr}{K:X→St→Prop}(h:(aCM st sz ax k).holds P G K) :
  ∃m g,ZR β R w sz m g (a.eval x)∧(k m g).holds P G K:=by
 have hv:=aR hs hx
 simp only[aCM]at h;split at h
 ·rename_i he
  rw[he]at hv
  have hv:a.eval x=.slice none 0 0:=hv
  exact⟨0,_,⟨none,0,[],hv,by simp,fun _=>rfl,fun ad h=>by(cases h),fun e o he=>by omega⟩,h⟩
 ·rename_i sz' m f he
  rw[he]at hv;obtain⟨c1,c2⟩:=cE h;obtain rfl:=aH c1;refine⟨m,_,?_,c2⟩;obtain⟨A,c,g1,g2,g3,g4⟩:=hv
  rcases Nat.eq_zero_or_pos m with h0|h0
  ·subst h0
   exact⟨A,c,[],g1,by simp,fun _=>rfl,fun ad _ j u hu=>by(simp at hu),fun e o he=>by omega⟩
  ·obtain⟨ad,rfl,g5,g6⟩:=g4 h0
   have hex:∀j,j<m*sz→∃u,w.cell? (ad.add j)=some u∧PR R w (f (j / sz) (j%sz)) u:=by
    intro j hj;obtain⟨u,h5,h6⟩:=g6 (j / sz) (j%sz) (Nat.div_lt_of_lt_mul (by rw[Nat.mul_comm];exact hj)) (Nat.mod_lt _ hz);rw[Nat.mul_comm (j / sz) sz,Nat.div_add_mod]at h5;exact⟨u,h5,h6⟩
   obtain⟨news,h1,h2⟩:=YN (m*sz) hex;refine⟨some ad,c,news,g1,h1,(fun h=>by cases h),fun ad' had j u hu=>by injection had with had;subst had;exact(h2 j u hu).1,fun e o he ho=>?_⟩
   have hlt:=wM he ho
   refine⟨news[e*sz+o]'(by omega),aN (by omega),?_⟩
   have:=(h2 (e*sz+o) _ (aN (by omega))).2
   have d1:(e*sz+o) / sz=e:=by
    rw[Nat.mul_comm,Nat.mul_add_div hz,Nat.div_eq_of_lt ho];rfl
   have d2:(e*sz+o)%sz=o:=by
    rw[Nat.mul_comm,Nat.mul_add_mod];exact Nat.mod_eq_of_lt ho
   rw[d1,d2]at this;exact this
 ·rename_i id sz' off len he
  rw[he]at hv;split at h
  ·rename_i ty sz'' m f hid
   obtain⟨c1,h1,c2⟩:=cE h;simp only[aY]at c1;obtain rfl:=aH c1.1;obtain rfl:=aH c1.2;refine⟨len,_,?_,c2⟩;obtain⟨A,c,g1,g2,g3,g4⟩:=hv
   rcases g4 with⟨_,rfl,rfl⟩|⟨b,N,g5,rfl,g7⟩
   ·exact⟨A,0,[],g1,by simp,fun _=>rfl,fun ad h j u hu=>by simp at hu,fun e o he=>by omega⟩
   ·have hob:=hs.hs.obj id b N g5
    rw[hid]at hob;obtain⟨cs,q1,q2,q3,q4⟩:=hob
    have hle:(off+len)*sz≤m*sz:=bP sz h1
    rw[dG]at hle;refine⟨_,c,(cs.extract (off*sz) (off*sz+len*sz)).toList,g1,by simp;omega,(fun h=>by cases h),?_,?_⟩
    ·intro ad had j u hu
     injection had with had;subst had;rw[add_mid,cell_of_row w b _ cs ty (0,0) q1];rw[bC,cQ]at hu;split at hu
     ·exact hu
     ·cases hu
    ·intro e o he ho
     have hlt:=wM he ho
     obtain⟨u,h5,h6⟩:=q4 (e+off) o (by omega) ho;refine⟨u,?_,h6.cr⟩;rw[bC,cQ,if_pos (by omega),←h5];congr 1;rw[dG];omega
  ·exact h.elim
 ·exact h.elim
def SR(β:Bt)(w:World)(h:List AO)(ty:TypeId)(sz n:Nat)(f:Nat→Nat→C)(old:Option Nat)(R:Nat→Prop)(v:Value):Prop:=
 (v=.slice none 0 0∧n=0∧(old=none∨∃id,old=some id))∨∃id b N c cs,old=some id∧β id=some (b,N)∧(bN .gone h id).live=true∧v=.slice (some ⟨b,0,none⟩) n c∧n≤c∧c≤maxLen∧w.heap[b]?=some (.cells cs ty (0,0))∧cs.size=c*sz ∧
  ∀e k,e<n→k<sz→∃u,cs[e*sz+k]?=some u∧rS β R w (b,e*sz+k) (f e k) u
theorem WG(hs:eC G β R st a w){x:Operand}{ax:AX}(hx:cX x=some ax){sz:Nat}{ty:TypeId}{k:Nat→(Nat→Nat→C)→Option Nat→Tr}{K:X→St→Prop}(hoff:∀id sz off len,st.ev ax=.c (.sl id sz off len)→off=0)(h:(aJQ st ty sz ax k).holds P G K) :
  ∃n f old,SR β w st.h ty sz n f old R (a.eval x)∧(k n f old).holds P G K:=by
 have hv:=aR hs hx
 simp only[aJQ]at h;split at h
 ·rename_i he
  rw[he]at hv;exact⟨0,_,none,.inl ⟨hv,rfl,.inl rfl⟩,h⟩
 ·rename_i id sz' off len he
  rw[he]at hv;split at h
  ·rename_i ty' sz'' m f hid
   obtain⟨c1,h1,c2⟩:=cE h;simp only[aY]at c1;obtain rfl:=aH c1.1.1;obtain rfl:=aH c1.1.2;obtain rfl:=aH c1.2;obtain rfl:=hoff _ _ _ _ he;subst h1;refine⟨len,f,some id,?_,c2⟩;obtain⟨A,c,g1,g2,g3,g4⟩:=hv
   rcases g4 with⟨hA,rfl,rfl⟩|⟨b,N,g5,rfl,g7⟩
   ·obtain rfl:A=none:=hA.resolve_right (by omega)
    exact .inl ⟨g1,rfl,.inr ⟨id,rfl⟩⟩
   ·have hob:=hs.hs.obj id b N g5
    rw[hid]at hob;obtain⟨cs,q1,q2,q3,q4⟩:=hob;refine .inr ⟨id,b,N,c,cs,rfl,g5,by rw[hid];rfl,by rw[g1];simp,g2,g3,q1,by rw[q2,←g7];simp,q4⟩
  ·exact h.elim
 ·exact h.elim
theorem NS(h:List AO)(old:Option Nat):(nD h old).length=h.length:=by
 cases old with
 |none=>rfl
 |some id=>simp[nD,jB]
theorem rO{h:List AO}{old:Option Nat}{i:Nat}:bN .gone (nD h old) i=bN .gone h i∨(old=some i∧bN .gone (nD h old) i=.gone):=by
 cases old with
 |none=>exact .inl rfl
 |some id=>
  by_cases e:id=i
  ·subst e
   right;refine⟨rfl,?_⟩
   by_cases hl:id<h.length
   ·exact gQ _ _ _ hl
   ·simp only[nD];rw[jB,eK,aG,bL (by simp;omega)];rfl
  ·exact .inl (fC _ _ _ e)
def rlq(β:Bt)(b g:Nat):Bt:=⟨β.f,fun b1=>match β.q b1 with
 |some (b0,k)=>if b0=b then some (g,k) else some (b0,k)
 |none=>none⟩
theorem sW(β:Bt)(b g:Nat):(rlq β b g).f=β.f:=rfl
theorem PD{β:Bt}{b g b1:Nat}{ad:Nat×Nat}(h:(rlq β b g).q b1=some ad):∃ad',β.q b1=some ad':=by
 simp only[rlq]at h;split at h
 ·rename_i b0 k hq;exact⟨_,hq⟩
 ·cases h
theorem aHF{β:Bt}{b g b1:Nat}(h:(rlq β b g).has b1):β.has b1:=by
 rcases h with h|⟨ad,h⟩
 ·exact .inl h
 ·exact .inr (PD h)
theorem aA8{β:Bt}{b g b1 bi k:Nat}(h:β.q b1=some (bi,k))(hne:bi≠b):(rlq β b g).q b1=some (bi,k):=by
 simp only[rlq,h,if_neg hne]
theorem aHE{β β1:Bt}{R:Nat→Prop}{w w':World}{b b' g k:Nat}{x:C}{u:Value}(hk:jC β R w (rlq β1 b' g) R w')(hb:b'=b)(hq:∀b1 ad,β.q b1=some ad→w'.heap[b1]?=w.heap[b1]?)(h:rS β R w (b,k) x u)(e1:β1.q=β.q:=by rfl):rS (rlq β1 b' g) R w' (g,k) x u:=by
  subst hb;cases x with
  |own ty sz n f=>
   obtain⟨A,c,h1,h2,h3,h4⟩:=h;refine⟨A,c,h1,h2,h3,?_⟩
   rcases h4 with h4|⟨b0,cs,h5,h6,h7,h8,h9⟩
   ·exact .inl h4
   ·refine .inr ⟨b0,cs,h5,?_,(hq _ _ h6).trans h7,h8,fun e k' he hk'=>?_⟩
    ·simp only[rlq,e1,h6,if_pos]
    ·obtain⟨u,g1,g2⟩:=h9 e k' he hk'
     exact⟨u,g1,PR.keep hk.rm hk.rs _ g2⟩
  |_=>exact rS.of rfl (CR.keep hk h.cr)
theorem DW{ax:AX}{p q:Tr}{K:X→St→Prop}(h:(aNQ st ax p q).holds P G K):(p.holds P G K∧∀id sz off len,st.ev ax=.c (.sl id sz off len)→off=0)∨∃id sz off len,st.ev ax=.c (.sl id sz off len)∧off≠0∧q.holds P G K:=by
 unfold aNQ at h;split at h
 ·rename_i id sz off len he
  cases hb:Nat.beq off 0 with
  |true=>
   rw[hb]at h;refine .inl ⟨h,fun id' sz' off' len' he'=>?_⟩;rw[he]at he';injection he' with he';injection he' with _ _ e _;rw[←e];exact aH hb
  |false=>
   rw[hb]at h;exact .inr ⟨id,sz,off,len,he,Nat.ne_of_beq_eq_false hb,h⟩
 ·rename_i he
  exact .inl ⟨h,fun id sz off len h'=>absurd h' (he id sz off len)⟩
set_option maxHeartbeats 1000000 in
theorem yJ(hs:eC G β R st a w){x:Operand}{e:TypeId}{sz:Nat}{n m:Nat}{f g:Nat→Nat→C}{old:Option Nat}{news:List Value}(c0:0<sz)(hd:SR β w st.h e sz n f old R (a.eval x))(s2:news.length=m*sz)
  (s5:∀e o,e<m→o<sz→∃u,news[e*sz+o]?=some u∧CR β R w (g e o) u) (b3:∀e o,e<m→o<sz→kZ (g e o)=true)
  (hrun:∀xs,w.ownsRow 0 e sz (a.eval x) n xs→∃v' w',(execOp a.eval o).run P w=.ok (.value v') w'∧w'.ownsRow 0 e sz v' (n+m) (xs++news)∧w.grownBy w' (a.eval x).ownBlock∧(v'.ownBlock=(a.eval x).ownBlock∨v'.ownBlock=some w.heap.size))
  {kk:V→List AO→Tr} {K:X→St→Prop} (h:(kk (.c (.sl (fK st.h) sz 0 (n+m))) (iF (.row e sz (n+m) (iZ n f g)) (nD st.h old))).holds P G K) :
  ∃(v2:Value) (w':World) (β':Bt) (xv:V) (h':List AO),(execOp a.eval o).run P w=.ok (.value v2) w'∧(kk xv h').holds P G K∧VR β' R w' xv v2∧HS G β' R w' h'∧Gr β R w β' R w'∧(∀i,i<st.h.length→β' i=β i)∧w.grownBy w' (a.eval x).ownBlock:=by
 obtain⟨xs,hown,hxs⟩:∃xs,w.ownsRow 0 e sz (a.eval x) n xs∧∀i k,i<n→k<sz→∃u b,(a.eval x).ownBlock=some b∧xs[i*sz+k]?=some u∧rS β R w (b,i*sz+k) (f i k) u:=by
  rcases hd with⟨hv,rfl,_⟩|⟨id,b,N,c',cs,rfl,d1,d2,d3,d4,d5,d6,d7,d8⟩
  ·exact⟨[],⟨by simp,.inl ⟨hv,rfl⟩⟩,fun i k hi=>by omega⟩
  ·have hle:n*sz≤c'*sz:=bP sz d4
   refine⟨cs.toList.take (n*sz),⟨by simp;omega,.inr ⟨b,c',cs,d3,bH _,d6,d4,d5,d7,rfl⟩⟩,fun i k hi hk=>?_⟩;obtain⟨u,q1,q2⟩:=d8 i k hi hk;refine⟨u,b,by rw[d3];rfl,?_,q2⟩
   have:=wM hi hk
   rw[List.getElem?_take_of_lt this];simpa using q1
 obtain⟨v',w',hexec,r1,r2,r3⟩:=hrun xs hown
 have hcells:∀i k,i<n+m→k<sz→∃u,(xs++news)[i*sz+k]?=some u∧((iZ n f g i k).isOwn=false∧CR β R w (iZ n f g i k) u∨∃b,(a.eval x).ownBlock=some b∧rS β R w (b,i*sz+k) (iZ n f g i k) u):=by
  intro i k hi hk;unfold iZ
  by_cases hin:i<n
  ·rw[if_pos hin]
   obtain⟨u,b,q0,q1,q2⟩:=hxs i k hin hk;exact⟨u,by rw[cZ ((aV.1 q1).1)];exact q1,.inr ⟨b,q0,q2⟩⟩
  ·rw[if_neg hin]
   obtain⟨u,q1,q2⟩:=s5 (i-n) k (by omega) hk;refine⟨u,?_,.inl ⟨pM (b3 _ _ (by omega) hk),q2⟩⟩
   have hxl:xs.length=n*sz:=hown.1
   have:n*sz≤i*sz:=bP sz (by omega)
   rw[eF (by omega),←q1,hxl];congr 1;rw[Nat.sub_mul];omega
 rw[fH]at h
 have hgl:=NS st.h old
 have hblk:∀g,(a.eval x).ownBlock=some g→∃id N,old=some id∧β id=some (g,N)∧(bN .gone st.h id).live=true:=by
  intro g hg
  rcases hd with⟨hv,_⟩|⟨id,b,N,c',cs,rfl,d1,d2,d3,_⟩
  ·rw[hv]at hg;cases hg
  ·rw[d3]at hg
   have:b=g:=by simpa[Value.ownBlock] using hg
   subst this;exact⟨id,N,rfl,d1,d2⟩
 have hother:∀i b N,β i=some (b,N)→(bN .gone (nD st.h old) i).live=true→(a.eval x).ownBlock≠some b:=by
  intro i b N hi hl hg;obtain⟨id,N',h1,h2,h3⟩:=hblk b hg
  rcases rO (h:=st.h) (old:=old) (i:=i) with hq|⟨hq,hq2⟩
  ·rw[hq]at hl
   have hii:=hs.hs.inj i id b N N' hi h2 hl h3
   subst hii
   rcases rO (h:=st.h) (old:=old) (i:=i) with hq'|⟨_,hq'⟩
   ·subst h1
    have:bN .gone (nD st.h (some i)) i=.gone:=gQ _ _ _ (hs.hs.dom i _ hi)
    rw[this]at hq;rw[←hq]at hl;cases hl
   ·rw[hq']at hq;rw[←hq]at hl;cases hl
  ·rw[hq2]at hl;cases hl
 have hRb:∀b,R b→(a.eval x).ownBlock≠some b:=by
  intro b hb hg;obtain⟨id,N,_,h2,h3⟩:=hblk b hg;exact hs.hs.sep id b N h2 h3 hb
 have hnb:∀b N,v'=.slice (some ⟨b,0,none⟩) (n+m) N→(a.eval x).ownBlock=some b∨b=w.heap.size:=by
  intro b N hv;rw[hv]at r3
  rcases r3 with r3|r3
  ·left;rw[←r3];simp[Value.ownBlock]
  ·right;simpa[Value.ownBlock] using r3
 have hkeep:∀β':Bt,(∀i x,β i=some x→β' i=some x)→jC β R w β' R w':=fun β' hm=>⟨hm,fun _ hb=>hb,fun b hb=>r2.block b (hs.hs.rlt b hb) (fun e=>hRb b hb e.symm)⟩
 have hqb:∀b1 ad,β.q b1=some ad→(a.eval x).ownBlock≠some b1:=by
  intro b1 ad hb hg;obtain⟨id,N,_,h2,h3⟩:=hblk b1 hg
  have:=(hs.hs.ql b1 ad hb).2.2 id N h2
  rw[h3]at this;cases this
 have hqh:∀b1 ad,β.q b1=some ad→w'.heap[b1]?=w.heap[b1]?:=fun b1 ad hb=>r2.block b1 (hs.hs.ql b1 ad hb).1 (fun e=>hqb b1 ad hb e.symm)
 have hfr:∀β':Bt,(∀i x,β i=some x→β' i=some x)→(∀b,β'.has b→β.has b∨w.heap.size≤b)→Gr β R w β' R w':=fun β' hm hex=>{
  os:=r2.os,tape:=r2.tape,output:=r2.output,size:=r2.size
  rs:=(hkeep β' hm).rs
  fr:=fun b hb hn=>r2.block b hb (fun e=>by
   obtain⟨id,N,_,h2,_⟩:=hblk b e.symm
   exact hn (.inl ⟨id,N,h2⟩))
  ex:=hex
  rx:=fun b hb=>.inl hb
  bm:=hm
  rm:=fun _ hb=>hb }
 have hobj:∀β':Bt,(∀i x,β i=some x→β' i=some x)→(∀b1 bi k,β.q b1=some (bi,k)→bi<w.heap.size→(a.eval x).ownBlock≠some bi→β'.q b1=some (bi,k))→∀i b N,β i=some (b,N)→OR β' R w' (bN .gone (nD st.h old) i) b N:=by
  intro β' hm hq' i b N hi;cases hl:(bN .gone (nD st.h old) i).live with
  |false=>
   cases old with
   |none=>exact OR.dead (hkeep β' hm) hl (hs.hs.obj i b N hi)
   |some id=>exact OR.dead_gone (hkeep β' hm) hl (hs.hs.obj i b N hi)
  |true=>
   have hne:=hother i b N hi hl
   rcases rO (h:=st.h) (old:=old) (i:=i) with hq|⟨_,hq⟩
   ·rw[hq]
    exact OR.keep (hkeep β' hm) (fun b1 k hb1=>⟨hq' b1 b k hb1 (hs.hs.lt i b N hi) hne,hqh b1 _ hb1⟩) (r2.block b (hs.hs.lt i b N hi) (fun e=>hne e.symm)) (hs.hs.obj i b N hi)
   ·rw[hq]at hl;cases hl
 have hlive:∀i,(bN .gone (nD st.h old) i).live=true→(bN .gone st.h i).live=true:=by
  intro i hl
  rcases rO (h:=st.h) (old:=old) (i:=i) with hq|⟨_,hq⟩
  ·rw[←hq];exact hl
  ·rw[hq]at hl;cases hl
 have hdead:∀i,(bN .gone st.h i).live=false→(bN .gone (nD st.h old) i).live=false:=by
  intro i hl
  rcases rO (h:=st.h) (old:=old) (i:=i) with hq|⟨_,hq⟩
  ·rw[hq];exact hl
  ·rw[hq];rfl
 have hpre:∀i,i<st.h.length→bN .gone (iF (.row e sz (n+m) (iZ n f g)) (nD st.h old)) i=bN .gone (nD st.h old) i:=fun i hi=>hX _ _ _ (by omega)
 have hlast:bN .gone (iF (.row e sz (n+m) (iZ n f g)) (nD st.h old)) st.h.length=.row e sz (n+m) (iZ n f g):=by rw[←hgl];exact mF _ _ _
 have hlen:(iF (.row e sz (n+m) (iZ n f g)) (nD st.h old)).length=st.h.length+1:=by rw[mM];simp[hgl]
 rcases r1.2 with⟨rfl,hz0⟩|⟨gb,cap,cur,rfl,_,hg1,hg2,hg3,hg4,hg5⟩
 ·
   refine⟨_,w',β,_,_,hexec,h,⟨none,0,by rw[hz0],by omega,by unfold maxLen;omega,.inl ⟨.inl rfl,hz0,rfl⟩⟩,⟨?_,?_,?_,?_,?_,?_,?_,?_⟩,hfr β (fun _ _ h=>h) (fun b hb=>.inl hb),fun _ _=>rfl,r2⟩
   ·intro i x hi;rw[hlen];have:=hs.hs.dom i x hi;omega
   ·intro i j b o1 o2 hi hj li lj
    rw[hpre i (hs.hs.dom i _ hi)]at li;rw[hpre j (hs.hs.dom j _ hj)]at lj;exact hs.hs.inj i j b o1 o2 hi hj (hlive i li) (hlive j lj)
   ·intro i b o1 hi li
    rw[hpre i (hs.hs.dom i _ hi)]at li;exact hs.hs.sep i b o1 hi (hlive i li)
   ·intro i b o1 hi;exact cI (hs.hs.lt i b o1 hi) r2.size
   ·intro b hb;exact cI (hs.hs.rlt b hb) r2.size
   ·intro i b N hi
    rw[hpre i (hs.hs.dom i _ hi)];exact hobj β (fun _ _ h=>h) (fun _ _ _ h _ _=>h) i b N hi
   ·intro b ob hb
    obtain⟨q1,q2⟩:=hs.hs.gl b ob hb;exact⟨q1,((hkeep β (fun _ _ h=>h)).rs b q1).trans q2⟩
   ·intro b1 ad hb
    obtain⟨q1,q2,q3⟩:=hs.hs.ql b1 ad hb;refine⟨cI q1 r2.size,q2,fun i o1 hi=>?_⟩;rw[hpre i (hs.hs.dom i _ hi)];exact hdead i (q3 i o1 hi)
 ·have hm:∀i y,β i=some y→(rlq (bn β st.h.length (gb,cap*sz)) ((a.eval x).ownBlock.getD gb) gb) i=some y:=fun i y hi=>by
    show bn β st.h.length (gb,cap*sz) i=some y
    rw[dN];exact hi
    have:=hs.hs.dom i y hi;omega
  have hfresh:=hnb gb cap rfl
  refine⟨_,w',rlq (bn β st.h.length (gb,cap*sz)) ((a.eval x).ownBlock.getD gb) gb,_,_,hexec,h,⟨_,cap,rfl,hg2,hg3,.inr ⟨gb,cap*sz,fN _ _ _,by simp,by simp⟩⟩,⟨?_,?_,?_,?_,?_,?_,?_,?_⟩,hfr _ hm ?_,fun i hi=>dN _ (by omega),r2⟩
  ·intro i x hi
   rw[hlen]
   by_cases e1:i=st.h.length
   ·omega
   ·rw[sW,dN _ e1]at hi;have:=hs.hs.dom i x hi;omega
  ·intro i j b o1 o2 hi hj li lj
   by_cases ei:i=st.h.length
   ·by_cases ej:j=st.h.length
    ·omega
    ·subst ei
     rw[sW,fN]at hi;rw[sW,dN _ ej]at hj;injection hi with hi;injection hi with hi _;subst hi;rw[hpre j (hs.hs.dom j _ hj)]at lj
     rcases hfresh with hq|hq
     ·exact absurd hq (hother j _ _ hj lj)
     ·have:=hs.hs.lt j _ _ hj;omega
   ·rw[sW,dN _ ei]at hi
    rw[hpre i (hs.hs.dom i _ hi)]at li
    by_cases ej:j=st.h.length
    ·subst ej
     rw[sW,fN]at hj;injection hj with hj;injection hj with hj _;subst hj
     rcases hfresh with hq|hq
     ·exact absurd hq (hother i _ _ hi li)
     ·have:=hs.hs.lt i _ _ hi;omega
    ·rw[sW,dN _ ej]at hj
     rw[hpre j (hs.hs.dom j _ hj)]at lj;exact hs.hs.inj i j b o1 o2 hi hj (hlive i li) (hlive j lj)
  ·intro i b o1 hi li
   by_cases ei:i=st.h.length
   ·subst ei
    rw[sW,fN]at hi;injection hi with hi;injection hi with hi _;subst hi;intro hb
    rcases hfresh with hq|hq
    ·exact hRb _ hb hq
    ·have:=hs.hs.rlt _ hb;omega
   ·rw[sW,dN _ ei]at hi
    rw[hpre i (hs.hs.dom i _ hi)]at li;exact hs.hs.sep i b o1 hi (hlive i li)
  ·intro i b o1 hi
   by_cases ei:i=st.h.length
   ·subst ei
    rw[sW,fN]at hi;injection hi with hi;injection hi with hi _;subst hi;exact(bF.1 hg1).1
   ·rw[sW,dN _ ei]at hi
    exact cI (hs.hs.lt i b o1 hi) r2.size
  ·intro b hb;exact cI (hs.hs.rlt b hb) r2.size
  ·intro i b N hi
   by_cases ei:i=st.h.length
   ·subst ei
    rw[sW,fN]at hi;injection hi with hi;injection hi with hi hN;subst hi;subst hN;rw[hlast];refine⟨cur,hg1,hg4,bP sz hg2,fun i k hi hk=>?_⟩;obtain⟨u,q1,q2⟩:=hcells i k hi hk;refine⟨u,?_,?_⟩
    ·rw[←hg5,List.getElem?_take_of_lt (wM hi hk)]at q1
     simpa using q1
    ·rcases q2 with⟨q3,q2⟩|⟨b,q3,q2⟩
     ·exact rS.of q3 (CR.keep (hkeep _ hm) q2)
     ·exact aHE (hkeep _ hm) (by rw[q3];rfl) hqh q2
   ·rw[sW,dN _ ei]at hi
    rw[hpre i (hs.hs.dom i _ hi)]
    exact hobj _ hm (fun b1 bi k h1 h2 h3=>aA8 h1 (fun e=>by
     cases ho:(a.eval x).ownBlock with
     |some b'=>rw[ho]at h3 e;exact h3 (by rw[e];rfl)
     |none=>
      rw[ho]at e
      rcases hfresh with hq|hq
      ·rw[ho]at hq;cases hq
      ·have e:bi=gb:=e
       omega)) i b N hi
  ·intro b ob hb
   obtain⟨q1,q2⟩:=hs.hs.gl b ob hb;exact⟨q1,((hkeep β (fun _ _ h=>h)).rs b q1).trans q2⟩
  ·intro b1 ad hb
   obtain⟨ad',hb'⟩:=PD hb
   have hb':β.q b1=some ad':=hb'
   obtain⟨q1,q2,q3⟩:=hs.hs.ql b1 ad' hb';refine⟨cI q1 r2.size,q2,fun i o1 hi=>?_⟩
   have hi:bn β st.h.length (gb,cap*sz) i=some (b1,o1):=hi
   by_cases ei:i=st.h.length
   ·subst ei
    rw[fN]at hi;injection hi with hi;injection hi with hi _;subst hi
    rcases hfresh with hq|hq
    ·exact absurd hq (hqb _ _ hb')
    ·omega
   ·rw[dN _ ei]at hi
    rw[hpre i (hs.hs.dom i _ hi)];exact hdead i (q3 i o1 hi)
  ·intro b hb
   rcases GY (aHF hb) with hb|hb
   ·exact .inl hb
   ·have hb:b=gb:=hb
    subst hb
    rcases hfresh with hq|hq
    ·obtain⟨id,N',_,h2,_⟩:=hblk _ hq
     exact .inl (.inl ⟨id,N',h2⟩)
    ·exact .inr (by omega)
set_option maxHeartbeats 1000000 in
theorem aK0(hs:eC G β R st a w){x y:Operand}{ax ay:AX}{t e:TypeId}{sz bytes:Nat}{z:List PV}(hu:P.underlying t=some (.slice e))(hsz:dK P e=some sz)(hby:iC P e=some bytes)(hzr:iE P e=some z)(hx:cX x=some ax)(hy:cX y=some ay)
  (ho:o.op=.call { callee:=.builtin .append,args := #[x,y],argTypes := #[t,t] }) {kk:V→List AO→Tr} {K:X→St→Prop} {ext:Ext} (h:(gL ext st kk (.app e sz bytes z ax ay)).holds P G K) (hoff0:∀id sz off len,st.ev ax=.c (.sl id sz off len)→off=0) :
  ∃(v2:Value) (w':World) (β':Bt) (xv:V) (h':List AO),(execOp a.eval o).run P w=.ok (.value v2) w'∧(kk xv h').holds P G K∧VR β' R w' xv v2∧HS G β' R w' h'∧Gr β R w β' R w'∧(∀i,i<st.h.length→β' i=β i)∧w.grownBy w' (a.eval x).ownBlock:=by
 simp only[gL]at h;obtain⟨c1,h⟩:=cE h;simp only[aY,fH]at c1
 have c0:0<sz:=by simpa using c1.1
 have cz:=aH c1.2
 have h:(aJQ st e sz ax fun n f old=>aCM st sz ay fun m g=>.rq ((n+m)*bytes≤140737488355328∧n+m≤140737488355328∧∀e o,e<m→o<sz→kZ (g e o)=true) (kk (.c (.sl (fK st.h) sz 0 (n+m))) (iF (.row e sz (n+m) (iZ n f g)) (nD st.h old)))).holds P G K∧∀id sz off len,st.ev ax=.c (.sl id sz off len)→off=0:=by
  rcases DW h with h|⟨id,sz',off,len,e1,e2,_⟩
  ·exact h
  ·exact absurd (hoff0 id sz' off len e1) e2
 obtain⟨h,hoff⟩:=h;obtain⟨n,f,old,hd,h⟩:=WG hs hx hoff h;obtain⟨m,g,hsrc,h⟩:=CX hs hy c0 h;obtain⟨⟨b1,b2,b3⟩,h⟩:=h;obtain⟨A,c,news,s1,s2,s3,s4,s5⟩:=hsrc
 have hones:∀u∈news,u.oneCell'=true:=by
  intro u hu;obtain⟨j,hj,rfl⟩:=List.getElem_of_mem hu
  have hjm:j / sz<m:=Nat.div_lt_of_lt_mul (by rw[Nat.mul_comm];omega)
  obtain⟨u',h5,h6⟩:=s5 (j / sz) (j%sz) hjm (Nat.mod_lt _ c0);rw[Nat.mul_comm (j / sz) sz,Nat.div_add_mod,aN hj]at h5;injection h5 with h5;subst h5;exact mB h6 (b3 _ _ hjm (Nat.mod_lt _ c0))
 obtain⟨i,hi⟩:∃i,P.info? e=some i:=by
  unfold dK at hsz;cases hq:P.info? e with
  |none=>simp[hq]at hsz
  |some i=>exact⟨i,rfl⟩
 have hisz:i.size=sz:=by simpa[dK,hi] using hsz
 have hiby:i.bytes=bytes:=by simpa[iC,hi] using hby
 obtain⟨zv,hiz⟩:∃zv,i.zero=some zv:=by
  unfold iE at hzr;cases hq:i.zero with
  |none=>simp[hi,hq]at hzr
  |some v=>exact⟨v,rfl⟩
 have hzs:zv.cells.size=sz:=by
  have:z=zv.cells.toList.map HP:=by simp[iE,hi,hiz]at hzr;simp[←hzr]
  rw[this]at cz;simpa using cz
 refine yJ hs c0 hd s2 s5 b3 (fun xs hown=>?_) h
 obtain⟨v',w',hrun,r1,r2,r3⟩:∃v' w',(Builtin.append_ #[t,t] o.type #[a.eval x,a.eval y]).run P w=.ok v' w'∧w'.ownsRow 0 e sz v' (n+m) (xs++news)∧w.grownBy w' (a.eval x).ownBlock∧(v'.ownBlock=(a.eval x).ownBlock∨v'.ownBlock=some w.heap.size):=by
  rw[s1];cases A with
  |some ad=>
   obtain⟨v',w',q1,q2,q3,_,q4⟩:=run_append_own_at (P:=P) w 0 t o.type e i zv sz bytes hu hi hiz hisz hiby hzs c0 (a.eval x) n xs hown ad m c news s2 (s4 ad rfl) hones (by unfold maxLen;omega) b1 (bH _);exact⟨v',w',q1,q2,q3,q4⟩
  |none=>
   have hm:=s3 rfl
   subst hm
   have hnil:news=[]:=eU (by simpa using s2)
   subst hnil;refine⟨a.eval x,w,?_,by simpa using hown,World.grownBy.refl w _,.inl rfl⟩
   rcases hown.2 with⟨hv,h0⟩|⟨gb,cap,cur,hv,_,_,hnc,_⟩
   ·rw[hv];simp[Builtin.append_,run_underlying hu,sizeOf,typeInfo,hi,Builtin.lenOf,Builtin.firstCells]
   ·rw[hv];simp[Builtin.append_,run_underlying hu,sizeOf,typeInfo,hi,Builtin.lenOf,Builtin.firstCells,hnc,storeCells]
 have hexec:(execOp a.eval o).run P w=.ok (.value v') w':=by
  simp[execOp,ho,resolve,invoke,builtin,hrun]
 exact⟨v',w',hexec,r1,r2,r3⟩
theorem UE(hs:eC G β R st a w){x y:Operand}{ax ay:AX}{t e:TypeId}{sz bytes:Nat}{z:List PV}(hu:P.underlying t=some (.slice e))(hsz:dK P e=some sz)(hby:iC P e=some bytes)(hzr:iE P e=some z)(hx:cX x=some ax)(hy:cX y=some ay)
  (ho:o.op=.call { callee:=.builtin .append,args := #[x,y],argTypes := #[t,t] }) {kk:V→List AO→Tr} {K:X→St→Prop} {ext:Ext} (h:(gL ext st kk (.app e sz bytes z ax ay)).holds P G K) (hoff0:∀id sz off len,st.ev ax=.c (.sl id sz off len)→off=0) :
  dC P G st.h.length (fun v h'=>(kk v h').holds P G K) β R o a w:=by
 obtain⟨v2,w',β',xv,h',h1,h2,h3,h4,h5,h6,_⟩:=aK0 hs hu hsz hby hzr hx hy ho h hoff0;exact .inl ⟨v2,w',h1,β',R,xv,h',h2,h3,h4,h5,h6⟩
end
section
variable {P:Program} {G:Nat→Option Obj} {β:Bt} {R:Nat→Prop} {w w':World} {st:St} {a:Act} {o:Oper} {KV:V→List AO→Prop} {h:List AO}
theorem jX{i id:Nat}(hl:(bN .gone (upd .gone h id) i).live=true):i≠id∧(bN .gone h i).live=true:=by
 by_cases e:id=i
 ·subst e
  rcases Nat.lt_or_ge id h.length with h1|h1
  ·rw[gQ _ _ _ h1]at hl;cases hl
  ·rw[jB,eK,aG,bL (by simp;omega)]at hl;cases hl
 ·rw[fC _ _ _ e]at hl;exact⟨fun h=>e h.symm,hl⟩
theorem YT(hh:HS G β R w h){id:Nat}(hl:(bN .gone h id).live=true){gb N':Nat}{x:AO}(hos:w'.os=w.os)(htp:w'.tape=w.tape)(hou:w'.output=w.output)
  (hsz:w.heap.size≤w'.heap.size) (hw:∀j,j<w.heap.size→(∀N,β id≠some (j,N))→w'.heap[j]?=w.heap[j]?) (hgb:(∃N,β id=some (gb,N))∨gb=w.heap.size) (hlt:gb<w'.heap.size) (hx:∀β',jC β R w β' R w'→OR β' R w' x gb N') :
  HS G (bn β h.length (gb,N')) R w' (iF x (upd .gone h id))∧Gr β R w (bn β h.length (gb,N')) R w':=by
 have hnb:∀b',R b'→∀N,β id≠some (b',N):=fun b' hb N e=>hh.sep id b' N e hl hb
 have hm:∀i y,β i=some y→bn β h.length (gb,N') i=some y:=fun i y hi=>by
  rw[dN _ (by have:=hh.dom i y hi;omega)];exact hi
 have gr:Gr β R w (bn β h.length (gb,N')) R w':={
  os:=hos,tape:=htp,output:=hou,size:=hsz
  rs:=fun b' hb=>hw b' (hh.rlt b' hb) (hnb b' hb)
  fr:=fun b' hb hn=>hw b' hb (fun N e=>hn (.inl ⟨id,N,e⟩))
  ex:=fun b' hb=>by
   rcases GY hb with h1|h1
   ·exact .inl h1
   ·have h1:b'=gb:=h1
    rcases hgb with⟨N,h2⟩|h2
    ·exact .inl (.inl ⟨id,N,by rw[h1];exact h2⟩)
    ·exact .inr (by omega)
  rx:=fun _ hb=>.inl hb
  bm:=hm
  rm:=fun _ hb=>hb }
 have hqb:∀b' ad,β.q b'=some ad→∀N,β id≠some (b',N):=fun b' ad hb N e=>by
  have:=(hh.ql b' ad hb).2.2 id N e
  rw[hl]at this;cases this
 have kq:vT β w (bn β h.length (gb,N')) w':=fun b' ad hb=>⟨hb,hw b' (hh.ql b' ad hb).1 (hqb b' ad hb)⟩
 have hlen:(upd .gone h id).length=h.length:=by rw[jB];simp
 have hlen2:(iF x (upd .gone h id)).length=h.length+1:=by rw[mM];simp[hlen]
 have hnew:bN .gone (iF x (upd .gone h id)) h.length=x:=by rw[←hlen];exact mF _ _ _
 have hold:∀i,i<h.length→bN .gone (iF x (upd .gone h id)) i=bN .gone (upd .gone h id) i:=fun i hi=>hX _ _ _ (by omega)
 have hcase:∀i y,bn β h.length (gb,N') i=some y→(i=h.length∧y=(gb,N'))∨(i<h.length∧β i=some y):=fun i y hi=>by
  by_cases he:i=h.length
  ·subst he;rw[fN]at hi;injection hi with hi;exact .inl ⟨rfl,hi.symm⟩
  ·rw[dN _ he]at hi;exact .inr ⟨hh.dom i y hi,hi⟩
 have hgone:∀i b' N2,β i=some (b',N2)→(bN .gone (upd .gone h id) i).live=true→b'≠gb:=by
  intro i b' N2 hi li e;obtain⟨h1,h2⟩:=jX li
  rcases hgb with⟨N,h3⟩|h3
  ·exact h1 (hh.inj i id b' N2 N hi (by rw[e];exact h3) h2 hl)
  ·have:=hh.lt i b' N2 hi;omega
 refine⟨⟨?_,?_,?_,?_,?_,?_,?_,?_⟩,gr⟩
 ·intro i y hi
  rw[hlen2]
  rcases hcase i y hi with⟨e,_⟩|⟨e,_⟩<;>omega
 ·intro i j b' o1 o2 hi hj li lj
  rcases hcase i _ hi with⟨e1,q1⟩|⟨e1,q1⟩
  ·rcases hcase j _ hj with⟨e2,q2⟩|⟨e2,q2⟩
   ·omega
   ·injection q1 with q1 _
    rw[hold j e2]at lj;exact absurd q1 (hgone j _ _ q2 lj)
  ·rw[hold i e1]at li
   rcases hcase j _ hj with⟨e2,q2⟩|⟨e2,q2⟩
   ·injection q2 with q2 _
    exact absurd q2 (hgone i _ _ q1 li)
   ·rw[hold j e2]at lj
    exact hh.inj i j b' o1 o2 q1 q2 (jX li).2 (jX lj).2
 ·intro i b' o1 hi li
  rcases hcase i _ hi with⟨e1,q1⟩|⟨e1,q1⟩
  ·injection q1 with q1 _
   intro hb
   rcases hgb with⟨N,h3⟩|h3
   ·exact hnb _ hb N (q1▸h3)
   ·have:=hh.rlt _ hb;omega
  ·rw[hold i e1]at li
   exact hh.sep i b' o1 q1 (jX li).2
 ·intro i b' o1 hi
  rcases hcase i _ hi with⟨e1,q1⟩|⟨e1,q1⟩
  ·injection q1 with q1 _;omega
  ·exact cI (hh.lt i b' o1 q1) hsz
 ·intro b' hb;exact cI (hh.rlt b' hb) hsz
 ·intro i b' o1 hi
  rcases hcase i _ hi with⟨e1,q1⟩|⟨e1,q1⟩
  ·injection q1 with q1 q2
   subst e1;subst q1;subst q2;rw[hnew];exact hx _ gr.keeps
  ·rw[hold i e1]
   cases hli:(bN .gone (upd .gone h id) i).live with
   |false=>exact OR.dead_gone gr.keeps hli (hh.obj i b' o1 q1)
   |true=>
    obtain⟨h1,h2⟩:=jX hli;rw[fC _ _ _ (fun e=>h1 e.symm)]
    have hne:∀N,β id≠some (b',N):=fun N e=>h1 (hh.inj i id b' o1 N q1 e h2 hl)
    exact OR.keep gr.keeps (kq.at b') (hw b' (hh.lt i b' o1 q1) hne) (hh.obj i b' o1 q1)
 ·intro b' ob hb
  obtain⟨h1,h2⟩:=hh.gl b' ob hb;exact⟨h1,(hw b' (hh.rlt b' h1) (hnb b' h1)).trans h2⟩
 ·intro b' ad hb
  obtain⟨h1,h2,h3⟩:=hh.ql b' ad hb;refine⟨cI h1 hsz,h2,fun i o1 hi=>?_⟩
  rcases hcase i _ hi with⟨e1,q1⟩|⟨e1,q1⟩
  ·injection q1 with q1 _
   rcases hgb with⟨N,h4⟩|h4
   ·exact absurd (q1▸h4) (hqb b' ad hb N)
   ·omega
  ·rw[hold i e1]
   have:=h3 i o1 q1
   by_cases e:id=i
   ·subst e;rw[gQ _ _ _ e1];rfl
   ·rw[fC _ _ _ e];exact this
theorem aF5(hh:HS G β R w h){id:Nat}{x:AO}:HS G β R w (iF x (upd .gone h id)):=by
 have hlen:(upd .gone h id).length=h.length:=by rw[jB];simp
 have hold:∀i y,β i=some y→bN .gone (iF x (upd .gone h id)) i=bN .gone (upd .gone h id) i:=fun i y hi=>hX _ _ _ (by have:=hh.dom i y hi;omega)
 refine⟨?_,?_,?_,hh.lt,hh.rlt,?_,hh.gl,?_⟩
 ·intro i y hi;rw[mM];have:=hh.dom i y hi;simp;omega
 ·intro i j b o1 o2 hi hj li lj
  rw[hold i _ hi]at li;rw[hold j _ hj]at lj;exact hh.inj i j b o1 o2 hi hj (jX li).2 (jX lj).2
 ·intro i b o1 hi li
  rw[hold i _ hi]at li;exact hh.sep i b o1 hi (jX li).2
 ·intro i b o1 hi
  rw[hold i _ hi];cases hli:(bN .gone (upd .gone h id) i).live with
  |false=>exact OR.dead_gone ⟨fun _ _ h=>h,fun _ h=>h,fun _ _=>rfl⟩ hli (hh.obj i b o1 hi)
  |true=>
   rw[fC _ _ _ (fun e=>(jX hli).1 e.symm)];exact hh.obj i b o1 hi
 ·intro b ad hb
  obtain⟨h1,h2,h3⟩:=hh.ql b ad hb;refine⟨h1,h2,fun i o1 hi=>?_⟩;rw[hold i _ hi]
  by_cases e:id=i
  ·subst e;rw[gQ _ _ _ (hh.dom _ _ hi)];rfl
  ·rw[fC _ _ _ e];exact h3 i o1 hi
theorem HU(t ty e:TypeId)(i:TypeInfo)(ht:P.underlying t=some (.slice e))(hi:P.info? e=some i)(g q sLen sCap:Nat)(cur:Array Value)(hg:w.heap[g]?=some (.cells cur e (0,0)))
  (ad:Addr) (m c:Nat) (news:List Value) (hl:news.length=m*i.size) (hnews:∀j u,news[j]?=some u→w.cell? (ad.add j)=some u) (h1:∀u∈news,u.oneCell'=true)
  (hroom:sLen+m≤sCap) (hfit:q+sLen*i.size+news.length≤cur.size) :
  (Builtin.append_ #[t,t] ty #[.slice (some ⟨g,q,none⟩) sLen sCap,.slice (some ad) m c]).run P w =
   .ok (.slice (some ⟨g,q,none⟩) (sLen+m) sCap) (w.setRow g (cur.toList.take (q+sLen*i.size)++news++cur.toList.drop (q+sLen*i.size+news.length)).toArray):=by
 have hf:=run_firstCells_some (P:=P) w i.size m ad m c news hl hnews
 have hst:=run_storeCells_at P g (q+sLen*i.size) e news 0 cur w hg (by simpa using hfit) h1
 simp only[Nat.add_zero]at hst;simp[Builtin.append_,run_underlying ht,sizeOf,typeInfo,hi,Builtin.lenOf,hroom,hf,Addr.add_lit,hst]
set_option maxHeartbeats 1000000 in
theorem aI0(hs:eC G β R st a w){x y:Operand}{ax ay:AX}{t e:TypeId}{sz bytes:Nat}{z:List PV}(hu:P.underlying t=some (.slice e))(hsz:dK P e=some sz)(hby:iC P e=some bytes)(hzr:iE P e=some z)(hx:cX x=some ax)(hy:cX y=some ay)
  (ho:o.op=.call { callee:=.builtin .append,args := #[x,y],argTypes := #[t,t] }) {kk:V→List AO→Tr} {K:X→St→Prop} (c0:0<sz) (cz:z.length=sz) {id sz0 off len:Nat} (hev:st.ev ax=.c (.sl id sz0 off len)) (hne:off≠0)
  (h:(aOX st kk e sz bytes ax ay).holds P G K):dC P G st.h.length (fun v h'=>(kk v h').holds P G K) β R o a w:=by
 have hv:=aR hs hx
 simp only[aOX,hev]at h;rw[hev]at hv;split at h
 case h_2=>exact h.elim
 rename_i ty' sz'' m f hid;obtain⟨c1,⟨h1,h2⟩,hz⟩:=cE h;clear h;simp only[aY]at c1;obtain rfl:=aH c1.1.1;obtain rfl:=aH c1.1.2;obtain rfl:=aH c1.2;subst h1;obtain⟨l,g,hsrc,hz⟩:=CX hs hy c0 hz;obtain⟨⟨b1,b2,b3⟩,hk1,hk2⟩:=hz;obtain⟨A',c',news,s1,s2,s3,s4,s5⟩:=hsrc;rw[fH]at hk1 hk2
 have hones:∀u∈news,u.oneCell'=true:=by
  intro u hu;obtain⟨j,hj,rfl⟩:=List.getElem_of_mem hu
  have hjm:j / sz<l:=Nat.div_lt_of_lt_mul (by rw[Nat.mul_comm];omega)
  obtain⟨u',h5,h6⟩:=s5 (j / sz) (j%sz) hjm (Nat.mod_lt _ c0);rw[Nat.mul_comm (j / sz) sz,Nat.div_add_mod,aN hj]at h5;injection h5 with h5;subst h5;exact mB h6 (b3 _ _ hjm (Nat.mod_lt _ c0))
 obtain⟨i,hi⟩:∃i,P.info? e=some i:=by
  unfold dK at hsz;cases hq:P.info? e with
  |none=>simp[hq]at hsz
  |some i=>exact⟨i,rfl⟩
 have hisz:i.size=sz:=by simpa[dK,hi] using hsz
 have hiby:i.bytes=bytes:=by simpa[iC,hi] using hby
 obtain⟨zv,hiz⟩:∃zv,i.zero=some zv:=by
  unfold iE at hzr;cases hq:i.zero with
  |none=>simp[hi,hq]at hzr
  |some v=>exact⟨v,rfl⟩
 have hzs:zv.cells.size=sz:=by
  have:z=zv.cells.toList.map HP:=by simp[iE,hi,hiz]at hzr;simp[←hzr]
  rw[this]at cz;simpa using cz
 obtain⟨A,c,g1,g2,g3,g4⟩:=hv
 have exec:∀v' w',(Builtin.append_ #[t,t] o.type #[a.eval x,a.eval y]).run P w=.ok v' w'→(execOp a.eval o).run P w=.ok (.value v') w':=by
  intro v' w' hr;simp[execOp,ho,resolve,invoke,builtin,hr]
 have h63:len+l≤maxLen:=by unfold maxLen;omega
 have hlen3:news.length=l*i.size:=by rw[hisz];exact s2
 have fin_new:∀(xs:List Value) (cap:Nat),(Builtin.append_ #[t,t] o.type #[a.eval x,a.eval y]).run P w=.ok (.slice (some ⟨w.heap.size,0,none⟩) (len+l) (grownCap w (len+l) cap e)) (w.drew.alloc (.cells (xs.toArray++news.toArray++Builtin.zeroCells zv.cells (grownCap w (len+l) cap e-(len+l))) e)) →
   xs.length=len*sz→(∀e k,e<len→k<sz→∃u,xs[e*sz+k]?=some u∧CR β R w (f (e+off) k) u)→((∃b N,β id=some (b,N))∨β id=none∨len=0)→cap<len+l→dC P G st.h.length (fun v h'=>(kk v h').holds P G K) β R o a w:=by
  intro xs cap hr hxl hxs hwh hcap
  have hge:=grownCap_ge w (len+l) cap e
  have hcm:grownCap w (len+l) cap e≤maxLen:=grownCap_le_maxLen w (len+l) cap e h63
  let w2:=w.drew.alloc (.cells (xs.toArray++news.toArray++Builtin.zeroCells zv.cells (grownCap w (len+l) cap e-(len+l))) e)
  have hw2:w2.heap[w.heap.size]?=some (.cells (xs.toArray++news.toArray++Builtin.zeroCells zv.cells (grownCap w (len+l) cap e-(len+l))) e (0,0)):=heap_alloc_new w.drew _
  have hold:∀j,j<w.heap.size→w2.heap[j]?=w.heap[j]?:=fun j hj=>heap_push_lt w.drew _ hj
  have hsize:(xs.toArray++news.toArray++Builtin.zeroCells zv.cells (grownCap w (len+l) cap e-(len+l))).size=grownCap w (len+l) cap e*sz:=by
   simp only[Array.size_append,List.size_toArray,size_zeroCells,hzs,hxl,s2,←dG];congr 1;omega
  have hob:∀β',jC β R w β' R w2→OR β' R w2 (.row e sz (len+l) (iZ len (fun e o=>f (e+off) o) g)) w.heap.size (grownCap w (len+l) cap e*sz):=by
   intro β' kp;refine⟨_,hw2,hsize,bP sz hge,fun e' k he hk=>?_⟩
   have hidx:∀j,j<(len+l)*sz→(xs.toArray++news.toArray++Builtin.zeroCells zv.cells (grownCap w (len+l) cap e-(len+l)))[j]?=(xs++news)[j]?:=by
    intro j hj;rw[Array.getElem?_append_left (by simp[hxl,s2,←dG];exact hj)];simp
   rw[hidx _ (wM he hk)];unfold iZ
   by_cases hin:e'<len
   ·rw[if_pos hin]
    obtain⟨u,q1,q2⟩:=hxs e' k hin hk;exact⟨u,by rw[cZ ((aV.1 q1).1)];exact q1,rS.of (pM (h2 _ _ (by omega) hk)) (CR.keep kp q2)⟩
   ·rw[if_neg hin]
    obtain⟨u,q1,q2⟩:=s5 (e'-len) k (by omega) hk;refine⟨u,?_,rS.of (pM (b3 _ _ (by omega) hk)) (CR.keep kp q2)⟩
    have:len*sz≤e'*sz:=bP sz (by omega)
    rw[eF (by omega),←q1,hxl];congr 1;rw[Nat.sub_mul];omega
  have hval:∀β':Bt,β' st.h.length=some (w.heap.size,grownCap w (len+l) cap e*sz)→VR β' R w2 (.c (.sl st.h.length sz 0 (len+l))) (.slice (some ⟨w.heap.size,0,none⟩) (len+l) (grownCap w (len+l) cap e)):=fun β' hb=>
   ⟨_,_,rfl,hge,hcm,.inr ⟨_,_,hb,by simp,by simp⟩⟩
  obtain⟨q1,q2⟩:=YT (N':=grownCap w (len+l) cap e*sz) (w':=w2) hs.hs (id:=id) (by rw[hid];rfl) rfl rfl rfl (by simp[w2]) (fun j hj _=>hold j hj) (.inr rfl) (by simp[w2]) hob;exact .inl ⟨_,w2,exec _ _ hr,_,R,_,_,hk2,hval _ (fN _ _ _),q1,q2,fun j hj=>dN _ (by omega)⟩
 have fin_at:∀(b N:Nat) (cs':Array Value) (w2:World),β id=some (b,N)→(Builtin.append_ #[t,t] o.type #[a.eval x,a.eval y]).run P w=.ok (.slice (some ⟨b,off*sz,none⟩) (len+l) c) w2→(off+c)*sz=N→len+l≤c →
   w2.os=w.os→w2.tape=w.tape→w2.output=w.output→w2.heap.size=w.heap.size→(∀j,j≠b→w2.heap[j]?=w.heap[j]?)→w2.heap[b]?=some (.cells cs' e (0,0))→cs'.size=N →
   (∀e k,e<off+len+l→k<sz→∃u,cs'[e*sz+k]?=some u∧CR β R w (iZ (off+len) f g e k) u)→dC P G st.h.length (fun v h'=>(kk v h').holds P G K) β R o a w:=by
  intro b N cs' w2 hb hr hN hc p1 p2 p3 p4 p5 p6 p7 p8
  obtain⟨q1,q2⟩:=YT (N':=N) (gb:=b) (x:=.row e sz (off+len+l) (iZ (off+len) f g)) (w':=w2) hs.hs (id:=id) (by rw[hid];rfl) p1 p2 p3 (by omega) (fun j _ hj=>p5 j (fun e=>hj N (e▸hb))) (.inl ⟨N,hb⟩) (by rw[p4];exact hs.hs.lt id b N hb) (by
    intro β' kp;refine⟨cs',p6,p7,by rw[←hN];exact bP sz (by omega),fun e' k he hk=>?_⟩;obtain⟨u,k1,k2⟩:=p8 e' k he hk;refine⟨u,k1,rS.of ?_ (CR.keep kp k2)⟩;unfold iZ;split
    ·exact pM (h2 _ _ (by omega) hk)
    ·exact pM (b3 _ _ (by omega) hk))
  exact .inl ⟨_,w2,exec _ _ hr,_,R,_,_,hk1,⟨_,_,rfl,hc,g3,.inr ⟨b,N,fN _ _ _,rfl,hN⟩⟩,q1,q2,fun j hj=>dN _ (by omega)⟩
 have fin_0:len=0→c=0→l=0→(Builtin.append_ #[t,t] o.type #[a.eval x,a.eval y]).run P w=.ok (a.eval x) w→dC P G st.h.length (fun v h'=>(kk v h').holds P G K) β R o a w:=by
  rintro rfl rfl rfl hr;exact .inl ⟨_,w,exec _ _ hr,β,R,_,_,hk1,⟨A,0,by rw[g1],aU _,bH _,.inl ⟨.inr (by omega),rfl,rfl⟩⟩,aF5 hs.hs,Gr.refl _ _ _,fun _ _=>rfl⟩
 have hrow:∀b N,β id=some (b,N)→∃cs,w.heap[b]?=some (.cells cs e (0,0))∧cs.size=N∧∀e k,e<off+len→k<sz→∃u,cs[e*sz+k]?=some u∧CR β R w (f e k) u:=by
  intro b N hb
  have hob:=hs.hs.obj id b N hb
  rw[hid]at hob;obtain⟨cs,q1,q2,q3,q4⟩:=hob;refine⟨cs,q1,q2,fun e k he hk=>?_⟩;obtain⟨u,k1,k2⟩:=q4 e k he hk;exact⟨u,k1,k2.cr⟩
 subst hisz;cases A' with
 |none=>
  obtain rfl:=s3 rfl
  have hrun:(Builtin.append_ #[t,t] o.type #[a.eval x,a.eval y]).run P w=.ok (a.eval x) w:=by
   rw[s1,g1];cases A<;>simp[Builtin.append_,run_underlying hu,sizeOf,typeInfo,hi,Builtin.lenOf,Builtin.firstCells,g2,storeCells]
  rcases g4 with⟨_,k1,k2⟩|⟨b,N,k1,rfl,k3⟩
  ·exact fin_0 k1 k2 rfl hrun
  ·obtain⟨cs,q1,q2,q3⟩:=hrow b N k1
   refine fin_at b N cs w k1 (by rw[hrun,g1];rfl) k3 (by omega) rfl rfl rfl rfl (fun _ _=>rfl) q1 q2 (fun e' k he hk=>?_);obtain⟨u,r1,r2⟩:=q3 e' k (by omega) hk;refine⟨u,r1,?_⟩;unfold iZ;rw[if_pos (by omega)];exact r2
 |some ad=>
  rcases g4 with⟨_,rfl,rfl⟩|⟨b,N,k1,rfl,k3⟩
  ·by_cases hl0:l=0
   ·subst hl0
    have hn0:news=[]:=eU (by simpa using s2)
    subst hn0;refine fin_0 rfl rfl rfl ?_;rw[s1,g1];cases A<;>simp[Builtin.append_,run_underlying hu,sizeOf,typeInfo,hi,Builtin.lenOf,Builtin.firstCells,loadCells,loadCellsFrom,storeCells]
   ·refine fin_new [] 0 ?_ (by simp) (fun e k he=>by omega) (.inr (.inr rfl)) (by omega)
    rw[s1,g1];cases A with
    |none=>
     have:=run_append_nil (P:=P) w t o.type e i zv hu hi hiz ad l c' news s2 (s4 ad rfl) (by omega) (by omega) (by rw[hiby];simp at b1;omega)
     simpa using this
    |some ad0=>
     have:=run_append_grow (P:=P) w t o.type e i zv hu hi hiz ad0 0 0 [] (by simp) (by simp) ad l c' news s2 (s4 ad rfl) (by omega) (by omega) (growslice_fits (by omega) (by rw[hiby];exact b1))
     exact this
  ·obtain⟨cs,q1,q2,q3⟩:=hrow b N k1
   have hNs:off*i.size+c*i.size=cs.size:=by rw[q2,←k3,dG]
   have hlc:len*i.size≤c*i.size:=bP _ g2
   by_cases hroom:len+l≤c
   ·have hfit:off*i.size+len*i.size+news.length≤cs.size:=by
      have:=bP i.size hroom
      rw[dG]at this;omega
    have hr:=HU (P:=P) t o.type e i hu hi b (off*i.size) len c cs q1 ad l c' news s2 (s4 ad rfl) hones hroom hfit
    rw[←s1,←g1]at hr;refine fin_at b N _ _ k1 hr k3 hroom rfl rfl rfl (by simp) (fun j hj=>setRow_other w b j _ hj) (setRow_heap w b cs _ e _ q1) ?_ (fun e' k he hk=>?_)
    ·simp only[List.size_toArray,List.length_append,List.length_take,List.length_drop,Array.length_toList]
     omega
    ·have hle:(off+len)*i.size=off*i.size+len*i.size:=dG _ _ _
     unfold iZ
     by_cases hin:e'<off+len
     ·rw[if_pos hin]
      obtain⟨u,r1,r2⟩:=q3 e' k hin hk;refine⟨u,?_,r2⟩
      have hlt:=wM hin hk
      simp only[List.append_assoc];rw[List.getElem?_toArray,cZ (by simp;omega),List.getElem?_take_of_lt (by omega)];simpa using r1
     ·rw[if_neg hin]
      obtain⟨u,r1,r2⟩:=s5 (e'-(off+len)) k (by omega) hk;refine⟨u,?_,r2⟩
      have hge:(off+len)*i.size≤e'*i.size:=bP _ (by omega)
      have hlt:=(aV.1 r1).1
      have hsub:(e'-(off+len))*i.size+k=e'*i.size+k-(off*i.size+len*i.size):=by rw[Nat.sub_mul];omega
      rw[hsub]at r1 hlt;simp only[List.append_assoc];rw[List.getElem?_toArray,eF (by simp;omega),cZ (by simp;omega),←r1];congr 1;simp;omega
   ·refine fin_new ((cs.extract (off*i.size) (off*i.size+len*i.size)).toList) c ?_ (by simp;omega) (fun e' k he hk=>?_) (.inl ⟨b,N,k1⟩) (by omega)
    ·rw[s1,g1]
     have:=run_append_grow (P:=P) w t o.type e i zv hu hi hiz ⟨b,off*i.size,none⟩ len c ((cs.extract (off*i.size) (off*i.size+len*i.size)).toList) (by simp;omega) (by
       intro j v hj;rw[add_mid,cell_of_row w b _ cs e (0,0) q1];rw[bC,cQ]at hj;split at hj
       ·exact hj
       ·cases hj) ad l c' news s2 (s4 ad rfl) (by omega) (by omega) (growslice_fits (by omega) (by rw[hiby];exact b1))
     simpa using this
    ·have hlt:=wM he hk
     obtain⟨u,h5,h6⟩:=q3 (e'+off) k (by omega) hk;refine⟨u,?_,h6⟩;rw[bC,cQ,if_pos (by omega),←h5];congr 1;rw[dG];omega
end
section
variable {P:Program} {G:Nat→Option Obj} {β:Bt} {R:Nat→Prop} {w w':World} {st:St} {a:Act} {o:Oper} {KV:V→List AO→Prop} {h:List AO}
theorem VJ{k:TypeId}(h:aO5 P k=true):Maps.Keyed P k:=by
 unfold aO5 at h;split at h
 ·rename_i q hk;exact Maps.int_keyed hk
 ·rename_i hk;exact Maps.string_keyed hk
 ·rename_i hk
  simp only[aY]at h;exact Maps.Keyed.of_law (deep_law_laid h.1 (m:=4) (by omega) (by simpa using h.2.1) h.2.2 (by rw[hk]))
 ·rename_i hk
  simp only[aY]at h;exact Maps.Keyed.of_law (deep_law_laid h.1 (m:=4) (by omega) (by simpa using h.2.1) h.2.2 (by rw[hk]))
 ·cases h
theorem FK{t k:TypeId}(h:YI P t=some k):∃e,P.underlying t=some (.map k e)∧Maps.Keyed P k∧∀w,(zeroValue e).run P w=.ok (.bool false) w:=by
 unfold YI at h;split at h
 ·rename_i k' e hu
  split at h
  ·rename_i h1 h2
   split at h
   ·rename_i h3
    injection h with h;subst h;refine⟨e,hu,VJ h3,fun w=>?_⟩;simp only[aB]at h2;obtain⟨i,h4,h5⟩:=h2;simp[zeroValue,typeInfo,h4,h5]
   ·cases h
  ·cases h
 ·cases h
theorem FT{x:C}{u kv:Value}(h:CR β R w x u)(hk:aEU x=some kv):u=kv:=by
 cases x with
 |p x=>
  cases x<;>simp only[aEU,aD,reduceCtorEq]at hk<;>(subst hk;exact h)
 |_=>simp[aEU]at hk
theorem AU:∀ {cs:List C} {us:List Value} {vs:List Value},All2 (CR β R w) cs us→QV cs=some vs→us=vs
 |[],[],vs,_,h=>by simp only[QV,aD]at h;exact h
 |[],_::_,_,h,_=>h.elim
 |_::_,[],_,h,_=>h.elim
 |c::cs,u::us,vs,h,hk=>by
  simp only[QV]at hk;split at hk
  ·rename_i v hv
   split at hk
   ·rename_i vs' hvs
    injection hk with hk;rw[←hk,FT h.1 hv,AU h.2 hvs]
   ·cases hk
  ·cases hk
theorem FS{x:V}{u kv:Value}(h:VR β R w x u)(hk:aB4 x=some kv):u=kv:=by
 cases x with
 |c x=>exact FT h hk
 |a cs=>
  simp only[aB4]at hk;split at hk
  ·rename_i vs hvs
   injection hk with hk;obtain⟨us,rfl,h2⟩:=h;rw[←hk,←AU h2 hvs]
  ·cases hk
 |t _=>cases hk
theorem PP(hs:eC G β R st a w){t k:TypeId}(ho:o.op=.makeMap t none){kk:V→List AO→Tr}{K:X→St→Prop}{ext:Ext}(h:(gL ext st kk (.mkmap (okK P k))).holds P G K):dC P G st.h.length (fun v h'=>(kk v h').holds P G K) β R o a w:=by
 have h:(kk (.c (.mp (fK st.h))) (iF (.mapb (okK P k) fun _=>none) st.h)).holds P G K:=h
 rw[fH]at h
 have hob:∀β' w',jC β R w β' R w'→w'.heap[w.heap.size]?=some (.map #[] 0)→OR β' R w' (.mapb (okK P k) fun _=>none) w.heap.size 0:=by
  intro β' w' _ hb;exact⟨#[],0,hb,by simp,by simp,by simp⟩
 refine .inl ⟨.map (some w.heap.size),w.alloc (.map #[] 0),?_,bn β st.h.length (w.heap.size,0),R,_,_,h,?_,kT hs.hs hob,tY hs.hs _ _ rfl,fun i hi=>dN _ (by omega)⟩
 ·have hr:(Instr.makeMap t none).run P w=.ok (.map (some w.heap.size)) (w.alloc (.map #[] 0)):=rfl
  simp[execOp,ho,hr]
 ·exact⟨w.heap.size,0,fN _ _ _,rfl⟩
theorem vC:∀ {vs:List V} {bs:List B} {us:List Value},bsV vs=some bs→All2 (VR β R w) vs us→All2 (BR β R w) bs us
 |[],bs,us,h,hu=>by
  simp only[bsV,aD]at h;subst h;cases us with
  |nil=>exact trivial
  |cons u us=>exact hu.elim
 |v::r,bs,[],h,hu=>hu.elim
 |v::r,bs,u::us,h,hu=>by
  unfold bsV at h;split at h
  ·rename_i hq;cases hq
  ·rename_i x r' hq
   injection hq with e1 e2;subst e1;subst e2;split at h
   ·rename_i l hl
    injection h with h;subst h;exact⟨hu.1,vC hl hu.2⟩
   ·cases h
  ·rename_i id off r' hq
   injection hq with e1 e2;subst e1;subst e2;split at h
   ·rename_i l hl
    injection h with h;subst h;exact⟨hu.1,vC hl hu.2⟩
   ·cases h
  ·cases h
theorem XV(hs:eC G β R st a w){t k:TypeId}{x y:Operand}{ax ay:AX}{two:Bool}(hm:YI P t=some k)(hx:cX x=some ax)(hy:cX y=some ay)(ho:o.op=.lookup t x y two){kk:V→List AO→Tr}{K:X→St→Prop}{ext:Ext}
  (h:(gL ext st kk (.look (okK P k) two ax ay)).holds P G K):dC P G st.h.length (fun v h'=>(kk v h').holds P G K) β R o a w:=by
 obtain⟨e,hu,hK,hz⟩:=FK hm
 have hv:=aR hs hx
 have hw:=aR hs hy
 simp only[gL]at h;split at h
 case h_2=>exact h.elim
 rename_i id he;rw[he]at hv;obtain⟨b,N,h1,h2⟩:=hv;split at h
 case h_2=>exact h.elim
 rename_i ok g hid;split at h
 case h_2=>exact h.elim
 rename_i kv hkv;obtain⟨⟨rfl,hok⟩,h⟩:=h
 have hey:=FS hw hkv
 have hob:=hs.hs.obj id b N h1
 rw[hid]at hob;obtain⟨es,clock,g1,g2,g3,g4⟩:=hob;unfold okK at hok;obtain⟨l,hl⟩:=fS.1 hok
 have hes:∀e∈es.toList,∃l,keyOf P k e.key=some l:=fun e he=>fS.1 (g3 e he).1
 have fin:∀v ok',(Instr.lookup t (.map (some b)) kv two).run P w=.ok (if two then .tuple #[.bool v,.bool ok'] else .bool v) w→v=(g kv).getD false→ok'=(g kv).isSome→dC P G st.h.length (fun v h'=>(kk v h').holds P G K) β R o a w:=by
  intro v ok' hr e1 e2;subst e1;subst e2;cases two with
  |true=>exact dC.same hs (u:=.tuple #[.bool ((g kv).getD false),.bool (g kv).isSome]) (by simp[execOp,ho,h2,hey,hr]) h ⟨_,rfl,⟨rfl,rfl,trivial⟩⟩
  |false=>exact dC.same hs (u:=.bool ((g kv).getD false)) (by simp[execOp,ho,h2,hey,hr]) h rfl
 rcases hK.find w hl es.toList hes with⟨f1,f2⟩|⟨j,e0,f1,f2,f3⟩
 ·have hg:g kv=none:=by
    cases hq:g kv with
    |none=>rfl
    |some x=>obtain⟨e,q1,q2⟩:=g4 kv x hq;exact absurd q2 (f2 e q1)
  refine fin false false ?_ (by rw[hg];rfl) (by rw[hg];rfl);simp[Instr.lookup,run_underlying hu,MapKept.run_getObj_map g1,hK.check w _ hl,f1,hz,Result.andThen]
 ·obtain⟨_,x,q1,q2⟩:=g3 e0 (cL f2)
  rw[f3]at q1;refine fin x true ?_ (by rw[q1];rfl) (by rw[q1];rfl);simp[Instr.lookup,run_underlying hu,MapKept.run_getObj_map g1,hK.check w _ hl,f1,q2,Result.andThen]
theorem XU(hs:eC G β R st a w){t k:TypeId}{x y z:Operand}{ax ay az:AX}(hm:YI P t=some k)(hx:cX x=some ax)(hy:cX y=some ay)(hz:cX z=some az)(ho:o.op=.mapUpdate t x y z){kk:V→List AO→Tr}{K:X→St→Prop}{ext:Ext}
  (h:(gL ext st kk (.mset (okK P k) ax ay az)).holds P G K):dC P G st.h.length (fun v h'=>(kk v h').holds P G K) β R o a w:=by
 obtain⟨e,hu,hK,_⟩:=FK hm
 have hv:=aR hs hx
 have hw:=aR hs hy
 have hv2:=aR hs hz
 simp only[gL]at h;split at h
 case h_2=>exact h.elim
 rename_i id he;rw[he]at hv;obtain⟨b,N,h1,h2⟩:=hv;split at h
 case h_2=>exact h.elim
 rename_i ok g hid;split at h
 case h_2=>exact h.elim
 rename_i kv bv hkv hbv;obtain⟨⟨rfl,hok⟩,h⟩:=h
 have hey:=FS hw hkv
 rw[hbv]at hv2
 have hv2:a.eval z=.bool bv:=hv2
 have hob:=hs.hs.obj id b N h1
 rw[hid]at hob;obtain⟨es,clock,g1,g2,g3,g4⟩:=hob
 have hok':=hok
 unfold okK at hok';obtain⟨l,hl⟩:=fS.1 hok'
 have hes:∀e∈es.toList,∃l,keyOf P k e.key=some l:=fun e he=>fS.1 (g3 e he).1
 have fin:∀es' clock',(Instr.mapUpdate t (.map (some b)) kv (.bool bv)).run P w=.ok () (ChangeMaps.setBlock w b (.map es' clock'))→es'.toList.Pairwise (fun x y=>x.key≠y.key)→(∀e∈es'.toList,(e∈es.toList∧e.key≠kv)∨(e.key=kv∧e.val=.bool bv)) →
   (∀e∈es.toList,∃e'∈es'.toList,e'.key=e.key)→(∃e∈es'.toList,e.key=kv)→dC P G st.h.length (fun v h'=>(kk v h').holds P G K) β R o a w:=by
  intro es' clock' hr p1 p2 p3 p4
  have hb:b<w.heap.size:=(bF.1 g1).1
  obtain⟨r1,r2⟩:=pP hs.hs h1 (by rw[hid];rfl) (x:=.mapb (okK P k) (aCP g kv bv)) (w':=ChangeMaps.setBlock w b (.map es' clock')) rfl rfl rfl (by simp[ChangeMaps.setBlock]) (fun j hj=>ChangeMaps.heap_setBlock_other g1 _ (fun e=>hj e)) (by
    intro _ _;refine⟨es',clock',ChangeMaps.heap_setBlock_same g1 _,p1,?_,?_⟩
    ·intro e he
     rcases p2 e he with⟨q1,q2⟩|⟨q1,q2⟩
     ·obtain⟨q3,x,q4,q5⟩:=g3 e q1
      exact⟨q3,x,by unfold aCP;rw[if_neg q2];exact q4,q5⟩
     ·exact⟨by rw[q1];exact hok,bv,by unfold aCP;rw[if_pos q1],q2⟩
    ·intro k' x hk'
     unfold aCP at hk';split at hk'
     ·rename_i e1;subst e1;exact p4
     ·obtain⟨e,q1,q2⟩:=g4 k' x hk'
      obtain⟨e',q3,q4⟩:=p3 e q1
      exact⟨e',q3,q4.trans q2⟩)
  refine .inr (.inl ⟨_,?_,β,R,.t [],_,h,⟨#[],rfl,trivial⟩,r1,r2,fun _ _=>rfl⟩);simp[execOp,ho,h2,hey,hv2,hr]
 rcases hK.find w hl es.toList hes with⟨f1,f2⟩|⟨j,e0,f1,f2,f3⟩
 ·refine fin (es.push ⟨kv,.bool bv,clock⟩) (clock+1) ?_ ?_ ?_ ?_ ?_
  ·simp[Instr.mapUpdate,run_underlying hu,MapKept.run_getObj_map g1,hK.check w false hl,f1,MapKept.run_setObj_map _ g1,Result.andThen,ChangeMaps.setBlock]
  ·simp only[Array.toList_push,List.pairwise_append]
   refine⟨g2,by simp,fun x hx y hy=>?_⟩;simp at hy;subst hy;exact f2 x hx
  ·intro e he
   simp only[Array.toList_push,List.mem_append,List.mem_singleton]at he
   rcases he with he|rfl
   ·exact .inl ⟨he,f2 e he⟩
   ·exact .inr ⟨rfl,rfl⟩
  ·intro e he
   exact⟨e,by simp;exact .inl (by simpa using he),rfl⟩
  ·exact⟨⟨kv,.bool bv,clock⟩,by simp,rfl⟩
 ·have hj:es[j]?=some e0:=by simpa using f2
  have hjl:j<es.toList.length:=(aV.1 f2).1
  have hlist:(es.modify j (fun e'=>{ e' with key:=kv,val:=.bool bv })).toList=es.toList.set j { e0 with key:=kv,val:=.bool bv }:=by rw[Array.toList_modify,ChangeMaps.modify_eq_set _ _ _ _ f2]
  have hst:=hK.stays w hl
  refine fin (es.modify j (fun e'=>{ e' with key:=kv,val:=.bool bv })) clock ?_ ?_ ?_ ?_ ?_
  ·simp[Instr.mapUpdate,run_underlying hu,MapKept.run_getObj_map g1,hK.check w false hl,f1,hj,f3,hst,MapKept.run_setObj_map _ g1,Result.andThen,ChangeMaps.setBlock]
  ·rw[hlist]
   have hmap:(es.toList.set j { e0 with key:=kv,val:=.bool bv }).map (·.key)=es.toList.map (·.key):=by
    rw[List.map_set];apply List.ext_getElem?;intro i
    rw[List.getElem?_set];split
    ·rename_i h0
     subst h0;split
     ·rw[List.getElem?_map,f2,Option.map_some,f3]
     ·rename_i h1;simp at h1;rw[bL (by simp;omega)]
    ·rfl
   have:=List.pairwise_map (f:=fun e:MapEntry=>e.key) (R:=fun x y=>x≠y) |>.2 g2
   rw[←hmap]at this;exact List.pairwise_map.1 this
  ·intro e he
   rw[hlist]at he;obtain⟨i,hi,ex⟩:=List.getElem_of_mem he;rw[List.getElem_set]at ex;split at ex
   ·right;rw[←ex];exact⟨rfl,rfl⟩
   ·rename_i hne
    have hil:i<es.toList.length:=by simpa using hi
    left;refine⟨by rw[←ex];exact List.getElem_mem _,fun hk=>?_⟩
    have ei:es.toList[i].key=kv:=by rw[ex];exact hk
    have ej:es.toList[j].key=kv:=by
     have:es.toList[j]=e0:=by rw[aN hjl]at f2;injection f2
     rw[this];exact f3
    rcases Nat.lt_or_gt_of_ne hne with hlt|hlt
    ·exact List.pairwise_iff_getElem.1 g2 j i hjl hil hlt (ej.trans ei.symm)
    ·exact List.pairwise_iff_getElem.1 g2 i j hil hjl hlt (ei.trans ej.symm)
  ·intro e he
   rw[hlist];obtain⟨i,hi,rfl⟩:=List.getElem_of_mem he
   by_cases e1:j=i
   ·subst e1
    refine⟨{ e0 with key:=kv,val:=.bool bv },List.mem_set hjl _,?_⟩
    have:es.toList[j]=e0:=by rw[aN hjl]at f2;injection f2
    rw[this];exact f3.symm
   ·refine⟨es.toList[i],?_,rfl⟩
    have hh:(es.toList.set j { e0 with key:=kv,val:=.bool bv })[i]?=some es.toList[i]:=by rw[List.getElem?_set_ne e1];exact aN hi
    exact cL hh
  ·rw[hlist]
   exact⟨_,List.mem_set hjl _,rfl⟩
end
section
variable {P:Program} {G:Nat→Option Obj} {β:Bt} {R:Nat→Prop} {w w':World} {st:St} {a:Act} {o:Oper} {KV:V→List AO→Prop} {h:List AO}
theorem LZ(hs:eC G β R st a w){x:Operand}{ax:AX}(hx:cX x=some ax)(ho:o.op=.nilCheck x){kk:V→List AO→Tr}{K:X→St→Prop}(h:(jR st kk (.nilc ax)).holds P G K):dC P G st.h.length (fun v h'=>(kk v h').holds P G K) β R o a w:=by
 have hv:=aR hs hx
 simp only[jR]at h;split at h
 ·rename_i id off he
  rw[he]at hv
  have hv':=hv
  obtain⟨b,o',h1,h2⟩:=hv;exact dC.same hs (u:=a.eval x) (by simp[execOp,ho,h2]) h hv'
 ·rename_i id sz e o' he
  rw[he]at hv
  have hv':=hv
  obtain⟨b,o0,h1,h2⟩:=hv;exact dC.same hs (u:=a.eval x) (by simp[execOp,ho,h2]) h hv'
 ·rename_i sz n f e o' he
  rw[he]at hv
  have hv':=hv
  obtain⟨ad,h2,_⟩:=hv;exact dC.same hs (u:=a.eval x) (by simp[execOp,ho,h2]) h hv'
 ·rename_i f fs cs he
  rw[he]at hv;split at h
  ·rename_i g
   have hv':=hv
   obtain⟨us,vs,h2,_⟩:=hv;exact dC.same hs (u:=a.eval x) (by simp[execOp,ho,h2]) h hv'
  ·exact h.elim
 ·exact h.elim
theorem sG{v:V}{u:Value}{b:Bool}(h:VR β R w v u)(hb:aIO v=some b):(b=true∧u=.pointer none)∨(b=false∧∃ad,u=.pointer (some ad)):=by
 unfold aIO at hb;split at hb
 ·injection hb with hb;subst hb;exact .inl ⟨rfl,h⟩
 ·injection hb with hb;subst hb;obtain⟨b,o,_,h⟩:=h;exact .inr ⟨rfl,_,h⟩
 ·injection hb with hb;subst hb;obtain⟨b,o,_,h⟩:=h;exact .inr ⟨rfl,_,h⟩
 ·injection hb with hb;subst hb;obtain⟨ad,h,_⟩:=h;exact .inr ⟨rfl,_,h⟩
 ·cases hb
theorem aDE(hs:eC G β R st a w){op:BinOp}{neg:Bool}{t t' e:TypeId}{x y:Operand}{ax ay:AX}(ht:P.underlying t=some (.pointer e))(hn:kN op=some neg)(hx:cX x=some ax)(hy:cX y=some ay)(ho:o.op=.binOp op t x y t')
  {kk:V→List AO→Tr} {K:X→St→Prop} (h:(jR st kk (.eqp neg ax ay)).holds P G K):dC P G st.h.length (fun v h'=>(kk v h').holds P G K) β R o a w:=by
 have hv:=aR hs hx
 have hv':=aR hs hy
 have fin:∀(p q:Option Addr) (c:Bool),a.eval x=.pointer p→a.eval y=.pointer q→(∀d:Nat,(eE (d+1) t (.pointer p) (.pointer q)).run P w=.ok c w) →
   (kk (.c (.p (.b (match neg with|true => !c|false=>c)))) st.h).holds P G K→dC P G st.h.length (fun v h'=>(kk v h').holds P G K) β R o a w:=by
  intro p q c e1 e2 he hk
  have eq:(Op.equal t (.pointer p) (.pointer q)).run P w=.ok c w:=he 9999
  have hg:(eqGuard op t x y (.pointer p) (.pointer q)).run P w=.ok () w:=by
   unfold eqGuard;cases op<;>simp
  cases op<;>simp only[kN,reduceCtorEq,aD]at hn
  case eql=>
   subst hn;exact dC.same hs (u:=.bool c) (by simp[execOp,ho,e1,e2,hg,Go.binOp,eq]) hk rfl
  case neq=>
   subst hn;exact dC.same hs (u:=.bool (!c)) (by simp[execOp,ho,e1,e2,hg,Go.binOp,eq]) hk rfl
 simp only[jR,aFX]at h;split at h
 ·rename_i b h1 h2
  rcases sG hv h1 with⟨_,g1⟩|⟨g1,_⟩
  ·rcases sG hv' h2 with⟨rfl,g2⟩|⟨rfl,ad,g2⟩
   ·cases neg<;>exact fin none none true g1 g2 (fun d=>by simp[eE,run_underlying ht]) h
   ·cases neg<;>exact fin none (some ad) false g1 g2 (fun d=>by simp[eE,run_underlying ht]) h
  ·cases g1
 ·rename_i b _ h1 h2
  rcases sG hv' h2 with⟨_,g2⟩|⟨g2,_⟩
  ·rcases sG hv h1 with⟨rfl,g1⟩|⟨rfl,ad,g1⟩
   ·cases neg<;>exact fin none none true g1 g2 (fun d=>by simp[eE,run_underlying ht]) h
   ·cases neg<;>exact fin (some ad) none false g1 g2 (fun d=>by simp[eE,run_underlying ht]) h
  ·cases g2
 ·exact h.elim
theorem zR{k:Int}{K:Nat→Tr}{KK:X→St→Prop}:∀ {n j:Nat},(ixT k n j K).holds P G KK→(j:Int)≤k→k<(j+n:Nat)→(K k.toNat).holds P G KK
 |0,j,h,_,_=>h.elim
 |1,j,h,h1,h2=>by
  have:k.toNat=j:=by omega
  rw[this];exact h
 |n+2,j,h,h1,h2=>by
  unfold ixT at h
  by_cases e:k=(j:Int)
  ·have:k.toNat=j:=by omega
   rw[this];rw[decide_eq_true e]at h;exact h
  ·rw[decide_eq_false e]at h
   exact zR (n:=n+1) (j:=j+1) h (by omega) (by omega)
theorem aAH(hs:eC G β R st a w){x i:Operand}{ax ai:AX}{t e:TypeId}{n sz:Nat}(hu:P.underlying t=some (.array n e))(hz:dK P e=some sz)(hx:cX x=some ax)(hi:cX i=some ai)(ho:o.op=.indexAddr t x i)
  {kk:V→List AO→Tr} {K:X→St→Prop} (h:(jR st kk (.faddrI sz n ax ai)).holds P G K):dC P G st.h.length (fun v h'=>(kk v h').holds P G K) β R o a w:=by
 have hv:=aR hs hx
 have hv2:=aR hs hi
 simp only[jR]at h
 have hz':(sizeOf e).run P w=.ok sz w:=by
  unfold dK at hz;cases hq:P.info? e with
  |none=>simp[hq]at hz
  |some i=>simp[hq]at hz;simp[sizeOf,typeInfo,hq,hz]
 split at h
 ·rename_i id q kd k he he2
  rw[he]at hv;obtain⟨b,o0,h1,h2⟩:=hv;rw[he2]at hv2
  have hv2:a.eval i=.int kd k:=hv2
  obtain⟨⟨h3,h4⟩,h⟩:=h
  have h:=zR h (by omega) (by omega)
  obtain⟨j,rfl⟩:∃j:Nat,k=j:=⟨k.toNat,by omega⟩
  have hj:j<n:=by omega
  rw[show ((j:Nat):Int).toNat=j from rfl]at h;refine dC.same hs (u:=.pointer (some ((⟨b,q,none⟩:Addr).add (j*sz)))) ?_ h ⟨b,o0,h1,by rw[add_mid]⟩;simp[execOp,ho,h2,hv2,Instr.indexAt,asIntOf,run_underlying hu,Instr.sureAddr,hz',hj]
 ·exact h.elim
theorem MF(hs:eC G β R st a w){x i:Operand}{ax ai:AX}{t e:TypeId}{n sz:Nat}{m:Option Nat}(hu:P.underlying t=some (.array n e))(hz:dK P e=some sz)(hn:gI P e=some m)(hx:cX x=some ax)(hi:cX i=some ai)(ho:o.op=.index t x i)
  {kk:V→List AO→Tr} {K:X→St→Prop} (h:(jR st kk (.idxV sz n m ax ai)).holds P G K):dC P G st.h.length (fun v h'=>(kk v h').holds P G K) β R o a w:=by
 have hv:=aR hs hx
 have hv2:=aR hs hi
 simp only[jR]at h
 have hz':(sizeOf e).run P w=.ok sz w:=by
  unfold dK at hz;cases hq:P.info? e with
  |none=>simp[hq]at hz
  |some i=>simp[hq]at hz;simp[sizeOf,typeInfo,hq,hz]
 split at h
 ·rename_i cs kd k he he2
  rw[he]at hv;obtain⟨us,hu1,ha⟩:=hv;rw[he2]at hv2
  have hv2:a.eval i=.int kd k:=hv2
  obtain⟨hc,h⟩:=cE h;simp only[aY]at hc;obtain⟨hc1,hc2⟩:=hc
  have hc1:=aH hc1
  rw[fH]at hc2
  have hc2:n*sz≤cs.length:=by simpa using hc2
  obtain⟨⟨h3,h4⟩,h⟩:=h
  have h:=zR h (by omega) (by omega)
  obtain⟨j,rfl⟩:∃j:Nat,k=j:=⟨k.toNat,by omega⟩
  have hj:j<n:=by omega
  rw[show ((j:Nat):Int).toNat=j from rfl]at h
  have hlen:=ha.length
  have hsz:us.toList.length=us.size:=by simp
  have hjn:j*sz+sz≤n*sz:=by
   have:=bP sz (show j+1≤n from hj)
   rwa [dG,gW]at this
  have hl:(us.extract (j*sz) (j*sz+gZ m)).toList.length=gZ m:=by simp;omega
  refine dC.same hs (u:=ldV (us.extract (j*sz) (j*sz+gZ m)).toList m) ?_ h (iX hl ?_)
  ·cases m with
   |none=>
    have hlt:j*sz<us.size:=by simp only[gZ]at hc1;omega
    simp[execOp,ho,hu1,hv2,Instr.index,asIntOf,run_underlying hu,hz',hj,part,run_isAgg (cellsO_none hn),hlt,ldV,gZ]
   |some m=>
    obtain⟨h1,h2⟩:=cellsO_some hn;obtain rfl:m=sz:=hc1;simp[execOp,ho,hu1,hv2,Instr.index,asIntOf,run_underlying hu,hz',hj,part,run_isAgg h1,ldV,gZ,-Array.toList_extract]
  ·intro j' u hj'
   have hjl:j'<gZ m:=by have:=(aV.1 hj').1;omega
   refine ha.nth_get ?_;rw[←hj',bC,bC,cQ,if_pos (by omega)]
 ·exact h.elim
theorem MM(hs:eC G β R st a w){s t:TypeId}{k:IntKind}{x:Operand}{ax:AX}(ht:P.underlying t=some (.int k))(hx:cX x=some ax)(ho:o.op=.convert s t x){kk:V→List AO→Tr}{K:X→St→Prop}(h:(jR st kk (.conv k ax)).holds P G K)(hsr:∃d,P.underlying s=some d):dC P G st.h.length (fun v h'=>(kk v h').holds P G K) β R o a w:=by
 have hv:=aR hs hx
 obtain⟨d,hd⟩:=hsr;simp only[jR]at h;split at h
 ·rename_i k1 n he
  rw[he]at hv
  have hv:a.eval x=.int k1 n:=hv
  have hr:(Go.convert s t (.int k1 n)).run P w=.ok (.int k (k.wrap n)) w:=by
   unfold Go.convert;simp[run_underlying hd,run_underlying ht,Conv.intToInt]
  exact dC.same hs (u:=.int k (k.wrap n)) (by simp[execOp,ho,hv,hr]) h rfl
 ·exact h.elim
theorem tV{k k':IntKind}(h:kEq k k'=true):k=k':=by cases k<;>cases k'<;>first|rfl|cases h
theorem MA(hs:eC G β R st a w){t:TypeId}{k:IntKind}{x:Operand}{ax:AX}(hx:cX x=some ax)(ho:o.op=.unOp .neg t x){kk:V→List AO→Tr}{K:X→St→Prop}(h:(jR st kk (.negw k ax)).holds P G K):dC P G st.h.length (fun v h'=>(kk v h').holds P G K) β R o a w:=by
 have hv:=aR hs hx
 simp only[jR]at h;split at h
 ·rename_i k1 n he
  rw[he]at hv
  have hv:a.eval x=.int k1 n:=hv
  obtain⟨c1,h5⟩:=cE h;clear h;obtain rfl:=tV c1
  have e:(0:Int)-n = -n:=by omega
  exact dC.same hs (u:=.int k (k.wrap (-n))) (by simp[execOp,ho,hv,Op.unary,gA]) h5 rfl
 ·exact h.elim
theorem aHS(hs:eC G β R st a w){x y z:Operand}{ax ay az:AX}{ts:Array TypeId}(hx:cX x=some ax)(hy:cX y=some ay)(hz:cX z=some az)
  (ho:o.op=.call { callee:=.builtin .min,args := #[x,y,z],argTypes:=ts }) {kk:V→List AO→Tr} {K:X→St→Prop} (h:(jR st kk (.min3 ax ay az)).holds P G K) :
  dC P G st.h.length (fun v h'=>(kk v h').holds P G K) β R o a w:=by
 have hv:=aR hs hx
 have hv':=aR hs hy
 have hv'':=aR hs hz
 simp only[jR]at h;split at h
 ·rename_i k m k' n k'' q he he' he''
  rw[he]at hv;rw[he']at hv';rw[he'']at hv''
  have hv:a.eval x=.int k m:=hv
  have hv':a.eval y=.int k' n:=hv'
  have hv'':a.eval z=.int k'' q:=hv''
  exact dC.same hs (u:=.int k (if q<(if n<m then n else m) then q else (if n<m then n else m))) (by simp[execOp,ho,resolve,invoke,builtin,hv,hv',hv'',Builtin.min_,Builtin.min2]) h rfl
 ·exact h.elim
theorem PQ(hs:eC G β R st a w){f:FuncId}{fn:Func}{sub:Bool}{args:Array Operand}{ts:Array TypeId}{x y z:Operand}{ax ay az:AX}(hf:P.funcs[f]?=some fn)(hb:nR fn=some sub)(hl:args.toList=[x,y,z])
  (hx:cX x=some ax) (hy:cX y=some ay) (hz:cX z=some az) (ho:o.op=.call { callee:=.value (.func f),args,argTypes:=ts }) {kk:V→List AO→Tr} {K:X→St→Prop} (h:(jR st kk (.carry sub ax ay az)).holds P G K) :
  dC P G st.h.length (fun v h'=>(kk v h').holds P G K) β R o a w:=by
 have hv1:=aR hs hx
 have hv2:=aR hs hy
 have hv3:=aR hs hz
 simp only[jR]at h;split at h
 ·rename_i m n c he1 he2 he3
  rw[he1]at hv1;rw[he2]at hv2;rw[he3]at hv3
  have hv1:a.eval x=.int .u64 m:=hv1
  have hv2:a.eval y=.int .u64 n:=hv2
  have hv3:a.eval z=.int .u64 c:=hv3
  obtain⟨⟨g0,⟨g1,g2⟩,g3,g4⟩,h⟩:=h
  have hargs:args.map a.eval = #[.int .u64 m,.int .u64 n,.int .u64 c]:=by
   apply bW.1;rw[Array.toList_map,hl];simp[hv1,hv2,hv3]
  have hbn:fn.body.isNone=true∧Extern.findNext fn=none∧((sub=false∧fn.name = "math/bits.Add64")∨(sub=true∧fn.name = "math/bits.Sub64")):=by
   unfold nR at hb;split at hb
   ·cases hb
   ·rename_i hbody
    split at hb
    ·cases hb
    ·rename_i sub' hsub
     split at hb
     ·rename_i hn
      injection hb with hb;subst hb;refine⟨by rw[hbody];rfl,by simpa using hn,?_⟩;split at hsub
      ·rename_i hnm
       injection hsub with hsub;exact .inl ⟨hsub.symm,by simpa using hnm⟩
      ·split at hsub
       ·rename_i hnm
        injection hsub with hsub;exact .inr ⟨hsub.symm,by simpa using hnm⟩
       ·cases hsub
     ·cases hb
  obtain⟨hbd,hfn,hs1⟩:=hbn
  have e:a.eval (.func f)=.func (.func f) #[] #[]:=rfl
  rcases hs1 with⟨rfl,hnm⟩|⟨rfl,hnm⟩
  ·have hfind:Extern.find fn=some add64Entry:=by
     cases fn;simp only at hnm;subst hnm;rfl
   have hr:=run_callFunc_extern hf (by rw[hnm];rfl) hbd hfn hfind #[.int .u64 m,.int .u64 n,.int .u64 c] w
   rw[run_add64 m n c g0 g1 g3 g4]at hr;simp only[Result.andThen]at hr;refine dC.same hs (u:=.tuple #[.int .u64 ((m+n+c)%18446744073709551616),.int .u64 ((m+n+c) / 18446744073709551616)]) ?_ h ⟨_,rfl,⟨rfl,rfl,trivial⟩⟩;simp only[execOp,ho,resolve,e,Deferred.ofValue,invoke,hargs];simp[hr]
  ·have hfind:Extern.find fn=some Go.Proofs.sub64Entry:=by
     cases fn;simp only at hnm;subst hnm;rfl
   have hr:=run_callFunc_extern hf (by rw[hnm];rfl) hbd hfn hfind #[.int .u64 m,.int .u64 n,.int .u64 c] w
   obtain⟨m',rfl⟩:=dQ g0;obtain⟨n',rfl⟩:=dQ g1;obtain⟨c',rfl⟩:=dQ g3;rw[Go.Proofs.run_sub64 m' n' c' (by omega)]at hr
   have r1:(((m'+18446744073709551616-n'-c')%18446744073709551616:Nat):Int)=((m':Int)+18446744073709551616-(n':Int)-(c':Int))%18446744073709551616:=by omega
   have r2:((if m'<n'+c' then 1 else 0:Nat):Int)=if (m':Int)<(n':Int)+(c':Int) then 1 else 0:=by split<;>split<;>omega
   rw[r1,r2]at hr;simp only[Result.andThen]at hr;refine dC.same hs (u:=.tuple #[.int .u64 (((m':Int)+18446744073709551616-(n':Int)-(c':Int))%18446744073709551616),.int .u64 (if (m':Int)<(n':Int)+(c':Int) then 1 else 0)]) ?_ h ⟨_,rfl,⟨rfl,rfl,trivial⟩⟩;simp only[execOp,ho,resolve,e,Deferred.ofValue,invoke,hargs];simp[hr]
 ·exact h.elim
theorem MN(hs:eC G β R st a w){op:BinOp}{t t':TypeId}{k:IntKind}{x y:Operand}{ax ay:AX}(hx:cX x=some ax)(hy:cX y=some ay)(ho:o.op=.binOp op t x y t'){kk:V→List AO→Tr}{K:X→St→Prop}(h:(jR st kk (.binw op k ax ay)).holds P G K):dC P G st.h.length (fun v h'=>(kk v h').holds P G K) β R o a w:=by
 have hv:=aR hs hx
 have hv':=aR hs hy
 simp only[jR]at h;split at h
 ·rename_i k1 m k2 n he he'
  rw[he]at hv;rw[he']at hv'
  have hv:a.eval x=.int k1 m:=hv
  have hv':a.eval y=.int k2 n:=hv'
  obtain⟨c1,h5⟩:=cE h;clear h;obtain rfl:=tV c1
  have run:∀u,(Go.binOp op t (.int k m) (.int k2 n)).run P w=.ok u w→(execOp a.eval o).run P w=.ok (.value u) w:=by
   intro u hu
   have hg:(eqGuard op t x y (.int k m) (.int k2 n)).run P w=.ok () w:=by
    unfold eqGuard;cases op<;>simp
   simp[execOp,ho,hv,hv',hg,hu]
  cases op<;>simp only[SJ]at h5
  case add=>obtain⟨c2,h⟩:=cE h5;clear h5;obtain rfl:=tV c2;exact dC.same hs (run (.int k (k.wrap (m+n))) (by simp[Go.binOp,gA])) h rfl
  case sub=>obtain⟨c2,h⟩:=cE h5;clear h5;obtain rfl:=tV c2;exact dC.same hs (run (.int k (k.wrap (m-n))) (by simp[Go.binOp,gA])) h rfl
  case mul=>obtain⟨c2,h⟩:=cE h5;clear h5;obtain rfl:=tV c2;exact dC.same hs (run (.int k (k.wrap (m*n))) (by simp[Go.binOp,gA])) h rfl
  case and=>obtain⟨c2,h⟩:=cE h5;clear h5;obtain rfl:=tV c2;exact dC.same hs (run (.int k (k.wrap (dW k.bits m &&& dW k.bits n).toNat)) (by simp[Go.binOp,Op.intBits])) h rfl
  case or=>obtain⟨c2,h⟩:=cE h5;clear h5;obtain rfl:=tV c2;exact dC.same hs (run (.int k (k.wrap (dW k.bits m ||| dW k.bits n).toNat)) (by simp[Go.binOp,Op.intBits])) h rfl
  case xor=>obtain⟨c2,h⟩:=cE h5;clear h5;obtain rfl:=tV c2;exact dC.same hs (run (.int k (k.wrap (dW k.bits m ^^^ dW k.bits n).toNat)) (by simp[Go.binOp,Op.intBits])) h rfl
  case shl=>
   obtain⟨c2,h⟩:=h5;exact dC.same hs (run (.int k (k.wrap (m*2^(min n.toNat k.bits)))) (by simp[Go.binOp,Op.shift,show ¬n<0 by omega])) h rfl
  case shr=>
   obtain⟨c2,h⟩:=h5;exact dC.same hs (run (.int k (m.fdiv (2^(min n.toNat k.bits)))) (by simp[Go.binOp,Op.shift,show ¬n<0 by omega])) h rfl
  all_goals exact h5.elim
 ·exact h.elim
end
section
variable {P:Program} {G:Nat→Option Obj} {β:Bt} {R:Nat→Prop} {w w':World} {st:St} {a:Act} {o:Oper} {h:List AO}
theorem LY(hs:eC G β R st a w){op:BinOp}{neg:Bool}{t t' e:TypeId}{x:Operand}{ax:AX}(ht:P.underlying t=some (.slice e))(hn:kN op=some neg)(hx:cX x=some ax)(ho:o.op=.binOp op t x (.const (.slice none 0 0)) t')
  {kk:V→List AO→Tr} {K:X→St→Prop} (h:(jR st kk (.nils neg ax)).holds P G K):dC P G st.h.length (fun v h'=>(kk v h').holds P G K) β R o a w:=by
 have hv:=aR hs hx
 have fin:∀(A:Option Addr) (n m:Nat),a.eval x=.slice A n m→(kk (.c (.p (.b (match neg with|true => !A.isNone|false=>A.isNone)))) st.h).holds P G K→dC P G st.h.length (fun v h'=>(kk v h').holds P G K) β R o a w:=by
   intro A n m e1 hk
   have he:∀d:Nat,(eE (d+1) t (.slice A n m) (.slice none 0 0)).run P w=.ok A.isNone w:=by
    intro d;cases A<;>simp[eE,run_underlying ht]
   have eq:(Op.equal t (.slice A n m) (.slice none 0 0)).run P w=.ok A.isNone w:=he 9999
   have hg:(eqGuard op t x (.const (.slice none 0 0)) (.slice A n m) (.slice none 0 0)).run P w=.ok () w:=by
    unfold eqGuard;cases op<;>simp
   have ev2:a.eval (.const (.slice none 0 0))=.slice none 0 0:=rfl
   cases op<;>simp only[kN,reduceCtorEq,aD]at hn
   case eql=>
    subst hn;exact dC.same hs (u:=.bool A.isNone) (by simp[execOp,ho,e1,ev2,hg,Go.binOp,eq]) hk rfl
   case neq=>
    subst hn;exact dC.same hs (u:=.bool (!A.isNone)) (by simp[execOp,ho,e1,ev2,hg,Go.binOp,eq]) hk rfl
 have any:∀(A:Option Addr) (n m:Nat),a.eval x=.slice A n m→(0<n→A.isNone=false) →
   (bT (decide (0<n)) (kk (.c (.p (.b neg))) st.h) (.alt (kk (.c (.p (.b true))) st.h) (kk (.c (.p (.b false))) st.h))).holds P G K→dC P G st.h.length (fun v h'=>(kk v h').holds P G K) β R o a w:=by
  intro A n m e1 hA hb;refine fin A n m e1 ?_
  by_cases hn:0<n
  ·rw[decide_eq_true hn]at hb
   have hb:(kk (.c (.p (.b neg))) st.h).holds P G K:=hb
   rw[hA hn];cases neg<;>exact hb
  ·rw[decide_eq_false hn]at hb
   obtain⟨h1,h2⟩:(kk (.c (.p (.b true))) st.h).holds P G K∧(kk (.c (.p (.b false))) st.h).holds P G K:=hb
   cases neg<;>cases A<;>first|exact h1|exact h2
 simp only[jR]at h;split at h
 ·rename_i he
  rw[he]at hv
  have hv:a.eval x=.slice none 0 0:=hv
  refine fin none 0 0 hv ?_;cases neg<;>exact h
 ·rename_i sz n f he
  rw[he]at hv;obtain⟨A,c,h1,h2,h3,h4⟩:=hv;exact any A n c h1 (fun hn=>by obtain⟨ad,rfl,_⟩:=h4 hn;rfl) h
 ·rename_i id sz off n he
  rw[he]at hv;obtain⟨A,c,h1,h2,h3,h4⟩:=hv;refine any A n c h1 (fun hn=>?_) h
  rcases h4 with⟨_,h5,_⟩|⟨b,N,_,rfl,_⟩
  ·omega
  ·rfl
 ·exact h.elim
theorem XW(hs:eC G β R st a w){t e:TypeId}{x:Operand}{ax:AX}(ht:P.underlying t=some (.slice e))(hx:cX x=some ax)(ho:o.op=.call { callee:=.builtin .cap,args := #[x],argTypes := #[t] })
  {kk:V→List AO→Tr} {K:X→St→Prop} (h:(jR st kk (.capn ax)).holds P G K):dC P G st.h.length (fun v h'=>(kk v h').holds P G K) β R o a w:=by
 have hv:=aR hs hx
 simp only[jR]at h;split at h
 ·rename_i he
  rw[he]at hv
  have hv:a.eval x=.slice none 0 0:=hv
  exact dC.same hs (u:=.int .i64 0) (by simp[execOp,ho,resolve,invoke,builtin,hv,Builtin.cap_,run_underlying ht,goInt]) h rfl
 ·exact h.elim
theorem aMM(hs:eC G β R st a w){t el:TypeId}{sz n g:Nat}(hu2:P.underlying t=some (.array n el))(hsz:dK P el=some sz)(hn:(Nat.blt 0 n&&Nat.ble n 16777216)=true)(ho:o.op=.slice t (.global g) none none none)
  {kk:V→List AO→Tr} {K:X→St→Prop} (h:(jR st kk (.gsl g n)).holds P G K):dC P G st.h.length (fun v h'=>(kk v h').holds P G K) β R o a w:=by
 rw[aY]at hn
 have b2:0<n:=aQ hn.1
 have b4:=aQ hn.2
 refine dC.same hs (u:=.slice (some ⟨g,0,none⟩) n n) ?_ h rfl
 have he:a.eval (.global g)=.pointer (some ⟨g,0,none⟩):=rfl
 have hb0:=run_bounds (P:=P) (w:=w) (b:=false) (len:=n) (cap:=n) (a:=a) (lo:=none) (hi:=none) (l:=0) (h:=n) (.inl ⟨rfl,rfl⟩) (.inl ⟨rfl,rfl⟩) (by omega) (by omega) (by omega)
 have hb0:(Instr.sliceBounds false n n none none none).run P w=.ok (0,n,n) w:=by simpa using hb0
 have hne:¬n=0:=by omega
 simp[execOp,ho,he,Instr.sliceAt,run_underlying hu2,run_sizeOf hsz,hb0,Instr.sureAddr,hne,Addr.add]
end
section
variable {P:Program} {G:Nat→Option Obj} {β:Bt} {R:Nat→Prop} {w:World} {st:St} {a:Act} {o:Oper} {KV:V→List AO→Prop}
theorem GH(off:Nat):∀(l:List Value) (k:Nat) (cs:Array Value),(l.zipIdx k).foldl (fun cs (x:Value×Nat)=>cs.setIfInBounds (off+x.2) x.1) cs=setA cs (off+k) l
 |[],_,_=>rfl
 |v::r,k,cs=>by
  rw[List.zipIdx_cons,List.foldl_cons,GH off r (k+1),setA];rfl
theorem fill_step(off:Nat)(cells v:Array Value):v.zipIdx.foldl (fun cs (x:Value×Nat)=>cs.setIfInBounds (off+x.2) x.1) cells=setA cells off v.toList:=by
 rw[←Array.foldl_toList]
 have:=GH off v.toList 0 cells
 simpa using this
theorem kU(hs:eC G β R st a w)(pl:Nat→Option (Nat×Nat)):∀(ps:List (Nat×Operand)) (l:List (Nat×Nat×AX)) (vs vs':List C) (cells:Array Value),jI pl ps=some l→jL st vs l=some vs'→All2 (CR β R w) vs cells.toList →
  ∃cells',Instr.fill pl cells (ps.map fun(x:Nat×Operand)=>(x.1,a.eval x.2))=some cells'∧All2 (CR β R w) vs' cells'.toList
 |[],l,vs,vs',cells,hl,hf,hc=>by
  simp only[jI,aD]at hl;subst hl;simp only[jL,aD]at hf;subst hf;exact⟨cells,rfl,hc⟩
 |(i,x)::ps,l,vs,vs',cells,hl,hf,hc=>by
  simp only[jI]at hl;cases hp:pl i with
  |none=>simp[hp]at hl
  |some p=>
   obtain⟨off,s⟩:=p;cases hx:cX x with
   |none=>simp[hp,hx]at hl
   |some ax=>
    cases hr:jI pl ps with
    |none=>simp[hp,hx,hr]at hl
    |some l'=>
     simp only[hp,hx,hr,aK,aE,gT,aD]at hl;subst hl;simp only[jL]at hf;cases hcs:(st.ev ax).cells? with
     |none=>simp[hcs]at hf
     |some cs=>
      simp only[hcs]at hf;cases hb:(Nat.beq (fK cs) s&&Nat.ble (off+s) (fK vs)&&hH cs) with
      |false=>simp[hb]at hf
      |true=>
       simp only[hb]at hf;simp only[aY,Nat.ble_eq,fH]at hb;obtain⟨⟨h1,h2⟩,h3⟩:=hb
       have h1:=aH h1
       obtain⟨c1,_⟩:=iI (aR hs hx) hcs h3
       have hsz:(a.eval x).cells.size=s:=by have:=c1.length;simp at this;omega
       have hcl:vs.length=cells.size:=by simpa using hc.length
       obtain⟨cells',h4,h5⟩:=kU hs pl ps l' _ vs' (setA cells off (a.eval x).cells.toList) hr hf (All2.setA off c1 hc);refine⟨cells',?_,h5⟩;simp only[List.map_cons,Instr.fill,hp];rw[if_neg (by simp;omega),fill_step];exact h4
def uH(l:List C):Prop:=∀c∈l,c.isOwn=false
theorem uH.nth_{l:List C}(h:uH l)(k:Nat):(bN .top l k).isOwn=false:=by
 rw[eK,aG];cases hk:l[k]? with
 |none=>rfl
 |some c=>exact h c (cL hk)
theorem aAP{cs:List C}(h:hH cs=true):uH cs:=by
 induction cs with
 |nil=>intro c hc;cases hc
 |cons c cs ih=>
  simp only[hH,aY]at h;intro d hd
  rcases dZ.1 hd with rfl|hd
  ·exact pM h.1
  ·exact ih h.2 d hd
theorem JR:∀(cs vs:List C) (o:Nat),uH cs→uH vs→uH (jK vs o cs)
 |[],_,_,_,h=>h
 |c::cs,vs,o,hc,h=>by
  rw[jK];refine JR cs _ _ (fun d hd=>hc d (List.mem_cons_of_mem _ hd)) (fun d hd=>?_);rw[jB]at hd
  rcases List.mem_or_eq_of_mem_set hd with hd|rfl
  ·exact h d hd
  ·exact hc d (by simp)
theorem wF:∀z:List PV,uH (iP z)
 |[]=>by intro c hc;cases hc
 |x::r=>by
  intro c hc
  rcases dZ.1 (show c∈C.p x::iP r from hc) with rfl|hc
  ·rfl
  ·exact wF r c hc
theorem wE{z:List C}(h:uH z):∀n:Nat,uH (vH z n)
 |0=>by intro c hc;cases hc
 |n+1=>by
  intro c hc
  rcases List.mem_append.1 (show c∈z++vH z n from hc) with hc|hc
  ·exact h c hc
  ·exact wE h n c hc
theorem wG(st:St):∀(l:List (Nat×Nat×AX)) (vs vs':List C),uH vs→jL st vs l=some vs'→uH vs'
 |[],vs,vs',h0,h=>by simp only[jL,aD]at h;subst h;exact h0
 |(o,s,x)::r,vs,vs',h0,h=>by
  simp only[jL]at h;split at h
  ·split at h
   ·rename_i hq
    simp only[aY]at hq;exact wG st r _ _ (JR _ _ _ (aAP hq.2) h0) h
   ·cases h
  ·cases h
theorem sL(st:St):∀(l:List (Nat×Nat×AX)) (vs vs':List C),jL st vs l=some vs'→vs'.length=vs.length
 |[],vs,vs',h=>by simp only[jL,aD]at h;subst h;rfl
 |(o,s,x)::r,vs,vs',h=>by
  simp only[jL]at h;split at h
  ·split at h
   ·rw[sL st r _ _ h,rY]
   ·cases h
  ·cases h
theorem tQ(hs:eC G β R st a w){t:TypeId}{ps:Array (Nat×Operand)}{z:List PV}{l:List (Nat×Nat×AX)}{pl:Nat→Option (Nat×Nat)}(hz:iE P t=some z)(hl:jI pl ps.toList=some l)
  (ht:(∃fs places,P.underlying t=some (.struct fs)∧fs.toList.mapM (fun f=>(P.info? f.type).map fun i=>(f.offset,i.size))=some places∧pl=fun i=>places[i]?)∨(∃n e s,P.underlying t=some (.array n e)∧dK P e=some s∧pl=fun i=>some (i*s,s)))
  (ho:o.op=.build t ps) {kk:V→List AO→Tr} {K:X→St→Prop} {ext:Ext} (h:(gL ext st kk (.build z l)).holds P G K):dC P G st.h.length (fun v h'=>(kk v h').holds P G K) β R o a w:=by
 obtain⟨v,hv,rfl⟩:=jA hz;simp only[gL]at h;split at h
 ·rename_i cs hcs
  obtain⟨cells',h1,h2⟩:=kU hs pl ps.toList l _ cs v.cells hl hcs (pD v);refine dC.same hs (u:=.agg cells') ?_ h ⟨cells',rfl,h2⟩
  rcases ht with⟨fs,places,hu,hp,rfl⟩|⟨n,e,s,hu,hp,rfl⟩
  ·simp[execOp,ho,Instr.build,run_underlying hu,hv,Array.mapM_eq_mapM_toList,run_places w _ _ hp,h1]
  ·simp[execOp,ho,Instr.build,run_underlying hu,hv,run_sizeOf hp,h1]
 ·exact h.elim
def replV(l:List Value):Nat→List Value
 |0=>[]
 |n+1=>l++replV l n
theorem range_cells(Z:Array Value)(hz:0<Z.size):∀n:Nat,(List.range (n*Z.size)).map (fun i=>Z[i%Z.size]!)=replV Z.toList n
 |0=>by simp[replV]
 |n+1=>by
  rw[dG,gW,Nat.add_comm,List.range_add,List.map_append,replV,←range_cells Z hz n];congr 1
  ·apply List.ext_getElem
   ·simp
   ·intro i h1 h2
    simp at h1;simp[Nat.mod_eq_of_lt h1,h1]
  ·rw[List.map_map]
   apply List.map_congr_left;intro j _
   simp
theorem pI{q:C→Value→Prop}{cs:List C}{us:List Value}(h:All2 q cs us):∀n:Nat,All2 q (vH cs n) (replV us n)
 |0=>trivial
 |n+1=>h.append (pI h n)
theorem tK(cs:List C):∀n:Nat,(vH cs n).length=n*cs.length
 |0=>by simp[vH]
 |n+1=>by simp[vH,tK cs n,dG];omega
theorem UC(hs:eC G β R st a w){t e:TypeId}{sz len:Nat}{ps:Array (Nat×Operand)}{z:List PV}{l:List (Nat×Nat×AX)}(hu:P.underlying t=some (.slice e))(hsz:dK P e=some sz)(hz:iE P e=some z)(hl:jI (fun i=>some (i*sz,sz)) ps.toList=some l)
  (ho:o.op=.buildSlice t len ps) {kk:V→List AO→Tr} {K:X→St→Prop} {ext:Ext} (h:(gL ext st kk (.bsl e sz len z l)).holds P G K):dC P G st.h.length (fun v h'=>(kk v h').holds P G K) β R o a w:=by
 obtain⟨v,hv,rfl⟩:=jA hz;simp only[gL]at h;split at h
 ·rename_i cs hcs
  obtain⟨c1,c2⟩:=cE h;simp only[aY,Nat.ble_eq,fH,List.length_map]at c1;obtain⟨⟨c1,c3⟩,c4⟩:=c1
  have c1:v.cells.size=sz:=by simpa using aH c1
  have c3:0<sz:=by simpa using c3
  subst c1
  have hstart:((Array.range (len*v.cells.size)).map (fun i=>v.cells[i%v.cells.size]!)).toList=replV v.cells.toList len:=by
   rw[Array.toList_map,Array.toList_range,range_cells v.cells c3 len]
  obtain⟨cells',h1,h2⟩:=kU hs _ ps.toList l _ cs ((Array.range (len*v.cells.size)).map (fun i=>v.cells[i%v.cells.size]!)) hl hcs (by rw[hstart];exact pI (pD v) len)
  have hlen:cs.length=len*v.cells.size:=by
   rw[sL st _ _ _ hcs,tK,BX];simp
  have hcl:cells'.size=len*v.cells.size:=by have:=h2.length;simp at this;omega
  rw[fH]at c2
  have hob:∀β' w',jC β R w β' R w'→w'.heap[w.heap.size]?=some (.cells cells' e)→OR β' R w' (.row e v.cells.size len (rR cs v.cells.size len)) w.heap.size (len*v.cells.size):=by
   intro β' w' kp hb;refine⟨cells',hb,hcl,aU _,?_⟩;intro i j hi hj
   have hlt:i*v.cells.size+j<len*v.cells.size:=by
    have:=bP v.cells.size (show i+1≤len by omega)
    rw[dG,gW]at this;omega
   obtain⟨u,hu⟩:∃u,cells'.toList[i*v.cells.size+j]?=some u:=⟨_,aN (by simp;omega)⟩
   refine⟨u,by simpa using hu,?_⟩;rw[ZI hj (by omega)];exact rS.of ((wG st _ _ _ (wE (wF _) _) hcs).nth_ _) (CR.keep kp (h2.nth_get hu))
  refine .inl ⟨.slice (some ⟨w.heap.size,0,none⟩) len len,w.alloc (.cells cells' e),?_,bn β st.h.length (w.heap.size,len*v.cells.size),R,_,_,c2,?_,kT hs.hs hob,tY hs.hs _ _ rfl,fun i hi=>dN _ (by omega)⟩
  ·have hne:¬(len*v.cells.size>2^24):=by omega
   have e1:len*v.cells.size=0→(Array.range (len*v.cells.size)).map (fun _=>(default:Value))=(Array.range (len*v.cells.size)).map (fun i=>v.cells[i%v.cells.size]!):=fun h0=>by simp[h0]
   simp only[execOp,ho,Instr.buildSlice];simp[run_underlying hu,run_sizeOf hsz,if_neg hne]
   by_cases h0:len*v.cells.size=0
   ·rw[if_pos h0,e1 h0,h1]
    simp[newRow]
   ·rw[if_neg h0,hv]
    simp[h1,newRow]
  ·exact⟨_,len,rfl,aU _,by unfold maxLen;have:len*1≤len*v.cells.size:=Nat.mul_le_mul_left _ c3;omega,.inr ⟨w.heap.size,_,fN _ _ _,by simp,by simp⟩⟩
 ·exact h.elim
theorem vA(hs:eC G β R st a w):∀(xs:List Operand) (l:List AX),yN xs=some l→All2 (VR β R w) (vS st l) (xs.map a.eval)
 |[],l,h=>by simp only[yN,aD]at h;subst h;exact trivial
 |x::xs,l,h=>by
  simp only[yN]at h;cases hx:cX x with
  |none=>simp[hx]at h
  |some ax=>
   cases hr:yN xs with
   |none=>simp[hx,hr]at h
   |some l'=>
    simp only[hx,hr,aK,aE,gT,aD]at h;subst h;exact⟨aR hs hx,vA hs xs l' hr⟩
theorem aHW(hs:eC G β R st a w){f:FuncId}{fn:Func}{args:Array Operand}{ts:Array TypeId}{l:List AX}(hf:P.funcs[f]?=some fn)(hb:fn.body.isSome=true)(hnm:(fn.name != "runtime.NumGoroutine")=true)(hl:yN args.toList=some l)
  (ho:o.op=.call { callee:=.value (.func f),args,argTypes:=ts }) {kk:V→List AO→Tr} {K:X→St→Prop} {ext:Ext} (hext:bO P G ext) (h:(gL ext st kk (.call f l)).holds P G K):dC P G st.h.length (fun v h'=>(kk v h').holds P G K) β R o a w:=by
 simp only[gL]at h
 have hc:=hext.fn _ _ _ _ _ h β R w (args.map a.eval) (by simpa using vA hs args.toList l hl) hs.hs
 refine .inr (.inr ⟨f,args.map a.eval,?_,?_⟩)
 ·have hnm':¬fn.name = "runtime.NumGoroutine" := by simpa using hnm
  have hb':¬fn.body=none:=by cases hq:fn.body<;>simp_all
  have e:a.eval (.func f)=.func (.func f) #[] #[]:=rfl
  simp only[execOp,ho,resolve,e,Deferred.ofValue,invoke];simp[callFunc,hf];rw[if_neg hnm',if_neg hb']
 ·refine hc.mono ?_
  rintro e w' ⟨u,β',R',x,h',rfl,h1,h2,h3,h4,h5⟩;exact⟨u,rfl,β',R',x,h',h1,h2,h3,h4,h5⟩
theorem MC(hs:eC G β R st a w){f:Fn}{fs cs:Array Operand}{lf lc:List AX}(h1:yN fs.toList=some lf)(h2:yN cs.toList=some lc)(ho:o.op=.makeFunc f fs cs){kk:V→List AO→Tr}{K:X→St→Prop}{ext:Ext}(h:(gL ext st kk (.mkfn f lf lc)).holds P G K):dC P G st.h.length (fun v h'=>(kk v h').holds P G K) β R o a w:=by
 simp only[gL]at h;split at h
 ·rename_i xs ys hx hy
  refine dC.same hs (u:=.func f (fs.map a.eval) (cs.map a.eval)) ?_ h ⟨_,_,rfl,vC hx (by simpa using vA hs fs.toList lf h1),vC hy (by simpa using vA hs cs.toList lc h2)⟩;simp[execOp,ho,Instr.makeFunc]
 ·exact h.elim
theorem rH(hs:eC G β R st a w){aop:rB}(hc:gY P o.op=some aop){kk:V→List AO→Tr}{K:X→St→Prop}{ext:Ext}(hext:bO P G ext)(h:(gL ext st kk aop).holds P G K) :
  dC P G st.h.length (fun v h'=>(kk v h').holds P G K) β R o a w:=by
 cases hop:o.op
 all_goals rw[hop]at hc
 all_goals try (simp only[gY]at hc;cases hc;done)
 case move x=>
  simp only[gY,aM]at hc;obtain⟨ax,hx,rfl⟩:=hc;exact PO hs hx (.inl hop) h
 case assign x=>
  simp only[gY,aM]at hc;obtain⟨ax,hx,rfl⟩:=hc;exact PO hs hx (.inr hop) h
 case pick c x y=>
  simp only[gY,aE,aB,aK,aD]at hc;obtain⟨ac,h1,ax,h2,ay,h3,rfl⟩:=hc;simp only[gL]at h;split at h
  ·rename_i b he
   exact LX hs h1 h2 h3 hop he (fun hb=>by subst hb;exact h) (fun hb=>by subst hb;exact h)
  ·exact h.elim
 case alloc t=>
  simp only[gY,aM]at hc;obtain⟨z,hz,rfl⟩:=hc;exact DS hs hz hop h
 case box t x=>
  simp only[gY,aM]at hc;obtain⟨ax,hx,rfl⟩:=hc;exact UD hs hx hop h
 case build t ps=>
  simp only[gY]at hc;split at hc
  ·rename_i fs hu
   simp only[aE,aB,aK,aD]at hc;obtain⟨places,h1,z,h2,l,h3,rfl⟩:=hc;exact tQ hs h2 h3 (.inl ⟨fs,places,hu,h1,rfl⟩) hop h
  ·rename_i n e hu
   simp only[aE,aB,aK,aD]at hc;obtain⟨s,h1,z,h2,l,h3,rfl⟩:=hc;exact tQ hs h2 h3 (.inr ⟨n,e,s,hu,h1,rfl⟩) hop h
  ·cases hc
 case load t x=>
  simp only[gY,aE,aB,aK,aD]at hc;obtain⟨n,h1,ax,h2,rfl⟩:=hc;exact MD hs h1 h2 hop h
 case store t x y=>
  simp only[gY,aE,aB,aK,aD]at hc;obtain⟨n,h1,ax,h2,ay,h3,rfl⟩:=hc;exact DP hs h1 h2 h3 hop h
 case binOp op t x y t'=>
  simp only[gY]at hc
  have key:∀ax ay,cX x=some ax→cX y=some ay→aop=.bin op ax ay→dC P G st.h.length (fun v h'=>(kk v h').holds P G K) β R o a w:=by
   rintro ax ay h1 h2 rfl;simp only[gL]at h;split at h
   ·rename_i k m k' n he he'
    obtain⟨c1,c2⟩:=cE h
    have hk:k=k':=by cases k<;>cases k'<;>first|rfl|cases c1
    subst hk;exact MP hs h1 h2 hop he he' c2
   ·rename_i m n he he'
    exact MO hs h1 h2 hop he he' h
   ·exact h.elim
  split at hc
  ·split at hc
   ·simp only[aE,aB,aK,aD]at hc
    obtain⟨ax,h1,ay,h2,rfl⟩:=hc;exact MN hs h1 h2 hop h
   ·simp only[aE,aB,aK,aD]at hc
    obtain⟨ax,h1,ay,h2,rfl⟩:=hc;exact key ax ay h1 h2 rfl
  ·simp only[aE,aB,aK,aD]at hc
   obtain⟨ax,h1,ay,h2,rfl⟩:=hc;exact key ax ay h1 h2 rfl
  ·rename_i hu
   simp only[aE,aB,aK,aD]at hc;obtain⟨ax,h1,ay,h2,rfl⟩:=hc;simp only[gL]at h;split at h
   ·rename_i m n he he'
    exact aHY hs hu h1 h2 hop he he' h
   ·exact h.elim
  ·rename_i fs hu
   split at hc
   ·rename_i neg hg hn
    simp only[aE,aB,aK,aD]at hc;obtain⟨l,h0,ax,h1,ay,h2,rfl⟩:=hc;exact UB hs hu hg hn h0 h1 h2 hop h
   ·cases hc
  ·rename_i n e hu
   split at hc
   ·rename_i neg hg hn hz
    simp only[aE,aB,aK,aD]at hc;obtain⟨pk,h0,ax,h1,ay,h2,rfl⟩:=hc;exact MK hs hu hg hn h0 hz h1 h2 hop h
   ·cases hc
  ·rename_i e hu
   split at hc
   ·rename_i neg hn
    simp only[aM]at hc;obtain⟨ax,h1,rfl⟩:=hc;exact LY hs hu hn h1 hop h
   ·cases hc
  ·cases hc
 case convert s t x=>
  simp only[gY]at hc;split at hc
  ·rename_i k0 k hs0 hu
   simp only[aM]at hc;obtain⟨ax,hx,rfl⟩:=hc;exact MM hs hu hx hop h ⟨_,hs0⟩
  ·cases hc
 case nilCheck x=>
  simp only[gY,aM]at hc;obtain⟨ax,hx,rfl⟩:=hc;exact LZ hs hx hop h
 case unOp op t x=>
  cases op
  all_goals try (simp only[gY]at hc;cases hc;done)
  case not=>
   simp only[gY,aM]at hc;obtain⟨ax,hx,rfl⟩:=hc;simp only[gL]at h;split at h
   ·rename_i b he
    exact TV hs hx hop he h
   ·exact h.elim
  case neg=>
   simp only[gY]at hc;split at hc
   ·simp only[aM]at hc
    obtain⟨ax,hx,rfl⟩:=hc;exact MA hs hx hop h
   simp only[aM]at hc;obtain⟨ax,hx,rfl⟩:=hc;simp only[gL]at h;split at h
   ·rename_i k n he
    exact TW hs hx hop he h.1 h.2
   ·exact h.elim
 case fieldAddr t x k=>
  simp only[gY,aE,aB]at hc;obtain⟨fs,h1,f,h2,s,h3,h4⟩:=hc
  have hu:P.underlying t=some (.struct fs):=by
   unfold iA at h1;split at h1
   ·rename_i fs' hu;injection h1 with h1;rw[hu,h1]
   ·cases h1
  split at h4
  ·cases h4
  ·rename_i s' hs'
   simp only[aK,aB,aD]at h4;obtain⟨ax,hx,rfl⟩:=h4;refine DQ hs hu h2 ?_ hx hop h;cases s with
   |zero=>exact absurd rfl hs'
   |succ s=>exact⟨s,h3⟩
 case field t x k=>
  simp only[gY,aE,aB,aK,aD]at hc;obtain⟨fs,h1,f,h2,n,h3,ax,h4,rfl⟩:=hc
  have hu:P.underlying t=some (.struct fs):=by
   unfold iA at h1;split at h1
   ·rename_i fs' hu;injection h1 with h1;rw[hu,h1]
   ·cases h1
  exact UA hs hu h2 h3 h4 hop h
 case indexAddr t x i=>
  simp only[gY]at hc;split at hc
  ·rename_i n e hA
   have hu:P.underlying t=some (.array n e):=by
    unfold vK at hA;split at hA
    ·rename_i n' e' hu;injection hA with hA;injection hA with e1 e2;rw[hu,e1,e2]
    ·cases hA
   split at hc
   ·rename_i k h1
    simp only[aE,aB,aK,aD]at hc;obtain⟨sz,h2,ax,h3,rfl⟩:=hc;unfold lG at h1;split at h1
    ·rename_i kd k'
     split at h1
     ·rename_i hb
      injection h1 with h1;subst h1;exact MH hs hu (by simpa using hb) h2 h3 hop h
     ·cases h1
    ·cases h1
   ·split at hc
    ·simp only[aE,aB,aK,aD]at hc
     obtain⟨sz,h2,ax,h3,ai,h4,rfl⟩:=hc;exact aAH hs hu h2 h3 h4 hop h
    ·cases hc
  simp only[aE,aB,aK,aD]at hc;obtain⟨e,h1,sz,h2,ax,h3,ai,h4,rfl⟩:=hc
  have hu:P.underlying t=some (.slice e):=by
   unfold iB at h1;split at h1
   ·rename_i e' hu;injection h1 with h1;rw[hu,h1]
   ·cases h1
  exact MI hs hu h2 h3 h4 hop h
 case index t x i=>
  simp only[gY]at hc;split at hc
  ·rename_i hu
   simp only[aE,aB,aK,aD]at hc;obtain⟨ax,h1,ai,h2,rfl⟩:=hc;exact MG hs hu h1 h2 hop h
  ·rename_i n e hu
   split at hc
   ·simp only[aE,aB,aK,aD]at hc
    obtain⟨sz,h0,m,h1,ax,h2,ai,h3,rfl⟩:=hc;exact MF hs hu h0 h1 h2 h3 hop h
   ·cases hc
  ·cases hc
 case extract x i=>
  simp only[gY,aE,aB,aK,aD]at hc;obtain⟨ax,h1,rfl⟩:=hc;simp only[gL]at h;split at h
  ·rename_i vs he
   obtain⟨c1,c2⟩:=cE h;exact MJ hs h1 hop he c1 c2
  ·exact h.elim
 case call c=>
  simp only[gY]at hc;obtain⟨callee,args,ats⟩:=c;dsimp only at hc;split at hc
  ·rename_i f
   split at hc
   ·rename_i fn hf
    split at hc
    ·rename_i hb
     simp only[aY]at hb;simp only[aM]at hc;obtain⟨l,hl,rfl⟩:=hc;exact aHW hs hf hb.1 hb.2 hl hop hext h
    ·cases hc
   ·cases hc
  ·split at hc
   ·rename_i x t ha ht
    obtain rfl:args = #[x]:=bW.1 ha;obtain rfl:ats = #[t]:=bW.1 ht;split at hc
    ·rename_i e hu
     simp only[aM]at hc;obtain⟨ax,hx,rfl⟩:=hc;exact TZ hs hu hx hop h
    ·rename_i hu
     simp only[aM]at hc;obtain⟨ax,hx,rfl⟩:=hc;exact ME hs hu hx hop h
    ·cases hc
   ·cases hc
  ·split at hc
   ·rename_i x y ha
    obtain rfl:args = #[x,y]:=bW.1 ha;simp only[aE,aB,aK,aD]at hc;obtain⟨ax,h1,ay,h2,rfl⟩:=hc;exact TX hs h1 h2 hop h
   ·rename_i x y z ha
    obtain rfl:args = #[x,y,z]:=bW.1 ha;simp only[aE,aB,aK,aD]at hc;obtain⟨ax,h1,ay,h2,az,h3,rfl⟩:=hc;exact aHS hs h1 h2 h3 hop h
   ·cases hc
  ·split at hc
   ·rename_i x y ha
    obtain rfl:args = #[x,y]:=bW.1 ha;simp only[aE,aB,aK,aD]at hc;obtain⟨ax,h1,ay,h2,rfl⟩:=hc;exact TY hs h1 h2 hop h
   ·cases hc
  ·split at hc
   ·rename_i x y t u ha ht
    obtain rfl:args = #[x,y]:=bW.1 ha;obtain rfl:ats = #[t,u]:=bW.1 ht;split at hc
    ·rename_i htu
     obtain rfl:=aH htu;simp only[aE,aB,aK,aD]at hc;obtain⟨e,h1,sz,h2,by_,h3,z,h4,ax,h5,ay,h6,rfl⟩:=hc
     have hu:P.underlying t=some (.slice e):=by
      unfold iB at h1;split at h1
      ·rename_i e' hu;injection h1 with h1;rw[hu,h1]
      ·cases h1
     have h0:=h
     simp only[gL]at h0;obtain⟨c1,c2⟩:=cE h0;simp only[aY,fH]at c1
     rcases DW c2 with⟨_,c3⟩|⟨id,sz0,off,len,c3,c4,c5⟩
     ·exact UE hs hu h2 h3 h4 h5 h6 hop h c3
     ·exact aI0 hs hu h2 h3 h4 h5 h6 hop (by simpa using c1.1) (aH c1.2) c3 c4 c5
    ·cases hc
   ·cases hc
  ·cases hc
 case panic x=>
  simp only[gY,aD]at hc;subst hc;exact h.elim
 case makeInterface t x=>
  simp only[gY,aD]at hc;subst hc;exact h.elim
 case buildSlice t len ps=>
  simp only[gY,aE,aB,aK,aD]at hc;obtain⟨e,h1,sz,h2,z,h3,l,h4,rfl⟩:=hc
  have hu:P.underlying t=some (.slice e):=by
   unfold iB at h1;split at h1
   ·rename_i e' hu;injection h1 with h1;rw[hu,h1]
   ·cases h1
  exact UC hs hu h2 h3 h4 hop h
 case makeSlice t x y=>
  simp only[gY,aE,aB,aK,aD]at hc;obtain⟨e,h1,sz,h2,by_,h3,z,h4,ax,h5,ay,h6,rfl⟩:=hc
  have hu:P.underlying t=some (.slice e):=by
   unfold iB at h1;split at h1
   ·rename_i e' hu;injection h1 with h1;rw[hu,h1]
   ·cases h1
  exact MB hs hu h2 h3 h4 h5 h6 hop h
 case makeFunc f fs cs=>
  simp only[gY,aE,aB,aK,aD]at hc;obtain⟨lf,h1,lc,h2,rfl⟩:=hc;exact MC hs h1 h2 hop h
 case slice t x lo hi mx=>
  cases mx with
  |some m=>simp only[gY]at hc;cases hc
  |none=>
   simp only[gY]at hc;split at hc
   ·simp only[aE,aB,aK,aD]at hc
    rename_i hu;obtain⟨ax,h1,al,h2,ah,h3,rfl⟩:=hc;exact LW hs hu h1 h2 h3 hop h
   ·simp only[aE,aB,aK,aD]at hc
    rename_i e hu;obtain⟨sz,h0,ax,h1,al,h2,ah,h3,rfl⟩:=hc;exact TU hs hu h0 h1 h2 h3 hop h
   ·rename_i n e hu
    split at hc
    ·rename_i sz g hsz
     split at hc
     ·rename_i hn
      injection hc with hc;subst hc;exact aMM hs hu hsz hn hop h
     ·cases hc
    ·cases hc
   ·cases hc
end
end Go.AE
