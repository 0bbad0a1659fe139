import Derived.Test.YtgdlaibocecehaaGreatDoorRVd
import Derived.Laws.Strings
import Derived.Lib.AppendStr
import Derived.Laws.IdiomStrings
set_option linter.unusedVariables false
set_option linter.unusedSimpArgs false
namespace Go.CE
open _root_.Array renaming getElem?_eq_some_iff→bF,getElem?_extract→cQ,getElem?_toList→bC
open _root_.BitVec renaming ofInt→dW
open _root_.Bool renaming eq_iff_iff→dT
open _root_.ByteArray renaming toList_eq→gJ
open _root_.Int renaming ofNat→aF
open _root_.List renaming eq_nil_of_length_eq_zero→eU,getElem?_append_left→cZ,getElem?_append_right→eF,getElem?_drop→gS,getElem?_eq_getElem→aN,getElem?_eq_some_iff→aV,getElem?_map→dJ,length_map→gP,rec→eA
open _root_.Nat renaming add→fQ,add_mul→dG,beq→bE,ble→bS,blt→cU,eq_of_beq_eq_true→aH,le_of_ble_eq_true→aQ,lt_of_lt_of_le→cI,mul→gH,mul_le_mul_right→bP,succ→gB,zero_le→bH
open Op renaming bytesLess→eS,intArith→gA,stringOp→gU
open _root_.Option renaming bind_eq_bind→aE,bind_some→gT,pure_def→aK,some.injEq→aD
open _root_.UInt8 renaming toNat→eT
open Value renaming int→fM
open Go.RowKit
open Go.AE (All2)
inductive T (α:Type) where
 |e
 |n (v:α) (a b:T α)
noncomputable def get{α:Type}(d:α)(t:T α):Nat→α:=T.rec (motive:=fun _=>Nat→α) (fun _=>d)
 (fun v _ _ ga gb k=>Nat.rec (motive:=fun _=>α) v (fun m _=>Nat.rec (motive:=fun _=>α) (ga (Nat.div m 2)) (fun _ _=>gb (Nat.div m 2)) (Nat.mod m 2)) k) t
noncomputable def set{α:Type}(d x:α)(f:Nat):Nat→T α→T α:=Nat.rec (motive:=fun _=>Nat→T α→T α) (fun _ t=>t)
 (fun _ ih k t=>Nat.rec (motive:=fun _=>T α)
  (T.rec (motive:=fun _=>T α) (.n x .e .e) (fun _ a b _ _=>.n x a b) t)
  (fun m _=>T.rec (motive:=fun _=>T α)
   (Nat.rec (motive:=fun _=>T α) (.n d (ih (Nat.div m 2) .e) .e) (fun _ _=>.n d .e (ih (Nat.div m 2) .e)) (Nat.mod m 2))
   (fun v a b _ _=>Nat.rec (motive:=fun _=>T α) (.n v (ih (Nat.div m 2) a) b) (fun _ _=>.n v a (ih (Nat.div m 2) b)) (Nat.mod m 2)) t) k) f
theorem sZ{α:Type}(d:α)(k:Nat):get d .e k=d:=rfl
theorem rP{α:Type}(d v:α)(a b:T α):get d (.n v a b) 0=v:=rfl
theorem mQ{α:Type}(d v:α)(a b:T α)(m:Nat):get d (.n v a b) (m+1)=if m%2=0 then get d a (m / 2) else get d b (m / 2):=by
 show Nat.rec (motive:=fun _=>α) (get d a (Nat.div m 2)) (fun _ _=>get d b (Nat.div m 2)) (Nat.mod m 2)=_
 have e1:Nat.mod m 2=m%2:=rfl
 have e2:Nat.div m 2=m / 2:=rfl
 rw[e1,e2];cases h:m%2 with
 |zero=>rfl
 |succ n=>rw[if_neg (by omega)]
theorem TA{α:Type}(d x v:α)(f:Nat)(a b:T α):set d x (f+1) 0 (.n v a b)=.n x a b:=rfl
theorem TB{α:Type}(d x:α)(f:Nat):set d x (f+1) 0 .e=.n x .e .e:=rfl
theorem TC{α:Type}(d x v:α)(f m:Nat)(a b:T α):set d x (f+1) (m+1) (.n v a b)=if m%2=0 then .n v (set d x f (m / 2) a) b else .n v a (set d x f (m / 2) b):=by
 show Nat.rec (motive:=fun _=>T α) (.n v (set d x f (Nat.div m 2) a) b) (fun _ _=>.n v a (set d x f (Nat.div m 2) b)) (Nat.mod m 2)=_
 have e1:Nat.mod m 2=m%2:=rfl
 have e2:Nat.div m 2=m / 2:=rfl
 rw[e1,e2];cases h:m%2 with
 |zero=>rfl
 |succ n=>rw[if_neg (by omega)]
theorem TD{α:Type}(d x:α)(f m:Nat):set d x (f+1) (m+1) .e=if m%2=0 then .n d (set d x f (m / 2) .e) .e else .n d .e (set d x f (m / 2) .e):=by
 show Nat.rec (motive:=fun _=>T α) (.n d (set d x f (Nat.div m 2) .e) .e) (fun _ _=>.n d .e (set d x f (Nat.div m 2) .e)) (Nat.mod m 2)=_
 have e1:Nat.mod m 2=m%2:=rfl
 have e2:Nat.div m 2=m / 2:=rfl
 rw[e1,e2];cases h:m%2 with
 |zero=>rfl
 |succ n=>rw[if_neg (by omega)]
theorem qQ{α:Type}(d x:α):∀(f k j:Nat) (t:T α),k+1<2^f→get d (set d x f k t) j=if j=k then x else get d t j
 |0,k,j,t,h=>by simp at h
 |f+1,0,j,t,h=>by
  cases t with
  |e=>
   rw[TB];cases j with
   |zero=>rfl
   |succ j=>rw[mQ,if_neg (show ¬j+1=0 by omega),sZ,sZ];split<;>rfl
  |n v a b=>
   rw[TA];cases j with
   |zero=>rfl
   |succ j=>rw[mQ,mQ,if_neg (show ¬j+1=0 by omega)]
 |f+1,m+1,j,t,h=>by
  have hm:m / 2+1<2^f:=by rw[Nat.pow_succ]at h;omega
  cases t with
  |e=>
   rw[TD]
   by_cases hp:m%2=0
   ·rw[if_pos hp]
    cases j with
    |zero=>rw[rP,if_neg (by omega),sZ]
    |succ j=>
     rw[mQ]
     by_cases hq:j%2=0
     ·rw[if_pos hq,qQ d x f (m / 2) (j / 2) .e hm,sZ,sZ]
      by_cases e:j=m
      ·subst e;simp
      ·rw[if_neg (by omega),if_neg (by omega)]
     ·rw[if_neg hq,sZ,sZ,if_neg (by omega)]
   ·rw[if_neg hp]
    cases j with
    |zero=>rw[rP,if_neg (by omega),sZ]
    |succ j=>
     rw[mQ]
     by_cases hq:j%2=0
     ·rw[if_pos hq,sZ,sZ,if_neg (by omega)]
     ·rw[if_neg hq,qQ d x f (m / 2) (j / 2) .e hm,sZ,sZ]
      by_cases e:j=m
      ·subst e;simp
      ·rw[if_neg (by omega),if_neg (by omega)]
  |n v a b=>
   rw[TC]
   by_cases hp:m%2=0
   ·rw[if_pos hp]
    cases j with
    |zero=>rw[rP,if_neg (by omega),rP]
    |succ j=>
     rw[mQ,mQ]
     by_cases hq:j%2=0
     ·rw[if_pos hq,if_pos hq,qQ d x f (m / 2) (j / 2) a hm]
      by_cases e:j=m
      ·subst e;simp
      ·rw[if_neg (by omega),if_neg (by omega)]
     ·rw[if_neg hq,if_neg hq,if_neg (by omega)]
   ·rw[if_neg hp]
    cases j with
    |zero=>rw[rP,if_neg (by omega),rP]
    |succ j=>
     rw[mQ,mQ]
     by_cases hq:j%2=0
     ·rw[if_pos hq,if_pos hq,if_neg (by omega)]
     ·rw[if_neg hq,if_neg hq,qQ d x f (m / 2) (j / 2) b hm]
      by_cases e:j=m
      ·subst e;simp
      ·rw[if_neg (by omega),if_neg (by omega)]
inductive F where
 |b (x:Bool)
 |i (k:IntKind) (n:Int)
 |s (l:List Nat)
 |z (v:Value)
 |ptr (id off:Nat)
 |sl (x:Bool) (id sz off len:Nat)
 |mp (id:Nat)
 |yld (id:Nat)
inductive C where
 |f (x:F)
 |fn (g:Fn) (first cap:List F)
 |ifc (t:TypeId) (x:F)
 |top
inductive W where
 |c (x:C)
 |a (cs:List C)
inductive V where
 |c (x:C)
 |a (cs:List C)
 |t (vs:List W)
def W.up:W→V
 |.c x=>.c x
 |.a cs=>.a cs
structure Lp where
 st:LoopState
 pend:Option Code
 tm:T V
 m:Nat
 ps:List Nat
 assign:Code
 body:Code
 dr:Nat
inductive D where
 |col (id:Nat)
 |cal (f:FuncId) (vs:List V)
inductive O where
 |blk (x:Bool) (ty:TypeId) (vs:List C)
 |map (kd:IntKind) (es:List (Int×W))
 |rdb (ty:TypeId) (vs:List C)
 |glb (o:Obj) (vs:List C)
 |sit (l:List Nat) (pos:Nat)
 |dfr
 |loop (L:Lp)
 |gone
structure St where
 t:Nat→V
 h:Nat→O
 n:Nat
 m:Nat
 d:List D
abbrev Bt:=Nat→Option (Nat×Nat)
def Bt.nil:Bt:=fun _=>none
def FR(β:Bt):F→Value→Prop
 |.b x,v=>v=.bool x
 |.i k n,v=>v=.int k n
 |.s l,v=>∃x,v=.string x∧x.data.toList.map eT=l
 |.z u,v=>v=u
 |.ptr id off,v=>∃b N,β id=some (b,N)∧v=.pointer (some ⟨b,off,none⟩)
 |.sl x id sz off len,v=>∃A c,v=.slice A len c∧len≤c∧(x=true→c≤maxLen)∧(((A=none∨0<off)∧len=0∧c=0) ∨
    ∃b N,β id=some (b,N)∧A=some ⟨b,off*sz,none⟩∧(off+c)*sz≤N∧(x=true→(off+c)*sz=N))
 |.mp id,v=>∃b N,β id=some (b,N)∧v=.map (some b)
 |.yld id,v=>∃b N,β id=some (b,N)∧v=.func (.yield b) #[] #[]
def CR(β:Bt):C→Value→Prop
 |.f x,v=>FR β x v
 |.fn g fs cs,v=>∃us vs,v=.func g us vs∧All2 (FR β) fs us.toList∧All2 (FR β) cs vs.toList
 |.ifc t x,v=>∃u,v=.iface t u∧FR β x u
 |.top,_=>True
def WR(β:Bt):W→Value→Prop
 |.c x,v=>CR β x v
 |.a cs,v=>∃us,v=.agg us∧All2 (CR β) cs us.toList
def VR(β:Bt):V→Value→Prop
 |.c x,v=>CR β x v
 |.a cs,v=>∃us,v=.agg us∧All2 (CR β) cs us.toList
 |.t vs,v=>∃us,v=.tuple us∧All2 (WR β) vs us.toList
def OR(β:Bt)(w:World):O→Nat→Nat→Prop
 |.blk x ty vs,b,N=>∃cs,w.heap[b]?=some (.cells cs ty (0,0))∧cs.size=N∧(vs.length≤N∧(x=true→vs.length=N))∧∀(k:Nat) c,vs[k]?=some c→∃u,cs[k]?=some u∧CR β c u
 |.map kd es,b,_=>∃es' clock,w.heap[b]?=some (.map es' clock)∧All2 (fun(p:Int×W) (e:MapEntry)=>e.key=.int kd p.1∧WR β p.2 e.val) es es'.toList
 |.rdb ty vs,b,N=>∃cs fz,w.heap[b]?=some (.cells cs ty fz)∧cs.size=N∧vs.length≤N∧∀(k:Nat) c,vs[k]?=some c→∃u,cs[k]?=some u∧CR β c u
 |.glb o vs,b,N=>∃cs ty fz,w.heap[b]?=some o∧o=.cells cs ty fz∧cs.size=N∧vs.length≤N∧∀(k:Nat) c,vs[k]?=some c→∃u,cs[k]?=some u∧CR β c u
 |.sit l pos,b,_=>∃s,w.heap[b]?=some (.stringIter s pos)∧s.data.toList.map eT=l
 |.dfr,b,_=>w.heap[b]?=some (.deferred (some []))
 |.loop L,b,_=>∃r,w.heap[b]?=some (.loop r)∧r.state=L.st∧r.pending=L.pend∧r.tmps.size=L.m∧(∀k,VR β (get (.t []) L.tm k) (r.tmps.getD k undef))∧r.params.toList=L.ps∧r.assign=L.assign∧r.body=L.body∧∃N,β L.dr=some (r.defers,N)
 |.gone,_,_=>True
def DR(β:Bt):D→Deferred→Prop
 |.col id,d=>∃b N,β id=some (b,N)∧d.target=.collected b
 |.cal f vs,d=>∃cap,d.target=.fn (.func f) cap∧All2 (VR β) vs (d.args++cap).toList
def O.live:O→Bool
 |.gone=>false
 |_=>true
structure HS (β:Bt) (w:World) (h:Nat→O):Prop where
 inj:∀i j b o o',β i=some (b,o)→β j=some (b,o')→(h i).live=true→(h j).live=true→i=j
 lt:∀i b o,β i=some (b,o)→b<w.heap.size
 obj:∀i b o,β i=some (b,o)→OR β w (h i) b o
structure Gr (β:Bt) (w:World) (β':Bt) (w':World):Prop where
 os:w'.os=w.os
 tape:w'.tape=w.tape
 output:w'.output=w.output
 size:w.heap.size≤w'.heap.size
 fr:∀b,b<w.heap.size→(∀i o,β i≠some (b,o))→w'.heap[b]?=w.heap[b]?
 ex:∀i b o,β' i=some (b,o)→(∃j o',β j=some (b,o'))∨w.heap.size≤b
 bm:∀i x,β i=some x→β' i=some x
structure eC (β:Bt) (st:St) (a:Act) (w:World):Prop where
 df:All2 (DR β) st.d a.defers
 sz:a.tmps.size=st.m
 tm:∀k,VR β (st.t k) (a.tmps.getD k undef)
 hs:HS β w st.h
 fr:∀i,st.n≤i→β i=none
 gl:∃N,β 0=some (0,N)
section
variable {β β' β'':Bt} {w w' w'':World}
theorem Gr.refl(β:Bt)(w:World):Gr β w β w:=⟨rfl,rfl,rfl,Nat.le_refl _,fun _ _ _=>rfl,fun i b o h=>.inl ⟨i,o,h⟩,fun _ _ h=>h⟩
theorem Gr.trans(h:Gr β w β' w')(k:Gr β' w' β'' w''):Gr β w β'' w'' where
 os:=k.os.trans h.os
 tape:=k.tape.trans h.tape
 output:=k.output.trans h.output
 size:=Nat.le_trans h.size k.size
 fr:=fun b hb hn=>(k.fr b (cI hb h.size) fun i o hi=>by
  rcases h.ex i b o hi with⟨j,o',hj⟩|h'
  ·exact hn j o' hj
  ·omega).trans (h.fr b hb hn)
 ex:=fun i b o hi=>by
  rcases k.ex i b o hi with⟨j,o',hj⟩|h'
  ·exact h.ex j b o' hj
  ·exact .inr (Nat.le_trans h.size h')
 bm:=fun i x hi=>k.bm i x (h.bm i x hi)
abbrev Mo(β β':Bt):Prop:=∀i x,β i=some x→β' i=some x
theorem FR.keep(k:Mo β β'){x:F}{v:Value}(h:FR β x v):FR β' x v:=by
 cases x with
 |ptr id off=>obtain⟨b,o,h1,h2⟩:=h;exact⟨b,o,k _ _ h1,h2⟩
 |sl x id sz off len=>
  obtain⟨A,c,h1,h2,h3,h4⟩:=h;refine⟨A,c,h1,h2,h3,?_⟩
  rcases h4 with h4|⟨b,N,h5,h6,h7⟩
  ·exact .inl h4
  ·exact .inr ⟨b,N,k _ _ h5,h6,h7⟩
 |mp id=>obtain⟨b,N,h1,h2⟩:=h;exact⟨b,N,k _ _ h1,h2⟩
 |yld id=>obtain⟨b,N,h1,h2⟩:=h;exact⟨b,N,k _ _ h1,h2⟩
 |_=>exact h
theorem CR.keep(k:Mo β β'){x:C}{v:Value}(h:CR β x v):CR β' x v:=by
 cases x with
 |f x=>exact FR.keep k h
 |fn g fs cs=>
  obtain⟨us,vs,h1,h2,h3⟩:=h;exact⟨us,vs,h1,h2.mono fun _ _=>FR.keep k,h3.mono fun _ _=>FR.keep k⟩
 |ifc t x=>obtain⟨u,h1,h2⟩:=h;exact⟨u,h1,FR.keep k h2⟩
 |top=>trivial
theorem WR.keep(k:Mo β β'){x:W}{v:Value}(h:WR β x v):WR β' x v:=by
 cases x with
 |c x=>exact CR.keep k h
 |a cs=>obtain⟨us,h1,h2⟩:=h;exact⟨us,h1,h2.mono fun _ _=>CR.keep k⟩
theorem VR.keep(k:Mo β β'){x:V}{v:Value}(h:VR β x v):VR β' x v:=by
 cases x with
 |c x=>exact CR.keep k h
 |a cs=>obtain⟨us,h1,h2⟩:=h;exact⟨us,h1,h2.mono fun _ _=>CR.keep k⟩
 |t vs=>obtain⟨us,h1,h2⟩:=h;exact⟨us,h1,h2.mono fun _ _=>WR.keep k⟩
theorem WR.up{x:W}{v:Value}(h:WR β x v):VR β x.up v:=by cases x<;>exact h
theorem OR.keep(k:Mo β β'){x:O}{b N:Nat}(hb:w'.heap[b]?=w.heap[b]?)(h:OR β w x b N):OR β' w' x b N:=by
 cases x with
 |blk x0 ty vs=>
  obtain⟨cs,h1,h2,h3,h4⟩:=h;refine⟨cs,hb.trans h1,h2,h3,fun j c hc=>?_⟩;obtain⟨u,h5,h6⟩:=h4 j c hc;exact⟨u,h5,CR.keep k h6⟩
 |map kd es=>
  obtain⟨es',cl,h1,h3⟩:=h;exact⟨es',cl,hb.trans h1,h3.mono fun _ _ q=>⟨q.1,WR.keep k q.2⟩⟩
 |rdb ty vs=>
  obtain⟨cs,fz,h1,h2,h3,h4⟩:=h;refine⟨cs,fz,hb.trans h1,h2,h3,fun j c hc=>?_⟩;obtain⟨u,h5,h6⟩:=h4 j c hc;exact⟨u,h5,CR.keep k h6⟩
 |glb o vs=>
  obtain⟨cs,ty,fz,h1,h0,h2,h3,h4⟩:=h;refine⟨cs,ty,fz,hb.trans h1,h0,h2,h3,fun j c hc=>?_⟩;obtain⟨u,h5,h6⟩:=h4 j c hc;exact⟨u,h5,CR.keep k h6⟩
 |sit l pos=>obtain⟨s,h1,h2⟩:=h;exact⟨s,hb.trans h1,h2⟩
 |dfr=>exact hb.trans h
 |loop L=>
  obtain⟨r,h1,h2,h3,h4,h5,h6,h7,h8,N,h9⟩:=h;exact⟨r,hb.trans h1,h2,h3,h4,fun j=>VR.keep k (h5 j),h6,h7,h8,N,k _ _ h9⟩
 |gone=>trivial
theorem DR.keep(k:Mo β β'){x:D}{d:Deferred}(h:DR β x d):DR β' x d:=by
 cases x with
 |col id=>obtain⟨b,N,h1,h2⟩:=h;exact⟨b,N,k _ _ h1,h2⟩
 |cal f vs=>obtain⟨cap,h1,h2⟩:=h;exact⟨cap,h1,h2.mono fun _ _=>VR.keep k⟩
def fu{α:Type}(f:Nat→α)(i:Nat)(x:α):Nat→α:=fun j=>if j=i then x else f j
theorem eV{α:Type}(f:Nat→α)(i:Nat)(x:α):fu f i x i=x:=by simp[fu]
theorem cT{α:Type}{f:Nat→α}{i j:Nat}(x:α)(h:j≠i):fu f i x j=f j:=by simp[fu,h]
theorem sX{i:Nat}{x:Nat×Nat}(hi:β i=none):Mo β (fu β i (some x)):=fun j y hj=>by
 rw[cT];exact hj;intro e;subst e;rw[hi]at hj;cases hj
theorem aOC{h:Nat→O}(hh:HS β w h){id:Nat}(hid:β id=none){x:O}{N:Nat}(hos:w'.os=w.os)(htp:w'.tape=w.tape)(hou:w'.output=w.output)(hsz:w'.heap.size=w.heap.size+1)(hold:∀b,b<w.heap.size→w'.heap[b]?=w.heap[b]?)(hx:OR (fu β id (some (w.heap.size,N))) w' x w.heap.size N) :
  HS (fu β id (some (w.heap.size,N))) w' (fu h id x)∧Gr β w (fu β id (some (w.heap.size,N))) w':=by
 refine⟨⟨?_,?_,?_⟩,⟨hos,htp,hou,by omega,fun b hb _=>hold b hb,?_,sX hid⟩⟩
 ·intro i j b o1 o2 hi hj li lj
  by_cases ei:i=id
  ·by_cases ej:j=id
   ·omega
   ·subst ei;rw[eV]at hi;rw[cT _ ej]at hj
    have:=hh.lt j b o2 hj;simp at hi;omega
  ·rw[cT _ ei]at hi li
   by_cases ej:j=id
   ·subst ej;rw[eV]at hj
    have:=hh.lt i b o1 hi;simp at hj;omega
   ·rw[cT _ ej]at hj lj
    exact hh.inj i j b o1 o2 hi hj li lj
 ·intro i b o1 hi
  by_cases ei:i=id
  ·subst ei;rw[eV]at hi;simp at hi;omega
  ·rw[cT _ ei]at hi;have:=hh.lt i b o1 hi;omega
 ·intro i b o1 hi
  by_cases ei:i=id
  ·subst ei;rw[eV]at hi;simp at hi
   obtain⟨rfl,rfl⟩:=hi;rw[eV];exact hx
  ·rw[cT _ ei]at hi ⊢
   exact OR.keep (sX hid) (hold b (hh.lt i b o1 hi)) (hh.obj i b o1 hi)
 ·intro i b o1 hi
  by_cases ei:i=id
  ·subst ei;rw[eV]at hi;simp at hi;right;omega
  ·rw[cT _ ei]at hi;exact .inl ⟨i,o1,hi⟩
theorem kT{h:Nat→O}(hh:HS β w h){id:Nat}(hid:β id=none){x:O}{o:Obj}{N:Nat}(hx:∀w',w'.heap[w.heap.size]?=some o→OR (fu β id (some (w.heap.size,N))) w' x w.heap.size N) :
  HS (fu β id (some (w.heap.size,N))) (w.alloc o) (fu h id x)∧Gr β w (fu β id (some (w.heap.size,N))) (w.alloc o):=by
 have hnew:(w.alloc o).heap[w.heap.size]?=some o:=heap_alloc_new w o
 have hold:∀b,b<w.heap.size→(w.alloc o).heap[b]?=w.heap[b]?:=fun b hb=>AE.heap_push_lt w o hb
 refine⟨⟨?_,?_,?_⟩,⟨rfl,rfl,rfl,by simp,fun b hb _=>hold b hb,?_,sX hid⟩⟩
 ·intro i j b o1 o2 hi hj li lj
  by_cases ei:i=id
  ·by_cases ej:j=id
   ·omega
   ·subst ei;rw[eV]at hi;rw[cT _ ej]at hj
    have:=hh.lt j b o2 hj;simp at hi;omega
  ·rw[cT _ ei]at hi li
   by_cases ej:j=id
   ·subst ej;rw[eV]at hj
    have:=hh.lt i b o1 hi;simp at hj;omega
   ·rw[cT _ ej]at hj lj
    exact hh.inj i j b o1 o2 hi hj li lj
 ·intro i b o1 hi
  by_cases ei:i=id
  ·subst ei;rw[eV]at hi;simp at hi;simp;omega
  ·rw[cT _ ei]at hi;have:=hh.lt i b o1 hi;simp;omega
 ·intro i b o1 hi
  by_cases ei:i=id
  ·subst ei;rw[eV]at hi;simp at hi
   obtain⟨rfl,rfl⟩:=hi;rw[eV];exact hx _ hnew
  ·rw[cT _ ei]at hi ⊢
   exact OR.keep (sX hid) (hold b (hh.lt i b o1 hi)) (hh.obj i b o1 hi)
 ·intro i b o1 hi
  by_cases ei:i=id
  ·subst ei;rw[eV]at hi;simp at hi;right;omega
  ·rw[cT _ ei]at hi;exact .inl ⟨i,o1,hi⟩
theorem pP{h:Nat→O}(hh:HS β w h){id b N:Nat}(hid:β id=some (b,N))(hl:(h id).live=true){x:O}(hos:w'.os=w.os)(htp:w'.tape=w.tape)(hou:w'.output=w.output)
  (hsz:w'.heap.size=w.heap.size) (hw:∀j,j≠b→w'.heap[j]?=w.heap[j]?) (hx:OR β w' x b N):HS β w' (fu h id x)∧Gr β w β w':=by
 refine⟨⟨?_,?_,?_⟩,⟨hos,htp,hou,by omega,fun j _ hn=>hw j fun e=>hn id N (e▸hid),fun i b o hi=>.inl ⟨i,o,hi⟩,fun _ _ hi=>hi⟩⟩
 ·intro i j b1 o1 o2 hi hj li lj
  have li':(h i).live=true:=by
   by_cases e:i=id
   ·subst e;exact hl
   ·rw[cT _ e]at li;exact li
  have lj':(h j).live=true:=by
   by_cases e:j=id
   ·subst e;exact hl
   ·rw[cT _ e]at lj;exact lj
  exact hh.inj i j b1 o1 o2 hi hj li' lj'
 ·intro i b1 o1 hi;rw[hsz];exact hh.lt i b1 o1 hi
 ·intro i b1 o1 hi
  by_cases e:i=id
  ·subst e
   rw[eV];rw[hid]at hi;injection hi with hi;injection hi with h1 h2;subst h1;subst h2;exact hx
  ·rw[cT _ e]
   by_cases eb:b1=b
   ·subst eb
    cases hn:(h i).live with
    |false=>cases hq:h i<;>rw[hq]at hn<;>first|exact trivial|cases hn
    |true=>exact absurd (hh.inj i id b1 o1 N hi hid hn hl) e
   ·exact OR.keep (fun _ _ q=>q) (hw b1 eb) (hh.obj i b1 o1 hi)
theorem aJD{h:Nat→O}(hh:HS β w h)(id:Nat):HS β w (fu h id .gone):=by
 refine⟨?_,hh.lt,?_⟩
 ·intro i j b1 o1 o2 hi hj li lj
  have li':(h i).live=true:=by
   by_cases e:i=id
   ·subst e;rw[eV]at li;cases li
   ·rw[cT _ e]at li;exact li
  have lj':(h j).live=true:=by
   by_cases e:j=id
   ·subst e;rw[eV]at lj;cases lj
   ·rw[cT _ e]at lj;exact lj
  exact hh.inj i j b1 o1 o2 hi hj li' lj'
 ·intro i b1 o1 hi
  by_cases e:i=id
  ·subst e;rw[eV];exact trivial
  ·rw[cT _ e];exact hh.obj i b1 o1 hi
end
open Go.AE (All2 dK iC rA gI iA iB kN WZ nR vK lG tR gZ)
noncomputable def bN{α:Type}(d:α)(l:List α):Nat→α:=eA (motive:=fun _=>Nat→α) (fun _=>d) (fun x _ ih k=>Nat.rec (motive:=fun _=>α) x (fun n _=>ih n) k) l
noncomputable def dp{α:Type}(k:Nat):List α→List α:=Nat.rec (motive:=fun _=>List α→List α) (fun l=>l) (fun _ ih l=>eA (motive:=fun _=>List α) [] (fun _ r _=>ih r) l) k
noncomputable def tk{α:Type}(k:Nat):List α→List α:=Nat.rec (motive:=fun _=>List α→List α) (fun _=>[]) (fun _ ih l=>eA (motive:=fun _=>List α) [] (fun x r _=>x::ih r) l) k
noncomputable def ap{α:Type}(l r:List α):List α:=eA (motive:=fun _=>List α) r (fun x _ ih=>x::ih) l
noncomputable def len{α:Type}(l:List α):Nat:=eA (motive:=fun _=>Nat) 0 (fun _ _ ih=>gB ih) l
noncomputable def all{α:Type}(f:α→Bool)(l:List α):Bool:=eA (motive:=fun _=>Bool) true (fun x _ ih=>match f x with|true=>ih|false=>false) l
noncomputable def mp{α γ:Type}(f:α→γ)(l:List α):List γ:=eA (motive:=fun _=>List γ) [] (fun x _ ih=>f x::ih) l
theorem aE2{α:Type}{d x:α}{l:List α}{k:Nat}:bN d (x::l) (k+1)=bN d l k:=rfl
theorem eK{α:Type}(d:α):∀(l:List α) (k:Nat),bN d l k=l.getD k d
 |[],_=>rfl
 |_::_,0=>rfl
 |_::r,n+1=>by rw[aE2,eK d r n];simp
theorem FB{α:Type}{d x:α}{l:List α}{k:Nat}(h:l[k]?=some x):bN d l k=x:=by
 rw[eK];simp[h]
theorem aJR{α:Type}{k:Nat}{x:α}{l:List α}:dp (k+1) (x::l)=dp k l:=rfl
theorem GP{α:Type}:∀(k:Nat) (l:List α),dp k l=l.drop k
 |0,l=>rfl
 |k+1,[]=>rfl
 |k+1,x::l=>by rw[aJR,GP k l];simp
theorem aGY{α:Type}{k:Nat}{x:α}{l:List α}:tk (k+1) (x::l)=x::tk k l:=rfl
theorem AK{α:Type}:∀(k:Nat) (l:List α),tk k l=l.take k
 |0,l=>rfl
 |k+1,[]=>rfl
 |k+1,x::l=>by rw[aGY,AK k l];simp
theorem aK1{α:Type}{x:α}{l r:List α}:ap (x::l) r=x::ap l r:=rfl
theorem jQ{α:Type}:∀l r:List α,ap l r=l++r
 |[],r=>rfl
 |x::l,r=>by rw[aK1,jQ l r];rfl
theorem aEQ{α:Type}{x:α}{l:List α}:len (x::l)=gB (len l):=rfl
theorem gF{α:Type}:∀l:List α,len l=l.length
 |[]=>rfl
 |x::l=>by rw[aEQ,gF l];rfl
theorem aGF{α:Type}{f:α→Bool}{x:α}{l:List α}:all f (x::l)=(match f x with|true=>all f l|false=>false):=rfl
theorem gN{α:Type}{f:α→Bool}:∀ {l:List α},all f l=true→∀x∈l,f x=true
 |[],_,x,hx=>by cases hx
 |y::l,h,x,hx=>by
  rw[aGF]at h;split at h
  ·rename_i hf
   rcases List.mem_cons.1 hx with rfl|hx
   ·exact hf
   ·exact gN h x hx
  ·cases h
theorem aIS{α γ:Type}{f:α→γ}{x:α}{l:List α}:mp f (x::l)=f x::mp f l:=rfl
theorem QK{α γ:Type}(f:α→γ):∀l:List α,mp f l=l.map f
 |[]=>rfl
 |x::l=>by rw[aIS,QK f l];rfl
def frN{α:Type}(m:Nat)(k:Nat→α):α:=match m with
 |0=>k 0
 |gB n=>k (gB n)
theorem aFH{α:Type}(m:Nat)(k:Nat→α):frN m k=k m:=by cases m<;>rfl
def YZ{α:Type}(m:Int)(k:Int→α):α:=match m with
 |.ofNat n=>frN n fun n=>k (.ofNat n)
 |.negSucc n=>frN n fun n=>k (.negSucc n)
theorem wR{α:Type}(m:Int)(k:Int→α):YZ m k=k m:=by cases m<;>simp only[YZ,aFH]
def aPE(a b:Int):Int:=match a,b with
 |.ofNat m,.ofNat n=>.ofNat (fQ m n)
 |a,b=>a+b
theorem aGQ(a b:Int):aPE a b=a+b:=by cases a<;>cases b<;>rfl
def aPC(a b:Int):Int:=match a,b with
 |.ofNat m,.ofNat n=>match bS n m with
  |true=>.ofNat (Nat.sub m n)
  |false=>.ofNat m-.ofNat n
 |a,b=>a-b
theorem aGO(a b:Int):aPC a b=a-b:=by
 cases a with
 |negSucc m=>rfl
 |ofNat m=>
  cases b with
  |negSucc n=>rfl
  |ofNat n=>
   show (match bS n m with|true=>aF (Nat.sub m n)|false=>aF m-aF n)=_
   cases h:bS n m with
   |false=>rfl
   |true=>
    have h:=aQ h
    show aF (m-n)=aF m-aF n
    simp only[Int.ofNat_eq_natCast];omega
def aPD(a b:Int):Int:=match a,b with
 |.ofNat m,.ofNat n=>.ofNat (gH m n)
 |a,b=>a*b
theorem aGP(a b:Int):aPD a b=a*b:=by cases a<;>cases b<;>rfl
def uI(a b:Int):Bool:=match a,b with
 |.ofNat m,.ofNat n=>bS m n
 |.negSucc m,.negSucc n=>bS n m
 |.negSucc _,.ofNat _=>true
 |.ofNat _,.negSucc _=>false
theorem fL{a b:Int}:uI a b=true↔a≤b:=by
 cases a<;>cases b<;>simp only[uI,Nat.ble_eq,Int.ofNat_eq_natCast,Int.negSucc_eq]<;>first|omega|(simp;omega)|skip
def OM(a b:Int):Bool:=match uI b a with|true=>false|false=>true
theorem kX{a b:Int}:OM a b=true↔a<b:=by
 unfold OM;cases h:uI b a with
 |true=>have:=fL.1 h;simp;omega
 |false=>
  have:¬b≤a:=fun q=>by rw[fL.2 q]at h;cases h
  simp;omega
def ZS(a b:Int):Bool:=match a,b with
 |.ofNat m,.ofNat n=>bE m n
 |.negSucc m,.negSucc n=>bE m n
 |_,_=>false
theorem rT{a b:Int}:ZS a b=true↔a=b:=by
 cases a<;>cases b<;>simp[ZS,Nat.beq_eq]<;>omega
def eB(a b:Bool):Bool:=match a with|true=>b|false=>false
theorem bR{a b:Bool}:eB a b=true↔a=true∧b=true:=by cases a<;>simp[eB]
def sO(a:Bool):Bool:=match a with|true=>false|false=>true
theorem nZ(a:Bool):sO a = !a:=by cases a<;>rfl
def ID(k:IntKind)(n:Int):Bool:=match k,n with
 |.i64,.ofNat m=>bS m 9223372036854775807
 |.i64,.negSucc m=>bS m 9223372036854775807
 |.u64,.ofNat m=>bS m 18446744073709551615
 |.i32,.ofNat m=>bS m 2147483647
 |.i32,.negSucc m=>bS m 2147483647
 |.u8,.ofNat m=>bS m 255
 |_,_=>false
theorem rN{k:IntKind}{n:Int}(h:ID k n=true):AE.inR k n:=by
 cases k<;>cases n<;>simp only[ID,Nat.ble_eq,Bool.false_eq_true]at h<;>simp only[AE.inR,Int.ofNat_eq_natCast,Int.negSucc_eq]<;>omega
inductive X where
 |t (k:Nat)
 |k (v:V)
inductive PK where
 |b
 |s
 |i
inductive CF where
 |mv (x:X)
 |pick (c a b:X)
 |alloc (ty:TypeId) (z:List C)
 |box (ty:TypeId) (x:X)
 |build (z:List C) (ps:List (Nat×Nat×X))
 |bsl (ty:TypeId) (sz n:Nat) (z:List C) (ps:List (Nat×Nat×X))
 |load (n:Option Nat) (x:X)
 |store (n:Nat) (a v:X)
 |bin (op:BinOp) (x y:X)
 |binw (op:BinOp) (k:IntKind) (x y:X)
 |binb (op:BinOp) (x y:X)
 |eqs (neg:Bool) (fs:List (Nat×PK)) (x y:X)
 |not (x:X)
 |neg (x:X)
 |faddr (off:Nat) (x:X)
 |fadI (sz n:Nat) (x i:X)
 |fld (off:Nat) (n:Option Nat) (x:X)
 |idxA (sz:Nat) (x i:X)
 |idxS (x i:X)
 |extr (x:X) (i:Nat)
 |call (f:FuncId) (args:List X)
 |callv (x:X) (args:List X)
 |inv (x:X) (m:String) (args:List X)
 |lenA (x:X)
 |lenS (x:X)
 |min (x y:X)
 |max (x y:X)
 |app (ty:TypeId) (sz bytes:Nat) (z:List C) (x y:X)
 |appS (ty:TypeId) (x y:X)
 |mksl (ty:TypeId) (sz bytes:Nat) (z:List C) (x y:X)
 |slc (sz:Nat) (x:X) (lo hi:Option X)
 |slcS (x:X) (lo hi:Option X)
 |slc3 (sz:Nat) (x:X) (lo:Option X) (hi mx:X)
 |rng (x:X)
 |nxt (x:X)
 |idxV (sz len:Nat) (n:Option Nat) (x i:X)
 |slcP (sz n:Nat) (x:X) (lo hi:Option X)
 |mkfn (f:Fn) (fs cs:List X)
 |nilc (x:X)
 |eqp (neg:Bool) (x y:X)
 |nils (neg:Bool) (x:X)
 |nilm (neg:Bool) (x:X)
 |conv (k:IntKind) (x:X)
 |negw (k:IntKind) (x:X)
 |carry (sub:Bool) (x y c:X)
 |capn (x:X)
 |mkif (t:TypeId) (x:X)
 |tass (t:TypeId) (z:W) (two:Bool) (x:X)
 |mkmap (kd:IntKind)
 |look (kd:IntKind) (z:W) (two:Bool) (x k:X)
 |mset (kd:IntKind) (x k v:X)
 |s2b (e:TypeId) (x:X)
 |b2s (x:X)
 |copy (sz:Nat) (x y:X)
 |clr (sz:Nat) (z:List C) (x:X)
 |dead
def toF:Value→F
 |.bool x=>.b x
 |.int k n=>.i k n
 |.string s=>.s (s.data.toList.map eT)
 |v=>.z v
def toV:Value→V
 |.agg cs=>.a (cs.toList.map fun v=>.f (toF v))
 |.tuple _=>.c .top
 |v=>.c (.f (toF v))
def cX:Operand→Option X
 |.tmp t=>some (.t t)
 |.const v=>some (.k (toV v))
 |.func f=>some (.k (.c (.fn (.func f) [] [])))
 |.global g=>match bE g 0 with
  |true=>some (.k (.c (.f (.ptr 0 0))))
  |false=>none
def yN:List Operand→Option (List X)
 |[]=>some []
 |x::r=>do pure ((←cX x)::(←yN r))
def iE(P:Program)(t:TypeId):Option (List C):=((P.info? t).bind (·.zero)).map fun v=>v.cells.toList.map fun v=>.f (toF v)
def jI(place:Nat→Option (Nat×Nat)):List (Nat×Operand)→Option (List (Nat×Nat×X))
 |[]=>some []
 |(i,x)::r=>do
  let (o,s) ←place i
  pure ((o,s,←cX x)::(←jI place r))
def mA:Option Operand→Option (Option X)
 |none=>some none
 |some x=>(cX x).map some
def WM(P:Program)(t:TypeId):Bool:=match P.info? t with
 |some i=>match i.zero with
  |some (.int .u8 (.ofNat 0))=>eB (bE i.size 1) (bE i.bytes 1)
  |_=>false
 |none=>false
def DM(P:Program)(t:TypeId):Option PK:=match P.underlying t with
 |some (.int _)=>some .i
 |some .string=>some .s
 |some .bool=>some .b
 |_=>none
def AA(P:Program):List Field→Option (List (Nat×PK))
 |[]=>some []
 |f::r=>match f.name != "_" with
  |true=>do pure ((f.offset,←DM P f.type)::(←AA P r))
  |false=>none
def HA(pk:PK):Nat→Nat→List (Nat×PK)
 |_,0=>[]
 |i,n+1=>(i,pk)::HA pk (i+1) n
open Go.AE (All2 dK iC rA gI iA iB kN WZ nR vK lG tR gZ)
def IP(P:Program)(t:TypeId):Option W:=((P.info? t).bind (·.zero)).bind fun v=>match v with
 |.agg cs=>some (.a (cs.toList.map fun v=>.f (toF v)))
 |.tuple _=>none
 |v=>some (.c (.f (toF v)))
def UL(P:Program)(t:TypeId):Option (IntKind×TypeId):=match P.underlying t with
 |some (.map k e)=>match P.underlying k with
  |some (.int kd)=>some (kd,e)
  |_=>none
 |_=>none
def gY(P:Program):Op→Option CF
 |.move x|.assign x=>(cX x).map .mv
 |.pick c a b=>do pure (.pick (←cX c) (←cX a) (←cX b))
 |.alloc t=>(iE P t).map (.alloc t)
 |.box t x=>(cX x).map (.box t)
 |.build t ps=>do
  match P.underlying t with
  |some (.struct fs)=>do
   let places ←fs.toList.mapM (fun f=>(P.info? f.type).map fun i=>(f.offset,i.size))
   pure (.build (←iE P t) (←jI (fun i=>places[i]?) ps.toList))
  |some (.array _ e)=>do
   let s ←dK P e
   pure (.build (←iE P t) (←jI (fun i=>some (i*s,s)) ps.toList))
  |_=>none
 |.buildSlice t len ps=>do
  let e ←iB P t
  let s ←dK P e
  pure (.bsl e s len (←iE P e) (←jI (fun i=>some (i*s,s)) ps.toList))
 |.load t x=>do pure (.load (←gI P t) (←cX x))
 |.store t a v=>do pure (.store (←dK P t) (←cX a) (←cX v))
 |.binOp op t x y _=>match P.underlying t with
  |some (.int k)=>match WZ op k with
   |true=>do pure (.binw op k (←cX x) (←cX y))
   |false=>do pure (.bin op (←cX x) (←cX y))
  |some .string=>do pure (.bin op (←cX x) (←cX y))
  |some .bool=>do pure (.binb op (←cX x) (←cX y))
  |some (.struct fs)=>match P.stoodInHeld t||P.eqGuardType P.depth t,kN op with
   |false,some neg=>do pure (.eqs neg (←AA P fs.toList) (←cX x) (←cX y))
   |_,_=>none
  |some (.array n e)=>match P.eqGuardType P.depth t,kN op,tR P e with
   |false,some neg,true=>do pure (.eqs neg (HA (←DM P e) 0 n) (←cX x) (←cX y))
   |_,_,_=>none
  |some (.pointer _)=>match kN op with
   |some neg=>do pure (.eqp neg (←cX x) (←cX y))
   |none=>none
  |some (.slice _)=>match kN op,y with
   |some neg,.const (.slice none 0 0)=>(cX x).map fun a=>.nils neg a
   |_,_=>none
  |some (.map _ _)=>match kN op,y with
   |some neg,.const (.map none)=>(cX x).map fun a=>.nilm neg a
   |_,_=>none
  |_=>none
 |.unOp .not _ x=>(cX x).map .not
 |.unOp .neg t x=>match P.underlying t with
  |some (.int .u64)=>(cX x).map fun a=>.negw .u64 a
  |_=>(cX x).map .neg
 |.fieldAddr t x k=>do
  let f ←(←iA P t)[k]?
  match ←dK P f.type with
  |0=>none
  |_=>pure (.faddr f.offset (←cX x))
 |.field t x k=>do
  let f ←(←iA P t)[k]?
  pure (.fld f.offset (←gI P f.type) (←cX x))
 |.indexAddr t x i=>match vK P t with
  |some (n,e)=>match lG n i with
   |some k=>do
    let s ←dK P e
    pure (.faddr (k*s) (←cX x))
   |none=>do pure (.fadI (←dK P e) n (←cX x) (←cX i))
  |none=>do
   let e ←iB P t
   pure (.idxA (←dK P e) (←cX x) (←cX i))
 |.index t x i=>match P.underlying t with
  |some .string=>do pure (.idxS (←cX x) (←cX i))
  |some (.array n e)=>do pure (.idxV (←dK P e) n (←gI P e) (←cX x) (←cX i))
  |_=>none
 |.extract x i=>do pure (.extr (←cX x) i)
 |.call c=>match c.callee with
  |.value (.func f)=>match P.funcs[f]? with
   |some fn=>if fn.body.isSome&&fn.name != "runtime.NumGoroutine" then (yN c.args.toList).map (.call f) else
    match nR fn,c.args.toList with
    |some sub,[x,y,z]=>do pure (.carry sub (←cX x) (←cX y) (←cX z))
    |_,_=>none
   |none=>none
  |.value x=>do pure (.callv (←cX x) (←yN c.args.toList))
  |.invoke x m=>do pure (.inv (←cX x) m (←yN c.args.toList))
  |.builtin .len=>match c.args.toList,c.argTypes.toList with
   |[x],[t]=>match P.underlying t with
    |some (.slice _)=>(cX x).map .lenA
    |some .string=>(cX x).map .lenS
    |_=>none
   |_,_=>none
  |.builtin .min=>match c.args.toList with
   |[x,y]=>do pure (.min (←cX x) (←cX y))
   |_=>none
  |.builtin .max=>match c.args.toList with
   |[x,y]=>do pure (.max (←cX x) (←cX y))
   |_=>none
  |.builtin .append=>match c.args.toList,c.argTypes.toList with
   |[x,y],[t,u]=>match P.underlying u with
    |some (.slice _)=>match bE t u with
     |true=>do
      let e ←iB P t
      pure (.app e (←dK P e) (←iC P e) (←iE P e) (←cX x) (←cX y))
     |false=>none
    |some .string=>do
     let e ←iB P t
     match WM P e with
     |true=>pure (.appS e (←cX x) (←cX y))
     |false=>none
    |_=>none
   |_,_=>none
  |.builtin .cap=>match c.args.toList,c.argTypes.toList with
   |[x],[t]=>match P.underlying t with
    |some (.slice _)=>(cX x).map fun a=>.capn a
    |_=>none
   |_,_=>none
  |.builtin .copy=>match c.args.toList,c.argTypes.toList with
   |[x,y],[t,u]=>match bE t u with
    |true=>do
     let e ←iB P t
     match tR P e with
     |true=>pure (.copy 1 (←cX x) (←cX y))
     |false=>none
    |false=>none
   |_,_=>none
  |_=>none
 |.makeSlice t l c=>do
  let e ←iB P t
  pure (.mksl e (←dK P e) (←iC P e) (←iE P e) (←cX l) (←cX c))
 |.slice t x lo hi none=>match P.underlying t with
  |some .string=>do pure (.slcS (←cX x) (←mA lo) (←mA hi))
  |some (.slice e)=>do pure (.slc (←dK P e) (←cX x) (←mA lo) (←mA hi))
  |some (.array n e)=>do pure (.slcP (←dK P e) n (←cX x) (←mA lo) (←mA hi))
  |_=>none
 |.slice t x lo (some hi) (some mx)=>match P.underlying t with
  |some (.slice e)=>do pure (.slc3 (←dK P e) (←cX x) (←mA lo) (←cX hi) (←cX mx))
  |_=>none
 |.range t x=>match P.underlying t with
  |some .string=>(cX x).map .rng
  |_=>none
 |.next x true=>(cX x).map .nxt
 |.makeMap t none=>(UL P t).map fun k=>.mkmap k.1
 |.nilCheck x=>(cX x).map fun a=>.nilc a
 |.convert s t x=>match P.underlying s,P.underlying t with
  |some (.int _),some (.int k)=>(cX x).map fun a=>.conv k a
  |some .string,some (.slice e)=>match P.underlying e with
   |some (.int .u8)=>(cX x).map fun a=>.s2b e a
   |_=>none
  |some (.slice e),some .string=>match P.underlying e with
   |some (.int .u8)=>(cX x).map fun a=>.b2s a
   |_=>none
  |_,_=>none
 |.makeFunc f fs cs=>do pure (.mkfn f (←yN fs.toList) (←yN cs.toList))
 |.makeInterface t x=>match P.underlying t with
  |some (.interface _)=>none
  |some _=>(cX x).map fun a=>.mkif t a
  |none=>none
 |.typeAssert x _ t two=>match P.underlying t with
  |some (.interface _)=>none
  |some _=>do pure (.tass t (←IP P t) two (←cX x))
  |none=>none
 |.panic _=>some .dead
 |.lookup t x k two=>match UL P t with
  |some (kd,e)=>do pure (.look kd (←IP P e) two (←cX x) (←cX k))
  |none=>none
 |.mapUpdate t x k v=>match UL P t with
  |some (kd,_)=>do pure (.mset kd (←cX x) (←cX k) (←cX v))
  |none=>none
 |_=>none
open Go.AE (All2 gZ)
def ev(t:Nat→V):X→V
 |.t k=>t k
 |.k v=>v
noncomputable def KU(t:Nat→V)(xs:List X):List V:=mp (ev t) xs
def V.cells?:V→Option (List C)
 |.c x=>some [x]
 |.a cs=>some cs
 |.t _=>none
def kZ:C→Bool
 |.f (.z v)=>v.oneCell'
 |.top=>false
 |_=>true
noncomputable abbrev hH(l:List C):Bool:=all kZ l
noncomputable def jK(vs:List C)(o:Nat)(cs:List C):List C:=ap (tk o vs) (ap cs (dp (fQ o (len cs)) vs))
def aNX(m n:Nat):Nat:=match bS m n with
 |true=>m
 |false=>n
noncomputable def BZ(vs:List C)(o:Nat):Option Nat→V
 |none=>.c (bN .top vs o)
 |some k=>.a (tk k (dp o vs))
noncomputable def jL(t:Nat→V)(ps:List (Nat×Nat×X)):List C→Option (List C):=eA (motive:=fun _=>List C→Option (List C)) (fun vs=>some vs)
 (fun p _ ih vs=>match (ev t p.2.2).cells? with
  |some cs=>match eB (bE (len cs) p.2.1) (eB (bS (fQ p.1 p.2.1) (len vs)) (hH cs)) with
   |true=>ih (jK vs p.1 cs)
   |false=>none
  |none=>none) ps
noncomputable def vH(z:List C)(n:Nat):List C:=Nat.rec (motive:=fun _=>List C) [] (fun _ ih=>ap z ih) n
inductive pZ where
 |no
 |wr (id:Nat) (o:O)
 |nw (o:O)
 |ap (old:Nat) (o:O)
def pZ.upd(nid:Nat):pZ→Nat→Option O
 |.no,_=>none
 |.wr id o,i=>if i=id then some o else none
 |.nw o,i=>if i=nid then some o else none
 |.ap old o,i=>if i=nid then some o else if i=old then some .gone else none
def pZ.mem(e:pZ)(nid:Nat)(h:Nat→O):Nat→O:=fun i=>(e.upd nid i).getD (h i)
def pZ.isNw:pZ→Bool
 |.nw _=>true
 |.ap _ _=>true
 |_=>false
abbrev nU:=Option (V×pZ)
def ck(b:Bool)(r:nU):nU:=match b with|true=>r|false=>none
theorem eY{b:Bool}{r:nU}{x:V×pZ}(h:ck b r=some x):b=true∧r=some x:=by cases b<;>simp_all [ck]
def WD(a b:List Nat):Bool:=match a,b with
 |[],[]=>true
 |x::a,y::b=>match bE x y with
  |true=>WD a b
  |false=>false
 |_,_=>false
theorem NZ:∀ {a b:List Nat},WD a b=true↔a=b
 |[],[]=>by simp[WD]
 |[],_::_=>by simp[WD]
 |_::_,[]=>by simp[WD]
 |x::a,y::b=>by
  unfold WD;cases h:bE x y with
  |true=>simp[aH h,NZ]
  |false=>simp[Nat.ne_of_beq_eq_false h]
def ltL(a b:List Nat):Bool:=match a,b with
 |[],_::_=>true
 |x::a,y::b=>match cU x y with
  |true=>true
  |false=>match bE x y with
   |true=>ltL a b
   |false=>false
 |_,_=>false
def IK(op:BinOp)(k:IntKind)(a b:Int):Option F:=match op with
 |.add=>YZ (aPE a b) fun n=>match ID k n with|true=>some (.i k n)|false=>none
 |.sub=>YZ (aPC a b) fun n=>match ID k n with|true=>some (.i k n)|false=>none
 |.mul=>YZ (aPD a b) fun n=>match ID k n with|true=>some (.i k n)|false=>none
 |.quo=>match uI 0 a,uI 1 b with
  |true,true=>YZ (a / b) fun n=>match ID k n with|true=>some (.i k n)|false=>none
  |_,_=>none
 |.rem=>match uI 0 a,uI 1 b with
  |true,true=>YZ (a%b) fun n=>match ID k n with|true=>some (.i k n)|false=>none
  |_,_=>none
 |.eql=>some (.b (ZS a b))
 |.neq=>some (.b (sO (ZS a b)))
 |.lss=>some (.b (OM a b))
 |.leq=>some (.b (uI a b))
 |.gtr=>some (.b (OM b a))
 |.geq=>some (.b (uI b a))
 |_=>none
noncomputable def IJ(op:BinOp)(a b:List Nat):Option F:=match op with
 |.add=>match bS (fQ (len a) (len b)) 9223372036854775807 with|true=>some (.s (ap a b))|false=>none
 |.eql=>some (.b (WD a b))
 |.neq=>some (.b (sO (WD a b)))
 |.lss=>some (.b (ltL a b))
 |.leq=>some (.b (match ltL a b with|true=>true|false=>WD a b))
 |.gtr=>some (.b (sO (match ltL a b with|true=>true|false=>WD a b)))
 |.geq=>some (.b (sO (ltL a b)))
 |_=>none
def SJ(op:BinOp)(k:IntKind)(a b:Int):Option Int:=match op with
 |.add=>some (k.wrap (a+b))
 |.sub=>some (k.wrap (a-b))
 |.mul=>some (k.wrap (a*b))
 |.and=>some (k.wrap (dW k.bits a &&& dW k.bits b).toNat)
 |.or=>some (k.wrap (dW k.bits a ||| dW k.bits b).toNat)
 |.xor=>some (k.wrap (dW k.bits a ^^^ dW k.bits b).toNat)
 |.shl=>match uI 0 b with|true=>some (k.wrap (a*2^(min b.toNat k.bits)))|false=>none
 |.shr=>match uI 0 b with|true=>some (a.fdiv (2^(min b.toNat k.bits)))|false=>none
 |_=>none
noncomputable def pV(xs ys:List C)(fs:List (Nat×PK)):Option Bool:=eA (motive:=fun _=>Option Bool) (some true)
 (fun p _ ih=>match p.2,bN .top xs p.1,bN .top ys p.1 with
  |.i,.f (.i k1 a),.f (.i k2 b)=>match AE.kEq k1 k2,ih with
   |true,some c=>some (eB (ZS a b) c)
   |_,_=>none
  |.s,.f (.s a),.f (.s b)=>match ih with
   |some c=>some (eB (WD a b) c)
   |none=>none
  |.b,.f (.b a),.f (.b b)=>match ih with
   |some c=>some (eB (a==b) c)
   |none=>none
  |_,_,_=>none) fs
def asF:V→Option F
 |.c (.f x)=>some x
 |_=>none
noncomputable def aGD(vs:List V):Option (List F):=eA (motive:=fun _=>Option (List F)) (some [])
 (fun v _ ih=>match asF v,ih with
  |some x,some l=>some (x::l)
  |_,_=>none) vs
noncomputable def OY(h:Nat→O)(sz:Nat):V→Option (Nat×List C)
 |.c (.f (.z (.slice none 0 0)))=>some (0,[])
 |.c (.f (.sl _ id sz' off n))=>match h id with
  |.blk _ _ vs=>match eB (bE sz sz') (bS (gH (fQ off n) sz) (len vs)) with
   |true=>some (n,tk (gH n sz) (dp (gH off sz) vs))
   |false=>none
  |.rdb _ vs=>match eB (bE sz sz') (bS (gH (fQ off n) sz) (len vs)) with
   |true=>some (n,tk (gH n sz) (dp (gH off sz) vs))
   |false=>none
  |_=>none
 |_=>none
def aG8:C→Option Nat
 |.f (.i .u8 (.ofNat k))=>match bS k 255 with
  |true=>some k
  |false=>none
 |_=>none
noncomputable def OG(l:List C):Option (List Nat):=eA (motive:=fun _=>Option (List Nat)) (some []) (fun x _ ih=>match aG8 x,ih with
 |some k,some r=>some (k::r)
 |_,_=>none) l
section
variable (t:Nat→V) (h:Nat→O) (nid:Nat)
def ED(c a b:X):nU:=match ev t c with
 |.c (.f (.b x))=>match x with
  |true=>some (ev t a,.no)
  |false=>some (ev t b,.no)
 |_=>none
noncomputable def JP(ty:TypeId)(x:X):nU:=match (ev t x).cells? with
 |some cs=>ck (hH cs) (some (.c (.f (.ptr nid 0)),.nw (.blk true ty cs)))
 |none=>none
noncomputable def xR(z:List C)(ps:List (Nat×Nat×X)):nU:=match jL t ps z with
 |some cs=>some (.a cs,.no)
 |none=>none
noncomputable def JO(ty:TypeId)(sz n:Nat)(z:List C)(ps:List (Nat×Nat×X)):nU:=match jL t ps (vH z n) with
 |some cs=>ck (eB (bE (len z) sz) (eB (cU 0 sz) (bS (gH n sz) 16777216))) (some (.c (.f (.sl true nid sz 0 n)),.nw (.blk true ty cs)))
 |none=>none
noncomputable def EN(n:Option Nat)(x:X):nU:=match ev t x with
 |.c (.f (.ptr id off))=>match h id with
  |.blk _ _ vs=>ck (bS (fQ off (gZ n)) (len vs)) (some (BZ vs off n,.no))
  |.rdb _ vs=>ck (bS (fQ off (gZ n)) (len vs)) (some (BZ vs off n,.no))
  |.glb _ vs=>ck (bS (fQ off (gZ n)) (len vs)) (some (BZ vs off n,.no))
  |_=>none
 |_=>none
noncomputable def xP(n:Nat)(a v:X):nU:=match (ev t v).cells? with
 |some cs=>match ev t a with
  |.c (.f (.ptr id off))=>match h id with
   |.blk x ty vs=>ck (eB (bE (len cs) n) (eB (bS (fQ off n) (len vs)) (hH cs))) (some (.t [],.wr id (.blk x ty (jK vs off cs))))
   |_=>none
  |_=>none
 |none=>none
noncomputable def QF(op:BinOp)(x y:X):nU:=match ev t x,ev t y with
 |.c (.f (.i k a)),.c (.f (.i k' b))=>ck (AE.kEq k k') (match IK op k a b with
  |some v=>some (.c (.f v),.no)
  |none=>none)
 |.c (.f (.s a)),.c (.f (.s b))=>match IJ op a b with
  |some v=>some (.c (.f v),.no)
  |none=>none
 |_,_=>none
def EY(op:BinOp)(k:IntKind)(x y:X):nU:=match ev t x,ev t y with
 |.c (.f (.i k1 a)),.c (.f (.i k2 b))=>ck (eB (AE.kEq k k1) (match op with|.shl=>true|.shr=>true|_=>AE.kEq k k2)) (match SJ op k a b with
  |some n=>YZ n fun n=>some (.c (.f (.i k n)),.no)
  |none=>none)
 |_,_=>none
def EZ(op:BinOp)(x y:X):nU:=match ev t x,ev t y with
 |.c (.f (.b a)),.c (.f (.b b))=>match op with
  |.eql=>some (.c (.f (.b (a==b))),.no)
  |.neq=>some (.c (.f (.b (!(a==b)))),.no)
  |_=>none
 |_,_=>none
noncomputable def EU(neg:Bool)(fs:List (Nat×PK))(x y:X):nU:=match ev t x,ev t y with
 |.a xs,.a ys=>match pV xs ys fs with
  |some b=>some (.c (.f (.b (match neg with|true=>sO b|false=>b))),.no)
  |none=>none
 |_,_=>none
def PY(x:X):nU:=match ev t x with
 |.c (.f (.b a))=>some (.c (.f (.b (sO a))),.no)
 |_=>none
def PZ(x:X):nU:=match ev t x with
 |.c (.f (.i k a))=>YZ (-a) fun n=>ck (ID k n) (some (.c (.f (.i k n)),.no))
 |_=>none
def sE(off:Nat)(x:X):nU:=match ev t x with
 |.c (.f (.ptr id o))=>some (.c (.f (.ptr id (fQ o off))),.no)
 |_=>none
def ES(sz n:Nat)(x i:X):nU:=match ev t x,ev t i with
 |.c (.f (.ptr id o)),.c (.f (.i _ k))=>ck (eB (uI 0 k) (OM k n)) (some (.c (.f (.ptr id (fQ o (gH k.toNat sz)))),.no))
 |_,_=>none
noncomputable def QD(off:Nat)(n:Option Nat)(x:X):nU:=match ev t x with
 |.a cs=>ck (bS (fQ off (gZ n)) (len cs)) (some (BZ cs off n,.no))
 |_=>none
def ER(sz:Nat)(x i:X):nU:=match ev t x,ev t i with
 |.c (.f (.sl _ id sz' off n)),.c (.f (.i _ k))=>ck (eB (bE sz sz') (eB (uI 0 k) (OM k n))) (some (.c (.f (.ptr id (gH (fQ off k.toNat) sz))),.no))
 |_,_=>none
noncomputable def EQ(x i:X):nU:=match ev t x,ev t i with
 |.c (.f (.s s)),.c (.f (.i _ k))=>ck (eB (uI 0 k) (OM k (len s))) (some (.c (.f (.i .u8 (aF (bN 0 s k.toNat)))),.no))
 |_,_=>none
noncomputable def ET(x:X)(i:Nat):nU:=match ev t x with
 |.t vs=>ck (cU i (len vs)) (some ((bN (.c .top) vs i).up,.no))
 |_=>none
def QC(x:X):nU:=match ev t x with
 |.c (.f (.z (.slice none 0 0)))=>some (.c (.f (.i .i64 0)),.no)
 |.c (.f (.sl _ _ _ _ n))=>some (.c (.f (.i .i64 n)),.no)
 |_=>none
noncomputable def EO(x:X):nU:=match ev t x with
 |.c (.f (.s s))=>some (.c (.f (.i .i64 (len s))),.no)
 |_=>none
def QA(x y:X):nU:=match ev t x,ev t y with
 |.c (.f (.i k a)),.c (.f (.i _ b))=>some (.c (.f (.i k (match OM b a with|true=>b|false=>a))),.no)
 |_,_=>none
def QB(x y:X):nU:=match ev t x,ev t y with
 |.c (.f (.i k a)),.c (.f (.i _ b))=>some (.c (.f (.i k (match OM a b with|true=>b|false=>a))),.no)
 |_,_=>none
noncomputable def WF(ty sz:Nat):V→Option (Nat×List C×Option Nat)
 |.c (.f (.z (.slice none 0 0)))=>some (0,[],none)
 |.c (.f (.sl true id sz' off n))=>match h id with
  |.blk _ ty' vs=>match eB (bE sz sz') (eB (bE ty ty') (eB (bE off 0) (bE (gH n sz) (len vs)))) with
   |true=>some (n,vs,some id)
   |false=>none
  |_=>none
 |_=>none
def pZ.app(old:Option Nat)(o:O):pZ:=match old with
 |none=>.nw o
 |some id=>.ap id o
noncomputable def JQ(ty:TypeId)(sz bytes:Nat)(z:List C)(x y:X):nU:=match OY h sz (ev t y),WF h ty sz (ev t x) with
 |some (m,news),some (n,vs,old)=>ck (eB (eB (cU 0 sz) (bE (len z) sz)) (eB (bS (gH (fQ n m) bytes) 140737488355328) (eB (bS (fQ n m) 140737488355328) (hH news)))) (some (.c (.f (.sl true nid sz 0 (fQ n m))),.app old (.blk false ty (ap vs news))))
 |_,_=>none
noncomputable def zC(ty:TypeId)(x y:X):nU:=match ev t y,WF h ty 1 (ev t x) with
 |.c (.f (.s l)),some (n,vs,old)=>ck (bS (fQ n (len l)) 140737488355328) (some (.c (.f (.sl true nid 1 0 (fQ n (len l)))),.app old (.blk false ty (ap vs (mp (fun k=>.f (.i .u8 (aF k))) l)))))
 |_,_=>none
noncomputable def zB(ty:TypeId)(sz bytes:Nat)(z:List C)(x y:X):nU:=match ev t x,ev t y with
 |.c (.f (.i _ l)),.c (.f (.i _ c))=>ck (eB (cU 0 sz) (eB (bE (len z) sz) (eB (uI 0 l) (eB (uI l c) (eB (uI (c*bytes) 140737488355328) (uI c 140737488355328)))))) (some (.c (.f (.sl true nid sz 0 l.toNat)),.nw (.blk (ZS l c) ty (vH z l.toNat))))
 |_,_=>none
def xX(d:Nat)(x:Option X):Option Int:=match x with
 |none=>some d
 |some ax=>match ev t ax with
  |.c (.f (.i _ n))=>some n
  |_=>none
def PW(sz:Nat)(x:X)(lo hi:Option X):nU:=match ev t x with
 |.c (.f (.sl x0 id sz' off n))=>match xX t n hi,xX t 0 lo with
  |some hh,some l=>ck (eB (bE sz sz') (eB (uI 0 l) (eB (uI l hh) (uI hh n)))) (some (.c (.f (.sl x0 id sz' (fQ off l.toNat) (Nat.sub hh.toNat l.toNat))),.no))
  |_,_=>none
 |.c (.f (.z (.slice none 0 0)))=>match xX t 0 hi,xX t 0 lo with
  |some hh,some l=>ck (eB (ZS l 0) (ZS hh 0)) (some (.c (.f (.z (.slice none 0 0))),.no))
  |_,_=>none
 |_=>none
def EB(sz:Nat)(x:X)(lo:Option X)(hi mx:X):nU:=match ev t x,ev t hi,ev t mx with
 |.c (.f (.sl _ id sz' off n)),.c (.f (.i _ hh)),.c (.f (.i _ m))=>match xX t 0 lo with
  |some l=>ck (eB (bE sz sz') (eB (uI 0 l) (eB (uI l hh) (eB (uI hh m) (uI m n))))) (some (.c (.f (.sl false id sz' (fQ off l.toNat) (Nat.sub hh.toNat l.toNat))),.no))
  |none=>none
 |_,_,_=>none
noncomputable def EA(sz n:Nat)(x:X)(lo hi:Option X):nU:=match ev t x,lo,hi with
 |.c (.f (.ptr id off)),none,none=>match h id with
  |.blk x0 _ vs=>ck (eB (bE off 0) (eB (cU 0 n) (eB (bS n 16777216) (bE (gH n sz) (len vs))))) (some (.c (.f (.sl x0 id sz 0 n)),.no))
  |.glb _ vs=>ck (eB (bE off 0) (eB (cU 0 n) (eB (bS n 16777216) (bE (gH n sz) (len vs))))) (some (.c (.f (.sl false id sz 0 n)),.no))
  |_=>none
 |_,_,_=>none
noncomputable def DZ(x:X)(lo hi:Option X):nU:=match ev t x with
 |.c (.f (.s s))=>match xX t (len s) hi,xX t 0 lo with
  |some hh,some l=>ck (eB (uI 0 l) (eB (uI l hh) (uI hh (len s)))) (some (.c (.f (.s (tk (Nat.sub hh.toNat l.toNat) (dp l.toNat s)))),.no))
  |_,_=>none
 |_=>none
noncomputable def EL(f:Fn)(fs cs:List X):nU:=match aGD (KU t fs),aGD (KU t cs) with
 |some xs,some ys=>some (.c (.fn f xs ys),.no)
 |_,_=>none
def EG(x:X):nU:=match ev t x with
 |.c (.f (.ptr id off))=>some (.c (.f (.ptr id off)),.no)
 |.c (.ifc ty y)=>some (.c (.ifc ty y),.no)
 |_=>none
def aIP:V→Option Bool
 |.c (.f (.ptr _ _))=>some false
 |.c (.f (.z (.pointer none)))=>some true
 |_=>none
def QE(neg:Bool)(x y:X):nU:=match aIP (ev t x),aIP (ev t y) with
 |some true,some b=>some (.c (.f (.b (match neg with|true=>sO b|false=>b))),.no)
 |some b,some true=>some (.c (.f (.b (match neg with|true=>sO b|false=>b))),.no)
 |_,_=>none
def EE(neg:Bool)(x:X):nU:=match ev t x with
 |.c (.f (.z (.slice none 0 0)))=>some (.c (.f (.b (sO neg))),.no)
 |.c (.f (.sl _ _ _ _ n))=>ck (cU 0 n) (some (.c (.f (.b neg)),.no))
 |_=>none
def EF(neg:Bool)(x:X):nU:=match ev t x with
 |.c (.f (.z (.map none)))=>some (.c (.f (.b (sO neg))),.no)
 |.c (.f (.mp _))=>some (.c (.f (.b neg)),.no)
 |_=>none
def EW(k:IntKind)(x:X):nU:=match ev t x with
 |.c (.f (.i _ n))=>match ID k n with
  |true=>some (.c (.f (.i k n)),.no)
  |false=>YZ (k.wrap n) fun n=>some (.c (.f (.i k n)),.no)
 |_=>none
def EH(k:IntKind)(x:X):nU:=match ev t x with
 |.c (.f (.i k1 n))=>ck (AE.kEq k k1) (YZ (k.wrap (-n)) fun n=>some (.c (.f (.i k n)),.no))
 |_=>none
def xQ(sub:Bool)(x y c:X):nU:=match ev t x,ev t y,ev t c with
 |.c (.f (.i .u64 a)),.c (.f (.i .u64 b)),.c (.f (.i .u64 n))=>ck (eB (uI 0 a) (eB (uI 0 b) (eB (OM b 18446744073709551616) (eB (uI 0 n) (uI n 1)))))
    (match sub with
    |false=>YZ ((a+b+n)%18446744073709551616) fun s=>YZ ((a+b+n) / 18446744073709551616) fun q=>some (.t [.c (.f (.i .u64 s)),.c (.f (.i .u64 q))],.no)
    |true=>YZ ((a+18446744073709551616-b-n)%18446744073709551616) fun s=>some (.t [.c (.f (.i .u64 s)),.c (.f (.i .u64 (match OM a (b+n) with|true=>1|false=>0)))],.no))
 |_,_,_=>none
def EX(x:X):nU:=match ev t x with
 |.c (.f (.z (.slice none 0 0)))=>some (.c (.f (.i .i64 0)),.no)
 |_=>none
noncomputable def EV(sz:Nat)(x y:X):nU:=match OY h sz (ev t y) with
 |some (m,news)=>match ev t x with
  |.c (.f (.sl _ id sz' off n))=>match h id with
   |.blk x ty vs=>frN (aNX m n) fun q=>ck (eB (bE sz sz') (eB (bS (gH (fQ off q) sz) (len vs)) (hH (tk (gH q sz) news)))) (some (.c (.f (.i .i64 q)),.wr id (.blk x ty (jK vs (gH off sz) (tk (gH q sz) news)))))
   |_=>none
  |_=>none
 |none=>none
def EK(ty:TypeId)(x:X):nU:=match ev t x with
 |.c (.f (.ptr id off))=>some (.c (.ifc ty (.ptr id off)),.no)
 |_=>none
noncomputable def QG(x:X):nU:=match OY h 1 (ev t x) with
 |some (_,cs)=>match OG cs with
  |some l=>some (.c (.f (.s l)),.no)
  |none=>none
 |none=>none
noncomputable def JM(ty:TypeId)(x:X):nU:=match ev t x with
 |.c (.f (.s l))=>some (.c (.f (.sl false nid 1 0 (len l))),.nw (.rdb ty (mp (fun k=>.f (.i .u8 (aF k))) l)))
 |_=>none
def JN(x:X):nU:=match ev t x with
 |.c (.f (.s l))=>some (.c (.f (.ptr nid 0)),.nw (.sit l 0))
 |_=>none
noncomputable def PX(x:X):nU:=match ev t x with
 |.c (.f (.ptr id 0))=>match h id with
  |.sit l pos=>match cU pos (len l) with
   |true=>ck (cU (bN 0 l pos) 128) (some (.t [.c (.f (.b true)),.c (.f (.i .i64 (aF pos))),.c (.f (.i .i32 (aF (bN 0 l pos))))],.wr id (.sit l (gB pos))))
   |false=>some (.t [.c (.f (.b false))],.no)
  |_=>none
 |_=>none
noncomputable def EP(sz m:Nat)(n:Option Nat)(x i:X):nU:=match ev t x,ev t i with
 |.a cs,.c (.f (.i _ k))=>ck (eB (eB (uI 0 k) (OM k m)) (bS (fQ (gH k.toNat sz) (gZ n)) (len cs))) (some (BZ cs (gH k.toNat sz) n,.no))
 |_,_=>none
def DY(ty:TypeId)(z:W)(two:Bool)(x:X):nU:=match ev t x with
 |.c (.ifc ty' y)=>match bE ty' ty,two with
  |true,true=>some (.t [.c (.f y),.c (.f (.b true))],.no)
  |true,false=>some (.c (.f y),.no)
  |false,true=>some (.t [z,.c (.f (.b false))],.no)
  |false,false=>none
 |.c (.f (.z .nilIface))=>match two with
  |true=>some (.t [z,.c (.f (.b false))],.no)
  |false=>none
 |_=>none
noncomputable def AY(k:Int)(es:List (Int×W)):Option W:=eA (motive:=fun _=>Option W) none (fun p _ ih=>match ZS k p.1 with|true=>some p.2|false=>ih) es
def aGV(two:Bool)(x:W)(b:Bool):V:=match two with
 |true=>.t [x,.c (.f (.b b))]
 |false=>x.up
noncomputable def EM(kd:IntKind)(z:W)(two:Bool)(x k:X):nU:=match ev t k with
 |.c (.f (.i kd1 n))=>match AE.kEq kd kd1 with
  |true=>match ev t x with
   |.c (.f (.z (.map none)))=>some (aGV two z false,.no)
   |.c (.f (.mp id))=>match h id with
    |.map kd2 es=>match AE.kEq kd kd2 with
     |true=>match AY n es with
      |some v=>some (aGV two v true,.no)
      |none=>some (aGV two z false,.no)
     |false=>none
    |_=>none
   |_=>none
  |false=>none
 |_=>none
def asW:V→Option W
 |.c x=>some (.c x)
 |.a cs=>some (.a cs)
 |.t _=>none
noncomputable def EJ(kd:IntKind)(x k v:X):nU:=match ev t k,asW (ev t v),ev t x with
 |.c (.f (.i kd1 n)),some y,.c (.f (.mp id))=>match h id with
  |.map kd2 es=>match AY n es with
   |none=>ck (eB (AE.kEq kd kd1) (AE.kEq kd kd2)) (some (.t [],.wr id (.map kd2 (ap es [(n,y)]))))
   |some _=>none
  |_=>none
 |_,_,_=>none
noncomputable def lI:CF→nU
 |.mv x=>some (ev t x,.no)
 |.pick c a b=>ED t c a b
 |.alloc ty z=>some (.c (.f (.ptr nid 0)),.nw (.blk true ty z))
 |.box ty x=>JP t nid ty x
 |.build z ps=>xR t z ps
 |.bsl ty sz n z ps=>JO t nid ty sz n z ps
 |.load n x=>EN t h n x
 |.store n a v=>xP t h n a v
 |.bin op x y=>QF t op x y
 |.binw op k x y=>EY t op k x y
 |.binb op x y=>EZ t op x y
 |.eqs neg fs x y=>EU t neg fs x y
 |.not x=>PY t x
 |.neg x=>PZ t x
 |.faddr off x=>sE t off x
 |.fadI sz n x i=>ES t sz n x i
 |.fld off n x=>QD t off n x
 |.idxA sz x i=>ER t sz x i
 |.idxS x i=>EQ t x i
 |.extr x i=>ET t x i
 |.lenA x=>QC t x
 |.lenS x=>EO t x
 |.min x y=>QA t x y
 |.max x y=>QB t x y
 |.app ty sz bytes z x y=>JQ t h nid ty sz bytes z x y
 |.appS ty x y=>zC t h nid ty x y
 |.mksl ty sz bytes z x y=>zB t nid ty sz bytes z x y
 |.slc sz x lo hi=>PW t sz x lo hi
 |.slcS x lo hi=>DZ t x lo hi
 |.mkfn f fs cs=>EL t f fs cs
 |.nilc x=>EG t x
 |.eqp neg x y=>QE t neg x y
 |.nils neg x=>EE t neg x
 |.nilm neg x=>EF t neg x
 |.conv k x=>EW t k x
 |.negw k x=>EH t k x
 |.carry sub x y c=>xQ t sub x y c
 |.capn x=>EX t x
 |.copy sz x y=>EV t h sz x y
 |.mkif ty x=>EK t ty x
 |.tass ty z two x=>DY t ty z two x
 |.mkmap kd=>some (.c (.f (.mp nid)),.nw (.map kd []))
 |.look kd z two x k=>EM t h kd z two x k
 |.mset kd x k v=>EJ t h kd x k v
 |.slcP sz n x lo hi=>EA t h sz n x lo hi
 |.slc3 sz x lo hi mx=>EB t sz x lo hi mx
 |.s2b ty x=>JM t nid ty x
 |.b2s x=>QG t h x
 |.rng x=>JN t nid x
 |.nxt x=>PX t h x
 |.idxV sz m n x i=>EP t sz m n x i
 |_=>none
end
open Go.AE (All2 gZ dK iC rA gI iA iB)
section
variable {P:Program} {β:Bt} {w:World} {st:St} {a:Act} {o:Oper} {nid:Nat} {v:V} {e:pZ}
def cG(P:Program)(β:Bt)(h:Nat→O)(nid:Nat)(o:Oper)(a:Act)(w:World)(v:V)(e:pZ):Prop:=
 ∃u w' β',((execOp a.eval o).run P w=.ok (.value u) w'∨((execOp a.eval o).run P w=.ok .skip w'∧u=undef))∧VR β' v u∧HS β' w' (e.mem nid h)∧Gr β w β' w'∧∀i,(i≠nid∨e.isNw=false)→β' i=β i
theorem aNY{h:Nat→O}:pZ.mem .no nid h=h:=rfl
theorem zG{h:Nat→O}{id:Nat}{x:O}:pZ.mem (.wr id x) nid h=fu h id x:=by
 funext i;unfold pZ.mem pZ.upd fu;by_cases e:i=id<;>simp[e]
theorem zH{h:Nat→O}{x:O}:pZ.mem (.nw x) nid h=fu h nid x:=by
 funext i;unfold pZ.mem pZ.upd fu;by_cases e:i=nid<;>simp[e]
theorem aE7{h:Nat→O}{id:Nat}{x:O}:pZ.mem (.ap id x) nid h=fu (fu h id .gone) nid x:=by
 funext i
 show (if i=nid then some x else if i=id then some O.gone else none).getD (h i)=if i=nid then x else if i=id then O.gone else h i
 by_cases e:i=nid
 ·rw[if_pos e,if_pos e];rfl
 ·rw[if_neg e,if_neg e]
  by_cases e2:i=id
  ·rw[if_pos e2,if_pos e2];rfl
  ·rw[if_neg e2,if_neg e2];rfl
theorem cG.same(hs:eC β st a w){u:Value}(hr:(execOp a.eval o).run P w=.ok (.value u) w)(hv:VR β v u):cG P β st.h nid o a w v .no:=
 ⟨u,w,β,.inl hr,hv,hs.hs,Gr.refl _ _,fun _ _=>rfl⟩
theorem IU(v:Value):FR β (toF v) v:=by
 cases v with
 |string s=>exact⟨s,rfl,rfl⟩
 |_=>rfl
theorem nH(l:List Value):All2 (CR β) (l.map fun v=>.f (toF v)) l:=AE.All2.map_left _ (AE.All2.self (q:=fun x y=>CR β (.f (toF x)) y) (fun x=>IU x) l)
theorem yR(v:Value):VR β (toV v) v:=by
 cases v with
 |agg cs=>exact⟨cs,rfl,nH _⟩
 |tuple vs=>exact trivial
 |string s=>exact IU (β:=β) (.string s)
 |_=>exact rfl
theorem aR(hs:eC β st a w){x:Operand}{ax:X}(h:cX x=some ax):VR β (ev st.t ax) (a.eval x):=by
 cases x with
 |tmp t=>
  simp only[cX,aD]at h;subst h;exact hs.tm t
 |const v=>simp only[cX,aD]at h;subst h;exact yR v
 |global g=>
  simp only[cX]at h;split at h
  ·rename_i hg
   obtain rfl:=aH hg;injection h with h;subst h;obtain⟨N,hN⟩:=hs.gl;exact⟨0,N,hN,rfl⟩
  ·cases h
 |func f=>
  simp only[cX,aD]at h;subst h;exact⟨#[],#[],rfl,trivial,trivial⟩
theorem RW{t:Nat→V}{x:X}{xs:List X}:KU t (x::xs)=ev t x::KU t xs:=rfl
theorem nQ(hs:eC β st a w):∀(xs:List Operand) (l:List X),yN xs=some l→All2 (VR β) (KU st.t l) (xs.map a.eval)
 |[],l,h=>by simp only[yN,aD]at h;subst h;exact trivial
 |x::xs,l,h=>by
  simp only[yN]at h;cases hx:cX x with
  |none=>simp[hx]at h
  |some ax=>
   cases hr:yN xs with
   |none=>simp[hx,hr]at h
   |some l'=>
    simp only[hx,hr,aK,aE,gT,aD]at h;subst h;exact⟨aR hs hx,nQ hs xs l' hr⟩
theorem PO(hs:eC β st a w){x:Operand}{ax:X}(hx:cX x=some ax)(ho:o.op=.move x∨o.op=.assign x):cG P β st.h nid o a w (ev st.t ax) .no:=by
 refine cG.same hs (u:=a.eval x) ?_ (aR hs hx)
 rcases ho with ho|ho<;>simp[execOp,ho]
theorem LX(hs:eC β st a w){c x y:Operand}{ac ax ay:X}(hc:cX c=some ac)(hx:cX x=some ax)(hy:cX y=some ay)(ho:o.op=.pick c x y)(h:ED st.t ac ax ay=some (v,e)):cG P β st.h nid o a w v e:=by
 have hv:=aR hs hc
 unfold ED at h;split at h
 ·rename_i b he
  rw[he]at hv
  have hv:a.eval c=.bool b:=hv
  cases b with
  |true=>cases h;exact cG.same hs (u:=a.eval x) (by simp[execOp,ho,hv,asBool]) (aR hs hx)
  |false=>cases h;exact cG.same hs (u:=a.eval y) (by simp[execOp,ho,hv,asBool]) (aR hs hy)
 ·cases h
theorem TV(hs:eC β st a w){x:Operand}{ax:X}{t:TypeId}(hx:cX x=some ax)(ho:o.op=.unOp .not t x)(h:PY st.t ax=some (v,e)):cG P β st.h nid o a w v e:=by
 have hv:=aR hs hx
 unfold PY at h;split at h
 ·rename_i b he
  rw[he]at hv
  have hv:a.eval x=.bool b:=hv
  cases h;exact cG.same hs (u:=.bool (!b)) (by simp[execOp,ho,hv,Op.unary]) (by rw[nZ];rfl)
 ·cases h
theorem kR{k k':IntKind}(h:AE.kEq k k'=true):k=k':=by cases k<;>cases k'<;>first|rfl|cases h
theorem MP(hs:eC β st a w){op:BinOp}{t t':TypeId}{x y:Operand}{ax ay:X}(hx:cX x=some ax)(hy:cX y=some ay)(ho:o.op=.binOp op t x y t'){k:IntKind}{m n:Int}{f:F}
  (hex:ev st.t ax=.c (.f (.i k m))) (hey:ev st.t ay=.c (.f (.i k n))) (h:IK op k m n=some f):cG P β st.h nid o a w (.c (.f f)) .no:=by
 have hv:=aR hs hx
 rw[hex]at hv
 have hv:a.eval x=.int k m:=hv
 have hv':=aR hs hy
 rw[hey]at hv'
 have hv':a.eval y=.int k n:=hv'
 have run:∀u,(Go.binOp op t (.int k m) (.int k n)).run P w=.ok u w→(execOp a.eval o).run P w=.ok (.value u) w:=by
  intro u hu
  have hg:(eqGuard op t x y (.int k m) (.int k n)).run P w=.ok () w:=by
   unfold eqGuard;cases op<;>simp
  simp[execOp,ho,hv,hv',hg,hu]
 cases op<;>simp only[IK,wR,aGQ,aGO,aGP]at h<;>first|(cases h;done)|skip
 case add=>
  split at h
  ·rename_i hb;cases h
   exact cG.same hs (run _ (by simp[Go.binOp,gA];rfl)) (by show fM _ _=_;rw[AE.wrap_in (rN hb)])
  ·cases h
 case sub=>
  split at h
  ·rename_i hb;cases h
   exact cG.same hs (run _ (by simp[Go.binOp,gA];rfl)) (by show fM _ _=_;rw[AE.wrap_in (rN hb)])
  ·cases h
 case mul=>
  split at h
  ·rename_i hb;cases h
   exact cG.same hs (run _ (by simp[Go.binOp,gA];rfl)) (by show fM _ _=_;rw[AE.wrap_in (rN hb)])
  ·cases h
 case quo=>
  split at h
  ·rename_i h1 h2
   split at h
   ·rename_i hb;cases h
    have h1:=fL.1 h1
    have h2:=fL.1 h2
    refine cG.same hs (run (.int k (m / n)) ?_) rfl
    have e:m.tdiv n=m / n:=Int.tdiv_eq_ediv_of_nonneg h1
    simp[Go.binOp,Op.intDiv,show ¬n=0 by omega,e,AE.wrap_in (rN hb)]
   ·cases h
  ·cases h
 case rem=>
  split at h
  ·rename_i h1 h2
   split at h
   ·rename_i hb;cases h
    have h1:=fL.1 h1
    have h2:=fL.1 h2
    refine cG.same hs (run (.int k (m%n)) ?_) rfl
    have e:m.tmod n=m%n:=Int.tmod_eq_emod_of_nonneg h1
    simp[Go.binOp,Op.intDiv,show ¬n=0 by omega,e]
   ·cases h
  ·cases h
 case eql=>cases h;exact cG.same hs (run (.bool (m==n)) (by simp[Go.binOp,Op.intCmp])) (by show Value.bool _=_;congr 1;rw[dT];simp[rT])
 case neq=>cases h;exact cG.same hs (run (.bool (m != n)) (by simp[Go.binOp,Op.intCmp])) (by show Value.bool _=_;congr 1;rw[nZ,bne,dT];simp[←rT])
 case lss=>cases h;exact cG.same hs (run (.bool (decide (m<n))) (by simp[Go.binOp,Op.intCmp])) (by show Value.bool _=_;congr 1;rw[dT];simp[kX])
 case leq=>cases h;exact cG.same hs (run (.bool (decide (m≤n))) (by simp[Go.binOp,Op.intCmp])) (by show Value.bool _=_;congr 1;rw[dT];simp[fL])
 case gtr=>cases h;exact cG.same hs (run (.bool (decide (n<m))) (by simp[Go.binOp,Op.intCmp])) (by show Value.bool _=_;congr 1;rw[dT];simp[kX])
 case geq=>cases h;exact cG.same hs (run (.bool (decide (n≤m))) (by simp[Go.binOp,Op.intCmp])) (by show Value.bool _=_;congr 1;rw[dT];simp[fL])
end
open Go.AE (All2 gZ dK iC rA gI iA iB vK lG kN)
section
variable {P:Program} {β:Bt} {w:World} {st:St} {a:Act} {o:Oper} {nid:Nat} {v:V} {e:pZ}
def qV(x:ByteArray):List Nat:=x.data.toList.map eT
theorem aCD{x y:UInt8}(h:x.toNat=y.toNat):x=y:=UInt8.toNat_inj.1 h
theorem aE0{x y:ByteArray}(h:qV x=qV y):x=y:=by
 have h1:x.data.toList=y.data.toList:=(List.map_inj_right (fun _ _=>aCD)).1 h
 cases x;cases y;congr;exact Array.toList_inj.1 h1
theorem oG(x:ByteArray):(qV x).length=x.size:=by unfold qV;rw[gP];rfl
theorem aE1(x y:ByteArray):qV (x++y)=qV x++qV y:=by
 unfold qV;rw[ByteArray.data_append,Array.toList_append,List.map_append]
theorem RY(x y:ByteArray):WD (qV x) (qV y)=(x.toList==y.toList):=by
 rw[dT,NZ,beq_iff_eq,gJ,gJ];constructor
 ·intro h;rw[aE0 h]
 ·intro h;unfold qV;rw[h]
theorem QP:∀a b:List UInt8,ltL (a.map eT) (b.map eT)=eS a b
 |[],[]=>rfl
 |[],_::_=>rfl
 |_::_,[]=>rfl
 |x::a,y::b=>by
  simp only[List.map_cons,ltL,eS]
  by_cases h:x=y
  ·subst h
   have h1:cU x.toNat x.toNat=false:=by
    cases hb:cU x.toNat x.toNat with
    |false=>rfl
    |true=>have:=aQ hb;omega
   simp[h1,QP a b]
  ·have:x.toNat≠y.toNat:=fun q=>h (aCD q)
   by_cases h2:x.toNat<y.toNat
   ·have:cU x.toNat y.toNat=true:=by simp[cU];omega
    simp[this,UInt8.lt_iff_toNat_lt,h2]
   ·have h3:cU x.toNat y.toNat=false:=by
      cases hb:cU x.toNat y.toNat with
      |false=>rfl
      |true=>simp[cU]at hb;omega
    have h4:bE x.toNat y.toNat=false:=by
     cases hb:bE x.toNat y.toNat with
     |false=>rfl
     |true=>exact absurd (aH hb) this
    simp[h3,h4,h,UInt8.lt_iff_toNat_lt,h2]
theorem aEO(x y:ByteArray):ltL (qV x) (qV y)=eS x.toList y.toList:=by
 rw[gJ,gJ];exact QP _ _
theorem MO(hs:eC β st a w){op:BinOp}{t t':TypeId}{x y:Operand}{ax ay:X}(hx:cX x=some ax)(hy:cX y=some ay)(ho:o.op=.binOp op t x y t'){m n:List Nat}{f:F}
  (hex:ev st.t ax=.c (.f (.s m))) (hey:ev st.t ay=.c (.f (.s n))) (h:IJ op m n=some f):cG P β st.h nid o a w (.c (.f f)) .no:=by
 have hv:=aR hs hx
 rw[hex]at hv;obtain⟨bx,hv,rfl⟩:=hv
 have hv':=aR hs hy
 rw[hey]at hv';obtain⟨by_,hv',rfl⟩:=hv'
 have run:∀u,(Go.binOp op t (.string bx) (.string by_)).run P w=.ok u w→(execOp a.eval o).run P w=.ok (.value u) w:=by
  intro u hu
  have hg:(eqGuard op t x y (.string bx) (.string by_)).run P w=.ok () w:=by
   unfold eqGuard;cases op<;>simp
  simp[execOp,ho,hv,hv',hg,hu]
 have e1:WD (bx.data.toList.map eT) (by_.data.toList.map eT)=(bx.toList==by_.toList):=RY _ _
 have e2:ltL (bx.data.toList.map eT) (by_.data.toList.map eT)=eS bx.toList by_.toList:=aEO _ _
 have e3:∀b c:Bool,(match b with|true=>true|false=>c)=(b||c):=fun b c=>by cases b<;>rfl
 cases op<;>simp only[IJ,e1,e2,nZ,gF,jQ,e3]at h<;>first|(cases h;done)|skip
 case add=>
  split at h
  ·rename_i hb
   cases h;refine cG.same hs (run (.string (bx++by_)) ?_) ⟨_,rfl,aE1 _ _⟩
   have h1:=aQ hb
   have l1:=oG bx
   have l2:=oG by_
   unfold qV at l1 l2;rw[l1,l2]at h1
   have h1:bx.size+by_.size≤9223372036854775807:=h1
   have e:¬((bx.size+by_.size:Nat):Int)>IntKind.i64.max:=by
    have:IntKind.i64.max=9223372036854775807:=by decide
    rw[this];omega
   simp only[Go.binOp,gU,if_neg e];rfl
  ·cases h
 case eql=>cases h;exact cG.same hs (run (.bool (bx.toList==by_.toList)) (by simp[Go.binOp,gU])) rfl
 case neq=>cases h;exact cG.same hs (run (.bool (!(bx.toList==by_.toList))) (by simp[Go.binOp,gU])) rfl
 case lss=>cases h;exact cG.same hs (run (.bool (eS bx.toList by_.toList)) (by simp[Go.binOp,gU])) rfl
 case leq=>cases h;exact cG.same hs (run (.bool (eS bx.toList by_.toList||bx.toList==by_.toList)) (by simp[Go.binOp,gU])) rfl
 case gtr=>cases h;exact cG.same hs (run (.bool (!(eS bx.toList by_.toList||bx.toList==by_.toList))) (by simp[Go.binOp,gU])) rfl
 case geq=>cases h;exact cG.same hs (run (.bool (!(eS bx.toList by_.toList))) (by simp[Go.binOp,gU])) rfl
theorem aDF(hs:eC β st a w){op:BinOp}{t t':TypeId}{x y:Operand}{ax ay:X}(hx:cX x=some ax)(hy:cX y=some ay)(ho:o.op=.binOp op t x y t')(h:QF st.t op ax ay=some (v,e)):cG P β st.h nid o a w v e:=by
 unfold QF at h;split at h
 ·rename_i k m k' n h1 h2
  have h0:=eY h
  clear h;obtain⟨hk,h⟩:=h0;obtain rfl:=kR hk;split at h
  ·rename_i f hf;cases h;exact MP hs hx hy ho h1 h2 hf
  ·cases h
 ·rename_i m n h1 h2
  split at h
  ·rename_i f hf;cases h;exact MO hs hx hy ho h1 h2 hf
  ·cases h
 ·cases h
theorem aHX(hs:eC β st a w){op:BinOp}{t t':TypeId}{x y:Operand}{ax ay:X}(ht:P.underlying t=some .bool)(hx:cX x=some ax)(hy:cX y=some ay)(ho:o.op=.binOp op t x y t')(h:EZ st.t op ax ay=some (v,e)):cG P β st.h nid o a w v e:=by
 unfold EZ at h;split at h
 ·rename_i m n hex hey
  have hv:=aR hs hx
  rw[hex]at hv
  have hv:a.eval x=.bool m:=hv
  have hv':=aR hs hy
  rw[hey]at hv'
  have hv':a.eval y=.bool n:=hv'
  have run:∀u,(Go.binOp op t (.bool m) (.bool n)).run P w=.ok u w→(execOp a.eval o).run P w=.ok (.value u) w:=by
   intro u hu
   have hg:(eqGuard op t x y (.bool m) (.bool n)).run P w=.ok () w:=by
    unfold eqGuard;cases op<;>simp
   simp[execOp,ho,hv,hv',hg,hu]
  have eq:(Op.equal t (.bool m) (.bool n)).run P w=.ok (m==n) w:=by
   have hd:∀d:Nat,(Op.equalIn (d+1) t (.bool m) (.bool n)).run P w=.ok (m==n) w:=fun d=>by simp[Op.equalIn,run_underlying ht]
   exact hd 9999
  split at h
  ·cases h;exact cG.same hs (run (.bool (m==n)) (by simp[Go.binOp,eq])) rfl
  ·cases h;exact cG.same hs (run (.bool (!(m==n))) (by simp[Go.binOp,eq])) rfl
  ·cases h
 ·cases h
theorem TW(hs:eC β st a w){x:Operand}{ax:X}{t:TypeId}(hx:cX x=some ax)(ho:o.op=.unOp .neg t x)(h:PZ st.t ax=some (v,e)):cG P β st.h nid o a w v e:=by
 have hv:=aR hs hx
 unfold PZ at h;split at h
 ·rename_i k n he
  rw[he]at hv
  have hv:a.eval x=.int k n:=hv
  rw[wR]at h
  have h0:=eY h
  clear h;obtain⟨hb,h⟩:=h0;cases h
  exact cG.same hs (u:=.int k (-n)) (by
   have e:(0:Int)-n = -n:=by omega
   simp[execOp,ho,hv,Op.unary,gA,AE.wrap_in (rN hb)]) rfl
 ·cases h
theorem DQ(hs:eC β st a w){x:Operand}{ax:X}{t:TypeId}{k:Nat}{fs:Array Field}{f:Field}(hf:P.underlying t=some (.struct fs))(hk:fs[k]?=some f)(hsz:∃s,dK P f.type=some (s+1))(hx:cX x=some ax)(ho:o.op=.fieldAddr t x k)
  (h:sE st.t f.offset ax=some (v,e)):cG P β st.h nid o a w v e:=by
 have hv:=aR hs hx
 obtain⟨s,hsz⟩:=hsz;unfold sE at h;split at h
 ·rename_i id q he
  rw[he]at hv;obtain⟨b,N,h1,h2⟩:=hv
  have run:(execOp a.eval o).run P w=.ok (.value (.pointer (some ((⟨b,q,none⟩:Addr).add f.offset)))) w:=by
   have hz:=AE.run_sizeOf hsz w
   simp[execOp,ho,h2,Instr.fieldAt,run_underlying hf,hk,Instr.sureAddr,fieldPlace,hz]
  cases h;exact cG.same hs run ⟨b,N,h1,by rw[AE.add_mid];rfl⟩
 ·cases h
theorem MH(hs:eC β st a w){x:Operand}{ax:X}{t el:TypeId}{n k sz:Nat}{kd:IntKind}(hu:P.underlying t=some (.array n el))(hk:k<n)(hz:dK P el=some sz)(hx:cX x=some ax)(ho:o.op=.indexAddr t x (.const (.int kd (.ofNat k))))
  (h:sE st.t (k*sz) ax=some (v,e)):cG P β st.h nid o a w v e:=by
 have hv:=aR hs hx
 unfold sE at h;split at h
 ·rename_i id q he
  rw[he]at hv;obtain⟨b,N,h1,h2⟩:=hv
  have run:(execOp a.eval o).run P w=.ok (.value (.pointer (some ((⟨b,q,none⟩:Addr).add (k*sz))))) w:=by
   have hi:a.eval (.const (.int kd (k:Int)))=.int kd (k:Int):=rfl
   simp[execOp,ho,h2,hi,Instr.indexAt,asIntOf,run_underlying hu,Instr.sureAddr,AE.run_sizeOf hz w,hk]
  cases h;exact cG.same hs run ⟨b,N,h1,by rw[AE.add_mid];rfl⟩
 ·cases h
theorem aHU(hs:eC β st a w){x i:Operand}{ax ai:X}{t el:TypeId}{n sz:Nat}(hu:P.underlying t=some (.array n el))(hz:dK P el=some sz)(hx:cX x=some ax)(hi:cX i=some ai)(ho:o.op=.indexAddr t x i)
  (h:ES st.t sz n ax ai=some (v,e)):cG P β st.h nid o a w v e:=by
 have hv:=aR hs hx
 have hw:=aR hs hi
 unfold ES at h;split at h
 ·rename_i id q kd k he he2
  rw[he]at hv;rw[he2]at hw
  have hw:a.eval i=.int kd k:=hw
  obtain⟨b,N,h1,h2⟩:=hv
  have h0:=eY h
  clear h;obtain⟨hb,h⟩:=h0;rw[bR,fL,kX]at hb
  have run:(execOp a.eval o).run P w=.ok (.value (.pointer (some ((⟨b,q,none⟩:Addr).add (k.toNat*sz))))) w:=by
   simp[execOp,ho,h2,hw,Instr.indexAt,asIntOf,run_underlying hu,Instr.sureAddr,AE.run_sizeOf hz w,hb.1,hb.2]
  cases h;exact cG.same hs run ⟨b,N,h1,by rw[AE.add_mid];rfl⟩
 ·cases h
theorem TZ(hs:eC β st a w){x:Operand}{ax:X}{t el:TypeId}(hu:P.underlying t=some (.slice el))(hx:cX x=some ax)
  (ho:o.op=.call { callee:=.builtin .len,args := #[x],argTypes := #[t] }) (h:QC st.t ax=some (v,e)):cG P β st.h nid o a w v e:=by
 have hv:=aR hs hx
 have run:∀A n c,a.eval x=.slice A n c→(execOp a.eval o).run P w=.ok (.value (.int .i64 n)) w:=by
  intro A n c he;simp[execOp,ho,resolve,invoke,builtin,he,Builtin.len_,run_underlying hu,goInt]
 unfold QC at h;split at h
 ·rename_i he
  rw[he]at hv;cases h;exact cG.same hs (run none 0 0 hv) rfl
 ·rename_i id sz off n he
  rw[he]at hv;obtain⟨A,c,h1,_⟩:=hv;cases h;exact cG.same hs (run _ _ _ h1) rfl
 ·cases h
theorem ME(hs:eC β st a w){x:Operand}{ax:X}{t:TypeId}(hu:P.underlying t=some .string)(hx:cX x=some ax)
  (ho:o.op=.call { callee:=.builtin .len,args := #[x],argTypes := #[t] }) (h:EO st.t ax=some (v,e)):cG P β st.h nid o a w v e:=by
 have hv:=aR hs hx
 unfold EO at h;split at h
 ·rename_i s he
  rw[he]at hv;obtain⟨x0,hv,rfl⟩:=hv;cases h;refine cG.same hs (u:=.int .i64 x0.size) (by simp[execOp,ho,resolve,invoke,builtin,hv,Builtin.len_,run_underlying hu,goInt]) ?_
  show fM _ _=fM _ _
  have:=oG x0
  unfold qV at this;rw[gF,this]
 ·cases h
theorem TX(hs:eC β st a w){x y:Operand}{ax ay:X}{ts:Array TypeId}(hx:cX x=some ax)(hy:cX y=some ay)
  (ho:o.op=.call { callee:=.builtin .min,args := #[x,y],argTypes:=ts }) (h:QA st.t ax ay=some (v,e)):cG P β st.h nid o a w v e:=by
 have hv:=aR hs hx
 have hv':=aR hs hy
 unfold QA at h;split at h
 ·rename_i k m k' n he he'
  rw[he]at hv;rw[he']at hv'
  have hv:a.eval x=.int k m:=hv
  have hv':a.eval y=.int k' n:=hv'
  cases h;refine cG.same hs (u:=.int k (if n<m then n else m)) (by simp[execOp,ho,resolve,invoke,builtin,hv,hv',Builtin.min_,Builtin.min2]) ?_
  show fM _ _=fM _ _
  congr 1;cases hb:OM n m with
  |true=>rw[if_pos (kX.1 hb)]
  |false=>rw[if_neg fun q=>by rw[kX.2 q]at hb;cases hb]
 ·cases h
theorem TY(hs:eC β st a w){x y:Operand}{ax ay:X}{ts:Array TypeId}(hx:cX x=some ax)(hy:cX y=some ay)
  (ho:o.op=.call { callee:=.builtin .max,args := #[x,y],argTypes:=ts }) (h:QB st.t ax ay=some (v,e)):cG P β st.h nid o a w v e:=by
 have hv:=aR hs hx
 have hv':=aR hs hy
 unfold QB at h;split at h
 ·rename_i k m k' n he he'
  rw[he]at hv;rw[he']at hv'
  have hv:a.eval x=.int k m:=hv
  have hv':a.eval y=.int k' n:=hv'
  cases h;refine cG.same hs (u:=.int k (if m<n then n else m)) (by simp[execOp,ho,resolve,invoke,builtin,hv,hv',Builtin.max_,Builtin.max2]) ?_
  show fM _ _=fM _ _
  congr 1;cases hb:OM m n with
  |true=>rw[if_pos (kX.1 hb)]
  |false=>rw[if_neg fun q=>by rw[kX.2 q]at hb;cases hb]
 ·cases h
theorem MG(hs:eC β st a w){x i:Operand}{ax ai:X}{t:TypeId}(hu:P.underlying t=some .string)(hx:cX x=some ax)(hi:cX i=some ai)(ho:o.op=.index t x i)
  (h:EQ st.t ax ai=some (v,e)):cG P β st.h nid o a w v e:=by
 have hv:=aR hs hx
 have hv':=aR hs hi
 unfold EQ at h;split at h
 ·rename_i s k n he he2
  rw[he]at hv;rw[he2]at hv'
  have hv':a.eval i=.int k n:=hv'
  obtain⟨x0,hv,rfl⟩:=hv
  have h0:=eY h
  clear h;obtain⟨hb,h⟩:=h0;rw[bR,fL,kX,gF]at hb;obtain⟨h1,h2⟩:=hb
  have hl:=oG x0
  unfold qV at hl;rw[hl]at h2
  have hlt:n.toNat<x0.size:=by omega
  cases h
  have e1:x0[n.toNat]?=some x0[n.toNat]:=by simp[hlt]
  refine cG.same hs (u:=.int .u8 (x0[n.toNat].toNat:Int)) ?_ ?_
  ·simp[execOp,ho,hv,hv',Instr.index,asIntOf,run_underlying hu,h1,e1]
  ·show fM _ _=fM _ _
   congr 2
   have hl2:n.toNat<x0.data.toList.length:=by simpa using hlt
   rw[eK,List.getD_eq_getElem?_getD,dJ,aN hl2];rfl
 ·cases h
theorem MI(hs:eC β st a w){x i:Operand}{ax ai:X}{t el:TypeId}{sz:Nat}(hu:P.underlying t=some (.slice el))(hz:dK P el=some sz)(hx:cX x=some ax)(hi:cX i=some ai)(ho:o.op=.indexAddr t x i)
  (h:ER st.t sz ax ai=some (v,e)):cG P β st.h nid o a w v e:=by
 have hv:=aR hs hx
 have hv':=aR hs hi
 unfold ER at h;split at h
 ·rename_i id sz' off len k n he he2
  rw[he]at hv;rw[he2]at hv'
  have hv':a.eval i=.int k n:=hv'
  have h0:=eY h
  clear h;obtain⟨hb,h⟩:=h0;rw[bR,bR,fL,kX]at hb;obtain⟨hq,h1,h2⟩:=hb;obtain rfl:=aH hq;obtain⟨A,c,g1,g2,g3,g4⟩:=hv
  rcases g4 with⟨_,g5,_⟩|⟨b,N,g5,rfl,g7⟩
  ·omega
  ·have run:(execOp a.eval o).run P w=.ok (.value (.pointer (some ((⟨b,off*sz,none⟩:Addr).add (n.toNat*sz))))) w:=by
     simp[execOp,ho,g1,hv',Instr.indexAt,asIntOf,run_underlying hu,h1,h2,AE.run_sizeOf hz w]
   cases h;refine cG.same hs run ⟨b,N,g5,?_⟩;rw[AE.add_mid,←dG];rfl
 ·cases h
theorem MJ(hs:eC β st a w){x:Operand}{ax:X}{i:Nat}(hx:cX x=some ax)(ho:o.op=.extract x i)(h:ET st.t ax i=some (v,e)):cG P β st.h nid o a w v e:=by
 have hv:=aR hs hx
 unfold ET at h;split at h
 ·rename_i vs he
  rw[he]at hv;obtain⟨us,hu,hall⟩:=hv
  have h0:=eY h
  clear h;obtain⟨hb,h⟩:=h0
  have hi:i<vs.length:=by rw[gF]at hb;exact aQ hb
  obtain⟨y,hy,hr⟩:=hall.get i vs[i] (aN hi);cases h;rw[FB (aN hi)];refine cG.same hs (u:=y) ?_ (WR.up hr)
  have hy:us[i]?=some y:=by simpa using hy
  simp[execOp,ho,hu,Instr.extract,hy]
 ·cases h
end
open Go.AE (All2 gZ dK iC rA gI iA iB vK lG kN)
section
variable {P:Program} {β:Bt} {w:World} {st:St} {a:Act} {o:Oper} {nid:Nat} {v:V} {e:pZ}
theorem yS{q:C→Value→Prop}:∀(n:Nat) {cs:List C} {us:List Value},n≤cs.length→us.length=n→(∀(j:Nat) c u,cs[j]?=some c→us[j]?=some u→q c u)→All2 q (cs.take n) us
 |0,cs,[],_,_,_=>by simp[All2]
 |0,cs,_::_,_,h,_=>by simp at h
 |n+1,[],_,h,_,_=>by simp at h
 |n+1,c::cs,[],_,h,_=>by simp at h
 |n+1,c::cs,u::us,h,hl,hq=>⟨hq 0 c u rfl rfl,yS n (by simpa using h) (by simpa using hl) fun j c' u' h1 h2=>hq (j+1) c' u' (by simpa using h1) (by simpa using h2)⟩
theorem iX{n:Option Nat}{vs:List C}{k:Nat}{us:List Value}(hk:k+gZ n≤vs.length)(hl:us.length=gZ n)(hq:∀(j:Nat) c u,vs[k+j]?=some c→us[j]?=some u→CR β c u):VR β (BZ vs k n) (AE.ldV us n):=by
 cases n with
 |none=>
  match us,hl with
  |[u],_=>
   have hk:k<vs.length:=hk
   show CR β (bN .top vs k) u
   rw[FB (aN hk)];exact hq 0 _ u (aN hk) rfl
 |some m=>
  refine⟨_,rfl,?_⟩
  show All2 (CR β) (tk m (dp k vs)) us
  rw[AK,GP]
  have hk:k+m≤vs.length:=hk
  refine yS m (by simp;omega) hl fun j c u h1 h2=>hq j c u ?_ h2
  rw[←h1,gS]
theorem MD(hs:eC β st a w){x:Operand}{ax:X}{t:TypeId}{n:Option Nat}(hn:gI P t=some n)(hx:cX x=some ax)(ho:o.op=.load t x)(h:EN st.t st.h n ax=some (v,e)):cG P β st.h nid o a w v e:=by
 have hv:=aR hs hx
 unfold EN at h;split at h
 ·rename_i id off he
  rw[he]at hv;obtain⟨b,N,g1,g2⟩:=hv
  have fin:∀(ty:TypeId) (vs:List C) (cs:Array Value) (fz:Nat×Nat),w.heap[b]?=some (.cells cs ty fz)→vs.length≤cs.size→(∀(k:Nat) c,vs[k]?=some c→∃u,cs[k]?=some u∧CR β c u)→bS (fQ off (gZ n)) (len vs)=true→cG P β st.h nid o a w (BZ vs off n) .no:=by
   intro ty vs cs fz g3 g5 g6 c1
   have hlen:off+gZ n≤vs.length:=by rw[gF]at c1;exact aQ c1
   have hl:(cs.extract off (off+gZ n)).toList.length=gZ n:=by simp;omega
   have hr:w.rangeAt b off (cs.extract off (off+gZ n)).toList:=by
    intro j u hu;rw[bC,cQ]at hu;split at hu
    ·rw[cell_of_row w b (off+j) cs ty fz g3];exact hu
    ·cases hu
   refine cG.same hs (u:=AE.ldV (cs.extract off (off+gZ n)).toList n) ?_ (iX hlen hl ?_)
   ·simp[execOp,ho,g2,AE.run_load_gen hn hl hr,-Array.toList_extract]
   ·intro j c u hc hu
    have hj:j<gZ n:=by have:=(aV.1 hu).1;omega
    obtain⟨u',h5,h6⟩:=g6 (off+j) c hc;rw[bC,cQ,if_pos (by omega),h5]at hu;injection hu with hu;subst hu;exact h6
  split at h
  ·rename_i x0 ty vs hid
   have h0:=eY h
   clear h;obtain⟨c1,h⟩:=h0;cases h
   have hob:=hs.hs.obj id b N g1
   rw[hid]at hob;obtain⟨cs,g3,g4,g5,g6⟩:=hob;exact fin ty vs cs _ g3 (by rw[g4];exact g5.1) g6 c1
  ·rename_i ty vs hid
   have h0:=eY h
   clear h;obtain⟨c1,h⟩:=h0;cases h
   have hob:=hs.hs.obj id b N g1
   rw[hid]at hob;obtain⟨cs,fz,g3,g4,g5,g6⟩:=hob;exact fin ty vs cs fz g3 (by rw[g4];exact g5) g6 c1
  ·rename_i ob vs hid
   have h0:=eY h
   clear h;obtain⟨c1,h⟩:=h0;cases h
   have hob:=hs.hs.obj id b N g1
   rw[hid]at hob;obtain⟨cs,ty,fz,g3,g30,g4,g5,g6⟩:=hob;exact fin ty vs cs fz (g3.trans (congrArg some g30)) (by rw[g4];exact g5) g6 c1
  ·cases h
 ·cases h
theorem mB{x:C}{u:Value}(h:CR β x u)(h1:kZ x=true):u.oneCell'=true:=by
 cases x with
 |f x=>
  cases x with
  |z v=>have h:u=v:=h;subst h;exact h1
  |s l=>obtain⟨x,rfl,_⟩:=h;rfl
  |ptr=>obtain⟨b,o,_,rfl⟩:=h;rfl
  |sl=>obtain⟨A,c,rfl,_⟩:=h;rfl
  |mp=>obtain⟨b,N,_,rfl⟩:=h;rfl
  |yld=>obtain⟨b,N,_,rfl⟩:=h;rfl
  |b=>have h:u=_:=h;subst h;rfl
  |i=>have h:u=_:=h;subst h;rfl
 |fn=>obtain⟨us,vs,rfl,_⟩:=h;rfl
 |ifc=>obtain⟨v,rfl,_⟩:=h;rfl
 |top=>cases h1
theorem kD:∀ {cs:List C} {us:List Value},All2 (CR β) cs us→(∀c∈cs,kZ c=true)→∀v∈us,v.oneCell'=true
 |[],[],_,_,v,hv=>by cases hv
 |[],_::_,h,_,_,_=>h.elim
 |_::_,[],h,_,_,_=>h.elim
 |c::cs,u::us,h,h1,v,hv=>by
  cases hv with
  |head=>exact mB h.1 (h1 c (by simp))
  |tail _ hv=>exact kD h.2 (fun d hd=>h1 d (List.mem_cons_of_mem _ hd)) v hv
theorem iI{x:V}{u:Value}{cs:List C}(h:VR β x u)(hc:x.cells?=some cs)(h1:hH cs=true):All2 (CR β) cs u.cells.toList∧∀v∈u.cells.toList,v.oneCell'=true:=by
 have h1:=gN h1
 cases x with
 |c x=>
  simp only[V.cells?,aD]at hc;subst hc
  have:=mB h (h1 x (by simp))
  rw[AE.cells_one this];exact⟨⟨h,trivial⟩,fun v hv=>by simp at hv;subst hv;exact this⟩
 |a ds=>
  simp only[V.cells?,aD]at hc;subst hc;obtain⟨us,rfl,h2⟩:=h;exact⟨h2,kD h2 h1⟩
 |t vs=>cases hc
theorem YB{i:Nat}{o:O}(h:i≠nid∨(pZ.nw o).isNw=false):i≠nid:=h.resolve_right (by simp[pZ.isNw])
theorem cG.new(hs:eC β st a w)(hid:β nid=none){x:Bool}{u:Value}{us:Array Value}{cs:List C}{ty:TypeId}{f:F}(hr:(execOp a.eval o).run P w=.ok (.value u) (w.alloc (.cells us ty)))
  (hl:cs.length≤us.size) (hx:x=true→cs.length=us.size) (hc:∀(k:Nat) c,cs[k]?=some c→∃u,us[k]?=some u∧CR β c u) (hf:∀β':Bt,β' nid=some (w.heap.size,us.size)→FR β' f u):cG P β st.h nid o a w (.c (.f f)) (.nw (.blk x ty cs)):=by
 obtain⟨h1,h2⟩:=kT hs.hs hid (x:=.blk x ty cs) (o:=.cells us ty) (N:=us.size) (fun w' hb=>⟨us,hb,rfl,⟨hl,hx⟩,fun k c hk=>by
  obtain⟨u,q1,q2⟩:=hc k c hk
  exact⟨u,q1,CR.keep (sX hid) q2⟩⟩)
 refine⟨u,_,_,.inl hr,hf _ (eV _ _ _),?_,h2,fun i hi=>cT _ (YB hi)⟩;rw[zH];exact h1
theorem All2.at_{α γ:Type}{q:α→γ→Prop}{xs:List α}{ys:Array γ}(h:All2 q xs ys.toList):∀(k:Nat) c,xs[k]?=some c→∃u,ys[k]?=some u∧q c u:=fun k c hc=>by
 obtain⟨u,h1,h2⟩:=h.get k c hc;exact⟨u,by simpa using h1,h2⟩
theorem jA{t:TypeId}{z:List C}(h:iE P t=some z):∃v,(∀w,(zeroValue t).run P w=.ok v w)∧z=v.cells.toList.map (fun v=>.f (toF v))∧((P.info? t).bind (·.zero))=some v:=by
 unfold iE at h;cases hq:P.info? t with
 |none=>simp[hq]at h
 |some i=>
  cases hz:i.zero with
  |none=>simp[hq,hz]at h
  |some v=>simp[hq,hz]at h;exact⟨v,fun w=>by simp[zeroValue,typeInfo,hq,hz],by simp[←h],by simp[hz]⟩
theorem DS(hs:eC β st a w)(hid:β nid=none){t:TypeId}{z:List C}(hz:iE P t=some z)(ho:o.op=.alloc t):cG P β st.h nid o a w (.c (.f (.ptr nid 0))) (.nw (.blk true t z)):=by
 obtain⟨v,hv,rfl,_⟩:=jA hz
 refine cG.new hs hid (u:=.pointer (some ⟨w.heap.size,0,none⟩)) (us:=v.cells) ?_ (by simp) (fun _=>by simp) (All2.at_ (nH _)) fun β' hb=>⟨_,_,hb,rfl⟩
 simp[execOp,ho,Instr.alloc,hv,newVar,newRow]
theorem UD(hs:eC β st a w)(hid:β nid=none){t:TypeId}{x:Operand}{ax:X}(hx:cX x=some ax)(ho:o.op=.box t x)(h:JP st.t nid t ax=some (v,e)):cG P β st.h nid o a w v e:=by
 have hv:=aR hs hx
 unfold JP at h;split at h
 ·rename_i cs hc
  have h0:=eY h
  clear h;obtain⟨h1,h⟩:=h0;cases h
  have hcs:=(iI hv hc h1).1
  refine cG.new hs hid (u:=.pointer (some ⟨w.heap.size,0,none⟩)) (us:=(a.eval x).cells) ?_ (by have:=hcs.length;simp at this;omega) (fun _=>by have:=hcs.length;simp at this;omega) (All2.at_ hcs) fun β' hb=>⟨_,_,hb,rfl⟩
  simp[execOp,ho,Instr.box,newVar,newRow]
 ·cases h
theorem UA(hs:eC β st a w){x:Operand}{ax:X}{t:TypeId}{k:Nat}{fs:Array Field}{f:Field}{n:Option Nat}(hf:P.underlying t=some (.struct fs))(hk:fs[k]?=some f)(hn:gI P f.type=some n)(hx:cX x=some ax)(ho:o.op=.field t x k)
  (h:QD st.t f.offset n ax=some (v,e)):cG P β st.h nid o a w v e:=by
 have hv:=aR hs hx
 unfold QD at h;split at h
 ·rename_i cs he
  rw[he]at hv;obtain⟨us,hu,ha⟩:=hv
  have h0:=eY h
  clear h;obtain⟨c1,h⟩:=h0;cases h;rw[gF]at c1
  have c1:f.offset+gZ n≤cs.length:=aQ c1
  have hlen:=ha.length
  have hsz:us.toList.length=us.size:=by simp
  have hl:(us.extract f.offset (f.offset+gZ n)).toList.length=gZ n:=by simp;omega
  refine cG.same hs (u:=AE.ldV (us.extract f.offset (f.offset+gZ n)).toList n) ?_ (iX c1 hl ?_)
  ·cases n with
   |none=>
    have hlt:f.offset<us.size:=by simp only[gZ]at c1;omega
    simp[execOp,ho,hu,Instr.field,run_underlying hf,hk,asAgg,part,AE.run_isAgg (AE.cellsO_none hn),hlt,AE.ldV,gZ]
   |some m=>
    obtain⟨h1,h2⟩:=AE.cellsO_some hn;simp[execOp,ho,hu,Instr.field,run_underlying hf,hk,asAgg,part,AE.run_isAgg h1,AE.run_sizeOf h2,AE.ldV,gZ,-Array.toList_extract]
  ·intro j c u hc hj
   have hjl:j<gZ n:=by have:=(aV.1 hj).1;omega
   obtain⟨u',q1,q2⟩:=ha.get (f.offset+j) c hc;rw[bC,cQ,if_pos (by omega)]at hj;rw[bC,hj]at q1;injection q1 with q1;subst q1;exact q2
 ·cases h
theorem JA{vs cs:List C}{o k:Nat}(hl:o+cs.length≤vs.length):(jK vs o cs)[k]?=if o≤k∧k<o+cs.length then cs[k-o]? else vs[k]?:=by
 unfold jK;rw[jQ,jQ,AK,GP,gF]
 have e1:(List.take o vs).length=o:=by simp;omega
 show (List.take o vs++(cs++List.drop (o+cs.length) vs))[k]?=_
 by_cases h1:k<o
 ·rw[cZ (by omega),List.getElem?_take_of_lt h1,if_neg (by omega)]
 ·rw[eF (by omega),e1]
  by_cases h2:k<o+cs.length
  ·rw[if_pos ⟨by omega,h2⟩,cZ (by omega)]
  ·rw[if_neg (by omega),eF (by omega),gS]
   congr 1;omega
theorem uN{vs cs:List C}{o:Nat}(hl:o+cs.length≤vs.length):(jK vs o cs).length=vs.length:=by
 unfold jK;rw[jQ,jQ,AK,GP,gF]
 show (List.take o vs++(cs++List.drop (o+cs.length) vs)).length=_
 simp;omega
theorem AG(hh:HS β w st.h){id b N off:Nat}{x:Bool}{ty:TypeId}{vs cs:List C}{us:List Value}(hid:β id=some (b,N))(hv:st.h id=.blk x ty vs)(hl:off+cs.length≤vs.length)(hc:All2 (CR β) cs us) :
  HS β (w.setCells b off us) (fu st.h id (.blk x ty (jK vs off cs)))∧Gr β w β (w.setCells b off us)∧w.there b off us.length:=by
 have hob:=hh.obj id b N hid
 rw[hv]at hob;obtain⟨xs,g3,g4,g5,g6⟩:=hob;obtain⟨p1,p2,p3,p4⟩:=AE.setCells_parts us w b off
 have hnew:=AE.heap_setCells us w b off xs ty g3
 have hlen:=hc.length
 have key:OR β (w.setCells b off us) (.blk x ty (jK vs off cs)) b N:=by
  refine⟨_,hnew,by rw[AE.setA_size];exact g4,⟨by rw[uN hl];exact g5.1,fun hx=>by rw[uN hl];exact g5.2 hx⟩,fun k c hk=>?_⟩;rw[JA hl]at hk
  have hget:=fun hj=>AE.setA_get us xs off k hj
  split at hk
  ·rename_i hin
   obtain⟨u,q1,q2⟩:=hc.get (k-off) c hk;refine⟨u,?_,q2⟩;rw[hget (by omega),if_pos (by omega)];exact q1
  ·rename_i hin
   obtain⟨u,q1,q2⟩:=g6 k c hk;refine⟨u,?_,q2⟩;rw[hget (by have:=(bF.1 q1).1;exact this),if_neg (by omega)];exact q1
 obtain⟨r1,r2⟩:=pP hh hid (by rw[hv];rfl) p1 p2 p3 p4 (fun j hj=>AE.setCells_other us w b off j hj) key;exact⟨r1,r2,AE.there_of_block g3 (by omega)⟩
theorem DP(hs:eC β st a w){x y:Operand}{ax ay:X}{t:TypeId}{n:Nat}(hn:dK P t=some n)(hx:cX x=some ax)(hy:cX y=some ay)(ho:o.op=.store t x y)
  (h:xP st.t st.h n ax ay=some (v,e)):cG P β st.h nid o a w v e:=by
 have hv:=aR hs hx
 have hw:=aR hs hy
 unfold xP at h;split at h
 ·rename_i cs hcs
  split at h
  ·rename_i id off he
   rw[he]at hv;obtain⟨b,N,g1,g2⟩:=hv;split at h
   ·rename_i x0 ty vs hid
    have h0:=eY h
    clear h;obtain⟨c1,h⟩:=h0;cases h;rw[bR,bR,gF,gF]at c1;obtain⟨c1,c2,c3⟩:=c1
    have c1:=aH c1
    have c2:=aQ c2
    obtain⟨d1,d2⟩:=iI hw hcs c3
    have hsz:(a.eval y).cells.size=n:=by have:=d1.length;simp at this;omega
    have c2:off+n≤vs.length:=c2
    obtain⟨r1,r2,r3⟩:=AG hs.hs g1 hid (off:=off) (by omega) d1
    have hrun:=AE.run_store_gen (P:=P) (w:=w) hn hsz (b:=b) (q:=off) (by simpa using r3) d2
    refine⟨undef,_,β,.inr ⟨?_,rfl⟩,⟨#[],rfl,trivial⟩,?_,r2,fun _ _=>rfl⟩
    ·simp[execOp,ho,g2,hrun]
    ·rw[zG];exact r1
   ·cases h
  ·cases h
 ·cases h
theorem kU(hs:eC β st a w)(pl:Nat→Option (Nat×Nat)):∀(ps:List (Nat×Operand)) (l:List (Nat×Nat×X)) (vs vs':List C) (cells:Array Value),jI pl ps=some l→jL st.t l vs=some vs'→All2 (CR β) vs cells.toList →
  ∃cells',Instr.fill pl cells (ps.map fun(x:Nat×Operand)=>(x.1,a.eval x.2))=some cells'∧All2 (CR β) vs' cells'.toList
 |[],l,vs,vs',cells,hl,hf,hc=>by
  simp only[jI,aD]at hl;subst hl
  have hf:some vs=some vs':=hf
  cases hf;exact⟨cells,rfl,hc⟩
 |(i,x)::ps,l,vs,vs',cells,hl,hf,hc=>by
  simp only[jI]at hl;cases hp:pl i with
  |none=>simp[hp]at hl
  |some p=>
   obtain⟨off,s⟩:=p;cases hx:cX x with
   |none=>simp[hp,hx]at hl
   |some ax=>
    cases hr:jI pl ps with
    |none=>simp[hp,hx,hr]at hl
    |some l'=>
     simp only[hp,hx,hr,aK,aE,gT,aD]at hl;subst hl
     have hf:(match (ev st.t ax).cells? with
      |some cs=>match eB (bE (len cs) s) (eB (bS (fQ off s) (len vs)) (hH cs)) with
       |true=>jL st.t l' (jK vs off cs)
       |false=>none
      |none=>none)=some vs':=hf
     cases hcs:(ev st.t ax).cells? with
     |none=>simp[hcs]at hf
     |some cs=>
      simp only[hcs]at hf;split at hf
      ·rename_i hb
       rw[bR,bR,gF,gF]at hb;obtain⟨h1,h2,h3⟩:=hb
       have h1:=aH h1
       have h2:off+s≤vs.length:=aQ h2
       obtain⟨c1,_⟩:=iI (aR hs hx) hcs h3
       have hsz:(a.eval x).cells.size=s:=by have:=c1.length;simp at this;omega
       have hcl:vs.length=cells.size:=by simpa using hc.length
       have hset:All2 (CR β) (jK vs off cs) (AE.setA cells off (a.eval x).cells.toList).toList:=by
        refine AE.All2.of_get ?_ ?_
        ·rw[uN (by omega)];simp[AE.setA_size];omega
        ·intro k c u hk hu
         rw[JA (by omega)]at hk
         have hkl:k<cells.size:=by
          have:=(aV.1 hu).1;simpa[AE.setA_size] using this
         rw[bC,AE.setA_get _ _ _ _ hkl]at hu
         have hl2:=c1.length
         split at hk
         ·rename_i hin
          rw[if_pos (by omega)]at hu;obtain⟨u',q1,q2⟩:=c1.get _ _ hk;rw[hu]at q1;injection q1 with q1;subst q1;exact q2
         ·rename_i hin
          rw[if_neg (by omega)]at hu;obtain⟨u',q1,q2⟩:=hc.get _ _ hk;rw[bC,hu]at q1;injection q1 with q1;subst q1;exact q2
       obtain⟨cells',h4,h5⟩:=kU hs pl ps l' _ vs' _ hr hf hset;refine⟨cells',?_,h5⟩;simp only[List.map_cons,Instr.fill,hp];rw[if_neg (by simp;omega),AE.fill_step];exact h4
      ·cases hf
theorem KM{t:Nat→V}:∀(l:List (Nat×Nat×X)) (vs vs':List C),jL t l vs=some vs'→vs'.length=vs.length
 |[],vs,vs',h=>by have h:some vs=some vs':=h;cases h;rfl
 |(o,s,x)::r,vs,vs',h=>by
  have h:(match (ev t x).cells? with
      |some cs=>match eB (bE (len cs) s) (eB (bS (fQ o s) (len vs)) (hH cs)) with
       |true=>jL t r (jK vs o cs)
       |false=>none
      |none=>none)=some vs':=h
  split at h
  ·rename_i cs hcs
   split at h
   ·rename_i hb
    rw[bR,bR,gF,gF]at hb;obtain⟨h1,h2,h3⟩:=hb
    have h1:=aH h1
    have h2:o+s≤vs.length:=aQ h2
    rw[KM r _ _ h,uN (by omega)]
   ·cases h
  ·cases h
theorem tQ(hs:eC β st a w){t:TypeId}{ps:Array (Nat×Operand)}{z:List C}{l:List (Nat×Nat×X)}{pl:Nat→Option (Nat×Nat)}(hz:iE P t=some z)(hl:jI pl ps.toList=some l)
  (ht:(∃fs places,P.underlying t=some (.struct fs)∧fs.toList.mapM (fun f=>(P.info? f.type).map fun i=>(f.offset,i.size))=some places∧pl=fun i=>places[i]?)∨(∃n e s,P.underlying t=some (.array n e)∧dK P e=some s∧pl=fun i=>some (i*s,s)))
  (ho:o.op=.build t ps) (h:xR st.t z l=some (v,e)):cG P β st.h nid o a w v e:=by
 obtain⟨v0,hv,rfl,_⟩:=jA hz;unfold xR at h;split at h
 ·rename_i cs hcs
  cases h;obtain⟨cells',h1,h2⟩:=kU hs pl ps.toList l _ cs v0.cells hl hcs (nH _);refine cG.same hs (u:=.agg cells') ?_ ⟨cells',rfl,h2⟩
  rcases ht with⟨fs,places,hu,hp,rfl⟩|⟨n,e,s,hu,hp,rfl⟩
  ·simp[execOp,ho,Instr.build,run_underlying hu,hv,Array.mapM_eq_mapM_toList,run_places w _ _ hp,h1]
  ·simp[execOp,ho,Instr.build,run_underlying hu,hv,AE.run_sizeOf hp,h1]
 ·cases h
theorem JC{z:List C}{n:Nat}:vH z (n+1)=ap z (vH z n):=rfl
theorem pI{q:C→Value→Prop}{cs:List C}{us:List Value}(h:All2 q cs us):∀n:Nat,All2 q (vH cs n) (AE.replV us n)
 |0=>trivial
 |n+1=>by rw[JC,jQ];exact h.append (pI h n)
theorem tL(cs:List C):∀n:Nat,(vH cs n).length=n*cs.length
 |0=>by rw[Nat.zero_mul];rfl
 |n+1=>by rw[JC,jQ];simp[tL cs n,dG];omega
theorem UC(hs:eC β st a w)(hid:β nid=none){t el:TypeId}{sz n:Nat}{ps:Array (Nat×Operand)}{z:List C}{l:List (Nat×Nat×X)}(hu:P.underlying t=some (.slice el))(hsz:dK P el=some sz)(hz:iE P el=some z)(hl:jI (fun i=>some (i*sz,sz)) ps.toList=some l)
  (ho:o.op=.buildSlice t n ps) (h:JO st.t nid el sz n z l=some (v,e)):cG P β st.h nid o a w v e:=by
 obtain⟨v0,hv,rfl,_⟩:=jA hz;unfold JO at h;split at h
 ·rename_i cs hcs
  have h0:=eY h
  clear h;obtain⟨c1,h⟩:=h0;cases h;rw[bR,bR,gF,gP]at c1;obtain⟨c1,c3,c2⟩:=c1
  have c1:v0.cells.size=sz:=by simpa using aH c1
  have c3:0<sz:=aQ c3
  have c2:n*sz≤16777216:=aQ c2
  subst c1
  have hstart:((Array.range (n*v0.cells.size)).map (fun i=>v0.cells[i%v0.cells.size]!)).toList=AE.replV v0.cells.toList n:=by
   rw[Array.toList_map,Array.toList_range,AE.range_cells v0.cells c3 n]
  obtain⟨cells',h1,h2⟩:=kU hs _ ps.toList l _ cs ((Array.range (n*v0.cells.size)).map (fun i=>v0.cells[i%v0.cells.size]!)) hl hcs (by rw[hstart];exact pI (nH _) n)
  have hlen:cs.length=n*v0.cells.size:=by
   rw[KM _ _ _ hcs,tL];simp
  have hcl:cells'.size=n*v0.cells.size:=by have:=h2.length;simp at this;omega
  refine cG.new hs hid (u:=.slice (some ⟨w.heap.size,0,none⟩) n n) (us:=cells') ?_ (by omega) (fun _=>by omega) (All2.at_ h2) fun β' hb=>?_
  ·have hne:¬(n*v0.cells.size>2^24):=by omega
   have e1:n*v0.cells.size=0→(Array.range (n*v0.cells.size)).map (fun _=>(default:Value))=(Array.range (n*v0.cells.size)).map (fun i=>v0.cells[i%v0.cells.size]!):=fun h0=>by simp[h0]
   simp only[execOp,ho,Instr.buildSlice];simp[run_underlying hu,AE.run_sizeOf hsz,if_neg hne]
   by_cases h0:n*v0.cells.size=0
   ·rw[if_pos h0,e1 h0,h1]
    simp[newRow]
   ·rw[if_neg h0,hv]
    simp[h1,newRow]
  ·refine⟨_,n,rfl,Nat.le_refl _,fun _=>by unfold maxLen;have:n*1≤n*v0.cells.size:=Nat.mul_le_mul_left _ c3;omega,.inr ⟨w.heap.size,_,hb,by simp,by rw[hcl];simp,fun _=>by rw[hcl];simp⟩⟩
 ·cases h
end
open Go.AE (All2 gZ dK iC rA gI iA iB vK lG kN)
section
variable {P:Program} {β:Bt} {w:World} {st:St} {a:Act} {o:Oper} {nid:Nat} {v:V} {e:pZ}
def ZR(β:Bt)(w:World)(sz m:Nat)(cs:List C)(v:Value):Prop:=
 ∃(A:Option Addr) (c:Nat) (news:List Value),v=.slice A m c∧news.length=m*sz∧(A=none→m=0)∧(∀ad,A=some ad→∀j u,news[j]?=some u→w.cell? (ad.add j)=some u)∧All2 (CR β) cs news
theorem yU(hs:eC β st a w){x:Operand}{ax:X}(hx:cX x=some ax){sz m:Nat}{cs:List C}(h:OY st.h sz (ev st.t ax)=some (m,cs)):ZR β w sz m cs (a.eval x):=by
 have hv:=aR hs hx
 unfold OY at h;split at h
 ·rename_i he
  rw[he]at hv;cases h;exact⟨none,0,[],hv,by simp,fun _=>rfl,fun ad h=>by(cases h),trivial⟩
 ·rename_i id sz' off n he
  rw[he]at hv
  have fin:∀(ty:TypeId) (vs:List C),(∀b N,β id=some (b,N)→∃(cs:Array Value) (fz:Nat×Nat),w.heap[b]?=some (.cells cs ty fz)∧vs.length≤cs.size∧∀(k:Nat) c,vs[k]?=some c→∃u,cs[k]?=some u∧CR β c u)→sz=sz'→(off+n)*sz≤vs.length→ZR β w sz n (tk (gH n sz) (dp (gH off sz) vs)) (a.eval x):=by
   intro ty vs hob hsz h1;subst hsz;obtain⟨A,c,g1,g2,g3,g4⟩:=hv
   rcases g4 with⟨_,rfl,rfl⟩|⟨b,N,g5,rfl,g7⟩
   ·refine⟨A,0,[],g1,by simp,fun _=>rfl,fun ad h j u hu=>by simp at hu,?_⟩
    have:gH 0 sz=0:=Nat.zero_mul _
    rw[this];exact trivial
   ·obtain⟨cs,fz,q1,q3,q4⟩:=hob b N g5
    rw[dG]at h1;refine⟨_,c,(cs.extract (off*sz) (off*sz+n*sz)).toList,g1,by simp;omega,(fun h=>by cases h),?_,?_⟩
    ·intro ad had j u hu
     injection had with had;subst had;rw[AE.add_mid,cell_of_row w b _ cs ty fz q1];rw[bC,cQ]at hu;split at hu
     ·exact hu
     ·cases hu
    ·rw[AK,GP]
     have e1:gH n sz=n*sz:=rfl
     have e2:gH off sz=off*sz:=rfl
     rw[e1,e2]
     refine yS (n*sz) (by simp;omega) (by simp;omega) fun j c' u hc hu=>?_
     rw[gS]at hc;obtain⟨u',q5,q6⟩:=q4 _ _ hc;rw[bC,cQ]at hu;split at hu
     ·rw[q5]at hu;injection hu with hu;subst hu;exact q6
     ·cases hu
  split at h
  ·rename_i x0 ty vs hid
   split at h
   ·rename_i hb
    cases h;rw[bR,gF]at hb;refine fin ty vs (fun b N g5=>?_) (aH hb.1) (aQ hb.2)
    have hob:=hs.hs.obj id b N g5
    rw[hid]at hob;obtain⟨cs,q1,q2,q3,q4⟩:=hob;exact⟨cs,_,q1,by rw[q2];exact q3.1,q4⟩
   ·cases h
  ·rename_i ty vs hid
   split at h
   ·rename_i hb
    cases h;rw[bR,gF]at hb;refine fin ty vs (fun b N g5=>?_) (aH hb.1) (aQ hb.2)
    have hob:=hs.hs.obj id b N g5
    rw[hid]at hob;obtain⟨cs,fz,q1,q2,q3,q4⟩:=hob;exact⟨cs,fz,q1,by rw[q2];exact q3,q4⟩
   ·cases h
  ·cases h
 ·cases h
def SR(β:Bt)(w:World)(h:Nat→O)(ty:TypeId)(sz n:Nat)(vs:List C)(old:Option Nat)(v:Value):Prop:=
 (v=.slice none 0 0∧n=0∧vs=[])∨∃id b N c cs,old=some id∧β id=some (b,N)∧(h id).live=true∧v=.slice (some ⟨b,0,none⟩) n c∧n≤c∧c≤maxLen∧w.heap[b]?=some (.cells cs ty (0,0))∧cs.size=c*sz∧vs.length=n*sz ∧
  ∀(k:Nat) x,vs[k]?=some x→∃u,cs[k]?=some u∧CR β x u
theorem LA(hs:eC β st a w){x:Operand}{ax:X}(hx:cX x=some ax){ty sz n:Nat}{vs:List C}{old:Option Nat}(h:WF st.h ty sz (ev st.t ax)=some (n,vs,old)):SR β w st.h ty sz n vs old (a.eval x):=by
 have hv:=aR hs hx
 unfold WF at h;split at h
 ·rename_i he
  rw[he]at hv;cases h;exact .inl ⟨hv,rfl,rfl⟩
 ·rename_i id sz' off len he
  rw[he]at hv;split at h
  ·rename_i x0 ty' vs' hid
   split at h
   ·rename_i hb
    cases h;rw[bR,bR,bR,gF]at hb;obtain⟨b1,b2,b3,b4⟩:=hb;obtain rfl:=aH b1;obtain rfl:=aH b2;obtain rfl:=aH b3
    have b4:n*sz=vs.length:=aH b4
    obtain⟨A,c,g1,g2,g3,g4⟩:=hv
    rcases g4 with⟨hA,rfl,rfl⟩|⟨b,N,g5,rfl,g7⟩
    ·obtain rfl:A=none:=hA.resolve_right (by omega)
     refine .inl ⟨g1,rfl,?_⟩;rw[Nat.zero_mul]at b4;exact eU b4.symm
    ·have hob:=hs.hs.obj id b N g5
     rw[hid]at hob;obtain⟨cs,q1,q2,q3,q4⟩:=hob;exact .inr ⟨id,b,N,c,cs,rfl,g5,by rw[hid];rfl,by rw[g1];simp,g2,g3 rfl,q1,by rw[q2,←g7.2 rfl];simp,b4.symm,q4⟩
   ·cases h
  ·cases h
 ·cases h
def aKZ(h:Nat→O)(old:Option Nat):Nat→O:=match old with
 |none=>h
 |some id=>fu h id .gone
theorem aIX{old:Option Nat}{h:Nat→O}{x:O}:pZ.mem (.app old x) nid h=fu (aKZ h old) nid x:=by
 cases old with
 |none=>exact zH
 |some id=>exact aE7
theorem yJ(hs:eC β st a w)(hid:β nid=none){x:Operand}{el:TypeId}{sz n m:Nat}{vs cn:List C}{old:Option Nat}{news:List Value}(c0:0<sz)(hd:SR β w st.h el sz n vs old (a.eval x))(s2:news.length=m*sz)(s5:All2 (CR β) cn news)
  (hrun:∀xs,w.ownsRow 0 el sz (a.eval x) n xs→∃v' w',(execOp a.eval o).run P w=.ok (.value v') w'∧w'.ownsRow 0 el sz v' (n+m) (xs++news)∧w.grownBy w' (a.eval x).ownBlock∧(v'.ownBlock=(a.eval x).ownBlock∨v'.ownBlock=some w.heap.size)) :
  cG P β st.h nid o a w (.c (.f (.sl true nid sz 0 (n+m)))) (.app old (.blk false el (vs++cn))):=by
 obtain⟨xs,hown,hxs⟩:∃xs,w.ownsRow 0 el sz (a.eval x) n xs∧All2 (CR β) vs xs:=by
  rcases hd with⟨hv,rfl,rfl⟩|⟨id,b,N,c',cs,rfl,d1,d2,d3,d4,d5,d6,d7,d8,d9⟩
  ·exact⟨[],⟨by simp,.inl ⟨hv,rfl⟩⟩,trivial⟩
  ·have hle:n*sz≤c'*sz:=bP sz d4
   refine⟨cs.toList.take (n*sz),⟨by simp;omega,.inr ⟨b,c',cs,d3,bH _,d6,d4,d5,d7,rfl⟩⟩,?_⟩
   refine AE.All2.of_get (by simp;omega) fun k c u hc hu=>?_
   obtain⟨u',q1,q2⟩:=d9 k c hc
   have hk:k<n*sz:=by have:=(aV.1 hc).1;omega
   rw[List.getElem?_take_of_lt hk,bC,q1]at hu;injection hu with hu;subst hu;exact q2
 obtain⟨v',w',hexec,r1,r2,r3⟩:=hrun xs hown
 have hcells:All2 (CR β) (vs++cn) (xs++news):=hxs.append s5
 have hblk:∀g,(a.eval x).ownBlock=some g→∃id N,old=some id∧β id=some (g,N)∧(st.h id).live=true:=by
  intro g hg
  rcases hd with⟨hv,_⟩|⟨id,b,N,c',cs,rfl,d1,d2,d3,_⟩
  ·rw[hv]at hg;cases hg
  ·rw[d3]at hg
   have:b=g:=by simpa[Value.ownBlock] using hg
   subst this;exact⟨id,N,rfl,d1,d2⟩
 have hnb:∀b N,v'=.slice (some ⟨b,0,none⟩) (n+m) N→(a.eval x).ownBlock=some b∨b=w.heap.size:=by
  intro b N hv;rw[hv]at r3
  rcases r3 with r3|r3
  ·left;rw[←r3];simp[Value.ownBlock]
  ·right;simpa[Value.ownBlock] using r3
 obtain⟨h0,hh0⟩:∃h0:Nat→O,h0=aKZ st.h old:=⟨_,rfl⟩
 have hmem:pZ.mem (.app old (.blk false el (vs++cn))) nid st.h=fu h0 nid (.blk false el (vs++cn)):=by rw[aIX,hh0]
 have hs0:HS β w h0:=by rw[hh0];cases old with|none=>exact hs.hs|some id=>exact aJD hs.hs id
 have hother:∀i b N,β i=some (b,N)→(h0 i).live=true→(a.eval x).ownBlock≠some b:=by
  intro i b N hi hl hg;obtain⟨id,N',rfl,h2,h3⟩:=hblk b hg;rw[hh0]at hl
  have hl:(fu st.h id .gone i).live=true:=hl
  by_cases e:i=id
  ·subst e;rw[eV]at hl;cases hl
  ·rw[cT _ e]at hl
   exact e (hs.hs.inj i id b N N' hi h2 hl h3)
 have hfr:∀β':Bt,Mo β β'→(∀i b N,β' i=some (b,N)→(∃j N',β j=some (b,N'))∨w.heap.size≤b)→Gr β w β' w':=fun β' hm hex=>{
  os:=r2.os,tape:=r2.tape,output:=r2.output,size:=r2.size
  fr:=fun b hb hn=>r2.block b hb (fun e=>by
   obtain⟨id,N,_,h2,_⟩:=hblk b e.symm
   exact hn id N h2)
  ex:=hex
  bm:=hm }
 have hobj:∀β':Bt,Mo β β'→∀i b N,β i=some (b,N)→OR β' w' (h0 i) b N:=by
  intro β' hm i b N hi;cases hl:(h0 i).live with
  |false=>cases hq:h0 i<;>rw[hq]at hl<;>first|exact trivial|cases hl
  |true=>exact OR.keep hm (r2.block b (hs.hs.lt i b N hi) (fun e=>hother i b N hi hl e.symm)) (hs0.obj i b N hi)
 rcases r1.2 with⟨rfl,hz0⟩|⟨gb,cap,cur,rfl,_,hg1,hg2,hg3,hg4,hg5⟩
 ·
   refine⟨_,w',β,.inl hexec,⟨none,0,by rw[hz0],by omega,fun _=>by unfold maxLen;omega,.inl ⟨.inl rfl,hz0,rfl⟩⟩,?_,hfr β (fun _ _ h=>h) (fun i b N h=>.inl ⟨i,N,h⟩),fun _ _=>rfl⟩;rw[hmem]
   have hne:∀i b N,β i=some (b,N)→i≠nid:=fun i b N hi e=>by rw[e,hid]at hi;cases hi
   refine⟨?_,fun i b N hi=>cI (hs.hs.lt i b N hi) r2.size,?_⟩
   ·intro i j b o1 o2 hi hj li lj
    rw[cT _ (hne i _ _ hi)]at li;rw[cT _ (hne j _ _ hj)]at lj;exact hs0.inj i j b o1 o2 hi hj li lj
   ·intro i b N hi
    rw[cT _ (hne i _ _ hi)];exact hobj β (fun _ _ h=>h) i b N hi
 ·have hfresh:=hnb gb cap rfl
  have hm:=sX (x:=(gb,cap*sz)) hid
  refine⟨_,w',fu β nid (some (gb,cap*sz)),.inl hexec,⟨_,cap,rfl,hg2,fun _=>hg3,.inr ⟨gb,cap*sz,eV _ _ _,by simp,by simp,fun _=>by simp⟩⟩,?_,hfr _ hm ?_,fun i hi=>cT _ (hi.resolve_right (by cases old<;>simp[pZ.app,pZ.isNw]))⟩
  ·rw[hmem]
   refine⟨?_,?_,?_⟩
   ·intro i j b o1 o2 hi hj li lj
    have nofresh:∀j o2,j≠nid→β j=some (gb,o2)→(h0 j).live=true→False:=fun j o2 hj1 hj2 hl=>by
     rcases hfresh with hq|hq
     ·exact hother j _ _ hj2 hl hq
     ·have:=hs.hs.lt j _ _ hj2;omega
    by_cases ei:i=nid
    ·by_cases ej:j=nid
     ·omega
     ·subst ei
      rw[eV]at hi;rw[cT _ ej]at hj lj;injection hi with hi;injection hi with hi _;subst hi;exact(nofresh j _ ej hj lj).elim
    ·rw[cT _ ei]at hi li
     by_cases ej:j=nid
     ·subst ej
      rw[eV]at hj;injection hj with hj;injection hj with hj _;subst hj;exact(nofresh i _ ei hi li).elim
     ·rw[cT _ ej]at hj lj
      exact hs0.inj i j b o1 o2 hi hj li lj
   ·intro i b N hi
    by_cases ei:i=nid
    ·subst ei
     rw[eV]at hi;injection hi with hi;injection hi with hi _;subst hi;exact(bF.1 hg1).1
    ·rw[cT _ ei]at hi
     exact cI (hs.hs.lt i b N hi) r2.size
   ·intro i b N hi
    by_cases ei:i=nid
    ·subst ei
     rw[eV]at hi ⊢;injection hi with hi;injection hi with hi hN;subst hi;subst hN
     have hlen:=hcells.length
     have hl2:(xs++news).length=(n+m)*sz:=r1.1
     refine⟨cur,hg1,hg4,⟨by rw[hlen,hl2];exact bP sz hg2,fun h=>by cases h⟩,fun k c hc=>?_⟩;obtain⟨u,q1,q2⟩:=hcells.get k c hc;refine⟨u,?_,CR.keep hm q2⟩
     have hk:k<(n+m)*sz:=by have:=(aV.1 q1).1;omega
     rw[←hg5,List.getElem?_take_of_lt hk]at q1;simpa using q1
    ·rw[cT _ ei]at hi ⊢
     exact hobj _ hm i b N hi
  ·intro i b N hi
   by_cases ei:i=nid
   ·subst ei
    rw[eV]at hi;injection hi with hi;injection hi with hi _;subst hi
    rcases hfresh with hq|hq
    ·obtain⟨id,N',_,h2,_⟩:=hblk _ hq
     exact .inl ⟨id,N',h2⟩
    ·exact .inr (by omega)
   ·rw[cT _ ei]at hi;exact .inl ⟨i,N,hi⟩
set_option maxHeartbeats 1000000 in
theorem UE(hs:eC β st a w)(hid:β nid=none){x y:Operand}{ax ay:X}{t el:TypeId}{sz bytes:Nat}{z:List C}(hu:P.underlying t=some (.slice el))(hsz:dK P el=some sz)(hby:iC P el=some bytes)(hz:iE P el=some z)(hx:cX x=some ax)(hy:cX y=some ay)
  (ho:o.op=.call { callee:=.builtin .append,args := #[x,y],argTypes := #[t,t] }) (h:JQ st.t st.h nid el sz bytes z ax ay=some (v,e)):cG P β st.h nid o a w v e:=by
 unfold JQ at h;split at h
 case h_2=>cases h
 rename_i m news n vs old hsrc hdst
 have h0:=eY h
 clear h;obtain⟨hb,h⟩:=h0;cases h;rw[bR,bR,bR,bR,gF]at hb;obtain⟨⟨b0,bz⟩,b1,b2,b3⟩:=hb
 have c0:0<sz:=aQ b0
 have b1:(n+m)*bytes≤140737488355328:=aQ b1
 have b2:n+m≤140737488355328:=aQ b2
 have hd:=LA hs hx hdst
 obtain⟨A,c,nw,s1,s2,s3,s4,s5⟩:=yU hs hy hsrc
 have hones:∀u∈nw,u.oneCell'=true:=kD s5 (gN b3)
 obtain⟨i,hi⟩:∃i,P.info? el=some i:=by
  unfold dK at hsz;cases hq:P.info? el with
  |none=>simp[hq]at hsz
  |some i=>exact⟨i,rfl⟩
 have hisz:i.size=sz:=by simpa[dK,hi] using hsz
 have hiby:i.bytes=bytes:=by simpa[iC,hi] using hby
 rw[jQ];obtain⟨zv,_,hzl,hiz⟩:=jA hz
 have hiz:i.zero=some zv:=by simpa[hi] using hiz
 have hzs:zv.cells.size=sz:=by
  have:=aH bz
  rw[hzl]at this;simpa using this
 refine yJ hs hid (x:=x) (sz:=sz) c0 hd s2 s5 fun xs hown=>?_
 obtain⟨v',w',hrun,r1,r2,r3⟩:∃v' w',(Builtin.append_ #[t,t] o.type #[a.eval x,a.eval y]).run P w=.ok v' w'∧w'.ownsRow 0 el sz v' (n+m) (xs++nw)∧w.grownBy w' (a.eval x).ownBlock∧(v'.ownBlock=(a.eval x).ownBlock∨v'.ownBlock=some w.heap.size):=by
  rw[s1];cases A with
  |some ad=>
   obtain⟨v',w',q1,q2,q3,_,q4⟩:=run_append_own_at (P:=P) w 0 t o.type el i zv sz bytes hu hi hiz hisz hiby hzs c0 (a.eval x) n xs hown ad m c nw s2 (s4 ad rfl) hones (by unfold maxLen;omega) b1 (bH _);exact⟨v',w',q1,q2,q3,q4⟩
  |none=>
   have hm:=s3 rfl
   subst hm
   have hnil:nw=[]:=eU (by simpa using s2)
   subst hnil;refine⟨a.eval x,w,?_,by simpa using hown,World.grownBy.refl w _,.inl rfl⟩
   rcases hown.2 with⟨hv,h0⟩|⟨gb,cap,cur,hv,_,_,hnc,_⟩
   ·rw[hv];simp[Builtin.append_,run_underlying hu,sizeOf,typeInfo,hi,Builtin.lenOf,Builtin.firstCells]
   ·rw[hv];simp[Builtin.append_,run_underlying hu,sizeOf,typeInfo,hi,Builtin.lenOf,Builtin.firstCells,hnc,storeCells]
 exact⟨v',w',by simp[execOp,ho,resolve,invoke,builtin,hrun],r1,r2,r3⟩
theorem aHZ(hs:eC β st a w)(hid:β nid=none){x y:Operand}{ax ay:X}{t u el:TypeId}(ht:P.underlying t=some (.slice el))(hu:P.underlying u=some .string)(hb:WM P el=true)(hx:cX x=some ax)(hy:cX y=some ay)
  (ho:o.op=.call { callee:=.builtin .append,args := #[x,y],argTypes := #[t,u] }) (h:zC st.t st.h nid el ax ay=some (v,e)):cG P β st.h nid o a w v e:=by
 have hv:=aR hs hy
 unfold zC at h;split at h
 case h_2=>cases h
 rename_i l n vs old hey hdst;rw[hey]at hv;obtain⟨s,hv,rfl⟩:=hv
 have h0:=eY h
 clear h;obtain⟨b2,h⟩:=h0;cases h
 have hln:=oG s
 unfold qV at hln;rw[gF,hln]at b2
 have b2:n+s.size≤140737488355328:=aQ b2
 have hd:=LA hs hx hdst
 obtain⟨i,hi,hz,h1,hb⟩:∃i,P.info? el=some i∧i.zero=some (.int .u8 0)∧i.size=1∧i.bytes=1:=by
  unfold WM at hb;split at hb
  ·rename_i i hi
   split at hb
   ·rename_i hz
    rw[bR]at hb;exact⟨i,hi,hz,aH hb.1,aH hb.2⟩
   ·cases hb
  ·cases hb
 have hsrc:All2 (CR β) (mp (fun k=>C.f (.i .u8 (aF k))) (s.data.toList.map eT)) (Lib.strCells s):=by
  rw[QK,List.map_map]
  exact AE.All2.map_left _ (by
   unfold Lib.strCells
   have:∀l:List UInt8,All2 (fun(x:UInt8) y=>CR β (((fun k=>C.f (.i .u8 (aF k)))∘eT) x) y) l (l.map fun b=>.int .u8 (b.toNat:Int)):=by
    intro l;induction l with
    |nil=>trivial
    |cons c l ih=>exact⟨rfl,ih⟩
   exact this _)
 rw[jQ,gF,hln]
 refine yJ hs hid (x:=x) (sz:=1) (m:=s.size) (by decide) hd (by rw[Lib.strCells_length];omega) hsrc fun xs hown=>?_
 obtain⟨v',w',hr,r1,r2,r3⟩:=Lib.run_append_own_string (P:=P) w 0 t u o.type el i ht hu hi hz h1 hb (a.eval x) n xs hown s (by unfold maxLen;omega) b2 (bH _);refine⟨v',w',by simp[execOp,ho,resolve,invoke,builtin,hv,hr],r1,r2,?_⟩
 rcases hown.2 with⟨hn,h0⟩|⟨g,cap,cur,hn,hbg,hg,hnc,hcm,hcs,htake⟩
 ·by_cases hm:s.size=0
  ·left;rw[hn];rw[r3.2 ⟨hn,hm⟩]
  ·have hr2:=run_append_nil_string (P:=P) w t u o.type el i (.int .u8 0) ht hu hi hz s (by omega) (by omega) (by rw[hb];omega)
   rw[hn]at hr;rw[hr2]at hr;injection hr with e1 e2;right;rw[←e1];rfl
 ·have hcs':cur.size=cap:=by simpa using hcs
  by_cases hroom:n+s.size≤cap
  ·have hr2:=Lib.run_append_room_string (P:=P) w t u o.type el i ht hu hi h1 g n cap cur hg s hroom (by omega)
   rw[hn]at hr;rw[hr2]at hr;injection hr with e1 e2;left;rw[←e1,hn];rfl
  ·have holds:∀j u,xs[j]?=some u→w.cell? ((⟨g,0,none⟩:Addr).add j)=some u:=hown.cells (g:=g) (by rw[hn];rfl)
   have hxl:xs.length=n:=by simpa using hown.1
   have hr2:=Lib.run_append_grow_string (P:=P) w t u o.type el i (.int .u8 0) ht hu hi hz ⟨g,0,none⟩ n cap xs (by rw[h1];simpa using hxl) holds s (by omega) (by omega) (by rw[hb];exact growslice_fits (by omega) (by omega))
   rw[hn]at hr;rw[hr2]at hr;injection hr with e1 e2;right;rw[←e1];rfl
theorem MB(hs:eC β st a w)(hid:β nid=none){t el:TypeId}{sz bytes:Nat}{z:List C}{x y:Operand}{ax ay:X}(hu:P.underlying t=some (.slice el))(hsz:dK P el=some sz)(hby:iC P el=some bytes)(hz:iE P el=some z)(hx:cX x=some ax)(hy:cX y=some ay)
  (ho:o.op=.makeSlice t x y) (h:zB st.t nid el sz bytes z ax ay=some (v,e)):cG P β st.h nid o a w v e:=by
 have hv:=aR hs hx
 have hv':=aR hs hy
 unfold zB at h;split at h
 case h_2=>cases h
 rename_i k1 l k2 c e1 e2;rw[e1]at hv;rw[e2]at hv'
 have hv:a.eval x=.int k1 l:=hv
 have hv':a.eval y=.int k2 c:=hv'
 have h0:=eY h
 clear h;obtain⟨hb,h⟩:=h0;cases h;rw[bR,bR,bR,bR,bR,fL,fL,fL,fL,gF]at hb;obtain⟨c1,c2,h1,h2,h3,h4⟩:=hb
 have c1:0<sz:=aQ c1
 have c2:=aH c2
 obtain⟨zv,_,hzl,hiz⟩:=jA hz
 obtain⟨i,hi⟩:∃i,P.info? el=some i:=by
  unfold dK at hsz;cases hq:P.info? el with
  |none=>simp[hq]at hsz
  |some i=>exact⟨i,rfl⟩
 have hisz:i.size=sz:=by simpa[dK,hi] using hsz
 have hiby:i.bytes=bytes:=by simpa[iC,hi] using hby
 have hzz:i.zero=some zv:=by simpa[hi] using hiz
 have hzs:zv.cells.size=sz:=by rw[hzl]at c2;simpa using c2
 have hr:=run_make (P:=P) w t el i zv hu hi hzz k1 k2 l c h1 h2 (by rw[hiby,Int.mul_comm];omega) (by omega)
 have hcs:c.toNat*i.size=c.toNat*sz:=by rw[hisz]
 refine cG.new hs hid (u:=.slice (some ⟨w.heap.size,0,none⟩) l.toNat c.toNat) (us:=madeCells zv.cells (c.toNat*i.size)) (by simp[execOp,ho,hv,hv',hr]) ?_ (fun hx=>?_) ?_ fun β' hb=>?_
 ·rw[tL,size_madeCells,hcs,c2]
  exact bP _ (by omega)
 ·rw[tL,size_madeCells,hcs,c2,rT.1 hx]
 ·intro k x hk
  have hkl:k<l.toNat*sz:=by have:=(aV.1 hk).1;rwa [tL,c2]at this
  have hlt:k<c.toNat*sz:=cI hkl (bP _ (by omega))
  have hall:=pI (q:=CR β) (nH zv.cells.toList) l.toNat
  rw[←hzl]at hall;obtain⟨u,q1,q2⟩:=hall.get k x hk;refine⟨u,?_,q2⟩;rw[←AE.range_cells zv.cells (by omega) l.toNat,dJ,List.getElem?_range (by rw[hzs];exact hkl)]at q1;unfold madeCells;rw[hcs,Array.getElem?_map,Array.getElem?_range,if_pos hlt];exact q1
 ·exact⟨_,c.toNat,rfl,by omega,fun _=>by unfold maxLen;omega,.inr ⟨w.heap.size,_,hb,by simp,by rw[size_madeCells,hcs];simp,fun _=>by rw[size_madeCells,hcs];simp⟩⟩
end
end Go.CE
