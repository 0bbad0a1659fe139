import Derived.Test.YtjfofadeahdnnaaGreatDoorERd
import Derived.Laws.Strings
import Derived.Lib.AppendStr
import Derived.Laws.IdiomStrings
set_option linter.unusedVariables false
set_option linter.unusedSimpArgs false
namespace Go.CE
open _root_.Array renaming getElem?_eq_some_iff→aO,getElem?_extract→cP,getElem?_toList→aW
open _root_.BitVec renaming ofInt→cB
open _root_.Int renaming ofNat→aY
open _root_.List renaming eq_nil_of_length_eq_zero→eS,getElem?_append_left→bW,getElem?_append_right→cJ,getElem?_drop→iD,getElem?_eq_getElem→aH,getElem?_eq_some_iff→aN,getElem?_map→cC,length_map→eA,rec→dV
open _root_.Nat renaming add→gM,add_mul→cH,beq→aT,ble→bP,blt→cN,eq_of_beq_eq_true→aF,le_of_ble_eq_true→aK,lt_of_lt_of_le→bM,mul→iK,mul_le_mul_right→bG,succ→iA,zero_le→bK
open Op renaming bytesLess→gK,intArith→hZ,stringOp→jD
open _root_.Option renaming bind_eq_bind→aE,bind_some→gN,pure_def→aG,some.injEq→aB
open _root_.UInt8 renaming toNat→gH
open Value renaming int→cU
open Go.RowKit
open Go.AE (All2)
inductive T (α:Type) where
 |e
 |n (v:α) (a b:T α)
noncomputable def get{α:Type}(d:α)(t:T α):Nat→α:=T.rec (motive:=fun _=>Nat→α) (fun _=>d)
 (fun v _ _ ga gb k=>Nat.rec (motive:=fun _=>α) v (fun m _=>Nat.rec (motive:=fun _=>α) (ga (Nat.div m 2)) (fun _ _=>gb (Nat.div m 2)) (Nat.mod m 2)) k) t
noncomputable def set{α:Type}(d x:α)(f:Nat):Nat→T α→T α:=Nat.rec (motive:=fun _=>Nat→T α→T α) (fun _ t=>t)
 (fun _ ih k t=>Nat.rec (motive:=fun _=>T α)
  (T.rec (motive:=fun _=>T α) (.n x .e .e) (fun _ a b _ _=>.n x a b) t)
  (fun m _=>T.rec (motive:=fun _=>T α)
   (Nat.rec (motive:=fun _=>T α) (.n d (ih (Nat.div m 2) .e) .e) (fun _ _=>.n d .e (ih (Nat.div m 2) .e)) (Nat.mod m 2))
   (fun v a b _ _=>Nat.rec (motive:=fun _=>T α) (.n v (ih (Nat.div m 2) a) b) (fun _ _=>.n v a (ih (Nat.div m 2) b)) (Nat.mod m 2)) t) k) f
theorem sZ{α:Type}(d:α)(k:Nat):get d .e k=d:=rfl
theorem rS{α:Type}(d v:α)(a b:T α):get d (.n v a b) 0=v:=rfl
theorem nG{α:Type}(d v:α)(a b:T α)(m:Nat):get d (.n v a b) (m+1)=if m%2=0 then get d a (m / 2) else get d b (m / 2):=by
 show Nat.rec (motive:=fun _=>α) (get d a (Nat.div m 2)) (fun _ _=>get d b (Nat.div m 2)) (Nat.mod m 2)=_
 have e1:Nat.mod m 2=m%2:=rfl
 have e2:Nat.div m 2=m / 2:=rfl
 rw[e1,e2];cases h:m%2 with
 |zero=>rfl
 |succ n=>rw[if_neg (by omega)]
theorem VC{α:Type}(d x v:α)(f:Nat)(a b:T α):set d x (f+1) 0 (.n v a b)=.n x a b:=rfl
theorem VD{α:Type}(d x:α)(f:Nat):set d x (f+1) 0 .e=.n x .e .e:=rfl
theorem VE{α:Type}(d x v:α)(f m:Nat)(a b:T α):set d x (f+1) (m+1) (.n v a b)=if m%2=0 then .n v (set d x f (m / 2) a) b else .n v a (set d x f (m / 2) b):=by
 show Nat.rec (motive:=fun _=>T α) (.n v (set d x f (Nat.div m 2) a) b) (fun _ _=>.n v a (set d x f (Nat.div m 2) b)) (Nat.mod m 2)=_
 have e1:Nat.mod m 2=m%2:=rfl
 have e2:Nat.div m 2=m / 2:=rfl
 rw[e1,e2];cases h:m%2 with
 |zero=>rfl
 |succ n=>rw[if_neg (by omega)]
theorem VF{α:Type}(d x:α)(f m:Nat):set d x (f+1) (m+1) .e=if m%2=0 then .n d (set d x f (m / 2) .e) .e else .n d .e (set d x f (m / 2) .e):=by
 show Nat.rec (motive:=fun _=>T α) (.n d (set d x f (Nat.div m 2) .e) .e) (fun _ _=>.n d .e (set d x f (Nat.div m 2) .e)) (Nat.mod m 2)=_
 have e1:Nat.mod m 2=m%2:=rfl
 have e2:Nat.div m 2=m / 2:=rfl
 rw[e1,e2];cases h:m%2 with
 |zero=>rfl
 |succ n=>rw[if_neg (by omega)]
theorem qS{α:Type}(d x:α):∀(f k j:Nat) (t:T α),k+1<2^f→get d (set d x f k t) j=if j=k then x else get d t j
 |0,k,j,t,h=>by simp at h
 |f+1,0,j,t,h=>by
  cases t with
  |e=>
   rw[VD];cases j with
   |zero=>rfl
   |succ j=>rw[nG,if_neg (show ¬j+1=0 by omega),sZ,sZ];split<;>rfl
  |n v a b=>
   rw[VC];cases j with
   |zero=>rfl
   |succ j=>rw[nG,nG,if_neg (show ¬j+1=0 by omega)]
 |f+1,m+1,j,t,h=>by
  have hm:m / 2+1<2^f:=by rw[Nat.pow_succ]at h;omega
  cases t with
  |e=>
   rw[VF]
   by_cases hp:m%2=0
   ·rw[if_pos hp]
    cases j with
    |zero=>rw[rS,if_neg (by omega),sZ]
    |succ j=>
     rw[nG]
     by_cases hq:j%2=0
     ·rw[if_pos hq,qS d x f (m / 2) (j / 2) .e hm,sZ,sZ]
      by_cases e:j=m
      ·subst e;simp
      ·rw[if_neg (by omega),if_neg (by omega)]
     ·rw[if_neg hq,sZ,sZ,if_neg (by omega)]
   ·rw[if_neg hp]
    cases j with
    |zero=>rw[rS,if_neg (by omega),sZ]
    |succ j=>
     rw[nG]
     by_cases hq:j%2=0
     ·rw[if_pos hq,sZ,sZ,if_neg (by omega)]
     ·rw[if_neg hq,qS d x f (m / 2) (j / 2) .e hm,sZ,sZ]
      by_cases e:j=m
      ·subst e;simp
      ·rw[if_neg (by omega),if_neg (by omega)]
  |n v a b=>
   rw[VE]
   by_cases hp:m%2=0
   ·rw[if_pos hp]
    cases j with
    |zero=>rw[rS,if_neg (by omega),rS]
    |succ j=>
     rw[nG,nG]
     by_cases hq:j%2=0
     ·rw[if_pos hq,if_pos hq,qS d x f (m / 2) (j / 2) a hm]
      by_cases e:j=m
      ·subst e;simp
      ·rw[if_neg (by omega),if_neg (by omega)]
     ·rw[if_neg hq,if_neg hq,if_neg (by omega)]
   ·rw[if_neg hp]
    cases j with
    |zero=>rw[rS,if_neg (by omega),rS]
    |succ j=>
     rw[nG,nG]
     by_cases hq:j%2=0
     ·rw[if_pos hq,if_pos hq,if_neg (by omega)]
     ·rw[if_neg hq,if_neg hq,qS d x f (m / 2) (j / 2) b hm]
      by_cases e:j=m
      ·subst e;simp
      ·rw[if_neg (by omega),if_neg (by omega)]
inductive F where
 |b (x:Bool)
 |i (k:IntKind) (n:Int)
 |s (l:List Nat)
 |z (v:Value)
 |ptr (id off:Nat)
 |sl (x:Bool) (id sz off len:Nat)
 |mp (id:Nat)
 |yld (id:Nat)
inductive C where
 |f (x:F)
 |fn (g:Fn) (first cap:List F)
 |ifc (t:TypeId) (x:F)
 |top
inductive W where
 |c (x:C)
 |a (cs:List C)
inductive V where
 |c (x:C)
 |a (cs:List C)
 |t (vs:List W)
def W.up:W→V
 |.c x=>.c x
 |.a cs=>.a cs
structure Lp where
 st:LoopState
 pend:Option Code
 tm:T V
 m:Nat
 ps:List Nat
 assign:Code
 body:Code
 dr:Nat
inductive D where
 |col (id:Nat)
 |cal (f:FuncId) (vs:List V)
inductive O where
 |blk (x:Bool) (ty:TypeId) (vs:List C)
 |map (kd:IntKind) (es:List (Int×W))
 |rdb (ty:TypeId) (vs:List C)
 |glb (o:Obj) (vs:List C)
 |sit (l:List Nat) (pos:Nat)
 |dfr
 |loop (L:Lp)
 |gone
structure St where
 t:Nat→V
 h:Nat→O
 n:Nat
 m:Nat
 d:List D
abbrev Bt:=Nat→Option (Nat×Nat)
def Bt.nil:Bt:=fun _=>none
def FR(β:Bt):F→Value→Prop
 |.b x,v=>v=.bool x
 |.i k n,v=>v=.int k n
 |.s l,v=>∃x,v=.string x∧x.data.toList.map gH=l
 |.z u,v=>v=u
 |.ptr id off,v=>∃b N,β id=some (b,N)∧v=.pointer (some ⟨b,off,none⟩)
 |.sl x id sz off len,v=>∃A c,v=.slice A len c∧len≤c∧(x=true→c≤maxLen)∧(((A=none∨0<off)∧len=0∧c=0) ∨
    ∃b N,β id=some (b,N)∧A=some ⟨b,off*sz,none⟩∧(off+c)*sz≤N∧(x=true→(off+c)*sz=N))
 |.mp id,v=>∃b N,β id=some (b,N)∧v=.map (some b)
 |.yld id,v=>∃b N,β id=some (b,N)∧v=.func (.yield b) #[] #[]
def CR(β:Bt):C→Value→Prop
 |.f x,v=>FR β x v
 |.fn g fs cs,v=>∃us vs,v=.func g us vs∧All2 (FR β) fs us.toList∧All2 (FR β) cs vs.toList
 |.ifc t x,v=>∃u,v=.iface t u∧FR β x u
 |.top,_=>True
def WR(β:Bt):W→Value→Prop
 |.c x,v=>CR β x v
 |.a cs,v=>∃us,v=.agg us∧All2 (CR β) cs us.toList
def VR(β:Bt):V→Value→Prop
 |.c x,v=>CR β x v
 |.a cs,v=>∃us,v=.agg us∧All2 (CR β) cs us.toList
 |.t vs,v=>∃us,v=.tuple us∧All2 (WR β) vs us.toList
def OR(β:Bt)(w:World):O→Nat→Nat→Prop
 |.blk x ty vs,b,N=>∃cs,w.heap[b]?=some (.cells cs ty (0,0))∧cs.size=N∧(vs.length≤N∧(x=true→vs.length=N))∧∀(k:Nat) c,vs[k]?=some c→∃u,cs[k]?=some u∧CR β c u
 |.map kd es,b,_=>∃es' clock,w.heap[b]?=some (.map es' clock)∧All2 (fun(p:Int×W) (e:MapEntry)=>e.key=.int kd p.1∧WR β p.2 e.val) es es'.toList
 |.rdb ty vs,b,N=>∃cs fz,w.heap[b]?=some (.cells cs ty fz)∧cs.size=N∧vs.length≤N∧∀(k:Nat) c,vs[k]?=some c→∃u,cs[k]?=some u∧CR β c u
 |.glb o vs,b,N=>∃cs ty fz,w.heap[b]?=some o∧o=.cells cs ty fz∧cs.size=N∧vs.length≤N∧∀(k:Nat) c,vs[k]?=some c→∃u,cs[k]?=some u∧CR β c u
 |.sit l pos,b,_=>∃s,w.heap[b]?=some (.stringIter s pos)∧s.data.toList.map gH=l
 |.dfr,b,_=>w.heap[b]?=some (.deferred (some []))
 |.loop L,b,_=>∃r,w.heap[b]?=some (.loop r)∧r.state=L.st∧r.pending=L.pend∧r.tmps.size=L.m∧(∀k,VR β (get (.t []) L.tm k) (r.tmps.getD k undef))∧r.params.toList=L.ps∧r.assign=L.assign∧r.body=L.body∧∃N,β L.dr=some (r.defers,N)
 |.gone,_,_=>True
def DR(β:Bt):D→Deferred→Prop
 |.col id,d=>∃b N,β id=some (b,N)∧d.target=.collected b
 |.cal f vs,d=>∃cap,d.target=.fn (.func f) cap∧All2 (VR β) vs (d.args++cap).toList
def O.live:O→Bool
 |.gone=>false
 |_=>true
structure HS (β:Bt) (w:World) (h:Nat→O):Prop where
 inj:∀i j b o o',β i=some (b,o)→β j=some (b,o')→(h i).live=true→(h j).live=true→i=j
 lt:∀i b o,β i=some (b,o)→b<w.heap.size
 obj:∀i b o,β i=some (b,o)→OR β w (h i) b o
structure Gr (β:Bt) (w:World) (β':Bt) (w':World):Prop where
 os:w'.os=w.os
 tape:w'.tape=w.tape
 output:w'.output=w.output
 size:w.heap.size≤w'.heap.size
 fr:∀b,b<w.heap.size→(∀i o,β i≠some (b,o))→w'.heap[b]?=w.heap[b]?
 ex:∀i b o,β' i=some (b,o)→(∃j o',β j=some (b,o'))∨w.heap.size≤b
 bm:∀i x,β i=some x→β' i=some x
structure eJ (β:Bt) (st:St) (a:Act) (w:World):Prop where
 df:All2 (DR β) st.d a.defers
 sz:a.tmps.size=st.m
 tm:∀k,VR β (st.t k) (a.tmps.getD k undef)
 hs:HS β w st.h
 fr:∀i,st.n≤i→β i=none
 gl:∃N,β 0=some (0,N)
section
variable {β β' β'':Bt} {w w' w'':World}
theorem Gr.refl(β:Bt)(w:World):Gr β w β w:=⟨rfl,rfl,rfl,Nat.le_refl _,fun _ _ _=>rfl,fun i b o h=>.inl ⟨i,o,h⟩,fun _ _ h=>h⟩
theorem Gr.trans(h:Gr β w β' w')(k:Gr β' w' β'' w''):Gr β w β'' w'' where
 os:=k.os.trans h.os
 tape:=k.tape.trans h.tape
 output:=k.output.trans h.output
 size:=Nat.le_trans h.size k.size
 fr:=fun b hb hn=>(k.fr b (bM hb h.size) fun i o hi=>by
  rcases h.ex i b o hi with⟨j,o',hj⟩|h'
  ·exact hn j o' hj
  ·omega).trans (h.fr b hb hn)
 ex:=fun i b o hi=>by
  rcases k.ex i b o hi with⟨j,o',hj⟩|h'
  ·exact h.ex j b o' hj
  ·exact .inr (Nat.le_trans h.size h')
 bm:=fun i x hi=>k.bm i x (h.bm i x hi)
abbrev Mo(β β':Bt):Prop:=∀i x,β i=some x→β' i=some x
theorem FR.keep(k:Mo β β'){x:F}{v:Value}(h:FR β x v):FR β' x v:=by
 cases x with
 |ptr id off=>obtain⟨b,o,h1,h2⟩:=h;exact⟨b,o,k _ _ h1,h2⟩
 |sl x id sz off len=>
  obtain⟨A,c,h1,h2,h3,h4⟩:=h;refine⟨A,c,h1,h2,h3,?_⟩
  rcases h4 with h4|⟨b,N,h5,h6,h7⟩
  ·exact .inl h4
  ·exact .inr ⟨b,N,k _ _ h5,h6,h7⟩
 |mp id=>obtain⟨b,N,h1,h2⟩:=h;exact⟨b,N,k _ _ h1,h2⟩
 |yld id=>obtain⟨b,N,h1,h2⟩:=h;exact⟨b,N,k _ _ h1,h2⟩
 |_=>exact h
theorem CR.keep(k:Mo β β'){x:C}{v:Value}(h:CR β x v):CR β' x v:=by
 cases x with
 |f x=>exact FR.keep k h
 |fn g fs cs=>
  obtain⟨us,vs,h1,h2,h3⟩:=h;exact⟨us,vs,h1,h2.mono fun _ _=>FR.keep k,h3.mono fun _ _=>FR.keep k⟩
 |ifc t x=>obtain⟨u,h1,h2⟩:=h;exact⟨u,h1,FR.keep k h2⟩
 |top=>trivial
theorem WR.keep(k:Mo β β'){x:W}{v:Value}(h:WR β x v):WR β' x v:=by
 cases x with
 |c x=>exact CR.keep k h
 |a cs=>obtain⟨us,h1,h2⟩:=h;exact⟨us,h1,h2.mono fun _ _=>CR.keep k⟩
theorem VR.keep(k:Mo β β'){x:V}{v:Value}(h:VR β x v):VR β' x v:=by
 cases x with
 |c x=>exact CR.keep k h
 |a cs=>obtain⟨us,h1,h2⟩:=h;exact⟨us,h1,h2.mono fun _ _=>CR.keep k⟩
 |t vs=>obtain⟨us,h1,h2⟩:=h;exact⟨us,h1,h2.mono fun _ _=>WR.keep k⟩
theorem WR.up{x:W}{v:Value}(h:WR β x v):VR β x.up v:=by cases x<;>exact h
theorem OR.keep(k:Mo β β'){x:O}{b N:Nat}(hb:w'.heap[b]?=w.heap[b]?)(h:OR β w x b N):OR β' w' x b N:=by
 cases x with
 |blk x0 ty vs=>
  obtain⟨cs,h1,h2,h3,h4⟩:=h;refine⟨cs,hb.trans h1,h2,h3,fun j c hc=>?_⟩;obtain⟨u,h5,h6⟩:=h4 j c hc;exact⟨u,h5,CR.keep k h6⟩
 |map kd es=>
  obtain⟨es',cl,h1,h3⟩:=h;exact⟨es',cl,hb.trans h1,h3.mono fun _ _ q=>⟨q.1,WR.keep k q.2⟩⟩
 |rdb ty vs=>
  obtain⟨cs,fz,h1,h2,h3,h4⟩:=h;refine⟨cs,fz,hb.trans h1,h2,h3,fun j c hc=>?_⟩;obtain⟨u,h5,h6⟩:=h4 j c hc;exact⟨u,h5,CR.keep k h6⟩
 |glb o vs=>
  obtain⟨cs,ty,fz,h1,h0,h2,h3,h4⟩:=h;refine⟨cs,ty,fz,hb.trans h1,h0,h2,h3,fun j c hc=>?_⟩;obtain⟨u,h5,h6⟩:=h4 j c hc;exact⟨u,h5,CR.keep k h6⟩
 |sit l pos=>obtain⟨s,h1,h2⟩:=h;exact⟨s,hb.trans h1,h2⟩
 |dfr=>exact hb.trans h
 |loop L=>
  obtain⟨r,h1,h2,h3,h4,h5,h6,h7,h8,N,h9⟩:=h;exact⟨r,hb.trans h1,h2,h3,h4,fun j=>VR.keep k (h5 j),h6,h7,h8,N,k _ _ h9⟩
 |gone=>trivial
theorem DR.keep(k:Mo β β'){x:D}{d:Deferred}(h:DR β x d):DR β' x d:=by
 cases x with
 |col id=>obtain⟨b,N,h1,h2⟩:=h;exact⟨b,N,k _ _ h1,h2⟩
 |cal f vs=>obtain⟨cap,h1,h2⟩:=h;exact⟨cap,h1,h2.mono fun _ _=>VR.keep k⟩
def fu{α:Type}(f:Nat→α)(i:Nat)(x:α):Nat→α:=fun j=>if j=i then x else f j
theorem fA{α:Type}(f:Nat→α)(i:Nat)(x:α):fu f i x i=x:=by simp[fu]
theorem cO{α:Type}{f:Nat→α}{i j:Nat}(x:α)(h:j≠i):fu f i x j=f j:=by simp[fu,h]
theorem sX{i:Nat}{x:Nat×Nat}(hi:β i=none):Mo β (fu β i (some x)):=fun j y hj=>by
 rw[cO];exact hj;intro e;subst e;rw[hi]at hj;cases hj
theorem aOG{h:Nat→O}(hh:HS β w h){id:Nat}(hid:β id=none){x:O}{N:Nat}(hos:w'.os=w.os)(htp:w'.tape=w.tape)(hou:w'.output=w.output)(hsz:w'.heap.size=w.heap.size+1)(hold:∀b,b<w.heap.size→w'.heap[b]?=w.heap[b]?)(hx:OR (fu β id (some (w.heap.size,N))) w' x w.heap.size N) :
  HS (fu β id (some (w.heap.size,N))) w' (fu h id x)∧Gr β w (fu β id (some (w.heap.size,N))) w':=by
 refine⟨⟨?_,?_,?_⟩,⟨hos,htp,hou,by omega,fun b hb _=>hold b hb,?_,sX hid⟩⟩
 ·intro i j b o1 o2 hi hj li lj
  by_cases ei:i=id
  ·by_cases ej:j=id
   ·omega
   ·subst ei;rw[fA]at hi;rw[cO _ ej]at hj
    have:=hh.lt j b o2 hj;simp at hi;omega
  ·rw[cO _ ei]at hi li
   by_cases ej:j=id
   ·subst ej;rw[fA]at hj
    have:=hh.lt i b o1 hi;simp at hj;omega
   ·rw[cO _ ej]at hj lj
    exact hh.inj i j b o1 o2 hi hj li lj
 ·intro i b o1 hi
  by_cases ei:i=id
  ·subst ei;rw[fA]at hi;simp at hi;omega
  ·rw[cO _ ei]at hi;have:=hh.lt i b o1 hi;omega
 ·intro i b o1 hi
  by_cases ei:i=id
  ·subst ei;rw[fA]at hi;simp at hi
   obtain⟨rfl,rfl⟩:=hi;rw[fA];exact hx
  ·rw[cO _ ei]at hi ⊢
   exact OR.keep (sX hid) (hold b (hh.lt i b o1 hi)) (hh.obj i b o1 hi)
 ·intro i b o1 hi
  by_cases ei:i=id
  ·subst ei;rw[fA]at hi;simp at hi;right;omega
  ·rw[cO _ ei]at hi;exact .inl ⟨i,o1,hi⟩
theorem kP{h:Nat→O}(hh:HS β w h){id:Nat}(hid:β id=none){x:O}{o:Obj}{N:Nat}(hx:∀w',w'.heap[w.heap.size]?=some o→OR (fu β id (some (w.heap.size,N))) w' x w.heap.size N) :
  HS (fu β id (some (w.heap.size,N))) (w.alloc o) (fu h id x)∧Gr β w (fu β id (some (w.heap.size,N))) (w.alloc o):=by
 have hnew:(w.alloc o).heap[w.heap.size]?=some o:=heap_alloc_new w o
 have hold:∀b,b<w.heap.size→(w.alloc o).heap[b]?=w.heap[b]?:=fun b hb=>AE.heap_push_lt w o hb
 refine⟨⟨?_,?_,?_⟩,⟨rfl,rfl,rfl,by simp,fun b hb _=>hold b hb,?_,sX hid⟩⟩
 ·intro i j b o1 o2 hi hj li lj
  by_cases ei:i=id
  ·by_cases ej:j=id
   ·omega
   ·subst ei;rw[fA]at hi;rw[cO _ ej]at hj
    have:=hh.lt j b o2 hj;simp at hi;omega
  ·rw[cO _ ei]at hi li
   by_cases ej:j=id
   ·subst ej;rw[fA]at hj
    have:=hh.lt i b o1 hi;simp at hj;omega
   ·rw[cO _ ej]at hj lj
    exact hh.inj i j b o1 o2 hi hj li lj
 ·intro i b o1 hi
  by_cases ei:i=id
  ·subst ei;rw[fA]at hi;simp at hi;simp;omega
  ·rw[cO _ ei]at hi;have:=hh.lt i b o1 hi;simp;omega
 ·intro i b o1 hi
  by_cases ei:i=id
  ·subst ei;rw[fA]at hi;simp at hi
   obtain⟨rfl,rfl⟩:=hi;rw[fA];exact hx _ hnew
  ·rw[cO _ ei]at hi ⊢
   exact OR.keep (sX hid) (hold b (hh.lt i b o1 hi)) (hh.obj i b o1 hi)
 ·intro i b o1 hi
  by_cases ei:i=id
  ·subst ei;rw[fA]at hi;simp at hi;right;omega
  ·rw[cO _ ei]at hi;exact .inl ⟨i,o1,hi⟩
theorem nF{h:Nat→O}(hh:HS β w h){id b N:Nat}(hid:β id=some (b,N))(hl:(h id).live=true){x:O}(hos:w'.os=w.os)(htp:w'.tape=w.tape)(hou:w'.output=w.output)
  (hsz:w'.heap.size=w.heap.size) (hw:∀j,j≠b→w'.heap[j]?=w.heap[j]?) (hx:OR β w' x b N):HS β w' (fu h id x)∧Gr β w β w':=by
 refine⟨⟨?_,?_,?_⟩,⟨hos,htp,hou,by omega,fun j _ hn=>hw j fun e=>hn id N (e▸hid),fun i b o hi=>.inl ⟨i,o,hi⟩,fun _ _ hi=>hi⟩⟩
 ·intro i j b1 o1 o2 hi hj li lj
  have li':(h i).live=true:=by
   by_cases e:i=id
   ·subst e;exact hl
   ·rw[cO _ e]at li;exact li
  have lj':(h j).live=true:=by
   by_cases e:j=id
   ·subst e;exact hl
   ·rw[cO _ e]at lj;exact lj
  exact hh.inj i j b1 o1 o2 hi hj li' lj'
 ·intro i b1 o1 hi;rw[hsz];exact hh.lt i b1 o1 hi
 ·intro i b1 o1 hi
  by_cases e:i=id
  ·subst e
   rw[fA];rw[hid]at hi;injection hi with hi;injection hi with h1 h2;subst h1;subst h2;exact hx
  ·rw[cO _ e]
   by_cases eb:b1=b
   ·subst eb
    cases hn:(h i).live with
    |false=>cases hq:h i<;>rw[hq]at hn<;>first|exact trivial|cases hn
    |true=>exact absurd (hh.inj i id b1 o1 N hi hid hn hl) e
   ·exact OR.keep (fun _ _ q=>q) (hw b1 eb) (hh.obj i b1 o1 hi)
theorem aKT{h:Nat→O}(hh:HS β w h)(id:Nat):HS β w (fu h id .gone):=by
 refine⟨?_,hh.lt,?_⟩
 ·intro i j b1 o1 o2 hi hj li lj
  have li':(h i).live=true:=by
   by_cases e:i=id
   ·subst e;rw[fA]at li;cases li
   ·rw[cO _ e]at li;exact li
  have lj':(h j).live=true:=by
   by_cases e:j=id
   ·subst e;rw[fA]at lj;cases lj
   ·rw[cO _ e]at lj;exact lj
  exact hh.inj i j b1 o1 o2 hi hj li' lj'
 ·intro i b1 o1 hi
  by_cases e:i=id
  ·subst e;rw[fA];exact trivial
  ·rw[cO _ e];exact hh.obj i b1 o1 hi
end
open Go.AE (All2 dF jA rF iZ jL jF lH aLV YX nJ vJ mF tU jJ)
noncomputable def aZ{α:Type}(d:α)(l:List α):Nat→α:=dV (motive:=fun _=>Nat→α) (fun _=>d) (fun x _ ih k=>Nat.rec (motive:=fun _=>α) x (fun n _=>ih n) k) l
noncomputable def dp{α:Type}(k:Nat):List α→List α:=Nat.rec (motive:=fun _=>List α→List α) (fun l=>l) (fun _ ih l=>dV (motive:=fun _=>List α) [] (fun _ r _=>ih r) l) k
noncomputable def tk{α:Type}(k:Nat):List α→List α:=Nat.rec (motive:=fun _=>List α→List α) (fun _=>[]) (fun _ ih l=>dV (motive:=fun _=>List α) [] (fun x r _=>x::ih r) l) k
noncomputable def ap{α:Type}(l r:List α):List α:=dV (motive:=fun _=>List α) r (fun x _ ih=>x::ih) l
noncomputable def len{α:Type}(l:List α):Nat:=dV (motive:=fun _=>Nat) 0 (fun _ _ ih=>iA ih) l
noncomputable def all{α:Type}(f:α→Bool)(l:List α):Bool:=dV (motive:=fun _=>Bool) true (fun x _ ih=>match f x with|true=>ih|false=>false) l
noncomputable def mp{α γ:Type}(f:α→γ)(l:List α):List γ:=dV (motive:=fun _=>List γ) [] (fun x _ ih=>f x::ih) l
theorem aFH{α:Type}{d x:α}{l:List α}{k:Nat}:aZ d (x::l) (k+1)=aZ d l k:=rfl
theorem eG{α:Type}(d:α):∀(l:List α) (k:Nat),aZ d l k=l.getD k d
 |[],_=>rfl
 |_::_,0=>rfl
 |_::r,n+1=>by rw[aFH,eG d r n];simp
theorem xM{α:Type}{d x:α}{l:List α}{k:Nat}(h:l[k]?=some x):aZ d l k=x:=by
 rw[eG];simp[h]
theorem aLC{α:Type}{k:Nat}{x:α}{l:List α}:dp (k+1) (x::l)=dp k l:=rfl
theorem GZ{α:Type}:∀(k:Nat) (l:List α),dp k l=l.drop k
 |0,l=>rfl
 |k+1,[]=>rfl
 |k+1,x::l=>by rw[aLC,GZ k l];simp
theorem aIA{α:Type}{k:Nat}{x:α}{l:List α}:tk (k+1) (x::l)=x::tk k l:=rfl
theorem zY{α:Type}:∀(k:Nat) (l:List α),tk k l=l.take k
 |0,l=>rfl
 |k+1,[]=>rfl
 |k+1,x::l=>by rw[aIA,zY k l];simp
theorem aLL{α:Type}{x:α}{l r:List α}:ap (x::l) r=x::ap l r:=rfl
theorem kW{α:Type}:∀l r:List α,ap l r=l++r
 |[],r=>rfl
 |x::l,r=>by rw[aLL,kW l r];rfl
theorem aFW{α:Type}{x:α}{l:List α}:len (x::l)=iA (len l):=rfl
theorem iH{α:Type}:∀l:List α,len l=l.length
 |[]=>rfl
 |x::l=>by rw[aFW,iH l];rfl
theorem aHQ{α:Type}{f:α→Bool}{x:α}{l:List α}:all f (x::l)=(match f x with|true=>all f l|false=>false):=rfl
theorem gI{α:Type}{f:α→Bool}:∀ {l:List α},all f l=true→∀x∈l,f x=true
 |[],_,x,hx=>by cases hx
 |y::l,h,x,hx=>by
  rw[aHQ]at h;split at h
  ·rename_i hf
   rcases List.mem_cons.1 hx with rfl|hx
   ·exact hf
   ·exact gI h x hx
  ·cases h
theorem aK3{α γ:Type}{f:α→γ}{x:α}{l:List α}:mp f (x::l)=f x::mp f l:=rfl
theorem FG{α γ:Type}(f:α→γ):∀l:List α,mp f l=l.map f
 |[]=>rfl
 |x::l=>by rw[aK3,FG f l];rfl
def frN{α:Type}(m:Nat)(k:Nat→α):α:=match m with
 |0=>k 0
 |iA n=>k (iA n)
theorem aGS{α:Type}(m:Nat)(k:Nat→α):frN m k=k m:=by cases m<;>rfl
def frI{α:Type}(m:Int)(k:Int→α):α:=match m with
 |.ofNat n=>frN n fun n=>k (.ofNat n)
 |.negSucc n=>frN n fun n=>k (.negSucc n)
theorem wL{α:Type}(m:Int)(k:Int→α):frI m k=k m:=by cases m<;>simp only[frI,aGS]
def aPH(a b:Int):Int:=match a,b with
 |.ofNat m,.ofNat n=>.ofNat (gM m n)
 |a,b=>a+b
theorem aI1(a b:Int):aPH a b=a+b:=by cases a<;>cases b<;>rfl
def aPE(a b:Int):Int:=match a,b with
 |.ofNat m,.ofNat n=>match bP n m with
  |true=>.ofNat (Nat.sub m n)
  |false=>.ofNat m-.ofNat n
 |a,b=>a-b
theorem aHZ(a b:Int):aPE a b=a-b:=by
 cases a with
 |negSucc m=>rfl
 |ofNat m=>
  cases b with
  |negSucc n=>rfl
  |ofNat n=>
   show (match bP n m with|true=>aY (Nat.sub m n)|false=>aY m-aY n)=_
   cases h:bP n m with
   |false=>rfl
   |true=>
    have h:=aK h
    show aY (m-n)=aY m-aY n
    simp only[Int.ofNat_eq_natCast];omega
def aPG(a b:Int):Int:=match a,b with
 |.ofNat m,.ofNat n=>.ofNat (iK m n)
 |a,b=>a*b
theorem aI0(a b:Int):aPG a b=a*b:=by cases a<;>cases b<;>rfl
def uM(a b:Int):Bool:=match a,b with
 |.ofNat m,.ofNat n=>bP m n
 |.negSucc m,.negSucc n=>bP n m
 |.negSucc _,.ofNat _=>true
 |.ofNat _,.negSucc _=>false
theorem gD{a b:Int}:uM a b=true↔a≤b:=by
 cases a<;>cases b<;>simp only[uM,Nat.ble_eq,Int.ofNat_eq_natCast,Int.negSucc_eq]<;>first|omega|(simp;omega)|skip
def PP(a b:Int):Bool:=match uM b a with|true=>false|false=>true
theorem lY{a b:Int}:PP a b=true↔a<b:=by
 unfold PP;cases h:uM b a with
 |true=>have:=gD.1 h;simp;omega
 |false=>
  have:¬b≤a:=fun q=>by rw[gD.2 q]at h;cases h
  simp;omega
def UT(a b:Int):Bool:=match a,b with
 |.ofNat m,.ofNat n=>aT m n
 |.negSucc m,.negSucc n=>aT m n
 |_,_=>false
theorem qC{a b:Int}:UT a b=true↔a=b:=by
 cases a<;>cases b<;>simp[UT,Nat.beq_eq]<;>omega
def dU(a b:Bool):Bool:=match a with|true=>b|false=>false
theorem bC{a b:Bool}:dU a b=true↔a=true∧b=true:=by cases a<;>simp[dU]
def sR(a:Bool):Bool:=match a with|true=>false|false=>true
theorem oC(a:Bool):sR a = !a:=by cases a<;>rfl
def IM(k:IntKind)(n:Int):Bool:=match k,n with
 |.i64,.ofNat m=>bP m 9223372036854775807
 |.i64,.negSucc m=>bP m 9223372036854775807
 |.u64,.ofNat m=>bP m 18446744073709551615
 |.i32,.ofNat m=>bP m 2147483647
 |.i32,.negSucc m=>bP m 2147483647
 |.u8,.ofNat m=>bP m 255
 |_,_=>false
theorem rQ{k:IntKind}{n:Int}(h:IM k n=true):AE.inR k n:=by
 cases k<;>cases n<;>simp only[IM,Nat.ble_eq,Bool.false_eq_true]at h<;>simp only[AE.inR,Int.ofNat_eq_natCast,Int.negSucc_eq]<;>omega
inductive X where
 |t (k:Nat)
 |k (v:V)
inductive PK where
 |b
 |s
 |i
inductive BW where
 |mv (x:X)
 |pick (c a b:X)
 |alloc (ty:TypeId) (z:List C)
 |box (ty:TypeId) (x:X)
 |build (z:List C) (ps:List (Nat×Nat×X))
 |bsl (ty:TypeId) (sz n:Nat) (z:List C) (ps:List (Nat×Nat×X))
 |load (n:Option Nat) (x:X)
 |store (n:Nat) (a v:X)
 |bin (op:BinOp) (x y:X)
 |binw (op:BinOp) (k:IntKind) (x y:X)
 |binb (op:BinOp) (x y:X)
 |eqs (neg:Bool) (fs:List (Nat×PK)) (x y:X)
 |not (x:X)
 |neg (x:X)
 |faddr (off:Nat) (x:X)
 |fadI (sz n:Nat) (x i:X)
 |fld (off:Nat) (n:Option Nat) (x:X)
 |idxA (sz:Nat) (x i:X)
 |idxS (x i:X)
 |extr (x:X) (i:Nat)
 |call (f:FuncId) (args:List X)
 |callv (x:X) (args:List X)
 |inv (x:X) (m:String) (args:List X)
 |lenA (x:X)
 |lenS (x:X)
 |min (x y:X)
 |max (x y:X)
 |app (ty:TypeId) (sz bytes:Nat) (z:List C) (x y:X)
 |appS (ty:TypeId) (x y:X)
 |mksl (ty:TypeId) (sz bytes:Nat) (z:List C) (x y:X)
 |slc (sz:Nat) (x:X) (lo hi:Option X)
 |slcS (x:X) (lo hi:Option X)
 |slc3 (sz:Nat) (x:X) (lo:Option X) (hi mx:X)
 |rng (x:X)
 |nxt (x:X)
 |idxV (sz len:Nat) (n:Option Nat) (x i:X)
 |slcP (sz n:Nat) (x:X) (lo hi:Option X)
 |mkfn (f:Fn) (fs cs:List X)
 |nilc (x:X)
 |eqp (neg:Bool) (x y:X)
 |nils (neg:Bool) (x:X)
 |nilm (neg:Bool) (x:X)
 |conv (k:IntKind) (x:X)
 |negw (k:IntKind) (x:X)
 |carry (sub:Bool) (x y c:X)
 |capn (x:X)
 |mkif (t:TypeId) (x:X)
 |tass (t:TypeId) (z:W) (two:Bool) (x:X)
 |mkmap (kd:IntKind)
 |look (kd:IntKind) (z:W) (two:Bool) (x k:X)
 |mset (kd:IntKind) (x k v:X)
 |s2b (e:TypeId) (x:X)
 |b2s (x:X)
 |copy (sz:Nat) (x y:X)
 |clr (sz:Nat) (z:List C) (x:X)
 |dead
def toF:Value→F
 |.bool x=>.b x
 |.int k n=>.i k n
 |.string s=>.s (s.data.toList.map gH)
 |v=>.z v
def toV:Value→V
 |.agg cs=>.a (cs.toList.map fun v=>.f (toF v))
 |.tuple _=>.c .top
 |v=>.c (.f (toF v))
def cX:Operand→Option X
 |.tmp t=>some (.t t)
 |.const v=>some (.k (toV v))
 |.func f=>some (.k (.c (.fn (.func f) [] [])))
 |.global g=>match aT g 0 with
  |true=>some (.k (.c (.f (.ptr 0 0))))
  |false=>none
def yD:List Operand→Option (List X)
 |[]=>some []
 |x::r=>do pure ((←cX x)::(←yD r))
def iQ(P:Program)(t:TypeId):Option (List C):=((P.info? t).bind (·.zero)).map fun v=>v.cells.toList.map fun v=>.f (toF v)
def kJ(place:Nat→Option (Nat×Nat)):List (Nat×Operand)→Option (List (Nat×Nat×X))
 |[]=>some []
 |(i,x)::r=>do
  let (o,s) ←place i
  pure ((o,s,←cX x)::(←kJ place r))
def mM:Option Operand→Option (Option X)
 |none=>some none
 |some x=>(cX x).map some
def YP(P:Program)(t:TypeId):Bool:=match P.info? t with
 |some i=>match i.zero with
  |some (.int .u8 (.ofNat 0))=>dU (aT i.size 1) (aT i.bytes 1)
  |_=>false
 |none=>false
def DL(P:Program)(t:TypeId):Option PK:=match P.underlying t with
 |some (.int _)=>some .i
 |some .string=>some .s
 |some .bool=>some .b
 |_=>none
def zO(P:Program):List Field→Option (List (Nat×PK))
 |[]=>some []
 |f::r=>match f.name != "_" with
  |true=>do pure ((f.offset,←DL P f.type)::(←zO P r))
  |false=>none
def HP(pk:PK):Nat→Nat→List (Nat×PK)
 |_,0=>[]
 |i,n+1=>(i,pk)::HP pk (i+1) n
open Go.AE (All2 dF jA rF iZ jL jF lH aLV YX nJ vJ mF tU jJ)
def JA(P:Program)(t:TypeId):Option W:=((P.info? t).bind (·.zero)).bind fun v=>match v with
 |.agg cs=>some (.a (cs.toList.map fun v=>.f (toF v)))
 |.tuple _=>none
 |v=>some (.c (.f (toF v)))
def WU(P:Program)(t:TypeId):Option (IntKind×TypeId):=match P.underlying t with
 |some (.map k e)=>match P.underlying k with
  |some (.int kd)=>some (kd,e)
  |_=>none
 |_=>none
def iW(P:Program):Op→Option BW
 |.move x|.assign x=>(cX x).map .mv
 |.pick c a b=>do pure (.pick (←cX c) (←cX a) (←cX b))
 |.alloc t=>(iQ P t).map (.alloc t)
 |.box t x=>(cX x).map (.box t)
 |.build t ps=>do
  match P.underlying t with
  |some (.struct fs)=>do
   let places ←fs.toList.mapM (fun f=>(P.info? f.type).map fun i=>(f.offset,i.size))
   pure (.build (←iQ P t) (←kJ (fun i=>places[i]?) ps.toList))
  |some (.array _ e)=>do
   let s ←dF P e
   pure (.build (←iQ P t) (←kJ (fun i=>some (i*s,s)) ps.toList))
  |_=>none
 |.buildSlice t len ps=>do
  let e ←jF P t
  let s ←dF P e
  pure (.bsl e s len (←iQ P e) (←kJ (fun i=>some (i*s,s)) ps.toList))
 |.load t x=>do pure (.load (←iZ P t) (←cX x))
 |.store t a v=>do pure (.store (←dF P t) (←cX a) (←cX v))
 |.binOp op t x y _=>match P.underlying t with
  |some (.int k)=>match YX op k with
   |true=>do pure (.binw op k (←cX x) (←cX y))
   |false=>do pure (.bin op (←cX x) (←cX y))
  |some .string=>do pure (.bin op (←cX x) (←cX y))
  |some .bool=>do pure (.binb op (←cX x) (←cX y))
  |some (.struct fs)=>match P.stoodInHeld t||P.eqGuardType P.depth t,lH op with
   |false,some neg=>do pure (.eqs neg (←zO P fs.toList) (←cX x) (←cX y))
   |_,_=>none
  |some (.array n e)=>match P.eqGuardType P.depth t,lH op,tU P e with
   |false,some neg,true=>do pure (.eqs neg (HP (←DL P e) 0 n) (←cX x) (←cX y))
   |_,_,_=>none
  |some (.pointer _)=>match lH op with
   |some neg=>do pure (.eqp neg (←cX x) (←cX y))
   |none=>none
  |some (.slice _)=>match lH op,y with
   |some neg,.const (.slice none 0 0)=>(cX x).map fun a=>.nils neg a
   |_,_=>none
  |some (.map _ _)=>match lH op,y with
   |some neg,.const (.map none)=>(cX x).map fun a=>.nilm neg a
   |_,_=>none
  |_=>none
 |.unOp .not _ x=>(cX x).map .not
 |.unOp .neg t x=>match P.underlying t with
  |some (.int .u64)=>(cX x).map fun a=>.negw .u64 a
  |_=>(cX x).map .neg
 |.fieldAddr t x k=>do
  let f ←(←jL P t)[k]?
  match ←dF P f.type with
  |0=>none
  |_=>pure (.faddr f.offset (←cX x))
 |.field t x k=>do
  let f ←(←jL P t)[k]?
  pure (.fld f.offset (←iZ P f.type) (←cX x))
 |.indexAddr t x i=>match vJ P t with
  |some (n,e)=>match mF n i with
   |some k=>do
    let s ←dF P e
    pure (.faddr (k*s) (←cX x))
   |none=>do pure (.fadI (←dF P e) n (←cX x) (←cX i))
  |none=>do
   let e ←jF P t
   pure (.idxA (←dF P e) (←cX x) (←cX i))
 |.index t x i=>match P.underlying t with
  |some .string=>do pure (.idxS (←cX x) (←cX i))
  |some (.array n e)=>do pure (.idxV (←dF P e) n (←iZ P e) (←cX x) (←cX i))
  |_=>none
 |.extract x i=>do pure (.extr (←cX x) i)
 |.call c=>match c.callee with
  |.value (.func f)=>match P.funcs[f]? with
   |some fn=>if fn.body.isSome&&fn.name != "runtime.NumGoroutine" then (yD c.args.toList).map (.call f) else
    match nJ fn,c.args.toList with
    |some sub,[x,y,z]=>do pure (.carry sub (←cX x) (←cX y) (←cX z))
    |_,_=>none
   |none=>none
  |.value x=>do pure (.callv (←cX x) (←yD c.args.toList))
  |.invoke x m=>do pure (.inv (←cX x) m (←yD c.args.toList))
  |.builtin .len=>match c.args.toList,c.argTypes.toList with
   |[x],[t]=>match P.underlying t with
    |some (.slice _)=>(cX x).map .lenA
    |some .string=>(cX x).map .lenS
    |_=>none
   |_,_=>none
  |.builtin .min=>match c.args.toList with
   |[x,y]=>do pure (.min (←cX x) (←cX y))
   |_=>none
  |.builtin .max=>match c.args.toList with
   |[x,y]=>do pure (.max (←cX x) (←cX y))
   |_=>none
  |.builtin .append=>match c.args.toList,c.argTypes.toList with
   |[x,y],[t,u]=>match P.underlying u with
    |some (.slice _)=>match aT t u with
     |true=>do
      let e ←jF P t
      pure (.app e (←dF P e) (←jA P e) (←iQ P e) (←cX x) (←cX y))
     |false=>none
    |some .string=>do
     let e ←jF P t
     match YP P e with
     |true=>pure (.appS e (←cX x) (←cX y))
     |false=>none
    |_=>none
   |_,_=>none
  |.builtin .cap=>match c.args.toList,c.argTypes.toList with
   |[x],[t]=>match P.underlying t with
    |some (.slice _)=>(cX x).map fun a=>.capn a
    |_=>none
   |_,_=>none
  |.builtin .copy=>match c.args.toList,c.argTypes.toList with
   |[x,y],[t,u]=>match aT t u with
    |true=>do
     let e ←jF P t
     match tU P e with
     |true=>pure (.copy 1 (←cX x) (←cX y))
     |false=>none
    |false=>none
   |_,_=>none
  |_=>none
 |.makeSlice t l c=>do
  let e ←jF P t
  pure (.mksl e (←dF P e) (←jA P e) (←iQ P e) (←cX l) (←cX c))
 |.slice t x lo hi none=>match P.underlying t with
  |some .string=>do pure (.slcS (←cX x) (←mM lo) (←mM hi))
  |some (.slice e)=>do pure (.slc (←dF P e) (←cX x) (←mM lo) (←mM hi))
  |some (.array n e)=>do pure (.slcP (←dF P e) n (←cX x) (←mM lo) (←mM hi))
  |_=>none
 |.slice t x lo (some hi) (some mx)=>match P.underlying t with
  |some (.slice e)=>do pure (.slc3 (←dF P e) (←cX x) (←mM lo) (←cX hi) (←cX mx))
  |_=>none
 |.range t x=>match P.underlying t with
  |some .string=>(cX x).map .rng
  |_=>none
 |.next x true=>(cX x).map .nxt
 |.makeMap t none=>(WU P t).map fun k=>.mkmap k.1
 |.nilCheck x=>(cX x).map fun a=>.nilc a
 |.convert s t x=>match P.underlying s,P.underlying t with
  |some (.int _),some (.int k)=>(cX x).map fun a=>.conv k a
  |some .string,some (.slice e)=>match P.underlying e with
   |some (.int .u8)=>(cX x).map fun a=>.s2b e a
   |_=>none
  |some (.slice e),some .string=>match P.underlying e with
   |some (.int .u8)=>(cX x).map fun a=>.b2s a
   |_=>none
  |_,_=>none
 |.makeFunc f fs cs=>do pure (.mkfn f (←yD fs.toList) (←yD cs.toList))
 |.makeInterface t x=>match P.underlying t with
  |some (.interface _)=>none
  |some _=>(cX x).map fun a=>.mkif t a
  |none=>none
 |.typeAssert x _ t two=>match P.underlying t with
  |some (.interface _)=>none
  |some _=>do pure (.tass t (←JA P t) two (←cX x))
  |none=>none
 |.panic _=>some .dead
 |.lookup t x k two=>match WU P t with
  |some (kd,e)=>do pure (.look kd (←JA P e) two (←cX x) (←cX k))
  |none=>none
 |.mapUpdate t x k v=>match WU P t with
  |some (kd,_)=>do pure (.mset kd (←cX x) (←cX k) (←cX v))
  |none=>none
 |_=>none
open Go.AE (All2 jJ)
def ev(t:Nat→V):X→V
 |.t k=>t k
 |.k v=>v
noncomputable def LF(t:Nat→V)(xs:List X):List V:=mp (ev t) xs
def V.cells?:V→Option (List C)
 |.c x=>some [x]
 |.a cs=>some cs
 |.t _=>none
def jH:C→Bool
 |.f (.z v)=>v.oneCell'
 |.top=>false
 |_=>true
noncomputable abbrev jE(l:List C):Bool:=all jH l
noncomputable def kN(vs:List C)(o:Nat)(cs:List C):List C:=ap (tk o vs) (ap cs (dp (gM o (len cs)) vs))
def aNV(m n:Nat):Nat:=match bP m n with
 |true=>m
 |false=>n
noncomputable def FT(vs:List C)(o:Nat):Option Nat→V
 |none=>.c (aZ .top vs o)
 |some k=>.a (tk k (dp o vs))
noncomputable def kT(t:Nat→V)(ps:List (Nat×Nat×X)):List C→Option (List C):=dV (motive:=fun _=>List C→Option (List C)) (fun vs=>some vs)
 (fun p _ ih vs=>match (ev t p.2.2).cells? with
  |some cs=>match dU (aT (len cs) p.2.1) (dU (bP (gM p.1 p.2.1) (len vs)) (jE cs)) with
   |true=>ih (kN vs p.1 cs)
   |false=>none
  |none=>none) ps
noncomputable def vE(z:List C)(n:Nat):List C:=Nat.rec (motive:=fun _=>List C) [] (fun _ ih=>ap z ih) n
inductive pX where
 |no
 |wr (id:Nat) (o:O)
 |nw (o:O)
 |ap (old:Nat) (o:O)
def pX.upd(nid:Nat):pX→Nat→Option O
 |.no,_=>none
 |.wr id o,i=>if i=id then some o else none
 |.nw o,i=>if i=nid then some o else none
 |.ap old o,i=>if i=nid then some o else if i=old then some .gone else none
def pX.mem(e:pX)(nid:Nat)(h:Nat→O):Nat→O:=fun i=>(e.upd nid i).getD (h i)
def pX.isNw:pX→Bool
 |.nw _=>true
 |.ap _ _=>true
 |_=>false
abbrev oB:=Option (V×pX)
def ck(b:Bool)(r:oB):oB:=match b with|true=>r|false=>none
theorem fN{b:Bool}{r:oB}{x:V×pX}(h:ck b r=some x):b=true∧r=some x:=by cases b<;>simp_all [ck]
def YI(a b:List Nat):Bool:=match a,b with
 |[],[]=>true
 |x::a,y::b=>match aT x y with
  |true=>YI a b
  |false=>false
 |_,_=>false
theorem OY:∀ {a b:List Nat},YI a b=true↔a=b
 |[],[]=>by simp[YI]
 |[],_::_=>by simp[YI]
 |_::_,[]=>by simp[YI]
 |x::a,y::b=>by
  unfold YI;cases h:aT x y with
  |true=>simp[aF h,OY]
  |false=>simp[Nat.ne_of_beq_eq_false h]
def ltL(a b:List Nat):Bool:=match a,b with
 |[],_::_=>true
 |x::a,y::b=>match cN x y with
  |true=>true
  |false=>match aT x y with
   |true=>ltL a b
   |false=>false
 |_,_=>false
def IW(op:BinOp)(k:IntKind)(a b:Int):Option F:=match op with
 |.add=>frI (aPH a b) fun n=>match IM k n with|true=>some (.i k n)|false=>none
 |.sub=>frI (aPE a b) fun n=>match IM k n with|true=>some (.i k n)|false=>none
 |.mul=>frI (aPG a b) fun n=>match IM k n with|true=>some (.i k n)|false=>none
 |.quo=>match uM 0 a,uM 1 b with
  |true,true=>frI (a / b) fun n=>match IM k n with|true=>some (.i k n)|false=>none
  |_,_=>none
 |.rem=>match uM 0 a,uM 1 b with
  |true,true=>frI (a%b) fun n=>match IM k n with|true=>some (.i k n)|false=>none
  |_,_=>none
 |.eql=>some (.b (UT a b))
 |.neq=>some (.b (sR (UT a b)))
 |.lss=>some (.b (PP a b))
 |.leq=>some (.b (uM a b))
 |.gtr=>some (.b (PP b a))
 |.geq=>some (.b (uM b a))
 |_=>none
noncomputable def IV(op:BinOp)(a b:List Nat):Option F:=match op with
 |.add=>match bP (gM (len a) (len b)) 9223372036854775807 with|true=>some (.s (ap a b))|false=>none
 |.eql=>some (.b (YI a b))
 |.neq=>some (.b (sR (YI a b)))
 |.lss=>some (.b (ltL a b))
 |.leq=>some (.b (match ltL a b with|true=>true|false=>YI a b))
 |.gtr=>some (.b (sR (match ltL a b with|true=>true|false=>YI a b)))
 |.geq=>some (.b (sR (ltL a b)))
 |_=>none
def UC(op:BinOp)(k:IntKind)(a b:Int):Option Int:=match op with
 |.add=>some (k.wrap (a+b))
 |.sub=>some (k.wrap (a-b))
 |.mul=>some (k.wrap (a*b))
 |.and=>some (k.wrap (cB k.bits a &&& cB k.bits b).toNat)
 |.or=>some (k.wrap (cB k.bits a ||| cB k.bits b).toNat)
 |.xor=>some (k.wrap (cB k.bits a ^^^ cB k.bits b).toNat)
 |.shl=>match uM 0 b with|true=>some (k.wrap (a*2^(min b.toNat k.bits)))|false=>none
 |.shr=>match uM 0 b with|true=>some (a.fdiv (2^(min b.toNat k.bits)))|false=>none
 |_=>none
noncomputable def pT(xs ys:List C)(fs:List (Nat×PK)):Option Bool:=dV (motive:=fun _=>Option Bool) (some true)
 (fun p _ ih=>match p.2,aZ .top xs p.1,aZ .top ys p.1 with
  |.i,.f (.i k1 a),.f (.i k2 b)=>match AE.kEq k1 k2,ih with
   |true,some c=>some (dU (UT a b) c)
   |_,_=>none
  |.s,.f (.s a),.f (.s b)=>match ih with
   |some c=>some (dU (YI a b) c)
   |none=>none
  |.b,.f (.b a),.f (.b b)=>match ih with
   |some c=>some (dU (a==b) c)
   |none=>none
  |_,_,_=>none) fs
def asF:V→Option F
 |.c (.f x)=>some x
 |_=>none
noncomputable def aHM(vs:List V):Option (List F):=dV (motive:=fun _=>Option (List F)) (some [])
 (fun v _ ih=>match asF v,ih with
  |some x,some l=>some (x::l)
  |_,_=>none) vs
noncomputable def QF(h:Nat→O)(sz:Nat):V→Option (Nat×List C)
 |.c (.f (.z (.slice none 0 0)))=>some (0,[])
 |.c (.f (.sl _ id sz' off n))=>match h id with
  |.blk _ _ vs=>match dU (aT sz sz') (bP (iK (gM off n) sz) (len vs)) with
   |true=>some (n,tk (iK n sz) (dp (iK off sz) vs))
   |false=>none
  |.rdb _ vs=>match dU (aT sz sz') (bP (iK (gM off n) sz) (len vs)) with
   |true=>some (n,tk (iK n sz) (dp (iK off sz) vs))
   |false=>none
  |_=>none
 |_=>none
def aHG:C→Option Nat
 |.f (.i .u8 (.ofNat k))=>match bP k 255 with
  |true=>some k
  |false=>none
 |_=>none
noncomputable def PD(l:List C):Option (List Nat):=dV (motive:=fun _=>Option (List Nat)) (some []) (fun x _ ih=>match aHG x,ih with
 |some k,some r=>some (k::r)
 |_,_=>none) l
section
variable (t:Nat→V) (h:Nat→O) (nid:Nat)
def EE(c a b:X):oB:=match ev t c with
 |.c (.f (.b x))=>match x with
  |true=>some (ev t a,.no)
  |false=>some (ev t b,.no)
 |_=>none
noncomputable def KH(ty:TypeId)(x:X):oB:=match (ev t x).cells? with
 |some cs=>ck (jE cs) (some (.c (.f (.ptr nid 0)),.nw (.blk true ty cs)))
 |none=>none
noncomputable def xL(z:List C)(ps:List (Nat×Nat×X)):oB:=match kT t ps z with
 |some cs=>some (.a cs,.no)
 |none=>none
noncomputable def KG(ty:TypeId)(sz n:Nat)(z:List C)(ps:List (Nat×Nat×X)):oB:=match kT t ps (vE z n) with
 |some cs=>ck (dU (aT (len z) sz) (dU (cN 0 sz) (bP (iK n sz) 16777216))) (some (.c (.f (.sl true nid sz 0 n)),.nw (.blk true ty cs)))
 |none=>none
noncomputable def EO(n:Option Nat)(x:X):oB:=match ev t x with
 |.c (.f (.ptr id off))=>match h id with
  |.blk _ _ vs=>ck (bP (gM off (jJ n)) (len vs)) (some (FT vs off n,.no))
  |.rdb _ vs=>ck (bP (gM off (jJ n)) (len vs)) (some (FT vs off n,.no))
  |.glb _ vs=>ck (bP (gM off (jJ n)) (len vs)) (some (FT vs off n,.no))
  |_=>none
 |_=>none
noncomputable def xJ(n:Nat)(a v:X):oB:=match (ev t v).cells? with
 |some cs=>match ev t a with
  |.c (.f (.ptr id off))=>match h id with
   |.blk x ty vs=>ck (dU (aT (len cs) n) (dU (bP (gM off n) (len vs)) (jE cs))) (some (.t [],.wr id (.blk x ty (kN vs off cs))))
   |_=>none
  |_=>none
 |none=>none
noncomputable def RW(op:BinOp)(x y:X):oB:=match ev t x,ev t y with
 |.c (.f (.i k a)),.c (.f (.i k' b))=>ck (AE.kEq k k') (match IW op k a b with
  |some v=>some (.c (.f v),.no)
  |none=>none)
 |.c (.f (.s a)),.c (.f (.s b))=>match IV op a b with
  |some v=>some (.c (.f v),.no)
  |none=>none
 |_,_=>none
def FA(op:BinOp)(k:IntKind)(x y:X):oB:=match ev t x,ev t y with
 |.c (.f (.i k1 a)),.c (.f (.i k2 b))=>ck (dU (AE.kEq k k1) (match op with|.shl=>true|.shr=>true|_=>AE.kEq k k2)) (match UC op k a b with
  |some n=>frI n fun n=>some (.c (.f (.i k n)),.no)
  |none=>none)
 |_,_=>none
def FB(op:BinOp)(x y:X):oB:=match ev t x,ev t y with
 |.c (.f (.b a)),.c (.f (.b b))=>match op with
  |.eql=>some (.c (.f (.b (a==b))),.no)
  |.neq=>some (.c (.f (.b (!(a==b)))),.no)
  |_=>none
 |_,_=>none
noncomputable def EW(neg:Bool)(fs:List (Nat×PK))(x y:X):oB:=match ev t x,ev t y with
 |.a xs,.a ys=>match pT xs ys fs with
  |some b=>some (.c (.f (.b (match neg with|true=>sR b|false=>b))),.no)
  |none=>none
 |_,_=>none
def RO(x:X):oB:=match ev t x with
 |.c (.f (.b a))=>some (.c (.f (.b (sR a))),.no)
 |_=>none
def RP(x:X):oB:=match ev t x with
 |.c (.f (.i k a))=>frI (-a) fun n=>ck (IM k n) (some (.c (.f (.i k n)),.no))
 |_=>none
def sH(off:Nat)(x:X):oB:=match ev t x with
 |.c (.f (.ptr id o))=>some (.c (.f (.ptr id (gM o off))),.no)
 |_=>none
def EU(sz n:Nat)(x i:X):oB:=match ev t x,ev t i with
 |.c (.f (.ptr id o)),.c (.f (.i _ k))=>ck (dU (uM 0 k) (PP k n)) (some (.c (.f (.ptr id (gM o (iK k.toNat sz)))),.no))
 |_,_=>none
noncomputable def RU(off:Nat)(n:Option Nat)(x:X):oB:=match ev t x with
 |.a cs=>ck (bP (gM off (jJ n)) (len cs)) (some (FT cs off n,.no))
 |_=>none
def ES(sz:Nat)(x i:X):oB:=match ev t x,ev t i with
 |.c (.f (.sl _ id sz' off n)),.c (.f (.i _ k))=>ck (dU (aT sz sz') (dU (uM 0 k) (PP k n))) (some (.c (.f (.ptr id (iK (gM off k.toNat) sz))),.no))
 |_,_=>none
noncomputable def ER(x i:X):oB:=match ev t x,ev t i with
 |.c (.f (.s s)),.c (.f (.i _ k))=>ck (dU (uM 0 k) (PP k (len s))) (some (.c (.f (.i .u8 (aY (aZ 0 s k.toNat)))),.no))
 |_,_=>none
noncomputable def EV(x:X)(i:Nat):oB:=match ev t x with
 |.t vs=>ck (cN i (len vs)) (some ((aZ (.c .top) vs i).up,.no))
 |_=>none
def RS(x:X):oB:=match ev t x with
 |.c (.f (.z (.slice none 0 0)))=>some (.c (.f (.i .i64 0)),.no)
 |.c (.f (.sl _ _ _ _ n))=>some (.c (.f (.i .i64 n)),.no)
 |_=>none
noncomputable def EP(x:X):oB:=match ev t x with
 |.c (.f (.s s))=>some (.c (.f (.i .i64 (len s))),.no)
 |_=>none
def RQ(x y:X):oB:=match ev t x,ev t y with
 |.c (.f (.i k a)),.c (.f (.i _ b))=>some (.c (.f (.i k (match PP b a with|true=>b|false=>a))),.no)
 |_,_=>none
def RR(x y:X):oB:=match ev t x,ev t y with
 |.c (.f (.i k a)),.c (.f (.i _ b))=>some (.c (.f (.i k (match PP a b with|true=>b|false=>a))),.no)
 |_,_=>none
noncomputable def YJ(ty sz:Nat):V→Option (Nat×List C×Option Nat)
 |.c (.f (.z (.slice none 0 0)))=>some (0,[],none)
 |.c (.f (.sl true id sz' off n))=>match h id with
  |.blk _ ty' vs=>match dU (aT sz sz') (dU (aT ty ty') (dU (aT off 0) (aT (iK n sz) (len vs)))) with
   |true=>some (n,vs,some id)
   |false=>none
  |_=>none
 |_=>none
def pX.app(old:Option Nat)(o:O):pX:=match old with
 |none=>.nw o
 |some id=>.ap id o
noncomputable def KI(ty:TypeId)(sz bytes:Nat)(z:List C)(x y:X):oB:=match QF h sz (ev t y),YJ h ty sz (ev t x) with
 |some (m,news),some (n,vs,old)=>ck (dU (dU (cN 0 sz) (aT (len z) sz)) (dU (bP (iK (gM n m) bytes) 140737488355328) (dU (bP (gM n m) 140737488355328) (jE news)))) (some (.c (.f (.sl true nid sz 0 (gM n m))),.app old (.blk false ty (ap vs news))))
 |_,_=>none
noncomputable def yU(ty:TypeId)(x y:X):oB:=match ev t y,YJ h ty 1 (ev t x) with
 |.c (.f (.s l)),some (n,vs,old)=>ck (bP (gM n (len l)) 140737488355328) (some (.c (.f (.sl true nid 1 0 (gM n (len l)))),.app old (.blk false ty (ap vs (mp (fun k=>.f (.i .u8 (aY k))) l)))))
 |_,_=>none
noncomputable def yT(ty:TypeId)(sz bytes:Nat)(z:List C)(x y:X):oB:=match ev t x,ev t y with
 |.c (.f (.i _ l)),.c (.f (.i _ c))=>ck (dU (cN 0 sz) (dU (aT (len z) sz) (dU (uM 0 l) (dU (uM l c) (dU (uM (c*bytes) 140737488355328) (uM c 140737488355328)))))) (some (.c (.f (.sl true nid sz 0 l.toNat)),.nw (.blk (UT l c) ty (vE z l.toNat))))
 |_,_=>none
def xX(d:Nat)(x:Option X):Option Int:=match x with
 |none=>some d
 |some ax=>match ev t ax with
  |.c (.f (.i _ n))=>some n
  |_=>none
def RM(sz:Nat)(x:X)(lo hi:Option X):oB:=match ev t x with
 |.c (.f (.sl x0 id sz' off n))=>match xX t n hi,xX t 0 lo with
  |some hh,some l=>ck (dU (aT sz sz') (dU (uM 0 l) (dU (uM l hh) (uM hh n)))) (some (.c (.f (.sl x0 id sz' (gM off l.toNat) (Nat.sub hh.toNat l.toNat))),.no))
  |_,_=>none
 |.c (.f (.z (.slice none 0 0)))=>match xX t 0 hi,xX t 0 lo with
  |some hh,some l=>ck (dU (UT l 0) (UT hh 0)) (some (.c (.f (.z (.slice none 0 0))),.no))
  |_,_=>none
 |_=>none
def ED(sz:Nat)(x:X)(lo:Option X)(hi mx:X):oB:=match ev t x,ev t hi,ev t mx with
 |.c (.f (.sl _ id sz' off n)),.c (.f (.i _ hh)),.c (.f (.i _ m))=>match xX t 0 lo with
  |some l=>ck (dU (aT sz sz') (dU (uM 0 l) (dU (uM l hh) (dU (uM hh m) (uM m n))))) (some (.c (.f (.sl false id sz' (gM off l.toNat) (Nat.sub hh.toNat l.toNat))),.no))
  |none=>none
 |_,_,_=>none
noncomputable def EB(sz n:Nat)(x:X)(lo hi:Option X):oB:=match ev t x,lo,hi with
 |.c (.f (.ptr id off)),none,none=>match h id with
  |.blk x0 _ vs=>ck (dU (aT off 0) (dU (cN 0 n) (dU (bP n 16777216) (aT (iK n sz) (len vs))))) (some (.c (.f (.sl x0 id sz 0 n)),.no))
  |.glb _ vs=>ck (dU (aT off 0) (dU (cN 0 n) (dU (bP n 16777216) (aT (iK n sz) (len vs))))) (some (.c (.f (.sl false id sz 0 n)),.no))
  |_=>none
 |_,_,_=>none
noncomputable def EA(x:X)(lo hi:Option X):oB:=match ev t x with
 |.c (.f (.s s))=>match xX t (len s) hi,xX t 0 lo with
  |some hh,some l=>ck (dU (uM 0 l) (dU (uM l hh) (uM hh (len s)))) (some (.c (.f (.s (tk (Nat.sub hh.toNat l.toNat) (dp l.toNat s)))),.no))
  |_,_=>none
 |_=>none
noncomputable def EM(f:Fn)(fs cs:List X):oB:=match aHM (LF t fs),aHM (LF t cs) with
 |some xs,some ys=>some (.c (.fn f xs ys),.no)
 |_,_=>none
def EH(x:X):oB:=match ev t x with
 |.c (.f (.ptr id off))=>some (.c (.f (.ptr id off)),.no)
 |.c (.ifc ty y)=>some (.c (.ifc ty y),.no)
 |_=>none
def aJZ:V→Option Bool
 |.c (.f (.ptr _ _))=>some false
 |.c (.f (.z (.pointer none)))=>some true
 |_=>none
def RV(neg:Bool)(x y:X):oB:=match aJZ (ev t x),aJZ (ev t y) with
 |some true,some b=>some (.c (.f (.b (match neg with|true=>sR b|false=>b))),.no)
 |some b,some true=>some (.c (.f (.b (match neg with|true=>sR b|false=>b))),.no)
 |_,_=>none
def EF(neg:Bool)(x:X):oB:=match ev t x with
 |.c (.f (.z (.slice none 0 0)))=>some (.c (.f (.b (sR neg))),.no)
 |.c (.f (.sl _ _ _ _ n))=>ck (cN 0 n) (some (.c (.f (.b neg)),.no))
 |_=>none
def EG(neg:Bool)(x:X):oB:=match ev t x with
 |.c (.f (.z (.map none)))=>some (.c (.f (.b (sR neg))),.no)
 |.c (.f (.mp _))=>some (.c (.f (.b neg)),.no)
 |_=>none
def EY(k:IntKind)(x:X):oB:=match ev t x with
 |.c (.f (.i _ n))=>match IM k n with
  |true=>some (.c (.f (.i k n)),.no)
  |false=>frI (k.wrap n) fun n=>some (.c (.f (.i k n)),.no)
 |_=>none
def EJ(k:IntKind)(x:X):oB:=match ev t x with
 |.c (.f (.i k1 n))=>ck (AE.kEq k k1) (frI (k.wrap (-n)) fun n=>some (.c (.f (.i k n)),.no))
 |_=>none
def xK(sub:Bool)(x y c:X):oB:=match ev t x,ev t y,ev t c with
 |.c (.f (.i .u64 a)),.c (.f (.i .u64 b)),.c (.f (.i .u64 n))=>ck (dU (uM 0 a) (dU (uM 0 b) (dU (PP b 18446744073709551616) (dU (uM 0 n) (uM n 1)))))
    (match sub with
    |false=>frI ((a+b+n)%18446744073709551616) fun s=>frI ((a+b+n) / 18446744073709551616) fun q=>some (.t [.c (.f (.i .u64 s)),.c (.f (.i .u64 q))],.no)
    |true=>frI ((a+18446744073709551616-b-n)%18446744073709551616) fun s=>some (.t [.c (.f (.i .u64 s)),.c (.f (.i .u64 (match PP a (b+n) with|true=>1|false=>0)))],.no))
 |_,_,_=>none
def EZ(x:X):oB:=match ev t x with
 |.c (.f (.z (.slice none 0 0)))=>some (.c (.f (.i .i64 0)),.no)
 |_=>none
noncomputable def EX(sz:Nat)(x y:X):oB:=match QF h sz (ev t y) with
 |some (m,news)=>match ev t x with
  |.c (.f (.sl _ id sz' off n))=>match h id with
   |.blk x ty vs=>frN (aNV m n) fun q=>ck (dU (aT sz sz') (dU (bP (iK (gM off q) sz) (len vs)) (jE (tk (iK q sz) news)))) (some (.c (.f (.i .i64 q)),.wr id (.blk x ty (kN vs (iK off sz) (tk (iK q sz) news)))))
   |_=>none
  |_=>none
 |none=>none
def EL(ty:TypeId)(x:X):oB:=match ev t x with
 |.c (.f (.ptr id off))=>some (.c (.ifc ty (.ptr id off)),.no)
 |_=>none
noncomputable def RY(x:X):oB:=match QF h 1 (ev t x) with
 |some (_,cs)=>match PD cs with
  |some l=>some (.c (.f (.s l)),.no)
  |none=>none
 |none=>none
noncomputable def KD(ty:TypeId)(x:X):oB:=match ev t x with
 |.c (.f (.s l))=>some (.c (.f (.sl false nid 1 0 (len l))),.nw (.rdb ty (mp (fun k=>.f (.i .u8 (aY k))) l)))
 |_=>none
def KE(x:X):oB:=match ev t x with
 |.c (.f (.s l))=>some (.c (.f (.ptr nid 0)),.nw (.sit l 0))
 |_=>none
noncomputable def RN(x:X):oB:=match ev t x with
 |.c (.f (.ptr id 0))=>match h id with
  |.sit l pos=>match cN pos (len l) with
   |true=>ck (cN (aZ 0 l pos) 128) (some (.t [.c (.f (.b true)),.c (.f (.i .i64 (aY pos))),.c (.f (.i .i32 (aY (aZ 0 l pos))))],.wr id (.sit l (iA pos))))
   |false=>some (.t [.c (.f (.b false))],.no)
  |_=>none
 |_=>none
noncomputable def EQ(sz m:Nat)(n:Option Nat)(x i:X):oB:=match ev t x,ev t i with
 |.a cs,.c (.f (.i _ k))=>ck (dU (dU (uM 0 k) (PP k m)) (bP (gM (iK k.toNat sz) (jJ n)) (len cs))) (some (FT cs (iK k.toNat sz) n,.no))
 |_,_=>none
def DZ(ty:TypeId)(z:W)(two:Bool)(x:X):oB:=match ev t x with
 |.c (.ifc ty' y)=>match aT ty' ty,two with
  |true,true=>some (.t [.c (.f y),.c (.f (.b true))],.no)
  |true,false=>some (.c (.f y),.no)
  |false,true=>some (.t [z,.c (.f (.b false))],.no)
  |false,false=>none
 |.c (.f (.z .nilIface))=>match two with
  |true=>some (.t [z,.c (.f (.b false))],.no)
  |false=>none
 |_=>none
noncomputable def uC(k:Int)(es:List (Int×W)):Option W:=dV (motive:=fun _=>Option W) none (fun p _ ih=>match UT k p.1 with|true=>some p.2|false=>ih) es
def aI7(two:Bool)(x:W)(b:Bool):V:=match two with
 |true=>.t [x,.c (.f (.b b))]
 |false=>x.up
noncomputable def EN(kd:IntKind)(z:W)(two:Bool)(x k:X):oB:=match ev t k with
 |.c (.f (.i kd1 n))=>match AE.kEq kd kd1 with
  |true=>match ev t x with
   |.c (.f (.z (.map none)))=>some (aI7 two z false,.no)
   |.c (.f (.mp id))=>match h id with
    |.map kd2 es=>match AE.kEq kd kd2 with
     |true=>match uC n es with
      |some v=>some (aI7 two v true,.no)
      |none=>some (aI7 two z false,.no)
     |false=>none
    |_=>none
   |_=>none
  |false=>none
 |_=>none
def asW:V→Option W
 |.c x=>some (.c x)
 |.a cs=>some (.a cs)
 |.t _=>none
noncomputable def EK(kd:IntKind)(x k v:X):oB:=match ev t k,asW (ev t v),ev t x with
 |.c (.f (.i kd1 n)),some y,.c (.f (.mp id))=>match h id with
  |.map kd2 es=>match uC n es with
   |none=>ck (dU (AE.kEq kd kd1) (AE.kEq kd kd2)) (some (.t [],.wr id (.map kd2 (ap es [(n,y)]))))
   |some _=>none
  |_=>none
 |_,_,_=>none
noncomputable def mH:BW→oB
 |.mv x=>some (ev t x,.no)
 |.pick c a b=>EE t c a b
 |.alloc ty z=>some (.c (.f (.ptr nid 0)),.nw (.blk true ty z))
 |.box ty x=>KH t nid ty x
 |.build z ps=>xL t z ps
 |.bsl ty sz n z ps=>KG t nid ty sz n z ps
 |.load n x=>EO t h n x
 |.store n a v=>xJ t h n a v
 |.bin op x y=>RW t op x y
 |.binw op k x y=>FA t op k x y
 |.binb op x y=>FB t op x y
 |.eqs neg fs x y=>EW t neg fs x y
 |.not x=>RO t x
 |.neg x=>RP t x
 |.faddr off x=>sH t off x
 |.fadI sz n x i=>EU t sz n x i
 |.fld off n x=>RU t off n x
 |.idxA sz x i=>ES t sz x i
 |.idxS x i=>ER t x i
 |.extr x i=>EV t x i
 |.lenA x=>RS t x
 |.lenS x=>EP t x
 |.min x y=>RQ t x y
 |.max x y=>RR t x y
 |.app ty sz bytes z x y=>KI t h nid ty sz bytes z x y
 |.appS ty x y=>yU t h nid ty x y
 |.mksl ty sz bytes z x y=>yT t nid ty sz bytes z x y
 |.slc sz x lo hi=>RM t sz x lo hi
 |.slcS x lo hi=>EA t x lo hi
 |.mkfn f fs cs=>EM t f fs cs
 |.nilc x=>EH t x
 |.eqp neg x y=>RV t neg x y
 |.nils neg x=>EF t neg x
 |.nilm neg x=>EG t neg x
 |.conv k x=>EY t k x
 |.negw k x=>EJ t k x
 |.carry sub x y c=>xK t sub x y c
 |.capn x=>EZ t x
 |.copy sz x y=>EX t h sz x y
 |.mkif ty x=>EL t ty x
 |.tass ty z two x=>DZ t ty z two x
 |.mkmap kd=>some (.c (.f (.mp nid)),.nw (.map kd []))
 |.look kd z two x k=>EN t h kd z two x k
 |.mset kd x k v=>EK t h kd x k v
 |.slcP sz n x lo hi=>EB t h sz n x lo hi
 |.slc3 sz x lo hi mx=>ED t sz x lo hi mx
 |.s2b ty x=>KD t nid ty x
 |.b2s x=>RY t h x
 |.rng x=>KE t nid x
 |.nxt x=>RN t h x
 |.idxV sz m n x i=>EQ t sz m n x i
 |_=>none
end
open Go.AE (All2 jJ dF jA rF iZ jL jF)
section
variable {P:Program} {β:Bt} {w:World} {st:St} {a:Act} {o:Oper} {nid:Nat} {v:V} {e:pX}
def bX(P:Program)(β:Bt)(h:Nat→O)(nid:Nat)(o:Oper)(a:Act)(w:World)(v:V)(e:pX):Prop:=
 ∃u w' β',((execOp a.eval o).run P w=.ok (.value u) w'∨((execOp a.eval o).run P w=.ok .skip w'∧u=undef))∧VR β' v u∧HS β' w' (e.mem nid h)∧Gr β w β' w'∧∀i,(i≠nid∨e.isNw=false)→β' i=β i
theorem aNW{h:Nat→O}:pX.mem .no nid h=h:=rfl
theorem yY{h:Nat→O}{id:Nat}{x:O}:pX.mem (.wr id x) nid h=fu h id x:=by
 funext i;unfold pX.mem pX.upd fu;by_cases e:i=id<;>simp[e]
theorem yZ{h:Nat→O}{x:O}:pX.mem (.nw x) nid h=fu h nid x:=by
 funext i;unfold pX.mem pX.upd fu;by_cases e:i=nid<;>simp[e]
theorem aFN{h:Nat→O}{id:Nat}{x:O}:pX.mem (.ap id x) nid h=fu (fu h id .gone) nid x:=by
 funext i
 show (if i=nid then some x else if i=id then some O.gone else none).getD (h i)=if i=nid then x else if i=id then O.gone else h i
 by_cases e:i=nid
 ·rw[if_pos e,if_pos e];rfl
 ·rw[if_neg e,if_neg e]
  by_cases e2:i=id
  ·rw[if_pos e2,if_pos e2];rfl
  ·rw[if_neg e2,if_neg e2];rfl
theorem bX.same(hs:eJ β st a w){u:Value}(hr:(execOp a.eval o).run P w=.ok (.value u) w)(hv:VR β v u):bX P β st.h nid o a w v .no:=
 ⟨u,w,β,.inl hr,hv,hs.hs,Gr.refl _ _,fun _ _=>rfl⟩
theorem JH(v:Value):FR β (toF v) v:=by
 cases v with
 |string s=>exact⟨s,rfl,rfl⟩
 |_=>rfl
theorem nQ(l:List Value):All2 (CR β) (l.map fun v=>.f (toF v)) l:=AE.All2.map_left _ (AE.All2.self (q:=fun x y=>CR β (.f (toF x)) y) (fun x=>JH x) l)
theorem yL(v:Value):VR β (toV v) v:=by
 cases v with
 |agg cs=>exact⟨cs,rfl,nQ _⟩
 |tuple vs=>exact trivial
 |string s=>exact JH (β:=β) (.string s)
 |_=>exact rfl
theorem aM(hs:eJ β st a w){x:Operand}{ax:X}(h:cX x=some ax):VR β (ev st.t ax) (a.eval x):=by
 cases x with
 |tmp t=>
  simp only[cX,aB]at h;subst h;exact hs.tm t
 |const v=>simp only[cX,aB]at h;subst h;exact yL v
 |global g=>
  simp only[cX]at h;split at h
  ·rename_i hg
   obtain rfl:=aF hg;injection h with h;subst h;obtain⟨N,hN⟩:=hs.gl;exact⟨0,N,hN,rfl⟩
  ·cases h
 |func f=>
  simp only[cX,aB]at h;subst h;exact⟨#[],#[],rfl,trivial,trivial⟩
theorem TJ{t:Nat→V}{x:X}{xs:List X}:LF t (x::xs)=ev t x::LF t xs:=rfl
theorem nX(hs:eJ β st a w):∀(xs:List Operand) (l:List X),yD xs=some l→All2 (VR β) (LF st.t l) (xs.map a.eval)
 |[],l,h=>by simp only[yD,aB]at h;subst h;exact trivial
 |x::xs,l,h=>by
  simp only[yD]at h;cases hx:cX x with
  |none=>simp[hx]at h
  |some ax=>
   cases hr:yD xs with
   |none=>simp[hx,hr]at h
   |some l'=>
    simp only[hx,hr,aG,aE,gN,aB]at h;subst h;exact⟨aM hs hx,nX hs xs l' hr⟩
theorem RI(hs:eJ β st a w){x:Operand}{ax:X}(hx:cX x=some ax)(ho:o.op=.move x∨o.op=.assign x):bX P β st.h nid o a w (ev st.t ax) .no:=by
 refine bX.same hs (u:=a.eval x) ?_ (aM hs hx)
 rcases ho with ho|ho<;>simp[execOp,ho]
theorem MU(hs:eJ β st a w){c x y:Operand}{ac ax ay:X}(hc:cX c=some ac)(hx:cX x=some ax)(hy:cX y=some ay)(ho:o.op=.pick c x y)(h:EE st.t ac ax ay=some (v,e)):bX P β st.h nid o a w v e:=by
 have hv:=aM hs hc
 unfold EE at h;split at h
 ·rename_i b he
  rw[he]at hv
  have hv:a.eval c=.bool b:=hv
  cases b with
  |true=>cases h;exact bX.same hs (u:=a.eval x) (by simp[execOp,ho,hv,asBool]) (aM hs hx)
  |false=>cases h;exact bX.same hs (u:=a.eval y) (by simp[execOp,ho,hv,asBool]) (aM hs hy)
 ·cases h
theorem VZ(hs:eJ β st a w){x:Operand}{ax:X}{t:TypeId}(hx:cX x=some ax)(ho:o.op=.unOp .not t x)(h:RO st.t ax=some (v,e)):bX P β st.h nid o a w v e:=by
 have hv:=aM hs hx
 unfold RO at h;split at h
 ·rename_i b he
  rw[he]at hv
  have hv:a.eval x=.bool b:=hv
  cases h;exact bX.same hs (u:=.bool (!b)) (by simp[execOp,ho,hv,Op.unary]) (by rw[oC];rfl)
 ·cases h
theorem lQ{k k':IntKind}(h:AE.kEq k k'=true):k=k':=by cases k<;>cases k'<;>first|rfl|cases h
theorem NN(hs:eJ β st a w){op:BinOp}{t t':TypeId}{x y:Operand}{ax ay:X}(hx:cX x=some ax)(hy:cX y=some ay)(ho:o.op=.binOp op t x y t'){k:IntKind}{m n:Int}{f:F}
  (hex:ev st.t ax=.c (.f (.i k m))) (hey:ev st.t ay=.c (.f (.i k n))) (h:IW op k m n=some f):bX P β st.h nid o a w (.c (.f f)) .no:=by
 have hv:=aM hs hx
 rw[hex]at hv
 have hv:a.eval x=.int k m:=hv
 have hv':=aM hs hy
 rw[hey]at hv'
 have hv':a.eval y=.int k n:=hv'
 have run:∀u,(Go.binOp op t (.int k m) (.int k n)).run P w=.ok u w→(execOp a.eval o).run P w=.ok (.value u) w:=by
  intro u hu
  have hg:(eqGuard op t x y (.int k m) (.int k n)).run P w=.ok () w:=by
   unfold eqGuard;cases op<;>simp
  simp[execOp,ho,hv,hv',hg,hu]
 cases op<;>simp only[IW,wL,aI1,aHZ,aI0]at h<;>first|(cases h;done)|skip
 case add=>
  split at h
  ·rename_i hb;cases h
   exact bX.same hs (run _ (by simp[Go.binOp,hZ];rfl)) (by show cU _ _=_;rw[AE.wrap_in (rQ hb)])
  ·cases h
 case sub=>
  split at h
  ·rename_i hb;cases h
   exact bX.same hs (run _ (by simp[Go.binOp,hZ];rfl)) (by show cU _ _=_;rw[AE.wrap_in (rQ hb)])
  ·cases h
 case mul=>
  split at h
  ·rename_i hb;cases h
   exact bX.same hs (run _ (by simp[Go.binOp,hZ];rfl)) (by show cU _ _=_;rw[AE.wrap_in (rQ hb)])
  ·cases h
 case quo=>
  split at h
  ·rename_i h1 h2
   split at h
   ·rename_i hb;cases h
    have h1:=gD.1 h1
    have h2:=gD.1 h2
    refine bX.same hs (run (.int k (m / n)) ?_) rfl
    have e:m.tdiv n=m / n:=Int.tdiv_eq_ediv_of_nonneg h1
    simp[Go.binOp,Op.intDiv,show ¬n=0 by omega,e,AE.wrap_in (rQ hb)]
   ·cases h
  ·cases h
 case rem=>
  split at h
  ·rename_i h1 h2
   split at h
   ·rename_i hb;cases h
    have h1:=gD.1 h1
    have h2:=gD.1 h2
    refine bX.same hs (run (.int k (m%n)) ?_) rfl
    have e:m.tmod n=m%n:=Int.tmod_eq_emod_of_nonneg h1
    simp[Go.binOp,Op.intDiv,show ¬n=0 by omega,e]
   ·cases h
  ·cases h
 case eql=>cases h;exact bX.same hs (run (.bool (m==n)) (by simp[Go.binOp,Op.intCmp])) (by show Value.bool _=_;congr 1;rw[Bool.eq_iff_iff];simp[qC])
 case neq=>cases h;exact bX.same hs (run (.bool (m != n)) (by simp[Go.binOp,Op.intCmp])) (by show Value.bool _=_;congr 1;rw[oC,bne,Bool.eq_iff_iff];simp[←qC])
 case lss=>cases h;exact bX.same hs (run (.bool (decide (m<n))) (by simp[Go.binOp,Op.intCmp])) (by show Value.bool _=_;congr 1;rw[Bool.eq_iff_iff];simp[lY])
 case leq=>cases h;exact bX.same hs (run (.bool (decide (m≤n))) (by simp[Go.binOp,Op.intCmp])) (by show Value.bool _=_;congr 1;rw[Bool.eq_iff_iff];simp[gD])
 case gtr=>cases h;exact bX.same hs (run (.bool (decide (n<m))) (by simp[Go.binOp,Op.intCmp])) (by show Value.bool _=_;congr 1;rw[Bool.eq_iff_iff];simp[lY])
 case geq=>cases h;exact bX.same hs (run (.bool (decide (n≤m))) (by simp[Go.binOp,Op.intCmp])) (by show Value.bool _=_;congr 1;rw[Bool.eq_iff_iff];simp[gD])
end
open Go.AE (All2 jJ dF jA rF iZ jL jF vJ mF lH)
section
variable {P:Program} {β:Bt} {w:World} {st:St} {a:Act} {o:Oper} {nid:Nat} {v:V} {e:pX}
def qZ(x:ByteArray):List Nat:=x.data.toList.map gH
theorem aE6{x y:UInt8}(h:x.toNat=y.toNat):x=y:=UInt8.toNat_inj.1 h
theorem aFE{x y:ByteArray}(h:qZ x=qZ y):x=y:=by
 have h1:x.data.toList=y.data.toList:=(List.map_inj_right (fun _ _=>aE6)).1 h
 cases x;cases y;congr;exact Array.toList_inj.1 h1
theorem oF(x:ByteArray):(qZ x).length=x.size:=by unfold qZ;rw[eA];rfl
theorem aFF(x y:ByteArray):qZ (x++y)=qZ x++qZ y:=by
 unfold qZ;rw[ByteArray.data_append,Array.toList_append,List.map_append]
theorem TK(x y:ByteArray):YI (qZ x) (qZ y)=(x.toList==y.toList):=by
 rw[Bool.eq_iff_iff,OY,beq_iff_eq,ByteArray.toList_eq,ByteArray.toList_eq];constructor
 ·intro h;rw[aFE h]
 ·intro h;unfold qZ;rw[h]
theorem SH:∀a b:List UInt8,ltL (a.map gH) (b.map gH)=gK a b
 |[],[]=>rfl
 |[],_::_=>rfl
 |_::_,[]=>rfl
 |x::a,y::b=>by
  simp only[List.map_cons,ltL,gK]
  by_cases h:x=y
  ·subst h
   have h1:cN x.toNat x.toNat=false:=by
    cases hb:cN x.toNat x.toNat with
    |false=>rfl
    |true=>have:=aK hb;omega
   simp[h1,SH a b]
  ·have:x.toNat≠y.toNat:=fun q=>h (aE6 q)
   by_cases h2:x.toNat<y.toNat
   ·have:cN x.toNat y.toNat=true:=by simp[cN];omega
    simp[this,UInt8.lt_iff_toNat_lt,h2]
   ·have h3:cN x.toNat y.toNat=false:=by
      cases hb:cN x.toNat y.toNat with
      |false=>rfl
      |true=>simp[cN]at hb;omega
    have h4:aT x.toNat y.toNat=false:=by
     cases hb:aT x.toNat y.toNat with
     |false=>rfl
     |true=>exact absurd (aF hb) this
    simp[h3,h4,h,UInt8.lt_iff_toNat_lt,h2]
theorem aFV(x y:ByteArray):ltL (qZ x) (qZ y)=gK x.toList y.toList:=by
 rw[ByteArray.toList_eq,ByteArray.toList_eq];exact SH _ _
theorem NM(hs:eJ β st a w){op:BinOp}{t t':TypeId}{x y:Operand}{ax ay:X}(hx:cX x=some ax)(hy:cX y=some ay)(ho:o.op=.binOp op t x y t'){m n:List Nat}{f:F}
  (hex:ev st.t ax=.c (.f (.s m))) (hey:ev st.t ay=.c (.f (.s n))) (h:IV op m n=some f):bX P β st.h nid o a w (.c (.f f)) .no:=by
 have hv:=aM hs hx
 rw[hex]at hv;obtain⟨bx,hv,rfl⟩:=hv
 have hv':=aM hs hy
 rw[hey]at hv';obtain⟨by_,hv',rfl⟩:=hv'
 have run:∀u,(Go.binOp op t (.string bx) (.string by_)).run P w=.ok u w→(execOp a.eval o).run P w=.ok (.value u) w:=by
  intro u hu
  have hg:(eqGuard op t x y (.string bx) (.string by_)).run P w=.ok () w:=by
   unfold eqGuard;cases op<;>simp
  simp[execOp,ho,hv,hv',hg,hu]
 have e1:YI (bx.data.toList.map gH) (by_.data.toList.map gH)=(bx.toList==by_.toList):=TK _ _
 have e2:ltL (bx.data.toList.map gH) (by_.data.toList.map gH)=gK bx.toList by_.toList:=aFV _ _
 have e3:∀b c:Bool,(match b with|true=>true|false=>c)=(b||c):=fun b c=>by cases b<;>rfl
 cases op<;>simp only[IV,e1,e2,oC,iH,kW,e3]at h<;>first|(cases h;done)|skip
 case add=>
  split at h
  ·rename_i hb
   cases h;refine bX.same hs (run (.string (bx++by_)) ?_) ⟨_,rfl,aFF _ _⟩
   have h1:=aK hb
   have l1:=oF bx
   have l2:=oF by_
   unfold qZ at l1 l2;rw[l1,l2]at h1
   have h1:bx.size+by_.size≤9223372036854775807:=h1
   have e:¬((bx.size+by_.size:Nat):Int)>IntKind.i64.max:=by
    have:IntKind.i64.max=9223372036854775807:=by decide
    rw[this];omega
   simp only[Go.binOp,jD,if_neg e];rfl
  ·cases h
 case eql=>cases h;exact bX.same hs (run (.bool (bx.toList==by_.toList)) (by simp[Go.binOp,jD])) rfl
 case neq=>cases h;exact bX.same hs (run (.bool (!(bx.toList==by_.toList))) (by simp[Go.binOp,jD])) rfl
 case lss=>cases h;exact bX.same hs (run (.bool (gK bx.toList by_.toList)) (by simp[Go.binOp,jD])) rfl
 case leq=>cases h;exact bX.same hs (run (.bool (gK bx.toList by_.toList||bx.toList==by_.toList)) (by simp[Go.binOp,jD])) rfl
 case gtr=>cases h;exact bX.same hs (run (.bool (!(gK bx.toList by_.toList||bx.toList==by_.toList))) (by simp[Go.binOp,jD])) rfl
 case geq=>cases h;exact bX.same hs (run (.bool (!(gK bx.toList by_.toList))) (by simp[Go.binOp,jD])) rfl
theorem aF0(hs:eJ β st a w){op:BinOp}{t t':TypeId}{x y:Operand}{ax ay:X}(hx:cX x=some ax)(hy:cX y=some ay)(ho:o.op=.binOp op t x y t')(h:RW st.t op ax ay=some (v,e)):bX P β st.h nid o a w v e:=by
 unfold RW at h;split at h
 ·rename_i k m k' n h1 h2
  have h0:=fN h
  clear h;obtain⟨hk,h⟩:=h0;obtain rfl:=lQ hk;split at h
  ·rename_i f hf;cases h;exact NN hs hx hy ho h1 h2 hf
  ·cases h
 ·rename_i m n h1 h2
  split at h
  ·rename_i f hf;cases h;exact NM hs hx hy ho h1 h2 hf
  ·cases h
 ·cases h
theorem aJ7(hs:eJ β st a w){op:BinOp}{t t':TypeId}{x y:Operand}{ax ay:X}(ht:P.underlying t=some .bool)(hx:cX x=some ax)(hy:cX y=some ay)(ho:o.op=.binOp op t x y t')(h:FB st.t op ax ay=some (v,e)):bX P β st.h nid o a w v e:=by
 unfold FB at h;split at h
 ·rename_i m n hex hey
  have hv:=aM hs hx
  rw[hex]at hv
  have hv:a.eval x=.bool m:=hv
  have hv':=aM hs hy
  rw[hey]at hv'
  have hv':a.eval y=.bool n:=hv'
  have run:∀u,(Go.binOp op t (.bool m) (.bool n)).run P w=.ok u w→(execOp a.eval o).run P w=.ok (.value u) w:=by
   intro u hu
   have hg:(eqGuard op t x y (.bool m) (.bool n)).run P w=.ok () w:=by
    unfold eqGuard;cases op<;>simp
   simp[execOp,ho,hv,hv',hg,hu]
  have eq:(Op.equal t (.bool m) (.bool n)).run P w=.ok (m==n) w:=by
   have hd:∀d:Nat,(Op.equalIn (d+1) t (.bool m) (.bool n)).run P w=.ok (m==n) w:=fun d=>by simp[Op.equalIn,run_underlying ht]
   exact hd 9999
  split at h
  ·cases h;exact bX.same hs (run (.bool (m==n)) (by simp[Go.binOp,eq])) rfl
  ·cases h;exact bX.same hs (run (.bool (!(m==n))) (by simp[Go.binOp,eq])) rfl
  ·cases h
 ·cases h
theorem WA(hs:eJ β st a w){x:Operand}{ax:X}{t:TypeId}(hx:cX x=some ax)(ho:o.op=.unOp .neg t x)(h:RP st.t ax=some (v,e)):bX P β st.h nid o a w v e:=by
 have hv:=aM hs hx
 unfold RP at h;split at h
 ·rename_i k n he
  rw[he]at hv
  have hv:a.eval x=.int k n:=hv
  rw[wL]at h
  have h0:=fN h
  clear h;obtain⟨hb,h⟩:=h0;cases h
  exact bX.same hs (u:=.int k (-n)) (by
   have e:(0:Int)-n = -n:=by omega
   simp[execOp,ho,hv,Op.unary,hZ,AE.wrap_in (rQ hb)]) rfl
 ·cases h
theorem DT(hs:eJ β st a w){x:Operand}{ax:X}{t:TypeId}{k:Nat}{fs:Array Field}{f:Field}(hf:P.underlying t=some (.struct fs))(hk:fs[k]?=some f)(hsz:∃s,dF P f.type=some (s+1))(hx:cX x=some ax)(ho:o.op=.fieldAddr t x k)
  (h:sH st.t f.offset ax=some (v,e)):bX P β st.h nid o a w v e:=by
 have hv:=aM hs hx
 obtain⟨s,hsz⟩:=hsz;unfold sH at h;split at h
 ·rename_i id q he
  rw[he]at hv;obtain⟨b,N,h1,h2⟩:=hv
  have run:(execOp a.eval o).run P w=.ok (.value (.pointer (some ((⟨b,q,none⟩:Addr).add f.offset)))) w:=by
   have hz:=AE.run_sizeOf hsz w
   simp[execOp,ho,h2,Instr.fieldAt,run_underlying hf,hk,Instr.sureAddr,fieldPlace,hz]
  cases h;exact bX.same hs run ⟨b,N,h1,by rw[AE.add_mid];rfl⟩
 ·cases h
theorem NF(hs:eJ β st a w){x:Operand}{ax:X}{t el:TypeId}{n k sz:Nat}{kd:IntKind}(hu:P.underlying t=some (.array n el))(hk:k<n)(hz:dF P el=some sz)(hx:cX x=some ax)(ho:o.op=.indexAddr t x (.const (.int kd (.ofNat k))))
  (h:sH st.t (k*sz) ax=some (v,e)):bX P β st.h nid o a w v e:=by
 have hv:=aM hs hx
 unfold sH at h;split at h
 ·rename_i id q he
  rw[he]at hv;obtain⟨b,N,h1,h2⟩:=hv
  have run:(execOp a.eval o).run P w=.ok (.value (.pointer (some ((⟨b,q,none⟩:Addr).add (k*sz))))) w:=by
   have hi:a.eval (.const (.int kd (k:Int)))=.int kd (k:Int):=rfl
   simp[execOp,ho,h2,hi,Instr.indexAt,asIntOf,run_underlying hu,Instr.sureAddr,AE.run_sizeOf hz w,hk]
  cases h;exact bX.same hs run ⟨b,N,h1,by rw[AE.add_mid];rfl⟩
 ·cases h
theorem aJ4(hs:eJ β st a w){x i:Operand}{ax ai:X}{t el:TypeId}{n sz:Nat}(hu:P.underlying t=some (.array n el))(hz:dF P el=some sz)(hx:cX x=some ax)(hi:cX i=some ai)(ho:o.op=.indexAddr t x i)
  (h:EU st.t sz n ax ai=some (v,e)):bX P β st.h nid o a w v e:=by
 have hv:=aM hs hx
 have hw:=aM hs hi
 unfold EU at h;split at h
 ·rename_i id q kd k he he2
  rw[he]at hv;rw[he2]at hw
  have hw:a.eval i=.int kd k:=hw
  obtain⟨b,N,h1,h2⟩:=hv
  have h0:=fN h
  clear h;obtain⟨hb,h⟩:=h0;rw[bC,gD,lY]at hb
  have run:(execOp a.eval o).run P w=.ok (.value (.pointer (some ((⟨b,q,none⟩:Addr).add (k.toNat*sz))))) w:=by
   simp[execOp,ho,h2,hw,Instr.indexAt,asIntOf,run_underlying hu,Instr.sureAddr,AE.run_sizeOf hz w,hb.1,hb.2]
  cases h;exact bX.same hs run ⟨b,N,h1,by rw[AE.add_mid];rfl⟩
 ·cases h
theorem WD(hs:eJ β st a w){x:Operand}{ax:X}{t el:TypeId}(hu:P.underlying t=some (.slice el))(hx:cX x=some ax)
  (ho:o.op=.call { callee:=.builtin .len,args := #[x],argTypes := #[t] }) (h:RS st.t ax=some (v,e)):bX P β st.h nid o a w v e:=by
 have hv:=aM hs hx
 have run:∀A n c,a.eval x=.slice A n c→(execOp a.eval o).run P w=.ok (.value (.int .i64 n)) w:=by
  intro A n c he;simp[execOp,ho,resolve,invoke,builtin,he,Builtin.len_,run_underlying hu,goInt]
 unfold RS at h;split at h
 ·rename_i he
  rw[he]at hv;cases h;exact bX.same hs (run none 0 0 hv) rfl
 ·rename_i id sz off n he
  rw[he]at hv;obtain⟨A,c,h1,_⟩:=hv;cases h;exact bX.same hs (run _ _ _ h1) rfl
 ·cases h
theorem ND(hs:eJ β st a w){x:Operand}{ax:X}{t:TypeId}(hu:P.underlying t=some .string)(hx:cX x=some ax)
  (ho:o.op=.call { callee:=.builtin .len,args := #[x],argTypes := #[t] }) (h:EP st.t ax=some (v,e)):bX P β st.h nid o a w v e:=by
 have hv:=aM hs hx
 unfold EP at h;split at h
 ·rename_i s he
  rw[he]at hv;obtain⟨x0,hv,rfl⟩:=hv;cases h;refine bX.same hs (u:=.int .i64 x0.size) (by simp[execOp,ho,resolve,invoke,builtin,hv,Builtin.len_,run_underlying hu,goInt]) ?_
  show cU _ _=cU _ _
  have:=oF x0
  unfold qZ at this;rw[iH,this]
 ·cases h
theorem WB(hs:eJ β st a w){x y:Operand}{ax ay:X}{ts:Array TypeId}(hx:cX x=some ax)(hy:cX y=some ay)
  (ho:o.op=.call { callee:=.builtin .min,args := #[x,y],argTypes:=ts }) (h:RQ st.t ax ay=some (v,e)):bX P β st.h nid o a w v e:=by
 have hv:=aM hs hx
 have hv':=aM hs hy
 unfold RQ at h;split at h
 ·rename_i k m k' n he he'
  rw[he]at hv;rw[he']at hv'
  have hv:a.eval x=.int k m:=hv
  have hv':a.eval y=.int k' n:=hv'
  cases h;refine bX.same hs (u:=.int k (if n<m then n else m)) (by simp[execOp,ho,resolve,invoke,builtin,hv,hv',Builtin.min_,Builtin.min2]) ?_
  show cU _ _=cU _ _
  congr 1;cases hb:PP n m with
  |true=>rw[if_pos (lY.1 hb)]
  |false=>rw[if_neg fun q=>by rw[lY.2 q]at hb;cases hb]
 ·cases h
theorem WC(hs:eJ β st a w){x y:Operand}{ax ay:X}{ts:Array TypeId}(hx:cX x=some ax)(hy:cX y=some ay)
  (ho:o.op=.call { callee:=.builtin .max,args := #[x,y],argTypes:=ts }) (h:RR st.t ax ay=some (v,e)):bX P β st.h nid o a w v e:=by
 have hv:=aM hs hx
 have hv':=aM hs hy
 unfold RR at h;split at h
 ·rename_i k m k' n he he'
  rw[he]at hv;rw[he']at hv'
  have hv:a.eval x=.int k m:=hv
  have hv':a.eval y=.int k' n:=hv'
  cases h;refine bX.same hs (u:=.int k (if m<n then n else m)) (by simp[execOp,ho,resolve,invoke,builtin,hv,hv',Builtin.max_,Builtin.max2]) ?_
  show cU _ _=cU _ _
  congr 1;cases hb:PP m n with
  |true=>rw[if_pos (lY.1 hb)]
  |false=>rw[if_neg fun q=>by rw[lY.2 q]at hb;cases hb]
 ·cases h
theorem NE(hs:eJ β st a w){x i:Operand}{ax ai:X}{t:TypeId}(hu:P.underlying t=some .string)(hx:cX x=some ax)(hi:cX i=some ai)(ho:o.op=.index t x i)
  (h:ER st.t ax ai=some (v,e)):bX P β st.h nid o a w v e:=by
 have hv:=aM hs hx
 have hv':=aM hs hi
 unfold ER at h;split at h
 ·rename_i s k n he he2
  rw[he]at hv;rw[he2]at hv'
  have hv':a.eval i=.int k n:=hv'
  obtain⟨x0,hv,rfl⟩:=hv
  have h0:=fN h
  clear h;obtain⟨hb,h⟩:=h0;rw[bC,gD,lY,iH]at hb;obtain⟨h1,h2⟩:=hb
  have hl:=oF x0
  unfold qZ at hl;rw[hl]at h2
  have hlt:n.toNat<x0.size:=by omega
  cases h
  have e1:x0[n.toNat]?=some x0[n.toNat]:=by simp[hlt]
  refine bX.same hs (u:=.int .u8 (x0[n.toNat].toNat:Int)) ?_ ?_
  ·simp[execOp,ho,hv,hv',Instr.index,asIntOf,run_underlying hu,h1,e1]
  ·show cU _ _=cU _ _
   congr 2
   have hl2:n.toNat<x0.data.toList.length:=by simpa using hlt
   rw[eG,List.getD_eq_getElem?_getD,cC,aH hl2];rfl
 ·cases h
theorem NG(hs:eJ β st a w){x i:Operand}{ax ai:X}{t el:TypeId}{sz:Nat}(hu:P.underlying t=some (.slice el))(hz:dF P el=some sz)(hx:cX x=some ax)(hi:cX i=some ai)(ho:o.op=.indexAddr t x i)
  (h:ES st.t sz ax ai=some (v,e)):bX P β st.h nid o a w v e:=by
 have hv:=aM hs hx
 have hv':=aM hs hi
 unfold ES at h;split at h
 ·rename_i id sz' off len k n he he2
  rw[he]at hv;rw[he2]at hv'
  have hv':a.eval i=.int k n:=hv'
  have h0:=fN h
  clear h;obtain⟨hb,h⟩:=h0;rw[bC,bC,gD,lY]at hb;obtain⟨hq,h1,h2⟩:=hb;obtain rfl:=aF hq;obtain⟨A,c,g1,g2,g3,g4⟩:=hv
  rcases g4 with⟨_,g5,_⟩|⟨b,N,g5,rfl,g7⟩
  ·omega
  ·have run:(execOp a.eval o).run P w=.ok (.value (.pointer (some ((⟨b,off*sz,none⟩:Addr).add (n.toNat*sz))))) w:=by
     simp[execOp,ho,g1,hv',Instr.indexAt,asIntOf,run_underlying hu,h1,h2,AE.run_sizeOf hz w]
   cases h;refine bX.same hs run ⟨b,N,g5,?_⟩;rw[AE.add_mid,←cH];rfl
 ·cases h
theorem NH(hs:eJ β st a w){x:Operand}{ax:X}{i:Nat}(hx:cX x=some ax)(ho:o.op=.extract x i)(h:EV st.t ax i=some (v,e)):bX P β st.h nid o a w v e:=by
 have hv:=aM hs hx
 unfold EV at h;split at h
 ·rename_i vs he
  rw[he]at hv;obtain⟨us,hu,hall⟩:=hv
  have h0:=fN h
  clear h;obtain⟨hb,h⟩:=h0
  have hi:i<vs.length:=by rw[iH]at hb;exact aK hb
  obtain⟨y,hy,hr⟩:=hall.get i vs[i] (aH hi);cases h;rw[xM (aH hi)];refine bX.same hs (u:=y) ?_ (WR.up hr)
  have hy:us[i]?=some y:=by simpa using hy
  simp[execOp,ho,hu,Instr.extract,hy]
 ·cases h
end
open Go.AE (All2 jJ dF jA rF iZ jL jF vJ mF lH)
section
variable {P:Program} {β:Bt} {w:World} {st:St} {a:Act} {o:Oper} {nid:Nat} {v:V} {e:pX}
theorem yM{q:C→Value→Prop}:∀(n:Nat) {cs:List C} {us:List Value},n≤cs.length→us.length=n→(∀(j:Nat) c u,cs[j]?=some c→us[j]?=some u→q c u)→All2 q (cs.take n) us
 |0,cs,[],_,_,_=>by simp[All2]
 |0,cs,_::_,_,h,_=>by simp at h
 |n+1,[],_,h,_,_=>by simp at h
 |n+1,c::cs,[],_,h,_=>by simp at h
 |n+1,c::cs,u::us,h,hl,hq=>⟨hq 0 c u rfl rfl,yM n (by simpa using h) (by simpa using hl) fun j c' u' h1 h2=>hq (j+1) c' u' (by simpa using h1) (by simpa using h2)⟩
theorem kL{n:Option Nat}{vs:List C}{k:Nat}{us:List Value}(hk:k+jJ n≤vs.length)(hl:us.length=jJ n)(hq:∀(j:Nat) c u,vs[k+j]?=some c→us[j]?=some u→CR β c u):VR β (FT vs k n) (AE.ldV us n):=by
 cases n with
 |none=>
  match us,hl with
  |[u],_=>
   have hk:k<vs.length:=hk
   show CR β (aZ .top vs k) u
   rw[xM (aH hk)];exact hq 0 _ u (aH hk) rfl
 |some m=>
  refine⟨_,rfl,?_⟩
  show All2 (CR β) (tk m (dp k vs)) us
  rw[zY,GZ]
  have hk:k+m≤vs.length:=hk
  refine yM m (by simp;omega) hl fun j c u h1 h2=>hq j c u ?_ h2
  rw[←h1,iD]
theorem NC(hs:eJ β st a w){x:Operand}{ax:X}{t:TypeId}{n:Option Nat}(hn:iZ P t=some n)(hx:cX x=some ax)(ho:o.op=.load t x)(h:EO st.t st.h n ax=some (v,e)):bX P β st.h nid o a w v e:=by
 have hv:=aM hs hx
 unfold EO at h;split at h
 ·rename_i id off he
  rw[he]at hv;obtain⟨b,N,g1,g2⟩:=hv
  have fin:∀(ty:TypeId) (vs:List C) (cs:Array Value) (fz:Nat×Nat),w.heap[b]?=some (.cells cs ty fz)→vs.length≤cs.size→(∀(k:Nat) c,vs[k]?=some c→∃u,cs[k]?=some u∧CR β c u)→bP (gM off (jJ n)) (len vs)=true→bX P β st.h nid o a w (FT vs off n) .no:=by
   intro ty vs cs fz g3 g5 g6 c1
   have hlen:off+jJ n≤vs.length:=by rw[iH]at c1;exact aK c1
   have hl:(cs.extract off (off+jJ n)).toList.length=jJ n:=by simp;omega
   have hr:w.rangeAt b off (cs.extract off (off+jJ n)).toList:=by
    intro j u hu;rw[aW,cP]at hu;split at hu
    ·rw[cell_of_row w b (off+j) cs ty fz g3];exact hu
    ·cases hu
   refine bX.same hs (u:=AE.ldV (cs.extract off (off+jJ n)).toList n) ?_ (kL hlen hl ?_)
   ·simp[execOp,ho,g2,AE.run_load_gen hn hl hr,-Array.toList_extract]
   ·intro j c u hc hu
    have hj:j<jJ n:=by have:=(aN.1 hu).1;omega
    obtain⟨u',h5,h6⟩:=g6 (off+j) c hc;rw[aW,cP,if_pos (by omega),h5]at hu;injection hu with hu;subst hu;exact h6
  split at h
  ·rename_i x0 ty vs hid
   have h0:=fN h
   clear h;obtain⟨c1,h⟩:=h0;cases h
   have hob:=hs.hs.obj id b N g1
   rw[hid]at hob;obtain⟨cs,g3,g4,g5,g6⟩:=hob;exact fin ty vs cs _ g3 (by rw[g4];exact g5.1) g6 c1
  ·rename_i ty vs hid
   have h0:=fN h
   clear h;obtain⟨c1,h⟩:=h0;cases h
   have hob:=hs.hs.obj id b N g1
   rw[hid]at hob;obtain⟨cs,fz,g3,g4,g5,g6⟩:=hob;exact fin ty vs cs fz g3 (by rw[g4];exact g5) g6 c1
  ·rename_i ob vs hid
   have h0:=fN h
   clear h;obtain⟨c1,h⟩:=h0;cases h
   have hob:=hs.hs.obj id b N g1
   rw[hid]at hob;obtain⟨cs,ty,fz,g3,g30,g4,g5,g6⟩:=hob;exact fin ty vs cs fz (g3.trans (congrArg some g30)) (by rw[g4];exact g5) g6 c1
  ·cases h
 ·cases h
theorem mN{x:C}{u:Value}(h:CR β x u)(h1:jH x=true):u.oneCell'=true:=by
 cases x with
 |f x=>
  cases x with
  |z v=>have h:u=v:=h;subst h;exact h1
  |s l=>obtain⟨x,rfl,_⟩:=h;rfl
  |ptr=>obtain⟨b,o,_,rfl⟩:=h;rfl
  |sl=>obtain⟨A,c,rfl,_⟩:=h;rfl
  |mp=>obtain⟨b,N,_,rfl⟩:=h;rfl
  |yld=>obtain⟨b,N,_,rfl⟩:=h;rfl
  |b=>have h:u=_:=h;subst h;rfl
  |i=>have h:u=_:=h;subst h;rfl
 |fn=>obtain⟨us,vs,rfl,_⟩:=h;rfl
 |ifc=>obtain⟨v,rfl,_⟩:=h;rfl
 |top=>cases h1
theorem kU:∀ {cs:List C} {us:List Value},All2 (CR β) cs us→(∀c∈cs,jH c=true)→∀v∈us,v.oneCell'=true
 |[],[],_,_,v,hv=>by cases hv
 |[],_::_,h,_,_,_=>h.elim
 |_::_,[],h,_,_,_=>h.elim
 |c::cs,u::us,h,h1,v,hv=>by
  cases hv with
  |head=>exact mN h.1 (h1 c (by simp))
  |tail _ hv=>exact kU h.2 (fun d hd=>h1 d (List.mem_cons_of_mem _ hd)) v hv
theorem jO{x:V}{u:Value}{cs:List C}(h:VR β x u)(hc:x.cells?=some cs)(h1:jE cs=true):All2 (CR β) cs u.cells.toList∧∀v∈u.cells.toList,v.oneCell'=true:=by
 have h1:=gI h1
 cases x with
 |c x=>
  simp only[V.cells?,aB]at hc;subst hc
  have:=mN h (h1 x (by simp))
  rw[AE.cells_one this];exact⟨⟨h,trivial⟩,fun v hv=>by simp at hv;subst hv;exact this⟩
 |a ds=>
  simp only[V.cells?,aB]at hc;subst hc;obtain⟨us,rfl,h2⟩:=h;exact⟨h2,kU h2 h1⟩
 |t vs=>cases hc
theorem aA1{i:Nat}{o:O}(h:i≠nid∨(pX.nw o).isNw=false):i≠nid:=h.resolve_right (by simp[pX.isNw])
theorem bX.new(hs:eJ β st a w)(hid:β nid=none){x:Bool}{u:Value}{us:Array Value}{cs:List C}{ty:TypeId}{f:F}(hr:(execOp a.eval o).run P w=.ok (.value u) (w.alloc (.cells us ty)))
  (hl:cs.length≤us.size) (hx:x=true→cs.length=us.size) (hc:∀(k:Nat) c,cs[k]?=some c→∃u,us[k]?=some u∧CR β c u) (hf:∀β':Bt,β' nid=some (w.heap.size,us.size)→FR β' f u):bX P β st.h nid o a w (.c (.f f)) (.nw (.blk x ty cs)):=by
 obtain⟨h1,h2⟩:=kP hs.hs hid (x:=.blk x ty cs) (o:=.cells us ty) (N:=us.size) (fun w' hb=>⟨us,hb,rfl,⟨hl,hx⟩,fun k c hk=>by
  obtain⟨u,q1,q2⟩:=hc k c hk
  exact⟨u,q1,CR.keep (sX hid) q2⟩⟩)
 refine⟨u,_,_,.inl hr,hf _ (fA _ _ _),?_,h2,fun i hi=>cO _ (aA1 hi)⟩;rw[yZ];exact h1
theorem All2.at_{α γ:Type}{q:α→γ→Prop}{xs:List α}{ys:Array γ}(h:All2 q xs ys.toList):∀(k:Nat) c,xs[k]?=some c→∃u,ys[k]?=some u∧q c u:=fun k c hc=>by
 obtain⟨u,h1,h2⟩:=h.get k c hc;exact⟨u,by simpa using h1,h2⟩
theorem kD{t:TypeId}{z:List C}(h:iQ P t=some z):∃v,(∀w,(zeroValue t).run P w=.ok v w)∧z=v.cells.toList.map (fun v=>.f (toF v))∧((P.info? t).bind (·.zero))=some v:=by
 unfold iQ at h;cases hq:P.info? t with
 |none=>simp[hq]at h
 |some i=>
  cases hz:i.zero with
  |none=>simp[hq,hz]at h
  |some v=>simp[hq,hz]at h;exact⟨v,fun w=>by simp[zeroValue,typeInfo,hq,hz],by simp[←h],by simp[hz]⟩
theorem DV(hs:eJ β st a w)(hid:β nid=none){t:TypeId}{z:List C}(hz:iQ P t=some z)(ho:o.op=.alloc t):bX P β st.h nid o a w (.c (.f (.ptr nid 0))) (.nw (.blk true t z)):=by
 obtain⟨v,hv,rfl,_⟩:=kD hz
 refine bX.new hs hid (u:=.pointer (some ⟨w.heap.size,0,none⟩)) (us:=v.cells) ?_ (by simp) (fun _=>by simp) (All2.at_ (nQ _)) fun β' hb=>⟨_,_,hb,rfl⟩
 simp[execOp,ho,Instr.alloc,hv,newVar,newRow]
theorem WI(hs:eJ β st a w)(hid:β nid=none){t:TypeId}{x:Operand}{ax:X}(hx:cX x=some ax)(ho:o.op=.box t x)(h:KH st.t nid t ax=some (v,e)):bX P β st.h nid o a w v e:=by
 have hv:=aM hs hx
 unfold KH at h;split at h
 ·rename_i cs hc
  have h0:=fN h
  clear h;obtain⟨h1,h⟩:=h0;cases h
  have hcs:=(jO hv hc h1).1
  refine bX.new hs hid (u:=.pointer (some ⟨w.heap.size,0,none⟩)) (us:=(a.eval x).cells) ?_ (by have:=hcs.length;simp at this;omega) (fun _=>by have:=hcs.length;simp at this;omega) (All2.at_ hcs) fun β' hb=>⟨_,_,hb,rfl⟩
  simp[execOp,ho,Instr.box,newVar,newRow]
 ·cases h
theorem WE(hs:eJ β st a w){x:Operand}{ax:X}{t:TypeId}{k:Nat}{fs:Array Field}{f:Field}{n:Option Nat}(hf:P.underlying t=some (.struct fs))(hk:fs[k]?=some f)(hn:iZ P f.type=some n)(hx:cX x=some ax)(ho:o.op=.field t x k)
  (h:RU st.t f.offset n ax=some (v,e)):bX P β st.h nid o a w v e:=by
 have hv:=aM hs hx
 unfold RU at h;split at h
 ·rename_i cs he
  rw[he]at hv;obtain⟨us,hu,ha⟩:=hv
  have h0:=fN h
  clear h;obtain⟨c1,h⟩:=h0;cases h;rw[iH]at c1
  have c1:f.offset+jJ n≤cs.length:=aK c1
  have hlen:=ha.length
  have hsz:us.toList.length=us.size:=by simp
  have hl:(us.extract f.offset (f.offset+jJ n)).toList.length=jJ n:=by simp;omega
  refine bX.same hs (u:=AE.ldV (us.extract f.offset (f.offset+jJ n)).toList n) ?_ (kL c1 hl ?_)
  ·cases n with
   |none=>
    have hlt:f.offset<us.size:=by simp only[jJ]at c1;omega
    simp[execOp,ho,hu,Instr.field,run_underlying hf,hk,asAgg,part,AE.run_isAgg (AE.cellsO_none hn),hlt,AE.ldV,jJ]
   |some m=>
    obtain⟨h1,h2⟩:=AE.cellsO_some hn;simp[execOp,ho,hu,Instr.field,run_underlying hf,hk,asAgg,part,AE.run_isAgg h1,AE.run_sizeOf h2,AE.ldV,jJ,-Array.toList_extract]
  ·intro j c u hc hj
   have hjl:j<jJ n:=by have:=(aN.1 hj).1;omega
   obtain⟨u',q1,q2⟩:=ha.get (f.offset+j) c hc;rw[aW,cP,if_pos (by omega)]at hj;rw[aW,hj]at q1;injection q1 with q1;subst q1;exact q2
 ·cases h
theorem JN{vs cs:List C}{o k:Nat}(hl:o+cs.length≤vs.length):(kN vs o cs)[k]?=if o≤k∧k<o+cs.length then cs[k-o]? else vs[k]?:=by
 unfold kN;rw[kW,kW,zY,GZ,iH]
 have e1:(List.take o vs).length=o:=by simp;omega
 show (List.take o vs++(cs++List.drop (o+cs.length) vs))[k]?=_
 by_cases h1:k<o
 ·rw[bW (by omega),List.getElem?_take_of_lt h1,if_neg (by omega)]
 ·rw[cJ (by omega),e1]
  by_cases h2:k<o+cs.length
  ·rw[if_pos ⟨by omega,h2⟩,bW (by omega)]
  ·rw[if_neg (by omega),cJ (by omega),iD]
   congr 1;omega
theorem uO{vs cs:List C}{o:Nat}(hl:o+cs.length≤vs.length):(kN vs o cs).length=vs.length:=by
 unfold kN;rw[kW,kW,zY,GZ,iH]
 show (List.take o vs++(cs++List.drop (o+cs.length) vs)).length=_
 simp;omega
theorem zU(hh:HS β w st.h){id b N off:Nat}{x:Bool}{ty:TypeId}{vs cs:List C}{us:List Value}(hid:β id=some (b,N))(hv:st.h id=.blk x ty vs)(hl:off+cs.length≤vs.length)(hc:All2 (CR β) cs us) :
  HS β (w.setCells b off us) (fu st.h id (.blk x ty (kN vs off cs)))∧Gr β w β (w.setCells b off us)∧w.there b off us.length:=by
 have hob:=hh.obj id b N hid
 rw[hv]at hob;obtain⟨xs,g3,g4,g5,g6⟩:=hob;obtain⟨p1,p2,p3,p4⟩:=AE.setCells_parts us w b off
 have hnew:=AE.heap_setCells us w b off xs ty g3
 have hlen:=hc.length
 have key:OR β (w.setCells b off us) (.blk x ty (kN vs off cs)) b N:=by
  refine⟨_,hnew,by rw[AE.setA_size];exact g4,⟨by rw[uO hl];exact g5.1,fun hx=>by rw[uO hl];exact g5.2 hx⟩,fun k c hk=>?_⟩;rw[JN hl]at hk
  have hget:=fun hj=>AE.setA_get us xs off k hj
  split at hk
  ·rename_i hin
   obtain⟨u,q1,q2⟩:=hc.get (k-off) c hk;refine⟨u,?_,q2⟩;rw[hget (by omega),if_pos (by omega)];exact q1
  ·rename_i hin
   obtain⟨u,q1,q2⟩:=g6 k c hk;refine⟨u,?_,q2⟩;rw[hget (by have:=(aO.1 q1).1;exact this),if_neg (by omega)];exact q1
 obtain⟨r1,r2⟩:=nF hh hid (by rw[hv];rfl) p1 p2 p3 p4 (fun j hj=>AE.setCells_other us w b off j hj) key;exact⟨r1,r2,AE.there_of_block g3 (by omega)⟩
theorem DQ(hs:eJ β st a w){x y:Operand}{ax ay:X}{t:TypeId}{n:Nat}(hn:dF P t=some n)(hx:cX x=some ax)(hy:cX y=some ay)(ho:o.op=.store t x y)
  (h:xJ st.t st.h n ax ay=some (v,e)):bX P β st.h nid o a w v e:=by
 have hv:=aM hs hx
 have hw:=aM hs hy
 unfold xJ at h;split at h
 ·rename_i cs hcs
  split at h
  ·rename_i id off he
   rw[he]at hv;obtain⟨b,N,g1,g2⟩:=hv;split at h
   ·rename_i x0 ty vs hid
    have h0:=fN h
    clear h;obtain⟨c1,h⟩:=h0;cases h;rw[bC,bC,iH,iH]at c1;obtain⟨c1,c2,c3⟩:=c1
    have c1:=aF c1
    have c2:=aK c2
    obtain⟨d1,d2⟩:=jO hw hcs c3
    have hsz:(a.eval y).cells.size=n:=by have:=d1.length;simp at this;omega
    have c2:off+n≤vs.length:=c2
    obtain⟨r1,r2,r3⟩:=zU hs.hs g1 hid (off:=off) (by omega) d1
    have hrun:=AE.run_store_gen (P:=P) (w:=w) hn hsz (b:=b) (q:=off) (by simpa using r3) d2
    refine⟨undef,_,β,.inr ⟨?_,rfl⟩,⟨#[],rfl,trivial⟩,?_,r2,fun _ _=>rfl⟩
    ·simp[execOp,ho,g2,hrun]
    ·rw[yY];exact r1
   ·cases h
  ·cases h
 ·cases h
theorem lS(hs:eJ β st a w)(pl:Nat→Option (Nat×Nat)):∀(ps:List (Nat×Operand)) (l:List (Nat×Nat×X)) (vs vs':List C) (cells:Array Value),kJ pl ps=some l→kT st.t l vs=some vs'→All2 (CR β) vs cells.toList →
  ∃cells',Instr.fill pl cells (ps.map fun(x:Nat×Operand)=>(x.1,a.eval x.2))=some cells'∧All2 (CR β) vs' cells'.toList
 |[],l,vs,vs',cells,hl,hf,hc=>by
  simp only[kJ,aB]at hl;subst hl
  have hf:some vs=some vs':=hf
  cases hf;exact⟨cells,rfl,hc⟩
 |(i,x)::ps,l,vs,vs',cells,hl,hf,hc=>by
  simp only[kJ]at hl;cases hp:pl i with
  |none=>simp[hp]at hl
  |some p=>
   obtain⟨off,s⟩:=p;cases hx:cX x with
   |none=>simp[hp,hx]at hl
   |some ax=>
    cases hr:kJ pl ps with
    |none=>simp[hp,hx,hr]at hl
    |some l'=>
     simp only[hp,hx,hr,aG,aE,gN,aB]at hl;subst hl
     have hf:(match (ev st.t ax).cells? with
      |some cs=>match dU (aT (len cs) s) (dU (bP (gM off s) (len vs)) (jE cs)) with
       |true=>kT st.t l' (kN vs off cs)
       |false=>none
      |none=>none)=some vs':=hf
     cases hcs:(ev st.t ax).cells? with
     |none=>simp[hcs]at hf
     |some cs=>
      simp only[hcs]at hf;split at hf
      ·rename_i hb
       rw[bC,bC,iH,iH]at hb;obtain⟨h1,h2,h3⟩:=hb
       have h1:=aF h1
       have h2:off+s≤vs.length:=aK h2
       obtain⟨c1,_⟩:=jO (aM hs hx) hcs h3
       have hsz:(a.eval x).cells.size=s:=by have:=c1.length;simp at this;omega
       have hcl:vs.length=cells.size:=by simpa using hc.length
       have hset:All2 (CR β) (kN vs off cs) (AE.setA cells off (a.eval x).cells.toList).toList:=by
        refine AE.All2.of_get ?_ ?_
        ·rw[uO (by omega)];simp[AE.setA_size];omega
        ·intro k c u hk hu
         rw[JN (by omega)]at hk
         have hkl:k<cells.size:=by
          have:=(aN.1 hu).1;simpa[AE.setA_size] using this
         rw[aW,AE.setA_get _ _ _ _ hkl]at hu
         have hl2:=c1.length
         split at hk
         ·rename_i hin
          rw[if_pos (by omega)]at hu;obtain⟨u',q1,q2⟩:=c1.get _ _ hk;rw[hu]at q1;injection q1 with q1;subst q1;exact q2
         ·rename_i hin
          rw[if_neg (by omega)]at hu;obtain⟨u',q1,q2⟩:=hc.get _ _ hk;rw[aW,hu]at q1;injection q1 with q1;subst q1;exact q2
       obtain⟨cells',h4,h5⟩:=lS hs pl ps l' _ vs' _ hr hf hset;refine⟨cells',?_,h5⟩;simp only[List.map_cons,Instr.fill,hp];rw[if_neg (by simp;omega),AE.fill_step];exact h4
      ·cases hf
theorem KZ{t:Nat→V}:∀(l:List (Nat×Nat×X)) (vs vs':List C),kT t l vs=some vs'→vs'.length=vs.length
 |[],vs,vs',h=>by have h:some vs=some vs':=h;cases h;rfl
 |(o,s,x)::r,vs,vs',h=>by
  have h:(match (ev t x).cells? with
      |some cs=>match dU (aT (len cs) s) (dU (bP (gM o s) (len vs)) (jE cs)) with
       |true=>kT t r (kN vs o cs)
       |false=>none
      |none=>none)=some vs':=h
  split at h
  ·rename_i cs hcs
   split at h
   ·rename_i hb
    rw[bC,bC,iH,iH]at hb;obtain⟨h1,h2,h3⟩:=hb
    have h1:=aF h1
    have h2:o+s≤vs.length:=aK h2
    rw[KZ r _ _ h,uO (by omega)]
   ·cases h
  ·cases h
theorem tT(hs:eJ β st a w){t:TypeId}{ps:Array (Nat×Operand)}{z:List C}{l:List (Nat×Nat×X)}{pl:Nat→Option (Nat×Nat)}(hz:iQ P t=some z)(hl:kJ pl ps.toList=some l)
  (ht:(∃fs places,P.underlying t=some (.struct fs)∧fs.toList.mapM (fun f=>(P.info? f.type).map fun i=>(f.offset,i.size))=some places∧pl=fun i=>places[i]?)∨(∃n e s,P.underlying t=some (.array n e)∧dF P e=some s∧pl=fun i=>some (i*s,s)))
  (ho:o.op=.build t ps) (h:xL st.t z l=some (v,e)):bX P β st.h nid o a w v e:=by
 obtain⟨v0,hv,rfl,_⟩:=kD hz;unfold xL at h;split at h
 ·rename_i cs hcs
  cases h;obtain⟨cells',h1,h2⟩:=lS hs pl ps.toList l _ cs v0.cells hl hcs (nQ _);refine bX.same hs (u:=.agg cells') ?_ ⟨cells',rfl,h2⟩
  rcases ht with⟨fs,places,hu,hp,rfl⟩|⟨n,e,s,hu,hp,rfl⟩
  ·simp[execOp,ho,Instr.build,run_underlying hu,hv,Array.mapM_eq_mapM_toList,run_places w _ _ hp,h1]
  ·simp[execOp,ho,Instr.build,run_underlying hu,hv,AE.run_sizeOf hp,h1]
 ·cases h
theorem JQ{z:List C}{n:Nat}:vE z (n+1)=ap z (vE z n):=rfl
theorem pH{q:C→Value→Prop}{cs:List C}{us:List Value}(h:All2 q cs us):∀n:Nat,All2 q (vE cs n) (AE.replV us n)
 |0=>trivial
 |n+1=>by rw[JQ,kW];exact h.append (pH h n)
theorem tK(cs:List C):∀n:Nat,(vE cs n).length=n*cs.length
 |0=>by rw[Nat.zero_mul];rfl
 |n+1=>by rw[JQ,kW];simp[tK cs n,cH];omega
theorem WH(hs:eJ β st a w)(hid:β nid=none){t el:TypeId}{sz n:Nat}{ps:Array (Nat×Operand)}{z:List C}{l:List (Nat×Nat×X)}(hu:P.underlying t=some (.slice el))(hsz:dF P el=some sz)(hz:iQ P el=some z)(hl:kJ (fun i=>some (i*sz,sz)) ps.toList=some l)
  (ho:o.op=.buildSlice t n ps) (h:KG st.t nid el sz n z l=some (v,e)):bX P β st.h nid o a w v e:=by
 obtain⟨v0,hv,rfl,_⟩:=kD hz;unfold KG at h;split at h
 ·rename_i cs hcs
  have h0:=fN h
  clear h;obtain⟨c1,h⟩:=h0;cases h;rw[bC,bC,iH,eA]at c1;obtain⟨c1,c3,c2⟩:=c1
  have c1:v0.cells.size=sz:=by simpa using aF c1
  have c3:0<sz:=aK c3
  have c2:n*sz≤16777216:=aK c2
  subst c1
  have hstart:((Array.range (n*v0.cells.size)).map (fun i=>v0.cells[i%v0.cells.size]!)).toList=AE.replV v0.cells.toList n:=by
   rw[Array.toList_map,Array.toList_range,AE.range_cells v0.cells c3 n]
  obtain⟨cells',h1,h2⟩:=lS hs _ ps.toList l _ cs ((Array.range (n*v0.cells.size)).map (fun i=>v0.cells[i%v0.cells.size]!)) hl hcs (by rw[hstart];exact pH (nQ _) n)
  have hlen:cs.length=n*v0.cells.size:=by
   rw[KZ _ _ _ hcs,tK];simp
  have hcl:cells'.size=n*v0.cells.size:=by have:=h2.length;simp at this;omega
  refine bX.new hs hid (u:=.slice (some ⟨w.heap.size,0,none⟩) n n) (us:=cells') ?_ (by omega) (fun _=>by omega) (All2.at_ h2) fun β' hb=>?_
  ·have hne:¬(n*v0.cells.size>2^24):=by omega
   have e1:n*v0.cells.size=0→(Array.range (n*v0.cells.size)).map (fun _=>(default:Value))=(Array.range (n*v0.cells.size)).map (fun i=>v0.cells[i%v0.cells.size]!):=fun h0=>by simp[h0]
   simp only[execOp,ho,Instr.buildSlice];simp[run_underlying hu,AE.run_sizeOf hsz,if_neg hne]
   by_cases h0:n*v0.cells.size=0
   ·rw[if_pos h0,e1 h0,h1]
    simp[newRow]
   ·rw[if_neg h0,hv]
    simp[h1,newRow]
  ·refine⟨_,n,rfl,Nat.le_refl _,fun _=>by unfold maxLen;have:n*1≤n*v0.cells.size:=Nat.mul_le_mul_left _ c3;omega,.inr ⟨w.heap.size,_,hb,by simp,by rw[hcl];simp,fun _=>by rw[hcl];simp⟩⟩
 ·cases h
end
open Go.AE (All2 jJ dF jA rF iZ jL jF vJ mF lH)
section
variable {P:Program} {β:Bt} {w:World} {st:St} {a:Act} {o:Oper} {nid:Nat} {v:V} {e:pX}
def aB5(β:Bt)(w:World)(sz m:Nat)(cs:List C)(v:Value):Prop:=
 ∃(A:Option Addr) (c:Nat) (news:List Value),v=.slice A m c∧news.length=m*sz∧(A=none→m=0)∧(∀ad,A=some ad→∀j u,news[j]?=some u→w.cell? (ad.add j)=some u)∧All2 (CR β) cs news
theorem yO(hs:eJ β st a w){x:Operand}{ax:X}(hx:cX x=some ax){sz m:Nat}{cs:List C}(h:QF st.h sz (ev st.t ax)=some (m,cs)):aB5 β w sz m cs (a.eval x):=by
 have hv:=aM hs hx
 unfold QF at h;split at h
 ·rename_i he
  rw[he]at hv;cases h;exact⟨none,0,[],hv,by simp,fun _=>rfl,fun ad h=>by(cases h),trivial⟩
 ·rename_i id sz' off n he
  rw[he]at hv
  have fin:∀(ty:TypeId) (vs:List C),(∀b N,β id=some (b,N)→∃(cs:Array Value) (fz:Nat×Nat),w.heap[b]?=some (.cells cs ty fz)∧vs.length≤cs.size∧∀(k:Nat) c,vs[k]?=some c→∃u,cs[k]?=some u∧CR β c u)→sz=sz'→(off+n)*sz≤vs.length→aB5 β w sz n (tk (iK n sz) (dp (iK off sz) vs)) (a.eval x):=by
   intro ty vs hob hsz h1;subst hsz;obtain⟨A,c,g1,g2,g3,g4⟩:=hv
   rcases g4 with⟨_,rfl,rfl⟩|⟨b,N,g5,rfl,g7⟩
   ·refine⟨A,0,[],g1,by simp,fun _=>rfl,fun ad h j u hu=>by simp at hu,?_⟩
    have:iK 0 sz=0:=Nat.zero_mul _
    rw[this];exact trivial
   ·obtain⟨cs,fz,q1,q3,q4⟩:=hob b N g5
    rw[cH]at h1;refine⟨_,c,(cs.extract (off*sz) (off*sz+n*sz)).toList,g1,by simp;omega,(fun h=>by cases h),?_,?_⟩
    ·intro ad had j u hu
     injection had with had;subst had;rw[AE.add_mid,cell_of_row w b _ cs ty fz q1];rw[aW,cP]at hu;split at hu
     ·exact hu
     ·cases hu
    ·rw[zY,GZ]
     have e1:iK n sz=n*sz:=rfl
     have e2:iK off sz=off*sz:=rfl
     rw[e1,e2]
     refine yM (n*sz) (by simp;omega) (by simp;omega) fun j c' u hc hu=>?_
     rw[iD]at hc;obtain⟨u',q5,q6⟩:=q4 _ _ hc;rw[aW,cP]at hu;split at hu
     ·rw[q5]at hu;injection hu with hu;subst hu;exact q6
     ·cases hu
  split at h
  ·rename_i x0 ty vs hid
   split at h
   ·rename_i hb
    cases h;rw[bC,iH]at hb;refine fin ty vs (fun b N g5=>?_) (aF hb.1) (aK hb.2)
    have hob:=hs.hs.obj id b N g5
    rw[hid]at hob;obtain⟨cs,q1,q2,q3,q4⟩:=hob;exact⟨cs,_,q1,by rw[q2];exact q3.1,q4⟩
   ·cases h
  ·rename_i ty vs hid
   split at h
   ·rename_i hb
    cases h;rw[bC,iH]at hb;refine fin ty vs (fun b N g5=>?_) (aF hb.1) (aK hb.2)
    have hob:=hs.hs.obj id b N g5
    rw[hid]at hob;obtain⟨cs,fz,q1,q2,q3,q4⟩:=hob;exact⟨cs,fz,q1,by rw[q2];exact q3,q4⟩
   ·cases h
  ·cases h
 ·cases h
def UO(β:Bt)(w:World)(h:Nat→O)(ty:TypeId)(sz n:Nat)(vs:List C)(old:Option Nat)(v:Value):Prop:=
 (v=.slice none 0 0∧n=0∧vs=[])∨∃id b N c cs,old=some id∧β id=some (b,N)∧(h id).live=true∧v=.slice (some ⟨b,0,none⟩) n c∧n≤c∧c≤maxLen∧w.heap[b]?=some (.cells cs ty (0,0))∧cs.size=c*sz∧vs.length=n*sz ∧
  ∀(k:Nat) x,vs[k]?=some x→∃u,cs[k]?=some u∧CR β x u
theorem LN(hs:eJ β st a w){x:Operand}{ax:X}(hx:cX x=some ax){ty sz n:Nat}{vs:List C}{old:Option Nat}(h:YJ st.h ty sz (ev st.t ax)=some (n,vs,old)):UO β w st.h ty sz n vs old (a.eval x):=by
 have hv:=aM hs hx
 unfold YJ at h;split at h
 ·rename_i he
  rw[he]at hv;cases h;exact .inl ⟨hv,rfl,rfl⟩
 ·rename_i id sz' off len he
  rw[he]at hv;split at h
  ·rename_i x0 ty' vs' hid
   split at h
   ·rename_i hb
    cases h;rw[bC,bC,bC,iH]at hb;obtain⟨b1,b2,b3,b4⟩:=hb;obtain rfl:=aF b1;obtain rfl:=aF b2;obtain rfl:=aF b3
    have b4:n*sz=vs.length:=aF b4
    obtain⟨A,c,g1,g2,g3,g4⟩:=hv
    rcases g4 with⟨hA,rfl,rfl⟩|⟨b,N,g5,rfl,g7⟩
    ·obtain rfl:A=none:=hA.resolve_right (by omega)
     refine .inl ⟨g1,rfl,?_⟩;rw[Nat.zero_mul]at b4;exact eS b4.symm
    ·have hob:=hs.hs.obj id b N g5
     rw[hid]at hob;obtain⟨cs,q1,q2,q3,q4⟩:=hob;exact .inr ⟨id,b,N,c,cs,rfl,g5,by rw[hid];rfl,by rw[g1];simp,g2,g3 rfl,q1,by rw[q2,←g7.2 rfl];simp,b4.symm,q4⟩
   ·cases h
  ·cases h
 ·cases h
def aM1(h:Nat→O)(old:Option Nat):Nat→O:=match old with
 |none=>h
 |some id=>fu h id .gone
theorem aK9{old:Option Nat}{h:Nat→O}{x:O}:pX.mem (.app old x) nid h=fu (aM1 h old) nid x:=by
 cases old with
 |none=>exact yZ
 |some id=>exact aFN
theorem uJ(hs:eJ β st a w)(hid:β nid=none){x:Operand}{el:TypeId}{sz n m:Nat}{vs cn:List C}{old:Option Nat}{news:List Value}(c0:0<sz)(hd:UO β w st.h el sz n vs old (a.eval x))(s2:news.length=m*sz)(s5:All2 (CR β) cn news)
  (hrun:∀xs,w.ownsRow 0 el sz (a.eval x) n xs→∃v' w',(execOp a.eval o).run P w=.ok (.value v') w'∧w'.ownsRow 0 el sz v' (n+m) (xs++news)∧w.grownBy w' (a.eval x).ownBlock∧(v'.ownBlock=(a.eval x).ownBlock∨v'.ownBlock=some w.heap.size)) :
  bX P β st.h nid o a w (.c (.f (.sl true nid sz 0 (n+m)))) (.app old (.blk false el (vs++cn))):=by
 obtain⟨xs,hown,hxs⟩:∃xs,w.ownsRow 0 el sz (a.eval x) n xs∧All2 (CR β) vs xs:=by
  rcases hd with⟨hv,rfl,rfl⟩|⟨id,b,N,c',cs,rfl,d1,d2,d3,d4,d5,d6,d7,d8,d9⟩
  ·exact⟨[],⟨by simp,.inl ⟨hv,rfl⟩⟩,trivial⟩
  ·have hle:n*sz≤c'*sz:=bG sz d4
   refine⟨cs.toList.take (n*sz),⟨by simp;omega,.inr ⟨b,c',cs,d3,bK _,d6,d4,d5,d7,rfl⟩⟩,?_⟩
   refine AE.All2.of_get (by simp;omega) fun k c u hc hu=>?_
   obtain⟨u',q1,q2⟩:=d9 k c hc
   have hk:k<n*sz:=by have:=(aN.1 hc).1;omega
   rw[List.getElem?_take_of_lt hk,aW,q1]at hu;injection hu with hu;subst hu;exact q2
 obtain⟨v',w',hexec,r1,r2,r3⟩:=hrun xs hown
 have hcells:All2 (CR β) (vs++cn) (xs++news):=hxs.append s5
 have hblk:∀g,(a.eval x).ownBlock=some g→∃id N,old=some id∧β id=some (g,N)∧(st.h id).live=true:=by
  intro g hg
  rcases hd with⟨hv,_⟩|⟨id,b,N,c',cs,rfl,d1,d2,d3,_⟩
  ·rw[hv]at hg;cases hg
  ·rw[d3]at hg
   have:b=g:=by simpa[Value.ownBlock] using hg
   subst this;exact⟨id,N,rfl,d1,d2⟩
 have hnb:∀b N,v'=.slice (some ⟨b,0,none⟩) (n+m) N→(a.eval x).ownBlock=some b∨b=w.heap.size:=by
  intro b N hv;rw[hv]at r3
  rcases r3 with r3|r3
  ·left;rw[←r3];simp[Value.ownBlock]
  ·right;simpa[Value.ownBlock] using r3
 obtain⟨h0,hh0⟩:∃h0:Nat→O,h0=aM1 st.h old:=⟨_,rfl⟩
 have hmem:pX.mem (.app old (.blk false el (vs++cn))) nid st.h=fu h0 nid (.blk false el (vs++cn)):=by rw[aK9,hh0]
 have hs0:HS β w h0:=by rw[hh0];cases old with|none=>exact hs.hs|some id=>exact aKT hs.hs id
 have hother:∀i b N,β i=some (b,N)→(h0 i).live=true→(a.eval x).ownBlock≠some b:=by
  intro i b N hi hl hg;obtain⟨id,N',rfl,h2,h3⟩:=hblk b hg;rw[hh0]at hl
  have hl:(fu st.h id .gone i).live=true:=hl
  by_cases e:i=id
  ·subst e;rw[fA]at hl;cases hl
  ·rw[cO _ e]at hl
   exact e (hs.hs.inj i id b N N' hi h2 hl h3)
 have hfr:∀β':Bt,Mo β β'→(∀i b N,β' i=some (b,N)→(∃j N',β j=some (b,N'))∨w.heap.size≤b)→Gr β w β' w':=fun β' hm hex=>{
  os:=r2.os,tape:=r2.tape,output:=r2.output,size:=r2.size
  fr:=fun b hb hn=>r2.block b hb (fun e=>by
   obtain⟨id,N,_,h2,_⟩:=hblk b e.symm
   exact hn id N h2)
  ex:=hex
  bm:=hm }
 have hobj:∀β':Bt,Mo β β'→∀i b N,β i=some (b,N)→OR β' w' (h0 i) b N:=by
  intro β' hm i b N hi;cases hl:(h0 i).live with
  |false=>cases hq:h0 i<;>rw[hq]at hl<;>first|exact trivial|cases hl
  |true=>exact OR.keep hm (r2.block b (hs.hs.lt i b N hi) (fun e=>hother i b N hi hl e.symm)) (hs0.obj i b N hi)
 rcases r1.2 with⟨rfl,hz0⟩|⟨gb,cap,cur,rfl,_,hg1,hg2,hg3,hg4,hg5⟩
 ·
   refine⟨_,w',β,.inl hexec,⟨none,0,by rw[hz0],by omega,fun _=>by unfold maxLen;omega,.inl ⟨.inl rfl,hz0,rfl⟩⟩,?_,hfr β (fun _ _ h=>h) (fun i b N h=>.inl ⟨i,N,h⟩),fun _ _=>rfl⟩;rw[hmem]
   have hne:∀i b N,β i=some (b,N)→i≠nid:=fun i b N hi e=>by rw[e,hid]at hi;cases hi
   refine⟨?_,fun i b N hi=>bM (hs.hs.lt i b N hi) r2.size,?_⟩
   ·intro i j b o1 o2 hi hj li lj
    rw[cO _ (hne i _ _ hi)]at li;rw[cO _ (hne j _ _ hj)]at lj;exact hs0.inj i j b o1 o2 hi hj li lj
   ·intro i b N hi
    rw[cO _ (hne i _ _ hi)];exact hobj β (fun _ _ h=>h) i b N hi
 ·have hfresh:=hnb gb cap rfl
  have hm:=sX (x:=(gb,cap*sz)) hid
  refine⟨_,w',fu β nid (some (gb,cap*sz)),.inl hexec,⟨_,cap,rfl,hg2,fun _=>hg3,.inr ⟨gb,cap*sz,fA _ _ _,by simp,by simp,fun _=>by simp⟩⟩,?_,hfr _ hm ?_,fun i hi=>cO _ (hi.resolve_right (by cases old<;>simp[pX.app,pX.isNw]))⟩
  ·rw[hmem]
   refine⟨?_,?_,?_⟩
   ·intro i j b o1 o2 hi hj li lj
    have nofresh:∀j o2,j≠nid→β j=some (gb,o2)→(h0 j).live=true→False:=fun j o2 hj1 hj2 hl=>by
     rcases hfresh with hq|hq
     ·exact hother j _ _ hj2 hl hq
     ·have:=hs.hs.lt j _ _ hj2;omega
    by_cases ei:i=nid
    ·by_cases ej:j=nid
     ·omega
     ·subst ei
      rw[fA]at hi;rw[cO _ ej]at hj lj;injection hi with hi;injection hi with hi _;subst hi;exact(nofresh j _ ej hj lj).elim
    ·rw[cO _ ei]at hi li
     by_cases ej:j=nid
     ·subst ej
      rw[fA]at hj;injection hj with hj;injection hj with hj _;subst hj;exact(nofresh i _ ei hi li).elim
     ·rw[cO _ ej]at hj lj
      exact hs0.inj i j b o1 o2 hi hj li lj
   ·intro i b N hi
    by_cases ei:i=nid
    ·subst ei
     rw[fA]at hi;injection hi with hi;injection hi with hi _;subst hi;exact(aO.1 hg1).1
    ·rw[cO _ ei]at hi
     exact bM (hs.hs.lt i b N hi) r2.size
   ·intro i b N hi
    by_cases ei:i=nid
    ·subst ei
     rw[fA]at hi ⊢;injection hi with hi;injection hi with hi hN;subst hi;subst hN
     have hlen:=hcells.length
     have hl2:(xs++news).length=(n+m)*sz:=r1.1
     refine⟨cur,hg1,hg4,⟨by rw[hlen,hl2];exact bG sz hg2,fun h=>by cases h⟩,fun k c hc=>?_⟩;obtain⟨u,q1,q2⟩:=hcells.get k c hc;refine⟨u,?_,CR.keep hm q2⟩
     have hk:k<(n+m)*sz:=by have:=(aN.1 q1).1;omega
     rw[←hg5,List.getElem?_take_of_lt hk]at q1;simpa using q1
    ·rw[cO _ ei]at hi ⊢
     exact hobj _ hm i b N hi
  ·intro i b N hi
   by_cases ei:i=nid
   ·subst ei
    rw[fA]at hi;injection hi with hi;injection hi with hi _;subst hi
    rcases hfresh with hq|hq
    ·obtain⟨id,N',_,h2,_⟩:=hblk _ hq
     exact .inl ⟨id,N',h2⟩
    ·exact .inr (by omega)
   ·rw[cO _ ei]at hi;exact .inl ⟨i,N,hi⟩
set_option maxHeartbeats 1000000 in
theorem WJ(hs:eJ β st a w)(hid:β nid=none){x y:Operand}{ax ay:X}{t el:TypeId}{sz bytes:Nat}{z:List C}(hu:P.underlying t=some (.slice el))(hsz:dF P el=some sz)(hby:jA P el=some bytes)(hz:iQ P el=some z)(hx:cX x=some ax)(hy:cX y=some ay)
  (ho:o.op=.call { callee:=.builtin .append,args := #[x,y],argTypes := #[t,t] }) (h:KI st.t st.h nid el sz bytes z ax ay=some (v,e)):bX P β st.h nid o a w v e:=by
 unfold KI at h;split at h
 case h_2=>cases h
 rename_i m news n vs old hsrc hdst
 have h0:=fN h
 clear h;obtain⟨hb,h⟩:=h0;cases h;rw[bC,bC,bC,bC,iH]at hb;obtain⟨⟨b0,bz⟩,b1,b2,b3⟩:=hb
 have c0:0<sz:=aK b0
 have b1:(n+m)*bytes≤140737488355328:=aK b1
 have b2:n+m≤140737488355328:=aK b2
 have hd:=LN hs hx hdst
 obtain⟨A,c,nw,s1,s2,s3,s4,s5⟩:=yO hs hy hsrc
 have hones:∀u∈nw,u.oneCell'=true:=kU s5 (gI b3)
 obtain⟨i,hi⟩:∃i,P.info? el=some i:=by
  unfold dF at hsz;cases hq:P.info? el with
  |none=>simp[hq]at hsz
  |some i=>exact⟨i,rfl⟩
 have hisz:i.size=sz:=by simpa[dF,hi] using hsz
 have hiby:i.bytes=bytes:=by simpa[jA,hi] using hby
 rw[kW];obtain⟨zv,_,hzl,hiz⟩:=kD hz
 have hiz:i.zero=some zv:=by simpa[hi] using hiz
 have hzs:zv.cells.size=sz:=by
  have:=aF bz
  rw[hzl]at this;simpa using this
 refine uJ hs hid (x:=x) (sz:=sz) c0 hd s2 s5 fun xs hown=>?_
 obtain⟨v',w',hrun,r1,r2,r3⟩:∃v' w',(Builtin.append_ #[t,t] o.type #[a.eval x,a.eval y]).run P w=.ok v' w'∧w'.ownsRow 0 el sz v' (n+m) (xs++nw)∧w.grownBy w' (a.eval x).ownBlock∧(v'.ownBlock=(a.eval x).ownBlock∨v'.ownBlock=some w.heap.size):=by
  rw[s1];cases A with
  |some ad=>
   obtain⟨v',w',q1,q2,q3,_,q4⟩:=run_append_own_at (P:=P) w 0 t o.type el i zv sz bytes hu hi hiz hisz hiby hzs c0 (a.eval x) n xs hown ad m c nw s2 (s4 ad rfl) hones (by unfold maxLen;omega) b1 (bK _);exact⟨v',w',q1,q2,q3,q4⟩
  |none=>
   have hm:=s3 rfl
   subst hm
   have hnil:nw=[]:=eS (by simpa using s2)
   subst hnil;refine⟨a.eval x,w,?_,by simpa using hown,World.grownBy.refl w _,.inl rfl⟩
   rcases hown.2 with⟨hv,h0⟩|⟨gb,cap,cur,hv,_,_,hnc,_⟩
   ·rw[hv];simp[Builtin.append_,run_underlying hu,sizeOf,typeInfo,hi,Builtin.lenOf,Builtin.firstCells]
   ·rw[hv];simp[Builtin.append_,run_underlying hu,sizeOf,typeInfo,hi,Builtin.lenOf,Builtin.firstCells,hnc,storeCells]
 exact⟨v',w',by simp[execOp,ho,resolve,invoke,builtin,hrun],r1,r2,r3⟩
theorem aJA(hs:eJ β st a w)(hid:β nid=none){x y:Operand}{ax ay:X}{t u el:TypeId}(ht:P.underlying t=some (.slice el))(hu:P.underlying u=some .string)(hb:YP P el=true)(hx:cX x=some ax)(hy:cX y=some ay)
  (ho:o.op=.call { callee:=.builtin .append,args := #[x,y],argTypes := #[t,u] }) (h:yU st.t st.h nid el ax ay=some (v,e)):bX P β st.h nid o a w v e:=by
 have hv:=aM hs hy
 unfold yU at h;split at h
 case h_2=>cases h
 rename_i l n vs old hey hdst;rw[hey]at hv;obtain⟨s,hv,rfl⟩:=hv
 have h0:=fN h
 clear h;obtain⟨b2,h⟩:=h0;cases h
 have hln:=oF s
 unfold qZ at hln;rw[iH,hln]at b2
 have b2:n+s.size≤140737488355328:=aK b2
 have hd:=LN hs hx hdst
 obtain⟨i,hi,hz,h1,hb⟩:∃i,P.info? el=some i∧i.zero=some (.int .u8 0)∧i.size=1∧i.bytes=1:=by
  unfold YP at hb;split at hb
  ·rename_i i hi
   split at hb
   ·rename_i hz
    rw[bC]at hb;exact⟨i,hi,hz,aF hb.1,aF hb.2⟩
   ·cases hb
  ·cases hb
 have hsrc:All2 (CR β) (mp (fun k=>C.f (.i .u8 (aY k))) (s.data.toList.map gH)) (Lib.strCells s):=by
  rw[FG,List.map_map]
  exact AE.All2.map_left _ (by
   unfold Lib.strCells
   have:∀l:List UInt8,All2 (fun(x:UInt8) y=>CR β (((fun k=>C.f (.i .u8 (aY k)))∘gH) x) y) l (l.map fun b=>.int .u8 (b.toNat:Int)):=by
    intro l;induction l with
    |nil=>trivial
    |cons c l ih=>exact⟨rfl,ih⟩
   exact this _)
 rw[kW,iH,hln]
 refine uJ hs hid (x:=x) (sz:=1) (m:=s.size) (by decide) hd (by rw[Lib.strCells_length];omega) hsrc fun xs hown=>?_
 obtain⟨v',w',hr,r1,r2,r3⟩:=Lib.run_append_own_string (P:=P) w 0 t u o.type el i ht hu hi hz h1 hb (a.eval x) n xs hown s (by unfold maxLen;omega) b2 (bK _);refine⟨v',w',by simp[execOp,ho,resolve,invoke,builtin,hv,hr],r1,r2,?_⟩
 rcases hown.2 with⟨hn,h0⟩|⟨g,cap,cur,hn,hbg,hg,hnc,hcm,hcs,htake⟩
 ·by_cases hm:s.size=0
  ·left;rw[hn];rw[r3.2 ⟨hn,hm⟩]
  ·have hr2:=run_append_nil_string (P:=P) w t u o.type el i (.int .u8 0) ht hu hi hz s (by omega) (by omega) (by rw[hb];omega)
   rw[hn]at hr;rw[hr2]at hr;injection hr with e1 e2;right;rw[←e1];rfl
 ·have hcs':cur.size=cap:=by simpa using hcs
  by_cases hroom:n+s.size≤cap
  ·have hr2:=Lib.run_append_room_string (P:=P) w t u o.type el i ht hu hi h1 g n cap cur hg s hroom (by omega)
   rw[hn]at hr;rw[hr2]at hr;injection hr with e1 e2;left;rw[←e1,hn];rfl
  ·have holds:∀j u,xs[j]?=some u→w.cell? ((⟨g,0,none⟩:Addr).add j)=some u:=hown.cells (g:=g) (by rw[hn];rfl)
   have hxl:xs.length=n:=by simpa using hown.1
   have hr2:=Lib.run_append_grow_string (P:=P) w t u o.type el i (.int .u8 0) ht hu hi hz ⟨g,0,none⟩ n cap xs (by rw[h1];simpa using hxl) holds s (by omega) (by omega) (by rw[hb];exact growslice_fits (by omega) (by omega))
   rw[hn]at hr;rw[hr2]at hr;injection hr with e1 e2;right;rw[←e1];rfl
theorem MZ(hs:eJ β st a w)(hid:β nid=none){t el:TypeId}{sz bytes:Nat}{z:List C}{x y:Operand}{ax ay:X}(hu:P.underlying t=some (.slice el))(hsz:dF P el=some sz)(hby:jA P el=some bytes)(hz:iQ P el=some z)(hx:cX x=some ax)(hy:cX y=some ay)
  (ho:o.op=.makeSlice t x y) (h:yT st.t nid el sz bytes z ax ay=some (v,e)):bX P β st.h nid o a w v e:=by
 have hv:=aM hs hx
 have hv':=aM hs hy
 unfold yT at h;split at h
 case h_2=>cases h
 rename_i k1 l k2 c e1 e2;rw[e1]at hv;rw[e2]at hv'
 have hv:a.eval x=.int k1 l:=hv
 have hv':a.eval y=.int k2 c:=hv'
 have h0:=fN h
 clear h;obtain⟨hb,h⟩:=h0;cases h;rw[bC,bC,bC,bC,bC,gD,gD,gD,gD,iH]at hb;obtain⟨c1,c2,h1,h2,h3,h4⟩:=hb
 have c1:0<sz:=aK c1
 have c2:=aF c2
 obtain⟨zv,_,hzl,hiz⟩:=kD hz
 obtain⟨i,hi⟩:∃i,P.info? el=some i:=by
  unfold dF at hsz;cases hq:P.info? el with
  |none=>simp[hq]at hsz
  |some i=>exact⟨i,rfl⟩
 have hisz:i.size=sz:=by simpa[dF,hi] using hsz
 have hiby:i.bytes=bytes:=by simpa[jA,hi] using hby
 have hzz:i.zero=some zv:=by simpa[hi] using hiz
 have hzs:zv.cells.size=sz:=by rw[hzl]at c2;simpa using c2
 have hr:=run_make (P:=P) w t el i zv hu hi hzz k1 k2 l c h1 h2 (by rw[hiby,Int.mul_comm];omega) (by omega)
 have hcs:c.toNat*i.size=c.toNat*sz:=by rw[hisz]
 refine bX.new hs hid (u:=.slice (some ⟨w.heap.size,0,none⟩) l.toNat c.toNat) (us:=madeCells zv.cells (c.toNat*i.size)) (by simp[execOp,ho,hv,hv',hr]) ?_ (fun hx=>?_) ?_ fun β' hb=>?_
 ·rw[tK,size_madeCells,hcs,c2]
  exact bG _ (by omega)
 ·rw[tK,size_madeCells,hcs,c2,qC.1 hx]
 ·intro k x hk
  have hkl:k<l.toNat*sz:=by have:=(aN.1 hk).1;rwa [tK,c2]at this
  have hlt:k<c.toNat*sz:=bM hkl (bG _ (by omega))
  have hall:=pH (q:=CR β) (nQ zv.cells.toList) l.toNat
  rw[←hzl]at hall;obtain⟨u,q1,q2⟩:=hall.get k x hk;refine⟨u,?_,q2⟩;rw[←AE.range_cells zv.cells (by omega) l.toNat,cC,List.getElem?_range (by rw[hzs];exact hkl)]at q1;unfold madeCells;rw[hcs,Array.getElem?_map,Array.getElem?_range,if_pos hlt];exact q1
 ·exact⟨_,c.toNat,rfl,by omega,fun _=>by unfold maxLen;omega,.inr ⟨w.heap.size,_,hb,by simp,by rw[size_madeCells,hcs];simp,fun _=>by rw[size_madeCells,hcs];simp⟩⟩
end
end Go.CE
