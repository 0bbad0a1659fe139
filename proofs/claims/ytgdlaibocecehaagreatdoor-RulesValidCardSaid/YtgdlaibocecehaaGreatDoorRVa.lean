import Derived.WalkKit
import Derived.Below
import Derived.Orders
import Derived.DeepKeys4
import Derived.Maps.Keyed
import Derived.Deep.MidRow
import Derived.IntWalk
import Derived.Laws.StructEq
import Derived.ChangeKeysEq
import Derived.Laws.MakeOwn
set_option linter.unusedVariables false
set_option linter.unusedSimpArgs false
namespace Go.AE
open _root_.Array renaming getElem?_eq_some_iff→bF,getElem?_extract→cQ,getElem?_toList→bC
open _root_.BitVec renaming ofInt→dW
open _root_.Bool renaming and_eq_true→aY
open _root_.List renaming getD_eq_getElem?_getD→aG,getElem?_append_left→cZ,getElem?_eq_getElem→aN,getElem?_eq_none→bL,getElem?_eq_some_iff→aV,length_set→fI
open _root_.Nat renaming add_mul→dG,beq→bE,ble→bS,ble_eq→fU,blt→cU,eq_of_beq_eq_true→aH,le_trans→fX,mul_le_mul_right→bP,one_mul→gW
open Op renaming bytesLess→eS,equalIn→eE,intArith→gA,stringOp→gU
open _root_.Option renaming map_some→dS,some.injEq→aD
open Region renaming binds→eO
open Value renaming int→fM
inductive PV where
 |b (x:Bool)
 |i (k:IntKind) (n:Int)
 |s (x:ByteArray)
 |l (sz n:Nat) (f:Nat→Nat→PV)
 |z (v:Value)
inductive B where
 |p (x:PV)
 |ptr (id off:Nat)
inductive C where
 |p (x:PV)
 |ptr (id off:Nat)
 |rp (id sz e o:Nat)
 |lp (sz n:Nat) (f:Nat→Nat→PV) (e o:Nat)
 |sl (id sz off len:Nat)
 |mp (id:Nat)
 |fn (f:Fn) (first cap:List B)
 |own (ty:TypeId) (sz n:Nat) (f:Nat→Nat→PV)
 |top
inductive V1 where
 |c (x:C)
 |a (cs:List C)
inductive V where
 |c (x:C)
 |a (cs:List C)
 |t (vs:List V1)
def V1.up:V1→V
 |.c x=>.c x
 |.a cs=>.a cs
inductive AO where
 |cells (ty:TypeId) (vs:List C)
 |row (ty:TypeId) (sz n:Nat) (f:Nat→Nat→C)
 |foc (ty:TypeId) (sz n e0:Nat) (cs:List C) (f:Nat→Nat→C)
 |mapb (ok:Value→Bool) (g:Value→Option Bool)
 |mapl (ok:Value→Bool) (ty:TypeId) (sz:Nat) (g:Value→Nat×(Nat→Nat→PV)) (fo:Option (Value×C))
 |pin (j b0:Nat)
 |gone
structure St where
 t:List V
 h:List AO
def bN{α:Type}(d:α):List α→Nat→α
 |[],_=>d
 |x::_,0=>x
 |_::r,n+1=>bN d r n
def upd{α:Type}(v:α):List α→Nat→List α
 |[],_=>[]
 |_::r,0=>v::r
 |x::r,n+1=>x::upd v r n
def fK{α:Type}:List α→Nat
 |[]=>0
 |_::r=>fK r+1
def iF{α:Type}(v:α):List α→List α
 |[]=>[v]
 |x::r=>x::iF v r
theorem eK{α:Type}(d:α):∀(l:List α) (n:Nat),bN d l n=l.getD n d
 |[],_=>by simp[bN]
 |_::_,0=>by simp[bN]
 |_::r,n+1=>by simpa[bN] using eK d r n
theorem jB{α:Type}(v:α):∀(l:List α) (n:Nat),upd v l n=l.set n v
 |[],_=>by simp[upd]
 |_::_,0=>by simp[upd]
 |_::r,n+1=>by simpa[upd] using jB v r n
theorem fH{α:Type}:∀(l:List α),fK l=l.length
 |[]=>rfl
 |_::r=>by simp[fK,fH r]
theorem mM{α:Type}(v:α):∀(l:List α),iF v l=l++[v]
 |[]=>rfl
 |_::r=>by simp[iF,mM v r]
structure Bt where
 f:Nat→Option (Nat×Nat)
 q:Nat→Option (Nat×Nat)
instance:CoeFun Bt fun _=>Nat→Option (Nat×Nat):=⟨Bt.f⟩
abbrev Bt.nil:Bt:=⟨fun _=>none,fun _=>none⟩
def Bt.has(β:Bt)(b:Nat):Prop:=(∃i o,β i=some (b,o))∨∃ad,β.q b=some ad
theorem Bt.nil_has{b:Nat}:¬Bt.nil.has b:=by
 rintro (⟨i,o,h⟩|⟨ad,h⟩)<;>cases h
def PR(R:Nat→Prop)(w:World):PV→Value→Prop
 |.b x,v=>v=.bool x
 |.i k n,v=>v=.int k n
 |.s x,v=>v=.string x
 |.z u,v=>v=u
 |.l sz n f,v=>∃A c,v=.slice A n c∧n≤c∧c≤maxLen∧(0<n→∃ad,A=some ad∧R ad.block∧∀e o,e<n→o<sz→∃u,w.cell? (ad.add (e*sz+o))=some u∧PR R w (f e o) u)
def BR(β:Bt)(R:Nat→Prop)(w:World):B→Value→Prop
 |.p x,v=>PR R w x v
 |.ptr id off,v=>∃b o,β id=some (b,o)∧v=.pointer (some ⟨b,off,none⟩)
def All2{α γ:Type}(q:α→γ→Prop):List α→List γ→Prop
 |[],[]=>True
 |x::xs,y::ys=>q x y∧All2 q xs ys
 |_,_=>False
def CR(β:Bt)(R:Nat→Prop)(w:World):C→Value→Prop
 |.p x,v=>PR R w x v
 |.ptr id off,v=>∃b o,β id=some (b,o)∧v=.pointer (some ⟨b,off,none⟩)
 |.rp id sz e o,v=>∃b o0,β id=some (b,o0)∧v=.pointer (some ⟨b,e*sz+o,none⟩)
 |.lp sz n f e o,v=>∃ad:Addr,v=.pointer (some (ad.add (e*sz+o)))∧e<n∧R ad.block∧∀e o,e<n→o<sz→∃u,w.cell? (ad.add (e*sz+o))=some u∧PR R w (f e o) u
 |.sl id sz off len,v=>∃A c,v=.slice A len c∧len≤c∧c≤maxLen∧(((A=none∨0<off)∧len=0∧c=0) ∨
    ∃b N,β id=some (b,N)∧A=some ⟨b,off*sz,none⟩∧(off+c)*sz=N)
 |.mp id,v=>∃b N,β id=some (b,N)∧v=.map (some b)
 |.fn f fs cs,v=>∃us vs,v=.func f us vs∧All2 (BR β R w) fs us.toList∧All2 (BR β R w) cs vs.toList
 |.own ..,_=>True
 |.top,_=>True
def rS(β:Bt)(R:Nat→Prop)(w:World)(ad:Nat×Nat)(x:C)(v:Value):Prop:=match x with
 |.own ty sz n f=>∃A c,v=.slice A n c∧n≤c∧c≤maxLen∧((A=none∧n=0∧c=0) ∨
    ∃b cs,A=some ⟨b,0,none⟩∧β.q b=some ad∧w.heap[b]?=some (.cells cs ty (0,0))∧cs.size=c*sz∧∀e k,e<n→k<sz→∃u,cs[e*sz+k]?=some u∧PR R w (f e k) u)
 |x=>CR β R w x v
def C.isOwn:C→Bool
 |.own .. => true
 |_=>false
theorem rS.eq{β:Bt}{R:Nat→Prop}{w:World}{ad:Nat×Nat}{x:C}{v:Value}(hx:x.isOwn=false):rS β R w ad x v=CR β R w x v:=by
 cases x with
 |own=>cases hx
 |_=>rfl
theorem rS.cr{β:Bt}{R:Nat→Prop}{w:World}{ad:Nat×Nat}{x:C}{v:Value}(h:rS β R w ad x v):CR β R w x v:=by
 cases hx:x.isOwn with
 |false=>rwa [rS.eq hx]at h
 |true=>cases x<;>first|exact trivial|cases hx
theorem rS.of{β:Bt}{R:Nat→Prop}{w:World}{ad:Nat×Nat}{x:C}{v:Value}(hx:x.isOwn=false)(h:CR β R w x v):rS β R w ad x v:=by
 rw[rS.eq hx];exact h
def BO(β:Bt)(R:Nat→Prop)(w:World):V1→Value→Prop
 |.c x,v=>CR β R w x v
 |.a cs,v=>∃us,v=.agg us∧All2 (CR β R w) cs us.toList
def VR(β:Bt)(R:Nat→Prop)(w:World):V→Value→Prop
 |.c x,v=>CR β R w x v
 |.a cs,v=>∃us,v=.agg us∧All2 (CR β R w) cs us.toList
 |.t vs,v=>∃us,v=.tuple us∧All2 (BO β R w) vs us.toList
def aP3(es:Array MapEntry)(clock:Nat):Prop:=es.toList.Pairwise (fun x y=>x.key≠y.key)∧es.toList.Pairwise (fun x y=>x.born≠y.born)∧∀e∈es.toList,e.born<clock
def OR(β:Bt)(R:Nat→Prop)(w:World):AO→Nat→Nat→Prop
 |.cells ty vs,b,_=>∃cs,w.heap[b]?=some (.cells cs ty (0,0))∧All2 (CR β R w) vs cs.toList
 |.row ty sz n f,b,N=>∃cs,w.heap[b]?=some (.cells cs ty (0,0))∧cs.size=N∧n*sz≤N∧∀e k,e<n→k<sz→∃u,cs[e*sz+k]?=some u∧rS β R w (b,e*sz+k) (f e k) u
 |.foc ty sz n e0 vs f,b,N=>∃cs,w.heap[b]?=some (.cells cs ty (0,0))∧cs.size=N∧n*sz≤N∧e0<n∧vs.length=sz∧∀e k,e<n→k<sz→∃u,cs[e*sz+k]?=some u∧(e=e0→CR β R w (bN .top vs k) u)∧(e≠e0→rS β R w (b,e*sz+k) (f e k) u)
 |.mapb ok g,b,_=>∃es clock,w.heap[b]?=some (.map es clock)∧es.toList.Pairwise (fun x y=>x.key≠y.key)∧(∀e∈es.toList,ok e.key=true∧∃x,g e.key=some x∧e.val=.bool x)∧∀k x,g k=some x→∃e∈es.toList,e.key=k
 |.mapl ok ty sz g fo,b,_=>∃es clock,w.heap[b]?=some (.map es clock)∧aP3 es clock ∧
    (∀i e,es.toList[i]?=some e→ok e.key=true∧(∀k0 c,fo=some (k0,c)→e.key=k0→CR β R w c e.val)∧((∀k0 c,fo=some (k0,c)→e.key≠k0)→rS β R w (b,i) (.own ty sz (g e.key).1 (g e.key).2) e.val)) ∧
    ∀k,(∀e∈es.toList,e.key≠k)→(∀k0 c,fo=some (k0,c)→k=k0→CR β R w c (.slice none 0 0))∧((∀k0 c,fo=some (k0,c)→k≠k0)→(g k).1=0)
 |.pin j b0,b,_=>b=b0∧∃o,β j=some (b0,o)
 |.gone,_,_=>True
def AO.live:AO→Bool
 |.gone=>false
 |.pin .. => false
 |_=>true
structure HS (G:Nat→Option Obj) (β:Bt) (R:Nat→Prop) (w:World) (h:List AO):Prop where
 dom:∀i x,β i=some x→i<h.length
 inj:∀i j b o o',β i=some (b,o)→β j=some (b,o')→(bN .gone h i).live=true→(bN .gone h j).live=true→i=j
 sep:∀i b o,β i=some (b,o)→(bN .gone h i).live=true→¬R b
 lt:∀i b o,β i=some (b,o)→b<w.heap.size
 rlt:∀b,R b→b<w.heap.size
 obj:∀i b o,β i=some (b,o)→OR β R w (bN .gone h i) b o
 gl:∀b o,G b=some o→R b∧w.heap[b]?=some o
 ql:∀b ad,β.q b=some ad→b<w.heap.size∧¬R b∧∀i o,β i=some (b,o)→(bN .gone h i).live=false
structure eC (G:Nat→Option Obj) (β:Bt) (R:Nat→Prop) (st:St) (a:Act) (w:World):Prop where
 df:a.defers=[]
 tm:All2 (VR β R w) st.t a.tmps.toList
 hs:HS G β R w st.h
structure Fr (β:Bt) (R:Nat→Prop) (w:World) (β':Bt) (R':Nat→Prop) (w':World):Prop where
 os:w'.os=w.os
 tape:w'.tape=w.tape
 output:w'.output=w.output
 size:w.heap.size≤w'.heap.size
 rs:∀b,R b→w'.heap[b]?=w.heap[b]?
 fr:∀b,b<w.heap.size→¬β.has b→w'.heap[b]?=w.heap[b]?
 ex:∀b,β'.has b→β.has b∨w.heap.size≤b
 rx:∀b,R' b→R b∨β.has b∨w.heap.size≤b
structure Gr (β:Bt) (R:Nat→Prop) (w:World) (β':Bt) (R':Nat→Prop) (w':World):Prop extends Fr β R w β' R' w' where
 bm:∀i x,β i=some x→β' i=some x
 rm:∀b,R b→R' b
section
variable {β β' β'':Bt} {R R' R'':Nat→Prop} {w w' w'':World}
theorem Fr.refl(β:Bt)(R:Nat→Prop)(w:World):Fr β R w β R w:=
 ⟨rfl,rfl,rfl,Nat.le_refl _,fun _ _=>rfl,fun _ _ _=>rfl,fun _ h=>.inl h,fun _ h=>.inl h⟩
theorem Gr.refl(β:Bt)(R:Nat→Prop)(w:World):Gr β R w β R w:=⟨.refl _ _ _,fun _ _ h=>h,fun _ h=>h⟩
theorem Fr.trans(h:Fr β R w β' R' w')(k:Fr β' R' w' β'' R'' w'')(hr:∀b,R b→R' b):Fr β R w β'' R'' w'' where
 os:=k.os.trans h.os
 tape:=k.tape.trans h.tape
 output:=k.output.trans h.output
 size:=fX h.size k.size
 rs:=fun b hb=>(k.rs b (hr b hb)).trans (h.rs b hb)
 fr:=fun b hb hn=>(k.fr b (Nat.lt_of_lt_of_le hb h.size) (fun hi=>by
  rcases h.ex b hi with h'|h'
  ·exact hn h'
  ·omega)).trans (h.fr b hb hn)
 ex:=fun b hi=>by
  rcases k.ex b hi with h'|h'
  ·exact h.ex b h'
  ·exact .inr (fX h.size h')
 rx:=fun b hb=>by
  rcases k.rx b hb with h'|h'|h'
  ·exact h.rx b h'
  ·rcases h.ex b h' with h'|h'
   ·exact .inr (.inl h')
   ·exact .inr (.inr h')
  ·exact .inr (.inr (fX h.size h'))
theorem Gr.trans(h:Gr β R w β' R' w')(k:Gr β' R' w' β'' R'' w''):Gr β R w β'' R'' w'':=
 ⟨h.toFr.trans k.toFr h.rm,fun i x hi=>k.bm i x (h.bm i x hi),fun b hb=>k.rm b (h.rm b hb)⟩
theorem All2.mono{α γ:Type}{q q':α→γ→Prop}(hq:∀x y,q x y→q' x y):∀ {xs:List α} {ys:List γ},All2 q xs ys→All2 q' xs ys
 |[],[],_=>trivial
 |[],_::_,h=>h
 |_::_,[],h=>h
 |_::_,_::_,h=>⟨hq _ _ h.1,All2.mono hq h.2⟩
theorem All2.length{α γ:Type}{q:α→γ→Prop}:∀ {xs:List α} {ys:List γ},All2 q xs ys→xs.length=ys.length
 |[],[],_=>rfl
 |[],_::_,h=>h.elim
 |_::_,[],h=>h.elim
 |_::_,_::_,h=>congrArg (· + 1) (All2.length h.2)
theorem All2.get{α γ:Type}{q:α→γ→Prop}:∀ {xs:List α} {ys:List γ} (_:All2 q xs ys) (j:Nat) (x:α),xs[j]?=some x→∃y,ys[j]?=some y∧q x y
 |_::_,y::_,h,0,x,hx=>⟨y,rfl,by simp at hx;subst hx;exact h.1⟩
 |_::xs,_::ys,h,j+1,x,hx=>by simpa using All2.get (xs:=xs) (ys:=ys) h.2 j x (by simpa using hx)
 |[],[],_,j,x,hx=>by simp at hx
theorem All2.set{α γ:Type}{q:α→γ→Prop}:∀ {xs:List α} {ys:List γ} (_:All2 q xs ys) (j:Nat) (x:α) (y:γ),q x y→All2 q (xs.set j x) (ys.set j y)
 |[],[],_,_,_,_,_=>trivial
 |_::_,_::_,h,0,_,_,hq=>⟨hq,h.2⟩
 |_::_,_::_,h,j+1,x,y,hq=>⟨h.1,All2.set h.2 j x y hq⟩
theorem All2.append{α γ:Type}{q:α→γ→Prop}:∀ {xs xs':List α} {ys ys':List γ},All2 q xs ys→All2 q xs' ys'→All2 q (xs++xs') (ys++ys')
 |[],_,[],_,_,h=>h
 |[],_,_::_,_,h,_=>h.elim
 |_::_,_,[],_,h,_=>h.elim
 |_::_,_,_::_,_,h,k=>⟨h.1,All2.append h.2 k⟩
structure jC (β:Bt) (R:Nat→Prop) (w:World) (β':Bt) (R':Nat→Prop) (w':World):Prop where
 bm:∀i x,β i=some x→β' i=some x
 rm:∀b,R b→R' b
 rs:∀b,R b→w'.heap[b]?=w.heap[b]?
theorem Gr.keeps(h:Gr β R w β' R' w'):jC β R w β' R' w':=⟨h.bm,h.rm,h.rs⟩
theorem LD{a:Addr}(h:w'.heap[a.block]?=w.heap[a.block]?):w'.cell? a=w.cell? a:=by unfold World.cell?;rw[h]
theorem sR(a:Addr)(n:Nat):(a.add n).block=a.block:=by unfold Addr.add;split<;>rfl
theorem PR.keep(hr:∀b,R b→R' b)(hs:∀b,R b→w'.heap[b]?=w.heap[b]?):∀(x:PV) {v:Value},PR R w x v→PR R' w' x v
 |.b _,_,h=>h
 |.i _ _,_,h=>h
 |.s _,_,h=>h
 |.z _,_,h=>h
 |.l sz n f,v,h=>by
  obtain⟨A,c,rfl,h1,h2,h3⟩:=h;refine⟨A,c,rfl,h1,h2,fun hn=>?_⟩;obtain⟨ad,h4,h5,h6⟩:=h3 hn;refine⟨ad,h4,hr _ h5,fun e o he ho=>?_⟩;obtain⟨u,h7,h8⟩:=h6 e o he ho;exact⟨u,(LD (by rw[sR];exact hs _ h5)).trans h7,PR.keep hr hs (f e o) h8⟩
theorem BR.keep(k:jC β R w β' R' w'){x:B}{v:Value}(h:BR β R w x v):BR β' R' w' x v:=by
 cases x with
 |p x=>exact PR.keep k.rm k.rs x h
 |ptr id off=>obtain⟨b,o,h1,h2⟩:=h;exact⟨b,o,k.bm _ _ h1,h2⟩
theorem CR.keep(k:jC β R w β' R' w'){x:C}{v:Value}(h:CR β R w x v):CR β' R' w' x v:=by
 cases x with
 |p x=>exact PR.keep k.rm k.rs x h
 |ptr id off=>obtain⟨b,o,h1,h2⟩:=h;exact⟨b,o,k.bm _ _ h1,h2⟩
 |rp id sz e o=>obtain⟨b,o0,h1,h2⟩:=h;exact⟨b,o0,k.bm _ _ h1,h2⟩
 |lp sz n f e o=>
  obtain⟨ad,h1,h2,h3,h4⟩:=h;refine⟨ad,h1,h2,k.rm _ h3,fun e o he ho=>?_⟩;obtain⟨u,h5,h6⟩:=h4 e o he ho;exact⟨u,(LD (by rw[sR];exact k.rs _ h3)).trans h5,PR.keep k.rm k.rs _ h6⟩
 |sl id sz off len=>
  obtain⟨A,c,h1,h2,h3,h4⟩:=h;refine⟨A,c,h1,h2,h3,?_⟩
  rcases h4 with h4|⟨b,N,h5,h6,h7⟩
  ·exact .inl h4
  ·exact .inr ⟨b,N,k.bm _ _ h5,h6,h7⟩
 |mp id=>obtain⟨b,N,h1,h2⟩:=h;exact⟨b,N,k.bm _ _ h1,h2⟩
 |fn f fs cs=>
  obtain⟨us,vs,h1,h2,h3⟩:=h;exact⟨us,vs,h1,h2.mono fun _ _=>BR.keep k,h3.mono fun _ _=>BR.keep k⟩
 |own=>trivial
 |top=>trivial
theorem BO.keep(k:jC β R w β' R' w'){x:V1}{v:Value}(h:BO β R w x v):BO β' R' w' x v:=by
 cases x with
 |c x=>exact CR.keep k h
 |a cs=>obtain⟨us,h1,h2⟩:=h;exact⟨us,h1,h2.mono fun _ _=>CR.keep k⟩
theorem VR.keep(k:jC β R w β' R' w'){x:V}{v:Value}(h:VR β R w x v):VR β' R' w' x v:=by
 cases x with
 |c x=>exact CR.keep k h
 |a cs=>obtain⟨us,h1,h2⟩:=h;exact⟨us,h1,h2.mono fun _ _=>CR.keep k⟩
 |t vs=>obtain⟨us,h1,h2⟩:=h;exact⟨us,h1,h2.mono fun _ _=>BO.keep k⟩
theorem BO.up{x:V1}{v:Value}(h:BO β R w x v):VR β R w x.up v:=by cases x<;>exact h
abbrev vT(β:Bt)(w:World)(β':Bt)(w':World):Prop:=∀b ad,β.q b=some ad→β'.q b=some ad∧w'.heap[b]?=w.heap[b]?
abbrev WV(β:Bt)(w:World)(β':Bt)(w':World)(b:Nat):Prop:=∀b1 k,β.q b1=some (b,k)→β'.q b1=some (b,k)∧w'.heap[b1]?=w.heap[b1]?
theorem vT.at{β β':Bt}{w w':World}(h:vT β w β' w')(b:Nat):WV β w β' w' b:=fun b1 k=>h b1 (b,k)
theorem rS.keep(k:jC β R w β' R' w'){ad:Nat×Nat}(kq:WV β w β' w' ad.1){x:C}{v:Value}(h:rS β R w ad x v):rS β' R' w' ad x v:=by
 cases x with
 |own ty sz n f=>
  obtain⟨A,c,h1,h2,h3,h4⟩:=h;refine⟨A,c,h1,h2,h3,?_⟩
  rcases h4 with h4|⟨b,cs,h5,h6,h7,h8,h9⟩
  ·exact .inl h4
  ·obtain⟨q1,q2⟩:=kq b ad.2 h6
   refine .inr ⟨b,cs,h5,q1,q2.trans h7,h8,fun e k' he hk=>?_⟩;obtain⟨u,g1,g2⟩:=h9 e k' he hk;exact⟨u,g1,PR.keep k.rm k.rs _ g2⟩
 |_=>exact rS.of rfl (CR.keep k h.cr)
theorem OR.keep(k:jC β R w β' R' w'){x:AO}{b o:Nat}(kq:WV β w β' w' b)(hb:w'.heap[b]?=w.heap[b]?)(h:OR β R w x b o):OR β' R' w' x b o:=by
 cases x with
 |cells ty vs=>obtain⟨cs,h2,h3⟩:=h;exact⟨cs,hb.trans h2,h3.mono fun _ _=>CR.keep k⟩
 |row ty sz n f=>
  obtain⟨cs,h2,h0,h3,h4⟩:=h;refine⟨cs,hb.trans h2,h0,h3,fun e q he hq=>?_⟩;obtain⟨u,h5,h6⟩:=h4 e q he hq;exact⟨u,h5,rS.keep k kq h6⟩
 |foc ty sz n e0 vs f=>
  obtain⟨cs,h2,h0,h3,h31,h32,h4⟩:=h;refine⟨cs,hb.trans h2,h0,h3,h31,h32,fun e q he hq=>?_⟩;obtain⟨u,h5,h6,h7⟩:=h4 e q he hq;exact⟨u,h5,fun h=>CR.keep k (h6 h),fun h=>rS.keep k kq (h7 h)⟩
 |mapb ok g=>
  obtain⟨es,cl,h2,h3⟩:=h;exact⟨es,cl,hb.trans h2,h3⟩
 |mapl ok ty sz g fo=>
  obtain⟨es,cl,h2,h3,h4,h5⟩:=h;refine⟨es,cl,hb.trans h2,h3,fun i e he=>?_,fun k0 hk0=>?_⟩
  ·obtain⟨q1,q2,q3⟩:=h4 i e he
   exact⟨q1,fun k0 c h1 h2=>CR.keep k (q2 k0 c h1 h2),fun h1=>rS.keep (ad:=(b,i)) k kq (q3 h1)⟩
  ·obtain⟨q1,q2⟩:=h5 k0 hk0
   exact⟨fun k1 c h1 h2=>CR.keep k (q1 k1 c h1 h2),q2⟩
 |pin j b0=>obtain⟨h1,o,h2⟩:=h;exact⟨h1,o,k.bm _ _ h2⟩
 |gone=>trivial
theorem OR.dead(k:jC β R w β' R' w'){x:AO}{b o:Nat}(hl:x.live=false)(h:OR β R w x b o):OR β' R' w' x b o:=by
 cases x<;>first|exact⟨h.1,_,k.bm _ _ h.2.choose_spec⟩|exact trivial|cases hl
end
inductive AX where
 |t (k:Nat)
 |k (v:V)
inductive PK where
 |b
 |s
 |i
inductive SS where
 |mkmapl (ok:Value→Bool) (ty:TypeId) (sz:Nat)
 |lookl (ok:Value→Bool) (x k:AX)
 |msetl (ok:Value→Bool) (x k v:AX)
 |nilc (x:AX)
 |eqp (neg:Bool) (x y:AX)
 |faddrI (sz n:Nat) (x i:AX)
 |conv (k:IntKind) (x:AX)
 |binw (op:BinOp) (k:IntKind) (x y:AX)
 |negw (k:IntKind) (x:AX)
 |carry (sub:Bool) (x y c:AX)
 |dead
 |nils (neg:Bool) (x:AX)
 |capn (x:AX)
 |appz (ty:TypeId) (sz bytes:Nat) (z:List PV) (x y:AX)
 |clr (sz:Nat) (z:List PV) (x:AX)
 |gsl (g n:Nat)
 |min3 (x y z:AX)
 |idxV (sz n:Nat) (m:Option Nat) (x i:AX)
inductive rB where
 |mv (x:AX)
 |pick (c a b:AX)
 |alloc (ty:TypeId) (z:List PV)
 |box (ty:TypeId) (x:AX)
 |build (z:List PV) (ps:List (Nat×Nat×AX))
 |bsl (ty:TypeId) (sz len:Nat) (z:List PV) (ps:List (Nat×Nat×AX))
 |load (n:Option Nat) (x:AX)
 |store (n:Nat) (a v:AX)
 |bin (op:BinOp) (x y:AX)
 |binb (op:BinOp) (x y:AX)
 |eqs (neg:Bool) (fs:List (Nat×PK)) (x y:AX)
 |not (x:AX)
 |neg (x:AX)
 |faddr (off:Nat) (x:AX)
 |fld (off:Nat) (n:Option Nat) (x:AX)
 |idxA (sz:Nat) (x i:AX)
 |idxS (x i:AX)
 |extr (x:AX) (i:Nat)
 |call (f:FuncId) (args:List AX)
 |len (x:AX)
 |lenS (x:AX)
 |min (x y:AX)
 |max (x y:AX)
 |app (ty:TypeId) (sz bytes:Nat) (z:List PV) (x y:AX)
 |mksl (ty:TypeId) (sz bytes:Nat) (z:List PV) (x y:AX)
 |slc (sz:Nat) (x:AX) (lo hi:Option AX)
 |slcS (x:AX) (lo hi:Option AX)
 |mkmap (ok:Value→Bool)
 |mkmapN (ok:Value→Bool) (x:AX)
 |mkfn (f:Fn) (fs cs:List AX)
 |look (ok:Value→Bool) (two:Bool) (x k:AX)
 |mset (ok:Value→Bool) (x k v:AX)
 |more (o:SS)
structure AI where
 dst:Option Nat
 op:rB
 guard:Option (Nat×Bool)
inductive dA where
 |skip
 |reg (l:List AI)
 |regd (hd tl:List AI)
 |regm (hd:List AI) (late:List rB) (tl:List AI)
 |regx (hd:List AI) (late:List rB) (app:AI) (mid tl:List AI)
 |seq (a b:dA)
 |cond (x:AX) (a b:dA)
 |block (id:Nat) (a:dA)
 |loop (a:dA)
 |exit (id:Nat)
 |ret
 |raw (c:Code)
def HP:Value→PV
 |.bool x=>.b x
 |.int k n=>.i k n
 |.string s=>.s s
 |v=>.z v
def toV:Value→V
 |.agg cs=>.a (cs.toList.map fun v=>.p (HP v))
 |.tuple _=>.c .top
 |v=>.c (.p (HP v))
def cX:Operand→Option AX
 |.tmp t=>some (.t t)
 |.const v=>some (.k (toV v))
 |_=>none
def dK(P:Program)(t:TypeId):Option Nat:=(P.info? t).map (·.size)
def iC(P:Program)(t:TypeId):Option Nat:=(P.info? t).map (·.bytes)
def iE(P:Program)(t:TypeId):Option (List PV):=((P.info? t).bind (·.zero)).map fun v=>v.cells.toList.map HP
def rA(P:Program)(t:TypeId):Option Bool:=(P.underlying t).map fun|.struct _=>true|.array _ _=>true|_=>false
def gI(P:Program)(t:TypeId):Option (Option Nat):=do
 if ←rA P t then pure (some (←dK P t)) else pure none
def jI(place:Nat→Option (Nat×Nat)):List (Nat×Operand)→Option (List (Nat×Nat×AX))
 |[]=>some []
 |(i,x)::r=>do
  let (o,s) ←place i
  pure ((o,s,←cX x)::(←jI place r))
def yN:List Operand→Option (List AX)
 |[]=>some []
 |x::r=>do pure ((←cX x)::(←yN r))
def iA(P:Program)(t:TypeId):Option (Array Field):=match P.underlying t with|some (.struct fs)=>some fs|_=>none
def iB(P:Program)(t:TypeId):Option TypeId:=match P.underlying t with|some (.slice e)=>some e|_=>none
def mA:Option Operand→Option (Option AX)
 |none=>some none
 |some x=>(cX x).map some
def kN:BinOp→Option Bool
 |.eql=>some false
 |.neq=>some true
 |_=>none
def DM(P:Program)(t:TypeId):Option PK:=match P.underlying t with
 |some (.int _)=>some .i
 |some .string=>some .s
 |some .bool=>some .b
 |_=>none
def AA(P:Program):List Field→Option (List (Nat×PK))
 |[]=>some []
 |f::r=>match f.name != "_" with
  |true=>do pure ((f.offset,←DM P f.type)::(←AA P r))
  |false=>none
def HA(pk:PK):Nat→Nat→List (Nat×PK)
 |_,0=>[]
 |i,n+1=>(i,pk)::HA pk (i+1) n
def tR(P:Program)(e:TypeId):Bool:=match dK P e with
 |some 1=>true
 |_=>false
def vK(P:Program)(t:TypeId):Option (Nat×TypeId):=match P.underlying t with
 |some (.array n e)=>some (n,e)
 |_=>none
def lG(n:Nat):Operand→Option Nat
 |.const (.int _ (.ofNat k))=>match cU k n with
  |true=>some k
  |false=>none
 |_=>none
def aO5(P:Program)(k:TypeId):Bool:=match P.underlying k with
 |some (.int _)=>true
 |some .string=>true
 |some (.array _ _)=>laidOutB P&&(cU k P.types.size&&P.keyTypeAt 4 k)
 |some (.struct _)=>laidOutB P&&(cU k P.types.size&&P.keyTypeAt 4 k)
 |_=>false
def YI(P:Program)(t:TypeId):Option TypeId:=match P.underlying t with
 |some (.map k e)=>match P.underlying e,(P.info? e).bind (·.zero) with
  |some .bool,some (.bool false)=>match aO5 P k with
   |true=>some k
   |false=>none
  |_,_=>none
 |_=>none
def okK(P:Program)(k:TypeId)(v:Value):Bool:=(keyOf P k v).isSome
def WZ(op:BinOp)(k:IntKind):Bool:=match op with
 |.and|.or|.xor|.andNot|.shl|.shr=>true
 |.add|.sub|.mul=>match k with
  |.i64|.i32=>false
  |_=>true
 |_=>false
def nR(fn:Func):Option Bool:=
 match fn.body with
 |some _=>none
 |none=>
  match (match fn.name == "math/bits.Add64" with
   |true=>some false
   |false=>match fn.name == "math/bits.Sub64" with
    |true=>some true
    |false=>none) with
  |none=>none
  |some sub=>match (Extern.findNext fn).isNone with
   |true=>some sub
   |false=>none
def aXJ(sub:Bool)(a b n:Int):V:=
 match sub with
 |false=>.t [.c (.p (.i .u64 ((a+b+n)%18446744073709551616))),.c (.p (.i .u64 ((a+b+n) / 18446744073709551616)))]
 |true=>.t [.c (.p (.i .u64 ((a+18446744073709551616-b-n)%18446744073709551616))),.c (.p (.i .u64 (if a<b+n then 1 else 0)))]
def gY(P:Program):Op→Option rB
 |.move x|.assign x=>(cX x).map .mv
 |.pick c a b=>do pure (.pick (←cX c) (←cX a) (←cX b))
 |.alloc t=>(iE P t).map (.alloc t)
 |.box t x=>(cX x).map (.box t)
 |.build t ps=>do
  match P.underlying t with
  |some (.struct fs)=>do
   let places ←fs.toList.mapM (fun f=>(P.info? f.type).map fun i=>(f.offset,i.size))
   pure (.build (←iE P t) (←jI (fun i=>places[i]?) ps.toList))
  |some (.array _ e)=>do
   let s ←dK P e
   pure (.build (←iE P t) (←jI (fun i=>some (i*s,s)) ps.toList))
  |_=>none
 |.buildSlice t len ps=>do
  let e ←iB P t
  let s ←dK P e
  pure (.bsl e s len (←iE P e) (←jI (fun i=>some (i*s,s)) ps.toList))
 |.load t x=>do pure (.load (←gI P t) (←cX x))
 |.store t a v=>do pure (.store (←dK P t) (←cX a) (←cX v))
 |.binOp op t x y _=>match P.underlying t with
  |some (.int k)=>match WZ op k with
   |true=>do pure (.more (.binw op k (←cX x) (←cX y)))
   |false=>do pure (.bin op (←cX x) (←cX y))
  |some .string=>do pure (.bin op (←cX x) (←cX y))
  |some .bool=>do pure (.binb op (←cX x) (←cX y))
  |some (.struct fs)=>match P.stoodInHeld t||P.eqGuardType P.depth t,kN op with
   |false,some neg=>do pure (.eqs neg (←AA P fs.toList) (←cX x) (←cX y))
   |_,_=>none
  |some (.array n e)=>match P.eqGuardType P.depth t,kN op,tR P e with
   |false,some neg,true=>do pure (.eqs neg (HA (←DM P e) 0 n) (←cX x) (←cX y))
   |_,_,_=>none
  |some (.slice _)=>match kN op,y with
   |some neg,.const (.slice none 0 0)=>(cX x).map fun a=>.more (.nils neg a)
   |_,_=>none
  |_=>none
 |.unOp .not _ x=>(cX x).map .not
 |.unOp .neg t x=>match P.underlying t with
  |some (.int .u64)=>(cX x).map fun a=>.more (.negw .u64 a)
  |_=>(cX x).map .neg
 |.fieldAddr t x k=>do
  let f ←(←iA P t)[k]?
  match ←dK P f.type with
  |0=>none
  |_=>pure (.faddr f.offset (←cX x))
 |.field t x k=>do
  let f ←(←iA P t)[k]?
  pure (.fld f.offset (←gI P f.type) (←cX x))
 |.indexAddr t x i=>match vK P t with
  |some (n,e)=>match lG n i with
   |some k=>do
    let s ←dK P e
    pure (.faddr (k*s) (←cX x))
   |none=>match bS n 16 with
    |true=>do pure (.more (.faddrI (←dK P e) n (←cX x) (←cX i)))
    |false=>none
  |none=>do
   let e ←iB P t
   pure (.idxA (←dK P e) (←cX x) (←cX i))
 |.index t x i=>match P.underlying t with
  |some .string=>do pure (.idxS (←cX x) (←cX i))
  |some (.array n e)=>match bS n 16 with
   |true=>do pure (.more (.idxV (←dK P e) n (←gI P e) (←cX x) (←cX i)))
   |false=>none
  |_=>none
 |.extract x i=>do pure (.extr (←cX x) i)
 |.call c=>match c.callee with
  |.value (.func f)=>match P.funcs[f]? with
   |some fn=>if fn.body.isSome&&fn.name != "runtime.NumGoroutine" then (yN c.args.toList).map (.call f) else
    none
   |none=>none
  |.builtin .len=>match c.args.toList,c.argTypes.toList with
   |[x],[t]=>match P.underlying t with
    |some (.slice _)=>(cX x).map .len
    |some .string=>(cX x).map .lenS
    |_=>none
   |_,_=>none
  |.builtin .min=>match c.args.toList with
   |[x,y]=>do pure (.min (←cX x) (←cX y))
   |[x,y,z]=>do pure (.more (.min3 (←cX x) (←cX y) (←cX z)))
   |_=>none
  |.builtin .max=>match c.args.toList with
   |[x,y]=>do pure (.max (←cX x) (←cX y))
   |_=>none
  |.builtin .append=>match c.args.toList,c.argTypes.toList with
   |[x,y],[t,u]=>match bE t u with
    |true=>do
     let e ←iB P t
     pure (.app e (←dK P e) (←iC P e) (←iE P e) (←cX x) (←cX y))
    |false=>none
   |_,_=>none
  |_=>none
 |.makeSlice t l c=>do
  let e ←iB P t
  pure (.mksl e (←dK P e) (←iC P e) (←iE P e) (←cX l) (←cX c))
 |.slice t x lo hi none=>match P.underlying t with
  |some .string=>do pure (.slcS (←cX x) (←mA lo) (←mA hi))
  |some (.slice e)=>do pure (.slc (←dK P e) (←cX x) (←mA lo) (←mA hi))
  |some (.array n e)=>match dK P e,x,lo,hi with
   |some _,.global g,none,none=>match cU 0 n&&bS n 16777216 with
    |true=>some (.more (.gsl g n))
    |false=>none
   |_,_,_,_=>none
  |_=>none
 |.nilCheck x=>(cX x).map fun a=>.more (.nilc a)
 |.convert s t x=>match P.underlying s,P.underlying t with
  |some (.int _),some (.int k)=>(cX x).map fun a=>.more (.conv k a)
  |_,_=>none
 |.makeFunc f fs cs=>do pure (.mkfn f (←yN fs.toList) (←yN cs.toList))
 |.panic _=>some (.more .dead)
 |.makeInterface _ _=>some (.more .dead)
 |_=>none
def mC(ops:Array Oper):Option (Nat×Bool)→Option (Option (Nat×Bool))
 |none=>some none
 |some (j,want)=>((ops[j]?).bind (·.dst)).map fun d=>some (d,want)
def lE(P:Program)(ops:Array Oper)(o:Oper):Option AI:=do
 pure ⟨o.dst,←gY P o.op,←mC ops o.guard⟩
def fZ(P:Program)(ops:Array Oper):List Oper→Option (List AI)
 |[]=>some []
 |o::r=>do pure ((←lE P ops o)::(←fZ P ops r))
def AX.sl:AX→List Nat
 |.t j=>[j]
 |.k _=>[]
def BG:List AX→List Nat
 |[]=>[]
 |x::r=>x.sl++BG r
def OZ:List (Nat×Nat×AX)→List Nat
 |[]=>[]
 |(_,_,x)::r=>x.sl++OZ r
def slO:Option AX→List Nat
 |some x=>x.sl
 |none=>[]
def SS.sls:SS→List Nat
 |.carry _ x y c=>x.sl++(y.sl++c.sl)
 |.min3 x y c=>x.sl++(y.sl++c.sl)
 |.nilc x|.conv _ x|.negw _ x|.nils _ x|.capn x=>x.sl
 |.lookl _ x y|.eqp _ x y|.faddrI _ _ x y|.idxV _ _ _ x y|.binw _ _ x y=>x.sl++y.sl
 |_=>[]
def rB.sls:rB→List Nat
 |.mv x|.box _ x|.load _ x|.not x|.neg x|.faddr _ x|.fld _ _ x|.extr x _|.len x|.lenS x=>x.sl
 |.bin _ x y|.binb _ x y|.eqs _ _ x y|.idxA _ x y|.idxS x y|.min x y|.max x y=>x.sl++y.sl
 |.pick c a b=>c.sl++(a.sl++b.sl)
 |.build _ ps|.bsl _ _ _ _ ps=>OZ ps
 |.call _ xs=>BG xs
 |.slc _ x lo hi|.slcS x lo hi=>x.sl++(slO lo++slO hi)
 |.app _ _ _ _ x y=>x.sl++y.sl
 |.look _ _ x y=>x.sl++y.sl
 |.more o=>o.sls
 |_=>[]
def SS.hd:SS→Bool
 |.conv .. | .binw .. | .negw .. | .faddrI .. | .eqp .. | .nilc .. | .carry .. | .capn .. | .lookl .. | .gsl .. | .min3 .. | .idxV .. => true
 |_=>false
def rB.hd:rB→Bool
 |.store .. | .app .. | .mksl .. | .mkmap .. | .mkmapN .. | .mkfn .. | .mset .. => false
 |.more o=>o.hd
 |_=>true
def rB.nw:rB→Bool
 |.alloc .. | .box .. | .bsl .. => true
 |_=>false
def AI.sls(x:AI):List Nat:=(match x.guard with|some (j,_)=>[j]|none=>[])++x.op.sls
def IL{α:Type}(f:α→Bool):List α→Bool
 |[]=>false
 |x::r=>f x||IL f r
def aC1{α:Type}(f:α→Bool):List α→Bool
 |[]=>true
 |x::r=>f x&&aC1 f r
def qB{α:Type}(f:Nat→α→Bool):Nat→List α→Bool
 |_,[]=>true
 |i,x::r=>f i x&&qB f (i+1) r
def aK2{α:Type}(f:Nat→α→Bool):Nat→List α→Bool
 |_,[]=>false
 |i,x::r=>f i x||aK2 f (i+1) r
def tC(o:Oper)(j:Nat):Bool:=IL (fun e=>eO .any e&&bE e.on j) o.after.toList
def qA(s:Nat):List Nat→Bool
 |[]=>false
 |x::r=>bE x s||qA s r
def eqD:Option Nat→Option Nat→Bool
 |some x,some y=>bE x y
 |_,_=>false
def inD:Option Nat→List Nat→Bool
 |some x,l=>qA x l
 |none,_=>false
def PF(os:List Oper)(al:List AI)(n:Nat):Bool:=
 qB (fun i o=>aC1 (fun e => !eO .any e||cU e.on i) o.after.toList) 0 os &&
 (qB (fun i x=>bS n i||x.op.hd) 0 al &&
 (qB (fun i x=>bS n i||qB (fun j y=>bS n j||(bE i j || !eqD x.dst y.dst)) 0 al) 0 al &&
 (qB (fun i x=>bS n i||qB (fun j y=>bS n j||(!inD y.dst x.sls||(IL (fun o=>tC o j) ((os.drop i).take 1)||IL (fun o=>tC o i) ((os.drop j).take 1)))) 0 al) 0 al &&
 (bS (fK os) n ||
  (qB (fun i _=>bS n i||IL (fun o=>tC o i) (((os.drop (i+1)).take (n-i)))) 0 os &&
  qB (fun t o=>bS t n||tC o (t-1)) 0 os)))))
def aKD(os:List Oper)(n:Nat):Bool:=bS (fK os) n||qB (fun t o=>bS t n||tC o (t-1)) 0 os
def ZB(os:List Oper)(al:List AI):Nat→Nat→Option Nat
 |0,_=>none
 |f+1,n=>match aKD os n&&PF os al n with
  |true=>some n
  |false=>ZB os al f (n+1)
def rB.ltk:rB→Bool
 |.mv .. | .bin .. | .faddr .. | .idxA .. | .fld .. | .load .. => true
 |_=>false
def rB.isApp:rB→Bool
 |.app .. => true
 |_=>false
def chB(os:List Oper)(n:Nat):Nat→List Bool
 |0=>[true]
 |d+1=>let r:=chB os n d
  aK2 (fun j b=>b&&IL (fun o=>tC o (n-(d+1))) ((os.drop (n-d+j)).take 1)) 0 r::r
def nog:Option (Nat×Bool)→Bool
 |none=>true
 |_=>false
def isS:Option Nat→Bool
 |some _=>true
 |none=>false
def aPX(os:List Oper)(al:List AI)(n:Nat):Bool:=
 qB (fun i o=>aC1 (fun e => !eO .any e||cU e.on i) o.after.toList) 0 os &&
 (qB (fun i x=>bS n i||x.op.hd) 0 al &&
 (qB (fun i x=>cU n i||qB (fun j y=>cU n j||(bE i j || !eqD x.dst y.dst)) 0 al) 0 al &&
 (qB (fun i x=>cU n i||qB (fun j y=>cU n j||(!inD y.dst x.sls||IL (fun o=>tC o j) ((os.drop i).take 1))) 0 al) 0 al &&
 (qB (fun i x=>bS n i||(bN false (chB os n n) i||(x.op.ltk&&nog x.guard))) 0 al &&
 (IL (fun x=>x.op.isApp&&(nog x.guard&&isS x.dst)) ((al.drop n).take 1) &&
 (qB (fun i _=>cU n i||aC1 (fun o=>tC o i) ((os.drop (n+1)).take 1)) 0 os &&
   qB (fun t o=>bS t (n+1)||tC o (t-1)) 0 os))))))
def AY(os:List Oper)(al:List AI):Nat→Nat→Option Nat
 |0,_=>none
 |f+1,n=>match aKD os (n+1)&&aPX os al n with
  |true=>some n
  |false=>AY os al f (n+1)
def dH{α:Type}:Nat→List α→List α
 |0,_=>[]
 |_,[]=>[]
 |n+1,x::r=>x::dH n r
def bJ{α:Type}:Nat→List α→List α
 |0,l=>l
 |_,[]=>[]
 |n+1,_::r=>bJ n r
def oO{α:Type}:List Bool→List α→List α
 |true::bs,x::r=>x::oO bs r
 |false::bs,_::r=>oO bs r
 |_,_=>[]
def SH(P:Program)(ops:Array Oper):Bool→Option dA
 |false=>(fZ P ops ops.toList).map .reg
 |true=>match P.follows .mixedOrders with
  |true=>do
   let al ←fZ P ops ops.toList
   match ZB ops.toList al (fK al+1) 0 with
   |some n=>pure (.regd (dH n al) (bJ n al))
   |none=>none
  |false=>none
def dB(P:Program):Code→Option dA
 |.skip=>some .skip
 |.region id ops draw=>match SH P ops draw with
  |some c=>some c
  |none=>some (.raw (.region id ops draw))
 |.seq a b=>do pure (.seq (←dB P a) (←dB P b))
 |.cond x a b=>do pure (.cond (←cX x) (←dB P a) (←dB P b))
 |.block id a=>(dB P a).map (.block id)
 |.loop a=>(dB P a).map .loop
 |.exit id=>some (.exit id)
 |.ret=>some .ret
 |.scope a=>dB P a
 |.label _=>some .skip
 |_=>none
inductive X where
 |normal
 |exit (id:Nat)
 |ret
inductive Tr where
 |fail
 |rq (p:Prop) (k:Tr)
 |alt (p q:Tr)
 |loop (a:dA) (st:St) (k:X→St→Tr)
 |done (e:X) (st:St)
def bT(x:Bool)(p q:Tr):Tr:=match x with|true=>p|false=>q
def oN(b:Bool)(p:Tr):Tr:=match b with|true=>p|false=>.fail
def St.ev(st:St):AX→V
 |.t k=>bN (.c .top) st.t k
 |.k v=>v
def vS(st:St):List AX→List V
 |[]=>[]
 |x::r=>st.ev x::vS st r
def iP:List PV→List C
 |[]=>[]
 |x::r=>.p x::iP r
def V.cells?:V→Option (List C)
 |.c x=>some [x]
 |.a cs=>some cs
 |.t _=>none
def kZ:C→Bool
 |.top=>false
 |.own .. => false
 |.p (.z v)=>v.oneCell'
 |_=>true
def hH:List C→Bool
 |[]=>true
 |c::r=>kZ c&&hH r
def jK:List C→Nat→List C→List C
 |vs,_,[]=>vs
 |vs,o,c::cs=>jK (upd c vs o) (o+1) cs
def jL(st:St):List C→List (Nat×Nat×AX)→Option (List C)
 |vs,[]=>some vs
 |vs,(o,s,x)::r=>match (st.ev x).cells? with
  |some cs=>match bE (fK cs) s&&bS (o+s) (fK vs)&&hH cs with
   |true=>jL st (jK vs o cs) r
   |false=>none
  |none=>none
def vH(z:List C):Nat→List C
 |0=>[]
 |n+1=>z++vH z n
def inR(k:IntKind)(n:Int):Prop:=match k with
 |.i64 => -9223372036854775808≤n∧n≤9223372036854775807
 |.u64=>0≤n∧n≤18446744073709551615
 |.i32 => -2147483648≤n∧n≤2147483647
 |.u8=>0≤n∧n≤255
 |_=>False
def kEq:IntKind→IntKind→Bool
 |.i64,.i64=>true
 |.u64,.u64=>true
 |.u8,.u8=>true
 |.i32,.i32=>true
 |.u32,.u32=>true
 |_,_=>false
def jJ(s:ByteArray)(k:Nat):Int:=((s.data.toList.getD k 0).toNat:Int)
def IK(op:BinOp)(k:IntKind)(a b:Int)(K:PV→Tr):Tr:=match op with
 |.add=>.rq (inR k (a+b)) (K (.i k (a+b)))
 |.sub=>.rq (inR k (a-b)) (K (.i k (a-b)))
 |.mul=>.rq (inR k (a*b)) (K (.i k (a*b)))
 |.quo=>.rq (0≤a∧0<b∧inR k (a / b)) (K (.i k (a / b)))
 |.rem=>.rq (0≤a∧0<b) (K (.i k (a%b)))
 |.eql=>K (.b (a==b))
 |.neq=>K (.b (a != b))
 |.lss=>K (.b (decide (a<b)))
 |.leq=>K (.b (decide (a≤b)))
 |.gtr=>K (.b (decide (b<a)))
 |.geq=>K (.b (decide (b≤a)))
 |_=>.fail
def IJ(op:BinOp)(a b:ByteArray)(K:PV→Tr):Tr:=match op with
 |.add=>.rq (a.size+b.size≤9223372036854775807) (K (.s (a++b)))
 |.eql=>K (.b (a.toList==b.toList))
 |.neq=>K (.b (!(a.toList==b.toList)))
 |.lss=>K (.b (eS a.toList b.toList))
 |.leq=>K (.b (eS a.toList b.toList||a.toList==b.toList))
 |.gtr=>K (.b (!(eS a.toList b.toList||a.toList==b.toList)))
 |.geq=>K (.b (!(eS a.toList b.toList)))
 |_=>.fail
def aBW(op:BinOp)(a b:Bool)(K:PV→Tr):Tr:=match op with
 |.eql=>K (.b (a==b))
 |.neq=>K (.b (!(a==b)))
 |_=>.fail
def pV(xs ys:List C):List (Nat×PK)→(Bool→Tr)→Tr
 |[],k=>k true
 |(o,pk)::r,k=>match pk,bN .top xs o,bN .top ys o with
  |.i,.p (.i k1 a),.p (.i k2 b)=>oN (kEq k1 k2) (pV xs ys r fun c=>k ((a==b)&&c))
  |.s,.p (.s a),.p (.s b)=>pV xs ys r fun c=>k ((a.toList==b.toList)&&c)
  |.b,.p (.b a),.p (.b b)=>pV xs ys r fun c=>k ((a==b)&&c)
  |_,_,_=>.fail
def aCI{α:Type}(f:Nat→α)(o:Nat):Nat→List α
 |0=>[]
 |n+1=>f o::aCI f (o+1) n
def BZ(f:Nat→C)(o:Nat):Option Nat→V
 |none=>.c (f o)
 |some n=>.a (aCI f o n)
def gZ:Option Nat→Nat
 |none=>1
 |some n=>n
def aJQ(st:St)(ty:TypeId)(sz:Nat)(x:AX)(k:Nat→(Nat→Nat→C)→Option Nat→Tr):Tr:=match st.ev x with
 |.c (.p (.z (.slice none 0 0)))=>k 0 (fun _ _=>.top) none
 |.c (.sl id sz' off len)=>match bN .gone st.h id with
  |.row ty' sz'' m f=>oN (bE sz sz'&&bE sz sz''&&bE ty ty') (.rq (len=m) (k m f (some id)))
  |_=>.fail
 |_=>.fail
def aCM(st:St)(sz:Nat)(x:AX)(k:Nat→(Nat→Nat→C)→Tr):Tr:=match st.ev x with
 |.c (.p (.z (.slice none 0 0)))=>k 0 (fun _ _=>.top)
 |.c (.p (.l sz' m f))=>oN (bE sz sz') (k m fun e o=>.p (f e o))
 |.c (.sl id sz' off len)=>match bN .gone st.h id with
  |.row _ sz'' m f=>oN (bE sz sz'&&bE sz sz'') (.rq (off+len≤m) (k len fun e o=>f (e+off) o))
  |_=>.fail
 |_=>.fail
def xX(st:St)(d:Nat)(x:Option AX)(k:Int→Tr):Tr:=match x with
 |none=>k d
 |some ax=>match st.ev ax with
  |.c (.p (.i _ n))=>k n
  |_=>.fail
def nD(h:List AO):Option Nat→List AO
 |none=>h
 |some id=>upd .gone h id
def CU:List C→Option (List ByteArray)
 |[]=>some []
 |.p (.s x)::r=>match CU r with
  |some l=>some (x::l)
  |none=>none
 |_=>none
def rR(cs:List C)(sz len:Nat):Nat→Nat→C:=match bE sz 1&&bS 2 len with
 |true=>match CU cs with
  |some ss=>fun e _=>.p (.s (bN ⟨#[]⟩ ss e))
  |none=>fun e o=>bN .top cs (e*sz+o)
 |false=>fun e o=>bN .top cs (e*sz+o)
theorem CT:∀ {cs:List C} {ss:List ByteArray},CU cs=some ss→∀i,i<cs.length→bN .top cs i=.p (.s (bN ⟨#[]⟩ ss i))
 |[],_,_,i,hi=>absurd hi (Nat.not_lt_zero _)
 |c::r,ss,h,i,hi=>by
  unfold CU at h;split at h
  ·cases ‹c::r=[]›
  ·rename_i x r' heq
   injection heq with e1 e2;subst e1;subst e2;split at h
   ·rename_i l hl
    injection h with h;subst h;cases i with
    |zero=>rfl
    |succ i=>exact CT hl i (by simpa using hi)
   ·cases h
  ·cases h
theorem ZI{cs:List C}{sz len e o:Nat}(ho:o<sz)(hl:e*sz+o<cs.length):rR cs sz len e o=bN .top cs (e*sz+o):=by
 unfold rR;cases hb:(bE sz 1&&bS 2 len) with
 |false=>rfl
 |true=>
  cases hs:CU cs with
  |none=>rfl
  |some ss=>
   rw[aY]at hb
   have h1:=aH hb.1
   subst h1
   obtain rfl:o=0:=by omega
   rw[CT hs _ hl,Nat.mul_one,Nat.add_zero]
def iZ(n:Nat)(f g:Nat→Nat→C)(e o:Nat):C:=if e<n then f e o else g (e-n) o
def aNQ(st:St)(x:AX)(p q:Tr):Tr:=match st.ev x with
 |.c (.sl _ _ off _)=>bT (bE off 0) p q
 |_=>p
def aOX(st:St)(K:V→List AO→Tr)(ty:TypeId)(sz bytes:Nat)(x y:AX):Tr:=match st.ev x with
 |.c (.sl id sz' off len)=>match bN .gone st.h id with
  |.row ty' sz'' m f=>oN (bE sz sz'&&bE sz sz''&&bE ty ty') (.rq (off+len=m∧∀e o,e<m→o<sz→kZ (f e o)=true) (aCM st sz y fun l g=>
   .rq ((len+l)*bytes≤140737488355328∧len+l≤140737488355328∧∀e o,e<l→o<sz→kZ (g e o)=true)
    (.alt (K (.c (.sl (fK st.h) sz off (len+l))) (iF (.row ty sz (off+len+l) (iZ (off+len) f g)) (upd .gone st.h id)))
     (K (.c (.sl (fK st.h) sz 0 (len+l))) (iF (.row ty sz (len+l) (iZ len (fun e o=>f (e+off) o) g)) (upd .gone st.h id))))))
  |_=>.fail
 |_=>.fail
def aEU:C→Option Value
 |.p (.i k n)=>some (.int k n)
 |.p (.s s)=>some (.string s)
 |.p (.b b)=>some (.bool b)
 |_=>none
def QV:List C→Option (List Value)
 |[]=>some []
 |c::r=>match aEU c with
  |some v=>match QV r with
   |some vs=>some (v::vs)
   |none=>none
  |none=>none
def aB4:V→Option Value
 |.c x=>aEU x
 |.a cs=>match QV cs with
  |some vs=>some (.agg vs.toArray)
  |none=>none
 |.t _=>none
open Classical in
noncomputable def aCP(g:Value→Option Bool)(k:Value)(x:Bool):Value→Option Bool:=fun k'=>if k'=k then some x else g k'
def pN(st:St):rB→Bool
 |.more _=>false
 |.look .. => false
 |.load _ x=>match st.ev x with
  |.c (.ptr _ _)=>true
  |.c (.lp ..)=>true
  |_=>false
 |_=>true
def bsV:List V→Option (List B)
 |[]=>some []
 |.c (.p x)::r=>match bsV r with
  |some l=>some (.p x::l)
  |none=>none
 |.c (.ptr id off)::r=>match bsV r with
  |some l=>some (.ptr id off::l)
  |none=>none
 |_::_=>none
def aIO:V→Option Bool
 |.c (.p (.z (.pointer none)))=>some true
 |.c (.ptr ..)=>some false
 |.c (.rp ..)=>some false
 |.c (.lp ..)=>some false
 |_=>none
def aFX(x y:V)(k:Bool→Tr):Tr:=match aIO x,aIO y with
 |some true,some b=>k b
 |some b,some true=>k b
 |_,_=>.fail
def ixT(k:Int):Nat→Nat→(Nat→Tr)→Tr
 |0,_,_=>.fail
 |1,j,K=>K j
 |n+2,j,K=>bT (decide (k=(j:Int))) (K j) (ixT k (n+1) (j+1) K)
def SJ(op:BinOp)(k:IntKind)(a:Int)(k2:IntKind)(b:Int)(K:Int→Tr):Tr:=match op with
 |.add=>oN (kEq k k2) (K (k.wrap (a+b)))
 |.sub=>oN (kEq k k2) (K (k.wrap (a-b)))
 |.mul=>oN (kEq k k2) (K (k.wrap (a*b)))
 |.and=>oN (kEq k k2) (K (k.wrap (dW k.bits a &&& dW k.bits b).toNat))
 |.or=>oN (kEq k k2) (K (k.wrap (dW k.bits a ||| dW k.bits b).toNat))
 |.xor=>oN (kEq k k2) (K (k.wrap (dW k.bits a ^^^ dW k.bits b).toNat))
 |.shl=>.rq (0≤b) (K (k.wrap (a*2^(min b.toNat k.bits))))
 |.shr=>.rq (0≤b) (K (a.fdiv (2^(min b.toNat k.bits))))
 |_=>.fail
def jR(st:St)(K:V→List AO→Tr):SS→Tr
 |.mkmapl ok ty sz=>K (.c (.mp (fK st.h))) (iF (.mapl ok ty sz (fun _=>(0,fun _ _=>.b false)) none) st.h)
 |.lookl ok2 x k=>match st.ev x with
  |.c (.mp id)=>match bN .gone st.h id with
   |.mapl ok _ _ _ (some (k0,c))=>match aB4 (st.ev k) with
    |some kv=>oN (kZ c) (.rq ((ok=ok2∧ok kv=true)∧kv=k0) (K (.c c) st.h))
    |none=>.fail
   |_=>.fail
  |_=>.fail
 |.msetl ok2 x k v=>match st.ev x with
  |.c (.mp id)=>match bN .gone st.h id with
   |.mapl ok ty sz g (some (k0,_))=>match aB4 (st.ev k),st.ev v with
    |some kv,.c c=>oN (kZ c) (.rq ((ok=ok2∧ok kv=true)∧kv=k0) (K (.t []) (upd (.mapl ok ty sz g (some (k0,c))) st.h id)))
    |_,_=>.fail
   |_=>.fail
  |_=>.fail
 |.nilc x=>match st.ev x with
  |.c (.ptr id off)=>K (.c (.ptr id off)) st.h
  |.c (.rp id sz e o)=>K (.c (.rp id sz e o)) st.h
  |.c (.lp sz n f e o)=>K (.c (.lp sz n f e o)) st.h
  |.c (.fn f fs cs)=>match f with
   |.func g=>K (.c (.fn (.func g) fs cs)) st.h
   |_=>.fail
  |_=>.fail
 |.eqp neg x y=>aFX (st.ev x) (st.ev y) fun b=>K (.c (.p (.b (match neg with|true => !b|false=>b)))) st.h
 |.conv k x=>match st.ev x with
  |.c (.p (.i _ n))=>K (.c (.p (.i k (k.wrap n)))) st.h
  |_=>.fail
 |.negw k x=>match st.ev x with
  |.c (.p (.i k1 n))=>oN (kEq k k1) (K (.c (.p (.i k (k.wrap (-n))))) st.h)
  |_=>.fail
 |.carry sub x y c=>match st.ev x,st.ev y,st.ev c with
  |.c (.p (.i .u64 a)),.c (.p (.i .u64 b)),.c (.p (.i .u64 n))=>.rq (0≤a∧(0≤b∧b<18446744073709551616)∧0≤n∧n≤1) (K (aXJ sub a b n) st.h)
  |_,_,_=>.fail
 |.min3 x y c=>match st.ev x,st.ev y,st.ev c with
  |.c (.p (.i k a)),.c (.p (.i _ b)),.c (.p (.i _ n))=>K (.c (.p (.i k (if n<(if b<a then b else a) then n else (if b<a then b else a))))) st.h
  |_,_,_=>.fail
 |.dead=>.fail
 |.gsl g n=>K (.c (.p (.z (.slice (some ⟨g,0,none⟩) n n)))) st.h
 |.nils neg x=>match st.ev x with
  |.c (.p (.z (.slice none 0 0)))=>K (.c (.p (.b (match neg with|true=>false|false=>true)))) st.h
  |.c (.p (.l _ n _))=>bT (decide (0<n)) (K (.c (.p (.b neg))) st.h) (.alt (K (.c (.p (.b true))) st.h) (K (.c (.p (.b false))) st.h))
  |.c (.sl _ _ _ n)=>bT (decide (0<n)) (K (.c (.p (.b neg))) st.h) (.alt (K (.c (.p (.b true))) st.h) (K (.c (.p (.b false))) st.h))
  |_=>.fail
 |.capn x=>match st.ev x with
  |.c (.p (.z (.slice none 0 0)))=>K (.c (.p (.i .i64 0))) st.h
  |_=>.fail
 |.appz ty sz bytes z x y=>match st.ev x,st.ev y with
  |.c (.p (.z (.slice none 0 0))),.c (.p (.i _ n))=>oN (cU 0 sz&&bE (fK z) sz) (.rq (0<n∧n*bytes≤140737488355328∧n≤140737488355328)
   (K (.c (.sl (fK st.h) sz 0 n.toNat)) (iF (.row ty sz n.toNat fun _ o=>.p (bN (.b false) z o)) st.h)))
  |_,_=>.fail
 |.clr sz z x=>match st.ev x with
  |.c (.p (.z (.slice none 0 0)))=>K (.t []) st.h
  |.c (.sl id sz' off len)=>match bN .gone st.h id with
   |.row ty sz2 m f=>oN (bE sz sz'&&bE sz sz2&&cU 0 sz&&bE (fK z) sz&&hH (iP z)) (.rq (off+len≤m) (K (.t []) (upd (.row ty sz2 m fun e o=>if off≤e∧e<off+len then .p (bN (.b false) z o) else f e o) st.h id)))
   |_=>.fail
  |_=>.fail
 |.binw op k x y=>match st.ev x,st.ev y with
  |.c (.p (.i k1 a)),.c (.p (.i k2 b))=>oN (kEq k k1) (SJ op k a k2 b fun n=>K (.c (.p (.i k n))) st.h)
  |_,_=>.fail
 |.faddrI sz n x i=>match st.ev x,st.ev i with
  |.c (.ptr id o),.c (.p (.i _ k))=>.rq (0≤k∧k<n) (ixT k n 0 fun j=>K (.c (.ptr id (o+j*sz))) st.h)
  |_,_=>.fail
 |.idxV sz n m x i=>match st.ev x,st.ev i with
  |.a cs,.c (.p (.i _ k))=>oN (bE (gZ m) sz&&bS (n*sz) (fK cs)) (.rq (0≤k∧k<n) (ixT k n 0 fun j=>K (BZ (bN .top cs) (j*sz) m) st.h))
  |_,_=>.fail
noncomputable def gL(Fn:FuncId→List V→List AO→(V→List AO→Tr)→Tr)(st:St)(K:V→List AO→Tr):rB→Tr
 |.mv x=>K (st.ev x) st.h
 |.pick c a b=>match st.ev c with
  |.c (.p (.b x))=>bT x (K (st.ev a) st.h) (K (st.ev b) st.h)
  |_=>.fail
 |.alloc ty z=>K (.c (.ptr (fK st.h) 0)) (iF (.cells ty (iP z)) st.h)
 |.box ty x=>match (st.ev x).cells? with
  |some cs=>oN (hH cs) (K (.c (.ptr (fK st.h) 0)) (iF (.cells ty cs) st.h))
  |none=>.fail
 |.build z ps=>match jL st (iP z) ps with
  |some cs=>K (.a cs) st.h
  |none=>.fail
 |.bsl ty sz len z ps=>match jL st (vH (iP z) len) ps with
  |some cs=>oN (bE (fK z) sz&&cU 0 sz&&bS (len*sz) 16777216)<|K (.c (.sl (fK st.h) sz 0 len)) (iF (.row ty sz len (rR cs sz len)) st.h)
  |none=>.fail
 |.load n x=>match st.ev x with
  |.c (.ptr id off)=>match bN .gone st.h id with
   |.cells _ vs=>oN (bS (off+gZ n) (fK vs)) (K (BZ (bN .top vs) off n) st.h)
   |.pin j _=>match bN .gone st.h j with
    |.cells _ vs=>oN (bS (off+gZ n) (fK vs)) (K (BZ (bN .top vs) off n) st.h)
    |_=>.fail
   |_=>.fail
  |.c (.rp id sz e o)=>match bN .gone st.h id with
   |.row _ sz' m f=>.rq (e<m) (oN (bE sz sz'&&bS (o+gZ n) sz) (K (BZ (f e) o n) st.h))
   |.foc _ sz' _ e0 vs _=>.rq (e=e0) (oN (bE sz sz'&&bS (o+gZ n) sz) (K (BZ (bN .top vs) o n) st.h))
   |_=>.fail
  |.c (.lp sz _ f e o)=>oN (bS (o+gZ n) sz&&cU 0 (gZ n)) (K (BZ (fun j=>.p (f e j)) o n) st.h)
  |_=>.fail
 |.store n a v=>match (st.ev v).cells? with
  |some cs=>match st.ev a with
   |.c (.ptr id off)=>match bN .gone st.h id with
    |.cells ty vs=>oN (bE (fK cs) n&&bS (off+n) (fK vs)&&hH cs) (K (.t []) (upd (.cells ty (jK vs off cs)) st.h id))
    |.pin j _=>match bN .gone st.h j with
     |.cells ty vs=>oN (bE (fK cs) n&&bS (off+n) (fK vs)&&hH cs) (K (.t []) (upd (.cells ty (jK vs off cs)) st.h j))
     |_=>.fail
    |_=>.fail
   |.c (.rp id sz e o)=>match bN .gone st.h id with
    |.row ty sz' m f=>.rq (e<m) (oN (bE (fK cs) n&&bE sz sz'&&bS (o+n) sz&&hH cs) (K (.t []) (upd (.row ty sz' m fun e' o'=>if e'=e then (if o≤o'∧o'<o+n then bN .top cs (o'-o) else f e' o') else f e' o') st.h id)))
    |.foc ty sz' m e0 vs f=>.rq (e=e0) (oN (bE (fK cs) n&&bE sz sz'&&bS (o+n) sz&&hH cs) (K (.t []) (upd (.foc ty sz' m e0 (jK vs o cs) f) st.h id)))
    |_=>.fail
   |_=>.fail
  |none=>.fail
 |.bin op x y=>match st.ev x,st.ev y with
  |.c (.p (.i k a)),.c (.p (.i k' b))=>oN (kEq k k') (IK op k a b fun v=>K (.c (.p v)) st.h)
  |.c (.p (.s a)),.c (.p (.s b))=>IJ op a b fun v=>K (.c (.p v)) st.h
  |_,_=>.fail
 |.binb op x y=>match st.ev x,st.ev y with
  |.c (.p (.b a)),.c (.p (.b b))=>aBW op a b fun v=>K (.c (.p v)) st.h
  |_,_=>.fail
 |.eqs neg fs x y=>match st.ev x,st.ev y with
  |.a xs,.a ys=>pV xs ys fs fun b=>K (.c (.p (.b (match neg with|true => !b|false=>b)))) st.h
  |_,_=>.fail
 |.not x=>match st.ev x with
  |.c (.p (.b a))=>K (.c (.p (.b (!a)))) st.h
  |_=>.fail
 |.neg x=>match st.ev x with
  |.c (.p (.i k a))=>.rq (inR k (-a)) (K (.c (.p (.i k (-a)))) st.h)
  |_=>.fail
 |.faddr off x=>match st.ev x with
  |.c (.ptr id o)=>K (.c (.ptr id (o+off))) st.h
  |.c (.rp id sz e o)=>K (.c (.rp id sz e (o+off))) st.h
  |.c (.lp sz n f e o)=>K (.c (.lp sz n f e (o+off))) st.h
  |_=>.fail
 |.fld off n x=>match st.ev x with
  |.a cs=>oN (bS (off+gZ n) (fK cs)) (K (BZ (bN .top cs) off n) st.h)
  |_=>.fail
 |.idxA sz x i=>match st.ev i with
  |.c (.p (.i _ n))=>match st.ev x with
   |.c (.p (.l sz' m f))=>oN (bE sz sz') (.rq (0≤n∧n<m) (K (.c (.lp sz' m f n.toNat 0)) st.h))
   |.c (.sl id sz' off len)=>oN (bE sz sz') (.rq (0≤n∧n<len) (K (.c (.rp id sz' (n.toNat+off) 0)) st.h))
   |_=>.fail
  |_=>.fail
 |.idxS x i=>match st.ev i with
  |.c (.p (.i _ n))=>match st.ev x with
   |.c (.p (.s s))=>.rq (0≤n∧n<s.size) (K (.c (.p (.i .u8 (jJ s n.toNat)))) st.h)
   |_=>.fail
  |_=>.fail
 |.extr x i=>match st.ev x with
  |.t vs=>oN (cU i (fK vs)) (K (bN (.c .top) vs i).up st.h)
  |_=>.fail
 |.call f args=>Fn f (vS st args) st.h K
 |.len x=>match st.ev x with
  |.c (.p (.l _ n _))=>K (.c (.p (.i .i64 n))) st.h
  |.c (.p (.z (.slice none 0 0)))=>K (.c (.p (.i .i64 0))) st.h
  |.c (.sl _ _ _ n)=>K (.c (.p (.i .i64 n))) st.h
  |_=>.fail
 |.lenS x=>match st.ev x with
  |.c (.p (.s s))=>K (.c (.p (.i .i64 s.size))) st.h
  |_=>.fail
 |.min x y=>match st.ev x,st.ev y with
  |.c (.p (.i k a)),.c (.p (.i _ b))=>K (.c (.p (.i k (if b<a then b else a)))) st.h
  |_,_=>.fail
 |.max x y=>match st.ev x,st.ev y with
  |.c (.p (.i k a)),.c (.p (.i _ b))=>K (.c (.p (.i k (if a<b then b else a)))) st.h
  |_,_=>.fail
 |.app ty sz bytes z x y=>oN (cU 0 sz&&bE (fK z) sz)<|aNQ st x (aJQ st ty sz x fun n f old=>aCM st sz y fun m g=>
  .rq ((n+m)*bytes≤140737488355328∧n+m≤140737488355328∧∀e o,e<m→o<sz→kZ (g e o)=true)
   (K (.c (.sl (fK st.h) sz 0 (n+m))) (iF (.row ty sz (n+m) (iZ n f g)) (nD st.h old)))) (aOX st K ty sz bytes x y)
 |.mksl ty sz bytes z x y=>match st.ev x,st.ev y with
  |.c (.p (.i _ l)),.c (.p (.i _ c))=>oN (cU 0 sz&&bE (fK z) sz) (.rq (0≤l∧l≤c∧c*bytes≤140737488355328∧c≤140737488355328)
   (K (.c (.sl (fK st.h) sz 0 l.toNat)) (iF (.row ty sz l.toNat fun _ o=>.p (bN (.b false) z o)) st.h)))
  |_,_=>.fail
 |.slc sz x lo hi=>match st.ev x with
  |.c (.sl id sz' off len)=>oN (bE sz sz') (xX st len hi fun h=>xX st 0 lo fun l=>.rq (0≤l∧l≤h∧h≤len) (K (.c (.sl id sz' (off+l.toNat) (h.toNat-l.toNat))) st.h))
  |.c (.p (.l sz' n f))=>oN (bE sz sz') (xX st n hi fun h=>xX st 0 lo fun l=>.rq (0≤l∧l≤h∧h≤n) (K (.c (.p (.l sz' (h.toNat-l.toNat) fun e o=>f (e+l.toNat) o))) st.h))
  |.c (.p (.z (.slice none 0 0)))=>xX st 0 hi fun h=>xX st 0 lo fun l=>.rq (l=0∧h=0) (K (.c (.p (.z (.slice none 0 0)))) st.h)
  |_=>.fail
 |.slcS x lo hi=>match st.ev x with
  |.c (.p (.s s))=>xX st s.size hi fun h=>xX st 0 lo fun l=>.rq (0≤l∧l≤h∧h≤s.size) (K (.c (.p (.s (s.extract l.toNat h.toNat)))) st.h)
  |_=>.fail
 |.mkmap ok=>K (.c (.mp (fK st.h))) (iF (.mapb ok fun _=>none) st.h)
 |.mkmapN ok x=>match st.ev x with
  |.c (.p (.i _ _))=>K (.c (.mp (fK st.h))) (iF (.mapb ok fun _=>none) st.h)
  |_=>.fail
 |.mkfn f fs cs=>match bsV (vS st fs),bsV (vS st cs) with
  |some xs,some ys=>K (.c (.fn f xs ys)) st.h
  |_,_=>.fail
 |.look ok2 two x k=>match st.ev x with
  |.c (.mp id)=>match bN .gone st.h id with
   |.mapb ok g=>match aB4 (st.ev k) with
    |some kv=>.rq (ok=ok2∧ok kv=true) (K (match two with
     |true=>.t [.c (.p (.b ((g kv).getD false))),.c (.p (.b (g kv).isSome))]
     |false=>.c (.p (.b ((g kv).getD false)))) st.h)
    |none=>.fail
   |_=>.fail
  |_=>.fail
 |.mset ok2 x k v=>match st.ev x with
  |.c (.mp id)=>match bN .gone st.h id with
   |.mapb ok g=>match aB4 (st.ev k),st.ev v with
    |some kv,.c (.p (.b b))=>.rq (ok=ok2∧ok kv=true) (K (.t []) (upd (.mapb ok (aCP g kv b)) st.h id))
    |_,_=>.fail
   |_=>.fail
  |_=>.fail
 |.more o=>jR st K o
def oP(t:List V)(d:Option Nat)(v:V):List V:=match d with
 |some d=>upd v t d
 |none=>t
noncomputable def nB(Fn:FuncId→List V→List AO→(V→List AO→Tr)→Tr):List AI→St→(St→Tr)→Tr
 |[],st,K=>K st
 |ai::r,st,K=>match ai.guard with
  |none=>gL Fn st (fun v h=>nB Fn r ⟨oP st.t ai.dst v,h⟩ K) ai.op
  |some (j,want)=>match bN (.c .top) st.t j with
   |.c (.p (.b x))=>match want with
    |true=>bT x
       (gL Fn ⟨upd (.c (.p (.b true))) st.t j,st.h⟩ (fun v h=>nB Fn r ⟨oP (upd (.c (.p (.b true))) st.t j) ai.dst v,h⟩ K) ai.op)
       (nB Fn r ⟨oP (upd (.c (.p (.b false))) st.t j) ai.dst (.t []),st.h⟩ K)
    |false=>bT x
       (nB Fn r ⟨oP (upd (.c (.p (.b true))) st.t j) ai.dst (.t []),st.h⟩ K)
       (gL Fn ⟨upd (.c (.p (.b false))) st.t j,st.h⟩ (fun v h=>nB Fn r ⟨oP (upd (.c (.p (.b false))) st.t j) ai.dst v,h⟩ K) ai.op)
   |.t []=>nB Fn r ⟨oP st.t ai.dst (.t []),st.h⟩ K
   |_=>.fail
def isP:C→Bool
 |.p _=>true
 |_=>false
def BJ:C→Bool
 |.p _=>true
 |.own .. => true
 |_=>false
def tE:C→PV
 |.p x=>x
 |.own _ sz n f=>.l sz n f
 |_=>.b false
def DL:List C→Bool
 |[]=>true
 |c::r=>isP c&&DL r
def TO:V1→Bool
 |.c x=>isP x
 |.a cs=>DL cs
def sB:List V1→Bool
 |[]=>true
 |v::r=>TO v&&sB r
def oU:V→Bool
 |.c x=>isP x
 |.a cs=>DL cs
 |.t vs=>sB vs
def mN:List V→Bool
 |[]=>true
 |v::r=>oU v&&mN r
def jE(Fn:FuncId→List V→List AO→(V→List AO→Tr)→Tr)(f:FuncId)(args:List V)(h:List AO)(k:V→List AO→Tr):Tr:=
 oN (mN args) (Fn f args [] fun v h'=>match h' with
  |[]=>oN (oU v) (k v h)
  |_=>.fail)
def xS(st:St):rB→Option (AO×(Nat→V))
 |.alloc ty z=>some (.cells ty (iP z),fun id=>.c (.ptr id 0))
 |.box ty x=>match (st.ev x).cells? with
  |some cs=>match hH cs with
   |true=>some (.cells ty cs,fun id=>.c (.ptr id 0))
   |false=>none
  |none=>none
 |.bsl ty sz len z ps=>match jL st (vH (iP z) len) ps with
  |some cs=>match bE (fK z) sz&&cU 0 sz&&bS (len*sz) 16777216 with
   |true=>some (.row ty sz len (rR cs sz len),fun id=>.c (.sl id sz 0 len))
   |false=>none
  |none=>none
 |_=>none
noncomputable def WC(Fn:FuncId→List V→List AO→(V→List AO→Tr)→Tr):dA→St→(X→St→Tr)→Tr
 |.skip,st,K=>K .normal st
 |.reg l,st,K=>nB Fn l st (K .normal)
 |.regd hd tl,st,K=>nB (jE Fn) hd st fun st'=>nB Fn tl st' (K .normal)
 |.regm ..,_,_=>.fail
 |.regx ..,_,_=>.fail
 |.seq a b,st,K=>WC Fn a st fun e st'=>match e with
  |.normal=>WC Fn b st' K
  |e=>K e st'
 |.cond x a b,st,K=>match st.ev x with
  |.c (.p (.b v))=>match x with
   |.t k=>bT v (WC Fn a ⟨upd (.c (.p (.b true))) st.t k,st.h⟩ K) (WC Fn b ⟨upd (.c (.p (.b false))) st.t k,st.h⟩ K)
   |.k _=>bT v (WC Fn a st K) (WC Fn b st K)
  |_=>.fail
 |.block id a,st,K=>WC Fn a st fun e st'=>match e with
  |.exit j=>match bE j id with
   |true=>K .normal st'
   |false=>K (.exit j) st'
  |e=>K e st'
 |.loop a,st,K=>.loop a st K
 |.exit id,st,K=>K (.exit id) st
 |.ret,st,K=>K .ret st
 |.raw _,st,K=>.fail
end Go.AE
namespace Go.AE
open _root_.Array renaming getElem?_eq_some_iff→bF,getElem?_extract→cQ,getElem?_toList→bC
open _root_.BitVec renaming ofInt→dW
open _root_.Bool renaming and_eq_true→aY
open _root_.List renaming getD_eq_getElem?_getD→aG,getElem?_append_left→cZ,getElem?_eq_getElem→aN,getElem?_eq_none→bL,getElem?_eq_some_iff→aV,length_set→fI
open _root_.Nat renaming add_mul→dG,beq→bE,ble→bS,ble_eq→fU,blt→cU,eq_of_beq_eq_true→aH,le_trans→fX,mul_le_mul_right→bP,one_mul→gW
open Op renaming bytesLess→eS,equalIn→eE,intArith→gA,stringOp→gU
open _root_.Option renaming map_some→dS,some.injEq→aD
open Region renaming binds→eO
open Value renaming int→fM
open Go.RowKit
variable (P:Program) (G:Nat→Option Obj)
def lW(f:FuncId)(args:List V)(h:List AO)(K:V→List AO→Prop):Prop:=
 ∀β R w (vs:Array Value),All2 (VR β R w) args vs.toList→HS G β R w h→Calls P f vs w fun e w'=>∃u β' R' x h',e=.returned u∧K x h'∧VR β' R' w' x u∧HS G β' R' w' h'∧Gr β R w β' R' w'∧∀i,i<h.length→β' i=β i
def Po(K:X→St→Prop)(β:Bt)(R:Nat→Prop)(w:World)(e:X)(a':Act)(w':World):Prop:=
 ∃β' R' st',K e st'∧eC G β' R' st' a' w'∧Fr β R w β' R' w'∧∀b,R b→R' b
def QX(K:X→St→Prop)(β:Bt)(R:Nat→Prop)(w:World):Exit→Act→World→Prop
 |.normal,a',w'=>Po G K β R w .normal a' w'
 |.exit id,a',w'=>Po G K β R w (.exit id) a' w'
 |.ret,a',w'=>Po G K β R w .ret a' w'
 |_,_,_=>False
def Ex(c:Code)(st:St)(K:X→St→Prop):Prop:=∀β R a w,eC G β R st a w→c.wp P (QX G K β R w) a w
def Lp(a:dA)(st:St)(K:X→St→Prop):Prop:=∀c,dB P c=some a→Ex P G (.loop c) st K
def Tr.holds:Tr→(X→St→Prop)→Prop
 |.fail,_=>False
 |.rq p k,K=>p∧k.holds K
 |.alt p q,K=>p.holds K∧q.holds K
 |.loop a st k,K=>Lp P G a st fun e st'=>(k e st').holds K
 |.done e st,K=>K e st
abbrev Ext:=FuncId→List V→List AO→(V→List AO→Tr)→Tr
structure bO (ext:Ext):Prop where
 fn:∀f args h k K,(ext f args h k).holds P G K→lW P G f args h fun v h'=>(k v h').holds P G K
 val:∀f args h k K,(ext f args h k).holds P G K→∃v h',(k v h').holds P G K∧∀k' K',(k' v h').holds P G K'→(ext f args h k').holds P G K'
variable {P G}
section
variable {β β':Bt} {R R':Nat→Prop} {w w':World} {st:St} {a:Act}
theorem rW(v:Value):PR R w (HP v) v:=by cases v<;>rfl
theorem All2.map_left{α γ δ:Type}{q:α→γ→Prop}(g:δ→α):∀ {xs:List δ} {ys:List γ},All2 (fun x y=>q (g x) y) xs ys→All2 q (xs.map g) ys
 |[],[],_=>trivial
 |[],_::_,h=>h
 |_::_,[],h=>h
 |_::_,_::_,h=>⟨h.1,All2.map_left g h.2⟩
theorem All2.self{α:Type}{q:α→α→Prop}(hq:∀x,q x x):∀xs:List α,All2 q xs xs
 |[]=>trivial
 |x::xs=>⟨hq x,All2.self hq xs⟩
theorem yR(v:Value):VR β R w (toV v) v:=by
 cases v with
 |agg cs=>exact⟨cs,rfl,All2.map_left _ (All2.self (q:=fun x y=>CR β R w (.p (HP x)) y) (fun x=>rW x) cs.toList)⟩
 |tuple vs=>exact trivial
 |_=>exact rW _
theorem aR(hs:eC G β R st a w){x:Operand}{ax:AX}(h:cX x=some ax):VR β R w (st.ev ax) (a.eval x):=by
 cases x with
 |tmp t=>
  simp only[cX,aD]at h;subst h
  show VR β R w (bN (.c .top) st.t t) (a.tmps.getD t undef)
  rw[eK]
  by_cases ht:t<st.t.length
  ·obtain⟨y,hy,hr⟩:=hs.tm.get t st.t[t] (aN ht)
   have e:a.tmps.getD t undef=y:=by
    rw[bC]at hy;simp[hy]
   rw[e];simpa[ht] using hr
  ·simp only[aG,bL (Nat.le_of_not_lt ht),Option.getD_none]
   exact trivial
 |const v=>simp only[cX,aD]at h;subst h;exact yR v
 |global g=>cases h
 |func f=>cases h
theorem eC.put(hs:eC G β R st a w)(k:Gr β R w β' R' w'){h':List AO}(hh:HS G β' R' w' h'){x:V}{u:Value}(hv:VR β' R' w' x u)(d:Option Nat):eC G β' R' ⟨oP st.t d x,h'⟩ (a.put d u) w':=by
 refine⟨?_,?_,hh⟩
 ·cases d<;>exact hs.df
 ·have hm:=hs.tm.mono fun _ _=>VR.keep k.keeps
  cases d with
  |none=>exact hm
  |some d=>
   show All2 _ (upd x st.t d) (a.tmps.setIfInBounds d u).toList
   rw[jB,Array.toList_setIfInBounds];exact hm.set d x u hv
theorem eC.same(hs:eC G β R st a w){j:Nat}{y:V}(hy:∀u,VR β R w (bN (.c .top) st.t j) u→VR β R w y u):eC G β R ⟨upd y st.t j,st.h⟩ a w:=by
 refine⟨hs.df,?_,hs.hs⟩
 show All2 _ (upd y st.t j) a.tmps.toList
 have h1:=hs.tm
 clear hs
 generalize a.tmps.toList=ys at h1
 generalize st.t=xs at h1 hy
 induction xs generalizing ys j with
 |nil=>cases ys<;>exact h1
 |cons x0 xs ih=>
  cases ys with
  |nil=>exact h1.elim
  |cons y0 ys=>
   cases j with
   |zero=>exact⟨hy _ h1.1,h1.2⟩
   |succ j=>exact⟨h1.1,ih (j:=j) (ys:=ys) h1.2 hy⟩
end
end Go.AE
namespace Go.AE
open _root_.Array renaming getElem?_eq_some_iff→bF,getElem?_extract→cQ,getElem?_toList→bC
open _root_.BitVec renaming ofInt→dW
open _root_.Bool renaming and_eq_true→aY
open _root_.List renaming getD_eq_getElem?_getD→aG,getElem?_append_left→cZ,getElem?_eq_getElem→aN,getElem?_eq_none→bL,getElem?_eq_some_iff→aV,length_set→fI
open _root_.Nat renaming add_mul→dG,beq→bE,ble→bS,ble_eq→fU,blt→cU,eq_of_beq_eq_true→aH,le_trans→fX,mul_le_mul_right→bP,one_mul→gW
open Op renaming bytesLess→eS,equalIn→eE,intArith→gA,stringOp→gU
open _root_.Option renaming map_some→dS,some.injEq→aD
open Region renaming binds→eO
open Value renaming int→fM
open Go.RowKit
section
variable {G:Nat→Option Obj} {β β':Bt} {R R':Nat→Prop} {w w':World} {h:List AO}
def bn(β:Bt)(i:Nat)(x:Nat×Nat):Bt:=⟨fun j=>if j=i then some x else β j,β.q⟩
theorem fN(β:Bt)(i:Nat)(x:Nat×Nat):bn β i x i=some x:=by simp[bn]
theorem dN{β:Bt}{i j:Nat}(x:Nat×Nat)(hj:j≠i):bn β i x j=β j:=by simp[bn,hj]
theorem GY{β:Bt}{i:Nat}{x:Nat×Nat}{b:Nat}(h:(bn β i x).has b):β.has b∨b=x.1:=by
 rcases h with⟨j,o,h⟩|h
 ·by_cases e:j=i
  ·subst e;rw[fN]at h;injection h with h;right;rw[h]
  ·rw[dN _ e]at h;exact .inl (.inl ⟨j,o,h⟩)
 ·exact .inl (.inr h)
theorem hX{α:Type}(d v:α)(l:List α){i:Nat}(hi:i<l.length):bN d (iF v l) i=bN d l i:=by
 rw[eK,eK,mM,aG,aG,cZ hi]
theorem mF{α:Type}(d v:α)(l:List α):bN d (iF v l) l.length=v:=by
 rw[eK,mM];simp
theorem gQ{α:Type}(d v:α)(l:List α){i:Nat}(hi:i<l.length):bN d (upd v l i) i=v:=by
 rw[eK,jB];simp[hi]
theorem fC{α:Type}(d v:α)(l:List α){i j:Nat}(hi:i≠j):bN d (upd v l i) j=bN d l j:=by
 rw[eK,eK,jB];simp[List.getElem?_set_ne hi]
theorem OR.dead_gone(k:jC β R w β' R' w'){h:List AO}{id i b o:Nat}(hl:(bN .gone (upd .gone h id) i).live=false)(h1:OR β R w (bN .gone h i) b o):OR β' R' w' (bN .gone (upd .gone h id) i) b o:=by
 by_cases e:id=i
 ·subst e
  have:bN .gone (upd .gone h id) id=.gone:=by
   by_cases hl:id<h.length
   ·exact gQ _ _ _ hl
   ·rw[eK,jB,aG,bL (by simp;omega)];rfl
  rw[this];exact trivial
 ·rw[fC _ _ _ e]at hl ⊢
  exact OR.dead k hl h1
theorem heap_push_lt(w:World)(o:Obj){b:Nat}(hb:b<w.heap.size):(w.alloc o).heap[b]?=w.heap[b]?:=Below.heap_alloc w o b hb
theorem tY(hh:HS G β R w h)(o:Obj)(x:Nat×Nat)(hx:x.1=w.heap.size):Gr β R w (bn β h.length x) R (w.alloc o) where
 os:=rfl
 tape:=rfl
 output:=rfl
 size:=by simp
 rs:=fun b hb=>heap_push_lt w o (hh.rlt b hb)
 fr:=fun b hb _=>heap_push_lt w o hb
 ex:=fun b hi=>(GY hi).imp (fun h=>h) (fun h=>by omega)
 rx:=fun b hb=>.inl hb
 bm:=fun i y hi=>by
  rw[dN];exact hi
  have:=hh.dom i y hi;omega
 rm:=fun _ hb=>hb
theorem kT(hh:HS G β R w h){x:AO}{o:Obj}{N:Nat}(hx:∀β' w',jC β R w β' R w'→w'.heap[w.heap.size]?=some o→OR β' R w' x w.heap.size N) :
  HS G (bn β h.length (w.heap.size,N)) R (w.alloc o) (iF x h):=by
 have gr:=tY hh o (w.heap.size,N) rfl
 have hnew:(w.alloc o).heap[w.heap.size]?=some o:=heap_alloc_new w o
 have kq:vT β w (bn β h.length (w.heap.size,N)) (w.alloc o):=fun b ad hb=>⟨hb,heap_push_lt w o (hh.ql b ad hb).1⟩
 refine⟨?_,?_,?_,?_,?_,?_,?_,?_⟩
 ·intro i y hi
  rw[mM];simp
  by_cases e:i=h.length
  ·omega
  ·rw[dN _ e]at hi;have:=hh.dom i y hi;omega
 ·intro i j b o1 o2 hi hj li lj
  by_cases ei:i=h.length
  ·by_cases ej:j=h.length
   ·omega
   ·subst ei;rw[fN]at hi;rw[dN _ ej]at hj
    have:=hh.lt j b o2 hj;simp at hi;omega
  ·rw[dN _ ei]at hi
   have hil:=hh.dom i _ hi
   by_cases ej:j=h.length
   ·subst ej;rw[fN]at hj
    have:=hh.lt i b o1 hi;simp at hj;omega
   ·rw[dN _ ej]at hj
    have hjl:=hh.dom j _ hj
    rw[hX _ _ _ hil]at li;rw[hX _ _ _ hjl]at lj;exact hh.inj i j b o1 o2 hi hj li lj
 ·intro i b o1 hi li
  by_cases ei:i=h.length
  ·subst ei;rw[fN]at hi;simp at hi
   intro hb;have:=hh.rlt b hb;omega
  ·rw[dN _ ei]at hi
   rw[hX _ _ _ (hh.dom i _ hi)]at li;exact hh.sep i b o1 hi li
 ·intro i b o1 hi
  by_cases ei:i=h.length
  ·subst ei;rw[fN]at hi;simp at hi;simp;omega
  ·rw[dN _ ei]at hi;have:=hh.lt i b o1 hi;simp;omega
 ·intro b hb;have:=hh.rlt b hb;simp;omega
 ·intro i b o1 hi
  by_cases ei:i=h.length
  ·subst ei;rw[fN]at hi;simp at hi
   obtain⟨rfl,rfl⟩:=hi;rw[mF];exact hx _ _ gr.keeps hnew
  ·rw[dN _ ei]at hi
   rw[hX _ _ _ (hh.dom i _ hi)];exact OR.keep gr.keeps (kq.at b) (heap_push_lt w o (hh.lt i b o1 hi)) (hh.obj i b o1 hi)
 ·intro b ob hb
  obtain⟨h1,h2⟩:=hh.gl b ob hb;exact⟨h1,(heap_push_lt w o (hh.rlt b h1)).trans h2⟩
 ·intro b ad hb
  obtain⟨h1,h2,h3⟩:=hh.ql b ad hb;refine⟨by simp;omega,h2,fun i o1 hi=>?_⟩
  by_cases ei:i=h.length
  ·subst ei;rw[fN]at hi;simp at hi;omega
  ·rw[dN _ ei]at hi
   rw[hX _ _ _ (hh.dom i _ hi)];exact h3 i o1 hi
theorem pP(hh:HS G β R w h){id b o:Nat}(hid:β id=some (b,o))(hl:(bN .gone h id).live=true){x:AO}(hos:w'.os=w.os)(htp:w'.tape=w.tape)(hou:w'.output=w.output)
  (hsz:w'.heap.size=w.heap.size) (hw:∀j,j≠b→w'.heap[j]?=w.heap[j]?) (hx:jC β R w β R w'→vT β w β w'→OR β R w' x b o) :
  HS G β R w' (upd x h id)∧Gr β R w β R w':=by
 have hnb:∀b',R b'→b'≠b:=fun b' hb e=>hh.sep id b o hid hl (e▸hb)
 have gr:Gr β R w β R w':={
  os:=hos,tape:=htp,output:=hou,size:=by omega
  rs:=fun b' hb=>hw b' (hnb b' hb)
  fr:=fun b' _ hn=>hw b' (fun e=>hn (.inl ⟨id,o,e▸hid⟩))
  ex:=fun _ hi=>.inl hi
  rx:=fun b' hb=>.inl hb
  bm:=fun _ _ hi=>hi
  rm:=fun _ hb=>hb }
 have hidl:=hh.dom id _ hid
 have hqb:∀b' ad,β.q b'=some ad→b'≠b:=fun b' ad hb e=>by
  have:=(hh.ql b' ad hb).2.2 id o (e▸hid)
  rw[hl]at this;cases this
 have kq:vT β w β w':=fun b' ad hb=>⟨hb,hw b' (hqb b' ad hb)⟩
 refine⟨⟨?_,?_,?_,?_,?_,?_,?_,?_⟩,gr⟩
 ·intro i y hi;rw[jB,fI];exact hh.dom i y hi
 ·intro i j b1 o1 o2 hi hj li lj
  have li':(bN .gone h i).live=true:=by
   by_cases e:id=i
   ·subst e;exact hl
   ·rw[fC _ _ _ e]at li;exact li
  have lj':(bN .gone h j).live=true:=by
   by_cases e:id=j
   ·subst e;exact hl
   ·rw[fC _ _ _ e]at lj;exact lj
  exact hh.inj i j b1 o1 o2 hi hj li' lj'
 ·intro i b1 o1 hi li
  have li':(bN .gone h i).live=true:=by
   by_cases e:id=i
   ·subst e;exact hl
   ·rw[fC _ _ _ e]at li;exact li
  exact hh.sep i b1 o1 hi li'
 ·intro i b1 o1 hi;rw[hsz];exact hh.lt i b1 o1 hi
 ·intro b1 hb;rw[hsz];exact hh.rlt b1 hb
 ·intro i b1 o1 hi
  by_cases e:id=i
  ·subst e
   rw[gQ _ _ _ hidl];rw[hid]at hi;injection hi with hi;injection hi with h1 h2;subst h1;subst h2;exact hx gr.keeps kq
  ·rw[fC _ _ _ e]
   by_cases eb:b1=b
   ·subst eb
    cases hn:(bN .gone h i).live with
    |false=>exact OR.dead gr.keeps hn (hh.obj i b1 o1 hi)
    |true=>exact absurd (hh.inj id i b1 o o1 hid hi hl hn) e
   ·exact OR.keep gr.keeps (kq.at b1) (hw b1 eb) (hh.obj i b1 o1 hi)
 ·intro b1 ob hb
  obtain⟨h1,h2⟩:=hh.gl b1 ob hb;exact⟨h1,(hw b1 (hnb b1 h1)).trans h2⟩
 ·intro b1 ad hb
  obtain⟨h1,h2,h3⟩:=hh.ql b1 ad hb;refine⟨by rw[hsz];exact h1,h2,fun i o1 hi=>?_⟩
  by_cases e:id=i
  ·subst e
   rw[hid]at hi;injection hi with hi;injection hi with q1 q2;exact absurd q1.symm (hqb b1 ad hb)
  ·rw[fC _ _ _ e];exact h3 i o1 hi
def setA(cs:Array Value):Nat→List Value→Array Value
 |_,[]=>cs
 |o,v::r=>setA (cs.setIfInBounds o v) (o+1) r
theorem setA_size:∀(vs:List Value) (cs:Array Value) (o:Nat),(setA cs o vs).size=cs.size
 |[],_,_=>rfl
 |v::r,cs,o=>by rw[setA,setA_size r];simp
theorem heap_setCells:∀(vs:List Value) (w:World) (b o:Nat) (cs:Array Value) (ty:TypeId),w.heap[b]?=some (.cells cs ty (0,0))→(w.setCells b o vs).heap[b]?=some (.cells (setA cs o vs) ty (0,0))
 |[],_,_,_,_,_,h=>h
 |v::r,w,b,o,cs,ty,h=>heap_setCells r _ b (o+1) _ ty (heap_setCell_same w b o cs ty v h)
theorem setCells_other:∀(vs:List Value) (w:World) (b o j:Nat),j≠b→(w.setCells b o vs).heap[j]?=w.heap[j]?
 |[],_,_,_,_,_=>rfl
 |v::r,w,b,o,j,h=>(setCells_other r _ b (o+1) j h).trans (Below.heap_setCell w ⟨b,o,none⟩ v j h)
theorem setCells_parts:∀(vs:List Value) (w:World) (b o:Nat),(w.setCells b o vs).os=w.os∧(w.setCells b o vs).tape=w.tape∧(w.setCells b o vs).output=w.output∧(w.setCells b o vs).heap.size=w.heap.size
 |[],_,_,_=>⟨rfl,rfl,rfl,rfl⟩
 |v::r,w,b,o=>by
  obtain⟨h1,h2,h3,h4⟩:=setCells_parts r (w.setCell ⟨b,o,none⟩ v) b (o+1);exact⟨h1,h2,h3,h4.trans (by simp[World.setCell])⟩
theorem All2.setA{q:C→Value→Prop}:∀ {cs:List C} {us:List Value} {vs:List C} {xs:Array Value} (o:Nat),All2 q cs us→All2 q vs xs.toList→All2 q (jK vs o cs) (setA xs o us).toList
 |[],[],_,_,_,_,h=>h
 |[],_::_,_,_,_,h,_=>h.elim
 |_::_,[],_,_,_,h,_=>h.elim
 |c::cs,u::us,vs,xs,o,h,k=>by
  have:=All2.setA (cs:=cs) (us:=us) (vs:=upd c vs o) (xs:=xs.setIfInBounds o u) (o+1) h.2 (by rw[jB,Array.toList_setIfInBounds];exact k.set o c u h.1)
  exact this
end
section
variable {P:Program} {G:Nat→Option Obj}
def Res(G:Nat→Option Obj)(n:Nat)(KV:V→List AO→Prop)(β:Bt)(R:Nat→Prop)(w:World)(u:Value)(w':World):Prop:=
 ∃β' R' x h',KV x h'∧VR β' R' w' x u∧HS G β' R' w' h'∧Gr β R w β' R' w'∧∀i,i<n→β' i=β i
def dC(P:Program)(G:Nat→Option Obj)(n:Nat)(KV:V→List AO→Prop)(β:Bt)(R:Nat→Prop)(o:Oper)(a:Act)(w:World):Prop:=
 (∃u w',(execOp a.eval o).run P w=.ok (.value u) w'∧Res G n KV β R w u w')∨(∃w',(execOp a.eval o).run P w=.ok .skip w'∧Res G n KV β R w undef w') ∨
 ∃f args,(execOp a.eval o).run P w=.ok (.enter f args) w∧Calls P f args w fun e w'=>∃u,e=.returned u∧Res G n KV β R w u w'
theorem dC.wp{n:Nat}{KV:V→List AO→Prop}{β:Bt}{R:Nat→Prop}{o:Oper}{a:Act}{w:World}(h:dC P G n KV β R o a w){next:Act→World→Prop}{Q:Exit→Act→World→Prop}
  (hn:∀u w',Res G n KV β R w u w'→next (a.put o.dst u) w'):o.wp P a w next Q:=by
 unfold Oper.wp
 rcases h with⟨u,w',h,r⟩|⟨w',h,r⟩|⟨f,args,h,r⟩
 ·rw[h];exact hn u w' r
 ·rw[h];exact hn undef w' r
 ·rw[h]
  refine r.mono ?_;rintro e w' ⟨u,rfl,r⟩;exact hn u w' r
variable {β:Bt} {R:Nat→Prop} {w:World} {st:St} {a:Act} {o:Oper} {KV:V→List AO→Prop}
theorem dC.same(hs:eC G β R st a w){u:Value}{x:V}(hr:(execOp a.eval o).run P w=.ok (.value u) w)(hk:KV x st.h)(hv:VR β R w x u):dC P G st.h.length KV β R o a w:=
 .inl ⟨u,w,hr,β,R,x,st.h,hk,hv,hs.hs,Gr.refl _ _ _,fun _ _=>rfl⟩
theorem cE{b:Bool}{p:Tr}{K:X→St→Prop}(h:(oN b p).holds P G K):b=true∧p.holds P G K:=by
 cases b with
 |true=>exact⟨rfl,h⟩
 |false=>exact h.elim
theorem PO(hs:eC G β R st a w){x:Operand}{ax:AX}(hx:cX x=some ax)(ho:o.op=.move x∨o.op=.assign x)(hk:KV (st.ev ax) st.h):dC P G st.h.length KV β R o a w:=by
 refine dC.same hs (u:=a.eval x) ?_ hk (aR hs hx)
 rcases ho with ho|ho<;>simp[execOp,ho]
theorem TV(hs:eC G β R st a w){x:Operand}{ax:AX}{t:TypeId}(hx:cX x=some ax)(ho:o.op=.unOp .not t x){b:Bool}(he:st.ev ax=.c (.p (.b b)))(hk:KV (.c (.p (.b (!b)))) st.h):dC P G st.h.length KV β R o a w:=by
 have hv:=aR hs hx
 rw[he]at hv
 have hv:a.eval x=.bool b:=hv
 refine dC.same hs (u:=.bool (!b)) ?_ hk rfl;simp[execOp,ho,hv,Op.unary]
theorem LX(hs:eC G β R st a w){c x y:Operand}{ac ax ay:AX}(hc:cX c=some ac)(hx:cX x=some ax)(hy:cX y=some ay)(ho:o.op=.pick c x y){b:Bool}(he:st.ev ac=.c (.p (.b b)))
  (hk:b=true→KV (st.ev ax) st.h) (hk':b=false→KV (st.ev ay) st.h):dC P G st.h.length KV β R o a w:=by
 have hv:=aR hs hc
 rw[he]at hv
 have hv:a.eval c=.bool b:=hv
 cases b with
 |true=>exact dC.same hs (u:=a.eval x) (by simp[execOp,ho,hv,asBool]) (hk rfl) (aR hs hx)
 |false=>exact dC.same hs (u:=a.eval y) (by simp[execOp,ho,hv,asBool]) (hk' rfl) (aR hs hy)
theorem wrap_in{k:IntKind}{n:Int}(h:inR k n):k.wrap n=n:=by
 cases k<;>simp only[inR]at h
 all_goals first|exact h.elim|skip
 all_goals (simp[IntKind.wrap,IntKind.signed,IntKind.bits];omega)
theorem TW(hs:eC G β R st a w){x:Operand}{ax:AX}{t:TypeId}(hx:cX x=some ax)(ho:o.op=.unOp .neg t x){k:IntKind}{n:Int}(he:st.ev ax=.c (.p (.i k n)))(hr:inR k (-n))(hk:KV (.c (.p (.i k (-n)))) st.h):dC P G st.h.length KV β R o a w:=by
 have hv:=aR hs hx
 rw[he]at hv
 have hv:a.eval x=.int k n:=hv
 refine dC.same hs (u:=.int k (-n)) ?_ hk rfl
 have e:(0:Int)-n = -n:=by omega
 simp[execOp,ho,hv,Op.unary,gA,wrap_in hr]
theorem MJ(hs:eC G β R st a w){x:Operand}{ax:AX}{i:Nat}(hx:cX x=some ax)(ho:o.op=.extract x i){vs:List V1}(he:st.ev ax=.t vs)(hi:cU i (fK vs)=true)(hk:KV (bN (.c .top) vs i).up st.h):dC P G st.h.length KV β R o a w:=by
 have hv:=aR hs hx
 rw[he]at hv;obtain⟨us,hu,ha⟩:=hv;rw[fH]at hi
 have hi:i<vs.length:=by simpa using hi
 rw[eK]at hk
 have e:vs.getD i (.c .top)=vs[i]:=by simp[hi]
 rw[e]at hk;obtain⟨y,hy,hr⟩:=ha.get i vs[i] (aN hi);refine dC.same hs (u:=y) ?_ hk (BO.up hr);rw[bC]at hy;simp[execOp,ho,hu,Instr.extract,hy]
theorem MP(hs:eC G β R st a w){op:BinOp}{t t':TypeId}{x y:Operand}{ax ay:AX}(hx:cX x=some ax)(hy:cX y=some ay)(ho:o.op=.binOp op t x y t'){k:IntKind}{m n:Int}
  (hex:st.ev ax=.c (.p (.i k m))) (hey:st.ev ay=.c (.p (.i k n))) {kk:V→List AO→Tr} {K:X→St→Prop} (h:(IK op k m n fun v=>kk (.c (.p v)) st.h).holds P G K) :
  dC P G st.h.length (fun v h'=>(kk v h').holds P G K) β R o a w:=by
 have hv:=aR hs hx
 rw[hex]at hv
 have hv:a.eval x=.int k m:=hv
 have hv':=aR hs hy
 rw[hey]at hv'
 have hv':a.eval y=.int k n:=hv'
 have run:∀u,(Go.binOp op t (.int k m) (.int k n)).run P w=.ok u w→(execOp a.eval o).run P w=.ok (.value u) w:=by
  intro u hu
  have hg:(eqGuard op t x y (.int k m) (.int k n)).run P w=.ok () w:=by
   unfold eqGuard;cases op<;>simp
  simp[execOp,ho,hv,hv',hg,hu]
 cases op<;>simp only[IK]at h
 case add=>exact dC.same hs (run _ (by simp[Go.binOp,gA];rfl)) h.2 (by show fM _ _=_;rw[wrap_in h.1])
 case sub=>exact dC.same hs (run _ (by simp[Go.binOp,gA];rfl)) h.2 (by show fM _ _=_;rw[wrap_in h.1])
 case mul=>exact dC.same hs (run _ (by simp[Go.binOp,gA];rfl)) h.2 (by show fM _ _=_;rw[wrap_in h.1])
 case quo=>
  obtain⟨⟨h1,h2,h3⟩,h4⟩:=h;refine dC.same hs (run (.int k (m / n)) ?_) h4 rfl
  have e:m.tdiv n=m / n:=Int.tdiv_eq_ediv_of_nonneg h1
  simp[Go.binOp,Op.intDiv,show ¬n=0 by omega,e,wrap_in h3]
 case rem=>
  obtain⟨⟨h1,h2⟩,h4⟩:=h;refine dC.same hs (run (.int k (m%n)) ?_) h4 rfl
  have e:m.tmod n=m%n:=Int.tmod_eq_emod_of_nonneg h1
  simp[Go.binOp,Op.intDiv,show ¬n=0 by omega,e]
 case eql=>exact dC.same hs (run (.bool (m==n)) (by simp[Go.binOp,Op.intCmp])) h rfl
 case neq=>exact dC.same hs (run (.bool (m != n)) (by simp[Go.binOp,Op.intCmp])) h rfl
 case lss=>exact dC.same hs (run (.bool (decide (m<n))) (by simp[Go.binOp,Op.intCmp])) h rfl
 case leq=>exact dC.same hs (run (.bool (decide (m≤n))) (by simp[Go.binOp,Op.intCmp])) h rfl
 case gtr=>exact dC.same hs (run (.bool (decide (n<m))) (by simp[Go.binOp,Op.intCmp])) h rfl
 case geq=>exact dC.same hs (run (.bool (decide (n≤m))) (by simp[Go.binOp,Op.intCmp])) h rfl
 all_goals exact h.elim
end
section
variable {P:Program} {G:Nat→Option Obj} {β:Bt} {R:Nat→Prop} {w:World} {st:St} {a:Act} {o:Oper} {KV:V→List AO→Prop}
theorem MO(hs:eC G β R st a w){op:BinOp}{t t':TypeId}{x y:Operand}{ax ay:AX}(hx:cX x=some ax)(hy:cX y=some ay)(ho:o.op=.binOp op t x y t'){m n:ByteArray}
  (hex:st.ev ax=.c (.p (.s m))) (hey:st.ev ay=.c (.p (.s n))) {kk:V→List AO→Tr} {K:X→St→Prop} (h:(IJ op m n fun v=>kk (.c (.p v)) st.h).holds P G K) :
  dC P G st.h.length (fun v h'=>(kk v h').holds P G K) β R o a w:=by
 have hv:=aR hs hx
 rw[hex]at hv
 have hv:a.eval x=.string m:=hv
 have hv':=aR hs hy
 rw[hey]at hv'
 have hv':a.eval y=.string n:=hv'
 have run:∀u,(Go.binOp op t (.string m) (.string n)).run P w=.ok u w→(execOp a.eval o).run P w=.ok (.value u) w:=by
  intro u hu
  have hg:(eqGuard op t x y (.string m) (.string n)).run P w=.ok () w:=by
   unfold eqGuard;cases op<;>simp
  simp[execOp,ho,hv,hv',hg,hu]
 cases op<;>simp only[IJ]at h
 case add=>
  refine dC.same hs (run (.string (m++n)) ?_) h.2 rfl
  have h1:=h.1
  have e:¬((m.size+n.size:Nat):Int)>IntKind.i64.max:=by
   have:IntKind.i64.max=9223372036854775807:=by decide
   rw[this];omega
  simp only[Go.binOp,gU,if_neg e];rfl
 case eql=>exact dC.same hs (run (.bool (m.toList==n.toList)) (by simp[Go.binOp,gU])) h rfl
 case neq=>exact dC.same hs (run (.bool (!(m.toList==n.toList))) (by simp[Go.binOp,gU])) h rfl
 case lss=>exact dC.same hs (run (.bool (eS m.toList n.toList)) (by simp[Go.binOp,gU])) h rfl
 case leq=>exact dC.same hs (run (.bool (eS m.toList n.toList||m.toList==n.toList)) (by simp[Go.binOp,gU])) h rfl
 case gtr=>exact dC.same hs (run (.bool (!(eS m.toList n.toList||m.toList==n.toList))) (by simp[Go.binOp,gU])) h rfl
 case geq=>exact dC.same hs (run (.bool (!(eS m.toList n.toList))) (by simp[Go.binOp,gU])) h rfl
 all_goals exact h.elim
theorem aHY(hs:eC G β R st a w){op:BinOp}{t t':TypeId}{x y:Operand}{ax ay:AX}(ht:P.underlying t=some .bool)(hx:cX x=some ax)(hy:cX y=some ay)(ho:o.op=.binOp op t x y t'){m n:Bool}
  (hex:st.ev ax=.c (.p (.b m))) (hey:st.ev ay=.c (.p (.b n))) {kk:V→List AO→Tr} {K:X→St→Prop} (h:(aBW op m n fun v=>kk (.c (.p v)) st.h).holds P G K) :
  dC P G st.h.length (fun v h'=>(kk v h').holds P G K) β R o a w:=by
 have hv:=aR hs hx
 rw[hex]at hv
 have hv:a.eval x=.bool m:=hv
 have hv':=aR hs hy
 rw[hey]at hv'
 have hv':a.eval y=.bool n:=hv'
 have run:∀u,(Go.binOp op t (.bool m) (.bool n)).run P w=.ok u w→(execOp a.eval o).run P w=.ok (.value u) w:=by
  intro u hu
  have hg:(eqGuard op t x y (.bool m) (.bool n)).run P w=.ok () w:=by
   unfold eqGuard;cases op<;>simp
  simp[execOp,ho,hv,hv',hg,hu]
 have eq:(Op.equal t (.bool m) (.bool n)).run P w=.ok (m==n) w:=by
  have hd:∀d:Nat,(eE (d+1) t (.bool m) (.bool n)).run P w=.ok (m==n) w:=fun d=>by simp[eE,run_underlying ht]
  exact hd 9999
 cases op<;>simp only[aBW]at h
 case eql=>exact dC.same hs (run (.bool (m==n)) (by simp[Go.binOp,eq])) h rfl
 case neq=>exact dC.same hs (run (.bool (!(m==n))) (by simp[Go.binOp,eq])) h rfl
 all_goals exact h.elim
theorem add_mid(b o j:Nat):(⟨b,o,none⟩:Addr).add j=⟨b,o+j,none⟩:=Addr.add_mid b o j
theorem OI(a:Addr)(i j:Nat):(a.add i).add j=a.add (i+j):=by
 unfold Addr.add
 by_cases hi:i=0<;>by_cases hj:j=0<;>simp[hi,hj,Nat.add_assoc]
theorem aA2{sz n:Nat}{ad:Addr}{q:Nat→Nat→Value→Prop}(hn:0<n)(hz:0<sz)(h:∀e o,e<n→o<sz→∃u,w.cell? (ad.add (e*sz+o))=some u∧q e o u):ad=⟨ad.block,ad.off,none⟩:=by
 obtain⟨u,hu,_⟩:=h 0 0 hn hz
 have e:ad.add (0*sz+0)=ad:=by simp[Addr.add]
 rw[e]at hu;obtain⟨b,o,s⟩:=ad;cases s with
 |none=>rfl
 |some s=>unfold World.cell? at hu;dsimp only at hu;split at hu<;>simp at hu
theorem DQ(hs:eC G β R st a w){x:Operand}{ax:AX}{t:TypeId}{k:Nat}{fs:Array Field}{f:Field}(hf:P.underlying t=some (.struct fs))(hk:fs[k]?=some f)(hsz:∃s,dK P f.type=some (s+1))(hx:cX x=some ax)(ho:o.op=.fieldAddr t x k)
  {kk:V→List AO→Tr} {K:X→St→Prop} {ext:Ext} (h:(gL ext st kk (.faddr f.offset ax)).holds P G K):dC P G st.h.length (fun v h'=>(kk v h').holds P G K) β R o a w:=by
 have hv:=aR hs hx
 simp only[gL]at h;obtain⟨s,hsz⟩:=hsz
 have run:∀ad:Addr,a.eval x=.pointer (some ad)→(execOp a.eval o).run P w=.ok (.value (.pointer (some (ad.add f.offset)))) w:=by
  intro ad he
  have hz:(sizeOf f.type).run P w=.ok (s+1) w:=by
   unfold dK at hsz;cases hi:P.info? f.type with
   |none=>simp[hi]at hsz
   |some i=>simp[hi]at hsz;simp[sizeOf,typeInfo,hi,hsz]
  simp[execOp,ho,he,Instr.fieldAt,run_underlying hf,hk,Instr.sureAddr,fieldPlace,hz]
 split at h
 ·rename_i id q he
  rw[he]at hv;obtain⟨b,o0,h1,h2⟩:=hv;exact dC.same hs (run _ h2) h ⟨b,o0,h1,by rw[add_mid]⟩
 ·rename_i id sz e q he
  rw[he]at hv;obtain⟨b,o0,h1,h2⟩:=hv;refine dC.same hs (run _ h2) h ⟨b,o0,h1,?_⟩;rw[add_mid];simp only[Nat.add_assoc]
 ·rename_i sz n g e q he
  rw[he]at hv;obtain⟨ad,h1,h2,h3,h4⟩:=hv;refine dC.same hs (run _ h1) h ⟨ad,?_,h2,h3,h4⟩;rw[OI,Nat.add_assoc]
 ·exact h.elim
theorem TZ(hs:eC G β R st a w){x:Operand}{ax:AX}{t e:TypeId}(hu:P.underlying t=some (.slice e))(hx:cX x=some ax)
  (ho:o.op=.call { callee:=.builtin .len,args := #[x],argTypes := #[t] }) {kk:V→List AO→Tr} {K:X→St→Prop} {ext:Ext} (h:(gL ext st kk (.len ax)).holds P G K) :
  dC P G st.h.length (fun v h'=>(kk v h').holds P G K) β R o a w:=by
 have hv:=aR hs hx
 simp only[gL]at h
 have run:∀A n c,a.eval x=.slice A n c→(execOp a.eval o).run P w=.ok (.value (.int .i64 n)) w:=by
  intro A n c he;simp[execOp,ho,resolve,invoke,builtin,he,Builtin.len_,run_underlying hu,goInt]
 split at h
 ·rename_i sz n f he
  rw[he]at hv;obtain⟨A,c,h1,_⟩:=hv;exact dC.same hs (run _ _ _ h1) h rfl
 ·rename_i he
  rw[he]at hv;exact dC.same hs (run none 0 0 hv) h rfl
 ·rename_i id sz off n he
  rw[he]at hv;obtain⟨A,c,h1,_⟩:=hv;exact dC.same hs (run _ _ _ h1) h rfl
 ·exact h.elim
theorem ME(hs:eC G β R st a w){x:Operand}{ax:AX}{t:TypeId}(hu:P.underlying t=some .string)(hx:cX x=some ax)
  (ho:o.op=.call { callee:=.builtin .len,args := #[x],argTypes := #[t] }) {kk:V→List AO→Tr} {K:X→St→Prop} {ext:Ext} (h:(gL ext st kk (.lenS ax)).holds P G K) :
  dC P G st.h.length (fun v h'=>(kk v h').holds P G K) β R o a w:=by
 have hv:=aR hs hx
 simp only[gL]at h;split at h
 ·rename_i s he
  rw[he]at hv
  have hv:a.eval x=.string s:=hv
  exact dC.same hs (u:=.int .i64 s.size) (by simp[execOp,ho,resolve,invoke,builtin,hv,Builtin.len_,run_underlying hu,goInt]) h rfl
 ·exact h.elim
theorem TX(hs:eC G β R st a w){x y:Operand}{ax ay:AX}{ts:Array TypeId}(hx:cX x=some ax)(hy:cX y=some ay)
  (ho:o.op=.call { callee:=.builtin .min,args := #[x,y],argTypes:=ts }) {kk:V→List AO→Tr} {K:X→St→Prop} {ext:Ext} (h:(gL ext st kk (.min ax ay)).holds P G K) :
  dC P G st.h.length (fun v h'=>(kk v h').holds P G K) β R o a w:=by
 have hv:=aR hs hx
 have hv':=aR hs hy
 simp only[gL]at h;split at h
 ·rename_i k m k' n he he'
  rw[he]at hv;rw[he']at hv'
  have hv:a.eval x=.int k m:=hv
  have hv':a.eval y=.int k' n:=hv'
  exact dC.same hs (u:=.int k (if n<m then n else m)) (by simp[execOp,ho,resolve,invoke,builtin,hv,hv',Builtin.min_,Builtin.min2]) h rfl
 ·exact h.elim
theorem TY(hs:eC G β R st a w){x y:Operand}{ax ay:AX}{ts:Array TypeId}(hx:cX x=some ax)(hy:cX y=some ay)
  (ho:o.op=.call { callee:=.builtin .max,args := #[x,y],argTypes:=ts }) {kk:V→List AO→Tr} {K:X→St→Prop} {ext:Ext} (h:(gL ext st kk (.max ax ay)).holds P G K) :
  dC P G st.h.length (fun v h'=>(kk v h').holds P G K) β R o a w:=by
 have hv:=aR hs hx
 have hv':=aR hs hy
 simp only[gL]at h;split at h
 ·rename_i k m k' n he he'
  rw[he]at hv;rw[he']at hv'
  have hv:a.eval x=.int k m:=hv
  have hv':a.eval y=.int k' n:=hv'
  exact dC.same hs (u:=.int k (if m<n then n else m)) (by simp[execOp,ho,resolve,invoke,builtin,hv,hv',Builtin.max_,Builtin.max2]) h rfl
 ·exact h.elim
theorem MG(hs:eC G β R st a w){x i:Operand}{ax ai:AX}{t:TypeId}(hu:P.underlying t=some .string)(hx:cX x=some ax)(hi:cX i=some ai)(ho:o.op=.index t x i)
  {kk:V→List AO→Tr} {K:X→St→Prop} {ext:Ext} (h:(gL ext st kk (.idxS ax ai)).holds P G K):dC P G st.h.length (fun v h'=>(kk v h').holds P G K) β R o a w:=by
 have hv:=aR hs hx
 have hv':=aR hs hi
 simp only[gL]at h;split at h
 ·rename_i k n he
  rw[he]at hv'
  have hv':a.eval i=.int k n:=hv'
  split at h
  ·rename_i s he
   rw[he]at hv
   have hv:a.eval x=.string s:=hv
   obtain⟨⟨h1,h2⟩,h3⟩:=h
   have hlt:n.toNat<s.size:=by omega
   refine dC.same hs (u:=.int .u8 (jJ s n.toNat)) ?_ h3 rfl
   have e:s[n.toNat]?=some s[n.toNat]:=by simp[hlt]
   have e2:jJ s n.toNat=(s[n.toNat].toNat:Int):=by
    unfold jJ
    have hl:n.toNat<s.data.toList.length:=by simpa using hlt
    rw[aG,aN hl];rfl
   simp[execOp,ho,hv,hv',Instr.index,asIntOf,run_underlying hu,h1,e,e2]
  ·exact h.elim
 ·exact h.elim
theorem MI(hs:eC G β R st a w){x i:Operand}{ax ai:AX}{t e:TypeId}{sz:Nat}(hu:P.underlying t=some (.slice e))(hz:dK P e=some sz)(hx:cX x=some ax)(hi:cX i=some ai)(ho:o.op=.indexAddr t x i)
  {kk:V→List AO→Tr} {K:X→St→Prop} {ext:Ext} (h:(gL ext st kk (.idxA sz ax ai)).holds P G K):dC P G st.h.length (fun v h'=>(kk v h').holds P G K) β R o a w:=by
 have hv:=aR hs hx
 have hv':=aR hs hi
 simp only[gL]at h
 have hz':(sizeOf e).run P w=.ok sz w:=by
  unfold dK at hz;cases hq:P.info? e with
  |none=>simp[hq]at hz
  |some i=>simp[hq]at hz;simp[sizeOf,typeInfo,hq,hz]
 split at h
 ·rename_i k n he
  rw[he]at hv'
  have hv':a.eval i=.int k n:=hv'
  have run:∀ad m c,a.eval x=.slice (some ad) m c→0≤n→n<m→(execOp a.eval o).run P w=.ok (.value (.pointer (some (ad.add (n.toNat*sz))))) w:=by
   intro ad m c he h1 h2;simp[execOp,ho,he,hv',Instr.indexAt,asIntOf,run_underlying hu,h1,h2,hz']
  split at h
  ·rename_i sz' m f he
   rw[he]at hv;obtain⟨hq,⟨h1,h2⟩,h3⟩:=cE h
   obtain rfl:sz=sz':=by simpa using hq
   obtain⟨A,c,g1,g2,g3,g4⟩:=hv;obtain⟨ad,rfl,g5,g6⟩:=g4 (by omega);exact dC.same hs (run _ _ _ g1 h1 h2) h3 ⟨ad,rfl,by omega,g5,g6⟩
  ·rename_i id sz' off len he
   rw[he]at hv;obtain⟨hq,⟨h1,h2⟩,h3⟩:=cE h
   obtain rfl:sz=sz':=by simpa using hq
   obtain⟨A,c,g1,g2,g3,g4⟩:=hv
   rcases g4 with⟨_,g5,_⟩|⟨b,N,g5,rfl,g7⟩
   ·omega
   ·refine dC.same hs (run _ _ _ g1 h1 h2) h3 ⟨b,N,g5,?_⟩
    rw[add_mid,dG,Nat.add_comm (off*sz)];rfl
  ·exact h.elim
 ·exact h.elim
theorem MH(hs:eC G β R st a w){x:Operand}{ax:AX}{t e:TypeId}{n k sz:Nat}{kd:IntKind}(hu:P.underlying t=some (.array n e))(hk:k<n)(hz:dK P e=some sz)(hx:cX x=some ax)(ho:o.op=.indexAddr t x (.const (.int kd (.ofNat k))))
  {kk:V→List AO→Tr} {K:X→St→Prop} {ext:Ext} (h:(gL ext st kk (.faddr (k*sz) ax)).holds P G K):dC P G st.h.length (fun v h'=>(kk v h').holds P G K) β R o a w:=by
 have hv:=aR hs hx
 simp only[gL]at h
 have hz':(sizeOf e).run P w=.ok sz w:=by
  unfold dK at hz;cases hq:P.info? e with
  |none=>simp[hq]at hz
  |some i=>simp[hq]at hz;simp[sizeOf,typeInfo,hq,hz]
 have run:∀ad:Addr,a.eval x=.pointer (some ad)→(execOp a.eval o).run P w=.ok (.value (.pointer (some (ad.add (k*sz))))) w:=by
  intro ad he
  have hi:a.eval (.const (.int kd (k:Int)))=.int kd (k:Int):=rfl
  simp[execOp,ho,he,hi,Instr.indexAt,asIntOf,run_underlying hu,Instr.sureAddr,hz',hk]
 split at h
 ·rename_i id q he
  rw[he]at hv;obtain⟨b,o0,h1,h2⟩:=hv;exact dC.same hs (run _ h2) h ⟨b,o0,h1,by rw[add_mid]⟩
 ·rename_i id sz e q he
  rw[he]at hv;obtain⟨b,o0,h1,h2⟩:=hv;refine dC.same hs (run _ h2) h ⟨b,o0,h1,?_⟩;rw[add_mid];simp only[Nat.add_assoc]
 ·rename_i sz n g e q he
  rw[he]at hv;obtain⟨ad,h1,h2,h3,h4⟩:=hv;refine dC.same hs (run _ h1) h ⟨ad,?_,h2,h3,h4⟩;rw[OI,Nat.add_assoc]
 ·exact h.elim
end
section
variable {P:Program} {G:Nat→Option Obj} {β:Bt} {R:Nat→Prop} {w:World} {st:St} {a:Act} {o:Oper} {KV:V→List AO→Prop}
theorem run_sizeOf{t:TypeId}{n:Nat}(h:dK P t=some n)(w:World):(sizeOf t).run P w=.ok n w:=by
 unfold dK at h;cases hq:P.info? t with
 |none=>simp[hq]at h
 |some i=>simp[hq]at h;simp[sizeOf,typeInfo,hq,h]
theorem run_isAgg{t:TypeId}{b:Bool}(h:rA P t=some b)(w:World):(isAgg t).run P w=.ok b w:=by
 unfold rA at h;cases hq:P.underlying t with
 |none=>simp[hq]at h
 |some d=>
  simp only[hq,dS,aD]at h;unfold isAgg;rw[Sem.run_bind,run_underlying hq w];subst h;cases d<;>rfl
theorem cellsO_none{t:TypeId}(h:gI P t=some none):rA P t=some false:=by
 unfold gI at h;cases hq:rA P t with
 |none=>simp[hq]at h
 |some b=>
  cases b with
  |false=>rfl
  |true=>cases hs:dK P t<;>simp[hq,hs]at h
theorem cellsO_some{t:TypeId}{n:Nat}(h:gI P t=some (some n)):rA P t=some true∧dK P t=some n:=by
 unfold gI at h;cases hq:rA P t with
 |none=>simp[hq]at h
 |some b=>
  cases b with
  |false=>simp[hq]at h
  |true=>
   cases hs:dK P t with
   |none=>simp[hq,hs]at h
   |some m=>simp[hq,hs]at h;subst h;exact⟨rfl,rfl⟩
theorem aK6{t:TypeId}(h:rA P t=some true):∃d,P.underlying t=some d∧d.isRow=true:=by
 unfold rA at h;cases hq:P.underlying t with
 |none=>simp[hq]at h
 |some d=>refine⟨d,rfl,?_⟩;cases d<;>simp[hq]at h<;>rfl
def ldV(us:List Value):Option Nat→Value
 |none=>us.getD 0 undef
 |some _=>.agg us.toArray
theorem run_load_gen{t:TypeId}{n:Option Nat}(h:gI P t=some n){b q:Nat}{us:List Value}(hl:us.length=gZ n)(hc:w.rangeAt b q us) :
  (Instr.loadAt t (.pointer (some ⟨b,q,none⟩))).run P w=.ok (ldV us n) w:=by
 cases n with
 |none=>
  match us,hl with
  |[u],_=>
   have hcell:w.cell? ⟨b,q,none⟩=some u:=by simpa using hc 0 u rfl
   simp[Instr.loadAt,Instr.sureAddr,loadVar,run_isAgg (cellsO_none h),hcell,ldV]
 |some m=>
  obtain⟨h1,h2⟩:=cellsO_some h;obtain⟨d,h3,h4⟩:=aK6 h1;exact run_loadAt_mid w b q t us d hc h3 h4 (by unfold dK at h2;rw[h2,hl];rfl)
theorem HN{q:C→Value→Prop}:∀(n:Nat) (f:Nat→C) (k:Nat) (us:List Value),us.length=n→(∀j u,us[j]?=some u→q (f (k+j)) u)→All2 q (aCI f k n) us
 |0,_,_,[],_,_=>trivial
 |0,_,_,_::_,h,_=>by simp at h
 |n+1,_,_,[],h,_=>by simp at h
 |n+1,f,k,u::us,h,hq=>⟨by simpa using hq 0 u rfl,HN n f (k+1) us (by simpa using h) (fun j v hv=>by
   have:=hq (j+1) v (by simpa using hv)
   rw[Nat.add_assoc,Nat.add_comm 1 j];exact this)⟩
theorem iX{n:Option Nat}{f:Nat→C}{k:Nat}{us:List Value}(hl:us.length=gZ n)(hq:∀j u,us[j]?=some u→CR β R w (f (k+j)) u):VR β R w (BZ f k n) (ldV us n):=by
 cases n with
 |none=>
  match us,hl with
  |[u],_=>exact hq 0 u rfl
 |some m=>exact⟨_,rfl,HN m f k us hl hq⟩
theorem All2.nth_get{q:C→Value→Prop}{vs:List C}{us:List Value}(h:All2 q vs us){j:Nat}{u:Value}(hu:us[j]?=some u):q (bN .top vs j) u:=by
 have hl:=h.length
 have hj:j<us.length:=(aV.1 hu).1
 obtain⟨y,hy,hr⟩:=h.get j vs[j] (aN (by omega));rw[hu]at hy;injection hy with hy;subst hy;rw[eK];simpa[show j<vs.length by omega] using hr
theorem MD(hs:eC G β R st a w){x:Operand}{ax:AX}{t:TypeId}{n:Option Nat}(hn:gI P t=some n)(hx:cX x=some ax)(ho:o.op=.load t x)
  {kk:V→List AO→Tr} {K:X→St→Prop} {ext:Ext} (h:(gL ext st kk (.load n ax)).holds P G K):dC P G st.h.length (fun v h'=>(kk v h').holds P G K) β R o a w:=by
 have hv:=aR hs hx
 simp only[gL]at h
 have run:∀b q us,a.eval x=.pointer (some ⟨b,q,none⟩)→us.length=gZ n→w.rangeAt b q us→(execOp a.eval o).run P w=.ok (.value (ldV us n)) w:=by
  intro b q us he hl hc;simp[execOp,ho,he,run_load_gen hn hl hc]
 split at h
 ·rename_i id off he
  rw[he]at hv;obtain⟨b,o0,g1,g2⟩:=hv
  have fin:∀(id o0:Nat) (vs:List C) (ty:TypeId),β id=some (b,o0)→bN .gone st.h id=.cells ty vs→(oN (bS (off+gZ n) (fK vs)) (kk (BZ (bN .top vs) off n) st.h)).holds P G K→dC P G st.h.length (fun v h'=>(kk v h').holds P G K) β R o a w:=by
   intro id o0 vs ty g1 hid h;obtain⟨c1,c2⟩:=cE h
   have hob:=hs.hs.obj id b o0 g1
   rw[hid]at hob;obtain⟨cs,g3,g4⟩:=hob
   have hlen:off+gZ n≤vs.length:=by rw[fH]at c1;simpa using c1
   have hsz:vs.length=cs.size:=by simpa using g4.length
   have hl:(cs.extract off (off+gZ n)).toList.length=gZ n:=by simp;omega
   refine dC.same hs (run b off _ g2 hl (World.rangeAt_of_block g3 off (gZ n))) c2 (iX hl ?_);intro j u hu
   have hj:j<gZ n:=by have:=(aV.1 hu).1;omega
   refine g4.nth_get ?_;rw[←hu,bC,bC,cQ];rw[if_pos (by omega)]
  split at h
  ·rename_i ty vs hid
   exact fin id o0 vs ty g1 hid h
  ·rename_i j b0 hid
   have hob:=hs.hs.obj id b o0 g1
   rw[hid]at hob;obtain⟨rfl,o1,g3⟩:=hob;split at h
   ·rename_i ty vs hid2
    exact fin j o1 vs ty g3 hid2 h
   ·exact h.elim
  ·exact h.elim
 ·rename_i id sz e q he
  rw[he]at hv;obtain⟨b,o0,g1,g2⟩:=hv;split at h
  ·rename_i ty sz' m f hid
   obtain⟨c0,h⟩:=h;obtain⟨c1,c2⟩:=cE h;simp only[aY,fU]at c1;obtain⟨c1,c3⟩:=c1;obtain rfl:=aH c1
   have hob:=hs.hs.obj id b o0 g1
   rw[hid]at hob;obtain⟨cs,g3,g30,g4,g5⟩:=hob
   have hrow:e*sz+sz≤m*sz:=by
    have:=bP sz (show e+1≤m by omega)
    rwa [dG,gW]at this
   have hl:(cs.extract (e*sz+q) (e*sz+q+gZ n)).toList.length=gZ n:=by simp;omega
   refine dC.same hs (run b _ _ g2 hl (World.rangeAt_of_block g3 _ (gZ n))) c2 (iX hl ?_);intro j u hu
   have hj:j<gZ n:=by have:=(aV.1 hu).1;omega
   obtain⟨u',h5,h6⟩:=g5 e (q+j) c0 (by omega);rw[bC,cQ,if_pos (by omega)]at hu
   have:e*sz+q+j=e*sz+(q+j):=by omega
   rw[this,h5]at hu;injection hu with hu;subst hu;exact h6.cr
  ·rename_i ty sz' m e0 vs f hid
   obtain⟨rfl,h⟩:=h;obtain⟨c1,c2⟩:=cE h;simp only[aY,fU]at c1;obtain⟨c1,c3⟩:=c1;obtain rfl:=aH c1
   have hob:=hs.hs.obj id b o0 g1
   rw[hid]at hob;obtain⟨cs,g3,g30,g4,c0,g41,g5⟩:=hob
   have hrow:e*sz+sz≤m*sz:=by
    have:=bP sz (show e+1≤m by omega)
    rwa [dG,gW]at this
   have hl:(cs.extract (e*sz+q) (e*sz+q+gZ n)).toList.length=gZ n:=by simp;omega
   refine dC.same hs (run b _ _ g2 hl (World.rangeAt_of_block g3 _ (gZ n))) c2 (iX hl ?_);intro j u hu
   have hj:j<gZ n:=by have:=(aV.1 hu).1;omega
   obtain⟨u',h5,h6,_⟩:=g5 e (q+j) c0 (by omega);rw[bC,cQ,if_pos (by omega)]at hu
   have:e*sz+q+j=e*sz+(q+j):=by omega
   rw[this,h5]at hu;injection hu with hu;subst hu;exact h6 rfl
  ·exact h.elim
 ·rename_i sz m f e q he
  rw[he]at hv;obtain⟨c1,c2⟩:=cE h;simp only[aY,fU]at c1;obtain⟨c3,c4⟩:=c1
  have c4:0<gZ n:=by simpa using c4
  obtain⟨ad,g1,g2,g3,g4⟩:=hv
  have had:=aA2 (by omega) (by omega) g4
  generalize ad.block=bb at had
  generalize ad.off=oo at had
  subst had;rw[add_mid]at g1
  have key:∀j,j<gZ n→∃u,w.cell? ⟨bb,oo+(e*sz+q)+j,none⟩=some u∧PR R w (f e (q+j)) u:=by
   intro j hj;obtain⟨u,h5,h6⟩:=g4 e (q+j) g2 (by omega);rw[add_mid]at h5;exact⟨u,by rw[←h5];congr 2;omega,h6⟩
  obtain⟨us,hl,hus⟩:∃us:List Value,us.length=gZ n∧∀j u,us[j]?=some u→w.cell? ⟨bb,oo+(e*sz+q)+j,none⟩=some u∧PR R w (f e (q+j)) u:=by
   clear h c2 c3 c4 hn run
   generalize gZ n=k at key
   induction k with
   |zero=>exact⟨[],rfl,fun j u hu=>by simp at hu⟩
   |succ k ih=>
    obtain⟨us,h1,h2⟩:=ih (fun j hj=>key j (by omega));obtain⟨u,h3⟩:=key k (by omega);refine⟨us++[u],by simp[h1],fun j v hj=>?_⟩
    by_cases e1:j<us.length
    ·rw[cZ e1]at hj;exact h2 j v hj
    ·rw[List.getElem?_append_right (by omega)]at hj
     have:j-us.length=0:=by
      have:=(aV.1 hj).1
      simp at this;omega
     rw[this]at hj;simp at hj;subst hj
     obtain rfl:j=k:=by omega
     exact h3
  exact dC.same hs (run bb _ us g1 hl (fun j v hv=>(hus j v hv).1)) c2 (iX hl (fun j u hu=>(hus j u hu).2))
 ·exact h.elim
end
section
variable {P:Program} {G:Nat→Option Obj} {β:Bt} {R:Nat→Prop} {w:World} {st:St} {a:Act} {o:Oper} {KV:V→List AO→Prop}
theorem mB{x:C}{u:Value}(h:CR β R w x u)(h1:kZ x=true):u.oneCell'=true:=by
 cases x with
 |p x=>
  cases x with
  |z v=>have h:u=v:=h;subst h;exact h1
  |l sz n f=>obtain⟨A,c,rfl,_⟩:=h;rfl
  |_=>have h:u=_:=h;subst h;rfl
 |ptr=>obtain⟨b,o,_,rfl⟩:=h;rfl
 |rp=>obtain⟨b,o,_,rfl⟩:=h;rfl
 |lp=>obtain⟨ad,rfl,_⟩:=h;rfl
 |sl=>obtain⟨A,c,rfl,_⟩:=h;rfl
 |mp=>obtain⟨b,N,_,rfl⟩:=h;rfl
 |fn=>obtain⟨us,vs,rfl,_⟩:=h;rfl
 |own=>cases h1
 |top=>cases h1
theorem cells_one{u:Value}(h:u.oneCell'=true):u.cells = #[u]:=by cases u<;>first|rfl|cases h
theorem kD:∀ {cs:List C} {us:List Value},All2 (CR β R w) cs us→hH cs=true→∀v∈us,v.oneCell'=true
 |[],[],_,_,v,hv=>by cases hv
 |[],_::_,h,_,_,_=>h.elim
 |_::_,[],h,_,_,_=>h.elim
 |c::cs,u::us,h,h1,v,hv=>by
  simp only[hH,aY]at h1;cases hv with
  |head=>exact mB h.1 h1.1
  |tail _ hv=>exact kD h.2 h1.2 v hv
theorem iI{x:V}{u:Value}{cs:List C}(h:VR β R w x u)(hc:x.cells?=some cs)(h1:hH cs=true):All2 (CR β R w) cs u.cells.toList∧∀v∈u.cells.toList,v.oneCell'=true:=by
 cases x with
 |c x=>
  simp only[V.cells?,aD]at hc;subst hc;simp only[hH,Bool.and_true]at h1
  have:=mB h h1
  rw[cells_one this];exact⟨⟨h,trivial⟩,fun v hv=>by simp at hv;subst hv;exact this⟩
 |a ds=>
  simp only[V.cells?,aD]at hc;subst hc;obtain⟨us,rfl,h2⟩:=h;exact⟨h2,kD h2 h1⟩
 |t vs=>cases hc
theorem dC.new(hs:eC G β R st a w){us:Array Value}{cs:List C}{ty:TypeId}(hr:(execOp a.eval o).run P w=.ok (.value (.pointer (some ⟨w.heap.size,0,none⟩))) (w.alloc (.cells us ty)))(hc:All2 (CR β R w) cs us.toList)
  (hk:KV (.c (.ptr (fK st.h) 0)) (iF (.cells ty cs) st.h)):dC P G st.h.length KV β R o a w:=by
 rw[fH]at hk
 exact .inl ⟨_,_,hr,bn β st.h.length (w.heap.size,0),R,_,_,hk,⟨w.heap.size,0,fN _ _ _,rfl⟩,
  kT hs.hs (fun β' w' kp hb=>⟨us,hb,hc.mono fun _ _=>CR.keep kp⟩),tY hs.hs _ _ rfl,fun i hi=>dN _ (by omega)⟩
theorem jA{t:TypeId}{z:List PV}(h:iE P t=some z):∃v,(∀w,(zeroValue t).run P w=.ok v w)∧z=v.cells.toList.map HP:=by
 unfold iE at h;cases hq:P.info? t with
 |none=>simp[hq]at h
 |some i=>
  cases hz:i.zero with
  |none=>simp[hq,hz]at h
  |some v=>simp[hq,hz]at h;exact⟨v,fun w=>by simp[zeroValue,typeInfo,hq,hz],by simp[←h]⟩
theorem BX:∀l:List PV,iP l=l.map .p
 |[]=>rfl
 |_::r=>by simp[iP,BX r]
theorem pD(v:Value):All2 (CR β R w) (iP (v.cells.toList.map HP)) v.cells.toList:=by
 rw[BX,List.map_map];exact All2.map_left _ (All2.self (q:=fun x y=>CR β R w ((C.p∘HP) x) y) (fun x=>rW x) _)
theorem DS(hs:eC G β R st a w){t:TypeId}{z:List PV}(hz:iE P t=some z)(ho:o.op=.alloc t)(hk:KV (.c (.ptr (fK st.h) 0)) (iF (.cells t (iP z)) st.h)):dC P G st.h.length KV β R o a w:=by
 obtain⟨v,hv,rfl⟩:=jA hz;refine dC.new hs (us:=v.cells) ?_ (pD v) hk;simp[execOp,ho,Instr.alloc,hv,newVar,newRow]
theorem UD(hs:eC G β R st a w){t:TypeId}{x:Operand}{ax:AX}(hx:cX x=some ax)(ho:o.op=.box t x){kk:V→List AO→Tr}{K:X→St→Prop}{ext:Ext}(h:(gL ext st kk (.box t ax)).holds P G K) :
  dC P G st.h.length (fun v h'=>(kk v h').holds P G K) β R o a w:=by
 have hv:=aR hs hx
 simp only[gL]at h;split at h
 ·rename_i cs hc
  obtain⟨h1,h2⟩:=cE h;refine dC.new hs (us:=(a.eval x).cells) ?_ (iI hv hc h1).1 h2;simp[execOp,ho,Instr.box,newVar,newRow]
 ·exact h.elim
theorem UA(hs:eC G β R st a w){x:Operand}{ax:AX}{t:TypeId}{k:Nat}{fs:Array Field}{f:Field}{n:Option Nat}(hf:P.underlying t=some (.struct fs))(hk:fs[k]?=some f)(hn:gI P f.type=some n)(hx:cX x=some ax)(ho:o.op=.field t x k)
  {kk:V→List AO→Tr} {K:X→St→Prop} {ext:Ext} (h:(gL ext st kk (.fld f.offset n ax)).holds P G K):dC P G st.h.length (fun v h'=>(kk v h').holds P G K) β R o a w:=by
 have hv:=aR hs hx
 simp only[gL]at h;split at h
 ·rename_i cs he
  rw[he]at hv;obtain⟨us,hu,ha⟩:=hv;obtain⟨c1,c2⟩:=cE h;rw[fH]at c1
  have c1:f.offset+gZ n≤cs.length:=by simpa using c1
  have hlen:=ha.length
  have hsz:us.toList.length=us.size:=by simp
  have hl:(us.extract f.offset (f.offset+gZ n)).toList.length=gZ n:=by simp;omega
  refine dC.same hs (u:=ldV (us.extract f.offset (f.offset+gZ n)).toList n) ?_ c2 (iX hl ?_)
  ·cases n with
   |none=>
    have hlt:f.offset<us.size:=by simp only[gZ]at c1;omega
    simp[execOp,ho,hu,Instr.field,run_underlying hf,hk,asAgg,part,run_isAgg (cellsO_none hn),hlt,ldV,gZ]
   |some m=>
    obtain⟨h1,h2⟩:=cellsO_some hn;simp[execOp,ho,hu,Instr.field,run_underlying hf,hk,asAgg,part,run_isAgg h1,run_sizeOf h2,ldV,gZ,-Array.toList_extract]
  ·intro j u hj
   have hjl:j<gZ n:=by have:=(aV.1 hj).1;omega
   refine ha.nth_get ?_;rw[←hj,bC,bC,cQ,if_pos (by omega)]
 ·exact h.elim
theorem run_store_gen{t:TypeId}{n:Nat}(hn:dK P t=some n){v:Value}(hl:v.cells.size=n){b q:Nat}(ht:w.there b q v.cells.size)(h1:∀u∈v.cells.toList,u.oneCell'=true) :
  (Instr.storeAt t (.pointer (some ⟨b,q,none⟩)) v).run P w=.ok () (w.setCells b q v.cells.toList):=by
 have e:(Instr.storeAt t (.pointer (some ⟨b,q,none⟩)) v)=(Instr.storeAt t (.pointer (some ⟨b,q,none⟩)) (.agg v.cells)):=rfl
 rw[e];exact run_storeAt_mid w b q t v.cells ht (by unfold dK at hn;rw[hn,hl]) (Array.all_eq_true_iff_forall_mem.2 fun u hu=>h1 u (by simpa using hu))
theorem there_of_block{b:Nat}{cs:Array Value}{ty:TypeId}(hb:w.heap[b]?=some (.cells cs ty (0,0))){q n:Nat}(hq:q+n≤cs.size):w.there b q n:=by
 intro j hj;rw[cell_of_row w b (q+j) cs ty (0,0) hb];refine⟨by simp;omega,?_⟩;simp[World.frozen?,hb]
theorem setA_get:∀(vs:List Value) (us:Array Value) (q j:Nat),j<us.size→(setA us q vs)[j]?=if q≤j∧j<q+vs.length then vs[j-q]? else us[j]?
 |[],us,q,j,_=>by simp[setA];omega
 |v::r,us,q,j,hj=>by
  rw[setA,setA_get r _ (q+1) j (by simpa using hj)]
  by_cases e:j=q
  ·subst e
   rw[if_neg (by omega),if_pos (by simp)];simp[hj]
  ·by_cases e2:q+1≤j∧j<q+1+r.length
   ·rw[if_pos e2,if_pos (by simp;omega)]
    have:j-q=j-(q+1)+1:=by omega
    rw[this];simp
   ·rw[if_neg e2,if_neg (by simp;omega)]
    simp[Array.getElem?_setIfInBounds_ne (show q≠j by omega)]
theorem rY:∀(cs vs:List C) (o:Nat),(jK vs o cs).length=vs.length
 |[],vs,o=>rfl
 |c::cs,vs,o=>by rw[jK,rY cs,jB,fI]
theorem zD:∀(cs vs:List C) (o k:Nat),k<vs.length→bN .top (jK vs o cs) k=if o≤k∧k<o+cs.length then bN .top cs (k-o) else bN .top vs k
 |[],vs,o,k,hk=>by rw[if_neg (by simp;try omega)];rfl
 |c::cs,vs,o,k,hk=>by
  rw[jK,zD cs _ _ _ (by rw[jB,fI];exact hk)]
  by_cases e:k=o
  ·subst e
   rw[if_neg (by omega),if_pos (by simp),Nat.sub_self,gQ _ _ _ hk];rfl
  ·rw[fC _ _ _ (fun h=>e h.symm)]
   by_cases e2:o+1≤k∧k<o+1+cs.length
   ·rw[if_pos e2,if_pos (by simp;omega)]
    have:k-o=k-(o+1)+1:=by omega
    rw[this];rfl
   ·rw[if_neg e2,if_neg (by simp;omega)]
theorem pM{c:C}(h:kZ c=true):c.isOwn=false:=by cases c<;>first|rfl|cases h
theorem aIM{cs:List C}(h:hH cs=true){k:Nat}(hk:k<cs.length):(bN .top cs k).isOwn=false:=by
 induction cs generalizing k with
 |nil=>simp at hk
 |cons c cs ih=>
  simp only[hH,aY]at h;cases k with
  |zero=>exact pM h.1
  |succ k=>exact ih h.2 (by simpa using hk)
theorem DP(hs:eC G β R st a w){x y:Operand}{ax ay:AX}{t:TypeId}{n:Nat}(hn:dK P t=some n)(hx:cX x=some ax)(hy:cX y=some ay)(ho:o.op=.store t x y)
  {kk:V→List AO→Tr} {K:X→St→Prop} {ext:Ext} (h:(gL ext st kk (.store n ax ay)).holds P G K):dC P G st.h.length (fun v h'=>(kk v h').holds P G K) β R o a w:=by
 have hv:=aR hs hx
 have hw:=aR hs hy
 simp only[gL]at h;split at h
 ·rename_i cs hcs
  have fin:∀(id b o0 q:Nat) (x':AO) (us:Array Value) (ty:TypeId),β id=some (b,o0)→(bN .gone st.h id).live=true→a.eval x=.pointer (some ⟨b,q,none⟩)→w.heap[b]?=some (.cells us ty (0,0))→q+n≤us.size →
    cs.length=n→hH cs=true→(∀w',jC β R w β R w'→vT β w β w'→w'.heap[b]?=some (.cells (setA us q (a.eval y).cells.toList) ty (0,0))→OR β R w' x' b o0)→(kk (.t []) (upd x' st.h id)).holds P G K→dC P G st.h.length (fun v h'=>(kk v h').holds P G K) β R o a w:=by
   intro id b o0 q x' us ty g1 hl g2 g3 g4 g5 g6 g7 g8;obtain⟨c1,c2⟩:=iI hw hcs g6
   have hsz:(a.eval y).cells.size=n:=by have:=c1.length;simp at this;omega
   have hrun:=run_store_gen (P:=P) (w:=w) hn hsz (b:=b) (q:=q) (by rw[hsz];exact there_of_block g3 g4) c2
   obtain⟨p1,p2,p3,p4⟩:=setCells_parts (a.eval y).cells.toList w b q
   have hnew:=heap_setCells (a.eval y).cells.toList w b q us ty g3
   obtain⟨r1,r2⟩:=pP hs.hs g1 hl (x:=x') p1 p2 p3 p4 (fun j hj=>setCells_other _ w b q j hj) (fun kp kq=>g7 _ kp kq hnew);refine .inr (.inl ⟨_,?_,β,R,.t [],_,g8,⟨#[],rfl,trivial⟩,r1,r2,fun _ _=>rfl⟩);simp[execOp,ho,g2,hrun]
  split at h
  ·rename_i id off he
   rw[he]at hv;obtain⟨b,o0,g1,g2⟩:=hv
   have fin2:∀(id o0:Nat) (vs:List C) (ty:TypeId),β id=some (b,o0)→bN .gone st.h id=.cells ty vs→(oN (bE (fK cs) n&&bS (off+n) (fK vs)&&hH cs) (kk (.t []) (upd (.cells ty (jK vs off cs)) st.h id))).holds P G K→dC P G st.h.length (fun v h'=>(kk v h').holds P G K) β R o a w:=by
    intro id o0 vs ty g1 hid h;obtain⟨c1,c2⟩:=cE h;simp only[aY,fU,fH]at c1;obtain⟨⟨c1,c3⟩,c4⟩:=c1
    have hob:=hs.hs.obj id b o0 g1
    rw[hid]at hob;obtain⟨us,g3,g4⟩:=hob
    have hsz:vs.length=us.size:=by simpa using g4.length
    refine fin id b o0 off _ us ty g1 (by rw[hid];rfl) g2 g3 (by omega) (aH c1) c4 ?_ c2
    exact fun w' kp kq hb=>⟨_,hb,All2.setA off ((iI hw hcs c4).1.mono fun _ _=>CR.keep kp) (g4.mono fun _ _=>CR.keep kp)⟩
   split at h
   ·rename_i ty vs hid
    exact fin2 id o0 vs ty g1 hid h
   ·rename_i j b0 hid
    have hob:=hs.hs.obj id b o0 g1
    rw[hid]at hob;obtain⟨rfl,o1,g3⟩:=hob;split at h
    ·rename_i ty vs hid2
     exact fin2 j o1 vs ty g3 hid2 h
    ·exact h.elim
   ·exact h.elim
  ·rename_i id sz e q he
   rw[he]at hv;obtain⟨b,o0,g1,g2⟩:=hv;split at h
   ·rename_i ty sz' m f hid
    obtain⟨c0,h⟩:=h;obtain⟨c1,c2⟩:=cE h;simp only[aY,fU,fH]at c1;obtain⟨⟨⟨c1,c5⟩,c3⟩,c4⟩:=c1;obtain rfl:=aH c5
    have c1:=aH c1
    have hob:=hs.hs.obj id b o0 g1
    rw[hid]at hob;obtain⟨us,g3,g30,g4,g5⟩:=hob
    have hrow:e*sz+sz≤m*sz:=by
     have:=bP sz (show e+1≤m by omega)
     rwa [dG,gW]at this
    refine fin id b o0 _ _ us ty g1 (by rw[hid];rfl) g2 g3 (by omega) c1 c4 ?_ c2;intro w' kp kq hb
    refine⟨_,hb,by rw[setA_size];exact g30,g4,?_⟩;intro e' k' he' hk'
    obtain⟨u0,h5,h6⟩:=g5 e' k' he' hk'
    have hcl:=(iI hw hcs c4).1
    have hlen:=hcl.length
    have hget:=setA_get (a.eval y).cells.toList us (e*sz+q) (e'*sz+k') (by have:=(bF.1 h5).1;exact this)
    dsimp only
    by_cases e1:e'=e
    ·subst e1
     rw[if_pos rfl]
     by_cases e2:q≤k'∧k'<q+n
     ·rw[if_pos e2]
      rw[if_pos (by omega)]at hget
      have hidx:e'*sz+k'-(e'*sz+q)=k'-q:=by omega
      rw[hidx]at hget
      obtain⟨uu,h7⟩:∃uu,(a.eval y).cells.toList[k'-q]?=some uu:=⟨_,aN (by omega)⟩
      exact⟨uu,hget.trans h7,rS.of (aIM c4 (by omega)) (CR.keep kp (hcl.nth_get h7))⟩
     ·rw[if_neg e2]
      rw[if_neg (by omega)]at hget;exact⟨u0,hget.trans h5,rS.keep kp (kq.at _) h6⟩
    ·rw[if_neg e1]
     have hne:¬(e*sz+q≤e'*sz+k'∧e'*sz+k'<e*sz+q+(a.eval y).cells.toList.length):=by
      rcases Nat.lt_or_gt_of_ne e1 with hlt|hlt
      ·have:=bP sz (show e'+1≤e by omega)
       rw[dG,gW]at this;omega
      ·have:=bP sz (show e+1≤e' by omega)
       rw[dG,gW]at this;omega
     rw[if_neg hne]at hget;exact⟨u0,hget.trans h5,rS.keep kp (kq.at _) h6⟩
   ·rename_i ty sz' m e0 vs f hid
    obtain⟨rfl,h⟩:=h;obtain⟨c1,c2⟩:=cE h;simp only[aY,fU,fH]at c1;obtain⟨⟨⟨c1,c5⟩,c3⟩,c4⟩:=c1;obtain rfl:=aH c5
    have c1:=aH c1
    have hob:=hs.hs.obj id b o0 g1
    rw[hid]at hob;obtain⟨us,g3,g30,g4,c0,g41,g5⟩:=hob
    have hrow:e*sz+sz≤m*sz:=by
     have:=bP sz (show e+1≤m by omega)
     rwa [dG,gW]at this
    refine fin id b o0 _ _ us ty g1 (by rw[hid];rfl) g2 g3 (by omega) c1 c4 ?_ c2;intro w' kp kq hb
    refine⟨_,hb,by rw[setA_size];exact g30,g4,c0,by rw[rY];exact g41,?_⟩;intro e' k' he' hk'
    obtain⟨u0,h5,h6,h60⟩:=g5 e' k' he' hk'
    have hcl:=(iI hw hcs c4).1
    have hlen:=hcl.length
    have hget:=setA_get (a.eval y).cells.toList us (e*sz+q) (e'*sz+k') (by have:=(bF.1 h5).1;exact this)
    by_cases e1:e'=e
    ·subst e1
     by_cases e2:q≤k'∧k'<q+n
     ·rw[if_pos (by omega)]at hget
      have hidx:e'*sz+k'-(e'*sz+q)=k'-q:=by omega
      rw[hidx]at hget
      obtain⟨uu,h7⟩:∃uu,(a.eval y).cells.toList[k'-q]?=some uu:=⟨_,aN (by omega)⟩
      refine⟨uu,hget.trans h7,fun _=>?_,fun h=>absurd rfl h⟩;rw[zD _ _ _ _ (by omega),if_pos (by omega)];exact CR.keep kp (hcl.nth_get h7)
     ·rw[if_neg (by omega)]at hget
      refine⟨u0,hget.trans h5,fun _=>?_,fun h=>absurd rfl h⟩;rw[zD _ _ _ _ (by omega),if_neg (by omega)];exact CR.keep kp (h6 rfl)
    ·have hne:¬(e*sz+q≤e'*sz+k'∧e'*sz+k'<e*sz+q+(a.eval y).cells.toList.length):=by
       rcases Nat.lt_or_gt_of_ne e1 with hlt|hlt
       ·have:=bP sz (show e'+1≤e by omega)
        rw[dG,gW]at this;omega
       ·have:=bP sz (show e+1≤e' by omega)
        rw[dG,gW]at this;omega
     rw[if_neg hne]at hget;exact⟨u0,hget.trans h5,fun h=>absurd h e1,fun h=>rS.keep kp (kq.at _) (h60 h)⟩
   ·exact h.elim
  ·exact h.elim
 ·exact h.elim
end
section
variable {P:Program} {G:Nat→Option Obj} {β:Bt} {R:Nat→Prop} {w:World} {st:St} {a:Act} {o:Oper}
def Bnd(a:Act)(d:Nat)(lo:Option Operand)(n:Int):Prop:=(lo=none∧n=d)∨∃x k,lo=some x∧a.eval x=.int k n
theorem hP(hs:eC G β R st a w){lo:Option Operand}{al:Option AX}(hl:mA lo=some al){d:Nat}{k:Int→Tr}{K:X→St→Prop}(h:(xX st d al k).holds P G K) :
  ∃n,Bnd a d lo n∧(k n).holds P G K:=by
 cases lo with
 |none=>
  simp only[mA,aD]at hl;subst hl;exact⟨d,.inl ⟨rfl,rfl⟩,h⟩
 |some x=>
  simp only[mA,Option.map_eq_some_iff]at hl;obtain⟨ax,hx,rfl⟩:=hl;simp only[xX]at h
  have hv:=aR hs hx
  split at h
  ·rename_i kk n he
   rw[he]at hv;exact⟨n,.inr ⟨x,kk,rfl,hv⟩,h⟩
  ·exact h.elim
theorem run_bound{k:IntKind}{n:Int}{y:Nat}{code:BoundsCode}(h1:0≤n)(h2:n≤y):(Instr.sliceBound (.int k n) y code).run P w=.ok n.toNat w:=by
 unfold Instr.sliceBound asIntOf;simp only[Sem.run_bind,Sem.run_pure,Result.andThen_ok,if_pos (show 0≤n∧n≤(y:Int) from⟨h1,h2⟩)]
theorem run_bounds{b:Bool}{len cap:Nat}{lo hi:Option Operand}{l h:Int}(hl:Bnd a 0 lo l)(hh:Bnd a len hi h)(h1:0≤l)(h2:l≤h)(h3:h≤cap) :
  (Instr.sliceBounds b len cap (lo.map a.eval) (hi.map a.eval) none).run P w=.ok (l.toNat,h.toNat,cap) w:=by
 have q1:∀code k,(Instr.sliceBound (.int k h) cap code).run P w=.ok h.toNat w:=fun code k=>run_bound (by omega) h3
 have q2:∀code k,(Instr.sliceBound (.int k l) h.toNat code).run P w=.ok l.toNat w:=fun code k=>run_bound h1 (by omega)
 rcases hh with⟨rfl,rfl⟩|⟨x,k,rfl,hx⟩<;>rcases hl with⟨rfl,rfl⟩|⟨y,k',rfl,hy⟩
 ·simp[Instr.sliceBounds]
 ·have q2:=q2 .sliceB k'
  simp only[Int.toNat_natCast]at q2;simp[Instr.sliceBounds,hy,q2]
 ·simp[Instr.sliceBounds,hx,q1]
 ·simp[Instr.sliceBounds,hx,hy,q1,q2]
theorem LW(hs:eC G β R st a w){t:TypeId}{x:Operand}{lo hi:Option Operand}{ax:AX}{al ah:Option AX}(hu:P.underlying t=some .string)(hx:cX x=some ax)(hl:mA lo=some al)(hh:mA hi=some ah)(ho:o.op=.slice t x lo hi none)
  {kk:V→List AO→Tr} {K:X→St→Prop} {ext:Ext} (h:(gL ext st kk (.slcS ax al ah)).holds P G K):dC P G st.h.length (fun v h'=>(kk v h').holds P G K) β R o a w:=by
 have hv:=aR hs hx
 simp only[gL]at h;split at h
 ·rename_i s he
  rw[he]at hv
  have hv:a.eval x=.string s:=hv
  obtain⟨n,hn,h⟩:=hP hs hh h;obtain⟨m,hm,h⟩:=hP hs hl h;obtain⟨⟨h1,h2,h3⟩,h⟩:=h;refine dC.same hs (u:=.string (s.extract m.toNat n.toNat)) ?_ h rfl;simp[execOp,ho,hv,Instr.sliceAt,Instr.slice,run_underlying hu,run_bounds hm hn h1 h2 h3]
 ·exact h.elim
theorem TU(hs:eC G β R st a w){t e:TypeId}{sz:Nat}{x:Operand}{lo hi:Option Operand}{ax:AX}{al ah:Option AX}(hu:P.underlying t=some (.slice e))(hsz:dK P e=some sz)(hx:cX x=some ax)(hl:mA lo=some al)(hh:mA hi=some ah)(ho:o.op=.slice t x lo hi none)
  {kk:V→List AO→Tr} {K:X→St→Prop} {ext:Ext} (h:(gL ext st kk (.slc sz ax al ah)).holds P G K):dC P G st.h.length (fun v h'=>(kk v h').holds P G K) β R o a w:=by
 have hv:=aR hs hx
 have run:∀A len cap (l n:Int),a.eval x=.slice A len cap→Bnd a 0 lo l→Bnd a len hi n→0≤l→l≤n→n≤cap →
   (execOp a.eval o).run P w=.ok (.value (.slice (if cap=l.toNat then A else A.map (·.add (l.toNat*sz))) (n.toNat-l.toNat) (cap-l.toNat))) w:=by
  intro A len cap l n he hl hn h1 h2 h3;simp[execOp,ho,he,Instr.sliceAt,Instr.slice,run_underlying hu,run_sizeOf hsz,run_bounds hl hn h1 h2 h3]
 simp only[gL]at h;split at h
 ·rename_i id sz' off len he
  rw[he]at hv;obtain⟨c1,h⟩:=cE h;obtain rfl:=aH c1;obtain⟨n,hn,h⟩:=hP hs hh h;obtain⟨m,hm,h⟩:=hP hs hl h;obtain⟨⟨h1,h2,h3⟩,h⟩:=h;obtain⟨A,c,g1,g2,g3,g4⟩:=hv;refine dC.same hs (run A len c m n g1 hm hn h1 h2 (by omega)) h ?_;refine⟨_,_,rfl,by omega,by omega,?_⟩
  rcases g4 with⟨g5,g6,g7⟩|⟨b,N,g5,rfl,g7⟩
  ·left
   have hm0:m.toNat=0:=by omega
   refine⟨?_,by omega,by omega⟩;rw[hm0,g7];simpa using g5
  ·by_cases hc:c=m.toNat
   ·by_cases hm0:m.toNat=0
    ·right
     refine⟨b,N,g5,?_,?_⟩
     ·rw[if_pos hc,hm0];simp
     ·rw[←g7,hm0];simp
    ·left
     exact⟨.inr (by omega),by omega,by omega⟩
   ·right
    refine⟨b,N,g5,?_,?_⟩
    ·rw[if_neg hc,dS,add_mid,dG]
    ·rw[←g7];congr 1;omega
 ·rename_i sz' m0 f he
  rw[he]at hv;obtain⟨c1,h⟩:=cE h;obtain rfl:=aH c1;obtain⟨n,hn,h⟩:=hP hs hh h;obtain⟨m,hm,h⟩:=hP hs hl h;obtain⟨⟨h1,h2,h3⟩,h⟩:=h;obtain⟨A,c,g1,g2,g3,g4⟩:=hv;refine dC.same hs (run A m0 c m n g1 hm hn h1 h2 (by omega)) h ?_;refine⟨_,_,rfl,by omega,by omega,fun hp=>?_⟩;obtain⟨ad,rfl,g5,g6⟩:=g4 (by omega);refine⟨ad.add (m.toNat*sz),by rw[if_neg (by omega),dS],by rw[sR];exact g5,fun e q he hq=>?_⟩;obtain⟨u,q1,q2⟩:=g6 (e+m.toNat) q (by omega) hq;refine⟨u,?_,q2⟩;rw[OI,←q1];congr 2;rw[dG];omega
 ·rename_i he
  rw[he]at hv
  have hv:a.eval x=.slice none 0 0:=hv
  obtain⟨n,hn,h⟩:=hP hs hh h;obtain⟨m,hm,h⟩:=hP hs hl h;obtain⟨⟨e1,e2⟩,hk⟩:=h;rw[e1]at hm;rw[e2]at hn;refine dC.same hs (run none 0 0 0 0 hv hm hn (by omega) (by omega) (by omega)) hk ?_
  show Value.slice _ _ _=_
  simp
 ·exact h.elim
end
section
variable {P:Program} {G:Nat→Option Obj} {β:Bt} {R:Nat→Prop} {w:World} {st:St} {a:Act} {o:Oper}
theorem kR{k k':IntKind}(h:kEq k k'=true):k=k':=by cases k<;>cases k'<;>first|rfl|cases h
theorem iT{vs:List C}{xs:Array Value}(h:All2 (CR β R w) vs xs.toList){i:Nat}{p:PV}(hp:bN .top vs i=.p p):∃u,xs[i]?=some u∧PR R w p u:=by
 rw[eK]at hp
 rcases Nat.lt_or_ge i vs.length with hl|hl
 ·obtain⟨y,h1,h2⟩:=h.get i vs[i] (aN hl)
  have e:vs[i]=.p p:=by simpa[hl] using hp
  rw[e]at h2;exact⟨y,by simpa using h1,h2⟩
 ·rw[aG,bL hl]at hp;cases hp
theorem rG{t:TypeId}{pk:PK}(h:DM P t=some pk):P.plainKey t=true:=by
 unfold DM at h;unfold Program.plainKey;split at h<;>simp_all
theorem pU{vs vs':List C}{xs ys:Array Value}(hx:All2 (CR β R w) vs xs.toList)(hy:All2 (CR β R w) vs' ys.toList){K:X→St→Prop}(d:Nat) :
  ∀(fs:List Field) (l:List (Nat×PK)) (k:Bool→Tr),AA P fs=some l→(pV vs vs' l k).holds P G K→∃b,(Op.eqFields (d+1) xs ys fs).run P w=.ok b w∧(k b).holds P G K
 |[],l,k,hl,h=>by
  simp only[AA,aD]at hl;subst hl;exact⟨true,by simp[Op.eqFields],h⟩
 |f::fs,l,k,hl,h=>by
  simp only[AA]at hl;split at hl
  ·rename_i hn
   simp only[Option.bind_eq_bind,Option.bind_eq_some_iff,Option.pure_def,aD]at hl;obtain⟨pk,h1,l',h2,rfl⟩:=hl
   have hp:=rG h1
   have hn:f.name ≠ "_" := by simpa using hn
   have step:∀(u u':Value) (b:Bool),xs[f.offset]?=some u→ys[f.offset]?=some u'→(eE (d+1) f.type u u').run P w=.ok b w →
     (pV vs vs' l' fun c=>k (b&&c)).holds P G K→∃b,(Op.eqFields (d+1) xs ys (f::fs)).run P w=.ok b w∧(k b).holds P G K:=by
    intro u u' b e1 e2 e3 hh;obtain⟨c,q1,q2⟩:=pU hx hy d fs l' _ h2 hh;refine⟨b&&c,?_,q2⟩;simp only[Op.eqFields,hn,ne_eq,not_false_eq_true,if_true,Sem.run_bind,run_part_plain (w:=w) hp e1,run_part_plain (w:=w) hp e2,e3,Result.andThen_ok];cases b
    ·simp
    ·simpa using q1
   simp only[pV]at h;split at h
   ·rename_i k1 a1 k2 a2 hv hv'
    obtain⟨hk,hh⟩:=cE h;obtain rfl:=kR hk;obtain⟨u,q1,q2⟩:=iT hx hv;obtain⟨u',q3,q4⟩:=iT hy hv'
    have q2:u=.int k1 a1:=q2
    have q4:u'=.int k1 a2:=q4
    subst q2;subst q4
    have ht:∃kk,P.underlying f.type=some (.int kk):=by unfold DM at h1;split at h1<;>simp_all
    obtain⟨kk,ht⟩:=ht;exact step _ _ _ q1 q3 (run_equalIn_int w d f.type k1 kk a1 a2 ht) hh
   ·rename_i a1 a2 hv hv'
    obtain⟨u,q1,q2⟩:=iT hx hv;obtain⟨u',q3,q4⟩:=iT hy hv'
    have q2:u=.string a1:=q2
    have q4:u'=.string a2:=q4
    subst q2;subst q4
    have ht:P.underlying f.type=some .string:=by unfold DM at h1;split at h1<;>simp_all
    exact step _ _ _ q1 q3 (run_equalIn_string w d f.type a1 a2 ht) h
   ·rename_i a1 a2 hv hv'
    obtain⟨u,q1,q2⟩:=iT hx hv;obtain⟨u',q3,q4⟩:=iT hy hv'
    have q2:u=.bool a1:=q2
    have q4:u'=.bool a2:=q4
    subst q2;subst q4
    have ht:P.underlying f.type=some .bool:=by unfold DM at h1;split at h1<;>simp_all
    exact step _ _ _ q1 q3 (run_equalIn_bool' w d f.type a1 a2 ht) h
   ·exact h.elim
  ·cases hl
theorem UB(hs:eC G β R st a w){op:BinOp}{t t':TypeId}{x y:Operand}{ax ay:AX}{fs:Array Field}{l:List (Nat×PK)}{neg:Bool}(hu:P.underlying t=some (.struct fs))(hg:(P.stoodInHeld t||P.eqGuardType P.depth t)=false)(hn:kN op=some neg)(hl:AA P fs.toList=some l)
  (hx:cX x=some ax) (hy:cX y=some ay) (ho:o.op=.binOp op t x y t') {kk:V→List AO→Tr} {K:X→St→Prop} {ext:Ext} (h:(gL ext st kk (.eqs neg l ax ay)).holds P G K) :
  dC P G st.h.length (fun v h'=>(kk v h').holds P G K) β R o a w:=by
 have hv:=aR hs hx
 have hv':=aR hs hy
 simp only[Bool.or_eq_false_iff]at hg
 have hf:P.fieldsOf t=fs:=by unfold Program.fieldsOf;simp[hu]
 simp only[gL]at h;split at h
 ·rename_i vs vs' e1 e2
  rw[e1]at hv;rw[e2]at hv';obtain⟨us,hu1,ha⟩:=hv;obtain⟨us',hu2,ha'⟩:=hv';obtain⟨b,q1,q2⟩:=pU ha ha' 9998 fs.toList l _ hl h
  have he:(eE 10000 t (.agg us) (.agg us')).run P w=.ok b w:=by
   rw[run_equalIn_struct w 9999 t us us' (by rw[hf];exact hu) hg.1,hf];exact q1
  have hgd:=run_eqGuard_agg (w:=w) op t x y us us' hg.2
  cases op<;>simp only[kN,aD,reduceCtorEq]at hn
  ·subst hn
   exact dC.same hs (u:=.bool b) (by simp[execOp,ho,hu1,hu2,hgd,run_eql_struct,he]) q2 rfl
  ·subst hn
   exact dC.same hs (u:=.bool (!b)) (by simp[execOp,ho,hu1,hu2,hgd,run_neq_struct,he]) q2 rfl
 ·exact h.elim
theorem pT{vs vs':List C}{xs ys:Array Value}(hx:All2 (CR β R w) vs xs.toList)(hy:All2 (CR β R w) vs' ys.toList){K:X→St→Prop}(d:Nat){e:TypeId}{pk:PK}(h1:DM P e=some pk)(hc:P.cellsOf e=1) :
  ∀(n i:Nat) (k:Bool→Tr),(pV vs vs' (HA pk i n) k).holds P G K→∃b,(Op.eqItems (d+1) e (P.cellsOf e) xs ys (List.range' i n)).run P w=.ok b w∧(k b).holds P G K
 |0,i,k,h=>⟨true,by simp[Op.eqItems],h⟩
 |n+1,i,k,h=>by
  have hp:=rG h1
  have step:∀(u u':Value) (b:Bool),xs[i]?=some u→ys[i]?=some u'→(eE (d+1) e u u').run P w=.ok b w →
    (pV vs vs' (HA pk (i+1) n) fun c=>k (b&&c)).holds P G K→∃b,(Op.eqItems (d+1) e (P.cellsOf e) xs ys (List.range' i (n+1))).run P w=.ok b w∧(k b).holds P G K:=by
   intro u u' b e1 e2 e3 hh;obtain⟨c,q1,q2⟩:=pT hx hy d h1 hc n (i+1) _ hh;refine⟨b&&c,?_,q2⟩
   have e0:i*P.cellsOf e=i:=by rw[hc,Nat.mul_one]
   rw[List.range'_succ];simp only[Op.eqItems,Sem.run_bind,e0,run_part_plain (w:=w) hp e1,run_part_plain (w:=w) hp e2,e3,Result.andThen_ok];cases b
   ·simp
   ·simpa using q1
  simp only[HA,pV]at h;split at h
  ·rename_i k1 a1 k2 a2 hv hv'
   obtain⟨hk,hh⟩:=cE h;obtain rfl:=kR hk;obtain⟨u,q1,q2⟩:=iT hx hv;obtain⟨u',q3,q4⟩:=iT hy hv'
   have q2:u=.int k1 a1:=q2
   have q4:u'=.int k1 a2:=q4
   subst q2;subst q4
   have ht:∃kk,P.underlying e=some (.int kk):=by unfold DM at h1;split at h1<;>simp_all
   obtain⟨kk,ht⟩:=ht;exact step _ _ _ q1 q3 (run_equalIn_int w d e k1 kk a1 a2 ht) hh
  ·rename_i a1 a2 hv hv'
   obtain⟨u,q1,q2⟩:=iT hx hv;obtain⟨u',q3,q4⟩:=iT hy hv'
   have q2:u=.string a1:=q2
   have q4:u'=.string a2:=q4
   subst q2;subst q4
   have ht:P.underlying e=some .string:=by unfold DM at h1;split at h1<;>simp_all
   exact step _ _ _ q1 q3 (run_equalIn_string w d e a1 a2 ht) h
  ·rename_i a1 a2 hv hv'
   obtain⟨u,q1,q2⟩:=iT hx hv;obtain⟨u',q3,q4⟩:=iT hy hv'
   have q2:u=.bool a1:=q2
   have q4:u'=.bool a2:=q4
   subst q2;subst q4
   have ht:P.underlying e=some .bool:=by unfold DM at h1;split at h1<;>simp_all
   exact step _ _ _ q1 q3 (run_equalIn_bool' w d e a1 a2 ht) h
  ·exact h.elim
theorem MK(hs:eC G β R st a w){op:BinOp}{t t' e:TypeId}{n:Nat}{x y:Operand}{ax ay:AX}{pk:PK}{neg:Bool}(hu:P.underlying t=some (.array n e))(hg:P.eqGuardType P.depth t=false)(hn:kN op=some neg)(h1:DM P e=some pk)(hz:tR P e=true)
  (hx:cX x=some ax) (hy:cX y=some ay) (ho:o.op=.binOp op t x y t') {kk:V→List AO→Tr} {K:X→St→Prop} {ext:Ext} (h:(gL ext st kk (.eqs neg (HA pk 0 n) ax ay)).holds P G K) :
  dC P G st.h.length (fun v h'=>(kk v h').holds P G K) β R o a w:=by
 have hv:=aR hs hx
 have hv':=aR hs hy
 obtain⟨inf,hi,hsz⟩:∃i,P.info? e=some i∧i.size=1:=by
  unfold tR dK at hz;cases hq:P.info? e with
  |none=>simp[hq]at hz
  |some i=>
   refine⟨i,rfl,?_⟩;simp only[hq,dS]at hz;split at hz
   ·rename_i h1;injection h1
   ·cases hz
 have hc:P.cellsOf e=1:=by unfold Program.cellsOf;rw[hi];exact hsz
 simp only[gL]at h;split at h
 ·rename_i vs vs' e1 e2
  rw[e1]at hv;rw[e2]at hv';obtain⟨us,hu1,ha⟩:=hv;obtain⟨us',hu2,ha'⟩:=hv';obtain⟨b,q1,q2⟩:=pT ha ha' 9998 h1 hc n 0 _ h
  have he:(eE 10000 t (.agg us) (.agg us')).run P w=.ok b w:=by
   rw[run_equalIn_array w 9999 us us' hu hi,List.range_eq_range'];exact q1
  have hgd:=run_eqGuard_agg (w:=w) op t x y us us' hg
  cases op<;>simp only[kN,aD,reduceCtorEq]at hn
  ·subst hn
   exact dC.same hs (u:=.bool b) (by simp[execOp,ho,hu1,hu2,hgd,run_eql_struct,he]) q2 rfl
  ·subst hn
   exact dC.same hs (u:=.bool (!b)) (by simp[execOp,ho,hu1,hu2,hgd,run_neq_struct,he]) q2 rfl
 ·exact h.elim
end
section
variable {P:Program} {G:Nat→Option Obj} {β:Bt} {R:Nat→Prop} {w:World} {st:St} {a:Act} {o:Oper}
theorem MB(hs:eC G β R st a w){t e:TypeId}{sz bytes:Nat}{z:List PV}{x y:Operand}{ax ay:AX}(hu:P.underlying t=some (.slice e))(hsz:dK P e=some sz)(hby:iC P e=some bytes)(hz:iE P e=some z)(hx:cX x=some ax)(hy:cX y=some ay)
  (ho:o.op=.makeSlice t x y) {kk:V→List AO→Tr} {K:X→St→Prop} {ext:Ext} (h:(gL ext st kk (.mksl e sz bytes z ax ay)).holds P G K):dC P G st.h.length (fun v h'=>(kk v h').holds P G K) β R o a w:=by
 have hv:=aR hs hx
 have hv':=aR hs hy
 simp only[gL]at h;split at h
 ·rename_i k1 l k2 c e1 e2
  rw[e1]at hv;rw[e2]at hv'
  have hv:a.eval x=.int k1 l:=hv
  have hv':a.eval y=.int k2 c:=hv'
  obtain⟨c1,⟨h1,h2,h3,h4⟩,hk⟩:=cE h;simp only[aY]at c1;obtain⟨c1,c2⟩:=c1
  have c1:0<sz:=by simpa using c1
  have c2:z.length=sz:=by rw[←fH];exact aH c2
  unfold dK at hsz;unfold iC at hby
  unfold iE at hz;cases hi:P.info? e with
  |none=>rw[hi]at hsz;cases hsz
  |some i=>
   rw[hi]at hsz hby hz;simp only[dS,aD,Option.bind_some]at hsz hby hz;cases hzz:i.zero with
   |none=>rw[hzz]at hz;cases hz
   |some zv=>
    rw[hzz]at hz;simp only[dS,aD]at hz
    have hzs:zv.cells.size=sz:=by rw[←c2,←hz];simp
    have hr:=run_make (P:=P) w t e i zv hu hi hzz k1 k2 l c h1 h2 (by rw[hby,Int.mul_comm];omega) (by omega)
    rw[fH]at hk
    have hcs:c.toNat*i.size=c.toNat*sz:=by rw[hsz]
    have hrun:(execOp a.eval o).run P w=.ok (.value (.slice (some ⟨w.heap.size,0,none⟩) l.toNat c.toNat)) (w.alloc (.cells (madeCells zv.cells (c.toNat*i.size)) e)):=by simp[execOp,ho,hv,hv',hr]
    refine .inl ⟨_,_,hrun,bn β st.h.length (w.heap.size,c.toNat*sz),R,_,_,hk,?_,kT hs.hs ?_,tY hs.hs _ _ rfl,fun i hi=>dN _ (by omega)⟩
    ·exact⟨_,c.toNat,rfl,by omega,by unfold maxLen;omega,.inr ⟨w.heap.size,_,fN _ _ _,by simp,by simp⟩⟩
    ·intro β' w' kp hb
     refine⟨_,hb,by rw[size_madeCells,hcs],bP _ (by omega),?_⟩;intro p q hp hq
     have hlt:p*sz+q<c.toNat*sz:=by
      have:=bP sz (show p+1≤c.toNat by omega)
      rw[dG,gW]at this;omega
     have hmod:(p*sz+q)%sz=q:=by rw[Nat.mul_comm,Nat.mul_add_mod];exact Nat.mod_eq_of_lt hq
     obtain⟨u,hu'⟩:∃u,zv.cells[q]?=some u:=⟨_,Array.getElem?_eq_getElem (by omega)⟩
     refine⟨u,?_,?_⟩
     ·unfold madeCells
      rw[hcs,hzs,Array.getElem?_map,Array.getElem?_range,if_pos hlt,dS,hmod];rw[getElem!_def,hu']
     ·show PR R w' (bN (.b false) z q) u
      rw[eK,←hz,aG,List.getElem?_map,bC,hu'];exact rW _
 ·exact h.elim
end
end Go.AE
