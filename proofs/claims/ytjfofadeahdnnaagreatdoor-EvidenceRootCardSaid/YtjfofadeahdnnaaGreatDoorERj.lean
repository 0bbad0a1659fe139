import Derived.Test.YtjfofadeahdnnaaGreatDoorERi
import Derived.Test.YtjfofadeahdnnaaGreatDoorERe
set_option linter.unusedVariables false
set_option linter.unusedSimpArgs false
namespace Go.Proofs.YtjfofadeahdnnaaGreatDoor
open _root_.Array renaming getD_eq_getD_getElem?→dL,getElem?_eq_getElem→eY,getElem?_eq_some_iff→aO,replicate_succ→eU,replicate_zero→eT
open _root_.List renaming append_toArray→eZ,cons_append→gC,getD_eq_getElem?_getD→aD,getElem?_append_right→cJ,getElem?_eq_getElem→aH,getElem?_map→cC,length_cons→eP,length_map→eA,length_nil→fZ,map_append→dT,nil_append→fY,push_toArray→fQ,replicate→eD,size_toArray→eX
open _root_.Nat renaming le_refl→aJ,mul_one→gQ,pow_le_pow_right→iB,pow_succ'→iE,reduceAdd→iS,reduceSub→iR
open Region renaming ready→gJ,wanted→eQ
open Value renaming int→cU
open Go.RowKit Go.Shelf Go.AE
section
variable {F:Fence} {n:Nat} {P:Program} {ops:Array Oper} {Q:Exit→Act→World→Prop}
def MH(listed:Array Bool):Nat:=(listed.toList.filter (! ·)).length
theorem ZE:∀ {l:List Bool} {i:Nat} (_:l.getD i true=false),((l.set i true).filter (! ·)).length+1=(l.filter (! ·)).length
 |[],_,h=>by simp at h
 |x::l,0,h=>by
  have:x=false:=by simpa using h
  subst this;simp
 |x::l,i+1,h=>by
  have:=ZE (l:=l) (i:=i) (by simpa using h)
  cases x<;>simp<;>omega
theorem CM{listed:Array Bool}{i:Nat}(h:listed.getD i true=false):MH (listed.setIfInBounds i true)+1=MH listed:=by
 obtain⟨l⟩:=listed
 have h:l.getD i true=false:=by simpa using h
 unfold MH;rw[Array.toList_setIfInBounds];exact ZE h
theorem zV(S:Array Bool→Act→World→Prop)
  (hstep:∀(listed:Array Bool) a w i,S listed a w→i<ops.size→listed.getD i true=false→(∀j,Region.waitsFor .any ops i j=true→listed.getD j false=true)→wpOpIn F n P ops Q i (S (listed.setIfInBounds i true)) a w)
  (hdone:∀(listed:Array Bool) a w,S listed a w→gJ .any ops listed=[]→Q .normal a w):∀(fuel:Nat) (listed:Array Bool) a w,MH listed≤fuel→S listed a w→wpAnyIn F n P .any ops Q fuel listed a w
 |0,listed,a,w,hf,h=>by
  have hr:gJ .any ops listed=[]:=by
   cases hr:gJ .any ops listed with
   |nil=>rfl
   |cons i l=>
    obtain⟨_,h2,_⟩:=QQ (ops:=ops) (listed:=listed) (i:=i) (by rw[hr];simp)
    have:=CM h2
    omega
  exact⟨hr,hdone _ _ _ h hr⟩
 |fuel+1,listed,a,w,hf,h=>⟨fun hr=>hdone _ _ _ h hr,fun i hi=>by
    obtain⟨h1,h2,h3⟩:=QQ hi
    have ht:=CM h2
    exact wpOpIn_mono (fun a w hS=>zV S hstep hdone fuel _ a w (by omega) hS) (hstep _ _ _ _ h h1 h2 h3)⟩
theorem kZ{i:Nat}{o:Oper}{K:Act→World→Prop}{a:Act}{w:World}(ho:ops[i]?=some o)(hg:o.guard=none)(h:o.wpIn F n P a w K Q):wpOpIn F n P ops Q i K a w:=by
 unfold wpOpIn;simp only[ho];rw[show eQ o (yielded ops a.tmps)=true by unfold eQ;rw[hg]];exact h
def aMM(ops:Array Oper):Bool:=(List.range ops.size).all fun i=>match ops[i]? with
 |some o=>o.after.all fun e => !Region.binds .any e||decide (e.on<i)
 |none=>true
theorem aHL(h:aMM ops=true):∀i o,ops[i]?=some o→∀e∈o.after,Region.binds .any e=true→e.on<i:=by
 intro i o ho e he hb
 have hi:i<ops.size:=(aO.1 ho).1
 have:=List.all_eq_true.1 h i (List.mem_range.2 hi)
 rw[ho]at this;dsimp only at this
 have:=Array.all_eq_true_iff_forall_mem.1 this e he
 simpa[hb] using this
theorem JU(hb:aMM ops=true){listed:Array Bool}(hs:listed.size=ops.size)(hr:gJ .any ops listed=[]):∀i,i<ops.size→listed.getD i false=true:=by
 intro i;induction i using Nat.strongRecOn with
 |_ i ih=>
  intro hi;cases hu:listed.getD i true with
  |true=>
   have hi':i<listed.size:=by omega
   simp only[dL,eY hi',Option.getD_some]at hu ⊢;exact hu
  |false=>
   have:=SK (aHL hb) hi hu fun j hj=>ih j hj (by omega)
   rw[hr]at this;cases this
def Ld(l:Array Bool)(i:Nat):Prop:=l.getD i false=true
theorem Ld.set{l:Array Bool}{i j:Nat}(h:Ld (l.setIfInBounds i true) j)(hij:i≠j):Ld l j:=by
 unfold Ld at *;simp only[dL,Array.getElem?_setIfInBounds_ne hij]at h ⊢;exact h
theorem Ld.keep{l:Array Bool}{i j:Nat}(h:Ld l j):Ld (l.setIfInBounds i true) j:=by
 unfold Ld at *;simp only[dL,Array.getElem?_setIfInBounds]at h ⊢
 by_cases hij:i=j
 ·subst hij
  rw[if_pos rfl];split
  ·rfl
  ·rename_i hx
   rw[Array.getElem?_eq_none (by omega)]at h;exact h
 ·rw[if_neg hij];exact h
theorem Ld.at_{l:Array Bool}{i:Nat}(h:i<l.size):Ld (l.setIfInBounds i true) i:=by
 unfold Ld;simp[h]
theorem Ld.none{n i:Nat}:¬Ld (Array.replicate n false) i:=by
 unfold Ld;simp only[dL,Array.getElem?_replicate];split<;>simp
theorem Ld.not{l:Array Bool}{i:Nat}(h:l.getD i true=false):¬Ld l i:=by
 unfold Ld;intro h2
 simp only[dL]at h h2;cases hx:l[i]? with
 |none=>rw[hx]at h;cases h
 |some b=>rw[hx]at h h2;cases h;cases h2
theorem PS{o:Oper}{a:Act}{w w':World}{K:Act→World→Prop}(s x:Operand)(t:TypeId)(hop:o.op=Op.call { callee:=Callee.builtin Builtin.append,args := #[s,x],argTypes := #[t,t] }){v u v':Value}(hs:a.eval s=v)(hx:a.eval x=u)
  (hrun:(Builtin.append_ #[t,t] o.type #[v,u]).run P w=.ok v' w') (h:K (a.put o.dst v') w'):o.wpIn F n P a w K Q:=by
 unfold Oper.wpIn;refine⟨?_,?_⟩
 ·simp[Oper.about,hop,resolve,Target.leads,Sem.run_pure]
 ·rw[Oper.semAt_plain F _ _ (by rw[hop];intro c hc';cases hc')]
  simp[execOp,hop,resolve,invoke,builtin,hs,hx,hrun,Result.andThen];exact h
end
attribute [local go_sem] Oper.semAt_some
set_option maxHeartbeats 1000000 in
theorem aIH(F:Fence)(n:Nat)(h5:F.fn 43)(hro:F.round=none)(len:Nat)(hl:len≤1000)(w:World) :
  CallsIn F n Tryz.prog 43 #[.int .i64 (len:Int)] w fun e w'=>e=.returned (.tuple #[.int .i64 ((2^jS len:Nat):Int),.int .i64 (jS len:Nat)])∧w=w':=by
 refine callsIn_of_wp Tryz.func43 rfl h5 ?_ hro;simp only[Tryz.ntmps43,eX,eP,fZ,iS,iR,eU,eT,fQ,eZ,fY,gC]
 gi_wp2
 gi_loop [4,5] (fun x y=>∃d:Nat,x=.int .i64 ((2^d:Nat):Int)∧y=.int .i64 (d:Int)∧(d=0∨2^(d-1)<len)) (fun x _=>2000-(intOf x).toNat)
 case atStart=>exact⟨0,rfl,rfl,.inl rfl⟩
 case round=>
  obtain⟨d,rfl,rfl,hd⟩:=hrel
  have hp:=Nat.one_le_two_pow (n:=d)
  have hd1:d<2^d:=Nat.lt_two_pow_self
  by_cases hlt:2^d<len
  ·have e2:2^(d+1)=2*2^d:=iE
   obtain⟨q,hq⟩:∃q,2^d=q:=⟨_,rfl⟩
   rw[hq]at hlt hp hd1 e2 ⊢
   have hdec:decide ((q:Int)<(len:Int))=true:=by simp;omega
   gi_wp2
   go_round
   case rel=>exact⟨d+1,by rw[e2];go_num,by go_num,.inr (by rw[Nat.add_sub_cancel,hq];exact hlt)⟩
   case measure=>simp[intOf];omega
  ·have hdd:=aAY (n:=len) (d:=d) (by omega) hd
   subst hdd
   obtain⟨q,hq⟩:∃q,2^jS len=q:=⟨_,rfl⟩
   rw[hq]at hlt ⊢
   have hdec:decide ((q:Int)<(len:Int))=false:=by simp;omega
   gi_wp2
   exact bodyPost_ret (results_tmp2 rfl _ _ _) rfl ⟨rfl,rfl⟩
theorem qY{W W2:World}{base size n:Nat}{e:TypeId}{v:Value}{xs:List Value}(h:W.ownsRow base e size v n xs)(hb:Below W.heap.size W W2):W2.ownsRow base e size v n xs:=by
 refine⟨h.1,?_⟩
 rcases h.2 with h|⟨g,cap,cur,h1,h2,h3,h4⟩
 ·exact .inl h
 ·exact .inr ⟨g,cap,cur,h1,h2,(hb.block g (aO.1 h3).1).trans h3,h4⟩
structure IZ (bA:Nat) (v u:Value) (len:Nat) (xs:List Value) (W' W1:World):Prop where
 box:Boxed W1 bA 22 v
 row:W1.ownsRow bA 23 1 u len xs
 ko:KeepsOthers W' W1
theorem IZ.below{bA len:Nat}{v u:Value}{xs:List Value}{W' W1 W2:World}(h:IZ bA v u len xs W' W1)(hb:Below W1.heap.size W1 W2):IZ bA v u len xs W' W2:=
 ⟨(hb.block _ h.box.lt).trans h.box,qY h.row hb,⟨Nat.le_trans h.ko.size hb.size,fun k o hk ho=>(hb.block k (aO.1 (h.ko.same k o hk ho)).1).trans (h.ko.same k o hk ho)⟩⟩
theorem yF{W:World}{B b:Nat}{t:TypeId}{v:Value}(h:Boxed W B t v)(hne:B≠b)(u:Value):Boxed (W.setCell ⟨b,0,none⟩ u) B t v:=h.kept (grownBy_setCell' W b u) (fun e=>hne (by injection e))
theorem aBL{w:World}{g:Nat}{cur cs:Array Value}{t:TypeId}(hg:w.heap[g]?=some (.cells cur t (0,0))):(w.setRow g cs).heap[g]?=some (.cells cs t (0,0)):=by
 obtain⟨hlt,hk⟩:=aO.1 hg
 show (w.heap.modify g _)[g]?=_
 rw[eY (by rw[Array.size_modify];exact hlt),Array.getElem_modify_self,hk]
def mkD(D:Nat):Deferred:={ target:=.collected D,args := #[] }
def aPQ:Value→Nat
 |.slice _ l _=>l
 |_=>0
def UN(B:Nat)(W:World)(ds:List Nat):Prop:=(∀d∈ds,B≤d∧W.heap[d]?=some (.deferred (some [])))∧ds.Nodup
theorem UN.nil{B:Nat}{W:World}:UN B W []:=⟨by simp,List.nodup_nil⟩
theorem MQ{W:World}{base base' size n:Nat}{e:TypeId}{v:Value}{xs:List Value}(h:W.ownsRow base e size v n xs)(hb:base'≤base):W.ownsRow base' e size v n xs:=by
 refine⟨h.1,?_⟩
 rcases h.2 with h|⟨g,cap,cur,h1,h2,h3⟩
 ·exact .inl h
 ·exact .inr ⟨g,cap,cur,h1,by omega,h3⟩
theorem ZN{W:World}{b1 b2 s1 s2 n1 n2:Nat}{e1 e2:TypeId}{v1 v2:Value}{x1 x2:List Value}(h1:W.ownsRow b1 e1 s1 v1 n1 x1)(h2:W.ownsRow b2 e2 s2 v2 n2 x2)(he:e1≠e2):v1.ownBlock=none∨v1.ownBlock≠v2.ownBlock:=by
 rcases h1.2 with⟨rfl,_⟩|⟨g,cap,cur,rfl,_,hg,_⟩
 ·exact .inl rfl
 ·refine .inr fun e=>?_
  rcases h2.2 with⟨rfl,_⟩|⟨g2,cap2,cur2,rfl,_,hg2,_⟩
  ·cases e
  ·have:g=g2:=by simpa[Value.ownBlock] using e
   subst this;rw[hg]at hg2;injection hg2 with hg2;injection hg2 with _ hg2 _;exact he hg2
structure vC (B:Nat) (W W':World):Prop where
 size:W'.heap.size=W.heap.size
 same:∀(k:Nat) (o:Obj),W.heap[k]?=some o→o.isCells=true→W'.heap[k]?=some o
 below:Below B W W'
theorem vC.row{B:Nat}{W W':World}(h:vC B W W'){base size n:Nat}{e:TypeId}{v:Value}{xs:List Value}(hr:W.ownsRow base e size v n xs):W'.ownsRow base e size v n xs:=by
 refine⟨hr.1,?_⟩
 rcases hr.2 with h1|⟨g,cap,cur,h1,h2,h3,h4⟩
 ·exact .inl h1
 ·exact .inr ⟨g,cap,cur,h1,h2,h.same _ _ h3 rfl,h4⟩
theorem xW{F:Fence}{n:Nat}{P:Program}{fn:Func}{tmps:Array Value}{R:Ending→World→Prop}{B:Nat}:∀(ds:List Nat) (W:World),UN B W ds→B≤W.heap.size→(∀W',vC B W W'→LeavesInM F n P fn tmps R [] .returning W')→LeavesInM F n P fn tmps R (ds.map mkD) .returning W
 |[],W,_,_,h=>h W ⟨rfl,fun _ _ h _=>h,Below.refl _ _⟩
 |d::ds,W,hM,hB,h=>by
  obtain⟨h1,h2⟩:=hM;obtain⟨hb,hd⟩:=h1 d (by simp);refine⟨by simp,.inl ⟨d,_,rfl,run_takeDeferred hd,?_⟩⟩
  have hs:∀(k:Nat) (o:Obj),W.heap[k]?=some o→o.isCells=true→(W.putObj d (.deferred none)).heap[k]?=some o:=by
   intro k o hk ho;rw[World.putObj_heap_other (fun e=>?_)]
   ·exact hk
   ·subst e
    rw[hd]at hk;injection hk with hk;subst hk;cases ho
  have hc:vC B W (W.putObj d (.deferred none)):=⟨by simp,hs,(Below.refl B W).grown (grownBy_putObj' W d _) hB (fun k e=>by cases e;exact hb)⟩
  refine xW ds _ ⟨fun d' hd'=>?_,(List.nodup_cons.1 h2).2⟩ (by simpa using hB) fun W' hW'=>h W' ⟨hW'.size.trans hc.size,fun k o hk ho=>hW'.same k o (hc.same k o hk ho) ho,hc.below.trans hW'.below⟩
  obtain⟨hb',hd2⟩:=h1 d' (List.mem_cons_of_mem _ hd');refine⟨hb',?_⟩;rw[World.putObj_heap_other (fun e=>?_)]
  ·exact hd2
  ·subst e;exact(List.nodup_cons.1 h2).1 hd'
theorem JY{W:World}{R:Nat→Prop}{base n:Nat}{e:TypeId}{v:Value}{xs:List Value}{f:Nat→Nat→PV}(h:W.ownsRow base e 1 v n xs)(hR:∀b,base≤b→b<W.heap.size→R b)(hx:∀i,i<n→∃u,xs[i]?=some u∧PR R W (f i 0) u):PR R W (.l 1 n f) v:=by
 have hl:=h.1
 rcases h.2 with⟨rfl,rfl⟩|⟨g,cap,cur,rfl,hb,hg,hnc,hcm,hcs,htake⟩
 ·exact⟨none,0,rfl,aJ _,Nat.zero_le _,fun h=>absurd h (by omega)⟩
 ·refine⟨_,_,rfl,hnc,hcm,fun _=>⟨_,rfl,hR _ hb (aO.1 hg).1,fun i o hi ho=>?_⟩⟩
  obtain rfl:o=0:=by omega
  obtain⟨u,h1,h2⟩:=hx i hi
  have:=h.cells (g:=g) rfl (i*1+0) u (by rw[gQ,Nat.add_zero];exact h1)
  exact⟨u,this,h2⟩
def JV(a b:Int):Int:=qX (gT (PlainAid.bt ⟨#[112,97,105,114]⟩) 4 1) 4 [qA a,qA b]
theorem Tryz.infoU64:(Tryz.prog.info? 23).map (fun i=>(i.zero,i.size,i.bytes))=some (some (.int .u64 0),1,8):=by kernel_rfl
theorem Tryz.infoU64s:(Tryz.prog.info? 22).map (fun i=>(i.zero,i.size,i.bytes))=some (some (.slice none 0 0),1,24):=by kernel_rfl
set_option maxRecDepth 100000 in
set_option maxHeartbeats 2000000 in
theorem aCH(F:Fence)(n:Nat)(h0:F.fn 20)(h1:F.fn 43)(h2:F.fn 44)(h4:F.fn 65)(h7:F.fn 23)(h3:F.fn 45)(h5:F.fn 66)(h6:F.fn 67)(h8:F.fn 81)(hro:F.round=none)(hn:9≤n)(A0:Option Addr)(len cap:Nat)(hl:len≤1000)(L:List Int)(hL:L.length=len)(w:World)(hR:Rd w w.heap.size A0 len fun k=>.int .u64 (L.getD k 0)) :
  CallsIn F n Tryz.prog 20 #[.slice A0 len cap] w fun e W'=>Below w.heap.size w W'∧∃u,e=.returned u∧PR (fun b=>w.heap.size≤b∧b<W'.heap.size) W' (.l 1 (jS len+1) fun e _=>.l 1 (2^(jS len-e)) fun i _=>.i .u64 ((mD JV L (jS len) e).getD i default)) u:=by
 have hn1:1≤n:=by omega
 obtain⟨D,hD⟩:∃D,jS len=D:=⟨_,rfl⟩
 have hD10:D≤10:=by rw[←hD];exact wO (by omega)
 have hfl:len≤2^D:=by rw[←hD];exact yB len
 obtain⟨full,hf⟩:∃full,2^D=full:=⟨_,rfl⟩
 have hf2:full≤1024:=by rw[←hf];exact Nat.le_trans (iB (by omega) hD10) (by decide)
 obtain⟨i0,hi,hz0,hz1,hz2⟩:=info_parts Tryz.infoU64
 obtain⟨MC,hMC,hmk⟩:∃MC:Array Value,MC=(eD full (cU .u64 0)).toArray∧∀W:World,(Instr.makeSlice 22 (.int .i64 (full:Int)) (.int .i64 (full:Int))).run Tryz.prog W=.ok (.slice (some ⟨W.heap.size,0,none⟩) full full) (W.alloc (.cells MC 23)):=by
  refine⟨madeCells (Value.cells (.int .u64 0)) full,?_,fun W=>?_⟩
  ·unfold madeCells
   apply Array.ext
   ·simp
   ·intro i h1 h2
    simp[Value.cells,Nat.mod_one]
  ·have hr:=run_make (P:=Tryz.prog) W 22 23 i0 _ Tryz.underlying22 hi hz0 .i64 .i64 (full:Int) (full:Int) (by omega) (by omega) (by rw[hz2];omega) (by omega)
   rw[Int.toNat_natCast,hz1,gQ]at hr;exact hr
 obtain⟨W2,hcopy,hsz2,hb2,hrow2⟩:∃W2:World,(Builtin.copy_ #[22,22] 3 #[.slice (some ⟨w.heap.size,0,none⟩) full full,.slice A0 len cap]).run Tryz.prog (w.alloc (.cells MC 23))=.ok (goInt len) W2∧W2.heap.size=w.heap.size+1∧Below w.heap.size w W2∧W2.ownsRow w.heap.size 23 1 (.slice (some ⟨w.heap.size,0,none⟩) full full) full ((mD JV L D 0).map (cU .u64)):=by
  have hg:(w.alloc (.cells MC 23)).heap[w.heap.size]?=some (.cells MC 23 (0,0)):=World.alloc_heap_new w _
  have hcs:(L.map (cU .u64)).length=len:=by simp[hL]
  rcases Nat.eq_zero_or_pos len with h0|hlen
  ·have hr:=run_copy_none (P:=Tryz.prog) (w.alloc (.cells MC 23)) 22 22 3 23 (some ⟨w.heap.size,0,none⟩) A0 full full len cap Tryz.underlying22 (by rw[hi];simp[hz1]) (by rw[h0];exact Nat.zero_min _)
   refine⟨_,by rw[hr,h0];rfl,by simp,(Below.refl _ w).alloc (aJ _) _,?_⟩;refine⟨by rw[eA,kO,Nat.sub_zero,hf,gQ],.inr ⟨w.heap.size,full,_,rfl,aJ _,hg,aJ _,by unfold maxLen;omega,?_,?_⟩⟩
   ·rw[hMC];simp
   ·have hL0:L=[]:=List.eq_nil_of_length_eq_zero (by omega)
    have hl0:mD JV L D 0=eD full 0:=by
     rw[←hD,←hL,zC,hL,hD,hf,hL0,h0];rfl
    rw[hMC,hl0,gQ,List.map_replicate]
    show List.take full (eD full (cU .u64 0))=_
    rw[List.take_replicate,Nat.min_self]
  obtain⟨ad,rfl,hlt,hc⟩:=hR hlen
  have hr:=run_copy_row (P:=Tryz.prog) (w.alloc (.cells MC 23)) 22 22 3 23 w.heap.size 0 full full ad len cap MC 23 (L.map (cU .u64)) Tryz.underlying22 (by rw[hi];simp[hz1]) hg (by rw[hcs];exact(Nat.min_eq_left (by omega)).symm) (fun j v hv=>?_) (by rw[hcs,hMC];simp;omega) (by simp[Value.oneCell'])
  ·rw[hcs]at hr
   refine⟨_,hr,by simp[World.setRow],below_setRow ((Below.refl _ w).alloc (aJ _) _) (aJ _) _,?_⟩;refine⟨by rw[eA,kO,Nat.sub_zero,hf,gQ],.inr ⟨w.heap.size,full,_,rfl,aJ _,aBL hg,aJ _,by unfold maxLen;omega,?_,?_⟩⟩
   ·rw[hMC];simp[hL];omega
   ·rw[hMC,←hD,←hL,zC,hL,hD,hf,gQ]
    show List.take full (List.take 0 (eD full (cU .u64 0))++List.map (cU .u64) L++List.drop (0+len) (eD full (cU .u64 0)))=_
    rw[List.take_zero,fY,Nat.zero_add,List.drop_replicate,dT,List.map_replicate,List.take_of_length_le (by simp[hL];omega)]
  ·rw[cC]at hv
   by_cases hj:j<L.length
   ·rw[aH hj]at hv
    injection hv with hv;subst hv
    have:=hc j (by omega)
    dsimp only at this;rw[aD,aH hj]at this
    have hb:(ad.add j).block<w.heap.size:=by rw[LX];exact hlt
    exact(World.cell?_alloc_lt w _ _ hb).trans this
   ·rw[List.getElem?_eq_none (by omega)]at hv;cases hv
 clear hMC
 have hsz:=aIH F (n-1) h1 hro len hl
 rw[hD,hf]at hsz;refine callsIn_of_wp_marks Tryz.func20 rfl h0 ?_ hro;simp only[Tryz.ntmps20,eX,eP,fZ,iS,iR,eU,eT,fQ,eZ,fY,gC]
 gi_wp2_with (gi_at_call 43;refine(hsz _).mono ?_;rintro e w' ⟨rfl,rfl⟩)
 have hW2:W2.heap.size=w.heap.size+1:=hsz2
 have hpow:∀k,0<2^(D-k):=fun k=>Nat.two_pow_pos _
 refine wpIn_loop (fun a' W=>∃(k:Nat) (tv lv:Value) (xs:List Value) (ds:List Nat) (u7 u22 u23 u24 u25 u26 u38 u39 u40 u41 u42:Value),k≤D∧a'={ tmps := #[.slice A0 len cap,undef,.slice none 0 0,.int .i64 (full:Int),.int .i64 (D:Int),lv,tv,u7,undef,.tuple #[.int .i64 (full:Int),.int .i64 (D:Int)],.slice A0 len cap,.int .i64 (len:Int),.tuple #[.int .i64 (full:Int),.int .i64 (D:Int)],.int .i64 (full:Int),.int .i64 (D:Int),.int .i64 (full:Int),.slice (some ⟨w.heap.size,0,none⟩) full full,.slice (some ⟨w.heap.size,0,none⟩) full full,.slice A0 len cap,.int .i64 (len:Int),.slice (some ⟨w.heap.size,0,none⟩) full full,.slice (some ⟨w.heap.size+1,0,none⟩) 1 1,u22,u23,u24,u25,u26,undef,undef,undef,undef,undef,undef,undef,undef,undef,undef,undef,u38,u39,u40,u41,u42,undef],defers:=ds.map mkD }∧W.ownsRow w.heap.size 22 1 tv (k+1) xs ∧
  (∀j,j≤k→∃v,xs[j]?=some v∧W.ownsRow w.heap.size 23 1 v (2^(D-j)) ((mD JV L D j).map (cU .u64)))∧xs[k]?=some lv∧Below w.heap.size w W∧UN w.heap.size W ds) (fun a' _=>aPQ (a'.tmps.getD 5 undef)) ?start ?round
 case start=>
  refine⟨0,_,_,[.slice (some ⟨w.heap.size,0,none⟩) full full],[],_,_,_,_,_,_,_,_,_,_,_,Nat.zero_le _,rfl,?_,?_,rfl,hb2.alloc (by omega) _,UN.nil⟩
  ·have h:=World.ownsRow_lit (base:=w.heap.size) (e:=22) (size:=1) W2 #[.slice (some ⟨w.heap.size,0,none⟩) full full] 1 (by omega) (by decide) rfl
   rw[hW2]at h;exact h
  ·intro j hj
   obtain rfl:j=0:=by omega
   exact⟨_,rfl,by rw[Nat.sub_zero,hf];exact hrow2.alloc _⟩
 case round=>
  rintro a' W ⟨k,tv,lv,xs,ds,u7,u22,u23,u24,u25,u26,u38,u39,u40,u41,u42,hk,rfl,hT,hLv,hlv,hB,hM⟩;obtain⟨v,hv,hrow⟩:=hLv k (aJ _)
  obtain rfl:lv=v:=by rw[hlv]at hv;injection hv
  obtain⟨g,capk,cur,rfl,hgb,hgh,hgc,hgm,hgs,hgt⟩:∃g cap cur,lv=.slice (some ⟨g,0,none⟩) (2^(D-k)) cap∧w.heap.size≤g∧W.heap[g]?=some (.cells cur 23 (0,0))∧2^(D-k)≤cap∧cap≤maxLen∧cur.size=cap*1∧cur.toList.take (2^(D-k)*1)=(mD JV L D k).map (cU .u64):=by
   rcases hrow.2 with⟨_,h⟩|h
   ·have:=hpow k;omega
   ·exact h
  by_cases hkD:k<D
  ·obtain⟨m,hm⟩:∃m,2^(D-(k+1))=m:=⟨_,rfl⟩
   have h2m:2^(D-k)=2*m:=by rw[←hm,←iE,show (D-(k+1)).succ=D-k by omega]
   have hm0:0<m:=by rw[←hm];exact Nat.two_pow_pos _
   have hmf:2*m≤full:=by rw[←h2m,←hf];exact iB (by omega) (by omega)
   rw[h2m]at hgc hgt hrow ⊢
   gi_wp2_with (gi_at_call 44;refine(aHB F (n-1) h2 hro _ _ _ _).mono ?_;rintro e w' ⟨rfl,rfl⟩)
   obtain⟨j0,hj,hjz0,hjz1,hjz2⟩:=info_parts Tryz.infoU64s
   obtain⟨at_,hat⟩:∃at_:Nat→Int,at_=fun i=>(mD JV L D k).getD i 0:=⟨_,rfl⟩
   have Hat:=Lib.hid hat
   clear hat
   have hcell:∀i,i<2*m→W.cell? ⟨g,i,none⟩=some (.int .u64 (at_ i)):=by
    intro i hi9;rw[hrow.cellAt i (by omega),Hat.out]
    have hll:i<(mD JV L D k).length:=by rw[kO];omega
    dsimp only;rw[cC,aD,aH hll];rfl
   have hglt:g<W.heap.size:=(aO.1 hgh).1
   have bS:=Boxed.new W 22 (.slice none 0 0)
   have b1:=Boxed.new (W.alloc (.cells #[.slice none 0 0] 22)) 22 (.slice (some ⟨g,0,none⟩) (2*m) capk)
   have b2:=Boxed.new ((W.alloc (.cells #[.slice none 0 0] 22)).alloc (.cells #[.slice (some ⟨g,0,none⟩) (2*m) capk] 22)) 3 (.int .i64 2)
   simp only[World.size_alloc]at b1 b2
   have hB0:Below W.heap.size W (((W.alloc (.cells #[.slice none 0 0] 22)).alloc (.cells #[.slice (some ⟨g,0,none⟩) (2*m) capk] 22)).alloc (.cells #[.int .i64 2] 3)):=(((Below.refl _ W).alloc (aJ _) _).alloc (by simp) _).alloc (by simp;omega) _
   refine wpIn_rangeFunc_ownG hro hn1 (gf:=65) (lb := #[.pointer (some ⟨W.heap.size+1,0,none⟩),.pointer (some ⟨W.heap.size+1+1,0,none⟩)]) rfl h4 (enters_of Tryz.func65 (by kernel_rfl) rfl)
     (TV F (n-1) h4 hro (by omega) (W.heap.size+1) (W.heap.size+1+1) W.heap.size g m capk (by omega) (by omega) _ (by simp) (by simp) ((b1.alloc _).cell) b2.cell) aG1 (aQC (by simp;omega) (by simp) (by simp)) (Below.refl _ _) (fun _=>rfl)
     (fun(pre:List Nat) W'=>((∃v,Boxed W' W.heap.size 22 v∧W'.ownsRow W.heap.size 23 1 v pre.length ((pre.map fun x=>JV (at_ (2*(x%m))) (at_ (2*(x%m)+1))).map (cU .u64))∧True)∧(Boxed W' (W.heap.size+1) 22 (.slice (some ⟨g,0,none⟩) (2*m) capk)∧Boxed W' (W.heap.size+1+1) 3 (.int .i64 2)))∧Below W.heap.size W W')
     (fun _ _ _=>False)
     (OwnFrom.and (OwnFrom.and (Own.from (holdsRow_own W.heap.size W.heap.size 22 23 1 (fun pre:List Nat=>pre.length) (fun pre:List Nat=>(pre.map fun x=>JV (at_ (2*(x%m))) (at_ (2*(x%m)+1))).map (cU .u64)) (fun _ _=>True)) _) (OwnFrom.and (Own.from (boxed_own _ _ _) _) (Own.from (boxed_own _ _ _) _))) (ownFrom_below (aJ _) (by simp;omega)))
     (fun _ _ _ _ _ hs _ _=>hs)
     ⟨⟨⟨_,(bS.alloc _).alloc _,World.ownsRow_nil _ _ _ _,trivial⟩,b1.alloc _,b2⟩,hB0⟩
     (fun x=>{ tmps := #[.slice A0 len cap,undef,.slice none 0 0,.int .i64 (full:Int),.int .i64 (D:Int),.slice (some ⟨g,0,none⟩) (2*m) capk,tv,.pointer (some ⟨W.heap.size,0,none⟩),.slice (some ⟨g,2*(x%m),none⟩) 2 2,.tuple #[.int .i64 (full:Int),.int .i64 (D:Int)],.slice A0 len cap,.int .i64 (len:Int),.tuple #[.int .i64 (full:Int),.int .i64 (D:Int)],.int .i64 (full:Int),.int .i64 (D:Int),.int .i64 (full:Int),.slice (some ⟨w.heap.size,0,none⟩) full full,.slice (some ⟨w.heap.size,0,none⟩) full full,.slice A0 len cap,.int .i64 (len:Int),.slice (some ⟨w.heap.size,0,none⟩) full full,.slice (some ⟨w.heap.size+1,0,none⟩) 1 1,.slice (some ⟨g,0,none⟩) (2*m) capk,.int .i64 (2*(m:Int)),.bool true,.slice (some ⟨g,0,none⟩) (2*m) capk,.func (.func 65) #[] #[.pointer (some ⟨W.heap.size+1,0,none⟩),.pointer (some ⟨W.heap.size+1+1,0,none⟩)],.slice (some ⟨g,2*(x%m),none⟩) 2 2,undef,undef,undef,undef,undef,undef,undef,undef,undef,undef,u38,u39,u40,u41,u42,undef],defers:=[] }) ?assign ?body ?done ?stop
   case assign=>
    intro l x W K hK
    gi_wp2
    exact hK
   case body=>
    rintro l pre x W' ⟨⟨⟨v,hv,hrow',_⟩,hb1,hb2⟩,hB'⟩ hlt
    obtain⟨PX,hPX⟩:∃PX,PX=(pre.map fun x=>JV (at_ (2*(x%m))) (at_ (2*(x%m)+1))).map (cU .u64):=⟨_,rfl⟩
    rw[←hPX]at hrow'
    have hxm:x%m<m:=Nat.mod_lt _ hm0
    have ha:W'.cell? ⟨g,2*(x%m),none⟩=some (.int .u64 (at_ (2*(x%m)))):=(hB'.cell (p:=⟨g,_,none⟩) hglt).trans (hcell _ (by omega))
    have hb:W'.cell? ⟨g,2*(x%m)+1,none⟩=some (.int .u64 (at_ (2*(x%m)+1))):=(hB'.cell (p:=⟨g,_,none⟩) hglt).trans (hcell _ (by omega))
    obtain⟨S,hS⟩:∃S:Array Bool→Act→World→Prop,S=fun listed a W1=>∃t28 t29 t30 t31 t32 t33 t34 t35 t36 t37:Value,a={ tmps := #[.slice A0 len cap,undef,.slice none 0 0,.int .i64 (full:Int),.int .i64 (D:Int),.slice (some ⟨g,0,none⟩) (2*m) capk,tv,.pointer (some ⟨W.heap.size,0,none⟩),.slice (some ⟨g,2*(x%m),none⟩) 2 2,.tuple #[.int .i64 (full:Int),.int .i64 (D:Int)],.slice A0 len cap,.int .i64 (len:Int),.tuple #[.int .i64 (full:Int),.int .i64 (D:Int)],.int .i64 (full:Int),.int .i64 (D:Int),.int .i64 (full:Int),.slice (some ⟨w.heap.size,0,none⟩) full full,.slice (some ⟨w.heap.size,0,none⟩) full full,.slice A0 len cap,.int .i64 (len:Int),.slice (some ⟨w.heap.size,0,none⟩) full full,.slice (some ⟨w.heap.size+1,0,none⟩) 1 1,.slice (some ⟨g,0,none⟩) (2*m) capk,.int .i64 (2*(m:Int)),.bool true,.slice (some ⟨g,0,none⟩) (2*m) capk,.func (.func 65) #[] #[.pointer (some ⟨W.heap.size+1,0,none⟩),.pointer (some ⟨W.heap.size+1+1,0,none⟩)],.slice (some ⟨g,2*(x%m),none⟩) 2 2,t28,t29,t30,t31,t32,t33,t34,t35,t36,t37,u38,u39,u40,u41,u42,undef],defers:=[] }∧listed.size=11∧(Ld listed 0→t28=v)∧(Ld listed 1→t29=(.slice (some ⟨g,2*(x%m),none⟩) 2 2))∧(Ld listed 2→t30=(.pointer (some ⟨g,2*(x%m),none⟩)))∧(Ld listed 3→t31=(.int .u64 (at_ (2*(x%m)))))∧(Ld listed 4→t32=(.slice (some ⟨g,2*(x%m),none⟩) 2 2))∧(Ld listed 5→t33=(.pointer (some ⟨g,2*(x%m)+1,none⟩)))∧(Ld listed 6→t34=(.int .u64 (at_ (2*(x%m)+1))))∧(Ld listed 7→t35=(.int .u64 (JV (at_ (2*(x%m))) (at_ (2*(x%m)+1))))) ∧
      (Ld listed 8→¬Ld listed 9→∃b,t36=.slice (some ⟨b,0,none⟩) 1 1∧b<W1.heap.size∧W1.cell? ⟨b,0,none⟩=some (.int .u64 (JV (at_ (2*(x%m))) (at_ (2*(x%m)+1)))))∧(Ld listed 9→Ld listed 0∧Ld listed 7∧Ld listed 8)∧(Ld listed 10→Ld listed 9)∧(Below W.heap.size W' W1∧Boxed W1 (W.heap.size+1) 22 (.slice (some ⟨g,0,none⟩) (2*m) capk)∧Boxed W1 (W.heap.size+1+1) 3 (.int .i64 2)) ∧
      ((¬Ld listed 9∧IZ W.heap.size v v pre.length PX W' W1)∨(Ld listed 9∧¬Ld listed 10∧IZ W.heap.size v t37 (pre.length+1) (PX++[(.int .u64 (JV (at_ (2*(x%m))) (at_ (2*(x%m)+1))))]) W' W1) ∨
        (Ld listed 10∧IZ W.heap.size t37 t37 (pre.length+1) (PX++[(.int .u64 (JV (at_ (2*(x%m))) (at_ (2*(x%m)+1))))]) W' W1)):=⟨_,rfl⟩
    have HS:=Lib.hid hS
    clear hS
    gi_wp2
    refine wpIn_region_any (by kernel_rfl) ?_
    refine zV S ?step ?fin _ _ _ _ (by decide) ?start
    case start=>
     rw[HS.out];refine⟨undef,undef,undef,undef,undef,undef,undef,undef,undef,undef,rfl,rfl,?_,?_,?_,?_,?_,?_,?_,?_,?_,?_,?_,⟨(Below.refl _ _).drew,hb1,hb2⟩,.inl ⟨?_,⟨hv,hrow',KeepsOthers.drew _⟩⟩⟩
     all_goals first|exact fun h=>absurd h Ld.none|exact Ld.none
    case fin=>
     intro listed a W1 hs hr;rw[HS.out]at hs;obtain⟨t28,t29,t30,t31,t32,t33,t34,t35,t36,t37,rfl,hsz,-,-,-,-,-,-,-,-,-,-,-,⟨q1,q2,q3⟩,q⟩:=hs
     have hl10:Ld listed 10:=JU (by kernel_rfl) hsz hr 10 (by decide)
     have hl9:Ld listed 9:=JU (by kernel_rfl) hsz hr 9 (by decide)
     rcases q with⟨q,_⟩|⟨_,q,_⟩|⟨_,q⟩
     ·exact absurd hl9 q
     ·exact absurd hl10 q
     ·have hr2:=q.row
      rw[hPX]at hr2;refine⟨q.ko.from _,⟨⟨q1,q2.cell.trans hb1.cell.symm⟩,q3.cell.trans hb2.cell.symm⟩,⟨⟨_,q.box,?_,trivial⟩,q2,q3⟩,hB'.trans q1⟩;rw[dT,dT,List.length_append];exact hr2
    case step=>
     intro listed a W1 i hs hi11 hu hw;rw[HS.out]at hs;obtain⟨t28,t29,t30,t31,t32,t33,t34,t35,t36,t37,rfl,hsz,p0,p1,p2,p3,p4,p5,p6,p7,p8,c9,c10,⟨q1,q2,q3⟩,q⟩:=hs
     have hn':=Ld.not hu
     obtain⟨K,hK⟩:∃K,K=S (listed.setIfInBounds i true):=⟨_,rfl⟩
     rw[←hK]
     have HK:=Lib.hid hK
     clear hK
     have hi11:i<11:=hi11
     obtain rfl|rfl|rfl|rfl|rfl|rfl|rfl|rfl|rfl|rfl|rfl:i=0∨i=1∨i=2∨i=3∨i=4∨i=5∨i=6∨i=7∨i=8∨i=9∨i=10:=by omega
     ·refine kZ rfl rfl ?_
      have hbx:W1.cell? ⟨W.heap.size,0,none⟩=some v:=by
       rcases q with⟨_,q⟩|⟨q,_⟩|⟨q,_⟩
       ·exact q.box.cell
       ·exact absurd (c9 q).1 hn'
       ·exact absurd (c9 (c10 q)).1 hn'
      gi_wp2
      rw[HK.out,HS.out];exact⟨_,_,_,_,_,_,_,_,_,_,rfl,by simpa using hsz,fun _=>rfl,fun h=>p1 (h.set (by decide)),fun h=>p2 (h.set (by decide)),fun h=>p3 (h.set (by decide)),fun h=>p4 (h.set (by decide)),fun h=>p5 (h.set (by decide)),fun h=>p6 (h.set (by decide)),fun h=>p7 (h.set (by decide)),fun h h9=>p8 (h.set (by decide)) fun h'=>h9 h'.keep,fun h=>let c:=c9 (h.set (by decide));⟨c.1.keep,c.2.1.keep,c.2.2.keep⟩,fun h=>(c10 (h.set (by decide))).keep,⟨q1,q2,q3⟩,q.imp (fun a=>⟨fun h=>a.1 (h.set (by decide)),a.2⟩) (Or.imp (fun a=>⟨a.1.keep,fun h=>a.2.1 (h.set (by decide)),a.2.2⟩) (fun a=>⟨a.1.keep,a.2⟩))⟩
     ·refine kZ rfl rfl ?_
      gi_wp2
      rw[HK.out,HS.out];exact⟨_,_,_,_,_,_,_,_,_,_,rfl,by simpa using hsz,fun h=>p0 (h.set (by decide)),fun _=>rfl,fun h=>p2 (h.set (by decide)),fun h=>p3 (h.set (by decide)),fun h=>p4 (h.set (by decide)),fun h=>p5 (h.set (by decide)),fun h=>p6 (h.set (by decide)),fun h=>p7 (h.set (by decide)),fun h h9=>p8 (h.set (by decide)) fun h'=>h9 h'.keep,fun h=>let c:=c9 (h.set (by decide));⟨c.1.keep,c.2.1.keep,c.2.2.keep⟩,fun h=>(c10 (h.set (by decide))).keep,⟨q1,q2,q3⟩,q.imp (fun a=>⟨fun h=>a.1 (h.set (by decide)),a.2⟩) (Or.imp (fun a=>⟨a.1.keep,fun h=>a.2.1 (h.set (by decide)),a.2.2⟩) (fun a=>⟨a.1.keep,a.2⟩))⟩
     ·refine kZ rfl rfl ?_
      have e1:=p1 (hw 1 (by kernel_rfl))
      subst e1
      gi_wp2
      rw[HK.out,HS.out];exact⟨_,_,_,_,_,_,_,_,_,_,rfl,by simpa using hsz,fun h=>p0 (h.set (by decide)),fun _=>rfl,fun _=>rfl,fun h=>p3 (h.set (by decide)),fun h=>p4 (h.set (by decide)),fun h=>p5 (h.set (by decide)),fun h=>p6 (h.set (by decide)),fun h=>p7 (h.set (by decide)),fun h h9=>p8 (h.set (by decide)) fun h'=>h9 h'.keep,fun h=>let c:=c9 (h.set (by decide));⟨c.1.keep,c.2.1.keep,c.2.2.keep⟩,fun h=>(c10 (h.set (by decide))).keep,⟨q1,q2,q3⟩,q.imp (fun a=>⟨fun h=>a.1 (h.set (by decide)),a.2⟩) (Or.imp (fun a=>⟨a.1.keep,fun h=>a.2.1 (h.set (by decide)),a.2.2⟩) (fun a=>⟨a.1.keep,a.2⟩))⟩
     ·refine kZ rfl rfl ?_
      have e2:=p2 (hw 2 (by kernel_rfl))
      subst e2
      have ha1:=(q1.cell (p:=⟨g,2*(x%m),none⟩) hglt).trans ha
      gi_wp2
      rw[HK.out,HS.out];exact⟨_,_,_,_,_,_,_,_,_,_,rfl,by simpa using hsz,fun h=>p0 (h.set (by decide)),fun h=>p1 (h.set (by decide)),fun _=>rfl,fun _=>rfl,fun h=>p4 (h.set (by decide)),fun h=>p5 (h.set (by decide)),fun h=>p6 (h.set (by decide)),fun h=>p7 (h.set (by decide)),fun h h9=>p8 (h.set (by decide)) fun h'=>h9 h'.keep,fun h=>let c:=c9 (h.set (by decide));⟨c.1.keep,c.2.1.keep,c.2.2.keep⟩,fun h=>(c10 (h.set (by decide))).keep,⟨q1,q2,q3⟩,q.imp (fun a=>⟨fun h=>a.1 (h.set (by decide)),a.2⟩) (Or.imp (fun a=>⟨a.1.keep,fun h=>a.2.1 (h.set (by decide)),a.2.2⟩) (fun a=>⟨a.1.keep,a.2⟩))⟩
     ·refine kZ rfl rfl ?_
      gi_wp2
      rw[HK.out,HS.out];exact⟨_,_,_,_,_,_,_,_,_,_,rfl,by simpa using hsz,fun h=>p0 (h.set (by decide)),fun h=>p1 (h.set (by decide)),fun h=>p2 (h.set (by decide)),fun h=>p3 (h.set (by decide)),fun _=>rfl,fun h=>p5 (h.set (by decide)),fun h=>p6 (h.set (by decide)),fun h=>p7 (h.set (by decide)),fun h h9=>p8 (h.set (by decide)) fun h'=>h9 h'.keep,fun h=>let c:=c9 (h.set (by decide));⟨c.1.keep,c.2.1.keep,c.2.2.keep⟩,fun h=>(c10 (h.set (by decide))).keep,⟨q1,q2,q3⟩,q.imp (fun a=>⟨fun h=>a.1 (h.set (by decide)),a.2⟩) (Or.imp (fun a=>⟨a.1.keep,fun h=>a.2.1 (h.set (by decide)),a.2.2⟩) (fun a=>⟨a.1.keep,a.2⟩))⟩
     ·refine kZ rfl rfl ?_
      have e4:=p4 (hw 4 (by kernel_rfl))
      subst e4
      gi_wp2
      rw[HK.out,HS.out];exact⟨_,_,_,_,_,_,_,_,_,_,rfl,by simpa using hsz,fun h=>p0 (h.set (by decide)),fun h=>p1 (h.set (by decide)),fun h=>p2 (h.set (by decide)),fun h=>p3 (h.set (by decide)),fun _=>rfl,fun _=>rfl,fun h=>p6 (h.set (by decide)),fun h=>p7 (h.set (by decide)),fun h h9=>p8 (h.set (by decide)) fun h'=>h9 h'.keep,fun h=>let c:=c9 (h.set (by decide));⟨c.1.keep,c.2.1.keep,c.2.2.keep⟩,fun h=>(c10 (h.set (by decide))).keep,⟨q1,q2,q3⟩,q.imp (fun a=>⟨fun h=>a.1 (h.set (by decide)),a.2⟩) (Or.imp (fun a=>⟨a.1.keep,fun h=>a.2.1 (h.set (by decide)),a.2.2⟩) (fun a=>⟨a.1.keep,a.2⟩))⟩
     ·refine kZ rfl rfl ?_
      have e5:=p5 (hw 5 (by kernel_rfl))
      subst e5
      have hb1:=(q1.cell (p:=⟨g,2*(x%m)+1,none⟩) hglt).trans hb
      gi_wp2
      rw[HK.out,HS.out];exact⟨_,_,_,_,_,_,_,_,_,_,rfl,by simpa using hsz,fun h=>p0 (h.set (by decide)),fun h=>p1 (h.set (by decide)),fun h=>p2 (h.set (by decide)),fun h=>p3 (h.set (by decide)),fun h=>p4 (h.set (by decide)),fun _=>rfl,fun _=>rfl,fun h=>p7 (h.set (by decide)),fun h h9=>p8 (h.set (by decide)) fun h'=>h9 h'.keep,fun h=>let c:=c9 (h.set (by decide));⟨c.1.keep,c.2.1.keep,c.2.2.keep⟩,fun h=>(c10 (h.set (by decide))).keep,⟨q1,q2,q3⟩,q.imp (fun a=>⟨fun h=>a.1 (h.set (by decide)),a.2⟩) (Or.imp (fun a=>⟨a.1.keep,fun h=>a.2.1 (h.set (by decide)),a.2.2⟩) (fun a=>⟨a.1.keep,a.2⟩))⟩
     ·refine kZ rfl rfl ?_
      have e3:=p3 (hw 3 (by kernel_rfl))
      have e6:=p6 (hw 6 (by kernel_rfl))
      subst e3;subst e6
      have q:IZ W.heap.size v v pre.length PX W' W1:=by
       rcases q with⟨_,q⟩|⟨q,_⟩|⟨q,_⟩
       ·exact q
       ·exact absurd (c9 q).2.1 hn'
       ·exact absurd (c9 (c10 q)).2.1 hn'
      have hn9:¬Ld listed 9:=fun h=>hn' (c9 h).2.1
      have hn3:1≤n-1-1:=by omega
      gi_wp2_with (gi_at_call 23;refine(CallsIn.inRound l (ZS F (n-1-1-1) h7 h3 h5 h6 h8 hro (by omega) _ _ _)).mono ?_;rintro e W4 ⟨rfl,hb4⟩)
      rw[HK.out,HS.out];exact⟨_,_,_,_,_,_,_,_,_,_,rfl,by simpa using hsz,fun h=>p0 (h.set (by decide)),fun h=>p1 (h.set (by decide)),fun h=>p2 (h.set (by decide)),fun _=>rfl,fun h=>p4 (h.set (by decide)),fun h=>p5 (h.set (by decide)),fun _=>rfl,fun _=>rfl,fun h h9=>by obtain⟨b,e1,e2,e3⟩:=p8 (h.set (by decide)) (fun h'=>h9 h'.keep);exact⟨b,e1,Nat.lt_of_lt_of_le e2 hb4.size,(hb4.cell (p:=⟨b,0,none⟩) e2).trans e3⟩,fun h=>let c:=c9 (h.set (by decide));⟨c.1.keep,c.2.1.keep,c.2.2.keep⟩,fun h=>(c10 (h.set (by decide))).keep,⟨q1.trans (hb4.mono (Nat.le_of_lt q.box.lt)),(hb4.block _ q2.lt).trans q2,(hb4.block _ q3.lt).trans q3⟩,.inl ⟨fun h=>hn9 (h.set (by decide)),q.below hb4⟩⟩
     ·refine kZ rfl rfl ?_
      have e7:=p7 (hw 7 (by kernel_rfl))
      subst e7
      have q:IZ W.heap.size v v pre.length PX W' W1:=by
       rcases q with⟨_,q⟩|⟨q,_⟩|⟨q,_⟩
       ·exact q
       ·exact absurd (c9 q).2.2 hn'
       ·exact absurd (c9 (c10 q)).2.2 hn'
      have hn9:¬Ld listed 9:=fun h=>hn' (c9 h).2.2
      gi_wp2
      rw[HK.out,HS.out];exact⟨_,_,_,_,_,_,_,_,_,_,rfl,by simpa using hsz,fun h=>p0 (h.set (by decide)),fun h=>p1 (h.set (by decide)),fun h=>p2 (h.set (by decide)),fun h=>p3 (h.set (by decide)),fun h=>p4 (h.set (by decide)),fun h=>p5 (h.set (by decide)),fun h=>p6 (h.set (by decide)),fun _=>rfl,fun _ _=>⟨_,rfl,by simp,cell_one_new _ _ _ 0 _ rfl⟩,fun h=>let c:=c9 (h.set (by decide));⟨c.1.keep,c.2.1.keep,c.2.2.keep⟩,fun h=>(c10 (h.set (by decide))).keep,⟨q1.alloc (Nat.le_of_lt q.box.lt) _,q2.alloc _,q3.alloc _⟩,.inl ⟨fun h=>hn9 (h.set (by decide)),q.below ((Below.refl _ _).alloc (aJ _) _)⟩⟩
     ·refine kZ rfl rfl ?_
      have e0:=p0 (hw 0 (by kernel_rfl))
      subst e0
      have hn9:¬Ld listed 9:=hn'
      obtain⟨b,e8,hb8,hcb⟩:=p8 (hw 8 (by kernel_rfl)) hn9
      subst e8
      have q:IZ W.heap.size t28 t28 pre.length PX W' W1:=by
       rcases q with⟨_,q⟩|⟨q,_⟩|⟨q,_⟩
       ·exact q
       ·exact absurd q hn'
       ·exact absurd (c10 q) hn'
      obtain⟨v',W2',hap,hown',hgrow,_,_⟩:=run_append_own_at (P:=Tryz.prog) (w:=W1) W.heap.size 22 22 23 i0 (.int .u64 0) 1 8 Tryz.underlying22 hi hz0 hz1 hz2 rfl (by decide) t28 pre.length PX q.row ⟨b,0,none⟩ 1 1 [.int .u64 (JV (at_ (2*(x%m))) (at_ (2*(x%m)+1)))] rfl (fun j u hj=>by cases j with
        |zero=>injection hj with hj;subst hj;exact hcb
        |succ j=>cases hj) (by simp[Value.oneCell']) (by unfold maxLen;omega) (by omega) (Nat.le_of_lt q.box.lt)
      have hne:∀B,Boxed W1 B 22 t28→some B≠t28.ownBlock:=fun B h=>h.not_row (by decide) q.row
      have hko:KeepsOthers W1 W2':=KeepsOthers.of_grownBy hgrow fun j o ej hj=>by
       rcases q.row.2 with⟨rfl,_⟩|⟨g,cap,cur,rfl,_,hgb,_⟩
       ·simp[Value.ownBlock]at ej
       ·obtain rfl:g=j:=by simpa[Value.ownBlock] using ej
        rw[hgb]at hj;cases hj;rfl
      refine PS _ _ _ rfl rfl rfl hap ?_;rw[HK.out,HS.out]
      exact⟨_,_,_,_,_,_,_,_,_,_,rfl,by simpa using hsz,fun _=>rfl,fun h=>p1 (h.set (by decide)),fun h=>p2 (h.set (by decide)),fun h=>p3 (h.set (by decide)),fun h=>p4 (h.set (by decide)),fun h=>p5 (h.set (by decide)),fun h=>p6 (h.set (by decide)),fun h=>p7 (h.set (by decide)),fun _ h=>absurd (Ld.at_ (by omega)) h,fun _=>⟨Ld.keep (show Ld listed 0 from hw 0 (by kernel_rfl)),Ld.keep (show Ld listed 7 from hw 7 (by kernel_rfl)),Ld.keep (show Ld listed 8 from hw 8 (by kernel_rfl))⟩,fun h=>(c10 (h.set (by decide))).keep,⟨q1.grown hgrow (Nat.le_of_lt q.box.lt) (fun k e=>(q.row.lt k e).1),q2.kept hgrow (q2.not_row (by decide) q.row),q3.kept hgrow (q3.not_row (by decide) q.row)⟩,.inr (.inl ⟨Ld.at_ (by omega),fun h=>absurd (c10 (h.set (by decide))) hn9,⟨q.box.kept hgrow (hne _ q.box),hown',q.ko.trans hko⟩⟩)⟩
     ·refine kZ rfl rfl ?_
      have hl9:Ld listed 9:=hw 9 (by kernel_rfl)
      have q:IZ W.heap.size v t37 (pre.length+1) (PX++[.int .u64 (JV (at_ (2*(x%m))) (at_ (2*(x%m)+1)))]) W' W1:=by
       rcases q with⟨q,_⟩|⟨_,_,q⟩|⟨q,_⟩
       ·exact absurd hl9 q
       ·exact q
       ·exact absurd q hn'
      obtain⟨g',cap',rfl⟩:=ownsRow_succ q.row
      have hc2:=q.box.cell
      have hf2:=q.box.frozen
      gi_wp2
      rw[HK.out,HS.out];exact⟨_,_,_,_,_,_,_,_,_,_,rfl,by simpa using hsz,fun h=>by first|rfl|exact p0 (h.set (by decide)),fun h=>by first|rfl|exact p1 (h.set (by decide)),fun h=>by first|rfl|exact p2 (h.set (by decide)),fun h=>by first|rfl|exact p3 (h.set (by decide)),fun h=>by first|rfl|exact p4 (h.set (by decide)),fun h=>by first|rfl|exact p5 (h.set (by decide)),fun h=>by first|rfl|exact p6 (h.set (by decide)),fun h=>by first|rfl|exact p7 (h.set (by decide)),fun _ h=>absurd hl9.keep h,fun h=>let c:=c9 (h.set (by decide));⟨c.1.keep,c.2.1.keep,c.2.2.keep⟩,fun _=>hl9.keep,⟨q1.setCell (p:=⟨W.heap.size,0,none⟩) (aJ _) _,yF q2 (by omega) _,yF q3 (by omega) _⟩,.inr (.inr ⟨Ld.at_ (by omega),⟨q.box.set _,q.row.kept (grownBy_setCell' W1 _ _) (.inr (q.box.not_row (by decide) q.row).symm),q.ko.trans (KeepsOthers.setCell _ _ _)⟩⟩)⟩
   case done=>
    rintro D' ys W3 hD' rfl ⟨⟨⟨v,hv,hrow',_⟩,hb1,hb2⟩,hB'⟩ hK
    have hlv':((List.range m).map fun x=>JV (at_ (2*(x%m))) (at_ (2*(x%m)+1)))=mD JV L D (k+1):=by
     unfold mD;rw[hm]
     refine List.map_congr_left fun j hj=>?_
     have hj:j<m:=List.mem_range.1 hj
     rw[Nat.mod_eq_of_lt hj,Hat.out];dsimp only;rw[pN L 0 (by rw[h2m];omega),pN L 0 (by rw[h2m];omega)]
     show _=JV _ _
     have e1:2*j*2^k=j*2^(k+1):=by rw[iE,←Nat.mul_assoc,Nat.mul_comm j 2]
     have e2:(2*j+1)*2^k=j*2^(k+1)+2^k:=by rw[Nat.add_mul,e1,Nat.one_mul]
     rw[e1,e2]
    rw[hlv',List.length_range]at hrow'
    obtain⟨g3,cap3,rfl⟩:∃g3 cap3,v=.slice (some ⟨g3,0,none⟩) m cap3:=by
     rcases hrow'.2 with⟨_,h⟩|⟨g3,cap3,_,h,_⟩
     ·omega
     ·exact⟨g3,cap3,h⟩
    have hc:=hv.cell
    have hT3:=qY hT hB'
    have hsz3:=hB'.size
    have hwW:=hB.size
    have hD0:W.heap.size+1+1+1≤D':=by simpa using hD'
    gi_wp2_with (gi_at_builtin;refine wpListIn_append_own _ rfl _ _ 54 rfl w.heap.size 22 j0 (.slice none 0 0) 1 24 Tryz.underlying54 hj hjz0 hjz1 hjz2 rfl (by decide) _ _ _ rfl (hT3.alloc _) ⟨W3.heap.size,0,none⟩ 1 1 [.slice (some ⟨g3,0,none⟩) m cap3] rfl rfl (cell_one_new _ _ _) (by simp[Value.oneCell']) (by unfold maxLen;omega) (by omega) (by simp;omega) ?_;intro tv' W4 hown' hgrow _;have hv4:=((hv.alloc (.cells #[.slice (some ⟨g3,0,none⟩) m cap3] 22)).kept hgrow (fun e=>by have:=(hT.lt _ e.symm).2;omega));have hc4:=hv4.cell)
    have hml:(W3.alloc (.cells #[.slice (some ⟨g3,0,none⟩) m cap3] 22)).heap[D']?=some (.deferred (some [])):=(Below.heap_alloc W3 _ D' (aO.1 hK).1).trans hK
    have hT4:=hT3.alloc (.cells #[.slice (some ⟨g3,0,none⟩) m cap3] 22)
    have hmk4:∀d,W3.heap[d]?=some (Obj.deferred (some []))→W4.heap[d]?=some (Obj.deferred (some [])):=fun d h=>by
     have e1:=(Below.heap_alloc W3 (.cells #[.slice (some ⟨g3,0,none⟩) m cap3] 22) d (aO.1 h).1).trans h
     exact(hgrow.block d (aO.1 e1).1 (aEW hT4 e1 rfl)).trans e1
    have hlx:xs.length=k+1:=by have:=hT.1;omega
    refine⟨⟨k+1,tv',_,xs++[.slice (some ⟨g3,0,none⟩) m cap3],D'::ds,_,_,_,_,_,_,_,_,_,_,_,by omega,rfl,hown',fun j hj=>?_,?_,?_,fun d hd=>?_,?_⟩,?_⟩
    ·rcases Nat.lt_or_ge k j with hjk|hjk
     ·obtain rfl:j=k+1:=by omega
      refine⟨_,by rw[cJ (by omega),hlx,Nat.sub_self];rfl,?_⟩;rw[hm]
      have hr3:=MQ hrow' hwW
      exact(hr3.alloc _).kept hgrow (ZN (hr3.alloc _) hT4 (by decide))
     ·obtain⟨vj,e1,e2⟩:=hLv j hjk
      have hr3:=qY e2 hB'
      exact⟨vj,by rw[List.getElem?_append_left (by omega)];exact e1,(hr3.alloc _).kept hgrow (ZN (hr3.alloc _) hT4 (by decide))⟩
    ·rw[cJ (by omega),hlx,Nat.sub_self];rfl
    ·exact((hB.trans (hB'.mono hwW)).alloc (by omega) _).grown hgrow (by simp;omega) (fun q e=>(hT.lt q e).1)
    ·rcases List.mem_cons.1 hd with rfl|hd
     ·exact⟨by omega,hmk4 _ hK⟩
     ·obtain⟨d1,d2⟩:=hM.1 d hd
      exact⟨d1,hmk4 d ((hB'.block d (aO.1 d2).1).trans d2)⟩
    ·refine List.nodup_cons.2 ⟨fun hd=>?_,hM.2⟩
     have:=(aO.1 (hM.1 _ hd).2).1
     omega
    ·show m<2*m
     omega
   case stop=>
    rintro D c pre W _ _ h _;exact h.elim
  ·obtain rfl:D=k:=by omega
   have h1D:2^(D-D)=1:=by rw[Nat.sub_self]
   rw[h1D]
   gi_wp2
   refine xW (B:=w.heap.size) ds W hM hB.size fun W' hW'=>?_
   refine⟨_,results_tmp rfl _ _ _,(hB.trans hW'.below),_,rfl,?_⟩
   show PR _ _ _ tv
   rw[hD]
   refine JY (hW'.row hT) (fun b h1 h2=>⟨h1,h2⟩) fun i hi9=>?_
   obtain⟨v,e1,e2⟩:=hLv i (by omega);refine⟨v,e1,JY (hW'.row e2) (fun b h1 h2=>⟨h1,h2⟩) fun j hj9=>?_⟩;refine⟨.int .u64 ((mD JV L D i).getD j default),?_,rfl⟩;rw[cC,aD,aH (by rw[kO];exact hj9)];rfl
end Go.Proofs.YtjfofadeahdnnaaGreatDoor
