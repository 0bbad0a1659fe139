import Derived.WalkKit
import Derived.PlainAid
import Derived.OpenShut
import Derived.Laws.Bits64
import Derived.Laws.Bits64b
import Derived.Below
import Derived.Laws.OwnMore
import Derived.Deep.AppendLies
import Derived.Maps.AppendAt
import Derived.RegionTactic
import Derived.OwnWalk
import Derived.Test.YtjfofadeahdnnaaGreatDoorProg
import Derived.RangeFuncNested
import Derived.RangeFuncBound
import Derived.RangeFuncCalls
import Derived.RangeFuncLeaves
import Derived.Shelf.Abstract
import Derived.Shelf.RegionOpen
import Derived.OwnWalkIn
import Derived.TacticsInMore
import Derived.LoopNIn
import Derived.LoopIn
import Derived.Lib.Hide
import Derived.Laws.MakeOwn
import Derived.WalkSpells
import Derived.WalkLawsBesides
import Derived.Lib.ConvBytes
import Derived.Deep.QuietTactic
import Derived.BigQuiet
import Derived.WalkSmall
import Derived.BigRegionIn
import Derived.Laws.CopyOwn
set_option linter.unusedVariables false
set_option linter.unusedSimpArgs false
namespace Go.Proofs.YtjfofadeahdnnaaGreatDoor
open _root_.Array renaming getElem?_eq_some_iff→aO,replicate_succ→eU,replicate_zero→eT
open _root_.Int renaming eq_ofNat_of_zero_le→fK
open IntKind renaming u64→bD
open _root_.List renaming append_toArray→eZ,cons_append→gC,getD_eq_getElem?_getD→aD,getElem?_eq_getElem→aH,getElem?_eq_none→bB,length_cons→eP,length_nil→fZ,map_append→dT,map_congr_left→gR,nil_append→fY,push_toArray→fQ,range→cS,range_succ→iF,size_toArray→eX,take_succ_eq_append_getElem→fP
open _root_.Nat renaming add_mul→cH,le_refl→aJ,mul_comm→fW,mul_one→gQ,one_mul→fT,pow_le_pow_right→iB,pow_succ'→iE,reduceAdd→iS,reduceSub→iR,zero_le→bK
open Value renaming int→cU
open Go.RowKit
def CD(g:Nat→Int)(i:Nat):Nat→Int
 |0=>0
 |m+1=>CD g i m+g (i+m)*256^m
def gT(g:Nat→Int)(n k:Nat):List Int:=(cS k).map fun j=>CD g (8*j) (min 8 (n-8*j))
theorem kM(g:Nat→Int)(n k:Nat):gT g n (k+1)=gT g n k++[CD g (8*k) (min 8 (n-8*k))]:=by simp[gT,iF]
theorem qV(g:Nat→Int)(n k:Nat):(gT g n k).length=k:=by simp[gT]
def Byt(g:Nat→Int):Prop:=∀k,0≤g k∧g k≤255
theorem aHH(s:ByteArray):Byt (PlainAid.bt s):=fun k=>⟨PlainAid.bt_nonneg s k,PlainAid.bt_le s k⟩
theorem CC{g:Nat→Int}(hg:Byt g)(i m:Nat):0≤CD g i m∧CD g i m<256^m:=by
 induction m with
 |zero=>simp[CD]
 |succ m ih=>
  obtain⟨h1,h2⟩:=hg (i+m)
  have hp:(0:Int)<256^m:=Int.pow_pos (by decide)
  simp only[CD,Int.pow_succ]
  have a:0≤g (i+m)*256^m:=Int.mul_nonneg h1 (by omega)
  have b:g (i+m)*256^m≤255*256^m:=Int.mul_le_mul_of_nonneg_right h2 (by omega)
  omega
theorem MD{g:Nat→Int}(hg:Byt g)(i m:Nat)(hm:m≤8):0≤CD g i m∧CD g i m≤18446744073709551615:=by
 obtain⟨h1,h2⟩:=CC hg i m;refine⟨h1,?_⟩
 have h3:256^m≤256^8:=iB (by decide) hm
 have e:(256:Int)^m=((256^m:Nat):Int):=by simp
 rw[e]at h2;omega
theorem ZV{g:Nat→Int}(hg:Byt g)(i m:Nat)(hm:m<8) :
  bits BinOp.or bD (CD g i m) (bD.wrap (bD.wrap (g (i+m))*2^(8*m)))=CD g i (m+1):=by
 obtain⟨h1,h2⟩:=CC hg i m;obtain⟨g1,g2⟩:=hg (i+m);obtain⟨k1,k2⟩:=MD hg i (m+1) (by omega)
 have e256:(256:Int)^m=2^(8*m):=by rw[Int.pow_mul];rfl
 rw[IntWalk.u64_in (g (i+m)) (by omega)];simp only[CD]at k1 k2 ⊢;rw[e256]at k1 k2 h2 ⊢;rw[IntWalk.u64_in (g (i+m)*2^(8*m)) ⟨Int.mul_nonneg g1 (Int.le_of_lt (Int.pow_pos (by decide))),by omega⟩];obtain⟨a,ha⟩:=fK h1;obtain⟨c,hc⟩:=fK g1;rw[ha,hc]at k2 ⊢;rw[ha]at h2
 have e2:(2:Int)^(8*m)=((2^(8*m):Nat):Int):=by simp
 have h2':a<2^(8*m):=by rw[e2]at h2;omega
 have e3:(c:Int)*2^(8*m)=((c*2^(8*m):Nat):Int):=by rw[e2];simp
 rw[e3]at k2 ⊢;rw[bits_or_u64_nat a _ (by omega) (by omega),Nat.or_comm,←Nat.shiftLeft_eq,←Nat.shiftLeft_add_eq_or_of_lt h2',Nat.shiftLeft_eq];omega
def aK6(s x:Int):Int:=bD.wrap (bits BinOp.xor bD s x*11400714819323198485)
def mY(s x:Int):Int:=bits BinOp.xor bD (aK6 s x) (aK6 s x / 4294967296)
def FH(s x:Nat):Nat:=(s ^^^ x)*11400714819323198485%18446744073709551616
def aFK(s x:Nat):Nat:=FH s x ^^^ (FH s x) >>> 32
theorem CA{a b:Nat}(ha:a<18446744073709551616)(hb:b<18446744073709551616):a ^^^ b<18446744073709551616:=
 Nat.xor_lt_two_pow (n:=64) ha hb
theorem aFL(s x:Nat)(hs:s<18446744073709551616)(hx:x<18446744073709551616):aK6 s x=FH s x:=by
 unfold aK6 FH;rw[bits_xor_u64_nat s x hs hx,IntKind.wrap_u64];omega
theorem xN(s x:Nat):FH s x<18446744073709551616:=Nat.mod_lt _ (by decide)
theorem xO(s x:Nat)(hs:s<18446744073709551616)(hx:x<18446744073709551616):mY s x=aFK s x:=by
 unfold mY aFK;rw[aFL s x hs hx,Nat.shiftRight_eq_div_pow]
 have h:=xN s x
 have e:((FH s x:Nat):Int) / 4294967296=((FH s x / 2^32:Nat):Int):=by simp
 rw[e,bits_xor_u64_nat _ _ h (by omega)]
theorem aRG(s x:Nat):aFK s x<18446744073709551616:=by
 have h:=xN s x
 exact CA h (by rw[Nat.shiftRight_eq_div_pow];omega)
theorem jU(s x:Int):0≤mY s x∧mY s x≤18446744073709551615:=bounds_u64 (wf_bits _ _ _ _)
theorem aGT{m m':Nat}(hm:m<18446744073709551616)(hm':m'<18446744073709551616)(e:m ^^^ m >>> 32=m' ^^^ m' >>> 32):m=m':=by
 have inv:∀a:Nat,a<18446744073709551616→(a ^^^ a >>> 32) ^^^ (a ^^^ a >>> 32) >>> 32=a:=by
  intro a ha;rw[Nat.shiftRight_xor_distrib,←Nat.shiftRight_add,Nat.xor_assoc,←Nat.xor_assoc (a >>> 32),Nat.xor_self,Nat.zero_xor]
  have:a >>> (32+32)=0:=by rw[Nat.shiftRight_eq_div_pow];exact Nat.div_eq_of_lt (by simpa using ha)
  rw[this,Nat.xor_zero]
 rw[←inv m hm,e,inv m' hm']
theorem aK2{a b:Nat}(ha:a<18446744073709551616)(hb:b<18446744073709551616)(e:a*11400714819323198485%18446744073709551616=b*11400714819323198485%18446744073709551616):a=b:=by
 have inv:∀c:Nat,c<18446744073709551616→(c*11400714819323198485%18446744073709551616)*17428512612931826493%18446744073709551616=c:=by
  intro c hc;rw[Nat.mod_mul_mod,Nat.mul_assoc,←Nat.mul_mod_mod]
  have:11400714819323198485*17428512612931826493%18446744073709551616=1:=by decide
  rw[this,gQ,Nat.mod_eq_of_lt hc]
 rw[←inv a ha,e,inv b hb]
theorem SC{s x s' x':Nat}(hs:s<18446744073709551616)(hx:x<18446744073709551616)(hs':s'<18446744073709551616)(hx':x'<18446744073709551616)(e:aFK s x=aFK s' x'):s ^^^ x=s' ^^^ x':=
 aK2 (CA hs hx) (CA hs' hx') (aGT (xN _ _) (xN _ _) e)
theorem nU{n:Int}(h:0≤n∧n≤18446744073709551615):∃k:Nat,n=k∧k<18446744073709551616:=⟨n.toNat,by omega,by omega⟩
theorem vK{a b c:Nat}(h:a ^^^ b=a ^^^ c):b=c:=by
 have:a ^^^ (a ^^^ b)=a ^^^ (a ^^^ c):=by rw[h]
 simpa[←Nat.xor_assoc] using this
def tA(n:Int):Prop:=0≤n∧n≤18446744073709551615
theorem wF{s x y:Int}(hs:tA s)(hx:tA x)(hy:tA y):mY s x=mY s y↔x=y:=by
 refine⟨fun e=>?_,fun e=>by rw[e]⟩;obtain⟨s,rfl,ls⟩:=nU hs;obtain⟨x,rfl,lx⟩:=nU hx;obtain⟨y,rfl,ly⟩:=nU hy;rw[xO s x ls lx,xO s y ls ly]at e
 have:=SC ls lx ls ly (by omega)
 rw[vK this]
theorem rL{s t x:Int}(hs:tA s)(ht:tA t)(hx:tA x):mY s x=mY t x↔s=t:=by
 refine⟨fun e=>?_,fun e=>by rw[e]⟩;obtain⟨s,rfl,ls⟩:=nU hs;obtain⟨x,rfl,lx⟩:=nU hx;obtain⟨t,rfl,lt⟩:=nU ht;rw[xO s x ls lx,xO t x lt lx]at e
 have:=SC ls lx lt lx (by omega)
 rw[Nat.xor_comm s,Nat.xor_comm t]at this;rw[vK this]
def oG(s:Int)(l:List Int):Int:=l.foldl mY s
theorem uV(s:Int)(l:List Int)(x:Int):oG s (l++[x])=mY (oG s l) x:=by simp[oG]
theorem FI{s:Int}(hs:tA s)(l:List Int):tA (oG s l):=by
 induction l generalizing s with
 |nil=>exact hs
 |cons x r ih=>exact ih (jU s x)
theorem AF(s:Int)(l r:List Int):oG s (l++r)=oG (oG s l) r:=by simp[oG]
theorem aCE{s t:Int}(l:List Int)(hl:∀x∈l,tA x)(hs:tA s)(ht:tA t):oG s l=oG t l↔s=t:=by
 induction l generalizing s t with
 |nil=>exact Iff.rfl
 |cons x r ih=>
  have:=ih (s:=mY s x) (t:=mY t x) (fun y hy=>hl y (by simp[hy])) (jU _ _) (jU _ _)
  exact this.trans (rL hs ht (hl x (by simp)))
def u64(n:Int):Int:=bD.wrap n
theorem MG(n:Int):tA (u64 n):=bounds_u64 (wf_wrap .u64 n)
def qX(labw:List Int)(lablen:Nat)(l:List Int):Int:=mY (oG (mY (mY (oG 0 labw) lablen) l.length) (l.map u64)) 0
def Rd(w:World)(B:Nat)(A:Option Addr)(n:Nat)(f:Nat→Value):Prop:=0<n→∃ad,A=some ad∧ad.block<B∧∀k,k<n→w.cell? (ad.add k)=some (f k)
theorem LX(a:Addr)(n:Nat):(a.add n).block=a.block:=by unfold Addr.add;split<;>rfl
section
variable {w w':World} {B B' n:Nat} {A:Option Addr} {f g:Nat→Value}
theorem Rd.keep(h:Rd w B A n f)(hk:∀p:Addr,p.block<B→w'.cell? p=w.cell? p):Rd w' B A n f:=fun hn=>by
 obtain⟨ad,e,hlt,hc⟩:=h hn;exact⟨ad,e,hlt,fun k hkn=>(hk _ (by rw[LX];exact hlt)).trans (hc k hkn)⟩
theorem Rd.below(h:Rd w B A n f)(hb:Below B w w'):Rd w' B A n f:=h.keep fun _ hp=>hb.cell hp
theorem Rd.alloc(h:Rd w B A n f)(hB:B≤w.heap.size)(o:Obj):Rd (w.alloc o) B A n f:=h.keep fun p hp=>World.cell?_alloc_lt w o p (by omega)
theorem Rd.setCell(h:Rd w B A n f){p:Addr}(hB:B≤p.block)(u:Value):Rd (w.setCell p u) B A n f:=
 h.keep fun q hq=>World.cell?_setCell_other w p q u (fun e=>by subst e;omega)
theorem Rd.grown(h:Rd w B A n f){row:Option Nat}(hg:w.grownBy w' row)(hB:B≤w.heap.size)(hr:∀k,row=some k→B≤k):Rd w' B A n f:=
 h.keep fun p hp=>World.cell?_of_block (hg.block p.block (by omega) (fun e=>by have:=hr _ e.symm;omega))
theorem Rd.more(h:Rd w B A n f)(hB:B≤B'):Rd w B' A n f:=fun hn=>by
 obtain⟨ad,e,hlt,hc⟩:=h hn;exact⟨ad,e,by omega,hc⟩
theorem Rd.at_(h:Rd w B A n f){k:Nat}(hk:k<n):∃ad,A=some ad∧ad.block<B∧w.cell? (ad.add k)=some (f k):=by
 obtain⟨ad,e,hlt,hc⟩:=h (by omega);exact⟨ad,e,hlt,hc k hk⟩
theorem Rd.congr(h:Rd w B A n f)(e:∀k,k<n→f k=g k):Rd w B A n g:=fun hn=>by
 obtain⟨ad,ea,hlt,hc⟩:=h hn;exact⟨ad,ea,hlt,fun k hk=>by rw[hc k hk,e k hk]⟩
theorem Rd.take(h:Rd w B A n f){m:Nat}(hm:m≤n):Rd w B A m f:=fun hn=>by
 obtain⟨ad,e,hlt,hc⟩:=h (by omega);exact⟨ad,e,hlt,fun k hk=>hc k (by omega)⟩
theorem Rd.nil:Rd w B A 0 f:=fun h=>absurd h (by omega)
theorem Rd.of_own{base:Nat}{e:TypeId}{v:Value}{xs:List Value}(h:w.ownsRow base e 1 v n xs):∃A c,v=.slice A n c∧n≤c∧Rd w w.heap.size A n fun k=>xs[k]?.getD undef:=by
 have hl:=h.1
 rcases h.2 with⟨rfl,rfl⟩|⟨g,cap,cur,rfl,hb,hg,hnc,hcm,hcs,htake⟩
 ·exact⟨_,_,rfl,aJ _,Rd.nil⟩
 ·refine⟨_,_,rfl,hnc,fun hn=>⟨_,rfl,(h.lt g rfl).2,fun k hk=>?_⟩⟩
  have hk':k<xs.length:=by omega
  have:=h.cells (g:=g) rfl k xs[k] (aH hk')
  rw[this];simp only[aH hk',Option.getD_some]
end
theorem Rd.next{w w':World}{A:Option Addr}{n:Nat}{f:Nat→Value}(h:Rd w w.heap.size A n f)(hb:Below w.heap.size w w'):Rd w' w'.heap.size A n f:=(h.below hb).more hb.size
def vl(f:Nat→Value)(n:Nat):List Value:=(cS n).map f
theorem JF(f:Nat→Value)(n:Nat):(vl f n).length=n:=by simp[vl]
theorem aE3(f:Nat→Value)(n k:Nat)(hk:k<n):(vl f n)[k]?=some (f k):=by simp[vl,hk]
theorem aRE(f:Nat→Value)(n:Nat):vl f (n+1)=vl f n++[f n]:=by simp[vl,iF]
theorem aRF(f:Nat→Value)(n k:Nat)(hk:k<n)(u:Value):(vl f n)[k]?.getD u=f k:=by rw[aE3 f n k hk];rfl
section
variable {P:Program} (w:World)
theorem vW(base:Nat)(t ty e:TypeId)(i:TypeInfo)(size:Nat)(ht:P.underlying t=some (.slice e))(hi:P.info? e=some i)
  (v:Value) (n:Nat) (xs:List Value) (hown:w.ownsRow base e size v n xs) (c:Nat):(Builtin.append_ #[t,t] ty #[v,.slice none 0 c]).run P w=.ok v w:=by
 rcases hown.2 with⟨rfl,rfl⟩|⟨g,cap,cur,rfl,_,_,hnc,_⟩
 ·simp[Builtin.append_,run_underlying ht,sizeOf,typeInfo,hi,Builtin.lenOf,Builtin.firstCells]
 ·simp[Builtin.append_,run_underlying ht,sizeOf,typeInfo,hi,Builtin.lenOf,Builtin.firstCells,hnc,storeCells]
theorem ID(base:Nat)(t ty e:TypeId)(i:TypeInfo)(z:Value)(bytes:Nat)(ht:P.underlying t=some (.slice e))(hi:P.info? e=some i)(hz:i.zero=some z)
  (hsize:i.size=1) (hby:i.bytes=bytes) (hzs:z.cells.size=1)
  (v:Value) (n:Nat) (xs:List Value) (hown:w.ownsRow base e 1 v n xs)
  (B:Nat) (A:Option Addr) (m c:Nat) (f:Nat→Value) (hr:Rd w B A m f) (h1:∀k,(f k).oneCell'=true)
  (h63:n+m≤maxLen) (hbytes:(n+m)*bytes≤140737488355328) (hbase:base≤w.heap.size) :
  ∃v' w',(Builtin.append_ #[t,t] ty #[v,.slice A m c]).run P w=.ok v' w'∧w'.ownsRow base e 1 v' (n+m) (xs++vl f m)∧w.grownBy w' v.ownBlock ∧
   (v'.ownBlock=v.ownBlock∨v'.ownBlock=some w.heap.size)∧(v'=.slice none 0 0↔v=.slice none 0 0∧m=0):=by
 rcases A with _|ad
 ·obtain rfl:m=0:=by
    rcases Nat.eq_zero_or_pos m with h0|h0
    ·exact h0
    ·obtain⟨ad,h,_⟩:=hr h0
     cases h
  exact⟨v,w,vW w base t ty e i 1 ht hi v n xs hown c,by simpa[vl] using hown,World.grownBy.refl w _,.inl rfl,by simp⟩
 ·have hcells:∀j u,(vl f m)[j]?=some u→w.cell? (ad.add j)=some u:=by
    intro j u hu
    by_cases hj:j<m
    ·obtain⟨ad',h,_,hc⟩:=hr (by omega)
     injection h with h;subst h;rw[aE3 f m j hj]at hu;rw[hc j hj];exact hu
    ·rw[bB (by rw[JF];omega)]at hu
     cases hu
  obtain⟨v',w',hrun,h2,h3,h4,h5⟩:=run_append_own_at (P:=P) w base t ty e i z 1 bytes ht hi hz hsize hby hzs (by decide) v n xs hown ad m c (vl f m) (by rw[JF];omega) hcells (fun u hu=>by simp only[vl,List.mem_map]at hu;obtain⟨k,_,rfl⟩:=hu;exact h1 k) h63 hbytes hbase;exact⟨v',w',hrun,h2,h3,h5,h4⟩
theorem MB{o:Oper}{a:Act}{K:Act→World→Prop}{Q:Exit→Act→World→Prop}(s x:Operand)(t:TypeId)
  (ho:o.op=.call { callee:=.builtin .append,args := #[s,x],argTypes := #[t,t] })
  (base:Nat) (e:TypeId) (i:TypeInfo) (z:Value) (bytes:Nat) (ht:P.underlying t=some (.slice e)) (hi:P.info? e=some i) (hz:i.zero=some z)
  (hsize:i.size=1) (hby:i.bytes=bytes) (hzs:z.cells.size=1)
  (v:Value) (n:Nat) (xs:List Value) (hs:a.eval s=v) (hown:w.ownsRow base e 1 v n xs)
  (B:Nat) (A:Option Addr) (m c:Nat) (f:Nat→Value) (hx:a.eval x=.slice A m c) (hr:Rd w B A m f) (h1:∀k,(f k).oneCell'=true)
  (h63:n+m≤maxLen) (hbytes:(n+m)*bytes≤140737488355328) (hbase:base≤w.heap.size)
  (h:∀v' w',w'.ownsRow base e 1 v' (n+m) (xs++vl f m)→w.grownBy w' v.ownBlock→(v'.ownBlock=v.ownBlock∨v'.ownBlock=some w.heap.size)→(v'=.slice none 0 0↔v=.slice none 0 0∧m=0)→K (a.put o.dst v') w'):o.wp P a w K Q:=by
 obtain⟨v',w',hrun,h2,h3,h4,h5⟩:=ID (P:=P) w base t o.type e i z bytes ht hi hz hsize hby hzs v n xs hown B A m c f hr h1 h63 hbytes hbase;unfold Oper.wp execOp;simp only[ho,resolve,invoke,builtin,Sem.run_bind,Sem.run_pure,Result.andThen_ok,List.map_toArray,List.map_cons,List.map_nil,hs,hx,hrun];exact h v' w' h2 h3 h4 h5
theorem aB6{ops:Array Oper}{rest:List Oper}{o:Oper}{a:Act}{Q:Exit→Act→World→Prop}(hgd:o.guard=none)(s x:Operand)(t:TypeId)
  (ho:o.op=.call { callee:=.builtin .append,args := #[s,x],argTypes := #[t,t] })
  (base:Nat) (e:TypeId) (i:TypeInfo) (z:Value) (bytes:Nat) (ht:P.underlying t=some (.slice e)) (hi:P.info? e=some i) (hz:i.zero=some z)
  (hsize:i.size=1) (hby:i.bytes=bytes) (hzs:z.cells.size=1)
  (v:Value) (n:Nat) (xs:List Value) (hs:a.eval s=v) (hown:w.ownsRow base e 1 v n xs)
  (B:Nat) (A:Option Addr) (m c:Nat) (f:Nat→Value) (hx:a.eval x=.slice A m c) (hr:Rd w B A m f) (h1:∀k,(f k).oneCell'=true)
  (h63:n+m≤maxLen) (hbytes:(n+m)*bytes≤140737488355328) (hbase:base≤w.heap.size)
  (h:∀v' w',w'.ownsRow base e 1 v' (n+m) (xs++vl f m)→w.grownBy w' v.ownBlock→(v'.ownBlock=v.ownBlock∨v'.ownBlock=some w.heap.size)→(v'=.slice none 0 0↔v=.slice none 0 0∧m=0)→wpList P ops Q rest (a.put o.dst v') w'):wpList P ops Q (o::rest) a w:=
 wpList_plain hgd fun _ hK=>MB w s x t ho base e i z bytes ht hi hz hsize hby hzs v n xs hs hown B A m c f hx hr h1 h63 hbytes hbase fun v' w' h2 h3 h4 h5=>hK _ _ (h v' w' h2 h3 h4 h5)
end
open Go.Shelf
attribute [local go_sem] Oper.semAt_some
set_option maxHeartbeats 400000 in
theorem NR(F:Fence)(n:Nat)(h:F.fn 67)(hro:F.round=none)(s x:Int)(w:World) :
  CallsIn F n Tryz.prog 67 #[.int .u64 s,.int .u64 x] w fun e w'=>e=.returned (.int .u64 (mY s x))∧w=w':=by
 refine callsIn_of_wp Tryz.func67 rfl h ?_ hro;simp only[Tryz.ntmps67,eX,eP,fZ,iS,iR,eU,eT,fQ,eZ,fY,gC]
 gi_wp2
 go_ret
 exact⟨rfl,rfl⟩
def US(Bn n₀:Nat)(W W':World):Prop:=Below n₀ W W'∧W'.cell? ⟨Bn,0,none⟩=W.cell? ⟨Bn,0,none⟩
theorem US.refl{Bn n₀:Nat}(W:World):US Bn n₀ W W:=⟨Below.refl _ _,rfl⟩
theorem FV{Bn n₀:Nat}{A B C:World}(h:US Bn n₀ A B)(k:US Bn n₀ B C):US Bn n₀ A C:=⟨h.1.trans k.1,k.2.trans h.2⟩
theorem aAC{Bn n₀:Nat}{w:World}(hn:n₀≤w.heap.size)(hB:Bn<w.heap.size)(W:World)(l:Nat)(o o':Obj)(hl:w.heap.size≤l)(h:W.heap[l]?=some o)(h1:o.isCells=false)(h2:o.isWalk=false):US Bn n₀ W (W.putObj l o'):=
 ⟨belowK_b hn W l o o' hl h h1 h2,(belowK_b (n₀:=Bn+1) (w:=w) hB W l o o' hl h h1 h2).cell (p:=⟨Bn,0,none⟩) (by simp)⟩
set_option maxRecDepth 100000 in
set_option maxHeartbeats 2000000 in
theorem aGI(F:Fence)(n:Nat)(h6:F.fn 81)(hro:F.round=none)(hn:1≤n)(l Bn n₀:Nat)(s:ByteArray)(hs:s.size≤140737488351232)(J Jx:List Int→World→Prop)
  (hY:∀pre x W,J pre W→pre.length<(s.size+7) / 8→YieldAt F (n-1) Tryz.prog l #[.int .u64 x] W fun e W'=>
   (e=.returned (.bool true)∧J (pre++[x]) W'∧US Bn n₀ W W')∨(e=.returned (.bool false)∧Jx (pre++[x]) W'))
  (W:World) (hBn:W.cell? ⟨Bn,0,none⟩=some (.string s)) (h0:J [] W) :
  CallsIn F n Tryz.prog 81 #[.func (.yield l) #[] #[],.pointer (some ⟨Bn,0,none⟩)] W fun e W'=>(∃v,e=.returned v) ∧
   ((∃ys,ys=gT (PlainAid.bt s) s.size ((s.size+7) / 8)∧J ys W')∨(∃pre,(∃k,k≤(s.size+7) / 8∧pre=gT (PlainAid.bt s) s.size k)∧Jx pre W')):=by
 have hbt:=PlainAid.get_bt s
 refine callsIn_of_wp Tryz.func81 rfl h6 ?_ hro;simp only[Tryz.ntmps81,eX,eP,fZ,iS,iR,eU,eT,fQ,eZ,fY,gC]
 gi_wp2
 gi_loopw [3] (fun i wr=>∃k:Nat,k≤(s.size+7) / 8∧i=.int .i64 (8*(k:Int))∧J (gT (PlainAid.bt s) s.size k) wr∧US Bn n₀ W wr) (fun i _=>s.size+8-(intOf i).toNat)
 case atStart=>exact⟨0,bK _,rfl,h0,US.refl _⟩
 case round=>
  obtain⟨k,hk,rfl,hJs,hnx⟩:=hrel
  have hcx:wr.cell? ⟨Bn,0,none⟩=some (.string s):=hnx.2.trans hBn
  by_cases hlt:8*k<s.size
  ·have hdec:decide (8*(k:Int)<(s.size:Int))=true:=by simp;omega
   gi_wp2
   gi_loopw [4,5] (fun x j wq=>∃m:Nat,m≤min 8 (s.size-8*k)∧j=.int .i64 (8*(k:Int)+(m:Int))∧x=.int .u64 (CD (PlainAid.bt s) (8*k) m)∧wq=wr) (fun _ j _=>s.size+8-(intOf j).toNat)
   case atStart=>exact⟨0,bK _,rfl,rfl,rfl⟩
   case round=>
    obtain⟨m,hm,rfl,rfl,rfl⟩:=hrel
    by_cases hlm:m<min 8 (s.size-8*k)
    ·have h8:m<8:=by omega
     have h9:8*k+m<s.size:=by omega
     have UQ:=Lib.hid (ZV (aHH s) (8*k) m h8)
     gi_wp2
     go_roundw
     case rel=>exact⟨m+1,by omega,by go_num,by rw[←UQ.out],trivial⟩
     case measure=>simp[intOf];omega
    ·have HM:=Lib.hid (show m=min 8 (s.size-8*k) by omega)
     obtain⟨fn,tmps,assign,body,hy,hR⟩:=hY _ (CD (PlainAid.bt s) (8*k) m) wr hJs (by rw[qV];omega)
     by_cases h10:8*k+m<s.size
     ·have h10':8*(k:Int)+(m:Int)<(s.size:Int):=by omega
      have h9':8≤(m:Int):=by omega
      gi_wp2
      refine hR.mono ?_;rintro e W3 (⟨rfl,hJ3,hk3⟩|⟨rfl,hJx3⟩)
      ·gi_wp2
       go_roundw
       case rel=>exact⟨k+1,by omega,by go_num,by rw[kM,←HM.out];exact hJ3,FV hnx hk3⟩
       case measure=>simp[intOf];omega
      ·gi_wp2
       refine bodyPost_ret (results_none rfl _ _ _) rfl ?_;exact⟨⟨_,rfl⟩,.inr ⟨_,⟨k+1,by omega,by rw[kM,←HM.out]⟩,hJx3⟩⟩
     ·have h9':(s.size:Int)≤8*(k:Int)+(m:Int):=by omega
      gi_wp2
      refine hR.mono ?_;rintro e W3 (⟨rfl,hJ3,hk3⟩|⟨rfl,hJx3⟩)
      ·gi_wp2
       go_roundw
       case rel=>exact⟨k+1,by omega,by go_num,by rw[kM,←HM.out];exact hJ3,FV hnx hk3⟩
       case measure=>simp[intOf];omega
      ·gi_wp2
       refine bodyPost_ret (results_none rfl _ _ _) rfl ?_;exact⟨⟨_,rfl⟩,.inr ⟨_,⟨k+1,by omega,by rw[kM,←HM.out]⟩,hJx3⟩⟩
  ·obtain rfl:k=(s.size+7) / 8:=by omega
   gi_wp2
   go_end0
   exact⟨⟨_,rfl⟩,.inl ⟨_,rfl,hJs⟩⟩
set_option maxHeartbeats 1000000 in
theorem aKW(F:Fence)(n:Nat)(h5:F.fn 66)(hro:F.round=none)(s:ByteArray)(w:World) :
  CallsIn F n Tryz.prog 66 #[.string s] w fun e w'=>e=.returned (.func (.func 81) #[] #[.pointer (some ⟨w.heap.size,0,none⟩)])∧w'=w.alloc (.cells #[.string s] 9):=by
 refine callsIn_of_wp Tryz.func66 rfl h5 ?_ hro;simp only[Tryz.ntmps66,eX,eP,fZ,iS,iR,eU,eT,fQ,eZ,fY,gC]
 gi_wp2
 go_ret
 exact⟨rfl,rfl⟩
theorem XY(F:Fence)(n:Nat)(h7:F.fn 81)(hro:F.round=none)(hn:1≤n)(Bs n₀:Nat)(s:ByteArray)(hs:s.size≤140737488351232)(w:World)(hBs:Bs<w.heap.size)
  (hc:w.cell? ⟨Bs,0,none⟩=some (.string s)) :
  SeqStopsK F n Tryz.prog 81 #[.pointer (some ⟨Bs,0,none⟩)] (fun x:Int => #[cU .u64 x]) (US Bs n₀) (fun ys=>ys=gT (PlainAid.bt s) s.size ((s.size+7) / 8))
   (fun pre=>∃k,k≤(s.size+7) / 8∧pre=gT (PlainAid.bt s) s.size k) ((s.size+7) / 8) w:=fun l J Jx W hW _ _ hY h0=>by
 have hc':=(hW.cell (p:=⟨Bs,0,none⟩) hBs).trans hc
 exact aGI F n h7 hro hn l Bs n₀ s hs J Jx hY W hc' h0
def gl(g:Nat→Int)(n:Nat):List Int:=(cS n).map g
theorem aAG(g:Nat→Int)(n:Nat):gl g (n+1)=gl g n++[g n]:=by simp[gl,iF]
theorem KX(g:Nat→Int)(n:Nat):(gl g n).length=n:=by simp[gl]
set_option maxRecDepth 100000 in
set_option maxHeartbeats 2000000 in
theorem VA(F:Fence)(n:Nat)(h3:F.fn 45)(h5:F.fn 66)(h6:F.fn 67)(h7:F.fn 81)(hro:F.round=none)(hn:4≤n)(s:ByteArray)(hs:s.size≤140737488351232)(A:Option Addr)(len cap:Nat)(hlen:len≤140737488351232)(g:Nat→Int)(w:World)(hR:Rd w w.heap.size A len fun k=>.int .i64 (g k)) :
  CallsIn F n Tryz.prog 45 #[.string s,.slice A len cap] w fun e W'=>e=.returned (.int .u64 (qX (gT (PlainAid.bt s) s.size ((s.size+7) / 8)) s.size (gl g len)))∧Below w.heap.size w W':=by
 have h1:1≤n:=by omega
 have h2:1≤n-1-1:=by omega
 refine callsIn_of_wp_marks Tryz.func45 rfl h3 ?_ hro;simp only[Tryz.ntmps45,eX,eP,fZ,iS,iR,eU,eT,fQ,eZ,fY,gC]
 gi_wp2_with (gi_at_call 66;refine(aKW F (n-1) h5 hro _ _).mono ?_;rintro e w' ⟨rfl,rfl⟩)
 have bS:=Boxed.new w 23 (.int .u64 0)
 have bN:=Boxed.new (w.alloc (.cells #[.int .u64 0] 23)) 9 (.string s)
 rw[World.size_alloc]at bN
 have hB0:Below w.heap.size w ((w.alloc (.cells #[.int .u64 0] 23)).alloc (.cells #[.string s] 9)):=((Below.refl _ w).alloc (aJ _) _).alloc (by simp) _
 refine wpIn_rangeFunc_ownG hro h1 (gf:=81) (lb := #[.pointer (some ⟨w.heap.size+1,0,none⟩)]) rfl h7 (enters_of Tryz.func81 (by kernel_rfl) rfl)
   (XY F (n-1) h7 hro (by omega) (w.heap.size+1) w.heap.size s hs _ (by simp) bN.cell) FV (aAC (by simp;omega) (by simp)) (Below.refl _ _) (fun _=>rfl)
   (fun pre W=>(W.cell? ⟨w.heap.size,0,none⟩=some (.int .u64 (oG 0 pre))∧W.frozen? ⟨w.heap.size,0,none⟩=false)∧Below w.heap.size w W)
   (fun _ _ _=>False)
   (OwnFrom.and (Own.from (fun s A B row hs hg hr=>⟨cell_kept hs.1 hg hr,(frozen_kept hs.1 hg hr).trans hs.2⟩) _) (ownFrom_below (aJ _) (by simp;omega)))
   (fun _ _ _ _ _ hs _ _=>hs)
   ⟨⟨(bS.alloc _).cell,(bS.alloc _).frozen⟩,hB0⟩
   (fun x=>{ tmps := #[.string s,.slice A len cap,undef,undef,.int .u64 0,.pointer (some ⟨w.heap.size,0,none⟩),.int .u64 x,undef,undef,.string s,.func (.func 81) #[] #[.pointer (some ⟨w.heap.size+1,0,none⟩)],.int .u64 x,undef,undef,undef,undef,undef,undef,undef,undef,undef,undef,undef,undef,undef,undef,undef,undef,undef,undef,undef,undef,undef,undef,undef,undef,undef,undef],defers:=[] }) ?assign ?body ?done ?stop
 case assign=>
  intro l x W K hK
  gi_wp2
  exact hK
 case body=>
  rintro l pre x W ⟨⟨hc,hf⟩,hB⟩ _
  gi_wp2_with (gi_at_call 67;refine(CallsIn.inRound l (NR F _ h6 hro _ _ _)).mono ?_;rintro e w' ⟨rfl,rfl⟩)
  exact⟨(KeepsOthers.setCell _ _ _).from _,⟨(Below.refl w.heap.size W).setCell (p:=⟨w.heap.size,0,none⟩) (aJ _) _,World.cell?_setCell_other _ _ _ _ (by simp)⟩,⟨by rw[uV];exact World.cell?_setCell_same' _ _ _ (by rw[hc];rfl),by rw[World.frozen?_setCell];exact hf⟩,hB.setCell (p:=⟨w.heap.size,0,none⟩) (aJ _) _⟩
 case done=>
  rintro D ys W hD rfl ⟨⟨hc,hf⟩,hB⟩ hK
  gi_wp2_with (gi_at_call 67;refine(NR F _ h6 hro _ _ _).mono ?_;rintro e w' ⟨rfl,rfl⟩)
  obtain⟨S0,hS0⟩:∃S0,S0=mY (mY (oG 0 (gT (PlainAid.bt s) s.size ((s.size+7) / 8))) s.size) len:=⟨_,rfl⟩
  have HS0:=Lib.hid hS0
  rw[←hS0];clear hS0
  have hne:w.heap.size≠D:=by simp at hD;omega
  gi_loopw [27] (fun i wr=>∃k:Nat,k≤len∧i=.int .i64 k∧wr.cell? ⟨w.heap.size,0,none⟩=some (.int .u64 (oG S0 ((gl g k).map u64)))∧wr.frozen? ⟨w.heap.size,0,none⟩=false∧Below w.heap.size w wr∧wr.heap[D]?=some (.deferred (some []))) (fun i _=>len-(intOf i).toNat)
  case atStart=>
   refine⟨0,bK _,rfl,World.cell?_setCell_same' _ _ _ (by rw[World.cell?_setCell_same' _ _ _ (by rw[hc];rfl)];rfl),by rw[World.frozen?_setCell,World.frozen?_setCell];exact hf,(hB.setCell (p:=⟨w.heap.size,0,none⟩) (aJ _) _).setCell (p:=⟨w.heap.size,0,none⟩) (aJ _) _,?_⟩;exact(KeepsOthers.setCell _ ⟨w.heap.size,0,none⟩ _).same D _ ((KeepsOthers.setCell W ⟨w.heap.size,0,none⟩ _).same D _ hK rfl) rfl
  case round=>
   obtain⟨k,hk,rfl,hcr,hfr,hBr,hKr⟩:=hrel
   by_cases hlt:k<len
   ·obtain⟨ad,rfl,hab,hac⟩:=(hR.below hBr).at_ hlt
    gi_wp2_with (gi_at_call 67;refine(NR F _ h6 hro _ _ _).mono ?_;rintro e w' ⟨rfl,rfl⟩)
    go_roundw
    case rel=>exact⟨k+1,by omega,by go_num,by rw[aAG,dT,List.map_singleton,uV];exact World.cell?_setCell_same' _ _ _ (by rw[hcr];rfl),by rw[World.frozen?_setCell];exact hfr,hBr.setCell (p:=⟨w.heap.size,0,none⟩) (aJ _) _,(KeepsOthers.setCell _ ⟨w.heap.size,0,none⟩ _).same D _ hKr rfl⟩
    case measure=>simp[intOf];omega
   ·obtain rfl:k=len:=by omega
    gi_wp2_with (gi_at_call 67;refine(NR F _ h6 hro _ _ _).mono ?_;rintro e w' ⟨rfl,rfl⟩)
    refine⟨by simp,.inl ⟨_,_,rfl,run_takeDeferred hKr,?_⟩⟩;exact⟨_,results_tmp rfl _ _ _,by rw[qX,KX g k,←HS0.out];rfl,hBr.trans (belowK_b (w:=w) (aJ _) _ D _ _ (by simp at hD;omega) hKr rfl rfl)⟩
 case stop=>
  rintro D c pre W _ _ h _;exact h.elim
attribute [local go_sem] Oper.semAt_some
set_option maxRecDepth 100000 in
set_option maxHeartbeats 2000000 in
theorem aGJ(F:Fence)(n:Nat)(h6:F.fn 95)(hro:F.round=none)(hn:1≤n)(l Bn n₀:Nat)(A:Option Addr)(len cap:Nat)(g:Nat→Int)(hg:Byt g)(hs:len≤140737488351232)(J Jx:List Int→World→Prop)
  (hY:∀pre x W,J pre W→pre.length<(len+7) / 8→YieldAt F (n-1) Tryz.prog l #[.int .u64 x] W fun e W'=>
   (e=.returned (.bool true)∧J (pre++[x]) W'∧US Bn n₀ W W')∨(e=.returned (.bool false)∧Jx (pre++[x]) W'))
  (W:World) (hBn:W.cell? ⟨Bn,0,none⟩=some (.slice A len cap)) (hR0:Rd W n₀ A len fun k=>.int .u8 (g k)) (h0:J [] W) :
  CallsIn F n Tryz.prog 95 #[.func (.yield l) #[] #[],.pointer (some ⟨Bn,0,none⟩)] W fun e W'=>(∃v,e=.returned v) ∧
   ((∃ys,ys=gT (g) len ((len+7) / 8)∧J ys W')∨(∃pre,(∃k,k≤(len+7) / 8∧pre=gT (g) len k)∧Jx pre W')):=by
 refine callsIn_of_wp Tryz.func95 rfl h6 ?_ hro;simp only[Tryz.ntmps95,eX,eP,fZ,iS,iR,eU,eT,fQ,eZ,fY,gC]
 gi_wp2
 gi_loopw [3] (fun i wr=>∃k:Nat,k≤(len+7) / 8∧i=.int .i64 (8*(k:Int))∧J (gT (g) len k) wr∧US Bn n₀ W wr) (fun i _=>len+8-(intOf i).toNat)
 case atStart=>exact⟨0,bK _,rfl,h0,US.refl _⟩
 case round=>
  obtain⟨k,hk,rfl,hJs,hnx⟩:=hrel
  have hcx:wr.cell? ⟨Bn,0,none⟩=some (.slice A len cap):=hnx.2.trans hBn
  by_cases hlt:8*k<len
  ·have hdec:decide (8*(k:Int)<(len:Int))=true:=by simp;omega
   gi_wp2
   gi_loopw [4,5] (fun x j wq=>∃m:Nat,m≤min 8 (len-8*k)∧j=.int .i64 (8*(k:Int)+(m:Int))∧x=.int .u64 (CD (g) (8*k) m)∧wq=wr) (fun _ j _=>len+8-(intOf j).toNat)
   case atStart=>exact⟨0,bK _,rfl,rfl,rfl⟩
   case round=>
    obtain⟨m,hm,rfl,rfl,rfl⟩:=hrel
    by_cases hlm:m<min 8 (len-8*k)
    ·have h8:m<8:=by omega
     have h9:8*k+m<len:=by omega
     obtain⟨ad,hA,hab,hac⟩:=(hR0.below hnx.1).at_ h9;subst hA
     have UQ:=Lib.hid (ZV (hg) (8*k) m h8)
     gi_wp2
     go_roundw
     case rel=>exact⟨m+1,by omega,by go_num,by rw[←UQ.out],trivial⟩
     case measure=>simp[intOf];omega
    ·have HM:=Lib.hid (show m=min 8 (len-8*k) by omega)
     obtain⟨fn,tmps,assign,body,hy,hR⟩:=hY _ (CD (g) (8*k) m) wr hJs (by rw[qV];omega)
     by_cases h10:8*k+m<len
     ·have h10':8*(k:Int)+(m:Int)<(len:Int):=by omega
      have h9':8≤(m:Int):=by omega
      gi_wp2
      refine hR.mono ?_;rintro e W3 (⟨rfl,hJ3,hk3⟩|⟨rfl,hJx3⟩)
      ·gi_wp2
       go_roundw
       case rel=>exact⟨k+1,by omega,by go_num,by rw[kM,←HM.out];exact hJ3,FV hnx hk3⟩
       case measure=>simp[intOf];omega
      ·gi_wp2
       refine bodyPost_ret (results_none rfl _ _ _) rfl ?_;exact⟨⟨_,rfl⟩,.inr ⟨_,⟨k+1,by omega,by rw[kM,←HM.out]⟩,hJx3⟩⟩
     ·have h9':(len:Int)≤8*(k:Int)+(m:Int):=by omega
      gi_wp2
      refine hR.mono ?_;rintro e W3 (⟨rfl,hJ3,hk3⟩|⟨rfl,hJx3⟩)
      ·gi_wp2
       go_roundw
       case rel=>exact⟨k+1,by omega,by go_num,by rw[kM,←HM.out];exact hJ3,FV hnx hk3⟩
       case measure=>simp[intOf];omega
      ·gi_wp2
       refine bodyPost_ret (results_none rfl _ _ _) rfl ?_;exact⟨⟨_,rfl⟩,.inr ⟨_,⟨k+1,by omega,by rw[kM,←HM.out]⟩,hJx3⟩⟩
  ·obtain rfl:k=(len+7) / 8:=by omega
   gi_wp2
   go_end0
   exact⟨⟨_,rfl⟩,.inl ⟨_,rfl,hJs⟩⟩
set_option maxHeartbeats 1000000 in
theorem aKX(F:Fence)(n:Nat)(h5:F.fn 80)(hro:F.round=none)(A:Option Addr)(len cap:Nat)(w:World) :
  CallsIn F n Tryz.prog 80 #[.slice A len cap] w fun e w'=>e=.returned (.func (.func 95) #[] #[.pointer (some ⟨w.heap.size,0,none⟩)])∧w'=w.alloc (.cells #[.slice A len cap] 85):=by
 refine callsIn_of_wp Tryz.func80 rfl h5 ?_ hro;simp only[Tryz.ntmps80,eX,eP,fZ,iS,iR,eU,eT,fQ,eZ,fY,gC]
 gi_wp2
 go_ret
 exact⟨rfl,rfl⟩
theorem XZ(F:Fence)(n:Nat)(h7:F.fn 95)(hro:F.round=none)(hn:1≤n)(Bs n₀:Nat)(A:Option Addr)(len cap:Nat)(g:Nat→Int)(hg:Byt g)(hs:len≤140737488351232)(w:World)(hBs:Bs<w.heap.size)
  (hn₀:n₀≤w.heap.size) (hR0:Rd w n₀ A len fun k=>.int .u8 (g k)) (hc:w.cell? ⟨Bs,0,none⟩=some (.slice A len cap)) :
  SeqStopsK F n Tryz.prog 95 #[.pointer (some ⟨Bs,0,none⟩)] (fun x:Int => #[cU .u64 x]) (US Bs n₀) (fun ys=>ys=gT (g) len ((len+7) / 8))
   (fun pre=>∃k,k≤(len+7) / 8∧pre=gT (g) len k) ((len+7) / 8) w:=fun l J Jx W hW _ _ hY h0=>by
 have hc':=(hW.cell (p:=⟨Bs,0,none⟩) hBs).trans hc
 exact aGJ F n h7 hro hn l Bs n₀ A len cap g hg hs J Jx hY W hc' (hR0.below (hW.mono hn₀)) h0
attribute [local go_sem] Oper.semAt_some
theorem Tryz.infoInt:(Tryz.prog.info? 3).map (fun i=>(i.zero,i.size,i.bytes))=some (some (.int .i64 0),1,8):=by kernel_rfl
def qA(x:Int):Int:=wrap64 x
def pV(g:Nat→Int)(len:Nat):List Int:=(gT g len ((len+7) / 8)).map qA++[(len:Int)]
theorem OP(zs:List Int):gl (fun k=>zs[k]?.getD 0) zs.length=zs:=by
 apply List.ext_getElem
 ·simp[gl]
 ·intro i h1 h2
  simp[gl,h2]
theorem Rd.of_ints{w:World}{base:Nat}{e:TypeId}{v:Value}{q:IntKind}{n:Nat}{zs:List Int}(h:w.ownsRow base e 1 v n (zs.map (cU q))):∃A c,v=.slice A n c∧n≤c∧zs.length=n∧Rd w w.heap.size A n fun k=>.int q (zs[k]?.getD 0):=by
 obtain⟨A,c,e1,hc,hr⟩:=Rd.of_own h
 have hl:zs.length=n:=by have:=h.1;simpa using this
 refine⟨A,c,e1,hc,hl,hr.congr fun k hk=>?_⟩;simp[show k<zs.length by omega]
theorem aEW{w:World}{base size n D:Nat}{e:TypeId}{v:Value}{xs:List Value}{o:Obj}(h:w.ownsRow base e size v n xs)(hD:w.heap[D]?=some o)(ho:o.isCells=false):some D≠v.ownBlock:=by
 rcases h.2 with⟨rfl,_⟩|⟨g',cap',cur,rfl,_,hgb,_⟩
 ·intro e';cases e'
 ·intro e'
  have:D=g':=by injection e'
  subst this;rw[hD]at hgb;cases hgb;cases ho
set_option maxRecDepth 100000 in
set_option maxHeartbeats 2000000 in
theorem aHF(F:Fence)(n:Nat)(h2:F.fn 63)(h8:F.fn 80)(h9:F.fn 95)(h3:F.fn 45)(h5:F.fn 66)(h6:F.fn 67)(h7:F.fn 81)(hro:F.round=none)(hn:6≤n)(s:ByteArray)(hs:s.size≤140737488351232)(A:Option Addr)(len cap:Nat)(hlen:len≤140737488351232)(g:Nat→Int)(hg:Byt g)(w:World)(hR:Rd w w.heap.size A len fun k=>.int .u8 (g k)) :
  CallsIn F n Tryz.prog 63 #[.string s,.slice A len cap] w fun e W'=>e=.returned (.int .u64 (qX (gT (PlainAid.bt s) s.size ((s.size+7) / 8)) s.size (pV g len)))∧Below w.heap.size w W':=by
 have h1:1≤n:=by omega
 obtain⟨i0,hi,hz0,hz1,hz2⟩:=info_parts Tryz.infoInt
 obtain⟨MC,hMC,hmk⟩:∃MC:Array Value,MC.size=len / 8+2∧∀W:World,(Instr.makeSlice 25 (.int .i64 0) (.int .i64 ((len:Int) / 8+2))).run Tryz.prog W=.ok (.slice (some ⟨W.heap.size,0,none⟩) 0 (len / 8+2)) (W.alloc (.cells MC 3)):=by
  refine⟨_,size_madeCells (Value.cells (.int .i64 0)) (len / 8+2),fun W=>?_⟩
  have hr:=run_make (P:=Tryz.prog) W 25 3 i0 _ Tryz.underlying25 hi hz0 .i64 .i64 0 ((len:Int) / 8+2) (by omega) (by omega) (by rw[hz2];omega) (by omega)
  have e:((len:Int) / 8+2).toNat=len / 8+2:=by omega
  rw[e,hz1,gQ]at hr;exact hr
 have HMC:=Lib.hid hMC
 clear hMC;refine callsIn_of_wp_marks Tryz.func63 rfl h2 ?_ hro;simp only[Tryz.ntmps63,eX,eP,fZ,iS,iR,eU,eT,fQ,eZ,fY,gC]
 gi_wp2_with (gi_at_call 80;refine(aKX F (n-1) h8 hro _ _ _ _).mono ?_;rintro e w' ⟨rfl,rfl⟩)
 have bS:=Boxed.new (w.alloc (.cells MC 3)) 25 (.slice (some ⟨w.heap.size,0,none⟩) 0 (len / 8+2))
 rw[World.size_alloc]at bS
 have bN:=Boxed.new ((w.alloc (.cells MC 3)).alloc (.cells #[.slice (some ⟨w.heap.size,0,none⟩) 0 (len / 8+2)] 25)) 85 (.slice A len cap)
 simp only[World.size_alloc]at bN
 have hO0:=World.ownsRow_made (base:=w.heap.size) (e:=3) (size:=1) w MC (len / 8+2) (aJ _) (by unfold maxLen;omega) (by rw[HMC.out];omega)
 have hB0:Below w.heap.size w (((w.alloc (.cells MC 3)).alloc (.cells #[.slice (some ⟨w.heap.size,0,none⟩) 0 (len / 8+2)] 25)).alloc (.cells #[.slice A len cap] 85)):=(((Below.refl _ w).alloc (aJ _) _).alloc (by simp) _).alloc (by simp;omega) _
 refine wpIn_rangeFunc_ownG hro h1 (gf:=95) (lb := #[.pointer (some ⟨w.heap.size+1+1,0,none⟩)]) rfl h9 (enters_of Tryz.func95 (by kernel_rfl) rfl)
   (XZ F (n-1) h9 hro (by omega) (w.heap.size+1+1) w.heap.size A len cap g hg hlen _ (by simp) (by simp;omega) (hR.below hB0) bN.cell) FV (aAC (by simp;omega) (by simp)) (Below.refl _ _) (fun _=>rfl)
   (fun(pre:List Int) W=>((∃v,Boxed W (w.heap.size+1) 25 v∧W.ownsRow w.heap.size 3 1 v pre.length ((pre.map qA).map (cU .i64))∧True)∧Boxed W (w.heap.size+1+1) 85 (.slice A len cap))∧Below w.heap.size w W)
   (fun _ _ _=>False)
   (OwnFrom.and (OwnFrom.and (Own.from (holdsRow_own w.heap.size (w.heap.size+1) 25 3 1 (fun pre:List Int=>pre.length) (fun pre:List Int=>(pre.map qA).map (cU .i64)) (fun _ _=>True)) _) (Own.from (boxed_own _ _ _) _)) (ownFrom_below (aJ _) (by simp;omega)))
   (fun _ _ _ _ _ hs _ _=>hs)
   ⟨⟨⟨_,bS.alloc _,(hO0.alloc _).alloc _,trivial⟩,bN⟩,hB0⟩
   (fun x=>{ tmps := #[.string s,.slice A len cap,undef,undef,.int .u64 0,.pointer (some ⟨w.heap.size+1,0,none⟩),.int .u64 x,.slice A len cap,.int .i64 len,.int .i64 (len / 8),.int .i64 (len / 8+2),.slice (some ⟨w.heap.size,0,none⟩) 0 (len / 8+2),.slice A len cap,.func (.func 95) #[] #[.pointer (some ⟨w.heap.size+1+1,0,none⟩)],.int .u64 x,undef,undef,undef,undef,undef,undef,undef,undef,undef,undef,undef,undef],defers:=[] }) ?assign ?body ?done ?stop
 case assign=>
  intro l x W K hK
  gi_wp2
  exact hK
 case body=>
  rintro l pre x W ⟨⟨⟨v,hv,hrow,_⟩,hbx⟩,hB⟩ hlt
  have hc:=hv.cell
  gi_wp2_with (gi_at_builtin;refine wpListIn_append_own _ rfl _ _ 25 rfl w.heap.size 3 i0 (.int .i64 0) 1 8 Tryz.underlying25 hi hz0 hz1 hz2 rfl (by decide) _ _ _ rfl (hrow.alloc _) ⟨W.heap.size,0,none⟩ 1 1 [.int .i64 (qA x)] rfl rfl (cell_one_new _ _ _) (by simp[Value.oneCell']) (by unfold maxLen;omega) (by omega) (by have:=hB.size;simp;omega) ?_;intro v' w1 hown' hgrow _;obtain⟨g',cap',rfl⟩:=ownsRow_succ hown';obtain⟨hv1,hv2,hr2,hk2,hb2⟩:=hv.appended (by decide) hrow hB.size (by omega) hown' hgrow;have hc1:=hv1.cell;have hf1:=hv1.frozen;have hbx1:=(hbx.alloc _).kept hgrow (hbx.not_row (by decide) hrow))
  have hbx2:=hbx1.other (B':=w.heap.size+1) (by omega) (.slice (some ⟨g',0,none⟩) (pre.length+1) cap')
  refine⟨hk2.from _,⟨hb2,?_⟩,⟨⟨_,hv2,by simpa using hr2,trivial⟩,?_⟩,hB.trans hb2⟩
  ·exact hbx2.cell.trans hbx.cell.symm
  ·exact hbx2
 case done=>
  rintro D ys W hD rfl ⟨⟨⟨v,hv,hrow,_⟩,hbx⟩,hB⟩ hK
  have hc:=hv.cell
  rw[qV]at hrow
  gi_wp2_with (gi_at_builtin;refine wpListIn_append_own _ rfl _ _ 25 rfl w.heap.size 3 i0 (.int .i64 0) 1 8 Tryz.underlying25 hi hz0 hz1 hz2 rfl (by decide) _ _ _ rfl (hrow.alloc _) ⟨W.heap.size,0,none⟩ 1 1 [.int .i64 (len:Int)] rfl rfl (cell_one_new _ _ _) (by simp[Value.oneCell']) (by unfold maxLen;omega) (by omega) (by have:=hB.size;simp;omega) ?_;intro v' w1 hown' hgrow _)
  have hb1:Below w.heap.size w w1:=(hB.alloc hB.size _).grown hgrow (by have:=hB.size;simp;omega) (fun k e=>(hrow.lt k e).1)
  have hK1:w1.heap[D]?=some (.deferred (some [])):=by
   have e1:=(Below.heap_alloc W (.cells #[.int .i64 (len:Int)] 3) D (aO.1 hK).1).trans hK
   exact(hgrow.block D (aO.1 e1).1 (aEW (hrow.alloc _) e1 rfl)).trans e1
  have hlen':(((gT g len ((len+7) / 8)).map qA).map (cU .i64)++[.int .i64 (len:Int)])=(pV g len).map (cU .i64):=by simp[pV]
  rw[hlen']at hown';obtain⟨A',c',rfl,hc',hl',hR'⟩:=Rd.of_ints hown';refine(VA F (n-1) h3 h5 h6 h7 hro (by omega) s hs A' _ c' (by omega) _ w1 hR').mono ?_;rintro e w2 ⟨rfl,hb2⟩
  have hK2:w2.heap[D]?=some (.deferred (some [])):=(hb2.block D (aO.1 hK1).1).trans hK1
  have hgl:=OP (pV g len)
  rw[hl']at hgl;rw[hgl]
  have hb3:Below w.heap.size w w2:=hb1.trans (hb2.mono hb1.size)
  clear hgl hlen' hown' hR' hgrow
  gi_wp2
  refine⟨by simp,.inl ⟨_,_,rfl,run_takeDeferred hK2,?_⟩⟩;exact⟨_,results_tmp rfl _ _ _,rfl,hb3.trans (belowK_b (w:=w) (aJ _) _ D _ _ (by simp at hD;omega) hK2 rfl rfl)⟩
 case stop=>
  rintro D c pre W _ _ h _;exact h.elim
theorem BG{x:Int}(h:tA x):u64 (qA x)=x:=by
 obtain⟨h1,h2⟩:=h;unfold u64 qA wrap64;rw[IntKind.wrap_u64];omega
set_option maxHeartbeats 1000000 in
theorem ZS(F:Fence)(n:Nat)(h2:F.fn 23)(h3:F.fn 45)(h5:F.fn 66)(h6:F.fn 67)(h7:F.fn 81)(hro:F.round=none)(hn:5≤n)(a b:Int)(w:World) :
  CallsIn F n Tryz.prog 23 #[.int .u64 a,.int .u64 b] w fun e W'=>e=.returned (.int .u64 (qX (gT (PlainAid.bt ⟨#[112,97,105,114]⟩) 4 1) 4 [qA a,qA b]))∧Below w.heap.size w W':=by
 have h1:1≤n:=by omega
 refine callsIn_of_wp Tryz.func23 rfl h2 ?_ hro;simp only[Tryz.ntmps23,eX,eP,fZ,iS,iR,eU,eT,fQ,eZ,fY,gC]
 gi_wp2_with fail
 have hrow:=World.ownsRow_lit (base:=w.heap.size) (e:=3) (size:=1) w #[.int .i64 (qA a),.int .i64 (qA b)] 2 (aJ _) (by decide) rfl
 obtain⟨A',c',hv,hc',hl',hR'⟩:=Rd.of_ints (zs:=[qA a,qA b]) (q:=.i64) hrow
 obtain⟨rfl,rfl⟩:some ⟨w.heap.size,0,none⟩=A'∧2=c':=by injection hv with h1 h2 h3;exact⟨h1,h3⟩
 refine(VA F (n-1) h3 h5 h6 h7 hro (by omega) _ (by decide) _ 2 2 (by omega) _ _ hR').mono ?_;rintro e w2 ⟨rfl,hb2⟩;clear hR' hrow hv
 gi_wp2
 go_ret
 exact⟨rfl,((Below.refl _ _).alloc (aJ _) _).trans (hb2.mono (by simp))⟩
theorem aID(s:ByteArray)(hs:s.size≤140737488351232)(A:Option Addr)(len cap:Nat)(hlen:len≤140737488351232)(g:Nat→Int)(w:World)(hR:Rd w w.heap.size A len fun k=>.int .i64 (g k)) :
  Calls Tryz.prog 45 #[.string s,.slice A len cap] w fun e W'=>e=.returned (.int .u64 (qX (gT (PlainAid.bt s) s.size ((s.size+7) / 8)) s.size (gl g len)))∧Below w.heap.size w W':=
 callsIn_wide.1 (VA Fence.wide 4 trivial trivial trivial trivial rfl (by omega) s hs A len cap hlen g w hR)
theorem aD8(s:ByteArray)(hs:s.size≤140737488351232)(A:Option Addr)(len cap:Nat)(hlen:len≤140737488351232)(g:Nat→Int)(hg:Byt g)(w:World)(hR:Rd w w.heap.size A len fun k=>.int .u8 (g k)) :
  Calls Tryz.prog 63 #[.string s,.slice A len cap] w fun e W'=>e=.returned (.int .u64 (qX (gT (PlainAid.bt s) s.size ((s.size+7) / 8)) s.size (pV g len)))∧Below w.heap.size w W':=
 callsIn_wide.1 (aHF Fence.wide 6 trivial trivial trivial trivial trivial trivial trivial rfl (by omega) s hs A len cap hlen g hg w hR)
theorem aPV(a b:Int)(w:World) :
  Calls Tryz.prog 23 #[.int .u64 a,.int .u64 b] w fun e W'=>e=.returned (.int .u64 (qX (gT (PlainAid.bt ⟨#[112,97,105,114]⟩) 4 1) 4 [qA a,qA b]))∧Below w.heap.size w W':=
 callsIn_wide.1 (ZS Fence.wide 5 trivial trivial trivial trivial trivial rfl (by omega) a b w)
theorem Tryz.infoU64r:(Tryz.prog.info? 23).map (fun i=>(i.zero,i.size,i.bytes))=some (some (.int .u64 0),1,8):=by kernel_rfl
theorem ZO{k:IntKind}{a b:Int}(h:a=b):Ending.returned (.int k a)=.returned (.int k b):=by rw[h]
def UQ(g:Nat→Int):Nat→Nat→Int
 |_,0=>0
 |i,m+1=>256*UQ g (i+1) m+g i
theorem XU(g:Nat→Int)(i m:Nat):UQ g i m=CD g i m:=by
 have key:∀m i,CD g i (m+1)=256*CD g (i+1) m+g i:=by
  intro m;induction m with
  |zero=>intro i;simp[CD]
  |succ m ih=>
   intro i;rw[CD,ih,CD,Int.pow_succ,show i+1+m=i+(m+1) by omega];rw[Int.mul_add,Int.mul_comm (256^m) 256,←Int.mul_assoc,←Int.mul_assoc,Int.mul_comm (g (i+(m+1))) 256];omega
 induction m generalizing i with
 |zero=>simp[UQ,CD]
 |succ m ih=>rw[UQ,key,ih]
set_option maxRecDepth 100000 in
set_option maxHeartbeats 2000000 in
theorem JB(A:Option Addr)(len cap:Nat)(hlen:len≤1000000)(g:Nat→Int)(hg:Byt g)(w:World)(hR:Rd w w.heap.size A len fun k=>.int .u8 (g k)) :
  Calls Tryz.prog 54 #[.slice A len cap] w fun e w'=>∃v,e=.returned v∧w'.ownsRow w.heap.size 23 1 v ((len+7) / 8) ((gT g len ((len+7) / 8)).map (cU .u64))∧Below w.heap.size w w':=by
 obtain⟨i0,hi,hz0,hz1,hz2⟩:=info_parts Tryz.infoU64r
 go_enter Tryz.func54,Tryz.ntmps54
 go_wp2
 go_loopw [3,4] (fun v i wr=>∃k:Nat,k≤(len+7) / 8∧i=.int .i64 (8*(k:Int))∧wr.ownsRow w.heap.size 23 1 v k ((gT g len k).map (cU .u64))∧Below w.heap.size w wr) (fun _ i _=>len+8-(intOf i).toNat)
 case atStart=>exact⟨0,bK _,rfl,World.ownsRow_nil _ _ _ _,Below.refl _ _⟩
 case round=>
  obtain⟨k,hk,rfl,hown,hB⟩:=hrel
  by_cases hlt:8*k<len
  ·have hdec:decide (8*(k:Int)<(len:Int))=true:=by simp;omega
   obtain⟨M,hM⟩:∃M,M=min 8 (len-8*k):=⟨_,rfl⟩
   have hM8:M≤8:=by omega
   have hM1:8*k+M≤len:=by omega
   have hM2:8*k+M=len∨M=8:=by omega
   have HM:=Lib.hid hM
   clear hM
   have HM2:=Lib.hid hM2
   clear hM2
   by_cases h8:8*k+8≤len
   all_goals
    go_wp2
    go_loop [5,6] (fun x i=>∃j:Nat,j≤M∧i=.int .i64 (8*(k:Int)+(j:Int)-1)∧x=.int .u64 (UQ g (8*k+j) (M-j))) (fun _ i=>((intOf i)+1-8*k).toNat)
    case atStart=>exact⟨M,aJ _,by have:=HM2.out;have e:(M:Int)=8∨(8*(k:Int)+M=len):=(by omega);first|(rw[show (M:Int)=8 by omega])|(rw[show 8*(k:Int)+(M:Int)=len by omega]),by rw[Nat.sub_self];rfl⟩
    case round=>
     obtain⟨j,hj,rfl,rfl⟩:=hrel
     by_cases hj0:j=0
     ·subst hj0
      go_wp2_with (at_builtin;refine wpList_append_own _ rfl _ _ 22 rfl w.heap.size 23 i0 (.int .u64 0) 1 8 Tryz.underlying22 hi hz0 hz1 hz2 rfl (by decide) _ _ _ rfl (hown.alloc _) ⟨wr.heap.size,0,none⟩ 1 1 [.int .u64 (UQ g (8*k) M)] rfl rfl (cell_one_new _ _ _) (by simp[Value.oneCell']) (by unfold maxLen;omega) (by omega) (by have:=hB.size;simp;omega) ?_;intro v' w1 hown' hgrow _)
      go_roundw
      case rel=>exact⟨k+1,by omega,by go_num,by rw[kM,←HM.out,←XU];simpa using hown',(hB.alloc hB.size _).grown hgrow (by have:=hB.size;simp;omega) (fun k e=>(hown.lt k e).1)⟩
      case measure=>simp[intOf];omega
     ·obtain⟨j,rfl⟩:∃j',j=j'+1:=⟨j-1,by omega⟩
      clear hj0;obtain⟨ad,rfl,hab,hac⟩:=(hR.below hB).at_ (show 8*k+j<len by omega)
      have hh:UQ g (8*k+j) (M-j)=256*UQ g (8*k+(j+1)) (M-(j+1))+g (8*k+j):=by
       rw[show M-j=(M-(j+1))+1 by omega];rfl
      have HH:=Lib.hid hh
      clear hh
      have b1:=MD hg (8*k+j) (M-j) (by omega)
      rw[←XU]at b1
      have b2:=MD hg (8*k+(j+1)) (M-(j+1)) (by omega)
      rw[←XU]at b2
      have b3:=hg (8*k+j)
      have e1:bD.wrap (256*UQ g (8*k+(j+1)) (M-(j+1)))=256*UQ g (8*k+(j+1)) (M-(j+1)):=IntWalk.u64_in _ (by have:=HH.out;omega)
      have E1:=Lib.hid e1
      clear e1
      go_wp2
      go_round
      case rel=>exact⟨j,by omega,by go_num,by rw[E1.out,←HH.out,IntWalk.u64_in _ b1]⟩
      case measure=>simp[intOf];omega
  ·obtain rfl:k=(len+7) / 8:=by omega
   go_wp2
   go_ret
   exact⟨_,rfl,hown,hB⟩
set_option maxRecDepth 100000 in
set_option maxHeartbeats 400000 in
theorem xB(s x:Int)(w:World) :
  Calls Tryz.prog 68 #[.int .u64 s,.int .u64 x] w fun e w'=>e=.returned (.int .u64 (mY s x))∧w=w':=by
 go_enter Tryz.func68,Tryz.ntmps68
 go_wp2
 go_ret
 refine⟨ZO ?_,rfl⟩
 have h:=bounds_u64 (wf_wrap .u64 (bits BinOp.xor bD s x*11400714819323198485))
 rw[IntWalk.u64_quo _ _ ⟨h.1,h.2,by decide⟩];rfl
theorem aCD(s:Int)(l:List Int)(k:Nat)(h:k<l.length):oG s (l.take (k+1))=mY (oG s (l.take k)) (l[k]?.getD 0):=by
 rw[fP h,uV];simp[h]
theorem YL{P:Program}(w:World)(src dst e:TypeId)(s:ByteArray){u:TypeDesc}(hs:P.underlying src=some u)(hd:P.underlying dst=some (.slice e))(he:P.underlying e=some (.int .u8))(hsz:s.size≤maxLen) :
  ∃W1 c,(convert src dst (.string s)).run P w=.ok (.slice (some ⟨w.heap.size,0,none⟩) s.size c) W1∧s.size≤c∧c≤maxLen∧Below w.heap.size w W1∧w.heap.size<W1.heap.size∧Rd W1 W1.heap.size (some ⟨w.heap.size,0,none⟩) s.size fun k=>.int .u8 (PlainAid.bt s k):=by
 refine⟨_,_,Lib.run_convert_string_bytes w src dst e s hs hd he,grownCap_ge _ _ _ _,grownCap_le_maxLen _ _ _ _ hsz,⟨?_,?_,?_,?_,?_⟩,?_,?_⟩
 ·rfl
 ·rfl
 ·rfl
 ·rw[Lib.bytesWorld_size];omega
 ·exact fun k hk=>Lib.bytesWorld_at_old w e s k hk
 ·rw[Lib.bytesWorld_size];omega
 ·refine fun hn=>⟨_,rfl,by rw[Lib.bytesWorld_size];simp,fun k hk=>?_⟩
  have h:=Lib.bytesWorld_cell w e s k hk
  have e0:((⟨w.heap.size,0,none⟩:Addr).add k)=⟨w.heap.size,k,none⟩:=by unfold Addr.add;split<;>simp_all
  rw[e0,h]
  show some _=some (cU .u8 (PlainAid.bt s k))
  unfold PlainAid.bt;rw[dif_pos hk]
  have e1:s.data.toList.getD k 0=s[k]:=by
   have hk':k<s.data.toList.length:=by simpa using hk
   rw[aD,aH hk',Option.getD_some,Array.getElem_toList];rfl
  rw[e1]
set_option maxRecDepth 100000 in
set_option maxHeartbeats 1000000 in
theorem DJ(s:ByteArray)(hs:s.size≤1000000)(A:Option Addr)(len cap:Nat)(hlen:len≤1000000)(g:Nat→Int)(w:World)(hR:Rd w w.heap.size A len fun k=>.int .i64 (g k)) :
  Calls Tryz.prog 46 #[.string s,.slice A len cap] w fun e W'=>e=.returned (.int .u64 (qX (gT (PlainAid.bt s) s.size ((s.size+7) / 8)) s.size (gl g len)))∧Below w.heap.size w W':=by
 obtain⟨W1,c1,hconv,hc1,hc1',hb1,hz1,hR1⟩:=YL (P:=Tryz.prog) w 9 85 5 s Tryz.underlying9 Tryz.underlying85 Tryz.underlying5 (by unfold maxLen;omega)
 go_enter Tryz.func46,Tryz.ntmps46
 go_wp2_with (go_at_call 54;refine(JB _ _ _ hs _ (aHH s) _ hR1).mono ?_;rintro e w2 ⟨v,rfl,hown,hb2⟩)
 clear hconv;obtain⟨A2,c2,rfl,hc2,hl2,hR2⟩:=Rd.of_ints hown
 have HL2:=Lib.hid hl2
 clear hl2
 have hb3:Below w.heap.size w w2:=hb1.trans (hb2.mono hb1.size)
 have hRr:Rd w2 w.heap.size A len fun k=>.int .i64 (g k):=hR.below hb3
 clear hown
 obtain⟨WL,hWL⟩:∃WL,WL=gT (PlainAid.bt s) s.size ((s.size+7) / 8):=⟨_,rfl⟩
 rw[←hWL]at hR2 HL2
 have HWL:=Lib.hid hWL
 clear hWL
 obtain⟨N1,hN1⟩:∃N1,N1=(s.size+7) / 8:=⟨_,rfl⟩
 rw[←hN1]at hR2 HL2 ⊢
 have hN1':N1≤200000:=by omega
 clear hN1
 go_wp2_with fail
 go_loop [5,7] (fun x i=>∃k:Nat,k≤N1∧i=.int .i64 k∧x=.int .u64 (oG 0 (WL.take k))) (fun _ i=>N1-(intOf i).toNat)
 case atStart=>exact⟨0,bK _,rfl,rfl⟩
 case round=>
  obtain⟨k,hk,rfl,rfl⟩:=hrel
  by_cases hlt:k<N1
  ·obtain⟨ad,rfl,hab,hac⟩:=hR2.at_ hlt
   go_wp2_with (go_at_call 68;refine(xB _ _ _).mono ?_;rintro e w' ⟨rfl,rfl⟩)
   go_round
   case rel=>exact⟨k+1,by omega,by go_num,by rw[aCD _ _ _ (by have:=HL2.out;omega)]⟩
   case measure=>simp[intOf];omega
  ·obtain rfl:k=N1:=by omega
   rw[List.take_of_length_le (by have:=HL2.out;omega)]
   go_wp2_with (go_at_call 68;refine(xB _ _ _).mono ?_;rintro e w' ⟨rfl,rfl⟩)
   go_loop [5,8] (fun x i=>∃j:Nat,j≤len∧i=.int .i64 j∧x=.int .u64 (oG (mY (mY (oG 0 WL) s.size) len) ((gl g j).map u64))) (fun _ i=>len-(intOf i).toNat)
   case atStart=>exact⟨0,bK _,rfl,rfl⟩
   case round=>
    obtain⟨j,hj,rfl,rfl⟩:=hrel
    by_cases hlj:j<len
    ·obtain⟨ad,rfl,hab,hac⟩:=hRr.at_ hlj
     go_wp2_with (go_at_call 68;refine(xB _ _ _).mono ?_;rintro e w' ⟨rfl,rfl⟩)
     go_round
     case rel=>exact⟨j+1,by omega,by go_num,by rw[aAG,dT,List.map_singleton,uV];rfl⟩
     case measure=>simp[intOf];omega
    ·obtain rfl:j=len:=by omega
     go_wp2_with (go_at_call 68;refine(xB _ _ _).mono ?_;rintro e w' ⟨rfl,rfl⟩)
     go_ret
     exact⟨ZO (by rw[qX,KX,←HWL.out]),hb3⟩
set_option maxRecDepth 100000 in
set_option maxHeartbeats 1000000 in
theorem aBR(a b:Int)(w:World) :
  Calls Tryz.prog 24 #[.int .u64 a,.int .u64 b] w fun e W'=>e=.returned (.int .u64 (qX (gT (PlainAid.bt ⟨#[112,97,105,114]⟩) 4 1) 4 [qA a,qA b]))∧Below w.heap.size w W':=by
 go_enter Tryz.func24,Tryz.ntmps24
 go_wp2_with fail
 have hrow:=World.ownsRow_lit (base:=w.heap.size) (e:=3) (size:=1) w #[.int .i64 (qA a),.int .i64 (qA b)] 2 (aJ _) (by decide) rfl
 obtain⟨A',c',hv,hc',hl',hR'⟩:=Rd.of_ints (zs:=[qA a,qA b]) (q:=.i64) hrow
 obtain⟨rfl,rfl⟩:some ⟨w.heap.size,0,none⟩=A'∧2=c':=by injection hv with h1 h2 h3;exact⟨h1,h3⟩
 refine(DJ _ (by decide) _ 2 2 (by omega) _ _ hR').mono ?_;rintro e w2 ⟨rfl,hb2⟩;clear hR' hrow hv
 go_wp2
 go_ret
 exact⟨rfl,((Below.refl _ _).alloc (aJ _) _).trans (hb2.mono (by simp))⟩
theorem Tryz.infoIntq:(Tryz.prog.info? 3).map (fun i=>(i.zero,i.size,i.bytes))=some (some (.int .i64 0),1,8):=by kernel_rfl
set_option maxHeartbeats 1000000 in
theorem VO(s:ByteArray)(hs:s.size≤1000000)(A:Option Addr)(len cap:Nat)(hlen:len≤1000000)(g:Nat→Int)(hg:Byt g)(w:World)(hR:Rd w w.heap.size A len fun k=>.int .u8 (g k)) :
  Calls Tryz.prog 34 #[.string s,.slice A len cap] w fun e W'=>e=.returned (.int .u64 (qX (gT (PlainAid.bt s) s.size ((s.size+7) / 8)) s.size (pV g len)))∧Below w.heap.size w W':=by
 obtain⟨i0,hi,hz0,hz1,hz2⟩:=info_parts Tryz.infoIntq
 go_enter Tryz.func34,Tryz.ntmps34
 go_wp2_with (go_at_call 54;refine(JB _ _ _ hlen _ hg _ hR).mono ?_;rintro e w2 ⟨v,rfl,hown,hb2⟩)
 obtain⟨A2,c2,rfl,hc2,hl2,hR2⟩:=Rd.of_ints hown
 have HL2:=Lib.hid hl2
 clear hl2 hown
 obtain⟨WL,hWL⟩:∃WL,WL=gT g len ((len+7) / 8):=⟨_,rfl⟩
 rw[←hWL]at hR2 HL2
 have HWL:=Lib.hid hWL
 clear hWL
 obtain⟨N1,hN1⟩:∃N1,N1=(len+7) / 8:=⟨_,rfl⟩
 rw[←hN1]at hR2 HL2 ⊢
 have hN1':N1≤200000:=by omega
 clear hN1
 go_wp2_with fail
 go_loopw [6,7] (fun v i wr=>∃k:Nat,k≤N1∧i=.int .i64 k∧wr.ownsRow w2.heap.size 3 1 v k (((WL.take k).map qA).map (cU .i64))∧Below w2.heap.size w2 wr) (fun _ i _=>N1-(intOf i).toNat)
 case atStart=>exact⟨0,bK _,rfl,World.ownsRow_nil _ _ _ _,Below.refl _ _⟩
 case round=>
  obtain⟨k,hk,rfl,hown,hB⟩:=hrel
  by_cases hlt:k<N1
  ·obtain⟨ad,rfl,hab,hac⟩:=(hR2.below hB).at_ hlt
   have et:((WL.take (k+1)).map qA).map (cU .i64)=((WL.take k).map qA).map (cU .i64)++[.int .i64 (qA (WL[k]?.getD 0))]:=by
    have h:k<WL.length:=by have:=HL2.out;omega
    rw[fP h,dT,dT,aH h];rfl
   have ET:=Lib.hid et
   clear et
   go_wp2_with (at_builtin;refine wpList_append_own _ rfl _ _ 25 rfl w2.heap.size 3 i0 (.int .i64 0) 1 8 Tryz.underlying25 hi hz0 hz1 hz2 rfl (by decide) _ _ _ rfl (hown.alloc _) ⟨wr.heap.size,0,none⟩ 1 1 [.int .i64 (qA (WL[k]?.getD 0))] rfl rfl (cell_one_new _ _ _) (by simp[Value.oneCell']) (by unfold maxLen;omega) (by omega) (by have:=hB.size;simp;omega) ?_;intro v' w1 hown' hgrow _)
   go_roundw
   case rel=>exact⟨k+1,by omega,by go_num,by rw[ET.out];exact hown',(hB.alloc hB.size _).grown hgrow (by have:=hB.size;simp;omega) (fun k e=>(hown.lt k e).1)⟩
   case measure=>simp[intOf];omega
  ·obtain rfl:k=N1:=by omega
   rw[List.take_of_length_le (by have:=HL2.out;omega)]at hown
   go_wp2_with (at_builtin;refine wpList_append_own _ rfl _ _ 25 rfl w2.heap.size 3 i0 (.int .i64 0) 1 8 Tryz.underlying25 hi hz0 hz1 hz2 rfl (by decide) _ _ _ rfl (hown.alloc _) ⟨wr.heap.size,0,none⟩ 1 1 [.int .i64 (len:Int)] rfl rfl (cell_one_new _ _ _) (by simp[Value.oneCell']) (by unfold maxLen;omega) (by omega) (by have:=hB.size;simp;omega) ?_;intro v' w1 hown' hgrow _)
   have hb1:Below w2.heap.size w2 w1:=(hB.alloc hB.size _).grown hgrow (by have:=hB.size;simp;omega) (fun k e=>(hown.lt k e).1)
   have e:(WL.map qA).map (cU .i64)++[.int .i64 (len:Int)]=(pV g len).map (cU .i64):=by rw[pV,←HWL.out];simp
   rw[e]at hown';obtain⟨A3,c3,rfl,hc3,hl3,hR3⟩:=Rd.of_ints hown';refine(DJ s hs _ _ _ (by omega) _ _ hR3).mono ?_;rintro e' w3 ⟨rfl,hb3⟩
   have hgl:=OP (pV g len)
   rw[hl3]at hgl;rw[hgl]
   have hb4:Below w.heap.size w w3:=hb2.trans ((hb1.trans (hb3.mono hb1.size)).mono hb2.size)
   clear e hgl hl3 hown' hR3 hgrow hown
   go_wp2
   go_ret
   exact⟨rfl,hb4⟩
end Go.Proofs.YtjfofadeahdnnaaGreatDoor
namespace Go.AE
open _root_.Array renaming getElem?_eq_some_iff→aO,replicate_succ→eU,replicate_zero→eT
open _root_.Int renaming eq_ofNat_of_zero_le→fK
open IntKind renaming u64→bD
open _root_.List renaming append_toArray→eZ,cons_append→gC,getD_eq_getElem?_getD→aD,getElem?_eq_getElem→aH,getElem?_eq_none→bB,length_cons→eP,length_nil→fZ,map_append→dT,map_congr_left→gR,nil_append→fY,push_toArray→fQ,range→cS,range_succ→iF,size_toArray→eX,take_succ_eq_append_getElem→fP
open _root_.Nat renaming add_mul→cH,le_refl→aJ,mul_comm→fW,mul_one→gQ,one_mul→fT,pow_le_pow_right→iB,pow_succ'→iE,reduceAdd→iS,reduceSub→iR,zero_le→bK
open Value renaming int→cU
section
variable (pz:Int→Int→Int)
def BF(L:List Int):Nat→Nat→Int
 |0,a=>L.getD a 0
 |d+1,a=>pz (BF L d a) (BF L d (a+2^d))
def jS(n:Nat):Nat:=if n≤1 then 0 else Nat.log2 (n-1)+1
def mD(L:List Int)(D k:Nat):List Int:=(cS (2^(D-k))).map fun j=>BF pz L k (j*2^k)
def aMY(m:Nat):Nat:=if m%2=1 then m-1 else m+1
def QU(L:List Int)(i m:Nat):List Int:=(cS m).map fun k=>BF pz L k (aMY (i / 2^k)*2^k)
def foT(h:Int)(i:Int):List Int→Int
 |[]=>h
 |x::r=>foT (if i%2=0 then pz h x else pz x h) (i / 2) r
def ZT:List Int→List Int
 |a::b::r=>pz a b::ZT r
 |_=>[]
theorem qW{n:Nat}(h:¬n≤1):2^(jS n-1)<n∧n≤2^jS n∧0<jS n:=by
 unfold jS;rw[if_neg h];refine⟨?_,?_,by omega⟩
 ·have:=Nat.log2_self_le (n:=n-1) (by omega)
  show 2^(n-1).log2<n
  omega
 ·have:=Nat.lt_log2_self (n:=n-1)
  omega
theorem yB(n:Nat):n≤2^jS n:=by
 by_cases h:n≤1
 ·unfold jS;rw[if_pos h];simpa using h
 ·exact(qW h).2.1
theorem aAY{n d:Nat}(h1:n≤2^d)(h2:d=0∨2^(d-1)<n):d=jS n:=by
 by_cases h:n≤1
 ·unfold jS;rw[if_pos h]
  rcases h2 with h2|h2
  ·exact h2
  ·have:=Nat.one_le_two_pow (n:=d-1)
   omega
 ·obtain⟨a,b,c⟩:=qW h
  rcases Nat.lt_trichotomy d (jS n) with e|e|e
  ·have:2^d≤2^(jS n-1):=iB (by omega) (by omega)
   omega
  ·exact e
  ·rcases h2 with h2|h2
   ·omega
   ·have:2^jS n≤2^(d-1):=iB (by omega) (by omega)
    omega
theorem wO{n m:Nat}(h:n≤2^m):jS n≤m:=by
 by_cases h1:n≤1
 ·unfold jS;rw[if_pos h1];omega
 ·obtain⟨a,b,c⟩:=qW h1
  have:¬m≤jS n-1:=fun e=>by
   have:=iB (n:=2) (by omega) e
   omega
  omega
variable {pz}
theorem kO(L:List Int)(D k:Nat):(mD pz L D k).length=2^(D-k):=by unfold mD;simp
theorem pN(L:List Int){D k j:Nat}(d:Int)(h:j<2^(D-k)):(mD pz L D k).getD j d=BF pz L k (j*2^k):=by
 unfold mD;rw[aD,List.getElem?_map,List.getElem?_range h];rfl
theorem zC(L:List Int):mD pz L (jS L.length) 0=L++List.replicate (2^jS L.length-L.length) 0:=by
 have hd:=yB L.length
 apply List.ext_getElem
 ·rw[kO];simp;omega
 ·intro i h1 h2
  have e:=pN (pz:=pz) L (D:=jS L.length) (k:=0) (j:=i) 0 (by rw[kO]at h1;exact h1)
  rw[aD,aH h1]at e;rw[List.getElem_append];refine Eq.trans e ?_;simp only[BF,Nat.pow_zero,gQ];split
  ·rename_i h;simp[h]
  ·rename_i h
   rw[aD,bB (by omega)];simp
theorem aBV(g:Nat→Int)(n:Nat):∀a,ZT pz ((List.range' a (2*n)).map g)=(List.range' 0 n).map fun j=>pz (g (a+2*j)) (g (a+2*j+1)):=by
 induction n with
 |zero=>intro a;rfl
 |succ n ih=>
  intro a
  have e:2*(n+1)=(2*n+1)+1:=by omega
  rw[e,List.range'_succ,List.range'_succ];simp only[List.map_cons,ZT];rw[show a+1+1=a+2 by omega,ih (a+2),List.range'_succ,List.map_cons];refine congr (congrArg _ rfl) ?_;rw[List.range'_eq_map_range (s:=0+1),List.range'_eq_map_range (s:=0)];simp only[List.map_map]
  refine gR fun j _=>?_
  simp only[Function.comp];rw[show a+2+2*(0+j)=a+2*(0+1+j) by omega]
theorem aP8(L:List Int){D k:Nat}(h:k<D):ZT pz (mD pz L D k)=mD pz L D (k+1):=by
 unfold mD
 have e:2^(D-k)=2*2^(D-(k+1)):=by rw[←iE,show (D-(k+1)).succ=D-k by omega]
 rw[e,List.range_eq_range',aBV,List.range_eq_range']
 refine gR fun j _=>?_
 show _=pz _ _
 have h1:(0+2*j)*2^k=j*2^(k+1):=by rw[iE,←Nat.mul_assoc,fW j 2,Nat.zero_add]
 have h2:(0+2*j+1)*2^k=j*2^(k+1)+2^k:=by rw[cH,h1,fT]
 rw[h1,h2]
theorem QT(L:List Int)(i m:Nat):(QU pz L i m).length=m:=by unfold QU;simp
theorem aBU(L:List Int)(i m:Nat):QU pz L i (m+1)=QU pz L i m++[BF pz L m (aMY (i / 2^m)*2^m)]:=by
 unfold QU;rw[iF,dT];rfl
theorem YC(h i:Int)(A:List Int)(x:Int):∀(h:Int) (i:Int),foT pz h i (A++[x])=(if (i / 2^A.length)%2=0 then pz (foT pz h i A) x else pz x (foT pz h i A)):=by
 induction A with
 |nil=>intro h i;simp[foT]
 |cons y A ih=>
  intro h i
  show foT pz _ (i / 2) (A++[x])=_
  rw[ih]
  have e:i / 2 / 2^A.length=i / 2^(y::A).length:=by
   rw[Int.ediv_ediv_of_nonneg (by omega),eP,Int.pow_succ',Int.mul_comm]
  rw[e];rfl
theorem aAP(L:List Int)(i:Nat):∀m,foT pz (L.getD i 0) (i:Int) (QU pz L i m)=BF pz L m (i / 2^m*2^m)
 |0=>by simp[QU,foT,BF]
 |m+1=>by
  rw[aBU,YC 0 0,aAP L i m,QT]
  have e1:((i:Int) / 2^m)%2=((i / 2^m%2:Nat):Int):=by
   rw[Int.natCast_emod,Int.natCast_ediv,Int.natCast_pow];rfl
  rw[e1]
  have e2:i / 2^(m+1)=i / 2^m / 2:=by rw[Nat.pow_succ,Nat.div_div_eq_div_mul]
  rw[e2]
  generalize i / 2^m=q
  unfold aMY
  show _=pz _ _
  have hp:2^(m+1)=2*2^m:=iE
  by_cases hq:q%2=1
  ·rw[if_neg (by omega),if_pos hq]
   obtain⟨r,rfl⟩:∃r,q=2*r+1:=⟨q / 2,by omega⟩
   have f1:(2*r+1) / 2*2^(m+1)=(2*r+1-1)*2^m:=by
    rw[hp,show (2*r+1) / 2=r by omega,Nat.add_sub_cancel,fW 2 r,Nat.mul_assoc]
   rw[f1];refine congrArg _ (congrArg _ ?_);rw[Nat.add_sub_cancel,cH,fT]
  ·rw[if_pos (by omega),if_neg hq]
   obtain⟨r,rfl⟩:∃r,q=2*r:=⟨q / 2,by omega⟩
   have f1:(2*r) / 2*2^(m+1)=2*r*2^m:=by
    rw[hp,show (2*r) / 2=r by omega,fW 2 r,Nat.mul_assoc]
   rw[f1,cH,fT]
theorem aRN(L:List Int){i:Nat}(h:i<L.length):foT pz (L.getD i 0) (i:Int) (QU pz L i (jS L.length))=BF pz L (jS L.length) 0:=by
 rw[aAP,Nat.div_eq_of_lt (Nat.lt_of_lt_of_le h (yB _)),Nat.zero_mul]
end
end Go.AE
namespace Go.Proofs.YtjfofadeahdnnaaGreatDoor
open _root_.Array renaming getElem?_eq_some_iff→aO,replicate_succ→eU,replicate_zero→eT
open _root_.Int renaming eq_ofNat_of_zero_le→fK
open IntKind renaming u64→bD
open _root_.List renaming append_toArray→eZ,cons_append→gC,getD_eq_getElem?_getD→aD,getElem?_eq_getElem→aH,getElem?_eq_none→bB,length_cons→eP,length_nil→fZ,map_append→dT,map_congr_left→gR,nil_append→fY,push_toArray→fQ,range→cS,range_succ→iF,size_toArray→eX,take_succ_eq_append_getElem→fP
open _root_.Nat renaming add_mul→cH,le_refl→aJ,mul_comm→fW,mul_one→gQ,one_mul→fT,pow_le_pow_right→iB,pow_succ'→iE,reduceAdd→iS,reduceSub→iR,zero_le→bK
open Value renaming int→cU
open Go.RowKit Go.AE
open Go.Shelf
attribute [local go_sem] Oper.semAt_some
def KpC(B1 B2 n₀:Nat)(W W':World):Prop:=US B1 n₀ W W'∧W'.cell? ⟨B2,0,none⟩=W.cell? ⟨B2,0,none⟩
theorem KpC.refl{B1 B2 n₀:Nat}(W:World):KpC B1 B2 n₀ W W:=⟨US.refl _,rfl⟩
theorem aG1{B1 B2 n₀:Nat}{A B C:World}(h:KpC B1 B2 n₀ A B)(k:KpC B1 B2 n₀ B C):KpC B1 B2 n₀ A C:=⟨FV h.1 k.1,k.2.trans h.2⟩
theorem aQC{B1 B2 n₀:Nat}{w:World}(hn:n₀≤w.heap.size)(hB:B1<w.heap.size)(hB2:B2<w.heap.size)(W:World)(l:Nat)(o o':Obj)(hl:w.heap.size≤l)(h:W.heap[l]?=some o)(h1:o.isCells=false)(h2:o.isWalk=false):KpC B1 B2 n₀ W (W.putObj l o'):=
 ⟨aAC hn hB W l o o' hl h h1 h2,(aAC hn hB2 W l o o' hl h h1 h2).2⟩
set_option maxRecDepth 100000 in
set_option maxHeartbeats 2000000 in
theorem aD3(F:Fence)(n:Nat)(h6:F.fn 65)(hro:F.round=none)(hn:1≤n)(l B1 B2 n₀ g m cap:Nat)(hm:2*m≤cap)(hs:2*m≤1000000000)(J Jx:List Nat→World→Prop)(hJ:∀s W,J s W→J s W.drew)
  (hY:∀pre x W,J pre W→pre.length<m→YieldAt F (n-1) Tryz.prog l #[.slice (some ⟨g,2*(x%m),none⟩) 2 2] W fun e W'=>
   (e=.returned (.bool true)∧J (pre++[x]) W'∧KpC B1 B2 n₀ W W')∨(e=.returned (.bool false)∧Jx (pre++[x]) W'))
  (W:World) (hB1:W.cell? ⟨B1,0,none⟩=some (.slice (some ⟨g,0,none⟩) (2*m) cap)) (hB2:W.cell? ⟨B2,0,none⟩=some (.int .i64 2)) (h0:J [] W) :
  CallsIn F n Tryz.prog 65 #[.func (.yield l) #[] #[],.pointer (some ⟨B1,0,none⟩),.pointer (some ⟨B2,0,none⟩)] W fun e W'=>(∃v,e=.returned v) ∧
   ((∃ys,ys=cS m∧J ys W')∨(∃pre,(∃k,k≤m∧pre=cS k)∧Jx pre W')):=by
 refine callsIn_of_wp Tryz.func65 rfl h6 ?_ hro;simp only[Tryz.ntmps65,eX,eP,fZ,iS,iR,eU,eT,fQ,eZ,fY,gC]
 gi_wp2
 gi_loopw [4] (fun i wr=>∃k:Nat,k≤m∧i=.int .i64 (2*(k:Int))∧J (cS k) wr∧KpC B1 B2 n₀ W wr) (fun i _=>2*m+2-(intOf i).toNat)
 case atStart=>exact⟨0,bK _,rfl,h0,KpC.refl _⟩
 case round=>
  obtain⟨k,hk,rfl,hJs,hnx⟩:=hrel
  have hc1:wr.cell? ⟨B1,0,none⟩=some (.slice (some ⟨g,0,none⟩) (2*m) cap):=hnx.1.2.trans hB1
  have hc2:wr.cell? ⟨B2,0,none⟩=some (.int .i64 2):=hnx.2.trans hB2
  by_cases hlt:k<m
  ·have hdec:decide (2*(k:Int)<((2*m:Nat):Int))=true:=by simp;omega
   have hmod:k%m=k:=Nat.mod_eq_of_lt hlt
   have hmin:(if ((2*m-2*k:Nat):Int)<2 then ((2*m-2*k:Nat):Int) else 2)=2:=by split<;>omega
   obtain⟨fn,tmps,assign,body,hy,hR⟩:=hY _ k wr.drew (hJ _ _ hJs) (by simp;omega);rw[hmod]at hy
   have hcd1:wr.drew.cell? ⟨B1,0,none⟩=some (.slice (some ⟨g,0,none⟩) (2*m) cap):=hc1
   have hcd2:wr.drew.cell? ⟨B2,0,none⟩=some (.int .i64 2):=hc2
   gi_wp2
   refine Code.wpIn_mono (Q:=fun e a' w'=>e=.normal∧a'={ tmps := #[.func (.yield l) #[] #[],.pointer (some ⟨B1,0,none⟩),.pointer (some ⟨B2,0,none⟩),undef,.int .i64 (2*(k:Int)),.int .i64 2,.int .i64 (2*(k:Int)),.slice (some ⟨g,0,none⟩) (2*m) cap,.int .i64 (2*(m:Int)),.bool true,u10,u11,u12,.int .i64 2,.slice (some ⟨g,0,none⟩) (2*m) cap,.int .i64 (2*(k:Int)),.slice (some ⟨g,2*k,none⟩) (2*m-2*k) (cap-2*k),.int .i64 ((2*m-2*k:Nat):Int),.int .i64 2,u19,u20,u21,u22,u23,u24,u25,u26,u27,u28,u29,u30],defers:=[] }∧w'=wr.drew) ?_ ?_
   ·rintro _ _ _ ⟨rfl,rfl,rfl⟩
    gi_wp2
    refine hR.mono ?_;rintro e W3 (⟨rfl,hJ3,hk3⟩|⟨rfl,hJx3⟩)
    ·have hk4:KpC B1 B2 n₀ wr W3:=aG1 ⟨⟨(Below.refl _ _).drew,rfl⟩,rfl⟩ hk3
     have hc3:W3.cell? ⟨B2,0,none⟩=some (.int .i64 2):=hk4.2.trans hc2
     gi_wp2
     go_roundw
     case rel=>exact⟨k+1,by omega,by go_num,by rw[iF];exact hJ3,aG1 hnx hk4⟩
     case measure=>simp[intOf];omega
    ·gi_wp2
     refine bodyPost_ret (results_none rfl _ _ _) rfl ?_;exact⟨⟨_,rfl⟩,.inr ⟨_,⟨k+1,by omega,by rw[iF]⟩,hJx3⟩⟩
   ·gi_region
    all_goals exact⟨rfl,rfl,rfl⟩
  ·obtain rfl:k=m:=by omega
   gi_wp2
   go_end0
   exact⟨⟨_,rfl⟩,.inl ⟨_,rfl,hJs⟩⟩
set_option maxHeartbeats 1000000 in
theorem aHB(F:Fence)(n:Nat)(h5:F.fn 44)(hro:F.round=none)(A:Option Addr)(len cap:Nat)(w:World) :
  CallsIn F n Tryz.prog 44 #[.slice A len cap,.int .i64 2] w fun e w'=>e=.returned (.func (.func 65) #[] #[.pointer (some ⟨w.heap.size,0,none⟩),.pointer (some ⟨w.heap.size+1,0,none⟩)])∧w'=(w.alloc (.cells #[.slice A len cap] 22)).alloc (.cells #[.int .i64 2] 3):=by
 refine callsIn_of_wp Tryz.func44 rfl h5 ?_ hro;simp only[Tryz.ntmps44,eX,eP,fZ,iS,iR,eU,eT,fQ,eZ,fY,gC]
 gi_wp2
 go_ret
 exact⟨rfl,rfl⟩
theorem TV(F:Fence)(n:Nat)(h7:F.fn 65)(hro:F.round=none)(hn:1≤n)(B1 B2 n₀ g m cap:Nat)(hm:2*m≤cap)(hs:2*m≤1000000000)(w:World)(hB1:B1<w.heap.size)(hB2:B2<w.heap.size)
  (hc1:w.cell? ⟨B1,0,none⟩=some (.slice (some ⟨g,0,none⟩) (2*m) cap)) (hc2:w.cell? ⟨B2,0,none⟩=some (.int .i64 2)) :
  SeqStopsK F n Tryz.prog 65 #[.pointer (some ⟨B1,0,none⟩),.pointer (some ⟨B2,0,none⟩)] (fun x:Nat => #[Value.slice (some ⟨g,2*(x%m),none⟩) 2 2]) (KpC B1 B2 n₀) (fun ys=>ys=cS m)
   (fun pre=>∃k,k≤m∧pre=cS k) m w:=fun l J Jx W hW hJ _ hY h0=>by
 have hc1':=(hW.cell (p:=⟨B1,0,none⟩) hB1).trans hc1
 have hc2':=(hW.cell (p:=⟨B2,0,none⟩) hB2).trans hc2
 exact aD3 F n h7 hro hn l B1 B2 n₀ g m cap hm hs J Jx (fun s W h=>hJ s W _ none h ⟨rfl,rfl,rfl,aJ _,fun _ _ _=>rfl⟩ (by simp)) hY W hc1' hc2' h0
end Go.Proofs.YtjfofadeahdnnaaGreatDoor
