import Derived.Test.YtjfofadeahdnnaaGreatDoorERk
import Derived.Test.YtjfofadeahdnnaaGreatDoorERl
import Derived.Test.YtjfofadeahdnnaaGreatDoorERi
set_option linter.unusedVariables false
set_option linter.unusedSimpArgs false
namespace Go.AE
open IntKind renaming i64→aC,u8→cM
open _root_.List renaming append_assoc→eN,append_nil→iG,getD_eq_getElem?_getD→aD,getElem?_append_left→bW,getElem?_append_right→cJ,getElem?_eq_getElem→aH,getElem?_eq_none→bB,getElem?_map→cC,getElem?_range→eE,length_append→bJ,length_set→cD,map_append→dT,mem_append→gL,mem_cons→cR,mem_cons_of_mem→bL,mem_cons_self→bH,mem_singleton→fF,range→cS,range_succ→iF,take_length→fL,take_succ_eq_append_getElem→fP
open _root_.Nat renaming beq→aT,eq_of_beq_eq_true→aF,le_refl→aJ,lt_or_ge→cA,pow_succ'→iE,zero_le→bK
open Go.Proofs Go.Proofs.YtjfofadeahdnnaaGreatDoor Wi
structure Cl where
 fr:Int
 to:Int
 lo:Int
 hi:Int
structure De where
 nm:ByteArray
 L:List (ByteArray×ByteArray)
 u0:Int
 u1:Int
 u2:Int
 lo:Int
 hi:Int
 dn:Int
 up:Int
 fi:Int
 la:Int
 bu:Int
structure Se where
 d:De
 C:List Cl
instance:Inhabited Cl:=⟨⟨0,0,0,0⟩⟩
instance:Inhabited De:=⟨⟨⟨#[]⟩,[],0,0,0,0,0,0,0,0,0,0⟩⟩
instance:Inhabited Se:=⟨⟨default,[]⟩⟩
def eH(c:Cl)(o:Nat):PV:=match o with
 |0=>.i .i64 c.fr
 |1=>.i .i64 c.to
 |2=>.i .i64 c.lo
 |_=>.i .i64 c.hi
def gG(d:De)(o:Nat):PV:=match o with
 |0=>.s d.nm
 |1=>mU kC 2 d.L
 |2=>.i .i64 d.u0
 |3=>.i .i64 d.u1
 |4=>.i .i64 d.u2
 |5=>.i .i64 d.lo
 |6=>.i .i64 d.hi
 |7=>.i .i64 d.dn
 |8=>.i .i64 d.up
 |9=>.i .i64 d.fi
 |10=>.i .i64 d.la
 |_=>.i .i64 d.bu
def bQ(s:Se)(o:Nat):PV:=match o with
 |12=>mU eH 4 s.C
 |o=>gG s.d o
def XM:List (ByteArray×ByteArray)→List UInt8
 |[]=>[]
 |x::r=>kX x.1++kX x.2++XM r
def tY:List Int→List UInt8
 |[]=>[]
 |x::r=>rO x++tY r
def PO(d:De):List Int:=[d.u0,d.u1,d.u2,d.lo,d.hi,d.dn,d.up,d.fi,d.la,d.bu]
def BC(d:De):List UInt8:=kX d.nm++rO d.L.length++XM d.L++tY (PO d)
def tB(s:ByteArray)(l:List Int):Int:=qX (gT (PlainAid.bt s) s.size ((s.size+7) / 8)) s.size l
def BD(s:ByteArray)(b:List UInt8):Int:=tB s (pV (fun k=>((b.getD k default).toNat:Int)) b.length)
theorem QB(lw:List Int)(n:Nat)(a b:List Int)(x y:Int):qX lw n (a++x::b)=qX lw n (a++y::b)↔u64 x=u64 y:=by
 unfold qX
 have h0:tA 0:=by constructor<;>decide
 have hb:∀z∈b.map u64,tA z:=fun z hz=>by obtain⟨k,_,rfl⟩:=List.mem_map.1 hz;exact MG k
 have el:((a++x::b).length:Int)=((a++y::b).length:Int):=by simp
 rw[el]
 obtain⟨S,hS⟩:∃S,S=mY (mY (oG 0 lw) n) ((a++y::b).length:Int):=⟨_,rfl⟩
 rw[←hS]
 have uS:tA S:=by rw[hS];exact jU _ _
 rw[rL (FI uS _) (FI uS _) h0];simp only[dT,List.map_cons];rw[AF,AF]
 have e1:∀z,oG (oG S (a.map u64)) (u64 z::b.map u64)=oG (mY (oG S (a.map u64)) (u64 z)) (b.map u64):=fun z=>rfl
 rw[e1,e1,aCE _ hb (jU _ _) (jU _ _),wF (FI uS _) (MG _) (MG _)]
theorem yN(s:ByteArray)(l:List Int):tA (tB s l):=jU _ _
theorem aI6{x y:Int}(hx:inR .i64 x)(hy:inR .i64 y)(h:u64 x=u64 y):x=y:=by
 unfold u64 at h;rw[IntKind.wrap_u64,IntKind.wrap_u64]at h;simp only[inR]at hx hy;omega
theorem aOL{L:List Int}(hL:UL L)(a:Nat):tA (L.getD a 0):=by
 rw[aD];cases h:L[a]? with
 |none=>exact u0
 |some x=>exact hL x (List.mem_of_getElem? h)
theorem CI{L:List Int}(hL:UL L):∀d a,tA (BF gW L d a)
 |0,a=>aOL hL a
 |d+1,a=>aIU _ _
theorem wW{L M:List Int}:∀d a,(∀k,a≤k→k<a+2^d→L.getD k 0=M.getD k 0)→BF gW L d a=BF gW M d a
 |0,a,h=>h a (aJ _) (by simp)
 |d+1,a,h=>by
  have e2:2^(d+1)=2*2^d:=iE
  show gW _ _=gW _ _
  rw[wW d a fun k h1 h2=>h k h1 (by omega),wW d (a+2^d) fun k h1 h2=>h k (by omega) (by omega)]
theorem ME{L M:List Int}(hL:UL L)(hM:UL M){p:Nat}(h:∀k,k≠p→L.getD k 0=M.getD k 0):∀d a,a≤p→p<a+2^d→BF gW L d a=BF gW M d a→L.getD p 0=M.getD p 0
 |0,a,h1,h2,e=>by
  obtain rfl:a=p:=by
   have:2^0=1:=rfl
   omega
  exact e
 |d+1,a,h1,h2,e=>by
  have e2:2^(d+1)=2*2^d:=iE
  have e:gW (BF gW L d a) (BF gW L d (a+2^d))=gW (BF gW M d a) (BF gW M d (a+2^d)):=e
  rcases cA p (a+2^d) with c|c
  ·rw[wW (L:=L) (M:=M) d (a+2^d) fun k h3 h4=>h k (by omega),VV (CI hL _ _) (CI hM _ _) (CI hM _ _)]at e
   exact ME hL hM h d a h1 c e
  ·rw[wW (L:=L) (M:=M) d a fun k h3 h4=>h k (by omega),RD (CI hM _ _) (CI hL _ _) (CI hM _ _)]at e
   exact ME hL hM h d (a+2^d) c (by omega) e
def rI(L:List Int):Int:=BF gW L (jS L.length) 0
theorem aMW{L:List Int}(hL:UL L):tA (rI L):=CI hL _ _
theorem aE8{X Y:List Int}{a b:Int}(hX:UL X)(hY:UL Y)(ha:tA a)(hb:tA b)(e:rI (X++a::Y)=rI (X++b::Y)):a=b:=by
 have hu:∀c,tA c→UL (X++c::Y):=fun c hc x hx=>by
  rcases gL.1 hx with h|h
  ·exact hX x h
  ·rcases cR.1 h with rfl|h
   ·exact hc
   ·exact hY x h
 have g:∀c,(X++c::Y).getD X.length 0=c:=fun c=>by simp
 have hl:∀c,(X++c::Y).length=X.length+1+Y.length:=fun c=>by simp;omega
 unfold rI at e;rw[hl,hl]at e
 have:=ME (hu a ha) (hu b hb) (p:=X.length) (fun k hk=>by
  rw[aD,aD]
  rcases cA k X.length with h|h
  ·rw[bW h,bW h]
  ·rw[cJ h,cJ h]
   obtain⟨j,hj⟩:∃j,k-X.length=j+1:=⟨k-X.length-1,by omega⟩
   rw[hj];rfl) _ 0 (bK _) (by
    have:=yB (X.length+1+Y.length)
    omega) e
 rwa [g,g]at this
def rD:ByteArray:=⟨#[99,108,97,105,109]⟩
def vN:ByteArray:=⟨#[114,111,111,116]⟩
def mI:ByteArray:=⟨#[100,101,99,108]⟩
def qP(i k:Nat)(c:Cl):Int:=tB rD [(i:Int),(k:Int),c.fr,c.to,c.lo,c.hi]
def vQ(i:Nat):Nat→List Cl→List Int
 |_,[]=>[]
 |k,c::r=>qP i k c::vQ i (k+1) r
def oW:Nat→List Se→List Int
 |_,[]=>[]
 |i,s::r=>vQ i 0 s.C++oW (i+1) r
def fE(S:List Se):List Int:=oW 0 S
def gS(S:List Se):List Int:=S.flatMap fun s=>[qA (BD mI (BC s.d)),(s.C.length:Int)]
def qH(S:List Se):Int:=tB vN (gS S++[qA (rI (fE S))])
theorem BN(i:Nat):∀(C:List Cl) (k:Nat),UL (vQ i k C)
 |[],_,x,h=>by cases h
 |c::r,k,x,h=>by
  rcases cR.1 h with rfl|h
  ·exact yN _ _
  ·exact BN i r (k+1) x h
theorem zD:∀(S:List Se) (i:Nat),UL (oW i S)
 |[],_,x,h=>by cases h
 |s::r,i,x,h=>by
  rcases gL.1 h with h|h
  ·exact BN i _ _ x h
  ·exact zD r (i+1) x h
theorem AH(i:Nat):∀(C:List Cl) (k0 k:Nat),k<C.length→∃X Y,UL X∧UL Y∧∀c,vQ i k0 (C.set k c)=X++qP i (k0+k) c::Y
 |[],_,_,h=>by simp at h
 |a::r,k0,0,_=>⟨[],vQ i (k0+1) r,(fun x h=>by cases h),BN i r _,fun c=>rfl⟩
 |a::r,k0,k+1,h=>by
  obtain⟨X,Y,h1,h2,h3⟩:=AH i r (k0+1) k (by simpa using h);refine⟨qP i k0 a::X,Y,fun x hx=>?_,h2,fun c=>?_⟩
  ·rcases cR.1 hx with rfl|hx
   ·exact yN _ _
   ·exact h1 x hx
  ·show qP i k0 a::vQ i (k0+1) (r.set k c)=_
   rw[h3,show k0+1+k=k0+(k+1) by omega];rfl
theorem vP:∀(S:List Se) (i0 i k:Nat),i<S.length→k<(S.getD i default).C.length→∃X Y,UL X∧UL Y∧∀c,oW i0 (S.set i ⟨(S.getD i default).d,(S.getD i default).C.set k c⟩)=X++qP (i0+i) k c::Y
 |[],_,_,_,h,_=>by simp at h
 |s::r,i0,0,k,_,hk=>by
  obtain⟨X,Y,h1,h2,h3⟩:=AH i0 s.C 0 k hk;refine⟨X,Y++oW (i0+1) r,h1,fun x hx=>?_,fun c=>?_⟩
  ·rcases gL.1 hx with h|h
   ·exact h2 x h
   ·exact zD r _ x h
  ·show vQ i0 0 (s.C.set k c)++oW (i0+1) r=_
   rw[h3,Nat.zero_add];simp
 |s::r,i0,i+1,k,h,hk=>by
  obtain⟨X,Y,h1,h2,h3⟩:=vP r (i0+1) i k (by simpa using h) hk;refine⟨vQ i0 0 s.C++X,Y,fun x hx=>?_,h2,fun c=>?_⟩
  ·rcases gL.1 hx with h|h
   ·exact BN _ _ _ x h
   ·exact h1 x h
  ·show vQ i0 0 s.C++oW (i0+1) (r.set i _)=_
   rw[show oW (i0+1) (r.set i ⟨((s::r).getD (i+1) default).d,((s::r).getD (i+1) default).C.set k c⟩)=_ from h3 c,show i0+1+i=i0+(i+1) by omega];simp
theorem CB:∀(S:List Se) (i:Nat) (D:List Cl),D.length=(S.getD i default).C.length→gS (S.set i ⟨(S.getD i default).d,D⟩)=gS S
 |[],_,_,_=>rfl
 |s::r,0,D,h=>by
  have h:D.length=s.C.length:=h
  show [qA (BD mI (BC s.d)),(D.length:Int)]++gS r=[qA (BD mI (BC s.d)),(s.C.length:Int)]++gS r
  rw[h]
 |s::r,i+1,D,h=>by
  have:=CB r i D h
  show _++gS (r.set i _)=_++gS r
  rw[show gS (r.set i ⟨((s::r).getD (i+1) default).d,D⟩)=gS r from this]
theorem CV{α:Type}[Inhabited α]:∀(L:List α) (k:Nat),L.set k (L.getD k default)=L
 |[],_=>rfl
 |x::r,0=>rfl
 |x::r,k+1=>by
  show x::r.set k _=_
  rw[show (x::r).getD (k+1) default=r.getD k default from rfl,CV r k]
theorem aEL(S:List Se)(i k:Nat)(hi:i<S.length)(hk:k<(S.getD i default).C.length)(n:Int)(hn:inR .i64 n)(hlo:inR .i64 (((S.getD i default).C.getD k default).lo))(hne:((S.getD i default).C.getD k default).lo≠n) :
  qH (S.set i ⟨(S.getD i default).d,(S.getD i default).C.set k { (S.getD i default).C.getD k default with lo:=n }⟩)≠qH S:=by
 intro e;obtain⟨X,Y,hX,hY,hXY⟩:=vP S 0 i k hi hk
 have h0:=hXY ((S.getD i default).C.getD k default)
 rw[CV]at h0
 have hself:S.set i ⟨(S.getD i default).d,(S.getD i default).C⟩=S:=CV S i
 rw[hself]at h0
 have h1:=hXY { (S.getD i default).C.getD k default with lo:=n }
 unfold qH at e;rw[CB _ _ _ (by simp)]at e
 have e2:=(QB _ _ (gS S) [] _ _).1 e
 have hu:=fun c=>yN rD [((0+i:Nat):Int),(k:Int),c,((S.getD i default).C.getD k default).to,((S.getD i default).C.getD k default).lo,((S.getD i default).C.getD k default).hi]
 have ut:∀S,tA (rI (fE S)):=fun S=>aMW (zD S 0)
 rw[BG (ut _),BG (ut _)]at e2;unfold fE at e2;rw[h0,h1]at e2
 have e3:=aE8 hX hY (yN _ _) (yN _ _) e2
 have e4:=(QB _ _ [((0+i:Nat):Int),(k:Int),((S.getD i default).C.getD k default).fr,((S.getD i default).C.getD k default).to] [((S.getD i default).C.getD k default).hi] _ _).1 e3
 exact hne (aI6 hlo hn e4.symm)
open Go.RowKit
def PM(x:V)(L:List Int):Option Prop:=match x with
 |.c (.p (.l 1 n f))=>some (n=L.length∧∀e o,e<L.length→o<1→f e o=bF aU L e o)
 |.c (.p (.z (.slice none 0 0)))=>some (L=[])
 |_=>none
theorem rA{x:V}{p:Prop}{L:List Int}(h:PM x L=some p)(hp:p):lO x (aQ aU 1 L):=by
 unfold PM at h;split at h
 ·injection h with h
  subst h;obtain⟨rfl,h2⟩:=hp;exact lO.p (nM.l fun e o he ho=>nM.of_eq (h2 e o he ho))
 ·injection h with h
  subst h;subst hp;exact lO.p (nM.nil 1 _)
 ·cases h
def xS(s:ByteArray)(L:List Int):Mod
 |[.c (.p (.s s')),x]=>match PM x L with
  |some p=>some (p∧s'=s∧s.size≤1000∧L.length≤1000000,oP (tB s L))
  |none=>none
 |_=>none
def xT(s:ByteArray)(B:List UInt8):Mod
 |[.c (.p (.s s')),x]=>match leU x B with
  |some p=>some (p∧s'=s∧s.size≤1000∧B.length≤1000000,oP (BD s B))
  |none=>none
 |_=>none
section
variable {G:Nat→Option Obj}
theorem aIR{R:Nat→Prop}{w:World}{L:List Int}{u:Value}(hr:∀b,R b→b<w.heap.size)(h:PR R w (mU aU 1 L) u):∃A c,u=.slice A L.length c∧Rd w w.heap.size A L.length fun k=>.int .i64 (L[k]?.getD 0):=by
 obtain⟨A,c,rfl,hnc,hcm,hc⟩:=h;refine⟨A,c,rfl,fun hn=>?_⟩;obtain⟨ad,rfl,hRb,hcell⟩:=hc hn;refine⟨ad,rfl,hr _ hRb,fun k hk=>?_⟩;obtain⟨u,e1,e2⟩:=hcell k 0 hk (by decide)
 have e2:u=.int .i64 (L.getD k default):=e2
 subst e2;rw[show k*1+0=k by omega]at e1
 show w.cell? (ad.add k)=some (.int .i64 (L[k]?.getD 0))
 rw[←aD];exact e1
theorem aES{R:Nat→Prop}{w:World}{L:List UInt8}{u:Value}(hr:∀b,R b→b<w.heap.size)(h:PR R w (mU cT 1 L) u):∃A c,u=.slice A L.length c∧Rd w w.heap.size A L.length fun k=>.int .u8 ((L.getD k default).toNat:Int):=by
 obtain⟨A,c,rfl,hnc,hcm,hc⟩:=h;refine⟨A,c,rfl,fun hn=>?_⟩;obtain⟨ad,rfl,hRb,hcell⟩:=hc hn;refine⟨ad,rfl,hr _ hRb,fun k hk=>?_⟩;obtain⟨u,e1,e2⟩:=hcell k 0 hk (by decide)
 have e2:u=.int .u8 ((L.getD k default).toNat:Int):=e2
 subst e2;rw[show k*1+0=k by omega]at e1;exact e1
theorem aDA(B:List UInt8):Byt fun k=>((B.getD k default).toNat:Int):=fun k=>by
 have:=(B.getD k default).toNat_lt
 show 0≤((B.getD k default).toNat:Int)∧((B.getD k default).toNat:Int)≤255
 constructor<;>omega
theorem aF2{f:FuncId}(hf:∀(s:ByteArray),s.size≤1000→∀(A:Option Addr) (len cap:Nat),len≤1000000→∀(g:Nat→Int) (w:World),(Rd w w.heap.size A len fun k=>.int .i64 (g k)) →
  Calls Tryz.prog f #[.string s,.slice A len cap] w fun e W'=>e=.returned (.int .u64 (qX (gT (PlainAid.bt s) s.size ((s.size+7) / 8)) s.size (gl g len)))∧Below w.heap.size w W') (s:ByteArray) (L:List Int):hO Tryz.prog G f (xS s L):=by
 intro args p v hm hp h;unfold xS at hm
 split at hm;rotate_left;· cases hm
 rename_i s' x
 split at hm;rotate_left;· cases hm
 rename_i q hx;obtain⟨rfl,rfl⟩:=dB hm;clear hm;obtain⟨hq,rfl,hs,hl⟩:=hp;refine lW.args (args':=[.c (.p (.s s')),aQ aU 1 L]) ?_ (.cons (.refl _) (.cons (rA hx hq) .nil));refine GP rfl ?_ h;intro R w vs hr hg ha
 obtain⟨u,l,e,hu,ha⟩:=All2.nth2 ha;obtain⟨u1,l1,rfl,hu1,ha⟩:=All2.nth2 ha;obtain rfl:=All2.nil2 ha
 have hu:u=.string s':=hu
 subst hu;obtain⟨A,c,rfl,hRd⟩:=aIR hr (show PR R w (mU aU 1 L) u1 from hu1)
 obtain rfl:vs = #[.string s',.slice A L.length c]:=by
  apply Array.ext';simpa using e
 refine(hf s' hs A L.length c hl _ w hRd).mono ?_;rintro e w' ⟨rfl,hb⟩;refine⟨_,rfl,?_,hb⟩;rw[OP];rfl
theorem aFD{f:FuncId}(hf:∀(s:ByteArray),s.size≤1000→∀(A:Option Addr) (len cap:Nat),len≤1000000→∀(g:Nat→Int),Byt g→∀(w:World),(Rd w w.heap.size A len fun k=>.int .u8 (g k)) →
  Calls Tryz.prog f #[.string s,.slice A len cap] w fun e W'=>e=.returned (.int .u64 (qX (gT (PlainAid.bt s) s.size ((s.size+7) / 8)) s.size (pV g len)))∧Below w.heap.size w W') (s:ByteArray) (L:List UInt8):hO Tryz.prog G f (xT s L):=by
 intro args p v hm hp h;unfold xT at hm
 split at hm;rotate_left;· cases hm
 rename_i s' x
 split at hm;rotate_left;· cases hm
 rename_i q hx;obtain⟨rfl,rfl⟩:=dB hm;clear hm;obtain⟨hq,rfl,hs,hl⟩:=hp;refine lW.args (args':=[.c (.p (.s s')),aQ cT 1 L]) ?_ (.cons (.refl _) (.cons (aFX hx hq) .nil));refine GP rfl ?_ h;intro R w vs hr hg ha
 obtain⟨u,l,e,hu,ha⟩:=All2.nth2 ha;obtain⟨u1,l1,rfl,hu1,ha⟩:=All2.nth2 ha;obtain rfl:=All2.nil2 ha
 have hu:u=.string s':=hu
 subst hu;obtain⟨A,c,rfl,hRd⟩:=aES hr (show PR R w (mU cT 1 L) u1 from hu1)
 obtain rfl:vs = #[.string s',.slice A L.length c]:=by
  apply Array.ext';simpa using e
 refine(hf s' hs A L.length c hl _ (aDA L) w hRd).mono ?_;rintro e w' ⟨rfl,hb⟩;exact⟨_,rfl,rfl,hb⟩
theorem aF8(s:ByteArray)(L:List Int):hO Tryz.prog G 45 (xS s L):=aF2 (fun s hs A len cap hl g w hR=>aID s (by omega) A len cap (by omega) g w hR) s L
theorem WK(s:ByteArray)(L:List Int):hO Tryz.prog G 46 (xS s L):=aF2 (fun s hs A len cap hl g w hR=>DJ s (by omega) A len cap hl g w hR) s L
theorem aF9(s:ByteArray)(L:List UInt8):hO Tryz.prog G 63 (xT s L):=aFD (fun s hs A len cap hl g hg w hR=>aD8 s (by omega) A len cap (by omega) g hg w hR) s L
theorem aNN(s:ByteArray)(L:List UInt8):hO Tryz.prog G 34 (xT s L):=aFD (fun s hs A len cap hl g hg w hR=>VO s (by omega) A len cap hl g hg w hR) s L
end
def eL(L:List Int)(i m:Int):Int:=if i<0∨L.length≤i then 0 else dP (L.getD i.toNat default) m
def tC(L:List Int):Prop:=∀x∈L,inR .i64 x
def NW(L:List Int):Mod
 |[x,.c (.p (.i .i64 i)),.c (.p (.i .i64 m))]=>match PM x L with
  |some p=>some (p∧0<m,iV (eL L i m))
  |none=>none
 |_=>none
theorem aPO(L:List Int)(i m:Int):dI aH0 (dW Tryz.prog Tryz.f28) (pZ Tryz.f28 [aQ aU 1 L,iV i,iV m]) (TM [] [] (bU Tryz.prog Tryz.f28))=bT (decide (i<0)) (.done .ret (St.mk [V.c (C.p (PV.i aC 0))] []))
 (bT (decide ((↑L.length:Int)≤i)) (.done .ret (St.mk [V.c (C.p (PV.i aC 0))] []))
 (.rq (0≤i∧i<(↑L.length:Int)) (.rq (inR aC (L.getD i.toNat default)∧0<m) (.done .ret (St.mk [V.c (C.p (PV.i aC (dP (L.getD i.toNat default) m)))] []))))):=by kernel_rfl
theorem SQ{L:List Int}{i:Nat}(h:i<L.length):L.getD i default∈L:=by
 rw[aD,aH h];exact List.getElem_mem h
theorem OQ{L:List Int}(hL:tC L)(i:Nat):inR .i64 (L.getD i default):=by
 rcases cA i L.length with h|h
 ·exact hL _ (SQ h)
 ·rw[aD,bB h]
  show inR .i64 0
  simp only[inR];omega
section
variable {G:Nat→Option Obj}
set_option maxRecDepth 100000 in
theorem ZZ{L:List Int}(hI:tC L):hO Tryz.prog G 28 (NW L):=by
 intro args p v hm hp h;unfold NW at hm
 split at hm;rotate_left;· cases hm
 rename_i x i m
 split at hm;rotate_left;· cases hm
 rename_i q hx;obtain⟨rfl,rfl⟩:=dB hm;clear hm;obtain⟨hL,hm0⟩:=hp;refine lW.args (args':=[aQ aU 1 L,iV i,iV m]) ?_ (.cons (rA hx hL) (.cons (.refl _) (.cons (.refl _) .nil)))
 refine oY Tryz.func28 (by kernel_rfl) rfl ?_ h
 refine dK.evA sO [] [] rfl (aPO L i m) ?_
 have bad:(i<0∨L.length≤i)→lO (V.c (C.p (PV.i .i64 0))) (iV (eL L i m)):=fun hi=>by
  unfold eL;rw[if_pos hi];exact lO.refl _
 have good:¬(i<0∨L.length≤i)→lO (iV (dP (L.getD i.toNat default) m)) (iV (eL L i m)):=fun hi=>by
  unfold eL;rw[if_neg hi];exact lO.refl _
 have hin:¬(i<0∨L.length≤i)→inR .i64 (L.getD i.toNat default):=fun hi=>hI _ (SQ (by omega))
 simp only[eV,aX,aL,gX,decide_eq_true_eq,decide_eq_false_iff_not]
 repeat' (first|apply And.intro|intro _)
 all_goals first|(clear bad good hin;omega)|exact⟨bad (by clear bad good hin;omega)⟩|exact⟨good (by clear bad good hin;omega)⟩|exact(hin (by clear bad good hin;omega)).1|exact(hin (by clear bad good hin;omega)).2
end
theorem kV(n:Int){m:Int}(hm:0<m):0≤dP n m∧dP n m<m:=⟨Int.emod_nonneg _ (by omega),Int.emod_lt_of_pos _ hm⟩
theorem fJ(L:List Int)(i:Int){m:Int}(hm:0<m):0≤eL L i m∧eL L i m<m:=by
 unfold eL;split
 ·omega
 ·exact kV _ hm
def mnZ(x y:Int):Int:=if y<x then y else x
def mxZ(x y:Int):Int:=if x<y then y else x
def aV3:ByteArray:=⟨#[99,112,117]⟩
def aUS:ByteArray:=⟨#[109,101,109]⟩
def aGG:ByteArray:=⟨#[104,111,115,116]⟩
def aPF:ByteArray:=⟨#[122,111,110,101]⟩
def XL(n:Int):List (ByteArray×ByteArray):=if dP n 4=1 then [(aGG,⟨#[97]⟩)] else if dP n 4=2 then [(aGG,⟨#[98]⟩)] else if dP n 4=3 then [(aGG,⟨#[98]⟩),(aPF,⟨#[120]⟩)] else []
def tV(k:Int):ByteArray:=if k=0 then aV3 else aUS
def mC(l:List Int):De:=⟨tV (eL l 3 2),XL (eL l 4 4),1,0,0,eL l 0 10-9,eL l 0 10-9+eL l 5 17,eL l 1 5-3,eL l 1 5-3+eL l 6 4,eL l 2 7,eL l 2 7+eL l 7 14,eL l 8 40⟩
def Sm(d:De):Prop:=(-100≤d.lo∧d.lo≤d.hi∧d.hi≤100)∧(-100≤d.dn∧d.dn≤d.up∧d.up≤100)∧0≤d.fi∧d.fi≤d.la∧d.la≤100
def jX(d:De)(l:List Int):Nat→Int
 |0=>d.lo+eL l 0 (d.hi-d.lo+1)
 |k+1=>jX d l k+d.dn+eL l ((k:Int)+1) (d.up-d.dn+1)
theorem tE{d:De}(l:List Int)(h:Sm d):∀k:Nat,-100-100*(k:Int)≤jX d l k∧jX d l k≤100+100*(k:Int)
 |0=>by
  obtain⟨h1,h2,h3⟩:=h
  have:=fJ l 0 (m:=d.hi-d.lo+1) (by omega)
  simp only[jX];omega
 |k+1=>by
  have ih:=tE l h k
  obtain⟨h1,h2,h3⟩:=h
  have:=fJ l ((k:Int)+1) (m:=d.up-d.dn+1) (by omega)
  simp only[jX];omega
def IL(d:De)(p v:Int):Int:=if v<d.lo then mxZ (p+d.dn) (mnZ d.lo (p+d.up)) else mxZ (mnZ (mnZ v d.hi) (p+d.up)) (p+d.dn)
def tZ(d:De)(l:List Int):Nat→Int
 |0=>jX d l 0
 |k+1=>IL d (tZ d l k) (tZ d l k+d.dn+eL l ((k:Int)+1) (d.up-d.dn+1))
theorem XO{d:De}(h:Sm d)(p v:Int):p+d.dn≤IL d p v∧IL d p v≤p+d.up:=by
 obtain⟨h1,h2,h3⟩:=h;unfold IL mxZ mnZ;split<;>(repeat' split)<;>omega
theorem wH{d:De}(l:List Int)(h:Sm d):∀k:Nat,-100-100*(k:Int)≤tZ d l k∧tZ d l k≤100+100*(k:Int)
 |0=>tE l h 0
 |k+1=>by
  have ih:=wH l h k
  have:=XO h (tZ d l k) (tZ d l k+d.dn+eL l ((k:Int)+1) (d.up-d.dn+1))
  obtain⟨h1,h2,h3⟩:=h;simp only[tZ];omega
def gZ(d:De):Nat:=(d.la-d.fi+1).toNat
def JD(d:De)(l:List Int):List Int:=(cS (gZ d)).map (jX d l)
def sM(d:De)(l:List Int):List Int:=(cS (gZ d)).map (tZ d l)
theorem qR(d:De)(l:List Int):(sM d l).length=gZ d:=by unfold sM;simp
theorem aG4(d:De)(l:List Int){k:Nat}(h:k<gZ d):(sM d l).getD k default=tZ d l k:=by
 unfold sM;rw[aD,cC,eE h];rfl
def Bd(V:List Int):Prop:=∀k,-20000≤V.getD k default∧V.getD k default≤20000
theorem OI{d:De}(l:List Int)(h:Sm d):Bd (sM d l):=fun k=>by
 rcases cA k (gZ d) with hk|hk
 ·rw[aG4 d l hk]
  have:=wH l h k
  have:k<(d.la-d.fi+1).toNat:=hk
  obtain⟨_,_,h1,h2,h3⟩:=h;omega
 ·rw[aD,bB (by rw[qR];exact hk)]
  show -20000≤(0:Int)∧(0:Int)≤20000
  omega
def SI(V:List Int)(f:Nat):Nat→Int
 |0=>V.getD f default
 |j+1=>mnZ (SI V f j) (V.getD (f+j) default)
def SP(V:List Int)(f:Nat):Nat→Int
 |0=>V.getD f default
 |j+1=>mxZ (SP V f j) (V.getD (f+j) default)
theorem OC{V:List Int}(h:Bd V)(f:Nat):∀j,-20000≤SI V f j∧SI V f j≤20000
 |0=>h f
 |j+1=>by
  have:=OC h f j
  have:=h (f+j)
  simp only[SI,mnZ];split<;>omega
theorem XW{V:List Int}(h:Bd V)(f:Nat):∀j,-20000≤SP V f j∧SP V f j≤20000
 |0=>h f
 |j+1=>by
  have:=XW h f j
  have:=h (f+j)
  simp only[SP,mxZ];split<;>omega
def HQ(V l:List Int)(i:Nat):Int:=dP (l.getD i default) V.length
def arG(V l:List Int)(i:Nat):Int:=mnZ ((V.length:Int)-1) (HQ V l i+dP (l.getD (i+1) default) 3)
def arM(l:List Int)(i:Nat):Int:=dP (l.getD (i+2) default) 16
def arN(V l:List Int)(i:Nat):Nat:=(arG V l i-HQ V l i+1).toNat
def rC(d:De)(V l:List Int)(i:Nat):Cl:=⟨d.fi+HQ V l i,d.fi+arG V l i,SI V (HQ V l i).toNat (arN V l i)-arM l i / 4,SP V (HQ V l i).toNat (arN V l i)+arM l i%4⟩
def lF(d:De)(V l:List Int)(n:Nat):List Cl:=(cS n).map fun j=>rC d V l (3*j)
theorem aDK(d:De)(V l:List Int)(n:Nat):lF d V l (n+1)=lF d V l n++[rC d V l (3*n)]:=by unfold lF;rw[iF,dT];rfl
theorem AV(d:De)(V l:List Int)(n:Nat):(lF d V l n).length=n:=by unfold lF;simp
def yG(l:List Int)(most:Nat):Nat:=min (l.length / 3) most
def vL:ByteArray:=⟨#[118,105,101,119]⟩
def lE(l:List Int)(at_:Int)(n:Nat):List Int:=(cS n).map fun k:Nat=>tB vL (l.take 8++[at_,(k:Int)])%1000003
theorem sK(l:List Int)(at_:Int)(n:Nat):(lE l at_ n).length=n:=by unfold lE;simp
theorem SG(l:List Int)(at_:Int)(n k:Nat):0≤(lE l at_ n).getD k default∧(lE l at_ n).getD k default≤1000002:=by
 rcases cA k n with h|h
 ·unfold lE
  rw[aD,cC,eE h]
  show 0≤tB _ _%1000003∧tB _ _%1000003≤1000002
  omega
 ·rw[aD,bB (by rw[sK];exact h)]
  show (0:Int)≤0∧(0:Int)≤1000002
  omega
theorem aKO{L:List Int}(h:∀k,0≤L.getD k default∧L.getD k default≤1000002):tC L:=fun x hx=>by
 obtain⟨k,hk,rfl⟩:=List.getElem_of_mem hx
 have:=h k
 rw[aD,aH hk]at this
 have:0≤L[k]∧L[k]≤1000002:=this
 simp only[inR];omega
def aML(l:List Int)(i:Nat):Int:=eL l 0 8+3*(i:Int)
def CX(b:Int)(m:List Int):De:={ mC (m.take 9) with nm:=tV (b%2),L:=XL (b%8 / 2),dn:=mnZ (mC (m.take 9)).dn 0,up:=mxZ (mC (m.take 9)).up 0,fi:=m.getD 9 default%4,la:=9+m.getD 10 default%4 }
def aEH(b:Int)(m:List Int):Se:=⟨CX b m,lF (CX b m) (sM (CX b m) ((m.drop 11).take 14)) ((m.drop 25).take (3*(m.getD 40 default%5)).toNat) (m.getD 40 default%5).toNat⟩
def seZ(l:List Int)(i:Nat):Se:=aEH (aML l i) (lE l i 48)
def nA(l:List Int):Nat:=(eL l 1 4).toNat+1
def jT(l:List Int)(n:Nat):List Se:=(cS n).map (seZ l)
theorem UX(l:List Int)(n:Nat):jT l (n+1)=jT l n++[seZ l n]:=by unfold jT;rw[iF,dT];rfl
theorem rY(l:List Int)(n:Nat):(jT l n).length=n:=by unfold jT;simp
theorem TP(l:List Int):(-9≤(mC l).lo∧(mC l).lo≤0∧(mC l).lo≤(mC l).hi∧(mC l).hi≤16)∧(-3≤(mC l).dn∧(mC l).dn≤(mC l).up∧(mC l).up≤4)∧0≤(mC l).bu∧(mC l).bu≤39:=by
 have p0:=fJ l 0 (m:=10) (by omega)
 have p5:=fJ l 5 (m:=17) (by omega)
 have p1:=fJ l 1 (m:=5) (by omega)
 have p6:=fJ l 6 (m:=4) (by omega)
 have p8:=fJ l 8 (m:=40) (by omega)
 simp only[mC];omega
theorem yP(b:Int)(m:List Int):Sm (CX b m):=by
 have h:=TP (m.take 9)
 unfold Sm CX mnZ mxZ;dsimp only;refine⟨by omega,⟨?_,?_,?_⟩,by omega,by omega,by omega⟩
 ·split<;>omega
 ·split<;>split<;>omega
 ·split<;>omega
structure aR9 (s:Se):Prop where
 nm:s.d.nm.size≤16
 Ll:s.d.L.length≤2
 L:∀x∈s.d.L,x.1.size≤16∧x.2.size≤16
 d:∀x∈PO s.d,inR .i64 x
 Cl:s.C.length≤4
 C:∀c∈s.C,inR .i64 c.fr∧inR .i64 c.to∧inR .i64 c.lo∧inR .i64 c.hi
theorem aFY(n:Int):(XL n).length≤2∧∀x∈XL n,x.1.size≤16∧x.2.size≤16:=by
 unfold XL;split
 ·refine⟨by decide,fun x hx=>?_⟩
  simp only[fF]at hx;subst hx;decide
 ·split
  ·refine⟨by decide,fun x hx=>?_⟩
   simp only[fF]at hx;subst hx;decide
  ·split
   ·refine⟨by decide,fun x hx=>?_⟩
    simp only[cR,fF,List.not_mem_nil,or_false]at hx
    rcases hx with rfl|rfl<;>decide
   ·exact⟨by decide,fun x hx=>by cases hx⟩
theorem aFI(k:Int):(tV k).size≤16:=by unfold tV;split<;>decide
theorem aHN{d:De}(h:Sm d){V:List Int}(hV:Bd V)(hl:0<V.length)(hl2:V.length≤101)(l:List Int)(i:Nat) :
  (0≤HQ V l i∧HQ V l i<V.length)∧(HQ V l i≤arG V l i∧arG V l i<V.length)∧0≤arM l i∧arM l i<16:=by
 have p1:=kV (l.getD i default) (m:=V.length) (by omega)
 have p2:=kV (l.getD (i+1) default) (m:=3) (by omega)
 have p3:=kV (l.getD (i+2) default) (m:=16) (by omega)
 refine⟨p1,?_,p3⟩
 have p1':0≤HQ V l i∧HQ V l i<V.length:=p1
 unfold arG mnZ;split<;>omega
theorem aD2{d:De}(h:Sm d){V:List Int}(hV:Bd V)(hl:0<V.length)(hl2:V.length≤101)(l:List Int)(i:Nat):inR .i64 (rC d V l i).fr∧inR .i64 (rC d V l i).to∧inR .i64 (rC d V l i).lo∧inR .i64 (rC d V l i).hi:=by
 obtain⟨a,b,c⟩:=aHN h hV hl hl2 l i
 have e1:=OC hV (HQ V l i).toNat (arN V l i)
 have e2:=XW hV (HQ V l i).toNat (arN V l i)
 obtain⟨_,_,h1,h2,h3⟩:=h;simp only[rC,inR];omega
theorem aIJ(b:Int)(m:List Int):aR9 (aEH b m):=by
 have hs:=yP b m
 have hd:=TP (m.take 9)
 have hb:(CX b m).bu=(mC (m.take 9)).bu:=rfl
 refine⟨aFI _,(aFY _).1,(aFY _).2,fun x hx=>?_,?_,fun c hc=>?_⟩
 ·obtain⟨h1,h2,h3⟩:=hs
  have hx:x∈PO (CX b m):=hx
  simp only[PO,cR,List.not_mem_nil,or_false]at hx
  have u0:(CX b m).u0=1:=rfl
  have u1:(CX b m).u1=0:=rfl
  have u2:(CX b m).u2=0:=rfl
  simp only[inR]
  rcases hx with rfl|rfl|rfl|rfl|rfl|rfl|rfl|rfl|rfl|rfl<;>omega
 ·show (lF _ _ _ _).length≤4
  rw[AV];omega
 ·have hc:c∈lF _ _ _ _:=hc
  unfold lF at hc;obtain⟨j,_,rfl⟩:=List.mem_map.1 hc
  have hl:(sM (CX b m) ((m.drop 11).take 14)).length=gZ (CX b m):=qR _ _
  have hsp:gZ (CX b m)=((CX b m).la-(CX b m).fi+1).toNat:=rfl
  have hs2:=hs
  obtain⟨_,_,h1,h2,h3⟩:=hs2;exact aD2 hs (OI _ hs) (by omega) (by omega) _ _
theorem aE4(l:List Int)(n:Nat):∀s∈jT l n,aR9 s:=fun s hs=>by
 unfold jT at hs;obtain⟨j,_,rfl⟩:=List.mem_map.1 hs;exact aIJ _ _
def WY(B:List UInt8):sT:=fun args h=>match args with
 |[.c (.ptr j 0)]=>match OG B (wU h j) h with
  |some (q,r)=>some (q∧B.length≤140737488355328,aQ cT 1 B,lP [wU h j,r] [wU h j] [1] h (rV B 0))
  |none=>none
 |_=>none
def aGX(B:List UInt8)(m:Int):Ext:=rT [(58,aFO B m)]
def aM3(B:List UInt8)(m:ByteArray):Ext:=rT [(56,WX B m)]
def aM4(B:List UInt8):Ext:=rT [(61,WY B)]
def xD:PV→List UInt8
 |.s s=>kX s
 |.i _ n=>rO n
 |_=>[]
def kS(x:PV):Prop:=∃s,x=.s s∧s.size≤140737488355328
def kI(x:PV):Prop:=∃n,x=.i .i64 n∧inR .i64 n
def mCl(K:PV→Prop)(B:List UInt8)(x:PV):sT:=fun args h=>match args with
 |[.c (.lp sz n f e o),.c (.ptr j 0)]=>match OG B (wU h j) h with
  |some (q,r)=>some (q∧o<sz∧f e o=x∧K x∧(B++xD x).length≤140737488355328,.t [],lP [wU h j,r] [wU h j] [1] h (rV (B++xD x) 0))
  |none=>none
 |_=>none
theorem tC1(s:ByteArray)(b:Nat)(B:List UInt8):dI (aM3 B s) (dW Tryz.prog Tryz.f55) (oU Tryz.f55 [0,1] [0] [b] [.c (VT (.s s)),.c (.ptr 0 0)] (PQ B)) (oZ [1] (iU 9 [1]) (bU Tryz.prog Tryz.f55))=Tr.rq
 ((B.length=B.length∧B.length=B.length∧∀(e o:Nat),e<B.length→o<1→cI [0,1] (aR cT B e o)=aR cT B e o) ∧
 s=s∧s.size≤140737488355328∧(B++kX s).length≤140737488355328)
 (.done .normal
 (cQ 7 [(1,.c (.ptr 0 0))] [.pin 1 b,.cells 117 [.sl 2 1 0 (B++kX s).length],.row 5 1 (B++kX s).length fun e o=>cI [2,0,5] (C.p (PV.i cM (↑((B++kX s).getD e default).toNat:Int)))])):=by kernel_rfl
theorem tC2(n:Int)(b:Nat)(B:List UInt8):dI (aGX B n) (dW Tryz.prog Tryz.f60) (oU Tryz.f60 [0,1] [0] [b] [.c (VT (.i .i64 n)),.c (.ptr 0 0)] (PQ B)) (oZ [1] (iU 9 [1]) (bU Tryz.prog Tryz.f60))=Tr.rq
 ((B.length=B.length∧B.length=B.length∧∀(e o:Nat),e<B.length→o<1→cI [0,1] (aR cT B e o)=aR cT B e o) ∧
 n=n∧inR aC n∧(B++rO n).length≤140737488355328)
 (.done .normal
 (cQ 7 [(1,.c (.ptr 0 0))] [.pin 1 b,.cells 117 [.sl 2 1 0 (B++rO n).length],.row 5 1 (B++rO n).length fun e o=>cI [2,0,5] (C.p (PV.i cM (↑((B++rO n).getD e default).toNat:Int)))])):=by kernel_rfl
section
variable {G:Nat→Option Obj}
theorem aE0{P:Program}{f:FuncId}{q off:Nat}{x:V}{h:List AO}{K:V→List AO→Prop}(hf:lW P G f [x,.c (.ptr (wU h q) off)] h K):lW P G f [x,.c (.ptr q off)] h K:=by
 unfold wU at hf;split at hf
 ·rename_i j b0 hq
  intro β R w vs ha hh;refine hf β R w vs ?_ hh
  generalize vs.toList=us at ha
  obtain⟨u,us1,rfl,h1,ha⟩:=All2.nth2 ha;obtain⟨u2,us2,rfl,h2,ha⟩:=All2.nth2 ha;obtain rfl:=All2.nil2 ha;obtain⟨b,o,e1,e2⟩:=h2
  have hob:=hh.obj q b o e1
  rw[hq]at hob;obtain⟨e3,o2,e4⟩:=hob;subst e3;exact⟨h1,⟨_,o2,e4,e2⟩,trivial⟩
 ·exact hf
set_option maxRecDepth 100000 in
theorem UV{f:FuncId}{fn:Func}(hf:(Tryz.prog).funcs[f]?=some fn)(hok:okF Tryz.prog fn=true){args args0 vs sl:List V}{ps:List Nat}{B B':List UInt8}{h:List AO}{j r:Nat}{g:Nat→Nat→C}(hj:aZ .gone h j=.cells 117 [.sl r 1 0 B.length])(hr:aZ .gone h r=.row 5 1 B.length g)(hg:∀e o,e<B.length→o<1→g e o=aR cT B e o)
  (hargs:qB [j,r] [j] 2 args=qB [0,1] [0] 2 args0) (hlen:args.length=args0.length) (hocc:∃v∈args,WN j v) (hps:sl.length=ps.length) (hsl:∃v∈sl,WN 0 v)
  (H:∀b,jP Tryz.prog G (Zm ps (bU Tryz.prog fn) fun s=>cL G s ⟨sl++vs,rV B' b⟩) (dW Tryz.prog fn) (oU fn [0,1] [0] [b] args0 (PQ B)) fun e s=>e=.normal∧Zm ps (bU Tryz.prog fn) (fun s=>cL G s ⟨sl++vs,rV B' b⟩) s):lW Tryz.prog G f args h fun x h'=>x=aC5 (DO [1] [j] h.length vs)∧h'=lP [j,r] [j] [1] h (rV B' 0):=by
 have n1:j≠r:=by rintro rfl;rw[hj]at hr;cases hr
 have hlr:r<h.length:=iM hr (by simp)
 refine CF (h':=upd (.row 5 1 B.length (aR cT B)) h r) (fun β R w hh=>GE hh hr hg) (by rw[fS,cD]) ?_
 have hj':aZ .gone (upd (.row 5 1 B.length (aR cT B)) h r) j=.cells 117 [.sl r 1 0 B.length]:=by rw[dC _ _ _ (Ne.symm n1)];exact hj
 have hr':aZ .gone (upd (.row 5 1 B.length (aR cT B)) h r) r=.row 5 1 B.length (aR cT B):=eO _ _ _ hlr
 have hout:=aDY (ρ:=[j,r]) (ids:=[j]) (js:=[1]) (h:=h) (hE:=rV B' 0) (r:=r) (.row 5 1 B.length (aR cT B)) (by
  show (match aT j r with
   |true=>some 1
   |false=>xV [] [] r)=none
  rw[nL n1];rfl) (by
  show (aT j r||(aT r r||_))=true
  rw[qE];simp)
 have hlen2:(upd (.row 5 1 B.length (aR cT B)) h r).length=h.length:=by rw[fS,cD]
 rw[←hout,←hlen2]
 generalize upd (.row 5 1 B.length (aR cT B)) h r=h0 at hj' hr' ⊢
 clear hj hr hg hout hlen2 hlr
 refine fun β R w us hw hh=>(OU (ρ:=[j,r]) (ids:=[j]) (ps:=ps) (pns:=[0]) (js:=[1]) (sl:=sl) (vs:=vs) (hE:=fun bs=>rV B' (aZ 0 bs 0)) hf hok ?_ ?_ (by simp) (fun id hid=>by obtain rfl:=fF.1 hid;exact hocc) rfl hps rfl (fun i pn h=>?_) (fun bs hb i pn j b h1 h2 h3=>?_) (fun bs hb=>?_) β R w us hw hh).mono ?_
 ·simp[oR,oV,nL n1,nL (Ne.symm n1)]
 ·simp[qM,hj',hr',AO.live]
 ·cases i with
  |zero=>obtain rfl:0=pn:=by simpa using h
         exact hsl
  |succ i=>simp at h
 ·cases i with
  |zero=>
   obtain rfl:0=pn:=by simpa using h1
   obtain rfl:1=j:=by simpa using h2
   cases bs with
   |nil=>simp at hb
   |cons b0 bs=>
    obtain rfl:b0=b:=by simpa using h3
    exact⟨rfl,rfl⟩
  |succ i=>simp at h1
 ·obtain⟨bb,rfl⟩:∃b,bs=[b]:=by
    cases bs with
    |nil=>simp at hb
    |cons b0 bs=>cases bs with
     |nil=>exact⟨b0,rfl⟩
     |cons _ _=>simp at hb
  have i1:iN j [j,r] 0=some 0:=by simp only[iN,qE]
  have i2:iN r [j,r] 0=some 1:=by simp only[iN,qE,nL n1]
  have e:oU fn [j,r] [j] [bb] args h0=oU fn [0,1] [0] [bb] args0 (PQ B):=by
   unfold oU inH
   have e1:qB [j,r] [j] ([j,r]:List Nat).length args=qB [0,1] [0] ([0,1]:List Nat).length args0:=hargs
   have e2:mB [j,r] h0 [j,r]=mB [0,1] (PQ B) [0,1]:=by
    simp only[mB,hj',hr',QL,tN,cI,i2,aIO];rfl
   have e3:vG [j,r] [j] [bb]=vG [0,1] [0] [bb]:=by
    simp only[vG,i1];rfl
   rw[e1,e2,e3,hlen]
  rw[e];exact H bb
 ·rintro e w' ⟨u,β',R',x,h',rfl,⟨bs,hb,hx,hh'⟩,hr⟩
  exact⟨u,β',R',x,h',rfl,⟨hx,hh'.trans (aE1 _ _ _ rfl rfl rfl rfl)⟩,hr⟩
theorem AN(B:List UInt8)(m:Int):cF Tryz.prog G (aGX B m):=iX (by simp;exact aNJ B m)
theorem SW(B:List UInt8)(m:ByteArray):cF Tryz.prog G (aM3 B m):=iX (by simp;exact aJF B m)
set_option maxRecDepth 100000 in
theorem aD1(B:List UInt8)(hB:B.length≤140737488355328)(b:Nat)(Q:X→St→Prop):jP Tryz.prog G (Zm [0] (bU Tryz.prog Tryz.f61) fun s=>cL G s ⟨[.c (.ptr 0 0)]++[aQ cT 1 B],rV B b⟩) (dW Tryz.prog Tryz.f61) (oU Tryz.f61 [0,1] [0] [b] [.c (.ptr 0 0)] (PQ B)) Q:=by
 refine jP.evG (TF B) 2 (aRZ b B) ?_;simp only[aX,aL,jC,Nat.zero_add];refine⟨⟨aJ _,fun _ _ _ _=>rfl⟩,⟨⟨⟨trivial,fun _ _ _ _=>rfl⟩,hB⟩,trivial,fun _ _ _ _=>rfl⟩,⟨?_⟩⟩
 refine jP.pre ((aDX (j:=2) (id:=1) (ty:=5) (sz:=1) (n:=B.length) (off:=0) (len:=B.length) (f:=aR cT B) (by kernel_rfl) (by kernel_rfl) (by omega) (fun _ _ _ _=>rfl)).trans ((iT (iU 8 [0,2]) _).trans (aP (st':=cQ 8 [(0,.c (.ptr 0 0)),(2,aQ cT 1 B)] [.pin 1 b,.cells 117 [.sl 2 1 0 B.length],.row 5 1 B.length (aR cT B)]) (by kernel_rfl)))) ?_
 refine jP.evH aV (aPM b B) ?_;simp only[aL,aG0]
 exact⟨aP (by kernel_rfl)⟩
set_option maxRecDepth 100000 in
theorem aJG(B:List UInt8):lV Tryz.prog G 61 (WY B):=by
 intro args h p v h' hm hp;unfold WY at hm
 split at hm;rotate_left;· cases hm
 split at hm;rotate_left;· cases hm
 rename_i j _ q r hw;obtain⟨rfl,rfl,rfl⟩:=mZ hm;obtain⟨hq,hB⟩:=hp;obtain⟨g,k1,k2,k3⟩:=oX hw hq
 exact ZC (YY (args:=[]) (vs:=[aQ cT 1 B]) Tryz.func61 (by kernel_rfl) k1 k2 k3 rfl fun b=>aD1 B hB b _)
theorem SX(B:List UInt8):cF Tryz.prog G (aM4 B):=iX (by simp;exact aJG B)
theorem aG8(j r:Nat)(x:PV):qB [j,r] [j] 2 [.c (VT x),.c (.ptr j 0)]=qB [0,1] [0] 2 [.c (VT x),.c (.ptr 0 0)]:=by
 simp only[qB,OJ,PN,iN,qE];rfl
set_option maxRecDepth 100000 in
theorem aQ3(B:List UInt8)(x:PV):lV Tryz.prog G 55 (mCl kS B x):=by
 intro args h p v h' hm hp;unfold mCl at hm
 split at hm;rotate_left;· cases hm
 split at hm;rotate_left;· cases hm
 rename_i sz n f e o j _ q r hw;obtain⟨rfl,rfl,rfl⟩:=mZ hm;obtain⟨hq,ho,hx,⟨s,rfl,hs⟩,hB⟩:=hp;obtain⟨g,k1,k2,k3⟩:=oX hw hq;refine lW.args (args':=[.c (VT (.s s)),.c (.ptr j 0)]) (aE0 ?_) (.cons (fun β R w u h=>XJ (β:=β) ho (nM.of_eq hx) h) (.cons (.refl _) .nil))
 refine UV (args0:=[.c (VT (.s s)),.c (.ptr 0 0)]) (vs:=[]) (sl:=[.c (.ptr 0 0)]) (ps:=[1]) Tryz.func55 (by kernel_rfl) k1 k2 k3 (aG8 _ _ _) rfl ⟨_,bL _ (bH ..),rfl⟩ rfl ⟨_,bH ..,rfl⟩ fun b=>?_
 refine jP.evH (SW B s) (tC1 s b B) ?_;simp only[aX,aL,jC]
 exact⟨⟨⟨trivial,trivial,fun _ _ _ _=>rfl⟩,trivial,hs,hB⟩,⟨trivial,[],rfl,aP (by kernel_rfl)⟩⟩
set_option maxRecDepth 100000 in
theorem aQ2(B:List UInt8)(x:PV):lV Tryz.prog G 60 (mCl kI B x):=by
 intro args h p v h' hm hp;unfold mCl at hm
 split at hm;rotate_left;· cases hm
 split at hm;rotate_left;· cases hm
 rename_i sz n f e o j _ q r hw;obtain⟨rfl,rfl,rfl⟩:=mZ hm;obtain⟨hq,ho,hx,⟨m,rfl,hmr⟩,hB⟩:=hp;obtain⟨g,k1,k2,k3⟩:=oX hw hq;refine lW.args (args':=[.c (VT (.i .i64 m)),.c (.ptr j 0)]) (aE0 ?_) (.cons (fun β R w u h=>XJ (β:=β) ho (nM.of_eq hx) h) (.cons (.refl _) .nil))
 refine UV (args0:=[.c (VT (.i .i64 m)),.c (.ptr 0 0)]) (vs:=[]) (sl:=[.c (.ptr 0 0)]) (ps:=[1]) Tryz.func60 (by kernel_rfl) k1 k2 k3 (aG8 _ _ _) rfl ⟨_,bL _ (bH ..),rfl⟩ rfl ⟨_,bH ..,rfl⟩ fun b=>?_
 refine jP.evH (AN B m) (tC2 m b B) ?_;simp only[aX,aL,jC]
 exact⟨⟨⟨trivial,trivial,fun _ _ _ _=>rfl⟩,trivial,hmr,hB⟩,⟨trivial,[],rfl,aP (by kernel_rfl)⟩⟩
end
def lK:List PV→List UInt8
 |[]=>[]
 |x::r=>xD x++lK r
theorem tQ:∀X Y:List PV,lK (X++Y)=lK X++lK Y
 |[],_=>rfl
 |x::X,Y=>by
  show xD x++lK (X++Y)=(xD x++lK X)++lK Y
  rw[tQ X Y,eN]
def IA(S:List PV):Nat→Nat→C:=fun e _=>VT (aZ (.b true) S e)
def aO6:C→Option PV
 |.lp sz n f e o=>match Nat.blt o sz with
  |true=>some (f e o)
  |false=>none
 |_=>none
def aAQ(S:List PV)(g:Nat→Nat→C):Prop:=∀e,e<S.length→aO6 (g e 0)=some (aZ (.b true) S e)
def oJ(cf j:Nat):V:=.c (.fn (.func cf) [] [.ptr j 0])
def aAW(fn:Func)(cf n b:Nat)(B:List UInt8)(tyF:TypeId)(g:Nat→Nat→C):St:=⟨[oJ cf 3,.c (.sl 2 1 0 n)]++List.replicate (fn.ntmps-2) (.t []),[.cells 117 [.sl 1 1 0 B.length],.row 5 1 B.length (aR cT B),.row tyF 1 n g,.pin 0 b]⟩
def KP(cf:FuncId)(tyF:TypeId)(K:PV→Prop)(B:List UInt8)(S:List PV):sT:=fun args h=>match args with
 |[.c (.fn (.func g) [] [.ptr q 0]),.c (.sl fr 1 0 n)]=>match aT g cf,OG B (wU h q) h,aZ .gone h fr with
  |true,some (p,r),.row ty 1 n' gF=>some (p∧n=S.length∧n'=S.length∧ty=tyF∧aAQ S gF∧(∀x∈S,K x)∧S.length≤1000∧(B++lK S).length≤140737488355328,.t [],lP [wU h q,r,fr] [wU h q] [1] h (rV (B++lK S) 0))
  |_,_,_=>none
 |_=>none
noncomputable def aBZ:Array Oper:=ML (aZ .skip (iI (inr (aZ .skip (jM (dW Tryz.prog Tryz.f57) 1) 2))) 1)
noncomputable def aR5:List AI:=(gB Tryz.prog aBZ (aBZ.toList.take 2)).getD []
noncomputable def aR2:List AI:=(gB Tryz.prog aBZ (aBZ.toList.drop 3)).getD []
def aAT(B:List UInt8)(x:PV):Ext:=rT [(55,mCl kS B x)]
theorem aTQ(b n:Nat)(B:List UInt8)(S:List PV):dI fR (dN 1 (dW Tryz.prog Tryz.f57)) (aAW Tryz.f57 55 n b B 118 (IA S)) (oZ [0] (iU 16 [0,6,7,8]) (bU Tryz.prog Tryz.f57))=Tr.done X.normal
 (cQ 16 [(0,.c (.fn (Fn.func 55) [] [AE.B.ptr 0 0])),(6,.c (.sl 1 1 0 n)),(7,.c (.p (.i .i64 (↑n:Int)))),(8,.c (.p (.i .i64 0)))] [.pin 2 b,.row 118 1 n fun e o=>cI [3,2,0,1] (C.lp 1 1 (fun x x_1=>aZ (PV.b true) S e) 0 0),.cells 117 [.sl 3 1 0 B.length],.row 5 1 B.length fun e o=>cI [3,2,0,1] (aR cT B e o)]):=by kernel_rfl
theorem aTO(b k n i:Nat)(B:List UInt8)(S:List PV):dI fR (dN 2 (jM (dW Tryz.prog Tryz.f57) 1)) (cQ 16 [(0,oJ 55 0),(6,.c (.sl 1 1 0 n)),(7,iV (n:Nat)),(8,iV (i:Nat))] [.pin 2 b,.row 118 1 n (IA S),.cells 117 [.sl 3 1 0 k],.row 5 1 k (aR cT B)]) (oZ [0] (iU 16 [0,6,7,8]) (bU Tryz.prog Tryz.f57))=bT (decide ((↑i:Int)<(↑n:Int)))
 (.done .normal
 (cQ 16 [(0,.c (.fn (Fn.func 55) [] [AE.B.ptr 0 0])),(6,.c (.sl 1 1 0 n)),(7,.c (.p (.i .i64 (↑n:Int)))),(8,.c (.p (.i .i64 (↑i:Int))))] [.pin 2 b,.row 118 1 n fun e o=>cI [0,1,2,3] (C.lp 1 1 (fun x x_1=>aZ (PV.b true) S e) 0 0),.cells 117 [.sl 3 1 0 k],.row 5 1 k fun e o=>cI [0,1,2,3] (aR cT B e o)]))
 (.done (.exit 0)
 (cQ 16 [(0,.c (.fn (Fn.func 55) [] [AE.B.ptr 0 0])),(6,.c (.sl 1 1 0 n)),(7,.c (.p (.i .i64 (↑n:Int)))),(8,.c (.p (.i .i64 (↑i:Int))))] [.pin 2 b,.row 118 1 n fun e o=>cI [0,1,2,3] (C.lp 1 1 (fun x x_1=>aZ (PV.b true) S e) 0 0),.cells 117 [.sl 3 1 0 k],.row 5 1 k fun e o=>cI [0,1,2,3] (aR cT B e o)])):=by kernel_rfl
theorem aTM(b k n i:Nat)(B:List UInt8)(S:List PV):dI fR (dN 1 (iI (inr (aZ .skip (jM (dW Tryz.prog Tryz.f57) 1) 2)))) (cQ 16 [(0,oJ 55 0),(6,.c (.sl 1 1 0 n)),(7,iV (n:Nat)),(8,iV (i:Nat))] [.pin 2 b,.row 118 1 n (IA S),.cells 117 [.sl 3 1 0 k],.row 5 1 k (aR cT B)]) (oZ [0] (iU 16 [0,5,6,7,8]) (bU Tryz.prog Tryz.f57))=Tr.rq (0≤(↑i:Int)∧(↑i:Int)<(↑n:Int))
 (.rq ((↑i:Int).toNat+0<n)
 (.done .normal
 (cQ 16 [(0,.c (.fn (Fn.func 55) [] [AE.B.ptr 0 0])),(5,.c (.lp 1 1 (fun x x_1=>aZ (PV.b true) S ((↑i:Int).toNat+0)) 0 0)),(6,.c (.sl 1 1 0 n)),(7,.c (.p (.i .i64 (↑n:Int)))),(8,.c (.p (.i .i64 (↑i:Int))))] [.pin 2 b,.row 118 1 n fun e o=>cI [0,1,2,3] (C.lp 1 1 (fun x x_1=>aZ (PV.b true) S e) 0 0),.cells 117 [.sl 3 1 0 k],.row 5 1 k fun e o=>cI [0,1,2,3] (aR cT B e o)]))):=by kernel_rfl
theorem aTK(b k n i:Nat)(B:List UInt8)(S:List PV):kG (aAT B (aZ (.b true) S i)) aR5 (cQ 16 [(0,oJ 55 0),(5,.c (VT (aZ (.b true) S i))),(6,.c (.sl 1 1 0 n)),(7,iV (n:Nat)),(8,iV (i:Nat))] [.pin 2 b,.row 118 1 n (IA S),.cells 117 [.sl 3 1 0 k],.row 5 1 k (aR cT B)]) (fun st=>MJ Tryz.prog (aAT B (aZ (.b true) S i)) (.t 12) [.t 13] st fun v h=>kG (aAT B (aZ (.b true) S i)) aR2 ⟨mL st.t (some 14) v,h⟩ fun s'=>.done .normal (gcS (iU 16 [0,6,7,8]) s'))=Tr.rq
  ((k=B.length∧k=B.length∧∀(e o:Nat),e<B.length→o<1→aR cT B e o=aR cT B e o) ∧
    0<1∧aZ (PV.b true) S i=aZ (PV.b true) S i∧kS (aZ (PV.b true) S i)∧(B++xD (aZ (PV.b true) S i)).length≤140737488355328)
  (Tr.done X.normal
   (cQ 16 [(0,V.c (C.fn (Fn.func 55) [] [AE.B.ptr 0 0])),(6,V.c (C.sl 1 1 0 n)),(7,V.c (C.p (PV.i aC (↑n:Int)))),(8,V.c (C.p (PV.i aC (↑i:Int))))] [AO.pin 2 b,AO.row 118 1 n fun e o=>cI [0,1,2,6] (C.lp 1 1 (fun x x_1=>aZ (PV.b true) S e) 0 0),AO.cells 117 [C.sl 3 1 0 (B++xD (aZ (PV.b true) S i)).length],AO.row 5 1 (B++xD (aZ (PV.b true) S i)).length fun e o=>cI [0,1,2,6] (C.p (PV.i cM (↑((B++xD (aZ (PV.b true) S i)).getD e default).toNat:Int)))])):=by kernel_rfl
theorem aTI(b k n i:Nat)(B:List UInt8)(S:List PV):dI fR (bZ 3 (jM (dW Tryz.prog Tryz.f57) 1)) (cQ 16 [(0,oJ 55 0),(6,.c (.sl 1 1 0 n)),(7,iV (n:Nat)),(8,iV (i:Nat))] [.pin 2 b,.row 118 1 n (IA S),.cells 117 [.sl 3 1 0 k],.row 5 1 k (aR cT B)]) (oZ [0] (iU 16 [0,6,7,8]) (bU Tryz.prog Tryz.f57))=Tr.rq (inR aC ((↑i:Int)+1))
 (.done .normal
 (cQ 16 [(0,.c (.fn (Fn.func 55) [] [AE.B.ptr 0 0])),(6,.c (.sl 1 1 0 n)),(7,.c (.p (.i .i64 (↑n:Int)))),(8,.c (.p (.i .i64 ((↑i:Int)+1))))] [.pin 2 b,.row 118 1 n fun e o=>cI [0,1,2,3] (C.lp 1 1 (fun x x_1=>aZ (PV.b true) S e) 0 0),.cells 117 [.sl 3 1 0 k],.row 5 1 k fun e o=>cI [0,1,2,3] (aR cT B e o)])):=by kernel_rfl
noncomputable def aC0:Array Oper:=ML (aZ .skip (iI (inr (aZ .skip (jM (dW Tryz.prog Tryz.f78) 1) 2))) 1)
noncomputable def aR6:List AI:=(gB Tryz.prog aC0 (aC0.toList.take 2)).getD []
noncomputable def aR3:List AI:=(gB Tryz.prog aC0 (aC0.toList.drop 3)).getD []
def aAU(B:List UInt8)(x:PV):Ext:=rT [(60,mCl kI B x)]
theorem aTR(b n:Nat)(B:List UInt8)(S:List PV):dI fR (dN 1 (dW Tryz.prog Tryz.f78)) (aAW Tryz.f78 60 n b B 125 (IA S)) (oZ [0] (iU 16 [0,6,7,8]) (bU Tryz.prog Tryz.f78))=Tr.done X.normal
 (cQ 16 [(0,.c (.fn (Fn.func 60) [] [AE.B.ptr 0 0])),(6,.c (.sl 1 1 0 n)),(7,.c (.p (.i .i64 (↑n:Int)))),(8,.c (.p (.i .i64 0)))] [.pin 2 b,.row 125 1 n fun e o=>cI [3,2,0,1] (C.lp 1 1 (fun x x_1=>aZ (PV.b true) S e) 0 0),.cells 117 [.sl 3 1 0 B.length],.row 5 1 B.length fun e o=>cI [3,2,0,1] (aR cT B e o)]):=by kernel_rfl
theorem aTP(b k n i:Nat)(B:List UInt8)(S:List PV):dI fR (dN 2 (jM (dW Tryz.prog Tryz.f78) 1)) (cQ 16 [(0,oJ 60 0),(6,.c (.sl 1 1 0 n)),(7,iV (n:Nat)),(8,iV (i:Nat))] [.pin 2 b,.row 125 1 n (IA S),.cells 117 [.sl 3 1 0 k],.row 5 1 k (aR cT B)]) (oZ [0] (iU 16 [0,6,7,8]) (bU Tryz.prog Tryz.f78))=bT (decide ((↑i:Int)<(↑n:Int)))
 (.done .normal
 (cQ 16 [(0,.c (.fn (Fn.func 60) [] [AE.B.ptr 0 0])),(6,.c (.sl 1 1 0 n)),(7,.c (.p (.i .i64 (↑n:Int)))),(8,.c (.p (.i .i64 (↑i:Int))))] [.pin 2 b,.row 125 1 n fun e o=>cI [0,1,2,3] (C.lp 1 1 (fun x x_1=>aZ (PV.b true) S e) 0 0),.cells 117 [.sl 3 1 0 k],.row 5 1 k fun e o=>cI [0,1,2,3] (aR cT B e o)]))
 (.done (.exit 0)
 (cQ 16 [(0,.c (.fn (Fn.func 60) [] [AE.B.ptr 0 0])),(6,.c (.sl 1 1 0 n)),(7,.c (.p (.i .i64 (↑n:Int)))),(8,.c (.p (.i .i64 (↑i:Int))))] [.pin 2 b,.row 125 1 n fun e o=>cI [0,1,2,3] (C.lp 1 1 (fun x x_1=>aZ (PV.b true) S e) 0 0),.cells 117 [.sl 3 1 0 k],.row 5 1 k fun e o=>cI [0,1,2,3] (aR cT B e o)])):=by kernel_rfl
theorem aTN(b k n i:Nat)(B:List UInt8)(S:List PV):dI fR (dN 1 (iI (inr (aZ .skip (jM (dW Tryz.prog Tryz.f78) 1) 2)))) (cQ 16 [(0,oJ 60 0),(6,.c (.sl 1 1 0 n)),(7,iV (n:Nat)),(8,iV (i:Nat))] [.pin 2 b,.row 125 1 n (IA S),.cells 117 [.sl 3 1 0 k],.row 5 1 k (aR cT B)]) (oZ [0] (iU 16 [0,5,6,7,8]) (bU Tryz.prog Tryz.f78))=Tr.rq (0≤(↑i:Int)∧(↑i:Int)<(↑n:Int))
 (.rq ((↑i:Int).toNat+0<n)
 (.done .normal
 (cQ 16 [(0,.c (.fn (Fn.func 60) [] [AE.B.ptr 0 0])),(5,.c (.lp 1 1 (fun x x_1=>aZ (PV.b true) S ((↑i:Int).toNat+0)) 0 0)),(6,.c (.sl 1 1 0 n)),(7,.c (.p (.i .i64 (↑n:Int)))),(8,.c (.p (.i .i64 (↑i:Int))))] [.pin 2 b,.row 125 1 n fun e o=>cI [0,1,2,3] (C.lp 1 1 (fun x x_1=>aZ (PV.b true) S e) 0 0),.cells 117 [.sl 3 1 0 k],.row 5 1 k fun e o=>cI [0,1,2,3] (aR cT B e o)]))):=by kernel_rfl
theorem aTL(b k n i:Nat)(B:List UInt8)(S:List PV):kG (aAU B (aZ (.b true) S i)) aR6 (cQ 16 [(0,oJ 60 0),(5,.c (VT (aZ (.b true) S i))),(6,.c (.sl 1 1 0 n)),(7,iV (n:Nat)),(8,iV (i:Nat))] [.pin 2 b,.row 125 1 n (IA S),.cells 117 [.sl 3 1 0 k],.row 5 1 k (aR cT B)]) (fun st=>MJ Tryz.prog (aAU B (aZ (.b true) S i)) (.t 12) [.t 13] st fun v h=>kG (aAU B (aZ (.b true) S i)) aR3 ⟨mL st.t (some 14) v,h⟩ fun s'=>.done .normal (gcS (iU 16 [0,6,7,8]) s'))=Tr.rq
  ((k=B.length∧k=B.length∧∀(e o:Nat),e<B.length→o<1→aR cT B e o=aR cT B e o) ∧
    0<1∧aZ (PV.b true) S i=aZ (PV.b true) S i∧kI (aZ (PV.b true) S i)∧(B++xD (aZ (PV.b true) S i)).length≤140737488355328)
  (Tr.done X.normal
   (cQ 16 [(0,V.c (C.fn (Fn.func 60) [] [AE.B.ptr 0 0])),(6,V.c (C.sl 1 1 0 n)),(7,V.c (C.p (PV.i aC (↑n:Int)))),(8,V.c (C.p (PV.i aC (↑i:Int))))] [AO.pin 2 b,AO.row 125 1 n fun e o=>cI [0,1,2,6] (C.lp 1 1 (fun x x_1=>aZ (PV.b true) S e) 0 0),AO.cells 117 [C.sl 3 1 0 (B++xD (aZ (PV.b true) S i)).length],AO.row 5 1 (B++xD (aZ (PV.b true) S i)).length fun e o=>cI [0,1,2,6] (C.p (PV.i cM (↑((B++xD (aZ (PV.b true) S i)).getD e default).toNat:Int)))])):=by kernel_rfl
theorem aTJ(b k n i:Nat)(B:List UInt8)(S:List PV):dI fR (bZ 3 (jM (dW Tryz.prog Tryz.f78) 1)) (cQ 16 [(0,oJ 60 0),(6,.c (.sl 1 1 0 n)),(7,iV (n:Nat)),(8,iV (i:Nat))] [.pin 2 b,.row 125 1 n (IA S),.cells 117 [.sl 3 1 0 k],.row 5 1 k (aR cT B)]) (oZ [0] (iU 16 [0,6,7,8]) (bU Tryz.prog Tryz.f78))=Tr.rq (inR aC ((↑i:Int)+1))
 (.done .normal
 (cQ 16 [(0,.c (.fn (Fn.func 60) [] [AE.B.ptr 0 0])),(6,.c (.sl 1 1 0 n)),(7,.c (.p (.i .i64 (↑n:Int)))),(8,.c (.p (.i .i64 ((↑i:Int)+1))))] [.pin 2 b,.row 125 1 n fun e o=>cI [0,1,2,3] (C.lp 1 1 (fun x x_1=>aZ (PV.b true) S e) 0 0),.cells 117 [.sl 3 1 0 k],.row 5 1 k fun e o=>cI [0,1,2,3] (aR cT B e o)])):=by kernel_rfl
theorem aA8{ρ:List Nat}{c:C}{x:PV}(h:aO6 c=some x){β:Bt}{R:Nat→Prop}{w:World}{ad:Nat×Nat}{u:Value}(hc:pY β R w ad (cI ρ c) u):pY β R w ad (VT x) u:=by
 unfold aO6 at h;split at h
 ·rename_i sz n f e o
  split at h
  ·rename_i hb
   injection h with h;exact XJ (β:=β) (by simpa using hb) (nM.of_eq h) hc
  ·cases h
 ·cases h
theorem FC{S:List PV}{i:Nat}(h:i<S.length):aZ (.b true) S i∈S:=by
 rw[eG,aD,aH h];exact List.getElem_mem h
theorem ZF{S:List PV}{i:Nat}(h:i<S.length):S.take (i+1)=S.take i++[aZ (.b true) S i]:=by
 rw[fP h,eG,aD,aH h];rfl
theorem aAX{S:List PV}{i:Nat}(h:i<S.length):S.drop i=aZ (.b true) S i::S.drop (i+1):=by
 rw[List.drop_eq_getElem_cons h,eG,aD,aH h];rfl
section
variable {G:Nat→Option Obj}
theorem aDZ{P:Program}{f:FuncId}{q off cf:Nat}{y:V}{h:List AO}{K:V→List AO→Prop}(hf:lW P G f [.c (.fn (.func cf) [] [.ptr (wU h q) off]),y] h K):lW P G f [.c (.fn (.func cf) [] [.ptr q off]),y] h K:=by
 unfold wU at hf;split at hf
 ·rename_i j b0 hq
  intro β R w vs ha hh;refine hf β R w vs ?_ hh
  generalize vs.toList=us at ha
  obtain⟨u,us1,rfl,⟨ws1,ws2,rfl,h1,h2⟩,ha2⟩:=All2.nth2 ha;obtain⟨u2,us2,e3,⟨b,o,e1,e2⟩,h3⟩:=All2.nth2 h2
  have hob:=hh.obj q b o e1
  rw[hq]at hob;obtain⟨e4,o2,e5⟩:=hob;subst e4;refine⟨⟨ws1,ws2,rfl,h1,?_⟩,ha2⟩;rw[e3];exact⟨⟨_,o2,e5,e2⟩,h3⟩
 ·exact hf
set_option maxRecDepth 100000 in
theorem aDW{f:FuncId}{fn:Func}(hf:(Tryz.prog).funcs[f]?=some fn)(hok:okF Tryz.prog fn=true){cf fr n:Nat}{tyF:TypeId}(hty:tyF≠5){gF:Nat→Nat→C}{B B':List UInt8}{h:List AO}{j r:Nat}{g:Nat→Nat→C}(hj:aZ .gone h j=.cells 117 [.sl r 1 0 B.length])(hr:aZ .gone h r=.row 5 1 B.length g)(hg:∀e o,e<B.length→o<1→g e o=aR cT B e o)(hF:aZ .gone h fr=.row tyF 1 n gF)
  (H:∀b,jP Tryz.prog G (Zm [0] (bU Tryz.prog fn) fun s=>cL G s ⟨[oJ cf 0]++[],rV B' b⟩) (dW Tryz.prog fn) (aAW fn cf n b B tyF (fun e o=>cI [j,r,fr] (gF e o))) fun e s=>e=.normal∧Zm [0] (bU Tryz.prog fn) (fun s=>cL G s ⟨[oJ cf 0]++[],rV B' b⟩) s):lW Tryz.prog G f [oJ cf j,.c (.sl fr 1 0 n)] h fun x h'=>x=.t []∧h'=lP [j,r,fr] [j] [1] h (rV B' 0):=by
 have n1:j≠r:=by rintro rfl;rw[hj]at hr;cases hr
 have n2:j≠fr:=by rintro rfl;rw[hj]at hF;cases hF
 have n3:r≠fr:=by rintro rfl;rw[hF]at hr;injection hr with e1 e2 e3 e4;exact hty e1
 have hlr:r<h.length:=iM hr (by simp)
 refine CF (h':=upd (.row 5 1 B.length (aR cT B)) h r) (fun β R w hh=>GE hh hr hg) (by rw[fS,cD]) ?_
 have hj':aZ .gone (upd (.row 5 1 B.length (aR cT B)) h r) j=.cells 117 [.sl r 1 0 B.length]:=by rw[dC _ _ _ (Ne.symm n1)];exact hj
 have hF':aZ .gone (upd (.row 5 1 B.length (aR cT B)) h r) fr=.row tyF 1 n gF:=by rw[dC _ _ _ n3];exact hF
 have hr':aZ .gone (upd (.row 5 1 B.length (aR cT B)) h r) r=.row 5 1 B.length (aR cT B):=eO _ _ _ hlr
 have hout:=aDY (ρ:=[j,r,fr]) (ids:=[j]) (js:=[1]) (h:=h) (hE:=rV B' 0) (r:=r) (.row 5 1 B.length (aR cT B)) (by
  show (match aT j r with
   |true=>some 1
   |false=>xV [] [] r)=none
  rw[nL n1];rfl) (by
  show (aT j r||(aT r r||_))=true
  rw[qE];simp)
 rw[←hout]
 have hlen2:(upd (.row 5 1 B.length (aR cT B)) h r).length=h.length:=by rw[fS,cD]
 generalize upd (.row 5 1 B.length (aR cT B)) h r=h0 at hj' hr' hF' ⊢
 clear hj hr hg hout hlen2 hlr hF
 refine fun β R w us hw hh=>(OU (ρ:=[j,r,fr]) (ids:=[j]) (ps:=[0]) (pns:=[0]) (js:=[1]) (sl:=[oJ cf 0]) (vs:=[]) (hE:=fun bs=>rV B' (aZ 0 bs 0)) hf hok ?_ ?_ (by simp) (fun id hid=>by obtain rfl:=fF.1 hid;exact⟨_,bH ..,0,.inr (bH ..)⟩) rfl rfl rfl (fun i pn h=>?_) (fun bs hb i pn j b h1 h2 h3=>?_) (fun bs hb=>?_) β R w us hw hh).mono ?_
 ·simp[oR,oV,nL n1,nL (Ne.symm n1),nL n2,nL (Ne.symm n2),nL n3,nL (Ne.symm n3)]
 ·simp[qM,hj',hr',hF',AO.live]
 ·cases i with
  |zero=>obtain rfl:0=pn:=by simpa using h
         exact⟨_,bH ..,0,.inr (bH ..)⟩
  |succ i=>simp at h
 ·cases i with
  |zero=>
   obtain rfl:0=pn:=by simpa using h1
   obtain rfl:1=j:=by simpa using h2
   cases bs with
   |nil=>simp at hb
   |cons b0 bs=>
    obtain rfl:b0=b:=by simpa using h3
    exact⟨rfl,rfl⟩
  |succ i=>simp at h1
 ·obtain⟨bb,rfl⟩:∃b,bs=[b]:=by
    cases bs with
    |nil=>simp at hb
    |cons b0 bs=>cases bs with
     |nil=>exact⟨b0,rfl⟩
     |cons _ _=>simp at hb
  have i1:iN j [j,r,fr] 0=some 0:=by simp only[iN,qE]
  have i2:iN r [j,r,fr] 0=some 1:=by simp only[iN,qE,nL n1]
  have i3:iN fr [j,r,fr] 0=some 2:=by simp only[iN,qE,nL n2,nL n3]
  have i5:iN j [j] 0=some 0:=by simp only[iN,qE]
  have e:oU fn [j,r,fr] [j] [bb] [oJ cf j,.c (.sl fr 1 0 n)] h0=aAW fn cf n bb B tyF (fun e o=>cI [j,r,fr] (gF e o)):=by
   unfold oU inH
   have e1:qB [j,r,fr] [j] ([j,r,fr]:List Nat).length [oJ cf j,.c (.sl fr 1 0 n)]=[oJ cf 3,.c (.sl 2 1 0 n)]:=by
    simp only[qB,OJ,PN,oJ,OL,XS,i5,cI,i3];rfl
   have e2:mB [j,r,fr] h0 [j,r,fr]=PQ B++[.row tyF 1 n fun e o=>cI [j,r,fr] (gF e o)]:=by
    simp only[mB,hj',hr',hF',QL,tN,cI,i2,aIO];rfl
   have e3:vG [j,r,fr] [j] [bb]=[.pin 0 bb]:=by
    simp only[vG,i1]
   rw[e1,e2,e3];rfl
  rw[e];exact H bb
 ·rintro e w' ⟨u,β',R',x,h',rfl,⟨bs,hb,hx,hh'⟩,hr⟩
  exact⟨u,β',R',x,h',rfl,⟨hx,hh'.trans (aE1 _ _ _ rfl rfl rfl rfl)⟩,hr⟩
theorem AQ(B:List UInt8)(x:PV):cF Tryz.prog G (aAT B x):=iX (by simp;exact aQ3 B x)
set_option maxRecDepth 100000 in
theorem aJR(B:List UInt8)(S:List PV):lV Tryz.prog G 57 (KP 55 118 kS B S):=by
 intro args h p v h' hm hp;unfold KP at hm
 split at hm;rotate_left;· cases hm
 split at hm;rotate_left;· cases hm
 rename_i g q fr n _ p0 r ty n' gF hcf hw hF;obtain⟨rfl,rfl,rfl⟩:=mZ hm;clear hm;obtain⟨hq,rfl,rfl,rfl,hfl,hK,hS,hB⟩:=hp;obtain rfl:=aF hcf;obtain⟨g1,k1,k2,k3⟩:=oX hw hq
 refine aDZ (aDW Tryz.func57 (by kernel_rfl) (by decide) k1 k2 k3 hF fun b=>?_)
 refine jP.pre (JC (id:=2) (f':=IA S) (by rfl) (fun e o he ho β R w ad u hu=>by
   obtain rfl:o=0:=by omega
   exact aA8 (hfl e he) hu)) ?_
 refine jP.evG aV 1 (aTQ b S.length B S) ?_;simp only[aX,aL,jC];refine⟨?_⟩
 refine jP.loop' (l:=bZ 1 (dW Tryz.prog Tryz.f57)) (id:=0) (b:=inr (inr (aZ .skip (dW Tryz.prog Tryz.f57) 1))) (r:=bZ 2 (dW Tryz.prog Tryz.f57)) (by kernel_rfl) (σ:=Nat)
   (fun i=>(fun(k n i:Nat) (B:List UInt8)=>cQ 16 [(0,oJ 55 0),(6,.c (.sl 1 1 0 n)),(7,iV (n:Nat)),(8,iV (i:Nat))] [.pin 2 b,.row 118 1 n (IA S),.cells 117 [.sl 3 1 0 k],.row 5 1 k (aR cT B)]) (B++lK (S.take i)).length S.length i (B++lK (S.take i))) (fun i=>i≤S.length) (fun i=>S.length-i) 0 (bK _) (by
    show cL G _ ((fun(k n i:Nat) (B:List UInt8)=>cQ 16 [(0,oJ 55 0),(6,.c (.sl 1 1 0 n)),(7,iV (n:Nat)),(8,iV (i:Nat))] [.pin 2 b,.row 118 1 n (IA S),.cells 117 [.sl 3 1 0 k],.row 5 1 k (aR cT B)]) (B++[]).length S.length 0 (B++[]))
    rw[iG]
    exact aP (by kernel_rfl)) ?_
 intro i hi Q1 q1n q1e _
 obtain⟨B1,hB1⟩:∃B1,B++lK (S.take i)=B1:=⟨_,rfl⟩
 rw[hB1];refine jP.evG aV 2 (aTO b B1.length S.length i B1 S) ?_;simp only[eV,aX,aL,jC,OE,decide_eq_true_eq,decide_eq_false_iff_not];refine⟨fun c=>⟨?_⟩,fun c=>⟨q1e _ ?_⟩⟩
 ·have hlt:i<S.length:=by omega
  have hl:B1.length+(xD (aZ (.b true) S i)).length+(lK (S.drop (i+1))).length=(B++lK S).length:=by
   rw[←hB1,←List.take_append_drop i S,tQ,List.take_append_drop,aAX hlt]
   show _=(B++(_++(xD _++lK _))).length
   simp only[bJ];omega
  refine jP.blk' (l:=bZ 2 (jM (dW Tryz.prog Tryz.f57) 1)) (id:=1) (a:=inr (aZ .skip (jM (dW Tryz.prog Tryz.f57) 1) 2)) (r:=bZ 3 (jM (dW Tryz.prog Tryz.f57) 1)) (by kernel_rfl) ?_
  intro Q2 q2n q2e _
  refine jP.pre (aP (st':=(fun(k n i:Nat) (B:List UInt8)=>cQ 16 [(0,oJ 55 0),(6,.c (.sl 1 1 0 n)),(7,iV (n:Nat)),(8,iV (i:Nat))] [.pin 2 b,.row 118 1 n (IA S),.cells 117 [.sl 3 1 0 k],.row 5 1 k (aR cT B)]) B1.length S.length i B1) (by kernel_rfl)) ?_
  refine jP.evG aV 1 (aTM b B1.length S.length i B1 S) ?_;simp only[aX,aL,jC];refine⟨⟨by omega,by omega⟩,by omega,⟨?_⟩⟩
  refine jP.pre (aP (st':=(fun(k n i:Nat) (B:List UInt8)=>cQ 16 [(0,oJ 55 0),(5,.c (VT (aZ (.b true) S i))),(6,.c (.sl 1 1 0 n)),(7,iV (n:Nat)),(8,iV (i:Nat))] [.pin 2 b,.row 118 1 n (IA S),.cells 117 [.sl 3 1 0 k],.row 5 1 k (aR cT B)]) B1.length S.length i B1) (by kernel_rfl)) ?_
  have e:bZ 1 (iI (inr (aZ .skip (jM (dW Tryz.prog Tryz.f57) 1) 2)))=[.raw (.region 3 aBZ false)]:=by kernel_rfl
  rw[e]
  refine jP.spec (AQ B1 (aZ (.b true) S i)) rfl 2 (o:=aBZ.toList.getD 2 default) (al1:=aR5) (al2:=aR2) (by kernel_rfl) (by kernel_rfl) (by kernel_rfl) (by kernel_rfl) (op:=.call { callee:=.value (.tmp 12),args := #[.tmp 13],argTypes := #[118] }) (by kernel_rfl)
    (JK (AQ B1 (aZ (.b true) S i)) (by kernel_rfl) (by kernel_rfl)) (iU 16 [0,6,7,8]) (d:=some 14) (by kernel_rfl) (aTK b B1.length S.length i B1 S) ?_
  simp only[aX,aL];refine⟨⟨⟨trivial,trivial,fun _ _ _ _=>trivial⟩,by decide,trivial,hK _ (FC hlt),by rw[bJ];omega⟩,⟨_,cL.refl _,q2n _ ?_⟩⟩
  refine jP.pre (aP (st':=(fun(k n i:Nat) (B:List UInt8)=>cQ 16 [(0,oJ 55 0),(6,.c (.sl 1 1 0 n)),(7,iV (n:Nat)),(8,iV (i:Nat))] [.pin 2 b,.row 118 1 n (IA S),.cells 117 [.sl 3 1 0 k],.row 5 1 k (aR cT B)]) (B1++xD (aZ (.b true) S i)).length S.length i (B1++xD (aZ (.b true) S i))) (by kernel_rfl)) ?_
  refine jP.evH aV (aTI b (B1++xD (aZ (.b true) S i)).length S.length i (B1++xD (aZ (.b true) S i)) S) ?_;simp only[aX,aL,jC,inR];refine⟨by omega,⟨q1n (i+1) _ hlt (by omega) ?_⟩⟩
  have e2:B++lK (S.take (i+1))=B1++xD (aZ (.b true) S i):=by
   rw[ZF hlt,tQ,←eN,hB1]
   show B1++(xD _++[])=_
   rw[iG]
  rw[e2]
  exact aP (by kernel_rfl)
 ·obtain rfl:i=S.length:=by omega
  rw[fL]at hB1;rw[hB1]
  exact⟨_,cL.refl _,rfl,[],rfl,aP (by kernel_rfl)⟩
theorem AS(B:List UInt8)(x:PV):cF Tryz.prog G (aAU B x):=iX (by simp;exact aQ2 B x)
set_option maxRecDepth 100000 in
theorem aJS(B:List UInt8)(S:List PV):lV Tryz.prog G 78 (KP 60 125 kI B S):=by
 intro args h p v h' hm hp;unfold KP at hm
 split at hm;rotate_left;· cases hm
 split at hm;rotate_left;· cases hm
 rename_i g q fr n _ p0 r ty n' gF hcf hw hF;obtain⟨rfl,rfl,rfl⟩:=mZ hm;clear hm;obtain⟨hq,rfl,rfl,rfl,hfl,hK,hS,hB⟩:=hp;obtain rfl:=aF hcf;obtain⟨g1,k1,k2,k3⟩:=oX hw hq
 refine aDZ (aDW Tryz.func78 (by kernel_rfl) (by decide) k1 k2 k3 hF fun b=>?_)
 refine jP.pre (JC (id:=2) (f':=IA S) (by rfl) (fun e o he ho β R w ad u hu=>by
   obtain rfl:o=0:=by omega
   exact aA8 (hfl e he) hu)) ?_
 refine jP.evG aV 1 (aTR b S.length B S) ?_;simp only[aX,aL,jC];refine⟨?_⟩
 refine jP.loop' (l:=bZ 1 (dW Tryz.prog Tryz.f78)) (id:=0) (b:=inr (inr (aZ .skip (dW Tryz.prog Tryz.f78) 1))) (r:=bZ 2 (dW Tryz.prog Tryz.f78)) (by kernel_rfl) (σ:=Nat)
   (fun i=>(fun(k n i:Nat) (B:List UInt8)=>cQ 16 [(0,oJ 60 0),(6,.c (.sl 1 1 0 n)),(7,iV (n:Nat)),(8,iV (i:Nat))] [.pin 2 b,.row 125 1 n (IA S),.cells 117 [.sl 3 1 0 k],.row 5 1 k (aR cT B)]) (B++lK (S.take i)).length S.length i (B++lK (S.take i))) (fun i=>i≤S.length) (fun i=>S.length-i) 0 (bK _) (by
    show cL G _ ((fun(k n i:Nat) (B:List UInt8)=>cQ 16 [(0,oJ 60 0),(6,.c (.sl 1 1 0 n)),(7,iV (n:Nat)),(8,iV (i:Nat))] [.pin 2 b,.row 125 1 n (IA S),.cells 117 [.sl 3 1 0 k],.row 5 1 k (aR cT B)]) (B++[]).length S.length 0 (B++[]))
    rw[iG]
    exact aP (by kernel_rfl)) ?_
 intro i hi Q1 q1n q1e _
 obtain⟨B1,hB1⟩:∃B1,B++lK (S.take i)=B1:=⟨_,rfl⟩
 rw[hB1];refine jP.evG aV 2 (aTP b B1.length S.length i B1 S) ?_;simp only[eV,aX,aL,jC,OE,decide_eq_true_eq,decide_eq_false_iff_not];refine⟨fun c=>⟨?_⟩,fun c=>⟨q1e _ ?_⟩⟩
 ·have hlt:i<S.length:=by omega
  have hl:B1.length+(xD (aZ (.b true) S i)).length+(lK (S.drop (i+1))).length=(B++lK S).length:=by
   rw[←hB1,←List.take_append_drop i S,tQ,List.take_append_drop,aAX hlt]
   show _=(B++(_++(xD _++lK _))).length
   simp only[bJ];omega
  refine jP.blk' (l:=bZ 2 (jM (dW Tryz.prog Tryz.f78) 1)) (id:=1) (a:=inr (aZ .skip (jM (dW Tryz.prog Tryz.f78) 1) 2)) (r:=bZ 3 (jM (dW Tryz.prog Tryz.f78) 1)) (by kernel_rfl) ?_
  intro Q2 q2n q2e _
  refine jP.pre (aP (st':=(fun(k n i:Nat) (B:List UInt8)=>cQ 16 [(0,oJ 60 0),(6,.c (.sl 1 1 0 n)),(7,iV (n:Nat)),(8,iV (i:Nat))] [.pin 2 b,.row 125 1 n (IA S),.cells 117 [.sl 3 1 0 k],.row 5 1 k (aR cT B)]) B1.length S.length i B1) (by kernel_rfl)) ?_
  refine jP.evG aV 1 (aTN b B1.length S.length i B1 S) ?_;simp only[aX,aL,jC];refine⟨⟨by omega,by omega⟩,by omega,⟨?_⟩⟩
  refine jP.pre (aP (st':=(fun(k n i:Nat) (B:List UInt8)=>cQ 16 [(0,oJ 60 0),(5,.c (VT (aZ (.b true) S i))),(6,.c (.sl 1 1 0 n)),(7,iV (n:Nat)),(8,iV (i:Nat))] [.pin 2 b,.row 125 1 n (IA S),.cells 117 [.sl 3 1 0 k],.row 5 1 k (aR cT B)]) B1.length S.length i B1) (by kernel_rfl)) ?_
  have e:bZ 1 (iI (inr (aZ .skip (jM (dW Tryz.prog Tryz.f78) 1) 2)))=[.raw (.region 3 aC0 false)]:=by kernel_rfl
  rw[e]
  refine jP.spec (AS B1 (aZ (.b true) S i)) rfl 2 (o:=aC0.toList.getD 2 default) (al1:=aR6) (al2:=aR3) (by kernel_rfl) (by kernel_rfl) (by kernel_rfl) (by kernel_rfl) (op:=.call { callee:=.value (.tmp 12),args := #[.tmp 13],argTypes := #[125] }) (by kernel_rfl)
    (JK (AS B1 (aZ (.b true) S i)) (by kernel_rfl) (by kernel_rfl)) (iU 16 [0,6,7,8]) (d:=some 14) (by kernel_rfl) (aTL b B1.length S.length i B1 S) ?_
  simp only[aX,aL];refine⟨⟨⟨trivial,trivial,fun _ _ _ _=>trivial⟩,by decide,trivial,hK _ (FC hlt),by rw[bJ];omega⟩,⟨_,cL.refl _,q2n _ ?_⟩⟩
  refine jP.pre (aP (st':=(fun(k n i:Nat) (B:List UInt8)=>cQ 16 [(0,oJ 60 0),(6,.c (.sl 1 1 0 n)),(7,iV (n:Nat)),(8,iV (i:Nat))] [.pin 2 b,.row 125 1 n (IA S),.cells 117 [.sl 3 1 0 k],.row 5 1 k (aR cT B)]) (B1++xD (aZ (.b true) S i)).length S.length i (B1++xD (aZ (.b true) S i))) (by kernel_rfl)) ?_
  refine jP.evH aV (aTJ b (B1++xD (aZ (.b true) S i)).length S.length i (B1++xD (aZ (.b true) S i)) S) ?_;simp only[aX,aL,jC,inR];refine⟨by omega,⟨q1n (i+1) _ hlt (by omega) ?_⟩⟩
  have e2:B++lK (S.take (i+1))=B1++xD (aZ (.b true) S i):=by
   rw[ZF hlt,tQ,←eN,hB1]
   show B1++(xD _++[])=_
   rw[iG]
  rw[e2]
  exact aP (by kernel_rfl)
 ·obtain rfl:i=S.length:=by omega
  rw[fL]at hB1;rw[hB1]
  exact⟨_,cL.refl _,rfl,[],rfl,aP (by kernel_rfl)⟩
end
def iY(d:De):Nat→Nat→PV:=fun _ o=>gG d o
def lb2(x:ByteArray×ByteArray):Nat→Nat→PV:=fun _ o=>kC x o
def BB(d:De):List PV:=[.i .i64 d.u0,.i .i64 d.u1,.i .i64 d.u2,.i .i64 d.lo,.i .i64 d.hi,.i .i64 d.dn,.i .i64 d.up,.i .i64 d.fi,.i .i64 d.la,.i .i64 d.bu]
def aME(B:List UInt8)(S:List PV):Ext:=rT [(78,KP 60 125 kI B S)]
def aGY(B:List UInt8)(S:List PV):Ext:=rT [(57,KP 55 118 kS B S)]
def aA7(B:List UInt8)(d:De):sT:=fun args h=>match args with
 |[.c (.lp 12 1 f 0 0),.c (.fn (.func g) [] [.ptr q 0])]=>match aT g 60,OG B (wU h q) h with
  |true,some (p,r)=>some (p∧(∀o,o<12→f 0 o=gG d o)∧(∀x∈PO d,inR .i64 x)∧(B++tY (PO d)).length≤140737488355328,.t [],lP [wU h q,r] [wU h q] [1] h (rV (B++tY (PO d)) 0))
  |_,_=>none
 |_=>none
theorem tNu(b:Nat)(B:List UInt8)(d:De):dI (aME B (BB d)) (dW Tryz.prog Tryz.f59) (oU Tryz.f59 [0,1] [0] [b] [.c (.lp 12 1 (iY d) 0 0),oJ 60 0] (PQ B)) (oZ [1] (iU 40 [1]) (bU Tryz.prog Tryz.f59))=Tr.rq
 ((B.length=B.length∧B.length=B.length∧∀(e o:Nat),e<B.length→o<1→cI [0,1] (aR cT B e o)=aR cT B e o) ∧
 10=(BB d).length ∧
 10=(BB d).length ∧
 125=125 ∧
 aAQ (BB d)
 (kY
 [C.lp 12 1 (iY d) 0 2,C.lp 12 1 (iY d) 0 3,C.lp 12 1 (iY d) 0 4,C.lp 12 1 (iY d) 0 5,C.lp 12 1 (iY d) 0 6,C.lp 12 1 (iY d) 0 7,C.lp 12 1 (iY d) 0 8,C.lp 12 1 (iY d) 0 9,
 C.lp 12 1 (iY d) 0 10,C.lp 12 1 (iY d) 0 11]
 1 10) ∧
 (∀(x:PV),x∈BB d→kI x)∧(BB d).length≤1000∧(B++lK (BB d)).length≤140737488355328)
 (.done .normal
 (cQ 40 [(1,.c (.fn (Fn.func 60) [] [AE.B.ptr 0 0]))] [.pin 1 b,.cells 117 [.sl 2 1 0 (B++lK (BB d)).length],.row 5 1 (B++lK (BB d)).length fun e o=>cI [2,0,6] (C.p (PV.i cM (↑((B++lK (BB d)).getD e default).toNat:Int)))])):=by kernel_rfl
def IR(d:De):List PV:=[.s d.nm,mU kC 2 d.L,.i .i64 d.u0,.i .i64 d.u1,.i .i64 d.u2,.i .i64 d.lo,.i .i64 d.hi,.i .i64 d.dn,.i .i64 d.up,.i .i64 d.fi,.i .i64 d.la,.i .i64 d.bu]
def deV(d:De):V:=.a (lA (IR d))
theorem tD0(d:De):dI fR (dN 1 (dW Tryz.prog Tryz.f35)) (pZ Tryz.f35 [deV d]) (eK (iU 32 [1]) (bU Tryz.prog Tryz.f35))=Tr.done X.normal
 (cQ 32 [(1,.c (.ptr 0 0))] [.cells 47 [.p (.s d.nm),.p (.l 2 d.L.length (bF kC d.L)),.p (.i .i64 d.u0),.p (.i .i64 d.u1),.p (.i .i64 d.u2),.p (.i .i64 d.lo),.p (.i .i64 d.hi),.p (.i .i64 d.dn),.p (.i .i64 d.up),.p (.i .i64 d.fi),.p (.i .i64 d.la),.p (.i .i64 d.bu)]]):=by kernel_rfl
theorem tD1(d:De):dI fR (dN 1 (bZ 1 (dW Tryz.prog Tryz.f35))) (cQ 32 [(1,.c (.lp 12 1 (iY d) 0 0))] []) (eK (iU 32 [1,3]) (bU Tryz.prog Tryz.f35))=Tr.done X.normal
 (cQ 32 [(1,.c (.lp 12 1 (iY d) 0 0)),(3,.c (.ptr 0 0))] [.cells 117 [.p (.z (Value.slice none 0 0))]]):=by kernel_rfl
theorem tD2(d:De)(k:Nat)(B:List UInt8):dI fR (dN 1 (bZ 2 (dW Tryz.prog Tryz.f35))) (cQ 32 [(1,.c (.lp 12 1 (iY d) 0 0)),(3,.c (.ptr 0 0))] [.cells 117 [.sl 1 1 0 k],.row 5 1 k (aR cT B)]) (eK (iU 32 [1,3,4]) (bU Tryz.prog Tryz.f35))=Tr.done X.normal
 (cQ 32 [(1,.c (.lp 12 1 (iY d) 0 0)),(3,.c (.ptr 0 0)),(4,.c (.fn (Fn.func 55) [] [AE.B.ptr 0 0]))] [.cells 117 [.sl 1 1 0 k],.row 5 1 k fun e o=>cI [0,1] (aR cT B e o)]):=by kernel_rfl
theorem tD3(d:De)(k:Nat)(B:List UInt8):dI (aGY B [.s d.nm]) (dN 1 (bZ 3 (dW Tryz.prog Tryz.f35))) (cQ 32 [(1,.c (.lp 12 1 (iY d) 0 0)),(3,.c (.ptr 0 0)),(4,oJ 55 0)] [.cells 117 [.sl 1 1 0 k],.row 5 1 k (aR cT B)]) (eK (iU 32 [1,3,4]) (bU Tryz.prog Tryz.f35))=Tr.rq
 ((k=B.length∧k=B.length∧∀(e o:Nat),e<B.length→o<1→aR cT B e o=aR cT B e o) ∧
 1=[PV.s d.nm].length ∧
 1=[PV.s d.nm].length ∧
 118=118∧aAQ [PV.s d.nm] (kY [C.lp 12 1 (iY d) 0 0] 1 1)∧(∀(x:PV),x∈[PV.s d.nm]→kS x)∧[PV.s d.nm].length≤1000∧(B++lK [PV.s d.nm]).length≤140737488355328)
 (.done .normal
 (cQ 32 [(1,.c (.lp 12 1 (iY d) 0 0)),(3,.c (.ptr 0 0)),(4,.c (.fn (Fn.func 55) [] [AE.B.ptr 0 0]))] [.cells 117 [.sl 1 1 0 (B++lK [PV.s d.nm]).length],.row 5 1 (B++lK [PV.s d.nm]).length fun e o=>cI [0,5] (C.p (PV.i cM (↑((B++lK [PV.s d.nm]).getD e default).toNat:Int)))])):=by kernel_rfl
theorem tD4(d:De)(k:Nat)(B:List UInt8):dI (aGX B d.L.length) (dN 1 (bZ 4 (dW Tryz.prog Tryz.f35))) (cQ 32 [(1,.c (.lp 12 1 (iY d) 0 0)),(3,.c (.ptr 0 0)),(4,oJ 55 0)] [.cells 117 [.sl 1 1 0 k],.row 5 1 k (aR cT B)]) (eK (iU 32 [1,3,4]) (bU Tryz.prog Tryz.f35))=Tr.rq
 ((k=B.length∧k=B.length∧∀(e o:Nat),e<B.length→o<1→aR cT B e o=aR cT B e o) ∧
 (↑d.L.length:Int)=(↑d.L.length:Int)∧inR aC (↑d.L.length:Int)∧(B++rO (↑d.L.length:Int)).length≤140737488355328)
 (.done .normal
 (cQ 32 [(1,.c (.lp 12 1 (iY d) 0 0)),(3,.c (.ptr 0 0)),(4,.c (.fn (Fn.func 55) [] [AE.B.ptr 0 0]))] [.cells 117 [.sl 1 1 0 (B++rO (↑d.L.length:Int)).length],.row 5 1 (B++rO (↑d.L.length:Int)).length fun e o=>cI [0,4] (C.p (PV.i cM (↑((B++rO (↑d.L.length:Int)).getD e default).toNat:Int)))])):=by kernel_rfl
theorem tD5(d:De)(k:Nat)(B:List UInt8):dI fR (dN 1 (bZ 5 (dW Tryz.prog Tryz.f35))) (cQ 32 [(1,.c (.lp 12 1 (iY d) 0 0)),(3,.c (.ptr 0 0)),(4,oJ 55 0)] [.cells 117 [.sl 1 1 0 k],.row 5 1 k (aR cT B)]) (eK (iU 32 [1,3,4,17,18,19]) (bU Tryz.prog Tryz.f35))=Tr.done X.normal
 (cQ 32 [(1,.c (.lp 12 1 (iY d) 0 0)),(3,.c (.ptr 0 0)),(4,.c (.fn (Fn.func 55) [] [AE.B.ptr 0 0])),(17,.c (.p (.l 2 d.L.length (bF kC d.L)))),(18,.c (.p (.i .i64 (↑d.L.length:Int)))),(19,.c (.p (.i .i64 0)))] [.cells 117 [.sl 1 1 0 k],.row 5 1 k fun e o=>cI [0,1] (aR cT B e o)]):=by kernel_rfl
theorem tD6(d:De)(L:List (ByteArray×ByteArray))(k i:Nat)(B:List UInt8):dI fR (dN 2 (jM (dW Tryz.prog Tryz.f35) 6)) (cQ 32 [(1,.c (.lp 12 1 (iY d) 0 0)),(3,.c (.ptr 0 0)),(4,oJ 55 0),(17,aQ kC 2 L),(18,iV (L.length:Nat)),(19,iV (i:Nat))] [.cells 117 [.sl 1 1 0 k],.row 5 1 k (aR cT B)]) (eK (iU 32 [1,3,4,17,18,19]) (bU Tryz.prog Tryz.f35))=bT (decide ((↑i:Int)<(↑L.length:Int)))
 (.done .normal
 (cQ 32 [(1,.c (.lp 12 1 (iY d) 0 0)),(3,.c (.ptr 0 0)),(4,.c (.fn (Fn.func 55) [] [AE.B.ptr 0 0])),(17,.c (.p (.l 2 L.length (bF kC L)))),(18,.c (.p (.i .i64 (↑L.length:Int)))),(19,.c (.p (.i .i64 (↑i:Int))))] [.cells 117 [.sl 1 1 0 k],.row 5 1 k fun e o=>cI [0,1] (aR cT B e o)]))
 (.done (.exit 0)
 (cQ 32 [(1,.c (.lp 12 1 (iY d) 0 0)),(3,.c (.ptr 0 0)),(4,.c (.fn (Fn.func 55) [] [AE.B.ptr 0 0])),(17,.c (.p (.l 2 L.length (bF kC L)))),(18,.c (.p (.i .i64 (↑L.length:Int)))),(19,.c (.p (.i .i64 (↑i:Int))))] [.cells 117 [.sl 1 1 0 k],.row 5 1 k fun e o=>cI [0,1] (aR cT B e o)])):=by kernel_rfl
theorem tD7(d:De)(L:List (ByteArray×ByteArray))(k i:Nat)(B:List UInt8):dI fR (dN 1 (iI (inr (aZ .skip (jM (dW Tryz.prog Tryz.f35) 6) 2)))) (cQ 32 [(1,.c (.lp 12 1 (iY d) 0 0)),(3,.c (.ptr 0 0)),(4,oJ 55 0),(17,aQ kC 2 L),(18,iV (L.length:Nat)),(19,iV (i:Nat))] [.cells 117 [.sl 1 1 0 k],.row 5 1 k (aR cT B)]) (eK (iU 32 [1,3,4,6,17,18,19]) (bU Tryz.prog Tryz.f35))=Tr.rq (0≤(↑i:Int)∧(↑i:Int)<(↑L.length:Int))
 (.done .normal
 (cQ 32 [(1,.c (.lp 12 1 (iY d) 0 0)),(3,.c (.ptr 0 0)),(4,.c (.fn (Fn.func 55) [] [AE.B.ptr 0 0])),(6,.c (.ptr 1 0)),(17,.c (.p (.l 2 L.length (bF kC L)))),(18,.c (.p (.i .i64 (↑L.length:Int)))),(19,.c (.p (.i .i64 (↑i:Int))))] [.cells 117 [.sl 2 1 0 k],.cells 114 [.p (.s (L.getD (↑i:Int).toNat default).fst),.p (.s (L.getD (↑i:Int).toNat default).snd)],.row 5 1 k fun e o=>cI [0,2,1] (aR cT B e o)])):=by kernel_rfl
theorem tD8(d:De)(L:List (ByteArray×ByteArray))(x:ByteArray×ByteArray)(k i:Nat)(B:List UInt8):dI (aGY B [.s x.1,.s x.2]) (bZ 1 (iI (inr (aZ .skip (jM (dW Tryz.prog Tryz.f35) 6) 2)))) (cQ 32 [(1,.c (.lp 12 1 (iY d) 0 0)),(3,.c (.ptr 0 0)),(4,oJ 55 0),(6,.c (.lp 2 1 (lb2 x) 0 0)),(17,aQ kC 2 L),(18,iV (L.length:Nat)),(19,iV (i:Nat))] [.cells 117 [.sl 1 1 0 k],.row 5 1 k (aR cT B)]) (eK (iU 32 [1,3,4,17,18,19]) (bU Tryz.prog Tryz.f35))=Tr.rq
 ((k=B.length∧k=B.length∧∀(e o:Nat),e<B.length→o<1→aR cT B e o=aR cT B e o) ∧
 2=[PV.s x.fst,PV.s x.snd].length ∧
 2=[PV.s x.fst,PV.s x.snd].length ∧
 118=118 ∧
 aAQ [PV.s x.fst,PV.s x.snd] (kY [C.lp 2 1 (lb2 x) 0 0,C.lp 2 1 (lb2 x) 0 1] 1 2) ∧
 (∀(x_1:PV),x_1∈[PV.s x.fst,PV.s x.snd]→kS x_1)∧[PV.s x.fst,PV.s x.snd].length≤1000∧(B++lK [PV.s x.fst,PV.s x.snd]).length≤140737488355328)
 (.done .normal
 (cQ 32 [(1,.c (.lp 12 1 (iY d) 0 0)),(3,.c (.ptr 0 0)),(4,.c (.fn (Fn.func 55) [] [AE.B.ptr 0 0])),(17,.c (.p (.l 2 L.length (bF kC L)))),(18,.c (.p (.i .i64 (↑L.length:Int)))),(19,.c (.p (.i .i64 (↑i:Int))))] [.cells 117 [.sl 1 1 0 (B++lK [PV.s x.fst,PV.s x.snd]).length],.row 5 1 (B++lK [PV.s x.fst,PV.s x.snd]).length fun e o=>cI [0,5] (C.p (PV.i cM (↑((B++lK [PV.s x.fst,PV.s x.snd]).getD e default).toNat:Int)))])):=by kernel_rfl
theorem tD9(d:De)(L:List (ByteArray×ByteArray))(k i:Nat)(B:List UInt8):dI fR (bZ 3 (jM (dW Tryz.prog Tryz.f35) 6)) (cQ 32 [(1,.c (.lp 12 1 (iY d) 0 0)),(3,.c (.ptr 0 0)),(4,oJ 55 0),(17,aQ kC 2 L),(18,iV (L.length:Nat)),(19,iV (i:Nat))] [.cells 117 [.sl 1 1 0 k],.row 5 1 k (aR cT B)]) (eK (iU 32 [1,3,4,17,18,19]) (bU Tryz.prog Tryz.f35))=Tr.rq (inR aC ((↑i:Int)+1))
 (.done .normal
 (cQ 32 [(1,.c (.lp 12 1 (iY d) 0 0)),(3,.c (.ptr 0 0)),(4,.c (.fn (Fn.func 55) [] [AE.B.ptr 0 0])),(17,.c (.p (.l 2 L.length (bF kC L)))),(18,.c (.p (.i .i64 (↑L.length:Int)))),(19,.c (.p (.i .i64 ((↑i:Int)+1))))] [.cells 117 [.sl 1 1 0 k],.row 5 1 k fun e o=>cI [0,1] (aR cT B e o)])):=by kernel_rfl
theorem aU1(d:De)(k:Nat)(B:List UInt8):dI (rT [(59,aA7 B d)]) (dN 1 (bZ 7 (dW Tryz.prog Tryz.f35))) (cQ 32 [(1,.c (.lp 12 1 (iY d) 0 0)),(3,.c (.ptr 0 0)),(4,oJ 55 0)] [.cells 117 [.sl 1 1 0 k],.row 5 1 k (aR cT B)]) (eK (iU 32 [1,3,4]) (bU Tryz.prog Tryz.f35))=Tr.rq
 ((k=B.length∧k=B.length∧∀(e o:Nat),e<B.length→o<1→aR cT B e o=aR cT B e o) ∧
 (∀(o:Nat),o<12→iY d 0 o=gG d o)∧(∀(x:Int),x∈PO d→inR aC x)∧(B++tY (PO d)).length≤140737488355328)
 (.done .normal
 (cQ 32 [(1,.c (.lp 12 1 (iY d) 0 0)),(3,.c (.ptr 0 0)),(4,.c (.fn (Fn.func 55) [] [AE.B.ptr 0 0]))] [.cells 117 [.sl 1 1 0 (B++tY (PO d)).length],.row 5 1 (B++tY (PO d)).length fun e o=>cI [0,4] (C.p (PV.i cM (↑((B++tY (PO d)).getD e default).toNat:Int)))])):=by kernel_rfl
theorem aU0(d:De)(k:Nat)(B:List UInt8):dI (aM4 B) (bZ 8 (dW Tryz.prog Tryz.f35)) (cQ 32 [(1,.c (.lp 12 1 (iY d) 0 0)),(3,.c (.ptr 0 0)),(4,oJ 55 0)] [.cells 117 [.sl 1 1 0 k],.row 5 1 k (aR cT B)]) (eK [] (bU Tryz.prog Tryz.f35))=Tr.rq ((k=B.length∧k=B.length∧∀(e o:Nat),e<B.length→o<1→aR cT B e o=aR cT B e o)∧B.length≤140737488355328)
 (.done .ret (St.mk [V.c (C.p (PV.l 1 B.length (bF cT B)))] [])):=by kernel_rfl
theorem aQ9{n sz e o:Nat}{f g:Nat→Nat→PV}(h:∀e o,e<n→o<sz→nM (f e o) (g e o)):lO (.c (.lp sz n f e o)) (.c (.lp sz n g e o)):=by
 rintro β R w u ⟨ad,h1,h2,h3,h4⟩;refine⟨ad,h1,h2,h3,fun e o he ho=>?_⟩;obtain⟨u,h5,h6⟩:=h4 e o he ho;exact⟨u,h5,h e o he ho _ _ _ h6⟩
theorem yK:∀k n,n<128^(k+1)→(jQ n).length≤k+1
 |0,n,h=>by rw[wX (by simpa using h)];exact aJ _
 |k+1,n,h=>by
  by_cases c:n<128
  ·rw[wX c];show 1≤k+1+1;omega
  ·rw[CJ c]
   have:=yK k (n / 128) (Nat.div_lt_of_lt_mul (by rw[Nat.pow_succ,Nat.mul_comm]at h;exact h))
   show (jQ (n / 128)).length+1≤_
   omega
theorem FY{n:Int}(h:inR .i64 n):(rO n).length≤10:=yK 9 _ (Nat.lt_trans (aMQ h.1 h.2) (by decide))
theorem rH{s:ByteArray}(h:s.size≤16):(kX s).length≤17:=by
 unfold kX
 have e:s.data.toList.length=s.size:=by rw[Array.length_toList];rfl
 have:=yK 0 s.size (by omega)
 rw[bJ];omega
theorem zF:∀ {l:List Int},(∀x∈l,inR .i64 x)→(tY l).length≤10*l.length
 |[],_=>bK _
 |x::r,h=>by
  have h1:=FY (h x (bH ..))
  have h2:=zF (l:=r) fun y hy=>h y (bL _ hy)
  show (rO x++tY r).length≤10*(r.length+1)
  rw[bJ];omega
theorem OD:∀ {l:List (ByteArray×ByteArray)},(∀x∈l,x.1.size≤16∧x.2.size≤16)→(XM l).length≤34*l.length
 |[],_=>bK _
 |x::r,h=>by
  have h1:=rH (h x (bH ..)).1
  have h3:=rH (h x (bH ..)).2
  have h2:=OD (l:=r) fun y hy=>h y (bL _ hy)
  show (kX x.1++kX x.2++XM r).length≤34*(r.length+1)
  rw[bJ,bJ];omega
def OkD(d:De):Prop:=d.nm.size≤16∧d.L.length≤2∧(∀x∈d.L,x.1.size≤16∧x.2.size≤16)∧∀x∈PO d,inR .i64 x
theorem PA{d:De}(h:OkD d):(BC d).length≤1000:=by
 obtain⟨h1,h2,h3,h4⟩:=h
 have a1:=rH h1
 have a2:=FY (n:=(d.L.length:Int)) (by simp only[inR];omega)
 have a3:=OD h3
 have a4:=zF h4
 have a5:(PO d).length=10:=rfl
 unfold BC;simp only[bJ];omega
theorem aAA:∀X Y:List (ByteArray×ByteArray),XM (X++Y)=XM X++XM Y
 |[],_=>rfl
 |x::X,Y=>by
  show kX x.1++kX x.2++XM (X++Y)=(kX x.1++kX x.2++XM X)++XM Y
  rw[aAA X Y,eN (kX x.1++kX x.2)]
def aO7(l:PV)(L:List (ByteArray×ByteArray)):Option Prop:=match l with
 |.l 2 n f=>some (n=L.length∧∀e o,e<L.length→o<2→f e o=bF kC L e o)
 |.z (.slice none 0 0)=>some (L=[])
 |_=>none
theorem aKH{x:PV}{p:Prop}{L:List (ByteArray×ByteArray)}(h:aO7 x L=some p)(hp:p):nM x (mU kC 2 L):=by
 unfold aO7 at h;split at h
 ·injection h with h
  subst h;obtain⟨rfl,h2⟩:=hp
  exact nM.l fun e o he ho=>nM.of_eq (h2 e o he ho)
 ·injection h with h
  subst h;subst hp;exact nM.nil 2 _
 ·cases h
def SL(x:V)(d:De):Option Prop:=match x with
 |.a [.p (.s nm),.p l,.p (.i .i64 u0),.p (.i .i64 u1),.p (.i .i64 u2),.p (.i .i64 lo),.p (.i .i64 hi),.p (.i .i64 dn),.p (.i .i64 up),.p (.i .i64 fi),.p (.i .i64 la),.p (.i .i64 bu)]=>match aO7 l d.L with
  |some p=>some (p∧nm=d.nm∧u0=d.u0∧u1=d.u1∧u2=d.u2∧lo=d.lo∧hi=d.hi∧dn=d.dn∧up=d.up∧fi=d.fi∧la=d.la∧bu=d.bu)
  |none=>none
 |_=>none
theorem BO{x:V}{p:Prop}{d:De}(h:SL x d=some p)(hp:p):lO x (deV d):=by
 unfold SL at h
 split at h;rotate_left;· cases h
 rename_i nm l u0 u1 u2 lo hi dn up fi la bu
 split at h;rotate_left;· cases h
 rename_i q hl;injection h with h;subst h;obtain⟨h0,rfl,rfl,rfl,rfl,rfl,rfl,rfl,rfl,rfl,rfl,rfl⟩:=hp;exact lO.a (xs:=[.s d.nm,l,.i .i64 d.u0,.i .i64 d.u1,.i .i64 d.u2,.i .i64 d.lo,.i .i64 d.hi,.i .i64 d.dn,.i .i64 d.up,.i .i64 d.fi,.i .i64 d.la,.i .i64 d.bu]) (vs:=IR d) (.cons (.refl _) (.cons (aKH hl h0) (.cons (.refl _) (.cons (.refl _) (.cons (.refl _) (.cons (.refl _) (.cons (.refl _) (.cons (.refl _) (.cons (.refl _) (.cons (.refl _) (.cons (.refl _) (.cons (.refl _) .nil))))))))))))
def XF(d:De):Mod
 |[x]=>match SL x d with
  |some p=>some (p∧OkD d,aQ cT 1 (BC d))
  |none=>none
 |_=>none
theorem aCS{L:List (ByteArray×ByteArray)}{i:Nat}(h:i<L.length):L.getD i default∈L:=by
 rw[aD,aH h];exact List.getElem_mem h
theorem aKP(j r:Nat)(x:V)(hx:OJ [j,r] [j] 2 x=x)(hx2:OJ [0,1] [0] 2 x=x)(cf:Nat):qB [j,r] [j] 2 [x,oJ cf j]=qB [0,1] [0] 2 [x,oJ cf 0]:=by
 have i5:iN j [j] 0=some 0:=by simp only[iN,qE]
 simp only[qB,hx,hx2];simp only[OJ,PN,oJ,OL,XS,i5];rfl
section
variable {G:Nat→Option Obj}
theorem TE(B:List UInt8)(S:List PV):cF Tryz.prog G (aME B S):=iX (by simp;exact aJS B S)
theorem AP(B:List UInt8)(S:List PV):cF Tryz.prog G (aGY B S):=iX (by simp;exact aJR B S)
theorem aOS(d:De)(h:∀x∈PO d,inR .i64 x):∀x∈BB d,kI x:=fun x hx=>by
 have hx:x∈(PO d).map (PV.i .i64):=hx
 obtain⟨n,hn,rfl⟩:=List.mem_map.1 hx;exact⟨n,rfl,h n hn⟩
theorem aI4{P:Program}{f:FuncId}{q off cf:Nat}{y:V}{h:List AO}{K:V→List AO→Prop}(hf:lW P G f [y,.c (.fn (.func cf) [] [.ptr (wU h q) off])] h K):lW P G f [y,.c (.fn (.func cf) [] [.ptr q off])] h K:=by
 unfold wU at hf;split at hf
 ·rename_i j b0 hq
  intro β R w vs ha hh;refine hf β R w vs ?_ hh
  generalize vs.toList=us at ha
  obtain⟨u0,us0,rfl,h0,ha1⟩:=All2.nth2 ha;obtain⟨u,us1,rfl,⟨ws1,ws2,rfl,h1,h2⟩,ha2⟩:=All2.nth2 ha1;obtain⟨u2,us2,e3,⟨b,o,e1,e2⟩,h3⟩:=All2.nth2 h2
  have hob:=hh.obj q b o e1
  rw[hq]at hob;obtain⟨e4,o2,e5⟩:=hob;subst e4;refine⟨h0,⟨ws1,ws2,rfl,h1,?_⟩,ha2⟩;rw[e3];exact⟨⟨_,o2,e5,e2⟩,h3⟩
 ·exact hf
set_option maxRecDepth 100000 in
theorem aNO(B:List UInt8)(d:De):lV Tryz.prog G 59 (aA7 B d):=by
 intro args h p v h' hm hp;unfold aA7 at hm
 split at hm;rotate_left;· cases hm
 split at hm;rotate_left;· cases hm
 rename_i f gg q _ _ p0 r hcf hw;obtain⟨rfl,rfl,rfl⟩:=mZ hm;clear hm;obtain⟨hq,hf,hd,hB⟩:=hp;obtain rfl:=aF hcf;obtain⟨g1,k1,k2,k3⟩:=oX hw hq
 have he0:∀e o,e<1→o<12→f e o=iY d e o:=fun e o he ho=>by
  obtain rfl:e=0:=by omega
  exact hf o ho
 refine lW.args (args':=[.c (.lp 12 1 (iY d) 0 0),oJ 60 q]) (aI4 ?_) (.cons (aQ9 (sz:=12) (n:=1) fun e o he ho=>nM.of_eq (he0 e o he ho)) (.cons (.refl _) .nil))
 refine UV (args0:=[.c (.lp 12 1 (iY d) 0 0),oJ 60 0]) (vs:=[]) (sl:=[oJ 60 0]) (ps:=[1]) Tryz.func59 (by kernel_rfl) k1 k2 k3 (aKP _ _ _ rfl rfl _) rfl ⟨_,bL _ (bH ..),0,.inr (bH ..)⟩ rfl ⟨_,bH ..,0,.inr (bH ..)⟩ fun b=>?_
 refine jP.evH (TE B (BB d)) (tNu b B d) ?_;simp only[aX,aL,jC]
 refine⟨⟨⟨trivial,trivial,fun _ _ _ _=>rfl⟩,rfl,rfl,trivial,?_,aOS d hd,show 10≤1000 by decide,hB⟩,⟨trivial,[],rfl,aP (by kernel_rfl)⟩⟩
 intro e he
 match e,he with
 |0,_|1,_|2,_|3,_|4,_|5,_|6,_|7,_|8,_|9,_=>rfl
 |e+10,h=>exact absurd h (by show ¬e+10<10;omega)
theorem YH(B:List UInt8)(d:De):cF Tryz.prog G (rT [(59,aA7 B d)]):=iX (by simp;exact aNO B d)
set_option maxRecDepth 100000 in
theorem aFA(d:De):hO Tryz.prog G 35 (XF d):=by
 intro args p v hm hp h;unfold XF at hm
 split at hm;rotate_left;· cases hm
 split at hm;rotate_left;· cases hm
 rename_i x _ q hx;obtain⟨rfl,rfl⟩:=dB hm;clear hm;obtain⟨hq,hd⟩:=hp;refine lW.args (args':=[deV d]) ?_ (.cons (BO hx hq) .nil)
 have hlen:=PA hd
 obtain⟨h1,h2,h3,h4⟩:=hd
 have a1:=rH h1
 have a2:∀B:List UInt8,[PV.s d.nm].length=1:=fun _=>rfl
 refine oY Tryz.func35 (by kernel_rfl) rfl ?_ h
 refine dK.evG aV 1 (tD0 d) ?_;simp only[aL,bE];refine⟨?_⟩
 refine dK.pre ((pD (j:=1) (id:=0) (off:=0) (n:=12) (iY d) (by rfl) (by rfl) rfl (fun o ho=>?_)).trans ((iT (iU 32 [1]) _).trans (aP (st':=cQ 32 [(1,.c (.lp 12 1 (iY d) 0 0))] []) (by kernel_rfl)))) ?_
 ·match o,ho with
  |0,_|1,_|2,_|3,_|4,_|5,_|6,_|7,_|8,_|9,_|10,_|11,_=>exact⟨_,rfl,nM.refl _⟩
 refine dK.evG aV 1 (tD1 d) ?_;simp only[aL,bE];refine⟨?_⟩
 refine dK.pre ((aB9 5 1 (aR cT []) (id:=0) (k:=0) (by rfl) (by rfl)).trans (aP (st':=(fun(k:Nat) (B:List UInt8)=>cQ 32 [(1,.c (.lp 12 1 (iY d) 0 0)),(3,.c (.ptr 0 0))] [.cells 117 [.sl 1 1 0 k],.row 5 1 k (aR cT B)]) 0 []) (by kernel_rfl))) ?_
 refine dK.evG aV 1 (tD2 d 0 []) ?_;simp only[aL,bE]
 refine⟨dK.pre (aP (st':=(fun(k:Nat) (B:List UInt8)=>cQ 32 [(1,.c (.lp 12 1 (iY d) 0 0)),(3,.c (.ptr 0 0)),(4,oJ 55 0)] [.cells 117 [.sl 1 1 0 k],.row 5 1 k (aR cT B)]) 0 []) (by kernel_rfl)) ?_⟩
 refine dK.evG (AP [] [.s d.nm]) 1 (tD3 d 0 []) ?_
 have hB1:([]++lK [PV.s d.nm]:List UInt8)=kX d.nm:=by show kX d.nm++[]=_;rw[iG]
 simp only[aX,aL,bE,hB1];refine⟨⟨⟨rfl,rfl,fun _ _ _ _=>trivial⟩,rfl,rfl,trivial,?_,?_,show 1≤1000 by decide,by omega⟩,⟨?_⟩⟩
 ·intro e he
  match e,he with
  |0,_=>rfl
  |e+1,h=>exact absurd h (by show ¬e+1<1;omega)
 ·intro y hy
  obtain rfl:=fF.1 hy;exact⟨_,rfl,by omega⟩
 refine dK.pre (aP (st':=(fun(k:Nat) (B:List UInt8)=>cQ 32 [(1,.c (.lp 12 1 (iY d) 0 0)),(3,.c (.ptr 0 0)),(4,oJ 55 0)] [.cells 117 [.sl 1 1 0 k],.row 5 1 k (aR cT B)]) (kX d.nm).length (kX d.nm)) (by kernel_rfl)) ?_
 have h5:inR .i64 (d.L.length:Int):=by simp only[inR];omega
 have a6:=FY h5
 refine dK.evG (AN (kX d.nm) d.L.length) 1 (tD4 d (kX d.nm).length (kX d.nm)) ?_;simp only[aX,aL,bE];refine⟨⟨⟨trivial,trivial,fun _ _ _ _=>trivial⟩,trivial,h5,by rw[bJ];omega⟩,⟨?_⟩⟩
 obtain⟨B2,hB2⟩:∃B2,kX d.nm++rO d.L.length=B2:=⟨_,rfl⟩
 have hl2:B2.length≤27:=by rw[←hB2,bJ];omega
 rw[hB2]
 refine dK.pre (aP (st':=(fun(k:Nat) (B:List UInt8)=>cQ 32 [(1,.c (.lp 12 1 (iY d) 0 0)),(3,.c (.ptr 0 0)),(4,oJ 55 0)] [.cells 117 [.sl 1 1 0 k],.row 5 1 k (aR cT B)]) B2.length B2) (by kernel_rfl)) ?_
 refine dK.evG aV 1 (tD5 d B2.length B2) ?_;simp only[aX,aL,bE];refine⟨?_⟩
 refine dK.loop' (l:=bZ 6 (dW Tryz.prog Tryz.f35)) (id:=0) (b:=inr (inr (aZ .skip (dW Tryz.prog Tryz.f35) 6))) (r:=bZ 7 (dW Tryz.prog Tryz.f35)) (by kernel_rfl) (σ:=Nat)
   (fun i=>(fun(L:List (ByteArray×ByteArray)) (k i:Nat) (B:List UInt8)=>cQ 32 [(1,.c (.lp 12 1 (iY d) 0 0)),(3,.c (.ptr 0 0)),(4,oJ 55 0),(17,aQ kC 2 L),(18,iV (L.length:Nat)),(19,iV (i:Nat))] [.cells 117 [.sl 1 1 0 k],.row 5 1 k (aR cT B)]) d.L (B2++XM (d.L.take i)).length i (B2++XM (d.L.take i))) (fun i=>i≤d.L.length) (fun i=>d.L.length-i) 0 (bK _) (by
    show cL G _ ((fun(L:List (ByteArray×ByteArray)) (k i:Nat) (B:List UInt8)=>cQ 32 [(1,.c (.lp 12 1 (iY d) 0 0)),(3,.c (.ptr 0 0)),(4,oJ 55 0),(17,aQ kC 2 L),(18,iV (L.length:Nat)),(19,iV (i:Nat))] [.cells 117 [.sl 1 1 0 k],.row 5 1 k (aR cT B)]) d.L (B2++[]).length 0 (B2++[]))
    rw[iG]
    exact aP (by kernel_rfl)) ?_
 intro i hi Q1 q1n q1e _
 have htk:(XM (d.L.take i)).length≤68:=by
  have:=OD (l:=d.L.take i) fun y hy=>h3 y (List.mem_of_mem_take hy)
  rw[List.length_take]at this;omega
 obtain⟨B3,hB3⟩:∃B3,B2++XM (d.L.take i)=B3:=⟨_,rfl⟩
 have hl3:B3.length≤95:=by rw[←hB3,bJ];omega
 rw[hB3];refine dK.evG aV 2 (tD6 d d.L B3.length i B3) ?_;simp only[eV,aX,aL,bE,jK,decide_eq_true_eq,decide_eq_false_iff_not];refine⟨fun c=>⟨?_⟩,fun c=>⟨q1e _ ?_⟩⟩
 ·have hlt:i<d.L.length:=by omega
  refine dK.blk' (l:=bZ 2 (jM (dW Tryz.prog Tryz.f35) 6)) (id:=1) (a:=inr (aZ .skip (jM (dW Tryz.prog Tryz.f35) 6) 2)) (r:=bZ 3 (jM (dW Tryz.prog Tryz.f35) 6)) (by kernel_rfl) ?_
  intro Q2 q2n q2e _
  refine dK.pre (aP (st':=(fun(L:List (ByteArray×ByteArray)) (k i:Nat) (B:List UInt8)=>cQ 32 [(1,.c (.lp 12 1 (iY d) 0 0)),(3,.c (.ptr 0 0)),(4,oJ 55 0),(17,aQ kC 2 L),(18,iV (L.length:Nat)),(19,iV (i:Nat))] [.cells 117 [.sl 1 1 0 k],.row 5 1 k (aR cT B)]) d.L B3.length i B3) (by kernel_rfl)) ?_
  refine dK.evG aV 1 (tD7 d d.L B3.length i B3) ?_;simp only[aX,aL,bE,show (↑i:Int).toNat=i from rfl];refine⟨⟨by omega,by omega⟩,⟨?_⟩⟩
  have hx:=h3 _ (aCS hlt)
  have htk1:d.L.take (i+1)=d.L.take i++[d.L.getD i default]:=by
   rw[fP hlt,aD,aH hlt];rfl
  generalize d.L.getD i default=y at hx htk1 ⊢
  have b1:=rH hx.1
  have b2:=rH hx.2
  refine dK.pre ((pD (j:=6) (id:=1) (off:=0) (n:=2) (lb2 y) (by rfl) (by rfl) rfl (fun o ho=>?_)).trans ((iT (iU 32 [1,3,4,6,17,18,19]) _).trans (aP (st':=(fun(L:List (ByteArray×ByteArray)) (x:ByteArray×ByteArray) (k i:Nat) (B:List UInt8)=>cQ 32 [(1,.c (.lp 12 1 (iY d) 0 0)),(3,.c (.ptr 0 0)),(4,oJ 55 0),(6,.c (.lp 2 1 (lb2 x) 0 0)),(17,aQ kC 2 L),(18,iV (L.length:Nat)),(19,iV (i:Nat))] [.cells 117 [.sl 1 1 0 k],.row 5 1 k (aR cT B)]) d.L y B3.length i B3) (by kernel_rfl)))) ?_
  ·match o,ho with
   |0,_|1,_=>exact⟨_,rfl,nM.refl _⟩
  refine dK.evH (AP B3 [.s y.1,.s y.2]) (tD8 d d.L y B3.length i B3) ?_
  have hB4:lK [PV.s y.1,PV.s y.2]=kX y.1++kX y.2:=by show kX y.1++(kX y.2++[])=_;rw[iG]
  simp only[aX,aL,bE,hB4];refine⟨⟨⟨trivial,trivial,fun _ _ _ _=>trivial⟩,rfl,rfl,trivial,?_,?_,show 2≤1000 by decide,by simp only[bJ];omega⟩,⟨q2n _ ?_⟩⟩
  ·intro e he
   match e,he with
   |0,_|1,_=>rfl
   |e+2,h=>exact absurd h (by show ¬e+2<2;omega)
  ·intro z hz
   simp only[cR,List.not_mem_nil,or_false]at hz
   rcases hz with rfl|rfl
   ·exact⟨_,rfl,by omega⟩
   ·exact⟨_,rfl,by omega⟩
  obtain⟨B5,hB5⟩:∃B5,B3++(kX y.1++kX y.2)=B5:=⟨_,rfl⟩
  rw[hB5]
  refine dK.pre (aP (st':=(fun(L:List (ByteArray×ByteArray)) (k i:Nat) (B:List UInt8)=>cQ 32 [(1,.c (.lp 12 1 (iY d) 0 0)),(3,.c (.ptr 0 0)),(4,oJ 55 0),(17,aQ kC 2 L),(18,iV (L.length:Nat)),(19,iV (i:Nat))] [.cells 117 [.sl 1 1 0 k],.row 5 1 k (aR cT B)]) d.L B5.length i B5) (by kernel_rfl)) ?_
  refine dK.evH aV (tD9 d d.L B5.length i B5) ?_;simp only[aX,aL,bE,inR];refine⟨by omega,⟨q1n (i+1) _ hlt (by omega) ?_⟩⟩
  have e2:B2++XM (d.L.take (i+1))=B5:=by
   rw[htk1,aAA,←eN,hB3,←hB5]
   show B3++((kX y.1++kX y.2)++[])=_
   rw[iG]
  rw[e2]
  exact aP (by kernel_rfl)
 ·obtain rfl:i=d.L.length:=by omega
  rw[fL]at hB3
  refine dK.pre ((iT (iU 32 [1,3,4]) _).trans (aP (st':=(fun(k:Nat) (B:List UInt8)=>cQ 32 [(1,.c (.lp 12 1 (iY d) 0 0)),(3,.c (.ptr 0 0)),(4,oJ 55 0)] [.cells 117 [.sl 1 1 0 k],.row 5 1 k (aR cT B)]) B3.length B3) (by kernel_rfl))) ?_
  have a7:=zF h4
  have a8:(PO d).length=10:=rfl
  refine dK.evG (YH B3 d) 1 (aU1 d B3.length B3) ?_;simp only[aX,aL,bE];refine⟨⟨⟨trivial,trivial,fun _ _ _ _=>trivial⟩,fun o ho=>rfl,h4,by rw[bJ];omega⟩,⟨?_⟩⟩
  have hB6:B3++tY (PO d)=BC d:=by
   unfold BC;rw[hB2,hB3]
  rw[hB6]
  refine dK.pre (aP (st':=(fun(k:Nat) (B:List UInt8)=>cQ 32 [(1,.c (.lp 12 1 (iY d) 0 0)),(3,.c (.ptr 0 0)),(4,oJ 55 0)] [.cells 117 [.sl 1 1 0 k],.row 5 1 k (aR cT B)]) (BC d).length (BC d)) (by kernel_rfl)) ?_
  refine dK.evH (SX (BC d)) (aU0 d (BC d).length (BC d)) ?_;simp only[aX,aL,gX];exact⟨⟨⟨trivial,trivial,fun _ _ _ _=>trivial⟩,by omega⟩,⟨lO.refl _⟩⟩
end
end Go.AE
