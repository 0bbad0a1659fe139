import Derived.Test.YtgdlaibocecehaaGreatDoorRVk
import Derived.Test.YtgdlaibocecehaaGreatDoorRVj
import Derived.Test.YtgdlaibocecehaaGreatDoorRVi
set_option linter.unusedVariables false
set_option linter.unusedSimpArgs false
namespace Go.AE
open _root_.ByteArray renaming mk→aO
open _root_.Int renaming ofNat→aF,toNat→aL
open IntKind renaming i64→aA
open _root_.List renaming getD_eq_getElem?_getD→aG,getElem?_eq_getElem→aN,getElem?_eq_none→bL,getElem?_map→dJ,getElem?_range→eM,getElem?_take→gD,length_append→gC,length_set→fI,length_take→eQ,range→dL,range_succ→gE
open _root_.Nat renaming le_refl→aU,lt_or_ge→cK,zero_le→bH
open Value renaming slice→dP
open Go.Proofs Go.Proofs.YtgdlaibocecehaaGreatDoor Go.RowKit
structure Cl where
 fr:Int
 to:Int
 lo:Int
 hi:Int
structure De where
 nm:ByteArray
 L:List (ByteArray×ByteArray)
 u0:Int
 u1:Int
 u2:Int
 lo:Int
 hi:Int
 dn:Int
 up:Int
 fi:Int
 la:Int
 bu:Int
structure Se where
 d:De
 C:List Cl
instance:Inhabited Cl:=⟨⟨0,0,0,0⟩⟩
instance:Inhabited De:=⟨⟨⟨#[]⟩,[],0,0,0,0,0,0,0,0,0,0⟩⟩
instance:Inhabited Se:=⟨⟨default,[]⟩⟩
def hY(c:Cl)(o:Nat):PV:=match o with
 |0=>.i .i64 c.fr
 |1=>.i .i64 c.to
 |2=>.i .i64 c.lo
 |_=>.i .i64 c.hi
def bQ(d:De)(o:Nat):PV:=match o with
 |0=>.s d.nm
 |1=>AT fD 2 d.L
 |2=>.i .i64 d.u0
 |3=>.i .i64 d.u1
 |4=>.i .i64 d.u2
 |5=>.i .i64 d.lo
 |6=>.i .i64 d.hi
 |7=>.i .i64 d.dn
 |8=>.i .i64 d.up
 |9=>.i .i64 d.fi
 |10=>.i .i64 d.la
 |_=>.i .i64 d.bu
def gK(s:Se)(o:Nat):PV:=match o with
 |12=>AT hY 4 s.C
 |o=>bQ s.d o
def HQ(s:ByteArray)(l:List Int):Int:=aH4 (pE (PlainAid.bt s) s.size ((s.size+7) / 8)) s.size l
theorem aM7(s:ByteArray)(l:List Int):U64 (HQ s l):=xU _ _
def BY(x:V)(L:List Int):Option Prop:=match x with
 |.c (.p (.l 1 n f))=>some (n=L.length∧∀e o,e<L.length→o<1→f e o=aJ aW L e o)
 |.c (.p (.z (.slice none 0 0)))=>some (L=[])
 |_=>none
theorem mO{x:V}{p:Prop}{L:List Int}(h:BY x L=some p)(hp:p):eL x (aX aW 1 L):=by
 unfold BY at h;split at h
 ·injection h with h
  subst h;obtain⟨rfl,h2⟩:=hp;exact eL.p (jT.l fun e o he ho=>jT.of_eq (h2 e o he ho))
 ·injection h with h
  subst h;subst hp;exact eL.p (jT.nil 1 _)
 ·cases h
def YM(s:ByteArray)(L:List Int):Mod
 |[.c (.p (.s s')),x]=>match BY x L with
  |some p=>some (p∧s'=s∧s.size≤1000∧L.length≤1000000,u6V (HQ s L))
  |none=>none
 |_=>none
section
variable {G:Nat→Option Obj}
theorem aHH{R:Nat→Prop}{w:World}{L:List Int}{u:Value}(hr:∀b,R b→b<w.heap.size)(h:PR R w (AT aW 1 L) u):∃A c,u=.slice A L.length c∧Rd w w.heap.size A L.length fun k=>.int .i64 (L[k]?.getD 0):=by
 obtain⟨A,c,rfl,hnc,hcm,hc⟩:=h;refine⟨A,c,rfl,fun hn=>?_⟩;obtain⟨ad,rfl,hRb,hcell⟩:=hc hn;refine⟨ad,rfl,hr _ hRb,fun k hk=>?_⟩;obtain⟨u,e1,e2⟩:=hcell k 0 hk (by decide)
 have e2:u=.int .i64 (L.getD k default):=e2
 subst e2;rw[show k*1+0=k by omega]at e1
 show w.cell? (ad.add k)=some (.int .i64 (L[k]?.getD 0))
 rw[←aG];exact e1
theorem aMT{f:FuncId}(hf:∀(s:ByteArray),s.size≤1000→∀(A:Option Addr) (len cap:Nat),len≤1000000→∀(g:Nat→Int) (w:World),(Rd w w.heap.size A len fun k=>.int .i64 (g k)) →
  Calls Tryz.prog f #[.string s,.slice A len cap] w fun e W'=>e=.returned (.int .u64 (aH4 (pE (PlainAid.bt s) s.size ((s.size+7) / 8)) s.size (gl g len)))∧Below w.heap.size w W') (s:ByteArray) (L:List Int):dD Tryz.prog G f (YM s L):=by
 intro args p v hm hp h;unfold YM at hm
 split at hm;rotate_left;· cases hm
 rename_i s' x
 split at hm;rotate_left;· cases hm
 rename_i q hx;obtain⟨rfl,rfl⟩:=bA hm;clear hm;obtain⟨hq,rfl,hs,hl⟩:=hp;refine lW.args (args':=[.c (.p (.s s')),aX aW 1 L]) ?_ (.cons (.refl _) (.cons (mO hx hq) .nil));refine GJ rfl ?_ h;intro R w vs hr hg ha
 obtain⟨u,l,e,hu,ha⟩:=All2.nth2 ha;obtain⟨u1,l1,rfl,hu1,ha⟩:=All2.nth2 ha;obtain rfl:=All2.nil2 ha
 have hu:u=.string s':=hu
 subst hu;obtain⟨A,c,rfl,hRd⟩:=aHH hr (show PR R w (AT aW 1 L) u1 from hu1)
 obtain rfl:vs = #[.string s',.slice A L.length c]:=by
  apply Array.ext';simpa using e
 refine(hf s' hs A L.length c hl _ w hRd).mono ?_;rintro e w' ⟨rfl,hb⟩;refine⟨_,rfl,?_,hb⟩;rw[aJG];rfl
theorem aN2(s:ByteArray)(L:List Int):dD Tryz.prog G 58 (YM s L):=aMT (fun s hs A len cap hl g w hR=>aD9 s (by omega) A len cap hl g w hR) s L
end
def kK(d:De):Nat→Nat→PV:=fun _ o=>bQ d o
def IF(d:De):List PV:=[.s d.nm,AT fD 2 d.L,.i .i64 d.u0,.i .i64 d.u1,.i .i64 d.u2,.i .i64 d.lo,.i .i64 d.hi,.i .i64 d.dn,.i .i64 d.up,.i .i64 d.fi,.i .i64 d.la,.i .i64 d.bu]
def deV(d:De):V:=.a (iP (IF d))
def aO4(l:PV)(L:List (ByteArray×ByteArray)):Option Prop:=match l with
 |.l 2 n f=>some (n=L.length∧∀e o,e<L.length→o<2→f e o=aJ fD L e o)
 |.z (.slice none 0 0)=>some (L=[])
 |_=>none
theorem aJ2{x:PV}{p:Prop}{L:List (ByteArray×ByteArray)}(h:aO4 x L=some p)(hp:p):jT x (AT fD 2 L):=by
 unfold aO4 at h;split at h
 ·injection h with h
  subst h;obtain⟨rfl,h2⟩:=hp
  exact jT.l fun e o he ho=>jT.of_eq (h2 e o he ho)
 ·injection h with h
  subst h;subst hp;exact jT.nil 2 _
 ·cases h
def VD(x:V)(d:De):Option Prop:=match x with
 |.a [.p (.s nm),.p l,.p (.i .i64 u0),.p (.i .i64 u1),.p (.i .i64 u2),.p (.i .i64 lo),.p (.i .i64 hi),.p (.i .i64 dn),.p (.i .i64 up),.p (.i .i64 fi),.p (.i .i64 la),.p (.i .i64 bu)]=>match aO4 l d.L with
  |some p=>some (p∧nm=d.nm∧u0=d.u0∧u1=d.u1∧u2=d.u2∧lo=d.lo∧hi=d.hi∧dn=d.dn∧up=d.up∧fi=d.fi∧la=d.la∧bu=d.bu)
  |none=>none
 |_=>none
theorem NM{x:V}{p:Prop}{d:De}(h:VD x d=some p)(hp:p):eL x (deV d):=by
 unfold VD at h
 split at h;rotate_left;· cases h
 rename_i nm l u0 u1 u2 lo hi dn up fi la bu
 split at h;rotate_left;· cases h
 rename_i q hl;injection h with h;subst h;obtain⟨h0,rfl,rfl,rfl,rfl,rfl,rfl,rfl,rfl,rfl,rfl,rfl⟩:=hp;exact eL.a (xs:=[.s d.nm,l,.i .i64 d.u0,.i .i64 d.u1,.i .i64 d.u2,.i .i64 d.lo,.i .i64 d.hi,.i .i64 d.dn,.i .i64 d.up,.i .i64 d.fi,.i .i64 d.la,.i .i64 d.bu]) (vs:=IF d) (.cons (.refl _) (.cons (aJ2 hl h0) (.cons (.refl _) (.cons (.refl _) (.cons (.refl _) (.cons (.refl _) (.cons (.refl _) (.cons (.refl _) (.cons (.refl _) (.cons (.refl _) (.cons (.refl _) (.cons (.refl _) .nil))))))))))))
theorem aGT{p q:Prop}{v u:V}{h h':List AO}(e:some (p,v,h)=some (q,u,h')):p=q∧v=u∧h=h':=by
 injection e with e;injection e with e1 e;injection e with e2 e3;exact⟨e1,e2,e3⟩
def cC(L:List Int)(i m:Int):Int:=if i<0∨L.length≤i then 0 else cM (L.getD i.toNat default) m
def oM(L:List Int):Prop:=∀x∈L,inR .i64 x
def FM(L:List Int):Mod
 |[x,.c (.p (.i .i64 i)),.c (.p (.i .i64 m))]=>match BY x L with
  |some p=>some (p∧0<m,iV (cC L i m))
  |none=>none
 |_=>none
theorem aPO(L:List Int)(i m:Int):cJ aBE (cS Tryz.prog Tryz.f20) (iR Tryz.f20 [aX aW 1 L,iV i,iV m]) (wT [] [] (bB Tryz.prog Tryz.f20))=bT (decide (i<0)) (.done .ret (St.mk [V.c (C.p (PV.i aA 0))] []))
 (bT (decide ((↑L.length:Int)≤i)) (.done .ret (St.mk [V.c (C.p (PV.i aA 0))] []))
 (.rq (0≤i∧i<(↑L.length:Int)) (.rq (inR aA (L.getD i.toNat default)∧0<m) (.done .ret (St.mk [V.c (C.p (PV.i aA (cM (L.getD i.toNat default) m)))] []))))):=by kernel_rfl
theorem QY{L:List Int}{i:Nat}(h:i<L.length):L.getD i default∈L:=by
 rw[aG,aN h];exact List.getElem_mem h
theorem NT{L:List Int}(hL:oM L)(i:Nat):inR .i64 (L.getD i default):=by
 rcases cK i L.length with h|h
 ·exact hL _ (QY h)
 ·rw[aG,bL h]
  show inR .i64 0
  simp only[inR];omega
section
variable {G:Nat→Option Obj}
set_option maxRecDepth 100000 in
theorem MS{L:List Int}(hI:oM L):dD Tryz.prog G 20 (FM L):=by
 intro args p v hm hp h;unfold FM at hm
 split at hm;rotate_left;· cases hm
 rename_i x i m
 split at hm;rotate_left;· cases hm
 rename_i q hx;obtain⟨rfl,rfl⟩:=bA hm;clear hm;obtain⟨hL,hm0⟩:=hp;refine lW.args (args':=[aX aW 1 L,iV i,iV m]) ?_ (.cons (mO hx hL) (.cons (.refl _) (.cons (.refl _) .nil)))
 refine fR Tryz.func20 (by kernel_rfl) rfl ?_ h
 refine cO.evA pS [] [] rfl (aPO L i m) ?_
 have bad:(i<0∨L.length≤i)→eL (V.c (C.p (PV.i .i64 0))) (iV (cC L i m)):=fun hi=>by
  unfold cC;rw[if_pos hi];exact eL.refl _
 have good:¬(i<0∨L.length≤i)→eL (iV (cM (L.getD i.toNat default) m)) (iV (cC L i m)):=fun hi=>by
  unfold cC;rw[if_neg hi];exact eL.refl _
 have hin:¬(i<0∨L.length≤i)→inR .i64 (L.getD i.toNat default):=fun hi=>hI _ (QY (by omega))
 simp only[bD,aS,aI,bK,decide_eq_true_eq,decide_eq_false_iff_not]
 repeat' (first|apply And.intro|intro _)
 all_goals first|(clear bad good hin;omega)|exact⟨bad (by clear bad good hin;omega)⟩|exact⟨good (by clear bad good hin;omega)⟩|exact(hin (by clear bad good hin;omega)).1|exact(hin (by clear bad good hin;omega)).2
end
theorem lS(n:Int){m:Int}(hm:0<m):0≤cM n m∧cM n m<m:=⟨Int.emod_nonneg _ (by omega),Int.emod_lt_of_pos _ hm⟩
theorem cY(L:List Int)(i:Int){m:Int}(hm:0<m):0≤cC L i m∧cC L i m<m:=by
 unfold cC;split
 ·omega
 ·exact lS _ hm
def YE(x y:Int):Int:=if y<x then y else x
def mxZ(x y:Int):Int:=if x<y then y else x
def aXI:ByteArray:=⟨#[99,112,117]⟩
def aX5:ByteArray:=⟨#[109,101,109]⟩
def KD:ByteArray:=⟨#[104,111,115,116]⟩
def WX:ByteArray:=⟨#[122,111,110,101]⟩
def YP(n:Int):List (ByteArray×ByteArray):=if cM n 4=1 then [(KD,⟨#[97]⟩)] else if cM n 4=2 then [(KD,⟨#[98]⟩)] else if cM n 4=3 then [(KD,⟨#[98]⟩),(WX,⟨#[120]⟩)] else []
def vR(k:Int):ByteArray:=if k=0 then aXI else aX5
def lR(l:List Int):De:=⟨vR (cC l 3 2),YP (cC l 4 4),1,0,0,cC l 0 10-9,cC l 0 10-9+cC l 5 17,cC l 1 5-3,cC l 1 5-3+cC l 6 4,cC l 2 7,cC l 2 7+cC l 7 14,cC l 8 40⟩
def Sm(d:De):Prop:=(-100≤d.lo∧d.lo≤d.hi∧d.hi≤100)∧(-100≤d.dn∧d.dn≤d.up∧d.up≤100)∧0≤d.fi∧d.fi≤d.la∧d.la≤100
def iU(d:De)(l:List Int):Nat→Int
 |0=>d.lo+cC l 0 (d.hi-d.lo+1)
 |k+1=>iU d l k+d.dn+cC l ((k:Int)+1) (d.up-d.dn+1)
theorem tB{d:De}(l:List Int)(h:Sm d):∀k:Nat,-100-100*(k:Int)≤iU d l k∧iU d l k≤100+100*(k:Int)
 |0=>by
  obtain⟨h1,h2,h3⟩:=h
  have:=cY l 0 (m:=d.hi-d.lo+1) (by omega)
  simp only[iU];omega
 |k+1=>by
  have ih:=tB l h k
  obtain⟨h1,h2,h3⟩:=h
  have:=cY l ((k:Int)+1) (m:=d.up-d.dn+1) (by omega)
  simp only[iU];omega
def IC(d:De)(p v:Int):Int:=if v<d.lo then mxZ (p+d.dn) (YE d.lo (p+d.up)) else mxZ (YE (YE v d.hi) (p+d.up)) (p+d.dn)
def tW(d:De)(l:List Int):Nat→Int
 |0=>iU d l 0
 |k+1=>IC d (tW d l k) (tW d l k+d.dn+cC l ((k:Int)+1) (d.up-d.dn+1))
theorem VK{d:De}(h:Sm d)(p v:Int):p+d.dn≤IC d p v∧IC d p v≤p+d.up:=by
 obtain⟨h1,h2,h3⟩:=h;unfold IC mxZ YE;split<;>(repeat' split)<;>omega
theorem wJ{d:De}(l:List Int)(h:Sm d):∀k:Nat,-100-100*(k:Int)≤tW d l k∧tW d l k≤100+100*(k:Int)
 |0=>tB l h 0
 |k+1=>by
  have ih:=wJ l h k
  have:=VK h (tW d l k) (tW d l k+d.dn+cC l ((k:Int)+1) (d.up-d.dn+1))
  obtain⟨h1,h2,h3⟩:=h;simp only[tW];omega
def gM(d:De):Nat:=(d.la-d.fi+1).toNat
def IQ(d:De)(l:List Int):List Int:=(dL (gM d)).map (iU d l)
def vJ(d:De)(l:List Int):List Int:=(dL (gM d)).map (tW d l)
theorem AV(d:De)(l:List Int):(vJ d l).length=gM d:=by unfold vJ;simp
theorem aEV(d:De)(l:List Int){k:Nat}(h:k<gM d):(vJ d l).getD k default=tW d l k:=by
 unfold vJ;rw[aG,dJ,eM h];rfl
def Bd(V:List Int):Prop:=∀k,-20000≤V.getD k default∧V.getD k default≤20000
theorem aJ8{d:De}(l:List Int)(h:Sm d):Bd (vJ d l):=fun k=>by
 rcases cK k (gM d) with hk|hk
 ·rw[aEV d l hk]
  have:=wJ l h k
  have:k<(d.la-d.fi+1).toNat:=hk
  obtain⟨_,_,h1,h2,h3⟩:=h;omega
 ·rw[aG,bL (by rw[AV];exact hk)]
  show -20000≤(0:Int)∧(0:Int)≤20000
  omega
def QS(V:List Int)(f:Nat):Nat→Int
 |0=>V.getD f default
 |j+1=>YE (QS V f j) (V.getD (f+j) default)
def QW(V:List Int)(f:Nat):Nat→Int
 |0=>V.getD f default
 |j+1=>mxZ (QW V f j) (V.getD (f+j) default)
theorem aEP{V:List Int}(h:Bd V)(f:Nat):∀j,-20000≤QS V f j∧QS V f j≤20000
 |0=>h f
 |j+1=>by
  have:=aEP h f j
  have:=h (f+j)
  simp only[QS,YE];split<;>omega
theorem aF7{V:List Int}(h:Bd V)(f:Nat):∀j,-20000≤QW V f j∧QW V f j≤20000
 |0=>h f
 |j+1=>by
  have:=aF7 h f j
  have:=h (f+j)
  simp only[QW,mxZ];split<;>omega
def LH(V l:List Int)(i:Nat):Int:=cM (l.getD i default) V.length
def arG(V l:List Int)(i:Nat):Int:=YE ((V.length:Int)-1) (LH V l i+cM (l.getD (i+1) default) 3)
def arM(l:List Int)(i:Nat):Int:=cM (l.getD (i+2) default) 16
def arN(V l:List Int)(i:Nat):Nat:=(arG V l i-LH V l i+1).toNat
def OC(d:De)(V l:List Int)(i:Nat):Cl:=⟨d.fi+LH V l i,d.fi+arG V l i,QS V (LH V l i).toNat (arN V l i)-arM l i / 4,QW V (LH V l i).toNat (arN V l i)+arM l i%4⟩
def lC(d:De)(V l:List Int)(n:Nat):List Cl:=(dL n).map fun j=>OC d V l (3*j)
theorem aBZ(d:De)(V l:List Int)(n:Nat):lC d V l (n+1)=lC d V l n++[OC d V l (3*n)]:=by unfold lC;rw[gE,List.map_append];rfl
theorem SL(d:De)(V l:List Int)(n:Nat):(lC d V l n).length=n:=by unfold lC;simp
def yI(l:List Int)(most:Nat):Nat:=min (l.length / 3) most
def vM:ByteArray:=⟨#[118,105,101,119]⟩
def iW(l:List Int)(at_:Int)(n:Nat):List Int:=(dL n).map fun k:Nat=>HQ vM (l.take 8++[at_,(k:Int)])%1000003
theorem oW(l:List Int)(at_:Int)(n:Nat):(iW l at_ n).length=n:=by unfold iW;simp
theorem tU(l:List Int)(at_:Int)(n k:Nat):0≤(iW l at_ n).getD k default∧(iW l at_ n).getD k default≤1000002:=by
 rcases cK k n with h|h
 ·unfold iW
  rw[aG,dJ,eM h]
  show 0≤HQ _ _%1000003∧HQ _ _%1000003≤1000002
  omega
 ·rw[aG,bL (by rw[oW];exact h)]
  show (0:Int)≤0∧(0:Int)≤1000002
  omega
theorem YS{L:List Int}(h:∀k,0≤L.getD k default∧L.getD k default≤1000002):oM L:=fun x hx=>by
 obtain⟨k,hk,rfl⟩:=List.getElem_of_mem hx
 have:=h k
 rw[aG,aN hk]at this
 have:0≤L[k]∧L[k]≤1000002:=this
 simp only[inR];omega
def aRA(l:List Int)(i:Nat):Int:=cC l 0 8+3*(i:Int)
def sdZ(b:Int)(m:List Int):De:={ lR (m.take 9) with nm:=vR (b%2),L:=YP (b%8 / 2),dn:=YE (lR (m.take 9)).dn 0,up:=mxZ (lR (m.take 9)).up 0,fi:=m.getD 9 default%4,la:=9+m.getD 10 default%4 }
def aHC(b:Int)(m:List Int):Se:=⟨sdZ b m,lC (sdZ b m) (vJ (sdZ b m) ((m.drop 11).take 14)) ((m.drop 25).take (3*(m.getD 40 default%5)).toNat) (m.getD 40 default%5).toNat⟩
def seZ(l:List Int)(i:Nat):Se:=aHC (aRA l i) (iW l i 48)
def oA(l:List Int):Nat:=(cC l 1 4).toNat+1
def jD(l:List Int)(n:Nat):List Se:=(dL n).map (seZ l)
theorem CL(l:List Int)(n:Nat):jD l (n+1)=jD l n++[seZ l n]:=by unfold jD;rw[gE,List.map_append];rfl
theorem rV(l:List Int)(n:Nat):(jD l n).length=n:=by unfold jD;simp
theorem aG1(l:List Int):(-9≤(lR l).lo∧(lR l).lo≤0∧(lR l).lo≤(lR l).hi∧(lR l).hi≤16)∧(-3≤(lR l).dn∧(lR l).dn≤(lR l).up∧(lR l).up≤4)∧0≤(lR l).bu∧(lR l).bu≤39:=by
 have p0:=cY l 0 (m:=10) (by omega)
 have p5:=cY l 5 (m:=17) (by omega)
 have p1:=cY l 1 (m:=5) (by omega)
 have p6:=cY l 6 (m:=4) (by omega)
 have p8:=cY l 8 (m:=40) (by omega)
 simp only[lR];omega
theorem aA7(b:Int)(m:List Int):Sm (sdZ b m):=by
 have h:=aG1 (m.take 9)
 unfold Sm sdZ YE mxZ;dsimp only;refine⟨by omega,⟨?_,?_,?_⟩,by omega,by omega,by omega⟩
 ·split<;>omega
 ·split<;>split<;>omega
 ·split<;>omega
theorem aRD{d:De}(h:Sm d){V:List Int}(hV:Bd V)(hl:0<V.length)(hl2:V.length≤101)(l:List Int)(i:Nat) :
  (0≤LH V l i∧LH V l i<V.length)∧(LH V l i≤arG V l i∧arG V l i<V.length)∧0≤arM l i∧arM l i<16:=by
 have p1:=lS (l.getD i default) (m:=V.length) (by omega)
 have p2:=lS (l.getD (i+1) default) (m:=3) (by omega)
 have p3:=lS (l.getD (i+2) default) (m:=16) (by omega)
 refine⟨p1,?_,p3⟩
 have p1':0≤LH V l i∧LH V l i<V.length:=p1
 unfold arG YE;split<;>omega
def UU(L:List Int):Mod
 |[x,.c (.p (.i .i64 m))]=>match BY x L with
  |some p=>some (p∧0≤m∧L.length≤9223372036854775807∧m≤1000000,aX aW 1 (L.take m.toNat))
  |none=>none
 |_=>none
def aIY:Mod
 |[.c (.p (.i .i64 n))]=>some (inR .i64 n,aX fD 2 (YP n))
 |_=>none
def UT(L:List Int):Mod
 |[x,.c (.p (.i .i64 a)),.c (.p (.i .i64 n))]=>match BY x L with
  |some p=>some (p∧inR .i64 a∧0≤n∧n≤1000∧L.length≤9223372036854775807,aX aW 1 (iW L a n.toNat))
  |none=>none
 |_=>none
def UY(L:List Int):Mod
 |[x]=>match BY x L with
  |some p=>some (p,deV (lR L))
  |none=>none
 |_=>none
def aLM(L:List Int):Ext:=fB [(57,UU L)]
def aL2(M:List Int):Ext:=fB [(58,YM vM M)]
def aLE(L:List Int):Ext:=fB [(20,FM L),(23,aIY)]
theorem tIn(L:List Int)(m:Int):cJ dX (cS Tryz.prog Tryz.f57) (iR Tryz.f57 [aX aW 1 L,iV m]) (cP [] (bB Tryz.prog Tryz.f57))=Tr.rq (0≤(↑0:Int)∧((↑0:Int)≤if m<(↑L.length:Int) then m else (↑L.length:Int))∧(if m<(↑L.length:Int) then m else (↑L.length:Int))≤(↑L.length:Int))
 (.rq
 ((0+((if m<(↑L.length:Int) then m else (↑L.length:Int)).toNat-0))*8≤140737488355328 ∧
 0+((if m<(↑L.length:Int) then m else (↑L.length:Int)).toNat-0)≤140737488355328 ∧
 ∀(e o:Nat),e<(if m<(↑L.length:Int) then m else (↑L.length:Int)).toNat-0→o<1→kZ (C.p (aJ aW L (e+0) o))=true)
 (.rq
 (0+(0+((if m<(↑L.length:Int) then m else (↑L.length:Int)).toNat-0))≤0+((if m<(↑L.length:Int) then m else (↑L.length:Int)).toNat-0) ∧
 ∀(e o:Nat),
 e<0+((if m<(↑L.length:Int) then m else (↑L.length:Int)).toNat-0) →
 o<1→BJ (iZ 0 (fun x x_1=>C.top) (fun e o=>C.p (PV.i aA (L.getD (e+(↑0:Int).toNat) default))) (e+0) o)=true)
 (.done .ret
 (St.mk [V.c (C.p (PV.l 1 (0+((if m<(↑L.length:Int) then m else (↑L.length:Int)).toNat-(↑0:Int).toNat)) fun e o=>tE (iZ 0 (fun x x_1=>C.top) (fun e o=>C.p (PV.i aA (L.getD (e+(↑0:Int).toNat) default))) (e+0) o)))] [])))):=by kernel_rfl
theorem tLb(n:Int):cJ aBE (cS Tryz.prog Tryz.f23) (iR Tryz.f23 [iV n]) (cP [] (bB Tryz.prog Tryz.f23))=Tr.rq (inR aA n∧aF 0<aF 4)
 (bT (cM n 4==1)
 (.rq (1≤1∧∀(e o:Nat),e<1→o<2→BJ (bN C.top [C.p (PV.s (aO #[104,111,115,116])),C.p (PV.s (aO #[97]))] ((e+0)*2+o))=true)
 (.done .ret (St.mk [V.c (C.p (PV.l 2 1 fun e o=>tE (bN C.top [C.p (PV.s (aO #[104,111,115,116])),C.p (PV.s (aO #[97]))] ((e+0)*2+o))))] [])))
 (bT (cM n 4==2)
 (.rq (1≤1∧∀(e o:Nat),e<1→o<2→BJ (bN C.top [C.p (PV.s (aO #[104,111,115,116])),C.p (PV.s (aO #[98]))] ((e+0)*2+o))=true)
 (.done .ret (St.mk [V.c (C.p (PV.l 2 1 fun e o=>tE (bN C.top [C.p (PV.s (aO #[104,111,115,116])),C.p (PV.s (aO #[98]))] ((e+0)*2+o))))] [])))
 (bT (cM n 4==3)
 (.rq
 (2≤2 ∧
 ∀(e o:Nat),
 e<2 →
 o<2 →
 BJ
 (bN C.top (aPS (aO #[104,111,115,116]) (aO #[98]) (aO #[122,111,110,101]) (aO #[120]))
 ((e+0)*2+o)) =
 true)
 (.done .ret
 (St.mk [V.c (C.p (PV.l 2 2 fun e o=>tE (bN C.top (aPS (aO #[104,111,115,116]) (aO #[98]) (aO #[122,111,110,101]) (aO #[120])) ((e+0)*2+o))))] [])))
 (.done .ret (St.mk [V.c (C.p (PV.z (dP none 0 0)))] []))))):=by kernel_rfl
theorem tM1(L:List Int)(a n:Int):cJ (aLM L) (dH 4 (cS Tryz.prog Tryz.f21)) (iR Tryz.f21 [aX aW 1 L,iV a,iV n]) (cP (fO 33 [1,2,7,8,9]) (bB Tryz.prog Tryz.f21))=Tr.rq ((L.length=L.length∧∀(e o:Nat),e<L.length→o<1→aJ aW L e o=aJ aW L e o)∧aF 0≤aF 8∧L.length≤9223372036854775807∧aF 8≤aF 1000000)
 (.done .normal
 (bU 33 [(1,.c (.p (.i .i64 a))),(2,.c (.p (.i .i64 n))),(7,.c (.p (.z (dP none 0 0)))),(8,.c (.p (.l 1 (List.take (aL 8) L).length (aJ aW (List.take (aL 8) L))))),(9,.c (.p (.i .i64 0)))] [])):=by kernel_rfl
theorem tM2(M out:List Int)(a n:Int)(k:Nat):cJ dX (dH 2 (jZ (cS Tryz.prog Tryz.f21) 4)) (bU 33 [(1,iV a),(2,iV n),(7,.c (.sl 0 1 0 k)),(8,aX aW 1 M),(9,iV (k:Nat))] [.row 3 1 k (cR aW out)]) (cP (fO 33 [1,2,7,8,9]) (bB Tryz.prog Tryz.f21))=bT (decide ((↑k:Int)<n))
 (.done .normal
 (bU 33 [(1,.c (.p (.i .i64 a))),(2,.c (.p (.i .i64 n))),(7,.c (.sl 0 1 0 k)),(8,.c (.p (.l 1 M.length (aJ aW M)))),(9,.c (.p (.i .i64 (↑k:Int))))] [.row 3 1 k fun e o=>fG [0] (cR aW out e o)]))
 (.done (.exit 0)
 (bU 33 [(1,.c (.p (.i .i64 a))),(2,.c (.p (.i .i64 n))),(7,.c (.sl 0 1 0 k)),(8,.c (.p (.l 1 M.length (aJ aW M)))),(9,.c (.p (.i .i64 (↑k:Int))))] [.row 3 1 k fun e o=>fG [0] (cR aW out e o)])):=by kernel_rfl
theorem tM3(M out:List Int)(a n:Int)(k:Nat):cJ dX (dH 2 (jH (inr (bN .skip (jZ (cS Tryz.prog Tryz.f21) 4) 2)))) (bU 33 [(1,iV a),(2,iV n),(7,.c (.sl 0 1 0 k)),(8,aX aW 1 M),(9,iV (k:Nat))] [.row 3 1 k (cR aW out)]) (cP (fO 33 [1,2,7,8,9,10]) (bB Tryz.prog Tryz.f21))=Tr.rq ((0+M.length)*8≤140737488355328∧0+M.length≤140737488355328∧∀(e o:Nat),e<M.length→o<1→kZ (C.p (aJ aW M e o))=true)
 (.rq (0+M.length=0+M.length)
 (.rq (2≤2)
 (.rq
 ((0+M.length+2)*8≤140737488355328 ∧
 0+M.length+2≤140737488355328∧∀(e o:Nat),e<2→o<1→kZ (rR [C.p (PV.i aA a),C.p (PV.i aA (↑k:Int))] 1 2 (e+0) o)=true)
 (.done .normal
 (bU 33 [(1,.c (.p (.i .i64 a))),(2,.c (.p (.i .i64 n))),(7,.c (.sl 0 1 0 k)),(8,.c (.p (.l 1 M.length (aJ aW M)))),(9,.c (.p (.i .i64 (↑k:Int)))),(10,.c (.sl 1 1 0 (0+M.length+2)))] [.row 3 1 k fun e o=>fG [0,3] (cR aW out e o),.row 3 1 (0+M.length+2) fun e o=>fG [0,3] (iZ (0+M.length) (iZ 0 (fun x x_1=>C.top) fun e o=>C.p (PV.i aA (M.getD e default))) (fun e o=>bN C.top [C.p (PV.i aA a),C.p (PV.i aA (↑k:Int))] ((e+0)*1+o)) e o)]))))):=by kernel_rfl
theorem tM4(M N out:List Int)(a n:Int)(k:Nat):cJ (aL2 N) (bJ 2 (jH (inr (bN .skip (jZ (cS Tryz.prog Tryz.f21) 4) 2)))) (bU 33 [(1,iV a),(2,iV n),(7,.c (.sl 0 1 0 k)),(8,aX aW 1 M),(9,iV (k:Nat)),(10,aX aW 1 N)] [.row 3 1 k (cR aW out)]) (cP (fO 33 [1,2,7,8,9]) (bB Tryz.prog Tryz.f21))=Tr.rq ((N.length=N.length∧∀(e o:Nat),e<N.length→o<1→aJ aW N e o=aJ aW N e o)∧aO #[118,105,101,119]=vM∧4≤1000∧N.length≤1000000)
 (.rq (0≤HQ vM N∧aF 0<aF 1000003)
 (.rq (k=k)
 (.rq (1≤1)
 (.rq
 ((k+1)*8≤140737488355328 ∧
 k+1≤140737488355328∧∀(e o:Nat),e<1→o<1→kZ (rR [C.p (PV.i aA (aA.wrap (HQ vM N%1000003)))] 1 1 (e+0) o)=true)
 (.done .normal
 (bU 33 [(1,.c (.p (.i .i64 a))),(2,.c (.p (.i .i64 n))),(7,.c (.sl 0 1 0 (k+1))),(8,.c (.p (.l 1 M.length (aJ aW M)))),(9,.c (.p (.i .i64 (↑k:Int))))] [.row 3 1 (k+1) fun e o=>fG [2] (iZ k (cR aW out) (fun e o=>bN C.top [C.p (PV.i aA (aA.wrap (HQ vM N%1000003)))] ((e+0)*1+o)) e o)])))))):=by kernel_rfl
theorem tM5(M out:List Int)(a n:Int)(k q:Nat):cJ dX (bJ 3 (jZ (cS Tryz.prog Tryz.f21) 4)) (bU 33 [(1,iV a),(2,iV n),(7,.c (.sl 0 1 0 q)),(8,aX aW 1 M),(9,iV (k:Nat))] [.row 3 1 q (cR aW out)]) (cP (fO 33 [1,2,7,8,9]) (bB Tryz.prog Tryz.f21))=Tr.rq (inR aA ((↑k:Int)+1))
 (.done .normal
 (bU 33 [(1,.c (.p (.i .i64 a))),(2,.c (.p (.i .i64 n))),(7,.c (.sl 0 1 0 q)),(8,.c (.p (.l 1 M.length (aJ aW M)))),(9,.c (.p (.i .i64 ((↑k:Int)+1))))] [.row 3 1 q fun e o=>fG [0] (cR aW out e o)])):=by kernel_rfl
theorem tM6(M out:List Int)(a n:Int)(k:Nat):cJ dX (bJ 5 (cS Tryz.prog Tryz.f21)) (bU 33 [(1,iV a),(2,iV n),(7,.c (.sl 0 1 0 k)),(8,aX aW 1 M),(9,iV (k:Nat))] [.row 3 1 k (cR aW out)]) (cP [] (bB Tryz.prog Tryz.f21))=Tr.rq (0+k≤k∧∀(e o:Nat),e<k→o<1→BJ (cR aW out (e+0) o)=true) (.done .ret (St.mk [V.c (C.p (PV.l 1 k fun e o=>tE (cR aW out (e+0) o)))] [])):=by kernel_rfl
theorem aVZ(L:List Int):cJ dX (dH 2 (cS Tryz.prog Tryz.f22)) (iR Tryz.f22 [aX aW 1 L]) (cP (fO 52 [0,2,3]) (bB Tryz.prog Tryz.f22))=Tr.done X.normal
 (bU 52 [(0,.c (.p (.l 1 L.length (aJ aW L)))),(2,.c (.ptr 0 0)),(3,.c (.sl 1 1 0 2))] [.cells 59 (aWW (aO #[]) 0 0 0 0 0 0 0 0 0 0),.row 9 1 2 fun e o=>fG [0,1] (C.p (PV.s (bN (aO #[]) [aO #[99,112,117],aO #[109,101,109]] e)))]):=by kernel_rfl
theorem aVY(L:List Int)(wo:Nat→ByteArray):cJ (aLE L) (bJ 2 (cS Tryz.prog Tryz.f22)) (bU 52 [(0,aX aW 1 L),(2,.c (.ptr 0 0)),(3,.c (.p (.l 1 2 (fun e _=>.s (wo e)))))] [.cells 59 (iP [.s ⟨#[]⟩,.z (.slice none 0 0),.i .i64 0,.i .i64 0,.i .i64 0,.i .i64 0,.i .i64 0,.i .i64 0,.i .i64 0,.i .i64 0,.i .i64 0,.i .i64 0])]) (cP [] (bB Tryz.prog Tryz.f22))=Tr.rq ((L.length=L.length∧∀(e o:Nat),e<L.length→o<1→aJ aW L e o=aJ aW L e o)∧aF 0<aF 10)
 (.rq (inR aA (cC L 0 10-9))
 (.rq ((L.length=L.length∧∀(e o:Nat),e<L.length→o<1→aJ aW L e o=aJ aW L e o)∧aF 0<aF 5)
 (.rq (inR aA (cC L 1 5-3))
 (.rq ((L.length=L.length∧∀(e o:Nat),e<L.length→o<1→aJ aW L e o=aJ aW L e o)∧aF 0<aF 7)
 (.rq ((L.length=L.length∧∀(e o:Nat),e<L.length→o<1→aJ aW L e o=aJ aW L e o)∧aF 0<aF 2)
 (.rq (0≤cC L 3 2∧cC L 3 2<(↑2:Int))
 (.rq ((L.length=L.length∧∀(e o:Nat),e<L.length→o<1→aJ aW L e o=aJ aW L e o)∧aF 0<aF 4)
 (.rq (inR aA (cC L 4 4))
 (.rq ((L.length=L.length∧∀(e o:Nat),e<L.length→o<1→aJ aW L e o=aJ aW L e o)∧aF 0<aF 17)
 (.rq (inR aA (cC L 0 10-9+cC L 5 17))
 (.rq ((L.length=L.length∧∀(e o:Nat),e<L.length→o<1→aJ aW L e o=aJ aW L e o)∧aF 0<aF 4)
 (.rq (inR aA (cC L 1 5-3+cC L 6 4))
 (.rq ((L.length=L.length∧∀(e o:Nat),e<L.length→o<1→aJ aW L e o=aJ aW L e o)∧aF 0<aF 14)
 (.rq (inR aA (cC L 2 7+cC L 7 14))
 (.rq ((L.length=L.length∧∀(e o:Nat),e<L.length→o<1→aJ aW L e o=aJ aW L e o)∧aF 0<aF 40)
 (.done .ret
 (St.mk [V.a (CZ (wo (cC L 3 2).toNat) (YP (cC L 4 4)).length (aJ fD (YP (cC L 4 4))) 1 0 0 (cC L 0 10-9) (cC L 0 10-9+cC L 5 17) (cC L 1 5-3) (cC L 1 5-3+cC L 6 4) (cC L 2 7) (cC L 2 7+cC L 7 14) (cC L 8 40))] []))))))))))))))))):=by kernel_rfl
theorem mL{α:Type}[Inhabited α]{enc:α→Nat→PV}{sz n:Nat}{f:Nat→Nat→PV}{L:List α}(hn:n=L.length)(h:∀e o,e<L.length→o<sz→f e o=aJ enc L e o):eL (.c (.p (.l sz n f))) (aX enc sz L):=by
 subst hn;exact eL.p (jT.l fun e o he ho=>jT.of_eq (h e o he ho))
theorem aC9(x:Int):∀e o:Nat,e<1→o<1→kZ (rR [C.p (.i .i64 x)] 1 1 (e+0) o)=true:=by
 intro e o he ho
 obtain rfl:e=0:=by omega
 obtain rfl:o=0:=by omega
 rfl
theorem aM0(x y:Int):∀e o:Nat,e<2→o<1→kZ (rR [C.p (.i .i64 x),C.p (.i .i64 y)] 1 2 (e+0) o)=true:=by
 intro e o he ho
 obtain rfl:o=0:=by omega
 match e,he with
 |0,_|1,_=>rfl
theorem aK8(x:Int):∀o:Nat,o<1→(fun e o:Nat=>bN C.top [C.p (.i .i64 x)] ((e+0)*1+o)) 0 o=.p (aW x o):=by
 intro o ho
 obtain rfl:o=0:=by omega
 rfl
theorem ZK(M:List Int)(x y:Int)(ρ:List Nat){f0 f1:Nat→Nat→C}{n e o:Nat}(hn:n=M.length)(h1:∀e,e<M.length→f1 e o=.p (aJ aW M e o))(he:e<(M++[x,y]).length)(ho:o<1):fG ρ (iZ n f1 (fun e o=>bN C.top [C.p (.i .i64 x),C.p (.i .i64 y)] ((e+0)*1+o)) e o)=.p (aJ aW (M++[x,y]) e o):=by
 subst hn;rw[gC]at he
 have he:e<M.length+2:=he
 obtain rfl:o=0:=by omega
 unfold iZ
 by_cases c:e<M.length
 ·rw[if_pos c,h1 e c]
  show C.p _=_
  unfold aJ;rw[aG,aG,List.getElem?_append_left c]
 ·rw[if_neg c]
  unfold aJ;rw[aG,List.getElem?_append_right (by omega)]
  obtain⟨j,rfl⟩:∃j,e=M.length+j:=⟨e-M.length,by omega⟩
  rw[Nat.add_sub_cancel_left]
  match j,(by omega:j<2) with
  |0,_|1,_=>rfl
theorem UN(L:List Int)(a:Int)(k:Nat):iW L a (k+1)=iW L a k++[HQ vM (L.take 8++[a,(k:Int)])%1000003]:=by unfold iW;rw[gE,List.map_append];rfl
theorem aIT{x:Int}(h:0≤x):aA.wrap (x%1000003)=x%1000003:=wrap_in (k:=.i64) (by simp only[inR];omega)
section
variable {G:Nat→Option Obj}
set_option maxRecDepth 100000 in
theorem aIC(L:List Int):dD Tryz.prog G 57 (UU L):=by
 intro args p v hm hp h;unfold UU at hm
 split at hm;rotate_left;· cases hm
 split at hm;rotate_left;· cases hm
 rename_i x m _ q hx;obtain⟨rfl,rfl⟩:=bA hm;clear hm;obtain⟨hq,h0,h1,h2⟩:=hp;refine lW.args (args':=[aX aW 1 L,iV m]) ?_ (.cons (mO hx hq) (.cons (.refl _) .nil))
 refine fR Tryz.func57 (by kernel_rfl) rfl ?_ h
 refine cO.evH aT (tIn L m) ?_
 have hn:∀z:Int,z=(if m<(L.length:Int) then m else (L.length:Int))→0≤z∧z≤L.length∧z.toNat=(L.take m.toNat).length:=by
  rintro z rfl;rw[eQ];split<;>omega
 obtain⟨a1,a2,a3⟩:=hn _ rfl
 obtain⟨z,hz⟩:∃z:Int,(if m<(L.length:Int) then m else (L.length:Int))=z:=⟨_,rfl⟩
 rw[hz]at a1 a2 a3;simp only[aS,aI,bK,hz]
 have b1:(L.take m.toNat).length≤L.length:=by rw[eQ];omega
 refine⟨⟨by omega,by omega,by omega⟩,⟨by omega,by omega,fun _ _ _ _=>rfl⟩,⟨by omega,fun e o he ho=>by unfold iZ;rw[if_neg (by omega)];rfl⟩,⟨?_⟩⟩
 refine mL (by show 0+(z.toNat-0)=_;omega) fun e o he ho=>?_
 unfold iZ;rw[if_neg (by omega)]
 show PV.i aA (L.getD (e+0-0+0) default)=PV.i aA ((L.take m.toNat).getD e default)
 have he2:=he
 rw[eQ]at he2;rw[aG,aG,gD,if_pos (by omega)];rfl
set_option maxRecDepth 100000 in
theorem aKQ:dD Tryz.prog G 23 aIY:=by
 intro args p v hm hp h;unfold aIY at hm
 split at hm;rotate_left;· cases hm
 rename_i n;obtain⟨rfl,rfl⟩:=bA hm;clear hm
 refine fR Tryz.func23 (by kernel_rfl) rfl ?_ h
 refine cO.evH pS (tLb n) ?_
 have two:∀e o:Nat,e<1→o<2→e=0∧(o=0∨o=1):=fun e o he ho=>⟨by omega,by omega⟩
 simp only[bD,aS,aI,bK,beq_iff_eq,beq_eq_false_iff_ne,ne_eq];refine⟨⟨hp,by decide⟩,fun c1=>⟨⟨by decide,fun e o he ho=>?_⟩,⟨?_⟩⟩,fun c1=>⟨fun c2=>⟨⟨by decide,fun e o he ho=>?_⟩,⟨?_⟩⟩,fun c2=>⟨fun c3=>⟨⟨by decide,fun e o he ho=>?_⟩,⟨?_⟩⟩,fun c3=>⟨?_⟩⟩⟩⟩
 ·obtain⟨rfl,rfl|rfl⟩:=two e o he ho<;>rfl
 ·unfold YP
  rw[if_pos c1]
  refine mL rfl fun e o he ho=>?_
  obtain⟨rfl,rfl|rfl⟩:=two e o he ho<;>rfl
 ·obtain⟨rfl,rfl|rfl⟩:=two e o he ho<;>rfl
 ·unfold YP
  rw[if_neg c1,if_pos c2]
  refine mL rfl fun e o he ho=>?_
  obtain⟨rfl,rfl|rfl⟩:=two e o he ho<;>rfl
 ·have:(e=0∨e=1)∧(o=0∨o=1):=⟨by omega,by omega⟩
  obtain⟨rfl|rfl,rfl|rfl⟩:=this<;>rfl
 ·unfold YP
  rw[if_neg c1,if_neg c2,if_pos c3]
  refine mL rfl fun e o he ho=>?_
  have he:e<2:=he
  have:(e=0∨e=1)∧(o=0∨o=1):=⟨by omega,by omega⟩
  obtain⟨rfl|rfl,rfl|rfl⟩:=this<;>rfl
 ·unfold YP
  rw[if_neg c1,if_neg c2,if_neg c3];exact eL.p (jT.nil 2 _)
theorem RO(L:List Int):bO Tryz.prog G (aLM L):=cD (by simp;exact aIC L)
theorem RF(M:List Int):bO Tryz.prog G (aL2 M):=cD (by simp;exact aN2 vM M)
theorem RL{L:List Int}(hI:oM L):bO Tryz.prog G (aLE L):=cD (by simp;exact⟨MS hI,aKQ⟩)
set_option maxRecDepth 100000 in
theorem aIB(L:List Int):dD Tryz.prog G 21 (UT L):=by
 intro args p v hm hp h;unfold UT at hm
 split at hm;rotate_left;· cases hm
 split at hm;rotate_left;· cases hm
 rename_i x a n0 _ q hx;obtain⟨rfl,rfl⟩:=bA hm;clear hm;obtain⟨hq,ha,h0,h1,h2⟩:=hp
 obtain⟨n,rfl⟩:∃n:Nat,n0=n:=⟨n0.toNat,by omega⟩
 rw[show (n:Int).toNat=n from rfl];refine lW.args (args':=[aX aW 1 L,iV a,iV n]) ?_ (.cons (mO hx hq) (.cons (.refl _) (.cons (.refl _) .nil)))
 refine fR Tryz.func21 (by kernel_rfl) rfl ?_ h
 refine cO.evG (RO L) 4 (tM1 L a n) ?_;simp only[aS,aI,aZ];refine⟨⟨⟨trivial,fun _ _ _ _=>trivial⟩,by decide,h2,by decide⟩,⟨?_⟩⟩;rw[show aL 8=8 from rfl]
 obtain⟨M,hM⟩:∃M,L.take 8=M:=⟨_,rfl⟩
 have hMl:M.length≤8:=by rw[←hM,eQ];omega
 rw[hM]
 refine cO.loop' (l:=bJ 4 (cS Tryz.prog Tryz.f21)) (b:=inr (inr (bN .skip (cS Tryz.prog Tryz.f21) 4))) (r:=bJ 5 (cS Tryz.prog Tryz.f21)) (id:=0) (by kernel_rfl) (σ:=Nat)
   (fun k=>(fun(out:List Int) (n:Int) (k:Nat)=>bU 33 [(1,iV a),(2,iV n),(7,.c (.sl 0 1 0 k)),(8,aX aW 1 M),(9,iV (k:Nat))] [.row 3 1 k (cR aW out)]) (iW L a k) n k) (fun k=>k≤n) (fun k=>n-k) 0 (bH _) ((pF 3 1 (cR aW []) 7 (by kernel_rfl)).trans (aP (by kernel_rfl))) ?_
 rintro k hk Q1 q1n q1e -
 have hl:=oW L a k
 refine cO.evG aT 2 (tM2 M (iW L a k) a n k) ?_;simp only[bD,aS,aI,aZ,fE,decide_eq_true_eq,decide_eq_false_iff_not];refine⟨fun c=>⟨?_⟩,fun c=>⟨q1e _ ?_⟩⟩
 ·refine cO.blk' (l:=bJ 2 (jZ (cS Tryz.prog Tryz.f21) 4)) (id:=1) (a:=inr (bN .skip (jZ (cS Tryz.prog Tryz.f21) 4) 2)) (r:=bJ 3 (jZ (cS Tryz.prog Tryz.f21) 4)) (by kernel_rfl) ?_
  intro Q2 q2n q2e _
  refine cO.pre (aP (st':=(fun(out:List Int) (n:Int) (k:Nat)=>bU 33 [(1,iV a),(2,iV n),(7,.c (.sl 0 1 0 k)),(8,aX aW 1 M),(9,iV (k:Nat))] [.row 3 1 k (cR aW out)]) (iW L a k) n k) (by kernel_rfl)) ?_
  refine cO.evG aT 2 (tM3 M (iW L a k) a n k) ?_;simp only[aS,aI,aZ];refine⟨⟨by omega,by omega,fun _ _ _ _=>rfl⟩,trivial,aU _,⟨by omega,by omega,aM0 _ _⟩,⟨?_⟩⟩
  obtain⟨N,hN⟩:∃N,M++[a,(k:Int)]=N:=⟨_,rfl⟩
  have hNl:N.length=M.length+2:=by rw[←hN,gC];rfl
  have e0:0+M.length+2=N.length:=by omega
  rw[e0]
  refine cO.pre ((yO (id:=1) (ty:=3) (sz:=1) (n:=N.length) (f:=fun e o=>fG [0,3] (iZ (0+M.length) (iZ 0 (fun x x_1=>C.top) fun e o=>C.p (PV.i aA (M.getD e default))) (fun e o=>bN C.top [C.p (PV.i aA a),C.p (PV.i aA (k:Int))] ((e+0)*1+o)) e o)) (aJ aW N) (by kernel_rfl) (fun e o he ho=>?_) (fun e o he ho=>?_) (ps:=[(0,N.length)]) (by kernel_rfl) (by simp)).trans ((fW (fO 33 [1,2,7,8,9,10]) _).trans (aP (st':=(fun(N out:List Int) (n:Int) (k:Nat)=>bU 33 [(1,iV a),(2,iV n),(7,.c (.sl 0 1 0 k)),(8,aX aW 1 M),(9,iV (k:Nat)),(10,aX aW 1 N)] [.row 3 1 k (cR aW out)]) N (iW L a k) n k) (by kernel_rfl)))) ?_
  ·rw[ZK M a k [0,3] (f0:=fun _ _=>C.top) (by omega) (fun e he=>by unfold iZ;rw[if_neg (by omega)];rfl) (by rw[hN];exact he) ho];rfl
  ·rw[ZK M a k [0,3] (f0:=fun _ _=>C.top) (by omega) (fun e he=>by unfold iZ;rw[if_neg (by omega)];rfl) (by rw[hN];exact he) ho,hN];exact jT.refl _
  refine cO.evH (RF N) (tM4 M N (iW L a k) a n k) ?_
  have hsu:=aM7 vM N
  simp only[aS,aI,aZ,aIT hsu.1];refine⟨⟨⟨trivial,fun _ _ _ _=>trivial⟩,rfl,by decide,by omega⟩,⟨hsu.1,by decide⟩,trivial,aU _,⟨by omega,by omega,aC9 _⟩,⟨q2n _ ?_⟩⟩
  have e1:iW L a (k+1)=iW L a k++[HQ vM N%1000003]:=by rw[UN,hM,hN]
  refine cO.pre (show cW G _ ((fun(out:List Int) (n:Int) (k q:Nat)=>bU 33 [(1,iV a),(2,iV n),(7,.c (.sl 0 1 0 q)),(8,aX aW 1 M),(9,iV (k:Nat))] [.row 3 1 q (cR aW out)]) (iW L a (k+1)) n k (k+1)) from by
   rw[e1]
   exact kP ⟨⟨rfl,rfl,rfl,fun e o he ho=>BD (ρ:=[2]) hl (aK8 _) he ho⟩,trivial⟩) ?_
  refine cO.evH aT (tM5 M (iW L a (k+1)) a n k (k+1)) ?_;simp only[aS,aI,aZ,inR]
  exact⟨by omega,⟨q1n (k+1) _ (by omega) (by omega) (aP (by kernel_rfl))⟩⟩
 ·obtain rfl:k=n:=by omega
  refine cO.pre (aP (st':=(fun(out:List Int) (n:Int) (k:Nat)=>bU 33 [(1,iV a),(2,iV n),(7,.c (.sl 0 1 0 k)),(8,aX aW 1 M),(9,iV (k:Nat))] [.row 3 1 k (cR aW out)]) (iW L a k) k k) (by kernel_rfl)) ?_
  refine cO.evH aT (tM6 M (iW L a k) a k k) ?_;simp only[aS,aI,bK];exact⟨⟨by omega,fun _ _ _ _=>rfl⟩,⟨mL hl.symm fun e o he ho=>rfl⟩⟩
set_option maxRecDepth 100000 in
theorem aIH{L:List Int}(hI:oM L):dD Tryz.prog G 22 (UY L):=by
 intro args p v hm hp h;unfold UY at hm
 split at hm;rotate_left;· cases hm
 split at hm;rotate_left;· cases hm
 rename_i x _ q hx;obtain⟨rfl,rfl⟩:=bA hm;clear hm;refine lW.args (args':=[aX aW 1 L]) ?_ (.cons (mO hx hp) .nil)
 refine fR Tryz.func22 (by kernel_rfl) rfl ?_ h
 refine cO.evG aT 2 (aVZ L) ?_;simp only[aI,aZ];refine⟨?_⟩
 refine cO.pre ((yO (id:=1) (ty:=9) (sz:=1) (n:=2) (f:=fun e o=>fG [0,1] (C.p (PV.s (bN (aO #[]) [aO #[99,112,117],aO #[109,101,109]] e)))) (fun e o=>.s ((fun e:Nat=>vR (e:Int)) e)) (by kernel_rfl) (fun e o he ho=>rfl) (fun e o he ho=>?_) (ps:=[(0,2)]) (by kernel_rfl) (by simp)).trans ((fW (fO 52 [0,2,3]) _).trans (aP (st':=(fun wo:Nat→ByteArray=>bU 52 [(0,aX aW 1 L),(2,.c (.ptr 0 0)),(3,.c (.p (.l 1 2 (fun e _=>.s (wo e)))))] [.cells 59 (iP [.s ⟨#[]⟩,.z (.slice none 0 0),.i .i64 0,.i .i64 0,.i .i64 0,.i .i64 0,.i .i64 0,.i .i64 0,.i .i64 0,.i .i64 0,.i .i64 0,.i .i64 0])]) (fun e:Nat=>vR (e:Int))) (by kernel_rfl)))) ?_
 ·match e,he with
  |0,_|1,_=>exact jT.of_eq rfl
 refine cO.evH (RL hI) (aVY L fun e:Nat=>vR (e:Int)) ?_
 have p0:=cY L 0 (m:=10) (by omega)
 have p1:=cY L 1 (m:=5) (by omega)
 have p2:=cY L 2 (m:=7) (by omega)
 have p3:=cY L 3 (m:=2) (by omega)
 have p4:=cY L 4 (m:=4) (by omega)
 have p5:=cY L 5 (m:=17) (by omega)
 have p6:=cY L 6 (m:=4) (by omega)
 have p7:=cY L 7 (m:=14) (by omega)
 have hw:vR (((cC L 3 2).toNat:Nat):Int)=vR (cC L 3 2):=by rw[Int.toNat_of_nonneg p3.1]
 have tr:L.length=L.length∧∀e o:Nat,e<L.length→o<1→True:=⟨rfl,fun _ _ _ _=>trivial⟩
 simp only[aS,aI,bK,inR,hw];refine⟨⟨⟨trivial,tr.2⟩,by decide⟩,by omega,⟨⟨trivial,tr.2⟩,by decide⟩,by omega,⟨⟨trivial,tr.2⟩,by decide⟩,⟨⟨trivial,tr.2⟩,by decide⟩,⟨by omega,by omega⟩,⟨⟨trivial,tr.2⟩,by decide⟩,by omega,⟨⟨trivial,tr.2⟩,by decide⟩,by omega,⟨⟨trivial,tr.2⟩,by decide⟩,by omega,⟨⟨trivial,tr.2⟩,by decide⟩,by omega,⟨⟨trivial,tr.2⟩,by decide⟩,⟨eL.of_eq rfl⟩⟩
end
def YK(d:De)(L:List Int):SQ
 |[x,y],h=>match VD x d,BY y L with
  |some p,some q=>some (p∧q∧Sm d,.c (.sl (fK h) 1 0 (gM d)),iF (.row 3 1 (gM d) fun e o=>.p (aJ aW (IQ d L) e o)) h)
  |_,_=>none
 |_,_=>none
def aO1(d:De)(L:List Int):Mod
 |[x,y]=>match VD x d,BY y L with
  |some p,some q=>some (p∧q∧Sm d,aX aW 1 (vJ d L))
  |_,_=>none
 |_=>none
def qT(L:List Int):Ext:=fB [(20,FM L)]
theorem aSB(d:De)(L:List Int):cJ dX (dH 1 (dH 6 (cS Tryz.prog Tryz.f59))) (iR Tryz.f59 [deV d,aX aW 1 L]) (cP (fO 52 [1,2]) [])=Tr.done X.normal
 (bU 52 [(1,.c (.p (.l 1 L.length (aJ aW L)))),(2,.c (.ptr 0 0))] [.cells 59 (CZ d.nm d.L.length (aJ fD d.L) d.u0 d.u1 d.u2 d.lo d.hi d.dn d.up d.fi d.la d.bu)]):=by kernel_rfl
theorem aSA(d:De)(L:List Int):cJ (qT L) (dH 3 (bJ 1 (dH 6 (cS Tryz.prog Tryz.f59)))) (bU 52 [(1,aX aW 1 L),(2,.c (.lp 12 1 (kK d) 0 0))] []) (cP (fO 52 [1,2,5,6,7]) [])=Tr.rq (inR aA (d.hi-d.lo))
 (.rq (inR aA (d.hi-d.lo+1))
 (.rq ((L.length=L.length∧∀(e o:Nat),e<L.length→o<1→aJ aW L e o=aJ aW L e o)∧0<d.hi-d.lo+1)
 (.rq (inR aA (d.lo+cC L 0 (d.hi-d.lo+1)))
 (.done .normal
 (bU 52 [(1,.c (.p (.l 1 L.length (aJ aW L)))),(2,.c (.lp 12 1 (kK d) 0 0)),(5,.c (.p (.i .i64 (d.lo+cC L 0 (d.hi-d.lo+1))))),(6,.c (.sl 0 1 0 1)),(7,.c (.p (.i .i64 d.fi)))] [.row 3 1 1 fun e o=>fG [0] (bN C.top [C.p (PV.i aA (d.lo+cC L 0 (d.hi-d.lo+1)))] (e*1+o))]))))):=by kernel_rfl
theorem aS9(d:De)(L out:List Int)(v t:Int)(k:Nat):cJ dX (dH 2 (jZ (dH 6 (cS Tryz.prog Tryz.f59)) 4)) (bU 52 [(1,aX aW 1 L),(2,.c (.lp 12 1 (kK d) 0 0)),(5,iV v),(6,.c (.sl 0 1 0 k)),(7,iV t)] [.row 3 1 k (cR aW out)]) (cP (fO 52 [1,2,5,6,7]) [])=bT (decide (t<d.la))
 (.done .normal
 (bU 52 [(1,.c (.p (.l 1 L.length (aJ aW L)))),(2,.c (.lp 12 1 (kK d) 0 0)),(5,.c (.p (.i .i64 v))),(6,.c (.sl 0 1 0 k)),(7,.c (.p (.i .i64 t)))] [.row 3 1 k fun e o=>fG [0] (cR aW out e o)]))
 (.done (.exit 0)
 (bU 52 [(1,.c (.p (.l 1 L.length (aJ aW L)))),(2,.c (.lp 12 1 (kK d) 0 0)),(5,.c (.p (.i .i64 v))),(6,.c (.sl 0 1 0 k)),(7,.c (.p (.i .i64 t)))] [.row 3 1 k fun e o=>fG [0] (cR aW out e o)])):=by kernel_rfl
theorem aS8(d:De)(L out:List Int)(v t:Int)(k:Nat):cJ (qT L) (bJ 2 (jZ (dH 6 (cS Tryz.prog Tryz.f59)) 4)) (bU 52 [(1,aX aW 1 L),(2,.c (.lp 12 1 (kK d) 0 0)),(5,iV v),(6,.c (.sl 0 1 0 k)),(7,iV t)] [.row 3 1 k (cR aW out)]) (cP (fO 52 [1,2,5,6,7]) [])=Tr.rq (inR aA (v+d.dn))
 (.rq (inR aA (t-d.fi))
 (.rq (inR aA (t-d.fi+1))
 (.rq (inR aA (d.up-d.dn))
 (.rq (inR aA (d.up-d.dn+1))
 (.rq ((L.length=L.length∧∀(e o:Nat),e<L.length→o<1→aJ aW L e o=aJ aW L e o)∧0<d.up-d.dn+1)
 (.rq (inR aA (v+d.dn+cC L (t-d.fi+1) (d.up-d.dn+1)))
 (.rq (k=k)
 (.rq (1≤1)
 (.rq
 ((k+1)*8≤140737488355328 ∧
 k+1≤140737488355328∧∀(e o:Nat),e<1→o<1→kZ (rR [C.p (PV.i aA (v+d.dn+cC L (t-d.fi+1) (d.up-d.dn+1)))] 1 1 (e+0) o)=true)
 (.rq (inR aA (t+1))
 (.done .normal
 (bU 52 [(1,.c (.p (.l 1 L.length (aJ aW L)))),(2,.c (.lp 12 1 (kK d) 0 0)),(5,.c (.p (.i .i64 (v+d.dn+cC L (t-d.fi+1) (d.up-d.dn+1))))),(6,.c (.sl 0 1 0 (k+1))),(7,.c (.p (.i .i64 (t+1))))] [.row 3 1 (k+1) fun e o=>fG [2] (iZ k (cR aW out) (fun e o=>bN C.top [C.p (PV.i aA (v+d.dn+cC L (t-d.fi+1) (d.up-d.dn+1)))] ((e+0)*1+o)) e o)])))))))))))):=by kernel_rfl
theorem aS7(d:De)(L out:List Int)(v t:Int)(k:Nat):cJ dX (bJ 5 (dH 6 (cS Tryz.prog Tryz.f59))) (bU 52 [(1,aX aW 1 L),(2,.c (.lp 12 1 (kK d) 0 0)),(5,iV v),(6,.c (.sl 0 1 0 k)),(7,iV t)] [.row 3 1 k (cR aW out)]) (cP (fO 52 [4]) [])=Tr.done X.normal
 (bU 52 [(4,.c (.sl 0 1 0 k))] [.row 3 1 k fun e o=>fG [0] (cR aW out e o)]):=by kernel_rfl
theorem aVC(d:De)(L:List Int):cJ dX (dH 1 (cS Tryz.prog Tryz.f24)) (iR Tryz.f24 [deV d,aX aW 1 L]) (cP (fO 87 [1,2]) (bB Tryz.prog Tryz.f24))=Tr.done X.normal
 (bU 87 [(1,.c (.p (.l 1 L.length (aJ aW L)))),(2,.c (.ptr 0 0))] [.cells 59 (CZ d.nm d.L.length (aJ fD d.L) d.u0 d.u1 d.u2 d.lo d.hi d.dn d.up d.fi d.la d.bu)]):=by kernel_rfl
theorem aVB(d:De)(L:List Int):cJ (yB [(59,YK d L)]) (dH 2 (bJ 1 (cS Tryz.prog Tryz.f24))) (bU 87 [(1,aX aW 1 L),(2,.c (.lp 12 1 (kK d) 0 0))] []) (cP (fO 87 [1,2,5,6]) (bB Tryz.prog Tryz.f24))=Tr.rq
 (((d.L.length=d.L.length∧∀(e o:Nat),e<d.L.length→o<2→aJ fD d.L e o=aJ fD d.L e o) ∧
 d.nm=d.nm∧d.u0=d.u0∧d.u1=d.u1∧d.u2=d.u2∧d.lo=d.lo∧d.hi=d.hi∧d.dn=d.dn∧d.up=d.up∧d.fi=d.fi∧d.la=d.la∧d.bu=d.bu) ∧
 (L.length=L.length∧∀(e o:Nat),e<L.length→o<1→aJ aW L e o=aJ aW L e o)∧Sm d)
 (.done .normal
 (bU 87 [(1,.c (.p (.l 1 L.length (aJ aW L)))),(2,.c (.lp 12 1 (kK d) 0 0)),(5,.c (.sl 0 1 0 (gM d))),(6,.c (.p (.i .i64 1)))] [.row 3 1 (gM d) fun e o=>fG [0] (C.p (PV.i aA ((IQ d L).getD e default)))])):=by kernel_rfl
theorem aVA(d:De)(L W:List Int)(n i:Nat):cJ dX (dH 2 (jZ (cS Tryz.prog Tryz.f24) 3)) (bU 87 [(1,aX aW 1 L),(2,.c (.lp 12 1 (kK d) 0 0)),(5,.c (.sl 0 1 0 n)),(6,iV (i:Nat))] [.row 3 1 n (cR aW W)]) (cP (fO 87 [1,2,5,6]) (bB Tryz.prog Tryz.f24))=bT (decide ((↑i:Int)<(↑n:Int)))
 (.done .normal
 (bU 87 [(1,.c (.p (.l 1 L.length (aJ aW L)))),(2,.c (.lp 12 1 (kK d) 0 0)),(5,.c (.sl 0 1 0 n)),(6,.c (.p (.i .i64 (↑i:Int))))] [.row 3 1 n fun e o=>fG [0] (cR aW W e o)]))
 (.done (.exit 0)
 (bU 87 [(1,.c (.p (.l 1 L.length (aJ aW L)))),(2,.c (.lp 12 1 (kK d) 0 0)),(5,.c (.sl 0 1 0 n)),(6,.c (.p (.i .i64 (↑i:Int))))] [.row 3 1 n fun e o=>fG [0] (cR aW W e o)])):=by kernel_rfl
theorem aV9(d:De)(L W:List Int)(n i:Nat):cJ (qT L) (dH 1 (jH (inr (bN .skip (jZ (cS Tryz.prog Tryz.f24) 3) 2)))) (bU 87 [(1,aX aW 1 L),(2,.c (.lp 12 1 (kK d) 0 0)),(5,.c (.sl 0 1 0 n)),(6,iV (i:Nat))] [.row 3 1 n (cR aW W)]) (cP (fO 87 [1,2,5,6,7]) (bB Tryz.prog Tryz.f24))=Tr.rq (inR aA ((↑i:Int)-1))
 (.rq (0≤(↑i:Int)-1∧(↑i:Int)-1<(↑n:Int))
 (.rq (((↑i:Int)-1).toNat+0<n)
 (.rq (inR aA (W.getD (((↑i:Int)-1).toNat+0) default+d.dn))
 (.rq (inR aA (d.up-d.dn))
 (.rq (inR aA (d.up-d.dn+1))
 (.rq ((L.length=L.length∧∀(e o:Nat),e<L.length→o<1→aJ aW L e o=aJ aW L e o)∧0<d.up-d.dn+1)
 (.rq (inR aA (W.getD (((↑i:Int)-1).toNat+0) default+d.dn+cC L (↑i:Int) (d.up-d.dn+1)))
 (.done .normal
 (bU 87 [(1,.c (.p (.l 1 L.length (aJ aW L)))),(2,.c (.lp 12 1 (kK d) 0 0)),(5,.c (.sl 0 1 0 n)),(6,.c (.p (.i .i64 (↑i:Int)))),(7,.c (.p (.i .i64 (W.getD (((↑i:Int)-1).toNat+0) default+d.dn+cC L (↑i:Int) (d.up-d.dn+1)))))] [.row 3 1 n fun e o=>fG [0] (cR aW W e o)]))))))))):=by kernel_rfl
theorem aV8(d:De)(L W:List Int)(v:Int)(n i:Nat):cJ dX (dH 1 (bJ 1 (jH (inr (bN .skip (jZ (cS Tryz.prog Tryz.f24) 3) 2))))) (bU 87 [(1,aX aW 1 L),(2,.c (.lp 12 1 (kK d) 0 0)),(5,.c (.sl 0 1 0 n)),(6,iV (i:Nat)),(7,iV v)] [.row 3 1 n (cR aW W)]) (cP (fO 87 [1,2,5,6,7]) (bB Tryz.prog Tryz.f24))=Tr.rq (inR aA ((↑i:Int)-1))
 (.rq (0≤(↑i:Int)-1∧(↑i:Int)-1<(↑n:Int))
 (.rq (((↑i:Int)-1).toNat+0<n)
 (.rq (inR aA (W.getD (((↑i:Int)-1).toNat+0) default+d.up))
 (.rq (inR aA ((↑i:Int)-1))
 (.rq (0≤(↑i:Int)-1∧(↑i:Int)-1<(↑n:Int))
 (.rq (((↑i:Int)-1).toNat+0<n)
 (.rq (inR aA (W.getD (((↑i:Int)-1).toNat+0) default+d.dn))
 (.rq (0≤(↑i:Int)∧(↑i:Int)<(↑n:Int))
 (.rq ((↑i:Int).toNat+0<n)
 (.done .normal
 (bU 87 [(1,.c (.p (.l 1 L.length (aJ aW L)))),(2,.c (.lp 12 1 (kK d) 0 0)),(5,.c (.sl 0 1 0 n)),(6,.c (.p (.i .i64 (↑i:Int)))),(7,.c (.p (.i .i64 v)))] [.row 3 1 n fun e o=>fG [0] (if e=(↑i:Int).toNat+0 then if 0≤o∧o<1 then bN C.top [C.p (PV.i aA (if (if W.getD (((↑i:Int)-1).toNat+0) default+d.up<if d.hi<v then d.hi else v then W.getD (((↑i:Int)-1).toNat+0) default+d.up else if d.hi<v then d.hi else v)<W.getD (((↑i:Int)-1).toNat+0) default+d.dn then W.getD (((↑i:Int)-1).toNat+0) default+d.dn else if W.getD (((↑i:Int)-1).toNat+0) default+d.up<if d.hi<v then d.hi else v then W.getD (((↑i:Int)-1).toNat+0) default+d.up else if d.hi<v then d.hi else v))] (o-0) else cR aW W e o else cR aW W e o)]))))))))))):=by kernel_rfl
theorem aV7(d:De)(L W:List Int)(v:Int)(n i:Nat):cJ dX (bJ 2 (jH (inr (bN .skip (jZ (cS Tryz.prog Tryz.f24) 3) 2)))) (bU 87 [(1,aX aW 1 L),(2,.c (.lp 12 1 (kK d) 0 0)),(5,.c (.sl 0 1 0 n)),(6,iV (i:Nat)),(7,iV v)] [.row 3 1 n (cR aW W)]) (cP (fO 87 [1,2,5,6]) (bB Tryz.prog Tryz.f24))=bT (decide (v<d.lo))
 (.rq (inR aA ((↑i:Int)-1))
 (.rq (0≤(↑i:Int)-1∧(↑i:Int)-1<(↑n:Int))
 (.rq (((↑i:Int)-1).toNat+0<n)
 (.rq (inR aA (W.getD (((↑i:Int)-1).toNat+0) default+d.dn))
 (.rq (inR aA ((↑i:Int)-1))
 (.rq (0≤(↑i:Int)-1∧(↑i:Int)-1<(↑n:Int))
 (.rq (((↑i:Int)-1).toNat+0<n)
 (.rq (inR aA (W.getD (((↑i:Int)-1).toNat+0) default+d.up))
 (.rq (0≤(↑i:Int)∧(↑i:Int)<(↑n:Int))
 (.rq ((↑i:Int).toNat+0<n)
 (.done .normal
 (bU 87 [(1,.c (.p (.l 1 L.length (aJ aW L)))),(2,.c (.lp 12 1 (kK d) 0 0)),(5,.c (.sl 0 1 0 n)),(6,.c (.p (.i .i64 (↑i:Int))))] [.row 3 1 n fun e o=>fG [0] (if e=(↑i:Int).toNat+0 then if 0≤o∧o<1 then bN C.top [C.p (PV.i aA (if W.getD (((↑i:Int)-1).toNat+0) default+d.dn<if W.getD (((↑i:Int)-1).toNat+0) default+d.up<d.lo then W.getD (((↑i:Int)-1).toNat+0) default+d.up else d.lo then if W.getD (((↑i:Int)-1).toNat+0) default+d.up<d.lo then W.getD (((↑i:Int)-1).toNat+0) default+d.up else d.lo else W.getD (((↑i:Int)-1).toNat+0) default+d.dn))] (o-0) else cR aW W e o else cR aW W e o)]))))))))))))
 (.done .normal
 (bU 87 [(1,.c (.p (.l 1 L.length (aJ aW L)))),(2,.c (.lp 12 1 (kK d) 0 0)),(5,.c (.sl 0 1 0 n)),(6,.c (.p (.i .i64 (↑i:Int))))] [.row 3 1 n fun e o=>fG [0] (cR aW W e o)])):=by kernel_rfl
theorem aV6(d:De)(L W:List Int)(n i:Nat):cJ dX (bJ 3 (jZ (cS Tryz.prog Tryz.f24) 3)) (bU 87 [(1,aX aW 1 L),(2,.c (.lp 12 1 (kK d) 0 0)),(5,.c (.sl 0 1 0 n)),(6,iV (i:Nat))] [.row 3 1 n (cR aW W)]) (cP (fO 87 [1,2,5,6]) (bB Tryz.prog Tryz.f24))=Tr.rq (inR aA ((↑i:Int)+1))
 (.done .normal
 (bU 87 [(1,.c (.p (.l 1 L.length (aJ aW L)))),(2,.c (.lp 12 1 (kK d) 0 0)),(5,.c (.sl 0 1 0 n)),(6,.c (.p (.i .i64 ((↑i:Int)+1))))] [.row 3 1 n fun e o=>fG [0] (cR aW W e o)])):=by kernel_rfl
theorem aV5(d:De)(L W:List Int)(n i:Nat):cJ dX (bJ 4 (cS Tryz.prog Tryz.f24)) (bU 87 [(1,aX aW 1 L),(2,.c (.lp 12 1 (kK d) 0 0)),(5,.c (.sl 0 1 0 n)),(6,iV (i:Nat))] [.row 3 1 n (cR aW W)]) (cP [] (bB Tryz.prog Tryz.f24))=Tr.rq (0+n≤n∧∀(e o:Nat),e<n→o<1→BJ (cR aW W (e+0) o)=true) (.done .ret (St.mk [V.c (C.p (PV.l 1 n fun e o=>tE (cR aW W (e+0) o)))] [])):=by kernel_rfl
theorem ZW(d:De)(L:List Int)(k:Nat):((dL k).map (iU d L)).length=k:=by simp
theorem SU(d:De)(L:List Int)(k:Nat):(dL (k+1)).map (iU d L)=(dL k).map (iU d L)++[iU d L k]:=by rw[gE,List.map_append];rfl
theorem XJ{W:List Int}{i:Nat}{x:Int}(hi:i<W.length)(ρ:List Nat){e o:Nat}(ho:o<1){j:Nat}(hj:j=i):fG ρ (if e=j then if 0≤o∧o<1 then bN C.top [C.p (PV.i aA x)] (o-0) else cR aW W e o else cR aW W e o)=cR aW (W.set i x) e o:=by
 subst hj
 obtain rfl:o=0:=by omega
 by_cases c:e=j
 ·subst c
  rw[if_pos rfl,if_pos ⟨aU _,Nat.zero_lt_one⟩]
  show C.p _=C.p _
  congr 1
  show PV.i aA x=PV.i aA ((W.set e x).getD e default)
  rw[aG,List.getElem?_set_self hi];rfl
 ·rw[if_neg c]
  show C.p _=C.p _
  congr 1
  show PV.i aA (W.getD e default)=PV.i aA ((W.set j x).getD e default)
  rw[aG,aG,List.getElem?_set_ne (fun h=>c h.symm)]
def rM(d:De)(L:List Int)(i:Nat):List Int:=(dL (gM d)).map fun j=>if j<i then tW d L j else iU d L j
theorem mI(d:De)(L:List Int)(i:Nat):(rM d L i).length=gM d:=by unfold rM;simp
theorem FV(d:De)(L:List Int)(i:Nat){j:Nat}(h:j<gM d):(rM d L i).getD j default=if j<i then tW d L j else iU d L j:=by
 unfold rM;rw[aG,dJ,eM h];rfl
theorem IA{A B:List Int}(hl:A.length=B.length)(h:∀k,k<A.length→A.getD k default=B.getD k default):A=B:=by
 apply List.ext_getElem hl;intro k h1 h2
 have:=h k h1
 simpa[h1,h2] using this
theorem aEW(d:De)(L:List Int):rM d L 1=IQ d L:=by
 unfold rM IQ
 refine List.map_congr_left fun j _=>?_
 split
 ·obtain rfl:j=0:=by omega
  rfl
 ·rfl
theorem aB6(d:De)(L:List Int){i:Nat}(h:i<gM d):(rM d L i).set i (tW d L i)=rM d L (i+1):=by
 refine IA (by rw[fI,mI,mI]) fun k hk=>?_
 rw[fI,mI]at hk;rw[FV d L (i+1) hk]
 by_cases c:k=i
 ·subst c
  rw[if_pos (by omega),aG,List.getElem?_set_self (by rw[mI];exact hk)];rfl
 ·rw[aG,List.getElem?_set_ne (fun h=>c h.symm),←aG,FV d L i hk]
  by_cases c2:k<i
  ·rw[if_pos c2,if_pos (by omega)]
  ·rw[if_neg c2,if_neg (by omega)]
theorem aEX(d:De)(L:List Int){i:Nat}(h:gM d≤i):rM d L i=vJ d L:=by
 unfold rM vJ
 refine List.map_congr_left fun j hj=>?_
 have hj:j<gM d:=List.mem_range.1 hj
 rw[if_pos (by omega)]
section
variable {G:Nat→Option Obj}
theorem aJJ{d:De}{n:Nat}{l:List (Nat×V)}:∀o,o<12→∃x,bN C.top (iP (IF d)) o=.p x∧jT x (kK d 0 o):=fun o ho=>by
 match o,ho with
 |0,_|1,_|2,_|3,_|4,_|5,_|6,_|7,_|8,_|9,_|10,_|11,_=>exact⟨_,rfl,jT.refl _⟩
theorem kB{L:List Int}(hI:oM L):bO Tryz.prog G (qT L):=cD (by simp;exact MS hI)
set_option maxRecDepth 100000 in
theorem aMR(d:De){L:List Int}(hI:oM L):lH Tryz.prog G 59 (YK d L):=by
 intro args h p v h' hm hp;unfold YK at hm
 split at hm;rotate_left;· cases hm
 split at hm;rotate_left;· cases hm
 rename_i x y _ _ q1 q2 hx hy;obtain⟨rfl,rfl,rfl⟩:=aGT hm;clear hm;obtain⟨hq1,hq2,hs⟩:=hp;refine lW.args (args':=[deV d,aX aW 1 L]) ?_ (.cons (NM hx hq1) (.cons (mO hy hq2) .nil))
 have hr:=tB L hs
 have hs2:=hs
 obtain⟨s1,s2,s3⟩:=hs2
 have p0:=cY L 0 (m:=d.hi-d.lo+1) (by omega)
 have hsp:gM d=(d.la-d.fi+1).toNat:=rfl
 refine aJK (r:=4) (pre:=(dH 6 (cS Tryz.prog Tryz.f59))) Tryz.func59 (by kernel_rfl) (by kernel_rfl) (by kernel_rfl) rfl ?_ h
 refine cO.evG aT 1 (aSB d L) ?_;simp only[aI,aZ];refine⟨?_⟩
 refine cO.pre ((uJ (j:=2) (id:=0) (off:=0) (n:=12) (cs:=iP (IF d)) (kK d) (by rfl) (by rfl) rfl (aJJ (n:=0) (l:=[]))).trans ((fW (fO 52 [1,2]) _).trans (aP (st':=bU 52 [(1,aX aW 1 L),(2,.c (.lp 12 1 (kK d) 0 0))] []) (by kernel_rfl)))) ?_
 refine cO.evG (kB hI) 3 (aSA d L) ?_;simp only[aS,aI,aZ,inR];refine⟨by omega,by omega,⟨⟨trivial,fun _ _ _ _=>trivial⟩,by omega⟩,by omega,⟨?_⟩⟩
 refine cO.loop' (l:=bJ 4 (dH 6 (cS Tryz.prog Tryz.f59))) (b:=inr (inr (bN .skip (dH 6 (cS Tryz.prog Tryz.f59)) 4))) (r:=bJ 5 (dH 6 (cS Tryz.prog Tryz.f59))) (id:=0) (by kernel_rfl) (σ:=Nat)
   (fun k=>(fun(out:List Int) (v t:Int) (k:Nat)=>bU 52 [(1,aX aW 1 L),(2,.c (.lp 12 1 (kK d) 0 0)),(5,iV v),(6,.c (.sl 0 1 0 k)),(7,iV t)] [.row 3 1 k (cR aW out)]) ((dL (k+1)).map (iU d L)) (iU d L k) (d.fi+k) (k+1)) (fun k=>d.fi+k≤d.la) (fun k=>gM d-k) 0 (show d.fi+((0:Nat):Int)≤d.la by omega) (by
     show cW G _ ((fun(out:List Int) (v t:Int) (k:Nat)=>bU 52 [(1,aX aW 1 L),(2,.c (.lp 12 1 (kK d) 0 0)),(5,iV v),(6,.c (.sl 0 1 0 k)),(7,iV t)] [.row 3 1 k (cR aW out)]) [iU d L 0] (iU d L 0) (d.fi+((0:Nat):Int)) 1)
     rw[show d.fi+((0:Nat):Int)=d.fi by omega]
     exact kP ⟨⟨rfl,rfl,rfl,fun e o he ho=>by
      obtain rfl:e=0:=by omega
      obtain rfl:o=0:=by omega
      rfl⟩,trivial⟩) ?_
 rintro k hk Q1 q1n q1e -
 have hrk:=hr k
 have hrk1:=hr (k+1)
 have hl:=ZW d L (k+1)
 refine cO.evG aT 2 (aS9 d L ((dL (k+1)).map (iU d L)) (iU d L k) (d.fi+k) (k+1)) ?_;simp only[bD,aS,aI,aZ,fE,decide_eq_true_eq,decide_eq_false_iff_not];refine⟨fun c=>⟨?_⟩,fun c=>⟨q1e _ ?_⟩⟩
 ·refine cO.pre (aP (st':=(fun(out:List Int) (v t:Int) (k:Nat)=>bU 52 [(1,aX aW 1 L),(2,.c (.lp 12 1 (kK d) 0 0)),(5,iV v),(6,.c (.sl 0 1 0 k)),(7,iV t)] [.row 3 1 k (cR aW out)]) ((dL (k+1)).map (iU d L)) (iU d L k) (d.fi+k) (k+1)) (by kernel_rfl)) ?_
  refine cO.evH (kB hI) (aS8 d L ((dL (k+1)).map (iU d L)) (iU d L k) (d.fi+k) (k+1)) ?_
  have et:d.fi+(k:Int)-d.fi+1=(k:Int)+1:=by omega
  have ew:iU d L k+d.dn+cC L ((k:Int)+1) (d.up-d.dn+1)=iU d L (k+1):=rfl
  simp only[aS,aI,aZ,inR,et,ew];refine⟨by omega,by omega,by omega,by omega,by omega,⟨⟨trivial,fun _ _ _ _=>trivial⟩,by omega⟩,by omega,trivial,aU _,⟨by omega,by omega,aC9 _⟩,by omega,⟨q1n (k+1) _ (show d.fi+((k+1:Nat):Int)≤d.la by omega) (show gM d-(k+1)<gM d-k by omega) ?_⟩⟩
  show cW G _ ((fun(out:List Int) (v t:Int) (k:Nat)=>bU 52 [(1,aX aW 1 L),(2,.c (.lp 12 1 (kK d) 0 0)),(5,iV v),(6,.c (.sl 0 1 0 k)),(7,iV t)] [.row 3 1 k (cR aW out)]) ((dL (k+1+1)).map (iU d L)) (iU d L (k+1)) (d.fi+((k+1:Nat):Int)) (k+1+1))
  rw[SU d L (k+1),show d.fi+((k+1:Nat):Int)=d.fi+(k:Int)+1 by omega];exact kP ⟨⟨rfl,rfl,rfl,fun e o he ho=>BD (ρ:=[2]) hl (aK8 _) he ho⟩,trivial⟩
 ·refine cO.pre (aP (st':=(fun(out:List Int) (v t:Int) (k:Nat)=>bU 52 [(1,aX aW 1 L),(2,.c (.lp 12 1 (kK d) 0 0)),(5,iV v),(6,.c (.sl 0 1 0 k)),(7,iV t)] [.row 3 1 k (cR aW out)]) ((dL (k+1)).map (iU d L)) (iU d L k) (d.fi+k) (k+1)) (by kernel_rfl)) ?_
  refine cO.evH aT (aS7 d L ((dL (k+1)).map (iU d L)) (iU d L k) (d.fi+k) (k+1)) ?_;simp only[aI,aZ]
  have ek:k+1=gM d:=by omega
  have ez:IQ d L=(dL (k+1)).map (iU d L):=by unfold IQ;rw[ek]
  rw[ez,←ek];exact⟨⟨trivial,by simp,0,_,rfl,rfl,fun e o he ho=>rfl⟩⟩
set_option maxRecDepth 100000 in
set_option maxHeartbeats 2000000 in
theorem aQ7(d:De){L:List Int}(hI:oM L):dD Tryz.prog G 24 (aO1 d L):=by
 intro args p v hm hp h;unfold aO1 at hm
 split at hm;rotate_left;· cases hm
 split at hm;rotate_left;· cases hm
 rename_i x y _ _ q1 q2 hx hy;obtain⟨rfl,rfl⟩:=bA hm;clear hm;obtain⟨hq1,hq2,hs⟩:=hp;refine lW.args (args':=[deV d,aX aW 1 L]) ?_ (.cons (NM hx hq1) (.cons (mO hy hq2) .nil))
 have hr:=wJ L hs
 have hs2:=hs
 obtain⟨s1,s2,s3⟩:=hs2
 have hsp:gM d=(d.la-d.fi+1).toNat:=rfl
 have hws:bO Tryz.prog G (yB [(59,YK d L)]):=jO (by simp;exact aMR d hI)
 refine fR Tryz.func24 (by kernel_rfl) rfl ?_ h
 refine cO.evG aT 1 (aVC d L) ?_;simp only[aI,aZ];refine⟨?_⟩
 refine cO.pre ((uJ (j:=2) (id:=0) (off:=0) (n:=12) (cs:=iP (IF d)) (kK d) (by rfl) (by rfl) rfl (aJJ (n:=0) (l:=[]))).trans ((fW (fO 87 [1,2]) _).trans (aP (st':=bU 87 [(1,aX aW 1 L),(2,.c (.lp 12 1 (kK d) 0 0))] []) (by kernel_rfl)))) ?_
 refine cO.evG hws 2 (aVB d L) ?_;simp only[aS,aI,aZ,and_true,true_and];refine⟨⟨fun _ _ _ _=>trivial,fun _ _ _ _=>trivial,hs⟩,⟨?_⟩⟩
 refine cO.loop' (l:=bJ 3 (cS Tryz.prog Tryz.f24)) (b:=inr (inr (bN .skip (cS Tryz.prog Tryz.f24) 3))) (r:=bJ 4 (cS Tryz.prog Tryz.f24)) (id:=0) (by kernel_rfl) (σ:=Nat)
   (fun i=>(fun(W:List Int) (n i:Nat)=>bU 87 [(1,aX aW 1 L),(2,.c (.lp 12 1 (kK d) 0 0)),(5,.c (.sl 0 1 0 n)),(6,iV (i:Nat))] [.row 3 1 n (cR aW W)]) (rM d L i) (gM d) i) (fun i=>1≤i∧i≤gM d) (fun i=>gM d-i) 1 ⟨aU _,by omega⟩ (by
     show cW G _ ((fun(W:List Int) (n i:Nat)=>bU 87 [(1,aX aW 1 L),(2,.c (.lp 12 1 (kK d) 0 0)),(5,.c (.sl 0 1 0 n)),(6,iV (i:Nat))] [.row 3 1 n (cR aW W)]) (rM d L 1) (gM d) 1)
     rw[aEW]
     exact aP (by kernel_rfl)) ?_
 rintro i ⟨hi1,hi2⟩ Q1 q1n q1e -;refine cO.evG aT 2 (aVA d L (rM d L i) (gM d) i) ?_;simp only[bD,aS,aI,aZ,fE,decide_eq_true_eq,decide_eq_false_iff_not];refine⟨fun c=>⟨?_⟩,fun c=>⟨q1e _ ?_⟩⟩
 ·have hlt:i<gM d:=by omega
  obtain⟨k,rfl⟩:∃k,i=k+1:=⟨i-1,by omega⟩
  have hrk:=hr k
  have hrk1:=hr (k+1)
  refine cO.blk' (l:=bJ 2 (jZ (cS Tryz.prog Tryz.f24) 3)) (id:=1) (a:=inr (bN .skip (jZ (cS Tryz.prog Tryz.f24) 3) 2)) (r:=bJ 3 (jZ (cS Tryz.prog Tryz.f24) 3)) (by kernel_rfl) ?_
  intro Q2 q2n q2e _
  have hWl:=mI d L (k+1)
  have hstep:=aB6 d L hlt
  have hg:(rM d L (k+1)).getD k default=tW d L k:=by rw[FV d L (k+1) (by omega),if_pos (by omega)]
  generalize rM d L (k+1)=W at hWl hstep hg ⊢
  refine cO.pre (aP (st':=(fun(W:List Int) (n i:Nat)=>bU 87 [(1,aX aW 1 L),(2,.c (.lp 12 1 (kK d) 0 0)),(5,.c (.sl 0 1 0 n)),(6,iV (i:Nat))] [.row 3 1 n (cR aW W)]) W (gM d) (k+1)) (by kernel_rfl)) ?_
  refine cO.evG (kB hI) 1 (aV9 d L W (gM d) (k+1)) ?_
  have e1:(((k+1:Nat):Int)-1).toNat+0=k:=by omega
  have pk:=cY L ((k+1:Nat):Int) (m:=d.up-d.dn+1) (by omega)
  have e3:((k+1:Nat):Int)=(k:Int)+1:=by omega
  obtain⟨y0,hy0⟩:∃y0,cC L ((k:Int)+1) (d.up-d.dn+1)=y0:=⟨_,rfl⟩
  rw[e3,hy0]at pk
  have es:tW d L (k+1)=IC d (tW d L k) (tW d L k+d.dn+y0):=by rw[←hy0];rfl
  rw[es]at hstep
  generalize tW d L k=p at hg hrk es hstep
  clear hy es;simp only[aS,aI,aZ,inR,e1,hg];rw[e3,hy0];refine⟨by omega,by omega,by omega,by omega,by omega,by omega,⟨⟨trivial,fun _ _ _ _=>trivial⟩,by omega⟩,by omega,⟨?_⟩⟩
  obtain⟨v,hv⟩:∃v,p+d.dn+y0=v:=⟨_,rfl⟩
  rw[hv]at hstep ⊢
  refine cO.pre (aP (st':=(fun(W:List Int) (v:Int) (n i:Nat)=>bU 87 [(1,aX aW 1 L),(2,.c (.lp 12 1 (kK d) 0 0)),(5,.c (.sl 0 1 0 n)),(6,iV (i:Nat)),(7,iV v)] [.row 3 1 n (cR aW W)]) W v (gM d) (k+1)) (by kernel_rfl)) ?_
  refine cO.evG aT 1 (aV8 d L W v (gM d) (k+1)) ?_
  have e2:(((k+1:Nat):Int)).toNat+0=k+1:=rfl
  simp only[aS,aI,aZ,inR,e1,hg];refine⟨by omega,by omega,by omega,by omega,by omega,by omega,by omega,by omega,by omega,by omega,⟨?_⟩⟩
  obtain⟨x1,hx1⟩:∃x1,mxZ (YE (YE v d.hi) (p+d.up)) (p+d.dn)=x1:=⟨_,rfl⟩
  have hx1':(if (if p+d.up<if d.hi<v then d.hi else v then p+d.up else if d.hi<v then d.hi else v)<p+d.dn then p+d.dn else if p+d.up<if d.hi<v then d.hi else v then p+d.up else if d.hi<v then d.hi else v)=x1:=hx1
  rw[hx1'];refine cO.pre (show cW G _ ((fun(W:List Int) (v:Int) (n i:Nat)=>bU 87 [(1,aX aW 1 L),(2,.c (.lp 12 1 (kK d) 0 0)),(5,.c (.sl 0 1 0 n)),(6,iV (i:Nat)),(7,iV v)] [.row 3 1 n (cR aW W)]) (W.set (k+1) x1) v (gM d) (k+1)) from kP ⟨⟨rfl,rfl,rfl,fun e o he ho=>XJ (by omega) [0] ho e2⟩,trivial⟩) ?_
  have hg2:(W.set (k+1) x1).getD k default=p:=by
   rw[aG,List.getElem?_set_ne (by omega),←aG];exact hg
  refine cO.evH aT (aV7 d L (W.set (k+1) x1) v (gM d) (k+1)) ?_
  have fin:∀st:St,cW G st ((fun(W:List Int) (n i:Nat)=>bU 87 [(1,aX aW 1 L),(2,.c (.lp 12 1 (kK d) 0 0)),(5,.c (.sl 0 1 0 n)),(6,iV (i:Nat))] [.row 3 1 n (cR aW W)]) (rM d L (k+1+1)) (gM d) (k+1))→cO Tryz.prog G (bB Tryz.prog Tryz.f24) (aX aW 1 (vJ d L)) (bJ 3 (jZ (cS Tryz.prog Tryz.f24) 3)) st Q1:=fun st hst=>by
   refine cO.pre hst ?_;refine cO.evH aT (aV6 d L (rM d L (k+1+1)) (gM d) (k+1)) ?_;simp only[aS,aI,aZ,inR]
   exact⟨by omega,⟨q1n (k+1+1) _ ⟨by omega,by omega⟩ (by omega) (aP (by kernel_rfl))⟩⟩
  simp only[bD,aS,aI,aZ,inR,e1,hg2,decide_eq_true_eq,decide_eq_false_iff_not];refine⟨fun c2=>⟨by omega,by omega,by omega,by omega,by omega,by omega,by omega,by omega,by omega,by omega,⟨q2n _ (fin _ ?_)⟩⟩,fun c2=>⟨q2n _ (fin _ ?_)⟩⟩
  ·have e4:IC d p v=mxZ (p+d.dn) (YE d.lo (p+d.up)):=by unfold IC;rw[if_pos c2]
   have e5:(W.set (k+1) x1).set (k+1) (IC d p v)=rM d L (k+1+1):=by rw[List.set_set];exact hstep
   rw[←e5,e4];exact kP ⟨⟨rfl,rfl,rfl,fun e o he ho=>XJ (by rw[fI];omega) [0] ho e2⟩,trivial⟩
  ·have e4:IC d p v=x1:=by unfold IC;rw[if_neg c2];exact hx1
   rw[e4]at hstep;rw[←hstep]
   exact aP (by kernel_rfl)
 ·obtain rfl:i=gM d:=by omega
  refine cO.pre (aP (st':=(fun(W:List Int) (n i:Nat)=>bU 87 [(1,aX aW 1 L),(2,.c (.lp 12 1 (kK d) 0 0)),(5,.c (.sl 0 1 0 n)),(6,iV (i:Nat))] [.row 3 1 n (cR aW W)]) (rM d L (gM d)) (gM d) (gM d)) (by kernel_rfl)) ?_
  refine cO.evH aT (aV5 d L (rM d L (gM d)) (gM d) (gM d)) ?_;simp only[aS,aI,bK];rw[←aEX d L (aU _)];exact⟨⟨by omega,fun _ _ _ _=>rfl⟩,⟨mL (mI d L _).symm fun e o he ho=>rfl⟩⟩
end
def aO2(d:De)(W L:List Int):Mod
 |[x,y,z,.c (.p (.i .i64 n))]=>match VD x d,BY y W,BY z L with
  |some p,some q,some r=>some (p∧q∧r∧Sm d∧Bd W∧0<W.length∧W.length≤101∧0≤n∧n≤1000∧L.length≤1000,aX hY 4 (lC d W L (yI L n.toNat)))
  |_,_,_=>none
 |_=>none
theorem aWV(d:De)(W L:List Int)(n:Nat):cJ dX (dH 1 (cS Tryz.prog Tryz.f25)) (iR Tryz.f25 [deV d,aX aW 1 W,aX aW 1 L,iV n]) (cP (fO 103 [1,2,3,4]) (bB Tryz.prog Tryz.f25))=Tr.done X.normal
 (bU 103 [(1,.c (.p (.l 1 W.length (aJ aW W)))),(2,.c (.p (.l 1 L.length (aJ aW L)))),(3,.c (.p (.i .i64 (↑n:Int)))),(4,.c (.ptr 0 0))] [.cells 59 (CZ d.nm d.L.length (aJ fD d.L) d.u0 d.u1 d.u2 d.lo d.hi d.dn d.up d.fi d.la d.bu)]):=by kernel_rfl
theorem aWU(d:De)(W L:List Int)(n:Nat):cJ dX (dH 3 (bJ 1 (cS Tryz.prog Tryz.f25))) (bU 103 [(1,aX aW 1 W),(2,aX aW 1 L),(3,iV (n:Nat)),(4,.c (.lp 12 1 (kK d) 0 0))] []) (cP (fO 103 [1,2,3,4,9,10,11]) (bB Tryz.prog Tryz.f25))=Tr.done X.normal
 (bU 103 [(1,.c (.p (.l 1 W.length (aJ aW W)))),(2,.c (.p (.l 1 L.length (aJ aW L)))),(3,.c (.p (.i .i64 (↑n:Int)))),(4,.c (.lp 12 1 (kK d) 0 0)),(9,.c (.p (.z (dP none 0 0)))),(10,.c (.p (.i .i64 (↑W.length:Int)))),(11,.c (.p (.i .i64 0)))] []):=by kernel_rfl
theorem aWT(d:De)(W L:List Int)(out:List Cl)(n k:Nat)(i:Int):cJ dX (dH 2 (jZ (cS Tryz.prog Tryz.f25) 4)) (bU 103 [(1,aX aW 1 W),(2,aX aW 1 L),(3,iV (n:Nat)),(4,.c (.lp 12 1 (kK d) 0 0)),(9,.c (.sl 0 4 0 k)),(10,iV (W.length:Nat)),(11,iV i)] [.row 79 4 k (cR hY out)]) (cP (fO 103 [1,2,3,4,9,10,11]) (bB Tryz.prog Tryz.f25))=Tr.rq (inR aA (i+2))
 (bT (decide (i+2<(↑L.length:Int)))
 (bT (decide ((↑k:Int)<(↑n:Int)))
 (.done .normal
 (bU 103 [(1,.c (.p (.l 1 W.length (aJ aW W)))),(2,.c (.p (.l 1 L.length (aJ aW L)))),(3,.c (.p (.i .i64 (↑n:Int)))),(4,.c (.lp 12 1 (kK d) 0 0)),(9,.c (.sl 0 4 0 k)),(10,.c (.p (.i .i64 (↑W.length:Int)))),(11,.c (.p (.i .i64 i)))] [.row 79 4 k fun e o=>fG [0] (cR hY out e o)]))
 (.done (.exit 0)
 (bU 103 [(1,.c (.p (.l 1 W.length (aJ aW W)))),(2,.c (.p (.l 1 L.length (aJ aW L)))),(3,.c (.p (.i .i64 (↑n:Int)))),(4,.c (.lp 12 1 (kK d) 0 0)),(9,.c (.sl 0 4 0 k)),(10,.c (.p (.i .i64 (↑W.length:Int)))),(11,.c (.p (.i .i64 i)))] [.row 79 4 k fun e o=>fG [0] (cR hY out e o)])))
 (.done (.exit 0)
 (bU 103 [(1,.c (.p (.l 1 W.length (aJ aW W)))),(2,.c (.p (.l 1 L.length (aJ aW L)))),(3,.c (.p (.i .i64 (↑n:Int)))),(4,.c (.lp 12 1 (kK d) 0 0)),(9,.c (.sl 0 4 0 k)),(10,.c (.p (.i .i64 (↑W.length:Int)))),(11,.c (.p (.i .i64 i)))] [.row 79 4 k fun e o=>fG [0] (cR hY out e o)]))):=by kernel_rfl
theorem aWS(d:De)(W L:List Int)(out:List Cl)(n k:Nat)(i:Int):cJ aBE (dH 5 (jH (inr (bN .skip (jZ (cS Tryz.prog Tryz.f25) 4) 2)))) (bU 103 [(1,aX aW 1 W),(2,aX aW 1 L),(3,iV (n:Nat)),(4,.c (.lp 12 1 (kK d) 0 0)),(9,.c (.sl 0 4 0 k)),(10,iV (W.length:Nat)),(11,iV i)] [.row 79 4 k (cR hY out)]) (cP (fO 103 [1,2,3,4,9,10,11,12,13,14,15,16]) (bB Tryz.prog Tryz.f25))=Tr.rq (0≤i∧i<(↑L.length:Int))
 (.rq (inR aA (L.getD i.toNat default)∧0<(↑W.length:Int))
 (.rq (inR aA ((↑W.length:Int)-1))
 (.rq (inR aA (i+1))
 (.rq (0≤i+1∧i+1<(↑L.length:Int))
 (.rq (inR aA (L.getD (i+1).toNat default)∧aF 0<aF 3)
 (.rq (inR aA (cM (L.getD i.toNat default) (↑W.length:Int)+cM (L.getD (i+1).toNat default) 3))
 (.rq (0≤cM (L.getD i.toNat default) (↑W.length:Int)∧cM (L.getD i.toNat default) (↑W.length:Int)<(↑W.length:Int))
 (.rq (0≤cM (L.getD i.toNat default) (↑W.length:Int)∧cM (L.getD i.toNat default) (↑W.length:Int)<(↑W.length:Int))
 (.done .normal
 (bU 103 [(1,.c (.p (.l 1 W.length (aJ aW W)))),(2,.c (.p (.l 1 L.length (aJ aW L)))),(3,.c (.p (.i .i64 (↑n:Int)))),(4,.c (.lp 12 1 (kK d) 0 0)),(9,.c (.sl 0 4 0 k)),(10,.c (.p (.i .i64 (↑W.length:Int)))),(11,.c (.p (.i .i64 i))),(12,.c (.p (.i .i64 (cM (L.getD i.toNat default) (↑W.length:Int))))),(13,.c (.p (.i .i64 (if cM (L.getD i.toNat default) (↑W.length:Int)+cM (L.getD (i+1).toNat default) 3<(↑W.length:Int)-1 then cM (L.getD i.toNat default) (↑W.length:Int)+cM (L.getD (i+1).toNat default) 3 else (↑W.length:Int)-1)))),(14,.c (.p (.i .i64 (W.getD (cM (L.getD i.toNat default) (↑W.length:Int)).toNat default)))),(15,.c (.p (.i .i64 (W.getD (cM (L.getD i.toNat default) (↑W.length:Int)).toNat default)))),(16,.c (.p (.i .i64 (cM (L.getD i.toNat default) (↑W.length:Int)))))] [.row 79 4 k fun e o=>fG [0] (cR hY out e o)])))))))))):=by kernel_rfl
theorem aWR(d:De)(W L:List Int)(out:List Cl)(n k:Nat)(i f g a b t:Int):cJ dX (dH 2 (jZ (jH (inr (bN .skip (jZ (cS Tryz.prog Tryz.f25) 4) 2))) 5)) (bU 103 [(1,aX aW 1 W),(2,aX aW 1 L),(3,iV (n:Nat)),(4,.c (.lp 12 1 (kK d) 0 0)),(9,.c (.sl 0 4 0 k)),(10,iV (W.length:Nat)),(11,iV i),(12,iV f),(13,iV g),(14,iV a),(15,iV b),(16,iV t)] [.row 79 4 k (cR hY out)]) (cP (fO 103 [1,2,3,4,9,10,11,12,13,14,15,16]) (bB Tryz.prog Tryz.f25))=bT (decide (t≤g))
 (.done .normal
 (bU 103 [(1,.c (.p (.l 1 W.length (aJ aW W)))),(2,.c (.p (.l 1 L.length (aJ aW L)))),(3,.c (.p (.i .i64 (↑n:Int)))),(4,.c (.lp 12 1 (kK d) 0 0)),(9,.c (.sl 0 4 0 k)),(10,.c (.p (.i .i64 (↑W.length:Int)))),(11,.c (.p (.i .i64 i))),(12,.c (.p (.i .i64 f))),(13,.c (.p (.i .i64 g))),(14,.c (.p (.i .i64 a))),(15,.c (.p (.i .i64 b))),(16,.c (.p (.i .i64 t)))] [.row 79 4 k fun e o=>fG [0] (cR hY out e o)]))
 (.done (.exit 2)
 (bU 103 [(1,.c (.p (.l 1 W.length (aJ aW W)))),(2,.c (.p (.l 1 L.length (aJ aW L)))),(3,.c (.p (.i .i64 (↑n:Int)))),(4,.c (.lp 12 1 (kK d) 0 0)),(9,.c (.sl 0 4 0 k)),(10,.c (.p (.i .i64 (↑W.length:Int)))),(11,.c (.p (.i .i64 i))),(12,.c (.p (.i .i64 f))),(13,.c (.p (.i .i64 g))),(14,.c (.p (.i .i64 a))),(15,.c (.p (.i .i64 b))),(16,.c (.p (.i .i64 t)))] [.row 79 4 k fun e o=>fG [0] (cR hY out e o)])):=by kernel_rfl
theorem aWQ(d:De)(W L:List Int)(out:List Cl)(n k:Nat)(i f g a b t:Int):cJ dX (bJ 2 (jZ (jH (inr (bN .skip (jZ (cS Tryz.prog Tryz.f25) 4) 2))) 5)) (bU 103 [(1,aX aW 1 W),(2,aX aW 1 L),(3,iV (n:Nat)),(4,.c (.lp 12 1 (kK d) 0 0)),(9,.c (.sl 0 4 0 k)),(10,iV (W.length:Nat)),(11,iV i),(12,iV f),(13,iV g),(14,iV a),(15,iV b),(16,iV t)] [.row 79 4 k (cR hY out)]) (cP (fO 103 [1,2,3,4,9,10,11,12,13,14,15,16]) (bB Tryz.prog Tryz.f25))=Tr.rq (0≤t∧t<(↑W.length:Int))
 (.rq (0≤t∧t<(↑W.length:Int))
 (.rq (inR aA (t+1))
 (.done .normal
 (bU 103 [(1,.c (.p (.l 1 W.length (aJ aW W)))),(2,.c (.p (.l 1 L.length (aJ aW L)))),(3,.c (.p (.i .i64 (↑n:Int)))),(4,.c (.lp 12 1 (kK d) 0 0)),(9,.c (.sl 0 4 0 k)),(10,.c (.p (.i .i64 (↑W.length:Int)))),(11,.c (.p (.i .i64 i))),(12,.c (.p (.i .i64 f))),(13,.c (.p (.i .i64 g))),(14,.c (.p (.i .i64 (if W.getD t.toNat default<a then W.getD t.toNat default else a)))),(15,.c (.p (.i .i64 (if b<W.getD t.toNat default then W.getD t.toNat default else b)))),(16,.c (.p (.i .i64 (t+1))))] [.row 79 4 k fun e o=>fG [0] (cR hY out e o)])))):=by kernel_rfl
theorem aWP(d:De)(W L:List Int)(out:List Cl)(n k:Nat)(i f g a b t:Int):cJ aBE (bJ 6 (jH (inr (bN .skip (jZ (cS Tryz.prog Tryz.f25) 4) 2)))) (bU 103 [(1,aX aW 1 W),(2,aX aW 1 L),(3,iV (n:Nat)),(4,.c (.lp 12 1 (kK d) 0 0)),(9,.c (.sl 0 4 0 k)),(10,iV (W.length:Nat)),(11,iV i),(12,iV f),(13,iV g),(14,iV a),(15,iV b),(16,iV t)] [.row 79 4 k (cR hY out)]) (cP (fO 103 [1,2,3,4,9,10,11]) (bB Tryz.prog Tryz.f25))=Tr.rq (inR aA (i+2))
 (.rq (0≤i+2∧i+2<(↑L.length:Int))
 (.rq (inR aA (L.getD (i+2).toNat default)∧aF 0<aF 16)
 (.rq (inR aA (d.fi+f))
 (.rq (inR aA (d.fi+g))
 (.rq (0≤cM (L.getD (i+2).toNat default) 16∧aF 0<aF 4∧inR aA (cM (L.getD (i+2).toNat default) 16 / 4))
 (.rq (inR aA (a-cM (L.getD (i+2).toNat default) 16 / 4))
 (.rq (0≤cM (L.getD (i+2).toNat default) 16∧aF 0<aF 4)
 (.rq (inR aA (b+cM (L.getD (i+2).toNat default) 16%4))
 (.rq (k=k)
 (.rq (1≤1)
 (.rq
 ((k+1)*32≤140737488355328 ∧
 k+1≤140737488355328 ∧
 ∀(e o:Nat),
 e<1 →
 o<4 →
 kZ
 (rR
 (aH8 (d.fi+f) (d.fi+g) (a-cM (L.getD (i+2).toNat default) 16 / 4) (b+cM (L.getD (i+2).toNat default) 16%4))
 4 1 (e+0) o) =
 true)
 (.done .normal
 (bU 103 [(1,.c (.p (.l 1 W.length (aJ aW W)))),(2,.c (.p (.l 1 L.length (aJ aW L)))),(3,.c (.p (.i .i64 (↑n:Int)))),(4,.c (.lp 12 1 (kK d) 0 0)),(9,.c (.sl 0 4 0 (k+1))),(10,.c (.p (.i .i64 (↑W.length:Int)))),(11,.c (.p (.i .i64 i)))] [.row 79 4 (k+1) fun e o=>fG [2] (iZ k (cR hY out) (fun e o=>bN C.top (aH8 (d.fi+f) (d.fi+g) (a-cM (L.getD (i+2).toNat default) 16 / 4) (b+cM (L.getD (i+2).toNat default) 16%4)) ((e+0)*4+o)) e o)]))))))))))))):=by kernel_rfl
theorem aWO(d:De)(W L:List Int)(out:List Cl)(n k:Nat)(i:Int):cJ dX (bJ 3 (jZ (cS Tryz.prog Tryz.f25) 4)) (bU 103 [(1,aX aW 1 W),(2,aX aW 1 L),(3,iV (n:Nat)),(4,.c (.lp 12 1 (kK d) 0 0)),(9,.c (.sl 0 4 0 k)),(10,iV (W.length:Nat)),(11,iV i)] [.row 79 4 k (cR hY out)]) (cP (fO 103 [1,2,3,4,9,10,11]) (bB Tryz.prog Tryz.f25))=Tr.rq (inR aA (i+3))
 (.done .normal
 (bU 103 [(1,.c (.p (.l 1 W.length (aJ aW W)))),(2,.c (.p (.l 1 L.length (aJ aW L)))),(3,.c (.p (.i .i64 (↑n:Int)))),(4,.c (.lp 12 1 (kK d) 0 0)),(9,.c (.sl 0 4 0 k)),(10,.c (.p (.i .i64 (↑W.length:Int)))),(11,.c (.p (.i .i64 (i+3))))] [.row 79 4 k fun e o=>fG [0] (cR hY out e o)])):=by kernel_rfl
theorem aWN(d:De)(W L:List Int)(out:List Cl)(n k:Nat)(i:Int):cJ dX (bJ 5 (cS Tryz.prog Tryz.f25)) (bU 103 [(1,aX aW 1 W),(2,aX aW 1 L),(3,iV (n:Nat)),(4,.c (.lp 12 1 (kK d) 0 0)),(9,.c (.sl 0 4 0 k)),(10,iV (W.length:Nat)),(11,iV i)] [.row 79 4 k (cR hY out)]) (cP [] (bB Tryz.prog Tryz.f25))=Tr.rq (0+k≤k∧∀(e o:Nat),e<k→o<4→BJ (cR hY out (e+0) o)=true) (.done .ret (St.mk [V.c (C.p (PV.l 4 k fun e o=>tE (cR hY out (e+0) o)))] [])):=by kernel_rfl
theorem aOQ(a b c e:Int):∀q o:Nat,q<1→o<4→kZ (rR (aH8 a b c e) 4 1 (q+0) o)=true:=by
 intro q o hq ho
 obtain rfl:q=0:=by omega
 match o,ho with
 |0,_|1,_|2,_|3,_=>rfl
theorem aR7(x:Cl):∀o:Nat,o<4→(fun e o:Nat=>bN C.top (aH8 x.fr x.to x.lo x.hi) ((e+0)*4+o)) 0 o=.p (hY x o):=by
 intro o ho
 match o,ho with
 |0,_|1,_|2,_|3,_=>rfl
section
variable {G:Nat→Option Obj}
set_option maxRecDepth 100000 in
set_option maxHeartbeats 2000000 in
theorem aQA(d:De)(W:List Int){L:List Int}(hI:oM L):dD Tryz.prog G 25 (aO2 d W L):=by
 intro args p v hm hp h;unfold aO2 at hm
 split at hm;rotate_left;· cases hm
 split at hm;rotate_left;· cases hm
 rename_i x y z n0 _ _ _ q1 q2 q3 hx hy hz;obtain⟨rfl,rfl⟩:=bA hm;clear hm;obtain⟨hq1,hq2,hq3,hs,hW,hl0,hl1,hn0,hn1,hL⟩:=hp
 obtain⟨n,rfl⟩:∃n:Nat,n0=n:=⟨n0.toNat,by omega⟩
 rw[show (n:Int).toNat=n from rfl];refine lW.args (args':=[deV d,aX aW 1 W,aX aW 1 L,iV n]) ?_ (.cons (NM hx hq1) (.cons (mO hy hq2) (.cons (mO hz hq3) (.cons (.refl _) .nil))));clear hx hy hz hq1 hq2 hq3
 refine fR Tryz.func25 (by kernel_rfl) rfl ?_ h
 refine cO.evG aT 1 (aWV d W L n) ?_;simp only[aI,aZ];refine⟨?_⟩
 refine cO.pre ((uJ (j:=4) (id:=0) (off:=0) (n:=12) (cs:=iP (IF d)) (kK d) (by rfl) (by rfl) rfl (aJJ (n:=0) (l:=[]))).trans ((fW (fO 103 [1,2,3,4]) _).trans (aP (st':=bU 103 [(1,aX aW 1 W),(2,aX aW 1 L),(3,iV (n:Nat)),(4,.c (.lp 12 1 (kK d) 0 0))] []) (by kernel_rfl)))) ?_
 refine cO.evG aT 3 (aWU d W L n) ?_;simp only[aS,aI,aZ];refine⟨?_⟩
 have hN:∀k:Nat,k<yI L n↔3*k+2<L.length∧k<n:=fun k=>by unfold yI;omega
 have hN2:yI L n≤1000:=by unfold yI;omega
 refine cO.loop' (l:=bJ 4 (cS Tryz.prog Tryz.f25)) (b:=inr (inr (bN .skip (cS Tryz.prog Tryz.f25) 4))) (r:=bJ 5 (cS Tryz.prog Tryz.f25)) (id:=0) (by kernel_rfl) (σ:=Nat)
   (fun k=>(fun(out:List Cl) (k:Nat) (i:Int)=>bU 103 [(1,aX aW 1 W),(2,aX aW 1 L),(3,iV (n:Nat)),(4,.c (.lp 12 1 (kK d) 0 0)),(9,.c (.sl 0 4 0 k)),(10,iV (W.length:Nat)),(11,iV i)] [.row 79 4 k (cR hY out)]) (lC d W L k) k ((3*k:Nat):Int)) (fun k=>k≤yI L n) (fun k=>yI L n-k) 0 (bH _) ((pF 79 4 (cR hY []) 9 (by kernel_rfl)).trans (aP (by kernel_rfl))) ?_
 rintro k hk Q1 q1n q1e -
 have hl:=SL d W L k
 have hNk:=hN k
 have eo:∀st:St,k=yI L n→cW G st ((fun(out:List Cl) (k:Nat) (i:Int)=>bU 103 [(1,aX aW 1 W),(2,aX aW 1 L),(3,iV (n:Nat)),(4,.c (.lp 12 1 (kK d) 0 0)),(9,.c (.sl 0 4 0 k)),(10,iV (W.length:Nat)),(11,iV i)] [.row 79 4 k (cR hY out)]) (lC d W L k) k ((3*k:Nat):Int))→cO Tryz.prog G (bB Tryz.prog Tryz.f25) (aX hY 4 (lC d W L (yI L n))) (bJ 5 (cS Tryz.prog Tryz.f25)) st fun _ _=>False:=fun st e hst=>by
  refine cO.pre hst ?_;refine cO.evH aT (aWN d W L (lC d W L k) n k ((3*k:Nat):Int)) ?_;simp only[aS,aI,bK];rw[←e];exact⟨⟨by omega,fun _ _ _ _=>rfl⟩,⟨mL hl.symm fun e o he ho=>rfl⟩⟩
 refine cO.evG aT 2 (aWT d W L (lC d W L k) n k ((3*k:Nat):Int)) ?_;simp only[bD,aS,aI,aZ,fE,decide_eq_true_eq,decide_eq_false_iff_not,inR]
 refine⟨by omega,fun c1=>⟨fun c2=>⟨?_⟩,fun c2=>⟨q1e _ (eo _ (by omega) (aP (by kernel_rfl)))⟩⟩,fun c1=>⟨q1e _ (eo _ (by omega) (aP (by kernel_rfl)))⟩⟩
 have hlt:k<yI L n:=hNk.2 ⟨by omega,by omega⟩
 refine cO.blk' (l:=bJ 2 (jZ (cS Tryz.prog Tryz.f25) 4)) (id:=1) (a:=inr (bN .skip (jZ (cS Tryz.prog Tryz.f25) 4) 2)) (r:=bJ 3 (jZ (cS Tryz.prog Tryz.f25) 4)) (by kernel_rfl) ?_
 intro Q2 q2n q2e _
 refine cO.pre (aP (st':=(fun(out:List Cl) (k:Nat) (i:Int)=>bU 103 [(1,aX aW 1 W),(2,aX aW 1 L),(3,iV (n:Nat)),(4,.c (.lp 12 1 (kK d) 0 0)),(9,.c (.sl 0 4 0 k)),(10,iV (W.length:Nat)),(11,iV i)] [.row 79 4 k (cR hY out)]) (lC d W L k) k ((3*k:Nat):Int)) (by kernel_rfl)) ?_
 refine cO.evG pS 5 (aWS d W L (lC d W L k) n k ((3*k:Nat):Int)) ?_;obtain⟨r1,r2,r3⟩:=aRD hs hW hl0 hl1 L (3*k)
 have i0:=NT hI (3*k)
 have i1:=NT hI (3*k+1)
 have i2:=NT hI (3*k+2)
 have e0:(((3*k:Nat):Int)).toNat=3*k:=rfl
 have e1:(((3*k:Nat):Int)+1).toNat=3*k+1:=by omega
 have e2:(((3*k:Nat):Int)+2).toNat=3*k+2:=by omega
 have ef:cM (L.getD (3*k) default) (W.length:Int)=LH W L (3*k):=rfl
 have p3:=lS (L.getD (3*k+1) default) (m:=3) (by omega)
 have eg:(if LH W L (3*k)+cM (L.getD (3*k+1) default) 3<(W.length:Int)-1 then LH W L (3*k)+cM (L.getD (3*k+1) default) 3 else (W.length:Int)-1)=arG W L (3*k):=rfl
 have em:cM (L.getD (3*k+2) default) 16=arM L (3*k):=rfl
 have ecl:lC d W L (k+1)=lC d W L k++[OC d W L (3*k)]:=aBZ d W L k
 have ec:OC d W L (3*k)=⟨d.fi+LH W L (3*k),d.fi+arG W L (3*k),QS W (LH W L (3*k)).toNat (arN W L (3*k))-arM L (3*k) / 4,QW W (LH W L (3*k)).toNat (arN W L (3*k))+arM L (3*k)%4⟩:=rfl
 have en:arN W L (3*k)=(arG W L (3*k)-LH W L (3*k)+1).toNat:=rfl
 have b1:=aEP hW (LH W L (3*k)).toNat
 have b2:=aF7 hW (LH W L (3*k)).toNat
 simp only[aS,aI,aZ,e0,e1,ef,eg]
 generalize arG W L (3*k)=g at r2 ec en ⊢
 generalize arN W L (3*k)=N at ec en ⊢
 generalize LH W L (3*k)=f at r1 r2 ec en b1 b2 ⊢
 clear ef eg e0 e1 hN hNk
 generalize cM (L.getD (3*k+1) default) 3=y3 at p3 ⊢
 have hs2:=hs
 obtain⟨s1,s2,s3⟩:=hs2;refine⟨⟨by omega,by omega⟩,⟨i0,by omega⟩,by simp only[inR];omega,by simp only[inR];omega,⟨by omega,by omega⟩,⟨i1,by decide⟩,by simp only[inR];omega,r1,r1,⟨?_⟩⟩
 refine cO.loop' (l:=bJ 5 (jH (inr (bN .skip (jZ (cS Tryz.prog Tryz.f25) 4) 2)))) (b:=inr (inr (bN .skip (jH (inr (bN .skip (jZ (cS Tryz.prog Tryz.f25) 4) 2))) 5))) (r:=bJ 6 (jH (inr (bN .skip (jZ (cS Tryz.prog Tryz.f25) 4) 2)))) (id:=2) (by kernel_rfl) (σ:=Nat)
   (fun j=>(fun(out:List Cl) (k:Nat) (i a b t:Int)=>bU 103 [(1,aX aW 1 W),(2,aX aW 1 L),(3,iV (n:Nat)),(4,.c (.lp 12 1 (kK d) 0 0)),(9,.c (.sl 0 4 0 k)),(10,iV (W.length:Nat)),(11,iV i),(12,iV f),(13,iV g),(14,iV a),(15,iV b),(16,iV t)] [.row 79 4 k (cR hY out)]) (lC d W L k) k ((3*k:Nat):Int) (QS W f.toNat j) (QW W f.toNat j) (f+j)) (fun j=>j≤N) (fun j=>N-j) 0 (bH _) (by
    show cW G _ ((fun(out:List Cl) (k:Nat) (i a b t:Int)=>bU 103 [(1,aX aW 1 W),(2,aX aW 1 L),(3,iV (n:Nat)),(4,.c (.lp 12 1 (kK d) 0 0)),(9,.c (.sl 0 4 0 k)),(10,iV (W.length:Nat)),(11,iV i),(12,iV f),(13,iV g),(14,iV a),(15,iV b),(16,iV t)] [.row 79 4 k (cR hY out)]) (lC d W L k) k ((3*k:Nat):Int) (W.getD f.toNat default) (W.getD f.toNat default) (f+((0:Nat):Int)))
    rw[show f+((0:Nat):Int)=f by omega]
    exact aP (by kernel_rfl)) ?_
 rintro j hj Q3 q3n q3e -;refine cO.evG aT 2 (aWR d W L (lC d W L k) n k ((3*k:Nat):Int) f g (QS W f.toNat j) (QW W f.toNat j) (f+j)) ?_;simp only[bD,aS,aI,aZ,fE,decide_eq_true_eq,decide_eq_false_iff_not];refine⟨fun c=>⟨?_⟩,fun c=>⟨q3e _ ?_⟩⟩
 ·refine cO.pre (aP (st':=(fun(out:List Cl) (k:Nat) (i a b t:Int)=>bU 103 [(1,aX aW 1 W),(2,aX aW 1 L),(3,iV (n:Nat)),(4,.c (.lp 12 1 (kK d) 0 0)),(9,.c (.sl 0 4 0 k)),(10,iV (W.length:Nat)),(11,iV i),(12,iV f),(13,iV g),(14,iV a),(15,iV b),(16,iV t)] [.row 79 4 k (cR hY out)]) (lC d W L k) k ((3*k:Nat):Int) (QS W f.toNat j) (QW W f.toNat j) (f+j)) (by kernel_rfl)) ?_
  refine cO.evH aT (aWQ d W L (lC d W L k) n k ((3*k:Nat):Int) f g (QS W f.toNat j) (QW W f.toNat j) (f+j)) ?_
  have et:(f+(j:Int)).toNat=f.toNat+j:=by omega
  have el:(if W.getD (f.toNat+j) default<QS W f.toNat j then W.getD (f.toNat+j) default else QS W f.toNat j)=QS W f.toNat (j+1):=rfl
  have eh:(if QW W f.toNat j<W.getD (f.toNat+j) default then W.getD (f.toNat+j) default else QW W f.toNat j)=QW W f.toNat (j+1):=rfl
  simp only[aS,aI,aZ,et,el,eh,inR];refine⟨⟨by omega,by omega⟩,⟨by omega,by omega⟩,by omega,⟨q3n (j+1) _ (by omega) (by omega) ?_⟩⟩
  show cW G _ ((fun(out:List Cl) (k:Nat) (i a b t:Int)=>bU 103 [(1,aX aW 1 W),(2,aX aW 1 L),(3,iV (n:Nat)),(4,.c (.lp 12 1 (kK d) 0 0)),(9,.c (.sl 0 4 0 k)),(10,iV (W.length:Nat)),(11,iV i),(12,iV f),(13,iV g),(14,iV a),(15,iV b),(16,iV t)] [.row 79 4 k (cR hY out)]) (lC d W L k) k ((3*k:Nat):Int) (QS W f.toNat (j+1)) (QW W f.toNat (j+1)) (f+((j+1:Nat):Int)))
  rw[show f+((j+1:Nat):Int)=f+(j:Int)+1 by omega]
  exact aP (by kernel_rfl)
 ·obtain rfl:j=N:=by omega
  have b1:=b1 j
  have b2:=b2 j
  refine cO.pre (aP (st':=(fun(out:List Cl) (k:Nat) (i a b t:Int)=>bU 103 [(1,aX aW 1 W),(2,aX aW 1 L),(3,iV (n:Nat)),(4,.c (.lp 12 1 (kK d) 0 0)),(9,.c (.sl 0 4 0 k)),(10,iV (W.length:Nat)),(11,iV i),(12,iV f),(13,iV g),(14,iV a),(15,iV b),(16,iV t)] [.row 79 4 k (cR hY out)]) (lC d W L k) k ((3*k:Nat):Int) (QS W f.toNat j) (QW W f.toNat j) (f+j)) (by kernel_rfl)) ?_
  refine cO.evH pS (aWP d W L (lC d W L k) n k ((3*k:Nat):Int) f g (QS W f.toNat j) (QW W f.toNat j) (f+j)) ?_
  generalize QS W f.toNat j=lo at b1 ec ⊢
  generalize QW W f.toNat j=hi at b2 ec ⊢
  simp only[aS,aI,aZ,e2,em];clear em
  generalize arM L (3*k)=m at r3 ec ⊢
  refine⟨by simp only[inR];omega,⟨by omega,by omega⟩,⟨i2,by decide⟩,by simp only[inR];omega,by simp only[inR];omega,⟨r3.1,by decide,by simp only[inR];omega⟩,by simp only[inR];omega,⟨r3.1,by decide⟩,by simp only[inR];omega,trivial,aU _,⟨by omega,by omega,aOQ _ _ _ _⟩,⟨q2n _ ?_⟩⟩
  refine cO.pre (show cW G _ ((fun(out:List Cl) (k:Nat) (i:Int)=>bU 103 [(1,aX aW 1 W),(2,aX aW 1 L),(3,iV (n:Nat)),(4,.c (.lp 12 1 (kK d) 0 0)),(9,.c (.sl 0 4 0 k)),(10,iV (W.length:Nat)),(11,iV i)] [.row 79 4 k (cR hY out)]) (lC d W L (k+1)) (k+1) ((3*k:Nat):Int)) from by
   rw[ecl,ec]
   exact kP ⟨⟨rfl,rfl,rfl,fun e o he ho=>BD (ρ:=[2]) hl (aR7 ⟨d.fi+f,d.fi+g,lo-m / 4,hi+m%4⟩) he ho⟩,trivial⟩) ?_
  refine cO.evH aT (aWO d W L (lC d W L (k+1)) n (k+1) ((3*k:Nat):Int)) ?_;simp only[aS,aI,aZ,inR];refine⟨by omega,⟨q1n (k+1) _ (by omega) (by omega) ?_⟩⟩
  show cW G _ ((fun(out:List Cl) (k:Nat) (i:Int)=>bU 103 [(1,aX aW 1 W),(2,aX aW 1 L),(3,iV (n:Nat)),(4,.c (.lp 12 1 (kK d) 0 0)),(9,.c (.sl 0 4 0 k)),(10,iV (W.length:Nat)),(11,iV i)] [.row 79 4 k (cR hY out)]) (lC d W L (k+1)) (k+1) ((3*(k+1):Nat):Int))
  rw[show ((3*(k+1):Nat):Int)=((3*k:Nat):Int)+3 by omega]
  exact aP (by kernel_rfl)
end
def NC(L M:List Int):Mod
 |[x,.c (.p (.i .i64 a)),.c (.p (.i .i64 n))]=>match BY x L with
  |some p=>some ((p∧inR .i64 a∧0≤n∧n≤1000∧L.length≤9223372036854775807)∧M=iW L a n.toNat,aX aW 1 M)
  |none=>none
 |_=>none
def UX(N:List Int)(D:De):Mod
 |[x]=>match BY x N with
  |some p=>some (p∧D=lR N,deV D)
  |none=>none
 |_=>none
def aEF(D:De)(N W:List Int):Mod
 |[x,y]=>match VD x D,BY y N with
  |some p,some q=>some (p∧q∧Sm D∧W=vJ D N,aX aW 1 W)
  |_,_=>none
 |_=>none
def aEM(D:De)(W N:List Int)(Q:List Cl):Mod
 |[x,y,z,.c (.p (.i .i64 n))]=>match VD x D,BY y W,BY z N with
  |some p,some q,some r=>some ((p∧q∧r∧Sm D∧Bd W∧0<W.length∧W.length≤101∧0≤n∧n≤1000∧N.length≤1000)∧Q=lC D W N (yI N n.toNat),aX hY 4 Q)
  |_,_,_=>none
 |_=>none
def UP(L:List Int):Mod
 |[x]=>match BY x L with
  |some p=>some (p∧L.length≤9223372036854775807,aX gK 13 (jD L (oA L)))
  |none=>none
 |_=>none
theorem aSM(L:List Int):cJ (qT L) (dH 4 (cS Tryz.prog Tryz.f6)) (iR Tryz.f6 [aX aW 1 L]) (cP (fO 80 [0,3,4,5]) (bB Tryz.prog Tryz.f6))=Tr.rq ((L.length=L.length∧∀(e o:Nat),e<L.length→o<1→aJ aW L e o=aJ aW L e o)∧aF 0<aF 8)
 (.done .normal
 (bU 80 [(0,.c (.p (.l 1 L.length (aJ aW L)))),(3,.c (.p (.z (dP none 0 0)))),(4,.c (.p (.i .i64 (cC L 0 8)))),(5,.c (.p (.i .i64 0)))] [])):=by kernel_rfl
theorem aSL(L:List Int)(out:List Se)(k:Nat)(b i:Int):cJ (qT L) (dH 2 (jZ (cS Tryz.prog Tryz.f6) 4)) (bU 80 [(0,aX aW 1 L),(3,.c (.sl 0 13 0 k)),(4,iV b),(5,iV i)] [.row 62 13 k (cR gK out)]) (cP (fO 80 [0,3,4,5]) (bB Tryz.prog Tryz.f6))=Tr.rq ((L.length=L.length∧∀(e o:Nat),e<L.length→o<1→aJ aW L e o=aJ aW L e o)∧aF 0<aF 4)
 (bT (decide (i≤cC L 1 4))
 (.done .normal
 (bU 80 [(0,.c (.p (.l 1 L.length (aJ aW L)))),(3,.c (.sl 0 13 0 k)),(4,.c (.p (.i .i64 b))),(5,.c (.p (.i .i64 i)))] [.row 62 13 k fun e o=>fG [0] (cR gK out e o)]))
 (.done (.exit 0)
 (bU 80 [(0,.c (.p (.l 1 L.length (aJ aW L)))),(3,.c (.sl 0 13 0 k)),(4,.c (.p (.i .i64 b))),(5,.c (.p (.i .i64 i)))] [.row 62 13 k fun e o=>fG [0] (cR gK out e o)]))):=by kernel_rfl
theorem aSK(L M:List Int)(out:List Se)(k:Nat)(b i:Int):cJ (fB [(21,NC L M)]) (dH 1 (jH (inr (bN .skip (jZ (cS Tryz.prog Tryz.f6) 4) 2)))) (bU 80 [(0,aX aW 1 L),(3,.c (.sl 0 13 0 k)),(4,iV b),(5,iV i)] [.row 62 13 k (cR gK out)]) (cP (fO 80 [0,3,4,5,6]) (bB Tryz.prog Tryz.f6))=Tr.rq
 (((L.length=L.length∧∀(e o:Nat),e<L.length→o<1→aJ aW L e o=aJ aW L e o) ∧
 inR aA i∧aF 0≤aF 48∧aF 48≤aF 1000∧L.length≤9223372036854775807) ∧
 M=iW L i 48)
 (.done .normal
 (bU 80 [(0,.c (.p (.l 1 L.length (aJ aW L)))),(3,.c (.sl 0 13 0 k)),(4,.c (.p (.i .i64 b))),(5,.c (.p (.i .i64 i))),(6,.c (.p (.l 1 M.length (aJ aW M))))] [.row 62 13 k fun e o=>fG [0] (cR gK out e o)])):=by kernel_rfl
theorem aSJ(L M N:List Int)(D:De)(out:List Se)(k:Nat)(b i:Int):cJ (fB [(22,UX N D)]) (dH 1 (bJ 1 (jH (inr (bN .skip (jZ (cS Tryz.prog Tryz.f6) 4) 2))))) (bU 80 [(0,aX aW 1 L),(3,.c (.sl 0 13 0 k)),(4,iV b),(5,iV i),(6,aX aW 1 M)] [.row 62 13 k (cR gK out)]) (cP (fO 80 [0,3,4,5,6,7]) (bB Tryz.prog Tryz.f6))=Tr.rq (0≤(↑0:Int)∧(↑0:Int)≤9∧9≤(↑M.length:Int))
 (.rq ((9=N.length∧∀(e o:Nat),e<N.length→o<1→aJ aW M (e+0) o=aJ aW N e o)∧D=lR N)
 (.done .normal
 (bU 80 [(0,.c (.p (.l 1 L.length (aJ aW L)))),(3,.c (.sl 0 13 0 k)),(4,.c (.p (.i .i64 b))),(5,.c (.p (.i .i64 i))),(6,.c (.p (.l 1 M.length (aJ aW M)))),(7,.c (.ptr 1 0))] [.row 62 13 k fun e o=>fG [0,1] (cR gK out e o),.cells 59 (CZ D.nm D.L.length (aJ fD D.L) D.u0 D.u1 D.u2 D.lo D.hi D.dn D.up D.fi D.la D.bu)]))):=by kernel_rfl
theorem aSI(L M:List Int)(D:De)(out:List Se)(k:Nat)(b i:Int):cJ (fB [(23,aIY)]) (dH 6 (bJ 2 (jH (inr (bN .skip (jZ (cS Tryz.prog Tryz.f6) 4) 2))))) (bU 80 [(0,aX aW 1 L),(3,.c (.sl 0 13 0 k)),(4,iV b),(5,iV i),(6,aX aW 1 M),(7,.c (.ptr 1 0))] [.row 62 13 k (cR gK out),.cells 59 (iP (IF D))]) (cP (fO 80 [0,3,4,5,6,7]) (bB Tryz.prog Tryz.f6))=Tr.rq (inR aA (3*i))
 (.rq (inR aA (b+3*i))
 (.rq (0≤b+3*i∧aF 0<aF 2)
 (.rq (0≤(b+3*i)%2∧(b+3*i)%2<(↑2:Int))
 (.rq (((b+3*i)%2).toNat+0<2)
 (.rq (inR aA (3*i))
 (.rq (inR aA (b+3*i))
 (.rq (0≤b+3*i∧aF 0<aF 8)
 (.rq (0≤(b+3*i)%8∧aF 0<aF 2∧inR aA ((b+3*i)%8 / 2))
 (.rq (inR aA ((b+3*i)%8 / 2))
 (.rq (aF 0≤aF 9∧9<(↑M.length:Int))
 (.rq (0≤M.getD 9 default∧aF 0<aF 4)
 (.rq (aF 0≤aF 10∧10<(↑M.length:Int))
 (.rq (0≤M.getD 10 default∧aF 0<aF 4)
 (.rq (inR aA (9+M.getD 10 default%4))
 (.done .normal
 (bU 80 [(0,.c (.p (.l 1 L.length (aJ aW L)))),(3,.c (.sl 0 13 0 k)),(4,.c (.p (.i .i64 b))),(5,.c (.p (.i .i64 i))),(6,.c (.p (.l 1 M.length (aJ aW M)))),(7,.c (.ptr 1 0))] [.row 62 13 k fun e o=>fG [0,1] (cR gK out e o),.cells 59 (CZ (bN (aO #[]) [aO #[99,112,117],aO #[109,101,109]] (((b+3*i)%2).toNat+0)) (YP ((b+3*i)%8 / 2)).length (aJ fD (YP ((b+3*i)%8 / 2))) D.u0 D.u1 D.u2 D.lo D.hi (if 0<D.dn then 0 else D.dn) (if D.up<0 then 0 else D.up) (M.getD (aL 9) default%4) (9+M.getD (aL 10) default%4) D.bu)])))))))))))))))):=by kernel_rfl
theorem aSH(L M N W:List Int)(D:De)(out:List Se)(k:Nat)(b i:Int):cJ (fB [(24,aEF D N W)]) (dH 1 (bJ 8 (jH (inr (bN .skip (jZ (cS Tryz.prog Tryz.f6) 4) 2))))) (bU 80 [(0,aX aW 1 L),(3,.c (.sl 0 13 0 k)),(4,iV b),(5,iV i),(6,aX aW 1 M),(7,.c (.lp 12 1 (kK D) 0 0))] [.row 62 13 k (cR gK out)]) (cP (fO 80 [0,3,4,5,6,7,8]) (bB Tryz.prog Tryz.f6))=Tr.rq (aF 0≤aF 11∧aF 11≤aF 25∧25≤(↑M.length:Int))
 (.rq
 (((D.L.length=D.L.length∧∀(e o:Nat),e<D.L.length→o<2→aJ fD D.L e o=aJ fD D.L e o) ∧
 D.nm=D.nm∧D.u0=D.u0∧D.u1=D.u1∧D.u2=D.u2∧D.lo=D.lo∧D.hi=D.hi∧D.dn=D.dn∧D.up=D.up∧D.fi=D.fi∧D.la=D.la∧D.bu=D.bu) ∧
 (14=N.length∧∀(e o:Nat),e<N.length→o<1→aJ aW M (e+11) o=aJ aW N e o)∧Sm D∧W=vJ D N)
 (.done .normal
 (bU 80 [(0,.c (.p (.l 1 L.length (aJ aW L)))),(3,.c (.sl 0 13 0 k)),(4,.c (.p (.i .i64 b))),(5,.c (.p (.i .i64 i))),(6,.c (.p (.l 1 M.length (aJ aW M)))),(7,.c (.lp 12 1 (kK D) 0 0)),(8,.c (.p (.l 1 W.length (aJ aW W))))] [.row 62 13 k fun e o=>fG [0] (cR gK out e o)]))):=by kernel_rfl
theorem aSG(L M N W:List Int)(D:De)(Q:List Cl)(out:List Se)(k:Nat)(b i:Int):cJ (fB [(25,aEM D W N Q)]) (bJ 9 (jH (inr (bN .skip (jZ (cS Tryz.prog Tryz.f6) 4) 2)))) (bU 80 [(0,aX aW 1 L),(3,.c (.sl 0 13 0 k)),(4,iV b),(5,iV i),(6,aX aW 1 M),(7,.c (.lp 12 1 (kK D) 0 0)),(8,aX aW 1 W)] [.row 62 13 k (cR gK out)]) (cP (fO 80 [0,3,4,5]) (bB Tryz.prog Tryz.f6))=Tr.rq (aF 0≤aF 40∧40<(↑M.length:Int))
 (.rq (0≤M.getD 40 default∧aF 0<aF 5)
 (.rq (inR aA (3*(M.getD 40 default%5)))
 (.rq (inR aA (25+3*(M.getD 40 default%5)))
 (.rq (aF 0≤aF 25∧25≤25+3*(M.getD 40 default%5)∧25+3*(M.getD 40 default%5)≤(↑M.length:Int))
 (.rq
 ((((D.L.length=D.L.length∧∀(e o:Nat),e<D.L.length→o<2→aJ fD D.L e o=aJ fD D.L e o) ∧
 D.nm=D.nm∧D.u0=D.u0∧D.u1=D.u1∧D.u2=D.u2∧D.lo=D.lo∧D.hi=D.hi∧D.dn=D.dn∧D.up=D.up∧D.fi=D.fi∧D.la=D.la∧D.bu=D.bu) ∧
 (W.length=W.length∧∀(e o:Nat),e<W.length→o<1→aJ aW W e o=aJ aW W e o) ∧
 ((25+3*(M.getD 40 default%5)).toNat-25=N.length∧∀(e o:Nat),e<N.length→o<1→aJ aW M (e+25) o=aJ aW N e o) ∧
 Sm D∧Bd W∧0<W.length∧W.length≤101∧aF 0≤aF 4∧aF 4≤aF 1000∧N.length≤1000) ∧
 Q=lC D W N (yI N 4))
 (.rq (k=k)
 (.rq (1≤1)
 (.rq
 ((k+1)*144≤140737488355328 ∧
 k+1≤140737488355328 ∧
 ∀(e o:Nat),
 e<1 →
 o<13 →
 kZ
 (rR
 (aH7 D.nm D.L.length (aJ fD D.L) D.u0 D.u1 D.u2 D.lo D.hi D.dn D.up D.fi D.la D.bu Q.length (aJ hY Q))
 13 1 (e+0) o) =
 true)
 (.done .normal
 (bU 80 [(0,.c (.p (.l 1 L.length (aJ aW L)))),(3,.c (.sl 0 13 0 (k+1))),(4,.c (.p (.i .i64 b))),(5,.c (.p (.i .i64 i)))] [.row 62 13 (k+1) fun e o=>fG [2] (iZ k (cR gK out) (fun e o=>bN C.top (aH7 D.nm D.L.length (aJ fD D.L) D.u0 D.u1 D.u2 D.lo D.hi D.dn D.up D.fi D.la D.bu Q.length (aJ hY Q)) ((e+0)*13+o)) e o)])))))))))):=by kernel_rfl
theorem aSF(L:List Int)(out:List Se)(k:Nat)(b i:Int):cJ dX (bJ 3 (jZ (cS Tryz.prog Tryz.f6) 4)) (bU 80 [(0,aX aW 1 L),(3,.c (.sl 0 13 0 k)),(4,iV b),(5,iV i)] [.row 62 13 k (cR gK out)]) (cP (fO 80 [0,3,4,5]) (bB Tryz.prog Tryz.f6))=Tr.rq (inR aA (i+1))
 (.done .normal
 (bU 80 [(0,.c (.p (.l 1 L.length (aJ aW L)))),(3,.c (.sl 0 13 0 k)),(4,.c (.p (.i .i64 b))),(5,.c (.p (.i .i64 (i+1))))] [.row 62 13 k fun e o=>fG [0] (cR gK out e o)])):=by kernel_rfl
theorem aSE(L:List Int)(out:List Se)(k:Nat)(b i:Int):cJ dX (bJ 5 (cS Tryz.prog Tryz.f6)) (bU 80 [(0,aX aW 1 L),(3,.c (.sl 0 13 0 k)),(4,iV b),(5,iV i)] [.row 62 13 k (cR gK out)]) (cP [] (bB Tryz.prog Tryz.f6))=Tr.rq (0+k≤k∧∀(e o:Nat),e<k→o<13→BJ (cR gK out (e+0) o)=true) (.done .ret (St.mk [V.c (C.p (PV.l 13 k fun e o=>tE (cR gK out (e+0) o)))] [])):=by kernel_rfl
theorem aH5(M:List Int)(a n e:Nat)(h:e<n):((M.drop a).take n).getD e default=M.getD (e+a) default:=by
 rw[aG,aG,gD,if_pos h,List.getElem?_drop,Nat.add_comm]
theorem LQ(M:List Int)(a n:Nat){e o:Nat}(h:e<n):aJ aW M (e+a) o=aJ aW ((M.drop a).take n) e o:=by
 unfold aJ;rw[aH5 M a n e h]
theorem CS{M:List Int}(h:oM M)(a n:Nat):oM ((M.drop a).take n):=fun x hx=>h x (List.mem_of_mem_drop (List.mem_of_mem_take hx))
theorem aMC(s:Se):∀e o:Nat,e<1→o<13→kZ (rR (aH7 s.d.nm s.d.L.length (aJ fD s.d.L) s.d.u0 s.d.u1 s.d.u2 s.d.lo s.d.hi s.d.dn s.d.up s.d.fi s.d.la s.d.bu s.C.length (aJ hY s.C)) 13 1 (e+0) o)=true:=by
 intro e o he ho
 obtain rfl:e=0:=by omega
 match o,ho with
 |0,_|1,_|2,_|3,_|4,_|5,_|6,_|7,_|8,_|9,_|10,_|11,_|12,_=>rfl
theorem aPU(s:Se):∀o:Nat,o<13→(fun e o:Nat=>bN C.top (aH7 s.d.nm s.d.L.length (aJ fD s.d.L) s.d.u0 s.d.u1 s.d.u2 s.d.lo s.d.hi s.d.dn s.d.up s.d.fi s.d.la s.d.bu s.C.length (aJ hY s.C)) ((e+0)*13+o)) 0 o=.p (gK s o):=by
 intro o ho
 match o,ho with
 |0,_|1,_|2,_|3,_|4,_|5,_|6,_|7,_|8,_|9,_|10,_|11,_|12,_=>rfl
section
variable {G:Nat→Option Obj}
theorem YA(L M:List Int):dD Tryz.prog G 21 (NC L M):=by
 intro args p v hm hp h;unfold NC at hm
 split at hm;rotate_left;· cases hm
 rename_i x a n
 split at hm;rotate_left;· cases hm
 rename_i q hq;obtain⟨rfl,rfl⟩:=bA hm;obtain⟨h1,rfl⟩:=hp;exact aIB (G:=G) L [x,.c (.p (.i .i64 a)),.c (.p (.i .i64 n))] _ _ (by simp only[UT,hq]) h1 h
theorem aIG{N:List Int}(hI:oM N)(D:De):dD Tryz.prog G 22 (UX N D):=by
 intro args p v hm hp h;unfold UX at hm
 split at hm;rotate_left;· cases hm
 rename_i x
 split at hm;rotate_left;· cases hm
 rename_i q hq;obtain⟨rfl,rfl⟩:=bA hm;obtain⟨h1,rfl⟩:=hp;exact aIH (G:=G) hI [x] q _ (by simp only[UY,hq]) h1 h
theorem aNB(D:De){N:List Int}(hI:oM N)(W:List Int):dD Tryz.prog G 24 (aEF D N W):=by
 intro args p v hm hp h;unfold aEF at hm
 split at hm;rotate_left;· cases hm
 rename_i x y
 split at hm;rotate_left;· cases hm
 rename_i q1 q2 h1 h2;obtain⟨rfl,rfl⟩:=bA hm;obtain⟨a1,a2,a3,rfl⟩:=hp;exact aQ7 (G:=G) D hI [x,y] (q1∧q2∧Sm D) _ (by simp only[aO1,h1,h2]) ⟨a1,a2,a3⟩ h
theorem aNO(D:De)(W:List Int){N:List Int}(hI:oM N)(Q:List Cl):dD Tryz.prog G 25 (aEM D W N Q):=by
 intro args p v hm hp h;unfold aEM at hm
 split at hm;rotate_left;· cases hm
 rename_i x y z n
 split at hm;rotate_left;· cases hm
 rename_i q1 q2 q3 h1 h2 h3;obtain⟨rfl,rfl⟩:=bA hm;obtain⟨a1,rfl⟩:=hp;exact aQA (G:=G) D W hI [x,y,z,.c (.p (.i .i64 n))] _ _ (by simp only[aO2,h1,h2,h3]) a1 h
set_option maxRecDepth 100000 in
set_option maxHeartbeats 2000000 in
theorem aI5{L:List Int}(hI:oM L):dD Tryz.prog G 6 (UP L):=by
 intro args p v hm hp h;unfold UP at hm
 split at hm;rotate_left;· cases hm
 split at hm;rotate_left;· cases hm
 rename_i x _ q hx;obtain⟨rfl,rfl⟩:=bA hm;clear hm;obtain⟨hq,hL⟩:=hp;refine lW.args (args':=[aX aW 1 L]) ?_ (.cons (mO hx hq) .nil);clear hx hq
 have p0:=cY L 0 (m:=8) (by omega)
 have p1:=cY L 1 (m:=4) (by omega)
 have hN:oA L=(cC L 1 4).toNat+1:=rfl
 have tr:∀e o:Nat,e<L.length→o<1→True:=fun _ _ _ _=>trivial
 refine fR Tryz.func6 (by kernel_rfl) rfl ?_ h
 refine cO.evG (kB hI) 4 (aSM L) ?_;simp only[aS,aI,aZ];refine⟨⟨⟨trivial,tr⟩,by decide⟩,⟨?_⟩⟩
 refine cO.loop' (l:=bJ 4 (cS Tryz.prog Tryz.f6)) (b:=inr (inr (bN .skip (cS Tryz.prog Tryz.f6) 4))) (r:=bJ 5 (cS Tryz.prog Tryz.f6)) (id:=0) (by kernel_rfl) (σ:=Nat)
   (fun k=>(fun(out:List Se) (k:Nat) (b i:Int)=>bU 80 [(0,aX aW 1 L),(3,.c (.sl 0 13 0 k)),(4,iV b),(5,iV i)] [.row 62 13 k (cR gK out)]) (jD L k) k (cC L 0 8) (k:Int)) (fun k=>k≤oA L) (fun k=>oA L-k) 0 (bH _) ((pF 62 13 (cR gK []) 3 (by kernel_rfl)).trans (aP (by kernel_rfl))) ?_
 rintro k hk Q1 q1n q1e -
 have hl:=rV L k
 refine cO.evG (kB hI) 2 (aSL L (jD L k) k (cC L 0 8) (k:Int)) ?_;simp only[bD,aS,aI,aZ,fE,decide_eq_true_eq,decide_eq_false_iff_not];refine⟨⟨⟨trivial,tr⟩,by decide⟩,fun c1=>⟨?_⟩,fun c1=>⟨q1e _ ?_⟩⟩;rotate_left
 ·obtain rfl:k=oA L:=by omega
  refine cO.pre (aP (st':=(fun(out:List Se) (k:Nat) (b i:Int)=>bU 80 [(0,aX aW 1 L),(3,.c (.sl 0 13 0 k)),(4,iV b),(5,iV i)] [.row 62 13 k (cR gK out)]) (jD L (oA L)) (oA L) (cC L 0 8) ((oA L:Nat):Int)) (by kernel_rfl)) ?_
  refine cO.evH aT (aSE L (jD L (oA L)) (oA L) (cC L 0 8) ((oA L:Nat):Int)) ?_;simp only[aS,aI,bK];exact⟨⟨by omega,fun _ _ _ _=>rfl⟩,⟨mL hl.symm fun e o he ho=>rfl⟩⟩
 have hk4:k≤3:=by omega
 refine cO.blk' (l:=bJ 2 (jZ (cS Tryz.prog Tryz.f6) 4)) (id:=1) (a:=inr (bN .skip (jZ (cS Tryz.prog Tryz.f6) 4) 2)) (r:=bJ 3 (jZ (cS Tryz.prog Tryz.f6) 4)) (by kernel_rfl) ?_
 intro Q2 q2n q2e _
 refine cO.pre (aP (st':=(fun(out:List Se) (k:Nat) (b i:Int)=>bU 80 [(0,aX aW 1 L),(3,.c (.sl 0 13 0 k)),(4,iV b),(5,iV i)] [.row 62 13 k (cR gK out)]) (jD L k) k (cC L 0 8) (k:Int)) (by kernel_rfl)) ?_
 obtain⟨M,hM⟩:∃M,M=iW L k 48:=⟨_,rfl⟩
 have hMl:M.length=48:=by rw[hM];exact oW _ _ _
 have hMr:∀j,0≤M.getD j default∧M.getD j default≤1000002:=fun j=>by rw[hM];exact tU _ _ _ _
 have hMI:=YS hMr
 have hse:seZ L k=aHC (cC L 0 8+3*(k:Int)) M:=by rw[hM];rfl
 refine cO.evG (cD (by simp;exact YA L M)) 1 (aSK L M (jD L k) k (cC L 0 8) (k:Int)) ?_;simp only[aS,aI,aZ];refine⟨⟨⟨⟨trivial,tr⟩,by simp only[inR];omega,by decide,by decide,hL⟩,hM⟩,⟨?_⟩⟩;clear hM
 generalize cC L 0 8=b at p0 hse ⊢
 have hvs:jD L (k+1)=jD L k++[aHC (b+3*(k:Int)) M]:=by rw[CL,hse]
 refine cO.pre (aP (st':=(fun(out:List Se) (k:Nat) (b i:Int)=>bU 80 [(0,aX aW 1 L),(3,.c (.sl 0 13 0 k)),(4,iV b),(5,iV i),(6,aX aW 1 M)] [.row 62 13 k (cR gK out)]) (jD L k) k b (k:Int)) (by kernel_rfl)) ?_
 have hN9:(M.drop 0).take 9=M.take 9:=by rw[List.drop_zero]
 have hl9:(M.take 9).length=9:=by rw[eQ];omega
 refine cO.evG (cD (by simp;exact aIG (by rw[←hN9];exact CS hMI 0 9) (lR (M.take 9)))) 1 (aSJ L M (M.take 9) (lR (M.take 9)) (jD L k) k b (k:Int)) ?_;simp only[aS,aI,aZ];refine⟨⟨by decide,by decide,by omega⟩,⟨⟨hl9.symm,fun e o he ho=>by rw[←hN9];exact LQ M 0 9 (by omega)⟩,trivial⟩,⟨?_⟩⟩
 obtain⟨D0,hD0⟩:∃D0,lR (M.take 9)=D0:=⟨_,rfl⟩
 rw[hD0]
 have hsm:=aA7 (b+3*(k:Int)) M
 have hsd:sdZ (b+3*(k:Int)) M={ D0 with nm:=vR ((b+3*(k:Int))%2),L:=YP ((b+3*(k:Int))%8 / 2),dn:=YE D0.dn 0,up:=mxZ D0.up 0,fi:=M.getD 9 default%4,la:=9+M.getD 10 default%4 }:=by rw[←hD0];rfl
 refine cO.pre (aP (st':=(fun(D:De) (out:List Se) (k:Nat) (b i:Int)=>bU 80 [(0,aX aW 1 L),(3,.c (.sl 0 13 0 k)),(4,iV b),(5,iV i),(6,aX aW 1 M),(7,.c (.ptr 1 0))] [.row 62 13 k (cR gK out),.cells 59 (iP (IF D))]) D0 (jD L k) k b (k:Int)) (by kernel_rfl)) ?_
 refine cO.evG (cD (by simp;exact aKQ)) 6 (aSI L M D0 (jD L k) k b (k:Int)) ?_
 have m9:=hMr 9
 have m10:=hMr 10
 have m40:=hMr 40
 obtain⟨B,hB⟩:∃B,b+3*(k:Int)=B:=⟨_,rfl⟩
 have hBr:0≤B∧B≤16:=by omega
 rw[hB]at hsm hsd hvs;simp only[aS,aI,aZ,hB]
 have hnm:bN (aO #[]) [aO #[99,112,117],aO #[109,101,109]] ((B%2).toNat+0)=vR (B%2):=by
  have:B%2=0∨B%2=1:=by omega
  rcases this with e|e<;>rw[e]<;>rfl
 rw[hnm];refine⟨by simp only[inR];omega,by simp only[inR];omega,⟨by omega,by decide⟩,⟨by omega,by omega⟩,by omega,by simp only[inR];omega,by simp only[inR];omega,⟨by omega,by decide⟩,⟨by omega,by decide,by simp only[inR];omega⟩,by simp only[inR];omega,⟨by decide,by omega⟩,⟨by omega,by decide⟩,⟨by decide,by omega⟩,⟨by omega,by decide⟩,by simp only[inR];omega,⟨?_⟩⟩
 obtain⟨D,hD⟩:∃D,sdZ B M=D:=⟨_,rfl⟩
 rw[hD]at hsm hsd;refine cO.pre (aP (st':=(fun(D:De) (out:List Se) (k:Nat) (b i:Int)=>bU 80 [(0,aX aW 1 L),(3,.c (.sl 0 13 0 k)),(4,iV b),(5,iV i),(6,aX aW 1 M),(7,.c (.ptr 1 0))] [.row 62 13 k (cR gK out),.cells 59 (iP (IF D))]) D (jD L k) k b (k:Int)) (by rw[hsd];rfl)) ?_
 have hsl:aHC B M=⟨D,lC D (vJ D ((M.drop 11).take 14)) ((M.drop 25).take (3*(M.getD 40 default%5)).toNat) (M.getD 40 default%5).toNat⟩:=by rw[←hD];rfl
 clear hsd hnm hD0 hD
 refine cO.pre ((uJ (j:=7) (id:=1) (off:=0) (n:=12) (cs:=iP (IF D)) (kK D) (by rfl) (by rfl) rfl (aJJ (n:=0) (l:=[]))).trans ((fW (fO 80 [0,3,4,5,6,7]) _).trans (aP (st':=(fun(D:De) (out:List Se) (k:Nat) (b i:Int)=>bU 80 [(0,aX aW 1 L),(3,.c (.sl 0 13 0 k)),(4,iV b),(5,iV i),(6,aX aW 1 M),(7,.c (.lp 12 1 (kK D) 0 0))] [.row 62 13 k (cR gK out)]) D (jD L k) k b (k:Int)) (by kernel_rfl)))) ?_
 have hl14:((M.drop 11).take 14).length=14:=by rw[eQ,List.length_drop];omega
 have hWl:=AV D ((M.drop 11).take 14)
 have hWb:=aJ8 ((M.drop 11).take 14) hsm
 refine cO.evG (cD (by simp;exact aNB D (CS hMI 11 14) (vJ D ((M.drop 11).take 14)))) 1 (aSH L M ((M.drop 11).take 14) (vJ D ((M.drop 11).take 14)) D (jD L k) k b (k:Int)) ?_;simp only[aS,aI,aZ,and_true,true_and];refine⟨⟨by decide,by decide,by omega⟩,⟨fun _ _ _ _=>trivial,⟨hl14.symm,fun e o he ho=>LQ M 11 14 (by omega)⟩,hsm⟩,⟨?_⟩⟩
 generalize vJ D ((M.drop 11).take 14)=W at hWl hWb hsl ⊢
 refine cO.pre (aP (st':=(fun(W:List Int) (D:De) (out:List Se) (k:Nat) (b i:Int)=>bU 80 [(0,aX aW 1 L),(3,.c (.sl 0 13 0 k)),(4,iV b),(5,iV i),(6,aX aW 1 M),(7,.c (.lp 12 1 (kK D) 0 0)),(8,aX aW 1 W)] [.row 62 13 k (cR gK out)]) W D (jD L k) k b (k:Int)) (by kernel_rfl)) ?_
 obtain⟨r,hr⟩:∃r,M.getD 40 default%5=r:=⟨_,rfl⟩
 have hrr:0≤r∧r≤4:=by omega
 have hl25:((M.drop 25).take (3*r).toNat).length=(3*r).toNat:=by rw[eQ,List.length_drop];omega
 have hsp:gM D=(D.la-D.fi+1).toNat:=rfl
 have hsm2:=hsm
 obtain⟨_,_,s1,s2,s3⟩:=hsm2
 have har:yI ((M.drop 25).take (3*r).toNat) 4=r.toNat:=by unfold yI;rw[hl25];omega
 rw[hr]at hsl;refine cO.evH (cD (by simp;exact aNO D W (CS hMI 25 (3*r).toNat) (lC D W ((M.drop 25).take (3*r).toNat) r.toNat))) (aSG L M ((M.drop 25).take (3*r).toNat) W D (lC D W ((M.drop 25).take (3*r).toNat) r.toNat) (jD L k) k b (k:Int)) ?_;simp only[aS,aI,aZ,and_true,true_and,hr,har];refine⟨⟨by decide,by omega⟩,⟨m40.1,by decide⟩,by simp only[inR];omega,by simp only[inR];omega,⟨by decide,by omega,by omega⟩,⟨fun _ _ _ _=>trivial,fun _ _ _ _=>trivial,⟨by omega,fun e o he ho=>LQ M 25 (3*r).toNat (by omega)⟩,hsm,hWb,by omega,by omega,by decide,by decide,by omega⟩,aU _,⟨by omega,by omega,?_⟩,⟨q2n _ ?_⟩⟩
 ·exact aMC ⟨D,lC D W ((M.drop 25).take (3*r).toNat) r.toNat⟩
 rw[hsl]at hvs
 refine cO.pre (show cW G _ ((fun(out:List Se) (k:Nat) (b i:Int)=>bU 80 [(0,aX aW 1 L),(3,.c (.sl 0 13 0 k)),(4,iV b),(5,iV i)] [.row 62 13 k (cR gK out)]) (jD L (k+1)) (k+1) b (k:Int)) from by
  rw[hvs]
  exact kP ⟨⟨rfl,rfl,rfl,fun e o he ho=>BD (ρ:=[2]) hl (aPU ⟨D,lC D W ((M.drop 25).take (3*r).toNat) r.toNat⟩) he ho⟩,trivial⟩) ?_
 refine cO.evH aT (aSF L (jD L (k+1)) (k+1) b (k:Int)) ?_;simp only[aS,aI,aZ,inR]
 refine⟨by omega,⟨q1n (k+1) _ (by omega) (by omega) (aP (by kernel_rfl))⟩⟩
end
def leR{α:Type}[Inhabited α](enc:α→Nat→PV)(sz:Nat)(x:V)(L:List α):Option Prop:=match x with
 |.c (.p (.l sz' n f))=>match Nat.beq sz' sz with
  |true=>some (n=L.length∧∀e o,e<L.length→o<sz→f e o=aJ enc L e o)
  |false=>none
 |.c (.p (.z (.slice none 0 0)))=>some (L=[])
 |_=>none
theorem wI{α:Type}[Inhabited α]{enc:α→Nat→PV}{sz:Nat}{x:V}{p:Prop}{L:List α}(h:leR enc sz x L=some p)(hp:p):eL x (aX enc sz L):=by
 unfold leR at h;split at h
 ·split at h
  ·rename_i hb
   obtain rfl:=Nat.eq_of_beq_eq_true hb;injection h with h;subst h;obtain⟨rfl,h2⟩:=hp;exact eL.p (jT.l fun e o he ho=>jT.of_eq (h2 e o he ho))
  ·cases h
 ·injection h with h
  subst h;subst hp;exact eL.p (jT.nil sz _)
 ·cases h
def UW(S:List Se):Mod
 |[x]=>match leR gK 13 x S with
  |some p=>some (p∧S.length≤1000,aX bQ 12 (S.map Se.d))
  |none=>none
 |_=>none
theorem aVX(S:List Se):cJ dX (dH 3 (cS Tryz.prog Tryz.f5)) (iR Tryz.f5 [aX gK 13 S]) (cP (fO 20 [0,3,4]) (bB Tryz.prog Tryz.f5))=Tr.done X.normal
 (bU 20 [(0,.c (.p (.l 13 S.length (aJ gK S)))),(3,.c (.p (.z (dP none 0 0)))),(4,.c (.p (.i .i64 0)))] []):=by kernel_rfl
theorem aVW(S:List Se)(out:List De)(k:Nat):cJ dX (jZ (cS Tryz.prog Tryz.f5) 3) (bU 20 [(0,aX gK 13 S),(3,.c (.sl 0 12 0 k)),(4,iV (k:Nat))] [.row 59 12 k (cR bQ out)]) (cP (fO 20 [0,3,4]) (bB Tryz.prog Tryz.f5))=bT (decide ((↑k:Int)<(↑S.length:Int)))
 (.rq (0≤(↑k:Int)∧(↑k:Int)<(↑S.length:Int))
 (.rq (k=k)
 (.rq (1≤1)
 (.rq
 ((k+1)*120≤140737488355328 ∧
 k+1≤140737488355328 ∧
 ∀(e o:Nat),
 e<1 →
 o<12 →
 kZ
 (rR
 (CZ (S.getD (↑k:Int).toNat default).d.nm (S.getD (↑k:Int).toNat default).d.L.length (aJ fD (S.getD (↑k:Int).toNat default).d.L) (S.getD (↑k:Int).toNat default).d.u0 (S.getD (↑k:Int).toNat default).d.u1 (S.getD (↑k:Int).toNat default).d.u2 (S.getD (↑k:Int).toNat default).d.lo (S.getD (↑k:Int).toNat default).d.hi (S.getD (↑k:Int).toNat default).d.dn (S.getD (↑k:Int).toNat default).d.up (S.getD (↑k:Int).toNat default).d.fi (S.getD (↑k:Int).toNat default).d.la (S.getD (↑k:Int).toNat default).d.bu)
 12 1 (e+0) o) =
 true)
 (.rq (inR aA ((↑k:Int)+1))
 (.done .normal
 (bU 20 [(0,.c (.p (.l 13 S.length (aJ gK S)))),(3,.c (.sl 0 12 0 (k+1))),(4,.c (.p (.i .i64 ((↑k:Int)+1))))] [.row 59 12 (k+1) fun e o=>fG [2] (iZ k (cR bQ out) (fun e o=>bN C.top (CZ (S.getD (↑k:Int).toNat default).d.nm (S.getD (↑k:Int).toNat default).d.L.length (aJ fD (S.getD (↑k:Int).toNat default).d.L) (S.getD (↑k:Int).toNat default).d.u0 (S.getD (↑k:Int).toNat default).d.u1 (S.getD (↑k:Int).toNat default).d.u2 (S.getD (↑k:Int).toNat default).d.lo (S.getD (↑k:Int).toNat default).d.hi (S.getD (↑k:Int).toNat default).d.dn (S.getD (↑k:Int).toNat default).d.up (S.getD (↑k:Int).toNat default).d.fi (S.getD (↑k:Int).toNat default).d.la (S.getD (↑k:Int).toNat default).d.bu) ((e+0)*12+o)) e o)])))))))
 (.done (.exit 0)
 (bU 20 [(0,.c (.p (.l 13 S.length (aJ gK S)))),(3,.c (.sl 0 12 0 k)),(4,.c (.p (.i .i64 (↑k:Int))))] [.row 59 12 k fun e o=>fG [0] (cR bQ out e o)])):=by kernel_rfl
theorem aVV(S:List Se)(out:List De)(k:Nat):cJ dX (bJ 4 (cS Tryz.prog Tryz.f5)) (bU 20 [(0,aX gK 13 S),(3,.c (.sl 0 12 0 k)),(4,iV (k:Nat))] [.row 59 12 k (cR bQ out)]) (cP [] (bB Tryz.prog Tryz.f5))=Tr.rq (0+k≤k∧∀(e o:Nat),e<k→o<12→BJ (cR bQ out (e+0) o)=true) (.done .ret (St.mk [V.c (C.p (PV.l 12 k fun e o=>tE (cR bQ out (e+0) o)))] [])):=by kernel_rfl
theorem aCH{α β:Type}[Inhabited α](f:α→β){S:List α}{k:Nat}(h:k<S.length):(S.take (k+1)).map f=(S.take k).map f++[f (S.getD k default)]:=by
 rw[List.take_succ_eq_append_getElem h,List.map_append,aG,aN h];rfl
theorem LP{α β:Type}(f:α→β)(S:List α){k:Nat}(h:k≤S.length):((S.take k).map f).length=k:=by rw[List.length_map,eQ];omega
theorem aFD{α:Type}[Inhabited α]{S:List α}{k:Nat}(h:k<S.length):S.getD k default∈S:=by
 rw[aG,aN h];exact List.getElem_mem h
theorem aOP(d:De):∀e o:Nat,e<1→o<12→kZ (rR (CZ d.nm d.L.length (aJ fD d.L) d.u0 d.u1 d.u2 d.lo d.hi d.dn d.up d.fi d.la d.bu) 12 1 (e+0) o)=true:=by
 intro e o he ho
 obtain rfl:e=0:=by omega
 match o,ho with
 |0,_|1,_|2,_|3,_|4,_|5,_|6,_|7,_|8,_|9,_|10,_|11,_=>rfl
theorem aR3(d:De):∀o:Nat,o<12→(fun e o:Nat=>bN C.top (CZ d.nm d.L.length (aJ fD d.L) d.u0 d.u1 d.u2 d.lo d.hi d.dn d.up d.fi d.la d.bu) ((e+0)*12+o)) 0 o=.p (bQ d o):=by
 intro o ho
 match o,ho with
 |0,_|1,_|2,_|3,_|4,_|5,_|6,_|7,_|8,_|9,_|10,_|11,_=>rfl
section
variable {G:Nat→Option Obj}
set_option maxRecDepth 100000 in
theorem aIF(S:List Se):dD Tryz.prog G 5 (UW S):=by
 intro args p v hm hp h;unfold UW at hm
 split at hm;rotate_left;· cases hm
 split at hm;rotate_left;· cases hm
 rename_i x _ q hx;obtain⟨rfl,rfl⟩:=bA hm;clear hm;obtain⟨hq,hS⟩:=hp;refine lW.args (args':=[aX gK 13 S]) ?_ (.cons (wI hx hq) .nil)
 refine fR Tryz.func5 (by kernel_rfl) rfl ?_ h
 refine cO.evG aT 3 (aVX S) ?_;simp only[aI,aZ];refine⟨?_⟩
 refine cO.loop' (l:=bJ 3 (cS Tryz.prog Tryz.f5)) (b:=inr (inr (bN .skip (cS Tryz.prog Tryz.f5) 3))) (r:=bJ 4 (cS Tryz.prog Tryz.f5)) (id:=0) (by kernel_rfl) (σ:=Nat)
   (fun k=>(fun(out:List De) (k:Nat)=>bU 20 [(0,aX gK 13 S),(3,.c (.sl 0 12 0 k)),(4,iV (k:Nat))] [.row 59 12 k (cR bQ out)]) ((S.take k).map Se.d) k) (fun k=>k≤S.length) (fun k=>S.length-k) 0 (bH _) ((pF 59 12 (cR bQ []) 3 (by kernel_rfl)).trans (aP (by kernel_rfl))) ?_
 rintro k hk Q1 q1n q1e -
 have hl:=LP Se.d S hk
 refine cO.evH aT (aVW S ((S.take k).map Se.d) k) ?_;simp only[bD,aS,aI,aZ,fE,decide_eq_true_eq,decide_eq_false_iff_not,show (↑k:Int).toNat=k from rfl,inR];refine⟨fun c=>⟨⟨by omega,by omega⟩,trivial,aU _,⟨by omega,by omega,aOP (S.getD k default).d⟩,by omega,⟨q1n (k+1) _ (by omega) (by omega) ?_⟩⟩,fun c=>⟨q1e _ ?_⟩⟩
 ·show cW G _ ((fun(out:List De) (k:Nat)=>bU 20 [(0,aX gK 13 S),(3,.c (.sl 0 12 0 k)),(4,iV (k:Nat))] [.row 59 12 k (cR bQ out)]) ((S.take (k+1)).map Se.d) (k+1))
  rw[aCH Se.d (by omega)];exact kP ⟨⟨rfl,rfl,rfl,fun e o he ho=>BD (ρ:=[2]) hl (aR3 (S.getD k default).d) he ho⟩,trivial⟩
 ·obtain rfl:k=S.length:=by omega
  refine cO.pre (aP (st':=(fun(out:List De) (k:Nat)=>bU 20 [(0,aX gK 13 S),(3,.c (.sl 0 12 0 k)),(4,iV (k:Nat))] [.row 59 12 k (cR bQ out)]) ((S.take S.length).map Se.d) S.length) (by kernel_rfl)) ?_
  refine cO.evH aT (aVV S ((S.take S.length).map Se.d) S.length) ?_;simp only[aS,aI,bK];refine⟨⟨by omega,fun _ _ _ _=>rfl⟩,⟨?_⟩⟩;rw[List.take_length]
  exact mL (by simp) fun e o he ho=>rfl
end
end Go.AE
