import Derived.Test.YtjfofadeahdnnaaGreatDoorERf
import Derived.Laws.RangeString
import Derived.Laws.IdiomCopy
import Derived.OrdersIn
import Derived.StillTail
set_option linter.unusedVariables false
set_option linter.unusedSimpArgs false
namespace Go.CE
open _root_.Array renaming getElem?_eq_some_iff→aO,getElem?_setIfInBounds_ne→cY,getElem?_toList→aW,toList_inj→bI
open _root_.BitVec renaming ofInt→cB
open _root_.Int renaming eq_ofNat_of_zero_le→fK,ofNat→aY
open _root_.List renaming getD_eq_getElem?_getD→aD,getElem?_eq_getElem→aH,getElem?_eq_some_iff→aN,getElem?_map→cC,length_map→eA,rec→dV
open MapKept renaming run_getObj_map→fB
open _root_.Nat renaming add→gM,beq→aT,ble→bP,blt→cN,eq_of_beq_eq_true→aF,le_of_ble_eq_true→aK,le_refl→aJ,mul_le_mul_right→bG,mul_one→gQ,succ→iA
open Op renaming equalIn→eR,intArith→hZ
open _root_.Option renaming bind_eq_bind→aE,bind_eq_some_iff→aA,map_eq_some_iff→aI,map_some→cV,pure_def→aG,some.injEq→aB
open Region renaming binds→eW
open _root_.UInt8 renaming toNat→gH
open Value renaming int→cU
open Go.RowKit
open Go.AE (All2 jJ dF jA rF iZ jL jF vJ mF lH tU nJ)
section
variable {P:Program} {β:Bt} {w:World} {st:St} {a:Act} {o:Oper} {nid:Nat} {v:V} {e:pX}
theorem jG(hs:eJ β st a w){lo:Option Operand}{al:Option X}(hl:mM lo=some al){d:Nat}{n:Int}(h:xX st.t d al=some n):AE.Bnd a d lo n:=by
 cases lo with
 |none=>
  simp only[mM,aB]at hl;subst hl;simp only[xX,aB]at h;exact .inl ⟨rfl,h.symm⟩
 |some x=>
  simp only[mM,aI]at hl;obtain⟨ax,hx,rfl⟩:=hl;simp only[xX]at h
  have hv:=aM hs hx
  split at h
  ·rename_i kk n' he
   rw[he]at hv;injection h with h;subst h;exact .inr ⟨x,kk,rfl,hv⟩
  ·cases h
theorem MT(hs:eJ β st a w){t:TypeId}{x:Operand}{lo hi:Option Operand}{ax:X}{al ah:Option X}(hu:P.underlying t=some .string)(hx:cX x=some ax)(hl:mM lo=some al)(hh:mM hi=some ah)(ho:o.op=.slice t x lo hi none)
  (h:EA st.t ax al ah=some (v,e)):bX P β st.h nid o a w v e:=by
 have hv:=aM hs hx
 unfold EA at h;split at h
 ·rename_i l he
  rw[he]at hv;obtain⟨s,hv,rfl⟩:=hv
  have hln:=oF s
  unfold qZ at hln;split at h
  ·rename_i hh' l' e1 e2
   rw[iH,hln]at e1
   have hn:=jG hs hh e1
   have hm:=jG hs hl e2
   have h0:=fN h
   clear h;obtain⟨hb,h⟩:=h0;cases h;rw[bC,bC,gD,gD,gD,iH,hln]at hb;obtain⟨h1,h2,h3⟩:=hb;refine bX.same hs (u:=.string (s.extract l'.toNat hh'.toNat)) ?_ ⟨_,rfl,?_⟩
   ·simp[execOp,ho,hv,Instr.sliceAt,Instr.slice,run_underlying hu,AE.run_bounds hm hn h1 h2 h3]
   ·rw[zY,GZ]
    have:(s.extract l'.toNat hh'.toNat).data=s.data.extract l'.toNat hh'.toNat:=ByteArray.data_extract
    rw[this,Array.toList_extract,List.extract_eq_take_drop,List.map_take,List.map_drop];rfl
  ·cases h
 ·cases h
theorem VY(hs:eJ β st a w){t el:TypeId}{sz:Nat}{x:Operand}{lo hi:Option Operand}{ax:X}{al ah:Option X}(hu:P.underlying t=some (.slice el))(hsz:dF P el=some sz)(hx:cX x=some ax)(hl:mM lo=some al)(hh:mM hi=some ah)(ho:o.op=.slice t x lo hi none)
  (h:RM st.t sz ax al ah=some (v,e)):bX P β st.h nid o a w v e:=by
 have hv:=aM hs hx
 have run:∀A len cap (l n:Int),a.eval x=.slice A len cap→AE.Bnd a 0 lo l→AE.Bnd a len hi n→0≤l→l≤n→n≤cap →
   (execOp a.eval o).run P w=.ok (.value (.slice (if cap=l.toNat then A else A.map (·.add (l.toNat*sz))) (n.toNat-l.toNat) (cap-l.toNat))) w:=by
  intro A len cap l n he hl hn h1 h2 h3;simp[execOp,ho,he,Instr.sliceAt,Instr.slice,run_underlying hu,AE.run_sizeOf hsz,AE.run_bounds hl hn h1 h2 h3]
 unfold RM at h;split at h
 ·rename_i id sz' off n0 he
  rw[he]at hv;split at h
  ·rename_i n m e1 e2
   have hn:=jG hs hh e1
   have hm:=jG hs hl e2
   have h0:=fN h
   clear h;obtain⟨hb,h⟩:=h0;cases h;rw[bC,bC,bC,gD,gD,gD]at hb;obtain⟨c1,h1,h2,h3⟩:=hb;obtain rfl:=aF c1;obtain⟨A,c,g1,g2,g3,g4⟩:=hv;refine bX.same hs (run A n0 c m n g1 hm hn h1 h2 (by omega)) ?_
   have e3:Nat.sub n.toNat m.toNat=n.toNat-m.toNat:=rfl
   have e4:gM off m.toNat=off+m.toNat:=rfl
   rw[e3,e4];refine⟨_,_,rfl,by omega,fun hx=>by have:=g3 hx;omega,?_⟩
   rcases g4 with⟨g5,g6,g7⟩|⟨b,N,g5,rfl,g7⟩
   ·left
    have hm0:m.toNat=0:=by omega
    refine⟨?_,by omega,by omega⟩;rw[hm0,g7];simpa using g5
   ·by_cases hc:c=m.toNat
    ·by_cases hm0:m.toNat=0
     ·right
      have e5:(off+m.toNat+(c-m.toNat))*sz=(off+c)*sz:=by congr 1;omega
      refine⟨b,N,g5,?_,by rw[e5];exact g7.1,fun hx=>by rw[e5];exact g7.2 hx⟩;rw[if_pos hc,hm0];simp
     ·left
      exact⟨.inr (by omega),by omega,by omega⟩
    ·right
     have e5:(off+m.toNat+(c-m.toNat))*sz=(off+c)*sz:=by congr 1;omega
     refine⟨b,N,g5,?_,by rw[e5];exact g7.1,fun hx=>by rw[e5];exact g7.2 hx⟩;rw[if_neg hc,cV,AE.add_mid,Nat.add_mul]
  ·cases h
 ·rename_i he
  rw[he]at hv
  have hv:a.eval x=.slice none 0 0:=hv
  split at h
  ·rename_i n m e1 e2
   have hn:=jG hs hh e1
   have hm:=jG hs hl e2
   have h0:=fN h
   clear h;obtain⟨hb,h⟩:=h0;cases h;rw[bC,qC,qC]at hb;rw[hb.1]at hm;rw[hb.2]at hn;refine bX.same hs (run none 0 0 0 0 hv hm hn (by omega) (by omega) (by omega)) ?_
   show Value.slice _ _ _=_
   simp
  ·cases h
 ·cases h
theorem aIY(hs:eJ β st a w){t el:TypeId}{sz:Nat}{x hi mx:Operand}{lo:Option Operand}{ax ah am:X}{al:Option X}(hu:P.underlying t=some (.slice el))(hsz:dF P el=some sz)(hx:cX x=some ax)(hl:mM lo=some al)(hh:cX hi=some ah)(hm:cX mx=some am)(ho:o.op=.slice t x lo (some hi) (some mx))
  (h:ED st.t sz ax al ah am=some (v,e)):bX P β st.h nid o a w v e:=by
 have hv:=aM hs hx
 have hv1:=aM hs hh
 have hv2:=aM hs hm
 unfold ED at h;split at h
 case h_2=>cases h
 rename_i id sz' off n0 k1 n k2 m he e1 e2;rw[he]at hv;rw[e1]at hv1;rw[e2]at hv2
 have hv1:a.eval hi=.int k1 n:=hv1
 have hv2:a.eval mx=.int k2 m:=hv2
 split at h
 case h_2=>cases h
 rename_i l hl1
 have hlo:=jG hs hl hl1
 have h0:=fN h
 clear h;obtain⟨hb,h⟩:=h0;cases h;rw[bC,bC,bC,bC,gD,gD,gD,gD]at hb;obtain⟨c1,h1,h2,h3,h4⟩:=hb;obtain rfl:=aF c1;obtain⟨A,c,g1,g2,g3,g4⟩:=hv
 have hbd:(Instr.sliceBounds true n0 c (lo.map a.eval) (some (.int k1 n)) (some (.int k2 m))).run P w=.ok (l.toNat,n.toNat,m.toNat) w:=by
  have q1:∀code,(Instr.sliceBound (.int k2 m) c code).run P w=.ok m.toNat w:=fun code=>AE.run_bound (by omega) (by omega)
  have q2:∀code,(Instr.sliceBound (.int k1 n) m.toNat code).run P w=.ok n.toNat w:=fun code=>AE.run_bound (by omega) (by omega)
  rcases hlo with⟨rfl,rfl⟩|⟨y,k',rfl,hy⟩
  ·simp[Instr.sliceBounds,q1,q2]
  ·have q3:∀code,(Instr.sliceBound (.int k' l) n.toNat code).run P w=.ok l.toNat w:=fun code=>AE.run_bound (by omega) (by omega)
   simp[Instr.sliceBounds,q1,q2,hy,q3]
 have run:(execOp a.eval o).run P w=.ok (.value (.slice (if m.toNat=l.toNat then A else A.map (·.add (l.toNat*sz))) (n.toNat-l.toNat) (m.toNat-l.toNat))) w:=by
  simp[execOp,ho,g1,hv1,hv2,Instr.sliceAt,Instr.slice,run_underlying hu,AE.run_sizeOf hsz,hbd]
 refine bX.same hs run ?_
 have e3:Nat.sub n.toNat l.toNat=n.toNat-l.toNat:=rfl
 have e4:gM off l.toNat=off+l.toNat:=rfl
 rw[e3,e4];refine⟨_,_,rfl,by omega,(fun hx=>by cases hx),?_⟩
 rcases g4 with⟨g5,g6,g7⟩|⟨b,N,g5,rfl,g7⟩
 ·left
  have hm0:l.toNat=0:=by omega
  have hm1:m.toNat=0:=by omega
  refine⟨?_,by omega,by omega⟩;rw[hm0,hm1];simpa using g5
 ·by_cases hc:m.toNat=l.toNat
  ·by_cases hm0:l.toNat=0
   ·right
    refine⟨b,N,g5,?_,?_,fun hx=>by cases hx⟩
    ·rw[if_pos hc,hm0];simp
    ·rw[hm0,hc,hm0]
     refine Nat.le_trans ?_ g7.1;exact bG _ (by omega)
   ·left
    exact⟨.inr (by omega),by omega,by omega⟩
  ·right
   refine⟨b,N,g5,?_,?_,fun hx=>by cases hx⟩
   ·rw[if_neg hc,cV,AE.add_mid,Nat.add_mul]
   ·refine Nat.le_trans ?_ g7.1
    exact bG _ (by omega)
theorem aIX(hs:eJ β st a w){t el:TypeId}{sz n:Nat}{x:Operand}{lo hi:Option Operand}{ax:X}{al ah:Option X}(hu2:P.underlying t=some (.array n el))(hsz:dF P el=some sz)(hx:cX x=some ax)(hl:mM lo=some al)(hh:mM hi=some ah)(ho:o.op=.slice t x lo hi none)
  (h:EB st.t st.h sz n ax al ah=some (v,e)):bX P β st.h nid o a w v e:=by
 have hv:=aM hs hx
 unfold EB at h;split at h
 ·rename_i id off he
  have el_:lo=none:=by cases lo<;>simp[mM]at hl<;>rfl
  have eh_:hi=none:=by cases hi<;>simp[mM]at hh<;>rfl
  subst el_;subst eh_;rw[he]at hv;obtain⟨b,N,g1,g2⟩:=hv;split at h
  ·rename_i x0 ty vs hid
   have h0:=fN h
   clear h;obtain⟨hb,h⟩:=h0;cases h;rw[bC,bC,bC,iH]at hb;obtain⟨b1,b2,b4,b3⟩:=hb
   have b4:=aK b4
   obtain rfl:=aF b1
   have b2:0<n:=aK b2
   have b3:n*sz=vs.length:=aF b3
   have hob:=hs.hs.obj id b N g1
   rw[hid]at hob;obtain⟨cs,q1,q2,q3,q4⟩:=hob
   have hN:n*sz≤N:=by rw[b3];exact q3.1
   refine bX.same hs (u:=.slice (some ⟨b,0,none⟩) n n) ?_ ⟨_,n,rfl,aJ _,?_,.inr ⟨b,N,g1,by simp,by simpa using hN,fun hx=>by have:=b3.trans (q3.2 hx);simpa using this⟩⟩
   ·have hb0:=AE.run_bounds (P:=P) (w:=w) (b:=false) (len:=n) (cap:=n) (a:=a) (lo:=none) (hi:=none) (l:=0) (h:=n) (.inl ⟨rfl,rfl⟩) (.inl ⟨rfl,rfl⟩) (by omega) (by omega) (by omega)
    have hb0:(Instr.sliceBounds false n n none none none).run P w=.ok (0,n,n) w:=by simpa using hb0
    have hne:¬n=0:=by omega
    simp[execOp,ho,g2,Instr.sliceAt,run_underlying hu2,AE.run_sizeOf hsz,hb0,Instr.sureAddr,hne,Addr.add]
   ·intro _;unfold maxLen;omega
  ·rename_i ob vs hid
   have h0:=fN h
   clear h;obtain⟨hb,h⟩:=h0;cases h;rw[bC,bC,bC,iH]at hb;obtain⟨b1,b2,b4,b3⟩:=hb
   have b4:=aK b4
   obtain rfl:=aF b1
   have b2:0<n:=aK b2
   have b3:n*sz=vs.length:=aF b3
   have hob:=hs.hs.obj id b N g1
   rw[hid]at hob;obtain⟨cs,ty,fz,q1,q0,q2,q3,q4⟩:=hob
   have hN:n*sz≤N:=by rw[b3];exact q3
   refine bX.same hs (u:=.slice (some ⟨b,0,none⟩) n n) ?_ ⟨_,n,rfl,aJ _,?_,.inr ⟨b,N,g1,by simp,by simpa using hN,fun hx=>by cases hx⟩⟩
   ·have hb0:=AE.run_bounds (P:=P) (w:=w) (b:=false) (len:=n) (cap:=n) (a:=a) (lo:=none) (hi:=none) (l:=0) (h:=n) (.inl ⟨rfl,rfl⟩) (.inl ⟨rfl,rfl⟩) (by omega) (by omega) (by omega)
    have hb0:(Instr.sliceBounds false n n none none none).run P w=.ok (0,n,n) w:=by simpa using hb0
    have hne:¬n=0:=by omega
    simp[execOp,ho,g2,Instr.sliceAt,run_underlying hu2,AE.run_sizeOf hsz,hb0,Instr.sureAddr,hne,Addr.add]
   ·intro _;unfold maxLen;omega
  ·cases h
 ·cases h
theorem aDJ{x:V}{f:F}{u:Value}(h:VR β x u)(he:asF x=some f):FR β f u:=by
 unfold asF at he;split at he
 ·injection he with he;subst he;exact h
 ·cases he
theorem aDI{x:V}{xs:List V}:aHM (x::xs)=(match asF x,aHM xs with|some x,some l=>some (x::l)|_,_=>none):=rfl
theorem wQ:∀ {xs:List V} {fs:List F} {us:List Value},All2 (VR β) xs us→aHM xs=some fs→All2 (FR β) fs us
 |[],fs,[],_,he=>by have he:some []=some fs:=he;cases he;exact trivial
 |[],_,_::_,h,_=>h.elim
 |_::_,_,[],h,_=>h.elim
 |x::xs,fs,u::us,h,he=>by
  rw[aDI]at he;split at he
  ·rename_i f l h1 h2
   injection he with he;subst he;exact⟨aDJ h.1 h1,wQ h.2 h2⟩
  ·cases he
theorem NA(hs:eJ β st a w){f:Fn}{fs cs:Array Operand}{lf lc:List X}(h1:yD fs.toList=some lf)(h2:yD cs.toList=some lc)(ho:o.op=.makeFunc f fs cs)(h:EM st.t f lf lc=some (v,e)):bX P β st.h nid o a w v e:=by
 unfold EM at h;split at h
 ·rename_i xs ys hx hy
  cases h;refine bX.same hs (u:=.func f (fs.map a.eval) (cs.map a.eval)) ?_ ⟨_,_,rfl,wQ (by simpa using nX hs fs.toList lf h1) hx,wQ (by simpa using nX hs cs.toList lc h2) hy⟩;simp[execOp,ho,Instr.makeFunc]
 ·cases h
theorem MW(hs:eJ β st a w){x:Operand}{ax:X}(hx:cX x=some ax)(ho:o.op=.nilCheck x)(h:EH st.t ax=some (v,e)):bX P β st.h nid o a w v e:=by
 have hv:=aM hs hx
 unfold EH at h;split at h
 ·rename_i id off he
  rw[he]at hv
  have hv':=hv
  obtain⟨b,N,h1,h2⟩:=hv;cases h;exact bX.same hs (u:=a.eval x) (by simp[execOp,ho,h2]) hv'
 ·rename_i ty y he
  rw[he]at hv
  have hv':=hv
  obtain⟨u,h1,h2⟩:=hv;cases h;exact bX.same hs (u:=a.eval x) (by simp[execOp,ho,h1]) hv'
 ·cases h
theorem sJ{v:V}{u:Value}{b:Bool}(h:VR β v u)(hb:aJZ v=some b):(b=true∧u=.pointer none)∨(b=false∧∃ad,u=.pointer (some ad)):=by
 unfold aJZ at hb;split at hb
 ·injection hb with hb;subst hb;obtain⟨b,o,_,h⟩:=h;exact .inr ⟨rfl,_,h⟩
 ·injection hb with hb;subst hb;exact .inl ⟨rfl,h⟩
 ·cases hb
theorem WG(hs:eJ β st a w){op:BinOp}{neg:Bool}{t t' el:TypeId}{x y:Operand}{ax ay:X}(ht:P.underlying t=some (.pointer el))(hn:lH op=some neg)(hx:cX x=some ax)(hy:cX y=some ay)(ho:o.op=.binOp op t x y t')
  (h:RV st.t neg ax ay=some (v,e)):bX P β st.h nid o a w v e:=by
 have hv:=aM hs hx
 have hv':=aM hs hy
 have fin:∀(p q:Option Addr) (c:Bool),a.eval x=.pointer p→a.eval y=.pointer q→(∀d:Nat,(eR (d+1) t (.pointer p) (.pointer q)).run P w=.ok c w) →
   bX P β st.h nid o a w (.c (.f (.b (match neg with|true=>sR c|false=>c)))) .no:=by
  intro p q c e1 e2 he
  have eq:(Op.equal t (.pointer p) (.pointer q)).run P w=.ok c w:=he 9999
  have hg:(eqGuard op t x y (.pointer p) (.pointer q)).run P w=.ok () w:=by
   unfold eqGuard;cases op<;>simp
  cases op<;>simp only[lH,reduceCtorEq,aB]at hn
  case eql=>
   subst hn;exact bX.same hs (u:=.bool c) (by simp[execOp,ho,e1,e2,hg,Go.binOp,eq]) rfl
  case neq=>
   subst hn;exact bX.same hs (u:=.bool (!c)) (by simp[execOp,ho,e1,e2,hg,Go.binOp,eq]) (by rw[oC];rfl)
 unfold RV at h;split at h
 ·rename_i b h1 h2
  cases h
  rcases sJ hv h1 with⟨_,g1⟩|⟨g1,_⟩
  ·rcases sJ hv' h2 with⟨rfl,g2⟩|⟨rfl,ad,g2⟩
   ·have:=fin none none true g1 g2 (fun d=>by simp[eR,run_underlying ht])
    cases neg<;>exact this
   ·have:=fin none (some ad) false g1 g2 (fun d=>by simp[eR,run_underlying ht])
    cases neg<;>exact this
  ·cases g1
 ·rename_i b _ h1 h2
  cases h
  rcases sJ hv' h2 with⟨_,g2⟩|⟨g2,_⟩
  ·rcases sJ hv h1 with⟨rfl,g1⟩|⟨rfl,ad,g1⟩
   ·have:=fin none none true g1 g2 (fun d=>by simp[eR,run_underlying ht])
    cases neg<;>exact this
   ·have:=fin (some ad) none false g1 g2 (fun d=>by simp[eR,run_underlying ht])
    cases neg<;>exact this
  ·cases g2
 ·cases h
theorem MV(hs:eJ β st a w){op:BinOp}{neg:Bool}{t t' el:TypeId}{x:Operand}{ax:X}(ht:P.underlying t=some (.slice el))(hn:lH op=some neg)(hx:cX x=some ax)(ho:o.op=.binOp op t x (.const (.slice none 0 0)) t')
  (h:EF st.t neg ax=some (v,e)):bX P β st.h nid o a w v e:=by
 have hv:=aM hs hx
 have fin:∀(A:Option Addr) (n m:Nat),a.eval x=.slice A n m→bX P β st.h nid o a w (.c (.f (.b (match neg with|true=>sR A.isNone|false=>A.isNone)))) .no:=by
   intro A n m e1
   have he:∀d:Nat,(eR (d+1) t (.slice A n m) (.slice none 0 0)).run P w=.ok A.isNone w:=by
    intro d;cases A<;>simp[eR,run_underlying ht]
   have eq:(Op.equal t (.slice A n m) (.slice none 0 0)).run P w=.ok A.isNone w:=he 9999
   have hg:(eqGuard op t x (.const (.slice none 0 0)) (.slice A n m) (.slice none 0 0)).run P w=.ok () w:=by
    unfold eqGuard;cases op<;>simp
   have ev2:a.eval (.const (.slice none 0 0))=.slice none 0 0:=rfl
   cases op<;>simp only[lH,reduceCtorEq,aB]at hn
   case eql=>
    subst hn;exact bX.same hs (u:=.bool A.isNone) (by simp[execOp,ho,e1,ev2,hg,Go.binOp,eq]) rfl
   case neq=>
    subst hn;exact bX.same hs (u:=.bool (!A.isNone)) (by simp[execOp,ho,e1,ev2,hg,Go.binOp,eq]) (by rw[oC];rfl)
 unfold EF at h;split at h
 ·rename_i he
  rw[he]at hv;cases h
  have:=fin none 0 0 hv
  cases neg<;>exact this
 ·rename_i id sz off n he
  rw[he]at hv
  have h0:=fN h
  clear h;obtain⟨hb,h⟩:=h0;cases h
  have hb:0<n:=aK hb
  obtain⟨A,c,h1,h2,h3,h4⟩:=hv
  rcases h4 with⟨_,h5,_⟩|⟨b,N,_,rfl,_⟩
  ·omega
  ·have:=fin _ _ _ h1
   cases neg<;>exact this
 ·cases h
theorem aIZ(hs:eJ β st a w){op:BinOp}{neg:Bool}{t t' k el:TypeId}{x:Operand}{ax:X}(ht:P.underlying t=some (.map k el))(hn:lH op=some neg)(hx:cX x=some ax)(ho:o.op=.binOp op t x (.const (.map none)) t')
  (h:EG st.t neg ax=some (v,e)):bX P β st.h nid o a w v e:=by
 have hv:=aM hs hx
 have fin:∀(A:Option Nat),a.eval x=.map A→bX P β st.h nid o a w (.c (.f (.b (match neg with|true=>sR A.isNone|false=>A.isNone)))) .no:=by
   intro A e1
   have he:∀d:Nat,(eR (d+1) t (.map A) (.map none)).run P w=.ok A.isNone w:=by
    intro d;cases A<;>simp[eR,run_underlying ht]
   have eq:(Op.equal t (.map A) (.map none)).run P w=.ok A.isNone w:=he 9999
   have hg:(eqGuard op t x (.const (.map none)) (.map A) (.map none)).run P w=.ok () w:=by
    unfold eqGuard;cases op<;>simp
   have ev2:a.eval (.const (.map none))=.map none:=rfl
   cases op<;>simp only[lH,reduceCtorEq,aB]at hn
   case eql=>
    subst hn;exact bX.same hs (u:=.bool A.isNone) (by simp[execOp,ho,e1,ev2,hg,Go.binOp,eq]) rfl
   case neq=>
    subst hn;exact bX.same hs (u:=.bool (!A.isNone)) (by simp[execOp,ho,e1,ev2,hg,Go.binOp,eq]) (by rw[oC];rfl)
 unfold EG at h;split at h
 ·rename_i he
  rw[he]at hv;cases h
  have:=fin none hv
  cases neg<;>exact this
 ·rename_i id he
  rw[he]at hv;obtain⟨b,N,_,h1⟩:=hv;cases h
  have:=fin _ h1
  cases neg<;>exact this
 ·cases h
theorem aI2{k:IntKind}{n:Int}(h:IM k n=true):k.wrap n=n:=AE.wrap_in (rQ h)
theorem NJ(hs:eJ β st a w){s t:TypeId}{k:IntKind}{x:Operand}{ax:X}(ht:P.underlying t=some (.int k))(hx:cX x=some ax)(ho:o.op=.convert s t x)(hsr:∃d,P.underlying s=some d)(h:EY st.t k ax=some (v,e)):bX P β st.h nid o a w v e:=by
 have hv:=aM hs hx
 obtain⟨d,hd⟩:=hsr;unfold EY at h;split at h
 ·rename_i k1 n he
  rw[he]at hv
  have hv:a.eval x=.int k1 n:=hv
  have hr:(Go.convert s t (.int k1 n)).run P w=.ok (.int k (k.wrap n)) w:=by
   unfold Go.convert;simp[run_underlying hd,run_underlying ht,Conv.intToInt]
  have key:bX P β st.h nid o a w (.c (.f (.i k (k.wrap n)))) .no:=bX.same hs (u:=.int k (k.wrap n)) (by simp[execOp,ho,hv,hr]) rfl
  split at h
  ·rename_i hb
   cases h
   rwa [aI2 hb]at key
  ·rw[wL]at h
   cases h;exact key
 ·cases h
theorem MX(hs:eJ β st a w){t:TypeId}{k:IntKind}{x:Operand}{ax:X}(hx:cX x=some ax)(ho:o.op=.unOp .neg t x)(h:EJ st.t k ax=some (v,e)):bX P β st.h nid o a w v e:=by
 have hv:=aM hs hx
 unfold EJ at h;split at h
 ·rename_i k1 n he
  rw[he]at hv
  have hv:a.eval x=.int k1 n:=hv
  have h0:=fN h
  clear h;obtain⟨c1,h⟩:=h0;obtain rfl:=lQ c1;rw[wL]at h;cases h
  have e:(0:Int)-n = -n:=by omega
  exact bX.same hs (u:=.int k (k.wrap (-n))) (by simp[execOp,ho,hv,Op.unary,hZ]) rfl
 ·cases h
theorem NL(hs:eJ β st a w){op:BinOp}{t t':TypeId}{k:IntKind}{x y:Operand}{ax ay:X}(hx:cX x=some ax)(hy:cX y=some ay)(ho:o.op=.binOp op t x y t')(h:FA st.t op k ax ay=some (v,e)):bX P β st.h nid o a w v e:=by
 have hv:=aM hs hx
 have hv':=aM hs hy
 unfold FA at h;split at h
 ·rename_i k1 m k2 n he he'
  rw[he]at hv;rw[he']at hv'
  have hv:a.eval x=.int k1 m:=hv
  have hv':a.eval y=.int k2 n:=hv'
  have h0:=fN h
  clear h;obtain⟨c1,h⟩:=h0;rw[bC]at c1;obtain⟨c1,c2⟩:=c1;obtain rfl:=lQ c1
  have run:∀u,(Go.binOp op t (.int k m) (.int k2 n)).run P w=.ok u w→(execOp a.eval o).run P w=.ok (.value u) w:=by
   intro u hu
   have hg:(eqGuard op t x y (.int k m) (.int k2 n)).run P w=.ok () w:=by
    unfold eqGuard;cases op<;>simp
   simp[execOp,ho,hv,hv',hg,hu]
  split at h
  ·rename_i r hr
   rw[wL]at h;cases h
   cases op<;>simp only[UC]at hr<;>first|(cases hr;done)|skip
   case add=>obtain rfl:=lQ c2;cases hr;exact bX.same hs (run (.int k (k.wrap (m+n))) (by simp[Go.binOp,hZ])) rfl
   case sub=>obtain rfl:=lQ c2;cases hr;exact bX.same hs (run (.int k (k.wrap (m-n))) (by simp[Go.binOp,hZ])) rfl
   case mul=>obtain rfl:=lQ c2;cases hr;exact bX.same hs (run (.int k (k.wrap (m*n))) (by simp[Go.binOp,hZ])) rfl
   case and=>obtain rfl:=lQ c2;cases hr;exact bX.same hs (run (.int k (k.wrap (cB k.bits m &&& cB k.bits n).toNat)) (by simp[Go.binOp,Op.intBits])) rfl
   case or=>obtain rfl:=lQ c2;cases hr;exact bX.same hs (run (.int k (k.wrap (cB k.bits m ||| cB k.bits n).toNat)) (by simp[Go.binOp,Op.intBits])) rfl
   case xor=>obtain rfl:=lQ c2;cases hr;exact bX.same hs (run (.int k (k.wrap (cB k.bits m ^^^ cB k.bits n).toNat)) (by simp[Go.binOp,Op.intBits])) rfl
   case shl=>
    split at hr
    ·rename_i hz
     have hz:=gD.1 hz
     cases hr;exact bX.same hs (run (.int k (k.wrap (m*2^(min n.toNat k.bits)))) (by simp[Go.binOp,Op.shift,show ¬n<0 by omega])) rfl
    ·cases hr
   case shr=>
    split at hr
    ·rename_i hz
     have hz:=gD.1 hz
     cases hr;exact bX.same hs (run (.int k (m.fdiv (2^(min n.toNat k.bits)))) (by simp[Go.binOp,Op.shift,show ¬n<0 by omega])) rfl
    ·cases hr
  ·cases h
 ·cases h
theorem NK(hs:eJ β st a w){t el:TypeId}{x:Operand}{ax:X}(ht:P.underlying t=some (.slice el))(hx:cX x=some ax)(ho:o.op=.call { callee:=.builtin .cap,args := #[x],argTypes := #[t] })(h:EZ st.t ax=some (v,e)):bX P β st.h nid o a w v e:=by
 have hv:=aM hs hx
 unfold EZ at h;split at h
 ·rename_i he
  rw[he]at hv
  have hv:a.eval x=.slice none 0 0:=hv
  cases h;exact bX.same hs (u:=.int .i64 0) (by simp[execOp,ho,resolve,invoke,builtin,hv,Builtin.cap_,run_underlying ht,goInt]) rfl
 ·cases h
theorem aJ0(hs:eJ β st a w){t:TypeId}{d:TypeDesc}{x:Operand}{ax:X}(ht:P.underlying t=some d)(hd:∀m,d≠.interface m)(hx:cX x=some ax)(ho:o.op=.makeInterface t x)(h:EL st.t t ax=some (v,e)):bX P β st.h nid o a w v e:=by
 have hv:=aM hs hx
 unfold EL at h;split at h
 ·rename_i id off he
  rw[he]at hv;cases h;refine bX.same hs (u:=.iface t (a.eval x)) ?_ ⟨_,rfl,hv⟩
  have hr:(Instr.makeInterface t (a.eval x)).run P w=.ok (.iface t (a.eval x)) w:=by
   unfold Instr.makeInterface;simp only[Sem.run_bind,run_underlying ht]
   cases d<;>first|exact absurd rfl (hd _)|rfl
  simp[execOp,ho,hr]
 ·cases h
end
open Go.AE (All2 jJ dF jA rF iZ jL jF vJ mF lH tU nJ)
section
variable {P:Program} {β:Bt} {w:World} {st:St} {a:Act} {o:Oper} {nid:Nat} {v:V} {e:pX}
theorem jV{vs:List C}{xs:Array Value}(h:All2 (CR β) vs xs.toList){i:Nat}{p:F}(hp:aZ .top vs i=.f p):∃u,xs[i]?=some u∧FR β p u:=by
 rw[eG]at hp
 rcases Nat.lt_or_ge i vs.length with hl|hl
 ·obtain⟨y,h1,h2⟩:=h.get i vs[i] (aH hl)
  have e:vs[i]=.f p:=by simpa[hl] using hp
  rw[e]at h2;exact⟨y,by simpa using h1,h2⟩
 ·rw[aD,List.getElem?_eq_none hl]at hp;cases hp
theorem rJ{t:TypeId}{pk:PK}(h:DL P t=some pk):P.plainKey t=true:=by
 unfold DL at h;unfold Program.plainKey;split at h<;>simp_all
theorem aD0{xs ys:List C}{p:Nat×PK}{fs:List (Nat×PK)}:pT xs ys (p::fs)=(match p.2,aZ .top xs p.1,aZ .top ys p.1 with
  |.i,.f (.i k1 a),.f (.i k2 b)=>match AE.kEq k1 k2,pT xs ys fs with
   |true,some c=>some (dU (UT a b) c)
   |_,_=>none
  |.s,.f (.s a),.f (.s b)=>match pT xs ys fs with
   |some c=>some (dU (YI a b) c)
   |none=>none
  |.b,.f (.b a),.f (.b b)=>match pT xs ys fs with
   |some c=>some (dU (a==b) c)
   |none=>none
  |_,_,_=>none):=rfl
theorem YV(a b:Int):UT a b=(a==b):=by rw[Bool.eq_iff_iff];simp[qC]
theorem HO(a b:Bool):dU a b=(a&&b):=by cases a<;>rfl
theorem aMH{vs vs':List C}{xs ys:Array Value}(hx:All2 (CR β) vs xs.toList)(hy:All2 (CR β) vs' ys.toList)(d:Nat){i:Nat}{ty:TypeId}{pk:PK}(h1:DL P ty=some pk){fs:List (Nat×PK)}{r:Bool}(h:pT vs vs' ((i,pk)::fs)=some r) :
  ∃u u' b c,xs[i]?=some u∧ys[i]?=some u'∧(eR (d+1) ty u u').run P w=.ok b w∧pT vs vs' fs=some c∧r=(b&&c):=by
 rw[aD0]at h;split at h
 ·rename_i k1 a1 k2 a2 hp hv hv'
  split at h
  ·rename_i c hk hc
   cases h;obtain rfl:=lQ hk;obtain⟨u,q1,q2⟩:=jV hx hv;obtain⟨u',q3,q4⟩:=jV hy hv'
   have q2:u=.int k1 a1:=q2
   have q4:u'=.int k1 a2:=q4
   subst q2;subst q4
   have ht:∃kk,P.underlying ty=some (.int kk):=by
    dsimp only at hp;subst hp;unfold DL at h1;split at h1<;>simp_all
   obtain⟨kk,ht⟩:=ht;exact⟨_,_,_,c,q1,q3,run_equalIn_int w d ty k1 kk a1 a2 ht,hc,by rw[HO,YV]⟩
  ·cases h
 ·rename_i a1 a2 hp hv hv'
  split at h
  ·rename_i c hc
   cases h;obtain⟨u,q1,q2⟩:=jV hx hv;obtain⟨u',q3,q4⟩:=jV hy hv';obtain⟨s1,rfl,rfl⟩:=q2;obtain⟨s2,rfl,rfl⟩:=q4
   have ht:P.underlying ty=some .string:=by
    dsimp only at hp;subst hp;unfold DL at h1;split at h1<;>simp_all
   refine⟨_,_,_,c,q1,q3,run_equalIn_string w d ty s1 s2 ht,hc,?_⟩
   have:=TK s1 s2
   unfold qZ at this;rw[HO,this]
  ·cases h
 ·rename_i a1 a2 hp hv hv'
  split at h
  ·rename_i c hc
   cases h;obtain⟨u,q1,q2⟩:=jV hx hv;obtain⟨u',q3,q4⟩:=jV hy hv'
   have q2:u=.bool a1:=q2
   have q4:u'=.bool a2:=q4
   subst q2;subst q4
   have ht:P.underlying ty=some .bool:=by
    dsimp only at hp;subst hp;unfold DL at h1;split at h1<;>simp_all
   exact⟨_,_,_,c,q1,q3,run_equalIn_bool' w d ty a1 a2 ht,hc,by rw[HO]⟩
  ·cases h
 ·cases h
theorem pS{vs vs':List C}{xs ys:Array Value}(hx:All2 (CR β) vs xs.toList)(hy:All2 (CR β) vs' ys.toList)(d:Nat) :
  ∀(fs:List Field) (l:List (Nat×PK)) (b:Bool),zO P fs=some l→pT vs vs' l=some b→(Op.eqFields (d+1) xs ys fs).run P w=.ok b w
 |[],l,b,hl,h=>by
  simp only[zO,aB]at hl;subst hl
  have h:some true=some b:=h
  cases h;simp[Op.eqFields]
 |f::fs,l,b,hl,h=>by
  simp only[zO]at hl;split at hl
  ·rename_i hn
   simp only[aE,aA,aG,aB]at hl;obtain⟨pk,h1,l',h2,rfl⟩:=hl
   have hp:=rJ h1
   have hn:f.name ≠ "_" := by simpa using hn
   obtain⟨u,u',b1,c,e1,e2,e3,hc,rfl⟩:=aMH (w:=w) hx hy d h1 h
   have q1:=pS hx hy d fs l' c h2 hc
   simp only[Op.eqFields,hn,ne_eq,not_false_eq_true,if_true,Sem.run_bind,run_part_plain (w:=w) hp e1,run_part_plain (w:=w) hp e2,e3,Result.andThen_ok];cases b1
   ·simp
   ·simpa using q1
  ·cases hl
theorem WF(hs:eJ β st a w){op:BinOp}{t t':TypeId}{x y:Operand}{ax ay:X}{fs:Array Field}{l:List (Nat×PK)}{neg:Bool}(hu:P.underlying t=some (.struct fs))(hg:(P.stoodInHeld t||P.eqGuardType P.depth t)=false)(hn:lH op=some neg)(hl:zO P fs.toList=some l)
  (hx:cX x=some ax) (hy:cX y=some ay) (ho:o.op=.binOp op t x y t') (h:EW st.t neg l ax ay=some (v,e)):bX P β st.h nid o a w v e:=by
 have hv:=aM hs hx
 have hv':=aM hs hy
 simp only[Bool.or_eq_false_iff]at hg
 have hf:P.fieldsOf t=fs:=by unfold Program.fieldsOf;simp[hu]
 unfold EW at h;split at h
 ·rename_i vs vs' e1 e2
  rw[e1]at hv;rw[e2]at hv';obtain⟨us,hu1,ha⟩:=hv;obtain⟨us',hu2,ha'⟩:=hv';split at h
  ·rename_i b hb
   cases h
   have q1:=pS (w:=w) ha ha' 9998 fs.toList l b hl hb
   have he:(eR 10000 t (.agg us) (.agg us')).run P w=.ok b w:=by
    rw[run_equalIn_struct w 9999 t us us' (by rw[hf];exact hu) hg.1,hf];exact q1
   have hgd:=run_eqGuard_agg (w:=w) op t x y us us' hg.2
   cases op<;>simp only[lH,aB,reduceCtorEq]at hn
   ·subst hn
    exact bX.same hs (u:=.bool b) (by simp[execOp,ho,hu1,hu2,hgd,run_eql_struct,he]) rfl
   ·subst hn
    exact bX.same hs (u:=.bool (!b)) (by simp[execOp,ho,hu1,hu2,hgd,run_neq_struct,he]) (by rw[oC];rfl)
  ·cases h
 ·cases h
theorem pR{vs vs':List C}{xs ys:Array Value}(hx:All2 (CR β) vs xs.toList)(hy:All2 (CR β) vs' ys.toList)(d:Nat){ty:TypeId}{pk:PK}(h1:DL P ty=some pk)(hc:P.cellsOf ty=1) :
  ∀(n i:Nat) (b:Bool),pT vs vs' (HP pk i n)=some b→(Op.eqItems (d+1) ty (P.cellsOf ty) xs ys (List.range' i n)).run P w=.ok b w
 |0,i,b,h=>by have h:some true=some b:=h;cases h;simp[Op.eqItems]
 |n+1,i,b,h=>by
  have hp:=rJ h1
  obtain⟨u,u',b1,c,e1,e2,e3,hc',rfl⟩:=aMH (w:=w) hx hy d h1 h
  have q1:=pR hx hy d h1 hc n (i+1) c hc'
  have e0:i*P.cellsOf ty=i:=by rw[hc,gQ]
  rw[List.range'_succ];simp only[Op.eqItems,Sem.run_bind,e0,run_part_plain (w:=w) hp e1,run_part_plain (w:=w) hp e2,e3,Result.andThen_ok];cases b1
  ·simp
  ·simpa using q1
theorem NI(hs:eJ β st a w){op:BinOp}{t t' el:TypeId}{n:Nat}{x y:Operand}{ax ay:X}{pk:PK}{neg:Bool}(hu:P.underlying t=some (.array n el))(hg:P.eqGuardType P.depth t=false)(hn:lH op=some neg)(h1:DL P el=some pk)(hz:tU P el=true)
  (hx:cX x=some ax) (hy:cX y=some ay) (ho:o.op=.binOp op t x y t') (h:EW st.t neg (HP pk 0 n) ax ay=some (v,e)):bX P β st.h nid o a w v e:=by
 have hv:=aM hs hx
 have hv':=aM hs hy
 obtain⟨inf,hi,hsz⟩:∃i,P.info? el=some i∧i.size=1:=by
  unfold tU dF at hz;cases hq:P.info? el with
  |none=>simp[hq]at hz
  |some i=>
   refine⟨i,rfl,?_⟩;simp only[hq,cV]at hz;split at hz
   ·rename_i h1;injection h1
   ·cases hz
 have hc:P.cellsOf el=1:=by unfold Program.cellsOf;rw[hi];exact hsz
 unfold EW at h;split at h
 ·rename_i vs vs' e1 e2
  rw[e1]at hv;rw[e2]at hv';obtain⟨us,hu1,ha⟩:=hv;obtain⟨us',hu2,ha'⟩:=hv';split at h
  ·rename_i b hb
   cases h
   have q1:=pR (w:=w) ha ha' 9998 h1 hc n 0 b hb
   have he:(eR 10000 t (.agg us) (.agg us')).run P w=.ok b w:=by
    rw[run_equalIn_array w 9999 us us' hu hi,List.range_eq_range'];exact q1
   have hgd:=run_eqGuard_agg (w:=w) op t x y us us' hg
   cases op<;>simp only[lH,aB,reduceCtorEq]at hn
   ·subst hn
    exact bX.same hs (u:=.bool b) (by simp[execOp,ho,hu1,hu2,hgd,run_eql_struct,he]) rfl
   ·subst hn
    exact bX.same hs (u:=.bool (!b)) (by simp[execOp,ho,hu1,hu2,hgd,run_neq_struct,he]) (by rw[oC];rfl)
  ·cases h
 ·cases h
theorem BZ{t:TypeId}{z:W}(h:JA P t=some z):∃u,(∀w,(zeroValue t).run P w=.ok u w)∧WR β z u:=by
 unfold JA at h;cases hq:P.info? t with
 |none=>simp[hq]at h
 |some i=>
  cases hz:i.zero with
  |none=>simp[hq,hz]at h
  |some v=>
   simp only[hq,hz,Option.bind_some]at h;refine⟨v,fun w=>by simp[zeroValue,typeInfo,hq,hz],?_⟩;cases v with
   |agg cs=>cases h;exact⟨cs,rfl,nQ _⟩
   |tuple=>cases h
   |string s=>cases h;exact⟨s,rfl,rfl⟩
   |_=>cases h;exact rfl
theorem aIW(hs:eJ β st a w){t xt:TypeId}{d:TypeDesc}{z:W}{two:Bool}{x:Operand}{ax:X}(ht:P.underlying t=some d)(hd:∀m,d≠.interface m)(hz:JA P t=some z)(hx:cX x=some ax)(ho:o.op=.typeAssert x xt t two)(h:DZ st.t t z two ax=some (v,e)):bX P β st.h nid o a w v e:=by
 have hv:=aM hs hx
 obtain⟨zu,hz1,hz2⟩:=BZ (β:=β) hz
 have run:∀u r,a.eval x=u→(Instr.typeAssert u xt t two).run P w=.ok r w→(execOp a.eval o).run P w=.ok (.value r) w:=by
  intro u r h1 h2;simp[execOp,ho,h1,h2]
 unfold DZ at h;split at h
 ·rename_i ty' y he
  rw[he]at hv;obtain⟨u,hu,hy⟩:=hv
  have key:(Instr.typeAssert (.iface ty' u) xt t two).run P w=(if ty'=t then (pure (if two then .tuple #[u,.bool true] else u):Sem Value) else (do if two then pure (.tuple #[←zeroValue t,.bool false]) else runtimePanic (.typeAssertion (some xt) (some ty') t ""))).run P w:=by
   unfold Instr.typeAssert;simp only[Sem.run_bind,run_underlying ht,Result.andThen_ok]
  split at h
  ·rename_i hb
   have hb:=aF hb
   cases h;refine bX.same hs (u:=.tuple #[u,.bool true]) (run _ _ hu (by rw[key,if_pos hb];rfl)) ⟨_,rfl,⟨hy,rfl,trivial⟩⟩
  ·rename_i hb
   have hb:=aF hb
   cases h;exact bX.same hs (u:=u) (run _ _ hu (by rw[key,if_pos hb];rfl)) hy
  ·rename_i hb
   have hb:=Nat.ne_of_beq_eq_false hb
   cases h;refine bX.same hs (u:=.tuple #[zu,.bool false]) (run _ _ hu (by rw[key,if_neg hb];simp[hz1])) ⟨_,rfl,⟨hz2,rfl,trivial⟩⟩
  ·cases h
 ·rename_i he
  rw[he]at hv
  have hv:a.eval x=.nilIface:=hv
  have key:(Instr.typeAssert .nilIface xt t true).run P w=.ok (.tuple #[zu,.bool false]) w:=by
   unfold Instr.typeAssert;simp only[Sem.run_bind,run_underlying ht,Result.andThen_ok]
   cases d<;>first|exact absurd rfl (hd _)|simp[hz1]
  split at h
  ·cases h
   exact bX.same hs (u:=.tuple #[zu,.bool false]) (run _ _ hv key) ⟨_,rfl,⟨hz2,rfl,trivial⟩⟩
  ·cases h
 ·cases h
end
open Go.AE (All2 jJ dF jA rF iZ jL jF vJ mF lH tU nJ)
section
variable {P:Program} {β:Bt} {w:World} {st:St} {a:Act} {o:Oper} {nid:Nat} {v:V} {e:pX}
theorem DS(hs:eJ β st a w)(hid:β nid=none){t:TypeId}{kd:IntKind}(ho:o.op=.makeMap t none):bX P β st.h nid o a w (.c (.f (.mp nid))) (.nw (.map kd [])):=by
 obtain⟨h1,h2⟩:=kP hs.hs hid (x:=.map kd []) (o:=.map #[] 0) (N:=0) (fun w' hb=>⟨#[],0,hb,trivial⟩);refine⟨.map (some w.heap.size),_,_,.inl ?_,⟨_,_,fA _ _ _,rfl⟩,?_,h2,fun i hi=>cO _ (aA1 hi)⟩
 ·simp[execOp,ho,Instr.makeMap]
 ·rw[yZ];exact h1
theorem YE{k:Int}{p:Int×W}{es:List (Int×W)}:uC k (p::es)=(match UT k p.1 with|true=>some p.2|false=>uC k es):=rfl
theorem uB{kd:IntKind}{n:Int}:∀ {es:List (Int×W)} {es':List MapEntry} (_:All2 (fun(p:Int×W) (e:MapEntry)=>e.key=.int kd p.1∧WR β p.2 e.val) es es') (j:Nat),
  (∀y,uC n es=some y→∃i u,Instr.findNow (.int kd) (.int kd n) es' j=some (some (i,u))∧WR β y u)∧(uC n es=none→Instr.findNow (.int kd) (.int kd n) es' j=some none)
 |[],[],_,j=>⟨fun y h=>by(have h:none=some y:=h;cases h),fun _=>rfl⟩
 |[],_::_,h,_=>h.elim
 |_::_,[],h,_=>h.elim
 |p::es,e::es',h,j=>by
  obtain⟨⟨h1,h2⟩,h3⟩:=h;obtain⟨i1,i2⟩:=uB h3 (j+1);rw[YE]
  have hn:Instr.findNow (.int kd) (.int kd n) (e::es') j=(match (n==p.1) with|true=>some (some (j,e.val))|false=>Instr.findNow (.int kd) (.int kd n) es' (j+1)):=by
    simp only[Instr.findNow,h1,Instr.sameNow,if_true];cases n==p.1<;>rfl
  rw[hn,YV];cases hb:n==p.1 with
  |true=>exact⟨fun y hy=>by cases hy;exact⟨j,e.val,rfl,h2⟩,fun hc=>by cases hc⟩
  |false=>exact⟨i1,i2⟩
theorem lZ{t:TypeId}{kd:IntKind}(ht:P.underlying t=some (.int kd))(b:Bool)(n:Int)(w:World):(Instr.checkKey b 10000 t (.int kd n)).run P w=.ok () w:=by
 have:∀d,(Instr.checkKey b (d+1) t (.int kd n)).run P w=.ok () w:=fun d=>by simp[Instr.checkKey,run_underlying ht]
 exact this 9999
theorem KN{t el:TypeId}{kd:IntKind}(h:WU P t=some (kd,el)):∃k,P.underlying t=some (.map k el)∧P.underlying k=some (.int kd):=by
 unfold WU at h;split at h
 ·rename_i k e hu
  split at h
  ·rename_i kd' hk
   cases h;exact⟨k,hu,hk⟩
  ·cases h
 ·cases h
theorem NB(hs:eJ β st a w){t el:TypeId}{kd:IntKind}{z:W}{two:Bool}{x k:Operand}{ax ak:X}(hm:WU P t=some (kd,el))(hz:JA P el=some z)(hx:cX x=some ax)(hk:cX k=some ak)(ho:o.op=.lookup t x k two)
  (h:EN st.t st.h kd z two ax ak=some (v,e)):bX P β st.h nid o a w v e:=by
 have hv:=aM hs hx
 have hv':=aM hs hk
 obtain⟨kt,hu,hkt⟩:=KN hm;obtain⟨zu,hz1,hz2⟩:=BZ (β:=β) hz
 have fin:∀(y:W) (u:Value) (b:Bool),WR β y u→(execOp a.eval o).run P w=.ok (.value (if two then .tuple #[u,.bool b] else u)) w→bX P β st.h nid o a w (aI7 two y b) .no:=by
  intro y u b hy hr;cases two with
  |true=>exact bX.same hs hr ⟨_,rfl,⟨hy,rfl,trivial⟩⟩
  |false=>exact bX.same hs hr (WR.up hy)
 unfold EN at h;split at h
 ·rename_i kd1 n hek
  rw[hek]at hv'
  have hv':a.eval k=.int kd1 n:=hv'
  split at h
  ·rename_i hkd
   obtain rfl:=lQ hkd;split at h
   ·rename_i he
    rw[he]at hv
    have hv:a.eval x=.map none:=hv
    cases h;refine fin z zu false hz2 ?_;simp[execOp,ho,hv,hv',Instr.lookup,run_underlying hu,lZ hkt,Instr.findKey,run_underlying hkt,Instr.findNow,hz1]
   ·rename_i id he
    rw[he]at hv;obtain⟨b,N,g1,g2⟩:=hv;split at h
    ·rename_i kd2 es hid
     split at h
     ·rename_i hkd2
      obtain rfl:=lQ hkd2
      have hob:=hs.hs.obj id b N g1
      rw[hid]at hob;obtain⟨es',cl,q1,q2⟩:=hob
      have hgo:(getObj b).run P w=.ok (.map es' cl) w:=fB q1
      obtain⟨f1,f2⟩:=uB (n:=n) q2 0;split at h
      ·rename_i y hy
       cases h;obtain⟨i,u,f3,f4⟩:=f1 y hy;refine fin y u true f4 ?_;simp[execOp,ho,g2,hv',Instr.lookup,run_underlying hu,lZ hkt,Instr.findKey,run_underlying hkt,hgo,f3]
      ·rename_i hy
       cases h;refine fin z zu false hz2 ?_;simp[execOp,ho,g2,hv',Instr.lookup,run_underlying hu,lZ hkt,Instr.findKey,run_underlying hkt,hgo,f2 hy,hz1]
     ·cases h
    ·cases h
   ·cases h
  ·cases h
 ·cases h
theorem zP{x:V}{y:W}{u:Value}(h:VR β x u)(he:asW x=some y):WR β y u:=by
 unfold asW at he;split at he<;>cases he<;>exact h
theorem MY(hs:eJ β st a w){t el:TypeId}{kd:IntKind}{x k y:Operand}{ax ak ay:X}(hm:WU P t=some (kd,el))(hx:cX x=some ax)(hk:cX k=some ak)(hy:cX y=some ay)(ho:o.op=.mapUpdate t x k y)
  (h:EK st.t st.h kd ax ak ay=some (v,e)):bX P β st.h nid o a w v e:=by
 have hv:=aM hs hx
 have hv':=aM hs hk
 have hv2:=aM hs hy
 obtain⟨kt,hu,hkt⟩:=KN hm;unfold EK at h;split at h
 ·rename_i kd1 n y' id hek hey hex
  rw[hek]at hv';rw[hex]at hv
  have hv':a.eval k=.int kd1 n:=hv'
  obtain⟨b,N,g1,g2⟩:=hv
  have hw:=zP hv2 hey
  split at h
  ·rename_i kd2 es hid
   split at h
   ·rename_i hf
    have h0:=fN h
    clear h;obtain⟨hb,h⟩:=h0;cases h;rw[bC]at hb;obtain⟨b1,b2⟩:=hb;obtain rfl:=lQ b1;obtain rfl:=lQ b2
    have hob:=hs.hs.obj id b N g1
    rw[hid]at hob;obtain⟨es',cl,q1,q2⟩:=hob
    have hgo:(getObj b).run P w=.ok (.map es' cl) w:=fB q1
    have hbl:b<w.heap.size:=hs.hs.lt id b N g1
    obtain⟨_,f2⟩:=uB (n:=n) q2 0
    have key:=nF hs.hs g1 (by rw[hid];rfl) (w':={ w with heap:=w.heap.setIfInBounds b (.map (es'.push { key:=.int kd n,val:=a.eval y,born:=cl }) (cl+1)) }) (x:=.map kd (ap es [(n,y')])) rfl rfl rfl (by simp) (fun j hj=>by simp[cY (Ne.symm hj)]) ?_
    ·refine⟨undef,_,β,.inr ⟨?_,rfl⟩,⟨#[],rfl,trivial⟩,?_,key.2,fun _ _=>rfl⟩
     ·simp[execOp,ho,g2,hv',Instr.mapUpdate,run_underlying hu,lZ hkt,Instr.findKey,run_underlying hkt,hgo,f2 hf,MapKept.run_setObj_map _ q1,Result.andThen]
     ·rw[yY];exact key.1
    ·refine⟨es'.push { key:=.int kd n,val:=a.eval y,born:=cl },cl+1,by simp[hbl],?_⟩
     rw[kW,Array.toList_push];exact q2.append ⟨⟨rfl,hw⟩,trivial⟩
   ·cases h
  ·cases h
 ·cases h
theorem DU(hs:eJ β st a w){f:FuncId}{fn:Func}{sub:Bool}{args:Array Operand}{ts:Array TypeId}{x y z:Operand}{ax ay az:X}(hf:P.funcs[f]?=some fn)(hb:nJ fn=some sub)(hl:args.toList=[x,y,z])
  (hx:cX x=some ax) (hy:cX y=some ay) (hz:cX z=some az) (ho:o.op=.call { callee:=.value (.func f),args,argTypes:=ts }) (h:xK st.t sub ax ay az=some (v,e)):bX P β st.h nid o a w v e:=by
 have hv1:=aM hs hx
 have hv2:=aM hs hy
 have hv3:=aM hs hz
 unfold xK at h;split at h
 case h_2=>cases h
 rename_i m n c he1 he2 he3;rw[he1]at hv1;rw[he2]at hv2;rw[he3]at hv3
 have hv1:a.eval x=.int .u64 m:=hv1
 have hv2:a.eval y=.int .u64 n:=hv2
 have hv3:a.eval z=.int .u64 c:=hv3
 have h0:=fN h
 clear h;obtain⟨hbb,h⟩:=h0;rw[bC,bC,bC,bC,gD,gD,lY,gD,gD]at hbb;obtain⟨g0,g1,g2,g3,g4⟩:=hbb
 have hargs:args.map a.eval = #[.int .u64 m,.int .u64 n,.int .u64 c]:=by
  apply bI.1;rw[Array.toList_map,hl];simp[hv1,hv2,hv3]
 have hbn:fn.body.isNone=true∧Extern.findNext fn=none∧((sub=false∧fn.name = "math/bits.Add64")∨(sub=true∧fn.name = "math/bits.Sub64")):=by
  unfold nJ at hb;split at hb
  ·cases hb
  ·rename_i hbody
   split at hb
   ·cases hb
   ·rename_i sub' hsub
    split at hb
    ·rename_i hn
     injection hb with hb;subst hb;refine⟨by rw[hbody];rfl,by simpa using hn,?_⟩;split at hsub
     ·rename_i hnm
      injection hsub with hsub;exact .inl ⟨hsub.symm,by simpa using hnm⟩
     ·split at hsub
      ·rename_i hnm
       injection hsub with hsub;exact .inr ⟨hsub.symm,by simpa using hnm⟩
      ·cases hsub
    ·cases hb
 obtain⟨hbd,hfn,hs1⟩:=hbn
 have e:a.eval (.func f)=.func (.func f) #[] #[]:=rfl
 rcases hs1 with⟨rfl,hnm⟩|⟨rfl,hnm⟩
 ·have hfind:Extern.find fn=some add64Entry:=by
    cases fn;simp only at hnm;subst hnm;rfl
  have hr:=run_callFunc_extern hf (by rw[hnm];rfl) hbd hfn hfind #[.int .u64 m,.int .u64 n,.int .u64 c] w
  rw[run_add64 m n c g0 g1 g3 g4]at hr;simp only[Result.andThen]at hr;simp only[wL]at h;cases h;refine bX.same hs (u:=.tuple #[.int .u64 ((m+n+c)%18446744073709551616),.int .u64 ((m+n+c) / 18446744073709551616)]) ?_ ⟨_,rfl,⟨rfl,rfl,trivial⟩⟩;simp only[execOp,ho,resolve,e,Deferred.ofValue,invoke,hargs];simp[hr]
 ·have hfind:Extern.find fn=some Go.Proofs.sub64Entry:=by
    cases fn;simp only at hnm;subst hnm;rfl
  have hr:=run_callFunc_extern hf (by rw[hnm];rfl) hbd hfn hfind #[.int .u64 m,.int .u64 n,.int .u64 c] w
  obtain⟨m',rfl⟩:=fK g0;obtain⟨n',rfl⟩:=fK g1;obtain⟨c',rfl⟩:=fK g3;rw[Go.Proofs.run_sub64 m' n' c' (by omega)]at hr
  have r1:(((m'+18446744073709551616-n'-c')%18446744073709551616:Nat):Int)=((m':Int)+18446744073709551616-(n':Int)-(c':Int))%18446744073709551616:=by omega
  have r2:((if m'<n'+c' then 1 else 0:Nat):Int)=(match PP (m':Int) ((n':Int)+(c':Int)) with|true=>1|false=>0):=by
    cases hz:PP (m':Int) ((n':Int)+(c':Int)) with
    |true=>have:=lY.1 hz;rw[if_pos (by omega)];rfl
    |false=>
     have:¬(m':Int)<(n':Int)+(c':Int):=fun q=>by rw[lY.2 q]at hz;cases hz
     rw[if_neg (by omega)];rfl
  rw[r1,r2]at hr;simp only[Result.andThen]at hr;simp only[wL]at h;cases h;refine bX.same hs (u:=.tuple #[.int .u64 (((m':Int)+18446744073709551616-(n':Int)-(c':Int))%18446744073709551616),.int .u64 (match PP (m':Int) ((n':Int)+(c':Int)) with|true=>1|false=>0)]) ?_ ⟨_,rfl,⟨rfl,rfl,trivial⟩⟩;simp only[execOp,ho,resolve,e,Deferred.ofValue,invoke,hargs];simp[hr]
theorem aD9(β:Bt)(s:ByteArray):All2 (CR β) (mp (fun k=>C.f (.i .u8 (aY k))) (s.data.toList.map gH)) (s.data.toList.map fun b=>cU .u8 (b.toNat:Int)):=by
 rw[FG,List.map_map]
 generalize s.data.toList=l
 induction l with
 |nil=>trivial
 |cons c l ih=>exact⟨rfl,ih⟩
theorem TZ{x:C}{l:List C}:PD (x::l)=(match aHG x,PD l with
 |some k,some r=>some (k::r)
 |_,_=>none):=rfl
theorem yE:∀ {cs:List C} {us:List Value} {l:List Nat},All2 (CR β) cs us→PD cs=some l→us=l.map (fun k:Nat=>cU .u8 (k:Int))∧∀k∈l,k≤255
 |[],[],l,_,he=>by have he:some []=some l:=he;cases he;exact⟨rfl,fun k hk=>by cases hk⟩
 |[],_::_,_,h,_=>h.elim
 |_::_,[],_,h,_=>h.elim
 |x::cs,u::us,l,h,he=>by
  rw[TZ]at he;split at he
  ·rename_i k r h1 h2
   cases he;obtain⟨e1,e2⟩:=yE h.2 h2;unfold aHG at h1;split at h1
   ·split at h1
    ·rename_i m hm
     cases h1
     have hu:u=.int .u8 (aY k):=h.1
     subst hu;refine⟨by rw[e1];rfl,fun j hj=>?_⟩
     rcases List.mem_cons.1 hj with rfl|hj
     ·exact aK hm
     ·exact e2 j hj
    ·cases h1
   ·cases h1
  ·cases he
theorem aNG(hs:eJ β st a w){s0 t el:TypeId}{x:Operand}{ax:X}(hu0:P.underlying s0=some (.slice el))(hel:P.underlying el=some (.int .u8))(hu:P.underlying t=some .string)(hx:cX x=some ax)(ho:o.op=.convert s0 t x)(h:RY st.t st.h ax=some (v,e)):bX P β st.h nid o a w v e:=by
 unfold RY at h;split at h
 case h_2=>cases h
 rename_i m cs hsrc;obtain⟨A,c,news,g1,g2,g3,g4,g5⟩:=yO hs hx hsrc;split at h
 case h_2=>cases h
 rename_i l hl;cases h;obtain⟨e1,e2⟩:=yE g5 hl
 have hlen:l.length=m:=by rw[e1]at g2;simpa using g2
 have hfr:FR β (.s l) (.string ⟨(l.map UInt8.ofNat).toArray⟩):=by
  refine⟨_,rfl,?_⟩;simp only[List.map_map]
  conv=>rhs;rw[←List.map_id l]
  exact List.map_congr_left fun k hk=>by
   have:=e2 k hk
   simp;omega
 refine bX.same hs (u:=.string ⟨(l.map UInt8.ofNat).toArray⟩) ?_ hfr;cases A with
 |none=>
  obtain rfl:=g3 rfl;obtain rfl:l=[]:=List.eq_nil_of_length_eq_zero hlen
  have hr:=run_convert_bytes_string (P:=P) w s0 t el none 0 c hu0 hel hu
  have:(Go.convert s0 t (.slice none 0 c)).run P w=.ok (.string ⟨#[]⟩) w:=by
   rw[hr];simp[Conv.bytesToString,loadCells];rfl
  simp[execOp,ho,g1,this]
 |some ad=>
  have hr:=run_convert_bytes_back (P:=P) w s0 t el ad c (l.map UInt8.ofNat) hu0 hel hu (fun j hj=>by
   have hj':j<l.length:=by simpa using hj
   refine(g4 ad rfl j (.int .u8 (l[j]:Int)) ?_).trans ?_
   ·rw[e1,cC,aH hj'];rfl
   ·have:=e2 l[j] (List.getElem_mem hj')
    simp only[List.getElem_map];congr 3
    simp;omega)
  rw[eA,hlen]at hr;simp[execOp,ho,g1,hr]
theorem aNB(hs:eJ β st a w)(hid:β nid=none){s0 t el:TypeId}{x:Operand}{ax:X}(hu0:P.underlying s0=some .string)(hu:P.underlying t=some (.slice el))(hel:P.underlying el=some (.int .u8))(hx:cX x=some ax)(ho:o.op=.convert s0 t x)(h:KD st.t nid el ax=some (v,e)):bX P β st.h nid o a w v e:=by
 have hv:=aM hs hx
 unfold KD at h;split at h
 case h_2=>cases h
 rename_i l he;rw[he]at hv;obtain⟨s,hv,rfl⟩:=hv;cases h
 have hln:=oF s
 unfold qZ at hln
 obtain⟨q,hq⟩:∃q,q=(Question.appendCap s.size 0 el):=⟨_,rfl⟩
 obtain⟨cap,hcap⟩:∃cap,cap=q.cut (w.tape w.drawn q):=⟨_,rfl⟩
 have hle:s.size≤cap:=by rw[hcap,hq];simp[Question.cut]
 obtain⟨cs,hcs⟩:∃cs:Array Value,cs=(s.data.map fun b=>cU .u8 (b.toNat:Int))++Array.replicate (cap-s.size) (.int .u8 0):=⟨_,rfl⟩
 obtain⟨w1,hw1⟩:∃w1,w1=w.drew.alloc (.cells cs el):=⟨_,rfl⟩
 have hsz1:w1.heap.size=w.heap.size+1:=by rw[hw1,World.size_alloc];rfl
 have hnew:w1.heap[w.heap.size]?=some (.cells cs el (0,0)):=by rw[hw1];exact heap_alloc_new w.drew _
 have hold:∀b,b<w.heap.size→w1.heap[b]?=w.heap[b]?:=fun b hb=>by rw[hw1];exact AE.heap_push_lt w.drew _ hb
 have hcsz:cs.size=cap:=by
  rw[hcs];simp
  have:s.data.size=s.size:=rfl
  omega
 have hrun:(Conv.stringToBytes el s).run P w=.ok (.slice (some ⟨w.heap.size,0,none⟩) s.size cap) (w1.freeze ⟨w.heap.size,cs.size,none⟩ 1):=by
  unfold Conv.stringToBytes
  have hf:(Question.appendCap s.size 0 el).forced=false:=rfl
  simp only[Sem.run_bind,run_choose_drew,hf,Bool.false_eq_true,if_false,Result.andThen_ok];rw[←hq,←hcap,←hcs]
  have hnr:(newRow el cs).run P w.drew=.ok ⟨w.heap.size,0,none⟩ w1:=by rw[hw1];simp[newRow]
  have hmk:(markStringish ⟨w.heap.size,0,none⟩).run P w1=.ok () (w1.freeze ⟨w.heap.size,cs.size,none⟩ 1):=by
   simp[markStringish,shape,freeze,Sem.run,World.shape?,hnew]
  simp only[hnr,hmk,Result.andThen_ok,Sem.run_pure]
 obtain⟨w2,hw2⟩:∃w2,w2=w1.freeze ⟨w.heap.size,cs.size,none⟩ 1:=⟨_,rfl⟩
 rw[←hw2]at hrun
 have h2sz:w2.heap.size=w.heap.size+1:=by rw[hw2];simp[World.freeze,hsz1]
 have h2new:w2.heap[w.heap.size]?=some (.cells cs el (cs.size,cs.size+1)):=by
  rw[hw2];simp[World.freeze,Array.getElem?_modify,hnew]
 have h2old:∀b,b<w.heap.size→w2.heap[b]?=w.heap[b]?:=fun b hb=>by
  rw[hw2,←hold b hb];simp[World.freeze,Array.getElem?_modify,show ¬w.heap.size=b by omega]
 have h2os:w2.os=w.os:=by rw[hw2,hw1];rfl
 have h2tp:w2.tape=w.tape:=by rw[hw2,hw1];rfl
 have h2ou:w2.output=w.output:=by rw[hw2,hw1];rfl
 have hobj:OR (fu β nid (some (w.heap.size,cs.size))) w2 (.rdb el (mp (fun k=>C.f (.i .u8 (aY k))) (s.data.toList.map gH))) w.heap.size cs.size:=by
  refine⟨cs,_,h2new,rfl,?_,fun k c hk=>?_⟩
  ·rw[FG,eA,hln,hcsz];exact hle
  ·obtain⟨u,q1,q2⟩:=(aD9 (fu β nid (some (w.heap.size,cs.size))) s).get k c hk
   refine⟨u,?_,q2⟩;rw[hcs]
   have hk2:k<s.data.size:=by
    have:=(aN.1 q1).1
    simpa using this
   rw[Array.getElem?_append_left (by simpa using hk2)];rw[←Array.toList_map,aW]at q1;exact q1
 obtain⟨r1,r2⟩:=aOG hs.hs hid h2os h2tp h2ou h2sz h2old hobj;refine⟨.slice (some ⟨w.heap.size,0,none⟩) s.size cap,w2,fu β nid (some (w.heap.size,cs.size)),.inl ?_,?_,?_,r2,fun i hi=>cO _ (aA1 hi)⟩
 ·have hc:(Go.convert s0 t (.string s)).run P w=(Conv.stringToBytes el s).run P w:=by
    unfold Go.convert;simp[run_underlying hu0,run_underlying hu,run_underlying hel]
  simp[execOp,ho,hv,hc,hrun]
 ·rw[iH,hln]
  exact⟨_,cap,rfl,hle,(fun hx=>by cases hx),.inr ⟨w.heap.size,cs.size,fA _ _ _,by simp,by rw[hcsz];simp,fun hx=>by cases hx⟩⟩
 ·rw[yZ];exact r1
theorem aNC(hs:eJ β st a w)(hid:β nid=none){t:TypeId}{x:Operand}{ax:X}(hu:P.underlying t=some .string)(hx:cX x=some ax)(ho:o.op=.range t x)(h:KE st.t nid ax=some (v,e)):bX P β st.h nid o a w v e:=by
 have hv:=aM hs hx
 unfold KE at h;split at h
 case h_2=>cases h
 rename_i l he;rw[he]at hv;obtain⟨s,hv,rfl⟩:=hv;cases h;obtain⟨h1,h2⟩:=kP hs.hs hid (x:=.sit (s.data.toList.map gH) 0) (o:=.stringIter s 0) (N:=0) (fun w' hb=>⟨s,hb,rfl⟩);refine⟨.pointer (some ⟨w.heap.size,0,none⟩),_,_,.inl ?_,⟨_,_,fA _ _ _,rfl⟩,?_,h2,fun i hi=>cO _ (aA1 hi)⟩
 ·have:=run_range_string (P:=P) w t s hu
  simp[execOp,ho,hv,this,World.iter]
 ·rw[yZ];exact h1
theorem aND(hs:eJ β st a w){x:Operand}{ax:X}(hx:cX x=some ax)(ho:o.op=.next x true)(h:RN st.t st.h ax=some (v,e)):bX P β st.h nid o a w v e:=by
 have hv:=aM hs hx
 unfold RN at h;split at h
 case h_2=>cases h
 rename_i id he;rw[he]at hv;obtain⟨b,N,g1,g2⟩:=hv;split at h
 case h_2=>cases h
 rename_i l pos hid
 have hob:=hs.hs.obj id b N g1
 rw[hid]at hob;obtain⟨s,q1,rfl⟩:=hob
 have hln:=oF s
 unfold qZ at hln
 have hgo:(getObj b).run P w=.ok (.stringIter s pos) w:=by simp[getObj,Sem.run,q1]
 split at h
 ·rename_i hlt
  rw[iH,hln]at hlt
  have hlt:pos<s.size:=aK hlt
  have h0:=fN h
  clear h;obtain⟨hb,h⟩:=h0;cases h
  have hlt2:pos<s.data.toList.length:=by simpa using hlt
  have hbyte:aZ 0 (s.data.toList.map gH) pos=(s[pos]'hlt).toNat:=by
   rw[eG,aD,cC,aH hlt2];rfl
  rw[hbyte]at hb ⊢
  have hb:(s[pos]'hlt).toNat<128:=aK hb
  have hbl:b<w.heap.size:=hs.hs.lt id b N g1
  have hset:(setObj b (.stringIter s (pos+1))).run P w=.ok () { w with heap:=w.heap.setIfInBounds b (.stringIter s (pos+1)) }:=by simp[setObj,Sem.run,q1]
  have hrun:(Instr.next (.pointer (some ⟨b,0,none⟩)) true o.type).run P w=.ok (.tuple #[.bool true,.int .i64 pos,.int .i32 (s[pos]'hlt).toNat]) { w with heap:=w.heap.setIfInBounds b (.stringIter s (pos+1)) }:=by
   unfold Instr.next;simp only[Sem.run_bind,hgo,Result.andThen_ok,hlt,if_true,decode_ascii s pos hlt hb,hset];simp[goInt]
  have key:=nF hs.hs g1 (by rw[hid];rfl) (w':={ w with heap:=w.heap.setIfInBounds b (.stringIter s (pos+1)) }) (x:=.sit (s.data.toList.map gH) (pos+1)) rfl rfl rfl (by simp) (fun j hj=>by simp[cY (Ne.symm hj)]) ⟨s,by simp[hbl],rfl⟩
  refine⟨.tuple #[.bool true,.int .i64 pos,.int .i32 (s[pos]'hlt).toNat],_,β,.inl ?_,⟨_,rfl,⟨rfl,rfl,rfl,trivial⟩⟩,?_,key.2,fun _ _=>rfl⟩
  ·simp[execOp,ho,g2,hrun]
  ·rw[yY];exact key.1
 ·rename_i hlt
  rw[iH,hln]at hlt
  have hlt:¬pos<s.size:=fun q=>by
   have:cN pos s.size=true:=Nat.ble_eq_true_of_le q
   rw[hlt]at this;cases this
  cases h;refine bX.same hs (u:=.tuple #[.bool false]) ?_ ⟨_,rfl,⟨rfl,trivial⟩⟩
  have hrun:(Instr.next (.pointer (some ⟨b,0,none⟩)) true o.type).run P w=.ok (.tuple #[.bool false]) w:=by
   unfold Instr.next;simp only[Sem.run_bind,hgo,Result.andThen_ok,hlt,if_false];simp
  simp[execOp,ho,g2,hrun]
theorem aJ3(hs:eJ β st a w){x i:Operand}{ax ai:X}{t el:TypeId}{m sz:Nat}{n:Option Nat}(hu:P.underlying t=some (.array m el))(hsz:dF P el=some sz)(hn:iZ P el=some n)(hx:cX x=some ax)(hi:cX i=some ai)(ho:o.op=.index t x i)
  (h:EQ st.t sz m n ax ai=some (v,e)):bX P β st.h nid o a w v e:=by
 have hv:=aM hs hx
 have hv':=aM hs hi
 unfold EQ at h;split at h
 case h_2=>cases h
 rename_i cs kd k he he2;rw[he]at hv;rw[he2]at hv'
 have hv':a.eval i=.int kd k:=hv'
 obtain⟨us,hus,ha⟩:=hv
 have h0:=fN h
 clear h;obtain⟨hb,h⟩:=h0;cases h;rw[bC,bC,gD,lY,iH]at hb;obtain⟨⟨h1,h2⟩,c1⟩:=hb
 have c1:k.toNat*sz+jJ n≤cs.length:=aK c1
 have hlen:=ha.length
 have hsz2:us.toList.length=us.size:=by simp
 have hl:(us.extract (k.toNat*sz) (k.toNat*sz+jJ n)).toList.length=jJ n:=by simp;omega
 have e1:Nat.mul k.toNat sz=k.toNat*sz:=rfl
 rw[e1];refine bX.same hs (u:=AE.ldV (us.extract (k.toNat*sz) (k.toNat*sz+jJ n)).toList n) ?_ (kL c1 hl ?_)
 ·cases n with
  |none=>
   have hlt:k.toNat*sz<us.size:=by simp only[jJ]at c1;omega
   simp[execOp,ho,hus,hv',Instr.index,asIntOf,run_underlying hu,h1,h2,AE.run_sizeOf hsz,part,AE.run_isAgg (AE.cellsO_none hn),hlt,AE.ldV,jJ]
  |some q=>
   obtain⟨p1,p2⟩:=AE.cellsO_some hn
   have hq:q=sz:=by rw[p2]at hsz;injection hsz
   subst hq;simp[execOp,ho,hus,hv',Instr.index,asIntOf,run_underlying hu,h1,h2,AE.run_sizeOf hsz,part,AE.run_isAgg p1,AE.ldV,jJ,-Array.toList_extract]
 ·intro j c u hc hj
  have hjl:j<jJ n:=by have:=(aN.1 hj).1;omega
  obtain⟨u',q1,q2⟩:=ha.get (k.toNat*sz+j) c hc;rw[aW,Array.getElem?_extract,if_pos (by omega)]at hj;rw[aW,hj]at q1;injection q1 with q1;subst q1;exact q2
end
open Go.AE (All2 jJ dF jA rF iZ jL jF vJ mF lH tU nJ)
section
variable {P:Program} {β:Bt} {w:World} {st:St} {a:Act} {o:Oper} {nid:Nat} {v:V} {e:pX}
theorem LW{α γ:Type}{R:α→γ→Prop}:∀(k:Nat) {xs:List α} {ys:List γ},All2 R xs ys→All2 R (xs.take k) (ys.take k)
 |0,_,_,_=>trivial
 |_+1,[],[],_=>trivial
 |_+1,[],_::_,h=>h.elim
 |_+1,_::_,[],h=>h.elim
 |k+1,_::_,_::_,h=>⟨h.1,LW k h.2⟩
theorem aJ5(hs:eJ β st a w){x y:Operand}{ax ay:X}{t el:TypeId}(hu:P.underlying t=some (.slice el))(hsz:tU P el=true)(hx:cX x=some ax)(hy:cX y=some ay)
  (ho:o.op=.call { callee:=.builtin .copy,args := #[x,y],argTypes := #[t,t] }) (h:EX st.t st.h 1 ax ay=some (v,e)):bX P β st.h nid o a w v e:=by
 have hv:=aM hs hx
 have hsz:(P.info? el).map (·.size)=some 1:=by
  unfold tU dF at hsz;split at hsz
  ·rename_i h1;exact h1
  ·cases hsz
 unfold EX at h;split at h
 case h_2=>cases h
 rename_i m news hsrc;obtain⟨A,c,nw,s1,s2,s3,s4,s5⟩:=yO hs hy hsrc;split at h
 case h_2=>cases h
 rename_i id sz' off n he;rw[he]at hv;obtain⟨A',c',g1,g2,g3,g4⟩:=hv;split at h
 case h_2=>cases h
 rename_i x0 ty vs hid;rw[aGS]at h
 obtain⟨q,hq⟩:∃q,q=aNV m n:=⟨_,rfl⟩
 rw[←hq]at h
 have hq:q=Nat.min m n:=by
  rw[hq];unfold aNV;split
  ·rename_i h1;exact(Nat.min_eq_left (aK h1)).symm
  ·rename_i h1
   have:¬m≤n:=fun h2=>by rw[Nat.ble_eq_true_of_le h2]at h1;cases h1
   exact(Nat.min_eq_right (by omega)).symm
 have hqm:q≤m:=by rw[hq];exact Nat.min_le_left _ _
 have hqn:q≤n:=by rw[hq];exact Nat.min_le_right _ _
 have h0:=fN h
 clear h;obtain⟨hb,h⟩:=h0;cases h
 have e1:Nat.mul q 1=q:=gQ q
 rw[e1]at hb ⊢;rw[zY]at hb ⊢;rw[bC,bC,iH]at hb;obtain⟨b1,b3,b4⟩:=hb;obtain rfl:=aF b1
 have b3:(off+q)*1≤vs.length:=aK b3
 have s6:All2 (CR β) (news.take q) (nw.take q):=LW q s5
 have hones:∀u∈nw.take q,u.oneCell'=true:=kU s6 (gI b4)
 have hnl:(nw.take q).length=q:=by rw[List.length_take,s2,gQ];omega
 have e0:Nat.mul off 1=off:=gQ off
 rw[e0]
 by_cases hm:q=0
 ·have hset:kN vs off (news.take q)=vs:=by
    rw[hm,List.take_zero];unfold kN;rw[kW,kW,zY,GZ]
    have:gM off (len ([]:List C))=off:=rfl
    rw[this];simp
  rw[hset]
  have hrun:=run_copy_none (P:=P) w t t o.type el A' A n c' m c hu hsz (by rw[←hq];exact hm)
  refine⟨goInt 0,w,β,.inl (by simp[execOp,ho,resolve,invoke,builtin,g1,s1,hrun]),by rw[hm];rfl,?_,Gr.refl _ _,fun _ _=>rfl⟩;rw[yY]
  have:fu st.h id (.blk x0 ty vs)=st.h:=by
   funext i;unfold fu
   by_cases e:i=id
   ·rw[if_pos e,e,hid]
   ·rw[if_neg e]
  rw[this];exact hs.hs
 ·rcases g4 with⟨_,g5,_⟩|⟨b,N,g5,rfl,g7⟩
  ·omega
  ·cases A with
   |none=>exact absurd (s3 rfl) (by omega)
   |some ad=>
    obtain⟨r1,r2,r3⟩:=zU hs.hs g5 hid (off:=off) (by rw[s6.length,hnl];omega) s6
    have e1:(⟨b,off*1,none⟩:Addr)=⟨b,off,none⟩:=by rw[gQ]
    have hth:∀j,j<(nw.take q).length→(w.cell? ⟨b,off+j,none⟩).isSome=true∧w.frozen? ⟨b,off+j,none⟩=false:=fun j hj=>r3 j hj
    have hrun:=run_copy_cells (P:=P) w t t o.type el b off n c' ad m c (nw.take q) hu hsz (by rw[hnl,hq]) (fun j v hj=>s4 ad rfl j v (by
      rw[List.getElem?_take]at hj;split at hj
      ·exact hj
      ·cases hj)) (fun j hj=>(hth j hj).1) (fun j hj=>(hth j hj).2) hones
    rw[hnl]at hrun;refine⟨goInt q,_,β,.inl (by simp[execOp,ho,resolve,invoke,builtin,g1,e1,s1,hrun]),rfl,?_,r2,fun _ _=>rfl⟩;rw[yY];exact r1
set_option maxHeartbeats 4000000 in
theorem KB(hs:eJ β st a w)(hid:β nid=none){op:BW}(hc:iW P o.op=some op)(h:mH st.t st.h nid op=some (v,e)):bX P β st.h nid o a w v e:=by
 cases hop:o.op
 all_goals rw[hop]at hc
 all_goals try (simp only[iW]at hc;cases hc;done)
 case move x=>
  simp only[iW,aI]at hc;obtain⟨ax,hx,rfl⟩:=hc;cases h;exact RI hs hx (.inl hop)
 case assign x=>
  simp only[iW,aI]at hc;obtain⟨ax,hx,rfl⟩:=hc;cases h;exact RI hs hx (.inr hop)
 case pick c x y=>
  simp only[iW,aE,aA,aG,aB]at hc;obtain⟨ac,h1,ax,h2,ay,h3,rfl⟩:=hc;exact MU hs h1 h2 h3 hop h
 case alloc t=>
  simp only[iW,aI]at hc;obtain⟨z,hz,rfl⟩:=hc;cases h;exact DV hs hid hz hop
 case box t x=>
  simp only[iW,aI]at hc;obtain⟨ax,hx,rfl⟩:=hc;exact WI hs hid hx hop h
 case build t ps=>
  simp only[iW]at hc;split at hc
  ·rename_i fs hu
   simp only[aE,aA,aG,aB]at hc;obtain⟨places,h1,z,h2,l,h3,rfl⟩:=hc;exact tT hs h2 h3 (.inl ⟨fs,places,hu,h1,rfl⟩) hop h
  ·rename_i n e hu
   simp only[aE,aA,aG,aB]at hc;obtain⟨s,h1,z,h2,l,h3,rfl⟩:=hc;exact tT hs h2 h3 (.inr ⟨n,e,s,hu,h1,rfl⟩) hop h
  ·cases hc
 case load t x=>
  simp only[iW,aE,aA,aG,aB]at hc;obtain⟨n,h1,ax,h2,rfl⟩:=hc;exact NC hs h1 h2 hop h
 case store t x y=>
  simp only[iW,aE,aA,aG,aB]at hc;obtain⟨n,h1,ax,h2,ay,h3,rfl⟩:=hc;exact DQ hs h1 h2 h3 hop h
 case binOp op t x y t'=>
  simp only[iW]at hc;split at hc
  ·split at hc
   ·simp only[aE,aA,aG,aB]at hc
    obtain⟨ax,h1,ay,h2,rfl⟩:=hc;exact NL hs h1 h2 hop h
   ·simp only[aE,aA,aG,aB]at hc
    obtain⟨ax,h1,ay,h2,rfl⟩:=hc;exact aF0 hs h1 h2 hop h
  ·simp only[aE,aA,aG,aB]at hc
   obtain⟨ax,h1,ay,h2,rfl⟩:=hc;exact aF0 hs h1 h2 hop h
  ·rename_i hu
   simp only[aE,aA,aG,aB]at hc;obtain⟨ax,h1,ay,h2,rfl⟩:=hc;exact aJ7 hs hu h1 h2 hop h
  ·rename_i fs hu
   split at hc
   ·rename_i neg hg hn
    simp only[aE,aA,aG,aB]at hc;obtain⟨l,h0,ax,h1,ay,h2,rfl⟩:=hc;exact WF hs hu hg hn h0 h1 h2 hop h
   ·cases hc
  ·rename_i n e hu
   split at hc
   ·rename_i neg hg hn hz
    simp only[aE,aA,aG,aB]at hc;obtain⟨pk,h0,ax,h1,ay,h2,rfl⟩:=hc;exact NI hs hu hg hn h0 hz h1 h2 hop h
   ·cases hc
  ·rename_i e hu
   split at hc
   ·rename_i neg hn
    simp only[aE,aA,aG,aB]at hc;obtain⟨ax,h1,ay,h2,rfl⟩:=hc;exact WG hs hu hn h1 h2 hop h
   ·cases hc
  ·rename_i e hu
   split at hc
   ·rename_i neg hn
    simp only[aI]at hc;obtain⟨ax,h1,rfl⟩:=hc;exact MV hs hu hn h1 hop h
   ·cases hc
  ·rename_i k e hu
   split at hc
   ·rename_i neg hn
    simp only[aI]at hc;obtain⟨ax,h1,rfl⟩:=hc;exact aIZ hs hu hn h1 hop h
   ·cases hc
  ·cases hc
 case convert s t x=>
  simp only[iW]at hc;split at hc
  ·rename_i k0 k hs0 hu
   simp only[aI]at hc;obtain⟨ax,hx,rfl⟩:=hc;exact NJ hs hu hx hop ⟨_,hs0⟩ h
  ·rename_i el h0 hu
   split at hc
   ·rename_i hel
    simp only[aI]at hc;obtain⟨ax,hx,rfl⟩:=hc;exact aNB hs hid h0 hu hel hx hop h
   ·cases hc
  ·split at hc
   ·simp only[aI]at hc
    obtain⟨ax,hx,rfl⟩:=hc;rename_i h0 hu _ hel
    exact aNG hs h0 hel hu hx hop h
   ·cases hc
  ·cases hc
 case range t x=>
  simp only[iW]at hc;split at hc
  ·rename_i hu
   simp only[aI]at hc;obtain⟨ax,hx,rfl⟩:=hc;exact aNC hs hid hu hx hop h
  ·cases hc
 case next x b=>
  cases b with
  |true=>
   simp only[iW,aI]at hc;obtain⟨ax,hx,rfl⟩:=hc;exact aND hs hx hop h
  |false=>simp only[iW]at hc;cases hc
 case nilCheck x=>
  simp only[iW,aI]at hc;obtain⟨ax,hx,rfl⟩:=hc;exact MW hs hx hop h
 case unOp op t x=>
  cases op
  all_goals try (simp only[iW]at hc;cases hc;done)
  case not=>
   simp only[iW,aI]at hc;obtain⟨ax,hx,rfl⟩:=hc;exact VZ hs hx hop h
  case neg=>
   simp only[iW]at hc;split at hc
   ·simp only[aI]at hc
    obtain⟨ax,hx,rfl⟩:=hc;exact MX hs hx hop h
   ·simp only[aI]at hc
    obtain⟨ax,hx,rfl⟩:=hc;exact WA hs hx hop h
 case fieldAddr t x k=>
  simp only[iW,aE,aA]at hc;obtain⟨fs,h1,f,h2,s,h3,h4⟩:=hc
  have hu:P.underlying t=some (.struct fs):=by
   unfold jL at h1;split at h1
   ·rename_i fs' hu;injection h1 with h1;rw[hu,h1]
   ·cases h1
  split at h4
  ·cases h4
  ·rename_i s' hs'
   simp only[aG,aA,aB]at h4;obtain⟨ax,hx,rfl⟩:=h4;refine DT hs hu h2 ?_ hx hop h;cases s with
   |zero=>exact absurd rfl hs'
   |succ s=>exact⟨s,h3⟩
 case field t x k=>
  simp only[iW,aE,aA,aG,aB]at hc;obtain⟨fs,h1,f,h2,n,h3,ax,h4,rfl⟩:=hc
  have hu:P.underlying t=some (.struct fs):=by
   unfold jL at h1;split at h1
   ·rename_i fs' hu;injection h1 with h1;rw[hu,h1]
   ·cases h1
  exact WE hs hu h2 h3 h4 hop h
 case indexAddr t x i=>
  simp only[iW]at hc;split at hc
  ·rename_i n e hA
   have hu:P.underlying t=some (.array n e):=by
    unfold vJ at hA;split at hA
    ·rename_i n' e' hu;injection hA with hA;injection hA with e1 e2;rw[hu,e1,e2]
    ·cases hA
   split at hc
   ·rename_i k h1
    simp only[aE,aA,aG,aB]at hc;obtain⟨sz,h2,ax,h3,rfl⟩:=hc;unfold mF at h1;split at h1
    ·rename_i kd k'
     split at h1
     ·rename_i hb
      injection h1 with h1;subst h1;exact NF hs hu (by simpa using hb) h2 h3 hop h
     ·cases h1
    ·cases h1
   ·simp only[aE,aA,aG,aB]at hc
    obtain⟨sz,h2,ax,h3,ai,h4,rfl⟩:=hc;exact aJ4 hs hu h2 h3 h4 hop h
  ·simp only[aE,aA,aG,aB]at hc
   obtain⟨e,h1,sz,h2,ax,h3,ai,h4,rfl⟩:=hc
   have hu:P.underlying t=some (.slice e):=by
    unfold jF at h1;split at h1
    ·rename_i e' hu;injection h1 with h1;rw[hu,h1]
    ·cases h1
   exact NG hs hu h2 h3 h4 hop h
 case index t x i=>
  simp only[iW]at hc;split at hc
  ·rename_i hu
   simp only[aE,aA,aG,aB]at hc;obtain⟨ax,h1,ai,h2,rfl⟩:=hc;exact NE hs hu h1 h2 hop h
  ·rename_i n el hu
   simp only[aE,aA,aG,aB]at hc;obtain⟨sz,h0,n,h3,ax,h1,ai,h2,rfl⟩:=hc;exact aJ3 hs hu h0 h3 h1 h2 hop h
  ·cases hc
 case extract x i=>
  simp only[iW,aE,aA,aG,aB]at hc;obtain⟨ax,h1,rfl⟩:=hc;exact NH hs h1 hop h
 case call c=>
  simp only[iW]at hc;obtain⟨callee,args,ats⟩:=c;dsimp only at hc
  have elem:∀ {t el:TypeId},jF P t=some el→P.underlying t=some (.slice el):=by
   intro t el h1;unfold jF at h1;split at h1
   ·rename_i e' hu;injection h1 with h1;rw[hu,h1]
   ·cases h1
  split at hc
  ·rename_i f
   split at hc
   ·rename_i fn hf
    split at hc
    ·simp only[aI]at hc
     obtain⟨l,hl,rfl⟩:=hc;cases h
    ·split at hc
     ·rename_i sub x y z hcb hargs
      simp only[aE,aA,aG,aB]at hc;obtain⟨ax,hx,ay,hy,az,hz,rfl⟩:=hc;exact DU hs hf hcb hargs hx hy hz hop h
     ·cases hc
   ·cases hc
  ·simp only[aE,aA,aG,aB]at hc
   obtain⟨ax,_,l,_,rfl⟩:=hc;cases h
  ·simp only[aE,aA,aG,aB]at hc
   obtain⟨ax,_,l,_,rfl⟩:=hc;cases h
  ·split at hc
   ·rename_i x t ha ht
    obtain rfl:args = #[x]:=bI.1 ha;obtain rfl:ats = #[t]:=bI.1 ht;split at hc
    ·rename_i e hu
     simp only[aI]at hc;obtain⟨ax,hx,rfl⟩:=hc;exact WD hs hu hx hop h
    ·rename_i hu
     simp only[aI]at hc;obtain⟨ax,hx,rfl⟩:=hc;exact ND hs hu hx hop h
    ·cases hc
   ·cases hc
  ·split at hc
   ·rename_i x y ha
    obtain rfl:args = #[x,y]:=bI.1 ha;simp only[aE,aA,aG,aB]at hc;obtain⟨ax,h1,ay,h2,rfl⟩:=hc;exact WB hs h1 h2 hop h
   ·cases hc
  ·split at hc
   ·rename_i x y ha
    obtain rfl:args = #[x,y]:=bI.1 ha;simp only[aE,aA,aG,aB]at hc;obtain⟨ax,h1,ay,h2,rfl⟩:=hc;exact WC hs h1 h2 hop h
   ·cases hc
  ·split at hc
   ·rename_i x y t u ha ht
    obtain rfl:args = #[x,y]:=bI.1 ha;obtain rfl:ats = #[t,u]:=bI.1 ht;split at hc
    ·split at hc
     ·rename_i htu
      obtain rfl:=aF htu;simp only[aE,aA,aG,aB]at hc;obtain⟨e,h1,sz,h2,by_,h3,z,h4,ax,h5,ay,h6,rfl⟩:=hc;exact WJ hs hid (elem h1) h2 h3 h4 h5 h6 hop h
     ·cases hc
    ·rename_i hu
     simp only[aE,aA]at hc;obtain⟨e,h1,hc⟩:=hc;split at hc
     ·rename_i hb
      simp only[aA,aG,aB]at hc;obtain⟨ax,h5,ay,h6,rfl⟩:=hc;exact aJA hs hid (elem h1) hu hb h5 h6 hop h
     ·cases hc
    ·cases hc
   ·cases hc
  ·split at hc
   ·rename_i x t ha ht
    obtain rfl:args = #[x]:=bI.1 ha;obtain rfl:ats = #[t]:=bI.1 ht;split at hc
    ·rename_i e hu
     simp only[aI]at hc;obtain⟨ax,hx,rfl⟩:=hc;exact NK hs hu hx hop h
    ·cases hc
   ·cases hc
  ·split at hc
   ·rename_i x y t u ha ht
    obtain rfl:args = #[x,y]:=bI.1 ha;obtain rfl:ats = #[t,u]:=bI.1 ht;split at hc
    ·rename_i htu
     obtain rfl:=aF htu;simp only[aE,aA]at hc;obtain⟨e,h1,hc⟩:=hc;split at hc
     ·rename_i hb
      simp only[aA,aG,aB]at hc;obtain⟨ax,h5,ay,h6,rfl⟩:=hc;exact aJ5 hs (elem h1) hb h5 h6 hop h
     ·cases hc
    ·cases hc
   ·cases hc
  ·cases hc
 case panic x=>
  simp only[iW,aB]at hc;subst hc;cases h
 case makeInterface t x=>
  simp only[iW]at hc;split at hc
  ·cases hc
  ·rename_i d hd hu
   simp only[aI]at hc;obtain⟨ax,hx,rfl⟩:=hc;exact aJ0 hs hu (fun m e=>hd m e) hx hop h
  ·cases hc
 case typeAssert x xt t two=>
  simp only[iW]at hc;split at hc
  ·cases hc
  ·rename_i d hd hu
   simp only[aE,aA,aG,aB]at hc;obtain⟨z,hz,ax,hx,rfl⟩:=hc;exact aIW hs hu (fun m e=>hd m e) hz hx hop h
  ·cases hc
 case buildSlice t len ps=>
  simp only[iW,aE,aA,aG,aB]at hc;obtain⟨e,h1,sz,h2,z,h3,l,h4,rfl⟩:=hc
  have hu:P.underlying t=some (.slice e):=by
   unfold jF at h1;split at h1
   ·rename_i e' hu;injection h1 with h1;rw[hu,h1]
   ·cases h1
  exact WH hs hid hu h2 h3 h4 hop h
 case makeSlice t x y=>
  simp only[iW,aE,aA,aG,aB]at hc;obtain⟨e,h1,sz,h2,by_,h3,z,h4,ax,h5,ay,h6,rfl⟩:=hc
  have hu:P.underlying t=some (.slice e):=by
   unfold jF at h1;split at h1
   ·rename_i e' hu;injection h1 with h1;rw[hu,h1]
   ·cases h1
  exact MZ hs hid hu h2 h3 h4 h5 h6 hop h
 case makeMap t r=>
  cases r with
  |some x=>simp only[iW]at hc;cases hc
  |none=>
   simp only[iW,aI]at hc;obtain⟨k,_,rfl⟩:=hc;cases h;exact DS hs hid hop
 case makeFunc f fs cs=>
  simp only[iW,aE,aA,aG,aB]at hc;obtain⟨lf,h1,lc,h2,rfl⟩:=hc;exact NA hs h1 h2 hop h
 case lookup t x k two=>
  simp only[iW]at hc;split at hc
  ·rename_i kd e hm
   simp only[aE,aA,aG,aB]at hc;obtain⟨z,h1,ax,h2,ay,h3,rfl⟩:=hc;exact NB hs hm h1 h2 h3 hop h
  ·cases hc
 case mapUpdate t x k y=>
  simp only[iW]at hc;split at hc
  ·rename_i kd e hm
   simp only[aE,aA,aG,aB]at hc;obtain⟨ax,h2,ay,h3,az,h4,rfl⟩:=hc;exact MY hs hm h2 h3 h4 hop h
  ·cases hc
 case slice t x lo hi mx=>
  cases mx with
  |some m=>
   cases hi with
   |none=>simp only[iW]at hc;cases hc
   |some hi=>
    simp only[iW]at hc;split at hc
    ·rename_i el hu
     simp only[aE,aA,aG,aB]at hc;obtain⟨sz,h0,ax,h1,al,h2,ah,h3,am,h4,rfl⟩:=hc;exact aIY hs hu h0 h1 h2 h3 h4 hop h
    ·cases hc
  |none=>
   simp only[iW]at hc;split at hc
   ·simp only[aE,aA,aG,aB]at hc
    rename_i hu;obtain⟨ax,h1,al,h2,ah,h3,rfl⟩:=hc;exact MT hs hu h1 h2 h3 hop h
   ·simp only[aE,aA,aG,aB]at hc
    rename_i e hu;obtain⟨sz,h0,ax,h1,al,h2,ah,h3,rfl⟩:=hc;exact VY hs hu h0 h1 h2 h3 hop h
   ·rename_i n e hu2
    simp only[aE,aA,aG,aB]at hc;obtain⟨sz,h0,ax,h1,al,h2,ah,h3,rfl⟩:=hc;exact aIX hs hu2 h0 h1 h2 h3 hop h
   ·cases hc
end
open Go.AE (All2)
structure Gn (n:Nat) (β:Bt) (w:World) (β':Bt) (w':World):Prop extends Gr β w β' w' where
 nb:∀i,i<n→β' i=β i
theorem Gn.refl(n:Nat)(β:Bt)(w:World):Gn n β w β w:=⟨Gr.refl _ _,fun _ _=>rfl⟩
theorem Gn.trans{n n':Nat}{β β' β'':Bt}{w w' w'':World}(h:Gn n β w β' w')(k:Gn n' β' w' β'' w'')(hn:n≤n'):Gn n β w β'' w'':=⟨h.toGr.trans k.toGr,fun i hi=>(k.nb i (by omega)).trans (h.nb i hi)⟩
def pQ{α:Type}(U:Nat→Nat→Option α)(x0:Nat→α)(p:Nat→Bool):Nat→Nat→α
 |0,k=>x0 k
 |n+1,k=>if p n then (U n k).getD (pQ U x0 p n k) else pQ U x0 p n k
section
variable {α:Type} {U:Nat→Nat→Option α} {x0:Nat→α} {p q:Nat→Bool}
theorem nV:∀ {n k:Nat},(∀j,j<n→(U j k).isSome=true→p j=q j)→pQ U x0 p n k=pQ U x0 q n k
 |0,k,_=>rfl
 |n+1,k,h=>by
  have ih:=nV (n:=n) (k:=k) fun j hj=>h j (by omega)
  simp only[pQ,ih];cases hu:U n k with
  |none=>simp
  |some y=>rw[h n (by omega) (by rw[hu];rfl)]
theorem GO{i:Nat}{q:Nat→Bool}(hq:∀j,j≠i→q j=p j)(hi:q i=true):∀ {n k:Nat},i<n→(∀j,i<j→j<n→p j=true→(U j k).isSome=true→(U i k).isSome=false) →
  p i=false→pQ U x0 q n k=(U i k).getD (pQ U x0 p n k)
 |0,k,h,_,_=>by omega
 |n+1,k,h,h1,h3=>by
  simp only[pQ]
  by_cases e:i=n
  ·subst e
   rw[hi,h3]
   have:pQ U x0 q i k=pQ U x0 p i k:=nV fun j hj _=>hq j (by omega)
   rw[this];simp
  ·have ih:=GO hq hi (n:=n) (k:=k) (by omega) (fun j a b=>h1 j a (by omega)) h3
   rw[hq n (fun h=>e h.symm),ih];cases hp:p n with
   |false=>simp
   |true=>
    cases hu:U n k with
    |none=>simp
    |some y=>
     have hn:=h1 n (by omega) (by omega) hp (by rw[hu];rfl)
     cases hv:U i k with
     |none=>simp
     |some z=>rw[hv]at hn;cases hn
end
structure Rc where
 dst:Option Nat
 rs:Nat→Bool
 v:V
 up:Nat→Option O
 acc:Nat→Prop
 nw:Nat→Prop
def Rc.us(r:Rc)(k:Nat):Option V:=if r.dst=some k then some r.v else none
section
variable {F:Fence} {nn:Nat} {P:Program} {ops:Array Oper} {Q:Exit→Act→World→Prop} {rc:Nat→Rc} {t0:Nat→V} {h0:Nat→O} {N n0 nE m:Nat} {ds:List D} {anc:Nat→Nat→Prop} {β0:Bt} {w0:World}
def VB(rc:Nat→Rc)(t0:Nat→V)(h0:Nat→O)(nE m:Nat)(ds:List D)(N:Nat)(p:Nat→Bool):St:=⟨pQ (fun i=>(rc i).us) t0 p N,pQ (fun i=>(rc i).up) h0 p N,nE,m,ds⟩
theorem ZJ{β β':Bt}{st:St}{a:Act}{w w':World}(hs:eJ β st a w)(k:Gr β w β' w'){h':Nat→O}{n':Nat}(hh:HS β' w' h')(hf:∀i,n'≤i→β' i=none){x:V}{u:Value}(hv:VR β' x u)(d:Option Nat)(hd:∀j,d=some j→j<st.m) :
  eJ β' ⟨fun j=>if d=some j then x else st.t j,h',n',st.m,st.d⟩ (a.put d u) w':=by
 refine⟨?_,?_,?_,hh,hf,let ⟨N,hN⟩:=hs.gl;⟨N,k.bm _ _ hN⟩⟩
 ·have:(a.put d u).defers=a.defers:=by cases d<;>rfl
  rw[this];exact hs.df.mono fun _ _=>DR.keep k.bm
 ·have:(a.put d u).tmps.size=a.tmps.size:=by cases d<;>simp[Act.put]
  rw[this];exact hs.sz
 ·intro j
  cases d with
  |none=>exact VR.keep k.bm (hs.tm j)
  |some d=>
   have hdl:=hd d rfl
   rw[←hs.sz]at hdl
   show VR β' (if some d=some j then x else st.t j) ((a.tmps.setIfInBounds d u).getD j undef)
   by_cases e:d=j
   ·subst e
    rw[if_pos rfl];simpa[hdl] using hv
   ·rw[if_neg (by simpa using e)]
    have:=VR.keep k.bm (hs.tm j)
    simpa[cY e] using this
def aHR(F:Fence)(nn:Nat)(P:Program)(ops:Array Oper)(Q:Exit→Act→World→Prop)(rc:Nat→Rc)(t0:Nat→V)(h0:Nat→O)(N nE m:Nat)(ds:List D)(anc:Nat→Nat→Prop)(i:Nat):Prop:=
 ∀(t:Nat→V) (h:Nat→O) (a:Act) (w:World) (β:Bt),eJ β ⟨t,h,nE,m,ds⟩ a w→(∀k,(rc i).rs k=true→t k=(VB rc t0 h0 nE m ds N fun j=>decide (j<i)).t k)→(∀id,(rc i).acc id→h id=(VB rc t0 h0 nE m ds N fun j=>decide (j<i)).h id) →
  (∀j,i≤j→j<N→(j=i∨anc i j)→∀id,(rc j).nw id→β id=none)→∀K:Act→World→Prop,(∀u w' β',VR β' (rc i).v u→HS β' w' (fun id=>((rc i).up id).getD (h id))→Gr β w β' w'→(∀id,¬(rc i).nw id→β' id=β id)→K (a.put (rc i).dst u) w')→wpOpIn F nn P ops Q i K a w
structure LY (ops:Array Oper) (rc:Nat→Rc) (N n0 nE m:Nat) (anc:Nat→Nat→Prop):Prop where
 len:ops.size=N
 anc_:∀i j o,ops[j]?=some o→anc i j→∃e∈o.after,eW .any e=true∧e.on<j∧(e.on=i∨anc i e.on)
 back:∀i o,ops[i]?=some o→∀e∈o.after,eW .any e=true→e.on<i
 ind:∀i j,i<j→j<N→¬anc i j→(∀k,((rc i).us k).isSome=true→(rc j).rs k=false∧((rc j).us k).isSome=false)∧(∀k,((rc j).us k).isSome=true→(rc i).rs k=false) ∧
  (∀id,((rc i).up id).isSome=true→¬(rc j).acc id∧((rc j).up id).isSome=false)∧∀id,((rc j).up id).isSome=true→¬(rc i).acc id
 new:∀i j,i<N→j<N→i≠j→∀id,(rc i).nw id→¬(rc j).nw id
 newl:∀i,i<N→∀id,(rc i).nw id→n0≤id∧id<nE
 dl:∀i,i<N→∀d,(rc i).dst=some d→d<m
theorem HW(hok:LY ops rc N n0 nE m anc){listed:Array Bool}(inv:HeadInv .any ops N listed):∀(j:Nat) {i:Nat},j<N→listed.getD j false=true→anc i j→listed.getD i false=true:=by
 intro j;induction j using Nat.strongRecOn with
 |_ j ih=>
 intro i hj hl ha
 have hjs:j<ops.size:=by rw[hok.len];exact hj
 obtain⟨e,he,hb,hlt,h⟩:=hok.anc_ i j ops[j] (by simp[hjs]) ha
 have hle:=inv.closed j ops[j] (by simp[hjs]) hl e he hb
 rcases h with rfl|h
 ·exact hle
 ·exact ih e.on hlt (by omega) hle h
theorem VM(hok:LY ops rc N n0 nE m anc)(hstep:∀i,i<N→aHR F nn P ops Q rc t0 h0 N nE m ds anc i)
  (hQ:∀a w β,eJ β (VB rc t0 h0 nE m ds N fun _=>true) a w→Gn n0 β0 w0 β w→Q .normal a w) :
  ∀(f:Nat) (listed:Array Bool) (a:Act) (w:World) (β:Bt),AE.cnt listed N=f→HeadInv .any ops N listed→eJ β (VB rc t0 h0 nE m ds N fun j=>listed.getD j false) a w→Gn n0 β0 w0 β w →
   (∀j,j<N→listed.getD j false=false→∀id,(rc j).nw id→β id=none)→wpAnyIn F nn P .any ops Q f listed a w:=by
 intro f;induction f with
 |zero=>
  intro listed a w β hc inv hs hg hn
  have hall:=AE.cnt_zero hc
  refine⟨?_,hQ a w β ?_ hg⟩
  ·rw[List.eq_nil_iff_forall_not_mem]
   intro j hj;obtain⟨q1,oj,q2,_⟩:=mem_ready.1 hj
   have hjs:j<ops.size:=(aO.1 q2).1
   have:=hall j (by rw[←hok.len];exact hjs)
   rw[getD_both q1]at this;cases this
  ·have e:VB rc t0 h0 nE m ds N (fun j=>listed.getD j false)=VB rc t0 h0 nE m ds N fun _=>true:=by
     unfold VB;congr 1
     ·funext k;exact nV fun j hj _=>hall j hj
     ·funext k;exact nV fun j hj _=>hall j hj
   rwa [e]at hs
 |succ f ih=>
  intro listed a w β hc inv hs hg hn;obtain⟨i0,hi0,hu0,hb0⟩:=AE.cnt_pos (by omega:0<AE.cnt listed N)
  have hi0s:i0<ops.size:=by rw[hok.len];exact hi0
  have hr0:i0∈Region.ready .any ops listed:=mem_ready.2 ⟨getD_in (by rw[inv.size];exact hi0s) hu0,ops[i0],by simp[hi0s],fun e he hb=>hb0 e.on (hok.back i0 _ (by simp[hi0s]) e he hb)⟩
  refine⟨fun h=>(by rw[h]at hr0;cases hr0),fun i hi=>?_⟩;obtain⟨q1,o,q2,q3⟩:=mem_ready.1 hi
  have his:i<ops.size:=(aO.1 q2).1
  have hiN:i<N:=by rw[←hok.len];exact his
  have hun:=getD_both q1
  have hil:i<listed.size:=by rw[inv.size];exact his
  have d1:∀j,anc j i→listed.getD j false=true:=by
   intro j ha;obtain⟨e,he,hb,hlt,h⟩:=hok.anc_ j i o q2 ha
   have hle:=q3 e he hb
   rcases h with rfl|h
   ·exact hle
   ·exact HW hok inv e.on (by omega) hle h
  have d2:∀j,j<N→listed.getD j false=true→¬anc i j:=fun j hj hl ha=>by
   have:=HW hok inv j hj hl ha
   rw[hun]at this;cases this
  refine hstep i hiN _ _ a w β hs ?_ ?_ (fun j hij hj ha id hid=>?_) _ fun u w' β' hv hh hg' hb=>?_
  ·intro k hk
   refine nV fun j hj hu=>?_
   rcases Nat.lt_trichotomy j i with h|h|h
   ·simp only[h,decide_true]
    by_cases ha:anc j i
    ·exact d1 j ha
    ·have:=((hok.ind j i h hiN ha).1 k hu).1
     rw[hk]at this;cases this
   ·subst h;simp only[Nat.lt_irrefl,decide_false];exact hun
   ·simp only[show ¬j<i by omega,decide_false]
    cases hl:listed.getD j false with
    |false=>rfl
    |true=>
     have:=(hok.ind i j h hj (d2 j hj hl)).2.1 k hu
     rw[hk]at this;cases this
  ·intro id hk
   refine nV fun j hj hu=>?_
   rcases Nat.lt_trichotomy j i with h|h|h
   ·simp only[h,decide_true]
    by_cases ha:anc j i
    ·exact d1 j ha
    ·exact absurd hk ((hok.ind j i h hiN ha).2.2.1 id hu).1
   ·subst h;simp only[Nat.lt_irrefl,decide_false];exact hun
   ·simp only[show ¬j<i by omega,decide_false]
    cases hl:listed.getD j false with
    |false=>rfl
    |true=>exact absurd hk ((hok.ind i j h hj (d2 j hj hl)).2.2.2 id hu)
  ·refine hn j hj ?_ id hid
   rcases ha with rfl|ha
   ·exact hun
   ·cases hl:listed.getD j false with
    |false=>rfl
    |true=>exact absurd ha (d2 j hj hl)
  ·have hset:∀j,j≠i→(listed.setIfInBounds i true).getD j false=listed.getD j false:=fun j hj=>getD_set_ne false (fun e=>hj e.symm)
   have hsi:(listed.setIfInBounds i true).getD i false=true:=by simp[hil]
   refine ih _ _ w' β' (by have:=AE.cnt_set hil hun hiN;omega) (inv.set hi hiN) ?_ (hg.trans ⟨hg',fun id hid=>hb id fun q=>by have:=hok.newl i hiN id q;omega⟩ (aJ _)) ?_
   ·have hput:=ZJ hs hg' hh (n':=nE) (fun id hid=>by
      rw[hb id fun q=>by have:=hok.newl i hiN id q;omega]
      exact hs.fr id hid) hv (rc i).dst (hok.dl i hiN)
    have e:VB rc t0 h0 nE m ds N (fun j=>(listed.setIfInBounds i true).getD j false)=⟨fun j=>if (rc i).dst=some j then (rc i).v else (VB rc t0 h0 nE m ds N fun j=>listed.getD j false).t j,fun id=>((rc i).up id).getD ((VB rc t0 h0 nE m ds N fun j=>listed.getD j false).h id),nE,m,ds⟩:=by
     unfold VB;congr 1
     ·funext k
      rw[GO (p:=fun j=>listed.getD j false) hset hsi hiN (fun j hj hjn hl hu=>by
       cases hq:((rc i).us k).isSome with
       |false=>rfl
       |true=>
        have:=((hok.ind i j hj hjn (d2 j hjn hl)).1 k hq).2
        rw[hu]at this;cases this) hun]
      show ((rc i).us k).getD _=_
      unfold Rc.us
      by_cases e:(rc i).dst=some k
      ·rw[if_pos e,if_pos e];rfl
      ·rw[if_neg e,if_neg e];rfl
     ·funext k
      exact GO (p:=fun j=>listed.getD j false) hset hsi hiN (fun j hj hjn hl hu=>by
       cases hq:((rc i).up k).isSome with
       |false=>rfl
       |true=>
        have:=((hok.ind i j hj hjn (d2 j hjn hl)).2.2.1 k hq).2
        rw[hu]at this;cases this) hun
    rw[e];exact hput
   ·intro j hj hl id hid
    have hji:j≠i:=fun e=>by rw[e,hsi]at hl;cases hl
    rw[hset j hji]at hl;rw[hb id fun q=>hok.new i j hiN hj (fun e=>hji e.symm) id q hid];exact hn j hj hl id hid
end
open Go.AE (All2 iZ jJ)
structure EI where
 dst:Option Nat
 op:Option BW
 df:Option (X×List X)
 guard:Option (Nat×Bool)
 es:List Nat
inductive EC where
 |skip
 |reg (l:List EI)
 |dreg (l:List EI)
 |seq (a b:EC)
 |cond (x:X) (a b:EC)
 |block (id:Nat) (a:EC)
 |loop (a:EC)
 |exit (id:Nat)
 |ret
 |rfun (x:X) (ps:List Nat) (assign body:Code)
 |bad
def nZ(ops:Array Oper):Option (Nat×Bool)→Option (Option (Nat×Bool))
 |none=>some none
 |some (j,want)=>((ops[j]?).bind (·.dst)).map fun d=>some (d,want)
def aD7:Op→Option (X×List X)
 |.defer c=>match c.callee with
  |.value x=>do pure (←cX x,←yD c.args.toList)
  |_=>none
 |_=>none
def LM(o:Oper):List Nat:=(o.after.toList.filter fun e=>eW .any e).map (·.on)
def lU(P:Program)(ops:Array Oper)(o:Oper):Option EI:=do
 pure ⟨o.dst,iW P o.op,aD7 o.op,←nZ ops o.guard,LM o⟩
def gB(P:Program)(ops:Array Oper):List Oper→Option (List EI)
 |[]=>some []
 |o::r=>do pure ((←lU P ops o)::(←gB P ops r))
def dJ(P:Program):Code→EC
 |.skip=>.skip
 |.region _ ops draw=>match gB P ops ops.toList,draw with
  |some l,false=>.reg l
  |some l,true=>match P.follows .mixedOrders with
   |true=>.dreg l
   |false=>.bad
  |none,_=>.bad
 |.seq a b=>.seq (dJ P a) (dJ P b)
 |.cond x a b=>match cX x with
  |some x=>.cond x (dJ P a) (dJ P b)
  |none=>.bad
 |.block id a=>.block id (dJ P a)
 |.loop a=>.loop (dJ P a)
 |.exit id=>.exit id
 |.ret=>.ret
 |.scope a=>dJ P a
 |.label _=>.skip
 |.rangeFunc f ps assign body=>match cX f with
  |some x=>.rfun x ps.toList assign body
  |none=>.bad
 |_=>.bad
inductive AR where
 |tmp (t:Nat)
 |cell (t:Nat) (n:Option Nat)
def pA(P:Program):List ResultVar→Option (List AR)
 |[]=>some []
 |.tmp t::r=>(pA P r).map (.tmp t :: ·)
 |.cell t ty::r=>do pure (.cell t (←iZ P ty)::(←pA P r))
structure FnC where
 m:Nat
 code:EC
 res:List AR
def cFn(P:Program)(fn:Func):Option FnC:=match fn.body,pA P fn.results.toList,fn.name != "runtime.NumGoroutine" with
 |some c,some rs,true=>some ⟨fn.ntmps,dJ P c,rs⟩
 |_,_,_=>none
noncomputable def tab(P:Program)(f:Nat):Option FnC:=aZ none (mp (cFn P) P.funcs.toList) f
inductive Ex where
 |normal
 |exit (id:Nat)
 |ret
structure TS where
 t:T V
 h:T O
 n:Nat
 d:List D
inductive Cl where
 |fn (f:FuncId)
 |yl (id:Nat)
abbrev mX:=Cl→List V→T O→Nat→Option (V×T O×Nat)
noncomputable def gV(t:T V):Nat→V:=get (.t []) t
noncomputable def gO(h:T O):Nat→O:=get .gone h
noncomputable def put(m:Nat)(t:T V)(dst:Option Nat)(v:V):Option (T V):=match dst with
 |none=>some t
 |some k=>match dU (cN k m) (cN k 16777000) with
  |true=>some (set (.t []) v 24 k t)
  |false=>none
noncomputable def jN(id:Nat)(o:O)(h:T O):T O:=set .gone o 24 id h
noncomputable def TN(h:T O)(n:Nat):pX→Option (T O×Nat)
 |.no=>some (h,n)
 |.wr id o=>match dU (bP 1 id) (cN id 16777000) with
  |true=>some (jN id o h,n)
  |false=>none
 |.nw o=>match dU (bP 1 n) (cN n 16777000) with
  |true=>some (jN n o h,iA n)
  |false=>none
 |.ap id o=>match dU (dU (bP 1 id) (cN id 16777000)) (dU (bP 1 n) (cN n 16777000)) with
  |true=>some (jN n o (jN id .gone h),iA n)
  |false=>none
def fV(x:F):V:=.c (.f x)
def SD(P:Program)(t:TypeId)(name:String):Option FuncId:=match P.underlying t,P.info? t with
 |some (.pointer _),some i=>match i.methods.find? (·.name==name) with
  |some m=>match m.path.toList,m.func with
   |[],some (f,true)=>some f
   |_,_=>none
  |none=>none
 |_,_=>none
def aLW(P:Program)(t:TypeId):Bool:=match P.underlying t with
 |some (.interface _)=>true
 |_=>false
noncomputable def pU(P:Program)(t:Nat→V):BW→Option (Cl×List V)
 |.call f args=>some (.fn f,LF t args)
 |.callv x args=>match ev t x with
  |.c (.fn (.func f) first cap)=>some (.fn f,ap (mp fV first) (ap (LF t args) (mp fV cap)))
  |.c (.f (.yld id))=>some (.yl id,LF t args)
  |.c (.fn (.methodOf ty name) [] [])=>match aLW P ty,LF t args with
   |true,.c (.ifc dt y)::r=>match SD P dt name with
    |some f=>some (.fn f,fV y::r)
    |none=>none
   |_,_=>none
  |_=>none
 |.inv x name args=>match ev t x with
  |.c (.ifc dt y)=>match SD P dt name with
   |some f=>some (.fn f,fV y::LF t args)
   |none=>none
  |_=>none
 |_=>none
def OH:BW→Bool
 |.call .. => true
 |.callv .. => true
 |.inv .. => true
 |_=>false
def QS:F→Bool
 |.b _=>true
 |.i _ _=>true
 |.s _=>true
 |.z _=>true
 |_=>false
noncomputable def xE:C→Bool
 |.f x=>QS x
 |.fn _ fs cs=>dU (all QS fs) (all QS cs)
 |.ifc _ x=>QS x
 |.top=>true
noncomputable def aLR:W→Bool
 |.c x=>xE x
 |.a cs=>all xE cs
noncomputable def oQ:V→Bool
 |.c x=>xE x
 |.a cs=>all xE cs
 |.t vs=>all aLR vs
noncomputable def aLS:O→Bool
 |.blk _ _ vs=>all xE vs
 |.glb _ vs=>all xE vs
 |_=>false
def VS(P:Program):Nat→TypeId→Bool
 |0,_=>false
 |n+1,t=>match P.underlying t with
  |some .bool=>true
  |some (.int _)=>true
  |some .string=>true
  |some (.struct fs)=>fs.toList.all fun f=>VS P n f.type
  |some (.array _ e)=>VS P n e
  |_=>false
noncomputable def prF(P:Program)(f:Nat):Bool:=aZ false (mp (fun fn=>fn.resultTypes.toList.all (VS P 6)) P.funcs.toList) f
noncomputable def BK(P:Program)(G:mX)(cl:Cl)(args:List V)(h:T O):Option V:=match cl with
 |.fn f=>match dU (prF P f) (dU (aLS (gO h 0)) (all oQ args)) with
  |true=>match G (.fn f) args (jN 0 (gO h 0) .e) 1 with
   |some r=>match oQ r.1 with
    |true=>some r.1
    |false=>none
   |none=>none
  |false=>none
 |.yl _=>none
noncomputable def goM(P:Program)(G:mX):mX:=fun cl args h n=>match BK P G cl args h with
 |some v=>some (v,h,n)
 |none=>G cl args h n
def aKR:F→List Nat
 |.ptr id _=>[id]
 |.sl _ id _ _ _=>[id]
 |.mp id=>[id]
 |.yld id=>[id]
 |_=>[]
noncomputable def HF{α:Type}(f:α→List Nat)(l:List α):List Nat:=dV (motive:=fun _=>List Nat) [] (fun x _ ih=>match f x with
 |[]=>ih
 |r=>ap r ih) l
noncomputable def AZ:C→List Nat
 |.f x=>aKR x
 |.fn _ fs cs=>ap (HF aKR fs) (HF aKR cs)
 |.ifc _ x=>aKR x
 |.top=>[]
noncomputable def aQH:W→List Nat
 |.c x=>AZ x
 |.a cs=>HF AZ cs
noncomputable def aQI:V→List Nat
 |.c x=>AZ x
 |.a cs=>HF AZ cs
 |.t vs=>HF aQH vs
noncomputable def aUT:O→List Nat
 |.blk _ _ vs=>HF AZ vs
 |.rdb _ vs=>HF AZ vs
 |.glb _ vs=>HF AZ vs
 |.map _ es=>HF (fun p=>aQH p.2) es
 |_=>[]
noncomputable def dfs(h:T O)(fuel:Nat):List Nat→T Bool→List Nat→List Nat:=Nat.rec (motive:=fun _=>List Nat→T Bool→List Nat→List Nat) (fun _ _ acc=>acc)
 (fun _ ih work marks acc=>match work with
  |[]=>acc
  |id::r=>match get false marks id with
   |true=>ih r marks acc
   |false=>ih (ap (aUT (gO h id)) r) (set false true 24 id marks) (id::acc)) fuel
noncomputable def mkT(B:List Nat):T Bool:=dV (motive:=fun _=>T Bool) .e (fun id _ ih=>set false true 24 id ih) B
section
variable (M:T Bool)
noncomputable def inF:F→Bool
 |.ptr id _=>get false M id
 |.sl _ id _ _ _=>get false M id
 |.mp id=>get false M id
 |.yld _=>false
 |_=>true
noncomputable def PN:C→Bool
 |.f x=>inF M x
 |.fn _ fs cs=>dU (all (inF M) fs) (all (inF M) cs)
 |.ifc _ x=>inF M x
 |.top=>true
noncomputable def inW:W→Bool
 |.c x=>PN M x
 |.a cs=>all (PN M) cs
noncomputable def inV:V→Bool
 |.c x=>PN M x
 |.a cs=>all (PN M) cs
 |.t vs=>all (inW M) vs
noncomputable def inO:O→Bool
 |.blk _ _ vs=>all (PN M) vs
 |.rdb _ vs=>all (PN M) vs
 |.glb _ vs=>all (PN M) vs
 |.map _ es=>all (fun p=>inW M p.2) es
 |.sit _ _=>true
 |_=>false
end
noncomputable def okB(B:List Nat)(M:T Bool)(h:T O)(n:Nat)(args:List V):Bool:=dU (get false M 0) (dU (all (inV M) args) (all (fun id=>dU (cN id n) (dU (cN id 16777000) (inO M (gO h id)))) B))
noncomputable def qU(h':T O)(B:List Nat)(h:T O):T O:=dV (motive:=fun _=>T O) h (fun id _ ih=>jN id (gO h' id) ih) B
noncomputable def QH(k:Nat):Nat→List Nat:=Nat.rec (motive:=fun _=>Nat→List Nat) (fun _=>[]) (fun _ ih n=>n::ih (iA n)) k
def eqZ:Value→Value→Bool
 |.slice none 0 0,.slice none 0 0=>true
 |.pointer none,.pointer none=>true
 |.map none,.map none=>true
 |.nilFunc,.nilFunc=>true
 |.nilIface,.nilIface=>true
 |_,_=>false
def eqF:F→F→Bool
 |.b x,.b y=>match x,y with
  |true,true=>true
  |false,false=>true
  |_,_=>false
 |.i k m,.i k2 m2=>dU (decide (k=k2)) (UT m m2)
 |.s l,.s l2=>YI l l2
 |.z u,.z u2=>eqZ u u2
 |.ptr i o,.ptr i2 o2=>dU (aT i i2) (aT o o2)
 |.sl true i s o l,.sl true i2 s2 o2 l2=>dU (dU (aT i i2) (aT s s2)) (dU (aT o o2) (aT l l2))
 |.sl false i s o l,.sl false i2 s2 o2 l2=>dU (dU (aT i i2) (aT s s2)) (dU (aT o o2) (aT l l2))
 |.mp i,.mp i2=>aT i i2
 |_,_=>false
def eqC:C→C→Bool
 |.f x,.f y=>eqF x y
 |.ifc t x,.ifc t2 y=>dU (aT t t2) (eqF x y)
 |.fn (.func f) [] [],.fn (.func f2) [] []=>aT f f2
 |_,_=>false
noncomputable def OZ(a:List C):List C→Bool:=dV (motive:=fun _=>List C→Bool) (fun b=>match b with|[]=>true|_=>false) (fun x _ ih b=>match b with
  |y::b=>match eqC x y with
   |true=>ih b
   |false=>false
  |[]=>false) a
noncomputable def eqO:O→O→Bool
 |.blk true t a,.blk true t2 b=>dU (aT t t2) (OZ a b)
 |.blk false t a,.blk false t2 b=>dU (aT t t2) (OZ a b)
 |.rdb t a,.rdb t2 b=>dU (aT t t2) (OZ a b)
 |_,_=>false
noncomputable def IT(h h':T O)(B:List Nat):List Nat:=dV (motive:=fun _=>List Nat) [] (fun id _ ih=>match aT id 0 with
 |true=>ih
 |false=>match eqO (gO h id) (gO h' id) with
  |true=>ih
  |false=>id::ih) B
structure LR where
 v:V
 h:T O
 n:Nat
 B:List Nat
 wr:List Nat
noncomputable def FP(G:mX)(cl:Cl)(args:List V)(h:T O)(n:Nat):Option LR:=match cl with
 |.fn f=>(fun B=>match okB B (mkT B) h n args with
  |true=>match G (.fn f) args (qU h B .e) n with
   |some r=>match cN r.2.2 16777000 with
    |true=>(fun wr=>some ⟨r.1,qU r.2.1 wr h,r.2.2,B,wr⟩) (ap (IT h r.2.1 B) (QH (Nat.sub r.2.2 n) n))
    |false=>none
   |none=>none
  |false=>none) (dfs h 100000 (0::HF aQI args) .e [])
 |.yl _=>none
noncomputable def aQA(b:Bool)(G:mX)(cl:Cl)(args:List V)(h:T O)(n:Nat):Option LR:=match b with
 |true=>FP G cl args h n
 |false=>none
noncomputable def aEJ(P:Program)(G:mX)(m:Nat)(ei:EI)(ts:TS):Option TS:=match ei.op with
 |some op=>match OH op with
  |true=>match pU P (gV ts.t) op with
   |some ca=>match goM P G ca.1 ca.2 ts.h ts.n with
    |some r=>match put m ts.t ei.dst r.1 with
     |some t=>some ⟨t,r.2.1,r.2.2,ts.d⟩
     |none=>none
    |none=>none
   |none=>none
  |false=>match mH (gV ts.t) (gO ts.h) ts.n op with
   |some r=>match TN ts.h ts.n r.2 with
    |some hn=>match put m ts.t ei.dst r.1 with
     |some t=>some ⟨t,hn.1,hn.2,ts.d⟩
     |none=>none
    |none=>none
   |none=>none
 |none=>none
noncomputable def QJ(P:Program)(m:Nat)(ei:EI)(x:X)(xs:List X)(ts:TS):Option TS:=match ev (gV ts.t) x with
 |.c (.fn (.func f) first cap)=>match put m ts.t ei.dst (.t []) with
  |some t=>some ⟨t,ts.h,ts.n,.cal f (ap (mp fV first) (ap (LF (gV ts.t) xs) (mp fV cap)))::ts.d⟩
  |none=>none
 |_=>none
noncomputable def wT(t:T V):Option (Nat×Bool)→Option Bool
 |none=>some true
 |some (j,want)=>match gV t j with
  |.c (.f (.b x))=>match want with
   |true=>some x
   |false=>some (sR x)
  |.t []=>some false
  |_=>none
noncomputable def vM(P:Program)(G:mX)(ρ:Option Nat)(m:Nat)(ei:EI)(ts:TS):Option TS:=match wT ts.t ei.guard with
 |some true=>match ei.df,ρ with
  |none,_=>aEJ P G m ei ts
  |some (x,xs),none=>QJ P m ei x xs ts
  |some _,some _=>none
 |some false=>match put m ts.t ei.dst (.t []) with
  |some t=>some ⟨t,ts.h,ts.n,ts.d⟩
  |none=>none
 |none=>none
noncomputable def QM(f:EI→TS→Option TS)(l:List EI):TS→Option TS:=dV (motive:=fun _=>TS→Option TS) (fun ts=>some ts) (fun ei _ ih ts=>match f ei ts with
 |some s=>ih s
 |none=>none) l
def X.sl:X→List Nat
 |.t j=>[j]
 |.k _=>[]
noncomputable def AW(xs:List X):List Nat:=dV (motive:=fun _=>List Nat) [] (fun x _ ih=>ap x.sl ih) xs
noncomputable def QG(ps:List (Nat×Nat×X)):List Nat:=dV (motive:=fun _=>List Nat) [] (fun x _ ih=>ap x.2.2.sl ih) ps
def slO:Option X→List Nat
 |some x=>x.sl
 |none=>[]
noncomputable def BW.sls:BW→List Nat
 |.mv x|.box _ x|.load _ x|.not x|.neg x|.faddr _ x|.fld _ _ x|.extr x _|.lenA x|.lenS x|.nilc x|.nils _ x|.nilm _ x|.conv _ x|.negw _ x|.capn x|.mkif _ x|.tass _ _ _ x|.s2b _ x|.b2s x|.clr _ _ x|.rng x|.nxt x=>x.sl
 |.bin _ x y|.binw _ _ x y|.binb _ x y|.eqs _ _ x y|.fadI _ _ x y|.idxA _ x y|.idxS x y|.min x y|.max x y|.app _ _ _ _ x y|.appS _ x y|.eqp _ x y|.store _ x y|.mksl _ _ _ _ x y|.look _ _ _ x y|.copy _ x y|.idxV _ _ _ x y=>ap x.sl y.sl
 |.pick c a b|.carry _ c a b|.mset _ c a b=>ap c.sl (ap a.sl b.sl)
 |.build _ ps|.bsl _ _ _ _ ps=>QG ps
 |.call _ xs=>AW xs
 |.callv x xs|.inv x _ xs=>ap x.sl (AW xs)
 |.slc3 _ x lo hi mx=>ap x.sl (ap (slO lo) (ap hi.sl mx.sl))
 |.slc _ x lo hi|.slcS x lo hi|.slcP _ _ x lo hi=>ap x.sl (ap (slO lo) (slO hi))
 |.mkfn _ fs cs=>ap (AW fs) (AW cs)
 |.alloc .. | .mkmap .. | .dead=>[]
noncomputable def EI.sls(ei:EI):List Nat:=ap (match ei.guard with|some (j,_)=>[j]|none=>[]) (match ei.op with|some op=>op.sls|none=>[])
def GD:V→List Nat
 |.c (.f (.ptr id _))=>[id]
 |.c (.f (.sl _ id _ _ _))=>[id]
 |.c (.f (.mp id))=>[id]
 |_=>[]
noncomputable def aR7(t:Nat→V):BW→List Nat
 |.load _ x=>GD (ev t x)
 |.nxt x=>GD (ev t x)
 |.store _ x _=>GD (ev t x)
 |.app _ _ _ _ x y=>ap (GD (ev t x)) (GD (ev t y))
 |.appS _ x _=>GD (ev t x)
 |.look _ _ _ x _=>GD (ev t x)
 |.mset _ x _ _=>GD (ev t x)
 |.copy _ x y=>ap (GD (ev t x)) (GD (ev t y))
 |.slcP _ _ x _ _=>GD (ev t x)
 |.b2s x=>GD (ev t x)
 |_=>[]
def rV(n:Nat):pX→List Nat
 |.no=>[]
 |.wr id _=>[id]
 |.nw _=>[n]
 |.ap id _=>[id,n]
structure Re where
 acc:Option (List Nat)
 wr:Option (List Nat)
noncomputable def ZH(P:Program)(G:mX)(loc:Bool)(m:Nat)(ei:EI)(ts:TS):Option (TS×Re):=match wT ts.t ei.guard,ei.df with
 |some true,none=>match ei.op with
  |some op=>match OH op with
   |true=>match pU P (gV ts.t) op with
    |some ca=>match BK P G ca.1 ca.2 ts.h with
     |some v=>match put m ts.t ei.dst v with
      |some t=>some (⟨t,ts.h,ts.n,ts.d⟩,⟨some [0],some []⟩)
      |none=>none
     |none=>match aQA loc G ca.1 ca.2 ts.h ts.n with
      |some r=>match put m ts.t ei.dst r.v with
       |some t=>some (⟨t,r.h,r.n,ts.d⟩,⟨some r.B,some r.wr⟩)
       |none=>none
      |none=>match G ca.1 ca.2 ts.h ts.n with
       |some r=>match put m ts.t ei.dst r.1 with
        |some t=>some (⟨t,r.2.1,r.2.2,ts.d⟩,⟨none,none⟩)
        |none=>none
       |none=>none
    |none=>none
   |false=>match mH (gV ts.t) (gO ts.h) ts.n op with
    |some r=>match TN ts.h ts.n r.2 with
     |some hn=>match put m ts.t ei.dst r.1 with
      |some t=>some (⟨t,hn.1,hn.2,ts.d⟩,⟨some (aR7 (gV ts.t) op),some (rV ts.n r.2)⟩)
      |none=>none
     |none=>none
    |none=>none
  |none=>none
 |some false,none=>match put m ts.t ei.dst (.t []) with
  |some t=>some (⟨t,ts.h,ts.n,ts.d⟩,⟨some [],some []⟩)
  |none=>none
 |_,_=>none
noncomputable def aER(f:EI→TS→Option (TS×Re))(l:List EI):TS→Option (TS×List Re):=dV (motive:=fun _=>TS→Option (TS×List Re)) (fun ts=>some (ts,[])) (fun ei _ ih ts=>match f ei ts with
 |some s=>match ih s.1 with
  |some r=>some (r.1,s.2::r.2)
  |none=>none
 |none=>none) l
noncomputable def oM(s:Nat)(l:List Nat):Bool:=dV (motive:=fun _=>Bool) false (fun x _ ih=>match aT x s with|true=>true|false=>ih) l
noncomputable def aLD(a b:List Nat):Bool:=dV (motive:=fun _=>Bool) true (fun x _ ih=>match oM x b with|true=>false|false=>ih) a
noncomputable def aH4(a b:Option (List Nat)):Bool:=match a,b with
 |some [],_=>true
 |_,some []=>true
 |some a,some b=>aLD a b
 |_,_=>false
noncomputable def aLE(d:Option Nat)(l:List Nat):Bool:=match d with
 |some d=>sR (oM d l)
 |none=>true
def neD(a b:Option Nat):Bool:=match a,b with
 |some a,some b=>sR (aT a b)
 |_,_=>true
noncomputable def aOA(x y:EI):Bool:=dU (aLE x.dst y.sls) (dU (aLE y.dst x.sls) (neD x.dst y.dst))
noncomputable def aG7(x y:Re):Bool:=dU (aH4 x.wr y.acc) (dU (aH4 x.wr y.wr) (aH4 y.wr x.acc))
noncomputable def HV(l:List EI):List Nat:=dV (motive:=fun _=>List Nat→List Nat) (fun acc=>acc) (fun ei _ ih acc=>
 ih (ap acc [dV (motive:=fun _=>Nat) 0 (fun e _ r=>Nat.lor (Nat.lor (Nat.shiftLeft 1 e) (aZ 0 acc e)) r) ei.es])) l []
noncomputable def YS{α:Type}(f:α→Bool)(a:Nat)(l:List α):Nat→Bool:=dV (motive:=fun _=>Nat→Bool) (fun _=>true) (fun x _ ih i=>match Nat.land (Nat.shiftRight a i) 1 with
 |0=>match f x with
  |true=>ih (iA i)
  |false=>false
 |_=>ih (iA i)) l
noncomputable def AC{α:Type}(f:α→α→Bool)(l:List α)(an:List Nat):List α→Bool:=dV (motive:=fun _=>List Nat→List α→Bool) (fun _ _=>true) (fun y _ ih an pre=>match an with
 |a::an=>match YS (fun x=>f x y) a pre 0 with
  |true=>ih an (ap pre [y])
  |false=>false
 |[]=>false) l an
noncomputable def aQZ(l:List EI):Bool:=dV (motive:=fun _=>Nat→Bool) (fun _=>true) (fun ei _ ih i=>match all (fun e=>cN e i) ei.es with
 |true=>ih (iA i)
 |false=>false) l 0
noncomputable def okS(l:List EI):Bool:=dU (aQZ l) (AC aOA l (HV l) [])
def BW.plain:BW→Bool
 |.mv .. | .pick .. | .build .. | .bin .. | .binw .. | .binb .. | .eqs .. | .not .. | .neg .. | .faddr .. | .fadI .. | .fld .. | .idxA .. | .idxS .. | .extr .. | .lenA .. | .lenS .. | .min .. | .max .. | .slc .. | .slcS .. | .slc3 .. | .mkfn .. | .nilc .. | .eqp .. | .nils .. | .nilm .. | .conv .. | .negw .. | .carry .. | .capn .. | .mkif .. | .tass .. | .idxV .. | .dead=>true
 |_=>false
def EI.isC(ei:EI):Bool:=match ei.op with
 |some op=>OH op
 |none=>false
def EI.plain(ei:EI):Bool:=match ei.op with
 |some op=>op.plain
 |none=>true
noncomputable def BL(l:List EI):Bool:=sR (AC (fun x y=>match x.isC with
 |true=>y.plain
 |false=>match y.isC with
  |true=>x.plain
  |false=>true) l (HV l) [])
noncomputable def aET(rs:List Re):Bool:=all (fun r=>match r.wr with|some []=>true|_=>false) rs
noncomputable def LO(P:Program)(G:mX)(loc:Bool)(m:Nat)(l:List EI)(ts:TS):Option TS:=match aER (ZH P G loc m) l ts with
 |some r=>match aET r.2 with
  |true=>some r.1
  |false=>match AC aG7 r.2 (HV l) [] with
   |true=>some r.1
   |false=>none
 |none=>none
noncomputable def GR(args:List V):Nat→T V→T V:=dV (motive:=fun _=>Nat→T V→T V) (fun _ t=>t) (fun v _ ih k t=>ih (iA k) (set (.t []) v 24 k t)) args
noncomputable def OX(m:Nat)(ps:List Nat):List V→T V→Option (T V):=dV (motive:=fun _=>List V→T V→Option (T V)) (fun vs t=>match vs with|[]=>some t|_=>none)
  (fun p _ ih vs t=>match vs with
   |v::vs=>match put m t (some p) v with
    |some t=>ih vs t
    |none=>none
   |[]=>none) ps
noncomputable def aOR(t:T V)(x:X):Option (FuncId×List F×List F):=match ev (gV t) x with
 |.c (.fn (.func f) first cap)=>some (f,first,cap)
 |_=>none
def aQD:Option Code→Option Ex
 |none=>some .normal
 |some .ret=>some .ret
 |some (.exit id)=>some (.exit id)
 |_=>none
noncomputable def aIS(ρ:Option Nat)(ts:TS):Option (Nat×T O×Nat×List D):=match ρ with
 |none=>some (ts.n,jN ts.n .dfr ts.h,iA ts.n,D.col ts.n::ts.d)
 |some l=>match gO ts.h l with
  |.loop L=>some (L.dr,ts.h,ts.n,ts.d)
  |_=>none
noncomputable def runR(P:Program)(G:mX)(ρ:Option Nat)(m:Nat)(x:X)(ps:List Nat)(assign body:Code)(ts:TS):Option (Ex×TS):=match aOR ts.t x with
 |some (f,first,cap)=>match aIS ρ ts with
  |some (dr,h1,id,d1)=>match dU (bP 1 ts.n) (cN id 16777000) with
   |true=>match G (.fn f) (ap (mp fV first) (.c (.f (.yld id))::mp fV cap)) (jN id (.loop ⟨.ready,none,ts.t,m,ps,assign,body,dr⟩) h1) (iA id) with
    |some (_,h2,n2)=>match gO h2 id with
     |.loop L=>match L.st with
      |.busy=>none
      |_=>match aQD L.pend with
       |some e=>some (e,⟨ts.t,jN id (.loop { L with st:=.exhausted }) h2,n2,d1⟩)
       |none=>none
     |_=>none
    |none=>none
   |false=>none
  |none=>none
 |none=>none
noncomputable def exec(P:Program)(G:mX)(ρ:Option Nat)(m:Nat)(n:Nat):EC→TS→Option (Ex×TS):=Nat.rec (motive:=fun _=>EC→TS→Option (Ex×TS)) (fun _ _=>none)
 (fun _ ih c ts=>match c with
  |.skip=>some (.normal,ts)
  |.reg l=>match QM (vM P G ρ m) l ts with
   |some s=>some (.normal,s)
   |none=>none
  |.dreg l=>match okS l with
   |true=>match LO P G (BL l) m l ts with
    |some r=>some (.normal,r)
    |none=>none
   |false=>none
  |.seq a b=>match ih a ts with
   |some r=>match r.1 with
    |.normal=>ih b r.2
    |e=>some (e,r.2)
   |none=>none
  |.cond x a b=>match ev (gV ts.t) x with
   |.c (.f (.b v))=>match v with
    |true=>ih a ts
    |false=>ih b ts
   |_=>none
  |.block id a=>match ih a ts with
   |some r=>match r.1 with
    |.exit j=>match aT j id with
     |true=>some (.normal,r.2)
     |false=>some (.exit j,r.2)
    |e=>some (e,r.2)
   |none=>none
  |.loop a=>match ih a ts with
   |some r=>match r.1 with
    |.normal=>ih (.loop a) r.2
    |e=>some (e,r.2)
   |none=>none
  |.exit id=>some (.exit id,ts)
  |.ret=>some (.ret,ts)
  |.rfun x ps assign body=>runR P G ρ m x ps assign body ts
  |.bad=>none) n
noncomputable def IF(t:T V)(h:T O):AR→Option W
 |.tmp k=>asW (gV t k)
 |.cell k n=>match gV t k with
  |.c (.f (.ptr id off))=>match gO h id with
   |.blk _ _ vs=>match bP (gM off (jJ n)) (len vs) with
    |true=>asW (FT vs off n)
    |false=>none
   |_=>none
  |_=>none
noncomputable def VJ(t:T V)(h:T O)(rs:List AR):Option (List W):=dV (motive:=fun _=>Option (List W)) (some []) (fun r _ ih=>match IF t h r,ih with
 |some v,some l=>some (v::l)
 |_,_=>none) rs
def vI:List W→V
 |[v]=>v.up
 |vs=>.t vs
noncomputable def HL(P:Program)(n:Nat)(G:mX)(f:FuncId)(args:List V)(h:T O)(nn:Nat):Option (FnC×TS):=match tab P f with
 |some c=>match dU (bP (len args) c.m) (cN (len args) 16777000) with
  |true=>match exec P G none c.m n c.code ⟨GR args 0 .e,h,nn,[]⟩ with
   |some r=>match r.1 with
    |.exit _=>none
    |_=>some (c,r.2)
   |none=>none
  |false=>none
 |none=>none
noncomputable def FS(P:Program)(n:Nat)(G:mX)(ds:List D):T O→Nat→Option (T O×Nat):=dV (motive:=fun _=>T O→Nat→Option (T O×Nat)) (fun h nn=>some (h,nn))
 (fun d _ ih h nn=>match d with
  |.col id=>match gO h id with
   |.dfr=>match dU (bP 1 id) (cN id 16777000) with
    |true=>ih (jN id .gone h) nn
    |false=>none
   |_=>none
  |.cal f vs=>match HL P n G f vs h nn with
   |some r=>match r.2.d,VJ r.2.t r.2.h r.1.res with
    |[],some _=>ih r.2.h r.2.n
    |_,_=>none
   |none=>none) ds
noncomputable def VI(P:Program)(n:Nat)(G:mX)(f:FuncId)(args:List V)(h:T O)(nn:Nat):Option (V×T O×Nat):=match HL P n G f args h nn with
 |some r=>match FS P n G r.2.d r.2.h r.2.n with
  |some hn=>match VJ r.2.t hn.1 r.1.res with
   |some vs=>some (vI vs,hn.1,hn.2)
   |none=>none
  |none=>none
 |none=>none
noncomputable def aBN(P:Program)(n:Nat)(G:mX)(id:Nat)(args:List V)(h:T O)(nn:Nat):Option (V×T O×Nat):=match gO h id with
 |.loop L=>match OX L.m L.ps args L.tm,dU (bP 1 id) (cN id 16777000) with
  |some t,true=>match exec P G (some id) L.m n (dJ P L.assign) ⟨t,h,nn,[]⟩ with
   |some r=>match r.1,gO r.2.h id with
    |.normal,.loop L1=>match L1.st with
     |.ready=>match exec P G (some id) L.m n (dJ P L.body) ⟨r.2.t,jN id (.loop { L1 with st:=.busy }) r.2.h,r.2.n,r.2.d⟩ with
      |some q=>match gO q.2.h id with
       |.loop L2=>match q.1 with
        |.normal=>some (.c (.f (.b true)),jN id (.loop { L2 with st:=.ready,pend:=none }) q.2.h,q.2.n)
        |.ret=>some (.c (.f (.b false)),jN id (.loop { L2 with st:=.done,pend:=some .ret }) q.2.h,q.2.n)
        |.exit j=>some (.c (.f (.b false)),jN id (.loop { L2 with st:=.done,pend:=some (.exit j) }) q.2.h,q.2.n)
       |_=>none
      |none=>none
     |_=>none
    |_,_=>none
   |none=>none
  |_,_=>none
 |_=>none
noncomputable def go(P:Program)(n:Nat)(d:Nat):mX:=Nat.rec (motive:=fun _=>mX) (fun _ _ _ _=>none) (fun _ G cl args h nn=>match cl with
 |.fn f=>VI P n G f args h nn
 |.yl id=>aBN P n G id args h nn) d
end Go.CE
