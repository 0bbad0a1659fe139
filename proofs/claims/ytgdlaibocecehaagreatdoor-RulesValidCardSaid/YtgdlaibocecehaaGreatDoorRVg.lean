import Derived.Test.YtgdlaibocecehaaGreatDoorRVf
import Derived.Laws.RangeString
import Derived.Laws.IdiomCopy
import Derived.OrdersIn
import Derived.StillTail
set_option linter.unusedVariables false
set_option linter.unusedSimpArgs false
namespace Go.CE
open _root_.Array renaming getElem?_eq_some_iff→bF,getElem?_setIfInBounds_ne→dM,getElem?_toList→bC,toList_inj→bW
open _root_.BitVec renaming ofInt→dW
open _root_.Int renaming eq_ofNat_of_zero_le→dQ,ofNat→aF
open _root_.List renaming getD_eq_getElem?_getD→aG,getElem?_eq_getElem→aN,getElem?_eq_some_iff→aV,getElem?_map→dJ,length_map→gP,rec→eA
open _root_.Nat renaming add→fQ,beq→bE,ble→bS,blt→cU,eq_of_beq_eq_true→aH,le_of_ble_eq_true→aQ,le_refl→aU,mul_le_mul_right→bP,succ→gB
open Op renaming equalIn→eE,intArith→gA
open _root_.Option renaming bind_eq_bind→aE,bind_eq_some_iff→aB,map_eq_some_iff→aM,map_some→dS,pure_def→aK,some.injEq→aD
open Region renaming binds→eO
open _root_.UInt8 renaming toNat→eT
open Value renaming int→fM
open Go.RowKit
open Go.AE (All2 gZ dK iC rA gI iA iB vK lG kN tR nR)
section
variable {P:Program} {β:Bt} {w:World} {st:St} {a:Act} {o:Oper} {nid:Nat} {v:V} {e:pZ}
theorem hP(hs:eC β st a w){lo:Option Operand}{al:Option X}(hl:mA lo=some al){d:Nat}{n:Int}(h:xX st.t d al=some n):AE.Bnd a d lo n:=by
 cases lo with
 |none=>
  simp only[mA,aD]at hl;subst hl;simp only[xX,aD]at h;exact .inl ⟨rfl,h.symm⟩
 |some x=>
  simp only[mA,aM]at hl;obtain⟨ax,hx,rfl⟩:=hl;simp only[xX]at h
  have hv:=aR hs hx
  split at h
  ·rename_i kk n' he
   rw[he]at hv;injection h with h;subst h;exact .inr ⟨x,kk,rfl,hv⟩
  ·cases h
theorem LW(hs:eC β st a w){t:TypeId}{x:Operand}{lo hi:Option Operand}{ax:X}{al ah:Option X}(hu:P.underlying t=some .string)(hx:cX x=some ax)(hl:mA lo=some al)(hh:mA hi=some ah)(ho:o.op=.slice t x lo hi none)
  (h:DZ st.t ax al ah=some (v,e)):cG P β st.h nid o a w v e:=by
 have hv:=aR hs hx
 unfold DZ at h;split at h
 ·rename_i l he
  rw[he]at hv;obtain⟨s,hv,rfl⟩:=hv
  have hln:=oG s
  unfold qV at hln;split at h
  ·rename_i hh' l' e1 e2
   rw[gF,hln]at e1
   have hn:=hP hs hh e1
   have hm:=hP hs hl e2
   have h0:=eY h
   clear h;obtain⟨hb,h⟩:=h0;cases h;rw[bR,bR,fL,fL,fL,gF,hln]at hb;obtain⟨h1,h2,h3⟩:=hb;refine cG.same hs (u:=.string (s.extract l'.toNat hh'.toNat)) ?_ ⟨_,rfl,?_⟩
   ·simp[execOp,ho,hv,Instr.sliceAt,Instr.slice,run_underlying hu,AE.run_bounds hm hn h1 h2 h3]
   ·rw[AK,GP]
    have:(s.extract l'.toNat hh'.toNat).data=s.data.extract l'.toNat hh'.toNat:=ByteArray.data_extract
    rw[this,Array.toList_extract,List.extract_eq_take_drop,List.map_take,List.map_drop];rfl
  ·cases h
 ·cases h
theorem TU(hs:eC β st a w){t el:TypeId}{sz:Nat}{x:Operand}{lo hi:Option Operand}{ax:X}{al ah:Option X}(hu:P.underlying t=some (.slice el))(hsz:dK P el=some sz)(hx:cX x=some ax)(hl:mA lo=some al)(hh:mA hi=some ah)(ho:o.op=.slice t x lo hi none)
  (h:PW st.t sz ax al ah=some (v,e)):cG P β st.h nid o a w v e:=by
 have hv:=aR hs hx
 have run:∀A len cap (l n:Int),a.eval x=.slice A len cap→AE.Bnd a 0 lo l→AE.Bnd a len hi n→0≤l→l≤n→n≤cap →
   (execOp a.eval o).run P w=.ok (.value (.slice (if cap=l.toNat then A else A.map (·.add (l.toNat*sz))) (n.toNat-l.toNat) (cap-l.toNat))) w:=by
  intro A len cap l n he hl hn h1 h2 h3;simp[execOp,ho,he,Instr.sliceAt,Instr.slice,run_underlying hu,AE.run_sizeOf hsz,AE.run_bounds hl hn h1 h2 h3]
 unfold PW at h;split at h
 ·rename_i id sz' off n0 he
  rw[he]at hv;split at h
  ·rename_i n m e1 e2
   have hn:=hP hs hh e1
   have hm:=hP hs hl e2
   have h0:=eY h
   clear h;obtain⟨hb,h⟩:=h0;cases h;rw[bR,bR,bR,fL,fL,fL]at hb;obtain⟨c1,h1,h2,h3⟩:=hb;obtain rfl:=aH c1;obtain⟨A,c,g1,g2,g3,g4⟩:=hv;refine cG.same hs (run A n0 c m n g1 hm hn h1 h2 (by omega)) ?_
   have e3:Nat.sub n.toNat m.toNat=n.toNat-m.toNat:=rfl
   have e4:fQ off m.toNat=off+m.toNat:=rfl
   rw[e3,e4];refine⟨_,_,rfl,by omega,fun hx=>by have:=g3 hx;omega,?_⟩
   rcases g4 with⟨g5,g6,g7⟩|⟨b,N,g5,rfl,g7⟩
   ·left
    have hm0:m.toNat=0:=by omega
    refine⟨?_,by omega,by omega⟩;rw[hm0,g7];simpa using g5
   ·by_cases hc:c=m.toNat
    ·by_cases hm0:m.toNat=0
     ·right
      have e5:(off+m.toNat+(c-m.toNat))*sz=(off+c)*sz:=by congr 1;omega
      refine⟨b,N,g5,?_,by rw[e5];exact g7.1,fun hx=>by rw[e5];exact g7.2 hx⟩;rw[if_pos hc,hm0];simp
     ·left
      exact⟨.inr (by omega),by omega,by omega⟩
    ·right
     have e5:(off+m.toNat+(c-m.toNat))*sz=(off+c)*sz:=by congr 1;omega
     refine⟨b,N,g5,?_,by rw[e5];exact g7.1,fun hx=>by rw[e5];exact g7.2 hx⟩;rw[if_neg hc,dS,AE.add_mid,Nat.add_mul]
  ·cases h
 ·rename_i he
  rw[he]at hv
  have hv:a.eval x=.slice none 0 0:=hv
  split at h
  ·rename_i n m e1 e2
   have hn:=hP hs hh e1
   have hm:=hP hs hl e2
   have h0:=eY h
   clear h;obtain⟨hb,h⟩:=h0;cases h;rw[bR,rT,rT]at hb;rw[hb.1]at hm;rw[hb.2]at hn;refine cG.same hs (run none 0 0 0 0 hv hm hn (by omega) (by omega) (by omega)) ?_
   show Value.slice _ _ _=_
   simp
  ·cases h
 ·cases h
theorem aHP(hs:eC β st a w){t el:TypeId}{sz:Nat}{x hi mx:Operand}{lo:Option Operand}{ax ah am:X}{al:Option X}(hu:P.underlying t=some (.slice el))(hsz:dK P el=some sz)(hx:cX x=some ax)(hl:mA lo=some al)(hh:cX hi=some ah)(hm:cX mx=some am)(ho:o.op=.slice t x lo (some hi) (some mx))
  (h:EB st.t sz ax al ah am=some (v,e)):cG P β st.h nid o a w v e:=by
 have hv:=aR hs hx
 have hv1:=aR hs hh
 have hv2:=aR hs hm
 unfold EB at h;split at h
 case h_2=>cases h
 rename_i id sz' off n0 k1 n k2 m he e1 e2;rw[he]at hv;rw[e1]at hv1;rw[e2]at hv2
 have hv1:a.eval hi=.int k1 n:=hv1
 have hv2:a.eval mx=.int k2 m:=hv2
 split at h
 case h_2=>cases h
 rename_i l hl1
 have hlo:=hP hs hl hl1
 have h0:=eY h
 clear h;obtain⟨hb,h⟩:=h0;cases h;rw[bR,bR,bR,bR,fL,fL,fL,fL]at hb;obtain⟨c1,h1,h2,h3,h4⟩:=hb;obtain rfl:=aH c1;obtain⟨A,c,g1,g2,g3,g4⟩:=hv
 have hbd:(Instr.sliceBounds true n0 c (lo.map a.eval) (some (.int k1 n)) (some (.int k2 m))).run P w=.ok (l.toNat,n.toNat,m.toNat) w:=by
  have q1:∀code,(Instr.sliceBound (.int k2 m) c code).run P w=.ok m.toNat w:=fun code=>AE.run_bound (by omega) (by omega)
  have q2:∀code,(Instr.sliceBound (.int k1 n) m.toNat code).run P w=.ok n.toNat w:=fun code=>AE.run_bound (by omega) (by omega)
  rcases hlo with⟨rfl,rfl⟩|⟨y,k',rfl,hy⟩
  ·simp[Instr.sliceBounds,q1,q2]
  ·have q3:∀code,(Instr.sliceBound (.int k' l) n.toNat code).run P w=.ok l.toNat w:=fun code=>AE.run_bound (by omega) (by omega)
   simp[Instr.sliceBounds,q1,q2,hy,q3]
 have run:(execOp a.eval o).run P w=.ok (.value (.slice (if m.toNat=l.toNat then A else A.map (·.add (l.toNat*sz))) (n.toNat-l.toNat) (m.toNat-l.toNat))) w:=by
  simp[execOp,ho,g1,hv1,hv2,Instr.sliceAt,Instr.slice,run_underlying hu,AE.run_sizeOf hsz,hbd]
 refine cG.same hs run ?_
 have e3:Nat.sub n.toNat l.toNat=n.toNat-l.toNat:=rfl
 have e4:fQ off l.toNat=off+l.toNat:=rfl
 rw[e3,e4];refine⟨_,_,rfl,by omega,(fun hx=>by cases hx),?_⟩
 rcases g4 with⟨g5,g6,g7⟩|⟨b,N,g5,rfl,g7⟩
 ·left
  have hm0:l.toNat=0:=by omega
  have hm1:m.toNat=0:=by omega
  refine⟨?_,by omega,by omega⟩;rw[hm0,hm1];simpa using g5
 ·by_cases hc:m.toNat=l.toNat
  ·by_cases hm0:l.toNat=0
   ·right
    refine⟨b,N,g5,?_,?_,fun hx=>by cases hx⟩
    ·rw[if_pos hc,hm0];simp
    ·rw[hm0,hc,hm0]
     refine Nat.le_trans ?_ g7.1;exact bP _ (by omega)
   ·left
    exact⟨.inr (by omega),by omega,by omega⟩
  ·right
   refine⟨b,N,g5,?_,?_,fun hx=>by cases hx⟩
   ·rw[if_neg hc,dS,AE.add_mid,Nat.add_mul]
   ·refine Nat.le_trans ?_ g7.1
    exact bP _ (by omega)
theorem aHO(hs:eC β st a w){t el:TypeId}{sz n:Nat}{x:Operand}{lo hi:Option Operand}{ax:X}{al ah:Option X}(hu2:P.underlying t=some (.array n el))(hsz:dK P el=some sz)(hx:cX x=some ax)(hl:mA lo=some al)(hh:mA hi=some ah)(ho:o.op=.slice t x lo hi none)
  (h:EA st.t st.h sz n ax al ah=some (v,e)):cG P β st.h nid o a w v e:=by
 have hv:=aR hs hx
 unfold EA at h;split at h
 ·rename_i id off he
  have el_:lo=none:=by cases lo<;>simp[mA]at hl<;>rfl
  have eh_:hi=none:=by cases hi<;>simp[mA]at hh<;>rfl
  subst el_;subst eh_;rw[he]at hv;obtain⟨b,N,g1,g2⟩:=hv;split at h
  ·rename_i x0 ty vs hid
   have h0:=eY h
   clear h;obtain⟨hb,h⟩:=h0;cases h;rw[bR,bR,bR,gF]at hb;obtain⟨b1,b2,b4,b3⟩:=hb
   have b4:=aQ b4
   obtain rfl:=aH b1
   have b2:0<n:=aQ b2
   have b3:n*sz=vs.length:=aH b3
   have hob:=hs.hs.obj id b N g1
   rw[hid]at hob;obtain⟨cs,q1,q2,q3,q4⟩:=hob
   have hN:n*sz≤N:=by rw[b3];exact q3.1
   refine cG.same hs (u:=.slice (some ⟨b,0,none⟩) n n) ?_ ⟨_,n,rfl,aU _,?_,.inr ⟨b,N,g1,by simp,by simpa using hN,fun hx=>by have:=b3.trans (q3.2 hx);simpa using this⟩⟩
   ·have hb0:=AE.run_bounds (P:=P) (w:=w) (b:=false) (len:=n) (cap:=n) (a:=a) (lo:=none) (hi:=none) (l:=0) (h:=n) (.inl ⟨rfl,rfl⟩) (.inl ⟨rfl,rfl⟩) (by omega) (by omega) (by omega)
    have hb0:(Instr.sliceBounds false n n none none none).run P w=.ok (0,n,n) w:=by simpa using hb0
    have hne:¬n=0:=by omega
    simp[execOp,ho,g2,Instr.sliceAt,run_underlying hu2,AE.run_sizeOf hsz,hb0,Instr.sureAddr,hne,Addr.add]
   ·intro _;unfold maxLen;omega
  ·rename_i ob vs hid
   have h0:=eY h
   clear h;obtain⟨hb,h⟩:=h0;cases h;rw[bR,bR,bR,gF]at hb;obtain⟨b1,b2,b4,b3⟩:=hb
   have b4:=aQ b4
   obtain rfl:=aH b1
   have b2:0<n:=aQ b2
   have b3:n*sz=vs.length:=aH b3
   have hob:=hs.hs.obj id b N g1
   rw[hid]at hob;obtain⟨cs,ty,fz,q1,q0,q2,q3,q4⟩:=hob
   have hN:n*sz≤N:=by rw[b3];exact q3
   refine cG.same hs (u:=.slice (some ⟨b,0,none⟩) n n) ?_ ⟨_,n,rfl,aU _,?_,.inr ⟨b,N,g1,by simp,by simpa using hN,fun hx=>by cases hx⟩⟩
   ·have hb0:=AE.run_bounds (P:=P) (w:=w) (b:=false) (len:=n) (cap:=n) (a:=a) (lo:=none) (hi:=none) (l:=0) (h:=n) (.inl ⟨rfl,rfl⟩) (.inl ⟨rfl,rfl⟩) (by omega) (by omega) (by omega)
    have hb0:(Instr.sliceBounds false n n none none none).run P w=.ok (0,n,n) w:=by simpa using hb0
    have hne:¬n=0:=by omega
    simp[execOp,ho,g2,Instr.sliceAt,run_underlying hu2,AE.run_sizeOf hsz,hb0,Instr.sureAddr,hne,Addr.add]
   ·intro _;unfold maxLen;omega
  ·cases h
 ·cases h
theorem aBY{x:V}{f:F}{u:Value}(h:VR β x u)(he:asF x=some f):FR β f u:=by
 unfold asF at he;split at he
 ·injection he with he;subst he;exact h
 ·cases he
theorem aBX{x:V}{xs:List V}:aGD (x::xs)=(match asF x,aGD xs with|some x,some l=>some (x::l)|_,_=>none):=rfl
theorem wV:∀ {xs:List V} {fs:List F} {us:List Value},All2 (VR β) xs us→aGD xs=some fs→All2 (FR β) fs us
 |[],fs,[],_,he=>by have he:some []=some fs:=he;cases he;exact trivial
 |[],_,_::_,h,_=>h.elim
 |_::_,_,[],h,_=>h.elim
 |x::xs,fs,u::us,h,he=>by
  rw[aBX]at he;split at he
  ·rename_i f l h1 h2
   injection he with he;subst he;exact⟨aBY h.1 h1,wV h.2 h2⟩
  ·cases he
theorem MC(hs:eC β st a w){f:Fn}{fs cs:Array Operand}{lf lc:List X}(h1:yN fs.toList=some lf)(h2:yN cs.toList=some lc)(ho:o.op=.makeFunc f fs cs)(h:EL st.t f lf lc=some (v,e)):cG P β st.h nid o a w v e:=by
 unfold EL at h;split at h
 ·rename_i xs ys hx hy
  cases h;refine cG.same hs (u:=.func f (fs.map a.eval) (cs.map a.eval)) ?_ ⟨_,_,rfl,wV (by simpa using nQ hs fs.toList lf h1) hx,wV (by simpa using nQ hs cs.toList lc h2) hy⟩;simp[execOp,ho,Instr.makeFunc]
 ·cases h
theorem LZ(hs:eC β st a w){x:Operand}{ax:X}(hx:cX x=some ax)(ho:o.op=.nilCheck x)(h:EG st.t ax=some (v,e)):cG P β st.h nid o a w v e:=by
 have hv:=aR hs hx
 unfold EG at h;split at h
 ·rename_i id off he
  rw[he]at hv
  have hv':=hv
  obtain⟨b,N,h1,h2⟩:=hv;cases h;exact cG.same hs (u:=a.eval x) (by simp[execOp,ho,h2]) hv'
 ·rename_i ty y he
  rw[he]at hv
  have hv':=hv
  obtain⟨u,h1,h2⟩:=hv;cases h;exact cG.same hs (u:=a.eval x) (by simp[execOp,ho,h1]) hv'
 ·cases h
theorem sH{v:V}{u:Value}{b:Bool}(h:VR β v u)(hb:aIP v=some b):(b=true∧u=.pointer none)∨(b=false∧∃ad,u=.pointer (some ad)):=by
 unfold aIP at hb;split at hb
 ·injection hb with hb;subst hb;obtain⟨b,o,_,h⟩:=h;exact .inr ⟨rfl,_,h⟩
 ·injection hb with hb;subst hb;exact .inl ⟨rfl,h⟩
 ·cases hb
theorem aDE(hs:eC β st a w){op:BinOp}{neg:Bool}{t t' el:TypeId}{x y:Operand}{ax ay:X}(ht:P.underlying t=some (.pointer el))(hn:kN op=some neg)(hx:cX x=some ax)(hy:cX y=some ay)(ho:o.op=.binOp op t x y t')
  (h:QE st.t neg ax ay=some (v,e)):cG P β st.h nid o a w v e:=by
 have hv:=aR hs hx
 have hv':=aR hs hy
 have fin:∀(p q:Option Addr) (c:Bool),a.eval x=.pointer p→a.eval y=.pointer q→(∀d:Nat,(eE (d+1) t (.pointer p) (.pointer q)).run P w=.ok c w) →
   cG P β st.h nid o a w (.c (.f (.b (match neg with|true=>sO c|false=>c)))) .no:=by
  intro p q c e1 e2 he
  have eq:(Op.equal t (.pointer p) (.pointer q)).run P w=.ok c w:=he 9999
  have hg:(eqGuard op t x y (.pointer p) (.pointer q)).run P w=.ok () w:=by
   unfold eqGuard;cases op<;>simp
  cases op<;>simp only[kN,reduceCtorEq,aD]at hn
  case eql=>
   subst hn;exact cG.same hs (u:=.bool c) (by simp[execOp,ho,e1,e2,hg,Go.binOp,eq]) rfl
  case neq=>
   subst hn;exact cG.same hs (u:=.bool (!c)) (by simp[execOp,ho,e1,e2,hg,Go.binOp,eq]) (by rw[nZ];rfl)
 unfold QE at h;split at h
 ·rename_i b h1 h2
  cases h
  rcases sH hv h1 with⟨_,g1⟩|⟨g1,_⟩
  ·rcases sH hv' h2 with⟨rfl,g2⟩|⟨rfl,ad,g2⟩
   ·have:=fin none none true g1 g2 (fun d=>by simp[eE,run_underlying ht])
    cases neg<;>exact this
   ·have:=fin none (some ad) false g1 g2 (fun d=>by simp[eE,run_underlying ht])
    cases neg<;>exact this
  ·cases g1
 ·rename_i b _ h1 h2
  cases h
  rcases sH hv' h2 with⟨_,g2⟩|⟨g2,_⟩
  ·rcases sH hv h1 with⟨rfl,g1⟩|⟨rfl,ad,g1⟩
   ·have:=fin none none true g1 g2 (fun d=>by simp[eE,run_underlying ht])
    cases neg<;>exact this
   ·have:=fin (some ad) none false g1 g2 (fun d=>by simp[eE,run_underlying ht])
    cases neg<;>exact this
  ·cases g2
 ·cases h
theorem LY(hs:eC β st a w){op:BinOp}{neg:Bool}{t t' el:TypeId}{x:Operand}{ax:X}(ht:P.underlying t=some (.slice el))(hn:kN op=some neg)(hx:cX x=some ax)(ho:o.op=.binOp op t x (.const (.slice none 0 0)) t')
  (h:EE st.t neg ax=some (v,e)):cG P β st.h nid o a w v e:=by
 have hv:=aR hs hx
 have fin:∀(A:Option Addr) (n m:Nat),a.eval x=.slice A n m→cG P β st.h nid o a w (.c (.f (.b (match neg with|true=>sO A.isNone|false=>A.isNone)))) .no:=by
   intro A n m e1
   have he:∀d:Nat,(eE (d+1) t (.slice A n m) (.slice none 0 0)).run P w=.ok A.isNone w:=by
    intro d;cases A<;>simp[eE,run_underlying ht]
   have eq:(Op.equal t (.slice A n m) (.slice none 0 0)).run P w=.ok A.isNone w:=he 9999
   have hg:(eqGuard op t x (.const (.slice none 0 0)) (.slice A n m) (.slice none 0 0)).run P w=.ok () w:=by
    unfold eqGuard;cases op<;>simp
   have ev2:a.eval (.const (.slice none 0 0))=.slice none 0 0:=rfl
   cases op<;>simp only[kN,reduceCtorEq,aD]at hn
   case eql=>
    subst hn;exact cG.same hs (u:=.bool A.isNone) (by simp[execOp,ho,e1,ev2,hg,Go.binOp,eq]) rfl
   case neq=>
    subst hn;exact cG.same hs (u:=.bool (!A.isNone)) (by simp[execOp,ho,e1,ev2,hg,Go.binOp,eq]) (by rw[nZ];rfl)
 unfold EE at h;split at h
 ·rename_i he
  rw[he]at hv;cases h
  have:=fin none 0 0 hv
  cases neg<;>exact this
 ·rename_i id sz off n he
  rw[he]at hv
  have h0:=eY h
  clear h;obtain⟨hb,h⟩:=h0;cases h
  have hb:0<n:=aQ hb
  obtain⟨A,c,h1,h2,h3,h4⟩:=hv
  rcases h4 with⟨_,h5,_⟩|⟨b,N,_,rfl,_⟩
  ·omega
  ·have:=fin _ _ _ h1
   cases neg<;>exact this
 ·cases h
theorem aHQ(hs:eC β st a w){op:BinOp}{neg:Bool}{t t' k el:TypeId}{x:Operand}{ax:X}(ht:P.underlying t=some (.map k el))(hn:kN op=some neg)(hx:cX x=some ax)(ho:o.op=.binOp op t x (.const (.map none)) t')
  (h:EF st.t neg ax=some (v,e)):cG P β st.h nid o a w v e:=by
 have hv:=aR hs hx
 have fin:∀(A:Option Nat),a.eval x=.map A→cG P β st.h nid o a w (.c (.f (.b (match neg with|true=>sO A.isNone|false=>A.isNone)))) .no:=by
   intro A e1
   have he:∀d:Nat,(eE (d+1) t (.map A) (.map none)).run P w=.ok A.isNone w:=by
    intro d;cases A<;>simp[eE,run_underlying ht]
   have eq:(Op.equal t (.map A) (.map none)).run P w=.ok A.isNone w:=he 9999
   have hg:(eqGuard op t x (.const (.map none)) (.map A) (.map none)).run P w=.ok () w:=by
    unfold eqGuard;cases op<;>simp
   have ev2:a.eval (.const (.map none))=.map none:=rfl
   cases op<;>simp only[kN,reduceCtorEq,aD]at hn
   case eql=>
    subst hn;exact cG.same hs (u:=.bool A.isNone) (by simp[execOp,ho,e1,ev2,hg,Go.binOp,eq]) rfl
   case neq=>
    subst hn;exact cG.same hs (u:=.bool (!A.isNone)) (by simp[execOp,ho,e1,ev2,hg,Go.binOp,eq]) (by rw[nZ];rfl)
 unfold EF at h;split at h
 ·rename_i he
  rw[he]at hv;cases h
  have:=fin none hv
  cases neg<;>exact this
 ·rename_i id he
  rw[he]at hv;obtain⟨b,N,_,h1⟩:=hv;cases h
  have:=fin _ h1
  cases neg<;>exact this
 ·cases h
theorem aGR{k:IntKind}{n:Int}(h:ID k n=true):k.wrap n=n:=AE.wrap_in (rN h)
theorem MM(hs:eC β st a w){s t:TypeId}{k:IntKind}{x:Operand}{ax:X}(ht:P.underlying t=some (.int k))(hx:cX x=some ax)(ho:o.op=.convert s t x)(hsr:∃d,P.underlying s=some d)(h:EW st.t k ax=some (v,e)):cG P β st.h nid o a w v e:=by
 have hv:=aR hs hx
 obtain⟨d,hd⟩:=hsr;unfold EW at h;split at h
 ·rename_i k1 n he
  rw[he]at hv
  have hv:a.eval x=.int k1 n:=hv
  have hr:(Go.convert s t (.int k1 n)).run P w=.ok (.int k (k.wrap n)) w:=by
   unfold Go.convert;simp[run_underlying hd,run_underlying ht,Conv.intToInt]
  have key:cG P β st.h nid o a w (.c (.f (.i k (k.wrap n)))) .no:=cG.same hs (u:=.int k (k.wrap n)) (by simp[execOp,ho,hv,hr]) rfl
  split at h
  ·rename_i hb
   cases h
   rwa [aGR hb]at key
  ·rw[wR]at h
   cases h;exact key
 ·cases h
theorem MA(hs:eC β st a w){t:TypeId}{k:IntKind}{x:Operand}{ax:X}(hx:cX x=some ax)(ho:o.op=.unOp .neg t x)(h:EH st.t k ax=some (v,e)):cG P β st.h nid o a w v e:=by
 have hv:=aR hs hx
 unfold EH at h;split at h
 ·rename_i k1 n he
  rw[he]at hv
  have hv:a.eval x=.int k1 n:=hv
  have h0:=eY h
  clear h;obtain⟨c1,h⟩:=h0;obtain rfl:=kR c1;rw[wR]at h;cases h
  have e:(0:Int)-n = -n:=by omega
  exact cG.same hs (u:=.int k (k.wrap (-n))) (by simp[execOp,ho,hv,Op.unary,gA]) rfl
 ·cases h
theorem MN(hs:eC β st a w){op:BinOp}{t t':TypeId}{k:IntKind}{x y:Operand}{ax ay:X}(hx:cX x=some ax)(hy:cX y=some ay)(ho:o.op=.binOp op t x y t')(h:EY st.t op k ax ay=some (v,e)):cG P β st.h nid o a w v e:=by
 have hv:=aR hs hx
 have hv':=aR hs hy
 unfold EY at h;split at h
 ·rename_i k1 m k2 n he he'
  rw[he]at hv;rw[he']at hv'
  have hv:a.eval x=.int k1 m:=hv
  have hv':a.eval y=.int k2 n:=hv'
  have h0:=eY h
  clear h;obtain⟨c1,h⟩:=h0;rw[bR]at c1;obtain⟨c1,c2⟩:=c1;obtain rfl:=kR c1
  have run:∀u,(Go.binOp op t (.int k m) (.int k2 n)).run P w=.ok u w→(execOp a.eval o).run P w=.ok (.value u) w:=by
   intro u hu
   have hg:(eqGuard op t x y (.int k m) (.int k2 n)).run P w=.ok () w:=by
    unfold eqGuard;cases op<;>simp
   simp[execOp,ho,hv,hv',hg,hu]
  split at h
  ·rename_i r hr
   rw[wR]at h;cases h
   cases op<;>simp only[SJ]at hr<;>first|(cases hr;done)|skip
   case add=>obtain rfl:=kR c2;cases hr;exact cG.same hs (run (.int k (k.wrap (m+n))) (by simp[Go.binOp,gA])) rfl
   case sub=>obtain rfl:=kR c2;cases hr;exact cG.same hs (run (.int k (k.wrap (m-n))) (by simp[Go.binOp,gA])) rfl
   case mul=>obtain rfl:=kR c2;cases hr;exact cG.same hs (run (.int k (k.wrap (m*n))) (by simp[Go.binOp,gA])) rfl
   case and=>obtain rfl:=kR c2;cases hr;exact cG.same hs (run (.int k (k.wrap (dW k.bits m &&& dW k.bits n).toNat)) (by simp[Go.binOp,Op.intBits])) rfl
   case or=>obtain rfl:=kR c2;cases hr;exact cG.same hs (run (.int k (k.wrap (dW k.bits m ||| dW k.bits n).toNat)) (by simp[Go.binOp,Op.intBits])) rfl
   case xor=>obtain rfl:=kR c2;cases hr;exact cG.same hs (run (.int k (k.wrap (dW k.bits m ^^^ dW k.bits n).toNat)) (by simp[Go.binOp,Op.intBits])) rfl
   case shl=>
    split at hr
    ·rename_i hz
     have hz:=fL.1 hz
     cases hr;exact cG.same hs (run (.int k (k.wrap (m*2^(min n.toNat k.bits)))) (by simp[Go.binOp,Op.shift,show ¬n<0 by omega])) rfl
    ·cases hr
   case shr=>
    split at hr
    ·rename_i hz
     have hz:=fL.1 hz
     cases hr;exact cG.same hs (run (.int k (m.fdiv (2^(min n.toNat k.bits)))) (by simp[Go.binOp,Op.shift,show ¬n<0 by omega])) rfl
    ·cases hr
  ·cases h
 ·cases h
theorem XW(hs:eC β st a w){t el:TypeId}{x:Operand}{ax:X}(ht:P.underlying t=some (.slice el))(hx:cX x=some ax)(ho:o.op=.call { callee:=.builtin .cap,args := #[x],argTypes := #[t] })(h:EX st.t ax=some (v,e)):cG P β st.h nid o a w v e:=by
 have hv:=aR hs hx
 unfold EX at h;split at h
 ·rename_i he
  rw[he]at hv
  have hv:a.eval x=.slice none 0 0:=hv
  cases h;exact cG.same hs (u:=.int .i64 0) (by simp[execOp,ho,resolve,invoke,builtin,hv,Builtin.cap_,run_underlying ht,goInt]) rfl
 ·cases h
theorem aHR(hs:eC β st a w){t:TypeId}{d:TypeDesc}{x:Operand}{ax:X}(ht:P.underlying t=some d)(hd:∀m,d≠.interface m)(hx:cX x=some ax)(ho:o.op=.makeInterface t x)(h:EK st.t t ax=some (v,e)):cG P β st.h nid o a w v e:=by
 have hv:=aR hs hx
 unfold EK at h;split at h
 ·rename_i id off he
  rw[he]at hv;cases h;refine cG.same hs (u:=.iface t (a.eval x)) ?_ ⟨_,rfl,hv⟩
  have hr:(Instr.makeInterface t (a.eval x)).run P w=.ok (.iface t (a.eval x)) w:=by
   unfold Instr.makeInterface;simp only[Sem.run_bind,run_underlying ht]
   cases d<;>first|exact absurd rfl (hd _)|rfl
  simp[execOp,ho,hr]
 ·cases h
end
open Go.AE (All2 gZ dK iC rA gI iA iB vK lG kN tR nR)
section
variable {P:Program} {β:Bt} {w:World} {st:St} {a:Act} {o:Oper} {nid:Nat} {v:V} {e:pZ}
theorem iT{vs:List C}{xs:Array Value}(h:All2 (CR β) vs xs.toList){i:Nat}{p:F}(hp:bN .top vs i=.f p):∃u,xs[i]?=some u∧FR β p u:=by
 rw[eK]at hp
 rcases Nat.lt_or_ge i vs.length with hl|hl
 ·obtain⟨y,h1,h2⟩:=h.get i vs[i] (aN hl)
  have e:vs[i]=.f p:=by simpa[hl] using hp
  rw[e]at h2;exact⟨y,by simpa using h1,h2⟩
 ·rw[aG,List.getElem?_eq_none hl]at hp;cases hp
theorem rG{t:TypeId}{pk:PK}(h:DM P t=some pk):P.plainKey t=true:=by
 unfold DM at h;unfold Program.plainKey;split at h<;>simp_all
theorem aBK{xs ys:List C}{p:Nat×PK}{fs:List (Nat×PK)}:pV xs ys (p::fs)=(match p.2,bN .top xs p.1,bN .top ys p.1 with
  |.i,.f (.i k1 a),.f (.i k2 b)=>match AE.kEq k1 k2,pV xs ys fs with
   |true,some c=>some (eB (ZS a b) c)
   |_,_=>none
  |.s,.f (.s a),.f (.s b)=>match pV xs ys fs with
   |some c=>some (eB (WD a b) c)
   |none=>none
  |.b,.f (.b a),.f (.b b)=>match pV xs ys fs with
   |some c=>some (eB (a==b) c)
   |none=>none
  |_,_,_=>none):=rfl
theorem WY(a b:Int):ZS a b=(a==b):=by rw[Bool.eq_iff_iff];simp[rT]
theorem GZ(a b:Bool):eB a b=(a&&b):=by cases a<;>rfl
theorem aLU{vs vs':List C}{xs ys:Array Value}(hx:All2 (CR β) vs xs.toList)(hy:All2 (CR β) vs' ys.toList)(d:Nat){i:Nat}{ty:TypeId}{pk:PK}(h1:DM P ty=some pk){fs:List (Nat×PK)}{r:Bool}(h:pV vs vs' ((i,pk)::fs)=some r) :
  ∃u u' b c,xs[i]?=some u∧ys[i]?=some u'∧(eE (d+1) ty u u').run P w=.ok b w∧pV vs vs' fs=some c∧r=(b&&c):=by
 rw[aBK]at h;split at h
 ·rename_i k1 a1 k2 a2 hp hv hv'
  split at h
  ·rename_i c hk hc
   cases h;obtain rfl:=kR hk;obtain⟨u,q1,q2⟩:=iT hx hv;obtain⟨u',q3,q4⟩:=iT hy hv'
   have q2:u=.int k1 a1:=q2
   have q4:u'=.int k1 a2:=q4
   subst q2;subst q4
   have ht:∃kk,P.underlying ty=some (.int kk):=by
    dsimp only at hp;subst hp;unfold DM at h1;split at h1<;>simp_all
   obtain⟨kk,ht⟩:=ht;exact⟨_,_,_,c,q1,q3,run_equalIn_int w d ty k1 kk a1 a2 ht,hc,by rw[GZ,WY]⟩
  ·cases h
 ·rename_i a1 a2 hp hv hv'
  split at h
  ·rename_i c hc
   cases h;obtain⟨u,q1,q2⟩:=iT hx hv;obtain⟨u',q3,q4⟩:=iT hy hv';obtain⟨s1,rfl,rfl⟩:=q2;obtain⟨s2,rfl,rfl⟩:=q4
   have ht:P.underlying ty=some .string:=by
    dsimp only at hp;subst hp;unfold DM at h1;split at h1<;>simp_all
   refine⟨_,_,_,c,q1,q3,run_equalIn_string w d ty s1 s2 ht,hc,?_⟩
   have:=RY s1 s2
   unfold qV at this;rw[GZ,this]
  ·cases h
 ·rename_i a1 a2 hp hv hv'
  split at h
  ·rename_i c hc
   cases h;obtain⟨u,q1,q2⟩:=iT hx hv;obtain⟨u',q3,q4⟩:=iT hy hv'
   have q2:u=.bool a1:=q2
   have q4:u'=.bool a2:=q4
   subst q2;subst q4
   have ht:P.underlying ty=some .bool:=by
    dsimp only at hp;subst hp;unfold DM at h1;split at h1<;>simp_all
   exact⟨_,_,_,c,q1,q3,run_equalIn_bool' w d ty a1 a2 ht,hc,by rw[GZ]⟩
  ·cases h
 ·cases h
theorem pU{vs vs':List C}{xs ys:Array Value}(hx:All2 (CR β) vs xs.toList)(hy:All2 (CR β) vs' ys.toList)(d:Nat) :
  ∀(fs:List Field) (l:List (Nat×PK)) (b:Bool),AA P fs=some l→pV vs vs' l=some b→(Op.eqFields (d+1) xs ys fs).run P w=.ok b w
 |[],l,b,hl,h=>by
  simp only[AA,aD]at hl;subst hl
  have h:some true=some b:=h
  cases h;simp[Op.eqFields]
 |f::fs,l,b,hl,h=>by
  simp only[AA]at hl;split at hl
  ·rename_i hn
   simp only[aE,aB,aK,aD]at hl;obtain⟨pk,h1,l',h2,rfl⟩:=hl
   have hp:=rG h1
   have hn:f.name ≠ "_" := by simpa using hn
   obtain⟨u,u',b1,c,e1,e2,e3,hc,rfl⟩:=aLU (w:=w) hx hy d h1 h
   have q1:=pU hx hy d fs l' c h2 hc
   simp only[Op.eqFields,hn,ne_eq,not_false_eq_true,if_true,Sem.run_bind,run_part_plain (w:=w) hp e1,run_part_plain (w:=w) hp e2,e3,Result.andThen_ok];cases b1
   ·simp
   ·simpa using q1
  ·cases hl
theorem UB(hs:eC β st a w){op:BinOp}{t t':TypeId}{x y:Operand}{ax ay:X}{fs:Array Field}{l:List (Nat×PK)}{neg:Bool}(hu:P.underlying t=some (.struct fs))(hg:(P.stoodInHeld t||P.eqGuardType P.depth t)=false)(hn:kN op=some neg)(hl:AA P fs.toList=some l)
  (hx:cX x=some ax) (hy:cX y=some ay) (ho:o.op=.binOp op t x y t') (h:EU st.t neg l ax ay=some (v,e)):cG P β st.h nid o a w v e:=by
 have hv:=aR hs hx
 have hv':=aR hs hy
 simp only[Bool.or_eq_false_iff]at hg
 have hf:P.fieldsOf t=fs:=by unfold Program.fieldsOf;simp[hu]
 unfold EU at h;split at h
 ·rename_i vs vs' e1 e2
  rw[e1]at hv;rw[e2]at hv';obtain⟨us,hu1,ha⟩:=hv;obtain⟨us',hu2,ha'⟩:=hv';split at h
  ·rename_i b hb
   cases h
   have q1:=pU (w:=w) ha ha' 9998 fs.toList l b hl hb
   have he:(eE 10000 t (.agg us) (.agg us')).run P w=.ok b w:=by
    rw[run_equalIn_struct w 9999 t us us' (by rw[hf];exact hu) hg.1,hf];exact q1
   have hgd:=run_eqGuard_agg (w:=w) op t x y us us' hg.2
   cases op<;>simp only[kN,aD,reduceCtorEq]at hn
   ·subst hn
    exact cG.same hs (u:=.bool b) (by simp[execOp,ho,hu1,hu2,hgd,run_eql_struct,he]) rfl
   ·subst hn
    exact cG.same hs (u:=.bool (!b)) (by simp[execOp,ho,hu1,hu2,hgd,run_neq_struct,he]) (by rw[nZ];rfl)
  ·cases h
 ·cases h
theorem pT{vs vs':List C}{xs ys:Array Value}(hx:All2 (CR β) vs xs.toList)(hy:All2 (CR β) vs' ys.toList)(d:Nat){ty:TypeId}{pk:PK}(h1:DM P ty=some pk)(hc:P.cellsOf ty=1) :
  ∀(n i:Nat) (b:Bool),pV vs vs' (HA pk i n)=some b→(Op.eqItems (d+1) ty (P.cellsOf ty) xs ys (List.range' i n)).run P w=.ok b w
 |0,i,b,h=>by have h:some true=some b:=h;cases h;simp[Op.eqItems]
 |n+1,i,b,h=>by
  have hp:=rG h1
  obtain⟨u,u',b1,c,e1,e2,e3,hc',rfl⟩:=aLU (w:=w) hx hy d h1 h
  have q1:=pT hx hy d h1 hc n (i+1) c hc'
  have e0:i*P.cellsOf ty=i:=by rw[hc,Nat.mul_one]
  rw[List.range'_succ];simp only[Op.eqItems,Sem.run_bind,e0,run_part_plain (w:=w) hp e1,run_part_plain (w:=w) hp e2,e3,Result.andThen_ok];cases b1
  ·simp
  ·simpa using q1
theorem MK(hs:eC β st a w){op:BinOp}{t t' el:TypeId}{n:Nat}{x y:Operand}{ax ay:X}{pk:PK}{neg:Bool}(hu:P.underlying t=some (.array n el))(hg:P.eqGuardType P.depth t=false)(hn:kN op=some neg)(h1:DM P el=some pk)(hz:tR P el=true)
  (hx:cX x=some ax) (hy:cX y=some ay) (ho:o.op=.binOp op t x y t') (h:EU st.t neg (HA pk 0 n) ax ay=some (v,e)):cG P β st.h nid o a w v e:=by
 have hv:=aR hs hx
 have hv':=aR hs hy
 obtain⟨inf,hi,hsz⟩:∃i,P.info? el=some i∧i.size=1:=by
  unfold tR dK at hz;cases hq:P.info? el with
  |none=>simp[hq]at hz
  |some i=>
   refine⟨i,rfl,?_⟩;simp only[hq,dS]at hz;split at hz
   ·rename_i h1;injection h1
   ·cases hz
 have hc:P.cellsOf el=1:=by unfold Program.cellsOf;rw[hi];exact hsz
 unfold EU at h;split at h
 ·rename_i vs vs' e1 e2
  rw[e1]at hv;rw[e2]at hv';obtain⟨us,hu1,ha⟩:=hv;obtain⟨us',hu2,ha'⟩:=hv';split at h
  ·rename_i b hb
   cases h
   have q1:=pT (w:=w) ha ha' 9998 h1 hc n 0 b hb
   have he:(eE 10000 t (.agg us) (.agg us')).run P w=.ok b w:=by
    rw[run_equalIn_array w 9999 us us' hu hi,List.range_eq_range'];exact q1
   have hgd:=run_eqGuard_agg (w:=w) op t x y us us' hg
   cases op<;>simp only[kN,aD,reduceCtorEq]at hn
   ·subst hn
    exact cG.same hs (u:=.bool b) (by simp[execOp,ho,hu1,hu2,hgd,run_eql_struct,he]) rfl
   ·subst hn
    exact cG.same hs (u:=.bool (!b)) (by simp[execOp,ho,hu1,hu2,hgd,run_neq_struct,he]) (by rw[nZ];rfl)
  ·cases h
 ·cases h
theorem CH{t:TypeId}{z:W}(h:IP P t=some z):∃u,(∀w,(zeroValue t).run P w=.ok u w)∧WR β z u:=by
 unfold IP at h;cases hq:P.info? t with
 |none=>simp[hq]at h
 |some i=>
  cases hz:i.zero with
  |none=>simp[hq,hz]at h
  |some v=>
   simp only[hq,hz,Option.bind_some]at h;refine⟨v,fun w=>by simp[zeroValue,typeInfo,hq,hz],?_⟩;cases v with
   |agg cs=>cases h;exact⟨cs,rfl,nH _⟩
   |tuple=>cases h
   |string s=>cases h;exact⟨s,rfl,rfl⟩
   |_=>cases h;exact rfl
theorem aHN(hs:eC β st a w){t xt:TypeId}{d:TypeDesc}{z:W}{two:Bool}{x:Operand}{ax:X}(ht:P.underlying t=some d)(hd:∀m,d≠.interface m)(hz:IP P t=some z)(hx:cX x=some ax)(ho:o.op=.typeAssert x xt t two)(h:DY st.t t z two ax=some (v,e)):cG P β st.h nid o a w v e:=by
 have hv:=aR hs hx
 obtain⟨zu,hz1,hz2⟩:=CH (β:=β) hz
 have run:∀u r,a.eval x=u→(Instr.typeAssert u xt t two).run P w=.ok r w→(execOp a.eval o).run P w=.ok (.value r) w:=by
  intro u r h1 h2;simp[execOp,ho,h1,h2]
 unfold DY at h;split at h
 ·rename_i ty' y he
  rw[he]at hv;obtain⟨u,hu,hy⟩:=hv
  have key:(Instr.typeAssert (.iface ty' u) xt t two).run P w=(if ty'=t then (pure (if two then .tuple #[u,.bool true] else u):Sem Value) else (do if two then pure (.tuple #[←zeroValue t,.bool false]) else runtimePanic (.typeAssertion (some xt) (some ty') t ""))).run P w:=by
   unfold Instr.typeAssert;simp only[Sem.run_bind,run_underlying ht,Result.andThen_ok]
  split at h
  ·rename_i hb
   have hb:=aH hb
   cases h;refine cG.same hs (u:=.tuple #[u,.bool true]) (run _ _ hu (by rw[key,if_pos hb];rfl)) ⟨_,rfl,⟨hy,rfl,trivial⟩⟩
  ·rename_i hb
   have hb:=aH hb
   cases h;exact cG.same hs (u:=u) (run _ _ hu (by rw[key,if_pos hb];rfl)) hy
  ·rename_i hb
   have hb:=Nat.ne_of_beq_eq_false hb
   cases h;refine cG.same hs (u:=.tuple #[zu,.bool false]) (run _ _ hu (by rw[key,if_neg hb];simp[hz1])) ⟨_,rfl,⟨hz2,rfl,trivial⟩⟩
  ·cases h
 ·rename_i he
  rw[he]at hv
  have hv:a.eval x=.nilIface:=hv
  have key:(Instr.typeAssert .nilIface xt t true).run P w=.ok (.tuple #[zu,.bool false]) w:=by
   unfold Instr.typeAssert;simp only[Sem.run_bind,run_underlying ht,Result.andThen_ok]
   cases d<;>first|exact absurd rfl (hd _)|simp[hz1]
  split at h
  ·cases h
   exact cG.same hs (u:=.tuple #[zu,.bool false]) (run _ _ hv key) ⟨_,rfl,⟨hz2,rfl,trivial⟩⟩
  ·cases h
 ·cases h
end
open Go.AE (All2 gZ dK iC rA gI iA iB vK lG kN tR nR)
section
variable {P:Program} {β:Bt} {w:World} {st:St} {a:Act} {o:Oper} {nid:Nat} {v:V} {e:pZ}
theorem PP(hs:eC β st a w)(hid:β nid=none){t:TypeId}{kd:IntKind}(ho:o.op=.makeMap t none):cG P β st.h nid o a w (.c (.f (.mp nid))) (.nw (.map kd [])):=by
 obtain⟨h1,h2⟩:=kT hs.hs hid (x:=.map kd []) (o:=.map #[] 0) (N:=0) (fun w' hb=>⟨#[],0,hb,trivial⟩);refine⟨.map (some w.heap.size),_,_,.inl ?_,⟨_,_,eV _ _ _,rfl⟩,?_,h2,fun i hi=>cT _ (YB hi)⟩
 ·simp[execOp,ho,Instr.makeMap]
 ·rw[zH];exact h1
theorem VY{k:Int}{p:Int×W}{es:List (Int×W)}:AY k (p::es)=(match ZS k p.1 with|true=>some p.2|false=>AY k es):=rfl
theorem tZ{kd:IntKind}{n:Int}:∀ {es:List (Int×W)} {es':List MapEntry} (_:All2 (fun(p:Int×W) (e:MapEntry)=>e.key=.int kd p.1∧WR β p.2 e.val) es es') (j:Nat),
  (∀y,AY n es=some y→∃i u,Instr.findNow (.int kd) (.int kd n) es' j=some (some (i,u))∧WR β y u)∧(AY n es=none→Instr.findNow (.int kd) (.int kd n) es' j=some none)
 |[],[],_,j=>⟨fun y h=>by(have h:none=some y:=h;cases h),fun _=>rfl⟩
 |[],_::_,h,_=>h.elim
 |_::_,[],h,_=>h.elim
 |p::es,e::es',h,j=>by
  obtain⟨⟨h1,h2⟩,h3⟩:=h;obtain⟨i1,i2⟩:=tZ h3 (j+1);rw[VY]
  have hn:Instr.findNow (.int kd) (.int kd n) (e::es') j=(match (n==p.1) with|true=>some (some (j,e.val))|false=>Instr.findNow (.int kd) (.int kd n) es' (j+1)):=by
    simp only[Instr.findNow,h1,Instr.sameNow,if_true];cases n==p.1<;>rfl
  rw[hn,WY];cases hb:n==p.1 with
  |true=>exact⟨fun y hy=>by cases hy;exact⟨j,e.val,rfl,h2⟩,fun hc=>by cases hc⟩
  |false=>exact⟨i1,i2⟩
theorem kY{t:TypeId}{kd:IntKind}(ht:P.underlying t=some (.int kd))(b:Bool)(n:Int)(w:World):(Instr.checkKey b 10000 t (.int kd n)).run P w=.ok () w:=by
 have:∀d,(Instr.checkKey b (d+1) t (.int kd n)).run P w=.ok () w:=fun d=>by simp[Instr.checkKey,run_underlying ht]
 exact this 9999
theorem JU{t el:TypeId}{kd:IntKind}(h:UL P t=some (kd,el)):∃k,P.underlying t=some (.map k el)∧P.underlying k=some (.int kd):=by
 unfold UL at h;split at h
 ·rename_i k e hu
  split at h
  ·rename_i kd' hk
   cases h;exact⟨k,hu,hk⟩
  ·cases h
 ·cases h
theorem XV(hs:eC β st a w){t el:TypeId}{kd:IntKind}{z:W}{two:Bool}{x k:Operand}{ax ak:X}(hm:UL P t=some (kd,el))(hz:IP P el=some z)(hx:cX x=some ax)(hk:cX k=some ak)(ho:o.op=.lookup t x k two)
  (h:EM st.t st.h kd z two ax ak=some (v,e)):cG P β st.h nid o a w v e:=by
 have hv:=aR hs hx
 have hv':=aR hs hk
 obtain⟨kt,hu,hkt⟩:=JU hm;obtain⟨zu,hz1,hz2⟩:=CH (β:=β) hz
 have fin:∀(y:W) (u:Value) (b:Bool),WR β y u→(execOp a.eval o).run P w=.ok (.value (if two then .tuple #[u,.bool b] else u)) w→cG P β st.h nid o a w (aGV two y b) .no:=by
  intro y u b hy hr;cases two with
  |true=>exact cG.same hs hr ⟨_,rfl,⟨hy,rfl,trivial⟩⟩
  |false=>exact cG.same hs hr (WR.up hy)
 unfold EM at h;split at h
 ·rename_i kd1 n hek
  rw[hek]at hv'
  have hv':a.eval k=.int kd1 n:=hv'
  split at h
  ·rename_i hkd
   obtain rfl:=kR hkd;split at h
   ·rename_i he
    rw[he]at hv
    have hv:a.eval x=.map none:=hv
    cases h;refine fin z zu false hz2 ?_;simp[execOp,ho,hv,hv',Instr.lookup,run_underlying hu,kY hkt,Instr.findKey,run_underlying hkt,Instr.findNow,hz1]
   ·rename_i id he
    rw[he]at hv;obtain⟨b,N,g1,g2⟩:=hv;split at h
    ·rename_i kd2 es hid
     split at h
     ·rename_i hkd2
      obtain rfl:=kR hkd2
      have hob:=hs.hs.obj id b N g1
      rw[hid]at hob;obtain⟨es',cl,q1,q2⟩:=hob
      have hgo:(getObj b).run P w=.ok (.map es' cl) w:=MapKept.run_getObj_map q1
      obtain⟨f1,f2⟩:=tZ (n:=n) q2 0;split at h
      ·rename_i y hy
       cases h;obtain⟨i,u,f3,f4⟩:=f1 y hy;refine fin y u true f4 ?_;simp[execOp,ho,g2,hv',Instr.lookup,run_underlying hu,kY hkt,Instr.findKey,run_underlying hkt,hgo,f3]
      ·rename_i hy
       cases h;refine fin z zu false hz2 ?_;simp[execOp,ho,g2,hv',Instr.lookup,run_underlying hu,kY hkt,Instr.findKey,run_underlying hkt,hgo,f2 hy,hz1]
     ·cases h
    ·cases h
   ·cases h
  ·cases h
 ·cases h
theorem AB{x:V}{y:W}{u:Value}(h:VR β x u)(he:asW x=some y):WR β y u:=by
 unfold asW at he;split at he<;>cases he<;>exact h
theorem XU(hs:eC β st a w){t el:TypeId}{kd:IntKind}{x k y:Operand}{ax ak ay:X}(hm:UL P t=some (kd,el))(hx:cX x=some ax)(hk:cX k=some ak)(hy:cX y=some ay)(ho:o.op=.mapUpdate t x k y)
  (h:EJ st.t st.h kd ax ak ay=some (v,e)):cG P β st.h nid o a w v e:=by
 have hv:=aR hs hx
 have hv':=aR hs hk
 have hv2:=aR hs hy
 obtain⟨kt,hu,hkt⟩:=JU hm;unfold EJ at h;split at h
 ·rename_i kd1 n y' id hek hey hex
  rw[hek]at hv';rw[hex]at hv
  have hv':a.eval k=.int kd1 n:=hv'
  obtain⟨b,N,g1,g2⟩:=hv
  have hw:=AB hv2 hey
  split at h
  ·rename_i kd2 es hid
   split at h
   ·rename_i hf
    have h0:=eY h
    clear h;obtain⟨hb,h⟩:=h0;cases h;rw[bR]at hb;obtain⟨b1,b2⟩:=hb;obtain rfl:=kR b1;obtain rfl:=kR b2
    have hob:=hs.hs.obj id b N g1
    rw[hid]at hob;obtain⟨es',cl,q1,q2⟩:=hob
    have hgo:(getObj b).run P w=.ok (.map es' cl) w:=MapKept.run_getObj_map q1
    have hbl:b<w.heap.size:=hs.hs.lt id b N g1
    obtain⟨_,f2⟩:=tZ (n:=n) q2 0
    have key:=pP hs.hs g1 (by rw[hid];rfl) (w':={ w with heap:=w.heap.setIfInBounds b (.map (es'.push { key:=.int kd n,val:=a.eval y,born:=cl }) (cl+1)) }) (x:=.map kd (ap es [(n,y')])) rfl rfl rfl (by simp) (fun j hj=>by simp[dM (Ne.symm hj)]) ?_
    ·refine⟨undef,_,β,.inr ⟨?_,rfl⟩,⟨#[],rfl,trivial⟩,?_,key.2,fun _ _=>rfl⟩
     ·simp[execOp,ho,g2,hv',Instr.mapUpdate,run_underlying hu,kY hkt,Instr.findKey,run_underlying hkt,hgo,f2 hf,MapKept.run_setObj_map _ q1,Result.andThen]
     ·rw[zG];exact key.1
    ·refine⟨es'.push { key:=.int kd n,val:=a.eval y,born:=cl },cl+1,by simp[hbl],?_⟩
     rw[jQ,Array.toList_push];exact q2.append ⟨⟨rfl,hw⟩,trivial⟩
   ·cases h
  ·cases h
 ·cases h
theorem PQ(hs:eC β st a w){f:FuncId}{fn:Func}{sub:Bool}{args:Array Operand}{ts:Array TypeId}{x y z:Operand}{ax ay az:X}(hf:P.funcs[f]?=some fn)(hb:nR fn=some sub)(hl:args.toList=[x,y,z])
  (hx:cX x=some ax) (hy:cX y=some ay) (hz:cX z=some az) (ho:o.op=.call { callee:=.value (.func f),args,argTypes:=ts }) (h:xQ st.t sub ax ay az=some (v,e)):cG P β st.h nid o a w v e:=by
 have hv1:=aR hs hx
 have hv2:=aR hs hy
 have hv3:=aR hs hz
 unfold xQ at h;split at h
 case h_2=>cases h
 rename_i m n c he1 he2 he3;rw[he1]at hv1;rw[he2]at hv2;rw[he3]at hv3
 have hv1:a.eval x=.int .u64 m:=hv1
 have hv2:a.eval y=.int .u64 n:=hv2
 have hv3:a.eval z=.int .u64 c:=hv3
 have h0:=eY h
 clear h;obtain⟨hbb,h⟩:=h0;rw[bR,bR,bR,bR,fL,fL,kX,fL,fL]at hbb;obtain⟨g0,g1,g2,g3,g4⟩:=hbb
 have hargs:args.map a.eval = #[.int .u64 m,.int .u64 n,.int .u64 c]:=by
  apply bW.1;rw[Array.toList_map,hl];simp[hv1,hv2,hv3]
 have hbn:fn.body.isNone=true∧Extern.findNext fn=none∧((sub=false∧fn.name = "math/bits.Add64")∨(sub=true∧fn.name = "math/bits.Sub64")):=by
  unfold nR at hb;split at hb
  ·cases hb
  ·rename_i hbody
   split at hb
   ·cases hb
   ·rename_i sub' hsub
    split at hb
    ·rename_i hn
     injection hb with hb;subst hb;refine⟨by rw[hbody];rfl,by simpa using hn,?_⟩;split at hsub
     ·rename_i hnm
      injection hsub with hsub;exact .inl ⟨hsub.symm,by simpa using hnm⟩
     ·split at hsub
      ·rename_i hnm
       injection hsub with hsub;exact .inr ⟨hsub.symm,by simpa using hnm⟩
      ·cases hsub
    ·cases hb
 obtain⟨hbd,hfn,hs1⟩:=hbn
 have e:a.eval (.func f)=.func (.func f) #[] #[]:=rfl
 rcases hs1 with⟨rfl,hnm⟩|⟨rfl,hnm⟩
 ·have hfind:Extern.find fn=some add64Entry:=by
    cases fn;simp only at hnm;subst hnm;rfl
  have hr:=run_callFunc_extern hf (by rw[hnm];rfl) hbd hfn hfind #[.int .u64 m,.int .u64 n,.int .u64 c] w
  rw[run_add64 m n c g0 g1 g3 g4]at hr;simp only[Result.andThen]at hr;simp only[wR]at h;cases h;refine cG.same hs (u:=.tuple #[.int .u64 ((m+n+c)%18446744073709551616),.int .u64 ((m+n+c) / 18446744073709551616)]) ?_ ⟨_,rfl,⟨rfl,rfl,trivial⟩⟩;simp only[execOp,ho,resolve,e,Deferred.ofValue,invoke,hargs];simp[hr]
 ·have hfind:Extern.find fn=some Go.Proofs.sub64Entry:=by
    cases fn;simp only at hnm;subst hnm;rfl
  have hr:=run_callFunc_extern hf (by rw[hnm];rfl) hbd hfn hfind #[.int .u64 m,.int .u64 n,.int .u64 c] w
  obtain⟨m',rfl⟩:=dQ g0;obtain⟨n',rfl⟩:=dQ g1;obtain⟨c',rfl⟩:=dQ g3;rw[Go.Proofs.run_sub64 m' n' c' (by omega)]at hr
  have r1:(((m'+18446744073709551616-n'-c')%18446744073709551616:Nat):Int)=((m':Int)+18446744073709551616-(n':Int)-(c':Int))%18446744073709551616:=by omega
  have r2:((if m'<n'+c' then 1 else 0:Nat):Int)=(match OM (m':Int) ((n':Int)+(c':Int)) with|true=>1|false=>0):=by
    cases hz:OM (m':Int) ((n':Int)+(c':Int)) with
    |true=>have:=kX.1 hz;rw[if_pos (by omega)];rfl
    |false=>
     have:¬(m':Int)<(n':Int)+(c':Int):=fun q=>by rw[kX.2 q]at hz;cases hz
     rw[if_neg (by omega)];rfl
  rw[r1,r2]at hr;simp only[Result.andThen]at hr;simp only[wR]at h;cases h;refine cG.same hs (u:=.tuple #[.int .u64 (((m':Int)+18446744073709551616-(n':Int)-(c':Int))%18446744073709551616),.int .u64 (match OM (m':Int) ((n':Int)+(c':Int)) with|true=>1|false=>0)]) ?_ ⟨_,rfl,⟨rfl,rfl,trivial⟩⟩;simp only[execOp,ho,resolve,e,Deferred.ofValue,invoke,hargs];simp[hr]
theorem aBR(β:Bt)(s:ByteArray):All2 (CR β) (mp (fun k=>C.f (.i .u8 (aF k))) (s.data.toList.map eT)) (s.data.toList.map fun b=>fM .u8 (b.toNat:Int)):=by
 rw[QK,List.map_map]
 generalize s.data.toList=l
 induction l with
 |nil=>trivial
 |cons c l ih=>exact⟨rfl,ih⟩
theorem SI{x:C}{l:List C}:OG (x::l)=(match aG8 x,OG l with
 |some k,some r=>some (k::r)
 |_,_=>none):=rfl
theorem yH:∀ {cs:List C} {us:List Value} {l:List Nat},All2 (CR β) cs us→OG cs=some l→us=l.map (fun k:Nat=>fM .u8 (k:Int))∧∀k∈l,k≤255
 |[],[],l,_,he=>by have he:some []=some l:=he;cases he;exact⟨rfl,fun k hk=>by cases hk⟩
 |[],_::_,_,h,_=>h.elim
 |_::_,[],_,h,_=>h.elim
 |x::cs,u::us,l,h,he=>by
  rw[SI]at he;split at he
  ·rename_i k r h1 h2
   cases he;obtain⟨e1,e2⟩:=yH h.2 h2;unfold aG8 at h1;split at h1
   ·split at h1
    ·rename_i m hm
     cases h1
     have hu:u=.int .u8 (aF k):=h.1
     subst hu;refine⟨by rw[e1];rfl,fun j hj=>?_⟩
     rcases List.mem_cons.1 hj with rfl|hj
     ·exact aQ hm
     ·exact e2 j hj
    ·cases h1
   ·cases h1
  ·cases he
theorem aMN(hs:eC β st a w){s0 t el:TypeId}{x:Operand}{ax:X}(hu0:P.underlying s0=some (.slice el))(hel:P.underlying el=some (.int .u8))(hu:P.underlying t=some .string)(hx:cX x=some ax)(ho:o.op=.convert s0 t x)(h:QG st.t st.h ax=some (v,e)):cG P β st.h nid o a w v e:=by
 unfold QG at h;split at h
 case h_2=>cases h
 rename_i m cs hsrc;obtain⟨A,c,news,g1,g2,g3,g4,g5⟩:=yU hs hx hsrc;split at h
 case h_2=>cases h
 rename_i l hl;cases h;obtain⟨e1,e2⟩:=yH g5 hl
 have hlen:l.length=m:=by rw[e1]at g2;simpa using g2
 have hfr:FR β (.s l) (.string ⟨(l.map UInt8.ofNat).toArray⟩):=by
  refine⟨_,rfl,?_⟩;simp only[List.map_map]
  conv=>rhs;rw[←List.map_id l]
  exact List.map_congr_left fun k hk=>by
   have:=e2 k hk
   simp;omega
 refine cG.same hs (u:=.string ⟨(l.map UInt8.ofNat).toArray⟩) ?_ hfr;cases A with
 |none=>
  obtain rfl:=g3 rfl;obtain rfl:l=[]:=List.eq_nil_of_length_eq_zero hlen
  have hr:=run_convert_bytes_string (P:=P) w s0 t el none 0 c hu0 hel hu
  have:(Go.convert s0 t (.slice none 0 c)).run P w=.ok (.string ⟨#[]⟩) w:=by
   rw[hr];simp[Conv.bytesToString,loadCells];rfl
  simp[execOp,ho,g1,this]
 |some ad=>
  have hr:=run_convert_bytes_back (P:=P) w s0 t el ad c (l.map UInt8.ofNat) hu0 hel hu (fun j hj=>by
   have hj':j<l.length:=by simpa using hj
   refine(g4 ad rfl j (.int .u8 (l[j]:Int)) ?_).trans ?_
   ·rw[e1,dJ,aN hj'];rfl
   ·have:=e2 l[j] (List.getElem_mem hj')
    simp only[List.getElem_map];congr 3
    simp;omega)
  rw[gP,hlen]at hr;simp[execOp,ho,g1,hr]
theorem aMJ(hs:eC β st a w)(hid:β nid=none){s0 t el:TypeId}{x:Operand}{ax:X}(hu0:P.underlying s0=some .string)(hu:P.underlying t=some (.slice el))(hel:P.underlying el=some (.int .u8))(hx:cX x=some ax)(ho:o.op=.convert s0 t x)(h:JM st.t nid el ax=some (v,e)):cG P β st.h nid o a w v e:=by
 have hv:=aR hs hx
 unfold JM at h;split at h
 case h_2=>cases h
 rename_i l he;rw[he]at hv;obtain⟨s,hv,rfl⟩:=hv;cases h
 have hln:=oG s
 unfold qV at hln
 obtain⟨q,hq⟩:∃q,q=(Question.appendCap s.size 0 el):=⟨_,rfl⟩
 obtain⟨cap,hcap⟩:∃cap,cap=q.cut (w.tape w.drawn q):=⟨_,rfl⟩
 have hle:s.size≤cap:=by rw[hcap,hq];simp[Question.cut]
 obtain⟨cs,hcs⟩:∃cs:Array Value,cs=(s.data.map fun b=>fM .u8 (b.toNat:Int))++Array.replicate (cap-s.size) (.int .u8 0):=⟨_,rfl⟩
 obtain⟨w1,hw1⟩:∃w1,w1=w.drew.alloc (.cells cs el):=⟨_,rfl⟩
 have hsz1:w1.heap.size=w.heap.size+1:=by rw[hw1,World.size_alloc];rfl
 have hnew:w1.heap[w.heap.size]?=some (.cells cs el (0,0)):=by rw[hw1];exact heap_alloc_new w.drew _
 have hold:∀b,b<w.heap.size→w1.heap[b]?=w.heap[b]?:=fun b hb=>by rw[hw1];exact AE.heap_push_lt w.drew _ hb
 have hcsz:cs.size=cap:=by
  rw[hcs];simp
  have:s.data.size=s.size:=rfl
  omega
 have hrun:(Conv.stringToBytes el s).run P w=.ok (.slice (some ⟨w.heap.size,0,none⟩) s.size cap) (w1.freeze ⟨w.heap.size,cs.size,none⟩ 1):=by
  unfold Conv.stringToBytes
  have hf:(Question.appendCap s.size 0 el).forced=false:=rfl
  simp only[Sem.run_bind,run_choose_drew,hf,Bool.false_eq_true,if_false,Result.andThen_ok];rw[←hq,←hcap,←hcs]
  have hnr:(newRow el cs).run P w.drew=.ok ⟨w.heap.size,0,none⟩ w1:=by rw[hw1];simp[newRow]
  have hmk:(markStringish ⟨w.heap.size,0,none⟩).run P w1=.ok () (w1.freeze ⟨w.heap.size,cs.size,none⟩ 1):=by
   simp[markStringish,shape,freeze,Sem.run,World.shape?,hnew]
  simp only[hnr,hmk,Result.andThen_ok,Sem.run_pure]
 obtain⟨w2,hw2⟩:∃w2,w2=w1.freeze ⟨w.heap.size,cs.size,none⟩ 1:=⟨_,rfl⟩
 rw[←hw2]at hrun
 have h2sz:w2.heap.size=w.heap.size+1:=by rw[hw2];simp[World.freeze,hsz1]
 have h2new:w2.heap[w.heap.size]?=some (.cells cs el (cs.size,cs.size+1)):=by
  rw[hw2];simp[World.freeze,Array.getElem?_modify,hnew]
 have h2old:∀b,b<w.heap.size→w2.heap[b]?=w.heap[b]?:=fun b hb=>by
  rw[hw2,←hold b hb];simp[World.freeze,Array.getElem?_modify,show ¬w.heap.size=b by omega]
 have h2os:w2.os=w.os:=by rw[hw2,hw1];rfl
 have h2tp:w2.tape=w.tape:=by rw[hw2,hw1];rfl
 have h2ou:w2.output=w.output:=by rw[hw2,hw1];rfl
 have hobj:OR (fu β nid (some (w.heap.size,cs.size))) w2 (.rdb el (mp (fun k=>C.f (.i .u8 (aF k))) (s.data.toList.map eT))) w.heap.size cs.size:=by
  refine⟨cs,_,h2new,rfl,?_,fun k c hk=>?_⟩
  ·rw[QK,gP,hln,hcsz];exact hle
  ·obtain⟨u,q1,q2⟩:=(aBR (fu β nid (some (w.heap.size,cs.size))) s).get k c hk
   refine⟨u,?_,q2⟩;rw[hcs]
   have hk2:k<s.data.size:=by
    have:=(aV.1 q1).1
    simpa using this
   rw[Array.getElem?_append_left (by simpa using hk2)];rw[←Array.toList_map,bC]at q1;exact q1
 obtain⟨r1,r2⟩:=aOC hs.hs hid h2os h2tp h2ou h2sz h2old hobj;refine⟨.slice (some ⟨w.heap.size,0,none⟩) s.size cap,w2,fu β nid (some (w.heap.size,cs.size)),.inl ?_,?_,?_,r2,fun i hi=>cT _ (YB hi)⟩
 ·have hc:(Go.convert s0 t (.string s)).run P w=(Conv.stringToBytes el s).run P w:=by
    unfold Go.convert;simp[run_underlying hu0,run_underlying hu,run_underlying hel]
  simp[execOp,ho,hv,hc,hrun]
 ·rw[gF,hln]
  exact⟨_,cap,rfl,hle,(fun hx=>by cases hx),.inr ⟨w.heap.size,cs.size,eV _ _ _,by simp,by rw[hcsz];simp,fun hx=>by cases hx⟩⟩
 ·rw[zH];exact r1
theorem aMK(hs:eC β st a w)(hid:β nid=none){t:TypeId}{x:Operand}{ax:X}(hu:P.underlying t=some .string)(hx:cX x=some ax)(ho:o.op=.range t x)(h:JN st.t nid ax=some (v,e)):cG P β st.h nid o a w v e:=by
 have hv:=aR hs hx
 unfold JN at h;split at h
 case h_2=>cases h
 rename_i l he;rw[he]at hv;obtain⟨s,hv,rfl⟩:=hv;cases h;obtain⟨h1,h2⟩:=kT hs.hs hid (x:=.sit (s.data.toList.map eT) 0) (o:=.stringIter s 0) (N:=0) (fun w' hb=>⟨s,hb,rfl⟩);refine⟨.pointer (some ⟨w.heap.size,0,none⟩),_,_,.inl ?_,⟨_,_,eV _ _ _,rfl⟩,?_,h2,fun i hi=>cT _ (YB hi)⟩
 ·have:=run_range_string (P:=P) w t s hu
  simp[execOp,ho,hv,this,World.iter]
 ·rw[zH];exact h1
theorem aML(hs:eC β st a w){x:Operand}{ax:X}(hx:cX x=some ax)(ho:o.op=.next x true)(h:PX st.t st.h ax=some (v,e)):cG P β st.h nid o a w v e:=by
 have hv:=aR hs hx
 unfold PX at h;split at h
 case h_2=>cases h
 rename_i id he;rw[he]at hv;obtain⟨b,N,g1,g2⟩:=hv;split at h
 case h_2=>cases h
 rename_i l pos hid
 have hob:=hs.hs.obj id b N g1
 rw[hid]at hob;obtain⟨s,q1,rfl⟩:=hob
 have hln:=oG s
 unfold qV at hln
 have hgo:(getObj b).run P w=.ok (.stringIter s pos) w:=by simp[getObj,Sem.run,q1]
 split at h
 ·rename_i hlt
  rw[gF,hln]at hlt
  have hlt:pos<s.size:=aQ hlt
  have h0:=eY h
  clear h;obtain⟨hb,h⟩:=h0;cases h
  have hlt2:pos<s.data.toList.length:=by simpa using hlt
  have hbyte:bN 0 (s.data.toList.map eT) pos=(s[pos]'hlt).toNat:=by
   rw[eK,aG,dJ,aN hlt2];rfl
  rw[hbyte]at hb ⊢
  have hb:(s[pos]'hlt).toNat<128:=aQ hb
  have hbl:b<w.heap.size:=hs.hs.lt id b N g1
  have hset:(setObj b (.stringIter s (pos+1))).run P w=.ok () { w with heap:=w.heap.setIfInBounds b (.stringIter s (pos+1)) }:=by simp[setObj,Sem.run,q1]
  have hrun:(Instr.next (.pointer (some ⟨b,0,none⟩)) true o.type).run P w=.ok (.tuple #[.bool true,.int .i64 pos,.int .i32 (s[pos]'hlt).toNat]) { w with heap:=w.heap.setIfInBounds b (.stringIter s (pos+1)) }:=by
   unfold Instr.next;simp only[Sem.run_bind,hgo,Result.andThen_ok,hlt,if_true,decode_ascii s pos hlt hb,hset];simp[goInt]
  have key:=pP hs.hs g1 (by rw[hid];rfl) (w':={ w with heap:=w.heap.setIfInBounds b (.stringIter s (pos+1)) }) (x:=.sit (s.data.toList.map eT) (pos+1)) rfl rfl rfl (by simp) (fun j hj=>by simp[dM (Ne.symm hj)]) ⟨s,by simp[hbl],rfl⟩
  refine⟨.tuple #[.bool true,.int .i64 pos,.int .i32 (s[pos]'hlt).toNat],_,β,.inl ?_,⟨_,rfl,⟨rfl,rfl,rfl,trivial⟩⟩,?_,key.2,fun _ _=>rfl⟩
  ·simp[execOp,ho,g2,hrun]
  ·rw[zG];exact key.1
 ·rename_i hlt
  rw[gF,hln]at hlt
  have hlt:¬pos<s.size:=fun q=>by
   have:cU pos s.size=true:=Nat.ble_eq_true_of_le q
   rw[hlt]at this;cases this
  cases h;refine cG.same hs (u:=.tuple #[.bool false]) ?_ ⟨_,rfl,⟨rfl,trivial⟩⟩
  have hrun:(Instr.next (.pointer (some ⟨b,0,none⟩)) true o.type).run P w=.ok (.tuple #[.bool false]) w:=by
   unfold Instr.next;simp only[Sem.run_bind,hgo,Result.andThen_ok,hlt,if_false];simp
  simp[execOp,ho,g2,hrun]
theorem MF(hs:eC β st a w){x i:Operand}{ax ai:X}{t el:TypeId}{m sz:Nat}{n:Option Nat}(hu:P.underlying t=some (.array m el))(hsz:dK P el=some sz)(hn:gI P el=some n)(hx:cX x=some ax)(hi:cX i=some ai)(ho:o.op=.index t x i)
  (h:EP st.t sz m n ax ai=some (v,e)):cG P β st.h nid o a w v e:=by
 have hv:=aR hs hx
 have hv':=aR hs hi
 unfold EP at h;split at h
 case h_2=>cases h
 rename_i cs kd k he he2;rw[he]at hv;rw[he2]at hv'
 have hv':a.eval i=.int kd k:=hv'
 obtain⟨us,hus,ha⟩:=hv
 have h0:=eY h
 clear h;obtain⟨hb,h⟩:=h0;cases h;rw[bR,bR,fL,kX,gF]at hb;obtain⟨⟨h1,h2⟩,c1⟩:=hb
 have c1:k.toNat*sz+gZ n≤cs.length:=aQ c1
 have hlen:=ha.length
 have hsz2:us.toList.length=us.size:=by simp
 have hl:(us.extract (k.toNat*sz) (k.toNat*sz+gZ n)).toList.length=gZ n:=by simp;omega
 have e1:Nat.mul k.toNat sz=k.toNat*sz:=rfl
 rw[e1];refine cG.same hs (u:=AE.ldV (us.extract (k.toNat*sz) (k.toNat*sz+gZ n)).toList n) ?_ (iX c1 hl ?_)
 ·cases n with
  |none=>
   have hlt:k.toNat*sz<us.size:=by simp only[gZ]at c1;omega
   simp[execOp,ho,hus,hv',Instr.index,asIntOf,run_underlying hu,h1,h2,AE.run_sizeOf hsz,part,AE.run_isAgg (AE.cellsO_none hn),hlt,AE.ldV,gZ]
  |some q=>
   obtain⟨p1,p2⟩:=AE.cellsO_some hn
   have hq:q=sz:=by rw[p2]at hsz;injection hsz
   subst hq;simp[execOp,ho,hus,hv',Instr.index,asIntOf,run_underlying hu,h1,h2,AE.run_sizeOf hsz,part,AE.run_isAgg p1,AE.ldV,gZ,-Array.toList_extract]
 ·intro j c u hc hj
  have hjl:j<gZ n:=by have:=(aV.1 hj).1;omega
  obtain⟨u',q1,q2⟩:=ha.get (k.toNat*sz+j) c hc;rw[bC,Array.getElem?_extract,if_pos (by omega)]at hj;rw[bC,hj]at q1;injection q1 with q1;subst q1;exact q2
end
open Go.AE (All2 gZ dK iC rA gI iA iB vK lG kN tR nR)
section
variable {P:Program} {β:Bt} {w:World} {st:St} {a:Act} {o:Oper} {nid:Nat} {v:V} {e:pZ}
theorem LJ{α γ:Type}{R:α→γ→Prop}:∀(k:Nat) {xs:List α} {ys:List γ},All2 R xs ys→All2 R (xs.take k) (ys.take k)
 |0,_,_,_=>trivial
 |_+1,[],[],_=>trivial
 |_+1,[],_::_,h=>h.elim
 |_+1,_::_,[],h=>h.elim
 |k+1,_::_,_::_,h=>⟨h.1,LJ k h.2⟩
theorem aHV(hs:eC β st a w){x y:Operand}{ax ay:X}{t el:TypeId}(hu:P.underlying t=some (.slice el))(hsz:tR P el=true)(hx:cX x=some ax)(hy:cX y=some ay)
  (ho:o.op=.call { callee:=.builtin .copy,args := #[x,y],argTypes := #[t,t] }) (h:EV st.t st.h 1 ax ay=some (v,e)):cG P β st.h nid o a w v e:=by
 have hv:=aR hs hx
 have hsz:(P.info? el).map (·.size)=some 1:=by
  unfold tR dK at hsz;split at hsz
  ·rename_i h1;exact h1
  ·cases hsz
 unfold EV at h;split at h
 case h_2=>cases h
 rename_i m news hsrc;obtain⟨A,c,nw,s1,s2,s3,s4,s5⟩:=yU hs hy hsrc;split at h
 case h_2=>cases h
 rename_i id sz' off n he;rw[he]at hv;obtain⟨A',c',g1,g2,g3,g4⟩:=hv;split at h
 case h_2=>cases h
 rename_i x0 ty vs hid;rw[aFH]at h
 obtain⟨q,hq⟩:∃q,q=aNX m n:=⟨_,rfl⟩
 rw[←hq]at h
 have hq:q=Nat.min m n:=by
  rw[hq];unfold aNX;split
  ·rename_i h1;exact(Nat.min_eq_left (aQ h1)).symm
  ·rename_i h1
   have:¬m≤n:=fun h2=>by rw[Nat.ble_eq_true_of_le h2]at h1;cases h1
   exact(Nat.min_eq_right (by omega)).symm
 have hqm:q≤m:=by rw[hq];exact Nat.min_le_left _ _
 have hqn:q≤n:=by rw[hq];exact Nat.min_le_right _ _
 have h0:=eY h
 clear h;obtain⟨hb,h⟩:=h0;cases h
 have e1:Nat.mul q 1=q:=Nat.mul_one q
 rw[e1]at hb ⊢;rw[AK]at hb ⊢;rw[bR,bR,gF]at hb;obtain⟨b1,b3,b4⟩:=hb;obtain rfl:=aH b1
 have b3:(off+q)*1≤vs.length:=aQ b3
 have s6:All2 (CR β) (news.take q) (nw.take q):=LJ q s5
 have hones:∀u∈nw.take q,u.oneCell'=true:=kD s6 (gN b4)
 have hnl:(nw.take q).length=q:=by rw[List.length_take,s2,Nat.mul_one];omega
 have e0:Nat.mul off 1=off:=Nat.mul_one off
 rw[e0]
 by_cases hm:q=0
 ·have hset:jK vs off (news.take q)=vs:=by
    rw[hm,List.take_zero];unfold jK;rw[jQ,jQ,AK,GP]
    have:fQ off (len ([]:List C))=off:=rfl
    rw[this];simp
  rw[hset]
  have hrun:=run_copy_none (P:=P) w t t o.type el A' A n c' m c hu hsz (by rw[←hq];exact hm)
  refine⟨goInt 0,w,β,.inl (by simp[execOp,ho,resolve,invoke,builtin,g1,s1,hrun]),by rw[hm];rfl,?_,Gr.refl _ _,fun _ _=>rfl⟩;rw[zG]
  have:fu st.h id (.blk x0 ty vs)=st.h:=by
   funext i;unfold fu
   by_cases e:i=id
   ·rw[if_pos e,e,hid]
   ·rw[if_neg e]
  rw[this];exact hs.hs
 ·rcases g4 with⟨_,g5,_⟩|⟨b,N,g5,rfl,g7⟩
  ·omega
  ·cases A with
   |none=>exact absurd (s3 rfl) (by omega)
   |some ad=>
    obtain⟨r1,r2,r3⟩:=AG hs.hs g5 hid (off:=off) (by rw[s6.length,hnl];omega) s6
    have e1:(⟨b,off*1,none⟩:Addr)=⟨b,off,none⟩:=by rw[Nat.mul_one]
    have hth:∀j,j<(nw.take q).length→(w.cell? ⟨b,off+j,none⟩).isSome=true∧w.frozen? ⟨b,off+j,none⟩=false:=fun j hj=>r3 j hj
    have hrun:=run_copy_cells (P:=P) w t t o.type el b off n c' ad m c (nw.take q) hu hsz (by rw[hnl,hq]) (fun j v hj=>s4 ad rfl j v (by
      rw[List.getElem?_take]at hj;split at hj
      ·exact hj
      ·cases hj)) (fun j hj=>(hth j hj).1) (fun j hj=>(hth j hj).2) hones
    rw[hnl]at hrun;refine⟨goInt q,_,β,.inl (by simp[execOp,ho,resolve,invoke,builtin,g1,e1,s1,hrun]),rfl,?_,r2,fun _ _=>rfl⟩;rw[zG];exact r1
set_option maxHeartbeats 4000000 in
theorem JK(hs:eC β st a w)(hid:β nid=none){op:CF}(hc:gY P o.op=some op)(h:lI st.t st.h nid op=some (v,e)):cG P β st.h nid o a w v e:=by
 cases hop:o.op
 all_goals rw[hop]at hc
 all_goals try (simp only[gY]at hc;cases hc;done)
 case move x=>
  simp only[gY,aM]at hc;obtain⟨ax,hx,rfl⟩:=hc;cases h;exact PO hs hx (.inl hop)
 case assign x=>
  simp only[gY,aM]at hc;obtain⟨ax,hx,rfl⟩:=hc;cases h;exact PO hs hx (.inr hop)
 case pick c x y=>
  simp only[gY,aE,aB,aK,aD]at hc;obtain⟨ac,h1,ax,h2,ay,h3,rfl⟩:=hc;exact LX hs h1 h2 h3 hop h
 case alloc t=>
  simp only[gY,aM]at hc;obtain⟨z,hz,rfl⟩:=hc;cases h;exact DS hs hid hz hop
 case box t x=>
  simp only[gY,aM]at hc;obtain⟨ax,hx,rfl⟩:=hc;exact UD hs hid hx hop h
 case build t ps=>
  simp only[gY]at hc;split at hc
  ·rename_i fs hu
   simp only[aE,aB,aK,aD]at hc;obtain⟨places,h1,z,h2,l,h3,rfl⟩:=hc;exact tQ hs h2 h3 (.inl ⟨fs,places,hu,h1,rfl⟩) hop h
  ·rename_i n e hu
   simp only[aE,aB,aK,aD]at hc;obtain⟨s,h1,z,h2,l,h3,rfl⟩:=hc;exact tQ hs h2 h3 (.inr ⟨n,e,s,hu,h1,rfl⟩) hop h
  ·cases hc
 case load t x=>
  simp only[gY,aE,aB,aK,aD]at hc;obtain⟨n,h1,ax,h2,rfl⟩:=hc;exact MD hs h1 h2 hop h
 case store t x y=>
  simp only[gY,aE,aB,aK,aD]at hc;obtain⟨n,h1,ax,h2,ay,h3,rfl⟩:=hc;exact DP hs h1 h2 h3 hop h
 case binOp op t x y t'=>
  simp only[gY]at hc;split at hc
  ·split at hc
   ·simp only[aE,aB,aK,aD]at hc
    obtain⟨ax,h1,ay,h2,rfl⟩:=hc;exact MN hs h1 h2 hop h
   ·simp only[aE,aB,aK,aD]at hc
    obtain⟨ax,h1,ay,h2,rfl⟩:=hc;exact aDF hs h1 h2 hop h
  ·simp only[aE,aB,aK,aD]at hc
   obtain⟨ax,h1,ay,h2,rfl⟩:=hc;exact aDF hs h1 h2 hop h
  ·rename_i hu
   simp only[aE,aB,aK,aD]at hc;obtain⟨ax,h1,ay,h2,rfl⟩:=hc;exact aHX hs hu h1 h2 hop h
  ·rename_i fs hu
   split at hc
   ·rename_i neg hg hn
    simp only[aE,aB,aK,aD]at hc;obtain⟨l,h0,ax,h1,ay,h2,rfl⟩:=hc;exact UB hs hu hg hn h0 h1 h2 hop h
   ·cases hc
  ·rename_i n e hu
   split at hc
   ·rename_i neg hg hn hz
    simp only[aE,aB,aK,aD]at hc;obtain⟨pk,h0,ax,h1,ay,h2,rfl⟩:=hc;exact MK hs hu hg hn h0 hz h1 h2 hop h
   ·cases hc
  ·rename_i e hu
   split at hc
   ·rename_i neg hn
    simp only[aE,aB,aK,aD]at hc;obtain⟨ax,h1,ay,h2,rfl⟩:=hc;exact aDE hs hu hn h1 h2 hop h
   ·cases hc
  ·rename_i e hu
   split at hc
   ·rename_i neg hn
    simp only[aM]at hc;obtain⟨ax,h1,rfl⟩:=hc;exact LY hs hu hn h1 hop h
   ·cases hc
  ·rename_i k e hu
   split at hc
   ·rename_i neg hn
    simp only[aM]at hc;obtain⟨ax,h1,rfl⟩:=hc;exact aHQ hs hu hn h1 hop h
   ·cases hc
  ·cases hc
 case convert s t x=>
  simp only[gY]at hc;split at hc
  ·rename_i k0 k hs0 hu
   simp only[aM]at hc;obtain⟨ax,hx,rfl⟩:=hc;exact MM hs hu hx hop ⟨_,hs0⟩ h
  ·rename_i el h0 hu
   split at hc
   ·rename_i hel
    simp only[aM]at hc;obtain⟨ax,hx,rfl⟩:=hc;exact aMJ hs hid h0 hu hel hx hop h
   ·cases hc
  ·split at hc
   ·simp only[aM]at hc
    obtain⟨ax,hx,rfl⟩:=hc;rename_i h0 hu _ hel
    exact aMN hs h0 hel hu hx hop h
   ·cases hc
  ·cases hc
 case range t x=>
  simp only[gY]at hc;split at hc
  ·rename_i hu
   simp only[aM]at hc;obtain⟨ax,hx,rfl⟩:=hc;exact aMK hs hid hu hx hop h
  ·cases hc
 case next x b=>
  cases b with
  |true=>
   simp only[gY,aM]at hc;obtain⟨ax,hx,rfl⟩:=hc;exact aML hs hx hop h
  |false=>simp only[gY]at hc;cases hc
 case nilCheck x=>
  simp only[gY,aM]at hc;obtain⟨ax,hx,rfl⟩:=hc;exact LZ hs hx hop h
 case unOp op t x=>
  cases op
  all_goals try (simp only[gY]at hc;cases hc;done)
  case not=>
   simp only[gY,aM]at hc;obtain⟨ax,hx,rfl⟩:=hc;exact TV hs hx hop h
  case neg=>
   simp only[gY]at hc;split at hc
   ·simp only[aM]at hc
    obtain⟨ax,hx,rfl⟩:=hc;exact MA hs hx hop h
   ·simp only[aM]at hc
    obtain⟨ax,hx,rfl⟩:=hc;exact TW hs hx hop h
 case fieldAddr t x k=>
  simp only[gY,aE,aB]at hc;obtain⟨fs,h1,f,h2,s,h3,h4⟩:=hc
  have hu:P.underlying t=some (.struct fs):=by
   unfold iA at h1;split at h1
   ·rename_i fs' hu;injection h1 with h1;rw[hu,h1]
   ·cases h1
  split at h4
  ·cases h4
  ·rename_i s' hs'
   simp only[aK,aB,aD]at h4;obtain⟨ax,hx,rfl⟩:=h4;refine DQ hs hu h2 ?_ hx hop h;cases s with
   |zero=>exact absurd rfl hs'
   |succ s=>exact⟨s,h3⟩
 case field t x k=>
  simp only[gY,aE,aB,aK,aD]at hc;obtain⟨fs,h1,f,h2,n,h3,ax,h4,rfl⟩:=hc
  have hu:P.underlying t=some (.struct fs):=by
   unfold iA at h1;split at h1
   ·rename_i fs' hu;injection h1 with h1;rw[hu,h1]
   ·cases h1
  exact UA hs hu h2 h3 h4 hop h
 case indexAddr t x i=>
  simp only[gY]at hc;split at hc
  ·rename_i n e hA
   have hu:P.underlying t=some (.array n e):=by
    unfold vK at hA;split at hA
    ·rename_i n' e' hu;injection hA with hA;injection hA with e1 e2;rw[hu,e1,e2]
    ·cases hA
   split at hc
   ·rename_i k h1
    simp only[aE,aB,aK,aD]at hc;obtain⟨sz,h2,ax,h3,rfl⟩:=hc;unfold lG at h1;split at h1
    ·rename_i kd k'
     split at h1
     ·rename_i hb
      injection h1 with h1;subst h1;exact MH hs hu (by simpa using hb) h2 h3 hop h
     ·cases h1
    ·cases h1
   ·simp only[aE,aB,aK,aD]at hc
    obtain⟨sz,h2,ax,h3,ai,h4,rfl⟩:=hc;exact aHU hs hu h2 h3 h4 hop h
  ·simp only[aE,aB,aK,aD]at hc
   obtain⟨e,h1,sz,h2,ax,h3,ai,h4,rfl⟩:=hc
   have hu:P.underlying t=some (.slice e):=by
    unfold iB at h1;split at h1
    ·rename_i e' hu;injection h1 with h1;rw[hu,h1]
    ·cases h1
   exact MI hs hu h2 h3 h4 hop h
 case index t x i=>
  simp only[gY]at hc;split at hc
  ·rename_i hu
   simp only[aE,aB,aK,aD]at hc;obtain⟨ax,h1,ai,h2,rfl⟩:=hc;exact MG hs hu h1 h2 hop h
  ·rename_i n el hu
   simp only[aE,aB,aK,aD]at hc;obtain⟨sz,h0,n,h3,ax,h1,ai,h2,rfl⟩:=hc;exact MF hs hu h0 h3 h1 h2 hop h
  ·cases hc
 case extract x i=>
  simp only[gY,aE,aB,aK,aD]at hc;obtain⟨ax,h1,rfl⟩:=hc;exact MJ hs h1 hop h
 case call c=>
  simp only[gY]at hc;obtain⟨callee,args,ats⟩:=c;dsimp only at hc
  have elem:∀ {t el:TypeId},iB P t=some el→P.underlying t=some (.slice el):=by
   intro t el h1;unfold iB at h1;split at h1
   ·rename_i e' hu;injection h1 with h1;rw[hu,h1]
   ·cases h1
  split at hc
  ·rename_i f
   split at hc
   ·rename_i fn hf
    split at hc
    ·simp only[aM]at hc
     obtain⟨l,hl,rfl⟩:=hc;cases h
    ·split at hc
     ·rename_i sub x y z hcb hargs
      simp only[aE,aB,aK,aD]at hc;obtain⟨ax,hx,ay,hy,az,hz,rfl⟩:=hc;exact PQ hs hf hcb hargs hx hy hz hop h
     ·cases hc
   ·cases hc
  ·simp only[aE,aB,aK,aD]at hc
   obtain⟨ax,_,l,_,rfl⟩:=hc;cases h
  ·simp only[aE,aB,aK,aD]at hc
   obtain⟨ax,_,l,_,rfl⟩:=hc;cases h
  ·split at hc
   ·rename_i x t ha ht
    obtain rfl:args = #[x]:=bW.1 ha;obtain rfl:ats = #[t]:=bW.1 ht;split at hc
    ·rename_i e hu
     simp only[aM]at hc;obtain⟨ax,hx,rfl⟩:=hc;exact TZ hs hu hx hop h
    ·rename_i hu
     simp only[aM]at hc;obtain⟨ax,hx,rfl⟩:=hc;exact ME hs hu hx hop h
    ·cases hc
   ·cases hc
  ·split at hc
   ·rename_i x y ha
    obtain rfl:args = #[x,y]:=bW.1 ha;simp only[aE,aB,aK,aD]at hc;obtain⟨ax,h1,ay,h2,rfl⟩:=hc;exact TX hs h1 h2 hop h
   ·cases hc
  ·split at hc
   ·rename_i x y ha
    obtain rfl:args = #[x,y]:=bW.1 ha;simp only[aE,aB,aK,aD]at hc;obtain⟨ax,h1,ay,h2,rfl⟩:=hc;exact TY hs h1 h2 hop h
   ·cases hc
  ·split at hc
   ·rename_i x y t u ha ht
    obtain rfl:args = #[x,y]:=bW.1 ha;obtain rfl:ats = #[t,u]:=bW.1 ht;split at hc
    ·split at hc
     ·rename_i htu
      obtain rfl:=aH htu;simp only[aE,aB,aK,aD]at hc;obtain⟨e,h1,sz,h2,by_,h3,z,h4,ax,h5,ay,h6,rfl⟩:=hc;exact UE hs hid (elem h1) h2 h3 h4 h5 h6 hop h
     ·cases hc
    ·rename_i hu
     simp only[aE,aB]at hc;obtain⟨e,h1,hc⟩:=hc;split at hc
     ·rename_i hb
      simp only[aB,aK,aD]at hc;obtain⟨ax,h5,ay,h6,rfl⟩:=hc;exact aHZ hs hid (elem h1) hu hb h5 h6 hop h
     ·cases hc
    ·cases hc
   ·cases hc
  ·split at hc
   ·rename_i x t ha ht
    obtain rfl:args = #[x]:=bW.1 ha;obtain rfl:ats = #[t]:=bW.1 ht;split at hc
    ·rename_i e hu
     simp only[aM]at hc;obtain⟨ax,hx,rfl⟩:=hc;exact XW hs hu hx hop h
    ·cases hc
   ·cases hc
  ·split at hc
   ·rename_i x y t u ha ht
    obtain rfl:args = #[x,y]:=bW.1 ha;obtain rfl:ats = #[t,u]:=bW.1 ht;split at hc
    ·rename_i htu
     obtain rfl:=aH htu;simp only[aE,aB]at hc;obtain⟨e,h1,hc⟩:=hc;split at hc
     ·rename_i hb
      simp only[aB,aK,aD]at hc;obtain⟨ax,h5,ay,h6,rfl⟩:=hc;exact aHV hs (elem h1) hb h5 h6 hop h
     ·cases hc
    ·cases hc
   ·cases hc
  ·cases hc
 case panic x=>
  simp only[gY,aD]at hc;subst hc;cases h
 case makeInterface t x=>
  simp only[gY]at hc;split at hc
  ·cases hc
  ·rename_i d hd hu
   simp only[aM]at hc;obtain⟨ax,hx,rfl⟩:=hc;exact aHR hs hu (fun m e=>hd m e) hx hop h
  ·cases hc
 case typeAssert x xt t two=>
  simp only[gY]at hc;split at hc
  ·cases hc
  ·rename_i d hd hu
   simp only[aE,aB,aK,aD]at hc;obtain⟨z,hz,ax,hx,rfl⟩:=hc;exact aHN hs hu (fun m e=>hd m e) hz hx hop h
  ·cases hc
 case buildSlice t len ps=>
  simp only[gY,aE,aB,aK,aD]at hc;obtain⟨e,h1,sz,h2,z,h3,l,h4,rfl⟩:=hc
  have hu:P.underlying t=some (.slice e):=by
   unfold iB at h1;split at h1
   ·rename_i e' hu;injection h1 with h1;rw[hu,h1]
   ·cases h1
  exact UC hs hid hu h2 h3 h4 hop h
 case makeSlice t x y=>
  simp only[gY,aE,aB,aK,aD]at hc;obtain⟨e,h1,sz,h2,by_,h3,z,h4,ax,h5,ay,h6,rfl⟩:=hc
  have hu:P.underlying t=some (.slice e):=by
   unfold iB at h1;split at h1
   ·rename_i e' hu;injection h1 with h1;rw[hu,h1]
   ·cases h1
  exact MB hs hid hu h2 h3 h4 h5 h6 hop h
 case makeMap t r=>
  cases r with
  |some x=>simp only[gY]at hc;cases hc
  |none=>
   simp only[gY,aM]at hc;obtain⟨k,_,rfl⟩:=hc;cases h;exact PP hs hid hop
 case makeFunc f fs cs=>
  simp only[gY,aE,aB,aK,aD]at hc;obtain⟨lf,h1,lc,h2,rfl⟩:=hc;exact MC hs h1 h2 hop h
 case lookup t x k two=>
  simp only[gY]at hc;split at hc
  ·rename_i kd e hm
   simp only[aE,aB,aK,aD]at hc;obtain⟨z,h1,ax,h2,ay,h3,rfl⟩:=hc;exact XV hs hm h1 h2 h3 hop h
  ·cases hc
 case mapUpdate t x k y=>
  simp only[gY]at hc;split at hc
  ·rename_i kd e hm
   simp only[aE,aB,aK,aD]at hc;obtain⟨ax,h2,ay,h3,az,h4,rfl⟩:=hc;exact XU hs hm h2 h3 h4 hop h
  ·cases hc
 case slice t x lo hi mx=>
  cases mx with
  |some m=>
   cases hi with
   |none=>simp only[gY]at hc;cases hc
   |some hi=>
    simp only[gY]at hc;split at hc
    ·rename_i el hu
     simp only[aE,aB,aK,aD]at hc;obtain⟨sz,h0,ax,h1,al,h2,ah,h3,am,h4,rfl⟩:=hc;exact aHP hs hu h0 h1 h2 h3 h4 hop h
    ·cases hc
  |none=>
   simp only[gY]at hc;split at hc
   ·simp only[aE,aB,aK,aD]at hc
    rename_i hu;obtain⟨ax,h1,al,h2,ah,h3,rfl⟩:=hc;exact LW hs hu h1 h2 h3 hop h
   ·simp only[aE,aB,aK,aD]at hc
    rename_i e hu;obtain⟨sz,h0,ax,h1,al,h2,ah,h3,rfl⟩:=hc;exact TU hs hu h0 h1 h2 h3 hop h
   ·rename_i n e hu2
    simp only[aE,aB,aK,aD]at hc;obtain⟨sz,h0,ax,h1,al,h2,ah,h3,rfl⟩:=hc;exact aHO hs hu2 h0 h1 h2 h3 hop h
   ·cases hc
end
open Go.AE (All2)
structure Gn (n:Nat) (β:Bt) (w:World) (β':Bt) (w':World):Prop extends Gr β w β' w' where
 nb:∀i,i<n→β' i=β i
theorem Gn.refl(n:Nat)(β:Bt)(w:World):Gn n β w β w:=⟨Gr.refl _ _,fun _ _=>rfl⟩
theorem Gn.trans{n n':Nat}{β β' β'':Bt}{w w' w'':World}(h:Gn n β w β' w')(k:Gn n' β' w' β'' w'')(hn:n≤n'):Gn n β w β'' w'':=⟨h.toGr.trans k.toGr,fun i hi=>(k.nb i (by omega)).trans (h.nb i hi)⟩
def pR{α:Type}(U:Nat→Nat→Option α)(x0:Nat→α)(p:Nat→Bool):Nat→Nat→α
 |0,k=>x0 k
 |n+1,k=>if p n then (U n k).getD (pR U x0 p n k) else pR U x0 p n k
section
variable {α:Type} {U:Nat→Nat→Option α} {x0:Nat→α} {p q:Nat→Bool}
theorem nO:∀ {n k:Nat},(∀j,j<n→(U j k).isSome=true→p j=q j)→pR U x0 p n k=pR U x0 q n k
 |0,k,_=>rfl
 |n+1,k,h=>by
  have ih:=nO (n:=n) (k:=k) fun j hj=>h j (by omega)
  simp only[pR,ih];cases hu:U n k with
  |none=>simp
  |some y=>rw[h n (by omega) (by rw[hu];rfl)]
theorem GI{i:Nat}{q:Nat→Bool}(hq:∀j,j≠i→q j=p j)(hi:q i=true):∀ {n k:Nat},i<n→(∀j,i<j→j<n→p j=true→(U j k).isSome=true→(U i k).isSome=false) →
  p i=false→pR U x0 q n k=(U i k).getD (pR U x0 p n k)
 |0,k,h,_,_=>by omega
 |n+1,k,h,h1,h3=>by
  simp only[pR]
  by_cases e:i=n
  ·subst e
   rw[hi,h3]
   have:pR U x0 q i k=pR U x0 p i k:=nO fun j hj _=>hq j (by omega)
   rw[this];simp
  ·have ih:=GI hq hi (n:=n) (k:=k) (by omega) (fun j a b=>h1 j a (by omega)) h3
   rw[hq n (fun h=>e h.symm),ih];cases hp:p n with
   |false=>simp
   |true=>
    cases hu:U n k with
    |none=>simp
    |some y=>
     have hn:=h1 n (by omega) (by omega) hp (by rw[hu];rfl)
     cases hv:U i k with
     |none=>simp
     |some z=>rw[hv]at hn;cases hn
end
structure Rc where
 dst:Option Nat
 rs:Nat→Bool
 v:V
 up:Nat→Option O
 acc:Nat→Prop
 nw:Nat→Prop
def Rc.us(r:Rc)(k:Nat):Option V:=if r.dst=some k then some r.v else none
section
variable {F:Fence} {nn:Nat} {P:Program} {ops:Array Oper} {Q:Exit→Act→World→Prop} {rc:Nat→Rc} {t0:Nat→V} {h0:Nat→O} {N n0 nE m:Nat} {ds:List D} {anc:Nat→Nat→Prop} {β0:Bt} {w0:World}
def SY(rc:Nat→Rc)(t0:Nat→V)(h0:Nat→O)(nE m:Nat)(ds:List D)(N:Nat)(p:Nat→Bool):St:=⟨pR (fun i=>(rc i).us) t0 p N,pR (fun i=>(rc i).up) h0 p N,nE,m,ds⟩
theorem XI{β β':Bt}{st:St}{a:Act}{w w':World}(hs:eC β st a w)(k:Gr β w β' w'){h':Nat→O}{n':Nat}(hh:HS β' w' h')(hf:∀i,n'≤i→β' i=none){x:V}{u:Value}(hv:VR β' x u)(d:Option Nat)(hd:∀j,d=some j→j<st.m) :
  eC β' ⟨fun j=>if d=some j then x else st.t j,h',n',st.m,st.d⟩ (a.put d u) w':=by
 refine⟨?_,?_,?_,hh,hf,let ⟨N,hN⟩:=hs.gl;⟨N,k.bm _ _ hN⟩⟩
 ·have:(a.put d u).defers=a.defers:=by cases d<;>rfl
  rw[this];exact hs.df.mono fun _ _=>DR.keep k.bm
 ·have:(a.put d u).tmps.size=a.tmps.size:=by cases d<;>simp[Act.put]
  rw[this];exact hs.sz
 ·intro j
  cases d with
  |none=>exact VR.keep k.bm (hs.tm j)
  |some d=>
   have hdl:=hd d rfl
   rw[←hs.sz]at hdl
   show VR β' (if some d=some j then x else st.t j) ((a.tmps.setIfInBounds d u).getD j undef)
   by_cases e:d=j
   ·subst e
    rw[if_pos rfl];simpa[hdl] using hv
   ·rw[if_neg (by simpa using e)]
    have:=VR.keep k.bm (hs.tm j)
    simpa[dM e] using this
def aGG(F:Fence)(nn:Nat)(P:Program)(ops:Array Oper)(Q:Exit→Act→World→Prop)(rc:Nat→Rc)(t0:Nat→V)(h0:Nat→O)(N nE m:Nat)(ds:List D)(anc:Nat→Nat→Prop)(i:Nat):Prop:=
 ∀(t:Nat→V) (h:Nat→O) (a:Act) (w:World) (β:Bt),eC β ⟨t,h,nE,m,ds⟩ a w→(∀k,(rc i).rs k=true→t k=(SY rc t0 h0 nE m ds N fun j=>decide (j<i)).t k)→(∀id,(rc i).acc id→h id=(SY rc t0 h0 nE m ds N fun j=>decide (j<i)).h id) →
  (∀j,i≤j→j<N→(j=i∨anc i j)→∀id,(rc j).nw id→β id=none)→∀K:Act→World→Prop,(∀u w' β',VR β' (rc i).v u→HS β' w' (fun id=>((rc i).up id).getD (h id))→Gr β w β' w'→(∀id,¬(rc i).nw id→β' id=β id)→K (a.put (rc i).dst u) w')→wpOpIn F nn P ops Q i K a w
structure LK (ops:Array Oper) (rc:Nat→Rc) (N n0 nE m:Nat) (anc:Nat→Nat→Prop):Prop where
 len:ops.size=N
 anc_:∀i j o,ops[j]?=some o→anc i j→∃e∈o.after,eO .any e=true∧e.on<j∧(e.on=i∨anc i e.on)
 back:∀i o,ops[i]?=some o→∀e∈o.after,eO .any e=true→e.on<i
 ind:∀i j,i<j→j<N→¬anc i j→(∀k,((rc i).us k).isSome=true→(rc j).rs k=false∧((rc j).us k).isSome=false)∧(∀k,((rc j).us k).isSome=true→(rc i).rs k=false) ∧
  (∀id,((rc i).up id).isSome=true→¬(rc j).acc id∧((rc j).up id).isSome=false)∧∀id,((rc j).up id).isSome=true→¬(rc i).acc id
 new:∀i j,i<N→j<N→i≠j→∀id,(rc i).nw id→¬(rc j).nw id
 newl:∀i,i<N→∀id,(rc i).nw id→n0≤id∧id<nE
 dl:∀i,i<N→∀d,(rc i).dst=some d→d<m
theorem HJ(hok:LK ops rc N n0 nE m anc){listed:Array Bool}(inv:HeadInv .any ops N listed):∀(j:Nat) {i:Nat},j<N→listed.getD j false=true→anc i j→listed.getD i false=true:=by
 intro j;induction j using Nat.strongRecOn with
 |_ j ih=>
 intro i hj hl ha
 have hjs:j<ops.size:=by rw[hok.len];exact hj
 obtain⟨e,he,hb,hlt,h⟩:=hok.anc_ i j ops[j] (by simp[hjs]) ha
 have hle:=inv.closed j ops[j] (by simp[hjs]) hl e he hb
 rcases h with rfl|h
 ·exact hle
 ·exact ih e.on hlt (by omega) hle h
theorem TL(hok:LK ops rc N n0 nE m anc)(hstep:∀i,i<N→aGG F nn P ops Q rc t0 h0 N nE m ds anc i)
  (hQ:∀a w β,eC β (SY rc t0 h0 nE m ds N fun _=>true) a w→Gn n0 β0 w0 β w→Q .normal a w) :
  ∀(f:Nat) (listed:Array Bool) (a:Act) (w:World) (β:Bt),AE.cnt listed N=f→HeadInv .any ops N listed→eC β (SY rc t0 h0 nE m ds N fun j=>listed.getD j false) a w→Gn n0 β0 w0 β w →
   (∀j,j<N→listed.getD j false=false→∀id,(rc j).nw id→β id=none)→wpAnyIn F nn P .any ops Q f listed a w:=by
 intro f;induction f with
 |zero=>
  intro listed a w β hc inv hs hg hn
  have hall:=AE.cnt_zero hc
  refine⟨?_,hQ a w β ?_ hg⟩
  ·rw[List.eq_nil_iff_forall_not_mem]
   intro j hj;obtain⟨q1,oj,q2,_⟩:=mem_ready.1 hj
   have hjs:j<ops.size:=(bF.1 q2).1
   have:=hall j (by rw[←hok.len];exact hjs)
   rw[getD_both q1]at this;cases this
  ·have e:SY rc t0 h0 nE m ds N (fun j=>listed.getD j false)=SY rc t0 h0 nE m ds N fun _=>true:=by
     unfold SY;congr 1
     ·funext k;exact nO fun j hj _=>hall j hj
     ·funext k;exact nO fun j hj _=>hall j hj
   rwa [e]at hs
 |succ f ih=>
  intro listed a w β hc inv hs hg hn;obtain⟨i0,hi0,hu0,hb0⟩:=AE.cnt_pos (by omega:0<AE.cnt listed N)
  have hi0s:i0<ops.size:=by rw[hok.len];exact hi0
  have hr0:i0∈Region.ready .any ops listed:=mem_ready.2 ⟨getD_in (by rw[inv.size];exact hi0s) hu0,ops[i0],by simp[hi0s],fun e he hb=>hb0 e.on (hok.back i0 _ (by simp[hi0s]) e he hb)⟩
  refine⟨fun h=>(by rw[h]at hr0;cases hr0),fun i hi=>?_⟩;obtain⟨q1,o,q2,q3⟩:=mem_ready.1 hi
  have his:i<ops.size:=(bF.1 q2).1
  have hiN:i<N:=by rw[←hok.len];exact his
  have hun:=getD_both q1
  have hil:i<listed.size:=by rw[inv.size];exact his
  have d1:∀j,anc j i→listed.getD j false=true:=by
   intro j ha;obtain⟨e,he,hb,hlt,h⟩:=hok.anc_ j i o q2 ha
   have hle:=q3 e he hb
   rcases h with rfl|h
   ·exact hle
   ·exact HJ hok inv e.on (by omega) hle h
  have d2:∀j,j<N→listed.getD j false=true→¬anc i j:=fun j hj hl ha=>by
   have:=HJ hok inv j hj hl ha
   rw[hun]at this;cases this
  refine hstep i hiN _ _ a w β hs ?_ ?_ (fun j hij hj ha id hid=>?_) _ fun u w' β' hv hh hg' hb=>?_
  ·intro k hk
   refine nO fun j hj hu=>?_
   rcases Nat.lt_trichotomy j i with h|h|h
   ·simp only[h,decide_true]
    by_cases ha:anc j i
    ·exact d1 j ha
    ·have:=((hok.ind j i h hiN ha).1 k hu).1
     rw[hk]at this;cases this
   ·subst h;simp only[Nat.lt_irrefl,decide_false];exact hun
   ·simp only[show ¬j<i by omega,decide_false]
    cases hl:listed.getD j false with
    |false=>rfl
    |true=>
     have:=(hok.ind i j h hj (d2 j hj hl)).2.1 k hu
     rw[hk]at this;cases this
  ·intro id hk
   refine nO fun j hj hu=>?_
   rcases Nat.lt_trichotomy j i with h|h|h
   ·simp only[h,decide_true]
    by_cases ha:anc j i
    ·exact d1 j ha
    ·exact absurd hk ((hok.ind j i h hiN ha).2.2.1 id hu).1
   ·subst h;simp only[Nat.lt_irrefl,decide_false];exact hun
   ·simp only[show ¬j<i by omega,decide_false]
    cases hl:listed.getD j false with
    |false=>rfl
    |true=>exact absurd hk ((hok.ind i j h hj (d2 j hj hl)).2.2.2 id hu)
  ·refine hn j hj ?_ id hid
   rcases ha with rfl|ha
   ·exact hun
   ·cases hl:listed.getD j false with
    |false=>rfl
    |true=>exact absurd ha (d2 j hj hl)
  ·have hset:∀j,j≠i→(listed.setIfInBounds i true).getD j false=listed.getD j false:=fun j hj=>getD_set_ne false (fun e=>hj e.symm)
   have hsi:(listed.setIfInBounds i true).getD i false=true:=by simp[hil]
   refine ih _ _ w' β' (by have:=AE.cnt_set hil hun hiN;omega) (inv.set hi hiN) ?_ (hg.trans ⟨hg',fun id hid=>hb id fun q=>by have:=hok.newl i hiN id q;omega⟩ (aU _)) ?_
   ·have hput:=XI hs hg' hh (n':=nE) (fun id hid=>by
      rw[hb id fun q=>by have:=hok.newl i hiN id q;omega]
      exact hs.fr id hid) hv (rc i).dst (hok.dl i hiN)
    have e:SY rc t0 h0 nE m ds N (fun j=>(listed.setIfInBounds i true).getD j false)=⟨fun j=>if (rc i).dst=some j then (rc i).v else (SY rc t0 h0 nE m ds N fun j=>listed.getD j false).t j,fun id=>((rc i).up id).getD ((SY rc t0 h0 nE m ds N fun j=>listed.getD j false).h id),nE,m,ds⟩:=by
     unfold SY;congr 1
     ·funext k
      rw[GI (p:=fun j=>listed.getD j false) hset hsi hiN (fun j hj hjn hl hu=>by
       cases hq:((rc i).us k).isSome with
       |false=>rfl
       |true=>
        have:=((hok.ind i j hj hjn (d2 j hjn hl)).1 k hq).2
        rw[hu]at this;cases this) hun]
      show ((rc i).us k).getD _=_
      unfold Rc.us
      by_cases e:(rc i).dst=some k
      ·rw[if_pos e,if_pos e];rfl
      ·rw[if_neg e,if_neg e];rfl
     ·funext k
      exact GI (p:=fun j=>listed.getD j false) hset hsi hiN (fun j hj hjn hl hu=>by
       cases hq:((rc i).up k).isSome with
       |false=>rfl
       |true=>
        have:=((hok.ind i j hj hjn (d2 j hjn hl)).2.2.1 k hq).2
        rw[hu]at this;cases this) hun
    rw[e];exact hput
   ·intro j hj hl id hid
    have hji:j≠i:=fun e=>by rw[e,hsi]at hl;cases hl
    rw[hset j hji]at hl;rw[hb id fun q=>hok.new i j hiN hj (fun e=>hji e.symm) id q hid];exact hn j hj hl id hid
end
open Go.AE (All2 gI gZ)
structure EI where
 dst:Option Nat
 op:Option CF
 df:Option (X×List X)
 guard:Option (Nat×Bool)
 es:List Nat
inductive EC where
 |skip
 |reg (l:List EI)
 |dreg (l:List EI)
 |seq (a b:EC)
 |cond (x:X) (a b:EC)
 |block (id:Nat) (a:EC)
 |loop (a:EC)
 |exit (id:Nat)
 |ret
 |rfun (x:X) (ps:List Nat) (assign body:Code)
 |bad
def mC(ops:Array Oper):Option (Nat×Bool)→Option (Option (Nat×Bool))
 |none=>some none
 |some (j,want)=>((ops[j]?).bind (·.dst)).map fun d=>some (d,want)
def aBP:Op→Option (X×List X)
 |.defer c=>match c.callee with
  |.value x=>do pure (←cX x,←yN c.args.toList)
  |_=>none
 |_=>none
def KZ(o:Oper):List Nat:=(o.after.toList.filter fun e=>eO .any e).map (·.on)
def lE(P:Program)(ops:Array Oper)(o:Oper):Option EI:=do
 pure ⟨o.dst,gY P o.op,aBP o.op,←mC ops o.guard,KZ o⟩
def fZ(P:Program)(ops:Array Oper):List Oper→Option (List EI)
 |[]=>some []
 |o::r=>do pure ((←lE P ops o)::(←fZ P ops r))
def dB(P:Program):Code→EC
 |.skip=>.skip
 |.region _ ops draw=>match fZ P ops ops.toList,draw with
  |some l,false=>.reg l
  |some l,true=>match P.follows .mixedOrders with
   |true=>.dreg l
   |false=>.bad
  |none,_=>.bad
 |.seq a b=>.seq (dB P a) (dB P b)
 |.cond x a b=>match cX x with
  |some x=>.cond x (dB P a) (dB P b)
  |none=>.bad
 |.block id a=>.block id (dB P a)
 |.loop a=>.loop (dB P a)
 |.exit id=>.exit id
 |.ret=>.ret
 |.scope a=>dB P a
 |.label _=>.skip
 |.rangeFunc f ps assign body=>match cX f with
  |some x=>.rfun x ps.toList assign body
  |none=>.bad
 |_=>.bad
inductive AR where
 |tmp (t:Nat)
 |cell (t:Nat) (n:Option Nat)
def oX(P:Program):List ResultVar→Option (List AR)
 |[]=>some []
 |.tmp t::r=>(oX P r).map (.tmp t :: ·)
 |.cell t ty::r=>do pure (.cell t (←gI P ty)::(←oX P r))
structure FnC where
 m:Nat
 code:EC
 res:List AR
def cFn(P:Program)(fn:Func):Option FnC:=match fn.body,oX P fn.results.toList,fn.name != "runtime.NumGoroutine" with
 |some c,some rs,true=>some ⟨fn.ntmps,dB P c,rs⟩
 |_,_,_=>none
noncomputable def tab(P:Program)(f:Nat):Option FnC:=bN none (mp (cFn P) P.funcs.toList) f
inductive Ex where
 |normal
 |exit (id:Nat)
 |ret
structure TS where
 t:T V
 h:T O
 n:Nat
 d:List D
inductive Cl where
 |fn (f:FuncId)
 |yl (id:Nat)
abbrev mY:=Cl→List V→T O→Nat→Option (V×T O×Nat)
noncomputable def gV(t:T V):Nat→V:=get (.t []) t
noncomputable def gO(h:T O):Nat→O:=get .gone h
noncomputable def put(m:Nat)(t:T V)(dst:Option Nat)(v:V):Option (T V):=match dst with
 |none=>some t
 |some k=>match eB (cU k m) (cU k 16777000) with
  |true=>some (set (.t []) v 24 k t)
  |false=>none
noncomputable def iK(id:Nat)(o:O)(h:T O):T O:=set .gone o 24 id h
noncomputable def SA(h:T O)(n:Nat):pZ→Option (T O×Nat)
 |.no=>some (h,n)
 |.wr id o=>match eB (bS 1 id) (cU id 16777000) with
  |true=>some (iK id o h,n)
  |false=>none
 |.nw o=>match eB (bS 1 n) (cU n 16777000) with
  |true=>some (iK n o h,gB n)
  |false=>none
 |.ap id o=>match eB (eB (bS 1 id) (cU id 16777000)) (eB (bS 1 n) (cU n 16777000)) with
  |true=>some (iK n o (iK id .gone h),gB n)
  |false=>none
def fV(x:F):V:=.c (.f x)
def QM(P:Program)(t:TypeId)(name:String):Option FuncId:=match P.underlying t,P.info? t with
 |some (.pointer _),some i=>match i.methods.find? (·.name==name) with
  |some m=>match m.path.toList,m.func with
   |[],some (f,true)=>some f
   |_,_=>none
  |none=>none
 |_,_=>none
def aKX(P:Program)(t:TypeId):Bool:=match P.underlying t with
 |some (.interface _)=>true
 |_=>false
noncomputable def pY(P:Program)(t:Nat→V):CF→Option (Cl×List V)
 |.call f args=>some (.fn f,KU t args)
 |.callv x args=>match ev t x with
  |.c (.fn (.func f) first cap)=>some (.fn f,ap (mp fV first) (ap (KU t args) (mp fV cap)))
  |.c (.f (.yld id))=>some (.yl id,KU t args)
  |.c (.fn (.methodOf ty name) [] [])=>match aKX P ty,KU t args with
   |true,.c (.ifc dt y)::r=>match QM P dt name with
    |some f=>some (.fn f,fV y::r)
    |none=>none
   |_,_=>none
  |_=>none
 |.inv x name args=>match ev t x with
  |.c (.ifc dt y)=>match QM P dt name with
   |some f=>some (.fn f,fV y::KU t args)
   |none=>none
  |_=>none
 |_=>none
def NO:CF→Bool
 |.call .. => true
 |.callv .. => true
 |.inv .. => true
 |_=>false
def PJ:F→Bool
 |.b _=>true
 |.i _ _=>true
 |.s _=>true
 |.z _=>true
 |_=>false
noncomputable def AN:C→Bool
 |.f x=>PJ x
 |.fn _ fs cs=>eB (all PJ fs) (all PJ cs)
 |.ifc _ x=>PJ x
 |.top=>true
noncomputable def aKI:W→Bool
 |.c x=>AN x
 |.a cs=>all AN cs
noncomputable def oU:V→Bool
 |.c x=>AN x
 |.a cs=>all AN cs
 |.t vs=>all aKI vs
noncomputable def aKJ:O→Bool
 |.blk _ _ vs=>all AN vs
 |.glb _ vs=>all AN vs
 |_=>false
def TP(P:Program):Nat→TypeId→Bool
 |0,_=>false
 |n+1,t=>match P.underlying t with
  |some .bool=>true
  |some (.int _)=>true
  |some .string=>true
  |some (.struct fs)=>fs.toList.all fun f=>TP P n f.type
  |some (.array _ e)=>TP P n e
  |_=>false
noncomputable def prF(P:Program)(f:Nat):Bool:=bN false (mp (fun fn=>fn.resultTypes.toList.all (TP P 6)) P.funcs.toList) f
noncomputable def BU(P:Program)(G:mY)(cl:Cl)(args:List V)(h:T O):Option V:=match cl with
 |.fn f=>match eB (prF P f) (eB (aKJ (gO h 0)) (all oU args)) with
  |true=>match G (.fn f) args (iK 0 (gO h 0) .e) 1 with
   |some r=>match oU r.1 with
    |true=>some r.1
    |false=>none
   |none=>none
  |false=>none
 |.yl _=>none
noncomputable def goM(P:Program)(G:mY):mY:=fun cl args h n=>match BU P G cl args h with
 |some v=>some (v,h,n)
 |none=>G cl args h n
def aJB:F→List Nat
 |.ptr id _=>[id]
 |.sl _ id _ _ _=>[id]
 |.mp id=>[id]
 |.yld id=>[id]
 |_=>[]
noncomputable def GT{α:Type}(f:α→List Nat)(l:List α):List Nat:=eA (motive:=fun _=>List Nat) [] (fun x _ ih=>match f x with
 |[]=>ih
 |r=>ap r ih) l
noncomputable def BK:C→List Nat
 |.f x=>aJB x
 |.fn _ fs cs=>ap (GT aJB fs) (GT aJB cs)
 |.ifc _ x=>aJB x
 |.top=>[]
noncomputable def aQO:W→List Nat
 |.c x=>BK x
 |.a cs=>GT BK cs
noncomputable def aQP:V→List Nat
 |.c x=>BK x
 |.a cs=>GT BK cs
 |.t vs=>GT aQO vs
noncomputable def aX7:O→List Nat
 |.blk _ _ vs=>GT BK vs
 |.rdb _ vs=>GT BK vs
 |.glb _ vs=>GT BK vs
 |.map _ es=>GT (fun p=>aQO p.2) es
 |_=>[]
noncomputable def dfs(h:T O)(fuel:Nat):List Nat→T Bool→List Nat→List Nat:=Nat.rec (motive:=fun _=>List Nat→T Bool→List Nat→List Nat) (fun _ _ acc=>acc)
 (fun _ ih work marks acc=>match work with
  |[]=>acc
  |id::r=>match get false marks id with
   |true=>ih r marks acc
   |false=>ih (ap (aX7 (gO h id)) r) (set false true 24 id marks) (id::acc)) fuel
noncomputable def mkT(B:List Nat):T Bool:=eA (motive:=fun _=>T Bool) .e (fun id _ ih=>set false true 24 id ih) B
section
variable (M:T Bool)
noncomputable def inF:F→Bool
 |.ptr id _=>get false M id
 |.sl _ id _ _ _=>get false M id
 |.mp id=>get false M id
 |.yld _=>false
 |_=>true
noncomputable def VO:C→Bool
 |.f x=>inF M x
 |.fn _ fs cs=>eB (all (inF M) fs) (all (inF M) cs)
 |.ifc _ x=>inF M x
 |.top=>true
noncomputable def inW:W→Bool
 |.c x=>VO M x
 |.a cs=>all (VO M) cs
noncomputable def inV:V→Bool
 |.c x=>VO M x
 |.a cs=>all (VO M) cs
 |.t vs=>all (inW M) vs
noncomputable def inO:O→Bool
 |.blk _ _ vs=>all (VO M) vs
 |.rdb _ vs=>all (VO M) vs
 |.glb _ vs=>all (VO M) vs
 |.map _ es=>all (fun p=>inW M p.2) es
 |.sit _ _=>true
 |_=>false
end
noncomputable def okB(B:List Nat)(M:T Bool)(h:T O)(n:Nat)(args:List V):Bool:=eB (get false M 0) (eB (all (inV M) args) (all (fun id=>eB (cU id n) (eB (cU id 16777000) (inO M (gO h id)))) B))
noncomputable def qU(h':T O)(B:List Nat)(h:T O):T O:=eA (motive:=fun _=>T O) h (fun id _ ih=>iK id (gO h' id) ih) B
noncomputable def TE(k:Nat):Nat→List Nat:=Nat.rec (motive:=fun _=>Nat→List Nat) (fun _=>[]) (fun _ ih n=>n::ih (gB n)) k
def eqZ:Value→Value→Bool
 |.slice none 0 0,.slice none 0 0=>true
 |.pointer none,.pointer none=>true
 |.map none,.map none=>true
 |.nilFunc,.nilFunc=>true
 |.nilIface,.nilIface=>true
 |_,_=>false
def eqF:F→F→Bool
 |.b x,.b y=>match x,y with
  |true,true=>true
  |false,false=>true
  |_,_=>false
 |.i k m,.i k2 m2=>eB (decide (k=k2)) (ZS m m2)
 |.s l,.s l2=>WD l l2
 |.z u,.z u2=>eqZ u u2
 |.ptr i o,.ptr i2 o2=>eB (bE i i2) (bE o o2)
 |.sl true i s o l,.sl true i2 s2 o2 l2=>eB (eB (bE i i2) (bE s s2)) (eB (bE o o2) (bE l l2))
 |.sl false i s o l,.sl false i2 s2 o2 l2=>eB (eB (bE i i2) (bE s s2)) (eB (bE o o2) (bE l l2))
 |.mp i,.mp i2=>bE i i2
 |_,_=>false
def eqC:C→C→Bool
 |.f x,.f y=>eqF x y
 |.ifc t x,.ifc t2 y=>eB (bE t t2) (eqF x y)
 |.fn (.func f) [] [],.fn (.func f2) [] []=>bE f f2
 |_,_=>false
noncomputable def aBL(a:List C):List C→Bool:=eA (motive:=fun _=>List C→Bool) (fun b=>match b with|[]=>true|_=>false) (fun x _ ih b=>match b with
  |y::b=>match eqC x y with
   |true=>ih b
   |false=>false
  |[]=>false) a
noncomputable def eqO:O→O→Bool
 |.blk true t a,.blk true t2 b=>eB (bE t t2) (aBL a b)
 |.blk false t a,.blk false t2 b=>eB (bE t t2) (aBL a b)
 |.rdb t a,.rdb t2 b=>eB (bE t t2) (aBL a b)
 |_,_=>false
noncomputable def IH(h h':T O)(B:List Nat):List Nat:=eA (motive:=fun _=>List Nat) [] (fun id _ ih=>match bE id 0 with
 |true=>ih
 |false=>match eqO (gO h id) (gO h' id) with
  |true=>ih
  |false=>id::ih) B
structure LR where
 v:V
 h:T O
 n:Nat
 B:List Nat
 wr:List Nat
noncomputable def NK(G:mY)(cl:Cl)(args:List V)(h:T O)(n:Nat):Option LR:=match cl with
 |.fn f=>(fun B=>match okB B (mkT B) h n args with
  |true=>match G (.fn f) args (qU h B .e) n with
   |some r=>match cU r.2.2 16777000 with
    |true=>(fun wr=>some ⟨r.1,qU r.2.1 wr h,r.2.2,B,wr⟩) (ap (IH h r.2.1 B) (TE (Nat.sub r.2.2 n) n))
    |false=>none
   |none=>none
  |false=>none) (dfs h 100000 (0::GT aQP args) .e [])
 |.yl _=>none
noncomputable def aQH(b:Bool)(G:mY)(cl:Cl)(args:List V)(h:T O)(n:Nat):Option LR:=match b with
 |true=>NK G cl args h n
 |false=>none
noncomputable def aCV(P:Program)(G:mY)(m:Nat)(ei:EI)(ts:TS):Option TS:=match ei.op with
 |some op=>match NO op with
  |true=>match pY P (gV ts.t) op with
   |some ca=>match goM P G ca.1 ca.2 ts.h ts.n with
    |some r=>match put m ts.t ei.dst r.1 with
     |some t=>some ⟨t,r.2.1,r.2.2,ts.d⟩
     |none=>none
    |none=>none
   |none=>none
  |false=>match lI (gV ts.t) (gO ts.h) ts.n op with
   |some r=>match SA ts.h ts.n r.2 with
    |some hn=>match put m ts.t ei.dst r.1 with
     |some t=>some ⟨t,hn.1,hn.2,ts.d⟩
     |none=>none
    |none=>none
   |none=>none
 |none=>none
noncomputable def PC(P:Program)(m:Nat)(ei:EI)(x:X)(xs:List X)(ts:TS):Option TS:=match ev (gV ts.t) x with
 |.c (.fn (.func f) first cap)=>match put m ts.t ei.dst (.t []) with
  |some t=>some ⟨t,ts.h,ts.n,.cal f (ap (mp fV first) (ap (KU (gV ts.t) xs) (mp fV cap)))::ts.d⟩
  |none=>none
 |_=>none
noncomputable def wZ(t:T V):Option (Nat×Bool)→Option Bool
 |none=>some true
 |some (j,want)=>match gV t j with
  |.c (.f (.b x))=>match want with
   |true=>some x
   |false=>some (sO x)
  |.t []=>some false
  |_=>none
noncomputable def vN(P:Program)(G:mY)(ρ:Option Nat)(m:Nat)(ei:EI)(ts:TS):Option TS:=match wZ ts.t ei.guard with
 |some true=>match ei.df,ρ with
  |none,_=>aCV P G m ei ts
  |some (x,xs),none=>PC P m ei x xs ts
  |some _,some _=>none
 |some false=>match put m ts.t ei.dst (.t []) with
  |some t=>some ⟨t,ts.h,ts.n,ts.d⟩
  |none=>none
 |none=>none
noncomputable def PE(f:EI→TS→Option TS)(l:List EI):TS→Option TS:=eA (motive:=fun _=>TS→Option TS) (fun ts=>some ts) (fun ei _ ih ts=>match f ei ts with
 |some s=>ih s
 |none=>none) l
def X.sl:X→List Nat
 |.t j=>[j]
 |.k _=>[]
noncomputable def BG(xs:List X):List Nat:=eA (motive:=fun _=>List Nat) [] (fun x _ ih=>ap x.sl ih) xs
noncomputable def OZ(ps:List (Nat×Nat×X)):List Nat:=eA (motive:=fun _=>List Nat) [] (fun x _ ih=>ap x.2.2.sl ih) ps
def slO:Option X→List Nat
 |some x=>x.sl
 |none=>[]
noncomputable def CF.sls:CF→List Nat
 |.mv x|.box _ x|.load _ x|.not x|.neg x|.faddr _ x|.fld _ _ x|.extr x _|.lenA x|.lenS x|.nilc x|.nils _ x|.nilm _ x|.conv _ x|.negw _ x|.capn x|.mkif _ x|.tass _ _ _ x|.s2b _ x|.b2s x|.clr _ _ x|.rng x|.nxt x=>x.sl
 |.bin _ x y|.binw _ _ x y|.binb _ x y|.eqs _ _ x y|.fadI _ _ x y|.idxA _ x y|.idxS x y|.min x y|.max x y|.app _ _ _ _ x y|.appS _ x y|.eqp _ x y|.store _ x y|.mksl _ _ _ _ x y|.look _ _ _ x y|.copy _ x y|.idxV _ _ _ x y=>ap x.sl y.sl
 |.pick c a b|.carry _ c a b|.mset _ c a b=>ap c.sl (ap a.sl b.sl)
 |.build _ ps|.bsl _ _ _ _ ps=>OZ ps
 |.call _ xs=>BG xs
 |.callv x xs|.inv x _ xs=>ap x.sl (BG xs)
 |.slc3 _ x lo hi mx=>ap x.sl (ap (slO lo) (ap hi.sl mx.sl))
 |.slc _ x lo hi|.slcS x lo hi|.slcP _ _ x lo hi=>ap x.sl (ap (slO lo) (slO hi))
 |.mkfn _ fs cs=>ap (BG fs) (BG cs)
 |.alloc .. | .mkmap .. | .dead=>[]
noncomputable def EI.sls(ei:EI):List Nat:=ap (match ei.guard with|some (j,_)=>[j]|none=>[]) (match ei.op with|some op=>op.sls|none=>[])
def FZ:V→List Nat
 |.c (.f (.ptr id _))=>[id]
 |.c (.f (.sl _ id _ _ _))=>[id]
 |.c (.f (.mp id))=>[id]
 |_=>[]
noncomputable def aRG(t:Nat→V):CF→List Nat
 |.load _ x=>FZ (ev t x)
 |.nxt x=>FZ (ev t x)
 |.store _ x _=>FZ (ev t x)
 |.app _ _ _ _ x y=>ap (FZ (ev t x)) (FZ (ev t y))
 |.appS _ x _=>FZ (ev t x)
 |.look _ _ _ x _=>FZ (ev t x)
 |.mset _ x _ _=>FZ (ev t x)
 |.copy _ x y=>ap (FZ (ev t x)) (FZ (ev t y))
 |.slcP _ _ x _ _=>FZ (ev t x)
 |.b2s x=>FZ (ev t x)
 |_=>[]
def wrE(n:Nat):pZ→List Nat
 |.no=>[]
 |.wr id _=>[id]
 |.nw _=>[n]
 |.ap id _=>[id,n]
structure Re where
 acc:Option (List Nat)
 wr:Option (List Nat)
noncomputable def XC(P:Program)(G:mY)(loc:Bool)(m:Nat)(ei:EI)(ts:TS):Option (TS×Re):=match wZ ts.t ei.guard,ei.df with
 |some true,none=>match ei.op with
  |some op=>match NO op with
   |true=>match pY P (gV ts.t) op with
    |some ca=>match BU P G ca.1 ca.2 ts.h with
     |some v=>match put m ts.t ei.dst v with
      |some t=>some (⟨t,ts.h,ts.n,ts.d⟩,⟨some [0],some []⟩)
      |none=>none
     |none=>match aQH loc G ca.1 ca.2 ts.h ts.n with
      |some r=>match put m ts.t ei.dst r.v with
       |some t=>some (⟨t,r.h,r.n,ts.d⟩,⟨some r.B,some r.wr⟩)
       |none=>none
      |none=>match G ca.1 ca.2 ts.h ts.n with
       |some r=>match put m ts.t ei.dst r.1 with
        |some t=>some (⟨t,r.2.1,r.2.2,ts.d⟩,⟨none,none⟩)
        |none=>none
       |none=>none
    |none=>none
   |false=>match lI (gV ts.t) (gO ts.h) ts.n op with
    |some r=>match SA ts.h ts.n r.2 with
     |some hn=>match put m ts.t ei.dst r.1 with
      |some t=>some (⟨t,hn.1,hn.2,ts.d⟩,⟨some (aRG (gV ts.t) op),some (wrE ts.n r.2)⟩)
      |none=>none
     |none=>none
    |none=>none
  |none=>none
 |some false,none=>match put m ts.t ei.dst (.t []) with
  |some t=>some (⟨t,ts.h,ts.n,ts.d⟩,⟨some [],some []⟩)
  |none=>none
 |_,_=>none
noncomputable def aD6(f:EI→TS→Option (TS×Re))(l:List EI):TS→Option (TS×List Re):=eA (motive:=fun _=>TS→Option (TS×List Re)) (fun ts=>some (ts,[])) (fun ei _ ih ts=>match f ei ts with
 |some s=>match ih s.1 with
  |some r=>some (r.1,s.2::r.2)
  |none=>none
 |none=>none) l
noncomputable def qA(s:Nat)(l:List Nat):Bool:=eA (motive:=fun _=>Bool) false (fun x _ ih=>match bE x s with|true=>true|false=>ih) l
noncomputable def aJS(a b:List Nat):Bool:=eA (motive:=fun _=>Bool) true (fun x _ ih=>match qA x b with|true=>false|false=>ih) a
noncomputable def aG0(a b:Option (List Nat)):Bool:=match a,b with
 |some [],_=>true
 |_,some []=>true
 |some a,some b=>aJS a b
 |_,_=>false
noncomputable def aJT(d:Option Nat)(l:List Nat):Bool:=match d with
 |some d=>sO (qA d l)
 |none=>true
def neD(a b:Option Nat):Bool:=match a,b with
 |some a,some b=>sO (bE a b)
 |_,_=>true
noncomputable def aO7(x y:EI):Bool:=eB (aJT x.dst y.sls) (eB (aJT y.dst x.sls) (neD x.dst y.dst))
noncomputable def aEY(x y:Re):Bool:=eB (aG0 x.wr y.acc) (eB (aG0 x.wr y.wr) (aG0 y.wr x.acc))
noncomputable def HI(l:List EI):List Nat:=eA (motive:=fun _=>List Nat→List Nat) (fun acc=>acc) (fun ei _ ih acc=>
 ih (ap acc [eA (motive:=fun _=>Nat) 0 (fun e _ r=>Nat.lor (Nat.lor (Nat.shiftLeft 1 e) (bN 0 acc e)) r) ei.es])) l []
noncomputable def BN{α:Type}(f:α→Bool)(a:Nat)(l:List α):Nat→Bool:=eA (motive:=fun _=>Nat→Bool) (fun _=>true) (fun x _ ih i=>match Nat.land (Nat.shiftRight a i) 1 with
 |0=>match f x with
  |true=>ih (gB i)
  |false=>false
 |_=>ih (gB i)) l
noncomputable def AQ{α:Type}(f:α→α→Bool)(l:List α)(an:List Nat):List α→Bool:=eA (motive:=fun _=>List Nat→List α→Bool) (fun _ _=>true) (fun y _ ih an pre=>match an with
 |a::an=>match BN (fun x=>f x y) a pre 0 with
  |true=>ih an (ap pre [y])
  |false=>false
 |[]=>false) l an
noncomputable def aRB(l:List EI):Bool:=eA (motive:=fun _=>Nat→Bool) (fun _=>true) (fun ei _ ih i=>match all (fun e=>cU e i) ei.es with
 |true=>ih (gB i)
 |false=>false) l 0
noncomputable def okS(l:List EI):Bool:=eB (aRB l) (AQ aO7 l (HI l) [])
def CF.plain:CF→Bool
 |.mv .. | .pick .. | .build .. | .bin .. | .binw .. | .binb .. | .eqs .. | .not .. | .neg .. | .faddr .. | .fadI .. | .fld .. | .idxA .. | .idxS .. | .extr .. | .lenA .. | .lenS .. | .min .. | .max .. | .slc .. | .slcS .. | .slc3 .. | .mkfn .. | .nilc .. | .eqp .. | .nils .. | .nilm .. | .conv .. | .negw .. | .carry .. | .capn .. | .mkif .. | .tass .. | .idxV .. | .dead=>true
 |_=>false
def EI.isC(ei:EI):Bool:=match ei.op with
 |some op=>NO op
 |none=>false
def EI.plain(ei:EI):Bool:=match ei.op with
 |some op=>op.plain
 |none=>true
noncomputable def BW(l:List EI):Bool:=sO (AQ (fun x y=>match x.isC with
 |true=>y.plain
 |false=>match y.isC with
  |true=>x.plain
  |false=>true) l (HI l) [])
noncomputable def aDA(rs:List Re):Bool:=all (fun r=>match r.wr with|some []=>true|_=>false) rs
noncomputable def LB(P:Program)(G:mY)(loc:Bool)(m:Nat)(l:List EI)(ts:TS):Option TS:=match aD6 (XC P G loc m) l ts with
 |some r=>match aDA r.2 with
  |true=>some r.1
  |false=>match AQ aEY r.2 (HI l) [] with
   |true=>some r.1
   |false=>none
 |none=>none
noncomputable def GL(args:List V):Nat→T V→T V:=eA (motive:=fun _=>Nat→T V→T V) (fun _ t=>t) (fun v _ ih k t=>ih (gB k) (set (.t []) v 24 k t)) args
noncomputable def NX(m:Nat)(ps:List Nat):List V→T V→Option (T V):=eA (motive:=fun _=>List V→T V→Option (T V)) (fun vs t=>match vs with|[]=>some t|_=>none)
  (fun p _ ih vs t=>match vs with
   |v::vs=>match put m t (some p) v with
    |some t=>ih vs t
    |none=>none
   |[]=>none) ps
noncomputable def aOM(t:T V)(x:X):Option (FuncId×List F×List F):=match ev (gV t) x with
 |.c (.fn (.func f) first cap)=>some (f,first,cap)
 |_=>none
def aQJ:Option Code→Option Ex
 |none=>some .normal
 |some .ret=>some .ret
 |some (.exit id)=>some (.exit id)
 |_=>none
noncomputable def aHK(ρ:Option Nat)(ts:TS):Option (Nat×T O×Nat×List D):=match ρ with
 |none=>some (ts.n,iK ts.n .dfr ts.h,gB ts.n,D.col ts.n::ts.d)
 |some l=>match gO ts.h l with
  |.loop L=>some (L.dr,ts.h,ts.n,ts.d)
  |_=>none
noncomputable def runR(P:Program)(G:mY)(ρ:Option Nat)(m:Nat)(x:X)(ps:List Nat)(assign body:Code)(ts:TS):Option (Ex×TS):=match aOM ts.t x with
 |some (f,first,cap)=>match aHK ρ ts with
  |some (dr,h1,id,d1)=>match eB (bS 1 ts.n) (cU id 16777000) with
   |true=>match G (.fn f) (ap (mp fV first) (.c (.f (.yld id))::mp fV cap)) (iK id (.loop ⟨.ready,none,ts.t,m,ps,assign,body,dr⟩) h1) (gB id) with
    |some (_,h2,n2)=>match gO h2 id with
     |.loop L=>match L.st with
      |.busy=>none
      |_=>match aQJ L.pend with
       |some e=>some (e,⟨ts.t,iK id (.loop { L with st:=.exhausted }) h2,n2,d1⟩)
       |none=>none
     |_=>none
    |none=>none
   |false=>none
  |none=>none
 |none=>none
noncomputable def exec(P:Program)(G:mY)(ρ:Option Nat)(m:Nat)(n:Nat):EC→TS→Option (Ex×TS):=Nat.rec (motive:=fun _=>EC→TS→Option (Ex×TS)) (fun _ _=>none)
 (fun _ ih c ts=>match c with
  |.skip=>some (.normal,ts)
  |.reg l=>match PE (vN P G ρ m) l ts with
   |some s=>some (.normal,s)
   |none=>none
  |.dreg l=>match okS l with
   |true=>match LB P G (BW l) m l ts with
    |some r=>some (.normal,r)
    |none=>none
   |false=>none
  |.seq a b=>match ih a ts with
   |some r=>match r.1 with
    |.normal=>ih b r.2
    |e=>some (e,r.2)
   |none=>none
  |.cond x a b=>match ev (gV ts.t) x with
   |.c (.f (.b v))=>match v with
    |true=>ih a ts
    |false=>ih b ts
   |_=>none
  |.block id a=>match ih a ts with
   |some r=>match r.1 with
    |.exit j=>match bE j id with
     |true=>some (.normal,r.2)
     |false=>some (.exit j,r.2)
    |e=>some (e,r.2)
   |none=>none
  |.loop a=>match ih a ts with
   |some r=>match r.1 with
    |.normal=>ih (.loop a) r.2
    |e=>some (e,r.2)
   |none=>none
  |.exit id=>some (.exit id,ts)
  |.ret=>some (.ret,ts)
  |.rfun x ps assign body=>runR P G ρ m x ps assign body ts
  |.bad=>none) n
noncomputable def HW(t:T V)(h:T O):AR→Option W
 |.tmp k=>asW (gV t k)
 |.cell k n=>match gV t k with
  |.c (.f (.ptr id off))=>match gO h id with
   |.blk _ _ vs=>match bS (fQ off (gZ n)) (len vs) with
    |true=>asW (BZ vs off n)
    |false=>none
   |_=>none
  |_=>none
noncomputable def TJ(t:T V)(h:T O)(rs:List AR):Option (List W):=eA (motive:=fun _=>Option (List W)) (some []) (fun r _ ih=>match HW t h r,ih with
 |some v,some l=>some (v::l)
 |_,_=>none) rs
def vI:List W→V
 |[v]=>v.up
 |vs=>.t vs
noncomputable def GX(P:Program)(n:Nat)(G:mY)(f:FuncId)(args:List V)(h:T O)(nn:Nat):Option (FnC×TS):=match tab P f with
 |some c=>match eB (bS (len args) c.m) (cU (len args) 16777000) with
  |true=>match exec P G none c.m n c.code ⟨GL args 0 .e,h,nn,[]⟩ with
   |some r=>match r.1 with
    |.exit _=>none
    |_=>some (c,r.2)
   |none=>none
  |false=>none
 |none=>none
noncomputable def FQ(P:Program)(n:Nat)(G:mY)(ds:List D):T O→Nat→Option (T O×Nat):=eA (motive:=fun _=>T O→Nat→Option (T O×Nat)) (fun h nn=>some (h,nn))
 (fun d _ ih h nn=>match d with
  |.col id=>match gO h id with
   |.dfr=>match eB (bS 1 id) (cU id 16777000) with
    |true=>ih (iK id .gone h) nn
    |false=>none
   |_=>none
  |.cal f vs=>match GX P n G f vs h nn with
   |some r=>match r.2.d,TJ r.2.t r.2.h r.1.res with
    |[],some _=>ih r.2.h r.2.n
    |_,_=>none
   |none=>none) ds
noncomputable def aCW(P:Program)(n:Nat)(G:mY)(f:FuncId)(args:List V)(h:T O)(nn:Nat):Option (V×T O×Nat):=match GX P n G f args h nn with
 |some r=>match FQ P n G r.2.d r.2.h r.2.n with
  |some hn=>match TJ r.2.t hn.1 r.1.res with
   |some vs=>some (vI vs,hn.1,hn.2)
   |none=>none
  |none=>none
 |none=>none
noncomputable def aCU(P:Program)(n:Nat)(G:mY)(id:Nat)(args:List V)(h:T O)(nn:Nat):Option (V×T O×Nat):=match gO h id with
 |.loop L=>match NX L.m L.ps args L.tm,eB (bS 1 id) (cU id 16777000) with
  |some t,true=>match exec P G (some id) L.m n (dB P L.assign) ⟨t,h,nn,[]⟩ with
   |some r=>match r.1,gO r.2.h id with
    |.normal,.loop L1=>match L1.st with
     |.ready=>match exec P G (some id) L.m n (dB P L.body) ⟨r.2.t,iK id (.loop { L1 with st:=.busy }) r.2.h,r.2.n,r.2.d⟩ with
      |some q=>match gO q.2.h id with
       |.loop L2=>match q.1 with
        |.normal=>some (.c (.f (.b true)),iK id (.loop { L2 with st:=.ready,pend:=none }) q.2.h,q.2.n)
        |.ret=>some (.c (.f (.b false)),iK id (.loop { L2 with st:=.done,pend:=some .ret }) q.2.h,q.2.n)
        |.exit j=>some (.c (.f (.b false)),iK id (.loop { L2 with st:=.done,pend:=some (.exit j) }) q.2.h,q.2.n)
       |_=>none
      |none=>none
     |_=>none
    |_,_=>none
   |none=>none
  |_,_=>none
 |_=>none
noncomputable def go(P:Program)(n:Nat)(d:Nat):mY:=Nat.rec (motive:=fun _=>mY) (fun _ _ _ _=>none) (fun _ G cl args h nn=>match cl with
 |.fn f=>aCW P n G f args h nn
 |.yl id=>aCU P n G id args h nn) d
end Go.CE
