import Derived.Below
import Derived.Laws.OwnMore
import Derived.Deep.AppendLies
import Derived.Maps.AppendAt
import Derived.RegionTactic
import Derived.OwnWalk
import Derived.WalkKit
import Derived.Test.YtgdlaibocecehaaGreatDoorProg
import Derived.PlainAid
import Derived.Lib.Hide
import Derived.WalkSpells
import Derived.WalkLawsBesides
import Derived.Laws.RangeAny
import Derived.OpenShut
import Derived.Laws.Bits64
import Derived.Laws.Bits64b
import Derived.RangeFuncNested
import Derived.RangeFuncBound
import Derived.RangeFuncCalls
import Derived.RangeFuncLeaves
import Derived.Shelf.Abstract
import Derived.Shelf.RegionOpen
import Derived.OwnWalkIn
import Derived.TacticsInMore
import Derived.LoopNIn
import Derived.LoopIn
import Derived.Laws.MakeOwn
import Derived.Lib.ConvBytes
import Derived.Deep.QuietTactic
import Derived.BigQuiet
import Derived.WalkSmall
import Derived.Test.YtgdlaibocecehaaGreatDoorRows
import Derived.Test.YtgdlaibocecehaaGreatDoorRVh
import Derived.ProofKit
import Derived.Lib.LaidTab
set_option linter.unusedVariables false
set_option linter.unusedSimpArgs false
namespace Go.Proofs.YtgdlaibocecehaaGreatDoor
open _root_.Bool renaming and_false→fP,not_eq_true→gX
open _root_.ByteArray renaming toList_eq→gJ
open _root_.Int renaming eq_ofNat_of_zero_le→dQ
open IntKind renaming u64→dU
open _root_.List renaming getElem?_eq_getElem→aN,range→dL,range_succ→gE
open _root_.Nat renaming le_refl→aU,zero_le→bH
open Value renaming int→fM
open Go.RowKit
def Rd(w:World)(B:Nat)(A:Option Addr)(n:Nat)(f:Nat→Value):Prop:=0<n→∃ad,A=some ad∧ad.block<B∧∀k,k<n→w.cell? (ad.add k)=some (f k)
theorem aC3(a:Addr)(n:Nat):(a.add n).block=a.block:=by unfold Addr.add;split<;>rfl
section
variable {w w':World} {B B' n:Nat} {A:Option Addr} {f g:Nat→Value}
theorem Rd.keep(h:Rd w B A n f)(hk:∀p:Addr,p.block<B→w'.cell? p=w.cell? p):Rd w' B A n f:=fun hn=>by
 obtain⟨ad,e,hlt,hc⟩:=h hn;exact⟨ad,e,hlt,fun k hkn=>(hk _ (by rw[aC3];exact hlt)).trans (hc k hkn)⟩
theorem Rd.below(h:Rd w B A n f)(hb:Below B w w'):Rd w' B A n f:=h.keep fun _ hp=>hb.cell hp
theorem Rd.alloc(h:Rd w B A n f)(hB:B≤w.heap.size)(o:Obj):Rd (w.alloc o) B A n f:=h.keep fun p hp=>World.cell?_alloc_lt w o p (by omega)
theorem Rd.setCell(h:Rd w B A n f){p:Addr}(hB:B≤p.block)(u:Value):Rd (w.setCell p u) B A n f:=
 h.keep fun q hq=>World.cell?_setCell_other w p q u (fun e=>by subst e;omega)
theorem Rd.grown(h:Rd w B A n f){row:Option Nat}(hg:w.grownBy w' row)(hB:B≤w.heap.size)(hr:∀k,row=some k→B≤k):Rd w' B A n f:=
 h.keep fun p hp=>World.cell?_of_block (hg.block p.block (by omega) (fun e=>by have:=hr _ e.symm;omega))
theorem Rd.more(h:Rd w B A n f)(hB:B≤B'):Rd w B' A n f:=fun hn=>by
 obtain⟨ad,e,hlt,hc⟩:=h hn;exact⟨ad,e,by omega,hc⟩
theorem Rd.at_(h:Rd w B A n f){k:Nat}(hk:k<n):∃ad,A=some ad∧ad.block<B∧w.cell? (ad.add k)=some (f k):=by
 obtain⟨ad,e,hlt,hc⟩:=h (by omega);exact⟨ad,e,hlt,hc k hk⟩
theorem Rd.congr(h:Rd w B A n f)(e:∀k,k<n→f k=g k):Rd w B A n g:=fun hn=>by
 obtain⟨ad,ea,hlt,hc⟩:=h hn;exact⟨ad,ea,hlt,fun k hk=>by rw[hc k hk,e k hk]⟩
theorem Rd.take(h:Rd w B A n f){m:Nat}(hm:m≤n):Rd w B A m f:=fun hn=>by
 obtain⟨ad,e,hlt,hc⟩:=h (by omega);exact⟨ad,e,hlt,fun k hk=>hc k (by omega)⟩
theorem Rd.nil:Rd w B A 0 f:=fun h=>absurd h (by omega)
theorem Rd.of_own{base:Nat}{e:TypeId}{v:Value}{xs:List Value}(h:w.ownsRow base e 1 v n xs):∃A c,v=.slice A n c∧n≤c∧Rd w w.heap.size A n fun k=>xs[k]?.getD undef:=by
 have hl:=h.1
 rcases h.2 with⟨rfl,rfl⟩|⟨g,cap,cur,rfl,hb,hg,hnc,hcm,hcs,htake⟩
 ·exact⟨_,_,rfl,aU _,Rd.nil⟩
 ·refine⟨_,_,rfl,hnc,fun hn=>⟨_,rfl,(h.lt g rfl).2,fun k hk=>?_⟩⟩
  have hk':k<xs.length:=by omega
  have:=h.cells (g:=g) rfl k xs[k] (aN hk')
  rw[this];simp only[aN hk',Option.getD_some]
end
theorem Rd.next{w w':World}{A:Option Addr}{n:Nat}{f:Nat→Value}(h:Rd w w.heap.size A n f)(hb:Below w.heap.size w w'):Rd w' w'.heap.size A n f:=(h.below hb).more hb.size
def vl(f:Nat→Value)(n:Nat):List Value:=(dL n).map f
theorem IR(f:Nat→Value)(n:Nat):(vl f n).length=n:=by simp[vl]
theorem aCB(f:Nat→Value)(n k:Nat)(hk:k<n):(vl f n)[k]?=some (f k):=by simp[vl,hk]
theorem aRM(f:Nat→Value)(n:Nat):vl f (n+1)=vl f n++[f n]:=by simp[vl,gE]
theorem aRN(f:Nat→Value)(n k:Nat)(hk:k<n)(u:Value):(vl f n)[k]?.getD u=f k:=by rw[aCB f n k hk];rfl
section
variable {P:Program} (w:World)
theorem vX(base:Nat)(t ty e:TypeId)(i:TypeInfo)(size:Nat)(ht:P.underlying t=some (.slice e))(hi:P.info? e=some i)
  (v:Value) (n:Nat) (xs:List Value) (hown:w.ownsRow base e size v n xs) (c:Nat):(Builtin.append_ #[t,t] ty #[v,.slice none 0 c]).run P w=.ok v w:=by
 rcases hown.2 with⟨rfl,rfl⟩|⟨g,cap,cur,rfl,_,_,hnc,_⟩
 ·simp[Builtin.append_,run_underlying ht,sizeOf,typeInfo,hi,Builtin.lenOf,Builtin.firstCells]
 ·simp[Builtin.append_,run_underlying ht,sizeOf,typeInfo,hi,Builtin.lenOf,Builtin.firstCells,hnc,storeCells]
theorem HT(base:Nat)(t ty e:TypeId)(i:TypeInfo)(z:Value)(bytes:Nat)(ht:P.underlying t=some (.slice e))(hi:P.info? e=some i)(hz:i.zero=some z)
  (hsize:i.size=1) (hby:i.bytes=bytes) (hzs:z.cells.size=1)
  (v:Value) (n:Nat) (xs:List Value) (hown:w.ownsRow base e 1 v n xs)
  (B:Nat) (A:Option Addr) (m c:Nat) (f:Nat→Value) (hr:Rd w B A m f) (h1:∀k,(f k).oneCell'=true)
  (h63:n+m≤maxLen) (hbytes:(n+m)*bytes≤140737488355328) (hbase:base≤w.heap.size) :
  ∃v' w',(Builtin.append_ #[t,t] ty #[v,.slice A m c]).run P w=.ok v' w'∧w'.ownsRow base e 1 v' (n+m) (xs++vl f m)∧w.grownBy w' v.ownBlock ∧
   (v'.ownBlock=v.ownBlock∨v'.ownBlock=some w.heap.size)∧(v'=.slice none 0 0↔v=.slice none 0 0∧m=0):=by
 rcases A with _|ad
 ·obtain rfl:m=0:=by
    rcases Nat.eq_zero_or_pos m with h0|h0
    ·exact h0
    ·obtain⟨ad,h,_⟩:=hr h0
     cases h
  exact⟨v,w,vX w base t ty e i 1 ht hi v n xs hown c,by simpa[vl] using hown,World.grownBy.refl w _,.inl rfl,by simp⟩
 ·have hcells:∀j u,(vl f m)[j]?=some u→w.cell? (ad.add j)=some u:=by
    intro j u hu
    by_cases hj:j<m
    ·obtain⟨ad',h,_,hc⟩:=hr (by omega)
     injection h with h;subst h;rw[aCB f m j hj]at hu;rw[hc j hj];exact hu
    ·rw[List.getElem?_eq_none (by rw[IR];omega)]at hu
     cases hu
  obtain⟨v',w',hrun,h2,h3,h4,h5⟩:=run_append_own_at (P:=P) w base t ty e i z 1 bytes ht hi hz hsize hby hzs (by decide) v n xs hown ad m c (vl f m) (by rw[IR];omega) hcells (fun u hu=>by simp only[vl,List.mem_map]at hu;obtain⟨k,_,rfl⟩:=hu;exact h1 k) h63 hbytes hbase;exact⟨v',w',hrun,h2,h3,h5,h4⟩
theorem LL{o:Oper}{a:Act}{K:Act→World→Prop}{Q:Exit→Act→World→Prop}(s x:Operand)(t:TypeId)
  (ho:o.op=.call { callee:=.builtin .append,args := #[s,x],argTypes := #[t,t] })
  (base:Nat) (e:TypeId) (i:TypeInfo) (z:Value) (bytes:Nat) (ht:P.underlying t=some (.slice e)) (hi:P.info? e=some i) (hz:i.zero=some z)
  (hsize:i.size=1) (hby:i.bytes=bytes) (hzs:z.cells.size=1)
  (v:Value) (n:Nat) (xs:List Value) (hs:a.eval s=v) (hown:w.ownsRow base e 1 v n xs)
  (B:Nat) (A:Option Addr) (m c:Nat) (f:Nat→Value) (hx:a.eval x=.slice A m c) (hr:Rd w B A m f) (h1:∀k,(f k).oneCell'=true)
  (h63:n+m≤maxLen) (hbytes:(n+m)*bytes≤140737488355328) (hbase:base≤w.heap.size)
  (h:∀v' w',w'.ownsRow base e 1 v' (n+m) (xs++vl f m)→w.grownBy w' v.ownBlock→(v'.ownBlock=v.ownBlock∨v'.ownBlock=some w.heap.size)→(v'=.slice none 0 0↔v=.slice none 0 0∧m=0)→K (a.put o.dst v') w'):o.wp P a w K Q:=by
 obtain⟨v',w',hrun,h2,h3,h4,h5⟩:=HT (P:=P) w base t o.type e i z bytes ht hi hz hsize hby hzs v n xs hown B A m c f hr h1 h63 hbytes hbase;unfold Oper.wp execOp;simp only[ho,resolve,invoke,builtin,Sem.run_bind,Sem.run_pure,Result.andThen_ok,List.map_toArray,List.map_cons,List.map_nil,hs,hx,hrun];exact h v' w' h2 h3 h4 h5
theorem ZT{ops:Array Oper}{rest:List Oper}{o:Oper}{a:Act}{Q:Exit→Act→World→Prop}(hgd:o.guard=none)(s x:Operand)(t:TypeId)
  (ho:o.op=.call { callee:=.builtin .append,args := #[s,x],argTypes := #[t,t] })
  (base:Nat) (e:TypeId) (i:TypeInfo) (z:Value) (bytes:Nat) (ht:P.underlying t=some (.slice e)) (hi:P.info? e=some i) (hz:i.zero=some z)
  (hsize:i.size=1) (hby:i.bytes=bytes) (hzs:z.cells.size=1)
  (v:Value) (n:Nat) (xs:List Value) (hs:a.eval s=v) (hown:w.ownsRow base e 1 v n xs)
  (B:Nat) (A:Option Addr) (m c:Nat) (f:Nat→Value) (hx:a.eval x=.slice A m c) (hr:Rd w B A m f) (h1:∀k,(f k).oneCell'=true)
  (h63:n+m≤maxLen) (hbytes:(n+m)*bytes≤140737488355328) (hbase:base≤w.heap.size)
  (h:∀v' w',w'.ownsRow base e 1 v' (n+m) (xs++vl f m)→w.grownBy w' v.ownBlock→(v'.ownBlock=v.ownBlock∨v'.ownBlock=some w.heap.size)→(v'=.slice none 0 0↔v=.slice none 0 0∧m=0)→wpList P ops Q rest (a.put o.dst v') w'):wpList P ops Q (o::rest) a w:=
 wpList_plain hgd fun _ hK=>LL w s x t ho base e i z bytes ht hi hz hsize hby hzs v n xs hs hown B A m c f hx hr h1 h63 hbytes hbase fun v' w' h2 h3 h4 h5=>hK _ _ (h v' w' h2 h3 h4 h5)
end
def okc(k:Nat)(c:Int):Bool:=(decide (97≤c)&&decide (c≤122))||(decide (k≠0)&&(c==95||(decide (48≤c)&&decide (c≤57))))
def HX(f:Nat→Int)(n:Nat):Bool:=(dL n).all fun k=>okc k (f k)
theorem uS(f:Nat→Int)(n:Nat):HX f (n+1)=(HX f n&&okc n (f n)):=by simp[HX,gE]
theorem aDI(f:Nat→Int)(n:Nat):HX f n=true↔∀k,k<n→okc k (f k)=true:=by simp[HX]
def iH(s:ByteArray):Bool:=decide (1≤s.size)&&decide (s.size≤16)&&HX (PlainAid.bt s) s.size
theorem zF{s:ByteArray}{k:Nat}(hk:k<s.size)(h:okc k (PlainAid.bt s k)=false):iH s=false:=by
 have:HX (PlainAid.bt s) s.size=false:=by
  rw[←gX,aDI];intro h2
  rw[h2 k hk]at h;cases h
 simp[iH,this]
set_option maxRecDepth 100000 in
set_option maxHeartbeats 1000000 in
theorem aB3(s:ByteArray)(w:World) :
  Calls Tryz.prog 60 #[.string s] w fun e w'=>e=.returned (.bool (iH s))∧Below w.heap.size w w':=by
 by_cases h1:s.size<1
 ·have:iH s=false:=by unfold iH;rw[decide_eq_false (by omega)];rfl
  rw[this];clear this
  go_enter Tryz.func60,Tryz.ntmps60
  go_wp2
  go_ret
  exact⟨rfl,Below.refl _ _⟩
 ·by_cases h2:16<s.size
  ·have:iH s=false:=by unfold iH;rw[decide_eq_false (show ¬s.size≤16 by omega),fP];rfl
   rw[this];clear this
   go_enter Tryz.func60,Tryz.ntmps60
   go_wp2
   go_ret
   exact⟨rfl,Below.refl _ _⟩
  ·have d1:decide ((s.size:Int)<1)=false:=by simp;omega
   have d2:decide (16<(s.size:Int))=false:=by simp;omega
   go_enter Tryz.func60,Tryz.ntmps60
   go_wp2
   go_loopw [3] (fun _ wr=>∃k:Nat,k≤s.size∧HX (PlainAid.bt s) k=true∧wr=w.iter s k) (fun _ wr=>s.size-wr.iterPos w.heap.size)
   case atStart=>exact⟨0,bH _,rfl,rfl⟩
   case round=>
    obtain⟨k,hk,hok,rfl⟩:=hrel
    have HOK:=Lib.hid hok
    clear hok
    have hbel:∀p,Below w.heap.size w (w.iter s p):=fun p=>(Below.refl _ w).alloc (aU _) _
    have HB:=Lib.hid hbel
    clear hbel
    by_cases hp:k<s.size
    ·by_cases ha:(s[k]'hp).toNat<128
     ·obtain⟨c,hc⟩:∃c:Int,c=PlainAid.bt s k:=⟨_,rfl⟩
      have hcb:0≤c∧c≤127:=by rw[hc,←PlainAid.get_bt s k hp];omega
      have hnx:∀ty,(Instr.next (.pointer (some ⟨w.heap.size,0,none⟩)) true ty).run Tryz.prog (w.iter s k)=.ok (.tuple #[.bool true,.int .i64 k,.int .i32 c]) (w.iter s (k+1)):=fun ty=>by
       rw[run_next_ascii w s k ty hp ha,hc,←PlainAid.get_bt s k hp]
      have HC:=Lib.hid hc
      clear hc ha
      by_cases hkc:okc k c=true
      ·have HK:=Lib.hid hkc
       have hkc':(97≤c∧c≤122)∨(k≠0∧(c=95∨(48≤c∧c≤57))):=by simpa[okc] using hkc
       clear hkc
       rcases hkc' with⟨g1,g2⟩|⟨g0,g1⟩
       ·go_wp2
        go_roundw
        case rel=>exact⟨k+1,by omega,by rw[uS,HOK.out,←HC.out,HK.out];rfl,rfl⟩
        case measure=>simp;omega
       ·have e0:((k:Int)==0)=false:=by simp;omega
        rcases g1 with g1|⟨g1,g2⟩
        ·have e1:(c != 95)=false:=by simp[g1]
         have e2:decide (97≤c)=false:=by simp;omega
         clear g1
         go_wp2
         go_roundw
         case rel=>exact⟨k+1,by omega,by rw[uS,HOK.out,←HC.out,HK.out];rfl,rfl⟩
         case measure=>simp;omega
        ·have e1:(c != 95)=true:=by simp;omega
         have e2:decide (97≤c)=false:=by simp;omega
         go_wp2
         go_roundw
         case rel=>exact⟨k+1,by omega,by rw[uS,HOK.out,←HC.out,HK.out];rfl,rfl⟩
         case measure=>simp;omega
      ·have hbad:iH s=false:=zF hp (by rw[←HC.out];simpa using hkc)
       have HBAD:=Lib.hid hbad
       have hkc':¬((97≤c∧c≤122)∨(k≠0∧(c=95∨(48≤c∧c≤57)))):=by simpa[okc] using hkc
       clear hkc hbad
       by_cases g0:k=0
       ·subst g0
        by_cases g1:97≤c
        ·have e5:decide (c≤122)=false:=by simp;omega
         go_wp2
         go_ret
         exact⟨by rw[HBAD.out];rfl,HB.out _⟩
        ·have e2:decide (97≤c)=false:=by simp;omega
         go_wp2
         go_ret
         exact⟨by rw[HBAD.out];rfl,HB.out _⟩
       ·have e0:((k:Int)==0)=false:=by simp;omega
        have e1:(c != 95)=true:=by simp;omega
        by_cases g1:97≤c
        ·have e5:decide (c≤122)=false:=by simp;omega
         go_wp2
         go_ret
         exact⟨by rw[HBAD.out];rfl,HB.out _⟩
        ·have e2:decide (97≤c)=false:=by simp;omega
         by_cases g2:c<48
         ·go_wp2
          go_ret
          exact⟨by rw[HBAD.out];rfl,HB.out _⟩
         ·have e3:decide (c<48)=false:=by simp;omega
          go_wp2
          go_ret
          exact⟨by rw[HBAD.out];rfl,HB.out _⟩
     ·obtain⟨h5,h6⟩:=decode_high s k hp (by omega)
      have hbad:iH s=false:=zF hp (by
       rw[←PlainAid.get_bt s k hp];unfold okc;rw[decide_eq_false (show ¬(((s[k]'hp).toNat:Int)≤122) by omega),decide_eq_false (show ¬(((s[k]'hp).toNat:Int)≤57) by omega),fP,fP,Bool.or_false,Bool.false_or]
       rw[show (((s[k]'hp).toNat:Int)==95)=false by simp;omega,fP])
      have HBAD:=Lib.hid hbad
      have hnx:∀ty,(Instr.next (.pointer (some ⟨w.heap.size,0,none⟩)) true ty).run Tryz.prog (w.iter s k)=_:=fun ty=>run_next_any w s k ty hp
      obtain⟨r,hr⟩:∃r:Nat,r=(Utf8.decode s k).1:=⟨_,rfl⟩
      obtain⟨d,hd⟩:∃d:Nat,d=(Utf8.decode s k).2:=⟨_,rfl⟩
      rw[←hr]at h5 hnx;rw[←hd]at hnx;clear hbad hr hd h6 ha
      have e1:((r:Int) != 95)=true:=by simp;omega
      have e3:decide ((r:Int)<48)=false:=by simp;omega
      have e4:decide (57<(r:Int))=true:=by simp;omega
      have e5:decide ((r:Int)≤122)=false:=by simp;omega
      by_cases g0:k=0
      ·subst g0
       go_wp2
       go_ret
       exact⟨by rw[HBAD.out];rfl,HB.out _⟩
      ·have e0:((k:Int)==0)=false:=by simp;omega
       go_wp2
       go_ret
       exact⟨by rw[HBAD.out];rfl,HB.out _⟩
    ·obtain rfl:k=s.size:=by omega
     have hnx:∀ty,(Instr.next (.pointer (some ⟨w.heap.size,0,none⟩)) true ty).run Tryz.prog (w.iter s s.size)=_:=fun ty=>run_next_end w s s.size ty hp
     go_wp2
     go_ret
     refine⟨?_,HB.out _⟩;unfold iH;rw[HOK.out,decide_eq_true (show 1≤s.size by omega),decide_eq_true (show s.size≤16 by omega)];rfl
def okv(c:Int):Bool:=decide (33≤c)&&decide (c≤126) && !(c==34||c==92||c==44||c==123||c==125)
def vQ(f:Nat→Int)(n:Nat):Bool:=(dL n).all fun k=>okv (f k)
theorem DU(f:Nat→Int)(n:Nat):vQ f (n+1)=(vQ f n&&okv (f n)):=by simp[vQ,gE]
theorem aAL(f:Nat→Int)(n:Nat):vQ f n=true↔∀k,k<n→okv (f k)=true:=by simp[vQ]
def jG(s:ByteArray):Bool:=decide (s.size≤16)&&vQ (PlainAid.bt s) s.size
theorem vV{s:ByteArray}{k:Nat}(hk:k<s.size)(h:okv (PlainAid.bt s k)=false):jG s=false:=by
 have:vQ (PlainAid.bt s) s.size=false:=by
  rw[←gX,aAL];intro h2
  rw[h2 k hk]at h;cases h
 simp[jG,this]
set_option maxRecDepth 100000 in
set_option maxHeartbeats 1000000 in
theorem VH(s:ByteArray)(w:World) :
  Calls Tryz.prog 156 #[.string s] w fun e w'=>e=.returned (.bool (jG s))∧Below w.heap.size w w':=by
 by_cases h2:16<s.size
 ·have:jG s=false:=by unfold jG;rw[decide_eq_false (show ¬s.size≤16 by omega)];rfl
  rw[this];clear this
  go_enter Tryz.func156,Tryz.ntmps156
  go_wp2
  go_ret
  exact⟨rfl,Below.refl _ _⟩
 ·have d2:decide (16<(s.size:Int))=false:=by simp;omega
  go_enter Tryz.func156,Tryz.ntmps156
  go_wp2
  go_loopw [4] (fun _ wr=>∃k:Nat,k≤s.size∧vQ (PlainAid.bt s) k=true∧wr=w.iter s k) (fun _ wr=>s.size-wr.iterPos w.heap.size)
  case atStart=>exact⟨0,bH _,rfl,rfl⟩
  case round=>
   obtain⟨k,hk,hok,rfl⟩:=hrel
   have HOK:=Lib.hid hok
   clear hok
   have hbel:∀p,Below w.heap.size w (w.iter s p):=fun p=>(Below.refl _ w).alloc (aU _) _
   have HB:=Lib.hid hbel
   clear hbel
   by_cases hp:k<s.size
   ·by_cases ha:(s[k]'hp).toNat<128
    ·obtain⟨c,hc⟩:∃c:Int,c=PlainAid.bt s k:=⟨_,rfl⟩
     have hcb:0≤c∧c≤127:=by rw[hc,←PlainAid.get_bt s k hp];omega
     have hnx:∀ty,(Instr.next (.pointer (some ⟨w.heap.size,0,none⟩)) true ty).run Tryz.prog (w.iter s k)=.ok (.tuple #[.bool true,.int .i64 k,.int .i32 c]) (w.iter s (k+1)):=fun ty=>by
      rw[run_next_ascii w s k ty hp ha,hc,←PlainAid.get_bt s k hp]
     have HC:=Lib.hid hc
     clear hc ha
     by_cases hkc:okv c=true
     ·have HK:=Lib.hid hkc
      have hkc':(33≤c∧c≤126)∧c≠34∧c≠92∧c≠44∧c≠123∧c≠125:=by simp[okv]at hkc;omega
      obtain⟨⟨g1,g2⟩,g3,g4,g5,g6,g7⟩:=hkc'
      have e3:(c==34)=false:=by simp;omega
      have e4:(c==92)=false:=by simp;omega
      have e5:(c==44)=false:=by simp;omega
      have e6:(c==123)=false:=by simp;omega
      have e7:(c==125)=false:=by simp;omega
      clear hkc g3 g4 g5 g6 g7
      go_wp2
      go_roundw
      case rel=>exact⟨k+1,by omega,by rw[DU,HOK.out,←HC.out,HK.out];rfl,rfl⟩
      case measure=>simp;omega
     ·have hbad:jG s=false:=vV hp (by rw[←HC.out];simpa using hkc)
      have HBAD:=Lib.hid hbad
      have hkc':c<33∨126<c∨c=34∨c=92∨c=44∨c=123∨c=125:=by simp[okv]at hkc;omega
      clear hkc hbad
      rcases hkc' with g|g|g|g|g|g|g
      ·go_wp2
       go_ret
       exact⟨by rw[HBAD.out];rfl,HB.out _⟩
      ·have e5:decide (c<33)=false:=by simp;omega
       go_wp2
       go_ret
       exact⟨by rw[HBAD.out];rfl,HB.out _⟩
      all_goals
       have G:=Lib.hid g
       clear g;obtain rfl:=G.out;clear G
       go_wp2
       go_ret
       exact⟨by rw[HBAD.out];rfl,HB.out _⟩
    ·obtain⟨h5,h6⟩:=decode_high s k hp (by omega)
     have hbad:jG s=false:=vV hp (by
      rw[←PlainAid.get_bt s k hp];unfold okv
      rw[decide_eq_false (show ¬(((s[k]'hp).toNat:Int)≤126) by omega),fP,Bool.false_and])
     have HBAD:=Lib.hid hbad
     have hnx:∀ty,(Instr.next (.pointer (some ⟨w.heap.size,0,none⟩)) true ty).run Tryz.prog (w.iter s k)=_:=fun ty=>run_next_any w s k ty hp
     obtain⟨r,hr⟩:∃r:Nat,r=(Utf8.decode s k).1:=⟨_,rfl⟩
     obtain⟨d,hd⟩:∃d:Nat,d=(Utf8.decode s k).2:=⟨_,rfl⟩
     rw[←hr]at h5 hnx;rw[←hd]at hnx;clear hbad hr hd h6 ha
     have e3:decide ((r:Int)<33)=false:=by simp;omega
     have e4:decide (126<(r:Int))=true:=by simp;omega
     go_wp2
     go_ret
     exact⟨by rw[HBAD.out];rfl,HB.out _⟩
   ·obtain rfl:k=s.size:=by omega
    have hnx:∀ty,(Instr.next (.pointer (some ⟨w.heap.size,0,none⟩)) true ty).run Tryz.prog (w.iter s s.size)=_:=fun ty=>run_next_end w s s.size ty hp
    go_wp2
    go_ret
    refine⟨?_,HB.out _⟩;unfold jG;rw[HOK.out,decide_eq_true (show s.size≤16 by omega)];rfl
def LN(g:Nat→Int)(i:Nat):Nat→Int
 |0=>0
 |m+1=>LN g i m+g (i+m)*256^m
def pE(g:Nat→Int)(n k:Nat):List Int:=(dL k).map fun j=>LN g (8*j) (min 8 (n-8*j))
theorem ON(g:Nat→Int)(n k:Nat):pE g n (k+1)=pE g n k++[LN g (8*k) (min 8 (n-8*k))]:=by simp[pE,gE]
theorem aGJ(g:Nat→Int)(n k:Nat):(pE g n k).length=k:=by simp[pE]
def Byt(g:Nat→Int):Prop:=∀k,0≤g k∧g k≤255
theorem aOR(s:ByteArray):Byt (PlainAid.bt s):=fun k=>⟨PlainAid.bt_nonneg s k,PlainAid.bt_le s k⟩
theorem CJ{g:Nat→Int}(hg:Byt g)(i m:Nat):0≤LN g i m∧LN g i m<256^m:=by
 induction m with
 |zero=>simp[LN]
 |succ m ih=>
  obtain⟨h1,h2⟩:=hg (i+m)
  have hp:(0:Int)<256^m:=Int.pow_pos (by decide)
  simp only[LN,Int.pow_succ]
  have a:0≤g (i+m)*256^m:=Int.mul_nonneg h1 (by omega)
  have b:g (i+m)*256^m≤255*256^m:=Int.mul_le_mul_of_nonneg_right h2 (by omega)
  omega
theorem LM{g:Nat→Int}(hg:Byt g)(i m:Nat)(hm:m≤8):0≤LN g i m∧LN g i m≤18446744073709551615:=by
 obtain⟨h1,h2⟩:=CJ hg i m;refine⟨h1,?_⟩
 have h3:256^m≤256^8:=Nat.pow_le_pow_right (by decide) hm
 have e:(256:Int)^m=((256^m:Nat):Int):=by simp
 rw[e]at h2;omega
theorem aRP{g:Nat→Int}(hg:Byt g)(i m:Nat)(hm:m<8) :
  bits BinOp.or dU (LN g i m) (dU.wrap (dU.wrap (g (i+m))*2^(8*m)))=LN g i (m+1):=by
 obtain⟨h1,h2⟩:=CJ hg i m;obtain⟨g1,g2⟩:=hg (i+m);obtain⟨k1,k2⟩:=LM hg i (m+1) (by omega)
 have e256:(256:Int)^m=2^(8*m):=by rw[Int.pow_mul];rfl
 rw[IntWalk.u64_in (g (i+m)) (by omega)];simp only[LN]at k1 k2 ⊢;rw[e256]at k1 k2 h2 ⊢;rw[IntWalk.u64_in (g (i+m)*2^(8*m)) ⟨Int.mul_nonneg g1 (Int.le_of_lt (Int.pow_pos (by decide))),by omega⟩];obtain⟨a,ha⟩:=dQ h1;obtain⟨c,hc⟩:=dQ g1;rw[ha,hc]at k2 ⊢;rw[ha]at h2
 have e2:(2:Int)^(8*m)=((2^(8*m):Nat):Int):=by simp
 have h2':a<2^(8*m):=by rw[e2]at h2;omega
 have e3:(c:Int)*2^(8*m)=((c*2^(8*m):Nat):Int):=by rw[e2];simp
 rw[e3]at k2 ⊢;rw[bits_or_u64_nat a _ (by omega) (by omega),Nat.or_comm,←Nat.shiftLeft_eq,←Nat.shiftLeft_add_eq_or_of_lt h2',Nat.shiftLeft_eq];omega
def aIV(s x:Int):Int:=dU.wrap (bits BinOp.xor dU s x*11400714819323198485)
def sJ(s x:Int):Int:=bits BinOp.xor dU (aIV s x) (aIV s x / 4294967296)
def FH(s x:Nat):Nat:=(s ^^^ x)*11400714819323198485%18446744073709551616
def aE5(s x:Nat):Nat:=FH s x ^^^ (FH s x) >>> 32
theorem CI{a b:Nat}(ha:a<18446744073709551616)(hb:b<18446744073709551616):a ^^^ b<18446744073709551616:=
 Nat.xor_lt_two_pow (n:=64) ha hb
theorem aE6(s x:Nat)(hs:s<18446744073709551616)(hx:x<18446744073709551616):aIV s x=FH s x:=by
 unfold aIV FH;rw[bits_xor_u64_nat s x hs hx,IntKind.wrap_u64];omega
theorem xT(s x:Nat):FH s x<18446744073709551616:=Nat.mod_lt _ (by decide)
theorem xV(s x:Nat)(hs:s<18446744073709551616)(hx:x<18446744073709551616):sJ s x=aE5 s x:=by
 unfold sJ aE5;rw[aE6 s x hs hx,Nat.shiftRight_eq_div_pow]
 have h:=xT s x
 have e:((FH s x:Nat):Int) / 4294967296=((FH s x / 2^32:Nat):Int):=by simp
 rw[e,bits_xor_u64_nat _ _ h (by omega)]
theorem aRQ(s x:Nat):aE5 s x<18446744073709551616:=by
 have h:=xT s x
 exact CI h (by rw[Nat.shiftRight_eq_div_pow];omega)
theorem xU(s x:Int):0≤sJ s x∧sJ s x≤18446744073709551615:=bounds_u64 (wf_bits _ _ _ _)
theorem aFI{m m':Nat}(hm:m<18446744073709551616)(hm':m'<18446744073709551616)(e:m ^^^ m >>> 32=m' ^^^ m' >>> 32):m=m':=by
 have inv:∀a:Nat,a<18446744073709551616→(a ^^^ a >>> 32) ^^^ (a ^^^ a >>> 32) >>> 32=a:=by
  intro a ha;rw[Nat.shiftRight_xor_distrib,←Nat.shiftRight_add,Nat.xor_assoc,←Nat.xor_assoc (a >>> 32),Nat.xor_self,Nat.zero_xor]
  have:a >>> (32+32)=0:=by rw[Nat.shiftRight_eq_div_pow];exact Nat.div_eq_of_lt (by simpa using ha)
  rw[this,Nat.xor_zero]
 rw[←inv m hm,e,inv m' hm']
theorem aIR{a b:Nat}(ha:a<18446744073709551616)(hb:b<18446744073709551616)(e:a*11400714819323198485%18446744073709551616=b*11400714819323198485%18446744073709551616):a=b:=by
 have inv:∀c:Nat,c<18446744073709551616→(c*11400714819323198485%18446744073709551616)*17428512612931826493%18446744073709551616=c:=by
  intro c hc;rw[Nat.mod_mul_mod,Nat.mul_assoc,←Nat.mul_mod_mod]
  have:11400714819323198485*17428512612931826493%18446744073709551616=1:=by decide
  rw[this,Nat.mul_one,Nat.mod_eq_of_lt hc]
 rw[←inv a ha,e,inv b hb]
theorem QL{s x s' x':Nat}(hs:s<18446744073709551616)(hx:x<18446744073709551616)(hs':s'<18446744073709551616)(hx':x'<18446744073709551616)(e:aE5 s x=aE5 s' x'):s ^^^ x=s' ^^^ x':=
 aIR (CI hs hx) (CI hs' hx') (aFI (xT _ _) (xT _ _) e)
theorem nK{n:Int}(h:0≤n∧n≤18446744073709551615):∃k:Nat,n=k∧k<18446744073709551616:=⟨n.toNat,by omega,by omega⟩
theorem vL{a b c:Nat}(h:a ^^^ b=a ^^^ c):b=c:=by
 have:a ^^^ (a ^^^ b)=a ^^^ (a ^^^ c):=by rw[h]
 simpa[←Nat.xor_assoc] using this
def U64(n:Int):Prop:=0≤n∧n≤18446744073709551615
theorem aNW{s x y:Int}(hs:U64 s)(hx:U64 x)(hy:U64 y):sJ s x=sJ s y↔x=y:=by
 refine⟨fun e=>?_,fun e=>by rw[e]⟩;obtain⟨s,rfl,ls⟩:=nK hs;obtain⟨x,rfl,lx⟩:=nK hx;obtain⟨y,rfl,ly⟩:=nK hy;rw[xV s x ls lx,xV s y ls ly]at e
 have:=QL ls lx ls ly (by omega)
 rw[vL this]
theorem aAS{s t x:Int}(hs:U64 s)(ht:U64 t)(hx:U64 x):sJ s x=sJ t x↔s=t:=by
 refine⟨fun e=>?_,fun e=>by rw[e]⟩;obtain⟨s,rfl,ls⟩:=nK hs;obtain⟨x,rfl,lx⟩:=nK hx;obtain⟨t,rfl,lt⟩:=nK ht;rw[xV s x ls lx,xV t x lt lx]at e
 have:=QL ls lx lt lx (by omega)
 rw[Nat.xor_comm s,Nat.xor_comm t]at this;rw[vL this]
def tS(s:Int)(l:List Int):Int:=l.foldl sJ s
theorem JS(s:Int)(l:List Int)(x:Int):tS s (l++[x])=sJ (tS s l) x:=by simp[tS]
theorem aQF{s:Int}(hs:U64 s)(l:List Int):U64 (tS s l):=by
 induction l generalizing s with
 |nil=>exact hs
 |cons x r ih=>exact ih (xU s x)
theorem aKU(s:Int)(l r:List Int):tS s (l++r)=tS (tS s l) r:=by simp[tS]
theorem aP6{s t:Int}(l:List Int)(hl:∀x∈l,U64 x)(hs:U64 s)(ht:U64 t):tS s l=tS t l↔s=t:=by
 induction l generalizing s t with
 |nil=>exact Iff.rfl
 |cons x r ih=>
  have:=ih (s:=sJ s x) (t:=sJ t x) (fun y hy=>hl y (by simp[hy])) (xU _ _) (xU _ _)
  exact this.trans (aAS hs ht (hl x (by simp)))
def u64(n:Int):Int:=dU.wrap n
theorem aRO(n:Int):U64 (u64 n):=bounds_u64 (wf_wrap .u64 n)
def aH4(labw:List Int)(lablen:Nat)(l:List Int):Int:=sJ (tS (sJ (sJ (tS 0 labw) lablen) l.length) (l.map u64)) 0
def gl(g:Nat→Int)(n:Nat):List Int:=(dL n).map g
theorem aJF(g:Nat→Int)(n:Nat):gl g (n+1)=gl g n++[g n]:=by simp[gl,gE]
theorem aB9(g:Nat→Int)(n:Nat):(gl g n).length=n:=by simp[gl]
theorem Tryz.infoInt:(Tryz.prog.info? 3).map (fun i=>(i.zero,i.size,i.bytes))=some (some (.int .i64 0),1,8):=by kernel_rfl
theorem aJG(zs:List Int):gl (fun k=>zs[k]?.getD 0) zs.length=zs:=by
 apply List.ext_getElem
 ·simp[gl]
 ·intro i h1 h2
  simp[gl,h2]
theorem Rd.of_ints{w:World}{base:Nat}{e:TypeId}{v:Value}{q:IntKind}{n:Nat}{zs:List Int}(h:w.ownsRow base e 1 v n (zs.map (fM q))):∃A c,v=.slice A n c∧n≤c∧zs.length=n∧Rd w w.heap.size A n fun k=>.int q (zs[k]?.getD 0):=by
 obtain⟨A,c,e1,hc,hr⟩:=Rd.of_own h
 have hl:zs.length=n:=by have:=h.1;simpa using this
 refine⟨A,c,e1,hc,hl,hr.congr fun k hk=>?_⟩;simp[show k<zs.length by omega]
theorem Tryz.infoU64r:(Tryz.prog.info? 113).map (fun i=>(i.zero,i.size,i.bytes))=some (some (.int .u64 0),1,8):=by kernel_rfl
theorem XN{k:IntKind}{a b:Int}(h:a=b):Ending.returned (.int k a)=.returned (.int k b):=by rw[h]
def hor(g:Nat→Int):Nat→Nat→Int
 |_,0=>0
 |i,m+1=>256*hor g (i+1) m+g i
theorem VT(g:Nat→Int)(i m:Nat):hor g i m=LN g i m:=by
 have key:∀m i,LN g i (m+1)=256*LN g (i+1) m+g i:=by
  intro m;induction m with
  |zero=>intro i;simp[LN]
  |succ m ih=>
   intro i;rw[LN,ih,LN,Int.pow_succ,show i+1+m=i+(m+1) by omega];rw[Int.mul_add,Int.mul_comm (256^m) 256,←Int.mul_assoc,←Int.mul_assoc,Int.mul_comm (g (i+(m+1))) 256];omega
 induction m generalizing i with
 |zero=>simp[hor,LN]
 |succ m ih=>rw[hor,key,ih]
set_option maxRecDepth 100000 in
set_option maxHeartbeats 2000000 in
theorem ZU(A:Option Addr)(len cap:Nat)(hlen:len≤1000000)(g:Nat→Int)(hg:Byt g)(w:World)(hR:Rd w w.heap.size A len fun k=>.int .u8 (g k)) :
  Calls Tryz.prog 91 #[.slice A len cap] w fun e w'=>∃v,e=.returned v∧w'.ownsRow w.heap.size 113 1 v ((len+7) / 8) ((pE g len ((len+7) / 8)).map (fM .u64))∧Below w.heap.size w w':=by
 obtain⟨i0,hi,hz0,hz1,hz2⟩:=info_parts Tryz.infoU64r
 go_enter Tryz.func91,Tryz.ntmps91
 go_wp2
 go_loopw [3,4] (fun v i wr=>∃k:Nat,k≤(len+7) / 8∧i=.int .i64 (8*(k:Int))∧wr.ownsRow w.heap.size 113 1 v k ((pE g len k).map (fM .u64))∧Below w.heap.size w wr) (fun _ i _=>len+8-(intOf i).toNat)
 case atStart=>exact⟨0,bH _,rfl,World.ownsRow_nil _ _ _ _,Below.refl _ _⟩
 case round=>
  obtain⟨k,hk,rfl,hown,hB⟩:=hrel
  by_cases hlt:8*k<len
  ·have hdec:decide (8*(k:Int)<(len:Int))=true:=by simp;omega
   obtain⟨M,hM⟩:∃M,M=min 8 (len-8*k):=⟨_,rfl⟩
   have hM8:M≤8:=by omega
   have hM1:8*k+M≤len:=by omega
   have hM2:8*k+M=len∨M=8:=by omega
   have HM:=Lib.hid hM
   clear hM
   have HM2:=Lib.hid hM2
   clear hM2
   by_cases h8:8*k+8≤len
   all_goals
    go_wp2
    go_loop [5,6] (fun x i=>∃j:Nat,j≤M∧i=.int .i64 (8*(k:Int)+(j:Int)-1)∧x=.int .u64 (hor g (8*k+j) (M-j))) (fun _ i=>((intOf i)+1-8*k).toNat)
    case atStart=>exact⟨M,aU _,by have:=HM2.out;have e:(M:Int)=8∨(8*(k:Int)+M=len):=(by omega);first|(rw[show (M:Int)=8 by omega])|(rw[show 8*(k:Int)+(M:Int)=len by omega]),by rw[Nat.sub_self];rfl⟩
    case round=>
     obtain⟨j,hj,rfl,rfl⟩:=hrel
     by_cases hj0:j=0
     ·subst hj0
      go_wp2_with (at_builtin;refine wpList_append_own _ rfl _ _ 164 rfl w.heap.size 113 i0 (.int .u64 0) 1 8 Tryz.underlying164 hi hz0 hz1 hz2 rfl (by decide) _ _ _ rfl (hown.alloc _) ⟨wr.heap.size,0,none⟩ 1 1 [.int .u64 (hor g (8*k) M)] rfl rfl (cell_one_new _ _ _) (by simp[Value.oneCell']) (by unfold maxLen;omega) (by omega) (by have:=hB.size;simp;omega) ?_;intro v' w1 hown' hgrow _)
      go_roundw
      case rel=>exact⟨k+1,by omega,by go_num,by rw[ON,←HM.out,←VT];simpa using hown',(hB.alloc hB.size _).grown hgrow (by have:=hB.size;simp;omega) (fun k e=>(hown.lt k e).1)⟩
      case measure=>simp[intOf];omega
     ·obtain⟨j,rfl⟩:∃j',j=j'+1:=⟨j-1,by omega⟩
      clear hj0;obtain⟨ad,rfl,hab,hac⟩:=(hR.below hB).at_ (show 8*k+j<len by omega)
      have hh:hor g (8*k+j) (M-j)=256*hor g (8*k+(j+1)) (M-(j+1))+g (8*k+j):=by
       rw[show M-j=(M-(j+1))+1 by omega];rfl
      have HH:=Lib.hid hh
      clear hh
      have b1:=LM hg (8*k+j) (M-j) (by omega)
      rw[←VT]at b1
      have b2:=LM hg (8*k+(j+1)) (M-(j+1)) (by omega)
      rw[←VT]at b2
      have b3:=hg (8*k+j)
      have e1:dU.wrap (256*hor g (8*k+(j+1)) (M-(j+1)))=256*hor g (8*k+(j+1)) (M-(j+1)):=IntWalk.u64_in _ (by have:=HH.out;omega)
      have E1:=Lib.hid e1
      clear e1
      go_wp2
      go_round
      case rel=>exact⟨j,by omega,by go_num,by rw[E1.out,←HH.out,IntWalk.u64_in _ b1]⟩
      case measure=>simp[intOf];omega
  ·obtain rfl:k=(len+7) / 8:=by omega
   go_wp2
   go_ret
   exact⟨_,rfl,hown,hB⟩
set_option maxRecDepth 100000 in
set_option maxHeartbeats 400000 in
theorem xG(s x:Int)(w:World) :
  Calls Tryz.prog 92 #[.int .u64 s,.int .u64 x] w fun e w'=>e=.returned (.int .u64 (sJ s x))∧w=w':=by
 go_enter Tryz.func92,Tryz.ntmps92
 go_wp2
 go_ret
 refine⟨XN ?_,rfl⟩
 have h:=bounds_u64 (wf_wrap .u64 (bits BinOp.xor dU s x*11400714819323198485))
 rw[IntWalk.u64_quo _ _ ⟨h.1,h.2,by decide⟩];rfl
theorem aAR(s:Int)(l:List Int)(k:Nat)(h:k<l.length):tS s (l.take (k+1))=sJ (tS s (l.take k)) (l[k]?.getD 0):=by
 rw[List.take_succ_eq_append_getElem h,JS];simp[h]
theorem WI{P:Program}(w:World)(src dst e:TypeId)(s:ByteArray){u:TypeDesc}(hs:P.underlying src=some u)(hd:P.underlying dst=some (.slice e))(he:P.underlying e=some (.int .u8))(hsz:s.size≤maxLen) :
  ∃W1 c,(convert src dst (.string s)).run P w=.ok (.slice (some ⟨w.heap.size,0,none⟩) s.size c) W1∧s.size≤c∧c≤maxLen∧Below w.heap.size w W1∧w.heap.size<W1.heap.size∧Rd W1 W1.heap.size (some ⟨w.heap.size,0,none⟩) s.size fun k=>.int .u8 (PlainAid.bt s k):=by
 refine⟨_,_,Lib.run_convert_string_bytes w src dst e s hs hd he,grownCap_ge _ _ _ _,grownCap_le_maxLen _ _ _ _ hsz,⟨?_,?_,?_,?_,?_⟩,?_,?_⟩
 ·rfl
 ·rfl
 ·rfl
 ·rw[Lib.bytesWorld_size];omega
 ·exact fun k hk=>Lib.bytesWorld_at_old w e s k hk
 ·rw[Lib.bytesWorld_size];omega
 ·refine fun hn=>⟨_,rfl,by rw[Lib.bytesWorld_size];simp,fun k hk=>?_⟩
  have h:=Lib.bytesWorld_cell w e s k hk
  have e0:((⟨w.heap.size,0,none⟩:Addr).add k)=⟨w.heap.size,k,none⟩:=by unfold Addr.add;split<;>simp_all
  rw[e0,h]
  show some _=some (fM .u8 (PlainAid.bt s k))
  unfold PlainAid.bt;rw[dif_pos hk]
  have e1:s.data.toList.getD k 0=s[k]:=by
   have hk':k<s.data.toList.length:=by simpa using hk
   rw[List.getD_eq_getElem?_getD,aN hk',Option.getD_some,Array.getElem_toList];rfl
  rw[e1]
set_option maxRecDepth 100000 in
set_option maxHeartbeats 1000000 in
theorem aD9(s:ByteArray)(hs:s.size≤1000000)(A:Option Addr)(len cap:Nat)(hlen:len≤1000000)(g:Nat→Int)(w:World)(hR:Rd w w.heap.size A len fun k=>.int .i64 (g k)) :
  Calls Tryz.prog 58 #[.string s,.slice A len cap] w fun e W'=>e=.returned (.int .u64 (aH4 (pE (PlainAid.bt s) s.size ((s.size+7) / 8)) s.size (gl g len)))∧Below w.heap.size w W':=by
 obtain⟨W1,c1,hconv,hc1,hc1',hb1,hz1,hR1⟩:=WI (P:=Tryz.prog) w 9 44 5 s Tryz.underlying9 Tryz.underlying44 Tryz.underlying5 (by unfold maxLen;omega)
 go_enter Tryz.func58,Tryz.ntmps58
 go_wp2_with (go_at_call 91;refine(ZU _ _ _ hs _ (aOR s) _ hR1).mono ?_;rintro e w2 ⟨v,rfl,hown,hb2⟩)
 clear hconv;obtain⟨A2,c2,rfl,hc2,hl2,hR2⟩:=Rd.of_ints hown
 have HL2:=Lib.hid hl2
 clear hl2
 have hb3:Below w.heap.size w w2:=hb1.trans (hb2.mono hb1.size)
 have hRr:Rd w2 w.heap.size A len fun k=>.int .i64 (g k):=hR.below hb3
 clear hown
 obtain⟨WL,hWL⟩:∃WL,WL=pE (PlainAid.bt s) s.size ((s.size+7) / 8):=⟨_,rfl⟩
 rw[←hWL]at hR2 HL2
 have HWL:=Lib.hid hWL
 clear hWL
 obtain⟨N1,hN1⟩:∃N1,N1=(s.size+7) / 8:=⟨_,rfl⟩
 rw[←hN1]at hR2 HL2 ⊢
 have hN1':N1≤200000:=by omega
 clear hN1
 go_wp2_with fail
 go_loop [5,7] (fun x i=>∃k:Nat,k≤N1∧i=.int .i64 k∧x=.int .u64 (tS 0 (WL.take k))) (fun _ i=>N1-(intOf i).toNat)
 case atStart=>exact⟨0,bH _,rfl,rfl⟩
 case round=>
  obtain⟨k,hk,rfl,rfl⟩:=hrel
  by_cases hlt:k<N1
  ·obtain⟨ad,rfl,hab,hac⟩:=hR2.at_ hlt
   go_wp2_with (go_at_call 92;refine(xG _ _ _).mono ?_;rintro e w' ⟨rfl,rfl⟩)
   go_round
   case rel=>exact⟨k+1,by omega,by go_num,by rw[aAR _ _ _ (by have:=HL2.out;omega)]⟩
   case measure=>simp[intOf];omega
  ·obtain rfl:k=N1:=by omega
   rw[List.take_of_length_le (by have:=HL2.out;omega)]
   go_wp2_with (go_at_call 92;refine(xG _ _ _).mono ?_;rintro e w' ⟨rfl,rfl⟩)
   go_loop [5,8] (fun x i=>∃j:Nat,j≤len∧i=.int .i64 j∧x=.int .u64 (tS (sJ (sJ (tS 0 WL) s.size) len) ((gl g j).map u64))) (fun _ i=>len-(intOf i).toNat)
   case atStart=>exact⟨0,bH _,rfl,rfl⟩
   case round=>
    obtain⟨j,hj,rfl,rfl⟩:=hrel
    by_cases hlj:j<len
    ·obtain⟨ad,rfl,hab,hac⟩:=hRr.at_ hlj
     go_wp2_with (go_at_call 92;refine(xG _ _ _).mono ?_;rintro e w' ⟨rfl,rfl⟩)
     go_round
     case rel=>exact⟨j+1,by omega,by go_num,by rw[aJF,List.map_append,List.map_singleton,JS];rfl⟩
     case measure=>simp[intOf];omega
    ·obtain rfl:j=len:=by omega
     go_wp2_with (go_at_call 92;refine(xG _ _ _).mono ?_;rintro e w' ⟨rfl,rfl⟩)
     go_ret
     exact⟨XN (by rw[aH4,aB9,←HWL.out]),hb3⟩
set_option maxRecDepth 100000 in
set_option maxHeartbeats 1000000 in
theorem VL(A:Option Addr)(len cap:Nat)(hlen:len≤1000000)(W:Nat→ByteArray)(nm:ByteArray)(w:World)(hR:Rd w w.heap.size A len fun k=>.string (W k)) :
  Calls Tryz.prog 155 #[.slice A len cap,.string nm] w fun e w'=>w=w'∧∃r:Int,e=.returned (.int .i64 r) ∧ -1≤r∧r≤len∧(0≤r↔∃k,k<len∧W k=nm):=by
 go_enter Tryz.func155,Tryz.ntmps155
 go_wp2
 go_loop [8] (fun x=>∃k:Nat,k≤len∧x=.int .i64 (k:Int)∧∀j,j<k→W j≠nm) (fun x=>len-(intOf x).toNat)
 case atStart=>exact⟨0,bH _,rfl,fun j hj=>by omega⟩
 case round=>
  obtain⟨k,hk,rfl,hno⟩:=hrel
  by_cases hlt:k<len
  ·obtain⟨ad,rfl,hab,hac⟩:=hR.at_ hlt
   by_cases he:W k=nm
   ·go_wp2
    go_ret
    exact⟨rfl,k,rfl,by omega,by omega,fun _=>⟨k,hlt,he⟩,fun _=>by omega⟩
   ·have hb:(nm.toList==(W k).toList)=false:=by
      rw[beq_eq_false_iff_ne];intro e
      rw[gJ,gJ]at e;refine he ?_
      cases nm;rename_i nm
      cases hW:W k;rename_i wk
      rw[hW]at e;simp only[ByteArray.mk.injEq];exact(Array.ext' e).symm
    go_wp2
    go_round
    case rel=>exact⟨k+1,by omega,by go_num,fun j hj=>by
      rcases Nat.lt_or_ge j k with h|h
      ·exact hno j h
      ·obtain rfl:j=k:=by omega
       exact he⟩
    case measure=>simp[intOf];omega
  ·obtain rfl:k=len:=by omega
   go_wp2
   go_ret
   exact⟨rfl,-1,rfl,by omega,by omega,fun h=>by omega,fun⟨j,hj,e⟩=>absurd e (hno j hj)⟩
set_option maxRecDepth 100000 in
set_option maxHeartbeats 1000000 in
theorem IG(A:Option Addr)(len cap:Nat)(hlen:len≤1000000)(W:Nat→ByteArray)(nm:ByteArray)(w:World)(hR:Rd w w.heap.size A len fun k=>.string (W k)) :
  Calls Tryz.prog 136 #[.slice A len cap,.string nm] w fun e w'=>w=w'∧∃b:Bool,e=.returned (.bool b)∧(b=true↔∃k,k<len∧W k=nm):=by
 go_enter Tryz.func136,Tryz.ntmps136
 go_wp2_with (go_at_call 155;refine(VL _ _ _ hlen W nm _ hR).mono ?_;rintro e w' ⟨rfl,r,rfl,h1,h2,h3⟩)
 go_ret
 exact⟨rfl,_,rfl,by simp⟩
end Go.Proofs.YtgdlaibocecehaaGreatDoor
namespace Go.CE
open _root_.Bool renaming and_false→fP,not_eq_true→gX
open _root_.ByteArray renaming toList_eq→gJ
open _root_.Int renaming eq_ofNat_of_zero_le→dQ
open IntKind renaming u64→dU
open _root_.List renaming getElem?_eq_getElem→aN,range→dL,range_succ→gE
open _root_.Nat renaming le_refl→aU,zero_le→bH
open Value renaming int→fM
noncomputable def gw:List C:=[.f (.s [115,117,109]),.f (.s [109,105,110]),.f (.s [109,97,120]),.f (.s [99,111,117,110,116]),.f (.s [107,116,104])]
end Go.CE
namespace Go.Proofs.YtgdlaibocecehaaGreatDoor
open _root_.Bool renaming and_false→fP,not_eq_true→gX
open _root_.ByteArray renaming toList_eq→gJ
open _root_.Int renaming eq_ofNat_of_zero_le→dQ
open IntKind renaming u64→dU
open _root_.List renaming getElem?_eq_getElem→aN,range→dL,range_succ→gE
open _root_.Nat renaming le_refl→aU,zero_le→bH
open Value renaming int→fM
open Go.ChangeShapes Go.WideShapes Go.ChangeAt Go.RowKit
theorem aQS:Tryz.prog.globalNamed "intervalmon/parser.groupWords" = some 0:=by kernel_rfl
theorem aFE:(Tryz.prog.globals[0]?).map (·.type)=some 213:=by kernel_rfl
theorem aBN:Tryz.prog.cellsOf 9=1:=by kernel_rfl
def aRK(W:World):Prop:=∃o,W.heap[0]?=some o∧Go.CE.GlbOK o Go.CE.gw
theorem grp_of_laid{W:World}(h:laidMetH Tryz.prog [("intervalmon/parser.groupWords",Rows.laid_intervalmon_parser_groupWords)] W):aRK W:=by
 obtain⟨ps,⟨g',t',cs,fuel,p,q,hg',ht',hvar,hd,_,_⟩,_⟩:=h;obtain rfl:=Option.some.inj (aQS.symm.trans hg');obtain rfl:=Option.some.inj (aFE.symm.trans ht');obtain⟨xs,m,_,ex,hlc,hl,hel⟩:=DataW.trod_array Tryz.underlying213 hd;simp only[Prod.mk.injEq]at ex
 have hdat:xs.map (·.1)=[DataW.lit (.string [115,117,109]),.lit (.string [109,105,110]),.lit (.string [109,97,120]),.lit (.string [99,111,117,110,116]),.lit (.string [107,116,104])]:=by
  have:=ex.1
  unfold Rows.laid_intervalmon_parser_groupWords at this;injection this with this;exact this.symm
 rw[aBN]at hel
 have key:∀(i:Nat) (bs:List UInt8),i<5→(xs.map (·.1))[i]?=some (DataW.lit (.string bs))→∃s:ByteArray,cs[i]?=some (.string s)∧s.data.toList=bs:=by
  intro i bs hi hz
  have hi':i<xs.length:=by omega
  have h1:=hel i hi
  rw[List.getElem?_map,aN hi']at hz;rw[aN hi']at h1
  have hz':(xs[i]).1=DataW.lit (.string bs):=by injection hz
  obtain⟨s,e1,e2,_⟩:=DataW.trod_string Tryz.underlying9 h1;refine⟨s,?_,?_⟩
  ·have:=congrArg (·[0]?) e1
   simpa[List.getElem?_take,List.getElem?_drop] using this
  ·rw[e2]at hz'
   injection hz' with hz';injection hz'
 rw[hdat]at key
 have hv:∃ty fz,W.heap[0]?=some (.cells cs ty fz):=by
  unfold World.var? at hvar;rw[aQS]at hvar;simp only[Option.bind_some]at hvar;split at hvar
  ·rename_i c t f e;cases hvar;exact⟨_,_,e⟩
  ·cases hvar
 obtain⟨ty,fz,hv⟩:=hv;refine⟨_,hv,cs,ty,fz,rfl,?_,?_⟩
 ·obtain⟨s,h1,_⟩:=key 4 _ (by omega) rfl
  have:=(Array.getElem?_eq_some_iff.1 h1).1
  show 5≤cs.size
  omega
 ·intro k c hc
  have fin:∀(i:Nat) (bs:List UInt8),i<5→(∃s:ByteArray,cs[i]?=some (.string s)∧s.data.toList=bs)→∃u,cs[i]?=some u∧Go.CE.CR Go.CE.Bt.nil (.f (.s (bs.map UInt8.toNat))) u:=fun i bs hi ⟨s,h1,h2⟩=>⟨_,h1,s,rfl,by rw[h2]⟩
  have hk:k=0∨k=1∨k=2∨k=3∨k=4:=by
   have:k<5:=(List.getElem?_eq_some_iff.1 hc).1
   omega
  rcases hk with rfl|rfl|rfl|rfl|rfl<;>cases hc
  ·exact fin 0 _ (by omega) (key 0 _ (by omega) rfl)
  ·exact fin 1 _ (by omega) (key 1 _ (by omega) rfl)
  ·exact fin 2 _ (by omega) (key 2 _ (by omega) rfl)
  ·exact fin 3 _ (by omega) (key 3 _ (by omega) rfl)
  ·exact fin 4 _ (by omega) (key 4 _ (by omega) rfl)
end Go.Proofs.YtgdlaibocecehaaGreatDoor
