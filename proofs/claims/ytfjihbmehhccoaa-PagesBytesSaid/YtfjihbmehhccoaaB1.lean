import Derived.Test.YtfjihbmehhccoaaBC
import Derived.Test.YtfjihbmehhccoaaProg
import Derived.WalkKit
import Derived.PlainAid
import Derived.Lib.Hide
import Derived.WalkSpells
import Derived.WalkLawsBesides
import Derived.Laws.RangeAny
import Derived.Below
import Derived.Laws.OwnMore
import Derived.Deep.AppendLies
import Derived.Maps.AppendAt
import Derived.RegionTactic
import Derived.OwnWalk
import Derived.Deep.QuietTactic
import Derived.BigQuiet
import Derived.WalkSmall
import Derived.Shelf.Strings.Builder1
import Derived.Lib.Builder
import Derived.Test.YtfjihbmehhccoaaBD
set_option linter.unusedVariables false
set_option linter.unusedSimpArgs false
namespace Go.AE
open _root_.Array renaming getElem?_eq_none→gD,length_toList→jD
open IntKind renaming i64→aC
open _root_.List renaming append_assoc→cF,length_append→aL,length_cons→eF,length_nil→jJ
open _root_.Nat renaming le_refl→aW,lt_or_ge→cL,zero_le→bX
open Op renaming bytesLess→dH
open _root_.Go.Proofs.Try renaming prog→aB
open Value renaming agg→iK,int→cT,slice→bB,string→cU
open Go.Proofs
def nK(n m:Int):Int:=(if n<0 then -(n+1) else n)%m
def rG(n:Int):Bool:=decide (97≤n)&&decide (n≤122)
def LU:Mod
 |[.c (.p (.i .i64 n)),.c (.p (.i .i64 m))]=>some (eW .i64 n∧0<m,iV (nK n m))
 |_=>none
def LN:Mod
 |[.c (.p (.i .u8 n))]=>some (True,bV (rG n))
 |_=>none
def fH:Ext:=kH []
def aOG:Ext:=kH [(14,LU)]
theorem aGU(n m:Int):GC fH (lD aB Try.f14) (oB Try.f14 [iV n,iV m]) (mC [] [] (bK aB Try.f14))=bT (decide (n<0)) (.rq (eW aC (n+1)) (.rq (eW aC (-(n+1))) (.rq (0 ≤ -(n+1)∧0<m) (.done .ret (St.mk [V.c (C.p (PV.i aC (-(n+1)%m)))] [])))))
 (.rq (0≤n∧0<m) (.done .ret (St.mk [V.c (C.p (PV.i aC (n%m)))] []))):=by kernel_rfl
section
variable {G:Nat→Option Obj}
theorem aY{P:Program}:bG P G fH:=eC (by simp)
theorem aDN:iW aB G 14 LU:=by
 intro args p v hm hp h;unfold LU at hm;split at hm
 ·rename_i n m
  injection hm with hm;injection hm with e1 e2;subst e1;subst e2;obtain⟨hn,hm⟩:=hp;simp only[eW]at hn
  refine HI aY Try.func14 (by kernel_rfl) rfl (aGU n m) ?_ h
  simp only[cD,bA,iA,KF];refine⟨fun h1=>?_,fun h1=>?_⟩
  ·have h1:n<0:=by simpa using h1
   refine⟨by simp only[eW];omega,by simp only[eW];omega,by omega,_,rfl,iE.of_eq ?_⟩;unfold nK;rw[if_pos h1];rfl
  ·have h1:¬n<0:=by simpa using h1
   refine⟨by omega,_,rfl,iE.of_eq ?_⟩;unfold nK;rw[if_neg h1];rfl
 ·cases hm
theorem GA:bG aB G aOG:=eC (by simp;exact aDN)
end
end Go.AE
namespace Go.Proofs.Ytfjihbmehhccoaa
open _root_.Array renaming getElem?_eq_none→gD,length_toList→jD
open IntKind renaming i64→aC
open _root_.List renaming append_assoc→cF,length_append→aL,length_cons→eF,length_nil→jJ
open _root_.Nat renaming le_refl→aW,lt_or_ge→cL,zero_le→bX
open Op renaming bytesLess→dH
open _root_.Go.Proofs.Try renaming prog→aB
open Value renaming agg→iK,int→cT,slice→bB,string→cU
open Go.RowKit
def okc(k:Nat)(c:Int):Bool:=(decide (97≤c)&&decide (c≤122))||(decide (k≠0)&&(c==95||(decide (48≤c)&&decide (c≤57))))
def HA(f:Nat→Int)(n:Nat):Bool:=(List.range n).all fun k=>okc k (f k)
theorem vT(f:Nat→Int)(n:Nat):HA f (n+1)=(HA f n&&okc n (f n)):=by simp[HA,List.range_succ]
theorem aDD(f:Nat→Int)(n:Nat):HA f n=true↔∀k,k<n→okc k (f k)=true:=by simp[HA]
def jK(s:ByteArray):Bool:=decide (1≤s.size)&&decide (s.size≤16)&&HA (PlainAid.bt s) s.size
theorem vV{s:ByteArray}{k:Nat}(hk:k<s.size)(h:okc k (PlainAid.bt s k)=false):jK s=false:=by
 have:HA (PlainAid.bt s) s.size=false:=by
  rw[←Bool.not_eq_true,aDD];intro h2
  rw[h2 k hk]at h;cases h
 simp[jK,this]
set_option maxRecDepth 100000 in
set_option maxHeartbeats 1000000 in
theorem AT(s:ByteArray)(w:World) :
  Calls aB 72 #[.string s] w fun e w'=>e=.returned (.bool (jK s))∧Below w.heap.size w w':=by
 by_cases h1:s.size<1
 ·have:jK s=false:=by unfold jK;rw[decide_eq_false (by omega)];rfl
  rw[this];clear this
  go_enter Try.func72,Try.ntmps72
  go_wp2
  go_ret
  exact⟨rfl,Below.refl _ _⟩
 ·by_cases h2:16<s.size
  ·have:jK s=false:=by unfold jK;rw[decide_eq_false (show ¬s.size≤16 by omega),Bool.and_false];rfl
   rw[this];clear this
   go_enter Try.func72,Try.ntmps72
   go_wp2
   go_ret
   exact⟨rfl,Below.refl _ _⟩
  ·have d1:decide ((s.size:Int)<1)=false:=by simp;omega
   have d2:decide (16<(s.size:Int))=false:=by simp;omega
   go_enter Try.func72,Try.ntmps72
   go_wp2
   go_loopw [3] (fun _ wr=>∃k:Nat,k≤s.size∧HA (PlainAid.bt s) k=true∧wr=w.iter s k) (fun _ wr=>s.size-wr.iterPos w.heap.size)
   case atStart=>exact⟨0,bX _,rfl,rfl⟩
   case round=>
    obtain⟨k,hk,hok,rfl⟩:=hrel
    have HOK:=Lib.hid hok
    clear hok
    have hbel:∀p,Below w.heap.size w (w.iter s p):=fun p=>(Below.refl _ w).alloc (aW _) _
    have HB:=Lib.hid hbel
    clear hbel
    by_cases hp:k<s.size
    ·by_cases ha:(s[k]'hp).toNat<128
     ·obtain⟨c,hc⟩:∃c:Int,c=PlainAid.bt s k:=⟨_,rfl⟩
      have hcb:0≤c∧c≤127:=by rw[hc,←PlainAid.get_bt s k hp];omega
      have hnx:∀ty,(Instr.next (.pointer (some ⟨w.heap.size,0,none⟩)) true ty).run aB (w.iter s k)=.ok (.tuple #[.bool true,.int .i64 k,.int .i32 c]) (w.iter s (k+1)):=fun ty=>by
       rw[run_next_ascii w s k ty hp ha,hc,←PlainAid.get_bt s k hp]
      have HC:=Lib.hid hc
      clear hc ha
      by_cases hkc:okc k c=true
      ·have HK:=Lib.hid hkc
       have hkc':(97≤c∧c≤122)∨(k≠0∧(c=95∨(48≤c∧c≤57))):=by simpa[okc] using hkc
       clear hkc
       rcases hkc' with⟨g1,g2⟩|⟨g0,g1⟩
       ·go_wp2
        go_roundw
        case rel=>exact⟨k+1,by omega,by rw[vT,HOK.out,←HC.out,HK.out];rfl,rfl⟩
        case measure=>simp;omega
       ·have e0:((k:Int)==0)=false:=by simp;omega
        rcases g1 with g1|⟨g1,g2⟩
        ·have e1:(c != 95)=false:=by simp[g1]
         have e2:decide (97≤c)=false:=by simp;omega
         clear g1
         go_wp2
         go_roundw
         case rel=>exact⟨k+1,by omega,by rw[vT,HOK.out,←HC.out,HK.out];rfl,rfl⟩
         case measure=>simp;omega
        ·have e1:(c != 95)=true:=by simp;omega
         have e2:decide (97≤c)=false:=by simp;omega
         go_wp2
         go_roundw
         case rel=>exact⟨k+1,by omega,by rw[vT,HOK.out,←HC.out,HK.out];rfl,rfl⟩
         case measure=>simp;omega
      ·have hbad:jK s=false:=vV hp (by rw[←HC.out];simpa using hkc)
       have HBAD:=Lib.hid hbad
       have hkc':¬((97≤c∧c≤122)∨(k≠0∧(c=95∨(48≤c∧c≤57)))):=by simpa[okc] using hkc
       clear hkc hbad
       by_cases g0:k=0
       ·subst g0
        by_cases g1:97≤c
        ·have e5:decide (c≤122)=false:=by simp;omega
         go_wp2
         go_ret
         exact⟨by rw[HBAD.out];rfl,HB.out _⟩
        ·have e2:decide (97≤c)=false:=by simp;omega
         go_wp2
         go_ret
         exact⟨by rw[HBAD.out];rfl,HB.out _⟩
       ·have e0:((k:Int)==0)=false:=by simp;omega
        have e1:(c != 95)=true:=by simp;omega
        by_cases g1:97≤c
        ·have e5:decide (c≤122)=false:=by simp;omega
         go_wp2
         go_ret
         exact⟨by rw[HBAD.out];rfl,HB.out _⟩
        ·have e2:decide (97≤c)=false:=by simp;omega
         by_cases g2:c<48
         ·go_wp2
          go_ret
          exact⟨by rw[HBAD.out];rfl,HB.out _⟩
         ·have e3:decide (c<48)=false:=by simp;omega
          go_wp2
          go_ret
          exact⟨by rw[HBAD.out];rfl,HB.out _⟩
     ·obtain⟨h5,h6⟩:=decode_high s k hp (by omega)
      have hbad:jK s=false:=vV hp (by
       rw[←PlainAid.get_bt s k hp];unfold okc;rw[decide_eq_false (show ¬(((s[k]'hp).toNat:Int)≤122) by omega),decide_eq_false (show ¬(((s[k]'hp).toNat:Int)≤57) by omega),Bool.and_false,Bool.and_false,Bool.or_false,Bool.false_or]
       rw[show (((s[k]'hp).toNat:Int)==95)=false by simp;omega,Bool.and_false])
      have HBAD:=Lib.hid hbad
      have hnx:∀ty,(Instr.next (.pointer (some ⟨w.heap.size,0,none⟩)) true ty).run aB (w.iter s k)=_:=fun ty=>run_next_any w s k ty hp
      obtain⟨r,hr⟩:∃r:Nat,r=(Utf8.decode s k).1:=⟨_,rfl⟩
      obtain⟨d,hd⟩:∃d:Nat,d=(Utf8.decode s k).2:=⟨_,rfl⟩
      rw[←hr]at h5 hnx;rw[←hd]at hnx;clear hbad hr hd h6 ha
      have e1:((r:Int) != 95)=true:=by simp;omega
      have e3:decide ((r:Int)<48)=false:=by simp;omega
      have e4:decide (57<(r:Int))=true:=by simp;omega
      have e5:decide ((r:Int)≤122)=false:=by simp;omega
      by_cases g0:k=0
      ·subst g0
       go_wp2
       go_ret
       exact⟨by rw[HBAD.out];rfl,HB.out _⟩
      ·have e0:((k:Int)==0)=false:=by simp;omega
       go_wp2
       go_ret
       exact⟨by rw[HBAD.out];rfl,HB.out _⟩
    ·obtain rfl:k=s.size:=by omega
     have hnx:∀ty,(Instr.next (.pointer (some ⟨w.heap.size,0,none⟩)) true ty).run aB (w.iter s s.size)=_:=fun ty=>run_next_end w s s.size ty hp
     go_wp2
     go_ret
     refine⟨?_,HB.out _⟩;unfold jK;rw[HOK.out,decide_eq_true (show 1≤s.size by omega),decide_eq_true (show s.size≤16 by omega)];rfl
def okv(c:Int):Bool:=decide (33≤c)&&decide (c≤126) && !(c==34||c==92||c==44||c==123||c==125)
def wS(f:Nat→Int)(n:Nat):Bool:=(List.range n).all fun k=>okv (f k)
theorem ER(f:Nat→Int)(n:Nat):wS f (n+1)=(wS f n&&okv (f n)):=by simp[wS,List.range_succ]
theorem aA2(f:Nat→Int)(n:Nat):wS f n=true↔∀k,k<n→okv (f k)=true:=by simp[wS]
def jY(s:ByteArray):Bool:=decide (s.size≤16)&&wS (PlainAid.bt s) s.size
theorem sK{s:ByteArray}{k:Nat}(hk:k<s.size)(h:okv (PlainAid.bt s k)=false):jY s=false:=by
 have:wS (PlainAid.bt s) s.size=false:=by
  rw[←Bool.not_eq_true,aA2];intro h2
  rw[h2 k hk]at h;cases h
 simp[jY,this]
set_option maxRecDepth 100000 in
set_option maxHeartbeats 1000000 in
theorem UP(s:ByteArray)(w:World) :
  Calls aB 89 #[.string s] w fun e w'=>e=.returned (.bool (jY s))∧Below w.heap.size w w':=by
 by_cases h2:16<s.size
 ·have:jY s=false:=by unfold jY;rw[decide_eq_false (show ¬s.size≤16 by omega)];rfl
  rw[this];clear this
  go_enter Try.func89,Try.ntmps89
  go_wp2
  go_ret
  exact⟨rfl,Below.refl _ _⟩
 ·have d2:decide (16<(s.size:Int))=false:=by simp;omega
  go_enter Try.func89,Try.ntmps89
  go_wp2
  go_loopw [4] (fun _ wr=>∃k:Nat,k≤s.size∧wS (PlainAid.bt s) k=true∧wr=w.iter s k) (fun _ wr=>s.size-wr.iterPos w.heap.size)
  case atStart=>exact⟨0,bX _,rfl,rfl⟩
  case round=>
   obtain⟨k,hk,hok,rfl⟩:=hrel
   have HOK:=Lib.hid hok
   clear hok
   have hbel:∀p,Below w.heap.size w (w.iter s p):=fun p=>(Below.refl _ w).alloc (aW _) _
   have HB:=Lib.hid hbel
   clear hbel
   by_cases hp:k<s.size
   ·by_cases ha:(s[k]'hp).toNat<128
    ·obtain⟨c,hc⟩:∃c:Int,c=PlainAid.bt s k:=⟨_,rfl⟩
     have hcb:0≤c∧c≤127:=by rw[hc,←PlainAid.get_bt s k hp];omega
     have hnx:∀ty,(Instr.next (.pointer (some ⟨w.heap.size,0,none⟩)) true ty).run aB (w.iter s k)=.ok (.tuple #[.bool true,.int .i64 k,.int .i32 c]) (w.iter s (k+1)):=fun ty=>by
      rw[run_next_ascii w s k ty hp ha,hc,←PlainAid.get_bt s k hp]
     have HC:=Lib.hid hc
     clear hc ha
     by_cases hkc:okv c=true
     ·have HK:=Lib.hid hkc
      have hkc':(33≤c∧c≤126)∧c≠34∧c≠92∧c≠44∧c≠123∧c≠125:=by simp[okv]at hkc;omega
      obtain⟨⟨g1,g2⟩,g3,g4,g5,g6,g7⟩:=hkc'
      have e3:(c==34)=false:=by simp;omega
      have e4:(c==92)=false:=by simp;omega
      have e5:(c==44)=false:=by simp;omega
      have e6:(c==123)=false:=by simp;omega
      have e7:(c==125)=false:=by simp;omega
      clear hkc g3 g4 g5 g6 g7
      go_wp2
      go_roundw
      case rel=>exact⟨k+1,by omega,by rw[ER,HOK.out,←HC.out,HK.out];rfl,rfl⟩
      case measure=>simp;omega
     ·have hbad:jY s=false:=sK hp (by rw[←HC.out];simpa using hkc)
      have HBAD:=Lib.hid hbad
      have hkc':c<33∨126<c∨c=34∨c=92∨c=44∨c=123∨c=125:=by simp[okv]at hkc;omega
      clear hkc hbad
      rcases hkc' with g|g|g|g|g|g|g
      ·go_wp2
       go_ret
       exact⟨by rw[HBAD.out];rfl,HB.out _⟩
      ·have e5:decide (c<33)=false:=by simp;omega
       go_wp2
       go_ret
       exact⟨by rw[HBAD.out];rfl,HB.out _⟩
      all_goals
       have G:=Lib.hid g
       clear g;obtain rfl:=G.out;clear G
       go_wp2
       go_ret
       exact⟨by rw[HBAD.out];rfl,HB.out _⟩
    ·obtain⟨h5,h6⟩:=decode_high s k hp (by omega)
     have hbad:jY s=false:=sK hp (by
      rw[←PlainAid.get_bt s k hp];unfold okv
      rw[decide_eq_false (show ¬(((s[k]'hp).toNat:Int)≤126) by omega),Bool.and_false,Bool.false_and])
     have HBAD:=Lib.hid hbad
     have hnx:∀ty,(Instr.next (.pointer (some ⟨w.heap.size,0,none⟩)) true ty).run aB (w.iter s k)=_:=fun ty=>run_next_any w s k ty hp
     obtain⟨r,hr⟩:∃r:Nat,r=(Utf8.decode s k).1:=⟨_,rfl⟩
     obtain⟨d,hd⟩:∃d:Nat,d=(Utf8.decode s k).2:=⟨_,rfl⟩
     rw[←hr]at h5 hnx;rw[←hd]at hnx;clear hbad hr hd h6 ha
     have e3:decide ((r:Int)<33)=false:=by simp;omega
     have e4:decide (126<(r:Int))=true:=by simp;omega
     go_wp2
     go_ret
     exact⟨by rw[HBAD.out];rfl,HB.out _⟩
   ·obtain rfl:k=s.size:=by omega
    have hnx:∀ty,(Instr.next (.pointer (some ⟨w.heap.size,0,none⟩)) true ty).run aB (w.iter s s.size)=_:=fun ty=>run_next_end w s s.size ty hp
    go_wp2
    go_ret
    refine⟨?_,HB.out _⟩;unfold jY;rw[HOK.out,decide_eq_true (show s.size≤16 by omega)];rfl
def Rd(w:World)(B:Nat)(A:Option Addr)(n:Nat)(f:Nat→Value):Prop:=0<n→∃ad,A=some ad∧ad.block<B∧∀k,k<n→w.cell? (ad.add k)=some (f k)
theorem aBI(a:Addr)(n:Nat):(a.add n).block=a.block:=by unfold Addr.add;split<;>rfl
section
variable {w w':World} {B B' n:Nat} {A:Option Addr} {f g:Nat→Value}
theorem Rd.keep(h:Rd w B A n f)(hk:∀p:Addr,p.block<B→w'.cell? p=w.cell? p):Rd w' B A n f:=fun hn=>by
 obtain⟨ad,e,hlt,hc⟩:=h hn;exact⟨ad,e,hlt,fun k hkn=>(hk _ (by rw[aBI];exact hlt)).trans (hc k hkn)⟩
theorem Rd.below(h:Rd w B A n f)(hb:Below B w w'):Rd w' B A n f:=h.keep fun _ hp=>hb.cell hp
end
section
variable {P:Program} (w:World)
end
abbrev Lb:=ByteArray×ByteArray
def JH(f:Nat→Lb)(j:Nat):Value:=.string (if j%2=0 then (f (j / 2)).1 else (f (j / 2)).2)
theorem aO1(f:Nat→Lb)(k:Nat):JH f (k*2)=.string (f k).1:=by
 unfold JH;rw[if_pos (by omega),show k*2 / 2=k by omega]
theorem aO0(f:Nat→Lb)(k:Nat):JH f (k*2+1)=.string (f k).2:=by
 unfold JH;rw[if_neg (by omega),show (k*2+1) / 2=k by omega]
def RdL(w:World)(B:Nat)(A:Option Addr)(n:Nat)(f:Nat→Lb):Prop:=Rd w B A (n*2) (JH f)
theorem aG5(a:Addr)(i j:Nat):(a.add i).add j=a.add (i+j):=by
 unfold Addr.add
 by_cases hi:i=0<;>by_cases hj:j=0<;>simp[hi,hj,Nat.add_assoc]
theorem RdL.at_{w:World}{B n:Nat}{A:Option Addr}{f:Nat→Lb}(h:RdL w B A n f){k:Nat}(hk:k<n):∃ad,A=some ad∧ad.block<B∧w.cell? (ad.add (k*2))=some (.string (f k).1)∧w.cell? ⟨(ad.add (k*2)).block,(ad.add (k*2)).off+1,none⟩=some (.string (f k).2):=by
 obtain⟨ad,e,hlt,hc⟩:=h (by omega);refine⟨ad,e,hlt,?_,?_⟩
 ·rw[hc _ (by omega),aO1]
 ·have e1:(⟨(ad.add (k*2)).block,(ad.add (k*2)).off+1,none⟩:Addr)=(ad.add (k*2)).add 1:=by simp[Addr.add]
  rw[e1,aG5,hc _ (by omega),aO0]
theorem GM{w w':World}{cs:Array Value}{t:TypeId}(hb:Below (w.alloc (.cells cs t)).heap.size (w.alloc (.cells cs t)) w')(i:Nat){v:Value}(h:cs[i]?=some v):w'.cell? ⟨w.heap.size,i,none⟩=some v:=by
 rw[hb.cell (by simp)];rw[cell_of_row _ w.heap.size i cs t (0,0) (heap_alloc_new w _)];exact h
def wK(a b:ByteArray):Bool:=dH a.toList b.toList
def okl(f:Nat→Lb)(k:Nat):Bool:=jK (f k).1 && !(f k).2.toList.isEmpty&&jY (f k).2&&(decide (k=0)||wK (f (k-1)).1 (f k).1)
def yP(f:Nat→Lb)(n:Nat):Bool:=(List.range n).all (okl f)
theorem ES(f:Nat→Lb)(n:Nat):yP f (n+1)=(yP f n&&okl f n):=by simp[yP,List.range_succ]
theorem AF(f:Nat→Lb)(n:Nat):yP f n=true↔∀k,k<n→okl f k=true:=by simp[yP]
def mD(f:Nat→Lb)(n:Nat):Bool:=decide (n≤8)&&yP f n
theorem sL{f:Nat→Lb}{n k:Nat}(hk:k<n)(h:okl f k=false):mD f n=false:=by
 have:yP f n=false:=by
  rw[←Bool.not_eq_true,AF];intro h2
  rw[h2 k hk]at h;cases h
 simp[mD,this]
set_option maxRecDepth 100000 in
set_option maxHeartbeats 2000000 in
theorem UQ(A:Option Addr)(n c:Nat)(f:Nat→Lb)(w:World)(hR:RdL w w.heap.size A n f) :
  Calls aB 73 #[.slice A n c] w fun e w'=>e=.returned (.bool (mD f n))∧Below w.heap.size w w':=by
 by_cases h8:8<n
 ·have:mD f n=false:=by unfold mD;rw[decide_eq_false (by omega)];rfl
  rw[this];clear this
  go_enter Try.func73,Try.ntmps73
  go_wp2
  go_ret
  exact⟨rfl,Below.refl _ _⟩
 ·have d8:decide (8<(n:Int))=false:=by simp;omega
  go_enter Try.func73,Try.ntmps73
  go_wp2
  go_loopw [10] (fun i wr=>∃k:Nat,k≤n∧i=.int .i64 k∧yP f k=true∧Below w.heap.size w wr) (fun i _=>n-(intOf i).toNat)
  case atStart=>exact⟨0,bX _,rfl,rfl,Below.refl _ _⟩
  case round=>
   obtain⟨k,hk,rfl,hok,hB⟩:=hrel
   have HOK:=Lib.hid hok
   clear hok
   by_cases hlt:k<n
   ·obtain⟨ad,rfl,hab,hc0,hc1⟩:=(RdL.at_ (Rd.below hR hB) hlt)
    have hokl:okl f k=(jK (f k).1 && !(f k).2.toList.isEmpty&&jY (f k).2&&(decide (k=0)||wK (f (k-1)).1 (f k).1)):=rfl
    obtain⟨nm,hnm⟩:∃nm,nm=(f k).1:=⟨_,rfl⟩
    obtain⟨vv,hvv⟩:∃vv,vv=(f k).2:=⟨_,rfl⟩
    rw[←hnm]at hc0;rw[←hvv]at hc1;rw[←hnm,←hvv]at hokl
    have HKL:=Lib.hid hokl
    clear hnm hvv hokl
    by_cases hN:jK nm=true
    ·have HN:=Lib.hid hN
     go_wp2_with fail
     refine(AT nm _).mono ?_;rintro e w2 ⟨rfl,hb2⟩
     have c0:=GM hb2 0 (v:=.string nm) rfl
     have c1:=GM hb2 1 (v:=.string vv) rfl
     have B2:Below w.heap.size w w2:=(hB.alloc hB.size _).trans (hb2.mono (by have:=hB.size;simp;omega))
     rw[hN];clear hN
     by_cases hE:vv.toList.isEmpty=false
     ·have HE:=Lib.hid hE
      go_wp2_with fail
      refine(UP vv _).mono ?_;rintro e w3 ⟨rfl,hb3⟩
      have B3:Below w.heap.size w w3:=B2.trans (hb3.mono B2.size)
      by_cases hV:jY vv=true
      ·have HV:=Lib.hid hV
       rw[hV];clear hV
       by_cases h0:0<k
       ·have hi:decide (0<(k:Int))=true:=by simp;omega
        have hi2:(0:Int)<k:=by omega
        have c0':=(hb3.cell (p:=⟨wr.heap.size,0,none⟩) (by have:=hb2.size;simp at this ⊢;omega)).trans c0
        obtain⟨ad',ead,_,hp0,_⟩:=(RdL.at_ (Rd.below hR B3) (show k-1<n by omega))
        obtain rfl:ad=ad':=by injection ead
        obtain⟨pm,hpm⟩:∃pm,pm=(f (k-1)).1:=⟨_,rfl⟩
        rw[←hpm]at hp0
        have HPM:=Lib.hid hpm
        have hk1:(0:Int)≤k-1:=by omega
        have hk2:(k:Int)-1<n:=by omega
        have hk3:((k:Int)-1).toNat=k-1:=by omega
        have hk4:aC.wrap ((k:Int)-1)=(k:Int)-1:=IntWalk.i64_in _ (by omega)
        clear hpm c0 c1 ead
        by_cases hS:dH pm.toList nm.toList=true
        ·have hS':(!dH pm.toList nm.toList)=false:=by rw[hS];rfl
         have HS:=Lib.hid hS
         clear hS
         go_wp2_with fail
         go_quiet (fail)
         go_wp2
         go_roundw
         case rel=>exact⟨k+1,by omega,by go_num,by rw[ES,HOK.out,HKL.out,HN.out,HE.out,HV.out,←HPM.out,wK,HS.out];simp,below_drewN B3 _⟩
         case measure=>simp[intOf];omega
        ·have hS':(!dH pm.toList nm.toList)=true:=by simpa using hS
         have HS:=Lib.hid (show dH pm.toList nm.toList=false by simpa using hS)
         clear hS
         go_wp2_with fail
         go_quiet (fail)
         go_wp2
         go_ret
         exact⟨by rw[sL hlt (by rw[HKL.out,←HPM.out,wK,HS.out,decide_eq_false (by omega)];simp)];rfl,below_drewN B3 _⟩
       ·have hi:decide (0<(k:Int))=false:=by simp;omega
        go_wp2_with fail
        go_quiet (fail)
        go_wp2
        go_roundw
        case rel=>exact⟨k+1,by omega,by go_num,by rw[ES,HOK.out,HKL.out,HN.out,HE.out,HV.out,decide_eq_true (show k=0 by omega)];simp,below_drewN B3 _⟩
        case measure=>simp[intOf];omega
      ·have HV:=Lib.hid (show jY vv=false by simpa using hV)
       rw[HV.out];clear hV
       go_wp2
       go_ret
       exact⟨by rw[sL hlt (by rw[HKL.out,HV.out];simp)];rfl,B3⟩
     ·have HE:=Lib.hid (show vv.toList.isEmpty=true by simpa using hE)
      have hE':=HE.out
      clear hE
      go_wp2
      go_ret
      exact⟨by rw[sL hlt (by rw[HKL.out,HE.out];simp)];rfl,B2⟩
    ·have HN:=Lib.hid (show jK nm=false by simpa using hN)
     clear hN
     go_wp2_with fail
     refine(AT nm _).mono ?_;rintro e w2 ⟨rfl,hb2⟩
     have B2:Below w.heap.size w w2:=(hB.alloc hB.size _).trans (hb2.mono (by have:=hB.size;simp;omega))
     rw[HN.out]
     go_wp2
     go_ret
     exact⟨by rw[sL hlt (by rw[HKL.out,HN.out];simp)];rfl,B2⟩
   ·obtain rfl:k=n:=by omega
    go_wp2
    go_ret
    exact⟨by unfold mD;rw[HOK.out,decide_eq_true (show k≤8 by omega)];rfl,hB⟩
theorem sizeBuilder:∃j,Go.Proofs.Try.prog.info? 128=some j∧j.size=2:=Option.map_eq_some_iff.1 (show (Go.Proofs.Try.prog.info? 128).map (·.size)=some 2 by kernel_rfl)
theorem liesBuilder:liesAt Go.Proofs.Try.prog Go.Proofs.Try.prog.depth 128 (2 / Go.Proofs.Try.prog.cellsOf 128) 0 128 1=true:=by kernel_rfl
theorem infoByte:(Go.Proofs.Try.prog.info? 5).map (fun i=>(i.zero,i.size,i.bytes))=some (some (.int .u8 0),1,1):=by kernel_rfl
def KT(w w':World):Prop:=∀(k:Nat) (cs:Array Value) (T:TypeId) (fr:Nat×Nat),w.heap[k]?=some (.cells cs T fr)→T≠128→T≠5→w'.heap[k]?=some (.cells cs T fr)
theorem KT.refl(w:World):KT w w:=fun _ _ _ _ h _ _=>h
theorem KT.trans{a b c:World}(h:KT a b)(k:KT b c):KT a c:=fun i cs T fr e h1 h2=>k i cs T fr (h i cs T fr e h1 h2) h1 h2
theorem KT.alloc(w:World)(o:Obj):KT w (w.alloc o):=fun k cs T fr e _ _=>by
 have hk:k<w.heap.size:=by
  rcases cL k w.heap.size with h'|h'
  ·exact h'
  ·simp[gD h']at e
 rw[Lib.alloc_old w o k hk];exact e
theorem KT.setCell{w:World}{b j:Nat}{cs:Array Value}{fr:Nat×Nat}(h:w.heap[b]?=some (.cells cs 128 fr))(v:Value):KT w (w.setCell ⟨b,j,none⟩ v):=fun k ds T fs e h1 _=>by
 rw[Below.heap_setCell _ _ _ _ (fun he=>by
  have he:k=b:=he
  subst he;rw[h]at e;injection e with e;injection e with _ e2 _
  exact h1 e2.symm)]
 exact e
theorem KT.grown{w w':World}{B n:Nat}{v:Value}{xs:List Value}(hown:w.ownsRow B 5 1 v n xs)(hg:w.grownBy w' v.ownBlock):KT w w':=fun k cs T fr e _ h2=>by
 have hk:k<w.heap.size:=by
  rcases cL k w.heap.size with h'|h'
  ·exact h'
  ·simp[gD h']at e
 rw[hg.block k hk (fun he=>Lib.ownBlock_ne hown e h2 he.symm)];exact e
set_option maxHeartbeats 1000000 in
set_option maxRecDepth 100000 in
theorem GI(b:Nat)(w:World)(h0:w.cell? ⟨b,0,none⟩=some (.pointer (some ⟨b,0,none⟩))) :
  Calls aB 108 #[.pointer (some ⟨b,0,none⟩)] w fun e w'=>e=.returned (.tuple #[])∧w'=w:=by
 obtain⟨j,hj,_⟩:=sizeBuilder
 go_enter Try.func108,Try.ntmps108
 go_wp2
 rw[Lib.run_neq_ptr_same w _ Try.underlying126 hj]
 go_wp2
 go_end0
 exact⟨rfl,rfl⟩
set_option maxHeartbeats 1000000 in
set_option maxRecDepth 100000 in
theorem CT(b:Nat)(w:World)(h0:w.cell? ⟨b,0,none⟩=some (.pointer none))(hsh:w.shape? b=some (128,2))(hfz:w.frozen? ⟨b,0,none⟩=false) :
  Calls aB 108 #[.pointer (some ⟨b,0,none⟩)] w fun e w'=>e=.returned (.tuple #[])∧w'=w.setCell ⟨b,0,none⟩ (.pointer (some ⟨b,0,none⟩)):=by
 obtain⟨j,hj,hjs⟩:=sizeBuilder
 go_enter Try.func108,Try.ntmps108
 go_wp2
 rw[Lib.run_to_unsafe w ⟨b,0,none⟩ Try.underlying126 Try.underlying157 hj (by rw[hjs];decide) hsh (Nat.zero_lt_succ 1)];simp only[Result.andThen];rw[Oper.upon_value]
 go_wp2
 rw[run_callFunc_extern Try.func116 (by kernel_rfl) (by kernel_rfl) (by kernel_rfl) (e:=Extern.AbiNoEscape.same) (by kernel_rfl)]
 rw[Lib.run_noEscape];simp only[Result.andThen];rw[Oper.upon_value]
 go_wp2
 rw[Lib.run_from_unsafe w ⟨b,0,none⟩ Try.underlying157 Try.underlying126 hj hsh liesBuilder];simp only[Result.andThen];rw[Oper.upon_value]
 go_wp2
 go_end0
 exact⟨rfl,rfl⟩
theorem KB(B b:Nat)(bs:List Value)(w:World)(h:Lib.IsBuilder 128 5 B b bs w) :
  Calls aB 108 #[.pointer (some ⟨b,0,none⟩)] w fun e w'=>e=.returned (.tuple #[])∧(Lib.BuilderAt 128 5 B b (.pointer (some ⟨b,0,none⟩)) bs w'∧Below B w w'∧KT w w'):=by
 rcases h with h|h
 ·have h0:=h
  refine(CT b w h.cell0 h.shape h.frozen0).mono ?_;rintro e w' ⟨rfl,rfl⟩;obtain⟨_,v,hv,_⟩:=h;exact⟨rfl,h0.used _,(Below.refl B w).setCell (p:=⟨b,0,none⟩) h0.1 _,KT.setCell hv _⟩
 ·refine(GI b w h.cell0).mono ?_
  rintro e w' ⟨rfl,rfl⟩;exact⟨rfl,h,Below.refl B _,KT.refl _⟩
set_option maxHeartbeats 2000000 in
set_option maxRecDepth 100000 in
theorem qS(B b:Nat)(bs:List Value)(c:Int)(w:World)(h:Lib.IsBuilder 128 5 B b bs w)(hlen:bs.length+1≤140737488355328)(hBw:B≤w.heap.size) :
  Calls aB 90 #[.pointer (some ⟨b,0,none⟩),.int .u8 c] w fun e w'=>e=.returned .nilIface∧(Lib.BuilderAt 128 5 B b (.pointer (some ⟨b,0,none⟩)) (bs++[.int .u8 c]) w'∧Below B w w'∧KT w w'):=by
 obtain⟨i0,hi,hz0,hz1,hz2⟩:=info_parts infoByte
 go_enter Try.func90,Try.ntmps90
 go_wp2_with (go_at_call 108;refine(KB B b bs _ h).mono ?_)
 rintro e w1 ⟨rfl,h1,hb1,hk1⟩;obtain⟨hB,v,hbk,hown,hne⟩:=h1
 have c0:w1.cell? ⟨b,0,none⟩=some (.pointer (some ⟨b,0,none⟩)):=by rw[Lib.cell_of_heap hbk];rfl
 have c1:w1.cell? ⟨b,1,none⟩=some v:=by rw[Lib.cell_of_heap hbk];rfl
 go_wp2_with (at_builtin;refine wpList_append_own _ rfl _ _ 63 rfl B 5 i0 (.int .u8 0) 1 1 Try.underlying63 hi hz0 hz1 hz2 rfl (by decide) _ _ _ rfl (hown.alloc _) ⟨w1.heap.size,0,none⟩ 1 1 [.int .u8 c] rfl rfl ?c1 ?c2 ?c3 ?c4 ?c5 ?_)
 case c1=>
  intro j u hj
  match j,hj with
  |0,hj=>simp at hj;subst hj;simp[Addr.add]
 case c2=>intro u hu;simp at hu;subst hu;rfl
 case c3=>unfold maxLen;omega
 case c4=>omega
 case c5=>have:=hb1.size;simp;omega
 intro v' w2 hown' hgrow _
 have hlt:b<w1.heap.size:=by
  rcases cL b w1.heap.size with h'|h'
  ·exact h'
  ·simp[gD h']at hbk
 have hb2:w2.heap[b]?=some (.cells #[.pointer (some ⟨b,0,none⟩),v] 128 (0,0)):=by
  rw[hgrow.block b (by simp;omega) (fun e=>hne e.symm),Lib.alloc_old w1 _ b hlt];exact hbk
 have d0:w2.cell? ⟨b,0,none⟩=some (.pointer (some ⟨b,0,none⟩)):=by rw[Lib.cell_of_heap hb2];rfl
 have d1:w2.cell? ⟨b,1,none⟩=some v:=by rw[Lib.cell_of_heap hb2];rfl
 have f1:w2.frozen? ⟨b,1,none⟩=false:=Lib.frozen_of_heap hb2 1
 obtain⟨g,cap,rfl⟩:∃g cap,v'=.slice (some ⟨g,0,none⟩) (bs.length+1) cap:=by
  rcases hown'.2 with⟨_,h0⟩|⟨g,cap,cur,hv,_⟩
  ·omega
  ·exact⟨g,cap,hv⟩
 go_wp2
 go_ret
 refine⟨rfl,?_,?_,?_⟩
 ·exact Lib.BuilderAt.put (T:=128) (e:=5) hB hb2 (bs':=bs++[.int .u8 c]) (by simpa using hown') (by decide)
 ·exact((hb1.alloc (by have:=hb1.size;omega) _).grown hgrow (by have:=hb1.size;simp;omega) (fun k hk=>(hown.lt k hk).1)).setCell (p:=⟨b,1,none⟩) hB _
 ·exact((hk1.trans (KT.alloc _ _)).trans (KT.grown (hown.alloc _) hgrow)).trans (KT.setCell hb2 _)
set_option maxHeartbeats 2000000 in
set_option maxRecDepth 100000 in
theorem mW(B b:Nat)(bs:List Value)(s:ByteArray)(w:World)(h:Lib.IsBuilder 128 5 B b bs w)(hlen:bs.length+s.size≤140737488355328)(hBw:B≤w.heap.size) :
  Calls aB 91 #[.pointer (some ⟨b,0,none⟩),.string s] w fun e w'=>e=.returned (.tuple #[.int .i64 s.size,.nilIface])∧(Lib.BuilderAt 128 5 B b (.pointer (some ⟨b,0,none⟩)) (bs++Lib.strCells s) w'∧Below B w w'∧KT w w'):=by
 obtain⟨i0,hi,hz0,hz1,hz2⟩:=info_parts infoByte
 go_enter Try.func91,Try.ntmps91
 go_wp2_with (go_at_call 108;refine(KB B b bs _ h).mono ?_)
 rintro e w1 ⟨rfl,h1,hb1,hk1⟩;obtain⟨hB,v,hbk,hown,hne⟩:=h1
 have c0:w1.cell? ⟨b,0,none⟩=some (.pointer (some ⟨b,0,none⟩)):=by rw[Lib.cell_of_heap hbk];rfl
 have c1:w1.cell? ⟨b,1,none⟩=some v:=by rw[Lib.cell_of_heap hbk];rfl
 go_wp2_with (at_builtin;refine Lib.wpList_append_own_string _ rfl _ _ 63 9 rfl B 5 i0 Try.underlying63 Try.underlying9 hi hz0 hz1 hz2 _ _ _ rfl hown s rfl ?c3 ?c4 ?c5 ?_)
 case c3=>unfold maxLen;omega
 case c4=>omega
 case c5=>have:=hb1.size;omega
 intro v' w2 hown' hgrow _
 have hlt:b<w1.heap.size:=by
  rcases cL b w1.heap.size with h'|h'
  ·exact h'
  ·simp[gD h']at hbk
 have hb2:w2.heap[b]?=some (.cells #[.pointer (some ⟨b,0,none⟩),v] 128 (0,0)):=by
  rw[hgrow.block b hlt (fun e=>hne e.symm)];exact hbk
 have d0:w2.cell? ⟨b,0,none⟩=some (.pointer (some ⟨b,0,none⟩)):=by rw[Lib.cell_of_heap hb2];rfl
 have d1:w2.cell? ⟨b,1,none⟩=some v:=by rw[Lib.cell_of_heap hb2];rfl
 have f1:w2.frozen? ⟨b,1,none⟩=false:=Lib.frozen_of_heap hb2 1
 obtain⟨ao,n',cap,rfl⟩:∃ao n' cap,v'=.slice ao n' cap:=by
  rcases hown'.2 with⟨hv,_⟩|⟨g,cap,cur,hv,_⟩
  ·exact⟨_,_,_,hv⟩
  ·exact⟨_,_,_,hv⟩
 go_wp2
 go_ret2
 refine⟨rfl,?_,?_,?_⟩
 ·exact Lib.BuilderAt.put (T:=128) (e:=5) hB hb2 (bs':=bs++Lib.strCells s) (by simpa[Lib.strCells_length] using hown') (by decide)
 ·exact(hb1.grown hgrow (by have:=hb1.size;omega) (fun k hk=>(hown.lt k hk).1)).setCell (p:=⟨b,1,none⟩) hB _
 ·exact(hk1.trans (KT.grown hown hgrow)).trans (KT.setCell hb2 _)
def BV:Go.Shelf.Ren:=⟨fun|169=>92|n=>n,fun|70=>126|9=>9|0=>0|72=>128|37=>63|127=>150|3=>3|5=>5|n=>n,fun|n=>n⟩
theorem aJB:Go.Proofs.Lays.n169 aB BV:={
 mixed:=by kernel_rfl
 f169:=Try.func92.trans (congrArg some (by kernel_rfl))
 t0:=Try.underlying0
 a0:=Try.isAgg0
 z0:=Try.sizeOf0
 v0:=Try.zeroValue0
 t3:=Try.underlying3
 a3:=Try.isAgg3
 z3:=Try.sizeOf3
 v3:=Try.zeroValue3
 t9:=Try.underlying9
 a9:=Try.isAgg9
 z9:=Try.sizeOf9
 v9:=Try.zeroValue9
 t37:=Try.underlying63
 a37:=Try.isAgg63
 z37:=Try.sizeOf63
 v37:=Try.zeroValue63
 t70:=Try.underlying126
 a70:=Try.isAgg126
 z70:=Try.sizeOf126
 v70:=Try.zeroValue126
 t72:=Try.underlying128
 a72:=Try.isAgg128
 z72:=Try.sizeOf128
 v72:=Try.zeroValue128
 t127:=Try.underlying150
 a127:=Try.isAgg150
 z127:=Try.sizeOf150
 v127:=Try.zeroValue150 }
theorem aFA:Go.Proofs.Builder.Extra aB BV:={
 sizeBuilder:=by kernel_rfl
 liesBuilder:=by kernel_rfl
 t5:=Try.underlying5
 a5:=Try.isAgg5
 z5:=Try.sizeOf5
 v5:=Try.zeroValue5
 infoByte:=by kernel_rfl
 cellsByte:=by kernel_rfl
 sizeByte:=by kernel_rfl
 neB5:=by decide }
theorem aK2(B b:Nat)(l:List UInt8)(w:World)(h:Lib.IsBuilder 128 5 B b (Lib.byteCells l) w)(hBw:B≤w.heap.size) :
  Calls aB 92 #[.pointer (some ⟨b,0,none⟩)] w fun e w'=>e=.returned (.string ⟨l.toArray⟩)∧Below B w w':=Go.Proofs.Any.Builder_String_any aJB aFA B b l w h hBw
def UO(f:Nat→Lb)(k:Nat):List UInt8:=(if 0<k then [44] else [])++(f k).1.data.toList++[61,34]++(f k).2.data.toList++[34]
def pO(f:Nat→Lb)(n:Nat):List UInt8:=(List.range n).flatMap (UO f)
theorem qQ(f:Nat→Lb)(n:Nat):pO f (n+1)=pO f n++UO f n:=by simp[pO,List.range_succ]
def NG(f:Nat→Lb)(n:Nat):List UInt8:=123::(pO f n++[125])
theorem VL(f:Nat→Lb){k n:Nat}(h:k≤n):(pO f k).length≤(pO f n).length:=by
 induction n with
 |zero=>obtain rfl:k=0:=by omega
        exact aW _
 |succ n ih=>
  rcases cL n k with h1|h1
  ·obtain rfl:k=n+1:=by omega
   exact aW _
  ·refine Nat.le_trans (ih h1) ?_
   rw[qQ,aL];omega
theorem RN(f:Nat→Lb)(n:Nat):n*3≤(pO f n).length:=by
 induction n with
 |zero=>simp
 |succ n ih=>
  rw[qQ,aL]
  have:3≤(UO f n).length:=by simp[UO];omega
  omega
theorem DF(l:List UInt8)(c:Int)(x:UInt8)(h:c=x.toNat):Lib.byteCells l++[.int .u8 c]=Lib.byteCells (l++[x]):=by subst h;simp[Lib.byteCells]
theorem wF(l:List UInt8)(s:ByteArray):Lib.byteCells l++Lib.strCells s=Lib.byteCells (l++s.data.toList):=by simp[Lib.byteCells,Lib.strCells]
theorem wX{B b:Nat}{p:Value}{bs:List Value}{w:World}(h:Lib.BuilderAt 128 5 B b p bs w)(o:Obj):Lib.BuilderAt 128 5 B b p bs (w.alloc o):=by
 obtain⟨hB,v,hb,hown,hne⟩:=h;refine⟨hB,v,?_,hown.alloc _,hne⟩;rw[Lib.alloc_old w o b (Lib.BuilderAt.lt ⟨hB,v,hb,hown,hne⟩)];exact hb
set_option maxRecDepth 100000 in
set_option maxHeartbeats 4000000 in
theorem aAK(A:Option Addr)(n c:Nat)(f:Nat→Lb)(w:World)(hR:RdL w w.heap.size A n f)(hlen:(NG f n).length≤1000000) :
  Calls aB 74 #[.slice A n c] w fun e w'=>e=.returned (.string ⟨(NG f n).toArray⟩)∧Below w.heap.size w w':=by
 have hbody:(pO f n).length≤999998:=by simp[NG]at hlen;omega
 clear hlen
 have hn:n≤400000:=by have:=RN f n;omega
 have hfresh:=Lib.fresh_isBuilder 128 5 w
 go_enter Try.func74,Try.ntmps74
 go_wp2_with (go_at_call 90;refine(qS w.heap.size w.heap.size [] 123 _ hfresh (by simp) (by simp)).mono ?_)
 rintro e w1 ⟨rfl,h1,hb1,_⟩
 have B1:Below w.heap.size w w1:=((Below.refl _ _).alloc (aW _) _).trans hb1
 clear hb1 hfresh
 have h1:Lib.BuilderAt 128 5 w.heap.size w.heap.size (.pointer (some ⟨w.heap.size,0,none⟩)) (Lib.byteCells (123::pO f 0)) w1:=h1
 go_wp2
 go_loopw [9] (fun i wr=>∃k:Nat,k≤n∧i=.int .i64 k∧Lib.BuilderAt 128 5 w.heap.size w.heap.size (.pointer (some ⟨w.heap.size,0,none⟩)) (Lib.byteCells (123::pO f k)) wr∧Below w.heap.size w wr) (fun i _=>n-(intOf i).toNat)
 case atStart=>exact⟨0,bX _,rfl,h1,B1⟩
 case round=>
  obtain⟨k,hk,rfl,hW,hB⟩:=hrel;clear h1 B1
  by_cases hlt:k<n
  ·obtain⟨ad,rfl,hab,hc0,hc1⟩:=(RdL.at_ (Rd.below hR hB) hlt)
   have hl1:(pO f (k+1)).length≤999998:=Nat.le_trans (VL f hlt) hbody
   rw[qQ,aL]at hl1
   have hlab:UO f k=(if 0<k then [44] else [])++(f k).1.data.toList++[61,34]++(f k).2.data.toList++[34]:=rfl
   obtain⟨nm,hnm⟩:∃nm,nm=(f k).1:=⟨_,rfl⟩
   obtain⟨vv,hvv⟩:∃vv,vv=(f k).2:=⟨_,rfl⟩
   rw[←hnm]at hc0;rw[←hvv]at hc1;rw[←hnm,←hvv]at hlab
   have HL:=Lib.hid hlab
   obtain⟨L,hL⟩:∃L,L=pO f k:=⟨_,rfl⟩
   have HL2:=Lib.hid hL
   rw[hlab,←hL]at hl1;rw[←hL]at hW
   have hs1:nm.data.toList.length=nm.size:=jD
   have hs2:vv.data.toList.length=vv.size:=jD
   simp only[aL,eF,jJ,hs1,hs2]at hl1;clear hnm hvv hlab hL
   by_cases h0:0<k
   ·have hi2:(0:Int)<k:=by omega
    have hl2:(if 0<k then [(44:UInt8)] else []).length=1:=by rw[if_pos h0];rfl
    rw[hl2]at hl1
    go_wp2_with fail
    refine(qS w.heap.size w.heap.size _ 44 _ (Or.inr (wX hW _)) (by rw[Lib.byteCells_length];simp only[eF];omega) (by have:=hB.size;simp;omega)).mono ?_;rintro e w2 ⟨rfl,hW2,hb2,hk2⟩;rw[DF _ 44 44 rfl]at hW2
    have B2:Below w.heap.size w w2:=(hB.alloc hB.size _).trans hb2
    have hx2:w2.heap[wr.heap.size]?=some (.cells #[.string nm,.string vv] 56 (0,0)):=hk2 _ _ _ _ (heap_alloc_new wr _) (by decide) (by decide)
    have c0:w2.cell? ⟨wr.heap.size,0,none⟩=some (.string nm):=by rw[Lib.cell_of_heap hx2];rfl
    go_wp2_with fail
    refine(mW w.heap.size w.heap.size _ nm _ (Or.inr hW2) (by rw[Lib.byteCells_length];simp only[aL,eF,jJ];omega) (by have:=B2.size;omega)).mono ?_;rintro e w3 ⟨rfl,hW3,hb3,hk3⟩;rw[wF]at hW3
    have B3:Below w.heap.size w w3:=B2.trans hb3
    have hx3:w3.heap[wr.heap.size]?=some (.cells #[.string nm,.string vv] 56 (0,0)):=hk3 _ _ _ _ hx2 (by decide) (by decide)
    go_wp2_with fail
    refine(mW w.heap.size w.heap.size _ ⟨#[61,34]⟩ _ (Or.inr hW3) (by rw[Lib.byteCells_length];simp only[aL,eF,jJ,hs1];show _+2≤_;omega) (by have:=B3.size;omega)).mono ?_;rintro e w4 ⟨rfl,hW4,hb4,hk4⟩;rw[wF]at hW4
    have B4:Below w.heap.size w w4:=B3.trans hb4
    have hx4:w4.heap[wr.heap.size]?=some (.cells #[.string nm,.string vv] 56 (0,0)):=hk4 _ _ _ _ hx3 (by decide) (by decide)
    have c1:w4.cell? ⟨wr.heap.size,1,none⟩=some (.string vv):=by rw[Lib.cell_of_heap hx4];rfl
    go_wp2_with fail
    refine(mW w.heap.size w.heap.size _ vv _ (Or.inr hW4) (by rw[Lib.byteCells_length];simp only[aL,eF,jJ,hs1];show _+2+_≤_;omega) (by have:=B4.size;omega)).mono ?_;rintro e w5 ⟨rfl,hW5,hb5,hk5⟩;rw[wF]at hW5
    have B5:Below w.heap.size w w5:=B4.trans hb5
    go_wp2_with fail
    refine(qS w.heap.size w.heap.size _ 34 _ (Or.inr hW5) (by rw[Lib.byteCells_length];simp only[aL,eF,jJ,hs1,hs2];show _+2+_+1≤_;omega) (by have:=B5.size;omega)).mono ?_;rintro e w6 ⟨rfl,hW6,hb6,hk6⟩;rw[DF _ 34 34 rfl]at hW6
    have B6:Below w.heap.size w w6:=B5.trans hb6
    go_wp2
    go_roundw
    case rel=>exact⟨k+1,by omega,by go_num,by
      have e:123::pO f (k+1)=123::L++[44]++nm.data.toList++(⟨#[61,34]⟩:ByteArray).data.toList++vv.data.toList++[34]:=by rw[qQ,HL.out,←HL2.out];simp[h0,cF]
      rw[e];exact hW6,B6⟩
    case measure=>simp[intOf];omega
   ·have hl2:(if 0<k then [(44:UInt8)] else []).length=0:=by rw[if_neg h0];rfl
    rw[hl2]at hl1
    have hi:decide (0<(k:Int))=false:=by simp;omega
    have B2:Below w.heap.size w (wr.alloc (.cells #[.string nm,.string vv] 56)):=hB.alloc hB.size _
    have hW2:=wX hW (.cells #[.string nm,.string vv] 56)
    go_wp2_with fail
    refine(mW w.heap.size w.heap.size _ nm _ (Or.inr hW2) (by rw[Lib.byteCells_length];simp only[aL,eF,jJ];omega) (by have:=B2.size;omega)).mono ?_;rintro e w3 ⟨rfl,hW3,hb3,hk3⟩;rw[wF]at hW3
    have B3:Below w.heap.size w w3:=B2.trans hb3
    have hx3:w3.heap[wr.heap.size]?=some (.cells #[.string nm,.string vv] 56 (0,0)):=hk3 _ _ _ _ (heap_alloc_new wr _) (by decide) (by decide)
    go_wp2_with fail
    refine(mW w.heap.size w.heap.size _ ⟨#[61,34]⟩ _ (Or.inr hW3) (by rw[Lib.byteCells_length];simp only[aL,eF,jJ,hs1];show _+2≤_;omega) (by have:=B3.size;omega)).mono ?_;rintro e w4 ⟨rfl,hW4,hb4,hk4⟩;rw[wF]at hW4
    have B4:Below w.heap.size w w4:=B3.trans hb4
    have hx4:w4.heap[wr.heap.size]?=some (.cells #[.string nm,.string vv] 56 (0,0)):=hk4 _ _ _ _ hx3 (by decide) (by decide)
    have c1:w4.cell? ⟨wr.heap.size,1,none⟩=some (.string vv):=by rw[Lib.cell_of_heap hx4];rfl
    go_wp2_with fail
    refine(mW w.heap.size w.heap.size _ vv _ (Or.inr hW4) (by rw[Lib.byteCells_length];simp only[aL,eF,jJ,hs1];show _+2+_≤_;omega) (by have:=B4.size;omega)).mono ?_;rintro e w5 ⟨rfl,hW5,hb5,hk5⟩;rw[wF]at hW5
    have B5:Below w.heap.size w w5:=B4.trans hb5
    go_wp2_with fail
    refine(qS w.heap.size w.heap.size _ 34 _ (Or.inr hW5) (by rw[Lib.byteCells_length];simp only[aL,eF,jJ,hs1,hs2];show _+2+_+1≤_;omega) (by have:=B5.size;omega)).mono ?_;rintro e w6 ⟨rfl,hW6,hb6,hk6⟩;rw[DF _ 34 34 rfl]at hW6
    have B6:Below w.heap.size w w6:=B5.trans hb6
    go_wp2
    go_roundw
    case rel=>exact⟨k+1,by omega,by go_num,by
      have e:123::pO f (k+1)=123::L++nm.data.toList++(⟨#[61,34]⟩:ByteArray).data.toList++vv.data.toList++[34]:=by rw[qQ,HL.out,←HL2.out];simp[h0,cF]
      rw[e];exact hW6,B6⟩
    case measure=>simp[intOf];omega
  ·obtain rfl:k=n:=by omega
   go_wp2_with fail
   refine(qS w.heap.size w.heap.size _ 125 _ (Or.inr hW) (by rw[Lib.byteCells_length];simp only[eF];omega) (by have:=hB.size;omega)).mono ?_;rintro e w2 ⟨rfl,hW2,hb2,_⟩;rw[DF _ 125 125 rfl]at hW2
   have B2:Below w.heap.size w w2:=hB.trans hb2
   go_wp2_with fail
   refine(aK2 w.heap.size w.heap.size _ _ (Or.inr hW2) (by have:=B2.size;simpa using this)).mono ?_;rintro e w3 ⟨rfl,hb3⟩
   go_wp2
   go_ret
   exact⟨rfl,B2.trans hb3⟩
end Go.Proofs.Ytfjihbmehhccoaa
namespace Go.AE
open _root_.Array renaming getElem?_eq_none→gD,length_toList→jD
open IntKind renaming i64→aC
open _root_.List renaming append_assoc→cF,length_append→aL,length_cons→eF,length_nil→jJ
open _root_.Nat renaming le_refl→aW,lt_or_ge→cL,zero_le→bX
open Op renaming bytesLess→dH
open _root_.Go.Proofs.Try renaming prog→aB
open Value renaming agg→iK,int→cT,slice→bB,string→cU
open Go.Proofs Go.Proofs.Ytfjihbmehhccoaa Go.RowKit
theorem eY{α β:Type}{a c:α}{b d:β}(h:some (a,b)=some (c,d)):a=c∧b=d:=by
 injection h with h;injection h with h1 h2;exact⟨h1,h2⟩
structure Pg where
 kd:Int
 ru:ByteArray
 ve:Int
 L:List (ByteArray×ByteArray)
 st:Int
 se:Int
 to:ByteArray
instance:Inhabited Pg:=⟨⟨0,⟨#[]⟩,0,[],0,0,⟨#[]⟩⟩⟩
def aH9(p:Pg):List PV:=[.i .i64 p.kd,.s p.ru,.i .i64 p.ve,bO aN 2 p.L,.i .i64 p.st,.i .i64 p.se,.s p.to]
def uK(p:Pg):V:=.a (qK (aH9 p))
def pgW(kd:Int)(ru:ByteArray)(ve:Int)(L:List (ByteArray×ByteArray))(st se:Int)(to:ByteArray):V:=.a [.p (.i .i64 kd),.p (.s ru),.p (.i .i64 ve),.p (bO aN 2 L),.p (.i .i64 st),.p (.i .i64 se),.p (.s to)]
def xF:V→Option (Prop×Pg)
 |.a [.p (.i .i64 kd),.p (.s ru),.p (.i .i64 ve),.p (.l 2 n f),.p (.i .i64 st),.p (.i .i64 se),.p (.s to)]=>some (kI aN 2 (bS cS n f) n f,⟨kd,ru,ve,bS cS n f,st,se,to⟩)
 |.a [.p (.i .i64 kd),.p (.s ru),.p (.i .i64 ve),.p (.z (.slice none 0 0)),.p (.i .i64 st),.p (.i .i64 se),.p (.s to)]=>some (True,⟨kd,ru,ve,[],st,se,to⟩)
 |_=>none
theorem mT{x:V}{p:Prop}{a:Pg}(h:xF x=some (p,a))(hp:p):iE x (uK a):=by
 unfold xF at h;split at h
 ·rename_i kd ru ve n f st se to
  injection h with h;injection h with h1 h2;subst h2;subst h1;refine iE.a (xs:=[.i .i64 kd,.s ru,.i .i64 ve,.l 2 n f,.i .i64 st,.i .i64 se,.s to]) (vs:=aH9 ⟨kd,ru,ve,bS cS n f,st,se,to⟩) (.cons (.refl _) (.cons (.refl _) (.cons (.refl _) (.cons ?_ (.cons (.refl _) (.cons (.refl _) (.cons (.refl _) .nil)))))));obtain⟨e1,e2⟩:=hp
  show lY (.l 2 n f) (bO aN 2 (bS cS n f))
  unfold bO;rw[e1]
  exact lY.l fun e o he ho=>lY.of_eq (e2 e o he ho)
 ·rename_i kd ru ve st se to
  injection h with h;injection h with h1 h2;subst h2;subst h1;exact iE.a (xs:=[.i .i64 kd,.s ru,.i .i64 ve,.z (.slice none 0 0),.i .i64 st,.i .i64 se,.s to]) (vs:=aH9 ⟨kd,ru,ve,[],st,se,to⟩) (.cons (.refl _) (.cons (.refl _) (.cons (.refl _) (.cons (lY.nil 2 _) (.cons (.refl _) (.cons (.refl _) (.cons (.refl _) .nil)))))))
 ·cases h
def XH(L:List (ByteArray×ByteArray)):Nat→Lb:=fun k=>L.getD k default
def mK(L:List (ByteArray×ByteArray)):Bool:=mD (XH L) L.length
def cH(L:List (ByteArray×ByteArray)):ByteArray:=⟨(NG (XH L) L.length).toArray⟩
def gU(t:Int):Bool:=decide (0≤t)&&decide (t≤1048576)
def hP(p:Pg):Bool:=jK p.ru&&decide (1≤p.ve)&&mK p.L&&gU p.st&&gU p.se&&decide (p.to.size≤16)
def TX:Mod
 |[.c (.p (.s s))]=>some (True,bV (jK s))
 |_=>none
def OU:V→Option (Prop×List (ByteArray×ByteArray))
 |.c (.p (.l 2 n f))=>some (kI aN 2 (bS cS n f) n f,bS cS n f)
 |.c (.p (.z (.slice none 0 0)))=>some (True,[])
 |_=>none
theorem vX{x:V}{p:Prop}{L:List (ByteArray×ByteArray)}(h:OU x=some (p,L))(hp:p):iE x (aU aN 2 L):=by
 unfold OU at h;split at h
 ·injection h with h
  injection h with h1 h2;subst h2;subst h1;exact hp.le
 ·injection h with h
  injection h with h1 h2;subst h2;subst h1;exact iE.p (lY.nil 2 _)
 ·cases h
def aEA:Mod
 |[x]=>match OU x with
  |some (p,L)=>some (p,bV (mK L))
  |none=>none
 |_=>none
def aE3:Mod
 |[x]=>match OU x with
  |some (p,L)=>some (p∧(cH L).size≤1000000,.c (.p (.s (cH L))))
  |none=>none
 |_=>none
def BU:Mod
 |[.c (.p (.i .i64 t))]=>some (True,bV (gU t))
 |_=>none
def OP:Mod
 |[x]=>match xF x with
  |some (p,a)=>some (p,bV (hP a))
  |none=>none
 |_=>none
def aQM(ru:ByteArray)(ve:Int)(tx:ByteArray)(st:Int):V:=.a [.p (.s ru),.p (.i .i64 ve),.p (.s tx),.p (.i .i64 st)]
def mOf:Mod
 |[x]=>match xF x with
  |some (p,⟨_,ru,ve,L,st,_,_⟩)=>some (p∧(cH L).size≤1000000,aQM ru ve (cH L) st)
  |none=>none
 |_=>none
def aKY:Ext:=kH [(72,TX),(73,aEA),(45,BU)]
def aKW:Ext:=kH [(74,aE3)]
theorem aP6(t:Int):GC fH (lD aB Try.f45) (oB Try.f45 [iV t]) (mC [] [] (bK aB Try.f45))=bT (decide (0≤t)) (.done .ret (St.mk [V.c (C.p (PV.b (decide (t≤1048576))))] [])) (.done .ret (St.mk [V.c (C.p (PV.b false))] [])):=by kernel_rfl
theorem aRQ(kd ve st se:Int)(ru to:ByteArray)(L:List (ByteArray×ByteArray)):GC aKY (lD aB Try.f42) (oB Try.f42 [pgW kd ru ve L st se to]) (mC [] [] (bK aB Try.f42))=Tr.rq True
 (bT (jK ru)
 (bT (decide (1≤ve))
 (.rq (kI aN 2 (bS cS L.length (aE aN L)) L.length (aE aN L))
 (bT (mK (bS cS L.length (aE aN L)))
 (.rq True
 (bT (gU st) (.rq True (bT (gU se) (.done .ret (St.mk [V.c (C.p (PV.b (decide ((↑to.size:Int)≤16))))] [])) (.done .ret (St.mk [V.c (C.p (PV.b false))] []))))
 (.done .ret (St.mk [V.c (C.p (PV.b false))] []))))
 (.done .ret (St.mk [V.c (C.p (PV.b false))] []))))
 (.done .ret (St.mk [V.c (C.p (PV.b false))] [])))
 (.done .ret (St.mk [V.c (C.p (PV.b false))] []))):=by kernel_rfl
theorem tOf(kd ve st se:Int)(ru to:ByteArray)(L:List (ByteArray×ByteArray)):GC aKW (lD aB Try.f43) (oB Try.f43 [pgW kd ru ve L st se to]) (mC [] [] (bK aB Try.f43))=Tr.rq (kI aN 2 (bS cS L.length (aE aN L)) L.length (aE aN L)∧(cH (bS cS L.length (aE aN L))).size≤1000000)
 (.done .ret (St.mk [V.a [C.p (PV.s ru),C.p (PV.i aC ve),C.p (PV.s (cH (bS cS L.length (aE aN L)))),C.p (PV.i aC st)]] [])):=by kernel_rfl
section
variable {G:Nat→Option Obj}
theorem JM{R:Nat→Prop}{w:World}{L:List (ByteArray×ByteArray)}{u:Value}(hr:∀b,R b→b<w.heap.size)(h:PR R w (bO aN 2 L) u):∃A c,u=.slice A L.length c∧RdL w w.heap.size A L.length (XH L):=by
 obtain⟨A,c,rfl,h1,h2,h3⟩:=h;refine⟨A,c,rfl,fun hn=>?_⟩;obtain⟨ad,e1,e2,e3⟩:=h3 (by omega);refine⟨ad,e1,hr _ e2,fun k hk=>?_⟩;obtain⟨u,q1,q2⟩:=e3 (k / 2) (k%2) (by omega) (by omega);rw[show k / 2*2+k%2=k by omega]at q1;rw[q1];congr 1
 have hk2:k%2=0∨k%2=1:=by omega
 unfold JH
 rcases hk2 with e|e
 ·rw[e]at q2
  rw[if_pos e];exact q2
 ·rw[e]at q2
  rw[if_neg (by omega)];exact q2
theorem aIH:iW aB G 72 TX:=by
 intro args p v hm hp h;unfold TX at hm
 split at hm;rotate_left;· cases hm
 rename_i s;obtain⟨rfl,rfl⟩:=eY hm;refine UW rfl ?_ h;intro R w vs hr hg ha
 obtain⟨u,l,e,hu,ha⟩:=dJ.nth2 ha;obtain rfl:=dJ.nil2 ha
 have hu:u=.string s:=hu
 subst hu;cases vs;rename_i lv_
 have e:lv_=_:=e
 subst e;refine(AT s w).mono ?_;rintro e w' ⟨rfl,hb⟩;exact⟨_,rfl,rfl,hb⟩
theorem aNJ:iW aB G 73 aEA:=by
 intro args p v hm hp h;unfold aEA at hm
 split at hm;rotate_left;· cases hm
 split at hm;rotate_left;· cases hm
 rename_i x _ q L hx;obtain⟨rfl,rfl⟩:=eY hm;refine jW.args (args':=[aU aN 2 L]) ?_ (.cons (vX hx hp) .nil);refine UW rfl ?_ h;intro R w vs hr hg ha
 obtain⟨u,l,e,hu,ha⟩:=dJ.nth2 ha;obtain rfl:=dJ.nil2 ha;obtain⟨A,c,rfl,hR⟩:=JM hr hu;cases vs;rename_i lv_
 have e:lv_=_:=e
 subst e;refine(UQ A L.length c (XH L) w hR).mono ?_;rintro e w' ⟨rfl,hb⟩;exact⟨_,rfl,rfl,hb⟩
theorem aND:iW aB G 74 aE3:=by
 intro args p v hm hp h;unfold aE3 at hm
 split at hm;rotate_left;· cases hm
 split at hm;rotate_left;· cases hm
 rename_i x _ q L hx;obtain⟨rfl,rfl⟩:=eY hm;obtain⟨hq,hn⟩:=hp;refine jW.args (args':=[aU aN 2 L]) ?_ (.cons (vX hx hq) .nil);refine UW rfl ?_ h;intro R w vs hr hg ha
 obtain⟨u,l,e,hu,ha⟩:=dJ.nth2 ha;obtain rfl:=dJ.nil2 ha;obtain⟨A,c,rfl,hR⟩:=JM hr hu;cases vs;rename_i lv_
 have e:lv_=_:=e
 subst e;refine(aAK A L.length c (XH L) w hR hn).mono ?_;rintro e w' ⟨rfl,hb⟩;exact⟨_,rfl,rfl,hb⟩
theorem aDE:iW aB G 45 BU:=by
 intro args p v hm hp h;unfold BU at hm
 split at hm;rotate_left;· cases hm
 rename_i t;obtain⟨rfl,rfl⟩:=eY hm
 refine HI aY Try.func45 (by kernel_rfl) rfl (aP6 t) ?_ h
 simp only[cD,bA,iA,KF];refine⟨fun h1=>⟨_,rfl,iE.of_eq ?_⟩,fun h1=>⟨_,rfl,iE.of_eq ?_⟩⟩
 ·unfold gU;rw[h1];rfl
 ·unfold gU;rw[h1];rfl
theorem PN:bG aB G aKY:=eC (by simp;exact⟨aIH,aNJ,aDE⟩)
theorem PL:bG aB G aKW:=eC (by simp;exact aND)
theorem TC:iW aB G 42 OP:=by
 intro args p v hm hp h;unfold OP at hm
 split at hm;rotate_left;· cases hm
 split at hm;rotate_left;· cases hm
 rename_i x _ q a hx;obtain⟨rfl,rfl⟩:=eY hm;refine jW.args (args':=[uK a]) ?_ (.cons (mT hx hp) .nil);obtain⟨kd,ru,ve,L,st,se,to⟩:=a
 refine HI PN Try.func42 (by kernel_rfl) rfl (aRQ kd ve st se ru to L) ?_ h
 simp only[cD,bA,iA,KF];rw[gN]
 have e:hP ⟨kd,ru,ve,L,st,se,to⟩=(jK ru&&decide (1≤ve)&&mK L&&gU st&&gU se&&decide (to.size≤16)):=rfl
 have e2:decide ((to.size:Int)≤16)=decide (to.size≤16):=by congr 1;exact propext (by omega)
 rw[e,e2];clear hm e e2 hx;refine⟨trivial,fun h1=>⟨fun h2=>⟨dP _ _ _,fun h3=>⟨trivial,fun h4=>⟨trivial,fun h5=>?_,fun h5=>?_⟩,fun h4=>?_⟩,fun h3=>?_⟩,fun h2=>?_⟩,fun h1=>?_⟩
 all_goals first|rw[h1,h2,h3,h4,h5]|rw[h1,h2,h3,h4]|rw[h1,h2,h3]|rw[h1,h2]|rw[h1]
 all_goals exact⟨_,rfl,iE.refl _⟩
theorem aIG:iW aB G 43 mOf:=by
 intro args p v hm hp h;unfold mOf at hm
 split at hm;rotate_left;· cases hm
 split at hm;rotate_left;· cases hm
 rename_i x _ q kd ru ve L st se to hx;obtain⟨rfl,rfl⟩:=eY hm;refine jW.args (args':=[uK ⟨kd,ru,ve,L,st,se,to⟩]) ?_ (.cons (mT hx hp.1) .nil)
 refine HI PL Try.func43 (by kernel_rfl) rfl (tOf kd ve st se ru to L) ?_ h
 simp only[cD,bA,iA,KF];rw[gN];exact⟨⟨dP _ _ _,hp.2⟩,_,rfl,iE.refl _⟩
end
def UE:Mod
 |[x]=>match OU x with
  |some (p,L)=>some (p∧L.length≤1000000,aU aN 2 L)
  |none=>none
 |_=>none
def aE5:Mod
 |[x]=>match xF x with
  |some (p,⟨kd,ru,ve,L,st,se,to⟩)=>some (p∧L.length≤1000000,pgW kd ru ve L st se to)
  |none=>none
 |_=>none
def aFF:Ext:=kH [(78,UE)]
theorem aMI(L:List (ByteArray×ByteArray)):GC fH (lD aB Try.f78) (oB Try.f78 [aU aN 2 L]) (mC [] [] (bK aB Try.f78))=bT (decide (0<L.length))
 (Tr.rq (0=0)
 (Tr.rq ((0+L.length)*32≤140737488355328∧0+L.length≤140737488355328∧∀(e o:Nat),e<L.length→o<2→iQ (C.p (aE aN L e o))=true)
 (Tr.rq (0+(0+L.length)≤0+L.length∧∀(e o:Nat),e<0+L.length→o<2→BZ (fI 0 (fun e o=>bC C.top [] (e*2+o)) (fun e o=>C.p (aE aN L e o)) (e+0) o)=true)
 (Tr.done X.ret (St.mk [V.c (C.p (PV.l 2 (0+L.length) fun e o=>mZ (fI 0 (fun e o=>bC C.top [] (e*2+o)) (fun e o=>C.p (aE aN L e o)) (e+0) o)))] [])))))
 ((Tr.done X.ret (St.mk [V.c (C.p (PV.z (bB none 0 0)))] [])).alt
 (Tr.rq (0=0)
 (Tr.rq ((0+L.length)*32≤140737488355328∧0+L.length≤140737488355328∧∀(e o:Nat),e<L.length→o<2→iQ (C.p (aE aN L e o))=true)
 (Tr.rq (0+(0+L.length)≤0+L.length∧∀(e o:Nat),e<0+L.length→o<2→BZ (fI 0 (fun e o=>bC C.top [] (e*2+o)) (fun e o=>C.p (aE aN L e o)) (e+0) o)=true)
 (Tr.done X.ret (St.mk [V.c (C.p (PV.l 2 (0+L.length) fun e o=>mZ (fI 0 (fun e o=>bC C.top [] (e*2+o)) (fun e o=>C.p (aE aN L e o)) (e+0) o)))] [])))))):=by kernel_rfl
theorem aRV(kd ve st se:Int)(ru to:ByteArray)(L:List (ByteArray×ByteArray)):GC aFF (lD aB Try.f49) (oB Try.f49 [pgW kd ru ve L st se to]) (mC [] [] (bK aB Try.f49))=Tr.rq (kI aN 2 (bS cS L.length (aE aN L)) L.length (aE aN L)∧(bS cS L.length (aE aN L)).length≤1000000)
 (.done .ret
 (St.mk [V.a [C.p (PV.i aC kd),C.p (PV.s ru),C.p (PV.i aC ve),C.p (PV.l 2 (bS cS L.length (aE aN L)).length (aE aN (bS cS L.length (aE aN L)))),C.p (PV.i aC st),C.p (PV.i aC se),C.p (PV.s to)]] [])):=by kernel_rfl
section
variable {G:Nat→Option Obj}
theorem aIQ:iW aB G 78 UE:=by
 intro args p v hm hp h;unfold UE at hm
 split at hm;rotate_left;· cases hm
 split at hm;rotate_left;· cases hm
 rename_i x _ q L hx;obtain⟨rfl,rfl⟩:=eY hm;refine jW.args (args':=[aU aN 2 L]) ?_ (.cons (vX hx hp.1) .nil);obtain⟨_,hL⟩:=hp
 refine HI aY Try.func78 (by kernel_rfl) rfl (aMI L) ?_ h
 simp only[oR,cD,bA,iA,KF];clear hm hx
 have one:∀(e o:Nat),iQ (C.p (aE aN L e o))=true:=fun e o=>by
  unfold aE aN;split<;>rfl
 have row:∀(e o:Nat),fI 0 (fun e o=>bC C.top [] (e*2+o)) (fun e o=>C.p (aE aN L e o)) (e+0) o=C.p (aE aN L e o):=fun e o=>rfl
 have key:iE (V.c (C.p (PV.l 2 (0+L.length) fun e o=>mZ (fI 0 (fun e o=>bC C.top [] (e*2+o)) (fun e o=>C.p (aE aN L e o)) (e+0) o)))) (aU aN 2 L):=by
  rw[Nat.zero_add];exact iE.refl _
 have big:(0+L.length)*32≤140737488355328∧0+L.length≤140737488355328∧∀(e o:Nat),e<L.length→o<2→iQ (C.p (aE aN L e o))=true:=⟨by omega,by omega,fun e o _ _=>one e o⟩
 have fin:=fun(e o:Nat) (_:e<0+L.length) (_:o<2)=>show BZ (fI 0 (fun e o=>bC C.top [] (e*2+o)) (fun e o=>C.p (aE aN L e o)) (e+0) o)=true from rfl
 refine⟨fun _=>⟨trivial,big,⟨by omega,fin⟩,_,rfl,key⟩,fun h0=>⟨⟨_,rfl,?_⟩,trivial,big,⟨by omega,fin⟩,_,rfl,key⟩⟩
 have h0:L.length=0:=by have:=of_decide_eq_false h0;omega
 obtain rfl:=List.eq_nil_of_length_eq_zero h0;exact iE.p (lY.nil 2 _)
theorem MP:bG aB G aFF:=eC (by simp;exact aIQ)
theorem aDF:iW aB G 49 aE5:=by
 intro args p v hm hp h;unfold aE5 at hm
 split at hm;rotate_left;· cases hm
 split at hm;rotate_left;· cases hm
 rename_i x _ q kd ru ve L st se to hx;obtain⟨rfl,rfl⟩:=eY hm;refine jW.args (args':=[uK ⟨kd,ru,ve,L,st,se,to⟩]) ?_ (.cons (mT hx hp.1) .nil)
 refine HI MP Try.func49 (by kernel_rfl) rfl (aRV kd ve st se ru to L) ?_ h
 simp only[oR,cD,bA,iA,KF];clear hm hx;rw[gN];exact⟨⟨dP _ _ _,hp.2⟩,_,rfl,iE.refl _⟩
end
def aG(p:Pg)(o:Nat):PV:=match o with
 |0=>.i .i64 p.kd
 |1=>.s p.ru
 |2=>.i .i64 p.ve
 |3=>bO aN 2 p.L
 |4=>.i .i64 p.st
 |5=>.i .i64 p.se
 |_=>.s p.to
structure Ld where
 M:List Pg
 gp:Value→Option Bool
 gs:Value→Nat×(Nat→Nat→PV)
def lC(ru:ByteArray)(ve:Int)(tx:ByteArray)(st:Int):Value:=.agg #[.string ru,.int .i64 ve,.string tx,.int .i64 st]
def iR(ru:ByteArray)(ve:Int)(tx:ByteArray):Value:=.agg #[.string ru,.int .i64 ve,.string tx]
def UZ:Ext:=kH [(43,mOf),(49,aE5)]
def aFO:dQ→dQ
 |.cond _ a _=>a
 |_=>.skip
def LA:dQ→Array Oper
 |.raw (.region _ ops _)=>ops
 |_ => #[]
def aH7:dQ→dQ:=fun c=>bC .skip (eZ (aFO c)) 0
noncomputable def GY:Array Oper:=LA (aH7 (bC .skip (dC aB Try.f48) 4))
noncomputable def alM:List AI:=match fD aB GY (GY.toList.take 9) with
 |some al=>al
 |none=>[]
def xM:MA:=⟨9,84,22,(79,3,1),8,[.i .i64 0],23,25,29,30,26,31,32⟩
theorem tA1(rest:List AO)(n b:Nat)(M:List Pg)(gp:Value→Option Bool)(gs:Value→Nat×(Nat→Nat→PV))(kd ve st se:Int)(ru to:ByteArray)(L:List (ByteArray×ByteArray)):dF UZ (dL 4 (dC aB Try.f48)) (jR Try.f48 [0,1,2,3] [0] [b] [.c (.ptr 0 0),pgW kd ru ve L st se to] (.cells 86 [.sl 1 7 0 n,.mp 2,.mp 3]::.row 31 7 n (aO aG M)::.mapb (bJ aB 81) gp::.mapl (bJ aB 79) 3 1 gs none::rest)) (gP [0] (fJ 52 [0,3,4,6,19]) (bK aB Try.f48))=Tr.rq (kI aN 2 (bS cS L.length (aE aN L)) L.length (aE aN L)∧(cH (bS cS L.length (aE aN L))).size≤1000000)
 (.rq
 (bJ aB 81=bJ aB 81 ∧
 bJ aB 81 (iK #[cU ru,cT aC ve,cU (cH (bS cS L.length (aE aN L))),cT aC st])=true)
 (.done .normal
 (bY 52 [(0,.c (.ptr 0 0)),(3,.c (.ptr 1 0)),(4,.c (.ptr 2 0)),(6,.c (.p (.b (gp (iK #[cU ru,cT aC ve,cU (cH (bS cS L.length (aE aN L))),cT aC st])).isSome))),(19,.c (.p (.b !(gp (iK #[cU ru,cT aC ve,cU (cH (bS cS L.length (aE aN L))),cT aC st])).isSome)))] [.pin 3 b,.cells 31 [.p (.i .i64 kd),.p (.s ru),.p (.i .i64 ve),.p (.l 2 L.length (aE aN L)),.p (.i .i64 st),.p (.i .i64 se),.p (.s to)],.cells 81 [.p (.s ru),.p (.i .i64 ve),.p (.s (cH (bS cS L.length (aE aN L)))),.p (.i .i64 st)],.cells 86 [.sl 4 7 0 n,.mp 5,.mp 6],.row 31 7 n fun e o=>bQ [4,5,6,0,1,2,3] (bQ [0,1,2,3] (aO aG M e o)),.mapb (bJ aB 81) gp,.mapl (bJ aB 79) 3 1 gs none]))):=by kernel_rfl
theorem tA3(n b:Nat)(M:List Pg)(gp:Value→Option Bool)(gs:Value→Nat×(Nat→Nat→PV))(kd ve st se:Int)(ru to tx:ByteArray)(L:List (ByteArray×ByteArray))(kn kk:Bool):dF UZ (bL 5 (dC aB Try.f48)) (bY 52 [(0,.c (.ptr 0 0)),(3,.c (.ptr 1 0)),(4,.c (.ptr 2 0)),(6,.c (.p (.b kn))),(19,.c (.p (.b kk)))] [.pin 3 b,.cells 31 [.p (.i .i64 kd),.p (.s ru),.p (.i .i64 ve),.p (bO aN 2 L),.p (.i .i64 st),.p (.i .i64 se),.p (.s to)],.cells 81 [.p (.s ru),.p (.i .i64 ve),.p (.s tx),.p (.i .i64 st)],.cells 86 [.sl 4 7 0 n,.mp 5,.mp 6],.row 31 7 n (aO aG M),.mapb (bJ aB 81) gp,.mapl (bJ aB 79) 3 1 gs none]) (gP [0] (fJ 52 [0]) (bK aB Try.f48))=Tr.rq (bJ aB 81=bJ aB 81∧bJ aB 81 (iK #[cU ru,cT aC ve,cU tx,cT aC st])=true)
 (.rq (kI aN 2 (bS cS L.length (aE aN L)) L.length (aE aN L)∧(bS cS L.length (aE aN L)).length≤1000000)
 (.rq (n=n)
 (.rq (1≤1)
 (.rq
 ((n+1)*88≤140737488355328 ∧
 n+1≤140737488355328 ∧
 ∀(e o:Nat),
 e<1 →
 o<7 →
 iQ
 (mI
 [C.p (PV.i aC kd),C.p (PV.s ru),C.p (PV.i aC ve),C.p (PV.l 2 (bS cS L.length (aE aN L)).length (aE aN (bS cS L.length (aE aN L)))),
 C.p (PV.i aC st),C.p (PV.i aC se),C.p (PV.s to)]
 7 1 (e+0) o) =
 true)
 (.done .normal
 (bY 52 [(0,.c (.ptr 0 0))] [.pin 1 b,.cells 86 [.sl 2 7 0 (n+1),.mp 3,.mp 4],.row 31 7 (n+1) fun e o=>bQ [0,3,8,5,6] (fI n (aO aG M) (fun e o=>bC C.top [C.p (PV.i aC kd),C.p (PV.s ru),C.p (PV.i aC ve),C.p (PV.l 2 (bS cS L.length (aE aN L)).length (aE aN (bS cS L.length (aE aN L)))),C.p (PV.i aC st),C.p (PV.i aC se),C.p (PV.s to)] ((e+0)*7+o)) e o),.mapb (bJ aB 81) (uS gp (iK #[cU ru,cT aC ve,cU tx,cT aC st]) (kd != 1)),.mapl (bJ aB 79) 3 1 gs none])))))):=by kernel_rfl
noncomputable def uH(gs:Value→Nat×(Nat→Nat→PV))(k:Value)(st:Int):Value→Nat×(Nat→Nat→PV):=
 zY gs k ((gs k).1+1) fun e o=>if e<(gs k).1 then (gs k).2 e o else mZ (bC C.top [C.p (.i .i64 st)] ((e-(gs k).1+0)*1+o))
def aMM:Tr→St
 |.done _ st=>st
 |_=>⟨[],[]⟩
theorem tA2(n b:Nat)(M:List Pg)(gp:Value→Option Bool)(gs:Value→Nat×(Nat→Nat→PV))(kd ve st se:Int)(ru to tx:ByteArray)(L:List (ByteArray×ByteArray))(kn kk:Bool):iY (iO fH) alM (bY 52 [(0,.c (.ptr 0 0)),(3,.c (.ptr 1 0)),(4,.c (.ptr 2 0)),(6,.c (.p (.b kn))),(19,.c (.p (.b kk)))] [.pin 3 b,.cells 31 [.p (.i .i64 kd),.p (.s ru),.p (.i .i64 ve),.p (bO aN 2 L),.p (.i .i64 st),.p (.i .i64 se),.p (.s to)],.cells 81 [.p (.s ru),.p (.i .i64 ve),.p (.s tx),.p (.i .i64 st)],.cells 86 [.sl 4 7 0 n,.mp 5,.mp 6],.row 31 7 n (aO aG M),.mapb (bJ aB 81) gp,.mapl (bJ aB 79) 3 1 gs none]) (fun s=>maT aB xM s fun s'=>.done .normal s')=Tr.rq (bJ aB 79=bJ aB 79∧bJ aB 79 (iR ru ve tx)=true) (Tr.rq (1≤1) (Tr.rq (((gs (iR ru ve tx)).1+1)*8≤140737488355328∧(gs (iR ru ve tx)).1+1≤140737488355328∧∀(e o:Nat),e<1→o<1→isP (bC C.top [C.p (.i .i64 st)] ((e+0)*1+o))=true∧iQ (bC C.top [C.p (.i .i64 st)] ((e+0)*1+o))=true)
  (.done .normal (aMM (iY (iO fH) alM (bY 52 [(0,.c (.ptr 0 0)),(3,.c (.ptr 1 0)),(4,.c (.ptr 2 0)),(6,.c (.p (.b kn))),(19,.c (.p (.b kk)))] [.pin 3 b,.cells 31 [.p (.i .i64 kd),.p (.s ru),.p (.i .i64 ve),.p (bO aN 2 L),.p (.i .i64 st),.p (.i .i64 se),.p (.s to)],.cells 81 [.p (.s ru),.p (.i .i64 ve),.p (.s tx),.p (.i .i64 st)],.cells 86 [.sl 4 7 0 n,.mp 5,.mp 6],.row 31 7 n (aO aG M),.mapb (bJ aB 81) gp,.mapl (bJ aB 79) 3 1 gs none]) (fun s=>.done .normal ⟨jT xM.ds s.t,fB .gone (fB .gone (eT (.mapl (bJ aB 79) 3 1 (uH gs (iR ru ve tx) st) none) s.h 6))⟩)))))):=by kernel_rfl
theorem aU2(n b:Nat)(M:List Pg)(gp:Value→Option Bool)(gs:Value→Nat×(Nat→Nat→PV))(kd ve st se:Int)(ru to tx:ByteArray)(L:List (ByteArray×ByteArray))(kn kk:Bool):gcS (fJ 52 [0,3,4,6,19]) (aMM (iY (iO fH) alM (bY 52 [(0,.c (.ptr 0 0)),(3,.c (.ptr 1 0)),(4,.c (.ptr 2 0)),(6,.c (.p (.b kn))),(19,.c (.p (.b kk)))] [.pin 3 b,.cells 31 [.p (.i .i64 kd),.p (.s ru),.p (.i .i64 ve),.p (bO aN 2 L),.p (.i .i64 st),.p (.i .i64 se),.p (.s to)],.cells 81 [.p (.s ru),.p (.i .i64 ve),.p (.s tx),.p (.i .i64 st)],.cells 86 [.sl 4 7 0 n,.mp 5,.mp 6],.row 31 7 n (aO aG M),.mapb (bJ aB 81) gp,.mapl (bJ aB 79) 3 1 gs none]) (fun s=>.done .normal ⟨jT xM.ds s.t,fB .gone (fB .gone (eT (.mapl (bJ aB 79) 3 1 (uH gs (iR ru ve tx) st) none) s.h 6))⟩)))=(fun gs=>bY 52 [(0,.c (.ptr 0 0)),(3,.c (.ptr 1 0)),(4,.c (.ptr 2 0)),(6,.c (.p (.b kn))),(19,.c (.p (.b kk)))] [.pin 3 b,.cells 31 [.p (.i .i64 kd),.p (.s ru),.p (.i .i64 ve),.p (bO aN 2 L),.p (.i .i64 st),.p (.i .i64 se),.p (.s to)],.cells 81 [.p (.s ru),.p (.i .i64 ve),.p (.s tx),.p (.i .i64 st)],.cells 86 [.sl 4 7 0 n,.mp 5,.mp 6],.row 31 7 n (aO aG M),.mapb (bJ aB 81) gp,.mapl (bJ aB 79) 3 1 gs none]) (uH gs (iR ru ve tx) st):=by kernel_rfl
def aG0:List Oper→Nat→Bool
 |[],_=>true
 |o::r,i=>o.after.toList.all (fun e => !Region.binds .any e||Nat.blt e.on i)&&aG0 r (i+1)
theorem CI:∀(l:List Oper) (k:Nat),aG0 l k=true→∀i o,l[i]?=some o→∀e∈o.after,Region.binds .any e=true→e.on<k+i
 |[],_,_,i,o,h,_,_,_=>by simp at h
 |x::r,k,h,i,o,ho,e,he,hb=>by
  unfold aG0 at h;rw[Bool.and_eq_true]at h;cases i with
  |zero=>
   simp at ho;subst ho
   have:=List.all_eq_true.1 h.1 e (by simpa using he)
   rw[hb]at this;simpa using this
  |succ i=>
   have:=CI r (k+1) h.2 i o (by simpa using ho) e he hb
   omega
theorem aOZ:RS aB GY xM where
 size:=by kernel_rfl
 oE:=⟨(GY[9]?).get (by kernel_rfl),by kernel_rfl,by kernel_rfl,by kernel_rfl,by kernel_rfl⟩
 o0:=⟨(GY[10]?).get (by kernel_rfl),by kernel_rfl,by kernel_rfl,by kernel_rfl,by kernel_rfl⟩
 oA:=⟨(GY[11]?).get (by kernel_rfl),by kernel_rfl,by kernel_rfl,by kernel_rfl,by kernel_rfl⟩
 o1:=⟨(GY[12]?).get (by kernel_rfl),by kernel_rfl,by kernel_rfl,by kernel_rfl,by kernel_rfl⟩
 oS:=⟨(GY[13]?).get (by kernel_rfl),by kernel_rfl,by kernel_rfl,by kernel_rfl,by kernel_rfl⟩
 back:=fun i o h e he hb=>by
  have:=CI GY.toList 0 (by kernel_rfl) i o (by simpa using h) e he hb
  omega
 w10:=by kernel_rfl
 w21:=by kernel_rfl
 w30:=by kernel_rfl
 w42:=by kernel_rfl
 w43:=by kernel_rfl
 dE0:=by decide
 dEA:=by decide
 dE1:=by decide
 d0A:=by decide
 d01:=by decide
 dA1:=by decide
 smN:=by decide
 skN:=by decide
 syN:=by decide
 hm:=by kernel_rfl
 ht:=by kernel_rfl
 hsz:=by kernel_rfl
 hby:=by kernel_rfl
 hz:=by kernel_rfl
theorem aU6:eZ (aFO (bC .skip (dC aB Try.f48) 4))=[.raw (.region 4 GY true)]:=by kernel_rfl
theorem IU(kd ve st se:Int)(ru to:ByteArray)(L:List (ByteArray×ByteArray)):∀o:Nat,o<7→(fun e o:Nat=>bC C.top [C.p (.i .i64 kd),C.p (.s ru),C.p (.i .i64 ve),C.p (bO aN 2 L),C.p (.i .i64 st),C.p (.i .i64 se),C.p (.s to)] ((e+0)*7+o)) 0 o=.p (aG ⟨kd,ru,ve,L,st,se,to⟩ o):=by
 intro o ho
 have:o=0∨o=1∨o=2∨o=3∨o=4∨o=5∨o=6:=by omega
 rcases this with rfl|rfl|rfl|rfl|rfl|rfl|rfl<;>rfl
theorem SU(kd ve st se:Int)(ru to:ByteArray)(L:List (ByteArray×ByteArray)):∀e o:Nat,e<1→o<7→iQ (bC C.top [C.p (.i .i64 kd),C.p (.s ru),C.p (.i .i64 ve),C.p (bO aN 2 L),C.p (.i .i64 st),C.p (.i .i64 se),C.p (.s to)] ((e+0)*7+o))=true:=by
 intro e o he ho
 obtain rfl:e=0:=by omega
 have:o=0∨o=1∨o=2∨o=3∨o=4∨o=5∨o=6:=by omega
 rcases this with rfl|rfl|rfl|rfl|rfl|rfl|rfl<;>rfl
noncomputable def mL(D:Ld)(rest:List AO):List AO:=.cells 86 [.sl 1 7 0 D.M.length,.mp 2,.mp 3]::.row 31 7 D.M.length (aO aG D.M)::.mapb (bJ aB 81) D.gp::.mapl (bJ aB 79) 3 1 D.gs none::rest
noncomputable def pA(D:Ld)(b:Nat):List AO:=[.pin 1 b,.cells 86 [.sl 2 7 0 D.M.length,.mp 3,.mp 4],.row 31 7 D.M.length (aO aG D.M),.mapb (bJ aB 81) D.gp,.mapl (bJ aB 79) 3 1 D.gs none]
theorem LC(D:Ld)(h:List AO)(b b':Nat):iT [0,1,2,3] [0] [1] h (pA D b)=iT [0,1,2,3] [0] [1] h (pA D b'):=by
 unfold iT
 have e:wM [0,1,2,3] [0] [1] (fG h) (pA D b)=wM [0,1,2,3] [0] [1] (fG h) (pA D b'):=by
  funext i x;unfold wM wN;cases Nat.beq 0 i<;>rfl
 rw[e];rfl
noncomputable def gM(D:Ld)(p:Pg):Ld:=⟨D.M++[p],uS D.gp (lC p.ru p.ve (cH p.L) p.st) (p.kd != 1),match (D.gp (lC p.ru p.ve (cH p.L) p.st)).isSome with
 |true=>D.gs
 |false=>uH D.gs (iR p.ru p.ve (cH p.L)) p.st⟩
def tY(D:Ld)(p:Pg):Prop:=bJ aB 81 (lC p.ru p.ve (cH p.L) p.st)=true∧bJ aB 79 (iR p.ru p.ve (cH p.L))=true∧(cH p.L).size≤1000000∧p.L.length≤1000000∧D.M.length≤1000000∧(D.gs (iR p.ru p.ve (cH p.L))).1≤1000000
section
variable {G:Nat→Option Obj}
theorem zI:bG aB G UZ:=eC (by simp;exact⟨aIG,aDF⟩)
set_option maxRecDepth 100000 in
theorem RR(D:Ld)(p:Pg)(hF:tY D p)(rest:List AO)(b:Nat):eP aB G (Zm [0] (bK aB Try.f48) fun s=>cW G s ⟨[.c (.ptr 0 0)]++[],pA (gM D p) b⟩) (dC aB Try.f48) (jR Try.f48 [0,1,2,3] [0] [b] [.c (.ptr 0 0),uK p] (mL D rest)) fun e s=>e=.normal∧Zm [0] (bK aB Try.f48) (fun s=>cW G s ⟨[.c (.ptr 0 0)]++[],pA (gM D p) b⟩) s:=by
 obtain⟨M,gp,gs⟩:=D;obtain⟨kd,ru,ve,L,st,se,to⟩:=p;obtain⟨f1,f2,f3,f4,f5,f6⟩:=hF;dsimp only at f1 f2 f3 f4 f5 f6;refine eP.evG zI 4 (tA1 rest M.length b M gp gs kd ve st se ru to L) ?_;simp only[bA,aP,cI,gN];refine⟨⟨dP _ _ _,f3⟩,⟨trivial,f1⟩,⟨?_⟩⟩
 have fin:∀(kn kk:Bool) (g2:Value→Nat×(Nat→Nat→PV)),g2=(gM ⟨M,gp,gs⟩ ⟨kd,ru,ve,L,st,se,to⟩).gs→eP aB G (Zm [0] (bK aB Try.f48) fun s=>cW G s ⟨[.c (.ptr 0 0)]++[],pA (gM ⟨M,gp,gs⟩ ⟨kd,ru,ve,L,st,se,to⟩) b⟩) (bL 5 (dC aB Try.f48)) ((fun n gs tx=>bY 52 [(0,.c (.ptr 0 0)),(3,.c (.ptr 1 0)),(4,.c (.ptr 2 0)),(6,.c (.p (.b kn))),(19,.c (.p (.b kk)))] [.pin 3 b,.cells 31 [.p (.i .i64 kd),.p (.s ru),.p (.i .i64 ve),.p (bO aN 2 L),.p (.i .i64 st),.p (.i .i64 se),.p (.s to)],.cells 81 [.p (.s ru),.p (.i .i64 ve),.p (.s tx),.p (.i .i64 st)],.cells 86 [.sl 4 7 0 n,.mp 5,.mp 6],.row 31 7 n (aO aG M),.mapb (bJ aB 81) gp,.mapl (bJ aB 79) 3 1 gs none]) M.length g2 (cH L)) fun e s=>e=.normal∧Zm [0] (bK aB Try.f48) (fun s=>cW G s ⟨[.c (.ptr 0 0)]++[],pA (gM ⟨M,gp,gs⟩ ⟨kd,ru,ve,L,st,se,to⟩) b⟩) s:=by
  intro kn kk g2 hg;refine eP.evH zI (tA3 M.length b M gp g2 kd ve st se ru to (cH L) L kn kk) ?_;simp only[bA,aP,cI,gN];refine⟨⟨trivial,f1⟩,⟨dP _ _ _,f4⟩,trivial,aW _,⟨by omega,by omega,SU kd ve st se ru to L⟩,⟨trivial,[],rfl,?_⟩⟩
  refine(aI (st':=⟨[.c (.ptr 0 0)],[.pin 1 b,.cells 86 [.sl 2 7 0 (M.length+1),.mp 3,.mp 4],.row 31 7 (M.length+1) (fun e o=>bQ [0,1,2,3,4] (bQ [0,3,8,5,6] (fI M.length (aO aG M) (fun e o=>bC C.top [C.p (.i .i64 kd),C.p (.s ru),C.p (.i .i64 ve),C.p (bO aN 2 L),C.p (.i .i64 st),C.p (.i .i64 se),C.p (.s to)] ((e+0)*7+o)) e o))),.mapb (bJ aB 81) (uS gp (lC ru ve (cH L) st) (kd != 1)),.mapl (bJ aB 79) 3 1 g2 none]⟩) (by kernel_rfl)).trans ?_
  refine KO ⟨rfl,?_,⟨rfl,rfl,by simp[gM],fun e o he ho=>?_⟩,rfl,?_,trivial⟩
  ·show AO.cells _ _=AO.cells _ _
   simp[gM]
  ·exact congrArg (bQ [0,1,2,3,4]) (pP (enc:=aG) (ρ:=[0,3,8,5,6]) (x:=⟨kd,ru,ve,L,st,se,to⟩) rfl (IU kd ve st se ru to L) he ho)
  ·show AO.mapl _ _ _ _ _=AO.mapl _ _ _ _ _
   rw[hg]
 generalize hk:(gp (iK #[cU ru,cT aC ve,cU (cH L),cT aC st])).isSome=kn
 have hk2:(gp (lC ru ve (cH L) st)).isSome=kn:=hk
 refine eP.cond (k:=19) (a:=aFO (bC .skip (dC aB Try.f48) 4)) (b:=.skip) (r:=bL 5 (dC aB Try.f48)) (x := !kn) (by kernel_rfl) rfl (fun hx Q' hq _=>?_) (fun hx Q' hq _=>?_)
 ·obtain rfl:kn=false:=by simpa using hx
  rw[aU6]
  refine eP.pre (aI (st':=(fun n kn kk tx=>bY 52 [(0,.c (.ptr 0 0)),(3,.c (.ptr 1 0)),(4,.c (.ptr 2 0)),(6,.c (.p (.b kn))),(19,.c (.p (.b kk)))] [.pin 3 b,.cells 31 [.p (.i .i64 kd),.p (.s ru),.p (.i .i64 ve),.p (bO aN 2 L),.p (.i .i64 st),.p (.i .i64 se),.p (.s to)],.cells 81 [.p (.s ru),.p (.i .i64 ve),.p (.s tx),.p (.i .i64 st)],.cells 86 [.sl 4 7 0 n,.mp 5,.mp 6],.row 31 7 n (aO aG M),.mapb (bJ aB 81) gp,.mapl (bJ aB 79) 3 1 gs none]) M.length false true (cH L)) (by kernel_rfl)) ?_
  refine kM.mono (kM.mapapp aY (al:=alM) (x:=xM) (K1:=fun e s=>e=.normal∧s=aMM ((fun n kn kk tx=>(iY (iO fH) alM (bY 52 [(0,.c (.ptr 0 0)),(3,.c (.ptr 1 0)),(4,.c (.ptr 2 0)),(6,.c (.p (.b kn))),(19,.c (.p (.b kk)))] [.pin 3 b,.cells 31 [.p (.i .i64 kd),.p (.s ru),.p (.i .i64 ve),.p (bO aN 2 L),.p (.i .i64 st),.p (.i .i64 se),.p (.s to)],.cells 81 [.p (.s ru),.p (.i .i64 ve),.p (.s tx),.p (.i .i64 st)],.cells 86 [.sl 4 7 0 n,.mp 5,.mp 6],.row 31 7 n (aO aG M),.mapb (bJ aB 81) gp,.mapl (bJ aB 79) 3 1 gs none]) (fun s=>.done .normal ⟨jT xM.ds s.t,fB .gone (fB .gone (eT (.mapl (bJ aB 79) 3 1 (uH gs (iR ru ve tx) st) none) s.h 6))⟩))) M.length false true (cH L))) (by kernel_rfl) (by kernel_rfl) (by kernel_rfl) (by kernel_rfl) aOZ ?_) ?_
  ·rw[tA2 M.length b M gp gs kd ve st se ru to (cH L) L false true]
   refine⟨⟨rfl,f2⟩,aW _,⟨by omega,by omega,fun e o he ho=>?_⟩,rfl,rfl⟩
   obtain rfl:e=0:=by omega
   obtain rfl:o=0:=by omega
   exact⟨rfl,rfl⟩
  ·rintro e s ⟨rfl,rfl⟩
   exact⟨_,(gB (fJ 52 [0,3,4,6,19]) _).trans (aI (aU2 M.length b M gp gs kd ve st se ru to (cH L) L false true)),hq _ (fin _ _ _ (by unfold gM;rw[hk2]))⟩
 ·obtain rfl:kn=true:=by simpa using hx
  refine eP.pre (aI (st':=(fun n kn kk tx=>bY 52 [(0,.c (.ptr 0 0)),(3,.c (.ptr 1 0)),(4,.c (.ptr 2 0)),(6,.c (.p (.b kn))),(19,.c (.p (.b kk)))] [.pin 3 b,.cells 31 [.p (.i .i64 kd),.p (.s ru),.p (.i .i64 ve),.p (bO aN 2 L),.p (.i .i64 st),.p (.i .i64 se),.p (.s to)],.cells 81 [.p (.s ru),.p (.i .i64 ve),.p (.s tx),.p (.i .i64 st)],.cells 86 [.sl 4 7 0 n,.mp 5,.mp 6],.row 31 7 n (aO aG M),.mapb (bJ aB 81) gp,.mapl (bJ aB 79) 3 1 gs none]) M.length true false (cH L)) (by kernel_rfl)) (eP.evH aY (keep:=fJ 52 [0,3,4,6,19]) (tree:=.done .normal ((fun n kn kk tx=>bY 52 [(0,.c (.ptr 0 0)),(3,.c (.ptr 1 0)),(4,.c (.ptr 2 0)),(6,.c (.p (.b kn))),(19,.c (.p (.b kk)))] [.pin 3 b,.cells 31 [.p (.i .i64 kd),.p (.s ru),.p (.i .i64 ve),.p (bO aN 2 L),.p (.i .i64 st),.p (.i .i64 se),.p (.s to)],.cells 81 [.p (.s ru),.p (.i .i64 ve),.p (.s tx),.p (.i .i64 st)],.cells 86 [.sl 4 7 0 n,.mp 5,.mp 6],.row 31 7 n (aO aG M),.mapb (bJ aB 81) gp,.mapl (bJ aB 79) 3 1 gs none]) M.length true false (cH L))) (by kernel_rfl) ?_)
  exact hq _ (fin _ _ _ (by unfold gM;rw[hk2]))
set_option maxRecDepth 100000 in
theorem aOS(D:Ld)(p:Pg)(hF:tY D p)(rest:List AO):jW aB G 48 [.c (.ptr 0 0),uK p] (mL D rest) fun x h'=>x=.t []∧h'=iT [0,1,2,3] [0] [1] (mL D rest) (pA (gM D p) 0):=by
 refine fun β R w vs ha hh=>(tR (ρ:=[0,1,2,3]) (ids:=[0]) (ps:=[0]) (pns:=[0]) (js:=[1]) (sl:=[.c (.ptr 0 0)]) (vs:=[]) (hE:=fun bs=>pA (gM D p) (bC 0 bs 0)) Try.func48 (by kernel_rfl) (by kernel_rfl) (by kernel_rfl) (by simp) (by simp) rfl rfl rfl (fun i pn h=>?_) (fun bs hb i pn j b h1 h2 h3=>?_) (fun bs hb=>?_) β R w vs ha hh).mono ?_
 ·cases i with
  |zero=>obtain rfl:0=pn:=by simpa using h
         exact⟨0,by simp⟩
  |succ i=>simp at h
 ·cases i with
  |zero=>
   obtain rfl:0=pn:=by simpa using h1
   obtain rfl:1=j:=by simpa using h2
   cases bs with
   |nil=>simp at hb
   |cons b0 bs=>
    obtain rfl:b0=b:=by simpa using h3
    exact⟨rfl,rfl⟩
  |succ i=>simp at h1
 ·obtain⟨b,rfl⟩:∃b,bs=[b]:=by
    cases bs with
    |nil=>simp at hb
    |cons b0 bs=>cases bs with
     |nil=>exact⟨b0,rfl⟩
     |cons _ _=>simp at hb
  clear hb ha hh;exact RR D p hF rest b
 ·rintro e w' ⟨u,β',R',x,h',rfl,⟨bs,hb,hx,hh'⟩,hr⟩
  exact⟨u,β',R',x,h',rfl,⟨hx,hh'.trans (LC _ _ _ _)⟩,hr⟩
end
noncomputable def aJ4(D:Ld):kD
 |[.c (.ptr 4 0),x],h=>match h with
  |.cells 86 [.sl 1 7 0 n,.mp 2,.mp 3]::.row 31 7 n' f::.mapb ok gp::.mapl ok2 3 1 gs none::.pin 0 b::rest=>match xF x with
   |some (q,⟨kd,ru,ve,L,st,se,to⟩)=>some (q∧(n=D.M.length∧n'=D.M.length∧f=aO aG D.M∧ok=bJ aB 81∧gp=D.gp∧ok2=bJ aB 79∧gs=D.gs)∧tY D ⟨kd,ru,ve,L,st,se,to⟩,.t [],iT [0,1,2,3] [0] [1] (mL D (.pin 0 b::rest)) (pA (gM D ⟨kd,ru,ve,L,st,se,to⟩) 0))
   |none=>none
  |_=>none
 |_,_=>none
noncomputable def aLK(D:Ld):Ext:=mH [(42,uC OP),(43,uC mOf),(48,aJ4 D)]
theorem tF(D:Ld)(rest:List AO)(b:Nat)(kd ve st se:Int)(ru to:ByteArray)(L:List (ByteArray×ByteArray)):dF (aLK D) (dC aB Try.f25) (jR Try.f25 [0,1,2,3] [0] [b] [.c (.ptr 0 0),pgW kd ru ve L st se to] (mL D rest)) (gP [0] [] (bK aB Try.f25))=bT (kd != 0)
 (.done .ret
 (bY 2 [(0,.c (.ptr 0 0)),(1,.c (.p (.i .i64 1)))] [.pin 1 b,.cells 86 [.sl 2 7 0 D.M.length,.mp 3,.mp 4],.row 31 7 D.M.length fun e o=>bQ [4,0,1,2,3] (bQ [0,1,2,3] (aO aG D.M e o)),.mapb (bJ aB 81) D.gp,.mapl (bJ aB 79) 3 1 D.gs none]))
 (.rq (kI aN 2 (bS cS L.length (aE aN L)) L.length (aE aN L))
 (bT (!hP (Pg.mk kd ru ve (bS cS L.length (aE aN L)) st se to))
 (.done .ret
 (bY 2 [(0,.c (.ptr 0 0)),(1,.c (.p (.i .i64 1)))] [.pin 1 b,.cells 86 [.sl 2 7 0 D.M.length,.mp 3,.mp 4],.row 31 7 D.M.length fun e o=>bQ [4,0,1,2,3] (bQ [0,1,2,3] (aO aG D.M e o)),.mapb (bJ aB 81) D.gp,.mapl (bJ aB 79) 3 1 D.gs none]))
 (.rq (kI aN 2 (bS cS L.length (aE aN L)) L.length (aE aN L)∧(cH (bS cS L.length (aE aN L))).size≤1000000)
 (.rq
 (bJ aB 81=bJ aB 81 ∧
 bJ aB 81 (iK #[cU ru,cT aC ve,cU (cH (bS cS L.length (aE aN L))),cT aC st])=true)
 (bT ((D.gp (iK #[cU ru,cT aC ve,cU (cH (bS cS L.length (aE aN L))),cT aC st])).getD false)
 (.done .ret
 (bY 2 [(0,.c (.ptr 0 0)),(1,.c (.p (.i .i64 10)))] [.pin 1 b,.cells 86 [.sl 2 7 0 D.M.length,.mp 3,.mp 4],.row 31 7 D.M.length fun e o=>bQ [4,0,1,2,3] (bQ [0,1,2,3] (aO aG D.M e o)),.mapb (bJ aB 81) D.gp,.mapl (bJ aB 79) 3 1 D.gs none]))
 (bT (D.gp (iK #[cU ru,cT aC ve,cU (cH (bS cS L.length (aE aN L))),cT aC st])).isSome
 (.done .ret
 (bY 2 [(0,.c (.ptr 0 0)),(1,.c (.p (.i .i64 20)))] [.pin 1 b,.cells 86 [.sl 2 7 0 D.M.length,.mp 3,.mp 4],.row 31 7 D.M.length fun e o=>bQ [4,0,1,2,3] (bQ [0,1,2,3] (aO aG D.M e o)),.mapb (bJ aB 81) D.gp,.mapl (bJ aB 79) 3 1 D.gs none]))
 (.rq
 (kI aN 2 (bS cS L.length (aE aN L)) L.length (aE aN L) ∧
 (D.M.length=D.M.length ∧
 D.M.length=D.M.length ∧
 (fun e o=>bQ [0,1,2,3] (aO aG D.M e o))=aO aG D.M∧bJ aB 81=bJ aB 81∧D.gp=D.gp∧bJ aB 79=bJ aB 79∧D.gs=D.gs) ∧
 tY D (Pg.mk kd ru ve (bS cS L.length (aE aN L)) st se to))
 (.done .ret
 (bY 2 [(0,.c (.ptr 0 0)),(1,.c (.p (.i .i64 0)))] [.pin 1 b,.cells 86 [.sl 2 7 0 (gM D (Pg.mk kd ru ve (bS cS L.length (aE aN L)) st se to)).M.length,.mp 3,.mp 4],.row 31 7 (gM D (Pg.mk kd ru ve (bS cS L.length (aE aN L)) st se to)).M.length fun e o=>bQ [4,0,8,9,10] (C.p (aE aG (gM D (Pg.mk kd ru ve (bS cS L.length (aE aN L)) st se to)).M e o)),.mapb (bJ aB 81) (gM D (Pg.mk kd ru ve (bS cS L.length (aE aN L)) st se to)).gp,.mapl (bJ aB 79) 3 1 (gM D (Pg.mk kd ru ve (bS cS L.length (aE aN L)) st se to)).gs none]))))))))):=by kernel_rfl
noncomputable def jL(D:Ld)(p:Pg):Int×Ld:=
 match p.kd != 0,hP p,D.gp (lC p.ru p.ve (cH p.L) p.st) with
 |true,_,_=>(1,D)
 |false,false,_=>(1,D)
 |false,true,some true=>(10,D)
 |false,true,some false=>(20,D)
 |false,true,none=>(0,gM D p)
section
variable {G:Nat→Option Obj}
theorem jW.unpin{P:Program}{f:FuncId}{q j off b0:Nat}{args:List V}{h:List AO}{K:V→List AO→Prop}(hq:bC .gone h q=.pin j b0)(hf:jW P G f (.c (.ptr j off)::args) h K):jW P G f (.c (.ptr q off)::args) h K:=by
 intro β R w vs ha hh;refine hf β R w vs ?_ hh
 generalize vs.toList=us at ha
 cases us with
 |nil=>exact ha.elim
 |cons u us=>
  obtain⟨h1,h2⟩:=ha;obtain⟨b,o,e1,e2⟩:=h1
  have hob:=hh.obj q b o e1
  rw[hq]at hob;obtain⟨e3,o2,e4⟩:=hob;subst e3;exact⟨⟨_,o2,e4,e2⟩,h2⟩
theorem gO{p q:Prop}{v u:V}{h h':List AO}(e:some (p,v,h)=some (q,u,h')):p=q∧v=u∧h=h':=by
 injection e with e;injection e with e1 e;injection e with e2 e3;exact⟨e1,e2,e3⟩
theorem aDS(D:Ld):gG aB G 48 (aJ4 D):=by
 intro args h p v h' hm hp;unfold aJ4 at hm
 split at hm;rotate_left;· cases hm
 split at hm;rotate_left;· cases hm
 split at hm;rotate_left;· cases hm
 rename_i x _ n n' f ok gp ok2 gs b rest _ q kd ru ve L st se to hx;obtain⟨rfl,rfl,rfl⟩:=gO hm;obtain⟨hq,⟨rfl,rfl,rfl,rfl,rfl,rfl,rfl⟩,hF⟩:=hp;refine jW.unpin (j:=0) (b0:=b) rfl (jW.args (args':=[.c (.ptr 0 0),uK ⟨kd,ru,ve,L,st,se,to⟩]) ?_ (.cons (.refl _) (.cons (mT hx hq) .nil)));exact aOS D ⟨kd,ru,ve,L,st,se,to⟩ hF (.pin 0 b::rest)
theorem QO(D:Ld):bG aB G (aLK D):=eM (by simp;exact⟨TC.lift,aIG.lift,aDS D⟩)
set_option maxRecDepth 100000 in
theorem AY(D:Ld)(p:Pg)(hF:p.kd=0→hP p=true→tY D p)(rest:List AO)(b:Nat)(Q:X→St→Prop):eP aB G (Zm [0] (bK aB Try.f25) fun s=>cW G s ⟨[.c (.ptr 0 0)]++[iV (jL D p).1],pA (jL D p).2 b⟩) (dC aB Try.f25) (jR Try.f25 [0,1,2,3] [0] [b] [.c (.ptr 0 0),uK p] (mL D rest)) Q:=by
 obtain⟨kd,ru,ve,L,st,se,to⟩:=p;refine eP.evH (QO D) (tF D rest b kd ve st se ru to L) ?_;simp only[cD,bA,aP,kA,gN];dsimp only at hF
 have e:jL D ⟨kd,ru,ve,L,st,se,to⟩=match kd != 0,hP ⟨kd,ru,ve,L,st,se,to⟩,D.gp (.agg #[.string ru,.int .i64 ve,.string (cH L),.int .i64 st]) with
  |true,_,_=>(1,D)
  |false,false,_=>(1,D)
  |false,true,some true=>(10,D)
  |false,true,some false=>(20,D)
  |false,true,none=>(0,gM D ⟨kd,ru,ve,L,st,se,to⟩):=rfl
 rw[e];clear e;refine⟨fun h1=>⟨?_⟩,fun h1=>⟨dP _ _ _,fun h2=>⟨?_⟩,fun h2=>?_⟩⟩
 ·rw[h1];exact aI (by kernel_rfl)
 ·have h2:hP ⟨kd,ru,ve,L,st,se,to⟩=false:=by simpa using h2
  rw[h1,h2];exact aI (by kernel_rfl)
 ·have h2:hP ⟨kd,ru,ve,L,st,se,to⟩=true:=by simpa using h2
  have hF:=hF (by simpa using h1) h2
  rw[h1,h2]
  generalize hg:D.gp (.agg #[.string ru,.int .i64 ve,.string (cH L),.int .i64 st])=g
  refine⟨⟨dP _ _ _,hF.2.2.1⟩,⟨trivial,hF.1⟩,fun h3=>⟨?_⟩,fun h3=>⟨fun h4=>⟨?_⟩,fun h4=>⟨⟨dP _ _ _,⟨trivial,trivial,rfl,trivial,trivial,trivial,trivial⟩,hF⟩,⟨?_⟩⟩⟩⟩
  ·match g,h3 with
   |some true,_=>exact aI (by kernel_rfl)
  ·match g,h3,h4 with
   |some false,_,_=>exact aI (by kernel_rfl)
  ·match g,h4 with
   |none,_=>exact aI (by kernel_rfl)
set_option maxRecDepth 100000 in
theorem XY(D:Ld)(p:Pg)(hF:p.kd=0→hP p=true→tY D p)(rest:List AO):jW aB G 25 [.c (.ptr 0 0),uK p] (mL D rest) fun x h'=>x=iV (jL D p).1∧h'=iT [0,1,2,3] [0] [1] (mL D rest) (pA (jL D p).2 0):=by
 refine fun β R w vs ha hh=>(tR (ρ:=[0,1,2,3]) (ids:=[0]) (ps:=[0]) (pns:=[0]) (js:=[1]) (sl:=[.c (.ptr 0 0)]) (vs:=[iV (jL D p).1]) (hE:=fun bs=>pA (jL D p).2 (bC 0 bs 0)) Try.func25 (by kernel_rfl) (by kernel_rfl) (by kernel_rfl) (by simp) (by simp) rfl rfl rfl (fun i pn h=>?_) (fun bs hb i pn j b h1 h2 h3=>?_) (fun bs hb=>?_) β R w vs ha hh).mono ?_
 ·cases i with
  |zero=>obtain rfl:0=pn:=by simpa using h
         exact⟨0,by simp⟩
  |succ i=>simp at h
 ·cases i with
  |zero=>
   obtain rfl:0=pn:=by simpa using h1
   obtain rfl:1=j:=by simpa using h2
   cases bs with
   |nil=>simp at hb
   |cons b0 bs=>
    obtain rfl:b0=b:=by simpa using h3
    exact⟨rfl,rfl⟩
  |succ i=>simp at h1
 ·obtain⟨b,rfl⟩:∃b,bs=[b]:=by
    cases bs with
    |nil=>simp at hb
    |cons b0 bs=>cases bs with
     |nil=>exact⟨b0,rfl⟩
     |cons _ _=>simp at hb
  clear hb ha hh;exact AY D p hF rest b _
 ·rintro e w' ⟨u,β',R',x,h',rfl,⟨bs,hb,hx,hh'⟩,hr⟩
  exact⟨u,β',R',x,h',rfl,⟨hx,hh'.trans (LC _ _ _ _)⟩,hr⟩
end
def gs0:Value→Nat×(Nat→Nat→PV):=fun _=>(0,fun _ _=>.b false)
def CO:Ld:=⟨[],fun _=>none,gs0⟩
noncomputable def aE9:kD
 |[],h=>some (True,.c (.ptr (fG h) 0),iT [] [] [] h (mL CO []))
 |_,_=>none
theorem tN(h:List AO):dF fH (dC aB Try.f20) (jR Try.f20 [] [] [] [] h) (gP [] [] (bK aB Try.f20))=Tr.done X.ret (St.mk [V.c (C.ptr 0 0)] [AO.cells 86 [C.p (PV.z (bB none 0 0)),C.mp 1,C.mp 2],AO.mapb (bJ aB 81) fun x=>none,AO.mapl (bJ aB 79) 3 1 (fun x=>(0,fun x x_1=>PV.b false)) none]):=by kernel_rfl
section
variable {G:Nat→Option Obj}
set_option maxRecDepth 100000 in
theorem aEO{f:FuncId}{fn:Func}(hf:(aB).funcs[f]?=some fn)(hok:TF aB fn=true){args vs:List V}{D D':Ld}{rest:List AO}(H:∀b,eP aB G (Zm [0] (bK aB fn) fun s=>cW G s ⟨[.c (.ptr 0 0)]++vs,pA D' b⟩) (dC aB fn) (jR fn [0,1,2,3] [0] [b] (.c (.ptr 0 0)::args) (mL D rest)) fun e s=>e=.normal∧Zm [0] (bK aB fn) (fun s=>cW G s ⟨[.c (.ptr 0 0)]++vs,pA D' b⟩) s):jW aB G f (.c (.ptr 0 0)::args) (mL D rest) fun x h'=>x=OE (yN [1] [0] (mL D rest).length vs)∧h'=iT [0,1,2,3] [0] [1] (mL D rest) (pA D' 0):=by
 refine fun β R w us ha hh=>(tR (ρ:=[0,1,2,3]) (ids:=[0]) (ps:=[0]) (pns:=[0]) (js:=[1]) (sl:=[.c (.ptr 0 0)]) (vs:=vs) (hE:=fun bs=>pA D' (bC 0 bs 0)) hf hok (by kernel_rfl) (by kernel_rfl) (by simp) (by simp) rfl rfl rfl (fun i pn h=>?_) (fun bs hb i pn j b h1 h2 h3=>?_) (fun bs hb=>?_) β R w us ha hh).mono ?_
 ·cases i with
  |zero=>obtain rfl:0=pn:=by simpa using h
         exact⟨0,by simp⟩
  |succ i=>simp at h
 ·cases i with
  |zero=>
   obtain rfl:0=pn:=by simpa using h1
   obtain rfl:1=j:=by simpa using h2
   cases bs with
   |nil=>simp at hb
   |cons b0 bs=>
    obtain rfl:b0=b:=by simpa using h3
    exact⟨rfl,rfl⟩
  |succ i=>simp at h1
 ·obtain⟨b,rfl⟩:∃b,bs=[b]:=by
    cases bs with
    |nil=>simp at hb
    |cons b0 bs=>cases bs with
     |nil=>exact⟨b0,rfl⟩
     |cons _ _=>simp at hb
  exact H b
 ·rintro e w' ⟨u,β',R',x,h',rfl,⟨bs,hb,hx,hh'⟩,hr⟩
  exact⟨u,β',R',x,h',rfl,⟨hx,hh'.trans (LC _ _ _ _)⟩,hr⟩
set_option maxRecDepth 100000 in
theorem aDH:gG aB G 20 aE9:=by
 intro args h p v h' hm hp;unfold aE9 at hm
 split at hm;rotate_left;· cases hm
 obtain⟨rfl,rfl,rfl⟩:=gO hm
 refine fun β R w us ha hh=>(tR (ρ:=[]) (ids:=[]) (ps:=[]) (pns:=[]) (js:=[]) (sl:=[]) (vs:=[.c (.ptr 0 0)]) (hE:=fun bs=>mL CO []) Try.func20 (by kernel_rfl) rfl rfl (by simp) (by simp) rfl rfl rfl (fun i pn h=>by simp at h) (fun bs hb i pn j b h1 h2 h3=>by simp at h1) (fun bs hb=>?_) β R w us ha hh).mono ?_
 ·obtain rfl:bs=[]:=by simpa using hb
  refine eP.evH aY (tN h) ?_;simp only[cD,bA,aP,kA]
  have key:cW G (St.mk [V.c (C.ptr 0 0)] [AO.cells 86 [C.p (PV.z (bB none 0 0)),C.mp 1,C.mp 2],AO.mapb (bJ aB 81) fun x=>none,AO.mapl (bJ aB 79) 3 1 (fun x=>(0,fun x x_1=>PV.b false)) none]) ⟨[]++[.c (.ptr 0 0)],mL CO []⟩:=by
   refine(vP 31 7 (aO aG []) (id:=0) (k:=0) (t0:=86) (vs:=[C.p (PV.z (bB none 0 0)),C.mp 1,C.mp 2]) (by rfl) (by rfl)).trans ?_
   exact(gB (fJ 1 [0]) _).trans (aI (by kernel_rfl))
  exact⟨key⟩
 ·rintro e w' ⟨u,β',R',x,h',rfl,⟨bs,hb,hx,hh'⟩,hr⟩
  refine⟨u,β',R',x,h',rfl,⟨hx.trans ?_,hh'⟩,hr⟩;rw[eL];rfl
end
end Go.AE
