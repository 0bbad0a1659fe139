import Derived.Test.YtgdlaibocecehaaGreatDoorRVe
import Derived.Test.YtgdlaibocecehaaGreatDoorRVd
import Derived.Test.YtgdlaibocecehaaGreatDoorRVj
import Derived.Laws.Strings
set_option linter.unusedVariables false
set_option linter.unusedSimpArgs false
namespace Go.AE
open _root_.Bool renaming and_eq_true→aY,and_false→fP,eq_iff_iff→dT,not_eq_false'→bZ,not_eq_true→gX,not_eq_true'→bX
open _root_.ByteArray renaming mk→aO,toList_eq→gJ
open _root_.Int renaming eq_ofNat_of_zero_le→dQ,ofNat→aF
open IntKind renaming i64→aA,u64→dU
open _root_.List renaming getD_eq_getElem?_getD→aG,getElem?_eq_getElem→aN
open _root_.Nat renaming zero_le→bH
open Op renaming bytesLess→eS
open _root_.UInt8 renaming toNat→eT
open Go.Proofs Go.Proofs.YtgdlaibocecehaaGreatDoor
def QO:Mod
 |[.c (.p (.s s))]=>some (True,bV (iH s))
 |_=>none
def UQ:Mod
 |[.c (.p (.s s))]=>some (True,bV (jG s))
 |_=>none
def aR2:Ext:=fB [(80,ND)]
theorem aM6(s:ByteArray):cJ dX (dH 4 (cS Tryz.prog Tryz.f45)) (iR Tryz.f45 [sV s]) (wT [] (fO 48 [0,3]) (bB Tryz.prog Tryz.f45))=bT (decide ((↑s.size:Int)<1)) (.done .ret (St.mk [V.c (C.p (PV.b false))] []))
 (bT (decide (16<(↑s.size:Int))) (.done .ret (St.mk [V.c (C.p (PV.b false))] []))
 (.done .normal
 (bU 48 [(0,.c (.p (.s s))),(3,.c (.p (.i .i64 0)))] []))):=by kernel_rfl
theorem aM5(s:ByteArray)(i:Int):cJ aR2 (jZ (cS Tryz.prog Tryz.f45) 4) (bU 48 [(0,sV s),(3,iV i)] []) (wT [] (fO 48 [0,3]) (bB Tryz.prog Tryz.f45))=bT (decide (i<(↑s.size:Int)))
 (.rq (0≤i∧i<(↑s.size:Int))
 (bT (decide (48≤jJ s i.toNat))
 (.rq (0≤i∧i<(↑s.size:Int))
 (bT (decide (jJ s i.toNat≤57))
 (.rq (0≤i∧i<(↑s.size:Int))
 (.rq True
 (bT (!qM (jJ s i.toNat))
 (bT (i==0) (.done .ret (St.mk [V.c (C.p (PV.b false))] []))
 (.rq (inR aA (i+1))
 (.done .normal
 (bU 48 [(0,.c (.p (.s s))),(3,.c (.p (.i .i64 (i+1))))] []))))
 (.rq (inR aA (i+1))
 (.done .normal
 (bU 48 [(0,.c (.p (.s s))),(3,.c (.p (.i .i64 (i+1))))] []))))))
 (.rq (0≤i∧i<(↑s.size:Int))
 (.rq (0≤i∧i<(↑s.size:Int))
 (.rq True
 (bT (!qM (jJ s i.toNat))
 (bT (i==0) (.done .ret (St.mk [V.c (C.p (PV.b false))] []))
 (bT (!jJ s i.toNat==95) (.done .ret (St.mk [V.c (C.p (PV.b false))] []))
 (.rq (inR aA (i+1))
 (.done .normal
 (bU 48 [(0,.c (.p (.s s))),(3,.c (.p (.i .i64 (i+1))))] [])))))
 (.rq (inR aA (i+1))
 (.done .normal
 (bU 48 [(0,.c (.p (.s s))),(3,.c (.p (.i .i64 (i+1))))] [])))))))))
 (.rq (0≤i∧i<(↑s.size:Int))
 (.rq (0≤i∧i<(↑s.size:Int))
 (.rq True
 (bT (!qM (jJ s i.toNat))
 (bT (i==0) (.done .ret (St.mk [V.c (C.p (PV.b false))] []))
 (bT (!jJ s i.toNat==95) (.done .ret (St.mk [V.c (C.p (PV.b false))] []))
 (.rq (inR aA (i+1))
 (.done .normal
 (bU 48 [(0,.c (.p (.s s))),(3,.c (.p (.i .i64 (i+1))))] [])))))
 (.rq (inR aA (i+1))
 (.done .normal
 (bU 48 [(0,.c (.p (.s s))),(3,.c (.p (.i .i64 (i+1))))] [])))))))))
 (.done (.exit 0)
 (bU 48 [(0,.c (.p (.s s))),(3,.c (.p (.i .i64 i)))] [])):=by kernel_rfl
theorem aM4(s:ByteArray)(i:Int):cJ dX (bJ 5 (cS Tryz.prog Tryz.f45)) (bU 48 [(0,sV s),(3,iV i)] []) (wT [] [] (bB Tryz.prog Tryz.f45))=Tr.done X.ret (St.mk [V.c (C.p (PV.b true))] []):=by kernel_rfl
theorem aH1(s:ByteArray):cJ dX (dH 4 (cS Tryz.prog Tryz.f154)) (iR Tryz.f154 [sV s]) (wT [] (fO 43 [0,3]) (bB Tryz.prog Tryz.f154))=bT (decide (16<(↑s.size:Int))) (.done .ret (St.mk [V.c (C.p (PV.b false))] []))
 (.done .normal
 (bU 43 [(0,.c (.p (.s s))),(3,.c (.p (.i .i64 0)))] [])):=by kernel_rfl
theorem aH0(s:ByteArray)(i:Int):cJ dX (jZ (cS Tryz.prog Tryz.f154) 4) (bU 43 [(0,sV s),(3,iV i)] []) (wT [] (fO 43 [0,3]) (bB Tryz.prog Tryz.f154))=bT (decide (i<(↑s.size:Int)))
 (.rq (0≤i∧i<(↑s.size:Int))
 (bT (decide (jJ s i.toNat<33)) (.done .ret (St.mk [V.c (C.p (PV.b false))] []))
 (bT (decide (126<jJ s i.toNat)) (.done .ret (St.mk [V.c (C.p (PV.b false))] []))
 (bT (jJ s i.toNat==34) (.done .ret (St.mk [V.c (C.p (PV.b false))] []))
 (bT (jJ s i.toNat==92) (.done .ret (St.mk [V.c (C.p (PV.b false))] []))
 (bT (jJ s i.toNat==44) (.done .ret (St.mk [V.c (C.p (PV.b false))] []))
 (bT (jJ s i.toNat==123) (.done .ret (St.mk [V.c (C.p (PV.b false))] []))
 (bT (jJ s i.toNat==125) (.done .ret (St.mk [V.c (C.p (PV.b false))] []))
 (.rq (inR aA (i+1))
 (.done .normal
 (bU 43 [(0,.c (.p (.s s))),(3,.c (.p (.i .i64 (i+1))))] [])))))))))))
 (.done (.exit 0)
 (bU 43 [(0,.c (.p (.s s))),(3,.c (.p (.i .i64 i)))] [])):=by kernel_rfl
theorem aGZ(s:ByteArray)(i:Int):cJ dX (bJ 5 (cS Tryz.prog Tryz.f154)) (bU 43 [(0,sV s),(3,iV i)] []) (wT [] [] (bB Tryz.prog Tryz.f154))=Tr.done X.ret (St.mk [V.c (C.p (PV.b true))] []):=by kernel_rfl
theorem LF(s:ByteArray)(k:Nat):jJ s k=PlainAid.bt s k:=by
 unfold jJ PlainAid.bt;split
 ·rename_i h
  have h':k<s.data.toList.length:=by simpa using h
  rw[aG,aN h'];simp[ByteArray.getElem_eq_getElem_data]
 ·rename_i h
  have h':s.data.toList.length≤k:=by simpa using h
  rw[aG,List.getElem?_eq_none h'];rfl
section
variable {G:Nat→Option Obj}
theorem WB:bO Tryz.prog G aR2:=cD (by simp;exact aDP)
theorem XZ(k:Nat)(c:Int):okc k c=true↔(97≤c∧c≤122)∨(k≠0∧(c=95∨(48≤c∧c≤57))):=by simp[okc]
theorem XY(c:Int):okv c=true↔33≤c∧c≤126∧c≠34∧c≠92∧c≠44∧c≠123∧c≠125:=by
 simp[okv];omega
theorem QU(c:Int):qM c=true↔97≤c∧c≤122:=by simp[qM]
set_option maxRecDepth 100000 in
theorem UH:dD Tryz.prog G 45 QO:=by
 intro args p v hm hp h;unfold QO at hm;split at hm
 ·rename_i s
  injection hm with hm;injection hm with e1 e2;subst e1;subst e2
  refine fR Tryz.func45 (by kernel_rfl) rfl ?_ h
  refine cO.ev aT 4 [] (fO 48 [0,3]) rfl (aM6 s) ?_;simp only[bD,nM,bK,aZ];refine⟨fun h1=>eL.of_eq ?_,fun h1=>⟨fun h2=>eL.of_eq ?_,fun h2=>?_⟩⟩
  ·have h1:((s.size:Nat):Int)<1:=by simpa using h1
   have:iH s=false:=by unfold iH;rw[decide_eq_false (by omega)];rfl
   rw[this];rfl
  ·have h2:(16:Int)<s.size:=by simpa using h2
   have:iH s=false:=by unfold iH;rw[decide_eq_false (show ¬s.size≤16 by omega),fP];rfl
   rw[this];rfl
  ·have h1:¬((s.size:Nat):Int)<1:=by simpa using h1
   have h2:¬(16:Int)<s.size:=by simpa using h2
   refine cO.loop (l:=bJ 4 (cS Tryz.prog Tryz.f45)) (b:=inr (inr (bN .skip (cS Tryz.prog Tryz.f45) 4))) (r:=bJ 5 (cS Tryz.prog Tryz.f45)) (id:=0) (by kernel_rfl)
     (fun i:Int=>bU 48 [(0,sV s),(3,iV i)] []) (fun i=>0≤i∧i≤s.size∧HX (PlainAid.bt s) i.toNat=true) (fun i=>(s.size-i).toNat) 0 ⟨by omega,by omega,rfl⟩ (aP (by kernel_rfl)) ?_
   rintro i ⟨i0,i1,hi⟩;refine cO.evA WB [] (fO 48 [0,3]) rfl (aM5 s i) ?_
   have hb:=LF s i.toNat
   generalize jJ s i.toNat=c at hb
   have hsucc:(i+1).toNat=i.toNat+1:=by omega
   have bad:i<s.size→¬((97≤c∧c≤122)∨(i.toNat≠0∧(c=95∨(48≤c∧c≤57))))→eL (V.c (C.p (PV.b false))) (bV (iH s)):=fun hlt hc=>by
    rw[zF (k:=i.toNat) (by omega) (by rw[←hb,←gX,XZ];exact hc)];exact eL.refl _
   have good:i<s.size→((97≤c∧c≤122)∨(i.toNat≠0∧(c=95∨(48≤c∧c≤57))))→∃s':Int,(0≤s'∧s'≤s.size∧HX (PlainAid.bt s) s'.toNat=true)∧(s.size-s').toNat<(s.size-i).toNat∧cW G (bU 48 [(0,V.c (C.p (PV.s s))),(3,V.c (C.p (PV.i .i64 (i+1))))] []) (bU 48 [(0,sV s),(3,iV s')] []):=fun hlt hc=>
    ⟨i+1,⟨by omega,by omega,by rw[hsucc,uS,hi,←hb,(XZ _ _).2 hc];rfl⟩,by omega,aP (by kernel_rfl)⟩
   have after:¬i<s.size→cO Tryz.prog G (bB Tryz.prog Tryz.f45) (bV (iH s)) (bJ 5 (cS Tryz.prog Tryz.f45)) (bU 48 [(0,V.c (C.p (PV.s s))),(3,V.c (C.p (PV.i .i64 i)))] []) (fun _ _=>False):=fun hlt=>by
    refine cO.evA aT [] [] rfl (aM4 s i) ?_
    have:iH s=true:=by
     obtain rfl:i=s.size:=by omega
     unfold iH;rw[decide_eq_true (by omega),decide_eq_true (show s.size≤16 by omega)];simpa using hi
    simp only[nM,bK];rw[this];exact eL.refl _
   simp only[bD,aS,aI,bK,aZ,fE,decide_eq_true_eq,decide_eq_false_iff_not,bX,bZ,beq_iff_eq,beq_eq_false_iff_ne,QU,←gX,inR,if_true]
   repeat' (first|apply And.intro|intro _)
   all_goals first|trivial|(clear bad good after;omega)|exact⟨after ‹_›⟩|exact⟨bad ‹_› (by clear bad good after;omega)⟩|exact⟨good ‹_› (by clear bad good after;omega)⟩
 ·cases hm
set_option maxRecDepth 100000 in
theorem aI6:dD Tryz.prog G 154 UQ:=by
 intro args p v hm hp h;unfold UQ at hm;split at hm
 ·rename_i s
  injection hm with hm;injection hm with e1 e2;subst e1;subst e2
  refine fR Tryz.func154 (by kernel_rfl) rfl ?_ h
  refine cO.ev aT 4 [] (fO 43 [0,3]) rfl (aH1 s) ?_;simp only[bD,nM,bK,aZ];refine⟨fun h2=>eL.of_eq ?_,fun h2=>?_⟩
  ·have h2:(16:Int)<s.size:=by simpa using h2
   have:jG s=false:=by unfold jG;rw[decide_eq_false (show ¬s.size≤16 by omega)];rfl
   rw[this];rfl
  ·have h2:¬(16:Int)<s.size:=by simpa using h2
   refine cO.loop (l:=bJ 4 (cS Tryz.prog Tryz.f154)) (b:=inr (inr (bN .skip (cS Tryz.prog Tryz.f154) 4))) (r:=bJ 5 (cS Tryz.prog Tryz.f154)) (id:=0) (by kernel_rfl)
     (fun i:Int=>bU 43 [(0,sV s),(3,iV i)] []) (fun i=>0≤i∧i≤s.size∧vQ (PlainAid.bt s) i.toNat=true) (fun i=>(s.size-i).toNat) 0 ⟨by omega,by omega,rfl⟩ (aP (by kernel_rfl)) ?_
   rintro i ⟨i0,i1,hi⟩;refine cO.evA aT [] (fO 43 [0,3]) rfl (aH0 s i) ?_
   have hb:=LF s i.toNat
   generalize jJ s i.toNat=c at hb
   have hsucc:(i+1).toNat=i.toNat+1:=by omega
   have bad:i<s.size→¬(33≤c∧c≤126∧c≠34∧c≠92∧c≠44∧c≠123∧c≠125)→eL (V.c (C.p (PV.b false))) (bV (jG s)):=fun hlt hc=>by
    rw[vV (k:=i.toNat) (by omega) (by rw[←hb,←gX,XY];exact hc)];exact eL.refl _
   have good:i<s.size→(33≤c∧c≤126∧c≠34∧c≠92∧c≠44∧c≠123∧c≠125)→∃s':Int,(0≤s'∧s'≤s.size∧vQ (PlainAid.bt s) s'.toNat=true)∧(s.size-s').toNat<(s.size-i).toNat∧cW G (bU 43 [(0,V.c (C.p (PV.s s))),(3,V.c (C.p (PV.i .i64 (i+1))))] []) (bU 43 [(0,sV s),(3,iV s')] []):=fun hlt hc=>
    ⟨i+1,⟨by omega,by omega,by rw[hsucc,DU,hi,←hb,(XY _).2 hc];rfl⟩,by omega,aP (by kernel_rfl)⟩
   have after:¬i<s.size→cO Tryz.prog G (bB Tryz.prog Tryz.f154) (bV (jG s)) (bJ 5 (cS Tryz.prog Tryz.f154)) (bU 43 [(0,V.c (C.p (PV.s s))),(3,V.c (C.p (PV.i .i64 i)))] []) (fun _ _=>False):=fun hlt=>by
    refine cO.evA aT [] [] rfl (aGZ s i) ?_
    have:jG s=true:=by
     obtain rfl:i=s.size:=by omega
     unfold jG;rw[decide_eq_true (show s.size≤16 by omega)];simpa using hi
    simp only[nM,bK];rw[this];exact eL.refl _
   simp only[bD,aS,aI,bK,aZ,fE,decide_eq_true_eq,decide_eq_false_iff_not,bX,bZ,beq_iff_eq,beq_eq_false_iff_ne,inR,if_true]
   repeat' (first|apply And.intro|intro _)
   all_goals first|trivial|(clear bad good after;omega)|exact⟨after ‹_›⟩|exact⟨bad ‹_› (by clear bad good after;omega)⟩|exact⟨good ‹_› (by clear bad good after;omega)⟩
 ·cases hm
end
def u6V(n:Int):V:=.c (.p (.i .u64 n))
def eG(n:Int):Int:=if n<0 then -n else n
def iG(a b:Int):Int:=(Nat.gcd a.toNat b.toNat:Nat)
def frE(a b e:Int):V:=.t [.a [.p (.i .i64 a),.p (.i .i64 b)],.c (.p (.i .i64 e))]
def kL(n d:Int):Bool:=decide (1≤d)&&decide (d≤4611686018427387904)&&decide (-4611686018427387904≤n)&&decide (n≤4611686018427387904)&&decide (iG (eG n) d=1)
def FN:Mod
 |[.c (.p (.s s))]=>some (True,bV (iH s))
 |_=>none
def NE:Mod
 |[.c (.p (.s s))]=>some (True,bV (jG s))
 |_=>none
def aE8:Mod
 |[.c (.p (.i .i64 n))]=>some (inR .i64 n,u6V (eG n))
 |_=>none
def NG:Mod
 |[.c (.p (.i .u64 a)),.c (.p (.i .u64 b))]=>some (0≤a∧0≤b,u6V (iG a b))
 |_=>none
def aEN:Mod
 |[.c (.p (.i .i64 n))]=>some (-9223372036854775807≤n∧n≤9223372036854775807,iV (eG n))
 |_=>none
def aEH:Mod
 |[.c (.p (.i .i64 a)),.c (.p (.i .i64 b))]=>some (0≤a∧0≤b,iV (iG a b))
 |_=>none
def HY(n d:Int):Int:=if eG n>9223372036854775807∨eG n / iG (eG n) d>4611686018427387904∨d / iG (eG n) d>4611686018427387904 then 0 else if n<0 then -(eG n / iG (eG n) d) else eG n / iG (eG n) d
def HZ(n d:Int):Int:=if eG n>9223372036854775807∨eG n / iG (eG n) d>4611686018427387904∨d / iG (eG n) d>4611686018427387904 then 0 else d / iG (eG n) d
def QJ(n d:Int):Int:=if eG n>9223372036854775807∨eG n / iG (eG n) d>4611686018427387904∨d / iG (eG n) d>4611686018427387904 then 5 else 0
def aEE:Mod
 |[.c (.p (.i .i64 n)),.c (.p (.i .i64 d))]=>some (inR .i64 n∧inR .i64 d∧1≤d,frE (HY n d) (HZ n d) (QJ n d))
 |_=>none
def qK:Mod
 |[.a [.p (.i .i64 n),.p (.i .i64 d)]]=>some (inR .i64 n∧inR .i64 d,bV (kL n d))
 |_=>none
def aLI:Ext:=fB [(108,aE8),(109,NG)]
def aL5:Ext:=fB [(81,aEE)]
def aLN:Ext:=fB [(94,aEN),(93,aEH)]
theorem tSz(n:Int):cJ dX (cS Tryz.prog Tryz.f108) (iR Tryz.f108 [iV n]) (cP [] (bB Tryz.prog Tryz.f108))=bT (decide (n<0)) (.done .ret (St.mk [V.c (C.p (PV.i dU (dU.wrap (-dU.wrap n))))] [])) (.done .ret (St.mk [V.c (C.p (PV.i dU (dU.wrap n)))] [])):=by kernel_rfl
theorem aW8(a b:Int):cJ dX (dH 1 (cS Tryz.prog Tryz.f109)) (iR Tryz.f109 [u6V a,u6V b]) (cP (fO 14 [0,1]) (bB Tryz.prog Tryz.f109))=Tr.done X.normal
 (bU 14 [(0,.c (.p (.i dU a))),(1,.c (.p (.i dU b)))] []):=by kernel_rfl
theorem aW7(a b:Int):cJ dX (jZ (cS Tryz.prog Tryz.f109) 1) (bU 14 [(0,u6V a),(1,u6V b)] []) (cP (fO 14 [0,1]) (bB Tryz.prog Tryz.f109))=bT (b != 0)
 (.rq (0≤a∧0<b)
 (.done .normal
 (bU 14 [(0,.c (.p (.i dU b))),(1,.c (.p (.i dU (a%b))))] [])))
 (.done (.exit 0)
 (bU 14 [(0,.c (.p (.i dU a))),(1,.c (.p (.i dU b)))] [])):=by kernel_rfl
theorem aW6(a b:Int):cJ dX (bJ 2 (cS Tryz.prog Tryz.f109)) (bU 14 [(0,u6V a),(1,u6V b)] []) (cP [] (bB Tryz.prog Tryz.f109))=Tr.done X.ret (St.mk [V.c (C.p (PV.i dU a))] []):=by kernel_rfl
theorem tNw(n d:Int):cJ aLI (cS Tryz.prog Tryz.f81) (iR Tryz.f81 [iV n,iV d]) (cP [] (bB Tryz.prog Tryz.f81))=bT (d==0) (.done .ret (St.mk [V.t [V1.a [C.p (PV.i aA 0),C.p (PV.i aA 0)],V1.c (C.p (PV.i aA 6))]] []))
 (.rq (inR aA n)
 (.rq (inR aA d)
 (bT (decide (9223372036854775807<eG n)) (.done .ret (St.mk [V.t [V1.a [C.p (PV.i aA 0),C.p (PV.i aA 0)],V1.c (C.p (PV.i aA 5))]] []))
 (bT (decide (9223372036854775807<eG d)) (.done .ret (St.mk [V.t [V1.a [C.p (PV.i aA 0),C.p (PV.i aA 0)],V1.c (C.p (PV.i aA 5))]] []))
 (.rq (0≤eG n∧0≤eG d)
 (.rq (0≤eG n∧0<iG (eG n) (eG d)∧inR dU (eG n / iG (eG n) (eG d)))
 (.rq (0≤eG d∧0<iG (eG n) (eG d)∧inR dU (eG d / iG (eG n) (eG d)))
 (bT (decide (4611686018427387904<eG n / iG (eG n) (eG d)))
 (.done .ret (St.mk [V.t [V1.a [C.p (PV.i aA 0),C.p (PV.i aA 0)],V1.c (C.p (PV.i aA 5))]] []))
 (bT (decide (4611686018427387904<eG d / iG (eG n) (eG d)))
 (.done .ret (St.mk [V.t [V1.a [C.p (PV.i aA 0),C.p (PV.i aA 0)],V1.c (C.p (PV.i aA 5))]] []))
 (bT (!decide (n<0)==decide (d<0))
 (.rq (inR aA (-aA.wrap (eG n / iG (eG n) (eG d))))
 (.done .ret
 (St.mk [V.t [V1.a [C.p (PV.i aA (-aA.wrap (eG n / iG (eG n) (eG d)))),C.p (PV.i aA (aA.wrap (eG d / iG (eG n) (eG d))))],V1.c (C.p (PV.i aA 0))]] [])))
 (.done .ret
 (St.mk [V.t [V1.a [C.p (PV.i aA (aA.wrap (eG n / iG (eG n) (eG d)))),C.p (PV.i aA (aA.wrap (eG d / iG (eG n) (eG d))))],V1.c (C.p (PV.i aA 0))]] [])))))))))))):=by kernel_rfl
theorem tVl(n d:Int):cJ aL5 (cS Tryz.prog Tryz.f46) (iR Tryz.f46 [.a [.p (.i .i64 n),.p (.i .i64 d)]]) (cP [] (bB Tryz.prog Tryz.f46))=bT (decide (d<1)) (.done .ret (St.mk [V.c (C.p (PV.b false))] []))
 (.rq (inR aA n∧inR aA d∧1≤d)
 (bT (QJ n d==0)
 (.done .ret
 (St.mk [V.c (C.p (PV.b (match false with|true => !(n==HY n d&&(d==HZ n d&&true))|false=>n==HY n d&&(d==HZ n d&&true))))] []))
 (.done .ret (St.mk [V.c (C.p (PV.b false))] [])))):=by kernel_rfl
theorem tAb(n:Int):cJ dX (cS Tryz.prog Tryz.f94) (iR Tryz.f94 [iV n]) (cP [] (bB Tryz.prog Tryz.f94))=bT (decide (n<0)) (.rq (inR aA (-n)) (.done .ret (St.mk [V.c (C.p (PV.i aA (-n)))] []))) (.done .ret (St.mk [V.c (C.p (PV.i aA n))] [])):=by kernel_rfl
theorem aVM(a b:Int):cJ dX (dH 1 (cS Tryz.prog Tryz.f93)) (iR Tryz.f93 [iV a,iV b]) (cP (fO 12 [0,1]) (bB Tryz.prog Tryz.f93))=Tr.done X.normal
 (bU 12 [(0,.c (.p (.i .i64 a))),(1,.c (.p (.i .i64 b)))] []):=by kernel_rfl
theorem aVL(a b:Int):cJ dX (jZ (cS Tryz.prog Tryz.f93) 1) (bU 12 [(0,iV a),(1,iV b)] []) (cP (fO 12 [0,1]) (bB Tryz.prog Tryz.f93))=bT (b != 0)
 (.rq (0≤a∧0<b)
 (.done .normal
 (bU 12 [(0,.c (.p (.i .i64 b))),(1,.c (.p (.i .i64 (a%b))))] [])))
 (.done (.exit 0)
 (bU 12 [(0,.c (.p (.i .i64 a))),(1,.c (.p (.i .i64 b)))] [])):=by kernel_rfl
theorem aVK(a b:Int):cJ dX (bJ 2 (cS Tryz.prog Tryz.f93)) (bU 12 [(0,iV a),(1,iV b)] []) (cP [] (bB Tryz.prog Tryz.f93))=Tr.done X.ret (St.mk [V.c (C.p (PV.i aA a))] []):=by kernel_rfl
theorem tFv(n d:Int):cJ aLN (cS Tryz.prog Tryz.f61) (iR Tryz.f61 [.a [.p (.i .i64 n),.p (.i .i64 d)]]) (cP [] (bB Tryz.prog Tryz.f61))=bT (decide (d<1)) (.done .ret (St.mk [V.c (C.p (PV.b false))] []))
 (bT (decide (4611686018427387904<d)) (.done .ret (St.mk [V.c (C.p (PV.b false))] []))
 (bT (decide (n < -4611686018427387904)) (.done .ret (St.mk [V.c (C.p (PV.b false))] []))
 (bT (decide (4611686018427387904<n)) (.done .ret (St.mk [V.c (C.p (PV.b false))] []))
 (.rq (-9223372036854775807≤n∧n≤9223372036854775807) (.rq (0≤eG n∧0≤d) (.done .ret (St.mk [V.c (C.p (PV.b (iG (eG n) d==1)))] []))))))):=by kernel_rfl
theorem bA{p q:Prop}{v u:V}(e:some (p,v)=some (q,u)):p=q∧v=u:=by
 injection e with e;injection e with h1 h2;exact⟨h1,h2⟩
theorem OJ(n:Int):0≤eG n:=by unfold eG;split<;>omega
theorem KI{a b:Int}(ha:0≤a)(hb:0<b):iG b (a%b)=iG a b:=by
 unfold iG;obtain⟨x,rfl⟩:=dQ ha;obtain⟨y,rfl⟩:=dQ (Int.le_of_lt hb);rw[show ((x:Int)%(y:Int)).toNat=x%y by omega];simp only[Int.toNat_natCast];rw[Nat.gcd_comm x y,Nat.gcd_rec y x,Nat.gcd_comm]
theorem KH{a:Int}(ha:0≤a):iG a 0=a:=by
 unfold iG;simp;omega
theorem QZ{a b:Int}(hb:0<b):0<iG a b:=by
 unfold iG
 have:0<Nat.gcd a.toNat b.toNat:=Nat.gcd_pos_of_pos_right _ (by omega)
 omega
theorem RA{a b:Int}(ha:0≤a)(hb:0≤b):iG a b∣a∧iG a b∣b:=by
 unfold iG;obtain⟨x,rfl⟩:=dQ ha;obtain⟨y,rfl⟩:=dQ hb;simp only[Int.toNat_natCast];exact⟨Int.natCast_dvd_natCast.2 (Nat.gcd_dvd_left x y),Int.natCast_dvd_natCast.2 (Nat.gcd_dvd_right x y)⟩
theorem uY{a g:Int}(ha:0≤a)(hg:0<g):0≤a / g∧a / g≤a:=⟨Int.ediv_nonneg ha (Int.le_of_lt hg),Int.ediv_le_self g ha⟩
theorem SC{a g:Int}(ha:0<a)(hg:0<g)(hd:g∣a):a / g=a↔g=1:=by
 refine⟨fun h=>?_,fun h=>by subst h;simp⟩;obtain⟨k,rfl⟩:=hd;rw[Int.mul_ediv_cancel_left _ (by omega)]at h
 have hk:0<k:=by
  rcases Int.lt_or_le 0 k with q|q
  ·exact q
  ·have:=Int.mul_nonpos_of_nonneg_of_nonpos (Int.le_of_lt hg) q;omega
 apply Classical.byContradiction;intro hne
 have:=Int.mul_le_mul_of_nonneg_right (show 2≤g by omega) (Int.le_of_lt hk)
 omega
section
variable {G:Nat→Option Obj}
theorem MU:dD Tryz.prog G 60 FN:=by
 intro args p v hm hp h;unfold FN at hm
 split at hm;rotate_left;· cases hm
 rename_i s;obtain⟨rfl,rfl⟩:=bA hm;refine GJ rfl ?_ h;intro R w vs hr hg ha
 obtain⟨u,l,e,hu,ha⟩:=All2.nth2 ha;obtain rfl:=All2.nil2 ha
 have hu:u=.string s:=hu
 subst hu;cases vs;rename_i lv_
 have e:lv_=_:=e
 subst e;refine(aB3 s w).mono ?_;rintro e w' ⟨rfl,hb⟩;exact⟨_,rfl,rfl,hb⟩
theorem aDQ:dD Tryz.prog G 156 NE:=by
 intro args p v hm hp h;unfold NE at hm
 split at hm;rotate_left;· cases hm
 rename_i s;obtain⟨rfl,rfl⟩:=bA hm;refine GJ rfl ?_ h;intro R w vs hr hg ha
 obtain⟨u,l,e,hu,ha⟩:=All2.nth2 ha;obtain rfl:=All2.nil2 ha
 have hu:u=.string s:=hu
 subst hu;cases vs;rename_i lv_
 have e:lv_=_:=e
 subst e;refine(VH s w).mono ?_;rintro e w' ⟨rfl,hb⟩;exact⟨_,rfl,rfl,hb⟩
set_option maxRecDepth 100000 in
theorem aMU:dD Tryz.prog G 108 aE8:=by
 intro args p v hm hp h;unfold aE8 at hm
 split at hm;rotate_left;· cases hm
 rename_i n;obtain⟨rfl,rfl⟩:=bA hm;clear hm
 refine fR Tryz.func108 (by kernel_rfl) rfl ?_ h
 refine cO.evH aT (tSz n) ?_;simp only[bD,aI,bK,decide_eq_true_eq,decide_eq_false_iff_not]
 have hw:∀m:Int,dU.wrap m=m%18446744073709551616:=fun m=>by rw[IntKind.wrap_u64]
 simp only[inR]at hp;refine⟨fun h1=>⟨eL.of_eq ?_⟩,fun h1=>⟨eL.of_eq ?_⟩⟩
 ·have:dU.wrap (-dU.wrap n)=eG n:=by
    rw[hw,hw];unfold eG;rw[if_pos h1];omega
  rw[this];rfl
 ·have:dU.wrap n=eG n:=by
    rw[hw];unfold eG;rw[if_neg h1];omega
  rw[this];rfl
set_option maxRecDepth 100000 in
theorem aDV:dD Tryz.prog G 109 NG:=by
 intro args p v hm hp h;unfold NG at hm
 split at hm;rotate_left;· cases hm
 rename_i a b;obtain⟨rfl,rfl⟩:=bA hm;clear hm
 refine fR Tryz.func109 (by kernel_rfl) rfl ?_ h
 refine cO.evG aT 1 (aW8 a b) ?_;simp only[aI,aZ];refine⟨?_⟩
 refine cO.loop' (l:=bJ 1 (cS Tryz.prog Tryz.f109)) (b:=inr (inr (bN .skip (cS Tryz.prog Tryz.f109) 1))) (r:=bJ 2 (cS Tryz.prog Tryz.f109)) (id:=0) (by kernel_rfl) (σ:=Int×Int)
   (fun x=>(fun a b=>bU 14 [(0,u6V a),(1,u6V b)] []) x.1 x.2) (fun x=>0≤x.1∧0≤x.2∧iG x.1 x.2=iG a b) (fun x=>x.2.toNat) (a,b) ⟨hp.1,hp.2,rfl⟩ (aP (by kernel_rfl)) ?_
 rintro⟨x,y⟩ ⟨hx,hy,hg⟩ Q1 q1n q1e -;dsimp only at hx hy hg q1n q1e ⊢;refine cO.evH aT (aW7 x y) ?_;simp only[bD,aS,aI,aZ,fE,bne_iff_ne,bne_eq_false_iff_eq,ne_eq]
 refine⟨fun h1=>⟨by omega,⟨q1n (y,x%y) _ ⟨hy,Int.emod_nonneg _ (by omega),?_⟩ ?_ (aP (by kernel_rfl))⟩⟩,fun h1=>⟨q1e _ ?_⟩⟩
 ·simp only
  rw[KI hx (by omega),hg]
 ·simp only
  have:=Int.emod_lt_of_pos x (show 0<y by omega)
  have:=Int.emod_nonneg x (show y≠0 by omega)
  omega
 ·subst h1
  rw[KH hx]at hg;subst hg;refine cO.evH aT (aW6 (iG a b) 0) ?_;simp only[aI,bK];exact⟨eL.refl _⟩
set_option maxRecDepth 100000 in
theorem aND:dD Tryz.prog G 93 aEH:=by
 intro args p v hm hp h;unfold aEH at hm
 split at hm;rotate_left;· cases hm
 rename_i a b;obtain⟨rfl,rfl⟩:=bA hm;clear hm
 refine fR Tryz.func93 (by kernel_rfl) rfl ?_ h
 refine cO.evG aT 1 (aVM a b) ?_;simp only[aI,aZ];refine⟨?_⟩
 refine cO.loop' (l:=bJ 1 (cS Tryz.prog Tryz.f93)) (b:=inr (inr (bN .skip (cS Tryz.prog Tryz.f93) 1))) (r:=bJ 2 (cS Tryz.prog Tryz.f93)) (id:=0) (by kernel_rfl) (σ:=Int×Int)
   (fun x=>(fun a b=>bU 12 [(0,iV a),(1,iV b)] []) x.1 x.2) (fun x=>0≤x.1∧0≤x.2∧iG x.1 x.2=iG a b) (fun x=>x.2.toNat) (a,b) ⟨hp.1,hp.2,rfl⟩ (aP (by kernel_rfl)) ?_
 rintro⟨x,y⟩ ⟨hx,hy,hg⟩ Q1 q1n q1e -;dsimp only at hx hy hg q1n q1e ⊢;refine cO.evH aT (aVL x y) ?_;simp only[bD,aS,aI,aZ,fE,bne_iff_ne,bne_eq_false_iff_eq,ne_eq]
 refine⟨fun h1=>⟨by omega,⟨q1n (y,x%y) _ ⟨hy,Int.emod_nonneg _ (by omega),?_⟩ ?_ (aP (by kernel_rfl))⟩⟩,fun h1=>⟨q1e _ ?_⟩⟩
 ·simp only
  rw[KI hx (by omega),hg]
 ·simp only
  have:=Int.emod_lt_of_pos x (show 0<y by omega)
  have:=Int.emod_nonneg x (show y≠0 by omega)
  omega
 ·subst h1
  rw[KH hx]at hg;subst hg;refine cO.evH aT (aVK (iG a b) 0) ?_;simp only[aI,bK];exact⟨eL.refl _⟩
set_option maxRecDepth 100000 in
theorem aNP:dD Tryz.prog G 94 aEN:=by
 intro args p v hm hp h;unfold aEN at hm
 split at hm;rotate_left;· cases hm
 rename_i n;obtain⟨rfl,rfl⟩:=bA hm;clear hm
 refine fR Tryz.func94 (by kernel_rfl) rfl ?_ h
 refine cO.evH aT (tAb n) ?_;simp only[bD,aS,aI,bK,decide_eq_true_eq,decide_eq_false_iff_not,inR];refine⟨fun h1=>⟨by omega,⟨eL.of_eq ?_⟩⟩,fun h1=>⟨eL.of_eq ?_⟩⟩
 ·unfold eG;rw[if_pos h1];rfl
 ·unfold eG;rw[if_neg h1];rfl
theorem RM:bO Tryz.prog G aLI:=cD (by simp;exact⟨aMU,aDV⟩)
theorem RP:bO Tryz.prog G aLN:=cD (by simp;exact⟨aNP,aND⟩)
set_option maxRecDepth 100000 in
theorem aN7:dD Tryz.prog G 81 aEE:=by
 intro args p v hm hp h;unfold aEE at hm
 split at hm;rotate_left;· cases hm
 rename_i n d;obtain⟨rfl,rfl⟩:=bA hm;clear hm;obtain⟨hn0,hd0,hd1⟩:=hp
 have hd:eG d=d:=by unfold eG;rw[if_neg (by omega)]
 have hn:=OJ n
 refine fR Tryz.func81 (by kernel_rfl) rfl ?_ h
 refine cO.evH RM (tNw n d) ?_;rw[hd]
 have hg:=QZ (a:=eG n) (show 0<d by omega)
 obtain⟨v1,v2⟩:=RA hn (show 0≤d by omega)
 have q1:=uY hn hg
 have q2:=uY (show 0≤d by omega) hg
 have bad:eG n>9223372036854775807∨eG n / iG (eG n) d>4611686018427387904∨d / iG (eG n) d>4611686018427387904→mX (eL (V.t [V1.a [C.p (PV.i aA 0),C.p (PV.i aA 0)],V1.c (C.p (PV.i aA 5))]) (frE (HY n d) (HZ n d) (QJ n d))):=fun hb=>
  ⟨eL.of_eq (by unfold HY HZ QJ;rw[if_pos hb,if_pos hb,if_pos hb];rfl)⟩
 have good:∀a b:Int,¬(eG n>9223372036854775807∨eG n / iG (eG n) d>4611686018427387904∨d / iG (eG n) d>4611686018427387904)→a=(if n<0 then -(eG n / iG (eG n) d) else eG n / iG (eG n) d)→b=d / iG (eG n) d→mX (eL (V.t [V1.a [C.p (PV.i aA a),C.p (PV.i aA b)],V1.c (C.p (PV.i aA 0))]) (frE (HY n d) (HZ n d) (QJ n d))):=fun a b hb ea eb=>
  ⟨eL.of_eq (by unfold HY HZ QJ;rw[if_neg hb,if_neg hb,if_neg hb,ea,eb];rfl)⟩
 have hlt:decide (d<0)=false:=decide_eq_false (by omega)
 have hab:eG n≤9223372036854775808:=by simp only[inR]at hn0;unfold eG;split<;>omega
 simp only[inR]at hn0 hd0;simp only[bD,aS,aI,bK,decide_eq_true_eq,decide_eq_false_iff_not,beq_iff_eq,beq_eq_false_iff_ne,ne_eq,inR,hlt,Int.not_lt]
 generalize iG (eG n) d=g at *
 have w1:eG n / g≤4611686018427387904→aA.wrap (eG n / g)=eG n / g:=fun h=>wrap_in (k:=.i64) (by simp only[inR];omega)
 have w2:d / g≤4611686018427387904→aA.wrap (d / g)=d / g:=fun h=>wrap_in (k:=.i64) (by simp only[inR];omega)
 refine⟨fun h1=>by omega,fun _=>⟨hn0,hd0,fun h1=>bad (.inl h1),fun c1=>⟨fun h1=>by omega,fun _=>⟨⟨by omega,by omega⟩,⟨by omega,by omega,by omega,by omega⟩,⟨by omega,by omega,by omega,by omega⟩,fun h1=>bad (.inr (.inl h1)),fun c2=>⟨fun h1=>bad (.inr (.inr h1)),fun c3=>⟨fun h1=>⟨?_,good _ _ (by omega) ?_ (w2 c3)⟩,fun h1=>good _ _ (by omega) ?_ (w2 c3)⟩⟩⟩⟩⟩⟩
 ·rw[w1 c2];omega
 ·have hnn:n<0:=by simpa using h1
  rw[if_pos hnn,w1 c2]
 ·have hnn:¬n<0:=by simpa using h1
  rw[if_neg hnn,w1 c2]
theorem RG:bO Tryz.prog G aL5:=cD (by simp;exact aN7)
set_option maxRecDepth 100000 in
theorem PS:dD Tryz.prog G 46 qK:=by
 intro args p v hm hp h;unfold qK at hm
 split at hm;rotate_left;· cases hm
 rename_i n d;obtain⟨rfl,rfl⟩:=bA hm;clear hm
 refine fR Tryz.func46 (by kernel_rfl) rfl ?_ h
 refine cO.evH RG (tVl n d) ?_;simp only[bD,aS,aI,bK,decide_eq_true_eq,decide_eq_false_iff_not];obtain⟨hn0,hd0⟩:=hp;refine⟨fun h1=>⟨eL.of_eq ?_⟩,fun h1=>⟨⟨hn0,hd0,by omega⟩,fun h2=>⟨eL.of_eq ?_⟩,fun h2=>⟨eL.of_eq ?_⟩⟩⟩
 ·have:kL n d=false:=by unfold kL;rw[decide_eq_false (show ¬1≤d by omega)];rfl
  rw[this];rfl
 all_goals
  have hn:=OJ n
  have hg:=QZ (a:=eG n) (show 0<d by omega)
  obtain⟨v1,v2⟩:=RA hn (show 0≤d by omega)
  have q1:=uY hn hg
  have q2:=uY (show 0≤d by omega) hg
  have hgd:=SC (show 0<d by omega) hg v2
  simp only[inR]at hn0 hd0
 ·have hc:¬(eG n>9223372036854775807∨eG n / iG (eG n) d>4611686018427387904∨d / iG (eG n) d>4611686018427387904):=by
    intro hc;unfold QJ at h2;rw[if_pos hc]at h2;cases h2
  have e:(n==HY n d&&(d==HZ n d&&true))=kL n d:=by
   unfold HY HZ kL;rw[if_neg hc,if_neg hc,dT];simp only[aY,beq_iff_eq,Bool.and_true,decide_eq_true_eq]
   generalize iG (eG n) d=g at *
   constructor
   ·rintro⟨e1,e2⟩
    have hg1:=hgd.1 e2.symm
    subst hg1;simp only[Int.ediv_one]at hc;unfold eG at hc;split at hc<;>exact⟨⟨⟨⟨by omega,by omega⟩,by omega⟩,by omega⟩,rfl⟩
   ·rintro⟨⟨⟨⟨_,e1⟩,e2⟩,e3⟩,e4⟩
    subst e4;simp only[Int.ediv_one];refine⟨?_,trivial⟩;unfold eG;split<;>omega
  show V.c (C.p (PV.b (n==HY n d&&(d==HZ n d&&true))))=_
  rw[e];rfl
 ·have hc:eG n>9223372036854775807∨eG n / iG (eG n) d>4611686018427387904∨d / iG (eG n) d>4611686018427387904:=by
    apply Classical.byContradiction;intro hc
    unfold QJ at h2;rw[if_neg hc]at h2;cases h2
  have:kL n d=false:=by
   rw[←gX];intro hv
   unfold kL at hv;simp only[aY,decide_eq_true_eq]at hv;obtain⟨⟨⟨⟨_,e1⟩,e2⟩,e3⟩,e4⟩:=hv;rw[e4]at hc;simp only[Int.ediv_one]at hc;unfold eG at hc;split at hc<;>omega
  rw[this];rfl
set_option maxRecDepth 100000 in
theorem PT:dD Tryz.prog G 61 qK:=by
 intro args p v hm hp h;unfold qK at hm
 split at hm;rotate_left;· cases hm
 rename_i n d;obtain⟨rfl,rfl⟩:=bA hm;clear hm
 refine fR Tryz.func61 (by kernel_rfl) rfl ?_ h
 refine cO.evH RP (tFv n d) ?_
 have hn:=OJ n
 simp only[bD,aS,aI,bK,decide_eq_true_eq,decide_eq_false_iff_not]
 have bad:¬(1≤d∧d≤4611686018427387904 ∧ -4611686018427387904≤n∧n≤4611686018427387904)→mX (eL (V.c (C.p (PV.b false))) (bV (kL n d))):=fun hb=>by
  have:kL n d=false:=by
   rw[←gX];intro hv
   unfold kL at hv;simp only[aY,decide_eq_true_eq]at hv;obtain⟨⟨⟨⟨e0,e1⟩,e2⟩,e3⟩,e4⟩:=hv;exact hb ⟨e0,e1,e2,e3⟩
  rw[this];exact⟨eL.refl _⟩
 refine⟨fun c=>bad (by omega),fun c1=>⟨fun c=>bad (by omega),fun c2=>⟨fun c=>bad (by omega),fun c3=>⟨fun c=>bad (by omega),fun c4=>⟨by omega,⟨by omega,by omega⟩,⟨eL.of_eq ?_⟩⟩⟩⟩⟩⟩
 have:kL n d=(iG (eG n) d==1):=by
  unfold kL;rw[decide_eq_true (show 1≤d by omega),decide_eq_true (show d≤4611686018427387904 by omega),decide_eq_true (show -4611686018427387904≤n by omega),decide_eq_true (show n≤4611686018427387904 by omega)];rw[dT];simp
 rw[this];rfl
end
abbrev Mt:=ByteArray×Int×ByteArray
def bY(m:Mt)(o:Nat):PV:=match o with
 |0=>.s m.1
 |1=>.i .i64 m.2.1
 |_=>.s m.2.2
inductive Ey where
 |mk (kd fu wi off k n d:Int) (nm:ByteArray) (ms:List Mt) (by_:List ByteArray) (kids:List Ey)
instance:Inhabited Ey:=⟨.mk 0 0 0 0 0 0 0 ⟨#[]⟩ [] [] []⟩
def kQ(wi off:Int)(nm:ByteArray)(m:Nat):Bool:=decide (wi=0)&&decide (off=0)&&decide (nm=⟨#[]⟩)&&decide (m=0)
def iS(kd fu k n d:Int)(ns:Bool)(b c:Nat):Bool:=
 if kd=0 then decide (fu=0)&&decide (c=0)&&ns&&decide (k=0)&&decide (b=0)&&kL n d
 else if kd=1 then decide (0≤fu)&&decide (fu≤7)&&decide (c=0)&&decide (n=0)&&decide (d=0)&&decide (b=0)
 else if kd=2 then decide (0≤fu)&&decide (fu≤4)&&decide (c=1)&&decide (n=0)&&decide (d=0)&&ns
 else if kd=3 then decide (0≤fu)&&decide (fu≤3)&&decide (c=2)&&decide (n=0)&&decide (d=0)&&ns&&decide (k=0)&&decide (b=0)
 else false
def lU(kd fu wi off k:Int)(o:Bool):Bool:=
 if kd=1 then if off<0∨4096<off then false else if fu=0 then decide (wi=0)&&decide (k=0) else if wi<1∨4096<wi then false else if fu=7 then decide (1≤k)&&decide (k≤wi) else decide (k=0)
 else if kd=2 then if fu=4 then decide (1≤k)&&decide (k≤4096) else decide (k=0)
 else o
def uU:Mod
 |[.a [.p (.i .i64 kd),.p (.i .i64 fu),.p (.i .i64 wi),.p (.i .i64 off),.p (.i .i64 k),.p (.i .i64 n),.p (.i .i64 d),.p (.s nm),.p (.l 3 m f),.p (.l 1 b g),.p (.l 11 c e)]]=>some (inR .i64 n∧inR .i64 d,bV (iS kd fu k n d (kQ wi off nm m) b c))
 |_=>none
def NB:Mod
 |[.a [.p (.i .i64 kd),.p (.i .i64 fu),.p (.i .i64 wi),.p (.i .i64 off),.p (.i .i64 k),.p (.i .i64 n),.p (.i .i64 d),.p (.s nm),.p (.l 3 m f),.p (.l 1 b g),.p (.l 11 c e)]]=>some (True,bV (lU kd fu wi off k true))
 |_=>none
def MZ:Mod
 |[.a [.p (.i .i64 kd),.p (.i .i64 fu),.p (.i .i64 wi),.p (.i .i64 off),.p (.i .i64 k),.p (.i .i64 n),.p (.i .i64 d),.p (.s nm),.p (.l 3 m f),.p (.l 1 b g),.p (.l 11 c e)]]=>some (True,bV (lU kd fu wi off k (decide (k=0))))
 |_=>none
def aFQ:Ext:=fB [(61,qK)]
def KP:Ext:=fB [(46,qK)]
theorem aPN(kd fu wi off k n d:Int)(nm:ByteArray)(m:Nat)(f:Nat→Nat→PV)(b:Nat)(g:Nat→Nat→PV)(c:Nat)(e:Nat→Nat→PV):cJ aFQ (dH 2 (cS Tryz.prog Tryz.f114)) (iR Tryz.f114 [.a (cF kd fu wi off k n d nm m f b g c e)]) (cP (fO 140 [1,3]) (bB Tryz.prog Tryz.f114))=bT (wi==0)
 (bT (off==0)
 (bT (nm.toList==(aO #[]).toList)
 (.done .normal
 (bU 140 [(1,.c (.ptr 0 0)),(3,.c (.p (.b ((↑m:Int)==0))))] [.cells 33 (cF kd fu wi off k n d nm m f b g c e)]))
 (.done .normal
 (bU 140 [(1,.c (.ptr 0 0)),(3,.c (.p (.b false)))] [.cells 33 (cF kd fu wi off k n d nm m f b g c e)])))
 (.done .normal
 (bU 140 [(1,.c (.ptr 0 0)),(3,.c (.p (.b false)))] [.cells 33 (cF kd fu wi off k n d nm m f b g c e)])))
 (.done .normal
 (bU 140 [(1,.c (.ptr 0 0)),(3,.c (.p (.b false)))] [.cells 33 (cF kd fu wi off k n d nm m f b g c e)])):=by kernel_rfl
theorem aPM(kd fu wi off k n d:Int)(nm:ByteArray)(m:Nat)(f:Nat→Nat→PV)(b:Nat)(g:Nat→Nat→PV)(c:Nat)(e:Nat→Nat→PV)(ns:Bool):cJ aFQ (bJ 2 (cS Tryz.prog Tryz.f114)) (bU 140 [(1,.c (.ptr 0 0)),(3,bV ns)] [.cells 33 (cF kd fu wi off k n d nm m f b g c e)]) (cP [] (bB Tryz.prog Tryz.f114))=bT (kd==0)
 (bT (fu==0)
 (bT ((↑c:Int)==0)
 (bT ns
 (bT (k==0)
 (bT ((↑b:Int)==0) (.rq (inR aA n∧inR aA d) (.done .ret (St.mk [V.c (C.p (PV.b (kL n d)))] []))) (.done .ret (St.mk [V.c (C.p (PV.b false))] [])))
 (.done .ret (St.mk [V.c (C.p (PV.b false))] [])))
 (.done .ret (St.mk [V.c (C.p (PV.b false))] [])))
 (.done .ret (St.mk [V.c (C.p (PV.b false))] [])))
 (.done .ret (St.mk [V.c (C.p (PV.b false))] [])))
 (bT (kd==1)
 (bT (decide (0≤fu))
 (bT (decide (fu≤7))
 (bT ((↑c:Int)==0)
 (bT
 (match false with
 |true => !(n==0&&(d==0&&true))
 |false=>n==0&&(d==0&&true))
 (.done .ret (St.mk [V.c (C.p (PV.b ((↑b:Int)==0)))] [])) (.done .ret (St.mk [V.c (C.p (PV.b false))] [])))
 (.done .ret (St.mk [V.c (C.p (PV.b false))] [])))
 (.done .ret (St.mk [V.c (C.p (PV.b false))] [])))
 (.done .ret (St.mk [V.c (C.p (PV.b false))] [])))
 (bT (kd==2)
 (bT (decide (0≤fu))
 (bT (decide (fu≤4))
 (bT ((↑c:Int)==1)
 (bT
 (match false with
 |true => !(n==0&&(d==0&&true))
 |false=>n==0&&(d==0&&true))
 (.done .ret (St.mk [V.c (C.p (PV.b ns))] [])) (.done .ret (St.mk [V.c (C.p (PV.b false))] [])))
 (.done .ret (St.mk [V.c (C.p (PV.b false))] [])))
 (.done .ret (St.mk [V.c (C.p (PV.b false))] [])))
 (.done .ret (St.mk [V.c (C.p (PV.b false))] [])))
 (bT (kd==3)
 (bT (decide (0≤fu))
 (bT (decide (fu≤3))
 (bT ((↑c:Int)==2)
 (bT
 (match false with
 |true => !(n==0&&(d==0&&true))
 |false=>n==0&&(d==0&&true))
 (bT ns (bT (k==0) (.done .ret (St.mk [V.c (C.p (PV.b ((↑b:Int)==0)))] [])) (.done .ret (St.mk [V.c (C.p (PV.b false))] [])))
 (.done .ret (St.mk [V.c (C.p (PV.b false))] [])))
 (.done .ret (St.mk [V.c (C.p (PV.b false))] [])))
 (.done .ret (St.mk [V.c (C.p (PV.b false))] [])))
 (.done .ret (St.mk [V.c (C.p (PV.b false))] [])))
 (.done .ret (St.mk [V.c (C.p (PV.b false))] [])))
 (.done .ret (St.mk [V.c (C.p (PV.b false))] []))))):=by kernel_rfl
theorem aTV(kd fu wi off k n d:Int)(nm:ByteArray)(m:Nat)(f:Nat→Nat→PV)(b:Nat)(g:Nat→Nat→PV)(c:Nat)(e:Nat→Nat→PV):cJ dX (cS Tryz.prog Tryz.f116) (iR Tryz.f116 [.a (cF kd fu wi off k n d nm m f b g c e)]) (cP [] (bB Tryz.prog Tryz.f116))=bT (kd==1)
 (bT (decide (off<0)) (.done .ret (St.mk [V.c (C.p (PV.b false))] []))
 (bT (decide (4096<off)) (.done .ret (St.mk [V.c (C.p (PV.b false))] []))
 (bT (fu==0) (bT (wi==0) (.done .ret (St.mk [V.c (C.p (PV.b (k==0)))] [])) (.done .ret (St.mk [V.c (C.p (PV.b false))] [])))
 (bT (decide (wi<1)) (.done .ret (St.mk [V.c (C.p (PV.b false))] []))
 (bT (decide (4096<wi)) (.done .ret (St.mk [V.c (C.p (PV.b false))] []))
 (bT (fu==7) (bT (decide (1≤k)) (.done .ret (St.mk [V.c (C.p (PV.b (decide (k≤wi))))] [])) (.done .ret (St.mk [V.c (C.p (PV.b false))] [])))
 (.done .ret (St.mk [V.c (C.p (PV.b (k==0)))] []))))))))
 (bT (kd==2)
 (bT (fu==4) (bT (decide (1≤k)) (.done .ret (St.mk [V.c (C.p (PV.b (decide (k≤4096))))] [])) (.done .ret (St.mk [V.c (C.p (PV.b false))] [])))
 (.done .ret (St.mk [V.c (C.p (PV.b (k==0)))] [])))
 (.done .ret (St.mk [V.c (C.p (PV.b true))] []))):=by kernel_rfl
theorem aS6(kd fu wi off k n d:Int)(nm:ByteArray)(m:Nat)(f:Nat→Nat→PV)(b:Nat)(g:Nat→Nat→PV)(c:Nat)(e:Nat→Nat→PV):cJ dX (cS Tryz.prog Tryz.f112) (iR Tryz.f112 [.a (cF kd fu wi off k n d nm m f b g c e)]) (cP [] (bB Tryz.prog Tryz.f112))=bT (kd==1)
 (bT (decide (off<0)) (.done .ret (St.mk [V.c (C.p (PV.b false))] []))
 (bT (decide (4096<off)) (.done .ret (St.mk [V.c (C.p (PV.b false))] []))
 (bT (fu==0) (bT (wi==0) (.done .ret (St.mk [V.c (C.p (PV.b (k==0)))] [])) (.done .ret (St.mk [V.c (C.p (PV.b false))] [])))
 (bT (decide (wi<1)) (.done .ret (St.mk [V.c (C.p (PV.b false))] []))
 (bT (decide (4096<wi)) (.done .ret (St.mk [V.c (C.p (PV.b false))] []))
 (bT (fu==7) (bT (decide (1≤k)) (.done .ret (St.mk [V.c (C.p (PV.b (decide (k≤wi))))] [])) (.done .ret (St.mk [V.c (C.p (PV.b false))] [])))
 (.done .ret (St.mk [V.c (C.p (PV.b (k==0)))] []))))))))
 (bT (kd==2)
 (bT (fu==4) (bT (decide (1≤k)) (.done .ret (St.mk [V.c (C.p (PV.b (decide (k≤4096))))] [])) (.done .ret (St.mk [V.c (C.p (PV.b false))] [])))
 (.done .ret (St.mk [V.c (C.p (PV.b (k==0)))] [])))
 (.done .ret (St.mk [V.c (C.p (PV.b (k==0)))] []))):=by kernel_rfl
theorem iN(x y:ByteArray):(x.toList==y.toList)=decide (x=y):=by
 rw[dT];simp only[beq_iff_eq,decide_eq_true_eq];refine⟨fun h=>?_,fun h=>by rw[h]⟩;rw[gJ,gJ]at h;cases x;cases y;simp only[aO.injEq];exact Array.ext' h
theorem mV(m j:Nat):((m:Int)==(j:Int))=decide (m=j):=by
 rw[dT];simp only[beq_iff_eq,decide_eq_true_eq];omega
theorem pC{p q:Bool}(h:p=q):mX (eL (V.c (C.p (PV.b p))) (bV q)):=⟨eL.of_eq (by rw[h];rfl)⟩
section
variable {G:Nat→Option Obj}
theorem AZ:bO Tryz.prog G aFQ:=cD (by simp;exact PT)
set_option maxRecDepth 100000 in
theorem aDJ:dD Tryz.prog G 114 uU:=by
 intro args p v hm hp h;unfold uU at hm
 split at hm;rotate_left;· cases hm
 rename_i kd fu wi off k n d nm m f b g c e;obtain⟨rfl,rfl⟩:=bA hm;clear hm
 refine fR Tryz.func114 (by kernel_rfl) rfl ?_ h
 refine cO.evG AZ 2 (aPN kd fu wi off k n d nm m f b g c e) ?_
 have key:∀ns,ns=kQ wi off nm m→cO Tryz.prog G (bB Tryz.prog Tryz.f114) (bV (iS kd fu k n d (kQ wi off nm m) b c)) (bJ 2 (cS Tryz.prog Tryz.f114)) (bU 140 [(1,.c (.ptr 0 0)),(3,bV ns)] [.cells 33 (cF kd fu wi off k n d nm m f b g c e)]) (fun _ _=>False):=by
  rintro ns rfl
  generalize kQ wi off nm m=ns
  refine cO.evH AZ (aPM kd fu wi off k n d nm m f b g c e ns) ?_
  have e0:((c:Int)==0)=decide (c=0):=mV c 0
  have e1:((c:Int)==1)=decide (c=1):=mV c 1
  have e2:((c:Int)==2)=decide (c=2):=mV c 2
  have e3:((b:Int)==0)=decide (b=0):=mV b 0
  simp only[bD,aS,aI,bK,e0,e1,e2,e3,Bool.and_true,aY,Bool.and_eq_false_iff,beq_iff_eq,beq_eq_false_iff_ne,ne_eq,decide_eq_true_eq,decide_eq_false_iff_not]
  have hI:=hp
  clear hp h e0 e1 e2 e3;unfold iS
  repeat' (first|apply And.intro|intro _)
  all_goals first|exact hI.1.1|exact hI.1.2|exact hI.2.1|exact hI.2.2|(refine pC ?_;simp_all;done)|(refine pC ?_;simp_all;omega)
 have ek:∀x,(x:Int)=0→True:=fun _ _=>trivial
 have e3:((m:Int)==0)=decide (m=0):=mV m 0
 simp only[bD,aI,aZ,iN,e3,beq_iff_eq,beq_eq_false_iff_ne,ne_eq,decide_eq_true_eq,decide_eq_false_iff_not];refine⟨fun c1=>⟨fun c2=>⟨fun c3=>⟨key _ ?_⟩,fun c3=>⟨key _ ?_⟩⟩,fun c2=>⟨key _ ?_⟩⟩,fun c1=>⟨key _ ?_⟩⟩
 all_goals unfold kQ;simp_all
set_option maxRecDepth 100000 in
theorem aDL:dD Tryz.prog G 116 NB:=by
 intro args p v hm hp h;unfold NB at hm
 split at hm;rotate_left;· cases hm
 rename_i kd fu wi off k n d nm m f b g c e;obtain⟨rfl,rfl⟩:=bA hm;clear hm
 refine fR Tryz.func116 (by kernel_rfl) rfl ?_ h
 refine cO.evH aT (aTV kd fu wi off k n d nm m f b g c e) ?_
 have ek:(k==0)=decide (k=0):=by rw[dT];simp
 simp only[ek,bD,aS,aI,bK,beq_iff_eq,beq_eq_false_iff_ne,ne_eq,decide_eq_true_eq,decide_eq_false_iff_not];unfold lU
 repeat' (first|apply And.intro|intro _)
 all_goals (refine pC ?_;repeat' split)<;>first|rfl|omega|(simp_all;done)|(simp_all;omega)
set_option maxRecDepth 100000 in
theorem aDG:dD Tryz.prog G 112 MZ:=by
 intro args p v hm hp h;unfold MZ at hm
 split at hm;rotate_left;· cases hm
 rename_i kd fu wi off k n d nm m f b g c e;obtain⟨rfl,rfl⟩:=bA hm;clear hm
 refine fR Tryz.func112 (by kernel_rfl) rfl ?_ h
 refine cO.evH aT (aS6 kd fu wi off k n d nm m f b g c e) ?_
 have ek:(k==0)=decide (k=0):=by rw[dT];simp
 simp only[ek,bD,aS,aI,bK,beq_iff_eq,beq_eq_false_iff_ne,ne_eq,decide_eq_true_eq,decide_eq_false_iff_not];unfold lU
 repeat' (first|apply And.intro|intro _)
 all_goals (refine pC ?_;repeat' split)<;>first|rfl|omega|(simp_all;done)|(simp_all;omega)
end
theorem aTP(kd fu wi off k n d:Int)(nm:ByteArray)(m:Nat)(f:Nat→Nat→PV)(b:Nat)(g:Nat→Nat→PV)(c:Nat)(e:Nat→Nat→PV):cJ KP (dH 3 (cS Tryz.prog Tryz.f110)) (iR Tryz.f110 [.a (cF kd fu wi off k n d nm m f b g c e)]) (cP (fO 102 [1]) (bB Tryz.prog Tryz.f110))=bT (decide (kd<0)) (.done .ret (St.mk [V.c (C.p (PV.b false))] []))
 (bT (decide (3<kd)) (.done .ret (St.mk [V.c (C.p (PV.b false))] []))
 (bT (decide (fu<0)) (.done .ret (St.mk [V.c (C.p (PV.b false))] []))
 (.done .normal
 (bU 102 [(1,.c (.ptr 0 0))] [.cells 33 (cF kd fu wi off k n d nm m f b g c e)])))):=by kernel_rfl
theorem aTT(fu wi off k n d:Int)(nm:ByteArray)(m:Nat)(f:Nat→Nat→PV)(b:Nat)(g:Nat→Nat→PV)(c:Nat)(e:Nat→Nat→PV):cJ KP (bJ 3 (cS Tryz.prog Tryz.f110)) (bU 102 [(1,.c (.ptr 0 0))] [.cells 33 (.p (.i .i64 0)::(aH9 fu wi off k n d nm m f b g c e))]) (cP [] (bB Tryz.prog Tryz.f110))=Tr.rq (aF 0≤aF 0∧0<(↑4:Int))
 (.rq (0<4)
 (bT (decide (1≤fu)) (.done .ret (St.mk [V.c (C.p (PV.b false))] []))
 (.rq (aF 0≤aF 0∧0<(↑4:Int))
 (.rq (0<4)
 (bT ((↑c:Int) != 0) (.done .ret (St.mk [V.c (C.p (PV.b false))] []))
 (.rq (inR aA n∧inR aA d)
 (bT (!kL n d) (.done .ret (St.mk [V.c (C.p (PV.b false))] []))
 (bT (wi != 0) (.done .ret (St.mk [V.c (C.p (PV.b false))] []))
 (bT (off != 0) (.done .ret (St.mk [V.c (C.p (PV.b false))] []))
 (bT (!nm.toList==(aO #[]).toList) (.done .ret (St.mk [V.c (C.p (PV.b false))] []))
 (bT (decide (0<(↑m:Int))) (.done .ret (St.mk [V.c (C.p (PV.b false))] []))
 (bT (k != 0) (.done .ret (St.mk [V.c (C.p (PV.b false))] [])) (.done .ret (St.mk [V.c (C.p (PV.b ((↑b:Int)==0)))] [])))))))))))))):=by kernel_rfl
theorem aTS(fu wi off k n d:Int)(nm:ByteArray)(m:Nat)(f:Nat→Nat→PV)(b:Nat)(g:Nat→Nat→PV)(c:Nat)(e:Nat→Nat→PV):cJ KP (bJ 3 (cS Tryz.prog Tryz.f110)) (bU 102 [(1,.c (.ptr 0 0))] [.cells 33 (.p (.i .i64 1)::(aH9 fu wi off k n d nm m f b g c e))]) (cP [] (bB Tryz.prog Tryz.f110))=Tr.rq (aF 0≤aF 1∧1<(↑4:Int))
 (.rq (1<4)
 (bT (decide (8≤fu)) (.done .ret (St.mk [V.c (C.p (PV.b false))] []))
 (.rq (aF 0≤aF 1∧1<(↑4:Int))
 (.rq (1<4)
 (bT ((↑c:Int) != 0) (.done .ret (St.mk [V.c (C.p (PV.b false))] []))
 (bT (n != 0) (.done .ret (St.mk [V.c (C.p (PV.b false))] []))
 (bT (d != 0) (.done .ret (St.mk [V.c (C.p (PV.b false))] [])) (.done .ret (St.mk [V.c (C.p (PV.b ((↑b:Int)==0)))] []))))))))):=by kernel_rfl
theorem aTR(fu wi off k n d:Int)(nm:ByteArray)(m:Nat)(f:Nat→Nat→PV)(b:Nat)(g:Nat→Nat→PV)(c:Nat)(e:Nat→Nat→PV):cJ KP (bJ 3 (cS Tryz.prog Tryz.f110)) (bU 102 [(1,.c (.ptr 0 0))] [.cells 33 (.p (.i .i64 2)::(aH9 fu wi off k n d nm m f b g c e))]) (cP [] (bB Tryz.prog Tryz.f110))=Tr.rq (aF 0≤aF 2∧2<(↑4:Int))
 (.rq (2<4)
 (bT (decide (5≤fu)) (.done .ret (St.mk [V.c (C.p (PV.b false))] []))
 (.rq (aF 0≤aF 2∧2<(↑4:Int))
 (.rq (2<4)
 (bT ((↑c:Int) != 1) (.done .ret (St.mk [V.c (C.p (PV.b false))] []))
 (bT (n != 0) (.done .ret (St.mk [V.c (C.p (PV.b false))] []))
 (bT (d != 0) (.done .ret (St.mk [V.c (C.p (PV.b false))] []))
 (bT (wi != 0) (.done .ret (St.mk [V.c (C.p (PV.b false))] []))
 (bT (off != 0) (.done .ret (St.mk [V.c (C.p (PV.b false))] []))
 (bT (!nm.toList==(aO #[]).toList) (.done .ret (St.mk [V.c (C.p (PV.b false))] []))
 (bT (decide (0<(↑m:Int))) (.done .ret (St.mk [V.c (C.p (PV.b false))] [])) (.done .ret (St.mk [V.c (C.p (PV.b true))] []))))))))))))):=by kernel_rfl
theorem aTQ(fu wi off k n d:Int)(nm:ByteArray)(m:Nat)(f:Nat→Nat→PV)(b:Nat)(g:Nat→Nat→PV)(c:Nat)(e:Nat→Nat→PV):cJ KP (bJ 3 (cS Tryz.prog Tryz.f110)) (bU 102 [(1,.c (.ptr 0 0))] [.cells 33 (.p (.i .i64 3)::(aH9 fu wi off k n d nm m f b g c e))]) (cP [] (bB Tryz.prog Tryz.f110))=Tr.rq (aF 0≤aF 3∧3<(↑4:Int))
 (.rq (3<4)
 (bT (decide (4≤fu)) (.done .ret (St.mk [V.c (C.p (PV.b false))] []))
 (.rq (aF 0≤aF 3∧3<(↑4:Int))
 (.rq (3<4)
 (bT ((↑c:Int) != 2) (.done .ret (St.mk [V.c (C.p (PV.b false))] []))
 (bT (n != 0) (.done .ret (St.mk [V.c (C.p (PV.b false))] []))
 (bT (d != 0) (.done .ret (St.mk [V.c (C.p (PV.b false))] []))
 (bT (wi != 0) (.done .ret (St.mk [V.c (C.p (PV.b false))] []))
 (bT (off != 0) (.done .ret (St.mk [V.c (C.p (PV.b false))] []))
 (bT (!nm.toList==(aO #[]).toList) (.done .ret (St.mk [V.c (C.p (PV.b false))] []))
 (bT (decide (0<(↑m:Int))) (.done .ret (St.mk [V.c (C.p (PV.b false))] []))
 (bT (k != 0) (.done .ret (St.mk [V.c (C.p (PV.b false))] [])) (.done .ret (St.mk [V.c (C.p (PV.b ((↑b:Int)==0)))] [])))))))))))))):=by kernel_rfl
section
variable {G:Nat→Option Obj}
theorem oJ:bO Tryz.prog G KP:=cD (by simp;exact PS)
set_option maxRecDepth 100000 in
theorem aAM:dD Tryz.prog G 110 uU:=by
 intro args p v hm hp h;unfold uU at hm
 split at hm;rotate_left;· cases hm
 rename_i kd fu wi off k n d nm m f b g c e;obtain⟨rfl,rfl⟩:=bA hm;clear hm
 refine fR Tryz.func110 (by kernel_rfl) rfl ?_ h
 refine cO.evG oJ 3 (aTP kd fu wi off k n d nm m f b g c e) ?_;simp only[bD,aI,aZ,bK,decide_eq_true_eq,decide_eq_false_iff_not]
 have bad:¬(0≤kd∧kd≤3∧0≤fu)→mX (eL (V.c (C.p (PV.b false))) (bV (iS kd fu k n d (kQ wi off nm m) b c))):=fun hb=>pC (by
  unfold iS
  repeat' split
  all_goals first|rfl|(simp;omega))
 refine⟨fun c1=>bad (by omega),fun c1=>⟨fun c2=>bad (by omega),fun c2=>⟨fun c3=>bad (by omega),fun c3=>⟨?_⟩⟩⟩⟩;clear bad
 have e0:((c:Int) != 0) = !decide (c=0):=by
  show (!((c:Int)==((0:Nat):Int)))=_
  rw[mV]
 have e1:((c:Int) != 1) = !decide (c=1):=by
  show (!((c:Int)==((1:Nat):Int)))=_
  rw[mV]
 have e2:((c:Int) != 2) = !decide (c=2):=by
  show (!((c:Int)==((2:Nat):Int)))=_
  rw[mV]
 have e3:((b:Int)==0)=decide (b=0):=mV b 0
 have em:decide (0<(m:Int)) = !decide (m=0):=by rw[dT];simp;omega
 have hk:kd=0∨kd=1∨kd=2∨kd=3:=by omega
 have hI:=hp
 clear hp c1 c2
 rcases hk with rfl|rfl|rfl|rfl
 ·refine cO.evH oJ (aTT fu wi off k n d nm m f b g c e) ?_
  simp only[bD,aS,aI,bK,e0,e1,e2,e3,em,iN,bne,bX,bZ,beq_iff_eq,beq_eq_false_iff_ne,ne_eq,decide_eq_true_eq,decide_eq_false_iff_not];clear h e0 e1 e2 e3 em;unfold iS kQ
  repeat' (first|apply And.intro|intro _)
  all_goals first|exact hI.1.1|exact hI.1.2|exact hI.2.1|exact hI.2.2|decide|(refine pC ?_;simp_all;done)|(refine pC ?_;simp_all;omega)
 ·refine cO.evH oJ (aTS fu wi off k n d nm m f b g c e) ?_
  simp only[bD,aS,aI,bK,e0,e1,e2,e3,em,iN,bne,bX,bZ,beq_iff_eq,beq_eq_false_iff_ne,ne_eq,decide_eq_true_eq,decide_eq_false_iff_not];clear h e0 e1 e2 e3 em;unfold iS kQ
  repeat' (first|apply And.intro|intro _)
  all_goals first|exact hI.1.1|exact hI.1.2|exact hI.2.1|exact hI.2.2|decide|(refine pC ?_;simp_all;done)|(refine pC ?_;simp_all;omega)
 ·refine cO.evH oJ (aTR fu wi off k n d nm m f b g c e) ?_
  simp only[bD,aS,aI,bK,e0,e1,e2,e3,em,iN,bne,bX,bZ,beq_iff_eq,beq_eq_false_iff_ne,ne_eq,decide_eq_true_eq,decide_eq_false_iff_not];clear h e0 e1 e2 e3 em;unfold iS kQ
  repeat' (first|apply And.intro|intro _)
  all_goals first|exact hI.1.1|exact hI.1.2|exact hI.2.1|exact hI.2.2|decide|(refine pC ?_;simp_all;done)|(refine pC ?_;simp_all;omega)
 ·refine cO.evH oJ (aTQ fu wi off k n d nm m f b g c e) ?_
  simp only[bD,aS,aI,bK,e0,e1,e2,e3,em,iN,bne,bX,bZ,beq_iff_eq,beq_eq_false_iff_ne,ne_eq,decide_eq_true_eq,decide_eq_false_iff_not];clear h e0 e1 e2 e3 em;unfold iS kQ
  repeat' (first|apply And.intro|intro _)
  all_goals first|exact hI.1.1|exact hI.1.2|exact hI.2.1|exact hI.2.2|decide|(refine pC ?_;simp_all;done)|(refine pC ?_;simp_all;omega)
end
def mK(r:Nat→PV):Mt:=(tH (r 0),eW (r 1),tH (r 2))
theorem kI(L:List Mt):eR mK L.length (aJ bY L)=L:=rQ (fun _=>rfl) L
def BF(P:Nat→Bool)(n:Nat):Bool:=(List.range n).all P
theorem lJ(P:Nat→Bool)(n:Nat):BF P (n+1)=(BF P n&&P n):=by simp[BF,List.range_succ]
theorem nX{P:Nat→Bool}{n k:Nat}(hk:k<n)(h:P k=false):BF P n=false:=by
 rw[←gX];intro h2
 have:=List.all_eq_true.1 h2 k (List.mem_range.2 hk)
 rw[h]at this;cases this
def wP(x:ByteArray):List (ByteArray×ByteArray)→ByteArray
 |[]=>⟨#[]⟩
 |a::r=>if a.1=x then a.2 else wP x r
def aAE(v p:ByteArray):Bool:=decide (p.size≤v.size)&&decide (v.extract 0 p.size=p)
def wN(m:Mt)(v:ByteArray):Bool:=if m.2.1=0 then decide (v=m.2.2) else if m.2.1=1 then !decide (v=m.2.2) else if m.2.1=2 then aAE v m.2.2 else false
def FJ(L:List (ByteArray×ByteArray))(ML:List Mt)(i:Nat):Bool:=wN (ML.getD i default) (wP (ML.getD i default).1 L)
def oR(L:List (ByteArray×ByteArray))(ML:List Mt):Bool:=BF (FJ L ML) ML.length
def aAX:Mod
 |[.c (.p (.l 2 n f)),.c (.p (.s x))]=>some (BE fD 2 (eR oL n f) n f∧n≤1000,sV (wP x (eR oL n f)))
 |_=>none
def UV:Mod
 |[.a [.p (.s x),.p (.i .i64 k),.p (.s y)],.c (.p (.s v))]=>some (True,bV (wN (x,k,y) v))
 |_=>none
def aAV:Mod
 |[.c (.p (.s v)),.c (.p (.s p))]=>some (True,bV (aAE v p))
 |_=>none
def zK:Mod
 |[.c (.p (.l 2 n f)),.c (.p (.l 3 m g))]=>some ((BE fD 2 (eR oL n f) n f∧n≤1000)∧(BE bY 3 (eR mK m g) m g∧m≤1000),bV (oR (eR oL n f) (eR mK m g)))
 |_=>none
def aQX:Ext:=fB [(157,aAV)]
def aR1:Ext:=fB [(139,aAV),(138,aAX)]
def aR0:Ext:=fB [(158,UV),(159,aAX)]
theorem aVJ(L:List (ByteArray×ByteArray))(x:ByteArray):cJ dX (dH 2 (cS Tryz.prog Tryz.f138)) (iR Tryz.f138 [aX fD 2 L,sV x]) (cP (fO 20 [1,7,8,9]) (bB Tryz.prog Tryz.f138))=Tr.done X.normal
 (bU 20 [(1,.c (.p (.s x))),(7,.c (.p (.l 2 L.length (aJ fD L)))),(8,.c (.p (.i .i64 (↑L.length:Int)))),(9,.c (.p (.i .i64 0)))] []):=by kernel_rfl
theorem aVI(L:List (ByteArray×ByteArray))(x:ByteArray)(i:Nat):cJ dX (jZ (cS Tryz.prog Tryz.f138) 2) (bU 20 [(1,sV x),(7,aX fD 2 L),(8,iV (L.length:Nat)),(9,iV (i:Nat))] []) (cP (fO 20 [1,7,8,9]) (bB Tryz.prog Tryz.f138))=bT (decide ((↑i:Int)<(↑L.length:Int)))
 (.rq (0≤(↑i:Int)∧(↑i:Int)<(↑L.length:Int))
 (bT ((L.getD (↑i:Int).toNat default).fst.toList==x.toList) (.done .ret (St.mk [V.c (C.p (PV.s (L.getD (↑i:Int).toNat default).snd))] []))
 (.rq (inR aA ((↑i:Int)+1))
 (.done .normal
 (bU 20 [(1,.c (.p (.s x))),(7,.c (.p (.l 2 L.length (aJ fD L)))),(8,.c (.p (.i .i64 (↑L.length:Int)))),(9,.c (.p (.i .i64 ((↑i:Int)+1))))] [])))))
 (.done (.exit 0)
 (bU 20 [(1,.c (.p (.s x))),(7,.c (.p (.l 2 L.length (aJ fD L)))),(8,.c (.p (.i .i64 (↑L.length:Int)))),(9,.c (.p (.i .i64 (↑i:Int))))] [])):=by kernel_rfl
theorem aVH(L:List (ByteArray×ByteArray))(x:ByteArray)(i:Nat):cJ dX (bJ 3 (cS Tryz.prog Tryz.f138)) (bU 20 [(1,sV x),(7,aX fD 2 L),(8,iV (L.length:Nat)),(9,iV (i:Nat))] []) (cP [] (bB Tryz.prog Tryz.f138))=Tr.done X.ret (St.mk [V.c (C.p (PV.s (aO #[])))] []):=by kernel_rfl
theorem aVG(L:List (ByteArray×ByteArray))(x:ByteArray):cJ dX (dH 2 (cS Tryz.prog Tryz.f159)) (iR Tryz.f159 [aX fD 2 L,sV x]) (cP (fO 24 [0,1,5]) (bB Tryz.prog Tryz.f159))=Tr.done X.normal
 (bU 24 [(0,.c (.p (.l 2 L.length (aJ fD L)))),(1,.c (.p (.s x))),(5,.c (.p (.i .i64 0)))] []):=by kernel_rfl
theorem aVF(L:List (ByteArray×ByteArray))(x:ByteArray)(i:Nat):cJ dX (jZ (cS Tryz.prog Tryz.f159) 2) (bU 24 [(0,aX fD 2 L),(1,sV x),(5,iV (i:Nat))] []) (cP (fO 24 [0,1,5]) (bB Tryz.prog Tryz.f159))=bT (decide ((↑i:Int)<(↑L.length:Int)))
 (.rq (0≤(↑i:Int)∧(↑i:Int)<(↑L.length:Int))
 (bT ((L.getD (↑i:Int).toNat default).fst.toList==x.toList)
 (.rq (0≤(↑i:Int)∧(↑i:Int)<(↑L.length:Int)) (.done .ret (St.mk [V.c (C.p (PV.s (L.getD (↑i:Int).toNat default).snd))] [])))
 (.rq (inR aA ((↑i:Int)+1))
 (.done .normal
 (bU 24 [(0,.c (.p (.l 2 L.length (aJ fD L)))),(1,.c (.p (.s x))),(5,.c (.p (.i .i64 ((↑i:Int)+1))))] [])))))
 (.done (.exit 0)
 (bU 24 [(0,.c (.p (.l 2 L.length (aJ fD L)))),(1,.c (.p (.s x))),(5,.c (.p (.i .i64 (↑i:Int))))] [])):=by kernel_rfl
theorem aVE(L:List (ByteArray×ByteArray))(x:ByteArray)(i:Nat):cJ dX (bJ 3 (cS Tryz.prog Tryz.f159)) (bU 24 [(0,aX fD 2 L),(1,sV x),(5,iV (i:Nat))] []) (cP [] (bB Tryz.prog Tryz.f159))=Tr.done X.ret (St.mk [V.c (C.p (PV.s (aO #[])))] []):=by kernel_rfl
theorem tHo(x:ByteArray)(k:Int)(y v:ByteArray):cJ dX (cS Tryz.prog Tryz.f158) (iR Tryz.f158 [.a (SZ x k y),sV v]) (cP [] (bB Tryz.prog Tryz.f158))=bT (k==0) (.done .ret (St.mk [V.c (C.p (PV.b (v.toList==y.toList)))] []))
 (bT (k==1) (.done .ret (St.mk [V.c (C.p (PV.b !v.toList==y.toList))] []))
 (bT (k==2)
 (bT (decide ((↑y.size:Int)≤(↑v.size:Int)))
 (.rq (0≤(↑0:Int)∧(↑0:Int)≤(↑y.size:Int)∧(↑y.size:Int)≤(↑v.size:Int))
 (.done .ret (St.mk [V.c (C.p (PV.b ((v.extract (↑0:Int).toNat (↑y.size:Int).toNat).toList==y.toList)))] [])))
 (.done .ret (St.mk [V.c (C.p (PV.b false))] [])))
 (.done .ret (St.mk [V.c (C.p (PV.b false))] [])))):=by kernel_rfl
theorem tHp(v p:ByteArray):cJ dX (cS Tryz.prog Tryz.f157) (iR Tryz.f157 [sV v,sV p]) (cP [] (bB Tryz.prog Tryz.f157))=bT (decide ((↑p.size:Int)≤(↑v.size:Int)))
 (.rq (0≤(↑0:Int)∧(↑0:Int)≤(↑p.size:Int)∧(↑p.size:Int)≤(↑v.size:Int))
 (.done .ret (St.mk [V.c (C.p (PV.b ((v.extract (↑0:Int).toNat (↑p.size:Int).toNat).toList==p.toList)))] [])))
 (.done .ret (St.mk [V.c (C.p (PV.b false))] [])):=by kernel_rfl
theorem tHq(v p:ByteArray):cJ aQX (cS Tryz.prog Tryz.f139) (iR Tryz.f139 [sV v,sV p]) (cP [] (bB Tryz.prog Tryz.f139))=Tr.rq True (.done .ret (St.mk [V.c (C.p (PV.b (aAE v p)))] [])):=by kernel_rfl
theorem aUU(L:List (ByteArray×ByteArray))(ML:List Mt):cJ dX (dH 2 (cS Tryz.prog Tryz.f117)) (iR Tryz.f117 [aX fD 2 L,aX bY 3 ML]) (cP (fO 42 [0,9,10,11]) (bB Tryz.prog Tryz.f117))=Tr.done X.normal
 (bU 42 [(0,.c (.p (.l 2 L.length (aJ fD L)))),(9,.c (.p (.l 3 ML.length (aJ bY ML)))),(10,.c (.p (.i .i64 (↑ML.length:Int)))),(11,.c (.p (.i .i64 0)))] []):=by kernel_rfl
theorem aUT(L:List (ByteArray×ByteArray))(ML:List Mt)(i:Nat):cJ aR1 (jZ (cS Tryz.prog Tryz.f117) 2) (bU 42 [(0,aX fD 2 L),(9,aX bY 3 ML),(10,iV (ML.length:Nat)),(11,iV (i:Nat))] []) (cP (fO 42 [0,9,10,11]) (bB Tryz.prog Tryz.f117))=bT (decide ((↑i:Int)<(↑ML.length:Int)))
 (.rq (0≤(↑i:Int)∧(↑i:Int)<(↑ML.length:Int))
 (.rq (BE fD 2 (eR oL L.length (aJ fD L)) L.length (aJ fD L)∧L.length≤1000)
 (bT ((ML.getD (↑i:Int).toNat default).snd.fst==0)
 (bT (!(wP (ML.getD (↑i:Int).toNat default).fst (eR oL L.length (aJ fD L))).toList==(ML.getD (↑i:Int).toNat default).snd.snd.toList)
 (.done .ret (St.mk [V.c (C.p (PV.b false))] []))
 (.rq (inR aA ((↑i:Int)+1))
 (.done .normal
 (bU 42 [(0,.c (.p (.l 2 L.length (aJ fD L)))),(9,.c (.p (.l 3 ML.length (aJ bY ML)))),(10,.c (.p (.i .i64 (↑ML.length:Int)))),(11,.c (.p (.i .i64 ((↑i:Int)+1))))] []))))
 (bT ((ML.getD (↑i:Int).toNat default).snd.fst==1)
 (bT (!!(wP (ML.getD (↑i:Int).toNat default).fst (eR oL L.length (aJ fD L))).toList==(ML.getD (↑i:Int).toNat default).snd.snd.toList)
 (.done .ret (St.mk [V.c (C.p (PV.b false))] []))
 (.rq (inR aA ((↑i:Int)+1))
 (.done .normal
 (bU 42 [(0,.c (.p (.l 2 L.length (aJ fD L)))),(9,.c (.p (.l 3 ML.length (aJ bY ML)))),(10,.c (.p (.i .i64 (↑ML.length:Int)))),(11,.c (.p (.i .i64 ((↑i:Int)+1))))] []))))
 (bT ((ML.getD (↑i:Int).toNat default).snd.fst==2)
 (.rq True
 (bT (!aAE (wP (ML.getD (↑i:Int).toNat default).fst (eR oL L.length (aJ fD L))) (ML.getD (↑i:Int).toNat default).snd.snd)
 (.done .ret (St.mk [V.c (C.p (PV.b false))] []))
 (.rq (inR aA ((↑i:Int)+1))
 (.done .normal
 (bU 42 [(0,.c (.p (.l 2 L.length (aJ fD L)))),(9,.c (.p (.l 3 ML.length (aJ bY ML)))),(10,.c (.p (.i .i64 (↑ML.length:Int)))),(11,.c (.p (.i .i64 ((↑i:Int)+1))))] [])))))
 (.done .ret (St.mk [V.c (C.p (PV.b false))] [])))))))
 (.done (.exit 0)
 (bU 42 [(0,.c (.p (.l 2 L.length (aJ fD L)))),(9,.c (.p (.l 3 ML.length (aJ bY ML)))),(10,.c (.p (.i .i64 (↑ML.length:Int)))),(11,.c (.p (.i .i64 (↑i:Int))))] [])):=by kernel_rfl
theorem aUS(L:List (ByteArray×ByteArray))(ML:List Mt)(i:Nat):cJ dX (bJ 3 (cS Tryz.prog Tryz.f117)) (bU 42 [(0,aX fD 2 L),(9,aX bY 3 ML),(10,iV (ML.length:Nat)),(11,iV (i:Nat))] []) (cP [] (bB Tryz.prog Tryz.f117))=Tr.done X.ret (St.mk [V.c (C.p (PV.b true))] []):=by kernel_rfl
theorem aUQ(L:List (ByteArray×ByteArray))(ML:List Mt):cJ dX (dH 2 (cS Tryz.prog Tryz.f140)) (iR Tryz.f140 [aX fD 2 L,aX bY 3 ML]) (cP (fO 25 [0,1,5]) (bB Tryz.prog Tryz.f140))=Tr.done X.normal
 (bU 25 [(0,.c (.p (.l 2 L.length (aJ fD L)))),(1,.c (.p (.l 3 ML.length (aJ bY ML)))),(5,.c (.p (.i .i64 0)))] []):=by kernel_rfl
theorem aUP(L:List (ByteArray×ByteArray))(ML:List Mt)(i:Nat):cJ aR0 (jZ (cS Tryz.prog Tryz.f140) 2) (bU 25 [(0,aX fD 2 L),(1,aX bY 3 ML),(5,iV (i:Nat))] []) (cP (fO 25 [0,1,5]) (bB Tryz.prog Tryz.f140))=bT (decide ((↑i:Int)<(↑ML.length:Int)))
 (.rq (0≤(↑i:Int)∧(↑i:Int)<(↑ML.length:Int))
 (.rq (0≤(↑i:Int)∧(↑i:Int)<(↑ML.length:Int))
 (.rq (BE fD 2 (eR oL L.length (aJ fD L)) L.length (aJ fD L)∧L.length≤1000)
 (.rq True
 (bT
 (!wN ((ML.getD (↑i:Int).toNat default).fst,(ML.getD (↑i:Int).toNat default).snd.fst,(ML.getD (↑i:Int).toNat default).snd.snd)
 (wP (ML.getD (↑i:Int).toNat default).fst (eR oL L.length (aJ fD L))))
 (.done .ret (St.mk [V.c (C.p (PV.b false))] []))
 (.rq (inR aA ((↑i:Int)+1))
 (.done .normal
 (bU 25 [(0,.c (.p (.l 2 L.length (aJ fD L)))),(1,.c (.p (.l 3 ML.length (aJ bY ML)))),(5,.c (.p (.i .i64 ((↑i:Int)+1))))] []))))))))
 (.done (.exit 0)
 (bU 25 [(0,.c (.p (.l 2 L.length (aJ fD L)))),(1,.c (.p (.l 3 ML.length (aJ bY ML)))),(5,.c (.p (.i .i64 (↑i:Int))))] [])):=by kernel_rfl
theorem aUO(L:List (ByteArray×ByteArray))(ML:List Mt)(i:Nat):cJ dX (bJ 3 (cS Tryz.prog Tryz.f140)) (bU 25 [(0,aX fD 2 L),(1,aX bY 3 ML),(5,iV (i:Nat))] []) (cP [] (bB Tryz.prog Tryz.f140))=Tr.done X.ret (St.mk [V.c (C.p (PV.b true))] []):=by kernel_rfl
theorem KG(x:ByteArray){L:List (ByteArray×ByteArray)}{i:Nat}(h:i<L.length):wP x (L.drop i)=if (L.getD i default).1=x then (L.getD i default).2 else wP x (L.drop (i+1)):=by
 rw[List.drop_eq_getElem_cons h,aG,aN h];rfl
section
variable {G:Nat→Option Obj}
set_option maxRecDepth 100000 in
theorem aNA:dD Tryz.prog G 138 aAX:=by
 intro args p v hm hp h;unfold aAX at hm
 split at hm;rotate_left;· cases hm
 rename_i n f x;obtain⟨rfl,rfl⟩:=bA hm;obtain⟨hI,hn⟩:=hp
 obtain⟨L,hL⟩:∃L,eR oL n f=L:=⟨_,rfl⟩
 rw[hL]at hI ⊢
 have hl:L.length=n:=hI.1
 refine lW.args (args':=[aX fD 2 L,sV x]) ?_ (.cons hI.le (.cons (.refl _) .nil));clear hL hm hI
 refine fR Tryz.func138 (by kernel_rfl) rfl ?_ h
 refine cO.evG aT 2 (aVJ L x) ?_;simp only[aI,aZ];refine⟨?_⟩
 refine cO.loop' (l:=bJ 2 (cS Tryz.prog Tryz.f138)) (b:=inr (inr (bN .skip (cS Tryz.prog Tryz.f138) 2))) (r:=bJ 3 (cS Tryz.prog Tryz.f138)) (id:=0) (by kernel_rfl) (σ:=Nat)
   (fun i=>bU 20 [(1,sV x),(7,aX fD 2 L),(8,iV (L.length:Nat)),(9,iV (i:Nat))] []) (fun i=>i≤L.length∧wP x (L.drop i)=wP x L) (fun i=>L.length-i) 0 ⟨bH _,by simp⟩ (aP (by kernel_rfl)) ?_
 rintro i ⟨hi,hf⟩ Q1 q1n q1e -;refine cO.evH aT (aVI L x i) ?_;simp only[bD,aS,aI,bK,aZ,fE,decide_eq_true_eq,decide_eq_false_iff_not,iN,inR,show (↑i:Int).toNat=i from rfl];refine⟨fun h2=>?_,fun h2=>⟨q1e _ ?_⟩⟩
 ·rw[KG x (by omega)]at hf
  refine⟨by omega,fun h3=>⟨?_⟩,fun h3=>⟨by omega,⟨q1n (i+1) _ ⟨by omega,?_⟩ (show L.length-(i+1)<L.length-i by omega) (aP (by kernel_rfl))⟩⟩⟩
  ·rw[if_pos h3]at hf
   rw[←hf];exact eL.refl _
  ·rw[if_neg h3]at hf
   exact hf
 ·obtain rfl:i=L.length:=by omega
  refine cO.evH aT (aVH L x L.length) ?_;simp only[aI,bK];rw[List.drop_length]at hf;rw[←hf];exact⟨eL.refl _⟩
set_option maxRecDepth 100000 in
theorem aN3:dD Tryz.prog G 159 aAX:=by
 intro args p v hm hp h;unfold aAX at hm
 split at hm;rotate_left;· cases hm
 rename_i n f x;obtain⟨rfl,rfl⟩:=bA hm;obtain⟨hI,hn⟩:=hp
 obtain⟨L,hL⟩:∃L,eR oL n f=L:=⟨_,rfl⟩
 rw[hL]at hI ⊢
 have hl:L.length=n:=hI.1
 refine lW.args (args':=[aX fD 2 L,sV x]) ?_ (.cons hI.le (.cons (.refl _) .nil));clear hL hm hI
 refine fR Tryz.func159 (by kernel_rfl) rfl ?_ h
 refine cO.evG aT 2 (aVG L x) ?_;simp only[aI,aZ];refine⟨?_⟩
 refine cO.loop' (l:=bJ 2 (cS Tryz.prog Tryz.f159)) (b:=inr (inr (bN .skip (cS Tryz.prog Tryz.f159) 2))) (r:=bJ 3 (cS Tryz.prog Tryz.f159)) (id:=0) (by kernel_rfl) (σ:=Nat)
   (fun i=>bU 24 [(0,aX fD 2 L),(1,sV x),(5,iV (i:Nat))] []) (fun i=>i≤L.length∧wP x (L.drop i)=wP x L) (fun i=>L.length-i) 0 ⟨bH _,by simp⟩ (aP (by kernel_rfl)) ?_
 rintro i ⟨hi,hf⟩ Q1 q1n q1e -;refine cO.evH aT (aVF L x i) ?_;simp only[bD,aS,aI,bK,aZ,fE,decide_eq_true_eq,decide_eq_false_iff_not,iN,inR,show (↑i:Int).toNat=i from rfl];refine⟨fun h2=>?_,fun h2=>⟨q1e _ ?_⟩⟩
 ·rw[KG x (by omega)]at hf
  refine⟨by omega,fun h3=>⟨by omega,⟨?_⟩⟩,fun h3=>⟨by omega,⟨q1n (i+1) _ ⟨by omega,?_⟩ (show L.length-(i+1)<L.length-i by omega) (aP (by kernel_rfl))⟩⟩⟩
  ·rw[if_pos h3]at hf
   rw[←hf];exact eL.refl _
  ·rw[if_neg h3]at hf
   exact hf
 ·obtain rfl:i=L.length:=by omega
  refine cO.evH aT (aVE L x L.length) ?_;simp only[aI,bK];rw[List.drop_length]at hf;rw[←hf];exact⟨eL.refl _⟩
set_option maxRecDepth 100000 in
theorem aIE:dD Tryz.prog G 158 UV:=by
 intro args p v hm hp h;unfold UV at hm
 split at hm;rotate_left;· cases hm
 rename_i x k y v;obtain⟨rfl,rfl⟩:=bA hm;clear hm
 refine fR Tryz.func158 (by kernel_rfl) rfl ?_ h
 refine cO.evH aT (tHo x k y v) ?_
 have ez:(↑(0:Nat):Int).toNat=0:=rfl
 have ey:((y.size:Nat):Int).toNat=y.size:=rfl
 simp only[bD,aS,aI,bK,iN,beq_iff_eq,beq_eq_false_iff_ne,ne_eq,decide_eq_true_eq,decide_eq_false_iff_not];unfold wN aAE;refine⟨fun h1=>pC ?_,fun h1=>⟨fun h2=>pC ?_,fun h2=>⟨fun h3=>⟨fun h4=>⟨by omega,pC ?_⟩,fun h4=>pC ?_⟩,fun h3=>pC ?_⟩⟩⟩
 ·simp[h1]
 ·simp[h2]
 ·have h4:y.size≤v.size:=by omega
  simp[h3,h4]
 ·have h4:¬y.size≤v.size:=by omega
  simp[h3,h4]
 ·simp[h1,h2,h3]
set_option maxRecDepth 100000 in
theorem aN5:dD Tryz.prog G 157 aAV:=by
 intro args p v hm hp h;unfold aAV at hm
 split at hm;rotate_left;· cases hm
 rename_i v p;obtain⟨rfl,rfl⟩:=bA hm;clear hm
 refine fR Tryz.func157 (by kernel_rfl) rfl ?_ h
 refine cO.evH aT (tHp v p) ?_;simp only[bD,aS,aI,bK,iN,decide_eq_true_eq,decide_eq_false_iff_not];unfold aAE;refine⟨fun h4=>⟨by omega,pC ?_⟩,fun h4=>pC ?_⟩
 ·have h4:p.size≤v.size:=by omega
  simp[h4]
 ·have h4:¬p.size≤v.size:=by omega
  simp[h4]
set_option maxRecDepth 100000 in
theorem aQ2:dD Tryz.prog G 139 aAV:=by
 intro args p v hm hp h;unfold aAV at hm
 split at hm;rotate_left;· cases hm
 rename_i v p;obtain⟨rfl,rfl⟩:=bA hm;clear hm
 refine fR Tryz.func139 (by kernel_rfl) rfl ?_ h
 refine cO.evH (cD (by simp;exact aN5)) (tHq v p) ?_;simp only[aS,aI,bK];exact⟨trivial,⟨eL.refl _⟩⟩
set_option maxRecDepth 100000 in
theorem aIA:dD Tryz.prog G 117 zK:=by
 intro args p v hm hp h;unfold zK at hm
 split at hm;rotate_left;· cases hm
 rename_i n f m g;obtain⟨rfl,rfl⟩:=bA hm;obtain⟨⟨hI,hn⟩,hJ,hk⟩:=hp
 obtain⟨L,hL⟩:∃L,eR oL n f=L:=⟨_,rfl⟩
 obtain⟨ML,hM⟩:∃ML,eR mK m g=ML:=⟨_,rfl⟩
 rw[hL]at hI ⊢;rw[hM]at hJ ⊢
 have hl:L.length=n:=hI.1
 have hl2:ML.length=m:=hJ.1
 refine lW.args (args':=[aX fD 2 L,aX bY 3 ML]) ?_ (.cons hI.le (.cons hJ.le .nil));clear hL hM hm hI hJ
 have e2:eR oL L.length (aJ fD L)=L:=rQ (fun _=>rfl) L
 refine fR Tryz.func117 (by kernel_rfl) rfl ?_ h
 refine cO.evG aT 2 (aUU L ML) ?_;simp only[aI,aZ];refine⟨?_⟩
 refine cO.loop' (l:=bJ 2 (cS Tryz.prog Tryz.f117)) (b:=inr (inr (bN .skip (cS Tryz.prog Tryz.f117) 2))) (r:=bJ 3 (cS Tryz.prog Tryz.f117)) (id:=0) (by kernel_rfl) (σ:=Nat)
   (fun i=>bU 42 [(0,aX fD 2 L),(9,aX bY 3 ML),(10,iV (ML.length:Nat)),(11,iV (i:Nat))] []) (fun i=>i≤ML.length∧BF (FJ L ML) i=true) (fun i=>ML.length-i) 0 ⟨bH _,rfl⟩ (aP (by kernel_rfl)) ?_
 rintro i ⟨hi,hf⟩ Q1 q1n q1e -
 have bad:i<ML.length→FJ L ML i=false→mX (eL (V.c (C.p (PV.b false))) (bV (oR L ML))):=fun h1 h2=>⟨by
  unfold oR;rw[nX h1 h2];exact eL.refl _⟩
 have nx:FJ L ML i=true→BF (FJ L ML) (i+1)=true:=fun h2=>by rw[lJ,hf,h2];rfl
 refine cO.evH (cD (by simp;exact⟨aQ2,aNA⟩)) (aUT L ML i) ?_;simp only[bD,aS,aI,bK,aZ,fE,decide_eq_true_eq,decide_eq_false_iff_not,iN,inR,show (↑i:Int).toNat=i from rfl,e2,bX,bZ,Bool.not_not,beq_iff_eq,beq_eq_false_iff_ne,ne_eq,true_and];unfold FJ at bad nx
 generalize hmt:ML.getD i default=mt at bad nx ⊢
 generalize hge:wP mt.1 L=ge at bad nx ⊢
 refine⟨fun h2=>?_,fun h2=>⟨q1e _ ?_⟩⟩
 ·have good:wN mt ge=true→mX (Q1 .normal ((fun i:Nat=>bU 42 [(0,aX fD 2 L),(9,aX bY 3 ML),(10,iV (ML.length:Nat)),(11,iV (i:Nat))] []) (i+1))):=fun h3=>⟨q1n (i+1) _ ⟨by omega,nx h3⟩ (show ML.length-(i+1)<ML.length-i by omega) (aP (by kernel_rfl))⟩
  have hlt:i<ML.length:=by omega
  refine⟨by omega,⟨lV _ _ _,by omega⟩,fun k0=>⟨fun h3=>bad hlt ?_,fun h3=>⟨by omega,good ?_⟩⟩,fun k0=>⟨fun k1=>⟨fun h3=>bad hlt ?_,fun h3=>⟨by omega,good ?_⟩⟩,fun k1=>⟨fun k2=>⟨fun h3=>bad hlt ?_,fun h3=>⟨by omega,good ?_⟩⟩,fun k2=>bad hlt ?_⟩⟩⟩
  all_goals unfold wN
  all_goals simp[k0, *]
 ·obtain rfl:i=ML.length:=by omega
  refine cO.evH aT (aUS L ML ML.length) ?_;simp only[aI,bK];unfold oR;rw[hf];exact⟨eL.refl _⟩
set_option maxRecDepth 100000 in
theorem aDO:dD Tryz.prog G 140 zK:=by
 intro args p v hm hp h;unfold zK at hm
 split at hm;rotate_left;· cases hm
 rename_i n f m g;obtain⟨rfl,rfl⟩:=bA hm;obtain⟨⟨hI,hn⟩,hJ,hk⟩:=hp
 obtain⟨L,hL⟩:∃L,eR oL n f=L:=⟨_,rfl⟩
 obtain⟨ML,hM⟩:∃ML,eR mK m g=ML:=⟨_,rfl⟩
 rw[hL]at hI ⊢;rw[hM]at hJ ⊢
 have hl:L.length=n:=hI.1
 have hl2:ML.length=m:=hJ.1
 refine lW.args (args':=[aX fD 2 L,aX bY 3 ML]) ?_ (.cons hI.le (.cons hJ.le .nil));clear hL hM hm hI hJ
 have e2:eR oL L.length (aJ fD L)=L:=rQ (fun _=>rfl) L
 refine fR Tryz.func140 (by kernel_rfl) rfl ?_ h
 refine cO.evG aT 2 (aUQ L ML) ?_;simp only[aI,aZ];refine⟨?_⟩
 refine cO.loop' (l:=bJ 2 (cS Tryz.prog Tryz.f140)) (b:=inr (inr (bN .skip (cS Tryz.prog Tryz.f140) 2))) (r:=bJ 3 (cS Tryz.prog Tryz.f140)) (id:=0) (by kernel_rfl) (σ:=Nat)
   (fun i=>bU 25 [(0,aX fD 2 L),(1,aX bY 3 ML),(5,iV (i:Nat))] []) (fun i=>i≤ML.length∧BF (FJ L ML) i=true) (fun i=>ML.length-i) 0 ⟨bH _,rfl⟩ (aP (by kernel_rfl)) ?_
 rintro i ⟨hi,hf⟩ Q1 q1n q1e -
 have bad:i<ML.length→FJ L ML i=false→mX (eL (V.c (C.p (PV.b false))) (bV (oR L ML))):=fun h1 h2=>⟨by
  unfold oR;rw[nX h1 h2];exact eL.refl _⟩
 have nx:FJ L ML i=true→BF (FJ L ML) (i+1)=true:=fun h2=>by rw[lJ,hf,h2];rfl
 refine cO.evH (cD (by simp;exact⟨aIE,aN3⟩)) (aUP L ML i) ?_;simp only[bD,aS,aI,bK,aZ,fE,decide_eq_true_eq,decide_eq_false_iff_not,iN,inR,show (↑i:Int).toNat=i from rfl,e2,bX,bZ,Bool.not_not,beq_iff_eq,beq_eq_false_iff_ne,ne_eq,true_and];unfold FJ at bad nx
 generalize hmt:ML.getD i default=mt at bad nx ⊢
 generalize hge:wP mt.1 L=ge at bad nx ⊢
 refine⟨fun h2=>?_,fun h2=>⟨q1e _ ?_⟩⟩
 ·have good:wN mt ge=true→mX (Q1 .normal ((fun i:Nat=>bU 25 [(0,aX fD 2 L),(1,aX bY 3 ML),(5,iV (i:Nat))] []) (i+1))):=fun h3=>⟨q1n (i+1) _ ⟨by omega,nx h3⟩ (show ML.length-(i+1)<ML.length-i by omega) (aP (by kernel_rfl))⟩
  have hlt:i<ML.length:=by omega
  refine⟨by omega,by omega,⟨lV _ _ _,by omega⟩,fun h3=>bad hlt ?_,fun h3=>⟨by omega,good ?_⟩⟩
  ·exact h3
  ·exact h3
 ·obtain rfl:i=ML.length:=by omega
  refine cO.evH aT (aUO L ML ML.length) ?_;simp only[aI,bK];unfold oR;rw[hf];exact⟨eL.refl _⟩
end
def VU:List ByteArray:=[⟨#[115,117,109]⟩,⟨#[109,105,110]⟩,⟨#[109,97,120]⟩,⟨#[99,111,117,110,116]⟩,⟨#[107,116,104]⟩]
def gwB(nm:ByteArray):Bool:=VU.any fun x=>decide (x=nm)
def UZ:Mod
 |[.c (.p (.z (.slice (some a) n c))),.c (.p (.s nm))]=>some (a=⟨0,0,none⟩∧n=5∧c=5,bV (gwB nm))
 |_=>none
def fnd(nm:ByteArray):List ByteArray→Int→Int
 |[],_ => -1
 |x::r,i=>if x=nm then i else fnd nm r (i+1)
def aEI:Mod
 |[.c (.p (.l 1 n f)),.c (.p (.s nm))]=>some (BE bM 1 (eR kO n f) n f∧n≤1000,iV (fnd nm (eR kO n f) 0))
 |_=>none
def NF:Mod
 |[]=>some (True,aX bM 1 VU)
 |_=>none
def mtB(m:Mt):Bool:=iH m.1&&decide (0≤m.2.1∧m.2.1≤2)&&jG m.2.2
def aER(a b:ByteArray):Bool:=eS a.toList b.toList||a.toList==b.toList
def WN(BL:List ByteArray)(i:Nat):Bool:=iH (BL.getD i default)&&(decide (i=0) || !aER (BL.getD i default) (BL.getD (i-1) default))
def yW(kd:Int)(nm:ByteArray):Bool := !(decide (kd=1)&&(!iH nm||gwB nm))
def mtI(ML:List Mt)(i:Nat):Bool:=mtB (ML.getD i default)
def jN(kd:Int)(nm:ByteArray)(ML:List Mt)(BL:List ByteArray):Bool:=yW kd nm&&(BF (mtI ML) ML.length&&BF (WN BL) BL.length)
def zJ:Mod
 |[.a [.p (.i .i64 kd),.p (.i .i64 fu),.p (.i .i64 wi),.p (.i .i64 off),.p (.i .i64 k),.p (.i .i64 n),.p (.i .i64 d),.p (.s nm),.p (.l 3 m f),.p (.l 1 b g),.p (.l 11 c e)]]=>some (∃ML BL,m=ML.length∧f=aJ bY ML∧b=BL.length∧g=aJ bM BL∧ML.length≤1000∧BL.length≤1000,bV (jN kd nm (eR mK m f) (eR kO b g)))
 |_=>none
def mMt:Mod
 |[.a [.p (.s x),.p (.i .i64 k),.p (.s y)]]=>some (True,bV (mtB (x,k,y)))
 |_=>none
def aQY:Ext:=fB [(60,FN),(156,NE)]
def aQZ:Ext:=fB [(45,QO),(154,UQ)]
def ZD:Ext:=fB [(60,FN),(136,UZ),(137,mMt)]
def ZE:Ext:=fB [(45,QO),(134,NF),(133,aEI),(135,mMt)]
theorem aUN(x:ByteArray)(k:Int)(y:ByteArray):cJ aQY (cS Tryz.prog Tryz.f137) (iR Tryz.f137 [.a (SZ x k y)]) (cP [] (bB Tryz.prog Tryz.f137))=bT (k==0) (.rq True (bT (iH x) (.rq True (.done .ret (St.mk [V.c (C.p (PV.b (jG y)))] []))) (.done .ret (St.mk [V.c (C.p (PV.b false))] []))))
 (bT (k==1) (.rq True (bT (iH x) (.rq True (.done .ret (St.mk [V.c (C.p (PV.b (jG y)))] []))) (.done .ret (St.mk [V.c (C.p (PV.b false))] []))))
 (bT (k==2) (.rq True (bT (iH x) (.rq True (.done .ret (St.mk [V.c (C.p (PV.b (jG y)))] []))) (.done .ret (St.mk [V.c (C.p (PV.b false))] []))))
 (.done .ret (St.mk [V.c (C.p (PV.b false))] [])))):=by kernel_rfl
theorem aUM(x:ByteArray)(k:Int)(y:ByteArray):cJ aQZ (cS Tryz.prog Tryz.f135) (iR Tryz.f135 [.a (SZ x k y)]) (cP [] (bB Tryz.prog Tryz.f135))=Tr.rq True
 (bT (iH x)
 (bT (decide (0≤k)) (bT (decide (k≤2)) (.rq True (.done .ret (St.mk [V.c (C.p (PV.b (jG y)))] []))) (.done .ret (St.mk [V.c (C.p (PV.b false))] [])))
 (.done .ret (St.mk [V.c (C.p (PV.b false))] [])))
 (.done .ret (St.mk [V.c (C.p (PV.b false))] []))):=by kernel_rfl
theorem aVQ(L:List ByteArray)(nm:ByteArray):cJ dX (dH 2 (cS Tryz.prog Tryz.f133)) (iR Tryz.f133 [aX bM 1 L,sV nm]) (cP (fO 19 [0,1,5]) (bB Tryz.prog Tryz.f133))=Tr.done X.normal
 (bU 19 [(0,.c (.p (.l 1 L.length (aJ bM L)))),(1,.c (.p (.s nm))),(5,.c (.p (.i .i64 0)))] []):=by kernel_rfl
theorem aVP(L:List ByteArray)(nm:ByteArray)(i:Nat):cJ dX (jZ (cS Tryz.prog Tryz.f133) 2) (bU 19 [(0,aX bM 1 L),(1,sV nm),(5,iV (i:Nat))] []) (cP (fO 19 [0,1,5]) (bB Tryz.prog Tryz.f133))=bT (decide ((↑i:Int)<(↑L.length:Int)))
 (.rq (0≤(↑i:Int)∧(↑i:Int)<(↑L.length:Int))
 (bT ((L.getD (↑i:Int).toNat default).toList==nm.toList) (.done .ret (St.mk [V.c (C.p (PV.i aA (↑i:Int)))] []))
 (.rq (inR aA ((↑i:Int)+1))
 (.done .normal
 (bU 19 [(0,.c (.p (.l 1 L.length (aJ bM L)))),(1,.c (.p (.s nm))),(5,.c (.p (.i .i64 ((↑i:Int)+1))))] [])))))
 (.done (.exit 0)
 (bU 19 [(0,.c (.p (.l 1 L.length (aJ bM L)))),(1,.c (.p (.s nm))),(5,.c (.p (.i .i64 (↑i:Int))))] [])):=by kernel_rfl
theorem aVO(L:List ByteArray)(nm:ByteArray)(i:Nat):cJ dX (bJ 3 (cS Tryz.prog Tryz.f133)) (bU 19 [(0,aX bM 1 L),(1,sV nm),(5,iV (i:Nat))] []) (cP [] (bB Tryz.prog Tryz.f133))=Tr.done X.ret (St.mk [V.c (C.p (PV.i aA (-1)))] []):=by kernel_rfl
theorem aVD  : cJ dX (cS Tryz.prog Tryz.f134) (iR Tryz.f134 []) (cP [] (bB Tryz.prog Tryz.f134))=Tr.rq
 (5≤5 ∧
 ∀(e o:Nat),
 e<5 →
 o<1 →
 BJ
 (C.p
 (PV.s
 (bN (aO #[])
 [aO #[115,117,109],aO #[109,105,110],aO #[109,97,120],aO #[99,111,117,110,116],aO #[107,116,104]] (e+0)))) =
 true)
 (.done .ret
 (St.mk [V.c (C.p (PV.l 1 5 fun e o=>tE (C.p (PV.s (bN (aO #[]) [aO #[115,117,109],aO #[109,105,110],aO #[109,97,120],aO #[99,111,117,110,116],aO #[107,116,104]] (e+0))))))] [])):=by kernel_rfl
theorem aUL(kd fu wi off k n d:Int)(nm:ByteArray)(ML:List Mt)(BL:List ByteArray)(c:Nat)(e:Nat→Nat→PV):cJ ZD (dH 4 (cS Tryz.prog Tryz.f115)) (iR Tryz.f115 [.a (cF kd fu wi off k n d nm ML.length (aJ bY ML) BL.length (aJ bM BL) c e)]) (cP (fO 59 [1,23,24,25]) (bB Tryz.prog Tryz.f115))=bT (kd==1)
 (.rq True
 (bT (!iH nm) (.done .ret (St.mk [V.c (C.p (PV.b false))] []))
 (.rq (Addr.mk 0 0 none=Addr.mk 0 0 none∧5=5∧5=5)
 (bT (gwB nm) (.done .ret (St.mk [V.c (C.p (PV.b false))] []))
 (.done .normal
 (bU 59 [(1,.c (.ptr 0 0)),(23,.c (.p (.l 3 ML.length (aJ bY ML)))),(24,.c (.p (.i .i64 (↑ML.length:Int)))),(25,.c (.p (.i .i64 0)))] [.cells 33 (cF kd fu wi off k n d nm ML.length (aJ bY ML) BL.length (aJ bM BL) c e)]))))))
 (.done .normal
 (bU 59 [(1,.c (.ptr 0 0)),(23,.c (.p (.l 3 ML.length (aJ bY ML)))),(24,.c (.p (.i .i64 (↑ML.length:Int)))),(25,.c (.p (.i .i64 0)))] [.cells 33 (cF kd fu wi off k n d nm ML.length (aJ bY ML) BL.length (aJ bM BL) c e)])):=by kernel_rfl
theorem aUK(kd fu wi off k n d:Int)(nm:ByteArray)(ML:List Mt)(BL:List ByteArray)(c:Nat)(e:Nat→Nat→PV)(i:Nat):cJ ZD (jZ (cS Tryz.prog Tryz.f115) 4) (bU 59 [(1,.c (.ptr 0 0)),(23,.c (.p (.l 3 ML.length (aJ bY ML)))),(24,iV (ML.length:Nat)),(25,iV (i:Nat))] [.cells 33 (cF kd fu wi off k n d nm ML.length (aJ bY ML) BL.length (aJ bM BL) c e)]) (cP (fO 59 [1,23,24,25]) (bB Tryz.prog Tryz.f115))=bT (decide ((↑i:Int)<(↑ML.length:Int)))
 (.rq (0≤(↑i:Int)∧(↑i:Int)<(↑ML.length:Int))
 (.rq True
 (bT (!mtB ((ML.getD (↑i:Int).toNat default).fst,(ML.getD (↑i:Int).toNat default).snd.fst,(ML.getD (↑i:Int).toNat default).snd.snd)) (.done .ret (St.mk [V.c (C.p (PV.b false))] []))
 (.rq (inR aA ((↑i:Int)+1))
 (.done .normal
 (bU 59 [(1,.c (.ptr 0 0)),(23,.c (.p (.l 3 ML.length (aJ bY ML)))),(24,.c (.p (.i .i64 (↑ML.length:Int)))),(25,.c (.p (.i .i64 ((↑i:Int)+1))))] [.cells 33 (cF kd fu wi off k n d nm ML.length (aJ bY ML) BL.length (aJ bM BL) c e)]))))))
 (.done (.exit 0)
 (bU 59 [(1,.c (.ptr 0 0)),(23,.c (.p (.l 3 ML.length (aJ bY ML)))),(24,.c (.p (.i .i64 (↑ML.length:Int)))),(25,.c (.p (.i .i64 (↑i:Int))))] [.cells 33 (cF kd fu wi off k n d nm ML.length (aJ bY ML) BL.length (aJ bM BL) c e)])):=by kernel_rfl
theorem aUJ(kd fu wi off k n d:Int)(nm:ByteArray)(ML:List Mt)(BL:List ByteArray)(c:Nat)(e:Nat→Nat→PV):cJ dX (dH 1 (bJ 5 (cS Tryz.prog Tryz.f115))) (bU 59 [(1,.c (.ptr 0 0))] [.cells 33 (cF kd fu wi off k n d nm ML.length (aJ bY ML) BL.length (aJ bM BL) c e)]) (cP (fO 59 [1,34,35,36]) (bB Tryz.prog Tryz.f115))=Tr.done X.normal
 (bU 59 [(1,.c (.ptr 0 0)),(34,.c (.p (.l 1 BL.length (aJ bM BL)))),(35,.c (.p (.i .i64 (↑BL.length:Int)))),(36,.c (.p (.i .i64 0)))] [.cells 33 (cF kd fu wi off k n d nm ML.length (aJ bY ML) BL.length (aJ bM BL) c e)]):=by kernel_rfl
theorem aUI(kd fu wi off k n d:Int)(nm:ByteArray)(ML:List Mt)(BL:List ByteArray)(c:Nat)(e:Nat→Nat→PV)(i:Nat):cJ ZD (jZ (cS Tryz.prog Tryz.f115) 6) (bU 59 [(1,.c (.ptr 0 0)),(34,.c (.p (.l 1 BL.length (aJ bM BL)))),(35,iV (BL.length:Nat)),(36,iV (i:Nat))] [.cells 33 (cF kd fu wi off k n d nm ML.length (aJ bY ML) BL.length (aJ bM BL) c e)]) (cP (fO 59 [1,34,35,36]) (bB Tryz.prog Tryz.f115))=bT (decide ((↑i:Int)<(↑BL.length:Int)))
 (.rq (0≤(↑i:Int)∧(↑i:Int)<(↑BL.length:Int))
 (.rq True
 (bT (!iH (BL.getD (↑i:Int).toNat default)) (.done .ret (St.mk [V.c (C.p (PV.b false))] []))
 (bT (decide (0<(↑i:Int)))
 (.rq (inR aA ((↑i:Int)-1))
 (.rq (0≤(↑i:Int)-1∧(↑i:Int)-1<(↑BL.length:Int))
 (bT
 (eS (BL.getD (↑i:Int).toNat default).toList (BL.getD ((↑i:Int)-1).toNat default).toList ||
 (BL.getD (↑i:Int).toNat default).toList==(BL.getD ((↑i:Int)-1).toNat default).toList)
 (.done .ret (St.mk [V.c (C.p (PV.b false))] []))
 (.rq (inR aA ((↑i:Int)+1))
 (.done .normal
 (bU 59 [(1,.c (.ptr 0 0)),(34,.c (.p (.l 1 BL.length (aJ bM BL)))),(35,.c (.p (.i .i64 (↑BL.length:Int)))),(36,.c (.p (.i .i64 ((↑i:Int)+1))))] [.cells 33 (cF kd fu wi off k n d nm ML.length (aJ bY ML) BL.length (aJ bM BL) c e)]))))))
 (.rq (inR aA ((↑i:Int)+1))
 (.done .normal
 (bU 59 [(1,.c (.ptr 0 0)),(34,.c (.p (.l 1 BL.length (aJ bM BL)))),(35,.c (.p (.i .i64 (↑BL.length:Int)))),(36,.c (.p (.i .i64 ((↑i:Int)+1))))] [.cells 33 (cF kd fu wi off k n d nm ML.length (aJ bY ML) BL.length (aJ bM BL) c e)])))))))
 (.done (.exit 2)
 (bU 59 [(1,.c (.ptr 0 0)),(34,.c (.p (.l 1 BL.length (aJ bM BL)))),(35,.c (.p (.i .i64 (↑BL.length:Int)))),(36,.c (.p (.i .i64 (↑i:Int))))] [.cells 33 (cF kd fu wi off k n d nm ML.length (aJ bY ML) BL.length (aJ bM BL) c e)])):=by kernel_rfl
theorem aUH(kd fu wi off k n d:Int)(nm:ByteArray)(ML:List Mt)(BL:List ByteArray)(c:Nat)(e:Nat→Nat→PV):cJ dX (bJ 7 (cS Tryz.prog Tryz.f115)) (bU 59 [(1,.c (.ptr 0 0))] [.cells 33 (cF kd fu wi off k n d nm ML.length (aJ bY ML) BL.length (aJ bM BL) c e)]) (cP [] (bB Tryz.prog Tryz.f115))=Tr.done X.ret (St.mk [V.c (C.p (PV.b true))] []):=by kernel_rfl
theorem aUG(kd fu wi off k n d:Int)(nm:ByteArray)(ML:List Mt)(BL:List ByteArray)(c:Nat)(e:Nat→Nat→PV):cJ ZE (dH 4 (cS Tryz.prog Tryz.f111)) (iR Tryz.f111 [.a (cF kd fu wi off k n d nm ML.length (aJ bY ML) BL.length (aJ bM BL) c e)]) (cP (fO 67 [1,3]) (bB Tryz.prog Tryz.f111))=bT (kd==1)
 (.rq True
 (bT (!iH nm) (.done .ret (St.mk [V.c (C.p (PV.b false))] []))
 (.rq True
 (.rq (BE bM 1 (eR kO 5 (aJ bM VU)) 5 (aJ bM VU)∧5≤1000)
 (bT (decide (0≤fnd nm (eR kO 5 (aJ bM VU)) 0)) (.done .ret (St.mk [V.c (C.p (PV.b false))] []))
 (.done .normal
 (bU 67 [(1,.c (.ptr 0 0)),(3,.c (.p (.i .i64 0)))] [.cells 33 (cF kd fu wi off k n d nm ML.length (aJ bY ML) BL.length (aJ bM BL) c e)])))))))
 (.done .normal
 (bU 67 [(1,.c (.ptr 0 0)),(3,.c (.p (.i .i64 0)))] [.cells 33 (cF kd fu wi off k n d nm ML.length (aJ bY ML) BL.length (aJ bM BL) c e)])):=by kernel_rfl
theorem aUF(kd fu wi off k n d:Int)(nm:ByteArray)(ML:List Mt)(BL:List ByteArray)(c:Nat)(e:Nat→Nat→PV)(i:Nat):cJ ZE (jZ (cS Tryz.prog Tryz.f111) 4) (bU 67 [(1,.c (.ptr 0 0)),(3,iV (i:Nat))] [.cells 33 (cF kd fu wi off k n d nm ML.length (aJ bY ML) BL.length (aJ bM BL) c e)]) (cP (fO 67 [1,3]) (bB Tryz.prog Tryz.f111))=bT (decide ((↑i:Int)<(↑ML.length:Int)))
 (.rq (0≤(↑i:Int)∧(↑i:Int)<(↑ML.length:Int))
 (.rq True
 (bT (!mtB ((ML.getD (↑i:Int).toNat default).fst,(ML.getD (↑i:Int).toNat default).snd.fst,(ML.getD (↑i:Int).toNat default).snd.snd)) (.done .ret (St.mk [V.c (C.p (PV.b false))] []))
 (.rq (inR aA ((↑i:Int)+1))
 (.done .normal
 (bU 67 [(1,.c (.ptr 0 0)),(3,.c (.p (.i .i64 ((↑i:Int)+1))))] [.cells 33 (cF kd fu wi off k n d nm ML.length (aJ bY ML) BL.length (aJ bM BL) c e)]))))))
 (.done (.exit 0)
 (bU 67 [(1,.c (.ptr 0 0)),(3,.c (.p (.i .i64 (↑i:Int))))] [.cells 33 (cF kd fu wi off k n d nm ML.length (aJ bY ML) BL.length (aJ bM BL) c e)])):=by kernel_rfl
theorem aUE(kd fu wi off k n d:Int)(nm:ByteArray)(ML:List Mt)(BL:List ByteArray)(c:Nat)(e:Nat→Nat→PV):cJ dX (dH 1 (bJ 5 (cS Tryz.prog Tryz.f111))) (bU 67 [(1,.c (.ptr 0 0))] [.cells 33 (cF kd fu wi off k n d nm ML.length (aJ bY ML) BL.length (aJ bM BL) c e)]) (cP (fO 67 [1,4]) (bB Tryz.prog Tryz.f111))=Tr.done X.normal
 (bU 67 [(1,.c (.ptr 0 0)),(4,.c (.p (.i .i64 0)))] [.cells 33 (cF kd fu wi off k n d nm ML.length (aJ bY ML) BL.length (aJ bM BL) c e)]):=by kernel_rfl
theorem aUD(kd fu wi off k n d:Int)(nm:ByteArray)(ML:List Mt)(BL:List ByteArray)(c:Nat)(e:Nat→Nat→PV)(i:Nat):cJ ZE (jZ (cS Tryz.prog Tryz.f111) 6) (bU 67 [(1,.c (.ptr 0 0)),(4,iV (i:Nat))] [.cells 33 (cF kd fu wi off k n d nm ML.length (aJ bY ML) BL.length (aJ bM BL) c e)]) (cP (fO 67 [1,4]) (bB Tryz.prog Tryz.f111))=bT (decide ((↑i:Int)<(↑BL.length:Int)))
 (.rq (0≤(↑i:Int)∧(↑i:Int)<(↑BL.length:Int))
 (.rq True
 (bT (!iH (BL.getD (↑i:Int).toNat default)) (.done .ret (St.mk [V.c (C.p (PV.b false))] []))
 (bT (decide (0<(↑i:Int)))
 (.rq (0≤(↑i:Int)∧(↑i:Int)<(↑BL.length:Int))
 (.rq (inR aA ((↑i:Int)-1))
 (.rq (0≤(↑i:Int)-1∧(↑i:Int)-1<(↑BL.length:Int))
 (bT
 (eS (BL.getD (↑i:Int).toNat default).toList (BL.getD ((↑i:Int)-1).toNat default).toList ||
 (BL.getD (↑i:Int).toNat default).toList==(BL.getD ((↑i:Int)-1).toNat default).toList)
 (.done .ret (St.mk [V.c (C.p (PV.b false))] []))
 (.rq (inR aA ((↑i:Int)+1))
 (.done .normal
 (bU 67 [(1,.c (.ptr 0 0)),(4,.c (.p (.i .i64 ((↑i:Int)+1))))] [.cells 33 (cF kd fu wi off k n d nm ML.length (aJ bY ML) BL.length (aJ bM BL) c e)])))))))
 (.rq (inR aA ((↑i:Int)+1))
 (.done .normal
 (bU 67 [(1,.c (.ptr 0 0)),(4,.c (.p (.i .i64 ((↑i:Int)+1))))] [.cells 33 (cF kd fu wi off k n d nm ML.length (aJ bY ML) BL.length (aJ bM BL) c e)])))))))
 (.done (.exit 2)
 (bU 67 [(1,.c (.ptr 0 0)),(4,.c (.p (.i .i64 (↑i:Int))))] [.cells 33 (cF kd fu wi off k n d nm ML.length (aJ bY ML) BL.length (aJ bM BL) c e)])):=by kernel_rfl
theorem aUC(kd fu wi off k n d:Int)(nm:ByteArray)(ML:List Mt)(BL:List ByteArray)(c:Nat)(e:Nat→Nat→PV):cJ dX (bJ 7 (cS Tryz.prog Tryz.f111)) (bU 67 [(1,.c (.ptr 0 0))] [.cells 33 (cF kd fu wi off k n d nm ML.length (aJ bY ML) BL.length (aJ bM BL) c e)]) (cP [] (bB Tryz.prog Tryz.f111))=Tr.done X.ret (St.mk [V.c (C.p (PV.b true))] []):=by kernel_rfl
theorem ZA(nm:ByteArray):∀(L:List ByteArray) (i:Int),0≤i→(0≤fnd nm L i↔L.any (fun x=>decide (x=nm))=true)
 |[],i,_=>by simp[fnd]
 |x::r,i,hi=>by
  unfold fnd;split
  ·rename_i h;simp[h,hi]
  ·rename_i h
   rw[ZA nm r (i+1) (by omega)];simp[h]
theorem aFJ(nm:ByteArray)(L:List ByteArray)(i:Nat)(h:i<L.length):fnd nm (L.drop i) i=if L.getD i default=nm then (i:Int) else fnd nm (L.drop (i+1)) (i+1:Nat):=by
 rw[List.drop_eq_getElem_cons h]
 show (if L[i]=nm then _ else _)=_
 rw[aG,aN h];rfl
def Gw(w:World)(b:Nat):Option Obj:=if b=0 then w.heap[0]? else none
theorem gw_ok(w:World):∀b o,Gw w b=some o→w.heap[b]?=some o:=by
 intro b o h;unfold Gw at h;split at h
 ·rename_i hb;rw[hb];exact h
 ·cases h
def yM(G:Nat→Option Obj):Prop:=∃o,G 0=some o∧Go.CE.GlbOK o Go.CE.gw
theorem grpG_gw{w:World}(h:aRK w):yM (Gw w):=by
 obtain⟨o,h1,h2⟩:=h;exact⟨o,by unfold Gw;rw[if_pos rfl];exact h1,h2⟩
theorem aBQ{s t:ByteArray}(h:s.data.toList.map eT=t.data.toList.map eT):s=t:=by
 have h2:s.data.toList=t.data.toList:=(List.map_inj_right fun a b e=>UInt8.toNat_inj.1 e).1 h
 cases s;cases t;simp only[aO.injEq];exact Array.ext' h2
theorem aF9{w:World}{o:Obj}(h:w.heap[0]?=some o)(hg:Go.CE.GlbOK o Go.CE.gw):Rd w w.heap.size (some ⟨0,0,none⟩) 5 fun k=>.string (VU.getD k default):=by
 obtain⟨cs,ty,fz,rfl,h1,h2⟩:=hg
 refine fun _=>⟨_,rfl,(Array.getElem?_eq_some_iff.1 h).1,fun k hk=>?_⟩
 have hc:∀l,Go.CE.gw[k]?=some (.f (.s l))→∀t:ByteArray,t.data.toList.map eT=l→w.cell? ((⟨0,0,none⟩:Addr).add k)=some (.string t):=by
  intro l hb t ht;obtain⟨u,e1,e2⟩:=h2 k _ hb
  have e3:u=.string t:=by
   obtain⟨s,rfl,e⟩:=e2;rw[aBQ (e.trans ht.symm)]
  subst e3
  have e0:((⟨0,0,none⟩:Addr).add k)=⟨0,k,none⟩:=by unfold Addr.add;split<;>simp_all
  rw[e0,cell_of_row w 0 k cs ty fz h];exact e1
 match k,hk with
 |0,_=>exact hc _ rfl _ rfl
 |1,_=>exact hc _ rfl _ rfl
 |2,_=>exact hc _ rfl _ rfl
 |3,_=>exact hc _ rfl _ rfl
 |4,_=>exact hc _ rfl _ rfl
section
variable {G:Nat→Option Obj}
theorem aII(hG:yM G):dD Tryz.prog G 136 UZ:=by
 intro args p v hm hp h;unfold UZ at hm
 split at hm;rotate_left;· cases hm
 rename_i a n c nm;obtain⟨rfl,rfl⟩:=bA hm;obtain⟨rfl,rfl,rfl⟩:=hp;refine GJ rfl ?_ h;intro R w vs hr hg ha
 obtain⟨u,l,e,hu,ha⟩:=All2.nth2 ha;obtain⟨u1,l1,rfl,hu1,ha⟩:=All2.nth2 ha;obtain rfl:=All2.nil2 ha
 have hu:u=.slice (some ⟨0,0,none⟩) 5 5:=hu
 have hu1:u1=.string nm:=hu1
 subst hu;subst hu1
 obtain rfl:vs = #[.slice (some ⟨0,0,none⟩) 5 5,.string nm]:=by
  apply Array.ext';simpa using e
 obtain⟨o,h1,h2⟩:=hG;refine(IG (some ⟨0,0,none⟩) 5 5 (by omega) (fun k=>VU.getD k default) nm w (aF9 (hg 0 o h1) h2)).mono ?_;rintro e w' ⟨rfl,b,rfl,hb⟩;refine⟨_,rfl,?_,RowKit.Below.refl _ _⟩
 have:b=gwB nm:=by
  rw[dT,hb];unfold gwB;rw[List.any_eq_true];constructor
  ·rintro⟨k,hk,e⟩
   refine⟨VU.getD k default,?_,by simpa using e⟩;rw[aG,aN (show k<VU.length from hk)];exact List.getElem_mem _
  ·rintro⟨x,hx,e⟩
   obtain⟨k,hk,e2⟩:=List.getElem_of_mem hx;refine⟨k,hk,?_⟩;rw[aG,aN hk,Option.getD_some,e2];simpa using e
 rw[this];rfl
set_option maxRecDepth 100000 in
theorem aDR:dD Tryz.prog G 134 NF:=by
 intro args p v hm hp h;unfold NF at hm
 split at hm;rotate_left;· cases hm
 obtain⟨rfl,rfl⟩:=bA hm
 refine fR Tryz.func134 (by kernel_rfl) rfl ?_ h
 refine cO.evH aT aVD ?_;simp only[aS,aI,bK];refine⟨⟨Nat.le_refl _,fun e o _ _=>rfl⟩,⟨eL.p (jT.l fun e o he ho=>jT.of_eq ?_)⟩⟩
 match e,he with
 |0,_=>rfl
 |1,_=>rfl
 |2,_=>rfl
 |3,_=>rfl
 |4,_=>rfl
set_option maxRecDepth 100000 in
theorem aNF:dD Tryz.prog G 133 aEI:=by
 intro args p v hm hp h;unfold aEI at hm
 split at hm;rotate_left;· cases hm
 rename_i n f nm;obtain⟨rfl,rfl⟩:=bA hm;obtain⟨hI,hn⟩:=hp
 obtain⟨L,hL⟩:∃L,eR kO n f=L:=⟨_,rfl⟩
 rw[hL]at hI ⊢
 have hl:L.length=n:=hI.1
 refine lW.args (args':=[aX bM 1 L,sV nm]) ?_ (.cons hI.le (.cons (.refl _) .nil));clear hL hm hI
 refine fR Tryz.func133 (by kernel_rfl) rfl ?_ h
 refine cO.evG aT 2 (aVQ L nm) ?_;simp only[aI,aZ];refine⟨?_⟩
 refine cO.loop' (l:=bJ 2 (cS Tryz.prog Tryz.f133)) (b:=inr (inr (bN .skip (cS Tryz.prog Tryz.f133) 2))) (r:=bJ 3 (cS Tryz.prog Tryz.f133)) (id:=0) (by kernel_rfl) (σ:=Nat)
   (fun i=>bU 19 [(0,aX bM 1 L),(1,sV nm),(5,iV (i:Nat))] []) (fun i=>i≤L.length∧fnd nm (L.drop i) i=fnd nm L 0) (fun i=>L.length-i) 0 ⟨bH _,by simp⟩ (aP (by kernel_rfl)) ?_
 rintro i ⟨hi,hf⟩ Q1 q1n q1e -;refine cO.evH aT (aVP L nm i) ?_;simp only[bD,aS,aI,bK,aZ,fE,decide_eq_true_eq,decide_eq_false_iff_not,iN,inR,show (↑i:Int).toNat=i from rfl];refine⟨fun h2=>?_,fun h2=>⟨q1e _ ?_⟩⟩
 ·rw[aFJ nm L i (by omega)]at hf
  refine⟨by omega,fun h3=>⟨?_⟩,fun h3=>⟨by omega,⟨q1n (i+1) _ ⟨by omega,?_⟩ (show L.length-(i+1)<L.length-i by omega) (aP (by kernel_rfl))⟩⟩⟩
  ·rw[if_pos h3]at hf
   rw[←hf];exact eL.refl _
  ·rw[if_neg h3]at hf
   exact hf
 ·obtain rfl:i=L.length:=by omega
  refine cO.evH aT (aVO L nm L.length) ?_;simp only[aI,bK];rw[List.drop_length]at hf;rw[←hf];exact⟨eL.refl _⟩
theorem aE4(x:ByteArray)(k:Int)(y:ByteArray):mtB (x,k,y)=(iH x&&decide (0≤k∧k≤2)&&jG y):=rfl
set_option maxRecDepth 100000 in
theorem aX1:dD Tryz.prog G 137 mMt:=by
 intro args p v hm hp h;unfold mMt at hm
 split at hm;rotate_left;· cases hm
 rename_i x k y;obtain⟨rfl,rfl⟩:=bA hm;clear hm
 refine fR Tryz.func137 (by kernel_rfl) rfl ?_ h
 refine cO.evH (cD (by simp;exact⟨MU,aDQ⟩)) (aUN x k y) ?_;simp only[bD,aS,aI,bK,beq_iff_eq,beq_eq_false_iff_ne,ne_eq,true_and];rw[aE4];refine⟨fun h1=>⟨fun h2=>pC ?_,fun h2=>pC ?_⟩,fun h1=>⟨fun h1'=>⟨fun h2=>pC ?_,fun h2=>pC ?_⟩,fun h1'=>⟨fun h1''=>⟨fun h2=>pC ?_,fun h2=>pC ?_⟩,fun h1''=>pC ?_⟩⟩⟩
 ·rw[h2,decide_eq_true (by omega)];simp
 ·rw[h2];simp
 ·rw[h2,decide_eq_true (by omega)];simp
 ·rw[h2];simp
 ·rw[h2,decide_eq_true (by omega)];simp
 ·rw[h2];simp
 ·rw[decide_eq_false (show ¬(0≤k∧k≤2) by omega)];simp
set_option maxRecDepth 100000 in
theorem aQ6:dD Tryz.prog G 135 mMt:=by
 intro args p v hm hp h;unfold mMt at hm
 split at hm;rotate_left;· cases hm
 rename_i x k y;obtain⟨rfl,rfl⟩:=bA hm;clear hm
 refine fR Tryz.func135 (by kernel_rfl) rfl ?_ h
 refine cO.evH (cD (by simp;exact⟨UH,aI6⟩)) (aUM x k y) ?_;simp only[bD,aS,aI,bK,decide_eq_true_eq,decide_eq_false_iff_not,true_and];rw[aE4];refine⟨fun h1=>⟨fun h2=>⟨fun h3=>pC ?_,fun h3=>pC ?_⟩,fun h2=>pC ?_⟩,fun h1=>pC ?_⟩
 ·rw[h1,decide_eq_true (by omega)];simp
 ·rw[decide_eq_false (show ¬(0≤k∧k≤2) by omega)];simp
 ·rw[decide_eq_false (show ¬(0≤k∧k≤2) by omega)];simp
 ·rw[h1];simp
theorem aOK(nm:ByteArray):(0≤fnd nm VU 0)↔gwB nm=true:=ZA nm VU 0 (Int.le_refl _)
set_option maxRecDepth 100000 in
theorem aI9(hG:yM G):dD Tryz.prog G 115 zJ:=by
 intro args p v hm hp h;unfold zJ at hm
 split at hm;rotate_left;· cases hm
 rename_i kd fu wi off k n d nm m f b g c e;obtain⟨rfl,rfl⟩:=bA hm;obtain⟨ML,BL,rfl,rfl,rfl,rfl,hl1,hl2⟩:=hp;rw[kI,kV];clear hm
 have hs:bO Tryz.prog G ZD:=cD (by simp;exact⟨MU,aII hG,aX1⟩)
 refine fR Tryz.func115 (by kernel_rfl) rfl ?_ h
 refine cO.evG hs 4 (aUL kd fu wi off k n d nm ML BL c e) ?_
 have fin:yW kd nm=true→cO Tryz.prog G (bB Tryz.prog Tryz.f115) (bV (jN kd nm ML BL)) (bJ 4 (cS Tryz.prog Tryz.f115)) ((fun i:Nat=>bU 59 [(1,.c (.ptr 0 0)),(23,.c (.p (.l 3 ML.length (aJ bY ML)))),(24,iV (ML.length:Nat)),(25,iV (i:Nat))] [.cells 33 (cF kd fu wi off k n d nm ML.length (aJ bY ML) BL.length (aJ bM BL) c e)]) 0) (fun _ _=>False):=fun hsel=>by
  refine cO.loop' (l:=bJ 4 (cS Tryz.prog Tryz.f115)) (b:=inr (inr (bN .skip (cS Tryz.prog Tryz.f115) 4))) (r:=bJ 5 (cS Tryz.prog Tryz.f115)) (id:=0) (by kernel_rfl) (σ:=Nat) (fun i=>bU 59 [(1,.c (.ptr 0 0)),(23,.c (.p (.l 3 ML.length (aJ bY ML)))),(24,iV (ML.length:Nat)),(25,iV (i:Nat))] [.cells 33 (cF kd fu wi off k n d nm ML.length (aJ bY ML) BL.length (aJ bM BL) c e)]) (fun i=>i≤ML.length∧BF (mtI ML) i=true) (fun i=>ML.length-i) 0 ⟨bH _,rfl⟩ (aP (by kernel_rfl)) ?_
  rintro i ⟨hi,hu⟩ Q1 q1n q1e -;refine cO.evH hs (aUK kd fu wi off k n d nm ML BL c e i) ?_;simp only[bD,aS,aI,bK,aZ,fE,decide_eq_true_eq,decide_eq_false_iff_not,inR,show (↑i:Int).toNat=i from rfl,bX,bZ,true_and]
  refine⟨fun h2=>⟨by omega,fun h3=>⟨?_⟩,fun h3=>⟨by omega,⟨q1n (i+1) _ ⟨by omega,?_⟩ (show ML.length-(i+1)<ML.length-i by omega) (aP (by kernel_rfl))⟩⟩⟩,fun h2=>⟨q1e _ ?_⟩⟩
  ·have h3:mtI ML i=false:=h3
   unfold jN;rw[nX (show i<ML.length by omega) h3,Bool.false_and,fP];exact eL.refl _
  ·have h3:mtI ML i=true:=h3
   rw[lJ,hu,h3];rfl
  obtain rfl:i=ML.length:=by omega
  refine cO.pre (fW (fO 59 [1]) _) (cO.pre (aP (st':=bU 59 [(1,.c (.ptr 0 0))] [.cells 33 (cF kd fu wi off k n d nm ML.length (aJ bY ML) BL.length (aJ bM BL) c e)]) (by kernel_rfl)) ?_)
  refine cO.evG aT 1 (aUJ kd fu wi off k n d nm ML BL c e) ?_;simp only[aI,aZ];refine⟨?_⟩
  refine cO.loop' (l:=bJ 6 (cS Tryz.prog Tryz.f115)) (b:=inr (inr (bN .skip (cS Tryz.prog Tryz.f115) 6))) (r:=bJ 7 (cS Tryz.prog Tryz.f115)) (id:=2) (by kernel_rfl) (σ:=Nat) (fun i=>bU 59 [(1,.c (.ptr 0 0)),(34,.c (.p (.l 1 BL.length (aJ bM BL)))),(35,iV (BL.length:Nat)),(36,iV (i:Nat))] [.cells 33 (cF kd fu wi off k n d nm ML.length (aJ bY ML) BL.length (aJ bM BL) c e)]) (fun i=>i≤BL.length∧BF (WN BL) i=true) (fun i=>BL.length-i) 0 ⟨bH _,rfl⟩ (aP (by kernel_rfl)) ?_
  rintro i ⟨hi,hv⟩ Q2 q2n q2e -;refine cO.evH hs (aUI kd fu wi off k n d nm ML BL c e i) ?_
  have e1:((i:Int)-1).toNat=i-1:=by omega
  have bad:i<BL.length→WN BL i=false→eL (V.c (C.p (PV.b false))) (bV (jN kd nm ML BL)):=fun h1 h2=>by
   unfold jN;rw[nX h1 h2,fP,fP];exact eL.refl _
  simp only[bD,aS,aI,bK,aZ,fE,decide_eq_true_eq,decide_eq_false_iff_not,inR,show (↑i:Int).toNat=i from rfl,e1,bX,bZ,true_and]
  have nx:WN BL i=true→i<BL.length→mX (Q2 .normal ((fun i:Nat=>bU 59 [(1,.c (.ptr 0 0)),(34,.c (.p (.l 1 BL.length (aJ bM BL)))),(35,iV (BL.length:Nat)),(36,iV (i:Nat))] [.cells 33 (cF kd fu wi off k n d nm ML.length (aJ bY ML) BL.length (aJ bM BL) c e)]) (i+1))):=fun h1 h2=>⟨q2n (i+1) _ ⟨by omega,by rw[lJ,hv,h1];rfl⟩ (show BL.length-(i+1)<BL.length-i by omega) (aP (by kernel_rfl))⟩
  refine⟨fun h2=>⟨by omega,fun h3=>⟨bad (by omega) ?_⟩,fun h3=>⟨fun h4=>⟨by omega,⟨by omega,by omega⟩,fun h5=>⟨bad (by omega) ?_⟩,fun h5=>⟨by omega,nx ?_ (by omega)⟩⟩,fun h4=>⟨by omega,nx ?_ (by omega)⟩⟩⟩,fun h2=>⟨q2e _ ?_⟩⟩
  ·unfold WN;rw[h3];rfl
  ·unfold WN aER;rw[h3,h5,decide_eq_false (show ¬i=0 by omega)];rfl
  ·unfold WN aER;rw[h3,h5,decide_eq_false (show ¬i=0 by omega)];rfl
  ·unfold WN;rw[h3,decide_eq_true (show i=0 by omega)];rfl
  obtain rfl:i=BL.length:=by omega
  refine cO.pre (fW (fO 59 [1]) _) (cO.pre (aP (st':=bU 59 [(1,.c (.ptr 0 0))] [.cells 33 (cF kd fu wi off k n d nm ML.length (aJ bY ML) BL.length (aJ bM BL) c e)]) (by kernel_rfl)) ?_)
  refine cO.evH aT (aUH kd fu wi off k n d nm ML BL c e) ?_;simp only[aI,bK];unfold jN;rw[hsel,hu,hv];exact⟨eL.refl _⟩
 have badS:yW kd nm=false→eL (V.c (C.p (PV.b false))) (bV (jN kd nm ML BL)):=fun h2=>by
  unfold jN;rw[h2];exact eL.refl _
 simp only[bD,aS,aI,bK,aZ,beq_iff_eq,beq_eq_false_iff_ne,ne_eq,bX,bZ,true_and];refine⟨fun h1=>⟨fun h2=>⟨badS ?_⟩,fun h2=>⟨fun h3=>⟨badS ?_⟩,fun h3=>⟨fin ?_⟩⟩⟩,fun h1=>⟨fin ?_⟩⟩
 ·unfold yW;rw[decide_eq_true h1,h2];rfl
 ·unfold yW;rw[decide_eq_true h1,h2,h3];rfl
 ·unfold yW;rw[h2,h3];simp
 ·unfold yW;rw[decide_eq_false h1];rfl
set_option maxRecDepth 100000 in
theorem aDN:dD Tryz.prog G 111 zJ:=by
 intro args p v hm hp h;unfold zJ at hm
 split at hm;rotate_left;· cases hm
 rename_i kd fu wi off k n d nm m f b g c e;obtain⟨rfl,rfl⟩:=bA hm;obtain⟨ML,BL,rfl,rfl,rfl,rfl,hl1,hl2⟩:=hp;rw[kI,kV];clear hm
 have hs:bO Tryz.prog G ZE:=cD (by simp;exact⟨UH,aDR,aNF,aQ6⟩)
 refine fR Tryz.func111 (by kernel_rfl) rfl ?_ h
 refine cO.evG hs 4 (aUG kd fu wi off k n d nm ML BL c e) ?_
 have fin:yW kd nm=true→cO Tryz.prog G (bB Tryz.prog Tryz.f111) (bV (jN kd nm ML BL)) (bJ 4 (cS Tryz.prog Tryz.f111)) ((fun i:Nat=>bU 67 [(1,.c (.ptr 0 0)),(3,iV (i:Nat))] [.cells 33 (cF kd fu wi off k n d nm ML.length (aJ bY ML) BL.length (aJ bM BL) c e)]) 0) (fun _ _=>False):=fun hsel=>by
  refine cO.loop' (l:=bJ 4 (cS Tryz.prog Tryz.f111)) (b:=inr (inr (bN .skip (cS Tryz.prog Tryz.f111) 4))) (r:=bJ 5 (cS Tryz.prog Tryz.f111)) (id:=0) (by kernel_rfl) (σ:=Nat) (fun i=>bU 67 [(1,.c (.ptr 0 0)),(3,iV (i:Nat))] [.cells 33 (cF kd fu wi off k n d nm ML.length (aJ bY ML) BL.length (aJ bM BL) c e)]) (fun i=>i≤ML.length∧BF (mtI ML) i=true) (fun i=>ML.length-i) 0 ⟨bH _,rfl⟩ (aP (by kernel_rfl)) ?_
  rintro i ⟨hi,hu⟩ Q1 q1n q1e -;refine cO.evH hs (aUF kd fu wi off k n d nm ML BL c e i) ?_;simp only[bD,aS,aI,bK,aZ,fE,decide_eq_true_eq,decide_eq_false_iff_not,inR,show (↑i:Int).toNat=i from rfl,bX,bZ,true_and]
  refine⟨fun h2=>⟨by omega,fun h3=>⟨?_⟩,fun h3=>⟨by omega,⟨q1n (i+1) _ ⟨by omega,?_⟩ (show ML.length-(i+1)<ML.length-i by omega) (aP (by kernel_rfl))⟩⟩⟩,fun h2=>⟨q1e _ ?_⟩⟩
  ·have h3:mtI ML i=false:=h3
   unfold jN;rw[nX (show i<ML.length by omega) h3,Bool.false_and,fP];exact eL.refl _
  ·have h3:mtI ML i=true:=h3
   rw[lJ,hu,h3];rfl
  obtain rfl:i=ML.length:=by omega
  refine cO.pre (fW (fO 67 [1]) _) (cO.pre (aP (st':=bU 67 [(1,.c (.ptr 0 0))] [.cells 33 (cF kd fu wi off k n d nm ML.length (aJ bY ML) BL.length (aJ bM BL) c e)]) (by kernel_rfl)) ?_)
  refine cO.evG aT 1 (aUE kd fu wi off k n d nm ML BL c e) ?_;simp only[aI,aZ];refine⟨?_⟩
  refine cO.loop' (l:=bJ 6 (cS Tryz.prog Tryz.f111)) (b:=inr (inr (bN .skip (cS Tryz.prog Tryz.f111) 6))) (r:=bJ 7 (cS Tryz.prog Tryz.f111)) (id:=2) (by kernel_rfl) (σ:=Nat) (fun i=>bU 67 [(1,.c (.ptr 0 0)),(4,iV (i:Nat))] [.cells 33 (cF kd fu wi off k n d nm ML.length (aJ bY ML) BL.length (aJ bM BL) c e)]) (fun i=>i≤BL.length∧BF (WN BL) i=true) (fun i=>BL.length-i) 0 ⟨bH _,rfl⟩ (aP (by kernel_rfl)) ?_
  rintro i ⟨hi,hv⟩ Q2 q2n q2e -;refine cO.evH hs (aUD kd fu wi off k n d nm ML BL c e i) ?_
  have e1:((i:Int)-1).toNat=i-1:=by omega
  have bad:i<BL.length→WN BL i=false→eL (V.c (C.p (PV.b false))) (bV (jN kd nm ML BL)):=fun h1 h2=>by
   unfold jN;rw[nX h1 h2,fP,fP];exact eL.refl _
  simp only[bD,aS,aI,bK,aZ,fE,decide_eq_true_eq,decide_eq_false_iff_not,inR,show (↑i:Int).toNat=i from rfl,e1,bX,bZ,true_and]
  have nx:WN BL i=true→i<BL.length→mX (Q2 .normal ((fun i:Nat=>bU 67 [(1,.c (.ptr 0 0)),(4,iV (i:Nat))] [.cells 33 (cF kd fu wi off k n d nm ML.length (aJ bY ML) BL.length (aJ bM BL) c e)]) (i+1))):=fun h1 h2=>⟨q2n (i+1) _ ⟨by omega,by rw[lJ,hv,h1];rfl⟩ (show BL.length-(i+1)<BL.length-i by omega) (aP (by kernel_rfl))⟩
  refine⟨fun h2=>⟨by omega,fun h3=>⟨bad (by omega) ?_⟩,fun h3=>⟨fun h4=>⟨by omega,by omega,⟨by omega,by omega⟩,fun h5=>⟨bad (by omega) ?_⟩,fun h5=>⟨by omega,nx ?_ (by omega)⟩⟩,fun h4=>⟨by omega,nx ?_ (by omega)⟩⟩⟩,fun h2=>⟨q2e _ ?_⟩⟩
  ·unfold WN;rw[h3];rfl
  ·unfold WN aER;rw[h3,h5,decide_eq_false (show ¬i=0 by omega)];rfl
  ·unfold WN aER;rw[h3,h5,decide_eq_false (show ¬i=0 by omega)];rfl
  ·unfold WN;rw[h3,decide_eq_true (show i=0 by omega)];rfl
  obtain rfl:i=BL.length:=by omega
  refine cO.pre (fW (fO 67 [1]) _) (cO.pre (aP (st':=bU 67 [(1,.c (.ptr 0 0))] [.cells 33 (cF kd fu wi off k n d nm ML.length (aJ bY ML) BL.length (aJ bM BL) c e)]) (by kernel_rfl)) ?_)
  refine cO.evH aT (aUC kd fu wi off k n d nm ML BL c e) ?_;simp only[aI,bK];unfold jN;rw[hsel,hu,hv];exact⟨eL.refl _⟩
 have badS:yW kd nm=false→eL (V.c (C.p (PV.b false))) (bV (jN kd nm ML BL)):=fun h2=>by
  unfold jN;rw[h2];exact eL.refl _
 have e5:eR kO 5 (aJ bM VU)=VU:=kV VU
 simp only[bD,aS,aI,bK,aZ,beq_iff_eq,beq_eq_false_iff_ne,ne_eq,bX,bZ,true_and,e5,decide_eq_true_eq,decide_eq_false_iff_not,aOK,gX];refine⟨fun h1=>⟨fun h2=>⟨badS ?_⟩,fun h2=>⟨⟨lV bM 1 VU,by omega⟩,fun h3=>⟨badS ?_⟩,fun h3=>⟨fin ?_⟩⟩⟩,fun h1=>⟨fin ?_⟩⟩
 ·unfold yW;rw[decide_eq_true h1,h2];rfl
 ·unfold yW;rw[decide_eq_true h1,h2,h3];rfl
 ·unfold yW;rw[h2,h3];simp
 ·unfold yW;rw[decide_eq_false h1];rfl
end
end Go.AE
