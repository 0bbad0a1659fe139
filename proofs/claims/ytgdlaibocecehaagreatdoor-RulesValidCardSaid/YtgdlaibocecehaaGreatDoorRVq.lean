import Derived.Test.YtgdlaibocecehaaGreatDoorRVp
import Derived.Test.YtgdlaibocecehaaGreatDoorRVo
import Derived.Test.YtgdlaibocecehaaGreatDoorRVi
set_option linter.unusedVariables false
set_option linter.unusedSimpArgs false
namespace Go.AE
open _root_.Bool renaming not_eq_false'→bZ,not_eq_true'→bX
open IntKind renaming i64→aA
open Go.Proofs Go.Proofs.YtgdlaibocecehaaGreatDoor
def aLH(t:Nat):Ext:=yB [(62,sY (jF iJ yQ t))]
def aLG(D:List De)(t:Nat):Ext:=yB [(63,JV D (IT D t))]
theorem aU3(D:List De)(kd fu wi off k n d:Int)(nm:ByteArray)(mc:Nat)(f:Nat→Nat→PV)(bc:Nat)(g:Nat→Nat→PV)(c:Nat)(e:Nat→Nat→PV)(t:Nat):cJ (aLH t) (dH 4 (cS Tryz.prog Tryz.f32)) (iR Tryz.f32 [aX bQ 12 D,.a (cF kd fu wi off k n d nm mc f bc g c e)]) (cP (fO 35 [0,3,4,5]) (bB Tryz.prog Tryz.f32))=Tr.rq
 (iJ t
 [PV.i aA kd,PV.i aA fu,PV.i aA wi,PV.i aA off,PV.i aA k,PV.i aA n,PV.i aA d,PV.s nm,PV.l 3 mc f,PV.l 1 bc g,PV.l 11 c e])
 (bT
 (yQ t
 [PV.i aA kd,PV.i aA fu,PV.i aA wi,PV.i aA off,PV.i aA k,PV.i aA n,PV.i aA d,PV.s nm,PV.l 3 mc f,PV.l 1 bc g,
 PV.l 11 c e] !=
 0)
 (.done .ret
 (St.mk [V.t [V1.a (bG 0 0 0),V1.c (C.p (PV.i aA (yQ t [PV.i aA kd,PV.i aA fu,PV.i aA wi,PV.i aA off,PV.i aA k,PV.i aA n,PV.i aA d,PV.s nm,PV.l 3 mc f,PV.l 1 bc g,PV.l 11 c e])))]] []))
 (.done .normal
 (bU 35 [(0,.c (.p (.l 12 D.length (aJ bQ D)))),(3,.c (.ptr 0 0)),(4,.c (.ptr 1 0)),(5,.c (.p (.i .i64 0)))] [.cells 33 (cF kd fu wi off k n d nm mc f bc g c e),.cells 57 (bG 0 0 0)]))):=by kernel_rfl
theorem aU2(D:List De)(kd fu wi off k n d:Int)(nm:ByteArray)(mc:Nat)(f:Nat→Nat→PV)(bc:Nat)(g:Nat→Nat→PV)(c:Nat)(e:Nat→Nat→PV)(t:Nat):cJ (aLG D t) (dH 2 (bJ 4 (cS Tryz.prog Tryz.f32))) (bU 35 [(0,aX bQ 12 D),(3,.c (.ptr 0 0)),(4,.c (.ptr 1 0)),(5,iV 0)] [.cells 33 (cF kd fu wi off k n d nm mc f bc g c e),.cells 57 (bG 0 0 0)]) (cP (fO 35 [4,5,7,8]) (bB Tryz.prog Tryz.f32))=Tr.rq
 (OS D 124 D.length (aJ bQ D) 0 ∧
 iD t
 [PV.i aA kd,PV.i aA fu,PV.i aA wi,PV.i aA off,PV.i aA k,PV.i aA n,PV.i aA d,PV.s nm,PV.l 3 mc f,PV.l 1 bc g,PV.l 11 c e])
 (.done .normal
 (bU 35 [(4,.c (.ptr 0 0)),(5,.c (.p (.i .i64 0))),(7,.c (.ptr 1 0)),(8,.c (.ptr 2 0))] [.cells 57 (bG 0 0 0),.cells 124 [.p (.l 12 D.length (aJ bQ D)),.p (.i .i64 (dY D t [PV.i aA kd,PV.i aA fu,PV.i aA wi,PV.i aA off,PV.i aA k,PV.i aA n,PV.i aA d,PV.s nm,PV.l 3 mc f,PV.l 1 bc g,PV.l 11 c e]).fst)],.cells 57 (bG (dY D t [PV.i aA kd,PV.i aA fu,PV.i aA wi,PV.i aA off,PV.i aA k,PV.i aA n,PV.i aA d,PV.s nm,PV.l 3 mc f,PV.l 1 bc g,PV.l 11 c e]).snd.fst (dY D t [PV.i aA kd,PV.i aA fu,PV.i aA wi,PV.i aA off,PV.i aA k,PV.i aA n,PV.i aA d,PV.s nm,PV.l 3 mc f,PV.l 1 bc g,PV.l 11 c e]).snd.snd.fst (dY D t [PV.i aA kd,PV.i aA fu,PV.i aA wi,PV.i aA off,PV.i aA k,PV.i aA n,PV.i aA d,PV.s nm,PV.l 3 mc f,PV.l 1 bc g,PV.l 11 c e]).snd.snd.snd)])):=by kernel_rfl
theorem aU1(D:List De)(er u0 u1 u2:Int):cJ dX (dH 1 (bJ 6 (cS Tryz.prog Tryz.f32))) (bU 35 [(4,.c (.ptr 0 0)),(5,iV 0),(7,.c (.ptr 1 0)),(8,.c (.ptr 2 0))] [.cells 57 (bG 0 0 0),.cells 124 [.p (.l 12 D.length (aJ bQ D)),.p (.i .i64 er)],.cells 57 (bG u0 u1 u2)]) (cP (fO 35 [4,5,7,8,27]) (bB Tryz.prog Tryz.f32))=Tr.done X.normal
 (bU 35 [(4,.c (.ptr 0 0)),(5,.c (.p (.i .i64 0))),(7,.c (.ptr 1 0)),(8,.c (.ptr 2 0)),(27,.c (.p (.b (er != 0))))] [.cells 57 (bG 0 0 0),.cells 124 [.p (.l 12 D.length (aJ bQ D)),.p (.i .i64 er)],.cells 57 (bG u0 u1 u2)]):=by kernel_rfl
noncomputable def aHI:dA→Array Oper
 |.raw (.region _ ops _)=>ops
 |_ => #[]
noncomputable def brO:List dA:=jH (aR6 (bN .skip (cS Tryz.prog Tryz.f32) 7))
noncomputable def JJ:Array Oper:=aHI (bN .skip brO 0)
noncomputable def aRE:List AI:=(fZ Tryz.prog JJ JJ.toList).getD []
theorem aU0(D:List De)(er u0 u1 u2:Int):OH dX JJ.toList aRE (fun s'=>.done .normal (YU (fO 35 [4,5]) s')) (fK JJ.toList) (zV (fK JJ.toList)) (bU 35 [(4,.c (.ptr 0 0)),(5,iV 0),(7,.c (.ptr 1 0)),(8,.c (.ptr 2 0))] [.cells 57 (bG 0 0 0),.cells 124 [.p (.l 12 D.length (aJ bQ D)),.p (.i .i64 er)],.cells 57 (bG u0 u1 u2)])=((((((Tr.done X.normal
                       (bU 35 [(4,V.c (C.ptr 0 0)),(5,V.c (C.p (PV.i aA er)))] [AO.cells 57 (bG 0 0 0)])).alt
           (Tr.done X.normal
            (bU 35 [(4,V.c (C.ptr 0 0)),(5,V.c (C.p (PV.i aA er)))] [AO.cells 57 (bG 0 0 0)]))).alt
          (Tr.done X.normal
           (bU 35 [(4,V.c (C.ptr 0 0)),(5,V.c (C.p (PV.i aA er)))] [AO.cells 57 (bG 0 0 0)]))).alt
               (Tr.done X.normal
                (bU 35 [(4,V.c (C.ptr 0 0)),(5,V.c (C.p (PV.i aA er)))] [AO.cells 57 (bG 0 0 0)]))).alt
      (Tr.done X.normal
       (bU 35 [(4,V.c (C.ptr 0 0)),(5,V.c (C.p (PV.i aA er)))] [AO.cells 57 (bG 0 0 0)]))).alt
        (Tr.done X.normal
         (bU 35 [(4,V.c (C.ptr 0 0)),(5,V.c (C.p (PV.i aA er)))] [AO.cells 57 (bG 0 0 0)]))).alt
  ((((((Tr.done X.normal
             (bU 35 [(4,V.c (C.ptr 0 0)),(5,V.c (C.p (PV.i aA er)))] [AO.cells 57 (bG 0 0 0)])).alt
           (Tr.done X.normal
            (bU 35 [(4,V.c (C.ptr 0 0)),(5,V.c (C.p (PV.i aA er)))] [AO.cells 57 (bG 0 0 0)]))).alt
               (Tr.done X.normal
                (bU 35 [(4,V.c (C.ptr 0 0)),(5,V.c (C.p (PV.i aA er)))] [AO.cells 57 (bG 0 0 0)]))).alt
       (Tr.done X.normal
        (bU 35 [(4,V.c (C.ptr 0 0)),(5,V.c (C.p (PV.i aA er)))] [AO.cells 57 (bG 0 0 0)]))).alt
        (Tr.done X.normal
         (bU 35 [(4,V.c (C.ptr 0 0)),(5,V.c (C.p (PV.i aA er)))] [AO.cells 57 (bG 0 0 0)]))).alt
    (((((Tr.done X.normal
             (bU 35 [(4,V.c (C.ptr 0 0)),(5,V.c (C.p (PV.i aA er)))] [AO.cells 57 (bG 0 0 0)])).alt
           (Tr.done X.normal
            (bU 35 [(4,V.c (C.ptr 0 0)),(5,V.c (C.p (PV.i aA er)))] [AO.cells 57 (bG 0 0 0)]))).alt
         (Tr.done X.normal
          (bU 35 [(4,V.c (C.ptr 0 0)),(5,V.c (C.p (PV.i aA er)))] [AO.cells 57 (bG 0 0 0)]))).alt
       (Tr.done X.normal
        (bU 35 [(4,V.c (C.ptr 0 0)),(5,V.c (C.p (PV.i aA er)))] [AO.cells 57 (bG 0 0 0)]))).alt
      ((((Tr.done X.normal
             (bU 35 [(4,V.c (C.ptr 0 0)),(5,V.c (C.p (PV.i aA er)))] [AO.cells 57 (bG 0 0 0)])).alt
           (Tr.done X.normal
            (bU 35 [(4,V.c (C.ptr 0 0)),(5,V.c (C.p (PV.i aA er)))] [AO.cells 57 (bG 0 0 0)]))).alt
         (Tr.done X.normal
          (bU 35 [(4,V.c (C.ptr 0 0)),(5,V.c (C.p (PV.i aA er)))] [AO.cells 57 (bG 0 0 0)]))).alt
        (((Tr.done X.normal
             (bU 35 [(4,V.c (C.ptr 0 0)),(5,V.c (C.p (PV.i aA er)))] [AO.cells 57 (bG 0 0 0)])).alt
           (Tr.done X.normal
            (bU 35 [(4,V.c (C.ptr 0 0)),(5,V.c (C.p (PV.i aA er)))] [AO.cells 57 (bG 0 0 0)]))).alt
          (Tr.done X.normal
           (bU 35 [(4,V.c (C.ptr 0 0)),(5,V.c (C.p (PV.i aA er)))] [AO.cells 57 (bG 0 0 0)])))))):=by kernel_rfl
theorem aTZ(er:Int):cJ dX (bJ 1 brO) (bU 35 [(4,.c (.ptr 0 0)),(5,iV er)] [.cells 57 (bG 0 0 0)]) (cP [] (bB Tryz.prog Tryz.f32))=Tr.done X.ret (St.mk [V.t [V1.a (bG 0 0 0),V1.c (C.p (PV.i aA er))]] []):=by kernel_rfl
theorem aTY(D:List De)(er u0 u1 u2:Int):cJ dX (bJ 8 (cS Tryz.prog Tryz.f32)) (bU 35 [(4,.c (.ptr 0 0)),(5,iV 0),(7,.c (.ptr 1 0)),(8,.c (.ptr 2 0))] [.cells 57 (bG 0 0 0),.cells 124 [.p (.l 12 D.length (aJ bQ D)),.p (.i .i64 er)],.cells 57 (bG u0 u1 u2)]) (cP [] (bB Tryz.prog Tryz.f32))=Tr.done X.ret (St.mk [V.t [V1.a (bG u0 u1 u2),V1.c (C.p (PV.i aA 0))]] []):=by kernel_rfl
theorem aTX(D:List De)(er u0 u1 u2:Int):cJ dX (jH (aR5 (bN .skip (cS Tryz.prog Tryz.f32) 7))) (bU 35 [(4,.c (.ptr 0 0)),(5,iV 0),(7,.c (.ptr 1 0)),(8,.c (.ptr 2 0)),(27,.c (.p (.b false)))] [.cells 57 (bG 0 0 0),.cells 124 [.p (.l 12 D.length (aJ bQ D)),.p (.i .i64 er)],.cells 57 (bG u0 u1 u2)]) (cP (fO 35 [4,5,7,8]) (bB Tryz.prog Tryz.f32))=Tr.done X.normal
 (bU 35 [(4,.c (.ptr 0 0)),(5,.c (.p (.i .i64 0))),(7,.c (.ptr 1 0)),(8,.c (.ptr 2 0))] [.cells 57 (bG 0 0 0),.cells 124 [.p (.l 12 D.length (aJ bQ D)),.p (.i .i64 er)],.cells 57 (bG u0 u1 u2)]):=by kernel_rfl
section
variable {G:Nat→Option Obj}
theorem NL{u:U3}(h:(lB u).1≠0):(lB u).2=kM:=by
 unfold lB at h ⊢;split at h
 ·exact absurd rfl h
 ·rename_i h1;rw[if_neg h1]
theorem aHB{D:List De}{nm:ByteArray}{ML:List Mt}{fu:Int}(h:(mZ D nm ML fu).1≠0):(mZ D nm ML fu).2=kM:=by
 unfold mZ at h ⊢;split
 ·rfl
 ·rename_i h1
  rw[if_neg h1]at h;split
  ·rfl
  ·rename_i h2
   rw[if_neg h2]at h;split
   ·rfl
   ·rename_i h3
    rw[if_neg h3]at h;exact NL h
theorem aJX{fu:Int}{r:Bool}{a b:U3}(h:(nS fu r a b).1≠0):(nS fu r a b).2=kM:=by
 unfold nS at h ⊢;split
 ·rfl
 ·rename_i h1
  rw[if_neg h1]at h;split
  ·rename_i h2;rw[if_pos h2]at h;exact NL h
  ·rename_i h2
   rw[if_neg h2]at h;split
   ·rename_i h3;rw[if_pos h3]at h;exact NL h
   ·rename_i h3
    rw[if_neg h3]at h;split
    ·rename_i h4;rw[if_pos h4]at h;exact absurd rfl h
    ·rfl
theorem aJE{fu:Int}{r:Bool}{x:Int×U3}(h:(tX fu r x).1≠0):(tX fu r x).2=kM:=by
 unfold tX at h ⊢;split
 ·rfl
 ·rename_i h1
  rw[if_neg h1]at h;split
  ·rfl
  ·rename_i h2
   rw[if_neg h2]at h;split at h<;>exact absurd rfl h
theorem aMP{fu:Int}{r:Bool}{x y:Int×U3}(h:(opE fu r x y).1≠0):(opE fu r x y).2=kM:=by
 unfold opE at h ⊢;split
 ·rfl
 ·rename_i h1
  rw[if_neg h1]at h;split
  ·rfl
  ·rename_i h2
   rw[if_neg h2]at h;exact aJX h
theorem aCC(D:List De)(t:Nat)(kd fu wi off k n d:Int)(nm:ByteArray)(ML:List Mt)(q9:PV)(c:Nat)(e:Nat→Nat→PV)(h:(dY D (t+1) [.i .i64 kd,.i .i64 fu,.i .i64 wi,.i .i64 off,.i .i64 k,.i .i64 n,.i .i64 d,.s nm,.l 3 ML.length (aJ bY ML),q9,.l 11 c e]).1≠0):(dY D (t+1) [.i .i64 kd,.i .i64 fu,.i .i64 wi,.i .i64 off,.i .i64 k,.i .i64 n,.i .i64 d,.s nm,.l 3 ML.length (aJ bY ML),q9,.l 11 c e]).2=kM:=by
 rw[xB]at h ⊢;split
 ·rename_i h1;rw[if_pos h1]at h;exact aHB h
 ·rename_i h1
  rw[if_neg h1]at h;split
  ·rename_i h2;rw[if_pos h2]at h;exact aJE h
  ·rename_i h2
   rw[if_neg h2]at h;split
   ·rename_i h3;rw[if_pos h3]at h;exact aMP h
   ·rfl
set_option maxRecDepth 100000 in
theorem aQ3(hG:yM G){D:List De}(hD:wW D)(t:Nat)(ht:t≤1000):dD Tryz.prog G 32 (aAW D t):=by
 intro args p v hm hp h;unfold aAW at hm
 split at hm;rotate_left;· cases hm
 rename_i x q0 q1 q2 q3 q4 q5 q6 q7 q8 q9 q10
 split at hm;rotate_left;· cases hm
 rename_i q hx;obtain⟨rfl,rfl⟩:=bA hm;clear hm;obtain⟨hq,hN⟩:=hp
 have hN0:=hN
 cases t with
 |zero=>exact hN.1.elim
 |succ t=>
  obtain⟨⟨kd,fu,wi,off,k,n,d,nm,ML,BL,c,e,hcs,-⟩,-⟩:=hN;simp only[List.cons.injEq,and_true]at hcs;obtain⟨rfl,rfl,rfl,rfl,rfl,rfl,rfl,rfl,rfl,rfl,rfl⟩:=hcs;refine lW.args (args':=[aX bQ 12 D,.a (iP [.i .i64 kd,.i .i64 fu,.i .i64 wi,.i .i64 off,.i .i64 k,.i .i64 n,.i .i64 d,.s nm,.l 3 ML.length (aJ bY ML),.l 1 BL.length (aJ bM BL),.l 11 c e])]) ?_ (.cons (wI hx hq) (.cons (.refl _) .nil));clear hx hq
  have hs1:bO Tryz.prog G (aLH (t+1)):=jO (by simp;exact(DV hG (t+1) ht).lift)
  have hs2:bO Tryz.prog G (aLG D (t+1)):=jO (by simp;exact aMS hD (t+1))
  refine fR Tryz.func32 (by kernel_rfl) rfl ?_ h
  refine cO.evG hs1 4 (aU3 D kd fu wi off k n d nm ML.length (aJ bY ML) BL.length (aJ bM BL) c e (t+1)) ?_;simp only[bD,aS,aI,bK,aZ,bne_iff_ne,bne_eq_false_iff_eq,ne_eq,SV hN0.1];refine⟨hN0.1,fun h1=>⟨?_⟩,fun h1=>⟨?_⟩⟩
  ·unfold ofE;rw[if_neg h1];exact eL.refl _
  unfold ofE;rw[if_pos h1];refine cO.evG hs2 2 (aU2 D kd fu wi off k n d nm ML.length (aJ bY ML) BL.length (aJ bM BL) c e (t+1)) ?_;simp only[aS,aI,aZ];refine⟨⟨lX D,yP hN0.1 h1⟩,⟨?_⟩⟩
  have hu0:=aCC D t kd fu wi off k n d nm ML (.l 1 BL.length (aJ bM BL)) c e
  generalize dY D (t+1) [.i .i64 kd,.i .i64 fu,.i .i64 wi,.i .i64 off,.i .i64 k,.i .i64 n,.i .i64 d,.s nm,.l 3 ML.length (aJ bY ML),.l 1 BL.length (aJ bM BL),.l 11 c e]=y at hu0 ⊢
  obtain⟨er,u0,u1,u2⟩:=y;dsimp only at hu0
  refine cO.pre (aP (st':=bU 35 [(4,.c (.ptr 0 0)),(5,iV 0),(7,.c (.ptr 1 0)),(8,.c (.ptr 2 0))] [.cells 57 (bG 0 0 0),.cells 124 [.p (.l 12 D.length (aJ bQ D)),.p (.i .i64 er)],.cells 57 (bG u0 u1 u2)]) (by kernel_rfl)) ?_
  refine cO.evG aT 1 (aU1 D er u0 u1 u2) ?_;simp only[aI,aZ];refine⟨?_⟩
  refine cO.cond (l:=bJ 7 (cS Tryz.prog Tryz.f32)) (k:=27) (a:=aR6 (bN .skip (cS Tryz.prog Tryz.f32) 7)) (b:=aR5 (bN .skip (cS Tryz.prog Tryz.f32) 7)) (r:=bJ 8 (cS Tryz.prog Tryz.f32)) (x:=er != 0) (by kernel_rfl) (by kernel_rfl) ?_ ?_
  ·intro hc Q' _ _
   have hc:er≠0:=by simpa using hc
   obtain⟨rfl,rfl,rfl⟩:u0=0∧u1=0∧u2=0:=by
    have:=hu0 hc
    unfold kM at this;simpa using this
   refine cO.pre ((fW (fO 35 [4,5,7,8]) _).trans (aP (st':=(fun u0 u1 u2:Int=>(bU 35 [(4,.c (.ptr 0 0)),(5,iV 0),(7,.c (.ptr 1 0)),(8,.c (.ptr 2 0))] [.cells 57 (bG 0 0 0),.cells 124 [.p (.l 12 D.length (aJ bQ D)),.p (.i .i64 er)],.cells 57 (bG u0 u1 u2)]:St)) 0 0 0) (by kernel_rfl))) ?_
   refine cO.any aT (ops:=JJ) (all:=aRE) (rid:=7) (by kernel_rfl) (by kernel_rfl) (fO 35 [4,5]) (l:=brO) (r':=bJ 1 brO) (by kernel_rfl) (aU0 D er 0 0 0) ?_
   simp only[KE,aI,and_self];refine⟨cO.evH aT (aTZ er) ?_⟩;simp only[aI,bK];exact⟨eL.refl _⟩
  ·intro hc Q' hn _
   have hc:er=0:=by simpa using hc
   subst hc
   refine cO.pre (aP (st':=(fun er:Int=>(bU 35 [(4,.c (.ptr 0 0)),(5,iV 0),(7,.c (.ptr 1 0)),(8,.c (.ptr 2 0)),(27,.c (.p (.b false)))] [.cells 57 (bG 0 0 0),.cells 124 [.p (.l 12 D.length (aJ bQ D)),.p (.i .i64 er)],.cells 57 (bG u0 u1 u2)]:St)) 0) (by kernel_rfl)) ?_
   refine cO.evH aT (aTX D 0 u0 u1 u2) ?_;simp only[aI,aZ];refine⟨hn _ ?_⟩;refine cO.evH aT (aTY D 0 u0 u1 u2) ?_;simp only[aI,bK];exact⟨eL.refl _⟩
end
def qX(na:ByteArray)(ve ho cl dl nu de:Int):Bool:=decide (ve<1)||(decide (ho<1)||(decide (1000<ho)||(decide (cl<1)||(decide (3<cl)||(decide (dl<0)||(decide (1000<dl) || !kL nu de))))))
def pQ(t:Nat)(na:ByteArray)(ve ho cl dl nu de:Int)(E:List PV):Int:=if iH na=false then 8 else if qX na ve ho cl dl nu de=true then 1 else yQ t E
def CN(D:List De)(t:Nat)(E:List PV):Int:=if (ofE D t E).1≠0 then (ofE D t E).1 else if (decide (rE t E=0)&&eJ t E)=true then 7 else 0
def oT(D:List De)(t:Nat)(na:ByteArray)(ve ho cl dl nu de:Int)(E:List PV):Int:=if pQ t na ve ho cl dl nu de E≠0 then pQ t na ve ho cl dl nu de E else CN D t E
def zL(t:Nat):Mod
 |[.a [.p (.s na),.p (.i .i64 ve),.p (.i .i64 kd),.p (.i .i64 fu),.p (.i .i64 wi),.p (.i .i64 off),.p (.i .i64 k),.p (.i .i64 n),.p (.i .i64 d),.p (.s nm),.p (.l 3 mc f),.p (.l 1 bc g),.p (.l 11 c e),.p (.b ab),.p (.i .i64 nu),.p (.i .i64 de),.p (.i .i64 ho),.p (.i .i64 cl),.p (.i .i64 dl)]]=>some (lO t [.i .i64 kd,.i .i64 fu,.i .i64 wi,.i .i64 off,.i .i64 k,.i .i64 n,.i .i64 d,.s nm,.l 3 mc f,.l 1 bc g,.l 11 c e]∧inR .i64 nu∧inR .i64 de,iV (pQ t na ve ho cl dl nu de [.i .i64 kd,.i .i64 fu,.i .i64 wi,.i .i64 off,.i .i64 k,.i .i64 n,.i .i64 d,.s nm,.l 3 mc f,.l 1 bc g,.l 11 c e]))
 |_=>none
def aLP(t:Nat):Ext:=fB [(60,FN),(61,qK),(62,jF iJ yQ t)]
def aL1(t:Nat):Ext:=fB [(45,QO),(46,qK),(47,jF lO rE t)]
def aLB(D:List De)(t:Nat):Ext:=fB [(31,zL t),(32,aAW D t),(33,aAY t)]
def aLA(D:List De)(t:Nat):Ext:=fB [(15,zL t),(34,aAW D t),(35,aAY t)]
theorem tFo(na:ByteArray)(ve kd fu wi off k n d:Int)(nm:ByteArray)(mc:Nat)(f:Nat→Nat→PV)(bc:Nat)(g:Nat→Nat→PV)(c:Nat)(e:Nat→Nat→PV)(ab:Bool)(nu de ho cl dl:Int)(t:Nat):cJ (aLP t) (cS Tryz.prog Tryz.f31) (iR Tryz.f31 [.a (pH na ve kd fu wi off k n d nm mc f bc g c e ab nu de ho cl dl)]) (cP [] (bB Tryz.prog Tryz.f31))=Tr.rq True
 (bT (!iH na) (.done .ret (St.mk [V.c (C.p (PV.i aA 8))] []))
 (bT (decide (ve<1)) (.done .ret (St.mk [V.c (C.p (PV.i aA 1))] []))
 (bT (decide (ho<1)) (.done .ret (St.mk [V.c (C.p (PV.i aA 1))] []))
 (bT (decide (1000<ho)) (.done .ret (St.mk [V.c (C.p (PV.i aA 1))] []))
 (bT (decide (cl<1)) (.done .ret (St.mk [V.c (C.p (PV.i aA 1))] []))
 (bT (decide (3<cl)) (.done .ret (St.mk [V.c (C.p (PV.i aA 1))] []))
 (bT (decide (dl<0)) (.done .ret (St.mk [V.c (C.p (PV.i aA 1))] []))
 (bT (decide (1000<dl)) (.done .ret (St.mk [V.c (C.p (PV.i aA 1))] []))
 (.rq (inR aA nu∧inR aA de)
 (bT (!kL nu de) (.done .ret (St.mk [V.c (C.p (PV.i aA 1))] []))
 (.rq
 (iJ t
 [PV.i aA kd,PV.i aA fu,PV.i aA wi,PV.i aA off,PV.i aA k,PV.i aA n,PV.i aA d,PV.s nm,PV.l 3 mc f,
 PV.l 1 bc g,PV.l 11 c e])
 (.done .ret
 (St.mk [V.c (C.p (PV.i aA (yQ t [PV.i aA kd,PV.i aA fu,PV.i aA wi,PV.i aA off,PV.i aA k,PV.i aA n,PV.i aA d,PV.s nm,PV.l 3 mc f,PV.l 1 bc g,PV.l 11 c e])))] []))))))))))))):=by kernel_rfl
theorem tWe(na:ByteArray)(ve kd fu wi off k n d:Int)(nm:ByteArray)(mc:Nat)(f:Nat→Nat→PV)(bc:Nat)(g:Nat→Nat→PV)(c:Nat)(e:Nat→Nat→PV)(ab:Bool)(nu de ho cl dl:Int)(t:Nat):cJ (aL1 t) (cS Tryz.prog Tryz.f15) (iR Tryz.f15 [.a (pH na ve kd fu wi off k n d nm mc f bc g c e ab nu de ho cl dl)]) (cP [] (bB Tryz.prog Tryz.f15))=Tr.rq True
 (bT (!iH na) (.done .ret (St.mk [V.c (C.p (PV.i aA 8))] []))
 (.rq (inR aA nu∧inR aA de)
 (bT (decide (ve<1)) (.done .ret (St.mk [V.c (C.p (PV.i aA 1))] []))
 (bT (decide (ho<1)) (.done .ret (St.mk [V.c (C.p (PV.i aA 1))] []))
 (bT (decide (1000<ho)) (.done .ret (St.mk [V.c (C.p (PV.i aA 1))] []))
 (bT (decide (cl<1)) (.done .ret (St.mk [V.c (C.p (PV.i aA 1))] []))
 (bT (decide (3<cl)) (.done .ret (St.mk [V.c (C.p (PV.i aA 1))] []))
 (bT (decide (dl<0)) (.done .ret (St.mk [V.c (C.p (PV.i aA 1))] []))
 (bT (decide (1000<dl)) (.done .ret (St.mk [V.c (C.p (PV.i aA 1))] []))
 (bT (!kL nu de) (.done .ret (St.mk [V.c (C.p (PV.i aA 1))] []))
 (.rq
 (lO t
 [PV.i aA kd,PV.i aA fu,PV.i aA wi,PV.i aA off,PV.i aA k,PV.i aA n,PV.i aA d,PV.s nm,PV.l 3 mc f,
 PV.l 1 bc g,PV.l 11 c e])
 (.done .ret
 (St.mk [V.c (C.p (PV.i aA (rE t [PV.i aA kd,PV.i aA fu,PV.i aA wi,PV.i aA off,PV.i aA k,PV.i aA n,PV.i aA d,PV.s nm,PV.l 3 mc f,PV.l 1 bc g,PV.l 11 c e])))] []))))))))))))):=by kernel_rfl
theorem tRv(D:List De)(na:ByteArray)(ve kd fu wi off k n d:Int)(nm:ByteArray)(mc:Nat)(f:Nat→Nat→PV)(bc:Nat)(g:Nat→Nat→PV)(c:Nat)(e:Nat→Nat→PV)(ab:Bool)(nu de ho cl dl:Int)(t:Nat):cJ (aLB D t) (cS Tryz.prog Tryz.f11) (iR Tryz.f11 [aX bQ 12 D,.a (pH na ve kd fu wi off k n d nm mc f bc g c e ab nu de ho cl dl)]) (cP [] (bB Tryz.prog Tryz.f11))=Tr.rq
 (lO t
 [PV.i aA kd,PV.i aA fu,PV.i aA wi,PV.i aA off,PV.i aA k,PV.i aA n,PV.i aA d,PV.s nm,PV.l 3 mc f,PV.l 1 bc g,
 PV.l 11 c e] ∧
 inR aA nu∧inR aA de)
 (bT
 (pQ t na ve ho cl dl nu de
 [PV.i aA kd,PV.i aA fu,PV.i aA wi,PV.i aA off,PV.i aA k,PV.i aA n,PV.i aA d,PV.s nm,PV.l 3 mc f,PV.l 1 bc g,
 PV.l 11 c e] !=
 0)
 (.done .ret
 (St.mk [V.c (C.p (PV.i aA (pQ t na ve ho cl dl nu de [PV.i aA kd,PV.i aA fu,PV.i aA wi,PV.i aA off,PV.i aA k,PV.i aA n,PV.i aA d,PV.s nm,PV.l 3 mc f,PV.l 1 bc g,PV.l 11 c e])))] []))
 (.rq
 ((D.length=D.length∧∀(e o:Nat),e<D.length→o<12→aJ bQ D e o=aJ bQ D e o) ∧
 lO t
 [PV.i aA kd,PV.i aA fu,PV.i aA wi,PV.i aA off,PV.i aA k,PV.i aA n,PV.i aA d,PV.s nm,PV.l 3 mc f,PV.l 1 bc g,
 PV.l 11 c e])
 (bT
 ((ofE D t
 [PV.i aA kd,PV.i aA fu,PV.i aA wi,PV.i aA off,PV.i aA k,PV.i aA n,PV.i aA d,PV.s nm,PV.l 3 mc f,PV.l 1 bc g,
 PV.l 11 c e]).fst !=
 0)
 (.done .ret
 (St.mk [V.c (C.p (PV.i aA (ofE D t [PV.i aA kd,PV.i aA fu,PV.i aA wi,PV.i aA off,PV.i aA k,PV.i aA n,PV.i aA d,PV.s nm,PV.l 3 mc f,PV.l 1 bc g,PV.l 11 c e]).fst))] []))
 (.rq
 (lO t
 [PV.i aA kd,PV.i aA fu,PV.i aA wi,PV.i aA off,PV.i aA k,PV.i aA n,PV.i aA d,PV.s nm,PV.l 3 mc f,PV.l 1 bc g,
 PV.l 11 c e])
 (bT
 (decide
 (rE t
 [PV.i aA kd,PV.i aA fu,PV.i aA wi,PV.i aA off,PV.i aA k,PV.i aA n,PV.i aA d,PV.s nm,PV.l 3 mc f,PV.l 1 bc g,
 PV.l 11 c e] =
 0) &&
 eJ t
 [PV.i aA kd,PV.i aA fu,PV.i aA wi,PV.i aA off,PV.i aA k,PV.i aA n,PV.i aA d,PV.s nm,PV.l 3 mc f,PV.l 1 bc g,
 PV.l 11 c e])
 (.done .ret (St.mk [V.c (C.p (PV.i aA 7))] [])) (.done .ret (St.mk [V.c (C.p (PV.i aA 0))] []))))))):=by kernel_rfl
theorem tRw(D:List De)(na:ByteArray)(ve kd fu wi off k n d:Int)(nm:ByteArray)(mc:Nat)(f:Nat→Nat→PV)(bc:Nat)(g:Nat→Nat→PV)(c:Nat)(e:Nat→Nat→PV)(ab:Bool)(nu de ho cl dl:Int)(t:Nat):cJ (aLA D t) (cS Tryz.prog Tryz.f12) (iR Tryz.f12 [aX bQ 12 D,.a (pH na ve kd fu wi off k n d nm mc f bc g c e ab nu de ho cl dl)]) (cP [] (bB Tryz.prog Tryz.f12))=Tr.rq
 (lO t
 [PV.i aA kd,PV.i aA fu,PV.i aA wi,PV.i aA off,PV.i aA k,PV.i aA n,PV.i aA d,PV.s nm,PV.l 3 mc f,PV.l 1 bc g,
 PV.l 11 c e] ∧
 inR aA nu∧inR aA de)
 (bT
 (pQ t na ve ho cl dl nu de
 [PV.i aA kd,PV.i aA fu,PV.i aA wi,PV.i aA off,PV.i aA k,PV.i aA n,PV.i aA d,PV.s nm,PV.l 3 mc f,PV.l 1 bc g,
 PV.l 11 c e] !=
 0)
 (.done .ret
 (St.mk [V.c (C.p (PV.i aA (pQ t na ve ho cl dl nu de [PV.i aA kd,PV.i aA fu,PV.i aA wi,PV.i aA off,PV.i aA k,PV.i aA n,PV.i aA d,PV.s nm,PV.l 3 mc f,PV.l 1 bc g,PV.l 11 c e])))] []))
 (.rq
 ((D.length=D.length∧∀(e o:Nat),e<D.length→o<12→aJ bQ D e o=aJ bQ D e o) ∧
 lO t
 [PV.i aA kd,PV.i aA fu,PV.i aA wi,PV.i aA off,PV.i aA k,PV.i aA n,PV.i aA d,PV.s nm,PV.l 3 mc f,PV.l 1 bc g,
 PV.l 11 c e])
 (bT
 ((ofE D t
 [PV.i aA kd,PV.i aA fu,PV.i aA wi,PV.i aA off,PV.i aA k,PV.i aA n,PV.i aA d,PV.s nm,PV.l 3 mc f,PV.l 1 bc g,
 PV.l 11 c e]).fst !=
 0)
 (.done .ret
 (St.mk [V.c (C.p (PV.i aA (ofE D t [PV.i aA kd,PV.i aA fu,PV.i aA wi,PV.i aA off,PV.i aA k,PV.i aA n,PV.i aA d,PV.s nm,PV.l 3 mc f,PV.l 1 bc g,PV.l 11 c e]).fst))] []))
 (.rq
 (lO t
 [PV.i aA kd,PV.i aA fu,PV.i aA wi,PV.i aA off,PV.i aA k,PV.i aA n,PV.i aA d,PV.s nm,PV.l 3 mc f,PV.l 1 bc g,
 PV.l 11 c e])
 (bT
 (decide
 (rE t
 [PV.i aA kd,PV.i aA fu,PV.i aA wi,PV.i aA off,PV.i aA k,PV.i aA n,PV.i aA d,PV.s nm,PV.l 3 mc f,PV.l 1 bc g,
 PV.l 11 c e] =
 0) &&
 eJ t
 [PV.i aA kd,PV.i aA fu,PV.i aA wi,PV.i aA off,PV.i aA k,PV.i aA n,PV.i aA d,PV.s nm,PV.l 3 mc f,PV.l 1 bc g,
 PV.l 11 c e])
 (.done .ret (St.mk [V.c (C.p (PV.i aA 7))] [])) (.done .ret (St.mk [V.c (C.p (PV.i aA 0))] []))))))):=by kernel_rfl
def US(D:List De)(t:Nat):Mod
 |[x,.a [.p (.s na),.p (.i .i64 ve),.p (.i .i64 kd),.p (.i .i64 fu),.p (.i .i64 wi),.p (.i .i64 off),.p (.i .i64 k),.p (.i .i64 n),.p (.i .i64 d),.p (.s nm),.p (.l 3 mc f),.p (.l 1 bc g),.p (.l 11 c e),.p (.b ab),.p (.i .i64 nu),.p (.i .i64 de),.p (.i .i64 ho),.p (.i .i64 cl),.p (.i .i64 dl)]]=>match leR bQ 12 x D with
  |some p=>some (p∧lO t [.i .i64 kd,.i .i64 fu,.i .i64 wi,.i .i64 off,.i .i64 k,.i .i64 n,.i .i64 d,.s nm,.l 3 mc f,.l 1 bc g,.l 11 c e]∧inR .i64 nu∧inR .i64 de,iV (oT D t na ve ho cl dl nu de [.i .i64 kd,.i .i64 fu,.i .i64 wi,.i .i64 off,.i .i64 k,.i .i64 n,.i .i64 d,.s nm,.l 3 mc f,.l 1 bc g,.l 11 c e]))
  |none=>none
 |_=>none
def aAU(D:List De)(t:Nat):Mod
 |[x,.a [.p (.s na),.p (.i .i64 ve),.p (.i .i64 kd),.p (.i .i64 fu),.p (.i .i64 wi),.p (.i .i64 off),.p (.i .i64 k),.p (.i .i64 n),.p (.i .i64 d),.p (.s nm),.p (.l 3 mc f),.p (.l 1 bc g),.p (.l 11 c e),.p (.b ab),.p (.i .i64 nu),.p (.i .i64 de),.p (.i .i64 ho),.p (.i .i64 cl),.p (.i .i64 dl)]]=>match x with
  |.c (.p (.z (.slice none 0 0)))=>some (lO t [.i .i64 kd,.i .i64 fu,.i .i64 wi,.i .i64 off,.i .i64 k,.i .i64 n,.i .i64 d,.s nm,.l 3 mc f,.l 1 bc g,.l 11 c e]∧inR .i64 nu∧inR .i64 de,iV (oT [] t na ve ho cl dl nu de [.i .i64 kd,.i .i64 fu,.i .i64 wi,.i .i64 off,.i .i64 k,.i .i64 n,.i .i64 d,.s nm,.l 3 mc f,.l 1 bc g,.l 11 c e]))
  |_=>US D t [x,.a [.p (.s na),.p (.i .i64 ve),.p (.i .i64 kd),.p (.i .i64 fu),.p (.i .i64 wi),.p (.i .i64 off),.p (.i .i64 k),.p (.i .i64 n),.p (.i .i64 d),.p (.s nm),.p (.l 3 mc f),.p (.l 1 bc g),.p (.l 11 c e),.p (.b ab),.p (.i .i64 nu),.p (.i .i64 de),.p (.i .i64 ho),.p (.i .i64 cl),.p (.i .i64 dl)]]
 |_=>none
section
variable {G:Nat→Option Obj}
theorem fY{a b:Int}(h:b=a):mX (eL (V.c (C.p (PV.i .i64 a))) (iV b)):=by rw[h];exact⟨eL.refl _⟩
set_option maxRecDepth 100000 in
theorem aDS(hG:yM G)(t:Nat)(ht:t≤1000):dD Tryz.prog G 31 (zL t):=by
 intro args p v hm hp h;unfold zL at hm
 split at hm;rotate_left;· cases hm
 rename_i na ve kd fu wi off k n d nm mc f bc g c e ab nu de ho cl dl;obtain⟨rfl,rfl⟩:=bA hm;clear hm;obtain⟨hN,hnu,hde⟩:=hp
 have hs:bO Tryz.prog G (aLP t):=cD (by simp;exact⟨MU,PT,DV hG t ht⟩)
 refine fR Tryz.func31 (by kernel_rfl) rfl ?_ h
 refine cO.evH hs (tFo na ve kd fu wi off k n d nm mc f bc g c e ab nu de ho cl dl t) ?_;simp only[bD,aS,aI,bK,bX,bZ,decide_eq_true_eq,decide_eq_false_iff_not,true_and];refine⟨fun h0=>fY (by unfold pQ;rw[if_pos h0]),fun h0=>?_⟩
 have b1:qX na ve ho cl dl nu de=true→pQ t na ve ho cl dl nu de [.i .i64 kd,.i .i64 fu,.i .i64 wi,.i .i64 off,.i .i64 k,.i .i64 n,.i .i64 d,.s nm,.l 3 mc f,.l 1 bc g,.l 11 c e]=1:=fun h1=>by unfold pQ;rw[if_neg (by rw[h0];decide),if_pos h1]
 refine⟨fun h1=>fY (b1 ?_),fun h1=>⟨fun h2=>fY (b1 ?_),fun h2=>⟨fun h3=>fY (b1 ?_),fun h3=>⟨fun h4=>fY (b1 ?_),fun h4=>⟨fun h5=>fY (b1 ?_),fun h5=>⟨fun h6=>fY (b1 ?_),fun h6=>⟨fun h7=>fY (b1 ?_),fun h7=>⟨⟨hnu,hde⟩,fun h8=>fY (b1 ?_),fun h8=>⟨hN.1,fY ?_⟩⟩⟩⟩⟩⟩⟩⟩⟩
 ·unfold qX;rw[decide_eq_true h1];simp
 ·unfold qX;rw[decide_eq_true h2];simp
 ·unfold qX;rw[decide_eq_true h3];simp
 ·unfold qX;rw[decide_eq_true h4];simp
 ·unfold qX;rw[decide_eq_true h5];simp
 ·unfold qX;rw[decide_eq_true h6];simp
 ·unfold qX;rw[decide_eq_true h7];simp
 ·unfold qX;rw[h8];simp
 ·unfold pQ
  rw[if_neg (by rw[h0];decide),if_neg];unfold qX;rw[decide_eq_false h1,decide_eq_false h2,decide_eq_false h3,decide_eq_false h4,decide_eq_false h5,decide_eq_false h6,decide_eq_false h7,h8];simp
set_option maxRecDepth 100000 in
theorem aI3(t:Nat)(ht:t≤1000):dD Tryz.prog G 15 (zL t):=by
 intro args p v hm hp h;unfold zL at hm
 split at hm;rotate_left;· cases hm
 rename_i na ve kd fu wi off k n d nm mc f bc g c e ab nu de ho cl dl;obtain⟨rfl,rfl⟩:=bA hm;clear hm;obtain⟨hN,hnu,hde⟩:=hp
 have hs:bO Tryz.prog G (aL1 t):=cD (by simp;exact⟨UH,PS,zA t ht⟩)
 refine fR Tryz.func15 (by kernel_rfl) rfl ?_ h
 refine cO.evH hs (tWe na ve kd fu wi off k n d nm mc f bc g c e ab nu de ho cl dl t) ?_;simp only[bD,aS,aI,bK,bX,bZ,decide_eq_true_eq,decide_eq_false_iff_not,true_and];refine⟨fun h0=>fY (by unfold pQ;rw[if_pos h0]),fun h0=>⟨⟨hnu,hde⟩,?_⟩⟩
 have b1:qX na ve ho cl dl nu de=true→pQ t na ve ho cl dl nu de [.i .i64 kd,.i .i64 fu,.i .i64 wi,.i .i64 off,.i .i64 k,.i .i64 n,.i .i64 d,.s nm,.l 3 mc f,.l 1 bc g,.l 11 c e]=1:=fun h1=>by unfold pQ;rw[if_neg (by rw[h0];decide),if_pos h1]
 refine⟨fun h1=>fY (b1 ?_),fun h1=>⟨fun h2=>fY (b1 ?_),fun h2=>⟨fun h3=>fY (b1 ?_),fun h3=>⟨fun h4=>fY (b1 ?_),fun h4=>⟨fun h5=>fY (b1 ?_),fun h5=>⟨fun h6=>fY (b1 ?_),fun h6=>⟨fun h7=>fY (b1 ?_),fun h7=>⟨fun h8=>fY (b1 ?_),fun h8=>⟨hN,fY ?_⟩⟩⟩⟩⟩⟩⟩⟩⟩
 ·unfold qX;rw[decide_eq_true h1];simp
 ·unfold qX;rw[decide_eq_true h2];simp
 ·unfold qX;rw[decide_eq_true h3];simp
 ·unfold qX;rw[decide_eq_true h4];simp
 ·unfold qX;rw[decide_eq_true h5];simp
 ·unfold qX;rw[decide_eq_true h6];simp
 ·unfold qX;rw[decide_eq_true h7];simp
 ·unfold qX;rw[h8];simp
 ·unfold pQ
  rw[if_neg (by rw[h0];decide),if_neg,SV hN.1];unfold qX;rw[decide_eq_false h1,decide_eq_false h2,decide_eq_false h3,decide_eq_false h4,decide_eq_false h5,decide_eq_false h6,decide_eq_false h7,h8];simp
set_option maxRecDepth 100000 in
theorem aKO(hG:yM G){D:List De}(hD:wW D)(t:Nat)(ht:t≤1000):dD Tryz.prog G 11 (US D t):=by
 intro args p v hm hp h;unfold US at hm
 split at hm;rotate_left;· cases hm
 rename_i x na ve kd fu wi off k n d nm mc f bc g c e ab nu de ho cl dl
 split at hm;rotate_left;· cases hm
 rename_i q hx;obtain⟨rfl,rfl⟩:=bA hm;clear hm;obtain⟨hq,hN,hnu,hde⟩:=hp;refine lW.args (args':=[aX bQ 12 D,.a (pH na ve kd fu wi off k n d nm mc f bc g c e ab nu de ho cl dl)]) ?_ (.cons (wI hx hq) (.cons (.refl _) .nil))
 have hs:bO Tryz.prog G (aLB D t):=cD (by simp;exact⟨aDS hG t ht,aQ3 hG hD t ht,aQ9 hG t ht⟩)
 refine fR Tryz.func11 (by kernel_rfl) rfl ?_ h
 refine cO.evH hs (tRv D na ve kd fu wi off k n d nm mc f bc g c e ab nu de ho cl dl t) ?_;simp only[bD,aS,aI,bK,bne_iff_ne,bne_eq_false_iff_eq,ne_eq];refine⟨⟨hN,hnu,hde⟩,fun h1=>fY ?_,fun h1=>⟨⟨⟨trivial,fun _ _ _ _=>trivial⟩,hN⟩,fun h2=>fY ?_,fun h2=>⟨hN,fun h3=>fY ?_,fun h3=>fY ?_⟩⟩⟩
 ·unfold oT;rw[if_pos h1]
 ·unfold oT;rw[if_neg (fun e=>e h1)];unfold CN;rw[if_pos h2]
 ·unfold oT;rw[if_neg (fun e=>e h1)];unfold CN;rw[if_neg (fun e=>e h2),if_pos h3]
 ·unfold oT;rw[if_neg (fun e=>e h1)];unfold CN;rw[if_neg (fun e=>e h2),if_neg (by rw[h3];decide)]
set_option maxRecDepth 100000 in
theorem aKN(hG:yM G){D:List De}(hD:wW D)(t:Nat)(ht:t≤1000):dD Tryz.prog G 12 (US D t):=by
 intro args p v hm hp h;unfold US at hm
 split at hm;rotate_left;· cases hm
 rename_i x na ve kd fu wi off k n d nm mc f bc g c e ab nu de ho cl dl
 split at hm;rotate_left;· cases hm
 rename_i q hx;obtain⟨rfl,rfl⟩:=bA hm;clear hm;obtain⟨hq,hN,hnu,hde⟩:=hp;refine lW.args (args':=[aX bQ 12 D,.a (pH na ve kd fu wi off k n d nm mc f bc g c e ab nu de ho cl dl)]) ?_ (.cons (wI hx hq) (.cons (.refl _) .nil))
 have hs:bO Tryz.prog G (aLA D t):=cD (by simp;exact⟨aI3 t ht,aQ4 hD t ht,aNK t ht⟩)
 refine fR Tryz.func12 (by kernel_rfl) rfl ?_ h
 refine cO.evH hs (tRw D na ve kd fu wi off k n d nm mc f bc g c e ab nu de ho cl dl t) ?_;simp only[bD,aS,aI,bK,bne_iff_ne,bne_eq_false_iff_eq,ne_eq];refine⟨⟨hN,hnu,hde⟩,fun h1=>fY ?_,fun h1=>⟨⟨⟨trivial,fun _ _ _ _=>trivial⟩,hN⟩,fun h2=>fY ?_,fun h2=>⟨hN,fun h3=>fY ?_,fun h3=>fY ?_⟩⟩⟩
 ·unfold oT;rw[if_pos h1]
 ·unfold oT;rw[if_neg (fun e=>e h1)];unfold CN;rw[if_pos h2]
 ·unfold oT;rw[if_neg (fun e=>e h1)];unfold CN;rw[if_neg (fun e=>e h2),if_pos h3]
 ·unfold oT;rw[if_neg (fun e=>e h1)];unfold CN;rw[if_neg (fun e=>e h2),if_neg (by rw[h3];decide)]
theorem aCY{D:List De}{t:Nat}{f:FuncId}(h0:dD Tryz.prog G f (US [] t))(h1:dD Tryz.prog G f (US D t)):dD Tryz.prog G f (aAU D t):=by
 intro args p v hm hp h;unfold aAU at hm
 split at hm;rotate_left;· cases hm
 split at hm
 ·obtain⟨rfl,rfl⟩:=bA hm
  exact h0 _ _ _ rfl ⟨rfl,hp⟩ h
 ·exact h1 _ _ _ hm hp h
theorem PU:wW []:=⟨Nat.zero_le _,fun d h=>by cases h⟩
theorem aN1(hG:yM G){D:List De}(hD:wW D)(t:Nat)(ht:t≤1000):dD Tryz.prog G 11 (aAU D t):=aCY (aKO hG PU t ht) (aKO hG hD t ht)
theorem aN0(hG:yM G){D:List De}(hD:wW D)(t:Nat)(ht:t≤1000):dD Tryz.prog G 12 (aAU D t):=aCY (aKN hG PU t ht) (aKN hG hD t ht)
end
end Go.AE
