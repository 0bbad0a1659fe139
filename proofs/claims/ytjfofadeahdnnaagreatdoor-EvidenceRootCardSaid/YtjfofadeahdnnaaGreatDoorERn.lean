import Derived.Test.YtjfofadeahdnnaaGreatDoorERm
set_option linter.unusedVariables false
set_option linter.unusedSimpArgs false
namespace Go.AE
open _root_.ByteArray renaming mk→cG
open _root_.Int renaming ofNat→aY
open IntKind renaming i64→aC
open _root_.List renaming getD_eq_getElem?_getD→aD,getElem?_set_ne→iC,getElem?_take→fG,length_append→bJ,length_set→cD,length_take→dY,map_append→dT,map_congr_left→gR,range→cS,range_succ→iF
open _root_.Nat renaming le_refl→aJ,zero_le→bK
open Value renaming slice→eM
open Go.Proofs Go.Proofs.YtjfofadeahdnnaaGreatDoor Go.RowKit Wi
def XE(L:List Int):Mod
 |[x,.c (.p (.i .i64 m))]=>match PM x L with
  |some p=>some (p∧0≤m∧L.length≤9223372036854775807∧m≤1000000,aQ aU 1 (L.take m.toNat))
  |none=>none
 |_=>none
def aKB:Mod
 |[.c (.p (.i .i64 n))]=>some (inR .i64 n,aQ kC 2 (XL n))
 |_=>none
def XD(L:List Int):Mod
 |[x,.c (.p (.i .i64 a)),.c (.p (.i .i64 n))]=>match PM x L with
  |some p=>some (p∧inR .i64 a∧0≤n∧n≤1000∧L.length≤9223372036854775807,aQ aU 1 (lE L a n.toNat))
  |none=>none
 |_=>none
def XI(L:List Int):Mod
 |[x]=>match PM x L with
  |some p=>some (p,deV (mC L))
  |none=>none
 |_=>none
def aMD(L:List Int):Ext:=kH [(52,XE L)]
def aM5(M:List Int):Ext:=kH [(46,xS vL M)]
def aM9(L:List Int):Ext:=kH [(28,NW L),(31,aKB)]
theorem tIn(L:List Int)(m:Int):dI fR (dW Tryz.prog Tryz.f52) (pZ Tryz.f52 [aQ aU 1 L,iV m]) (eK [] (bU Tryz.prog Tryz.f52))=Tr.rq (0≤(↑0:Int)∧((↑0:Int)≤if m<(↑L.length:Int) then m else (↑L.length:Int))∧(if m<(↑L.length:Int) then m else (↑L.length:Int))≤(↑L.length:Int))
 (.rq
 ((0+((if m<(↑L.length:Int) then m else (↑L.length:Int)).toNat-0))*8≤140737488355328 ∧
 0+((if m<(↑L.length:Int) then m else (↑L.length:Int)).toNat-0)≤140737488355328 ∧
 ∀(e o:Nat),e<(if m<(↑L.length:Int) then m else (↑L.length:Int)).toNat-0→o<1→jH (C.p (bF aU L (e+0) o))=true)
 (.rq
 (0+(0+((if m<(↑L.length:Int) then m else (↑L.length:Int)).toNat-0))≤0+((if m<(↑L.length:Int) then m else (↑L.length:Int)).toNat-0) ∧
 ∀(e o:Nat),
 e<0+((if m<(↑L.length:Int) then m else (↑L.length:Int)).toNat-0) →
 o<1→zE (fU 0 (fun x x_1=>C.top) (fun e o=>C.p (PV.i aC (L.getD (e+(↑0:Int).toNat) default))) (e+0) o)=true)
 (.done .ret
 (St.mk [V.c (C.p (PV.l 1 (0+((if m<(↑L.length:Int) then m else (↑L.length:Int)).toNat-(↑0:Int).toNat)) fun e o=>pE (fU 0 (fun x x_1=>C.top) (fun e o=>C.p (PV.i aC (L.getD (e+(↑0:Int).toNat) default))) (e+0) o)))] [])))):=by kernel_rfl
theorem tLb(n:Int):dI aH0 (dW Tryz.prog Tryz.f31) (pZ Tryz.f31 [iV n]) (eK [] (bU Tryz.prog Tryz.f31))=Tr.rq (inR aC n∧aY 0<aY 4)
 (bT (dP n 4==1)
 (.rq (1≤1∧∀(e o:Nat),e<1→o<2→zE (aZ C.top [C.p (PV.s (cG #[104,111,115,116])),C.p (PV.s (cG #[97]))] ((e+0)*2+o))=true)
 (.done .ret (St.mk [V.c (C.p (PV.l 2 1 fun e o=>pE (aZ C.top [C.p (PV.s (cG #[104,111,115,116])),C.p (PV.s (cG #[97]))] ((e+0)*2+o))))] [])))
 (bT (dP n 4==2)
 (.rq (1≤1∧∀(e o:Nat),e<1→o<2→zE (aZ C.top [C.p (PV.s (cG #[104,111,115,116])),C.p (PV.s (cG #[98]))] ((e+0)*2+o))=true)
 (.done .ret (St.mk [V.c (C.p (PV.l 2 1 fun e o=>pE (aZ C.top [C.p (PV.s (cG #[104,111,115,116])),C.p (PV.s (cG #[98]))] ((e+0)*2+o))))] [])))
 (bT (dP n 4==3)
 (.rq
 (2≤2 ∧
 ∀(e o:Nat),
 e<2 →
 o<2 →
 zE
 (aZ C.top [C.p (PV.s (cG #[104,111,115,116])),C.p (PV.s (cG #[98])),C.p (PV.s (cG #[122,111,110,101])),C.p (PV.s (cG #[120]))]
 ((e+0)*2+o)) =
 true)
 (.done .ret
 (St.mk [V.c (C.p (PV.l 2 2 fun e o=>pE (aZ C.top [C.p (PV.s (cG #[104,111,115,116])),C.p (PV.s (cG #[98])),C.p (PV.s (cG #[122,111,110,101])),C.p (PV.s (cG #[120]))] ((e+0)*2+o))))] [])))
 (.done .ret (St.mk [V.c (C.p (PV.z (eM none 0 0)))] []))))):=by kernel_rfl
theorem tM1(L:List Int)(a n:Int):dI (aMD L) (dN 4 (dW Tryz.prog Tryz.f29)) (pZ Tryz.f29 [aQ aU 1 L,iV a,iV n]) (eK (iU 33 [1,2,7,8,9]) (bU Tryz.prog Tryz.f29))=Tr.rq ((L.length=L.length∧∀(e o:Nat),e<L.length→o<1→bF aU L e o=bF aU L e o)∧aY 0≤aY 8∧L.length≤9223372036854775807∧aY 8≤aY 1000000)
 (.done .normal
 (cQ 33 [(1,.c (.p (.i .i64 a))),(2,.c (.p (.i .i64 n))),(7,.c (.p (.z (eM none 0 0)))),(8,.c (.p (.l 1 (List.take (Int.toNat 8) L).length (bF aU (List.take (Int.toNat 8) L))))),(9,.c (.p (.i .i64 0)))] [])):=by kernel_rfl
theorem tM2(M out:List Int)(a n:Int)(k:Nat):dI fR (dN 2 (jM (dW Tryz.prog Tryz.f29) 4)) (cQ 33 [(1,iV a),(2,iV n),(7,.c (.sl 0 1 0 k)),(8,aQ aU 1 M),(9,iV (k:Nat))] [.row 3 1 k (aR aU out)]) (eK (iU 33 [1,2,7,8,9]) (bU Tryz.prog Tryz.f29))=bT (decide ((↑k:Int)<n))
 (.done .normal
 (cQ 33 [(1,.c (.p (.i .i64 a))),(2,.c (.p (.i .i64 n))),(7,.c (.sl 0 1 0 k)),(8,.c (.p (.l 1 M.length (bF aU M)))),(9,.c (.p (.i .i64 (↑k:Int))))] [.row 3 1 k fun e o=>cI [0] (aR aU out e o)]))
 (.done (.exit 0)
 (cQ 33 [(1,.c (.p (.i .i64 a))),(2,.c (.p (.i .i64 n))),(7,.c (.sl 0 1 0 k)),(8,.c (.p (.l 1 M.length (bF aU M)))),(9,.c (.p (.i .i64 (↑k:Int))))] [.row 3 1 k fun e o=>cI [0] (aR aU out e o)])):=by kernel_rfl
theorem tM3(M out:List Int)(a n:Int)(k:Nat):dI fR (dN 2 (iI (inr (aZ .skip (jM (dW Tryz.prog Tryz.f29) 4) 2)))) (cQ 33 [(1,iV a),(2,iV n),(7,.c (.sl 0 1 0 k)),(8,aQ aU 1 M),(9,iV (k:Nat))] [.row 3 1 k (aR aU out)]) (eK (iU 33 [1,2,7,8,9,10]) (bU Tryz.prog Tryz.f29))=Tr.rq ((0+M.length)*8≤140737488355328∧0+M.length≤140737488355328∧∀(e o:Nat),e<M.length→o<1→jH (C.p (bF aU M e o))=true)
 (.rq (0+M.length=0+M.length)
 (.rq (2≤2)
 (.rq
 ((0+M.length+2)*8≤140737488355328 ∧
 0+M.length+2≤140737488355328∧∀(e o:Nat),e<2→o<1→jH (kY [C.p (PV.i aC a),C.p (PV.i aC (↑k:Int))] 1 2 (e+0) o)=true)
 (.done .normal
 (cQ 33 [(1,.c (.p (.i .i64 a))),(2,.c (.p (.i .i64 n))),(7,.c (.sl 0 1 0 k)),(8,.c (.p (.l 1 M.length (bF aU M)))),(9,.c (.p (.i .i64 (↑k:Int)))),(10,.c (.sl 1 1 0 (0+M.length+2)))] [.row 3 1 k fun e o=>cI [0,3] (aR aU out e o),.row 3 1 (0+M.length+2) fun e o=>cI [0,3] (fU (0+M.length) (fU 0 (fun x x_1=>C.top) fun e o=>C.p (PV.i aC (M.getD e default))) (fun e o=>aZ C.top [C.p (PV.i aC a),C.p (PV.i aC (↑k:Int))] ((e+0)*1+o)) e o)]))))):=by kernel_rfl
theorem tM4(M N out:List Int)(a n:Int)(k:Nat):dI (aM5 N) (bZ 2 (iI (inr (aZ .skip (jM (dW Tryz.prog Tryz.f29) 4) 2)))) (cQ 33 [(1,iV a),(2,iV n),(7,.c (.sl 0 1 0 k)),(8,aQ aU 1 M),(9,iV (k:Nat)),(10,aQ aU 1 N)] [.row 3 1 k (aR aU out)]) (eK (iU 33 [1,2,7,8,9]) (bU Tryz.prog Tryz.f29))=Tr.rq ((N.length=N.length∧∀(e o:Nat),e<N.length→o<1→bF aU N e o=bF aU N e o)∧cG #[118,105,101,119]=vL∧4≤1000∧N.length≤1000000)
 (.rq (0≤tB vL N∧aY 0<aY 1000003)
 (.rq (k=k)
 (.rq (1≤1)
 (.rq
 ((k+1)*8≤140737488355328 ∧
 k+1≤140737488355328∧∀(e o:Nat),e<1→o<1→jH (kY [C.p (PV.i aC (aC.wrap (tB vL N%1000003)))] 1 1 (e+0) o)=true)
 (.done .normal
 (cQ 33 [(1,.c (.p (.i .i64 a))),(2,.c (.p (.i .i64 n))),(7,.c (.sl 0 1 0 (k+1))),(8,.c (.p (.l 1 M.length (bF aU M)))),(9,.c (.p (.i .i64 (↑k:Int))))] [.row 3 1 (k+1) fun e o=>cI [2] (fU k (aR aU out) (fun e o=>aZ C.top [C.p (PV.i aC (aC.wrap (tB vL N%1000003)))] ((e+0)*1+o)) e o)])))))):=by kernel_rfl
theorem tM5(M out:List Int)(a n:Int)(k q:Nat):dI fR (bZ 3 (jM (dW Tryz.prog Tryz.f29) 4)) (cQ 33 [(1,iV a),(2,iV n),(7,.c (.sl 0 1 0 q)),(8,aQ aU 1 M),(9,iV (k:Nat))] [.row 3 1 q (aR aU out)]) (eK (iU 33 [1,2,7,8,9]) (bU Tryz.prog Tryz.f29))=Tr.rq (inR aC ((↑k:Int)+1))
 (.done .normal
 (cQ 33 [(1,.c (.p (.i .i64 a))),(2,.c (.p (.i .i64 n))),(7,.c (.sl 0 1 0 q)),(8,.c (.p (.l 1 M.length (bF aU M)))),(9,.c (.p (.i .i64 ((↑k:Int)+1))))] [.row 3 1 q fun e o=>cI [0] (aR aU out e o)])):=by kernel_rfl
theorem tM6(M out:List Int)(a n:Int)(k:Nat):dI fR (bZ 5 (dW Tryz.prog Tryz.f29)) (cQ 33 [(1,iV a),(2,iV n),(7,.c (.sl 0 1 0 k)),(8,aQ aU 1 M),(9,iV (k:Nat))] [.row 3 1 k (aR aU out)]) (eK [] (bU Tryz.prog Tryz.f29))=Tr.rq (0+k≤k∧∀(e o:Nat),e<k→o<1→zE (aR aU out (e+0) o)=true) (.done .ret (St.mk [V.c (C.p (PV.l 1 k fun e o=>pE (aR aU out (e+0) o)))] [])):=by kernel_rfl
theorem aTZ(L:List Int):dI fR (dN 2 (dW Tryz.prog Tryz.f30)) (pZ Tryz.f30 [aQ aU 1 L]) (eK (iU 52 [0,2,3]) (bU Tryz.prog Tryz.f30))=Tr.done X.normal
 (cQ 52 [(0,.c (.p (.l 1 L.length (bF aU L)))),(2,.c (.ptr 0 0)),(3,.c (.sl 1 1 0 2))] [.cells 47 [.p (.s (cG #[])),.p (.z (eM none 0 0)),.p (.i .i64 0),.p (.i .i64 0),.p (.i .i64 0),.p (.i .i64 0),.p (.i .i64 0),.p (.i .i64 0),.p (.i .i64 0),.p (.i .i64 0),.p (.i .i64 0),.p (.i .i64 0)],.row 9 1 2 fun e o=>cI [0,1] (C.p (PV.s (aZ (cG #[]) [cG #[99,112,117],cG #[109,101,109]] e)))]):=by kernel_rfl
theorem aTY(L:List Int)(wo:Nat→ByteArray):dI (aM9 L) (bZ 2 (dW Tryz.prog Tryz.f30)) (cQ 52 [(0,aQ aU 1 L),(2,.c (.ptr 0 0)),(3,.c (.p (.l 1 2 (fun e _=>.s (wo e)))))] [.cells 47 (lA [.s ⟨#[]⟩,.z (.slice none 0 0),.i .i64 0,.i .i64 0,.i .i64 0,.i .i64 0,.i .i64 0,.i .i64 0,.i .i64 0,.i .i64 0,.i .i64 0,.i .i64 0])]) (eK [] (bU Tryz.prog Tryz.f30))=Tr.rq ((L.length=L.length∧∀(e o:Nat),e<L.length→o<1→bF aU L e o=bF aU L e o)∧aY 0<aY 10)
 (.rq (inR aC (eL L 0 10-9))
 (.rq ((L.length=L.length∧∀(e o:Nat),e<L.length→o<1→bF aU L e o=bF aU L e o)∧aY 0<aY 5)
 (.rq (inR aC (eL L 1 5-3))
 (.rq ((L.length=L.length∧∀(e o:Nat),e<L.length→o<1→bF aU L e o=bF aU L e o)∧aY 0<aY 7)
 (.rq ((L.length=L.length∧∀(e o:Nat),e<L.length→o<1→bF aU L e o=bF aU L e o)∧aY 0<aY 2)
 (.rq (0≤eL L 3 2∧eL L 3 2<(↑2:Int))
 (.rq ((L.length=L.length∧∀(e o:Nat),e<L.length→o<1→bF aU L e o=bF aU L e o)∧aY 0<aY 4)
 (.rq (inR aC (eL L 4 4))
 (.rq ((L.length=L.length∧∀(e o:Nat),e<L.length→o<1→bF aU L e o=bF aU L e o)∧aY 0<aY 17)
 (.rq (inR aC (eL L 0 10-9+eL L 5 17))
 (.rq ((L.length=L.length∧∀(e o:Nat),e<L.length→o<1→bF aU L e o=bF aU L e o)∧aY 0<aY 4)
 (.rq (inR aC (eL L 1 5-3+eL L 6 4))
 (.rq ((L.length=L.length∧∀(e o:Nat),e<L.length→o<1→bF aU L e o=bF aU L e o)∧aY 0<aY 14)
 (.rq (inR aC (eL L 2 7+eL L 7 14))
 (.rq ((L.length=L.length∧∀(e o:Nat),e<L.length→o<1→bF aU L e o=bF aU L e o)∧aY 0<aY 40)
 (.done .ret
 (St.mk [V.a [C.p (PV.s (wo (eL L 3 2).toNat)),C.p (PV.l 2 (XL (eL L 4 4)).length (bF kC (XL (eL L 4 4)))),C.p (PV.i aC 1),C.p (PV.i aC 0),C.p (PV.i aC 0),C.p (PV.i aC (eL L 0 10-9)),C.p (PV.i aC (eL L 0 10-9+eL L 5 17)),C.p (PV.i aC (eL L 1 5-3)),C.p (PV.i aC (eL L 1 5-3+eL L 6 4)),C.p (PV.i aC (eL L 2 7)),C.p (PV.i aC (eL L 2 7+eL L 7 14)),C.p (PV.i aC (eL L 8 40))]] []))))))))))))))))):=by kernel_rfl
theorem kF{α:Type}[Inhabited α]{enc:α→Nat→PV}{sz n:Nat}{f:Nat→Nat→PV}{L:List α}(hn:n=L.length)(h:∀e o,e<L.length→o<sz→f e o=bF enc L e o):lO (.c (.p (.l sz n f))) (aQ enc sz L):=by
 subst hn;exact lO.p (nM.l fun e o he ho=>nM.of_eq (h e o he ho))
theorem yJ(x:Int):∀e o:Nat,e<1→o<1→jH (kY [C.p (.i .i64 x)] 1 1 (e+0) o)=true:=by
 intro e o he ho
 obtain rfl:e=0:=by omega
 obtain rfl:o=0:=by omega
 rfl
theorem UU(x y:Int):∀e o:Nat,e<2→o<1→jH (kY [C.p (.i .i64 x),C.p (.i .i64 y)] 1 2 (e+0) o)=true:=by
 intro e o he ho
 obtain rfl:o=0:=by omega
 match e,he with
 |0,_|1,_=>rfl
theorem YW(x:Int):∀o:Nat,o<1→(fun e o:Nat=>aZ C.top [C.p (.i .i64 x)] ((e+0)*1+o)) 0 o=.p (aU x o):=by
 intro o ho
 obtain rfl:o=0:=by omega
 rfl
theorem BU(M:List Int)(x y:Int)(ρ:List Nat){f0 f1:Nat→Nat→C}{n e o:Nat}(hn:n=M.length)(h1:∀e,e<M.length→f1 e o=.p (bF aU M e o))(he:e<(M++[x,y]).length)(ho:o<1):cI ρ (fU n f1 (fun e o=>aZ C.top [C.p (.i .i64 x),C.p (.i .i64 y)] ((e+0)*1+o)) e o)=.p (bF aU (M++[x,y]) e o):=by
 subst hn;rw[bJ]at he
 have he:e<M.length+2:=he
 obtain rfl:o=0:=by omega
 unfold fU
 by_cases c:e<M.length
 ·rw[if_pos c,h1 e c]
  show C.p _=_
  unfold bF;rw[aD,aD,List.getElem?_append_left c]
 ·rw[if_neg c]
  unfold bF;rw[aD,List.getElem?_append_right (by omega)]
  obtain⟨j,rfl⟩:∃j,e=M.length+j:=⟨e-M.length,by omega⟩
  rw[Nat.add_sub_cancel_left]
  match j,(by omega:j<2) with
  |0,_|1,_=>rfl
theorem WV(L:List Int)(a:Int)(k:Nat):lE L a (k+1)=lE L a k++[tB vL (L.take 8++[a,(k:Int)])%1000003]:=by unfold lE;rw[iF,dT];rfl
theorem aK4{x:Int}(h:0≤x):aC.wrap (x%1000003)=x%1000003:=wrap_in (k:=.i64) (by simp only[inR];omega)
section
variable {G:Nat→Option Obj}
set_option maxRecDepth 100000 in
theorem aJP(L:List Int):hO Tryz.prog G 52 (XE L):=by
 intro args p v hm hp h;unfold XE at hm
 split at hm;rotate_left;· cases hm
 split at hm;rotate_left;· cases hm
 rename_i x m _ q hx;obtain⟨rfl,rfl⟩:=dB hm;clear hm;obtain⟨hq,h0,h1,h2⟩:=hp;refine lW.args (args':=[aQ aU 1 L,iV m]) ?_ (.cons (rA hx hq) (.cons (.refl _) .nil))
 refine oY Tryz.func52 (by kernel_rfl) rfl ?_ h
 refine dK.evH aV (tIn L m) ?_
 have hn:∀z:Int,z=(if m<(L.length:Int) then m else (L.length:Int))→0≤z∧z≤L.length∧z.toNat=(L.take m.toNat).length:=by
  rintro z rfl;rw[dY];split<;>omega
 obtain⟨a1,a2,a3⟩:=hn _ rfl
 obtain⟨z,hz⟩:∃z:Int,(if m<(L.length:Int) then m else (L.length:Int))=z:=⟨_,rfl⟩
 rw[hz]at a1 a2 a3;simp only[aX,aL,gX,hz]
 have b1:(L.take m.toNat).length≤L.length:=by rw[dY];omega
 refine⟨⟨by omega,by omega,by omega⟩,⟨by omega,by omega,fun _ _ _ _=>rfl⟩,⟨by omega,fun e o he ho=>by unfold fU;rw[if_neg (by omega)];rfl⟩,⟨?_⟩⟩
 refine kF (by show 0+(z.toNat-0)=_;omega) fun e o he ho=>?_
 unfold fU;rw[if_neg (by omega)]
 show PV.i aC (L.getD (e+0-0+0) default)=PV.i aC ((L.take m.toNat).getD e default)
 have he2:=he
 rw[dY]at he2;rw[aD,aD,fG,if_pos (by omega)];rfl
set_option maxRecDepth 100000 in
theorem aLT:hO Tryz.prog G 31 aKB:=by
 intro args p v hm hp h;unfold aKB at hm
 split at hm;rotate_left;· cases hm
 rename_i n;obtain⟨rfl,rfl⟩:=dB hm;clear hm
 refine oY Tryz.func31 (by kernel_rfl) rfl ?_ h
 refine dK.evH sO (tLb n) ?_
 have two:∀e o:Nat,e<1→o<2→e=0∧(o=0∨o=1):=fun e o he ho=>⟨by omega,by omega⟩
 simp only[eV,aX,aL,gX,beq_iff_eq,beq_eq_false_iff_ne,ne_eq];refine⟨⟨hp,by decide⟩,fun c1=>⟨⟨by decide,fun e o he ho=>?_⟩,⟨?_⟩⟩,fun c1=>⟨fun c2=>⟨⟨by decide,fun e o he ho=>?_⟩,⟨?_⟩⟩,fun c2=>⟨fun c3=>⟨⟨by decide,fun e o he ho=>?_⟩,⟨?_⟩⟩,fun c3=>⟨?_⟩⟩⟩⟩
 ·obtain⟨rfl,rfl|rfl⟩:=two e o he ho<;>rfl
 ·unfold XL
  rw[if_pos c1]
  refine kF rfl fun e o he ho=>?_
  obtain⟨rfl,rfl|rfl⟩:=two e o he ho<;>rfl
 ·obtain⟨rfl,rfl|rfl⟩:=two e o he ho<;>rfl
 ·unfold XL
  rw[if_neg c1,if_pos c2]
  refine kF rfl fun e o he ho=>?_
  obtain⟨rfl,rfl|rfl⟩:=two e o he ho<;>rfl
 ·have:(e=0∨e=1)∧(o=0∨o=1):=⟨by omega,by omega⟩
  obtain⟨rfl|rfl,rfl|rfl⟩:=this<;>rfl
 ·unfold XL
  rw[if_neg c1,if_neg c2,if_pos c3]
  refine kF rfl fun e o he ho=>?_
  have he:e<2:=he
  have:(e=0∨e=1)∧(o=0∨o=1):=⟨by omega,by omega⟩
  obtain⟨rfl|rfl,rfl|rfl⟩:=this<;>rfl
 ·unfold XL
  rw[if_neg c1,if_neg c2,if_neg c3];exact lO.p (nM.nil 2 _)
theorem TD(L:List Int):cF Tryz.prog G (aMD L):=eB (by simp;exact aJP L)
theorem SY(M:List Int):cF Tryz.prog G (aM5 M):=eB (by simp;exact WK vL M)
theorem TA{L:List Int}(hI:tC L):cF Tryz.prog G (aM9 L):=eB (by simp;exact⟨ZZ hI,aLT⟩)
set_option maxRecDepth 100000 in
theorem aJN(L:List Int):hO Tryz.prog G 29 (XD L):=by
 intro args p v hm hp h;unfold XD at hm
 split at hm;rotate_left;· cases hm
 split at hm;rotate_left;· cases hm
 rename_i x a n0 _ q hx;obtain⟨rfl,rfl⟩:=dB hm;clear hm;obtain⟨hq,ha,h0,h1,h2⟩:=hp
 obtain⟨n,rfl⟩:∃n:Nat,n0=n:=⟨n0.toNat,by omega⟩
 rw[show (n:Int).toNat=n from rfl];refine lW.args (args':=[aQ aU 1 L,iV a,iV n]) ?_ (.cons (rA hx hq) (.cons (.refl _) (.cons (.refl _) .nil)))
 refine oY Tryz.func29 (by kernel_rfl) rfl ?_ h
 refine dK.evG (TD L) 4 (tM1 L a n) ?_;simp only[aX,aL,bE];refine⟨⟨⟨trivial,fun _ _ _ _=>trivial⟩,by decide,h2,by decide⟩,⟨?_⟩⟩;rw[show Int.toNat 8=8 from rfl]
 obtain⟨M,hM⟩:∃M,L.take 8=M:=⟨_,rfl⟩
 have hMl:M.length≤8:=by rw[←hM,dY];omega
 rw[hM]
 refine dK.loop' (l:=bZ 4 (dW Tryz.prog Tryz.f29)) (b:=inr (inr (aZ .skip (dW Tryz.prog Tryz.f29) 4))) (r:=bZ 5 (dW Tryz.prog Tryz.f29)) (id:=0) (by kernel_rfl) (σ:=Nat)
   (fun k=>(fun(out:List Int) (n:Int) (k:Nat)=>cQ 33 [(1,iV a),(2,iV n),(7,.c (.sl 0 1 0 k)),(8,aQ aU 1 M),(9,iV (k:Nat))] [.row 3 1 k (aR aU out)]) (lE L a k) n k) (fun k=>k≤n) (fun k=>n-k) 0 (bK _) ((kE 3 1 (aR aU []) 7 (by kernel_rfl)).trans (aP (by kernel_rfl))) ?_
 rintro k hk Q1 q1n q1e -
 have hl:=sK L a k
 refine dK.evG aV 2 (tM2 M (lE L a k) a n k) ?_;simp only[eV,aX,aL,bE,jK,decide_eq_true_eq,decide_eq_false_iff_not];refine⟨fun c=>⟨?_⟩,fun c=>⟨q1e _ ?_⟩⟩
 ·refine dK.blk' (l:=bZ 2 (jM (dW Tryz.prog Tryz.f29) 4)) (id:=1) (a:=inr (aZ .skip (jM (dW Tryz.prog Tryz.f29) 4) 2)) (r:=bZ 3 (jM (dW Tryz.prog Tryz.f29) 4)) (by kernel_rfl) ?_
  intro Q2 q2n q2e _
  refine dK.pre (aP (st':=(fun(out:List Int) (n:Int) (k:Nat)=>cQ 33 [(1,iV a),(2,iV n),(7,.c (.sl 0 1 0 k)),(8,aQ aU 1 M),(9,iV (k:Nat))] [.row 3 1 k (aR aU out)]) (lE L a k) n k) (by kernel_rfl)) ?_
  refine dK.evG aV 2 (tM3 M (lE L a k) a n k) ?_;simp only[aX,aL,bE];refine⟨⟨by omega,by omega,fun _ _ _ _=>rfl⟩,trivial,aJ _,⟨by omega,by omega,UU _ _⟩,⟨?_⟩⟩
  obtain⟨N,hN⟩:∃N,M++[a,(k:Int)]=N:=⟨_,rfl⟩
  have hNl:N.length=M.length+2:=by rw[←hN,bJ];rfl
  have e0:0+M.length+2=N.length:=by omega
  rw[e0]
  refine dK.pre ((pC (id:=1) (ty:=3) (sz:=1) (n:=N.length) (f:=fun e o=>cI [0,3] (fU (0+M.length) (fU 0 (fun x x_1=>C.top) fun e o=>C.p (PV.i aC (M.getD e default))) (fun e o=>aZ C.top [C.p (PV.i aC a),C.p (PV.i aC (k:Int))] ((e+0)*1+o)) e o)) (bF aU N) (by kernel_rfl) (fun e o he ho=>?_) (fun e o he ho=>?_) (ps:=[(0,N.length)]) (by kernel_rfl) (by simp)).trans ((iT (iU 33 [1,2,7,8,9,10]) _).trans (aP (st':=(fun(N out:List Int) (n:Int) (k:Nat)=>cQ 33 [(1,iV a),(2,iV n),(7,.c (.sl 0 1 0 k)),(8,aQ aU 1 M),(9,iV (k:Nat)),(10,aQ aU 1 N)] [.row 3 1 k (aR aU out)]) N (lE L a k) n k) (by kernel_rfl)))) ?_
  ·rw[BU M a k [0,3] (f0:=fun _ _=>C.top) (by omega) (fun e he=>by unfold fU;rw[if_neg (by omega)];rfl) (by rw[hN];exact he) ho];rfl
  ·rw[BU M a k [0,3] (f0:=fun _ _=>C.top) (by omega) (fun e he=>by unfold fU;rw[if_neg (by omega)];rfl) (by rw[hN];exact he) ho,hN];exact nM.refl _
  refine dK.evH (SY N) (tM4 M N (lE L a k) a n k) ?_
  have hsu:=yN vL N
  simp only[aX,aL,bE,aK4 hsu.1];refine⟨⟨⟨trivial,fun _ _ _ _=>trivial⟩,rfl,by decide,by omega⟩,⟨hsu.1,by decide⟩,trivial,aJ _,⟨by omega,by omega,yJ _⟩,⟨q2n _ ?_⟩⟩
  have e1:lE L a (k+1)=lE L a k++[tB vL N%1000003]:=by rw[WV,hM,hN]
  refine dK.pre (show cL G _ ((fun(out:List Int) (n:Int) (k q:Nat)=>cQ 33 [(1,iV a),(2,iV n),(7,.c (.sl 0 1 0 q)),(8,aQ aU 1 M),(9,iV (k:Nat))] [.row 3 1 q (aR aU out)]) (lE L a (k+1)) n k (k+1)) from by
   rw[e1]
   exact gU ⟨⟨rfl,rfl,rfl,fun e o he ho=>oT (ρ:=[2]) hl (YW _) he ho⟩,trivial⟩) ?_
  refine dK.evH aV (tM5 M (lE L a (k+1)) a n k (k+1)) ?_;simp only[aX,aL,bE,inR]
  exact⟨by omega,⟨q1n (k+1) _ (by omega) (by omega) (aP (by kernel_rfl))⟩⟩
 ·obtain rfl:k=n:=by omega
  refine dK.pre (aP (st':=(fun(out:List Int) (n:Int) (k:Nat)=>cQ 33 [(1,iV a),(2,iV n),(7,.c (.sl 0 1 0 k)),(8,aQ aU 1 M),(9,iV (k:Nat))] [.row 3 1 k (aR aU out)]) (lE L a k) k k) (by kernel_rfl)) ?_
  refine dK.evH aV (tM6 M (lE L a k) a k k) ?_;simp only[aX,aL,gX];exact⟨⟨by omega,fun _ _ _ _=>rfl⟩,⟨kF hl.symm fun e o he ho=>rfl⟩⟩
set_option maxRecDepth 100000 in
theorem aJV{L:List Int}(hI:tC L):hO Tryz.prog G 30 (XI L):=by
 intro args p v hm hp h;unfold XI at hm
 split at hm;rotate_left;· cases hm
 split at hm;rotate_left;· cases hm
 rename_i x _ q hx;obtain⟨rfl,rfl⟩:=dB hm;clear hm;refine lW.args (args':=[aQ aU 1 L]) ?_ (.cons (rA hx hp) .nil)
 refine oY Tryz.func30 (by kernel_rfl) rfl ?_ h
 refine dK.evG aV 2 (aTZ L) ?_;simp only[aL,bE];refine⟨?_⟩
 refine dK.pre ((pC (id:=1) (ty:=9) (sz:=1) (n:=2) (f:=fun e o=>cI [0,1] (C.p (PV.s (aZ (cG #[]) [cG #[99,112,117],cG #[109,101,109]] e)))) (fun e o=>.s ((fun e:Nat=>tV (e:Int)) e)) (by kernel_rfl) (fun e o he ho=>rfl) (fun e o he ho=>?_) (ps:=[(0,2)]) (by kernel_rfl) (by simp)).trans ((iT (iU 52 [0,2,3]) _).trans (aP (st':=(fun wo:Nat→ByteArray=>cQ 52 [(0,aQ aU 1 L),(2,.c (.ptr 0 0)),(3,.c (.p (.l 1 2 (fun e _=>.s (wo e)))))] [.cells 47 (lA [.s ⟨#[]⟩,.z (.slice none 0 0),.i .i64 0,.i .i64 0,.i .i64 0,.i .i64 0,.i .i64 0,.i .i64 0,.i .i64 0,.i .i64 0,.i .i64 0,.i .i64 0])]) (fun e:Nat=>tV (e:Int))) (by kernel_rfl)))) ?_
 ·match e,he with
  |0,_|1,_=>exact nM.of_eq rfl
 refine dK.evH (TA hI) (aTY L fun e:Nat=>tV (e:Int)) ?_
 have p0:=fJ L 0 (m:=10) (by omega)
 have p1:=fJ L 1 (m:=5) (by omega)
 have p2:=fJ L 2 (m:=7) (by omega)
 have p3:=fJ L 3 (m:=2) (by omega)
 have p4:=fJ L 4 (m:=4) (by omega)
 have p5:=fJ L 5 (m:=17) (by omega)
 have p6:=fJ L 6 (m:=4) (by omega)
 have p7:=fJ L 7 (m:=14) (by omega)
 have hw:tV (((eL L 3 2).toNat:Nat):Int)=tV (eL L 3 2):=by rw[Int.toNat_of_nonneg p3.1]
 have tr:L.length=L.length∧∀e o:Nat,e<L.length→o<1→True:=⟨rfl,fun _ _ _ _=>trivial⟩
 simp only[aX,aL,gX,inR,hw];refine⟨⟨⟨trivial,tr.2⟩,by decide⟩,by omega,⟨⟨trivial,tr.2⟩,by decide⟩,by omega,⟨⟨trivial,tr.2⟩,by decide⟩,⟨⟨trivial,tr.2⟩,by decide⟩,⟨by omega,by omega⟩,⟨⟨trivial,tr.2⟩,by decide⟩,by omega,⟨⟨trivial,tr.2⟩,by decide⟩,by omega,⟨⟨trivial,tr.2⟩,by decide⟩,by omega,⟨⟨trivial,tr.2⟩,by decide⟩,by omega,⟨⟨trivial,tr.2⟩,by decide⟩,⟨lO.of_eq rfl⟩⟩
end
def aA6(d:De)(L:List Int):sT
 |[x,y],h=>match SL x d,PM y L with
  |some p,some q=>some (p∧q∧Sm d,.c (.sl (gA h) 1 0 (gZ d)),gE (.row 3 1 (gZ d) fun e o=>.p (bF aU (JD d L) e o)) h)
  |_,_=>none
 |_,_=>none
def aO2(d:De)(L:List Int):Mod
 |[x,y]=>match SL x d,PM y L with
  |some p,some q=>some (p∧q∧Sm d,aQ aU 1 (sM d L))
  |_,_=>none
 |_=>none
def LA(L:List Int):Ext:=kH [(28,NW L)]
theorem aRX(d:De)(L:List Int):dI fR (dN 1 (dN 6 (dW Tryz.prog Tryz.f53))) (pZ Tryz.f53 [deV d,aQ aU 1 L]) (eK (iU 52 [1,2]) [])=Tr.done X.normal
 (cQ 52 [(1,.c (.p (.l 1 L.length (bF aU L)))),(2,.c (.ptr 0 0))] [.cells 47 [.p (.s d.nm),.p (.l 2 d.L.length (bF kC d.L)),.p (.i .i64 d.u0),.p (.i .i64 d.u1),.p (.i .i64 d.u2),.p (.i .i64 d.lo),.p (.i .i64 d.hi),.p (.i .i64 d.dn),.p (.i .i64 d.up),.p (.i .i64 d.fi),.p (.i .i64 d.la),.p (.i .i64 d.bu)]]):=by kernel_rfl
theorem aRW(d:De)(L:List Int):dI (LA L) (dN 3 (bZ 1 (dN 6 (dW Tryz.prog Tryz.f53)))) (cQ 52 [(1,aQ aU 1 L),(2,.c (.lp 12 1 (iY d) 0 0))] []) (eK (iU 52 [1,2,5,6,7]) [])=Tr.rq (inR aC (d.hi-d.lo))
 (.rq (inR aC (d.hi-d.lo+1))
 (.rq ((L.length=L.length∧∀(e o:Nat),e<L.length→o<1→bF aU L e o=bF aU L e o)∧0<d.hi-d.lo+1)
 (.rq (inR aC (d.lo+eL L 0 (d.hi-d.lo+1)))
 (.done .normal
 (cQ 52 [(1,.c (.p (.l 1 L.length (bF aU L)))),(2,.c (.lp 12 1 (iY d) 0 0)),(5,.c (.p (.i .i64 (d.lo+eL L 0 (d.hi-d.lo+1))))),(6,.c (.sl 0 1 0 1)),(7,.c (.p (.i .i64 d.fi)))] [.row 3 1 1 fun e o=>cI [0] (aZ C.top [C.p (PV.i aC (d.lo+eL L 0 (d.hi-d.lo+1)))] (e*1+o))]))))):=by kernel_rfl
theorem aRV(d:De)(L out:List Int)(v t:Int)(k:Nat):dI fR (dN 2 (jM (dN 6 (dW Tryz.prog Tryz.f53)) 4)) (cQ 52 [(1,aQ aU 1 L),(2,.c (.lp 12 1 (iY d) 0 0)),(5,iV v),(6,.c (.sl 0 1 0 k)),(7,iV t)] [.row 3 1 k (aR aU out)]) (eK (iU 52 [1,2,5,6,7]) [])=bT (decide (t<d.la))
 (.done .normal
 (cQ 52 [(1,.c (.p (.l 1 L.length (bF aU L)))),(2,.c (.lp 12 1 (iY d) 0 0)),(5,.c (.p (.i .i64 v))),(6,.c (.sl 0 1 0 k)),(7,.c (.p (.i .i64 t)))] [.row 3 1 k fun e o=>cI [0] (aR aU out e o)]))
 (.done (.exit 0)
 (cQ 52 [(1,.c (.p (.l 1 L.length (bF aU L)))),(2,.c (.lp 12 1 (iY d) 0 0)),(5,.c (.p (.i .i64 v))),(6,.c (.sl 0 1 0 k)),(7,.c (.p (.i .i64 t)))] [.row 3 1 k fun e o=>cI [0] (aR aU out e o)])):=by kernel_rfl
theorem aRU(d:De)(L out:List Int)(v t:Int)(k:Nat):dI (LA L) (bZ 2 (jM (dN 6 (dW Tryz.prog Tryz.f53)) 4)) (cQ 52 [(1,aQ aU 1 L),(2,.c (.lp 12 1 (iY d) 0 0)),(5,iV v),(6,.c (.sl 0 1 0 k)),(7,iV t)] [.row 3 1 k (aR aU out)]) (eK (iU 52 [1,2,5,6,7]) [])=Tr.rq (inR aC (v+d.dn))
 (.rq (inR aC (t-d.fi))
 (.rq (inR aC (t-d.fi+1))
 (.rq (inR aC (d.up-d.dn))
 (.rq (inR aC (d.up-d.dn+1))
 (.rq ((L.length=L.length∧∀(e o:Nat),e<L.length→o<1→bF aU L e o=bF aU L e o)∧0<d.up-d.dn+1)
 (.rq (inR aC (v+d.dn+eL L (t-d.fi+1) (d.up-d.dn+1)))
 (.rq (k=k)
 (.rq (1≤1)
 (.rq
 ((k+1)*8≤140737488355328 ∧
 k+1≤140737488355328∧∀(e o:Nat),e<1→o<1→jH (kY [C.p (PV.i aC (v+d.dn+eL L (t-d.fi+1) (d.up-d.dn+1)))] 1 1 (e+0) o)=true)
 (.rq (inR aC (t+1))
 (.done .normal
 (cQ 52 [(1,.c (.p (.l 1 L.length (bF aU L)))),(2,.c (.lp 12 1 (iY d) 0 0)),(5,.c (.p (.i .i64 (v+d.dn+eL L (t-d.fi+1) (d.up-d.dn+1))))),(6,.c (.sl 0 1 0 (k+1))),(7,.c (.p (.i .i64 (t+1))))] [.row 3 1 (k+1) fun e o=>cI [2] (fU k (aR aU out) (fun e o=>aZ C.top [C.p (PV.i aC (v+d.dn+eL L (t-d.fi+1) (d.up-d.dn+1)))] ((e+0)*1+o)) e o)])))))))))))):=by kernel_rfl
theorem aRT(d:De)(L out:List Int)(v t:Int)(k:Nat):dI fR (bZ 5 (dN 6 (dW Tryz.prog Tryz.f53))) (cQ 52 [(1,aQ aU 1 L),(2,.c (.lp 12 1 (iY d) 0 0)),(5,iV v),(6,.c (.sl 0 1 0 k)),(7,iV t)] [.row 3 1 k (aR aU out)]) (eK (iU 52 [4]) [])=Tr.done X.normal
 (cQ 52 [(4,.c (.sl 0 1 0 k))] [.row 3 1 k fun e o=>cI [0] (aR aU out e o)]):=by kernel_rfl
theorem aT5(d:De)(L:List Int):dI fR (dN 1 (dW Tryz.prog Tryz.f32)) (pZ Tryz.f32 [deV d,aQ aU 1 L]) (eK (iU 87 [1,2]) (bU Tryz.prog Tryz.f32))=Tr.done X.normal
 (cQ 87 [(1,.c (.p (.l 1 L.length (bF aU L)))),(2,.c (.ptr 0 0))] [.cells 47 [.p (.s d.nm),.p (.l 2 d.L.length (bF kC d.L)),.p (.i .i64 d.u0),.p (.i .i64 d.u1),.p (.i .i64 d.u2),.p (.i .i64 d.lo),.p (.i .i64 d.hi),.p (.i .i64 d.dn),.p (.i .i64 d.up),.p (.i .i64 d.fi),.p (.i .i64 d.la),.p (.i .i64 d.bu)]]):=by kernel_rfl
theorem aT4(d:De)(L:List Int):dI (rT [(53,aA6 d L)]) (dN 2 (bZ 1 (dW Tryz.prog Tryz.f32))) (cQ 87 [(1,aQ aU 1 L),(2,.c (.lp 12 1 (iY d) 0 0))] []) (eK (iU 87 [1,2,5,6]) (bU Tryz.prog Tryz.f32))=Tr.rq
 (((d.L.length=d.L.length∧∀(e o:Nat),e<d.L.length→o<2→bF kC d.L e o=bF kC d.L e o) ∧
 d.nm=d.nm∧d.u0=d.u0∧d.u1=d.u1∧d.u2=d.u2∧d.lo=d.lo∧d.hi=d.hi∧d.dn=d.dn∧d.up=d.up∧d.fi=d.fi∧d.la=d.la∧d.bu=d.bu) ∧
 (L.length=L.length∧∀(e o:Nat),e<L.length→o<1→bF aU L e o=bF aU L e o)∧Sm d)
 (.done .normal
 (cQ 87 [(1,.c (.p (.l 1 L.length (bF aU L)))),(2,.c (.lp 12 1 (iY d) 0 0)),(5,.c (.sl 0 1 0 (gZ d))),(6,.c (.p (.i .i64 1)))] [.row 3 1 (gZ d) fun e o=>cI [0] (C.p (PV.i aC ((JD d L).getD e default)))])):=by kernel_rfl
theorem aT3(d:De)(L W:List Int)(n i:Nat):dI fR (dN 2 (jM (dW Tryz.prog Tryz.f32) 3)) (cQ 87 [(1,aQ aU 1 L),(2,.c (.lp 12 1 (iY d) 0 0)),(5,.c (.sl 0 1 0 n)),(6,iV (i:Nat))] [.row 3 1 n (aR aU W)]) (eK (iU 87 [1,2,5,6]) (bU Tryz.prog Tryz.f32))=bT (decide ((↑i:Int)<(↑n:Int)))
 (.done .normal
 (cQ 87 [(1,.c (.p (.l 1 L.length (bF aU L)))),(2,.c (.lp 12 1 (iY d) 0 0)),(5,.c (.sl 0 1 0 n)),(6,.c (.p (.i .i64 (↑i:Int))))] [.row 3 1 n fun e o=>cI [0] (aR aU W e o)]))
 (.done (.exit 0)
 (cQ 87 [(1,.c (.p (.l 1 L.length (bF aU L)))),(2,.c (.lp 12 1 (iY d) 0 0)),(5,.c (.sl 0 1 0 n)),(6,.c (.p (.i .i64 (↑i:Int))))] [.row 3 1 n fun e o=>cI [0] (aR aU W e o)])):=by kernel_rfl
theorem aT2(d:De)(L W:List Int)(n i:Nat):dI (LA L) (dN 1 (iI (inr (aZ .skip (jM (dW Tryz.prog Tryz.f32) 3) 2)))) (cQ 87 [(1,aQ aU 1 L),(2,.c (.lp 12 1 (iY d) 0 0)),(5,.c (.sl 0 1 0 n)),(6,iV (i:Nat))] [.row 3 1 n (aR aU W)]) (eK (iU 87 [1,2,5,6,7]) (bU Tryz.prog Tryz.f32))=Tr.rq (inR aC ((↑i:Int)-1))
 (.rq (0≤(↑i:Int)-1∧(↑i:Int)-1<(↑n:Int))
 (.rq (((↑i:Int)-1).toNat+0<n)
 (.rq (inR aC (W.getD (((↑i:Int)-1).toNat+0) default+d.dn))
 (.rq (inR aC (d.up-d.dn))
 (.rq (inR aC (d.up-d.dn+1))
 (.rq ((L.length=L.length∧∀(e o:Nat),e<L.length→o<1→bF aU L e o=bF aU L e o)∧0<d.up-d.dn+1)
 (.rq (inR aC (W.getD (((↑i:Int)-1).toNat+0) default+d.dn+eL L (↑i:Int) (d.up-d.dn+1)))
 (.done .normal
 (cQ 87 [(1,.c (.p (.l 1 L.length (bF aU L)))),(2,.c (.lp 12 1 (iY d) 0 0)),(5,.c (.sl 0 1 0 n)),(6,.c (.p (.i .i64 (↑i:Int)))),(7,.c (.p (.i .i64 (W.getD (((↑i:Int)-1).toNat+0) default+d.dn+eL L (↑i:Int) (d.up-d.dn+1)))))] [.row 3 1 n fun e o=>cI [0] (aR aU W e o)]))))))))):=by kernel_rfl
theorem aT1(d:De)(L W:List Int)(v:Int)(n i:Nat):dI fR (dN 1 (bZ 1 (iI (inr (aZ .skip (jM (dW Tryz.prog Tryz.f32) 3) 2))))) (cQ 87 [(1,aQ aU 1 L),(2,.c (.lp 12 1 (iY d) 0 0)),(5,.c (.sl 0 1 0 n)),(6,iV (i:Nat)),(7,iV v)] [.row 3 1 n (aR aU W)]) (eK (iU 87 [1,2,5,6,7]) (bU Tryz.prog Tryz.f32))=Tr.rq (inR aC ((↑i:Int)-1))
 (.rq (0≤(↑i:Int)-1∧(↑i:Int)-1<(↑n:Int))
 (.rq (((↑i:Int)-1).toNat+0<n)
 (.rq (inR aC (W.getD (((↑i:Int)-1).toNat+0) default+d.up))
 (.rq (inR aC ((↑i:Int)-1))
 (.rq (0≤(↑i:Int)-1∧(↑i:Int)-1<(↑n:Int))
 (.rq (((↑i:Int)-1).toNat+0<n)
 (.rq (inR aC (W.getD (((↑i:Int)-1).toNat+0) default+d.dn))
 (.rq (0≤(↑i:Int)∧(↑i:Int)<(↑n:Int))
 (.rq ((↑i:Int).toNat+0<n)
 (.done .normal
 (cQ 87 [(1,.c (.p (.l 1 L.length (bF aU L)))),(2,.c (.lp 12 1 (iY d) 0 0)),(5,.c (.sl 0 1 0 n)),(6,.c (.p (.i .i64 (↑i:Int)))),(7,.c (.p (.i .i64 v)))] [.row 3 1 n fun e o=>cI [0] (if e=(↑i:Int).toNat+0 then if 0≤o∧o<1 then aZ C.top [C.p (PV.i aC (if (if W.getD (((↑i:Int)-1).toNat+0) default+d.up<if d.hi<v then d.hi else v then W.getD (((↑i:Int)-1).toNat+0) default+d.up else if d.hi<v then d.hi else v)<W.getD (((↑i:Int)-1).toNat+0) default+d.dn then W.getD (((↑i:Int)-1).toNat+0) default+d.dn else if W.getD (((↑i:Int)-1).toNat+0) default+d.up<if d.hi<v then d.hi else v then W.getD (((↑i:Int)-1).toNat+0) default+d.up else if d.hi<v then d.hi else v))] (o-0) else aR aU W e o else aR aU W e o)]))))))))))):=by kernel_rfl
theorem aT0(d:De)(L W:List Int)(v:Int)(n i:Nat):dI fR (bZ 2 (iI (inr (aZ .skip (jM (dW Tryz.prog Tryz.f32) 3) 2)))) (cQ 87 [(1,aQ aU 1 L),(2,.c (.lp 12 1 (iY d) 0 0)),(5,.c (.sl 0 1 0 n)),(6,iV (i:Nat)),(7,iV v)] [.row 3 1 n (aR aU W)]) (eK (iU 87 [1,2,5,6]) (bU Tryz.prog Tryz.f32))=bT (decide (v<d.lo))
 (.rq (inR aC ((↑i:Int)-1))
 (.rq (0≤(↑i:Int)-1∧(↑i:Int)-1<(↑n:Int))
 (.rq (((↑i:Int)-1).toNat+0<n)
 (.rq (inR aC (W.getD (((↑i:Int)-1).toNat+0) default+d.dn))
 (.rq (inR aC ((↑i:Int)-1))
 (.rq (0≤(↑i:Int)-1∧(↑i:Int)-1<(↑n:Int))
 (.rq (((↑i:Int)-1).toNat+0<n)
 (.rq (inR aC (W.getD (((↑i:Int)-1).toNat+0) default+d.up))
 (.rq (0≤(↑i:Int)∧(↑i:Int)<(↑n:Int))
 (.rq ((↑i:Int).toNat+0<n)
 (.done .normal
 (cQ 87 [(1,.c (.p (.l 1 L.length (bF aU L)))),(2,.c (.lp 12 1 (iY d) 0 0)),(5,.c (.sl 0 1 0 n)),(6,.c (.p (.i .i64 (↑i:Int))))] [.row 3 1 n fun e o=>cI [0] (if e=(↑i:Int).toNat+0 then if 0≤o∧o<1 then aZ C.top [C.p (PV.i aC (if W.getD (((↑i:Int)-1).toNat+0) default+d.dn<if W.getD (((↑i:Int)-1).toNat+0) default+d.up<d.lo then W.getD (((↑i:Int)-1).toNat+0) default+d.up else d.lo then if W.getD (((↑i:Int)-1).toNat+0) default+d.up<d.lo then W.getD (((↑i:Int)-1).toNat+0) default+d.up else d.lo else W.getD (((↑i:Int)-1).toNat+0) default+d.dn))] (o-0) else aR aU W e o else aR aU W e o)]))))))))))))
 (.done .normal
 (cQ 87 [(1,.c (.p (.l 1 L.length (bF aU L)))),(2,.c (.lp 12 1 (iY d) 0 0)),(5,.c (.sl 0 1 0 n)),(6,.c (.p (.i .i64 (↑i:Int))))] [.row 3 1 n fun e o=>cI [0] (aR aU W e o)])):=by kernel_rfl
theorem aSZ(d:De)(L W:List Int)(n i:Nat):dI fR (bZ 3 (jM (dW Tryz.prog Tryz.f32) 3)) (cQ 87 [(1,aQ aU 1 L),(2,.c (.lp 12 1 (iY d) 0 0)),(5,.c (.sl 0 1 0 n)),(6,iV (i:Nat))] [.row 3 1 n (aR aU W)]) (eK (iU 87 [1,2,5,6]) (bU Tryz.prog Tryz.f32))=Tr.rq (inR aC ((↑i:Int)+1))
 (.done .normal
 (cQ 87 [(1,.c (.p (.l 1 L.length (bF aU L)))),(2,.c (.lp 12 1 (iY d) 0 0)),(5,.c (.sl 0 1 0 n)),(6,.c (.p (.i .i64 ((↑i:Int)+1))))] [.row 3 1 n fun e o=>cI [0] (aR aU W e o)])):=by kernel_rfl
theorem aSY(d:De)(L W:List Int)(n i:Nat):dI fR (bZ 4 (dW Tryz.prog Tryz.f32)) (cQ 87 [(1,aQ aU 1 L),(2,.c (.lp 12 1 (iY d) 0 0)),(5,.c (.sl 0 1 0 n)),(6,iV (i:Nat))] [.row 3 1 n (aR aU W)]) (eK [] (bU Tryz.prog Tryz.f32))=Tr.rq (0+n≤n∧∀(e o:Nat),e<n→o<1→zE (aR aU W (e+0) o)=true) (.done .ret (St.mk [V.c (C.p (PV.l 1 n fun e o=>pE (aR aU W (e+0) o)))] [])):=by kernel_rfl
theorem aBA(d:De)(L:List Int)(k:Nat):((cS k).map (jX d L)).length=k:=by simp
theorem UW(d:De)(L:List Int)(k:Nat):(cS (k+1)).map (jX d L)=(cS k).map (jX d L)++[jX d L k]:=by rw[iF,dT];rfl
theorem ZK{W:List Int}{i:Nat}{x:Int}(hi:i<W.length)(ρ:List Nat){e o:Nat}(ho:o<1){j:Nat}(hj:j=i):cI ρ (if e=j then if 0≤o∧o<1 then aZ C.top [C.p (PV.i aC x)] (o-0) else aR aU W e o else aR aU W e o)=aR aU (W.set i x) e o:=by
 subst hj
 obtain rfl:o=0:=by omega
 by_cases c:e=j
 ·subst c
  rw[if_pos rfl,if_pos ⟨aJ _,Nat.zero_lt_one⟩]
  show C.p _=C.p _
  congr 1
  show PV.i aC x=PV.i aC ((W.set e x).getD e default)
  rw[aD,List.getElem?_set_self hi];rfl
 ·rw[if_neg c]
  show C.p _=C.p _
  congr 1
  show PV.i aC (W.getD e default)=PV.i aC ((W.set j x).getD e default)
  rw[aD,aD,iC (fun h=>c h.symm)]
def rP(d:De)(L:List Int)(i:Nat):List Int:=(cS (gZ d)).map fun j=>if j<i then tZ d L j else jX d L j
theorem mV(d:De)(L:List Int)(i:Nat):(rP d L i).length=gZ d:=by unfold rP;simp
theorem FZ(d:De)(L:List Int)(i:Nat){j:Nat}(h:j<gZ d):(rP d L i).getD j default=if j<i then tZ d L j else jX d L j:=by
 unfold rP;rw[aD,List.getElem?_map,List.getElem?_range h];rfl
theorem IJ{A B:List Int}(hl:A.length=B.length)(h:∀k,k<A.length→A.getD k default=B.getD k default):A=B:=by
 apply List.ext_getElem hl;intro k h1 h2
 have:=h k h1
 simpa[h1,h2] using this
theorem aG5(d:De)(L:List Int):rP d L 1=JD d L:=by
 unfold rP JD
 refine gR fun j _=>?_
 split
 ·obtain rfl:j=0:=by omega
  rfl
 ·rfl
theorem aCO(d:De)(L:List Int){i:Nat}(h:i<gZ d):(rP d L i).set i (tZ d L i)=rP d L (i+1):=by
 refine IJ (by rw[cD,mV,mV]) fun k hk=>?_
 rw[cD,mV]at hk;rw[FZ d L (i+1) hk]
 by_cases c:k=i
 ·subst c
  rw[if_pos (by omega),aD,List.getElem?_set_self (by rw[mV];exact hk)];rfl
 ·rw[aD,iC (fun h=>c h.symm),←aD,FZ d L i hk]
  by_cases c2:k<i
  ·rw[if_pos c2,if_pos (by omega)]
  ·rw[if_neg c2,if_neg (by omega)]
theorem aG6(d:De)(L:List Int){i:Nat}(h:gZ d≤i):rP d L i=sM d L:=by
 unfold rP sM
 refine gR fun j hj=>?_
 have hj:j<gZ d:=List.mem_range.1 hj
 rw[if_pos (by omega)]
section
variable {G:Nat→Option Obj}
theorem aL0{d:De}{n:Nat}{l:List (Nat×V)}:∀o,o<12→∃x,aZ C.top (lA (IR d)) o=.p x∧nM x (iY d 0 o):=fun o ho=>by
 match o,ho with
 |0,_|1,_|2,_|3,_|4,_|5,_|6,_|7,_|8,_|9,_|10,_|11,_=>exact⟨_,rfl,nM.refl _⟩
theorem oK{L:List Int}(hI:tC L):cF Tryz.prog G (LA L):=eB (by simp;exact ZZ hI)
set_option maxRecDepth 100000 in
theorem aNI(d:De){L:List Int}(hI:tC L):lV Tryz.prog G 53 (aA6 d L):=by
 intro args h p v h' hm hp;unfold aA6 at hm
 split at hm;rotate_left;· cases hm
 split at hm;rotate_left;· cases hm
 rename_i x y _ _ q1 q2 hx hy;obtain⟨rfl,rfl,rfl⟩:=mZ hm;clear hm;obtain⟨hq1,hq2,hs⟩:=hp;refine lW.args (args':=[deV d,aQ aU 1 L]) ?_ (.cons (BO hx hq1) (.cons (rA hy hq2) .nil))
 have hr:=tE L hs
 have hs2:=hs
 obtain⟨s1,s2,s3⟩:=hs2
 have p0:=fJ L 0 (m:=d.hi-d.lo+1) (by omega)
 have hsp:gZ d=(d.la-d.fi+1).toNat:=rfl
 refine aL2 (r:=4) (pre:=(dN 6 (dW Tryz.prog Tryz.f53))) Tryz.func53 (by kernel_rfl) (by kernel_rfl) (by kernel_rfl) rfl ?_ h
 refine dK.evG aV 1 (aRX d L) ?_;simp only[aL,bE];refine⟨?_⟩
 refine dK.pre ((pD (j:=2) (id:=0) (off:=0) (n:=12) (cs:=lA (IR d)) (iY d) (by rfl) (by rfl) rfl (aL0 (n:=0) (l:=[]))).trans ((iT (iU 52 [1,2]) _).trans (aP (st':=cQ 52 [(1,aQ aU 1 L),(2,.c (.lp 12 1 (iY d) 0 0))] []) (by kernel_rfl)))) ?_
 refine dK.evG (oK hI) 3 (aRW d L) ?_;simp only[aX,aL,bE,inR];refine⟨by omega,by omega,⟨⟨trivial,fun _ _ _ _=>trivial⟩,by omega⟩,by omega,⟨?_⟩⟩
 refine dK.loop' (l:=bZ 4 (dN 6 (dW Tryz.prog Tryz.f53))) (b:=inr (inr (aZ .skip (dN 6 (dW Tryz.prog Tryz.f53)) 4))) (r:=bZ 5 (dN 6 (dW Tryz.prog Tryz.f53))) (id:=0) (by kernel_rfl) (σ:=Nat)
   (fun k=>(fun(out:List Int) (v t:Int) (k:Nat)=>cQ 52 [(1,aQ aU 1 L),(2,.c (.lp 12 1 (iY d) 0 0)),(5,iV v),(6,.c (.sl 0 1 0 k)),(7,iV t)] [.row 3 1 k (aR aU out)]) ((cS (k+1)).map (jX d L)) (jX d L k) (d.fi+k) (k+1)) (fun k=>d.fi+k≤d.la) (fun k=>gZ d-k) 0 (show d.fi+((0:Nat):Int)≤d.la by omega) (by
     show cL G _ ((fun(out:List Int) (v t:Int) (k:Nat)=>cQ 52 [(1,aQ aU 1 L),(2,.c (.lp 12 1 (iY d) 0 0)),(5,iV v),(6,.c (.sl 0 1 0 k)),(7,iV t)] [.row 3 1 k (aR aU out)]) [jX d L 0] (jX d L 0) (d.fi+((0:Nat):Int)) 1)
     rw[show d.fi+((0:Nat):Int)=d.fi by omega]
     exact gU ⟨⟨rfl,rfl,rfl,fun e o he ho=>by
      obtain rfl:e=0:=by omega
      obtain rfl:o=0:=by omega
      rfl⟩,trivial⟩) ?_
 rintro k hk Q1 q1n q1e -
 have hrk:=hr k
 have hrk1:=hr (k+1)
 have hl:=aBA d L (k+1)
 refine dK.evG aV 2 (aRV d L ((cS (k+1)).map (jX d L)) (jX d L k) (d.fi+k) (k+1)) ?_;simp only[eV,aX,aL,bE,jK,decide_eq_true_eq,decide_eq_false_iff_not];refine⟨fun c=>⟨?_⟩,fun c=>⟨q1e _ ?_⟩⟩
 ·refine dK.pre (aP (st':=(fun(out:List Int) (v t:Int) (k:Nat)=>cQ 52 [(1,aQ aU 1 L),(2,.c (.lp 12 1 (iY d) 0 0)),(5,iV v),(6,.c (.sl 0 1 0 k)),(7,iV t)] [.row 3 1 k (aR aU out)]) ((cS (k+1)).map (jX d L)) (jX d L k) (d.fi+k) (k+1)) (by kernel_rfl)) ?_
  refine dK.evH (oK hI) (aRU d L ((cS (k+1)).map (jX d L)) (jX d L k) (d.fi+k) (k+1)) ?_
  have et:d.fi+(k:Int)-d.fi+1=(k:Int)+1:=by omega
  have ew:jX d L k+d.dn+eL L ((k:Int)+1) (d.up-d.dn+1)=jX d L (k+1):=rfl
  simp only[aX,aL,bE,inR,et,ew];refine⟨by omega,by omega,by omega,by omega,by omega,⟨⟨trivial,fun _ _ _ _=>trivial⟩,by omega⟩,by omega,trivial,aJ _,⟨by omega,by omega,yJ _⟩,by omega,⟨q1n (k+1) _ (show d.fi+((k+1:Nat):Int)≤d.la by omega) (show gZ d-(k+1)<gZ d-k by omega) ?_⟩⟩
  show cL G _ ((fun(out:List Int) (v t:Int) (k:Nat)=>cQ 52 [(1,aQ aU 1 L),(2,.c (.lp 12 1 (iY d) 0 0)),(5,iV v),(6,.c (.sl 0 1 0 k)),(7,iV t)] [.row 3 1 k (aR aU out)]) ((cS (k+1+1)).map (jX d L)) (jX d L (k+1)) (d.fi+((k+1:Nat):Int)) (k+1+1))
  rw[UW d L (k+1),show d.fi+((k+1:Nat):Int)=d.fi+(k:Int)+1 by omega];exact gU ⟨⟨rfl,rfl,rfl,fun e o he ho=>oT (ρ:=[2]) hl (YW _) he ho⟩,trivial⟩
 ·refine dK.pre (aP (st':=(fun(out:List Int) (v t:Int) (k:Nat)=>cQ 52 [(1,aQ aU 1 L),(2,.c (.lp 12 1 (iY d) 0 0)),(5,iV v),(6,.c (.sl 0 1 0 k)),(7,iV t)] [.row 3 1 k (aR aU out)]) ((cS (k+1)).map (jX d L)) (jX d L k) (d.fi+k) (k+1)) (by kernel_rfl)) ?_
  refine dK.evH aV (aRT d L ((cS (k+1)).map (jX d L)) (jX d L k) (d.fi+k) (k+1)) ?_;simp only[aL,bE]
  have ek:k+1=gZ d:=by omega
  have ez:JD d L=(cS (k+1)).map (jX d L):=by unfold JD;rw[ek]
  rw[ez,←ek];exact⟨⟨trivial,by simp,0,_,rfl,rfl,fun e o he ho=>rfl⟩⟩
set_option maxRecDepth 100000 in
set_option maxHeartbeats 2000000 in
theorem aQ0(d:De){L:List Int}(hI:tC L):hO Tryz.prog G 32 (aO2 d L):=by
 intro args p v hm hp h;unfold aO2 at hm
 split at hm;rotate_left;· cases hm
 split at hm;rotate_left;· cases hm
 rename_i x y _ _ q1 q2 hx hy;obtain⟨rfl,rfl⟩:=dB hm;clear hm;obtain⟨hq1,hq2,hs⟩:=hp;refine lW.args (args':=[deV d,aQ aU 1 L]) ?_ (.cons (BO hx hq1) (.cons (rA hy hq2) .nil))
 have hr:=wH L hs
 have hs2:=hs
 obtain⟨s1,s2,s3⟩:=hs2
 have hsp:gZ d=(d.la-d.fi+1).toNat:=rfl
 have hws:cF Tryz.prog G (rT [(53,aA6 d L)]):=iX (by simp;exact aNI d hI)
 refine oY Tryz.func32 (by kernel_rfl) rfl ?_ h
 refine dK.evG aV 1 (aT5 d L) ?_;simp only[aL,bE];refine⟨?_⟩
 refine dK.pre ((pD (j:=2) (id:=0) (off:=0) (n:=12) (cs:=lA (IR d)) (iY d) (by rfl) (by rfl) rfl (aL0 (n:=0) (l:=[]))).trans ((iT (iU 87 [1,2]) _).trans (aP (st':=cQ 87 [(1,aQ aU 1 L),(2,.c (.lp 12 1 (iY d) 0 0))] []) (by kernel_rfl)))) ?_
 refine dK.evG hws 2 (aT4 d L) ?_;simp only[aX,aL,bE,and_true,true_and];refine⟨⟨fun _ _ _ _=>trivial,fun _ _ _ _=>trivial,hs⟩,⟨?_⟩⟩
 refine dK.loop' (l:=bZ 3 (dW Tryz.prog Tryz.f32)) (b:=inr (inr (aZ .skip (dW Tryz.prog Tryz.f32) 3))) (r:=bZ 4 (dW Tryz.prog Tryz.f32)) (id:=0) (by kernel_rfl) (σ:=Nat)
   (fun i=>(fun(W:List Int) (n i:Nat)=>cQ 87 [(1,aQ aU 1 L),(2,.c (.lp 12 1 (iY d) 0 0)),(5,.c (.sl 0 1 0 n)),(6,iV (i:Nat))] [.row 3 1 n (aR aU W)]) (rP d L i) (gZ d) i) (fun i=>1≤i∧i≤gZ d) (fun i=>gZ d-i) 1 ⟨aJ _,by omega⟩ (by
     show cL G _ ((fun(W:List Int) (n i:Nat)=>cQ 87 [(1,aQ aU 1 L),(2,.c (.lp 12 1 (iY d) 0 0)),(5,.c (.sl 0 1 0 n)),(6,iV (i:Nat))] [.row 3 1 n (aR aU W)]) (rP d L 1) (gZ d) 1)
     rw[aG5]
     exact aP (by kernel_rfl)) ?_
 rintro i ⟨hi1,hi2⟩ Q1 q1n q1e -;refine dK.evG aV 2 (aT3 d L (rP d L i) (gZ d) i) ?_;simp only[eV,aX,aL,bE,jK,decide_eq_true_eq,decide_eq_false_iff_not];refine⟨fun c=>⟨?_⟩,fun c=>⟨q1e _ ?_⟩⟩
 ·have hlt:i<gZ d:=by omega
  obtain⟨k,rfl⟩:∃k,i=k+1:=⟨i-1,by omega⟩
  have hrk:=hr k
  have hrk1:=hr (k+1)
  refine dK.blk' (l:=bZ 2 (jM (dW Tryz.prog Tryz.f32) 3)) (id:=1) (a:=inr (aZ .skip (jM (dW Tryz.prog Tryz.f32) 3) 2)) (r:=bZ 3 (jM (dW Tryz.prog Tryz.f32) 3)) (by kernel_rfl) ?_
  intro Q2 q2n q2e _
  have hWl:=mV d L (k+1)
  have hstep:=aCO d L hlt
  have hg:(rP d L (k+1)).getD k default=tZ d L k:=by rw[FZ d L (k+1) (by omega),if_pos (by omega)]
  generalize rP d L (k+1)=W at hWl hstep hg ⊢
  refine dK.pre (aP (st':=(fun(W:List Int) (n i:Nat)=>cQ 87 [(1,aQ aU 1 L),(2,.c (.lp 12 1 (iY d) 0 0)),(5,.c (.sl 0 1 0 n)),(6,iV (i:Nat))] [.row 3 1 n (aR aU W)]) W (gZ d) (k+1)) (by kernel_rfl)) ?_
  refine dK.evG (oK hI) 1 (aT2 d L W (gZ d) (k+1)) ?_
  have e1:(((k+1:Nat):Int)-1).toNat+0=k:=by omega
  have pk:=fJ L ((k+1:Nat):Int) (m:=d.up-d.dn+1) (by omega)
  have e3:((k+1:Nat):Int)=(k:Int)+1:=by omega
  obtain⟨y0,hy0⟩:∃y0,eL L ((k:Int)+1) (d.up-d.dn+1)=y0:=⟨_,rfl⟩
  rw[e3,hy0]at pk
  have es:tZ d L (k+1)=IL d (tZ d L k) (tZ d L k+d.dn+y0):=by rw[←hy0];rfl
  rw[es]at hstep
  generalize tZ d L k=p at hg hrk es hstep
  clear hy es;simp only[aX,aL,bE,inR,e1,hg];rw[e3,hy0];refine⟨by omega,by omega,by omega,by omega,by omega,by omega,⟨⟨trivial,fun _ _ _ _=>trivial⟩,by omega⟩,by omega,⟨?_⟩⟩
  obtain⟨v,hv⟩:∃v,p+d.dn+y0=v:=⟨_,rfl⟩
  rw[hv]at hstep ⊢
  refine dK.pre (aP (st':=(fun(W:List Int) (v:Int) (n i:Nat)=>cQ 87 [(1,aQ aU 1 L),(2,.c (.lp 12 1 (iY d) 0 0)),(5,.c (.sl 0 1 0 n)),(6,iV (i:Nat)),(7,iV v)] [.row 3 1 n (aR aU W)]) W v (gZ d) (k+1)) (by kernel_rfl)) ?_
  refine dK.evG aV 1 (aT1 d L W v (gZ d) (k+1)) ?_
  have e2:(((k+1:Nat):Int)).toNat+0=k+1:=rfl
  simp only[aX,aL,bE,inR,e1,hg];refine⟨by omega,by omega,by omega,by omega,by omega,by omega,by omega,by omega,by omega,by omega,⟨?_⟩⟩
  obtain⟨x1,hx1⟩:∃x1,mxZ (mnZ (mnZ v d.hi) (p+d.up)) (p+d.dn)=x1:=⟨_,rfl⟩
  have hx1':(if (if p+d.up<if d.hi<v then d.hi else v then p+d.up else if d.hi<v then d.hi else v)<p+d.dn then p+d.dn else if p+d.up<if d.hi<v then d.hi else v then p+d.up else if d.hi<v then d.hi else v)=x1:=hx1
  rw[hx1'];refine dK.pre (show cL G _ ((fun(W:List Int) (v:Int) (n i:Nat)=>cQ 87 [(1,aQ aU 1 L),(2,.c (.lp 12 1 (iY d) 0 0)),(5,.c (.sl 0 1 0 n)),(6,iV (i:Nat)),(7,iV v)] [.row 3 1 n (aR aU W)]) (W.set (k+1) x1) v (gZ d) (k+1)) from gU ⟨⟨rfl,rfl,rfl,fun e o he ho=>ZK (by omega) [0] ho e2⟩,trivial⟩) ?_
  have hg2:(W.set (k+1) x1).getD k default=p:=by
   rw[aD,iC (by omega),←aD];exact hg
  refine dK.evH aV (aT0 d L (W.set (k+1) x1) v (gZ d) (k+1)) ?_
  have fin:∀st:St,cL G st ((fun(W:List Int) (n i:Nat)=>cQ 87 [(1,aQ aU 1 L),(2,.c (.lp 12 1 (iY d) 0 0)),(5,.c (.sl 0 1 0 n)),(6,iV (i:Nat))] [.row 3 1 n (aR aU W)]) (rP d L (k+1+1)) (gZ d) (k+1))→dK Tryz.prog G (bU Tryz.prog Tryz.f32) (aQ aU 1 (sM d L)) (bZ 3 (jM (dW Tryz.prog Tryz.f32) 3)) st Q1:=fun st hst=>by
   refine dK.pre hst ?_;refine dK.evH aV (aSZ d L (rP d L (k+1+1)) (gZ d) (k+1)) ?_;simp only[aX,aL,bE,inR]
   exact⟨by omega,⟨q1n (k+1+1) _ ⟨by omega,by omega⟩ (by omega) (aP (by kernel_rfl))⟩⟩
  simp only[eV,aX,aL,bE,inR,e1,hg2,decide_eq_true_eq,decide_eq_false_iff_not];refine⟨fun c2=>⟨by omega,by omega,by omega,by omega,by omega,by omega,by omega,by omega,by omega,by omega,⟨q2n _ (fin _ ?_)⟩⟩,fun c2=>⟨q2n _ (fin _ ?_)⟩⟩
  ·have e4:IL d p v=mxZ (p+d.dn) (mnZ d.lo (p+d.up)):=by unfold IL;rw[if_pos c2]
   have e5:(W.set (k+1) x1).set (k+1) (IL d p v)=rP d L (k+1+1):=by rw[List.set_set];exact hstep
   rw[←e5,e4];exact gU ⟨⟨rfl,rfl,rfl,fun e o he ho=>ZK (by rw[cD];omega) [0] ho e2⟩,trivial⟩
  ·have e4:IL d p v=x1:=by unfold IL;rw[if_neg c2];exact hx1
   rw[e4]at hstep;rw[←hstep]
   exact aP (by kernel_rfl)
 ·obtain rfl:i=gZ d:=by omega
  refine dK.pre (aP (st':=(fun(W:List Int) (n i:Nat)=>cQ 87 [(1,aQ aU 1 L),(2,.c (.lp 12 1 (iY d) 0 0)),(5,.c (.sl 0 1 0 n)),(6,iV (i:Nat))] [.row 3 1 n (aR aU W)]) (rP d L (gZ d)) (gZ d) (gZ d)) (by kernel_rfl)) ?_
  refine dK.evH aV (aSY d L (rP d L (gZ d)) (gZ d) (gZ d)) ?_;simp only[aX,aL,gX];rw[←aG6 d L (aJ _)];exact⟨⟨by omega,fun _ _ _ _=>rfl⟩,⟨kF (mV d L _).symm fun e o he ho=>rfl⟩⟩
end
def aO4(d:De)(W L:List Int):Mod
 |[x,y,z,.c (.p (.i .i64 n))]=>match SL x d,PM y W,PM z L with
  |some p,some q,some r=>some (p∧q∧r∧Sm d∧Bd W∧0<W.length∧W.length≤101∧0≤n∧n≤1000∧L.length≤1000,aQ eH 4 (lF d W L (yG L n.toNat)))
  |_,_,_=>none
 |_=>none
theorem aUJ(d:De)(W L:List Int)(n:Nat):dI fR (dN 1 (dW Tryz.prog Tryz.f33)) (pZ Tryz.f33 [deV d,aQ aU 1 W,aQ aU 1 L,iV n]) (eK (iU 103 [1,2,3,4]) (bU Tryz.prog Tryz.f33))=Tr.done X.normal
 (cQ 103 [(1,.c (.p (.l 1 W.length (bF aU W)))),(2,.c (.p (.l 1 L.length (bF aU L)))),(3,.c (.p (.i .i64 (↑n:Int)))),(4,.c (.ptr 0 0))] [.cells 47 [.p (.s d.nm),.p (.l 2 d.L.length (bF kC d.L)),.p (.i .i64 d.u0),.p (.i .i64 d.u1),.p (.i .i64 d.u2),.p (.i .i64 d.lo),.p (.i .i64 d.hi),.p (.i .i64 d.dn),.p (.i .i64 d.up),.p (.i .i64 d.fi),.p (.i .i64 d.la),.p (.i .i64 d.bu)]]):=by kernel_rfl
theorem aUI(d:De)(W L:List Int)(n:Nat):dI fR (dN 3 (bZ 1 (dW Tryz.prog Tryz.f33))) (cQ 103 [(1,aQ aU 1 W),(2,aQ aU 1 L),(3,iV (n:Nat)),(4,.c (.lp 12 1 (iY d) 0 0))] []) (eK (iU 103 [1,2,3,4,9,10,11]) (bU Tryz.prog Tryz.f33))=Tr.done X.normal
 (cQ 103 [(1,.c (.p (.l 1 W.length (bF aU W)))),(2,.c (.p (.l 1 L.length (bF aU L)))),(3,.c (.p (.i .i64 (↑n:Int)))),(4,.c (.lp 12 1 (iY d) 0 0)),(9,.c (.p (.z (eM none 0 0)))),(10,.c (.p (.i .i64 (↑W.length:Int)))),(11,.c (.p (.i .i64 0)))] []):=by kernel_rfl
theorem aUH(d:De)(W L:List Int)(out:List Cl)(n k:Nat)(i:Int):dI fR (dN 2 (jM (dW Tryz.prog Tryz.f33) 4)) (cQ 103 [(1,aQ aU 1 W),(2,aQ aU 1 L),(3,iV (n:Nat)),(4,.c (.lp 12 1 (iY d) 0 0)),(9,.c (.sl 0 4 0 k)),(10,iV (W.length:Nat)),(11,iV i)] [.row 51 4 k (aR eH out)]) (eK (iU 103 [1,2,3,4,9,10,11]) (bU Tryz.prog Tryz.f33))=Tr.rq (inR aC (i+2))
 (bT (decide (i+2<(↑L.length:Int)))
 (bT (decide ((↑k:Int)<(↑n:Int)))
 (.done .normal
 (cQ 103 [(1,.c (.p (.l 1 W.length (bF aU W)))),(2,.c (.p (.l 1 L.length (bF aU L)))),(3,.c (.p (.i .i64 (↑n:Int)))),(4,.c (.lp 12 1 (iY d) 0 0)),(9,.c (.sl 0 4 0 k)),(10,.c (.p (.i .i64 (↑W.length:Int)))),(11,.c (.p (.i .i64 i)))] [.row 51 4 k fun e o=>cI [0] (aR eH out e o)]))
 (.done (.exit 0)
 (cQ 103 [(1,.c (.p (.l 1 W.length (bF aU W)))),(2,.c (.p (.l 1 L.length (bF aU L)))),(3,.c (.p (.i .i64 (↑n:Int)))),(4,.c (.lp 12 1 (iY d) 0 0)),(9,.c (.sl 0 4 0 k)),(10,.c (.p (.i .i64 (↑W.length:Int)))),(11,.c (.p (.i .i64 i)))] [.row 51 4 k fun e o=>cI [0] (aR eH out e o)])))
 (.done (.exit 0)
 (cQ 103 [(1,.c (.p (.l 1 W.length (bF aU W)))),(2,.c (.p (.l 1 L.length (bF aU L)))),(3,.c (.p (.i .i64 (↑n:Int)))),(4,.c (.lp 12 1 (iY d) 0 0)),(9,.c (.sl 0 4 0 k)),(10,.c (.p (.i .i64 (↑W.length:Int)))),(11,.c (.p (.i .i64 i)))] [.row 51 4 k fun e o=>cI [0] (aR eH out e o)]))):=by kernel_rfl
theorem aUG(d:De)(W L:List Int)(out:List Cl)(n k:Nat)(i:Int):dI aH0 (dN 5 (iI (inr (aZ .skip (jM (dW Tryz.prog Tryz.f33) 4) 2)))) (cQ 103 [(1,aQ aU 1 W),(2,aQ aU 1 L),(3,iV (n:Nat)),(4,.c (.lp 12 1 (iY d) 0 0)),(9,.c (.sl 0 4 0 k)),(10,iV (W.length:Nat)),(11,iV i)] [.row 51 4 k (aR eH out)]) (eK (iU 103 [1,2,3,4,9,10,11,12,13,14,15,16]) (bU Tryz.prog Tryz.f33))=Tr.rq (0≤i∧i<(↑L.length:Int))
 (.rq (inR aC (L.getD i.toNat default)∧0<(↑W.length:Int))
 (.rq (inR aC ((↑W.length:Int)-1))
 (.rq (inR aC (i+1))
 (.rq (0≤i+1∧i+1<(↑L.length:Int))
 (.rq (inR aC (L.getD (i+1).toNat default)∧aY 0<aY 3)
 (.rq (inR aC (dP (L.getD i.toNat default) (↑W.length:Int)+dP (L.getD (i+1).toNat default) 3))
 (.rq (0≤dP (L.getD i.toNat default) (↑W.length:Int)∧dP (L.getD i.toNat default) (↑W.length:Int)<(↑W.length:Int))
 (.rq (0≤dP (L.getD i.toNat default) (↑W.length:Int)∧dP (L.getD i.toNat default) (↑W.length:Int)<(↑W.length:Int))
 (.done .normal
 (cQ 103 [(1,.c (.p (.l 1 W.length (bF aU W)))),(2,.c (.p (.l 1 L.length (bF aU L)))),(3,.c (.p (.i .i64 (↑n:Int)))),(4,.c (.lp 12 1 (iY d) 0 0)),(9,.c (.sl 0 4 0 k)),(10,.c (.p (.i .i64 (↑W.length:Int)))),(11,.c (.p (.i .i64 i))),(12,.c (.p (.i .i64 (dP (L.getD i.toNat default) (↑W.length:Int))))),(13,.c (.p (.i .i64 (if dP (L.getD i.toNat default) (↑W.length:Int)+dP (L.getD (i+1).toNat default) 3<(↑W.length:Int)-1 then dP (L.getD i.toNat default) (↑W.length:Int)+dP (L.getD (i+1).toNat default) 3 else (↑W.length:Int)-1)))),(14,.c (.p (.i .i64 (W.getD (dP (L.getD i.toNat default) (↑W.length:Int)).toNat default)))),(15,.c (.p (.i .i64 (W.getD (dP (L.getD i.toNat default) (↑W.length:Int)).toNat default)))),(16,.c (.p (.i .i64 (dP (L.getD i.toNat default) (↑W.length:Int)))))] [.row 51 4 k fun e o=>cI [0] (aR eH out e o)])))))))))):=by kernel_rfl
theorem aUF(d:De)(W L:List Int)(out:List Cl)(n k:Nat)(i f g a b t:Int):dI fR (dN 2 (jM (iI (inr (aZ .skip (jM (dW Tryz.prog Tryz.f33) 4) 2))) 5)) (cQ 103 [(1,aQ aU 1 W),(2,aQ aU 1 L),(3,iV (n:Nat)),(4,.c (.lp 12 1 (iY d) 0 0)),(9,.c (.sl 0 4 0 k)),(10,iV (W.length:Nat)),(11,iV i),(12,iV f),(13,iV g),(14,iV a),(15,iV b),(16,iV t)] [.row 51 4 k (aR eH out)]) (eK (iU 103 [1,2,3,4,9,10,11,12,13,14,15,16]) (bU Tryz.prog Tryz.f33))=bT (decide (t≤g))
 (.done .normal
 (cQ 103 [(1,.c (.p (.l 1 W.length (bF aU W)))),(2,.c (.p (.l 1 L.length (bF aU L)))),(3,.c (.p (.i .i64 (↑n:Int)))),(4,.c (.lp 12 1 (iY d) 0 0)),(9,.c (.sl 0 4 0 k)),(10,.c (.p (.i .i64 (↑W.length:Int)))),(11,.c (.p (.i .i64 i))),(12,.c (.p (.i .i64 f))),(13,.c (.p (.i .i64 g))),(14,.c (.p (.i .i64 a))),(15,.c (.p (.i .i64 b))),(16,.c (.p (.i .i64 t)))] [.row 51 4 k fun e o=>cI [0] (aR eH out e o)]))
 (.done (.exit 2)
 (cQ 103 [(1,.c (.p (.l 1 W.length (bF aU W)))),(2,.c (.p (.l 1 L.length (bF aU L)))),(3,.c (.p (.i .i64 (↑n:Int)))),(4,.c (.lp 12 1 (iY d) 0 0)),(9,.c (.sl 0 4 0 k)),(10,.c (.p (.i .i64 (↑W.length:Int)))),(11,.c (.p (.i .i64 i))),(12,.c (.p (.i .i64 f))),(13,.c (.p (.i .i64 g))),(14,.c (.p (.i .i64 a))),(15,.c (.p (.i .i64 b))),(16,.c (.p (.i .i64 t)))] [.row 51 4 k fun e o=>cI [0] (aR eH out e o)])):=by kernel_rfl
theorem aUE(d:De)(W L:List Int)(out:List Cl)(n k:Nat)(i f g a b t:Int):dI fR (bZ 2 (jM (iI (inr (aZ .skip (jM (dW Tryz.prog Tryz.f33) 4) 2))) 5)) (cQ 103 [(1,aQ aU 1 W),(2,aQ aU 1 L),(3,iV (n:Nat)),(4,.c (.lp 12 1 (iY d) 0 0)),(9,.c (.sl 0 4 0 k)),(10,iV (W.length:Nat)),(11,iV i),(12,iV f),(13,iV g),(14,iV a),(15,iV b),(16,iV t)] [.row 51 4 k (aR eH out)]) (eK (iU 103 [1,2,3,4,9,10,11,12,13,14,15,16]) (bU Tryz.prog Tryz.f33))=Tr.rq (0≤t∧t<(↑W.length:Int))
 (.rq (0≤t∧t<(↑W.length:Int))
 (.rq (inR aC (t+1))
 (.done .normal
 (cQ 103 [(1,.c (.p (.l 1 W.length (bF aU W)))),(2,.c (.p (.l 1 L.length (bF aU L)))),(3,.c (.p (.i .i64 (↑n:Int)))),(4,.c (.lp 12 1 (iY d) 0 0)),(9,.c (.sl 0 4 0 k)),(10,.c (.p (.i .i64 (↑W.length:Int)))),(11,.c (.p (.i .i64 i))),(12,.c (.p (.i .i64 f))),(13,.c (.p (.i .i64 g))),(14,.c (.p (.i .i64 (if W.getD t.toNat default<a then W.getD t.toNat default else a)))),(15,.c (.p (.i .i64 (if b<W.getD t.toNat default then W.getD t.toNat default else b)))),(16,.c (.p (.i .i64 (t+1))))] [.row 51 4 k fun e o=>cI [0] (aR eH out e o)])))):=by kernel_rfl
theorem aUD(d:De)(W L:List Int)(out:List Cl)(n k:Nat)(i f g a b t:Int):dI aH0 (bZ 6 (iI (inr (aZ .skip (jM (dW Tryz.prog Tryz.f33) 4) 2)))) (cQ 103 [(1,aQ aU 1 W),(2,aQ aU 1 L),(3,iV (n:Nat)),(4,.c (.lp 12 1 (iY d) 0 0)),(9,.c (.sl 0 4 0 k)),(10,iV (W.length:Nat)),(11,iV i),(12,iV f),(13,iV g),(14,iV a),(15,iV b),(16,iV t)] [.row 51 4 k (aR eH out)]) (eK (iU 103 [1,2,3,4,9,10,11]) (bU Tryz.prog Tryz.f33))=Tr.rq (inR aC (i+2))
 (.rq (0≤i+2∧i+2<(↑L.length:Int))
 (.rq (inR aC (L.getD (i+2).toNat default)∧aY 0<aY 16)
 (.rq (inR aC (d.fi+f))
 (.rq (inR aC (d.fi+g))
 (.rq (0≤dP (L.getD (i+2).toNat default) 16∧aY 0<aY 4∧inR aC (dP (L.getD (i+2).toNat default) 16 / 4))
 (.rq (inR aC (a-dP (L.getD (i+2).toNat default) 16 / 4))
 (.rq (0≤dP (L.getD (i+2).toNat default) 16∧aY 0<aY 4)
 (.rq (inR aC (b+dP (L.getD (i+2).toNat default) 16%4))
 (.rq (k=k)
 (.rq (1≤1)
 (.rq
 ((k+1)*32≤140737488355328 ∧
 k+1≤140737488355328 ∧
 ∀(e o:Nat),
 e<1 →
 o<4 →
 jH
 (kY
 [C.p (PV.i aC (d.fi+f)),C.p (PV.i aC (d.fi+g)),C.p (PV.i aC (a-dP (L.getD (i+2).toNat default) 16 / 4)),
 C.p (PV.i aC (b+dP (L.getD (i+2).toNat default) 16%4))]
 4 1 (e+0) o) =
 true)
 (.done .normal
 (cQ 103 [(1,.c (.p (.l 1 W.length (bF aU W)))),(2,.c (.p (.l 1 L.length (bF aU L)))),(3,.c (.p (.i .i64 (↑n:Int)))),(4,.c (.lp 12 1 (iY d) 0 0)),(9,.c (.sl 0 4 0 (k+1))),(10,.c (.p (.i .i64 (↑W.length:Int)))),(11,.c (.p (.i .i64 i)))] [.row 51 4 (k+1) fun e o=>cI [2] (fU k (aR eH out) (fun e o=>aZ C.top [C.p (PV.i aC (d.fi+f)),C.p (PV.i aC (d.fi+g)),C.p (PV.i aC (a-dP (L.getD (i+2).toNat default) 16 / 4)),C.p (PV.i aC (b+dP (L.getD (i+2).toNat default) 16%4))] ((e+0)*4+o)) e o)]))))))))))))):=by kernel_rfl
theorem aUC(d:De)(W L:List Int)(out:List Cl)(n k:Nat)(i:Int):dI fR (bZ 3 (jM (dW Tryz.prog Tryz.f33) 4)) (cQ 103 [(1,aQ aU 1 W),(2,aQ aU 1 L),(3,iV (n:Nat)),(4,.c (.lp 12 1 (iY d) 0 0)),(9,.c (.sl 0 4 0 k)),(10,iV (W.length:Nat)),(11,iV i)] [.row 51 4 k (aR eH out)]) (eK (iU 103 [1,2,3,4,9,10,11]) (bU Tryz.prog Tryz.f33))=Tr.rq (inR aC (i+3))
 (.done .normal
 (cQ 103 [(1,.c (.p (.l 1 W.length (bF aU W)))),(2,.c (.p (.l 1 L.length (bF aU L)))),(3,.c (.p (.i .i64 (↑n:Int)))),(4,.c (.lp 12 1 (iY d) 0 0)),(9,.c (.sl 0 4 0 k)),(10,.c (.p (.i .i64 (↑W.length:Int)))),(11,.c (.p (.i .i64 (i+3))))] [.row 51 4 k fun e o=>cI [0] (aR eH out e o)])):=by kernel_rfl
theorem aUB(d:De)(W L:List Int)(out:List Cl)(n k:Nat)(i:Int):dI fR (bZ 5 (dW Tryz.prog Tryz.f33)) (cQ 103 [(1,aQ aU 1 W),(2,aQ aU 1 L),(3,iV (n:Nat)),(4,.c (.lp 12 1 (iY d) 0 0)),(9,.c (.sl 0 4 0 k)),(10,iV (W.length:Nat)),(11,iV i)] [.row 51 4 k (aR eH out)]) (eK [] (bU Tryz.prog Tryz.f33))=Tr.rq (0+k≤k∧∀(e o:Nat),e<k→o<4→zE (aR eH out (e+0) o)=true) (.done .ret (St.mk [V.c (C.p (PV.l 4 k fun e o=>pE (aR eH out (e+0) o)))] [])):=by kernel_rfl
theorem aOV(a b c e:Int):∀q o:Nat,q<1→o<4→jH (kY [C.p (.i .i64 a),C.p (.i .i64 b),C.p (.i .i64 c),C.p (.i .i64 e)] 4 1 (q+0) o)=true:=by
 intro q o hq ho
 obtain rfl:q=0:=by omega
 match o,ho with
 |0,_|1,_|2,_|3,_=>rfl
theorem aQX(x:Cl):∀o:Nat,o<4→(fun e o:Nat=>aZ C.top [C.p (.i .i64 x.fr),C.p (.i .i64 x.to),C.p (.i .i64 x.lo),C.p (.i .i64 x.hi)] ((e+0)*4+o)) 0 o=.p (eH x o):=by
 intro o ho
 match o,ho with
 |0,_|1,_|2,_|3,_=>rfl
section
variable {G:Nat→Option Obj}
set_option maxRecDepth 100000 in
set_option maxHeartbeats 2000000 in
theorem aQ4(d:De)(W:List Int){L:List Int}(hI:tC L):hO Tryz.prog G 33 (aO4 d W L):=by
 intro args p v hm hp h;unfold aO4 at hm
 split at hm;rotate_left;· cases hm
 split at hm;rotate_left;· cases hm
 rename_i x y z n0 _ _ _ q1 q2 q3 hx hy hz;obtain⟨rfl,rfl⟩:=dB hm;clear hm;obtain⟨hq1,hq2,hq3,hs,hW,hl0,hl1,hn0,hn1,hL⟩:=hp
 obtain⟨n,rfl⟩:∃n:Nat,n0=n:=⟨n0.toNat,by omega⟩
 rw[show (n:Int).toNat=n from rfl];refine lW.args (args':=[deV d,aQ aU 1 W,aQ aU 1 L,iV n]) ?_ (.cons (BO hx hq1) (.cons (rA hy hq2) (.cons (rA hz hq3) (.cons (.refl _) .nil))));clear hx hy hz hq1 hq2 hq3
 refine oY Tryz.func33 (by kernel_rfl) rfl ?_ h
 refine dK.evG aV 1 (aUJ d W L n) ?_;simp only[aL,bE];refine⟨?_⟩
 refine dK.pre ((pD (j:=4) (id:=0) (off:=0) (n:=12) (cs:=lA (IR d)) (iY d) (by rfl) (by rfl) rfl (aL0 (n:=0) (l:=[]))).trans ((iT (iU 103 [1,2,3,4]) _).trans (aP (st':=cQ 103 [(1,aQ aU 1 W),(2,aQ aU 1 L),(3,iV (n:Nat)),(4,.c (.lp 12 1 (iY d) 0 0))] []) (by kernel_rfl)))) ?_
 refine dK.evG aV 3 (aUI d W L n) ?_;simp only[aX,aL,bE];refine⟨?_⟩
 have hN:∀k:Nat,k<yG L n↔3*k+2<L.length∧k<n:=fun k=>by unfold yG;omega
 have hN2:yG L n≤1000:=by unfold yG;omega
 refine dK.loop' (l:=bZ 4 (dW Tryz.prog Tryz.f33)) (b:=inr (inr (aZ .skip (dW Tryz.prog Tryz.f33) 4))) (r:=bZ 5 (dW Tryz.prog Tryz.f33)) (id:=0) (by kernel_rfl) (σ:=Nat)
   (fun k=>(fun(out:List Cl) (k:Nat) (i:Int)=>cQ 103 [(1,aQ aU 1 W),(2,aQ aU 1 L),(3,iV (n:Nat)),(4,.c (.lp 12 1 (iY d) 0 0)),(9,.c (.sl 0 4 0 k)),(10,iV (W.length:Nat)),(11,iV i)] [.row 51 4 k (aR eH out)]) (lF d W L k) k ((3*k:Nat):Int)) (fun k=>k≤yG L n) (fun k=>yG L n-k) 0 (bK _) ((kE 51 4 (aR eH []) 9 (by kernel_rfl)).trans (aP (by kernel_rfl))) ?_
 rintro k hk Q1 q1n q1e -
 have hl:=AV d W L k
 have hNk:=hN k
 have eo:∀st:St,k=yG L n→cL G st ((fun(out:List Cl) (k:Nat) (i:Int)=>cQ 103 [(1,aQ aU 1 W),(2,aQ aU 1 L),(3,iV (n:Nat)),(4,.c (.lp 12 1 (iY d) 0 0)),(9,.c (.sl 0 4 0 k)),(10,iV (W.length:Nat)),(11,iV i)] [.row 51 4 k (aR eH out)]) (lF d W L k) k ((3*k:Nat):Int))→dK Tryz.prog G (bU Tryz.prog Tryz.f33) (aQ eH 4 (lF d W L (yG L n))) (bZ 5 (dW Tryz.prog Tryz.f33)) st fun _ _=>False:=fun st e hst=>by
  refine dK.pre hst ?_;refine dK.evH aV (aUB d W L (lF d W L k) n k ((3*k:Nat):Int)) ?_;simp only[aX,aL,gX];rw[←e];exact⟨⟨by omega,fun _ _ _ _=>rfl⟩,⟨kF hl.symm fun e o he ho=>rfl⟩⟩
 refine dK.evG aV 2 (aUH d W L (lF d W L k) n k ((3*k:Nat):Int)) ?_;simp only[eV,aX,aL,bE,jK,decide_eq_true_eq,decide_eq_false_iff_not,inR]
 refine⟨by omega,fun c1=>⟨fun c2=>⟨?_⟩,fun c2=>⟨q1e _ (eo _ (by omega) (aP (by kernel_rfl)))⟩⟩,fun c1=>⟨q1e _ (eo _ (by omega) (aP (by kernel_rfl)))⟩⟩
 have hlt:k<yG L n:=hNk.2 ⟨by omega,by omega⟩
 refine dK.blk' (l:=bZ 2 (jM (dW Tryz.prog Tryz.f33) 4)) (id:=1) (a:=inr (aZ .skip (jM (dW Tryz.prog Tryz.f33) 4) 2)) (r:=bZ 3 (jM (dW Tryz.prog Tryz.f33) 4)) (by kernel_rfl) ?_
 intro Q2 q2n q2e _
 refine dK.pre (aP (st':=(fun(out:List Cl) (k:Nat) (i:Int)=>cQ 103 [(1,aQ aU 1 W),(2,aQ aU 1 L),(3,iV (n:Nat)),(4,.c (.lp 12 1 (iY d) 0 0)),(9,.c (.sl 0 4 0 k)),(10,iV (W.length:Nat)),(11,iV i)] [.row 51 4 k (aR eH out)]) (lF d W L k) k ((3*k:Nat):Int)) (by kernel_rfl)) ?_
 refine dK.evG sO 5 (aUG d W L (lF d W L k) n k ((3*k:Nat):Int)) ?_;obtain⟨r1,r2,r3⟩:=aHN hs hW hl0 hl1 L (3*k)
 have i0:=OQ hI (3*k)
 have i1:=OQ hI (3*k+1)
 have i2:=OQ hI (3*k+2)
 have e0:(((3*k:Nat):Int)).toNat=3*k:=rfl
 have e1:(((3*k:Nat):Int)+1).toNat=3*k+1:=by omega
 have e2:(((3*k:Nat):Int)+2).toNat=3*k+2:=by omega
 have ef:dP (L.getD (3*k) default) (W.length:Int)=HQ W L (3*k):=rfl
 have p3:=kV (L.getD (3*k+1) default) (m:=3) (by omega)
 have eg:(if HQ W L (3*k)+dP (L.getD (3*k+1) default) 3<(W.length:Int)-1 then HQ W L (3*k)+dP (L.getD (3*k+1) default) 3 else (W.length:Int)-1)=arG W L (3*k):=rfl
 have em:dP (L.getD (3*k+2) default) 16=arM L (3*k):=rfl
 have ecl:lF d W L (k+1)=lF d W L k++[rC d W L (3*k)]:=aDK d W L k
 have ec:rC d W L (3*k)=⟨d.fi+HQ W L (3*k),d.fi+arG W L (3*k),SI W (HQ W L (3*k)).toNat (arN W L (3*k))-arM L (3*k) / 4,SP W (HQ W L (3*k)).toNat (arN W L (3*k))+arM L (3*k)%4⟩:=rfl
 have en:arN W L (3*k)=(arG W L (3*k)-HQ W L (3*k)+1).toNat:=rfl
 have b1:=OC hW (HQ W L (3*k)).toNat
 have b2:=XW hW (HQ W L (3*k)).toNat
 simp only[aX,aL,bE,e0,e1,ef,eg]
 generalize arG W L (3*k)=g at r2 ec en ⊢
 generalize arN W L (3*k)=N at ec en ⊢
 generalize HQ W L (3*k)=f at r1 r2 ec en b1 b2 ⊢
 clear ef eg e0 e1 hN hNk
 generalize dP (L.getD (3*k+1) default) 3=y3 at p3 ⊢
 have hs2:=hs
 obtain⟨s1,s2,s3⟩:=hs2;refine⟨⟨by omega,by omega⟩,⟨i0,by omega⟩,by simp only[inR];omega,by simp only[inR];omega,⟨by omega,by omega⟩,⟨i1,by decide⟩,by simp only[inR];omega,r1,r1,⟨?_⟩⟩
 refine dK.loop' (l:=bZ 5 (iI (inr (aZ .skip (jM (dW Tryz.prog Tryz.f33) 4) 2)))) (b:=inr (inr (aZ .skip (iI (inr (aZ .skip (jM (dW Tryz.prog Tryz.f33) 4) 2))) 5))) (r:=bZ 6 (iI (inr (aZ .skip (jM (dW Tryz.prog Tryz.f33) 4) 2)))) (id:=2) (by kernel_rfl) (σ:=Nat)
   (fun j=>(fun(out:List Cl) (k:Nat) (i a b t:Int)=>cQ 103 [(1,aQ aU 1 W),(2,aQ aU 1 L),(3,iV (n:Nat)),(4,.c (.lp 12 1 (iY d) 0 0)),(9,.c (.sl 0 4 0 k)),(10,iV (W.length:Nat)),(11,iV i),(12,iV f),(13,iV g),(14,iV a),(15,iV b),(16,iV t)] [.row 51 4 k (aR eH out)]) (lF d W L k) k ((3*k:Nat):Int) (SI W f.toNat j) (SP W f.toNat j) (f+j)) (fun j=>j≤N) (fun j=>N-j) 0 (bK _) (by
    show cL G _ ((fun(out:List Cl) (k:Nat) (i a b t:Int)=>cQ 103 [(1,aQ aU 1 W),(2,aQ aU 1 L),(3,iV (n:Nat)),(4,.c (.lp 12 1 (iY d) 0 0)),(9,.c (.sl 0 4 0 k)),(10,iV (W.length:Nat)),(11,iV i),(12,iV f),(13,iV g),(14,iV a),(15,iV b),(16,iV t)] [.row 51 4 k (aR eH out)]) (lF d W L k) k ((3*k:Nat):Int) (W.getD f.toNat default) (W.getD f.toNat default) (f+((0:Nat):Int)))
    rw[show f+((0:Nat):Int)=f by omega]
    exact aP (by kernel_rfl)) ?_
 rintro j hj Q3 q3n q3e -;refine dK.evG aV 2 (aUF d W L (lF d W L k) n k ((3*k:Nat):Int) f g (SI W f.toNat j) (SP W f.toNat j) (f+j)) ?_;simp only[eV,aX,aL,bE,jK,decide_eq_true_eq,decide_eq_false_iff_not];refine⟨fun c=>⟨?_⟩,fun c=>⟨q3e _ ?_⟩⟩
 ·refine dK.pre (aP (st':=(fun(out:List Cl) (k:Nat) (i a b t:Int)=>cQ 103 [(1,aQ aU 1 W),(2,aQ aU 1 L),(3,iV (n:Nat)),(4,.c (.lp 12 1 (iY d) 0 0)),(9,.c (.sl 0 4 0 k)),(10,iV (W.length:Nat)),(11,iV i),(12,iV f),(13,iV g),(14,iV a),(15,iV b),(16,iV t)] [.row 51 4 k (aR eH out)]) (lF d W L k) k ((3*k:Nat):Int) (SI W f.toNat j) (SP W f.toNat j) (f+j)) (by kernel_rfl)) ?_
  refine dK.evH aV (aUE d W L (lF d W L k) n k ((3*k:Nat):Int) f g (SI W f.toNat j) (SP W f.toNat j) (f+j)) ?_
  have et:(f+(j:Int)).toNat=f.toNat+j:=by omega
  have el:(if W.getD (f.toNat+j) default<SI W f.toNat j then W.getD (f.toNat+j) default else SI W f.toNat j)=SI W f.toNat (j+1):=rfl
  have eh:(if SP W f.toNat j<W.getD (f.toNat+j) default then W.getD (f.toNat+j) default else SP W f.toNat j)=SP W f.toNat (j+1):=rfl
  simp only[aX,aL,bE,et,el,eh,inR];refine⟨⟨by omega,by omega⟩,⟨by omega,by omega⟩,by omega,⟨q3n (j+1) _ (by omega) (by omega) ?_⟩⟩
  show cL G _ ((fun(out:List Cl) (k:Nat) (i a b t:Int)=>cQ 103 [(1,aQ aU 1 W),(2,aQ aU 1 L),(3,iV (n:Nat)),(4,.c (.lp 12 1 (iY d) 0 0)),(9,.c (.sl 0 4 0 k)),(10,iV (W.length:Nat)),(11,iV i),(12,iV f),(13,iV g),(14,iV a),(15,iV b),(16,iV t)] [.row 51 4 k (aR eH out)]) (lF d W L k) k ((3*k:Nat):Int) (SI W f.toNat (j+1)) (SP W f.toNat (j+1)) (f+((j+1:Nat):Int)))
  rw[show f+((j+1:Nat):Int)=f+(j:Int)+1 by omega]
  exact aP (by kernel_rfl)
 ·obtain rfl:j=N:=by omega
  have b1:=b1 j
  have b2:=b2 j
  refine dK.pre (aP (st':=(fun(out:List Cl) (k:Nat) (i a b t:Int)=>cQ 103 [(1,aQ aU 1 W),(2,aQ aU 1 L),(3,iV (n:Nat)),(4,.c (.lp 12 1 (iY d) 0 0)),(9,.c (.sl 0 4 0 k)),(10,iV (W.length:Nat)),(11,iV i),(12,iV f),(13,iV g),(14,iV a),(15,iV b),(16,iV t)] [.row 51 4 k (aR eH out)]) (lF d W L k) k ((3*k:Nat):Int) (SI W f.toNat j) (SP W f.toNat j) (f+j)) (by kernel_rfl)) ?_
  refine dK.evH sO (aUD d W L (lF d W L k) n k ((3*k:Nat):Int) f g (SI W f.toNat j) (SP W f.toNat j) (f+j)) ?_
  generalize SI W f.toNat j=lo at b1 ec ⊢
  generalize SP W f.toNat j=hi at b2 ec ⊢
  simp only[aX,aL,bE,e2,em];clear em
  generalize arM L (3*k)=m at r3 ec ⊢
  refine⟨by simp only[inR];omega,⟨by omega,by omega⟩,⟨i2,by decide⟩,by simp only[inR];omega,by simp only[inR];omega,⟨r3.1,by decide,by simp only[inR];omega⟩,by simp only[inR];omega,⟨r3.1,by decide⟩,by simp only[inR];omega,trivial,aJ _,⟨by omega,by omega,aOV _ _ _ _⟩,⟨q2n _ ?_⟩⟩
  refine dK.pre (show cL G _ ((fun(out:List Cl) (k:Nat) (i:Int)=>cQ 103 [(1,aQ aU 1 W),(2,aQ aU 1 L),(3,iV (n:Nat)),(4,.c (.lp 12 1 (iY d) 0 0)),(9,.c (.sl 0 4 0 k)),(10,iV (W.length:Nat)),(11,iV i)] [.row 51 4 k (aR eH out)]) (lF d W L (k+1)) (k+1) ((3*k:Nat):Int)) from by
   rw[ecl,ec]
   exact gU ⟨⟨rfl,rfl,rfl,fun e o he ho=>oT (ρ:=[2]) hl (aQX ⟨d.fi+f,d.fi+g,lo-m / 4,hi+m%4⟩) he ho⟩,trivial⟩) ?_
  refine dK.evH aV (aUC d W L (lF d W L (k+1)) n (k+1) ((3*k:Nat):Int)) ?_;simp only[aX,aL,bE,inR];refine⟨by omega,⟨q1n (k+1) _ (by omega) (by omega) ?_⟩⟩
  show cL G _ ((fun(out:List Cl) (k:Nat) (i:Int)=>cQ 103 [(1,aQ aU 1 W),(2,aQ aU 1 L),(3,iV (n:Nat)),(4,.c (.lp 12 1 (iY d) 0 0)),(9,.c (.sl 0 4 0 k)),(10,iV (W.length:Nat)),(11,iV i)] [.row 51 4 k (aR eH out)]) (lF d W L (k+1)) (k+1) ((3*(k+1):Nat):Int))
  rw[show ((3*(k+1):Nat):Int)=((3*k:Nat):Int)+3 by omega]
  exact aP (by kernel_rfl)
end
def XC(L M:List Int):Mod
 |[x,.c (.p (.i .i64 a)),.c (.p (.i .i64 n))]=>match PM x L with
  |some p=>some ((p∧inR .i64 a∧0≤n∧n≤1000∧L.length≤9223372036854775807)∧M=lE L a n.toNat,aQ aU 1 M)
  |none=>none
 |_=>none
def XH(N:List Int)(D:De):Mod
 |[x]=>match PM x N with
  |some p=>some (p∧D=mC N,deV D)
  |none=>none
 |_=>none
def aFT(D:De)(N W:List Int):Mod
 |[x,y]=>match SL x D,PM y N with
  |some p,some q=>some (p∧q∧Sm D∧W=sM D N,aQ aU 1 W)
  |_,_=>none
 |_=>none
def aFU(D:De)(W N:List Int)(Q:List Cl):Mod
 |[x,y,z,.c (.p (.i .i64 n))]=>match SL x D,PM y W,PM z N with
  |some p,some q,some r=>some ((p∧q∧r∧Sm D∧Bd W∧0<W.length∧W.length≤101∧0≤n∧n≤1000∧N.length≤1000)∧Q=lF D W N (yG N n.toNat),aQ eH 4 Q)
  |_,_,_=>none
 |_=>none
def XA(L:List Int):Mod
 |[x]=>match PM x L with
  |some p=>some (p∧L.length≤9223372036854775807,aQ bQ 13 (jT L (nA L)))
  |none=>none
 |_=>none
theorem aS8(L:List Int):dI (LA L) (dN 4 (dW Tryz.prog Tryz.f14)) (pZ Tryz.f14 [aQ aU 1 L]) (eK (iU 80 [0,3,4,5]) (bU Tryz.prog Tryz.f14))=Tr.rq ((L.length=L.length∧∀(e o:Nat),e<L.length→o<1→bF aU L e o=bF aU L e o)∧aY 0<aY 8)
 (.done .normal
 (cQ 80 [(0,.c (.p (.l 1 L.length (bF aU L)))),(3,.c (.p (.z (eM none 0 0)))),(4,.c (.p (.i .i64 (eL L 0 8)))),(5,.c (.p (.i .i64 0)))] [])):=by kernel_rfl
theorem aS7(L:List Int)(out:List Se)(k:Nat)(b i:Int):dI (LA L) (dN 2 (jM (dW Tryz.prog Tryz.f14) 4)) (cQ 80 [(0,aQ aU 1 L),(3,.c (.sl 0 13 0 k)),(4,iV b),(5,iV i)] [.row 49 13 k (aR bQ out)]) (eK (iU 80 [0,3,4,5]) (bU Tryz.prog Tryz.f14))=Tr.rq ((L.length=L.length∧∀(e o:Nat),e<L.length→o<1→bF aU L e o=bF aU L e o)∧aY 0<aY 4)
 (bT (decide (i≤eL L 1 4))
 (.done .normal
 (cQ 80 [(0,.c (.p (.l 1 L.length (bF aU L)))),(3,.c (.sl 0 13 0 k)),(4,.c (.p (.i .i64 b))),(5,.c (.p (.i .i64 i)))] [.row 49 13 k fun e o=>cI [0] (aR bQ out e o)]))
 (.done (.exit 0)
 (cQ 80 [(0,.c (.p (.l 1 L.length (bF aU L)))),(3,.c (.sl 0 13 0 k)),(4,.c (.p (.i .i64 b))),(5,.c (.p (.i .i64 i)))] [.row 49 13 k fun e o=>cI [0] (aR bQ out e o)]))):=by kernel_rfl
theorem aS6(L M:List Int)(out:List Se)(k:Nat)(b i:Int):dI (kH [(29,XC L M)]) (dN 1 (iI (inr (aZ .skip (jM (dW Tryz.prog Tryz.f14) 4) 2)))) (cQ 80 [(0,aQ aU 1 L),(3,.c (.sl 0 13 0 k)),(4,iV b),(5,iV i)] [.row 49 13 k (aR bQ out)]) (eK (iU 80 [0,3,4,5,6]) (bU Tryz.prog Tryz.f14))=Tr.rq
 (((L.length=L.length∧∀(e o:Nat),e<L.length→o<1→bF aU L e o=bF aU L e o) ∧
 inR aC i∧aY 0≤aY 48∧aY 48≤aY 1000∧L.length≤9223372036854775807) ∧
 M=lE L i 48)
 (.done .normal
 (cQ 80 [(0,.c (.p (.l 1 L.length (bF aU L)))),(3,.c (.sl 0 13 0 k)),(4,.c (.p (.i .i64 b))),(5,.c (.p (.i .i64 i))),(6,.c (.p (.l 1 M.length (bF aU M))))] [.row 49 13 k fun e o=>cI [0] (aR bQ out e o)])):=by kernel_rfl
theorem aS5(L M N:List Int)(D:De)(out:List Se)(k:Nat)(b i:Int):dI (kH [(30,XH N D)]) (dN 1 (bZ 1 (iI (inr (aZ .skip (jM (dW Tryz.prog Tryz.f14) 4) 2))))) (cQ 80 [(0,aQ aU 1 L),(3,.c (.sl 0 13 0 k)),(4,iV b),(5,iV i),(6,aQ aU 1 M)] [.row 49 13 k (aR bQ out)]) (eK (iU 80 [0,3,4,5,6,7]) (bU Tryz.prog Tryz.f14))=Tr.rq (0≤(↑0:Int)∧(↑0:Int)≤9∧9≤(↑M.length:Int))
 (.rq ((9=N.length∧∀(e o:Nat),e<N.length→o<1→bF aU M (e+0) o=bF aU N e o)∧D=mC N)
 (.done .normal
 (cQ 80 [(0,.c (.p (.l 1 L.length (bF aU L)))),(3,.c (.sl 0 13 0 k)),(4,.c (.p (.i .i64 b))),(5,.c (.p (.i .i64 i))),(6,.c (.p (.l 1 M.length (bF aU M)))),(7,.c (.ptr 1 0))] [.row 49 13 k fun e o=>cI [0,1] (aR bQ out e o),.cells 47 [.p (.s D.nm),.p (.l 2 D.L.length (bF kC D.L)),.p (.i .i64 D.u0),.p (.i .i64 D.u1),.p (.i .i64 D.u2),.p (.i .i64 D.lo),.p (.i .i64 D.hi),.p (.i .i64 D.dn),.p (.i .i64 D.up),.p (.i .i64 D.fi),.p (.i .i64 D.la),.p (.i .i64 D.bu)]]))):=by kernel_rfl
theorem aS4(L M:List Int)(D:De)(out:List Se)(k:Nat)(b i:Int):dI (kH [(31,aKB)]) (dN 6 (bZ 2 (iI (inr (aZ .skip (jM (dW Tryz.prog Tryz.f14) 4) 2))))) (cQ 80 [(0,aQ aU 1 L),(3,.c (.sl 0 13 0 k)),(4,iV b),(5,iV i),(6,aQ aU 1 M),(7,.c (.ptr 1 0))] [.row 49 13 k (aR bQ out),.cells 47 (lA (IR D))]) (eK (iU 80 [0,3,4,5,6,7]) (bU Tryz.prog Tryz.f14))=Tr.rq (inR aC (3*i))
 (.rq (inR aC (b+3*i))
 (.rq (0≤b+3*i∧aY 0<aY 2)
 (.rq (0≤(b+3*i)%2∧(b+3*i)%2<(↑2:Int))
 (.rq (((b+3*i)%2).toNat+0<2)
 (.rq (inR aC (3*i))
 (.rq (inR aC (b+3*i))
 (.rq (0≤b+3*i∧aY 0<aY 8)
 (.rq (0≤(b+3*i)%8∧aY 0<aY 2∧inR aC ((b+3*i)%8 / 2))
 (.rq (inR aC ((b+3*i)%8 / 2))
 (.rq (aY 0≤aY 9∧9<(↑M.length:Int))
 (.rq (0≤M.getD 9 default∧aY 0<aY 4)
 (.rq (aY 0≤aY 10∧10<(↑M.length:Int))
 (.rq (0≤M.getD 10 default∧aY 0<aY 4)
 (.rq (inR aC (9+M.getD 10 default%4))
 (.done .normal
 (cQ 80 [(0,.c (.p (.l 1 L.length (bF aU L)))),(3,.c (.sl 0 13 0 k)),(4,.c (.p (.i .i64 b))),(5,.c (.p (.i .i64 i))),(6,.c (.p (.l 1 M.length (bF aU M)))),(7,.c (.ptr 1 0))] [.row 49 13 k fun e o=>cI [0,1] (aR bQ out e o),.cells 47 [.p (.s (aZ (cG #[]) [cG #[99,112,117],cG #[109,101,109]] (((b+3*i)%2).toNat+0))),.p (.l 2 (XL ((b+3*i)%8 / 2)).length (bF kC (XL ((b+3*i)%8 / 2)))),.p (.i .i64 D.u0),.p (.i .i64 D.u1),.p (.i .i64 D.u2),.p (.i .i64 D.lo),.p (.i .i64 D.hi),.p (.i .i64 (if 0<D.dn then 0 else D.dn)),.p (.i .i64 (if D.up<0 then 0 else D.up)),.p (.i .i64 (M.getD (Int.toNat 9) default%4)),.p (.i .i64 (9+M.getD (Int.toNat 10) default%4)),.p (.i .i64 D.bu)]])))))))))))))))):=by kernel_rfl
theorem aS3(L M N W:List Int)(D:De)(out:List Se)(k:Nat)(b i:Int):dI (kH [(32,aFT D N W)]) (dN 1 (bZ 8 (iI (inr (aZ .skip (jM (dW Tryz.prog Tryz.f14) 4) 2))))) (cQ 80 [(0,aQ aU 1 L),(3,.c (.sl 0 13 0 k)),(4,iV b),(5,iV i),(6,aQ aU 1 M),(7,.c (.lp 12 1 (iY D) 0 0))] [.row 49 13 k (aR bQ out)]) (eK (iU 80 [0,3,4,5,6,7,8]) (bU Tryz.prog Tryz.f14))=Tr.rq (aY 0≤aY 11∧aY 11≤aY 25∧25≤(↑M.length:Int))
 (.rq
 (((D.L.length=D.L.length∧∀(e o:Nat),e<D.L.length→o<2→bF kC D.L e o=bF kC D.L e o) ∧
 D.nm=D.nm∧D.u0=D.u0∧D.u1=D.u1∧D.u2=D.u2∧D.lo=D.lo∧D.hi=D.hi∧D.dn=D.dn∧D.up=D.up∧D.fi=D.fi∧D.la=D.la∧D.bu=D.bu) ∧
 (14=N.length∧∀(e o:Nat),e<N.length→o<1→bF aU M (e+11) o=bF aU N e o)∧Sm D∧W=sM D N)
 (.done .normal
 (cQ 80 [(0,.c (.p (.l 1 L.length (bF aU L)))),(3,.c (.sl 0 13 0 k)),(4,.c (.p (.i .i64 b))),(5,.c (.p (.i .i64 i))),(6,.c (.p (.l 1 M.length (bF aU M)))),(7,.c (.lp 12 1 (iY D) 0 0)),(8,.c (.p (.l 1 W.length (bF aU W))))] [.row 49 13 k fun e o=>cI [0] (aR bQ out e o)]))):=by kernel_rfl
theorem aS2(L M N W:List Int)(D:De)(Q:List Cl)(out:List Se)(k:Nat)(b i:Int):dI (kH [(33,aFU D W N Q)]) (bZ 9 (iI (inr (aZ .skip (jM (dW Tryz.prog Tryz.f14) 4) 2)))) (cQ 80 [(0,aQ aU 1 L),(3,.c (.sl 0 13 0 k)),(4,iV b),(5,iV i),(6,aQ aU 1 M),(7,.c (.lp 12 1 (iY D) 0 0)),(8,aQ aU 1 W)] [.row 49 13 k (aR bQ out)]) (eK (iU 80 [0,3,4,5]) (bU Tryz.prog Tryz.f14))=Tr.rq (aY 0≤aY 40∧40<(↑M.length:Int))
 (.rq (0≤M.getD 40 default∧aY 0<aY 5)
 (.rq (inR aC (3*(M.getD 40 default%5)))
 (.rq (inR aC (25+3*(M.getD 40 default%5)))
 (.rq (aY 0≤aY 25∧25≤25+3*(M.getD 40 default%5)∧25+3*(M.getD 40 default%5)≤(↑M.length:Int))
 (.rq
 ((((D.L.length=D.L.length∧∀(e o:Nat),e<D.L.length→o<2→bF kC D.L e o=bF kC D.L e o) ∧
 D.nm=D.nm∧D.u0=D.u0∧D.u1=D.u1∧D.u2=D.u2∧D.lo=D.lo∧D.hi=D.hi∧D.dn=D.dn∧D.up=D.up∧D.fi=D.fi∧D.la=D.la∧D.bu=D.bu) ∧
 (W.length=W.length∧∀(e o:Nat),e<W.length→o<1→bF aU W e o=bF aU W e o) ∧
 ((25+3*(M.getD 40 default%5)).toNat-25=N.length∧∀(e o:Nat),e<N.length→o<1→bF aU M (e+25) o=bF aU N e o) ∧
 Sm D∧Bd W∧0<W.length∧W.length≤101∧aY 0≤aY 4∧aY 4≤aY 1000∧N.length≤1000) ∧
 Q=lF D W N (yG N 4))
 (.rq (k=k)
 (.rq (1≤1)
 (.rq
 ((k+1)*144≤140737488355328 ∧
 k+1≤140737488355328 ∧
 ∀(e o:Nat),
 e<1 →
 o<13 →
 jH
 (kY
 [C.p (PV.s D.nm),C.p (PV.l 2 D.L.length (bF kC D.L)),C.p (PV.i aC D.u0),C.p (PV.i aC D.u1),C.p (PV.i aC D.u2),
 C.p (PV.i aC D.lo),C.p (PV.i aC D.hi),C.p (PV.i aC D.dn),C.p (PV.i aC D.up),C.p (PV.i aC D.fi),
 C.p (PV.i aC D.la),C.p (PV.i aC D.bu),C.p (PV.l 4 Q.length (bF eH Q))]
 13 1 (e+0) o) =
 true)
 (.done .normal
 (cQ 80 [(0,.c (.p (.l 1 L.length (bF aU L)))),(3,.c (.sl 0 13 0 (k+1))),(4,.c (.p (.i .i64 b))),(5,.c (.p (.i .i64 i)))] [.row 49 13 (k+1) fun e o=>cI [2] (fU k (aR bQ out) (fun e o=>aZ C.top [C.p (PV.s D.nm),C.p (PV.l 2 D.L.length (bF kC D.L)),C.p (PV.i aC D.u0),C.p (PV.i aC D.u1),C.p (PV.i aC D.u2),C.p (PV.i aC D.lo),C.p (PV.i aC D.hi),C.p (PV.i aC D.dn),C.p (PV.i aC D.up),C.p (PV.i aC D.fi),C.p (PV.i aC D.la),C.p (PV.i aC D.bu),C.p (PV.l 4 Q.length (bF eH Q))] ((e+0)*13+o)) e o)])))))))))):=by kernel_rfl
theorem aS1(L:List Int)(out:List Se)(k:Nat)(b i:Int):dI fR (bZ 3 (jM (dW Tryz.prog Tryz.f14) 4)) (cQ 80 [(0,aQ aU 1 L),(3,.c (.sl 0 13 0 k)),(4,iV b),(5,iV i)] [.row 49 13 k (aR bQ out)]) (eK (iU 80 [0,3,4,5]) (bU Tryz.prog Tryz.f14))=Tr.rq (inR aC (i+1))
 (.done .normal
 (cQ 80 [(0,.c (.p (.l 1 L.length (bF aU L)))),(3,.c (.sl 0 13 0 k)),(4,.c (.p (.i .i64 b))),(5,.c (.p (.i .i64 (i+1))))] [.row 49 13 k fun e o=>cI [0] (aR bQ out e o)])):=by kernel_rfl
theorem aS0(L:List Int)(out:List Se)(k:Nat)(b i:Int):dI fR (bZ 5 (dW Tryz.prog Tryz.f14)) (cQ 80 [(0,aQ aU 1 L),(3,.c (.sl 0 13 0 k)),(4,iV b),(5,iV i)] [.row 49 13 k (aR bQ out)]) (eK [] (bU Tryz.prog Tryz.f14))=Tr.rq (0+k≤k∧∀(e o:Nat),e<k→o<13→zE (aR bQ out (e+0) o)=true) (.done .ret (St.mk [V.c (C.p (PV.l 13 k fun e o=>pE (aR bQ out (e+0) o)))] [])):=by kernel_rfl
theorem aIE(M:List Int)(a n e:Nat)(h:e<n):((M.drop a).take n).getD e default=M.getD (e+a) default:=by
 rw[aD,aD,fG,if_pos h,List.getElem?_drop,Nat.add_comm]
theorem MI(M:List Int)(a n:Nat){e o:Nat}(h:e<n):bF aU M (e+a) o=bF aU ((M.drop a).take n) e o:=by
 unfold bF;rw[aIE M a n e h]
theorem CO{M:List Int}(h:tC M)(a n:Nat):tC ((M.drop a).take n):=fun x hx=>h x (List.mem_of_mem_drop (List.mem_of_mem_take hx))
theorem aN1(s:Se):∀e o:Nat,e<1→o<13→jH (kY [C.p (PV.s s.d.nm),C.p (PV.l 2 s.d.L.length (bF kC s.d.L)),C.p (PV.i aC s.d.u0),C.p (PV.i aC s.d.u1),C.p (PV.i aC s.d.u2),C.p (PV.i aC s.d.lo),C.p (PV.i aC s.d.hi),C.p (PV.i aC s.d.dn),C.p (PV.i aC s.d.up),C.p (PV.i aC s.d.fi),C.p (PV.i aC s.d.la),C.p (PV.i aC s.d.bu),C.p (PV.l 4 s.C.length (bF eH s.C))] 13 1 (e+0) o)=true:=by
 intro e o he ho
 obtain rfl:e=0:=by omega
 match o,ho with
 |0,_|1,_|2,_|3,_|4,_|5,_|6,_|7,_|8,_|9,_|10,_|11,_|12,_=>rfl
theorem aPS(s:Se):∀o:Nat,o<13→(fun e o:Nat=>aZ C.top [C.p (PV.s s.d.nm),C.p (PV.l 2 s.d.L.length (bF kC s.d.L)),C.p (PV.i aC s.d.u0),C.p (PV.i aC s.d.u1),C.p (PV.i aC s.d.u2),C.p (PV.i aC s.d.lo),C.p (PV.i aC s.d.hi),C.p (PV.i aC s.d.dn),C.p (PV.i aC s.d.up),C.p (PV.i aC s.d.fi),C.p (PV.i aC s.d.la),C.p (PV.i aC s.d.bu),C.p (PV.l 4 s.C.length (bF eH s.C))] ((e+0)*13+o)) 0 o=.p (bQ s o):=by
 intro o ho
 match o,ho with
 |0,_|1,_|2,_|3,_|4,_|5,_|6,_|7,_|8,_|9,_|10,_|11,_|12,_=>rfl
section
variable {G:Nat→Option Obj}
theorem aJM(L M:List Int):hO Tryz.prog G 29 (XC L M):=by
 intro args p v hm hp h;unfold XC at hm
 split at hm;rotate_left;· cases hm
 rename_i x a n
 split at hm;rotate_left;· cases hm
 rename_i q hq;obtain⟨rfl,rfl⟩:=dB hm;obtain⟨h1,rfl⟩:=hp;exact aJN (G:=G) L [x,.c (.p (.i .i64 a)),.c (.p (.i .i64 n))] _ _ (by simp only[XD,hq]) h1 h
theorem aJU{N:List Int}(hI:tC N)(D:De):hO Tryz.prog G 30 (XH N D):=by
 intro args p v hm hp h;unfold XH at hm
 split at hm;rotate_left;· cases hm
 rename_i x
 split at hm;rotate_left;· cases hm
 rename_i q hq;obtain⟨rfl,rfl⟩:=dB hm;obtain⟨h1,rfl⟩:=hp;exact aJV (G:=G) hI [x] q _ (by simp only[XI,hq]) h1 h
theorem aNQ(D:De){N:List Int}(hI:tC N)(W:List Int):hO Tryz.prog G 32 (aFT D N W):=by
 intro args p v hm hp h;unfold aFT at hm
 split at hm;rotate_left;· cases hm
 rename_i x y
 split at hm;rotate_left;· cases hm
 rename_i q1 q2 h1 h2;obtain⟨rfl,rfl⟩:=dB hm;obtain⟨a1,a2,a3,rfl⟩:=hp;exact aQ0 (G:=G) D hI [x,y] (q1∧q2∧Sm D) _ (by simp only[aO2,h1,h2]) ⟨a1,a2,a3⟩ h
theorem aNR(D:De)(W:List Int){N:List Int}(hI:tC N)(Q:List Cl):hO Tryz.prog G 33 (aFU D W N Q):=by
 intro args p v hm hp h;unfold aFU at hm
 split at hm;rotate_left;· cases hm
 rename_i x y z n
 split at hm;rotate_left;· cases hm
 rename_i q1 q2 q3 h1 h2 h3;obtain⟨rfl,rfl⟩:=dB hm;obtain⟨a1,rfl⟩:=hp;exact aQ4 (G:=G) D W hI [x,y,z,.c (.p (.i .i64 n))] _ _ (by simp only[aO4,h1,h2,h3]) a1 h
set_option maxRecDepth 100000 in
set_option maxHeartbeats 2000000 in
theorem aJI{L:List Int}(hI:tC L):hO Tryz.prog G 14 (XA L):=by
 intro args p v hm hp h;unfold XA at hm
 split at hm;rotate_left;· cases hm
 split at hm;rotate_left;· cases hm
 rename_i x _ q hx;obtain⟨rfl,rfl⟩:=dB hm;clear hm;obtain⟨hq,hL⟩:=hp;refine lW.args (args':=[aQ aU 1 L]) ?_ (.cons (rA hx hq) .nil);clear hx hq
 have p0:=fJ L 0 (m:=8) (by omega)
 have p1:=fJ L 1 (m:=4) (by omega)
 have hN:nA L=(eL L 1 4).toNat+1:=rfl
 have tr:∀e o:Nat,e<L.length→o<1→True:=fun _ _ _ _=>trivial
 refine oY Tryz.func14 (by kernel_rfl) rfl ?_ h
 refine dK.evG (oK hI) 4 (aS8 L) ?_;simp only[aX,aL,bE];refine⟨⟨⟨trivial,tr⟩,by decide⟩,⟨?_⟩⟩
 refine dK.loop' (l:=bZ 4 (dW Tryz.prog Tryz.f14)) (b:=inr (inr (aZ .skip (dW Tryz.prog Tryz.f14) 4))) (r:=bZ 5 (dW Tryz.prog Tryz.f14)) (id:=0) (by kernel_rfl) (σ:=Nat)
   (fun k=>(fun(out:List Se) (k:Nat) (b i:Int)=>cQ 80 [(0,aQ aU 1 L),(3,.c (.sl 0 13 0 k)),(4,iV b),(5,iV i)] [.row 49 13 k (aR bQ out)]) (jT L k) k (eL L 0 8) (k:Int)) (fun k=>k≤nA L) (fun k=>nA L-k) 0 (bK _) ((kE 49 13 (aR bQ []) 3 (by kernel_rfl)).trans (aP (by kernel_rfl))) ?_
 rintro k hk Q1 q1n q1e -
 have hl:=rY L k
 refine dK.evG (oK hI) 2 (aS7 L (jT L k) k (eL L 0 8) (k:Int)) ?_;simp only[eV,aX,aL,bE,jK,decide_eq_true_eq,decide_eq_false_iff_not];refine⟨⟨⟨trivial,tr⟩,by decide⟩,fun c1=>⟨?_⟩,fun c1=>⟨q1e _ ?_⟩⟩;rotate_left
 ·obtain rfl:k=nA L:=by omega
  refine dK.pre (aP (st':=(fun(out:List Se) (k:Nat) (b i:Int)=>cQ 80 [(0,aQ aU 1 L),(3,.c (.sl 0 13 0 k)),(4,iV b),(5,iV i)] [.row 49 13 k (aR bQ out)]) (jT L (nA L)) (nA L) (eL L 0 8) ((nA L:Nat):Int)) (by kernel_rfl)) ?_
  refine dK.evH aV (aS0 L (jT L (nA L)) (nA L) (eL L 0 8) ((nA L:Nat):Int)) ?_;simp only[aX,aL,gX];exact⟨⟨by omega,fun _ _ _ _=>rfl⟩,⟨kF hl.symm fun e o he ho=>rfl⟩⟩
 have hk4:k≤3:=by omega
 refine dK.blk' (l:=bZ 2 (jM (dW Tryz.prog Tryz.f14) 4)) (id:=1) (a:=inr (aZ .skip (jM (dW Tryz.prog Tryz.f14) 4) 2)) (r:=bZ 3 (jM (dW Tryz.prog Tryz.f14) 4)) (by kernel_rfl) ?_
 intro Q2 q2n q2e _
 refine dK.pre (aP (st':=(fun(out:List Se) (k:Nat) (b i:Int)=>cQ 80 [(0,aQ aU 1 L),(3,.c (.sl 0 13 0 k)),(4,iV b),(5,iV i)] [.row 49 13 k (aR bQ out)]) (jT L k) k (eL L 0 8) (k:Int)) (by kernel_rfl)) ?_
 obtain⟨M,hM⟩:∃M,M=lE L k 48:=⟨_,rfl⟩
 have hMl:M.length=48:=by rw[hM];exact sK _ _ _
 have hMr:∀j,0≤M.getD j default∧M.getD j default≤1000002:=fun j=>by rw[hM];exact SG _ _ _ _
 have hMI:=aKO hMr
 have hse:seZ L k=aEH (eL L 0 8+3*(k:Int)) M:=by rw[hM];rfl
 refine dK.evG (eB (by simp;exact aJM L M)) 1 (aS6 L M (jT L k) k (eL L 0 8) (k:Int)) ?_;simp only[aX,aL,bE];refine⟨⟨⟨⟨trivial,tr⟩,by simp only[inR];omega,by decide,by decide,hL⟩,hM⟩,⟨?_⟩⟩;clear hM
 generalize eL L 0 8=b at p0 hse ⊢
 have hvs:jT L (k+1)=jT L k++[aEH (b+3*(k:Int)) M]:=by rw[UX,hse]
 refine dK.pre (aP (st':=(fun(out:List Se) (k:Nat) (b i:Int)=>cQ 80 [(0,aQ aU 1 L),(3,.c (.sl 0 13 0 k)),(4,iV b),(5,iV i),(6,aQ aU 1 M)] [.row 49 13 k (aR bQ out)]) (jT L k) k b (k:Int)) (by kernel_rfl)) ?_
 have hN9:(M.drop 0).take 9=M.take 9:=by rw[List.drop_zero]
 have hl9:(M.take 9).length=9:=by rw[dY];omega
 refine dK.evG (eB (by simp;exact aJU (by rw[←hN9];exact CO hMI 0 9) (mC (M.take 9)))) 1 (aS5 L M (M.take 9) (mC (M.take 9)) (jT L k) k b (k:Int)) ?_;simp only[aX,aL,bE];refine⟨⟨by decide,by decide,by omega⟩,⟨⟨hl9.symm,fun e o he ho=>by rw[←hN9];exact MI M 0 9 (by omega)⟩,trivial⟩,⟨?_⟩⟩
 obtain⟨D0,hD0⟩:∃D0,mC (M.take 9)=D0:=⟨_,rfl⟩
 rw[hD0]
 have hsm:=yP (b+3*(k:Int)) M
 have hsd:CX (b+3*(k:Int)) M={ D0 with nm:=tV ((b+3*(k:Int))%2),L:=XL ((b+3*(k:Int))%8 / 2),dn:=mnZ D0.dn 0,up:=mxZ D0.up 0,fi:=M.getD 9 default%4,la:=9+M.getD 10 default%4 }:=by rw[←hD0];rfl
 refine dK.pre (aP (st':=(fun(D:De) (out:List Se) (k:Nat) (b i:Int)=>cQ 80 [(0,aQ aU 1 L),(3,.c (.sl 0 13 0 k)),(4,iV b),(5,iV i),(6,aQ aU 1 M),(7,.c (.ptr 1 0))] [.row 49 13 k (aR bQ out),.cells 47 (lA (IR D))]) D0 (jT L k) k b (k:Int)) (by kernel_rfl)) ?_
 refine dK.evG (eB (by simp;exact aLT)) 6 (aS4 L M D0 (jT L k) k b (k:Int)) ?_
 have m9:=hMr 9
 have m10:=hMr 10
 have m40:=hMr 40
 obtain⟨B,hB⟩:∃B,b+3*(k:Int)=B:=⟨_,rfl⟩
 have hBr:0≤B∧B≤16:=by omega
 rw[hB]at hsm hsd hvs;simp only[aX,aL,bE,hB]
 have hnm:aZ (cG #[]) [cG #[99,112,117],cG #[109,101,109]] ((B%2).toNat+0)=tV (B%2):=by
  have:B%2=0∨B%2=1:=by omega
  rcases this with e|e<;>rw[e]<;>rfl
 rw[hnm];refine⟨by simp only[inR];omega,by simp only[inR];omega,⟨by omega,by decide⟩,⟨by omega,by omega⟩,by omega,by simp only[inR];omega,by simp only[inR];omega,⟨by omega,by decide⟩,⟨by omega,by decide,by simp only[inR];omega⟩,by simp only[inR];omega,⟨by decide,by omega⟩,⟨by omega,by decide⟩,⟨by decide,by omega⟩,⟨by omega,by decide⟩,by simp only[inR];omega,⟨?_⟩⟩
 obtain⟨D,hD⟩:∃D,CX B M=D:=⟨_,rfl⟩
 rw[hD]at hsm hsd;refine dK.pre (aP (st':=(fun(D:De) (out:List Se) (k:Nat) (b i:Int)=>cQ 80 [(0,aQ aU 1 L),(3,.c (.sl 0 13 0 k)),(4,iV b),(5,iV i),(6,aQ aU 1 M),(7,.c (.ptr 1 0))] [.row 49 13 k (aR bQ out),.cells 47 (lA (IR D))]) D (jT L k) k b (k:Int)) (by rw[hsd];rfl)) ?_
 have hsl:aEH B M=⟨D,lF D (sM D ((M.drop 11).take 14)) ((M.drop 25).take (3*(M.getD 40 default%5)).toNat) (M.getD 40 default%5).toNat⟩:=by rw[←hD];rfl
 clear hsd hnm hD0 hD
 refine dK.pre ((pD (j:=7) (id:=1) (off:=0) (n:=12) (cs:=lA (IR D)) (iY D) (by rfl) (by rfl) rfl (aL0 (n:=0) (l:=[]))).trans ((iT (iU 80 [0,3,4,5,6,7]) _).trans (aP (st':=(fun(D:De) (out:List Se) (k:Nat) (b i:Int)=>cQ 80 [(0,aQ aU 1 L),(3,.c (.sl 0 13 0 k)),(4,iV b),(5,iV i),(6,aQ aU 1 M),(7,.c (.lp 12 1 (iY D) 0 0))] [.row 49 13 k (aR bQ out)]) D (jT L k) k b (k:Int)) (by kernel_rfl)))) ?_
 have hl14:((M.drop 11).take 14).length=14:=by rw[dY,List.length_drop];omega
 have hWl:=qR D ((M.drop 11).take 14)
 have hWb:=OI ((M.drop 11).take 14) hsm
 refine dK.evG (eB (by simp;exact aNQ D (CO hMI 11 14) (sM D ((M.drop 11).take 14)))) 1 (aS3 L M ((M.drop 11).take 14) (sM D ((M.drop 11).take 14)) D (jT L k) k b (k:Int)) ?_;simp only[aX,aL,bE,and_true,true_and];refine⟨⟨by decide,by decide,by omega⟩,⟨fun _ _ _ _=>trivial,⟨hl14.symm,fun e o he ho=>MI M 11 14 (by omega)⟩,hsm⟩,⟨?_⟩⟩
 generalize sM D ((M.drop 11).take 14)=W at hWl hWb hsl ⊢
 refine dK.pre (aP (st':=(fun(W:List Int) (D:De) (out:List Se) (k:Nat) (b i:Int)=>cQ 80 [(0,aQ aU 1 L),(3,.c (.sl 0 13 0 k)),(4,iV b),(5,iV i),(6,aQ aU 1 M),(7,.c (.lp 12 1 (iY D) 0 0)),(8,aQ aU 1 W)] [.row 49 13 k (aR bQ out)]) W D (jT L k) k b (k:Int)) (by kernel_rfl)) ?_
 obtain⟨r,hr⟩:∃r,M.getD 40 default%5=r:=⟨_,rfl⟩
 have hrr:0≤r∧r≤4:=by omega
 have hl25:((M.drop 25).take (3*r).toNat).length=(3*r).toNat:=by rw[dY,List.length_drop];omega
 have hsp:gZ D=(D.la-D.fi+1).toNat:=rfl
 have hsm2:=hsm
 obtain⟨_,_,s1,s2,s3⟩:=hsm2
 have har:yG ((M.drop 25).take (3*r).toNat) 4=r.toNat:=by unfold yG;rw[hl25];omega
 rw[hr]at hsl;refine dK.evH (eB (by simp;exact aNR D W (CO hMI 25 (3*r).toNat) (lF D W ((M.drop 25).take (3*r).toNat) r.toNat))) (aS2 L M ((M.drop 25).take (3*r).toNat) W D (lF D W ((M.drop 25).take (3*r).toNat) r.toNat) (jT L k) k b (k:Int)) ?_;simp only[aX,aL,bE,and_true,true_and,hr,har];refine⟨⟨by decide,by omega⟩,⟨m40.1,by decide⟩,by simp only[inR];omega,by simp only[inR];omega,⟨by decide,by omega,by omega⟩,⟨fun _ _ _ _=>trivial,fun _ _ _ _=>trivial,⟨by omega,fun e o he ho=>MI M 25 (3*r).toNat (by omega)⟩,hsm,hWb,by omega,by omega,by decide,by decide,by omega⟩,aJ _,⟨by omega,by omega,?_⟩,⟨q2n _ ?_⟩⟩
 ·exact aN1 ⟨D,lF D W ((M.drop 25).take (3*r).toNat) r.toNat⟩
 rw[hsl]at hvs
 refine dK.pre (show cL G _ ((fun(out:List Se) (k:Nat) (b i:Int)=>cQ 80 [(0,aQ aU 1 L),(3,.c (.sl 0 13 0 k)),(4,iV b),(5,iV i)] [.row 49 13 k (aR bQ out)]) (jT L (k+1)) (k+1) b (k:Int)) from by
  rw[hvs]
  exact gU ⟨⟨rfl,rfl,rfl,fun e o he ho=>oT (ρ:=[2]) hl (aPS ⟨D,lF D W ((M.drop 25).take (3*r).toNat) r.toNat⟩) he ho⟩,trivial⟩) ?_
 refine dK.evH aV (aS1 L (jT L (k+1)) (k+1) b (k:Int)) ?_;simp only[aX,aL,bE,inR]
 refine⟨by omega,⟨q1n (k+1) _ (by omega) (by omega) (aP (by kernel_rfl))⟩⟩
end
end Go.AE
