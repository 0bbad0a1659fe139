import Derived.Test.YtgdlaibocecehaaGreatDoorRVo
set_option linter.unusedVariables false
set_option linter.unusedSimpArgs false
namespace Go.AE
open _root_.ByteArray renaming mk→aO
open _root_.Int renaming ofNat→aF,toNat→aL
open IntKind renaming i64→aA
open _root_.Nat renaming le_refl→aU,zero_le→bH
open Value renaming slice→dP
open Go.Proofs Go.Proofs.YtgdlaibocecehaaGreatDoor
theorem aT9(L:List Int)(a:Int):cJ (qT L) (dH 2 (cS Tryz.prog Tryz.f26)) (iR Tryz.f26 [aX aW 1 L,iV a]) (cP (fO 62 [0,1,4,5]) (bB Tryz.prog Tryz.f26))=Tr.rq ((L.length=L.length∧∀(e o:Nat),e<L.length→o<1→aJ aW L e o=aJ aW L e o)∧aF 0<aF 2)
 (.rq (0≤cC L a 2∧cC L a 2<(↑2:Int))
 (.rq ((cC L a 2).toNat+0<2)
 (.rq (inR aA (a+1))
 (.rq ((L.length=L.length∧∀(e o:Nat),e<L.length→o<1→aJ aW L e o=aJ aW L e o)∧aF 0<aF 8)
 (.done .normal
 (bU 62 [(0,.c (.p (.l 1 L.length (aJ aW L)))),(1,.c (.p (.i .i64 a))),(4,.c (.ptr 0 0)),(5,.c (.ptr 1 0))] [.cells 33 (kE 0 0 0 0 0 0 0 (aO #[])),.cells 33 (kE 1 (cC L (a+1) 8) 0 0 0 0 0 (bN (aO #[]) [aO #[99,112,117],aO #[109,101,109]] ((cC L a 2).toNat+0)))])))))):=by kernel_rfl
theorem aT8(L:List Int)(a fu wi off k:Int)(nm:ByteArray):cJ (qT L) (dH 2 (bJ 2 (cS Tryz.prog Tryz.f26))) (bU 62 [(0,aX aW 1 L),(1,iV a),(4,.c (.ptr 0 0)),(5,.c (.ptr 1 0))] [.cells 33 [.p (.i .i64 0),.p (.i .i64 0),.p (.i .i64 0),.p (.i .i64 0),.p (.i .i64 0),.p (.i .i64 0),.p (.i .i64 0),.p (.s ⟨#[]⟩),.p (.z (.slice none 0 0)),.p (.z (.slice none 0 0)),.p (.z (.slice none 0 0))],.cells 33 (kE 1 fu wi off k 0 0 nm)]) (cP (fO 62 [0,1,4,5]) (bB Tryz.prog Tryz.f26))=bT (fu != 0)
 (.rq (inR aA (a+2))
 (.rq ((L.length=L.length∧∀(e o:Nat),e<L.length→o<1→aJ aW L e o=aJ aW L e o)∧aF 0<aF 3)
 (.rq (inR aA (1+cC L (a+2) 3))
 (.done .normal
 (bU 62 [(0,.c (.p (.l 1 L.length (aJ aW L)))),(1,.c (.p (.i .i64 a))),(4,.c (.ptr 0 0)),(5,.c (.ptr 1 0))] [.cells 33 (kE 0 0 0 0 0 0 0 (aO #[])),.cells 33 (kE 1 fu (1+cC L (a+2) 3) off k 0 0 nm)])))))
 (.done .normal
 (bU 62 [(0,.c (.p (.l 1 L.length (aJ aW L)))),(1,.c (.p (.i .i64 a))),(4,.c (.ptr 0 0)),(5,.c (.ptr 1 0))] [.cells 33 (kE 0 0 0 0 0 0 0 (aO #[])),.cells 33 (kE 1 fu wi off k 0 0 nm)])):=by kernel_rfl
theorem aT7(L:List Int)(a fu wi off k:Int)(nm:ByteArray):cJ (qT L) (dH 2 (bJ 4 (cS Tryz.prog Tryz.f26))) (bU 62 [(0,aX aW 1 L),(1,iV a),(4,.c (.ptr 0 0)),(5,.c (.ptr 1 0))] [.cells 33 [.p (.i .i64 0),.p (.i .i64 0),.p (.i .i64 0),.p (.i .i64 0),.p (.i .i64 0),.p (.i .i64 0),.p (.i .i64 0),.p (.s ⟨#[]⟩),.p (.z (.slice none 0 0)),.p (.z (.slice none 0 0)),.p (.z (.slice none 0 0))],.cells 33 (kE 1 fu wi off k 0 0 nm)]) (cP (fO 62 [0,1,4,5]) (bB Tryz.prog Tryz.f26))=bT (fu==7)
 (.rq (inR aA (a+3))
 (.rq ((L.length=L.length∧∀(e o:Nat),e<L.length→o<1→aJ aW L e o=aJ aW L e o)∧0<wi)
 (.rq (inR aA (1+cC L (a+3) wi))
 (.done .normal
 (bU 62 [(0,.c (.p (.l 1 L.length (aJ aW L)))),(1,.c (.p (.i .i64 a))),(4,.c (.ptr 0 0)),(5,.c (.ptr 1 0))] [.cells 33 (kE 0 0 0 0 0 0 0 (aO #[])),.cells 33 (kE 1 fu wi off (1+cC L (a+3) wi) 0 0 nm)])))))
 (.done .normal
 (bU 62 [(0,.c (.p (.l 1 L.length (aJ aW L)))),(1,.c (.p (.i .i64 a))),(4,.c (.ptr 0 0)),(5,.c (.ptr 1 0))] [.cells 33 (kE 0 0 0 0 0 0 0 (aO #[])),.cells 33 (kE 1 fu wi off k 0 0 nm)])):=by kernel_rfl
theorem aT6(L:List Int)(a fu wi off k:Int)(nm:ByteArray):cJ (qT L) (dH 2 (bJ 6 (cS Tryz.prog Tryz.f26))) (bU 62 [(0,aX aW 1 L),(1,iV a),(4,.c (.ptr 0 0)),(5,.c (.ptr 1 0))] [.cells 33 [.p (.i .i64 0),.p (.i .i64 0),.p (.i .i64 0),.p (.i .i64 0),.p (.i .i64 0),.p (.i .i64 0),.p (.i .i64 0),.p (.s ⟨#[]⟩),.p (.z (.slice none 0 0)),.p (.z (.slice none 0 0)),.p (.z (.slice none 0 0))],.cells 33 (kE 1 fu wi off k 0 0 nm)]) (cP (fO 62 [0,1,4,5,46]) (bB Tryz.prog Tryz.f26))=Tr.rq (inR aA (a+4))
 (.rq ((L.length=L.length∧∀(e o:Nat),e<L.length→o<1→aJ aW L e o=aJ aW L e o)∧aF 0<aF 6)
 (.rq (0≤cC L (a+4) 6∧aF 0<aF 4∧inR aA (cC L (a+4) 6 / 4))
 (.rq (inR aA (a+5))
 (.rq ((L.length=L.length∧∀(e o:Nat),e<L.length→o<1→aJ aW L e o=aJ aW L e o)∧aF 0<aF 6)
 (.done .normal
 (bU 62 [(0,.c (.p (.l 1 L.length (aJ aW L)))),(1,.c (.p (.i .i64 a))),(4,.c (.ptr 0 0)),(5,.c (.ptr 1 0)),(46,.c (.p (.i .i64 (cC L (a+5) 6))))] [.cells 33 (kE 0 0 0 0 0 0 0 (aO #[])),.cells 33 (kE 1 fu wi (cC L (a+4) 6 / 4) k 0 0 nm)])))))):=by kernel_rfl
theorem aT5(L:List Int)(a fu wi off k:Int)(nm:ByteArray)(w:Int):cJ (qT L) (bJ 8 (cS Tryz.prog Tryz.f26)) (bU 62 [(0,aX aW 1 L),(1,iV a),(4,.c (.ptr 0 0)),(5,.c (.ptr 1 0)),(46,iV w)] [.cells 33 [.p (.i .i64 0),.p (.i .i64 0),.p (.i .i64 0),.p (.i .i64 0),.p (.i .i64 0),.p (.i .i64 0),.p (.i .i64 0),.p (.s ⟨#[]⟩),.p (.z (.slice none 0 0)),.p (.z (.slice none 0 0)),.p (.z (.slice none 0 0))],.cells 33 (kE 1 fu wi off k 0 0 nm)]) (cP [] (bB Tryz.prog Tryz.f26))=bT (w==0)
 (.rq (inR aA (a+6))
 (.rq ((L.length=L.length∧∀(e o:Nat),e<L.length→o<1→aJ aW L e o=aJ aW L e o)∧aF 0<aF 3)
 (.rq
 (1≤1 ∧
 ∀(e o:Nat),
 e<1→o<3→BJ (bN C.top (SZ (aO #[104,111,115,116]) (cC L (a+6) 3) (aO #[98])) ((e+0)*3+o))=true)
 (.done .ret
 (St.mk [V.a [C.p (PV.i aA 1),C.p (PV.i aA fu),C.p (PV.i aA wi),C.p (PV.i aA off),C.p (PV.i aA k),C.p (PV.i aA 0),C.p (PV.i aA 0),C.p (PV.s nm),C.p (PV.l 3 1 fun e o=>tE (bN C.top (SZ (aO #[104,111,115,116]) (cC L (a+6) 3) (aO #[98])) ((e+0)*3+o))),C.p (PV.z (dP none 0 0)),C.p (PV.z (dP none 0 0))]] [])))))
 (bT (w==1)
 (.rq
 (1≤1∧∀(e o:Nat),e<1→o<3→BJ (bN C.top (SZ (aO #[122,111,110,101]) 1 (aO #[120])) ((e+0)*3+o))=true)
 (.done .ret
 (St.mk [V.a [C.p (PV.i aA 1),C.p (PV.i aA fu),C.p (PV.i aA wi),C.p (PV.i aA off),C.p (PV.i aA k),C.p (PV.i aA 0),C.p (PV.i aA 0),C.p (PV.s nm),C.p (PV.l 3 1 fun e o=>tE (bN C.top (SZ (aO #[122,111,110,101]) 1 (aO #[120])) ((e+0)*3+o))),C.p (PV.z (dP none 0 0)),C.p (PV.z (dP none 0 0))]] [])))
 (.done .ret
 (St.mk [V.a (kE 1 fu wi off k 0 0 nm)] []))):=by kernel_rfl
theorem aPR(L:List Int)(a:Int)(kd fu wi off k n d:Int)(nm:ByteArray)(mc:Nat)(f:Nat→Nat→PV)(bc:Nat)(g:Nat→Nat→PV)(c:Nat)(e:Nat→Nat→PV):cJ (qT L) (dH 2 (cS Tryz.prog Tryz.f28)) (iR Tryz.f28 [aX aW 1 L,iV a,.a (cF kd fu wi off k n d nm mc f bc g c e)]) (cP (fO 36 [0,1,6,7]) (bB Tryz.prog Tryz.f28))=Tr.rq ((L.length=L.length∧∀(e o:Nat),e<L.length→o<1→aJ aW L e o=aJ aW L e o)∧aF 0<aF 5)
 (.done .normal
 (bU 36 [(0,.c (.p (.l 1 L.length (aJ aW L)))),(1,.c (.p (.i .i64 a))),(6,.c (.ptr 0 0)),(7,.c (.ptr 1 0))] [.cells 33 (kE 0 0 0 0 0 0 0 (aO #[])),.cells 33 [.p (.i .i64 2),.p (.i .i64 (cC L a 5)),.p (.i .i64 0),.p (.i .i64 0),.p (.i .i64 0),.p (.i .i64 0),.p (.i .i64 0),.p (.s (aO #[])),.p (.z (dP none 0 0)),.p (.z (dP none 0 0)),.sl 2 11 0 1],.row 33 11 1 fun e_1 o=>fG [1,3,2] (bN C.top (cF kd fu wi off k n d nm mc f bc g c e) (e_1*11+o))])):=by kernel_rfl
def aKK(L:List Int):List V→Option (Prop×Int×Nat)
 |[x,.c (.p (.i .i64 i)),.c (.p (.i .i64 m))]=>match BY x L with
  |some p=>some (p∧0<m,cC L i m,m.toNat)
  |none=>none
 |_=>none
def aLD(L:List Int):Ext:=LT 20 (aKK L) dX
theorem aPQ(L:List Int)(a fu k:Int)(kf:Nat→Nat→PV):cJ (qT L) (dH 2 (bJ 2 (cS Tryz.prog Tryz.f28))) (bU 36 [(0,aX aW 1 L),(1,iV a),(6,.c (.ptr 0 0)),(7,.c (.ptr 1 0))] [.cells 33 [.p (.i .i64 0),.p (.i .i64 0),.p (.i .i64 0),.p (.i .i64 0),.p (.i .i64 0),.p (.i .i64 0),.p (.i .i64 0),.p (.s ⟨#[]⟩),.p (.z (.slice none 0 0)),.p (.z (.slice none 0 0)),.p (.z (.slice none 0 0))],.cells 33 [.p (.i .i64 2),.p (.i .i64 fu),.p (.i .i64 0),.p (.i .i64 0),.p (.i .i64 k),.p (.i .i64 0),.p (.i .i64 0),.p (.s ⟨#[]⟩),.p (.z (.slice none 0 0)),.p (.z (.slice none 0 0)),.p (.l 11 1 kf)]]) (cP (fO 36 [0,1,6,7]) (bB Tryz.prog Tryz.f28))=bT (fu==4)
 (.rq (inR aA (a+1))
 (.rq ((L.length=L.length∧∀(e o:Nat),e<L.length→o<1→aJ aW L e o=aJ aW L e o)∧aF 0<aF 5)
 (.rq (0≤cC L (a+1) 5∧aF 0<aF 4∧inR aA (cC L (a+1) 5 / 4))
 (.rq (inR aA (1+cC L (a+1) 5 / 4))
 (.done .normal
 (bU 36 [(0,.c (.p (.l 1 L.length (aJ aW L)))),(1,.c (.p (.i .i64 a))),(6,.c (.ptr 0 0)),(7,.c (.ptr 1 0))] [.cells 33 (kE 0 0 0 0 0 0 0 (aO #[])),.cells 33 (aCO 2 fu 0 0 (1+cC L (a+1) 5 / 4) 0 0 (aO #[]) 1 kf)]))))))
 (.done .normal
 (bU 36 [(0,.c (.p (.l 1 L.length (aJ aW L)))),(1,.c (.p (.i .i64 a))),(6,.c (.ptr 0 0)),(7,.c (.ptr 1 0))] [.cells 33 (kE 0 0 0 0 0 0 0 (aO #[])),.cells 33 (aCO 2 fu 0 0 k 0 0 (aO #[]) 1 kf)])):=by kernel_rfl
theorem aPP(L:List Int)(a fu k:Int)(kf:Nat→Nat→PV):cJ (aLD L) (bJ 4 (cS Tryz.prog Tryz.f28)) (bU 36 [(0,aX aW 1 L),(1,iV a),(6,.c (.ptr 0 0)),(7,.c (.ptr 1 0))] [.cells 33 [.p (.i .i64 0),.p (.i .i64 0),.p (.i .i64 0),.p (.i .i64 0),.p (.i .i64 0),.p (.i .i64 0),.p (.i .i64 0),.p (.s ⟨#[]⟩),.p (.z (.slice none 0 0)),.p (.z (.slice none 0 0)),.p (.z (.slice none 0 0))],.cells 33 [.p (.i .i64 2),.p (.i .i64 fu),.p (.i .i64 0),.p (.i .i64 0),.p (.i .i64 k),.p (.i .i64 0),.p (.i .i64 0),.p (.s ⟨#[]⟩),.p (.z (.slice none 0 0)),.p (.z (.slice none 0 0)),.p (.l 11 1 kf)]]) (cP [] (bB Tryz.prog Tryz.f28))=Tr.rq (inR aA (a+2))
 (.rq (((L.length=L.length∧∀(e o:Nat),e<L.length→o<1→aJ aW L e o=aJ aW L e o)∧aF 0<aF 4)∧0≤cC L (a+2) 4∧cC L (a+2) 4<(↑4:Int))
 (bT (cC L (a+2) 4==(↑0:Int))
 (.rq (0≤(↑0:Int)∧(↑0:Int)<(↑4:Int))
 (.rq (0<4)
 (.done .ret
 (St.mk [V.a (aCO 2 fu 0 0 k 0 0 (aO #[]) 1 kf)] []))))
 (bT (cC L (a+2) 4==(↑1:Int))
 (.rq (0≤(↑1:Int)∧(↑1:Int)<(↑4:Int))
 (.rq (1<4)
 (.rq (1≤1∧∀(e o:Nat),e<1→o<1→BJ (bN C.top [C.p (PV.s (aO #[104,111,115,116]))] ((e+0)*1+o))=true)
 (.done .ret
 (St.mk [V.a [C.p (PV.i aA 2),C.p (PV.i aA fu),C.p (PV.i aA 0),C.p (PV.i aA 0),C.p (PV.i aA k),C.p (PV.i aA 0),C.p (PV.i aA 0),C.p (PV.s (aO #[])),C.p (PV.z (dP none 0 0)),C.p (PV.l 1 1 fun e o=>tE (bN C.top [C.p (PV.s (aO #[104,111,115,116]))] ((e+0)*1+o))),C.p (PV.l 11 1 kf)]] [])))))
 (bT (cC L (a+2) 4==(↑2:Int))
 (.rq (0≤(↑2:Int)∧(↑2:Int)<(↑4:Int))
 (.rq (2<4)
 (.rq (2≤2∧∀(e o:Nat),e<2→o<1→BJ (C.p (PV.s (bN (aO #[]) [aO #[104,111,115,116],aO #[122,111,110,101]] (e+0))))=true)
 (.done .ret
 (St.mk [V.a [C.p (PV.i aA 2),C.p (PV.i aA fu),C.p (PV.i aA 0),C.p (PV.i aA 0),C.p (PV.i aA k),C.p (PV.i aA 0),C.p (PV.i aA 0),C.p (PV.s (aO #[])),C.p (PV.z (dP none 0 0)),C.p (PV.l 1 2 fun e o=>tE (C.p (PV.s (bN (aO #[]) [aO #[104,111,115,116],aO #[122,111,110,101]] (e+0))))),C.p (PV.l 11 1 kf)]] [])))))
 (bT (cC L (a+2) 4==(↑3:Int))
 (.rq (0≤(↑3:Int)∧(↑3:Int)<(↑4:Int))
 (.rq (3<4)
 (.rq (1≤1∧∀(e o:Nat),e<1→o<1→BJ (bN C.top [C.p (PV.s (aO #[122,111,110,101]))] ((e+0)*1+o))=true)
 (.done .ret
 (St.mk [V.a [C.p (PV.i aA 2),C.p (PV.i aA fu),C.p (PV.i aA 0),C.p (PV.i aA 0),C.p (PV.i aA k),C.p (PV.i aA 0),C.p (PV.i aA 0),C.p (PV.s (aO #[])),C.p (PV.z (dP none 0 0)),C.p (PV.l 1 1 fun e o=>tE (bN C.top [C.p (PV.s (aO #[122,111,110,101]))] ((e+0)*1+o))),C.p (PV.l 11 1 kf)]] [])))))
 Tr.fail))))):=by kernel_rfl
def zT(L:List Int)(a:Int):Int:=cC L (a+1) 8
def wX(L:List Int)(a:Int):Int:=if zT L a=0 then 0 else 1+cC L (a+2) 3
def kS(L:List Int)(a:Int):Int:=if zT L a=7 then 1+cC L (a+3) (wX L a) else 0
def wC(L:List Int)(a:Int):Int:=cC L (a+4) 6 / 4
def HO(L:List Int)(a:Int):ByteArray:=vR (cC L a 2)
def wH(L:List Int)(a:Int):List Mt:=if cC L (a+5) 6=0 then [(KD,cC L (a+6) 3,⟨#[98]⟩)] else if cC L (a+5) 6=1 then [(WX,1,⟨#[120]⟩)] else []
def lY(L:List Int)(a:Int):List PV:=[.i .i64 1,.i .i64 (zT L a),.i .i64 (wX L a),.i .i64 (wC L a),.i .i64 (kS L a),.i .i64 0,.i .i64 0,.s (HO L a),.l 3 (wH L a).length (aJ bY (wH L a)),.l 1 0 (aJ bM []),.l 11 0 nF]
def aE9(L:List Int):Mod
 |[x,.c (.p (.i .i64 a))]=>match BY x L with
  |some p=>some (p∧0≤a∧a≤1000,.a (iP (lY L a)))
  |none=>none
 |_=>none
def RB(L:List Int)(a:Int):Int:=cC L a 5
def kG(L:List Int)(a:Int):Int:=if RB L a=4 then 1+cC L (a+1) 5 / 4 else 0
def CB(L:List Int)(a:Int):List ByteArray:=if cC L (a+2) 4=0 then [] else if cC L (a+2) 4=1 then [KD] else if cC L (a+2) 4=2 then [KD,WX] else [WX]
def wO(L:List Int)(a:Int)(E:List PV):List PV:=[.i .i64 2,.i .i64 (RB L a),.i .i64 0,.i .i64 0,.i .i64 (kG L a),.i .i64 0,.i .i64 0,.s ⟨#[]⟩,.l 3 0 (aJ bY []),.l 1 (CB L a).length (aJ bM (CB L a)),.l 11 1 (lM [E])]
def aEG(L:List Int):Mod
 |[x,.c (.p (.i .i64 a)),.a [.p (.i .i64 kd),.p (.i .i64 fu),.p (.i .i64 wi),.p (.i .i64 off),.p (.i .i64 k),.p (.i .i64 n),.p (.i .i64 d),.p (.s nm),.p (.l 3 mc f),.p (.l 1 bc g),.p (.l 11 c e)]]=>match BY x L with
  |some p=>some (p∧0≤a∧a≤1000,.a (iP (wO L a [.i .i64 kd,.i .i64 fu,.i .i64 wi,.i .i64 off,.i .i64 k,.i .i64 n,.i .i64 d,.s nm,.l 3 mc f,.l 1 bc g,.l 11 c e])))
  |none=>none
 |_=>none
theorem DB{L:List Int}{a:Int}{q:PV}(hq:jT q (.l 3 (wH L a).length (aJ bY (wH L a)))):mX (eL (.a [.p (.i .i64 1),.p (.i .i64 (zT L a)),.p (.i .i64 (wX L a)),.p (.i .i64 (wC L a)),.p (.i .i64 (kS L a)),.p (.i .i64 0),.p (.i .i64 0),.p (.s (HO L a)),.p q,.p (.z (.slice none 0 0)),.p (.z (.slice none 0 0))]) (.a (iP (lY L a)))):=
 ⟨eL.a (xs:=[.i .i64 1,.i .i64 (zT L a),.i .i64 (wX L a),.i .i64 (wC L a),.i .i64 (kS L a),.i .i64 0,.i .i64 0,.s (HO L a),q,.z (.slice none 0 0),.z (.slice none 0 0)]) (vs:=lY L a)
  (.cons (.refl _) (.cons (.refl _) (.cons (.refl _) (.cons (.refl _) (.cons (.refl _) (.cons (.refl _) (.cons (.refl _) (.cons (.refl _) (.cons hq (.cons (jT.nil 1 _) (.cons (jT.nil 11 _) .nil)))))))))))⟩
theorem xZ{L:List Int}{a:Int}{q:PV}{kf:Nat→Nat→PV}{E:List PV}(hk:∀e o,e<1→o<11→kf e o=lM [E] e o)(hq:jT q (.l 1 (CB L a).length (aJ bM (CB L a)))):mX (eL (.a [.p (.i .i64 2),.p (.i .i64 (RB L a)),.p (.i .i64 0),.p (.i .i64 0),.p (.i .i64 (kG L a)),.p (.i .i64 0),.p (.i .i64 0),.p (.s ⟨#[]⟩),.p (.z (.slice none 0 0)),.p q,.p (.l 11 1 kf)]) (.a (iP (wO L a E)))):=
 ⟨eL.a (xs:=[.i .i64 2,.i .i64 (RB L a),.i .i64 0,.i .i64 0,.i .i64 (kG L a),.i .i64 0,.i .i64 0,.s ⟨#[]⟩,.z (.slice none 0 0),q,.l 11 1 kf]) (vs:=wO L a E)
  (.cons (.refl _) (.cons (.refl _) (.cons (.refl _) (.cons (.refl _) (.cons (.refl _) (.cons (.refl _) (.cons (.refl _) (.cons (.refl _) (.cons (jT.nil 3 _) (.cons hq (.cons (jT.l fun e o he ho=>jT.of_eq (hk e o he ho)) .nil)))))))))))⟩
section
variable {G:Nat→Option Obj}
set_option maxRecDepth 100000 in
theorem aMW{L:List Int}(hI:oM L):dD Tryz.prog G 26 (aE9 L):=by
 intro args p v hm hp h;unfold aE9 at hm
 split at hm;rotate_left;· cases hm
 split at hm;rotate_left;· cases hm
 rename_i x a _ q hx;obtain⟨rfl,rfl⟩:=bA hm;clear hm;obtain⟨hq,ha⟩:=hp;refine lW.args (args':=[aX aW 1 L,iV a]) ?_ (.cons (mO hx hq) (.cons (.refl _) .nil));clear hx hq
 have hs:=kB (G:=G) hI
 have tr:(True∧∀(e o:Nat),e<L.length→o<1→True):=⟨trivial,fun _ _ _ _=>trivial⟩
 have p0:=cY L a (m:=2) (by omega)
 have p1:=cY L (a+1) (m:=8) (by omega)
 have p2:=cY L (a+2) (m:=3) (by omega)
 have p4:=cY L (a+4) (m:=6) (by omega)
 have pw:0≤wX L a∧wX L a≤3∧(zT L a=7→0<wX L a):=by unfold wX;split<;>omega
 have hnm:bN (aO #[]) [aO #[99,112,117],aO #[109,101,109]] ((cC L a 2).toNat+0)=HO L a:=by
  unfold HO
  have:cC L a 2=0∨cC L a 2=1:=by omega
  rcases this with e|e<;>rw[e]<;>rfl
 refine fR Tryz.func26 (by kernel_rfl) rfl ?_ h
 refine cO.evG hs 2 (aT9 L a) ?_;simp only[aS,aI,aZ,hnm];refine⟨⟨tr,by decide⟩,p0,by omega,by simp only[inR];omega,⟨tr,by decide⟩,⟨?_⟩⟩
 have k4:cO Tryz.prog G (bB Tryz.prog Tryz.f26) (.a (iP (lY L a))) (bJ 6 (cS Tryz.prog Tryz.f26)) ((fun(fu wi off k:Int) (nm:ByteArray)=>(bU 62 [(0,aX aW 1 L),(1,iV a),(4,.c (.ptr 0 0)),(5,.c (.ptr 1 0))] [.cells 33 [.p (.i .i64 0),.p (.i .i64 0),.p (.i .i64 0),.p (.i .i64 0),.p (.i .i64 0),.p (.i .i64 0),.p (.i .i64 0),.p (.s ⟨#[]⟩),.p (.z (.slice none 0 0)),.p (.z (.slice none 0 0)),.p (.z (.slice none 0 0))],.cells 33 (kE 1 fu wi off k 0 0 nm)]:St)) (zT L a) (wX L a) 0 (kS L a) (HO L a)) (fun _ _=>False):=by
  refine cO.evG hs 2 (aT6 L a (zT L a) (wX L a) 0 (kS L a) (HO L a)) ?_;simp only[aS,aI,aZ];refine⟨by simp only[inR];omega,⟨tr,by decide⟩,⟨p4.1,by decide,by simp only[inR];omega⟩,by simp only[inR];omega,⟨tr,by decide⟩,⟨?_⟩⟩;refine cO.evH hs (aT5 L a (zT L a) (wX L a) (wC L a) (kS L a) (HO L a) (cC L (a+5) 6)) ?_;simp only[bD,aS,aI,bK,beq_iff_eq,beq_eq_false_iff_ne,ne_eq];refine⟨fun w0=>⟨by simp only[inR];omega,⟨tr,by decide⟩,⟨aU _,fun e o he ho=>?_⟩,DB ?_⟩,fun w0=>⟨fun w1=>⟨⟨aU _,fun e o he ho=>?_⟩,DB ?_⟩,fun w1=>DB ?_⟩⟩
  ·obtain rfl:e=0:=by omega
   match o,ho with
   |0,_|1,_|2,_=>rfl
  ·unfold wH;rw[if_pos w0]
   refine jT.l fun e o he ho=>jT.of_eq ?_
   obtain rfl:e=0:=by omega
   match o,ho with
   |0,_|1,_|2,_=>rfl
  ·obtain rfl:e=0:=by omega
   match o,ho with
   |0,_|1,_|2,_=>rfl
  ·unfold wH;rw[if_neg w0,if_pos w1]
   refine jT.l fun e o he ho=>jT.of_eq ?_
   obtain rfl:e=0:=by omega
   match o,ho with
   |0,_|1,_|2,_=>rfl
  ·unfold wH;rw[if_neg w0,if_neg w1];exact jT.nil 3 _
 have k3:cO Tryz.prog G (bB Tryz.prog Tryz.f26) (.a (iP (lY L a))) (bJ 4 (cS Tryz.prog Tryz.f26)) ((fun(fu wi off k:Int) (nm:ByteArray)=>(bU 62 [(0,aX aW 1 L),(1,iV a),(4,.c (.ptr 0 0)),(5,.c (.ptr 1 0))] [.cells 33 [.p (.i .i64 0),.p (.i .i64 0),.p (.i .i64 0),.p (.i .i64 0),.p (.i .i64 0),.p (.i .i64 0),.p (.i .i64 0),.p (.s ⟨#[]⟩),.p (.z (.slice none 0 0)),.p (.z (.slice none 0 0)),.p (.z (.slice none 0 0))],.cells 33 (kE 1 fu wi off k 0 0 nm)]:St)) (zT L a) (wX L a) 0 0 (HO L a)) (fun _ _=>False):=by
  refine cO.evG hs 2 (aT7 L a (zT L a) (wX L a) 0 0 (HO L a)) ?_
  have e7:zT L a=7→kS L a=1+cC L (a+3) (wX L a):=fun h=>by unfold kS;rw[if_pos h]
  have e8:¬zT L a=7→kS L a=0:=fun h=>by unfold kS;rw[if_neg h]
  simp only[bD,aS,aI,aZ,beq_iff_eq,beq_eq_false_iff_ne,ne_eq];refine⟨fun f7=>?_,fun f7=>⟨?_⟩⟩
  ·have p3:=cY L (a+3) (m:=wX L a) (pw.2.2 f7)
   refine⟨by simp only[inR];omega,⟨tr,pw.2.2 f7⟩,by simp only[inR];omega,⟨?_⟩⟩;rw[e7 f7]at k4
   exact cO.pre (aP (by kernel_rfl)) k4
  ·rw[e8 f7]at k4
   exact cO.pre (aP (by kernel_rfl)) k4
 refine cO.evG hs 2 (aT8 L a (zT L a) 0 0 0 (HO L a)) ?_;simp only[bD,aS,aI,aZ,bne_iff_ne,bne_eq_false_iff_eq,ne_eq]
 have e0:¬zT L a=0→wX L a=1+cC L (a+2) 3:=fun h=>by unfold wX;rw[if_neg h]
 have e1:zT L a=0→wX L a=0:=fun h=>by unfold wX;rw[if_pos h]
 refine⟨fun f0=>⟨by simp only[inR];omega,⟨tr,by decide⟩,by simp only[inR];omega,⟨?_⟩⟩,fun f0=>⟨?_⟩⟩
 ·rw[e0 f0]at k3
  exact cO.pre (aP (by kernel_rfl)) k3
 ·rw[e1 f0]at k3
  exact cO.pre (aP (by kernel_rfl)) k3
theorem RJ{L:List Int}(hI:oM L):bO Tryz.prog G (aLD L):=by
 refine LS aT ?_;intro args p z n he hp h
 unfold aKK at he
 split at he;rotate_left;· cases he
 split at he;rotate_left;· cases he
 rename_i x i m _ q hx;injection he with he;injection he with e1 e2;injection e2 with e2 e3;subst e1;subst e2;subst e3;exact MS (G:=G) hI [x,.c (.p (.i .i64 i)),.c (.p (.i .i64 m))] _ _ (by simp only[FM,hx];rfl) hp h
set_option maxRecDepth 100000 in
theorem aNC{L:List Int}(hI:oM L):dD Tryz.prog G 28 (aEG L):=by
 intro args p v hm hp h;unfold aEG at hm
 split at hm;rotate_left;· cases hm
 rename_i x a kd fu wi off k n d nm mc f bc g c e
 split at hm;rotate_left;· cases hm
 rename_i q hx;obtain⟨rfl,rfl⟩:=bA hm;clear hm;obtain⟨hq,ha⟩:=hp;refine lW.args (args':=[aX aW 1 L,iV a,.a (cF kd fu wi off k n d nm mc f bc g c e)]) ?_ (.cons (mO hx hq) (.cons (.refl _) (.cons (.refl _) .nil)));clear hx hq
 have hs:=kB (G:=G) hI
 have tr:(True∧∀(e o:Nat),e<L.length→o<1→True):=⟨trivial,fun _ _ _ _=>trivial⟩
 have p0:=cY L a (m:=5) (by omega)
 have p1:=cY L (a+1) (m:=5) (by omega)
 have p2:=cY L (a+2) (m:=4) (by omega)
 obtain⟨E,hE⟩:∃E:List PV,E=[.i .i64 kd,.i .i64 fu,.i .i64 wi,.i .i64 off,.i .i64 k,.i .i64 n,.i .i64 d,.s nm,.l 3 mc f,.l 1 bc g,.l 11 c e]:=⟨_,rfl⟩
 refine fR Tryz.func28 (by kernel_rfl) rfl ?_ h
 refine cO.evG hs 2 (aPR L a kd fu wi off k n d nm mc f bc g c e) ?_;simp only[aS,aI,aZ];refine⟨⟨tr,by decide⟩,⟨?_⟩⟩;rw[←hE]
 have k3:cO Tryz.prog G (bB Tryz.prog Tryz.f28) (.a (iP (wO L a E))) (bJ 4 (cS Tryz.prog Tryz.f28)) ((fun(fu k:Int) (kf:Nat→Nat→PV)=>(bU 36 [(0,aX aW 1 L),(1,iV a),(6,.c (.ptr 0 0)),(7,.c (.ptr 1 0))] [.cells 33 [.p (.i .i64 0),.p (.i .i64 0),.p (.i .i64 0),.p (.i .i64 0),.p (.i .i64 0),.p (.i .i64 0),.p (.i .i64 0),.p (.s ⟨#[]⟩),.p (.z (.slice none 0 0)),.p (.z (.slice none 0 0)),.p (.z (.slice none 0 0))],.cells 33 [.p (.i .i64 2),.p (.i .i64 fu),.p (.i .i64 0),.p (.i .i64 0),.p (.i .i64 k),.p (.i .i64 0),.p (.i .i64 0),.p (.s ⟨#[]⟩),.p (.z (.slice none 0 0)),.p (.z (.slice none 0 0)),.p (.l 11 1 kf)]]:St)) (RB L a) (kG L a) (lM [E])) (fun _ _=>False):=by
  refine cO.evH (RJ hI) (aPP L a (RB L a) (kG L a) (lM [E])) ?_;simp only[bD,aS,aI,bK,beq_iff_eq,beq_eq_false_iff_ne,ne_eq];refine⟨by simp only[inR];omega,⟨⟨tr,by decide⟩,p2⟩,fun w0=>⟨⟨by decide,by decide⟩,by decide,xZ (fun _ _ _ _=>rfl) ?_⟩,fun w0=>⟨fun w1=>⟨⟨by decide,by decide⟩,by decide,⟨aU _,fun e o he ho=>?_⟩,xZ (fun _ _ _ _=>rfl) ?_⟩,fun w1=>⟨fun w2=>⟨⟨by decide,by decide⟩,by decide,⟨aU _,fun e o he ho=>?_⟩,xZ (fun _ _ _ _=>rfl) ?_⟩,fun w2=>⟨fun w3=>⟨⟨by decide,by decide⟩,by decide,⟨aU _,fun e o he ho=>?_⟩,xZ (fun _ _ _ _=>rfl) ?_⟩,fun w3=>?_⟩⟩⟩⟩
  ·unfold CB;rw[if_pos w0];exact jT.nil 1 _
  ·obtain rfl:e=0:=by omega
   obtain rfl:o=0:=by omega
   rfl
  ·unfold CB;rw[if_neg w0,if_pos w1]
   refine jT.l fun e o he ho=>jT.of_eq ?_
   obtain rfl:e=0:=by omega
   obtain rfl:o=0:=by omega
   rfl
  ·rfl
  ·unfold CB;rw[if_neg w0,if_neg w1,if_pos w2]
   refine jT.l fun e o he ho=>jT.of_eq ?_
   obtain rfl:o=0:=by omega
   match e,he with
   |0,_|1,_=>rfl
  ·obtain rfl:e=0:=by omega
   obtain rfl:o=0:=by omega
   rfl
  ·unfold CB;rw[if_neg w0,if_neg w1,if_neg w2]
   refine jT.l fun e o he ho=>jT.of_eq ?_
   obtain rfl:e=0:=by omega
   obtain rfl:o=0:=by omega
   rfl
  ·exfalso
   have:((0:Nat):Int)=0:=rfl
   have:((1:Nat):Int)=1:=rfl
   have:((2:Nat):Int)=2:=rfl
   have:((3:Nat):Int)=3:=rfl
   omega
 refine cO.pre (cW.trans (yO (id:=2) (ty:=33) (sz:=11) (n:=1) (lM [E]) rfl ?_ ?_ (ps:=[(0,1)]) (by kernel_rfl) (by simp)) (cW.trans (fW (fO 36 [0,1,6,7]) _) (aP (st':=(fun(fu k:Int) (kf:Nat→Nat→PV)=>(bU 36 [(0,aX aW 1 L),(1,iV a),(6,.c (.ptr 0 0)),(7,.c (.ptr 1 0))] [.cells 33 [.p (.i .i64 0),.p (.i .i64 0),.p (.i .i64 0),.p (.i .i64 0),.p (.i .i64 0),.p (.i .i64 0),.p (.i .i64 0),.p (.s ⟨#[]⟩),.p (.z (.slice none 0 0)),.p (.z (.slice none 0 0)),.p (.z (.slice none 0 0))],.cells 33 [.p (.i .i64 2),.p (.i .i64 fu),.p (.i .i64 0),.p (.i .i64 0),.p (.i .i64 k),.p (.i .i64 0),.p (.i .i64 0),.p (.s ⟨#[]⟩),.p (.z (.slice none 0 0)),.p (.z (.slice none 0 0)),.p (.l 11 1 kf)]]:St)) (RB L a) 0 (lM [E])) (by kernel_rfl)))) ?_
 ·intro e' o he ho
  obtain rfl:e'=0:=by omega
  match o,ho with
  |0,_|1,_|2,_|3,_|4,_|5,_|6,_|7,_|8,_|9,_|10,_=>rfl
 ·intro e' o he ho
  obtain rfl:e'=0:=by omega
  subst hE
  match o,ho with
  |0,_|1,_|2,_|3,_|4,_|5,_|6,_|7,_|8,_|9,_|10,_=>exact jT.refl _
 refine cO.evG hs 2 (aPQ L a (RB L a) 0 (lM [E])) ?_;simp only[bD,aS,aI,aZ,beq_iff_eq,beq_eq_false_iff_ne,ne_eq]
 have e7:RB L a=4→kG L a=1+cC L (a+1) 5 / 4:=fun h=>by unfold kG;rw[if_pos h]
 have e8:¬RB L a=4→kG L a=0:=fun h=>by unfold kG;rw[if_neg h]
 refine⟨fun f4=>⟨by simp only[inR];omega,⟨tr,by decide⟩,⟨p1.1,by decide,by simp only[inR];omega⟩,by simp only[inR];omega,⟨?_⟩⟩,fun f4=>⟨?_⟩⟩
 ·rw[e7 f4]at k3
  exact cO.pre (aP (by kernel_rfl)) k3
 ·rw[e8 f4]at k3
  exact cO.pre (aP (by kernel_rfl)) k3
end
def aO0:Mod
 |[.c (.p (.i .i64 n))]=>some (True,.a [.p (.i .i64 n),.p (.i .i64 1)])
 |_=>none
def aLC(L M:List Int):Ext:=fB [(21,NC L M),(26,aE9 M),(27,aO0)]
def aFS(M:List Int):Ext:=fB [(28,aEG M),(29,aEK)]
theorem tNb(n:Int):cJ dX (cS Tryz.prog Tryz.f27) (iR Tryz.f27 [iV n]) (cP [] (bB Tryz.prog Tryz.f27))=Tr.done X.ret (St.mk [V.a [C.p (PV.i aA n),C.p (PV.i aA 1)]] []):=by kernel_rfl
theorem tQ1(L M:List Int):cJ (aLC L M) (dH 7 (cS Tryz.prog Tryz.f8)) (iR Tryz.f8 [aX aW 1 L]) (cP (fO 109 [2,3,4,5,6,7,30]) (bB Tryz.prog Tryz.f8))=Tr.rq
 (((L.length=L.length∧∀(e o:Nat),e<L.length→o<1→aJ aW L e o=aJ aW L e o) ∧
 inR aA 100∧aF 0≤aF 40∧aF 40≤aF 1000∧L.length≤9223372036854775807) ∧
 M=iW L 100 40)
 (.rq ((M.length=M.length∧∀(e o:Nat),e<M.length→o<1→aJ aW M e o=aJ aW M e o)∧aF 0≤aF 1∧aF 1≤aF 1000)
 (.rq ((M.length=M.length∧∀(e o:Nat),e<M.length→o<1→aJ aW M e o=aJ aW M e o)∧aF 0≤aF 8∧aF 8≤aF 1000)
 (.rq (aF 0≤aF 15∧15<(↑M.length:Int))
 (.rq (0≤M.getD 15 default∧aF 0<aF 4)
 (.rq (aF 0≤aF 16∧16<(↑M.length:Int))
 (.rq (0≤M.getD 16 default∧aF 0<aF 9)
 (.rq (inR aA (1+M.getD 16 default%9))
 (.rq True
 (.rq (aF 0≤aF 0∧0<(↑M.length:Int))
 (.rq (0≤M.getD 0 default∧aF 0<aF 10)
 (.done .normal
 (bU 109 [(2,.c (.ptr 0 0)),(3,.c (.p (.l 1 M.length (aJ aW M)))),(4,.c (.ptr 1 0)),(5,.c (.ptr 2 0)),(6,.c (.p (.i .i64 (M.getD (aL 15) default%4)))),(7,.c (.ptr 3 0)),(30,.c (.p (.i .i64 (M.getD (aL 0) default%10))))] [.cells 33 (kE 0 0 0 0 0 0 0 (aO #[])),.cells 33 (cF 1 (zT M 1) (wX M 1) (wC M 1) (kS M 1) 0 0 (HO M 1) (wH M 1).length (aJ bY (wH M 1)) 0 (aJ bM []) 0 nF),.cells 33 (cF 1 (zT M 8) (wX M 8) (wC M 8) (kS M 8) 0 0 (HO M 8) (wH M 8).length (aJ bY (wH M 8)) 0 (aJ bM []) 0 nF),.cells 33 (kE 0 0 0 0 0 (1+M.getD (aL 16) default%9) 1 (aO #[]))])))))))))))):=by kernel_rfl
theorem tQ2(M:List Int)(fa wa oa ka:Int)(na:ByteArray)(ma:Nat)(ga:Nat→Nat→PV)(fb wb ob kb:Int)(nb:ByteArray)(mb:Nat)(gb:Nat→Nat→PV)(num op z:Int):cJ (aFS M) (dH 1 (bJ 7 (cS Tryz.prog Tryz.f8))) (bU 109 [(2,.c (.ptr 0 0)),(3,aX aW 1 M),(4,.c (.ptr 1 0)),(5,.c (.ptr 2 0)),(6,iV op),(7,.c (.ptr 3 0)),(30,iV z)] [.cells 33 [.p (.i .i64 0),.p (.i .i64 0),.p (.i .i64 0),.p (.i .i64 0),.p (.i .i64 0),.p (.i .i64 0),.p (.i .i64 0),.p (.s ⟨#[]⟩),.p (.z (.slice none 0 0)),.p (.z (.slice none 0 0)),.p (.z (.slice none 0 0))],.cells 33 (cF 1 fa wa oa ka 0 0 na ma ga 0 (aJ bM []) 0 nF),.cells 33 (cF 1 fb wb ob kb 0 0 nb mb gb 0 (aJ bM []) 0 nF),.cells 33 [.p (.i .i64 0),.p (.i .i64 0),.p (.i .i64 0),.p (.i .i64 0),.p (.i .i64 0),.p (.i .i64 num),.p (.i .i64 1),.p (.s ⟨#[]⟩),.p (.l 3 0 (aJ bY [])),.p (.l 1 0 (aJ bM [])),.p (.l 11 0 nF)]]) (cP (fO 109 [2,3,4,5,6,7]) (bB Tryz.prog Tryz.f8))=bT (z==0)
 (.done .ret
 (St.mk [V.a (cF 1 fa wa oa ka 0 0 na ma ga 0 (aJ bM []) 0 nF)] []))
 (bT (z==1)
 (.done .ret
 (St.mk [V.a (cF 1 fa wa oa ka 0 0 na ma ga 0 (aJ bM []) 0 nF)] []))
 (bT (z==2)
 (.rq ((M.length=M.length∧∀(e o:Nat),e<M.length→o<1→aJ aW M e o=aJ aW M e o)∧aF 0≤aF 17∧aF 17≤aF 1000)
 (.done .ret
 (St.mk [V.a (cF 2 (RB M 17) 0 0 (kG M 17) 0 0 (aO #[]) 0 (aJ bY []) (CB M 17).length (aJ bM (CB M 17)) 1 (lM [[PV.i aA 1,PV.i aA fa,PV.i aA wa,PV.i aA oa,PV.i aA ka,PV.i aA 0,PV.i aA 0,PV.s na,PV.l 3 ma ga,PV.l 1 0 (aJ bM []),PV.l 11 0 nF]]))] [])))
 (bT (z==3)
 (.rq ((M.length=M.length∧∀(e o:Nat),e<M.length→o<1→aJ aW M e o=aJ aW M e o)∧aF 0≤aF 17∧aF 17≤aF 1000)
 (.done .ret
 (St.mk [V.a (cF 2 (RB M 17) 0 0 (kG M 17) 0 0 (aO #[]) 0 (aJ bY []) (CB M 17).length (aJ bM (CB M 17)) 1 (lM [[PV.i aA 1,PV.i aA fa,PV.i aA wa,PV.i aA oa,PV.i aA ka,PV.i aA 0,PV.i aA 0,PV.s na,PV.l 3 ma ga,PV.l 1 0 (aJ bM []),PV.l 11 0 nF]]))] [])))
 (bT (z==4)
 (.rq True
 (.done .ret
 (St.mk [V.a (cF 3 op 0 0 0 0 0 (aO #[]) 0 (aJ bY []) 0 (aJ bM []) 2 (lM [[PV.i aA 1,PV.i aA fa,PV.i aA wa,PV.i aA oa,PV.i aA ka,PV.i aA 0,PV.i aA 0,PV.s na,PV.l 3 ma ga,PV.l 1 0 (aJ bM []),PV.l 11 0 nF],[PV.i aA 1,PV.i aA fb,PV.i aA wb,PV.i aA ob,PV.i aA kb,PV.i aA 0,PV.i aA 0,PV.s nb,PV.l 3 mb gb,PV.l 1 0 (aJ bM []),PV.l 11 0 nF]]))] [])))
 (bT (z==5)
 (.rq True
 (.done .ret
 (St.mk [V.a (cF 3 op 0 0 0 0 0 (aO #[]) 0 (aJ bY []) 0 (aJ bM []) 2 (lM [[PV.i aA 1,PV.i aA fa,PV.i aA wa,PV.i aA oa,PV.i aA ka,PV.i aA 0,PV.i aA 0,PV.s na,PV.l 3 ma ga,PV.l 1 0 (aJ bM []),PV.l 11 0 nF],[PV.i aA 0,PV.i aA 0,PV.i aA 0,PV.i aA 0,PV.i aA 0,PV.i aA num,PV.i aA 1,PV.s (aO #[]),PV.l 3 0 (aJ bY []),PV.l 1 0 (aJ bM []),PV.l 11 0 nF]]))] [])))
 (bT (z==6)
 (.rq ((M.length=M.length∧∀(e o:Nat),e<M.length→o<1→aJ aW M e o=aJ aW M e o)∧aF 0≤aF 17∧aF 17≤aF 1000)
 (.rq ((M.length=M.length∧∀(e o:Nat),e<M.length→o<1→aJ aW M e o=aJ aW M e o)∧aF 0≤aF 20∧aF 20≤aF 1000)
 (.rq True
 (.done .ret
 (St.mk [V.a (cF 3 op 0 0 0 0 0 (aO #[]) 0 (aJ bY []) 0 (aJ bM []) 2 (lM [[PV.i aA 2,PV.i aA (RB M 17),PV.i aA 0,PV.i aA 0,PV.i aA (kG M 17),PV.i aA 0,PV.i aA 0,PV.s (aO #[]),PV.l 3 0 (aJ bY []),PV.l 1 (CB M 17).length (aJ bM (CB M 17)),PV.l 11 1 (lM [[PV.i aA 1,PV.i aA fa,PV.i aA wa,PV.i aA oa,PV.i aA ka,PV.i aA 0,PV.i aA 0,PV.s na,PV.l 3 ma ga,PV.l 1 0 (aJ bM []),PV.l 11 0 nF]])],[PV.i aA 2,PV.i aA (RB M 20),PV.i aA 0,PV.i aA 0,PV.i aA (kG M 20),PV.i aA 0,PV.i aA 0,PV.s (aO #[]),PV.l 3 0 (aJ bY []),PV.l 1 (CB M 17).length (aJ bM (CB M 17)),PV.l 11 1 (lM [[PV.i aA 1,PV.i aA fb,PV.i aA wb,PV.i aA ob,PV.i aA kb,PV.i aA 0,PV.i aA 0,PV.s nb,PV.l 3 mb gb,PV.l 1 0 (aJ bM []),PV.l 11 0 nF]])]]))] [])))))
 (bT (z==7)
 (.rq (aF 0≤aF 23∧23<(↑M.length:Int))
 (.rq (0≤M.getD 23 default∧aF 0<aF 3)
 (.rq True
 (.rq ((M.length=M.length∧∀(e o:Nat),e<M.length→o<1→aJ aW M e o=aJ aW M e o)∧aF 0≤aF 17∧aF 17≤aF 1000)
 (.rq True
 (.done .ret
 (St.mk [V.a (cF 3 (M.getD (aL 23) default%3) 0 0 0 0 0 (aO #[]) 0 (aJ bY []) 0 (aJ bM []) 2 (lM [[PV.i aA 0,PV.i aA 0,PV.i aA 0,PV.i aA 0,PV.i aA 0,PV.i aA num,PV.i aA 1,PV.s (aO #[]),PV.l 3 0 (aJ bY []),PV.l 1 0 (aJ bM []),PV.l 11 0 nF],[PV.i aA 2,PV.i aA (RB M 17),PV.i aA 0,PV.i aA 0,PV.i aA (kG M 17),PV.i aA 0,PV.i aA 0,PV.s (aO #[]),PV.l 3 0 (aJ bY []),PV.l 1 (CB M 17).length (aJ bM (CB M 17)),PV.l 11 1 (lM [[PV.i aA 3,PV.i aA op,PV.i aA 0,PV.i aA 0,PV.i aA 0,PV.i aA 0,PV.i aA 0,PV.s (aO #[]),PV.l 3 0 (aJ bY []),PV.l 1 0 (aJ bM []),PV.l 11 2 (lM [[PV.i aA 1,PV.i aA fa,PV.i aA wa,PV.i aA oa,PV.i aA ka,PV.i aA 0,PV.i aA 0,PV.s na,PV.l 3 ma ga,PV.l 1 0 (aJ bM []),PV.l 11 0 nF],[PV.i aA 0,PV.i aA 0,PV.i aA 0,PV.i aA 0,PV.i aA 0,PV.i aA num,PV.i aA 1,PV.s (aO #[]),PV.l 3 0 (aJ bY []),PV.l 1 0 (aJ bM []),PV.l 11 0 nF]])]])]]))] [])))))))
 (bT (z==8)
 (.rq (aF 0≤aF 23∧23<(↑M.length:Int))
 (.rq (0≤M.getD 23 default∧aF 0<aF 3)
 (.rq True
 (.rq ((M.length=M.length∧∀(e o:Nat),e<M.length→o<1→aJ aW M e o=aJ aW M e o)∧aF 0≤aF 17∧aF 17≤aF 1000)
 (.done .ret
 (St.mk [V.a (cF 2 (RB M 17) 0 0 (kG M 17) 0 0 (aO #[]) 0 (aJ bY []) (CB M 17).length (aJ bM (CB M 17)) 1 (lM [[PV.i aA 3,PV.i aA (M.getD (aL 23) default%3),PV.i aA 0,PV.i aA 0,PV.i aA 0,PV.i aA 0,PV.i aA 0,PV.s (aO #[]),PV.l 3 0 (aJ bY []),PV.l 1 0 (aJ bM []),PV.l 11 2 (lM [[PV.i aA 1,PV.i aA fa,PV.i aA wa,PV.i aA oa,PV.i aA ka,PV.i aA 0,PV.i aA 0,PV.s na,PV.l 3 ma ga,PV.l 1 0 (aJ bM []),PV.l 11 0 nF],[PV.i aA 1,PV.i aA fb,PV.i aA wb,PV.i aA ob,PV.i aA kb,PV.i aA 0,PV.i aA 0,PV.s nb,PV.l 3 mb gb,PV.l 1 0 (aJ bM []),PV.l 11 0 nF]])]]))] []))))))
 (.done .normal
 (bU 109 [(2,.c (.ptr 0 0)),(3,.c (.p (.l 1 M.length (aJ aW M)))),(4,.c (.ptr 1 0)),(5,.c (.ptr 2 0)),(6,.c (.p (.i .i64 op))),(7,.c (.ptr 3 0))] [.cells 33 (kE 0 0 0 0 0 0 0 (aO #[])),.cells 33 (cF 1 fa wa oa ka 0 0 na ma ga 0 (aJ bM []) 0 nF),.cells 33 (cF 1 fb wb ob kb 0 0 nb mb gb 0 (aJ bM []) 0 nF),.cells 33 (cF 0 0 0 0 0 num 1 (aO #[]) 0 (aJ bY []) 0 (aJ bM []) 0 nF)])))))))))):=by kernel_rfl
theorem tQ3(M:List Int)(fa wa oa ka:Int)(na:ByteArray)(ma:Nat)(ga:Nat→Nat→PV)(fb wb ob kb:Int)(nb:ByteArray)(mb:Nat)(gb:Nat→Nat→PV)(num op z:Int):cJ (aFS M) (bJ 8 (cS Tryz.prog Tryz.f8)) (bU 109 [(2,.c (.ptr 0 0)),(3,aX aW 1 M),(4,.c (.ptr 1 0)),(5,.c (.ptr 2 0)),(6,iV op),(7,.c (.ptr 3 0))] [.cells 33 [.p (.i .i64 0),.p (.i .i64 0),.p (.i .i64 0),.p (.i .i64 0),.p (.i .i64 0),.p (.i .i64 0),.p (.i .i64 0),.p (.s ⟨#[]⟩),.p (.z (.slice none 0 0)),.p (.z (.slice none 0 0)),.p (.z (.slice none 0 0))],.cells 33 (cF 1 fa wa oa ka 0 0 na ma ga 0 (aJ bM []) 0 nF),.cells 33 (cF 1 fb wb ob kb 0 0 nb mb gb 0 (aJ bM []) 0 nF),.cells 33 [.p (.i .i64 0),.p (.i .i64 0),.p (.i .i64 0),.p (.i .i64 0),.p (.i .i64 0),.p (.i .i64 num),.p (.i .i64 1),.p (.s ⟨#[]⟩),.p (.l 3 0 (aJ bY [])),.p (.l 1 0 (aJ bM [])),.p (.l 11 0 nF)]]) (cP [] (bB Tryz.prog Tryz.f8))=Tr.rq (aF 0≤aF 23∧23<(↑M.length:Int))
 (.rq (0≤M.getD 23 default∧aF 0<aF 3)
 (.rq True
 (.rq True
 (.done .ret
 (St.mk [V.a (cF 3 (M.getD (aL 23) default%3) 0 0 0 0 0 (aO #[]) 0 (aJ bY []) 0 (aJ bM []) 2 (lM [[PV.i aA 1,PV.i aA fa,PV.i aA wa,PV.i aA oa,PV.i aA ka,PV.i aA 0,PV.i aA 0,PV.s na,PV.l 3 ma ga,PV.l 1 0 (aJ bM []),PV.l 11 0 nF],[PV.i aA 3,PV.i aA op,PV.i aA 0,PV.i aA 0,PV.i aA 0,PV.i aA 0,PV.i aA 0,PV.s (aO #[]),PV.l 3 0 (aJ bY []),PV.l 1 0 (aJ bM []),PV.l 11 2 (lM [[PV.i aA 1,PV.i aA fb,PV.i aA wb,PV.i aA ob,PV.i aA kb,PV.i aA 0,PV.i aA 0,PV.s na,PV.l 3 ma ga,PV.l 1 0 (aJ bM []),PV.l 11 0 nF],[PV.i aA 0,PV.i aA 0,PV.i aA 0,PV.i aA 0,PV.i aA 0,PV.i aA num,PV.i aA 1,PV.s (aO #[]),PV.l 3 0 (aJ bY []),PV.l 1 0 (aJ bM []),PV.l 11 0 nF]])]]))] []))))):=by kernel_rfl
def FA(n:Int):List PV:=[.i .i64 0,.i .i64 0,.i .i64 0,.i .i64 0,.i .i64 0,.i .i64 n,.i .i64 1,.s ⟨#[]⟩,.l 3 0 (aJ bY []),.l 1 0 (aJ bM []),.l 11 0 nF]
def aQC(n:Int):List PV:=[.i .i64 0,.i .i64 0,.i .i64 0,.i .i64 0,.i .i64 0,.i .i64 n,.i .i64 1,.s ⟨#[]⟩,.z (.slice none 0 0),.z (.slice none 0 0),.z (.slice none 0 0)]
theorem aIL(n:Int):WS (aQC n) (FA n):=.cons (.refl _) (.cons (.refl _) (.cons (.refl _) (.cons (.refl _) (.cons (.refl _) (.cons (.refl _) (.cons (.refl _) (.cons (.refl _) (.cons (jT.nil 3 _) (.cons (jT.nil 1 _) (.cons (jT.nil 11 _) .nil))))))))))
def aOG(M:List Int):List PV:=[.i .i64 2,.i .i64 (RB M 20),.i .i64 0,.i .i64 0,.i .i64 (kG M 20),.i .i64 0,.i .i64 0,.s ⟨#[]⟩,.l 3 0 (aJ bY []),.l 1 (CB M 17).length (aJ bM (CB M 17)),.l 11 1 (lM [lY M 8])]
def aM8(M:List Int):List PV:=[.i .i64 1,.i .i64 (zT M 8),.i .i64 (wX M 8),.i .i64 (wC M 8),.i .i64 (kS M 8),.i .i64 0,.i .i64 0,.s (HO M 1),.l 3 (wH M 1).length (aJ bY (wH M 1)),.l 1 0 (aJ bM []),.l 11 0 nF]
def XQ(M:List Int):Int:=M.getD 15 default%4
def qN(M:List Int):Int:=1+M.getD 16 default%9
def q3(M:List Int):Int:=M.getD 23 default%3
def qZ(M:List Int):Int:=M.getD 0 default%10
def vZ(M:List Int):List PV:=
 if qZ M=0 then lY M 1
 else if qZ M=1 then lY M 1
 else if qZ M=2 then wO M 17 (lY M 1)
 else if qZ M=3 then wO M 17 (lY M 1)
 else if qZ M=4 then nG (XQ M) (lY M 1) (lY M 8)
 else if qZ M=5 then nG (XQ M) (lY M 1) (FA (qN M))
 else if qZ M=6 then nG (XQ M) (wO M 17 (lY M 1)) (aOG M)
 else if qZ M=7 then nG (q3 M) (FA (qN M)) (wO M 17 (nG (XQ M) (lY M 1) (FA (qN M))))
 else if qZ M=8 then wO M 17 (nG (q3 M) (lY M 1) (lY M 8))
 else nG (q3 M) (lY M 1) (nG (XQ M) (aM8 M) (FA (qN M)))
def aNZ(L:List Int):Mod
 |[x]=>match BY x L with
  |some p=>some (p∧L.length≤9223372036854775807,.a (iP (vZ (iW L 100 40))))
  |none=>none
 |_=>none
theorem YF(M:List Int)(a:Int):(wH M a).length≤1000:=by
 unfold wH;split
 ·show 1≤1000;omega
 ·split
  ·show 1≤1000;omega
  ·exact bH _
theorem ZJ(M:List Int)(a:Int):(CB M a).length≤1000:=by
 unfold CB;split
 ·decide
 ·split
  ·decide
  ·split<;>decide
theorem yV(M:List Int)(a:Int)(t:Nat):BP (t+1) 1 (lY M a):=YO t (BL:=[]) nV nV (YF M a) (bH _)
theorem aIK{n:Int}(hn:inR .i64 n)(t:Nat):BP (t+1) 1 (FA n):=YO t (ML:=[]) (BL:=[]) hn (by simp only[inR];omega) (bH _) (bH _)
theorem aFA{M:List Int}{a:Int}{t:Nat}{m:Int}{E:List PV}(h:BP t m E):BP (t+1) (1+m) (wO M a E):=aQ0 (ML:=[]) h nV nV (bH _) (ZJ M a)
theorem aPY{M:List Int}(hM:∀j,0≤M.getD j default∧M.getD j default≤1000002):BP 4 10 (vZ M):=by
 have hn:inR .i64 (qN M):=by
  have:=hM 16
  simp only[inR];unfold qN;omega
 have gy:BP 2 2 (aOG M):=aQ0 (ML:=[]) (yV M 8 0) nV nV (bH _) (ZJ M 17)
 have sy:BP 1 1 (aM8 M):=YO 0 (BL:=[]) nV nV (YF M 1) (bH _)
 unfold vZ;split
 ·exact(yV M 1 3).le (by decide)
 split
 ·exact(yV M 1 3).le (by decide)
 split
 ·exact(aFA (yV M 1 2)).le (by decide)
 split
 ·exact(aFA (yV M 1 2)).le (by decide)
 split
 ·exact(BB (yV M 1 2) (yV M 8 2) _).le (by decide)
 split
 ·exact(BB (yV M 1 2) (aIK hn 2) _).le (by decide)
 split
 ·exact((BB (aFA (yV M 1 0)) gy _).up).le (by decide)
 split
 ·exact(BB (aIK hn 2) (aFA (BB (yV M 1 0) (aIK hn 0) _)) _).le (by decide)
 split
 ·exact(aFA (BB (yV M 1 1) (yV M 8 1) _)).le (by decide)
 ·exact((BB (yV M 1 1) (BB sy (aIK hn 0) _) _).up).le (by decide)
theorem nW{E E':List PV}(h:E'=E):mX (eL (.a (iP E)) (.a (iP E'))):=by rw[h];exact⟨eL.refl _⟩
section
variable {G:Nat→Option Obj}
set_option maxRecDepth 100000 in
theorem aN6:dD Tryz.prog G 27 aO0:=by
 intro args p v hm hp h;unfold aO0 at hm
 split at hm;rotate_left;· cases hm
 rename_i n;obtain⟨rfl,rfl⟩:=bA hm
 refine fR Tryz.func27 (by kernel_rfl) rfl ?_ h
 refine cO.evH aT (tNb n) ?_;simp only[aI,bK];exact⟨eL.refl _⟩
set_option maxRecDepth 100000 in
theorem aQ1{L:List Int}(hI:oM L):dD Tryz.prog G 8 (aNZ L):=by
 intro args p v hm hp h;unfold aNZ at hm
 split at hm;rotate_left;· cases hm
 split at hm;rotate_left;· cases hm
 rename_i x _ q hx;obtain⟨rfl,rfl⟩:=bA hm;clear hm;obtain⟨hq,hL⟩:=hp;refine lW.args (args':=[aX aW 1 L]) ?_ (.cons (mO hx hq) .nil);clear hx hq
 obtain⟨M,hM⟩:∃M,M=iW L 100 40:=⟨_,rfl⟩
 have hMl:M.length=40:=by rw[hM];exact oW _ _ _
 have hMr:∀j,0≤M.getD j default∧M.getD j default≤1000002:=fun j=>by rw[hM];exact tU _ _ _ _
 have hMI:=YS hMr
 have hs1:bO Tryz.prog G (aLC L M):=cD (by simp;exact⟨YA L M,aMW hMI,aN6⟩)
 have hs2:bO Tryz.prog G (aFS M):=cD (by simp;exact⟨aNC hMI,aNL⟩)
 have tr:(True∧∀(e o:Nat),e<L.length→o<1→True):=⟨trivial,fun _ _ _ _=>trivial⟩
 have ts:(True∧∀(e o:Nat),e<M.length→o<1→True):=⟨trivial,fun _ _ _ _=>trivial⟩
 have r0:=hMr 0
 have r15:=hMr 15
 have r16:=hMr 16
 have r23:=hMr 23
 refine fR Tryz.func8 (by kernel_rfl) rfl ?_ h
 refine cO.evG hs1 7 (tQ1 L M) ?_;simp only[aS,aI,aZ];refine⟨⟨⟨tr,by simp only[inR];omega,by decide,by decide,hL⟩,hM⟩,⟨ts,by decide,by decide⟩,⟨ts,by decide,by decide⟩,⟨by decide,by omega⟩,⟨r15.1,by decide⟩,⟨by decide,by omega⟩,⟨r16.1,by decide⟩,by simp only[inR];omega,trivial,⟨by decide,by omega⟩,⟨r0.1,by decide⟩,⟨?_⟩⟩;rw[←hM];clear hM
 refine cO.pre (cW.trans (ST (id:=3) (t0:=33) (vs:=iP (aQC (qN M))) (vs':=iP (FA (qN M))) (by kernel_rfl) fun _ _ _ _ h=>(aIL (qN M)).cs h) (aP (st':=(fun(fa wa oa ka:Int) (na:ByteArray) (ma:Nat) (ga:Nat→Nat→PV) (fb wb ob kb:Int) (nb:ByteArray) (mb:Nat) (gb:Nat→Nat→PV) (num op z:Int)=>bU 109 [(2,.c (.ptr 0 0)),(3,aX aW 1 M),(4,.c (.ptr 1 0)),(5,.c (.ptr 2 0)),(6,iV op),(7,.c (.ptr 3 0)),(30,iV z)] [.cells 33 [.p (.i .i64 0),.p (.i .i64 0),.p (.i .i64 0),.p (.i .i64 0),.p (.i .i64 0),.p (.i .i64 0),.p (.i .i64 0),.p (.s ⟨#[]⟩),.p (.z (.slice none 0 0)),.p (.z (.slice none 0 0)),.p (.z (.slice none 0 0))],.cells 33 (cF 1 fa wa oa ka 0 0 na ma ga 0 (aJ bM []) 0 nF),.cells 33 (cF 1 fb wb ob kb 0 0 nb mb gb 0 (aJ bM []) 0 nF),.cells 33 [.p (.i .i64 0),.p (.i .i64 0),.p (.i .i64 0),.p (.i .i64 0),.p (.i .i64 0),.p (.i .i64 num),.p (.i .i64 1),.p (.s ⟨#[]⟩),.p (.l 3 0 (aJ bY [])),.p (.l 1 0 (aJ bM [])),.p (.l 11 0 nF)]]) (zT M 1) (wX M 1) (wC M 1) (kS M 1) (HO M 1) (wH M 1).length (aJ bY (wH M 1)) (zT M 8) (wX M 8) (wC M 8) (kS M 8) (HO M 8) (wH M 8).length (aJ bY (wH M 8)) (qN M) (XQ M) (qZ M)) (by kernel_rfl))) ?_
 refine cO.evG hs2 1 (tQ2 M (zT M 1) (wX M 1) (wC M 1) (kS M 1) (HO M 1) (wH M 1).length (aJ bY (wH M 1)) (zT M 8) (wX M 8) (wC M 8) (kS M 8) (HO M 8) (wH M 8).length (aJ bY (wH M 8)) (qN M) (XQ M) (qZ M)) ?_;simp only[bD,aS,aI,aZ,bK,beq_iff_eq,beq_eq_false_iff_ne,ne_eq];refine⟨fun z0=>nW (E:=lY M 1) ?_,fun z0=>⟨fun z1=>nW (E:=lY M 1) ?_,fun z1=>⟨fun z2=>⟨⟨ts,by decide,by decide⟩,nW (E:=wO M 17 (lY M 1)) ?_⟩,fun z2=>⟨fun z3=>⟨⟨ts,by decide,by decide⟩,nW (E:=wO M 17 (lY M 1)) ?_⟩,fun z3=>⟨fun z4=>⟨trivial,nW (E:=nG (XQ M) (lY M 1) (lY M 8)) ?_⟩,fun z4=>⟨fun z5=>⟨trivial,nW (E:=nG (XQ M) (lY M 1) (FA (qN M))) ?_⟩,fun z5=>⟨fun z6=>⟨⟨ts,by decide,by decide⟩,⟨ts,by decide,by decide⟩,trivial,nW (E:=nG (XQ M) (wO M 17 (lY M 1)) (aOG M)) ?_⟩,fun z6=>⟨fun z7=>⟨⟨by decide,by omega⟩,⟨r23.1,by decide⟩,trivial,⟨ts,by decide,by decide⟩,trivial,nW (E:=nG (q3 M) (FA (qN M)) (wO M 17 (nG (XQ M) (lY M 1) (FA (qN M))))) ?_⟩,fun z7=>⟨fun z8=>⟨⟨by decide,by omega⟩,⟨r23.1,by decide⟩,trivial,⟨ts,by decide,by decide⟩,nW (E:=wO M 17 (nG (q3 M) (lY M 1) (lY M 8))) ?_⟩,fun z8=>⟨?_⟩⟩⟩⟩⟩⟩⟩⟩⟩⟩
 ·unfold vZ;rw[if_pos z0]
 ·unfold vZ;rw[if_neg z0,if_pos z1]
 ·unfold vZ;rw[if_neg z0,if_neg z1,if_pos z2]
 ·unfold vZ;rw[if_neg z0,if_neg z1,if_neg z2,if_pos z3]
 ·unfold vZ;rw[if_neg z0,if_neg z1,if_neg z2,if_neg z3,if_pos z4]
 ·unfold vZ;rw[if_neg z0,if_neg z1,if_neg z2,if_neg z3,if_neg z4,if_pos z5]
 ·unfold vZ;rw[if_neg z0,if_neg z1,if_neg z2,if_neg z3,if_neg z4,if_neg z5,if_pos z6]
 ·unfold vZ;rw[if_neg z0,if_neg z1,if_neg z2,if_neg z3,if_neg z4,if_neg z5,if_neg z6,if_pos z7]
 ·unfold vZ;rw[if_neg z0,if_neg z1,if_neg z2,if_neg z3,if_neg z4,if_neg z5,if_neg z6,if_neg z7,if_pos z8]
 refine cO.pre (aP (st':=(fun(fa wa oa ka:Int) (na:ByteArray) (ma:Nat) (ga:Nat→Nat→PV) (fb wb ob kb:Int) (nb:ByteArray) (mb:Nat) (gb:Nat→Nat→PV) (num op z:Int)=>bU 109 [(2,.c (.ptr 0 0)),(3,aX aW 1 M),(4,.c (.ptr 1 0)),(5,.c (.ptr 2 0)),(6,iV op),(7,.c (.ptr 3 0))] [.cells 33 [.p (.i .i64 0),.p (.i .i64 0),.p (.i .i64 0),.p (.i .i64 0),.p (.i .i64 0),.p (.i .i64 0),.p (.i .i64 0),.p (.s ⟨#[]⟩),.p (.z (.slice none 0 0)),.p (.z (.slice none 0 0)),.p (.z (.slice none 0 0))],.cells 33 (cF 1 fa wa oa ka 0 0 na ma ga 0 (aJ bM []) 0 nF),.cells 33 (cF 1 fb wb ob kb 0 0 nb mb gb 0 (aJ bM []) 0 nF),.cells 33 [.p (.i .i64 0),.p (.i .i64 0),.p (.i .i64 0),.p (.i .i64 0),.p (.i .i64 0),.p (.i .i64 num),.p (.i .i64 1),.p (.s ⟨#[]⟩),.p (.l 3 0 (aJ bY [])),.p (.l 1 0 (aJ bM [])),.p (.l 11 0 nF)]]) (zT M 1) (wX M 1) (wC M 1) (kS M 1) (HO M 1) (wH M 1).length (aJ bY (wH M 1)) (zT M 8) (wX M 8) (wC M 8) (kS M 8) (HO M 8) (wH M 8).length (aJ bY (wH M 8)) (qN M) (XQ M) (qZ M)) (by kernel_rfl)) ?_
 refine cO.evH hs2 (tQ3 M (zT M 1) (wX M 1) (wC M 1) (kS M 1) (HO M 1) (wH M 1).length (aJ bY (wH M 1)) (zT M 8) (wX M 8) (wC M 8) (kS M 8) (HO M 8) (wH M 8).length (aJ bY (wH M 8)) (qN M) (XQ M) (qZ M)) ?_;simp only[aS,aI,bK];refine⟨⟨by decide,by omega⟩,⟨r23.1,by decide⟩,trivial,trivial,nW (E:=nG (q3 M) (lY M 1) (nG (XQ M) (aM8 M) (FA (qN M)))) ?_⟩;unfold vZ;rw[if_neg z0,if_neg z1,if_neg z2,if_neg z3,if_neg z4,if_neg z5,if_neg z6,if_neg z7,if_neg z8]
end
end Go.AE
