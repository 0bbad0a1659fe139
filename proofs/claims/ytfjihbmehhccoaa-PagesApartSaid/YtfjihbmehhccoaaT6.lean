/- Pages: Ae45, P60, P61, P62, P63, P64, P65, P66, P67, P68, P69, P70, as far as they are used here. -/
import Derived.Test.YtfjihbmehhccoaaTD
import Derived.Test.YtfjihbmehhccoaaT1
import Derived.Test.YtfjihbmehhccoaaT2
import Derived.Test.YtfjihbmehhccoaaT5
namespace Go.AE
set_option linter.unusedVariables false
set_option linter.unusedSimpArgs false
open Go.RowKit
section
variable {P:Program} {G:Nat→Option Obj} {β:Bt} {R:Nat→Prop} {w:World} {st:St}
theorem weak_foc {id e0:Nat} {ty:TypeId} {sz n:Nat} {vs:List C} {f:Nat→Nat→C} (hid:nth .gone st.h id=.row ty sz n f) (he:e0<n) (hl:vs.length=sz)
  (hf:∀ k,k<sz→f e0 k=nth .top vs k) :
  WeakS G st ⟨st.t,upd (.foc ty sz n e0 vs f) st.h id⟩:=by
 intro β R a w hs
 have hh:=hs.hs
 have hlid:=nth_gone hid (by simp)
 have hlv:∀ i,(nth .gone (upd (.foc ty sz n e0 vs f) st.h id) i).live=(nth .gone st.h i).live:=fun i => by
  by_cases e:id=i
  · subst e;rw [nth_upd_eq _ _ _ hlid,hid];rfl
  · rw [nth_upd_ne _ _ _ e]
 refine ⟨β,R,⟨hs.df,hs.tm,?_⟩,Fr.refl _ _ _,fun _ hb => hb⟩
 refine hs_told hh (by rw [upd_eq,List.length_set];exact Nat.le_refl _) (fun i x hi => by rw [upd_eq,List.length_set];exact hh.dom i x hi) (fun _ h => h) hh.rlt ?_ ?_ hh.lt ?_ ?_
 · intro i j b o o' hi hj li lj
   rw [hlv] at li lj
   exact hh.inj i j b o o' hi hj li lj
 · intro i b o hi li
   rw [hlv] at li
   exact hh.sep i b o hi li
 · intro i b o hi
   by_cases e:id=i
   · subst e
     rw [nth_upd_eq _ _ _ hlid]
     have hob:=hh.obj id b o hi
     rw [hid] at hob
     obtain ⟨cs,g1,g2,g3,g4⟩:=hob
     refine ⟨cs,g1,g2,g3,he,hl,fun e k he' hk => ?_⟩
     obtain ⟨u,u1,u2⟩:=g4 e k he' hk
     refine ⟨u,u1,fun h0 => ?_,fun _ => u2⟩
     subst h0
     rw [← hf k hk]
     exact u2.cr
   · rw [nth_upd_ne _ _ _ e]
     exact hh.obj i b o hi
 · intro b ad hq
   obtain ⟨q1,q2,q3⟩:=hh.ql b ad hq
   exact ⟨q1,q2,fun i o hi => by rw [hlv];exact q3 i o hi⟩
theorem weak_unfoc {id e0:Nat} {ty:TypeId} {sz n:Nat} {vs:List C} {f f':Nat→Nat→C} (hid:nth .gone st.h id=.foc ty sz n e0 vs f)
  (hf:∀ k,k<sz→f' e0 k=nth .top vs k∧(nth .top vs k).isOwn=false) (hg:∀ e k,e<n→k<sz→e≠e0→f' e k=f e k) :
  WeakS G st ⟨st.t,upd (.row ty sz n f') st.h id⟩:=by
 intro β R a w hs
 have hh:=hs.hs
 have hlid:=nth_gone hid (by simp)
 have hlv:∀ i,(nth .gone (upd (.row ty sz n f') st.h id) i).live=(nth .gone st.h i).live:=fun i => by
  by_cases e:id=i
  · subst e;rw [nth_upd_eq _ _ _ hlid,hid];rfl
  · rw [nth_upd_ne _ _ _ e]
 refine ⟨β,R,⟨hs.df,hs.tm,?_⟩,Fr.refl _ _ _,fun _ hb => hb⟩
 refine hs_told hh (by rw [upd_eq,List.length_set];exact Nat.le_refl _) (fun i x hi => by rw [upd_eq,List.length_set];exact hh.dom i x hi) (fun _ h => h) hh.rlt ?_ ?_ hh.lt ?_ ?_
 · intro i j b o o' hi hj li lj
   rw [hlv] at li lj
   exact hh.inj i j b o o' hi hj li lj
 · intro i b o hi li
   rw [hlv] at li
   exact hh.sep i b o hi li
 · intro i b o hi
   by_cases e:id=i
   · subst e
     rw [nth_upd_eq _ _ _ hlid]
     have hob:=hh.obj id b o hi
     rw [hid] at hob
     obtain ⟨cs,g1,g2,g3,g4,g5,g6⟩:=hob
     refine ⟨cs,g1,g2,g3,fun e k he' hk => ?_⟩
     obtain ⟨u,u1,u2,u3⟩:=g6 e k he' hk
     refine ⟨u,u1,?_⟩
     by_cases h0:e=e0
     · subst h0
       obtain ⟨q1,q2⟩:=hf k hk
       rw [q1]
       exact CRo.of q2 (u2 rfl)
     · rw [hg e k he' hk h0]
       exact u3 h0
   · rw [nth_upd_ne _ _ _ e]
     exact hh.obj i b o hi
 · intro b ad hq
   obtain ⟨q1,q2,q3⟩:=hh.ql b ad hq
   exact ⟨q1,q2,fun i o hi => by rw [hlv];exact q3 i o hi⟩
end
def idsL:List AO→Nat→List Nat
 | [],_ => []
 | _::r,i => i::idsL r (i+1)
def keepS (keep:List Bool) (st:St):St:=match noDup (idsL st.h 0) with
 | true => proj (idsL st.h 0) keep st
 | false => st
def endK (ps:List Nat) (keep:List Bool) (rs:List AR) (e:X) (st:St):Tr:=match e with
 | .ret => match rawVs st rs with
   | some vs => .done .ret (endSt ps vs st)
   | none => .fail
 | e => .done e (keepS keep st)
section
variable {P:Program} {G:Nat→Option Obj}
theorem weak_keep (keep:List Bool) (st:St):WeakS G st (keepS keep st):=by
 unfold keepS
 split
 · rename_i h;exact weak_proj _ keep h st
 · exact WeakS.refl st
theorem endK_conv {ps:List Nat} {keep:List Bool} {rs:List AR} {Z0:St→Prop} {e:X} {st:St} {K:X→St→Prop} (h:(endK ps keep rs e st).holds P G (KFZ Z0 K)):∃ st2,WeakS G st st2∧KFZ (Zm ps rs Z0) K e st2:=by
 cases e with
 | ret =>
   refine ⟨st,WeakS.refl st,?_⟩
   unfold endK at h
   dsimp only at h
   split at h
   · rename_i vs hvs;exact ⟨vs,hvs,h⟩
   · exact h.elim
 | normal => exact ⟨_,weak_keep keep st,h⟩
 | exit id => exact ⟨_,weak_keep keep st,h⟩
theorem exTs_soundK {ext:Ext} (hext:SoundExt P G ext) {ps:List Nat} {keep:List Bool} {rs:List AR} {Z0:St→Prop}:∀ {l:List ACode} {st:St} {K:X→St→Prop},(exTs ext l st (endK ps keep rs)).holds P G (KFZ Z0 K)→ExZ P G (Zm ps rs Z0) l st K
 | [],st,K,h => endK_conv h
 | c::r,st,K,h => by
   have h1:=ExA.ev hext h
   refine ExFZ.post ?_
   refine ExA.post (ExA.mono h1 fun e st' q => ?_)
   cases e with
   | normal => exact ⟨st',WeakS.refl st',st',WeakS.refl st',exTs_soundK hext q⟩
   | ret =>
     obtain ⟨st2,q1,q2⟩:=endK_conv q
     exact ⟨st2,q1,q2⟩
   | exit id =>
     obtain ⟨st2,q1,q2⟩:=endK_conv q
     exact ⟨st2,q1,st2,WeakS.refl st2,q2⟩
theorem ExZ.evK {ext:Ext} (hext:SoundExt P G ext) {ps:List Nat} {keep:List Bool} {rs:List AR} {Z0:St→Prop} {l:List ACode} {st:St} {Q:X→St→Prop} {tree:Tr} (ht:exTs ext l st (endK ps keep rs)=tree) (h:tree.holds P G (KFZ Z0 Q)):ExZ P G (Zm ps rs Z0) l st Q:=by
 subst ht
 exact exTs_soundK hext h
end
end Go.AE
namespace Go.AE
set_option linter.unusedVariables false
set_option linter.unusedSimpArgs false
open Go.Proofs Go.Proofs.Ytfjihbmehhccoaa Go.RowKit
noncomputable def mCloneN:ModH
 | [x],h => match lbOf x with
   | some (p,L) => some (p∧0<L.length∧L.length≤1000000,.c (.sl (lenL h) 2 0 L.length),outH [] [] [] h [.row 56 2 L.length (rowC enc2 L)])
   | none => none
 | _,_ => none
noncomputable def mSepN:ModH
 | [x],h => match pgOf x with
   | some (p,⟨kd,ru,ve,L,st,se,to⟩) => some (p∧0<L.length∧L.length≤1000000,.a [.p (.i .i64 kd),.p (.s ru),.p (.i .i64 ve),.sl (lenL h) 2 0 L.length,.p (.i .i64 st),.p (.i .i64 se),.p (.s to)],outH [] [] [] h [.row 56 2 L.length (rowC enc2 L)])
   | none => none
 | _,_ => none
noncomputable def extCloN:Ext:=extH [(78,mCloneN)]
theorem tCloneN (h:List AO) (L:List (ByteArray × ByteArray)):exTs ext0 (pcs Try.prog Try.f78) (stIn Try.f78 [] [] [] [listV enc2 2 L] h) (endM [] [] (resOf Try.prog Try.f78))=bT (decide (0<L.length))
 (Tr.rq (0=0)
 (Tr.rq ((0+L.length) * 32≤140737488355328∧0+L.length≤140737488355328∧∀ (e o:Nat),e<L.length→o<2→oneC (C.p (rowP enc2 L e o))=true)
 (Tr.done X.ret (St.mk [V.c (C.sl 0 2 0 (0+L.length))] [AO.row 56 2 (0+L.length) fun e o => renC [1] (appF 0 (fun e o => nth C.top [] (e * 2+o)) (fun e o => C.p (rowP enc2 L e o)) e o)]))))
 ((Tr.done X.ret (St.mk [V.c (C.p (PV.z (Value.slice none 0 0)))] [])).alt
 (Tr.rq (0=0)
 (Tr.rq ((0+L.length) * 32≤140737488355328∧0+L.length≤140737488355328∧∀ (e o:Nat),e<L.length→o<2→oneC (C.p (rowP enc2 L e o))=true)
 (Tr.done X.ret
 (St.mk [V.c (C.sl 0 2 0 (0+L.length))] [AO.row 56 2 (0+L.length) fun e o => renC [1] (appF 0 (fun e o => nth C.top [] (e * 2+o)) (fun e o => C.p (rowP enc2 L e o)) e o)]))))):=by kernel_rfl
theorem tSepN (h:List AO) (kd ve st se:Int) (ru to:ByteArray) (L:List (ByteArray × ByteArray)):exTs extCloN (pcs Try.prog Try.f49) (stIn Try.f49 [] [] [] [pgW kd ru ve L st se to] h) (endM [] [] (resOf Try.prog Try.f49))=Tr.rq (IsL enc2 2 (decL dec2 L.length (rowP enc2 L)) L.length (rowP enc2 L)∧0<(decL dec2 L.length (rowP enc2 L)).length∧(decL dec2 L.length (rowP enc2 L)).length≤1000000)
 (.done .ret
 (St.mk [V.a [C.p (PV.i IntKind.i64 kd),C.p (PV.s ru),C.p (PV.i IntKind.i64 ve),C.sl 0 2 0 (decL dec2 L.length (rowP enc2 L)).length,C.p (PV.i IntKind.i64 st),C.p (PV.i IntKind.i64 se),C.p (PV.s to)]] [AO.row 56 2 (decL dec2 L.length (rowP enc2 L)).length fun e o => renC [2] (C.p (rowP enc2 (decL dec2 L.length (rowP enc2 L)) e o))])):=by kernel_rfl
section
variable {P:Program} {G:Nat→Option Obj}
theorem fn_mem0 {f:FuncId} {fn:Func} (hf:P.funcs[f]? = some fn) (hok:okF P fn=true) {args vs:List V} {v:V} {h hE:List AO} (hv:oneW (outVs [] [] h.length vs)=v)
  (H:ExZ P G (Zm [] (resOf P fn) fun s => WeakS G s ⟨[] ++ vs,hE⟩) (pcs P fn) (stIn fn [] [] [] args h) fun e s => e=.normal∧Zm [] (resOf P fn) (fun s => WeakS G s ⟨[] ++ vs,hE⟩) s) :
  FnS P G f args h fun x h' => x=v∧h'=outH [] [] [] h hE:=by
 refine fun β R w us ha hh => (fn_mem (ρ:=[]) (ids:=[]) (ps:=[]) (pns:=[]) (js:=[]) (sl:=[]) (vs:=vs) (hE:=fun bs => hE) hf hok rfl rfl (by simp) (by simp) rfl rfl rfl (fun i pn h => by simp at h) (fun bs hb i pn j b h1 h2 h3 => by simp at h1) (fun bs hb => ?_) β R w us ha hh).mono ?_
 · obtain rfl:bs=[]:=by simpa using hb
   exact H
 · rintro e w' ⟨u,β',R',x,h',rfl,⟨bs,hb,hx,hh'⟩,hr⟩
   exact ⟨u,β',R',x,h',rfl,⟨hx.trans hv,hh'⟩,hr⟩
end
section
variable {G:Nat→Option Obj}
set_option maxRecDepth 100000 in
theorem okCloneN:ModHOK Try.prog G 78 mCloneN:=by
 intro args h p v h' hm hp
 unfold mCloneN at hm
 split at hm;rotate_left;· cases hm
 split at hm;rotate_left;· cases hm
 rename_i x _ _ q L hx
 obtain ⟨rfl,rfl,rfl⟩:=some_three hm
 obtain ⟨hq,h0,hL⟩:=hp
 refine FnS.args (args':=[listV enc2 2 L]) (fn_mem0 (vs:=[.c (.sl 0 2 0 L.length)]) (hE:=[.row 56 2 L.length (rowC enc2 L)]) Try.func78 (by kernel_rfl) (by rw [lenL_eq];rfl) ?_) (.cons (lbOf_le hx hq) .nil)
 · refine ExZ.evH ext0_sound (tCloneN h L) ?_
   simp only [holds_alt,holds_bT,holds_rq,holds_leaf,kz_ret,Nat.zero_add]
   have one:∀ (e o:Nat),oneC (C.p (rowP enc2 L e o))=true:=fun e o => by
    unfold rowP enc2;split <;> rfl
   have big:L.length * 32≤140737488355328∧L.length≤140737488355328∧∀ (e o:Nat),e<L.length→o<2→oneC (C.p (rowP enc2 L e o))=true:=⟨by omega,by omega,fun e o _ _ => one e o⟩
   have key:WeakS G (St.mk [V.c (C.sl 0 2 0 L.length)] [AO.row 56 2 L.length fun e o => renC [1] (appF 0 (fun e o => nth C.top [] (e * 2+o)) (fun e o => C.p (rowP enc2 L e o)) e o)]) ⟨[] ++ [.c (.sl 0 2 0 L.length)],[.row 56 2 L.length (rowC enc2 L)]⟩:=weak_of_eq (by kernel_rfl)
   exact ⟨fun _ => ⟨trivial,big,⟨key⟩⟩,fun h => absurd (of_decide_eq_false h) (by omega)⟩
theorem extCloN_sound:SoundExt Try.prog G extCloN:=extH_sound (by simp;exact okCloneN)
set_option maxRecDepth 100000 in
theorem okSepN:ModHOK Try.prog G 49 mSepN:=by
 intro args h p v h' hm hp
 unfold mSepN at hm
 split at hm;rotate_left;· cases hm
 split at hm;rotate_left;· cases hm
 rename_i x _ _ q kd ru ve L st se to hx
 obtain ⟨rfl,rfl,rfl⟩:=some_three hm
 obtain ⟨hq,h0,hL⟩:=hp
 refine FnS.args (args':=[pgV ⟨kd,ru,ve,L,st,se,to⟩]) (fn_mem0 (vs:=[.a [.p (.i .i64 kd),.p (.s ru),.p (.i .i64 ve),.sl 0 2 0 L.length,.p (.i .i64 st),.p (.i .i64 se),.p (.s to)]]) (hE:=[.row 56 2 L.length (rowC enc2 L)]) Try.func49 (by kernel_rfl) (by rw [lenL_eq];rfl) ?_) (.cons (pgOf_le hx hq) .nil)
 · refine ExZ.evH extCloN_sound (tSepN h kd ve st se ru to L) ?_
   simp only [holds_alt,holds_bT,holds_rq,holds_leaf,kz_ret,Nat.zero_add,dec2_row]
   refine ⟨⟨isL_row _ _ _,h0,hL⟩,⟨weak_of_eq (by kernel_rfl)⟩⟩
end
end Go.AE
namespace Go.AE
set_option linter.unusedVariables false
set_option linter.unusedSimpArgs false
open Go.Proofs Go.Proofs.Ytfjihbmehhccoaa Go.RowKit
def lbW:List (ByteArray × ByteArray)→C
 | [] => .p (listP enc2 2 [])
 | x::L => .own 56 2 (L.length+1) (rowP enc2 (x::L))
def rowW (M:List Pg) (e o:Nat):C:=if o=3 then lbW (M.getD e default).L else rowC encPg M e o
def extSeE:Ext:=extH [(49,liftM mSep)]
noncomputable def extSeN:Ext:=extH [(49,mSepN)]
theorem tAw2e (D:Ld) (b k i:Nat) (out:List Pg):exTs extSeE (lpB (pcs Try.prog Try.f26) 3) (cst 28 [(0,.c (.ptr 0 0)),(3,.c (.sl 1 7 0 k)),(15,.c (.sl 2 7 0 D.M.length)),(16,iV (D.M.length:Nat)),(17,iV (i:Nat))] [.pin 3 b,.row 31 7 k (rowW out),.row 31 7 D.M.length (rowC encPg D.M),.cells 86 [.sl 2 7 0 D.M.length,.mp 4,.mp 5],.mapb (okK Try.prog 81) D.gp,.mapl (okK Try.prog 79) 3 1 D.gs none]) (endM [0] (msk 28 [0,3,15,16,17]) (resOf Try.prog Try.f26))=bT (decide ((↑i:Int)<(↑D.M.length:Int)))
 (.rq (0≤(↑i:Int)∧(↑i:Int)<(↑D.M.length:Int))
 (.rq ((↑i:Int).toNat+0<D.M.length)
 (.rq
 (IsL enc2 2 (decL dec2 (D.M.getD ((↑i:Int).toNat+0) default).L.length (rowP enc2 (D.M.getD ((↑i:Int).toNat+0) default).L)) (D.M.getD ((↑i:Int).toNat+0) default).L.length
 (rowP enc2 (D.M.getD ((↑i:Int).toNat+0) default).L) ∧
 (decL dec2 (D.M.getD ((↑i:Int).toNat+0) default).L.length (rowP enc2 (D.M.getD ((↑i:Int).toNat+0) default).L)).length≤1000000)
 (.rq (k=k)
 (.rq (1≤1)
 (.rq
 ((k+1) * 88≤140737488355328 ∧
 k+1≤140737488355328 ∧
 ∀ (e o:Nat),
 e<1 →
 o<7 →
 oneC
 (bslF
 [C.p (PV.i IntKind.i64 (D.M.getD ((↑i:Int).toNat+0) default).kd),C.p (PV.s (D.M.getD ((↑i:Int).toNat+0) default).ru),
 C.p (PV.i IntKind.i64 (D.M.getD ((↑i:Int).toNat+0) default).ve),
 C.p
 (PV.l 2 (decL dec2 (D.M.getD ((↑i:Int).toNat+0) default).L.length (rowP enc2 (D.M.getD ((↑i:Int).toNat+0) default).L)).length
 (rowP enc2 (decL dec2 (D.M.getD ((↑i:Int).toNat+0) default).L.length (rowP enc2 (D.M.getD ((↑i:Int).toNat+0) default).L)))),
 C.p (PV.i IntKind.i64 (D.M.getD ((↑i:Int).toNat+0) default).st),C.p (PV.i IntKind.i64 (D.M.getD ((↑i:Int).toNat+0) default).se),
 C.p (PV.s (D.M.getD ((↑i:Int).toNat+0) default).to)]
 7 1 (e+0) o) =
 true)
 (.rq (inR IntKind.i64 ((↑i:Int)+1))
 (.done .normal
 (cst 28 [(0,.c (.ptr 0 0)),(3,.c (.sl 1 7 0 (k+1))),(15,.c (.sl 2 7 0 D.M.length)),(16,.c (.p (.i .i64 (↑D.M.length:Int)))),(17,.c (.p (.i .i64 ((↑i:Int)+1))))] [.pin 3 b,.row 31 7 (k+1) fun e o => renC [0,8,2,3,4,5] (appF k (rowW out) (fun e o => nth C.top [C.p (PV.i IntKind.i64 (D.M.getD ((↑i:Int).toNat+0) default).kd),C.p (PV.s (D.M.getD ((↑i:Int).toNat+0) default).ru),C.p (PV.i IntKind.i64 (D.M.getD ((↑i:Int).toNat+0) default).ve),C.p (PV.l 2 (decL dec2 (D.M.getD ((↑i:Int).toNat+0) default).L.length (rowP enc2 (D.M.getD ((↑i:Int).toNat+0) default).L)).length (rowP enc2 (decL dec2 (D.M.getD ((↑i:Int).toNat+0) default).L.length (rowP enc2 (D.M.getD ((↑i:Int).toNat+0) default).L)))),C.p (PV.i IntKind.i64 (D.M.getD ((↑i:Int).toNat+0) default).st),C.p (PV.i IntKind.i64 (D.M.getD ((↑i:Int).toNat+0) default).se),C.p (PV.s (D.M.getD ((↑i:Int).toNat+0) default).to)] ((e+0) * 7+o)) e o),.row 31 7 D.M.length fun e o => renC [0,8,2,3,4,5] (rowC encPg D.M e o),.cells 86 [.sl 2 7 0 D.M.length,.mp 4,.mp 5],.mapb (okK Try.prog 81) D.gp,.mapl (okK Try.prog 79) 3 1 D.gs none])))))))))
 (.done (.exit 0)
 (cst 28 [(0,.c (.ptr 0 0)),(3,.c (.sl 1 7 0 k)),(15,.c (.sl 2 7 0 D.M.length)),(16,.c (.p (.i .i64 (↑D.M.length:Int)))),(17,.c (.p (.i .i64 (↑i:Int))))] [.pin 3 b,.row 31 7 k fun e o => renC [0,1,2,3,4,5] (rowW out e o),.row 31 7 D.M.length fun e o => renC [0,1,2,3,4,5] (rowC encPg D.M e o),.cells 86 [.sl 2 7 0 D.M.length,.mp 4,.mp 5],.mapb (okK Try.prog 81) D.gp,.mapl (okK Try.prog 79) 3 1 D.gs none])):=by kernel_rfl
theorem tAw2n (D:Ld) (b k i:Nat) (out:List Pg):exTs extSeN (lpB (pcs Try.prog Try.f26) 3) (cst 28 [(0,.c (.ptr 0 0)),(3,.c (.sl 1 7 0 k)),(15,.c (.sl 2 7 0 D.M.length)),(16,iV (D.M.length:Nat)),(17,iV (i:Nat))] [.pin 3 b,.row 31 7 k (rowW out),.row 31 7 D.M.length (rowC encPg D.M),.cells 86 [.sl 2 7 0 D.M.length,.mp 4,.mp 5],.mapb (okK Try.prog 81) D.gp,.mapl (okK Try.prog 79) 3 1 D.gs none]) (endK [0] (msk 28 [0,3,15,16,17]) (resOf Try.prog Try.f26))=bT (decide ((↑i:Int)<(↑D.M.length:Int)))
 (.rq (0≤(↑i:Int)∧(↑i:Int)<(↑D.M.length:Int))
 (.rq ((↑i:Int).toNat+0<D.M.length)
 (.rq
 (IsL enc2 2 (decL dec2 (D.M.getD ((↑i:Int).toNat+0) default).L.length (rowP enc2 (D.M.getD ((↑i:Int).toNat+0) default).L)) (D.M.getD ((↑i:Int).toNat+0) default).L.length
 (rowP enc2 (D.M.getD ((↑i:Int).toNat+0) default).L) ∧
 0<(decL dec2 (D.M.getD ((↑i:Int).toNat+0) default).L.length (rowP enc2 (D.M.getD ((↑i:Int).toNat+0) default).L)).length ∧
 (decL dec2 (D.M.getD ((↑i:Int).toNat+0) default).L.length (rowP enc2 (D.M.getD ((↑i:Int).toNat+0) default).L)).length≤1000000)
 (.rq (k=k)
 (.rq (1≤1)
 (.rq
 ((k+1) * 88≤140737488355328 ∧
 k+1≤140737488355328 ∧
 ∀ (e o:Nat),
 e<1 →
 o<7 →
 oneC
 (bslF
 [C.p (PV.i IntKind.i64 (D.M.getD ((↑i:Int).toNat+0) default).kd),C.p (PV.s (D.M.getD ((↑i:Int).toNat+0) default).ru),
 C.p (PV.i IntKind.i64 (D.M.getD ((↑i:Int).toNat+0) default).ve),
 C.sl 7 2 0 (decL dec2 (D.M.getD ((↑i:Int).toNat+0) default).L.length (rowP enc2 (D.M.getD ((↑i:Int).toNat+0) default).L)).length,
 C.p (PV.i IntKind.i64 (D.M.getD ((↑i:Int).toNat+0) default).st),C.p (PV.i IntKind.i64 (D.M.getD ((↑i:Int).toNat+0) default).se),
 C.p (PV.s (D.M.getD ((↑i:Int).toNat+0) default).to)]
 7 1 (e+0) o) =
 true)
 (.rq (inR IntKind.i64 ((↑i:Int)+1))
 (.done .normal
 (cst 28 [(0,.c (.ptr 0 0)),(3,.c (.sl 9 7 0 (k+1))),(15,.c (.sl 2 7 0 D.M.length)),(16,.c (.p (.i .i64 (↑D.M.length:Int)))),(17,.c (.p (.i .i64 ((↑i:Int)+1))))] [.pin 3 b,.gone,.row 31 7 D.M.length fun e o => renC [0,1,2,3,4,5,6,7,8,9] (rowC encPg D.M e o),.cells 86 [.sl 2 7 0 D.M.length,.mp 4,.mp 5],.mapb (okK Try.prog 81) D.gp,.mapl (okK Try.prog 79) 3 1 D.gs none,.cells 31 [.p (.i .i64 (D.M.getD ((↑i:Int).toNat+0) default).kd),.p (.s (D.M.getD ((↑i:Int).toNat+0) default).ru),.p (.i .i64 (D.M.getD ((↑i:Int).toNat+0) default).ve),.p (.l 2 (D.M.getD ((↑i:Int).toNat+0) default).L.length (rowP enc2 (D.M.getD ((↑i:Int).toNat+0) default).L)),.p (.i .i64 (D.M.getD ((↑i:Int).toNat+0) default).st),.p (.i .i64 (D.M.getD ((↑i:Int).toNat+0) default).se),.p (.s (D.M.getD ((↑i:Int).toNat+0) default).to)],.row 56 2 (decL dec2 (D.M.getD ((↑i:Int).toNat+0) default).L.length (rowP enc2 (D.M.getD ((↑i:Int).toNat+0) default).L)).length fun e o => renC [0,1,2,3,4,5,6,7,8,9] (C.p (rowP enc2 (decL dec2 (D.M.getD ((↑i:Int).toNat+0) default).L.length (rowP enc2 (D.M.getD ((↑i:Int).toNat+0) default).L)) e o)),.row 31 7 1 fun e o => renC [0,1,2,3,4,5,6,7,8,9] (nth C.top [C.p (PV.i IntKind.i64 (D.M.getD ((↑i:Int).toNat+0) default).kd),C.p (PV.s (D.M.getD ((↑i:Int).toNat+0) default).ru),C.p (PV.i IntKind.i64 (D.M.getD ((↑i:Int).toNat+0) default).ve),C.sl 7 2 0 (decL dec2 (D.M.getD ((↑i:Int).toNat+0) default).L.length (rowP enc2 (D.M.getD ((↑i:Int).toNat+0) default).L)).length,C.p (PV.i IntKind.i64 (D.M.getD ((↑i:Int).toNat+0) default).st),C.p (PV.i IntKind.i64 (D.M.getD ((↑i:Int).toNat+0) default).se),C.p (PV.s (D.M.getD ((↑i:Int).toNat+0) default).to)] (e * 7+o)),.row 31 7 (k+1) fun e o => renC [0,1,2,3,4,5,6,7,8,9] (appF k (rowW out) (fun e o => nth C.top [C.p (PV.i IntKind.i64 (D.M.getD ((↑i:Int).toNat+0) default).kd),C.p (PV.s (D.M.getD ((↑i:Int).toNat+0) default).ru),C.p (PV.i IntKind.i64 (D.M.getD ((↑i:Int).toNat+0) default).ve),C.sl 7 2 0 (decL dec2 (D.M.getD ((↑i:Int).toNat+0) default).L.length (rowP enc2 (D.M.getD ((↑i:Int).toNat+0) default).L)).length,C.p (PV.i IntKind.i64 (D.M.getD ((↑i:Int).toNat+0) default).st),C.p (PV.i IntKind.i64 (D.M.getD ((↑i:Int).toNat+0) default).se),C.p (PV.s (D.M.getD ((↑i:Int).toNat+0) default).to)] ((e+0) * 7+o)) e o)])))))))))
 (.done (.exit 0)
 (cst 28 [(0,.c (.ptr 0 0)),(3,.c (.sl 1 7 0 k)),(15,.c (.sl 2 7 0 D.M.length)),(16,.c (.p (.i .i64 (↑D.M.length:Int)))),(17,.c (.p (.i .i64 (↑i:Int))))] [.pin 3 b,.row 31 7 k fun e o => renC [0,1,2,3,4,5] (rowW out e o),.row 31 7 D.M.length fun e o => renC [0,1,2,3,4,5] (rowC encPg D.M e o),.cells 86 [.sl 2 7 0 D.M.length,.mp 4,.mp 5],.mapb (okK Try.prog 81) D.gp,.mapl (okK Try.prog 79) 3 1 D.gs none])):=by kernel_rfl
theorem tAw3 (D:Ld) (b:Nat) (out:List Pg):exTs ext0 (dropL 4 (pcs Try.prog Try.f26)) (cst 28 [(0,.c (.ptr 0 0)),(3,.c (.sl 5 7 0 D.M.length))] (ldE D b ++ [.row 31 7 D.M.length (rowW out)])) (endM [0] [] (resOf Try.prog Try.f26))=Tr.done X.ret
 (cst 2 [(0,.c (.ptr 0 0)),(1,.c (.sl 1 7 0 D.M.length))] [.pin 2 b,.row 31 7 D.M.length fun e o => renC [0,5,1,2,3,4] (rowW out e o),.cells 86 [.sl 3 7 0 D.M.length,.mp 4,.mp 5],.row 31 7 D.M.length fun e o => renC [0,5,1,2,3,4] (rowC encPg D.M e o),.mapb (okK Try.prog 81) D.gp,.mapl (okK Try.prog 79) 3 1 D.gs none]):=by kernel_rfl
end Go.AE
namespace Go.AE
set_option linter.unusedVariables false
set_option linter.unusedSimpArgs false
open Go.Proofs Go.Proofs.Ytfjihbmehhccoaa Gp Go.RowKit
theorem outC_rowW (js ids:List Nat) (L:Nat) (M:List Pg) (e o:Nat):outC js ids L (rowW M e o)=rowW M e o:=by
 unfold rowW
 split
 · cases (M.getD e default).L <;> rfl
 · rfl
theorem out_rowW (ρ:List Nat) (j:Nat) (D:Ld) (h:List AO) (ty:TypeId) (n:Nat) (M:List Pg):outH ρ [j] [1] h (ldE D 0 ++ [.row ty 7 n (rowW M)])=snoc (.row ty 7 n (rowW M)) (outH ρ [j] [1] h (ldE D 0)):=by
 have e:oldF ρ [j] [1] (lenL h) (ldE D 0 ++ [.row ty 7 n (rowW M)])=oldF ρ [j] [1] (lenL h) (ldE D 0):=by
  funext i x
  unfold oldF lkup
  cases Nat.beq j i <;> rfl
 have e2:mapI (newF [1] [j] (lenL h)) 0 (ldE D 0 ++ [.row ty 7 n (rowW M)])=mapI (newF [1] [j] (lenL h)) 0 (ldE D 0) ++ [.row ty 7 n fun e o => outC [1] [j] (lenL h) (rowW M e o)]:=rfl
 unfold outH
 rw [e,e2,snoc_eq,appO2_eq,appO2_eq,List.append_assoc]
 simp only [outC_rowW]
noncomputable def mAllW (D:Ld) (M:List Pg):ModH
 | [.c (.ptr j 0)],h => match isLdG D j h with
   | some (q,r,a,b) => some (q∧OkM M∧D=repD M,.c (.sl (lenL h+5) 7 0 M.length),snoc (.row 31 7 M.length (rowW M)) (outH [j,r,a,b] [j] [1] h (ldE D 0)))
   | none => none
 | _,_ => none
theorem ren_lbW (ρ:List Nat) (L:List (ByteArray × ByteArray)):renC ρ (lbW L)=lbW L:=by cases L <;> rfl
theorem ren_rowW (ρ:List Nat) (M:List Pg) (e o:Nat):renC ρ (rowW M e o)=rowW M e o:=by
 unfold rowW
 split
 · exact ren_lbW _ _
 · rfl
theorem rowW_lt {M:List Pg} {p:Pg} {e o:Nat} (h:e<M.length):rowW (M ++ [p]) e o=rowW M e o:=by
 unfold rowW rowC rowP
 simp [List.getElem?_append_left h]
theorem rowW_new (M:List Pg) (p:Pg) (o:Nat):rowW (M ++ [p]) M.length o=if o=3 then lbW p.L else .p (encPg p o):=by
 unfold rowW rowC rowP
 simp
def pgS (p:Pg) (m:Nat):List C:=[.p (.i .i64 p.kd),.p (.s p.ru),.p (.i .i64 p.ve),.sl m 2 0 p.L.length,.p (.i .i64 p.st),.p (.i .i64 p.se),.p (.s p.to)]
theorem rowW_step {M:List Pg} {p:Pg} {n m:Nat} (hn:M.length=n) {ρ ρ':List Nat} (hL:0<p.L.length) {e o:Nat} (he:e<n+1) (ho:o<7) :
  renC ρ (if e=n then (if o=3 then .own 56 2 p.L.length (rowP enc2 p.L) else nth .top (pgS p m) o) else renC ρ' (appF n (rowW M) (fun e o => nth .top (pgS p m) ((e+0) * 7+o)) e o))=rowW (M ++ [p]) e o:=by
 subst hn
 by_cases h1:e<M.length
 · rw [if_neg (by omega),rowW_lt h1]
   unfold appF
   rw [if_pos h1,ren_rowW,ren_rowW]
 · obtain rfl:e=M.length:=by omega
   rw [if_pos rfl,rowW_new]
   have:o=0∨o=1∨o=2∨o=3∨o=4∨o=5∨o=6:=by omega
   rcases this with rfl | rfl | rfl | rfl | rfl | rfl | rfl
   · rfl
   · rfl
   · rfl
   · rw [if_pos rfl,if_pos rfl]
     cases hp:p.L with
     | nil => rw [hp] at hL;simp at hL
     | cons x L => rfl
   · rfl
   · rfl
   · rfl
theorem rowW_step0 {M:List Pg} {p:Pg} {n:Nat} (hn:M.length=n) {ρ:List Nat} (hL:p.L=[]) {e o:Nat} (he:e<n+1) (ho:o<7) :
  renC ρ (appF n (rowW M) (fun e o => nth .top [.p (.i .i64 p.kd),.p (.s p.ru),.p (.i .i64 p.ve),.p (.l 2 p.L.length (rowP enc2 p.L)),.p (.i .i64 p.st),.p (.i .i64 p.se),.p (.s p.to)] ((e+0) * 7+o)) e o)=rowW (M ++ [p]) e o:=by
 subst hn
 unfold appF
 by_cases h1:e<M.length
 · rw [rowW_lt h1,if_pos h1,ren_rowW]
 · obtain rfl:e=M.length:=by omega
   rw [rowW_new,if_neg (by omega)]
   have:o=0∨o=1∨o=2∨o=3∨o=4∨o=5∨o=6:=by omega
   rw [Nat.sub_self]
   rcases this with rfl | rfl | rfl | rfl | rfl | rfl | rfl
   · rfl
   · rfl
   · rfl
   · rw [if_pos rfl,hL];rfl
   · rfl
   · rfl
   · rfl
section
variable {G:Nat→Option Obj}
theorem extSeE_sound:SoundExt Try.prog G extSeE:=extH_sound (by simp;exact okSep.lift)
theorem extSeN_sound:SoundExt Try.prog G extSeN:=extH_sound (by simp;exact okSepN)
set_option maxRecDepth 100000 in
set_option maxHeartbeats 1000000 in
theorem all_mainW (D:Ld) (h1:D.M.length≤1000000) (h2:∀ p∈D.M,p.L.length≤1000000) (rest:List AO) (b:Nat) (Q:X→St→Prop):ExZ Try.prog G (Zm [0] (resOf Try.prog Try.f26) fun s => WeakS G s ⟨[.c (.ptr 0 0)] ++ [.c (.sl 5 7 0 D.M.length)],ldE D b ++ [.row 31 7 D.M.length (rowW D.M)]⟩) (pcs Try.prog Try.f26) (stIn Try.f26 [0,1,2,3] [0] [b] [.c (.ptr 0 0)] (ldH D rest)) Q:=by
 refine ExZ.evG ext0_sound 3 (tAl1 D rest b) ?_
 simp only [holds_rq,holds_leaf,kz_normal]
 refine ⟨⟨by decide,by omega,by omega,by omega⟩,⟨?_⟩⟩
 refine ExZ.loop' (l:=dropL 3 (pcs Try.prog Try.f26)) (b:=inr (inr (nth .skip (pcs Try.prog Try.f26) 3))) (r:=dropL 4 (pcs Try.prog Try.f26)) (id:=0) (by kernel_rfl) (σ:=Nat)
   (fun i => (fun out k => cst 28 [(0,.c (.ptr 0 0)),(3,.c (.sl 1 7 0 k)),(15,.c (.sl 2 7 0 D.M.length)),(16,iV (D.M.length:Nat)),(17,iV (i:Nat))] [.pin 3 b,.row 31 7 k (rowW out),.row 31 7 D.M.length (rowC encPg D.M),.cells 86 [.sl 2 7 0 D.M.length,.mp 4,.mp 5],.mapb (okK Try.prog 81) D.gp,.mapl (okK Try.prog 79) 3 1 D.gs none]) (D.M.take i) (D.M.take i).length) (fun i => i≤D.M.length) (fun i => D.M.length - i) 0 (Nat.zero_le _) (weak_cst ⟨rfl,⟨rfl,rfl,rfl,fun e o he => absurd he (Nat.not_lt_zero _)⟩,⟨rfl,rfl,rfl,fun e o he ho => rfl⟩,rfl,rfl,rfl,trivial⟩) ?_
 intro i hi Q1 q1n q1e _
 have hl:(D.M.take i).length=i:=by rw [List.length_take];omega
 by_cases hlt:i<D.M.length
 · have hsn:=takeD hlt
   have hL:(D.M.getD i default).L.length≤1000000:=h2 _ (by
    rw [List.getD_eq_getElem?_getD,List.getElem?_eq_getElem hlt]
    exact List.getElem_mem _)
   have hlx:(D.M.take (i+1)).length=(D.M.take i).length+1:=by rw [hsn];simp
   by_cases hL0:(D.M.getD i default).L=[]
   · refine ExZ.evH (keep:=msk 28 [0,3,15,16,17]) extSeE_sound (tAw2e D b (D.M.take i).length i (D.M.take i)) ?_
     simp only [holds_bT,holds_rq,holds_leaf,kz_normal,kz_exit,decide_eq_true_eq,decide_eq_false_iff_not,inR,show ∀ x:Nat,x+0=x from fun _ => rfl,Int.toNat_natCast,dec2_row]
     refine ⟨fun _ => ?_,fun hge => absurd hge (by omega)⟩
     generalize D.M.getD i default=p at hsn hL hL0 ⊢
     refine ⟨by omega,hlt,⟨isL_row _ _ _,hL⟩,trivial,Nat.le_refl _,⟨by omega,by omega,fun e o he ho => ?_⟩,by omega,⟨?_⟩⟩
     · obtain rfl:e=0:=by omega
       have:o=0∨o=1∨o=2∨o=3∨o=4∨o=5∨o=6:=by omega
       rcases this with rfl | rfl | rfl | rfl | rfl | rfl | rfl <;> rfl
     · refine q1n (i+1) _ (by omega) (by omega) ?_
       rw [hlx]
       refine weak_cst ⟨rfl,⟨rfl,rfl,rfl,fun e o he ho => ?_⟩,⟨rfl,rfl,rfl,fun e o he ho => rfl⟩,rfl,rfl,rfl,trivial⟩
       rw [hsn]
       exact rowW_step0 rfl hL0 he ho
   · refine ExZ.evK (keep:=msk 28 [0,3,15,16,17]) extSeN_sound (tAw2n D b (D.M.take i).length i (D.M.take i)) ?_
     have hL1:0<(D.M.getD i default).L.length:=List.length_pos_iff.2 hL0
     simp only [holds_bT,holds_rq,holds_leaf,kz_normal,kz_exit,decide_eq_true_eq,decide_eq_false_iff_not,inR,show ∀ x:Nat,x+0=x from fun _ => rfl,Int.toNat_natCast,dec2_row]
     refine ⟨fun _ => ?_,fun hge => absurd hge (by omega)⟩
     generalize D.M.getD i default=p at hsn hL hL0 hL1 ⊢
     refine ⟨by omega,hlt,⟨isL_row _ _ _,hL1,hL⟩,trivial,Nat.le_refl _,⟨by omega,by omega,fun e o he ho => ?_⟩,by omega,⟨?_⟩⟩
     · obtain rfl:e=0:=by omega
       have:o=0∨o=1∨o=2∨o=3∨o=4∨o=5∨o=6:=by omega
       rcases this with rfl | rfl | rfl | rfl | rfl | rfl | rfl <;> rfl
     · refine q1n (i+1) _ (by omega) (by omega) ?_
       rw [hlx]
       refine (weak_foc (id:=9) (sz:=7) (e0:=(D.M.take i).length) (vs:=pgS p 7) rfl (by omega) rfl (fun o ho => ?_)).trans ((weak_close (id:=9) (m:=7) (sz:=7) (sz':=2) (e0:=(D.M.take i).length) (k0:=3) (g:=rowP enc2 p.L) rfl rfl (fun e o he ho => rfl) (by decide) rfl (fun o ho h3 => ?_)).trans ((weak_proj [0,9,2,3,4,5] (msk 28 [0,3,15,16,17]) (by kernel_rfl) _).trans ?_))
       · unfold appF
         rw [if_neg (Nat.lt_irrefl _),Nat.sub_self]
         have:o=0∨o=1∨o=2∨o=3∨o=4∨o=5∨o=6:=by omega
         rcases this with rfl | rfl | rfl | rfl | rfl | rfl | rfl <;> rfl
       · have:o=0∨o=1∨o=2∨o=4∨o=5∨o=6:=by omega
         rcases this with rfl | rfl | rfl | rfl | rfl | rfl <;> rfl
       · refine (weak_of_eq (st':=(fun k F => cst 28 [(0,.c (.ptr 0 0)),(3,.c (.sl 1 7 0 k)),(15,.c (.sl 2 7 0 D.M.length)),(16,iV (D.M.length:Nat)),(17,iV ((i:Int)+1))] [.pin 3 b,.row 31 7 k F,.row 31 7 D.M.length (rowC encPg D.M),.cells 86 [.sl 2 7 0 D.M.length,.mp 4,.mp 5],.mapb (okK Try.prog 81) D.gp,.mapl (okK Try.prog 79) 3 1 D.gs none]) ((D.M.take i).length+1) (fun e o => renC [0,9,2,3,4,5] (if e=(D.M.take i).length then (if o=3 then .own 56 2 p.L.length (rowP enc2 p.L) else nth .top (pgS p 7) o) else renC [0,1,2,3,4,5,6,7,8,9] (appF (D.M.take i).length (rowW (D.M.take i)) (fun e o => nth .top (pgS p 7) ((e+0) * 7+o)) e o)))) (by kernel_rfl)).trans (weak_cst (h:=[.pin 3 b,.row 31 7 ((D.M.take i).length+1) (fun e o => renC [0,9,2,3,4,5] (if e=(D.M.take i).length then (if o=3 then .own 56 2 p.L.length (rowP enc2 p.L) else nth .top (pgS p 7) o) else renC [0,1,2,3,4,5,6,7,8,9] (appF (D.M.take i).length (rowW (D.M.take i)) (fun e o => nth .top (pgS p 7) ((e+0) * 7+o)) e o))),.row 31 7 D.M.length (rowC encPg D.M),.cells 86 [.sl 2 7 0 D.M.length,.mp 4,.mp 5],.mapb (okK Try.prog 81) D.gp,.mapl (okK Try.prog 79) 3 1 D.gs none]) ⟨rfl,⟨rfl,rfl,rfl,fun e o he ho => ?_⟩,⟨rfl,rfl,rfl,fun e o he ho => rfl⟩,rfl,rfl,rfl,trivial⟩)
         rw [hsn]
         exact rowW_step rfl hL1 he ho
 · refine ExZ.evH (keep:=msk 28 [0,3,15,16,17]) extSeE_sound (tAw2e D b (D.M.take i).length i (D.M.take i)) ?_
   simp only [holds_bT,holds_rq,holds_leaf,kz_normal,kz_exit,decide_eq_true_eq,decide_eq_false_iff_not,inR,show ∀ x:Nat,x+0=x from fun _ => rfl,Int.toNat_natCast,dec2_row]
   refine ⟨fun h => absurd h (by omega),fun hge => ⟨q1e _ ?_⟩⟩
   obtain rfl:i=D.M.length:=by omega
   rw [List.take_length]
   refine ExZ.pre (st2:=(fun out => cst 28 [(0,.c (.ptr 0 0)),(3,.c (.sl 5 7 0 D.M.length))] (ldE D b ++ [.row 31 7 D.M.length (rowW out)])) D.M) ((weak_proj [0,3,2,4,5,1] (msk 28 [0,3]) (by kernel_rfl) _).trans ((weak_of_eq (st':=cst 28 [(0,.c (.ptr 0 0)),(3,.c (.sl 5 7 0 D.M.length))] [.pin 1 b,.cells 86 [.sl 2 7 0 D.M.length,.mp 3,.mp 4],.row 31 7 D.M.length (fun e o => rowC encPg D.M e o),.mapb (okK Try.prog 81) D.gp,.mapl (okK Try.prog 79) 3 1 D.gs none,.row 31 7 D.M.length (fun e o => renC [0,3,2,4,5,1] (renC [0,1,2,3,4,5] (rowW D.M e o)))]) (by kernel_rfl)).trans (weak_cst (h:=[.pin 1 b,.cells 86 [.sl 2 7 0 D.M.length,.mp 3,.mp 4],.row 31 7 D.M.length (fun e o => rowC encPg D.M e o),.mapb (okK Try.prog 81) D.gp,.mapl (okK Try.prog 79) 3 1 D.gs none,.row 31 7 D.M.length (fun e o => renC [0,3,2,4,5,1] (renC [0,1,2,3,4,5] (rowW D.M e o)))]) (h':=[.pin 1 b,.cells 86 [.sl 2 7 0 D.M.length,.mp 3,.mp 4],.row 31 7 D.M.length (rowC encPg D.M),.mapb (okK Try.prog 81) D.gp,.mapl (okK Try.prog 79) 3 1 D.gs none,.row 31 7 D.M.length (rowW D.M)]) ⟨rfl,rfl,⟨rfl,rfl,rfl,fun e o he ho => rfl⟩,rfl,rfl,⟨rfl,rfl,rfl,fun e o he ho => ?_⟩,trivial⟩))) ?_
   · exact (congrArg (renC _) (ren_rowW _ _ _ _)).trans (ren_rowW _ _ _ _)
   refine ExZ.evH (keep:=[]) ext0_sound (tAw3 D b D.M) ?_
   simp only [holds_leaf,kz_ret]
   refine ⟨(weak_proj [0,2,3,4,5,1] [true,true] (by kernel_rfl) _).trans ((weak_of_eq (st':=cst 2 [(0,.c (.ptr 0 0)),(1,.c (.sl 5 7 0 D.M.length))] [.pin 1 b,.cells 86 [.sl 2 7 0 D.M.length,.mp 3,.mp 4],.row 31 7 D.M.length (fun e o => rowC encPg D.M e o),.mapb (okK Try.prog 81) D.gp,.mapl (okK Try.prog 79) 3 1 D.gs none,.row 31 7 D.M.length (fun e o => renC [0,2,3,4,5,1] (renC [0,5,1,2,3,4] (rowW D.M e o)))]) (by kernel_rfl)).trans (weak_cst (h:=[.pin 1 b,.cells 86 [.sl 2 7 0 D.M.length,.mp 3,.mp 4],.row 31 7 D.M.length (fun e o => rowC encPg D.M e o),.mapb (okK Try.prog 81) D.gp,.mapl (okK Try.prog 79) 3 1 D.gs none,.row 31 7 D.M.length (fun e o => renC [0,2,3,4,5,1] (renC [0,5,1,2,3,4] (rowW D.M e o)))]) (h':=[.pin 1 b,.cells 86 [.sl 2 7 0 D.M.length,.mp 3,.mp 4],.row 31 7 D.M.length (rowC encPg D.M),.mapb (okK Try.prog 81) D.gp,.mapl (okK Try.prog 79) 3 1 D.gs none,.row 31 7 D.M.length (rowW D.M)]) ⟨rfl,rfl,⟨rfl,rfl,rfl,fun e o he ho => rfl⟩,rfl,rfl,⟨rfl,rfl,rfl,fun e o he ho => ?_⟩,trivial⟩))⟩
   exact (congrArg (renC _) (ren_rowW _ _ _ _)).trans (ren_rowW _ _ _ _)
set_option maxRecDepth 100000 in
theorem okAllW (D:Ld) (M:List Pg):ModHOK Try.prog G 26 (mAllW D M):=by
 intro args h p0 v h' hm hp
 unfold mAllW at hm
 split at hm;rotate_left;· cases hm
 split at hm;rotate_left;· cases hm
 rename_i j _ q r a b hl
 obtain ⟨rfl,rfl,rfl⟩:=some_three hm
 obtain ⟨hq,hM,rfl⟩:=hp
 obtain ⟨g,q1,q2,q3,q4,hg⟩:=isLdG_eq hl hq
 have hm:=all_mainW (G:=G) (repD M) (by rw [repD_M];have:=hM.2;omega) (fun p hp => by
   rw [repD_M] at hp
   have:=(validLb_at (pgOK_iff.1 (hM.1 p hp).1).2.2.1).1
   omega) []
 have h0:=led_fnGW (W:=[.row 31 7 (repD M).M.length (rowW (repD M).M)]) (args:=[]) (vs:=[.c (.sl 5 7 0 (repD M).M.length)]) (D':=repD M) Try.func26 (by kernel_rfl) q1 q2 q3 q4 hg rfl fun b => hm b _
 rw [repD_M] at h0
 rw [lenL_eq,← out_rowW]
 exact h0
end
end Go.AE
namespace Go.AE
set_option linter.unusedVariables false
set_option linter.unusedSimpArgs false
open Go.Proofs Go.Proofs.Ytfjihbmehhccoaa Go.RowKit
noncomputable def extAmN (D:Ld):Ext:=extH [(48,mAdd D),(49,mSepN)]
theorem tAmW5 (D:Ld) (b i k:Nat) (kd ve st se:Int) (ru tx:ByteArray) (L:List (ByteArray × ByteArray)) (A:List Int) (out:List Pg) (nw:Value→Option Bool):exTs (extAmN D) (lpB (pcs Try.prog Try.f17) 12) (cst 95 [(0,.c (.ptr 4 0)),(13,.c (.ptr 5 0)),(14,.c (.mp 6)),(17,.c (.ptr 7 0)),(19,.c (.sl 8 7 0 k)),(61,listV encI 1 A),(62,iV (A.length:Nat)),(63,iV (i:Nat))] (ldH D [.pin 0 b,.cells 31 [.p (.i .i64 kd),.p (.s ru),.p (.i .i64 ve),.p (listP enc2 2 L),.p (.i .i64 st),.p (.i .i64 se),.p (.s ⟨#[]⟩)],.mapb (okK Try.prog 3) nw,.cells 79 [.p (.s ru),.p (.i .i64 ve),.p (.s tx)],.row 31 7 k (rowW out)])) (endK [0] (msk 95 [0,13,14,17,19,61,62,63]) (resOf Try.prog Try.f17))=bT (decide ((↑i:Int)<(↑A.length:Int)))
 (.rq (0≤(↑i:Int)∧(↑i:Int)<(↑A.length:Int))
 (.rq
 (okK Try.prog 81=okK Try.prog 81∧okK Try.prog 81 (Value.agg #[Value.string ru,Value.int IntKind.i64 ve,Value.string tx,Value.int IntKind.i64 (A.getD (↑i:Int).toNat default)])=true)
 (.rq (okK Try.prog 3=okK Try.prog 3∧okK Try.prog 3 (Value.int IntKind.i64 (A.getD (↑i:Int).toNat default))=true)
 (bT
 ((D.gp (Value.agg #[Value.string ru,Value.int IntKind.i64 ve,Value.string tx,Value.int IntKind.i64 (A.getD (↑i:Int).toNat default)])).getD false ==
 (nw (Value.int IntKind.i64 (A.getD (↑i:Int).toNat default))).getD false)
 (.rq (inR IntKind.i64 ((↑i:Int)+1))
 (.done .normal
 (cst 95 [(0,.c (.ptr 4 0)),(13,.c (.ptr 5 0)),(14,.c (.mp 6)),(17,.c (.ptr 7 0)),(19,.c (.sl 8 7 0 k)),(61,.c (.p (.l 1 A.length (rowP encI A)))),(62,.c (.p (.i .i64 (↑A.length:Int)))),(63,.c (.p (.i .i64 ((↑i:Int)+1))))] [.cells 86 [.sl 1 7 0 D.M.length,.mp 2,.mp 3],.row 31 7 D.M.length fun e o => renC [0,1,2,3,4,5,6,7,8] (rowC encPg D.M e o),.mapb (okK Try.prog 81) D.gp,.mapl (okK Try.prog 79) 3 1 D.gs none,.pin 0 b,.cells 31 [.p (.i .i64 kd),.p (.s ru),.p (.i .i64 ve),.p (.l 2 L.length (rowP enc2 L)),.p (.i .i64 st),.p (.i .i64 se),.p (.s (ByteArray.mk #[]))],.mapb (okK Try.prog 3) nw,.cells 79 [.p (.s ru),.p (.i .i64 ve),.p (.s tx)],.row 31 7 k fun e o => renC [0,1,2,3,4,5,6,7,8] (rowW out e o)])))
 (bT ((D.gp (Value.agg #[Value.string ru,Value.int IntKind.i64 ve,Value.string tx,Value.int IntKind.i64 (A.getD (↑i:Int).toNat default)])).getD false)
 (.rq
 (IsL enc2 2 (decL dec2 L.length (rowP enc2 L)) L.length (rowP enc2 L) ∧
 (D.M.length=D.M.length ∧
 D.M.length=D.M.length∧rowC encPg D.M=rowC encPg D.M∧okK Try.prog 81=okK Try.prog 81∧D.gp=D.gp∧okK Try.prog 79=okK Try.prog 79∧D.gs=D.gs) ∧
 Fits D (Pg.mk 1 ru ve (decL dec2 L.length (rowP enc2 L)) (A.getD (↑i:Int).toNat default) se (ByteArray.mk #[])))
 (.rq (IsL enc2 2 (decL dec2 L.length (rowP enc2 L)) L.length (rowP enc2 L)∧0<(decL dec2 L.length (rowP enc2 L)).length∧(decL dec2 L.length (rowP enc2 L)).length≤1000000)
 (.rq (k=k)
 (.rq (1≤1)
 (.rq
 ((k+1) * 88≤140737488355328 ∧
 k+1≤140737488355328 ∧
 ∀ (e o:Nat),
 e<1 →
 o<7 →
 oneC
 (bslF
 [C.p (PV.i IntKind.i64 1),C.p (PV.s ru),C.p (PV.i IntKind.i64 ve),C.sl 14 2 0 (decL dec2 L.length (rowP enc2 L)).length,
 C.p (PV.i IntKind.i64 (A.getD (↑i:Int).toNat default)),C.p (PV.i IntKind.i64 se),C.p (PV.s (ByteArray.mk #[]))]
 7 1 (e+0) o) =
 true)
 (.rq (inR IntKind.i64 ((↑i:Int)+1))
 (.done .normal
 (cst 95 [(0,.c (.ptr 4 0)),(13,.c (.ptr 5 0)),(14,.c (.mp 6)),(17,.c (.ptr 7 0)),(19,.c (.sl 16 7 0 (k+1))),(61,.c (.p (.l 1 A.length (rowP encI A)))),(62,.c (.p (.i .i64 (↑A.length:Int)))),(63,.c (.p (.i .i64 ((↑i:Int)+1))))] [.cells 86 [.sl 11 7 0 (ladd D (Pg.mk 1 ru ve (decL dec2 L.length (rowP enc2 L)) (A.getD (↑i:Int).toNat default) se (ByteArray.mk #[]))).M.length,.mp 12,.mp 13],.gone,.gone,.gone,.pin 0 b,.cells 31 [.p (.i .i64 1),.p (.s ru),.p (.i .i64 ve),.p (.l 2 L.length (rowP enc2 L)),.p (.i .i64 (A.getD (↑i:Int).toNat default)),.p (.i .i64 se),.p (.s (ByteArray.mk #[]))],.mapb (okK Try.prog 3) nw,.cells 79 [.p (.s ru),.p (.i .i64 ve),.p (.s tx)],.gone,.gone,.gone,.row 31 7 (ladd D (Pg.mk 1 ru ve (decL dec2 L.length (rowP enc2 L)) (A.getD (↑i:Int).toNat default) se (ByteArray.mk #[]))).M.length fun e o => renC [0,1,2,3,4,5,6,7,8,9,10,11,12,13,14,15,16] (C.p (rowP encPg (ladd D (Pg.mk 1 ru ve (decL dec2 L.length (rowP enc2 L)) (A.getD (↑i:Int).toNat default) se (ByteArray.mk #[]))).M e o)),.mapb (okK Try.prog 81) (ladd D (Pg.mk 1 ru ve (decL dec2 L.length (rowP enc2 L)) (A.getD (↑i:Int).toNat default) se (ByteArray.mk #[]))).gp,.mapl (okK Try.prog 79) 3 1 (ladd D (Pg.mk 1 ru ve (decL dec2 L.length (rowP enc2 L)) (A.getD (↑i:Int).toNat default) se (ByteArray.mk #[]))).gs none,.row 56 2 (decL dec2 L.length (rowP enc2 L)).length fun e o => renC [0,1,2,3,4,5,6,7,8,9,10,11,12,13,14,15,16] (C.p (rowP enc2 (decL dec2 L.length (rowP enc2 L)) e o)),.row 31 7 1 fun e o => renC [0,1,2,3,4,5,6,7,8,9,10,11,12,13,14,15,16] (nth C.top [C.p (PV.i IntKind.i64 1),C.p (PV.s ru),C.p (PV.i IntKind.i64 ve),C.sl 14 2 0 (decL dec2 L.length (rowP enc2 L)).length,C.p (PV.i IntKind.i64 (A.getD (↑i:Int).toNat default)),C.p (PV.i IntKind.i64 se),C.p (PV.s (ByteArray.mk #[]))] (e * 7+o)),.row 31 7 (k+1) fun e o => renC [0,1,2,3,4,5,6,7,8,9,10,11,12,13,14,15,16] (appF k (rowW out) (fun e o => nth C.top [C.p (PV.i IntKind.i64 1),C.p (PV.s ru),C.p (PV.i IntKind.i64 ve),C.sl 14 2 0 (decL dec2 L.length (rowP enc2 L)).length,C.p (PV.i IntKind.i64 (A.getD (↑i:Int).toNat default)),C.p (PV.i IntKind.i64 se),C.p (PV.s (ByteArray.mk #[]))] ((e+0) * 7+o)) e o)]))))))))
 (.rq
 (IsL enc2 2 (decL dec2 L.length (rowP enc2 L)) L.length (rowP enc2 L) ∧
 (D.M.length=D.M.length ∧
 D.M.length=D.M.length∧rowC encPg D.M=rowC encPg D.M∧okK Try.prog 81=okK Try.prog 81∧D.gp=D.gp∧okK Try.prog 79=okK Try.prog 79∧D.gs=D.gs) ∧
 Fits D (Pg.mk 2 ru ve (decL dec2 L.length (rowP enc2 L)) (A.getD (↑i:Int).toNat default) se (ByteArray.mk #[])))
 (.rq (IsL enc2 2 (decL dec2 L.length (rowP enc2 L)) L.length (rowP enc2 L)∧0<(decL dec2 L.length (rowP enc2 L)).length∧(decL dec2 L.length (rowP enc2 L)).length≤1000000)
 (.rq (k=k)
 (.rq (1≤1)
 (.rq
 ((k+1) * 88≤140737488355328 ∧
 k+1≤140737488355328 ∧
 ∀ (e o:Nat),
 e<1 →
 o<7 →
 oneC
 (bslF
 [C.p (PV.i IntKind.i64 2),C.p (PV.s ru),C.p (PV.i IntKind.i64 ve),C.sl 14 2 0 (decL dec2 L.length (rowP enc2 L)).length,
 C.p (PV.i IntKind.i64 (A.getD (↑i:Int).toNat default)),C.p (PV.i IntKind.i64 se),C.p (PV.s (ByteArray.mk #[]))]
 7 1 (e+0) o) =
 true)
 (.rq (inR IntKind.i64 ((↑i:Int)+1))
 (.done .normal
 (cst 95 [(0,.c (.ptr 4 0)),(13,.c (.ptr 5 0)),(14,.c (.mp 6)),(17,.c (.ptr 7 0)),(19,.c (.sl 16 7 0 (k+1))),(61,.c (.p (.l 1 A.length (rowP encI A)))),(62,.c (.p (.i .i64 (↑A.length:Int)))),(63,.c (.p (.i .i64 ((↑i:Int)+1))))] [.cells 86 [.sl 11 7 0 (ladd D (Pg.mk 2 ru ve (decL dec2 L.length (rowP enc2 L)) (A.getD (↑i:Int).toNat default) se (ByteArray.mk #[]))).M.length,.mp 12,.mp 13],.gone,.gone,.gone,.pin 0 b,.cells 31 [.p (.i .i64 2),.p (.s ru),.p (.i .i64 ve),.p (.l 2 L.length (rowP enc2 L)),.p (.i .i64 (A.getD (↑i:Int).toNat default)),.p (.i .i64 se),.p (.s (ByteArray.mk #[]))],.mapb (okK Try.prog 3) nw,.cells 79 [.p (.s ru),.p (.i .i64 ve),.p (.s tx)],.gone,.gone,.gone,.row 31 7 (ladd D (Pg.mk 2 ru ve (decL dec2 L.length (rowP enc2 L)) (A.getD (↑i:Int).toNat default) se (ByteArray.mk #[]))).M.length fun e o => renC [0,1,2,3,4,5,6,7,8,9,10,11,12,13,14,15,16] (C.p (rowP encPg (ladd D (Pg.mk 2 ru ve (decL dec2 L.length (rowP enc2 L)) (A.getD (↑i:Int).toNat default) se (ByteArray.mk #[]))).M e o)),.mapb (okK Try.prog 81) (ladd D (Pg.mk 2 ru ve (decL dec2 L.length (rowP enc2 L)) (A.getD (↑i:Int).toNat default) se (ByteArray.mk #[]))).gp,.mapl (okK Try.prog 79) 3 1 (ladd D (Pg.mk 2 ru ve (decL dec2 L.length (rowP enc2 L)) (A.getD (↑i:Int).toNat default) se (ByteArray.mk #[]))).gs none,.row 56 2 (decL dec2 L.length (rowP enc2 L)).length fun e o => renC [0,1,2,3,4,5,6,7,8,9,10,11,12,13,14,15,16] (C.p (rowP enc2 (decL dec2 L.length (rowP enc2 L)) e o)),.row 31 7 1 fun e o => renC [0,1,2,3,4,5,6,7,8,9,10,11,12,13,14,15,16] (nth C.top [C.p (PV.i IntKind.i64 2),C.p (PV.s ru),C.p (PV.i IntKind.i64 ve),C.sl 14 2 0 (decL dec2 L.length (rowP enc2 L)).length,C.p (PV.i IntKind.i64 (A.getD (↑i:Int).toNat default)),C.p (PV.i IntKind.i64 se),C.p (PV.s (ByteArray.mk #[]))] (e * 7+o)),.row 31 7 (k+1) fun e o => renC [0,1,2,3,4,5,6,7,8,9,10,11,12,13,14,15,16] (appF k (rowW out) (fun e o => nth C.top [C.p (PV.i IntKind.i64 2),C.p (PV.s ru),C.p (PV.i IntKind.i64 ve),C.sl 14 2 0 (decL dec2 L.length (rowP enc2 L)).length,C.p (PV.i IntKind.i64 (A.getD (↑i:Int).toNat default)),C.p (PV.i IntKind.i64 se),C.p (PV.s (ByteArray.mk #[]))] ((e+0) * 7+o)) e o)])))))))))))))
 (.done (.exit 2)
 (cst 95 [(0,.c (.ptr 4 0)),(13,.c (.ptr 5 0)),(14,.c (.mp 6)),(17,.c (.ptr 7 0)),(19,.c (.sl 8 7 0 k)),(61,.c (.p (.l 1 A.length (rowP encI A)))),(62,.c (.p (.i .i64 (↑A.length:Int)))),(63,.c (.p (.i .i64 (↑i:Int))))] [.cells 86 [.sl 1 7 0 D.M.length,.mp 2,.mp 3],.row 31 7 D.M.length fun e o => renC [0,1,2,3,4,5,6,7,8] (rowC encPg D.M e o),.mapb (okK Try.prog 81) D.gp,.mapl (okK Try.prog 79) 3 1 D.gs none,.pin 0 b,.cells 31 [.p (.i .i64 kd),.p (.s ru),.p (.i .i64 ve),.p (.l 2 L.length (rowP enc2 L)),.p (.i .i64 st),.p (.i .i64 se),.p (.s (ByteArray.mk #[]))],.mapb (okK Try.prog 3) nw,.cells 79 [.p (.s ru),.p (.i .i64 ve),.p (.s tx)],.row 31 7 k fun e o => renC [0,1,2,3,4,5,6,7,8] (rowW out e o)])):=by kernel_rfl
theorem tAmW6 (D:Ld) (b:Nat) (out:List Pg):exTs ext0 (dropL 13 (pcs Try.prog Try.f17)) (cst 95 [(0,.c (.ptr 0 0)),(19,.c (.sl 5 7 0 out.length))] (ldE D b ++ [.row 31 7 out.length (rowW out)])) (endM [0] [] (resOf Try.prog Try.f17))=Tr.done X.ret
 (cst 2 [(0,.c (.ptr 0 0)),(1,.c (.sl 1 7 0 out.length))] [.pin 2 b,.row 31 7 out.length fun e o => renC [0,5,1,2,3,4] (rowW out e o),.cells 86 [.sl 3 7 0 D.M.length,.mp 4,.mp 5],.row 31 7 D.M.length fun e o => renC [0,5,1,2,3,4] (rowC encPg D.M e o),.mapb (okK Try.prog 81) D.gp,.mapl (okK Try.prog 79) 3 1 D.gs none]):=by kernel_rfl
end Go.AE
namespace Go.AE
set_option linter.unusedVariables false
set_option linter.unusedSimpArgs false
open Go.Proofs Go.Proofs.Ytfjihbmehhccoaa Gp Go.RowKit
theorem pgS_one (p:Pg) (m:Nat):∀ e o:Nat,e<1→o<7→oneC (nth .top (pgS p m) ((e+0) * 7+o))=true:=by
 intro e o he ho
 obtain rfl:e=0:=by omega
 have:o=0∨o=1∨o=2∨o=3∨o=4∨o=5∨o=6:=by omega
 rcases this with rfl | rfl | rfl | rfl | rfl | rfl | rfl <;> rfl
theorem pgS_own (p:Pg) (m:Nat) {o:Nat} (ho:o<7) (h3:o≠3):(nth .top (pgS p m) o).isOwn=false:=by
 have:o=0∨o=1∨o=2∨o=4∨o=5∨o=6:=by omega
 rcases this with rfl | rfl | rfl | rfl | rfl | rfl <;> rfl
theorem pgS_app (M:List Pg) (p:Pg) (m:Nat) {o:Nat} (ρ:List Nat) (ho:o<7) (h:renC ρ (.sl m 2 0 p.L.length)=.sl m 2 0 p.L.length:=by rfl):renC ρ (appF M.length (rowW M) (fun e o => nth .top (pgS p m) ((e+0) * 7+o)) M.length o)=nth .top (pgS p m) o:=by
  unfold appF
  rw [if_neg (Nat.lt_irrefl _),Nat.sub_self]
  have:o=0∨o=1∨o=2∨o=3∨o=4∨o=5∨o=6:=by omega
  rcases this with rfl | rfl | rfl | rfl | rfl | rfl | rfl
  · rfl
  · rfl
  · rfl
  · exact h
  · rfl
  · rfl
  · rfl
section
variable {G:Nat→Option Obj}
theorem extAmN_sound (D:Ld):SoundExt Try.prog G (extAmN D):=extH_sound (by simp;exact ⟨okAddD D,okSepN⟩)
theorem amW_cst {l:List (Nat × V)} {n:Nat} {F F':Nat→Nat→C} {D:Ld} {x y z u:AO} (n0:Nat) (hF:∀ e o,e<n→o<7→F e o=F' e o):WeakS G (cst n0 l (ldH D [x,y,z,u,.row 31 7 n F])) (cst n0 l (ldH D [x,y,z,u,.row 31 7 n F'])):=by
 have hr:∀ x:AO,OEq x x:=fun x => by cases x <;> first | rfl | exact ⟨rfl,rfl,rfl,fun _ _ _ _ => rfl⟩ | exact ⟨rfl,rfl,rfl,rfl,rfl,fun _ _ _ _ _ => rfl⟩
 exact weak_cst ⟨hr _,hr _,hr _,hr _,hr _,hr _,hr _,hr _,⟨rfl,rfl,rfl,hF⟩,trivial⟩
theorem amW_end {l:List (Nat × V)} {n:Nat} {F F':Nat→Nat→C} {a b c d e:AO} (n0:Nat) (hF:∀ e o,e<n→o<7→F e o=F' e o):WeakS G (cst n0 l [a,b,c,d,e,.row 31 7 n F]) (cst n0 l [a,b,c,d,e,.row 31 7 n F']):=by
 have hr:∀ x:AO,OEq x x:=fun x => by cases x <;> first | rfl | exact ⟨rfl,rfl,rfl,fun _ _ _ _ => rfl⟩ | exact ⟨rfl,rfl,rfl,rfl,rfl,fun _ _ _ _ _ => rfl⟩
 exact weak_cst ⟨hr _,hr _,hr _,hr _,hr _,⟨rfl,rfl,rfl,hF⟩,trivial⟩
set_option maxRecDepth 100000 in
set_option maxHeartbeats 4000000 in
theorem amend_mainW (D:Ld) (ru:ByteArray) (ve:Int) (L:List (ByteArray × ByteArray)) (S T:List Int) (se:Int) (hL:0<L.length) (hS:StG D (gKey ru ve (textLb L)) S) (h1:pgOK (⟨0,ru,ve,L,0,se,⟨#[]⟩⟩:Pg)=true) (hTa:T.all tickZ=true) (hT:(textLb L).size≤1000000∧ru.size≤1000000∧inR .i64 ve∧L.length≤1000000∧(∀ t∈S,inR .i64 t)∧S.length+T.length≤100000∧D.M.length≤100000) (hTl:T.length≤1000000) (rest:List AO) (b:Nat) (Q:X→St→Prop):ExZ Try.prog G (Zm [0] (resOf Try.prog Try.f17) fun s => WeakS G s ⟨[.c (.ptr 0 0)] ++ [.c (.sl 5 7 0 (amFold T ru ve L se D (compI (sortI (S ++ T)))).2.length)],ldE (amFold T ru ve L se D (compI (sortI (S ++ T)))).1 b ++ [.row 31 7 (amFold T ru ve L se D (compI (sortI (S ++ T)))).2.length (rowW (amFold T ru ve L se D (compI (sortI (S ++ T)))).2)]⟩) (pcs Try.prog Try.f17) (stIn Try.f17 [0,1,2,3] [0] [b] [.c (.ptr 0 0),.c (.p (.s ru)),iV ve,listV enc2 2 L,listV encI 1 T,iV se] (ldH D rest)) Q:=by
 refine ExZ.evG extVa_sound 6 (tM1 D rest b ve se ru L T) ?_
 simp only [holds_bT,holds_rq,holds_leaf,kz_ret,kz_normal,dec2_row]
 refine ⟨isL_row _ _ _,fun h2 => absurd h1 (by simpa using h2),fun _ => ⟨?_⟩⟩
 obtain ⟨t1,t2,t3,t4,t5,t6,t7⟩:=hT
 refine ExZ.loop' (l:=dropL 6 (pcs Try.prog Try.f17)) (b:=inr (inr (nth .skip (pcs Try.prog Try.f17) 6))) (r:=dropL 7 (pcs Try.prog Try.f17)) (id:=0) (by kernel_rfl) (σ:=Nat)
   (fun i => (fun nw => cst 95 [(0,.c (.ptr 0 0)),(4,listV encI 1 T),(13,.c (.ptr 1 0)),(14,.c (.mp 2)),(34,listV encI 1 T),(35,iV (T.length:Nat)),(36,iV (i:Nat))] [.pin 3 b,.cells 31 [.p (.i .i64 0),.p (.s ru),.p (.i .i64 ve),.p (listP enc2 2 L),.p (.i .i64 0),.p (.i .i64 se),.p (.s ⟨#[]⟩)],.mapb (okK Try.prog 3) nw,.cells 86 [.sl 4 7 0 D.M.length,.mp 5,.mp 6],.row 31 7 D.M.length (rowC encPg D.M),.mapb (okK Try.prog 81) D.gp,.mapl (okK Try.prog 79) 3 1 D.gs none]) (nwF (T.take i))) (fun i => i≤T.length∧(T.take i).all tickZ=true) (fun i => T.length - i) 0 ⟨Nat.zero_le _,rfl⟩ (weak_of_eq (by kernel_rfl)) ?_
 rintro i ⟨i1,i2⟩ Q1 q1n q1e -
 refine ExZ.evH (keep:=msk 95 [0,4,13,14,34,35,36]) extTk_sound (tM2 D b i ve se ru L T (nwF (T.take i))) ?_
 simp only [holds_bT,holds_rq,holds_leaf,kz_normal,kz_exit,kz_ret,decide_eq_true_eq,decide_eq_false_iff_not,inR,Int.toNat_natCast]
 refine ⟨fun hlt => ?_,fun hge => ⟨?_⟩⟩
 · have hlt:i<T.length:=by omega
   have hm:=getD_memI hlt
   have hs:=takeD hlt
   refine ⟨by omega,trivial,fun h2 => ⟨?_⟩,fun h2 => ⟨⟨trivial,?_⟩,by omega,⟨?_⟩⟩⟩
   · have h2:tickZ (T.getD i default)=false:=by simpa using h2
     have h3:T.all tickZ=false:=by
      cases hq:T.all tickZ with
      | false => rfl
      | true => rw [List.all_eq_true.1 hq _ hm] at h2;cases h2
     rw [hTa] at h3;cases h3
   · exact okIn_of _ (tick_in (by simpa using h2))
   · have h2:tickZ (T.getD i default)=true:=by simpa using h2
     refine q1n (i+1) _ ⟨by omega,by rw [hs,List.all_append,i2];show (true && (tickZ (T.getD i default) && true))=true;rw [h2];rfl⟩ (by omega) ?_
     rw [hs,nwF_snoc]
     exact weak_of_eq (by kernel_rfl)
 · obtain rfl:i=T.length:=by omega
   rw [List.take_length] at i2 ⊢
   refine q1e _ ?_
   clear q1n q1e hge i1
   have hTt:∀ t∈T,inR .i64 t:=fun t ht => tick_in (List.all_eq_true.1 i2 t ht)
   have hAt:∀ t∈compI (sortI (S ++ T)),inR .i64 t:=fun t ht => by
    have:=mem_sortI.1 (mem_compI ht)
    rcases List.mem_append.1 this with h | h
    · exact t5 t h
    · exact hTt t h
   have hAl:(compI (sortI (S ++ T))).length≤S.length+T.length:=by
    have:=compI_length (sortI (S ++ T))
    rw [sortI_length,List.length_append] at this
    exact this
   have hnw:=nwF_get T
   obtain ⟨nw,hnwe⟩:∃ nw,nw=nwF T:=⟨_,rfl⟩
   rw [← hnwe] at hnw ⊢
   refine ExZ.pre ((weak_gc (msk 95 [0,4,13,14]) _).trans (weak_of_eq (by kernel_rfl))) (ExZ.evG extVa_sound 1 (tM3 D b ve se ru L T nw) ?_)
   simp only [holds_bT,holds_rq,holds_leaf,kz_normal,dec2_row]
   refine ⟨⟨isL_row _ _ _,t1⟩,⟨?_⟩⟩
   obtain ⟨s1,s2⟩:=hS
   have hmk:∀ t,inR .i64 t→okK Try.prog 81 (mKey ru ve (textLb L) t)=true:=fun t ht => okMu_of _ _ _ _ t2 t3 t1 ht
   have hgk:=okGr_of ru (textLb L) ve t2 t3 t1
   obtain ⟨tx,htx⟩:∃ tx,tx=textLb L:=⟨_,rfl⟩
   rw [← htx] at s1 s2 hmk hgk t1 ⊢
   have w1:WeakS G (cst 95 [(0,.c (.ptr 0 0)),(4,listV encI 1 T),(13,.c (.ptr 1 0)),(14,.c (.mp 2)),(17,.c (.ptr 3 0))] [.pin 4 b,.cells 31 [.p (.i .i64 0),.p (.s ru),.p (.i .i64 ve),.p (listP enc2 2 L),.p (.i .i64 0),.p (.i .i64 se),.p (.s ⟨#[]⟩)],.mapb (okK Try.prog 3) nw,.cells 79 [.p (.s ru),.p (.i .i64 ve),.p (.s tx)],.cells 86 [.sl 5 7 0 D.M.length,.mp 6,.mp 7],.row 31 7 D.M.length (rowC encPg D.M),.mapb (okK Try.prog 81) D.gp,.mapl (okK Try.prog 79) 3 1 D.gs none]) ((fun S => cst 95 [(0,.c (.ptr 0 0)),(4,listV encI 1 T),(13,.c (.ptr 1 0)),(14,.c (.mp 2)),(17,.c (.ptr 3 0))] [.pin 4 b,.cells 31 [.p (.i .i64 0),.p (.s ru),.p (.i .i64 ve),.p (listP enc2 2 L),.p (.i .i64 0),.p (.i .i64 se),.p (.s ⟨#[]⟩)],.mapb (okK Try.prog 3) nw,.cells 79 [.p (.s ru),.p (.i .i64 ve),.p (.s tx)],.cells 86 [.sl 5 7 0 D.M.length,.mp 6,.mp 7],.row 31 7 D.M.length (rowC encPg D.M),.mapb (okK Try.prog 81) D.gp,.mapl (okK Try.prog 79) 3 1 D.gs (some (gKey ru ve tx,.sl 8 1 0 S.length)),.row 3 1 S.length (rowC encI S)]) S):=by
    refine (weak_openM (id:=7) (gKey ru ve tx) (by rfl)).trans ?_
    rw [s1]
    refine (weak_of_eq (st':=cst 95 [(0,.c (.ptr 0 0)),(4,listV encI 1 T),(13,.c (.ptr 1 0)),(14,.c (.mp 2)),(17,.c (.ptr 3 0))] [.pin 4 b,.cells 31 [.p (.i .i64 0),.p (.s ru),.p (.i .i64 ve),.p (listP enc2 2 L),.p (.i .i64 0),.p (.i .i64 se),.p (.s ⟨#[]⟩)],.mapb (okK Try.prog 3) nw,.cells 79 [.p (.s ru),.p (.i .i64 ve),.p (.s tx)],.cells 86 [.sl 5 7 0 D.M.length,.mp 6,.mp 7],.row 31 7 D.M.length (rowC encPg D.M),.mapb (okK Try.prog 81) D.gp,.mapl (okK Try.prog 79) 3 1 D.gs (some (gKey ru ve tx,.sl 8 1 0 S.length)),.row 3 1 S.length (fun e o => .p ((D.gs (gKey ru ve tx)).2 e o))]) (by kernel_rfl)).trans ?_
    refine weak_cst ⟨rfl,rfl,rfl,rfl,rfl,⟨rfl,rfl,rfl,fun _ _ _ _ => rfl⟩,rfl,rfl,⟨rfl,rfl,rfl,fun e o he ho => ?_⟩,trivial⟩
    exact congrArg C.p (s2 e o he ho)
   refine ExZ.pre ((weak_of_eq (by kernel_rfl)).trans w1) ?_
   refine ExZ.evG (extCt_sound (S ++ T)) 4 (tM4 D b ve se ru tx L S T nw) ?_
   simp only [holds_bT,holds_rq,holds_leaf,kz_normal]
   have dS:(decL decI S.length fun e o => unP (rowC encI S (e+0) o))=S:=decI_row S
   have dT:decL decI T.length (rowP encI T)=T:=decI_row T
   rw [dS,dT]
   refine ⟨⟨⟨trivial,hgk⟩,rfl⟩,⟨by omega,fun _ _ _ _ => rfl⟩,⟨⟨⟨isL_row _ _ _,isL_row _ _ _⟩,by omega⟩,trivial,fun _ _ _ _ => rfl⟩,⟨rfl,rfl,fun _ _ _ _ => rfl,by rw [List.length_append];omega⟩,⟨by rw [sortI_length],by rw [sortI_length],fun _ _ _ _ => rfl,by rw [sortI_length,List.length_append];omega⟩,⟨?_⟩⟩
   have hAe:=htx
   obtain ⟨A,hA⟩:∃ A,A=compI (sortI (S ++ T)):=⟨_,rfl⟩
   rw [← hA] at hAt hAl ⊢
   have w2:WeakS G ((fun A S nw => cst 95 [(0,.c (.ptr 0 0)),(13,.c (.ptr 1 0)),(14,.c (.mp 2)),(17,.c (.ptr 3 0)),(19,.c (.p (.z (.slice none 0 0)))),(61,.c (.sl 4 1 0 A.length)),(62,iV (A.length:Nat)),(63,iV 0)] [.pin 5 b,.cells 31 [.p (.i .i64 0),.p (.s ru),.p (.i .i64 ve),.p (listP enc2 2 L),.p (.i .i64 0),.p (.i .i64 se),.p (.s ⟨#[]⟩)],.mapb (okK Try.prog 3) nw,.cells 79 [.p (.s ru),.p (.i .i64 ve),.p (.s tx)],.row 3 1 A.length (rowC encI A),.cells 86 [.sl 6 7 0 D.M.length,.mp 7,.mp 8],.row 31 7 D.M.length (rowC encPg D.M),.mapb (okK Try.prog 81) D.gp,.mapl (okK Try.prog 79) 3 1 D.gs (some (gKey ru ve tx,.sl 9 1 0 S.length)),.row 3 1 S.length (rowC encI S)]) A S nw) ((fun D nw kd st out k i => cst 95 [(0,.c (.ptr 4 0)),(13,.c (.ptr 5 0)),(14,.c (.mp 6)),(17,.c (.ptr 7 0)),(19,.c (.sl 8 7 0 k)),(61,listV encI 1 A),(62,iV (A.length:Nat)),(63,iV (i:Nat))] (ldH D [.pin 0 b,.cells 31 [.p (.i .i64 kd),.p (.s ru),.p (.i .i64 ve),.p (listP enc2 2 L),.p (.i .i64 st),.p (.i .i64 se),.p (.s ⟨#[]⟩)],.mapb (okK Try.prog 3) nw,.cells 79 [.p (.s ru),.p (.i .i64 ve),.p (.s tx)],.row 31 7 k (rowW out)])) D nw 0 0 [] 0 0):=by
    refine (weak_closeM (id:=8) (m:=9) (k0:=gKey ru ve tx) (n:=S.length) (h:=rowC encI S) (D.gs (gKey ru ve tx)).2 (by rfl) (by rfl) (fun e o he ho => (congrArg C.p (s2 e o he ho)).symm)).trans ?_
    rw [setG_self _ _ _ s1]
    refine (weak_frz (j:=61) (id:=4) (ty:=3) (sz:=1) (n:=A.length) (off:=0) (len:=A.length) (f:=rowC encI A) (by kernel_rfl) (by kernel_rfl) (by omega) (fun _ _ _ _ => rfl)).trans ?_
    refine (weak_nil 31 7 (rowW []) 19 (by kernel_rfl)).trans ?_
    refine (weak_proj [5,6,7,8,0,1,2,3,10] (msk 95 [0,13,14,17,19,61,62,63]) (by kernel_rfl) _).trans ?_
    exact (weak_of_eq (st':=(fun D nw kd st k i => (fun F => cst 95 [(0,.c (.ptr 4 0)),(13,.c (.ptr 5 0)),(14,.c (.mp 6)),(17,.c (.ptr 7 0)),(19,.c (.sl 8 7 0 k)),(61,listV encI 1 A),(62,iV (A.length:Nat)),(63,iV (i:Nat))] (ldH D [.pin 0 b,.cells 31 [.p (.i .i64 kd),.p (.s ru),.p (.i .i64 ve),.p (listP enc2 2 L),.p (.i .i64 st),.p (.i .i64 se),.p (.s ⟨#[]⟩)],.mapb (okK Try.prog 3) nw,.cells 79 [.p (.s ru),.p (.i .i64 ve),.p (.s tx)],.row 31 7 k F])) fun e o => renC [5,6,7,8,0,1,2,3,10] (rowW [] e o)) D nw 0 0 0 0) (by kernel_rfl)).trans (amW_cst _ (fun e o he _ => absurd he (Nat.not_lt_zero _)))
   refine ExZ.pre ((weak_of_eq (by kernel_rfl)).trans w2) ?_
   clear w2
   refine ExZ.loop' (l:=dropL 4 (dropL 1 (dropL 7 (pcs Try.prog Try.f17)))) (b:=inr (inr (nth .skip (pcs Try.prog Try.f17) 12))) (r:=dropL 13 (pcs Try.prog Try.f17)) (id:=2) (by kernel_rfl) (σ:=Nat × Ld × List Pg × Int × Int)
     (fun (i,D,out,kd,st) => (fun D nw kd st out k i => cst 95 [(0,.c (.ptr 4 0)),(13,.c (.ptr 5 0)),(14,.c (.mp 6)),(17,.c (.ptr 7 0)),(19,.c (.sl 8 7 0 k)),(61,listV encI 1 A),(62,iV (A.length:Nat)),(63,iV (i:Nat))] (ldH D [.pin 0 b,.cells 31 [.p (.i .i64 kd),.p (.s ru),.p (.i .i64 ve),.p (listP enc2 2 L),.p (.i .i64 st),.p (.i .i64 se),.p (.s ⟨#[]⟩)],.mapb (okK Try.prog 3) nw,.cells 79 [.p (.s ru),.p (.i .i64 ve),.p (.s tx)],.row 31 7 k (rowW out)])) D nw kd st out out.length i) (fun (i,D',out,_,_) => i≤A.length∧(D',out)=amFold T ru ve L se D (A.take i)∧out.length≤i∧D'.M.length≤D.M.length+i∧(D'.gs (gKey ru ve tx)).1≤S.length+i) (fun (i,_) => A.length - i) (0,D,[],0,0) ⟨Nat.zero_le _,rfl,Nat.zero_le _,Nat.le_refl _,by rw [s1];exact Nat.le_refl _⟩ (WeakS.refl _) ?_
   rintro ⟨i,D',out,kd,st⟩ ⟨i1,i2,i3,i4,i5⟩ Q1 q1n q1e -
   refine ExZ.evK (keep:=msk 95 [0,13,14,17,19,61,62,63]) (extAmN_sound D') (tAmW5 D' b i out.length kd ve st se ru tx L A out nw) ?_
   simp only [holds_bT,holds_rq,holds_leaf,kz_normal,kz_exit,decide_eq_true_eq,decide_eq_false_iff_not,inR,show ∀ x:Nat,x+0=x from fun _ => rfl,Int.toNat_natCast,dec2_row]
   refine ⟨fun hlt => ?_,fun hge => ⟨?_⟩⟩
   · have hlt:i<A.length:=by omega
     have hm:=getD_memI hlt
     have hs:=takeD hlt
     have hin:=hAt _ hm
     generalize A.getD i default=t at hm hs hin
     have hk:=hmk t hin
     have hst:amFold T ru ve L se D (A.take (i+1))=amStep T ru ve L se (D',out) t:=by rw [hs,amFold_snoc,← i2]
     have hFit:∀ kd,Fits D' ⟨kd,ru,ve,L,t,se,⟨#[]⟩⟩:=fun kd => by
      refine ⟨?_,?_,?_,?_,?_,?_⟩
      · rw [htx] at hk;exact hk
      · rw [htx] at hgk;exact hgk
      · rw [htx] at t1;exact t1
      · exact t4
      · omega
      · rw [htx] at i5;show (D'.gs (gKey ru ve (textLb L))).1≤_;omega
     have hgr:∀ kd,((ladd D' ⟨kd,ru,ve,L,t,se,⟨#[]⟩⟩).gs (gKey ru ve tx)).1≤S.length+(i+1):=fun kd => by
      have:((ladd D' ⟨kd,ru,ve,L,t,se,⟨#[]⟩⟩).gs (gKey ru ve tx)).1≤(D'.gs (gKey ru ve tx)).1+1:=by rw [htx];exact ladd_gs D' ⟨kd,ru,ve,L,t,se,⟨#[]⟩⟩
      omega
     have hML:∀ kd,(ladd D' ⟨kd,ru,ve,L,t,se,⟨#[]⟩⟩).M.length≤D.M.length+(i+1):=fun kd => by
      unfold ladd
      simp
      omega
     unfold amStep at hst
     rw [← htx,← hnw] at hst
     refine ⟨⟨by omega,by omega⟩,⟨trivial,hk⟩,⟨trivial,okIn_of _ hin⟩,fun he => ⟨by omega,⟨?_⟩⟩,fun he => ⟨fun hp => ⟨⟨isL_row _ _ _,⟨trivial,trivial,trivial,trivial,trivial,trivial,trivial⟩,hFit _⟩,⟨isL_row _ _ _,hL,t4⟩,trivial,Nat.le_refl _,⟨by omega,by omega,pgS_one ⟨1,ru,ve,L,t,se,⟨#[]⟩⟩ 14⟩,by omega,⟨?_⟩⟩,fun hp => ⟨⟨isL_row _ _ _,⟨trivial,trivial,trivial,trivial,trivial,trivial,trivial⟩,hFit _⟩,⟨isL_row _ _ _,hL,t4⟩,trivial,Nat.le_refl _,⟨by omega,by omega,pgS_one ⟨2,ru,ve,L,t,se,⟨#[]⟩⟩ 14⟩,by omega,⟨?_⟩⟩⟩⟩
     · have he:((D'.gp (mKey ru ve tx t)).getD false == (nw (.int .i64 t)).getD false)=true:=he
       have hst:amFold T ru ve L se D (A.take (i+1))=(D',out):=by
        rw [hst]
        revert he
        cases (D'.gp (mKey ru ve tx t)).getD false <;> cases (nw (.int .i64 t)).getD false <;> intro he <;> first | rfl | cases he
       refine q1n (i+1,D',out,kd,st) _ ⟨by omega,hst.symm,by omega,by omega,by omega⟩ (by simp only;omega) ?_
       refine (weak_of_eq (st':=(fun D nw kd st k i => (fun F => cst 95 [(0,.c (.ptr 4 0)),(13,.c (.ptr 5 0)),(14,.c (.mp 6)),(17,.c (.ptr 7 0)),(19,.c (.sl 8 7 0 k)),(61,listV encI 1 A),(62,iV (A.length:Nat)),(63,iV (i:Nat))] (ldH D [.pin 0 b,.cells 31 [.p (.i .i64 kd),.p (.s ru),.p (.i .i64 ve),.p (listP enc2 2 L),.p (.i .i64 st),.p (.i .i64 se),.p (.s ⟨#[]⟩)],.mapb (okK Try.prog 3) nw,.cells 79 [.p (.s ru),.p (.i .i64 ve),.p (.s tx)],.row 31 7 k F])) fun e o => renC [0,1,2,3,4,5,6,7,8] (rowW out e o)) D' nw kd st out.length (i+1)) (by kernel_rfl)).trans ?_
       exact amW_cst _ (fun e o _ _ => ren_rowW _ _ _ _)
     · have he:((D'.gp (mKey ru ve tx t)).getD false == (nw (.int .i64 t)).getD false)=false:=he
       have hp:(D'.gp (mKey ru ve tx t)).getD false=true:=hp
       have hst:amFold T ru ve L se D (A.take (i+1))=(ladd D' ⟨1,ru,ve,L,t,se,⟨#[]⟩⟩,out ++ [⟨1,ru,ve,L,t,se,⟨#[]⟩⟩]):=by
        rw [hst]
        rw [hp] at he ⊢
        revert he
        cases (nw (.int .i64 t)).getD false <;> intro he <;> first | rfl | cases he
       refine q1n (i+1,ladd D' ⟨1,ru,ve,L,t,se,⟨#[]⟩⟩,out ++ [⟨1,ru,ve,L,t,se,⟨#[]⟩⟩],1,t) _ ⟨by omega,hst.symm,by simp;omega,hML 1,hgr 1⟩ (by simp only;omega) ?_
       show WeakS G _ ((fun D nw kd st out k i => cst 95 [(0,.c (.ptr 4 0)),(13,.c (.ptr 5 0)),(14,.c (.mp 6)),(17,.c (.ptr 7 0)),(19,.c (.sl 8 7 0 k)),(61,listV encI 1 A),(62,iV (A.length:Nat)),(63,iV (i:Nat))] (ldH D [.pin 0 b,.cells 31 [.p (.i .i64 kd),.p (.s ru),.p (.i .i64 ve),.p (listP enc2 2 L),.p (.i .i64 st),.p (.i .i64 se),.p (.s ⟨#[]⟩)],.mapb (okK Try.prog 3) nw,.cells 79 [.p (.s ru),.p (.i .i64 ve),.p (.s tx)],.row 31 7 k (rowW out)])) (ladd D' ⟨1,ru,ve,L,t,se,⟨#[]⟩⟩) nw 1 t (out ++ [⟨1,ru,ve,L,t,se,⟨#[]⟩⟩]) (out ++ [(⟨1,ru,ve,L,t,se,⟨#[]⟩⟩:Pg)]).length (i+1))
       rw [show (out ++ [(⟨1,ru,ve,L,t,se,⟨#[]⟩⟩:Pg)]).length=out.length+1 by simp]
       refine (weak_foc (id:=16) (sz:=7) (e0:=out.length) (vs:=pgS (⟨1,ru,ve,L,t,se,⟨#[]⟩⟩:Pg) 14) rfl (by omega) rfl (fun o ho => pgS_app out (⟨1,ru,ve,L,t,se,⟨#[]⟩⟩:Pg) 14 _ ho)).trans ((weak_close (id:=16) (m:=14) (sz:=7) (sz':=2) (e0:=out.length) (k0:=3) (g:=rowP enc2 L) rfl rfl (fun e o he ho => rfl) (by decide) rfl (fun o ho h3 => pgS_own (⟨1,ru,ve,L,t,se,⟨#[]⟩⟩:Pg) 14 ho h3)).trans ((weak_proj [0,11,12,13,4,5,6,7,16] (msk 95 [0,13,14,17,19,61,62,63]) (by kernel_rfl) _).trans ?_))
       refine (weak_of_eq (st':=(fun D nw kd st k i => (fun F => cst 95 [(0,.c (.ptr 4 0)),(13,.c (.ptr 5 0)),(14,.c (.mp 6)),(17,.c (.ptr 7 0)),(19,.c (.sl 8 7 0 k)),(61,listV encI 1 A),(62,iV (A.length:Nat)),(63,iV (i:Nat))] (ldH D [.pin 0 b,.cells 31 [.p (.i .i64 kd),.p (.s ru),.p (.i .i64 ve),.p (listP enc2 2 L),.p (.i .i64 st),.p (.i .i64 se),.p (.s ⟨#[]⟩)],.mapb (okK Try.prog 3) nw,.cells 79 [.p (.s ru),.p (.i .i64 ve),.p (.s tx)],.row 31 7 k F])) fun e o => renC [0,11,12,13,4,5,6,7,16] (if e=out.length then (if o=3 then .own 56 2 L.length (rowP enc2 L) else nth .top (pgS (⟨1,ru,ve,L,t,se,⟨#[]⟩⟩:Pg) 14) o) else renC [0,1,2,3,4,5,6,7,8,9,10,11,12,13,14,15,16] (appF out.length (rowW out) (fun e o => nth .top (pgS (⟨1,ru,ve,L,t,se,⟨#[]⟩⟩:Pg) 14) ((e+0) * 7+o)) e o))) (ladd D' (⟨1,ru,ve,L,t,se,⟨#[]⟩⟩:Pg)) nw 1 t (out.length+1) (i+1)) (by kernel_rfl)).trans ?_
       exact amW_cst _ (fun e o he ho => rowW_step (p:=(⟨1,ru,ve,L,t,se,⟨#[]⟩⟩:Pg)) rfl hL he ho)
     · have he:((D'.gp (mKey ru ve tx t)).getD false == (nw (.int .i64 t)).getD false)=false:=he
       have hp:(D'.gp (mKey ru ve tx t)).getD false=false:=hp
       have hst:amFold T ru ve L se D (A.take (i+1))=(ladd D' ⟨2,ru,ve,L,t,se,⟨#[]⟩⟩,out ++ [⟨2,ru,ve,L,t,se,⟨#[]⟩⟩]):=by
        rw [hst]
        rw [hp] at he ⊢
        revert he
        cases (nw (.int .i64 t)).getD false <;> intro he <;> first | rfl | cases he
       refine q1n (i+1,ladd D' ⟨2,ru,ve,L,t,se,⟨#[]⟩⟩,out ++ [⟨2,ru,ve,L,t,se,⟨#[]⟩⟩],2,t) _ ⟨by omega,hst.symm,by simp;omega,hML 2,hgr 2⟩ (by simp only;omega) ?_
       show WeakS G _ ((fun D nw kd st out k i => cst 95 [(0,.c (.ptr 4 0)),(13,.c (.ptr 5 0)),(14,.c (.mp 6)),(17,.c (.ptr 7 0)),(19,.c (.sl 8 7 0 k)),(61,listV encI 1 A),(62,iV (A.length:Nat)),(63,iV (i:Nat))] (ldH D [.pin 0 b,.cells 31 [.p (.i .i64 kd),.p (.s ru),.p (.i .i64 ve),.p (listP enc2 2 L),.p (.i .i64 st),.p (.i .i64 se),.p (.s ⟨#[]⟩)],.mapb (okK Try.prog 3) nw,.cells 79 [.p (.s ru),.p (.i .i64 ve),.p (.s tx)],.row 31 7 k (rowW out)])) (ladd D' ⟨2,ru,ve,L,t,se,⟨#[]⟩⟩) nw 2 t (out ++ [⟨2,ru,ve,L,t,se,⟨#[]⟩⟩]) (out ++ [(⟨2,ru,ve,L,t,se,⟨#[]⟩⟩:Pg)]).length (i+1))
       rw [show (out ++ [(⟨2,ru,ve,L,t,se,⟨#[]⟩⟩:Pg)]).length=out.length+1 by simp]
       refine (weak_foc (id:=16) (sz:=7) (e0:=out.length) (vs:=pgS (⟨2,ru,ve,L,t,se,⟨#[]⟩⟩:Pg) 14) rfl (by omega) rfl (fun o ho => pgS_app out (⟨2,ru,ve,L,t,se,⟨#[]⟩⟩:Pg) 14 _ ho)).trans ((weak_close (id:=16) (m:=14) (sz:=7) (sz':=2) (e0:=out.length) (k0:=3) (g:=rowP enc2 L) rfl rfl (fun e o he ho => rfl) (by decide) rfl (fun o ho h3 => pgS_own (⟨2,ru,ve,L,t,se,⟨#[]⟩⟩:Pg) 14 ho h3)).trans ((weak_proj [0,11,12,13,4,5,6,7,16] (msk 95 [0,13,14,17,19,61,62,63]) (by kernel_rfl) _).trans ?_))
       refine (weak_of_eq (st':=(fun D nw kd st k i => (fun F => cst 95 [(0,.c (.ptr 4 0)),(13,.c (.ptr 5 0)),(14,.c (.mp 6)),(17,.c (.ptr 7 0)),(19,.c (.sl 8 7 0 k)),(61,listV encI 1 A),(62,iV (A.length:Nat)),(63,iV (i:Nat))] (ldH D [.pin 0 b,.cells 31 [.p (.i .i64 kd),.p (.s ru),.p (.i .i64 ve),.p (listP enc2 2 L),.p (.i .i64 st),.p (.i .i64 se),.p (.s ⟨#[]⟩)],.mapb (okK Try.prog 3) nw,.cells 79 [.p (.s ru),.p (.i .i64 ve),.p (.s tx)],.row 31 7 k F])) fun e o => renC [0,11,12,13,4,5,6,7,16] (if e=out.length then (if o=3 then .own 56 2 L.length (rowP enc2 L) else nth .top (pgS (⟨2,ru,ve,L,t,se,⟨#[]⟩⟩:Pg) 14) o) else renC [0,1,2,3,4,5,6,7,8,9,10,11,12,13,14,15,16] (appF out.length (rowW out) (fun e o => nth .top (pgS (⟨2,ru,ve,L,t,se,⟨#[]⟩⟩:Pg) 14) ((e+0) * 7+o)) e o))) (ladd D' (⟨2,ru,ve,L,t,se,⟨#[]⟩⟩:Pg)) nw 2 t (out.length+1) (i+1)) (by kernel_rfl)).trans ?_
       exact amW_cst _ (fun e o he ho => rowW_step (p:=(⟨2,ru,ve,L,t,se,⟨#[]⟩⟩:Pg)) rfl hL he ho)
   · obtain rfl:i=A.length:=by omega
     rw [List.take_length] at i2
     refine q1e _ ?_
     rw [← i2]
     dsimp only
     refine ExZ.pre (st2:=(fun D b out => cst 95 [(0,.c (.ptr 0 0)),(19,.c (.sl 5 7 0 out.length))] (ldE D b ++ [.row 31 7 out.length (rowW out)])) D' b out) ((weak_proj [4,0,1,2,3,8] (msk 95 [0,19]) (by kernel_rfl) _).trans ((weak_of_eq (st':=(fun F => cst 95 [(0,.c (.ptr 0 0)),(19,.c (.sl 5 7 0 out.length))] [.pin 1 b,.cells 86 [.sl 2 7 0 D'.M.length,.mp 3,.mp 4],.row 31 7 D'.M.length (rowC encPg D'.M),.mapb (okK Try.prog 81) D'.gp,.mapl (okK Try.prog 79) 3 1 D'.gs none,.row 31 7 out.length F]) fun e o => renC [4,0,1,2,3,8] (renC [0,1,2,3,4,5,6,7,8] (rowW out e o))) (by kernel_rfl)).trans (amW_end _ fun e o _ _ => (congrArg (renC _) (ren_rowW _ _ _ _)).trans (ren_rowW _ _ _ _)))) ?_
     refine ExZ.evH (keep:=[]) ext0_sound (tAmW6 D' b out) ?_
     simp only [holds_leaf,kz_ret]
     exact ⟨(weak_proj [0,2,3,4,5,1] [true,true] (by kernel_rfl) _).trans ((weak_of_eq (st':=(fun F => cst 2 [(0,.c (.ptr 0 0)),(1,.c (.sl 5 7 0 out.length))] [.pin 1 b,.cells 86 [.sl 2 7 0 D'.M.length,.mp 3,.mp 4],.row 31 7 D'.M.length (rowC encPg D'.M),.mapb (okK Try.prog 81) D'.gp,.mapl (okK Try.prog 79) 3 1 D'.gs none,.row 31 7 out.length F]) fun e o => renC [0,2,3,4,5,1] (renC [0,5,1,2,3,4] (rowW out e o))) (by kernel_rfl)).trans (amW_end _ fun e o _ _ => (congrArg (renC _) (ren_rowW _ _ _ _)).trans (ren_rowW _ _ _ _)))⟩
end
end Go.AE
namespace Go.AE
set_option linter.unusedVariables false
set_option linter.unusedSimpArgs false
open Go.Proofs Go.Proofs.Ytfjihbmehhccoaa Gp Go.RowKit
noncomputable def mAmendW (D D':Ld) (M:List Pg) (p:Pg) (T:List Int) (M' out:List Pg):ModH
 | [.c (.ptr j 0),.c (.p (.s ru)),.c (.p (.i .i64 ve)),x,y,.c (.p (.i .i64 se))],h => match isLdG D j h,leLb x p.L,leI y T with
   | some (q,r,a,b),some s,some t => some ((((s∧q)∧t)∧ru=p.ru∧ve=p.ve∧se=p.se)∧(OkM M∧inR .i64 p.ve∧T.length≤50000∧0<p.L.length∧pgOK ⟨0,p.ru,p.ve,p.L,0,p.se,⟨#[]⟩⟩=true∧T.all tickZ=true)∧amZ M p T=(M',out)∧D=repD M∧D'=repD M',.c (.sl (lenL h+5) 7 0 out.length),snoc (.row 31 7 out.length (rowW out)) (outH [j,r,a,b] [j] [1] h (ldE D' 0)))
   | _,_,_ => none
 | _,_ => none
theorem amFold_rep {M:List Pg} {p:Pg} {T S:List Int} (hA:AmRel M p T S) (h1:pgOK ⟨0,p.ru,p.ve,p.L,0,p.se,⟨#[]⟩⟩=true) (h2:T.all tickZ=true):amFold T p.ru p.ve p.L p.se (repD M) (compI (sortI (S ++ T)))=(repD (amZ M p T).1,(amZ M p T).2):=by
 obtain ⟨_,_,_,_,k5⟩:=hA
 have e:(lamend (repD M) p.ru p.ve p.L S T p.se).2=(amFold T p.ru p.ve p.L p.se (repD M) (compI (sortI (S ++ T)))).1:=by
  unfold lamend
  rw [h1,h2]
 rw [e] at k5
 refine Prod.ext k5 ?_
 obtain ⟨Y,hY⟩:=amFold_ladd T p.ru p.ve p.L p.se (compI (sortI (S ++ T))) (repD M) []
 have hY:amFold T p.ru p.ve p.L p.se (repD M) (compI (sortI (S ++ T)))=(Y.foldl ladd (repD M),[] ++ Y):=hY
 rw [hY] at k5 ⊢
 have k6:=congrArg Ld.M k5
 rw [repD_M] at k6
 have k7:(Y.foldl ladd (repD M)).M=M ++ Y:=by rw [fold_M,repD_M]
 have k8:M ++ Y=M ++ (amZ M p T).2:=by rw [← amZ_pair,← k6];exact k7.symm
 show [] ++ Y=_
 rw [List.nil_append]
 exact List.append_cancel_left k8
section
variable {G:Nat→Option Obj}
set_option maxRecDepth 100000 in
theorem okAmendW (D D':Ld) (M:List Pg) (p:Pg) (T:List Int) (M' out:List Pg):ModHOK Try.prog G 17 (mAmendW D D' M p T M' out):=by
 intro args h p0 v h' hm hp
 unfold mAmendW at hm
 split at hm;rotate_left;· cases hm
 split at hm;rotate_left;· cases hm
 rename_i j ru ve x y se _ _ _ q r a b s t hl hx hy
 obtain ⟨rfl,rfl,rfl⟩:=some_three hm
 obtain ⟨⟨⟨⟨hr,hq⟩,hs⟩,rfl,rfl,rfl⟩,⟨hM,hve,hT,hL,hok,hTa⟩,he,rfl,rfl⟩:=hp
 obtain ⟨g,q1,q2,q3,q4,hg⟩:=isLdG_eq hl hq
 obtain ⟨S,hA⟩:=lamend_rep hM p T hve
 have hF:=amFold_rep hA hok hTa
 rw [he] at hF
 obtain ⟨k1,k2,k3,_,_⟩:=hA
 obtain ⟨m1,m2,m3,_⟩:=pgOK_iff.1 hok
 have hm:=amend_mainW (G:=G) (repD M) p.ru p.ve p.L S T p.se hL k1 hok hTa (by
  have t1:p.ru.size≤1000000:=by have:p.ru.size≤16:=name_sz m1;omega
  have t2:(textLb p.L).size≤1000000:=by have:(textLb p.L).size≤1000:=valid_text m3;omega
  have t3:p.L.length≤8:=(validLb_at m3).1
  have t4:=hM.2
  exact ⟨t2,t1,hve,by omega,fun t ht => tick_in (k3 hok t ht),by omega,by rw [repD_M];omega⟩) (by omega) []
 rw [hF] at hm
 have h0:=led_fnGW (W:=[.row 31 7 out.length (rowW out)]) (args:=[.c (.p (.s p.ru)),iV p.ve,listV enc2 2 p.L,listV encI 1 T,iV p.se]) (vs:=[.c (.sl 5 7 0 out.length)]) (D':=repD M') Try.func17 (by kernel_rfl) q1 q2 q3 q4 hg rfl fun b => hm b _
 rw [lenL_eq,← out_rowW]
 exact FnS.args (args':=[.c (.ptr j 0),.c (.p (.s p.ru)),iV p.ve,listV enc2 2 p.L,listV encI 1 T,iV p.se]) h0 (.cons (.refl _) (.cons (.refl _) (.cons (.refl _) (.cons (leLb_le hx hr) (.cons (leI_le hy hs) (.cons (.refl _) .nil))))))
end
end Go.AE
namespace Go.AE
set_option linter.unusedVariables false
set_option linter.unusedSimpArgs false
open Go.Proofs Go.Proofs.Ytfjihbmehhccoaa Gp Go.RowKit
noncomputable def extPa3 (D D1:Ld) (M M1:List Pg) (p:Pg):Ext:=extH [(25,mFireG D D1 M p M1 0)]
noncomputable def extPa4 (D1 D2:Ld) (M1 M2 out:List Pg) (q:Pg) (T:List Int):Ext:=extH [(15,liftM (mGStartsX T)),(17,mAmendW D1 D2 M1 q T M2 out)]
noncomputable def extPa7 (D:Ld) (M:List Pg):Ext:=extH [(26,mAllW D M)]
noncomputable def extPa11 (D:Ld) (M2 M:List Pg) (p:Pg) (U:List Int):Ext:=extH [(16,mValidG D M2 p U),(28,liftM (mGPaged M)),(27,liftM mSameT)]
noncomputable def extPa12 (D:Ld) (M2:List Pg):Ext:=extH [(26,mAllG D M2),(23,liftM mEqT),(19,liftM mLives31)]
theorem tPa1 (A B:List Int) (M:List Pg) (D:Ld):exTs (extS1 M D) (takeL 5 (pcs Try.prog Try.f6)) (st0 Try.f6 [listV encI 1 A,listV encI 1 B]) (endG (msk 129 [1,5,6]) (resOf Try.prog Try.f6))=Tr.rq
 (IsL encI 1 (decL decI A.length (rowP encI A)) A.length (rowP encI A) ∧
 (∀ (t:Int),t∈decL decI A.length (rowP encI A)→inR IntKind.i64 t)∧(decL decI A.length (rowP encI A)).length≤9223372036854775807∧ofZ (decL decI A.length (rowP encI A))=M)
 (.rq ((M.length=M.length∧∀ (e o:Nat),e<M.length→o<7→PLe (rowP encPg M e o) (rowP encPg M e o))∧(Leg M∧M.length≤50000)∧D=repD M)
 (.done .normal
 (cst 129 [(1,.c (.p (.l 1 B.length (rowP encI B)))),(5,.c (.ptr 0 0)),(6,.c (.ptr 1 0))] [.cells 27 [.p (.l 7 M.length (rowP encPg M))],.cells 86 [.sl 2 7 0 D.M.length,.mp 3,.mp 4],.row 31 7 D.M.length fun e o => renC [0,1,2,3,4] (C.p (rowP encPg D.M e o)),.mapb (okK Try.prog 81) D.gp,.mapl (okK Try.prog 79) 3 1 D.gs none]))):=by kernel_rfl
theorem tPa2 (B:List Int) (M:List Pg) (D:Ld):exTs ext0 (takeL 1 (dropL 5 (pcs Try.prog Try.f6))) (cst 129 [(1,listV encI 1 B),(5,.c (.ptr 4 0)),(6,.c (.ptr 0 0))] (ldH D [.cells 27 [.p (listP encPg 7 M)]])) (endG (msk 129 [1,5,6,7]) (resOf Try.prog Try.f6))=Tr.done X.normal
 (cst 129 [(1,.c (.p (.l 1 B.length (rowP encI B)))),(5,.c (.ptr 0 0)),(6,.c (.ptr 1 0)),(7,.c (.ptr 2 0))] [.cells 27 [.p (.l 7 M.length (rowP encPg M))],.cells 86 [.sl 3 7 0 D.M.length,.mp 4,.mp 5],.cells 31 [.p (.i .i64 0),.p (.s (ByteArray.mk #[111,116,104,101,114])),.p (.i .i64 3),.sl 6 2 0 1,.p (.i .i64 4),.p (.i .i64 5),.p (.s (ByteArray.mk #[]))],.row 31 7 D.M.length fun e o => renC [4,0,6,1,2,3,5] (rowC encPg D.M e o),.mapb (okK Try.prog 81) D.gp,.mapl (okK Try.prog 79) 3 1 D.gs none,.row 56 2 1 fun e o => renC [4,0,6,1,2,3,5] (nth C.top [C.p (PV.s (ByteArray.mk #[104,111,115,116])),C.p (PV.s (ByteArray.mk #[113]))] (e * 2+o))]):=by kernel_rfl
theorem tPa3 (B:List Int) (M M1:List Pg) (p:Pg) (D D1:Ld):exTs (extPa3 D D1 M M1 p) (takeL 2 (dropL 1 (dropL 5 (pcs Try.prog Try.f6)))) (cst 129 [(1,listV encI 1 B),(5,.c (.ptr 4 0)),(6,.c (.ptr 0 0)),(7,.c (.ptr 5 0))] (ldH D [.cells 27 [.p (listP encPg 7 M)],.cells 31 [.p (.i .i64 p.kd),.p (.s p.ru),.p (.i .i64 p.ve),.p (listP enc2 2 p.L),.p (.i .i64 p.st),.p (.i .i64 p.se),.p (.s p.to)]])) (endG (msk 129 [1,5,6,7]) (resOf Try.prog Try.f6))=Tr.rq
 (((IsL enc2 2 (decL dec2 p.L.length (rowP enc2 p.L)) p.L.length (rowP enc2 p.L)∧Pg.mk p.kd p.ru p.ve (decL dec2 p.L.length (rowP enc2 p.L)) p.st p.se p.to=p) ∧
 D.M.length=D.M.length ∧
 D.M.length=D.M.length ∧
 (∀ (e o:Nat),e<D.M.length→o<7→rowC encPg D.M e o=rowC encPg D.M e o)∧okK Try.prog 81=okK Try.prog 81∧D.gp=D.gp∧okK Try.prog 79=okK Try.prog 79∧D.gs=D.gs) ∧
 (OkM M∧inR IntKind.i64 p.ve)∧frZ M p=(M1,0)∧D=repD M∧D1=repD M1)
 (.done .normal
 (cst 129 [(1,.c (.p (.l 1 B.length (rowP encI B)))),(5,.c (.ptr 0 0)),(6,.c (.ptr 1 0)),(7,.c (.ptr 2 0))] [.cells 27 [.p (.l 7 M.length (rowP encPg M))],.cells 86 [.sl 3 7 0 D1.M.length,.mp 4,.mp 5],.cells 31 [.p (.i .i64 p.kd),.p (.s p.ru),.p (.i .i64 p.ve),.p (.l 2 p.L.length (rowP enc2 p.L)),.p (.i .i64 p.st),.p (.i .i64 p.se),.p (.s p.to)],.row 31 7 D1.M.length fun e o => renC [4,0,5,8,9,10] (C.p (rowP encPg D1.M e o)),.mapb (okK Try.prog 81) D1.gp,.mapl (okK Try.prog 79) 3 1 D1.gs none])):=by kernel_rfl
theorem tPa4 (B T:List Int) (M M1 M2 out:List Pg) (p q:Pg) (D1 D2:Ld):exTs (extPa4 D1 D2 M1 M2 out q T) (takeL 2 (dropL 2 (dropL 1 (dropL 5 (pcs Try.prog Try.f6))))) (cst 129 [(1,listV encI 1 B),(5,.c (.ptr 4 0)),(6,.c (.ptr 0 0)),(7,.c (.ptr 5 0))] (ldH D1 [.cells 27 [.p (listP encPg 7 M)],.cells 31 [.p (.i .i64 p.kd),.p (.s p.ru),.p (.i .i64 p.ve),.p (listP enc2 2 p.L),.p (.i .i64 p.st),.p (.i .i64 p.se),.p (.s p.to)]])) (endG (msk 129 [5,6,8,9]) (resOf Try.prog Try.f6))=Tr.rq
 (IsL encI 1 (decL decI B.length (rowP encI B)) B.length (rowP encI B) ∧
 (∀ (t:Int),t∈decL decI B.length (rowP encI B)→inR IntKind.i64 t)∧inPos 0∧startsZ (decL decI B.length (rowP encI B)) 0=T)
 (.rq
 (((((IsL enc2 2 (decL dec2 p.L.length (rowP enc2 p.L)) p.L.length (rowP enc2 p.L)∧decL dec2 p.L.length (rowP enc2 p.L)=q.L) ∧
 D1.M.length=D1.M.length ∧
 D1.M.length=D1.M.length ∧
 (∀ (e o:Nat),e<D1.M.length→o<7→rowC encPg D1.M e o=rowC encPg D1.M e o) ∧
 okK Try.prog 81=okK Try.prog 81∧D1.gp=D1.gp∧okK Try.prog 79=okK Try.prog 79∧D1.gs=D1.gs) ∧
 IsL encI 1 T T.length (rowP encI T)) ∧
 p.ru=q.ru∧p.ve=q.ve∧9=q.se) ∧
 (OkM M1∧inR IntKind.i64 q.ve∧T.length≤50000∧0<q.L.length∧pgOK (Pg.mk 0 q.ru q.ve q.L 0 q.se (ByteArray.mk #[]))=true∧T.all tickZ=true) ∧
 amZ M1 q T=(M2,out)∧D1=repD M1∧D2=repD M2)
 (.done .normal
 (cst 129 [(5,.c (.ptr 0 0)),(6,.c (.ptr 1 0)),(8,.c (.sl 2 7 0 out.length)),(9,.c (.p (.i .i64 0)))] [.cells 27 [.p (.l 7 M.length (rowP encPg M))],.cells 86 [.sl 3 7 0 D2.M.length,.mp 4,.mp 5],.row 31 7 out.length fun e o => renC [4,0,11,8,9,10] (rowW out e o),.row 31 7 D2.M.length fun e o => renC [4,0,11,8,9,10] (C.p (rowP encPg D2.M e o)),.mapb (okK Try.prog 81) D2.gp,.mapl (okK Try.prog 79) 3 1 D2.gs none]))):=by kernel_rfl
theorem tPa6a (M out:List Pg) (D2:Ld) (n i:Nat):exTs ext0 (takeL 2 (lpB (pcs Try.prog Try.f6) 10)) (cst 129 [(5,.c (.ptr 4 0)),(6,.c (.ptr 0 0)),(8,.c (.sl 5 7 0 n)),(9,iV (i:Nat))] (ldH D2 [.cells 27 [.p (listP encPg 7 M)],.row 31 7 n (rowW out)])) (endG (msk 129 [5,6,8,9]) (resOf Try.prog Try.f6))=bT (decide ((↑i:Int)<(↑n:Int)))
 (.done .normal
 (cst 129 [(5,.c (.ptr 0 0)),(6,.c (.ptr 1 0)),(8,.c (.sl 2 7 0 n)),(9,.c (.p (.i .i64 (↑i:Int))))] [.cells 27 [.p (.l 7 M.length (rowP encPg M))],.cells 86 [.sl 3 7 0 D2.M.length,.mp 4,.mp 5],.row 31 7 n fun e o => renC [4,0,5,1,2,3] (rowW out e o),.row 31 7 D2.M.length fun e o => renC [4,0,5,1,2,3] (rowC encPg D2.M e o),.mapb (okK Try.prog 81) D2.gp,.mapl (okK Try.prog 79) 3 1 D2.gs none]))
 (.done (.exit 0)
 (cst 129 [(5,.c (.ptr 0 0)),(6,.c (.ptr 1 0)),(8,.c (.sl 2 7 0 n)),(9,.c (.p (.i .i64 (↑i:Int))))] [.cells 27 [.p (.l 7 M.length (rowP encPg M))],.cells 86 [.sl 3 7 0 D2.M.length,.mp 4,.mp 5],.row 31 7 n fun e o => renC [4,0,5,1,2,3] (rowW out e o),.row 31 7 D2.M.length fun e o => renC [4,0,5,1,2,3] (rowC encPg D2.M e o),.mapb (okK Try.prog 81) D2.gp,.mapl (okK Try.prog 79) 3 1 D2.gs none])):=by kernel_rfl
theorem tPa6n (M out:List Pg) (D2:Ld) (p:Pg) (n i:Nat):exTs ext0 (dropL 2 (lpB (pcs Try.prog Try.f6) 10)) (cst 129 [(5,.c (.ptr 4 0)),(6,.c (.ptr 0 0)),(8,.c (.sl 5 7 0 n)),(9,iV (i:Nat))] (ldH D2 [.cells 27 [.p (listP encPg 7 M)],.foc 31 7 n i [.p (.i .i64 p.kd),.p (.s p.ru),.p (.i .i64 p.ve),.sl 6 2 0 p.L.length,.p (.i .i64 p.st),.p (.i .i64 p.se),.p (.s p.to)] (rowW out),.row 56 2 p.L.length (rowC enc2 p.L)])) (endG (msk 129 [5,6,8,9]) (resOf Try.prog Try.f6))=Tr.rq (0≤(↑i:Int)∧(↑i:Int)<(↑n:Int))
 (.rq ((↑i:Int).toNat+0=i)
 (bT (decide (0<(↑p.L.length:Int)))
 (.rq (0≤(↑i:Int)∧(↑i:Int)<(↑n:Int))
 (.rq ((↑i:Int).toNat+0=i)
 (.rq (Int.ofNat 0≤Int.ofNat 0∧0<(↑p.L.length:Int))
 (.rq (0<p.L.length)
 (.rq (inR IntKind.i64 ((↑i:Int)+1))
 (.done .normal
 (cst 129 [(5,.c (.ptr 0 0)),(6,.c (.ptr 1 0)),(8,.c (.sl 2 7 0 n)),(9,.c (.p (.i .i64 ((↑i:Int)+1))))] [.cells 27 [.p (.l 7 M.length (rowP encPg M))],.cells 86 [.sl 3 7 0 D2.M.length,.mp 4,.mp 5],.foc 31 7 n i [C.p (PV.i IntKind.i64 p.kd),C.p (PV.s p.ru),C.p (PV.i IntKind.i64 p.ve),C.sl 6 2 0 p.L.length,C.p (PV.i IntKind.i64 p.st),C.p (PV.i IntKind.i64 p.se),C.p (PV.s p.to)] fun e o => renC [4,0,5,1,2,3,6] (rowW out e o),.row 31 7 D2.M.length fun e o => renC [4,0,5,1,2,3,6] (rowC encPg D2.M e o),.mapb (okK Try.prog 81) D2.gp,.mapl (okK Try.prog 79) 3 1 D2.gs none,.row 56 2 p.L.length fun e o => renC [4,0,5,1,2,3,6] (if e=0 then if 1≤o∧o<2 then nth C.top [C.p (PV.s (ByteArray.mk #[115,112,111,105,108,101,100]))] (o - 1) else rowC enc2 p.L e o else rowC enc2 p.L e o)])))))))
 (.rq (inR IntKind.i64 ((↑i:Int)+1))
 (.done .normal
 (cst 129 [(5,.c (.ptr 0 0)),(6,.c (.ptr 1 0)),(8,.c (.sl 2 7 0 n)),(9,.c (.p (.i .i64 ((↑i:Int)+1))))] [.cells 27 [.p (.l 7 M.length (rowP encPg M))],.cells 86 [.sl 3 7 0 D2.M.length,.mp 4,.mp 5],.foc 31 7 n i [C.p (PV.i IntKind.i64 p.kd),C.p (PV.s p.ru),C.p (PV.i IntKind.i64 p.ve),C.sl 6 2 0 p.L.length,C.p (PV.i IntKind.i64 p.st),C.p (PV.i IntKind.i64 p.se),C.p (PV.s p.to)] fun e o => renC [4,0,5,1,2,3,6] (rowW out e o),.row 31 7 D2.M.length fun e o => renC [4,0,5,1,2,3,6] (rowC encPg D2.M e o),.mapb (okK Try.prog 81) D2.gp,.mapl (okK Try.prog 79) 3 1 D2.gs none,.row 56 2 p.L.length fun e o => renC [4,0,5,1,2,3,6] (rowC enc2 p.L e o)]))))):=by kernel_rfl
theorem tPa7 (M M2:List Pg) (D2:Ld):exTs (extPa7 D2 M2) (takeL 2 (dropL 11 (pcs Try.prog Try.f6))) (cst 129 [(5,.c (.ptr 4 0)),(6,.c (.ptr 0 0))] (ldH D2 [.cells 27 [.p (listP encPg 7 M)]])) (endG (msk 129 [5,6,10,11]) (resOf Try.prog Try.f6))=Tr.rq
 ((D2.M.length=D2.M.length ∧
 D2.M.length=D2.M.length ∧
 (∀ (e o:Nat),e<D2.M.length→o<7→rowC encPg D2.M e o=rowC encPg D2.M e o)∧okK Try.prog 81=okK Try.prog 81∧D2.gp=D2.gp∧okK Try.prog 79=okK Try.prog 79∧D2.gs=D2.gs) ∧
 OkM M2∧D2=repD M2)
 (.done .normal
 (cst 129 [(5,.c (.ptr 0 0)),(6,.c (.ptr 1 0)),(10,.c (.sl 2 7 0 M2.length)),(11,.c (.p (.i .i64 0)))] [.cells 27 [.p (.l 7 M.length (rowP encPg M))],.cells 86 [.sl 3 7 0 D2.M.length,.mp 4,.mp 5],.row 31 7 M2.length fun e o => renC [4,0,10,7,8,9] (rowW M2 e o),.row 31 7 D2.M.length fun e o => renC [4,0,10,7,8,9] (C.p (rowP encPg D2.M e o)),.mapb (okK Try.prog 81) D2.gp,.mapl (okK Try.prog 79) 3 1 D2.gs none])):=by kernel_rfl
theorem tPa8a (M out:List Pg) (D2:Ld) (n i:Nat):exTs ext0 (takeL 2 (lpB (pcs Try.prog Try.f6) 13)) (cst 129 [(5,.c (.ptr 4 0)),(6,.c (.ptr 0 0)),(10,.c (.sl 5 7 0 n)),(11,iV (i:Nat))] (ldH D2 [.cells 27 [.p (listP encPg 7 M)],.row 31 7 n (rowW out)])) (endG (msk 129 [5,6,10,11]) (resOf Try.prog Try.f6))=bT (decide ((↑i:Int)<(↑n:Int)))
 (.done .normal
 (cst 129 [(5,.c (.ptr 0 0)),(6,.c (.ptr 1 0)),(10,.c (.sl 2 7 0 n)),(11,.c (.p (.i .i64 (↑i:Int))))] [.cells 27 [.p (.l 7 M.length (rowP encPg M))],.cells 86 [.sl 3 7 0 D2.M.length,.mp 4,.mp 5],.row 31 7 n fun e o => renC [4,0,5,1,2,3] (rowW out e o),.row 31 7 D2.M.length fun e o => renC [4,0,5,1,2,3] (rowC encPg D2.M e o),.mapb (okK Try.prog 81) D2.gp,.mapl (okK Try.prog 79) 3 1 D2.gs none]))
 (.done (.exit 2)
 (cst 129 [(5,.c (.ptr 0 0)),(6,.c (.ptr 1 0)),(10,.c (.sl 2 7 0 n)),(11,.c (.p (.i .i64 (↑i:Int))))] [.cells 27 [.p (.l 7 M.length (rowP encPg M))],.cells 86 [.sl 3 7 0 D2.M.length,.mp 4,.mp 5],.row 31 7 n fun e o => renC [4,0,5,1,2,3] (rowW out e o),.row 31 7 D2.M.length fun e o => renC [4,0,5,1,2,3] (rowC encPg D2.M e o),.mapb (okK Try.prog 81) D2.gp,.mapl (okK Try.prog 79) 3 1 D2.gs none])):=by kernel_rfl
theorem tPa8n (M out:List Pg) (D2:Ld) (p:Pg) (n i:Nat):exTs ext0 (dropL 2 (lpB (pcs Try.prog Try.f6) 13)) (cst 129 [(5,.c (.ptr 4 0)),(6,.c (.ptr 0 0)),(10,.c (.sl 5 7 0 n)),(11,iV (i:Nat))] (ldH D2 [.cells 27 [.p (listP encPg 7 M)],.foc 31 7 n i [.p (.i .i64 p.kd),.p (.s p.ru),.p (.i .i64 p.ve),.sl 6 2 0 p.L.length,.p (.i .i64 p.st),.p (.i .i64 p.se),.p (.s p.to)] (rowW out),.row 56 2 p.L.length (rowC enc2 p.L)])) (endG (msk 129 [5,6,10,11]) (resOf Try.prog Try.f6))=Tr.rq (0≤(↑i:Int)∧(↑i:Int)<(↑n:Int))
 (.rq ((↑i:Int).toNat+0=i)
 (.rq (0≤(↑i:Int)∧(↑i:Int)<(↑n:Int))
 (.rq ((↑i:Int).toNat+0=i)
 (bT (decide (0<(↑p.L.length:Int)))
 (.rq (0≤(↑i:Int)∧(↑i:Int)<(↑n:Int))
 (.rq ((↑i:Int).toNat+0=i)
 (.rq (Int.ofNat 0≤Int.ofNat 0∧0<(↑p.L.length:Int))
 (.rq (0<p.L.length)
 (.rq (inR IntKind.i64 ((↑i:Int)+1))
 (.done .normal
 (cst 129 [(5,.c (.ptr 0 0)),(6,.c (.ptr 1 0)),(10,.c (.sl 2 7 0 n)),(11,.c (.p (.i .i64 ((↑i:Int)+1))))] [.cells 27 [.p (.l 7 M.length (rowP encPg M))],.cells 86 [.sl 3 7 0 D2.M.length,.mp 4,.mp 5],.foc 31 7 n i [C.p (PV.i IntKind.i64 p.kd),C.p (PV.s p.ru),C.p (PV.i IntKind.i64 p.ve),C.sl 6 2 0 p.L.length,C.p (PV.i IntKind.i64 77),C.p (PV.i IntKind.i64 p.se),C.p (PV.s p.to)] fun e o => renC [4,0,5,1,2,3,6] (rowW out e o),.row 31 7 D2.M.length fun e o => renC [4,0,5,1,2,3,6] (rowC encPg D2.M e o),.mapb (okK Try.prog 81) D2.gp,.mapl (okK Try.prog 79) 3 1 D2.gs none,.row 56 2 p.L.length fun e o => renC [4,0,5,1,2,3,6] (if e=0 then if 1≤o∧o<2 then nth C.top [C.p (PV.s (ByteArray.mk #[115,112,111,105,108,101,100]))] (o - 1) else rowC enc2 p.L e o else rowC enc2 p.L e o)])))))))
 (.rq (inR IntKind.i64 ((↑i:Int)+1))
 (.done .normal
 (cst 129 [(5,.c (.ptr 0 0)),(6,.c (.ptr 1 0)),(10,.c (.sl 2 7 0 n)),(11,.c (.p (.i .i64 ((↑i:Int)+1))))] [.cells 27 [.p (.l 7 M.length (rowP encPg M))],.cells 86 [.sl 3 7 0 D2.M.length,.mp 4,.mp 5],.foc 31 7 n i [C.p (PV.i IntKind.i64 p.kd),C.p (PV.s p.ru),C.p (PV.i IntKind.i64 p.ve),C.sl 6 2 0 p.L.length,C.p (PV.i IntKind.i64 77),C.p (PV.i IntKind.i64 p.se),C.p (PV.s p.to)] fun e o => renC [4,0,5,1,2,3,6] (rowW out e o),.row 31 7 D2.M.length fun e o => renC [4,0,5,1,2,3,6] (rowC encPg D2.M e o),.mapb (okK Try.prog 81) D2.gp,.mapl (okK Try.prog 79) 3 1 D2.gs none,.row 56 2 p.L.length fun e o => renC [4,0,5,1,2,3,6] (rowC enc2 p.L e o)]))))))):=by kernel_rfl
theorem tPa8e (M out:List Pg) (D2:Ld) (p:Pg) (n i:Nat):exTs ext0 (dropL 2 (lpB (pcs Try.prog Try.f6) 13)) (cst 129 [(5,.c (.ptr 4 0)),(6,.c (.ptr 0 0)),(10,.c (.sl 5 7 0 n)),(11,iV (i:Nat))] (ldH D2 [.cells 27 [.p (listP encPg 7 M)],.foc 31 7 n i [.p (.i .i64 p.kd),.p (.s p.ru),.p (.i .i64 p.ve),.p (listP enc2 2 []),.p (.i .i64 p.st),.p (.i .i64 p.se),.p (.s p.to)] (rowW out)])) (endG (msk 129 [5,6,10,11]) (resOf Try.prog Try.f6))=Tr.rq (0≤(↑i:Int)∧(↑i:Int)<(↑n:Int))
 (.rq ((↑i:Int).toNat+0=i)
 (.rq (0≤(↑i:Int)∧(↑i:Int)<(↑n:Int))
 (.rq ((↑i:Int).toNat+0=i)
 (.rq (inR IntKind.i64 ((↑i:Int)+1))
 (.done .normal
 (cst 129 [(5,.c (.ptr 0 0)),(6,.c (.ptr 1 0)),(10,.c (.sl 2 7 0 n)),(11,.c (.p (.i .i64 ((↑i:Int)+1))))] [.cells 27 [.p (.l 7 M.length (rowP encPg M))],.cells 86 [.sl 3 7 0 D2.M.length,.mp 4,.mp 5],.foc 31 7 n i [C.p (PV.i IntKind.i64 p.kd),C.p (PV.s p.ru),C.p (PV.i IntKind.i64 p.ve),C.p (PV.l 2 0 (rowP enc2 [])),C.p (PV.i IntKind.i64 77),C.p (PV.i IntKind.i64 p.se),C.p (PV.s p.to)] fun e o => renC [4,0,5,1,2,3] (rowW out e o),.row 31 7 D2.M.length fun e o => renC [4,0,5,1,2,3] (rowC encPg D2.M e o),.mapb (okK Try.prog 81) D2.gp,.mapl (okK Try.prog 79) 3 1 D2.gs none])))))):=by kernel_rfl
theorem tPa9 (M:List Pg) (D2:Ld):exTs ext0 (takeL 1 (dropL 14 (pcs Try.prog Try.f6))) (cst 129 [(5,.c (.ptr 4 0)),(6,.c (.ptr 0 0))] (ldH D2 [.cells 27 [.p (listP encPg 7 M)]])) (endG (msk 129 [5,6,12]) (resOf Try.prog Try.f6))=Tr.done X.normal
 (cst 129 [(5,.c (.ptr 0 0)),(6,.c (.ptr 1 0)),(12,.c (.p (.i .i64 0)))] [.cells 27 [.p (.l 7 M.length (rowP encPg M))],.cells 86 [.sl 2 7 0 D2.M.length,.mp 3,.mp 4],.row 31 7 D2.M.length fun e o => renC [4,0,1,2,3] (rowC encPg D2.M e o),.mapb (okK Try.prog 81) D2.gp,.mapl (okK Try.prog 79) 3 1 D2.gs none]):=by kernel_rfl
theorem tPa10 (M:List Pg) (D2:Ld) (k:Nat):exTs ext0 (takeL 2 (lpB (pcs Try.prog Try.f6) 15)) (cst 129 [(5,.c (.ptr 4 0)),(6,.c (.ptr 0 0)),(12,iV (k:Nat))] (ldH D2 [.cells 27 [.p (listP encPg 7 M)]])) (endG (msk 129 [5,6,12]) (resOf Try.prog Try.f6))=bT (decide ((↑k:Int)<(↑M.length:Int)))
 (.done .normal
 (cst 129 [(5,.c (.ptr 0 0)),(6,.c (.ptr 1 0)),(12,.c (.p (.i .i64 (↑k:Int))))] [.cells 27 [.p (.l 7 M.length (rowP encPg M))],.cells 86 [.sl 2 7 0 D2.M.length,.mp 3,.mp 4],.row 31 7 D2.M.length fun e o => renC [4,0,1,2,3] (rowC encPg D2.M e o),.mapb (okK Try.prog 81) D2.gp,.mapl (okK Try.prog 79) 3 1 D2.gs none]))
 (.done (.exit 4)
 (cst 129 [(5,.c (.ptr 0 0)),(6,.c (.ptr 1 0)),(12,.c (.p (.i .i64 (↑k:Int))))] [.cells 27 [.p (.l 7 M.length (rowP encPg M))],.cells 86 [.sl 2 7 0 D2.M.length,.mp 3,.mp 4],.row 31 7 D2.M.length fun e o => renC [4,0,1,2,3] (rowC encPg D2.M e o),.mapb (okK Try.prog 81) D2.gp,.mapl (okK Try.prog 79) 3 1 D2.gs none])):=by kernel_rfl
theorem tPa10b (M:List Pg) (D2:Ld) (k:Nat):exTs ext0 (takeL 1 (flat (inr (nth .skip (lpB (pcs Try.prog Try.f6) 15) 2)))) (cst 129 [(5,.c (.ptr 4 0)),(6,.c (.ptr 0 0)),(12,iV (k:Nat))] (ldH D2 [.cells 27 [.p (listP encPg 7 M)]])) (endG (msk 129 [5,6,12,13]) (resOf Try.prog Try.f6))=Tr.rq (0≤(↑k:Int)∧(↑k:Int)<(↑M.length:Int))
 (.done .normal
 (cst 129 [(5,.c (.ptr 0 0)),(6,.c (.ptr 1 0)),(12,.c (.p (.i .i64 (↑k:Int)))),(13,.c (.ptr 2 0))] [.cells 27 [.p (.l 7 M.length (rowP encPg M))],.cells 86 [.sl 3 7 0 D2.M.length,.mp 4,.mp 5],.cells 31 [.p (.i .i64 (M.getD (↑k:Int).toNat default).kd),.p (.s (M.getD (↑k:Int).toNat default).ru),.p (.i .i64 (M.getD (↑k:Int).toNat default).ve),.p (.l 2 (M.getD (↑k:Int).toNat default).L.length (rowP enc2 (M.getD (↑k:Int).toNat default).L)),.p (.i .i64 (M.getD (↑k:Int).toNat default).st),.p (.i .i64 (M.getD (↑k:Int).toNat default).se),.p (.s (M.getD (↑k:Int).toNat default).to)],.row 31 7 D2.M.length fun e o => renC [4,0,5,1,2,3] (rowC encPg D2.M e o),.mapb (okK Try.prog 81) D2.gp,.mapl (okK Try.prog 79) 3 1 D2.gs none])):=by kernel_rfl
theorem tPa11 (M M2:List Pg) (D2:Ld) (p:Pg) (U:List Int) (k:Nat):runD (extPa11 D2 M2 M p U) (regL (nth .skip (flat (inr (nth .skip (lpB (pcs Try.prog Try.f6) 15) 2))) 1)) (regR (nth .skip (flat (inr (nth .skip (lpB (pcs Try.prog Try.f6) 15) 2))) 1)) [7] (cst 129 [(5,.c (.ptr 4 0)),(6,.c (.ptr 0 0)),(12,iV (k:Nat)),(13,.c (.ptr 5 0))] (ldH D2 [.cells 27 [.p (listP encPg 7 M)],.cells 31 [.p (.i .i64 p.kd),.p (.s p.ru),.p (.i .i64 p.ve),.p (listP enc2 2 p.L),.p (.i .i64 p.st),.p (.i .i64 p.se),.p (.s p.to)]]))=Tr.rq
 ((((IsL enc2 2 (decL dec2 p.L.length (rowP enc2 p.L)) p.L.length (rowP enc2 p.L)∧decL dec2 p.L.length (rowP enc2 p.L)=p.L) ∧
 D2.M.length=D2.M.length ∧
 D2.M.length=D2.M.length ∧
 (∀ (e o:Nat),e<D2.M.length→o<7→rowC encPg D2.M e o=rowC encPg D2.M e o) ∧
 okK Try.prog 81=okK Try.prog 81∧D2.gp=D2.gp∧okK Try.prog 79=okK Try.prog 79∧D2.gs=D2.gs) ∧
 p.ru=p.ru∧p.ve=p.ve) ∧
 (OkM M2∧inR IntKind.i64 p.ve)∧pagedZ M2 p=U∧D2=repD M2)
 (.rq (7=7∧M.length=M.length∧rowP encPg M=rowP encPg M)
 (.rq (IntKind.i64=IntKind.i64∧p.kd=p.kd)
 (.rq (p.ru=p.ru)
 (.rq (IntKind.i64=IntKind.i64∧p.ve=p.ve)
 (.rq (2=2∧p.L.length=p.L.length∧rowP enc2 p.L=rowP enc2 p.L)
 (.rq (IntKind.i64=IntKind.i64∧p.st=p.st)
 (.rq (IntKind.i64=IntKind.i64∧p.se=p.se)
 (.rq (p.to=p.to)
 (.rq
 (((M.length=M.length∧∀ (e o:Nat),e<M.length→o<7→PLe (rowP encPg M e o) (rowP encPg M e o)) ∧
 IsL enc2 2 (decL dec2 p.L.length (rowP enc2 p.L)) p.L.length (rowP enc2 p.L)) ∧
 M.length≤1000000∧(Pg.mk p.kd p.ru p.ve (decL dec2 p.L.length (rowP enc2 p.L)) p.st p.se p.to).L.length≤1000000)
 (.rq
 (∃ U_1,
 VLe (V.c (C.p (PV.l 1 U.length (rowP encI U)))) (listV encI 1 U_1) ∧
 VLe
 (V.c
 (C.p
 (PV.l 1 (pagedZ M (Pg.mk p.kd p.ru p.ve (decL dec2 p.L.length (rowP enc2 p.L)) p.st p.se p.to)).length
 (rowP encI (pagedZ M (Pg.mk p.kd p.ru p.ve (decL dec2 p.L.length (rowP enc2 p.L)) p.st p.se p.to))))))
 (listV encI 1 U_1) ∧
 U_1.length≤1000000)
 (.done .normal
 (cst 129 [(5,.c (.ptr 4 0)),(6,.c (.ptr 0 0)),(12,.c (.p (.i .i64 (↑k:Int)))),(13,.c (.ptr 5 0)),(95,.c (.ptr 0 0)),(96,.c (.ptr 5 1)),(97,.c (.p (.s p.ru))),(98,.c (.ptr 5 2)),(99,.c (.p (.i .i64 p.ve))),(100,.c (.ptr 5 3)),(101,.c (.p (.l 2 p.L.length (rowP enc2 p.L)))),(102,.c (.p (.l 1 U.length (rowP encI U)))),(103,.a [.p (PV.l 7 M.length (rowP encPg M))]),(104,.a [.p (.i .i64 p.kd),.p (.s p.ru),.p (.i .i64 p.ve),.p (.l 2 p.L.length (rowP enc2 p.L)),.p (.i .i64 p.st),.p (.i .i64 p.se),.p (.s p.to)]),(105,.c (.p (.l 1 (pagedZ M (Pg.mk p.kd p.ru p.ve (decL dec2 p.L.length (rowP enc2 p.L)) p.st p.se p.to)).length (rowP encI (pagedZ M (Pg.mk p.kd p.ru p.ve (decL dec2 p.L.length (rowP enc2 p.L)) p.st p.se p.to)))))),(106,.c (.p (.b true))),(107,.c (.p (.b false)))] [.cells 86 [.sl 8 7 0 D2.M.length,.mp 9,.mp 10],.gone,.gone,.gone,.cells 27 [.p (.l 7 M.length (rowP encPg M))],.cells 31 [.p (.i .i64 p.kd),.p (.s p.ru),.p (.i .i64 p.ve),.p (.l 2 p.L.length (rowP enc2 p.L)),.p (.i .i64 p.st),.p (.i .i64 p.se),.p (.s p.to)],.gone,.gone,.row 31 7 D2.M.length fun e o => C.p (rowP encPg D2.M e o),.mapb (okK Try.prog 81) D2.gp,.mapl (okK Try.prog 79) 3 1 D2.gs none])))))))))))):=by kernel_rfl
theorem tPa11b (M:List Pg) (D2:Ld) (k:Nat):exTs ext0 (dropL 2 (flat (inr (nth .skip (lpB (pcs Try.prog Try.f6) 15) 2)))) (cst 129 [(5,.c (.ptr 4 0)),(6,.c (.ptr 0 0)),(12,iV (k:Nat)),(107,bV false)] (ldH D2 [.cells 27 [.p (listP encPg 7 M)]])) (endG (msk 129 [5,6,12]) (resOf Try.prog Try.f6))=Tr.done X.normal
 (cst 129 [(5,.c (.ptr 0 0)),(6,.c (.ptr 1 0)),(12,.c (.p (.i .i64 (↑k:Int))))] [.cells 27 [.p (.l 7 M.length (rowP encPg M))],.cells 86 [.sl 2 7 0 D2.M.length,.mp 3,.mp 4],.row 31 7 D2.M.length fun e o => renC [4,0,1,2,3] (rowC encPg D2.M e o),.mapb (okK Try.prog 81) D2.gp,.mapl (okK Try.prog 79) 3 1 D2.gs none]):=by kernel_rfl
theorem tPa11c (M:List Pg) (D2:Ld) (k:Nat):exTs ext0 (dropL 3 (lpB (pcs Try.prog Try.f6) 15)) (cst 129 [(5,.c (.ptr 4 0)),(6,.c (.ptr 0 0)),(12,iV (k:Nat))] (ldH D2 [.cells 27 [.p (listP encPg 7 M)]])) (endG (msk 129 [5,6,12]) (resOf Try.prog Try.f6))=Tr.rq (inR IntKind.i64 ((↑k:Int)+1))
 (.done .normal
 (cst 129 [(5,.c (.ptr 0 0)),(6,.c (.ptr 1 0)),(12,.c (.p (.i .i64 ((↑k:Int)+1))))] [.cells 27 [.p (.l 7 M.length (rowP encPg M))],.cells 86 [.sl 2 7 0 D2.M.length,.mp 3,.mp 4],.row 31 7 D2.M.length fun e o => renC [4,0,1,2,3] (rowC encPg D2.M e o),.mapb (okK Try.prog 81) D2.gp,.mapl (okK Try.prog 79) 3 1 D2.gs none])):=by kernel_rfl
theorem tPa12 (M M2:List Pg) (D2:Ld):exTs (extPa12 D2 M2) (dropL 16 (pcs Try.prog Try.f6)) (cst 129 [(5,.c (.ptr 4 0)),(6,.c (.ptr 0 0))] (ldH D2 [.cells 27 [.p (listP encPg 7 M)]])) (endG [] (resOf Try.prog Try.f6))=Tr.rq
 ((D2.M.length=D2.M.length ∧
 D2.M.length=D2.M.length ∧
 (∀ (e o:Nat),e<D2.M.length→o<7→rowC encPg D2.M e o=rowC encPg D2.M e o)∧okK Try.prog 81=okK Try.prog 81∧D2.gp=D2.gp∧okK Try.prog 79=okK Try.prog 79∧D2.gs=D2.gs) ∧
 OkM M2∧D2=repD M2)
 (bT (decide ((↑M.length:Int)≤(↑M2.length:Int)))
 (.rq (0≤(↑0:Int)∧(↑0:Int)≤(↑M.length:Int)∧(↑M.length:Int)≤(↑M2.length:Int))
 (.rq
 (∃ A,
 VLe (V.c (C.p (PV.l 7 ((↑M.length:Int).toNat - 0) fun e o => rowP encPg M2 (e+0) o))) (listV encPg 7 A) ∧
 VLe (V.c (C.p (PV.l 7 M.length (rowP encPg M)))) (listV encPg 7 A)∧A.length≤1000000∧∀ (a:Pg),a∈A→a.L.length≤1000000)
 (.rq True (.done .ret (St.mk [V.c (C.p (PV.b true))] [])))))
 (.done .ret (St.mk [V.c (C.p (PV.b false))] []))):=by kernel_rfl
end Go.AE
namespace Go.AE
set_option linter.unusedVariables false
set_option linter.unusedSimpArgs false
open Go.Proofs Go.Proofs.Ytfjihbmehhccoaa Gp Go.RowKit
theorem amZ_ve {M:List Pg} {p:Pg} {T:List Int} {P:Int→Prop} (hM:∀ q∈M,P q.ve) (hp:P p.ve):∀ q∈(amZ M p T).1,P q.ve:=by
 unfold amZ
 split
 · intro q hq
   rcases List.mem_append.1 hq with h | h
   · exact hM q h
   · unfold amO at h
     obtain ⟨t,_,rfl⟩:=List.mem_map.1 h
     exact hp
 · exact hM
theorem frZ_ve {M:List Pg} {p:Pg} {P:Int→Prop} (hM:∀ q∈M,P q.ve) (hp:P p.ve):∀ q∈(frZ M p).1,P q.ve:=by
 unfold frZ
 split
 · exact hM
 split
 · exact hM
 split
 · exact hM
 intro q hq
 rcases List.mem_append.1 hq with h | h
 · exact hM q h
 · obtain rfl:=List.mem_singleton.1 h
   exact hp
theorem ofL_ve (A:List Int):∀ n,∀ q∈ofL A n,q.ve<3
 | 0 => fun q hq => by cases hq
 | n+1 => by
   show ∀ q∈ofStep A (ofL A n) (13 * n),_
   have:=pageZ_ve A (13 * (n:Nat):Nat)
   unfold ofStep
   split
   · exact amZ_ve (P:=fun t => t<3) (ofL_ve A n) (by omega)
   · exact frZ_ve (P:=fun t => t<3) (ofL_ve A n) (by omega)
theorem sameM_ve {p q:Pg} (h:p.ve≠q.ve):sameM p q=false:=by
 unfold sameM
 simp [h]
theorem stZ_app {M Y:List Pg} {p:Pg} (h:∀ y∈Y,sameM y p=false):stZ (M ++ Y) p=stZ M p:=by
 unfold stZ
 rw [List.reverse_append,List.find?_append,List.find?_eq_none.2 (fun y hy => by rw [h y (List.mem_reverse.1 hy)];exact Bool.false_ne_true)]
 rfl
theorem pagedZ_app {M Y:List Pg} {q:Pg} (h:∀ y∈Y,y.ve≠q.ve):pagedZ (M ++ Y) q=pagedZ M q:=by
 unfold pagedZ pdL
 rw [List.take_length,List.take_length,List.filter_append,List.map_append]
 have e1:(Y.filter fun x => sameM x (atS q x.st) && (stZ (M ++ Y) (atS q x.st) != 1))=[]:=List.filter_eq_nil_iff.2 fun y hy => by
  rw [sameM_ve (q:=atS q y.st) (h y hy)]
  simp
 rw [e1,List.map_nil,List.append_nil]
 congr 2
 apply List.filter_congr
 intro x _
 rw [stZ_app fun y hy => sameM_ve (q:=atS q x.st) (h y hy)]
def spoil:List (ByteArray × ByteArray)→List (ByteArray × ByteArray)
 | [] => []
 | x::L => (x.1,⟨#[115,112,111,105,108,101,100]⟩)::L
theorem spoil_len (L:List (ByteArray × ByteArray)):(spoil L).length=L.length:=by cases L <;> rfl
theorem rowW_set {out:List Pg} {i:Nat} (hi:i<out.length) (p:Pg) (e o:Nat):rowW (out.set i p) e o=if e=i then (if o=3 then lbW p.L else .p (encPg p o)) else rowW out e o:=by
 unfold rowW rowC rowP
 by_cases h:e=i
 · subst h
   simp [hi]
 · have:¬ i=e:=fun h' => h h'.symm
   simp [h,this,List.getElem?_set]
theorem lbW_own {L:List (ByteArray × ByteArray)} (h:0<L.length):lbW L=.own 56 2 L.length (rowP enc2 L):=by
 cases L with
 | nil => simp at h
 | cons x L => rfl
theorem spoil_row {L:List (ByteArray × ByteArray)} (h:0<L.length) {ρ:List Nat} {e o:Nat} (he:e<L.length) (ho:o<2):renC ρ (if e=0 then if 1≤o∧o<2 then nth C.top [C.p (PV.s (ByteArray.mk #[115,112,111,105,108,101,100]))] (o - 1) else rowC enc2 L e o else rowC enc2 L e o)=.p (rowP enc2 (spoil L) e o):=by
 cases L with
 | nil => simp at h
 | cons x L =>
   cases e with
   | zero =>
     have:o=0∨o=1:=by omega
     rcases this with rfl | rfl <;> rfl
   | succ e =>
     rw [if_neg (by omega)]
     rfl
section
variable {G:Nat→Option Obj}
theorem apW_cst {l:List (Nat × V)} {n:Nat} {F F':Nat→Nat→C} {D:Ld} {x:AO} (n0:Nat) (hF:∀ e o,e<n→o<7→F e o=F' e o):WeakS G (cst n0 l (ldH D [x,.row 31 7 n F])) (cst n0 l (ldH D [x,.row 31 7 n F'])):=by
 have hr:∀ x:AO,OEq x x:=fun x => by cases x <;> first | rfl | exact ⟨rfl,rfl,rfl,fun _ _ _ _ => rfl⟩ | exact ⟨rfl,rfl,rfl,rfl,rfl,fun _ _ _ _ _ => rfl⟩
 exact weak_cst ⟨hr _,hr _,hr _,hr _,hr _,⟨rfl,rfl,rfl,hF⟩,trivial⟩
end
end Go.AE
namespace Go.AE
set_option linter.unusedVariables false
set_option linter.unusedSimpArgs false
open Go.Proofs Go.Proofs.Ytfjihbmehhccoaa Gp Go.RowKit
section
variable {G:Nat→Option Obj}
theorem extPa7_sound (D:Ld) (M:List Pg):SoundExt Try.prog G (extPa7 D M):=extH_sound (by simp;exact okAllW D M)
theorem extPa11_sound (D:Ld) (M2 M:List Pg) (p:Pg) (U:List Int):SoundExt Try.prog G (extPa11 D M2 M p U):=extH_sound (by simp;exact ⟨okValidG D M2 p U,(okGPaged M).lift,okSameT.lift⟩)
theorem extPa12_sound (D:Ld) (M2:List Pg):SoundExt Try.prog G (extPa12 D M2):=extH_sound (by simp;exact ⟨okAllG D M2,okEqT.lift,okLives31.lift⟩)
theorem extPa3_sound (D D1:Ld) (M M1:List Pg) (p:Pg):SoundExt Try.prog G (extPa3 D D1 M M1 p):=extH_sound (by simp;exact okFireG D D1 M p M1 0)
theorem extPa4_sound (D1 D2:Ld) (M1 M2 out:List Pg) (q:Pg) (T:List Int):SoundExt Try.prog G (extPa4 D1 D2 M1 M2 out q T):=extH_sound (by simp;exact ⟨(okGStartsX T).lift,okAmendW D1 D2 M1 q T M2 out⟩)
set_option maxRecDepth 100000 in
theorem apart_end {M Y M2:List Pg} (hM2:OkM M2) (he:M2=M ++ Y):ExS Try.prog G (resOf Try.prog Try.f6) (bV true) (dropL 16 (pcs Try.prog Try.f6)) ((fun D2 => cst 129 [(5,.c (.ptr 4 0)),(6,.c (.ptr 0 0))] (ldH D2 [.cells 27 [.p (listP encPg 7 M)]])) (repD M2)) (fun _ _ => False):=by
 refine ExS.evH (extPa12_sound (repD M2) M2) (tPa12 M M2 (repD M2)) ?_
 simp only [holds_bT,holds_rq,holds_leaf,kf_ret',decide_eq_true_eq,decide_eq_false_iff_not]
 have hl:M.length≤M2.length:=by rw [he,List.length_append];omega
 have h2:=hM2.2
 refine ⟨⟨⟨trivial,trivial,fun _ _ _ _ => trivial,trivial,trivial,trivial,trivial⟩,hM2,trivial⟩,fun h => ⟨⟨by omega,by omega,by omega⟩,⟨M,?_,VLe.refl _,by omega,fun a ha => ?_⟩,trivial,⟨VLe.of_eq rfl⟩⟩,fun h => absurd h (by omega)⟩
 · refine IsL.le ⟨by simp,fun e o h1 h2 => ?_⟩
   have h1:e<M.length:=by simpa using h1
   show rowP encPg M2 e o=rowP encPg M e o
   unfold rowP
   rw [he]
   simp [List.getElem?_append_left h1]
 · have:=(validLb_at (pgOK_iff.1 (hM2.1 a (by rw [he];exact List.mem_append_left _ ha)).1).2.2.1).1
   omega
set_option maxRecDepth 100000 in
set_option maxHeartbeats 1000000 in
theorem apart_valid {M Y M2:List Pg} (hM:OkM M) (hMl:M.length≤1275) (hM2:OkM M2) (he:M2=M ++ Y) (hv:∀ q∈M,∀ y∈Y,y.ve≠q.ve):ExS Try.prog G (resOf Try.prog Try.f6) (bV true) (dropL 14 (pcs Try.prog Try.f6)) ((fun D2 => cst 129 [(5,.c (.ptr 4 0)),(6,.c (.ptr 0 0))] (ldH D2 [.cells 27 [.p (listP encPg 7 M)]])) (repD M2)) (fun _ _ => False):=by
 refine ExS.evG ext0_sound 1 (tPa9 M (repD M2)) ?_
 simp only [holds_leaf,kf_normal]
 refine ⟨?_⟩
 refine ExS.loop' (l:=dropL 1 (dropL 14 (pcs Try.prog Try.f6))) (b:=inr (inr (nth .skip (pcs Try.prog Try.f6) 15))) (r:=dropL 16 (pcs Try.prog Try.f6)) (id:=4) (by kernel_rfl) (σ:=Nat)
   (fun k => (fun D2 => cst 129 [(5,.c (.ptr 4 0)),(6,.c (.ptr 0 0)),(12,iV (k:Nat))] (ldH D2 [.cells 27 [.p (listP encPg 7 M)]])) (repD M2)) (fun k => k≤M.length) (fun k => M.length - k) 0 (Nat.zero_le _) ((weak_proj [1,2,3,4,0] (msk 129 [5,6,12]) (by kernel_rfl) _).trans (weak_of_eq (by kernel_rfl))) ?_
 intro k hk Q3 q3n q3e _
 refine ExS.evG ext0_sound 2 (tPa10 M (repD M2) k) ?_
 simp only [holds_bT,holds_rq,holds_leaf,kf_ret',kf_normal,kf_exit,decide_eq_true_eq,decide_eq_false_iff_not]
 refine ⟨fun h1 => ⟨?_⟩,fun h1 => ⟨q3e _ ?_⟩⟩
 · have hlt:k<M.length:=by omega
   refine ExS.blk' (l:=dropL 2 (lpB (pcs Try.prog Try.f6) 15)) (id:=5) (a:=inr (nth .skip (lpB (pcs Try.prog Try.f6) 15) 2)) (r:=dropL 3 (lpB (pcs Try.prog Try.f6) 15)) (by kernel_rfl) ?_
   intro Q4 q4n q4e _
   refine ExS.pre ((weak_proj [1,2,3,4,0] (msk 129 [5,6,12]) (by kernel_rfl) _).trans (weak_of_eq (st':=(fun D2 => cst 129 [(5,.c (.ptr 4 0)),(6,.c (.ptr 0 0)),(12,iV (k:Nat))] (ldH D2 [.cells 27 [.p (listP encPg 7 M)]])) (repD M2)) (by kernel_rfl))) ?_
   refine ExS.evG ext0_sound 1 (tPa10b M (repD M2) k) ?_
   simp only [holds_bT,holds_rq,holds_leaf,kf_ret',kf_normal,show (↑k:Int).toNat=k from rfl]
   refine ⟨⟨by omega,by omega⟩,⟨?_⟩⟩
   have hpM:M.getD k default∈M:=by
    rw [List.getD_eq_getElem?_getD,List.getElem?_eq_getElem hlt]
    exact List.getElem_mem _
   generalize M.getD k default=p at hpM ⊢
   have hp:=hM.1 p hpM
   have hpl:p.L.length≤8:=(validLb_at (pgOK_iff.1 hp.1).2.2.1).1
   have hul:=pagedZ_len M p
   have hpz:pagedZ M2 p=pagedZ M p:=by rw [he];exact pagedZ_app (hv p hpM)
   refine ExS.pre ((weak_proj [1,3,4,5,0,2] (msk 129 [5,6,12,13]) (by kernel_rfl) _).trans (weak_of_eq (st':=(fun D2 => cst 129 [(5,.c (.ptr 4 0)),(6,.c (.ptr 0 0)),(12,iV (k:Nat)),(13,.c (.ptr 5 0))] (ldH D2 [.cells 27 [.p (listP encPg 7 M)],.cells 31 [.p (.i .i64 p.kd),.p (.s p.ru),.p (.i .i64 p.ve),.p (listP enc2 2 p.L),.p (.i .i64 p.st),.p (.i .i64 p.se),.p (.s p.to)]])) (repD M2)) (by kernel_rfl))) ?_
   refine ExS.regdC (extPa11_sound (repD M2) M2 M p (pagedZ M p)) (hd:=regL (nth .skip (flat (inr (nth .skip (lpB (pcs Try.prog Try.f6) 15) 2))) 1)) (tl:=regR (nth .skip (flat (inr (nth .skip (lpB (pcs Try.prog Try.f6) 15) 2))) 1)) (ns:=[7]) (l:=dropL 1 (flat (inr (nth .skip (lpB (pcs Try.prog Try.f6) 15) 2)))) (r':=dropL 1 (dropL 1 (flat (inr (nth .skip (lpB (pcs Try.prog Try.f6) 15) 2))))) (by kernel_rfl) (by kernel_rfl) (tPa11 M M2 (repD M2) p (pagedZ M p) k) ?_
   simp only [holds_rq,holds_done,dec2_row]
   refine ⟨⟨⟨⟨⟨isL_row _ _ _,trivial⟩,trivial,trivial,fun _ _ _ _ => trivial,trivial,trivial,trivial,trivial⟩,trivial,trivial⟩,⟨hM2,hp.2.1⟩,hpz,trivial⟩,⟨trivial,trivial,trivial⟩,⟨trivial,trivial⟩,trivial,⟨trivial,trivial⟩,⟨trivial,trivial,trivial⟩,⟨trivial,trivial⟩,⟨trivial,trivial⟩,trivial,⟨⟨⟨trivial,fun _ _ _ _ => PLe.refl _⟩,isL_row _ _ _⟩,by omega,by omega⟩,⟨pagedZ M p,VLe.refl _,VLe.refl _,by omega⟩,trivial,?_⟩
   refine ExS.pre ((weak_proj [0,8,9,10,4] (msk 129 [5,6,12,107]) (by kernel_rfl) _).trans (weak_of_eq (st':=(fun D2 => cst 129 [(5,.c (.ptr 4 0)),(6,.c (.ptr 0 0)),(12,iV (k:Nat)),(107,bV false)] (ldH D2 [.cells 27 [.p (listP encPg 7 M)]])) (repD M2)) (by kernel_rfl))) ?_
   refine ExS.evH ext0_sound (tPa11b M (repD M2) k) ?_
   simp only [holds_bT,holds_leaf,kf_ret',kf_normal]
   refine ⟨q4n _ ?_⟩
   refine ExS.pre ((weak_proj [1,2,3,4,0] (msk 129 [5,6,12]) (by kernel_rfl) _).trans (weak_of_eq (st':=(fun D2 => cst 129 [(5,.c (.ptr 4 0)),(6,.c (.ptr 0 0)),(12,iV (k:Nat))] (ldH D2 [.cells 27 [.p (listP encPg 7 M)]])) (repD M2)) (by kernel_rfl))) ?_
   refine ExS.evH ext0_sound (tPa11c M (repD M2) k) ?_
   simp only [holds_rq,holds_leaf,kf_normal]
   exact ⟨by unfold inR;omega,⟨q3n (k+1) _ (by omega) (by omega) ((weak_proj [1,2,3,4,0] (msk 129 [5,6,12]) (by kernel_rfl) _).trans (weak_of_eq (by kernel_rfl)))⟩⟩
 · exact ExS.pre ((weak_proj [1,2,3,4,0] (msk 129 [5,6]) (by kernel_rfl) _).trans (weak_of_eq (by kernel_rfl))) (apart_end hM2 he)
end
end Go.AE
namespace Go.AE
set_option linter.unusedVariables false
set_option linter.unusedSimpArgs false
open Go.Proofs Go.Proofs.Ytfjihbmehhccoaa Gp Go.RowKit
theorem spoil_ne {L:List (ByteArray × ByteArray)} (h:0<L.length):spoil L≠[]:=by
 intro e
 have:=spoil_len L
 rw [e] at this
 simp at this
 omega
theorem cells_own {a b c x d e f:C} (h:(a.isOwn || b.isOwn || c.isOwn || d.isOwn || e.isOwn || f.isOwn)=false) {o:Nat} (ho:o<7) (h3:o≠3):(nth .top [a,b,c,x,d,e,f] o).isOwn=false:=by
 simp only [Bool.or_eq_false_iff] at h
 obtain ⟨⟨⟨⟨⟨h1,h2⟩,h4⟩,h5⟩,h6⟩,h7⟩:=h
 have:o=0∨o=1∨o=2∨o=4∨o=5∨o=6:=by omega
 rcases this with rfl | rfl | rfl | rfl | rfl | rfl
 · exact h1
 · exact h2
 · exact h4
 · exact h5
 · exact h6
 · exact h7
theorem spoil_step {out:List Pg} {i:Nat} (hi:i<out.length) {p:Pg} {L:List (ByteArray × ByteArray)} (hL:0<L.length) (hp:p.L=spoil L) {ρ ρ':List Nat} {l:List C} {x:C} (hl:l=[.p (.i .i64 p.kd),.p (.s p.ru),.p (.i .i64 p.ve),x,.p (.i .i64 p.st),.p (.i .i64 p.se),.p (.s p.to)]) {e o:Nat} (ho:o<7) :
  renC ρ (if e=i then (if o=3 then .own 56 2 L.length (rowP enc2 (spoil L)) else nth .top l o) else renC ρ' (rowW out e o))=rowW (out.set i p) e o:=by
 rw [rowW_set hi]
 by_cases h:e=i
 · rw [if_pos h,if_pos h]
   by_cases h3:o=3
   · rw [if_pos h3,if_pos h3,hp,lbW_own (by rw [spoil_len];exact hL),spoil_len]
     rfl
   · rw [if_neg h3,if_neg h3,hl]
     have:o=0∨o=1∨o=2∨o=4∨o=5∨o=6:=by omega
     rcases this with rfl | rfl | rfl | rfl | rfl | rfl <;> rfl
 · rw [if_neg h,if_neg h,ren_rowW,ren_rowW]
theorem rowW_nil {out:List Pg} {i o:Nat} (hl:(out.getD i default).L=[]) (ho:o<7):rowW out i o=nth .top ((fun p:Pg => [.p (.i .i64 p.kd),.p (.s p.ru),.p (.i .i64 p.ve),.p (listP enc2 2 []),.p (.i .i64 p.st),.p (.i .i64 p.se),.p (.s p.to)]) (out.getD i default)) o:=by
 have:o=0∨o=1∨o=2∨o=3∨o=4∨o=5∨o=6:=by omega
 rcases this with rfl | rfl | rfl | rfl | rfl | rfl | rfl
 · rfl
 · rfl
 · rfl
 · show lbW (out.getD i default).L=_
   rw [hl];rfl
 · rfl
 · rfl
 · rfl
theorem unfoc_at {out:List Pg} {i o:Nat} {p:Pg} (hi:i<out.length) (ho:o<7):rowW (out.set i ⟨p.kd,p.ru,p.ve,[],77,p.se,p.to⟩) i o=nth .top [.p (.i .i64 p.kd),.p (.s p.ru),.p (.i .i64 p.ve),.p (.l 2 0 (rowP enc2 [])),.p (.i .i64 77),.p (.i .i64 p.se),.p (.s p.to)] o∧(nth .top [.p (.i .i64 p.kd),.p (.s p.ru),.p (.i .i64 p.ve),.p (.l 2 0 (rowP enc2 [])),.p (.i .i64 77),.p (.i .i64 p.se),.p (.s p.to)] o:C).isOwn=false:=by
 rw [rowW_set hi,if_pos rfl]
 have:o=0∨o=1∨o=2∨o=3∨o=4∨o=5∨o=6:=by omega
 rcases this with rfl | rfl | rfl | rfl | rfl | rfl | rfl <;> exact ⟨rfl,rfl⟩
section
variable {G:Nat→Option Obj}
set_option maxRecDepth 100000 in
set_option maxHeartbeats 1000000 in
theorem apart_all {M M2:List Pg} (hM2:OkM M2) (next:ExS Try.prog G (resOf Try.prog Try.f6) (bV true) (dropL 14 (pcs Try.prog Try.f6)) ((fun D2 => cst 129 [(5,.c (.ptr 4 0)),(6,.c (.ptr 0 0))] (ldH D2 [.cells 27 [.p (listP encPg 7 M)]])) (repD M2)) (fun _ _ => False)):ExS Try.prog G (resOf Try.prog Try.f6) (bV true) (dropL 11 (pcs Try.prog Try.f6)) ((fun D2 => cst 129 [(5,.c (.ptr 4 0)),(6,.c (.ptr 0 0))] (ldH D2 [.cells 27 [.p (listP encPg 7 M)]])) (repD M2)) (fun _ _ => False):=by
 have h2:=hM2.2
 refine ExS.evG (extPa7_sound (repD M2) M2) 2 (tPa7 M M2 (repD M2)) ?_
 simp only [holds_rq,holds_leaf,kf_normal]
 refine ⟨⟨⟨trivial,trivial,fun _ _ _ _ => trivial,trivial,trivial,trivial,trivial⟩,hM2,trivial⟩,⟨?_⟩⟩
 obtain ⟨n,hnM⟩:∃ n,n=M2.length:=⟨_,rfl⟩
 rw [← hnM] at h2 ⊢
 refine ExS.loop' (l:=dropL 2 (dropL 11 (pcs Try.prog Try.f6))) (b:=inr (inr (nth .skip (pcs Try.prog Try.f6) 13))) (r:=dropL 14 (pcs Try.prog Try.f6)) (id:=2) (by kernel_rfl) (σ:=Nat × List Pg)
   (fun (i,out) => (fun D2 F => cst 129 [(5,.c (.ptr 4 0)),(6,.c (.ptr 0 0)),(10,.c (.sl 5 7 0 n)),(11,iV (i:Nat))] (ldH D2 [.cells 27 [.p (listP encPg 7 M)],.row 31 7 n F])) (repD M2) (rowW out)) (fun (i,out) => i≤n∧out.length=n) (fun (i,_) => n - i) (0,M2) ⟨Nat.zero_le _,hnM.symm⟩ ((weak_proj [1,3,4,5,0,2] (msk 129 [5,6,10,11]) (by kernel_rfl) _).trans ((weak_of_eq (st':=(fun D2 F i => cst 129 [(5,.c (.ptr 4 0)),(6,.c (.ptr 0 0)),(10,.c (.sl 5 7 0 n)),(11,iV (i:Nat))] (ldH D2 [.cells 27 [.p (listP encPg 7 M)],.row 31 7 n F])) (repD M2) (fun e o => renC [1,3,4,5,0,2] (renC [4,0,10,7,8,9] (rowW M2 e o))) 0) (by kernel_rfl)).trans (apW_cst _ fun e o _ _ => (congrArg (renC _) (ren_rowW _ _ _ _)).trans (ren_rowW _ _ _ _)))) ?_
 rintro ⟨i,out⟩ ⟨hi,hn⟩ Q1 q1n q1e -
 refine ExS.evG ext0_sound 2 (tPa8a M out (repD M2) n i) ?_
 simp only [holds_bT,holds_rq,holds_leaf,kf_ret',kf_normal,kf_exit,decide_eq_true_eq,decide_eq_false_iff_not]
 refine ⟨fun h1 => ⟨?_⟩,fun h1 => ⟨q1e _ ?_⟩⟩
 · have hlt:i<n:=by omega
   have hlo:i<out.length:=by omega
   refine ExS.pre ((weak_proj [1,3,4,5,0,2] (msk 129 [5,6,10,11]) (by kernel_rfl) _).trans ((weak_of_eq (st':=(fun D2 F => cst 129 [(5,.c (.ptr 4 0)),(6,.c (.ptr 0 0)),(10,.c (.sl 5 7 0 n)),(11,iV (i:Nat))] (ldH D2 [.cells 27 [.p (listP encPg 7 M)],.row 31 7 n F])) (repD M2) fun e o => renC [1,3,4,5,0,2] (renC [4,0,5,1,2,3] (rowW out e o))) (by kernel_rfl)).trans (apW_cst _ fun e o _ _ => (congrArg (renC _) (ren_rowW _ _ _ _)).trans (ren_rowW _ _ _ _)))) ?_
   by_cases hL:0<(out.getD i default).L.length
   · have hf:rowW out i 3=.own 56 2 (out.getD i default).L.length (rowP enc2 (out.getD i default).L):=lbW_own hL
     refine ExS.pre ((weak_open (id:=5) (e0:=i) (k0:=3) (sz:=7) (n:=n) (f:=rowW out) rfl hlt (by decide) hf).trans (weak_of_eq (st':=(fun D2 p => cst 129 [(5,.c (.ptr 4 0)),(6,.c (.ptr 0 0)),(10,.c (.sl 5 7 0 n)),(11,iV (i:Nat))] (ldH D2 [.cells 27 [.p (listP encPg 7 M)],.foc 31 7 n i [.p (.i .i64 p.kd),.p (.s p.ru),.p (.i .i64 p.ve),.sl 6 2 0 p.L.length,.p (.i .i64 p.st),.p (.i .i64 p.se),.p (.s p.to)] (rowW out),.row 56 2 p.L.length (rowC enc2 p.L)])) (repD M2) (out.getD i default)) (by kernel_rfl))) ?_
     generalize out.getD i default=p at hL ⊢
     refine ExS.evH ext0_sound (tPa8n M out (repD M2) p n i) ?_
     simp only [holds_bT,holds_rq,holds_leaf,kf_ret',kf_normal,kf_exit,decide_eq_true_eq,decide_eq_false_iff_not]
     refine ⟨⟨by omega,by omega⟩,by omega,⟨by omega,by omega⟩,by omega,fun _ => ⟨⟨by omega,by omega⟩,by omega,⟨by omega,by omega⟩,hL,by unfold inR;omega,⟨?_⟩⟩,fun h => absurd h (by omega)⟩
     refine q1n (i+1,out.set i ⟨p.kd,p.ru,p.ve,spoil p.L,77,p.se,p.to⟩) _ ⟨by omega,by rw [List.length_set];exact hn⟩ (by simp only;omega) ?_
     refine (weak_close (id:=2) (m:=6) (sz:=7) (sz':=2) (e0:=i) (k0:=3) (g:=rowP enc2 (spoil p.L)) rfl rfl (fun e o he ho => spoil_row hL he ho) (by decide) rfl (fun o ho h3 => cells_own (by rfl) ho h3)).trans ((weak_proj [1,3,4,5,0,2] (msk 129 [5,6,10,11]) (by kernel_rfl) _).trans ((weak_of_eq (st':=(fun D2 F i => cst 129 [(5,.c (.ptr 4 0)),(6,.c (.ptr 0 0)),(10,.c (.sl 5 7 0 n)),(11,iV (i:Nat))] (ldH D2 [.cells 27 [.p (listP encPg 7 M)],.row 31 7 n F])) (repD M2) (fun e o => renC [1,3,4,5,0,2] (if e=i then (if o=3 then .own 56 2 p.L.length (rowP enc2 (spoil p.L)) else nth .top [.p (.i .i64 p.kd),.p (.s p.ru),.p (.i .i64 p.ve),.sl 6 2 0 p.L.length,.p (.i .i64 77),.p (.i .i64 p.se),.p (.s p.to)] o) else renC [4,0,5,1,2,3,6] (rowW out e o))) (i+1)) (by kernel_rfl)).trans (apW_cst _ fun e o _ ho => spoil_step hlo (p:=⟨p.kd,p.ru,p.ve,spoil p.L,77,p.se,p.to⟩) hL rfl (by rfl) ho)))
   · have hl0:(out.getD i default).L=[]:=List.eq_nil_of_length_eq_zero (by omega)
     refine ExS.pre ((weak_foc (id:=5) (sz:=7) (n:=n) (e0:=i) (vs:=(fun p:Pg => [.p (.i .i64 p.kd),.p (.s p.ru),.p (.i .i64 p.ve),.p (listP enc2 2 []),.p (.i .i64 p.st),.p (.i .i64 p.se),.p (.s p.to)]) (out.getD i default)) (f:=rowW out) rfl hlt rfl (fun o ho => rowW_nil hl0 ho)).trans (weak_of_eq (st':=(fun D2 p => cst 129 [(5,.c (.ptr 4 0)),(6,.c (.ptr 0 0)),(10,.c (.sl 5 7 0 n)),(11,iV (i:Nat))] (ldH D2 [.cells 27 [.p (listP encPg 7 M)],.foc 31 7 n i [.p (.i .i64 p.kd),.p (.s p.ru),.p (.i .i64 p.ve),.p (listP enc2 2 []),.p (.i .i64 p.st),.p (.i .i64 p.se),.p (.s p.to)] (rowW out)])) (repD M2) (out.getD i default)) (by kernel_rfl))) ?_
     generalize out.getD i default=p at hl0 ⊢
     refine ExS.evH ext0_sound (tPa8e M out (repD M2) p n i) ?_
     simp only [holds_bT,holds_rq,holds_leaf,kf_ret',kf_normal,kf_exit,decide_eq_true_eq,decide_eq_false_iff_not]
     refine ⟨⟨by omega,by omega⟩,by omega,⟨by omega,by omega⟩,by omega,by unfold inR;omega,⟨?_⟩⟩
     refine q1n (i+1,out.set i ⟨p.kd,p.ru,p.ve,[],77,p.se,p.to⟩) _ ⟨by omega,by rw [List.length_set];exact hn⟩ (by simp only;omega) ?_
     refine (weak_unfoc (id:=2) (sz:=7) (n:=n) (e0:=i) (f':=rowW (out.set i ⟨p.kd,p.ru,p.ve,[],77,p.se,p.to⟩)) rfl (fun o ho => unfoc_at hlo ho) (fun e o _ _ h => by rw [rowW_set hlo,if_neg h,ren_rowW])).trans ((weak_proj [1,3,4,5,0,2] (msk 129 [5,6,10,11]) (by kernel_rfl) _).trans ((weak_of_eq (st':=(fun D2 F i => cst 129 [(5,.c (.ptr 4 0)),(6,.c (.ptr 0 0)),(10,.c (.sl 5 7 0 n)),(11,iV (i:Nat))] (ldH D2 [.cells 27 [.p (listP encPg 7 M)],.row 31 7 n F])) (repD M2) (fun e o => renC [1,3,4,5,0,2] (rowW (out.set i ⟨p.kd,p.ru,p.ve,[],77,p.se,p.to⟩) e o)) (i+1)) (by kernel_rfl)).trans (apW_cst _ fun e o _ _ => ren_rowW _ _ _ _)))
 · exact ExS.pre ((weak_proj [1,3,4,5,0] (msk 129 [5,6]) (by kernel_rfl) _).trans (weak_of_eq (by kernel_rfl))) next
set_option maxRecDepth 100000 in
set_option maxHeartbeats 1000000 in
theorem apart_out {M M2:List Pg} {n:Nat} {out0:List Pg} (hn0:out0.length=n) (h2:n≤50000) (hne0:∀ q∈out0,q.L≠[]) (next:ExS Try.prog G (resOf Try.prog Try.f6) (bV true) (dropL 11 (pcs Try.prog Try.f6)) ((fun D2 => cst 129 [(5,.c (.ptr 4 0)),(6,.c (.ptr 0 0))] (ldH D2 [.cells 27 [.p (listP encPg 7 M)]])) (repD M2)) (fun _ _ => False)):ExS Try.prog G (resOf Try.prog Try.f6) (bV true) (dropL 10 (pcs Try.prog Try.f6)) ((fun D2 F i => cst 129 [(5,.c (.ptr 4 0)),(6,.c (.ptr 0 0)),(8,.c (.sl 5 7 0 n)),(9,iV (i:Nat))] (ldH D2 [.cells 27 [.p (listP encPg 7 M)],.row 31 7 n F])) (repD M2) (rowW out0) 0) (fun _ _ => False):=by
 refine ExS.loop' (l:=dropL 10 (pcs Try.prog Try.f6)) (b:=inr (inr (nth .skip (pcs Try.prog Try.f6) 10))) (r:=dropL 11 (pcs Try.prog Try.f6)) (id:=0) (by kernel_rfl) (σ:=Nat × List Pg)
   (fun (i,out) => (fun D2 F => cst 129 [(5,.c (.ptr 4 0)),(6,.c (.ptr 0 0)),(8,.c (.sl 5 7 0 n)),(9,iV (i:Nat))] (ldH D2 [.cells 27 [.p (listP encPg 7 M)],.row 31 7 n F])) (repD M2) (rowW out)) (fun (i,out) => i≤n∧out.length=n∧∀ q∈out,q.L≠[]) (fun (i,_) => n - i) (0,out0) ⟨Nat.zero_le _,hn0,hne0⟩ (WeakS.refl _) ?_
 rintro ⟨i,out⟩ ⟨hi,hn,hne⟩ Q1 q1n q1e -
 refine ExS.evG ext0_sound 2 (tPa6a M out (repD M2) n i) ?_
 simp only [holds_bT,holds_rq,holds_leaf,kf_ret',kf_normal,kf_exit,decide_eq_true_eq,decide_eq_false_iff_not]
 refine ⟨fun h1 => ⟨?_⟩,fun h1 => ⟨q1e _ ?_⟩⟩
 · have hlt:i<n:=by omega
   have hlo:i<out.length:=by omega
   refine ExS.pre ((weak_proj [1,3,4,5,0,2] (msk 129 [5,6,8,9]) (by kernel_rfl) _).trans ((weak_of_eq (st':=(fun D2 F => cst 129 [(5,.c (.ptr 4 0)),(6,.c (.ptr 0 0)),(8,.c (.sl 5 7 0 n)),(9,iV (i:Nat))] (ldH D2 [.cells 27 [.p (listP encPg 7 M)],.row 31 7 n F])) (repD M2) fun e o => renC [1,3,4,5,0,2] (renC [4,0,5,1,2,3] (rowW out e o))) (by kernel_rfl)).trans (apW_cst _ fun e o _ _ => (congrArg (renC _) (ren_rowW _ _ _ _)).trans (ren_rowW _ _ _ _)))) ?_
   have hL:0<(out.getD i default).L.length:=List.length_pos_iff.2 (hne _ (by
    rw [List.getD_eq_getElem?_getD,List.getElem?_eq_getElem hlo]
    exact List.getElem_mem _))
   have hf:rowW out i 3=.own 56 2 (out.getD i default).L.length (rowP enc2 (out.getD i default).L):=lbW_own hL
   refine ExS.pre ((weak_open (id:=5) (e0:=i) (k0:=3) (sz:=7) (n:=n) (f:=rowW out) rfl hlt (by decide) hf).trans (weak_of_eq (st':=(fun D2 p => cst 129 [(5,.c (.ptr 4 0)),(6,.c (.ptr 0 0)),(8,.c (.sl 5 7 0 n)),(9,iV (i:Nat))] (ldH D2 [.cells 27 [.p (listP encPg 7 M)],.foc 31 7 n i [.p (.i .i64 p.kd),.p (.s p.ru),.p (.i .i64 p.ve),.sl 6 2 0 p.L.length,.p (.i .i64 p.st),.p (.i .i64 p.se),.p (.s p.to)] (rowW out),.row 56 2 p.L.length (rowC enc2 p.L)])) (repD M2) (out.getD i default)) (by kernel_rfl))) ?_
   generalize out.getD i default=p at hL ⊢
   refine ExS.evH ext0_sound (tPa6n M out (repD M2) p n i) ?_
   simp only [holds_bT,holds_rq,holds_leaf,kf_ret',kf_normal,kf_exit,decide_eq_true_eq,decide_eq_false_iff_not]
   refine ⟨⟨by omega,by omega⟩,by omega,fun _ => ⟨⟨by omega,by omega⟩,by omega,⟨by omega,by omega⟩,hL,by unfold inR;omega,⟨?_⟩⟩,fun h => absurd h (by omega)⟩
   refine q1n (i+1,out.set i ⟨p.kd,p.ru,p.ve,spoil p.L,p.st,p.se,p.to⟩) _ ⟨by omega,by rw [List.length_set];exact hn,fun q hq => (List.mem_or_eq_of_mem_set hq).elim (hne q) (fun e => by rw [e];exact spoil_ne hL)⟩ (by simp only;omega) ?_
   refine (weak_close (id:=2) (m:=6) (sz:=7) (sz':=2) (e0:=i) (k0:=3) (g:=rowP enc2 (spoil p.L)) rfl rfl (fun e o he ho => spoil_row hL he ho) (by decide) rfl (fun o ho h3 => cells_own (by rfl) ho h3)).trans ((weak_proj [1,3,4,5,0,2] (msk 129 [5,6,8,9]) (by kernel_rfl) _).trans ((weak_of_eq (st':=(fun D2 F i => cst 129 [(5,.c (.ptr 4 0)),(6,.c (.ptr 0 0)),(8,.c (.sl 5 7 0 n)),(9,iV (i:Nat))] (ldH D2 [.cells 27 [.p (listP encPg 7 M)],.row 31 7 n F])) (repD M2) (fun e o => renC [1,3,4,5,0,2] (if e=i then (if o=3 then .own 56 2 p.L.length (rowP enc2 (spoil p.L)) else nth .top [.p (.i .i64 p.kd),.p (.s p.ru),.p (.i .i64 p.ve),.sl 6 2 0 p.L.length,.p (.i .i64 p.st),.p (.i .i64 p.se),.p (.s p.to)] o) else renC [4,0,5,1,2,3,6] (rowW out e o))) (i+1)) (by kernel_rfl)).trans (apW_cst _ fun e o _ ho => spoil_step hlo (p:=⟨p.kd,p.ru,p.ve,spoil p.L,p.st,p.se,p.to⟩) hL rfl (by rfl) ho)))
 · exact ExS.pre ((weak_proj [1,3,4,5,0] (msk 129 [5,6]) (by kernel_rfl) _).trans (weak_of_eq (by kernel_rfl))) next
end
end Go.AE
namespace Go.AE
set_option linter.unusedVariables false
set_option linter.unusedSimpArgs false
open Go.Proofs Go.Proofs.Ytfjihbmehhccoaa Gp Go.RowKit
theorem hq_at {ρ:List Nat} {e o:Nat} (he:e<1) (ho:o<2):renC ρ (nth C.top [C.p (PV.s (ByteArray.mk #[104,111,115,116])),C.p (PV.s (ByteArray.mk #[113]))] (e * 2+o))=.p (rowP enc2 [(⟨#[104,111,115,116]⟩,⟨#[113]⟩)] e o):=by
 obtain rfl:e=0:=by omega
 have:o=0∨o=1:=by omega
 rcases this with rfl | rfl <;> rfl
theorem pX_ok:pgOK (⟨0,⟨#[111,116,104,101,114]⟩,3,[(⟨#[104,111,115,116]⟩,⟨#[113]⟩)],4,5,⟨#[]⟩⟩:Pg)=true:=by kernel_rfl
theorem pX_ok9:pgOK (⟨0,⟨#[111,116,104,101,114]⟩,3,[(⟨#[104,111,115,116]⟩,⟨#[113]⟩)],0,9,⟨#[]⟩⟩:Pg)=true:=by kernel_rfl
section
variable {G:Nat→Option Obj}
set_option maxRecDepth 100000 in
set_option maxHeartbeats 1000000 in
theorem pagesApart_fn (A B:List Int) (hA:∀ t∈A,inR .i64 t) (hB:∀ t∈B,inR .i64 t) (hAl:A.length≤9223372036854775807) (h:List AO):FnS Try.prog G 6 [listV encI 1 A,listV encI 1 B] h fun x h' => x=bV true∧h'=h:=by
 refine fn_S Try.func6 (by kernel_rfl) rfl ?_ h
 have hM:=okM_of A
 have hLg:=leg_ofZ A
 have hMl:=ofZ_len A
 have hMv:∀ q∈ofZ A,q.ve<3:=ofL_ve A _
 refine ExS.evG (extS1_sound (ofZ A) (repD (ofZ A))) 5 (tPa1 A B (ofZ A) (repD (ofZ A))) ?_
 simp only [holds_bT,holds_rq,holds_leaf,kf_ret',kf_normal,decI_row]
 refine ⟨⟨isL_row _ _ _,hA,hAl,trivial⟩,⟨⟨trivial,fun _ _ _ _ => PLe.refl _⟩,⟨hLg,by omega⟩,trivial⟩,⟨?_⟩⟩
 generalize ofZ A=M at hM hLg hMl hMv ⊢
 refine ExS.pre ((weak_proj [1,2,3,4,0] (msk 129 [1,5,6]) (by kernel_rfl) _).trans (weak_of_eq (st':=(fun D => cst 129 [(1,listV encI 1 B),(5,.c (.ptr 4 0)),(6,.c (.ptr 0 0))] (ldH D [.cells 27 [.p (listP encPg 7 M)]])) (repD M)) (by kernel_rfl))) ?_
 refine ExS.evG ext0_sound 1 (tPa2 B M (repD M)) ?_
 simp only [holds_leaf,kf_normal]
 refine ⟨?_⟩
 refine ExS.pre ((weak_frzL (id:=6) (ty:=56) (sz:=2) (n:=1) (f:=fun e o => renC [4,0,6,1,2,3,5] (nth C.top [C.p (PV.s (ByteArray.mk #[104,111,115,116])),C.p (PV.s (ByteArray.mk #[113]))] (e * 2+o))) (rowP enc2 [(⟨#[104,111,115,116]⟩,⟨#[113]⟩)]) (by kernel_rfl) (fun e o he ho => by rw [hq_at he ho];rfl) (fun e o he ho => by rw [hq_at he ho];exact PLe.refl _) (ps:=[(0,1)]) (by kernel_rfl) (by simp)).trans ((weak_proj [1,3,4,5,0,2] (msk 129 [1,5,6,7]) (by kernel_rfl) _).trans (weak_of_eq (st':=(fun D p => cst 129 [(1,listV encI 1 B),(5,.c (.ptr 4 0)),(6,.c (.ptr 0 0)),(7,.c (.ptr 5 0))] (ldH D [.cells 27 [.p (listP encPg 7 M)],.cells 31 [.p (.i .i64 p.kd),.p (.s p.ru),.p (.i .i64 p.ve),.p (listP enc2 2 p.L),.p (.i .i64 p.st),.p (.i .i64 p.se),.p (.s p.to)]])) (repD M) (⟨0,⟨#[111,116,104,101,114]⟩,3,[(⟨#[104,111,115,116]⟩,⟨#[113]⟩)],4,5,⟨#[]⟩⟩:Pg)) (by kernel_rfl)))) ?_
 have hst:stZ M (⟨0,⟨#[111,116,104,101,114]⟩,3,[(⟨#[104,111,115,116]⟩,⟨#[113]⟩)],4,5,⟨#[]⟩⟩:Pg) = -1:=stZ_no fun q hq => sameM_ve (by have:=hMv q hq;show q.ve≠3;omega)
 have hfr:=frZ_new pX_ok rfl hst
 have hpk:=pX_ok
 have hp9:=pX_ok9
 have hp3:((⟨0,⟨#[111,116,104,101,114]⟩,3,[(⟨#[104,111,115,116]⟩,⟨#[113]⟩)],4,5,⟨#[]⟩⟩:Pg)).ve=3:=rfl
 have hpL:0<((⟨0,⟨#[111,116,104,101,114]⟩,3,[(⟨#[104,111,115,116]⟩,⟨#[113]⟩)],4,5,⟨#[]⟩⟩:Pg)).L.length:=by decide
 have hp9:pgOK ⟨0,((⟨0,⟨#[111,116,104,101,114]⟩,3,[(⟨#[104,111,115,116]⟩,⟨#[113]⟩)],4,5,⟨#[]⟩⟩:Pg)).ru,((⟨0,⟨#[111,116,104,101,114]⟩,3,[(⟨#[104,111,115,116]⟩,⟨#[113]⟩)],4,5,⟨#[]⟩⟩:Pg)).ve,((⟨0,⟨#[111,116,104,101,114]⟩,3,[(⟨#[104,111,115,116]⟩,⟨#[113]⟩)],4,5,⟨#[]⟩⟩:Pg)).L,0,9,⟨#[]⟩⟩=true:=pX_ok9
 have hkd:((⟨0,⟨#[111,116,104,101,114]⟩,3,[(⟨#[104,111,115,116]⟩,⟨#[113]⟩)],4,5,⟨#[]⟩⟩:Pg)).kd=0:=rfl
 generalize (⟨0,⟨#[111,116,104,101,114]⟩,3,[(⟨#[104,111,115,116]⟩,⟨#[113]⟩)],4,5,⟨#[]⟩⟩:Pg)=p at hst hfr hpk hp9 hp3 hpL hkd ⊢
 have hve:inR .i64 p.ve:=by rw [hp3];unfold inR;omega
 obtain ⟨M1,hM1e⟩:∃ M1,M1=M ++ [p]:=⟨_,rfl⟩
 rw [← hM1e] at hfr
 have hM1:OkM M1:=(frZ_okM hM (by omega) hve hfr).1
 have hM1l:M1.length≤1276:=(frZ_okM hM (by omega) hve hfr).2.1
 refine ExS.evG (extPa3_sound (repD M) (repD M1) M M1 p) 2 (tPa3 B M M1 p (repD M) (repD M1)) ?_
 simp only [holds_bT,holds_rq,holds_leaf,kf_ret',kf_normal,dec2_row]
 refine ⟨⟨⟨⟨isL_row _ _ _,trivial⟩,trivial,trivial,fun _ _ _ _ => trivial,trivial,trivial,trivial,trivial⟩,⟨hM,hve⟩,hfr,trivial,trivial⟩,⟨?_⟩⟩
 refine ExS.pre ((weak_proj [1,3,4,5,0,2] (msk 129 [1,5,6,7]) (by kernel_rfl) _).trans (weak_of_eq (st':=(fun D => cst 129 [(1,listV encI 1 B),(5,.c (.ptr 4 0)),(6,.c (.ptr 0 0)),(7,.c (.ptr 5 0))] (ldH D [.cells 27 [.p (listP encPg 7 M)],.cells 31 [.p (.i .i64 p.kd),.p (.s p.ru),.p (.i .i64 p.ve),.p (listP enc2 2 p.L),.p (.i .i64 p.st),.p (.i .i64 p.se),.p (.s p.to)]])) (repD M1)) (by kernel_rfl))) ?_
 obtain ⟨M2,out,ham⟩:∃ M2 out,amZ M1 ⟨p.kd,p.ru,p.ve,p.L,p.st,9,p.to⟩ (startsZ B 0)=(M2,out):=⟨_,_,rfl⟩
 have hinv:=amZ_inv hM1 ⟨p.kd,p.ru,p.ve,p.L,p.st,9,p.to⟩ (startsZ B 0) hve
 have hlen:=amZ_len M1 ⟨p.kd,p.ru,p.ve,p.L,p.st,9,p.to⟩ (startsZ B 0)
 have hTl:=startsZ_len B 0
 have hTt:=startsZ_tick B 0
 have hTall:(startsZ B 0).all tickZ=true:=List.all_eq_true.2 hTt
 have hi0:inPos 0:=by unfold inPos;omega
 rw [ham] at hinv hlen
 obtain ⟨o1,o2⟩:=amZ_out' ham
 have hM2l:M2.length≤2600:=by
  have:M2.length≤2 * M1.length+(startsZ B 0).length:=hlen
  omega
 have hM2:OkM M2:=⟨hinv,by omega⟩
 have hol:out.length≤2600:=by rw [o1,List.length_append] at hM2l;omega
 have hov:∀ q∈out,q.ve=3:=by
  unfold amZ at ham
  split at ham
  · injection ham with _ h2
    subst h2
    intro q hq
    unfold amO at hq
    obtain ⟨t,_,rfl⟩:=List.mem_map.1 hq
    exact hp3
  · injection ham with _ h2
    subst h2
    intro q hq;cases hq
 refine ExS.evG (extPa4_sound (repD M1) (repD M2) M1 M2 out ⟨p.kd,p.ru,p.ve,p.L,p.st,9,p.to⟩ (startsZ B 0)) 2 (tPa4 B (startsZ B 0) M M1 M2 out p ⟨p.kd,p.ru,p.ve,p.L,p.st,9,p.to⟩ (repD M1) (repD M2)) ?_
 simp only [holds_bT,holds_rq,holds_leaf,kf_ret',kf_normal,dec2_row,decI_row]
 refine ⟨⟨isL_row _ _ _,hB,hi0,trivial⟩,⟨⟨⟨⟨⟨isL_row _ _ _,trivial⟩,trivial,trivial,fun _ _ _ _ => trivial,trivial,trivial,trivial,trivial⟩,isL_row _ _ _⟩,trivial,trivial,trivial⟩,⟨hM1,hve,by omega,hpL,hp9,hTall⟩,ham,trivial,trivial⟩,⟨?_⟩⟩
 have e:dropL 2 (dropL 2 (dropL 1 (dropL 5 (pcs Try.prog Try.f6))))=dropL 10 (pcs Try.prog Try.f6):=by kernel_rfl
 rw [e]
 refine ExS.pre ((weak_proj [1,3,4,5,0,2] (msk 129 [5,6,8,9]) (by kernel_rfl) _).trans ((weak_of_eq (st':=(fun D2 n F i => cst 129 [(5,.c (.ptr 4 0)),(6,.c (.ptr 0 0)),(8,.c (.sl 5 7 0 n)),(9,iV (i:Nat))] (ldH D2 [.cells 27 [.p (listP encPg 7 M)],.row 31 7 n F])) (repD M2) out.length (fun e o => renC [1,3,4,5,0,2] (renC [4,0,11,8,9,10] (rowW out e o))) 0) (by kernel_rfl)).trans (apW_cst _ fun e o _ _ => (congrArg (renC _) (ren_rowW _ _ _ _)).trans (ren_rowW _ _ _ _)))) ?_
 have he:M2=M ++ ([p] ++ out):=by rw [o1,hM1e,List.append_assoc]
 exact apart_out rfl (by omega) (fun q hq hn => by
   have:=o2 q hq
   rw [hn] at this
   rw [← show ([]:List (ByteArray × ByteArray))=p.L from this] at hpL
   simp at hpL) (apart_all hM2 (apart_valid hM hMl hM2 he (fun q hq y hy => by
    have h1:=hMv q hq
    have h2:y.ve=3:=by
     rcases List.mem_append.1 hy with hy | hy
     · rw [List.mem_singleton.1 hy];exact hp3
     · exact hov y hy
    omega)))
end
end Go.AE
