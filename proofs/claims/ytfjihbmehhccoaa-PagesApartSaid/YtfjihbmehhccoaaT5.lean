/- Pages: P43, P44, P45, P46, P47, P48, P49, P50, P53, P54, P55, P56, as far as they are used here. -/
import Derived.Test.YtfjihbmehhccoaaT4
import Derived.Test.YtfjihbmehhccoaaT2
namespace Go.AE
set_option linter.unusedVariables false
set_option linter.unusedSimpArgs false
open Go.Proofs Go.Proofs.Ytfjihbmehhccoaa Gp Go.RowKit
def extSe:Ext:=extOf [(49,mSep)]
theorem tAl1 (D:Ld) (rest:List AO) (b:Nat):exTs ext0 (takeL 3 (pcs Try.prog Try.f26)) (stIn Try.f26 [0,1,2,3] [0] [b] [.c (.ptr 0 0)] (ldH D rest)) (endM [0] (msk 28 [0,3,15,16,17]) (resOf Try.prog Try.f26))=Tr.rq (Int.ofNat 0≤Int.ofNat 0∧0≤(↑D.M.length:Int)∧(↑D.M.length:Int) * (↑88:Int)≤140737488355328∧(↑D.M.length:Int)≤140737488355328)
 (.done .normal
 (cst 28 [(0,.c (.ptr 0 0)),(3,.c (.sl 1 7 0 0)),(15,.c (.sl 2 7 0 D.M.length)),(16,.c (.p (.i .i64 (↑D.M.length:Int)))),(17,.c (.p (.i .i64 0)))] [.pin 3 b,.row 31 7 0 fun e o => renC [4,5,1,0,2,3] (C.p (nth (PV.b false) [PV.i IntKind.i64 0,PV.s (ByteArray.mk #[]),PV.i IntKind.i64 0,PV.z (Value.slice none 0 0),PV.i IntKind.i64 0,PV.i IntKind.i64 0,PV.s (ByteArray.mk #[])] o)),.row 31 7 D.M.length fun e o => renC [4,5,1,0,2,3] (renC [0,1,2,3] (rowC encPg D.M e o)),.cells 86 [.sl 2 7 0 D.M.length,.mp 4,.mp 5],.mapb (okK Try.prog 81) D.gp,.mapl (okK Try.prog 79) 3 1 D.gs none])):=by kernel_rfl
theorem tAl2 (D:Ld) (b k i:Nat) (out:List Pg):exTs extSe (lpB (pcs Try.prog Try.f26) 3) (cst 28 [(0,.c (.ptr 0 0)),(3,.c (.sl 1 7 0 k)),(15,.c (.sl 2 7 0 D.M.length)),(16,iV (D.M.length:Nat)),(17,iV (i:Nat))] [.pin 3 b,.row 31 7 k (rowC encPg out),.row 31 7 D.M.length (rowC encPg D.M),.cells 86 [.sl 2 7 0 D.M.length,.mp 4,.mp 5],.mapb (okK Try.prog 81) D.gp,.mapl (okK Try.prog 79) 3 1 D.gs none]) (endM [0] (msk 28 [0,3,15,16,17]) (resOf Try.prog Try.f26))=bT (decide ((↑i:Int)<(↑D.M.length:Int)))
 (.rq (0≤(↑i:Int)∧(↑i:Int)<(↑D.M.length:Int))
 (.rq ((↑i:Int).toNat+0<D.M.length)
 (.rq
 (IsL enc2 2 (decL dec2 (D.M.getD ((↑i:Int).toNat+0) default).L.length (rowP enc2 (D.M.getD ((↑i:Int).toNat+0) default).L)) (D.M.getD ((↑i:Int).toNat+0) default).L.length
 (rowP enc2 (D.M.getD ((↑i:Int).toNat+0) default).L) ∧
 (decL dec2 (D.M.getD ((↑i:Int).toNat+0) default).L.length (rowP enc2 (D.M.getD ((↑i:Int).toNat+0) default).L)).length≤1000000)
 (.rq (k=k)
 (.rq (1≤1)
 (.rq
 ((k+1) * 88≤140737488355328 ∧
 k+1≤140737488355328 ∧
 ∀ (e o:Nat),
 e<1 →
 o<7 →
 oneC
 (bslF
 [C.p (PV.i IntKind.i64 (D.M.getD ((↑i:Int).toNat+0) default).kd),C.p (PV.s (D.M.getD ((↑i:Int).toNat+0) default).ru),
 C.p (PV.i IntKind.i64 (D.M.getD ((↑i:Int).toNat+0) default).ve),
 C.p
 (PV.l 2 (decL dec2 (D.M.getD ((↑i:Int).toNat+0) default).L.length (rowP enc2 (D.M.getD ((↑i:Int).toNat+0) default).L)).length
 (rowP enc2 (decL dec2 (D.M.getD ((↑i:Int).toNat+0) default).L.length (rowP enc2 (D.M.getD ((↑i:Int).toNat+0) default).L)))),
 C.p (PV.i IntKind.i64 (D.M.getD ((↑i:Int).toNat+0) default).st),C.p (PV.i IntKind.i64 (D.M.getD ((↑i:Int).toNat+0) default).se),
 C.p (PV.s (D.M.getD ((↑i:Int).toNat+0) default).to)]
 7 1 (e+0) o) =
 true)
 (.rq (inR IntKind.i64 ((↑i:Int)+1))
 (.done .normal
 (cst 28 [(0,.c (.ptr 0 0)),(3,.c (.sl 1 7 0 (k+1))),(15,.c (.sl 2 7 0 D.M.length)),(16,.c (.p (.i .i64 (↑D.M.length:Int)))),(17,.c (.p (.i .i64 ((↑i:Int)+1))))] [.pin 3 b,.row 31 7 (k+1) fun e o => renC [0,8,2,3,4,5] (appF k (rowC encPg out) (fun e o => nth C.top [C.p (PV.i IntKind.i64 (D.M.getD ((↑i:Int).toNat+0) default).kd),C.p (PV.s (D.M.getD ((↑i:Int).toNat+0) default).ru),C.p (PV.i IntKind.i64 (D.M.getD ((↑i:Int).toNat+0) default).ve),C.p (PV.l 2 (decL dec2 (D.M.getD ((↑i:Int).toNat+0) default).L.length (rowP enc2 (D.M.getD ((↑i:Int).toNat+0) default).L)).length (rowP enc2 (decL dec2 (D.M.getD ((↑i:Int).toNat+0) default).L.length (rowP enc2 (D.M.getD ((↑i:Int).toNat+0) default).L)))),C.p (PV.i IntKind.i64 (D.M.getD ((↑i:Int).toNat+0) default).st),C.p (PV.i IntKind.i64 (D.M.getD ((↑i:Int).toNat+0) default).se),C.p (PV.s (D.M.getD ((↑i:Int).toNat+0) default).to)] ((e+0) * 7+o)) e o),.row 31 7 D.M.length fun e o => renC [0,8,2,3,4,5] (rowC encPg D.M e o),.cells 86 [.sl 2 7 0 D.M.length,.mp 4,.mp 5],.mapb (okK Try.prog 81) D.gp,.mapl (okK Try.prog 79) 3 1 D.gs none])))))))))
 (.done (.exit 0)
 (cst 28 [(0,.c (.ptr 0 0)),(3,.c (.sl 1 7 0 k)),(15,.c (.sl 2 7 0 D.M.length)),(16,.c (.p (.i .i64 (↑D.M.length:Int)))),(17,.c (.p (.i .i64 (↑i:Int))))] [.pin 3 b,.row 31 7 k fun e o => renC [0,1,2,3,4,5] (rowC encPg out e o),.row 31 7 D.M.length fun e o => renC [0,1,2,3,4,5] (rowC encPg D.M e o),.cells 86 [.sl 2 7 0 D.M.length,.mp 4,.mp 5],.mapb (okK Try.prog 81) D.gp,.mapl (okK Try.prog 79) 3 1 D.gs none])):=by kernel_rfl
theorem tAl3 (D:Ld) (b:Nat) (out:List Pg):exTs ext0 (dropL 4 (pcs Try.prog Try.f26)) (cst 28 [(0,.c (.ptr 0 0)),(3,listV encPg 7 out)] [.pin 1 b,.cells 86 [.sl 2 7 0 D.M.length,.mp 3,.mp 4],.row 31 7 D.M.length (rowC encPg D.M),.mapb (okK Try.prog 81) D.gp,.mapl (okK Try.prog 79) 3 1 D.gs none]) (endM [0] [] (resOf Try.prog Try.f26))=Tr.done X.ret
 (cst 2 [(0,.c (.ptr 0 0)),(1,.c (.p (.l 7 out.length (rowP encPg out))))] [.pin 1 b,.cells 86 [.sl 2 7 0 D.M.length,.mp 3,.mp 4],.row 31 7 D.M.length fun e o => renC [0,1,2,3,4] (rowC encPg D.M e o),.mapb (okK Try.prog 81) D.gp,.mapl (okK Try.prog 79) 3 1 D.gs none]):=by kernel_rfl
end Go.AE
namespace Go.AE
set_option linter.unusedVariables false
set_option linter.unusedSimpArgs false
open Go.Proofs Go.Proofs.Ytfjihbmehhccoaa Gp Go.RowKit
section
variable {G:Nat→Option Obj}
theorem extSe_sound:SoundExt Try.prog G extSe:=extOf_sound (by simp;exact okSep)
set_option maxRecDepth 100000 in
theorem all_main (D:Ld) (h1:D.M.length≤1000000) (h2:∀ p∈D.M,p.L.length≤1000000) (rest:List AO) (b:Nat) (Q:X→St→Prop):ExZ Try.prog G (Zm [0] (resOf Try.prog Try.f26) fun s => WeakS G s ⟨[.c (.ptr 0 0)] ++ [listV encPg 7 D.M],ldE D b⟩) (pcs Try.prog Try.f26) (stIn Try.f26 [0,1,2,3] [0] [b] [.c (.ptr 0 0)] (ldH D rest)) Q:=by
 refine ExZ.evG ext0_sound 3 (tAl1 D rest b) ?_
 simp only [holds_rq,holds_leaf,kz_normal]
 refine ⟨⟨by decide,by omega,by omega,by omega⟩,⟨?_⟩⟩
 refine ExZ.loop' (l:=dropL 3 (pcs Try.prog Try.f26)) (b:=inr (inr (nth .skip (pcs Try.prog Try.f26) 3))) (r:=dropL 4 (pcs Try.prog Try.f26)) (id:=0) (by kernel_rfl) (σ:=Nat)
   (fun i => (fun out k => cst 28 [(0,.c (.ptr 0 0)),(3,.c (.sl 1 7 0 k)),(15,.c (.sl 2 7 0 D.M.length)),(16,iV (D.M.length:Nat)),(17,iV (i:Nat))] [.pin 3 b,.row 31 7 k (rowC encPg out),.row 31 7 D.M.length (rowC encPg D.M),.cells 86 [.sl 2 7 0 D.M.length,.mp 4,.mp 5],.mapb (okK Try.prog 81) D.gp,.mapl (okK Try.prog 79) 3 1 D.gs none]) (D.M.take i) (D.M.take i).length) (fun i => i≤D.M.length) (fun i => D.M.length - i) 0 (Nat.zero_le _) (weak_cst ⟨rfl,⟨rfl,rfl,rfl,fun e o he => absurd he (Nat.not_lt_zero _)⟩,⟨rfl,rfl,rfl,fun e o he ho => rfl⟩,rfl,rfl,rfl,trivial⟩) ?_
 intro i hi Q1 q1n q1e _
 refine ExZ.evH (keep:=msk 28 [0,3,15,16,17]) extSe_sound (tAl2 D b (D.M.take i).length i (D.M.take i)) ?_
 have hl:(D.M.take i).length=i:=by rw [List.length_take];omega
 simp only [holds_bT,holds_rq,holds_leaf,kz_normal,kz_exit,decide_eq_true_eq,decide_eq_false_iff_not,inR,show ∀ x:Nat,x+0=x from fun _ => rfl,Int.toNat_natCast,dec2_row]
 refine ⟨fun hlt => ?_,fun hge => ⟨q1e _ ?_⟩⟩
 · have hlt:i<D.M.length:=by omega
   have hsn:=takeD hlt
   have hL:(D.M.getD i default).L.length≤1000000:=h2 _ (by
    rw [List.getD_eq_getElem?_getD,List.getElem?_eq_getElem hlt]
    exact List.getElem_mem _)
   generalize D.M.getD i default=p at hsn hL ⊢
   refine ⟨by omega,hlt,⟨isL_row _ _ _,hL⟩,trivial,Nat.le_refl _,⟨by omega,by omega,fun e o he ho => ?_⟩,by omega,⟨?_⟩⟩
   · obtain rfl:e=0:=by omega
     have:o=0∨o=1∨o=2∨o=3∨o=4∨o=5∨o=6:=by omega
     rcases this with rfl | rfl | rfl | rfl | rfl | rfl | rfl <;> rfl
   · refine q1n (i+1) _ (by omega) (by omega) ?_
     have hlx:(D.M.take i).length+1=(D.M.take (i+1)).length:=by rw [hsn];simp
     rw [hlx]
     refine weak_cst ⟨rfl,⟨rfl,rfl,rfl,fun e o he ho => ?_⟩,⟨rfl,rfl,rfl,fun e o he ho => rfl⟩,rfl,rfl,rfl,trivial⟩
     show _=rowC encPg (D.M.take (i+1)) e o
     rw [hsn]
     refine app1' (ρ:=[0,8,2,3,4,5]) rfl (pg_at p.kd p.ve p.st p.se p.ru p.to p.L) ?_ ho
     have he:e<(D.M.take (i+1)).length:=he
     rw [hsn] at he
     simpa using he
 · obtain rfl:i=D.M.length:=by omega
   rw [List.take_length]
   refine ExZ.pre ((weak_of_eq (st':=(fun out k i => cst 28 [(0,.c (.ptr 0 0)),(3,.c (.sl 1 7 0 k)),(15,.c (.sl 2 7 0 D.M.length)),(16,iV (D.M.length:Nat)),(17,iV (i:Nat))] [.pin 3 b,.row 31 7 k (rowC encPg out),.row 31 7 D.M.length (rowC encPg D.M),.cells 86 [.sl 2 7 0 D.M.length,.mp 4,.mp 5],.mapb (okK Try.prog 81) D.gp,.mapl (okK Try.prog 79) 3 1 D.gs none]) D.M D.M.length D.M.length) (by kernel_rfl)).trans ((weak_frz (j:=3) (id:=1) (ty:=31) (sz:=7) (n:=D.M.length) (off:=0) (len:=D.M.length) (f:=rowC encPg D.M) (by kernel_rfl) (by kernel_rfl) (by omega) (fun _ _ _ _ => rfl)).trans ((weak_gc (msk 28 [0,3]) _).trans (weak_of_eq (st':=(fun out => cst 28 [(0,.c (.ptr 0 0)),(3,listV encPg 7 out)] [.pin 1 b,.cells 86 [.sl 2 7 0 D.M.length,.mp 3,.mp 4],.row 31 7 D.M.length (rowC encPg D.M),.mapb (okK Try.prog 81) D.gp,.mapl (okK Try.prog 79) 3 1 D.gs none]) D.M) (by kernel_rfl))))) ?_
   refine ExZ.evH (keep:=[]) ext0_sound (tAl3 D b D.M) ?_
   simp only [holds_leaf,kz_ret]
   exact ⟨weak_of_eq (by kernel_rfl)⟩
end
end Go.AE
namespace Go.AE
set_option linter.unusedVariables false
set_option linter.unusedSimpArgs false
open Go.Proofs Go.Proofs.Ytfjihbmehhccoaa Gp Go.RowKit
noncomputable def repD (M:List Pg):Ld:=M.foldl ladd ld0
theorem repD_snoc (M:List Pg) (p:Pg):repD (M ++ [p])=ladd (repD M) p:=by unfold repD;rw [List.foldl_append];rfl
theorem repD_app (M Y:List Pg):repD (M ++ Y)=Y.foldl ladd (repD M):=by unfold repD;rw [List.foldl_append]
theorem fold_M:∀ (M:List Pg) (D:Ld),(M.foldl ladd D).M=D.M ++ M
 | [],D => (List.append_nil _).symm
 | p::M,D => by
   rw [List.foldl_cons,fold_M M]
   show (D.M ++ [p]) ++ M=_
   rw [List.append_assoc];rfl
theorem repD_M (M:List Pg):(repD M).M=M:=fold_M M ld0
theorem fold_inv2:∀ (M:List Pg) (D:Ld),Inv D→(∀ p∈M,Okp p)→Inv (M.foldl ladd D)
 | [],D,h,_ => h
 | p::M,D,h,hM => fold_inv2 M (ladd D p) (inv_add h (hM p (List.mem_cons_self ..))) fun q hq => hM q (List.mem_cons_of_mem _ hq)
theorem repD_inv {M:List Pg} (h:∀ p∈M,Okp p):Inv (repD M):=fold_inv2 M ld0 inv_ld0 h
theorem amFold_ladd (T:List Int) (ru:ByteArray) (ve:Int) (L:List (ByteArray × ByteArray)) (se:Int):∀ (A:List Int) (D:Ld) (out:List Pg),∃ Y,A.foldl (amStep T ru ve L se) (D,out)=(Y.foldl ladd D,out ++ Y)
 | [],D,out => ⟨[],by simp⟩
 | t::A,D,out => by
   rw [List.foldl_cons]
   have step:amStep T ru ve L se (D,out) t=(D,out)∨∃ p,amStep T ru ve L se (D,out) t=(ladd D p,out ++ [p]):=by
    unfold amStep
    dsimp only
    cases (D.gp (mKey ru ve (textLb L) t)).getD false <;> cases decide (t∈T)
    · exact .inl rfl
    · exact .inr ⟨_,rfl⟩
    · exact .inr ⟨_,rfl⟩
    · exact .inl rfl
   rcases step with e | ⟨p,e⟩
   · rw [e];exact amFold_ladd T ru ve L se A D out
   · rw [e]
     obtain ⟨Y,h⟩:=amFold_ladd T ru ve L se A (ladd D p) (out ++ [p])
     exact ⟨p::Y,by rw [h,List.append_assoc];rfl⟩
def OkM (M:List Pg):Prop:=(∀ q∈M,Okp q)∧M.length≤50000
theorem lfire_rep {M:List Pg} (h:OkM M) (p:Pg) (hve:inR .i64 p.ve):lfire (repD M) p=((frZ M p).2,repD (frZ M p).1):=by
 obtain ⟨k1,k2,_⟩:=lfire_link (repD_inv h.1) p hve
 rw [repD_M] at k1 k2
 have k3:(lfire (repD M) p).2=repD M∨(lfire (repD M) p).2=ladd (repD M) p:=by
  unfold lfire
  split <;> first | exact .inl rfl | exact .inr rfl
 refine Prod.ext k1 ?_
 show (lfire (repD M) p).2=repD (frZ M p).1
 rcases k3 with e | e
 · rw [e,repD_M] at k2
   rw [e,← k2]
 · rw [e] at k2
   have k2:(repD M).M ++ [p]=(frZ M p).1:=k2
   rw [repD_M] at k2
   rw [e,← k2,repD_snoc]
theorem amZ_pair (M:List Pg) (p:Pg) (T:List Int):(amZ M p T).1=M ++ (amZ M p T).2:=by
 unfold amZ
 split
 · rfl
 · exact (List.append_nil _).symm
def AmRel (M:List Pg) (p:Pg) (T:List Int) (S:List Int):Prop :=
 StG (repD M) (gKey p.ru p.ve (textLb p.L)) S∧S.length≤M.length∧(pgOK ⟨0,p.ru,p.ve,p.L,0,p.se,⟨#[]⟩⟩=true→∀ t∈S,tickZ t=true)∧VLe (lamend (repD M) p.ru p.ve p.L S T p.se).1 (listV encPg 7 (amZ M p T).2)∧(lamend (repD M) p.ru p.ve p.L S T p.se).2=repD (amZ M p T).1
theorem lamend_rep {M:List Pg} (h:OkM M) (p:Pg) (T:List Int) (hve:inR .i64 p.ve):∃ S,AmRel M p T S:=by
 obtain ⟨S,D',k1,k2,k3,k4,k5,k6,k7⟩:=lamend_link (repD_inv h.1) p T hve
 rw [repD_M] at k2 k3 k6 k7
 have hD:(lamend (repD M) p.ru p.ve p.L S T p.se).2=D'∧VLe (lamend (repD M) p.ru p.ve p.L S T p.se).1 (listV encPg 7 (amZ M p T).2):=by
  cases hc:pgOK ⟨0,p.ru,p.ve,p.L,0,p.se,⟨#[]⟩⟩ && T.all tickZ with
  | true =>
    have:=k6 hc
    rw [this];exact ⟨rfl,VLe.refl _⟩
  | false =>
    obtain ⟨e1,e2⟩:=k7 hc
    rw [e1,e2];exact ⟨rfl,VLe.p (PLe.nil 7 _)⟩
 refine ⟨S,k1,k2,k5,hD.2,?_⟩
 have hY:∃ Y:List Pg,(lamend (repD M) p.ru p.ve p.L S T p.se).2=Y.foldl ladd (repD M):=by
  unfold lamend
  split
  · obtain ⟨Y,hY⟩:=amFold_ladd T p.ru p.ve p.L p.se (compI (sortI (S ++ T))) (repD M) []
    refine ⟨Y,?_⟩
    unfold amFold
    rw [hY]
  · exact ⟨[],rfl⟩
 obtain ⟨Y,hY⟩:=hY
 rw [hY]
 rw [hD.1] at hY
 have e:(repD M).M ++ Y=(amZ M p T).1:=by rw [← k3,hY,fold_M]
 rw [repD_M] at e
 rw [← e,repD_app]
theorem lvalid_rep {M:List Pg} (h:OkM M) (p:Pg):∃ S,StG (repD M) (gKey p.ru p.ve (textLb p.L)) S∧S.length≤M.length∧(pgOK ⟨0,p.ru,p.ve,p.L,0,0,⟨#[]⟩⟩=true→∀ t∈S,tickZ t=true)∧VLe (lvalid (repD M) p.ru p.ve p.L S) (listV encI 1 (pagedZ M p)):=by
 obtain ⟨S,k1,k2,k3,k4⟩:=lvalid_link (repD_inv h.1) p
 rw [repD_M] at k2 k3 k4
 refine ⟨S,k1,k2,fun hc => (k3 hc).1,?_⟩
 cases hc:pgOK ⟨0,p.ru,p.ve,p.L,0,0,⟨#[]⟩⟩ with
 | true => rw [(k3 hc).2];exact VLe.refl _
 | false =>
   obtain ⟨e1,e2⟩:=k4 hc
   rw [e2,e1]
   exact VLe.p (PLe.nil 1 _)
theorem fits_rep {M:List Pg} (h:OkM M) {p:Pg} (hp:pgOK p=true) (hve:inR .i64 p.ve):Fits (repD M) p:=by
 obtain ⟨k1,k2,k3,k4,k5,k6⟩:=pgOK_iff.1 hp
 obtain ⟨S,hv,h2,_⟩:=(repD_inv h.1).vw p.ru p.ve p.L k3
 rw [repD_M] at h2
 have t1:p.ru.size≤1000000:=by have:=name_sz k1;omega
 have t2:(textLb p.L).size≤1000000:=by have:=valid_text k3;omega
 have t3:=(validLb_at k3).1
 have t4:=h.2
 refine ⟨okMu_of _ _ _ _ t1 hve t2 (tick_in k4),okGr_of _ _ _ t1 hve t2,t2,by omega,by rw [repD_M];omega,?_⟩
 have:=hv.st.1
 omega
def leLb (x:V) (L:List (ByteArray × ByteArray)):Option Prop:=match lbOf x with
 | some (q,a) => some (q∧a=L)
 | none => none
theorem leLb_le {x:V} {L:List (ByteArray × ByteArray)} {q:Prop} (h:leLb x L=some q) (hq:q):VLe x (listV enc2 2 L):=by
 unfold leLb at h
 split at h
 · rename_i q' a hx
   injection h with h
   subst h
   obtain ⟨h1,rfl⟩:=hq
   exact lbOf_le hx h1
 · cases h
noncomputable def mFireY (D D':Ld) (M:List Pg) (p:Pg) (M':List Pg) (e:Int):ModH
 | [.c (.ptr 0 0),x],h => match isLd D h,lePg x p with
   | some (q,rest),some r => some ((r∧q)∧(OkM M∧inR .i64 p.ve)∧frZ M p=(M',e)∧D=repD M∧D'=repD M',iV e,outH [0,1,2,3] [0] [1] (ldH D rest) (ldE D' 0))
   | _,_ => none
 | _,_ => none
noncomputable def mValidY (D:Ld) (M:List Pg) (p:Pg) (out:List Int):ModH
 | [.c (.ptr 0 0),.c (.p (.s ru)),.c (.p (.i .i64 ve)),x],h => match isLd D h,leLb x p.L with
   | some (q,rest),some r => some (((r∧q)∧ru=p.ru∧ve=p.ve)∧(OkM M∧inR .i64 p.ve)∧pagedZ M p=out∧D=repD M,listV encI 1 out,outH [0,1,2,3] [0] [1] (ldH D rest) (ldE D 0))
   | _,_ => none
 | _,_ => none
noncomputable def mAmendY (D D':Ld) (M:List Pg) (p:Pg) (T:List Int) (M' out:List Pg):ModH
 | [.c (.ptr 0 0),.c (.p (.s ru)),.c (.p (.i .i64 ve)),x,y,.c (.p (.i .i64 se))],h => match isLd D h,leLb x p.L,leI y T with
   | some (q,rest),some r,some s => some ((((r∧q)∧s)∧ru=p.ru∧ve=p.ve∧se=p.se)∧(OkM M∧inR .i64 p.ve∧T.length≤50000)∧amZ M p T=(M',out)∧D=repD M∧D'=repD M',listV encPg 7 out,outH [0,1,2,3] [0] [1] (ldH D rest) (ldE D' 0))
   | _,_,_ => none
 | _,_ => none
section
variable {G:Nat→Option Obj}
theorem FnS.resLe {P:Program} {f:FuncId} {args:List V} {h:List AO} {K K':V→List AO→Prop} (hk:∀ x h',K x h'→∃ x',VLe x x'∧K' x' h') (hf:FnS P G f args h K):FnS P G f args h K':=by
 intro β R w vs ha hh
 refine (hf β R w vs ha hh).mono ?_
 rintro e w' ⟨u,β2,R2,x,h3,q1,q2,q3,q4,q5,q6⟩
 obtain ⟨x',k1,k2⟩:=hk x h3 q2
 exact ⟨u,β2,R2,x',h3,q1,k2,k1 β2 R2 w' u q3,q4,q5,q6⟩
theorem okFireY (D D':Ld) (M:List Pg) (p:Pg) (M':List Pg) (e:Int):ModHOK Try.prog G 25 (mFireY D D' M p M' e):=by
 intro args h p0 v h' hm hp
 unfold mFireY at hm
 split at hm;rotate_left;· cases hm
 split at hm;rotate_left;· cases hm
 rename_i x _ _ q rest r hl hx
 obtain ⟨rfl,rfl,rfl⟩:=some_three hm
 obtain ⟨⟨hr,hq⟩,⟨hM,hve⟩,he,rfl,rfl⟩:=hp
 have hf:=lfire_rep hM p hve
 rw [he] at hf
 have:=fire_fn (G:=G) (repD M) p (fun _ hok => fits_rep hM hok hve) rest
 rw [hf] at this
 exact FnS.ledger hl hq (FnS.args (args':=[.c (.ptr 0 0),pgV p]) this (.cons (.refl _) (.cons (lePg_le hx hr) .nil)))
theorem okValidY (D:Ld) (M:List Pg) (p:Pg) (out:List Int):ModHOK Try.prog G 16 (mValidY D M p out):=by
 intro args h p0 v h' hm hp
 unfold mValidY at hm
 split at hm;rotate_left;· cases hm
 split at hm;rotate_left;· cases hm
 rename_i ru ve x _ _ q rest r hl hx
 obtain ⟨rfl,rfl,rfl⟩:=some_three hm
 obtain ⟨⟨⟨hr,hq⟩,rfl,rfl⟩,⟨hM,hve⟩,rfl,rfl⟩:=hp
 obtain ⟨S,k1,k2,k3,k4⟩:=lvalid_rep hM p
 refine FnS.ledger hl hq (FnS.args (args':=[.c (.ptr 0 0),.c (.p (.s p.ru)),iV p.ve,listV enc2 2 p.L]) (FnS.resLe (fun x' h' hk => ?_) (valid_fn (repD M) p.ru p.ve p.L S k1 (fun hok => ?_) rest)) (.cons (.refl _) (.cons (.refl _) (.cons (.refl _) (.cons (leLb_le hx hr) .nil)))))
 · obtain ⟨rfl,rfl⟩:=hk
   exact ⟨_,k4,rfl,rfl⟩
 · obtain ⟨m1,m2,m3,_⟩:=pgOK_iff.1 hok
   have t1:p.ru.size≤1000000:=by have:p.ru.size≤16:=name_sz m1;omega
   have t2:(textLb p.L).size≤1000000:=by have:(textLb p.L).size≤1000:=valid_text m3;omega
   have t4:=hM.2
   exact ⟨t2,okGr_of _ _ _ t1 hve t2,fun t ht => okMu_of _ _ _ _ t1 hve t2 (tick_in (k3 hok t ht)),by omega⟩
theorem okAmendY (D D':Ld) (M:List Pg) (p:Pg) (T:List Int) (M' out:List Pg):ModHOK Try.prog G 17 (mAmendY D D' M p T M' out):=by
 intro args h p0 v h' hm hp
 unfold mAmendY at hm
 split at hm;rotate_left;· cases hm
 split at hm;rotate_left;· cases hm
 rename_i ru ve x y se _ _ _ q rest r s hl hx hy
 obtain ⟨rfl,rfl,rfl⟩:=some_three hm
 obtain ⟨⟨⟨⟨hr,hq⟩,hs⟩,rfl,rfl,rfl⟩,⟨hM,hve,hT⟩,he,rfl,rfl⟩:=hp
 obtain ⟨S,k1,k2,k3,k4,k5⟩:=lamend_rep hM p T hve
 rw [he] at k4 k5
 refine FnS.ledger hl hq (FnS.args (args':=[.c (.ptr 0 0),.c (.p (.s p.ru)),iV p.ve,listV enc2 2 p.L,listV encI 1 T,iV p.se]) (FnS.resLe (fun x' h' hk => ?_) (amend_fn (repD M) p.ru p.ve p.L S T p.se k1 (fun hok => ?_) (by omega) rest)) (.cons (.refl _) (.cons (.refl _) (.cons (.refl _) (.cons (leLb_le hx hr) (.cons (leI_le hy hs) (.cons (.refl _) .nil)))))))
 · obtain ⟨rfl,rfl⟩:=hk
   exact ⟨_,k4,rfl,by rw [k5]⟩
 · obtain ⟨m1,m2,m3,_⟩:=pgOK_iff.1 hok
   have t1:p.ru.size≤1000000:=by have:p.ru.size≤16:=name_sz m1;omega
   have t2:(textLb p.L).size≤1000000:=by have:(textLb p.L).size≤1000:=valid_text m3;omega
   have t3:p.L.length≤8:=(validLb_at m3).1
   have t4:=hM.2
   exact ⟨t2,t1,hve,by omega,fun t ht => tick_in (k3 hok t ht),by omega,by rw [repD_M];omega⟩
end
end Go.AE
namespace Go.AE
set_option linter.unusedVariables false
set_option linter.unusedSimpArgs false
open Go.Proofs Go.Proofs.Ytfjihbmehhccoaa Gp Go.RowKit
noncomputable def extNw:Ext:=extH [(20,mNew)]
noncomputable def extFY (D D':Ld) (M:List Pg) (p:Pg) (M':List Pg) (e:Int):Ext:=extH [(25,mFireY D D' M p M' e)]
noncomputable def extVY (D:Ld) (M:List Pg) (p:Pg) (out:List Int):Ext:=extH [(16,mValidY D M p out)]
noncomputable def extAY (D D':Ld) (M:List Pg) (p:Pg) (T:List Int) (M' out:List Pg):Ext:=extH [(17,mAmendY D D' M p T M' out)]
theorem tR1 (M:List Pg) (h:List AO):exTs extNw (takeL 5 (pcs Try.prog Try.f11)) (stIn Try.f11 [] [] [] [.a [.p (listP encPg 7 M)]] h) (endM [] (msk 92 [1,3,4]) (resOf Try.prog Try.f11))=Tr.rq True
 (.done .normal
 (cst 92 [(1,.c (.ptr 0 0)),(3,.c (.ptr 1 0)),(4,.c (.p (.i .i64 0)))] [.cells 27 [.p (.l 7 M.length (rowP encPg M))],.cells 86 [.sl 2 7 0 0,.mp 3,.mp 4],.row 31 7 0 fun e o => renC [0,1,2,3,4] (C.p (rowP encPg ld0.M e o)),.mapb (okK Try.prog 81) ld0.gp,.mapl (okK Try.prog 79) 3 1 ld0.gs none])):=by kernel_rfl
theorem tR2 (D:Ld) (M:List Pg) (i:Nat):exTs ext0 (takeL 2 (lpB (pcs Try.prog Try.f11) 5)) (cst 92 [(1,.c (.ptr 4 0)),(3,.c (.ptr 0 0)),(4,iV (i:Nat))] (ldH D [.cells 27 [.p (listP encPg 7 M)]])) (endM [] (msk 92 [1,3,4]) (resOf Try.prog Try.f11))=bT (decide ((↑i:Int)<(↑M.length:Int)))
 (.done .normal
 (cst 92 [(1,.c (.ptr 0 0)),(3,.c (.ptr 1 0)),(4,.c (.p (.i .i64 (↑i:Int))))] [.cells 27 [.p (.l 7 M.length (rowP encPg M))],.cells 86 [.sl 2 7 0 D.M.length,.mp 3,.mp 4],.row 31 7 D.M.length fun e o => renC [4,0,1,2,3] (rowC encPg D.M e o),.mapb (okK Try.prog 81) D.gp,.mapl (okK Try.prog 79) 3 1 D.gs none]))
 (.done (.exit 0)
 (cst 92 [(1,.c (.ptr 0 0)),(3,.c (.ptr 1 0)),(4,.c (.p (.i .i64 (↑i:Int))))] [.cells 27 [.p (.l 7 M.length (rowP encPg M))],.cells 86 [.sl 2 7 0 D.M.length,.mp 3,.mp 4],.row 31 7 D.M.length fun e o => renC [4,0,1,2,3] (rowC encPg D.M e o),.mapb (okK Try.prog 81) D.gp,.mapl (okK Try.prog 79) 3 1 D.gs none])):=by kernel_rfl
theorem tR3 (D:Ld) (M:List Pg) (i:Nat):exTs ext0 (takeL 2 (flat (inr (nth .skip (lpB (pcs Try.prog Try.f11) 5) 2)))) (cst 92 [(1,.c (.ptr 4 0)),(3,.c (.ptr 0 0)),(4,iV (i:Nat))] (ldH D [.cells 27 [.p (listP encPg 7 M)]])) (endM [] (msk 92 [1,3,4,5,27]) (resOf Try.prog Try.f11))=Tr.rq (0≤(↑i:Int)∧(↑i:Int)<(↑M.length:Int))
 (.done .normal
 (cst 92 [(1,.c (.ptr 0 0)),(3,.c (.ptr 1 0)),(4,.c (.p (.i .i64 (↑i:Int)))),(5,.c (.ptr 2 0)),(27,.c (.p (.b ((M.getD (↑i:Int).toNat default).kd == 0))))] [.cells 27 [.p (.l 7 M.length (rowP encPg M))],.cells 86 [.sl 3 7 0 D.M.length,.mp 4,.mp 5],.cells 31 [.p (.i .i64 (M.getD (↑i:Int).toNat default).kd),.p (.s (M.getD (↑i:Int).toNat default).ru),.p (.i .i64 (M.getD (↑i:Int).toNat default).ve),.p (.l 2 (M.getD (↑i:Int).toNat default).L.length (rowP enc2 (M.getD (↑i:Int).toNat default).L)),.p (.i .i64 (M.getD (↑i:Int).toNat default).st),.p (.i .i64 (M.getD (↑i:Int).toNat default).se),.p (.s (M.getD (↑i:Int).toNat default).to)],.row 31 7 D.M.length fun e o => renC [4,0,5,1,2,3] (rowC encPg D.M e o),.mapb (okK Try.prog 81) D.gp,.mapl (okK Try.prog 79) 3 1 D.gs none])):=by kernel_rfl
theorem tR4 (D D':Ld) (M N N':List Pg) (p:Pg) (i:Nat) (e:Int):exTs (extFY D D' N p N' e) (flat (cndA (nth .skip (flat (inr (nth .skip (lpB (pcs Try.prog Try.f11) 5) 2))) 2))) (cst 92 [(1,.c (.ptr 5 0)),(3,.c (.ptr 0 0)),(4,iV (i:Nat)),(5,.c (.ptr 4 0))] (ldH D [.cells 31 [.p (.i .i64 p.kd),.p (.s p.ru),.p (.i .i64 p.ve),.p (listP enc2 2 p.L),.p (.i .i64 p.st),.p (.i .i64 p.se),.p (.s p.to)],.cells 27 [.p (listP encPg 7 M)]])) (endM [] (msk 92 [1,3,4]) (resOf Try.prog Try.f11))=Tr.rq
 (((IsL enc2 2 (decL dec2 p.L.length (rowP enc2 p.L)) p.L.length (rowP enc2 p.L)∧Pg.mk p.kd p.ru p.ve (decL dec2 p.L.length (rowP enc2 p.L)) p.st p.se p.to=p) ∧
 D.M.length=D.M.length ∧
 D.M.length=D.M.length ∧
 (∀ (e o:Nat),e<D.M.length→o<7→rowC encPg D.M e o=rowC encPg D.M e o)∧okK Try.prog 81=okK Try.prog 81∧D.gp=D.gp∧okK Try.prog 79=okK Try.prog 79∧D.gs=D.gs) ∧
 (OkM N∧inR IntKind.i64 p.ve)∧frZ N p=(N',e)∧D=repD N∧D'=repD N')
 (bT (e != 0) (.done .ret (St.mk [V.c (C.p (PV.z (Value.pointer none)))] []))
 (.done (.exit 1)
 (cst 92 [(1,.c (.ptr 0 0)),(3,.c (.ptr 1 0)),(4,.c (.p (.i .i64 (↑i:Int))))] [.cells 27 [.p (.l 7 M.length (rowP encPg M))],.cells 86 [.sl 2 7 0 D'.M.length,.mp 3,.mp 4],.row 31 7 D'.M.length fun e o => renC [5,0,8,9,10] (C.p (rowP encPg D'.M e o)),.mapb (okK Try.prog 81) D'.gp,.mapl (okK Try.prog 79) 3 1 D'.gs none]))):=by kernel_rfl
theorem tR5 (D:Ld) (M N:List Pg) (p:Pg) (now:List Int) (i:Nat):exTs (extVY D N p now) (takeL 3 (dropL 3 (flat (inr (nth .skip (lpB (pcs Try.prog Try.f11) 5) 2))))) (cst 92 [(1,.c (.ptr 5 0)),(3,.c (.ptr 0 0)),(4,iV (i:Nat)),(5,.c (.ptr 4 0))] (ldH D [.cells 31 [.p (.i .i64 p.kd),.p (.s p.ru),.p (.i .i64 p.ve),.p (listP enc2 2 p.L),.p (.i .i64 p.st),.p (.i .i64 p.se),.p (.s p.to)],.cells 27 [.p (listP encPg 7 M)]])) (endM [] (msk 92 [1,3,4,5,6,7,8]) (resOf Try.prog Try.f11))=Tr.rq
 ((((IsL enc2 2 (decL dec2 p.L.length (rowP enc2 p.L)) p.L.length (rowP enc2 p.L)∧decL dec2 p.L.length (rowP enc2 p.L)=p.L) ∧
 D.M.length=D.M.length ∧
 D.M.length=D.M.length ∧
 (∀ (e o:Nat),e<D.M.length→o<7→rowC encPg D.M e o=rowC encPg D.M e o)∧okK Try.prog 81=okK Try.prog 81∧D.gp=D.gp∧okK Try.prog 79=okK Try.prog 79∧D.gs=D.gs) ∧
 p.ru=p.ru∧p.ve=p.ve) ∧
 (OkM N∧inR IntKind.i64 p.ve)∧pagedZ N p=now∧D=repD N)
 (.done .normal
 (cst 92 [(1,.c (.ptr 0 0)),(3,.c (.ptr 1 0)),(4,.c (.p (.i .i64 (↑i:Int)))),(5,.c (.ptr 2 0)),(6,.c (.p (.l 1 now.length (rowP encI now)))),(7,.c (.p (.z (Value.slice none 0 0)))),(8,.c (.p (.i .i64 0)))] [.cells 27 [.p (.l 7 M.length (rowP encPg M))],.cells 86 [.sl 3 7 0 D.M.length,.mp 4,.mp 5],.cells 31 [.p (.i .i64 p.kd),.p (.s p.ru),.p (.i .i64 p.ve),.p (.l 2 p.L.length (rowP enc2 p.L)),.p (.i .i64 p.st),.p (.i .i64 p.se),.p (.s p.to)],.row 31 7 D.M.length fun e o => renC [5,0,4,8,9,10] (C.p (rowP encPg D.M e o)),.mapb (okK Try.prog 81) D.gp,.mapl (okK Try.prog 79) 3 1 D.gs none])):=by kernel_rfl
theorem tR6 (D:Ld) (M:List Pg) (p:Pg) (now out:List Int) (i j k:Nat):exTs ext0 (lpB (flat (inr (nth .skip (lpB (pcs Try.prog Try.f11) 5) 2))) 6) (cst 92 [(1,.c (.ptr 0 0)),(3,.c (.ptr 1 0)),(4,iV (i:Nat)),(5,.c (.ptr 2 0)),(6,listV encI 1 now),(7,.c (.sl 3 1 0 k)),(8,iV (j:Nat))] [.cells 27 [.p (listP encPg 7 M)],.cells 86 [.sl 4 7 0 D.M.length,.mp 5,.mp 6],.cells 31 [.p (.i .i64 p.kd),.p (.s p.ru),.p (.i .i64 p.ve),.p (listP enc2 2 p.L),.p (.i .i64 p.st),.p (.i .i64 p.se),.p (.s p.to)],.row 3 1 k (rowC encI out),.row 31 7 D.M.length (rowC encPg D.M),.mapb (okK Try.prog 81) D.gp,.mapl (okK Try.prog 79) 3 1 D.gs none]) (endM [] (msk 92 [1,3,4,5,6,7,8]) (resOf Try.prog Try.f11))=bT (decide ((↑j:Int)<(↑now.length:Int)))
 (.rq (0≤(↑j:Int)∧(↑j:Int)<(↑now.length:Int))
 (bT (now.getD (↑j:Int).toNat default != p.st)
 (.rq (0≤(↑j:Int)∧(↑j:Int)<(↑now.length:Int))
 (.rq (k=k)
 (.rq (1≤1)
 (.rq
 ((k+1) * 8≤140737488355328∧k+1≤140737488355328∧∀ (e o:Nat),e<1→o<1→oneC (bslF [C.p (PV.i IntKind.i64 (now.getD (↑j:Int).toNat default))] 1 1 (e+0) o)=true)
 (.rq (inR IntKind.i64 ((↑j:Int)+1))
 (.done .normal
 (cst 92 [(1,.c (.ptr 0 0)),(3,.c (.ptr 1 0)),(4,.c (.p (.i .i64 (↑i:Int)))),(5,.c (.ptr 2 0)),(6,.c (.p (.l 1 now.length (rowP encI now)))),(7,.c (.sl 3 1 0 (k+1))),(8,.c (.p (.i .i64 ((↑j:Int)+1))))] [.cells 27 [.p (.l 7 M.length (rowP encPg M))],.cells 86 [.sl 4 7 0 D.M.length,.mp 5,.mp 6],.cells 31 [.p (.i .i64 p.kd),.p (.s p.ru),.p (.i .i64 p.ve),.p (.l 2 p.L.length (rowP enc2 p.L)),.p (.i .i64 p.st),.p (.i .i64 p.se),.p (.s p.to)],.row 3 1 (k+1) fun e o => renC [0,1,2,8,4,5,6] (appF k (rowC encI out) (fun e o => nth C.top [C.p (PV.i IntKind.i64 (now.getD (↑j:Int).toNat default))] ((e+0) * 1+o)) e o),.row 31 7 D.M.length fun e o => renC [0,1,2,8,4,5,6] (rowC encPg D.M e o),.mapb (okK Try.prog 81) D.gp,.mapl (okK Try.prog 79) 3 1 D.gs none])))))))
 (.rq (inR IntKind.i64 ((↑j:Int)+1))
 (.done .normal
 (cst 92 [(1,.c (.ptr 0 0)),(3,.c (.ptr 1 0)),(4,.c (.p (.i .i64 (↑i:Int)))),(5,.c (.ptr 2 0)),(6,.c (.p (.l 1 now.length (rowP encI now)))),(7,.c (.sl 3 1 0 k)),(8,.c (.p (.i .i64 ((↑j:Int)+1))))] [.cells 27 [.p (.l 7 M.length (rowP encPg M))],.cells 86 [.sl 4 7 0 D.M.length,.mp 5,.mp 6],.cells 31 [.p (.i .i64 p.kd),.p (.s p.ru),.p (.i .i64 p.ve),.p (.l 2 p.L.length (rowP enc2 p.L)),.p (.i .i64 p.st),.p (.i .i64 p.se),.p (.s p.to)],.row 3 1 k fun e o => renC [0,1,2,3,4,5,6] (rowC encI out e o),.row 31 7 D.M.length fun e o => renC [0,1,2,3,4,5,6] (rowC encPg D.M e o),.mapb (okK Try.prog 81) D.gp,.mapl (okK Try.prog 79) 3 1 D.gs none])))))
 (.done (.exit 2)
 (cst 92 [(1,.c (.ptr 0 0)),(3,.c (.ptr 1 0)),(4,.c (.p (.i .i64 (↑i:Int)))),(5,.c (.ptr 2 0)),(6,.c (.p (.l 1 now.length (rowP encI now)))),(7,.c (.sl 3 1 0 k)),(8,.c (.p (.i .i64 (↑j:Int))))] [.cells 27 [.p (.l 7 M.length (rowP encPg M))],.cells 86 [.sl 4 7 0 D.M.length,.mp 5,.mp 6],.cells 31 [.p (.i .i64 p.kd),.p (.s p.ru),.p (.i .i64 p.ve),.p (.l 2 p.L.length (rowP enc2 p.L)),.p (.i .i64 p.st),.p (.i .i64 p.se),.p (.s p.to)],.row 3 1 k fun e o => renC [0,1,2,3,4,5,6] (rowC encI out e o),.row 31 7 D.M.length fun e o => renC [0,1,2,3,4,5,6] (rowC encPg D.M e o),.mapb (okK Try.prog 81) D.gp,.mapl (okK Try.prog 79) 3 1 D.gs none])):=by kernel_rfl
theorem tR7 (D:Ld) (M:List Pg) (p:Pg) (out:List Int) (i k:Nat):exTs ext0 (takeL 2 (dropL 7 (flat (inr (nth .skip (lpB (pcs Try.prog Try.f11) 5) 2))))) (cst 92 [(1,.c (.ptr 0 0)),(3,.c (.ptr 1 0)),(4,iV (i:Nat)),(5,.c (.ptr 2 0)),(7,.c (.sl 3 1 0 k))] [.cells 27 [.p (listP encPg 7 M)],.cells 86 [.sl 4 7 0 D.M.length,.mp 5,.mp 6],.cells 31 [.p (.i .i64 p.kd),.p (.s p.ru),.p (.i .i64 p.ve),.p (listP enc2 2 p.L),.p (.i .i64 p.st),.p (.i .i64 p.se),.p (.s p.to)],.row 3 1 k (rowC encI out),.row 31 7 D.M.length (rowC encPg D.M),.mapb (okK Try.prog 81) D.gp,.mapl (okK Try.prog 79) 3 1 D.gs none]) (endM [] (msk 92 [1,3,4,5,7]) (resOf Try.prog Try.f11))=bT (p.kd == 2)
 (.rq (k=k)
 (.rq (1≤1)
 (.rq ((k+1) * 8≤140737488355328∧k+1≤140737488355328∧∀ (e o:Nat),e<1→o<1→oneC (bslF [C.p (PV.i IntKind.i64 p.st)] 1 1 (e+0) o)=true)
 (.done .normal
 (cst 92 [(1,.c (.ptr 0 0)),(3,.c (.ptr 1 0)),(4,.c (.p (.i .i64 (↑i:Int)))),(5,.c (.ptr 2 0)),(7,.c (.sl 3 1 0 (k+1)))] [.cells 27 [.p (.l 7 M.length (rowP encPg M))],.cells 86 [.sl 4 7 0 D.M.length,.mp 5,.mp 6],.cells 31 [.p (.i .i64 p.kd),.p (.s p.ru),.p (.i .i64 p.ve),.p (.l 2 p.L.length (rowP enc2 p.L)),.p (.i .i64 p.st),.p (.i .i64 p.se),.p (.s p.to)],.row 3 1 (k+1) fun e o => renC [0,1,2,8,4,5,6] (appF k (rowC encI out) (fun e o => nth C.top [C.p (PV.i IntKind.i64 p.st)] ((e+0) * 1+o)) e o),.row 31 7 D.M.length fun e o => renC [0,1,2,8,4,5,6] (rowC encPg D.M e o),.mapb (okK Try.prog 81) D.gp,.mapl (okK Try.prog 79) 3 1 D.gs none])))))
 (.done .normal
 (cst 92 [(1,.c (.ptr 0 0)),(3,.c (.ptr 1 0)),(4,.c (.p (.i .i64 (↑i:Int)))),(5,.c (.ptr 2 0)),(7,.c (.sl 3 1 0 k))] [.cells 27 [.p (.l 7 M.length (rowP encPg M))],.cells 86 [.sl 4 7 0 D.M.length,.mp 5,.mp 6],.cells 31 [.p (.i .i64 p.kd),.p (.s p.ru),.p (.i .i64 p.ve),.p (.l 2 p.L.length (rowP enc2 p.L)),.p (.i .i64 p.st),.p (.i .i64 p.se),.p (.s p.to)],.row 3 1 k fun e o => renC [0,1,2,3,4,5,6] (rowC encI out e o),.row 31 7 D.M.length fun e o => renC [0,1,2,3,4,5,6] (rowC encPg D.M e o),.mapb (okK Try.prog 81) D.gp,.mapl (okK Try.prog 79) 3 1 D.gs none])):=by kernel_rfl
theorem tR8 (D D':Ld) (M N N' out:List Pg) (p:Pg) (T:List Int) (i:Nat):exTs (extAY D D' N p T N' out) (takeL 1 (dropL 2 (dropL 7 (flat (inr (nth .skip (lpB (pcs Try.prog Try.f11) 5) 2)))))) (cst 92 [(1,.c (.ptr 5 0)),(3,.c (.ptr 0 0)),(4,iV (i:Nat)),(5,.c (.ptr 4 0)),(7,listV encI 1 T)] (ldH D [.cells 31 [.p (.i .i64 p.kd),.p (.s p.ru),.p (.i .i64 p.ve),.p (listP enc2 2 p.L),.p (.i .i64 p.st),.p (.i .i64 p.se),.p (.s p.to)],.cells 27 [.p (listP encPg 7 M)]])) (endM [] (msk 92 [1,3,4,5,9]) (resOf Try.prog Try.f11))=Tr.rq
 (((((IsL enc2 2 (decL dec2 p.L.length (rowP enc2 p.L)) p.L.length (rowP enc2 p.L)∧decL dec2 p.L.length (rowP enc2 p.L)=p.L) ∧
 D.M.length=D.M.length ∧
 D.M.length=D.M.length ∧
 (∀ (e o:Nat),e<D.M.length→o<7→rowC encPg D.M e o=rowC encPg D.M e o)∧okK Try.prog 81=okK Try.prog 81∧D.gp=D.gp∧okK Try.prog 79=okK Try.prog 79∧D.gs=D.gs) ∧
 IsL encI 1 T T.length (rowP encI T)) ∧
 p.ru=p.ru∧p.ve=p.ve∧p.se=p.se) ∧
 (OkM N∧inR IntKind.i64 p.ve∧T.length≤50000)∧amZ N p T=(N',out)∧D=repD N∧D'=repD N')
 (.done .normal
 (cst 92 [(1,.c (.ptr 0 0)),(3,.c (.ptr 1 0)),(4,.c (.p (.i .i64 (↑i:Int)))),(5,.c (.ptr 2 0)),(9,.c (.p (.l 7 out.length (rowP encPg out))))] [.cells 27 [.p (.l 7 M.length (rowP encPg M))],.cells 86 [.sl 3 7 0 D'.M.length,.mp 4,.mp 5],.cells 31 [.p (.i .i64 p.kd),.p (.s p.ru),.p (.i .i64 p.ve),.p (.l 2 p.L.length (rowP enc2 p.L)),.p (.i .i64 p.st),.p (.i .i64 p.se),.p (.s p.to)],.row 31 7 D'.M.length fun e o => renC [5,0,4,8,9,10] (C.p (rowP encPg D'.M e o)),.mapb (okK Try.prog 81) D'.gp,.mapl (okK Try.prog 79) 3 1 D'.gs none])):=by kernel_rfl
theorem tR9 (D:Ld) (M out:List Pg) (p:Pg) (i:Nat):exTs ext0 (dropL 1 (dropL 2 (dropL 7 (flat (inr (nth .skip (lpB (pcs Try.prog Try.f11) 5) 2)))))) (cst 92 [(1,.c (.ptr 5 0)),(3,.c (.ptr 0 0)),(4,iV (i:Nat)),(5,.c (.ptr 4 0)),(9,listV encPg 7 out)] (ldH D [.cells 31 [.p (.i .i64 p.kd),.p (.s p.ru),.p (.i .i64 p.ve),.p (listP enc2 2 p.L),.p (.i .i64 p.st),.p (.i .i64 p.se),.p (.s p.to)],.cells 27 [.p (listP encPg 7 M)]])) (endM [] (msk 92 [1,3,4]) (resOf Try.prog Try.f11))=bT ((↑out.length:Int) != 1) (.done .ret (St.mk [V.c (C.p (PV.z (Value.pointer none)))] []))
 (.rq (Int.ofNat 0≤Int.ofNat 0∧0<(↑out.length:Int))
 (bT ((out.getD 0 default).kd != p.kd) (.done .ret (St.mk [V.c (C.p (PV.z (Value.pointer none)))] []))
 (.done .normal
 (cst 92 [(1,.c (.ptr 0 0)),(3,.c (.ptr 1 0)),(4,.c (.p (.i .i64 (↑i:Int))))] [.cells 27 [.p (.l 7 M.length (rowP encPg M))],.cells 86 [.sl 2 7 0 D.M.length,.mp 3,.mp 4],.row 31 7 D.M.length fun e o => renC [5,0,1,2,3] (rowC encPg D.M e o),.mapb (okK Try.prog 81) D.gp,.mapl (okK Try.prog 79) 3 1 D.gs none])))):=by kernel_rfl
theorem tR10 (D:Ld) (M:List Pg) (i:Nat):exTs ext0 (dropL 3 (lpB (pcs Try.prog Try.f11) 5)) (cst 92 [(1,.c (.ptr 4 0)),(3,.c (.ptr 0 0)),(4,iV (i:Nat))] (ldH D [.cells 27 [.p (listP encPg 7 M)]])) (endM [] (msk 92 [1,3,4]) (resOf Try.prog Try.f11))=Tr.rq (inR IntKind.i64 ((↑i:Int)+1))
 (.done .normal
 (cst 92 [(1,.c (.ptr 0 0)),(3,.c (.ptr 1 0)),(4,.c (.p (.i .i64 ((↑i:Int)+1))))] [.cells 27 [.p (.l 7 M.length (rowP encPg M))],.cells 86 [.sl 2 7 0 D.M.length,.mp 3,.mp 4],.row 31 7 D.M.length fun e o => renC [4,0,1,2,3] (rowC encPg D.M e o),.mapb (okK Try.prog 81) D.gp,.mapl (okK Try.prog 79) 3 1 D.gs none])):=by kernel_rfl
theorem tR11 (D:Ld):exTs ext0 (dropL 6 (pcs Try.prog Try.f11)) (cst 92 [(3,.c (.ptr 0 0))] (ldH D [])) (endM [] [] (resOf Try.prog Try.f11))=Tr.done X.ret
 (St.mk [V.c (C.ptr 0 0)] [AO.cells 86 [C.sl 1 7 0 D.M.length,C.mp 2,C.mp 3],AO.row 31 7 D.M.length fun e o => renC [0,1,2,3] (rowC encPg D.M e o),AO.mapb (okK Try.prog 81) D.gp,AO.mapl (okK Try.prog 79) 3 1 D.gs none]):=by kernel_rfl
end Go.AE
namespace Go.AE
set_option linter.unusedVariables false
set_option linter.unusedSimpArgs false
open Go.Proofs Go.Proofs.Ytfjihbmehhccoaa Gp Go.RowKit
def LegStep (N:List Pg) (p:Pg):Prop:=Okp p∧((p.kd=0∧stZ N p = -1)∨(p.kd=1∧p.to=⟨#[]⟩∧(pdM N p.ru p.ve p.L p.st).getD false=true)∨(p.kd=2∧p.to=⟨#[]⟩∧(pdM N p.ru p.ve p.L p.st).getD false=false))
theorem getD_snoc_lt {M:List Pg} {p:Pg} {i:Nat} (h:i<M.length):(M ++ [p]).getD i default=M.getD i default∧(M ++ [p]).take i=M.take i:=by
 refine ⟨?_,?_⟩
 · rw [List.getD_eq_getElem?_getD,List.getD_eq_getElem?_getD,List.getElem?_append_left h]
 · rw [List.take_append_of_le_length (by omega)]
theorem getD_snoc_eq {M:List Pg} {p:Pg}:(M ++ [p]).getD M.length default=p∧(M ++ [p]).take M.length=M:=by simp
theorem legStep_snoc {M:List Pg} {p:Pg} (ih:∀ i,i<M.length→LegStep (M.take i) (M.getD i default)) (hp:LegStep M p):∀ i,i<(M ++ [p]).length→LegStep ((M ++ [p]).take i) ((M ++ [p]).getD i default):=fun i hi => by
 rw [List.length_append] at hi
 rcases Nat.lt_or_ge i M.length with h | h
 · rw [(getD_snoc_lt h).1,(getD_snoc_lt h).2];exact ih i h
 · obtain rfl:i=M.length:=by simp at hi;omega
   rw [getD_snoc_eq.1,getD_snoc_eq.2];exact hp
theorem Leg.step {M:List Pg} (h:Leg M):∀ i,i<M.length→LegStep (M.take i) (M.getD i default):=by
 induction h with
 | nil => intro i hi;exact absurd hi (Nat.not_lt_zero _)
 | fire _ h1 h2 h3 ih => exact legStep_snoc ih ⟨h1,.inl ⟨h2,h3⟩⟩
 | undo _ h1 h2 h3 h4 ih => exact legStep_snoc ih ⟨h1,.inr (.inl ⟨h3,h2,h4⟩)⟩
 | late _ h1 h2 h3 h4 ih => exact legStep_snoc ih ⟨h1,.inr (.inr ⟨h3,h2,h4⟩)⟩
theorem frZ_new {N:List Pg} {p:Pg} (h1:pgOK p=true) (h2:p.kd=0) (h3:stZ N p = -1):frZ N p=(N ++ [p],0):=by
 unfold frZ
 rw [if_neg (fun h => h.elim (fun h => by rw [h1] at h;cases h) (fun h => h h2)),h3,if_neg (by omega),if_neg (by omega)]
def rpT (now:List Int) (p:Pg):List Int:=now.filter (fun t => t != p.st) ++ (if p.kd=2 then [p.st] else [])
theorem amZ_one {N:List Pg} (hN:∀ q∈N,Okp q) {p:Pg} (hp:Okp p) (hto:p.to=⟨#[]⟩) (hk:(p.kd=1∧(pdM N p.ru p.ve p.L p.st).getD false=true)∨(p.kd=2∧(pdM N p.ru p.ve p.L p.st).getD false=false)):amZ N p (rpT (pagedZ N p) p)=(N ++ [p],[p]):=by
 obtain ⟨k1,k2,k3,k4,k5,k6⟩:=pgOK_iff.1 hp.1
 have hkd:∀ q∈N,q.kd=0∨q.kd=1∨q.kd=2:=fun q hq => (hN q hq).2.2
 have hq:pgOK ⟨0,p.ru,p.ve,p.L,0,p.se,⟨#[]⟩⟩=true:=pgOK_iff.2 ⟨k1,k2,k3,rfl,k5,Nat.zero_le _⟩
 have hW:=mem_pagedZ hkd p
 have hWt:∀ t∈pagedZ N p,tickZ t=true:=fun t ht => by
  rw [hW] at ht
  cases hpd:pdM N p.ru p.ve p.L t with
  | none => rw [hpd] at ht;cases ht
  | some b =>
    unfold pdM at hpd
    rw [Option.map_eq_some_iff] at hpd
    obtain ⟨q,hq,_⟩:=hpd
    have hs:=List.find?_some hq
    have e:q.st=t:=(sameM_iff.1 hs).2.2.2
    have hm:q∈N:=List.mem_reverse.1 (List.mem_of_find?_eq_some hq)
    have:=(pgOK_iff.1 (hN q hm).1).2.2.2.1
    rw [e] at this;exact this
 generalize hWe:pagedZ N p=W at hW hWt ⊢
 have hT:∀ t,t∈rpT W p↔(t∈W∧t≠p.st)∨(t=p.st∧p.kd=2):=fun t => by
  unfold rpT
  rw [List.mem_append,List.mem_filter,bne_iff_ne]
  by_cases h:p.kd=2
  · rw [if_pos h,List.mem_singleton];simp [h]
  · rw [if_neg h];simp [h]
 have hTt:(rpT W p).all tickZ=true:=List.all_eq_true.2 fun t ht => by
  rcases (hT t).1 ht with h | h
  · exact hWt t h.1
  · rw [h.1];exact k4
 have hin:p.st∈W↔p.kd=1:=by
  rw [hW]
  rcases hk with ⟨h1,h2⟩ | ⟨h1,h2⟩
  · simp [h1,h2]
  · simp [h1,h2]
 have hf:(setL (W ++ rpT W p)).filter (fun t => decide (t∈W) != decide (t∈rpT W p))=[p.st]:=by
  refine eq_of_lt ((all_lt _).sublist List.filter_sublist) (List.pairwise_singleton _ _) fun t => ?_
  have hm:t∈setL (W ++ rpT W p)↔t∈W ++ rpT W p:=all_mem _ t
  rw [List.mem_filter,hm,List.mem_append,List.mem_singleton,bne_iff_ne,ne_eq,decide_eq_decide,hT]
  by_cases e:t=p.st
  · subst e
    rw [hin]
    rcases hk with ⟨h1,_⟩ | ⟨h1,_⟩
    · simp [h1]
    · simp [h1]
  · simp [e]
 have hO:amO W (rpT W p) p (setL (W ++ rpT W p))=[p]:=by
  unfold amO
  rw [hf,List.map_singleton]
  congr 1
  obtain ⟨kd,ru,ve,L,st,se,to⟩:=p
  have hto:to=⟨#[]⟩:=hto
  subst hto
  unfold amPg
  have hd:decide (st∈rpT W ⟨kd,ru,ve,L,st,se,⟨#[]⟩⟩)=decide (kd=2):=by
   rw [decide_eq_decide,hT]
   simp
  dsimp only
  rw [hd]
  rcases hk with ⟨h1,_⟩ | ⟨h1,_⟩
  · have h1:kd=1:=h1
    subst h1;rfl
  · have h1:kd=2:=h1
    subst h1;rfl
 unfold amZ
 rw [hq,hTt,hWe,hO]
 rfl
theorem rpT_take (now:List Int) (p:Pg) (j:Nat) (hj:j<now.length):(now.take (j+1)).filter (fun t => t != p.st)=(now.take j).filter (fun t => t != p.st) ++ (match now.getD j default != p.st with
  | true => [now.getD j default]
  | false => []):=by
 rw [takeD hj,List.filter_append,List.filter_cons]
 cases now.getD j default != p.st <;> rfl
noncomputable def mRepY (M:List Pg) (D:Ld):ModH
 | [x],h => match leL x M with
   | some p => some (p∧(Leg M∧M.length≤50000)∧D=repD M,.c (.ptr (lenL h) 0),outH [] [] [] h (ldH D []))
   | none => none
 | _,_ => none
section
variable {G:Nat→Option Obj}
theorem extNw_sound:SoundExt Try.prog G extNw:=extH_sound (by simp;exact okNew)
theorem extFY_sound (D D':Ld) (M:List Pg) (p:Pg) (M':List Pg) (e:Int):SoundExt Try.prog G (extFY D D' M p M' e):=extH_sound (by simp;exact okFireY D D' M p M' e)
theorem extVY_sound (D:Ld) (M:List Pg) (p:Pg) (out:List Int):SoundExt Try.prog G (extVY D M p out):=extH_sound (by simp;exact okValidY D M p out)
theorem extAY_sound (D D':Ld) (M:List Pg) (p:Pg) (T:List Int) (M' out:List Pg):SoundExt Try.prog G (extAY D D' M p T M' out):=extH_sound (by simp;exact okAmendY D D' M p T M' out)
set_option maxRecDepth 100000 in
set_option maxHeartbeats 1000000 in
theorem rep_main (M:List Pg) (hL:Leg M) (hl:M.length≤50000) (h:List AO) (Q:X→St→Prop):ExZ Try.prog G (Zm [] (resOf Try.prog Try.f11) fun s => WeakS G s ⟨[] ++ [.c (.ptr 0 0)],ldH (repD M) []⟩) (pcs Try.prog Try.f11) (stIn Try.f11 [] [] [] [.a [.p (listP encPg 7 M)]] h) Q:=by
 have hok:=hL.ok
 have hst:=hL.step
 refine ExZ.evG extNw_sound 5 (tR1 M h) ?_
 simp only [holds_rq,holds_leaf,kz_normal]
 refine ⟨trivial,⟨?_⟩⟩
 refine ExZ.loop' (l:=dropL 5 (pcs Try.prog Try.f11)) (b:=inr (inr (nth .skip (pcs Try.prog Try.f11) 5))) (r:=dropL 6 (pcs Try.prog Try.f11)) (id:=0) (by kernel_rfl) (σ:=Nat)
   (fun i => (fun D => cst 92 [(1,.c (.ptr 4 0)),(3,.c (.ptr 0 0)),(4,iV (i:Nat))] (ldH D [.cells 27 [.p (listP encPg 7 M)]])) (repD (M.take i))) (fun i => i≤M.length) (fun i => M.length - i) 0 (Nat.zero_le _) ((weak_proj [1,2,3,4,0] (msk 92 [1,3,4]) (by kernel_rfl) _).trans (weak_of_eq (by kernel_rfl))) ?_
 intro i hi Q1 q1n q1e _
 have hN:OkM (M.take i):=⟨fun q hq => hok q (List.mem_of_mem_take hq),by rw [List.length_take];omega⟩
 have hDM:=repD_M (M.take i)
 have hsn:i<M.length→repD (M.take (i+1))=ladd (repD (M.take i)) (M.getD i default)∧M.take (i+1)=M.take i ++ [M.getD i default]:=fun hlt => by
  have e:M.take (i+1)=M.take i ++ [M.getD i default]:=by
   rw [List.take_add_one,List.getD_eq_getElem?_getD,List.getElem?_eq_getElem hlt];rfl
  exact ⟨by rw [e,repD_snoc],e⟩
 refine ExZ.evG ext0_sound 2 (tR2 (repD (M.take i)) M i) ?_
 simp only [holds_bT,holds_leaf,kz_normal,kz_exit,decide_eq_true_eq,decide_eq_false_iff_not]
 refine ⟨fun h1 => ⟨?_⟩,fun h1 => ⟨q1e _ ?_⟩⟩
 · have hlt:i<M.length:=by omega
   obtain ⟨e1,e2⟩:=hsn hlt
   obtain ⟨hp,hc⟩:=hst i hlt
   have after:ExZ Try.prog G (Zm [] (resOf Try.prog Try.f11) fun s => WeakS G s ⟨[] ++ [.c (.ptr 0 0)],ldH (repD M) []⟩) (dropL 3 (lpB (pcs Try.prog Try.f11) 5)) ((fun D => cst 92 [(1,.c (.ptr 4 0)),(3,.c (.ptr 0 0)),(4,iV (i:Nat))] (ldH D [.cells 27 [.p (listP encPg 7 M)]])) (repD (M.take (i+1)))) Q1:=by
    refine ExZ.evH (keep:=msk 92 [1,3,4]) ext0_sound (tR10 (repD (M.take (i+1))) M i) ?_
    simp only [holds_rq,holds_leaf,kz_normal,inR]
    exact ⟨by omega,⟨q1n (i+1) _ (by omega) (by omega) ((weak_proj [1,2,3,4,0] (msk 92 [1,3,4]) (by kernel_rfl) _).trans (weak_of_eq (by kernel_rfl)))⟩⟩
   refine ExZ.blk' (l:=dropL 2 (lpB (pcs Try.prog Try.f11) 5)) (id:=1) (a:=inr (nth .skip (lpB (pcs Try.prog Try.f11) 5) 2)) (r:=dropL 3 (lpB (pcs Try.prog Try.f11) 5)) (by kernel_rfl) ?_
   intro Q2 q2n q2e _
   refine ExZ.pre ((weak_proj [1,2,3,4,0] (msk 92 [1,3,4]) (by kernel_rfl) _).trans (weak_of_eq (st':=(fun D => cst 92 [(1,.c (.ptr 4 0)),(3,.c (.ptr 0 0)),(4,iV (i:Nat))] (ldH D [.cells 27 [.p (listP encPg 7 M)]])) (repD (M.take i))) (by kernel_rfl))) (ExZ.evG ext0_sound 2 (tR3 (repD (M.take i)) M i) ?_)
   simp only [holds_rq,holds_leaf,kz_normal,show (↑i:Int).toNat=i from rfl]
   refine ⟨by omega,⟨?_⟩⟩
   generalize M.getD i default=p at e1 e2 hp hc ⊢
   generalize hNN:M.take i=N at hN hDM e1 e2 hc ⊢
   refine ExZ.cond (l:=dropL 2 (flat (inr (nth .skip (lpB (pcs Try.prog Try.f11) 5) 2)))) (k:=27) (a:=cndA (nth .skip (flat (inr (nth .skip (lpB (pcs Try.prog Try.f11) 5) 2))) 2)) (b:=cndB (nth .skip (flat (inr (nth .skip (lpB (pcs Try.prog Try.f11) 5) 2))) 2)) (r:=dropL 3 (flat (inr (nth .skip (lpB (pcs Try.prog Try.f11) 5) 2)))) (x:=p.kd == 0) (by kernel_rfl) (by kernel_rfl) ?_ ?_
   · intro c Q' qn qe
     have c:p.kd=0:=by simpa using c
     have hz:stZ N p = -1:=by
      rcases hc with h | h | h
      · exact h.2
      · omega
      · omega
     refine ExZ.pre ((weak_proj [1,3,4,5,2,0] (msk 92 [1,3,4,5]) (by kernel_rfl) _).trans (weak_of_eq (st':=(fun D => cst 92 [(1,.c (.ptr 5 0)),(3,.c (.ptr 0 0)),(4,iV (i:Nat)),(5,.c (.ptr 4 0))] (ldH D [.cells 31 [.p (.i .i64 p.kd),.p (.s p.ru),.p (.i .i64 p.ve),.p (listP enc2 2 p.L),.p (.i .i64 p.st),.p (.i .i64 p.se),.p (.s p.to)],.cells 27 [.p (listP encPg 7 M)]])) (repD N)) (by kernel_rfl))) (ExZ.evH (keep:=msk 92 [1,3,4]) (extFY_sound (repD N) (repD (M.take (i+1))) N p (M.take (i+1)) 0) (tR4 (repD N) (repD (M.take (i+1))) M N (M.take (i+1)) p i 0) ?_)
     simp only [holds_bT,holds_rq,holds_leaf,kz_normal,kz_ret,kz_exit,dec2_row]
     refine ⟨⟨⟨⟨isL_row _ _ _,trivial⟩,trivial,trivial,fun _ _ _ _ => trivial,trivial,trivial,trivial,trivial⟩,⟨hN,hp.2.1⟩,by rw [e2];exact frZ_new hp.1 c hz,trivial,trivial⟩,fun h2 => absurd h2 (by decide),fun _ => ⟨qe _ _ (q2e _ (ExZ.pre ((weak_proj [1,2,3,4,0] (msk 92 [1,3,4]) (by kernel_rfl) _).trans (weak_of_eq (by kernel_rfl))) after))⟩⟩
   · intro c Q' qn qe
     have c:p.kd≠0:=by simpa using c
     have hk:(p.kd=1∧(pdM N p.ru p.ve p.L p.st).getD false=true)∨(p.kd=2∧(pdM N p.ru p.ve p.L p.st).getD false=false):=by
      rcases hc with h | h | h
      · exact absurd h.1 c
      · exact .inl ⟨h.1,h.2.2⟩
      · exact .inr ⟨h.1,h.2.2⟩
     have hto:p.to=⟨#[]⟩:=by
      rcases hc with h | h | h
      · exact absurd h.1 c
      · exact h.2.1
      · exact h.2.1
     have hone:=amZ_one hN.1 hp hto hk
     refine ExZ.pre (weak_gc (msk 92 [1,3,4,5]) _) (ExZ.evH (keep:=msk 92 [1,3,4,5]) ext0_sound (tree:=.done .normal ((fun D => cst 92 [(1,.c (.ptr 0 0)),(3,.c (.ptr 1 0)),(4,iV (i:Nat)),(5,.c (.ptr 2 0))] [.cells 27 [.p (listP encPg 7 M)],.cells 86 [.sl 3 7 0 D.M.length,.mp 4,.mp 5],.cells 31 [.p (.i .i64 p.kd),.p (.s p.ru),.p (.i .i64 p.ve),.p (listP enc2 2 p.L),.p (.i .i64 p.st),.p (.i .i64 p.se),.p (.s p.to)],.row 31 7 D.M.length (rowC encPg D.M),.mapb (okK Try.prog 81) D.gp,.mapl (okK Try.prog 79) 3 1 D.gs none]) (repD N))) (by kernel_rfl) ?_)
     refine qn _ ?_
     refine ExZ.pre ((weak_proj [1,3,4,5,2,0] (msk 92 [1,3,4,5]) (by kernel_rfl) _).trans (weak_of_eq (st':=(fun D => cst 92 [(1,.c (.ptr 5 0)),(3,.c (.ptr 0 0)),(4,iV (i:Nat)),(5,.c (.ptr 4 0))] (ldH D [.cells 31 [.p (.i .i64 p.kd),.p (.s p.ru),.p (.i .i64 p.ve),.p (listP enc2 2 p.L),.p (.i .i64 p.st),.p (.i .i64 p.se),.p (.s p.to)],.cells 27 [.p (listP encPg 7 M)]])) (repD N)) (by kernel_rfl))) (ExZ.evG (extVY_sound (repD N) N p (pagedZ N p)) 3 (tR5 (repD N) M N p (pagedZ N p) i) ?_)
     simp only [holds_rq,holds_leaf,kz_normal,dec2_row]
     refine ⟨⟨⟨⟨⟨isL_row _ _ _,trivial⟩,trivial,trivial,fun _ _ _ _ => trivial,trivial,trivial,trivial,trivial⟩,trivial,trivial⟩,⟨hN,hp.2.1⟩,trivial,trivial⟩,⟨?_⟩⟩
     have hnl:=pagedZ_len N p
     have hNl:N.length≤49999:=by rw [← hNN,List.length_take];omega
     have hrl:(rpT (pagedZ N p) p).length≤(pagedZ N p).length+1:=by
      unfold rpT
      rw [List.length_append]
      have:=List.length_filter_le (fun t => t != p.st) (pagedZ N p)
      split <;> simp <;> omega
     have hrt:rpT (pagedZ N p) p=(pagedZ N p).filter (fun t => t != p.st) ++ (if p.kd=2 then [p.st] else []):=rfl
     generalize pagedZ N p=now at hone hnl hrl hrt ⊢
     refine ExZ.loop' (l:=dropL 3 (dropL 3 (flat (inr (nth .skip (lpB (pcs Try.prog Try.f11) 5) 2))))) (b:=inr (inr (nth .skip (flat (inr (nth .skip (lpB (pcs Try.prog Try.f11) 5) 2))) 6))) (r:=dropL 7 (flat (inr (nth .skip (lpB (pcs Try.prog Try.f11) 5) 2)))) (id:=2) (by kernel_rfl) (σ:=Nat)
       (fun j => (fun D out k => cst 92 [(1,.c (.ptr 0 0)),(3,.c (.ptr 1 0)),(4,iV (i:Nat)),(5,.c (.ptr 2 0)),(6,listV encI 1 now),(7,.c (.sl 3 1 0 k)),(8,iV (j:Nat))] [.cells 27 [.p (listP encPg 7 M)],.cells 86 [.sl 4 7 0 D.M.length,.mp 5,.mp 6],.cells 31 [.p (.i .i64 p.kd),.p (.s p.ru),.p (.i .i64 p.ve),.p (listP enc2 2 p.L),.p (.i .i64 p.st),.p (.i .i64 p.se),.p (.s p.to)],.row 3 1 k (rowC encI out),.row 31 7 D.M.length (rowC encPg D.M),.mapb (okK Try.prog 81) D.gp,.mapl (okK Try.prog 79) 3 1 D.gs none]) (repD N) ((now.take j).filter (fun t => t != p.st)) ((now.take j).filter (fun t => t != p.st)).length) (fun j => j≤now.length) (fun j => now.length - j) 0 (Nat.zero_le _) ((weak_nil 3 1 (rowC encI []) 7 (by kernel_rfl)).trans ((weak_gc (msk 92 [1,3,4,5,6,7,8]) _).trans (weak_of_eq (by kernel_rfl)))) ?_
     intro j hj Q3 q3n q3e _
     have hol:((now.take j).filter (fun t => t != p.st)).length≤j:=by
      have:=List.length_filter_le (fun t => t != p.st) (now.take j)
      rw [List.length_take] at this
      omega
     have hsn3:=rpT_take now p j
     generalize hO:(now.take j).filter (fun t => t != p.st)=out at hol hsn3 ⊢
     refine ExZ.evH (keep:=msk 92 [1,3,4,5,6,7,8]) ext0_sound (tR6 (repD N) M p now out i j out.length) ?_
     simp only [holds_bT,holds_rq,holds_leaf,kz_normal,kz_exit,decide_eq_true_eq,decide_eq_false_iff_not,inR,show (↑j:Int).toNat=j from rfl]
     refine ⟨fun h2 => ?_,fun h2 => ⟨q3e _ ?_⟩⟩
     · have hlj:j<now.length:=by omega
       have hsn3:=hsn3 hlj
       refine ⟨by omega,fun h3 => ⟨by omega,trivial,Nat.le_refl _,⟨by omega,by omega,fun e o he ho => ?_⟩,by omega,⟨q3n (j+1) _ (by omega) (by omega) ?_⟩⟩,fun h3 => ⟨by omega,⟨q3n (j+1) _ (by omega) (by omega) ?_⟩⟩⟩
       · obtain rfl:e=0:=by omega
         obtain rfl:o=0:=by omega
         rfl
       · rw [h3] at hsn3
         have hsn3:_=out ++ [now.getD j default]:=hsn3
         have hlx:out.length+1=((now.take (j+1)).filter (fun t => t != p.st)).length:=by rw [hsn3];simp
         rw [hlx]
         refine weak_cst ⟨rfl,rfl,rfl,⟨rfl,rfl,rfl,fun e o he ho => ?_⟩,⟨rfl,rfl,rfl,fun e o he ho => rfl⟩,rfl,rfl,trivial⟩
         show _=rowC encI ((now.take (j+1)).filter (fun t => t != p.st)) e o
         rw [hsn3]
         refine app1' (ρ:=[0,1,2,8,4,5,6]) rfl (intE_at _) ?_ ho
         have he:e<((now.take (j+1)).filter (fun t => t != p.st)).length:=he
         rw [hsn3] at he
         simpa using he
       · rw [h3] at hsn3
         have hsn3:_=out ++ []:=hsn3
         rw [List.append_nil] at hsn3
         rw [hsn3]
         exact weak_of_eq (by kernel_rfl)
     obtain rfl:j=now.length:=by omega
     rw [List.take_length] at hO
     rw [hO] at hrt
     refine ExZ.pre ((weak_gc (msk 92 [1,3,4,5,7]) _).trans (weak_of_eq (st':=(fun D k => cst 92 [(1,.c (.ptr 0 0)),(3,.c (.ptr 1 0)),(4,iV (i:Nat)),(5,.c (.ptr 2 0)),(7,.c (.sl 3 1 0 k))] [.cells 27 [.p (listP encPg 7 M)],.cells 86 [.sl 4 7 0 D.M.length,.mp 5,.mp 6],.cells 31 [.p (.i .i64 p.kd),.p (.s p.ru),.p (.i .i64 p.ve),.p (listP enc2 2 p.L),.p (.i .i64 p.st),.p (.i .i64 p.se),.p (.s p.to)],.row 3 1 k (rowC encI out),.row 31 7 D.M.length (rowC encPg D.M),.mapb (okK Try.prog 81) D.gp,.mapl (okK Try.prog 79) 3 1 D.gs none]) (repD N) out.length) (by kernel_rfl))) ?_
     show ExZ _ _ _ (dropL 7 (flat (inr (nth .skip (lpB (pcs Try.prog Try.f11) 5) 2)))) _ _
     refine ExZ.evG ext0_sound 2 (tR7 (repD N) M p out i out.length) ?_
     simp only [holds_bT,holds_rq,holds_leaf,kz_normal,beq_iff_eq,beq_eq_false_iff_ne]
     have fin:∀ T,rpT now p=T→ExZ Try.prog G (Zm [] (resOf Try.prog Try.f11) fun s => WeakS G s ⟨[] ++ [.c (.ptr 0 0)],ldH (repD M) []⟩) (dropL 2 (dropL 7 (flat (inr (nth .skip (lpB (pcs Try.prog Try.f11) 5) 2))))) ((fun D out k => cst 92 [(1,.c (.ptr 0 0)),(3,.c (.ptr 1 0)),(4,iV (i:Nat)),(5,.c (.ptr 2 0)),(7,.c (.sl 3 1 0 k))] [.cells 27 [.p (listP encPg 7 M)],.cells 86 [.sl 4 7 0 D.M.length,.mp 5,.mp 6],.cells 31 [.p (.i .i64 p.kd),.p (.s p.ru),.p (.i .i64 p.ve),.p (listP enc2 2 p.L),.p (.i .i64 p.st),.p (.i .i64 p.se),.p (.s p.to)],.row 3 1 k (rowC encI out),.row 31 7 D.M.length (rowC encPg D.M),.mapb (okK Try.prog 81) D.gp,.mapl (okK Try.prog 79) 3 1 D.gs none]) (repD N) T T.length) Q2:=fun T hT => by
      rw [hT] at hone hrl
      refine ExZ.pre ((weak_frz (j:=7) (id:=3) (ty:=3) (sz:=1) (n:=T.length) (off:=0) (len:=T.length) (f:=rowC encI T) (by kernel_rfl) (by kernel_rfl) (by omega) (fun _ _ _ _ => rfl)).trans ((weak_proj [1,4,5,6,2,0] (msk 92 [1,3,4,5,7]) (by kernel_rfl) _).trans (weak_of_eq (st':=(fun D => cst 92 [(1,.c (.ptr 5 0)),(3,.c (.ptr 0 0)),(4,iV (i:Nat)),(5,.c (.ptr 4 0)),(7,listV encI 1 T)] (ldH D [.cells 31 [.p (.i .i64 p.kd),.p (.s p.ru),.p (.i .i64 p.ve),.p (listP enc2 2 p.L),.p (.i .i64 p.st),.p (.i .i64 p.se),.p (.s p.to)],.cells 27 [.p (listP encPg 7 M)]])) (repD N)) (by kernel_rfl)))) ?_
      refine ExZ.evG (extAY_sound (repD N) (repD (M.take (i+1))) N p T (M.take (i+1)) [p]) 1 (tR8 (repD N) (repD (M.take (i+1))) M N (M.take (i+1)) [p] p T i) ?_
      simp only [holds_rq,holds_leaf,kz_normal,dec2_row]
      refine ⟨⟨⟨⟨⟨⟨isL_row _ _ _,trivial⟩,trivial,trivial,fun _ _ _ _ => trivial,trivial,trivial,trivial,trivial⟩,isL_row _ _ _⟩,trivial,trivial,trivial⟩,⟨hN,hp.2.1,by omega⟩,by rw [e2];exact hone,trivial,trivial⟩,⟨?_⟩⟩
      refine ExZ.pre ((weak_proj [1,3,4,5,2,0] (msk 92 [1,3,4,5,9]) (by kernel_rfl) _).trans (weak_of_eq (st':=(fun D out => cst 92 [(1,.c (.ptr 5 0)),(3,.c (.ptr 0 0)),(4,iV (i:Nat)),(5,.c (.ptr 4 0)),(9,listV encPg 7 out)] (ldH D [.cells 31 [.p (.i .i64 p.kd),.p (.s p.ru),.p (.i .i64 p.ve),.p (listP enc2 2 p.L),.p (.i .i64 p.st),.p (.i .i64 p.se),.p (.s p.to)],.cells 27 [.p (listP encPg 7 M)]])) (repD (M.take (i+1))) [p]) (by kernel_rfl))) (ExZ.evH (keep:=msk 92 [1,3,4]) ext0_sound (tR9 (repD (M.take (i+1))) M [p] p i) ?_)
      simp only [holds_bT,holds_rq,holds_leaf,kz_normal,kz_ret,bne_iff_ne,bne_eq_false_iff_eq,ne_eq]
      refine ⟨fun h => absurd rfl h,fun _ => ⟨⟨by decide,by simp⟩,fun h => absurd rfl h,fun _ => ⟨q2n _ (ExZ.pre ((weak_proj [1,2,3,4,0] (msk 92 [1,3,4]) (by kernel_rfl) _).trans (weak_of_eq (by kernel_rfl))) after)⟩⟩⟩
     refine ⟨fun h3 => ⟨trivial,Nat.le_refl _,⟨by omega,by omega,fun e o he ho => ?_⟩,⟨ExZ.pre ?_ (fin (out ++ [p.st]) (by rw [hrt,if_pos h3]))⟩⟩,fun h3 => ⟨ExZ.pre (weak_of_eq (by kernel_rfl)) (fin out (by rw [hrt,if_neg h3,List.append_nil]))⟩⟩
     · obtain rfl:e=0:=by omega
       obtain rfl:o=0:=by omega
       rfl
     · have hlx:out.length+1=(out ++ [p.st]).length:=by simp
       rw [hlx]
       refine weak_cst ⟨rfl,rfl,rfl,⟨rfl,rfl,rfl,fun e o he ho => ?_⟩,⟨rfl,rfl,rfl,fun e o he ho => rfl⟩,rfl,rfl,trivial⟩
       exact app1' (ρ:=[0,1,2,8,4,5,6]) rfl (intE_at _) (by simpa using he) ho
 · obtain rfl:i=M.length:=by omega
   rw [List.take_length]
   refine ExZ.pre ((weak_gc (msk 92 [3]) _).trans (weak_of_eq (by kernel_rfl))) (ExZ.evH (keep:=[]) ext0_sound (tR11 (repD M)) ?_)
   simp only [holds_leaf,kz_ret]
   exact ⟨weak_of_eq (by kernel_rfl)⟩
set_option maxRecDepth 100000 in
theorem okRepY (M:List Pg) (D:Ld):ModHOK Try.prog G 11 (mRepY M D):=by
 intro args h p v h' hm hp
 unfold mRepY at hm
 split at hm;rotate_left;· cases hm
 split at hm;rotate_left;· cases hm
 rename_i x _ q hx
 obtain ⟨rfl,rfl,rfl⟩:=some_three hm
 obtain ⟨hq,⟨hL,hl⟩,rfl⟩:=hp
 refine FnS.args (args':=[ledV M]) ?_ (.cons (leL_le hx hq) .nil)
 refine fun β R w us ha hh => (fn_mem (ρ:=[]) (ids:=[]) (ps:=[]) (pns:=[]) (js:=[]) (sl:=[]) (vs:=[.c (.ptr 0 0)]) (hE:=fun bs => ldH (repD M) []) Try.func11 (by kernel_rfl) rfl rfl (by simp) (by simp) rfl rfl rfl (fun i pn h => by simp at h) (fun bs hb i pn j b h1 h2 h3 => by simp at h1) (fun bs hb => ?_) β R w us ha hh).mono ?_
 · obtain rfl:bs=[]:=by simpa using hb
   exact rep_main M hL hl h _
 · rintro e w' ⟨u,β',R',x,h',rfl,⟨bs,hb,hx,hh'⟩,hr⟩
   refine ⟨u,β',R',x,h',rfl,⟨hx.trans ?_,hh'⟩,hr⟩
   rw [lenL_eq];rfl
end
end Go.AE
namespace Go.AE
set_option linter.unusedVariables false
set_option linter.unusedSimpArgs false
open Go.Proofs Go.Proofs.Ytfjihbmehhccoaa Gp Go.RowKit
noncomputable def extS1 (M:List Pg) (D:Ld):Ext:=extH [(12,liftM (mGOfX M)),(11,mRepY M D)]
end Go.AE
namespace Go.AE
set_option linter.unusedVariables false
set_option linter.unusedSimpArgs false
open Go.Proofs Go.Proofs.Ytfjihbmehhccoaa Gp Go.RowKit
theorem amZ_inv {M:List Pg} (h:OkM M) (p:Pg) (T:List Int) (hve:inR .i64 p.ve):∀ q∈(amZ M p T).1,Okp q:=by
 obtain ⟨S,D',_,_,k3,k4,_⟩:=lamend_link (repD_inv h.1) p T hve
 rw [repD_M] at k3
 rw [← k3]
 exact k4.ok
theorem startsZ_in (A:List Int) (a:Int):∀ t∈startsZ A a,0≤t∧t<6:=fun t ht => by
 unfold startsZ stsZ at ht
 obtain ⟨j,_,rfl⟩:=List.mem_map.1 ht
 exact pick_in (by omega)
theorem startsZ_tick (A:List Int) (a:Int):∀ t∈startsZ A a,tickZ t=true:=fun t ht => by
 have:=startsZ_in A a t ht
 exact tick_of (by omega) (by omega)
theorem okM_of (A:List Int):OkM (ofZ A):=⟨(leg_ofZ A).ok,by have:=ofZ_len A;omega⟩
end Go.AE
namespace Go.AE
set_option linter.unusedVariables false
set_option linter.unusedSimpArgs false
open Go.Proofs Go.Proofs.Ytfjihbmehhccoaa Gp Go.RowKit
section
variable {G:Nat→Option Obj}
theorem extS1_sound (M:List Pg) (D:Ld):SoundExt Try.prog G (extS1 M D):=extH_sound (by simp;exact ⟨(okGOfX M).lift,okRepY M D⟩)
end
end Go.AE
namespace Go.AE
set_option linter.unusedVariables false
set_option linter.unusedSimpArgs false
open Go.Proofs Go.Proofs.Ytfjihbmehhccoaa Gp Go.RowKit
def isLdG (D:Ld) (j:Nat) (h:List AO):Option (Prop × Nat × Nat × Nat):=match nth .gone h j with
 | .cells 86 [.sl r 7 0 n,.mp a,.mp b] => match nth .gone h r,nth .gone h a,nth .gone h b with
   | .row 31 7 n' f,.mapb ok gp,.mapl ok2 3 1 gs none => some (n=D.M.length∧n'=D.M.length∧(∀ e o,e<D.M.length→o<7→f e o=rowC encPg D.M e o)∧ok=okK Try.prog 81∧gp=D.gp∧ok2=okK Try.prog 79∧gs=D.gs,r,a,b)
   | _,_,_ => none
 | _ => none
theorem isLdG_eq {D:Ld} {j:Nat} {h:List AO} {r a b:Nat} {q:Prop} (he:isLdG D j h=some (q,r,a,b)) (hq:q):∃ f,nth .gone h j=.cells 86 [.sl r 7 0 D.M.length,.mp a,.mp b]∧nth .gone h r=.row 31 7 D.M.length f∧nth .gone h a=.mapb (okK Try.prog 81) D.gp∧nth .gone h b=.mapl (okK Try.prog 79) 3 1 D.gs none∧∀ e o,e<D.M.length→o<7→f e o=rowC encPg D.M e o:=by
 unfold isLdG at he
 split at he;rotate_left;· cases he
 rename_i r0 n a0 b0 hj
 split at he;rotate_left;· cases he
 rename_i n' f ok gp ok2 gs h1 h2 h3
 injection he with he
 injection he with e1 he
 injection he with e2 he
 injection he with e3 e4
 subst e1;subst e2;subst e3;subst e4
 obtain ⟨rfl,rfl,hf,rfl,rfl,rfl,rfl⟩:=hq
 exact ⟨f,hj,h1,h2,h3,hf⟩
theorem nbeq_self (j:Nat):Nat.beq j j=true:=Nat.beq_refl j
theorem nbeq_ne {j r:Nat} (h:j≠r):Nat.beq j r=false:=Bool.eq_false_iff.2 fun e => h (Nat.eq_of_beq_eq_true e)
theorem out_upd {ρ ids js:List Nat} {h hE:List AO} {r:Nat} (v:AO) (h1:lkup ids js r=none) (h2:memN r ρ=true):outH ρ ids js (upd v h r) hE=outH ρ ids js h hE:=by
 unfold outH
 have hl:lenL (upd v h r)=lenL h:=by rw [lenL_eq,lenL_eq,upd_eq,List.length_set]
 rw [hl]
 congr 1
 generalize hF:oldF ρ ids js (lenL h) hE=F
 have hFr:∀ x y,F r x=F r y:=fun x y => by
  rw [← hF]
  unfold oldF
  rw [h1,h2]
 clear hF hl
 have key:∀ (l:List AO) (i k:Nat),(∀ x y,F (i+k) x=F (i+k) y)→mapI F i (upd v l k)=mapI F i l:=by
  intro l
  induction l with
  | nil => intro i k _;rfl
  | cons x l ih =>
    intro i k hk
    cases k with
    | zero =>
      show F i v::_=F i x::_
      rw [show F i v=F i x from hk v x]
    | succ k =>
      show F i x::mapI F (i+1) (upd v l k)=F i x::mapI F (i+1) l
      rw [ih (i+1) k (by rw [show i+1+k=i+(k+1) by omega];exact hk)]
 exact key h 0 r (by rw [Nat.zero_add];exact hFr)
theorem out_pinG (ρ:List Nat) (j:Nat) (D:Ld) (W h:List AO) (b b':Nat):outH ρ [j] [1] h (ldE D b ++ W)=outH ρ [j] [1] h (ldE D b' ++ W):=by
 unfold outH
 have e:oldF ρ [j] [1] (lenL h) (ldE D b ++ W)=oldF ρ [j] [1] (lenL h) (ldE D b' ++ W):=by
  funext i x
  unfold oldF lkup
  cases Nat.beq j i <;> rfl
 rw [e]
 rfl
noncomputable def mFireG (D D':Ld) (M:List Pg) (p:Pg) (M':List Pg) (e:Int):ModH
 | [.c (.ptr j 0),x],h => match isLdG D j h,lePg x p with
   | some (q,r,a,b),some s => some ((s∧q)∧(OkM M∧inR .i64 p.ve)∧frZ M p=(M',e)∧D=repD M∧D'=repD M',iV e,outH [j,r,a,b] [j] [1] h (ldE D' 0))
   | _,_ => none
 | _,_ => none
noncomputable def mValidG (D:Ld) (M:List Pg) (p:Pg) (out:List Int):ModH
 | [.c (.ptr j 0),.c (.p (.s ru)),.c (.p (.i .i64 ve)),x],h => match isLdG D j h,leLb x p.L with
   | some (q,r,a,b),some s => some (((s∧q)∧ru=p.ru∧ve=p.ve)∧(OkM M∧inR .i64 p.ve)∧pagedZ M p=out∧D=repD M,listV encI 1 out,outH [j,r,a,b] [j] [1] h (ldE D 0))
   | _,_ => none
 | _,_ => none
noncomputable def mAllG (D:Ld) (M:List Pg):ModH
 | [.c (.ptr j 0)],h => match isLdG D j h with
   | some (q,r,a,b) => some (q∧OkM M∧D=repD M,listV encPg 7 M,outH [j,r,a,b] [j] [1] h (ldE D 0))
   | none => none
 | _,_ => none
section
variable {G:Nat→Option Obj}
set_option maxRecDepth 100000 in
theorem led_fnGW {f:FuncId} {fn:Func} (hf:(Try.prog).funcs[f]? = some fn) (hok:okF Try.prog fn=true) {args vs:List V} {D D':Ld} (W:List AO) {h:List AO} {j r a b:Nat} {g:Nat→Nat→C} (hj:nth .gone h j=.cells 86 [.sl r 7 0 D.M.length,.mp a,.mp b]) (hr:nth .gone h r=.row 31 7 D.M.length g) (ha:nth .gone h a=.mapb (okK Try.prog 81) D.gp) (hb:nth .gone h b=.mapl (okK Try.prog 79) 3 1 D.gs none) (hg:∀ e o,e<D.M.length→o<7→g e o=rowC encPg D.M e o)
  (hargs:inVs [j,r,a,b] [j] 4 args=inVs [0,1,2,3] [0] 4 args)
  (H:∀ b,ExZ Try.prog G (Zm [0] (resOf Try.prog fn) fun s => WeakS G s ⟨[.c (.ptr 0 0)] ++ vs,ldE D' b ++ W⟩) (pcs Try.prog fn) (stIn fn [0,1,2,3] [0] [b] (.c (.ptr 0 0)::args) (ldH D [])) fun e s => e=.normal∧Zm [0] (resOf Try.prog fn) (fun s => WeakS G s ⟨[.c (.ptr 0 0)] ++ vs,ldE D' b ++ W⟩) s):FnS Try.prog G f (.c (.ptr j 0)::args) h fun x h' => x=oneW (outVs [1] [j] h.length vs)∧h'=outH [j,r,a,b] [j] [1] h (ldE D' 0 ++ W):=by
 have n1:j≠r:=by rintro rfl;rw [hj] at hr;cases hr
 have n2:j≠a:=by rintro rfl;rw [hj] at ha;cases ha
 have n3:j≠b:=by rintro rfl;rw [hj] at hb;cases hb
 have n4:r≠a:=by rintro rfl;rw [hr] at ha;cases ha
 have n5:r≠b:=by rintro rfl;rw [hr] at hb;cases hb
 have n6:a≠b:=by rintro rfl;rw [ha] at hb;cases hb
 have hlr:r<h.length:=nth_gone hr (by simp)
 refine FnS.heapEq (h':=upd (.row 31 7 D.M.length (rowC encPg D.M)) h r) (fun β R w hh => hs_sameS hh hr hg) (by rw [upd_eq,List.length_set]) ?_
 have hj':nth .gone (upd (.row 31 7 D.M.length (rowC encPg D.M)) h r) j=.cells 86 [.sl r 7 0 D.M.length,.mp a,.mp b]:=by rw [nth_upd_ne _ _ _ (Ne.symm n1)];exact hj
 have ha':nth .gone (upd (.row 31 7 D.M.length (rowC encPg D.M)) h r) a=.mapb (okK Try.prog 81) D.gp:=by rw [nth_upd_ne _ _ _ n4];exact ha
 have hb':nth .gone (upd (.row 31 7 D.M.length (rowC encPg D.M)) h r) b=.mapl (okK Try.prog 79) 3 1 D.gs none:=by rw [nth_upd_ne _ _ _ n5];exact hb
 have hr':nth .gone (upd (.row 31 7 D.M.length (rowC encPg D.M)) h r) r=.row 31 7 D.M.length (rowC encPg D.M):=nth_upd_eq _ _ _ hlr
 have hout:=out_upd (ρ:=[j,r,a,b]) (ids:=[j]) (js:=[1]) (h:=h) (hE:=ldE D' 0 ++ W) (r:=r) (.row 31 7 D.M.length (rowC encPg D.M)) (by
  show (match Nat.beq j r with
   | true => some 1
   | false => lkup [] [] r)=none
  rw [nbeq_ne n1];rfl) (by
  show (Nat.beq j r || (Nat.beq r r || _))=true
  rw [nbeq_self];simp)
 have hlen:(upd (.row 31 7 D.M.length (rowC encPg D.M)) h r).length=h.length:=by rw [upd_eq,List.length_set]
 rw [← hout,← hlen]
 generalize upd (.row 31 7 D.M.length (rowC encPg D.M)) h r=h0 at hj' ha' hb' hr' ⊢
 clear hj ha hb hr hg hout hlen hlr
 refine fun β R w us hw hh => (fn_mem (ρ:=[j,r,a,b]) (ids:=[j]) (ps:=[0]) (pns:=[0]) (js:=[1]) (sl:=[.c (.ptr 0 0)]) (vs:=vs) (hE:=fun bs => ldE D' (nth 0 bs 0) ++ W) hf hok ?_ ?_ (by simp) (by simp) rfl rfl rfl (fun i pn h => ?_) (fun bs hb i pn j b h1 h2 h3 => ?_) (fun bs hb => ?_) β R w us hw hh).mono ?_
 · simp [noDup,memN,nbeq_ne n1,nbeq_ne n2,nbeq_ne n3,nbeq_ne n4,nbeq_ne n5,nbeq_ne n6,nbeq_ne (Ne.symm n1),nbeq_ne (Ne.symm n2),nbeq_ne (Ne.symm n3),nbeq_ne (Ne.symm n4),nbeq_ne (Ne.symm n5),nbeq_ne (Ne.symm n6)]
 · simp [liveAll,hj',ha',hb',hr',AO.live]
 · cases i with
   | zero => obtain rfl:0=pn:=by simpa using h
             exact ⟨0,by simp⟩
   | succ i => simp at h
 · cases i with
   | zero =>
     obtain rfl:0=pn:=by simpa using h1
     obtain rfl:1=j:=by simpa using h2
     cases bs with
     | nil => simp at hb
     | cons b0 bs =>
       obtain rfl:b0=b:=by simpa using h3
       exact ⟨rfl,rfl⟩
   | succ i => simp at h1
 · obtain ⟨bb,rfl⟩:∃ b,bs=[b]:=by
     cases bs with
     | nil => simp at hb
     | cons b0 bs => cases bs with
       | nil => exact ⟨b0,rfl⟩
       | cons _ _ => simp at hb
   have i1:idxOf j [j,r,a,b] 0=some 0:=by simp only [idxOf,nbeq_self]
   have i2:idxOf r [j,r,a,b] 0=some 1:=by simp only [idxOf,nbeq_self,nbeq_ne n1]
   have i3:idxOf a [j,r,a,b] 0=some 2:=by simp only [idxOf,nbeq_self,nbeq_ne n2,nbeq_ne n4]
   have i4:idxOf b [j,r,a,b] 0=some 3:=by simp only [idxOf,nbeq_self,nbeq_ne n3,nbeq_ne n5,nbeq_ne n6]
   have i5:idxOf j [j] 0=some 0:=by simp only [idxOf,nbeq_self]
   have e:stIn fn [j,r,a,b] [j] [bb] (.c (.ptr j 0)::args) h0=stIn fn [0,1,2,3] [0] [bb] (.c (.ptr 0 0)::args) (ldH D []):=by
    unfold stIn inH
    have e1:inVs [j,r,a,b] [j] ([j,r,a,b]:List Nat).length (.c (.ptr j 0)::args)=inVs [0,1,2,3] [0] ([0,1,2,3]:List Nat).length (.c (.ptr 0 0)::args):=by
     show inVv [j,r,a,b] [j] 4 (.c (.ptr j 0))::inVs [j,r,a,b] [j] 4 args=inVv [0,1,2,3] [0] 4 (.c (.ptr 0 0))::inVs [0,1,2,3] [0] 4 args
     rw [hargs]
     congr 1
     simp only [inVv,inC,i5]
     rfl
    have e2:projH [j,r,a,b] h0 [j,r,a,b]=projH [0,1,2,3] (ldH D []) [0,1,2,3]:=by
     simp only [projH,hj',hr',ha',hb',renO,renCs,renC,i2,i3,i4,renF]
     rfl
    have e3:pinL [j,r,a,b] [j] [bb]=pinL [0,1,2,3] [0] [bb]:=by
     simp only [pinL,i1]
     rfl
    rw [e1,e2,e3]
    rfl
   rw [e]
   exact H bb
 · rintro e w' ⟨u,β',R',x,h',rfl,⟨bs,hb,hx,hh'⟩,hr⟩
   exact ⟨u,β',R',x,h',rfl,⟨hx,hh'.trans (out_pinG _ _ _ _ _ _ _)⟩,hr⟩
set_option maxRecDepth 100000 in
theorem led_fnG {f:FuncId} {fn:Func} (hf:(Try.prog).funcs[f]? = some fn) (hok:okF Try.prog fn=true) {args vs:List V} {D D':Ld} {h:List AO} {j r a b:Nat} {g:Nat→Nat→C} (hj:nth .gone h j=.cells 86 [.sl r 7 0 D.M.length,.mp a,.mp b]) (hr:nth .gone h r=.row 31 7 D.M.length g) (ha:nth .gone h a=.mapb (okK Try.prog 81) D.gp) (hb:nth .gone h b=.mapl (okK Try.prog 79) 3 1 D.gs none) (hg:∀ e o,e<D.M.length→o<7→g e o=rowC encPg D.M e o)
  (hargs:inVs [j,r,a,b] [j] 4 args=inVs [0,1,2,3] [0] 4 args)
  (H:∀ b,ExZ Try.prog G (Zm [0] (resOf Try.prog fn) fun s => WeakS G s ⟨[.c (.ptr 0 0)] ++ vs,ldE D' b⟩) (pcs Try.prog fn) (stIn fn [0,1,2,3] [0] [b] (.c (.ptr 0 0)::args) (ldH D [])) fun e s => e=.normal∧Zm [0] (resOf Try.prog fn) (fun s => WeakS G s ⟨[.c (.ptr 0 0)] ++ vs,ldE D' b⟩) s):FnS Try.prog G f (.c (.ptr j 0)::args) h fun x h' => x=oneW (outVs [1] [j] h.length vs)∧h'=outH [j,r,a,b] [j] [1] h (ldE D' 0) :=
 led_fnGW (W:=[]) hf hok hj hr ha hb hg hargs (fun b => H b)
set_option maxRecDepth 100000 in
theorem okFireG (D D':Ld) (M:List Pg) (p:Pg) (M':List Pg) (e:Int):ModHOK Try.prog G 25 (mFireG D D' M p M' e):=by
 intro args h p0 v h' hm hp
 unfold mFireG at hm
 split at hm;rotate_left;· cases hm
 split at hm;rotate_left;· cases hm
 rename_i j x _ _ q r a b s hl hx
 obtain ⟨rfl,rfl,rfl⟩:=some_three hm
 obtain ⟨⟨hr,hq⟩,⟨hM,hve⟩,he,rfl,rfl⟩:=hp
 obtain ⟨g,k1,k2,k3,k4,hg⟩:=isLdG_eq hl hq
 have hf:=lfire_rep hM p hve
 rw [he] at hf
 have hm:=fire_main (G:=G) (repD M) p (fun _ hok => fits_rep hM hok hve) []
 rw [hf] at hm
 exact FnS.args (args':=[.c (.ptr j 0),pgV p]) (led_fnG (args:=[pgV p]) (vs:=[iV e]) (D':=repD M') Try.func25 (by kernel_rfl) k1 k2 k3 k4 hg rfl fun b => hm b _) (.cons (.refl _) (.cons (lePg_le hx hr) .nil))
set_option maxRecDepth 100000 in
theorem okValidG (D:Ld) (M:List Pg) (p:Pg) (out:List Int):ModHOK Try.prog G 16 (mValidG D M p out):=by
 intro args h p0 v h' hm hp
 unfold mValidG at hm
 split at hm;rotate_left;· cases hm
 split at hm;rotate_left;· cases hm
 rename_i j ru ve x _ _ q r a b s hl hx
 obtain ⟨rfl,rfl,rfl⟩:=some_three hm
 obtain ⟨⟨⟨hr,hq⟩,rfl,rfl⟩,⟨hM,hve⟩,rfl,rfl⟩:=hp
 obtain ⟨g,q1,q2,q3,q4,hg⟩:=isLdG_eq hl hq
 obtain ⟨S,k1,k2,k3,k4⟩:=lvalid_rep hM p
 refine FnS.args (args':=[.c (.ptr j 0),.c (.p (.s p.ru)),iV p.ve,listV enc2 2 p.L]) (FnS.resLe (fun x' h' hk => ?_) (led_fnG (args:=[.c (.p (.s p.ru)),iV p.ve,listV enc2 2 p.L]) (vs:=[lvalid (repD M) p.ru p.ve p.L S]) (D':=repD M) Try.func16 (by kernel_rfl) q1 q2 q3 q4 hg rfl fun b => valid_main (repD M) p.ru p.ve p.L S k1 (fun hok => ?_) [] b _)) (.cons (.refl _) (.cons (.refl _) (.cons (.refl _) (.cons (leLb_le hx hr) .nil))))
 · obtain ⟨rfl,rfl⟩:=hk
   refine ⟨_,?_,rfl,rfl⟩
   have e:oneW (outVs [1] [j] h.length [lvalid (repD M) p.ru p.ve p.L S])=lvalid (repD M) p.ru p.ve p.L S:=by
    unfold lvalid
    cases pgOK ⟨0,p.ru,p.ve,p.L,0,0,⟨#[]⟩⟩ <;> rfl
   rw [e]
   exact k4
 · obtain ⟨m1,m2,m3,_⟩:=pgOK_iff.1 hok
   have t1:p.ru.size≤1000000:=by have:p.ru.size≤16:=name_sz m1;omega
   have t2:(textLb p.L).size≤1000000:=by have:(textLb p.L).size≤1000:=valid_text m3;omega
   have t4:=hM.2
   exact ⟨t2,okGr_of _ _ _ t1 hve t2,fun t ht => okMu_of _ _ _ _ t1 hve t2 (tick_in (k3 hok t ht)),by omega⟩
set_option maxRecDepth 100000 in
theorem okAllG (D:Ld) (M:List Pg):ModHOK Try.prog G 26 (mAllG D M):=by
 intro args h p0 v h' hm hp
 unfold mAllG at hm
 split at hm;rotate_left;· cases hm
 split at hm;rotate_left;· cases hm
 rename_i j _ q r a b hl
 obtain ⟨rfl,rfl,rfl⟩:=some_three hm
 obtain ⟨hq,hM,rfl⟩:=hp
 obtain ⟨g,q1,q2,q3,q4,hg⟩:=isLdG_eq hl hq
 have hm:=all_main (G:=G) (repD M) (by rw [repD_M];have:=hM.2;omega) (fun p hp => by
   rw [repD_M] at hp
   have:=(validLb_at (pgOK_iff.1 (hM.1 p hp).1).2.2.1).1
   omega) []
 rw [repD_M] at hm
 exact led_fnG (args:=[]) (vs:=[listV encPg 7 M]) (D':=repD M) Try.func26 (by kernel_rfl) q1 q2 q3 q4 hg rfl fun b => hm b _
end
end Go.AE
namespace Go.AE
set_option linter.unusedVariables false
set_option linter.unusedSimpArgs false
open Go.Proofs Go.Proofs.Ytfjihbmehhccoaa Gp Go.RowKit
section
variable {G:Nat→Option Obj}
end
end Go.AE
namespace Go.AE
set_option linter.unusedVariables false
set_option linter.unusedSimpArgs false
open Go.Proofs Go.Proofs.Ytfjihbmehhccoaa Gp Go.RowKit
def mEqT:Mod
 | [.c (.p (.l 7 n f)),.c (.p (.l 7 m g))] => some (∃ A:List Pg,VLe (.c (.p (.l 7 n f))) (listV encPg 7 A)∧VLe (.c (.p (.l 7 m g))) (listV encPg 7 A)∧A.length≤1000000∧∀ a∈A,a.L.length≤1000000,bV true)
 | _ => none
def mSameT:Mod
 | [.c (.p (.l 1 n f)),.c (.p (.l 1 m g))] => some (∃ U:List Int,VLe (.c (.p (.l 1 n f))) (listV encI 1 U)∧VLe (.c (.p (.l 1 m g))) (listV encI 1 U)∧U.length≤1000000,bV true)
 | _ => none
end Go.AE
namespace Go.AE
set_option linter.unusedVariables false
set_option linter.unusedSimpArgs false
open Go.Proofs Go.Proofs.Ytfjihbmehhccoaa Gp Go.RowKit
theorem frZ_okM {M M':List Pg} {p:Pg} {e:Int} (h:OkM M) (hl:M.length≤1275) (hve:inR .i64 p.ve) (he:frZ M p=(M',e)):OkM M'∧M'.length≤1276∧(e=0∨e=1∨e=10∨e=20):=by
 unfold frZ at he
 split at he
 · cases he;exact ⟨h,by omega,by omega⟩
 split at he
 · cases he;exact ⟨h,by omega,by omega⟩
 split at he
 · cases he;exact ⟨h,by omega,by omega⟩
 rename_i h1 _ _
 cases he
 have h2:pgOK p=true:=by cases hq:pgOK p with
   | true => rfl
   | false => exact absurd (.inl hq) h1
 have h3:p.kd=0:=Decidable.byContradiction fun hq => h1 (.inr hq)
 refine ⟨⟨fun q hq => ?_,by rw [List.length_append];simp;omega⟩,by rw [List.length_append];simp;omega,by omega⟩
 rcases List.mem_append.1 hq with hq | hq
 · exact h.1 q hq
 · obtain rfl:=List.mem_singleton.1 hq
   exact ⟨h2,hve,.inl h3⟩
theorem amZ_out' {M M' out:List Pg} {p:Pg} {T:List Int} (h:amZ M p T=(M',out)):M'=M ++ out∧∀ a∈out,a.L=p.L:=by
 unfold amZ at h
 split at h
 · injection h with h1 h2
   subst h1;subst h2
   refine ⟨rfl,fun a ha => ?_⟩
   unfold amO at ha
   obtain ⟨t,_,rfl⟩:=List.mem_map.1 ha
   rfl
 · injection h with h1 h2
   subst h1;subst h2
   exact ⟨(List.append_nil _).symm,fun a ha => by cases ha⟩
section
variable {G:Nat→Option Obj}
theorem okEqT:ModOK Try.prog G 23 mEqT:=by
 intro args p v hm hp h
 unfold mEqT at hm
 split at hm;rotate_left;· cases hm
 obtain ⟨rfl,rfl⟩:=some_pair hm
 obtain ⟨A,h1,h2,h3,h4⟩:=hp
 have h0:=okEqX (G:=G) A A [listV encPg 7 A,listV encPg 7 A] _ _ rfl ⟨⟨⟨rfl,fun _ _ _ _ => PLe.refl _⟩,rfl,fun _ _ _ _ => PLe.refl _⟩,h3,h4⟩ h
 rw [decide_eq_true (rfl:A=A)] at h0
 exact FnS.args (args':=[listV encPg 7 A,listV encPg 7 A]) h0 (.cons h1 (.cons h2 .nil))
theorem okSameT:ModOK Try.prog G 27 mSameT:=by
 intro args p v hm hp h
 unfold mSameT at hm
 split at hm;rotate_left;· cases hm
 obtain ⟨rfl,rfl⟩:=some_pair hm
 obtain ⟨U,h1,h2,h3⟩:=hp
 have h0:=okSameX (G:=G) U U [listV encI 1 U,listV encI 1 U] _ _ rfl ⟨⟨isL_row _ _ _,isL_row _ _ _⟩,h3⟩ h
 rw [decide_eq_true (rfl:U=U)] at h0
 exact FnS.args (args':=[listV encI 1 U,listV encI 1 U]) h0 (.cons h1 (.cons h2 .nil))
end
end Go.AE
