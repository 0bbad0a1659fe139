/- Pages: P7, P10, P11, P12, P8, P9, P13, P14, P15, P16, P17, P18, P19, P20, P21, P22, P23, as far as they are used here. -/
import Derived.Test.YtfjihbmehhccoaaT1
import Derived.Test.YtfjihbmehhccoaaTD
import Derived.Test.YtfjihbmehhccoaaShelf
import Derived.OpenShut
namespace Go.AE
set_option linter.unusedVariables false
set_option linter.unusedSimpArgs false
open Go.Proofs Go.Proofs.Ytfjihbmehhccoaa Go.RowKit
def sortI (L:List Int):List Int:=L.mergeSort fun x y => decide (x≤y)
theorem sortI_length (L:List Int):(sortI L).length=L.length:=by unfold sortI;exact List.length_mergeSort L
def rowI (L:List Int) (f:Nat→Nat→C):Prop:=∀ e o,e<L.length→o<1→f e o=rowC encI L e o
def mSortI (L:List Int):ModH
 | [.c (.sl id 1 0 n)],h => match nth .gone h id with
   | .row 3 1 n' f => some (n=L.length∧n'=L.length∧rowI L f∧L.length≤1000000,.t [],upd (.row 3 1 L.length (rowC encI (sortI L))) h id)
   | _ => none
 | _,_ => none
section
variable {G:Nat→Option Obj}
theorem okSortI (L:List Int):ModHOK Try.prog G 44 (mSortI L):=by
 intro args h p v h' hm hp
 unfold mSortI at hm
 split at hm;rotate_left;· cases hm
 split at hm;rotate_left;· cases hm
 rename_i id n h n' f hid
 obtain ⟨rfl,rfl,rfl⟩:=some_three hm
 obtain ⟨rfl,rfl,hf,hL⟩:=hp
 refine sorted_fn hid hf (sortI_length L) (fun w blk cap hH hb _ => ?_) (fun w p cap _ => ?_)
 · exact Try.slices_Sort_int blk 0 cap L w hH hb (by omega)
 · exact Try.slices_Sort_int_none p cap w
end
end Go.AE
namespace Go.AE
set_option linter.unusedVariables false
set_option linter.unusedSimpArgs false
open Go.Proofs Go.Proofs.Ytfjihbmehhccoaa Go.RowKit
def mGrow:ModH
 | [.c (.p (.z (.slice none 0 0))),.c (.p (.i .i64 n))],h => some (0≤n∧n≤1000000,.c (.sl (lenL h) 1 0 0),snoc (.row 3 1 0 fun e o => .p (rowP encI [] e o)) h)
 | _,_ => none
def extGr:Ext:=extH [(77,mGrow)]
def encII (x:List Int) (_:Nat):PV:=listP encI 1 x
theorem tG1 (n:Nat):exTs ext0 (takeL 6 (pcs Try.prog Try.f77)) (st0 Try.f77 [.c (.p (.z (.slice none 0 0))),iV n]) (endG (msk 27 [0]) [])=Tr.rq (inR IntKind.i64 (0 - 0))
 (.rq (inR IntKind.i64 ((↑n:Int) - (0 - 0)))
 (bT (decide (0<(↑n:Int) - (0 - 0)))
 (.rq ((↑(0:Nat):Int)=0∧(0:Int)=0)
 (.rq (0<(↑n:Int) - (0 - 0)∧((↑n:Int) - (0 - 0)) * (↑(8:Nat):Int)≤140737488355328∧(↑n:Int) - (0 - 0)≤140737488355328)
 (.rq (0≤(↑(0:Nat):Int)∧(↑(0:Nat):Int)≤0∧0≤(↑((↑n:Int) - (0 - 0)).toNat:Int))
 (.done .normal
 (cst 27 [(0,.c (.sl 0 1 0 0))] [.row 3 1 ((↑n:Int) - (0 - 0)).toNat fun e o => renC [0] (C.p (nth (PV.b false) [PV.i IntKind.i64 0] o))])))))
 (.done .normal
 (cst 27 [(0,.c (.p (.z (Value.slice none 0 0))))] [])))):=by kernel_rfl
theorem tC1 (LL:List (List Int)):exTs ext0 (takeL 3 (pcs Try.prog Try.f46)) (st0 Try.f46 [listV encII 1 LL]) (endG (msk 36 [0,3,9,10,11]) [])=Tr.done X.normal
 (cst 36 [(0,.c (.p (.l 1 LL.length (rowP encII LL)))),(3,.c (.p (.i .i64 0))),(9,.c (.p (.l 1 LL.length (rowP encII LL)))),(10,.c (.p (.i .i64 (↑LL.length:Int)))),(11,.c (.p (.i .i64 0)))] []):=by kernel_rfl
theorem tC2 (LL:List (List Int)) (s i:Nat):exTs ext0 (lpB (pcs Try.prog Try.f46) 3) (cst 36 [(0,listV encII 1 LL),(3,iV s),(9,listV encII 1 LL),(10,iV (LL.length:Nat)),(11,iV i)] []) (endG (msk 36 [0,3,9,10,11]) [])=bT (decide ((↑i:Int)<(↑LL.length:Int)))
 (.rq (0≤(↑i:Int)∧(↑i:Int)<(↑LL.length:Int))
 (.rq (inR IntKind.i64 ((↑s:Int)+(↑(LL.getD (↑i:Int).toNat default).length:Int)))
 (.rq (inR IntKind.i64 ((↑i:Int)+1))
 (.done .normal
 (cst 36 [(0,.c (.p (.l 1 LL.length (rowP encII LL)))),(3,.c (.p (.i .i64 ((↑s:Int)+(↑(LL.getD (↑i:Int).toNat default).length:Int))))),(9,.c (.p (.l 1 LL.length (rowP encII LL)))),(10,.c (.p (.i .i64 (↑LL.length:Int)))),(11,.c (.p (.i .i64 ((↑i:Int)+1))))] [])))))
 (.done (.exit 0)
 (cst 36 [(0,.c (.p (.l 1 LL.length (rowP encII LL)))),(3,.c (.p (.i .i64 (↑s:Int)))),(9,.c (.p (.l 1 LL.length (rowP encII LL)))),(10,.c (.p (.i .i64 (↑LL.length:Int)))),(11,.c (.p (.i .i64 (↑i:Int))))] [])):=by kernel_rfl
theorem tC3 (LL:List (List Int)) (s:Nat):exTs extGr (takeL 2 (dropL 4 (pcs Try.prog Try.f46))) (cst 36 [(0,listV encII 1 LL),(3,iV s)] []) (endG (msk 36 [6,25,26,27]) [])=Tr.rq (0≤(↑s:Int)∧(↑s:Int)≤1000000)
 (.done .normal
 (cst 36 [(6,.c (.sl 0 1 0 0)),(25,.c (.p (.l 1 LL.length (rowP encII LL)))),(26,.c (.p (.i .i64 (↑LL.length:Int)))),(27,.c (.p (.i .i64 0)))] [.row 3 1 0 fun e o => renC [0] (C.p (PV.i IntKind.i64 ([].getD e default)))])):=by kernel_rfl
theorem tC4 (LL:List (List Int)) (out:List Int) (k i:Nat):exTs ext0 (lpB (pcs Try.prog Try.f46) 6) (cst 36 [(6,.c (.sl 0 1 0 k)),(25,listV encII 1 LL),(26,iV (LL.length:Nat)),(27,iV i)] [.row 3 1 k (rowC encI out)]) (endG (msk 36 [6,25,26,27]) [])=bT (decide ((↑i:Int)<(↑LL.length:Int)))
 (.rq (0≤(↑i:Int)∧(↑i:Int)<(↑LL.length:Int))
 (.rq (k=k)
 (.rq
 ((k+(LL.getD (↑i:Int).toNat default).length) * 8≤140737488355328 ∧
 k+(LL.getD (↑i:Int).toNat default).length≤140737488355328 ∧
 ∀ (e o:Nat),e<(LL.getD (↑i:Int).toNat default).length→o<1→oneC (C.p (rowP encI (LL.getD (↑i:Int).toNat default) e o))=true)
 (.rq (inR IntKind.i64 ((↑i:Int)+1))
 (.done .normal
 (cst 36 [(6,.c (.sl 0 1 0 (k+(LL.getD (↑i:Int).toNat default).length))),(25,.c (.p (.l 1 LL.length (rowP encII LL)))),(26,.c (.p (.i .i64 (↑LL.length:Int)))),(27,.c (.p (.i .i64 ((↑i:Int)+1))))] [.row 3 1 (k+(LL.getD (↑i:Int).toNat default).length) fun e o => renC [1] (appF k (rowC encI out) (fun e o => C.p (PV.i IntKind.i64 ((LL.getD (↑i:Int).toNat default).getD e default))) e o)]))))))
 (.done (.exit 2)
 (cst 36 [(6,.c (.sl 0 1 0 k)),(25,.c (.p (.l 1 LL.length (rowP encII LL)))),(26,.c (.p (.i .i64 (↑LL.length:Int)))),(27,.c (.p (.i .i64 (↑i:Int))))] [.row 3 1 k fun e o => renC [0] (rowC encI out e o)])):=by kernel_rfl
end Go.AE
namespace Go.AE
set_option linter.unusedVariables false
set_option linter.unusedSimpArgs false
open Go.Proofs Go.Proofs.Ytfjihbmehhccoaa Go.RowKit
theorem PLe.of_isL {α:Type} [Inhabited α] {enc:α→Nat→PV} {sz:Nat} {L:List α} {n:Nat} {f:Nat→Nat→PV} (h:IsL enc sz L n f):PLe (.l sz n f) (listP enc sz L):=by
 obtain ⟨rfl,h2⟩:=h
 exact PLe.l fun e o he ho => PLe.of_eq (h2 e o he ho)
def iOf:PV→Option (Prop × List Int)
 | .l 1 n f => some (IsL encI 1 (decL decI n f) n f,decL decI n f)
 | .z (.slice none 0 0) => some (True,[])
 | _ => none
theorem iOf_le {x:PV} {p:Prop} {A:List Int} (h:iOf x=some (p,A)) (hp:p):PLe x (listP encI 1 A):=by
 unfold iOf at h
 split at h
 · injection h with h
   injection h with h1 h2
   subst h2;subst h1
   exact PLe.of_isL hp
 · injection h with h
   injection h with h1 h2
   subst h2;subst h1
   exact PLe.nil 1 _
 · cases h
def mConcat:ModH
 | [.c (.p (.l 1 2 F))],h => match iOf (F 0 0),iOf (F 1 0) with
   | some (p,A),some (q,B) => some ((p∧q)∧A.length+B.length≤1000000,.c (.sl (lenL h) 1 0 (A ++ B).length),snoc (.row 3 1 (A ++ B).length fun e o => .p (rowP encI (A ++ B) e o)) h)
   | _,_ => none
 | _,_ => none
def compI (L:List Int):List Int:=Go.Lib.compact L
theorem compI_length (L:List Int):(compI L).length≤L.length:=Go.Lib.compact_length_le L
def mCompI (L:List Int):ModH
 | [.c (.sl id 1 0 n)],h => match nth .gone h id with
   | .row 3 1 n' f => some (n=L.length∧n'=L.length∧rowI L f∧L.length≤1000000,.c (.sl id 1 0 (compI L).length),upd (.row 3 1 (compI L).length (rowC encI (compI L))) h id)
   | _ => none
 | _,_ => none
section
variable {G:Nat→Option Obj}
set_option maxRecDepth 100000 in
theorem okGrow:ModHOK Try.prog G 77 mGrow:=by
 intro args h p v h' hm hp
 unfold mGrow at hm
 split at hm;rotate_left;· cases hm
 rename_i _ _ n0
 obtain ⟨rfl,rfl,rfl⟩:=some_three hm
 obtain ⟨hn0,hn1⟩:=hp
 obtain ⟨n,rfl⟩:∃ n:Nat,n0=n:=⟨n0.toNat,by omega⟩
 refine fn_rowS (args:=[.c (.p (.z (.slice none 0 0))),iV n]) (r:=4) (ty:=3) (sz:=1) (n:=0) (F:=rowP encI []) (pre:=takeL 7 (pcs Try.prog Try.f77)) Try.func77 (by kernel_rfl) (by kernel_rfl) (by kernel_rfl) rfl ?_ h
 have fin:ExS Try.prog G [] vF (dropL 6 (takeL 7 (pcs Try.prog Try.f77))) (cst 27 [(0,.c (.sl 0 1 0 0))] [.row 3 1 0 (rowC encI [])]) (fun e st => e=.normal∧RowEnd 4 3 1 0 (rowP encI []) .ret st):=by
  refine ExS.evH ext0_sound (keep:=msk 27 [4]) (tree:=.done .normal (cst 27 [(4,.c (.sl 0 1 0 0))] [.row 3 1 0 fun e o => renC [0] (rowC encI [] e o)])) (by kernel_rfl) ?_
  exact ⟨rfl,fun j => by simp,0,_,rfl,rfl,fun e o he ho => absurd he (Nat.not_lt_zero _)⟩
 refine ExS.evG ext0_sound 6 (tG1 n) ?_
 simp only [holds_bT,holds_rq,holds_leaf,kf_normal,decide_eq_true_eq,decide_eq_false_iff_not,inR]
 refine ⟨by omega,by omega,fun h1 => ⟨⟨rfl,trivial⟩,by omega,by omega,⟨?_⟩⟩,fun h1 => ⟨?_⟩⟩
 · refine ExS.pre ((weak_short (id:=0) (ty:=3) (sz:=1) (n:=((n:Int) - (0 - 0)).toNat) (f:=fun e o => renC [0] (C.p (nth (PV.b false) [PV.i IntKind.i64 0] o))) 0 (by kernel_rfl) (Nat.zero_le _)).trans ((weak_of_eq (by kernel_rfl)).trans (weak_cst (h:=[.row 3 1 0 fun e o => renC [0] (C.p (nth (PV.b false) [PV.i IntKind.i64 0] o))]) (h':=[.row 3 1 0 (rowC encI [])]) ⟨⟨rfl,rfl,rfl,fun e o he ho => absurd he (Nat.not_lt_zero _)⟩,trivial⟩))) fin
 · exact ExS.pre ((weak_nil 3 1 (rowC encI []) 0 (by kernel_rfl)).trans (weak_of_eq (by kernel_rfl))) fin
theorem extGr_sound:SoundExt Try.prog G extGr:=extH_sound (by simp;exact okGrow)
theorem lens_le:∀ (LL:List (List Int)) (i:Nat),(LL.take i).flatten.length≤LL.flatten.length
 | [],i => by simp
 | x::r,0 => by simp
 | x::r,i+1 => by
   have:=lens_le r i
   simp only [List.take_succ_cons,List.flatten_cons,List.length_append]
   omega
theorem flat_snoc {LL:List (List Int)} {i:Nat} (hi:i<LL.length):(LL.take (i+1)).flatten=(LL.take i).flatten ++ LL.getD i default:=by
 rw [List.take_succ_eq_append_getElem hi,List.flatten_append,List.getD_eq_getElem?_getD,List.getElem?_eq_getElem hi]
 simp
set_option maxRecDepth 100000 in
theorem concat_fn (LL:List (List Int)) (hL:LL.flatten.length≤1000000) (hn:LL.length≤1000000) (h:List AO):FnS Try.prog G 46 [listV encII 1 LL] h fun x h' => x=.c (.sl (lenL h) 1 0 LL.flatten.length)∧h'=snoc (.row 3 1 LL.flatten.length fun e o => .p (rowP encI LL.flatten e o)) h:=by
 refine fn_rowS (args:=[listV encII 1 LL]) (r:=2) (ty:=3) (sz:=1) (n:=LL.flatten.length) (F:=rowP encI LL.flatten) (pre:=takeL 8 (pcs Try.prog Try.f46)) Try.func46 (by kernel_rfl) (by kernel_rfl) (by kernel_rfl) rfl ?_ h
 refine ExS.evG ext0_sound 3 (tC1 LL) ?_
 simp only [holds_bT,holds_rq,holds_leaf,kf_normal]
 refine ⟨?_⟩
 refine ExS.loop' (l:=dropL 3 (takeL 8 (pcs Try.prog Try.f46))) (b:=inr (inr (nth .skip (pcs Try.prog Try.f46) 3))) (r:=dropL 4 (takeL 8 (pcs Try.prog Try.f46))) (id:=0) (by kernel_rfl) (σ:=Nat)
   (fun i => (fun s => cst 36 [(0,listV encII 1 LL),(3,iV s),(9,listV encII 1 LL),(10,iV (LL.length:Nat)),(11,iV (i:Nat))] []) ((LL.take i).flatten.length:Nat)) (fun i => i≤LL.length) (fun i => LL.length - i) 0 (Nat.zero_le _) (weak_of_eq (by kernel_rfl)) ?_
 · intro i hi Q1 q1n q1e _
   refine ExS.evH ext0_sound (tC2 LL (LL.take i).flatten.length i) ?_
   have h1:=lens_le LL (i+1)
   simp only [holds_bT,holds_rq,holds_leaf,kf_normal,kf_exit,decide_eq_true_eq,decide_eq_false_iff_not,inR,show (↑i:Int).toNat=i from rfl]
   refine ⟨fun hlt => ?_,fun hge => ⟨q1e _ ?_⟩⟩
   · have hlt:i<LL.length:=by omega
     have h2:=flat_snoc hlt
     have h3:(LL.take (i+1)).flatten.length=(LL.take i).flatten.length+(LL.getD i default).length:=by rw [h2,List.length_append]
     refine ⟨by omega,by omega,by omega,⟨q1n (i+1) _ (by omega) (by omega) ?_⟩⟩
     rw [h3]
     exact weak_of_eq (by kernel_rfl)
   · obtain rfl:i=LL.length:=by omega
     rw [List.take_length]
     refine ExS.pre (weak_gc (msk 36 [0,3]) _) (ExS.pre (weak_of_eq (by kernel_rfl)) (ExS.evG extGr_sound 2 (tC3 LL LL.flatten.length) ?_))
     simp only [holds_bT,holds_rq,holds_leaf,kf_normal]
     refine ⟨by omega,⟨?_⟩⟩
     refine ExS.loop' (l:=dropL 6 (takeL 8 (pcs Try.prog Try.f46))) (b:=inr (inr (nth .skip (pcs Try.prog Try.f46) 6))) (r:=dropL 7 (takeL 8 (pcs Try.prog Try.f46))) (id:=2) (by kernel_rfl) (σ:=Nat)
       (fun i => (fun out k => cst 36 [(6,.c (.sl 0 1 0 k)),(25,listV encII 1 LL),(26,iV (LL.length:Nat)),(27,iV (i:Nat))] [.row 3 1 k (rowC encI out)]) (LL.take i).flatten (LL.take i).flatten.length) (fun i => i≤LL.length) (fun i => LL.length - i) 0 (Nat.zero_le _) ((weak_of_eq (by kernel_rfl)).trans (weak_cst (h:=[.row 3 1 0 (fun e o => renC [0] (rowC encI [] e o))]) ⟨⟨rfl,rfl,rfl,fun _ _ _ _ => rfl⟩,trivial⟩)) ?_
     intro i hi Q2 q2n q2e _
     refine ExS.evH ext0_sound (tC4 LL (LL.take i).flatten (LL.take i).flatten.length i) ?_
     have h1:=lens_le LL (i+1)
     simp only [holds_bT,holds_rq,holds_leaf,kf_normal,kf_exit,decide_eq_true_eq,decide_eq_false_iff_not,inR,show (↑i:Int).toNat=i from rfl]
     refine ⟨fun hlt => ?_,fun hge => ⟨q2e _ ?_⟩⟩
     · have hlt:i<LL.length:=by omega
       have h2:=flat_snoc hlt
       have h3:(LL.take (i+1)).flatten.length=(LL.take i).flatten.length+(LL.getD i default).length:=by rw [h2,List.length_append]
       refine ⟨by omega,trivial,⟨by omega,by omega,fun _ _ _ _ => rfl⟩,by omega,⟨q2n (i+1) _ (by omega) (by omega) ?_⟩⟩
       rw [h3,h2]
       refine weak_cst ⟨⟨rfl,rfl,rfl,fun e o he ho => ?_⟩,trivial⟩
       exact congrArg (renC [1]) (appL (enc:=encI) (L:=(LL.take i).flatten) (M:=LL.getD i default) rfl)
     · obtain rfl:i=LL.length:=by omega
       rw [List.take_length]
       refine ExS.evH ext0_sound (keep:=msk 36 [2]) (tree:=.done .normal (cst 36 [(2,.c (.sl 0 1 0 LL.flatten.length))] [.row 3 1 LL.flatten.length fun e o => renC [0] (renC [0] (rowC encI LL.flatten e o))])) (by kernel_rfl) ?_
       exact ⟨rfl,fun j => by simp,0,_,rfl,rfl,fun e o he ho => rfl⟩
theorem okConcat:ModHOK Try.prog G 46 mConcat:=by
 intro args h p v h' hm hp
 unfold mConcat at hm
 split at hm;rotate_left;· cases hm
 split at hm;rotate_left;· cases hm
 rename_i F _ _ _ q1 A q2 B ha hb
 obtain ⟨rfl,rfl,rfl⟩:=some_three hm
 obtain ⟨⟨hp1,hp2⟩,hL⟩:=hp
 refine FnS.args (args':=[listV encII 1 [A,B]]) ?_ (.cons (VLe.p (PLe.l fun e o he ho => ?_)) .nil)
 · have:=concat_fn (G:=G) [A,B] (by simp;omega) (by simp) h
   simpa using this
 · obtain rfl:o=0:=by omega
   have he:e=0∨e=1:=by omega
   rcases he with rfl | rfl
   · exact iOf_le ha hp1
   · exact iOf_le hb hp2
theorem okCompI (L:List Int):ModHOK Try.prog G 47 (mCompI L):=by
 intro args h p v h' hm hp
 unfold mCompI at hm
 split at hm;rotate_left;· cases hm
 split at hm;rotate_left;· cases hm
 rename_i id n h n' f hid
 obtain ⟨rfl,rfl,rfl⟩:=some_three hm
 obtain ⟨rfl,rfl,hf,hL⟩:=hp
 refine compact_fn hid hf (compI_length L) (fun w blk cap hH hb hc => ?_) (fun w p cap _ => ?_)
 · exact Try.slices_Compact_int blk 0 cap L w hH (by omega) hc
 · exact Try.slices_Compact_int_empty p cap w
end
end Go.AE
namespace Go.AE
set_option linter.unusedVariables false
set_option linter.unusedSimpArgs false
open Go.Proofs Go.Proofs.Ytfjihbmehhccoaa Go.RowKit
section
theorem kInt (d:Nat) (n:Int) (h:inR .i64 n):(Try.prog).keyLits (d+1) 3 [.int .i64 n]=some [.int .i64 n]:=by
 unfold Program.keyLits
 rw [Try.underlying3]
 have:(Lit.int .i64 n).wf=true:=by
  unfold inR at h
  have e1:IntKind.i64.min = -9223372036854775808:=by decide
  have e2:IntKind.i64.max=9223372036854775807:=by decide
  simp [Lit.wf,e1,e2]
  exact h
 simp [this]
theorem kStr (d:Nat) (s:ByteArray) (h:s.size≤1000000):(Try.prog).keyLits (d+1) 9 [.string s]=some [.string s.data.toList]:=by
 unfold Program.keyLits
 rw [Try.underlying9]
 have:s.size≤maxLen:=Nat.le_trans h (by decide)
 simp [this]
theorem c3:(Try.prog).cellsOf 3=1:=by kernel_rfl
theorem c9:(Try.prog).cellsOf 9=1:=by kernel_rfl
theorem c79:(Try.prog).cellsOf 79=3:=by kernel_rfl
theorem c81:(Try.prog).cellsOf 81=4:=by kernel_rfl
theorem k79:(Try.prog).keyType 79=true:=by kernel_rfl
theorem k81:(Try.prog).keyType 81=true:=by kernel_rfl
theorem szP:∃ n,(Try.prog).types.size+1=n+3:=⟨(Try.prog).types.size+1 - 3,by
 have:Nat.ble 2 (Try.prog).types.size=true:=by kernel_rfl
 have:=Nat.le_of_ble_eq_true this
 omega⟩
theorem kGr (d:Nat) (ru tx:ByteArray) (ve:Int) (h1:ru.size≤1000000) (h2:inR .i64 ve) (h3:tx.size≤1000000):(Try.prog).keyLits (d+2) 79 [.string ru,.int .i64 ve,.string tx]=some [.string ru.data.toList,.int .i64 ve,.string tx.data.toList]:=by
 unfold Program.keyLits
 rw [Try.underlying79]
 simp [c79,c3,c9,kInt d ve h2,kStr d ru h1,kStr d tx h3]
theorem okGr_of (ru tx:ByteArray) (ve:Int) (h1:ru.size≤1000000) (h2:inR .i64 ve) (h3:tx.size≤1000000):okK Try.prog 79 (gKey ru ve tx)=true:=by
 obtain ⟨n,hn⟩:=szP
 unfold okK keyOf
 rw [Try.underlying79,hn,k79]
 simp [gKey,Value.formed,Try.underlying79,c79,Value.cells,kGr (n+1) ru tx ve h1 h2 h3]
theorem okMu_of (ru tx:ByteArray) (ve st:Int) (h1:ru.size≤1000000) (h2:inR .i64 ve) (h3:tx.size≤1000000) (h4:inR .i64 st):okK Try.prog 81 (mKey ru ve tx st)=true:=by
 obtain ⟨n,hn⟩:=szP
 unfold okK keyOf
 rw [Try.underlying81,hn,k81]
 have e:(Try.prog).keyLits (n+3) 81 [.string ru,.int .i64 ve,.string tx,.int .i64 st]=some [.string ru.data.toList,.int .i64 ve,.string tx.data.toList,.int .i64 st]:=by
  unfold Program.keyLits
  rw [Try.underlying81]
  simp [c79,c3,c81,kInt (n+1) st h4,kGr n ru tx ve h1 h2 h3]
 simp [mKey,Value.formed,Try.underlying81,c81,Value.cells,e]
theorem okIn_of (st:Int) (h4:inR .i64 st):okK Try.prog 3 (.int .i64 st)=true:=by
 unfold okK keyOf mapKey
 rw [Try.underlying3]
 have:(Lit.int .i64 st).wf=true:=by
  unfold inR at h4
  have e1:IntKind.i64.min = -9223372036854775808:=by decide
  have e2:IntKind.i64.max=9223372036854775807:=by decide
  simp [Lit.wf,e1,e2]
  exact h4
 simp [this]
end
end Go.AE
namespace Go.AE
set_option linter.unusedVariables false
set_option linter.unusedSimpArgs false
open Go.Proofs Go.Proofs.Ytfjihbmehhccoaa Go.RowKit
noncomputable def extSI (L:List Int):Ext:=extH [(44,mSortI L)]
def extVa:Ext:=extOf [(42,mPVal),(43,mOf)]
theorem tV1 (D:Ld) (rest:List AO) (b:Nat) (ve:Int) (ru:ByteArray) (L:List (ByteArray × ByteArray)):exTs extVa (takeL 6 (pcs Try.prog Try.f16)) (stIn Try.f16 [0,1,2,3] [0] [b] [.c (.ptr 0 0),.c (.p (.s ru)),iV ve,listV enc2 2 L] (ldH D rest)) (endM [0] (msk 51 [0,10,11]) (resOf Try.prog Try.f16))=Tr.rq (IsL enc2 2 (decL dec2 L.length (rowP enc2 L)) L.length (rowP enc2 L))
 (bT (!pgOK (Pg.mk 0 ru ve (decL dec2 L.length (rowP enc2 L)) 0 0 (ByteArray.mk #[])))
 (.done .ret
 (cst 2 [(0,.c (.ptr 0 0)),(1,.c (.p (.z (Value.slice none 0 0))))] [.pin 1 b,.cells 86 [.sl 2 7 0 D.M.length,.mp 3,.mp 4],.row 31 7 D.M.length fun e o => renC [4,0,1,2,3] (renC [0,1,2,3] (rowC encPg D.M e o)),.mapb (okK Try.prog 81) D.gp,.mapl (okK Try.prog 79) 3 1 D.gs none]))
 (.rq (IsL enc2 2 (decL dec2 L.length (rowP enc2 L)) L.length (rowP enc2 L)∧(textLb (decL dec2 L.length (rowP enc2 L))).size≤1000000)
 (.done .normal
 (cst 51 [(0,.c (.ptr 0 0)),(10,.c (.p (.z (Value.slice none 0 0)))),(11,.c (.ptr 1 0))] [.pin 2 b,.cells 79 [.p (.s ru),.p (.i .i64 ve),.p (.s (textLb (decL dec2 L.length (rowP enc2 L))))],.cells 86 [.sl 3 7 0 D.M.length,.mp 4,.mp 5],.row 31 7 D.M.length fun e o => renC [4,6,0,1,2,3] (renC [0,1,2,3] (rowC encPg D.M e o)),.mapb (okK Try.prog 81) D.gp,.mapl (okK Try.prog 79) 3 1 D.gs none])))):=by kernel_rfl
theorem tV2 (D:Ld) (b:Nat) (ve:Int) (ru tx:ByteArray) (S:List Int):exTs extVa (takeL 1 (dropL 6 (pcs Try.prog Try.f16))) (cst 51 [(0,.c (.ptr 0 0)),(10,.c (.sl 7 1 0 0)),(11,.c (.ptr 1 0))] [.pin 2 b,.cells 79 [.p (.s ru),.p (.i .i64 ve),.p (.s tx)],.cells 86 [.sl 3 7 0 D.M.length,.mp 4,.mp 5],.row 31 7 D.M.length (rowC encPg D.M),.mapb (okK Try.prog 81) D.gp,.mapl (okK Try.prog 79) 3 1 D.gs (some (gKey ru ve tx,.sl 6 1 0 S.length)),.row 3 1 S.length (rowC encI S),.row 3 1 0 (rowC encI [])]) (endM [0] (msk 51 [0,10,11,29,30,31]) (resOf Try.prog Try.f16))=Tr.rq
 ((okK Try.prog 79=okK Try.prog 79∧okK Try.prog 79 (Value.agg #[Value.string ru,Value.int IntKind.i64 ve,Value.string tx])=true) ∧
 Value.agg #[Value.string ru,Value.int IntKind.i64 ve,Value.string tx]=gKey ru ve tx)
 (.done .normal
 (cst 51 [(0,.c (.ptr 0 0)),(10,.c (.sl 1 1 0 0)),(11,.c (.ptr 2 0)),(29,.c (.sl 3 1 0 S.length)),(30,.c (.p (.i .i64 (↑S.length:Int)))),(31,.c (.p (.i .i64 0)))] [.pin 4 b,.row 3 1 0 fun e o => renC [0,7,1,6,2,3,4,5] (rowC encI [] e o),.cells 79 [.p (.s ru),.p (.i .i64 ve),.p (.s tx)],.row 3 1 S.length fun e o => renC [0,7,1,6,2,3,4,5] (rowC encI S e o),.cells 86 [.sl 5 7 0 D.M.length,.mp 6,.mp 7],.row 31 7 D.M.length fun e o => renC [0,7,1,6,2,3,4,5] (rowC encPg D.M e o),.mapb (okK Try.prog 81) D.gp,.mapl (okK Try.prog 79) 3 1 D.gs (some (gKey ru ve tx,C.sl 3 1 0 S.length))])):=by kernel_rfl
theorem tV3 (D:Ld) (b:Nat) (ve:Int) (ru tx:ByteArray) (S out:List Int) (k i:Nat):exTs extVa (lpB (pcs Try.prog Try.f16) 7) (cst 51 [(0,.c (.ptr 0 0)),(10,.c (.sl 1 1 0 k)),(11,.c (.ptr 2 0)),(29,.c (.sl 3 1 0 S.length)),(30,iV (S.length:Nat)),(31,iV (i:Nat))] [.pin 4 b,.row 3 1 k (rowC encI out),.cells 79 [.p (.s ru),.p (.i .i64 ve),.p (.s tx)],.row 3 1 S.length (rowC encI S),.cells 86 [.sl 5 7 0 D.M.length,.mp 6,.mp 7],.row 31 7 D.M.length (rowC encPg D.M),.mapb (okK Try.prog 81) D.gp,.mapl (okK Try.prog 79) 3 1 D.gs (some (gKey ru ve tx,.sl 3 1 0 S.length))]) (endM [0] (msk 51 [0,10,11,29,30,31]) (resOf Try.prog Try.f16))=bT (decide ((↑i:Int)<(↑S.length:Int)))
 (.rq (0≤(↑i:Int)∧(↑i:Int)<(↑S.length:Int))
 (.rq ((↑i:Int).toNat+0<S.length)
 (.rq
 (okK Try.prog 81=okK Try.prog 81 ∧
 okK Try.prog 81 (Value.agg #[Value.string ru,Value.int IntKind.i64 ve,Value.string tx,Value.int IntKind.i64 (S.getD ((↑i:Int).toNat+0) default)])=true)
 (bT ((D.gp (Value.agg #[Value.string ru,Value.int IntKind.i64 ve,Value.string tx,Value.int IntKind.i64 (S.getD ((↑i:Int).toNat+0) default)])).getD false)
 (.rq (k=k)
 (.rq (1≤1)
 (.rq
 ((k+1) * 8≤140737488355328 ∧
 k+1≤140737488355328∧∀ (e o:Nat),e<1→o<1→oneC (bslF [C.p (PV.i IntKind.i64 (S.getD ((↑i:Int).toNat+0) default))] 1 1 (e+0) o)=true)
 (.rq (inR IntKind.i64 ((↑i:Int)+1))
 (.done .normal
 (cst 51 [(0,.c (.ptr 0 0)),(10,.c (.sl 1 1 0 (k+1))),(11,.c (.ptr 2 0)),(29,.c (.sl 3 1 0 S.length)),(30,.c (.p (.i .i64 (↑S.length:Int)))),(31,.c (.p (.i .i64 ((↑i:Int)+1))))] [.pin 4 b,.row 3 1 (k+1) fun e o => renC [0,9,2,3,4,5,6,7] (appF k (rowC encI out) (fun e o => nth C.top [C.p (PV.i IntKind.i64 (S.getD ((↑i:Int).toNat+0) default))] ((e+0) * 1+o)) e o),.cells 79 [.p (.s ru),.p (.i .i64 ve),.p (.s tx)],.row 3 1 S.length fun e o => renC [0,9,2,3,4,5,6,7] (rowC encI S e o),.cells 86 [.sl 5 7 0 D.M.length,.mp 6,.mp 7],.row 31 7 D.M.length fun e o => renC [0,9,2,3,4,5,6,7] (rowC encPg D.M e o),.mapb (okK Try.prog 81) D.gp,.mapl (okK Try.prog 79) 3 1 D.gs (some (gKey ru ve tx,C.sl 3 1 0 S.length))]))))))
 (.rq (inR IntKind.i64 ((↑i:Int)+1))
 (.done .normal
 (cst 51 [(0,.c (.ptr 0 0)),(10,.c (.sl 1 1 0 k)),(11,.c (.ptr 2 0)),(29,.c (.sl 3 1 0 S.length)),(30,.c (.p (.i .i64 (↑S.length:Int)))),(31,.c (.p (.i .i64 ((↑i:Int)+1))))] [.pin 4 b,.row 3 1 k fun e o => renC [0,1,2,3,4,5,6,7] (rowC encI out e o),.cells 79 [.p (.s ru),.p (.i .i64 ve),.p (.s tx)],.row 3 1 S.length fun e o => renC [0,1,2,3,4,5,6,7] (rowC encI S e o),.cells 86 [.sl 5 7 0 D.M.length,.mp 6,.mp 7],.row 31 7 D.M.length fun e o => renC [0,1,2,3,4,5,6,7] (rowC encPg D.M e o),.mapb (okK Try.prog 81) D.gp,.mapl (okK Try.prog 79) 3 1 D.gs (some (gKey ru ve tx,C.sl 3 1 0 S.length))])))))))
 (.done (.exit 0)
 (cst 51 [(0,.c (.ptr 0 0)),(10,.c (.sl 1 1 0 k)),(11,.c (.ptr 2 0)),(29,.c (.sl 3 1 0 S.length)),(30,.c (.p (.i .i64 (↑S.length:Int)))),(31,.c (.p (.i .i64 (↑i:Int))))] [.pin 4 b,.row 3 1 k fun e o => renC [0,1,2,3,4,5,6,7] (rowC encI out e o),.cells 79 [.p (.s ru),.p (.i .i64 ve),.p (.s tx)],.row 3 1 S.length fun e o => renC [0,1,2,3,4,5,6,7] (rowC encI S e o),.cells 86 [.sl 5 7 0 D.M.length,.mp 6,.mp 7],.row 31 7 D.M.length fun e o => renC [0,1,2,3,4,5,6,7] (rowC encPg D.M e o),.mapb (okK Try.prog 81) D.gp,.mapl (okK Try.prog 79) 3 1 D.gs (some (gKey ru ve tx,C.sl 3 1 0 S.length))])):=by kernel_rfl
theorem tV4 (D:Ld) (b:Nat) (out:List Int) (k:Nat):exTs (extSI out) (takeL 1 (dropL 8 (pcs Try.prog Try.f16))) (cst 51 [(0,.c (.ptr 0 0)),(10,.c (.sl 1 1 0 k))] [.pin 2 b,.row 3 1 k (rowC encI out),.cells 86 [.sl 3 7 0 D.M.length,.mp 4,.mp 5],.row 31 7 D.M.length (rowC encPg D.M),.mapb (okK Try.prog 81) D.gp,.mapl (okK Try.prog 79) 3 1 D.gs none]) (endM [0] (msk 51 [0,10]) (resOf Try.prog Try.f16))=Tr.rq (k=out.length∧k=out.length∧rowI out (rowC encI out)∧out.length≤1000000)
 (.done .normal
 (cst 51 [(0,.c (.ptr 0 0)),(10,.c (.sl 1 1 0 k))] [.pin 2 b,.row 3 1 out.length fun e o => renC [0,1,2,3,4,5] (rowC encI (sortI out) e o),.cells 86 [.sl 3 7 0 D.M.length,.mp 4,.mp 5],.row 31 7 D.M.length fun e o => renC [0,1,2,3,4,5] (rowC encPg D.M e o),.mapb (okK Try.prog 81) D.gp,.mapl (okK Try.prog 79) 3 1 D.gs none])):=by kernel_rfl
section
variable {G:Nat→Option Obj}
end
end Go.AE
namespace Go.AE
set_option linter.unusedVariables false
set_option linter.unusedSimpArgs false
open Go.Proofs Go.Proofs.Ytfjihbmehhccoaa Go.RowKit
def pagedS (gp:Value→Option Bool) (ru:ByteArray) (ve:Int) (tx:ByteArray) (S:List Int):List Int:=S.filter fun t => (gp (mKey ru ve tx t)).getD false
noncomputable def lvalid (D:Ld) (ru:ByteArray) (ve:Int) (L:List (ByteArray × ByteArray)) (S:List Int):V:=match pgOK (⟨0,ru,ve,L,0,0,⟨#[]⟩⟩:Pg) with
 | true => listV encI 1 (sortI (pagedS D.gp ru ve (textLb L) S))
 | false => .c (.p (.z (.slice none 0 0)))
def StG (D:Ld) (k:Value) (S:List Int):Prop:=(D.gs k).1=S.length∧∀ e o,e<S.length→o<1→(D.gs k).2 e o=rowP encI S e o
section
variable {G:Nat→Option Obj}
theorem extVa_sound:SoundExt Try.prog G extVa:=extOf_sound (by simp;exact ⟨okPVal,okOf⟩)
theorem extSI_sound (L:List Int):SoundExt Try.prog G (extSI L):=extH_sound (by simp;exact okSortI L)
theorem pagedS_snoc (gp:Value→Option Bool) (ru:ByteArray) (ve:Int) (tx:ByteArray) (S:List Int) (x:Int):pagedS gp ru ve tx (S ++ [x])=pagedS gp ru ve tx S ++ (match (gp (mKey ru ve tx x)).getD false with
 | true => [x]
 | false => []):=by
 unfold pagedS
 rw [List.filter_append]
 congr 1
theorem setG_self (g:Value→Nat × (Nat→Nat→PV)) (k:Value) (n:Nat) (hn:(g k).1=n):setG g k n (g k).2=g:=by
 subst hn
 unfold setG
 funext x
 by_cases h:x=k
 · subst h;simp
 · simp [h]
theorem intE_one (x:Int):∀ e o:Nat,e<1→o<1→oneC (nth C.top [C.p (.i .i64 x)] ((e+0) * 1+o))=true:=by
 intro e o he ho
 obtain rfl:e=0:=by omega
 obtain rfl:o=0:=by omega
 rfl
theorem intE_at (x:Int):∀ o:Nat,o<1→(fun e o:Nat => nth C.top [C.p (.i .i64 x)] ((e+0) * 1+o)) 0 o=.p (encI x o):=by
 intro o ho
 obtain rfl:o=0:=by omega
 rfl
set_option maxRecDepth 100000 in
set_option maxHeartbeats 2000000 in
theorem valid_main (D:Ld) (ru:ByteArray) (ve:Int) (L:List (ByteArray × ByteArray)) (S:List Int) (hS:StG D (gKey ru ve (textLb L)) S) (hT:pgOK (⟨0,ru,ve,L,0,0,⟨#[]⟩⟩:Pg)=true→(textLb L).size≤1000000∧okK Try.prog 79 (gKey ru ve (textLb L))=true∧(∀ t∈S,okK Try.prog 81 (mKey ru ve (textLb L) t)=true)∧S.length≤1000000) (rest:List AO) (b:Nat) (Q:X→St→Prop):ExZ Try.prog G (Zm [0] (resOf Try.prog Try.f16) fun s => WeakS G s ⟨[.c (.ptr 0 0)] ++ [lvalid D ru ve L S],ldE D b⟩) (pcs Try.prog Try.f16) (stIn Try.f16 [0,1,2,3] [0] [b] [.c (.ptr 0 0),.c (.p (.s ru)),iV ve,listV enc2 2 L] (ldH D rest)) Q:=by
 refine ExZ.evG extVa_sound 6 (tV1 D rest b ve ru L) ?_
 simp only [holds_bT,holds_rq,holds_leaf,kz_ret,kz_normal,dec2_row]
 unfold lvalid
 refine ⟨isL_row _ _ _,fun h1 => ⟨?_⟩,fun h1 => ?_⟩
 · have h1:pgOK (⟨0,ru,ve,L,0,0,⟨#[]⟩⟩:Pg)=false:=by simpa using h1
   rw [h1];exact weak_of_eq (by kernel_rfl)
 have h1:pgOK (⟨0,ru,ve,L,0,0,⟨#[]⟩⟩:Pg)=true:=by simpa using h1
 obtain ⟨t1,t2,t3,t4⟩:=hT h1
 rw [h1]
 refine ⟨⟨isL_row _ _ _,t1⟩,⟨?_⟩⟩
 obtain ⟨s1,s2⟩:=hS
 obtain ⟨tx,htx⟩:∃ tx,tx=textLb L:=⟨_,rfl⟩
 rw [← htx] at s1 s2 t1 t2 t3 ⊢
 have w1:WeakS G (cst 51 [(0,.c (.ptr 0 0)),(10,.c (.p (.z (.slice none 0 0)))),(11,.c (.ptr 1 0))] [.pin 2 b,.cells 79 [.p (.s ru),.p (.i .i64 ve),.p (.s tx)],.cells 86 [.sl 3 7 0 D.M.length,.mp 4,.mp 5],.row 31 7 D.M.length (rowC encPg D.M),.mapb (okK Try.prog 81) D.gp,.mapl (okK Try.prog 79) 3 1 D.gs none]) ((fun ru ve tx S => cst 51 [(0,.c (.ptr 0 0)),(10,.c (.sl 7 1 0 0)),(11,.c (.ptr 1 0))] [.pin 2 b,.cells 79 [.p (.s ru),.p (.i .i64 ve),.p (.s tx)],.cells 86 [.sl 3 7 0 D.M.length,.mp 4,.mp 5],.row 31 7 D.M.length (rowC encPg D.M),.mapb (okK Try.prog 81) D.gp,.mapl (okK Try.prog 79) 3 1 D.gs (some (gKey ru ve tx,.sl 6 1 0 S.length)),.row 3 1 S.length (rowC encI S),.row 3 1 0 (rowC encI [])]) ru ve tx S):=by
  refine (weak_openM (id:=5) (gKey ru ve tx) (by rfl)).trans ?_
  refine (weak_nil 3 1 (rowC encI []) 10 (by kernel_rfl)).trans ?_
  rw [s1]
  refine (weak_of_eq (st':=cst 51 [(0,.c (.ptr 0 0)),(10,.c (.sl 7 1 0 0)),(11,.c (.ptr 1 0))] [.pin 2 b,.cells 79 [.p (.s ru),.p (.i .i64 ve),.p (.s tx)],.cells 86 [.sl 3 7 0 D.M.length,.mp 4,.mp 5],.row 31 7 D.M.length (rowC encPg D.M),.mapb (okK Try.prog 81) D.gp,.mapl (okK Try.prog 79) 3 1 D.gs (some (gKey ru ve tx,.sl 6 1 0 S.length)),.row 3 1 S.length (fun e o => .p ((D.gs (gKey ru ve tx)).2 e o)),.row 3 1 0 (rowC encI [])]) (by kernel_rfl)).trans ?_
  refine weak_cst ⟨rfl,rfl,rfl,⟨rfl,rfl,rfl,fun _ _ _ _ => rfl⟩,rfl,rfl,⟨rfl,rfl,rfl,fun e o he ho => ?_⟩,⟨rfl,rfl,rfl,fun _ _ _ _ => rfl⟩,trivial⟩
  exact congrArg C.p (s2 e o he ho)
 refine ExZ.pre ((weak_of_eq (by kernel_rfl)).trans w1) ?_
 refine ExZ.evG extVa_sound 1 (tV2 D b ve ru tx S) ?_
 simp only [holds_rq,holds_leaf,kz_normal]
 refine ⟨⟨⟨trivial,t2⟩,rfl⟩,⟨?_⟩⟩
 refine ExZ.loop' (l:=dropL 1 (dropL 6 (pcs Try.prog Try.f16))) (b:=inr (inr (nth .skip (pcs Try.prog Try.f16) 7))) (r:=dropL 8 (pcs Try.prog Try.f16)) (id:=0) (by kernel_rfl) (σ:=Nat × List Int)
   (fun (i,out) => (fun k => cst 51 [(0,.c (.ptr 0 0)),(10,.c (.sl 1 1 0 k)),(11,.c (.ptr 2 0)),(29,.c (.sl 3 1 0 S.length)),(30,iV (S.length:Nat)),(31,iV (i:Nat))] [.pin 4 b,.row 3 1 k (rowC encI out),.cells 79 [.p (.s ru),.p (.i .i64 ve),.p (.s tx)],.row 3 1 S.length (rowC encI S),.cells 86 [.sl 5 7 0 D.M.length,.mp 6,.mp 7],.row 31 7 D.M.length (rowC encPg D.M),.mapb (okK Try.prog 81) D.gp,.mapl (okK Try.prog 79) 3 1 D.gs (some (gKey ru ve tx,.sl 3 1 0 S.length))]) out.length) (fun (i,out) => i≤S.length∧out.length≤i∧out=pagedS D.gp ru ve tx (S.take i)) (fun (i,_) => S.length - i) (0,[]) ⟨by omega,by simp,by simp [pagedS]⟩ (weak_of_eq (by kernel_rfl)) ?_
 rintro ⟨i,out⟩ ⟨i1,i2,i3⟩ Q1 q1n q1e -
 refine ExZ.evH (keep:=msk 51 [0,10,11,29,30,31]) extVa_sound (tV3 D b ve ru tx S out out.length i) ?_
 simp only [holds_bT,holds_rq,holds_leaf,kz_normal,kz_exit,decide_eq_true_eq,decide_eq_false_iff_not,inR,show ∀ x:Nat,x+0=x from fun _ => rfl,Int.toNat_natCast]
 have hnext:i<S.length→pagedS D.gp ru ve tx (S.take (i+1))=out ++ (match (D.gp (mKey ru ve tx (S.getD i default))).getD false with
  | true => [S.getD i default]
  | false => []):=fun hlt => by
  rw [i3,← pagedS_snoc]
  congr 1
  rw [List.take_succ_eq_append_getElem hlt,List.getD_eq_getElem?_getD,List.getElem?_eq_getElem hlt]
  rfl
 refine ⟨fun hlt => ?_,fun hge => ⟨?_⟩⟩
 · have hlt:i<S.length:=by omega
   have hn:=hnext hlt
   have hmem:okK Try.prog 81 (mKey ru ve tx (S.getD i default))=true:=t3 _ (by
    rw [List.getD_eq_getElem?_getD,List.getElem?_eq_getElem hlt]
    exact List.getElem_mem _)
   refine ⟨⟨by omega,by omega⟩,hlt,⟨trivial,hmem⟩,fun hg => ⟨trivial,Nat.le_refl _,⟨by omega,by omega,intE_one _⟩,⟨by omega,by omega⟩,⟨?_⟩⟩,fun hg => ⟨⟨by omega,by omega⟩,⟨?_⟩⟩⟩
   · have hg:(D.gp (mKey ru ve tx (S.getD i default))).getD false=true:=hg
     rw [hg] at hn
     refine q1n (i+1,out ++ [S.getD i default]) _ ⟨by omega,by simp;omega,hn.symm⟩ (by simp only;omega) ?_
     show WeakS G _ ((fun k i out => cst 51 [(0,.c (.ptr 0 0)),(10,.c (.sl 1 1 0 k)),(11,.c (.ptr 2 0)),(29,.c (.sl 3 1 0 S.length)),(30,iV (S.length:Nat)),(31,iV (i:Nat))] [.pin 4 b,.row 3 1 k (rowC encI out),.cells 79 [.p (.s ru),.p (.i .i64 ve),.p (.s tx)],.row 3 1 S.length (rowC encI S),.cells 86 [.sl 5 7 0 D.M.length,.mp 6,.mp 7],.row 31 7 D.M.length (rowC encPg D.M),.mapb (okK Try.prog 81) D.gp,.mapl (okK Try.prog 79) 3 1 D.gs (some (gKey ru ve tx,.sl 3 1 0 S.length))]) (out ++ [S.getD i default]).length (i+1) (out ++ [S.getD i default]))
     rw [show (out ++ [S.getD i default]).length=out.length+1 by simp]
     exact weak_cst ⟨rfl,⟨rfl,rfl,rfl,fun e o he ho => app1' (ρ:=[0,9,2,3,4,5,6,7]) rfl (intE_at _) he ho⟩,rfl,⟨rfl,rfl,rfl,fun _ _ _ _ => rfl⟩,rfl,⟨rfl,rfl,rfl,fun _ _ _ _ => rfl⟩,rfl,rfl,trivial⟩
   · have hg:(D.gp (mKey ru ve tx (S.getD i default))).getD false=false:=hg
     rw [hg] at hn
     exact q1n (i+1,out) _ ⟨by omega,by omega,by rw [hn];simp⟩ (by simp only;omega) (weak_of_eq (by kernel_rfl))
 · obtain rfl:i=S.length:=by omega
   rw [List.take_length] at i3
   rw [← i3] at q1e
   refine q1e _ (ExZ.pre (st2:=(fun k => cst 51 [(0,.c (.ptr 0 0)),(10,.c (.sl 1 1 0 k))] [.pin 2 b,.row 3 1 k (rowC encI out),.cells 86 [.sl 3 7 0 D.M.length,.mp 4,.mp 5],.row 31 7 D.M.length (rowC encPg D.M),.mapb (okK Try.prog 81) D.gp,.mapl (okK Try.prog 79) 3 1 D.gs none]) out.length) ?_ ?_)
   · refine (weak_of_eq (st':=(fun k i => cst 51 [(0,.c (.ptr 0 0)),(10,.c (.sl 1 1 0 k)),(11,.c (.ptr 2 0)),(29,.c (.sl 3 1 0 S.length)),(30,iV (S.length:Nat)),(31,iV (i:Nat))] [.pin 4 b,.row 3 1 k (rowC encI out),.cells 79 [.p (.s ru),.p (.i .i64 ve),.p (.s tx)],.row 3 1 S.length (rowC encI S),.cells 86 [.sl 5 7 0 D.M.length,.mp 6,.mp 7],.row 31 7 D.M.length (rowC encPg D.M),.mapb (okK Try.prog 81) D.gp,.mapl (okK Try.prog 79) 3 1 D.gs (some (gKey ru ve tx,.sl 3 1 0 S.length))]) out.length S.length) (by kernel_rfl)).trans ?_
     refine (weak_closeM (id:=7) (m:=3) (k0:=gKey ru ve tx) (n:=S.length) (h:=rowC encI S) (D.gs (gKey ru ve tx)).2 (by rfl) (by rfl) (fun e o he ho => (congrArg C.p (s2 e o he ho)).symm)).trans ?_
     rw [setG_self _ _ _ s1]
     exact (weak_gc (msk 51 [0,10]) _).trans (weak_of_eq (by kernel_rfl))
   · refine ExZ.evG (extSI_sound out) 1 (tV4 D b out out.length) ?_
     simp only [holds_rq,holds_leaf,kz_normal]
     refine ⟨⟨trivial,trivial,fun _ _ _ _ => rfl,by omega⟩,⟨?_⟩⟩
     rw [← sortI_length out]
     refine ExZ.pre ((weak_frz (j:=10) (id:=1) (ty:=3) (sz:=1) (n:=(sortI out).length) (off:=0) (len:=(sortI out).length) (f:=fun e o => renC [0,1,2,3,4,5] (rowC encI (sortI out) e o)) (by kernel_rfl) (by kernel_rfl) (by omega) (fun _ _ _ _ => rfl)).trans ((weak_gc (msk 51 [0,10]) _).trans (weak_of_eq (st':=(fun out => cst 51 [(0,.c (.ptr 0 0)),(10,listV encI 1 out)] [.pin 1 b,.cells 86 [.sl 2 7 0 D.M.length,.mp 3,.mp 4],.row 31 7 D.M.length (rowC encPg D.M),.mapb (okK Try.prog 81) D.gp,.mapl (okK Try.prog 79) 3 1 D.gs none]) (sortI out)) (by kernel_rfl)))) ?_
     refine ExZ.evH (keep:=[]) ext0_sound (tree:=.done .ret (cst 2 [(0,.c (.ptr 0 0)),(1,listV encI 1 (sortI out))] (ldE D b))) (by kernel_rfl) ?_
     exact weak_of_eq (by kernel_rfl)
set_option maxRecDepth 100000 in
theorem valid_fn (D:Ld) (ru:ByteArray) (ve:Int) (L:List (ByteArray × ByteArray)) (S:List Int) (hS:StG D (gKey ru ve (textLb L)) S) (hT:pgOK (⟨0,ru,ve,L,0,0,⟨#[]⟩⟩:Pg)=true→(textLb L).size≤1000000∧okK Try.prog 79 (gKey ru ve (textLb L))=true∧(∀ t∈S,okK Try.prog 81 (mKey ru ve (textLb L) t)=true)∧S.length≤1000000) (rest:List AO):FnS Try.prog G 16 [.c (.ptr 0 0),.c (.p (.s ru)),iV ve,listV enc2 2 L] (ldH D rest) fun x h' => x=lvalid D ru ve L S∧h'=outH [0,1,2,3] [0] [1] (ldH D rest) (ldE D 0):=by
 refine fun β R w vs ha hh => (led_fn Try.func16 (by kernel_rfl) (args:=[.c (.p (.s ru)),iV ve,listV enc2 2 L]) (vs:=[lvalid D ru ve L S]) (D':=D) (fun b => valid_main D ru ve L S hS hT rest b _) β R w vs ha hh).mono ?_
 rintro e w' ⟨u,β',R',x,h',rfl,⟨hx,hh'⟩,hr⟩
 refine ⟨u,β',R',x,h',rfl,⟨hx.trans ?_,hh'⟩,hr⟩
 unfold lvalid
 cases pgOK (⟨0,ru,ve,L,0,0,⟨#[]⟩⟩:Pg) <;> rfl
end
end Go.AE
namespace Go.AE
set_option linter.unusedVariables false
set_option linter.unusedSimpArgs false
open Go.Proofs Go.Proofs.Ytfjihbmehhccoaa Go.RowKit
noncomputable def extTk:Ext:=extOf [(45,mTick)]
theorem tM1 (D:Ld) (rest:List AO) (b:Nat) (ve se:Int) (ru:ByteArray) (L:List (ByteArray × ByteArray)) (T:List Int):exTs extVa (takeL 6 (pcs Try.prog Try.f17)) (stIn Try.f17 [0,1,2,3] [0] [b] [.c (.ptr 0 0),.c (.p (.s ru)),iV ve,listV enc2 2 L,listV encI 1 T,iV se] (ldH D rest)) (endM [0] (msk 95 [0,4,13,14,34,35,36]) (resOf Try.prog Try.f17))=Tr.rq (IsL enc2 2 (decL dec2 L.length (rowP enc2 L)) L.length (rowP enc2 L))
 (bT (!pgOK (Pg.mk 0 ru ve (decL dec2 L.length (rowP enc2 L)) 0 se (ByteArray.mk #[])))
 (.done .ret
 (cst 2 [(0,.c (.ptr 0 0)),(1,.c (.p (.z (Value.slice none 0 0))))] [.pin 1 b,.cells 86 [.sl 2 7 0 D.M.length,.mp 3,.mp 4],.row 31 7 D.M.length fun e o => renC [4,0,1,2,3] (renC [0,1,2,3] (rowC encPg D.M e o)),.mapb (okK Try.prog 81) D.gp,.mapl (okK Try.prog 79) 3 1 D.gs none]))
 (.done .normal
 (cst 95 [(0,.c (.ptr 0 0)),(4,.c (.p (.l 1 T.length (rowP encI T)))),(13,.c (.ptr 1 0)),(14,.c (.mp 2)),(34,.c (.p (.l 1 T.length (rowP encI T)))),(35,.c (.p (.i .i64 (↑T.length:Int)))),(36,.c (.p (.i .i64 0)))] [.pin 3 b,.cells 31 [.p (.i .i64 0),.p (.s ru),.p (.i .i64 ve),.p (.l 2 L.length (rowP enc2 L)),.p (.i .i64 0),.p (.i .i64 se),.p (.s (ByteArray.mk #[]))],.mapb (okK Try.prog 3) fun x => none,.cells 86 [.sl 4 7 0 D.M.length,.mp 5,.mp 6],.row 31 7 D.M.length fun e o => renC [4,5,6,0,1,2,3] (renC [0,1,2,3] (rowC encPg D.M e o)),.mapb (okK Try.prog 81) D.gp,.mapl (okK Try.prog 79) 3 1 D.gs none]))):=by kernel_rfl
theorem tM2 (D:Ld) (b i:Nat) (ve se:Int) (ru:ByteArray) (L:List (ByteArray × ByteArray)) (T:List Int) (nw:Value→Option Bool):exTs extTk (lpB (pcs Try.prog Try.f17) 6) (cst 95 [(0,.c (.ptr 0 0)),(4,listV encI 1 T),(13,.c (.ptr 1 0)),(14,.c (.mp 2)),(34,listV encI 1 T),(35,iV (T.length:Nat)),(36,iV (i:Nat))] [.pin 3 b,.cells 31 [.p (.i .i64 0),.p (.s ru),.p (.i .i64 ve),.p (listP enc2 2 L),.p (.i .i64 0),.p (.i .i64 se),.p (.s ⟨#[]⟩)],.mapb (okK Try.prog 3) nw,.cells 86 [.sl 4 7 0 D.M.length,.mp 5,.mp 6],.row 31 7 D.M.length (rowC encPg D.M),.mapb (okK Try.prog 81) D.gp,.mapl (okK Try.prog 79) 3 1 D.gs none]) (endM [0] (msk 95 [0,4,13,14,34,35,36]) (resOf Try.prog Try.f17))=bT (decide ((↑i:Int)<(↑T.length:Int)))
 (.rq (0≤(↑i:Int)∧(↑i:Int)<(↑T.length:Int))
 (.rq True
 (bT (!tickZ (T.getD (↑i:Int).toNat default))
 (.done .ret
 (cst 2 [(0,.c (.ptr 0 0)),(1,.c (.p (.z (Value.slice none 0 0))))] [.pin 1 b,.cells 86 [.sl 2 7 0 D.M.length,.mp 3,.mp 4],.row 31 7 D.M.length fun e o => renC [0,3,4,5,6] (rowC encPg D.M e o),.mapb (okK Try.prog 81) D.gp,.mapl (okK Try.prog 79) 3 1 D.gs none]))
 (.rq (okK Try.prog 3=okK Try.prog 3∧okK Try.prog 3 (Value.int IntKind.i64 (T.getD (↑i:Int).toNat default))=true)
 (.rq (inR IntKind.i64 ((↑i:Int)+1))
 (.done .normal
 (cst 95 [(0,.c (.ptr 0 0)),(4,.c (.p (.l 1 T.length (rowP encI T)))),(13,.c (.ptr 1 0)),(14,.c (.mp 2)),(34,.c (.p (.l 1 T.length (rowP encI T)))),(35,.c (.p (.i .i64 (↑T.length:Int)))),(36,.c (.p (.i .i64 ((↑i:Int)+1))))] [.pin 3 b,.cells 31 [.p (.i .i64 0),.p (.s ru),.p (.i .i64 ve),.p (.l 2 L.length (rowP enc2 L)),.p (.i .i64 0),.p (.i .i64 se),.p (.s (ByteArray.mk #[]))],.mapb (okK Try.prog 3) (setM nw (Value.int IntKind.i64 (T.getD (↑i:Int).toNat default)) true),.cells 86 [.sl 4 7 0 D.M.length,.mp 5,.mp 6],.row 31 7 D.M.length fun e o => renC [0,1,2,3,4,5,6] (rowC encPg D.M e o),.mapb (okK Try.prog 81) D.gp,.mapl (okK Try.prog 79) 3 1 D.gs none])))))))
 (.done (.exit 0)
 (cst 95 [(0,.c (.ptr 0 0)),(4,.c (.p (.l 1 T.length (rowP encI T)))),(13,.c (.ptr 1 0)),(14,.c (.mp 2)),(34,.c (.p (.l 1 T.length (rowP encI T)))),(35,.c (.p (.i .i64 (↑T.length:Int)))),(36,.c (.p (.i .i64 (↑i:Int))))] [.pin 3 b,.cells 31 [.p (.i .i64 0),.p (.s ru),.p (.i .i64 ve),.p (.l 2 L.length (rowP enc2 L)),.p (.i .i64 0),.p (.i .i64 se),.p (.s (ByteArray.mk #[]))],.mapb (okK Try.prog 3) nw,.cells 86 [.sl 4 7 0 D.M.length,.mp 5,.mp 6],.row 31 7 D.M.length fun e o => renC [0,1,2,3,4,5,6] (rowC encPg D.M e o),.mapb (okK Try.prog 81) D.gp,.mapl (okK Try.prog 79) 3 1 D.gs none])):=by kernel_rfl
theorem tM3 (D:Ld) (b:Nat) (ve se:Int) (ru:ByteArray) (L:List (ByteArray × ByteArray)) (T:List Int) (nw:Value→Option Bool):exTs extVa (takeL 1 (dropL 7 (pcs Try.prog Try.f17))) (cst 95 [(0,.c (.ptr 0 0)),(4,listV encI 1 T),(13,.c (.ptr 1 0)),(14,.c (.mp 2))] [.pin 3 b,.cells 31 [.p (.i .i64 0),.p (.s ru),.p (.i .i64 ve),.p (listP enc2 2 L),.p (.i .i64 0),.p (.i .i64 se),.p (.s ⟨#[]⟩)],.mapb (okK Try.prog 3) nw,.cells 86 [.sl 4 7 0 D.M.length,.mp 5,.mp 6],.row 31 7 D.M.length (rowC encPg D.M),.mapb (okK Try.prog 81) D.gp,.mapl (okK Try.prog 79) 3 1 D.gs none]) (endM [0] (msk 95 [0,4,13,14,17]) (resOf Try.prog Try.f17))=Tr.rq (IsL enc2 2 (decL dec2 L.length (rowP enc2 L)) L.length (rowP enc2 L)∧(textLb (decL dec2 L.length (rowP enc2 L))).size≤1000000)
 (.done .normal
 (cst 95 [(0,.c (.ptr 0 0)),(4,.c (.p (.l 1 T.length (rowP encI T)))),(13,.c (.ptr 1 0)),(14,.c (.mp 2)),(17,.c (.ptr 3 0))] [.pin 4 b,.cells 31 [.p (.i .i64 0),.p (.s ru),.p (.i .i64 ve),.p (.l 2 L.length (rowP enc2 L)),.p (.i .i64 0),.p (.i .i64 se),.p (.s (ByteArray.mk #[]))],.mapb (okK Try.prog 3) nw,.cells 79 [.p (.s ru),.p (.i .i64 ve),.p (.s (textLb (decL dec2 L.length (rowP enc2 L))))],.cells 86 [.sl 5 7 0 D.M.length,.mp 6,.mp 7],.row 31 7 D.M.length fun e o => renC [0,1,2,7,3,4,5,6] (rowC encPg D.M e o),.mapb (okK Try.prog 81) D.gp,.mapl (okK Try.prog 79) 3 1 D.gs none])):=by kernel_rfl
noncomputable def extCt (A:List Int):Ext:=catX 46 mConcat (extH [(44,mSortI A),(47,mCompI (sortI A))])
noncomputable def extAm (D:Ld):Ext:=extH [(48,mAdd D),(49,liftM mSep)]
theorem tM4 (D:Ld) (b:Nat) (ve se:Int) (ru tx:ByteArray) (L:List (ByteArray × ByteArray)) (S T:List Int) (nw:Value→Option Bool):exTs (extCt (S ++ T)) (takeL 4 (dropL 1 (dropL 7 (pcs Try.prog Try.f17)))) (cst 95 [(0,.c (.ptr 0 0)),(4,listV encI 1 T),(13,.c (.ptr 1 0)),(14,.c (.mp 2)),(17,.c (.ptr 3 0))] [.pin 4 b,.cells 31 [.p (.i .i64 0),.p (.s ru),.p (.i .i64 ve),.p (listP enc2 2 L),.p (.i .i64 0),.p (.i .i64 se),.p (.s ⟨#[]⟩)],.mapb (okK Try.prog 3) nw,.cells 79 [.p (.s ru),.p (.i .i64 ve),.p (.s tx)],.cells 86 [.sl 5 7 0 D.M.length,.mp 6,.mp 7],.row 31 7 D.M.length (rowC encPg D.M),.mapb (okK Try.prog 81) D.gp,.mapl (okK Try.prog 79) 3 1 D.gs (some (gKey ru ve tx,.sl 8 1 0 S.length)),.row 3 1 S.length (rowC encI S)]) (endM [0] (msk 95 [0,13,14,17,19,61,62,63]) (resOf Try.prog Try.f17))=Tr.rq
 ((okK Try.prog 79=okK Try.prog 79∧okK Try.prog 79 (Value.agg #[Value.string ru,Value.int IntKind.i64 ve,Value.string tx])=true) ∧
 Value.agg #[Value.string ru,Value.int IntKind.i64 ve,Value.string tx]=gKey ru ve tx)
 (.rq (0+S.length≤S.length∧∀ (e o:Nat),e<S.length→o<1→isF (rowC encI S e o)=true)
 (.rq
 ((((IsL encI 1 (decL decI S.length fun e o => unP (rowC encI S (e+0) o)) S.length fun e o => unP (rowC encI S (e+0) o)) ∧
 IsL encI 1 (decL decI T.length (rowP encI T)) T.length (rowP encI T)) ∧
 (decL decI S.length fun e o => unP (rowC encI S (e+0) o)).length+(decL decI T.length (rowP encI T)).length≤1000000) ∧
 ((decL decI S.length fun e o => unP (rowC encI S (e+0) o)) ++ decL decI T.length (rowP encI T)).length =
 ((decL decI S.length fun e o => unP (rowC encI S (e+0) o)) ++ decL decI T.length (rowP encI T)).length ∧
 ∀ (e o:Nat),
 e<((decL decI S.length fun e o => unP (rowC encI S (e+0) o)) ++ decL decI T.length (rowP encI T)).length →
 o<1→scC (C.p (rowP encI ((decL decI S.length fun e o => unP (rowC encI S (e+0) o)) ++ decL decI T.length (rowP encI T)) e o))=true)
 (.rq
 (((decL decI S.length fun e o => unP (rowC encI S (e+0) o)) ++ decL decI T.length (rowP encI T)).length=(S ++ T).length ∧
 ((decL decI S.length fun e o => unP (rowC encI S (e+0) o)) ++ decL decI T.length (rowP encI T)).length=(S ++ T).length ∧
 (rowI (S ++ T) fun e o => C.p (rowP encI ((decL decI S.length fun e o => unP (rowC encI S (e+0) o)) ++ decL decI T.length (rowP encI T)) e o))∧(S ++ T).length≤1000000)
 (.rq
 (((decL decI S.length fun e o => unP (rowC encI S (e+0) o)) ++ decL decI T.length (rowP encI T)).length=(sortI (S ++ T)).length ∧
 (S ++ T).length=(sortI (S ++ T)).length∧rowI (sortI (S ++ T)) (rowC encI (sortI (S ++ T)))∧(sortI (S ++ T)).length≤1000000)
 (.done .normal
 (cst 95 [(0,.c (.ptr 0 0)),(13,.c (.ptr 1 0)),(14,.c (.mp 2)),(17,.c (.ptr 3 0)),(19,.c (.p (.z (Value.slice none 0 0)))),(61,.c (.sl 4 1 0 (compI (sortI (S ++ T))).length)),(62,.c (.p (.i .i64 (↑(compI (sortI (S ++ T))).length:Int)))),(63,.c (.p (.i .i64 0)))] [.pin 5 b,.cells 31 [.p (.i .i64 0),.p (.s ru),.p (.i .i64 ve),.p (.l 2 L.length (rowP enc2 L)),.p (.i .i64 0),.p (.i .i64 se),.p (.s (ByteArray.mk #[]))],.mapb (okK Try.prog 3) nw,.cells 79 [.p (.s ru),.p (.i .i64 ve),.p (.s tx)],.row 3 1 (compI (sortI (S ++ T))).length fun e o => renC [0,1,2,3,10,4,5,6,7,8] (rowC encI (compI (sortI (S ++ T))) e o),.cells 86 [.sl 6 7 0 D.M.length,.mp 7,.mp 8],.row 31 7 D.M.length fun e o => renC [0,1,2,3,10,4,5,6,7,8] (rowC encPg D.M e o),.mapb (okK Try.prog 81) D.gp,.mapl (okK Try.prog 79) 3 1 D.gs (some (gKey ru ve tx,C.sl 9 1 0 S.length)),.row 3 1 S.length fun e o => renC [0,1,2,3,10,4,5,6,7,8] (rowC encI S e o)])))))):=by kernel_rfl
theorem tM5 (D:Ld) (b i k:Nat) (kd ve st se:Int) (ru tx:ByteArray) (L:List (ByteArray × ByteArray)) (A:List Int) (out:List Pg) (nw:Value→Option Bool):exTs (extAm D) (lpB (pcs Try.prog Try.f17) 12) (cst 95 [(0,.c (.ptr 4 0)),(13,.c (.ptr 5 0)),(14,.c (.mp 6)),(17,.c (.ptr 7 0)),(19,.c (.sl 8 7 0 k)),(61,listV encI 1 A),(62,iV (A.length:Nat)),(63,iV (i:Nat))] (ldH D [.pin 0 b,.cells 31 [.p (.i .i64 kd),.p (.s ru),.p (.i .i64 ve),.p (listP enc2 2 L),.p (.i .i64 st),.p (.i .i64 se),.p (.s ⟨#[]⟩)],.mapb (okK Try.prog 3) nw,.cells 79 [.p (.s ru),.p (.i .i64 ve),.p (.s tx)],.row 31 7 k (rowC encPg out)])) (endM [0] (msk 95 [0,13,14,17,19,61,62,63]) (resOf Try.prog Try.f17))=bT (decide ((↑i:Int)<(↑A.length:Int)))
 (.rq (0≤(↑i:Int)∧(↑i:Int)<(↑A.length:Int))
 (.rq
 (okK Try.prog 81=okK Try.prog 81∧okK Try.prog 81 (Value.agg #[Value.string ru,Value.int IntKind.i64 ve,Value.string tx,Value.int IntKind.i64 (A.getD (↑i:Int).toNat default)])=true)
 (.rq (okK Try.prog 3=okK Try.prog 3∧okK Try.prog 3 (Value.int IntKind.i64 (A.getD (↑i:Int).toNat default))=true)
 (bT
 ((D.gp (Value.agg #[Value.string ru,Value.int IntKind.i64 ve,Value.string tx,Value.int IntKind.i64 (A.getD (↑i:Int).toNat default)])).getD false ==
 (nw (Value.int IntKind.i64 (A.getD (↑i:Int).toNat default))).getD false)
 (.rq (inR IntKind.i64 ((↑i:Int)+1))
 (.done .normal
 (cst 95 [(0,.c (.ptr 0 0)),(13,.c (.ptr 1 0)),(14,.c (.mp 2)),(17,.c (.ptr 3 0)),(19,.c (.sl 4 7 0 k)),(61,.c (.p (.l 1 A.length (rowP encI A)))),(62,.c (.p (.i .i64 (↑A.length:Int)))),(63,.c (.p (.i .i64 ((↑i:Int)+1))))] [.pin 5 b,.cells 31 [.p (.i .i64 kd),.p (.s ru),.p (.i .i64 ve),.p (.l 2 L.length (rowP enc2 L)),.p (.i .i64 st),.p (.i .i64 se),.p (.s (ByteArray.mk #[]))],.mapb (okK Try.prog 3) nw,.cells 79 [.p (.s ru),.p (.i .i64 ve),.p (.s tx)],.row 31 7 k fun e o => renC [4,5,6,7,8,0,1,2,3] (rowC encPg out e o),.cells 86 [.sl 6 7 0 D.M.length,.mp 7,.mp 8],.row 31 7 D.M.length fun e o => renC [4,5,6,7,8,0,1,2,3] (rowC encPg D.M e o),.mapb (okK Try.prog 81) D.gp,.mapl (okK Try.prog 79) 3 1 D.gs none])))
 (bT ((D.gp (Value.agg #[Value.string ru,Value.int IntKind.i64 ve,Value.string tx,Value.int IntKind.i64 (A.getD (↑i:Int).toNat default)])).getD false)
 (.rq
 (IsL enc2 2 (decL dec2 L.length (rowP enc2 L)) L.length (rowP enc2 L) ∧
 (D.M.length=D.M.length ∧
 D.M.length=D.M.length∧rowC encPg D.M=rowC encPg D.M∧okK Try.prog 81=okK Try.prog 81∧D.gp=D.gp∧okK Try.prog 79=okK Try.prog 79∧D.gs=D.gs) ∧
 Fits D (Pg.mk 1 ru ve (decL dec2 L.length (rowP enc2 L)) (A.getD (↑i:Int).toNat default) se (ByteArray.mk #[])))
 (.rq (IsL enc2 2 (decL dec2 L.length (rowP enc2 L)) L.length (rowP enc2 L)∧(decL dec2 L.length (rowP enc2 L)).length≤1000000)
 (.rq (k=k)
 (.rq (1≤1)
 (.rq
 ((k+1) * 88≤140737488355328 ∧
 k+1≤140737488355328 ∧
 ∀ (e o:Nat),
 e<1 →
 o<7 →
 oneC
 (bslF
 [C.p (PV.i IntKind.i64 1),C.p (PV.s ru),C.p (PV.i IntKind.i64 ve),
 C.p (PV.l 2 (decL dec2 L.length (rowP enc2 L)).length (rowP enc2 (decL dec2 L.length (rowP enc2 L)))),C.p (PV.i IntKind.i64 (A.getD (↑i:Int).toNat default)),
 C.p (PV.i IntKind.i64 se),C.p (PV.s (ByteArray.mk #[]))]
 7 1 (e+0) o) =
 true)
 (.rq (inR IntKind.i64 ((↑i:Int)+1))
 (.done .normal
 (cst 95 [(0,.c (.ptr 0 0)),(13,.c (.ptr 1 0)),(14,.c (.mp 2)),(17,.c (.ptr 3 0)),(19,.c (.sl 4 7 0 (k+1))),(61,.c (.p (.l 1 A.length (rowP encI A)))),(62,.c (.p (.i .i64 (↑A.length:Int)))),(63,.c (.p (.i .i64 ((↑i:Int)+1))))] [.pin 5 b,.cells 31 [.p (.i .i64 1),.p (.s ru),.p (.i .i64 ve),.p (.l 2 L.length (rowP enc2 L)),.p (.i .i64 (A.getD (↑i:Int).toNat default)),.p (.i .i64 se),.p (.s (ByteArray.mk #[]))],.mapb (okK Try.prog 3) nw,.cells 79 [.p (.s ru),.p (.i .i64 ve),.p (.s tx)],.row 31 7 (k+1) fun e o => renC [4,5,6,7,15,0,11,12,13] (appF k (rowC encPg out) (fun e o => nth C.top [C.p (PV.i IntKind.i64 1),C.p (PV.s ru),C.p (PV.i IntKind.i64 ve),C.p (PV.l 2 (decL dec2 L.length (rowP enc2 L)).length (rowP enc2 (decL dec2 L.length (rowP enc2 L)))),C.p (PV.i IntKind.i64 (A.getD (↑i:Int).toNat default)),C.p (PV.i IntKind.i64 se),C.p (PV.s (ByteArray.mk #[]))] ((e+0) * 7+o)) e o),.cells 86 [.sl 6 7 0 (ladd D (Pg.mk 1 ru ve (decL dec2 L.length (rowP enc2 L)) (A.getD (↑i:Int).toNat default) se (ByteArray.mk #[]))).M.length,.mp 7,.mp 8],.row 31 7 (ladd D (Pg.mk 1 ru ve (decL dec2 L.length (rowP enc2 L)) (A.getD (↑i:Int).toNat default) se (ByteArray.mk #[]))).M.length fun e o => renC [4,5,6,7,15,0,11,12,13] (C.p (rowP encPg (ladd D (Pg.mk 1 ru ve (decL dec2 L.length (rowP enc2 L)) (A.getD (↑i:Int).toNat default) se (ByteArray.mk #[]))).M e o)),.mapb (okK Try.prog 81) (ladd D (Pg.mk 1 ru ve (decL dec2 L.length (rowP enc2 L)) (A.getD (↑i:Int).toNat default) se (ByteArray.mk #[]))).gp,.mapl (okK Try.prog 79) 3 1 (ladd D (Pg.mk 1 ru ve (decL dec2 L.length (rowP enc2 L)) (A.getD (↑i:Int).toNat default) se (ByteArray.mk #[]))).gs none]))))))))
 (.rq
 (IsL enc2 2 (decL dec2 L.length (rowP enc2 L)) L.length (rowP enc2 L) ∧
 (D.M.length=D.M.length ∧
 D.M.length=D.M.length∧rowC encPg D.M=rowC encPg D.M∧okK Try.prog 81=okK Try.prog 81∧D.gp=D.gp∧okK Try.prog 79=okK Try.prog 79∧D.gs=D.gs) ∧
 Fits D (Pg.mk 2 ru ve (decL dec2 L.length (rowP enc2 L)) (A.getD (↑i:Int).toNat default) se (ByteArray.mk #[])))
 (.rq (IsL enc2 2 (decL dec2 L.length (rowP enc2 L)) L.length (rowP enc2 L)∧(decL dec2 L.length (rowP enc2 L)).length≤1000000)
 (.rq (k=k)
 (.rq (1≤1)
 (.rq
 ((k+1) * 88≤140737488355328 ∧
 k+1≤140737488355328 ∧
 ∀ (e o:Nat),
 e<1 →
 o<7 →
 oneC
 (bslF
 [C.p (PV.i IntKind.i64 2),C.p (PV.s ru),C.p (PV.i IntKind.i64 ve),
 C.p (PV.l 2 (decL dec2 L.length (rowP enc2 L)).length (rowP enc2 (decL dec2 L.length (rowP enc2 L)))),C.p (PV.i IntKind.i64 (A.getD (↑i:Int).toNat default)),
 C.p (PV.i IntKind.i64 se),C.p (PV.s (ByteArray.mk #[]))]
 7 1 (e+0) o) =
 true)
 (.rq (inR IntKind.i64 ((↑i:Int)+1))
 (.done .normal
 (cst 95 [(0,.c (.ptr 0 0)),(13,.c (.ptr 1 0)),(14,.c (.mp 2)),(17,.c (.ptr 3 0)),(19,.c (.sl 4 7 0 (k+1))),(61,.c (.p (.l 1 A.length (rowP encI A)))),(62,.c (.p (.i .i64 (↑A.length:Int)))),(63,.c (.p (.i .i64 ((↑i:Int)+1))))] [.pin 5 b,.cells 31 [.p (.i .i64 2),.p (.s ru),.p (.i .i64 ve),.p (.l 2 L.length (rowP enc2 L)),.p (.i .i64 (A.getD (↑i:Int).toNat default)),.p (.i .i64 se),.p (.s (ByteArray.mk #[]))],.mapb (okK Try.prog 3) nw,.cells 79 [.p (.s ru),.p (.i .i64 ve),.p (.s tx)],.row 31 7 (k+1) fun e o => renC [4,5,6,7,15,0,11,12,13] (appF k (rowC encPg out) (fun e o => nth C.top [C.p (PV.i IntKind.i64 2),C.p (PV.s ru),C.p (PV.i IntKind.i64 ve),C.p (PV.l 2 (decL dec2 L.length (rowP enc2 L)).length (rowP enc2 (decL dec2 L.length (rowP enc2 L)))),C.p (PV.i IntKind.i64 (A.getD (↑i:Int).toNat default)),C.p (PV.i IntKind.i64 se),C.p (PV.s (ByteArray.mk #[]))] ((e+0) * 7+o)) e o),.cells 86 [.sl 6 7 0 (ladd D (Pg.mk 2 ru ve (decL dec2 L.length (rowP enc2 L)) (A.getD (↑i:Int).toNat default) se (ByteArray.mk #[]))).M.length,.mp 7,.mp 8],.row 31 7 (ladd D (Pg.mk 2 ru ve (decL dec2 L.length (rowP enc2 L)) (A.getD (↑i:Int).toNat default) se (ByteArray.mk #[]))).M.length fun e o => renC [4,5,6,7,15,0,11,12,13] (C.p (rowP encPg (ladd D (Pg.mk 2 ru ve (decL dec2 L.length (rowP enc2 L)) (A.getD (↑i:Int).toNat default) se (ByteArray.mk #[]))).M e o)),.mapb (okK Try.prog 81) (ladd D (Pg.mk 2 ru ve (decL dec2 L.length (rowP enc2 L)) (A.getD (↑i:Int).toNat default) se (ByteArray.mk #[]))).gp,.mapl (okK Try.prog 79) 3 1 (ladd D (Pg.mk 2 ru ve (decL dec2 L.length (rowP enc2 L)) (A.getD (↑i:Int).toNat default) se (ByteArray.mk #[]))).gs none])))))))))))))
 (.done (.exit 2)
 (cst 95 [(0,.c (.ptr 0 0)),(13,.c (.ptr 1 0)),(14,.c (.mp 2)),(17,.c (.ptr 3 0)),(19,.c (.sl 4 7 0 k)),(61,.c (.p (.l 1 A.length (rowP encI A)))),(62,.c (.p (.i .i64 (↑A.length:Int)))),(63,.c (.p (.i .i64 (↑i:Int))))] [.pin 5 b,.cells 31 [.p (.i .i64 kd),.p (.s ru),.p (.i .i64 ve),.p (.l 2 L.length (rowP enc2 L)),.p (.i .i64 st),.p (.i .i64 se),.p (.s (ByteArray.mk #[]))],.mapb (okK Try.prog 3) nw,.cells 79 [.p (.s ru),.p (.i .i64 ve),.p (.s tx)],.row 31 7 k fun e o => renC [4,5,6,7,8,0,1,2,3] (rowC encPg out e o),.cells 86 [.sl 6 7 0 D.M.length,.mp 7,.mp 8],.row 31 7 D.M.length fun e o => renC [4,5,6,7,8,0,1,2,3] (rowC encPg D.M e o),.mapb (okK Try.prog 81) D.gp,.mapl (okK Try.prog 79) 3 1 D.gs none])):=by kernel_rfl
end Go.AE
namespace Go.AE
set_option linter.unusedVariables false
set_option linter.unusedSimpArgs false
open Go.Proofs Go.Proofs.Ytfjihbmehhccoaa Go.RowKit
noncomputable def nwF (T:List Int):Value→Option Bool:=T.foldl (fun g t => setM g (.int .i64 t) true) fun _ => none
theorem nwF_snoc (T:List Int) (t:Int):nwF (T ++ [t])=setM (nwF T) (.int .i64 t) true:=by
 unfold nwF
 rw [List.foldl_append]
 rfl
theorem nwF_fold (T:List Int):∀ (g:Value→Option Bool) (t:Int),((T.foldl (fun g t => setM g (.int .i64 t) true) g) (.int .i64 t)).getD false=(decide (t∈T) || (g (.int .i64 t)).getD false):=by
 induction T with
 | nil => intro g t;simp
 | cons x T ih =>
   intro g t
   rw [List.foldl_cons,ih]
   unfold setM
   by_cases h:t=x
   · subst h;simp
   · simp [h]
theorem nwF_get (T:List Int) (t:Int):(nwF T (.int .i64 t)).getD false=decide (t∈T):=by
 unfold nwF
 rw [nwF_fold]
 simp
noncomputable def amStep (T:List Int) (ru:ByteArray) (ve:Int) (L:List (ByteArray × ByteArray)) (se:Int) (r:Ld × List Pg) (t:Int):Ld × List Pg :=
 match (r.1.gp (mKey ru ve (textLb L) t)).getD false,decide (t∈T) with
 | true,true => r
 | false,false => r
 | true,false => (ladd r.1 ⟨1,ru,ve,L,t,se,⟨#[]⟩⟩,r.2 ++ [⟨1,ru,ve,L,t,se,⟨#[]⟩⟩])
 | false,true => (ladd r.1 ⟨2,ru,ve,L,t,se,⟨#[]⟩⟩,r.2 ++ [⟨2,ru,ve,L,t,se,⟨#[]⟩⟩])
noncomputable def amFold (T:List Int) (ru:ByteArray) (ve:Int) (L:List (ByteArray × ByteArray)) (se:Int) (D:Ld) (A:List Int):Ld × List Pg:=A.foldl (amStep T ru ve L se) (D,[])
noncomputable def lamend (D:Ld) (ru:ByteArray) (ve:Int) (L:List (ByteArray × ByteArray)) (S T:List Int) (se:Int):V × Ld:=match pgOK (⟨0,ru,ve,L,0,se,⟨#[]⟩⟩:Pg),T.all tickZ with
 | true,true => (listV encPg 7 (amFold T ru ve L se D (compI (sortI (S ++ T)))).2,(amFold T ru ve L se D (compI (sortI (S ++ T)))).1)
 | _,_ => (.c (.p (.z (.slice none 0 0))),D)
theorem amFold_snoc (T:List Int) (ru:ByteArray) (ve:Int) (L:List (ByteArray × ByteArray)) (se:Int) (D:Ld) (A:List Int) (t:Int):amFold T ru ve L se D (A ++ [t])=amStep T ru ve L se (amFold T ru ve L se D A) t:=by
 unfold amFold
 rw [List.foldl_append]
 rfl
theorem ladd_gs (D:Ld) (p:Pg):((ladd D p).gs (gKey p.ru p.ve (textLb p.L))).1≤(D.gs (gKey p.ru p.ve (textLb p.L))).1+1:=by
 unfold ladd
 dsimp only
 cases (D.gp (mKey p.ru p.ve (textLb p.L) p.st)).isSome with
 | true => exact Nat.le_succ _
 | false => show (gadd _ _ _ _).1≤_;unfold gadd;rw [setG_same];exact Nat.le_refl _
theorem mem_sortI {L:List Int} {t:Int}:t∈sortI L↔t∈L:=by unfold sortI;exact List.mem_mergeSort
theorem mem_compI {L:List Int} {t:Int} (h:t∈compI L):t∈L:=by
 unfold compI Go.Lib.compact Go.Lib.compactUpTo at h
 obtain ⟨j,h1,h2⟩:=List.mem_map.1 h
 have h1:=(List.mem_filter.1 h1).1
 have hj:j<L.length:=by simpa using h1
 subst h2
 simp [hj]
theorem takeD {α:Type} [Inhabited α] {l:List α} {i:Nat} (h:i<l.length):l.take (i+1)=l.take i ++ [l.getD i default]:=by
 rw [List.take_succ_eq_append_getElem h,List.getD_eq_getElem?_getD,List.getElem?_eq_getElem h]
 rfl
theorem getD_memI {l:List Int} {i:Nat} (h:i<l.length):l.getD i default∈l:=by
 rw [List.getD_eq_getElem?_getD,List.getElem?_eq_getElem h]
 exact List.getElem_mem _
theorem tick_in {t:Int} (h:tickZ t=true):inR .i64 t:=by
 unfold tickZ at h
 simp at h
 unfold inR
 omega
section
variable {G:Nat→Option Obj}
theorem extTk_sound:SoundExt Try.prog G extTk:=extOf_sound (by simp;exact okTick)
theorem extCt_sound (A:List Int):SoundExt Try.prog G (extCt A):=catX_sound okConcat (extH_sound (by simp;exact ⟨okSortI _,okCompI _⟩))
theorem extAm_sound (D:Ld):SoundExt Try.prog G (extAm D):=extH_sound (by simp;exact ⟨okAddD D,okSep.lift⟩)
set_option maxRecDepth 100000 in
set_option maxHeartbeats 4000000 in
theorem amend_main (D:Ld) (ru:ByteArray) (ve:Int) (L:List (ByteArray × ByteArray)) (S T:List Int) (se:Int) (hS:StG D (gKey ru ve (textLb L)) S) (hT:pgOK (⟨0,ru,ve,L,0,se,⟨#[]⟩⟩:Pg)=true→(textLb L).size≤1000000∧ru.size≤1000000∧inR .i64 ve∧L.length≤1000000∧(∀ t∈S,inR .i64 t)∧S.length+T.length≤100000∧D.M.length≤100000) (hTl:T.length≤1000000) (rest:List AO) (b:Nat) (Q:X→St→Prop):ExZ Try.prog G (Zm [0] (resOf Try.prog Try.f17) fun s => WeakS G s ⟨[.c (.ptr 0 0)] ++ [(lamend D ru ve L S T se).1],ldE (lamend D ru ve L S T se).2 b⟩) (pcs Try.prog Try.f17) (stIn Try.f17 [0,1,2,3] [0] [b] [.c (.ptr 0 0),.c (.p (.s ru)),iV ve,listV enc2 2 L,listV encI 1 T,iV se] (ldH D rest)) Q:=by
 refine ExZ.evG extVa_sound 6 (tM1 D rest b ve se ru L T) ?_
 simp only [holds_bT,holds_rq,holds_leaf,kz_ret,kz_normal,dec2_row]
 unfold lamend
 refine ⟨isL_row _ _ _,fun h1 => ⟨?_⟩,fun h1 => ⟨?_⟩⟩
 · have h1:pgOK (⟨0,ru,ve,L,0,se,⟨#[]⟩⟩:Pg)=false:=by simpa using h1
   rw [h1];exact weak_of_eq (by kernel_rfl)
 have h1:pgOK (⟨0,ru,ve,L,0,se,⟨#[]⟩⟩:Pg)=true:=by simpa using h1
 obtain ⟨t1,t2,t3,t4,t5,t6,t7⟩:=hT h1
 clear hT
 rw [h1]
 refine ExZ.loop' (l:=dropL 6 (pcs Try.prog Try.f17)) (b:=inr (inr (nth .skip (pcs Try.prog Try.f17) 6))) (r:=dropL 7 (pcs Try.prog Try.f17)) (id:=0) (by kernel_rfl) (σ:=Nat)
   (fun i => (fun nw => cst 95 [(0,.c (.ptr 0 0)),(4,listV encI 1 T),(13,.c (.ptr 1 0)),(14,.c (.mp 2)),(34,listV encI 1 T),(35,iV (T.length:Nat)),(36,iV (i:Nat))] [.pin 3 b,.cells 31 [.p (.i .i64 0),.p (.s ru),.p (.i .i64 ve),.p (listP enc2 2 L),.p (.i .i64 0),.p (.i .i64 se),.p (.s ⟨#[]⟩)],.mapb (okK Try.prog 3) nw,.cells 86 [.sl 4 7 0 D.M.length,.mp 5,.mp 6],.row 31 7 D.M.length (rowC encPg D.M),.mapb (okK Try.prog 81) D.gp,.mapl (okK Try.prog 79) 3 1 D.gs none]) (nwF (T.take i))) (fun i => i≤T.length∧(T.take i).all tickZ=true) (fun i => T.length - i) 0 ⟨Nat.zero_le _,rfl⟩ (weak_of_eq (by kernel_rfl)) ?_
 rintro i ⟨i1,i2⟩ Q1 q1n q1e -
 refine ExZ.evH (keep:=msk 95 [0,4,13,14,34,35,36]) extTk_sound (tM2 D b i ve se ru L T (nwF (T.take i))) ?_
 simp only [holds_bT,holds_rq,holds_leaf,kz_normal,kz_exit,kz_ret,decide_eq_true_eq,decide_eq_false_iff_not,inR,Int.toNat_natCast]
 refine ⟨fun hlt => ?_,fun hge => ⟨?_⟩⟩
 · have hlt:i<T.length:=by omega
   have hm:=getD_memI hlt
   have hs:=takeD hlt
   refine ⟨by omega,trivial,fun h2 => ⟨?_⟩,fun h2 => ⟨⟨trivial,?_⟩,by omega,⟨?_⟩⟩⟩
   · have h2:tickZ (T.getD i default)=false:=by simpa using h2
     have h3:T.all tickZ=false:=by
      cases hq:T.all tickZ with
      | false => rfl
      | true => rw [List.all_eq_true.1 hq _ hm] at h2;cases h2
     rw [h3];exact weak_of_eq (by kernel_rfl)
   · exact okIn_of _ (tick_in (by simpa using h2))
   · have h2:tickZ (T.getD i default)=true:=by simpa using h2
     refine q1n (i+1) _ ⟨by omega,by rw [hs,List.all_append,i2];show (true && (tickZ (T.getD i default) && true))=true;rw [h2];rfl⟩ (by omega) ?_
     rw [hs,nwF_snoc]
     exact weak_of_eq (by kernel_rfl)
 · obtain rfl:i=T.length:=by omega
   rw [List.take_length] at i2 ⊢
   refine q1e _ ?_
   rw [i2]
   clear q1n q1e hge i1
   have hTt:∀ t∈T,inR .i64 t:=fun t ht => tick_in (List.all_eq_true.1 i2 t ht)
   have hAt:∀ t∈compI (sortI (S ++ T)),inR .i64 t:=fun t ht => by
    have:=mem_sortI.1 (mem_compI ht)
    rcases List.mem_append.1 this with h | h
    · exact t5 t h
    · exact hTt t h
   have hAl:(compI (sortI (S ++ T))).length≤S.length+T.length:=by
    have:=compI_length (sortI (S ++ T))
    rw [sortI_length,List.length_append] at this
    exact this
   have hnw:=nwF_get T
   obtain ⟨nw,hnwe⟩:∃ nw,nw=nwF T:=⟨_,rfl⟩
   rw [← hnwe] at hnw ⊢
   refine ExZ.pre ((weak_gc (msk 95 [0,4,13,14]) _).trans (weak_of_eq (by kernel_rfl))) (ExZ.evG extVa_sound 1 (tM3 D b ve se ru L T nw) ?_)
   simp only [holds_bT,holds_rq,holds_leaf,kz_normal,dec2_row]
   refine ⟨⟨isL_row _ _ _,t1⟩,⟨?_⟩⟩
   obtain ⟨s1,s2⟩:=hS
   have hmk:∀ t,inR .i64 t→okK Try.prog 81 (mKey ru ve (textLb L) t)=true:=fun t ht => okMu_of _ _ _ _ t2 t3 t1 ht
   have hgk:=okGr_of ru (textLb L) ve t2 t3 t1
   obtain ⟨tx,htx⟩:∃ tx,tx=textLb L:=⟨_,rfl⟩
   rw [← htx] at s1 s2 hmk hgk t1 ⊢
   have w1:WeakS G (cst 95 [(0,.c (.ptr 0 0)),(4,listV encI 1 T),(13,.c (.ptr 1 0)),(14,.c (.mp 2)),(17,.c (.ptr 3 0))] [.pin 4 b,.cells 31 [.p (.i .i64 0),.p (.s ru),.p (.i .i64 ve),.p (listP enc2 2 L),.p (.i .i64 0),.p (.i .i64 se),.p (.s ⟨#[]⟩)],.mapb (okK Try.prog 3) nw,.cells 79 [.p (.s ru),.p (.i .i64 ve),.p (.s tx)],.cells 86 [.sl 5 7 0 D.M.length,.mp 6,.mp 7],.row 31 7 D.M.length (rowC encPg D.M),.mapb (okK Try.prog 81) D.gp,.mapl (okK Try.prog 79) 3 1 D.gs none]) ((fun S => cst 95 [(0,.c (.ptr 0 0)),(4,listV encI 1 T),(13,.c (.ptr 1 0)),(14,.c (.mp 2)),(17,.c (.ptr 3 0))] [.pin 4 b,.cells 31 [.p (.i .i64 0),.p (.s ru),.p (.i .i64 ve),.p (listP enc2 2 L),.p (.i .i64 0),.p (.i .i64 se),.p (.s ⟨#[]⟩)],.mapb (okK Try.prog 3) nw,.cells 79 [.p (.s ru),.p (.i .i64 ve),.p (.s tx)],.cells 86 [.sl 5 7 0 D.M.length,.mp 6,.mp 7],.row 31 7 D.M.length (rowC encPg D.M),.mapb (okK Try.prog 81) D.gp,.mapl (okK Try.prog 79) 3 1 D.gs (some (gKey ru ve tx,.sl 8 1 0 S.length)),.row 3 1 S.length (rowC encI S)]) S):=by
    refine (weak_openM (id:=7) (gKey ru ve tx) (by rfl)).trans ?_
    rw [s1]
    refine (weak_of_eq (st':=cst 95 [(0,.c (.ptr 0 0)),(4,listV encI 1 T),(13,.c (.ptr 1 0)),(14,.c (.mp 2)),(17,.c (.ptr 3 0))] [.pin 4 b,.cells 31 [.p (.i .i64 0),.p (.s ru),.p (.i .i64 ve),.p (listP enc2 2 L),.p (.i .i64 0),.p (.i .i64 se),.p (.s ⟨#[]⟩)],.mapb (okK Try.prog 3) nw,.cells 79 [.p (.s ru),.p (.i .i64 ve),.p (.s tx)],.cells 86 [.sl 5 7 0 D.M.length,.mp 6,.mp 7],.row 31 7 D.M.length (rowC encPg D.M),.mapb (okK Try.prog 81) D.gp,.mapl (okK Try.prog 79) 3 1 D.gs (some (gKey ru ve tx,.sl 8 1 0 S.length)),.row 3 1 S.length (fun e o => .p ((D.gs (gKey ru ve tx)).2 e o))]) (by kernel_rfl)).trans ?_
    refine weak_cst ⟨rfl,rfl,rfl,rfl,rfl,⟨rfl,rfl,rfl,fun _ _ _ _ => rfl⟩,rfl,rfl,⟨rfl,rfl,rfl,fun e o he ho => ?_⟩,trivial⟩
    exact congrArg C.p (s2 e o he ho)
   refine ExZ.pre ((weak_of_eq (by kernel_rfl)).trans w1) ?_
   refine ExZ.evG (extCt_sound (S ++ T)) 4 (tM4 D b ve se ru tx L S T nw) ?_
   simp only [holds_bT,holds_rq,holds_leaf,kz_normal]
   have dS:(decL decI S.length fun e o => unP (rowC encI S (e+0) o))=S:=decI_row S
   have dT:decL decI T.length (rowP encI T)=T:=decI_row T
   rw [dS,dT]
   refine ⟨⟨⟨trivial,hgk⟩,rfl⟩,⟨by omega,fun _ _ _ _ => rfl⟩,⟨⟨⟨isL_row _ _ _,isL_row _ _ _⟩,by omega⟩,trivial,fun _ _ _ _ => rfl⟩,⟨rfl,rfl,fun _ _ _ _ => rfl,by rw [List.length_append];omega⟩,⟨by rw [sortI_length],by rw [sortI_length],fun _ _ _ _ => rfl,by rw [sortI_length,List.length_append];omega⟩,⟨?_⟩⟩
   have hAe:=htx
   obtain ⟨A,hA⟩:∃ A,A=compI (sortI (S ++ T)):=⟨_,rfl⟩
   rw [← hA] at hAt hAl ⊢
   have w2:WeakS G ((fun A S nw => cst 95 [(0,.c (.ptr 0 0)),(13,.c (.ptr 1 0)),(14,.c (.mp 2)),(17,.c (.ptr 3 0)),(19,.c (.p (.z (.slice none 0 0)))),(61,.c (.sl 4 1 0 A.length)),(62,iV (A.length:Nat)),(63,iV 0)] [.pin 5 b,.cells 31 [.p (.i .i64 0),.p (.s ru),.p (.i .i64 ve),.p (listP enc2 2 L),.p (.i .i64 0),.p (.i .i64 se),.p (.s ⟨#[]⟩)],.mapb (okK Try.prog 3) nw,.cells 79 [.p (.s ru),.p (.i .i64 ve),.p (.s tx)],.row 3 1 A.length (rowC encI A),.cells 86 [.sl 6 7 0 D.M.length,.mp 7,.mp 8],.row 31 7 D.M.length (rowC encPg D.M),.mapb (okK Try.prog 81) D.gp,.mapl (okK Try.prog 79) 3 1 D.gs (some (gKey ru ve tx,.sl 9 1 0 S.length)),.row 3 1 S.length (rowC encI S)]) A S nw) ((fun D nw kd st out k i => cst 95 [(0,.c (.ptr 4 0)),(13,.c (.ptr 5 0)),(14,.c (.mp 6)),(17,.c (.ptr 7 0)),(19,.c (.sl 8 7 0 k)),(61,listV encI 1 A),(62,iV (A.length:Nat)),(63,iV (i:Nat))] (ldH D [.pin 0 b,.cells 31 [.p (.i .i64 kd),.p (.s ru),.p (.i .i64 ve),.p (listP enc2 2 L),.p (.i .i64 st),.p (.i .i64 se),.p (.s ⟨#[]⟩)],.mapb (okK Try.prog 3) nw,.cells 79 [.p (.s ru),.p (.i .i64 ve),.p (.s tx)],.row 31 7 k (rowC encPg out)])) D nw 0 0 [] 0 0):=by
    refine (weak_closeM (id:=8) (m:=9) (k0:=gKey ru ve tx) (n:=S.length) (h:=rowC encI S) (D.gs (gKey ru ve tx)).2 (by rfl) (by rfl) (fun e o he ho => (congrArg C.p (s2 e o he ho)).symm)).trans ?_
    rw [setG_self _ _ _ s1]
    refine (weak_frz (j:=61) (id:=4) (ty:=3) (sz:=1) (n:=A.length) (off:=0) (len:=A.length) (f:=rowC encI A) (by kernel_rfl) (by kernel_rfl) (by omega) (fun _ _ _ _ => rfl)).trans ?_
    refine (weak_nil 31 7 (rowC encPg []) 19 (by kernel_rfl)).trans ?_
    refine (weak_proj [5,6,7,8,0,1,2,3,10] (msk 95 [0,13,14,17,19,61,62,63]) (by kernel_rfl) _).trans ?_
    exact weak_of_eq (by kernel_rfl)
   refine ExZ.pre ((weak_of_eq (by kernel_rfl)).trans w2) ?_
   clear w2
   refine ExZ.loop' (l:=dropL 4 (dropL 1 (dropL 7 (pcs Try.prog Try.f17)))) (b:=inr (inr (nth .skip (pcs Try.prog Try.f17) 12))) (r:=dropL 13 (pcs Try.prog Try.f17)) (id:=2) (by kernel_rfl) (σ:=Nat × Ld × List Pg × Int × Int)
     (fun (i,D,out,kd,st) => (fun D nw kd st out k i => cst 95 [(0,.c (.ptr 4 0)),(13,.c (.ptr 5 0)),(14,.c (.mp 6)),(17,.c (.ptr 7 0)),(19,.c (.sl 8 7 0 k)),(61,listV encI 1 A),(62,iV (A.length:Nat)),(63,iV (i:Nat))] (ldH D [.pin 0 b,.cells 31 [.p (.i .i64 kd),.p (.s ru),.p (.i .i64 ve),.p (listP enc2 2 L),.p (.i .i64 st),.p (.i .i64 se),.p (.s ⟨#[]⟩)],.mapb (okK Try.prog 3) nw,.cells 79 [.p (.s ru),.p (.i .i64 ve),.p (.s tx)],.row 31 7 k (rowC encPg out)])) D nw kd st out out.length i) (fun (i,D',out,_,_) => i≤A.length∧(D',out)=amFold T ru ve L se D (A.take i)∧out.length≤i∧D'.M.length≤D.M.length+i∧(D'.gs (gKey ru ve tx)).1≤S.length+i) (fun (i,_) => A.length - i) (0,D,[],0,0) ⟨Nat.zero_le _,rfl,Nat.zero_le _,Nat.le_refl _,by rw [s1];exact Nat.le_refl _⟩ (WeakS.refl _) ?_
   rintro ⟨i,D',out,kd,st⟩ ⟨i1,i2,i3,i4,i5⟩ Q1 q1n q1e -
   refine ExZ.evH (keep:=msk 95 [0,13,14,17,19,61,62,63]) (extAm_sound D') (tM5 D' b i out.length kd ve st se ru tx L A out nw) ?_
   simp only [holds_bT,holds_rq,holds_leaf,kz_normal,kz_exit,decide_eq_true_eq,decide_eq_false_iff_not,inR,show ∀ x:Nat,x+0=x from fun _ => rfl,Int.toNat_natCast,dec2_row]
   refine ⟨fun hlt => ?_,fun hge => ⟨?_⟩⟩
   · have hlt:i<A.length:=by omega
     have hm:=getD_memI hlt
     have hs:=takeD hlt
     have hin:=hAt _ hm
     generalize A.getD i default=t at hm hs hin
     have hk:=hmk t hin
     have hst:amFold T ru ve L se D (A.take (i+1))=amStep T ru ve L se (D',out) t:=by rw [hs,amFold_snoc,← i2]
     have hFit:∀ kd,Fits D' ⟨kd,ru,ve,L,t,se,⟨#[]⟩⟩:=fun kd => by
      refine ⟨?_,?_,?_,?_,?_,?_⟩
      · rw [htx] at hk;exact hk
      · rw [htx] at hgk;exact hgk
      · rw [htx] at t1;exact t1
      · exact t4
      · omega
      · rw [htx] at i5;show (D'.gs (gKey ru ve (textLb L))).1≤_;omega
     have hgr:∀ kd,((ladd D' ⟨kd,ru,ve,L,t,se,⟨#[]⟩⟩).gs (gKey ru ve tx)).1≤S.length+(i+1):=fun kd => by
      have:((ladd D' ⟨kd,ru,ve,L,t,se,⟨#[]⟩⟩).gs (gKey ru ve tx)).1≤(D'.gs (gKey ru ve tx)).1+1:=by rw [htx];exact ladd_gs D' ⟨kd,ru,ve,L,t,se,⟨#[]⟩⟩
      omega
     have hML:∀ kd,(ladd D' ⟨kd,ru,ve,L,t,se,⟨#[]⟩⟩).M.length≤D.M.length+(i+1):=fun kd => by
      unfold ladd
      simp
      omega
     unfold amStep at hst
     rw [← htx,← hnw] at hst
     refine ⟨⟨by omega,by omega⟩,⟨trivial,hk⟩,⟨trivial,okIn_of _ hin⟩,fun he => ⟨by omega,⟨?_⟩⟩,fun he => ⟨fun hp => ⟨⟨isL_row _ _ _,⟨trivial,trivial,trivial,trivial,trivial,trivial,trivial⟩,hFit _⟩,⟨isL_row _ _ _,t4⟩,trivial,Nat.le_refl _,⟨by omega,by omega,pg_one 1 ve t se ru ⟨#[]⟩ L⟩,by omega,⟨?_⟩⟩,fun hp => ⟨⟨isL_row _ _ _,⟨trivial,trivial,trivial,trivial,trivial,trivial,trivial⟩,hFit _⟩,⟨isL_row _ _ _,t4⟩,trivial,Nat.le_refl _,⟨by omega,by omega,pg_one 2 ve t se ru ⟨#[]⟩ L⟩,by omega,⟨?_⟩⟩⟩⟩
     · have he:((D'.gp (mKey ru ve tx t)).getD false == (nw (.int .i64 t)).getD false)=true:=he
       have hst:amFold T ru ve L se D (A.take (i+1))=(D',out):=by
        rw [hst]
        revert he
        cases (D'.gp (mKey ru ve tx t)).getD false <;> cases (nw (.int .i64 t)).getD false <;> intro he <;> first | rfl | cases he
       refine q1n (i+1,D',out,kd,st) _ ⟨by omega,hst.symm,by omega,by omega,by omega⟩ (by simp only;omega) ?_
       exact (weak_proj [5,6,7,8,0,1,2,3,4] (msk 95 [0,13,14,17,19,61,62,63]) (by kernel_rfl) _).trans (weak_of_eq (by kernel_rfl))
     · have he:((D'.gp (mKey ru ve tx t)).getD false == (nw (.int .i64 t)).getD false)=false:=he
       have hp:(D'.gp (mKey ru ve tx t)).getD false=true:=hp
       have hst:amFold T ru ve L se D (A.take (i+1))=(ladd D' ⟨1,ru,ve,L,t,se,⟨#[]⟩⟩,out ++ [⟨1,ru,ve,L,t,se,⟨#[]⟩⟩]):=by
        rw [hst]
        rw [hp] at he ⊢
        revert he
        cases (nw (.int .i64 t)).getD false <;> intro he <;> first | rfl | cases he
       refine q1n (i+1,ladd D' ⟨1,ru,ve,L,t,se,⟨#[]⟩⟩,out ++ [⟨1,ru,ve,L,t,se,⟨#[]⟩⟩],1,t) _ ⟨by omega,hst.symm,by simp;omega,hML 1,hgr 1⟩ (by simp only;omega) ?_
       show WeakS G _ ((fun D nw kd st out k i => cst 95 [(0,.c (.ptr 4 0)),(13,.c (.ptr 5 0)),(14,.c (.mp 6)),(17,.c (.ptr 7 0)),(19,.c (.sl 8 7 0 k)),(61,listV encI 1 A),(62,iV (A.length:Nat)),(63,iV (i:Nat))] (ldH D [.pin 0 b,.cells 31 [.p (.i .i64 kd),.p (.s ru),.p (.i .i64 ve),.p (listP enc2 2 L),.p (.i .i64 st),.p (.i .i64 se),.p (.s ⟨#[]⟩)],.mapb (okK Try.prog 3) nw,.cells 79 [.p (.s ru),.p (.i .i64 ve),.p (.s tx)],.row 31 7 k (rowC encPg out)])) (ladd D' ⟨1,ru,ve,L,t,se,⟨#[]⟩⟩) nw 1 t (out ++ [⟨1,ru,ve,L,t,se,⟨#[]⟩⟩]) (out ++ [(⟨1,ru,ve,L,t,se,⟨#[]⟩⟩:Pg)]).length (i+1))
       rw [show (out ++ [(⟨1,ru,ve,L,t,se,⟨#[]⟩⟩:Pg)]).length=out.length+1 by simp]
       refine (weak_proj [5,6,7,8,0,1,2,3,4] (msk 95 [0,13,14,17,19,61,62,63]) (by kernel_rfl) _).trans ((weak_rows (id:=8) (ty:=31) (sz:=7) (n:=out.length+1) (f:=fun e o => renC [5,6,7,8,0,1,2,3,4] (renC [4,5,6,7,15,0,11,12,13] (appF out.length (rowC encPg out) (fun e o => nth C.top [C.p (.i .i64 1),C.p (.s ru),C.p (.i .i64 ve),C.p (listP enc2 2 L),C.p (.i .i64 t),C.p (.i .i64 se),C.p (.s ⟨#[]⟩)] ((e+0) * 7+o)) e o))) (f':=rowC encPg (out ++ [⟨1,ru,ve,L,t,se,⟨#[]⟩⟩])) (by kernel_rfl) (fun e o he ho β R w ad u hu => ?_)).trans (weak_of_eq (by kernel_rfl)))
       rw [app1' (enc:=encPg) (x:=⟨1,ru,ve,L,t,se,⟨#[]⟩⟩) rfl (pg_at 1 ve t se ru ⟨#[]⟩ L) he ho] at hu
       exact hu
     · have he:((D'.gp (mKey ru ve tx t)).getD false == (nw (.int .i64 t)).getD false)=false:=he
       have hp:(D'.gp (mKey ru ve tx t)).getD false=false:=hp
       have hst:amFold T ru ve L se D (A.take (i+1))=(ladd D' ⟨2,ru,ve,L,t,se,⟨#[]⟩⟩,out ++ [⟨2,ru,ve,L,t,se,⟨#[]⟩⟩]):=by
        rw [hst]
        rw [hp] at he ⊢
        revert he
        cases (nw (.int .i64 t)).getD false <;> intro he <;> first | rfl | cases he
       refine q1n (i+1,ladd D' ⟨2,ru,ve,L,t,se,⟨#[]⟩⟩,out ++ [⟨2,ru,ve,L,t,se,⟨#[]⟩⟩],2,t) _ ⟨by omega,hst.symm,by simp;omega,hML 2,hgr 2⟩ (by simp only;omega) ?_
       show WeakS G _ ((fun D nw kd st out k i => cst 95 [(0,.c (.ptr 4 0)),(13,.c (.ptr 5 0)),(14,.c (.mp 6)),(17,.c (.ptr 7 0)),(19,.c (.sl 8 7 0 k)),(61,listV encI 1 A),(62,iV (A.length:Nat)),(63,iV (i:Nat))] (ldH D [.pin 0 b,.cells 31 [.p (.i .i64 kd),.p (.s ru),.p (.i .i64 ve),.p (listP enc2 2 L),.p (.i .i64 st),.p (.i .i64 se),.p (.s ⟨#[]⟩)],.mapb (okK Try.prog 3) nw,.cells 79 [.p (.s ru),.p (.i .i64 ve),.p (.s tx)],.row 31 7 k (rowC encPg out)])) (ladd D' ⟨2,ru,ve,L,t,se,⟨#[]⟩⟩) nw 2 t (out ++ [⟨2,ru,ve,L,t,se,⟨#[]⟩⟩]) (out ++ [(⟨2,ru,ve,L,t,se,⟨#[]⟩⟩:Pg)]).length (i+1))
       rw [show (out ++ [(⟨2,ru,ve,L,t,se,⟨#[]⟩⟩:Pg)]).length=out.length+1 by simp]
       refine (weak_proj [5,6,7,8,0,1,2,3,4] (msk 95 [0,13,14,17,19,61,62,63]) (by kernel_rfl) _).trans ((weak_rows (id:=8) (ty:=31) (sz:=7) (n:=out.length+1) (f:=fun e o => renC [5,6,7,8,0,1,2,3,4] (renC [4,5,6,7,15,0,11,12,13] (appF out.length (rowC encPg out) (fun e o => nth C.top [C.p (.i .i64 2),C.p (.s ru),C.p (.i .i64 ve),C.p (listP enc2 2 L),C.p (.i .i64 t),C.p (.i .i64 se),C.p (.s ⟨#[]⟩)] ((e+0) * 7+o)) e o))) (f':=rowC encPg (out ++ [⟨2,ru,ve,L,t,se,⟨#[]⟩⟩])) (by kernel_rfl) (fun e o he ho β R w ad u hu => ?_)).trans (weak_of_eq (by kernel_rfl)))
       rw [app1' (enc:=encPg) (x:=⟨2,ru,ve,L,t,se,⟨#[]⟩⟩) rfl (pg_at 2 ve t se ru ⟨#[]⟩ L) he ho] at hu
       exact hu
   · obtain rfl:i=A.length:=by omega
     rw [List.take_length] at i2
     refine q1e _ ?_
     rw [← i2]
     refine (ExZ.pre ((weak_frz (j:=19) (id:=4) (ty:=31) (sz:=7) (n:=out.length) (off:=0) (len:=out.length) (f:=fun e o => renC [4,5,6,7,8,0,1,2,3] (rowC encPg out e o)) (by kernel_rfl) (by kernel_rfl) (by omega) (fun _ _ _ _ => rfl)).trans ((weak_gc (msk 95 [0,19]) _).trans (weak_of_eq (st':=cst 95 [(0,.c (.ptr 0 0)),(19,listV encPg 7 out)] (ldE D' b)) (by kernel_rfl)))) ?_)
     refine ExZ.evH (keep:=[]) ext0_sound (tree:=.done .ret (cst 2 [(0,.c (.ptr 0 0)),(1,listV encPg 7 out)] (ldE D' b))) (by kernel_rfl) ?_
     exact weak_of_eq (by kernel_rfl)
set_option maxRecDepth 100000 in
theorem amend_fn (D:Ld) (ru:ByteArray) (ve:Int) (L:List (ByteArray × ByteArray)) (S T:List Int) (se:Int) (hS:StG D (gKey ru ve (textLb L)) S) (hT:pgOK (⟨0,ru,ve,L,0,se,⟨#[]⟩⟩:Pg)=true→(textLb L).size≤1000000∧ru.size≤1000000∧inR .i64 ve∧L.length≤1000000∧(∀ t∈S,inR .i64 t)∧S.length+T.length≤100000∧D.M.length≤100000) (hTl:T.length≤1000000) (rest:List AO):FnS Try.prog G 17 [.c (.ptr 0 0),.c (.p (.s ru)),iV ve,listV enc2 2 L,listV encI 1 T,iV se] (ldH D rest) fun x h' => x=(lamend D ru ve L S T se).1∧h'=outH [0,1,2,3] [0] [1] (ldH D rest) (ldE (lamend D ru ve L S T se).2 0):=by
 refine fun β R w vs ha hh => (led_fn Try.func17 (by kernel_rfl) (args:=[.c (.p (.s ru)),iV ve,listV enc2 2 L,listV encI 1 T,iV se]) (vs:=[(lamend D ru ve L S T se).1]) (D':=(lamend D ru ve L S T se).2) (fun b => amend_main D ru ve L S T se hS hT hTl rest b _) β R w vs ha hh).mono ?_
 rintro e w' ⟨u,β',R',x,h',rfl,⟨hx,hh'⟩,hr⟩
 refine ⟨u,β',R',x,h',rfl,⟨hx.trans ?_,hh'⟩,hr⟩
 unfold lamend
 cases pgOK (⟨0,ru,ve,L,0,se,⟨#[]⟩⟩:Pg) <;> cases T.all tickZ <;> rfl
end
end Go.AE
namespace Go.AE
set_option linter.unusedVariables false
set_option linter.unusedSimpArgs false
open Go.Proofs Go.Proofs.Ytfjihbmehhccoaa Go.RowKit
def liOf:V→Option (Prop × List Int)
 | .c (.p x) => iOf x
 | _ => none
theorem liOf_le {x:V} {p:Prop} {A:List Int} (h:liOf x=some (p,A)) (hp:p):VLe x (listV encI 1 A):=by
 unfold liOf at h
 split at h
 · exact VLe.p (iOf_le h hp)
 · cases h
def mSameInts:Mod
 | [x,y] => match liOf x,liOf y with
   | some (p,A),some (q,B) => some ((p∧q)∧A.length≤1000000,bV (decide (A=B)))
   | _,_ => none
 | _ => none
def mHas:Mod
 | [x,.c (.p (.i .i64 n))] => match liOf x with
   | some (p,A) => some (p∧A.length≤1000000,bV (decide (n∈A)))
   | _ => none
 | _ => none
theorem tI1 (A B:List Int):exTs ext0 (takeL 4 (pcs Try.prog Try.f27)) (st0 Try.f27 [listV encI 1 A,listV encI 1 B]) (endG (msk 26 [0,1,5]) (resOf Try.prog Try.f27))=bT ((↑A.length:Int) != (↑B.length:Int)) (.done .ret (St.mk [V.c (C.p (PV.b false))] []))
 (.done .normal
 (cst 26 [(0,.c (.p (.l 1 A.length (rowP encI A)))),(1,.c (.p (.l 1 B.length (rowP encI B)))),(5,.c (.p (.i .i64 0)))] [])):=by kernel_rfl
theorem tI2 (A B:List Int) (i:Nat):exTs ext0 (lpB (pcs Try.prog Try.f27) 4) (cst 26 [(0,listV encI 1 A),(1,listV encI 1 B),(5,iV (i:Nat))] []) (endG (msk 26 [0,1,5]) (resOf Try.prog Try.f27))=bT (decide ((↑i:Int)<(↑A.length:Int)))
 (.rq (0≤(↑i:Int)∧(↑i:Int)<(↑A.length:Int))
 (.rq (0≤(↑i:Int)∧(↑i:Int)<(↑B.length:Int))
 (bT (A.getD (↑i:Int).toNat default != B.getD (↑i:Int).toNat default) (.done .ret (St.mk [V.c (C.p (PV.b false))] []))
 (.rq (inR IntKind.i64 ((↑i:Int)+1))
 (.done .normal
 (cst 26 [(0,.c (.p (.l 1 A.length (rowP encI A)))),(1,.c (.p (.l 1 B.length (rowP encI B)))),(5,.c (.p (.i .i64 ((↑i:Int)+1))))] []))))))
 (.done (.exit 0)
 (cst 26 [(0,.c (.p (.l 1 A.length (rowP encI A)))),(1,.c (.p (.l 1 B.length (rowP encI B)))),(5,.c (.p (.i .i64 (↑i:Int))))] [])):=by kernel_rfl
theorem tI3 (A B:List Int) (i:Nat):exTs ext0 (dropL 5 (pcs Try.prog Try.f27)) (cst 26 [(0,listV encI 1 A),(1,listV encI 1 B),(5,iV (i:Nat))] []) (endG [] (resOf Try.prog Try.f27))=Tr.done X.ret (St.mk [V.c (C.p (PV.b true))] []):=by kernel_rfl
theorem tH1 (A:List Int) (n:Int):exTs ext0 (takeL 2 (pcs Try.prog Try.f18)) (st0 Try.f18 [listV encI 1 A,iV n]) (endG (msk 18 [0,1,5]) (resOf Try.prog Try.f18))=Tr.done X.normal
 (cst 18 [(0,.c (.p (.l 1 A.length (rowP encI A)))),(1,.c (.p (.i .i64 n))),(5,.c (.p (.i .i64 0)))] []):=by kernel_rfl
theorem tH2 (A:List Int) (n:Int) (i:Nat):exTs ext0 (lpB (pcs Try.prog Try.f18) 2) (cst 18 [(0,listV encI 1 A),(1,iV n),(5,iV (i:Nat))] []) (endG (msk 18 [0,1,5]) (resOf Try.prog Try.f18))=bT (decide ((↑i:Int)<(↑A.length:Int)))
 (.rq (0≤(↑i:Int)∧(↑i:Int)<(↑A.length:Int))
 (bT (A.getD (↑i:Int).toNat default == n) (.done .ret (St.mk [V.c (C.p (PV.b true))] []))
 (.rq (inR IntKind.i64 ((↑i:Int)+1))
 (.done .normal
 (cst 18 [(0,.c (.p (.l 1 A.length (rowP encI A)))),(1,.c (.p (.i .i64 n))),(5,.c (.p (.i .i64 ((↑i:Int)+1))))] [])))))
 (.done (.exit 0)
 (cst 18 [(0,.c (.p (.l 1 A.length (rowP encI A)))),(1,.c (.p (.i .i64 n))),(5,.c (.p (.i .i64 (↑i:Int))))] [])):=by kernel_rfl
theorem tH3 (A:List Int) (n:Int) (i:Nat):exTs ext0 (dropL 3 (pcs Try.prog Try.f18)) (cst 18 [(0,listV encI 1 A),(1,iV n),(5,iV (i:Nat))] []) (endG [] (resOf Try.prog Try.f18))=Tr.done X.ret (St.mk [V.c (C.p (PV.b false))] []):=by kernel_rfl
end Go.AE
namespace Go.AE
set_option linter.unusedVariables false
set_option linter.unusedSimpArgs false
open Go.Proofs Go.Proofs.Ytfjihbmehhccoaa Go.RowKit
section
variable {G:Nat→Option Obj}
set_option maxRecDepth 100000 in
theorem okSameInts:ModOK Try.prog G 27 mSameInts:=by
 intro args p v hm hp h
 unfold mSameInts at hm
 split at hm;rotate_left;· cases hm
 split at hm;rotate_left;· cases hm
 rename_i x y _ _ p1 A p2 B hx hy
 obtain ⟨rfl,rfl⟩:=some_pair hm
 obtain ⟨⟨hA,hB⟩,hlen⟩:=hp
 refine FnS.args (args':=[listV encI 1 A,listV encI 1 B]) ?_ (.cons (liOf_le hx hA) (.cons (liOf_le hy hB) .nil))
 clear hA hB hm hx hy
 refine fn_S Try.func27 (by kernel_rfl) rfl ?_ h
 refine ExS.evG ext0_sound 4 (tI1 A B) ?_
 simp only [holds_bT,holds_leaf,kf_ret',kf_normal,bne_iff_ne,bne_eq_false_iff_eq,ne_eq]
 refine ⟨fun h1 => ⟨VLe.of_eq ?_⟩,fun h1 => ⟨?_⟩⟩
 · rw [decide_eq_false (fun e => h1 (by rw [e]))];rfl
 have h1:A.length=B.length:=by omega
 refine ExS.loop' (l:=dropL 4 (pcs Try.prog Try.f27)) (b:=inr (inr (nth .skip (pcs Try.prog Try.f27) 4))) (r:=dropL 5 (pcs Try.prog Try.f27)) (id:=0) (by kernel_rfl) (σ:=Nat)
   (fun i => cst 26 [(0,listV encI 1 A),(1,listV encI 1 B),(5,iV (i:Nat))] []) (fun i => i≤A.length∧A.take i=B.take i) (fun i => A.length - i) 0 ⟨Nat.zero_le _,rfl⟩ (weak_of_eq (by kernel_rfl)) ?_
 rintro i ⟨hi,hc⟩ Q1 q1n q1e -
 refine ExS.evH ext0_sound (tI2 A B i) ?_
 simp only [holds_bT,holds_rq,holds_leaf,kf_ret',kf_normal,kf_exit,decide_eq_true_eq,decide_eq_false_iff_not,bne_iff_ne,bne_eq_false_iff_eq,ne_eq,inR,show (↑i:Int).toNat=i from rfl]
 refine ⟨fun h2 => ⟨by omega,by omega,fun c1 => ⟨VLe.of_eq ?_⟩,fun c1 => ⟨by omega,⟨q1n (i+1) _ ⟨by omega,by rw [takeD (by omega),takeD (by omega),hc,c1]⟩ (by omega) (weak_of_eq (by kernel_rfl))⟩⟩⟩,fun h2 => ⟨q1e _ ?_⟩⟩
 · rw [decide_eq_false (fun e => c1 (by rw [e]))];rfl
 · rw [List.take_of_length_le (by omega),List.take_of_length_le (by omega)] at hc
   refine ExS.evH ext0_sound (tI3 A B i) ?_
   simp only [holds_leaf,kf_ret']
   rw [decide_eq_true hc]
   exact ⟨VLe.refl _⟩
set_option maxRecDepth 100000 in
theorem okHas:ModOK Try.prog G 18 mHas:=by
 intro args p v hm hp h
 unfold mHas at hm
 split at hm;rotate_left;· cases hm
 split at hm;rotate_left;· cases hm
 rename_i x n _ p1 A hx
 obtain ⟨rfl,rfl⟩:=some_pair hm
 obtain ⟨hA,hlen⟩:=hp
 refine FnS.args (args':=[listV encI 1 A,iV n]) ?_ (.cons (liOf_le hx hA) (.cons (.refl _) .nil))
 clear hA hm hx
 refine fn_S Try.func18 (by kernel_rfl) rfl ?_ h
 refine ExS.evG ext0_sound 2 (tH1 A n) ?_
 simp only [holds_bT,holds_leaf,kf_ret',kf_normal]
 refine ⟨?_⟩
 refine ExS.loop' (l:=dropL 2 (pcs Try.prog Try.f18)) (b:=inr (inr (nth .skip (pcs Try.prog Try.f18) 2))) (r:=dropL 3 (pcs Try.prog Try.f18)) (id:=0) (by kernel_rfl) (σ:=Nat)
   (fun i => cst 18 [(0,listV encI 1 A),(1,iV n),(5,iV (i:Nat))] []) (fun i => i≤A.length∧n ∉ A.take i) (fun i => A.length - i) 0 ⟨Nat.zero_le _,by simp⟩ (weak_of_eq (by kernel_rfl)) ?_
 rintro i ⟨hi,hc⟩ Q1 q1n q1e -
 refine ExS.evH ext0_sound (tH2 A n i) ?_
 simp only [holds_bT,holds_rq,holds_leaf,kf_ret',kf_normal,kf_exit,decide_eq_true_eq,decide_eq_false_iff_not,beq_iff_eq,beq_eq_false_iff_ne,ne_eq,inR,show (↑i:Int).toNat=i from rfl]
 refine ⟨fun h2 => ⟨by omega,fun c1 => ⟨VLe.of_eq ?_⟩,fun c1 => ⟨by omega,⟨q1n (i+1) _ ⟨by omega,?_⟩ (by omega) (weak_of_eq (by kernel_rfl))⟩⟩⟩,fun h2 => ⟨q1e _ ?_⟩⟩
 · rw [decide_eq_true (by rw [← c1];exact getD_memI (by omega))];rfl
 · rw [takeD (by omega),List.mem_append]
   rintro (h | h)
   · exact hc h
   · exact c1 (List.mem_singleton.1 h).symm
 · rw [List.take_of_length_le (by omega)] at hc
   refine ExS.evH ext0_sound (tH3 A n i) ?_
   simp only [holds_leaf,kf_ret']
   rw [decide_eq_false hc]
   exact ⟨VLe.refl _⟩
end
end Go.AE
namespace Go.AE
set_option linter.unusedVariables false
set_option linter.unusedSimpArgs false
open Go.Proofs Go.Proofs.Ytfjihbmehhccoaa Go.RowKit
def isLd (D:Ld):List AO→Option (Prop × List AO)
 | .cells 86 [.sl 1 7 0 n,.mp 2,.mp 3]::.row 31 7 n' f::.mapb ok gp::.mapl ok2 3 1 gs none::rest => some (n=D.M.length∧n'=D.M.length∧(∀ e o,e<D.M.length→o<7→f e o=rowC encPg D.M e o)∧ok=okK Try.prog 81∧gp=D.gp∧ok2=okK Try.prog 79∧gs=D.gs,rest)
 | _ => none
noncomputable def mFireD (D:Ld):ModH
 | [.c (.ptr 0 0),x],h => match isLd D h,pgOf x with
   | some (q,rest),some (r,p) => some ((r∧q)∧(p.kd=0→pgOK p=true→Fits D p),iV (lfire D p).1,outH [0,1,2,3] [0] [1] (ldH D rest) (ldE (lfire D p).2 0))
   | _,_ => none
 | _,_ => none
theorem isLd_eq {D:Ld} {h rest:List AO} {q:Prop} (he:isLd D h=some (q,rest)) (hq:q):∃ f,h=.cells 86 [.sl 1 7 0 D.M.length,.mp 2,.mp 3]::.row 31 7 D.M.length f::.mapb (okK Try.prog 81) D.gp::.mapl (okK Try.prog 79) 3 1 D.gs none::rest∧∀ e o,e<D.M.length→o<7→f e o=rowC encPg D.M e o:=by
 unfold isLd at he
 split at he;rotate_left;· cases he
 injection he with he
 injection he with e1 e2
 subst e1;subst e2
 obtain ⟨rfl,rfl,hf,rfl,rfl,rfl,rfl⟩:=hq
 exact ⟨_,rfl,hf⟩
section
variable {G:Nat→Option Obj}
theorem FnS.heapEq {P:Program} {f:FuncId} {args:List V} {h h':List AO} {K:V→List AO→Prop} (he:∀ (β:Bt) (R:Nat→Prop) (w:World),HS G β R w h→HS G β R w h') (hl:h'.length=h.length) (hf:FnS P G f args h' K):FnS P G f args h K:=by
 intro β R w vs ha hh
 refine (hf β R w vs ha (he β R w hh)).mono ?_
 rintro e w' ⟨u,β2,R2,x,h3,q1,q2,q3,q4,q5,q6⟩
 exact ⟨u,β2,R2,x,h3,q1,q2,q3,q4,q5,fun i hi => q6 i (by omega)⟩
theorem FnS.ledger {D:Ld} {h rest:List AO} {q:Prop} (he:isLd D h=some (q,rest)) (hq:q) {f:FuncId} {args:List V} {K:V→List AO→Prop} (hf:FnS Try.prog G f args (ldH D rest) K):FnS Try.prog G f args h K:=by
 obtain ⟨g,rfl,hg⟩:=isLd_eq he hq
 refine FnS.heapEq (h':=ldH D rest) (fun β R w hh => ?_) rfl hf
 have:=hs_sameS hh (id:=1) (ty:=31) (sz:=7) (n:=D.M.length) (f:=g) (f':=rowC encPg D.M) rfl hg
 exact this
theorem okFireD (D:Ld):ModHOK Try.prog G 25 (mFireD D):=by
 intro args h p v h' hm hp
 unfold mFireD at hm
 split at hm;rotate_left;· cases hm
 split at hm;rotate_left;· cases hm
 rename_i x _ _ _ q rest r a hl hx
 obtain ⟨rfl,rfl,rfl⟩:=some_three hm
 obtain ⟨⟨hr,hq⟩,hF⟩:=hp
 exact FnS.ledger hl hq (FnS.args (args':=[.c (.ptr 0 0),pgV a]) (fire_fn D a hF rest) (.cons (.refl _) (.cons (pgOf_le hx hr) .nil)))
end
end Go.AE
namespace Go.AE
set_option linter.unusedVariables false
set_option linter.unusedSimpArgs false
open Go.Proofs Go.Proofs.Ytfjihbmehhccoaa Go.RowKit
def leI:V→List Int→Option Prop
 | .c (.p (.l 1 n f)),W => some (IsL encI 1 W n f)
 | .c (.p (.z (.slice none 0 0))),W => some (W=[])
 | _,_ => none
theorem leI_le {x:V} {W:List Int} {p:Prop} (h:leI x W=some p) (hp:p):VLe x (listV encI 1 W):=by
 unfold leI at h
 split at h
 · injection h with h
   subst h
   exact hp.le
 · injection h with h
   subst h
   subst hp
   exact VLe.p (PLe.nil 1 _)
 · cases h
noncomputable def mAmendX (D:Ld) (S T:List Int) (out:List Pg) (D':Ld):ModH
 | [.c (.ptr 0 0),.c (.p (.s ru)),.c (.p (.i .i64 ve)),x,y,.c (.p (.i .i64 se))],h => match isLd D h,lbOf x,leI y T with
   | some (q,rest),some (r,L),some s => some (((r∧q)∧s)∧StG D (gKey ru ve (textLb L)) S∧((textLb L).size≤1000000∧ru.size≤1000000∧inR .i64 ve∧L.length≤1000000∧(∀ t∈S,inR .i64 t)∧S.length+T.length≤100000∧D.M.length≤100000)∧lamend D ru ve L S T se=(listV encPg 7 out,D'),listV encPg 7 out,outH [0,1,2,3] [0] [1] (ldH D rest) (ldE D' 0))
   | _,_,_ => none
 | _,_ => none
noncomputable def mValidX (D:Ld) (S out:List Int):ModH
 | [.c (.ptr 0 0),.c (.p (.s ru)),.c (.p (.i .i64 ve)),x],h => match isLd D h,lbOf x with
   | some (q,rest),some (r,L) => some ((r∧q)∧StG D (gKey ru ve (textLb L)) S∧((textLb L).size≤1000000∧ru.size≤1000000∧inR .i64 ve∧(∀ t∈S,inR .i64 t)∧S.length≤1000000)∧lvalid D ru ve L S=listV encI 1 out,listV encI 1 out,outH [0,1,2,3] [0] [1] (ldH D rest) (ldE D 0))
   | _,_ => none
 | _,_ => none
def mSameX (U W:List Int):Mod
 | [x,y] => match leI x U,leI y W with
   | some p,some q => some ((p∧q)∧U.length≤1000000,bV (decide (U=W)))
   | _,_ => none
 | _ => none
section
variable {G:Nat→Option Obj}
theorem okAmendX (D:Ld) (S T:List Int) (out:List Pg) (D':Ld):ModHOK Try.prog G 17 (mAmendX D S T out D'):=by
 intro args h p v h' hm hp
 unfold mAmendX at hm
 split at hm;rotate_left;· cases hm
 split at hm;rotate_left;· cases hm
 rename_i ru ve x y se _ _ _ q rest r L s hl hx hy
 obtain ⟨rfl,rfl,rfl⟩:=some_three hm
 obtain ⟨⟨⟨hr,hq⟩,hs⟩,hS,hT,he⟩:=hp
 have:=amend_fn (G:=G) D ru ve L S T se hS (fun _ => hT) (by have:=hT.2.2.2.2.2.1;omega) rest
 rw [he] at this
 exact FnS.ledger hl hq (FnS.args (args':=[.c (.ptr 0 0),.c (.p (.s ru)),iV ve,listV enc2 2 L,listV encI 1 T,iV se]) this (.cons (.refl _) (.cons (.refl _) (.cons (.refl _) (.cons (lbOf_le hx hr) (.cons (leI_le hy hs) (.cons (.refl _) .nil)))))))
theorem okValidX (D:Ld) (S out:List Int):ModHOK Try.prog G 16 (mValidX D S out):=by
 intro args h p v h' hm hp
 unfold mValidX at hm
 split at hm;rotate_left;· cases hm
 split at hm;rotate_left;· cases hm
 rename_i ru ve x _ _ q rest r L hl hx
 obtain ⟨rfl,rfl,rfl⟩:=some_three hm
 obtain ⟨⟨hr,hq⟩,hS,⟨t1,t2,t3,t4,t5⟩,he⟩:=hp
 have:=valid_fn (G:=G) D ru ve L S hS (fun _ => ⟨t1,okGr_of _ _ _ t2 t3 t1,fun t ht => okMu_of _ _ _ _ t2 t3 t1 (t4 t ht),t5⟩) rest
 rw [he] at this
 exact FnS.ledger hl hq (FnS.args (args':=[.c (.ptr 0 0),.c (.p (.s ru)),iV ve,listV enc2 2 L]) this (.cons (.refl _) (.cons (.refl _) (.cons (.refl _) (.cons (lbOf_le hx hr) .nil)))))
theorem okSameX (U W:List Int):ModOK Try.prog G 27 (mSameX U W):=by
 intro args p v hm hp h
 unfold mSameX at hm
 split at hm;rotate_left;· cases hm
 split at hm;rotate_left;· cases hm
 rename_i x y _ _ p q hx hy
 obtain ⟨rfl,rfl⟩:=some_pair hm
 obtain ⟨⟨hA,hB⟩,hlen⟩:=hp
 refine FnS.args (args':=[listV encI 1 U,listV encI 1 W]) ?_ (.cons (leI_le hx hA) (.cons (leI_le hy hB) .nil))
 have:=okSameInts (G:=G) [listV encI 1 U,listV encI 1 W] _ _ rfl ⟨⟨by rw [decI_row];exact isL_row _ _ _,by rw [decI_row];exact isL_row _ _ _⟩,by rw [decI_row];exact hlen⟩ h
 rw [decI_row,decI_row] at this
 exact this
end
noncomputable def extFr (D:Ld):Ext:=extH [(20,mNew),(25,mFireD D)]
noncomputable def extAe (D:Ld) (S T:List Int) (out:List Pg) (D':Ld):Ext:=extH [(17,frzAH (mAmendX D S T out D'))]
noncomputable def extVd (D:Ld) (S U:List Int):Ext:=extH [(16,mValidX D S U),(27,frzA (mSameX U [3,8]))]
theorem tL1 (u:Unit):exTs (extFr ld0) (takeL 5 (pcs Try.prog Try.f19)) (st0 Try.f19 []) (endG (msk 79 [1,2]) (resOf Try.prog Try.f19))=Tr.rq True
 (.done .normal
 (cst 79 [(1,.c (.ptr 0 0)),(2,.c (.ptr 1 0))] [.cells 86 [.sl 2 7 0 0,.mp 3,.mp 4],.cells 31 [.p (.i .i64 0),.p (.s (ByteArray.mk #[104,111,116])),.p (.i .i64 1),.p (.z (Value.slice none 0 0)),.p (.i .i64 5),.p (.i .i64 6),.p (.s (ByteArray.mk #[]))],.row 31 7 0 fun e o => renC [0,4,1,2,3] (C.p (rowP encPg ld0.M e o)),.mapb (okK Try.prog 81) ld0.gp,.mapl (okK Try.prog 79) 3 1 ld0.gs none])):=by kernel_rfl
theorem tL2 (D:Ld):exTs (extFr D) (takeL 1 (dropL 5 (pcs Try.prog Try.f19))) (cst 79 [(1,.c (.ptr 0 0)),(2,.c (.ptr 4 0))] (ldH D [.cells 31 [.p (.i .i64 0),.p (.s ⟨#[104,111,116]⟩),.p (.i .i64 1),.p (.z (.slice none 0 0)),.p (.i .i64 5),.p (.i .i64 6),.p (.s ⟨#[]⟩)]])) (endG (msk 79 [1,2,3]) (resOf Try.prog Try.f19))=Tr.rq
 ((True ∧
 D.M.length=D.M.length ∧
 D.M.length=D.M.length ∧
 (∀ (e o:Nat),e<D.M.length→o<7→rowC encPg D.M e o=rowC encPg D.M e o)∧okK Try.prog 81=okK Try.prog 81∧D.gp=D.gp∧okK Try.prog 79=okK Try.prog 79∧D.gs=D.gs) ∧
 ((Pg.mk 0 (ByteArray.mk #[104,111,116]) 1 [] 5 6 (ByteArray.mk #[])).kd=0 →
 pgOK (Pg.mk 0 (ByteArray.mk #[104,111,116]) 1 [] 5 6 (ByteArray.mk #[]))=true→Fits D (Pg.mk 0 (ByteArray.mk #[104,111,116]) 1 [] 5 6 (ByteArray.mk #[]))))
 (.done .normal
 (cst 79 [(1,.c (.ptr 0 0)),(2,.c (.ptr 1 0)),(3,.c (.p (.i .i64 (lfire D (Pg.mk 0 (ByteArray.mk #[104,111,116]) 1 [] 5 6 (ByteArray.mk #[]))).fst)))] [.cells 86 [.sl 2 7 0 (lfire D (Pg.mk 0 (ByteArray.mk #[104,111,116]) 1 [] 5 6 (ByteArray.mk #[]))).snd.M.length,.mp 3,.mp 4],.cells 31 [.p (.i .i64 0),.p (.s (ByteArray.mk #[104,111,116])),.p (.i .i64 1),.p (.z (Value.slice none 0 0)),.p (.i .i64 5),.p (.i .i64 6),.p (.s (ByteArray.mk #[]))],.row 31 7 (lfire D (Pg.mk 0 (ByteArray.mk #[104,111,116]) 1 [] 5 6 (ByteArray.mk #[]))).snd.M.length fun e o => renC [0,4,7,8,9] (C.p (rowP encPg (lfire D (Pg.mk 0 (ByteArray.mk #[104,111,116]) 1 [] 5 6 (ByteArray.mk #[]))).snd.M e o)),.mapb (okK Try.prog 81) (lfire D (Pg.mk 0 (ByteArray.mk #[104,111,116]) 1 [] 5 6 (ByteArray.mk #[]))).snd.gp,.mapl (okK Try.prog 79) 3 1 (lfire D (Pg.mk 0 (ByteArray.mk #[104,111,116]) 1 [] 5 6 (ByteArray.mk #[]))).snd.gs none])):=by kernel_rfl
theorem tL3 (D:Ld) (a:Int):exTs (extFr D) (takeL 1 (dropL 1 (dropL 5 (pcs Try.prog Try.f19)))) (cst 79 [(1,.c (.ptr 0 0)),(2,.c (.ptr 4 0)),(3,iV a)] (ldH D [.cells 31 [.p (.i .i64 0),.p (.s ⟨#[104,111,116]⟩),.p (.i .i64 1),.p (.z (.slice none 0 0)),.p (.i .i64 5),.p (.i .i64 6),.p (.s ⟨#[]⟩)]])) (endG (msk 79 [1,2,3,4]) (resOf Try.prog Try.f19))=Tr.rq
 ((True ∧
 D.M.length=D.M.length ∧
 D.M.length=D.M.length ∧
 (∀ (e o:Nat),e<D.M.length→o<7→rowC encPg D.M e o=rowC encPg D.M e o)∧okK Try.prog 81=okK Try.prog 81∧D.gp=D.gp∧okK Try.prog 79=okK Try.prog 79∧D.gs=D.gs) ∧
 ((Pg.mk 0 (ByteArray.mk #[104,111,116]) 1 [] 5 6 (ByteArray.mk #[])).kd=0 →
 pgOK (Pg.mk 0 (ByteArray.mk #[104,111,116]) 1 [] 5 6 (ByteArray.mk #[]))=true→Fits D (Pg.mk 0 (ByteArray.mk #[104,111,116]) 1 [] 5 6 (ByteArray.mk #[]))))
 (.done .normal
 (cst 79 [(1,.c (.ptr 0 0)),(2,.c (.ptr 1 0)),(3,.c (.p (.i .i64 a))),(4,.c (.p (.i .i64 (lfire D (Pg.mk 0 (ByteArray.mk #[104,111,116]) 1 [] 5 6 (ByteArray.mk #[]))).fst)))] [.cells 86 [.sl 2 7 0 (lfire D (Pg.mk 0 (ByteArray.mk #[104,111,116]) 1 [] 5 6 (ByteArray.mk #[]))).snd.M.length,.mp 3,.mp 4],.cells 31 [.p (.i .i64 0),.p (.s (ByteArray.mk #[104,111,116])),.p (.i .i64 1),.p (.z (Value.slice none 0 0)),.p (.i .i64 5),.p (.i .i64 6),.p (.s (ByteArray.mk #[]))],.row 31 7 (lfire D (Pg.mk 0 (ByteArray.mk #[104,111,116]) 1 [] 5 6 (ByteArray.mk #[]))).snd.M.length fun e o => renC [0,4,7,8,9] (C.p (rowP encPg (lfire D (Pg.mk 0 (ByteArray.mk #[104,111,116]) 1 [] 5 6 (ByteArray.mk #[]))).snd.M e o)),.mapb (okK Try.prog 81) (lfire D (Pg.mk 0 (ByteArray.mk #[104,111,116]) 1 [] 5 6 (ByteArray.mk #[]))).snd.gp,.mapl (okK Try.prog 79) 3 1 (lfire D (Pg.mk 0 (ByteArray.mk #[104,111,116]) 1 [] 5 6 (ByteArray.mk #[]))).snd.gs none])):=by kernel_rfl
theorem tL4 (D D':Ld) (S T:List Int) (out:List Pg) (a b:Int):exTs (extAe D S T out D') (takeL 1 (dropL 1 (dropL 1 (dropL 5 (pcs Try.prog Try.f19))))) (cst 79 [(1,.c (.ptr 0 0)),(2,.c (.ptr 4 0)),(3,iV a),(4,iV b)] (ldH D [.cells 31 [.p (.i .i64 0),.p (.s ⟨#[104,111,116]⟩),.p (.i .i64 1),.p (.z (.slice none 0 0)),.p (.i .i64 5),.p (.i .i64 6),.p (.s ⟨#[]⟩)]])) (endG (msk 79 [1,2,3,4,5]) (resOf Try.prog Try.f19))=Tr.rq
 ((conVs 5 1 3
 [V.c (C.ptr 0 0),V.c (C.p (PV.s (ByteArray.mk #[104,111,116]))),V.c (C.p (PV.i IntKind.i64 1)),V.c (C.p (PV.z (Value.slice none 0 0))),V.c (C.sl 5 1 0 3),
 V.c (C.p (PV.i IntKind.i64 9))] ∧
 ∀ (e o:Nat),e<3→o<1→isF (nth C.top [C.p (PV.i IntKind.i64 8),C.p (PV.i IntKind.i64 8),C.p (PV.i IntKind.i64 3)] (e * 1+o))=true) ∧
 ((True ∧
 D.M.length=D.M.length ∧
 D.M.length=D.M.length ∧
 (∀ (e o:Nat),e<D.M.length→o<7→rowC encPg D.M e o=rowC encPg D.M e o)∧okK Try.prog 81=okK Try.prog 81∧D.gp=D.gp∧okK Try.prog 79=okK Try.prog 79∧D.gs=D.gs) ∧
 IsL encI 1 T 3 fun e o => unP (bslF [C.p (PV.i IntKind.i64 8),C.p (PV.i IntKind.i64 8),C.p (PV.i IntKind.i64 3)] 1 3 (e+0) o)) ∧
 StG D (gKey (ByteArray.mk #[104,111,116]) 1 (textLb [])) S ∧
 (2≤1000000∧3≤1000000∧inR IntKind.i64 1∧0≤1000000∧(∀ (t:Int),t∈S→inR IntKind.i64 t)∧S.length+T.length≤100000∧D.M.length≤100000) ∧
 lamend D (ByteArray.mk #[104,111,116]) 1 [] S T 9=(listV encPg 7 out,D'))
 (.done .normal
 (cst 79 [(1,.c (.ptr 0 0)),(2,.c (.ptr 1 0)),(3,.c (.p (.i .i64 a))),(4,.c (.p (.i .i64 b))),(5,.c (.p (.l 7 out.length (rowP encPg out))))] [.cells 86 [.sl 2 7 0 D'.M.length,.mp 3,.mp 4],.cells 31 [.p (.i .i64 0),.p (.s (ByteArray.mk #[104,111,116])),.p (.i .i64 1),.p (.z (Value.slice none 0 0)),.p (.i .i64 5),.p (.i .i64 6),.p (.s (ByteArray.mk #[]))],.row 31 7 D'.M.length fun e o => renC [0,4,8,9,10] (C.p (rowP encPg D'.M e o)),.mapb (okK Try.prog 81) D'.gp,.mapl (okK Try.prog 79) 3 1 D'.gs none])):=by kernel_rfl
theorem tL5 (D:Ld) (out:List Pg) (a b:Int):exTs (extFr D) (takeL 1 (dropL 1 (dropL 1 (dropL 1 (dropL 5 (pcs Try.prog Try.f19)))))) (cst 79 [(1,.c (.ptr 0 0)),(2,.c (.ptr 4 0)),(3,iV a),(4,iV b),(5,listV encPg 7 out)] (ldH D [.cells 31 [.p (.i .i64 0),.p (.s ⟨#[104,111,116]⟩),.p (.i .i64 1),.p (.z (.slice none 0 0)),.p (.i .i64 5),.p (.i .i64 6),.p (.s ⟨#[]⟩)]])) (endG (msk 79 [1,3,4,5,6]) (resOf Try.prog Try.f19))=Tr.rq
 ((True ∧
 D.M.length=D.M.length ∧
 D.M.length=D.M.length ∧
 (∀ (e o:Nat),e<D.M.length→o<7→rowC encPg D.M e o=rowC encPg D.M e o)∧okK Try.prog 81=okK Try.prog 81∧D.gp=D.gp∧okK Try.prog 79=okK Try.prog 79∧D.gs=D.gs) ∧
 ((Pg.mk 0 (ByteArray.mk #[104,111,116]) 1 [] 5 6 (ByteArray.mk #[])).kd=0 →
 pgOK (Pg.mk 0 (ByteArray.mk #[104,111,116]) 1 [] 5 6 (ByteArray.mk #[]))=true→Fits D (Pg.mk 0 (ByteArray.mk #[104,111,116]) 1 [] 5 6 (ByteArray.mk #[]))))
 (.done .normal
 (cst 79 [(1,.c (.ptr 0 0)),(3,.c (.p (.i .i64 a))),(4,.c (.p (.i .i64 b))),(5,.c (.p (.l 7 out.length (rowP encPg out)))),(6,.c (.p (.i .i64 (lfire D (Pg.mk 0 (ByteArray.mk #[104,111,116]) 1 [] 5 6 (ByteArray.mk #[]))).fst)))] [.cells 86 [.sl 1 7 0 (lfire D (Pg.mk 0 (ByteArray.mk #[104,111,116]) 1 [] 5 6 (ByteArray.mk #[]))).snd.M.length,.mp 2,.mp 3],.row 31 7 (lfire D (Pg.mk 0 (ByteArray.mk #[104,111,116]) 1 [] 5 6 (ByteArray.mk #[]))).snd.M.length fun e o => renC [0,7,8,9] (C.p (rowP encPg (lfire D (Pg.mk 0 (ByteArray.mk #[104,111,116]) 1 [] 5 6 (ByteArray.mk #[]))).snd.M e o)),.mapb (okK Try.prog 81) (lfire D (Pg.mk 0 (ByteArray.mk #[104,111,116]) 1 [] 5 6 (ByteArray.mk #[]))).snd.gp,.mapl (okK Try.prog 79) 3 1 (lfire D (Pg.mk 0 (ByteArray.mk #[104,111,116]) 1 [] 5 6 (ByteArray.mk #[]))).snd.gs none])):=by kernel_rfl
theorem tL6 (D:Ld) (S U:List Int) (out:List Pg) (a b c:Int):exTs (extVd D S U) (dropL 9 (pcs Try.prog Try.f19)) (cst 79 [(1,.c (.ptr 0 0)),(3,iV a),(4,iV b),(5,listV encPg 7 out),(6,iV c)] (ldH D [])) (endG [] (resOf Try.prog Try.f19))=bT (a == 0)
 (bT (b == 10)
 (bT (c == 20)
 (bT ((↑out.length:Int) == 3)
 (.rq (Int.ofNat 0≤Int.ofNat 0∧0<(↑out.length:Int))
 (bT ((out.getD 0 default).kd == 2)
 (.rq (Int.ofNat 0≤Int.ofNat 0∧0<(↑out.length:Int))
 (bT ((out.getD 0 default).st == 3)
 (.rq (Int.ofNat 0≤Int.ofNat 1∧1<(↑out.length:Int))
 (bT ((out.getD 1 default).kd == 1)
 (.rq (Int.ofNat 0≤Int.ofNat 1∧1<(↑out.length:Int))
 (bT ((out.getD 1 default).st == 5)
 (.rq (Int.ofNat 0≤Int.ofNat 2∧2<(↑out.length:Int))
 (bT ((out.getD 2 default).st == 8)
 (.rq
 ((True ∧
 D.M.length=D.M.length ∧
 D.M.length=D.M.length ∧
 (∀ (e o:Nat),e<D.M.length→o<7→rowC encPg D.M e o=rowC encPg D.M e o) ∧
 okK Try.prog 81=okK Try.prog 81∧D.gp=D.gp∧okK Try.prog 79=okK Try.prog 79∧D.gs=D.gs) ∧
 StG D (gKey (ByteArray.mk #[104,111,116]) 1 (textLb [])) S ∧
 (2≤1000000∧3≤1000000∧inR IntKind.i64 1∧(∀ (t:Int),t∈S→inR IntKind.i64 t)∧S.length≤1000000) ∧
 lvalid D (ByteArray.mk #[104,111,116]) 1 [] S=listV encI 1 U)
 (.rq
 ((conVs 9 1 2 [V.c (C.p (PV.l 1 U.length (rowP encI U))),V.c (C.sl 9 1 0 2)] ∧
 ∀ (e o:Nat),e<2→o<1→isF (nth C.top [C.p (PV.i IntKind.i64 3),C.p (PV.i IntKind.i64 8)] (e * 1+o))=true) ∧
 (IsL encI 1 U U.length (rowP encI U)∧IsL encI 1 [3,8] 2 fun e o => unP (bslF [C.p (PV.i IntKind.i64 3),C.p (PV.i IntKind.i64 8)] 1 2 (e+0) o)) ∧
 U.length≤1000000)
 (.done .ret (St.mk [V.c (C.p (PV.b (decide (U=[3,8]))))] []))))
 (.done .ret (St.mk [V.c (C.p (PV.b false))] []))))
 (.done .ret (St.mk [V.c (C.p (PV.b false))] []))))
 (.done .ret (St.mk [V.c (C.p (PV.b false))] []))))
 (.done .ret (St.mk [V.c (C.p (PV.b false))] []))))
 (.done .ret (St.mk [V.c (C.p (PV.b false))] []))))
 (.done .ret (St.mk [V.c (C.p (PV.b false))] [])))
 (.done .ret (St.mk [V.c (C.p (PV.b false))] [])))
 (.done .ret (St.mk [V.c (C.p (PV.b false))] [])))
 (.done .ret (St.mk [V.c (C.p (PV.b false))] [])):=by kernel_rfl
end Go.AE
namespace Go.AE
set_option linter.unusedVariables false
set_option linter.unusedSimpArgs false
open Go.Proofs Go.Proofs.Ytfjihbmehhccoaa Go.RowKit
theorem eq_of_lt:∀ {A B:List Int},A.Pairwise (· < ·)→B.Pairwise (· < ·)→(∀ t,t∈A↔t∈B)→A=B
 | [],[],_,_,_ => rfl
 | [],b::B,_,_,h => absurd ((h b).2 (List.mem_cons_self ..)) (by simp)
 | a::A,[],_,_,h => absurd ((h a).1 (List.mem_cons_self ..)) (by simp)
 | a::A,b::B,ha,hb,h => by
   rw [List.pairwise_cons] at ha hb
   have e:a=b:=by
    have h1:=(h a).1 (List.mem_cons_self ..)
    have h2:=(h b).2 (List.mem_cons_self ..)
    rcases List.mem_cons.1 h1 with h1 | h1
    · exact h1
    · rcases List.mem_cons.1 h2 with h2 | h2
      · exact h2.symm
      · have:=ha.1 b h2
        have:=hb.1 a h1
        omega
   subst e
   rw [eq_of_lt ha.2 hb.2 fun t => ⟨fun ht => ?_,fun ht => ?_⟩]
   · rcases List.mem_cons.1 ((h t).1 (List.mem_cons_of_mem _ ht)) with h1 | h1
     · subst h1;exact absurd (ha.1 t ht) (by omega)
     · exact h1
   · rcases List.mem_cons.1 ((h t).2 (List.mem_cons_of_mem _ ht)) with h1 | h1
     · subst h1;exact absurd (hb.1 t ht) (by omega)
     · exact h1
theorem sortI_le (L:List Int):(sortI L).Pairwise (· ≤ ·):=by
 have:=List.pairwise_mergeSort (le:=fun x y:Int => decide (x≤y)) (fun a b c h1 h2 => by simp at *;omega) (fun a b => by simp;omega) L
 unfold sortI
 exact this.imp fun h => by simpa using h
theorem nodup_lt {L:List Int} (h:L.Pairwise (· < ·)):L.Nodup:=h.imp fun h => by omega
theorem sortI_lt {L:List Int} (h:L.Nodup):(sortI L).Pairwise (· < ·):=by
 have h1:=sortI_le L
 have h2:(sortI L).Nodup:=(List.mergeSort_perm L _).nodup_iff.2 h
 exact h1.imp₂ (fun a b h3 (h4:a≠b) => by omega) h2
theorem compU {L:List Int} (hs:L.Pairwise (· ≤ ·)):∀ m,m≤L.length→(Go.Lib.compactUpTo L.toArray m).Pairwise (· < ·)∧(∀ t∈Go.Lib.compactUpTo L.toArray m,∃ j,j<m∧t=L.getD j default)∧∀ j,j<m→L.getD j default∈Go.Lib.compactUpTo L.toArray m
 | 0,_ => ⟨by simp [Go.Lib.compactUpTo],by simp [Go.Lib.compactUpTo],fun j hj => by omega⟩
 | m+1,hm => by
   obtain ⟨h1,h2,h3⟩:=compU hs m (by omega)
   have g:∀ j,j<L.length→L.toArray[j]! = L.getD j default:=fun j hj => by simp [hj]
   have mono:∀ i j,i≤j→j<L.length→L.getD i default≤L.getD j default:=fun i j hij hj => by
    by_cases e:i=j
    · subst e;exact Int.le_refl _
    · have:=(List.pairwise_iff_getElem.1 hs) i j (by omega) hj (by omega)
      simpa [show i<L.length by omega,hj] using this
   rw [Go.Lib.compactUpTo_succ]
   by_cases hk:Go.Lib.keeps L.toArray m=true
   · rw [if_pos hk]
     have hk':m=0∨L.getD m default≠L.getD (m - 1) default:=by
      unfold Go.Lib.keeps at hk
      rw [decide_eq_true_eq,g m (by omega)] at hk
      rcases hk with h | h
      · exact .inl h
      · rw [g (m - 1) (by omega)] at h;exact .inr h
     rw [g m (by omega)]
     refine ⟨List.pairwise_append.2 ⟨h1,List.pairwise_singleton _ _,fun a ha b hb => ?_⟩,fun t ht => ?_,fun j hj => ?_⟩
     · obtain rfl:=List.mem_singleton.1 hb
       obtain ⟨j,hj,rfl⟩:=h2 a ha
       rcases hk' with h | h
       · omega
       · have q1:=mono j (m - 1) (by omega) (by omega)
         have q2:=mono (m - 1) m (by omega) (by omega)
         omega
     · rcases List.mem_append.1 ht with h | h
       · obtain ⟨j,q1,q2⟩:=h2 t h
         exact ⟨j,by omega,q2⟩
       · exact ⟨m,by omega,List.mem_singleton.1 h⟩
     · by_cases e:j=m
       · subst e;simp
       · exact List.mem_append_left _ (h3 j (by omega))
   · rw [if_neg hk,List.append_nil]
     refine ⟨h1,fun t ht => ?_,fun j hj => ?_⟩
     · obtain ⟨j,q1,q2⟩:=h2 t ht
       exact ⟨j,by omega,q2⟩
     · by_cases e:j=m
       · subst e
         have:¬ (j=0∨L.toArray[j]! ≠ L.toArray[j - 1]!):=by
          intro h
          exact hk (by unfold Go.Lib.keeps;exact decide_eq_true h)
         have e0:j≠0:=fun e => this (.inl e)
         have e1:L.toArray[j]! = L.toArray[j - 1]!:=Classical.byContradiction fun h => this (.inr h)
         rw [g j (by omega),g (j - 1) (by omega)] at e1
         rw [e1]
         exact h3 (j - 1) (by omega)
       · exact h3 j (by omega)
theorem compI_lt {L:List Int} (hs:L.Pairwise (· ≤ ·)):(compI L).Pairwise (· < ·):=(compU hs L.length (Nat.le_refl _)).1
theorem compI_mem {L:List Int} (hs:L.Pairwise (· ≤ ·)) (t:Int):t∈compI L↔t∈L:=by
 obtain ⟨_,h2,h3⟩:=compU hs L.length (Nat.le_refl _)
 refine ⟨mem_compI,fun h => ?_⟩
 obtain ⟨j,hj,rfl⟩:=List.getElem_of_mem h
 have:=h3 j hj
 show L[j]∈Go.Lib.compactUpTo L.toArray L.length
 simpa [hj] using this
theorem all_lt (L:List Int):(compI (sortI L)).Pairwise (· < ·):=compI_lt (sortI_le L)
theorem all_mem (L:List Int) (t:Int):t∈compI (sortI L)↔t∈L:=(compI_mem (sortI_le L) t).trans mem_sortI
structure Vw (ru:ByteArray) (ve:Int) (L:List (ByteArray × ByteArray)) (D:Ld) (S:List Int) (pd:Int→Option Bool):Prop where
 st:StG D (gKey ru ve (textLb L)) S
 gp:∀ t,D.gp (mKey ru ve (textLb L) t)=pd t
 dom:∀ t,t∈S↔(pd t).isSome=true
 nd:S.Nodup
def updP (pd:Int→Option Bool) (t:Int) (x:Bool):Int→Option Bool:=fun u => if u=t then some x else pd u
theorem mKey_inj {ru tx:ByteArray} {ve t u:Int}:mKey ru ve tx t=mKey ru ve tx u↔t=u:=by
 unfold mKey
 constructor
 · intro h;simpa using h
 · rintro rfl;rfl
theorem vw_ld0 (ru:ByteArray) (ve:Int) (L:List (ByteArray × ByteArray)):Vw ru ve L ld0 [] fun _ => none :=
 ⟨⟨rfl,fun e o he => absurd he (Nat.not_lt_zero _)⟩,fun _ => rfl,fun t => by simp,List.nodup_nil⟩
variable {ru:ByteArray} {ve:Int} {L:List (ByteArray × ByteArray)} {D:Ld} {S:List Int} {pd:Int→Option Bool}
theorem Vw.add (hv:Vw ru ve L D S pd) (kd st se:Int) (to:ByteArray):∃ S',Vw ru ve L (ladd D ⟨kd,ru,ve,L,st,se,to⟩) S' (updP pd st (kd != 1))∧S'.length≤S.length+1∧∀ t∈S',t∈S∨t=st:=by
 have hgp:∀ t,(ladd D ⟨kd,ru,ve,L,st,se,to⟩).gp (mKey ru ve (textLb L) t)=updP pd st (kd != 1) t:=fun t => by
  show setM D.gp (mKey ru ve (textLb L) st) (kd != 1) (mKey ru ve (textLb L) t)=_
  unfold setM updP
  by_cases e:t=st
  · subst e;simp
  · rw [if_neg (fun h => e (mKey_inj.1 h)),if_neg e,hv.gp]
 cases hs:(D.gp (mKey ru ve (textLb L) st)).isSome with
 | true =>
   refine ⟨S,⟨?_,hgp,fun t => ?_,hv.nd⟩,by omega,fun t ht => .inl ht⟩
   · have e:(ladd D ⟨kd,ru,ve,L,st,se,to⟩).gs=D.gs:=by unfold ladd;dsimp only;rw [hs]
     unfold StG
     rw [e]
     exact hv.st
   · rw [hv.dom]
     unfold updP
     by_cases e:t=st
     · subst e;rw [if_pos rfl];rw [hv.gp] at hs;simp [hs]
     · rw [if_neg e]
 | false =>
   refine ⟨S ++ [st],⟨?_,hgp,fun t => ?_,?_⟩,by simp,fun t ht => by simpa using ht⟩
   · have e:(ladd D ⟨kd,ru,ve,L,st,se,to⟩).gs=gadd D.gs (gKey ru ve (textLb L)) st:=by unfold ladd;dsimp only;rw [hs]
     obtain ⟨h1,h2⟩:=hv.st
     unfold StG
     rw [e]
     unfold gadd
     rw [setG_same]
     refine ⟨by simp [h1],fun e o he ho => ?_⟩
     obtain rfl:o=0:=by omega
     dsimp only
     rw [h1]
     by_cases he2:e<S.length
     · rw [if_pos he2,h2 e 0 he2 (by omega)]
       unfold rowP
       simp [List.getElem?_append_left he2]
     · have:e=S.length:=by simp at he;omega
       subst this
       rw [if_neg (Nat.lt_irrefl _)]
       unfold rowP
       simp [nth,unP,encI]
   · unfold updP
     rw [List.mem_append,hv.dom]
     by_cases e:t=st
     · subst e;simp
     · rw [if_neg e];simp [e]
   · refine List.nodup_append.2 ⟨hv.nd,by simp,fun a ha b hb => ?_⟩
     obtain rfl:=List.mem_singleton.1 hb
     rintro rfl
     have:=(hv.dom a).1 ha
     rw [← hv.gp,hs] at this
     cases this
def flipB (pd:Int→Option Bool) (T:List Int) (t:Int):Bool:=(pd t).getD false != decide (t∈T)
def pdA (pd:Int→Option Bool) (T A:List Int):Int→Option Bool:=fun t => if t∈A∧flipB pd T t=true then some (decide (t∈T)) else pd t
def amPg (ru:ByteArray) (ve:Int) (L:List (ByteArray × ByteArray)) (se:Int) (T:List Int) (t:Int):Pg:=⟨match decide (t∈T) with
 | true => 2
 | false => 1,ru,ve,L,t,se,⟨#[]⟩⟩
theorem amFold_go (T:List Int) (se:Int):∀ (A:List Int) (D:Ld) (out:List Pg) (S:List Int) (pd:Int→Option Bool),Vw ru ve L D S pd→A.Nodup →
  ∃ S',Vw ru ve L (A.foldl (amStep T ru ve L se) (D,out)).1 S' (pdA pd T A)∧(A.foldl (amStep T ru ve L se) (D,out)).2=out ++ (A.filter (flipB pd T)).map (amPg ru ve L se T)∧S'.length≤S.length+A.length∧(∀ t∈S',t∈S∨t∈A)∧(A.foldl (amStep T ru ve L se) (D,out)).1.M.length≤D.M.length+A.length
 | [],D,out,S,pd,hv,_ => ⟨S,by
     have e:pdA pd T []=pd:=by funext t;unfold pdA;simp
     rw [e];exact hv,by simp,by simp,fun t ht => .inl ht,by simp⟩
 | x::A,D,out,S,pd,hv,hA => by
   rw [List.nodup_cons] at hA
   rw [List.foldl_cons]
   cases hf:flipB pd T x with
   | false =>
     have e1:amStep T ru ve L se (D,out) x=(D,out):=by
      unfold amStep
      dsimp only
      rw [hv.gp]
      unfold flipB at hf
      revert hf
      cases (pd x).getD false <;> cases decide (x∈T) <;> intro hf <;> first | rfl | cases hf
     rw [e1]
     obtain ⟨S',h1,h2,h3,h4,h5⟩:=amFold_go T se A D out S pd hv hA.2
     refine ⟨S',?_,?_,by simp;omega,fun t ht => (h4 t ht).imp id (List.mem_cons_of_mem _),by simp;omega⟩
     · have e:pdA pd T (x::A)=pdA pd T A:=by
         funext t
         unfold pdA
         by_cases e:t=x
         · subst e;simp [hf]
         · simp [e]
       rw [e];exact h1
     · rw [h2,List.filter_cons,hf];rfl
   | true =>
     have e1:amStep T ru ve L se (D,out) x=(ladd D (amPg ru ve L se T x),out ++ [amPg ru ve L se T x]):=by
      unfold amStep amPg
      dsimp only
      rw [hv.gp]
      unfold flipB at hf
      revert hf
      cases (pd x).getD false <;> cases decide (x∈T) <;> intro hf <;> first | rfl | cases hf
     rw [e1]
     obtain ⟨S1,k1,k2,k3⟩:=hv.add (amPg ru ve L se T x).kd x se ⟨#[]⟩
     have ek:((amPg ru ve L se T x).kd != 1)=decide (x∈T):=by unfold amPg;dsimp only;cases decide (x∈T) <;> rfl
     rw [ek] at k1
     have hpd:∀ t,t≠x→updP pd x (decide (x∈T)) t=pd t:=fun t ht => by unfold updP;rw [if_neg ht]
     have hfl:∀ t,t≠x→flipB (updP pd x (decide (x∈T))) T t=flipB pd T t:=fun t ht => by unfold flipB;rw [hpd t ht]
     obtain ⟨S',h1,h2,h3,h4,h5⟩:=amFold_go T se A (ladd D (amPg ru ve L se T x)) (out ++ [amPg ru ve L se T x]) S1 _ k1 hA.2
     have hM:(ladd D (amPg ru ve L se T x)).M.length=D.M.length+1:=by unfold ladd;simp
     refine ⟨S',?_,?_,by simp;omega,fun t ht => ?_,by simp;omega⟩
     · have e:pdA pd T (x::A)=pdA (updP pd x (decide (x∈T))) T A:=by
         funext t
         unfold pdA
         by_cases e:t=x
         · subst e
           rw [if_pos ⟨List.mem_cons_self ..,hf⟩,if_neg (fun h => hA.1 h.1)]
           unfold updP
           rw [if_pos rfl]
         · rw [hfl t e,hpd t e]
           simp [e]
       rw [e];exact h1
     · rw [h2,List.filter_cons,hf,List.filter_congr (fun t ht => hfl t (fun e => hA.1 (e ▸ ht)))]
       simp
     · rcases h4 t ht with h | h
       · rcases k3 t h with h | h
         · exact .inl h
         · exact .inr (by rw [h];exact List.mem_cons_self ..)
       · exact .inr (List.mem_cons_of_mem _ h)
def amOut (ru:ByteArray) (ve:Int) (L:List (ByteArray × ByteArray)) (se:Int) (pd:Int→Option Bool) (S T:List Int):List Pg:=((compI (sortI (S ++ T))).filter (flipB pd T)).map (amPg ru ve L se T)
theorem lamend_vw (hv:Vw ru ve L D S pd) (T:List Int) (se:Int) (h1:pgOK ⟨0,ru,ve,L,0,se,⟨#[]⟩⟩=true) (h2:∀ t∈T,tickZ t=true):∃ D' S' pd',lamend D ru ve L S T se=(listV encPg 7 (amOut ru ve L se pd S T),D')∧Vw ru ve L D' S' pd'∧(∀ t,(pd' t).getD false=decide (t∈T))∧(∀ t,(pd t).isSome=true→(pd' t).isSome=true)∧S'.length≤2 * (S.length+T.length)∧(∀ t∈S',t∈S∨t∈T)∧D'.M.length≤D.M.length+S.length+T.length:=by
 have hA:=all_mem (S ++ T)
 have hlen:(compI (sortI (S ++ T))).length≤S.length+T.length:=by
  have:=compI_length (sortI (S ++ T))
  rw [sortI_length,List.length_append] at this
  exact this
 obtain ⟨S',k1,k2,k3,k4,k5⟩:=amFold_go T se (compI (sortI (S ++ T))) D [] S pd hv (nodup_lt (all_lt _))
 refine ⟨_,S',_,?_,k1,fun t => ?_,fun t ht => ?_,by omega,fun t ht => ?_,by omega⟩
 · unfold lamend
   have e:T.all tickZ=true:=List.all_eq_true.2 h2
   rw [h1,e]
   dsimp only
   unfold amFold
   rw [k2]
   rfl
 · unfold pdA
   by_cases e:t∈S ++ T
   · by_cases f:flipB pd T t=true
     · rw [if_pos ⟨(hA t).2 e,f⟩];rfl
     · rw [if_neg (fun h => f h.2)]
       unfold flipB at f
       simpa using f
   · rw [if_neg (fun h => e ((hA t).1 h.1))]
     have e1:t ∉ S:=fun h => e (List.mem_append_left _ h)
     have e2:t ∉ T:=fun h => e (List.mem_append_right _ h)
     rw [hv.dom] at e1
     cases hq:pd t with
     | none => simp [e2]
     | some x => rw [hq] at e1;exact absurd rfl e1
 · unfold pdA
   split
   · rfl
   · exact ht
 · rcases k4 t ht with h | h
   · exact .inl h
   · exact List.mem_append.1 ((hA t).1 h)
theorem lvalid_vw (hv:Vw ru ve L D S pd) (h1:pgOK ⟨0,ru,ve,L,0,0,⟨#[]⟩⟩=true) {B:List Int} (hB:B.Pairwise (· < ·)) (hm:∀ t,t∈B↔(pd t).getD false=true):lvalid D ru ve L S=listV encI 1 B:=by
 unfold lvalid
 rw [h1]
 dsimp only
 congr 1
 have e:pagedS D.gp ru ve (textLb L) S=S.filter fun t => (pd t).getD false:=by
  unfold pagedS
  exact List.filter_congr fun t _ => by rw [hv.gp]
 rw [e]
 refine eq_of_lt (sortI_lt (hv.nd.sublist List.filter_sublist)) hB fun t => ?_
 rw [mem_sortI,List.mem_filter,hm,hv.dom]
 cases pd t <;> simp
theorem lfire_new (hv:Vw ru ve L D S pd) (st se:Int) (to:ByteArray) (h1:pgOK ⟨0,ru,ve,L,st,se,to⟩=true) (h2:pd st=none):lfire D ⟨0,ru,ve,L,st,se,to⟩=(0,ladd D ⟨0,ru,ve,L,st,se,to⟩):=by
 unfold lfire
 dsimp only
 rw [h1,hv.gp,h2]
 rfl
theorem lfire_some (hv:Vw ru ve L D S pd) (st se:Int) (to:ByteArray) (h1:pgOK ⟨0,ru,ve,L,st,se,to⟩=true) (x:Bool) (h2:pd st=some x):lfire D ⟨0,ru,ve,L,st,se,to⟩=(cond x 10 20,D):=by
 unfold lfire
 dsimp only
 rw [h1,hv.gp,h2]
 cases x <;> rfl
end Go.AE
namespace Go.AE
set_option linter.unusedVariables false
set_option linter.unusedSimpArgs false
open Go.Proofs Go.Proofs.Ytfjihbmehhccoaa Go.RowKit
def mLives31:Mod
 | [] => some (True,bV true)
 | _ => none
end Go.AE
namespace Go.AE
set_option linter.unusedVariables false
set_option linter.unusedSimpArgs false
open Go.Proofs Go.Proofs.Ytfjihbmehhccoaa Go.RowKit
theorem hot_name:nameB ⟨#[104,111,116]⟩=true:=by decide
theorem hot_set:validLb []=true:=by decide
theorem hot_ok {kd st se:Int} (h1:tickZ st=true) (h2:tickZ se=true):pgOK ⟨kd,⟨#[104,111,116]⟩,1,[],st,se,⟨#[]⟩⟩=true:=by
 unfold pgOK
 rw [hot_name,hot_set,h1,h2]
 rfl
theorem hot_sz:(⟨#[104,111,116]⟩:ByteArray).size≤1000000:=by decide
theorem hot_tx:(textLb []).size≤1000000:=by decide
theorem tick_of {t:Int} (h1:0≤t) (h2:t≤1048576):tickZ t=true:=by unfold tickZ;simp [h1,h2]
theorem hot_fits {D:Ld} {S:List Int} {pd:Int→Option Bool} (hv:Vw ⟨#[104,111,116]⟩ 1 [] D S pd) (hS:S.length≤1000) (hM:D.M.length≤1000) (kd st se:Int) (to:ByteArray) (hs:inR .i64 st):Fits D ⟨kd,⟨#[104,111,116]⟩,1,[],st,se,to⟩:=by
 have h1:inR .i64 1:=by unfold inR;omega
 refine ⟨okMu_of _ _ _ _ hot_sz h1 hot_tx hs,okGr_of _ _ _ hot_sz h1 hot_tx,hot_tx,Nat.zero_le _,by omega,?_⟩
 have:=hv.st.1
 show (D.gs (gKey ⟨#[104,111,116]⟩ 1 (textLb []))).1≤_
 omega
section
variable {G:Nat→Option Obj}
theorem extFr_sound (D:Ld):SoundExt Try.prog G (extFr D):=extH_sound (by simp;exact ⟨okNew,okFireD D⟩)
theorem extAe_sound (D:Ld) (S T:List Int) (out:List Pg) (D':Ld):SoundExt Try.prog G (extAe D S T out D'):=extH_sound (by simp;exact frzAH_ok (okAmendX D S T out D'))
theorem extVd_sound (D:Ld) (S U:List Int):SoundExt Try.prog G (extVd D S U):=extH_sound (by simp;exact ⟨okValidX D S U,frzA_ok (okSameX U [3,8])⟩)
theorem isL3 (a b c:Int):IsL encI 1 [a,b,c] 3 fun e o => unP (nth C.top [C.p (.i .i64 a),C.p (.i .i64 b),C.p (.i .i64 c)] ((e+0) * 1+o)):=⟨rfl,fun e o he ho => by
 obtain rfl:o=0:=by omega
 have:e=0∨e=1∨e=2:=by omega
 rcases this with rfl | rfl | rfl <;> rfl⟩
theorem isL2 (a b:Int):IsL encI 1 [a,b] 2 fun e o => unP (nth C.top [C.p (.i .i64 a),C.p (.i .i64 b)] ((e+0) * 1+o)):=⟨rfl,fun e o he ho => by
 obtain rfl:o=0:=by omega
 have:e=0∨e=1:=by omega
 rcases this with rfl | rfl <;> rfl⟩
set_option maxRecDepth 100000 in
theorem okLives31:ModOK Try.prog G 19 mLives31:=by
 intro args p v hm hp h
 unfold mLives31 at hm
 split at hm;rotate_left;· cases hm
 obtain ⟨rfl,rfl⟩:=some_pair hm
 have i1:inR .i64 1:=by unfold inR;omega
 have i5:inR .i64 5:=by unfold inR;omega
 have o56:pgOK ⟨0,⟨#[104,111,116]⟩,1,[],5,6,⟨#[]⟩⟩=true:=hot_ok rfl rfl
 have v0:=vw_ld0 ⟨#[104,111,116]⟩ 1 []
 have e1:=lfire_new v0 5 6 ⟨#[]⟩ o56 rfl
 obtain ⟨S1,v1,l1,m1⟩:=v0.add 0 5 6 ⟨#[]⟩
 have n1:(ladd ld0 ⟨0,⟨#[104,111,116]⟩,1,[],5,6,⟨#[]⟩⟩).M.length=1:=rfl
 have f0:=hot_fits v0 (by decide) (by decide) 0 5 6 ⟨#[]⟩ i5
 generalize ladd ld0 ⟨0,⟨#[104,111,116]⟩,1,[],5,6,⟨#[]⟩⟩=D1 at e1 v1 n1
 have hp1:∀ t,updP (fun _ => none) 5 ((0:Int) != 1) t=if t=5 then some true else none:=fun t => rfl
 generalize updP (fun _ => none) 5 ((0:Int) != 1)=pd1 at v1 hp1
 have e2:=lfire_some v1 5 6 ⟨#[]⟩ o56 true (by rw [hp1];rfl)
 have f1:=hot_fits v1 (by simp at l1;omega) (by omega) 0 5 6 ⟨#[]⟩ i5
 obtain ⟨D2,S2,pd2,e3,v2,g2,q2,l2,m2,n2⟩:=lamend_vw v1 [8,8,3] 9 (hot_ok rfl rfl) (by decide)
 have d1:∀ t,t∈S1↔t=5:=fun t => by
  rw [v1.dom,hp1]
  by_cases e:t=5 <;> simp [e]
 have eo:amOut ⟨#[104,111,116]⟩ 1 [] 9 pd1 S1 [8,8,3]=[⟨2,⟨#[104,111,116]⟩,1,[],3,9,⟨#[]⟩⟩,⟨1,⟨#[104,111,116]⟩,1,[],5,9,⟨#[]⟩⟩,⟨2,⟨#[104,111,116]⟩,1,[],8,9,⟨#[]⟩⟩]:=by
  have:compI (sortI (S1 ++ [8,8,3]))=[3,5,8]:=eq_of_lt (all_lt _) (by decide) fun t => by
    rw [all_mem,List.mem_append,d1]
    simp
    omega
  unfold amOut
  rw [this]
  have k3:flipB pd1 [8,8,3] 3=true:=by unfold flipB;rw [hp1];rfl
  have k5:flipB pd1 [8,8,3] 5=true:=by unfold flipB;rw [hp1];rfl
  have k8:flipB pd1 [8,8,3] 8=true:=by unfold flipB;rw [hp1];rfl
  simp only [List.filter_cons,k3,k5,k8,List.filter_nil,if_true,List.map_cons,List.map_nil]
  rfl
 rw [eo] at e3
 obtain ⟨O,hO⟩:∃ O,O=([⟨2,⟨#[104,111,116]⟩,1,[],3,9,⟨#[]⟩⟩,⟨1,⟨#[104,111,116]⟩,1,[],5,9,⟨#[]⟩⟩,⟨2,⟨#[104,111,116]⟩,1,[],8,9,⟨#[]⟩⟩]:List Pg):=⟨_,rfl⟩
 rw [← hO] at e3
 have p25:pd2 5=some false:=by
  have h1:=q2 5 (by rw [hp1];rfl)
  have h2:=g2 5
  revert h1 h2
  cases pd2 5 with
  | none => intro h1;cases h1
  | some x => intro _ h2;cases x with
    | true => exact absurd h2 (by decide)
    | false => rfl
 have e4:=lfire_some v2 5 6 ⟨#[]⟩ o56 false p25
 simp at l1
 have l2':S2.length≤8:=by simp at l2;omega
 have n2':D2.M.length≤5:=by simp at n2;omega
 have f2:=hot_fits v2 (by omega) (by omega) 0 5 6 ⟨#[]⟩ i5
 have e5:lvalid D2 ⟨#[104,111,116]⟩ 1 [] S2=listV encI 1 [3,8]:=lvalid_vw v2 (hot_ok rfl rfl) (by decide) fun t => by
   rw [g2]
   simp
   omega
 have r1:∀ t∈S1,inR .i64 t:=fun t ht => by rw [(d1 t).1 ht];exact i5
 have r2:∀ t∈S2,inR .i64 t:=fun t ht => by
  rcases m2 t ht with h | h
  · exact r1 t h
  · simp at h
    unfold inR
    omega
 refine fn_S Try.func19 (by kernel_rfl) rfl ?_ h
 refine ExS.evG (extFr_sound ld0) 5 (tL1 ()) ?_
 simp only [holds_rq,holds_leaf,kf_normal]
 refine ⟨trivial,⟨?_⟩⟩
 refine ExS.pre ((weak_proj [0,2,3,4,1] (msk 79 [1,2]) (by kernel_rfl) _).trans (weak_of_eq (by kernel_rfl))) (ExS.evG (extFr_sound ld0) 1 (tL2 ld0) ?_)
 simp only [holds_rq,holds_leaf,kf_normal]
 refine ⟨⟨⟨trivial,trivial,trivial,fun _ _ _ _ => trivial,trivial,trivial,trivial,trivial⟩,fun _ _ => f0⟩,⟨?_⟩⟩
 rw [e1]
 refine ExS.pre ((weak_proj [0,2,3,4,1] (msk 79 [1,2,3]) (by kernel_rfl) _).trans (weak_of_eq (by kernel_rfl))) (ExS.evG (extFr_sound D1) 1 (tL3 D1 0) ?_)
 simp only [holds_rq,holds_leaf,kf_normal]
 refine ⟨⟨⟨trivial,trivial,trivial,fun _ _ _ _ => trivial,trivial,trivial,trivial,trivial⟩,fun _ _ => f1⟩,⟨?_⟩⟩
 rw [e2]
 refine ExS.pre ((weak_proj [0,2,3,4,1] (msk 79 [1,2,3,4]) (by kernel_rfl) _).trans (weak_of_eq (by kernel_rfl))) (ExS.evG (extAe_sound D1 S1 [8,8,3] O D2) 1 (tL4 D1 D2 S1 [8,8,3] O 0 10) ?_)
 simp only [holds_rq,holds_leaf,kf_normal]
 refine ⟨⟨⟨⟨trivial,trivial,trivial,trivial,⟨rfl,by decide⟩,trivial,trivial⟩,fun e o he ho => ?_⟩,⟨⟨trivial,trivial,trivial,fun _ _ _ _ => trivial,trivial,trivial,trivial,trivial⟩,isL3 8 8 3⟩,v1.st,⟨by decide,by decide,i1,by decide,r1,by simp;omega,by omega⟩,e3⟩,⟨?_⟩⟩
 · obtain rfl:o=0:=by omega
   have:e=0∨e=1∨e=2:=by omega
   rcases this with rfl | rfl | rfl <;> rfl
 refine ExS.pre ((weak_proj [0,2,3,4,1] (msk 79 [1,2,3,4,5]) (by kernel_rfl) _).trans (weak_of_eq (by kernel_rfl))) (ExS.evG (extFr_sound D2) 1 (tL5 D2 O 0 10) ?_)
 simp only [holds_rq,holds_leaf,kf_normal]
 refine ⟨⟨⟨trivial,trivial,trivial,fun _ _ _ _ => trivial,trivial,trivial,trivial,trivial⟩,fun _ _ => f2⟩,⟨?_⟩⟩
 rw [e4]
 refine ExS.pre (weak_of_eq (by kernel_rfl)) (ExS.evH (extVd_sound D2 S2 [3,8]) (tL6 D2 S2 [3,8] O 0 10 20) ?_)
 subst hO
 simp only [holds_bT,holds_rq,holds_leaf,kf_ret']
 refine ⟨fun _ => ⟨fun _ => ⟨fun _ => ⟨fun _ => ⟨by decide,fun _ => ⟨by decide,fun _ => ⟨by decide,fun _ => ⟨by decide,fun _ => ⟨by decide,fun _ => ⟨⟨⟨trivial,trivial,trivial,fun _ _ _ _ => trivial,trivial,trivial,trivial,trivial⟩,v2.st,⟨by decide,by decide,i1,r2,by omega⟩,e5⟩,⟨⟨⟨trivial,⟨rfl,by decide⟩,trivial⟩,fun e o he ho => ?_⟩,⟨isL_row _ _ _,isL2 3 8⟩,by decide⟩,⟨VLe.of_eq rfl⟩⟩,fun h => absurd h (by decide)⟩,fun h => absurd h (by decide)⟩,fun h => absurd h (by decide)⟩,fun h => absurd h (by decide)⟩,fun h => absurd h (by decide)⟩,fun h => absurd h (by decide)⟩,fun h => absurd h (by decide)⟩,fun h => absurd h (by decide)⟩,fun h => absurd h (by decide)⟩
 obtain rfl:o=0:=by omega
 have:e=0∨e=1:=by omega
 rcases this with rfl | rfl <;> rfl
end
end Go.AE
namespace Go.AE
set_option linter.unusedVariables false
set_option linter.unusedSimpArgs false
open Go.Proofs Go.Proofs.Ytfjihbmehhccoaa Go.RowKit
section
variable {G:Nat→Option Obj}
end
end Go.AE
namespace Go.AE
set_option linter.unusedVariables false
set_option linter.unusedSimpArgs false
open Go.Proofs Go.Proofs.Ytfjihbmehhccoaa Go.RowKit
theorem wf_in {x:Int} (h:(Lit.int .i64 x).wf=true):inR .i64 x:=by
 have:=bounds_i64 h
 exact ⟨this.1,this.2⟩
theorem row_vr {w:World} {a:Option Addr} {len cap:Nat} {zs:List Int} (h:(a=none∧len=0∧cap=0∧zs=[]) ∨
 ∃ x:Addr,a=some x∧len≤cap∧cap≤maxLen∧zs.length=cap∧(∀ i,i<zs.length→w.cell? (x.add i)=some (.int .i64 (zs.getD i 0)))∧∀ n∈zs,(Lit.int .i64 n).wf=true) :
   ∃ L,(∀ t∈L,inR .i64 t)∧L.length≤9223372036854775807∧VR Bt.nil (fun b => b<w.heap.size) w (listV encI 1 L) (.slice a len cap):=by
 rcases h with ⟨rfl,rfl,rfl,rfl⟩ | ⟨x,rfl,h1,h2,h3,h4,h5⟩
 · exact ⟨[],(fun x hx => by cases hx),Nat.zero_le _,none,0,rfl,Nat.le_refl _,Nat.zero_le _,fun h => absurd h (Nat.lt_irrefl 0)⟩
 · have hl:(zs.take len).length=len:=by rw [List.length_take];omega
   refine ⟨zs.take len,fun y hy => wf_in (h5 y (List.mem_of_mem_take hy)),by rw [hl];simp only [maxLen] at h2;omega,some x,cap,by rw [hl],by rw [hl];exact h1,h2,fun hn => ?_⟩
   rw [hl] at hn
   refine ⟨x,rfl,?_,fun e o he ho => ?_⟩
   · have:=World.block_lt_of_cell? w _ (h4 0 (by omega))
     rwa [addr_block] at this
   · rw [hl] at he
     obtain rfl:o=0:=by omega
     refine ⟨_,h4 (e * 1+0) (by omega),?_⟩
     show Value.int .i64 (zs.getD (e * 1+0) 0)=Value.int .i64 ((zs.take len).getD e default)
     simp [he]
end Go.AE
