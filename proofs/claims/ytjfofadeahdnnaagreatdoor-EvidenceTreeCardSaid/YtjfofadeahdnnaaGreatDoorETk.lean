/- Pages: Grp, V1, V2, V4, V5, V6, as far as they are used here. -/
import Derived.Test.YtjfofadeahdnnaaGreatDoorRows
import Derived.Test.YtjfofadeahdnnaaGreatDoorETh
import Derived.ProofKit
import Derived.OpenShut
import Derived.Lib.LaidTab
import Derived.Test.YtjfofadeahdnnaaGreatDoorETe
import Derived.Test.YtjfofadeahdnnaaGreatDoorETi
import Derived.Test.YtjfofadeahdnnaaGreatDoorETj
namespace Go.CE
noncomputable def gw : List C := [.f (.s [115, 117, 109]), .f (.s [109, 105, 110]), .f (.s [109, 97, 120]), .f (.s [99, 111, 117, 110, 116]), .f (.s [107, 116, 104])]
end Go.CE
namespace Go.Proofs.YtjfofadeahdnnaaGreatDoor
open Go.ChangeShapes Go.WideShapes Go.ChangeAt Go.RowKit
theorem gGrp : Tryz.prog.globalNamed "intervalmon/parser.groupWords" = some 0 := by kernel_rfl
theorem gGrpType : (Tryz.prog.globals[0]?).map (·.type) = some 314 := by kernel_rfl
theorem cellsStr1 : Tryz.prog.cellsOf 9 = 1 := by kernel_rfl
def GrpW (W : World) : Prop := ∃ o, W.heap[0]? = some o ∧ Go.CE.GlbOK o Go.CE.gw
theorem grp_of_laid {W : World} (h : laidMetH Tryz.prog [("intervalmon/parser.groupWords", Rows.laid_intervalmon_parser_groupWords)] W) : GrpW W := by
  obtain ⟨ps, ⟨g', t', cs, fuel, p, q, hg', ht', hvar, hd, _, _⟩, _⟩ := h
  obtain rfl := Option.some.inj (gGrp.symm.trans hg')
  obtain rfl := Option.some.inj (gGrpType.symm.trans ht')
  obtain ⟨xs, m, _, ex, hlc, hl, hel⟩ := DataW.trod_array Tryz.underlying314 hd
  simp only [Prod.mk.injEq] at ex
  have hdat : xs.map (·.1) = [DataW.lit (.string [115, 117, 109]), .lit (.string [109, 105, 110]), .lit (.string [109, 97, 120]), .lit (.string [99, 111, 117, 110, 116]), .lit (.string [107, 116, 104])] := by
    have := ex.1
    unfold Rows.laid_intervalmon_parser_groupWords at this
    injection this with this
    exact this.symm
  rw [cellsStr1] at hel
  have key : ∀ (i : Nat) (bs : List UInt8), i < 5 → (xs.map (·.1))[i]? = some (DataW.lit (.string bs)) → ∃ s : ByteArray, cs[i]? = some (.string s) ∧ s.data.toList = bs := by
    intro i bs hi hz
    have hi' : i < xs.length := by omega
    have h1 := hel i hi
    rw [List.getElem?_map, List.getElem?_eq_getElem hi'] at hz
    rw [List.getElem?_eq_getElem hi'] at h1
    have hz' : (xs[i]).1 = DataW.lit (.string bs) := by injection hz
    obtain ⟨s, e1, e2, _⟩ := DataW.trod_string Tryz.underlying9 h1
    refine ⟨s, ?_, ?_⟩
    · have := congrArg (·[0]?) e1
      simpa [List.getElem?_take, List.getElem?_drop] using this
    · rw [e2] at hz'
      injection hz' with hz'
      injection hz'
  rw [hdat] at key
  have hv : ∃ ty fz, W.heap[0]? = some (.cells cs ty fz) := by
    unfold World.var? at hvar
    rw [gGrp] at hvar
    simp only [Option.bind_some] at hvar
    split at hvar
    · rename_i c t f e; cases hvar; exact ⟨_, _, e⟩
    · cases hvar
  obtain ⟨ty, fz, hv⟩ := hv
  refine ⟨_, hv, cs, ty, fz, rfl, ?_, ?_⟩
  · obtain ⟨s, h1, _⟩ := key 4 _ (by omega) rfl
    have := (Array.getElem?_eq_some_iff.1 h1).1
    show 5 ≤ cs.size
    omega
  · intro k c hc
    have fin : ∀ (i : Nat) (bs : List UInt8), i < 5 → (∃ s : ByteArray, cs[i]? = some (.string s) ∧ s.data.toList = bs) → ∃ u, cs[i]? = some u ∧ Go.CE.CR Go.CE.Bt.nil (.f (.s (bs.map UInt8.toNat))) u := fun i bs hi ⟨s, h1, h2⟩ => ⟨_, h1, s, rfl, by rw [h2]⟩
    have hk : k = 0 ∨ k = 1 ∨ k = 2 ∨ k = 3 ∨ k = 4 := by
      have : k < 5 := (List.getElem?_eq_some_iff.1 hc).1
      omega
    rcases hk with rfl | rfl | rfl | rfl | rfl <;> cases hc
    · exact fin 0 _ (by omega) (key 0 _ (by omega) rfl)
    · exact fin 1 _ (by omega) (key 1 _ (by omega) rfl)
    · exact fin 2 _ (by omega) (key 2 _ (by omega) rfl)
    · exact fin 3 _ (by omega) (key 3 _ (by omega) rfl)
    · exact fin 4 _ (by omega) (key 4 _ (by omega) rfl)
end Go.Proofs.YtjfofadeahdnnaaGreatDoor
namespace Go.AE
set_option linter.unusedVariables false
set_option linter.unusedSimpArgs false
open Go.Proofs Go.Proofs.YtjfofadeahdnnaaGreatDoor
def u6V (n : Int) : V := .c (.p (.i .u64 n))
def encU (x : Int) (_ : Nat) : PV := .i .u64 x
def decU (f : Nat → PV) : Int := intOfP (f 0)
def pairZ (a b : Int) : Int := sumI (wordsF (PlainAid.bt ⟨#[112, 97, 105, 114]⟩) 4 1) 4 [toI a, toI b]
def mPair : Mod
  | [.c (.p (.i .u64 a)), .c (.p (.i .u64 b))] => some (True, u6V (pairZ a b))
  | _ => none
def stepZ (h i x : Int) : Int := if i % 2 = 0 then pairZ h x else pairZ x h
def foldZ (h i : Int) : List Int → Int
  | [] => h
  | x :: r => foldZ (stepZ h i x) (i / 2) r
def uOf : PV → Option (Prop × List Int)
  | .l sz n f => match Nat.beq sz 1 with
    | true => some (IsL encU 1 (decL decU n f) n f, decL decU n f)
    | false => none
  | .z (.slice none 0 0) => some (True, [])
  | _ => none
def luOf : V → Option (Prop × List Int)
  | .c (.p x) => uOf x
  | _ => none
def mFold : Mod
  | [.c (.p (.i .u64 h)), .c (.p (.i .i64 i)), x] => match luOf x with
    | some (p, L) => some (p ∧ inR .i64 i ∧ L.length ≤ 1000000, u6V (foldZ h i L))
    | _ => none
  | _ => none
def extPa : Ext := extOf [(23, mPair)]
theorem tFo1 (h i : Int) (L : List Int) : exTs extPa (takeL 3 (pcs Tryz.prog Tryz.f10)) (st0 Tryz.f10 [u6V h, iV i, listV encU 1 L]) (endG (msk 34 [1, 7, 12, 13, 14]) (resOf Tryz.prog Tryz.f10)) = Tr.done X.normal
 (cst 34 [(1, .c (.p (.i .i64 i))), (7, .c (.p (.i IntKind.u64 h))), (12, .c (.p (.l 1 L.length (rowP encU L)))), (13, .c (.p (.i .i64 (↑L.length : Int)))), (14, .c (.p (.i .i64 0)))] []) := by kernel_rfl
theorem tFo2 (h i : Int) (L : List Int) (k : Nat) : exTs extPa (lpB (pcs Tryz.prog Tryz.f10) 3) (cst 34 [(1, iV i), (7, u6V h), (12, listV encU 1 L), (13, iV (L.length : Nat)), (14, iV (k : Nat))] []) (endG (msk 34 [1, 7, 12, 13, 14]) (resOf Tryz.prog Tryz.f10)) = bT (decide ((↑k : Int) < (↑L.length : Int)))
 (.rq (0 ≤ (↑k : Int) ∧ (↑k : Int) < (↑L.length : Int))
 (.rq (0 ≤ IntKind.i64.wrap (↑(BitVec.ofInt 64 i &&& BitVec.ofInt 64 1).toNat : Int) ∧ IntKind.i64.wrap (↑(BitVec.ofInt 64 i &&& BitVec.ofInt 64 1).toNat : Int) < (↑2 : Int))
 (bT (decide (IntKind.i64.wrap (↑(BitVec.ofInt 64 i &&& BitVec.ofInt 64 1).toNat : Int) = (↑0 : Int)))
 (.rq True
 (.rq (Int.ofNat 0 ≤ Int.ofNat 1)
 (.rq (inR IntKind.i64 ((↑k : Int) + 1))
 (.done .normal
 (cst 34 [(1, .c (.p (.i .i64 (i.fdiv (2 ^ min (Int.toNat 1) IntKind.i64.bits))))), (7, .c (.p (.i IntKind.u64 (pairZ h (L.getD (↑k : Int).toNat default))))), (12, .c (.p (.l 1 L.length (rowP encU L)))), (13, .c (.p (.i .i64 (↑L.length : Int)))), (14, .c (.p (.i .i64 ((↑k : Int) + 1))))] [])))))
 (.rq True
 (.rq (Int.ofNat 0 ≤ Int.ofNat 1)
 (.rq (inR IntKind.i64 ((↑k : Int) + 1))
 (.done .normal
 (cst 34 [(1, .c (.p (.i .i64 (i.fdiv (2 ^ min (Int.toNat 1) IntKind.i64.bits))))), (7, .c (.p (.i IntKind.u64 (pairZ (L.getD (↑k : Int).toNat default) h)))), (12, .c (.p (.l 1 L.length (rowP encU L)))), (13, .c (.p (.i .i64 (↑L.length : Int)))), (14, .c (.p (.i .i64 ((↑k : Int) + 1))))] []))))))))
 (.done (.exit 0)
 (cst 34 [(1, .c (.p (.i .i64 i))), (7, .c (.p (.i IntKind.u64 h))), (12, .c (.p (.l 1 L.length (rowP encU L)))), (13, .c (.p (.i .i64 (↑L.length : Int)))), (14, .c (.p (.i .i64 (↑k : Int))))] [])) := by kernel_rfl
theorem tFo3 (h i : Int) (L : List Int) (k : Nat) : exTs extPa (dropL 4 (pcs Tryz.prog Tryz.f10)) (cst 34 [(1, iV i), (7, u6V h), (12, listV encU 1 L), (13, iV (L.length : Nat)), (14, iV (k : Nat))] []) (endG [] (resOf Tryz.prog Tryz.f10)) = Tr.done X.ret (St.mk [V.c (C.p (PV.i IntKind.u64 h))] []) := by kernel_rfl
theorem some_pairU {p q : Prop} {v u : V} (e : some (p, v) = some (q, u)) : p = q ∧ v = u := by
  injection e with e
  injection e with h1 h2
  exact ⟨h1, h2⟩
theorem decU_row (L : List Int) : decL decU L.length (rowP encU L) = L := decL_row (fun _ => rfl) L
theorem uOf_le {x : PV} {p : Prop} {L : List Int} (h : uOf x = some (p, L)) (hp : p) : PLe x (listP encU 1 L) := by
  unfold uOf at h
  split at h
  · split at h
    · rename_i hz
      have := Nat.eq_of_beq_eq_true hz
      subst this
      injection h with h; injection h with h1 h2
      subst h1; subst h2
      obtain ⟨h3, h4⟩ := hp
      unfold listP
      rw [h3]
      exact PLe.l fun e o he ho => PLe.of_eq (h4 e o he ho)
    · cases h
  · injection h with h; injection h with h1 h2
    subst h1; subst h2
    exact PLe.nil 1 _
  · cases h
theorem luOf_le {x : V} {p : Prop} {L : List Int} (h : luOf x = some (p, L)) (hp : p) : VLe x (listV encU 1 L) := by
  unfold luOf at h
  split at h
  · exact VLe.p (uOf_le h hp)
  · cases h
theorem and1 (i : Int) : IntKind.i64.wrap (↑(BitVec.ofInt 64 i &&& BitVec.ofInt 64 1).toNat : Int) = i % 2 := by
  have e1 : (BitVec.ofInt 64 i &&& BitVec.ofInt 64 1).toNat = (BitVec.ofInt 64 i).toNat % 2 := by
    rw [BitVec.toNat_and]
    show (BitVec.ofInt 64 i).toNat &&& 1 = _
    rw [Nat.and_one_is_mod]
  rw [e1, BitVec.toNat_ofInt]
  rw [wrap_in (k := .i64) (by simp only [inR]; omega)]
  omega
theorem shr1 (i : Int) : i.fdiv (2 ^ min (Int.toNat 1) IntKind.i64.bits) = i / 2 := by
  show i.fdiv 2 = i / 2
  rw [Int.fdiv_eq_ediv_of_nonneg _ (by decide)]
theorem foldZ_drop (h i : Int) (L : List Int) (k : Nat) (hk : k < L.length) : foldZ h i (L.drop k) = foldZ (stepZ h i (L.getD k default)) (i / 2) (L.drop (k + 1)) := by
  rw [List.drop_eq_getElem_cons hk]
  show foldZ (stepZ h i L[k]) (i / 2) (L.drop (k + 1)) = _
  rw [List.getD_eq_getElem?_getD, List.getElem?_eq_getElem hk]; rfl
section
variable {G : Nat → Option Obj}
theorem okPair : ModOK Tryz.prog G 23 mPair := by
  intro args p v hm hp h
  unfold mPair at hm
  split at hm; rotate_left; · cases hm
  rename_i a b
  obtain ⟨rfl, rfl⟩ := some_pairU hm
  refine fn_kit rfl ?_ h
  intro R w vs hr hg ha
  obtain ⟨u, l, e, hu, ha⟩ := All2.nth2 ha
  obtain ⟨u1, l1, rfl, hu1, ha⟩ := All2.nth2 ha
  obtain rfl := All2.nil2 ha
  have hu : u = .int .u64 a := hu
  have hu1 : u1 = .int .u64 b := hu1
  subst hu; subst hu1
  obtain rfl : vs = #[.int .u64 a, .int .u64 b] := by
    apply Array.ext'
    simpa using e
  refine (pair_any a b w).mono ?_
  rintro e w' ⟨rfl, hb⟩
  exact ⟨_, rfl, rfl, hb⟩
theorem extPa_sound : SoundExt Tryz.prog G extPa := extOf_sound (by simp; exact okPair)
set_option maxRecDepth 100000 in
theorem okFold : ModOK Tryz.prog G 10 mFold := by
  intro args p v hm hp h
  unfold mFold at hm
  split at hm; rotate_left; · cases hm
  rename_i h0 i x
  split at hm; rotate_left; · cases hm
  rename_i q L hx
  obtain ⟨rfl, rfl⟩ := some_pairU hm
  clear hm
  obtain ⟨hq, hi, hl⟩ := hp
  refine FnS.args (args' := [u6V h0, iV i, listV encU 1 L]) ?_ (.cons (.refl _) (.cons (.refl _) (.cons (luOf_le hx hq) .nil)))
  refine fn_S Tryz.func10 (by kernel_rfl) rfl ?_ h
  refine ExS.evG extPa_sound 3 (tFo1 h0 i L) ?_
  simp only [holds_leaf, kf_normal]
  refine ⟨?_⟩
  refine ExS.loop' (l := dropL 3 (pcs Tryz.prog Tryz.f10)) (b := inr (inr (nth .skip (pcs Tryz.prog Tryz.f10) 3))) (r := dropL 4 (pcs Tryz.prog Tryz.f10)) (id := 0) (by kernel_rfl) (σ := Int × Int × Nat)
    (fun x => (fun h i k => cst 34 [(1, iV i), (7, u6V h), (12, listV encU 1 L), (13, iV (L.length : Nat)), (14, iV (k : Nat))] []) x.1 x.2.1 x.2.2) (fun x => x.2.2 ≤ L.length ∧ inR .i64 x.2.1 ∧ foldZ x.1 x.2.1 (L.drop x.2.2) = foldZ h0 i L) (fun x => L.length - x.2.2) (h0, i, 0) ⟨Nat.zero_le _, hi, rfl⟩ (weak_of_eq (by kernel_rfl)) ?_
  rintro ⟨h1, i1, k⟩ ⟨hk, hi1, hf⟩ Q1 q1n q1e -
  dsimp only at hk hi1 hf q1n q1e ⊢
  refine ExS.evH extPa_sound (tFo2 h1 i1 L k) ?_
  simp only [and1, shr1, holds_bT, holds_rq, holds_leaf, kf_normal, kf_exit, decide_eq_true_eq, decide_eq_false_iff_not]
  have hi2 : inR .i64 (i1 / 2) := by simp only [inR] at hi1 ⊢; omega
  refine ⟨fun c1 => ⟨by omega, by omega, fun c2 => ⟨trivial, by decide, by simp only [inR]; omega, ⟨q1n (stepZ h1 i1 (L.getD k default), i1 / 2, k + 1) _ ⟨show k + 1 ≤ L.length by omega, hi2, ?_⟩ (show L.length - (k + 1) < L.length - k by omega) (weak_of_eq ?_)⟩⟩, fun c2 => ⟨trivial, by decide, by simp only [inR]; omega, ⟨q1n (stepZ h1 i1 (L.getD k default), i1 / 2, k + 1) _ ⟨show k + 1 ≤ L.length by omega, hi2, ?_⟩ (show L.length - (k + 1) < L.length - k by omega) (weak_of_eq ?_)⟩⟩⟩, fun c1 => ⟨q1e _ ?_⟩⟩
  · rw [← hf, foldZ_drop h1 i1 L k (by omega)]
  · unfold stepZ; rw [if_pos c2]; rfl
  · rw [← hf, foldZ_drop h1 i1 L k (by omega)]
  · unfold stepZ; rw [if_neg c2]; rfl
  · obtain rfl : k = L.length := by omega
    have hf : h1 = foldZ h0 i L := by rw [← hf, List.drop_length]; rfl
    subst hf
    refine ExS.evH extPa_sound (tFo3 _ i1 L L.length) ?_
    simp only [holds_leaf, kf_ret']
    exact ⟨VLe.refl _⟩
end
end Go.AE
namespace Go.AE
set_option linter.unusedVariables false
set_option linter.unusedSimpArgs false
open Go.Proofs Go.Proofs.YtjfofadeahdnnaaGreatDoor
def mLives35 : Mod
  | [] => some (True, bV true)
  | _ => none
theorem u0 : U64 0 := ⟨by decide, by decide⟩
def UL (L : List Int) : Prop := ∀ x ∈ L, U64 x
section
variable {G : Nat → Option Obj}
end
end Go.AE
namespace Go.AE
set_option linter.unusedVariables false
set_option linter.unusedSimpArgs false
open Go.Proofs Go.Proofs.YtjfofadeahdnnaaGreatDoor
def encL (L : List Int) (_ : Nat) : PV := listP encU 1 L
def treeT (L : List Int) : List (List Int) := (List.range (depT L.length + 1)).map (levT pairZ L (depT L.length))
def mLevels : Mod
  | [x] => match luOf x with
    | some (p, L) => some (p ∧ 0 < L.length ∧ L.length ≤ 1000, listV encL 1 (treeT L))
    | _ => none
  | _ => none
def pthL (M : List (List Int)) (i m : Nat) : List Int := (List.range m).map fun k => (M.getD k default).getD (sibT (i / 2 ^ k)) default
def decLi (f : Nat → PV) : List Int := match f 0 with
  | .l _ m g => decL decU m g
  | _ => []
def lLOf : V → Option (Prop × List (List Int))
  | .c (.p (.l sz n f)) => match Nat.beq sz 1 with
    | true => some (IsL encL 1 (decL decLi n f) n f, decL decLi n f)
    | false => none
  | _ => none
def mvpath : Mod
  | [x, .c (.p (.i .i64 q))] => match lLOf x with
    | some (p, T) => some (p ∧ 1 ≤ T.length ∧ T.length ≤ 100 ∧ 0 ≤ q ∧ q ≤ 1000000 ∧ (∀ k, k < T.length - 1 → sibT (q.toNat / 2 ^ k) < (T.getD k default).length), listV encU 1 (pthL T q.toNat (T.length - 1)))
    | _ => none
  | _ => none
def extvP : Ext := extOf [(20, mLevels), (19, mvpath)]
def pthI (L : List Int) (i : Int) : List Int := if 0 ≤ i ∧ i < L.length then pthT pairZ L i.toNat (depT L.length) else []
def errT (L : List Int) (i : Int) : Int := if 0 ≤ i ∧ i < L.length then 0 else 9
def pthV (L : List Int) (i : Int) : V := .t [.c (.p (listP encU 1 (pthI L i))), .c (.p (.i .i64 (errT L i)))]
def mPathT : Mod
  | [x, .c (.p (.i .i64 i))] => match luOf x with
    | some (p, L) => some (p ∧ L.length ≤ 1000 ∧ inR .i64 i, pthV L i)
    | _ => none
  | _ => none
theorem tQa1 (L : List Int) (i : Int) : exTs extvP (pcs Tryz.prog Tryz.f7) (st0 Tryz.f7 [listV encU 1 L, iV i]) (endG [] (resOf Tryz.prog Tryz.f7)) = bT (decide (i < 0)) (.done .ret (St.mk [V.t [V1.c (C.p (PV.z (Value.slice none 0 0))), V1.c (C.p (PV.i IntKind.i64 9))]] []))
 (bT (decide ((↑L.length : Int) ≤ i)) (.done .ret (St.mk [V.t [V1.c (C.p (PV.z (Value.slice none 0 0))), V1.c (C.p (PV.i IntKind.i64 9))]] []))
 (.rq (IsL encU 1 (decL decU L.length (rowP encU L)) L.length (rowP encU L) ∧ 0 < (decL decU L.length (rowP encU L)).length ∧ (decL decU L.length (rowP encU L)).length ≤ 1000)
 (.rq
 (IsL encL 1 (decL decLi (treeT (decL decU L.length (rowP encU L))).length (rowP encL (treeT (decL decU L.length (rowP encU L))))) (treeT (decL decU L.length (rowP encU L))).length
 (rowP encL (treeT (decL decU L.length (rowP encU L)))) ∧
 1 ≤ (decL decLi (treeT (decL decU L.length (rowP encU L))).length (rowP encL (treeT (decL decU L.length (rowP encU L))))).length ∧
 (decL decLi (treeT (decL decU L.length (rowP encU L))).length (rowP encL (treeT (decL decU L.length (rowP encU L))))).length ≤ 100 ∧
 0 ≤ i ∧
 i ≤ 1000000 ∧
 ∀ (k : Nat),
 k < (decL decLi (treeT (decL decU L.length (rowP encU L))).length (rowP encL (treeT (decL decU L.length (rowP encU L))))).length - 1 →
 sibT (i.toNat / 2 ^ k) < ((decL decLi (treeT (decL decU L.length (rowP encU L))).length (rowP encL (treeT (decL decU L.length (rowP encU L))))).getD k default).length)
 (.done .ret
 (St.mk [V.t [V1.c (C.p (PV.l 1 (pthL (decL decLi (treeT (decL decU L.length (rowP encU L))).length (rowP encL (treeT (decL decU L.length (rowP encU L))))) i.toNat ((decL decLi (treeT (decL decU L.length (rowP encU L))).length (rowP encL (treeT (decL decU L.length (rowP encU L))))).length - 1)).length (rowP encU (pthL (decL decLi (treeT (decL decU L.length (rowP encU L))).length (rowP encL (treeT (decL decU L.length (rowP encU L))))) i.toNat ((decL decLi (treeT (decL decU L.length (rowP encU L))).length (rowP encL (treeT (decL decU L.length (rowP encU L))))).length - 1))))), V1.c (C.p (PV.i IntKind.i64 0))]] []))))) := by kernel_rfl
theorem tPa1 (T : List (List Int)) (q : Nat) : exTs ext0 (takeL 3 (pcs Tryz.prog Tryz.f19)) (st0 Tryz.f19 [listV encL 1 T, iV q]) (endG (msk 30 [1, 5, 12, 13, 14]) (resOf Tryz.prog Tryz.f19)) = Tr.rq (inR IntKind.i64 ((↑T.length : Int) - 1))
 (.rq (0 ≤ (↑0 : Int) ∧ (↑0 : Int) ≤ (↑T.length : Int) - 1 ∧ (↑T.length : Int) - 1 ≤ (↑T.length : Int))
 (.done .normal
 (cst 30 [(1, .c (.p (.i .i64 (↑q : Int)))), (5, .c (.p (.z (Value.slice none 0 0)))), (12, .c (.p (.l 1 (((↑T.length : Int) - 1).toNat - (↑0 : Int).toNat) fun e o => rowP encL T (e + 0) o))), (13, .c (.p (.i .i64 (↑(((↑T.length : Int) - 1).toNat - (↑0 : Int).toNat) : Int)))), (14, .c (.p (.i .i64 0)))] []))) := by kernel_rfl
theorem tPa2 (M : List (List Int)) (out : List Int) (q k e : Nat) : exTs ext0 (lpB (pcs Tryz.prog Tryz.f19) 3) (cst 30 [(1, iV (q : Nat)), (5, .c (.sl 0 1 0 k)), (12, listV encL 1 M), (13, iV (M.length : Nat)), (14, iV (e : Nat))] [.row 23 1 k (rowC encU out)]) (endG (msk 30 [1, 5, 12, 13, 14]) (resOf Tryz.prog Tryz.f19)) = bT (decide ((↑e : Int) < (↑M.length : Int)))
 (.rq (0 ≤ (↑e : Int) ∧ (↑e : Int) < (↑M.length : Int))
 (.rq
 (0 ≤ IntKind.i64.wrap (↑(BitVec.ofInt 64 (↑q : Int) ^^^ BitVec.ofInt 64 1).toNat : Int) ∧
 IntKind.i64.wrap (↑(BitVec.ofInt 64 (↑q : Int) ^^^ BitVec.ofInt 64 1).toNat : Int) < (↑(M.getD (↑e : Int).toNat default).length : Int))
 (.rq (k = k)
 (.rq (1 ≤ 1)
 (.rq
 ((k + 1) * 8 ≤ 140737488355328 ∧
 k + 1 ≤ 140737488355328 ∧
 ∀ (e_1 o : Nat),
 e_1 < 1 →
 o < 1 →
 oneC
 (bslF
 [C.p
 (PV.i IntKind.u64
 ((M.getD (↑e : Int).toNat default).getD (IntKind.i64.wrap (↑(BitVec.ofInt IntKind.i64.bits (↑q : Int) ^^^ BitVec.ofInt IntKind.i64.bits 1).toNat : Int)).toNat
 default))]
 1 1 (e_1 + 0) o) =
 true)
 (.rq (0 ≤ (↑q : Int) ∧ Int.ofNat 0 < Int.ofNat 2 ∧ inR IntKind.i64 ((↑q : Int) / 2))
 (.rq (inR IntKind.i64 ((↑e : Int) + 1))
 (.done .normal
 (cst 30 [(1, .c (.p (.i .i64 ((↑q : Int) / 2)))), (5, .c (.sl 0 1 0 (k + 1))), (12, .c (.p (.l 1 M.length (rowP encL M)))), (13, .c (.p (.i .i64 (↑M.length : Int)))), (14, .c (.p (.i .i64 ((↑e : Int) + 1))))] [.row 23 1 (k + 1) fun e_1 o => renC [2] (appF k (rowC encU out) (fun e_2 o => nth C.top [C.p (PV.i IntKind.u64 ((M.getD (↑e : Int).toNat default).getD (IntKind.i64.wrap (↑(BitVec.ofInt IntKind.i64.bits (↑q : Int) ^^^ BitVec.ofInt IntKind.i64.bits 1).toNat : Int)).toNat default))] ((e_2 + 0) * 1 + o)) e_1 o)])))))))))
 (.done (.exit 0)
 (cst 30 [(1, .c (.p (.i .i64 (↑q : Int)))), (5, .c (.sl 0 1 0 k)), (12, .c (.p (.l 1 M.length (rowP encL M)))), (13, .c (.p (.i .i64 (↑M.length : Int)))), (14, .c (.p (.i .i64 (↑e : Int))))] [.row 23 1 k fun e o => renC [0] (rowC encU out e o)])) := by kernel_rfl
theorem tPa3 (M : List (List Int)) (out : List Int) (q k e : Nat) : exTs ext0 (dropL 4 (pcs Tryz.prog Tryz.f19)) (cst 30 [(1, iV (q : Nat)), (5, .c (.sl 0 1 0 k)), (12, listV encL 1 M), (13, iV (M.length : Nat)), (14, iV (e : Nat))] [.row 23 1 k (rowC encU out)]) (endG [] (resOf Tryz.prog Tryz.f19)) = Tr.rq (0 + k ≤ k ∧ ∀ (e o : Nat), e < k → o < 1 → isF (rowC encU out (e + 0) o) = true) (.done .ret (St.mk [V.c (C.p (PV.l 1 k fun e o => unP (rowC encU out (e + 0) o)))] [])) := by kernel_rfl
theorem encL_dec (x : List Int) : decLi (encL x) = x := decU_row x
theorem decLi_row (T : List (List Int)) : decL decLi T.length (rowP encL T) = T := decL_row encL_dec T
theorem lLOf_le {x : V} {p : Prop} {T : List (List Int)} (h : lLOf x = some (p, T)) (hp : p) : VLe x (listV encL 1 T) := by
  unfold lLOf at h
  split at h
  · split at h
    · rename_i hz
      have := Nat.eq_of_beq_eq_true hz
      subst this
      injection h with h; injection h with h1 h2
      subst h1; subst h2
      exact IsL.le hp
    · cases h
  · cases h
theorem treeT_length (L : List Int) : (treeT L).length = depT L.length + 1 := by unfold treeT; simp
theorem treeT_get (L : List Int) {k : Nat} (h : k < depT L.length + 1) : (treeT L).getD k default = levT pairZ L (depT L.length) k := by
  unfold treeT
  rw [List.getD_eq_getElem?_getD, List.getElem?_map, List.getElem?_range h]; rfl
theorem sib_lt {i k D : Nat} (h : i < 2 ^ D) (hk : k < D) : sibT (i / 2 ^ k) < 2 ^ (D - k) := by
  have h1 : i / 2 ^ k < 2 ^ (D - k) := by
    rw [Nat.div_lt_iff_lt_mul (Nat.two_pow_pos k), ← Nat.pow_add]
    rwa [show D - k + k = D by omega]
  have h2 : 2 ^ (D - k) = 2 * 2 ^ (D - k - 1) := by rw [← Nat.pow_succ', show (D - k - 1).succ = D - k by omega]
  generalize i / 2 ^ k = a at h1 ⊢
  generalize 2 ^ (D - k) = b at h1 h2 ⊢
  generalize 2 ^ (D - k - 1) = c at h2
  unfold sibT
  split <;> omega
theorem pthL_tree (L : List Int) {i : Nat} (h : i < L.length) : pthL (treeT L) i (depT L.length) = pthT pairZ L i (depT L.length) := by
  unfold pthL pthT
  refine List.map_congr_left fun k hk => ?_
  have hk : k < depT L.length := List.mem_range.1 hk
  rw [treeT_get L (by omega), levT_get L default (sib_lt (Nat.lt_of_lt_of_le h (depT_le _)) hk)]
theorem pthL_take (T : List (List Int)) (i : Nat) {n m : Nat} (h : m ≤ n) : pthL (T.take n) i m = pthL T i m := by
  unfold pthL
  refine List.map_congr_left fun k hk => ?_
  have hk : k < m := List.mem_range.1 hk
  rw [List.getD_eq_getElem?_getD (l := T.take n), List.getElem?_take, if_pos (by omega), ← List.getD_eq_getElem?_getD]
theorem pthL_succ (T : List (List Int)) (i m : Nat) : pthL T i (m + 1) = pthL T i m ++ [(T.getD m default).getD (sibT (i / 2 ^ m)) default] := by
  unfold pthL; rw [List.range_succ, List.map_append]; rfl
theorem pthL_length (T : List (List Int)) (i m : Nat) : (pthL T i m).length = m := by unfold pthL; simp
theorem xor1 {q : Nat} (h : q ≤ 1000000000) : IntKind.i64.wrap (↑(BitVec.ofInt 64 (q : Int) ^^^ BitVec.ofInt 64 1).toNat : Int) = (sibT q : Nat) := by
  have e1 : (BitVec.ofInt 64 (q : Int) ^^^ BitVec.ofInt 64 1).toNat = sibT q := by
    rw [BitVec.toNat_xor, BitVec.toNat_ofInt, BitVec.toNat_ofInt]
    have a1 : ((q : Int) % ((2 ^ 64 : Nat) : Int)).toNat = q := by
      show ((q : Int) % 18446744073709551616).toNat = q
      omega
    have a2 : ((1 : Int) % ((2 ^ 64 : Nat) : Int)).toNat = 1 := by decide
    rw [a1, a2]
    unfold sibT
    split
    · rename_i h
      obtain ⟨r, rfl⟩ : ∃ r, q = 2 * r + 1 := ⟨q / 2, by omega⟩
      rw [Nat.add_sub_cancel]
      apply Nat.eq_of_testBit_eq
      intro j
      rw [Nat.testBit_xor]
      cases j with
      | zero => simp
      | succ j => simp [Nat.testBit_succ, show (2 * r + 1) / 2 = r by omega, show (2 * r) / 2 = r by omega]
    · rename_i h
      obtain ⟨r, rfl⟩ : ∃ r, q = 2 * r := ⟨q / 2, by omega⟩
      apply Nat.eq_of_testBit_eq
      intro j
      rw [Nat.testBit_xor]
      cases j with
      | zero => simp
      | succ j => simp [Nat.testBit_succ, show (2 * r + 1) / 2 = r by omega, show (2 * r) / 2 = r by omega]
  rw [e1]
  refine wrap_in (k := .i64) ?_
  simp only [inR]
  unfold sibT
  split <;> omega
theorem xor1b {q : Nat} (h : q ≤ 1000000000) : IntKind.i64.wrap (↑(BitVec.ofInt IntKind.i64.bits (q : Int) ^^^ BitVec.ofInt IntKind.i64.bits 1).toNat : Int) = (sibT q : Nat) := xor1 h
theorem uE_one (x : Int) : ∀ e o : Nat, e < 1 → o < 1 → oneC (nth C.top [C.p (.i .u64 x)] ((e + 0) * 1 + o)) = true := by
  intro e o he ho
  obtain rfl : e = 0 := by omega
  obtain rfl : o = 0 := by omega
  rfl
theorem uE_at (x : Int) : ∀ o : Nat, o < 1 → (fun e o : Nat => nth C.top [C.p (.i .u64 x)] ((e + 0) * 1 + o)) 0 o = .p (encU x o) := by
  intro o ho
  obtain rfl : o = 0 := by omega
  rfl
theorem pr_mono {R R' : Nat → Prop} {w : World} {x : PV} {u : Value} (h : PR R w x u) (hr : ∀ b, R b → R' b) : PR R' w x u :=
  VR.keep (β := Bt.nil) (β' := Bt.nil) (x := .c (.p x)) ⟨fun _ _ hi => (by cases hi), hr, fun _ _ => rfl⟩ h
theorem pr_congr {R : Nat → Prop} {w : World} {n : Nat} {f g : Nat → Nat → PV} {u : Value} (h : PR R w (.l 1 n f) u) (hf : ∀ e, e < n → f e 0 = g e 0) : PR R w (.l 1 n g) u := by
  obtain ⟨A, c, e, h1, h2, h3⟩ := h
  refine ⟨A, c, e, h1, h2, fun hn => ?_⟩
  obtain ⟨ad, e1, e2, e3⟩ := h3 hn
  refine ⟨ad, e1, e2, fun e o he ho => ?_⟩
  obtain ⟨u, q1, q2⟩ := e3 e o he ho
  obtain rfl : o = 0 := by omega
  exact ⟨u, q1, by rw [← hf e he]; exact q2⟩
section
variable {G : Nat → Option Obj}
theorem okLevels : ModOK Tryz.prog G 20 mLevels := by
  intro args p v hm hp h
  unfold mLevels at hm
  split at hm; rotate_left; · cases hm
  rename_i x
  split at hm; rotate_left; · cases hm
  rename_i q L hx
  obtain ⟨rfl, rfl⟩ := some_pairU hm
  clear hm
  obtain ⟨hq, h1, h2⟩ := hp
  refine FnS.args (args' := [listV encU 1 L]) ?_ (.cons (luOf_le hx hq) .nil)
  refine fn_kit rfl ?_ h
  intro R w vs hr hg ha
  obtain ⟨u, l, e, hu, ha⟩ := All2.nth2 ha
  obtain rfl := All2.nil2 ha
  obtain ⟨A, c, rfl, hnc, hcm, hc⟩ := (show PR R w (listP encU 1 L) u from hu)
  obtain ⟨ad, rfl, hRb, hcell⟩ := hc h1
  obtain rfl : vs = #[.slice (some ad) L.length c] := by apply Array.ext'; simpa using e
  have hRd : Rd w w.heap.size (some ad) L.length fun k => .int .u64 (L.getD k 0) := fun hn => ⟨ad, rfl, hr _ hRb, fun k hk => by
    obtain ⟨u, e1, e2⟩ := hcell k 0 hk (by decide)
    have e2 : u = .int .u64 (L.getD k default) := e2
    subst e2
    rw [show k * 1 + 0 = k by omega] at e1
    exact e1⟩
  refine (callsIn_wide.1 (levels_in Fence.wide 9 trivial trivial trivial trivial trivial trivial trivial trivial trivial rfl (by omega) ad L.length c h1 h2 L rfl w hRd)).mono ?_
  rintro e w' ⟨hb, u, rfl, hP⟩
  refine ⟨u, rfl, ?_, hb⟩
  show PR _ _ (listP encL 1 (treeT L)) u
  unfold listP
  rw [treeT_length]
  refine pr_congr (pr_mono hP fun b hb => .inr hb) fun e he => ?_
  unfold rowP encL listP
  rw [treeT_get L he, levT_length]
  rfl
set_option maxRecDepth 100000 in
theorem okvpath : ModOK Tryz.prog G 19 mvpath := by
  intro args p v hm hp h
  unfold mvpath at hm
  split at hm; rotate_left; · cases hm
  rename_i x q0
  split at hm; rotate_left; · cases hm
  rename_i p1 T hx
  obtain ⟨rfl, rfl⟩ := some_pairU hm
  clear hm
  obtain ⟨hq, h1, h2, h3, h4, h5⟩ := hp
  obtain ⟨q, rfl⟩ : ∃ q : Nat, q0 = q := ⟨q0.toNat, by omega⟩
  rw [show (q : Int).toNat = q from rfl] at h5 ⊢
  refine FnS.args (args' := [listV encL 1 T, iV q]) ?_ (.cons (lLOf_le hx hq) (.cons (.refl _) .nil))
  refine fn_S Tryz.func19 (by kernel_rfl) rfl ?_ h
  refine ExS.evG ext0_sound 3 (tPa1 T q) ?_
  simp only [holds_rq, holds_leaf, kf_normal]
  refine ⟨by simp only [inR]; omega, ⟨by omega, by omega, by omega⟩, ⟨?_⟩⟩
  obtain ⟨M, hM⟩ : ∃ M, M = T.take (T.length - 1) := ⟨_, rfl⟩
  have hMl : M.length = T.length - 1 := by rw [hM, List.length_take]; omega
  have hn : ((T.length : Int) - 1).toNat - Int.toNat 0 = M.length := by omega
  have hw : VLe (V.c (C.p (PV.l 1 (((T.length : Int) - 1).toNat - Int.toNat 0) fun e o => rowP encL T (e + 0) o))) (listV encL 1 M) := by
    rw [hn]
    refine VLe.p (PLe.l fun e o he ho => PLe.of_eq ?_)
    unfold rowP
    rw [hM, List.getD_eq_getElem?_getD, List.getD_eq_getElem?_getD, List.getElem?_take, if_pos (by omega), Nat.add_zero]
  rw [← pthL_take T q (Nat.le_refl _), ← hM, ← hMl]
  have h5 : ∀ k, k < M.length → sibT (q / 2 ^ k) < (M.getD k default).length := fun k hk => by
    rw [hM, List.getD_eq_getElem?_getD, List.getElem?_take, if_pos (by omega), ← List.getD_eq_getElem?_getD]
    exact h5 k (by omega)
  rw [hn]
  have hw : VLe (V.c (C.p (PV.l 1 M.length fun e o => rowP encL T (e + 0) o))) (listV encL 1 M) := by rw [hn] at hw; exact hw
  have hwk : WeakS G (cst 30 [(1, iV (q : Nat)), (5, V.c (C.p (PV.z (Value.slice none 0 0)))), (12, V.c (C.p (PV.l 1 M.length fun e o => rowP encL T (e + 0) o))), (13, iV (M.length : Nat)), (14, iV (0 : Nat))] []) (cst 30 [(1, iV (q : Nat)), (5, V.c (C.p (PV.z (Value.slice none 0 0)))), (12, listV encL 1 M), (13, iV (M.length : Nat)), (14, iV (0 : Nat))] []) := (weak_slot (j := 12) (y := listV encL 1 M) (by exact hw)).trans (weak_of_eq (by kernel_rfl))
  refine ExS.pre hwk ?_
  refine ExS.loop' (l := dropL 3 (pcs Tryz.prog Tryz.f19)) (b := inr (inr (nth .skip (pcs Tryz.prog Tryz.f19) 3))) (r := dropL 4 (pcs Tryz.prog Tryz.f19)) (id := 0) (by kernel_rfl) (σ := Nat × Nat)
    (fun x => (fun q out k e => cst 30 [(1, iV (q : Nat)), (5, .c (.sl 0 1 0 k)), (12, listV encL 1 M), (13, iV (M.length : Nat)), (14, iV (e : Nat))] [.row 23 1 k (rowC encU out)]) x.2 (pthL M q x.1) x.1 x.1) (fun x => x.1 ≤ M.length ∧ x.2 = q / 2 ^ x.1) (fun x => M.length - x.1) (0, q) ⟨Nat.zero_le _, by simp⟩ ((weak_nil 23 1 (rowC encU []) 5 (by kernel_rfl)).trans (weak_of_eq (by kernel_rfl))) ?_
  rintro ⟨e, q1⟩ ⟨he, hq1⟩ Q1 q1n q1e -
  dsimp only at he hq1 q1n q1e ⊢
  have hl := pthL_length M q e
  have hq0 : q1 ≤ q := by rw [hq1]; exact Nat.div_le_self _ _
  have hq2 : q1 / 2 = q / 2 ^ (e + 1) := by rw [Nat.pow_succ, ← Nat.div_div_eq_div_mul, hq1]
  have fin : ∀ st, e = M.length → st = (fun q out k => cst 30 [(1, iV (q : Nat)), (5, .c (.sl 0 1 0 k)), (12, listV encL 1 M), (13, iV (M.length : Nat)), (14, iV (e : Nat))] [.row 23 1 k (rowC encU out)]) q1 (pthL M q e) e → ExS Tryz.prog G (resOf Tryz.prog Tryz.f19) (listV encU 1 (pthL M q M.length)) (dropL 4 (pcs Tryz.prog Tryz.f19)) st fun _ _ => False := by
    rintro st rfl rfl
    refine ExS.evH ext0_sound (tPa3 M (pthL M q M.length) q1 M.length M.length) ?_
    simp only [holds_rq, holds_leaf, kf_ret']
    refine ⟨⟨by omega, fun _ _ _ _ => rfl⟩, ⟨?_⟩⟩
    unfold listV listP
    rw [hl]
    exact VLe.refl _
  refine ExS.evH ext0_sound (tPa2 M (pthL M q e) q1 e e) ?_
  simp only [holds_bT, holds_rq, holds_leaf, kf_ret', kf_normal, kf_exit, decide_eq_true_eq, decide_eq_false_iff_not, xor1 (Nat.le_trans hq0 (show q ≤ 1000000000 by omega)), xor1b (Nat.le_trans hq0 (show q ≤ 1000000000 by omega)), show (↑e : Int).toNat = e from rfl, show ∀ n : Nat, (↑n : Int).toNat = n from fun _ => rfl]
  refine ⟨fun h6 => ?_, fun h6 => ⟨q1e _ (ExS.pre (weak_of_eq (by kernel_rfl)) (fin _ (by omega) rfl))⟩⟩
  have h7 := h5 e (by omega)
  rw [← hq1] at h7
  refine ⟨⟨by omega, by omega⟩, ⟨by omega, by omega⟩, trivial, Nat.le_refl _, ⟨by omega, by omega, uE_one _⟩, ⟨by omega, by decide, by simp only [inR]; omega⟩, by simp only [inR]; omega, ⟨q1n (e + 1, q1 / 2) _ ⟨show e + 1 ≤ M.length by omega, hq2⟩ (show M.length - (e + 1) < M.length - e by omega) ?_⟩⟩
  show WeakS G _ ((fun q out k e => cst 30 [(1, iV (q : Nat)), (5, .c (.sl 0 1 0 k)), (12, listV encL 1 M), (13, iV (M.length : Nat)), (14, iV (e : Nat))] [.row 23 1 k (rowC encU out)]) (q1 / 2) (pthL M q (e + 1)) (e + 1) (e + 1))
  rw [pthL_succ, ← hq1]
  exact weak_cst ⟨⟨rfl, rfl, rfl, fun e o he ho => app1' (ρ := [2]) hl (uE_at _) he ho⟩, trivial⟩
set_option maxRecDepth 100000 in
theorem okPathT : ModOK Tryz.prog G 7 mPathT := by
  intro args p v hm hp h
  unfold mPathT at hm
  split at hm; rotate_left; · cases hm
  rename_i x i
  split at hm; rotate_left; · cases hm
  rename_i p1 L hx
  obtain ⟨rfl, rfl⟩ := some_pairU hm
  clear hm
  obtain ⟨hq, h1, h2⟩ := hp
  have hs : SoundExt Tryz.prog G extvP := extOf_sound (by simp; exact ⟨okLevels, okvpath⟩)
  refine FnS.args (args' := [listV encU 1 L, iV i]) ?_ (.cons (luOf_le hx hq) (.cons (.refl _) .nil))
  refine fn_S Tryz.func7 (by kernel_rfl) rfl ?_ h
  refine ExS.evH hs (tQa1 L i) ?_
  simp only [holds_bT, holds_rq, holds_leaf, kf_ret', decide_eq_true_eq, decide_eq_false_iff_not, decU_row, isL_row, true_and, decLi_row]
  simp only [treeT_length, Nat.add_sub_cancel]
  have bad : ¬ (0 ≤ i ∧ i < L.length) → VLe (V.t [V1.c (C.p (PV.z (Value.slice none 0 0))), V1.c (C.p (PV.i IntKind.i64 9))]) (pthV L i) := fun c => by
    unfold pthV pthI errT
    rw [if_neg c, if_neg c]
    exact VLe.t (.cons (VLe.p (PLe.nil 1 _)) (.cons (VLe.refl _) .nil))
  refine ⟨fun c => ⟨bad (by omega)⟩, fun c1 => ⟨fun c2 => ⟨bad (by omega)⟩, fun c2 => ?_⟩⟩
  obtain ⟨n, rfl⟩ : ∃ n : Nat, i = n := ⟨i.toNat, by omega⟩
  have hd : depT L.length ≤ 10 := depT_small (by omega)
  rw [show (n : Int).toNat = n from rfl]
  refine ⟨⟨by omega, h1⟩, ⟨by omega, by omega, by omega, by omega, fun k hk => ?_⟩, ⟨?_⟩⟩
  · rw [treeT_get L (by omega), levT_length]
    exact sib_lt (Nat.lt_of_lt_of_le (by omega) (depT_le _)) hk
  · unfold pthV pthI errT
    rw [if_pos (by omega), if_pos (by omega), show (n : Int).toNat = n from rfl, pthL_tree L (by omega)]
    exact VLe.refl _
end
end Go.AE
namespace Go.AE
set_option linter.unusedVariables false
set_option linter.unusedSimpArgs false
open Go.Proofs Go.Proofs.YtjfofadeahdnnaaGreatDoor
def mDepth : Mod
  | [.c (.p (.i .i64 n))] => some (0 ≤ n ∧ n ≤ 1000000, iV (depT n.toNat : Nat))
  | _ => none
def mUnderD (m : Nat) : Mod
  | [x, .c (.p (.i .i64 a)), .c (.p (.i .i64 d))] => match luOf x with
    | some (p, L) => some (p ∧ L.length ≤ 1000 ∧ 0 ≤ a ∧ 0 ≤ d ∧ d ≤ m ∧ m ≤ 20 ∧ a.toNat + 2 ^ d.toNat ≤ 2000000, u6V (unT pairZ L d.toNat a.toNat))
    | _ => none
  | _ => none
def extUn (m : Nat) : Ext := extOf [(24, mPair), (22, mUnderD m)]
def mSameW : Mod
  | [x, y] => match luOf x, luOf y with
    | some (p, A), some (q, B) => some ((p ∧ q) ∧ A.length ≤ 1000000, bV (decide (A = B)))
    | _, _ => none
  | _ => none
def mTop : Mod
  | [x] => match luOf x with
    | some (p, L) => some (p ∧ L.length ≤ 1000, u6V (unT pairZ L (depT L.length) 0))
    | _ => none
  | _ => none
def extRp : Ext := extOf [(24, mPair)]
def extPt : Ext := extOf [(21, mDepth), (22, mUnderD 20)]
theorem tDe1 (n : Nat) : exTs ext0 (takeL 3 (pcs Tryz.prog Tryz.f21)) (st0 Tryz.f21 [iV n]) (endG (msk 13 [0, 3, 4]) (resOf Tryz.prog Tryz.f21)) = Tr.done X.normal
 (cst 13 [(0, .c (.p (.i .i64 (↑n : Int)))), (3, .c (.p (.i .i64 0))), (4, .c (.p (.i .i64 1)))] []) := by kernel_rfl
theorem tDe2 (n d w : Nat) : exTs ext0 (lpB (pcs Tryz.prog Tryz.f21) 3) (cst 13 [(0, iV (n : Nat)), (3, iV (d : Nat)), (4, iV (w : Nat))] []) (endG (msk 13 [0, 3, 4]) (resOf Tryz.prog Tryz.f21)) = bT (decide ((↑w : Int) < (↑n : Int)))
 (.rq (inR IntKind.i64 (2 * (↑w : Int)))
 (.rq (inR IntKind.i64 ((↑d : Int) + 1))
 (.done .normal
 (cst 13 [(0, .c (.p (.i .i64 (↑n : Int)))), (3, .c (.p (.i .i64 ((↑d : Int) + 1)))), (4, .c (.p (.i .i64 (2 * (↑w : Int)))))] []))))
 (.done (.exit 0)
 (cst 13 [(0, .c (.p (.i .i64 (↑n : Int)))), (3, .c (.p (.i .i64 (↑d : Int)))), (4, .c (.p (.i .i64 (↑w : Int))))] [])) := by kernel_rfl
theorem tDe3 (n d w : Nat) : exTs ext0 (dropL 4 (pcs Tryz.prog Tryz.f21)) (cst 13 [(0, iV (n : Nat)), (3, iV (d : Nat)), (4, iV (w : Nat))] []) (endG [] (resOf Tryz.prog Tryz.f21)) = Tr.done X.ret (St.mk [V.c (C.p (PV.i IntKind.i64 (↑d : Int)))] []) := by kernel_rfl
theorem tUn1 (L : List Int) (a d : Nat) : exTs ext0 (takeL 5 (pcs Tryz.prog Tryz.f22)) (st0 Tryz.f22 [listV encU 1 L, iV a, iV d]) (endG (msk 39 [0, 1, 2, 7, 8]) (resOf Tryz.prog Tryz.f22)) = bT ((↑d : Int) == 0)
 (bT (decide ((↑a : Int) < (↑L.length : Int))) (.rq (0 ≤ (↑a : Int) ∧ (↑a : Int) < (↑L.length : Int)) (.done .ret (St.mk [V.c (C.p (PV.i IntKind.u64 (L.getD (↑a : Int).toNat default)))] [])))
 (.done .ret (St.mk [V.c (C.p (PV.i IntKind.u64 0))] [])))
 (.done .normal
 (cst 39 [(0, .c (.p (.l 1 L.length (rowP encU L)))), (1, .c (.p (.i .i64 (↑a : Int)))), (2, .c (.p (.i .i64 (↑d : Int)))), (7, .c (.p (.i .i64 1))), (8, .c (.p (.i .i64 1)))] [])) := by kernel_rfl
theorem tUn2 (L : List Int) (a d w i : Nat) : exTs ext0 (lpB (pcs Tryz.prog Tryz.f22) 5) (cst 39 [(0, listV encU 1 L), (1, iV (a : Nat)), (2, iV (d : Nat)), (7, iV (w : Nat)), (8, iV (i : Nat))] []) (endG (msk 39 [0, 1, 2, 7, 8]) (resOf Tryz.prog Tryz.f22)) = bT (decide ((↑i : Int) < (↑d : Int)))
 (.rq (inR IntKind.i64 (2 * (↑w : Int)))
 (.rq (inR IntKind.i64 ((↑i : Int) + 1))
 (.done .normal
 (cst 39 [(0, .c (.p (.l 1 L.length (rowP encU L)))), (1, .c (.p (.i .i64 (↑a : Int)))), (2, .c (.p (.i .i64 (↑d : Int)))), (7, .c (.p (.i .i64 (2 * (↑w : Int))))), (8, .c (.p (.i .i64 ((↑i : Int) + 1))))] []))))
 (.done (.exit 0)
 (cst 39 [(0, .c (.p (.l 1 L.length (rowP encU L)))), (1, .c (.p (.i .i64 (↑a : Int)))), (2, .c (.p (.i .i64 (↑d : Int)))), (7, .c (.p (.i .i64 (↑w : Int)))), (8, .c (.p (.i .i64 (↑i : Int))))] [])) := by kernel_rfl
theorem tUn3 (L : List Int) (a d w i m : Nat) : exTs (extUn m) (dropL 6 (pcs Tryz.prog Tryz.f22)) (cst 39 [(0, listV encU 1 L), (1, iV (a : Nat)), (2, iV (d : Nat)), (7, iV (w : Nat)), (8, iV (i : Nat))] []) (endG [] (resOf Tryz.prog Tryz.f22)) = Tr.rq (inR IntKind.i64 ((↑d : Int) - 1))
 (.rq
 (IsL encU 1 (decL decU L.length (rowP encU L)) L.length (rowP encU L) ∧
 (decL decU L.length (rowP encU L)).length ≤ 1000 ∧ 0 ≤ (↑a : Int) ∧ 0 ≤ (↑d : Int) - 1 ∧ (↑d : Int) - 1 ≤ (↑m : Int) ∧ m ≤ 20 ∧ (↑a : Int).toNat + 2 ^ ((↑d : Int) - 1).toNat ≤ 2000000)
 (.rq (inR IntKind.i64 ((↑a : Int) + (↑w : Int)))
 (.rq (inR IntKind.i64 ((↑d : Int) - 1))
 (.rq
 (IsL encU 1 (decL decU L.length (rowP encU L)) L.length (rowP encU L) ∧
 (decL decU L.length (rowP encU L)).length ≤ 1000 ∧
 0 ≤ (↑a : Int) + (↑w : Int) ∧ 0 ≤ (↑d : Int) - 1 ∧ (↑d : Int) - 1 ≤ (↑m : Int) ∧ m ≤ 20 ∧ ((↑a : Int) + (↑w : Int)).toNat + 2 ^ ((↑d : Int) - 1).toNat ≤ 2000000)
 (.rq True
 (.done .ret
 (St.mk [V.c (C.p (PV.i IntKind.u64 (pairZ (unT pairZ (decL decU L.length (rowP encU L)) ((↑d : Int) - 1).toNat (↑a : Int).toNat) (unT pairZ (decL decU L.length (rowP encU L)) ((↑d : Int) - 1).toNat ((↑a : Int) + (↑w : Int)).toNat))))] []))))))) := by kernel_rfl
theorem tRp1 (L : List Int) (i : Int) : exTs ext0 (takeL 6 (pcs Tryz.prog Tryz.f8)) (st0 Tryz.f8 [listV encU 1 L, iV i]) (endG (msk 48 [0, 1, 6, 7, 8]) (resOf Tryz.prog Tryz.f8)) = bT (decide (i < 0)) (.done .ret (St.mk [V.t [V1.c (C.p (PV.z (Value.slice none 0 0))), V1.c (C.p (PV.i IntKind.i64 9))]] []))
 (bT (decide ((↑L.length : Int) ≤ i)) (.done .ret (St.mk [V.t [V1.c (C.p (PV.z (Value.slice none 0 0))), V1.c (C.p (PV.i IntKind.i64 9))]] []))
 (.done .normal
 (cst 48 [(0, .c (.p (.l 1 L.length (rowP encU L)))), (1, .c (.p (.i .i64 i))), (6, .c (.p (.z (Value.slice none 0 0)))), (7, .c (.p (.i .i64 1))), (8, .c (.p (.i .i64 0)))] []))) := by kernel_rfl
theorem tRp2 (L out : List Int) (i w e k : Nat) : exTs extPt (lpB (pcs Tryz.prog Tryz.f8) 6) (cst 48 [(0, listV encU 1 L), (1, iV (i : Nat)), (6, .c (.sl 0 1 0 k)), (7, iV (w : Nat)), (8, iV (e : Nat))] [.row 23 1 k (rowC encU out)]) (endG (msk 48 [0, 1, 6, 7, 8]) (resOf Tryz.prog Tryz.f8)) = Tr.rq (0 ≤ (↑L.length : Int) ∧ (↑L.length : Int) ≤ 1000000)
 (bT (decide ((↑e : Int) < (↑(depT (↑L.length : Int).toNat) : Int)))
 (.rq (0 ≤ (↑i : Int) ∧ 0 < (↑w : Int) ∧ inR IntKind.i64 ((↑i : Int) / (↑w : Int)))
 (.rq (inR IntKind.i64 ((↑i : Int) / (↑w : Int) + 1))
 (.rq (0 ≤ (↑i : Int) / (↑w : Int) ∧ Int.ofNat 0 < Int.ofNat 2)
 (bT ((↑i : Int) / (↑w : Int) % 2 == 1)
 (.rq (inR IntKind.i64 ((↑i : Int) / (↑w : Int) - 1))
 (.rq (inR IntKind.i64 (((↑i : Int) / (↑w : Int) - 1) * (↑w : Int)))
 (.rq
 (IsL encU 1 (decL decU L.length (rowP encU L)) L.length (rowP encU L) ∧
 (decL decU L.length (rowP encU L)).length ≤ 1000 ∧
 0 ≤ ((↑i : Int) / (↑w : Int) - 1) * (↑w : Int) ∧
 0 ≤ (↑e : Int) ∧ (↑e : Int) ≤ (↑20 : Int) ∧ 20 ≤ 20 ∧ (((↑i : Int) / (↑w : Int) - 1) * (↑w : Int)).toNat + 2 ^ (↑e : Int).toNat ≤ 2000000)
 (.rq (k = k)
 (.rq (1 ≤ 1)
 (.rq
 ((k + 1) * 8 ≤ 140737488355328 ∧
 k + 1 ≤ 140737488355328 ∧
 ∀ (e_1 o : Nat),
 e_1 < 1 →
 o < 1 →
 oneC
 (bslF [C.p (PV.i IntKind.u64 (unT pairZ (decL decU L.length (rowP encU L)) (↑e : Int).toNat (((↑i : Int) / (↑w : Int) - 1) * (↑w : Int)).toNat))] 1 1 (e_1 + 0)
 o) =
 true)
 (.rq (inR IntKind.i64 (2 * (↑w : Int)))
 (.rq (inR IntKind.i64 ((↑e : Int) + 1))
 (.done .normal
 (cst 48 [(0, .c (.p (.l 1 L.length (rowP encU L)))), (1, .c (.p (.i .i64 (↑i : Int)))), (6, .c (.sl 0 1 0 (k + 1))), (7, .c (.p (.i .i64 (2 * (↑w : Int))))), (8, .c (.p (.i .i64 ((↑e : Int) + 1))))] [.row 23 1 (k + 1) fun e_1 o => renC [2] (appF k (rowC encU out) (fun e_2 o => nth C.top [C.p (PV.i IntKind.u64 (unT pairZ (decL decU L.length (rowP encU L)) (↑e : Int).toNat (((↑i : Int) / (↑w : Int) - 1) * (↑w : Int)).toNat))] ((e_2 + 0) * 1 + o)) e_1 o)]))))))))))
 (.rq (inR IntKind.i64 (((↑i : Int) / (↑w : Int) + 1) * (↑w : Int)))
 (.rq
 (IsL encU 1 (decL decU L.length (rowP encU L)) L.length (rowP encU L) ∧
 (decL decU L.length (rowP encU L)).length ≤ 1000 ∧
 0 ≤ ((↑i : Int) / (↑w : Int) + 1) * (↑w : Int) ∧
 0 ≤ (↑e : Int) ∧ (↑e : Int) ≤ (↑20 : Int) ∧ 20 ≤ 20 ∧ (((↑i : Int) / (↑w : Int) + 1) * (↑w : Int)).toNat + 2 ^ (↑e : Int).toNat ≤ 2000000)
 (.rq (k = k)
 (.rq (1 ≤ 1)
 (.rq
 ((k + 1) * 8 ≤ 140737488355328 ∧
 k + 1 ≤ 140737488355328 ∧
 ∀ (e_1 o : Nat),
 e_1 < 1 →
 o < 1 →
 oneC
 (bslF [C.p (PV.i IntKind.u64 (unT pairZ (decL decU L.length (rowP encU L)) (↑e : Int).toNat (((↑i : Int) / (↑w : Int) + 1) * (↑w : Int)).toNat))] 1 1 (e_1 + 0) o) =
 true)
 (.rq (inR IntKind.i64 (2 * (↑w : Int)))
 (.rq (inR IntKind.i64 ((↑e : Int) + 1))
 (.done .normal
 (cst 48 [(0, .c (.p (.l 1 L.length (rowP encU L)))), (1, .c (.p (.i .i64 (↑i : Int)))), (6, .c (.sl 0 1 0 (k + 1))), (7, .c (.p (.i .i64 (2 * (↑w : Int))))), (8, .c (.p (.i .i64 ((↑e : Int) + 1))))] [.row 23 1 (k + 1) fun e_1 o => renC [2] (appF k (rowC encU out) (fun e_2 o => nth C.top [C.p (PV.i IntKind.u64 (unT pairZ (decL decU L.length (rowP encU L)) (↑e : Int).toNat (((↑i : Int) / (↑w : Int) + 1) * (↑w : Int)).toNat))] ((e_2 + 0) * 1 + o)) e_1 o)])))))))))))))
 (.done (.exit 0)
 (cst 48 [(0, .c (.p (.l 1 L.length (rowP encU L)))), (1, .c (.p (.i .i64 (↑i : Int)))), (6, .c (.sl 0 1 0 k)), (7, .c (.p (.i .i64 (↑w : Int)))), (8, .c (.p (.i .i64 (↑e : Int))))] [.row 23 1 k fun e o => renC [0] (rowC encU out e o)]))) := by kernel_rfl
theorem tRp3 (L out : List Int) (i w e k : Nat) : exTs ext0 (dropL 7 (pcs Tryz.prog Tryz.f8)) (cst 48 [(0, listV encU 1 L), (1, iV (i : Nat)), (6, .c (.sl 0 1 0 k)), (7, iV (w : Nat)), (8, iV (e : Nat))] [.row 23 1 k (rowC encU out)]) (endG [] (resOf Tryz.prog Tryz.f8)) = Tr.rq (0 + k ≤ k ∧ ∀ (e o : Nat), e < k → o < 1 → isF (rowC encU out (e + 0) o) = true)
 (.done .ret (St.mk [V.t [V1.c (C.p (PV.l 1 k fun e o => unP (rowC encU out (e + 0) o))), V1.c (C.p (PV.i IntKind.i64 0))]] [])) := by kernel_rfl
theorem tSa1 (A B : List Int) : exTs ext0 (takeL 4 (pcs Tryz.prog Tryz.f9)) (st0 Tryz.f9 [listV encU 1 A, listV encU 1 B]) (endG (msk 26 [0, 1, 5]) (resOf Tryz.prog Tryz.f9)) = bT ((↑A.length : Int) != (↑B.length : Int)) (.done .ret (St.mk [V.c (C.p (PV.b false))] []))
 (.done .normal
 (cst 26 [(0, .c (.p (.l 1 A.length (rowP encU A)))), (1, .c (.p (.l 1 B.length (rowP encU B)))), (5, .c (.p (.i .i64 0)))] [])) := by kernel_rfl
theorem tSa2 (A B : List Int) (i : Nat) : exTs ext0 (lpB (pcs Tryz.prog Tryz.f9) 4) (cst 26 [(0, listV encU 1 A), (1, listV encU 1 B), (5, iV (i : Nat))] []) (endG (msk 26 [0, 1, 5]) (resOf Tryz.prog Tryz.f9)) = bT (decide ((↑i : Int) < (↑A.length : Int)))
 (.rq (0 ≤ (↑i : Int) ∧ (↑i : Int) < (↑A.length : Int))
 (.rq (0 ≤ (↑i : Int) ∧ (↑i : Int) < (↑B.length : Int))
 (bT (A.getD (↑i : Int).toNat default != B.getD (↑i : Int).toNat default) (.done .ret (St.mk [V.c (C.p (PV.b false))] []))
 (.rq (inR IntKind.i64 ((↑i : Int) + 1))
 (.done .normal
 (cst 26 [(0, .c (.p (.l 1 A.length (rowP encU A)))), (1, .c (.p (.l 1 B.length (rowP encU B)))), (5, .c (.p (.i .i64 ((↑i : Int) + 1))))] []))))))
 (.done (.exit 0)
 (cst 26 [(0, .c (.p (.l 1 A.length (rowP encU A)))), (1, .c (.p (.l 1 B.length (rowP encU B)))), (5, .c (.p (.i .i64 (↑i : Int))))] [])) := by kernel_rfl
theorem tSa3 (A B : List Int) (i : Nat) : exTs ext0 (dropL 5 (pcs Tryz.prog Tryz.f9)) (cst 26 [(0, listV encU 1 A), (1, listV encU 1 B), (5, iV (i : Nat))] []) (endG [] (resOf Tryz.prog Tryz.f9)) = Tr.done X.ret (St.mk [V.c (C.p (PV.b true))] []) := by kernel_rfl
theorem tTo1 (L : List Int) : exTs ext0 (takeL 4 (pcs Tryz.prog Tryz.f12)) (st0 Tryz.f12 [listV encU 1 L]) (endG (msk 50 [3, 4]) (resOf Tryz.prog Tryz.f12)) = Tr.rq ((0 + L.length) * 8 ≤ 140737488355328 ∧ 0 + L.length ≤ 140737488355328 ∧ ∀ (e o : Nat), e < L.length → o < 1 → oneC (C.p (rowP encU L e o)) = true)
 (.done .normal
 (cst 50 [(3, .c (.sl 0 1 0 (0 + L.length))), (4, .c (.p (.i .i64 1)))] [.row 23 1 (0 + L.length) fun e o => renC [0] (appF 0 (fun x x_1 => C.top) (fun e o => C.p (PV.i IntKind.u64 (L.getD e default))) e o)])) := by kernel_rfl
theorem tTo2 (out : List Int) (w k : Nat) : exTs ext0 (lpB (pcs Tryz.prog Tryz.f12) 4) (cst 50 [(3, .c (.sl 0 1 0 k)), (4, iV (w : Nat))] [.row 23 1 k (rowC encU out)]) (endG (msk 50 [3, 4]) (resOf Tryz.prog Tryz.f12)) = bT (decide ((↑w : Int) < (↑k : Int)))
 (.rq (inR IntKind.i64 (2 * (↑w : Int)))
 (.done .normal
 (cst 50 [(3, .c (.sl 0 1 0 k)), (4, .c (.p (.i .i64 (2 * (↑w : Int)))))] [.row 23 1 k fun e o => renC [0] (rowC encU out e o)])))
 (.done (.exit 0)
 (cst 50 [(3, .c (.sl 0 1 0 k)), (4, .c (.p (.i .i64 (↑w : Int))))] [.row 23 1 k fun e o => renC [0] (rowC encU out e o)])) := by kernel_rfl
theorem tTo3 (out : List Int) (w k : Nat) : exTs ext0 (lpB (pcs Tryz.prog Tryz.f12) 5) (cst 50 [(3, .c (.sl 0 1 0 k)), (4, iV (w : Nat))] [.row 23 1 k (rowC encU out)]) (endG (msk 50 [3, 4]) (resOf Tryz.prog Tryz.f12)) = bT (decide ((↑k : Int) < (↑w : Int)))
 (.rq (k = k)
 (.rq (1 ≤ 1)
 (.rq ((k + 1) * 8 ≤ 140737488355328 ∧ k + 1 ≤ 140737488355328 ∧ ∀ (e o : Nat), e < 1 → o < 1 → oneC (bslF [C.p (PV.i IntKind.u64 0)] 1 1 (e + 0) o) = true)
 (.done .normal
 (cst 50 [(3, .c (.sl 0 1 0 (k + 1))), (4, .c (.p (.i .i64 (↑w : Int))))] [.row 23 1 (k + 1) fun e o => renC [2] (appF k (rowC encU out) (fun e o => nth C.top [C.p (PV.i IntKind.u64 0)] ((e + 0) * 1 + o)) e o)])))))
 (.done (.exit 2)
 (cst 50 [(3, .c (.sl 0 1 0 k)), (4, .c (.p (.i .i64 (↑w : Int))))] [.row 23 1 k fun e o => renC [0] (rowC encU out e o)])) := by kernel_rfl
theorem tTo4 (M : List Int) : exTs ext0 (takeL 2 (lpB (pcs Tryz.prog Tryz.f12) 6)) (cst 50 [(3, listV encU 1 M)] []) (endG (msk 50 [3]) (resOf Tryz.prog Tryz.f12)) = bT (decide (1 < (↑M.length : Int)))
 (.done .normal
 (cst 50 [(3, .c (.p (.l 1 M.length (rowP encU M))))] []))
 (.done (.exit 4)
 (cst 50 [(3, .c (.p (.l 1 M.length (rowP encU M))))] [])) := by kernel_rfl
theorem tTo5a (M : List Int) : exTs ext0 (takeL 2 (flat (inr (nth .skip (lpB (pcs Tryz.prog Tryz.f12) 6) 2)))) (cst 50 [(3, listV encU 1 M)] []) (endG (msk 50 [3, 5, 6]) (resOf Tryz.prog Tryz.f12)) = Tr.done X.normal
 (cst 50 [(3, .c (.p (.l 1 M.length (rowP encU M)))), (5, .c (.p (.z (Value.slice none 0 0)))), (6, .c (.p (.i .i64 0)))] []) := by kernel_rfl
theorem tTo5 (M out : List Int) (k i : Nat) : exTs extRp (lpB (flat (inr (nth .skip (lpB (pcs Tryz.prog Tryz.f12) 6) 2))) 2) (cst 50 [(3, listV encU 1 M), (5, .c (.sl 0 1 0 k)), (6, iV (i : Nat))] [.row 23 1 k (rowC encU out)]) (endG (msk 50 [3, 5, 6]) (resOf Tryz.prog Tryz.f12)) = Tr.rq (inR IntKind.i64 ((↑i : Int) + 1))
 (bT (decide ((↑i : Int) + 1 < (↑M.length : Int)))
 (.rq (0 ≤ (↑i : Int) ∧ (↑i : Int) < (↑M.length : Int))
 (.rq (inR IntKind.i64 ((↑i : Int) + 1))
 (.rq (0 ≤ (↑i : Int) + 1 ∧ (↑i : Int) + 1 < (↑M.length : Int))
 (.rq True
 (.rq (k = k)
 (.rq (1 ≤ 1)
 (.rq
 ((k + 1) * 8 ≤ 140737488355328 ∧
 k + 1 ≤ 140737488355328 ∧
 ∀ (e o : Nat), e < 1 → o < 1 → oneC (bslF [C.p (PV.i IntKind.u64 (pairZ (M.getD (↑i : Int).toNat default) (M.getD ((↑i : Int) + 1).toNat default)))] 1 1 (e + 0) o) = true)
 (.rq (inR IntKind.i64 ((↑i : Int) + 2))
 (.done .normal
 (cst 50 [(3, .c (.p (.l 1 M.length (rowP encU M)))), (5, .c (.sl 0 1 0 (k + 1))), (6, .c (.p (.i .i64 ((↑i : Int) + 2))))] [.row 23 1 (k + 1) fun e o => renC [2] (appF k (rowC encU out) (fun e o => nth C.top [C.p (PV.i IntKind.u64 (pairZ (M.getD (↑i : Int).toNat default) (M.getD ((↑i : Int) + 1).toNat default)))] ((e + 0) * 1 + o)) e o)]))))))))))
 (.done (.exit 6)
 (cst 50 [(3, .c (.p (.l 1 M.length (rowP encU M)))), (5, .c (.sl 0 1 0 k)), (6, .c (.p (.i .i64 (↑i : Int))))] [.row 23 1 k fun e o => renC [0] (rowC encU out e o)]))) := by kernel_rfl
theorem tTo6 (M out : List Int) (k i : Nat) : exTs ext0 (dropL 3 (flat (inr (nth .skip (lpB (pcs Tryz.prog Tryz.f12) 6) 2)))) (cst 50 [(3, listV encU 1 M), (5, .c (.sl 0 1 0 k)), (6, iV (i : Nat))] [.row 23 1 k (rowC encU out)]) (endG (msk 50 [3]) (resOf Tryz.prog Tryz.f12)) = Tr.done X.normal
 (cst 50 [(3, .c (.sl 0 1 0 k))] [.row 23 1 k fun e o => renC [0] (rowC encU out e o)]) := by kernel_rfl
theorem tTo7 (M : List Int) : exTs ext0 (dropL 7 (pcs Tryz.prog Tryz.f12)) (cst 50 [(3, listV encU 1 M)] []) (endG [] (resOf Tryz.prog Tryz.f12)) = Tr.rq (Int.ofNat 0 ≤ Int.ofNat 0 ∧ 0 < (↑M.length : Int)) (.done .ret (St.mk [V.c (C.p (PV.i IntKind.u64 (M.getD (Int.toNat 0) default)))] [])) := by kernel_rfl
theorem foT_foldZ : ∀ (L : List Int) (h i : Int), foldZ h i L = foT pairZ h i L
  | [], _, _ => rfl
  | x :: r, h, i => by
    show foldZ (stepZ h i x) (i / 2) r = foT pairZ (if i % 2 = 0 then pairZ h x else pairZ x h) (i / 2) r
    rw [foT_foldZ r]; rfl
def pairsL (M : List Int) (j : Nat) : List Int := (List.range j).map fun t => pairZ (M.getD (2 * t) default) (M.getD (2 * t + 1) default)
theorem pairsL_succ (M : List Int) (j : Nat) : pairsL M (j + 1) = pairsL M j ++ [pairZ (M.getD (2 * j) default) (M.getD (2 * j + 1) default)] := by unfold pairsL; rw [List.range_succ, List.map_append]; rfl
theorem pairsL_length (M : List Int) (j : Nat) : (pairsL M j).length = j := by unfold pairsL; simp
theorem levT_pairs (L : List Int) {D k : Nat} (h : k < D) : pairsL (levT pairZ L D k) (2 ^ (D - (k + 1))) = levT pairZ L D (k + 1) := by
  have h2 : 2 ^ (D - k) = 2 * 2 ^ (D - (k + 1)) := by rw [← Nat.pow_succ', show (D - (k + 1)).succ = D - k by omega]
  unfold pairsL
  rw [show levT pairZ L D (k + 1) = (List.range (2 ^ (D - (k + 1)))).map fun j => unT pairZ L (k + 1) (j * 2 ^ (k + 1)) from rfl]
  refine List.map_congr_left fun j hj => ?_
  have hj : j < 2 ^ (D - (k + 1)) := List.mem_range.1 hj
  generalize 2 ^ (D - (k + 1)) = m at h2 hj
  rw [levT_get L default (by rw [h2]; omega), levT_get L default (by rw [h2]; omega)]
  show _ = pairZ _ _
  have e1 : 2 * j * 2 ^ k = j * 2 ^ (k + 1) := by rw [Nat.pow_succ', ← Nat.mul_assoc, Nat.mul_comm j 2]
  have e2 : (2 * j + 1) * 2 ^ k = j * 2 ^ (k + 1) + 2 ^ k := by rw [Nat.add_mul, e1, Nat.one_mul]
  rw [e1, e2]
theorem sib_odd {q : Nat} (h : q % 2 = 1) : sibT q = q - 1 := by unfold sibT; rw [if_pos h]
theorem sib_even {q : Nat} (h : ¬ q % 2 = 1) : sibT q = q + 1 := by unfold sibT; rw [if_neg h]
section
variable {G : Nat → Option Obj}
theorem okPairR : ModOK Tryz.prog G 24 mPair := by
  intro args p v hm hp h
  unfold mPair at hm
  split at hm; rotate_left; · cases hm
  rename_i a b
  obtain ⟨rfl, rfl⟩ := some_pairU hm
  refine fn_kit rfl ?_ h
  intro R w vs hr hg ha
  obtain ⟨u, l, e, hu, ha⟩ := All2.nth2 ha
  obtain ⟨u1, l1, rfl, hu1, ha⟩ := All2.nth2 ha
  obtain rfl := All2.nil2 ha
  have hu : u = .int .u64 a := hu
  have hu1 : u1 = .int .u64 b := hu1
  subst hu; subst hu1
  obtain rfl : vs = #[.int .u64 a, .int .u64 b] := by
    apply Array.ext'
    simpa using e
  refine (rPair_any a b w).mono ?_
  rintro e w' ⟨rfl, hb⟩
  exact ⟨_, rfl, rfl, hb⟩
theorem okFold5 : ModOK Tryz.prog G 11 mFold := by
  intro args p v hm hp h
  unfold mFold at hm
  split at hm; rotate_left; · cases hm
  rename_i h0 i x
  split at hm; rotate_left; · cases hm
  rename_i q L hx
  obtain ⟨rfl, rfl⟩ := some_pairU hm
  clear hm
  obtain ⟨hq, hi, hl⟩ := hp
  refine FnS.args (args' := [u6V h0, iV i, listV encU 1 L]) ?_ (.cons (.refl _) (.cons (.refl _) (.cons (luOf_le hx hq) .nil)))
  refine fn_kit rfl ?_ h
  intro R w vs hr hg ha
  obtain ⟨u, l, e, hu, ha⟩ := All2.nth2 ha
  obtain ⟨u1, l1, rfl, hu1, ha⟩ := All2.nth2 ha
  obtain ⟨u2, l2, rfl, hu2, ha⟩ := All2.nth2 ha
  obtain rfl := All2.nil2 ha
  have hu : u = .int .u64 h0 := hu
  have hu1 : u1 = .int .i64 i := hu1
  subst hu; subst hu1
  obtain ⟨A, c, rfl, hnc, hcm, hc⟩ := (show PR R w (listP encU 1 L) u2 from hu2)
  obtain rfl : vs = #[.int .u64 h0, .int .i64 i, .slice A L.length c] := by
    apply Array.ext'
    simpa using e
  have hRd : Rd w w.heap.size A L.length fun k => .int .u64 (L[k]?.getD 0) := fun hn => by
    obtain ⟨ad, rfl, hRb, hcell⟩ := hc hn
    refine ⟨ad, rfl, hr _ hRb, fun k hk => ?_⟩
    obtain ⟨u, e1, e2⟩ := hcell k 0 hk (by decide)
    have e2 : u = .int .u64 (L.getD k default) := e2
    subst e2
    rw [show k * 1 + 0 = k by omega] at e1
    show w.cell? (ad.add k) = some (.int .u64 (L[k]?.getD 0))
    rw [← List.getD_eq_getElem?_getD]
    exact e1
  refine (rFold5_any h0 i (by simpa [inR] using hi) A L.length c hl _ w hRd).mono ?_
  rintro e w' ⟨rfl, hb⟩
  refine ⟨_, rfl, ?_, hb⟩
  rw [gl_getD, foT_foldZ]
  rfl
theorem extRp_sound : SoundExt Tryz.prog G extRp := extOf_sound (by simp; exact okPairR)
set_option maxRecDepth 100000 in
theorem okDepth : ModOK Tryz.prog G 21 mDepth := by
  intro args p v hm hp h
  unfold mDepth at hm
  split at hm; rotate_left; · cases hm
  rename_i n0
  obtain ⟨rfl, rfl⟩ := some_pairU hm
  clear hm
  obtain ⟨hn0, hn1⟩ := hp
  obtain ⟨n, rfl⟩ : ∃ n : Nat, n0 = n := ⟨n0.toNat, by omega⟩
  rw [show (n : Int).toNat = n from rfl]
  refine fn_S Tryz.func21 (by kernel_rfl) rfl ?_ h
  refine ExS.evG ext0_sound 3 (tDe1 n) ?_
  simp only [holds_leaf, kf_normal]
  refine ⟨?_⟩
  refine ExS.loop' (l := dropL 3 (pcs Tryz.prog Tryz.f21)) (b := inr (inr (nth .skip (pcs Tryz.prog Tryz.f21) 3))) (r := dropL 4 (pcs Tryz.prog Tryz.f21)) (id := 0) (by kernel_rfl) (σ := Nat × Nat)
    (fun x => (fun d w => cst 13 [(0, iV (n : Nat)), (3, iV (d : Nat)), (4, iV (w : Nat))] []) x.1 x.2) (fun x => x.2 = 2 ^ x.1 ∧ (x.1 = 0 ∨ 2 ^ (x.1 - 1) < n)) (fun x => 2000000 - x.2) (0, 1) ⟨rfl, .inl rfl⟩ (weak_of_eq (by kernel_rfl)) ?_
  rintro ⟨d, w⟩ ⟨hw0, hd⟩ Q1 q1n q1e -
  dsimp only at hw0 hd q1n q1e ⊢
  subst hw0
  have hp := Nat.one_le_two_pow (n := d)
  have hd1 : d < 2 ^ d := Nat.lt_two_pow_self
  have e2 : 2 ^ (d + 1) = 2 * 2 ^ d := Nat.pow_succ'
  refine ExS.evH ext0_sound (tDe2 n d (2 ^ d)) ?_
  simp only [holds_bT, holds_rq, holds_leaf, kf_ret', kf_normal, kf_exit, decide_eq_true_eq, decide_eq_false_iff_not, inR]
  obtain ⟨w, hw⟩ : ∃ w, 2 ^ d = w := ⟨_, rfl⟩
  rw [hw] at hp hd1 e2 q1n ⊢
  refine ⟨fun h2 => ⟨by omega, by omega, ⟨q1n (d + 1, 2 * w) _ ⟨e2.symm, .inr (by rw [Nat.add_sub_cancel, hw]; omega)⟩ (show 2000000 - 2 * w < 2000000 - w by omega) (weak_of_eq (by kernel_rfl))⟩⟩, fun h2 => ⟨q1e _ ?_⟩⟩
  have hdd := depT_of (n := n) (d := d) (by rw [hw]; omega) hd
  subst hdd
  refine ExS.evH ext0_sound (tDe3 n (depT n) w) ?_
  simp only [holds_rq, holds_leaf, kf_ret']
  exact ⟨VLe.refl _⟩
theorem under_half {d : Nat} (w i : Nat) (h : w = 2 ^ (i - 1)) (h1 : 1 ≤ i) : 2 * w = 2 ^ (i + 1 - 1) := by
  obtain ⟨k, rfl⟩ : ∃ k, i = k + 1 := ⟨i - 1, by omega⟩
  rw [h]
  simp only [Nat.add_sub_cancel]
  rw [Nat.pow_succ']
set_option maxRecDepth 100000 in
theorem okUnder : ∀ m, ModOK Tryz.prog G 22 (mUnderD m) := by
  intro m
  induction m with
  | zero =>
    intro args p v hm hp h
    unfold mUnderD at hm
    split at hm; rotate_left; · cases hm
    rename_i x a0 d0
    split at hm; rotate_left; · cases hm
    rename_i q L hx
    obtain ⟨rfl, rfl⟩ := some_pairU hm
    clear hm
    obtain ⟨hq, hl, ha, hd, hdm, -, hb⟩ := hp
    obtain ⟨a, rfl⟩ : ∃ a : Nat, a0 = a := ⟨a0.toNat, by omega⟩
    obtain rfl : d0 = ((0 : Nat) : Int) := by omega
    rw [show (a : Int).toNat = a from rfl, show ((0 : Nat) : Int).toNat = 0 from rfl]
    refine FnS.args (args' := [listV encU 1 L, iV a, iV (0 : Nat)]) ?_ (.cons (luOf_le hx hq) (.cons (.refl _) (.cons (.refl _) .nil)))
    refine fn_S Tryz.func22 (by kernel_rfl) rfl ?_ h
    refine ExS.evG ext0_sound 5 (tUn1 L a 0) ?_
    simp only [holds_bT, holds_rq, holds_leaf, kf_ret', kf_normal, decide_eq_true_eq, decide_eq_false_iff_not, beq_iff_eq, beq_eq_false_iff_ne, ne_eq, show (a : Int).toNat = a from rfl]
    refine ⟨fun _ => ⟨fun c => ⟨by omega, ⟨VLe.of_eq rfl⟩⟩, fun c => ⟨?_⟩⟩, fun c => absurd rfl c⟩
    show VLe _ (u6V (L.getD a 0))
    rw [List.getD_eq_getElem?_getD, List.getElem?_eq_none (by omega)]
    exact VLe.refl _
  | succ m ih =>
    intro args p v hm hp h
    unfold mUnderD at hm
    split at hm; rotate_left; · cases hm
    rename_i x a0 d0
    split at hm; rotate_left; · cases hm
    rename_i q L hx
    obtain ⟨rfl, rfl⟩ := some_pairU hm
    clear hm
    obtain ⟨hq, hl, ha, hd, hdm, hm20, hb⟩ := hp
    obtain ⟨a, rfl⟩ : ∃ a : Nat, a0 = a := ⟨a0.toNat, by omega⟩
    obtain ⟨d, rfl⟩ : ∃ d : Nat, d0 = d := ⟨d0.toNat, by omega⟩
    rw [show (a : Int).toNat = a from rfl, show (d : Int).toNat = d from rfl] at hb ⊢
    have hs : SoundExt Tryz.prog G (extUn m) := extOf_sound (by simp; exact ⟨okPairR, ih⟩)
    refine FnS.args (args' := [listV encU 1 L, iV a, iV d]) ?_ (.cons (luOf_le hx hq) (.cons (.refl _) (.cons (.refl _) .nil)))
    refine fn_S Tryz.func22 (by kernel_rfl) rfl ?_ h
    refine ExS.evG ext0_sound 5 (tUn1 L a d) ?_
    simp only [holds_bT, holds_rq, holds_leaf, kf_ret', kf_normal, decide_eq_true_eq, decide_eq_false_iff_not, beq_iff_eq, beq_eq_false_iff_ne, ne_eq, show (a : Int).toNat = a from rfl]
    refine ⟨fun c0 => ?_, fun c0 => ⟨?_⟩⟩
    · obtain rfl : d = 0 := by omega
      refine ⟨fun c => ⟨by omega, ⟨VLe.of_eq rfl⟩⟩, fun c => ⟨?_⟩⟩
      show VLe _ (u6V (L.getD a 0))
      rw [List.getD_eq_getElem?_getD, List.getElem?_eq_none (by omega)]
      exact VLe.refl _
    obtain ⟨d, rfl⟩ : ∃ d', d = d' + 1 := ⟨d - 1, by omega⟩
    refine ExS.loop' (l := dropL 5 (pcs Tryz.prog Tryz.f22)) (b := inr (inr (nth .skip (pcs Tryz.prog Tryz.f22) 5))) (r := dropL 6 (pcs Tryz.prog Tryz.f22)) (id := 0) (by kernel_rfl) (σ := Nat × Nat)
      (fun x => (fun d w i => cst 39 [(0, listV encU 1 L), (1, iV (a : Nat)), (2, iV (d : Nat)), (7, iV (w : Nat)), (8, iV (i : Nat))] []) (d + 1) x.1 x.2) (fun x => x.1 = 2 ^ (x.2 - 1) ∧ 1 ≤ x.2 ∧ x.2 ≤ d + 1) (fun x => d + 1 - x.2) (1, 1) ⟨rfl, by omega, by omega⟩ (weak_of_eq (by kernel_rfl)) ?_
    rintro ⟨w, i⟩ ⟨hw0, hi1, hi2⟩ Q1 q1n q1e -
    dsimp only at hw0 hi1 hi2 q1n q1e ⊢
    have hw1 : w ≤ 2 ^ d := by rw [hw0]; exact Nat.pow_le_pow_right (by omega) (by omega)
    have e2 : 2 ^ (d + 1) = 2 * 2 ^ d := Nat.pow_succ'
    refine ExS.evH ext0_sound (tUn2 L a (d + 1) w i) ?_
    simp only [holds_bT, holds_rq, holds_leaf, kf_ret', kf_normal, kf_exit, decide_eq_true_eq, decide_eq_false_iff_not, inR]
    refine ⟨fun h2 => ⟨by omega, by omega, ⟨q1n (2 * w, i + 1) _ ⟨under_half (d := d) w i hw0 hi1, show 1 ≤ i + 1 by omega, show i + 1 ≤ d + 1 by omega⟩ (show d + 1 - (i + 1) < d + 1 - i by omega) (weak_of_eq (by kernel_rfl))⟩⟩, fun h2 => ⟨q1e _ ?_⟩⟩
    obtain rfl : i = d + 1 := by omega
    rw [Nat.add_sub_cancel] at hw0
    subst hw0
    refine ExS.evH hs (tUn3 L a (d + 1) (2 ^ d) (d + 1) m) ?_
    simp only [holds_bT, holds_rq, holds_leaf, kf_ret', decU_row, isL_row, true_and, inR]
    have e3 : (((d + 1 : Nat) : Int) - 1).toNat = d := by omega
    have e4 : ((a : Int) + ((2 ^ d : Nat) : Int)).toNat = a + 2 ^ d := by omega
    have hp := Nat.one_le_two_pow (n := d)
    rw [e3, e4, show (a : Int).toNat = a from rfl]
    refine ⟨by omega, ⟨hl, by omega, by omega, by omega, by omega, by omega⟩, by omega, by omega, ⟨hl, by omega, by omega, by omega, by omega, by omega⟩, ⟨VLe.of_eq rfl⟩⟩
theorem extPt_sound : SoundExt Tryz.prog G extPt := extOf_sound (by simp; exact ⟨okDepth, okUnder 20⟩)
set_option maxRecDepth 100000 in
theorem okRPath : ModOK Tryz.prog G 8 mPathT := by
  intro args p v hm hp h
  unfold mPathT at hm
  split at hm; rotate_left; · cases hm
  rename_i x i0
  split at hm; rotate_left; · cases hm
  rename_i p1 L hx
  obtain ⟨rfl, rfl⟩ := some_pairU hm
  clear hm
  obtain ⟨hq, h1, h2⟩ := hp
  refine FnS.args (args' := [listV encU 1 L, iV i0]) ?_ (.cons (luOf_le hx hq) (.cons (.refl _) .nil))
  refine fn_S Tryz.func8 (by kernel_rfl) rfl ?_ h
  refine ExS.evG ext0_sound 6 (tRp1 L i0) ?_
  simp only [holds_bT, holds_rq, holds_leaf, kf_ret', kf_normal, decide_eq_true_eq, decide_eq_false_iff_not]
  have bad : ¬ (0 ≤ i0 ∧ i0 < L.length) → VLe (V.t [V1.c (C.p (PV.z (Value.slice none 0 0))), V1.c (C.p (PV.i IntKind.i64 9))]) (pthV L i0) := fun c => by
    unfold pthV pthI errT
    rw [if_neg c, if_neg c]
    exact VLe.t (.cons (VLe.p (PLe.nil 1 _)) (.cons (VLe.refl _) .nil))
  refine ⟨fun c => ⟨bad (by omega)⟩, fun c1 => ⟨fun c2 => ⟨bad (by omega)⟩, fun c2 => ⟨?_⟩⟩⟩
  clear bad
  obtain ⟨i, rfl⟩ : ∃ i : Nat, i0 = i := ⟨i0.toNat, by omega⟩
  have hv : pthV L i = .t [.c (.p (listP encU 1 (pthT pairZ L i (depT L.length)))), .c (.p (.i .i64 0))] := by
    unfold pthV pthI errT
    rw [if_pos (by omega), if_pos (by omega), show (i : Int).toNat = i from rfl]
  rw [hv]
  have hd10 : depT L.length ≤ 10 := depT_small (by omega)
  have hiD := Nat.lt_of_lt_of_le (show i < L.length by omega) (depT_le L.length)
  have hD2 : 2 ^ depT L.length ≤ 1024 := Nat.le_trans (Nat.pow_le_pow_right (by omega) hd10) (by decide)
  refine ExS.loop' (l := dropL 6 (pcs Tryz.prog Tryz.f8)) (b := inr (inr (nth .skip (pcs Tryz.prog Tryz.f8) 6))) (r := dropL 7 (pcs Tryz.prog Tryz.f8)) (id := 0) (by kernel_rfl) (σ := Nat × Nat)
    (fun x => (fun out w e k => cst 48 [(0, listV encU 1 L), (1, iV (i : Nat)), (6, .c (.sl 0 1 0 k)), (7, iV (w : Nat)), (8, iV (e : Nat))] [.row 23 1 k (rowC encU out)]) (pthT pairZ L i x.2) x.1 x.2 x.2) (fun x => x.1 = 2 ^ x.2 ∧ x.2 ≤ depT L.length) (fun x => depT L.length - x.2) (1, 0) ⟨rfl, Nat.zero_le _⟩ ((weak_nil 23 1 (rowC encU []) 6 (by kernel_rfl)).trans (weak_of_eq (by kernel_rfl))) ?_
  rintro ⟨w, e⟩ ⟨hw0, he⟩ Q1 q1n q1e -
  dsimp only at hw0 he q1n q1e ⊢
  have hl := pthT_length (pz := pairZ) L i e
  have e2 : 2 ^ (e + 1) = 2 * 2 ^ e := Nat.pow_succ'
  have hp := Nat.one_le_two_pow (n := e)
  have hwD : 2 ^ e ≤ 2 ^ depT L.length := Nat.pow_le_pow_right (by omega) he
  have hsib : e < depT L.length → sibT (i / w) * w + w ≤ 2 ^ depT L.length := fun hlt => by
    have h3 := sib_lt hiD hlt
    rw [← hw0] at h3
    have h4 : (sibT (i / w) + 1) * w ≤ 2 ^ (depT L.length - e) * w := Nat.mul_le_mul_right _ h3
    rw [Nat.add_mul, Nat.one_mul] at h4
    have h5 : 2 ^ (depT L.length - e) * w = 2 ^ depT L.length := by rw [hw0, ← Nat.pow_add, show depT L.length - e + e = depT L.length by omega]
    omega
  rw [← hw0] at e2 hp hwD
  refine ExS.evH extPt_sound (tRp2 L (pthT pairZ L i e) i w e e) ?_
  have ed : ((i : Int) / (w : Int)) = ((i / w : Nat) : Int) := rfl
  simp only [holds_bT, holds_rq, holds_leaf, kf_ret', kf_normal, kf_exit, decide_eq_true_eq, decide_eq_false_iff_not, beq_iff_eq, beq_eq_false_iff_ne, ne_eq, decU_row, isL_row, true_and, inR, ed, show ∀ n : Nat, (↑n : Int).toNat = n from fun _ => rfl]
  have hq1 : i / w ≤ i := Nat.div_le_self _ _
  clear ed
  obtain ⟨q, hqd⟩ : ∃ q, i / w = q := ⟨_, rfl⟩
  rw [hqd] at hsib hq1 ⊢
  refine ⟨by omega, fun h6 => ⟨by omega, by omega, ⟨by omega, by decide⟩, fun h7 => ?_, fun h7 => ?_⟩, fun h6 => ⟨q1e _ ?_⟩⟩
  rotate_left 2
  · obtain rfl : e = depT L.length := by omega
    refine ExS.evH ext0_sound (tRp3 L (pthT pairZ L i (depT L.length)) i w (depT L.length) (depT L.length)) ?_
    simp only [holds_rq, holds_leaf, kf_ret']
    refine ⟨⟨by omega, fun _ _ _ _ => rfl⟩, ⟨VLe.t (.cons ?_ (.cons (VLe.refl _) .nil))⟩⟩
    unfold listP
    rw [hl]
    exact VLe.refl _
  all_goals
    have h8 := hsib (by omega)
    have hwk : ∀ z, z = sibT q * w → WeakS G (cst 48 [(0, V.c (C.p (PV.l 1 L.length (rowP encU L)))), (1, V.c (C.p (PV.i IntKind.i64 i))), (6, V.c (C.sl 0 1 0 (e + 1))), (7, V.c (C.p (PV.i IntKind.i64 (2 * w)))), (8, V.c (C.p (PV.i IntKind.i64 (e + 1))))] [AO.row 23 1 (e + 1) fun e_1 o => renC [2] (appF e (rowC encU (pthT pairZ L i e)) (fun e_2 o => nth C.top [C.p (PV.i IntKind.u64 (unT pairZ L e z))] ((e_2 + 0) * 1 + o)) e_1 o)]) ((fun out w e k => cst 48 [(0, listV encU 1 L), (1, iV (i : Nat)), (6, .c (.sl 0 1 0 k)), (7, iV (w : Nat)), (8, iV (e : Nat))] [.row 23 1 k (rowC encU out)]) (pthT pairZ L i (e + 1)) (2 * w) (e + 1) (e + 1)) := by
      rintro z rfl
      rw [pthT_succ, ← hw0, hqd]
      exact weak_cst ⟨⟨rfl, rfl, rfl, fun e o he ho => app1' (ρ := [2]) hl (uE_at _) he ho⟩, trivial⟩
  · have ez : (((q : Nat) : Int) - 1) * (w : Int) = ((sibT q * w : Nat) : Int) := by
      rw [sib_odd (by omega), Int.natCast_mul, Int.natCast_sub (by omega)]; rfl
    rw [ez, show ((sibT q * w : Nat) : Int).toNat = sibT q * w from rfl]
    have hwk := hwk _ rfl
    generalize sibT q * w = z at h8 hwk ⊢
    refine ⟨by omega, by omega, ⟨h1, by omega, by omega, by omega, by omega, by omega⟩, by omega, ⟨by omega, by omega, uE_one _⟩, by omega, by omega, ⟨q1n (2 * w, e + 1) _ ⟨e2.symm, show e + 1 ≤ depT L.length by omega⟩ (show depT L.length - (e + 1) < depT L.length - e by omega) hwk⟩⟩
  · have ez : (((q : Nat) : Int) + 1) * (w : Int) = ((sibT q * w : Nat) : Int) := by
      rw [sib_even (by omega), Int.natCast_mul]; rfl
    rw [ez, show ((sibT q * w : Nat) : Int).toNat = sibT q * w from rfl]
    have hwk := hwk _ rfl
    generalize sibT q * w = z at h8 hwk ⊢
    refine ⟨by omega, ⟨h1, by omega, by omega, by omega, by omega, by omega⟩, by omega, ⟨by omega, by omega, uE_one _⟩, by omega, by omega, ⟨q1n (2 * w, e + 1) _ ⟨e2.symm, show e + 1 ≤ depT L.length by omega⟩ (show depT L.length - (e + 1) < depT L.length - e by omega) hwk⟩⟩
set_option maxRecDepth 100000 in
theorem okSameW : ModOK Tryz.prog G 9 mSameW := by
  intro args p v hm hp h
  unfold mSameW at hm
  split at hm; rotate_left; · cases hm
  split at hm; rotate_left; · cases hm
  rename_i x y _ _ p1 A q1 B hx hy
  obtain ⟨rfl, rfl⟩ := some_pairU hm
  clear hm
  obtain ⟨⟨hA, hB⟩, hl⟩ := hp
  refine FnS.args (args' := [listV encU 1 A, listV encU 1 B]) ?_ (.cons (luOf_le hx hA) (.cons (luOf_le hy hB) .nil))
  clear hA hB hx hy
  refine fn_S Tryz.func9 (by kernel_rfl) rfl ?_ h
  refine ExS.evG ext0_sound 4 (tSa1 A B) ?_
  simp only [holds_bT, holds_leaf, kf_ret', kf_normal, bne_iff_ne, bne_eq_false_iff_eq, ne_eq]
  have hne : A ≠ B → Leaf (VLe (V.c (C.p (PV.b false))) (bV (decide (A = B)))) := fun hd => ⟨by rw [decide_eq_false hd]; exact VLe.refl _⟩
  refine ⟨fun c => hne fun e => c (by rw [e]), fun c => ⟨?_⟩⟩
  have hAB : A.length = B.length := by omega
  refine ExS.loop' (l := dropL 4 (pcs Tryz.prog Tryz.f9)) (b := inr (inr (nth .skip (pcs Tryz.prog Tryz.f9) 4))) (r := dropL 5 (pcs Tryz.prog Tryz.f9)) (id := 0) (by kernel_rfl) (σ := Nat)
    (fun i => cst 26 [(0, listV encU 1 A), (1, listV encU 1 B), (5, iV (i : Nat))] []) (fun i => i ≤ A.length ∧ ∀ k, k < i → A.getD k default = B.getD k default) (fun i => A.length - i) 0 ⟨Nat.zero_le _, fun k hk => by omega⟩ (weak_of_eq (by kernel_rfl)) ?_
  rintro i ⟨hi, he⟩ Q1 q1n q1e -
  refine ExS.evH ext0_sound (tSa2 A B i) ?_
  simp only [holds_bT, holds_rq, holds_leaf, kf_ret', kf_normal, kf_exit, decide_eq_true_eq, decide_eq_false_iff_not, bne_iff_ne, bne_eq_false_iff_eq, ne_eq, inR, show (↑i : Int).toNat = i from rfl]
  refine ⟨fun h2 => ⟨by omega, by omega, fun h3 => hne fun e => h3 (by rw [e]), fun h3 => ⟨by omega, ⟨q1n (i + 1) _ ⟨by omega, fun k hk => ?_⟩ (show A.length - (i + 1) < A.length - i by omega) (weak_of_eq (by kernel_rfl))⟩⟩⟩, fun h2 => ⟨q1e _ ?_⟩⟩
  · rcases Nat.lt_or_ge k i with hki | hki
    · exact he k hki
    · obtain rfl : k = i := by omega
      exact h3
  · refine ExS.evH ext0_sound (tSa3 A B i) ?_
    simp only [holds_leaf, kf_ret']
    have e : A = B := by
      apply List.ext_getElem hAB
      intro k h1 h2
      have := he k (by omega)
      rw [List.getD_eq_getElem?_getD, List.getD_eq_getElem?_getD, List.getElem?_eq_getElem h1, List.getElem?_eq_getElem h2] at this
      exact this
    exact ⟨by rw [decide_eq_true e]; exact VLe.refl _⟩
end
end Go.AE
namespace Go.AE
set_option linter.unusedVariables false
set_option linter.unusedSimpArgs false
open Go.Proofs Go.Proofs.YtjfofadeahdnnaaGreatDoor
def extEt : Ext := extOf [(7, mPathT), (8, mPathT), (9, mSameW), (10, mFold), (11, mFold), (12, mTop), (13, mLives35), (6, mAround)]
theorem tEt1 (L P : List Int) (i b : Int) : exTs extEt (takeL 3 (pcs Tryz.prog Tryz.f3)) (st0 Tryz.f3 [listV encU 1 L, iV i, u6V b, listV encU 1 P]) (endG (msk 103 [1, 2, 9, 10]) (resOf Tryz.prog Tryz.f3)) = Tr.rq (0 ≤ (↑0 : Int) ∧ ((↑0 : Int) ≤ if 20 < (↑L.length : Int) then 20 else (↑L.length : Int)) ∧ (if 20 < (↑L.length : Int) then 20 else (↑L.length : Int)) ≤ (↑L.length : Int))
 (.rq (0 ≤ (↑0 : Int) ∧ ((↑0 : Int) ≤ if 12 < (↑P.length : Int) then 12 else (↑P.length : Int)) ∧ (if 12 < (↑P.length : Int) then 12 else (↑P.length : Int)) ≤ (↑P.length : Int))
 (.done .normal
 (cst 103 [(1, .c (.p (.i .i64 i))), (2, .c (.p (.i IntKind.u64 b))), (9, .c (.p (.l 1 ((if 20 < (↑L.length : Int) then 20 else (↑L.length : Int)).toNat - (↑0 : Int).toNat) fun e o => rowP encU L (e + 0) o))), (10, .c (.p (.l 1 ((if 12 < (↑P.length : Int) then 12 else (↑P.length : Int)).toNat - (↑0 : Int).toNat) fun e o => rowP encU P (e + 0) o)))] []))) := by kernel_rfl
theorem tEt2 (L Q : List Int) (i b : Int) : exTs extEt (takeL 2 (dropL 3 (pcs Tryz.prog Tryz.f3))) (cst 103 [(1, iV i), (2, u6V b), (9, listV encU 1 L), (10, listV encU 1 Q)] []) (endG (msk 103 [2, 9, 10, 11, 12]) (resOf Tryz.prog Tryz.f3)) = Tr.rq (inR IntKind.i64 ((↑L.length : Int) + 1))
 (.rq (inR IntKind.i64 i ∧ 0 < (↑L.length : Int) + 1)
 (.done .normal
 (cst 103 [(2, .c (.p (.i IntKind.u64 b))), (9, .c (.p (.l 1 L.length (rowP encU L)))), (10, .c (.p (.l 1 Q.length (rowP encU Q)))), (11, .c (.sl 0 1 0 2)), (12, .c (.p (.i .i64 0)))] [.row 3 1 2 fun e o => renC [0] (nth C.top [C.p (PV.i IntKind.i64 i), C.p (PV.i IntKind.i64 (aroundZ i ((↑L.length : Int) + 1)))] (e * 1 + o))]))) := by kernel_rfl
theorem tEt3 (L Q I : List Int) (b : Int) (k : Nat) : exTs extEt (lpB (pcs Tryz.prog Tryz.f3) 5) (cst 103 [(2, u6V b), (9, listV encU 1 L), (10, listV encU 1 Q), (11, listV encI 1 I), (12, iV (k : Nat))] []) (endG (msk 103 [2, 9, 10, 11, 12]) (resOf Tryz.prog Tryz.f3)) = bT (decide ((↑k : Int) < 2))
 (.rq (0 ≤ (↑k : Int) ∧ (↑k : Int) < (↑I.length : Int))
 (.rq (IsL encU 1 (decL decU L.length (rowP encU L)) L.length (rowP encU L) ∧ (decL decU L.length (rowP encU L)).length ≤ 1000 ∧ inR IntKind.i64 (I.getD (↑k : Int).toNat default))
 (.rq (0 ≤ (↑k : Int) ∧ (↑k : Int) < (↑I.length : Int))
 (.rq (IsL encU 1 (decL decU L.length (rowP encU L)) L.length (rowP encU L) ∧ (decL decU L.length (rowP encU L)).length ≤ 1000 ∧ inR IntKind.i64 (I.getD (↑k : Int).toNat default))
 (bT (errT (decL decU L.length (rowP encU L)) (I.getD (↑k : Int).toNat default) != errT (decL decU L.length (rowP encU L)) (I.getD (↑k : Int).toNat default))
 (.done .ret (St.mk [V.c (C.p (PV.b false))] []))
 (.rq
 ((IsL encU 1
 (decL decU (pthI (decL decU L.length (rowP encU L)) (I.getD (↑k : Int).toNat default)).length
 (rowP encU (pthI (decL decU L.length (rowP encU L)) (I.getD (↑k : Int).toNat default))))
 (pthI (decL decU L.length (rowP encU L)) (I.getD (↑k : Int).toNat default)).length (rowP encU (pthI (decL decU L.length (rowP encU L)) (I.getD (↑k : Int).toNat default))) ∧
 IsL encU 1
 (decL decU (pthI (decL decU L.length (rowP encU L)) (I.getD (↑k : Int).toNat default)).length
 (rowP encU (pthI (decL decU L.length (rowP encU L)) (I.getD (↑k : Int).toNat default))))
 (pthI (decL decU L.length (rowP encU L)) (I.getD (↑k : Int).toNat default)).length (rowP encU (pthI (decL decU L.length (rowP encU L)) (I.getD (↑k : Int).toNat default)))) ∧
 (decL decU (pthI (decL decU L.length (rowP encU L)) (I.getD (↑k : Int).toNat default)).length
 (rowP encU (pthI (decL decU L.length (rowP encU L)) (I.getD (↑k : Int).toNat default)))).length ≤
 1000000)
 (bT
 (!decide
 (decL decU (pthI (decL decU L.length (rowP encU L)) (I.getD (↑k : Int).toNat default)).length
 (rowP encU (pthI (decL decU L.length (rowP encU L)) (I.getD (↑k : Int).toNat default))) =
 decL decU (pthI (decL decU L.length (rowP encU L)) (I.getD (↑k : Int).toNat default)).length
 (rowP encU (pthI (decL decU L.length (rowP encU L)) (I.getD (↑k : Int).toNat default)))))
 (.done .ret (St.mk [V.c (C.p (PV.b false))] []))
 (.rq (0 ≤ (↑k : Int) ∧ (↑k : Int) < (↑I.length : Int))
 (.rq
 (IsL encU 1 (decL decU Q.length (rowP encU Q)) Q.length (rowP encU Q) ∧ inR IntKind.i64 (I.getD (↑k : Int).toNat default) ∧ (decL decU Q.length (rowP encU Q)).length ≤ 1000000)
 (.rq (0 ≤ (↑k : Int) ∧ (↑k : Int) < (↑I.length : Int))
 (.rq
 (IsL encU 1 (decL decU Q.length (rowP encU Q)) Q.length (rowP encU Q) ∧ inR IntKind.i64 (I.getD (↑k : Int).toNat default) ∧ (decL decU Q.length (rowP encU Q)).length ≤ 1000000)
 (bT (foldZ b (I.getD (↑k : Int).toNat default) (decL decU Q.length (rowP encU Q)) != foldZ b (I.getD (↑k : Int).toNat default) (decL decU Q.length (rowP encU Q)))
 (.done .ret (St.mk [V.c (C.p (PV.b false))] []))
 (bT (errT (decL decU L.length (rowP encU L)) (I.getD (↑k : Int).toNat default) == 0)
 (.rq (0 ≤ (↑k : Int) ∧ (↑k : Int) < (↑I.length : Int))
 (.rq (0 ≤ I.getD (↑k : Int).toNat default ∧ I.getD (↑k : Int).toNat default < (↑L.length : Int))
 (.rq (0 ≤ (↑k : Int) ∧ (↑k : Int) < (↑I.length : Int))
 (.rq
 (IsL encU 1
 (decL decU (pthI (decL decU L.length (rowP encU L)) (I.getD (↑k : Int).toNat default)).length
 (rowP encU (pthI (decL decU L.length (rowP encU L)) (I.getD (↑k : Int).toNat default))))
 (pthI (decL decU L.length (rowP encU L)) (I.getD (↑k : Int).toNat default)).length
 (rowP encU (pthI (decL decU L.length (rowP encU L)) (I.getD (↑k : Int).toNat default))) ∧
 inR IntKind.i64 (I.getD (↑k : Int).toNat default) ∧
 (decL decU (pthI (decL decU L.length (rowP encU L)) (I.getD (↑k : Int).toNat default)).length
 (rowP encU (pthI (decL decU L.length (rowP encU L)) (I.getD (↑k : Int).toNat default)))).length ≤
 1000000)
 (.rq (IsL encU 1 (decL decU L.length (rowP encU L)) L.length (rowP encU L) ∧ (decL decU L.length (rowP encU L)).length ≤ 1000)
 (bT
 (foldZ (L.getD (I.getD (↑k : Int).toNat default).toNat default) (I.getD (↑k : Int).toNat default)
 (decL decU (pthI (decL decU L.length (rowP encU L)) (I.getD (↑k : Int).toNat default)).length
 (rowP encU (pthI (decL decU L.length (rowP encU L)) (I.getD (↑k : Int).toNat default)))) !=
 unT pairZ (decL decU L.length (rowP encU L)) (depT (decL decU L.length (rowP encU L)).length) 0)
 (.done .ret (St.mk [V.c (C.p (PV.b false))] []))
 (.rq (inR IntKind.i64 ((↑k : Int) + 1))
 (.done .normal
 (cst 103 [(2, .c (.p (.i IntKind.u64 b))), (9, .c (.p (.l 1 L.length (rowP encU L)))), (10, .c (.p (.l 1 Q.length (rowP encU Q)))), (11, .c (.p (.l 1 I.length (rowP encI I)))), (12, .c (.p (.i .i64 ((↑k : Int) + 1))))] [])))))))))
 (.rq (inR IntKind.i64 ((↑k : Int) + 1))
 (.done .normal
 (cst 103 [(2, .c (.p (.i IntKind.u64 b))), (9, .c (.p (.l 1 L.length (rowP encU L)))), (10, .c (.p (.l 1 Q.length (rowP encU Q)))), (11, .c (.p (.l 1 I.length (rowP encI I)))), (12, .c (.p (.i .i64 ((↑k : Int) + 1))))] []))))))))))))))))
 (.done (.exit 0)
 (cst 103 [(2, .c (.p (.i IntKind.u64 b))), (9, .c (.p (.l 1 L.length (rowP encU L)))), (10, .c (.p (.l 1 Q.length (rowP encU Q)))), (11, .c (.p (.l 1 I.length (rowP encI I)))), (12, .c (.p (.i .i64 (↑k : Int))))] [])) := by kernel_rfl
theorem tEt4 (L Q I : List Int) (b : Int) (k : Nat) : exTs extEt (dropL 6 (pcs Tryz.prog Tryz.f3)) (cst 103 [(2, u6V b), (9, listV encU 1 L), (10, listV encU 1 Q), (11, listV encI 1 I), (12, iV (k : Nat))] []) (endG [] (resOf Tryz.prog Tryz.f3)) = Tr.rq True (.done .ret (St.mk [V.c (C.p (PV.b true))] [])) := by kernel_rfl
theorem bne_self' {α : Type} [BEq α] [LawfulBEq α] (a : α) : (a != a) = false := by simp
section
variable {G : Nat → Option Obj}
set_option maxRecDepth 100000 in
theorem okTop : ModOK Tryz.prog G 12 mTop := by
  intro args p v hm hp h
  unfold mTop at hm
  split at hm; rotate_left; · cases hm
  rename_i x
  split at hm; rotate_left; · cases hm
  rename_i q L hx
  obtain ⟨rfl, rfl⟩ := some_pairU hm
  clear hm
  obtain ⟨hq, hL⟩ := hp
  refine FnS.args (args' := [listV encU 1 L]) ?_ (.cons (luOf_le hx hq) .nil)
  refine fn_S Tryz.func12 (by kernel_rfl) rfl ?_ h
  refine ExS.evG ext0_sound 4 (tTo1 L) ?_
  simp only [holds_rq, holds_leaf, kf_normal, Nat.zero_add]
  have hd10 : depT L.length ≤ 10 := depT_small (by omega)
  have hD2 : 2 ^ depT L.length ≤ 1024 := Nat.le_trans (Nat.pow_le_pow_right (by omega) hd10) (by decide)
  have hnD := depT_le L.length
  refine ⟨⟨by omega, by omega, fun e o _ _ => rfl⟩, ⟨?_⟩⟩
  refine ExS.loop' (l := dropL 4 (pcs Tryz.prog Tryz.f12)) (b := inr (inr (nth .skip (pcs Tryz.prog Tryz.f12) 4))) (r := dropL 5 (pcs Tryz.prog Tryz.f12)) (id := 0) (by kernel_rfl) (σ := Nat × Nat)
    (fun x => (fun out w k => cst 50 [(3, .c (.sl 0 1 0 k)), (4, iV (w : Nat))] [.row 23 1 k (rowC encU out)]) L x.1 L.length) (fun x => x.1 = 2 ^ x.2 ∧ (x.2 = 0 ∨ 2 ^ (x.2 - 1) < L.length)) (fun x => 2000 - x.1) (1, 0) ⟨rfl, .inl rfl⟩ (weak_cst ⟨⟨rfl, rfl, rfl, fun e o he ho => by
      unfold appF renC rowC rowP encU; rfl⟩, trivial⟩) ?_
  rintro ⟨w, d⟩ ⟨hw, hd⟩ Q1 q1n q1e -
  dsimp only at hw hd q1n q1e ⊢
  have e2 : 2 ^ (d + 1) = 2 * 2 ^ d := Nat.pow_succ'
  have hp := Nat.one_le_two_pow (n := d)
  rw [← hw] at e2 hp
  refine ExS.evH ext0_sound (tTo2 L w L.length) ?_
  simp only [holds_bT, holds_rq, holds_leaf, kf_ret', kf_normal, kf_exit, decide_eq_true_eq, decide_eq_false_iff_not, inR]
  refine ⟨fun h2 => ⟨by omega, ⟨q1n (2 * w, d + 1) _ ⟨e2.symm, .inr (by rw [Nat.add_sub_cancel, ← hw]; omega)⟩ (show 2000 - 2 * w < 2000 - w by omega) (weak_of_eq (by kernel_rfl))⟩⟩, fun h2 => ⟨q1e _ ?_⟩⟩
  clear q1n q1e Q1
  have hdd := depT_of (n := L.length) (d := d) (by rw [← hw]; omega) hd
  subst hdd
  clear hd e2 hp
  refine ExS.loop' (l := dropL 5 (pcs Tryz.prog Tryz.f12)) (b := inr (inr (nth .skip (pcs Tryz.prog Tryz.f12) 5))) (r := dropL 6 (pcs Tryz.prog Tryz.f12)) (id := 2) (by kernel_rfl) (σ := Nat)
    (fun j => (fun out w k => cst 50 [(3, .c (.sl 0 1 0 k)), (4, iV (w : Nat))] [.row 23 1 k (rowC encU out)]) (L ++ List.replicate j 0) w (L.length + j)) (fun j => L.length + j ≤ w) (fun j => w - j) 0 (show L.length + 0 ≤ w by omega) (weak_cst ⟨⟨rfl, rfl, rfl, fun e o he ho => by
      simp only [List.replicate_zero, List.append_nil]; rfl⟩, trivial⟩) ?_
  rintro j hj Q1 q1n q1e -
  have hlj : (L ++ List.replicate j 0).length = L.length + j := by simp
  refine ExS.evH ext0_sound (tTo3 (L ++ List.replicate j 0) w (L.length + j)) ?_
  simp only [holds_bT, holds_rq, holds_leaf, kf_ret', kf_normal, kf_exit, decide_eq_true_eq, decide_eq_false_iff_not, inR]
  refine ⟨fun h2 => ⟨trivial, Nat.le_refl _, ⟨by omega, by omega, uE_one _⟩, ⟨q1n (j + 1) _ (show L.length + (j + 1) ≤ w by omega) (show w - (j + 1) < w - j by omega) ?_⟩⟩, fun h2 => ⟨q1e _ ?_⟩⟩
  · show WeakS G _ ((fun out w k => cst 50 [(3, .c (.sl 0 1 0 k)), (4, iV (w : Nat))] [.row 23 1 k (rowC encU out)]) (L ++ List.replicate (j + 1) 0) w (L.length + (j + 1)))
    rw [List.replicate_succ', ← List.append_assoc]
    exact weak_cst ⟨⟨rfl, rfl, rfl, fun e o he ho => app1' (ρ := [2]) hlj (uE_at _) he ho⟩, trivial⟩
  clear q1n q1e Q1
  have hj2 : L.length + j = w := by omega
  have hout : L ++ List.replicate j 0 = levT pairZ L (depT L.length) 0 := by
    rw [levT_zero, ← hw, show w - L.length = j by omega]
  have hl0 : (levT pairZ L (depT L.length) 0).length = L.length + j := by rw [← hout, hlj]
  rw [hout]
  obtain ⟨D, hD⟩ : ∃ D, depT L.length = D := ⟨_, rfl⟩
  rw [hD] at hl0 hw hd10 ⊢
  have frz : ∀ (out : List Int) (k : Nat), out.length = k → WeakS G (cst 50 [(3, V.c (C.sl 0 1 0 k))] [AO.row 23 1 k fun e o => renC [0] (rowC encU out e o)]) ((fun M => cst 50 [(3, listV encU 1 M)] []) out) := by
    rintro out k rfl
    refine (weak_frzL (id := 0) (ty := 23) (sz := 1) (n := out.length) (f := fun e o => renC [0] (rowC encU out e o)) (rowP encU out) (by kernel_rfl) (fun e o he ho => rfl) (fun e o he ho => PLe.refl _) (ps := [(0, out.length)]) (by kernel_rfl) (by simp)).trans ((weak_of_eq (st' := cst 50 [(3, .c (.p (.l 1 out.length fun e o => rowP encU out (e + 0) o)))] [.gone]) (by kernel_rfl)).trans ?_)
    have hw2 : VLe (.c (.p (.l 1 out.length fun e o => rowP encU out (e + 0) o))) (listV encU 1 out) := VLe.refl _
    exact (weak_slot (j := 3) (y := listV encU 1 out) (by exact hw2)).trans ((weak_gc (msk 50 [3]) _).trans (weak_of_eq (by kernel_rfl)))
  refine ExS.loop' (l := dropL 6 (pcs Tryz.prog Tryz.f12)) (b := inr (inr (nth .skip (pcs Tryz.prog Tryz.f12) 6))) (r := dropL 7 (pcs Tryz.prog Tryz.f12)) (id := 4) (by kernel_rfl) (σ := Nat)
    (fun k => (fun M => cst 50 [(3, listV encU 1 M)] []) (levT pairZ L D k)) (fun k => k ≤ D) (fun k => D - k) 0 (Nat.zero_le _) ((weak_gc (msk 50 [3]) _).trans ((weak_of_eq (by kernel_rfl)).trans (frz (levT pairZ L D 0) _ hl0))) ?_
  rintro k hk Q1 q1n q1e -
  have hlk := levT_length (pz := pairZ) L D k
  have hpk : 2 ^ (D - k) ≤ 1024 := Nat.le_trans (Nat.pow_le_pow_right (by omega) (by omega : D - k ≤ 10)) (by decide)
  refine ExS.evG ext0_sound 2 (tTo4 (levT pairZ L D k)) ?_
  simp only [holds_bT, holds_rq, holds_leaf, kf_ret', kf_normal, kf_exit, decide_eq_true_eq, decide_eq_false_iff_not]
  refine ⟨fun h6 => ⟨?_⟩, fun h6 => ⟨q1e _ ?_⟩⟩
  rotate_left
  · obtain rfl : k = D := by
      rcases Nat.lt_or_ge k D with h | h
      · have h2 : 2 ^ (D - k) = 2 * 2 ^ (D - (k + 1)) := by rw [← Nat.pow_succ', show (D - (k + 1)).succ = D - k by omega]
        have := Nat.one_le_two_pow (n := D - (k + 1))
        omega
      · omega
    refine ExS.evH ext0_sound (tTo7 (levT pairZ L k k)) ?_
    simp only [holds_rq, holds_leaf, kf_ret']
    refine ⟨⟨by decide, by rw [hlk]; have := Nat.one_le_two_pow (n := k - k); omega⟩, ⟨?_⟩⟩
    rw [show Int.toNat 0 = 0 from rfl, levT_get L default (Nat.two_pow_pos _), Nat.zero_mul]
    exact VLe.refl _
  have hkD : k < D := by
    rcases Nat.lt_or_ge k D with h | h
    · exact h
    · rw [hlk, show D - k = 0 by omega] at h6
      simp at h6
  obtain ⟨m, hm⟩ : ∃ m, 2 ^ (D - (k + 1)) = m := ⟨_, rfl⟩
  have h2m : 2 ^ (D - k) = 2 * m := by rw [← hm, ← Nat.pow_succ', show (D - (k + 1)).succ = D - k by omega]
  have hpr := levT_pairs L hkD
  rw [hm] at hpr
  rw [h2m] at hlk hpk
  generalize levT pairZ L D k = M at hlk hpr ⊢
  refine ExS.blk' (l := dropL 2 (lpB (pcs Tryz.prog Tryz.f12) 6)) (id := 5) (a := inr (nth .skip (lpB (pcs Tryz.prog Tryz.f12) 6) 2)) (r := dropL 3 (lpB (pcs Tryz.prog Tryz.f12) 6)) (by kernel_rfl) ?_
  intro Q2 q2n q2e _
  refine ExS.evG ext0_sound 2 (tTo5a M) ?_
  simp only [holds_leaf, kf_normal]
  refine ⟨?_⟩
  refine ExS.loop' (l := dropL 2 (flat (inr (nth .skip (lpB (pcs Tryz.prog Tryz.f12) 6) 2)))) (b := inr (inr (nth .skip (flat (inr (nth .skip (lpB (pcs Tryz.prog Tryz.f12) 6) 2))) 2))) (r := dropL 3 (flat (inr (nth .skip (lpB (pcs Tryz.prog Tryz.f12) 6) 2)))) (id := 6) (by kernel_rfl) (σ := Nat)
    (fun j => (fun out k i => cst 50 [(3, listV encU 1 M), (5, .c (.sl 0 1 0 k)), (6, iV (i : Nat))] [.row 23 1 k (rowC encU out)]) (pairsL M j) j (2 * j)) (fun j => 2 * j ≤ M.length) (fun j => M.length - j) 0 (Nat.zero_le _) ((weak_nil 23 1 (rowC encU []) 5 (by kernel_rfl)).trans (weak_of_eq (by kernel_rfl))) ?_
  rintro j hj Q3 q3n q3e -
  have hlj := pairsL_length M j
  refine ExS.evH extRp_sound (tTo5 M (pairsL M j) j (2 * j)) ?_
  have e1 : (((2 * j : Nat) : Int) + 1).toNat = 2 * j + 1 := by omega
  simp only [holds_bT, holds_rq, holds_leaf, kf_normal, kf_exit, decide_eq_true_eq, decide_eq_false_iff_not, inR, e1, show ((2 * j : Nat) : Int).toNat = 2 * j from rfl]
  refine ⟨by omega, fun h7 => ⟨by omega, by omega, by omega, trivial, trivial, Nat.le_refl _, ⟨by omega, by omega, uE_one _⟩, by omega, ⟨q3n (j + 1) _ (show 2 * (j + 1) ≤ M.length by omega) (show M.length - (j + 1) < M.length - j by omega) ?_⟩⟩, fun h7 => ⟨q3e _ ?_⟩⟩
  · show WeakS G _ ((fun out k i => cst 50 [(3, listV encU 1 M), (5, .c (.sl 0 1 0 k)), (6, iV (i : Nat))] [.row 23 1 k (rowC encU out)]) (pairsL M (j + 1)) (j + 1) (2 * (j + 1)))
    rw [pairsL_succ]
    exact weak_cst ⟨⟨rfl, rfl, rfl, fun e o he ho => app1' (ρ := [2]) hlj (uE_at _) he ho⟩, trivial⟩
  · obtain rfl : j = m := by omega
    refine ExS.evH ext0_sound (tTo6 M (pairsL M j) j (2 * j)) ?_
    simp only [holds_leaf, kf_normal]
    refine ⟨q2n _ ?_⟩
    rw [hpr]
    rw [hpr] at hlj
    exact ⟨_, frz _ _ hlj, q1n (k + 1) _ (show k + 1 ≤ D by omega) (show D - (k + 1) < D - k by omega) (WeakS.refl _)⟩
set_option maxRecDepth 100000 in
theorem evTree_fn (hLv : ModOK Tryz.prog G 13 mLives35) {b i : Int} {L P : List Int} (hb : U64 b) (hi : inR .i64 i) (h : List AO) : FnS Tryz.prog G 3 [listV encU 1 L, iV i, u6V b, listV encU 1 P] h fun x h' => x = bV true ∧ h' = h := by
  have hs : SoundExt Tryz.prog G extEt := extOf_sound (by simp; exact ⟨okPathT, okRPath, okSameW, okFold, okFold5, okTop, hLv, okAround⟩)
  refine fn_S Tryz.func3 (by kernel_rfl) rfl ?_ h
  refine ExS.evG hs 3 (tEt1 L P i b) ?_
  simp only [holds_rq, holds_leaf, kf_normal]
  refine ⟨by omega, by omega, ⟨?_⟩⟩
  obtain ⟨M, hM⟩ : ∃ M, M = L.take 20 := ⟨_, rfl⟩
  obtain ⟨Q, hQ⟩ : ∃ Q, Q = P.take 12 := ⟨_, rfl⟩
  have hMl : M.length ≤ 20 := by rw [hM, List.length_take]; omega
  have hQl : Q.length ≤ 12 := by rw [hQ, List.length_take]; omega
  have hw : VLe (V.c (C.p (PV.l 1 ((if (20 : Int) < (L.length : Int) then 20 else (L.length : Int)).toNat - (0 : Int).toNat) fun e o => rowP encU L (e + 0) o))) (listV encU 1 M) := by
    have hn : (if (20 : Int) < (L.length : Int) then 20 else (L.length : Int)).toNat - (0 : Int).toNat = M.length := by
      rw [hM, List.length_take]; split <;> omega
    rw [hn]
    refine VLe.p (PLe.l fun e o he ho => PLe.of_eq ?_)
    unfold rowP
    rw [hM, List.getD_eq_getElem?_getD, List.getD_eq_getElem?_getD, List.getElem?_take, if_pos (by omega), Nat.add_zero]
  have hw2 : VLe (V.c (C.p (PV.l 1 ((if (12 : Int) < (P.length : Int) then 12 else (P.length : Int)).toNat - (0 : Int).toNat) fun e o => rowP encU P (e + 0) o))) (listV encU 1 Q) := by
    have hn : (if (12 : Int) < (P.length : Int) then 12 else (P.length : Int)).toNat - (0 : Int).toNat = Q.length := by
      rw [hQ, List.length_take]; split <;> omega
    rw [hn]
    refine VLe.p (PLe.l fun e o he ho => PLe.of_eq ?_)
    unfold rowP
    rw [hQ, List.getD_eq_getElem?_getD, List.getD_eq_getElem?_getD, List.getElem?_take, if_pos (by omega), Nat.add_zero]
  refine ExS.pre ((weak_slot (j := 9) (y := listV encU 1 M) (by exact hw)).trans ((weak_slot (j := 10) (y := listV encU 1 Q) (by exact hw2)).trans (weak_of_eq (st' := (fun L Q => cst 103 [(1, iV i), (2, u6V b), (9, listV encU 1 L), (10, listV encU 1 Q)] []) M Q) (by kernel_rfl)))) ?_
  dsimp only
  clear hM hQ hw hw2
  refine ExS.evG hs 2 (tEt2 M Q i b) ?_
  have hr : 0 ≤ aroundZ i ((M.length : Int) + 1) ∧ aroundZ i ((M.length : Int) + 1) < (M.length : Int) + 1 := ⟨Int.emod_nonneg _ (by omega), Int.emod_lt_of_pos _ (by omega)⟩
  obtain ⟨j, hj⟩ : ∃ j, aroundZ i ((M.length : Int) + 1) = j := ⟨_, rfl⟩
  rw [hj] at hr
  simp only [holds_rq, holds_leaf, kf_normal, hj]
  refine ⟨by simp only [inR]; omega, ⟨hi, by omega⟩, ⟨?_⟩⟩
  have hI : ∀ k, inR .i64 ([i, j].getD k default) := fun k => by
    match k with
    | 0 => exact hi
    | 1 => show inR .i64 j; simp only [inR]; omega
    | k + 2 => show inR .i64 0; simp only [inR]; omega
  have hIl : [i, j].length = 2 := rfl
  have hf : ∀ e o, e < 2 → o < 1 → renC [0] (nth C.top [C.p (PV.i IntKind.i64 i), C.p (PV.i IntKind.i64 j)] (e * 1 + o)) = .p (rowP encI [i, j] e o) := by
    intro e o he ho
    obtain rfl : o = 0 := by omega
    match e, he with
    | 0, _ => rfl
    | 1, _ => rfl
  refine ExS.pre ((weak_frzL (id := 0) (ty := 3) (sz := 1) (n := 2) (f := fun e o => renC [0] (nth C.top [C.p (PV.i IntKind.i64 i), C.p (PV.i IntKind.i64 j)] (e * 1 + o))) (rowP encI [i, j]) (by kernel_rfl) (fun e o he ho => by rw [hf e o he ho]; rfl) (fun e o he ho => by rw [hf e o he ho]; exact PLe.refl _) (ps := [(0, 2)]) (by kernel_rfl) (by simp)).trans (weak_of_eq (st' := cst 103 [(2, u6V b), (9, listV encU 1 M), (10, listV encU 1 Q), (11, .c (.p (.l 1 2 fun e o => rowP encI [i, j] (e + 0) o))), (12, iV (0 : Nat))] [.gone]) (by kernel_rfl))) ?_
  have hw3 : VLe (.c (.p (.l 1 2 fun e o => rowP encI [i, j] (e + 0) o))) (listV encI 1 [i, j]) := VLe.refl _
  refine ExS.pre ((weak_slot (j := 11) (y := listV encI 1 [i, j]) (by exact hw3)).trans ((weak_gc (msk 103 [2, 9, 10, 11, 12]) _).trans (weak_of_eq (st' := (fun L I k => cst 103 [(2, u6V b), (9, listV encU 1 L), (10, listV encU 1 Q), (11, listV encI 1 I), (12, iV (k : Nat))] []) M [i, j] 0) (by kernel_rfl)))) ?_
  dsimp only
  clear hw3 hf hj
  generalize [i, j] = I at hI hIl ⊢
  refine ExS.loop' (l := dropL 5 (pcs Tryz.prog Tryz.f3)) (b := inr (inr (nth .skip (pcs Tryz.prog Tryz.f3) 5))) (r := dropL 6 (pcs Tryz.prog Tryz.f3)) (id := 0) (by kernel_rfl) (σ := Nat)
    (fun k => (fun L => cst 103 [(2, u6V b), (9, listV encU 1 L), (10, listV encU 1 Q), (11, listV encI 1 I), (12, iV (k : Nat))] []) M) (fun k => k ≤ 2) (fun k => 2 - k) 0 (Nat.zero_le _) (weak_of_eq (by kernel_rfl)) ?_
  rintro k hk Q1 q1n q1e -
  refine ExS.evH hs (tEt3 M Q I b k) ?_
  obtain ⟨x, hx⟩ : ∃ x, I.getD k default = x := ⟨_, rfl⟩
  have hxr := hI k
  rw [hx] at hxr
  have hfold : errT M x = 0 → 0 ≤ x ∧ x < (M.length : Int) ∧ foldZ (M.getD x.toNat default) x (pthI M x) = unT pairZ M (depT M.length) 0 := fun h => by
    unfold errT at h
    split at h
    · rename_i h2
      refine ⟨h2.1, h2.2, ?_⟩
      obtain ⟨n, rfl⟩ : ∃ n : Nat, x = n := ⟨x.toNat, by omega⟩
      unfold pthI
      rw [if_pos h2, foT_foldZ]
      exact foT_top M (by omega)
    · cases h
  have hpl : (pthI M x).length ≤ 1000000 := by
    unfold pthI
    split
    · rw [pthT_length]
      have : depT M.length ≤ 10 := depT_small (by omega)
      omega
    · simp
  simp only [holds_bT, holds_rq, holds_leaf, kf_ret', kf_normal, kf_exit, decide_eq_true_eq, decide_eq_false_iff_not, decU_row, isL_row, true_and, show (↑k : Int).toNat = k from rfl, hx, bne_self', decide_true, Bool.not_true, Bool.false_eq_true, false_imp_iff, true_imp_iff, beq_iff_eq, beq_eq_false_iff_ne, ne_eq]
  have nx : ∀ st, st = (fun L k => cst 103 [(2, u6V b), (9, listV encU 1 L), (10, listV encU 1 Q), (11, listV encI 1 I), (12, iV (k : Nat))] []) M (k + 1) → k < 2 → Q1 .normal st := by
    rintro st rfl h2
    exact q1n (k + 1) _ (show k + 1 ≤ 2 by omega) (show 2 - (k + 1) < 2 - k by omega) (WeakS.refl _)
  refine ⟨fun h2 => ⟨by omega, ⟨by omega, hxr⟩, by omega, ⟨by omega, hxr⟩, hpl, by omega, ⟨hxr, by omega⟩, by omega, ⟨hxr, by omega⟩, fun h3 => ?_, fun h3 => ⟨by simp only [inR]; omega, ⟨nx _ (by kernel_rfl) (by omega)⟩⟩⟩, fun h2 => ⟨q1e _ ?_⟩⟩
  · obtain ⟨a1, a2, a3⟩ := hfold h3
    refine ⟨by omega, ⟨a1, a2⟩, by omega, ⟨hxr, hpl⟩, by omega, fun h4 => ?_, fun _ => ⟨by simp only [inR]; omega, ⟨nx _ (by kernel_rfl) (by omega)⟩⟩⟩
    rw [a3] at h4
    simp at h4
  · refine ExS.evH hs (tEt4 M Q I b k) ?_
    simp only [holds_rq, holds_leaf, kf_ret', true_and]
    exact ⟨VLe.refl _⟩
end
end Go.AE
