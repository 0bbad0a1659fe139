/- Pages: Grp, V1, V2, as far as they are used here. -/
import Derived.Test.YtjfofadeahdnnaaGreatDoorRows
import Derived.Test.YtjfofadeahdnnaaGreatDoorEPh
import Derived.ProofKit
import Derived.OpenShut
import Derived.Lib.LaidTab
import Derived.Test.YtjfofadeahdnnaaGreatDoorEPe
import Derived.Test.YtjfofadeahdnnaaGreatDoorEPi
namespace Go.CE
noncomputable def gw : List C := [.f (.s [115, 117, 109]), .f (.s [109, 105, 110]), .f (.s [109, 97, 120]), .f (.s [99, 111, 117, 110, 116]), .f (.s [107, 116, 104])]
end Go.CE
namespace Go.Proofs.YtjfofadeahdnnaaGreatDoor
open Go.ChangeShapes Go.WideShapes Go.ChangeAt Go.RowKit
theorem gGrp : Tryz.prog.globalNamed "intervalmon/parser.groupWords" = some 0 := by kernel_rfl
theorem gGrpType : (Tryz.prog.globals[0]?).map (·.type) = some 314 := by kernel_rfl
theorem cellsStr1 : Tryz.prog.cellsOf 9 = 1 := by kernel_rfl
def GrpW (W : World) : Prop := ∃ o, W.heap[0]? = some o ∧ Go.CE.GlbOK o Go.CE.gw
theorem grp_of_laid {W : World} (h : laidMetH Tryz.prog [("intervalmon/parser.groupWords", Rows.laid_intervalmon_parser_groupWords)] W) : GrpW W := by
  obtain ⟨ps, ⟨g', t', cs, fuel, p, q, hg', ht', hvar, hd, _, _⟩, _⟩ := h
  obtain rfl := Option.some.inj (gGrp.symm.trans hg')
  obtain rfl := Option.some.inj (gGrpType.symm.trans ht')
  obtain ⟨xs, m, _, ex, hlc, hl, hel⟩ := DataW.trod_array Tryz.underlying314 hd
  simp only [Prod.mk.injEq] at ex
  have hdat : xs.map (·.1) = [DataW.lit (.string [115, 117, 109]), .lit (.string [109, 105, 110]), .lit (.string [109, 97, 120]), .lit (.string [99, 111, 117, 110, 116]), .lit (.string [107, 116, 104])] := by
    have := ex.1
    unfold Rows.laid_intervalmon_parser_groupWords at this
    injection this with this
    exact this.symm
  rw [cellsStr1] at hel
  have key : ∀ (i : Nat) (bs : List UInt8), i < 5 → (xs.map (·.1))[i]? = some (DataW.lit (.string bs)) → ∃ s : ByteArray, cs[i]? = some (.string s) ∧ s.data.toList = bs := by
    intro i bs hi hz
    have hi' : i < xs.length := by omega
    have h1 := hel i hi
    rw [List.getElem?_map, List.getElem?_eq_getElem hi'] at hz
    rw [List.getElem?_eq_getElem hi'] at h1
    have hz' : (xs[i]).1 = DataW.lit (.string bs) := by injection hz
    obtain ⟨s, e1, e2, _⟩ := DataW.trod_string Tryz.underlying9 h1
    refine ⟨s, ?_, ?_⟩
    · have := congrArg (·[0]?) e1
      simpa [List.getElem?_take, List.getElem?_drop] using this
    · rw [e2] at hz'
      injection hz' with hz'
      injection hz'
  rw [hdat] at key
  have hv : ∃ ty fz, W.heap[0]? = some (.cells cs ty fz) := by
    unfold World.var? at hvar
    rw [gGrp] at hvar
    simp only [Option.bind_some] at hvar
    split at hvar
    · rename_i c t f e; cases hvar; exact ⟨_, _, e⟩
    · cases hvar
  obtain ⟨ty, fz, hv⟩ := hv
  refine ⟨_, hv, cs, ty, fz, rfl, ?_, ?_⟩
  · obtain ⟨s, h1, _⟩ := key 4 _ (by omega) rfl
    have := (Array.getElem?_eq_some_iff.1 h1).1
    show 5 ≤ cs.size
    omega
  · intro k c hc
    have fin : ∀ (i : Nat) (bs : List UInt8), i < 5 → (∃ s : ByteArray, cs[i]? = some (.string s) ∧ s.data.toList = bs) → ∃ u, cs[i]? = some u ∧ Go.CE.CR Go.CE.Bt.nil (.f (.s (bs.map UInt8.toNat))) u := fun i bs hi ⟨s, h1, h2⟩ => ⟨_, h1, s, rfl, by rw [h2]⟩
    have hk : k = 0 ∨ k = 1 ∨ k = 2 ∨ k = 3 ∨ k = 4 := by
      have : k < 5 := (List.getElem?_eq_some_iff.1 hc).1
      omega
    rcases hk with rfl | rfl | rfl | rfl | rfl <;> cases hc
    · exact fin 0 _ (by omega) (key 0 _ (by omega) rfl)
    · exact fin 1 _ (by omega) (key 1 _ (by omega) rfl)
    · exact fin 2 _ (by omega) (key 2 _ (by omega) rfl)
    · exact fin 3 _ (by omega) (key 3 _ (by omega) rfl)
    · exact fin 4 _ (by omega) (key 4 _ (by omega) rfl)
end Go.Proofs.YtjfofadeahdnnaaGreatDoor
namespace Go.AE
set_option linter.unusedVariables false
set_option linter.unusedSimpArgs false
open Go.Proofs Go.Proofs.YtjfofadeahdnnaaGreatDoor
def u6V (n : Int) : V := .c (.p (.i .u64 n))
def encU (x : Int) (_ : Nat) : PV := .i .u64 x
def decU (f : Nat → PV) : Int := intOfP (f 0)
def pairZ (a b : Int) : Int := sumI (wordsF (PlainAid.bt ⟨#[112, 97, 105, 114]⟩) 4 1) 4 [toI a, toI b]
def mPair : Mod
  | [.c (.p (.i .u64 a)), .c (.p (.i .u64 b))] => some (True, u6V (pairZ a b))
  | _ => none
def stepZ (h i x : Int) : Int := if i % 2 = 0 then pairZ h x else pairZ x h
def foldZ (h i : Int) : List Int → Int
  | [] => h
  | x :: r => foldZ (stepZ h i x) (i / 2) r
def uOf : PV → Option (Prop × List Int)
  | .l sz n f => match Nat.beq sz 1 with
    | true => some (IsL encU 1 (decL decU n f) n f, decL decU n f)
    | false => none
  | .z (.slice none 0 0) => some (True, [])
  | _ => none
def luOf : V → Option (Prop × List Int)
  | .c (.p x) => uOf x
  | _ => none
def mFold : Mod
  | [.c (.p (.i .u64 h)), .c (.p (.i .i64 i)), x] => match luOf x with
    | some (p, L) => some (p ∧ inR .i64 i ∧ L.length ≤ 1000000, u6V (foldZ h i L))
    | _ => none
  | _ => none
def extPa : Ext := extOf [(23, mPair)]
theorem tFo1 (h i : Int) (L : List Int) : exTs extPa (takeL 3 (pcs Tryz.prog Tryz.f10)) (st0 Tryz.f10 [u6V h, iV i, listV encU 1 L]) (endG (msk 34 [1, 7, 12, 13, 14]) (resOf Tryz.prog Tryz.f10)) = Tr.done X.normal
 (cst 34 [(1, .c (.p (.i .i64 i))), (7, .c (.p (.i IntKind.u64 h))), (12, .c (.p (.l 1 L.length (rowP encU L)))), (13, .c (.p (.i .i64 (↑L.length : Int)))), (14, .c (.p (.i .i64 0)))] []) := by kernel_rfl
theorem tFo2 (h i : Int) (L : List Int) (k : Nat) : exTs extPa (lpB (pcs Tryz.prog Tryz.f10) 3) (cst 34 [(1, iV i), (7, u6V h), (12, listV encU 1 L), (13, iV (L.length : Nat)), (14, iV (k : Nat))] []) (endG (msk 34 [1, 7, 12, 13, 14]) (resOf Tryz.prog Tryz.f10)) = bT (decide ((↑k : Int) < (↑L.length : Int)))
 (.rq (0 ≤ (↑k : Int) ∧ (↑k : Int) < (↑L.length : Int))
 (.rq (0 ≤ IntKind.i64.wrap (↑(BitVec.ofInt 64 i &&& BitVec.ofInt 64 1).toNat : Int) ∧ IntKind.i64.wrap (↑(BitVec.ofInt 64 i &&& BitVec.ofInt 64 1).toNat : Int) < (↑2 : Int))
 (bT (decide (IntKind.i64.wrap (↑(BitVec.ofInt 64 i &&& BitVec.ofInt 64 1).toNat : Int) = (↑0 : Int)))
 (.rq True
 (.rq (Int.ofNat 0 ≤ Int.ofNat 1)
 (.rq (inR IntKind.i64 ((↑k : Int) + 1))
 (.done .normal
 (cst 34 [(1, .c (.p (.i .i64 (i.fdiv (2 ^ min (Int.toNat 1) IntKind.i64.bits))))), (7, .c (.p (.i IntKind.u64 (pairZ h (L.getD (↑k : Int).toNat default))))), (12, .c (.p (.l 1 L.length (rowP encU L)))), (13, .c (.p (.i .i64 (↑L.length : Int)))), (14, .c (.p (.i .i64 ((↑k : Int) + 1))))] [])))))
 (.rq True
 (.rq (Int.ofNat 0 ≤ Int.ofNat 1)
 (.rq (inR IntKind.i64 ((↑k : Int) + 1))
 (.done .normal
 (cst 34 [(1, .c (.p (.i .i64 (i.fdiv (2 ^ min (Int.toNat 1) IntKind.i64.bits))))), (7, .c (.p (.i IntKind.u64 (pairZ (L.getD (↑k : Int).toNat default) h)))), (12, .c (.p (.l 1 L.length (rowP encU L)))), (13, .c (.p (.i .i64 (↑L.length : Int)))), (14, .c (.p (.i .i64 ((↑k : Int) + 1))))] []))))))))
 (.done (.exit 0)
 (cst 34 [(1, .c (.p (.i .i64 i))), (7, .c (.p (.i IntKind.u64 h))), (12, .c (.p (.l 1 L.length (rowP encU L)))), (13, .c (.p (.i .i64 (↑L.length : Int)))), (14, .c (.p (.i .i64 (↑k : Int))))] [])) := by kernel_rfl
theorem tFo3 (h i : Int) (L : List Int) (k : Nat) : exTs extPa (dropL 4 (pcs Tryz.prog Tryz.f10)) (cst 34 [(1, iV i), (7, u6V h), (12, listV encU 1 L), (13, iV (L.length : Nat)), (14, iV (k : Nat))] []) (endG [] (resOf Tryz.prog Tryz.f10)) = Tr.done X.ret (St.mk [V.c (C.p (PV.i IntKind.u64 h))] []) := by kernel_rfl
theorem some_pairU {p q : Prop} {v u : V} (e : some (p, v) = some (q, u)) : p = q ∧ v = u := by
  injection e with e
  injection e with h1 h2
  exact ⟨h1, h2⟩
theorem decU_row (L : List Int) : decL decU L.length (rowP encU L) = L := decL_row (fun _ => rfl) L
theorem uOf_le {x : PV} {p : Prop} {L : List Int} (h : uOf x = some (p, L)) (hp : p) : PLe x (listP encU 1 L) := by
  unfold uOf at h
  split at h
  · split at h
    · rename_i hz
      have := Nat.eq_of_beq_eq_true hz
      subst this
      injection h with h; injection h with h1 h2
      subst h1; subst h2
      obtain ⟨h3, h4⟩ := hp
      unfold listP
      rw [h3]
      exact PLe.l fun e o he ho => PLe.of_eq (h4 e o he ho)
    · cases h
  · injection h with h; injection h with h1 h2
    subst h1; subst h2
    exact PLe.nil 1 _
  · cases h
theorem luOf_le {x : V} {p : Prop} {L : List Int} (h : luOf x = some (p, L)) (hp : p) : VLe x (listV encU 1 L) := by
  unfold luOf at h
  split at h
  · exact VLe.p (uOf_le h hp)
  · cases h
theorem and1 (i : Int) : IntKind.i64.wrap (↑(BitVec.ofInt 64 i &&& BitVec.ofInt 64 1).toNat : Int) = i % 2 := by
  have e1 : (BitVec.ofInt 64 i &&& BitVec.ofInt 64 1).toNat = (BitVec.ofInt 64 i).toNat % 2 := by
    rw [BitVec.toNat_and]
    show (BitVec.ofInt 64 i).toNat &&& 1 = _
    rw [Nat.and_one_is_mod]
  rw [e1, BitVec.toNat_ofInt]
  rw [wrap_in (k := .i64) (by simp only [inR]; omega)]
  omega
theorem shr1 (i : Int) : i.fdiv (2 ^ min (Int.toNat 1) IntKind.i64.bits) = i / 2 := by
  show i.fdiv 2 = i / 2
  rw [Int.fdiv_eq_ediv_of_nonneg _ (by decide)]
theorem foldZ_drop (h i : Int) (L : List Int) (k : Nat) (hk : k < L.length) : foldZ h i (L.drop k) = foldZ (stepZ h i (L.getD k default)) (i / 2) (L.drop (k + 1)) := by
  rw [List.drop_eq_getElem_cons hk]
  show foldZ (stepZ h i L[k]) (i / 2) (L.drop (k + 1)) = _
  rw [List.getD_eq_getElem?_getD, List.getElem?_eq_getElem hk]; rfl
section
variable {G : Nat → Option Obj}
theorem okPair : ModOK Tryz.prog G 23 mPair := by
  intro args p v hm hp h
  unfold mPair at hm
  split at hm; rotate_left; · cases hm
  rename_i a b
  obtain ⟨rfl, rfl⟩ := some_pairU hm
  refine fn_kit rfl ?_ h
  intro R w vs hr hg ha
  obtain ⟨u, l, e, hu, ha⟩ := All2.nth2 ha
  obtain ⟨u1, l1, rfl, hu1, ha⟩ := All2.nth2 ha
  obtain rfl := All2.nil2 ha
  have hu : u = .int .u64 a := hu
  have hu1 : u1 = .int .u64 b := hu1
  subst hu; subst hu1
  obtain rfl : vs = #[.int .u64 a, .int .u64 b] := by
    apply Array.ext'
    simpa using e
  refine (pair_any a b w).mono ?_
  rintro e w' ⟨rfl, hb⟩
  exact ⟨_, rfl, rfl, hb⟩
theorem extPa_sound : SoundExt Tryz.prog G extPa := extOf_sound (by simp; exact okPair)
set_option maxRecDepth 100000 in
theorem okFold : ModOK Tryz.prog G 10 mFold := by
  intro args p v hm hp h
  unfold mFold at hm
  split at hm; rotate_left; · cases hm
  rename_i h0 i x
  split at hm; rotate_left; · cases hm
  rename_i q L hx
  obtain ⟨rfl, rfl⟩ := some_pairU hm
  clear hm
  obtain ⟨hq, hi, hl⟩ := hp
  refine FnS.args (args' := [u6V h0, iV i, listV encU 1 L]) ?_ (.cons (.refl _) (.cons (.refl _) (.cons (luOf_le hx hq) .nil)))
  refine fn_S Tryz.func10 (by kernel_rfl) rfl ?_ h
  refine ExS.evG extPa_sound 3 (tFo1 h0 i L) ?_
  simp only [holds_leaf, kf_normal]
  refine ⟨?_⟩
  refine ExS.loop' (l := dropL 3 (pcs Tryz.prog Tryz.f10)) (b := inr (inr (nth .skip (pcs Tryz.prog Tryz.f10) 3))) (r := dropL 4 (pcs Tryz.prog Tryz.f10)) (id := 0) (by kernel_rfl) (σ := Int × Int × Nat)
    (fun x => (fun h i k => cst 34 [(1, iV i), (7, u6V h), (12, listV encU 1 L), (13, iV (L.length : Nat)), (14, iV (k : Nat))] []) x.1 x.2.1 x.2.2) (fun x => x.2.2 ≤ L.length ∧ inR .i64 x.2.1 ∧ foldZ x.1 x.2.1 (L.drop x.2.2) = foldZ h0 i L) (fun x => L.length - x.2.2) (h0, i, 0) ⟨Nat.zero_le _, hi, rfl⟩ (weak_of_eq (by kernel_rfl)) ?_
  rintro ⟨h1, i1, k⟩ ⟨hk, hi1, hf⟩ Q1 q1n q1e -
  dsimp only at hk hi1 hf q1n q1e ⊢
  refine ExS.evH extPa_sound (tFo2 h1 i1 L k) ?_
  simp only [and1, shr1, holds_bT, holds_rq, holds_leaf, kf_normal, kf_exit, decide_eq_true_eq, decide_eq_false_iff_not]
  have hi2 : inR .i64 (i1 / 2) := by simp only [inR] at hi1 ⊢; omega
  refine ⟨fun c1 => ⟨by omega, by omega, fun c2 => ⟨trivial, by decide, by simp only [inR]; omega, ⟨q1n (stepZ h1 i1 (L.getD k default), i1 / 2, k + 1) _ ⟨show k + 1 ≤ L.length by omega, hi2, ?_⟩ (show L.length - (k + 1) < L.length - k by omega) (weak_of_eq ?_)⟩⟩, fun c2 => ⟨trivial, by decide, by simp only [inR]; omega, ⟨q1n (stepZ h1 i1 (L.getD k default), i1 / 2, k + 1) _ ⟨show k + 1 ≤ L.length by omega, hi2, ?_⟩ (show L.length - (k + 1) < L.length - k by omega) (weak_of_eq ?_)⟩⟩⟩, fun c1 => ⟨q1e _ ?_⟩⟩
  · rw [← hf, foldZ_drop h1 i1 L k (by omega)]
  · unfold stepZ; rw [if_pos c2]; rfl
  · rw [← hf, foldZ_drop h1 i1 L k (by omega)]
  · unfold stepZ; rw [if_neg c2]; rfl
  · obtain rfl : k = L.length := by omega
    have hf : h1 = foldZ h0 i L := by rw [← hf, List.drop_length]; rfl
    subst hf
    refine ExS.evH extPa_sound (tFo3 _ i1 L L.length) ?_
    simp only [holds_leaf, kf_ret']
    exact ⟨VLe.refl _⟩
end
end Go.AE
namespace Go.AE
set_option linter.unusedVariables false
set_option linter.unusedSimpArgs false
open Go.Proofs Go.Proofs.YtjfofadeahdnnaaGreatDoor
def mLives35 : Mod
  | [] => some (True, bV true)
  | _ => none
def extEP : Ext := extOf [(10, mFold), (13, mLives35), (6, mAround)]
theorem tEp1 (a b i at_ y : Int) (L : List Int) : exTs ext0 (takeL 2 (pcs Tryz.prog Tryz.f4)) (st0 Tryz.f4 [u6V a, u6V b, iV i, listV encU 1 L, iV at_, u6V y]) (endG (msk 72 [0, 1, 2, 4, 5, 13]) (resOf Tryz.prog Tryz.f4)) = Tr.rq (0 ≤ (↑0 : Int) ∧ ((↑0 : Int) ≤ if 12 < (↑L.length : Int) then 12 else (↑L.length : Int)) ∧ (if 12 < (↑L.length : Int) then 12 else (↑L.length : Int)) ≤ (↑L.length : Int))
 (.done .normal
 (cst 72 [(0, .c (.p (.i IntKind.u64 a))), (1, .c (.p (.i IntKind.u64 b))), (2, .c (.p (.i .i64 i))), (4, .c (.p (.i .i64 at_))), (5, .c (.p (.i IntKind.u64 y))), (13, .c (.p (.l 1 ((if 12 < (↑L.length : Int) then 12 else (↑L.length : Int)).toNat - (↑0 : Int).toNat) fun e o => rowP encU L (e + 0) o)))] [])) := by kernel_rfl
theorem tEp2 (a b i at_ y : Int) (L : List Int) : exTs extEP (takeL 8 (dropL 2 (pcs Tryz.prog Tryz.f4))) (cst 72 [(0, u6V a), (1, u6V b), (2, iV i), (4, iV at_), (5, u6V y), (13, listV encU 1 L)] []) (endG (msk 72 [0, 2, 5, 13, 14, 15, 16]) (resOf Tryz.prog Tryz.f4)) = Tr.rq (IsL encU 1 (decL decU L.length (rowP encU L)) L.length (rowP encU L) ∧ inR IntKind.i64 i ∧ (decL decU L.length (rowP encU L)).length ≤ 1000000)
 (.rq (IsL encU 1 (decL decU L.length (rowP encU L)) L.length (rowP encU L) ∧ inR IntKind.i64 i ∧ (decL decU L.length (rowP encU L)).length ≤ 1000000)
 (bT (!(foldZ b i (decL decU L.length (rowP encU L)) == foldZ a i (decL decU L.length (rowP encU L))) == (a == b)) (.done .ret (St.mk [V.c (C.p (PV.b false))] []))
 (bT ((↑L.length : Int) == 0)
 (bT (foldZ a i (decL decU L.length (rowP encU L)) == a) (.rq True (.done .ret (St.mk [V.c (C.p (PV.b true))] []))) (.done .ret (St.mk [V.c (C.p (PV.b false))] [])))
 (.rq (0 = 0)
 (.rq ((0 + L.length) * 8 ≤ 140737488355328 ∧ 0 + L.length ≤ 140737488355328 ∧ ∀ (e o : Nat), e < L.length → o < 1 → oneC (C.p (rowP encU L e o)) = true)
 (.rq (inR IntKind.i64 at_ ∧ 0 < (↑(0 + L.length) : Int))
 (.rq (0 ≤ aroundZ at_ (↑(0 + L.length) : Int) ∧ aroundZ at_ (↑(0 + L.length) : Int) < (↑(0 + L.length) : Int))
 (.rq ((aroundZ at_ (↑(0 + L.length) : Int)).toNat + 0 < 0 + L.length)
 (.done .normal
 (cst 72 [(0, .c (.p (.i IntKind.u64 a))), (2, .c (.p (.i .i64 i))), (5, .c (.p (.i IntKind.u64 y))), (13, .c (.p (.l 1 L.length (rowP encU L)))), (14, .c (.p (.i IntKind.u64 (foldZ a i (decL decU L.length (rowP encU L)))))), (15, .c (.sl 0 1 0 (0 + L.length))), (16, .c (.p (.i .i64 (aroundZ at_ (↑(0 + L.length) : Int)))))] [.row 23 1 (0 + L.length) fun e o => renC [1] (if e = (aroundZ at_ (↑(0 + L.length) : Int)).toNat + 0 then if 0 ≤ o ∧ o < 1 then nth C.top [C.p (PV.i IntKind.u64 y)] (o - 0) else appF 0 (fun e o => nth C.top [] (e * 1 + o)) (fun e o => C.p (PV.i IntKind.u64 (L.getD e default))) e o else appF 0 (fun e o => nth C.top [] (e * 1 + o)) (fun e o => C.p (PV.i IntKind.u64 (L.getD e default))) e o)])))))))))) := by kernel_rfl
theorem tEp3 (a i y h : Int) (k : Nat) (L M : List Int) : exTs extEP (dropL 10 (pcs Tryz.prog Tryz.f4)) (cst 72 [(0, u6V a), (2, iV i), (5, u6V y), (13, listV encU 1 L), (14, u6V h), (15, listV encU 1 M), (16, iV (k : Nat))] []) (endG [] (resOf Tryz.prog Tryz.f4)) = Tr.rq (IsL encU 1 (decL decU M.length (rowP encU M)) M.length (rowP encU M) ∧ inR IntKind.i64 i ∧ (decL decU M.length (rowP encU M)).length ≤ 1000000)
 (.rq (0 ≤ (↑k : Int) ∧ (↑k : Int) < (↑L.length : Int))
 (bT ((foldZ a i (decL decU M.length (rowP encU M)) == h) == (L.getD (↑k : Int).toNat default == y)) (.rq True (.done .ret (St.mk [V.c (C.p (PV.b true))] [])))
 (.done .ret (St.mk [V.c (C.p (PV.b false))] [])))) := by kernel_rfl
theorem pairZ_eq {a b : Int} (ha : U64 a) (hb : U64 b) : ∃ s, U64 s ∧ ∀ a b, U64 a → U64 b → pairZ a b = mixI (mixI (mixI s a) b) 0 := by
  refine ⟨mixI (mixI (mixL 0 (wordsF (PlainAid.bt ⟨#[112, 97, 105, 114]⟩) 4 1)) (4 : Nat)) (2 : Nat), mixI_u64 _ _, fun a b ha hb => ?_⟩
  unfold pairZ sumI
  simp only [List.map_cons, List.map_nil, u64_toI ha, u64_toI hb, List.length_cons, List.length_nil]
  rfl
theorem pairZ_u (a b : Int) : U64 (pairZ a b) := by unfold pairZ sumI; exact mixI_u64 _ _
theorem u0 : U64 0 := ⟨by decide, by decide⟩
theorem pairZ_left {a c b : Int} (ha : U64 a) (hc : U64 c) (hb : U64 b) : pairZ a b = pairZ c b ↔ a = c := by
  obtain ⟨s, hs, e⟩ := pairZ_eq ha hb
  rw [e a b ha hb, e c b hc hb, mixI_left (mixI_u64 _ _) (mixI_u64 _ _) u0, mixI_left (mixI_u64 _ _) (mixI_u64 _ _) hb, mixI_right hs ha hc]
theorem pairZ_right {a b c : Int} (ha : U64 a) (hb : U64 b) (hc : U64 c) : pairZ a b = pairZ a c ↔ b = c := by
  obtain ⟨s, hs, e⟩ := pairZ_eq ha hb
  rw [e a b ha hb, e a c ha hc, mixI_left (mixI_u64 _ _) (mixI_u64 _ _) u0, mixI_right (mixI_u64 _ _) hb hc]
theorem stepZ_u (h i x : Int) : U64 (stepZ h i x) := by unfold stepZ; split <;> exact pairZ_u _ _
theorem stepZ_left {a c x : Int} (i : Int) (ha : U64 a) (hc : U64 c) (hx : U64 x) : stepZ a i x = stepZ c i x ↔ a = c := by
  unfold stepZ
  split
  · exact pairZ_left ha hc hx
  · exact pairZ_right hx ha hc
theorem stepZ_right {a x y : Int} (i : Int) (ha : U64 a) (hx : U64 x) (hy : U64 y) : stepZ a i x = stepZ a i y ↔ x = y := by
  unfold stepZ
  split
  · exact pairZ_right ha hx hy
  · exact pairZ_left hx hy ha
def UL (L : List Int) : Prop := ∀ x ∈ L, U64 x
theorem foldZ_left : ∀ {L : List Int} {a b : Int} (i : Int), UL L → U64 a → U64 b → (foldZ a i L = foldZ b i L ↔ a = b)
  | [], a, b, i, _, _, _ => Iff.rfl
  | x :: L, a, b, i, hL, ha, hb => by
    show foldZ (stepZ a i x) (i / 2) L = foldZ (stepZ b i x) (i / 2) L ↔ a = b
    rw [foldZ_left (i / 2) (fun y hy => hL y (List.mem_cons_of_mem _ hy)) (stepZ_u _ _ _) (stepZ_u _ _ _)]
    exact stepZ_left i ha hb (hL x (by simp))
theorem foldZ_set : ∀ {L : List Int} {a y : Int} (i : Int) (k : Nat), UL L → U64 a → U64 y → k < L.length → (foldZ a i (L.set k y) = foldZ a i L ↔ L.getD k default = y)
  | [], _, _, _, k, _, _, _, hk => by simp at hk
  | x :: L, a, y, i, 0, hL, ha, hy, _ => by
    show foldZ (stepZ a i y) (i / 2) L = foldZ (stepZ a i x) (i / 2) L ↔ x = y
    rw [foldZ_left (i / 2) (fun z hz => hL z (List.mem_cons_of_mem _ hz)) (stepZ_u _ _ _) (stepZ_u _ _ _), stepZ_right i ha hy (hL x (by simp))]
    exact eq_comm
  | x :: L, a, y, i, k + 1, hL, ha, hy, hk => by
    show foldZ (stepZ a i x) (i / 2) (L.set k y) = foldZ (stepZ a i x) (i / 2) L ↔ L.getD k default = y
    exact foldZ_set (i / 2) k (fun z hz => hL z (List.mem_cons_of_mem _ hz)) (stepZ_u _ _ _) hy (by simpa using hk)
theorem beq_iffB {a b : Int} {p q : Int} (h : a = b ↔ p = q) : (a == b) = (p == q) := by
  rw [Bool.eq_iff_iff]; simp [h]
section
variable {G : Nat → Option Obj}
set_option maxRecDepth 100000 in
theorem evPaths_fn (hLv : ModOK Tryz.prog G 13 mLives35) {a b i at_ y : Int} {L : List Int} (ha : U64 a) (hb : U64 b) (hi : inR .i64 i) (hat : inR .i64 at_) (hy : U64 y) (hL : UL L) (h : List AO) : FnS Tryz.prog G 4 [u6V a, u6V b, iV i, listV encU 1 L, iV at_, u6V y] h fun x h' => x = bV true ∧ h' = h := by
  have hs : SoundExt Tryz.prog G extEP := extOf_sound (by simp; exact ⟨okFold, hLv, okAround⟩)
  refine fn_S Tryz.func4 (by kernel_rfl) rfl ?_ h
  refine ExS.evG ext0_sound 2 (tEp1 a b i at_ y L) ?_
  simp only [holds_rq, holds_leaf, kf_normal]
  refine ⟨by omega, ⟨?_⟩⟩
  obtain ⟨M, hM⟩ : ∃ M, M = L.take 12 := ⟨_, rfl⟩
  have hML : UL M := fun x hx => hL x (List.mem_of_mem_take (hM ▸ hx))
  have hMl : M.length ≤ 12 := by rw [hM, List.length_take]; omega
  have hn : (if (12 : Int) < (L.length : Int) then 12 else (L.length : Int)).toNat - (0 : Int).toNat = M.length := by
    rw [hM, List.length_take]; split <;> omega
  have hw : VLe (V.c (C.p (PV.l 1 ((if (12 : Int) < (L.length : Int) then 12 else (L.length : Int)).toNat - (0 : Int).toNat) fun e o => rowP encU L (e + 0) o))) (listV encU 1 M) := by
    rw [hn]
    refine VLe.p (PLe.l fun e o he ho => PLe.of_eq ?_)
    unfold rowP
    rw [hM, List.getD_eq_getElem?_getD, List.getD_eq_getElem?_getD, List.getElem?_take, if_pos (by omega), Nat.add_zero]
  refine ExS.pre ((weak_slot (j := 13) (y := listV encU 1 M) (by exact hw)).trans (weak_of_eq (st' := (fun L => cst 72 [(0, u6V a), (1, u6V b), (2, iV i), (4, iV at_), (5, u6V y), (13, listV encU 1 L)] []) M) (by kernel_rfl))) ?_
  dsimp only
  clear hn hM
  refine ExS.evG hs 8 (tEp2 a b i at_ y M) ?_
  simp only [holds_bT, holds_rq, holds_leaf, kf_normal, kf_ret', decU_row, isL_row, true_and, Nat.zero_add]
  rw [beq_iffB (foldZ_left i hML hb ha)]
  have hba : (b == a) = (a == b) := by rw [Bool.eq_iff_iff]; simp; exact eq_comm
  rw [hba]
  have hr : 0 < M.length → 0 ≤ aroundZ at_ M.length ∧ aroundZ at_ M.length < M.length := fun h => ⟨Int.emod_nonneg _ (by omega), Int.emod_lt_of_pos _ (by omega)⟩
  refine ⟨⟨hi, by omega⟩, ⟨hi, by omega⟩, fun c => by simp at c, fun _ => ⟨fun c1 => ⟨fun _ => ⟨VLe.refl _⟩, fun c2 => ?_⟩, fun c1 => ?_⟩⟩
  · have : M = [] := by
      have : M.length = 0 := by simpa using c1
      exact List.eq_nil_of_length_eq_zero this
    subst this
    simp [foldZ] at c2
  · have hpos : 0 < M.length := by
      have : ¬ ((M.length : Nat) : Int) = 0 := by simpa using c1
      omega
    have hr := hr hpos
    obtain ⟨k, hk⟩ : ∃ k : Nat, aroundZ at_ M.length = k := ⟨(aroundZ at_ M.length).toNat, by omega⟩
    rw [hk] at hr ⊢
    simp only [Int.toNat_natCast, Nat.add_zero]
    refine ⟨⟨by omega, by omega, fun e o _ _ => rfl⟩, ⟨hat, by omega⟩, hr, by omega, ⟨?_⟩⟩
    have hf : ∀ e o, e < M.length → o < 1 → renC [1] (if e = k then if 0 ≤ o ∧ o < 1 then nth C.top [C.p (PV.i IntKind.u64 y)] (o - 0) else appF 0 (fun e o => nth C.top [] (e * 1 + o)) (fun e o => C.p (PV.i IntKind.u64 (M.getD e default))) e o else appF 0 (fun e o => nth C.top [] (e * 1 + o)) (fun e o => C.p (PV.i IntKind.u64 (M.getD e default))) e o) = .p (rowP encU (M.set k y) e o) := by
      intro e o he ho
      obtain rfl : o = 0 := by omega
      have hg : (M.set k y).getD e default = if e = k then y else M.getD e default := by
        rw [List.getD_eq_getElem?_getD, List.getD_eq_getElem?_getD, List.getElem?_set]
        by_cases hek : k = e
        · subst hek; rw [if_pos rfl, if_pos he, if_pos rfl]; rfl
        · rw [if_neg hek, if_neg (fun h => hek h.symm)]
      unfold rowP
      rw [hg]
      by_cases hek : e = k
      · rw [if_pos hek, if_pos hek, if_pos (by omega)]; rfl
      · rw [if_neg hek, if_neg hek]; rfl
    refine ExS.pre ((weak_frzL (id := 0) (ty := 23) (sz := 1) (n := M.length) (f := fun e o => renC [1] (if e = k then if 0 ≤ o ∧ o < 1 then nth C.top [C.p (PV.i IntKind.u64 y)] (o - 0) else appF 0 (fun e o => nth C.top [] (e * 1 + o)) (fun e o => C.p (PV.i IntKind.u64 (M.getD e default))) e o else appF 0 (fun e o => nth C.top [] (e * 1 + o)) (fun e o => C.p (PV.i IntKind.u64 (M.getD e default))) e o)) (rowP encU (M.set k y)) (by kernel_rfl) (fun e o he ho => by rw [hf e o he ho]; rfl) (fun e o he ho => by rw [hf e o he ho]; exact PLe.refl _) (ps := [(0, M.length)]) (by kernel_rfl) (by simp)).trans (weak_of_eq (st' := cst 72 [(0, u6V a), (2, iV i), (5, u6V y), (13, listV encU 1 M), (14, u6V (foldZ a i M)), (15, .c (.p (.l 1 M.length fun e o => rowP encU (M.set k y) (e + 0) o))), (16, iV (k : Nat))] [.gone]) (by kernel_rfl))) ?_
    have hw2 : VLe (.c (.p (.l 1 M.length fun e o => rowP encU (M.set k y) (e + 0) o))) (listV encU 1 (M.set k y)) := by
      unfold listV listP
      rw [List.length_set]
      exact VLe.refl _
    refine ExS.pre ((weak_slot (j := 15) (y := listV encU 1 (M.set k y)) (by exact hw2)).trans ((weak_gc (msk 72 [0, 2, 5, 13, 14, 15, 16]) _).trans (weak_of_eq (st' := cst 72 [(0, u6V a), (2, iV i), (5, u6V y), (13, listV encU 1 M), (14, u6V (foldZ a i M)), (15, listV encU 1 (M.set k y)), (16, iV (k : Nat))] []) (by kernel_rfl)))) ?_
    have hb1 : (foldZ a i (M.set k y) == foldZ a i M) = (M.getD k default == y) := beq_iffB (foldZ_set i k hML ha hy (by omega))
    have hNl : (M.set k y).length = M.length := List.length_set ..
    generalize M.set k y = N at hb1 hNl ⊢
    refine ExS.evH hs (tEp3 a i y (foldZ a i M) k M N) ?_
    simp only [holds_bT, holds_rq, holds_leaf, kf_ret', decU_row, isL_row, true_and, hb1, Int.toNat_natCast, beq_self_eq_true, Bool.true_eq_false, false_imp_iff, true_imp_iff, and_true]
    exact ⟨⟨hi, by omega⟩, hr, ⟨VLe.refl _⟩⟩
end
end Go.AE
