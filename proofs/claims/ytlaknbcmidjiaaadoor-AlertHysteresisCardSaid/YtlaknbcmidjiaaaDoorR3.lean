/- AE contracts: ref01.Pick, ref05.Names, values, Same. -/
import Derived.Test.YtlaknbcmidjiaaaDoorR2
import Derived.Test.YtlaknbcmidjiaaaDoorAeC
import Derived.Test.YtlaknbcmidjiaaaDoorNewL
namespace Go.AE
open Go.Proofs Go.Proofs.YtlaknbcmidjiaaaDoor

def pickZ (L : List Int) (i m : Int) : Int := if i < 0 ∨ L.length ≤ i then 0 else aroundZ (L.getD i.toNat default) m
def Ints (L : List Int) : Prop := ∀ x ∈ L, inR .i64 x
def mPick : Mod
  | [.c (.p (.l 1 n f)), .c (.p (.i .i64 i)), .c (.p (.i .i64 m))] => some (IsL encI 1 (decL decI n f) n f ∧ Ints (decL decI n f) ∧ 0 < m, iV (pickZ (decL decI n f) i m))
  | _ => none
def mLSame : Mod
  | [.c (.p (.l 2 n f)), .c (.p (.l 2 m g))] => some ((IsL enc2 2 (decL dec2 n f) n f ∧ IsL enc2 2 (decL dec2 m g) m g) ∧ (n ≤ 1000000 ∨ m ≤ 1000000), bV (decide (decL dec2 n f = decL dec2 m g)))
  | _ => none
def namesL : List ByteArray := [⟨#[97]⟩, ⟨#[97, 98]⟩, ⟨#[98]⟩, ⟨#[106, 111, 98]⟩, ⟨#[120, 95, 49]⟩, ⟨#[122, 111, 110, 101]⟩]
def valuesL : List ByteArray := [⟨#[97]⟩, ⟨#[97, 98]⟩, ⟨#[98]⟩, ⟨#[120, 49]⟩, ⟨#[126, 33]⟩, ⟨#[48]⟩]
def mNames : ModH
  | [], h => some (True, .c (.sl (lenL h) 1 0 6), snoc (.row 9 1 6 fun e o => .p (rowP encS namesL e o)) h)
  | _, _ => none
def mValues : ModH
  | [], h => some (True, .c (.sl (lenL h) 1 0 6), snoc (.row 9 1 6 fun e o => .p (rowP encS valuesL e o)) h)
  | _, _ => none

theorem tPick (L : List Int) (i m : Int) : exTs extA (pcs Tryd.prog Tryd.f38) (st0 Tryd.f38 [listV encI 1 L, iV i, iV m]) (endF [] [] (resOf Tryd.prog Tryd.f38)) = bT (decide (i < 0)) (Tr.done X.ret (St.mk [V.c (C.p (PV.i IntKind.i64 0))] []))
    (bT (decide ((↑L.length : Int) ≤ i)) (Tr.done X.ret (St.mk [V.c (C.p (PV.i IntKind.i64 0))] []))
      (Tr.rq (0 ≤ i ∧ i < (↑L.length : Int)) (Tr.rq (inR IntKind.i64 (L.getD i.toNat default) ∧ 0 < m) (Tr.done X.ret (St.mk [V.c (C.p (PV.i IntKind.i64 (aroundZ (L.getD i.toNat default) m)))] []))))) := by kernel_rfl
theorem tSame1 (A B : List (ByteArray × ByteArray)) : exTs ext0 (takeL 4 (pcs Tryd.prog Tryd.f53)) (st0 Tryd.f53 [listV enc2 2 A, listV enc2 2 B]) (endF [] (msk 26 [0, 1, 5]) (resOf Tryd.prog Tryd.f53)) = bT ((↑A.length : Int) != (↑B.length : Int)) (Tr.done X.ret (St.mk [V.c (C.p (PV.b false))] []))
    (Tr.done X.normal
      (cst 26 [(0, V.c (C.p (PV.l 2 A.length (rowP enc2 A)))), (1, V.c (C.p (PV.l 2 B.length (rowP enc2 B)))), (5, V.c (C.p (PV.i IntKind.i64 0)))] [])) := by kernel_rfl
theorem tSame2 (A B : List (ByteArray × ByteArray)) (i : Int) : exTs ext0 (lpB (pcs Tryd.prog Tryd.f53) 4) (cst 26 [(0, listV enc2 2 A), (1, listV enc2 2 B), (5, iV i)] []) (endF [] (msk 26 [0, 1, 5]) (resOf Tryd.prog Tryd.f53)) = bT (decide (i < (↑A.length : Int)))
    (Tr.rq (0 ≤ i ∧ i < (↑A.length : Int))
      (Tr.rq (0 ≤ i ∧ i < (↑B.length : Int))
        (bT
          (match true with
          | true => !((A.getD i.toNat default).fst.toList == (B.getD i.toNat default).fst.toList && ((A.getD i.toNat default).snd.toList == (B.getD i.toNat default).snd.toList && true))
          | false => (A.getD i.toNat default).fst.toList == (B.getD i.toNat default).fst.toList && ((A.getD i.toNat default).snd.toList == (B.getD i.toNat default).snd.toList && true))
          (Tr.done X.ret (St.mk [V.c (C.p (PV.b false))] []))
          (Tr.rq (inR IntKind.i64 (i + 1))
            (Tr.done X.normal
              (cst 26 [(0, V.c (C.p (PV.l 2 A.length (rowP enc2 A)))), (1, V.c (C.p (PV.l 2 B.length (rowP enc2 B)))), (5, V.c (C.p (PV.i IntKind.i64 (i + 1))))] []))))))
    (Tr.done (X.exit 0)
      (cst 26 [(0, V.c (C.p (PV.l 2 A.length (rowP enc2 A)))), (1, V.c (C.p (PV.l 2 B.length (rowP enc2 B)))), (5, V.c (C.p (PV.i IntKind.i64 i)))] [])) := by kernel_rfl
theorem tSame3 (A B : List (ByteArray × ByteArray)) (i : Int) : exTs ext0 (dropL 5 (pcs Tryd.prog Tryd.f53)) (cst 26 [(0, listV enc2 2 A), (1, listV enc2 2 B), (5, iV i)] []) (endF [] [] (resOf Tryd.prog Tryd.f53)) = Tr.done X.ret (St.mk [V.c (C.p (PV.b true))] []) := by kernel_rfl
theorem tNames  : exT ext0 (codeOf Tryd.prog Tryd.f63) (st0 Tryd.f63 []) (endP [0] (msk 2 [0])) = Tr.done X.ret
    (cst 2 [(0, V.c (C.sl 0 1 0 6))] [AO.row 9 1 6 fun e o => renC [0] (nth C.top [C.p (PV.s (ByteArray.mk #[97])), C.p (PV.s (ByteArray.mk #[97, 98])), C.p (PV.s (ByteArray.mk #[98])), C.p (PV.s (ByteArray.mk #[106, 111, 98])), C.p (PV.s (ByteArray.mk #[120, 95, 49])), C.p (PV.s (ByteArray.mk #[122, 111, 110, 101]))] (e * 1 + o))]) := by kernel_rfl
theorem tValues  : exT ext0 (codeOf Tryd.prog Tryd.f64) (st0 Tryd.f64 []) (endP [0] (msk 2 [0])) = Tr.done X.ret
    (cst 2 [(0, V.c (C.sl 0 1 0 6))] [AO.row 9 1 6 fun e o => renC [0] (nth C.top [C.p (PV.s (ByteArray.mk #[97])), C.p (PV.s (ByteArray.mk #[97, 98])), C.p (PV.s (ByteArray.mk #[98])), C.p (PV.s (ByteArray.mk #[120, 49])), C.p (PV.s (ByteArray.mk #[126, 33])), C.p (PV.s (ByteArray.mk #[48]))] (e * 1 + o))]) := by kernel_rfl
theorem some_pair {p q : Prop} {v u : V} (h : some (p, v) = some (q, u)) : p = q ∧ v = u := by
  injection h with h
  injection h with h1 h2
  exact ⟨h1, h2⟩
theorem some_three {p q : Prop} {v u : V} {h h' : List AO} (e : some (p, v, h) = some (q, u, h')) : p = q ∧ v = u ∧ h = h' := by
  injection e with e
  injection e with h1 e
  injection e with h2 h3
  exact ⟨h1, h2, h3⟩
theorem getD_mem {L : List Int} {i : Nat} (h : i < L.length) : L.getD i default ∈ L := by
  rw [List.getD_eq_getElem?_getD, List.getElem?_eq_getElem h]
  exact List.getElem_mem h
section
variable {G : Nat → Option Obj}
set_option maxRecDepth 100000 in
theorem okPick : ModOK Tryd.prog G 38 mPick := by
  intro args p v hm hp h
  unfold mPick at hm
  split at hm; rotate_left; · cases hm
  rename_i n f i m
  obtain ⟨rfl, rfl⟩ := some_pair hm
  obtain ⟨hL, hI, hm0⟩ := hp
  generalize decL decI n f = L at hL hI
  refine FnS.args (args' := [listV encI 1 L, iV i, iV m]) ?_ (.cons hL.le (.cons (.refl _) (.cons (.refl _) .nil)))
  refine fn_S Tryd.func38 (by kernel_rfl) rfl ?_ h
  refine ExS.evA extA_sound [] [] rfl (tPick L i m) ?_
  have bad : (i < 0 ∨ L.length ≤ i) → VLe (V.c (C.p (PV.i .i64 0))) (iV (pickZ L i m)) := fun hi => by
    unfold pickZ; rw [if_pos hi]; exact VLe.refl _
  have good : ¬ (i < 0 ∨ L.length ≤ i) → VLe (iV (aroundZ (L.getD i.toNat default) m)) (iV (pickZ L i m)) := fun hi => by
    unfold pickZ; rw [if_neg hi]; exact VLe.refl _
  have hin : ¬ (i < 0 ∨ L.length ≤ i) → inR .i64 (L.getD i.toNat default) := fun hi => hI _ (getD_mem (by omega))
  simp only [holds_bT, holds_rq, holds_leaf, kf_ret', decide_eq_true_eq, decide_eq_false_iff_not]
  repeat' (first | apply And.intro | intro _)
  all_goals first | (clear bad good hin; omega) | exact ⟨bad (by clear bad good hin; omega)⟩ | exact ⟨good (by clear bad good hin; omega)⟩ | exact (hin (by clear bad good hin; omega)).1 | exact (hin (by clear bad good hin; omega)).2
theorem okNames : ModHOK Tryd.prog G 63 mNames := by
  intro args h p v h' hm hp
  unfold mNames at hm
  split at hm; rotate_left; · cases hm
  obtain ⟨rfl, rfl, rfl⟩ := some_three hm
  refine fn_row (r := 0) Tryd.func63 (by kernel_rfl) (by kernel_rfl) rfl ?_ h
  refine ExA.evp ext0_sound [0] (msk 2 [0]) rfl ?_
  rw [tNames]
  refine ⟨by simp, 0, _, rfl, rfl, fun e o he ho => ?_⟩
  have hc : e = 0 ∨ e = 1 ∨ e = 2 ∨ e = 3 ∨ e = 4 ∨ e = 5 := by omega
  obtain rfl : o = 0 := by omega
  rcases hc with rfl | rfl | rfl | rfl | rfl | rfl <;> rfl
theorem okValues : ModHOK Tryd.prog G 64 mValues := by
  intro args h p v h' hm hp
  unfold mValues at hm
  split at hm; rotate_left; · cases hm
  obtain ⟨rfl, rfl, rfl⟩ := some_three hm
  refine fn_row (r := 0) Tryd.func64 (by kernel_rfl) (by kernel_rfl) rfl ?_ h
  refine ExA.evp ext0_sound [0] (msk 2 [0]) rfl ?_
  rw [tValues]
  refine ⟨by simp, 0, _, rfl, rfl, fun e o he ho => ?_⟩
  have hc : e = 0 ∨ e = 1 ∨ e = 2 ∨ e = 3 ∨ e = 4 ∨ e = 5 := by omega
  obtain rfl : o = 0 := by omega
  rcases hc with rfl | rfl | rfl | rfl | rfl | rfl <;> rfl
theorem eq_of_getD {α : Type} [Inhabited α] {A B : List α} (hl : A.length = B.length) (h : ∀ k, k < A.length → A.getD k default = B.getD k default) : A = B := by
  apply List.ext_getElem hl
  intro k h1 h2
  have := h k h1
  simpa [h1, h2] using this
set_option maxRecDepth 100000 in
theorem okLSame : ModOK Tryd.prog G 53 mLSame := by
  intro args p v hm hp h
  unfold mLSame at hm
  split at hm; rotate_left; · cases hm
  rename_i n f m g
  obtain ⟨rfl, rfl⟩ := some_pair hm
  obtain ⟨⟨hA, hB⟩, hn⟩ := hp
  generalize decL dec2 n f = A at hA
  generalize decL dec2 m g = B at hB
  refine FnS.args (args' := [listV enc2 2 A, listV enc2 2 B]) ?_ (.cons hA.le (.cons hB.le .nil))
  have hlen : A.length ≤ 1000000 ∨ B.length ≤ 1000000 := by rw [hA.1, hB.1]; exact hn
  clear hA hB hn
  refine fn_S Tryd.func53 (by kernel_rfl) rfl ?_ h
  refine ExS.ev ext0_sound 4 [] (msk 26 [0, 1, 5]) rfl (tSame1 A B) ?_
  simp only [holds_bT, holds_done, kf_ret', kf_normal]
  refine ⟨fun h1 => VLe.of_eq ?_, fun h1 => ?_⟩
  · have h1 : A.length ≠ B.length := by simp at h1; omega
    rw [decide_eq_false (fun e => h1 (by rw [e]))]; rfl
  · have h1 : A.length = B.length := by simp at h1; omega
    refine ExS.loop (l := dropL 4 (pcs Tryd.prog Tryd.f53)) (b := inr (inr (nth .skip (pcs Tryd.prog Tryd.f53) 4))) (r := dropL 5 (pcs Tryd.prog Tryd.f53)) (id := 0) (by kernel_rfl)
      (fun i : Int => cst 26 [(0, listV enc2 2 A), (1, listV enc2 2 B), (5, iV i)] []) (fun i => 0 ≤ i ∧ i ≤ A.length ∧ ∀ k, k < i.toNat → A.getD k default = B.getD k default) (fun i => (A.length - i).toNat) 0 ⟨by omega, by omega, fun k hk => absurd hk (by simp)⟩ (weak_of_eq (by kernel_rfl)) ?_
    rintro i ⟨i0, i1, hi⟩
    refine ExS.evA ext0_sound [] (msk 26 [0, 1, 5]) rfl (tSame2 A B i) ?_
    have key : ((A.getD i.toNat default).fst.toList == (B.getD i.toNat default).fst.toList && ((A.getD i.toNat default).snd.toList == (B.getD i.toNat default).snd.toList && true)) = decide (A.getD i.toNat default = B.getD i.toNat default) := by
      rw [beq_bytes', beq_bytes', Bool.and_true, Bool.eq_iff_iff]
      simp [Prod.ext_iff]
    rw [key]
    have bad : A.getD i.toNat default ≠ B.getD i.toNat default → VLe (V.c (C.p (PV.b false))) (bV (decide (A = B))) := fun hne => by
      rw [decide_eq_false (fun e => hne (by rw [e]))]; exact VLe.refl _
    have good : i < A.length → A.getD i.toNat default = B.getD i.toNat default → ∃ j : Int, (0 ≤ j ∧ j ≤ A.length ∧ ∀ k, k < j.toNat → A.getD k default = B.getD k default) ∧ (A.length - j).toNat < (A.length - i).toNat ∧ WeakS G (cst 26 [(0, V.c (C.p (PV.l 2 A.length (rowP enc2 A)))), (1, V.c (C.p (PV.l 2 B.length (rowP enc2 B)))), (5, V.c (C.p (PV.i IntKind.i64 (i + 1))))] []) ((fun i : Int => cst 26 [(0, listV enc2 2 A), (1, listV enc2 2 B), (5, iV i)] []) j) := fun hlt he =>
      ⟨i + 1, ⟨by omega, by omega, fun k hk => by
        by_cases hk' : k < i.toNat
        · exact hi k hk'
        · obtain rfl : k = i.toNat := by omega
          exact he⟩, by omega, weak_of_eq (by kernel_rfl)⟩
    have after : ¬ i < A.length → ExS Tryd.prog G (resOf Tryd.prog Tryd.f53) (bV (decide (A = B))) (dropL 5 (pcs Tryd.prog Tryd.f53)) (cst 26 [(0, V.c (C.p (PV.l 2 A.length (rowP enc2 A)))), (1, V.c (C.p (PV.l 2 B.length (rowP enc2 B)))), (5, V.c (C.p (PV.i IntKind.i64 i)))] []) (fun _ _ => False) := fun hlt => by
      refine ExS.evA ext0_sound [] [] rfl (tSame3 A B i) ?_
      simp only [holds_done, kf_ret']
      rw [decide_eq_true (eq_of_getD h1 fun k hk => hi k (by omega))]
      exact VLe.refl _
    simp only [holds_bT, holds_rq, holds_leaf, kf_ret', kf_normal, kf_exit, decide_eq_true_eq, decide_eq_false_iff_not, Bool.not_eq_true', Bool.not_eq_false', inR, if_true]
    repeat' (first | apply And.intro | intro _)
    all_goals first | trivial | (clear bad good after hi; omega) | exact ⟨after ‹_›⟩ | exact ⟨bad ‹_›⟩ | exact ⟨good ‹_› ‹_›⟩
end
end Go.AE
