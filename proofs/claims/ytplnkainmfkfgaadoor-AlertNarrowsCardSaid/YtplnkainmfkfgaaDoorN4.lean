/- AE contracts: ref04.Sorted, from, Small, Inner, Part, List. -/
import Derived.Test.YtplnkainmfkfgaaDoorN3
namespace Go.AE
open Go.Proofs
set_option linter.unusedVariables false
set_option linter.unusedSimpArgs false
def encQ (a : Qf) : Nat → PV
  | 0 => .i .i64 a.1
  | _ => .i .i64 a.2
def decQ (c : Nat → PV) : Qf := match c 0, c 1 with
  | .i _ n, .i _ d => (n, d)
  | _, _ => default
def extSr : Ext := extOf [(36, mCmpQ)]

theorem tSr1 (L : List Qf) : exTs ext0 (takeL 3 (pcs Tryd.prog Tryd.f24)) (st0 Tryd.f24 [listV encQ 2 L]) (endG (msk 50 [0, 3, 4]) (resOf Tryd.prog Tryd.f24)) = Tr.done X.normal
    (cst 50 [(0, V.c (C.p (PV.l 2 L.length (rowP encQ L)))), (3, V.c (C.p (PV.z (Value.slice none 0 0)))), (4, V.c (C.p (PV.i IntKind.i64 0)))] []) := by kernel_rfl
theorem tSr2 (L out : List Qf) (i : Nat) : exTs ext0 (takeL 2 (lpB (pcs Tryd.prog Tryd.f24) 3)) (cst 50 [(0, listV encQ 2 L), (3, .c (.sl 0 2 0 out.length)), (4, iV (i : Nat))] [.row 26 2 out.length (rowC encQ out)]) (endG (msk 50 [0, 3, 4]) (resOf Tryd.prog Tryd.f24)) = bT (decide ((↑i : Int) < (↑L.length : Int)))
    (Tr.done X.normal
      (cst 50 [(0, V.c (C.p (PV.l 2 L.length (rowP encQ L)))), (3, V.c (C.sl 0 2 0 out.length)), (4, V.c (C.p (PV.i IntKind.i64 (↑i : Int))))] [AO.row 26 2 out.length fun e o => renC [0] (rowC encQ out e o)]))
    (Tr.done (X.exit 0)
      (cst 50 [(0, V.c (C.p (PV.l 2 L.length (rowP encQ L)))), (3, V.c (C.sl 0 2 0 out.length)), (4, V.c (C.p (PV.i IntKind.i64 (↑i : Int))))] [AO.row 26 2 out.length fun e o => renC [0] (rowC encQ out e o)])) := by kernel_rfl
theorem tSr3 (L out : List Qf) (i : Nat) : exTs ext0 (takeL 1 (flat (inr (nth .skip (lpB (pcs Tryd.prog Tryd.f24) 3) 2)))) (cst 50 [(0, listV encQ 2 L), (3, .c (.sl 0 2 0 out.length)), (4, iV (i : Nat))] [.row 26 2 out.length (rowC encQ out)]) (endG (msk 50 [0, 3, 4, 5]) (resOf Tryd.prog Tryd.f24)) = Tr.done X.normal
    (cst 50 [(0, V.c (C.p (PV.l 2 L.length (rowP encQ L)))), (3, V.c (C.sl 0 2 0 out.length)), (4, V.c (C.p (PV.i IntKind.i64 (↑i : Int)))), (5, V.c (C.p (PV.i IntKind.i64 (↑out.length : Int))))] [AO.row 26 2 out.length fun e o => renC [0] (rowC encQ out e o)]) := by kernel_rfl
theorem tSr4 (L out : List Qf) (i k : Nat) : exTs extSr (takeL 2 (lpB (flat (inr (nth .skip (lpB (pcs Tryd.prog Tryd.f24) 3) 2))) 1)) (cst 50 [(0, listV encQ 2 L), (3, .c (.sl 0 2 0 out.length)), (4, iV (i : Nat)), (5, iV (k : Nat))] [.row 26 2 out.length (rowC encQ out)]) (endG (msk 50 [0, 3, 4, 5]) (resOf Tryd.prog Tryd.f24)) = bT (decide (0 < (↑k : Int)))
    (Tr.rq (0 ≤ (↑i : Int) ∧ (↑i : Int) < (↑L.length : Int))
      (Tr.rq (inR IntKind.i64 ((↑k : Int) - 1))
        (Tr.rq (0 ≤ (↑k : Int) - 1 ∧ (↑k : Int) - 1 < (↑out.length : Int))
          (Tr.rq (((↑k : Int) - 1).toNat + 0 < out.length)
            (Tr.rq
              (vQ ((L.getD (↑i : Int).toNat default).fst, (L.getD (↑i : Int).toNat default).snd) ∧
                vQ ((out.getD (((↑k : Int) - 1).toNat + 0) default).fst, (out.getD (((↑k : Int) - 1).toNat + 0) default).snd))
              (bT
                (decide
                  (cmpQ ((L.getD (↑i : Int).toNat default).fst, (L.getD (↑i : Int).toNat default).snd)
                      ((out.getD (((↑k : Int) - 1).toNat + 0) default).fst, (out.getD (((↑k : Int) - 1).toNat + 0) default).snd) <
                    0))
                (Tr.done X.normal
                  (cst 50 [(0, V.c (C.p (PV.l 2 L.length (rowP encQ L)))), (3, V.c (C.sl 0 2 0 out.length)), (4, V.c (C.p (PV.i IntKind.i64 (↑i : Int)))), (5, V.c (C.p (PV.i IntKind.i64 (↑k : Int))))] [AO.row 26 2 out.length fun e o => renC [0] (rowC encQ out e o)]))
                (Tr.done (X.exit 2)
                  (cst 50 [(0, V.c (C.p (PV.l 2 L.length (rowP encQ L)))), (3, V.c (C.sl 0 2 0 out.length)), (4, V.c (C.p (PV.i IntKind.i64 (↑i : Int)))), (5, V.c (C.p (PV.i IntKind.i64 (↑k : Int))))] [AO.row 26 2 out.length fun e o => renC [0] (rowC encQ out e o)]))))))))
    (Tr.done (X.exit 2)
      (cst 50 [(0, V.c (C.p (PV.l 2 L.length (rowP encQ L)))), (3, V.c (C.sl 0 2 0 out.length)), (4, V.c (C.p (PV.i IntKind.i64 (↑i : Int)))), (5, V.c (C.p (PV.i IntKind.i64 (↑k : Int))))] [AO.row 26 2 out.length fun e o => renC [0] (rowC encQ out e o)])) := by kernel_rfl
theorem tSr5 (L out : List Qf) (i k : Nat) : exTs ext0 (dropL 2 (lpB (flat (inr (nth .skip (lpB (pcs Tryd.prog Tryd.f24) 3) 2))) 1)) (cst 50 [(0, listV encQ 2 L), (3, .c (.sl 0 2 0 out.length)), (4, iV (i : Nat)), (5, iV (k : Nat))] [.row 26 2 out.length (rowC encQ out)]) (endG (msk 50 [0, 3, 4, 5]) (resOf Tryd.prog Tryd.f24)) = Tr.rq (inR IntKind.i64 ((↑k : Int) - 1))
    (Tr.done X.normal
      (cst 50 [(0, V.c (C.p (PV.l 2 L.length (rowP encQ L)))), (3, V.c (C.sl 0 2 0 out.length)), (4, V.c (C.p (PV.i IntKind.i64 (↑i : Int)))), (5, V.c (C.p (PV.i IntKind.i64 ((↑k : Int) - 1))))] [AO.row 26 2 out.length fun e o => renC [0] (rowC encQ out e o)])) := by kernel_rfl
theorem tSr6 (L out : List Qf) (i k : Nat) : exTs ext0 (dropL 2 (flat (inr (nth .skip (lpB (pcs Tryd.prog Tryd.f24) 3) 2)))) (cst 50 [(0, listV encQ 2 L), (3, .c (.sl 0 2 0 out.length)), (4, iV (i : Nat)), (5, iV (k : Nat))] [.row 26 2 out.length (rowC encQ out)]) (endG (msk 50 [0, 3, 4]) (resOf Tryd.prog Tryd.f24)) = Tr.rq (0 ≤ (↑0 : Int) ∧ (↑0 : Int) ≤ (↑k : Int) ∧ (↑k : Int) ≤ (↑out.length : Int))
    (Tr.rq (0 + ((↑k : Int).toNat - 0) ≤ out.length)
      (Tr.rq
        ((0 + ((↑k : Int).toNat - 0)) * 16 ≤ 140737488355328 ∧ 0 + ((↑k : Int).toNat - 0) ≤ 140737488355328 ∧ ∀ (e o : Nat), e < (↑k : Int).toNat - 0 → o < 2 → oneC (rowC encQ out (e + 0) o) = true)
        (Tr.rq (0 ≤ (↑i : Int) ∧ (↑i : Int) < (↑L.length : Int))
          (Tr.rq (0 + ((↑k : Int).toNat - 0) = 0 + ((↑k : Int).toNat - 0))
            (Tr.rq (1 ≤ 1)
              (Tr.rq
                ((0 + ((↑k : Int).toNat - 0) + 1) * 16 ≤ 140737488355328 ∧
                  0 + ((↑k : Int).toNat - 0) + 1 ≤ 140737488355328 ∧
                    ∀ (e o : Nat),
                      e < 1 →
                        o < 2 → oneC (nth C.top [C.p (PV.i IntKind.i64 (L.getD (↑i : Int).toNat default).fst), C.p (PV.i IntKind.i64 (L.getD (↑i : Int).toNat default).snd)] ((e + 0) * 2 + o)) = true)
                (Tr.rq (0 ≤ (↑k : Int) ∧ (↑k : Int) ≤ (↑out.length : Int) ∧ (↑out.length : Int) ≤ (↑out.length : Int))
                  (Tr.rq (0 + ((↑k : Int).toNat - 0) + 1 = 0 + ((↑k : Int).toNat - 0) + 1)
                    (Tr.rq (0 + (↑k : Int).toNat + ((↑out.length : Int).toNat - (↑k : Int).toNat) ≤ out.length)
                      (Tr.rq
                        ((0 + ((↑k : Int).toNat - 0) + 1 + ((↑out.length : Int).toNat - (↑k : Int).toNat)) * 16 ≤ 140737488355328 ∧
                          0 + ((↑k : Int).toNat - 0) + 1 + ((↑out.length : Int).toNat - (↑k : Int).toNat) ≤ 140737488355328 ∧
                            ∀ (e o : Nat), e < (↑out.length : Int).toNat - (↑k : Int).toNat → o < 2 → oneC (rowC encQ out (e + (0 + (↑k : Int).toNat)) o) = true)
                        (Tr.done X.normal
                          (cst 50 [(0, V.c (C.p (PV.l 2 L.length (rowP encQ L)))), (3, V.c (C.sl 0 2 0 (0 + ((↑k : Int).toNat - (↑0 : Int).toNat) + 1 + ((↑out.length : Int).toNat - (↑k : Int).toNat)))), (4, V.c (C.p (PV.i IntKind.i64 (↑i : Int))))] [AO.row 26 2 (0 + ((↑k : Int).toNat - (↑0 : Int).toNat) + 1 + ((↑out.length : Int).toNat - (↑k : Int).toNat)) fun e o => renC [4] (appF (0 + ((↑k : Int).toNat - 0) + 1) (appF (0 + ((↑k : Int).toNat - 0)) (appF 0 (fun x x_1 => C.top) fun e o => rowC encQ out (e + 0) o) fun e o => nth C.top [C.p (PV.i IntKind.i64 (L.getD (↑i : Int).toNat default).fst), C.p (PV.i IntKind.i64 (L.getD (↑i : Int).toNat default).snd)] ((e + 0) * 2 + o)) (fun e o => rowC encQ out (e + (0 + (↑k : Int).toNat)) o) e o)])))))))))))) := by kernel_rfl
theorem tSr7 (L out : List Qf) (i : Nat) : exTs ext0 (dropL 3 (lpB (pcs Tryd.prog Tryd.f24) 3)) (cst 50 [(0, listV encQ 2 L), (3, .c (.sl 0 2 0 out.length)), (4, iV (i : Nat))] [.row 26 2 out.length (rowC encQ out)]) (endG (msk 50 [0, 3, 4]) (resOf Tryd.prog Tryd.f24)) = Tr.rq (inR IntKind.i64 ((↑i : Int) + 1))
    (Tr.done X.normal
      (cst 50 [(0, V.c (C.p (PV.l 2 L.length (rowP encQ L)))), (3, V.c (C.sl 0 2 0 out.length)), (4, V.c (C.p (PV.i IntKind.i64 ((↑i : Int) + 1))))] [AO.row 26 2 out.length fun e o => renC [0] (rowC encQ out e o)])) := by kernel_rfl
theorem tSr8 (L out : List Qf) (i : Nat) : exTs ext0 (dropL 4 (pcs Tryd.prog Tryd.f24)) (cst 50 [(0, listV encQ 2 L), (3, .c (.sl 0 2 0 out.length)), (4, iV (i : Nat))] [.row 26 2 out.length (rowC encQ out)]) (endG [] (resOf Tryd.prog Tryd.f24)) = Tr.rq (0 + out.length ≤ out.length ∧ ∀ (e o : Nat), e < out.length → o < 2 → isF (rowC encQ out (e + 0) o) = true)
    (Tr.done X.ret (St.mk [V.c (C.p (PV.l 2 out.length fun e o => unP (rowC encQ out (e + 0) o)))] [])) := by kernel_rfl
def insIx (out : List Qf) (x : Qf) : Nat → Nat
  | 0 => 0
  | k + 1 => if cmpQ x (out.getD k default) < 0 then insIx out x k else k + 1
def insQ (out : List Qf) (x : Qf) : List Qf := out.take (insIx out x out.length) ++ x :: out.drop (insIx out x out.length)
def sortQ (L : List Qf) : Nat → List Qf
  | 0 => []
  | i + 1 => insQ (sortQ L i) (L.getD i default)
def vQs (L : List Qf) : Prop := ∀ x ∈ L, vQ x
def mSorted : Mod
  | [.c (.p (.l 2 n f))] => some (IsL encQ 2 (decL decQ n f) n f ∧ vQs (decL decQ n f) ∧ n ≤ 1000, listV encQ 2 (sortQ (decL decQ n f) n))
  | _ => none
theorem insIx_le (out : List Qf) (x : Qf) (k : Nat) : insIx out x k ≤ k := by
  induction k with
  | zero => exact Nat.le_refl _
  | succ k ih => unfold insIx; split <;> omega
theorem insQ_len (out : List Qf) (x : Qf) : (insQ out x).length = out.length + 1 := by
  have := insIx_le out x out.length
  unfold insQ
  rw [List.length_append, List.length_take, List.length_cons, List.length_drop]; omega
theorem sortQ_len (L : List Qf) (i : Nat) : (sortQ L i).length = i := by
  induction i with
  | zero => rfl
  | succ i ih => unfold sortQ; rw [insQ_len, ih]
theorem mem_insQ {out : List Qf} {x y : Qf} (h : y ∈ insQ out x) : y = x ∨ y ∈ out := by
  unfold insQ at h
  rcases List.mem_append.1 h with h | h
  · exact .inr (List.mem_of_mem_take h)
  · rcases List.mem_cons.1 h with h | h
    · exact .inl h
    · exact .inr (List.mem_of_mem_drop h)
theorem getD_memQ {L : List Qf} {i : Nat} (h : i < L.length) : L.getD i default ∈ L := by
  rw [List.getD_eq_getElem?_getD, List.getElem?_eq_getElem h]
  exact List.getElem_mem h
theorem sortQ_mem {L : List Qf} {i : Nat} (hi : i ≤ L.length) {y : Qf} (h : y ∈ sortQ L i) : y ∈ L := by
  induction i with
  | zero => cases h
  | succ i ih =>
    unfold sortQ at h
    rcases mem_insQ h with rfl | h
    · exact getD_memQ (by omega)
    · exact ih (by omega) h
theorem ins_row {out : List Qf} {x : Qf} {k e o : Nat} (hk : k ≤ out.length) (ho : o < 2) (he : e < out.length + 1) :
    renC [4] (appF (0 + (k - 0) + 1) (appF (0 + (k - 0)) (appF 0 (fun _ _ => C.top) fun e o => rowC encQ out (e + 0) o) fun e o => nth C.top [C.p (PV.i IntKind.i64 x.1), C.p (PV.i IntKind.i64 x.2)] ((e + 0) * 2 + o)) (fun e o => rowC encQ out (e + (0 + k)) o) e o) = rowC encQ (out.take k ++ x :: out.drop k) e o := by
  have hnx : (out.take k).length = k := by rw [List.length_take]; omega
  simp only [appF, Nat.zero_add, Nat.add_zero, Nat.sub_zero]
  by_cases h1 : e < k
  · rw [if_pos (by omega), if_pos h1, if_neg (by omega)]
    show rowC encQ out e o = rowC encQ _ e o
    unfold rowC rowP
    simp [List.getElem?_append_left (show e < (out.take k).length by omega), h1]
  · by_cases h2 : e = k
    · subst h2
      rw [if_pos (by omega), if_neg (by omega)]
      have e1 : (out.take e ++ x :: out.drop e).getD e default = x := by
        rw [List.getD_eq_getElem?_getD, List.getElem?_append_right (by omega), hnx]; simp
      show _ = C.p (encQ ((out.take e ++ x :: out.drop e).getD e default) o)
      rw [e1, Nat.sub_self]
      have ho' : o = 0 ∨ o = 1 := by omega
      rcases ho' with rfl | rfl <;> rfl
    · rw [if_neg (by omega)]
      have e1 : (out.take k ++ x :: out.drop k).getD e default = out.getD (e - 1) default := by
        rw [List.getD_eq_getElem?_getD, List.getD_eq_getElem?_getD, List.getElem?_append_right (by omega), hnx, show e - k = (e - k - 1) + 1 by omega, List.getElem?_cons_succ, List.getElem?_drop, show k + (e - k - 1) = e - 1 by omega]
      show _ = C.p (encQ ((out.take k ++ x :: out.drop k).getD e default) o)
      rw [e1, show e - (k + 1) + k = e - 1 by omega]
      rfl
section
variable {G : Nat → Option Obj}
theorem extSr_sound : SoundExt Tryd.prog G extSr := extOf_sound (by simp; exact okCmpQ)
set_option maxRecDepth 100000 in
theorem okSorted : ModOK Tryd.prog G 24 mSorted := by
  intro args p v hm hp h
  unfold mSorted at hm
  split at hm; rotate_left; · cases hm
  rename_i n f
  obtain ⟨rfl, rfl⟩ := some_pairQ hm
  obtain ⟨hL, hv, hn⟩ := hp
  have hlen : (decL decQ n f).length = n := hL.1
  clear hm
  generalize decL decQ n f = L at hL hv hlen ⊢
  refine FnS.args (args' := [listV encQ 2 L]) ?_ (.cons hL.le .nil)
  clear hL
  subst hlen
  refine fn_S Tryd.func24 (by kernel_rfl) rfl ?_ h
  refine ExS.evG ext0_sound 3 (tSr1 L) ?_
  simp only [holds_leaf, kf_normal]
  refine ⟨?_⟩
  refine ExS.loop' (l := dropL 3 (pcs Tryd.prog Tryd.f24)) (b := inr (inr (nth .skip (pcs Tryd.prog Tryd.f24) 3))) (r := dropL 4 (pcs Tryd.prog Tryd.f24)) (id := 0) (by kernel_rfl) (σ := Nat)
    (fun i => (fun (out : List Qf) => cst 50 [(0, listV encQ 2 L), (3, .c (.sl 0 2 0 out.length)), (4, iV (i : Nat))] [.row 26 2 out.length (rowC encQ out)]) (sortQ L i)) (fun i => i ≤ L.length) (fun i => L.length - i) 0 (Nat.zero_le _)
    ((weak_nil 26 2 (rowC encQ []) 3 (by kernel_rfl)).trans (weak_of_eq (by kernel_rfl))) ?_
  rintro i hi Q1 q1n q1e -
  dsimp only at hi q1n q1e ⊢
  have hvo : ∀ k, k < (sortQ L i).length → vQ ((sortQ L i).getD k default) := fun k hk => hv _ (sortQ_mem hi (getD_memQ hk))
  have hso : sortQ L (i + 1) = insQ (sortQ L i) (L.getD i default) := rfl
  have hol := sortQ_len L i
  generalize hgo : sortQ L i = out at hvo hso hol ⊢
  refine ExS.evG ext0_sound 2 (tSr2 L out i) ?_
  simp only [holds_bT, holds_leaf, kf_normal, kf_exit, decide_eq_true_eq, decide_eq_false_iff_not]
  refine ⟨fun h1 => ⟨?_⟩, fun h1 => ⟨q1e _ ?_⟩⟩
  · have hx := hv _ (getD_memQ (L := L) (i := i) (by omega))
    refine ExS.blk' (l := dropL 2 (lpB (pcs Tryd.prog Tryd.f24) 3)) (id := 1) (a := inr (nth .skip (lpB (pcs Tryd.prog Tryd.f24) 3) 2)) (r := dropL 3 (lpB (pcs Tryd.prog Tryd.f24) 3)) (by kernel_rfl) ?_
    intro Q2 q2n _ _
    refine ExS.evG ext0_sound 1 (tSr3 L out i) ?_
    simp only [holds_leaf, kf_normal]
    refine ⟨?_⟩
    refine ExS.loop' (l := dropL 1 (flat (inr (nth .skip (lpB (pcs Tryd.prog Tryd.f24) 3) 2)))) (b := inr (inr (nth .skip (flat (inr (nth .skip (lpB (pcs Tryd.prog Tryd.f24) 3) 2))) 1))) (r := dropL 2 (flat (inr (nth .skip (lpB (pcs Tryd.prog Tryd.f24) 3) 2)))) (id := 2) (by kernel_rfl) (σ := Nat)
      (fun k => cst 50 [(0, listV encQ 2 L), (3, .c (.sl 0 2 0 out.length)), (4, iV (i : Nat)), (5, iV (k : Nat))] [.row 26 2 out.length (rowC encQ out)]) (fun k => k ≤ out.length ∧ insIx out (L.getD i default) k = insIx out (L.getD i default) out.length) (fun k => k) out.length ⟨Nat.le_refl _, rfl⟩ (weak_of_eq (by kernel_rfl)) ?_
    rintro k ⟨hk, hix⟩ Q3 q3n q3e -
    try dsimp only at hk hix q3n q3e ⊢
    have fin : k = insIx out (L.getD i default) out.length → ExS Tryd.prog G (resOf Tryd.prog Tryd.f24) (listV encQ 2 (sortQ L L.length)) (dropL 2 (flat (inr (nth .skip (lpB (pcs Tryd.prog Tryd.f24) 3) 2)))) (cst 50 [(0, listV encQ 2 L), (3, .c (.sl 0 2 0 out.length)), (4, iV (i : Nat)), (5, iV (k : Nat))] [.row 26 2 out.length (rowC encQ out)]) Q2 := by
      intro hk2
      refine ExS.evH ext0_sound (tSr6 L out i k) ?_
      have hl2 : 0 + (k - 0) + 1 + (out.length - k) = (insQ out (L.getD i default)).length := by rw [insQ_len]; omega
      simp only [holds_bT, holds_rq, holds_leaf, kf_normal, show (↑i : Int).toNat = i from rfl, show (↑k : Int).toNat = k from rfl, show (↑out.length : Int).toNat = out.length from rfl, show (↑(0 : Nat) : Int).toNat = 0 from rfl, show Int.toNat 0 = 0 from rfl]
      have one : ∀ e o : Nat, o < 2 → oneC (rowC encQ out e o) = true := by
        intro e o ho
        have ho' : o = 0 ∨ o = 1 := by omega
        rcases ho' with rfl | rfl <;> rfl
      refine ⟨by omega, by omega, ⟨by omega, by omega, fun e o _ ho => one _ o ho⟩, by omega, trivial, by omega, ⟨by omega, by omega, fun e o he ho => ?_⟩, by omega, trivial, by omega, ⟨by omega, by omega, fun e o _ ho => one _ o ho⟩, ⟨q2n _ ?_⟩⟩
      · obtain rfl : e = 0 := by omega
        have ho' : o = 0 ∨ o = 1 := by omega
        rcases ho' with rfl | rfl <;> rfl
      rw [hl2]
      refine ExS.pre (st2 := (fun (out : List Qf) => cst 50 [(0, listV encQ 2 L), (3, .c (.sl 0 2 0 out.length)), (4, iV (i : Nat))] [.row 26 2 out.length (rowC encQ out)]) (sortQ L (i + 1))) ?_ ?_
      · rw [hso]
        refine weak_cst ?_
        refine ⟨⟨rfl, rfl, rfl, fun e o he ho => ?_⟩, trivial⟩
        rw [insQ_len] at he
        unfold insQ
        rw [← hk2]
        exact ins_row hk ho he
      · refine ExS.evH ext0_sound (tSr7 L (sortQ L (i + 1)) i) ?_
        simp only [holds_rq, holds_leaf, kf_normal, inR]
        exact ⟨by omega, ⟨q1n (i + 1) _ (by omega) (by omega) (weak_of_eq (by kernel_rfl))⟩⟩
    refine ExS.evG extSr_sound 2 (tSr4 L out i k) ?_
    simp only [holds_bT, holds_rq, holds_leaf, kf_normal, kf_exit, decide_eq_true_eq, decide_eq_false_iff_not, show (↑i : Int).toNat = i from rfl, inR]
    refine ⟨fun h2 => ⟨by omega, by omega, by omega, by omega, ⟨hx, hvo _ (by omega)⟩, fun h3 => ⟨?_⟩, fun h3 => ⟨q3e _ (fin ?_)⟩⟩, fun h2 => ⟨q3e _ (fin ?_)⟩⟩
    · obtain ⟨j, rfl⟩ : ∃ j, k = j + 1 := ⟨k - 1, by omega⟩
      refine ExS.evH ext0_sound (tSr5 L out i (j + 1)) ?_
      simp only [holds_rq, holds_leaf, kf_normal, inR]
      refine ⟨by omega, ⟨q3n j _ ⟨by omega, ?_⟩ (by omega) ?_⟩⟩
      · rw [← hix, insIx, if_pos]
        rw [show (((j + 1 : Nat) : Int) - 1).toNat + 0 = j by omega] at h3
        exact h3
      · rw [show ((j + 1 : Nat) : Int) - 1 = (j : Int) by omega]
        exact weak_of_eq (by kernel_rfl)
    · obtain ⟨j, rfl⟩ : ∃ j, k = j + 1 := ⟨k - 1, by omega⟩
      rw [← hix, insIx, if_neg]
      rw [show (((j + 1 : Nat) : Int) - 1).toNat + 0 = j by omega] at h3
      exact h3
    · obtain rfl : k = 0 := by omega
      rw [← hix]; rfl
  · obtain rfl : i = L.length := by omega
    refine ExS.evH ext0_sound (tSr8 L out L.length) ?_
    rw [← hgo] at *
    simp only [holds_rq, holds_leaf, kf_ret']
    refine ⟨⟨by omega, fun e o _ ho => ?_⟩, ⟨VLe.refl _⟩⟩
    have ho' : o = 0 ∨ o = 1 := by omega
    rcases ho' with rfl | rfl <;> rfl
end
end Go.AE
