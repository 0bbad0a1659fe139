/- AE: law29.owners, the law RoutePartition. -/
import Derived.Test.YtkpladkcppeciaaT5
namespace Go.AE
open Go.Proofs Go.Proofs.Ytkpladkcppeciaa Gp
set_option linter.unusedVariables false
set_option linter.unusedSimpArgs false

structure OwnP (n : Nat) (M : List (List Int)) (rk : Int → Nat) : Prop where
  ne : ∀ g, g < M.length → 0 < (M.getD g default).length
  rng : ∀ g, g < M.length → ∀ x ∈ M.getD g default, 0 ≤ x ∧ x < n ∧ rk x = g
  srt : ∀ g, g < M.length → (M.getD g default).Pairwise (· < ·)
  all : ∀ x : Int, 0 ≤ x → x < n → rk x < M.length ∧ x ∈ M.getD (rk x) default
  cnt : M.flatten.length = n
theorem rep_rowI {n e o : Nat} (he : e < n) (ho : o < 1) : renC [0] (C.p (nth (PV.b false) [PV.i IntKind.i64 0] o)) = rowC encI (List.replicate n 0) e o := by
  obtain rfl : o = 0 := by omega
  unfold rowC rowP
  rw [List.getD_eq_getElem?_getD, List.getElem?_replicate, if_pos he]; rfl
def ownL (n : Nat) (rk : Int → Nat) : List Int := (List.range n).map fun (k : Nat) => (rk k : Int) + 1
def mOwn (rk : Int → Nat) : Mod
  | [.c (.p (.l 6 n f)), .c (.p (.l 1 m g))] => some ((IsL encAl 6 (decL decAl n f) n f ∧ n ≤ 1000) ∧ IsL encLI 1 (decL decLI m g) m g ∧ OwnP n (decL decLI m g) rk, listV encI 1 (ownL n rk))
  | _ => none
def extOw (rk : Int → Nat) : Ext := extOf [(8, mGroups), (11, mOwn rk)]
def extKC : Ext := extOf [(13, mKeep), (12, mCmpL)]
def extLvs : Ext := extOf [(10, mLives)]

theorem tOw1 (A : List (List (ByteArray × ByteArray))) (M : List (List Int)) : exTs ext0 (takeL 4 (pcs Try.prog Try.f11)) (st0 Try.f11 [listV encAl 6 A, listV encLI 1 M]) (endG (msk 84 [0, 1, 5, 6, 7]) (resOf Try.prog Try.f11)) = Tr.rq (0 ≤ (↑A.length : Int) ∧ (↑A.length : Int) ≤ (↑A.length : Int) ∧ (↑A.length : Int) * (↑8 : Int) ≤ 140737488355328 ∧ (↑A.length : Int) ≤ 140737488355328)
    (Tr.done X.normal
      (cst 84 [(0, V.c (C.p (PV.l 6 A.length (rowP encAl A)))), (1, V.c (C.p (PV.l 1 M.length (rowP encLI M)))), (5, V.c (C.sl 0 1 0 (↑A.length : Int).toNat)), (6, V.c (C.p (PV.i IntKind.i64 0))), (7, V.c (C.p (PV.i IntKind.i64 0)))] [AO.row 3 1 (↑A.length : Int).toNat fun e o => renC [0] (C.p (nth (PV.b false) [PV.i IntKind.i64 0] o))])) := by kernel_rfl
theorem tOw2 (A : List (List (ByteArray × ByteArray))) (M : List (List Int)) (out : List Int) (n c g : Nat) : exTs ext0 (takeL 2 (lpB (pcs Try.prog Try.f11) 4)) (cst 84 [(0, listV encAl 6 A), (1, listV encLI 1 M), (5, .c (.sl 0 1 0 n)), (6, iV (c : Nat)), (7, iV (g : Nat))] [.row 3 1 n (rowC encI out)]) (endG (msk 84 [0, 1, 5, 6, 7]) (resOf Try.prog Try.f11)) = bT (decide ((↑g : Int) < (↑M.length : Int)))
    (Tr.done X.normal
      (cst 84 [(0, V.c (C.p (PV.l 6 A.length (rowP encAl A)))), (1, V.c (C.p (PV.l 1 M.length (rowP encLI M)))), (5, V.c (C.sl 0 1 0 n)), (6, V.c (C.p (PV.i IntKind.i64 (↑c : Int)))), (7, V.c (C.p (PV.i IntKind.i64 (↑g : Int))))] [AO.row 3 1 n fun e o => renC [0] (rowC encI out e o)]))
    (Tr.done (X.exit 0)
      (cst 84 [(0, V.c (C.p (PV.l 6 A.length (rowP encAl A)))), (1, V.c (C.p (PV.l 1 M.length (rowP encLI M)))), (5, V.c (C.sl 0 1 0 n)), (6, V.c (C.p (PV.i IntKind.i64 (↑c : Int)))), (7, V.c (C.p (PV.i IntKind.i64 (↑g : Int))))] [AO.row 3 1 n fun e o => renC [0] (rowC encI out e o)])) := by kernel_rfl
theorem tOw3 (A : List (List (ByteArray × ByteArray))) (M : List (List Int)) (out : List Int) (n c g : Nat) : exTs ext0 (takeL 3 (flat (inr (nth .skip (lpB (pcs Try.prog Try.f11) 4) 2)))) (cst 84 [(0, listV encAl 6 A), (1, listV encLI 1 M), (5, .c (.sl 0 1 0 n)), (6, iV (c : Nat)), (7, iV (g : Nat))] [.row 3 1 n (rowC encI out)]) (endG (msk 84 [0, 1, 5, 6, 7, 8]) (resOf Try.prog Try.f11)) = Tr.rq (0 ≤ (↑g : Int) ∧ (↑g : Int) < (↑M.length : Int))
    (bT ((↑(M.getD (↑g : Int).toNat default).length : Int) == 0) (Tr.done X.ret (St.mk [V.c (C.p (PV.z (Value.slice none 0 0)))] []))
      (Tr.done X.normal
        (cst 84 [(0, V.c (C.p (PV.l 6 A.length (rowP encAl A)))), (1, V.c (C.p (PV.l 1 M.length (rowP encLI M)))), (5, V.c (C.sl 0 1 0 n)), (6, V.c (C.p (PV.i IntKind.i64 (↑c : Int)))), (7, V.c (C.p (PV.i IntKind.i64 (↑g : Int)))), (8, V.c (C.p (PV.i IntKind.i64 0)))] [AO.row 3 1 n fun e o => renC [0] (rowC encI out e o)]))) := by kernel_rfl
theorem tOw4 (A : List (List (ByteArray × ByteArray))) (M : List (List Int)) (out : List Int) (n c g i : Nat) : exTs ext0 (takeL 2 (lpB (flat (inr (nth .skip (lpB (pcs Try.prog Try.f11) 4) 2))) 3)) (cst 84 [(0, listV encAl 6 A), (1, listV encLI 1 M), (5, .c (.sl 0 1 0 n)), (6, iV (c : Nat)), (7, iV (g : Nat)), (8, iV (i : Nat))] [.row 3 1 n (rowC encI out)]) (endG (msk 84 [0, 1, 5, 6, 7, 8]) (resOf Try.prog Try.f11)) = Tr.rq (0 ≤ (↑g : Int) ∧ (↑g : Int) < (↑M.length : Int))
    (bT (decide ((↑i : Int) < (↑(M.getD (↑g : Int).toNat default).length : Int)))
      (Tr.done X.normal
        (cst 84 [(0, V.c (C.p (PV.l 6 A.length (rowP encAl A)))), (1, V.c (C.p (PV.l 1 M.length (rowP encLI M)))), (5, V.c (C.sl 0 1 0 n)), (6, V.c (C.p (PV.i IntKind.i64 (↑c : Int)))), (7, V.c (C.p (PV.i IntKind.i64 (↑g : Int)))), (8, V.c (C.p (PV.i IntKind.i64 (↑i : Int))))] [AO.row 3 1 n fun e o => renC [0] (rowC encI out e o)]))
      (Tr.done (X.exit 2)
        (cst 84 [(0, V.c (C.p (PV.l 6 A.length (rowP encAl A)))), (1, V.c (C.p (PV.l 1 M.length (rowP encLI M)))), (5, V.c (C.sl 0 1 0 n)), (6, V.c (C.p (PV.i IntKind.i64 (↑c : Int)))), (7, V.c (C.p (PV.i IntKind.i64 (↑g : Int)))), (8, V.c (C.p (PV.i IntKind.i64 (↑i : Int))))] [AO.row 3 1 n fun e o => renC [0] (rowC encI out e o)]))) := by kernel_rfl
theorem tOw5 (A : List (List (ByteArray × ByteArray))) (M : List (List Int)) (out : List Int) (n c g i : Nat) : exTs ext0 (takeL 1 (flat (inr (nth .skip (lpB (flat (inr (nth .skip (lpB (pcs Try.prog Try.f11) 4) 2))) 3) 2)))) (cst 84 [(0, listV encAl 6 A), (1, listV encLI 1 M), (5, .c (.sl 0 1 0 n)), (6, iV (c : Nat)), (7, iV (g : Nat)), (8, iV (i : Nat))] [.row 3 1 n (rowC encI out)]) (endG (msk 84 [0, 1, 5, 6, 7, 8, 9]) (resOf Try.prog Try.f11)) = Tr.rq (0 ≤ (↑g : Int) ∧ (↑g : Int) < (↑M.length : Int))
    (Tr.rq (0 ≤ (↑i : Int) ∧ (↑i : Int) < (↑(M.getD (↑g : Int).toNat default).length : Int))
      (Tr.done X.normal
        (cst 84 [(0, V.c (C.p (PV.l 6 A.length (rowP encAl A)))), (1, V.c (C.p (PV.l 1 M.length (rowP encLI M)))), (5, V.c (C.sl 0 1 0 n)), (6, V.c (C.p (PV.i IntKind.i64 (↑c : Int)))), (7, V.c (C.p (PV.i IntKind.i64 (↑g : Int)))), (8, V.c (C.p (PV.i IntKind.i64 (↑i : Int)))), (9, V.c (C.p (PV.i IntKind.i64 ((M.getD (↑g : Int).toNat default).getD (↑i : Int).toNat default))))] [AO.row 3 1 n fun e o => renC [0] (rowC encI out e o)]))) := by kernel_rfl
theorem tOw6 (A : List (List (ByteArray × ByteArray))) (M : List (List Int)) (out : List Int) (x : Int) (n c g i : Nat) : exTs ext0 (dropL 1 (flat (inr (nth .skip (lpB (flat (inr (nth .skip (lpB (pcs Try.prog Try.f11) 4) 2))) 3) 2)))) (cst 84 [(0, listV encAl 6 A), (1, listV encLI 1 M), (5, .c (.sl 0 1 0 n)), (6, iV (c : Nat)), (7, iV (g : Nat)), (8, iV (i : Nat)), (9, iV x)] [.row 3 1 n (rowC encI out)]) (endG (msk 84 [0, 1, 5, 6, 7, 8]) (resOf Try.prog Try.f11)) = bT (decide (x < 0)) (Tr.done X.ret (St.mk [V.c (C.p (PV.z (Value.slice none 0 0)))] []))
    (bT (decide ((↑A.length : Int) ≤ x)) (Tr.done X.ret (St.mk [V.c (C.p (PV.z (Value.slice none 0 0)))] []))
      (bT (decide (0 < (↑i : Int)))
        (Tr.rq (0 ≤ (↑g : Int) ∧ (↑g : Int) < (↑M.length : Int))
          (Tr.rq (inR IntKind.i64 ((↑i : Int) - 1))
            (Tr.rq (0 ≤ (↑i : Int) - 1 ∧ (↑i : Int) - 1 < (↑(M.getD (↑g : Int).toNat default).length : Int))
              (bT (decide (x ≤ (M.getD (↑g : Int).toNat default).getD ((↑i : Int) - 1).toNat default)) (Tr.done X.ret (St.mk [V.c (C.p (PV.z (Value.slice none 0 0)))] []))
                (Tr.rq (0 ≤ x ∧ x < (↑n : Int))
                  (Tr.rq (x.toNat + 0 < n)
                    (bT (out.getD (x.toNat + 0) default != 0) (Tr.done X.ret (St.mk [V.c (C.p (PV.z (Value.slice none 0 0)))] []))
                      (Tr.rq (inR IntKind.i64 ((↑g : Int) + 1))
                        (Tr.rq (0 ≤ x ∧ x < (↑n : Int))
                          (Tr.rq (x.toNat + 0 < n)
                            (Tr.rq (inR IntKind.i64 ((↑c : Int) + 1))
                              (Tr.done X.normal
                                (cst 84 [(0, V.c (C.p (PV.l 6 A.length (rowP encAl A)))), (1, V.c (C.p (PV.l 1 M.length (rowP encLI M)))), (5, V.c (C.sl 0 1 0 n)), (6, V.c (C.p (PV.i IntKind.i64 ((↑c : Int) + 1)))), (7, V.c (C.p (PV.i IntKind.i64 (↑g : Int)))), (8, V.c (C.p (PV.i IntKind.i64 (↑i : Int))))] [AO.row 3 1 n fun e o => renC [0] (if e = x.toNat + 0 then if 0 ≤ o ∧ o < 1 then nth C.top [C.p (PV.i IntKind.i64 ((↑g : Int) + 1))] (o - 0) else rowC encI out e o else rowC encI out e o)])))))))))))))
        (Tr.rq (0 ≤ x ∧ x < (↑n : Int))
          (Tr.rq (x.toNat + 0 < n)
            (bT (out.getD (x.toNat + 0) default != 0) (Tr.done X.ret (St.mk [V.c (C.p (PV.z (Value.slice none 0 0)))] []))
              (Tr.rq (inR IntKind.i64 ((↑g : Int) + 1))
                (Tr.rq (0 ≤ x ∧ x < (↑n : Int))
                  (Tr.rq (x.toNat + 0 < n)
                    (Tr.rq (inR IntKind.i64 ((↑c : Int) + 1))
                      (Tr.done X.normal
                        (cst 84 [(0, V.c (C.p (PV.l 6 A.length (rowP encAl A)))), (1, V.c (C.p (PV.l 1 M.length (rowP encLI M)))), (5, V.c (C.sl 0 1 0 n)), (6, V.c (C.p (PV.i IntKind.i64 ((↑c : Int) + 1)))), (7, V.c (C.p (PV.i IntKind.i64 (↑g : Int)))), (8, V.c (C.p (PV.i IntKind.i64 (↑i : Int))))] [AO.row 3 1 n fun e o => renC [0] (if e = x.toNat + 0 then if 0 ≤ o ∧ o < 1 then nth C.top [C.p (PV.i IntKind.i64 ((↑g : Int) + 1))] (o - 0) else rowC encI out e o else rowC encI out e o)]))))))))))) := by kernel_rfl
theorem tOw7 (A : List (List (ByteArray × ByteArray))) (M : List (List Int)) (out : List Int) (n c g i : Nat) : exTs ext0 (dropL 3 (lpB (flat (inr (nth .skip (lpB (pcs Try.prog Try.f11) 4) 2))) 3)) (cst 84 [(0, listV encAl 6 A), (1, listV encLI 1 M), (5, .c (.sl 0 1 0 n)), (6, iV (c : Nat)), (7, iV (g : Nat)), (8, iV (i : Nat))] [.row 3 1 n (rowC encI out)]) (endG (msk 84 [0, 1, 5, 6, 7, 8]) (resOf Try.prog Try.f11)) = Tr.rq (inR IntKind.i64 ((↑i : Int) + 1))
    (Tr.done X.normal
      (cst 84 [(0, V.c (C.p (PV.l 6 A.length (rowP encAl A)))), (1, V.c (C.p (PV.l 1 M.length (rowP encLI M)))), (5, V.c (C.sl 0 1 0 n)), (6, V.c (C.p (PV.i IntKind.i64 (↑c : Int)))), (7, V.c (C.p (PV.i IntKind.i64 (↑g : Int)))), (8, V.c (C.p (PV.i IntKind.i64 ((↑i : Int) + 1))))] [AO.row 3 1 n fun e o => renC [0] (rowC encI out e o)])) := by kernel_rfl
theorem tOw8 (A : List (List (ByteArray × ByteArray))) (M : List (List Int)) (out : List Int) (n c g : Nat) : exTs ext0 (dropL 3 (lpB (pcs Try.prog Try.f11) 4)) (cst 84 [(0, listV encAl 6 A), (1, listV encLI 1 M), (5, .c (.sl 0 1 0 n)), (6, iV (c : Nat)), (7, iV (g : Nat))] [.row 3 1 n (rowC encI out)]) (endG (msk 84 [0, 1, 5, 6, 7]) (resOf Try.prog Try.f11)) = Tr.rq (inR IntKind.i64 ((↑g : Int) + 1))
    (Tr.done X.normal
      (cst 84 [(0, V.c (C.p (PV.l 6 A.length (rowP encAl A)))), (1, V.c (C.p (PV.l 1 M.length (rowP encLI M)))), (5, V.c (C.sl 0 1 0 n)), (6, V.c (C.p (PV.i IntKind.i64 (↑c : Int)))), (7, V.c (C.p (PV.i IntKind.i64 ((↑g : Int) + 1))))] [AO.row 3 1 n fun e o => renC [0] (rowC encI out e o)])) := by kernel_rfl
theorem tOw9 (A : List (List (ByteArray × ByteArray))) (M : List (List Int)) (out : List Int) (n c g : Nat) : exTs ext0 (dropL 5 (pcs Try.prog Try.f11)) (cst 84 [(0, listV encAl 6 A), (1, listV encLI 1 M), (5, .c (.sl 0 1 0 n)), (6, iV (c : Nat)), (7, iV (g : Nat))] [.row 3 1 n (rowC encI out)]) (endG [] (resOf Try.prog Try.f11)) = bT ((↑c : Int) != (↑A.length : Int)) (Tr.done X.ret (St.mk [V.c (C.p (PV.z (Value.slice none 0 0)))] []))
    (Tr.rq (0 + n ≤ n ∧ ∀ (e o : Nat), e < n → o < 1 → isF (rowC encI out (e + 0) o) = true) (Tr.done X.ret (St.mk [V.c (C.p (PV.l 1 n fun e o => unP (rowC encI out (e + 0) o)))] []))) := by kernel_rfl
theorem ownL_length (n : Nat) (rk : Int → Nat) : (ownL n rk).length = n := by simp [ownL]
theorem ownL_at {n : Nat} {rk : Int → Nat} {k : Nat} (h : k < n) : (ownL n rk).getD k default = (rk k : Int) + 1 := by
  unfold ownL
  simp [h]
theorem getD_setI {L : List Int} {i j : Nat} {x : Int} (hi : i < L.length) : (L.set i x).getD j default = if j = i then x else L.getD j default := by
  rw [List.getD_eq_getElem?_getD, List.getElem?_set]
  split
  · rename_i h; rw [if_pos h.symm]; simp [hi]
  · rename_i h; rw [if_neg (fun h2 => h h2.symm), List.getD_eq_getElem?_getD]
theorem flat_le {M : List (List Int)} {g : Nat} (hg : g < M.length) : (M.take (g + 1)).flatten.length = (M.take g).flatten.length + (M.getD g default).length := by
  rw [take_succ' hg, List.flatten_append, List.length_append]
  simp
theorem flat_le2 (M : List (List Int)) (g : Nat) : (M.take g).flatten.length ≤ M.flatten.length := by
  conv => rhs; rw [← List.take_append_drop g M, List.flatten_append, List.length_append]
  omega
theorem srt_at {l : List Int} (h : l.Pairwise (· < ·)) {i j : Nat} (hij : i < j) (hj : j < l.length) : l.getD i default < l.getD j default := by
  rw [List.getD_eq_getElem?_getD, List.getD_eq_getElem?_getD, List.getElem?_eq_getElem hj, List.getElem?_eq_getElem (show i < l.length by omega)]
  exact List.pairwise_iff_getElem.1 h i j (by omega) hj hij
theorem not_take {l : List Int} (h : l.Pairwise (· < ·)) {i : Nat} (hi : i < l.length) : l.getD i default ∉ l.take i := by
  intro hm
  obtain ⟨j, hj, he⟩ := List.mem_iff_getElem.1 hm
  rw [List.length_take] at hj
  rw [List.getElem_take] at he
  have := srt_at h (show j < i by omega) hi
  rw [List.getD_eq_getElem?_getD, List.getElem?_eq_getElem (show j < l.length by omega)] at this
  simp only [Option.getD_some] at this
  omega
/-- What has been given so far. -/
def OwnI (n : Nat) (M : List (List Int)) (rk : Int → Nat) (g i : Nat) (out : List Int) : Prop := out.length = n ∧ ∀ k : Nat, k < n → out.getD k default = if rk k < g ∨ (rk k = g ∧ (k : Int) ∈ (M.getD g default).take i) then (rk k : Int) + 1 else 0
theorem OwnI.step {n : Nat} {M : List (List Int)} {rk : Int → Nat} {g i : Nat} {out : List Int} (hP : OwnP n M rk) (h : OwnI n M rk g i out) (hg : g < M.length) (hi : i < (M.getD g default).length) :
    OwnI n M rk g (i + 1) (out.set ((M.getD g default).getD i default).toNat ((g : Int) + 1)) := by
  obtain ⟨h1, h2⟩ := h
  have hx := hP.rng g hg _ (getD_memG hi)
  refine ⟨by rw [List.length_set]; exact h1, fun k hk => ?_⟩
  rw [getD_setI (by omega), take_succ' hi]
  by_cases e : k = ((M.getD g default).getD i default).toNat
  · rw [if_pos e]
    have e2 : (k : Int) = (M.getD g default).getD i default := by omega
    rw [e2, hx.2.2, if_pos (.inr ⟨rfl, by simp⟩)]
  · rw [if_neg e, h2 k hk]
    have e2 : (k : Int) ≠ (M.getD g default).getD i default := by omega
    simp only [List.mem_append, List.mem_singleton, e2, or_false]
theorem OwnI.zero {n : Nat} {M : List (List Int)} {rk : Int → Nat} {g i : Nat} {out : List Int} (hP : OwnP n M rk) (h : OwnI n M rk g i out) (hg : g < M.length) (hi : i < (M.getD g default).length) :
    out.getD ((M.getD g default).getD i default).toNat default = 0 := by
  obtain ⟨h1, h2⟩ := h
  have hx := hP.rng g hg _ (getD_memG hi)
  have e2 : ((((M.getD g default).getD i default).toNat : Nat) : Int) = (M.getD g default).getD i default := by omega
  rw [h2 _ (by omega), e2, hx.2.2, if_neg]
  rintro (h | ⟨_, h⟩)
  · omega
  · exact not_take (hP.srt g hg) hi h
theorem OwnI.next {n : Nat} {M : List (List Int)} {rk : Int → Nat} {g : Nat} {out : List Int} (hP : OwnP n M rk) (h : OwnI n M rk g (M.getD g default).length out) (hg : g < M.length) : OwnI n M rk (g + 1) 0 out := by
  obtain ⟨h1, h2⟩ := h
  refine ⟨h1, fun k hk => ?_⟩
  rw [h2 k hk, List.take_length, List.take_zero]
  have hk2 := hP.all k (by omega) (by omega)
  by_cases e : rk k = g
  · rw [if_pos (.inr ⟨e, by have := hk2.2; rwa [e] at this⟩), if_pos (.inl (by omega))]
  · by_cases e2 : rk k < g
    · rw [if_pos (.inl e2), if_pos (.inl (by omega))]
    · rw [if_neg, if_neg]
      · rintro (h | ⟨_, h⟩)
        · omega
        · cases h
      · rintro (h | ⟨h, _⟩)
        · exact e2 h
        · exact e h
theorem OwnI.fin {n : Nat} {M : List (List Int)} {rk : Int → Nat} {out : List Int} (hP : OwnP n M rk) (h : OwnI n M rk M.length 0 out) : out = ownL n rk := by
  obtain ⟨h1, h2⟩ := h
  apply List.ext_getElem (by rw [ownL_length]; exact h1)
  intro k a1 a2
  have hk : k < n := by omega
  have e1 := h2 k hk
  rw [if_pos (.inl (hP.all k (by omega) (by omega)).1), ← ownL_at (rk := rk) hk] at e1
  rw [List.getD_eq_getElem?_getD, List.getD_eq_getElem?_getD, List.getElem?_eq_getElem a1, List.getElem?_eq_getElem a2] at e1
  exact e1
theorem OwnI.init {n : Nat} {M : List (List Int)} {rk : Int → Nat} : OwnI n M rk 0 0 (List.replicate n 0) := by
  refine ⟨by simp, fun k hk => ?_⟩
  rw [if_neg]
  · rw [List.getD_eq_getElem?_getD, List.getElem?_replicate, if_pos hk]; rfl
  · rintro (h | ⟨_, h⟩)
    · omega
    · cases h
theorem own_set {out : List Int} {n x : Nat} {y : Int} (hl : out.length = n) (hx : x < n) {e o : Nat} (he : e < n) (ho : o < 1) :
    renC [0] (if e = x + 0 then (if 0 ≤ o ∧ o < 1 then nth C.top [C.p (PV.i IntKind.i64 y)] (o - 0) else rowC encI out e o) else rowC encI out e o) = rowC encI (out.set x y) e o := by
  obtain rfl : o = 0 := by omega
  unfold rowC rowP
  rw [getD_setI (by omega), Nat.add_zero]
  by_cases h : e = x
  · rw [if_pos h, if_pos h]; rfl
  · rw [if_neg h, if_neg h]; rfl
section
variable {G : Nat → Option Obj}
set_option maxRecDepth 100000 in
theorem okOwn (rk : Int → Nat) : ModOK Try.prog G 11 (mOwn rk) := by
  intro args p v hm hp h
  unfold mOwn at hm
  split at hm; rotate_left; · cases hm
  rename_i n f m g
  obtain ⟨rfl, rfl⟩ := some_pair hm
  obtain ⟨⟨hA, hn⟩, hM, hP⟩ := hp
  have hlen : (decL decAl n f).length = n := hA.1
  generalize decL decAl n f = A at hA hlen
  generalize decL decLI m g = M at hM hP
  refine FnS.args (args' := [listV encAl 6 A, listV encLI 1 M]) ?_ (.cons hA.le (.cons hM.le .nil))
  clear hA hM
  subst hlen
  have hcnt := hP.cnt
  have hMl : M.length ≤ A.length := by
    have : ∀ N : List (List Int), (∀ x ∈ N, 0 < x.length) → N.length ≤ N.flatten.length := by
      intro N
      induction N with
      | nil => intro _; exact Nat.le_refl _
      | cons y N ih =>
        intro hy
        have := ih (fun x hx => hy x (List.mem_cons_of_mem _ hx))
        have := hy y (List.mem_cons_self ..)
        simp only [List.length_cons, List.flatten_cons, List.length_append]
        omega
    have := this M (fun x hx => by
      obtain ⟨i, hi, rfl⟩ := List.mem_iff_getElem.1 hx
      have := hP.ne i hi
      rwa [List.getD_eq_getElem?_getD, List.getElem?_eq_getElem hi] at this)
    omega
  refine fn_S Try.func11 (by kernel_rfl) rfl ?_ h
  refine ExS.evG ext0_sound 4 (tOw1 A M) ?_
  simp only [holds_rq, holds_leaf, kf_normal, show (↑A.length : Int).toNat = A.length from rfl]
  refine ⟨by omega, ⟨?_⟩⟩
  refine ExS.loop' (l := dropL 4 (pcs Try.prog Try.f11)) (b := inr (inr (nth .skip (pcs Try.prog Try.f11) 4))) (r := dropL 5 (pcs Try.prog Try.f11)) (id := 0) (by kernel_rfl) (σ := Nat × List Int)
    (fun x => (fun (g : Nat) (out : List Int) (n c : Nat) => cst 84 [(0, listV encAl 6 A), (1, listV encLI 1 M), (5, .c (.sl 0 1 0 n)), (6, iV (c : Nat)), (7, iV (g : Nat))] [.row 3 1 n (rowC encI out)]) x.1 x.2 A.length (M.take x.1).flatten.length) (fun x => x.1 ≤ M.length ∧ OwnI A.length M rk x.1 0 x.2) (fun x => M.length - x.1) (0, List.replicate A.length 0) ⟨Nat.zero_le _, OwnI.init⟩
    ((weak_of_eq (by kernel_rfl)).trans (weak_cst (h := [.row 3 1 A.length (fun e o => renC [0] (C.p (nth (PV.b false) [PV.i IntKind.i64 0] o)))]) ⟨⟨rfl, rfl, rfl, fun e o he ho => rep_rowI he ho⟩, trivial⟩)) ?_
  rintro ⟨g, out⟩ ⟨hg, hO⟩ Q1 q1n q1e -
  dsimp only at hg hO q1n q1e ⊢
  have hc := flat_le2 M g
  refine ExS.evG ext0_sound 2 (tOw2 A M out A.length (M.take g).flatten.length g) ?_
  simp only [holds_bT, holds_leaf, kf_normal, kf_exit, decide_eq_true_eq, decide_eq_false_iff_not]
  refine ⟨fun h1 => ⟨?_⟩, fun h1 => ⟨q1e _ ?_⟩⟩
  · have h1 : g < M.length := by omega
    have hne := hP.ne g h1
    have hfl := flat_le h1
    have hc1 := flat_le2 M (g + 1)
    refine ExS.blk' (l := dropL 2 (lpB (pcs Try.prog Try.f11) 4)) (id := 1) (a := inr (nth .skip (lpB (pcs Try.prog Try.f11) 4) 2)) (r := dropL 3 (lpB (pcs Try.prog Try.f11) 4)) (by kernel_rfl) ?_
    intro Q2 q2n _ _
    refine ExS.evG ext0_sound 3 (tOw3 A M out A.length (M.take g).flatten.length g) ?_
    simp only [holds_bT, holds_rq, holds_leaf, kf_normal, kf_ret', beq_iff_eq, beq_eq_false_iff_ne, ne_eq, show (↑g : Int).toNat = g from rfl]
    refine ⟨by omega, fun c1 => ?_, fun _ => ⟨?_⟩⟩
    · exfalso; omega
    refine ExS.loop' (l := dropL 3 (flat (inr (nth .skip (lpB (pcs Try.prog Try.f11) 4) 2)))) (b := inr (inr (nth .skip (flat (inr (nth .skip (lpB (pcs Try.prog Try.f11) 4) 2))) 3))) (r := dropL 4 (flat (inr (nth .skip (lpB (pcs Try.prog Try.f11) 4) 2)))) (id := 2) (by kernel_rfl) (σ := Nat × List Int)
      (fun x => (fun (i : Nat) (out : List Int) (n c : Nat) => cst 84 [(0, listV encAl 6 A), (1, listV encLI 1 M), (5, .c (.sl 0 1 0 n)), (6, iV (c : Nat)), (7, iV (g : Nat)), (8, iV (i : Nat))] [.row 3 1 n (rowC encI out)]) x.1 x.2 A.length ((M.take g).flatten.length + x.1)) (fun x => x.1 ≤ (M.getD g default).length ∧ OwnI A.length M rk g x.1 x.2) (fun x => (M.getD g default).length - x.1) (0, out) ⟨Nat.zero_le _, hO⟩ (weak_of_eq (by kernel_rfl)) ?_
    clear hO
    rintro ⟨i, out⟩ ⟨hi, hO⟩ Q3 q3n q3e -
    dsimp only at hi hO q3n q3e ⊢
    refine ExS.evG ext0_sound 2 (tOw4 A M out A.length ((M.take g).flatten.length + i) g i) ?_
    simp only [holds_bT, holds_rq, holds_leaf, kf_normal, kf_exit, decide_eq_true_eq, decide_eq_false_iff_not, show (↑g : Int).toNat = g from rfl]
    refine ⟨by omega, fun h2 => ⟨?_⟩, fun h2 => ⟨q3e _ ?_⟩⟩
    · have h2 : i < (M.getD g default).length := by omega
      refine ExS.blk' (l := dropL 2 (lpB (flat (inr (nth .skip (lpB (pcs Try.prog Try.f11) 4) 2))) 3)) (id := 3) (a := inr (nth .skip (lpB (flat (inr (nth .skip (lpB (pcs Try.prog Try.f11) 4) 2))) 3) 2)) (r := dropL 3 (lpB (flat (inr (nth .skip (lpB (pcs Try.prog Try.f11) 4) 2))) 3)) (by kernel_rfl) ?_
      intro Q4 q4n _ _
      refine ExS.evG ext0_sound 1 (tOw5 A M out A.length ((M.take g).flatten.length + i) g i) ?_
      simp only [holds_rq, holds_leaf, kf_normal, show (↑g : Int).toNat = g from rfl, show (↑i : Int).toNat = i from rfl]
      refine ⟨by omega, by omega, ⟨?_⟩⟩
      have hx := hP.rng g h1 _ (getD_memG h2)
      have hz := hO.zero hP h1 h2
      have hst := hO.step hP h1 h2
      have hsrt := fun h : 0 < i => srt_at (hP.srt g h1) (show i - 1 < i by omega) h2
      generalize (M.getD g default).getD i default = x at hx hz hst hsrt
      have fin : ∀ st, WeakS G st ((fun (out : List Int) (n c : Nat) => cst 84 [(0, listV encAl 6 A), (1, listV encLI 1 M), (5, .c (.sl 0 1 0 n)), (6, iV (c : Nat)), (7, iV (g : Nat)), (8, iV (i : Nat))] [.row 3 1 n (rowC encI out)]) (out.set x.toNat ((g : Int) + 1)) A.length ((M.take g).flatten.length + i + 1)) → Q4 .normal st := fun st hst' => q4n st (by
        refine ExS.pre hst' (ExS.evH ext0_sound (tOw7 A M (out.set x.toNat ((g : Int) + 1)) A.length ((M.take g).flatten.length + i + 1) g i) ?_)
        simp only [holds_rq, holds_leaf, kf_normal, inR]
        exact ⟨by omega, ⟨q3n (i + 1, out.set x.toNat ((g : Int) + 1)) _ ⟨by omega, hst⟩ (by simp only; omega) (weak_of_eq (by kernel_rfl))⟩⟩)
      have fin2 := fin _ (weak_cst (h := [.row 3 1 A.length fun e o => renC [0] (if e = x.toNat + 0 then (if 0 ≤ o ∧ o < 1 then nth C.top [C.p (PV.i IntKind.i64 ((g : Int) + 1))] (o - 0) else rowC encI out e o) else rowC encI out e o)]) ⟨⟨rfl, rfl, rfl, fun e o he ho => own_set hO.1 (by omega) he ho⟩, trivial⟩)
      refine ExS.evH ext0_sound (tOw6 A M out x A.length ((M.take g).flatten.length + i) g i) ?_
      simp only [holds_bT, holds_rq, holds_leaf, kf_normal, kf_ret', decide_eq_true_eq, decide_eq_false_iff_not, bne_iff_ne, bne_eq_false_iff_eq, ne_eq, inR, show (↑g : Int).toNat = g from rfl, show ∀ x : Nat, x + 0 = x from fun _ => rfl]
      refine ⟨fun c1 => ?_, fun _ => ⟨fun c1 => ?_, fun _ => ⟨fun c2 => ⟨by omega, by omega, by omega, fun c3 => ?_, fun c3 => ⟨by omega, by omega, fun c4 => absurd hz c4, fun _ => ⟨by omega, by omega, by omega, by omega, ⟨fin2⟩⟩⟩⟩, fun c2 => ⟨by omega, by omega, fun c4 => absurd hz c4, fun _ => ⟨by omega, by omega, by omega, by omega, ⟨fin2⟩⟩⟩⟩⟩⟩
      · exfalso; omega
      · exfalso; omega
      · exfalso
        have := hsrt (by omega)
        rw [show ((i : Int) - 1).toNat = i - 1 by omega] at c3
        omega
    · obtain rfl : i = (M.getD g default).length := by omega
      refine ⟨_, WeakS.refl _, q2n _ ?_⟩
      refine ExS.pre (st2 := (fun (n c : Nat) => cst 84 [(0, listV encAl 6 A), (1, listV encLI 1 M), (5, .c (.sl 0 1 0 n)), (6, iV (c : Nat)), (7, iV (g : Nat))] [.row 3 1 n (rowC encI out)]) A.length ((M.take g).flatten.length + (M.getD g default).length)) ((weak_gc (msk 84 [0, 1, 5, 6, 7]) _).trans (weak_of_eq (by kernel_rfl))) ?_
      refine ExS.evH ext0_sound (tOw8 A M out A.length ((M.take g).flatten.length + (M.getD g default).length) g) ?_
      simp only [holds_rq, holds_leaf, kf_normal, inR]
      refine ⟨by omega, ⟨q1n (g + 1, out) _ ⟨by omega, hO.next hP h1⟩ (by simp only; omega) ?_⟩⟩
      simp only
      rw [hfl]
      exact weak_of_eq (by kernel_rfl)
  · obtain rfl : g = M.length := by omega
    refine ExS.evH ext0_sound (tOw9 A M out A.length (M.take M.length).flatten.length M.length) ?_
    rw [List.take_length, hcnt]
    simp only [holds_bT, holds_rq, holds_leaf, kf_ret', bne_iff_ne, bne_eq_false_iff_eq, ne_eq, not_true_eq_false, false_imp_iff, true_imp_iff, true_and]
    refine ⟨⟨by omega, fun _ _ _ _ => rfl⟩, ⟨?_⟩⟩
    have := hO.fin hP
    subst this
    unfold listV listP
    rw [ownL_length]
    exact VLe.refl _
end
end Go.AE
