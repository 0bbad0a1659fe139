/- AE contracts: ref05.New, ref05.Valid. -/
import Derived.Test.YtlaknbcmidjiaaaDoorR3
namespace Go.AE
open Go.Proofs Go.Proofs.YtlaknbcmidjiaaaDoor

def mNew : Mod
  | [.c (.p (.l 2 n f))] => some (IsL enc2 2 (decL dec2 n f) n f, .t [.c (.p (listP enc2 2 (newLs (decL dec2 n f)).1)), .c (.p (.i .i64 (newLs (decL dec2 n f)).2))])
  | _ => none
def extN : Ext := extOf [(46, mName), (78, mValue)]

theorem tNew1 (L : List (ByteArray × ByteArray)) : exTs ext0 (takeL 5 (pcs Tryd.prog Tryd.f67)) (st0 Tryd.f67 [listV enc2 2 L]) (endF [] (msk 95 [0, 4, 5]) (resOf Tryd.prog Tryd.f67)) = bT (decide (8 < (↑L.length : Int))) (Tr.done X.ret (St.mk [V.t [V1.c (C.p (PV.z (Value.slice none 0 0))), V1.c (C.p (PV.i IntKind.i64 4))]] []))
    (Tr.done X.normal
      (cst 95 [(0, V.c (C.p (PV.l 2 L.length (rowP enc2 L)))), (4, V.c (C.p (PV.z (Value.slice none 0 0)))), (5, V.c (C.p (PV.i IntKind.i64 0)))] [])) := by kernel_rfl
theorem tNew2 (L out : List (ByteArray × ByteArray)) (i : Int) : exTs ext0 (takeL 2 (lpB (pcs Tryd.prog Tryd.f67) 5)) (cst 95 [(0, listV enc2 2 L), (4, .c (.sl 0 2 0 out.length)), (5, iV i)] [.row 35 2 out.length (rowC enc2 out)]) (endF [0] (msk 95 [0, 4, 5]) (resOf Tryd.prog Tryd.f67)) = bT (decide (i < (↑L.length : Int)))
    (Tr.done X.normal
      (cst 95 [(0, V.c (C.p (PV.l 2 L.length (rowP enc2 L)))), (4, V.c (C.sl 0 2 0 out.length)), (5, V.c (C.p (PV.i IntKind.i64 i)))] [AO.row 35 2 out.length fun e o => renC [0] (rowC enc2 out e o)]))
    (Tr.done (X.exit 0)
      (cst 95 [(0, V.c (C.p (PV.l 2 L.length (rowP enc2 L)))), (4, V.c (C.sl 0 2 0 out.length)), (5, V.c (C.p (PV.i IntKind.i64 i)))] [AO.row 35 2 out.length fun e o => renC [0] (rowC enc2 out e o)])) := by kernel_rfl
theorem tNew3 (L out : List (ByteArray × ByteArray)) (i : Int) : exTs extN (takeL 6 (flat (inr (nth .skip (lpB (pcs Tryd.prog Tryd.f67) 5) 2)))) (cst 95 [(0, listV enc2 2 L), (4, .c (.sl 0 2 0 out.length)), (5, iV i)] [.row 35 2 out.length (rowC enc2 out)]) (endF [0] (msk 95 [0, 4, 5, 6, 7]) (resOf Tryd.prog Tryd.f67)) = Tr.rq (0 ≤ i ∧ i < (↑L.length : Int))
    (Tr.rq True
      (bT (!nameB (L.getD i.toNat default).fst) (Tr.done X.ret (St.mk [V.t [V1.c (C.p (PV.z (Value.slice none 0 0))), V1.c (C.p (PV.i IntKind.i64 8))]] []))
        (Tr.rq (0 ≤ i ∧ i < (↑L.length : Int))
          (bT ((L.getD i.toNat default).snd.toList == (ByteArray.mk #[]).toList) (Tr.done X.ret (St.mk [V.t [V1.c (C.p (PV.z (Value.slice none 0 0))), V1.c (C.p (PV.i IntKind.i64 1))]] []))
            (Tr.rq (0 ≤ i ∧ i < (↑L.length : Int))
              (Tr.rq True
                (bT (!valueB (L.getD i.toNat default).snd) (Tr.done X.ret (St.mk [V.t [V1.c (C.p (PV.z (Value.slice none 0 0))), V1.c (C.p (PV.i IntKind.i64 1))]] []))
                  (Tr.done X.normal
                    (cst 95 [(0, V.c (C.p (PV.l 2 L.length (rowP enc2 L)))), (4, V.c (C.sl 0 2 0 out.length)), (5, V.c (C.p (PV.i IntKind.i64 i))), (6, V.c (C.p (PV.z (Value.slice none 0 0)))), (7, V.c (C.p (PV.i IntKind.i64 0)))] [AO.row 35 2 out.length fun e o => renC [0] (rowC enc2 out e o)]))))))))) := by kernel_rfl
theorem tNew4 (L out nx : List (ByteArray × ByteArray)) (i : Int) (k : Nat) : exTs ext0 (takeL 2 (lpB (flat (inr (nth .skip (lpB (pcs Tryd.prog Tryd.f67) 5) 2))) 6)) (cst 95 [(0, listV enc2 2 L), (4, .c (.sl 0 2 0 out.length)), (5, iV i), (6, .c (.sl 1 2 0 k)), (7, iV (k : Nat))] [.row 35 2 out.length (rowC enc2 out), .row 35 2 k (rowC enc2 nx)]) (endF [0, 1] (msk 95 [0, 4, 5, 6, 7]) (resOf Tryd.prog Tryd.f67)) = bT (decide ((↑k : Int) < (↑out.length : Int)))
    (Tr.rq (0 ≤ (↑k : Int) ∧ (↑k : Int) < (↑out.length : Int))
      (Tr.rq ((↑k : Int).toNat + 0 < out.length)
        (Tr.rq (0 ≤ i ∧ i < (↑L.length : Int))
          (bT (Op.bytesLess (out.getD ((↑k : Int).toNat + 0) default).fst.toList (L.getD i.toNat default).fst.toList)
            (Tr.done X.normal
              (cst 95 [(0, V.c (C.p (PV.l 2 L.length (rowP enc2 L)))), (4, V.c (C.sl 0 2 0 out.length)), (5, V.c (C.p (PV.i IntKind.i64 i))), (6, V.c (C.sl 1 2 0 k)), (7, V.c (C.p (PV.i IntKind.i64 (↑k : Int))))] [AO.row 35 2 out.length fun e o => renC [0, 1] (rowC enc2 out e o), AO.row 35 2 k fun e o => renC [0, 1] (rowC enc2 nx e o)]))
            (Tr.done (X.exit 2)
              (cst 95 [(0, V.c (C.p (PV.l 2 L.length (rowP enc2 L)))), (4, V.c (C.sl 0 2 0 out.length)), (5, V.c (C.p (PV.i IntKind.i64 i))), (6, V.c (C.sl 1 2 0 k)), (7, V.c (C.p (PV.i IntKind.i64 (↑k : Int))))] [AO.row 35 2 out.length fun e o => renC [0, 1] (rowC enc2 out e o), AO.row 35 2 k fun e o => renC [0, 1] (rowC enc2 nx e o)]))))))
    (Tr.done (X.exit 2)
      (cst 95 [(0, V.c (C.p (PV.l 2 L.length (rowP enc2 L)))), (4, V.c (C.sl 0 2 0 out.length)), (5, V.c (C.p (PV.i IntKind.i64 i))), (6, V.c (C.sl 1 2 0 k)), (7, V.c (C.p (PV.i IntKind.i64 (↑k : Int))))] [AO.row 35 2 out.length fun e o => renC [0, 1] (rowC enc2 out e o), AO.row 35 2 k fun e o => renC [0, 1] (rowC enc2 nx e o)])) := by kernel_rfl
theorem tNew5 (L out nx : List (ByteArray × ByteArray)) (i : Int) (k : Nat) : exTs ext0 (dropL 2 (lpB (flat (inr (nth .skip (lpB (pcs Tryd.prog Tryd.f67) 5) 2))) 6)) (cst 95 [(0, listV enc2 2 L), (4, .c (.sl 0 2 0 out.length)), (5, iV i), (6, .c (.sl 1 2 0 k)), (7, iV (k : Nat))] [.row 35 2 out.length (rowC enc2 out), .row 35 2 k (rowC enc2 nx)]) (endF [0, 3] (msk 95 [0, 4, 5, 6, 7]) (resOf Tryd.prog Tryd.f67)) = Tr.rq (0 ≤ (↑k : Int) ∧ (↑k : Int) < (↑out.length : Int))
    (Tr.rq ((↑k : Int).toNat + 0 < out.length)
      (Tr.rq (k = k)
        (Tr.rq (1 ≤ 1)
          (Tr.rq
            ((k + 1) * 32 ≤ 140737488355328 ∧
              k + 1 ≤ 140737488355328 ∧
                ∀ (e o : Nat),
                  e < 1 → o < 2 → oneC (nth C.top [C.p (PV.s (out.getD ((↑k : Int).toNat + 0) default).fst), C.p (PV.s (out.getD ((↑k : Int).toNat + 0) default).snd)] ((e + 0) * 2 + o)) = true)
            (Tr.rq (inR IntKind.i64 ((↑k : Int) + 1))
              (Tr.done X.normal
                (cst 95 [(0, V.c (C.p (PV.l 2 L.length (rowP enc2 L)))), (4, V.c (C.sl 0 2 0 out.length)), (5, V.c (C.p (PV.i IntKind.i64 i))), (6, V.c (C.sl 1 2 0 (k + 1))), (7, V.c (C.p (PV.i IntKind.i64 ((↑k : Int) + 1))))] [AO.row 35 2 out.length fun e o => renC [0, 3] (rowC enc2 out e o), AO.row 35 2 (k + 1) fun e o => renC [0, 3] (appF k (rowC enc2 nx) (fun e o => nth C.top [C.p (PV.s (out.getD ((↑k : Int).toNat + 0) default).fst), C.p (PV.s (out.getD ((↑k : Int).toNat + 0) default).snd)] ((e + 0) * 2 + o)) e o)]))))))) := by kernel_rfl
theorem tNew6 (L out nx : List (ByteArray × ByteArray)) (i : Int) (k : Nat) : exTs ext0 (dropL 7 (flat (inr (nth .skip (lpB (pcs Tryd.prog Tryd.f67) 5) 2)))) (cst 95 [(0, listV enc2 2 L), (4, .c (.sl 0 2 0 out.length)), (5, iV i), (6, .c (.sl 1 2 0 k)), (7, iV (k : Nat))] [.row 35 2 out.length (rowC enc2 out), .row 35 2 k (rowC enc2 nx)]) (endF [4] (msk 95 [0, 4, 5]) (resOf Tryd.prog Tryd.f67)) = bT (decide ((↑k : Int) < (↑out.length : Int)))
    (Tr.rq (0 ≤ (↑k : Int) ∧ (↑k : Int) < (↑out.length : Int))
      (Tr.rq ((↑k : Int).toNat + 0 < out.length)
        (Tr.rq (0 ≤ i ∧ i < (↑L.length : Int))
          (bT ((out.getD ((↑k : Int).toNat + 0) default).fst.toList == (L.getD i.toNat default).fst.toList)
            (Tr.done X.ret (St.mk [V.t [V1.c (C.p (PV.z (Value.slice none 0 0))), V1.c (C.p (PV.i IntKind.i64 10))]] []))
            (Tr.rq (0 ≤ i ∧ i < (↑L.length : Int))
              (Tr.rq (k = k)
                (Tr.rq (1 ≤ 1)
                  (Tr.rq
                    ((k + 1) * 32 ≤ 140737488355328 ∧
                      k + 1 ≤ 140737488355328 ∧
                        ∀ (e o : Nat), e < 1 → o < 2 → oneC (nth C.top [C.p (PV.s (L.getD i.toNat default).fst), C.p (PV.s (L.getD i.toNat default).snd)] ((e + 0) * 2 + o)) = true)
                    (Tr.rq (0 ≤ (↑k : Int) ∧ (↑k : Int) ≤ (↑out.length : Int) ∧ (↑out.length : Int) ≤ (↑out.length : Int))
                      (Tr.rq (k + 1 = k + 1)
                        (Tr.rq (0 + (↑k : Int).toNat + ((↑out.length : Int).toNat - (↑k : Int).toNat) ≤ out.length)
                          (Tr.rq
                            ((k + 1 + ((↑out.length : Int).toNat - (↑k : Int).toNat)) * 32 ≤ 140737488355328 ∧
                              k + 1 + ((↑out.length : Int).toNat - (↑k : Int).toNat) ≤ 140737488355328 ∧
                                ∀ (e o : Nat), e < (↑out.length : Int).toNat - (↑k : Int).toNat → o < 2 → oneC (rowC enc2 out (e + (0 + (↑k : Int).toNat)) o) = true)
                            (Tr.done X.normal
                              (cst 95 [(0, V.c (C.p (PV.l 2 L.length (rowP enc2 L)))), (4, V.c (C.sl 0 2 0 (k + 1 + ((↑out.length : Int).toNat - (↑k : Int).toNat)))), (5, V.c (C.p (PV.i IntKind.i64 i)))] [AO.row 35 2 (k + 1 + ((↑out.length : Int).toNat - (↑k : Int).toNat)) fun e o => renC [4] (appF (k + 1) (appF k (rowC enc2 nx) fun e o => nth C.top [C.p (PV.s (L.getD i.toNat default).fst), C.p (PV.s (L.getD i.toNat default).snd)] ((e + 0) * 2 + o)) (fun e o => rowC enc2 out (e + (0 + (↑k : Int).toNat)) o) e o)]))))))))))))))
    (Tr.rq (0 ≤ i ∧ i < (↑L.length : Int))
      (Tr.rq (k = k)
        (Tr.rq (1 ≤ 1)
          (Tr.rq
            ((k + 1) * 32 ≤ 140737488355328 ∧
              k + 1 ≤ 140737488355328 ∧ ∀ (e o : Nat), e < 1 → o < 2 → oneC (nth C.top [C.p (PV.s (L.getD i.toNat default).fst), C.p (PV.s (L.getD i.toNat default).snd)] ((e + 0) * 2 + o)) = true)
            (Tr.rq (0 ≤ (↑k : Int) ∧ (↑k : Int) ≤ (↑out.length : Int) ∧ (↑out.length : Int) ≤ (↑out.length : Int))
              (Tr.rq (k + 1 = k + 1)
                (Tr.rq (0 + (↑k : Int).toNat + ((↑out.length : Int).toNat - (↑k : Int).toNat) ≤ out.length)
                  (Tr.rq
                    ((k + 1 + ((↑out.length : Int).toNat - (↑k : Int).toNat)) * 32 ≤ 140737488355328 ∧
                      k + 1 + ((↑out.length : Int).toNat - (↑k : Int).toNat) ≤ 140737488355328 ∧
                        ∀ (e o : Nat), e < (↑out.length : Int).toNat - (↑k : Int).toNat → o < 2 → oneC (rowC enc2 out (e + (0 + (↑k : Int).toNat)) o) = true)
                    (Tr.done X.normal
                      (cst 95 [(0, V.c (C.p (PV.l 2 L.length (rowP enc2 L)))), (4, V.c (C.sl 0 2 0 (k + 1 + ((↑out.length : Int).toNat - (↑k : Int).toNat)))), (5, V.c (C.p (PV.i IntKind.i64 i)))] [AO.row 35 2 (k + 1 + ((↑out.length : Int).toNat - (↑k : Int).toNat)) fun e o => renC [4] (appF (k + 1) (appF k (rowC enc2 nx) fun e o => nth C.top [C.p (PV.s (L.getD i.toNat default).fst), C.p (PV.s (L.getD i.toNat default).snd)] ((e + 0) * 2 + o)) (fun e o => rowC enc2 out (e + (0 + (↑k : Int).toNat)) o) e o)])))))))))) := by kernel_rfl
theorem tNew7 (L out : List (ByteArray × ByteArray)) (i : Int) : exTs ext0 (dropL 3 (lpB (pcs Tryd.prog Tryd.f67) 5)) (cst 95 [(0, listV enc2 2 L), (4, .c (.sl 0 2 0 out.length)), (5, iV i)] [.row 35 2 out.length (rowC enc2 out)]) (endF [0] (msk 95 [0, 4, 5]) (resOf Tryd.prog Tryd.f67)) = Tr.rq (inR IntKind.i64 (i + 1))
    (Tr.done X.normal
      (cst 95 [(0, V.c (C.p (PV.l 2 L.length (rowP enc2 L)))), (4, V.c (C.sl 0 2 0 out.length)), (5, V.c (C.p (PV.i IntKind.i64 (i + 1))))] [AO.row 35 2 out.length fun e o => renC [0] (rowC enc2 out e o)])) := by kernel_rfl
theorem tNew8 (L out : List (ByteArray × ByteArray)) (i : Int) : exTs ext0 (dropL 6 (pcs Tryd.prog Tryd.f67)) (cst 95 [(0, listV enc2 2 L), (4, .c (.sl 0 2 0 out.length)), (5, iV i)] [.row 35 2 out.length (rowC enc2 out)]) (endF [] [] (resOf Tryd.prog Tryd.f67)) = Tr.rq (0 + out.length ≤ out.length ∧ ∀ (e o : Nat), e < out.length → o < 2 → isP (rowC enc2 out (e + 0) o) = true)
    (Tr.done X.ret (St.mk [V.t [V1.c (C.p (PV.l 2 out.length fun e o => unP (rowC enc2 out (e + 0) o))), V1.c (C.p (PV.i IntKind.i64 0))]] [])) := by kernel_rfl
section
variable {G : Nat → Option Obj}
theorem extN_sound : SoundExt Tryd.prog G extN := extOf_sound (by simp; exact ⟨okName, okValue⟩)
theorem insK_le (out : List (ByteArray × ByteArray)) (x : ByteArray × ByteArray) : insK out x ≤ out.length := by
  have h := List.takeWhile_append_dropWhile (p := fun y : Lb => slt y.1 x.1) (l := out)
  have := congrArg List.length h
  rw [List.length_append] at this
  unfold insK; omega
theorem insK_lt {out : List (ByteArray × ByteArray)} {x : ByteArray × ByteArray} {k : Nat} (hk : k < insK out x) : slt (out.getD k default).1 x.1 = true := by
  have h1 := (insK_split out x).1
  have hl := insK_le out x
  have hm : out.getD k default ∈ out.takeWhile (fun y => slt y.1 x.1) := by
    rw [← h1, List.getD_eq_getElem?_getD, List.getElem?_eq_getElem (by omega)]
    exact List.mem_take_iff_getElem.2 ⟨k, by omega, rfl⟩
  exact List.all_eq_true.1 (List.all_takeWhile (p := fun y : Lb => slt y.1 x.1) (l := out)) _ hm
theorem insK_at {out : List (ByteArray × ByteArray)} {x : ByteArray × ByteArray} (hk : insK out x < out.length) : slt (out.getD (insK out x) default).1 x.1 = false := by
  have h5 := (insK_split out x).2
  rw [List.drop_eq_getElem_cons hk] at h5
  have := List.head?_dropWhile_not (fun y : Lb => slt y.1 x.1) out
  rw [← h5] at this
  rw [List.getD_eq_getElem?_getD, List.getElem?_eq_getElem hk]
  exact this
theorem empty_iff (s : ByteArray) : (s.toList == (ByteArray.mk #[]).toList) = s.toList.isEmpty := by
  have : (ByteArray.mk #[]).toList = [] := by rw [ByteArray.toList_eq]
  rw [this]
  cases h : s.toList <;> rfl
/-- One step of ref05.New's outer loop. -/
theorem newL_step {L out : List (ByteArray × ByteArray)} {i : Nat} (hi : i < L.length) : newL (L.drop i) out =
    if nameB (L.getD i default).1 = false then ([], 8)
    else if (L.getD i default).2.toList.isEmpty = true ∨ valueB (L.getD i default).2 = false then ([], 1)
    else if (out[insK out (L.getD i default)]?).any (fun y => decide (y.1 = (L.getD i default).1)) = true then ([], 10)
    else newL (L.drop (i + 1)) (out.take (insK out (L.getD i default)) ++ L.getD i default :: out.drop (insK out (L.getD i default))) := by
  have e : L.getD i default = L[i] := by simp [hi]
  rw [List.drop_eq_getElem_cons hi, e]
  rfl
set_option maxRecDepth 100000 in
theorem okNew : ModOK Tryd.prog G 67 mNew := by
  intro args p v hm hp h
  unfold mNew at hm
  split at hm; rotate_left; · cases hm
  rename_i n f
  obtain ⟨rfl, rfl⟩ := some_pair hm
  have hL : IsL enc2 2 (decL dec2 n f) n f := hp
  clear hp hm
  generalize decL dec2 n f = L at hL
  refine FnS.args (args' := [listV enc2 2 L]) ?_ (.cons hL.le .nil)
  clear hL
  generalize hv : V.t [V1.c (C.p (listP enc2 2 (newLs L).1)), V1.c (C.p (PV.i .i64 (newLs L).2))] = v
  have err : ∀ e : Int, newLs L = ([], e) → VLe (V.t [V1.c (C.p (PV.z (Value.slice none 0 0))), V1.c (C.p (PV.i .i64 e))]) v := by
    intro e he
    rw [← hv, he]
    exact VLe.t (.cons (VLe.p (PLe.nil 2 _)) (.cons (VLe.refl _) .nil))
  refine fn_S Tryd.func67 (by kernel_rfl) rfl ?_ h
  refine ExS.ev ext0_sound 5 [] (msk 95 [0, 4, 5]) rfl (tNew1 L) ?_
  simp only [holds_bT, holds_done, kf_ret', kf_normal, decide_eq_true_eq, decide_eq_false_iff_not]
  refine ⟨fun h1 => err 4 (by unfold newLs; rw [if_pos (by omega)]), fun h8 => ?_⟩
  have hnew : newLs L = newL L [] := by unfold newLs; rw [if_neg (by omega)]
  rw [hnew] at err hv
  refine ExS.loop' (l := dropL 5 (pcs Tryd.prog Tryd.f67)) (b := inr (inr (nth .skip (pcs Tryd.prog Tryd.f67) 5))) (r := dropL 6 (pcs Tryd.prog Tryd.f67)) (id := 0) (by kernel_rfl) (σ := Int × List (ByteArray × ByteArray))
    (fun (i, out) => cst 95 [(0, listV enc2 2 L), (4, .c (.sl 0 2 0 out.length)), (5, iV i)] [.row 35 2 out.length (rowC enc2 out)]) (fun (i, out) => 0 ≤ i ∧ i ≤ L.length ∧ out.length ≤ i.toNat ∧ newL (L.drop i.toNat) out = newL L []) (fun (i, _) => (L.length - i).toNat) (0, []) ⟨by omega, by omega, by simp, rfl⟩
    ((weak_nil 35 2 (rowC enc2 []) 4 (by kernel_rfl)).trans (weak_of_eq (by kernel_rfl))) ?_
  rintro ⟨i, out⟩ ⟨i0, i1, hlen, hinv⟩ Q1 q1n q1e -
  refine ExS.ev ext0_sound 2 [0] (msk 95 [0, 4, 5]) rfl (tNew2 L out i) ?_
  simp only [holds_bT, holds_leaf, kf_exit, kf_normal, decide_eq_true_eq, decide_eq_false_iff_not]
  refine ⟨fun hlt => ⟨?_⟩, fun hge => ⟨?_⟩⟩
  · refine ExS.blk' (l := dropL 2 (lpB (pcs Tryd.prog Tryd.f67) 5)) (id := 1) (a := inr (nth .skip (lpB (pcs Tryd.prog Tryd.f67) 5) 2)) (r := dropL 3 (lpB (pcs Tryd.prog Tryd.f67) 5)) (by kernel_rfl) ?_
    intro Q2 q2n _ _
    refine ExS.ev extN_sound 6 [0] (msk 95 [0, 4, 5, 6, 7]) rfl (tNew3 L out i) ?_
    have hstep := newL_step (L := L) (out := out) (i := i.toNat) (by omega)
    rw [hinv] at hstep
    rw [empty_iff]
    generalize hx : L.getD i.toNat default = x at hstep
    simp only [holds_bT, holds_rq, holds_leaf, kf_ret', kf_normal, Bool.not_eq_true', Bool.not_eq_false']
    refine ⟨⟨i0, hlt⟩, trivial, fun c1 => ⟨err 8 (by rw [hstep, if_pos c1])⟩, fun c1 => ⟨⟨i0, hlt⟩, fun c2 => ⟨err 1 (by rw [hstep, if_neg (by simp [c1]), if_pos (.inl c2)])⟩, fun c2 => ⟨⟨i0, hlt⟩, trivial, fun c3 => ⟨err 1 (by rw [hstep, if_neg (by simp [c1]), if_pos (.inr c3)])⟩, fun c3 => ⟨?_⟩⟩⟩⟩
    rw [if_neg (by simp [c1]), if_neg (by simp [c2, c3])] at hstep
    have hins := insK_le out x
    refine ExS.loop' (l := dropL 6 (flat (inr (nth .skip (lpB (pcs Tryd.prog Tryd.f67) 5) 2)))) (b := inr (inr (nth .skip (flat (inr (nth .skip (lpB (pcs Tryd.prog Tryd.f67) 5) 2))) 6))) (r := dropL 7 (flat (inr (nth .skip (lpB (pcs Tryd.prog Tryd.f67) 5) 2)))) (id := 2) (by kernel_rfl) (σ := Nat)
      (fun k => (fun nx => cst 95 [(0, listV enc2 2 L), (4, .c (.sl 0 2 0 out.length)), (5, iV i), (6, .c (.sl 1 2 0 k)), (7, iV (k : Nat))] [.row 35 2 out.length (rowC enc2 out), .row 35 2 k (rowC enc2 nx)]) (out.take k)) (fun k => k ≤ insK out x) (fun k => insK out x - k) 0 (Nat.zero_le _)
      ((weak_nil 35 2 (rowC enc2 []) 6 (by kernel_rfl)).trans (weak_of_eq (by kernel_rfl))) ?_
    intro k hk Q3 q3n q3e _
    have hnx : (out.take k).length = k := by rw [List.length_take]; omega
    refine ExS.ev ext0_sound 2 [0, 1] (msk 95 [0, 4, 5, 6, 7]) rfl (tNew4 L out (out.take k) i k) ?_
    rw [hx]
    have post : k = insK out x → ExS Tryd.prog G (resOf Tryd.prog Tryd.f67) v (dropL 7 (flat (inr (nth .skip (lpB (pcs Tryd.prog Tryd.f67) 5) 2)))) ((fun nx => cst 95 [(0, listV enc2 2 L), (4, .c (.sl 0 2 0 out.length)), (5, iV i), (6, .c (.sl 1 2 0 k)), (7, iV (k : Nat))] [.row 35 2 out.length (rowC enc2 out), .row 35 2 k (rowC enc2 nx)]) (out.take k)) Q2 := by
      intro hk2
      have hfin : (out[k]?).any (fun y => decide (y.1 = x.1)) = decide (k < out.length ∧ (out.getD k default).1 = x.1) := by
        by_cases hkl : k < out.length
        · simp [hkl]
        · rw [List.getElem?_eq_none (by omega)]; simp [hkl]
      rw [← hk2, hfin] at hstep
      refine ExS.evA ext0_sound [4] (msk 95 [0, 4, 5]) rfl (tNew6 L out (out.take k) i k) ?_
      rw [hx]
      have fin : ¬ (k < out.length ∧ (out.getD k default).1 = x.1) → Q2 .normal (cst 95 [(0, V.c (C.p (PV.l 2 L.length (rowP enc2 L)))), (4, V.c (C.sl 0 2 0 (k + 1 + ((↑out.length : Int).toNat - (↑k : Int).toNat)))), (5, V.c (C.p (PV.i IntKind.i64 i)))] [AO.row 35 2 (k + 1 + ((↑out.length : Int).toNat - (↑k : Int).toNat)) fun e o => renC [4] (appF (k + 1) (appF k (rowC enc2 (out.take k)) fun e o => nth C.top [C.p (PV.s x.fst), C.p (PV.s x.snd)] ((e + 0) * 2 + o)) (fun e o => rowC enc2 out (e + (0 + (↑k : Int).toNat)) o) e o)]) := by
        intro hno
        rw [if_neg (by simpa using hno)] at hstep
        have hl2 : k + 1 + ((↑out.length : Int).toNat - (↑k : Int).toNat) = (out.take k ++ x :: out.drop k).length := by
          rw [List.length_append, List.length_cons, List.length_drop, hnx]; omega
        rw [hl2]
        refine q2n _ (ExS.pre (st2 := (fun (i, out) => cst 95 [(0, listV enc2 2 L), (4, .c (.sl 0 2 0 out.length)), (5, iV i)] [.row 35 2 out.length (rowC enc2 out)]) (i, out.take k ++ x :: out.drop k)) ?_ ?_)
        · refine weak_cst ?_
          refine ⟨⟨rfl, rfl, rfl, fun e o he ho => ?_⟩, trivial⟩
          rw [← hl2] at he
          simp only [appF]
          by_cases h1 : e < k
          · rw [if_pos (by omega), if_pos h1]
            show rowC enc2 (out.take k) e o = rowC enc2 _ e o
            unfold rowC rowP
            simp [List.getElem?_append_left (show e < (out.take k).length by omega)]
          · by_cases h2 : e = k
            · subst h2
              rw [if_pos (by omega), if_neg (by omega)]
              have e1 : (out.take e ++ x :: out.drop e).getD e default = x := by
                rw [List.getD_eq_getElem?_getD, List.getElem?_append_right (by omega), hnx]; simp
              show _ = C.p (enc2 ((out.take e ++ x :: out.drop e).getD e default) o)
              rw [e1, Nat.sub_self]
              have ho' : o = 0 ∨ o = 1 := by omega
              rcases ho' with rfl | rfl <;> rfl
            · rw [if_neg (by omega)]
              have e1 : (out.take k ++ x :: out.drop k).getD e default = out.getD (e - 1) default := by
                rw [List.getD_eq_getElem?_getD, List.getD_eq_getElem?_getD, List.getElem?_append_right (by omega), hnx, show e - k = (e - k - 1) + 1 by omega, List.getElem?_cons_succ, List.getElem?_drop, show k + (e - k - 1) = e - 1 by omega]
              show _ = C.p (enc2 ((out.take k ++ x :: out.drop k).getD e default) o)
              rw [e1, show e - (k + 1) + (0 + (↑k : Int).toNat) = e - 1 by omega]
              rfl
        · refine ExS.evA ext0_sound [0] (msk 95 [0, 4, 5]) rfl (tNew7 L (out.take k ++ x :: out.drop k) i) ?_
          simp only [holds_rq, holds_leaf, kf_normal, inR]
          refine ⟨by omega, ⟨q1n (i + 1, out.take k ++ x :: out.drop k) _ ⟨by omega, by omega, by rw [← hl2]; omega, ?_⟩ (by simp only; omega) (weak_of_eq (by kernel_rfl))⟩⟩
          rw [show (i + 1).toNat = i.toNat + 1 by omega]
          exact hstep.symm
      have one : ∀ e o : Nat, e < 1 → o < 2 → oneC (nth C.top [C.p (PV.s x.fst), C.p (PV.s x.snd)] ((e + 0) * 2 + o)) = true := by
        intro e o he ho
        obtain rfl : e = 0 := by omega
        have ho' : o = 0 ∨ o = 1 := by omega
        rcases ho' with rfl | rfl <;> rfl
      have one' : ∀ e o : Nat, e < (↑out.length : Int).toNat - (↑k : Int).toNat → o < 2 → oneC (rowC enc2 out (e + (0 + (↑k : Int).toNat)) o) = true := by
        intro e o he ho
        have ho' : o = 0 ∨ o = 1 := by omega
        rcases ho' with rfl | rfl <;> rfl
      have dup : k < out.length → (out.getD k default).1 = x.1 → VLe (V.t [V1.c (C.p (PV.z (Value.slice none 0 0))), V1.c (C.p (PV.i .i64 10))]) v := fun h1 h2 => err 10 (by rw [hstep, if_pos (by simpa using ⟨h1, h2⟩)])
      have hlast : (↑i : Int) < L.length := hlt
      simp only [holds_bT, holds_rq, holds_leaf, kf_ret', kf_normal, decide_eq_true_eq, decide_eq_false_iff_not, beq_bytes', show (↑k : Int).toNat + 0 = k from rfl]
      refine ⟨fun h1 => ⟨⟨by omega, h1⟩, by omega, ⟨i0, hlt⟩, fun h2 => ⟨dup (by omega) h2⟩, fun h2 => ⟨⟨i0, hlt⟩, trivial, Nat.le_refl _, ⟨by omega, by omega, one⟩, ⟨by omega, by omega, by omega⟩, trivial, by omega, ⟨by omega, by omega, one'⟩, ⟨fin (fun h => h2 h.2)⟩⟩⟩,
        fun h1 => ⟨⟨i0, hlt⟩, trivial, Nat.le_refl _, ⟨by omega, by omega, one⟩, ⟨by omega, by omega, by omega⟩, trivial, by omega, ⟨by omega, by omega, one'⟩, ⟨fin (fun h => h1 (by omega))⟩⟩⟩
    simp only [holds_bT, holds_rq, holds_leaf, kf_exit, kf_normal, decide_eq_true_eq, decide_eq_false_iff_not, show (↑k : Int).toNat + 0 = k from rfl]
    refine ⟨fun h1 => ⟨⟨by omega, h1⟩, by omega, ⟨i0, hlt⟩, fun h2 => ⟨?_⟩, fun h2 => ⟨q3e _ (post ?_)⟩⟩, fun h1 => ⟨q3e _ (post (by omega))⟩⟩
    · refine ExS.evA ext0_sound [0, 3] (msk 95 [0, 4, 5, 6, 7]) rfl (tNew5 L out (out.take k) i k) ?_
      have hk2 : k < insK out x := by
        rcases Nat.lt_or_ge k (insK out x) with h | h
        · exact h
        · have e1 : k = insK out x := by omega
          have := insK_at (out := out) (x := x) (by omega)
          rw [← e1] at this
          unfold slt at this
          rw [h2] at this
          cases this
      have ht : out.take (k + 1) = out.take k ++ [out.getD k default] := by
        rw [List.take_add_one, List.getD_eq_getElem?_getD, List.getElem?_eq_getElem (show k < out.length by omega)]
        rfl
      simp only [holds_rq, holds_leaf, kf_normal, inR, show (↑k : Int).toNat + 0 = k from rfl]
      refine ⟨⟨by omega, h1⟩, by omega, trivial, Nat.le_refl _, ⟨by omega, by omega, fun e o he ho => ?_⟩, by omega, ⟨q3n (k + 1) _ (by omega) (by omega) ?_⟩⟩
      · obtain rfl : e = 0 := by omega
        have ho' : o = 0 ∨ o = 1 := by omega
        rcases ho' with rfl | rfl <;> rfl
      · show WeakS G _ ((fun nx => (fun k => cst 95 [(0, listV enc2 2 L), (4, .c (.sl 0 2 0 out.length)), (5, iV i), (6, .c (.sl 1 2 0 k)), (7, iV (k : Nat))] [.row 35 2 out.length (rowC enc2 out), .row 35 2 k (rowC enc2 nx)]) (k + 1)) (out.take (k + 1)))
        rw [ht]
        refine weak_cst ?_
        refine ⟨⟨rfl, rfl, rfl, fun e o he ho => rfl⟩, ⟨rfl, rfl, rfl, fun e o he ho => app1' hnx ?_ he ho⟩, trivial⟩
        intro o ho
        have ho' : o = 0 ∨ o = 1 := by omega
        rcases ho' with rfl | rfl <;> rfl
    · rcases Nat.lt_or_ge k (insK out x) with h | h
      · have := insK_lt h
        unfold slt at this
        rw [h2] at this
        cases this
      · omega
  · refine q1e _ (ExS.evA ext0_sound [] [] rfl (tNew8 L out i) ?_)
    simp only [holds_rq, holds_leaf, kf_ret']
    refine ⟨⟨by omega, fun _ _ _ _ => rfl⟩, ⟨?_⟩⟩
    rw [List.drop_of_length_le (by omega)] at hinv
    rw [← hv, ← hinv]
    exact VLe.refl _
theorem newLs_small {L : List (ByteArray × ByteArray)} (h : (newLs L).2 = 0) : L.length ≤ 8 := by
  unfold newLs at h
  split at h
  · cases h
  · omega
end
def mLValid : Mod
  | [.c (.p (.l 2 n f))] => some (IsL enc2 2 (decL dec2 n f) n f, bV (validL (fun k => (decL dec2 n f).getD k default) n))
  | _ => none
def extV : Ext := extOf [(67, mNew), (53, mLSame)]

theorem tLValid (L : List (ByteArray × ByteArray)) : exTs extV (pcs Tryd.prog Tryd.f47) (st0 Tryd.f47 [listV enc2 2 L]) (endF [] [] (resOf Tryd.prog Tryd.f47)) = Tr.rq (IsL enc2 2 (decL dec2 L.length (rowP enc2 L)) L.length (rowP enc2 L))
    (bT ((newLs (decL dec2 L.length (rowP enc2 L))).snd == 0)
      (Tr.rq
        ((IsL enc2 2 (decL dec2 (newLs (decL dec2 L.length (rowP enc2 L))).fst.length (rowP enc2 (newLs (decL dec2 L.length (rowP enc2 L))).fst)) (newLs (decL dec2 L.length (rowP enc2 L))).fst.length
              (rowP enc2 (newLs (decL dec2 L.length (rowP enc2 L))).fst) ∧
            IsL enc2 2 (decL dec2 L.length (rowP enc2 L)) L.length (rowP enc2 L)) ∧
          ((newLs (decL dec2 L.length (rowP enc2 L))).fst.length ≤ 1000000 ∨ L.length ≤ 1000000))
        (Tr.done X.ret
          (St.mk [V.c (C.p (PV.b (decide (decL dec2 (newLs (decL dec2 L.length (rowP enc2 L))).fst.length (rowP enc2 (newLs (decL dec2 L.length (rowP enc2 L))).fst) = decL dec2 L.length (rowP enc2 L)))))] [])))
      (Tr.done X.ret (St.mk [V.c (C.p (PV.b false))] []))) := by kernel_rfl
section
variable {G : Nat → Option Obj}
theorem extV_sound : SoundExt Tryd.prog G extV := extOf_sound (by simp; exact ⟨okNew, okLSame⟩)
set_option maxRecDepth 100000 in
theorem okLValid : ModOK Tryd.prog G 47 mLValid := by
  intro args p v hm hp h
  unfold mLValid at hm
  split at hm; rotate_left; · cases hm
  rename_i n f
  obtain ⟨rfl, rfl⟩ := some_pair hm
  have hL : IsL enc2 2 (decL dec2 n f) n f := hp
  clear hp hm
  generalize decL dec2 n f = L at hL
  refine FnS.args (args' := [listV enc2 2 L]) ?_ (.cons hL.le .nil)
  rw [← hL.1, ← refValid_eq]
  clear hL
  refine fn_S Tryd.func47 (by kernel_rfl) rfl ?_ h
  refine ExS.evA extV_sound [] [] rfl (tLValid L) ?_
  have h1 : (newLs L).2 = 0 → refValid L = decide ((newLs L).1 = L) := fun h => by unfold refValid; rw [decide_eq_true h]; rfl
  have h2 : (newLs L).2 ≠ 0 → refValid L = false := fun h => by unfold refValid; rw [decide_eq_false h]; rfl
  simp only [holds_bT, holds_rq, holds_leaf, kf_ret', dec2_row, beq_iff_eq, beq_eq_false_iff_ne]
  refine ⟨isL_row _ _ _, fun c => ⟨⟨⟨isL_row _ _ _, isL_row _ _ _⟩, ?_⟩, ⟨?_⟩⟩, fun c => ⟨?_⟩⟩
  · have := newLs_small c; omega
  · rw [h1 c]; exact VLe.refl _
  · rw [h2 c]; exact VLe.refl _
end
end Go.AE
