/- AE contracts: law29.shifts. -/
import Derived.Test.YtaofgmfalldcoaaS1
namespace Go.AE
set_option linter.unusedSimpArgs false
open Go.Proofs Go.Proofs.Ytaofgmfalldcoaa
set_option linter.unusedVariables false

def mShifts : Mod
  | [.c (.p (.l 3 n f))] => some (IsL enc3 3 (decL dec3 n f) n f ∧ n ≤ 1000000, listV enc3 3 (decL dec3 n f))
  | _ => none

theorem tS1 (L : List Sh) : exTs ext0 (takeL 3 (pcs Try.prog Try.f25)) (st0 Try.f25 [listV enc3 3 L]) (endG (msk 31 [0, 3, 4]) (resOf Try.prog Try.f25)) = Tr.done X.normal
    (cst 31 [(0, V.c (C.p (PV.l 3 L.length (rowP enc3 L)))), (3, V.c (C.p (PV.z (Value.slice none 0 0)))), (4, V.c (C.p (PV.i IntKind.i64 0)))] []) := by kernel_rfl
theorem tS2 (L out : List Sh) (m i : Nat) : exTs ext0 (lpB (pcs Try.prog Try.f25) 3) (cst 31 [(0, listV enc3 3 L), (3, .c (.sl 0 3 0 m)), (4, iV (i : Nat))] [.row 60 3 m (rowC enc3 out)]) (endG (msk 31 [0, 3, 4]) (resOf Try.prog Try.f25)) = bT (decide ((↑i : Int) < (↑L.length : Int)))
    (Tr.rq (0 ≤ (↑i : Int) ∧ (↑i : Int) < (↑L.length : Int))
      (Tr.rq (0 ≤ (↑i : Int) ∧ (↑i : Int) < (↑L.length : Int))
        (Tr.rq (0 ≤ (↑i : Int) ∧ (↑i : Int) < (↑L.length : Int))
          (Tr.rq (m = m)
            (Tr.rq (1 ≤ 1)
              (Tr.rq
                ((m + 1) * 32 ≤ 140737488355328 ∧
                  m + 1 ≤ 140737488355328 ∧
                    ∀ (e o : Nat),
                      e < 1 →
                        o < 3 →
                          oneC
                              (nth C.top
                                [C.p (PV.s (L.getD (↑i : Int).toNat default).fst), C.p (PV.i IntKind.i64 (L.getD (↑i : Int).toNat default).snd.fst),
                                  C.p (PV.i IntKind.i64 (L.getD (↑i : Int).toNat default).snd.snd)]
                                ((e + 0) * 3 + o)) =
                            true)
                (Tr.rq (inR IntKind.i64 ((↑i : Int) + 1))
                  (Tr.done X.normal
                    (cst 31 [(0, V.c (C.p (PV.l 3 L.length (rowP enc3 L)))), (3, V.c (C.sl 0 3 0 (m + 1))), (4, V.c (C.p (PV.i IntKind.i64 ((↑i : Int) + 1))))] [AO.row 60 3 (m + 1) fun e o => renC [2] (appF m (rowC enc3 out) (fun e o => nth C.top [C.p (PV.s (L.getD (↑i : Int).toNat default).fst), C.p (PV.i IntKind.i64 (L.getD (↑i : Int).toNat default).snd.fst), C.p (PV.i IntKind.i64 (L.getD (↑i : Int).toNat default).snd.snd)] ((e + 0) * 3 + o)) e o)])))))))))
    (Tr.done (X.exit 0)
      (cst 31 [(0, V.c (C.p (PV.l 3 L.length (rowP enc3 L)))), (3, V.c (C.sl 0 3 0 m)), (4, V.c (C.p (PV.i IntKind.i64 (↑i : Int))))] [AO.row 60 3 m fun e o => renC [0] (rowC enc3 out e o)])) := by kernel_rfl
theorem tS3 (L out : List Sh) (m i : Nat) : exTs ext0 (dropL 4 (pcs Try.prog Try.f25)) (cst 31 [(0, listV enc3 3 L), (3, .c (.sl 0 3 0 m)), (4, iV (i : Nat))] [.row 60 3 m (rowC enc3 out)]) (endG [] (resOf Try.prog Try.f25)) = Tr.rq (0 + m ≤ m ∧ ∀ (e o : Nat), e < m → o < 3 → isF (rowC enc3 out (e + 0) o) = true) (Tr.done X.ret (St.mk [V.c (C.p (PV.l 3 m fun e o => unP (rowC enc3 out (e + 0) o)))] [])) := by kernel_rfl
theorem sh_at (x : Sh) : ∀ o : Nat, o < 3 → (fun e o : Nat => nth C.top [C.p (PV.s x.1), C.p (PV.i .i64 x.2.1), C.p (PV.i .i64 x.2.2)] ((e + 0) * 3 + o)) 0 o = .p (enc3 x o) := by
  intro o ho
  have ho' : o = 0 ∨ o = 1 ∨ o = 2 := by omega
  rcases ho' with rfl | rfl | rfl <;> rfl
theorem sh_one (x : Sh) : ∀ e o : Nat, e < 1 → o < 3 → oneC (nth C.top [C.p (PV.s x.1), C.p (PV.i .i64 x.2.1), C.p (PV.i .i64 x.2.2)] ((e + 0) * 3 + o)) = true := by
  intro e o he ho
  obtain rfl : e = 0 := by omega
  have ho' : o = 0 ∨ o = 1 ∨ o = 2 := by omega
  rcases ho' with rfl | rfl | rfl <;> rfl
section
variable {G : Nat → Option Obj}
set_option maxRecDepth 100000 in
theorem okShifts : ModOK Try.prog G 25 mShifts := by
  intro args p v hm hp h
  unfold mShifts at hm
  split at hm; rotate_left; · cases hm
  rename_i n f
  obtain ⟨rfl, rfl⟩ := some_pair hm
  obtain ⟨hL, hn⟩ := hp
  have hlen : (decL dec3 n f).length ≤ 1000000 := by rw [hL.1]; exact hn
  generalize decL dec3 n f = L at hL hlen
  refine FnS.args (args' := [listV enc3 3 L]) ?_ (.cons hL.le .nil)
  clear hL
  refine fn_S Try.func25 (by kernel_rfl) rfl ?_ h
  refine ExS.evG ext0_sound 3 (tS1 L) ?_
  simp only [holds_done, kf_normal]
  refine ExS.loop' (l := dropL 3 (pcs Try.prog Try.f25)) (b := inr (inr (nth .skip (pcs Try.prog Try.f25) 3))) (r := dropL 4 (pcs Try.prog Try.f25)) (id := 0) (by kernel_rfl) (σ := Nat)
    (fun i => (fun out m => cst 31 [(0, listV enc3 3 L), (3, .c (.sl 0 3 0 m)), (4, iV (i : Nat))] [.row 60 3 m (rowC enc3 out)]) (L.take i) i) (fun i => i ≤ L.length) (fun i => L.length - i) 0 (Nat.zero_le _)
    ((weak_nil 60 3 (rowC enc3 []) 3 (by kernel_rfl)).trans (weak_of_eq (by kernel_rfl))) ?_
  intro i hi Q q1n q1e _
  have hl : (L.take i).length = i := by rw [List.length_take]; omega
  refine ExS.evH ext0_sound (tS2 L (L.take i) i i) ?_
  simp only [holds_bT, holds_rq, holds_leaf, kf_normal, kf_exit, decide_eq_true_eq, decide_eq_false_iff_not, inR, show (↑i : Int).toNat = i from rfl]
  refine ⟨fun h1 => ⟨⟨by omega, h1⟩, ⟨by omega, h1⟩, ⟨by omega, h1⟩, trivial, Nat.le_refl _, ⟨by omega, by omega, sh_one _⟩, by omega, ⟨q1n (i + 1) _ (by omega) (by omega) ?_⟩⟩, fun h1 => ⟨q1e _ ?_⟩⟩
  · have ht : L.take (i + 1) = L.take i ++ [L.getD i default] := by
      rw [List.take_add_one, List.getD_eq_getElem?_getD, List.getElem?_eq_getElem (show i < L.length by omega)]
      rfl
    show WeakS G _ ((fun out m i => cst 31 [(0, listV enc3 3 L), (3, .c (.sl 0 3 0 m)), (4, iV (i : Nat))] [.row 60 3 m (rowC enc3 out)]) (L.take (i + 1)) (i + 1) (i + 1))
    rw [ht]
    refine weak_cst ?_
    exact ⟨⟨rfl, rfl, rfl, fun e o he ho => app1' hl (sh_at _) he ho⟩, trivial⟩
  · obtain rfl : i = L.length := by omega
    refine ExS.evH ext0_sound (tS3 L (L.take L.length) L.length L.length) ?_
    simp only [holds_rq, holds_leaf, kf_ret']
    refine ⟨⟨by omega, fun _ _ _ _ => rfl⟩, ⟨?_⟩⟩
    rw [List.take_length]
    exact VLe.refl _
end
end Go.AE
