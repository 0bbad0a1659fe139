/- AE contracts: ref29.Any. -/
import Derived.Test.YtaofgmfalldcoaaS10
namespace Go.AE
open Go.Proofs Go.Proofs.Ytaofgmfalldcoaa
set_option linter.unusedVariables false
set_option linter.unusedSimpArgs false

theorem tY1 (L : List Int) : exTs extPA (takeL 3 (pcs Try.prog Try.f10)) (st0 Try.f10 [listV encI 1 L]) (endG (msk 64 [2, 3, 4]) (resOf Try.prog Try.f10)) = Tr.rq (IsL encI 1 (decL decI L.length (rowP encI L)) L.length (rowP encI L) ∧ Ints (decL decI L.length (rowP encI L)))
    (Tr.rq (inR IntKind.i64 ((↑L.length : Int) - 1))
      (Tr.rq (IsL encI 1 (decL decI L.length (rowP encI L)) L.length (rowP encI L) ∧ Ints (decL decI L.length (rowP encI L)) ∧ Int.ofNat 0 < Int.ofNat 1000)
        (Tr.done X.normal
          (cst 64 [(2, V.c (C.ptr 0 0)), (3, V.c (C.ptr 1 0)), (4, V.c (C.p (PV.i IntKind.i64 (pickZ (decL decI L.length (rowP encI L)) ((↑L.length : Int) - 1) 1000))))] [AO.cells 25 [C.p (PV.i IntKind.i64 0), C.p (PV.z (Value.slice none 0 0))], AO.cells 25 [C.p (PV.i IntKind.i64 (acN (decL decI L.length (rowP encI L)))), C.sl 2 2 0 (acG (decL decI L.length (rowP encI L))).length], AO.row 27 2 (acG (decL decI L.length (rowP encI L))).length fun e o => renC [0, 2, 1] (C.p (rowP encE (acG (decL decI L.length (rowP encI L))) e o))])))) := by kernel_rfl
theorem tY2 (N z : Int) (E : List Ed) (m : Nat) : exTs ext0 (takeL 2 (dropL 3 (pcs Try.prog Try.f10))) (cst 64 [(2, .c (.ptr 0 0)), (3, .c (.ptr 1 0)), (4, iV z)] [.cells 25 [.p (.i .i64 0), .p (.z (.slice none 0 0))], .cells 25 [.p (.i .i64 N), .sl 2 2 0 m], .row 27 2 m (rowC encE E)]) (endG (msk 64 [2, 3, 4]) (resOf Try.prog Try.f10)) = Tr.rq (0 ≤ z ∧ Int.ofNat 0 < Int.ofNat 3)
    (bT (z % 3 == 0)
      (Tr.rq (0 ≤ z ∧ Int.ofNat 0 < Int.ofNat 3 ∧ inR IntKind.i64 (z / 3))
        (Tr.rq (0 ≤ z / 3 ∧ Int.ofNat 0 < Int.ofNat 9)
          (Tr.rq (inR IntKind.i64 (z / 3 % 9 - 1))
            (Tr.rq (0 ≤ z ∧ Int.ofNat 0 < Int.ofNat 27 ∧ inR IntKind.i64 (z / 27))
              (Tr.rq (0 ≤ z / 27 ∧ Int.ofNat 0 < Int.ofNat 10)
                (Tr.rq (inR IntKind.i64 (z / 27 % 10 - 1))
                  (Tr.rq (m = m)
                    (Tr.rq (1 ≤ 1)
                      (Tr.rq
                        ((m + 1) * 16 ≤ 140737488355328 ∧
                          m + 1 ≤ 140737488355328 ∧
                            ∀ (e o : Nat), e < 1 → o < 2 → oneC (nth C.top [C.p (PV.i IntKind.i64 (z / 3 % 9 - 1)), C.p (PV.i IntKind.i64 (z / 27 % 10 - 1))] ((e + 0) * 2 + o)) = true)
                        (Tr.done X.normal
                          (cst 64 [(2, V.c (C.ptr 0 0)), (3, V.c (C.ptr 1 0)), (4, V.c (C.p (PV.i IntKind.i64 z)))] [AO.cells 25 [C.p (PV.i IntKind.i64 0), C.p (PV.z (Value.slice none 0 0))], AO.cells 25 [C.p (PV.i IntKind.i64 N), C.sl 2 2 0 (m + 1)], AO.row 27 2 (m + 1) fun e o => renC [0, 1, 4] (appF m (rowC encE E) (fun e o => nth C.top [C.p (PV.i IntKind.i64 (z / 3 % 9 - 1)), C.p (PV.i IntKind.i64 (z / 27 % 10 - 1))] ((e + 0) * 2 + o)) e o)])))))))))))
      (Tr.done X.normal
        (cst 64 [(2, V.c (C.ptr 0 0)), (3, V.c (C.ptr 1 0)), (4, V.c (C.p (PV.i IntKind.i64 z)))] [AO.cells 25 [C.p (PV.i IntKind.i64 0), C.p (PV.z (Value.slice none 0 0))], AO.cells 25 [C.p (PV.i IntKind.i64 N), C.sl 2 2 0 m], AO.row 27 2 m fun e o => renC [0, 1, 2] (rowC encE E e o)]))) := by kernel_rfl
theorem tY3 (N z : Int) (E : List Ed) (m : Nat) : exTs ext0 (takeL 1 (dropL 5 (pcs Try.prog Try.f10))) (cst 64 [(2, .c (.ptr 0 0)), (3, .c (.ptr 1 0)), (4, iV z)] [.cells 25 [.p (.i .i64 0), .p (.z (.slice none 0 0))], .cells 25 [.p (.i .i64 N), .sl 2 2 0 m], .row 27 2 m (rowC encE E)]) (endG (msk 64 [2, 3, 4, 38]) (resOf Try.prog Try.f10)) = Tr.rq (0 ≤ z ∧ Int.ofNat 0 < Int.ofNat 3)
    (bT (z % 3 == 1)
      (Tr.done X.normal
        (cst 64 [(2, V.c (C.ptr 0 0)), (3, V.c (C.ptr 1 0)), (4, V.c (C.p (PV.i IntKind.i64 z))), (38, V.c (C.p (PV.b (decide (0 < (↑m : Int))))))] [AO.cells 25 [C.p (PV.i IntKind.i64 0), C.p (PV.z (Value.slice none 0 0))], AO.cells 25 [C.p (PV.i IntKind.i64 N), C.sl 2 2 0 m], AO.row 27 2 m fun e o => renC [0, 1, 2] (rowC encE E e o)]))
      (Tr.done X.normal
        (cst 64 [(2, V.c (C.ptr 0 0)), (3, V.c (C.ptr 1 0)), (4, V.c (C.p (PV.i IntKind.i64 z))), (38, V.c (C.p (PV.b false)))] [AO.cells 25 [C.p (PV.i IntKind.i64 0), C.p (PV.z (Value.slice none 0 0))], AO.cells 25 [C.p (PV.i IntKind.i64 N), C.sl 2 2 0 m], AO.row 27 2 m fun e o => renC [0, 1, 2] (rowC encE E e o)]))) := by kernel_rfl
theorem tY4 (N z : Int) (E : List Ed) (m : Nat) (c : Bool) : exTs ext0 (takeL 1 (dropL 6 (pcs Try.prog Try.f10))) (cst 64 [(2, .c (.ptr 0 0)), (3, .c (.ptr 1 0)), (4, iV z), (38, bV c)] [.cells 25 [.p (.i .i64 0), .p (.z (.slice none 0 0))], .cells 25 [.p (.i .i64 N), .sl 2 2 0 m], .row 27 2 m (rowC encE E)]) (endG (msk 64 [2, 3]) (resOf Try.prog Try.f10)) = bT c
    (Tr.rq (0 ≤ z ∧ Int.ofNat 0 < Int.ofNat 3 ∧ inR IntKind.i64 (z / 3))
      (Tr.rq (0 ≤ z / 3 ∧ 0 < (↑m : Int))
        (Tr.rq (0 ≤ z / 3 % (↑m : Int) ∧ z / 3 % (↑m : Int) < (↑m : Int))
          (Tr.rq ((z / 3 % (↑m : Int)).toNat + 0 < m)
            (Tr.rq (0 ≤ z ∧ Int.ofNat 0 < Int.ofNat 2)
              (bT (z % 2 == 1)
                (Tr.rq (m = m)
                  (Tr.rq (1 ≤ 1)
                    (Tr.rq
                      ((m + 1) * 16 ≤ 140737488355328 ∧
                        m + 1 ≤ 140737488355328 ∧
                          ∀ (e o : Nat),
                            e < 1 →
                              o < 2 →
                                oneC
                                    (nth C.top
                                      [C.p (PV.i IntKind.i64 (E.getD ((z / 3 % (↑m : Int)).toNat + 0) default).snd), C.p (PV.i IntKind.i64 (E.getD ((z / 3 % (↑m : Int)).toNat + 0) default).fst)]
                                      ((e + 0) * 2 + o)) =
                                  true)
                      (Tr.done X.normal
                        (cst 64 [(2, V.c (C.ptr 0 0)), (3, V.c (C.ptr 1 0))] [AO.cells 25 [C.p (PV.i IntKind.i64 0), C.p (PV.z (Value.slice none 0 0))], AO.cells 25 [C.p (PV.i IntKind.i64 N), C.sl 2 2 0 (m + 1)], AO.row 27 2 (m + 1) fun e o => renC [0, 1, 5] (appF m (rowC encE E) (fun e o => nth C.top [C.p (PV.i IntKind.i64 (E.getD ((z / 3 % (↑m : Int)).toNat + 0) default).snd), C.p (PV.i IntKind.i64 (E.getD ((z / 3 % (↑m : Int)).toNat + 0) default).fst)] ((e + 0) * 2 + o)) e o)])))))
                (Tr.rq (m = m)
                  (Tr.rq (1 ≤ 1)
                    (Tr.rq
                      ((m + 1) * 16 ≤ 140737488355328 ∧
                        m + 1 ≤ 140737488355328 ∧
                          ∀ (e o : Nat),
                            e < 1 →
                              o < 2 →
                                oneC
                                    (nth C.top
                                      [C.p (PV.i IntKind.i64 (E.getD ((z / 3 % (↑m : Int)).toNat + 0) default).fst), C.p (PV.i IntKind.i64 (E.getD ((z / 3 % (↑m : Int)).toNat + 0) default).snd)]
                                      ((e + 0) * 2 + o)) =
                                  true)
                      (Tr.done X.normal
                        (cst 64 [(2, V.c (C.ptr 0 0)), (3, V.c (C.ptr 1 0))] [AO.cells 25 [C.p (PV.i IntKind.i64 0), C.p (PV.z (Value.slice none 0 0))], AO.cells 25 [C.p (PV.i IntKind.i64 N), C.sl 2 2 0 (m + 1)], AO.row 27 2 (m + 1) fun e o => renC [0, 1, 5] (appF m (rowC encE E) (fun e o => nth C.top [C.p (PV.i IntKind.i64 (E.getD ((z / 3 % (↑m : Int)).toNat + 0) default).fst), C.p (PV.i IntKind.i64 (E.getD ((z / 3 % (↑m : Int)).toNat + 0) default).snd)] ((e + 0) * 2 + o)) e o)])))))))))))
    (Tr.done X.normal
      (cst 64 [(2, V.c (C.ptr 0 0)), (3, V.c (C.ptr 1 0))] [AO.cells 25 [C.p (PV.i IntKind.i64 0), C.p (PV.z (Value.slice none 0 0))], AO.cells 25 [C.p (PV.i IntKind.i64 N), C.sl 2 2 0 m], AO.row 27 2 m fun e o => renC [0, 1, 2] (rowC encE E e o)])) := by kernel_rfl
theorem tY5 (N : Int) (E : List Ed) (m : Nat) : exTs ext0 (dropL 7 (pcs Try.prog Try.f10)) (cst 64 [(2, .c (.ptr 0 0)), (3, .c (.ptr 1 0))] [.cells 25 [.p (.i .i64 0), .p (.z (.slice none 0 0))], .cells 25 [.p (.i .i64 N), .sl 2 2 0 m], .row 27 2 m (rowC encE E)]) (endG [] (resOf Try.prog Try.f10)) = Tr.rq (0 + m ≤ m ∧ ∀ (e o : Nat), e < m → o < 2 → isF (rowC encE E (e + 0) o) = true) (Tr.done X.ret (St.mk [V.a [C.p (PV.i IntKind.i64 N), C.p (PV.l 2 m fun e o => unP (rowC encE E (e + 0) o))]] [])) := by kernel_rfl
def anyG (z : Int) (E : List Ed) : List Ed := if z % 3 = 1 ∧ 0 < E.length then E ++ [if z % 2 = 1 then ((E.getD (z / 3 % E.length).toNat default).2, (E.getD (z / 3 % E.length).toNat default).1) else E.getD (z / 3 % E.length).toNat default] else E
def anyF (z : Int) (E : List Ed) : List Ed := if z % 3 = 0 then E ++ [(z / 3 % 9 - 1, z / 27 % 10 - 1)] else if z % 3 = 1 ∧ 0 < E.length then E ++ [if z % 2 = 1 then ((E.getD (z / 3 % E.length).toNat default).2, (E.getD (z / 3 % E.length).toNat default).1) else E.getD (z / 3 % E.length).toNat default] else E
section
variable {G : Nat → Option Obj}
theorem extPA_sound : SoundExt Try.prog G extPA := extH_sound (by simp; exact ⟨okPick.lift, okAcyclicH⟩)
set_option maxRecDepth 100000 in
theorem okAny : ModOK Try.prog G 10 mAny := by
  intro args p v hm hp h
  unfold mAny at hm
  split at hm; rotate_left; · cases hm
  rename_i n f
  obtain ⟨rfl, rfl⟩ := some_pair hm
  obtain ⟨⟨hL, hI⟩, hn⟩ := hp
  have hlen : (decL decI n f).length ≤ 9223372036854775807 := by rw [hL.1]; exact hn
  generalize decL decI n f = L at hL hI hlen
  refine FnS.args (args' := [listV encI 1 L]) ?_ (.cons hL.le .nil)
  clear hL
  refine fn_S Try.func10 (by kernel_rfl) rfl ?_ h
  refine ExS.evG extPA_sound 3 (tY1 L) ?_
  simp only [holds_rq, holds_leaf, kf_normal, ofn_lt, decI_row]
  refine ⟨⟨isL_row _ _ _, hI⟩, by simp only [inR]; omega, ⟨isL_row _ _ _, hI, by decide⟩, ⟨?_⟩⟩
  have hz := pickZ_range L ((L.length : Int) - 1) (m := 1000) (by omega)
  have hac := acG_length L
  have hany : anyE L = anyF (pickZ L ((L.length : Int) - 1) 1000) (acG L) := rfl
  generalize pickZ L ((L.length : Int) - 1) 1000 = z at hz hany
  refine ExS.pre (st2 := (fun N m E => cst 64 [(2, .c (.ptr 0 0)), (3, .c (.ptr 1 0)), (4, iV z)] [.cells 25 [.p (.i .i64 0), .p (.z (.slice none 0 0))], .cells 25 [.p (.i .i64 N), .sl 2 2 0 m], .row 27 2 m (rowC encE E)]) (acN L) (acG L).length (acG L)) (weak_of_eq (by kernel_rfl)) ?_
  have fin : ∀ E : List Ed, E = anyE L → ∀ st, WeakS G st (cst 64 [(2, .c (.ptr 0 0)), (3, .c (.ptr 1 0))] ((fun N m E => [.cells 25 [.p (.i .i64 0), .p (.z (.slice none 0 0))], .cells 25 [.p (.i .i64 N), .sl 2 2 0 m], .row 27 2 m (rowC encE E)]) (acN L) E.length E)) → ExS Try.prog G (resOf Try.prog Try.f10) (gZ (acN L) (anyE L)) (dropL 7 (pcs Try.prog Try.f10)) st fun _ _ => False := fun E hE st hst => by
    refine ExS.pre hst (ExS.evH ext0_sound (tY5 (acN L) E E.length) ?_)
    simp only [holds_rq, holds_leaf, kf_ret']
    refine ⟨⟨by omega, fun _ _ _ _ => rfl⟩, ⟨?_⟩⟩
    rw [← hE]
    exact VLe.refl _
  have sec : ∀ E : List Ed, E.length ≤ 13 → anyG z E = anyE L → ∀ st, WeakS G st ((fun N m E => cst 64 [(2, .c (.ptr 0 0)), (3, .c (.ptr 1 0)), (4, iV z)] [.cells 25 [.p (.i .i64 0), .p (.z (.slice none 0 0))], .cells 25 [.p (.i .i64 N), .sl 2 2 0 m], .row 27 2 m (rowC encE E)]) (acN L) E.length E) → ExS Try.prog G (resOf Try.prog Try.f10) (gZ (acN L) (anyE L)) (dropL 5 (pcs Try.prog Try.f10)) st fun _ _ => False := fun E hEl hE st hst => by
    refine ExS.pre hst (ExS.evG ext0_sound 1 (tY3 (acN L) z E E.length) ?_)
    simp only [holds_bT, holds_rq, holds_leaf, kf_normal, ofn_lt, beq_iff_eq, beq_eq_false_iff_ne]
    have six : ∀ c : Bool, (c = true ↔ z % 3 = 1 ∧ 0 < E.length) → ExS Try.prog G (resOf Try.prog Try.f10) (gZ (acN L) (anyE L)) (dropL 6 (pcs Try.prog Try.f10)) ((fun N m E => cst 64 [(2, .c (.ptr 0 0)), (3, .c (.ptr 1 0)), (4, iV z), (38, bV c)] [.cells 25 [.p (.i .i64 0), .p (.z (.slice none 0 0))], .cells 25 [.p (.i .i64 N), .sl 2 2 0 m], .row 27 2 m (rowC encE E)]) (acN L) E.length E) fun _ _ => False := fun c hc => by
      refine ExS.evG ext0_sound 1 (tY4 (acN L) z E E.length c) ?_
      simp only [holds_bT, holds_rq, holds_leaf, kf_normal, ofn_lt, beq_iff_eq, beq_eq_false_iff_ne, show ∀ x : Nat, x + 0 = x from fun _ => rfl]
      refine ⟨fun h1 => ?_, fun h1 => ⟨fin E ?_ _ (weak_of_eq (by kernel_rfl))⟩⟩
      · obtain ⟨h2, h3⟩ := hc.1 h1
        have hm : 0 ≤ z / 3 % (E.length : Int) ∧ z / 3 % (E.length : Int) < E.length := ⟨Int.emod_nonneg _ (by omega), Int.emod_lt_of_pos _ (by omega)⟩
        unfold anyG at hE
        rw [if_pos ⟨h2, h3⟩] at hE
        have hjl : (z / 3 % (E.length : Int)).toNat < E.length := by omega
        generalize (z / 3 % (E.length : Int)).toNat = j at hE hjl
        refine ⟨⟨hz.1, by decide, by simp only [inR]; omega⟩, by omega, hm, hjl, ⟨hz.1, by decide⟩, fun c2 => ⟨trivial, Nat.le_refl _, ⟨by omega, by omega, edge_one _ _⟩, ⟨?_⟩⟩, fun c2 => ⟨trivial, Nat.le_refl _, ⟨by omega, by omega, edge_one _ _⟩, ⟨?_⟩⟩⟩
        · rw [if_pos c2] at hE
          refine fin _ hE _ ?_
          rw [show (E ++ [((E.getD j default).2, (E.getD j default).1)]).length = E.length + 1 by simp]
          refine weak_cst ?_
          exact ⟨rfl, rfl, ⟨rfl, rfl, rfl, fun e o he ho => app1' (ρ := [0, 1, 5]) rfl (edge_at _ _) he ho⟩, trivial⟩
        · rw [if_neg c2] at hE
          refine fin _ hE _ ?_
          rw [show (E ++ [E.getD j default]).length = E.length + 1 by simp]
          refine weak_cst ?_
          exact ⟨rfl, rfl, ⟨rfl, rfl, rfl, fun e o he ho => app1' (ρ := [0, 1, 5]) rfl (edge_at _ _) he ho⟩, trivial⟩
      · unfold anyG at hE
        rw [if_neg (fun h => by rw [hc.2 h] at h1; cases h1)] at hE
        exact hE
    refine ⟨⟨hz.1, by decide⟩, fun c1 => ⟨six _ ?_⟩, fun c1 => ⟨six false ?_⟩⟩
    · rw [decide_eq_true_iff]
      exact ⟨fun h => ⟨c1, by omega⟩, fun h => by omega⟩
    · exact ⟨(fun h => by cases h), fun h => absurd h.1 c1⟩
  refine ExS.evG ext0_sound 2 (tY2 (acN L) z (acG L) (acG L).length) ?_
  simp only [holds_bT, holds_rq, holds_leaf, kf_normal, ofn_lt, beq_iff_eq, beq_eq_false_iff_ne, inR]
  refine ⟨⟨hz.1, by decide⟩, fun c1 => ⟨⟨hz.1, by decide, by omega⟩, ⟨by omega, by decide⟩, by omega, ⟨hz.1, by decide, by omega⟩, ⟨by omega, by decide⟩, by omega, trivial, Nat.le_refl _, ⟨by omega, by omega, edge_one _ _⟩, ⟨?_⟩⟩, fun c1 => ⟨?_⟩⟩
  · refine sec (acG L ++ [(z / 3 % 9 - 1, z / 27 % 10 - 1)]) (by simp; omega) ?_ _ ?_
    · rw [hany]
      unfold anyG anyF
      rw [if_neg (by omega), if_pos c1]
    · rw [show (acG L ++ [(z / 3 % 9 - 1, z / 27 % 10 - 1)]).length = (acG L).length + 1 by simp]
      refine weak_cst ?_
      exact ⟨rfl, rfl, ⟨rfl, rfl, rfl, fun e o he ho => app1' (ρ := [0, 1, 4]) rfl (edge_at _ _) he ho⟩, trivial⟩
  · refine sec (acG L) (by omega) ?_ _ (weak_of_eq (by kernel_rfl))
    rw [hany]
    unfold anyG anyF
    rw [if_neg c1]
end
end Go.AE
