/- AE: the law RouteMonotone. -/
import Derived.Test.YtaofgmfalldcoaaS21
namespace Go.AE
open Go.Proofs Go.Proofs.Ytaofgmfalldcoaa
set_option linter.unusedVariables false
set_option linter.unusedSimpArgs false
section
variable {G : Nat → Option Obj}
theorem scB (L : List Bool) : ∀ e o : Nat, scC (C.p (rowP encB L e o)) = true := fun _ _ => rfl
theorem app_ed {A : List Ed} {x : Ed} {m : Nat} (hm : A.length = m) {ρ : List Nat} {e o : Nat} (he : e < m + 1) (ho : o < 2) : renC ρ (appF m (rowC encE A) (fun e o => nth C.top [C.p (PV.i .i64 x.1), C.p (PV.i .i64 x.2)] ((e + 0) * 2 + o)) e o) = .p (rowP encE (A ++ [x]) e o) := app1' (ρ := ρ) (enc := encE) hm (edge_at x.1 x.2) he ho
set_option maxRecDepth 100000 in
set_option maxHeartbeats 2000000 in
theorem routeMono_core {n : Nat} {t : Int} {E : List Ed} {F : List Bool} {fr to sp : Int} (hfr : inR .i64 fr) (hto : inR .i64 to) (hsp : inR .i64 sp) (hn : n < 9) (hv : validZ n E = 0) (hEl : E.length ≤ 12) (hF : F.length = n) :
    ExS Try.prog G (resOf Try.prog Try.f6) (bV true) (dropL 3 (pcs Try.prog Try.f6)) (cst 154 [(2, iV fr), (3, iV to), (4, iV sp), (11, .c (.ptr 0 0)), (12, .c (.sl 1 1 0 n))] [.cells 31 [.p (.i .i64 (n : Nat)), .p (listP encE 2 E)], .row 4 1 n (rowC encB F)]) fun _ _ => False := by
  have hac : ∀ k : Nat, k < n → ¬ Path E k k := fun k hk hp => (validZ_ok hv).2.2 ⟨k, by omega, hp⟩
  have hu : ∀ F : List Bool, (fun e o => unP (rowC encB F (e + 0) o)) = rowP encB F := fun _ => rfl
  have hd : ∀ F : List Bool, F.length = n → decL decB n (rowP encB F) = F := fun F h => by rw [← h]; exact decB_row F
  have hi : ∀ F : List Bool, F.length = n → IsL encB 1 F n (rowP encB F) := fun F h => ⟨h, fun _ _ _ _ => rfl⟩
  have lv : ∀ Y : List Bool, Y.length = n → listV encB 1 Y = .c (.p (.l 1 n (rowP encB Y))) := fun Y h => by unfold listV listP; rw [h]
  refine ExS.evG extMo_sound 1 (tM2 n E F fr to sp) ?_
  simp only [holds_rq, holds_leaf, kf_normal, decE_row, isL_row, hu, hd F hF, hi F hF, true_and, and_true]
  refine ⟨⟨by omega, fun _ _ _ _ => rfl⟩, ⟨⟨by omega, by omega, hv⟩, fun e o _ _ => scB _ e o⟩, ⟨?_⟩⟩
  have hYl := inh_length n E F
  have hmono : ∀ E2 : List Ed, (∀ e ∈ E, e ∈ E2) → ∀ k, k < n → (inh n E F).getD k false = true → (inh n E2 F).getD k false = true := fun E2 h k hk hx => inh_mono h hk hx
  have hstop : ∀ k, k < n → (inh n E F).getD k false = true → ∀ i, i < n → i ≠ k → (inh n E (F.set k false)).getD i false = (inh n E F).getD i false := fun k hk hx => inh_stop (hac k hk) hF hk hx
  generalize inh n E F = Y at hYl hmono hstop
  refine ExS.pre ((weak_frzL (id := 2) (ty := 4) (sz := 1) (n := n) (f := fun e o => renC [0, 1, 2] (C.p (PV.b (Y.getD e default)))) (rowP encB Y) (by kernel_rfl) (fun e o he ho => rfl) (fun e o he ho => PLe.refl _) (ps := [(0, n)]) (by kernel_rfl) (by simp)).trans (weak_gc (msk 154 [2, 3, 4, 11, 12, 13]) _)) ?_
  refine ExS.pre (st2 := cst 154 [(2, iV fr), (3, iV to), (4, iV sp), (11, .c (.ptr 0 0)), (12, .c (.sl 1 1 0 n)), (13, listV encB 1 Y)] [.cells 31 [.p (.i .i64 (n : Nat)), .p (listP encE 2 E)], .row 4 1 n (rowC encB F)]) (by rw [lv Y hYl]; exact weak_of_eq (by kernel_rfl)) ?_
  refine ExS.evG extMo_sound 2 (tM3 n E F Y fr to sp) ?_
  simp only [holds_bT, holds_rq, holds_leaf, kf_normal, kf_ret', beq_iff_eq, beq_eq_false_iff_ne, bne_iff_ne, bne_eq_false_iff_eq]
  refine ⟨fun c1 => ⟨fun _ => ⟨fun _ => ⟨trivial, ⟨VLe.refl _⟩⟩, fun c => absurd (by omega) c⟩, fun c => absurd c1 c⟩, fun c1 => ⟨fun c2 => absurd (by omega) c2, fun c2 => ⟨?_⟩⟩⟩
  have hn0 : 0 < n := by omega
  refine ExS.evG extMo_sound 2 (tM4 n E F Y fr to sp) ?_
  simp only [holds_rq, holds_leaf, kf_normal]
  refine ⟨⟨by omega, by omega, fun e o _ ho => ?_⟩, ⟨?_⟩⟩
  · have ho' : o = 0 ∨ o = 1 := by omega
    rcases ho' with rfl | rfl <;> rfl
  refine ExS.pre (st2 := (fun (m : Nat) (E1 : List Ed) => cst 154 [(2, iV fr), (3, iV to), (4, iV sp), (11, .c (.ptr 0 0)), (12, .c (.sl 1 1 0 n)), (13, listV encB 1 Y), (14, .c (.sl 2 2 0 m))] [.cells 31 [.p (.i .i64 (n : Nat)), .p (listP encE 2 E)], .row 4 1 n (rowC encB F), .row 27 2 m (rowC encE E1)]) (0 + E.length) E) (weak_cst ?_) ?_
  · exact ⟨rfl, ⟨rfl, rfl, rfl, fun _ _ _ _ => rfl⟩, ⟨rfl, rfl, rfl, fun e o he ho => rfl⟩, trivial⟩
  refine ExS.evG extMo_sound 1 (tM5 n (0 + E.length) E E F Y fr to sp) ?_
  simp only [holds_rq, holds_leaf, kf_normal, true_and]
  refine ⟨⟨hfr, by omega⟩, ⟨hto, by omega⟩, Nat.le_refl _, ⟨by omega, by omega, edge_one _ _⟩, ⟨?_⟩⟩
  have hsub : ∀ e ∈ E, e ∈ E ++ [(aroundZ fr n, aroundZ to n)] := fun e he => List.mem_append.2 (.inl he)
  have h2l : (E ++ [(aroundZ fr n, aroundZ to n)]).length = 0 + E.length + 1 := by simp
  refine ExS.pre ((weak_frzL (id := 3) (ty := 27) (sz := 2) (n := 0 + E.length + 1) (f := fun e o => renC [0, 1, 4, 5] (appF (0 + E.length) (rowC encE E) (fun e o => nth C.top [C.p (PV.i IntKind.i64 (aroundZ fr n)), C.p (PV.i IntKind.i64 (aroundZ to n))] ((e + 0) * 2 + o)) e o)) (rowP encE (E ++ [(aroundZ fr n, aroundZ to n)])) (by kernel_rfl) (fun e o he ho => by rw [app_ed (x := (aroundZ fr n, aroundZ to n)) (by omega) he ho]; rfl) (fun e o he ho => by rw [app_ed (x := (aroundZ fr n, aroundZ to n)) (by omega) he ho]; exact PLe.refl _) (ps := [(0, 0 + E.length + 1)]) (by kernel_rfl) (by simp)).trans (weak_gc (msk 154 [4, 11, 12, 13, 15]) _)) ?_
  have e8 : listP encE 2 (E ++ [(aroundZ fr n, aroundZ to n)]) = .l 2 (0 + E.length + 1) (rowP encE (E ++ [(aroundZ fr n, aroundZ to n)])) := by unfold listP; rw [h2l]
  generalize E ++ [(aroundZ fr n, aroundZ to n)] = E2 at *
  refine ExS.pre (st2 := cst 154 [(4, iV sp), (11, .c (.ptr 0 0)), (12, .c (.sl 1 1 0 n)), (13, listV encB 1 Y), (15, .c (.ptr 2 0))] [.cells 31 [.p (.i .i64 (n : Nat)), .p (listP encE 2 E)], .row 4 1 n (rowC encB F), .cells 31 [.p (.i .i64 (n : Nat)), .p (listP encE 2 E2)]]) (by rw [e8]; exact weak_of_eq (by kernel_rfl)) ?_
  have h2len : E2.length ≤ 1000000 := by omega
  -- behind the first loop
  have rest : ∀ st, WeakS G st (cst 154 [(4, iV sp), (11, .c (.ptr 0 0)), (12, .c (.sl 1 1 0 n)), (13, listV encB 1 Y)] [.cells 31 [.p (.i .i64 (n : Nat)), .p (listP encE 2 E)], .row 4 1 n (rowC encB F)]) → ExS Try.prog G (resOf Try.prog Try.f6) (bV true) (dropL 12 (pcs Try.prog Try.f6)) st fun _ _ => False := fun st hst => by
    refine ExS.pre hst (ExS.evG extMo_sound 3 (tM9 n E F Y sp) ?_)
    have hk : 0 ≤ aroundZ sp n ∧ aroundZ sp n < n := around_range sp (by omega)
    simp only [holds_bT, holds_rq, holds_leaf, kf_normal, kf_ret', true_and, Bool.not_eq_true', Bool.not_eq_false', show (default : Bool) = false from rfl]
    refine ⟨⟨hsp, by omega⟩, by omega, fun _ => ⟨VLe.refl _⟩, fun hYk => ⟨?_⟩⟩
    obtain ⟨k, hke⟩ : ∃ k : Nat, aroundZ sp n = k := ⟨(aroundZ sp n).toNat, by omega⟩
    rw [hke] at hk hYk ⊢
    have hYk : Y.getD k false = true := hYk
    have hkn : k < n := by omega
    refine ExS.evG extMo_sound 1 (tM10 n E F Y k) ?_
    simp only [holds_rq, holds_leaf, kf_normal, show (↑k : Int).toNat = k from rfl, show ∀ x : Nat, x + 0 = x from fun _ => rfl]
    refine ⟨by omega, hkn, ⟨?_⟩⟩
    have hFl : (F.set k false).length = n := by simp [hF]
    refine ExS.pre (st2 := (fun (F : List Bool) (kk : Int) => cst 154 [(11, .c (.ptr 0 0)), (12, .c (.sl 1 1 0 n)), (13, listV encB 1 Y), (18, iV kk)] [.cells 31 [.p (.i .i64 (n : Nat)), .p (listP encE 2 E)], .row 4 1 n (rowC encB F)]) (F.set k false) k) (weak_cst (by exact ⟨rfl, ⟨rfl, rfl, rfl, fun e o he ho' => set1 (ρ := [0, 1]) hF hkn rfl he ho'⟩, trivial⟩)) ?_
    refine ExS.evG extMo_sound 2 (tM11 n E (F.set k false) Y k) ?_
    simp only [holds_rq, holds_leaf, kf_normal, decE_row, isL_row, hu, hd _ hFl, hi _ hFl, true_and, and_true]
    refine ⟨⟨by omega, fun _ _ _ _ => rfl⟩, ⟨⟨by omega, by omega, hv⟩, fun e o _ _ => scB _ e o⟩, ⟨?_⟩⟩
    have hZl := inh_length n E (F.set k false)
    have hZ := hstop k hkn hYk
    have hZk := inh_off (E := E) hF hkn
    generalize inh n E (F.set k false) = Z at hZl hZ hZk
    refine ExS.pre ((weak_frzL (id := 1) (ty := 4) (sz := 1) (n := n) (f := fun e o => renC [0, 2] (C.p (PV.b (Z.getD e default)))) (rowP encB Z) (by kernel_rfl) (fun e o he ho => rfl) (fun e o he ho => PLe.refl _) (ps := [(0, n)]) (by kernel_rfl) (by simp)).trans (weak_gc (msk 154 [11, 13, 18, 19, 20]) _)) ?_
    refine ExS.pre (st2 := (fun (kk : Int) (i : Nat) => cst 154 [(11, .c (.ptr 0 0)), (13, listV encB 1 Y), (18, iV kk), (19, listV encB 1 Z), (20, iV (i : Nat))] [.cells 31 [.p (.i .i64 (n : Nat)), .p (listP encE 2 E)]]) k 0) (by rw [lv Z hZl]; exact weak_of_eq (by kernel_rfl)) ?_
    refine ExS.loop' (l := dropL 18 (pcs Try.prog Try.f6)) (b := inr (inr (nth .skip (pcs Try.prog Try.f6) 18))) (r := dropL 19 (pcs Try.prog Try.f6)) (id := 2) (by kernel_rfl) (σ := Nat)
      (fun i => (fun (kk : Int) => cst 154 [(11, .c (.ptr 0 0)), (13, listV encB 1 Y), (18, iV kk), (19, listV encB 1 Z), (20, iV (i : Nat))] [.cells 31 [.p (.i .i64 (n : Nat)), .p (listP encE 2 E)]]) k) (fun i => i ≤ n) (fun i => n - i) 0 (Nat.zero_le _) (weak_of_eq (by kernel_rfl)) ?_
    intro i hin Q q1n q1e _
    refine ExS.evH extMo_sound (tM12 n i E Y Z k) ?_
    simp only [holds_bT, holds_rq, holds_leaf, kf_normal, kf_exit, kf_ret', decide_eq_true_eq, decide_eq_false_iff_not, inR, bne_iff_ne, bne_eq_false_iff_eq, show (↑i : Int).toNat = i from rfl, show (default : Bool) = false from rfl]
    refine ⟨fun h1 => ⟨fun c => absurd (by omega) c, fun _ => ⟨fun c2 => ⟨by omega, by omega, ?_⟩, fun c2 => ⟨by omega, ⟨q1n (i + 1) _ (by omega) (by omega) (weak_of_eq (by kernel_rfl))⟩⟩⟩⟩, fun h1 => ⟨q1e _ ?_⟩⟩
    · rw [hZ i (by omega) (by omega)]
      simp only [beq_self_eq_true, Bool.not_true, Bool.false_eq_true, false_imp_iff, true_imp_iff, true_and]
      exact ⟨by omega, ⟨q1n (i + 1) _ (by omega) (by omega) (weak_of_eq (by kernel_rfl))⟩⟩
    · refine ExS.evH extMo_sound (tM13 n i E Y Z k) ?_
      simp only [holds_bT, holds_rq, holds_leaf, kf_ret', show (↑k : Int).toNat = k from rfl, show (default : Bool) = false from rfl, hZk, Bool.not_false, Bool.true_eq_false, false_imp_iff, true_imp_iff, true_and, and_true]
      exact ⟨⟨by omega, by omega⟩, ⟨VLe.refl _⟩⟩
  -- the first loop
  have loop1 : ∀ W : List Bool, (validZ n E2 = 0 → W.length = n ∧ ∀ k, k < n → Y.getD k false = true → W.getD k false = true) → ∀ st, WeakS G st ((fun yv (i : Nat) => cst 154 [(4, iV sp), (11, .c (.ptr 0 0)), (12, .c (.sl 1 1 0 n)), (13, listV encB 1 Y), (15, .c (.ptr 2 0)), (16, yv), (17, iV (i : Nat))] [.cells 31 [.p (.i .i64 (n : Nat)), .p (listP encE 2 E)], .row 4 1 n (rowC encB F), .cells 31 [.p (.i .i64 (n : Nat)), .p (listP encE 2 E2)]]) (listV encB 1 W) 0) → ExS Try.prog G (resOf Try.prog Try.f6) (bV true) (dropL 11 (pcs Try.prog Try.f6)) st fun _ _ => False := fun W hW st hst => by
    refine ExS.pre hst (ExS.loop' (l := dropL 11 (pcs Try.prog Try.f6)) (b := inr (inr (nth .skip (pcs Try.prog Try.f6) 11))) (r := dropL 12 (pcs Try.prog Try.f6)) (id := 0) (by kernel_rfl) (σ := Nat)
      (fun i => (fun yv => cst 154 [(4, iV sp), (11, .c (.ptr 0 0)), (12, .c (.sl 1 1 0 n)), (13, listV encB 1 Y), (15, .c (.ptr 2 0)), (16, yv), (17, iV (i : Nat))] [.cells 31 [.p (.i .i64 (n : Nat)), .p (listP encE 2 E)], .row 4 1 n (rowC encB F), .cells 31 [.p (.i .i64 (n : Nat)), .p (listP encE 2 E2)]]) (listV encB 1 W)) (fun i => i ≤ n) (fun i => n - i) 0 (Nat.zero_le _) (weak_of_eq (by kernel_rfl)) ?_)
    intro i hin Q q1n q1e _
    refine ExS.evH extMo_sound (tM8 n i E E2 F Y W sp) ?_
    simp only [holds_bT, holds_rq, holds_leaf, kf_normal, kf_exit, kf_ret', decide_eq_true_eq, decide_eq_false_iff_not, inR, bne_iff_ne, bne_eq_false_iff_eq, beq_iff_eq, beq_eq_false_iff_ne, decE_row, isL_row, true_and, Bool.not_eq_true', Bool.not_eq_false', show (↑i : Int).toNat = i from rfl, show (default : Bool) = false from rfl]
    have out : Leaf (Q (.exit 0) ((fun yv => cst 154 [(4, iV sp), (11, .c (.ptr 0 0)), (12, .c (.sl 1 1 0 n)), (13, listV encB 1 Y), (15, .c (.ptr 2 0)), (16, yv), (17, iV (i : Nat))] [.cells 31 [.p (.i .i64 (n : Nat)), .p (listP encE 2 E)], .row 4 1 n (rowC encB F), .cells 31 [.p (.i .i64 (n : Nat)), .p (listP encE 2 E2)]]) (listV encB 1 W))) := ⟨q1e _ (rest _ ((weak_gc (msk 154 [4, 11, 12, 13]) _).trans (weak_of_eq (by kernel_rfl))))⟩
    refine ⟨fun h1 => ⟨h2len, fun c1 => ⟨fun c2 => absurd (by have := (hW c1).1; omega) c2, fun c2 => ⟨by omega, fun c3 => ⟨by omega, fun c4 => ?_, fun c4 => ⟨by omega, ⟨q1n (i + 1) _ (by omega) (by omega) (weak_of_eq (by kernel_rfl))⟩⟩⟩, fun c3 => ⟨by omega, ⟨q1n (i + 1) _ (by omega) (by omega) (weak_of_eq (by kernel_rfl))⟩⟩⟩⟩, fun c1 => out⟩, fun h1 => out⟩
    rw [(hW c1).2 i (by omega) c3] at c4; cases c4
  by_cases hv2 : validZ n E2 = 0
  · refine ExS.evG extMo_sound 2 (tM6 n E E2 F Y sp) ?_
    simp only [holds_rq, holds_leaf, kf_normal, decE_row, isL_row, hu, hd F hF, hi F hF, true_and, and_true]
    refine ⟨⟨by omega, fun _ _ _ _ => rfl⟩, ⟨⟨by omega, by omega, hv2⟩, fun e o _ _ => scB _ e o⟩, ⟨?_⟩⟩
    have hWl := inh_length n E2 F
    have hW := hmono E2 hsub
    generalize inh n E2 F = W at hWl hW
    refine ExS.pre ((weak_frzL (id := 3) (ty := 4) (sz := 1) (n := n) (f := fun e o => renC [0, 1, 2, 3] (C.p (PV.b (W.getD e default)))) (rowP encB W) (by kernel_rfl) (fun e o he ho => rfl) (fun e o he ho => PLe.refl _) (ps := [(0, n)]) (by kernel_rfl) (by simp)).trans (weak_gc (msk 154 [4, 11, 12, 13, 15, 16, 17]) _)) ?_
    exact loop1 W (fun _ => ⟨hWl, hW⟩) _ (by rw [lv W hWl]; exact weak_of_eq (by kernel_rfl))
  · refine ExS.evG extMo0_sound 2 (tM7 n E E2 F Y sp) ?_
    simp only [holds_rq, holds_leaf, kf_normal, decE_row, isL_row, hu, hd F hF, hi F hF, true_and, and_true]
    refine ⟨⟨by omega, fun _ _ _ _ => rfl⟩, ⟨by omega, by omega, hv2⟩, ⟨?_⟩⟩
    refine loop1 [] (fun h => absurd h hv2) _ ?_
    refine (weak_slot (j := 16) (y := listV encB 1 []) ?_).trans (weak_of_eq (by kernel_rfl))
    exact VLe.p (PLe.nil 1 _)
set_option maxRecDepth 100000 in
theorem routeMonotone_fn {L : List Int} {b fr to sp : Int} (hI : Ints L) (hb : inR .i64 b) (hfr : inR .i64 fr) (hto : inR .i64 to) (hsp : inR .i64 sp) (h : List AO) : FnS Try.prog G 6 [listV encI 1 L, iV b, iV fr, iV to, iV sp] h fun x h' => x = bV true ∧ h' = h := by
  refine fn_S Try.func6 (by kernel_rfl) rfl ?_ h
  have h2 := acN_range L
  have hlen := acG_length L
  have hv := acG_valid L
  refine ExS.evG extMo_sound 3 (tM1 L b fr to sp) ?_
  simp only [holds_rq, holds_leaf, kf_normal, decI_row, isL_row, true_and, and_true]
  refine ⟨hI, ⟨⟨by omega, by omega⟩, hb⟩, ⟨?_⟩⟩
  obtain ⟨n, hn⟩ : ∃ n : Nat, acN L = n := ⟨(acN L).toNat, by omega⟩
  rw [hn] at hv h2 ⊢
  exact ExS.pre (weak_of_eq (by kernel_rfl)) (routeMono_core (t := 0) hfr hto hsp (by omega) hv hlen (firing_length n b))
end
end Go.AE
