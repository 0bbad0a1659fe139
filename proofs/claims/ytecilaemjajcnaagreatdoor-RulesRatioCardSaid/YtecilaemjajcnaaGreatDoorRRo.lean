/- Pages: X14, as far as they are used here. -/
import Derived.Test.YtecilaemjajcnaaGreatDoorRRm
import Derived.Test.YtecilaemjajcnaaGreatDoorRRn
import Derived.OpenShut
namespace Go.AE
set_option linter.unusedVariables false
set_option linter.unusedSimpArgs false
open Go.Proofs Go.Proofs.YtecilaemjajcnaaGreatDoor Go.RowKit
theorem decI_rowX (L : List Int) : decL decI L.length (rowP encI L) = L := decL_row (fun _ => rfl) L
theorem gcd_one (n : Int) : gcdZ (absZ n) 1 = 1 := by
  unfold gcdZ
  show ((Nat.gcd (absZ n).toNat 1 : Nat) : Int) = 1
  rw [Nat.gcd_one_right]; rfl
theorem valid_bound (n : Int) : validQ (boundZ n 50) 1 = true := by
  have := boundZ_range n (m := 50) (by omega)
  unfold validQ
  rw [gcd_one]
  rw [decide_eq_true (show (1 : Int) ≤ 1 by decide), decide_eq_true (show (1 : Int) ≤ 4611686018427387904 by decide), decide_eq_true (show -4611686018427387904 ≤ boundZ n 50 by omega), decide_eq_true (show boundZ n 50 ≤ 4611686018427387904 by omega)]
  rfl
section
variable {G : Nat → Option Obj}
set_option maxRecDepth 100000 in
theorem rat_4 (hG : GrpG G) (hLv : ModOK Tryz.prog G 12 mLives27) {nm : Nat → ByteArray} {na a b : ByteArray} {wi : Nat → Int} {n d : Int} (hn : inR .i64 n) (hd : inR .i64 d) :
    ExS Tryz.prog G (resOf Tryz.prog Tryz.f3) (bV true) (dropL 4 (pcs Tryz.prog Tryz.f3)) (cst 164 [(1, sV na), (2, sV a), (3, sV b), (5, iV n), (6, iV d), (16, .c (.p (.l 1 3 fun e _ => .s (nm e)))), (17, .c (.p (.l 1 2 fun e _ => .i .i64 (wi e))))] []) (fun _ _ => False) := by
  refine ExS.evG extL1_sound 1 (tL4 nm na a b wi n d) ?_
  simp only [holds_rq, holds_leaf, kf_normal]
  refine ⟨⟨hn, by decide, by decide⟩, ⟨?_⟩⟩
  have hb := boundZ_range n (m := 50) (by omega)
  refine ExS.pre (WeakS.trans (weak_frzL (id := 0) (ty := 27) (sz := 2) (n := 2) (fun e o => nth (.b false) [.i .i64 (nth 0 [n, boundZ n 50] e), .i .i64 (nth 0 [d, 1] e)] o) rfl ?_ ?_ (ps := [(0, 2)]) (by kernel_rfl) (by simp)) (WeakS.trans (weak_gc (msk 164 [1, 2, 3, 16, 17, 18]) _) (weak_of_eq (st' := (fun ln ld : Nat → Int => cst 164 [(1, sV na), (2, sV a), (3, sV b), (16, .c (.p (.l 1 3 fun e _ => .s (nm e)))), (17, .c (.p (.l 1 2 fun e _ => .i .i64 (wi e)))), (18, .c (.p (.l 2 2 fun e o => nth (.b false) [.i .i64 (ln e), .i .i64 (ld e)] o)))] []) (fun e => nth 0 [n, boundZ n 50] e) (fun e => nth 0 [d, 1] e)) (by kernel_rfl)))) ?_
  · intro e o he ho
    match e, he, o, ho with
    | 0, _, 0, _ | 0, _, 1, _ | 1, _, 0, _ | 1, _, 1, _ => rfl
  · intro e o he ho
    match e, he, o, ho with
    | 0, _, 0, _ | 0, _, 1, _ | 1, _, 0, _ | 1, _, 1, _ => exact PLe.refl _
  exact rat_loop hG hLv (fun e => match e with
    | 0 => hn
    | 1 => by show inR .i64 (boundZ n 50); simp only [inR]; omega
    | _ + 2 => by show inR .i64 0; simp only [inR]; omega) (fun e => match e with
    | 0 => hd
    | 1 => by show inR .i64 1; simp only [inR]; omega
    | _ + 2 => by show inR .i64 0; simp only [inR]; omega) (valid_bound n)
set_option maxRecDepth 100000 in
theorem rat_3 (hG : GrpG G) (hLv : ModOK Tryz.prog G 12 mLives27) {nm : Nat → ByteArray} {na a b : ByteArray} {w n d : Int} (hw : inR .i64 w) (hn : inR .i64 n) (hd : inR .i64 d) :
    ExS Tryz.prog G (resOf Tryz.prog Tryz.f3) (bV true) (dropL 3 (pcs Tryz.prog Tryz.f3)) (cst 164 [(1, sV na), (2, sV a), (3, sV b), (4, iV w), (5, iV n), (6, iV d), (16, .c (.p (.l 1 3 fun e _ => .s (nm e))))] []) (fun _ _ => False) := by
  refine ExS.evG extL1_sound 1 (tL3 nm na a b w n d) ?_
  simp only [holds_rq, holds_leaf, kf_normal]
  have ha := aroundZ_range (n := w) (m := 50) (by omega)
  refine ⟨⟨hw, by decide⟩, by simp only [inR]; omega, ⟨?_⟩⟩
  refine ExS.pre (WeakS.trans (weak_frzL (id := 0) (ty := 3) (sz := 1) (n := 2) (fun e _ => .i .i64 (nth 0 [w, 1 + aroundZ w 50] e)) rfl ?_ ?_ (ps := [(0, 2)]) (by kernel_rfl) (by simp)) (WeakS.trans (weak_gc (msk 164 [1, 2, 3, 5, 6, 16, 17]) _) (weak_of_eq (st' := (fun wi : Nat → Int => cst 164 [(1, sV na), (2, sV a), (3, sV b), (5, iV n), (6, iV d), (16, .c (.p (.l 1 3 fun e _ => .s (nm e)))), (17, .c (.p (.l 1 2 fun e _ => .i .i64 (wi e))))] []) (fun e => nth 0 [w, 1 + aroundZ w 50] e)) (by kernel_rfl)))) ?_
  · intro e o he ho
    match e, he, o, ho with
    | 0, _, 0, _ | 1, _, 0, _ => rfl
  · intro e o he ho
    match e, he, o, ho with
    | 0, _, 0, _ | 1, _, 0, _ => exact PLe.refl _
  exact rat_4 hG hLv hn hd
set_option maxRecDepth 100000 in
theorem rat_2 (hG : GrpG G) (hLv : ModOK Tryz.prog G 12 mLives27) {wo : Nat → ByteArray} {L : List Int} {na a b : ByteArray} {w n d : Int} (hI : Ints L) (hw : inR .i64 w) (hn : inR .i64 n) (hd : inR .i64 d) :
    ExS Tryz.prog G (resOf Tryz.prog Tryz.f3) (bV true) (dropL 2 (pcs Tryz.prog Tryz.f3)) (cst 164 [(0, listV encI 1 L), (1, sV na), (2, sV a), (3, sV b), (4, iV w), (5, iV n), (6, iV d), (15, .c (.p (.l 1 3 fun e _ => .s (wo e))))] []) (fun _ _ => False) := by
  refine ExS.evG extL1_sound 1 (tL2 wo L na a b w n d) ?_
  simp only [holds_rq, holds_leaf, kf_normal, decI_rowX]
  have hp := fun i => pickZ_range L i (m := 3) (by omega)
  refine ⟨⟨isL_row _ _ _, hI, by decide⟩, hp 0, ⟨isL_row _ _ _, hI, by decide⟩, hp 1, ⟨isL_row _ _ _, hI, by decide⟩, hp 2, ⟨?_⟩⟩
  generalize (pickZ L 0 3).toNat = p0
  generalize (pickZ L 1 3).toNat = p1
  generalize (pickZ L 2 3).toNat = p2
  refine ExS.pre (WeakS.trans (weak_frzL (id := 0) (ty := 9) (sz := 1) (n := 3) (fun e _ => .s (nth ⟨#[]⟩ [wo p0, wo p1, wo p2] e)) rfl ?_ ?_ (ps := [(0, 3)]) (by kernel_rfl) (by simp)) (WeakS.trans (weak_gc (msk 164 [1, 2, 3, 4, 5, 6, 16]) _) (weak_of_eq (st' := (fun nm : Nat → ByteArray => cst 164 [(1, sV na), (2, sV a), (3, sV b), (4, iV w), (5, iV n), (6, iV d), (16, .c (.p (.l 1 3 fun e _ => .s (nm e))))] []) (fun e => nth ⟨#[]⟩ [wo p0, wo p1, wo p2] e)) (by kernel_rfl)))) ?_
  · intro e o he ho; rfl
  · intro e o he ho; exact PLe.refl _
  exact rat_3 hG hLv hw hn hd
set_option maxRecDepth 100000 in
theorem rulesRatio_fn (hG : GrpG G) (hLv : ModOK Tryz.prog G 12 mLives27) {L : List Int} {na a b : ByteArray} {w n d : Int} (hI : Ints L) (hw : inR .i64 w) (hn : inR .i64 n) (hd : inR .i64 d) (h : List AO) : FnS Tryz.prog G 3 [listV encI 1 L, sV na, sV a, sV b, iV w, iV n, iV d] h fun x h' => x = bV true ∧ h' = h := by
  refine fn_S Tryz.func3 (by kernel_rfl) rfl ?_ h
  refine ExS.evG ext0_sound 2 (tL1 L na a b w n d) ?_
  simp only [holds_leaf, kf_normal]
  refine ⟨ExS.pre (WeakS.trans (weak_frzL (id := 0) (ty := 9) (sz := 1) (n := 3) (fun e _ => .s (wordB e)) rfl ?_ ?_ (ps := [(0, 3)]) (by kernel_rfl) (by simp)) (WeakS.trans (weak_gc (msk 164 [0, 1, 2, 3, 4, 5, 6, 15]) _) (weak_of_eq (st' := (fun wo : Nat → ByteArray => cst 164 [(0, listV encI 1 L), (1, sV na), (2, sV a), (3, sV b), (4, iV w), (5, iV n), (6, iV d), (15, .c (.p (.l 1 3 fun e _ => .s (wo e))))] []) wordB) (by kernel_rfl)))) ?_⟩
  · intro e o he ho; rfl
  · intro e o he ho; exact PLe.refl _
  exact rat_2 hG hLv hI hw hn hd
end
theorem wf_in {x : Int} (h : (Lit.int .i64 x).wf = true) : inR .i64 x := by
  have := bounds_i64 h
  exact ⟨this.1, this.2⟩
theorem row_vr {w : World} {a : Option Addr} {len cap : Nat} {zs : List Int} (h : (a = none ∧ len = 0 ∧ cap = 0 ∧ zs = []) ∨
  ∃ x : Addr, a = some x ∧ len ≤ cap ∧ cap ≤ maxLen ∧ zs.length = cap ∧ (∀ i, i < zs.length → w.cell? (x.add i) = some (.int .i64 (zs.getD i 0))) ∧ ∀ n ∈ zs, (Lit.int .i64 n).wf = true) :
    ∃ L, Ints L ∧ VR Bt.nil (fun b => b < w.heap.size) w (listV encI 1 L) (.slice a len cap) := by
  rcases h with ⟨rfl, rfl, rfl, rfl⟩ | ⟨x, rfl, h1, h2, h3, h4, h5⟩
  · exact ⟨[], (fun x hx => by cases hx), none, 0, rfl, Nat.le_refl _, Nat.zero_le _, fun h => absurd h (Nat.lt_irrefl 0)⟩
  · have hl : (zs.take len).length = len := by rw [List.length_take]; omega
    refine ⟨zs.take len, fun y hy => wf_in (h5 y (List.mem_of_mem_take hy)), some x, cap, by rw [hl], by rw [hl]; exact h1, h2, fun hn => ?_⟩
    rw [hl] at hn
    refine ⟨x, rfl, ?_, fun e o he ho => ?_⟩
    · have := World.block_lt_of_cell? w _ (h4 0 (by omega))
      rwa [addr_block] at this
    · rw [hl] at he
      obtain rfl : o = 0 := by omega
      refine ⟨_, h4 (e * 1 + 0) (by omega), ?_⟩
      show Value.int .i64 (zs.getD (e * 1 + 0) 0) = Value.int .i64 ((zs.take len).getD e default)
      simp [he]
theorem okLives27 {G : Nat → Option Obj} (hG : GrpG G) : ModOK Tryz.prog G 12 mLives27 := by
  intro args p v hm hp h
  unfold mLives27 at hm
  split at hm; rotate_left; · cases hm
  obtain ⟨rfl, rfl⟩ := some_pairU hm
  refine fn_kit rfl ?_ h
  intro R w vs hr hg ha
  obtain ⟨o, h1, h2⟩ := hG
  have hv := All2.nil2 ha
  obtain rfl : vs = #[] := by
    apply Array.ext'
    simpa using hv
  refine (Go.CE.lives27_calls h2 (hg 0 o h1)).mono ?_
  rintro e w' ⟨rfl, hb⟩
  exact ⟨_, rfl, rfl, hb⟩
end Go.AE
