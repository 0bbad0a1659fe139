/- AE contracts: (*Ledger).Amend, the proof. -/
import Derived.Test.YtfjihbmehhccoaaP13
namespace Go.AE
set_option linter.unusedVariables false
set_option linter.unusedSimpArgs false
open Go.Proofs Go.Proofs.Ytfjihbmehhccoaa Go.RowKit
/-- The ticks that are known now. -/
noncomputable def nwF (T : List Int) : Value → Option Bool := T.foldl (fun g t => setM g (.int .i64 t) true) fun _ => none
theorem nwF_snoc (T : List Int) (t : Int) : nwF (T ++ [t]) = setM (nwF T) (.int .i64 t) true := by
  unfold nwF
  rw [List.foldl_append]
  rfl
theorem nwF_fold (T : List Int) : ∀ (g : Value → Option Bool) (t : Int), ((T.foldl (fun g t => setM g (.int .i64 t) true) g) (.int .i64 t)).getD false = (decide (t ∈ T) || (g (.int .i64 t)).getD false) := by
  induction T with
  | nil => intro g t; simp
  | cons x T ih =>
    intro g t
    rw [List.foldl_cons, ih]
    unfold setM
    by_cases h : t = x
    · subst h; simp
    · simp [h]
theorem nwF_get (T : List Int) (t : Int) : (nwF T (.int .i64 t)).getD false = decide (t ∈ T) := by
  unfold nwF
  rw [nwF_fold]
  simp
/-- One tick of an amendment. -/
noncomputable def amStep (T : List Int) (ru : ByteArray) (ve : Int) (L : List (ByteArray × ByteArray)) (se : Int) (r : Ld × List Pg) (t : Int) : Ld × List Pg :=
  match (r.1.gp (mKey ru ve (textLb L) t)).getD false, decide (t ∈ T) with
  | true, true => r
  | false, false => r
  | true, false => (ladd r.1 ⟨1, ru, ve, L, t, se, ⟨#[]⟩⟩, r.2 ++ [⟨1, ru, ve, L, t, se, ⟨#[]⟩⟩])
  | false, true => (ladd r.1 ⟨2, ru, ve, L, t, se, ⟨#[]⟩⟩, r.2 ++ [⟨2, ru, ve, L, t, se, ⟨#[]⟩⟩])
noncomputable def amFold (T : List Int) (ru : ByteArray) (ve : Int) (L : List (ByteArray × ByteArray)) (se : Int) (D : Ld) (A : List Int) : Ld × List Pg := A.foldl (amStep T ru ve L se) (D, [])
noncomputable def lamend (D : Ld) (ru : ByteArray) (ve : Int) (L : List (ByteArray × ByteArray)) (S T : List Int) (se : Int) : V × Ld := match pgOK (⟨0, ru, ve, L, 0, se, ⟨#[]⟩⟩ : Pg), T.all tickZ with
  | true, true => (listV encPg 7 (amFold T ru ve L se D (compI (sortI (S ++ T)))).2, (amFold T ru ve L se D (compI (sortI (S ++ T)))).1)
  | _, _ => (.c (.p (.z (.slice none 0 0))), D)
theorem amFold_snoc (T : List Int) (ru : ByteArray) (ve : Int) (L : List (ByteArray × ByteArray)) (se : Int) (D : Ld) (A : List Int) (t : Int) : amFold T ru ve L se D (A ++ [t]) = amStep T ru ve L se (amFold T ru ve L se D A) t := by
  unfold amFold
  rw [List.foldl_append]
  rfl
theorem ladd_gs (D : Ld) (p : Pg) : ((ladd D p).gs (gKey p.ru p.ve (textLb p.L))).1 ≤ (D.gs (gKey p.ru p.ve (textLb p.L))).1 + 1 := by
  unfold ladd
  dsimp only
  cases (D.gp (mKey p.ru p.ve (textLb p.L) p.st)).isSome with
  | true => exact Nat.le_succ _
  | false => show (gadd _ _ _ _).1 ≤ _; unfold gadd; rw [setG_same]; exact Nat.le_refl _
theorem mem_sortI {L : List Int} {t : Int} : t ∈ sortI L ↔ t ∈ L := by unfold sortI; exact List.mem_mergeSort
theorem mem_compI {L : List Int} {t : Int} (h : t ∈ compI L) : t ∈ L := by
  unfold compI Go.Lib.compact Go.Lib.compactUpTo at h
  obtain ⟨j, h1, h2⟩ := List.mem_map.1 h
  have h1 := (List.mem_filter.1 h1).1
  have hj : j < L.length := by simpa using h1
  subst h2
  simp [hj]
theorem takeD {α : Type} [Inhabited α] {l : List α} {i : Nat} (h : i < l.length) : l.take (i + 1) = l.take i ++ [l.getD i default] := by
  rw [List.take_succ_eq_append_getElem h, List.getD_eq_getElem?_getD, List.getElem?_eq_getElem h]
  rfl
theorem getD_memI {l : List Int} {i : Nat} (h : i < l.length) : l.getD i default ∈ l := by
  rw [List.getD_eq_getElem?_getD, List.getElem?_eq_getElem h]
  exact List.getElem_mem _
theorem tick_in {t : Int} (h : tickZ t = true) : inR .i64 t := by
  unfold tickZ at h
  simp at h
  unfold inR
  omega
section
variable {G : Nat → Option Obj}
theorem extTk_sound : SoundExt Try.prog G extTk := extOf_sound (by simp; exact okTick)
theorem extCt_sound (A : List Int) : SoundExt Try.prog G (extCt A) := catX_sound okConcat (extH_sound (by simp; exact ⟨okSortI _, okCompI _⟩))
theorem extAm_sound (D : Ld) : SoundExt Try.prog G (extAm D) := extH_sound (by simp; exact ⟨okAddD D, okSep.lift⟩)
set_option maxRecDepth 100000 in
set_option maxHeartbeats 4000000 in
theorem amend_main (D : Ld) (ru : ByteArray) (ve : Int) (L : List (ByteArray × ByteArray)) (S T : List Int) (se : Int) (hS : StG D (gKey ru ve (textLb L)) S) (hT : pgOK (⟨0, ru, ve, L, 0, se, ⟨#[]⟩⟩ : Pg) = true → (textLb L).size ≤ 1000000 ∧ ru.size ≤ 1000000 ∧ inR .i64 ve ∧ L.length ≤ 1000000 ∧ (∀ t ∈ S, inR .i64 t) ∧ S.length + T.length ≤ 100000 ∧ D.M.length ≤ 100000) (hTl : T.length ≤ 1000000) (rest : List AO) (b : Nat) (Q : X → St → Prop) : ExZ Try.prog G (Zm [0] (resOf Try.prog Try.f17) fun s => WeakS G s ⟨[.c (.ptr 0 0)] ++ [(lamend D ru ve L S T se).1], ldE (lamend D ru ve L S T se).2 b⟩) (pcs Try.prog Try.f17) (stIn Try.f17 [0, 1, 2, 3] [0] [b] [.c (.ptr 0 0), .c (.p (.s ru)), iV ve, listV enc2 2 L, listV encI 1 T, iV se] (ldH D rest)) Q := by
  refine ExZ.evG extVa_sound 6 (tM1 D rest b ve se ru L T) ?_
  simp only [holds_bT, holds_rq, holds_leaf, kz_ret, kz_normal, dec2_row]
  unfold lamend
  refine ⟨isL_row _ _ _, fun h1 => ⟨?_⟩, fun h1 => ⟨?_⟩⟩
  · have h1 : pgOK (⟨0, ru, ve, L, 0, se, ⟨#[]⟩⟩ : Pg) = false := by simpa using h1
    rw [h1]; exact weak_of_eq (by kernel_rfl)
  have h1 : pgOK (⟨0, ru, ve, L, 0, se, ⟨#[]⟩⟩ : Pg) = true := by simpa using h1
  obtain ⟨t1, t2, t3, t4, t5, t6, t7⟩ := hT h1
  clear hT
  rw [h1]
  refine ExZ.loop' (l := dropL 6 (pcs Try.prog Try.f17)) (b := inr (inr (nth .skip (pcs Try.prog Try.f17) 6))) (r := dropL 7 (pcs Try.prog Try.f17)) (id := 0) (by kernel_rfl) (σ := Nat)
    (fun i => (fun nw => cst 95 [(0, .c (.ptr 0 0)), (4, listV encI 1 T), (13, .c (.ptr 1 0)), (14, .c (.mp 2)), (34, listV encI 1 T), (35, iV (T.length : Nat)), (36, iV (i : Nat))] [.pin 3 b, .cells 31 [.p (.i .i64 0), .p (.s ru), .p (.i .i64 ve), .p (listP enc2 2 L), .p (.i .i64 0), .p (.i .i64 se), .p (.s ⟨#[]⟩)], .mapb (okK Try.prog 3) nw, .cells 86 [.sl 4 7 0 D.M.length, .mp 5, .mp 6], .row 31 7 D.M.length (rowC encPg D.M), .mapb (okK Try.prog 81) D.gp, .mapl (okK Try.prog 79) 3 1 D.gs none]) (nwF (T.take i))) (fun i => i ≤ T.length ∧ (T.take i).all tickZ = true) (fun i => T.length - i) 0 ⟨Nat.zero_le _, rfl⟩ (weak_of_eq (by kernel_rfl)) ?_
  rintro i ⟨i1, i2⟩ Q1 q1n q1e -
  refine ExZ.evH (keep := msk 95 [0, 4, 13, 14, 34, 35, 36]) extTk_sound (tM2 D b i ve se ru L T (nwF (T.take i))) ?_
  simp only [holds_bT, holds_rq, holds_leaf, kz_normal, kz_exit, kz_ret, decide_eq_true_eq, decide_eq_false_iff_not, inR, Int.toNat_natCast]
  refine ⟨fun hlt => ?_, fun hge => ⟨?_⟩⟩
  · have hlt : i < T.length := by omega
    have hm := getD_memI hlt
    have hs := takeD hlt
    refine ⟨by omega, trivial, fun h2 => ⟨?_⟩, fun h2 => ⟨⟨trivial, ?_⟩, by omega, ⟨?_⟩⟩⟩
    · have h2 : tickZ (T.getD i default) = false := by simpa using h2
      have h3 : T.all tickZ = false := by
        cases hq : T.all tickZ with
        | false => rfl
        | true => rw [List.all_eq_true.1 hq _ hm] at h2; cases h2
      rw [h3]; exact weak_of_eq (by kernel_rfl)
    · exact okIn_of _ (tick_in (by simpa using h2))
    · have h2 : tickZ (T.getD i default) = true := by simpa using h2
      refine q1n (i + 1) _ ⟨by omega, by rw [hs, List.all_append, i2]; show (true && (tickZ (T.getD i default) && true)) = true; rw [h2]; rfl⟩ (by omega) ?_
      rw [hs, nwF_snoc]
      exact weak_of_eq (by kernel_rfl)
  · obtain rfl : i = T.length := by omega
    rw [List.take_length] at i2 ⊢
    refine q1e _ ?_
    rw [i2]
    clear q1n q1e hge i1
    have hTt : ∀ t ∈ T, inR .i64 t := fun t ht => tick_in (List.all_eq_true.1 i2 t ht)
    have hAt : ∀ t ∈ compI (sortI (S ++ T)), inR .i64 t := fun t ht => by
      have := mem_sortI.1 (mem_compI ht)
      rcases List.mem_append.1 this with h | h
      · exact t5 t h
      · exact hTt t h
    have hAl : (compI (sortI (S ++ T))).length ≤ S.length + T.length := by
      have := compI_length (sortI (S ++ T))
      rw [sortI_length, List.length_append] at this
      exact this
    have hnw := nwF_get T
    obtain ⟨nw, hnwe⟩ : ∃ nw, nw = nwF T := ⟨_, rfl⟩
    rw [← hnwe] at hnw ⊢
    refine ExZ.pre ((weak_gc (msk 95 [0, 4, 13, 14]) _).trans (weak_of_eq (by kernel_rfl))) (ExZ.evG extVa_sound 1 (tM3 D b ve se ru L T nw) ?_)
    simp only [holds_bT, holds_rq, holds_leaf, kz_normal, dec2_row]
    refine ⟨⟨isL_row _ _ _, t1⟩, ⟨?_⟩⟩
    obtain ⟨s1, s2⟩ := hS
    have hmk : ∀ t, inR .i64 t → okK Try.prog 81 (mKey ru ve (textLb L) t) = true := fun t ht => okMu_of _ _ _ _ t2 t3 t1 ht
    have hgk := okGr_of ru (textLb L) ve t2 t3 t1
    obtain ⟨tx, htx⟩ : ∃ tx, tx = textLb L := ⟨_, rfl⟩
    rw [← htx] at s1 s2 hmk hgk t1 ⊢
    have w1 : WeakS G (cst 95 [(0, .c (.ptr 0 0)), (4, listV encI 1 T), (13, .c (.ptr 1 0)), (14, .c (.mp 2)), (17, .c (.ptr 3 0))] [.pin 4 b, .cells 31 [.p (.i .i64 0), .p (.s ru), .p (.i .i64 ve), .p (listP enc2 2 L), .p (.i .i64 0), .p (.i .i64 se), .p (.s ⟨#[]⟩)], .mapb (okK Try.prog 3) nw, .cells 79 [.p (.s ru), .p (.i .i64 ve), .p (.s tx)], .cells 86 [.sl 5 7 0 D.M.length, .mp 6, .mp 7], .row 31 7 D.M.length (rowC encPg D.M), .mapb (okK Try.prog 81) D.gp, .mapl (okK Try.prog 79) 3 1 D.gs none]) ((fun S => cst 95 [(0, .c (.ptr 0 0)), (4, listV encI 1 T), (13, .c (.ptr 1 0)), (14, .c (.mp 2)), (17, .c (.ptr 3 0))] [.pin 4 b, .cells 31 [.p (.i .i64 0), .p (.s ru), .p (.i .i64 ve), .p (listP enc2 2 L), .p (.i .i64 0), .p (.i .i64 se), .p (.s ⟨#[]⟩)], .mapb (okK Try.prog 3) nw, .cells 79 [.p (.s ru), .p (.i .i64 ve), .p (.s tx)], .cells 86 [.sl 5 7 0 D.M.length, .mp 6, .mp 7], .row 31 7 D.M.length (rowC encPg D.M), .mapb (okK Try.prog 81) D.gp, .mapl (okK Try.prog 79) 3 1 D.gs (some (gKey ru ve tx, .sl 8 1 0 S.length)), .row 3 1 S.length (rowC encI S)]) S) := by
      refine (weak_openM (id := 7) (gKey ru ve tx) (by rfl)).trans ?_
      rw [s1]
      refine (weak_of_eq (st' := cst 95 [(0, .c (.ptr 0 0)), (4, listV encI 1 T), (13, .c (.ptr 1 0)), (14, .c (.mp 2)), (17, .c (.ptr 3 0))] [.pin 4 b, .cells 31 [.p (.i .i64 0), .p (.s ru), .p (.i .i64 ve), .p (listP enc2 2 L), .p (.i .i64 0), .p (.i .i64 se), .p (.s ⟨#[]⟩)], .mapb (okK Try.prog 3) nw, .cells 79 [.p (.s ru), .p (.i .i64 ve), .p (.s tx)], .cells 86 [.sl 5 7 0 D.M.length, .mp 6, .mp 7], .row 31 7 D.M.length (rowC encPg D.M), .mapb (okK Try.prog 81) D.gp, .mapl (okK Try.prog 79) 3 1 D.gs (some (gKey ru ve tx, .sl 8 1 0 S.length)), .row 3 1 S.length (fun e o => .p ((D.gs (gKey ru ve tx)).2 e o))]) (by kernel_rfl)).trans ?_
      refine weak_cst ⟨rfl, rfl, rfl, rfl, rfl, ⟨rfl, rfl, rfl, fun _ _ _ _ => rfl⟩, rfl, rfl, ⟨rfl, rfl, rfl, fun e o he ho => ?_⟩, trivial⟩
      exact congrArg C.p (s2 e o he ho)
    refine ExZ.pre ((weak_of_eq (by kernel_rfl)).trans w1) ?_
    refine ExZ.evG (extCt_sound (S ++ T)) 4 (tM4 D b ve se ru tx L S T nw) ?_
    simp only [holds_bT, holds_rq, holds_leaf, kz_normal]
    have dS : (decL decI S.length fun e o => unP (rowC encI S (e + 0) o)) = S := decI_row S
    have dT : decL decI T.length (rowP encI T) = T := decI_row T
    rw [dS, dT]
    refine ⟨⟨⟨trivial, hgk⟩, rfl⟩, ⟨by omega, fun _ _ _ _ => rfl⟩, ⟨⟨⟨isL_row _ _ _, isL_row _ _ _⟩, by omega⟩, trivial, fun _ _ _ _ => rfl⟩, ⟨rfl, rfl, fun _ _ _ _ => rfl, by rw [List.length_append]; omega⟩, ⟨by rw [sortI_length], by rw [sortI_length], fun _ _ _ _ => rfl, by rw [sortI_length, List.length_append]; omega⟩, ⟨?_⟩⟩
    have hAe := htx
    obtain ⟨A, hA⟩ : ∃ A, A = compI (sortI (S ++ T)) := ⟨_, rfl⟩
    rw [← hA] at hAt hAl ⊢
    have w2 : WeakS G ((fun A S nw => cst 95 [(0, .c (.ptr 0 0)), (13, .c (.ptr 1 0)), (14, .c (.mp 2)), (17, .c (.ptr 3 0)), (19, .c (.p (.z (.slice none 0 0)))), (61, .c (.sl 4 1 0 A.length)), (62, iV (A.length : Nat)), (63, iV 0)] [.pin 5 b, .cells 31 [.p (.i .i64 0), .p (.s ru), .p (.i .i64 ve), .p (listP enc2 2 L), .p (.i .i64 0), .p (.i .i64 se), .p (.s ⟨#[]⟩)], .mapb (okK Try.prog 3) nw, .cells 79 [.p (.s ru), .p (.i .i64 ve), .p (.s tx)], .row 3 1 A.length (rowC encI A), .cells 86 [.sl 6 7 0 D.M.length, .mp 7, .mp 8], .row 31 7 D.M.length (rowC encPg D.M), .mapb (okK Try.prog 81) D.gp, .mapl (okK Try.prog 79) 3 1 D.gs (some (gKey ru ve tx, .sl 9 1 0 S.length)), .row 3 1 S.length (rowC encI S)]) A S nw) ((fun D nw kd st out k i => cst 95 [(0, .c (.ptr 4 0)), (13, .c (.ptr 5 0)), (14, .c (.mp 6)), (17, .c (.ptr 7 0)), (19, .c (.sl 8 7 0 k)), (61, listV encI 1 A), (62, iV (A.length : Nat)), (63, iV (i : Nat))] (ldH D [.pin 0 b, .cells 31 [.p (.i .i64 kd), .p (.s ru), .p (.i .i64 ve), .p (listP enc2 2 L), .p (.i .i64 st), .p (.i .i64 se), .p (.s ⟨#[]⟩)], .mapb (okK Try.prog 3) nw, .cells 79 [.p (.s ru), .p (.i .i64 ve), .p (.s tx)], .row 31 7 k (rowC encPg out)])) D nw 0 0 [] 0 0) := by
      refine (weak_closeM (id := 8) (m := 9) (k0 := gKey ru ve tx) (n := S.length) (h := rowC encI S) (D.gs (gKey ru ve tx)).2 (by rfl) (by rfl) (fun e o he ho => (congrArg C.p (s2 e o he ho)).symm)).trans ?_
      rw [setG_self _ _ _ s1]
      refine (weak_frz (j := 61) (id := 4) (ty := 3) (sz := 1) (n := A.length) (off := 0) (len := A.length) (f := rowC encI A) (by kernel_rfl) (by kernel_rfl) (by omega) (fun _ _ _ _ => rfl)).trans ?_
      refine (weak_nil 31 7 (rowC encPg []) 19 (by kernel_rfl)).trans ?_
      refine (weak_proj [5, 6, 7, 8, 0, 1, 2, 3, 10] (msk 95 [0, 13, 14, 17, 19, 61, 62, 63]) (by kernel_rfl) _).trans ?_
      exact weak_of_eq (by kernel_rfl)
    refine ExZ.pre ((weak_of_eq (by kernel_rfl)).trans w2) ?_
    clear w2
    refine ExZ.loop' (l := dropL 4 (dropL 1 (dropL 7 (pcs Try.prog Try.f17)))) (b := inr (inr (nth .skip (pcs Try.prog Try.f17) 12))) (r := dropL 13 (pcs Try.prog Try.f17)) (id := 2) (by kernel_rfl) (σ := Nat × Ld × List Pg × Int × Int)
      (fun (i, D, out, kd, st) => (fun D nw kd st out k i => cst 95 [(0, .c (.ptr 4 0)), (13, .c (.ptr 5 0)), (14, .c (.mp 6)), (17, .c (.ptr 7 0)), (19, .c (.sl 8 7 0 k)), (61, listV encI 1 A), (62, iV (A.length : Nat)), (63, iV (i : Nat))] (ldH D [.pin 0 b, .cells 31 [.p (.i .i64 kd), .p (.s ru), .p (.i .i64 ve), .p (listP enc2 2 L), .p (.i .i64 st), .p (.i .i64 se), .p (.s ⟨#[]⟩)], .mapb (okK Try.prog 3) nw, .cells 79 [.p (.s ru), .p (.i .i64 ve), .p (.s tx)], .row 31 7 k (rowC encPg out)])) D nw kd st out out.length i) (fun (i, D', out, _, _) => i ≤ A.length ∧ (D', out) = amFold T ru ve L se D (A.take i) ∧ out.length ≤ i ∧ D'.M.length ≤ D.M.length + i ∧ (D'.gs (gKey ru ve tx)).1 ≤ S.length + i) (fun (i, _) => A.length - i) (0, D, [], 0, 0) ⟨Nat.zero_le _, rfl, Nat.zero_le _, Nat.le_refl _, by rw [s1]; exact Nat.le_refl _⟩ (WeakS.refl _) ?_
    rintro ⟨i, D', out, kd, st⟩ ⟨i1, i2, i3, i4, i5⟩ Q1 q1n q1e -
    refine ExZ.evH (keep := msk 95 [0, 13, 14, 17, 19, 61, 62, 63]) (extAm_sound D') (tM5 D' b i out.length kd ve st se ru tx L A out nw) ?_
    simp only [holds_bT, holds_rq, holds_leaf, kz_normal, kz_exit, decide_eq_true_eq, decide_eq_false_iff_not, inR, show ∀ x : Nat, x + 0 = x from fun _ => rfl, Int.toNat_natCast, dec2_row]
    refine ⟨fun hlt => ?_, fun hge => ⟨?_⟩⟩
    · have hlt : i < A.length := by omega
      have hm := getD_memI hlt
      have hs := takeD hlt
      have hin := hAt _ hm
      generalize A.getD i default = t at hm hs hin
      have hk := hmk t hin
      have hst : amFold T ru ve L se D (A.take (i + 1)) = amStep T ru ve L se (D', out) t := by rw [hs, amFold_snoc, ← i2]
      have hFit : ∀ kd, Fits D' ⟨kd, ru, ve, L, t, se, ⟨#[]⟩⟩ := fun kd => by
        refine ⟨?_, ?_, ?_, ?_, ?_, ?_⟩
        · rw [htx] at hk; exact hk
        · rw [htx] at hgk; exact hgk
        · rw [htx] at t1; exact t1
        · exact t4
        · omega
        · rw [htx] at i5; show (D'.gs (gKey ru ve (textLb L))).1 ≤ _; omega
      have hgr : ∀ kd, ((ladd D' ⟨kd, ru, ve, L, t, se, ⟨#[]⟩⟩).gs (gKey ru ve tx)).1 ≤ S.length + (i + 1) := fun kd => by
        have : ((ladd D' ⟨kd, ru, ve, L, t, se, ⟨#[]⟩⟩).gs (gKey ru ve tx)).1 ≤ (D'.gs (gKey ru ve tx)).1 + 1 := by rw [htx]; exact ladd_gs D' ⟨kd, ru, ve, L, t, se, ⟨#[]⟩⟩
        omega
      have hML : ∀ kd, (ladd D' ⟨kd, ru, ve, L, t, se, ⟨#[]⟩⟩).M.length ≤ D.M.length + (i + 1) := fun kd => by
        unfold ladd
        simp
        omega
      unfold amStep at hst
      rw [← htx, ← hnw] at hst
      refine ⟨⟨by omega, by omega⟩, ⟨trivial, hk⟩, ⟨trivial, okIn_of _ hin⟩, fun he => ⟨by omega, ⟨?_⟩⟩, fun he => ⟨fun hp => ⟨⟨isL_row _ _ _, ⟨trivial, trivial, trivial, trivial, trivial, trivial, trivial⟩, hFit _⟩, ⟨isL_row _ _ _, t4⟩, trivial, Nat.le_refl _, ⟨by omega, by omega, pg_one 1 ve t se ru ⟨#[]⟩ L⟩, by omega, ⟨?_⟩⟩, fun hp => ⟨⟨isL_row _ _ _, ⟨trivial, trivial, trivial, trivial, trivial, trivial, trivial⟩, hFit _⟩, ⟨isL_row _ _ _, t4⟩, trivial, Nat.le_refl _, ⟨by omega, by omega, pg_one 2 ve t se ru ⟨#[]⟩ L⟩, by omega, ⟨?_⟩⟩⟩⟩
      · have he : ((D'.gp (mKey ru ve tx t)).getD false == (nw (.int .i64 t)).getD false) = true := he
        have hst : amFold T ru ve L se D (A.take (i + 1)) = (D', out) := by
          rw [hst]
          revert he
          cases (D'.gp (mKey ru ve tx t)).getD false <;> cases (nw (.int .i64 t)).getD false <;> intro he <;> first | rfl | cases he
        refine q1n (i + 1, D', out, kd, st) _ ⟨by omega, hst.symm, by omega, by omega, by omega⟩ (by simp only; omega) ?_
        exact (weak_proj [5, 6, 7, 8, 0, 1, 2, 3, 4] (msk 95 [0, 13, 14, 17, 19, 61, 62, 63]) (by kernel_rfl) _).trans (weak_of_eq (by kernel_rfl))
      · have he : ((D'.gp (mKey ru ve tx t)).getD false == (nw (.int .i64 t)).getD false) = false := he
        have hp : (D'.gp (mKey ru ve tx t)).getD false = true := hp
        have hst : amFold T ru ve L se D (A.take (i + 1)) = (ladd D' ⟨1, ru, ve, L, t, se, ⟨#[]⟩⟩, out ++ [⟨1, ru, ve, L, t, se, ⟨#[]⟩⟩]) := by
          rw [hst]
          rw [hp] at he ⊢
          revert he
          cases (nw (.int .i64 t)).getD false <;> intro he <;> first | rfl | cases he
        refine q1n (i + 1, ladd D' ⟨1, ru, ve, L, t, se, ⟨#[]⟩⟩, out ++ [⟨1, ru, ve, L, t, se, ⟨#[]⟩⟩], 1, t) _ ⟨by omega, hst.symm, by simp; omega, hML 1, hgr 1⟩ (by simp only; omega) ?_
        show WeakS G _ ((fun D nw kd st out k i => cst 95 [(0, .c (.ptr 4 0)), (13, .c (.ptr 5 0)), (14, .c (.mp 6)), (17, .c (.ptr 7 0)), (19, .c (.sl 8 7 0 k)), (61, listV encI 1 A), (62, iV (A.length : Nat)), (63, iV (i : Nat))] (ldH D [.pin 0 b, .cells 31 [.p (.i .i64 kd), .p (.s ru), .p (.i .i64 ve), .p (listP enc2 2 L), .p (.i .i64 st), .p (.i .i64 se), .p (.s ⟨#[]⟩)], .mapb (okK Try.prog 3) nw, .cells 79 [.p (.s ru), .p (.i .i64 ve), .p (.s tx)], .row 31 7 k (rowC encPg out)])) (ladd D' ⟨1, ru, ve, L, t, se, ⟨#[]⟩⟩) nw 1 t (out ++ [⟨1, ru, ve, L, t, se, ⟨#[]⟩⟩]) (out ++ [(⟨1, ru, ve, L, t, se, ⟨#[]⟩⟩ : Pg)]).length (i + 1))
        rw [show (out ++ [(⟨1, ru, ve, L, t, se, ⟨#[]⟩⟩ : Pg)]).length = out.length + 1 by simp]
        refine (weak_proj [5, 6, 7, 8, 0, 1, 2, 3, 4] (msk 95 [0, 13, 14, 17, 19, 61, 62, 63]) (by kernel_rfl) _).trans ((weak_rows (id := 8) (ty := 31) (sz := 7) (n := out.length + 1) (f := fun e o => renC [5, 6, 7, 8, 0, 1, 2, 3, 4] (renC [4, 5, 6, 7, 15, 0, 11, 12, 13] (appF out.length (rowC encPg out) (fun e o => nth C.top [C.p (.i .i64 1), C.p (.s ru), C.p (.i .i64 ve), C.p (listP enc2 2 L), C.p (.i .i64 t), C.p (.i .i64 se), C.p (.s ⟨#[]⟩)] ((e + 0) * 7 + o)) e o))) (f' := rowC encPg (out ++ [⟨1, ru, ve, L, t, se, ⟨#[]⟩⟩])) (by kernel_rfl) (fun e o he ho β R w ad u hu => ?_)).trans (weak_of_eq (by kernel_rfl)))
        rw [app1' (enc := encPg) (x := ⟨1, ru, ve, L, t, se, ⟨#[]⟩⟩) rfl (pg_at 1 ve t se ru ⟨#[]⟩ L) he ho] at hu
        exact hu
      · have he : ((D'.gp (mKey ru ve tx t)).getD false == (nw (.int .i64 t)).getD false) = false := he
        have hp : (D'.gp (mKey ru ve tx t)).getD false = false := hp
        have hst : amFold T ru ve L se D (A.take (i + 1)) = (ladd D' ⟨2, ru, ve, L, t, se, ⟨#[]⟩⟩, out ++ [⟨2, ru, ve, L, t, se, ⟨#[]⟩⟩]) := by
          rw [hst]
          rw [hp] at he ⊢
          revert he
          cases (nw (.int .i64 t)).getD false <;> intro he <;> first | rfl | cases he
        refine q1n (i + 1, ladd D' ⟨2, ru, ve, L, t, se, ⟨#[]⟩⟩, out ++ [⟨2, ru, ve, L, t, se, ⟨#[]⟩⟩], 2, t) _ ⟨by omega, hst.symm, by simp; omega, hML 2, hgr 2⟩ (by simp only; omega) ?_
        show WeakS G _ ((fun D nw kd st out k i => cst 95 [(0, .c (.ptr 4 0)), (13, .c (.ptr 5 0)), (14, .c (.mp 6)), (17, .c (.ptr 7 0)), (19, .c (.sl 8 7 0 k)), (61, listV encI 1 A), (62, iV (A.length : Nat)), (63, iV (i : Nat))] (ldH D [.pin 0 b, .cells 31 [.p (.i .i64 kd), .p (.s ru), .p (.i .i64 ve), .p (listP enc2 2 L), .p (.i .i64 st), .p (.i .i64 se), .p (.s ⟨#[]⟩)], .mapb (okK Try.prog 3) nw, .cells 79 [.p (.s ru), .p (.i .i64 ve), .p (.s tx)], .row 31 7 k (rowC encPg out)])) (ladd D' ⟨2, ru, ve, L, t, se, ⟨#[]⟩⟩) nw 2 t (out ++ [⟨2, ru, ve, L, t, se, ⟨#[]⟩⟩]) (out ++ [(⟨2, ru, ve, L, t, se, ⟨#[]⟩⟩ : Pg)]).length (i + 1))
        rw [show (out ++ [(⟨2, ru, ve, L, t, se, ⟨#[]⟩⟩ : Pg)]).length = out.length + 1 by simp]
        refine (weak_proj [5, 6, 7, 8, 0, 1, 2, 3, 4] (msk 95 [0, 13, 14, 17, 19, 61, 62, 63]) (by kernel_rfl) _).trans ((weak_rows (id := 8) (ty := 31) (sz := 7) (n := out.length + 1) (f := fun e o => renC [5, 6, 7, 8, 0, 1, 2, 3, 4] (renC [4, 5, 6, 7, 15, 0, 11, 12, 13] (appF out.length (rowC encPg out) (fun e o => nth C.top [C.p (.i .i64 2), C.p (.s ru), C.p (.i .i64 ve), C.p (listP enc2 2 L), C.p (.i .i64 t), C.p (.i .i64 se), C.p (.s ⟨#[]⟩)] ((e + 0) * 7 + o)) e o))) (f' := rowC encPg (out ++ [⟨2, ru, ve, L, t, se, ⟨#[]⟩⟩])) (by kernel_rfl) (fun e o he ho β R w ad u hu => ?_)).trans (weak_of_eq (by kernel_rfl)))
        rw [app1' (enc := encPg) (x := ⟨2, ru, ve, L, t, se, ⟨#[]⟩⟩) rfl (pg_at 2 ve t se ru ⟨#[]⟩ L) he ho] at hu
        exact hu
    · obtain rfl : i = A.length := by omega
      rw [List.take_length] at i2
      refine q1e _ ?_
      rw [← i2]
      refine (ExZ.pre ((weak_frz (j := 19) (id := 4) (ty := 31) (sz := 7) (n := out.length) (off := 0) (len := out.length) (f := fun e o => renC [4, 5, 6, 7, 8, 0, 1, 2, 3] (rowC encPg out e o)) (by kernel_rfl) (by kernel_rfl) (by omega) (fun _ _ _ _ => rfl)).trans ((weak_gc (msk 95 [0, 19]) _).trans (weak_of_eq (st' := cst 95 [(0, .c (.ptr 0 0)), (19, listV encPg 7 out)] (ldE D' b)) (by kernel_rfl)))) ?_)
      refine ExZ.evH (keep := []) ext0_sound (tree := .done .ret (cst 2 [(0, .c (.ptr 0 0)), (1, listV encPg 7 out)] (ldE D' b))) (by kernel_rfl) ?_
      exact weak_of_eq (by kernel_rfl)
set_option maxRecDepth 100000 in
theorem amend_fn (D : Ld) (ru : ByteArray) (ve : Int) (L : List (ByteArray × ByteArray)) (S T : List Int) (se : Int) (hS : StG D (gKey ru ve (textLb L)) S) (hT : pgOK (⟨0, ru, ve, L, 0, se, ⟨#[]⟩⟩ : Pg) = true → (textLb L).size ≤ 1000000 ∧ ru.size ≤ 1000000 ∧ inR .i64 ve ∧ L.length ≤ 1000000 ∧ (∀ t ∈ S, inR .i64 t) ∧ S.length + T.length ≤ 100000 ∧ D.M.length ≤ 100000) (hTl : T.length ≤ 1000000) (rest : List AO) : FnS Try.prog G 17 [.c (.ptr 0 0), .c (.p (.s ru)), iV ve, listV enc2 2 L, listV encI 1 T, iV se] (ldH D rest) fun x h' => x = (lamend D ru ve L S T se).1 ∧ h' = outH [0, 1, 2, 3] [0] [1] (ldH D rest) (ldE (lamend D ru ve L S T se).2 0) := by
  refine fun β R w vs ha hh => (led_fn Try.func17 (by kernel_rfl) (args := [.c (.p (.s ru)), iV ve, listV enc2 2 L, listV encI 1 T, iV se]) (vs := [(lamend D ru ve L S T se).1]) (D' := (lamend D ru ve L S T se).2) (fun b => amend_main D ru ve L S T se hS hT hTl rest b _) β R w vs ha hh).mono ?_
  rintro e w' ⟨u, β', R', x, h', rfl, ⟨hx, hh'⟩, hr⟩
  refine ⟨u, β', R', x, h', rfl, ⟨hx.trans ?_, hh'⟩, hr⟩
  unfold lamend
  cases pgOK (⟨0, ru, ve, L, 0, se, ⟨#[]⟩⟩ : Pg) <;> cases T.all tickZ <;> rfl
end
end Go.AE
