/- AE, part 32: slices.SortStableFunc at []int with a closure that reads a boxed list. -/
import Derived.Test.YtkpladkcppeciaaAe30
import Derived.Test.YtkpladkcppeciaaIns
import Derived.Test.YtkpladkcppeciaaGp
namespace Go.AE
open Go.Proofs Go.Proofs.Ytkpladkcppeciaa Gp
set_option linter.unusedVariables false
set_option linter.unusedSimpArgs false
open Go.RowKit Go.Sort Go.Lib
section
variable {P : Program} {G : Nat → Option Obj} {β : Bt} {R : Nat → Prop} {w w' : World} {h : List AO}
/-- A block is written, and the heap grows. -/
theorem hs_writeG (hh : HS G β R w h) {id b o : Nat} (hid : β id = some (b, o)) (hl : (nth .gone h id).live = true) {x : AO} (hos : w'.os = w.os) (htp : w'.tape = w.tape) (hou : w'.output = w.output)
    (hsz : w.heap.size ≤ w'.heap.size) (hw : ∀ j, j < w.heap.size → j ≠ b → w'.heap[j]? = w.heap[j]?) (hx : Keeps β R w β R w' → KeepQ β w β w' → OR β R w' x b o) :
    HS G β R w' (upd x h id) ∧ Gr β R w β R w' := by
  have hnb : ∀ b', R b' → b' ≠ b := fun b' hb e => hh.sep id b o hid hl (e ▸ hb)
  have gr : Gr β R w β R w' := {
    os := hos, tape := htp, output := hou, size := hsz
    rs := fun b' hb => hw b' (hh.rlt b' hb) (hnb b' hb)
    fr := fun b' hlt hn => hw b' hlt (fun e => hn (.inl ⟨id, o, e ▸ hid⟩))
    ex := fun _ hi => .inl hi
    rx := fun b' hb => .inl hb
    bm := fun _ _ hi => hi
    rm := fun _ hb => hb }
  have hidl := hh.dom id _ hid
  have hqb : ∀ b' ad, β.q b' = some ad → b' ≠ b := fun b' ad hb e => by
    have := (hh.ql b' ad hb).2.2 id o (e ▸ hid)
    rw [hl] at this; cases this
  have kq : KeepQ β w β w' := fun b' ad hb => ⟨hb, hw b' (hh.ql b' ad hb).1 (hqb b' ad hb)⟩
  refine ⟨⟨?_, ?_, ?_, ?_, ?_, ?_, ?_, ?_⟩, gr⟩
  · intro i y hi; rw [upd_eq, List.length_set]; exact hh.dom i y hi
  · intro i j b1 o1 o2 hi hj li lj
    have li' : (nth .gone h i).live = true := by
      by_cases e : id = i
      · subst e; exact hl
      · rw [nth_upd_ne _ _ _ e] at li; exact li
    have lj' : (nth .gone h j).live = true := by
      by_cases e : id = j
      · subst e; exact hl
      · rw [nth_upd_ne _ _ _ e] at lj; exact lj
    exact hh.inj i j b1 o1 o2 hi hj li' lj'
  · intro i b1 o1 hi li
    have li' : (nth .gone h i).live = true := by
      by_cases e : id = i
      · subst e; exact hl
      · rw [nth_upd_ne _ _ _ e] at li; exact li
    exact hh.sep i b1 o1 hi li'
  · intro i b1 o1 hi; exact Nat.lt_of_lt_of_le (hh.lt i b1 o1 hi) hsz
  · intro b1 hb; exact Nat.lt_of_lt_of_le (hh.rlt b1 hb) hsz
  · intro i b1 o1 hi
    by_cases e : id = i
    · subst e
      rw [nth_upd_eq _ _ _ hidl]
      rw [hid] at hi; injection hi with hi; injection hi with h1 h2; subst h1; subst h2
      exact hx gr.keeps kq
    · rw [nth_upd_ne _ _ _ e]
      by_cases eb : b1 = b
      · subst eb
        cases hn : (nth .gone h i).live with
        | false =>
          have : nth .gone h i = .gone := by cases hq : nth .gone h i <;> simp_all [AO.live]
          rw [this]; exact trivial
        | true => exact absurd (hh.inj id i b1 o o1 hid hi hl hn) e
      · exact OR.keep gr.keeps (kq.at b1) (hw b1 (hh.lt i b1 o1 hi) eb) (hh.obj i b1 o1 hi)
  · intro b1 ob hb
    obtain ⟨h1, h2⟩ := hh.gl b1 ob hb
    exact ⟨h1, (hw b1 (hh.rlt b1 h1) (hnb b1 h1)).trans h2⟩
  · intro b1 ad hb
    obtain ⟨h1, h2, h3⟩ := hh.ql b1 ad hb
    refine ⟨Nat.lt_of_lt_of_le h1 hsz, h2, fun i o1 hi => ?_⟩
    by_cases e : id = i
    · subst e
      rw [hid] at hi; injection hi with hi; injection hi with q1 q2
      exact absurd q1.symm (hqb b1 ad hb)
    · rw [nth_upd_ne _ _ _ e]; exact h3 i o1 hi
/-- A call with what may be read now, as a call of the kit. -/
theorem call_mut {f : FuncId} {args args' : List V} {v : V} (hl : VLesH G h args args') (hf : FnS P G f args' [] fun x h' => x = v ∧ h' = []) (hh : HS G β R w h) {vs : Array Value} (ha : All2 (VR β R w) args vs.toList) :
    Calls P f vs w fun e w' => ∃ u, e = .returned u ∧ (∃ β' R', VR β' R' w' v u) ∧ Below w.heap.size w w' := by
  refine (hf Bt.nil (fun b => b < w.heap.size) w vs (hl.all hh ha) ⟨(fun _ _ h => by cases h), (fun _ _ _ _ _ h => by cases h), (fun _ _ _ h => by cases h), (fun _ _ _ h => by cases h), (fun _ h => h), (fun _ _ _ h => by cases h), fun b o hb => ⟨hh.rlt b (hh.gl b o hb).1, (hh.gl b o hb).2⟩, (fun _ _ h => by cases h)⟩).mono ?_
  rintro e w' ⟨u, β1, R1, x, h1, rfl, ⟨rfl, _⟩, h2, _, h3, _⟩
  exact ⟨u, rfl, ⟨_, _, h2⟩, h3.os, h3.tape, h3.output, h3.size, fun b hb => h3.rs b hb⟩
/-- Values that speak of no block that may be written. -/
def Clo (v : V) : Prop := ∀ (β β' : Bt) (R : Nat → Prop) (w : World) (u : Value), VR β R w v u → VR β' R w v u
theorem clo_p {x : PV} : Clo (.c (.p x)) := fun _ _ _ _ _ h => h
theorem clo_lp {sz n : Nat} {f : Nat → Nat → PV} {e o : Nat} : Clo (.c (.lp sz n f e o)) := fun _ _ _ _ _ h => h
theorem clo_all {β β' : Bt} {R : Nat → Prop} {w : World} : ∀ {cs : List V} {us : List Value}, (∀ v ∈ cs, Clo v) → All2 (VR β R w) cs us → All2 (VR β' R w) cs us
  | [], [], _, _ => trivial
  | [], _ :: _, _, h => h.elim
  | _ :: _, [], _, h => h.elim
  | c :: _, _ :: _, hc, h => ⟨hc c (List.mem_cons_self ..) _ _ _ _ _ h.1, clo_all (fun v hv => hc v (List.mem_cons_of_mem _ hv)) h.2⟩
/-- A function whose arguments speak of no block that may be written (pointers to frozen cells among them). -/
theorem fn_SC {f : FuncId} {fn : Func} (hf : P.funcs[f]? = some fn) (hok : okF P fn = true) {args : List V} (hp : ∀ v ∈ args, Clo v) {v : V} (h : ExS P G (resOf P fn) v (pcs P fn) (st0 fn args) fun _ _ => False) (h0 : List AO) :
    FnS P G f args h0 fun x h' => x = v ∧ h' = h0 := by
  unfold okF at hok
  simp only [Bool.and_eq_true, Option.isSome_iff_exists] at hok
  obtain ⟨⟨c, hc⟩, rs, hr⟩ := hok
  have e1 : codeOf P fn = c := by unfold codeOf; rw [hc]; rfl
  have e2 : resOf P fn = rs := by unfold resOf; rw [hr]; rfl
  have h := ExS.code h
  rw [e1, e2] at h
  refine FnS.le ?_
  simp only [Option.bind_eq_some_iff] at hc
  obtain ⟨c0, hb, hc⟩ := hc
  intro β R w vs ha hh
  refine calls_of_wp hf hb (Code.wp_mono ?_ (h c0 hc Bt.nil R { tmps := vs ++ Array.replicate (fn.ntmps - vs.size) undef, defers := [] } w ?_))
  · intro e a' w' hq
    cases e with
    | ret =>
      obtain ⟨β', R', st', q1, q2, q3, q4⟩ := hq
      have q1 : (finT rs .ret st').holds P G fun _ s => ∃ x, s.t = [x] ∧ VLe x v := q1
      have q1 : (resL st' rs fun vs => .done .ret ⟨[oneV vs], []⟩).holds P G fun _ s => ∃ x, s.t = [x] ∧ VLe x v := q1
      obtain ⟨us, vs', h1, h2, h3, x, h4, h5⟩ := resL_sound (β' := β) q2 fn.results.toList rs hr q1
      simp only [List.cons.injEq, and_true] at h4
      subst h4
      obtain ⟨c1, c2⟩ := hs_caller hh q3 q4 q2.hs
      exact ⟨q2.df, _, results_eq fn a'.tmps h1, _, β, frz β' R', oneV vs', h0, rfl, ⟨h5, rfl⟩, oneV_sound h2, c1, c2, fun _ _ => rfl⟩
    | normal => obtain ⟨_, _, _, q1, _⟩ := hq; exact q1.elim
    | exit id => obtain ⟨_, _, _, q1, _⟩ := hq; exact q1.elim
    | _ => exact hq.elim
  · refine ⟨rfl, ?_, ?_⟩
    · have hl : args.length = vs.size := by simpa using ha.length
      show All2 _ (args ++ List.replicate (fn.ntmps - args.length) (.t [])) _
      rw [Array.toList_append, Array.toList_replicate, hl]
      exact (clo_all hp ha).append (undefs_all _)
    · exact ⟨(fun i x hi => by cases hi), (fun i j b o o' hi => by cases hi), (fun i b o hi => by cases hi), (fun i b o hi => by cases hi), hh.rlt, (fun i b o hi => by cases hi), hh.gl, fun b ad hb => by cases hb⟩
/-- A box that holds a list, as a list of one element that is a list. -/
theorem vle_box {b id : Nat} {ty ty2 : TypeId} {sz m : Nat} {f : Nat → Nat → C} {F : Nat → Nat → PV} (hb : nth .gone h b = .cells ty [.sl id sz 0 m]) (hid : nth .gone h id = .row ty2 sz m f) (hf : ∀ e o, e < m → o < sz → f e o = .p (F e o)) :
    VLeH G h (.c (.ptr b 0)) (.c (.lp 1 1 (fun _ _ => .l sz m F) 0 0)) := by
  intro β R w u hh hu
  obtain ⟨bb, o, h1, rfl⟩ := hu
  have hob := hh.obj b bb o h1
  rw [hb] at hob
  obtain ⟨cs, h2, h3⟩ := hob
  obtain ⟨β', R', k1, k2, k3, k4⟩ := frz_core hh hid (fun e o he ho => by rw [hf e o he ho]; rfl)
  refine ⟨⟨bb, 0, none⟩, rfl, by omega, hh.lt b bb o h1, fun e o he ho => ?_⟩
  obtain rfl : e = 0 := by omega
  obtain rfl : o = 0 := by omega
  cases hcs : cs.toList with
  | nil => rw [hcs] at h3; exact h3.elim
  | cons x xs =>
    rw [hcs] at h3
    have hx : cs[0]? = some x := by rw [← Array.getElem?_toList, hcs]; rfl
    refine ⟨x, ?_, ?_⟩
    · show World.cell? w ⟨bb, 0, none⟩ = _
      unfold World.cell?
      rw [h2]
      exact hx
    · have hp := PR.keep (R' := allR w) k1.rlt (fun _ _ => rfl) _ (k4 0 m x (by omega) h3.1)
      obtain ⟨A, c, e1, e2, e3, e4⟩ := hp
      refine ⟨A, c, e1, e2, e3, fun hn => ?_⟩
      obtain ⟨ad, g1, g2, g3⟩ := e4 hn
      refine ⟨ad, g1, g2, fun e o he ho => ?_⟩
      obtain ⟨u, q1, q2⟩ := g3 e o he ho
      refine ⟨u, q1, ?_⟩
      have : unP (f (e + 0) o) = F e o := by rw [Nat.add_zero, hf e o he ho]; rfl
      have q2 : PR (allR w) w (unP (f (e + 0) o)) u := q2
      rw [this] at q2
      exact q2
end
section
variable {G : Nat → Option Obj} {β : Bt} {R : Nat → Prop} {w w' : World} {h : List AO}
/-- The sorted list. -/
def sortZ (cf : Int → Int → Int) (L : List Int) : List Int := (insertionSort (ltC cf) L.toArray 0 L.length).toList
theorem size_insInner (lt : Int → Int → Bool) : ∀ (j : Nat) (d : Array Int), (insInner lt 0 j d).size = d.size
  | 0, d => rfl
  | j + 1, d => by
    rw [insInner]
    split
    · rw [size_insInner lt j]; exact size_swpB d _ _
    · rfl
theorem size_insOuter (lt : Int → Int → Bool) (n : Nat) : ∀ (m i : Nat) (d : Array Int), m = n - i → (insOuter lt 0 n i d).size = d.size
  | 0, i, d, hm => by rw [insOuter, if_neg (by omega)]
  | m + 1, i, d, hm => by
    rw [insOuter, if_pos (by omega), size_insOuter lt n m (i + 1) _ (by omega), size_insInner]
theorem sortZ_length (cf : Int → Int → Int) (L : List Int) : (sortZ cf L).length = L.length := by
  unfold sortZ
  rw [Array.length_toList]
  unfold insertionSort
  rw [size_insOuter _ _ _ _ _ rfl]
  simp
theorem row_sb {blk N n : Nat} {L : List Int} {cs : Array Value} (hn : L.length = n) (h1 : w.heap[blk]? = some (.cells cs 3 (0, 0))) (h2 : cs.size = N) (h3 : n * 1 ≤ N)
    (h4 : ∀ e k, e < n → k < 1 → ∃ u, cs[e * 1 + k]? = some u ∧ CRo β R w (blk, e * 1 + k) (rowC encI L e k) u) (hlt : blk < w.heap.size) : SB w blk 0 N L.toArray w := by
  refine ⟨rfl, rfl, rfl, Nat.le_refl _, hlt, fun _ _ _ => rfl, cs, h1, h2, by simpa [hn] using h3, fun i hi => ?_⟩
  have hi : i < n := by simpa [hn] using hi
  obtain ⟨u, h5, h6⟩ := h4 i 0 hi (by omega)
  have h6 : u = .int .i64 (L.getD i default) := h6
  rw [Nat.mul_one, Nat.add_zero] at h5
  rw [Nat.zero_add, h5, h6]
  simp [List.getD_eq_getElem?_getD]
/-- A row whose cells read the same. -/
theorem hs_same (hh : HS G β R w h) {id : Nat} {ty : TypeId} {sz n : Nat} {f f' : Nat → Nat → C} (hid : nth .gone h id = .row ty sz n f) (hf : ∀ e o, e < n → o < sz → f e o = f' e o) : HS G β R w (upd (.row ty sz n f') h id) := by
  have hlid := nth_gone hid (by simp)
  have hl : ∀ i, (nth .gone (upd (.row ty sz n f') h id) i).live = (nth .gone h i).live := fun i => by
    by_cases e : id = i
    · subst e; rw [nth_upd_eq _ _ _ hlid, hid]; rfl
    · rw [nth_upd_ne _ _ _ e]
  refine ⟨?_, ?_, ?_, hh.lt, hh.rlt, ?_, hh.gl, ?_⟩
  · intro i y hi; rw [upd_eq, List.length_set]; exact hh.dom i y hi
  · intro i j b o1 o2 hi hj li lj
    rw [hl] at li lj
    exact hh.inj i j b o1 o2 hi hj li lj
  · intro i b o hi li
    rw [hl] at li
    exact hh.sep i b o hi li
  · intro i b o hi
    by_cases e : id = i
    · subst e
      rw [nth_upd_eq _ _ _ hlid]
      have := hh.obj id b o hi
      rw [hid] at this
      obtain ⟨cs, h1, h2, h3, h4⟩ := this
      exact ⟨cs, h1, h2, h3, fun e k he hk => by rw [← hf e k he hk]; exact h4 e k he hk⟩
    · rw [nth_upd_ne _ _ _ e]; exact hh.obj i b o hi
  · intro b ad hb
    obtain ⟨h1, h2, h3⟩ := hh.ql b ad hb
    exact ⟨h1, h2, fun i o hi => by rw [hl]; exact h3 i o hi⟩
theorem sort_fn {f : FuncId} {id b : Nat} {L : List Int} {g : Nat → Nat → C} {ok : Int → Prop} {cf : Int → Int → Int} (hid : nth .gone h id = .row 3 1 L.length g) (hg : ∀ e o, e < L.length → o < 1 → g e o = rowC encI L e o) (hn : L.length < 20) (hok : ∀ x ∈ L, ok x)
    (eg : ∀ args w, (callFunc f args).run Try.prog w = .ok (.enter f args) w)
    (hf : ∀ (L' : List Int) (β : Bt) (R : Nat → Prop) (w : World) (x y : Int) (u : Value), HS G β R w (upd (.row 3 1 L'.length (rowC encI L')) h id) → L'.length = L.length → ok x → ok y → BR β R w (.ptr b 0) u → Calls Try.prog f #[.int .i64 x, .int .i64 y, u] w fun e w' => e = .returned (.int .i64 (cf x y)) ∧ Below w.heap.size w w') :
    FnS Try.prog G 19 [.c (.sl id 1 0 L.length), .c (.fn (.func f) [] [.ptr b 0])] h fun x h' => x = .t [] ∧ h' = upd (.row 3 1 L.length (rowC encI (sortZ cf L))) h id := by
  intro β R w vs ha hh
  have hlive : (nth .gone h id).live = true := by rw [hid]; rfl
  have hlid := nth_gone hid (by simp)
  obtain ⟨u1, u2, hvs⟩ : ∃ u1 u2, vs = #[u1, u2] := by
    have hl := ha.length
    have : vs.size = 2 := by simpa using hl.symm
    exact ⟨vs[0], vs[1], by apply Array.ext (by simpa using this); intro i h1 h2; match i, h1, h2 with | 0, _, _ => rfl | 1, _, _ => rfl⟩
  subst hvs
  obtain ⟨⟨A, c, rfl, h1, h2, h3⟩, h4, _⟩ := ha
  obtain ⟨us, vs, rfl, h5, h6⟩ := h4
  have hus : us = #[] := by
    cases hq : us.toList with
    | nil => apply Array.toList_inj.mp; simp [hq]
    | cons x xs => rw [hq] at h5; exact h5.elim
  subst hus
  obtain ⟨u, hvs⟩ : ∃ u, vs = #[u] := by
    have : vs.size = 1 := by simpa using h6.length.symm
    exact ⟨vs[0], by apply Array.ext (by simpa using this); intro i h1 h2; match i, h1, h2 with | 0, _, _ => rfl⟩
  subst hvs
  have hbox : BR β R w (.ptr b 0) u := h6.1
  rcases h3 with ⟨h3, h7, h8⟩ | ⟨blk, N, h7, h8, h9⟩
  · have hA : A = none := by
      rcases h3 with h3 | h3
      · exact h3
      · omega
    subst hA
    have hL : L = [] := List.length_eq_zero_iff.mp h7
    subst hL
    refine (sort_any none 0 c _ w (fun w' => w' = w) (by omega) (ins_none none c _ w)).mono ?_
    rintro e w' ⟨rfl, rfl⟩
    refine ⟨_, β, R, .t [], _, rfl, ⟨rfl, rfl⟩, ⟨#[], rfl, trivial⟩, ?_, Gr.refl _ _ _, fun _ _ => rfl⟩
    exact hs_same hh hid (fun e o he ho => absurd he (Nat.not_lt_zero _))
  · have hob := hh.obj id blk N h7
    rw [hid] at hob
    obtain ⟨cs, g1, g2, g3, g4⟩ := hob
    have hlt := hh.lt id blk N h7
    have hS : SB w blk 0 N L.toArray w := row_sb (β := β) (R := R) rfl g1 g2 g3 (fun e k he hk => by rw [← hg e k he hk]; exact g4 e k he hk) hlt
    subst h8
    have hsb : ∀ (W : World) (dk : Array Int), dk.size = L.length → SB w blk 0 N dk W → HS G β R W (upd (.row 3 1 L.length (rowC encI dk.toList)) h id) ∧ Gr β R w β R W := by
      intro W dk hs hS
      refine hs_writeG hh h7 hlive hS.os hS.tape hS.output hS.size hS.block fun _ _ => ?_
      obtain ⟨cs, q1, q2, q3, q4⟩ := hS.row
      refine ⟨cs, q1, q2, by omega, fun e k he hk => ?_⟩
      obtain rfl : k = 0 := by omega
      have := q4 e (by omega)
      rw [Nat.zero_add] at this
      refine ⟨_, by rw [Nat.mul_one, Nat.add_zero]; exact this, ?_⟩
      show PR R W (rowP encI dk.toList e 0) _
      show _ = _
      have he' : e < dk.size := by omega
      simp [List.getD_eq_getElem?_getD, he']
    have hcmp : CmpB f #[u] cf ok blk 0 N L.toArray.size w := by
      intro W dk hs hS x y hx hy
      have hs' : dk.size = L.length := by simpa using hs
      obtain ⟨c1, c2⟩ := hsb W dk hs' hS
      have e1 : dk.toList.length = L.length := by simpa using hs'
      refine hf dk.toList β R W x y u (by rw [e1]; exact c1) e1 hx hy (BR.keep c2.keeps hbox)
    have hi := ins_any cf ok f #[u] blk 0 N c L.length L.toArray w eg hcmp hS (fun p hp => by
      have hp' : p < L.length := by simpa using hp
      have : L.toArray[p]! = L[p] := by simp [hp']
      rw [this]; exact hok _ (List.getElem_mem _)) (by simp) (by simp; omega)
    have hi : Calls Try.prog 38 #[.slice (some ⟨blk, 0 * 1, none⟩) L.length c, .int .i64 0, .int .i64 L.length, .func (.func f) #[] #[u]] w fun e w' => e = .returned (.tuple #[]) ∧ SB w blk 0 N (insertionSort (ltC cf) L.toArray 0 L.length) w' := by simpa using hi
    refine (sort_any _ L.length c _ w _ hn hi).mono ?_
    rintro e w' ⟨rfl, hq⟩
    obtain ⟨c1, c2⟩ := hsb w' _ (by
      have := sortZ_length cf L
      unfold sortZ at this
      simpa using this) hq
    exact ⟨_, β, R, .t [], _, rfl, ⟨rfl, rfl⟩, ⟨#[], rfl, trivial⟩, c1, c2, fun _ _ => rfl⟩
end
end Go.AE
