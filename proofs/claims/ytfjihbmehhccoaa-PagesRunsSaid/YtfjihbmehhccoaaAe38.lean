/- AE, part 38: the rule for `m[k] = append(m[k], x..)`. -/
import Derived.Test.YtfjihbmehhccoaaAe37
namespace Go.AE
set_option linter.unusedVariables false
set_option linter.unusedSimpArgs false
open Go.RowKit

section
variable {P : Program} {G : Nat → Option Obj}
/-- The parts of the region. -/
structure MA where
  n : Nat
  tm : TypeId
  ts : TypeId
  r : TypeId × TypeId × Nat
  bytes : Nat
  z : List PV
  sm : Nat
  sk : Nat
  sy : Nat
  dE : Nat
  d0 : Nat
  dA : Nat
  d1 : Nat
def MA.ds (x : MA) : List Nat := [x.dE, x.d0, x.dA, x.d1]
structure MAOK (P : Program) (ops : Array Oper) (x : MA) : Prop where
  size : ops.size = x.n + 5
  oE : ∃ o, ops[x.n]? = some o ∧ o.op = .mapEntry x.tm (.tmp x.sm) (.tmp x.sk) ∧ o.dst = some x.dE ∧ o.guard = none
  o0 : ∃ o, ops[x.n + 1]? = some o ∧ o.op = .extract (.tmp x.dE) 0 ∧ o.dst = some x.d0 ∧ o.guard = none
  oA : ∃ o, ops[x.n + 2]? = some o ∧ o.op = .call { callee := .builtin .append, args := #[.tmp x.d0, .tmp x.sy], argTypes := #[x.ts, x.ts] } ∧ o.dst = some x.dA ∧ o.guard = none
  o1 : ∃ o, ops[x.n + 3]? = some o ∧ o.op = .extract (.tmp x.dE) 1 ∧ o.dst = some x.d1 ∧ o.guard = none
  oS : ∃ o, ops[x.n + 4]? = some o ∧ o.op = .entryStore x.tm (.tmp x.sm) (.tmp x.d1) (.tmp x.dA) ∧ o.dst = none ∧ o.guard = none
  back : ∀ i o, ops[i]? = some o → ∀ e ∈ o.after, Region.binds .any e = true → e.on < i
  w10 : Region.waitsFor .any ops (x.n + 1) x.n = true
  w21 : Region.waitsFor .any ops (x.n + 2) (x.n + 1) = true
  w30 : Region.waitsFor .any ops (x.n + 3) x.n = true
  w42 : Region.waitsFor .any ops (x.n + 4) (x.n + 2) = true
  w43 : Region.waitsFor .any ops (x.n + 4) (x.n + 3) = true
  dE0 : x.dE ≠ x.d0
  dEA : x.dE ≠ x.dA
  dE1 : x.dE ≠ x.d1
  d0A : x.d0 ≠ x.dA
  d01 : x.d0 ≠ x.d1
  dA1 : x.dA ≠ x.d1
  smN : x.sm ∉ x.ds
  skN : x.sk ∉ x.ds
  syN : x.sy ∉ x.ds
  hm : maplO P x.tm = some x.r
  ht : P.underlying x.ts = some (.slice x.r.2.1)
  hsz : sizeO P x.r.2.1 = some x.r.2.2
  hby : bytesO P x.r.2.1 = some x.bytes
  hz : zeroO P x.r.2.1 = some x.z
/-- What the region does. -/
noncomputable def maT (P : Program) (x : MA) (st : St) (k : St → Tr) : Tr :=
  chk (allL (fun d => Nat.blt d (lenL st.t)) x.ds) <| match nth (.c .top) st.t x.sm with
  | .c (.mp id) => match nth .gone st.h id with
    | .mapl ok ty sz g none => match keyV (nth (.c .top) st.t x.sk) with
      | some kv => chk (Nat.beq ty x.r.2.1 && Nat.beq sz x.r.2.2 && Nat.blt 0 sz && Nat.beq (lenL x.z) sz) (.rq (ok = okK P x.r.1 ∧ ok kv = true) (srcA st sz (.t x.sy) fun m gy => .rq (((g kv).1 + m) * x.bytes ≤ 140737488355328 ∧ (g kv).1 + m ≤ 140737488355328 ∧ ∀ e o, e < m → o < sz → isP (gy e o) = true ∧ oneC (gy e o) = true)
        (k ⟨topsAt x.ds st.t, snoc .gone (snoc .gone (upd (.mapl ok ty sz (setG g kv ((g kv).1 + m) fun e o => if e < (g kv).1 then (g kv).2 e o else unP (gy (e - (g kv).1) o)) none) st.h id))⟩)))
      | none => .fail
    | _ => .fail
  | _ => .fail
/-- The open map's memory, before and behind the append. -/
def hOpen (ok : Value → Bool) (ty : TypeId) (sz : Nat) (g : Value → Nat × (Nat → Nat → PV)) (kv : Value) (id : Nat) (h : List AO) : List AO :=
  snoc (.row ty sz (g kv).1 fun e o => .p ((g kv).2 e o)) (upd (.mapl ok ty sz g (some (kv, .sl h.length sz 0 (g kv).1))) h id)
def hApp (ok : Value → Bool) (ty : TypeId) (sz : Nat) (g : Value → Nat × (Nat → Nat → PV)) (kv : Value) (id : Nat) (h : List AO) (m : Nat) (gy : Nat → Nat → C) : List AO :=
  snoc (.row ty sz ((g kv).1 + m) (appF (g kv).1 (fun e o => .p ((g kv).2 e o)) gy)) (upd .gone (hOpen ok ty sz g kv id h) h.length)
structure MS (G : Nat → Option Obj) (x : MA) (ok : Value → Bool) (ty : TypeId) (sz : Nat) (g : Value → Nat × (Nat → Nat → PV)) (kv : Value) (id : Nat) (h : List AO) (m : Nat) (gy : Nat → Nat → C) (t : List V) (β0 : Bt) (R0 : Nat → Prop) (w0 : World) (x0 xA x1 : Bool) (a : Act) (w : World) : Prop where
  ex : ∃ (β : Bt) (R : Nat → Prop) (b N : Nat) (v : Value) (s : Nat) (es : Array MapEntry) (clock j : Nat) (e : MapEntry), Sim G β R ⟨topsAt x.ds t, match xA with | true => hApp ok ty sz g kv id h m gy | false => hOpen ok ty sz g kv id h⟩ a w ∧ Fr β0 R0 w0 β R w ∧ (∀ b, R0 b → R b) ∧ β id = some (b, N) ∧
    w.heap[b]? = some (.map es clock) ∧ BornOK es clock ∧ es.toList[j]? = some e ∧ e.key = kv ∧ e.born = s ∧ a.tmps[x.dE]? = some (.tuple #[v, .int .i64 (s : Nat)]) ∧ (x0 = true → a.tmps[x.d0]? = some v) ∧ (x1 = true → a.tmps[x.d1]? = some (.int .i64 (s : Nat))) ∧
    (xA = false → CR β R w (.sl h.length sz 0 (g kv).1) v) ∧ (xA = true → ∃ u, a.tmps[x.dA]? = some u ∧ CR β R w (.sl (h.length + 1) sz 0 ((g kv).1 + m)) u)
variable {x : MA} {ops : Array Oper} {ok : Value → Bool} {ty : TypeId} {sz : Nat} {g : Value → Nat × (Nat → Nat → PV)} {kv : Value} {id : Nat} {h : List AO} {m : Nat} {gy : Nat → Nat → C} {t : List V} {β0 : Bt} {R0 : Nat → Prop} {w0 w : World} {a : Act} {Q : Exit → Act → World → Prop} {K : Act → World → Prop} {x0 xA x1 : Bool}
theorem ms_x0 (hx : MAOK P ops x) (hr : ∀ d ∈ x.ds, d < t.length) (hs : MS G x ok ty sz g kv id h m gy t β0 R0 w0 x0 xA x1 a w) (hK : ∀ a' w', MS G x ok ty sz g kv id h m gy t β0 R0 w0 true xA x1 a' w' → K a' w') : wpOp P ops Q (x.n + 1) K a w := by
  obtain ⟨o, h1, h2, h3, h4⟩ := hx.o0
  obtain ⟨β, R, b, N, v, s, es, clock, j, e, q1, q2, q3, q4, q5, q6, q7, q8, q9, q10, q11, q12, q13, q14⟩ := hs.ex
  have hsz : a.tmps.size = t.length := by have := q1.tm.length; rw [topsAt_length] at this; simpa using this.symm
  unfold wpOp
  simp only [h1]
  rw [show Region.wanted o (yielded ops a.tmps) = true by unfold Region.wanted; rw [h4]]
  simp only [if_true]
  left
  have hev : a.eval (.tmp x.dE) = .tuple #[v, .int .i64 (s : Nat)] := by show a.tmps.getD x.dE undef = _; simp [q10]
  have hrun : (execOp a.eval o).run P w = .ok (.value v) w := by simp [execOp, h2, hev, Instr.extract]
  unfold Oper.wp
  rw [hrun]
  refine hK _ _ ⟨β, R, b, N, v, s, es, clock, j, e, ?_, q2, q3, q4, q5, q6, q7, q8, q9, ?_, fun _ => ?_, fun h => ?_, q13, fun h => ?_⟩
  · rw [h3]; exact q1.put_top (Gr.refl _ _ _) q1.hs (topsAt_mem _ _ (by simp [MA.ds])) v
  · rw [h3, act_put_other hx.dE0.symm]; exact q10
  · rw [h3]; exact act_put_same (by rw [hsz]; exact hr _ (by simp [MA.ds]))
  · rw [h3, act_put_other hx.d01]; exact q12 h
  · obtain ⟨u, k1, k2⟩ := q14 h
    exact ⟨u, by rw [h3, act_put_other hx.d0A]; exact k1, k2⟩
theorem ms_x1 (hx : MAOK P ops x) (hr : ∀ d ∈ x.ds, d < t.length) (hs : MS G x ok ty sz g kv id h m gy t β0 R0 w0 x0 xA x1 a w) (hK : ∀ a' w', MS G x ok ty sz g kv id h m gy t β0 R0 w0 x0 xA true a' w' → K a' w') : wpOp P ops Q (x.n + 3) K a w := by
  obtain ⟨o, h1, h2, h3, h4⟩ := hx.o1
  obtain ⟨β, R, b, N, v, s, es, clock, j, e, q1, q2, q3, q4, q5, q6, q7, q8, q9, q10, q11, q12, q13, q14⟩ := hs.ex
  have hsz : a.tmps.size = t.length := by have := q1.tm.length; rw [topsAt_length] at this; simpa using this.symm
  unfold wpOp
  simp only [h1]
  rw [show Region.wanted o (yielded ops a.tmps) = true by unfold Region.wanted; rw [h4]]
  simp only [if_true]
  left
  have hev : a.eval (.tmp x.dE) = .tuple #[v, .int .i64 (s : Nat)] := by show a.tmps.getD x.dE undef = _; simp [q10]
  have hrun : (execOp a.eval o).run P w = .ok (.value (.int .i64 (s : Nat))) w := by simp [execOp, h2, hev, Instr.extract]
  unfold Oper.wp
  rw [hrun]
  refine hK _ _ ⟨β, R, b, N, v, s, es, clock, j, e, ?_, q2, q3, q4, q5, q6, q7, q8, q9, ?_, fun h => ?_, fun _ => ?_, q13, fun h => ?_⟩
  · rw [h3]; exact q1.put_top (Gr.refl _ _ _) q1.hs (topsAt_mem _ _ (by simp [MA.ds])) _
  · rw [h3, act_put_other hx.dE1.symm]; exact q10
  · rw [h3, act_put_other hx.d01.symm]; exact q11 h
  · rw [h3]; exact act_put_same (by rw [hsz]; exact hr _ (by simp [MA.ds]))
  · obtain ⟨u, k1, k2⟩ := q14 h
    exact ⟨u, by rw [h3, act_put_other hx.dA1.symm]; exact k1, k2⟩
theorem nth_hOpen_lt {i : Nat} (hi : i < h.length) (hne : i ≠ id) : nth .gone (hOpen ok ty sz g kv id h) i = nth .gone h i := by
  unfold hOpen
  rw [nth_snoc_lt _ _ _ (by rw [upd_eq, List.length_set]; exact hi), nth_upd_ne _ _ _ (Ne.symm hne)]
theorem nth_hOpen_id (hi : id < h.length) : nth .gone (hOpen ok ty sz g kv id h) id = .mapl ok ty sz g (some (kv, .sl h.length sz 0 (g kv).1)) := by
  unfold hOpen
  rw [nth_snoc_lt _ _ _ (by rw [upd_eq, List.length_set]; exact hi), nth_upd_eq _ _ _ hi]
theorem nth_hOpen_new : nth .gone (hOpen ok ty sz g kv id h) h.length = .row ty sz (g kv).1 fun e o => .p ((g kv).2 e o) := by
  unfold hOpen
  have := nth_snoc_eq AO.gone (.row ty sz (g kv).1 fun e o => .p ((g kv).2 e o)) (upd (.mapl ok ty sz g (some (kv, .sl h.length sz 0 (g kv).1))) h id)
  rwa [upd_eq, List.length_set, ← upd_eq] at this
theorem hOpen_length : (hOpen ok ty sz g kv id h).length = h.length + 1 := by unfold hOpen; rw [snoc_length, upd_eq, List.length_set]
theorem srcA_move {st st' : St} {y : AX} {k1 k2 : Nat → (Nat → Nat → C) → Tr} {K1 K2 : X → St → Prop} (he : st'.ev y = st.ev y) (hrow : ∀ i ty sz n f, nth .gone st.h i = .row ty sz n f → nth .gone st'.h i = .row ty sz n f) (hk : ∀ m gy, (k1 m gy).holds P G K1 → (k2 m gy).holds P G K2) (hh : (srcA st sz y k1).holds P G K1) : (srcA st' sz y k2).holds P G K2 := by
  simp only [srcA, he] at hh ⊢
  split at hh
  · rename_i e1
    (try rw [e1])
    exact hk _ _ hh
  · rename_i e1
    (try rw [e1])
    obtain ⟨c1, c2⟩ := chk_true hh
    exact chk_intro c1 (hk _ _ c2)
  · rename_i sz' id' off len e1
    (try rw [e1])
    (try dsimp only at hh ⊢)
    split at hh
    · rename_i e2
      rw [hrow _ _ _ _ _ e2]
      obtain ⟨c1, c2, c3⟩ := chk_true hh
      exact chk_intro c1 ⟨c2, hk _ _ c3⟩
    · exact hh.elim
  · exact hh.elim
theorem ms_E (hx : MAOK P ops x) (hr : ∀ d ∈ x.ds, d < t.length) {β : Bt} {R : Nat → Prop} (hs : Sim G β R ⟨t, h⟩ a w) (hf : Fr β0 R0 w0 β R w) (hrm : ∀ b, R0 b → R b) (hid : nth .gone h id = .mapl ok ty sz g none) (hsm : nth (.c .top) t x.sm = .c (.mp id)) (hsk : keyV (nth (.c .top) t x.sk) = some kv) (hok : ok = okK P x.r.1) (hkv : ok kv = true)
    (hK : ∀ a' w', MS G x ok ty sz g kv id h m gy t β0 R0 w0 false false false a' w' → K a' w') : wpOp P ops Q x.n K a w := by
  obtain ⟨o, h1, h2, h3, h4⟩ := hx.oE
  subst hok
  have hsz : a.tmps.size = t.length := by have := hs.tm.length; simpa using this.symm
  have hidl : id < h.length := nth_gone hid (by simp)
  obtain ⟨β2, R2, s1, f1, f2⟩ := weak_openM (st := ⟨t, h⟩) kv hid β R a w hs
  rw [lenL_eq] at s1
  have s1 : Sim G β2 R2 ⟨t, hOpen (okK P x.r.1) ty sz g kv id h⟩ a w := s1
  have hm1 := ev_sound (x := .tmp x.sm) s1 rfl
  have hm1 : VR β2 R2 w (nth (.c .top) t x.sm) (a.eval (.tmp x.sm)) := hm1
  rw [hsm] at hm1
  obtain ⟨b, N, q1, q2⟩ := hm1
  have hk1 := ev_sound (x := .tmp x.sk) s1 rfl
  have hk1 : VR β2 R2 w (nth (.c .top) t x.sk) (a.eval (.tmp x.sk)) := hk1
  have q3 := keyV_sound hk1 hsk
  have hob := s1.hs.obj id b N q1
  have hidO := nth_hOpen_id (ok := okK P x.r.1) (ty := ty) (sz := sz) (g := g) (kv := kv) (id := id) hidl
  have hob : OR β2 R2 w (nth .gone (hOpen (okK P x.r.1) ty sz g kv id h) id) b N := hob
  rw [hidO] at hob
  obtain ⟨es, clock, g1, g2, g3, g4⟩ := hob
  obtain ⟨v, sp, es1, clock1, j, e, hrun, hB, hj, hek, hev, hbs, hcase⟩ := me_run hx.hm g1 g2 (fun e he => by
    obtain ⟨i, hi⟩ := List.getElem?_of_mem he
    exact (g3 i e hi).1) hkv
  unfold wpOp
  simp only [h1]
  rw [show Region.wanted o (yielded ops a.tmps) = true by unfold Region.wanted; rw [h4]]
  simp only [if_true]
  left
  have hex : (execOp a.eval o).run P w = .ok (.value (.tuple #[v, .int .i64 (sp : Nat)])) (ChangeMaps.setBlock w b (.map es1 clock1)) := by simp [execOp, h2, q2, q3, hrun]
  unfold Oper.wp
  rw [hex]
  have hnil : CR β2 R2 w (.sl h.length sz 0 (g kv).1) v := by
    rcases hcase with ⟨rfl, c2, _⟩ | ⟨c1, _⟩
    · exact (g4 kv c2).1 kv _ rfl rfl
    · have := (g3 j e c1).2.1 kv _ rfl hek
      rwa [hev] at this
  have hsub : ∀ y ∈ es.toList, y ∈ es1.toList := fun y hy => by
    rcases hcase with ⟨_, _, c3, _⟩ | ⟨_, c2⟩
    · rw [c3]; exact List.mem_append_left _ hy
    · rw [c2]; exact hy
  obtain ⟨r1, r2⟩ := hs_write s1.hs q1 (by show (nth .gone (hOpen _ _ _ _ _ _ _) id).live = true; rw [hidO]; rfl) (x := .mapl (okK P x.r.1) ty sz g (some (kv, .sl h.length sz 0 (g kv).1))) (w' := ChangeMaps.setBlock w b (.map es1 clock1)) rfl rfl rfl (by simp [ChangeMaps.setBlock]) (fun j hj => ChangeMaps.heap_setBlock_other g1 _ (fun e => hj e)) (by
    intro kp kq
    refine ⟨es1, clock1, ChangeMaps.heap_setBlock_same g1 _, hB, fun i e' he => ?_, fun k hk => ?_⟩
    · have old : es.toList[i]? = some e' → okK P x.r.1 e'.key = true ∧ (∀ k0 c, some (kv, C.sl h.length sz 0 (g kv).1) = some (k0, c) → e'.key = k0 → CR β2 R2 (ChangeMaps.setBlock w b (.map es1 clock1)) c e'.val) ∧ ((∀ k0 c, some (kv, C.sl h.length sz 0 (g kv).1) = some (k0, c) → e'.key ≠ k0) → CRo β2 R2 (ChangeMaps.setBlock w b (.map es1 clock1)) (b, i) (.own ty sz (g e'.key).1 (g e'.key).2) e'.val) := fun hi => by
        obtain ⟨a1, a2, a3⟩ := g3 i e' hi
        exact ⟨a1, fun k0 c c1 c2 => CR.keep kp (a2 k0 c c1 c2), fun c1 => CRo.keep kp (kq.at b) (a3 c1)⟩
      rcases hcase with ⟨c1, c2, c3, c4⟩ | ⟨_, c2⟩
      · rw [c3] at he
        by_cases hlt : i < es.toList.length
        · rw [List.getElem?_append_left hlt] at he
          exact old he
        · rw [List.getElem?_append_right (by omega)] at he
          have h0 : i - es.toList.length = 0 := by
            cases hq : i - es.toList.length with
            | zero => rfl
            | succ q => rw [hq] at he; simp at he
          rw [h0] at he
          simp at he
          subst he
          refine ⟨by rw [hek]; exact hkv, fun k0 c d1 d2 => ?_, fun d1 => absurd hek (d1 kv _ rfl)⟩
          injection d1 with d1; injection d1 with d1 d3; subst d3
          rw [hev]
          exact CR.keep kp hnil
      · rw [c2] at he
        exact old he
    · obtain ⟨a1, a2⟩ := g4 k fun y hy => hk y (hsub y hy)
      exact ⟨fun k1 c d1 d2 => CR.keep kp (a1 k1 c d1 d2), a2⟩)
  have r1 : HS G β2 R2 (ChangeMaps.setBlock w b (.map es1 clock1)) (upd (.mapl (okK P x.r.1) ty sz g (some (kv, .sl h.length sz 0 (g kv).1))) (hOpen (okK P x.r.1) ty sz g kv id h) id) := r1
  rw [upd_self hidO] at r1
  have f3 : Fr β0 R0 w0 β2 R2 (ChangeMaps.setBlock w b (.map es1 clock1)) := (hf.trans f1 hrm).trans r2.toFr fun b hb => f2 b (hrm b hb)
  refine hK _ _ ⟨β2, R2, b, N, v, sp, es1, clock1, j, e, ?_, f3, fun b hb => f2 b (hrm b hb), q1, ChangeMaps.heap_setBlock_same g1 _, hB, hj, hek, hbs, ?_, fun h => (by cases h), fun h => (by cases h), fun _ => CR.keep r2.keeps hnil, fun h => (by cases h)⟩
  · rw [h3]
    exact (s1.tops x.ds).put_top r2 r1 (topsAt_mem _ _ (by simp [MA.ds])) _
  · rw [h3]; exact act_put_same (by rw [hsz]; exact hr _ (by simp [MA.ds]))
theorem ms_A (hx : MAOK P ops x) (hr : ∀ d ∈ x.ds, d < t.length) (hty : ty = x.r.2.1) (hz : sz = x.r.2.2) (hz0 : 0 < sz) (hzl : lenL x.z = sz) (hid : nth .gone h id = .mapl ok ty sz g none) (hlim : ((g kv).1 + m) * x.bytes ≤ 140737488355328 ∧ (g kv).1 + m ≤ 140737488355328 ∧ ∀ e o, e < m → o < sz → isP (gy e o) = true ∧ oneC (gy e o) = true)
    (hsrc : ∀ (k2 : Nat → (Nat → Nat → C) → Tr) (K2 : X → St → Prop), (k2 m gy).holds P G K2 → (srcA ⟨t, h⟩ sz (.t x.sy) k2).holds P G K2) (hs : MS G x ok ty sz g kv id h m gy t β0 R0 w0 true false x1 a w)
    (hK : ∀ a' w', MS G x ok ty sz g kv id h m gy t β0 R0 w0 true true x1 a' w' → K a' w') : wpOp P ops Q (x.n + 2) K a w := by
  obtain ⟨o, h1, h2, h3, h4⟩ := hx.oA
  subst hty
  obtain ⟨β, R, b, N, v, s, es, clock, j, e, q1, q2, q3, q4, q5, q6, q7, q8, q9, q10, q11, q12, q13, q14⟩ := hs.ex
  have hsz : a.tmps.size = t.length := by have := q1.tm.length; rw [topsAt_length] at this; simpa using this.symm
  have hidl : id < h.length := nth_gone hid (by simp)
  have q1 : Sim G β R ⟨topsAt x.ds t, hOpen ok x.r.2.1 sz g kv id h⟩ a w := q1
  have hv := q13 rfl
  have q1k := q1.know (q11 rfl) (show VR β R w (.c (.sl h.length sz 0 (g kv).1)) v from hv)
  have ev0 : St.ev ⟨upd (.c (.sl h.length sz 0 (g kv).1)) (topsAt x.ds t) x.d0, hOpen ok x.r.2.1 sz g kv id h⟩ (.t x.d0) = .c (.sl h.length sz 0 (g kv).1) := nth_upd_eq _ _ _ (by rw [topsAt_length]; exact hr _ (by simp [MA.ds]))
  have evy : St.ev ⟨upd (.c (.sl h.length sz 0 (g kv).1)) (topsAt x.ds t) x.d0, hOpen ok x.r.2.1 sz g kv id h⟩ (.t x.sy) = St.ev ⟨t, h⟩ (.t x.sy) := by
    show nth (.c .top) (upd _ (topsAt x.ds t) x.d0) x.sy = nth (.c .top) t x.sy
    rw [nth_upd_ne _ _ _ (fun e => hx.syN (by rw [← e]; simp [MA.ds])), topsAt_nth_other _ _ hx.syN]
  have hopT : (opT (fun _ _ _ _ => .fail) ⟨upd (.c (.sl h.length sz 0 (g kv).1)) (topsAt x.ds t) x.d0, hOpen ok x.r.2.1 sz g kv id h⟩ (fun v h' => .rq (v = .c (.sl (h.length + 1) sz 0 ((g kv).1 + m)) ∧ h' = hApp ok x.r.2.1 sz g kv id h m gy) (.done .normal ⟨[], []⟩)) (.app x.r.2.1 sz x.bytes x.z (.t x.d0) (.t x.sy))).holds P G fun _ _ => True := by
    simp only [opT]
    refine chk_intro (by rw [Bool.and_eq_true]; exact ⟨by simpa using hz0, by rw [hzl]; exact Nat.beq_refl _⟩) ?_
    simp only [offA, ev0, bT, show Nat.beq 0 0 = true from rfl, dstA, nth_hOpen_new]
    refine chk_intro (by simp) ⟨trivial, ?_⟩
    refine srcA_move (K1 := fun _ _ => True) (k1 := fun m' gy' => .rq (m' = m ∧ gy' = gy) (.done .normal ⟨[], []⟩)) evy (fun i ty' sz' n' f' hi => ?_) (fun m' gy' hh => ?_) (hsrc _ _ ⟨⟨rfl, rfl⟩, trivial⟩)
    · rw [nth_hOpen_lt (nth_gone hi (by simp)) (fun e => by subst e; rw [hid] at hi; cases hi)]; exact hi
    · obtain ⟨⟨rfl, rfl⟩, _⟩ := hh
      refine ⟨⟨hlim.1, hlim.2.1, fun e o he ho => (hlim.2.2 e o he ho).2⟩, ⟨?_, rfl⟩, trivial⟩
      rw [lenL_eq, hOpen_length]
  obtain ⟨u, w2, β2, xv, h', k1, k2, k3, k4, k5, k6, k7⟩ := app_run q1k hx.ht (by rw [hz]; exact hx.hsz) hx.hby hx.hz rfl rfl h2 hopT (fun id' sz' off len he => by
    rw [ev0] at he; injection he with he; injection he with _ _ he _; exact he.symm)
  obtain ⟨⟨rfl, rfl⟩, _⟩ := k2
  unfold wpOp
  simp only [h1]
  rw [show Region.wanted o (yielded ops a.tmps) = true by unfold Region.wanted; rw [h4]]
  simp only [if_true]
  left
  unfold Oper.wp
  rw [k1]
  have hev0 : a.eval (.tmp x.d0) = v := by show a.tmps.getD x.d0 undef = v; simp [q11 rfl]
  have hne : some b ≠ (a.eval (.tmp x.d0)).ownBlock := by
    rw [hev0]
    obtain ⟨A, c, rfl, _, _, hc⟩ := hv
    rcases hc with ⟨hA, _, _⟩ | ⟨b1, N1, c1, rfl, _⟩
    · have hA : A = none := hA.resolve_right (by omega)
      subst hA
      simp [Value.ownBlock]
    · intro hb
      have hb : b = b1 := by simpa [Value.ownBlock] using hb
      subst hb
      have := q1.hs.inj id h.length b N N1 q4 c1 (by show (nth .gone (hOpen _ _ _ _ _ _ _) id).live = true; rw [nth_hOpen_id hidl]; rfl) (by show (nth .gone (hOpen _ _ _ _ _ _ _) h.length).live = true; rw [nth_hOpen_new]; rfl)
      omega
  have hb2 : w2.heap[b]? = some (.map es clock) := (k7.block b (q1.hs.lt id b N q4) hne).trans q5
  refine hK _ _ ⟨β2, R, b, N, v, s, es, clock, j, e, ?_, q2.trans k5.toFr q3, fun b hb => k5.rm b (q3 b hb), k5.bm _ _ q4, hb2, q6, q7, q8, q9, ?_, fun _ => ?_, fun h => ?_, fun h => (by cases h), fun _ => ⟨u, ?_, k3⟩⟩
  · rw [h3]
    exact q1.put_top k5 k4 (topsAt_mem _ _ (by simp [MA.ds])) u
  · rw [h3, act_put_other hx.dEA.symm]; exact q10
  · rw [h3, act_put_other hx.d0A.symm]; exact q11 rfl
  · rw [h3, act_put_other hx.dA1]; exact q12 h
  · rw [h3]; exact act_put_same (by rw [hsz]; exact hr _ (by simp [MA.ds]))
theorem hApp_set {X : AO} (hidl : id < h.length) : upd X (hApp ok ty sz g kv id h m gy) id = snoc (.row ty sz ((g kv).1 + m) (appF (g kv).1 (fun e o => .p ((g kv).2 e o)) gy)) (snoc .gone (upd X h id)) := by
  unfold hApp hOpen
  simp only [upd_eq, snoc_eq]
  rw [List.set_append_left _ _ (by simp; omega)]
  congr 1
  rw [List.set_append_right _ _ (by simp), List.set_append_left _ _ (by simpa using hidl)]
  simp
theorem nth_hApp_id (hidl : id < h.length) : nth .gone (hApp ok ty sz g kv id h m gy) id = .mapl ok ty sz g (some (kv, .sl h.length sz 0 (g kv).1)) := by
  unfold hApp
  rw [nth_snoc_lt _ _ _ (by rw [upd_eq, List.length_set, hOpen_length]; omega), nth_upd_ne _ _ _ (by omega), nth_hOpen_id hidl]
theorem ms_S (hx : MAOK P ops x) (hid : nth .gone h id = .mapl ok ty sz g none) (hsm : nth (.c .top) t x.sm = .c (.mp id)) (hlim : ∀ e o, e < m → o < sz → isP (gy e o) = true) (hs : MS G x ok ty sz g kv id h m gy t β0 R0 w0 true true true a w)
    (hK : ∀ a' w' β R, Sim G β R ⟨topsAt x.ds t, snoc .gone (snoc .gone (upd (.mapl ok ty sz (setG g kv ((g kv).1 + m) fun e o => if e < (g kv).1 then (g kv).2 e o else unP (gy (e - (g kv).1) o)) none) h id))⟩ a' w' → Fr β0 R0 w0 β R w' → (∀ b, R0 b → R b) → K a' w') : wpOp P ops Q (x.n + 4) K a w := by
  obtain ⟨o, h1, h2, h3, h4⟩ := hx.oS
  obtain ⟨β, R, b, N, v, s, es, clock, j, e, q1, q2, q3, q4, q5, q6, q7, q8, q9, q10, q11, q12, q13, q14⟩ := hs.ex
  have q1 : Sim G β R ⟨topsAt x.ds t, hApp ok ty sz g kv id h m gy⟩ a w := q1
  have hidl : id < h.length := nth_gone hid (by simp)
  obtain ⟨u, hu1, hu2⟩ := q14 rfl
  have hm1 := ev_sound (x := .tmp x.sm) q1 rfl
  have hm1 : VR β R w (nth (.c .top) (topsAt x.ds t) x.sm) (a.eval (.tmp x.sm)) := hm1
  rw [topsAt_nth_other _ _ hx.smN, hsm] at hm1
  obtain ⟨b', N', p1, p2⟩ := hm1
  rw [q4] at p1; injection p1 with p1; injection p1 with p1 _
  subst p1
  have hu3 : a.eval (.tmp x.dA) = u := by show a.tmps.getD x.dA undef = u; simp [hu1]
  have hst : a.eval (.tmp x.d1) = .int .i64 (s : Nat) := by show a.tmps.getD x.d1 undef = _; simp [q12 rfl]
  have hrun := es_run (P := P) (tm := x.tm) q5 q6 q7 q9 u
  unfold wpOp
  simp only [h1]
  rw [show Region.wanted o (yielded ops a.tmps) = true by unfold Region.wanted; rw [h4]]
  simp only [if_true]
  left
  have hex : (execOp a.eval o).run P w = .ok .skip (ChangeMaps.setBlock w b (.map (es.modify j fun e => { e with val := u }) clock)) := by simp [execOp, h2, p2, hu3, hst, hrun]
  unfold Oper.wp
  rw [hex]
  have hob := q1.hs.obj id b N q4
  have hob : OR β R w (nth .gone (hApp ok ty sz g kv id h m gy) id) b N := hob
  rw [nth_hApp_id hidl] at hob
  obtain ⟨es', clock', g1, g2, g3, g4⟩ := hob
  rw [q5] at g1
  injection g1 with g1
  injection g1 with g1 g1'
  subst g1; subst g1'
  have hlist : (es.modify j fun e => { e with val := u }).toList = es.toList.set j { e with val := u } := by rw [Array.toList_modify, ChangeMaps.modify_eq_set _ _ _ _ q7]
  have hB : BornOK (es.modify j fun e => { e with val := u }) clock := born_set (e1 := { e with val := u }) q6 q7 rfl rfl hlist
  have hjl := (List.getElem?_eq_some_iff.1 q7).1
  obtain ⟨r1, r2⟩ := hs_write q1.hs q4 (by show (nth .gone (hApp _ _ _ _ _ _ _ _ _) id).live = true; rw [nth_hApp_id hidl]; rfl) (x := .mapl ok ty sz g (some (kv, .sl (h.length + 1) sz 0 ((g kv).1 + m)))) (w' := ChangeMaps.setBlock w b (.map (es.modify j fun e => { e with val := u }) clock)) rfl rfl rfl (by simp [ChangeMaps.setBlock]) (fun j hj => ChangeMaps.heap_setBlock_other q5 _ (fun e => hj e)) (by
    intro kp kq
    refine ⟨_, clock, ChangeMaps.heap_setBlock_same q5 _, hB, fun i e' he => ?_, fun k hk => ?_⟩
    · rw [hlist, List.getElem?_set] at he
      split at he
      · rename_i hij
        subst hij
        injection he with he
        subst he
        refine ⟨(g3 j e q7).1, fun k0 c d1 d2 => ?_, fun d1 => absurd q8 (d1 kv _ rfl)⟩
        injection d1 with d1; injection d1 with d1 d3; subst d3
        exact CR.keep kp hu2
      · rename_i hij
        obtain ⟨a1, a2, a3⟩ := g3 i e' he
        have hne : e'.key ≠ kv := fun hk => hij (by
          have hil := (List.getElem?_eq_some_iff.1 he).1
          have ei : es.toList[i].key = kv := by rw [(List.getElem?_eq_some_iff.1 he).2]; exact hk
          have ej : es.toList[j].key = kv := by rw [(List.getElem?_eq_some_iff.1 q7).2]; exact q8
          rcases Nat.lt_trichotomy i j with hl | hl | hl
          · exact absurd (ei.trans ej.symm) (List.pairwise_iff_getElem.1 q6.1 i j hil hjl hl)
          · exact hl.symm
          · exact absurd (ej.trans ei.symm) (List.pairwise_iff_getElem.1 q6.1 j i hjl hil hl))
        refine ⟨a1, fun k0 c d1 d2 => ?_, fun _ => CRo.keep kp (kq.at b) (a3 fun k0 c d1 => ?_)⟩
        · injection d1 with d1; injection d1 with d1 d3; subst d1; exact absurd d2 hne
        · injection d1 with d1; injection d1 with d1 d3; subst d1; exact hne
    · have hk' : ∀ y ∈ es.toList, y.key ≠ k := fun y hy => by
        obtain ⟨i, hi⟩ := List.getElem?_of_mem hy
        by_cases hij : j = i
        · subst hij
          rw [q7] at hi; injection hi with hi; subst hi
          exact hk { e with val := u } (by rw [hlist]; exact List.mem_set hjl _)
        · exact hk y (by rw [hlist]; exact List.mem_of_getElem? (by rw [List.getElem?_set_ne hij]; exact hi))
      obtain ⟨a1, a2⟩ := g4 k hk'
      have hne : k ≠ kv := fun hkk => hk' e (List.mem_of_getElem? q7) (q8.trans hkk.symm)
      refine ⟨fun k1 c d1 d2 => ?_, fun _ => a2 fun k1 c d1 => ?_⟩
      · injection d1 with d1; injection d1 with d1 d3; subst d1; exact absurd d2 hne
      · injection d1 with d1; injection d1 with d1 d3; subst d1; exact hne)
  have r1 : HS G β R (ChangeMaps.setBlock w b (.map (es.modify j fun e => { e with val := u }) clock)) (upd (.mapl ok ty sz g (some (kv, .sl (h.length + 1) sz 0 ((g kv).1 + m)))) (hApp ok ty sz g kv id h m gy) id) := r1
  rw [hApp_set hidl] at r1
  have hsim : Sim G β R ⟨topsAt x.ds t, snoc (.row ty sz ((g kv).1 + m) (appF (g kv).1 (fun e o => .p ((g kv).2 e o)) gy)) (snoc .gone (upd (.mapl ok ty sz g (some (kv, .sl (h.length + 1) sz 0 ((g kv).1 + m)))) h id))⟩ a (ChangeMaps.setBlock w b (.map (es.modify j fun e => { e with val := u }) clock)) := ⟨q1.df, q1.tm.mono fun _ _ => VR.keep r2.keeps, r1⟩
  have hl1 : (upd (AO.mapl ok ty sz g (some (kv, .sl (h.length + 1) sz 0 ((g kv).1 + m)))) h id).length = h.length := by rw [upd_eq, List.length_set]
  have e1 : nth .gone (snoc (.row ty sz ((g kv).1 + m) (appF (g kv).1 (fun e o => .p ((g kv).2 e o)) gy)) (snoc .gone (upd (.mapl ok ty sz g (some (kv, .sl (h.length + 1) sz 0 ((g kv).1 + m)))) h id))) id = .mapl ok ty sz g (some (kv, .sl (h.length + 1) sz 0 ((g kv).1 + m))) := by
    rw [nth_snoc_lt _ _ _ (by rw [snoc_length, hl1]; omega), nth_snoc_lt _ _ _ (by rw [hl1]; exact hidl), nth_upd_eq _ _ _ hidl]
  have e2 : nth .gone (snoc (.row ty sz ((g kv).1 + m) (appF (g kv).1 (fun e o => .p ((g kv).2 e o)) gy)) (snoc .gone (upd (.mapl ok ty sz g (some (kv, .sl (h.length + 1) sz 0 ((g kv).1 + m)))) h id))) (h.length + 1) = .row ty sz ((g kv).1 + m) (appF (g kv).1 (fun e o => .p ((g kv).2 e o)) gy) := by
    have := nth_snoc_eq AO.gone (.row ty sz ((g kv).1 + m) (appF (g kv).1 (fun e o => .p ((g kv).2 e o)) gy)) (snoc .gone (upd (.mapl ok ty sz g (some (kv, .sl (h.length + 1) sz 0 ((g kv).1 + m)))) h id))
    rwa [snoc_length, hl1] at this
  obtain ⟨β3, R3, t1, t2, t3⟩ := weak_closeM (st := ⟨topsAt x.ds t, _⟩) (fun e o => if e < (g kv).1 then (g kv).2 e o else unP (gy (e - (g kv).1) o)) e1 e2 (fun e o he ho => by
    unfold appF
    by_cases hlt : e < (g kv).1
    · rw [if_pos hlt, if_pos hlt]
    · rw [if_neg hlt, if_neg hlt]
      have := hlim (e - (g kv).1) o (by omega) ho
      cases hg : gy (e - (g kv).1) o <;> rw [hg] at this <;> first | rfl | cases this) β R a _ hsim
  refine hK _ _ β3 R3 ?_ ((q2.trans r2.toFr q3).trans t2 (fun b hb => r2.rm b (q3 b hb))) (fun b hb => t3 b (r2.rm b (q3 b hb)))
  rw [h3]
  have t1 : Sim G β3 R3 ⟨topsAt x.ds t, upd .gone (upd (.mapl ok ty sz (setG g kv ((g kv).1 + m) fun e o => if e < (g kv).1 then (g kv).2 e o else unP (gy (e - (g kv).1) o)) none) (snoc (.row ty sz ((g kv).1 + m) (appF (g kv).1 (fun e o => .p ((g kv).2 e o)) gy)) (snoc .gone (upd (.mapl ok ty sz g (some (kv, .sl (h.length + 1) sz 0 ((g kv).1 + m)))) h id))) id) (h.length + 1)⟩ a _ := t1
  have e3 : ∀ (A B Y : AO), upd .gone (upd Y (snoc A (snoc .gone (upd B h id))) id) (h.length + 1) = snoc .gone (snoc .gone (upd Y h id)) := by
    intro A B Y
    simp only [upd_eq, snoc_eq]
    have a1 : ((h.set id B ++ [AO.gone]) ++ [A]).set id Y = (h.set id Y ++ [AO.gone]) ++ [A] := by
      rw [List.set_append_left _ _ (by simp; omega), List.set_append_left _ _ (by simpa using hidl), List.set_set]
    have a2 : ((h.set id Y ++ [AO.gone]) ++ [A]).set (h.length + 1) AO.gone = (h.set id Y ++ [AO.gone]) ++ [AO.gone] := by
      rw [List.set_append_right _ _ (by simp)]
      simp
    rw [a1, a2]
  rw [e3] at t1
  exact t1
/-- Beyond the head: which operation comes, by what is listed. -/
theorem ma_tail (hx : MAOK P ops x) {listed : Array Bool} (inv : HeadInv .any ops x.n listed) (hall : ∀ i, i < x.n → listed.getD i false = true) (hr : ∀ d ∈ x.ds, d < t.length) {β : Bt} {R : Nat → Prop} (hs : Sim G β R ⟨t, h⟩ a w) (hf : Fr β0 R0 w0 β R w) (hrm : ∀ b, R0 b → R b)
    (hty : ty = x.r.2.1) (hz : sz = x.r.2.2) (hz0 : 0 < sz) (hzl : lenL x.z = sz) (hid : nth .gone h id = .mapl ok ty sz g none) (hsm : nth (.c .top) t x.sm = .c (.mp id)) (hsk : keyV (nth (.c .top) t x.sk) = some kv) (hok : ok = okK P x.r.1) (hkv : ok kv = true)
    (hlim : ((g kv).1 + m) * x.bytes ≤ 140737488355328 ∧ (g kv).1 + m ≤ 140737488355328 ∧ ∀ e o, e < m → o < sz → isP (gy e o) = true ∧ oneC (gy e o) = true)
    (hsrc : ∀ (k2 : Nat → (Nat → Nat → C) → Tr) (K2 : X → St → Prop), (k2 m gy).holds P G K2 → (srcA ⟨t, h⟩ sz (.t x.sy) k2).holds P G K2)
    (hQ : ∀ a' w' β R, Sim G β R ⟨topsAt x.ds t, snoc .gone (snoc .gone (upd (.mapl ok ty sz (setG g kv ((g kv).1 + m) fun e o => if e < (g kv).1 then (g kv).2 e o else unP (gy (e - (g kv).1) o)) none) h id))⟩ a' w' → Fr β0 R0 w0 β R w' → (∀ b, R0 b → R b) → Q .normal a' w') : wpAny P .any ops Q 5 listed a w := by
  have hsz := hx.size
  have hls := inv.size
  have un : ∀ (l : Array Bool) (S : List Nat), l.size = ops.size → (∀ i, i < ops.size → (l.getD i true = false ↔ i ∉ S ∧ x.n ≤ i)) → True := fun _ _ _ _ => trivial
  -- the listings
  have st : ∀ (l : Array Bool) (i : Nat), l.size = ops.size → (l.setIfInBounds i true).size = ops.size := fun l i h => by simpa using h
  have sett : ∀ (l : Array Bool) (i : Nat), l.size = ops.size → i < ops.size → (l.setIfInBounds i true).getD i true = true ∧ (l.setIfInBounds i true).getD i false = true := fun l i h hi => by
    have : i < l.size := by omega
    constructor <;> simp [this]
  have keep : ∀ (l : Array Bool) (i j : Nat) (d : Bool), i ≠ j → (l.setIfInBounds i true).getD j d = l.getD j d := fun l i j d h => getD_set_ne d h
  have nontrue : ∀ {l : Array Bool} {i : Nat}, l.getD i true = false → l.getD i false = false := fun h => getD_both h
  have t0 := inv.tail x.n (Nat.le_refl _) (by omega)
  have t1 := inv.tail (x.n + 1) (by omega) (by omega)
  have t2 := inv.tail (x.n + 2) (by omega) (by omega)
  have t3 := inv.tail (x.n + 3) (by omega) (by omega)
  have t4 := inv.tail (x.n + 4) (by omega) (by omega)
  have fin : ∀ (l : Array Bool) (fuel : Nat), l.size = ops.size → (∀ i, i < ops.size → i ≠ x.n + 4 → l.getD i false = true) → l.getD (x.n + 4) true = false → ∀ a w, MS G x ok ty sz g kv id h m gy t β0 R0 w0 true true true a w → wpAny P .any ops Q 1 l a w := by
    intro l fuel h1 h2 h3 a w hm
    have hrd : x.n + 4 ∈ Region.ready .any ops l := least_ready hx.back (by omega) h3 fun j hj => h2 j (by omega) (by omega)
    refine ⟨fun h => (by rw [h] at hrd; cases hrd), fun i hi => ?_⟩
    obtain ⟨i1, i2, i3⟩ := ready_of hi
    have : i = x.n + 4 := by
      apply Classical.byContradiction
      intro hne
      have := h2 i i1 hne
      rw [nontrue i2] at this; cases this
    subst this
    refine ms_S hx hid hsm (fun e o he ho => (hlim.2.2 e o he ho).1) hm fun a' w' β R k1 k2 k3 => ?_
    refine ⟨?_, hQ a' w' β R k1 k2 k3⟩
    rw [List.eq_nil_iff_forall_not_mem]
    intro j hj
    obtain ⟨j1, j2, _⟩ := ready_of hj
    by_cases e : j = x.n + 4
    · subst e
      rw [(sett l _ h1 (by omega)).1] at j2; cases j2
    · rw [keep l _ _ _ (Ne.symm e)] at j2
      have := h2 j j1 e
      rw [nontrue j2] at this; cases this
  refine ⟨fun hnil => ?_, fun i hi => ?_⟩
  · have : x.n ∈ Region.ready .any ops listed := least_ready hx.back (by omega) t0 hall
    rw [hnil] at this; cases this
  obtain ⟨i1, i2, i3⟩ := ready_of hi
  have hin : i = x.n := by
    rcases Nat.lt_trichotomy i x.n with hl | hl | hl
    · have := hall i hl; rw [nontrue i2] at this; cases this
    · exact hl
    · exfalso
      have c : i = x.n + 1 ∨ i = x.n + 2 ∨ i = x.n + 3 ∨ i = x.n + 4 := by omega
      rcases c with rfl | rfl | rfl | rfl
      · have := i3 _ hx.w10; rw [nontrue t0] at this; cases this
      · have := i3 _ hx.w21; rw [nontrue t1] at this; cases this
      · have := i3 _ hx.w30; rw [nontrue t0] at this; cases this
      · have := i3 _ hx.w42; rw [nontrue t2] at this; cases this
  subst hin
  refine ms_E (m := m) (gy := gy) hx hr hs hf hrm hid hsm hsk hok hkv fun a1 w1 m1 => ?_
  -- behind the entry
  have l1 := st listed x.n hls
  have s1 := sett listed x.n hls (by omega)
  have L1 : ∀ j, j < x.n + 1 → (listed.setIfInBounds x.n true).getD j false = true := fun j hj => by
    by_cases e : x.n = j
    · subst e; exact s1.2
    · rw [keep listed _ _ _ e]; exact hall j (by omega)
  have k11 : (listed.setIfInBounds x.n true).getD (x.n + 1) true = false := by rw [keep listed _ _ _ (by omega)]; exact t1
  have k12 : (listed.setIfInBounds x.n true).getD (x.n + 2) true = false := by rw [keep listed _ _ _ (by omega)]; exact t2
  have k13 : (listed.setIfInBounds x.n true).getD (x.n + 3) true = false := by rw [keep listed _ _ _ (by omega)]; exact t3
  have k14 : (listed.setIfInBounds x.n true).getD (x.n + 4) true = false := by rw [keep listed _ _ _ (by omega)]; exact t4
  generalize listed.setIfInBounds x.n true = A at l1 L1 k11 k12 k13 k14
  refine ⟨fun hnil => ?_, fun i hi => ?_⟩
  · have : x.n + 1 ∈ Region.ready .any ops A := least_ready hx.back (by omega) k11 L1
    rw [hnil] at this; cases this
  obtain ⟨i1, i2, i3⟩ := ready_of hi
  have hc : i = x.n + 1 ∨ i = x.n + 3 := by
    by_cases hl : i < x.n + 1
    · have := L1 i hl; rw [nontrue i2] at this; cases this
    · have c : i = x.n + 1 ∨ i = x.n + 2 ∨ i = x.n + 3 ∨ i = x.n + 4 := by omega
      rcases c with rfl | rfl | rfl | rfl
      · exact .inl rfl
      · have := i3 _ hx.w21; rw [nontrue k11] at this; cases this
      · exact .inr rfl
      · have := i3 _ hx.w42; rw [nontrue k12] at this; cases this
  -- the append is left: what is listed besides
  have goA : ∀ (B : Array Bool), B.size = ops.size → (∀ i, i < ops.size → i ≠ x.n + 2 → i ≠ x.n + 4 → B.getD i false = true) → B.getD (x.n + 2) true = false → B.getD (x.n + 4) true = false → ∀ a w, MS G x ok ty sz g kv id h m gy t β0 R0 w0 true false true a w → wpAny P .any ops Q 2 B a w := by
    intro B b1 b2 b3 b4 a w hm
    refine ⟨fun hnil => ?_, fun i hi => ?_⟩
    · have : x.n + 2 ∈ Region.ready .any ops B := least_ready hx.back (by omega) b3 fun j hj => b2 j (by omega) (by omega) (by omega)
      rw [hnil] at this; cases this
    obtain ⟨i1, i2, i3⟩ := ready_of hi
    have hin : i = x.n + 2 := by
      by_cases e1 : i = x.n + 2
      · exact e1
      · by_cases e2 : i = x.n + 4
        · subst e2
          have := i3 _ hx.w42; rw [nontrue b3] at this; cases this
        · have := b2 i i1 e1 e2; rw [nontrue i2] at this; cases this
    subst hin
    refine ms_A hx hr hty hz hz0 hzl hid hlim hsrc hm fun a' w' m' => ?_
    exact fin _ 0 (st B _ b1) (fun i h1 h2 => by
      by_cases e : x.n + 2 = i
      · subst e; exact (sett B _ b1 (by omega)).2
      · rw [keep B _ _ _ e]; exact b2 i h1 (Ne.symm e) h2) (by rw [keep B _ _ _ (by omega)]; exact b4) a' w' m'
  rcases hc with rfl | rfl
  · refine ms_x0 hx hr m1 fun a2 w2 m2 => ?_
    have l2 := st A (x.n + 1) l1
    have s2 := sett A (x.n + 1) l1 (by omega)
    have L2 : ∀ j, j < x.n + 2 → (A.setIfInBounds (x.n + 1) true).getD j false = true := fun j hj => by
      by_cases e : x.n + 1 = j
      · subst e; exact s2.2
      · rw [keep A _ _ _ e]; exact L1 j (by omega)
    have k22 : (A.setIfInBounds (x.n + 1) true).getD (x.n + 2) true = false := by rw [keep A _ _ _ (by omega)]; exact k12
    have k23 : (A.setIfInBounds (x.n + 1) true).getD (x.n + 3) true = false := by rw [keep A _ _ _ (by omega)]; exact k13
    have k24 : (A.setIfInBounds (x.n + 1) true).getD (x.n + 4) true = false := by rw [keep A _ _ _ (by omega)]; exact k14
    generalize A.setIfInBounds (x.n + 1) true = B at l2 L2 k22 k23 k24
    refine ⟨fun hnil => ?_, fun i hi => ?_⟩
    · have : x.n + 2 ∈ Region.ready .any ops B := least_ready hx.back (by omega) k22 L2
      rw [hnil] at this; cases this
    obtain ⟨i1, i2, i3⟩ := ready_of hi
    have hc : i = x.n + 2 ∨ i = x.n + 3 := by
      by_cases hl : i < x.n + 2
      · have := L2 i hl; rw [nontrue i2] at this; cases this
      · have c : i = x.n + 2 ∨ i = x.n + 3 ∨ i = x.n + 4 := by omega
        rcases c with rfl | rfl | rfl
        · exact .inl rfl
        · exact .inr rfl
        · have := i3 _ hx.w42; rw [nontrue k22] at this; cases this
    rcases hc with rfl | rfl
    · refine ms_A hx hr hty hz hz0 hzl hid hlim hsrc m2 fun a3 w3 m3 => ?_
      have l3 := st B (x.n + 2) l2
      have s3 := sett B (x.n + 2) l2 (by omega)
      have L3 : ∀ j, j < x.n + 3 → (B.setIfInBounds (x.n + 2) true).getD j false = true := fun j hj => by
        by_cases e : x.n + 2 = j
        · subst e; exact s3.2
        · rw [keep B _ _ _ e]; exact L2 j (by omega)
      have k33 : (B.setIfInBounds (x.n + 2) true).getD (x.n + 3) true = false := by rw [keep B _ _ _ (by omega)]; exact k23
      have k34 : (B.setIfInBounds (x.n + 2) true).getD (x.n + 4) true = false := by rw [keep B _ _ _ (by omega)]; exact k24
      generalize B.setIfInBounds (x.n + 2) true = D at l3 L3 k33 k34
      refine ⟨fun hnil => ?_, fun i hi => ?_⟩
      · have : x.n + 3 ∈ Region.ready .any ops D := least_ready hx.back (by omega) k33 L3
        rw [hnil] at this; cases this
      obtain ⟨i1, i2, i3⟩ := ready_of hi
      have hin : i = x.n + 3 := by
        by_cases hl : i < x.n + 3
        · have := L3 i hl; rw [nontrue i2] at this; cases this
        · have c : i = x.n + 3 ∨ i = x.n + 4 := by omega
          rcases c with rfl | rfl
          · rfl
          · have := i3 _ hx.w43; rw [nontrue k33] at this; cases this
      subst hin
      refine ms_x1 hx hr m3 fun a4 w4 m4 => ?_
      exact fin _ 0 (st D _ l3) (fun i h1 h2 => by
        by_cases e : x.n + 3 = i
        · subst e; exact (sett D _ l3 (by omega)).2
        · rw [keep D _ _ _ e]; exact L3 i (by omega)) (by rw [keep D _ _ _ (by omega)]; exact k34) a4 w4 m4
    · refine ms_x1 hx hr m2 fun a3 w3 m3 => ?_
      exact goA _ (st B _ l2) (fun i h1 h2 h3 => by
        by_cases e : x.n + 3 = i
        · subst e; exact (sett B _ l2 (by omega)).2
        · rw [keep B _ _ _ e]; exact L2 i (by omega)) (by rw [keep B _ _ _ (by omega)]; exact k22) (by rw [keep B _ _ _ (by omega)]; exact k24) a3 w3 m3
  · refine ms_x1 hx hr m1 fun a2 w2 m2 => ?_
    have l2 := st A (x.n + 3) l1
    have s2 := sett A (x.n + 3) l1 (by omega)
    have L2 : ∀ j, j < x.n + 1 → (A.setIfInBounds (x.n + 3) true).getD j false = true := fun j hj => by
      rw [keep A _ _ _ (by omega)]; exact L1 j hj
    have k21 : (A.setIfInBounds (x.n + 3) true).getD (x.n + 1) true = false := by rw [keep A _ _ _ (by omega)]; exact k11
    have k22 : (A.setIfInBounds (x.n + 3) true).getD (x.n + 2) true = false := by rw [keep A _ _ _ (by omega)]; exact k12
    have k24 : (A.setIfInBounds (x.n + 3) true).getD (x.n + 4) true = false := by rw [keep A _ _ _ (by omega)]; exact k14
    generalize A.setIfInBounds (x.n + 3) true = B at l2 s2 L2 k21 k22 k24
    refine ⟨fun hnil => ?_, fun i hi => ?_⟩
    · have : x.n + 1 ∈ Region.ready .any ops B := least_ready hx.back (by omega) k21 L2
      rw [hnil] at this; cases this
    obtain ⟨i1, i2, i3⟩ := ready_of hi
    have hin : i = x.n + 1 := by
      by_cases hl : i < x.n + 1
      · have := L2 i hl; rw [nontrue i2] at this; cases this
      · have c : i = x.n + 1 ∨ i = x.n + 2 ∨ i = x.n + 3 ∨ i = x.n + 4 := by omega
        rcases c with rfl | rfl | rfl | rfl
        · rfl
        · have := i3 _ hx.w21; rw [nontrue k21] at this; cases this
        · rw [s2.1] at i2; cases i2
        · have := i3 _ hx.w42; rw [nontrue k22] at this; cases this
    subst hin
    refine ms_x0 hx hr m2 fun a3 w3 m3 => ?_
    exact goA _ (st B _ l2) (fun i h1 h2 h3 => by
      by_cases e : x.n + 1 = i
      · subst e; exact (sett B _ l2 (by omega)).2
      · rw [keep B _ _ _ e]
        by_cases e3 : i = x.n + 3
        · subst e3; exact s2.2
        · exact L2 i (by omega)) (by rw [keep B _ _ _ (by omega)]; exact k22) (by rw [keep B _ _ _ (by omega)]; exact k24) a3 w3 m3
theorem srcA_val {st : St} {y : AX} {k1 : Nat → (Nat → Nat → C) → Tr} {K1 : X → St → Prop} (hh : (srcA st sz y k1).holds P G K1) : ∃ m gy, (k1 m gy).holds P G K1 ∧ ∀ (k2 : Nat → (Nat → Nat → C) → Tr) (K2 : X → St → Prop), (k2 m gy).holds P G K2 → (srcA st sz y k2).holds P G K2 := by
  simp only [srcA] at hh
  split at hh
  · rename_i e1
    exact ⟨_, _, hh, fun k2 K2 h2 => by simp only [srcA, e1]; exact h2⟩
  · rename_i e1
    obtain ⟨c1, c2⟩ := chk_true hh
    exact ⟨_, _, c2, fun k2 K2 h2 => by simp only [srcA, e1]; exact chk_intro c1 h2⟩
  · rename_i sz' id' off len e1
    split at hh
    · rename_i e2
      obtain ⟨c1, c2, c3⟩ := chk_true hh
      exact ⟨_, _, c3, fun k2 K2 h2 => by simp only [srcA, e1, e2]; exact chk_intro c1 ⟨c2, h2⟩⟩
    · exact hh.elim
  · exact hh.elim
def isRaw : ACode → Bool
  | .raw _ => true
  | _ => false
theorem cReg_raw {ops : Array Oper} {draw : Bool} {c : ACode} (hc : cReg P ops draw = some c) : isRaw c = false := by
  cases draw with
  | false =>
    simp only [cReg, Option.map_eq_some_iff] at hc
    obtain ⟨al, _, rfl⟩ := hc
    rfl
  | true =>
    simp only [cReg] at hc
    split at hc
    · simp only [Option.bind_eq_bind, Option.bind_eq_some_iff, Option.pure_def, Option.some.injEq] at hc
      obtain ⟨al, _, hc⟩ := hc
      split at hc
      · injection hc with hc; subst hc; rfl
      · split at hc
        · injection hc with hc; subst hc; rfl
        · split at hc
          · split at hc
            · injection hc with hc; subst hc; rfl
            · cases hc
          · cases hc
    · cases hc
/-- A region that is kept as it is, by a rule of its own. -/
theorem ExA.raw {id : Nat} {ops : Array Oper} {draw : Bool} {st : St} {K : X → St → Prop} (h : Ex P G (.region id ops draw) st K) : ExA P G (.raw (.region id ops draw)) st K := by
  refine ExA.core fun c hns hc => ?_
  cases c with
  | scope c' => exact absurd rfl (hns c')
  | region id' ops' draw' =>
    simp only [cCode] at hc
    split at hc
    · rename_i c1 hc1
      injection hc with hc
      subst hc
      cases cReg_raw hc1
    · injection hc with hc
      injection hc with hc
      injection hc with e1 e2 e3
      subst e1; subst e2; subst e3
      exact h
  | seq c1 c2 => cases h2 : cCode P c1 <;> cases h3 : cCode P c2 <;> simp [cCode, h2, h3] at hc
  | cond y c1 c2 => cases h1 : cX y <;> cases h2 : cCode P c1 <;> cases h3 : cCode P c2 <;> simp [cCode, h1, h2, h3] at hc
  | block id c => cases h1 : cCode P c <;> simp [cCode, h1] at hc
  | loop c => cases h1 : cCode P c <;> simp [cCode, h1] at hc
  | _ => simp [cCode] at hc
theorem ExA.mapapp {ext : Ext} (hext : SoundExt P G ext) {rid : Nat} {al : List AI} (hmx : P.follows .mixedOrders = true) (hal0 : cOpers P ops (ops.toList.take x.n) = some al) (hok0 : regBB ops.toList al x.n = true) (hwt : wtB ops.toList x.n = true) (hx : MAOK P ops x) {st : St} {K1 : X → St → Prop}
    (hh : (regT (pureX ext) al st fun s => maT P x s fun s' => .done .normal s').holds P G K1) : ExA P G (.raw (.region rid ops true)) st K1 := by
  refine ExA.raw fun β R a w hs => ?_
  refine regG_sound hext hmx hal0 hok0 (by have := hx.size; omega) hwt hh hs ?_
  intro st' listed a' w' β' R' hk inv hall hs' hg
  rw [show ops.size - x.n = 5 by have := hx.size; omega]
  unfold maT at hk
  obtain ⟨c0, hk⟩ := chk_true hk
  have hr : ∀ d ∈ x.ds, d < st'.t.length := fun d hd => by
    have := allL_at c0 d hd
    rw [lenL_eq] at this
    simpa using this
  split at hk
  case h_2 => exact hk.elim
  rename_i id hsm
  split at hk
  case h_2 => exact hk.elim
  rename_i ok ty sz g hid
  split at hk
  case h_2 => exact hk.elim
  rename_i kv hsk
  obtain ⟨c1, ⟨c2, c3⟩, hk⟩ := chk_true hk
  simp only [Bool.and_eq_true] at c1
  obtain ⟨⟨⟨d1, d2⟩, d3⟩, d4⟩ := c1
  obtain ⟨m, gy, hk, hsrc⟩ := srcA_val hk
  obtain ⟨hlim, hk⟩ := hk
  cases st' with
  | mk t h =>
    refine ma_tail hx inv hall hr hs' hg.toFr hg.rm (Nat.eq_of_beq_eq_true d1) (Nat.eq_of_beq_eq_true d2) (by simpa using d3) (Nat.eq_of_beq_eq_true d4) hid hsm hsk c2 c3 hlim hsrc ?_
    intro a2 w2 β2 R2 k1 k2 k3
    exact ⟨β2, R2, _, hk, k1, k2, k3⟩
end
end Go.AE
