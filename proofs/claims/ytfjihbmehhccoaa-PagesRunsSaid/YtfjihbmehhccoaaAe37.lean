/- AE, part 37: `m[k] = append(m[k], x..)`: the map's entry is looked up once. -/
import Derived.Test.YtfjihbmehhccoaaAe36
namespace Go.AE
set_option linter.unusedVariables false
set_option linter.unusedSimpArgs false
open Go.RowKit

section
variable {P : Program} {G : Nat → Option Obj}
theorem me_run {tm : TypeId} {r : TypeId × TypeId × Nat} (hm : maplO P tm = some r) {w : World} {b : Nat} {es : Array MapEntry} {clock : Nat} (g1 : w.heap[b]? = some (.map es clock)) (g2 : BornOK es clock) (g3 : ∀ e ∈ es.toList, okK P r.1 e.key = true) {kv : Value} (hok : okK P r.1 kv = true) :
    ∃ (v : Value) (s : Nat) (es1 : Array MapEntry) (clock1 j : Nat) (e : MapEntry), (Instr.mapEntry tm (.map (some b)) kv).run P w = .ok (.tuple #[v, .int .i64 (s : Int)]) (ChangeMaps.setBlock w b (.map es1 clock1)) ∧ BornOK es1 clock1 ∧ es1.toList[j]? = some e ∧ e.key = kv ∧ e.val = v ∧ e.born = s ∧
      ((v = .slice none 0 0 ∧ (∀ x ∈ es.toList, x.key ≠ kv) ∧ es1.toList = es.toList ++ [e] ∧ j = es.toList.length) ∨ (es.toList[j]? = some e ∧ es1.toList = es.toList)) := by
  obtain ⟨e, hu, hK, hz⟩ := maplO_some hm
  have hok' := hok
  unfold okK at hok'
  obtain ⟨l, hl⟩ := Option.isSome_iff_exists.1 hok'
  have hes : ∀ e ∈ es.toList, ∃ l, keyOf P r.1 e.key = some l := fun e he => Option.isSome_iff_exists.1 (g3 e he)
  rcases hK.find w hl es.toList hes with ⟨f1, f2⟩ | ⟨j, e0, f1, f2, f3⟩
  · refine ⟨.slice none 0 0, clock, es.push ⟨kv, .slice none 0 0, clock⟩, clock + 1, es.toList.length, ⟨kv, .slice none 0 0, clock⟩, ?_, born_push g2 f2, by simp, rfl, rfl, rfl, .inl ⟨rfl, f2, by simp, rfl⟩⟩
    simp [Instr.mapEntry, run_underlying hu, MapKept.run_getObj_map g1, hK.check w false hl, f1, hz, MapKept.run_setObj_map _ g1, Result.andThen, ChangeMaps.setBlock, goInt]
  · have hj : es[j]? = some e0 := by simpa using f2
    have hlist : (es.modify j (fun e' => { e' with key := kv })).toList = es.toList := by
      rw [Array.toList_modify, ChangeMaps.modify_eq_set _ _ _ _ f2]
      apply List.ext_getElem?
      intro i
      rw [List.getElem?_set]
      split
      · rename_i h; subst h
        rw [if_pos (List.getElem?_eq_some_iff.1 f2).1, f2]
        subst f3; rfl
      · rfl
    have hst := hK.stays w hl
    have hB : BornOK (es.modify j (fun e' => { e' with key := kv })) clock := by
      unfold BornOK; rw [hlist]; exact g2
    refine ⟨e0.val, e0.born, es.modify j (fun e' => { e' with key := kv }), clock, j, e0, ?_, hB, by rw [hlist]; exact f2, f3, rfl, rfl, .inr ⟨f2, hlist⟩⟩
    simp [Instr.mapEntry, run_underlying hu, MapKept.run_getObj_map g1, hK.check w false hl, f1, hj, f3, hst, MapKept.run_setObj_map _ g1, Result.andThen, ChangeMaps.setBlock, goInt]
theorem es_run {tm : TypeId} {w : World} {b : Nat} {es : Array MapEntry} {clock : Nat} (g1 : w.heap[b]? = some (.map es clock)) (g2 : BornOK es clock) {j : Nat} {e : MapEntry} (hj : es.toList[j]? = some e) {s : Nat} (hs : e.born = s) (u : Value) :
    (Instr.entryStore tm (.map (some b)) (.int .i64 (s : Int)) u).run P w = .ok () (ChangeMaps.setBlock w b (.map (es.modify j fun e => { e with val := u }) clock)) := by
  have hjl := (List.getElem?_eq_some_iff.1 hj).1
  have hjs : j < es.size := by simpa using hjl
  have he : es[j] = e := by
    have := (List.getElem?_eq_some_iff.1 hj).2
    simpa using this
  have hf : es.findIdx? (fun e => (e.born : Int) == (s : Int)) = some j := by
    rw [Array.findIdx?_eq_some_iff_getElem]
    refine ⟨hjs, by rw [he, hs]; simp, fun i hi => ?_⟩
    have := List.pairwise_iff_getElem.1 g2.2.1 i j (by simp; omega) hjl hi
    have h2 : es.toList[j].born = s := by rw [(List.getElem?_eq_some_iff.1 hj).2, hs]
    rw [h2] at this
    have h3 : es.toList[i]'(by simp; omega) = es[i] := by simp
    rw [h3] at this
    simp
    omega
  simp [Instr.entryStore, MapKept.run_getObj_map g1, asInt, asIntOf, hf, MapKept.run_setObj_map _ g1, Result.andThen, ChangeMaps.setBlock]
theorem Sim.know {β : Bt} {R : Nat → Prop} {w : World} {st : St} {a : Act} (hs : Sim G β R st a w) {j : Nat} {u : Value} {y : V} (hu : a.tmps[j]? = some u) (hv : VR β R w y u) : Sim G β R ⟨upd y st.t j, st.h⟩ a w := by
  refine ⟨hs.df, ?_, hs.hs⟩
  have h1 := hs.tm.set j y u hv
  show All2 _ (upd y st.t j) a.tmps.toList
  rw [upd_eq]
  have e : a.tmps.toList.set j u = a.tmps.toList := by
    apply List.ext_getElem?
    intro i
    rw [List.getElem?_set]
    split
    · rename_i h; subst h
      have hl := (Array.getElem?_eq_some_iff.1 hu).1
      rw [if_pos (by simpa using hl), Array.getElem?_toList, hu]
    · rfl
  rwa [e] at h1
theorem act_put_same {a : Act} {d : Nat} {v : Value} (h : d < a.tmps.size) : (a.put (some d) v).tmps[d]? = some v := by
  show (a.tmps.setIfInBounds d v)[d]? = some v
  simp [h]
theorem act_put_other {a : Act} {d s : Nat} {v : Value} (h : d ≠ s) : (a.put (some d) v).tmps[s]? = a.tmps[s]? := by
  show (a.tmps.setIfInBounds d v)[s]? = _
  exact Array.getElem?_setIfInBounds_ne h
theorem act_put_size {a : Act} {d : Option Nat} {v : Value} : (a.put d v).tmps.size = a.tmps.size := by
  cases d with
  | none => rfl
  | some d => show (a.tmps.setIfInBounds d v).size = _; simp
def topsAt : List Nat → List V → List V
  | [], t => t
  | d :: r, t => topsAt r (upd (.c .top) t d)
theorem topsAt_length : ∀ (l : List Nat) (t : List V), (topsAt l t).length = t.length
  | [], _ => rfl
  | d :: r, t => by rw [topsAt, topsAt_length r, upd_eq, List.length_set]
theorem topsAt_nth_other {s : Nat} : ∀ (l : List Nat) (t : List V), s ∉ l → nth (.c .top) (topsAt l t) s = nth (.c .top) t s
  | [], _, _ => rfl
  | d :: r, t, h => by
    rw [topsAt, topsAt_nth_other r _ (fun h' => h (List.mem_cons_of_mem _ h'))]
    exact nth_upd_ne _ _ _ (fun e => h (by simp [e]))
theorem nth_upd_top {t : List V} {d s : Nat} : nth (.c .top) (upd (V.c C.top) t d) s = .c .top ∨ (d ≠ s ∧ nth (.c .top) (upd (V.c C.top) t d) s = nth (.c .top) t s) := by
  by_cases e : d = s
  · subst e
    left
    rcases Nat.lt_or_ge d t.length with h | h
    · exact nth_upd_eq _ _ _ h
    · rw [nth_eq, upd_eq, List.getD_eq_getElem?_getD, List.getElem?_eq_none (by simpa using h)]; rfl
  · exact .inr ⟨e, nth_upd_ne _ _ _ e⟩
theorem topsAt_nth : ∀ (l : List Nat) (t : List V) (s : Nat), nth (.c .top) (topsAt l t) s = .c .top ∨ nth (.c .top) (topsAt l t) s = nth (.c .top) t s
  | [], _, _ => .inr rfl
  | d :: r, t, s => by
    rcases topsAt_nth r (upd (.c .top) t d) s with h | h
    · exact .inl h
    · rcases nth_upd_top (t := t) (d := d) (s := s) with h1 | ⟨_, h1⟩
      · exact .inl (h.trans h1)
      · exact .inr (h.trans h1)
theorem topsAt_mem {s : Nat} : ∀ (l : List Nat) (t : List V), s ∈ l → nth (.c .top) (topsAt l t) s = .c .top
  | d :: r, t, h => by
    by_cases hr : s ∈ r
    · exact topsAt_mem r _ hr
    · rw [topsAt, topsAt_nth_other r _ hr]
      have e : s = d := (List.mem_cons.1 h).resolve_right hr
      subst e
      rcases nth_upd_top (t := t) (d := s) (s := s) with h1 | ⟨h1, _⟩
      · exact h1
      · exact absurd rfl h1
theorem Sim.tops {β : Bt} {R : Nat → Prop} {w : World} {st : St} {a : Act} (hs : Sim G β R st a w) (l : List Nat) : Sim G β R ⟨topsAt l st.t, st.h⟩ a w := by
  refine ⟨hs.df, All2.of_get (by rw [topsAt_length]; exact hs.tm.length) ?_, hs.hs⟩
  intro i x y hx hy
  have hx : (topsAt l st.t)[i]? = some x := hx
  have e : nth (.c .top) (topsAt l st.t) i = x := by rw [nth_eq, List.getD_eq_getElem?_getD, hx]; rfl
  rcases topsAt_nth l st.t i with h | h
  · rw [← e, h]; exact trivial
  · rw [← e, h]
    have hl : i < st.t.length := by
      have := (List.getElem?_eq_some_iff.1 hx).1
      rwa [topsAt_length] at this
    obtain ⟨y', h1, h2⟩ := hs.tm.get i st.t[i] (List.getElem?_eq_getElem hl)
    rw [hy] at h1; injection h1 with h1; subst h1
    rw [nth_eq, List.getD_eq_getElem?_getD, List.getElem?_eq_getElem hl]
    exact h2
/-- A masked slot is written. -/
theorem Sim.put_top {β β' : Bt} {R R' : Nat → Prop} {w w' : World} {t : List V} {h h' : List AO} {a : Act} (hs : Sim G β R ⟨t, h⟩ a w) (k : Gr β R w β' R' w') (hh : HS G β' R' w' h') {d : Nat} (hd : nth (.c .top) t d = .c .top) (u : Value) : Sim G β' R' ⟨t, h'⟩ (a.put (some d) u) w' := by
  have h1 := hs.put k hh (x := .c .top) (u := u) trivial (some d)
  have e : putT t (some d) (.c .top) = t := upd_self (d := .c .top) hd
  have h2 : Sim G β' R' ⟨putT t (some d) (.c .top), h'⟩ (a.put (some d) u) w' := h1
  rwa [e] at h2
end
end Go.AE
