/- Pages: LblN, Words, Idx, Grp, R2N, X1, X2, X3, X4, as far as they are used here. -/
import Derived.Test.YtecilaemjajcnaaGreatDoorProg
import Derived.WalkKit
import Derived.PlainAid
import Derived.Lib.Hide
import Derived.WalkSpells
import Derived.WalkLawsBesides
import Derived.Laws.RangeAny
import Derived.Below
import Derived.Laws.OwnMore
import Derived.Deep.AppendLies
import Derived.Maps.AppendAt
import Derived.RegionTactic
import Derived.OwnWalk
import Derived.LoopIn
import Derived.Test.YtecilaemjajcnaaGreatDoorRows
import Derived.Test.YtecilaemjajcnaaGreatDoorRRh
import Derived.ProofKit
import Derived.OpenShut
import Derived.Lib.LaidTab
import Derived.Test.YtecilaemjajcnaaGreatDoorRRe
import Derived.Test.YtecilaemjajcnaaGreatDoorRRd
import Derived.Laws.Strings
namespace Go.Proofs.YtecilaemjajcnaaGreatDoor
set_option linter.unusedVariables false
set_option linter.unusedSimpArgs false
open Go.RowKit
def okc (k : Nat) (c : Int) : Bool := (decide (97 ≤ c) && decide (c ≤ 122)) || (decide (k ≠ 0) && (c == 95 || (decide (48 ≤ c) && decide (c ≤ 57))))
def okUp (f : Nat → Int) (n : Nat) : Bool := (List.range n).all fun k => okc k (f k)
theorem okUp_succ (f : Nat → Int) (n : Nat) : okUp f (n + 1) = (okUp f n && okc n (f n)) := by simp [okUp, List.range_succ]
theorem okUp_iff (f : Nat → Int) (n : Nat) : okUp f n = true ↔ ∀ k, k < n → okc k (f k) = true := by simp [okUp]
def nameB (s : ByteArray) : Bool := decide (1 ≤ s.size) && decide (s.size ≤ 16) && okUp (PlainAid.bt s) s.size
theorem nameB_bad {s : ByteArray} {k : Nat} (hk : k < s.size) (h : okc k (PlainAid.bt s k) = false) : nameB s = false := by
  have : okUp (PlainAid.bt s) s.size = false := by
    rw [← Bool.not_eq_true, okUp_iff]
    intro h2
    rw [h2 k hk] at h
    cases h
  simp [nameB, this]
set_option maxRecDepth 100000 in
set_option maxHeartbeats 1000000 in
theorem lName_any (s : ByteArray) (w : World) :
    Calls Tryz.prog 13 #[.string s] w fun e w' => e = .returned (.bool (nameB s)) ∧ Below w.heap.size w w' := by
  by_cases h1 : s.size < 1
  · have : nameB s = false := by unfold nameB; rw [decide_eq_false (by omega)]; rfl
    rw [this]
    clear this
    go_enter Tryz.func13, Tryz.ntmps13
    go_wp2
    go_ret
    exact ⟨rfl, Below.refl _ _⟩
  · by_cases h2 : 16 < s.size
    · have : nameB s = false := by unfold nameB; rw [decide_eq_false (show ¬ s.size ≤ 16 by omega), Bool.and_false]; rfl
      rw [this]
      clear this
      go_enter Tryz.func13, Tryz.ntmps13
      go_wp2
      go_ret
      exact ⟨rfl, Below.refl _ _⟩
    · have d1 : decide ((s.size : Int) < 1) = false := by simp; omega
      have d2 : decide (16 < (s.size : Int)) = false := by simp; omega
      go_enter Tryz.func13, Tryz.ntmps13
      go_wp2
      go_loopw [3] (fun _ wr => ∃ k : Nat, k ≤ s.size ∧ okUp (PlainAid.bt s) k = true ∧ wr = w.iter s k) (fun _ wr => s.size - wr.iterPos w.heap.size)
      case atStart => exact ⟨0, Nat.zero_le _, rfl, rfl⟩
      case round =>
        obtain ⟨k, hk, hok, rfl⟩ := hrel
        have HOK := Lib.hid hok
        clear hok
        have hbel : ∀ p, Below w.heap.size w (w.iter s p) := fun p => (Below.refl _ w).alloc (Nat.le_refl _) _
        have HB := Lib.hid hbel
        clear hbel
        by_cases hp : k < s.size
        · by_cases ha : (s[k]'hp).toNat < 128
          · obtain ⟨c, hc⟩ : ∃ c : Int, c = PlainAid.bt s k := ⟨_, rfl⟩
            have hcb : 0 ≤ c ∧ c ≤ 127 := by rw [hc, ← PlainAid.get_bt s k hp]; omega
            have hnx : ∀ ty, (Instr.next (.pointer (some ⟨w.heap.size, 0, none⟩)) true ty).run Tryz.prog (w.iter s k) = .ok (.tuple #[.bool true, .int .i64 k, .int .i32 c]) (w.iter s (k + 1)) := fun ty => by
              rw [run_next_ascii w s k ty hp ha, hc, ← PlainAid.get_bt s k hp]
            have HC := Lib.hid hc
            clear hc ha
            by_cases hkc : okc k c = true
            · have HK := Lib.hid hkc
              have hkc' : (97 ≤ c ∧ c ≤ 122) ∨ (k ≠ 0 ∧ (c = 95 ∨ (48 ≤ c ∧ c ≤ 57))) := by simpa [okc] using hkc
              clear hkc
              rcases hkc' with ⟨g1, g2⟩ | ⟨g0, g1⟩
              · go_wp2
                go_roundw
                case rel => exact ⟨k + 1, by omega, by rw [okUp_succ, HOK.out, ← HC.out, HK.out]; rfl, rfl⟩
                case measure => simp; omega
              · have e0 : ((k : Int) == 0) = false := by simp; omega
                rcases g1 with g1 | ⟨g1, g2⟩
                · have e1 : (c != 95) = false := by simp [g1]
                  have e2 : decide (97 ≤ c) = false := by simp; omega
                  clear g1
                  go_wp2
                  go_roundw
                  case rel => exact ⟨k + 1, by omega, by rw [okUp_succ, HOK.out, ← HC.out, HK.out]; rfl, rfl⟩
                  case measure => simp; omega
                · have e1 : (c != 95) = true := by simp; omega
                  have e2 : decide (97 ≤ c) = false := by simp; omega
                  go_wp2
                  go_roundw
                  case rel => exact ⟨k + 1, by omega, by rw [okUp_succ, HOK.out, ← HC.out, HK.out]; rfl, rfl⟩
                  case measure => simp; omega
            · have hbad : nameB s = false := nameB_bad hp (by rw [← HC.out]; simpa using hkc)
              have HBAD := Lib.hid hbad
              have hkc' : ¬ ((97 ≤ c ∧ c ≤ 122) ∨ (k ≠ 0 ∧ (c = 95 ∨ (48 ≤ c ∧ c ≤ 57)))) := by simpa [okc] using hkc
              clear hkc hbad
              by_cases g0 : k = 0
              · subst g0
                by_cases g1 : 97 ≤ c
                · have e5 : decide (c ≤ 122) = false := by simp; omega
                  go_wp2
                  go_ret
                  exact ⟨by rw [HBAD.out]; rfl, HB.out _⟩
                · have e2 : decide (97 ≤ c) = false := by simp; omega
                  go_wp2
                  go_ret
                  exact ⟨by rw [HBAD.out]; rfl, HB.out _⟩
              · have e0 : ((k : Int) == 0) = false := by simp; omega
                have e1 : (c != 95) = true := by simp; omega
                by_cases g1 : 97 ≤ c
                · have e5 : decide (c ≤ 122) = false := by simp; omega
                  go_wp2
                  go_ret
                  exact ⟨by rw [HBAD.out]; rfl, HB.out _⟩
                · have e2 : decide (97 ≤ c) = false := by simp; omega
                  by_cases g2 : c < 48
                  · go_wp2
                    go_ret
                    exact ⟨by rw [HBAD.out]; rfl, HB.out _⟩
                  · have e3 : decide (c < 48) = false := by simp; omega
                    go_wp2
                    go_ret
                    exact ⟨by rw [HBAD.out]; rfl, HB.out _⟩
          · obtain ⟨h5, h6⟩ := decode_high s k hp (by omega)
            have hbad : nameB s = false := nameB_bad hp (by
              rw [← PlainAid.get_bt s k hp]
              unfold okc
              rw [decide_eq_false (show ¬ (((s[k]'hp).toNat : Int) ≤ 122) by omega), decide_eq_false (show ¬ (((s[k]'hp).toNat : Int) ≤ 57) by omega), Bool.and_false, Bool.and_false, Bool.or_false, Bool.false_or]
              rw [show (((s[k]'hp).toNat : Int) == 95) = false by simp; omega, Bool.and_false])
            have HBAD := Lib.hid hbad
            have hnx : ∀ ty, (Instr.next (.pointer (some ⟨w.heap.size, 0, none⟩)) true ty).run Tryz.prog (w.iter s k) = _ := fun ty => run_next_any w s k ty hp
            obtain ⟨r, hr⟩ : ∃ r : Nat, r = (Utf8.decode s k).1 := ⟨_, rfl⟩
            obtain ⟨d, hd⟩ : ∃ d : Nat, d = (Utf8.decode s k).2 := ⟨_, rfl⟩
            rw [← hr] at h5 hnx
            rw [← hd] at hnx
            clear hbad hr hd h6 ha
            have e1 : ((r : Int) != 95) = true := by simp; omega
            have e3 : decide ((r : Int) < 48) = false := by simp; omega
            have e4 : decide (57 < (r : Int)) = true := by simp; omega
            have e5 : decide ((r : Int) ≤ 122) = false := by simp; omega
            by_cases g0 : k = 0
            · subst g0
              go_wp2
              go_ret
              exact ⟨by rw [HBAD.out]; rfl, HB.out _⟩
            · have e0 : ((k : Int) == 0) = false := by simp; omega
              go_wp2
              go_ret
              exact ⟨by rw [HBAD.out]; rfl, HB.out _⟩
        · obtain rfl : k = s.size := by omega
          have hnx : ∀ ty, (Instr.next (.pointer (some ⟨w.heap.size, 0, none⟩)) true ty).run Tryz.prog (w.iter s s.size) = _ := fun ty => run_next_end w s s.size ty hp
          go_wp2
          go_ret
          refine ⟨?_, HB.out _⟩
          unfold nameB
          rw [HOK.out, decide_eq_true (show 1 ≤ s.size by omega), decide_eq_true (show s.size ≤ 16 by omega)]
          rfl
end Go.Proofs.YtecilaemjajcnaaGreatDoor
namespace Go.Proofs.YtecilaemjajcnaaGreatDoor
open Go.RowKit
def Rd (w : World) (B : Nat) (A : Option Addr) (n : Nat) (f : Nat → Value) : Prop := 0 < n → ∃ ad, A = some ad ∧ ad.block < B ∧ ∀ k, k < n → w.cell? (ad.add k) = some (f k)
theorem add_block (a : Addr) (n : Nat) : (a.add n).block = a.block := by unfold Addr.add; split <;> rfl
section
variable {w w' : World} {B B' n : Nat} {A : Option Addr} {f g : Nat → Value}
theorem Rd.keep (h : Rd w B A n f) (hk : ∀ p : Addr, p.block < B → w'.cell? p = w.cell? p) : Rd w' B A n f := fun hn => by
  obtain ⟨ad, e, hlt, hc⟩ := h hn
  exact ⟨ad, e, hlt, fun k hkn => (hk _ (by rw [add_block]; exact hlt)).trans (hc k hkn)⟩
theorem Rd.below (h : Rd w B A n f) (hb : Below B w w') : Rd w' B A n f := h.keep fun _ hp => hb.cell hp
theorem Rd.alloc (h : Rd w B A n f) (hB : B ≤ w.heap.size) (o : Obj) : Rd (w.alloc o) B A n f := h.keep fun p hp => World.cell?_alloc_lt w o p (by omega)
theorem Rd.setCell (h : Rd w B A n f) {p : Addr} (hB : B ≤ p.block) (u : Value) : Rd (w.setCell p u) B A n f :=
  h.keep fun q hq => World.cell?_setCell_other w p q u (fun e => by subst e; omega)
theorem Rd.grown (h : Rd w B A n f) {row : Option Nat} (hg : w.grownBy w' row) (hB : B ≤ w.heap.size) (hr : ∀ k, row = some k → B ≤ k) : Rd w' B A n f :=
  h.keep fun p hp => World.cell?_of_block (hg.block p.block (by omega) (fun e => by have := hr _ e.symm; omega))
theorem Rd.more (h : Rd w B A n f) (hB : B ≤ B') : Rd w B' A n f := fun hn => by
  obtain ⟨ad, e, hlt, hc⟩ := h hn
  exact ⟨ad, e, by omega, hc⟩
theorem Rd.at_ (h : Rd w B A n f) {k : Nat} (hk : k < n) : ∃ ad, A = some ad ∧ ad.block < B ∧ w.cell? (ad.add k) = some (f k) := by
  obtain ⟨ad, e, hlt, hc⟩ := h (by omega)
  exact ⟨ad, e, hlt, hc k hk⟩
theorem Rd.congr (h : Rd w B A n f) (e : ∀ k, k < n → f k = g k) : Rd w B A n g := fun hn => by
  obtain ⟨ad, ea, hlt, hc⟩ := h hn
  exact ⟨ad, ea, hlt, fun k hk => by rw [hc k hk, e k hk]⟩
theorem Rd.take (h : Rd w B A n f) {m : Nat} (hm : m ≤ n) : Rd w B A m f := fun hn => by
  obtain ⟨ad, e, hlt, hc⟩ := h (by omega)
  exact ⟨ad, e, hlt, fun k hk => hc k (by omega)⟩
theorem Rd.nil : Rd w B A 0 f := fun h => absurd h (by omega)
theorem Rd.of_own {base : Nat} {e : TypeId} {v : Value} {xs : List Value} (h : w.ownsRow base e 1 v n xs) : ∃ A c, v = .slice A n c ∧ n ≤ c ∧ Rd w w.heap.size A n fun k => xs[k]?.getD undef := by
  have hl := h.1
  rcases h.2 with ⟨rfl, rfl⟩ | ⟨g, cap, cur, rfl, hb, hg, hnc, hcm, hcs, htake⟩
  · exact ⟨_, _, rfl, Nat.le_refl _, Rd.nil⟩
  · refine ⟨_, _, rfl, hnc, fun hn => ⟨_, rfl, (h.lt g rfl).2, fun k hk => ?_⟩⟩
    have hk' : k < xs.length := by omega
    have := h.cells (g := g) rfl k xs[k] (List.getElem?_eq_getElem hk')
    rw [this]
    simp only [List.getElem?_eq_getElem hk', Option.getD_some]
end
theorem Rd.next {w w' : World} {A : Option Addr} {n : Nat} {f : Nat → Value} (h : Rd w w.heap.size A n f) (hb : Below w.heap.size w w') : Rd w' w'.heap.size A n f := (h.below hb).more hb.size
def vl (f : Nat → Value) (n : Nat) : List Value := (List.range n).map f
theorem vl_length (f : Nat → Value) (n : Nat) : (vl f n).length = n := by simp [vl]
theorem vl_get (f : Nat → Value) (n k : Nat) (hk : k < n) : (vl f n)[k]? = some (f k) := by simp [vl, hk]
theorem vl_succ (f : Nat → Value) (n : Nat) : vl f (n + 1) = vl f n ++ [f n] := by simp [vl, List.range_succ]
theorem vl_getD (f : Nat → Value) (n k : Nat) (hk : k < n) (u : Value) : (vl f n)[k]?.getD u = f k := by rw [vl_get f n k hk]; rfl
section
variable {P : Program} (w : World)
theorem run_append_nil_src (base : Nat) (t ty e : TypeId) (i : TypeInfo) (size : Nat) (ht : P.underlying t = some (.slice e)) (hi : P.info? e = some i)
    (v : Value) (n : Nat) (xs : List Value) (hown : w.ownsRow base e size v n xs) (c : Nat) : (Builtin.append_ #[t, t] ty #[v, .slice none 0 c]).run P w = .ok v w := by
  rcases hown.2 with ⟨rfl, rfl⟩ | ⟨g, cap, cur, rfl, _, _, hnc, _⟩
  · simp [Builtin.append_, run_underlying ht, sizeOf, typeInfo, hi, Builtin.lenOf, Builtin.firstCells]
  · simp [Builtin.append_, run_underlying ht, sizeOf, typeInfo, hi, Builtin.lenOf, Builtin.firstCells, hnc, storeCells]
theorem run_append_rd (base : Nat) (t ty e : TypeId) (i : TypeInfo) (z : Value) (bytes : Nat) (ht : P.underlying t = some (.slice e)) (hi : P.info? e = some i) (hz : i.zero = some z)
    (hsize : i.size = 1) (hby : i.bytes = bytes) (hzs : z.cells.size = 1)
    (v : Value) (n : Nat) (xs : List Value) (hown : w.ownsRow base e 1 v n xs)
    (B : Nat) (A : Option Addr) (m c : Nat) (f : Nat → Value) (hr : Rd w B A m f) (h1 : ∀ k, (f k).oneCell' = true)
    (h63 : n + m ≤ maxLen) (hbytes : (n + m) * bytes ≤ 140737488355328) (hbase : base ≤ w.heap.size) :
    ∃ v' w', (Builtin.append_ #[t, t] ty #[v, .slice A m c]).run P w = .ok v' w' ∧ w'.ownsRow base e 1 v' (n + m) (xs ++ vl f m) ∧ w.grownBy w' v.ownBlock ∧
      (v'.ownBlock = v.ownBlock ∨ v'.ownBlock = some w.heap.size) ∧ (v' = .slice none 0 0 ↔ v = .slice none 0 0 ∧ m = 0) := by
  rcases A with _ | ad
  · obtain rfl : m = 0 := by
      rcases Nat.eq_zero_or_pos m with h0 | h0
      · exact h0
      · obtain ⟨ad, h, _⟩ := hr h0
        cases h
    exact ⟨v, w, run_append_nil_src w base t ty e i 1 ht hi v n xs hown c, by simpa [vl] using hown, World.grownBy.refl w _, .inl rfl, by simp⟩
  · have hcells : ∀ j u, (vl f m)[j]? = some u → w.cell? (ad.add j) = some u := by
      intro j u hu
      by_cases hj : j < m
      · obtain ⟨ad', h, _, hc⟩ := hr (by omega)
        injection h with h
        subst h
        rw [vl_get f m j hj] at hu
        rw [hc j hj]; exact hu
      · rw [List.getElem?_eq_none (by rw [vl_length]; omega)] at hu
        cases hu
    obtain ⟨v', w', hrun, h2, h3, h4, h5⟩ := run_append_own_at (P := P) w base t ty e i z 1 bytes ht hi hz hsize hby hzs (by decide) v n xs hown ad m c (vl f m) (by rw [vl_length]; omega) hcells (fun u hu => by simp only [vl, List.mem_map] at hu; obtain ⟨k, _, rfl⟩ := hu; exact h1 k) h63 hbytes hbase
    exact ⟨v', w', hrun, h2, h3, h5, h4⟩
theorem wp_append_rd {o : Oper} {a : Act} {K : Act → World → Prop} {Q : Exit → Act → World → Prop} (s x : Operand) (t : TypeId)
    (ho : o.op = .call { callee := .builtin .append, args := #[s, x], argTypes := #[t, t] })
    (base : Nat) (e : TypeId) (i : TypeInfo) (z : Value) (bytes : Nat) (ht : P.underlying t = some (.slice e)) (hi : P.info? e = some i) (hz : i.zero = some z)
    (hsize : i.size = 1) (hby : i.bytes = bytes) (hzs : z.cells.size = 1)
    (v : Value) (n : Nat) (xs : List Value) (hs : a.eval s = v) (hown : w.ownsRow base e 1 v n xs)
    (B : Nat) (A : Option Addr) (m c : Nat) (f : Nat → Value) (hx : a.eval x = .slice A m c) (hr : Rd w B A m f) (h1 : ∀ k, (f k).oneCell' = true)
    (h63 : n + m ≤ maxLen) (hbytes : (n + m) * bytes ≤ 140737488355328) (hbase : base ≤ w.heap.size)
    (h : ∀ v' w', w'.ownsRow base e 1 v' (n + m) (xs ++ vl f m) → w.grownBy w' v.ownBlock → (v'.ownBlock = v.ownBlock ∨ v'.ownBlock = some w.heap.size) → (v' = .slice none 0 0 ↔ v = .slice none 0 0 ∧ m = 0) → K (a.put o.dst v') w') : o.wp P a w K Q := by
  obtain ⟨v', w', hrun, h2, h3, h4, h5⟩ := run_append_rd (P := P) w base t o.type e i z bytes ht hi hz hsize hby hzs v n xs hown B A m c f hr h1 h63 hbytes hbase
  unfold Oper.wp execOp
  simp only [ho, resolve, invoke, builtin, Sem.run_bind, Sem.run_pure, Result.andThen_ok, List.map_toArray, List.map_cons, List.map_nil, hs, hx, hrun]
  exact h v' w' h2 h3 h4 h5
theorem wpList_append_rd {ops : Array Oper} {rest : List Oper} {o : Oper} {a : Act} {Q : Exit → Act → World → Prop} (hgd : o.guard = none) (s x : Operand) (t : TypeId)
    (ho : o.op = .call { callee := .builtin .append, args := #[s, x], argTypes := #[t, t] })
    (base : Nat) (e : TypeId) (i : TypeInfo) (z : Value) (bytes : Nat) (ht : P.underlying t = some (.slice e)) (hi : P.info? e = some i) (hz : i.zero = some z)
    (hsize : i.size = 1) (hby : i.bytes = bytes) (hzs : z.cells.size = 1)
    (v : Value) (n : Nat) (xs : List Value) (hs : a.eval s = v) (hown : w.ownsRow base e 1 v n xs)
    (B : Nat) (A : Option Addr) (m c : Nat) (f : Nat → Value) (hx : a.eval x = .slice A m c) (hr : Rd w B A m f) (h1 : ∀ k, (f k).oneCell' = true)
    (h63 : n + m ≤ maxLen) (hbytes : (n + m) * bytes ≤ 140737488355328) (hbase : base ≤ w.heap.size)
    (h : ∀ v' w', w'.ownsRow base e 1 v' (n + m) (xs ++ vl f m) → w.grownBy w' v.ownBlock → (v'.ownBlock = v.ownBlock ∨ v'.ownBlock = some w.heap.size) → (v' = .slice none 0 0 ↔ v = .slice none 0 0 ∧ m = 0) → wpList P ops Q rest (a.put o.dst v') w') : wpList P ops Q (o :: rest) a w :=
  wpList_plain hgd fun _ hK => wp_append_rd w s x t ho base e i z bytes ht hi hz hsize hby hzs v n xs hs hown B A m c f hx hr h1 h63 hbytes hbase fun v' w' h2 h3 h4 h5 => hK _ _ (h v' w' h2 h3 h4 h5)
end
end Go.Proofs.YtecilaemjajcnaaGreatDoor
namespace Go.Proofs.YtecilaemjajcnaaGreatDoor
open Go.RowKit
set_option maxRecDepth 100000 in
set_option maxHeartbeats 1000000 in
theorem indexS_any (A : Option Addr) (len cap : Nat) (hlen : len ≤ 1000000) (W : Nat → ByteArray) (nm : ByteArray) (w : World) (hR : Rd w w.heap.size A len fun k => .string (W k)) :
    Calls Tryz.prog 69 #[.slice A len cap, .string nm] w fun e w' => w = w' ∧ ∃ r : Int, e = .returned (.int .i64 r) ∧ -1 ≤ r ∧ r ≤ len ∧ (0 ≤ r ↔ ∃ k, k < len ∧ W k = nm) := by
  go_enter Tryz.func69, Tryz.ntmps69
  go_wp2
  go_loop [8] (fun x => ∃ k : Nat, k ≤ len ∧ x = .int .i64 (k : Int) ∧ ∀ j, j < k → W j ≠ nm) (fun x => len - (intOf x).toNat)
  case atStart => exact ⟨0, Nat.zero_le _, rfl, fun j hj => by omega⟩
  case round =>
    obtain ⟨k, hk, rfl, hno⟩ := hrel
    by_cases hlt : k < len
    · obtain ⟨ad, rfl, hab, hac⟩ := hR.at_ hlt
      by_cases he : W k = nm
      · go_wp2
        go_ret
        exact ⟨rfl, k, rfl, by omega, by omega, fun _ => ⟨k, hlt, he⟩, fun _ => by omega⟩
      · have hb : (nm.toList == (W k).toList) = false := by
          rw [beq_eq_false_iff_ne]
          intro e
          rw [ByteArray.toList_eq, ByteArray.toList_eq] at e
          refine he ?_
          cases nm; rename_i nm
          cases hW : W k; rename_i wk
          rw [hW] at e
          simp only [ByteArray.mk.injEq]
          exact (Array.ext' e).symm
        go_wp2
        go_round
        case rel => exact ⟨k + 1, by omega, by go_num, fun j hj => by
          rcases Nat.lt_or_ge j k with h | h
          · exact hno j h
          · obtain rfl : j = k := by omega
            exact he⟩
        case measure => simp [intOf]; omega
    · obtain rfl : k = len := by omega
      go_wp2
      go_ret
      exact ⟨rfl, -1, rfl, by omega, by omega, fun h => by omega, fun ⟨j, hj, e⟩ => absurd e (hno j hj)⟩
set_option maxRecDepth 100000 in
set_option maxHeartbeats 1000000 in
theorem containsS_any (A : Option Addr) (len cap : Nat) (hlen : len ≤ 1000000) (W : Nat → ByteArray) (nm : ByteArray) (w : World) (hR : Rd w w.heap.size A len fun k => .string (W k)) :
    Calls Tryz.prog 51 #[.slice A len cap, .string nm] w fun e w' => w = w' ∧ ∃ b : Bool, e = .returned (.bool b) ∧ (b = true ↔ ∃ k, k < len ∧ W k = nm) := by
  go_enter Tryz.func51, Tryz.ntmps51
  go_wp2_with (go_at_call 69; refine (indexS_any _ _ _ hlen W nm _ hR).mono ?_; rintro e w' ⟨rfl, r, rfl, h1, h2, h3⟩)
  go_ret
  exact ⟨rfl, _, rfl, by simp⟩
end Go.Proofs.YtecilaemjajcnaaGreatDoor
namespace Go.CE
noncomputable def gw : List C := [.f (.s [115, 117, 109]), .f (.s [109, 105, 110]), .f (.s [109, 97, 120]), .f (.s [99, 111, 117, 110, 116]), .f (.s [107, 116, 104])]
end Go.CE
namespace Go.Proofs.YtecilaemjajcnaaGreatDoor
open Go.ChangeShapes Go.WideShapes Go.ChangeAt Go.RowKit
theorem gGrp : Tryz.prog.globalNamed "intervalmon/parser.groupWords" = some 0 := by kernel_rfl
theorem gGrpType : (Tryz.prog.globals[0]?).map (·.type) = some 108 := by kernel_rfl
theorem cellsStr1 : Tryz.prog.cellsOf 9 = 1 := by kernel_rfl
def GrpW (W : World) : Prop := ∃ o, W.heap[0]? = some o ∧ Go.CE.GlbOK o Go.CE.gw
theorem grp_of_laid {W : World} (h : laidMetH Tryz.prog [("intervalmon/parser.groupWords", Rows.laid_intervalmon_parser_groupWords)] W) : GrpW W := by
  obtain ⟨ps, ⟨g', t', cs, fuel, p, q, hg', ht', hvar, hd, _, _⟩, _⟩ := h
  obtain rfl := Option.some.inj (gGrp.symm.trans hg')
  obtain rfl := Option.some.inj (gGrpType.symm.trans ht')
  obtain ⟨xs, m, _, ex, hlc, hl, hel⟩ := DataW.trod_array Tryz.underlying108 hd
  simp only [Prod.mk.injEq] at ex
  have hdat : xs.map (·.1) = [DataW.lit (.string [115, 117, 109]), .lit (.string [109, 105, 110]), .lit (.string [109, 97, 120]), .lit (.string [99, 111, 117, 110, 116]), .lit (.string [107, 116, 104])] := by
    have := ex.1
    unfold Rows.laid_intervalmon_parser_groupWords at this
    injection this with this
    exact this.symm
  rw [cellsStr1] at hel
  have key : ∀ (i : Nat) (bs : List UInt8), i < 5 → (xs.map (·.1))[i]? = some (DataW.lit (.string bs)) → ∃ s : ByteArray, cs[i]? = some (.string s) ∧ s.data.toList = bs := by
    intro i bs hi hz
    have hi' : i < xs.length := by omega
    have h1 := hel i hi
    rw [List.getElem?_map, List.getElem?_eq_getElem hi'] at hz
    rw [List.getElem?_eq_getElem hi'] at h1
    have hz' : (xs[i]).1 = DataW.lit (.string bs) := by injection hz
    obtain ⟨s, e1, e2, _⟩ := DataW.trod_string Tryz.underlying9 h1
    refine ⟨s, ?_, ?_⟩
    · have := congrArg (·[0]?) e1
      simpa [List.getElem?_take, List.getElem?_drop] using this
    · rw [e2] at hz'
      injection hz' with hz'
      injection hz'
  rw [hdat] at key
  have hv : ∃ ty fz, W.heap[0]? = some (.cells cs ty fz) := by
    unfold World.var? at hvar
    rw [gGrp] at hvar
    simp only [Option.bind_some] at hvar
    split at hvar
    · rename_i c t f e; cases hvar; exact ⟨_, _, e⟩
    · cases hvar
  obtain ⟨ty, fz, hv⟩ := hv
  refine ⟨_, hv, cs, ty, fz, rfl, ?_, ?_⟩
  · obtain ⟨s, h1, _⟩ := key 4 _ (by omega) rfl
    have := (Array.getElem?_eq_some_iff.1 h1).1
    show 5 ≤ cs.size
    omega
  · intro k c hc
    have fin : ∀ (i : Nat) (bs : List UInt8), i < 5 → (∃ s : ByteArray, cs[i]? = some (.string s) ∧ s.data.toList = bs) → ∃ u, cs[i]? = some u ∧ Go.CE.CR Go.CE.Bt.nil (.f (.s (bs.map UInt8.toNat))) u := fun i bs hi ⟨s, h1, h2⟩ => ⟨_, h1, s, rfl, by rw [h2]⟩
    have hk : k = 0 ∨ k = 1 ∨ k = 2 ∨ k = 3 ∨ k = 4 := by
      have : k < 5 := (List.getElem?_eq_some_iff.1 hc).1
      omega
    rcases hk with rfl | rfl | rfl | rfl | rfl <;> cases hc
    · exact fin 0 _ (by omega) (key 0 _ (by omega) rfl)
    · exact fin 1 _ (by omega) (key 1 _ (by omega) rfl)
    · exact fin 2 _ (by omega) (key 2 _ (by omega) rfl)
    · exact fin 3 _ (by omega) (key 3 _ (by omega) rfl)
    · exact fin 4 _ (by omega) (key 4 _ (by omega) rfl)
end Go.Proofs.YtecilaemjajcnaaGreatDoor
namespace Go.AE
set_option linter.unusedVariables false
set_option linter.unusedSimpArgs false
open Go.Proofs Go.Proofs.YtecilaemjajcnaaGreatDoor
def mName : Mod
  | [.c (.p (.s s))] => some (True, bV (nameB s))
  | _ => none
def extL : Ext := extOf [(28, mLetter)]
theorem tName1 (s : ByteArray) : exTs ext0 (takeL 4 (pcs Tryz.prog Tryz.f17)) (st0 Tryz.f17 [sV s]) (endF [] (msk 48 [0, 3]) (resOf Tryz.prog Tryz.f17)) = bT (decide ((↑s.size : Int) < 1)) (.done .ret (St.mk [V.c (C.p (PV.b false))] []))
 (bT (decide (16 < (↑s.size : Int))) (.done .ret (St.mk [V.c (C.p (PV.b false))] []))
 (.done .normal
 (cst 48 [(0, .c (.p (.s s))), (3, .c (.p (.i .i64 0)))] []))) := by kernel_rfl
theorem tName2 (s : ByteArray) (i : Int) : exTs extL (lpB (pcs Tryz.prog Tryz.f17) 4) (cst 48 [(0, sV s), (3, iV i)] []) (endF [] (msk 48 [0, 3]) (resOf Tryz.prog Tryz.f17)) = bT (decide (i < (↑s.size : Int)))
 (.rq (0 ≤ i ∧ i < (↑s.size : Int))
 (bT (decide (48 ≤ byteAt s i.toNat))
 (.rq (0 ≤ i ∧ i < (↑s.size : Int))
 (bT (decide (byteAt s i.toNat ≤ 57))
 (.rq (0 ≤ i ∧ i < (↑s.size : Int))
 (.rq True
 (bT (!letterB (byteAt s i.toNat))
 (bT (i == 0) (.done .ret (St.mk [V.c (C.p (PV.b false))] []))
 (.rq (inR IntKind.i64 (i + 1))
 (.done .normal
 (cst 48 [(0, .c (.p (.s s))), (3, .c (.p (.i .i64 (i + 1))))] []))))
 (.rq (inR IntKind.i64 (i + 1))
 (.done .normal
 (cst 48 [(0, .c (.p (.s s))), (3, .c (.p (.i .i64 (i + 1))))] []))))))
 (.rq (0 ≤ i ∧ i < (↑s.size : Int))
 (.rq (0 ≤ i ∧ i < (↑s.size : Int))
 (.rq True
 (bT (!letterB (byteAt s i.toNat))
 (bT (i == 0) (.done .ret (St.mk [V.c (C.p (PV.b false))] []))
 (bT (!byteAt s i.toNat == 95) (.done .ret (St.mk [V.c (C.p (PV.b false))] []))
 (.rq (inR IntKind.i64 (i + 1))
 (.done .normal
 (cst 48 [(0, .c (.p (.s s))), (3, .c (.p (.i .i64 (i + 1))))] [])))))
 (.rq (inR IntKind.i64 (i + 1))
 (.done .normal
 (cst 48 [(0, .c (.p (.s s))), (3, .c (.p (.i .i64 (i + 1))))] [])))))))))
 (.rq (0 ≤ i ∧ i < (↑s.size : Int))
 (.rq (0 ≤ i ∧ i < (↑s.size : Int))
 (.rq True
 (bT (!letterB (byteAt s i.toNat))
 (bT (i == 0) (.done .ret (St.mk [V.c (C.p (PV.b false))] []))
 (bT (!byteAt s i.toNat == 95) (.done .ret (St.mk [V.c (C.p (PV.b false))] []))
 (.rq (inR IntKind.i64 (i + 1))
 (.done .normal
 (cst 48 [(0, .c (.p (.s s))), (3, .c (.p (.i .i64 (i + 1))))] [])))))
 (.rq (inR IntKind.i64 (i + 1))
 (.done .normal
 (cst 48 [(0, .c (.p (.s s))), (3, .c (.p (.i .i64 (i + 1))))] [])))))))))
 (.done (.exit 0)
 (cst 48 [(0, .c (.p (.s s))), (3, .c (.p (.i .i64 i)))] [])) := by kernel_rfl
theorem tName3 (s : ByteArray) (i : Int) : exTs ext0 (dropL 5 (pcs Tryz.prog Tryz.f17)) (cst 48 [(0, sV s), (3, iV i)] []) (endF [] [] (resOf Tryz.prog Tryz.f17)) = Tr.done X.ret (St.mk [V.c (C.p (PV.b true))] []) := by kernel_rfl
theorem byteAt_bt (s : ByteArray) (k : Nat) : byteAt s k = PlainAid.bt s k := by
  unfold byteAt PlainAid.bt
  split
  · rename_i h
    have h' : k < s.data.toList.length := by simpa using h
    rw [List.getD_eq_getElem?_getD, List.getElem?_eq_getElem h']
    simp [ByteArray.getElem_eq_getElem_data]
  · rename_i h
    have h' : s.data.toList.length ≤ k := by simpa using h
    rw [List.getD_eq_getElem?_getD, List.getElem?_eq_none h']
    rfl
section
variable {G : Nat → Option Obj}
theorem extL_sound : SoundExt Tryz.prog G extL := extOf_sound (by simp; exact okLetter)
theorem okc_iff (k : Nat) (c : Int) : okc k c = true ↔ (97 ≤ c ∧ c ≤ 122) ∨ (k ≠ 0 ∧ (c = 95 ∨ (48 ≤ c ∧ c ≤ 57))) := by simp [okc]
theorem letterB_iff (c : Int) : letterB c = true ↔ 97 ≤ c ∧ c ≤ 122 := by simp [letterB]
set_option maxRecDepth 100000 in
theorem okName : ModOK Tryz.prog G 17 mName := by
  intro args p v hm hp h
  unfold mName at hm
  split at hm
  · rename_i s
    injection hm with hm
    injection hm with e1 e2
    subst e1; subst e2
    refine fn_S Tryz.func17 (by kernel_rfl) rfl ?_ h
    refine ExS.ev ext0_sound 4 [] (msk 48 [0, 3]) rfl (tName1 s) ?_
    simp only [holds_bT, holds_done, kf_ret', kf_normal]
    refine ⟨fun h1 => VLe.of_eq ?_, fun h1 => ⟨fun h2 => VLe.of_eq ?_, fun h2 => ?_⟩⟩
    · have h1 : ((s.size : Nat) : Int) < 1 := by simpa using h1
      have : nameB s = false := by unfold nameB; rw [decide_eq_false (by omega)]; rfl
      rw [this]; rfl
    · have h2 : (16 : Int) < s.size := by simpa using h2
      have : nameB s = false := by unfold nameB; rw [decide_eq_false (show ¬ s.size ≤ 16 by omega), Bool.and_false]; rfl
      rw [this]; rfl
    · have h1 : ¬ ((s.size : Nat) : Int) < 1 := by simpa using h1
      have h2 : ¬ (16 : Int) < s.size := by simpa using h2
      refine ExS.loop (l := dropL 4 (pcs Tryz.prog Tryz.f17)) (b := inr (inr (nth .skip (pcs Tryz.prog Tryz.f17) 4))) (r := dropL 5 (pcs Tryz.prog Tryz.f17)) (id := 0) (by kernel_rfl)
        (fun i : Int => cst 48 [(0, sV s), (3, iV i)] []) (fun i => 0 ≤ i ∧ i ≤ s.size ∧ okUp (PlainAid.bt s) i.toNat = true) (fun i => (s.size - i).toNat) 0 ⟨by omega, by omega, rfl⟩ (weak_of_eq (by kernel_rfl)) ?_
      rintro i ⟨i0, i1, hi⟩
      refine ExS.evA extL_sound [] (msk 48 [0, 3]) rfl (tName2 s i) ?_
      have hb := byteAt_bt s i.toNat
      generalize byteAt s i.toNat = c at hb
      have hsucc : (i + 1).toNat = i.toNat + 1 := by omega
      have bad : i < s.size → ¬ ((97 ≤ c ∧ c ≤ 122) ∨ (i.toNat ≠ 0 ∧ (c = 95 ∨ (48 ≤ c ∧ c ≤ 57)))) → VLe (V.c (C.p (PV.b false))) (bV (nameB s)) := fun hlt hc => by
        rw [nameB_bad (k := i.toNat) (by omega) (by rw [← hb, ← Bool.not_eq_true, okc_iff]; exact hc)]; exact VLe.refl _
      have good : i < s.size → ((97 ≤ c ∧ c ≤ 122) ∨ (i.toNat ≠ 0 ∧ (c = 95 ∨ (48 ≤ c ∧ c ≤ 57)))) → ∃ s' : Int, (0 ≤ s' ∧ s' ≤ s.size ∧ okUp (PlainAid.bt s) s'.toNat = true) ∧ (s.size - s').toNat < (s.size - i).toNat ∧ WeakS G (cst 48 [(0, V.c (C.p (PV.s s))), (3, V.c (C.p (PV.i .i64 (i + 1))))] []) (cst 48 [(0, sV s), (3, iV s')] []) := fun hlt hc =>
        ⟨i + 1, ⟨by omega, by omega, by rw [hsucc, okUp_succ, hi, ← hb, (okc_iff _ _).2 hc]; rfl⟩, by omega, weak_of_eq (by kernel_rfl)⟩
      have after : ¬ i < s.size → ExS Tryz.prog G (resOf Tryz.prog Tryz.f17) (bV (nameB s)) (dropL 5 (pcs Tryz.prog Tryz.f17)) (cst 48 [(0, V.c (C.p (PV.s s))), (3, V.c (C.p (PV.i .i64 i)))] []) (fun _ _ => False) := fun hlt => by
        refine ExS.evA ext0_sound [] [] rfl (tName3 s i) ?_
        have : nameB s = true := by
          obtain rfl : i = s.size := by omega
          unfold nameB
          rw [decide_eq_true (by omega), decide_eq_true (show s.size ≤ 16 by omega)]
          simpa using hi
        simp only [holds_done, kf_ret']
        rw [this]
        exact VLe.refl _
      simp only [holds_bT, holds_rq, holds_leaf, kf_ret', kf_normal, kf_exit, decide_eq_true_eq, decide_eq_false_iff_not, Bool.not_eq_true', Bool.not_eq_false', beq_iff_eq, beq_eq_false_iff_ne, letterB_iff, ← Bool.not_eq_true, inR, if_true]
      repeat' (first | apply And.intro | intro _)
      all_goals first | trivial | (clear bad good after; omega) | exact ⟨after ‹_›⟩ | exact ⟨bad ‹_› (by clear bad good after; omega)⟩ | exact ⟨good ‹_› (by clear bad good after; omega)⟩
  · cases hm
end
end Go.AE
namespace Go.AE
set_option linter.unusedVariables false
set_option linter.unusedSimpArgs false
open Go.Proofs Go.Proofs.YtecilaemjajcnaaGreatDoor
def u6V (n : Int) : V := .c (.p (.i .u64 n))
def absZ (n : Int) : Int := if n < 0 then -n else n
def gcdZ (a b : Int) : Int := (Nat.gcd a.toNat b.toNat : Nat)
def frE (a b e : Int) : V := .t [.a [.p (.i .i64 a), .p (.i .i64 b)], .c (.p (.i .i64 e))]
def validQ (n d : Int) : Bool := decide (1 ≤ d) && decide (d ≤ 4611686018427387904) && decide (-4611686018427387904 ≤ n) && decide (n ≤ 4611686018427387904) && decide (gcdZ (absZ n) d = 1)
def mLName : Mod
  | [.c (.p (.s s))] => some (True, bV (nameB s))
  | _ => none
def mSize : Mod
  | [.c (.p (.i .i64 n))] => some (inR .i64 n, u6V (absZ n))
  | _ => none
def mCommon : Mod
  | [.c (.p (.i .u64 a)), .c (.p (.i .u64 b))] => some (0 ≤ a ∧ 0 ≤ b, u6V (gcdZ a b))
  | _ => none
def mAbsI : Mod
  | [.c (.p (.i .i64 n))] => some (-9223372036854775807 ≤ n ∧ n ≤ 9223372036854775807, iV (absZ n))
  | _ => none
def mGcdI : Mod
  | [.c (.p (.i .i64 a)), .c (.p (.i .i64 b))] => some (0 ≤ a ∧ 0 ≤ b, iV (gcdZ a b))
  | _ => none
def newN (n d : Int) : Int := if absZ n > 9223372036854775807 ∨ absZ n / gcdZ (absZ n) d > 4611686018427387904 ∨ d / gcdZ (absZ n) d > 4611686018427387904 then 0 else if n < 0 then -(absZ n / gcdZ (absZ n) d) else absZ n / gcdZ (absZ n) d
def newD (n d : Int) : Int := if absZ n > 9223372036854775807 ∨ absZ n / gcdZ (absZ n) d > 4611686018427387904 ∨ d / gcdZ (absZ n) d > 4611686018427387904 then 0 else d / gcdZ (absZ n) d
def newE (n d : Int) : Int := if absZ n > 9223372036854775807 ∨ absZ n / gcdZ (absZ n) d > 4611686018427387904 ∨ d / gcdZ (absZ n) d > 4611686018427387904 then 5 else 0
def mNewQ : Mod
  | [.c (.p (.i .i64 n)), .c (.p (.i .i64 d))] => some (inR .i64 n ∧ inR .i64 d ∧ 1 ≤ d, frE (newN n d) (newD n d) (newE n d))
  | _ => none
def mValidQ : Mod
  | [.a [.p (.i .i64 n), .p (.i .i64 d)]] => some (inR .i64 n ∧ inR .i64 d, bV (validQ n d))
  | _ => none
def extNw : Ext := extOf [(31, mSize), (32, mCommon)]
def extVl : Ext := extOf [(21, mNewQ)]
def extFv : Ext := extOf [(25, mAbsI), (24, mGcdI)]
theorem tSz (n : Int) : exTs ext0 (pcs Tryz.prog Tryz.f31) (st0 Tryz.f31 [iV n]) (endG [] (resOf Tryz.prog Tryz.f31)) = bT (decide (n < 0)) (.done .ret (St.mk [V.c (C.p (PV.i IntKind.u64 (IntKind.u64.wrap (-IntKind.u64.wrap n))))] [])) (.done .ret (St.mk [V.c (C.p (PV.i IntKind.u64 (IntKind.u64.wrap n)))] [])) := by kernel_rfl
theorem tCo1 (a b : Int) : exTs ext0 (takeL 1 (pcs Tryz.prog Tryz.f32)) (st0 Tryz.f32 [u6V a, u6V b]) (endG (msk 14 [0, 1]) (resOf Tryz.prog Tryz.f32)) = Tr.done X.normal
 (cst 14 [(0, .c (.p (.i IntKind.u64 a))), (1, .c (.p (.i IntKind.u64 b)))] []) := by kernel_rfl
theorem tCo2 (a b : Int) : exTs ext0 (lpB (pcs Tryz.prog Tryz.f32) 1) (cst 14 [(0, u6V a), (1, u6V b)] []) (endG (msk 14 [0, 1]) (resOf Tryz.prog Tryz.f32)) = bT (b != 0)
 (.rq (0 ≤ a ∧ 0 < b)
 (.done .normal
 (cst 14 [(0, .c (.p (.i IntKind.u64 b))), (1, .c (.p (.i IntKind.u64 (a % b))))] [])))
 (.done (.exit 0)
 (cst 14 [(0, .c (.p (.i IntKind.u64 a))), (1, .c (.p (.i IntKind.u64 b)))] [])) := by kernel_rfl
theorem tCo3 (a b : Int) : exTs ext0 (dropL 2 (pcs Tryz.prog Tryz.f32)) (cst 14 [(0, u6V a), (1, u6V b)] []) (endG [] (resOf Tryz.prog Tryz.f32)) = Tr.done X.ret (St.mk [V.c (C.p (PV.i IntKind.u64 a))] []) := by kernel_rfl
theorem tNw (n d : Int) : exTs extNw (pcs Tryz.prog Tryz.f21) (st0 Tryz.f21 [iV n, iV d]) (endG [] (resOf Tryz.prog Tryz.f21)) = bT (d == 0) (.done .ret (St.mk [V.t [V1.a [C.p (PV.i IntKind.i64 0), C.p (PV.i IntKind.i64 0)], V1.c (C.p (PV.i IntKind.i64 6))]] []))
 (.rq (inR IntKind.i64 n)
 (.rq (inR IntKind.i64 d)
 (bT (decide (9223372036854775807 < absZ n)) (.done .ret (St.mk [V.t [V1.a [C.p (PV.i IntKind.i64 0), C.p (PV.i IntKind.i64 0)], V1.c (C.p (PV.i IntKind.i64 5))]] []))
 (bT (decide (9223372036854775807 < absZ d)) (.done .ret (St.mk [V.t [V1.a [C.p (PV.i IntKind.i64 0), C.p (PV.i IntKind.i64 0)], V1.c (C.p (PV.i IntKind.i64 5))]] []))
 (.rq (0 ≤ absZ n ∧ 0 ≤ absZ d)
 (.rq (0 ≤ absZ n ∧ 0 < gcdZ (absZ n) (absZ d) ∧ inR IntKind.u64 (absZ n / gcdZ (absZ n) (absZ d)))
 (.rq (0 ≤ absZ d ∧ 0 < gcdZ (absZ n) (absZ d) ∧ inR IntKind.u64 (absZ d / gcdZ (absZ n) (absZ d)))
 (bT (decide (4611686018427387904 < absZ n / gcdZ (absZ n) (absZ d)))
 (.done .ret (St.mk [V.t [V1.a [C.p (PV.i IntKind.i64 0), C.p (PV.i IntKind.i64 0)], V1.c (C.p (PV.i IntKind.i64 5))]] []))
 (bT (decide (4611686018427387904 < absZ d / gcdZ (absZ n) (absZ d)))
 (.done .ret (St.mk [V.t [V1.a [C.p (PV.i IntKind.i64 0), C.p (PV.i IntKind.i64 0)], V1.c (C.p (PV.i IntKind.i64 5))]] []))
 (bT (!decide (n < 0) == decide (d < 0))
 (.rq (inR IntKind.i64 (-IntKind.i64.wrap (absZ n / gcdZ (absZ n) (absZ d))))
 (.done .ret
 (St.mk [V.t [V1.a [C.p (PV.i IntKind.i64 (-IntKind.i64.wrap (absZ n / gcdZ (absZ n) (absZ d)))), C.p (PV.i IntKind.i64 (IntKind.i64.wrap (absZ d / gcdZ (absZ n) (absZ d))))], V1.c (C.p (PV.i IntKind.i64 0))]] [])))
 (.done .ret
 (St.mk [V.t [V1.a [C.p (PV.i IntKind.i64 (IntKind.i64.wrap (absZ n / gcdZ (absZ n) (absZ d)))), C.p (PV.i IntKind.i64 (IntKind.i64.wrap (absZ d / gcdZ (absZ n) (absZ d))))], V1.c (C.p (PV.i IntKind.i64 0))]] [])))))))))))) := by kernel_rfl
theorem tVl (n d : Int) : exTs extVl (pcs Tryz.prog Tryz.f10) (st0 Tryz.f10 [.a [.p (.i .i64 n), .p (.i .i64 d)]]) (endG [] (resOf Tryz.prog Tryz.f10)) = bT (decide (d < 1)) (.done .ret (St.mk [V.c (C.p (PV.b false))] []))
 (.rq (inR IntKind.i64 n ∧ inR IntKind.i64 d ∧ 1 ≤ d)
 (bT (newE n d == 0)
 (.done .ret
 (St.mk [V.c (C.p (PV.b (match false with | true => !(n == newN n d && (d == newD n d && true)) | false => n == newN n d && (d == newD n d && true))))] []))
 (.done .ret (St.mk [V.c (C.p (PV.b false))] [])))) := by kernel_rfl
theorem tAb (n : Int) : exTs ext0 (pcs Tryz.prog Tryz.f25) (st0 Tryz.f25 [iV n]) (endG [] (resOf Tryz.prog Tryz.f25)) = bT (decide (n < 0)) (.rq (inR IntKind.i64 (-n)) (.done .ret (St.mk [V.c (C.p (PV.i IntKind.i64 (-n)))] []))) (.done .ret (St.mk [V.c (C.p (PV.i IntKind.i64 n))] [])) := by kernel_rfl
theorem tGc1 (a b : Int) : exTs ext0 (takeL 1 (pcs Tryz.prog Tryz.f24)) (st0 Tryz.f24 [iV a, iV b]) (endG (msk 12 [0, 1]) (resOf Tryz.prog Tryz.f24)) = Tr.done X.normal
 (cst 12 [(0, .c (.p (.i .i64 a))), (1, .c (.p (.i .i64 b)))] []) := by kernel_rfl
theorem tGc2 (a b : Int) : exTs ext0 (lpB (pcs Tryz.prog Tryz.f24) 1) (cst 12 [(0, iV a), (1, iV b)] []) (endG (msk 12 [0, 1]) (resOf Tryz.prog Tryz.f24)) = bT (b != 0)
 (.rq (0 ≤ a ∧ 0 < b)
 (.done .normal
 (cst 12 [(0, .c (.p (.i .i64 b))), (1, .c (.p (.i .i64 (a % b))))] [])))
 (.done (.exit 0)
 (cst 12 [(0, .c (.p (.i .i64 a))), (1, .c (.p (.i .i64 b)))] [])) := by kernel_rfl
theorem tGc3 (a b : Int) : exTs ext0 (dropL 2 (pcs Tryz.prog Tryz.f24)) (cst 12 [(0, iV a), (1, iV b)] []) (endG [] (resOf Tryz.prog Tryz.f24)) = Tr.done X.ret (St.mk [V.c (C.p (PV.i IntKind.i64 a))] []) := by kernel_rfl
theorem tFv (n d : Int) : exTs extFv (pcs Tryz.prog Tryz.f14) (st0 Tryz.f14 [.a [.p (.i .i64 n), .p (.i .i64 d)]]) (endG [] (resOf Tryz.prog Tryz.f14)) = bT (decide (d < 1)) (.done .ret (St.mk [V.c (C.p (PV.b false))] []))
 (bT (decide (4611686018427387904 < d)) (.done .ret (St.mk [V.c (C.p (PV.b false))] []))
 (bT (decide (n < -4611686018427387904)) (.done .ret (St.mk [V.c (C.p (PV.b false))] []))
 (bT (decide (4611686018427387904 < n)) (.done .ret (St.mk [V.c (C.p (PV.b false))] []))
 (.rq (-9223372036854775807 ≤ n ∧ n ≤ 9223372036854775807) (.rq (0 ≤ absZ n ∧ 0 ≤ d) (.done .ret (St.mk [V.c (C.p (PV.b (gcdZ (absZ n) d == 1)))] []))))))) := by kernel_rfl
theorem some_pairU {p q : Prop} {v u : V} (e : some (p, v) = some (q, u)) : p = q ∧ v = u := by
  injection e with e
  injection e with h1 h2
  exact ⟨h1, h2⟩
theorem absZ_nn (n : Int) : 0 ≤ absZ n := by unfold absZ; split <;> omega
theorem gcdZ_step {a b : Int} (ha : 0 ≤ a) (hb : 0 < b) : gcdZ b (a % b) = gcdZ a b := by
  unfold gcdZ
  obtain ⟨x, rfl⟩ := Int.eq_ofNat_of_zero_le ha
  obtain ⟨y, rfl⟩ := Int.eq_ofNat_of_zero_le (Int.le_of_lt hb)
  rw [show ((x : Int) % (y : Int)).toNat = x % y by omega]
  simp only [Int.toNat_natCast]
  rw [Nat.gcd_comm x y, Nat.gcd_rec y x, Nat.gcd_comm]
theorem gcdZ_zero {a : Int} (ha : 0 ≤ a) : gcdZ a 0 = a := by
  unfold gcdZ
  simp; omega
theorem gcdZ_pos {a b : Int} (hb : 0 < b) : 0 < gcdZ a b := by
  unfold gcdZ
  have : 0 < Nat.gcd a.toNat b.toNat := Nat.gcd_pos_of_pos_right _ (by omega)
  omega
theorem gcdZ_dvd {a b : Int} (ha : 0 ≤ a) (hb : 0 ≤ b) : gcdZ a b ∣ a ∧ gcdZ a b ∣ b := by
  unfold gcdZ
  obtain ⟨x, rfl⟩ := Int.eq_ofNat_of_zero_le ha
  obtain ⟨y, rfl⟩ := Int.eq_ofNat_of_zero_le hb
  simp only [Int.toNat_natCast]
  exact ⟨Int.natCast_dvd_natCast.2 (Nat.gcd_dvd_left x y), Int.natCast_dvd_natCast.2 (Nat.gcd_dvd_right x y)⟩
theorem div_le_of {a g : Int} (ha : 0 ≤ a) (hg : 0 < g) : 0 ≤ a / g ∧ a / g ≤ a := ⟨Int.ediv_nonneg ha (Int.le_of_lt hg), Int.ediv_le_self g ha⟩
theorem div_self_eq {a g : Int} (ha : 0 < a) (hg : 0 < g) (hd : g ∣ a) : a / g = a ↔ g = 1 := by
  refine ⟨fun h => ?_, fun h => by subst h; simp⟩
  obtain ⟨k, rfl⟩ := hd
  rw [Int.mul_ediv_cancel_left _ (by omega)] at h
  have hk : 0 < k := by
    rcases Int.lt_or_le 0 k with q | q
    · exact q
    · have := Int.mul_nonpos_of_nonneg_of_nonpos (Int.le_of_lt hg) q; omega
  apply Classical.byContradiction
  intro hne
  have := Int.mul_le_mul_of_nonneg_right (show 2 ≤ g by omega) (Int.le_of_lt hk)
  omega
section
variable {G : Nat → Option Obj}
theorem okLName : ModOK Tryz.prog G 13 mLName := by
  intro args p v hm hp h
  unfold mLName at hm
  split at hm; rotate_left; · cases hm
  rename_i s
  obtain ⟨rfl, rfl⟩ := some_pairU hm
  refine fn_kit rfl ?_ h
  intro R w vs hr hg ha
  obtain ⟨u, l, e, hu, ha⟩ := All2.nth2 ha
  obtain rfl := All2.nil2 ha
  have hu : u = .string s := hu
  subst hu
  cases vs
  rename_i lv_
  have e : lv_ = _ := e
  subst e
  refine (lName_any s w).mono ?_
  rintro e w' ⟨rfl, hb⟩
  exact ⟨_, rfl, rfl, hb⟩
set_option maxRecDepth 100000 in
theorem okSize : ModOK Tryz.prog G 31 mSize := by
  intro args p v hm hp h
  unfold mSize at hm
  split at hm; rotate_left; · cases hm
  rename_i n
  obtain ⟨rfl, rfl⟩ := some_pairU hm
  clear hm
  refine fn_S Tryz.func31 (by kernel_rfl) rfl ?_ h
  refine ExS.evH ext0_sound (tSz n) ?_
  simp only [holds_bT, holds_leaf, kf_ret', decide_eq_true_eq, decide_eq_false_iff_not]
  have hw : ∀ m : Int, IntKind.u64.wrap m = m % 18446744073709551616 := fun m => by rw [IntKind.wrap_u64]
  simp only [inR] at hp
  refine ⟨fun h1 => ⟨VLe.of_eq ?_⟩, fun h1 => ⟨VLe.of_eq ?_⟩⟩
  · have : IntKind.u64.wrap (-IntKind.u64.wrap n) = absZ n := by
      rw [hw, hw]; unfold absZ; rw [if_pos h1]; omega
    rw [this]; rfl
  · have : IntKind.u64.wrap n = absZ n := by
      rw [hw]; unfold absZ; rw [if_neg h1]; omega
    rw [this]; rfl
set_option maxRecDepth 100000 in
theorem okCommon : ModOK Tryz.prog G 32 mCommon := by
  intro args p v hm hp h
  unfold mCommon at hm
  split at hm; rotate_left; · cases hm
  rename_i a b
  obtain ⟨rfl, rfl⟩ := some_pairU hm
  clear hm
  refine fn_S Tryz.func32 (by kernel_rfl) rfl ?_ h
  refine ExS.evG ext0_sound 1 (tCo1 a b) ?_
  simp only [holds_leaf, kf_normal]
  refine ⟨?_⟩
  refine ExS.loop' (l := dropL 1 (pcs Tryz.prog Tryz.f32)) (b := inr (inr (nth .skip (pcs Tryz.prog Tryz.f32) 1))) (r := dropL 2 (pcs Tryz.prog Tryz.f32)) (id := 0) (by kernel_rfl) (σ := Int × Int)
    (fun x => (fun a b => cst 14 [(0, u6V a), (1, u6V b)] []) x.1 x.2) (fun x => 0 ≤ x.1 ∧ 0 ≤ x.2 ∧ gcdZ x.1 x.2 = gcdZ a b) (fun x => x.2.toNat) (a, b) ⟨hp.1, hp.2, rfl⟩ (weak_of_eq (by kernel_rfl)) ?_
  rintro ⟨x, y⟩ ⟨hx, hy, hg⟩ Q1 q1n q1e -
  dsimp only at hx hy hg q1n q1e ⊢
  refine ExS.evH ext0_sound (tCo2 x y) ?_
  simp only [holds_bT, holds_rq, holds_leaf, kf_normal, kf_exit, bne_iff_ne, bne_eq_false_iff_eq, ne_eq]
  refine ⟨fun h1 => ⟨by omega, ⟨q1n (y, x % y) _ ⟨hy, Int.emod_nonneg _ (by omega), ?_⟩ ?_ (weak_of_eq (by kernel_rfl))⟩⟩, fun h1 => ⟨q1e _ ?_⟩⟩
  · simp only
    rw [gcdZ_step hx (by omega), hg]
  · simp only
    have := Int.emod_lt_of_pos x (show 0 < y by omega)
    have := Int.emod_nonneg x (show y ≠ 0 by omega)
    omega
  · subst h1
    rw [gcdZ_zero hx] at hg
    subst hg
    refine ExS.evH ext0_sound (tCo3 (gcdZ a b) 0) ?_
    simp only [holds_leaf, kf_ret']
    exact ⟨VLe.refl _⟩
set_option maxRecDepth 100000 in
theorem okGcdI : ModOK Tryz.prog G 24 mGcdI := by
  intro args p v hm hp h
  unfold mGcdI at hm
  split at hm; rotate_left; · cases hm
  rename_i a b
  obtain ⟨rfl, rfl⟩ := some_pairU hm
  clear hm
  refine fn_S Tryz.func24 (by kernel_rfl) rfl ?_ h
  refine ExS.evG ext0_sound 1 (tGc1 a b) ?_
  simp only [holds_leaf, kf_normal]
  refine ⟨?_⟩
  refine ExS.loop' (l := dropL 1 (pcs Tryz.prog Tryz.f24)) (b := inr (inr (nth .skip (pcs Tryz.prog Tryz.f24) 1))) (r := dropL 2 (pcs Tryz.prog Tryz.f24)) (id := 0) (by kernel_rfl) (σ := Int × Int)
    (fun x => (fun a b => cst 12 [(0, iV a), (1, iV b)] []) x.1 x.2) (fun x => 0 ≤ x.1 ∧ 0 ≤ x.2 ∧ gcdZ x.1 x.2 = gcdZ a b) (fun x => x.2.toNat) (a, b) ⟨hp.1, hp.2, rfl⟩ (weak_of_eq (by kernel_rfl)) ?_
  rintro ⟨x, y⟩ ⟨hx, hy, hg⟩ Q1 q1n q1e -
  dsimp only at hx hy hg q1n q1e ⊢
  refine ExS.evH ext0_sound (tGc2 x y) ?_
  simp only [holds_bT, holds_rq, holds_leaf, kf_normal, kf_exit, bne_iff_ne, bne_eq_false_iff_eq, ne_eq]
  refine ⟨fun h1 => ⟨by omega, ⟨q1n (y, x % y) _ ⟨hy, Int.emod_nonneg _ (by omega), ?_⟩ ?_ (weak_of_eq (by kernel_rfl))⟩⟩, fun h1 => ⟨q1e _ ?_⟩⟩
  · simp only
    rw [gcdZ_step hx (by omega), hg]
  · simp only
    have := Int.emod_lt_of_pos x (show 0 < y by omega)
    have := Int.emod_nonneg x (show y ≠ 0 by omega)
    omega
  · subst h1
    rw [gcdZ_zero hx] at hg
    subst hg
    refine ExS.evH ext0_sound (tGc3 (gcdZ a b) 0) ?_
    simp only [holds_leaf, kf_ret']
    exact ⟨VLe.refl _⟩
set_option maxRecDepth 100000 in
theorem okAbsI : ModOK Tryz.prog G 25 mAbsI := by
  intro args p v hm hp h
  unfold mAbsI at hm
  split at hm; rotate_left; · cases hm
  rename_i n
  obtain ⟨rfl, rfl⟩ := some_pairU hm
  clear hm
  refine fn_S Tryz.func25 (by kernel_rfl) rfl ?_ h
  refine ExS.evH ext0_sound (tAb n) ?_
  simp only [holds_bT, holds_rq, holds_leaf, kf_ret', decide_eq_true_eq, decide_eq_false_iff_not, inR]
  refine ⟨fun h1 => ⟨by omega, ⟨VLe.of_eq ?_⟩⟩, fun h1 => ⟨VLe.of_eq ?_⟩⟩
  · unfold absZ; rw [if_pos h1]; rfl
  · unfold absZ; rw [if_neg h1]; rfl
theorem extNw_sound : SoundExt Tryz.prog G extNw := extOf_sound (by simp; exact ⟨okSize, okCommon⟩)
theorem extFv_sound : SoundExt Tryz.prog G extFv := extOf_sound (by simp; exact ⟨okAbsI, okGcdI⟩)
set_option maxRecDepth 100000 in
theorem okNewQ : ModOK Tryz.prog G 21 mNewQ := by
  intro args p v hm hp h
  unfold mNewQ at hm
  split at hm; rotate_left; · cases hm
  rename_i n d
  obtain ⟨rfl, rfl⟩ := some_pairU hm
  clear hm
  obtain ⟨hn0, hd0, hd1⟩ := hp
  have hd : absZ d = d := by unfold absZ; rw [if_neg (by omega)]
  have hn := absZ_nn n
  refine fn_S Tryz.func21 (by kernel_rfl) rfl ?_ h
  refine ExS.evH extNw_sound (tNw n d) ?_
  rw [hd]
  have hg := gcdZ_pos (a := absZ n) (show 0 < d by omega)
  obtain ⟨v1, v2⟩ := gcdZ_dvd hn (show 0 ≤ d by omega)
  have q1 := div_le_of hn hg
  have q2 := div_le_of (show 0 ≤ d by omega) hg
  have bad : absZ n > 9223372036854775807 ∨ absZ n / gcdZ (absZ n) d > 4611686018427387904 ∨ d / gcdZ (absZ n) d > 4611686018427387904 → Leaf (VLe (V.t [V1.a [C.p (PV.i IntKind.i64 0), C.p (PV.i IntKind.i64 0)], V1.c (C.p (PV.i IntKind.i64 5))]) (frE (newN n d) (newD n d) (newE n d))) := fun hb =>
    ⟨VLe.of_eq (by unfold newN newD newE; rw [if_pos hb, if_pos hb, if_pos hb]; rfl)⟩
  have good : ∀ a b : Int, ¬ (absZ n > 9223372036854775807 ∨ absZ n / gcdZ (absZ n) d > 4611686018427387904 ∨ d / gcdZ (absZ n) d > 4611686018427387904) → a = (if n < 0 then -(absZ n / gcdZ (absZ n) d) else absZ n / gcdZ (absZ n) d) → b = d / gcdZ (absZ n) d → Leaf (VLe (V.t [V1.a [C.p (PV.i IntKind.i64 a), C.p (PV.i IntKind.i64 b)], V1.c (C.p (PV.i IntKind.i64 0))]) (frE (newN n d) (newD n d) (newE n d))) := fun a b hb ea eb =>
    ⟨VLe.of_eq (by unfold newN newD newE; rw [if_neg hb, if_neg hb, if_neg hb, ea, eb]; rfl)⟩
  have hlt : decide (d < 0) = false := decide_eq_false (by omega)
  have hab : absZ n ≤ 9223372036854775808 := by simp only [inR] at hn0; unfold absZ; split <;> omega
  simp only [inR] at hn0 hd0
  simp only [holds_bT, holds_rq, holds_leaf, kf_ret', decide_eq_true_eq, decide_eq_false_iff_not, beq_iff_eq, beq_eq_false_iff_ne, ne_eq, inR, hlt, Int.not_lt]
  generalize gcdZ (absZ n) d = g at *
  have w1 : absZ n / g ≤ 4611686018427387904 → IntKind.i64.wrap (absZ n / g) = absZ n / g := fun h => wrap_in (k := .i64) (by simp only [inR]; omega)
  have w2 : d / g ≤ 4611686018427387904 → IntKind.i64.wrap (d / g) = d / g := fun h => wrap_in (k := .i64) (by simp only [inR]; omega)
  refine ⟨fun h1 => by omega, fun _ => ⟨hn0, hd0, fun h1 => bad (.inl h1), fun c1 => ⟨fun h1 => by omega, fun _ => ⟨⟨by omega, by omega⟩, ⟨by omega, by omega, by omega, by omega⟩, ⟨by omega, by omega, by omega, by omega⟩, fun h1 => bad (.inr (.inl h1)), fun c2 => ⟨fun h1 => bad (.inr (.inr h1)), fun c3 => ⟨fun h1 => ⟨?_, good _ _ (by omega) ?_ (w2 c3)⟩, fun h1 => good _ _ (by omega) ?_ (w2 c3)⟩⟩⟩⟩⟩⟩
  · rw [w1 c2]; omega
  · have hnn : n < 0 := by simpa using h1
    rw [if_pos hnn, w1 c2]
  · have hnn : ¬ n < 0 := by simpa using h1
    rw [if_neg hnn, w1 c2]
theorem extVl_sound : SoundExt Tryz.prog G extVl := extOf_sound (by simp; exact okNewQ)
set_option maxRecDepth 100000 in
theorem okValidQ : ModOK Tryz.prog G 10 mValidQ := by
  intro args p v hm hp h
  unfold mValidQ at hm
  split at hm; rotate_left; · cases hm
  rename_i n d
  obtain ⟨rfl, rfl⟩ := some_pairU hm
  clear hm
  refine fn_S Tryz.func10 (by kernel_rfl) rfl ?_ h
  refine ExS.evH extVl_sound (tVl n d) ?_
  simp only [holds_bT, holds_rq, holds_leaf, kf_ret', decide_eq_true_eq, decide_eq_false_iff_not]
  obtain ⟨hn0, hd0⟩ := hp
  refine ⟨fun h1 => ⟨VLe.of_eq ?_⟩, fun h1 => ⟨⟨hn0, hd0, by omega⟩, fun h2 => ⟨VLe.of_eq ?_⟩, fun h2 => ⟨VLe.of_eq ?_⟩⟩⟩
  · have : validQ n d = false := by unfold validQ; rw [decide_eq_false (show ¬ 1 ≤ d by omega)]; rfl
    rw [this]; rfl
  all_goals
    have hn := absZ_nn n
    have hg := gcdZ_pos (a := absZ n) (show 0 < d by omega)
    obtain ⟨v1, v2⟩ := gcdZ_dvd hn (show 0 ≤ d by omega)
    have q1 := div_le_of hn hg
    have q2 := div_le_of (show 0 ≤ d by omega) hg
    have hgd := div_self_eq (show 0 < d by omega) hg v2
    simp only [inR] at hn0 hd0
  · have hc : ¬ (absZ n > 9223372036854775807 ∨ absZ n / gcdZ (absZ n) d > 4611686018427387904 ∨ d / gcdZ (absZ n) d > 4611686018427387904) := by
      intro hc
      unfold newE at h2
      rw [if_pos hc] at h2
      cases h2
    have e : (n == newN n d && (d == newD n d && true)) = validQ n d := by
      unfold newN newD validQ
      rw [if_neg hc, if_neg hc, Bool.eq_iff_iff]
      simp only [Bool.and_eq_true, beq_iff_eq, Bool.and_true, decide_eq_true_eq]
      generalize gcdZ (absZ n) d = g at *
      constructor
      · rintro ⟨e1, e2⟩
        have hg1 := hgd.1 e2.symm
        subst hg1
        simp only [Int.ediv_one] at hc
        unfold absZ at hc
        split at hc <;> exact ⟨⟨⟨⟨by omega, by omega⟩, by omega⟩, by omega⟩, rfl⟩
      · rintro ⟨⟨⟨⟨_, e1⟩, e2⟩, e3⟩, e4⟩
        subst e4
        simp only [Int.ediv_one]
        refine ⟨?_, trivial⟩
        unfold absZ
        split <;> omega
    show V.c (C.p (PV.b (n == newN n d && (d == newD n d && true)))) = _
    rw [e]; rfl
  · have hc : absZ n > 9223372036854775807 ∨ absZ n / gcdZ (absZ n) d > 4611686018427387904 ∨ d / gcdZ (absZ n) d > 4611686018427387904 := by
      apply Classical.byContradiction
      intro hc
      unfold newE at h2
      rw [if_neg hc] at h2
      cases h2
    have : validQ n d = false := by
      rw [← Bool.not_eq_true]
      intro hv
      unfold validQ at hv
      simp only [Bool.and_eq_true, decide_eq_true_eq] at hv
      obtain ⟨⟨⟨⟨_, e1⟩, e2⟩, e3⟩, e4⟩ := hv
      rw [e4] at hc
      simp only [Int.ediv_one] at hc
      unfold absZ at hc
      split at hc <;> omega
    rw [this]; rfl
set_option maxRecDepth 100000 in
theorem okFValid : ModOK Tryz.prog G 14 mValidQ := by
  intro args p v hm hp h
  unfold mValidQ at hm
  split at hm; rotate_left; · cases hm
  rename_i n d
  obtain ⟨rfl, rfl⟩ := some_pairU hm
  clear hm
  refine fn_S Tryz.func14 (by kernel_rfl) rfl ?_ h
  refine ExS.evH extFv_sound (tFv n d) ?_
  have hn := absZ_nn n
  simp only [holds_bT, holds_rq, holds_leaf, kf_ret', decide_eq_true_eq, decide_eq_false_iff_not]
  have bad : ¬ (1 ≤ d ∧ d ≤ 4611686018427387904 ∧ -4611686018427387904 ≤ n ∧ n ≤ 4611686018427387904) → Leaf (VLe (V.c (C.p (PV.b false))) (bV (validQ n d))) := fun hb => by
    have : validQ n d = false := by
      rw [← Bool.not_eq_true]
      intro hv
      unfold validQ at hv
      simp only [Bool.and_eq_true, decide_eq_true_eq] at hv
      obtain ⟨⟨⟨⟨e0, e1⟩, e2⟩, e3⟩, e4⟩ := hv
      exact hb ⟨e0, e1, e2, e3⟩
    rw [this]; exact ⟨VLe.refl _⟩
  refine ⟨fun c => bad (by omega), fun c1 => ⟨fun c => bad (by omega), fun c2 => ⟨fun c => bad (by omega), fun c3 => ⟨fun c => bad (by omega), fun c4 => ⟨by omega, ⟨by omega, by omega⟩, ⟨VLe.of_eq ?_⟩⟩⟩⟩⟩⟩
  have : validQ n d = (gcdZ (absZ n) d == 1) := by
    unfold validQ
    rw [decide_eq_true (show 1 ≤ d by omega), decide_eq_true (show d ≤ 4611686018427387904 by omega), decide_eq_true (show -4611686018427387904 ≤ n by omega), decide_eq_true (show n ≤ 4611686018427387904 by omega)]
    rw [Bool.eq_iff_iff]; simp
  rw [this]; rfl
end
end Go.AE
namespace Go.AE
set_option linter.unusedVariables false
set_option linter.unusedSimpArgs false
open Go.Proofs Go.Proofs.YtecilaemjajcnaaGreatDoor
abbrev Mt := ByteArray × Int × ByteArray
inductive Ey where
  | mk (kd fu wi off k n d : Int) (nm : ByteArray) (ms : List Mt) (by_ : List ByteArray) (kids : List Ey)
instance : Inhabited Ey := ⟨.mk 0 0 0 0 0 0 0 ⟨#[]⟩ [] [] []⟩
def noSelB (wi off : Int) (nm : ByteArray) (m : Nat) : Bool := decide (wi = 0) && decide (off = 0) && decide (nm = ⟨#[]⟩) && decide (m = 0)
def shapedB (kd fu k n d : Int) (ns : Bool) (b c : Nat) : Bool :=
  if kd = 0 then decide (fu = 0) && decide (c = 0) && ns && decide (k = 0) && decide (b = 0) && validQ n d
  else if kd = 1 then decide (0 ≤ fu) && decide (fu ≤ 7) && decide (c = 0) && decide (n = 0) && decide (d = 0) && decide (b = 0)
  else if kd = 2 then decide (0 ≤ fu) && decide (fu ≤ 4) && decide (c = 1) && decide (n = 0) && decide (d = 0) && ns
  else if kd = 3 then decide (0 ≤ fu) && decide (fu ≤ 3) && decide (c = 2) && decide (n = 0) && decide (d = 0) && ns && decide (k = 0) && decide (b = 0)
  else false
def rangedB (kd fu wi off k : Int) (o : Bool) : Bool :=
  if kd = 1 then if off < 0 ∨ 4096 < off then false else if fu = 0 then decide (wi = 0) && decide (k = 0) else if wi < 1 ∨ 4096 < wi then false else if fu = 7 then decide (1 ≤ k) && decide (k ≤ wi) else decide (k = 0)
  else if kd = 2 then if fu = 4 then decide (1 ≤ k) && decide (k ≤ 4096) else decide (k = 0)
  else o
def mShaped : Mod
  | [.a [.p (.i .i64 kd), .p (.i .i64 fu), .p (.i .i64 wi), .p (.i .i64 off), .p (.i .i64 k), .p (.i .i64 n), .p (.i .i64 d), .p (.s nm), .p (.l 3 m f), .p (.l 1 b g), .p (.l 11 c e)]] => some (inR .i64 n ∧ inR .i64 d, bV (shapedB kd fu k n d (noSelB wi off nm m) b c))
  | _ => none
def mRanged : Mod
  | [.a [.p (.i .i64 kd), .p (.i .i64 fu), .p (.i .i64 wi), .p (.i .i64 off), .p (.i .i64 k), .p (.i .i64 n), .p (.i .i64 d), .p (.s nm), .p (.l 3 m f), .p (.l 1 b g), .p (.l 11 c e)]] => some (True, bV (rangedB kd fu wi off k true))
  | _ => none
def mWithin : Mod
  | [.a [.p (.i .i64 kd), .p (.i .i64 fu), .p (.i .i64 wi), .p (.i .i64 off), .p (.i .i64 k), .p (.i .i64 n), .p (.i .i64 d), .p (.s nm), .p (.l 3 m f), .p (.l 1 b g), .p (.l 11 c e)]] => some (True, bV (rangedB kd fu wi off k (decide (k = 0))))
  | _ => none
def extSh : Ext := extOf [(14, mValidQ)]
def extS7 : Ext := extOf [(10, mValidQ)]
theorem tShp1 (kd fu wi off k n d : Int) (nm : ByteArray) (m : Nat) (f : Nat → Nat → PV) (b : Nat) (g : Nat → Nat → PV) (c : Nat) (e : Nat → Nat → PV) : exTs extSh (takeL 2 (pcs Tryz.prog Tryz.f38)) (st0 Tryz.f38 [.a [.p (.i .i64 kd), .p (.i .i64 fu), .p (.i .i64 wi), .p (.i .i64 off), .p (.i .i64 k), .p (.i .i64 n), .p (.i .i64 d), .p (.s nm), .p (.l 3 m f), .p (.l 1 b g), .p (.l 11 c e)]]) (endG (msk 140 [1, 3]) (resOf Tryz.prog Tryz.f38)) = bT (wi == 0)
 (bT (off == 0)
 (bT (nm.toList == (ByteArray.mk #[]).toList)
 (.done .normal
 (cst 140 [(1, .c (.ptr 0 0)), (3, .c (.p (.b ((↑m : Int) == 0))))] [.cells 32 [.p (.i .i64 kd), .p (.i .i64 fu), .p (.i .i64 wi), .p (.i .i64 off), .p (.i .i64 k), .p (.i .i64 n), .p (.i .i64 d), .p (.s nm), .p (.l 3 m f), .p (.l 1 b g), .p (.l 11 c e)]]))
 (.done .normal
 (cst 140 [(1, .c (.ptr 0 0)), (3, .c (.p (.b false)))] [.cells 32 [.p (.i .i64 kd), .p (.i .i64 fu), .p (.i .i64 wi), .p (.i .i64 off), .p (.i .i64 k), .p (.i .i64 n), .p (.i .i64 d), .p (.s nm), .p (.l 3 m f), .p (.l 1 b g), .p (.l 11 c e)]])))
 (.done .normal
 (cst 140 [(1, .c (.ptr 0 0)), (3, .c (.p (.b false)))] [.cells 32 [.p (.i .i64 kd), .p (.i .i64 fu), .p (.i .i64 wi), .p (.i .i64 off), .p (.i .i64 k), .p (.i .i64 n), .p (.i .i64 d), .p (.s nm), .p (.l 3 m f), .p (.l 1 b g), .p (.l 11 c e)]])))
 (.done .normal
 (cst 140 [(1, .c (.ptr 0 0)), (3, .c (.p (.b false)))] [.cells 32 [.p (.i .i64 kd), .p (.i .i64 fu), .p (.i .i64 wi), .p (.i .i64 off), .p (.i .i64 k), .p (.i .i64 n), .p (.i .i64 d), .p (.s nm), .p (.l 3 m f), .p (.l 1 b g), .p (.l 11 c e)]])) := by kernel_rfl
theorem tShp2 (kd fu wi off k n d : Int) (nm : ByteArray) (m : Nat) (f : Nat → Nat → PV) (b : Nat) (g : Nat → Nat → PV) (c : Nat) (e : Nat → Nat → PV) (ns : Bool) : exTs extSh (dropL 2 (pcs Tryz.prog Tryz.f38)) (cst 140 [(1, .c (.ptr 0 0)), (3, bV ns)] [.cells 32 [.p (.i .i64 kd), .p (.i .i64 fu), .p (.i .i64 wi), .p (.i .i64 off), .p (.i .i64 k), .p (.i .i64 n), .p (.i .i64 d), .p (.s nm), .p (.l 3 m f), .p (.l 1 b g), .p (.l 11 c e)]]) (endG [] (resOf Tryz.prog Tryz.f38)) = bT (kd == 0)
 (bT (fu == 0)
 (bT ((↑c : Int) == 0)
 (bT ns
 (bT (k == 0)
 (bT ((↑b : Int) == 0) (.rq (inR IntKind.i64 n ∧ inR IntKind.i64 d) (.done .ret (St.mk [V.c (C.p (PV.b (validQ n d)))] []))) (.done .ret (St.mk [V.c (C.p (PV.b false))] [])))
 (.done .ret (St.mk [V.c (C.p (PV.b false))] [])))
 (.done .ret (St.mk [V.c (C.p (PV.b false))] [])))
 (.done .ret (St.mk [V.c (C.p (PV.b false))] [])))
 (.done .ret (St.mk [V.c (C.p (PV.b false))] [])))
 (bT (kd == 1)
 (bT (decide (0 ≤ fu))
 (bT (decide (fu ≤ 7))
 (bT ((↑c : Int) == 0)
 (bT
 (match false with
 | true => !(n == 0 && (d == 0 && true))
 | false => n == 0 && (d == 0 && true))
 (.done .ret (St.mk [V.c (C.p (PV.b ((↑b : Int) == 0)))] [])) (.done .ret (St.mk [V.c (C.p (PV.b false))] [])))
 (.done .ret (St.mk [V.c (C.p (PV.b false))] [])))
 (.done .ret (St.mk [V.c (C.p (PV.b false))] [])))
 (.done .ret (St.mk [V.c (C.p (PV.b false))] [])))
 (bT (kd == 2)
 (bT (decide (0 ≤ fu))
 (bT (decide (fu ≤ 4))
 (bT ((↑c : Int) == 1)
 (bT
 (match false with
 | true => !(n == 0 && (d == 0 && true))
 | false => n == 0 && (d == 0 && true))
 (.done .ret (St.mk [V.c (C.p (PV.b ns))] [])) (.done .ret (St.mk [V.c (C.p (PV.b false))] [])))
 (.done .ret (St.mk [V.c (C.p (PV.b false))] [])))
 (.done .ret (St.mk [V.c (C.p (PV.b false))] [])))
 (.done .ret (St.mk [V.c (C.p (PV.b false))] [])))
 (bT (kd == 3)
 (bT (decide (0 ≤ fu))
 (bT (decide (fu ≤ 3))
 (bT ((↑c : Int) == 2)
 (bT
 (match false with
 | true => !(n == 0 && (d == 0 && true))
 | false => n == 0 && (d == 0 && true))
 (bT ns (bT (k == 0) (.done .ret (St.mk [V.c (C.p (PV.b ((↑b : Int) == 0)))] [])) (.done .ret (St.mk [V.c (C.p (PV.b false))] [])))
 (.done .ret (St.mk [V.c (C.p (PV.b false))] [])))
 (.done .ret (St.mk [V.c (C.p (PV.b false))] [])))
 (.done .ret (St.mk [V.c (C.p (PV.b false))] [])))
 (.done .ret (St.mk [V.c (C.p (PV.b false))] [])))
 (.done .ret (St.mk [V.c (C.p (PV.b false))] [])))
 (.done .ret (St.mk [V.c (C.p (PV.b false))] []))))) := by kernel_rfl
theorem tRng (kd fu wi off k n d : Int) (nm : ByteArray) (m : Nat) (f : Nat → Nat → PV) (b : Nat) (g : Nat → Nat → PV) (c : Nat) (e : Nat → Nat → PV) : exTs ext0 (pcs Tryz.prog Tryz.f40) (st0 Tryz.f40 [.a [.p (.i .i64 kd), .p (.i .i64 fu), .p (.i .i64 wi), .p (.i .i64 off), .p (.i .i64 k), .p (.i .i64 n), .p (.i .i64 d), .p (.s nm), .p (.l 3 m f), .p (.l 1 b g), .p (.l 11 c e)]]) (endG [] (resOf Tryz.prog Tryz.f40)) = bT (kd == 1)
 (bT (decide (off < 0)) (.done .ret (St.mk [V.c (C.p (PV.b false))] []))
 (bT (decide (4096 < off)) (.done .ret (St.mk [V.c (C.p (PV.b false))] []))
 (bT (fu == 0) (bT (wi == 0) (.done .ret (St.mk [V.c (C.p (PV.b (k == 0)))] [])) (.done .ret (St.mk [V.c (C.p (PV.b false))] [])))
 (bT (decide (wi < 1)) (.done .ret (St.mk [V.c (C.p (PV.b false))] []))
 (bT (decide (4096 < wi)) (.done .ret (St.mk [V.c (C.p (PV.b false))] []))
 (bT (fu == 7) (bT (decide (1 ≤ k)) (.done .ret (St.mk [V.c (C.p (PV.b (decide (k ≤ wi))))] [])) (.done .ret (St.mk [V.c (C.p (PV.b false))] [])))
 (.done .ret (St.mk [V.c (C.p (PV.b (k == 0)))] []))))))))
 (bT (kd == 2)
 (bT (fu == 4) (bT (decide (1 ≤ k)) (.done .ret (St.mk [V.c (C.p (PV.b (decide (k ≤ 4096))))] [])) (.done .ret (St.mk [V.c (C.p (PV.b false))] [])))
 (.done .ret (St.mk [V.c (C.p (PV.b (k == 0)))] [])))
 (.done .ret (St.mk [V.c (C.p (PV.b true))] []))) := by kernel_rfl
theorem tWi7 (kd fu wi off k n d : Int) (nm : ByteArray) (m : Nat) (f : Nat → Nat → PV) (b : Nat) (g : Nat → Nat → PV) (c : Nat) (e : Nat → Nat → PV) : exTs ext0 (pcs Tryz.prog Tryz.f55) (st0 Tryz.f55 [.a [.p (.i .i64 kd), .p (.i .i64 fu), .p (.i .i64 wi), .p (.i .i64 off), .p (.i .i64 k), .p (.i .i64 n), .p (.i .i64 d), .p (.s nm), .p (.l 3 m f), .p (.l 1 b g), .p (.l 11 c e)]]) (endG [] (resOf Tryz.prog Tryz.f55)) = bT (kd == 1)
 (bT (decide (off < 0)) (.done .ret (St.mk [V.c (C.p (PV.b false))] []))
 (bT (decide (4096 < off)) (.done .ret (St.mk [V.c (C.p (PV.b false))] []))
 (bT (fu == 0) (bT (wi == 0) (.done .ret (St.mk [V.c (C.p (PV.b (k == 0)))] [])) (.done .ret (St.mk [V.c (C.p (PV.b false))] [])))
 (bT (decide (wi < 1)) (.done .ret (St.mk [V.c (C.p (PV.b false))] []))
 (bT (decide (4096 < wi)) (.done .ret (St.mk [V.c (C.p (PV.b false))] []))
 (bT (fu == 7) (bT (decide (1 ≤ k)) (.done .ret (St.mk [V.c (C.p (PV.b (decide (k ≤ wi))))] [])) (.done .ret (St.mk [V.c (C.p (PV.b false))] [])))
 (.done .ret (St.mk [V.c (C.p (PV.b (k == 0)))] []))))))))
 (bT (kd == 2)
 (bT (fu == 4) (bT (decide (1 ≤ k)) (.done .ret (St.mk [V.c (C.p (PV.b (decide (k ≤ 4096))))] [])) (.done .ret (St.mk [V.c (C.p (PV.b false))] [])))
 (.done .ret (St.mk [V.c (C.p (PV.b (k == 0)))] [])))
 (.done .ret (St.mk [V.c (C.p (PV.b (k == 0)))] []))) := by kernel_rfl
theorem text_beq (x y : ByteArray) : (x.toList == y.toList) = decide (x = y) := by
  rw [Bool.eq_iff_iff]
  simp only [beq_iff_eq, decide_eq_true_eq]
  refine ⟨fun h => ?_, fun h => by rw [h]⟩
  rw [ByteArray.toList_eq, ByteArray.toList_eq] at h
  cases x; cases y
  simp only [ByteArray.mk.injEq]
  exact Array.ext' h
theorem cast_beq (m j : Nat) : ((m : Int) == (j : Int)) = decide (m = j) := by
  rw [Bool.eq_iff_iff]; simp only [beq_iff_eq, decide_eq_true_eq]; omega
theorem bvL {p q : Bool} (h : p = q) : Leaf (VLe (V.c (C.p (PV.b p))) (bV q)) := ⟨VLe.of_eq (by rw [h]; rfl)⟩
section
variable {G : Nat → Option Obj}
theorem extSh_sound : SoundExt Tryz.prog G extSh := extOf_sound (by simp; exact okFValid)
set_option maxRecDepth 100000 in
theorem okShaped : ModOK Tryz.prog G 38 mShaped := by
  intro args p v hm hp h
  unfold mShaped at hm
  split at hm; rotate_left; · cases hm
  rename_i kd fu wi off k n d nm m f b g c e
  obtain ⟨rfl, rfl⟩ := some_pairU hm
  clear hm
  refine fn_S Tryz.func38 (by kernel_rfl) rfl ?_ h
  refine ExS.evG extSh_sound 2 (tShp1 kd fu wi off k n d nm m f b g c e) ?_
  have key : ∀ ns, ns = noSelB wi off nm m → ExS Tryz.prog G (resOf Tryz.prog Tryz.f38) (bV (shapedB kd fu k n d (noSelB wi off nm m) b c)) (dropL 2 (pcs Tryz.prog Tryz.f38)) (cst 140 [(1, .c (.ptr 0 0)), (3, bV ns)] [.cells 32 [.p (.i .i64 kd), .p (.i .i64 fu), .p (.i .i64 wi), .p (.i .i64 off), .p (.i .i64 k), .p (.i .i64 n), .p (.i .i64 d), .p (.s nm), .p (.l 3 m f), .p (.l 1 b g), .p (.l 11 c e)]]) (fun _ _ => False) := by
    rintro ns rfl
    generalize noSelB wi off nm m = ns
    refine ExS.evH extSh_sound (tShp2 kd fu wi off k n d nm m f b g c e ns) ?_
    have e0 : ((c : Int) == 0) = decide (c = 0) := cast_beq c 0
    have e1 : ((c : Int) == 1) = decide (c = 1) := cast_beq c 1
    have e2 : ((c : Int) == 2) = decide (c = 2) := cast_beq c 2
    have e3 : ((b : Int) == 0) = decide (b = 0) := cast_beq b 0
    simp only [holds_bT, holds_rq, holds_leaf, kf_ret', e0, e1, e2, e3, Bool.and_true, Bool.and_eq_true, Bool.and_eq_false_iff, beq_iff_eq, beq_eq_false_iff_ne, ne_eq, decide_eq_true_eq, decide_eq_false_iff_not]
    have hI := hp
    clear hp h e0 e1 e2 e3
    unfold shapedB
    repeat' (first | apply And.intro | intro _)
    all_goals first | exact hI.1.1 | exact hI.1.2 | exact hI.2.1 | exact hI.2.2 | (refine bvL ?_; simp_all; done) | (refine bvL ?_; simp_all; omega)
  have ek : ∀ x, (x : Int) = 0 → True := fun _ _ => trivial
  have e3 : ((m : Int) == 0) = decide (m = 0) := cast_beq m 0
  simp only [holds_bT, holds_leaf, kf_normal, text_beq, e3, beq_iff_eq, beq_eq_false_iff_ne, ne_eq, decide_eq_true_eq, decide_eq_false_iff_not]
  refine ⟨fun c1 => ⟨fun c2 => ⟨fun c3 => ⟨key _ ?_⟩, fun c3 => ⟨key _ ?_⟩⟩, fun c2 => ⟨key _ ?_⟩⟩, fun c1 => ⟨key _ ?_⟩⟩
  all_goals unfold noSelB; simp_all
set_option maxRecDepth 100000 in
theorem okRanged : ModOK Tryz.prog G 40 mRanged := by
  intro args p v hm hp h
  unfold mRanged at hm
  split at hm; rotate_left; · cases hm
  rename_i kd fu wi off k n d nm m f b g c e
  obtain ⟨rfl, rfl⟩ := some_pairU hm
  clear hm
  refine fn_S Tryz.func40 (by kernel_rfl) rfl ?_ h
  refine ExS.evH ext0_sound (tRng kd fu wi off k n d nm m f b g c e) ?_
  have ek : (k == 0) = decide (k = 0) := by rw [Bool.eq_iff_iff]; simp
  simp only [ek, holds_bT, holds_rq, holds_leaf, kf_ret', beq_iff_eq, beq_eq_false_iff_ne, ne_eq, decide_eq_true_eq, decide_eq_false_iff_not]
  unfold rangedB
  repeat' (first | apply And.intro | intro _)
  all_goals (refine bvL ?_; repeat' split) <;> first | rfl | omega | (simp_all; done) | (simp_all; omega)
set_option maxRecDepth 100000 in
theorem okWithin : ModOK Tryz.prog G 55 mWithin := by
  intro args p v hm hp h
  unfold mWithin at hm
  split at hm; rotate_left; · cases hm
  rename_i kd fu wi off k n d nm m f b g c e
  obtain ⟨rfl, rfl⟩ := some_pairU hm
  clear hm
  refine fn_S Tryz.func55 (by kernel_rfl) rfl ?_ h
  refine ExS.evH ext0_sound (tWi7 kd fu wi off k n d nm m f b g c e) ?_
  have ek : (k == 0) = decide (k = 0) := by rw [Bool.eq_iff_iff]; simp
  simp only [ek, holds_bT, holds_rq, holds_leaf, kf_ret', beq_iff_eq, beq_eq_false_iff_ne, ne_eq, decide_eq_true_eq, decide_eq_false_iff_not]
  unfold rangedB
  repeat' (first | apply And.intro | intro _)
  all_goals (refine bvL ?_; repeat' split) <;> first | rfl | omega | (simp_all; done) | (simp_all; omega)
end
end Go.AE
namespace Go.AE
set_option linter.unusedVariables false
set_option linter.unusedSimpArgs false
open Go.Proofs Go.Proofs.YtecilaemjajcnaaGreatDoor
theorem tS7a (kd fu wi off k n d : Int) (nm : ByteArray) (m : Nat) (f : Nat → Nat → PV) (b : Nat) (g : Nat → Nat → PV) (c : Nat) (e : Nat → Nat → PV) : exTs extS7 (takeL 3 (pcs Tryz.prog Tryz.f53)) (st0 Tryz.f53 [.a [.p (.i .i64 kd), .p (.i .i64 fu), .p (.i .i64 wi), .p (.i .i64 off), .p (.i .i64 k), .p (.i .i64 n), .p (.i .i64 d), .p (.s nm), .p (.l 3 m f), .p (.l 1 b g), .p (.l 11 c e)]]) (endG (msk 102 [1]) (resOf Tryz.prog Tryz.f53)) = bT (decide (kd < 0)) (.done .ret (St.mk [V.c (C.p (PV.b false))] []))
 (bT (decide (3 < kd)) (.done .ret (St.mk [V.c (C.p (PV.b false))] []))
 (bT (decide (fu < 0)) (.done .ret (St.mk [V.c (C.p (PV.b false))] []))
 (.done .normal
 (cst 102 [(1, .c (.ptr 0 0))] [.cells 32 [.p (.i .i64 kd), .p (.i .i64 fu), .p (.i .i64 wi), .p (.i .i64 off), .p (.i .i64 k), .p (.i .i64 n), .p (.i .i64 d), .p (.s nm), .p (.l 3 m f), .p (.l 1 b g), .p (.l 11 c e)]])))) := by kernel_rfl
theorem tS70 (fu wi off k n d : Int) (nm : ByteArray) (m : Nat) (f : Nat → Nat → PV) (b : Nat) (g : Nat → Nat → PV) (c : Nat) (e : Nat → Nat → PV) : exTs extS7 (dropL 3 (pcs Tryz.prog Tryz.f53)) (cst 102 [(1, .c (.ptr 0 0))] [.cells 32 (.p (.i .i64 0) :: [.p (.i .i64 fu), .p (.i .i64 wi), .p (.i .i64 off), .p (.i .i64 k), .p (.i .i64 n), .p (.i .i64 d), .p (.s nm), .p (.l 3 m f), .p (.l 1 b g), .p (.l 11 c e)])]) (endG [] (resOf Tryz.prog Tryz.f53)) = Tr.rq (Int.ofNat 0 ≤ Int.ofNat 0 ∧ 0 < (↑4 : Int))
 (.rq (0 < 4)
 (bT (decide (1 ≤ fu)) (.done .ret (St.mk [V.c (C.p (PV.b false))] []))
 (.rq (Int.ofNat 0 ≤ Int.ofNat 0 ∧ 0 < (↑4 : Int))
 (.rq (0 < 4)
 (bT ((↑c : Int) != 0) (.done .ret (St.mk [V.c (C.p (PV.b false))] []))
 (.rq (inR IntKind.i64 n ∧ inR IntKind.i64 d)
 (bT (!validQ n d) (.done .ret (St.mk [V.c (C.p (PV.b false))] []))
 (bT (wi != 0) (.done .ret (St.mk [V.c (C.p (PV.b false))] []))
 (bT (off != 0) (.done .ret (St.mk [V.c (C.p (PV.b false))] []))
 (bT (!nm.toList == (ByteArray.mk #[]).toList) (.done .ret (St.mk [V.c (C.p (PV.b false))] []))
 (bT (decide (0 < (↑m : Int))) (.done .ret (St.mk [V.c (C.p (PV.b false))] []))
 (bT (k != 0) (.done .ret (St.mk [V.c (C.p (PV.b false))] [])) (.done .ret (St.mk [V.c (C.p (PV.b ((↑b : Int) == 0)))] [])))))))))))))) := by kernel_rfl
theorem tS71 (fu wi off k n d : Int) (nm : ByteArray) (m : Nat) (f : Nat → Nat → PV) (b : Nat) (g : Nat → Nat → PV) (c : Nat) (e : Nat → Nat → PV) : exTs extS7 (dropL 3 (pcs Tryz.prog Tryz.f53)) (cst 102 [(1, .c (.ptr 0 0))] [.cells 32 (.p (.i .i64 1) :: [.p (.i .i64 fu), .p (.i .i64 wi), .p (.i .i64 off), .p (.i .i64 k), .p (.i .i64 n), .p (.i .i64 d), .p (.s nm), .p (.l 3 m f), .p (.l 1 b g), .p (.l 11 c e)])]) (endG [] (resOf Tryz.prog Tryz.f53)) = Tr.rq (Int.ofNat 0 ≤ Int.ofNat 1 ∧ 1 < (↑4 : Int))
 (.rq (1 < 4)
 (bT (decide (8 ≤ fu)) (.done .ret (St.mk [V.c (C.p (PV.b false))] []))
 (.rq (Int.ofNat 0 ≤ Int.ofNat 1 ∧ 1 < (↑4 : Int))
 (.rq (1 < 4)
 (bT ((↑c : Int) != 0) (.done .ret (St.mk [V.c (C.p (PV.b false))] []))
 (bT (n != 0) (.done .ret (St.mk [V.c (C.p (PV.b false))] []))
 (bT (d != 0) (.done .ret (St.mk [V.c (C.p (PV.b false))] [])) (.done .ret (St.mk [V.c (C.p (PV.b ((↑b : Int) == 0)))] []))))))))) := by kernel_rfl
theorem tS72 (fu wi off k n d : Int) (nm : ByteArray) (m : Nat) (f : Nat → Nat → PV) (b : Nat) (g : Nat → Nat → PV) (c : Nat) (e : Nat → Nat → PV) : exTs extS7 (dropL 3 (pcs Tryz.prog Tryz.f53)) (cst 102 [(1, .c (.ptr 0 0))] [.cells 32 (.p (.i .i64 2) :: [.p (.i .i64 fu), .p (.i .i64 wi), .p (.i .i64 off), .p (.i .i64 k), .p (.i .i64 n), .p (.i .i64 d), .p (.s nm), .p (.l 3 m f), .p (.l 1 b g), .p (.l 11 c e)])]) (endG [] (resOf Tryz.prog Tryz.f53)) = Tr.rq (Int.ofNat 0 ≤ Int.ofNat 2 ∧ 2 < (↑4 : Int))
 (.rq (2 < 4)
 (bT (decide (5 ≤ fu)) (.done .ret (St.mk [V.c (C.p (PV.b false))] []))
 (.rq (Int.ofNat 0 ≤ Int.ofNat 2 ∧ 2 < (↑4 : Int))
 (.rq (2 < 4)
 (bT ((↑c : Int) != 1) (.done .ret (St.mk [V.c (C.p (PV.b false))] []))
 (bT (n != 0) (.done .ret (St.mk [V.c (C.p (PV.b false))] []))
 (bT (d != 0) (.done .ret (St.mk [V.c (C.p (PV.b false))] []))
 (bT (wi != 0) (.done .ret (St.mk [V.c (C.p (PV.b false))] []))
 (bT (off != 0) (.done .ret (St.mk [V.c (C.p (PV.b false))] []))
 (bT (!nm.toList == (ByteArray.mk #[]).toList) (.done .ret (St.mk [V.c (C.p (PV.b false))] []))
 (bT (decide (0 < (↑m : Int))) (.done .ret (St.mk [V.c (C.p (PV.b false))] [])) (.done .ret (St.mk [V.c (C.p (PV.b true))] []))))))))))))) := by kernel_rfl
theorem tS73 (fu wi off k n d : Int) (nm : ByteArray) (m : Nat) (f : Nat → Nat → PV) (b : Nat) (g : Nat → Nat → PV) (c : Nat) (e : Nat → Nat → PV) : exTs extS7 (dropL 3 (pcs Tryz.prog Tryz.f53)) (cst 102 [(1, .c (.ptr 0 0))] [.cells 32 (.p (.i .i64 3) :: [.p (.i .i64 fu), .p (.i .i64 wi), .p (.i .i64 off), .p (.i .i64 k), .p (.i .i64 n), .p (.i .i64 d), .p (.s nm), .p (.l 3 m f), .p (.l 1 b g), .p (.l 11 c e)])]) (endG [] (resOf Tryz.prog Tryz.f53)) = Tr.rq (Int.ofNat 0 ≤ Int.ofNat 3 ∧ 3 < (↑4 : Int))
 (.rq (3 < 4)
 (bT (decide (4 ≤ fu)) (.done .ret (St.mk [V.c (C.p (PV.b false))] []))
 (.rq (Int.ofNat 0 ≤ Int.ofNat 3 ∧ 3 < (↑4 : Int))
 (.rq (3 < 4)
 (bT ((↑c : Int) != 2) (.done .ret (St.mk [V.c (C.p (PV.b false))] []))
 (bT (n != 0) (.done .ret (St.mk [V.c (C.p (PV.b false))] []))
 (bT (d != 0) (.done .ret (St.mk [V.c (C.p (PV.b false))] []))
 (bT (wi != 0) (.done .ret (St.mk [V.c (C.p (PV.b false))] []))
 (bT (off != 0) (.done .ret (St.mk [V.c (C.p (PV.b false))] []))
 (bT (!nm.toList == (ByteArray.mk #[]).toList) (.done .ret (St.mk [V.c (C.p (PV.b false))] []))
 (bT (decide (0 < (↑m : Int))) (.done .ret (St.mk [V.c (C.p (PV.b false))] []))
 (bT (k != 0) (.done .ret (St.mk [V.c (C.p (PV.b false))] [])) (.done .ret (St.mk [V.c (C.p (PV.b ((↑b : Int) == 0)))] [])))))))))))))) := by kernel_rfl
section
variable {G : Nat → Option Obj}
theorem extS7_sound : SoundExt Tryz.prog G extS7 := extOf_sound (by simp; exact okValidQ)
set_option maxRecDepth 100000 in
theorem okShaped7 : ModOK Tryz.prog G 53 mShaped := by
  intro args p v hm hp h
  unfold mShaped at hm
  split at hm; rotate_left; · cases hm
  rename_i kd fu wi off k n d nm m f b g c e
  obtain ⟨rfl, rfl⟩ := some_pairU hm
  clear hm
  refine fn_S Tryz.func53 (by kernel_rfl) rfl ?_ h
  refine ExS.evG extS7_sound 3 (tS7a kd fu wi off k n d nm m f b g c e) ?_
  simp only [holds_bT, holds_leaf, kf_normal, kf_ret', decide_eq_true_eq, decide_eq_false_iff_not]
  have bad : ¬ (0 ≤ kd ∧ kd ≤ 3 ∧ 0 ≤ fu) → Leaf (VLe (V.c (C.p (PV.b false))) (bV (shapedB kd fu k n d (noSelB wi off nm m) b c))) := fun hb => bvL (by
    unfold shapedB
    repeat' split
    all_goals first | rfl | (simp; omega))
  refine ⟨fun c1 => bad (by omega), fun c1 => ⟨fun c2 => bad (by omega), fun c2 => ⟨fun c3 => bad (by omega), fun c3 => ⟨?_⟩⟩⟩⟩
  clear bad
  have e0 : ((c : Int) != 0) = !decide (c = 0) := by
    show (!((c : Int) == ((0 : Nat) : Int))) = _
    rw [cast_beq]
  have e1 : ((c : Int) != 1) = !decide (c = 1) := by
    show (!((c : Int) == ((1 : Nat) : Int))) = _
    rw [cast_beq]
  have e2 : ((c : Int) != 2) = !decide (c = 2) := by
    show (!((c : Int) == ((2 : Nat) : Int))) = _
    rw [cast_beq]
  have e3 : ((b : Int) == 0) = decide (b = 0) := cast_beq b 0
  have em : decide (0 < (m : Int)) = !decide (m = 0) := by rw [Bool.eq_iff_iff]; simp; omega
  have hk : kd = 0 ∨ kd = 1 ∨ kd = 2 ∨ kd = 3 := by omega
  have hI := hp
  clear hp c1 c2
  rcases hk with rfl | rfl | rfl | rfl
  · refine ExS.evH extS7_sound (tS70 fu wi off k n d nm m f b g c e) ?_
    simp only [holds_bT, holds_rq, holds_leaf, kf_ret', e0, e1, e2, e3, em, text_beq, bne, Bool.not_eq_true', Bool.not_eq_false', beq_iff_eq, beq_eq_false_iff_ne, ne_eq, decide_eq_true_eq, decide_eq_false_iff_not]
    clear h e0 e1 e2 e3 em
    unfold shapedB noSelB
    repeat' (first | apply And.intro | intro _)
    all_goals first | exact hI.1.1 | exact hI.1.2 | exact hI.2.1 | exact hI.2.2 | decide | (refine bvL ?_; simp_all; done) | (refine bvL ?_; simp_all; omega)
  · refine ExS.evH extS7_sound (tS71 fu wi off k n d nm m f b g c e) ?_
    simp only [holds_bT, holds_rq, holds_leaf, kf_ret', e0, e1, e2, e3, em, text_beq, bne, Bool.not_eq_true', Bool.not_eq_false', beq_iff_eq, beq_eq_false_iff_ne, ne_eq, decide_eq_true_eq, decide_eq_false_iff_not]
    clear h e0 e1 e2 e3 em
    unfold shapedB noSelB
    repeat' (first | apply And.intro | intro _)
    all_goals first | exact hI.1.1 | exact hI.1.2 | exact hI.2.1 | exact hI.2.2 | decide | (refine bvL ?_; simp_all; done) | (refine bvL ?_; simp_all; omega)
  · refine ExS.evH extS7_sound (tS72 fu wi off k n d nm m f b g c e) ?_
    simp only [holds_bT, holds_rq, holds_leaf, kf_ret', e0, e1, e2, e3, em, text_beq, bne, Bool.not_eq_true', Bool.not_eq_false', beq_iff_eq, beq_eq_false_iff_ne, ne_eq, decide_eq_true_eq, decide_eq_false_iff_not]
    clear h e0 e1 e2 e3 em
    unfold shapedB noSelB
    repeat' (first | apply And.intro | intro _)
    all_goals first | exact hI.1.1 | exact hI.1.2 | exact hI.2.1 | exact hI.2.2 | decide | (refine bvL ?_; simp_all; done) | (refine bvL ?_; simp_all; omega)
  · refine ExS.evH extS7_sound (tS73 fu wi off k n d nm m f b g c e) ?_
    simp only [holds_bT, holds_rq, holds_leaf, kf_ret', e0, e1, e2, e3, em, text_beq, bne, Bool.not_eq_true', Bool.not_eq_false', beq_iff_eq, beq_eq_false_iff_ne, ne_eq, decide_eq_true_eq, decide_eq_false_iff_not]
    clear h e0 e1 e2 e3 em
    unfold shapedB noSelB
    repeat' (first | apply And.intro | intro _)
    all_goals first | exact hI.1.1 | exact hI.1.2 | exact hI.2.1 | exact hI.2.2 | decide | (refine bvL ?_; simp_all; done) | (refine bvL ?_; simp_all; omega)
end
end Go.AE
namespace Go.AE
set_option linter.unusedVariables false
set_option linter.unusedSimpArgs false
open Go.Proofs Go.Proofs.YtecilaemjajcnaaGreatDoor
def gwL : List ByteArray := [⟨#[115, 117, 109]⟩, ⟨#[109, 105, 110]⟩, ⟨#[109, 97, 120]⟩, ⟨#[99, 111, 117, 110, 116]⟩, ⟨#[107, 116, 104]⟩]
def gwB (nm : ByteArray) : Bool := gwL.any fun x => decide (x = nm)
def mContG : Mod
  | [.c (.p (.z (.slice (some a) n c))), .c (.p (.s nm))] => some (a = ⟨0, 0, none⟩ ∧ n = 5 ∧ c = 5, bV (gwB nm))
  | _ => none
def fnd (nm : ByteArray) : List ByteArray → Int → Int
  | [], _ => -1
  | x :: r, i => if x = nm then i else fnd nm r (i + 1)
def mFind : Mod
  | [.c (.p (.l 1 n f)), .c (.p (.s nm))] => some (IsL encS 1 (decL decS n f) n f ∧ n ≤ 1000, iV (fnd nm (decL decS n f) 0))
  | _ => none
def mGroups : Mod
  | [] => some (True, listV encS 1 gwL)
  | _ => none
def namedB (kd : Int) (nm : ByteArray) : Bool := !(decide (kd = 1) && (!nameB nm || gwB nm))
def mNamed : Mod
  | [.a [.p (.i .i64 kd), .p (.i .i64 fu), .p (.i .i64 wi), .p (.i .i64 off), .p (.i .i64 k), .p (.i .i64 n), .p (.i .i64 d), .p (.s nm), .p (.l 3 m f), .p (.l 1 b g), .p (.l 11 c e)]] => some (m = 0 ∧ b = 0, bV (namedB kd nm))
  | _ => none
def extNm : Ext := extOf [(13, mLName), (51, mContG)]
def extN7 : Ext := extOf [(17, mName), (72, mGroups), (71, mFind)]
theorem tFi1 (L : List ByteArray) (nm : ByteArray) : exTs ext0 (takeL 2 (pcs Tryz.prog Tryz.f71)) (st0 Tryz.f71 [listV encS 1 L, sV nm]) (endG (msk 19 [0, 1, 5]) (resOf Tryz.prog Tryz.f71)) = Tr.done X.normal
 (cst 19 [(0, .c (.p (.l 1 L.length (rowP encS L)))), (1, .c (.p (.s nm))), (5, .c (.p (.i .i64 0)))] []) := by kernel_rfl
theorem tFi2 (L : List ByteArray) (nm : ByteArray) (i : Nat) : exTs ext0 (lpB (pcs Tryz.prog Tryz.f71) 2) (cst 19 [(0, listV encS 1 L), (1, sV nm), (5, iV (i : Nat))] []) (endG (msk 19 [0, 1, 5]) (resOf Tryz.prog Tryz.f71)) = bT (decide ((↑i : Int) < (↑L.length : Int)))
 (.rq (0 ≤ (↑i : Int) ∧ (↑i : Int) < (↑L.length : Int))
 (bT ((L.getD (↑i : Int).toNat default).toList == nm.toList) (.done .ret (St.mk [V.c (C.p (PV.i IntKind.i64 (↑i : Int)))] []))
 (.rq (inR IntKind.i64 ((↑i : Int) + 1))
 (.done .normal
 (cst 19 [(0, .c (.p (.l 1 L.length (rowP encS L)))), (1, .c (.p (.s nm))), (5, .c (.p (.i .i64 ((↑i : Int) + 1))))] [])))))
 (.done (.exit 0)
 (cst 19 [(0, .c (.p (.l 1 L.length (rowP encS L)))), (1, .c (.p (.s nm))), (5, .c (.p (.i .i64 (↑i : Int))))] [])) := by kernel_rfl
theorem tFi3 (L : List ByteArray) (nm : ByteArray) (i : Nat) : exTs ext0 (dropL 3 (pcs Tryz.prog Tryz.f71)) (cst 19 [(0, listV encS 1 L), (1, sV nm), (5, iV (i : Nat))] []) (endG [] (resOf Tryz.prog Tryz.f71)) = Tr.done X.ret (St.mk [V.c (C.p (PV.i IntKind.i64 (-1)))] []) := by kernel_rfl
theorem tGr1  : exTs ext0 (pcs Tryz.prog Tryz.f72) (st0 Tryz.f72 []) (endG [] (resOf Tryz.prog Tryz.f72)) = Tr.rq
 (5 ≤ 5 ∧
 ∀ (e o : Nat),
 e < 5 →
 o < 1 →
 isF
 (C.p
 (PV.s
 (nth (ByteArray.mk #[])
 [ByteArray.mk #[115, 117, 109], ByteArray.mk #[109, 105, 110], ByteArray.mk #[109, 97, 120], ByteArray.mk #[99, 111, 117, 110, 116], ByteArray.mk #[107, 116, 104]] (e + 0)))) =
 true)
 (.done .ret
 (St.mk [V.c (C.p (PV.l 1 5 fun e o => unP (C.p (PV.s (nth (ByteArray.mk #[]) [ByteArray.mk #[115, 117, 109], ByteArray.mk #[109, 105, 110], ByteArray.mk #[109, 97, 120], ByteArray.mk #[99, 111, 117, 110, 116], ByteArray.mk #[107, 116, 104]] (e + 0))))))] [])) := by kernel_rfl
theorem tNm1 (kd fu wi off k n d : Int) (nm : ByteArray) (f : Nat → Nat → PV) (g : Nat → Nat → PV) (c : Nat) (e : Nat → Nat → PV) : exTs extNm (takeL 4 (pcs Tryz.prog Tryz.f39)) (st0 Tryz.f39 [.a [.p (.i .i64 kd), .p (.i .i64 fu), .p (.i .i64 wi), .p (.i .i64 off), .p (.i .i64 k), .p (.i .i64 n), .p (.i .i64 d), .p (.s nm), .p (.l 3 0 f), .p (.l 1 0 g), .p (.l 11 c e)]]) (endG (msk 59 [1, 23, 24, 25]) (resOf Tryz.prog Tryz.f39)) = bT (kd == 1)
 (.rq True
 (bT (!nameB nm) (.done .ret (St.mk [V.c (C.p (PV.b false))] []))
 (.rq (Addr.mk 0 0 none = Addr.mk 0 0 none ∧ 5 = 5 ∧ 5 = 5)
 (bT (gwB nm) (.done .ret (St.mk [V.c (C.p (PV.b false))] []))
 (.done .normal
 (cst 59 [(1, .c (.ptr 0 0)), (23, .c (.p (.l 3 0 f))), (24, .c (.p (.i .i64 (↑0 : Int)))), (25, .c (.p (.i .i64 0)))] [.cells 32 [.p (.i .i64 kd), .p (.i .i64 fu), .p (.i .i64 wi), .p (.i .i64 off), .p (.i .i64 k), .p (.i .i64 n), .p (.i .i64 d), .p (.s nm), .p (.l 3 0 f), .p (.l 1 0 g), .p (.l 11 c e)]]))))))
 (.done .normal
 (cst 59 [(1, .c (.ptr 0 0)), (23, .c (.p (.l 3 0 f))), (24, .c (.p (.i .i64 (↑0 : Int)))), (25, .c (.p (.i .i64 0)))] [.cells 32 [.p (.i .i64 kd), .p (.i .i64 fu), .p (.i .i64 wi), .p (.i .i64 off), .p (.i .i64 k), .p (.i .i64 n), .p (.i .i64 d), .p (.s nm), .p (.l 3 0 f), .p (.l 1 0 g), .p (.l 11 c e)]])) := by kernel_rfl
theorem tNm2 (kd fu wi off k n d : Int) (nm : ByteArray) (f : Nat → Nat → PV) (g : Nat → Nat → PV) (c : Nat) (e : Nat → Nat → PV) : exTs ext0 (lpB (pcs Tryz.prog Tryz.f39) 4) (cst 59 [(1, .c (.ptr 0 0)), (23, .c (.p (.l 3 0 f))), (24, iV (0 : Nat)), (25, iV (0 : Nat))] [.cells 32 [.p (.i .i64 kd), .p (.i .i64 fu), .p (.i .i64 wi), .p (.i .i64 off), .p (.i .i64 k), .p (.i .i64 n), .p (.i .i64 d), .p (.s nm), .p (.l 3 0 f), .p (.l 1 0 g), .p (.l 11 c e)]]) (endG (msk 59 [1]) (resOf Tryz.prog Tryz.f39)) = Tr.done (X.exit 0)
 (cst 59 [(1, .c (.ptr 0 0))] [.cells 32 [.p (.i .i64 kd), .p (.i .i64 fu), .p (.i .i64 wi), .p (.i .i64 off), .p (.i .i64 k), .p (.i .i64 n), .p (.i .i64 d), .p (.s nm), .p (.l 3 0 f), .p (.l 1 0 g), .p (.l 11 c e)]]) := by kernel_rfl
theorem tNm3 (kd fu wi off k n d : Int) (nm : ByteArray) (f : Nat → Nat → PV) (g : Nat → Nat → PV) (c : Nat) (e : Nat → Nat → PV) : exTs ext0 (takeL 1 (dropL 5 (pcs Tryz.prog Tryz.f39))) (cst 59 [(1, .c (.ptr 0 0))] [.cells 32 [.p (.i .i64 kd), .p (.i .i64 fu), .p (.i .i64 wi), .p (.i .i64 off), .p (.i .i64 k), .p (.i .i64 n), .p (.i .i64 d), .p (.s nm), .p (.l 3 0 f), .p (.l 1 0 g), .p (.l 11 c e)]]) (endG (msk 59 [1, 34, 35, 36]) (resOf Tryz.prog Tryz.f39)) = Tr.done X.normal
 (cst 59 [(1, .c (.ptr 0 0)), (34, .c (.p (.l 1 0 g))), (35, .c (.p (.i .i64 (↑0 : Int)))), (36, .c (.p (.i .i64 0)))] [.cells 32 [.p (.i .i64 kd), .p (.i .i64 fu), .p (.i .i64 wi), .p (.i .i64 off), .p (.i .i64 k), .p (.i .i64 n), .p (.i .i64 d), .p (.s nm), .p (.l 3 0 f), .p (.l 1 0 g), .p (.l 11 c e)]]) := by kernel_rfl
theorem tNm4 (kd fu wi off k n d : Int) (nm : ByteArray) (f : Nat → Nat → PV) (g : Nat → Nat → PV) (c : Nat) (e : Nat → Nat → PV) : exTs ext0 (lpB (pcs Tryz.prog Tryz.f39) 6) (cst 59 [(1, .c (.ptr 0 0)), (34, .c (.p (.l 1 0 g))), (35, iV (0 : Nat)), (36, iV (0 : Nat))] [.cells 32 [.p (.i .i64 kd), .p (.i .i64 fu), .p (.i .i64 wi), .p (.i .i64 off), .p (.i .i64 k), .p (.i .i64 n), .p (.i .i64 d), .p (.s nm), .p (.l 3 0 f), .p (.l 1 0 g), .p (.l 11 c e)]]) (endG (msk 59 [1]) (resOf Tryz.prog Tryz.f39)) = Tr.done (X.exit 2)
 (cst 59 [(1, .c (.ptr 0 0))] [.cells 32 [.p (.i .i64 kd), .p (.i .i64 fu), .p (.i .i64 wi), .p (.i .i64 off), .p (.i .i64 k), .p (.i .i64 n), .p (.i .i64 d), .p (.s nm), .p (.l 3 0 f), .p (.l 1 0 g), .p (.l 11 c e)]]) := by kernel_rfl
theorem tNm5 (kd fu wi off k n d : Int) (nm : ByteArray) (f : Nat → Nat → PV) (g : Nat → Nat → PV) (c : Nat) (e : Nat → Nat → PV) : exTs ext0 (dropL 7 (pcs Tryz.prog Tryz.f39)) (cst 59 [(1, .c (.ptr 0 0))] [.cells 32 [.p (.i .i64 kd), .p (.i .i64 fu), .p (.i .i64 wi), .p (.i .i64 off), .p (.i .i64 k), .p (.i .i64 n), .p (.i .i64 d), .p (.s nm), .p (.l 3 0 f), .p (.l 1 0 g), .p (.l 11 c e)]]) (endG [] (resOf Tryz.prog Tryz.f39)) = Tr.done X.ret (St.mk [V.c (C.p (PV.b true))] []) := by kernel_rfl
theorem tNn1 (kd fu wi off k n d : Int) (nm : ByteArray) (f : Nat → Nat → PV) (g : Nat → Nat → PV) (c : Nat) (e : Nat → Nat → PV) : exTs extN7 (takeL 4 (pcs Tryz.prog Tryz.f54)) (st0 Tryz.f54 [.a [.p (.i .i64 kd), .p (.i .i64 fu), .p (.i .i64 wi), .p (.i .i64 off), .p (.i .i64 k), .p (.i .i64 n), .p (.i .i64 d), .p (.s nm), .p (.l 3 0 f), .p (.l 1 0 g), .p (.l 11 c e)]]) (endG (msk 67 [1, 3]) (resOf Tryz.prog Tryz.f54)) = bT (kd == 1)
 (.rq True
 (bT (!nameB nm) (.done .ret (St.mk [V.c (C.p (PV.b false))] []))
 (.rq True
 (.rq (IsL encS 1 (decL decS 5 (rowP encS gwL)) 5 (rowP encS gwL) ∧ 5 ≤ 1000)
 (bT (decide (0 ≤ fnd nm (decL decS 5 (rowP encS gwL)) 0)) (.done .ret (St.mk [V.c (C.p (PV.b false))] []))
 (.done .normal
 (cst 67 [(1, .c (.ptr 0 0)), (3, .c (.p (.i .i64 0)))] [.cells 32 [.p (.i .i64 kd), .p (.i .i64 fu), .p (.i .i64 wi), .p (.i .i64 off), .p (.i .i64 k), .p (.i .i64 n), .p (.i .i64 d), .p (.s nm), .p (.l 3 0 f), .p (.l 1 0 g), .p (.l 11 c e)]])))))))
 (.done .normal
 (cst 67 [(1, .c (.ptr 0 0)), (3, .c (.p (.i .i64 0)))] [.cells 32 [.p (.i .i64 kd), .p (.i .i64 fu), .p (.i .i64 wi), .p (.i .i64 off), .p (.i .i64 k), .p (.i .i64 n), .p (.i .i64 d), .p (.s nm), .p (.l 3 0 f), .p (.l 1 0 g), .p (.l 11 c e)]])) := by kernel_rfl
theorem tNn2 (kd fu wi off k n d : Int) (nm : ByteArray) (f : Nat → Nat → PV) (g : Nat → Nat → PV) (c : Nat) (e : Nat → Nat → PV) : exTs ext0 (lpB (pcs Tryz.prog Tryz.f54) 4) (cst 67 [(1, .c (.ptr 0 0)), (3, iV (0 : Nat))] [.cells 32 [.p (.i .i64 kd), .p (.i .i64 fu), .p (.i .i64 wi), .p (.i .i64 off), .p (.i .i64 k), .p (.i .i64 n), .p (.i .i64 d), .p (.s nm), .p (.l 3 0 f), .p (.l 1 0 g), .p (.l 11 c e)]]) (endG (msk 67 [1]) (resOf Tryz.prog Tryz.f54)) = Tr.done (X.exit 0)
 (cst 67 [(1, .c (.ptr 0 0))] [.cells 32 [.p (.i .i64 kd), .p (.i .i64 fu), .p (.i .i64 wi), .p (.i .i64 off), .p (.i .i64 k), .p (.i .i64 n), .p (.i .i64 d), .p (.s nm), .p (.l 3 0 f), .p (.l 1 0 g), .p (.l 11 c e)]]) := by kernel_rfl
theorem tNn3 (kd fu wi off k n d : Int) (nm : ByteArray) (f : Nat → Nat → PV) (g : Nat → Nat → PV) (c : Nat) (e : Nat → Nat → PV) : exTs ext0 (takeL 1 (dropL 5 (pcs Tryz.prog Tryz.f54))) (cst 67 [(1, .c (.ptr 0 0))] [.cells 32 [.p (.i .i64 kd), .p (.i .i64 fu), .p (.i .i64 wi), .p (.i .i64 off), .p (.i .i64 k), .p (.i .i64 n), .p (.i .i64 d), .p (.s nm), .p (.l 3 0 f), .p (.l 1 0 g), .p (.l 11 c e)]]) (endG (msk 67 [1, 4]) (resOf Tryz.prog Tryz.f54)) = Tr.done X.normal
 (cst 67 [(1, .c (.ptr 0 0)), (4, .c (.p (.i .i64 0)))] [.cells 32 [.p (.i .i64 kd), .p (.i .i64 fu), .p (.i .i64 wi), .p (.i .i64 off), .p (.i .i64 k), .p (.i .i64 n), .p (.i .i64 d), .p (.s nm), .p (.l 3 0 f), .p (.l 1 0 g), .p (.l 11 c e)]]) := by kernel_rfl
theorem tNn4 (kd fu wi off k n d : Int) (nm : ByteArray) (f : Nat → Nat → PV) (g : Nat → Nat → PV) (c : Nat) (e : Nat → Nat → PV) : exTs ext0 (lpB (pcs Tryz.prog Tryz.f54) 6) (cst 67 [(1, .c (.ptr 0 0)), (4, iV (0 : Nat))] [.cells 32 [.p (.i .i64 kd), .p (.i .i64 fu), .p (.i .i64 wi), .p (.i .i64 off), .p (.i .i64 k), .p (.i .i64 n), .p (.i .i64 d), .p (.s nm), .p (.l 3 0 f), .p (.l 1 0 g), .p (.l 11 c e)]]) (endG (msk 67 [1]) (resOf Tryz.prog Tryz.f54)) = Tr.done (X.exit 2)
 (cst 67 [(1, .c (.ptr 0 0))] [.cells 32 [.p (.i .i64 kd), .p (.i .i64 fu), .p (.i .i64 wi), .p (.i .i64 off), .p (.i .i64 k), .p (.i .i64 n), .p (.i .i64 d), .p (.s nm), .p (.l 3 0 f), .p (.l 1 0 g), .p (.l 11 c e)]]) := by kernel_rfl
theorem tNn5 (kd fu wi off k n d : Int) (nm : ByteArray) (f : Nat → Nat → PV) (g : Nat → Nat → PV) (c : Nat) (e : Nat → Nat → PV) : exTs ext0 (dropL 7 (pcs Tryz.prog Tryz.f54)) (cst 67 [(1, .c (.ptr 0 0))] [.cells 32 [.p (.i .i64 kd), .p (.i .i64 fu), .p (.i .i64 wi), .p (.i .i64 off), .p (.i .i64 k), .p (.i .i64 n), .p (.i .i64 d), .p (.s nm), .p (.l 3 0 f), .p (.l 1 0 g), .p (.l 11 c e)]]) (endG [] (resOf Tryz.prog Tryz.f54)) = Tr.done X.ret (St.mk [V.c (C.p (PV.b true))] []) := by kernel_rfl
theorem fnd_mem (nm : ByteArray) : ∀ (L : List ByteArray) (i : Int), 0 ≤ i → (0 ≤ fnd nm L i ↔ L.any (fun x => decide (x = nm)) = true)
  | [], i, _ => by simp [fnd]
  | x :: r, i, hi => by
    unfold fnd
    split
    · rename_i h; simp [h, hi]
    · rename_i h
      rw [fnd_mem nm r (i + 1) (by omega)]
      simp [h]
theorem fnd_drop (nm : ByteArray) (L : List ByteArray) (i : Nat) (h : i < L.length) : fnd nm (L.drop i) i = if L.getD i default = nm then (i : Int) else fnd nm (L.drop (i + 1)) (i + 1 : Nat) := by
  rw [List.drop_eq_getElem_cons h]
  show (if L[i] = nm then _ else _) = _
  rw [List.getD_eq_getElem?_getD, List.getElem?_eq_getElem h]; rfl
def Gw (w : World) (b : Nat) : Option Obj := if b = 0 then w.heap[0]? else none
theorem gw_ok (w : World) : ∀ b o, Gw w b = some o → w.heap[b]? = some o := by
  intro b o h
  unfold Gw at h
  split at h
  · rename_i hb; rw [hb]; exact h
  · cases h
def GrpG (G : Nat → Option Obj) : Prop := ∃ o, G 0 = some o ∧ Go.CE.GlbOK o Go.CE.gw
theorem grpG_gw {w : World} (h : GrpW w) : GrpG (Gw w) := by
  obtain ⟨o, h1, h2⟩ := h
  exact ⟨o, by unfold Gw; rw [if_pos rfl]; exact h1, h2⟩
theorem bytes_inj {s t : ByteArray} (h : s.data.toList.map UInt8.toNat = t.data.toList.map UInt8.toNat) : s = t := by
  have h2 : s.data.toList = t.data.toList := (List.map_inj_right fun a b e => UInt8.toNat_inj.1 e).1 h
  cases s; cases t
  simp only [ByteArray.mk.injEq]
  exact Array.ext' h2
theorem gw_cells {w : World} {o : Obj} (h : w.heap[0]? = some o) (hg : Go.CE.GlbOK o Go.CE.gw) : Rd w w.heap.size (some ⟨0, 0, none⟩) 5 fun k => .string (gwL.getD k default) := by
  obtain ⟨cs, ty, fz, rfl, h1, h2⟩ := hg
  refine fun _ => ⟨_, rfl, (Array.getElem?_eq_some_iff.1 h).1, fun k hk => ?_⟩
  have hc : ∀ l, Go.CE.gw[k]? = some (.f (.s l)) → ∀ t : ByteArray, t.data.toList.map UInt8.toNat = l → w.cell? ((⟨0, 0, none⟩ : Addr).add k) = some (.string t) := by
    intro l hb t ht
    obtain ⟨u, e1, e2⟩ := h2 k _ hb
    have e3 : u = .string t := by
      obtain ⟨s, rfl, e⟩ := e2
      rw [bytes_inj (e.trans ht.symm)]
    subst e3
    have e0 : ((⟨0, 0, none⟩ : Addr).add k) = ⟨0, k, none⟩ := by unfold Addr.add; split <;> simp_all
    rw [e0, cell_of_row w 0 k cs ty fz h]
    exact e1
  match k, hk with
  | 0, _ => exact hc _ rfl _ rfl
  | 1, _ => exact hc _ rfl _ rfl
  | 2, _ => exact hc _ rfl _ rfl
  | 3, _ => exact hc _ rfl _ rfl
  | 4, _ => exact hc _ rfl _ rfl
section
variable {G : Nat → Option Obj}
theorem okContG (hG : GrpG G) : ModOK Tryz.prog G 51 mContG := by
  intro args p v hm hp h
  unfold mContG at hm
  split at hm; rotate_left; · cases hm
  rename_i a n c nm
  obtain ⟨rfl, rfl⟩ := some_pairU hm
  obtain ⟨rfl, rfl, rfl⟩ := hp
  refine fn_kit rfl ?_ h
  intro R w vs hr hg ha
  obtain ⟨u, l, e, hu, ha⟩ := All2.nth2 ha
  obtain ⟨u1, l1, rfl, hu1, ha⟩ := All2.nth2 ha
  obtain rfl := All2.nil2 ha
  have hu : u = .slice (some ⟨0, 0, none⟩) 5 5 := hu
  have hu1 : u1 = .string nm := hu1
  subst hu; subst hu1
  obtain rfl : vs = #[.slice (some ⟨0, 0, none⟩) 5 5, .string nm] := by
    apply Array.ext'
    simpa using e
  obtain ⟨o, h1, h2⟩ := hG
  refine (containsS_any (some ⟨0, 0, none⟩) 5 5 (by omega) (fun k => gwL.getD k default) nm w (gw_cells (hg 0 o h1) h2)).mono ?_
  rintro e w' ⟨rfl, b, rfl, hb⟩
  refine ⟨_, rfl, ?_, RowKit.Below.refl _ _⟩
  have : b = gwB nm := by
    rw [Bool.eq_iff_iff, hb]
    unfold gwB
    rw [List.any_eq_true]
    constructor
    · rintro ⟨k, hk, e⟩
      refine ⟨gwL.getD k default, ?_, by simpa using e⟩
      rw [List.getD_eq_getElem?_getD, List.getElem?_eq_getElem (show k < gwL.length from hk)]
      exact List.getElem_mem _
    · rintro ⟨x, hx, e⟩
      obtain ⟨k, hk, e2⟩ := List.getElem_of_mem hx
      refine ⟨k, hk, ?_⟩
      rw [List.getD_eq_getElem?_getD, List.getElem?_eq_getElem hk, Option.getD_some, e2]
      simpa using e
  rw [this]; rfl
set_option maxRecDepth 100000 in
theorem okGroups : ModOK Tryz.prog G 72 mGroups := by
  intro args p v hm hp h
  unfold mGroups at hm
  split at hm; rotate_left; · cases hm
  obtain ⟨rfl, rfl⟩ := some_pairU hm
  refine fn_S Tryz.func72 (by kernel_rfl) rfl ?_ h
  refine ExS.evH ext0_sound tGr1 ?_
  simp only [holds_rq, holds_leaf, kf_ret']
  refine ⟨⟨Nat.le_refl _, fun e o _ _ => rfl⟩, ⟨VLe.p (PLe.l fun e o he ho => PLe.of_eq ?_)⟩⟩
  match e, he with
  | 0, _ => rfl
  | 1, _ => rfl
  | 2, _ => rfl
  | 3, _ => rfl
  | 4, _ => rfl
set_option maxRecDepth 100000 in
theorem okFind : ModOK Tryz.prog G 71 mFind := by
  intro args p v hm hp h
  unfold mFind at hm
  split at hm; rotate_left; · cases hm
  rename_i n f nm
  obtain ⟨rfl, rfl⟩ := some_pairU hm
  obtain ⟨hI, hn⟩ := hp
  obtain ⟨L, hL⟩ : ∃ L, decL decS n f = L := ⟨_, rfl⟩
  rw [hL] at hI ⊢
  have hl : L.length = n := hI.1
  refine FnS.args (args' := [listV encS 1 L, sV nm]) ?_ (.cons hI.le (.cons (.refl _) .nil))
  clear hL hm hI
  refine fn_S Tryz.func71 (by kernel_rfl) rfl ?_ h
  refine ExS.evG ext0_sound 2 (tFi1 L nm) ?_
  simp only [holds_leaf, kf_normal]
  refine ⟨?_⟩
  refine ExS.loop' (l := dropL 2 (pcs Tryz.prog Tryz.f71)) (b := inr (inr (nth .skip (pcs Tryz.prog Tryz.f71) 2))) (r := dropL 3 (pcs Tryz.prog Tryz.f71)) (id := 0) (by kernel_rfl) (σ := Nat)
    (fun i => cst 19 [(0, listV encS 1 L), (1, sV nm), (5, iV (i : Nat))] []) (fun i => i ≤ L.length ∧ fnd nm (L.drop i) i = fnd nm L 0) (fun i => L.length - i) 0 ⟨Nat.zero_le _, by simp⟩ (weak_of_eq (by kernel_rfl)) ?_
  rintro i ⟨hi, hf⟩ Q1 q1n q1e -
  refine ExS.evH ext0_sound (tFi2 L nm i) ?_
  simp only [holds_bT, holds_rq, holds_leaf, kf_ret', kf_normal, kf_exit, decide_eq_true_eq, decide_eq_false_iff_not, text_beq, inR, show (↑i : Int).toNat = i from rfl]
  refine ⟨fun h2 => ?_, fun h2 => ⟨q1e _ ?_⟩⟩
  · rw [fnd_drop nm L i (by omega)] at hf
    refine ⟨by omega, fun h3 => ⟨?_⟩, fun h3 => ⟨by omega, ⟨q1n (i + 1) _ ⟨by omega, ?_⟩ (show L.length - (i + 1) < L.length - i by omega) (weak_of_eq (by kernel_rfl))⟩⟩⟩
    · rw [if_pos h3] at hf
      rw [← hf]; exact VLe.refl _
    · rw [if_neg h3] at hf
      exact hf
  · obtain rfl : i = L.length := by omega
    refine ExS.evH ext0_sound (tFi3 L nm L.length) ?_
    simp only [holds_leaf, kf_ret']
    rw [List.drop_length] at hf
    rw [← hf]
    exact ⟨VLe.refl _⟩
theorem extNm_sound (hG : GrpG G) : SoundExt Tryz.prog G extNm := extOf_sound (by simp; exact ⟨okLName, okContG hG⟩)
theorem extN7_sound : SoundExt Tryz.prog G extN7 := extOf_sound (by simp; exact ⟨okName, okGroups, okFind⟩)
theorem fnd_gw (nm : ByteArray) : (0 ≤ fnd nm gwL 0) ↔ gwB nm = true := fnd_mem nm gwL 0 (Int.le_refl _)
set_option maxRecDepth 100000 in
theorem okNamed (hG : GrpG G) : ModOK Tryz.prog G 39 mNamed := by
  intro args p v hm hp h
  unfold mNamed at hm
  split at hm; rotate_left; · cases hm
  rename_i kd fu wi off k n d nm m f b g c e
  obtain ⟨rfl, rfl⟩ := some_pairU hm
  obtain ⟨rfl, rfl⟩ := hp
  clear hm
  refine fn_S Tryz.func39 (by kernel_rfl) rfl ?_ h
  refine ExS.evG (extNm_sound hG) 4 (tNm1 kd fu wi off k n d nm f g c e) ?_
  have fin : namedB kd nm = true → ExS Tryz.prog G (resOf Tryz.prog Tryz.f39) (bV (namedB kd nm)) (dropL 4 (pcs Tryz.prog Tryz.f39)) (cst 59 [(1, .c (.ptr 0 0)), (23, .c (.p (.l 3 0 f))), (24, iV (0 : Nat)), (25, iV (0 : Nat))] [.cells 32 [.p (.i .i64 kd), .p (.i .i64 fu), .p (.i .i64 wi), .p (.i .i64 off), .p (.i .i64 k), .p (.i .i64 n), .p (.i .i64 d), .p (.s nm), .p (.l 3 0 f), .p (.l 1 0 g), .p (.l 11 c e)]]) (fun _ _ => False) := fun hn => by
    refine ExS.loop' (l := dropL 4 (pcs Tryz.prog Tryz.f39)) (b := inr (inr (nth .skip (pcs Tryz.prog Tryz.f39) 4))) (r := dropL 5 (pcs Tryz.prog Tryz.f39)) (id := 0) (by kernel_rfl) (σ := Unit) (fun _ => cst 59 [(1, .c (.ptr 0 0)), (23, .c (.p (.l 3 0 f))), (24, iV (0 : Nat)), (25, iV (0 : Nat))] [.cells 32 [.p (.i .i64 kd), .p (.i .i64 fu), .p (.i .i64 wi), .p (.i .i64 off), .p (.i .i64 k), .p (.i .i64 n), .p (.i .i64 d), .p (.s nm), .p (.l 3 0 f), .p (.l 1 0 g), .p (.l 11 c e)]]) (fun _ => True) (fun _ => 0) () trivial (weak_of_eq (by kernel_rfl)) ?_
    rintro _ _ Q1 _ q1e -
    refine ExS.evH ext0_sound (tNm2 kd fu wi off k n d nm f g c e) ?_
    simp only [holds_leaf, kf_exit]
    refine ⟨q1e _ ?_⟩
    refine ExS.evG ext0_sound 1 (tNm3 kd fu wi off k n d nm f g c e) ?_
    simp only [holds_leaf, kf_normal]
    refine ⟨?_⟩
    refine ExS.loop' (l := dropL 6 (pcs Tryz.prog Tryz.f39)) (b := inr (inr (nth .skip (pcs Tryz.prog Tryz.f39) 6))) (r := dropL 7 (pcs Tryz.prog Tryz.f39)) (id := 2) (by kernel_rfl) (σ := Unit) (fun _ => cst 59 [(1, .c (.ptr 0 0)), (34, .c (.p (.l 1 0 g))), (35, iV (0 : Nat)), (36, iV (0 : Nat))] [.cells 32 [.p (.i .i64 kd), .p (.i .i64 fu), .p (.i .i64 wi), .p (.i .i64 off), .p (.i .i64 k), .p (.i .i64 n), .p (.i .i64 d), .p (.s nm), .p (.l 3 0 f), .p (.l 1 0 g), .p (.l 11 c e)]]) (fun _ => True) (fun _ => 0) () trivial (weak_of_eq (by kernel_rfl)) ?_
    rintro _ _ Q2 _ q2e -
    refine ExS.evH ext0_sound (tNm4 kd fu wi off k n d nm f g c e) ?_
    simp only [holds_leaf, kf_exit]
    refine ⟨q2e _ ?_⟩
    refine ExS.evH ext0_sound (tNm5 kd fu wi off k n d nm f g c e) ?_
    simp only [holds_leaf, kf_ret']
    rw [hn]
    exact ⟨VLe.refl _⟩
  simp only [holds_bT, holds_rq, holds_leaf, kf_ret', kf_normal, beq_iff_eq, beq_eq_false_iff_ne, ne_eq, Bool.not_eq_true', Bool.not_eq_false', true_and]
  refine ⟨fun h1 => ⟨fun h2 => ⟨?_⟩, fun h2 => ⟨fun h3 => ⟨?_⟩, fun h3 => ⟨fin ?_⟩⟩⟩, fun h1 => ⟨fin ?_⟩⟩
  · unfold namedB; rw [decide_eq_true h1, h2]; exact VLe.refl _
  · unfold namedB; rw [decide_eq_true h1, h2, h3]; exact VLe.refl _
  · unfold namedB; rw [h2, h3]; simp
  · unfold namedB; rw [decide_eq_false h1]; rfl
set_option maxRecDepth 100000 in
theorem okNamed7 : ModOK Tryz.prog G 54 mNamed := by
  intro args p v hm hp h
  unfold mNamed at hm
  split at hm; rotate_left; · cases hm
  rename_i kd fu wi off k n d nm m f b g c e
  obtain ⟨rfl, rfl⟩ := some_pairU hm
  obtain ⟨rfl, rfl⟩ := hp
  clear hm
  refine fn_S Tryz.func54 (by kernel_rfl) rfl ?_ h
  refine ExS.evG extN7_sound 4 (tNn1 kd fu wi off k n d nm f g c e) ?_
  have fin : namedB kd nm = true → ExS Tryz.prog G (resOf Tryz.prog Tryz.f54) (bV (namedB kd nm)) (dropL 4 (pcs Tryz.prog Tryz.f54)) (cst 67 [(1, .c (.ptr 0 0)), (3, iV (0 : Nat))] [.cells 32 [.p (.i .i64 kd), .p (.i .i64 fu), .p (.i .i64 wi), .p (.i .i64 off), .p (.i .i64 k), .p (.i .i64 n), .p (.i .i64 d), .p (.s nm), .p (.l 3 0 f), .p (.l 1 0 g), .p (.l 11 c e)]]) (fun _ _ => False) := fun hn => by
    refine ExS.loop' (l := dropL 4 (pcs Tryz.prog Tryz.f54)) (b := inr (inr (nth .skip (pcs Tryz.prog Tryz.f54) 4))) (r := dropL 5 (pcs Tryz.prog Tryz.f54)) (id := 0) (by kernel_rfl) (σ := Unit) (fun _ => cst 67 [(1, .c (.ptr 0 0)), (3, iV (0 : Nat))] [.cells 32 [.p (.i .i64 kd), .p (.i .i64 fu), .p (.i .i64 wi), .p (.i .i64 off), .p (.i .i64 k), .p (.i .i64 n), .p (.i .i64 d), .p (.s nm), .p (.l 3 0 f), .p (.l 1 0 g), .p (.l 11 c e)]]) (fun _ => True) (fun _ => 0) () trivial (weak_of_eq (by kernel_rfl)) ?_
    rintro _ _ Q1 _ q1e -
    refine ExS.evH ext0_sound (tNn2 kd fu wi off k n d nm f g c e) ?_
    simp only [holds_leaf, kf_exit]
    refine ⟨q1e _ ?_⟩
    refine ExS.evG ext0_sound 1 (tNn3 kd fu wi off k n d nm f g c e) ?_
    simp only [holds_leaf, kf_normal]
    refine ⟨?_⟩
    refine ExS.loop' (l := dropL 6 (pcs Tryz.prog Tryz.f54)) (b := inr (inr (nth .skip (pcs Tryz.prog Tryz.f54) 6))) (r := dropL 7 (pcs Tryz.prog Tryz.f54)) (id := 2) (by kernel_rfl) (σ := Unit) (fun _ => cst 67 [(1, .c (.ptr 0 0)), (4, iV (0 : Nat))] [.cells 32 [.p (.i .i64 kd), .p (.i .i64 fu), .p (.i .i64 wi), .p (.i .i64 off), .p (.i .i64 k), .p (.i .i64 n), .p (.i .i64 d), .p (.s nm), .p (.l 3 0 f), .p (.l 1 0 g), .p (.l 11 c e)]]) (fun _ => True) (fun _ => 0) () trivial (weak_of_eq (by kernel_rfl)) ?_
    rintro _ _ Q2 _ q2e -
    refine ExS.evH ext0_sound (tNn4 kd fu wi off k n d nm f g c e) ?_
    simp only [holds_leaf, kf_exit]
    refine ⟨q2e _ ?_⟩
    refine ExS.evH ext0_sound (tNn5 kd fu wi off k n d nm f g c e) ?_
    simp only [holds_leaf, kf_ret']
    rw [hn]
    exact ⟨VLe.refl _⟩
  have e5 : decL decS 5 (rowP encS gwL) = gwL := decS_row gwL
  simp only [holds_bT, holds_rq, holds_leaf, kf_ret', kf_normal, beq_iff_eq, beq_eq_false_iff_ne, ne_eq, Bool.not_eq_true', Bool.not_eq_false', true_and, e5, decide_eq_true_eq, decide_eq_false_iff_not, fnd_gw, Bool.not_eq_true]
  refine ⟨fun h1 => ⟨fun h2 => ⟨?_⟩, fun h2 => ⟨⟨isL_row encS 1 gwL, by omega⟩, fun h3 => ⟨?_⟩, fun h3 => ⟨fin ?_⟩⟩⟩, fun h1 => ⟨fin ?_⟩⟩
  · unfold namedB; rw [decide_eq_true h1, h2]; exact VLe.refl _
  · unfold namedB; rw [decide_eq_true h1, h2, h3]; exact VLe.refl _
  · unfold namedB; rw [h2, h3]; simp
  · unfold namedB; rw [decide_eq_false h1]; rfl
end
end Go.AE
