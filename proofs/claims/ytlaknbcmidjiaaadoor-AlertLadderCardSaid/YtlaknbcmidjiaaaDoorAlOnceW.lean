/- The walk of the law AlertOnce: it returns true and changes nothing that was there. -/
import Derived.Test.YtlaknbcmidjiaaaDoorAlLives
import Derived.Test.YtlaknbcmidjiaaaDoorAlTruthsW
import Derived.Deep.RegionHeld3
import Derived.Deep.RegionWith
namespace Go.Proofs.YtlaknbcmidjiaaaDoor
open Go.RowKit

theorem around1000 (wc : World) (n : Int) (p : Nat) (hp : p = aroundI n 1000) (hn : -9223372036854775808 ≤ n ∧ n ≤ 9223372036854775807) :
    Calls Tryd.prog 27 #[.int .i64 n, .int .i64 1000] wc fun e w' => e = .returned (.int .i64 (p : Int)) ∧ wc = w' := by
  refine (around_any n 1000 hn (by omega) (by omega) wc).mono ?_
  rintro e w' ⟨rfl, rfl⟩
  exact ⟨by rw [hp], rfl⟩
/-- Step from an alert without labels. -/
theorem stepC (wc : World) (hL : Lev wc) (A : Option Addr) (c : Nat) (st si le vd tk : Int) (d : Int × Int × Int × Bool) (hd : stepD (visB hot 1 noL 0 st si le tk) st si le vd tk = d) :
    Calls Tryd.prog 18 #[.agg #[.string hot, .int .i64 1, .slice A 0 c, .int .i64 st, .int .i64 si, .int .i64 le], .int .i64 vd, .int .i64 tk] wc fun e w' =>
      ∃ A c, e = .returned (.tuple #[.agg #[.string hot, .int .i64 1, .slice A 0 c, .int .i64 d.1, .int .i64 d.2.1, .int .i64 d.2.2.1], .bool d.2.2.2]) ∧ Below wc.heap.size wc w' := by
  subst hd
  refine (aStep_any hot 1 A 0 c noL st si le vd tk wc (by omega) RdL.nil hL).mono ?_
  rintro e w' ⟨v, rfl, hown, hb⟩
  obtain ⟨A1, c1, rfl, _, _, _⟩ := Rd.of_vl hown
  exact ⟨A1, c1, rfl, hb⟩
/-- The same, in a world that has grown since W. -/
theorem stepH (W wc : World) {q : Prop} (hbq : Below W.heap.size W wc ∧ q) (hL : Lev W) (A : Option Addr) (c : Nat) (st si le vd tk : Int) (d : Int × Int × Int × Bool) (hd : stepD (visB hot 1 noL 0 st si le tk) st si le vd tk = d) :
    Calls Tryd.prog 18 #[.agg #[.string hot, .int .i64 1, .slice A 0 c, .int .i64 st, .int .i64 si, .int .i64 le], .int .i64 vd, .int .i64 tk] wc fun e w' =>
      ∃ A c, e = .returned (.tuple #[.agg #[.string hot, .int .i64 1, .slice A 0 c, .int .i64 d.1, .int .i64 d.2.1, .int .i64 d.2.2.1], .bool d.2.2.2]) ∧ Below W.heap.size W w' ∧ Below wc.heap.size wc w' := by
  refine (stepC wc (hL.next hbq.1) A c st si le vd tk d hd).mono ?_
  rintro e w' ⟨A1, c1, rfl, hb⟩
  exact ⟨A1, c1, rfl, hbq.1.trans (hb.mono hbq.1.size), hb⟩
theorem aroundH (W wc : World) {q : Prop} (hbq : Below W.heap.size W wc ∧ q) (n : Int) (p : Nat) (hp : p = aroundI n 1000) (hn : -9223372036854775808 ≤ n ∧ n ≤ 9223372036854775807) :
    Calls Tryd.prog 27 #[.int .i64 n, .int .i64 1000] wc fun e w' => e = .returned (.int .i64 (p : Int)) ∧ Below W.heap.size W w' ∧ wc = w' := by
  refine (around1000 wc n p hp hn).mono ?_
  rintro e w' ⟨rfl, rfl⟩
  exact ⟨rfl, hbq.1, rfl⟩
theorem belowA {W w' : World} (h : Below W.heap.size W w') (o : Obj) : Below W.heap.size W (w'.alloc o) := h.alloc h.size o
theorem below6A {W w' : World} (h : Below W.heap.size W w') (v0 v1 v2 v3 v4 v5 : Value) : Below W.heap.size W ((((((w'.setCell ⟨W.heap.size, 0, none⟩ v0).setCell ⟨W.heap.size, 1, none⟩ v1).setCell ⟨W.heap.size, 2, none⟩ v2).setCell ⟨W.heap.size, 3, none⟩ v3).setCell ⟨W.heap.size, 4, none⟩ v4).setCell ⟨W.heap.size, 5, none⟩ v5) := below6 h (Nat.le_refl _) v0 v1 v2 v3 v4 v5
/-- One step from an alert without labels, its state at most Firing. -/
theorem step_once {st si vd t : Int} (hst : st = 0 ∨ st = 1 ∨ st = 2) (hvd : vd = 0 ∨ vd = 1 ∨ vd = 2) (h0 : 0 ≤ si) (h1 : si ≤ t) (h2 : t ≤ 1048576) {st' si' le' : Int} {bg : Bool} (h : stepD (visB hot 1 noL 0 st si 0 t) st si 0 vd t = (st', si', le', bg)) :
    bg = (decide (st = 0 ∨ st = 1) && (vd == 2)) ∧ le' = 0 ∧ (st' = 0 ∨ st' = 1 ∨ st' = 2) ∧ 0 ≤ si' ∧ si' ≤ t ∧ (if vd = 1 then decide (st = 0 ∨ st = 1) else (vd == 0)) = decide (st' = 0 ∨ st' = 1) := by
  have hv : visB hot 1 noL 0 st si 0 t = true := by
    refine hot_vis st si 0 t (by omega) (by omega) h0 h1 h2 ?_
    rcases hst with rfl | rfl | rfl <;> decide
  rw [hv] at h
  rcases hst with rfl | rfl | rfl <;> rcases hvd with rfl | rfl | rfl <;> simp [stepD] at h <;> obtain ⟨rfl, rfl, rfl, rfl⟩ := h <;> simp <;> omega
theorem Lev.alloc {w : World} (h : Lev w) (o : Obj) : Lev (w.alloc o) := h.next ((Below.refl _ _).alloc (Nat.le_refl _) _)
theorem bcell {W w1 : World} (hb : Below W.heap.size W w1) : (∀ b o, b < W.heap.size → w1.cell? ⟨b, o, none⟩ = W.cell? ⟨b, o, none⟩) ∧ (∀ b o, b < W.heap.size → w1.frozen? ⟨b, o, none⟩ = W.frozen? ⟨b, o, none⟩) :=
  ⟨fun b o h => hb.cell (p := ⟨b, o, none⟩) h, fun b o h => hb.frozen (p := ⟨b, o, none⟩) h⟩

/-- A box that was made ahead of a call stands behind it. -/
theorem boxKept {w w' : World} {t : TypeId} {z0 z1 z2 z3 z4 z5 : Value} (hb : Below (w.alloc (.cells #[z0, z1, z2, z3, z4, z5] t)).heap.size (w.alloc (.cells #[z0, z1, z2, z3, z4, z5] t)) w') :
    Bk w' w.heap.size t #[z0, z1, z2, z3, z4, z5] := (Bk.new w t #[z0, z1, z2, z3, z4, z5]).next hb
theorem boxKeptD {w w' : World} {t : TypeId} {z0 z1 z2 z3 z4 z5 : Value} (hb : Below ((w.alloc (.cells #[z0, z1, z2, z3, z4, z5] t)).drew).heap.size ((w.alloc (.cells #[z0, z1, z2, z3, z4, z5] t)).drew) w') :
    Bk w' w.heap.size t #[z0, z1, z2, z3, z4, z5] := Bk.next (w := (w.alloc (.cells #[z0, z1, z2, z3, z4, z5] t)).drew) (Bk.new w t #[z0, z1, z2, z3, z4, z5]) hb

set_option maxRecDepth 100000 in
set_option maxHeartbeats 4000000 in
theorem alertOnce_walk (A : Option Addr) (la ca : Nat) (g : Nat → Int) (hg : ∀ k, -9223372036854775808 ≤ g k ∧ g k ≤ 9223372036854775807) (x : Int) (hx : -9223372036854775808 ≤ x ∧ x ≤ 9223372036854775807)
    (w : World) (hla : la ≤ maxLen) (hA : Rd w w.heap.size A la fun k => .int .i64 (g k)) (hL : Lev w) :
    Calls Tryd.prog 8 #[.slice A la ca, .int .i64 x] w fun e w' => e = .returned (.bool true) ∧ Below w.heap.size w w' := by
  unfold maxLen at hla
  have hpl := aroundI_lt x 1000 (by omega)
  obtain ⟨p, hp⟩ : ∃ p, p = aroundI x 1000 := ⟨_, rfl⟩
  rw [← hp] at hpl
  have HP := Lib.hid hp
  clear hp
  go_enter Tryd.func8, Tryd.ntmps8
  go_wp2_with fail
  refine (rVerdicts_any A la ca 40 (by omega) (by omega) g hg _ hA).mono ?_
  rintro e w1 ⟨v1, rfl, hown1, hb1⟩
  obtain ⟨A1, c1, rfl, hc1, hl1, hR1⟩ := Rd.of_ints hown1
  clear hl1 hown1 hc1
  obtain ⟨n, hn⟩ : ∃ n, n = min la 40 := ⟨_, rfl⟩
  rw [← hn] at hR1 ⊢
  have hn40 : n ≤ 40 := by omega
  clear hn
  obtain ⟨f1, hf1, hR1⟩ : ∃ f1 : Nat → Int, (∀ k, 0 ≤ f1 k ∧ f1 k ≤ 2) ∧ Rd w1 w1.heap.size A1 n fun k => .int .i64 (f1 k) := ⟨_, gl_v g _, hR1⟩
  have HF1 := Lib.hid hf1
  clear hf1
  have K0 := Bk.new w1 25 #[.string hot, .int .i64 1, .slice none 0 0, .int .i64 0, .int .i64 0, .int .i64 0]
  have B0 := hb1.alloc hb1.size (.cells #[.string hot, .int .i64 1, .slice none 0 0, .int .i64 0, .int .i64 0, .int .i64 0] 25)
  go_wp2_with fail
  go_loopw [7, 8] (fun q i wr => ∃ (k : Nat) (A2 : Option Addr) (c2 : Nat) (st si : Int), k ≤ n ∧ i = .int .i64 k ∧ q = .bool (decide (st = 0 ∨ st = 1)) ∧ (st = 0 ∨ st = 1 ∨ st = 2) ∧ 0 ≤ si ∧ si ≤ (p : Int) + k ∧ Bk wr w1.heap.size 25 #[.string hot, .int .i64 1, .slice A2 0 c2, .int .i64 st, .int .i64 si, .int .i64 0] ∧ Below w1.heap.size w1 wr) (fun _ i _ => n - (intOf i).toNat)
  case atStart => exact ⟨0, none, 0, 0, 0, Nat.zero_le _, rfl, rfl, .inl rfl, by omega, by omega, K0, (Below.refl _ _).alloc (Nat.le_refl _) _⟩
  case round =>
    obtain ⟨k, A2, c2, st, si, hk, rfl, hq, hst, hsi1, hsi2, hK, hBr⟩ := hrel
    obtain ⟨qq, hqq⟩ : ∃ qq, qq = decide (st = 0 ∨ st = 1) := ⟨_, rfl⟩
    rw [← hqq] at hq
    subst hq
    have HQ := Lib.hid hqq
    clear hqq
    by_cases hlt : k < n
    · obtain ⟨ad, rfl, hab, hac⟩ := (hR1.below hBr).at_ hlt
      have hi0 : (0 : Int) ≤ k := by omega
      have hi1 : (k : Int) < n := by omega
      have hvd := HF1.out k
      obtain ⟨vd, hvde⟩ : ∃ vd, vd = f1 k := ⟨_, rfl⟩
      rw [← hvde] at hac hvd
      have hwrap : IntKind.i64.wrap ((p : Int) + k) = (p : Int) + k := IntWalk.i64_in _ (by omega)
      clear hvde
      obtain ⟨c0, c1', c2', c3, c4, c5⟩ := hK.six
      have hL2 : Lev wr := hL.next (hb1.trans (hBr.mono hb1.size))
      have hblt : w1.heap.size < wr.heap.size := hK.lt
      have hL2d : Lev wr.drew := hL2
      have hL2a : ∀ o, Lev (wr.drew.alloc o) := fun o => Lev.alloc hL2d o
      have hL2b : ∀ o, Lev (wr.alloc o).drew := fun o => hL2a o
      have hadlt : ad.block < wr.heap.size := by have := hBr.size; omega
      have hacA : ∀ o, (wr.alloc o).cell? (ad.add k) = some (.int .i64 vd) := fun o => (World.cell?_alloc_lt wr o _ (by rw [add_block]; exact hadlt)).trans hac
      have c0A : ∀ o, (wr.alloc o).cell? ⟨w1.heap.size, 0, none⟩ = some (.string hot) := fun o => (World.cell?_alloc_lt wr o _ hblt).trans c0
      have c1A : ∀ o, (wr.alloc o).cell? ⟨w1.heap.size, 1, none⟩ = some (.int .i64 1) := fun o => (World.cell?_alloc_lt wr o _ hblt).trans c1'
      have c2A : ∀ o, (wr.alloc o).cell? ⟨w1.heap.size, 2, none⟩ = some (.slice A2 0 c2) := fun o => (World.cell?_alloc_lt wr o _ hblt).trans c2'
      have c3A : ∀ o, (wr.alloc o).cell? ⟨w1.heap.size, 3, none⟩ = some (.int .i64 st) := fun o => (World.cell?_alloc_lt wr o _ hblt).trans c3
      have c4A : ∀ o, (wr.alloc o).cell? ⟨w1.heap.size, 4, none⟩ = some (.int .i64 si) := fun o => (World.cell?_alloc_lt wr o _ hblt).trans c4
      have c5A : ∀ o, (wr.alloc o).cell? ⟨w1.heap.size, 5, none⟩ = some (.int .i64 0) := fun o => (World.cell?_alloc_lt wr o _ hblt).trans c5
      have hbW := Below.refl wr.heap.size wr
      have hbWd : Below wr.heap.size wr wr.drew := hbW.drew
      have hbWa : ∀ o, Below wr.heap.size wr (wr.alloc o).drew := fun o => (hbW.alloc (Nat.le_refl _) o).drew
      go_upto_region 7 with (fail)
      have kp : ∀ w', Below wr.heap.size wr w' → (Below wr.heap.size wr w' ∧ w'.cell? ⟨w1.heap.size, 0, none⟩ = some (.string hot) ∧ w'.cell? ⟨w1.heap.size, 1, none⟩ = some (.int .i64 1) ∧ w'.cell? ⟨w1.heap.size, 2, none⟩ = some (.slice A2 0 c2) ∧ w'.cell? ⟨w1.heap.size, 3, none⟩ = some (.int .i64 st) ∧ w'.cell? ⟨w1.heap.size, 4, none⟩ = some (.int .i64 si) ∧ w'.cell? ⟨w1.heap.size, 5, none⟩ = some (.int .i64 0) ∧ w'.cell? (ad.add k) = some (.int .i64 vd)) := fun w' h =>
        ⟨h, (h.cell (p := ⟨w1.heap.size, 0, none⟩) hblt).trans c0, (h.cell (p := ⟨w1.heap.size, 1, none⟩) hblt).trans c1', (h.cell (p := ⟨w1.heap.size, 2, none⟩) hblt).trans c2', (h.cell (p := ⟨w1.heap.size, 3, none⟩) hblt).trans c3, (h.cell (p := ⟨w1.heap.size, 4, none⟩) hblt).trans c4, (h.cell (p := ⟨w1.heap.size, 5, none⟩) hblt).trans c5, (h.cell (by rw [add_block]; exact hadlt)).trans hac⟩
      have KP := Lib.hid kp
      clear kp hacA c0A c1A c2A c3A c4A c5A hL2a hL2b
      obtain ⟨st', si', le', bg, hd⟩ : ∃ st' si' le' bg, stepD (visB hot 1 noL 0 st si 0 (p + k)) st si 0 vd (p + k) = (st', si', le', bg) := ⟨_, _, _, _, rfl⟩
      have HD := Lib.hid hd
      clear hd
      go_cut [9, 10] (fun s9 s10 wx => ∃ A3 c3 b, s9 = .pointer (some ⟨b, 0, none⟩) ∧ s10 = .bool bg ∧ wr.heap.size ≤ b ∧ Bk wx b 25 #[.string hot, .int .i64 1, .slice A3 0 c3, .int .i64 st', .int .i64 si', .int .i64 le'] ∧ Below wr.heap.size wr wx)
      case first =>
        go_region_held3 (fun w' => Below wr.heap.size wr w' ∧ w'.cell? ⟨w1.heap.size, 0, none⟩ = some (.string hot) ∧ w'.cell? ⟨w1.heap.size, 1, none⟩ = some (.int .i64 1) ∧ w'.cell? ⟨w1.heap.size, 2, none⟩ = some (.slice A2 0 c2) ∧ w'.cell? ⟨w1.heap.size, 3, none⟩ = some (.int .i64 st) ∧ w'.cell? ⟨w1.heap.size, 4, none⟩ = some (.int .i64 si) ∧ w'.cell? ⟨w1.heap.size, 5, none⟩ = some (.int .i64 0) ∧ w'.cell? (ad.add k) = some (.int .i64 vd))
          (first | (with_reducible exact KP.out _ hbx) | (with_reducible exact KP.out _ hbWd) | (with_reducible exact KP.out _ (hbWa _)) | (with_reducible exact KP.out _ (belowA hbx _)) | (with_reducible exact KP.out _ (below6A hbx _ _ _ _ _ _)))
          (first
            | (go_at_call 27; (with_reducible refine (aroundH wr _ (by assumption) x p HP.out hx).mono ?_); rintro e w' ⟨rfl, hbx, rfl⟩)
            | (go_at_call 18; (with_reducible refine (stepH wr _ (by assumption) hL2 A2 c2 st si 0 vd _ (st', si', le', bg) HD.out).mono ?_); rintro e w' ⟨A3, c3, rfl, hbx, hbx0⟩; first | (have XB : Bk w' wr.heap.size 25 #[.string ⟨#[]⟩, .int .i64 0, .slice none 0 0, .int .i64 0, .int .i64 0, .int .i64 0] := (by first | exact boxKeptD hbx0 | exact boxKept hbx0); clear hbx0; obtain ⟨q0, q1, q2, q3, q4, q5⟩ := XB.six; obtain ⟨r0, r1, r2, r3, r4, r5⟩ := XB.sixf) | clear hbx0))
        all_goals (go_wp2_with fail; go_meet)
        all_goals first
          | exact ⟨A3, c3, _, rfl, rfl, hbx.size, Bk.new _ _ _, belowA hbx _⟩
          | exact ⟨A3, c3, _, rfl, rfl, Nat.le_refl _, XB.set6 _ _ _ _ _ _, below6A hbx _ _ _ _ _ _⟩
      case rest =>
        obtain ⟨A3, d3, b, rfl, rfl, hbb, hNb, hBx⟩ := hcut
        obtain ⟨hbg, rfl, hst', hsi1', hsi2', hq'⟩ := step_once hst (by omega) hsi1 (by omega) (by omega) HD.out
        have hKx := hK.below hBx hblt
        have hacx := (hBx.cell (p := ad.add k) (by rw [add_block]; exact hadlt)).trans hac
        have hBall := hBr.trans (hBx.mono hBr.size)
        rw [← HQ.out] at hbg hq'
        clear c0 c1' c2' c3 c4 c5 hac hK hL2 hL2d hbW hbWd hbWa KP HD hBx hwrap
        obtain ⟨n0, n1, n2, n3, n4, n5⟩ := hNb.six
        obtain ⟨k0, k1, k2, k3, k4, k5⟩ := hKx.six
        obtain ⟨j0, j1, j2, j3, j4, j5⟩ := hKx.sixf
        have hmid : ∀ wz, wz = ((((((wc.setCell ⟨w1.heap.size, 0, none⟩ (.string hot)).setCell ⟨w1.heap.size, 1, none⟩ (.int .i64 1)).setCell ⟨w1.heap.size, 2, none⟩ (.slice A3 0 d3)).setCell ⟨w1.heap.size, 3, none⟩ (.int .i64 st')).setCell ⟨w1.heap.size, 4, none⟩ (.int .i64 si')).setCell ⟨w1.heap.size, 5, none⟩ (.int .i64 0)) →
            Bk wz w1.heap.size 25 #[.string hot, .int .i64 1, .slice A3 0 d3, .int .i64 st', .int .i64 si', .int .i64 0] ∧ wz.cell? (ad.add k) = some (.int .i64 vd) ∧ Below w1.heap.size w1 wz := by
          rintro wz rfl
          have hb6 := below6 (Below.refl w1.heap.size wc) (Nat.le_refl _) (.string hot) (.int .i64 1) (.slice A3 0 d3) (.int .i64 st') (.int .i64 si') (.int .i64 0)
          exact ⟨hKx.set6 _ _ _ _ _ _, (hb6.cell (by rw [add_block]; exact hab)).trans hacx, hBall.trans hb6⟩
        have HMID := Lib.hid hmid
        clear hmid hNb hKx
        have hcs : vd = 0 ∨ vd = 1 ∨ vd = 2 := by omega
        have hq2 : (if vd = 1 then qq else vd == 0) = decide (st' = 0 ∨ st' = 1) := hq'
        have HQ2 := Lib.hid hq2
        have HST := Lib.hid hst'
        clear hq2 hq' hst' hst
        have hfin : ∀ (wz : World) (q : Bool), q = decide (st' = 0 ∨ st' = 1) → Bk wz w1.heap.size 25 #[.string hot, .int .i64 1, .slice A3 0 d3, .int .i64 st', .int .i64 si', .int .i64 0] → Below w1.heap.size w1 wz →
            ∃ (k' : Nat) (A2 : Option Addr) (c2 : Nat) (st si : Int), k' ≤ n ∧ Value.int .i64 ((k : Int) + 1) = .int .i64 k' ∧ Value.bool q = .bool (decide (st = 0 ∨ st = 1)) ∧ (st = 0 ∨ st = 1 ∨ st = 2) ∧ 0 ≤ si ∧ si ≤ (p : Int) + k' ∧ Bk wz w1.heap.size 25 #[.string hot, .int .i64 1, .slice A2 0 c2, .int .i64 st, .int .i64 si, .int .i64 0] ∧ Below w1.heap.size w1 wz := by
          rintro wz q rfl hk2 hb2
          exact ⟨k + 1, A3, d3, st', si', by omega, by go_num, rfl, HST.out, hsi1', by omega, hk2, hb2⟩
        have HFIN := Lib.hid hfin
        clear hfin
        rcases hcs with rfl | rfl | rfl
        · cases qq
          all_goals
            obtain rfl : bg = _ := hbg
            try simp only [Bool.false_and, Bool.true_and, show ((0 : Int) == 2) = false from rfl]
            go_upto_region 10 with (fail)
            go_cut [] (fun wx => Bk wx w1.heap.size 25 #[.string hot, .int .i64 1, .slice A3 0 d3, .int .i64 st', .int .i64 si', .int .i64 0] ∧ wx.cell? (ad.add k) = some (.int .i64 0) ∧ Below w1.heap.size w1 wx)
            case first =>
              go_wp2_with fail
              go_meet
              exact HMID.out _ rfl
            case rest =>
              clear n0 n1 n2 n3 n4 n5 k0 k1 k2 k3 k4 k5 j0 j1 j2 j3 j4 j5 hacx HMID
              obtain ⟨hKz, hacz, hBz⟩ := hcut
              go_wp2
              go_roundw
              case rel => exact HFIN.out _ _ (by simpa using HQ2.out) hKz hBz
              case measure => simp [intOf]; omega
        · cases qq
          all_goals
            obtain rfl : bg = _ := hbg
            try simp only [Bool.false_and, Bool.true_and, show ((1 : Int) == 2) = false from rfl]
            go_upto_region 10 with (fail)
            go_cut [] (fun wx => Bk wx w1.heap.size 25 #[.string hot, .int .i64 1, .slice A3 0 d3, .int .i64 st', .int .i64 si', .int .i64 0] ∧ wx.cell? (ad.add k) = some (.int .i64 1) ∧ Below w1.heap.size w1 wx)
            case first =>
              go_wp2_with fail
              go_meet
              exact HMID.out _ rfl
            case rest =>
              clear n0 n1 n2 n3 n4 n5 k0 k1 k2 k3 k4 k5 j0 j1 j2 j3 j4 j5 hacx HMID
              obtain ⟨hKz, hacz, hBz⟩ := hcut
              go_wp2
              go_roundw
              case rel => exact HFIN.out _ _ (by simpa using HQ2.out) hKz hBz
              case measure => simp [intOf]; omega
        · cases qq
          all_goals
            obtain rfl : bg = _ := hbg
            try simp only [Bool.false_and, Bool.true_and, show ((2 : Int) == 2) = true from rfl]
            go_upto_region 10 with (fail)
            go_cut [] (fun wx => Bk wx w1.heap.size 25 #[.string hot, .int .i64 1, .slice A3 0 d3, .int .i64 st', .int .i64 si', .int .i64 0] ∧ wx.cell? (ad.add k) = some (.int .i64 2) ∧ Below w1.heap.size w1 wx)
            case first =>
              go_wp2_with fail
              go_meet
              exact HMID.out _ rfl
            case rest =>
              clear n0 n1 n2 n3 n4 n5 k0 k1 k2 k3 k4 k5 j0 j1 j2 j3 j4 j5 hacx HMID
              obtain ⟨hKz, hacz, hBz⟩ := hcut
              go_wp2
              go_roundw
              case rel => exact HFIN.out _ _ (by simpa using HQ2.out) hKz hBz
              case measure => simp [intOf]; omega
    · obtain rfl : k = n := by omega
      have hL2 : Lev wr := hL.next (hb1.trans (hBr.mono hb1.size))
      obtain ⟨k0, k1, k2, k3, k4, k5⟩ := hK.six
      have hv : alB hot 1 noL 0 st si 0 = true := by
        have := hot_vis st si 0 1048576 (by omega) (by omega) hsi1 (by omega) (by omega) (by rcases hst with rfl | rfl | rfl <;> decide)
        simp only [visB, Bool.and_eq_true] at this
        exact this.1.1
      have HV := Lib.hid hv
      clear hv
      go_wp2_with fail
      refine (aValid_any hot 1 A2 0 c2 noL st si 0 _ RdL.nil hL2).mono ?_
      rintro e w7 ⟨rfl, hb7⟩
      rw [HV.out]
      go_wp2_with fail
      refine (lives_any _ (hL2.next hb7)).mono ?_
      rintro e w8 ⟨rfl, hb8⟩
      go_wp2
      go_ret
      have b7 := (hb1.trans (hBr.mono hb1.size)).trans (hb7.mono (by have := hb1.size; have := hBr.size; omega))
      exact ⟨rfl, b7.trans (hb8.mono b7.size)⟩
end Go.Proofs.YtlaknbcmidjiaaaDoor
