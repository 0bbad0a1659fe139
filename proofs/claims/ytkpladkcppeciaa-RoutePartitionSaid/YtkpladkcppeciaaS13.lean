/- AE contracts: slices.Contains at a list that may be written, route.OnDuty. -/
import Derived.Test.YtkpladkcppeciaaS12
import Derived.Test.YtkpladkcppeciaaAe24
namespace Go.AE
open Go.Proofs Go.Proofs.Ytkpladkcppeciaa
set_option linter.unusedVariables false
set_option linter.unusedSimpArgs false

def rowS (h : List AO) : V → Option (Prop × List ByteArray)
  | .c (.sl id 1 0 n) => match nth .gone h id with
    | .row _ 1 m f => some (m = n ∧ ∀ e, e < n → f e 0 = .p (.s (strOf (unP (f e 0)))), decL decS n fun e o => unP (f e o))
    | _ => none
  | _ => none
def mContainsH : ModH
  | [x, .c (.p (.s s))], h => match rowS h x with
    | some (p, L) => some (p ∧ L.length ≤ 1000000, bV (hasS s L), h)
    | none => none
  | _, _ => none
def dutyV (x : ByteArray × Int) : V := .t [.c (.p (.s x.1)), .c (.p (.i .i64 x.2))]
noncomputable def mDuty : Mod
  | [.c (.p (.i .i64 P)), .c (.p (.l 3 n f)), .c (.p (.i .i64 t)), .c (.p (.i .i64 l))] => some (IsL enc3 3 (decL dec3 n f) n f ∧ n ≤ 1000000, dutyV (dutyZ P (decL dec3 n f) t l))
  | _ => none
noncomputable def extOD : Ext := extH [(34, liftM mRota), (35, mContainsH)]

theorem tDa (P t l : Int) (L : List Sh) : exTs extOD (takeL 10 (pcs Try.prog Try.f25)) (st0 Try.f25 [iV P, listV enc3 3 L, iV t, iV l]) (endG (msk 69 [0, 1, 2, 3, 11, 29, 30, 31]) (resOf Try.prog Try.f25)) = Tr.rq (IsL enc3 3 (decL dec3 L.length (rowP enc3 L)) L.length (rowP enc3 L) ∧ L.length ≤ 1000000)
    (bT (rotaZ P (decL dec3 L.length (rowP enc3 L)) != 0)
      (Tr.done X.ret (St.mk [V.t [V1.c (C.p (PV.s (ByteArray.mk #[]))), V1.c (C.p (PV.i IntKind.i64 (rotaZ P (decL dec3 L.length (rowP enc3 L)))))]] []))
      (bT (decide (t < 0)) (Tr.done X.ret (St.mk [V.t [V1.c (C.p (PV.s (ByteArray.mk #[]))), V1.c (C.p (PV.i IntKind.i64 5))]] []))
        (bT (decide (1048576 < t)) (Tr.done X.ret (St.mk [V.t [V1.c (C.p (PV.s (ByteArray.mk #[]))), V1.c (C.p (PV.i IntKind.i64 5))]] []))
          (bT (decide (l < 0)) (Tr.done X.ret (St.mk [V.t [V1.c (C.p (PV.s (ByteArray.mk #[]))), V1.c (C.p (PV.i IntKind.i64 1))]] []))
            (Tr.done X.normal
              (cst 69 [(0, V.c (C.p (PV.i IntKind.i64 P))), (1, V.c (C.p (PV.l 3 L.length (rowP enc3 L)))), (2, V.c (C.p (PV.i IntKind.i64 t))), (3, V.c (C.p (PV.i IntKind.i64 l))), (11, V.c (C.p (PV.z (Value.slice none 0 0)))), (29, V.c (C.p (PV.l 3 L.length (rowP enc3 L)))), (30, V.c (C.p (PV.i IntKind.i64 (↑L.length : Int)))), (31, V.c (C.p (PV.i IntKind.i64 0)))] [])))))) := by kernel_rfl
theorem tDb (P t l : Int) (L : List Sh) (A : List ByteArray) (m i : Nat) : exTs extOD (lpB (pcs Try.prog Try.f25) 10) (cst 69 [(0, iV P), (1, listV enc3 3 L), (2, iV t), (3, iV l), (11, .c (.sl 0 1 0 m)), (29, listV enc3 3 L), (30, iV (L.length : Nat)), (31, iV (i : Nat))] [.row 9 1 m (rowC encS A)]) (endG (msk 69 [0, 1, 2, 3, 11, 29, 30, 31]) (resOf Try.prog Try.f25)) = bT (decide ((↑i : Int) < (↑L.length : Int)))
    (Tr.rq (0 ≤ (↑i : Int) ∧ (↑i : Int) < (↑L.length : Int))
      (Tr.rq (0 ≤ t ∧ 0 < P)
        (bT (decide ((L.getD (↑i : Int).toNat default).snd.fst ≤ t % P))
          (bT (decide (t % P < (L.getD (↑i : Int).toNat default).snd.snd))
            (Tr.rq ((m = m ∧ ∀ (e : Nat), e < m → rowC encS A e 0 = C.p (PV.s (strOf (unP (rowC encS A e 0))))) ∧ (decL decS m fun e o => unP (rowC encS A e o)).length ≤ 1000000)
              (bT (!hasS (L.getD (↑i : Int).toNat default).fst (decL decS m fun e o => unP (rowC encS A e o)))
                (Tr.rq (m = m)
                  (Tr.rq (1 ≤ 1)
                    (Tr.rq
                      ((m + 1) * 16 ≤ 140737488355328 ∧
                        m + 1 ≤ 140737488355328 ∧ ∀ (e o : Nat), e < 1 → o < 1 → oneC (nth C.top [C.p (PV.s (L.getD (↑i : Int).toNat default).fst)] ((e + 0) * 1 + o)) = true)
                      (Tr.rq (inR IntKind.i64 ((↑i : Int) + 1))
                        (Tr.done X.normal
                          (cst 69 [(0, V.c (C.p (PV.i IntKind.i64 P))), (1, V.c (C.p (PV.l 3 L.length (rowP enc3 L)))), (2, V.c (C.p (PV.i IntKind.i64 t))), (3, V.c (C.p (PV.i IntKind.i64 l))), (11, V.c (C.sl 0 1 0 (m + 1))), (29, V.c (C.p (PV.l 3 L.length (rowP enc3 L)))), (30, V.c (C.p (PV.i IntKind.i64 (↑L.length : Int)))), (31, V.c (C.p (PV.i IntKind.i64 ((↑i : Int) + 1))))] [AO.row 9 1 (m + 1) fun e o => renC [3] (appF m (rowC encS A) (fun e o => nth C.top [C.p (PV.s (L.getD (↑i : Int).toNat default).fst)] ((e + 0) * 1 + o)) e o)]))))))
                (Tr.rq (inR IntKind.i64 ((↑i : Int) + 1))
                  (Tr.done X.normal
                    (cst 69 [(0, V.c (C.p (PV.i IntKind.i64 P))), (1, V.c (C.p (PV.l 3 L.length (rowP enc3 L)))), (2, V.c (C.p (PV.i IntKind.i64 t))), (3, V.c (C.p (PV.i IntKind.i64 l))), (11, V.c (C.sl 0 1 0 m)), (29, V.c (C.p (PV.l 3 L.length (rowP enc3 L)))), (30, V.c (C.p (PV.i IntKind.i64 (↑L.length : Int)))), (31, V.c (C.p (PV.i IntKind.i64 ((↑i : Int) + 1))))] [AO.row 9 1 m fun e o => renC [0] (rowC encS A e o)])))))
            (Tr.rq (inR IntKind.i64 ((↑i : Int) + 1))
              (Tr.done X.normal
                (cst 69 [(0, V.c (C.p (PV.i IntKind.i64 P))), (1, V.c (C.p (PV.l 3 L.length (rowP enc3 L)))), (2, V.c (C.p (PV.i IntKind.i64 t))), (3, V.c (C.p (PV.i IntKind.i64 l))), (11, V.c (C.sl 0 1 0 m)), (29, V.c (C.p (PV.l 3 L.length (rowP enc3 L)))), (30, V.c (C.p (PV.i IntKind.i64 (↑L.length : Int)))), (31, V.c (C.p (PV.i IntKind.i64 ((↑i : Int) + 1))))] [AO.row 9 1 m fun e o => renC [0] (rowC encS A e o)]))))
          (Tr.rq (inR IntKind.i64 ((↑i : Int) + 1))
            (Tr.done X.normal
              (cst 69 [(0, V.c (C.p (PV.i IntKind.i64 P))), (1, V.c (C.p (PV.l 3 L.length (rowP enc3 L)))), (2, V.c (C.p (PV.i IntKind.i64 t))), (3, V.c (C.p (PV.i IntKind.i64 l))), (11, V.c (C.sl 0 1 0 m)), (29, V.c (C.p (PV.l 3 L.length (rowP enc3 L)))), (30, V.c (C.p (PV.i IntKind.i64 (↑L.length : Int)))), (31, V.c (C.p (PV.i IntKind.i64 ((↑i : Int) + 1))))] [AO.row 9 1 m fun e o => renC [0] (rowC encS A e o)]))))))
    (Tr.done (X.exit 0)
      (cst 69 [(0, V.c (C.p (PV.i IntKind.i64 P))), (1, V.c (C.p (PV.l 3 L.length (rowP enc3 L)))), (2, V.c (C.p (PV.i IntKind.i64 t))), (3, V.c (C.p (PV.i IntKind.i64 l))), (11, V.c (C.sl 0 1 0 m)), (29, V.c (C.p (PV.l 3 L.length (rowP enc3 L)))), (30, V.c (C.p (PV.i IntKind.i64 (↑L.length : Int)))), (31, V.c (C.p (PV.i IntKind.i64 (↑i : Int))))] [AO.row 9 1 m fun e o => renC [0] (rowC encS A e o)])) := by kernel_rfl
theorem tDc (P t l : Int) (L : List Sh) (A : List ByteArray) (m i : Nat) : exTs ext0 (dropL 11 (pcs Try.prog Try.f25)) (cst 69 [(0, iV P), (1, listV enc3 3 L), (2, iV t), (3, iV l), (11, .c (.sl 0 1 0 m)), (29, listV enc3 3 L), (30, iV (L.length : Nat)), (31, iV (i : Nat))] [.row 9 1 m (rowC encS A)]) (endG [] (resOf Try.prog Try.f25)) = Tr.rq (inR IntKind.i64 ((↑m : Int) - 1))
    (Tr.rq ((0 ≤ if (↑m : Int) - 1 < l then (↑m : Int) - 1 else l) ∧ (if (↑m : Int) - 1 < l then (↑m : Int) - 1 else l) < (↑m : Int))
      (Tr.rq ((if (↑m : Int) - 1 < l then (↑m : Int) - 1 else l).toNat + 0 < m)
        (Tr.done X.ret (St.mk [V.t [V1.c (C.p (PV.s (A.getD ((if (↑m : Int) - 1 < l then (↑m : Int) - 1 else l).toNat + 0) default))), V1.c (C.p (PV.i IntKind.i64 0))]] [])))) := by kernel_rfl
section
variable {G : Nat → Option Obj}
theorem rowS_le {h : List AO} {x : V} {p : Prop} {L : List ByteArray} (hx : rowS h x = some (p, L)) (hp : p) : VLeH G h x (listV encS 1 L) := by
  unfold rowS at hx
  split at hx
  · rename_i id n'
    split at hx
    · rename_i ty m f hid
      injection hx with hx
      injection hx with h1 h2
      subst h2; subst h1
      obtain ⟨rfl, hf⟩ := hp
      rintro β R w u hs ⟨A, c, rfl, g1, g2, g3⟩
      have hl := decL_length decS m fun e o => unP (f e o)
      refine ⟨A, c, by rw [hl], by rw [hl]; exact g1, g2, fun hn => ?_⟩
      rw [hl] at hn
      rcases g3 with ⟨_, g4, _⟩ | ⟨b, N, g4, rfl, g5⟩
      · omega
      · have hob := hs.obj id b N g4
        rw [hid] at hob
        obtain ⟨cs, k1, k2, k3, k4⟩ := hob
        refine ⟨_, rfl, hs.lt id b N g4, fun e o he ho => ?_⟩
        rw [hl] at he
        obtain rfl : o = 0 := by omega
        obtain ⟨u, q1, q2⟩ := k4 e 0 he (by omega)
        rw [hf e he] at q2
        refine ⟨u, ?_, ?_⟩
        · rw [add_mid, Nat.zero_mul, Nat.zero_add, cell_of_row w b _ cs ty (0, 0) k1]
          exact q1
        · have e1 : rowP encS (decL decS m fun e o => unP (f e o)) e 0 = .s (strOf (unP (f e 0))) := by
            unfold rowP encS decL
            simp [he, decS]
          rw [e1]
          exact q2
    · cases hx
  · cases hx
theorem okContainsH : ModHOK Try.prog G 35 mContainsH := by
  intro args h p v h' hm hp
  unfold mContainsH at hm
  split at hm; rotate_left; · cases hm
  split at hm; rotate_left; · cases hm
  rename_i x s _ p1 L hx
  obtain ⟨rfl, rfl, rfl⟩ := some_three hm
  obtain ⟨h1, h2⟩ := hp
  refine fn_mut (args' := [listV encS 1 L, sV s]) (.cons (rowS_le hx h1) (.cons (fun β R w u hs h => h) .nil)) ?_ (fun _ _ _ _ _ _ _ h => h)
  have hq : mContainsS [listV encS 1 L, sV s] = some (IsL encS 1 (decL decS L.length (rowP encS L)) L.length (rowP encS L) ∧ L.length ≤ 1000000, bV (hasS s (decL decS L.length (rowP encS L)))) := rfl
  rw [decS_row] at hq
  exact okContainsS _ _ _ hq ⟨isL_row _ _ _, h2⟩ []
theorem extOD_sound : SoundExt Try.prog G extOD := extH_sound (by simp; exact ⟨okValidRota.lift, okContainsH⟩)
set_option maxRecDepth 100000 in
theorem okOnDuty : ModOK Try.prog G 25 mDuty := by
  intro args p v hm hp h
  unfold mDuty at hm
  split at hm; rotate_left; · cases hm
  rename_i P n f t l
  obtain ⟨rfl, rfl⟩ := some_pair hm
  obtain ⟨hL, hn⟩ := hp
  have hlen : (decL dec3 n f).length ≤ 1000000 := by rw [hL.1]; exact hn
  generalize decL dec3 n f = L at hL hlen
  refine FnS.args (args' := [iV P, listV enc3 3 L, iV t, iV l]) ?_ (.cons (.refl _) (.cons hL.le (.cons (.refl _) (.cons (.refl _) .nil))))
  clear hL
  refine fn_S Try.func25 (by kernel_rfl) rfl ?_ h
  refine ExS.evG extOD_sound 10 (tDa P t l L) ?_
  simp only [holds_bT, holds_rq, holds_leaf, kf_normal, kf_ret', decide_eq_true_eq, decide_eq_false_iff_not, dec3_row]
  have hout : ∀ (a : ByteArray) (c : Int), dutyZ P L t l = (a, c) → Leaf (VLe (V.t [V1.c (C.p (PV.s a)), V1.c (C.p (PV.i .i64 c))]) (dutyV (dutyZ P L t l))) := fun a c h => ⟨VLe.of_eq (by rw [h]; rfl)⟩
  refine ⟨⟨isL_row _ _ _, hlen⟩, fun h1 => hout _ _ ?_, fun h1 => ?_⟩
  · unfold dutyZ; rw [if_pos (by simpa using h1)]
  have hz : rotaZ P L = 0 := by simpa using h1
  obtain ⟨⟨hP, hP'⟩, hl2, hsc, hful⟩ := rotaZ_ok hz
  refine ⟨fun h2 => hout _ _ ?_, fun h2 => ⟨fun h3 => hout _ _ ?_, fun h3 => ⟨fun h4 => hout _ _ ?_, fun h4 => ⟨?_⟩⟩⟩⟩
  · unfold dutyZ; rw [if_neg (by omega), if_pos (by omega)]
  · unfold dutyZ; rw [if_neg (by omega), if_pos (by omega)]
  · unfold dutyZ; rw [if_neg (by omega), if_neg (by omega), if_pos h4]
  have hpos := pers_pos (hful (t % P) (Int.emod_nonneg _ (by omega)) (Int.emod_lt_of_pos _ (by omega)))
  have hpl : (pers (t % P) L).length ≤ 0 + L.length := persF_length L []
  have hd : dutyZ P L t l = ((pers (t % P) L).getD (min l ((pers (t % P) L).length - 1)).toNat default, 0) := by
    unfold dutyZ; rw [if_neg (by omega), if_neg (by omega), if_neg h4]
  rw [hd]
  clear hout hd hful
  generalize hW : pers (t % P) L = W at hpos hpl
  refine ExS.loop' (l := dropL 10 (pcs Try.prog Try.f25)) (b := inr (inr (nth .skip (pcs Try.prog Try.f25) 10))) (r := dropL 11 (pcs Try.prog Try.f25)) (id := 0) (by kernel_rfl) (σ := Nat × List ByteArray)
    (fun x => (fun (i : Nat) (A : List ByteArray) (m : Nat) => cst 69 [(0, iV P), (1, listV enc3 3 L), (2, iV t), (3, iV l), (11, .c (.sl 0 1 0 m)), (29, listV enc3 3 L), (30, iV (L.length : Nat)), (31, iV (i : Nat))] [.row 9 1 m (rowC encS A)]) x.1 x.2 x.2.length) (fun x => x.1 ≤ L.length ∧ x.2.length ≤ x.1 ∧ persF (t % P) (L.drop x.1) x.2 = W) (fun x => L.length - x.1) (0, []) ⟨Nat.zero_le _, Nat.le_refl _, hW⟩
    ((weak_nil 9 1 (rowC encS []) 11 (by kernel_rfl)).trans (weak_of_eq (by kernel_rfl))) ?_
  rintro ⟨i, A⟩ ⟨hi, hA, hno⟩ Q q1n q1e -
  dsimp only at hi hA hno q1n q1e ⊢
  refine ExS.evH extOD_sound (tDb P t l L A A.length i) ?_
  have hda : (decL decS A.length fun e o => unP (rowC encS A e o)) = A := decS_row A
  simp only [holds_bT, holds_rq, holds_leaf, kf_ret', kf_normal, kf_exit, decide_eq_true_eq, decide_eq_false_iff_not, hda, show (↑i : Int).toNat = i from rfl, Bool.not_eq_true', Bool.not_eq_false']
  have hst := fun h : i < L.length => persF_drop (a := t % P) (L := L) (i := i) (acc := A) h
  rw [hno] at hst
  have hsame : ∀ (h : i < L.length), ¬ (((L.getD i default).2.1 ≤ t % P ∧ t % P < (L.getD i default).2.2) ∧ hasS (L.getD i default).1 A = false) → Q .normal (cst 69 [(0, V.c (C.p (PV.i IntKind.i64 P))), (1, V.c (C.p (PV.l 3 L.length (rowP enc3 L)))), (2, V.c (C.p (PV.i IntKind.i64 t))), (3, V.c (C.p (PV.i IntKind.i64 l))), (11, V.c (C.sl 0 1 0 A.length)), (29, V.c (C.p (PV.l 3 L.length (rowP enc3 L)))), (30, V.c (C.p (PV.i IntKind.i64 (↑L.length : Int)))), (31, V.c (C.p (PV.i IntKind.i64 ((↑i : Int) + 1))))] [AO.row 9 1 A.length fun e o => renC [0] (rowC encS A e o)]) := fun h hc => by
    refine q1n (i + 1, A) _ ⟨h, Nat.le_succ_of_le hA, ?_⟩ (by show L.length - (i + 1) < L.length - i; omega) (weak_of_eq (by kernel_rfl))
    have := hst h
    rw [if_neg hc] at this
    exact this.symm
  refine ⟨fun h1 => ⟨⟨by omega, h1⟩, ⟨by omega, by omega⟩, fun c1 => ⟨fun c2 => ⟨⟨⟨trivial, fun _ _ => rfl⟩, by omega⟩, fun c3 => ⟨trivial, Nat.le_refl _, ⟨by omega, by omega, ?_⟩, ?_, ⟨q1n (i + 1, A ++ [(L.getD i default).1]) _ ⟨by show i + 1 ≤ L.length; omega, ?_, ?_⟩ (by show L.length - (i + 1) < L.length - i; omega) ?_⟩⟩, fun c3 => ⟨?_, ⟨hsame (by omega) ?_⟩⟩⟩, fun c2 => ⟨?_, ⟨hsame (by omega) ?_⟩⟩⟩, fun c1 => ⟨?_, ⟨hsame (by omega) ?_⟩⟩⟩, fun h1 => ⟨q1e _ ?_⟩⟩
  · intro e o he ho
    obtain rfl : e = 0 := by omega
    obtain rfl : o = 0 := by omega
    rfl
  · exact ⟨by omega, by omega⟩
  · show (A ++ [(L.getD i default).1]).length ≤ i + 1
    rw [List.length_append]
    exact Nat.succ_le_succ hA
  · have := hst (by omega)
    rw [if_pos ⟨⟨c1, c2⟩, c3⟩] at this
    exact this.symm
  · show WeakS G _ ((fun (i : Nat) (A : List ByteArray) (m : Nat) => cst 69 [(0, iV P), (1, listV enc3 3 L), (2, iV t), (3, iV l), (11, .c (.sl 0 1 0 m)), (29, listV enc3 3 L), (30, iV (L.length : Nat)), (31, iV (i : Nat))] [.row 9 1 m (rowC encS A)]) (i + 1) (A ++ [(L.getD i default).1]) (A ++ [(L.getD i default).1]).length)
    rw [show (A ++ [(L.getD i default).1]).length = A.length + 1 by simp]
    refine weak_cst ?_
    exact ⟨⟨rfl, rfl, rfl, fun e o he ho => app1' rfl (fun o ho => by obtain rfl : o = 0 := by omega
                                                                      rfl) he ho⟩, trivial⟩
  · exact ⟨by omega, by omega⟩
  · rintro ⟨-, c4⟩; rw [c3] at c4; cases c4
  · exact ⟨by omega, by omega⟩
  · rintro ⟨⟨-, c4⟩, -⟩; exact c2 c4
  · exact ⟨by omega, by omega⟩
  · rintro ⟨⟨c4, -⟩, -⟩; exact c1 c4
  · rw [List.drop_of_length_le (by omega)] at hno
    obtain rfl : A = W := hno
    refine ExS.evH ext0_sound (tDc P t l L A A.length i) ?_
    have e1 : (if (A.length : Int) - 1 < l then (A.length : Int) - 1 else l) = min l (A.length - 1) := by
      rw [Int.min_def]; split <;> split <;> omega
    simp only [holds_rq, holds_leaf, kf_ret', e1]
    refine ⟨⟨by omega, by omega⟩, ⟨by omega, by omega⟩, by omega, ⟨VLe.of_eq rfl⟩⟩
end
end Go.AE
