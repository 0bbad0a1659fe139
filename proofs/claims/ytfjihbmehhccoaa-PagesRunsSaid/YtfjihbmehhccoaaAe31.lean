/- AE, part 31: branchings with loops inside. -/
import Derived.Test.YtfjihbmehhccoaaAeC
namespace Go.AE
set_option linter.unusedVariables false
set_option linter.unusedSimpArgs false
open Go.RowKit
section
variable {P : Program} {G : Nat → Option Obj}
theorem ExA.cond {k : Nat} {a b : ACode} {st : St} {x : Bool} {K : X → St → Prop} (hx : nth (.c .top) st.t k = .c (.p (.b x))) (h1 : x = true → ExA P G a ⟨upd (.c (.p (.b true))) st.t k, st.h⟩ K) (h2 : x = false → ExA P G b ⟨upd (.c (.p (.b false))) st.t k, st.h⟩ K) : ExA P G (.cond (.t k) a b) st K := by
  refine ExA.core fun c hns hc => ?_
  cases c with
  | scope c' => exact absurd rfl (hns c')
  | cond y c1 c2 =>
    simp only [cCode, Option.bind_eq_bind, Option.bind_eq_some_iff, Option.pure_def, Option.some.injEq] at hc
    obtain ⟨ax, g1, a1, g2, a2, g3, g4⟩ := hc
    injection g4 with e1 e2 e3
    subst e1; subst e2; subst e3
    intro β R a w hs
    have hv := ev_sound hs g1
    have he : st.ev (.t k) = .c (.p (.b x)) := hx
    rw [he] at hv
    have hv : a.eval y = .bool x := hv
    have same : Sim G β R ⟨upd (.c (.p (.b x))) st.t k, st.h⟩ a w := hs.same (fun u hu => by rw [hx] at hu; exact hu)
    cases x with
    | true => exact wp_cond_true hv (h1 rfl c1 g2 β R a w same)
    | false => exact wp_cond_false hv (h2 rfl c2 g3 β R a w same)
  | region id ops draw => cases cCode_region hc
  | seq c1 c2 => cases h2 : cCode P c1 <;> cases h3 : cCode P c2 <;> simp [cCode, h2, h3] at hc
  | block id c => cases h1 : cCode P c <;> simp [cCode, h1] at hc
  | loop c => cases h1 : cCode P c <;> simp [cCode, h1] at hc
  | _ => simp [cCode] at hc
/-- A branching, then the rest. -/
theorem ExS.cond {rs : List AR} {v : V} {k : Nat} {a b : ACode} {l r : List ACode} {st : St} {x : Bool} {Q : X → St → Prop} (hl : l = .cond (.t k) a b :: r) (hx : nth (.c .top) st.t k = .c (.p (.b x)))
    (h1 : x = true → ∀ Q' : X → St → Prop, (∀ st, ExS P G rs v r st Q → Q' .normal st) → (∀ j st, Q (.exit j) st → Q' (.exit j) st) → ExS P G rs v (flat a) ⟨upd (.c (.p (.b true))) st.t k, st.h⟩ Q')
    (h2 : x = false → ∀ Q' : X → St → Prop, (∀ st, ExS P G rs v r st Q → Q' .normal st) → (∀ j st, Q (.exit j) st → Q' (.exit j) st) → ExS P G rs v (flat b) ⟨upd (.c (.p (.b false))) st.t k, st.h⟩ Q') : ExS P G rs v l st Q := by
  subst hl
  exact ExA.cond hx (fun e => ExS.code (h1 e (fun e st' => match e with
    | .normal => ExS P G rs v r st' Q
    | e => Q e st') (fun _ h => h) (fun _ _ h => h))) (fun e => ExS.code (h2 e (fun e st' => match e with
    | .normal => ExS P G rs v r st' Q
    | e => Q e st') (fun _ h => h) (fun _ _ h => h)))
end
def cndA : ACode → ACode
  | .cond _ a _ => a
  | c => c
def cndB : ACode → ACode
  | .cond _ _ b => b
  | c => c
end Go.AE
