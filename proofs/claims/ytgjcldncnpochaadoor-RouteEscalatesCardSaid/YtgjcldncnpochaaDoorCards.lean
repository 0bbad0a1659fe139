/-
  DERIVED. GIVEN WITH THE SEED: THE CARDS: each row of YtgjcldncnpochaaDoorRows.lean that lists a variable, with what it lists TIED to the program's text (the seventh form; the later family's looks); each row that meets fmt, with fmt's text TOLD by the authors' own Lean function (tested against real Go, not proved from fmt's source: count such statements apart). THE CARD IS WHAT COUNTS. Prove the row's statement (the work); the ties are given (YtgjcldncnpochaaDoorTie.lean); close each card by the builder's one call (the guide's Derived/Test/ToyasCard.lean, 'card_holds'). Laid BY PROGRAM, IN A SANDBOX (cutbox-door.mjs). By AI agents, Wed Nov 11 2026. No macro, syntax, notation, axiom, sorry.
-/
import Derived.Test.YtgjcldncnpochaaDoorRows
import GoSem.ClaimSeven
namespace Go.Proofs.YtgjcldncnpochaaDoor
namespace Rows

/-- THE TIED CARD OF 'intervalmonlaw29.RouteEscalates'. -/
def routeEscalatesCard : Claim7 := { stood := { row := routeEscalatesRow, standIns := [], harness := (true, "e8e476f4f6473b288cc32d06d845859398c930b49b8e1239d22e697faac8808d"), looks := false }, kinds := [], alts := [], laidByText := true, laidKinds := [.data], laidTests := true, laidLooks := .later }
def RouteEscalatesCardSaid : Prop := Claim7.holds Tryd.pinned (.plain (OpenSpec.ofChange routeEscalatesSpec)) routeEscalatesCard

/-- THE SECOND FORM's CARD OF 'intervalmonlaw29.RouteEscalates'. -/
def routeEscalatesUptoCard : Claim7 := { stood := { row := routeEscalatesUptoRow, standIns := [], harness := (true, "e8e476f4f6473b288cc32d06d845859398c930b49b8e1239d22e697faac8808d"), looks := false }, kinds := [], alts := [], laidByText := true, laidKinds := [.data], laidTests := true, laidLooks := .later }
def RouteEscalatesUptoCardSaid : Prop := Claim7.holds Tryd.pinned (.plain (OpenSpec.upto routeEscalatesSpec)) routeEscalatesUptoCard
end Rows
end Go.Proofs.YtgjcldncnpochaaDoor
