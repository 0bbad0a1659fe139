/-
  DERIVED. GIVEN WITH THE SEED: THE CARDS: each row of YtplnkainmfkfgaaDoorRows.lean that lists a variable, with what it lists TIED to the program's text (the seventh form; the later family's looks); each row that meets fmt, with fmt's text TOLD by the authors' own Lean function (tested against real Go, not proved from fmt's source: count such statements apart). THE CARD IS WHAT COUNTS. Prove the row's statement (the work); the ties are given (YtplnkainmfkfgaaDoorTie.lean); close each card by the builder's one call (the guide's Derived/Test/ToyasCard.lean, 'card_holds'). Laid BY PROGRAM, IN A SANDBOX (cutbox-door.mjs). By AI agents, Wed Nov 11 2026. No macro, syntax, notation, axiom, sorry.
-/
import Derived.Test.YtplnkainmfkfgaaDoorRows
import GoSem.ClaimSeven
namespace Go.Proofs.YtplnkainmfkfgaaDoor
namespace Rows

/-- THE TIED CARD OF 'intervalmonlaw28.AlertNarrows'. -/
def alertNarrowsCard : Claim7 := { stood := { row := alertNarrowsRow, standIns := [], harness := (true, "cc3afeb784dc21e7fbc82a58baf717eb0359418a38793f3fac432bf9a8c51207"), looks := false }, kinds := [], alts := [], laidByText := true, laidKinds := [.data], laidTests := true, laidLooks := .later }
def AlertNarrowsCardSaid : Prop := Claim7.holds Tryd.pinned (.plain (OpenSpec.ofChange alertNarrowsSpec)) alertNarrowsCard

/-- THE SECOND FORM's CARD OF 'intervalmonlaw28.AlertNarrows'. -/
def alertNarrowsUptoCard : Claim7 := { stood := { row := alertNarrowsUptoRow, standIns := [], harness := (true, "cc3afeb784dc21e7fbc82a58baf717eb0359418a38793f3fac432bf9a8c51207"), looks := false }, kinds := [], alts := [], laidByText := true, laidKinds := [.data], laidTests := true, laidLooks := .later }
def AlertNarrowsUptoCardSaid : Prop := Claim7.holds Tryd.pinned (.plain (OpenSpec.upto alertNarrowsSpec)) alertNarrowsUptoCard
end Rows
end Go.Proofs.YtplnkainmfkfgaaDoor
