/-
  DERIVED. GIVEN WITH THE SEED: THE CARDS: each row of YtecilaemjajcnaaGreatDoorRows.lean that lists a variable, with what it lists TIED to the program's text (the seventh form; the later family's looks); each row that meets fmt, with fmt's text TOLD by the authors' own Lean function (tested against real Go, not proved from fmt's source: count such statements apart). THE CARD IS WHAT COUNTS. Prove the row's statement (the work); the ties are given (YtecilaemjajcnaaGreatDoorTie.lean); close each card by the builder's one call (the guide's Derived/Test/ToyasCard.lean, 'card_holds'). Laid BY PROGRAM, IN A SANDBOX (cutbox-door.mjs). By AI agents, Wed Nov 11 2026. No macro, syntax, notation, axiom, sorry.
-/
import Derived.Test.YtecilaemjajcnaaGreatDoorRows
import GoSem.ClaimSeven
namespace Go.Proofs.YtecilaemjajcnaaGreatDoor
namespace Rows

/-- THE TIED CARD OF 'intervalmonlaw27.RulesRatio'. -/
def rulesRatioCard : Claim7 := { stood := { row := rulesRatioRow, standIns := [], harness := (true, "83f1909bbd969f7c6e334ae710f735e5d84cba830447a6cb4871bfba05934493"), looks := true }, kinds := [], alts := [], laidByText := true, laidKinds := [.widerDeep], laidTests := true, laidLooks := .later }
def RulesRatioCardSaid : Prop := Claim7.holds Tryz.pinned (.plain (OpenSpec.ofChange rulesRatioSpec)) rulesRatioCard

/-- THE SECOND FORM's CARD OF 'intervalmonlaw27.RulesRatio'. -/
def rulesRatioUptoCard : Claim7 := { stood := { row := rulesRatioUptoRow, standIns := [], harness := (true, "83f1909bbd969f7c6e334ae710f735e5d84cba830447a6cb4871bfba05934493"), looks := true }, kinds := [], alts := [], laidByText := true, laidKinds := [.widerDeep], laidTests := true, laidLooks := .later }
def RulesRatioUptoCardSaid : Prop := Claim7.holds Tryz.pinned (.plain (OpenSpec.upto rulesRatioSpec)) rulesRatioUptoCard
end Rows
end Go.Proofs.YtecilaemjajcnaaGreatDoor
