/-
  DERIVED. GIVEN WITH THE SEED: THE CARDS: each row of YtjfofadeahdnnaaGreatDoorRows.lean that lists a variable, with what it lists TIED to the program's text (the seventh form; the later family's looks); each row that meets fmt, with fmt's text TOLD by the authors' own Lean function (tested against real Go, not proved from fmt's source: count such statements apart). THE CARD IS WHAT COUNTS. Prove the row's statement (the work); the ties are given (YtjfofadeahdnnaaGreatDoorTie.lean); close each card by the builder's one call (the guide's Derived/Test/ToyasCard.lean, 'card_holds'). Laid BY PROGRAM, IN A SANDBOX (cutbox-door.mjs). By AI agents, Wed Nov 11 2026. No macro, syntax, notation, axiom, sorry.
-/
import Derived.Test.YtjfofadeahdnnaaGreatDoorRows
import GoSem.ClaimSeven
namespace Go.Proofs.YtjfofadeahdnnaaGreatDoor
namespace Rows

/-- THE TIED CARD OF 'intervalmonlaw35.EvidenceTree'. -/
def evidenceTreeCard : Claim7 := { stood := { row := evidenceTreeRow, standIns := [], harness := (true, "808bc5e51b133dcd053019cf0a713ee04d4cbc5d4a94d18ec40a00f29af4c8b5"), looks := true }, kinds := [], alts := [], laidByText := true, laidKinds := [.widerDeep], laidTests := true, laidLooks := .later }
def EvidenceTreeCardSaid : Prop := Claim7.holds Tryz.pinned (.plain (OpenSpec.ofChange evidenceTreeSpec)) evidenceTreeCard

/-- THE TIED CARD OF 'intervalmonlaw35.EvidencePaths'. -/
def evidencePathsCard : Claim7 := { stood := { row := evidencePathsRow, standIns := [], harness := (true, "808bc5e51b133dcd053019cf0a713ee04d4cbc5d4a94d18ec40a00f29af4c8b5"), looks := true }, kinds := [], alts := [], laidByText := true, laidKinds := [.widerDeep], laidTests := true, laidLooks := .later }
def EvidencePathsCardSaid : Prop := Claim7.holds Tryz.pinned (.plain (OpenSpec.ofChange evidencePathsSpec)) evidencePathsCard

/-- THE TIED CARD OF 'intervalmonlaw35.EvidenceRoot'. -/
def evidenceRootCard : Claim7 := { stood := { row := evidenceRootRow, standIns := [], harness := (true, "808bc5e51b133dcd053019cf0a713ee04d4cbc5d4a94d18ec40a00f29af4c8b5"), looks := true }, kinds := [], alts := [], laidByText := true, laidKinds := [.widerDeep], laidTests := true, laidLooks := .later }
def EvidenceRootCardSaid : Prop := Claim7.holds Tryz.pinned (.plain (OpenSpec.ofChange evidenceRootSpec)) evidenceRootCard

/-- THE SECOND FORM's CARD OF 'intervalmonlaw35.EvidenceTree'. -/
def evidenceTreeUptoCard : Claim7 := { stood := { row := evidenceTreeUptoRow, standIns := [], harness := (true, "808bc5e51b133dcd053019cf0a713ee04d4cbc5d4a94d18ec40a00f29af4c8b5"), looks := true }, kinds := [], alts := [], laidByText := true, laidKinds := [.widerDeep], laidTests := true, laidLooks := .later }
def EvidenceTreeUptoCardSaid : Prop := Claim7.holds Tryz.pinned (.plain (OpenSpec.upto evidenceTreeSpec)) evidenceTreeUptoCard

/-- THE SECOND FORM's CARD OF 'intervalmonlaw35.EvidencePaths'. -/
def evidencePathsUptoCard : Claim7 := { stood := { row := evidencePathsUptoRow, standIns := [], harness := (true, "808bc5e51b133dcd053019cf0a713ee04d4cbc5d4a94d18ec40a00f29af4c8b5"), looks := true }, kinds := [], alts := [], laidByText := true, laidKinds := [.widerDeep], laidTests := true, laidLooks := .later }
def EvidencePathsUptoCardSaid : Prop := Claim7.holds Tryz.pinned (.plain (OpenSpec.upto evidencePathsSpec)) evidencePathsUptoCard

/-- THE SECOND FORM's CARD OF 'intervalmonlaw35.EvidenceRoot'. -/
def evidenceRootUptoCard : Claim7 := { stood := { row := evidenceRootUptoRow, standIns := [], harness := (true, "808bc5e51b133dcd053019cf0a713ee04d4cbc5d4a94d18ec40a00f29af4c8b5"), looks := true }, kinds := [], alts := [], laidByText := true, laidKinds := [.widerDeep], laidTests := true, laidLooks := .later }
def EvidenceRootUptoCardSaid : Prop := Claim7.holds Tryz.pinned (.plain (OpenSpec.upto evidenceRootSpec)) evidenceRootUptoCard
end Rows
end Go.Proofs.YtjfofadeahdnnaaGreatDoor
