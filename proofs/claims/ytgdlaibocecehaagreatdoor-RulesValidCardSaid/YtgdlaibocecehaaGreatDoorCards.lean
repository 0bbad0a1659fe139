/-
  DERIVED. GIVEN WITH THE SEED: THE CARDS: each row of YtgdlaibocecehaaGreatDoorRows.lean that lists a variable, with what it lists TIED to the program's text (the seventh form; the later family's looks); each row that meets fmt, with fmt's text TOLD by the authors' own Lean function (tested against real Go, not proved from fmt's source: count such statements apart). THE CARD IS WHAT COUNTS. Prove the row's statement (the work); the ties are given (YtgdlaibocecehaaGreatDoorTie.lean); close each card by the builder's one call (the guide's Derived/Test/ToyasCard.lean, 'card_holds'). Laid BY PROGRAM, IN A SANDBOX (cutbox-door.mjs). By AI agents, Wed Nov 11 2026. No macro, syntax, notation, axiom, sorry.
-/
import Derived.Test.YtgdlaibocecehaaGreatDoorRows
import GoSem.ClaimSeven
namespace Go.Proofs.YtgdlaibocecehaaGreatDoor
namespace Rows

/-- THE TIED CARD OF 'intervalmonlaw27.RulesValid'. -/
def rulesValidCard : Claim7 := { stood := { row := rulesValidRow, standIns := [], harness := (true, "bfedded17f2540e33b0b859344fedc286b48b59718848de36e05e7aaa75ef9d7"), looks := true }, kinds := [], alts := [], laidByText := true, laidKinds := [.widerDeep], laidTests := true, laidLooks := .later }
def RulesValidCardSaid : Prop := Claim7.holds Tryz.pinned (.plain (OpenSpec.ofChange rulesValidSpec)) rulesValidCard

/-- THE TIED CARD OF 'intervalmonlaw27.RulesEncoding'. -/
def rulesEncodingCard : Claim7 := { stood := { row := rulesEncodingRow, standIns := [], harness := (true, "bfedded17f2540e33b0b859344fedc286b48b59718848de36e05e7aaa75ef9d7"), looks := true }, kinds := [], alts := [], laidByText := true, laidKinds := [.widerDeep], laidTests := true, laidLooks := .later }
def RulesEncodingCardSaid : Prop := Claim7.holds Tryz.pinned (.plain (OpenSpec.ofChange rulesEncodingSpec)) rulesEncodingCard

/-- THE SECOND FORM's CARD OF 'intervalmonlaw27.RulesValid'. -/
def rulesValidUptoCard : Claim7 := { stood := { row := rulesValidUptoRow, standIns := [], harness := (true, "bfedded17f2540e33b0b859344fedc286b48b59718848de36e05e7aaa75ef9d7"), looks := true }, kinds := [], alts := [], laidByText := true, laidKinds := [.widerDeep], laidTests := true, laidLooks := .later }
def RulesValidUptoCardSaid : Prop := Claim7.holds Tryz.pinned (.plain (OpenSpec.upto rulesValidSpec)) rulesValidUptoCard

/-- THE SECOND FORM's CARD OF 'intervalmonlaw27.RulesEncoding'. -/
def rulesEncodingUptoCard : Claim7 := { stood := { row := rulesEncodingUptoRow, standIns := [], harness := (true, "bfedded17f2540e33b0b859344fedc286b48b59718848de36e05e7aaa75ef9d7"), looks := true }, kinds := [], alts := [], laidByText := true, laidKinds := [.widerDeep], laidTests := true, laidLooks := .later }
def RulesEncodingUptoCardSaid : Prop := Claim7.holds Tryz.pinned (.plain (OpenSpec.upto rulesEncodingSpec)) rulesEncodingUptoCard
end Rows
end Go.Proofs.YtgdlaibocecehaaGreatDoor
