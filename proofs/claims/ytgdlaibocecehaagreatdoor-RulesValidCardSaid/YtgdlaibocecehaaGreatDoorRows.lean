/-
  NARROWER THAN 'FOR EVERY INPUT', by the rows' own cells (each row's printed sentence says how): RulesValid: laid · RulesEncoding: laid.
  DERIVED. THE GIVEN ROWS OF THIS SEAT. 2 by the template 'for every input the law returns true; each argument reads behind the call as it read before'; 0 by the template 'total and deterministic' (their statements: YtgdlaibocecehaaGreatDoorTotals.lean).
  GIVEN WITH THE SEED: the statements are not yours to turn. If you find one false, say at which input.
  Laid BY PROGRAM, IN A SANDBOX (cutbox-rows.mjs): the forced cells as the released guide's own fill.sh prints them over the translation 18cd5f38ab8bfd7d… (all of the seat's roots in one cut). By AI agents, Wed Nov 11 2026. No macro, syntax, notation, axiom, sorry.
-/
import Derived.Test.YtgdlaibocecehaaGreatDoorChecked
import GoSem.Claim
import GoSem.ClaimJoined
import GoSem.ClaimMapViews
import Derived.JoinedTies
import Derived.KernelRfl
namespace Go.Proofs.YtgdlaibocecehaaGreatDoor
/- THE CELL 'sum', in the pinned program and in every row, IS THE sha256 OF THE DUMP (.gsa) THAT YtgdlaibocecehaaGreatDoorProg.lean LOADS. Nothing in Lean hashes anything: it is a label: what it is worth is what the hold of that sum in a sandbox is worth. -/
noncomputable def Tryz.pinned : Pinned := { name := "ytgdlaibocecehaagreatdoor", sum := "18cd5f38ab8bfd7dfb0df52b805a6d317bec91fce43f6089c37ccb8afaca0826", checked := Tryz.checked }
namespace Rows
def none {H : Type} : Left H := { results := [], args := [] }

/- WHAT THE LISTED PACKAGE-LEVEL VARIABLES READ AS WHEN THE CALL BEGINS. Each datum BY PROGRAM (the guide's laid-datum.mjs) off the statement by which the dump's own 'gosem.cut.vars' lays the variable. In a bare row this is a premise. The card (YtgdlaibocecehaaGreatDoorCards.lean) ties it to the program's text. -/
def laid_intervalmon_parser_groupWords {H : Type} : DataW H := .agg [.lit (.string [115, 117, 109]), .lit (.string [109, 105, 110]), .lit (.string [109, 97, 120]), .lit (.string [99, 111, 117, 110, 116]), .lit (.string [107, 116, 104])]

/-- 'intervalmonlaw27.RulesValid': WHATEVER THE INPUT: true; the input reads as it did. -/
def rulesValidSpec : ChangeSpec := { name := "rulesValid", fn := fun _ => fun
  | [d1, d2, d3, d4, d5, d6] => { results := [.lit (.bool true)], args := [d1, d2, d3, d4, d5, d6] }
  | _ => none }
def rulesValidRow : OpenClaim := { program := "ytgdlaibocecehaagreatdoor", sum := "18cd5f38ab8bfd7dfb0df52b805a6d317bec91fce43f6089c37ccb8afaca0826", func := "intervalmon/intervalmonlaw27.RulesValid", spec := "rulesValid", inPlace := ["math/bits.Add64", "math/bits.Sub64", "internal/abi.NoEscape"], unfollowed := true, recurses := true, named := ["intervalmon/parser.groupWords", "math/bits.divideError", "math/bits.overflowError"], apart := false, laid := [("intervalmon/parser.groupWords", laid_intervalmon_parser_groupWords)] }
def RulesValidSaid : Prop := rulesValidRow.holds Tryz.pinned (OpenSpec.ofChange rulesValidSpec)

/-- ITS FALSE NEIGHBOUR: 'it returns false'. Refute it at one input. -/
def rulesValidWrong : ChangeSpec := { name := "rulesValid", fn := fun _ => fun
  | [d1, d2, d3, d4, d5, d6] => { results := [.lit (.bool false)], args := [d1, d2, d3, d4, d5, d6] }
  | _ => none }
def RulesValidWrongFalsely : Prop := rulesValidRow.holds Tryz.pinned (OpenSpec.ofChange rulesValidWrong)

/-- 'intervalmonlaw27.RulesEncoding': WHATEVER THE INPUT: true; the input reads as it did. -/
def rulesEncodingSpec : ChangeSpec := { name := "rulesEncoding", fn := fun _ => fun
  | [d1, d2, d3, d4, d5, d6] => { results := [.lit (.bool true)], args := [d1, d2, d3, d4, d5, d6] }
  | _ => none }
def rulesEncodingRow : OpenClaim := { program := "ytgdlaibocecehaagreatdoor", sum := "18cd5f38ab8bfd7dfb0df52b805a6d317bec91fce43f6089c37ccb8afaca0826", func := "intervalmon/intervalmonlaw27.RulesEncoding", spec := "rulesEncoding", inPlace := ["math/bits.Add64", "math/bits.Sub64", "internal/abi.NoEscape"], unfollowed := true, recurses := true, named := ["intervalmon/parser.groupWords", "math/bits.divideError", "math/bits.overflowError"], apart := false, laid := [("intervalmon/parser.groupWords", laid_intervalmon_parser_groupWords)] }
def RulesEncodingSaid : Prop := rulesEncodingRow.holds Tryz.pinned (OpenSpec.ofChange rulesEncodingSpec)

/-- ITS FALSE NEIGHBOUR: 'it returns false'. Refute it at one input. -/
def rulesEncodingWrong : ChangeSpec := { name := "rulesEncoding", fn := fun _ => fun
  | [d1, d2, d3, d4, d5, d6] => { results := [.lit (.bool false)], args := [d1, d2, d3, d4, d5, d6] }
  | _ => none }
def RulesEncodingWrongFalsely : Prop := rulesEncodingRow.holds Tryz.pinned (OpenSpec.ofChange rulesEncodingWrong)

/- THE SECOND FORM. 'bulk': how many values and letters a reading holds, each counted each time it is reached (what is shared counts as often as it is met; a slice's spare places count too). A statement '..UptoSaid' is the law's where the arguments, and the package variables that the reading takes, are together of bulk at most 1048576: NARROWER than '..Said'. Prove '..Said' where nothing that the law and all that it calls make is longer than what came in: it says more and counts as full. Else prove '..UptoSaid'. A law counts once. -/
mutual
def uptoBulk {H : Type} : DataW H → Nat
  | .lit (.string bytes) => bytes.length + 1
  | .lit _ => 1
  | .nil => 1
  | .ptr d => uptoBulk d + 1
  | .slice elems spare => uptoBulkAll elems + uptoBulkAll spare + 1
  | .agg parts => uptoBulkAll parts + 1
  | .iface _ d => uptoBulk d + 1
  | .map entries => uptoBulkEntries entries + 1
  | .held _ => 1
def uptoBulkAll {H : Type} : List (DataW H) → Nat
  | [] => 0
  | d :: r => uptoBulk d + uptoBulkAll r
def uptoBulkEntries {H : Type} : List (Lit × DataW H) → Nat
  | [] => 0
  | x :: r => uptoBulkEntry x + uptoBulkEntries r
def uptoBulkEntry {H : Type} : Lit × DataW H → Nat
  | (.string bytes, d) => bytes.length + uptoBulk d + 1
  | (_, d) => uptoBulk d + 1
 end
def uptoSmall : (H : Type) → List (DataW H) → Bool := fun _ ds => decide (uptoBulkAll ds ≤ 1048576)
def OpenSpec.upto (s : _root_.Go.ChangeSpec) : _root_.Go.OpenSpec := { _root_.Go.OpenSpec.ofChange s with cond := some uptoSmall }

/-- 'intervalmonlaw27.RulesValid', WHERE WHAT IT READS IS OF BULK AT MOST 1048576: true; the input reads as it did. -/
def rulesValidUptoRow : OpenClaim := { program := "ytgdlaibocecehaagreatdoor", sum := "18cd5f38ab8bfd7dfb0df52b805a6d317bec91fce43f6089c37ccb8afaca0826", func := "intervalmon/intervalmonlaw27.RulesValid", spec := "rulesValid", inPlace := ["math/bits.Add64", "math/bits.Sub64", "internal/abi.NoEscape"], unfollowed := true, recurses := true, named := ["intervalmon/parser.groupWords", "math/bits.divideError", "math/bits.overflowError"], apart := false, laid := [("intervalmon/parser.groupWords", laid_intervalmon_parser_groupWords)], narrowed := true }
def RulesValidUptoSaid : Prop := rulesValidUptoRow.holds Tryz.pinned (OpenSpec.upto rulesValidSpec)

/-- 'intervalmonlaw27.RulesEncoding', WHERE WHAT IT READS IS OF BULK AT MOST 1048576: true; the input reads as it did. -/
def rulesEncodingUptoRow : OpenClaim := { program := "ytgdlaibocecehaagreatdoor", sum := "18cd5f38ab8bfd7dfb0df52b805a6d317bec91fce43f6089c37ccb8afaca0826", func := "intervalmon/intervalmonlaw27.RulesEncoding", spec := "rulesEncoding", inPlace := ["math/bits.Add64", "math/bits.Sub64", "internal/abi.NoEscape"], unfollowed := true, recurses := true, named := ["intervalmon/parser.groupWords", "math/bits.divideError", "math/bits.overflowError"], apart := false, laid := [("intervalmon/parser.groupWords", laid_intervalmon_parser_groupWords)], narrowed := true }
def RulesEncodingUptoSaid : Prop := rulesEncodingUptoRow.holds Tryz.pinned (OpenSpec.upto rulesEncodingSpec)

end Rows
end Go.Proofs.YtgdlaibocecehaaGreatDoor
