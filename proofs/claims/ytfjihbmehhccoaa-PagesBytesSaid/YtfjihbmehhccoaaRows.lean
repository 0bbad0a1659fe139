/-
  No cell of these rows narrows 'for every input' (looked for: loops, veiled, ifaces, maps, wideKeys, modest, calm, conditions, laid).
  DERIVED. THE GIVEN ROWS OF THIS SEAT. 8 by the template 'for every input the law returns true; each argument reads behind the call as it read before'; 0 by the template 'total and deterministic' (their statements: YtfjihbmehhccoaaTotals.lean).
  GIVEN WITH THE SEED: the statements are not yours to turn. If you find one false, say at which input.
  Laid BY PROGRAM, IN A SANDBOX (cutbox-rows.mjs): the forced cells as the released guide's own fill.sh prints them over the translation b188884985b3e52a… (all of the seat's roots in one cut). By AI agents, Wed Nov 11 2026. No macro, syntax, notation, axiom, sorry.
-/
import Derived.Test.YtfjihbmehhccoaaChecked
import GoSem.Claim
import GoSem.ClaimJoined
import GoSem.ClaimMapViews
import Derived.JoinedTies
import Derived.KernelRfl
namespace Go.Proofs.Ytfjihbmehhccoaa
/- THE CELL 'sum', in the pinned program and in every row, IS THE sha256 OF THE DUMP (.gsa) THAT YtfjihbmehhccoaaProg.lean LOADS. Nothing in Lean hashes anything: it is a label: what it is worth is what the hold of that sum in a sandbox is worth. -/
noncomputable def Try.pinned : Pinned := { name := "ytfjihbmehhccoaa", sum := "b188884985b3e52a200ab33889e4fc0834a08f81f3f72ba95485c830c245bb0f", checked := Try.checked }
namespace Rows
def none {H : Type} : Left H := { results := [], args := [] }

/-- 'intervalmonlaw31.PagesSettles': WHATEVER THE INPUT: true; the input reads as it did. -/
def pagesSettlesSpec : ChangeSpec := { name := "pagesSettles", fn := fun _ => fun
  | [d1, d2, d3] => { results := [.lit (.bool true)], args := [d1, d2, d3] }
  | _ => none }
def pagesSettlesRow : OpenClaim := { program := "ytfjihbmehhccoaa", sum := "b188884985b3e52a200ab33889e4fc0834a08f81f3f72ba95485c830c245bb0f", func := "intervalmon/intervalmonlaw31.PagesSettles", spec := "pagesSettles", inPlace := ["internal/abi.NoEscape"], recurses := true, plainKeys := false, apart := false }
def PagesSettlesSaid : Prop := pagesSettlesRow.holds Try.pinned (OpenSpec.ofChange pagesSettlesSpec)

/-- ITS FALSE NEIGHBOUR: 'it returns false'. Refute it at one input. -/
def pagesSettlesWrong : ChangeSpec := { name := "pagesSettles", fn := fun _ => fun
  | [d1, d2, d3] => { results := [.lit (.bool false)], args := [d1, d2, d3] }
  | _ => none }
def PagesSettlesWrongFalsely : Prop := pagesSettlesRow.holds Try.pinned (OpenSpec.ofChange pagesSettlesWrong)

/-- 'intervalmonlaw31.PagesModel': WHATEVER THE INPUT: true; the input reads as it did. -/
def pagesModelSpec : ChangeSpec := { name := "pagesModel", fn := fun _ => fun
  | [d] => { results := [.lit (.bool true)], args := [d] }
  | _ => none }
def pagesModelRow : OpenClaim := { program := "ytfjihbmehhccoaa", sum := "b188884985b3e52a200ab33889e4fc0834a08f81f3f72ba95485c830c245bb0f", func := "intervalmon/intervalmonlaw31.PagesModel", spec := "pagesModel", inPlace := ["internal/abi.NoEscape"], recurses := true, plainKeys := false, apart := false }
def PagesModelSaid : Prop := pagesModelRow.holds Try.pinned (OpenSpec.ofChange pagesModelSpec)

/-- ITS FALSE NEIGHBOUR: 'it returns false'. Refute it at one input. -/
def pagesModelWrong : ChangeSpec := { name := "pagesModel", fn := fun _ => fun
  | [d] => { results := [.lit (.bool false)], args := [d] }
  | _ => none }
def PagesModelWrongFalsely : Prop := pagesModelRow.holds Try.pinned (OpenSpec.ofChange pagesModelWrong)

/-- 'intervalmonlaw31.PagesRefused': WHATEVER THE INPUT: true; the input reads as it did. -/
def pagesRefusedSpec : ChangeSpec := { name := "pagesRefused", fn := fun _ => fun
  | [d1, d2, d3, d4] => { results := [.lit (.bool true)], args := [d1, d2, d3, d4] }
  | _ => none }
def pagesRefusedRow : OpenClaim := { program := "ytfjihbmehhccoaa", sum := "b188884985b3e52a200ab33889e4fc0834a08f81f3f72ba95485c830c245bb0f", func := "intervalmon/intervalmonlaw31.PagesRefused", spec := "pagesRefused", inPlace := ["internal/abi.NoEscape"], recurses := true, plainKeys := false, apart := false }
def PagesRefusedSaid : Prop := pagesRefusedRow.holds Try.pinned (OpenSpec.ofChange pagesRefusedSpec)

/-- ITS FALSE NEIGHBOUR: 'it returns false'. Refute it at one input. -/
def pagesRefusedWrong : ChangeSpec := { name := "pagesRefused", fn := fun _ => fun
  | [d1, d2, d3, d4] => { results := [.lit (.bool false)], args := [d1, d2, d3, d4] }
  | _ => none }
def PagesRefusedWrongFalsely : Prop := pagesRefusedRow.holds Try.pinned (OpenSpec.ofChange pagesRefusedWrong)

/-- 'intervalmonlaw31.PagesApart': WHATEVER THE INPUT: true; the input reads as it did. -/
def pagesApartSpec : ChangeSpec := { name := "pagesApart", fn := fun _ => fun
  | [d1, d2] => { results := [.lit (.bool true)], args := [d1, d2] }
  | _ => none }
def pagesApartRow : OpenClaim := { program := "ytfjihbmehhccoaa", sum := "b188884985b3e52a200ab33889e4fc0834a08f81f3f72ba95485c830c245bb0f", func := "intervalmon/intervalmonlaw31.PagesApart", spec := "pagesApart", inPlace := ["internal/abi.NoEscape"], recurses := true, plainKeys := false, apart := false }
def PagesApartSaid : Prop := pagesApartRow.holds Try.pinned (OpenSpec.ofChange pagesApartSpec)

/-- ITS FALSE NEIGHBOUR: 'it returns false'. Refute it at one input. -/
def pagesApartWrong : ChangeSpec := { name := "pagesApart", fn := fun _ => fun
  | [d1, d2] => { results := [.lit (.bool false)], args := [d1, d2] }
  | _ => none }
def PagesApartWrongFalsely : Prop := pagesApartRow.holds Try.pinned (OpenSpec.ofChange pagesApartWrong)

/-- 'intervalmonlaw31.PagesRuns': WHATEVER THE INPUT: true; the input reads as it did. -/
def pagesRunsSpec : ChangeSpec := { name := "pagesRuns", fn := fun _ => fun
  | [d1, d2, d3] => { results := [.lit (.bool true)], args := [d1, d2, d3] }
  | _ => none }
def pagesRunsRow : OpenClaim := { program := "ytfjihbmehhccoaa", sum := "b188884985b3e52a200ab33889e4fc0834a08f81f3f72ba95485c830c245bb0f", func := "intervalmon/intervalmonlaw31.PagesRuns", spec := "pagesRuns", inPlace := ["internal/abi.NoEscape"], recurses := true, plainKeys := false, apart := false }
def PagesRunsSaid : Prop := pagesRunsRow.holds Try.pinned (OpenSpec.ofChange pagesRunsSpec)

/-- ITS FALSE NEIGHBOUR: 'it returns false'. Refute it at one input. -/
def pagesRunsWrong : ChangeSpec := { name := "pagesRuns", fn := fun _ => fun
  | [d1, d2, d3] => { results := [.lit (.bool false)], args := [d1, d2, d3] }
  | _ => none }
def PagesRunsWrongFalsely : Prop := pagesRunsRow.holds Try.pinned (OpenSpec.ofChange pagesRunsWrong)

/-- 'intervalmonlaw31.PagesOrder': WHATEVER THE INPUT: true; the input reads as it did. -/
def pagesOrderSpec : ChangeSpec := { name := "pagesOrder", fn := fun _ => fun
  | [d1, d2] => { results := [.lit (.bool true)], args := [d1, d2] }
  | _ => none }
def pagesOrderRow : OpenClaim := { program := "ytfjihbmehhccoaa", sum := "b188884985b3e52a200ab33889e4fc0834a08f81f3f72ba95485c830c245bb0f", func := "intervalmon/intervalmonlaw31.PagesOrder", spec := "pagesOrder", inPlace := ["internal/abi.NoEscape"], recurses := true, plainKeys := false, apart := false }
def PagesOrderSaid : Prop := pagesOrderRow.holds Try.pinned (OpenSpec.ofChange pagesOrderSpec)

/-- ITS FALSE NEIGHBOUR: 'it returns false'. Refute it at one input. -/
def pagesOrderWrong : ChangeSpec := { name := "pagesOrder", fn := fun _ => fun
  | [d1, d2] => { results := [.lit (.bool false)], args := [d1, d2] }
  | _ => none }
def PagesOrderWrongFalsely : Prop := pagesOrderRow.holds Try.pinned (OpenSpec.ofChange pagesOrderWrong)

/-- 'intervalmonlaw31.PagesBytes': WHATEVER THE INPUT: true; the input reads as it did. -/
def pagesBytesSpec : ChangeSpec := { name := "pagesBytes", fn := fun _ => fun
  | [d1, d2] => { results := [.lit (.bool true)], args := [d1, d2] }
  | _ => none }
def pagesBytesRow : OpenClaim := { program := "ytfjihbmehhccoaa", sum := "b188884985b3e52a200ab33889e4fc0834a08f81f3f72ba95485c830c245bb0f", func := "intervalmon/intervalmonlaw31.PagesBytes", spec := "pagesBytes", inPlace := ["internal/abi.NoEscape"], unfollowed := true, recurses := true, plainKeys := false, apart := false }
def PagesBytesSaid : Prop := pagesBytesRow.holds Try.pinned (OpenSpec.ofChange pagesBytesSpec)

/-- ITS FALSE NEIGHBOUR: 'it returns false'. Refute it at one input. -/
def pagesBytesWrong : ChangeSpec := { name := "pagesBytes", fn := fun _ => fun
  | [d1, d2] => { results := [.lit (.bool false)], args := [d1, d2] }
  | _ => none }
def PagesBytesWrongFalsely : Prop := pagesBytesRow.holds Try.pinned (OpenSpec.ofChange pagesBytesWrong)

/-- 'intervalmonlaw31.PagesForms': WHATEVER THE INPUT: true; the input reads as it did. -/
def pagesFormsSpec : ChangeSpec := { name := "pagesForms", fn := fun _ => fun
  | [d1, d2, d3, d4] => { results := [.lit (.bool true)], args := [d1, d2, d3, d4] }
  | _ => none }
def pagesFormsRow : OpenClaim := { program := "ytfjihbmehhccoaa", sum := "b188884985b3e52a200ab33889e4fc0834a08f81f3f72ba95485c830c245bb0f", func := "intervalmon/intervalmonlaw31.PagesForms", spec := "pagesForms", inPlace := ["internal/abi.NoEscape"], unfollowed := true, recurses := true, plainKeys := false, apart := false }
def PagesFormsSaid : Prop := pagesFormsRow.holds Try.pinned (OpenSpec.ofChange pagesFormsSpec)

/-- ITS FALSE NEIGHBOUR: 'it returns false'. Refute it at one input. -/
def pagesFormsWrong : ChangeSpec := { name := "pagesForms", fn := fun _ => fun
  | [d1, d2, d3, d4] => { results := [.lit (.bool false)], args := [d1, d2, d3, d4] }
  | _ => none }
def PagesFormsWrongFalsely : Prop := pagesFormsRow.holds Try.pinned (OpenSpec.ofChange pagesFormsWrong)

/- THE SECOND FORM. 'bulk': how many values and letters a reading holds, each counted each time it is reached (what is shared counts as often as it is met; a slice's spare places count too). A statement '..UptoSaid' is the law's where the arguments, and the package variables that the reading takes, are together of bulk at most 1048576: NARROWER than '..Said'. Prove '..Said' where nothing that the law and all that it calls make is longer than what came in: it says more and counts as full. Else prove '..UptoSaid'. A law counts once. -/
mutual
def uptoBulk {H : Type} : DataW H → Nat
  | .lit (.string bytes) => bytes.length + 1
  | .lit _ => 1
  | .nil => 1
  | .ptr d => uptoBulk d + 1
  | .slice elems spare => uptoBulkAll elems + uptoBulkAll spare + 1
  | .agg parts => uptoBulkAll parts + 1
  | .iface _ d => uptoBulk d + 1
  | .map entries => uptoBulkEntries entries + 1
  | .held _ => 1
def uptoBulkAll {H : Type} : List (DataW H) → Nat
  | [] => 0
  | d :: r => uptoBulk d + uptoBulkAll r
def uptoBulkEntries {H : Type} : List (Lit × DataW H) → Nat
  | [] => 0
  | x :: r => uptoBulkEntry x + uptoBulkEntries r
def uptoBulkEntry {H : Type} : Lit × DataW H → Nat
  | (.string bytes, d) => bytes.length + uptoBulk d + 1
  | (_, d) => uptoBulk d + 1
 end
def uptoSmall : (H : Type) → List (DataW H) → Bool := fun _ ds => decide (uptoBulkAll ds ≤ 1048576)
def OpenSpec.upto (s : _root_.Go.ChangeSpec) : _root_.Go.OpenSpec := { _root_.Go.OpenSpec.ofChange s with cond := some uptoSmall }

/-- 'intervalmonlaw31.PagesSettles', WHERE WHAT IT READS IS OF BULK AT MOST 1048576: true; the input reads as it did. -/
def pagesSettlesUptoRow : OpenClaim := { program := "ytfjihbmehhccoaa", sum := "b188884985b3e52a200ab33889e4fc0834a08f81f3f72ba95485c830c245bb0f", func := "intervalmon/intervalmonlaw31.PagesSettles", spec := "pagesSettles", inPlace := ["internal/abi.NoEscape"], recurses := true, plainKeys := false, apart := false, narrowed := true }
def PagesSettlesUptoSaid : Prop := pagesSettlesUptoRow.holds Try.pinned (OpenSpec.upto pagesSettlesSpec)

/-- 'intervalmonlaw31.PagesModel', WHERE WHAT IT READS IS OF BULK AT MOST 1048576: true; the input reads as it did. -/
def pagesModelUptoRow : OpenClaim := { program := "ytfjihbmehhccoaa", sum := "b188884985b3e52a200ab33889e4fc0834a08f81f3f72ba95485c830c245bb0f", func := "intervalmon/intervalmonlaw31.PagesModel", spec := "pagesModel", inPlace := ["internal/abi.NoEscape"], recurses := true, plainKeys := false, apart := false, narrowed := true }
def PagesModelUptoSaid : Prop := pagesModelUptoRow.holds Try.pinned (OpenSpec.upto pagesModelSpec)

/-- 'intervalmonlaw31.PagesRefused', WHERE WHAT IT READS IS OF BULK AT MOST 1048576: true; the input reads as it did. -/
def pagesRefusedUptoRow : OpenClaim := { program := "ytfjihbmehhccoaa", sum := "b188884985b3e52a200ab33889e4fc0834a08f81f3f72ba95485c830c245bb0f", func := "intervalmon/intervalmonlaw31.PagesRefused", spec := "pagesRefused", inPlace := ["internal/abi.NoEscape"], recurses := true, plainKeys := false, apart := false, narrowed := true }
def PagesRefusedUptoSaid : Prop := pagesRefusedUptoRow.holds Try.pinned (OpenSpec.upto pagesRefusedSpec)

/-- 'intervalmonlaw31.PagesApart', WHERE WHAT IT READS IS OF BULK AT MOST 1048576: true; the input reads as it did. -/
def pagesApartUptoRow : OpenClaim := { program := "ytfjihbmehhccoaa", sum := "b188884985b3e52a200ab33889e4fc0834a08f81f3f72ba95485c830c245bb0f", func := "intervalmon/intervalmonlaw31.PagesApart", spec := "pagesApart", inPlace := ["internal/abi.NoEscape"], recurses := true, plainKeys := false, apart := false, narrowed := true }
def PagesApartUptoSaid : Prop := pagesApartUptoRow.holds Try.pinned (OpenSpec.upto pagesApartSpec)

/-- 'intervalmonlaw31.PagesRuns', WHERE WHAT IT READS IS OF BULK AT MOST 1048576: true; the input reads as it did. -/
def pagesRunsUptoRow : OpenClaim := { program := "ytfjihbmehhccoaa", sum := "b188884985b3e52a200ab33889e4fc0834a08f81f3f72ba95485c830c245bb0f", func := "intervalmon/intervalmonlaw31.PagesRuns", spec := "pagesRuns", inPlace := ["internal/abi.NoEscape"], recurses := true, plainKeys := false, apart := false, narrowed := true }
def PagesRunsUptoSaid : Prop := pagesRunsUptoRow.holds Try.pinned (OpenSpec.upto pagesRunsSpec)

/-- 'intervalmonlaw31.PagesOrder', WHERE WHAT IT READS IS OF BULK AT MOST 1048576: true; the input reads as it did. -/
def pagesOrderUptoRow : OpenClaim := { program := "ytfjihbmehhccoaa", sum := "b188884985b3e52a200ab33889e4fc0834a08f81f3f72ba95485c830c245bb0f", func := "intervalmon/intervalmonlaw31.PagesOrder", spec := "pagesOrder", inPlace := ["internal/abi.NoEscape"], recurses := true, plainKeys := false, apart := false, narrowed := true }
def PagesOrderUptoSaid : Prop := pagesOrderUptoRow.holds Try.pinned (OpenSpec.upto pagesOrderSpec)

/-- 'intervalmonlaw31.PagesBytes', WHERE WHAT IT READS IS OF BULK AT MOST 1048576: true; the input reads as it did. -/
def pagesBytesUptoRow : OpenClaim := { program := "ytfjihbmehhccoaa", sum := "b188884985b3e52a200ab33889e4fc0834a08f81f3f72ba95485c830c245bb0f", func := "intervalmon/intervalmonlaw31.PagesBytes", spec := "pagesBytes", inPlace := ["internal/abi.NoEscape"], unfollowed := true, recurses := true, plainKeys := false, apart := false, narrowed := true }
def PagesBytesUptoSaid : Prop := pagesBytesUptoRow.holds Try.pinned (OpenSpec.upto pagesBytesSpec)

/-- 'intervalmonlaw31.PagesForms', WHERE WHAT IT READS IS OF BULK AT MOST 1048576: true; the input reads as it did. -/
def pagesFormsUptoRow : OpenClaim := { program := "ytfjihbmehhccoaa", sum := "b188884985b3e52a200ab33889e4fc0834a08f81f3f72ba95485c830c245bb0f", func := "intervalmon/intervalmonlaw31.PagesForms", spec := "pagesForms", inPlace := ["internal/abi.NoEscape"], unfollowed := true, recurses := true, plainKeys := false, apart := false, narrowed := true }
def PagesFormsUptoSaid : Prop := pagesFormsUptoRow.holds Try.pinned (OpenSpec.upto pagesFormsSpec)

end Rows
end Go.Proofs.Ytfjihbmehhccoaa
