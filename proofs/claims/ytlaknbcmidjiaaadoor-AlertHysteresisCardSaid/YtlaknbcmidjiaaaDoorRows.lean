/-
  NARROWER THAN 'FOR EVERY INPUT', by the rows' own cells (each row's printed sentence says how): AlertValid: laid · AlertStep: laid · AlertEscalate: laid · AlertHysteresis: laid · AlertTruths: laid · AlertOnce: laid · AlertAck: laid · AlertRuns: laid · AlertLadder: laid · AlertNarrows: laid.
  DERIVED. THE GIVEN ROWS OF THIS SEAT. 10 by the template 'for every input the law returns true; each argument reads behind the call as it read before'; 0 by the template 'total and deterministic' (their statements: YtlaknbcmidjiaaaDoorTotals.lean).
  GIVEN WITH THE SEED: the statements are not yours to turn. If you find one false, say at which input.
  Laid BY PROGRAM, IN A SANDBOX (cutbox-rows.mjs): the forced cells as the released guide's own fill.sh prints them over the translation d33237d1e4fa8467… (all of the seat's roots in one cut). By AI agents, Wed Nov 11 2026. No macro, syntax, notation, axiom, sorry.
-/
import Derived.Test.YtlaknbcmidjiaaaDoorChecked
import GoSem.Claim
import GoSem.ClaimJoined
import GoSem.ClaimMapViews
import Derived.JoinedTies
import Derived.KernelRfl
namespace Go.Proofs.YtlaknbcmidjiaaaDoor
/- THE CELL 'sum', in the pinned program and in every row, IS THE sha256 OF THE DUMP (.gsa) THAT YtlaknbcmidjiaaaDoorProg.lean LOADS. Nothing in Lean hashes anything: it is a label: what it is worth is what the hold of that sum in a sandbox is worth. -/
noncomputable def Tryd.pinned : Pinned := { name := "ytlaknbcmidjiaaadoor", sum := "d33237d1e4fa8467c256f201093fd390176c3a5c2fc6d0696160ca10266e2ed9", checked := Tryd.checked }
namespace Rows
def none {H : Type} : Left H := { results := [], args := [] }

/- WHAT THE LISTED PACKAGE-LEVEL VARIABLES READ AS WHEN THE CALL BEGINS. Each datum BY PROGRAM (the guide's laid-datum.mjs) off the statement by which the dump's own 'gosem.cut.vars' lays the variable. In a bare row this is a premise. The card (YtlaknbcmidjiaaaDoorCards.lean) ties it to the program's text. -/
def laid_intervalmon_alert_levels {H : Type} : DataW H := .agg [.agg [.lit (.int .i64 0), .lit (.int .i64 0)], .agg [.lit (.int .i64 0), .lit (.int .i64 0)], .agg [.lit (.int .i64 0), .lit (.int .i64 0)], .agg [.lit (.int .i64 0), .lit (.int .i64 16)], .agg [.lit (.int .i64 1), .lit (.int .i64 16)]]

/-- 'intervalmonlaw28.AlertValid': WHATEVER THE INPUT: true; the input reads as it did. -/
def alertValidSpec : ChangeSpec := { name := "alertValid", fn := fun _ => fun
  | [d1, d2, d3] => { results := [.lit (.bool true)], args := [d1, d2, d3] }
  | _ => none }
def alertValidRow : OpenClaim := { program := "ytlaknbcmidjiaaadoor", sum := "d33237d1e4fa8467c256f201093fd390176c3a5c2fc6d0696160ca10266e2ed9", func := "intervalmon/intervalmonlaw28.AlertValid", spec := "alertValid", unfollowed := true, recurses := true, named := ["intervalmon/alert.levels"], apart := false, laid := [("intervalmon/alert.levels", laid_intervalmon_alert_levels)] }
def AlertValidSaid : Prop := alertValidRow.holds Tryd.pinned (OpenSpec.ofChange alertValidSpec)

/-- ITS FALSE NEIGHBOUR: 'it returns false'. Refute it at one input. -/
def alertValidWrong : ChangeSpec := { name := "alertValid", fn := fun _ => fun
  | [d1, d2, d3] => { results := [.lit (.bool false)], args := [d1, d2, d3] }
  | _ => none }
def AlertValidWrongFalsely : Prop := alertValidRow.holds Tryd.pinned (OpenSpec.ofChange alertValidWrong)

/-- 'intervalmonlaw28.AlertStep': WHATEVER THE INPUT: true; the input reads as it did. -/
def alertStepSpec : ChangeSpec := { name := "alertStep", fn := fun _ => fun
  | [d1, d2, d3, d4, d5] => { results := [.lit (.bool true)], args := [d1, d2, d3, d4, d5] }
  | _ => none }
def alertStepRow : OpenClaim := { program := "ytlaknbcmidjiaaadoor", sum := "d33237d1e4fa8467c256f201093fd390176c3a5c2fc6d0696160ca10266e2ed9", func := "intervalmon/intervalmonlaw28.AlertStep", spec := "alertStep", unfollowed := true, recurses := true, named := ["intervalmon/alert.levels"], apart := false, laid := [("intervalmon/alert.levels", laid_intervalmon_alert_levels)] }
def AlertStepSaid : Prop := alertStepRow.holds Tryd.pinned (OpenSpec.ofChange alertStepSpec)

/-- ITS FALSE NEIGHBOUR: 'it returns false'. Refute it at one input. -/
def alertStepWrong : ChangeSpec := { name := "alertStep", fn := fun _ => fun
  | [d1, d2, d3, d4, d5] => { results := [.lit (.bool false)], args := [d1, d2, d3, d4, d5] }
  | _ => none }
def AlertStepWrongFalsely : Prop := alertStepRow.holds Tryd.pinned (OpenSpec.ofChange alertStepWrong)

/-- 'intervalmonlaw28.AlertEscalate': WHATEVER THE INPUT: true; the input reads as it did. -/
def alertEscalateSpec : ChangeSpec := { name := "alertEscalate", fn := fun _ => fun
  | [d1, d2, d3, d4] => { results := [.lit (.bool true)], args := [d1, d2, d3, d4] }
  | _ => none }
def alertEscalateRow : OpenClaim := { program := "ytlaknbcmidjiaaadoor", sum := "d33237d1e4fa8467c256f201093fd390176c3a5c2fc6d0696160ca10266e2ed9", func := "intervalmon/intervalmonlaw28.AlertEscalate", spec := "alertEscalate", unfollowed := true, recurses := true, named := ["intervalmon/alert.levels"], apart := false, laid := [("intervalmon/alert.levels", laid_intervalmon_alert_levels)] }
def AlertEscalateSaid : Prop := alertEscalateRow.holds Tryd.pinned (OpenSpec.ofChange alertEscalateSpec)

/-- ITS FALSE NEIGHBOUR: 'it returns false'. Refute it at one input. -/
def alertEscalateWrong : ChangeSpec := { name := "alertEscalate", fn := fun _ => fun
  | [d1, d2, d3, d4] => { results := [.lit (.bool false)], args := [d1, d2, d3, d4] }
  | _ => none }
def AlertEscalateWrongFalsely : Prop := alertEscalateRow.holds Tryd.pinned (OpenSpec.ofChange alertEscalateWrong)

/-- 'intervalmonlaw28.AlertHysteresis': WHATEVER THE INPUT: true; the input reads as it did. -/
def alertHysteresisSpec : ChangeSpec := { name := "alertHysteresis", fn := fun _ => fun
  | [d1, d2, d3, d4] => { results := [.lit (.bool true)], args := [d1, d2, d3, d4] }
  | _ => none }
def alertHysteresisRow : OpenClaim := { program := "ytlaknbcmidjiaaadoor", sum := "d33237d1e4fa8467c256f201093fd390176c3a5c2fc6d0696160ca10266e2ed9", func := "intervalmon/intervalmonlaw28.AlertHysteresis", spec := "alertHysteresis", unfollowed := true, recurses := true, named := ["intervalmon/alert.levels"], apart := false, laid := [("intervalmon/alert.levels", laid_intervalmon_alert_levels)] }
def AlertHysteresisSaid : Prop := alertHysteresisRow.holds Tryd.pinned (OpenSpec.ofChange alertHysteresisSpec)

/-- ITS FALSE NEIGHBOUR: 'it returns false'. Refute it at one input. -/
def alertHysteresisWrong : ChangeSpec := { name := "alertHysteresis", fn := fun _ => fun
  | [d1, d2, d3, d4] => { results := [.lit (.bool false)], args := [d1, d2, d3, d4] }
  | _ => none }
def AlertHysteresisWrongFalsely : Prop := alertHysteresisRow.holds Tryd.pinned (OpenSpec.ofChange alertHysteresisWrong)

/-- 'intervalmonlaw28.AlertTruths': WHATEVER THE INPUT: true; the input reads as it did. -/
def alertTruthsSpec : ChangeSpec := { name := "alertTruths", fn := fun _ => fun
  | [d1, d2, d3, d4] => { results := [.lit (.bool true)], args := [d1, d2, d3, d4] }
  | _ => none }
def alertTruthsRow : OpenClaim := { program := "ytlaknbcmidjiaaadoor", sum := "d33237d1e4fa8467c256f201093fd390176c3a5c2fc6d0696160ca10266e2ed9", func := "intervalmon/intervalmonlaw28.AlertTruths", spec := "alertTruths", unfollowed := true, recurses := true, named := ["intervalmon/alert.levels"], apart := false, laid := [("intervalmon/alert.levels", laid_intervalmon_alert_levels)] }
def AlertTruthsSaid : Prop := alertTruthsRow.holds Tryd.pinned (OpenSpec.ofChange alertTruthsSpec)

/-- ITS FALSE NEIGHBOUR: 'it returns false'. Refute it at one input. -/
def alertTruthsWrong : ChangeSpec := { name := "alertTruths", fn := fun _ => fun
  | [d1, d2, d3, d4] => { results := [.lit (.bool false)], args := [d1, d2, d3, d4] }
  | _ => none }
def AlertTruthsWrongFalsely : Prop := alertTruthsRow.holds Tryd.pinned (OpenSpec.ofChange alertTruthsWrong)

/-- 'intervalmonlaw28.AlertOnce': WHATEVER THE INPUT: true; the input reads as it did. -/
def alertOnceSpec : ChangeSpec := { name := "alertOnce", fn := fun _ => fun
  | [d1, d2] => { results := [.lit (.bool true)], args := [d1, d2] }
  | _ => none }
def alertOnceRow : OpenClaim := { program := "ytlaknbcmidjiaaadoor", sum := "d33237d1e4fa8467c256f201093fd390176c3a5c2fc6d0696160ca10266e2ed9", func := "intervalmon/intervalmonlaw28.AlertOnce", spec := "alertOnce", unfollowed := true, recurses := true, named := ["intervalmon/alert.levels"], apart := false, laid := [("intervalmon/alert.levels", laid_intervalmon_alert_levels)] }
def AlertOnceSaid : Prop := alertOnceRow.holds Tryd.pinned (OpenSpec.ofChange alertOnceSpec)

/-- ITS FALSE NEIGHBOUR: 'it returns false'. Refute it at one input. -/
def alertOnceWrong : ChangeSpec := { name := "alertOnce", fn := fun _ => fun
  | [d1, d2] => { results := [.lit (.bool false)], args := [d1, d2] }
  | _ => none }
def AlertOnceWrongFalsely : Prop := alertOnceRow.holds Tryd.pinned (OpenSpec.ofChange alertOnceWrong)

/-- 'intervalmonlaw28.AlertAck': WHATEVER THE INPUT: true; the input reads as it did. -/
def alertAckSpec : ChangeSpec := { name := "alertAck", fn := fun _ => fun
  | [d1, d2, d3, d4] => { results := [.lit (.bool true)], args := [d1, d2, d3, d4] }
  | _ => none }
def alertAckRow : OpenClaim := { program := "ytlaknbcmidjiaaadoor", sum := "d33237d1e4fa8467c256f201093fd390176c3a5c2fc6d0696160ca10266e2ed9", func := "intervalmon/intervalmonlaw28.AlertAck", spec := "alertAck", unfollowed := true, recurses := true, named := ["intervalmon/alert.levels"], apart := false, laid := [("intervalmon/alert.levels", laid_intervalmon_alert_levels)] }
def AlertAckSaid : Prop := alertAckRow.holds Tryd.pinned (OpenSpec.ofChange alertAckSpec)

/-- ITS FALSE NEIGHBOUR: 'it returns false'. Refute it at one input. -/
def alertAckWrong : ChangeSpec := { name := "alertAck", fn := fun _ => fun
  | [d1, d2, d3, d4] => { results := [.lit (.bool false)], args := [d1, d2, d3, d4] }
  | _ => none }
def AlertAckWrongFalsely : Prop := alertAckRow.holds Tryd.pinned (OpenSpec.ofChange alertAckWrong)

/-- 'intervalmonlaw28.AlertRuns': WHATEVER THE INPUT: true; the input reads as it did. -/
def alertRunsSpec : ChangeSpec := { name := "alertRuns", fn := fun _ => fun
  | [d1, d2] => { results := [.lit (.bool true)], args := [d1, d2] }
  | _ => none }
def alertRunsRow : OpenClaim := { program := "ytlaknbcmidjiaaadoor", sum := "d33237d1e4fa8467c256f201093fd390176c3a5c2fc6d0696160ca10266e2ed9", func := "intervalmon/intervalmonlaw28.AlertRuns", spec := "alertRuns", unfollowed := true, recurses := true, named := ["intervalmon/alert.levels"], apart := false, laid := [("intervalmon/alert.levels", laid_intervalmon_alert_levels)] }
def AlertRunsSaid : Prop := alertRunsRow.holds Tryd.pinned (OpenSpec.ofChange alertRunsSpec)

/-- ITS FALSE NEIGHBOUR: 'it returns false'. Refute it at one input. -/
def alertRunsWrong : ChangeSpec := { name := "alertRuns", fn := fun _ => fun
  | [d1, d2] => { results := [.lit (.bool false)], args := [d1, d2] }
  | _ => none }
def AlertRunsWrongFalsely : Prop := alertRunsRow.holds Tryd.pinned (OpenSpec.ofChange alertRunsWrong)

/-- 'intervalmonlaw28.AlertLadder': WHATEVER THE INPUT: true; the input reads as it did. -/
def alertLadderSpec : ChangeSpec := { name := "alertLadder", fn := fun _ => fun
  | [d1, d2, d3] => { results := [.lit (.bool true)], args := [d1, d2, d3] }
  | _ => none }
def alertLadderRow : OpenClaim := { program := "ytlaknbcmidjiaaadoor", sum := "d33237d1e4fa8467c256f201093fd390176c3a5c2fc6d0696160ca10266e2ed9", func := "intervalmon/intervalmonlaw28.AlertLadder", spec := "alertLadder", unfollowed := true, recurses := true, named := ["intervalmon/alert.levels"], apart := false, laid := [("intervalmon/alert.levels", laid_intervalmon_alert_levels)] }
def AlertLadderSaid : Prop := alertLadderRow.holds Tryd.pinned (OpenSpec.ofChange alertLadderSpec)

/-- ITS FALSE NEIGHBOUR: 'it returns false'. Refute it at one input. -/
def alertLadderWrong : ChangeSpec := { name := "alertLadder", fn := fun _ => fun
  | [d1, d2, d3] => { results := [.lit (.bool false)], args := [d1, d2, d3] }
  | _ => none }
def AlertLadderWrongFalsely : Prop := alertLadderRow.holds Tryd.pinned (OpenSpec.ofChange alertLadderWrong)

/-- 'intervalmonlaw28.AlertNarrows': WHATEVER THE INPUT: true; the input reads as it did. -/
def alertNarrowsSpec : ChangeSpec := { name := "alertNarrows", fn := fun _ => fun
  | [d1, d2, d3, d4] => { results := [.lit (.bool true)], args := [d1, d2, d3, d4] }
  | _ => none }
def alertNarrowsRow : OpenClaim := { program := "ytlaknbcmidjiaaadoor", sum := "d33237d1e4fa8467c256f201093fd390176c3a5c2fc6d0696160ca10266e2ed9", func := "intervalmon/intervalmonlaw28.AlertNarrows", spec := "alertNarrows", inPlace := ["math/bits.Add64", "math/bits.Sub64"], unfollowed := true, recurses := true, named := ["intervalmon/alert.levels"], apart := false, laid := [("intervalmon/alert.levels", laid_intervalmon_alert_levels)] }
def AlertNarrowsSaid : Prop := alertNarrowsRow.holds Tryd.pinned (OpenSpec.ofChange alertNarrowsSpec)

/-- ITS FALSE NEIGHBOUR: 'it returns false'. Refute it at one input. -/
def alertNarrowsWrong : ChangeSpec := { name := "alertNarrows", fn := fun _ => fun
  | [d1, d2, d3, d4] => { results := [.lit (.bool false)], args := [d1, d2, d3, d4] }
  | _ => none }
def AlertNarrowsWrongFalsely : Prop := alertNarrowsRow.holds Tryd.pinned (OpenSpec.ofChange alertNarrowsWrong)

/- THE SECOND FORM. 'bulk': how many values and letters a reading holds, each counted each time it is reached (what is shared counts as often as it is met; a slice's spare places count too). A statement '..UptoSaid' is the law's where the arguments, and the package variables that the reading takes, are together of bulk at most 1048576: NARROWER than '..Said'. Prove '..Said' where nothing that the law and all that it calls make is longer than what came in: it says more and counts as full. Else prove '..UptoSaid'. A law counts once. -/
mutual
def uptoBulk {H : Type} : DataW H → Nat
  | .lit (.string bytes) => bytes.length + 1
  | .lit _ => 1
  | .nil => 1
  | .ptr d => uptoBulk d + 1
  | .slice elems spare => uptoBulkAll elems + uptoBulkAll spare + 1
  | .agg parts => uptoBulkAll parts + 1
  | .iface _ d => uptoBulk d + 1
  | .map entries => uptoBulkEntries entries + 1
  | .held _ => 1
def uptoBulkAll {H : Type} : List (DataW H) → Nat
  | [] => 0
  | d :: r => uptoBulk d + uptoBulkAll r
def uptoBulkEntries {H : Type} : List (Lit × DataW H) → Nat
  | [] => 0
  | x :: r => uptoBulkEntry x + uptoBulkEntries r
def uptoBulkEntry {H : Type} : Lit × DataW H → Nat
  | (.string bytes, d) => bytes.length + uptoBulk d + 1
  | (_, d) => uptoBulk d + 1
 end
def uptoSmall : (H : Type) → List (DataW H) → Bool := fun _ ds => decide (uptoBulkAll ds ≤ 1048576)
def OpenSpec.upto (s : _root_.Go.ChangeSpec) : _root_.Go.OpenSpec := { _root_.Go.OpenSpec.ofChange s with cond := some uptoSmall }

/-- 'intervalmonlaw28.AlertValid', WHERE WHAT IT READS IS OF BULK AT MOST 1048576: true; the input reads as it did. -/
def alertValidUptoRow : OpenClaim := { program := "ytlaknbcmidjiaaadoor", sum := "d33237d1e4fa8467c256f201093fd390176c3a5c2fc6d0696160ca10266e2ed9", func := "intervalmon/intervalmonlaw28.AlertValid", spec := "alertValid", unfollowed := true, recurses := true, named := ["intervalmon/alert.levels"], apart := false, laid := [("intervalmon/alert.levels", laid_intervalmon_alert_levels)], narrowed := true }
def AlertValidUptoSaid : Prop := alertValidUptoRow.holds Tryd.pinned (OpenSpec.upto alertValidSpec)

/-- 'intervalmonlaw28.AlertStep', WHERE WHAT IT READS IS OF BULK AT MOST 1048576: true; the input reads as it did. -/
def alertStepUptoRow : OpenClaim := { program := "ytlaknbcmidjiaaadoor", sum := "d33237d1e4fa8467c256f201093fd390176c3a5c2fc6d0696160ca10266e2ed9", func := "intervalmon/intervalmonlaw28.AlertStep", spec := "alertStep", unfollowed := true, recurses := true, named := ["intervalmon/alert.levels"], apart := false, laid := [("intervalmon/alert.levels", laid_intervalmon_alert_levels)], narrowed := true }
def AlertStepUptoSaid : Prop := alertStepUptoRow.holds Tryd.pinned (OpenSpec.upto alertStepSpec)

/-- 'intervalmonlaw28.AlertEscalate', WHERE WHAT IT READS IS OF BULK AT MOST 1048576: true; the input reads as it did. -/
def alertEscalateUptoRow : OpenClaim := { program := "ytlaknbcmidjiaaadoor", sum := "d33237d1e4fa8467c256f201093fd390176c3a5c2fc6d0696160ca10266e2ed9", func := "intervalmon/intervalmonlaw28.AlertEscalate", spec := "alertEscalate", unfollowed := true, recurses := true, named := ["intervalmon/alert.levels"], apart := false, laid := [("intervalmon/alert.levels", laid_intervalmon_alert_levels)], narrowed := true }
def AlertEscalateUptoSaid : Prop := alertEscalateUptoRow.holds Tryd.pinned (OpenSpec.upto alertEscalateSpec)

/-- 'intervalmonlaw28.AlertHysteresis', WHERE WHAT IT READS IS OF BULK AT MOST 1048576: true; the input reads as it did. -/
def alertHysteresisUptoRow : OpenClaim := { program := "ytlaknbcmidjiaaadoor", sum := "d33237d1e4fa8467c256f201093fd390176c3a5c2fc6d0696160ca10266e2ed9", func := "intervalmon/intervalmonlaw28.AlertHysteresis", spec := "alertHysteresis", unfollowed := true, recurses := true, named := ["intervalmon/alert.levels"], apart := false, laid := [("intervalmon/alert.levels", laid_intervalmon_alert_levels)], narrowed := true }
def AlertHysteresisUptoSaid : Prop := alertHysteresisUptoRow.holds Tryd.pinned (OpenSpec.upto alertHysteresisSpec)

/-- 'intervalmonlaw28.AlertTruths', WHERE WHAT IT READS IS OF BULK AT MOST 1048576: true; the input reads as it did. -/
def alertTruthsUptoRow : OpenClaim := { program := "ytlaknbcmidjiaaadoor", sum := "d33237d1e4fa8467c256f201093fd390176c3a5c2fc6d0696160ca10266e2ed9", func := "intervalmon/intervalmonlaw28.AlertTruths", spec := "alertTruths", unfollowed := true, recurses := true, named := ["intervalmon/alert.levels"], apart := false, laid := [("intervalmon/alert.levels", laid_intervalmon_alert_levels)], narrowed := true }
def AlertTruthsUptoSaid : Prop := alertTruthsUptoRow.holds Tryd.pinned (OpenSpec.upto alertTruthsSpec)

/-- 'intervalmonlaw28.AlertOnce', WHERE WHAT IT READS IS OF BULK AT MOST 1048576: true; the input reads as it did. -/
def alertOnceUptoRow : OpenClaim := { program := "ytlaknbcmidjiaaadoor", sum := "d33237d1e4fa8467c256f201093fd390176c3a5c2fc6d0696160ca10266e2ed9", func := "intervalmon/intervalmonlaw28.AlertOnce", spec := "alertOnce", unfollowed := true, recurses := true, named := ["intervalmon/alert.levels"], apart := false, laid := [("intervalmon/alert.levels", laid_intervalmon_alert_levels)], narrowed := true }
def AlertOnceUptoSaid : Prop := alertOnceUptoRow.holds Tryd.pinned (OpenSpec.upto alertOnceSpec)

/-- 'intervalmonlaw28.AlertAck', WHERE WHAT IT READS IS OF BULK AT MOST 1048576: true; the input reads as it did. -/
def alertAckUptoRow : OpenClaim := { program := "ytlaknbcmidjiaaadoor", sum := "d33237d1e4fa8467c256f201093fd390176c3a5c2fc6d0696160ca10266e2ed9", func := "intervalmon/intervalmonlaw28.AlertAck", spec := "alertAck", unfollowed := true, recurses := true, named := ["intervalmon/alert.levels"], apart := false, laid := [("intervalmon/alert.levels", laid_intervalmon_alert_levels)], narrowed := true }
def AlertAckUptoSaid : Prop := alertAckUptoRow.holds Tryd.pinned (OpenSpec.upto alertAckSpec)

/-- 'intervalmonlaw28.AlertRuns', WHERE WHAT IT READS IS OF BULK AT MOST 1048576: true; the input reads as it did. -/
def alertRunsUptoRow : OpenClaim := { program := "ytlaknbcmidjiaaadoor", sum := "d33237d1e4fa8467c256f201093fd390176c3a5c2fc6d0696160ca10266e2ed9", func := "intervalmon/intervalmonlaw28.AlertRuns", spec := "alertRuns", unfollowed := true, recurses := true, named := ["intervalmon/alert.levels"], apart := false, laid := [("intervalmon/alert.levels", laid_intervalmon_alert_levels)], narrowed := true }
def AlertRunsUptoSaid : Prop := alertRunsUptoRow.holds Tryd.pinned (OpenSpec.upto alertRunsSpec)

/-- 'intervalmonlaw28.AlertLadder', WHERE WHAT IT READS IS OF BULK AT MOST 1048576: true; the input reads as it did. -/
def alertLadderUptoRow : OpenClaim := { program := "ytlaknbcmidjiaaadoor", sum := "d33237d1e4fa8467c256f201093fd390176c3a5c2fc6d0696160ca10266e2ed9", func := "intervalmon/intervalmonlaw28.AlertLadder", spec := "alertLadder", unfollowed := true, recurses := true, named := ["intervalmon/alert.levels"], apart := false, laid := [("intervalmon/alert.levels", laid_intervalmon_alert_levels)], narrowed := true }
def AlertLadderUptoSaid : Prop := alertLadderUptoRow.holds Tryd.pinned (OpenSpec.upto alertLadderSpec)

/-- 'intervalmonlaw28.AlertNarrows', WHERE WHAT IT READS IS OF BULK AT MOST 1048576: true; the input reads as it did. -/
def alertNarrowsUptoRow : OpenClaim := { program := "ytlaknbcmidjiaaadoor", sum := "d33237d1e4fa8467c256f201093fd390176c3a5c2fc6d0696160ca10266e2ed9", func := "intervalmon/intervalmonlaw28.AlertNarrows", spec := "alertNarrows", inPlace := ["math/bits.Add64", "math/bits.Sub64"], unfollowed := true, recurses := true, named := ["intervalmon/alert.levels"], apart := false, laid := [("intervalmon/alert.levels", laid_intervalmon_alert_levels)], narrowed := true }
def AlertNarrowsUptoSaid : Prop := alertNarrowsUptoRow.holds Tryd.pinned (OpenSpec.upto alertNarrowsSpec)

end Rows
end Go.Proofs.YtlaknbcmidjiaaaDoor
