/-
  No cell of these rows narrows 'for every input' (looked for: loops, veiled, ifaces, maps, wideKeys, modest, calm, conditions, laid).
  DERIVED. THE GIVEN ROWS OF THIS SEAT. 12 by the template 'for every input the law returns true; each argument reads behind the call as it read before'; 0 by the template 'total and deterministic' (their statements: YticeepbpgmidlaaTotals.lean).
  GIVEN WITH THE SEED: the statements are not yours to turn. If you find one false, say at which input.
  Laid BY PROGRAM, IN A SANDBOX (cutbox-rows.mjs): the forced cells as the released guide's own fill.sh prints them over the translation 7660e51296510ca4… (all of the seat's roots in one cut). By AI agents, Wed Nov 11 2026. No macro, syntax, notation, axiom, sorry.
-/
import Derived.Test.YticeepbpgmidlaaChecked
import GoSem.Claim
import GoSem.ClaimJoined
import GoSem.ClaimMapViews
import Derived.JoinedTies
import Derived.KernelRfl
namespace Go.Proofs.Yticeepbpgmidlaa
/- THE CELL 'sum', in the pinned program and in every row, IS THE sha256 OF THE DUMP (.gsa) THAT YticeepbpgmidlaaProg.lean LOADS. Nothing in Lean hashes anything: it is a label: what it is worth is what the hold of that sum in a sandbox is worth. -/
noncomputable def Try.pinned : Pinned := { name := "yticeepbpgmidlaa", sum := "7660e51296510ca4269b6283995d5aa756f0a106f6d74520908b72c247360014", checked := Try.checked }
namespace Rows
def none {H : Type} : Left H := { results := [], args := [] }

/-- 'laws.FnExactWheelAfter': WHATEVER THE INPUT: true; the input reads as it did. -/
def fnExactWheelAfterSpec : ChangeSpec := { name := "fnExactWheelAfter", fn := fun _ => fun
  | [d1, d2] => { results := [.lit (.bool true)], args := [d1, d2] }
  | _ => none }
def fnExactWheelAfterRow : OpenClaim := { program := "yticeepbpgmidlaa", sum := "7660e51296510ca4269b6283995d5aa756f0a106f6d74520908b72c247360014", func := "loop.example/g01208/laws.FnExactWheelAfter", spec := "fnExactWheelAfter", plainKeys := false, apart := false }
def FnExactWheelAfterSaid : Prop := fnExactWheelAfterRow.holds Try.pinned (OpenSpec.ofChange fnExactWheelAfterSpec)

/-- ITS FALSE NEIGHBOUR: 'it returns false'. Refute it at one input. -/
def fnExactWheelAfterWrong : ChangeSpec := { name := "fnExactWheelAfter", fn := fun _ => fun
  | [d1, d2] => { results := [.lit (.bool false)], args := [d1, d2] }
  | _ => none }
def FnExactWheelAfterWrongFalsely : Prop := fnExactWheelAfterRow.holds Try.pinned (OpenSpec.ofChange fnExactWheelAfterWrong)

/-- 'laws.FnExactFirstMeeting': WHATEVER THE INPUT: true; the input reads as it did. -/
def fnExactFirstMeetingSpec : ChangeSpec := { name := "fnExactFirstMeeting", fn := fun _ => fun
  | [d1, d2] => { results := [.lit (.bool true)], args := [d1, d2] }
  | _ => none }
def fnExactFirstMeetingRow : OpenClaim := { program := "yticeepbpgmidlaa", sum := "7660e51296510ca4269b6283995d5aa756f0a106f6d74520908b72c247360014", func := "loop.example/g01208/laws.FnExactFirstMeeting", spec := "fnExactFirstMeeting", plainKeys := false, apart := false }
def FnExactFirstMeetingSaid : Prop := fnExactFirstMeetingRow.holds Try.pinned (OpenSpec.ofChange fnExactFirstMeetingSpec)

/-- ITS FALSE NEIGHBOUR: 'it returns false'. Refute it at one input. -/
def fnExactFirstMeetingWrong : ChangeSpec := { name := "fnExactFirstMeeting", fn := fun _ => fun
  | [d1, d2] => { results := [.lit (.bool false)], args := [d1, d2] }
  | _ => none }
def FnExactFirstMeetingWrongFalsely : Prop := fnExactFirstMeetingRow.holds Try.pinned (OpenSpec.ofChange fnExactFirstMeetingWrong)

/-- 'laws.FnExactTimeToEmpty': WHATEVER THE INPUT: true; the input reads as it did. -/
def fnExactTimeToEmptySpec : ChangeSpec := { name := "fnExactTimeToEmpty", fn := fun _ => fun
  | [d] => { results := [.lit (.bool true)], args := [d] }
  | _ => none }
def fnExactTimeToEmptyRow : OpenClaim := { program := "yticeepbpgmidlaa", sum := "7660e51296510ca4269b6283995d5aa756f0a106f6d74520908b72c247360014", func := "loop.example/g01208/laws.FnExactTimeToEmpty", spec := "fnExactTimeToEmpty", plainKeys := false, apart := false }
def FnExactTimeToEmptySaid : Prop := fnExactTimeToEmptyRow.holds Try.pinned (OpenSpec.ofChange fnExactTimeToEmptySpec)

/-- ITS FALSE NEIGHBOUR: 'it returns false'. Refute it at one input. -/
def fnExactTimeToEmptyWrong : ChangeSpec := { name := "fnExactTimeToEmpty", fn := fun _ => fun
  | [d] => { results := [.lit (.bool false)], args := [d] }
  | _ => none }
def FnExactTimeToEmptyWrongFalsely : Prop := fnExactTimeToEmptyRow.holds Try.pinned (OpenSpec.ofChange fnExactTimeToEmptyWrong)

/-- 'laws.FnExactLeastLevelFor': WHATEVER THE INPUT: true; the input reads as it did. -/
def fnExactLeastLevelForSpec : ChangeSpec := { name := "fnExactLeastLevelFor", fn := fun _ => fun
  | [d1, d2] => { results := [.lit (.bool true)], args := [d1, d2] }
  | _ => none }
def fnExactLeastLevelForRow : OpenClaim := { program := "yticeepbpgmidlaa", sum := "7660e51296510ca4269b6283995d5aa756f0a106f6d74520908b72c247360014", func := "loop.example/g01208/laws.FnExactLeastLevelFor", spec := "fnExactLeastLevelFor", plainKeys := false, apart := false }
def FnExactLeastLevelForSaid : Prop := fnExactLeastLevelForRow.holds Try.pinned (OpenSpec.ofChange fnExactLeastLevelForSpec)

/-- ITS FALSE NEIGHBOUR: 'it returns false'. Refute it at one input. -/
def fnExactLeastLevelForWrong : ChangeSpec := { name := "fnExactLeastLevelFor", fn := fun _ => fun
  | [d1, d2] => { results := [.lit (.bool false)], args := [d1, d2] }
  | _ => none }
def FnExactLeastLevelForWrongFalsely : Prop := fnExactLeastLevelForRow.holds Try.pinned (OpenSpec.ofChange fnExactLeastLevelForWrong)

/-- 'laws.FnExactTimeOfLevel': WHATEVER THE INPUT: true; the input reads as it did. -/
def fnExactTimeOfLevelSpec : ChangeSpec := { name := "fnExactTimeOfLevel", fn := fun _ => fun
  | [d1, d2] => { results := [.lit (.bool true)], args := [d1, d2] }
  | _ => none }
def fnExactTimeOfLevelRow : OpenClaim := { program := "yticeepbpgmidlaa", sum := "7660e51296510ca4269b6283995d5aa756f0a106f6d74520908b72c247360014", func := "loop.example/g01208/laws.FnExactTimeOfLevel", spec := "fnExactTimeOfLevel", plainKeys := false, apart := false }
def FnExactTimeOfLevelSaid : Prop := fnExactTimeOfLevelRow.holds Try.pinned (OpenSpec.ofChange fnExactTimeOfLevelSpec)

/-- ITS FALSE NEIGHBOUR: 'it returns false'. Refute it at one input. -/
def fnExactTimeOfLevelWrong : ChangeSpec := { name := "fnExactTimeOfLevel", fn := fun _ => fun
  | [d1, d2] => { results := [.lit (.bool false)], args := [d1, d2] }
  | _ => none }
def FnExactTimeOfLevelWrongFalsely : Prop := fnExactTimeOfLevelRow.holds Try.pinned (OpenSpec.ofChange fnExactTimeOfLevelWrong)

/-- 'laws.FnExactClockAfter': WHATEVER THE INPUT: true; the input reads as it did. -/
def fnExactClockAfterSpec : ChangeSpec := { name := "fnExactClockAfter", fn := fun _ => fun
  | [d1, d2] => { results := [.lit (.bool true)], args := [d1, d2] }
  | _ => none }
def fnExactClockAfterRow : OpenClaim := { program := "yticeepbpgmidlaa", sum := "7660e51296510ca4269b6283995d5aa756f0a106f6d74520908b72c247360014", func := "loop.example/g01208/laws.FnExactClockAfter", spec := "fnExactClockAfter", plainKeys := false, apart := false }
def FnExactClockAfterSaid : Prop := fnExactClockAfterRow.holds Try.pinned (OpenSpec.ofChange fnExactClockAfterSpec)

/-- ITS FALSE NEIGHBOUR: 'it returns false'. Refute it at one input. -/
def fnExactClockAfterWrong : ChangeSpec := { name := "fnExactClockAfter", fn := fun _ => fun
  | [d1, d2] => { results := [.lit (.bool false)], args := [d1, d2] }
  | _ => none }
def FnExactClockAfterWrongFalsely : Prop := fnExactClockAfterRow.holds Try.pinned (OpenSpec.ofChange fnExactClockAfterWrong)

/-- 'laws.FnExactScaleEvents': WHATEVER THE INPUT: true; the input reads as it did. -/
def fnExactScaleEventsSpec : ChangeSpec := { name := "fnExactScaleEvents", fn := fun _ => fun
  | [d1, d2] => { results := [.lit (.bool true)], args := [d1, d2] }
  | _ => none }
def fnExactScaleEventsRow : OpenClaim := { program := "yticeepbpgmidlaa", sum := "7660e51296510ca4269b6283995d5aa756f0a106f6d74520908b72c247360014", func := "loop.example/g01208/laws.FnExactScaleEvents", spec := "fnExactScaleEvents", plainKeys := false, apart := false }
def FnExactScaleEventsSaid : Prop := fnExactScaleEventsRow.holds Try.pinned (OpenSpec.ofChange fnExactScaleEventsSpec)

/-- ITS FALSE NEIGHBOUR: 'it returns false'. Refute it at one input. -/
def fnExactScaleEventsWrong : ChangeSpec := { name := "fnExactScaleEvents", fn := fun _ => fun
  | [d1, d2] => { results := [.lit (.bool false)], args := [d1, d2] }
  | _ => none }
def FnExactScaleEventsWrongFalsely : Prop := fnExactScaleEventsRow.holds Try.pinned (OpenSpec.ofChange fnExactScaleEventsWrong)

/-- 'laws.FnExactTimesOfScoop': WHATEVER THE INPUT: true; the input reads as it did. -/
def fnExactTimesOfScoopSpec : ChangeSpec := { name := "fnExactTimesOfScoop", fn := fun _ => fun
  | [d1, d2, d3] => { results := [.lit (.bool true)], args := [d1, d2, d3] }
  | _ => none }
def fnExactTimesOfScoopRow : OpenClaim := { program := "yticeepbpgmidlaa", sum := "7660e51296510ca4269b6283995d5aa756f0a106f6d74520908b72c247360014", func := "loop.example/g01208/laws.FnExactTimesOfScoop", spec := "fnExactTimesOfScoop", plainKeys := false, apart := false }
def FnExactTimesOfScoopSaid : Prop := fnExactTimesOfScoopRow.holds Try.pinned (OpenSpec.ofChange fnExactTimesOfScoopSpec)

/-- ITS FALSE NEIGHBOUR: 'it returns false'. Refute it at one input. -/
def fnExactTimesOfScoopWrong : ChangeSpec := { name := "fnExactTimesOfScoop", fn := fun _ => fun
  | [d1, d2, d3] => { results := [.lit (.bool false)], args := [d1, d2, d3] }
  | _ => none }
def FnExactTimesOfScoopWrongFalsely : Prop := fnExactTimesOfScoopRow.holds Try.pinned (OpenSpec.ofChange fnExactTimesOfScoopWrong)

/-- 'laws.FnExactFirstDesk': WHATEVER THE INPUT: true; the input reads as it did. -/
def fnExactFirstDeskSpec : ChangeSpec := { name := "fnExactFirstDesk", fn := fun _ => fun
  | [] => { results := [.lit (.bool true)], args := [] }
  | _ => none }
def fnExactFirstDeskRow : OpenClaim := { program := "yticeepbpgmidlaa", sum := "7660e51296510ca4269b6283995d5aa756f0a106f6d74520908b72c247360014", func := "loop.example/g01208/laws.FnExactFirstDesk", spec := "fnExactFirstDesk", plainKeys := false, apart := false }
def FnExactFirstDeskSaid : Prop := fnExactFirstDeskRow.holds Try.pinned (OpenSpec.ofChange fnExactFirstDeskSpec)

/-- ITS FALSE NEIGHBOUR: 'it returns false'. Refute it at one input. -/
def fnExactFirstDeskWrong : ChangeSpec := { name := "fnExactFirstDesk", fn := fun _ => fun
  | [] => { results := [.lit (.bool false)], args := [] }
  | _ => none }
def FnExactFirstDeskWrongFalsely : Prop := fnExactFirstDeskRow.holds Try.pinned (OpenSpec.ofChange fnExactFirstDeskWrong)

/-- 'laws.FnExactLevelsOfClock': WHATEVER THE INPUT: true; the input reads as it did. -/
def fnExactLevelsOfClockSpec : ChangeSpec := { name := "fnExactLevelsOfClock", fn := fun _ => fun
  | [d] => { results := [.lit (.bool true)], args := [d] }
  | _ => none }
def fnExactLevelsOfClockRow : OpenClaim := { program := "yticeepbpgmidlaa", sum := "7660e51296510ca4269b6283995d5aa756f0a106f6d74520908b72c247360014", func := "loop.example/g01208/laws.FnExactLevelsOfClock", spec := "fnExactLevelsOfClock", plainKeys := false, apart := false }
def FnExactLevelsOfClockSaid : Prop := fnExactLevelsOfClockRow.holds Try.pinned (OpenSpec.ofChange fnExactLevelsOfClockSpec)

/-- ITS FALSE NEIGHBOUR: 'it returns false'. Refute it at one input. -/
def fnExactLevelsOfClockWrong : ChangeSpec := { name := "fnExactLevelsOfClock", fn := fun _ => fun
  | [d] => { results := [.lit (.bool false)], args := [d] }
  | _ => none }
def FnExactLevelsOfClockWrongFalsely : Prop := fnExactLevelsOfClockRow.holds Try.pinned (OpenSpec.ofChange fnExactLevelsOfClockWrong)

/-- 'laws.FnExactPeriodOfScale': WHATEVER THE INPUT: true; the input reads as it did. -/
def fnExactPeriodOfScaleSpec : ChangeSpec := { name := "fnExactPeriodOfScale", fn := fun _ => fun
  | [d] => { results := [.lit (.bool true)], args := [d] }
  | _ => none }
def fnExactPeriodOfScaleRow : OpenClaim := { program := "yticeepbpgmidlaa", sum := "7660e51296510ca4269b6283995d5aa756f0a106f6d74520908b72c247360014", func := "loop.example/g01208/laws.FnExactPeriodOfScale", spec := "fnExactPeriodOfScale", plainKeys := false, apart := false }
def FnExactPeriodOfScaleSaid : Prop := fnExactPeriodOfScaleRow.holds Try.pinned (OpenSpec.ofChange fnExactPeriodOfScaleSpec)

/-- ITS FALSE NEIGHBOUR: 'it returns false'. Refute it at one input. -/
def fnExactPeriodOfScaleWrong : ChangeSpec := { name := "fnExactPeriodOfScale", fn := fun _ => fun
  | [d] => { results := [.lit (.bool false)], args := [d] }
  | _ => none }
def FnExactPeriodOfScaleWrongFalsely : Prop := fnExactPeriodOfScaleRow.holds Try.pinned (OpenSpec.ofChange fnExactPeriodOfScaleWrong)

/-- 'laws.FnExactMarksOf': WHATEVER THE INPUT: true; the input reads as it did. -/
def fnExactMarksOfSpec : ChangeSpec := { name := "fnExactMarksOf", fn := fun _ => fun
  | [d1, d2] => { results := [.lit (.bool true)], args := [d1, d2] }
  | _ => none }
def fnExactMarksOfRow : OpenClaim := { program := "yticeepbpgmidlaa", sum := "7660e51296510ca4269b6283995d5aa756f0a106f6d74520908b72c247360014", func := "loop.example/g01208/laws.FnExactMarksOf", spec := "fnExactMarksOf", plainKeys := false, apart := false }
def FnExactMarksOfSaid : Prop := fnExactMarksOfRow.holds Try.pinned (OpenSpec.ofChange fnExactMarksOfSpec)

/-- ITS FALSE NEIGHBOUR: 'it returns false'. Refute it at one input. -/
def fnExactMarksOfWrong : ChangeSpec := { name := "fnExactMarksOf", fn := fun _ => fun
  | [d1, d2] => { results := [.lit (.bool false)], args := [d1, d2] }
  | _ => none }
def FnExactMarksOfWrongFalsely : Prop := fnExactMarksOfRow.holds Try.pinned (OpenSpec.ofChange fnExactMarksOfWrong)

/- THE SECOND FORM. 'bulk': how many values and letters a reading holds, each counted each time it is reached (what is shared counts as often as it is met; a slice's spare places count too). A statement '..UptoSaid' is the law's where the arguments, and the package variables that the reading takes, are together of bulk at most 1048576: NARROWER than '..Said'. Prove '..Said' where nothing that the law and all that it calls make is longer than what came in: it says more and counts as full. Else prove '..UptoSaid'. A law counts once. -/
mutual
def uptoBulk {H : Type} : DataW H → Nat
  | .lit (.string bytes) => bytes.length + 1
  | .lit _ => 1
  | .nil => 1
  | .ptr d => uptoBulk d + 1
  | .slice elems spare => uptoBulkAll elems + uptoBulkAll spare + 1
  | .agg parts => uptoBulkAll parts + 1
  | .iface _ d => uptoBulk d + 1
  | .map entries => uptoBulkEntries entries + 1
  | .held _ => 1
def uptoBulkAll {H : Type} : List (DataW H) → Nat
  | [] => 0
  | d :: r => uptoBulk d + uptoBulkAll r
def uptoBulkEntries {H : Type} : List (Lit × DataW H) → Nat
  | [] => 0
  | x :: r => uptoBulkEntry x + uptoBulkEntries r
def uptoBulkEntry {H : Type} : Lit × DataW H → Nat
  | (.string bytes, d) => bytes.length + uptoBulk d + 1
  | (_, d) => uptoBulk d + 1
 end
def uptoSmall : (H : Type) → List (DataW H) → Bool := fun _ ds => decide (uptoBulkAll ds ≤ 1048576)
def OpenSpec.upto (s : _root_.Go.ChangeSpec) : _root_.Go.OpenSpec := { _root_.Go.OpenSpec.ofChange s with cond := some uptoSmall }

/-- 'laws.FnExactWheelAfter', WHERE WHAT IT READS IS OF BULK AT MOST 1048576: true; the input reads as it did. -/
def fnExactWheelAfterUptoRow : OpenClaim := { program := "yticeepbpgmidlaa", sum := "7660e51296510ca4269b6283995d5aa756f0a106f6d74520908b72c247360014", func := "loop.example/g01208/laws.FnExactWheelAfter", spec := "fnExactWheelAfter", plainKeys := false, apart := false, narrowed := true }
def FnExactWheelAfterUptoSaid : Prop := fnExactWheelAfterUptoRow.holds Try.pinned (OpenSpec.upto fnExactWheelAfterSpec)

/-- 'laws.FnExactFirstMeeting', WHERE WHAT IT READS IS OF BULK AT MOST 1048576: true; the input reads as it did. -/
def fnExactFirstMeetingUptoRow : OpenClaim := { program := "yticeepbpgmidlaa", sum := "7660e51296510ca4269b6283995d5aa756f0a106f6d74520908b72c247360014", func := "loop.example/g01208/laws.FnExactFirstMeeting", spec := "fnExactFirstMeeting", plainKeys := false, apart := false, narrowed := true }
def FnExactFirstMeetingUptoSaid : Prop := fnExactFirstMeetingUptoRow.holds Try.pinned (OpenSpec.upto fnExactFirstMeetingSpec)

/-- 'laws.FnExactTimeToEmpty', WHERE WHAT IT READS IS OF BULK AT MOST 1048576: true; the input reads as it did. -/
def fnExactTimeToEmptyUptoRow : OpenClaim := { program := "yticeepbpgmidlaa", sum := "7660e51296510ca4269b6283995d5aa756f0a106f6d74520908b72c247360014", func := "loop.example/g01208/laws.FnExactTimeToEmpty", spec := "fnExactTimeToEmpty", plainKeys := false, apart := false, narrowed := true }
def FnExactTimeToEmptyUptoSaid : Prop := fnExactTimeToEmptyUptoRow.holds Try.pinned (OpenSpec.upto fnExactTimeToEmptySpec)

/-- 'laws.FnExactLeastLevelFor', WHERE WHAT IT READS IS OF BULK AT MOST 1048576: true; the input reads as it did. -/
def fnExactLeastLevelForUptoRow : OpenClaim := { program := "yticeepbpgmidlaa", sum := "7660e51296510ca4269b6283995d5aa756f0a106f6d74520908b72c247360014", func := "loop.example/g01208/laws.FnExactLeastLevelFor", spec := "fnExactLeastLevelFor", plainKeys := false, apart := false, narrowed := true }
def FnExactLeastLevelForUptoSaid : Prop := fnExactLeastLevelForUptoRow.holds Try.pinned (OpenSpec.upto fnExactLeastLevelForSpec)

/-- 'laws.FnExactTimeOfLevel', WHERE WHAT IT READS IS OF BULK AT MOST 1048576: true; the input reads as it did. -/
def fnExactTimeOfLevelUptoRow : OpenClaim := { program := "yticeepbpgmidlaa", sum := "7660e51296510ca4269b6283995d5aa756f0a106f6d74520908b72c247360014", func := "loop.example/g01208/laws.FnExactTimeOfLevel", spec := "fnExactTimeOfLevel", plainKeys := false, apart := false, narrowed := true }
def FnExactTimeOfLevelUptoSaid : Prop := fnExactTimeOfLevelUptoRow.holds Try.pinned (OpenSpec.upto fnExactTimeOfLevelSpec)

/-- 'laws.FnExactClockAfter', WHERE WHAT IT READS IS OF BULK AT MOST 1048576: true; the input reads as it did. -/
def fnExactClockAfterUptoRow : OpenClaim := { program := "yticeepbpgmidlaa", sum := "7660e51296510ca4269b6283995d5aa756f0a106f6d74520908b72c247360014", func := "loop.example/g01208/laws.FnExactClockAfter", spec := "fnExactClockAfter", plainKeys := false, apart := false, narrowed := true }
def FnExactClockAfterUptoSaid : Prop := fnExactClockAfterUptoRow.holds Try.pinned (OpenSpec.upto fnExactClockAfterSpec)

/-- 'laws.FnExactScaleEvents', WHERE WHAT IT READS IS OF BULK AT MOST 1048576: true; the input reads as it did. -/
def fnExactScaleEventsUptoRow : OpenClaim := { program := "yticeepbpgmidlaa", sum := "7660e51296510ca4269b6283995d5aa756f0a106f6d74520908b72c247360014", func := "loop.example/g01208/laws.FnExactScaleEvents", spec := "fnExactScaleEvents", plainKeys := false, apart := false, narrowed := true }
def FnExactScaleEventsUptoSaid : Prop := fnExactScaleEventsUptoRow.holds Try.pinned (OpenSpec.upto fnExactScaleEventsSpec)

/-- 'laws.FnExactTimesOfScoop', WHERE WHAT IT READS IS OF BULK AT MOST 1048576: true; the input reads as it did. -/
def fnExactTimesOfScoopUptoRow : OpenClaim := { program := "yticeepbpgmidlaa", sum := "7660e51296510ca4269b6283995d5aa756f0a106f6d74520908b72c247360014", func := "loop.example/g01208/laws.FnExactTimesOfScoop", spec := "fnExactTimesOfScoop", plainKeys := false, apart := false, narrowed := true }
def FnExactTimesOfScoopUptoSaid : Prop := fnExactTimesOfScoopUptoRow.holds Try.pinned (OpenSpec.upto fnExactTimesOfScoopSpec)

/-- 'laws.FnExactFirstDesk', WHERE WHAT IT READS IS OF BULK AT MOST 1048576: true; the input reads as it did. -/
def fnExactFirstDeskUptoRow : OpenClaim := { program := "yticeepbpgmidlaa", sum := "7660e51296510ca4269b6283995d5aa756f0a106f6d74520908b72c247360014", func := "loop.example/g01208/laws.FnExactFirstDesk", spec := "fnExactFirstDesk", plainKeys := false, apart := false, narrowed := true }
def FnExactFirstDeskUptoSaid : Prop := fnExactFirstDeskUptoRow.holds Try.pinned (OpenSpec.upto fnExactFirstDeskSpec)

/-- 'laws.FnExactLevelsOfClock', WHERE WHAT IT READS IS OF BULK AT MOST 1048576: true; the input reads as it did. -/
def fnExactLevelsOfClockUptoRow : OpenClaim := { program := "yticeepbpgmidlaa", sum := "7660e51296510ca4269b6283995d5aa756f0a106f6d74520908b72c247360014", func := "loop.example/g01208/laws.FnExactLevelsOfClock", spec := "fnExactLevelsOfClock", plainKeys := false, apart := false, narrowed := true }
def FnExactLevelsOfClockUptoSaid : Prop := fnExactLevelsOfClockUptoRow.holds Try.pinned (OpenSpec.upto fnExactLevelsOfClockSpec)

/-- 'laws.FnExactPeriodOfScale', WHERE WHAT IT READS IS OF BULK AT MOST 1048576: true; the input reads as it did. -/
def fnExactPeriodOfScaleUptoRow : OpenClaim := { program := "yticeepbpgmidlaa", sum := "7660e51296510ca4269b6283995d5aa756f0a106f6d74520908b72c247360014", func := "loop.example/g01208/laws.FnExactPeriodOfScale", spec := "fnExactPeriodOfScale", plainKeys := false, apart := false, narrowed := true }
def FnExactPeriodOfScaleUptoSaid : Prop := fnExactPeriodOfScaleUptoRow.holds Try.pinned (OpenSpec.upto fnExactPeriodOfScaleSpec)

/-- 'laws.FnExactMarksOf', WHERE WHAT IT READS IS OF BULK AT MOST 1048576: true; the input reads as it did. -/
def fnExactMarksOfUptoRow : OpenClaim := { program := "yticeepbpgmidlaa", sum := "7660e51296510ca4269b6283995d5aa756f0a106f6d74520908b72c247360014", func := "loop.example/g01208/laws.FnExactMarksOf", spec := "fnExactMarksOf", plainKeys := false, apart := false, narrowed := true }
def FnExactMarksOfUptoSaid : Prop := fnExactMarksOfUptoRow.holds Try.pinned (OpenSpec.upto fnExactMarksOfSpec)

end Rows
end Go.Proofs.Yticeepbpgmidlaa
