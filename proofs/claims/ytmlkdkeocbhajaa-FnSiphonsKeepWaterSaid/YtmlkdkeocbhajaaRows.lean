/-
  No cell of these rows narrows 'for every input' (looked for: loops, veiled, ifaces, maps, wideKeys, modest, calm, conditions, laid).
  DERIVED. THE GIVEN ROWS OF THIS SEAT. 7 by the template 'for every input the law returns true; each argument reads behind the call as it read before'; 0 by the template 'total and deterministic' (their statements: YtmlkdkeocbhajaaTotals.lean).
  GIVEN WITH THE SEED: the statements are not yours to turn. If you find one false, say at which input.
  Laid BY PROGRAM, IN A SANDBOX (cutbox-rows.mjs): the forced cells as the released guide's own fill.sh prints them over the translation b90a6153dafd41bc… (all of the seat's roots in one cut). By AI agents, Wed Nov 11 2026. No macro, syntax, notation, axiom, sorry.
-/
import Derived.Test.YtmlkdkeocbhajaaChecked
import GoSem.Claim
import GoSem.ClaimJoined
import GoSem.ClaimMapViews
import Derived.JoinedTies
import Derived.KernelRfl
namespace Go.Proofs.Ytmlkdkeocbhajaa
/- THE CELL 'sum', in the pinned program and in every row, IS THE sha256 OF THE DUMP (.gsa) THAT YtmlkdkeocbhajaaProg.lean LOADS. Nothing in Lean hashes anything: it is a label: what it is worth is what the hold of that sum in a sandbox is worth. -/
noncomputable def Try.pinned : Pinned := { name := "ytmlkdkeocbhajaa", sum := "b90a6153dafd41bc9077ec45b8b7ca0f9a455bce5eb31d99f0db24710d4ee004", checked := Try.checked }
namespace Rows
def none {H : Type} : Left H := { results := [], args := [] }

/-- 'laws.FnWheelsAndScales': WHATEVER THE INPUT: true; the input reads as it did. -/
def fnWheelsAndScalesSpec : ChangeSpec := { name := "fnWheelsAndScales", fn := fun _ => fun
  | [d1, d2] => { results := [.lit (.bool true)], args := [d1, d2] }
  | _ => none }
def fnWheelsAndScalesRow : OpenClaim := { program := "ytmlkdkeocbhajaa", sum := "b90a6153dafd41bc9077ec45b8b7ca0f9a455bce5eb31d99f0db24710d4ee004", func := "loop.example/g01208/laws.FnWheelsAndScales", spec := "fnWheelsAndScales", plainKeys := false, apart := false }
def FnWheelsAndScalesSaid : Prop := fnWheelsAndScalesRow.holds Try.pinned (OpenSpec.ofChange fnWheelsAndScalesSpec)

/-- ITS FALSE NEIGHBOUR: 'it returns false'. Refute it at one input. -/
def fnWheelsAndScalesWrong : ChangeSpec := { name := "fnWheelsAndScales", fn := fun _ => fun
  | [d1, d2] => { results := [.lit (.bool false)], args := [d1, d2] }
  | _ => none }
def FnWheelsAndScalesWrongFalsely : Prop := fnWheelsAndScalesRow.holds Try.pinned (OpenSpec.ofChange fnWheelsAndScalesWrong)

/-- 'laws.FnClocksRun': WHATEVER THE INPUT: true; the input reads as it did. -/
def fnClocksRunSpec : ChangeSpec := { name := "fnClocksRun", fn := fun _ => fun
  | [d1, d2] => { results := [.lit (.bool true)], args := [d1, d2] }
  | _ => none }
def fnClocksRunRow : OpenClaim := { program := "ytmlkdkeocbhajaa", sum := "b90a6153dafd41bc9077ec45b8b7ca0f9a455bce5eb31d99f0db24710d4ee004", func := "loop.example/g01208/laws.FnClocksRun", spec := "fnClocksRun", plainKeys := false, apart := false }
def FnClocksRunSaid : Prop := fnClocksRunRow.holds Try.pinned (OpenSpec.ofChange fnClocksRunSpec)

/-- ITS FALSE NEIGHBOUR: 'it returns false'. Refute it at one input. -/
def fnClocksRunWrong : ChangeSpec := { name := "fnClocksRun", fn := fun _ => fun
  | [d1, d2] => { results := [.lit (.bool false)], args := [d1, d2] }
  | _ => none }
def FnClocksRunWrongFalsely : Prop := fnClocksRunRow.holds Try.pinned (OpenSpec.ofChange fnClocksRunWrong)

/-- 'laws.FnRainMeasured': WHATEVER THE INPUT: true; the input reads as it did. -/
def fnRainMeasuredSpec : ChangeSpec := { name := "fnRainMeasured", fn := fun _ => fun
  | [d1, d2] => { results := [.lit (.bool true)], args := [d1, d2] }
  | _ => none }
def fnRainMeasuredRow : OpenClaim := { program := "ytmlkdkeocbhajaa", sum := "b90a6153dafd41bc9077ec45b8b7ca0f9a455bce5eb31d99f0db24710d4ee004", func := "loop.example/g01208/laws.FnRainMeasured", spec := "fnRainMeasured", unfollowed := true, recurses := true, plainKeys := false, apart := false }
def FnRainMeasuredSaid : Prop := fnRainMeasuredRow.holds Try.pinned (OpenSpec.ofChange fnRainMeasuredSpec)

/-- ITS FALSE NEIGHBOUR: 'it returns false'. Refute it at one input. -/
def fnRainMeasuredWrong : ChangeSpec := { name := "fnRainMeasured", fn := fun _ => fun
  | [d1, d2] => { results := [.lit (.bool false)], args := [d1, d2] }
  | _ => none }
def FnRainMeasuredWrongFalsely : Prop := fnRainMeasuredRow.holds Try.pinned (OpenSpec.ofChange fnRainMeasuredWrong)

/-- 'laws.FnThinnedAndBlended': WHATEVER THE INPUT: true; the input reads as it did. -/
def fnThinnedAndBlendedSpec : ChangeSpec := { name := "fnThinnedAndBlended", fn := fun _ => fun
  | [d1, d2] => { results := [.lit (.bool true)], args := [d1, d2] }
  | _ => none }
def fnThinnedAndBlendedRow : OpenClaim := { program := "ytmlkdkeocbhajaa", sum := "b90a6153dafd41bc9077ec45b8b7ca0f9a455bce5eb31d99f0db24710d4ee004", func := "loop.example/g01208/laws.FnThinnedAndBlended", spec := "fnThinnedAndBlended", plainKeys := false, apart := false }
def FnThinnedAndBlendedSaid : Prop := fnThinnedAndBlendedRow.holds Try.pinned (OpenSpec.ofChange fnThinnedAndBlendedSpec)

/-- ITS FALSE NEIGHBOUR: 'it returns false'. Refute it at one input. -/
def fnThinnedAndBlendedWrong : ChangeSpec := { name := "fnThinnedAndBlended", fn := fun _ => fun
  | [d1, d2] => { results := [.lit (.bool false)], args := [d1, d2] }
  | _ => none }
def FnThinnedAndBlendedWrongFalsely : Prop := fnThinnedAndBlendedRow.holds Try.pinned (OpenSpec.ofChange fnThinnedAndBlendedWrong)

/-- 'laws.FnBucketsCount': WHATEVER THE INPUT: true; the input reads as it did. -/
def fnBucketsCountSpec : ChangeSpec := { name := "fnBucketsCount", fn := fun _ => fun
  | [d1, d2] => { results := [.lit (.bool true)], args := [d1, d2] }
  | _ => none }
def fnBucketsCountRow : OpenClaim := { program := "ytmlkdkeocbhajaa", sum := "b90a6153dafd41bc9077ec45b8b7ca0f9a455bce5eb31d99f0db24710d4ee004", func := "loop.example/g01208/laws.FnBucketsCount", spec := "fnBucketsCount", unfollowed := true, recurses := true, plainKeys := false, apart := false }
def FnBucketsCountSaid : Prop := fnBucketsCountRow.holds Try.pinned (OpenSpec.ofChange fnBucketsCountSpec)

/-- ITS FALSE NEIGHBOUR: 'it returns false'. Refute it at one input. -/
def fnBucketsCountWrong : ChangeSpec := { name := "fnBucketsCount", fn := fun _ => fun
  | [d1, d2] => { results := [.lit (.bool false)], args := [d1, d2] }
  | _ => none }
def FnBucketsCountWrongFalsely : Prop := fnBucketsCountRow.holds Try.pinned (OpenSpec.ofChange fnBucketsCountWrong)

/-- 'laws.FnSiphonsKeepWater': WHATEVER THE INPUT: true; the input reads as it did. -/
def fnSiphonsKeepWaterSpec : ChangeSpec := { name := "fnSiphonsKeepWater", fn := fun _ => fun
  | [d1, d2] => { results := [.lit (.bool true)], args := [d1, d2] }
  | _ => none }
def fnSiphonsKeepWaterRow : OpenClaim := { program := "ytmlkdkeocbhajaa", sum := "b90a6153dafd41bc9077ec45b8b7ca0f9a455bce5eb31d99f0db24710d4ee004", func := "loop.example/g01208/laws.FnSiphonsKeepWater", spec := "fnSiphonsKeepWater", unfollowed := true, recurses := true, plainKeys := false, apart := false }
def FnSiphonsKeepWaterSaid : Prop := fnSiphonsKeepWaterRow.holds Try.pinned (OpenSpec.ofChange fnSiphonsKeepWaterSpec)

/-- ITS FALSE NEIGHBOUR: 'it returns false'. Refute it at one input. -/
def fnSiphonsKeepWaterWrong : ChangeSpec := { name := "fnSiphonsKeepWater", fn := fun _ => fun
  | [d1, d2] => { results := [.lit (.bool false)], args := [d1, d2] }
  | _ => none }
def FnSiphonsKeepWaterWrongFalsely : Prop := fnSiphonsKeepWaterRow.holds Try.pinned (OpenSpec.ofChange fnSiphonsKeepWaterWrong)

/-- 'laws.FnSiphonsComeAgain': WHATEVER THE INPUT: true; the input reads as it did. -/
def fnSiphonsComeAgainSpec : ChangeSpec := { name := "fnSiphonsComeAgain", fn := fun _ => fun
  | [d1, d2] => { results := [.lit (.bool true)], args := [d1, d2] }
  | _ => none }
def fnSiphonsComeAgainRow : OpenClaim := { program := "ytmlkdkeocbhajaa", sum := "b90a6153dafd41bc9077ec45b8b7ca0f9a455bce5eb31d99f0db24710d4ee004", func := "loop.example/g01208/laws.FnSiphonsComeAgain", spec := "fnSiphonsComeAgain", unfollowed := true, recurses := true, plainKeys := false, apart := false }
def FnSiphonsComeAgainSaid : Prop := fnSiphonsComeAgainRow.holds Try.pinned (OpenSpec.ofChange fnSiphonsComeAgainSpec)

/-- ITS FALSE NEIGHBOUR: 'it returns false'. Refute it at one input. -/
def fnSiphonsComeAgainWrong : ChangeSpec := { name := "fnSiphonsComeAgain", fn := fun _ => fun
  | [d1, d2] => { results := [.lit (.bool false)], args := [d1, d2] }
  | _ => none }
def FnSiphonsComeAgainWrongFalsely : Prop := fnSiphonsComeAgainRow.holds Try.pinned (OpenSpec.ofChange fnSiphonsComeAgainWrong)

/- THE SECOND FORM. 'bulk': how many values and letters a reading holds, each counted each time it is reached (what is shared counts as often as it is met; a slice's spare places count too). A statement '..UptoSaid' is the law's where the arguments, and the package variables that the reading takes, are together of bulk at most 1048576: NARROWER than '..Said'. Prove '..Said' where nothing that the law and all that it calls make is longer than what came in: it says more and counts as full. Else prove '..UptoSaid'. A law counts once. -/
mutual
def uptoBulk {H : Type} : DataW H → Nat
  | .lit (.string bytes) => bytes.length + 1
  | .lit _ => 1
  | .nil => 1
  | .ptr d => uptoBulk d + 1
  | .slice elems spare => uptoBulkAll elems + uptoBulkAll spare + 1
  | .agg parts => uptoBulkAll parts + 1
  | .iface _ d => uptoBulk d + 1
  | .map entries => uptoBulkEntries entries + 1
  | .held _ => 1
def uptoBulkAll {H : Type} : List (DataW H) → Nat
  | [] => 0
  | d :: r => uptoBulk d + uptoBulkAll r
def uptoBulkEntries {H : Type} : List (Lit × DataW H) → Nat
  | [] => 0
  | x :: r => uptoBulkEntry x + uptoBulkEntries r
def uptoBulkEntry {H : Type} : Lit × DataW H → Nat
  | (.string bytes, d) => bytes.length + uptoBulk d + 1
  | (_, d) => uptoBulk d + 1
 end
def uptoSmall : (H : Type) → List (DataW H) → Bool := fun _ ds => decide (uptoBulkAll ds ≤ 1048576)
def OpenSpec.upto (s : _root_.Go.ChangeSpec) : _root_.Go.OpenSpec := { _root_.Go.OpenSpec.ofChange s with cond := some uptoSmall }

/-- 'laws.FnWheelsAndScales', WHERE WHAT IT READS IS OF BULK AT MOST 1048576: true; the input reads as it did. -/
def fnWheelsAndScalesUptoRow : OpenClaim := { program := "ytmlkdkeocbhajaa", sum := "b90a6153dafd41bc9077ec45b8b7ca0f9a455bce5eb31d99f0db24710d4ee004", func := "loop.example/g01208/laws.FnWheelsAndScales", spec := "fnWheelsAndScales", plainKeys := false, apart := false, narrowed := true }
def FnWheelsAndScalesUptoSaid : Prop := fnWheelsAndScalesUptoRow.holds Try.pinned (OpenSpec.upto fnWheelsAndScalesSpec)

/-- 'laws.FnClocksRun', WHERE WHAT IT READS IS OF BULK AT MOST 1048576: true; the input reads as it did. -/
def fnClocksRunUptoRow : OpenClaim := { program := "ytmlkdkeocbhajaa", sum := "b90a6153dafd41bc9077ec45b8b7ca0f9a455bce5eb31d99f0db24710d4ee004", func := "loop.example/g01208/laws.FnClocksRun", spec := "fnClocksRun", plainKeys := false, apart := false, narrowed := true }
def FnClocksRunUptoSaid : Prop := fnClocksRunUptoRow.holds Try.pinned (OpenSpec.upto fnClocksRunSpec)

/-- 'laws.FnRainMeasured', WHERE WHAT IT READS IS OF BULK AT MOST 1048576: true; the input reads as it did. -/
def fnRainMeasuredUptoRow : OpenClaim := { program := "ytmlkdkeocbhajaa", sum := "b90a6153dafd41bc9077ec45b8b7ca0f9a455bce5eb31d99f0db24710d4ee004", func := "loop.example/g01208/laws.FnRainMeasured", spec := "fnRainMeasured", unfollowed := true, recurses := true, plainKeys := false, apart := false, narrowed := true }
def FnRainMeasuredUptoSaid : Prop := fnRainMeasuredUptoRow.holds Try.pinned (OpenSpec.upto fnRainMeasuredSpec)

/-- 'laws.FnThinnedAndBlended', WHERE WHAT IT READS IS OF BULK AT MOST 1048576: true; the input reads as it did. -/
def fnThinnedAndBlendedUptoRow : OpenClaim := { program := "ytmlkdkeocbhajaa", sum := "b90a6153dafd41bc9077ec45b8b7ca0f9a455bce5eb31d99f0db24710d4ee004", func := "loop.example/g01208/laws.FnThinnedAndBlended", spec := "fnThinnedAndBlended", plainKeys := false, apart := false, narrowed := true }
def FnThinnedAndBlendedUptoSaid : Prop := fnThinnedAndBlendedUptoRow.holds Try.pinned (OpenSpec.upto fnThinnedAndBlendedSpec)

/-- 'laws.FnBucketsCount', WHERE WHAT IT READS IS OF BULK AT MOST 1048576: true; the input reads as it did. -/
def fnBucketsCountUptoRow : OpenClaim := { program := "ytmlkdkeocbhajaa", sum := "b90a6153dafd41bc9077ec45b8b7ca0f9a455bce5eb31d99f0db24710d4ee004", func := "loop.example/g01208/laws.FnBucketsCount", spec := "fnBucketsCount", unfollowed := true, recurses := true, plainKeys := false, apart := false, narrowed := true }
def FnBucketsCountUptoSaid : Prop := fnBucketsCountUptoRow.holds Try.pinned (OpenSpec.upto fnBucketsCountSpec)

/-- 'laws.FnSiphonsKeepWater', WHERE WHAT IT READS IS OF BULK AT MOST 1048576: true; the input reads as it did. -/
def fnSiphonsKeepWaterUptoRow : OpenClaim := { program := "ytmlkdkeocbhajaa", sum := "b90a6153dafd41bc9077ec45b8b7ca0f9a455bce5eb31d99f0db24710d4ee004", func := "loop.example/g01208/laws.FnSiphonsKeepWater", spec := "fnSiphonsKeepWater", unfollowed := true, recurses := true, plainKeys := false, apart := false, narrowed := true }
def FnSiphonsKeepWaterUptoSaid : Prop := fnSiphonsKeepWaterUptoRow.holds Try.pinned (OpenSpec.upto fnSiphonsKeepWaterSpec)

/-- 'laws.FnSiphonsComeAgain', WHERE WHAT IT READS IS OF BULK AT MOST 1048576: true; the input reads as it did. -/
def fnSiphonsComeAgainUptoRow : OpenClaim := { program := "ytmlkdkeocbhajaa", sum := "b90a6153dafd41bc9077ec45b8b7ca0f9a455bce5eb31d99f0db24710d4ee004", func := "loop.example/g01208/laws.FnSiphonsComeAgain", spec := "fnSiphonsComeAgain", unfollowed := true, recurses := true, plainKeys := false, apart := false, narrowed := true }
def FnSiphonsComeAgainUptoSaid : Prop := fnSiphonsComeAgainUptoRow.holds Try.pinned (OpenSpec.upto fnSiphonsComeAgainSpec)

end Rows
end Go.Proofs.Ytmlkdkeocbhajaa
