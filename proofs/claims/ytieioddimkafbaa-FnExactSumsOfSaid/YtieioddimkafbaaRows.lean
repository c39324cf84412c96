/-
  No cell of these rows narrows 'for every input' (looked for: loops, veiled, ifaces, maps, wideKeys, modest, calm, conditions, laid).
  DERIVED. THE GIVEN ROWS OF THIS SEAT. 8 by the template 'for every input the law returns true; each argument reads behind the call as it read before'; 0 by the template 'total and deterministic' (their statements: YtieioddimkafbaaTotals.lean).
  GIVEN WITH THE SEED: the statements are not yours to turn. If you find one false, say at which input.
  Laid BY PROGRAM, IN A SANDBOX (cutbox-rows.mjs): the forced cells as the released guide's own fill.sh prints them over the translation 89d7d9081e80898d… (all of the seat's roots in one cut). By AI agents, Wed Nov 11 2026. No macro, syntax, notation, axiom, sorry.
-/
import Derived.Test.YtieioddimkafbaaChecked
import GoSem.Claim
import GoSem.ClaimJoined
import GoSem.ClaimMapViews
import Derived.JoinedTies
import Derived.KernelRfl
namespace Go.Proofs.Ytieioddimkafbaa
/- THE CELL 'sum', in the pinned program and in every row, IS THE sha256 OF THE DUMP (.gsa) THAT YtieioddimkafbaaProg.lean LOADS. Nothing in Lean hashes anything: it is a label: what it is worth is what the hold of that sum in a sandbox is worth. -/
noncomputable def Try.pinned : Pinned := { name := "ytieioddimkafbaa", sum := "89d7d9081e80898deafa136454a9147f0a038acb143c4abdf7ed54d36924b97e", checked := Try.checked }
namespace Rows
def none {H : Type} : Left H := { results := [], args := [] }

/-- 'laws.FnExactTwoVesselLength': WHATEVER THE INPUT: true; the input reads as it did. -/
def fnExactTwoVesselLengthSpec : ChangeSpec := { name := "fnExactTwoVesselLength", fn := fun _ => fun
  | [d1, d2, d3] => { results := [.lit (.bool true)], args := [d1, d2, d3] }
  | _ => none }
def fnExactTwoVesselLengthRow : OpenClaim := { program := "ytieioddimkafbaa", sum := "89d7d9081e80898deafa136454a9147f0a038acb143c4abdf7ed54d36924b97e", func := "loop.example/g01208/laws.FnExactTwoVesselLength", spec := "fnExactTwoVesselLength", unfollowed := true, recurses := true, plainKeys := false, apart := false }
def FnExactTwoVesselLengthSaid : Prop := fnExactTwoVesselLengthRow.holds Try.pinned (OpenSpec.ofChange fnExactTwoVesselLengthSpec)

/-- ITS FALSE NEIGHBOUR: 'it returns false'. Refute it at one input. -/
def fnExactTwoVesselLengthWrong : ChangeSpec := { name := "fnExactTwoVesselLength", fn := fun _ => fun
  | [d1, d2, d3] => { results := [.lit (.bool false)], args := [d1, d2, d3] }
  | _ => none }
def FnExactTwoVesselLengthWrongFalsely : Prop := fnExactTwoVesselLengthRow.holds Try.pinned (OpenSpec.ofChange fnExactTwoVesselLengthWrong)

/-- 'laws.FnExactTwoVesselPlan': WHATEVER THE INPUT: true; the input reads as it did. -/
def fnExactTwoVesselPlanSpec : ChangeSpec := { name := "fnExactTwoVesselPlan", fn := fun _ => fun
  | [d1, d2, d3] => { results := [.lit (.bool true)], args := [d1, d2, d3] }
  | _ => none }
def fnExactTwoVesselPlanRow : OpenClaim := { program := "ytieioddimkafbaa", sum := "89d7d9081e80898deafa136454a9147f0a038acb143c4abdf7ed54d36924b97e", func := "loop.example/g01208/laws.FnExactTwoVesselPlan", spec := "fnExactTwoVesselPlan", unfollowed := true, recurses := true, plainKeys := false, apart := false }
def FnExactTwoVesselPlanSaid : Prop := fnExactTwoVesselPlanRow.holds Try.pinned (OpenSpec.ofChange fnExactTwoVesselPlanSpec)

/-- ITS FALSE NEIGHBOUR: 'it returns false'. Refute it at one input. -/
def fnExactTwoVesselPlanWrong : ChangeSpec := { name := "fnExactTwoVesselPlan", fn := fun _ => fun
  | [d1, d2, d3] => { results := [.lit (.bool false)], args := [d1, d2, d3] }
  | _ => none }
def FnExactTwoVesselPlanWrongFalsely : Prop := fnExactTwoVesselPlanRow.holds Try.pinned (OpenSpec.ofChange fnExactTwoVesselPlanWrong)

/-- 'laws.FnExactPlanToAmount': WHATEVER THE INPUT: true; the input reads as it did. -/
def fnExactPlanToAmountSpec : ChangeSpec := { name := "fnExactPlanToAmount", fn := fun _ => fun
  | [d1, d2, d3] => { results := [.lit (.bool true)], args := [d1, d2, d3] }
  | _ => none }
def fnExactPlanToAmountRow : OpenClaim := { program := "ytieioddimkafbaa", sum := "89d7d9081e80898deafa136454a9147f0a038acb143c4abdf7ed54d36924b97e", func := "loop.example/g01208/laws.FnExactPlanToAmount", spec := "fnExactPlanToAmount", unfollowed := true, recurses := true, plainKeys := false, apart := false }
def FnExactPlanToAmountSaid : Prop := fnExactPlanToAmountRow.holds Try.pinned (OpenSpec.ofChange fnExactPlanToAmountSpec)

/-- ITS FALSE NEIGHBOUR: 'it returns false'. Refute it at one input. -/
def fnExactPlanToAmountWrong : ChangeSpec := { name := "fnExactPlanToAmount", fn := fun _ => fun
  | [d1, d2, d3] => { results := [.lit (.bool false)], args := [d1, d2, d3] }
  | _ => none }
def FnExactPlanToAmountWrongFalsely : Prop := fnExactPlanToAmountRow.holds Try.pinned (OpenSpec.ofChange fnExactPlanToAmountWrong)

/-- 'laws.FnExactPlanTo': WHATEVER THE INPUT: true; the input reads as it did. -/
def fnExactPlanToSpec : ChangeSpec := { name := "fnExactPlanTo", fn := fun _ => fun
  | [d1, d2, d3] => { results := [.lit (.bool true)], args := [d1, d2, d3] }
  | _ => none }
def fnExactPlanToRow : OpenClaim := { program := "ytieioddimkafbaa", sum := "89d7d9081e80898deafa136454a9147f0a038acb143c4abdf7ed54d36924b97e", func := "loop.example/g01208/laws.FnExactPlanTo", spec := "fnExactPlanTo", unfollowed := true, recurses := true, plainKeys := false, apart := false }
def FnExactPlanToSaid : Prop := fnExactPlanToRow.holds Try.pinned (OpenSpec.ofChange fnExactPlanToSpec)

/-- ITS FALSE NEIGHBOUR: 'it returns false'. Refute it at one input. -/
def fnExactPlanToWrong : ChangeSpec := { name := "fnExactPlanTo", fn := fun _ => fun
  | [d1, d2, d3] => { results := [.lit (.bool false)], args := [d1, d2, d3] }
  | _ => none }
def FnExactPlanToWrongFalsely : Prop := fnExactPlanToRow.holds Try.pinned (OpenSpec.ofChange fnExactPlanToWrong)

/-- 'laws.FnExactLeastWater': WHATEVER THE INPUT: true; the input reads as it did. -/
def fnExactLeastWaterSpec : ChangeSpec := { name := "fnExactLeastWater", fn := fun _ => fun
  | [d1, d2] => { results := [.lit (.bool true)], args := [d1, d2] }
  | _ => none }
def fnExactLeastWaterRow : OpenClaim := { program := "ytieioddimkafbaa", sum := "89d7d9081e80898deafa136454a9147f0a038acb143c4abdf7ed54d36924b97e", func := "loop.example/g01208/laws.FnExactLeastWater", spec := "fnExactLeastWater", unfollowed := true, recurses := true, plainKeys := false, apart := false }
def FnExactLeastWaterSaid : Prop := fnExactLeastWaterRow.holds Try.pinned (OpenSpec.ofChange fnExactLeastWaterSpec)

/-- ITS FALSE NEIGHBOUR: 'it returns false'. Refute it at one input. -/
def fnExactLeastWaterWrong : ChangeSpec := { name := "fnExactLeastWater", fn := fun _ => fun
  | [d1, d2] => { results := [.lit (.bool false)], args := [d1, d2] }
  | _ => none }
def FnExactLeastWaterWrongFalsely : Prop := fnExactLeastWaterRow.holds Try.pinned (OpenSpec.ofChange fnExactLeastWaterWrong)

/-- 'laws.FnExactWaterPlan': WHATEVER THE INPUT: true; the input reads as it did. -/
def fnExactWaterPlanSpec : ChangeSpec := { name := "fnExactWaterPlan", fn := fun _ => fun
  | [d1, d2] => { results := [.lit (.bool true)], args := [d1, d2] }
  | _ => none }
def fnExactWaterPlanRow : OpenClaim := { program := "ytieioddimkafbaa", sum := "89d7d9081e80898deafa136454a9147f0a038acb143c4abdf7ed54d36924b97e", func := "loop.example/g01208/laws.FnExactWaterPlan", spec := "fnExactWaterPlan", unfollowed := true, recurses := true, plainKeys := false, apart := false }
def FnExactWaterPlanSaid : Prop := fnExactWaterPlanRow.holds Try.pinned (OpenSpec.ofChange fnExactWaterPlanSpec)

/-- ITS FALSE NEIGHBOUR: 'it returns false'. Refute it at one input. -/
def fnExactWaterPlanWrong : ChangeSpec := { name := "fnExactWaterPlan", fn := fun _ => fun
  | [d1, d2] => { results := [.lit (.bool false)], args := [d1, d2] }
  | _ => none }
def FnExactWaterPlanWrongFalsely : Prop := fnExactWaterPlanRow.holds Try.pinned (OpenSpec.ofChange fnExactWaterPlanWrong)

/-- 'laws.FnExactAmountsOf': WHATEVER THE INPUT: true; the input reads as it did. -/
def fnExactAmountsOfSpec : ChangeSpec := { name := "fnExactAmountsOf", fn := fun _ => fun
  | [d1, d2] => { results := [.lit (.bool true)], args := [d1, d2] }
  | _ => none }
def fnExactAmountsOfRow : OpenClaim := { program := "ytieioddimkafbaa", sum := "89d7d9081e80898deafa136454a9147f0a038acb143c4abdf7ed54d36924b97e", func := "loop.example/g01208/laws.FnExactAmountsOf", spec := "fnExactAmountsOf", unfollowed := true, recurses := true, plainKeys := false, apart := false }
def FnExactAmountsOfSaid : Prop := fnExactAmountsOfRow.holds Try.pinned (OpenSpec.ofChange fnExactAmountsOfSpec)

/-- ITS FALSE NEIGHBOUR: 'it returns false'. Refute it at one input. -/
def fnExactAmountsOfWrong : ChangeSpec := { name := "fnExactAmountsOf", fn := fun _ => fun
  | [d1, d2] => { results := [.lit (.bool false)], args := [d1, d2] }
  | _ => none }
def FnExactAmountsOfWrongFalsely : Prop := fnExactAmountsOfRow.holds Try.pinned (OpenSpec.ofChange fnExactAmountsOfWrong)

/-- 'laws.FnExactSumsOf': WHATEVER THE INPUT: true; the input reads as it did. -/
def fnExactSumsOfSpec : ChangeSpec := { name := "fnExactSumsOf", fn := fun _ => fun
  | [d] => { results := [.lit (.bool true)], args := [d] }
  | _ => none }
def fnExactSumsOfRow : OpenClaim := { program := "ytieioddimkafbaa", sum := "89d7d9081e80898deafa136454a9147f0a038acb143c4abdf7ed54d36924b97e", func := "loop.example/g01208/laws.FnExactSumsOf", spec := "fnExactSumsOf", unfollowed := true, recurses := true, plainKeys := false, apart := false }
def FnExactSumsOfSaid : Prop := fnExactSumsOfRow.holds Try.pinned (OpenSpec.ofChange fnExactSumsOfSpec)

/-- ITS FALSE NEIGHBOUR: 'it returns false'. Refute it at one input. -/
def fnExactSumsOfWrong : ChangeSpec := { name := "fnExactSumsOf", fn := fun _ => fun
  | [d] => { results := [.lit (.bool false)], args := [d] }
  | _ => none }
def FnExactSumsOfWrongFalsely : Prop := fnExactSumsOfRow.holds Try.pinned (OpenSpec.ofChange fnExactSumsOfWrong)

/- THE SECOND FORM. 'bulk': how many values and letters a reading holds, each counted each time it is reached (what is shared counts as often as it is met; a slice's spare places count too). A statement '..UptoSaid' is the law's where the arguments, and the package variables that the reading takes, are together of bulk at most 1048576: NARROWER than '..Said'. Prove '..Said' where nothing that the law and all that it calls make is longer than what came in: it says more and counts as full. Else prove '..UptoSaid'. A law counts once. -/
mutual
def uptoBulk {H : Type} : DataW H → Nat
  | .lit (.string bytes) => bytes.length + 1
  | .lit _ => 1
  | .nil => 1
  | .ptr d => uptoBulk d + 1
  | .slice elems spare => uptoBulkAll elems + uptoBulkAll spare + 1
  | .agg parts => uptoBulkAll parts + 1
  | .iface _ d => uptoBulk d + 1
  | .map entries => uptoBulkEntries entries + 1
  | .held _ => 1
def uptoBulkAll {H : Type} : List (DataW H) → Nat
  | [] => 0
  | d :: r => uptoBulk d + uptoBulkAll r
def uptoBulkEntries {H : Type} : List (Lit × DataW H) → Nat
  | [] => 0
  | x :: r => uptoBulkEntry x + uptoBulkEntries r
def uptoBulkEntry {H : Type} : Lit × DataW H → Nat
  | (.string bytes, d) => bytes.length + uptoBulk d + 1
  | (_, d) => uptoBulk d + 1
 end
def uptoSmall : (H : Type) → List (DataW H) → Bool := fun _ ds => decide (uptoBulkAll ds ≤ 1048576)
def OpenSpec.upto (s : _root_.Go.ChangeSpec) : _root_.Go.OpenSpec := { _root_.Go.OpenSpec.ofChange s with cond := some uptoSmall }

/-- 'laws.FnExactTwoVesselLength', WHERE WHAT IT READS IS OF BULK AT MOST 1048576: true; the input reads as it did. -/
def fnExactTwoVesselLengthUptoRow : OpenClaim := { program := "ytieioddimkafbaa", sum := "89d7d9081e80898deafa136454a9147f0a038acb143c4abdf7ed54d36924b97e", func := "loop.example/g01208/laws.FnExactTwoVesselLength", spec := "fnExactTwoVesselLength", unfollowed := true, recurses := true, plainKeys := false, apart := false, narrowed := true }
def FnExactTwoVesselLengthUptoSaid : Prop := fnExactTwoVesselLengthUptoRow.holds Try.pinned (OpenSpec.upto fnExactTwoVesselLengthSpec)

/-- 'laws.FnExactTwoVesselPlan', WHERE WHAT IT READS IS OF BULK AT MOST 1048576: true; the input reads as it did. -/
def fnExactTwoVesselPlanUptoRow : OpenClaim := { program := "ytieioddimkafbaa", sum := "89d7d9081e80898deafa136454a9147f0a038acb143c4abdf7ed54d36924b97e", func := "loop.example/g01208/laws.FnExactTwoVesselPlan", spec := "fnExactTwoVesselPlan", unfollowed := true, recurses := true, plainKeys := false, apart := false, narrowed := true }
def FnExactTwoVesselPlanUptoSaid : Prop := fnExactTwoVesselPlanUptoRow.holds Try.pinned (OpenSpec.upto fnExactTwoVesselPlanSpec)

/-- 'laws.FnExactPlanToAmount', WHERE WHAT IT READS IS OF BULK AT MOST 1048576: true; the input reads as it did. -/
def fnExactPlanToAmountUptoRow : OpenClaim := { program := "ytieioddimkafbaa", sum := "89d7d9081e80898deafa136454a9147f0a038acb143c4abdf7ed54d36924b97e", func := "loop.example/g01208/laws.FnExactPlanToAmount", spec := "fnExactPlanToAmount", unfollowed := true, recurses := true, plainKeys := false, apart := false, narrowed := true }
def FnExactPlanToAmountUptoSaid : Prop := fnExactPlanToAmountUptoRow.holds Try.pinned (OpenSpec.upto fnExactPlanToAmountSpec)

/-- 'laws.FnExactPlanTo', WHERE WHAT IT READS IS OF BULK AT MOST 1048576: true; the input reads as it did. -/
def fnExactPlanToUptoRow : OpenClaim := { program := "ytieioddimkafbaa", sum := "89d7d9081e80898deafa136454a9147f0a038acb143c4abdf7ed54d36924b97e", func := "loop.example/g01208/laws.FnExactPlanTo", spec := "fnExactPlanTo", unfollowed := true, recurses := true, plainKeys := false, apart := false, narrowed := true }
def FnExactPlanToUptoSaid : Prop := fnExactPlanToUptoRow.holds Try.pinned (OpenSpec.upto fnExactPlanToSpec)

/-- 'laws.FnExactLeastWater', WHERE WHAT IT READS IS OF BULK AT MOST 1048576: true; the input reads as it did. -/
def fnExactLeastWaterUptoRow : OpenClaim := { program := "ytieioddimkafbaa", sum := "89d7d9081e80898deafa136454a9147f0a038acb143c4abdf7ed54d36924b97e", func := "loop.example/g01208/laws.FnExactLeastWater", spec := "fnExactLeastWater", unfollowed := true, recurses := true, plainKeys := false, apart := false, narrowed := true }
def FnExactLeastWaterUptoSaid : Prop := fnExactLeastWaterUptoRow.holds Try.pinned (OpenSpec.upto fnExactLeastWaterSpec)

/-- 'laws.FnExactWaterPlan', WHERE WHAT IT READS IS OF BULK AT MOST 1048576: true; the input reads as it did. -/
def fnExactWaterPlanUptoRow : OpenClaim := { program := "ytieioddimkafbaa", sum := "89d7d9081e80898deafa136454a9147f0a038acb143c4abdf7ed54d36924b97e", func := "loop.example/g01208/laws.FnExactWaterPlan", spec := "fnExactWaterPlan", unfollowed := true, recurses := true, plainKeys := false, apart := false, narrowed := true }
def FnExactWaterPlanUptoSaid : Prop := fnExactWaterPlanUptoRow.holds Try.pinned (OpenSpec.upto fnExactWaterPlanSpec)

/-- 'laws.FnExactAmountsOf', WHERE WHAT IT READS IS OF BULK AT MOST 1048576: true; the input reads as it did. -/
def fnExactAmountsOfUptoRow : OpenClaim := { program := "ytieioddimkafbaa", sum := "89d7d9081e80898deafa136454a9147f0a038acb143c4abdf7ed54d36924b97e", func := "loop.example/g01208/laws.FnExactAmountsOf", spec := "fnExactAmountsOf", unfollowed := true, recurses := true, plainKeys := false, apart := false, narrowed := true }
def FnExactAmountsOfUptoSaid : Prop := fnExactAmountsOfUptoRow.holds Try.pinned (OpenSpec.upto fnExactAmountsOfSpec)

/-- 'laws.FnExactSumsOf', WHERE WHAT IT READS IS OF BULK AT MOST 1048576: true; the input reads as it did. -/
def fnExactSumsOfUptoRow : OpenClaim := { program := "ytieioddimkafbaa", sum := "89d7d9081e80898deafa136454a9147f0a038acb143c4abdf7ed54d36924b97e", func := "loop.example/g01208/laws.FnExactSumsOf", spec := "fnExactSumsOf", unfollowed := true, recurses := true, plainKeys := false, apart := false, narrowed := true }
def FnExactSumsOfUptoSaid : Prop := fnExactSumsOfUptoRow.holds Try.pinned (OpenSpec.upto fnExactSumsOfSpec)

end Rows
end Go.Proofs.Ytieioddimkafbaa
