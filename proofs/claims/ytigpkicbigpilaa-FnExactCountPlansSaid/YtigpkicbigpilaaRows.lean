/-
  No cell of these rows narrows 'for every input' (looked for: loops, veiled, ifaces, maps, wideKeys, modest, calm, conditions, laid).
  DERIVED. THE GIVEN ROWS OF THIS SEAT. 9 by the template 'for every input the law returns true; each argument reads behind the call as it read before'; 0 by the template 'total and deterministic' (their statements: YtigpkicbigpilaaTotals.lean).
  GIVEN WITH THE SEED: the statements are not yours to turn. If you find one false, say at which input.
  Laid BY PROGRAM, IN A SANDBOX (cutbox-rows.mjs): the forced cells as the released guide's own fill.sh prints them over the translation 86b9735d1fcb481d… (all of the seat's roots in one cut). By AI agents, Wed Nov 11 2026. No macro, syntax, notation, axiom, sorry.
-/
import Derived.Test.YtigpkicbigpilaaChecked
import GoSem.Claim
import GoSem.ClaimJoined
import GoSem.ClaimMapViews
import Derived.JoinedTies
import Derived.KernelRfl
namespace Go.Proofs.Ytigpkicbigpilaa
/- THE CELL 'sum', in the pinned program and in every row, IS THE sha256 OF THE DUMP (.gsa) THAT YtigpkicbigpilaaProg.lean LOADS. Nothing in Lean hashes anything: it is a label: what it is worth is what the hold of that sum in a sandbox is worth. -/
noncomputable def Try.pinned : Pinned := { name := "ytigpkicbigpilaa", sum := "86b9735d1fcb481d0a8df1b48a638f8d9ba8502686dfb18882e4c48c2879eb00", checked := Try.checked }
namespace Rows
def none {H : Type} : Left H := { results := [], args := [] }

/-- 'laws.FnExactIsDesk': WHATEVER THE INPUT: true; the input reads as it did. -/
def fnExactIsDeskSpec : ChangeSpec := { name := "fnExactIsDesk", fn := fun _ => fun
  | [d] => { results := [.lit (.bool true)], args := [d] }
  | _ => none }
def fnExactIsDeskRow : OpenClaim := { program := "ytigpkicbigpilaa", sum := "86b9735d1fcb481d0a8df1b48a638f8d9ba8502686dfb18882e4c48c2879eb00", func := "loop.example/g01208/laws.FnExactIsDesk", spec := "fnExactIsDesk", unfollowed := true, recurses := true, plainKeys := false, apart := false }
def FnExactIsDeskSaid : Prop := fnExactIsDeskRow.holds Try.pinned (OpenSpec.ofChange fnExactIsDeskSpec)

/-- ITS FALSE NEIGHBOUR: 'it returns false'. Refute it at one input. -/
def fnExactIsDeskWrong : ChangeSpec := { name := "fnExactIsDesk", fn := fun _ => fun
  | [d] => { results := [.lit (.bool false)], args := [d] }
  | _ => none }
def FnExactIsDeskWrongFalsely : Prop := fnExactIsDeskRow.holds Try.pinned (OpenSpec.ofChange fnExactIsDeskWrong)

/-- 'laws.FnExactMovesOn': WHATEVER THE INPUT: true; the input reads as it did. -/
def fnExactMovesOnSpec : ChangeSpec := { name := "fnExactMovesOn", fn := fun _ => fun
  | [d1, d2] => { results := [.lit (.bool true)], args := [d1, d2] }
  | _ => none }
def fnExactMovesOnRow : OpenClaim := { program := "ytigpkicbigpilaa", sum := "86b9735d1fcb481d0a8df1b48a638f8d9ba8502686dfb18882e4c48c2879eb00", func := "loop.example/g01208/laws.FnExactMovesOn", spec := "fnExactMovesOn", unfollowed := true, recurses := true, plainKeys := false, apart := false }
def FnExactMovesOnSaid : Prop := fnExactMovesOnRow.holds Try.pinned (OpenSpec.ofChange fnExactMovesOnSpec)

/-- ITS FALSE NEIGHBOUR: 'it returns false'. Refute it at one input. -/
def fnExactMovesOnWrong : ChangeSpec := { name := "fnExactMovesOn", fn := fun _ => fun
  | [d1, d2] => { results := [.lit (.bool false)], args := [d1, d2] }
  | _ => none }
def FnExactMovesOnWrongFalsely : Prop := fnExactMovesOnRow.holds Try.pinned (OpenSpec.ofChange fnExactMovesOnWrong)

/-- 'laws.FnExactIsUndone': WHATEVER THE INPUT: true; the input reads as it did. -/
def fnExactIsUndoneSpec : ChangeSpec := { name := "fnExactIsUndone", fn := fun _ => fun
  | [d1, d2] => { results := [.lit (.bool true)], args := [d1, d2] }
  | _ => none }
def fnExactIsUndoneRow : OpenClaim := { program := "ytigpkicbigpilaa", sum := "86b9735d1fcb481d0a8df1b48a638f8d9ba8502686dfb18882e4c48c2879eb00", func := "loop.example/g01208/laws.FnExactIsUndone", spec := "fnExactIsUndone", unfollowed := true, recurses := true, plainKeys := false, apart := false }
def FnExactIsUndoneSaid : Prop := fnExactIsUndoneRow.holds Try.pinned (OpenSpec.ofChange fnExactIsUndoneSpec)

/-- ITS FALSE NEIGHBOUR: 'it returns false'. Refute it at one input. -/
def fnExactIsUndoneWrong : ChangeSpec := { name := "fnExactIsUndone", fn := fun _ => fun
  | [d1, d2] => { results := [.lit (.bool false)], args := [d1, d2] }
  | _ => none }
def FnExactIsUndoneWrongFalsely : Prop := fnExactIsUndoneRow.holds Try.pinned (OpenSpec.ofChange fnExactIsUndoneWrong)

/-- 'laws.FnExactCountStates': WHATEVER THE INPUT: true; the input reads as it did. -/
def fnExactCountStatesSpec : ChangeSpec := { name := "fnExactCountStates", fn := fun _ => fun
  | [d1, d2] => { results := [.lit (.bool true)], args := [d1, d2] }
  | _ => none }
def fnExactCountStatesRow : OpenClaim := { program := "ytigpkicbigpilaa", sum := "86b9735d1fcb481d0a8df1b48a638f8d9ba8502686dfb18882e4c48c2879eb00", func := "loop.example/g01208/laws.FnExactCountStates", spec := "fnExactCountStates", unfollowed := true, recurses := true, plainKeys := false, apart := false }
def FnExactCountStatesSaid : Prop := fnExactCountStatesRow.holds Try.pinned (OpenSpec.ofChange fnExactCountStatesSpec)

/-- ITS FALSE NEIGHBOUR: 'it returns false'. Refute it at one input. -/
def fnExactCountStatesWrong : ChangeSpec := { name := "fnExactCountStates", fn := fun _ => fun
  | [d1, d2] => { results := [.lit (.bool false)], args := [d1, d2] }
  | _ => none }
def FnExactCountStatesWrongFalsely : Prop := fnExactCountStatesRow.holds Try.pinned (OpenSpec.ofChange fnExactCountStatesWrong)

/-- 'laws.FnExactIsReached': WHATEVER THE INPUT: true; the input reads as it did. -/
def fnExactIsReachedSpec : ChangeSpec := { name := "fnExactIsReached", fn := fun _ => fun
  | [d1, d2, d3] => { results := [.lit (.bool true)], args := [d1, d2, d3] }
  | _ => none }
def fnExactIsReachedRow : OpenClaim := { program := "ytigpkicbigpilaa", sum := "86b9735d1fcb481d0a8df1b48a638f8d9ba8502686dfb18882e4c48c2879eb00", func := "loop.example/g01208/laws.FnExactIsReached", spec := "fnExactIsReached", unfollowed := true, recurses := true, plainKeys := false, apart := false }
def FnExactIsReachedSaid : Prop := fnExactIsReachedRow.holds Try.pinned (OpenSpec.ofChange fnExactIsReachedSpec)

/-- ITS FALSE NEIGHBOUR: 'it returns false'. Refute it at one input. -/
def fnExactIsReachedWrong : ChangeSpec := { name := "fnExactIsReached", fn := fun _ => fun
  | [d1, d2, d3] => { results := [.lit (.bool false)], args := [d1, d2, d3] }
  | _ => none }
def FnExactIsReachedWrongFalsely : Prop := fnExactIsReachedRow.holds Try.pinned (OpenSpec.ofChange fnExactIsReachedWrong)

/-- 'laws.FnExactLastingStates': WHATEVER THE INPUT: true; the input reads as it did. -/
def fnExactLastingStatesSpec : ChangeSpec := { name := "fnExactLastingStates", fn := fun _ => fun
  | [d1, d2] => { results := [.lit (.bool true)], args := [d1, d2] }
  | _ => none }
def fnExactLastingStatesRow : OpenClaim := { program := "ytigpkicbigpilaa", sum := "86b9735d1fcb481d0a8df1b48a638f8d9ba8502686dfb18882e4c48c2879eb00", func := "loop.example/g01208/laws.FnExactLastingStates", spec := "fnExactLastingStates", unfollowed := true, recurses := true, plainKeys := false, apart := false }
def FnExactLastingStatesSaid : Prop := fnExactLastingStatesRow.holds Try.pinned (OpenSpec.ofChange fnExactLastingStatesSpec)

/-- ITS FALSE NEIGHBOUR: 'it returns false'. Refute it at one input. -/
def fnExactLastingStatesWrong : ChangeSpec := { name := "fnExactLastingStates", fn := fun _ => fun
  | [d1, d2] => { results := [.lit (.bool false)], args := [d1, d2] }
  | _ => none }
def FnExactLastingStatesWrongFalsely : Prop := fnExactLastingStatesRow.holds Try.pinned (OpenSpec.ofChange fnExactLastingStatesWrong)

/-- 'laws.FnExactLayersOf': WHATEVER THE INPUT: true; the input reads as it did. -/
def fnExactLayersOfSpec : ChangeSpec := { name := "fnExactLayersOf", fn := fun _ => fun
  | [d1, d2] => { results := [.lit (.bool true)], args := [d1, d2] }
  | _ => none }
def fnExactLayersOfRow : OpenClaim := { program := "ytigpkicbigpilaa", sum := "86b9735d1fcb481d0a8df1b48a638f8d9ba8502686dfb18882e4c48c2879eb00", func := "loop.example/g01208/laws.FnExactLayersOf", spec := "fnExactLayersOf", unfollowed := true, recurses := true, plainKeys := false, apart := false }
def FnExactLayersOfSaid : Prop := fnExactLayersOfRow.holds Try.pinned (OpenSpec.ofChange fnExactLayersOfSpec)

/-- ITS FALSE NEIGHBOUR: 'it returns false'. Refute it at one input. -/
def fnExactLayersOfWrong : ChangeSpec := { name := "fnExactLayersOf", fn := fun _ => fun
  | [d1, d2] => { results := [.lit (.bool false)], args := [d1, d2] }
  | _ => none }
def FnExactLayersOfWrongFalsely : Prop := fnExactLayersOfRow.holds Try.pinned (OpenSpec.ofChange fnExactLayersOfWrong)

/-- 'laws.FnExactCountPlans': WHATEVER THE INPUT: true; the input reads as it did. -/
def fnExactCountPlansSpec : ChangeSpec := { name := "fnExactCountPlans", fn := fun _ => fun
  | [d1, d2, d3] => { results := [.lit (.bool true)], args := [d1, d2, d3] }
  | _ => none }
def fnExactCountPlansRow : OpenClaim := { program := "ytigpkicbigpilaa", sum := "86b9735d1fcb481d0a8df1b48a638f8d9ba8502686dfb18882e4c48c2879eb00", func := "loop.example/g01208/laws.FnExactCountPlans", spec := "fnExactCountPlans", unfollowed := true, recurses := true, plainKeys := false, apart := false }
def FnExactCountPlansSaid : Prop := fnExactCountPlansRow.holds Try.pinned (OpenSpec.ofChange fnExactCountPlansSpec)

/-- ITS FALSE NEIGHBOUR: 'it returns false'. Refute it at one input. -/
def fnExactCountPlansWrong : ChangeSpec := { name := "fnExactCountPlans", fn := fun _ => fun
  | [d1, d2, d3] => { results := [.lit (.bool false)], args := [d1, d2, d3] }
  | _ => none }
def FnExactCountPlansWrongFalsely : Prop := fnExactCountPlansRow.holds Try.pinned (OpenSpec.ofChange fnExactCountPlansWrong)

/-- 'laws.FnExactFarthestState': WHATEVER THE INPUT: true; the input reads as it did. -/
def fnExactFarthestStateSpec : ChangeSpec := { name := "fnExactFarthestState", fn := fun _ => fun
  | [d1, d2] => { results := [.lit (.bool true)], args := [d1, d2] }
  | _ => none }
def fnExactFarthestStateRow : OpenClaim := { program := "ytigpkicbigpilaa", sum := "86b9735d1fcb481d0a8df1b48a638f8d9ba8502686dfb18882e4c48c2879eb00", func := "loop.example/g01208/laws.FnExactFarthestState", spec := "fnExactFarthestState", unfollowed := true, recurses := true, plainKeys := false, apart := false }
def FnExactFarthestStateSaid : Prop := fnExactFarthestStateRow.holds Try.pinned (OpenSpec.ofChange fnExactFarthestStateSpec)

/-- ITS FALSE NEIGHBOUR: 'it returns false'. Refute it at one input. -/
def fnExactFarthestStateWrong : ChangeSpec := { name := "fnExactFarthestState", fn := fun _ => fun
  | [d1, d2] => { results := [.lit (.bool false)], args := [d1, d2] }
  | _ => none }
def FnExactFarthestStateWrongFalsely : Prop := fnExactFarthestStateRow.holds Try.pinned (OpenSpec.ofChange fnExactFarthestStateWrong)

/- THE SECOND FORM. 'bulk': how many values and letters a reading holds, each counted each time it is reached (what is shared counts as often as it is met; a slice's spare places count too). A statement '..UptoSaid' is the law's where the arguments, and the package variables that the reading takes, are together of bulk at most 1048576: NARROWER than '..Said'. Prove '..Said' where nothing that the law and all that it calls make is longer than what came in: it says more and counts as full. Else prove '..UptoSaid'. A law counts once. -/
mutual
def uptoBulk {H : Type} : DataW H → Nat
  | .lit (.string bytes) => bytes.length + 1
  | .lit _ => 1
  | .nil => 1
  | .ptr d => uptoBulk d + 1
  | .slice elems spare => uptoBulkAll elems + uptoBulkAll spare + 1
  | .agg parts => uptoBulkAll parts + 1
  | .iface _ d => uptoBulk d + 1
  | .map entries => uptoBulkEntries entries + 1
  | .held _ => 1
def uptoBulkAll {H : Type} : List (DataW H) → Nat
  | [] => 0
  | d :: r => uptoBulk d + uptoBulkAll r
def uptoBulkEntries {H : Type} : List (Lit × DataW H) → Nat
  | [] => 0
  | x :: r => uptoBulkEntry x + uptoBulkEntries r
def uptoBulkEntry {H : Type} : Lit × DataW H → Nat
  | (.string bytes, d) => bytes.length + uptoBulk d + 1
  | (_, d) => uptoBulk d + 1
 end
def uptoSmall : (H : Type) → List (DataW H) → Bool := fun _ ds => decide (uptoBulkAll ds ≤ 1048576)
def OpenSpec.upto (s : _root_.Go.ChangeSpec) : _root_.Go.OpenSpec := { _root_.Go.OpenSpec.ofChange s with cond := some uptoSmall }

/-- 'laws.FnExactIsDesk', WHERE WHAT IT READS IS OF BULK AT MOST 1048576: true; the input reads as it did. -/
def fnExactIsDeskUptoRow : OpenClaim := { program := "ytigpkicbigpilaa", sum := "86b9735d1fcb481d0a8df1b48a638f8d9ba8502686dfb18882e4c48c2879eb00", func := "loop.example/g01208/laws.FnExactIsDesk", spec := "fnExactIsDesk", unfollowed := true, recurses := true, plainKeys := false, apart := false, narrowed := true }
def FnExactIsDeskUptoSaid : Prop := fnExactIsDeskUptoRow.holds Try.pinned (OpenSpec.upto fnExactIsDeskSpec)

/-- 'laws.FnExactMovesOn', WHERE WHAT IT READS IS OF BULK AT MOST 1048576: true; the input reads as it did. -/
def fnExactMovesOnUptoRow : OpenClaim := { program := "ytigpkicbigpilaa", sum := "86b9735d1fcb481d0a8df1b48a638f8d9ba8502686dfb18882e4c48c2879eb00", func := "loop.example/g01208/laws.FnExactMovesOn", spec := "fnExactMovesOn", unfollowed := true, recurses := true, plainKeys := false, apart := false, narrowed := true }
def FnExactMovesOnUptoSaid : Prop := fnExactMovesOnUptoRow.holds Try.pinned (OpenSpec.upto fnExactMovesOnSpec)

/-- 'laws.FnExactIsUndone', WHERE WHAT IT READS IS OF BULK AT MOST 1048576: true; the input reads as it did. -/
def fnExactIsUndoneUptoRow : OpenClaim := { program := "ytigpkicbigpilaa", sum := "86b9735d1fcb481d0a8df1b48a638f8d9ba8502686dfb18882e4c48c2879eb00", func := "loop.example/g01208/laws.FnExactIsUndone", spec := "fnExactIsUndone", unfollowed := true, recurses := true, plainKeys := false, apart := false, narrowed := true }
def FnExactIsUndoneUptoSaid : Prop := fnExactIsUndoneUptoRow.holds Try.pinned (OpenSpec.upto fnExactIsUndoneSpec)

/-- 'laws.FnExactCountStates', WHERE WHAT IT READS IS OF BULK AT MOST 1048576: true; the input reads as it did. -/
def fnExactCountStatesUptoRow : OpenClaim := { program := "ytigpkicbigpilaa", sum := "86b9735d1fcb481d0a8df1b48a638f8d9ba8502686dfb18882e4c48c2879eb00", func := "loop.example/g01208/laws.FnExactCountStates", spec := "fnExactCountStates", unfollowed := true, recurses := true, plainKeys := false, apart := false, narrowed := true }
def FnExactCountStatesUptoSaid : Prop := fnExactCountStatesUptoRow.holds Try.pinned (OpenSpec.upto fnExactCountStatesSpec)

/-- 'laws.FnExactIsReached', WHERE WHAT IT READS IS OF BULK AT MOST 1048576: true; the input reads as it did. -/
def fnExactIsReachedUptoRow : OpenClaim := { program := "ytigpkicbigpilaa", sum := "86b9735d1fcb481d0a8df1b48a638f8d9ba8502686dfb18882e4c48c2879eb00", func := "loop.example/g01208/laws.FnExactIsReached", spec := "fnExactIsReached", unfollowed := true, recurses := true, plainKeys := false, apart := false, narrowed := true }
def FnExactIsReachedUptoSaid : Prop := fnExactIsReachedUptoRow.holds Try.pinned (OpenSpec.upto fnExactIsReachedSpec)

/-- 'laws.FnExactLastingStates', WHERE WHAT IT READS IS OF BULK AT MOST 1048576: true; the input reads as it did. -/
def fnExactLastingStatesUptoRow : OpenClaim := { program := "ytigpkicbigpilaa", sum := "86b9735d1fcb481d0a8df1b48a638f8d9ba8502686dfb18882e4c48c2879eb00", func := "loop.example/g01208/laws.FnExactLastingStates", spec := "fnExactLastingStates", unfollowed := true, recurses := true, plainKeys := false, apart := false, narrowed := true }
def FnExactLastingStatesUptoSaid : Prop := fnExactLastingStatesUptoRow.holds Try.pinned (OpenSpec.upto fnExactLastingStatesSpec)

/-- 'laws.FnExactLayersOf', WHERE WHAT IT READS IS OF BULK AT MOST 1048576: true; the input reads as it did. -/
def fnExactLayersOfUptoRow : OpenClaim := { program := "ytigpkicbigpilaa", sum := "86b9735d1fcb481d0a8df1b48a638f8d9ba8502686dfb18882e4c48c2879eb00", func := "loop.example/g01208/laws.FnExactLayersOf", spec := "fnExactLayersOf", unfollowed := true, recurses := true, plainKeys := false, apart := false, narrowed := true }
def FnExactLayersOfUptoSaid : Prop := fnExactLayersOfUptoRow.holds Try.pinned (OpenSpec.upto fnExactLayersOfSpec)

/-- 'laws.FnExactCountPlans', WHERE WHAT IT READS IS OF BULK AT MOST 1048576: true; the input reads as it did. -/
def fnExactCountPlansUptoRow : OpenClaim := { program := "ytigpkicbigpilaa", sum := "86b9735d1fcb481d0a8df1b48a638f8d9ba8502686dfb18882e4c48c2879eb00", func := "loop.example/g01208/laws.FnExactCountPlans", spec := "fnExactCountPlans", unfollowed := true, recurses := true, plainKeys := false, apart := false, narrowed := true }
def FnExactCountPlansUptoSaid : Prop := fnExactCountPlansUptoRow.holds Try.pinned (OpenSpec.upto fnExactCountPlansSpec)

/-- 'laws.FnExactFarthestState', WHERE WHAT IT READS IS OF BULK AT MOST 1048576: true; the input reads as it did. -/
def fnExactFarthestStateUptoRow : OpenClaim := { program := "ytigpkicbigpilaa", sum := "86b9735d1fcb481d0a8df1b48a638f8d9ba8502686dfb18882e4c48c2879eb00", func := "loop.example/g01208/laws.FnExactFarthestState", spec := "fnExactFarthestState", unfollowed := true, recurses := true, plainKeys := false, apart := false, narrowed := true }
def FnExactFarthestStateUptoSaid : Prop := fnExactFarthestStateUptoRow.holds Try.pinned (OpenSpec.upto fnExactFarthestStateSpec)

end Rows
end Go.Proofs.Ytigpkicbigpilaa
