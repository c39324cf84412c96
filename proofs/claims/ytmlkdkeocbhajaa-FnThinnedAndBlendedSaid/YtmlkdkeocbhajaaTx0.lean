-- Functions of the program as plain functions, and that the calls come to them. Written by a program (ownprint.py); nothing here is trusted: Lean checks it.
import Derived.Test.YtmlkdkeocbhajaaProg
import Derived.Test.YtmlkdkeocbhajaaGvSq
import Derived.Below
import Derived.Deep.Draws
import Derived.Deep.AppendLies
import Derived.Maps.AppendAt
import Derived.OwnWalk
import Derived.Laws.BytesArg
import Derived.Laws.MakeOwn
import Derived.Laws.OwnMore
import Derived.Deep.OwnRows
import Derived.Tactics
import Derived.Lib.ConvBytes
import Derived.Laws.Slices
import Derived.WalkKit
import Derived.KernelRfl
import Derived.RowKit3
import Derived.Deep.LoopGhost
import Derived.Deep.QuietTactic
import Derived.BigQuiet
import Derived.WideLaws
import Derived.Deep.DeepCutAuto
import Derived.Deep.CutBlock
import Derived.Deep.RegionHeld3
import Derived.Laws.Rows
import Derived.Lib.AppendStr
import Derived.ArgAppend
import Derived.Laws.IdiomCopy
import Derived.OrdersHeld
import Derived.Laws.BitsLemmas
import Derived.RowKit
import Derived.WalkSpells
import Derived.Lib.SliceRun
import Derived.Test.YtmlkdkeocbhajaaGvW
import Derived.Test.YtmlkdkeocbhajaaGvInt
import Derived.Test.YtmlkdkeocbhajaaWWords
import Derived.Test.YtmlkdkeocbhajaaWLast
import Derived.Test.YtmlkdkeocbhajaaWTab
import Derived.Test.YtmlkdkeocbhajaaWFour
import Derived.Test.YtmlkdkeocbhajaaWQPut
import Derived.Test.YtmlkdkeocbhajaaWApart
import Derived.Test.YtmlkdkeocbhajaaWArr
import Derived.Test.YtmlkdkeocbhajaaWZeros
import Derived.Test.YtmlkdkeocbhajaaWFoot
import Derived.Test.YtmlkdkeocbhajaaWKept
import Derived.Test.YtmlkdkeocbhajaaWShare
import Derived.Test.YtmlkdkeocbhajaaWN
import Derived.Test.YtmlkdkeocbhajaaWFootNe
import Derived.Test.YtmlkdkeocbhajaaWAt
import Derived.Test.YtmlkdkeocbhajaaWEqStruct
import Derived.Test.YtmlkdkeocbhajaaWRepsOne
import Derived.Test.YtmlkdkeocbhajaaWInv
import Derived.Test.YtmlkdkeocbhajaaWInvWords
import Derived.Test.YtmlkdkeocbhajaaWGuard
import Derived.Test.YtmlkdkeocbhajaaWNEv
import Derived.Test.YtmlkdkeocbhajaaWMore
namespace Go.Proofs.Ytmlkdkeocbhajaa.T
open Go.RowKit Go.Proofs.YtmlkdkeocbhajaaW.PrintWords Go.Proofs.YtmlkdkeocbhajaaW.PrintLast Go.Proofs.YtmlkdkeocbhajaaW.PrintMore Go.Proofs.Ytmlkdkeocbhajaa.Sq
attribute [local go_sem] max2_int min2_int max_two min_two max_three min_three max_four min_four   -- for this text's walks alone
set_option linter.unusedVariables false
set_option linter.unusedSimpArgs false



def errW : Option Int → Value
  | none => .nilIface
  | some c => .iface 0 (.int .i64 c)
theorem errW_none : errW none = .nilIface := rfl
theorem errW_some (c : Int) : errW (some c) = .iface 0 (.int .i64 c) := rfl

theorem info3 : (Try.prog.info? 3).map (fun i => (i.zero, i.size, i.bytes)) = some (some (.int .i64 0), 1, 8) := by kernel_rfl
-- the values' own types

end Go.Proofs.Ytmlkdkeocbhajaa.T
