-- Functions of the program as plain functions, and that the calls come to them. Written by a program (ownprint.py); nothing here is trusted: Lean checks it.
import Derived.Test.YticeepbpgmidlaaProg
import Derived.Below
import Derived.Deep.Draws
import Derived.Deep.AppendLies
import Derived.Maps.AppendAt
import Derived.OwnWalk
import Derived.Laws.BytesArg
import Derived.Laws.MakeOwn
import Derived.Laws.OwnMore
import Derived.Deep.OwnRows
import Derived.Tactics
import Derived.Lib.ConvBytes
import Derived.Laws.Slices
import Derived.WalkKit
import Derived.KernelRfl
import Derived.RowKit3
import Derived.Deep.LoopGhost
import Derived.Deep.QuietTactic
import Derived.BigQuiet
import Derived.WideLaws
import Derived.Deep.DeepCutAuto
import Derived.Deep.CutBlock
import Derived.Deep.RegionHeld3
import Derived.Laws.Rows
import Derived.Lib.AppendStr
import Derived.ArgAppend
import Derived.Laws.IdiomCopy
import Derived.OrdersHeld
import Derived.Laws.BitsLemmas
import Derived.RowKit
import Derived.Test.YticeepbpgmidlaaWWords
import Derived.Test.YticeepbpgmidlaaWLast
import Derived.Test.YticeepbpgmidlaaWTab
import Derived.Test.YticeepbpgmidlaaWFour
import Derived.Test.YticeepbpgmidlaaWQPut
import Derived.Test.YticeepbpgmidlaaWApart
import Derived.Test.YticeepbpgmidlaaWArr
import Derived.Test.YticeepbpgmidlaaWZeros
import Derived.Test.YticeepbpgmidlaaWFoot
import Derived.Test.YticeepbpgmidlaaWKept
import Derived.Test.YticeepbpgmidlaaWShare
import Derived.Test.YticeepbpgmidlaaWN
import Derived.Test.YticeepbpgmidlaaWFootNe
import Derived.Test.YticeepbpgmidlaaWAt
import Derived.Test.YticeepbpgmidlaaWEqStruct
import Derived.Test.YticeepbpgmidlaaWRepsOne
import Derived.Test.YticeepbpgmidlaaWInv
import Derived.Test.YticeepbpgmidlaaWInvWords
import Derived.Test.YticeepbpgmidlaaWGuard
import Derived.Test.YticeepbpgmidlaaWNEv
import Derived.Test.YticeepbpgmidlaaWMore
namespace Go.Proofs.Yticeepbpgmidlaa.Q
open Go.RowKit Go.Proofs.YticeepbpgmidlaaW.PrintWords Go.Proofs.YticeepbpgmidlaaW.PrintLast Go.Proofs.YticeepbpgmidlaaW.PrintMore
attribute [local go_sem] max2_int min2_int max_two min_two max_three min_three max_four min_four   -- for this text's walks alone
set_option linter.unusedVariables false
set_option linter.unusedSimpArgs false



def errW : Option Int → Value
  | none => .nilIface
  | some c => .iface 0 (.int .i64 c)
theorem errW_none : errW none = .nilIface := rfl
theorem errW_some (c : Int) : errW (some c) = .iface 0 (.int .i64 c) := rfl

theorem info3 : (Try.prog.info? 3).map (fun i => (i.zero, i.size, i.bytes)) = some (some (.int .i64 0), 1, 8) := by kernel_rfl
-- the values' own types

end Go.Proofs.Yticeepbpgmidlaa.Q
