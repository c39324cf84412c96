/- FnExactFirstDesk: what the law's Go functions compute, as plain functions, and that the law holds of them at all arguments. -/
import Derived.Test.YticeepbpgmidlaaPFnExactFirstDeskx2
namespace Go.Proofs.Yticeepbpgmidlaa.AuxFnExactFirstDesk
open Go.RowKit Go.Proofs.Yticeepbpgmidlaa.PFnExactFirstDesk Go.Proofs.YticeepbpgmidlaaW.PrintWords Go.Proofs.YticeepbpgmidlaaW.PrintLast Go.Proofs.YticeepbpgmidlaaW.PrintMore
set_option linter.unusedVariables false
set_option linter.unusedSimpArgs false
end Go.Proofs.Yticeepbpgmidlaa.AuxFnExactFirstDesk
namespace Go.Proofs.Yticeepbpgmidlaa.Pure
open Go.RowKit Go.Proofs.Yticeepbpgmidlaa.PFnExactFirstDesk Go.Proofs.Yticeepbpgmidlaa.AuxFnExactFirstDesk Go.Proofs.YticeepbpgmidlaaW.PrintWords Go.Proofs.YticeepbpgmidlaaW.PrintLast Go.Proofs.YticeepbpgmidlaaW.PrintMore
theorem FnExactFirstDesk : laws_FnExactFirstDesk.Pure := ⟨10, by decide +kernel⟩
end Go.Proofs.Yticeepbpgmidlaa.Pure
