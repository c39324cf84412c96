/- FnRowsKeepWater: the law, said of plain functions, holds of them at all arguments. -/
import Derived.Test.YtflbcikfphfkdaaQwPuW8
namespace Go.Proofs.Ytflbcikfphfkdaa.Pure
open Go.Proofs.Ytflbcikfphfkdaa.R
theorem FnRowsKeepWater : laws_FnRowsKeepWater.Pure := Go.Proofs.Ytflbcikfphfkdaa.PuB.FnRowsKeepWater
end Go.Proofs.Ytflbcikfphfkdaa.Pure
