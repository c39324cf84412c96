/- FnBasinsRest: the law, said of plain functions, holds of them at all arguments. -/
import Derived.Test.YtflbcikfphfkdaaQbPuWF
namespace Go.Proofs.Ytflbcikfphfkdaa.Pure
open Go.Proofs.Ytflbcikfphfkdaa.R
theorem FnBasinsRest : laws_FnBasinsRest.Pure := Go.Proofs.Ytflbcikfphfkdaa.PuB.FnBasinsRest
end Go.Proofs.Ytflbcikfphfkdaa.Pure
