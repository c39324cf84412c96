/- FnSiphonsKeepWater: the law, said of plain functions, holds of them at all arguments. -/
import Derived.Test.YtmlkdkeocbhajaaQsPuK4
namespace Go.Proofs.Ytmlkdkeocbhajaa.Pure
open Go.Proofs.Ytmlkdkeocbhajaa.K
theorem FnSiphonsKeepWater : laws_FnSiphonsKeepWater.Pure := Go.Proofs.Ytmlkdkeocbhajaa.PuB.FnSiphonsKeepWater
end Go.Proofs.Ytmlkdkeocbhajaa.Pure
