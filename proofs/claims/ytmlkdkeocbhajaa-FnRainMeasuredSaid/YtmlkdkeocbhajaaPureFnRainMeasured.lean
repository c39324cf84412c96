/- FnRainMeasured: the law, said of plain functions, holds of them at all arguments. -/
import Derived.Test.YtmlkdkeocbhajaaPuR3
namespace Go.Proofs.Ytmlkdkeocbhajaa.Pure
open Go.Proofs.Ytmlkdkeocbhajaa.R
theorem FnRainMeasured : laws_FnRainMeasured.Pure := Go.Proofs.Ytmlkdkeocbhajaa.PuB.FnRainMeasured
end Go.Proofs.Ytmlkdkeocbhajaa.Pure
