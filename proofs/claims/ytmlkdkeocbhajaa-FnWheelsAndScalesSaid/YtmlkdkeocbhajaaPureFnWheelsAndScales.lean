/- FnWheelsAndScales: the law, said of plain functions, holds of them at all arguments. -/
import Derived.Test.YtmlkdkeocbhajaaPuG6
namespace Go.Proofs.Ytmlkdkeocbhajaa.Pure
open Go.Proofs.Ytmlkdkeocbhajaa.G
theorem FnWheelsAndScales : laws_FnWheelsAndScales.Pure := Go.Proofs.Ytmlkdkeocbhajaa.PuB.FnWheelsAndScales
end Go.Proofs.Ytmlkdkeocbhajaa.Pure
