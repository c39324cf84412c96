/- FnClocksRun: the law, said of plain functions, holds of them at all arguments. -/
import Derived.Test.YtmlkdkeocbhajaaPuC5
namespace Go.Proofs.Ytmlkdkeocbhajaa.Pure
open Go.Proofs.Ytmlkdkeocbhajaa.C
theorem FnClocksRun : laws_FnClocksRun.Pure := Go.Proofs.Ytmlkdkeocbhajaa.PuB.FnClocksRun
end Go.Proofs.Ytmlkdkeocbhajaa.Pure
