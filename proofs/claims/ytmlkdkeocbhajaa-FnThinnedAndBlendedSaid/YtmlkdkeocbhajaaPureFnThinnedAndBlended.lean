/- FnThinnedAndBlended: the law, said of plain functions, holds of them at all arguments. -/
import Derived.Test.YtmlkdkeocbhajaaPuT6
namespace Go.Proofs.Ytmlkdkeocbhajaa.Pure
open Go.Proofs.Ytmlkdkeocbhajaa.T
theorem FnThinnedAndBlended : laws_FnThinnedAndBlended.Pure := Go.Proofs.Ytmlkdkeocbhajaa.PuB.FnThinnedAndBlended
end Go.Proofs.Ytmlkdkeocbhajaa.Pure
