/- Plain functions and what they come to. -/
import Derived.Test.YtmlkdkeocbhajaaQsPuK3
import Derived.Test.YtmlkdkeocbhajaaQsKz6
namespace Go.Proofs.Ytmlkdkeocbhajaa.PuB
open Go.RowKit Go.Proofs.Ytmlkdkeocbhajaa.K Go.Proofs.YtmlkdkeocbhajaaW.PrintLast Go.Proofs.YtmlkdkeocbhajaaW.PrintMore
open Go.Proofs.YtmlkdkeocbhajaaW.PrintWords hiding Ev
set_option linter.unusedVariables false
set_option linter.unusedSimpArgs false
theorem FnSiphonsKeepWater : laws_FnSiphonsKeepWater.Pure := by
  intro l0 l1 _ h0 w0 _ h1 w1
  exact law_sip l0 l1 (bytes_of l0 h0 w0) (bytes_of l1 h1 w1)
end Go.Proofs.Ytmlkdkeocbhajaa.PuB
