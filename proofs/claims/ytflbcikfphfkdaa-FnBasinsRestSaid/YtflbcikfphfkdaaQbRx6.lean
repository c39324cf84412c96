-- Functions of the program as plain functions, and that the calls come to them. Written by a program (ownprint.py); nothing here is trusted: Lean checks it.
import Derived.Test.YtflbcikfphfkdaaQbRx0
import Derived.Test.YtflbcikfphfkdaaQbRx2
import Derived.Test.YtflbcikfphfkdaaQbRx4
import Derived.Test.YtflbcikfphfkdaaQbRx5
namespace Go.Proofs.Ytflbcikfphfkdaa.R
open Go.RowKit Go.Proofs.YtflbcikfphfkdaaW.PrintWords Go.Proofs.YtflbcikfphfkdaaW.PrintLast Go.Proofs.YtflbcikfphfkdaaW.PrintMore Go.Proofs.Ytflbcikfphfkdaa.Sq
attribute [local go_sem] max2_int min2_int max_two min_two max_three min_three max_four min_four   -- for this text's walks alone
set_option linter.unusedVariables false
set_option linter.unusedSimpArgs false
end Go.Proofs.Ytflbcikfphfkdaa.R
