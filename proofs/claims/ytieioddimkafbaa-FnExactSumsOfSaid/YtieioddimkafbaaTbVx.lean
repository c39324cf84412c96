-- Functions of the program as plain functions, and that the calls come to them. Written by a program (ownprint.py); nothing here is trusted: Lean checks it.
import Derived.Test.YtieioddimkafbaaTbVx0
import Derived.Test.YtieioddimkafbaaTbVx1
import Derived.Test.YtieioddimkafbaaTbVx2
import Derived.Test.YtieioddimkafbaaTbVx3
import Derived.Test.YtieioddimkafbaaTbVx4
import Derived.Test.YtieioddimkafbaaTbVx5
import Derived.Test.YtieioddimkafbaaTbVx11
namespace Go.Proofs.Ytieioddimkafbaa.V
open Go.RowKit Go.Proofs.YtieioddimkafbaaW.PrintWords Go.Proofs.YtieioddimkafbaaW.PrintLast Go.Proofs.YtieioddimkafbaaW.PrintMore Go.Proofs.Ytieioddimkafbaa.Sq
attribute [local go_sem] max2_int min2_int max_two min_two max_three min_three max_four min_four   -- for this text's walks alone
set_option linter.unusedVariables false
set_option linter.unusedSimpArgs false
end Go.Proofs.Ytieioddimkafbaa.V
