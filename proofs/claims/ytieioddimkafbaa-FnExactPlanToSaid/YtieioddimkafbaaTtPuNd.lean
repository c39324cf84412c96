/- Plain functions and what they come to. -/
import Derived.Test.YtieioddimkafbaaTtPuBase
namespace Go.Proofs.Ytieioddimkafbaa.PuB
open Go.RowKit Go.Proofs.Ytieioddimkafbaa.V Go.Proofs.YtieioddimkafbaaW.PrintWords Go.Proofs.YtieioddimkafbaaW.PrintLast Go.Proofs.YtieioddimkafbaaW.PrintMore Go.Proofs.Ytieioddimkafbaa Go.Proofs.Ytieioddimkafbaa.PuB
set_option linter.unusedVariables false
set_option linter.unusedSimpArgs false
theorem nodup_idx {α : Type} {l : List α} (h : l.Nodup) {i j : Nat} (hi : i < l.length) (hj : j < l.length) (e : l[i] = l[j]) : i = j := by
  rcases Nat.lt_trichotomy i j with c | c | c
  · exact absurd e ((List.pairwise_iff_getElem.1 h) i j hi hj c)
  · exact c
  · exact absurd e.symm ((List.pairwise_iff_getElem.1 h) j i hj hi c)
end Go.Proofs.Ytieioddimkafbaa.PuB
