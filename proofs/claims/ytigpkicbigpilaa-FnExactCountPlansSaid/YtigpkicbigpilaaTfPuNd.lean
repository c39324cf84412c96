/- Plain functions and what they come to. -/
import Derived.Test.YtigpkicbigpilaaTfPuBase
namespace Go.Proofs.Ytigpkicbigpilaa.PuB
open Go.RowKit Go.Proofs.Ytigpkicbigpilaa.V Go.Proofs.YtigpkicbigpilaaW.PrintWords Go.Proofs.YtigpkicbigpilaaW.PrintLast Go.Proofs.YtigpkicbigpilaaW.PrintMore Go.Proofs.Ytigpkicbigpilaa Go.Proofs.Ytigpkicbigpilaa.PuB
set_option linter.unusedVariables false
set_option linter.unusedSimpArgs false
theorem nodup_idx {α : Type} {l : List α} (h : l.Nodup) {i j : Nat} (hi : i < l.length) (hj : j < l.length) (e : l[i] = l[j]) : i = j := by
  rcases Nat.lt_trichotomy i j with c | c | c
  · exact absurd e ((List.pairwise_iff_getElem.1 h) i j hi hj c)
  · exact c
  · exact absurd e.symm ((List.pairwise_iff_getElem.1 h) j i hj hi c)
end Go.Proofs.Ytigpkicbigpilaa.PuB
