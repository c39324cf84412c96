/- FnExactTwoVesselPlan: what the law's Go functions compute, as plain functions, and that the law holds of them at all arguments. -/
import Derived.Test.YtieioddimkafbaaTaPuLaw
import Derived.Test.YtieioddimkafbaaTaPuAmt
import Derived.Test.YtieioddimkafbaaTaLUx1
namespace Go.Proofs.Ytieioddimkafbaa.Pure
open Go.RowKit Go.Proofs.Ytieioddimkafbaa.V Go.Proofs.Ytieioddimkafbaa Go.Proofs.Ytieioddimkafbaa.PuB Go.Proofs.YtieioddimkafbaaW.PrintLast Go.Proofs.YtieioddimkafbaaW.PrintMore
open Go.Proofs.YtieioddimkafbaaW.PrintWords hiding Ev
set_option linter.unusedVariables false
set_option linter.unusedSimpArgs false
theorem FnExactTwoVesselPlan (a b x : Int) (_ : (Lit.int .i64 a).wf = true) (_ : (Lit.int .i64 b).wf = true) (_ : (Lit.int .i64 x).wf = true) : ∃ k, laws_FnExactTwoVesselPlan.f k a b x = some true := by
  refine Ev.ex (f := fun k => laws_FnExactTwoVesselPlan.f k a b x) ?_
  obtain ⟨q, hq, _, F1, F2⟩ := amt_both [a, b] [0, 0] x false (by simp)
  have E1 : Ev (fun k => spec_TwoVesselPlan.f k a b x) q := by
    unfold spec_TwoVesselPlan.f spec_plTwo.f
    exact Ev.bind (Ev.const rfl) (Ev.bind F1 (Ev.const rfl))
  have E2 : Ev (fun k => impl_TwoVesselPlan.f k a b x) q := by
    unfold impl_TwoVesselPlan.f
    exact Ev.bind F2 (Ev.const rfl)
  have EQ := eqMv_ev q.1 (by omega)
  unfold laws_FnExactTwoVesselPlan.f
  refine Ev.bind E1 (Ev.bind E2 (Ev.bind EQ (Ev.pos rfl (Ev.succ ?_))))
  simp only [laws_FnExactTwoVesselPlan.j0, bne_self_eq_false]
  refine Ev.neg (by decide) (Ev.bind (markMv_ev q.1 (by omega)) (Ev.bind (heldMv_ev q.1.length (by omega)) (Ev.neg (by omega) (Ev.pos rfl (Ev.bind E2 (Ev.bind EQ (Ev.pos rfl (Ev.succ ?_))))))))
  simp only [laws_FnExactTwoVesselPlan.j1, bne_self_eq_false]
  exact Ev.neg (by decide) (Ev.bind (heldMv_ev q.1.length (by omega)) (Ev.neg (by omega) (Ev.pos rfl (Ev.const rfl))))
end Go.Proofs.Ytieioddimkafbaa.Pure
