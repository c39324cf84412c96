/- FnExactTwoVesselLength: what the law's Go functions compute, as plain functions, and that the law holds of them at all arguments. -/
import Derived.Test.YtieioddimkafbaaTaPuLaw
import Derived.Test.YtieioddimkafbaaTaPuAmt
import Derived.Test.YtieioddimkafbaaTaLVx1
namespace Go.Proofs.Ytieioddimkafbaa.Pure
open Go.RowKit Go.Proofs.Ytieioddimkafbaa.V Go.Proofs.Ytieioddimkafbaa Go.Proofs.Ytieioddimkafbaa.PuB Go.Proofs.YtieioddimkafbaaW.PrintLast Go.Proofs.YtieioddimkafbaaW.PrintMore
open Go.Proofs.YtieioddimkafbaaW.PrintWords hiding Ev
set_option linter.unusedVariables false
set_option linter.unusedSimpArgs false
theorem FnExactTwoVesselLength (a b x : Int) (_ : (Lit.int .i64 a).wf = true) (_ : (Lit.int .i64 b).wf = true) (_ : (Lit.int .i64 x).wf = true) : ∃ k, laws_FnExactTwoVesselLength.f k a b x = some true := by
  refine Ev.ex (f := fun k => laws_FnExactTwoVesselLength.f k a b x) ?_
  obtain ⟨q, hq, hn, F1, F2⟩ := amt_both [a, b] [0, 0] x false (by simp)
  have E1 : Ev (fun k => spec_TwoVesselLength.f k a b x) ((q.1.length : Int), q.2) := by
    unfold spec_TwoVesselLength.f spec_plTwo.f
    refine Ev.bind (Ev.const rfl) (Ev.bind F1 ?_)
    cases h : q.2 with
    | true => exact Ev.pos rfl (Ev.const rfl)
    | false => refine Ev.neg (by decide) (Ev.const ?_); rw [hn h]; rfl
  have E2 : Ev (fun k => impl_TwoVesselLength.f k a b x) ((q.1.length : Int), q.2) := by
    unfold impl_TwoVesselLength.f impl_TwoVesselPlan.f
    exact Ev.bind (Ev.bind F2 (Ev.const rfl)) (Ev.const rfl)
  unfold laws_FnExactTwoVesselLength.f
  exact Ev.bind E1 (Ev.bind E2 (Ev.pos rfl (Ev.neg (by show ¬ (q.2 != q.2) = true; simp) (Ev.const rfl))))
end Go.Proofs.Ytieioddimkafbaa.Pure
