/- FnExactPlanToAmount: what the law's Go functions compute, as plain functions, and that the law holds of them at all arguments. -/
import Derived.Test.YtieioddimkafbaaTaPuLaw
import Derived.Test.YtieioddimkafbaaTaPuAmt
import Derived.Test.YtieioddimkafbaaTaLAx1
namespace Go.Proofs.Ytieioddimkafbaa.Pure
open Go.RowKit Go.Proofs.Ytieioddimkafbaa.V Go.Proofs.Ytieioddimkafbaa Go.Proofs.Ytieioddimkafbaa.PuB Go.Proofs.YtieioddimkafbaaW.PrintLast Go.Proofs.YtieioddimkafbaaW.PrintMore
open Go.Proofs.YtieioddimkafbaaW.PrintWords hiding Ev
set_option linter.unusedVariables false
set_option linter.unusedSimpArgs false
theorem szV1 (S H : List Int) (h : S.length ≤ 9223372036854775807) (h' : H.length ≤ 9223372036854775807) : ∃ r, laws_szVessels.f S H 1048576 = some r ∧ (r < 0 ∨ (0 ≤ r ∧ S.length ≤ 1048576 ∧ H.length ≤ 1048576)) := by
  obtain ⟨r, h1, h2⟩ := szV2 S H [] [] h h' (by simp) (by simp)
  exact ⟨r, h1, by rcases h2 with h2 | h2; exact .inl h2; exact .inr ⟨h2.1, h2.2.1, h2.2.2.1⟩⟩
theorem FnExactPlanToAmount (S H : List Int) (x : Int) (a : Bool) (h0 : S.length ≤ 9223372036854775807) (_ : ∀ x ∈ S, (Lit.int .i64 x).wf = true) (h1 : H.length ≤ 9223372036854775807) (_ : ∀ x ∈ H, (Lit.int .i64 x).wf = true) (_ : (Lit.int .i64 x).wf = true) : ∃ k, laws_FnExactPlanToAmount.f k S H x a = some true := by
  refine Ev.ex (f := fun k => laws_FnExactPlanToAmount.f k S H x a) ?_
  obtain ⟨r, hr, hc⟩ := szV1 S H h0 h1
  unfold laws_FnExactPlanToAmount.f
  rw [hr]; simp only [Option.bind_some]
  rcases hc with hc | ⟨c0, c1, c2⟩
  · exact Ev.pos hc (Ev.const rfl)
  · refine Ev.neg (by omega) ?_
    obtain ⟨q, hq, _, E1, E2⟩ := amt_both S H x a c1
    have T1 := toV_ev S H c1 c2
    have EQ := eqMv_ev q.1 (by omega)
    refine Ev.bind T1 (Ev.bind E1 (Ev.bind T1 (Ev.bind E2 (Ev.bind EQ (Ev.pos rfl (Ev.succ ?_))))))
    simp only [laws_FnExactPlanToAmount.j0, bne_self_eq_false]
    refine Ev.neg (by decide) (Ev.bind T1 (Ev.bind (eqV_ev S H c1 c2) (Ev.pos rfl (Ev.bind (markV_ev S H c1 c2) (Ev.neg (by show ¬ (_ : Int) < 0; omega) (Ev.bind EQ (Ev.pos rfl (Ev.succ ?_))))))))
    simp only [laws_FnExactPlanToAmount.j1]
    refine Ev.neg (by decide) (Ev.bind (markMv_ev q.1 (by omega)) (Ev.bind (heldMv_ev q.1.length (by omega)) (Ev.neg (by omega) (Ev.pos rfl (Ev.bind T1 (Ev.bind E2 (Ev.bind EQ (Ev.pos rfl (Ev.succ ?_)))))))))
    simp only [laws_FnExactPlanToAmount.j2, bne_self_eq_false]
    exact Ev.neg (by decide) (Ev.bind (heldMv_ev q.1.length (by omega)) (Ev.neg (by omega) (Ev.pos rfl (Ev.const rfl))))
end Go.Proofs.Ytieioddimkafbaa.Pure
