/- FnExactCountStates: what the law's Go functions compute, as plain functions, and that the law holds of them at all arguments. -/
import Derived.Test.YtigpkicbigpilaaTaPuLaw
import Derived.Test.YtigpkicbigpilaaTaLCx1
namespace Go.Proofs.Ytigpkicbigpilaa.Pure
open Go.RowKit Go.Proofs.Ytigpkicbigpilaa.V Go.Proofs.Ytigpkicbigpilaa Go.Proofs.Ytigpkicbigpilaa.PuB Go.Proofs.YtigpkicbigpilaaW.PrintLast Go.Proofs.YtigpkicbigpilaaW.PrintMore
open Go.Proofs.YtigpkicbigpilaaW.PrintWords hiding Ev
set_option linter.unusedVariables false
set_option linter.unusedSimpArgs false
theorem both (S H : List Int) (a : Bool) (h0 : S.length ≤ 1048576) : ∃ q : Int × Bool, Ev (fun k => spec_CountStates.f k S H a) q ∧ Ev (fun k => impl_CountStates.f k S H a) q := by
  obtain ⟨r, hr, E⟩ := asked_ev S H a h0
  have EI := reach_ev S H a h0
  unfold spec_CountStates.f impl_CountStates.f
  cases e : got S H a with
  | none =>
    rw [e] at hr EI
    have hr' : r.2.2.2.2.2 = false := hr
    exact ⟨(0, false), Ev.bind E (Ev.neg (by rw [hr']; decide) (Ev.const rfl)), Ev.bind EI (Ev.const rfl)⟩
  | some st =>
    rw [e] at hr EI
    obtain ⟨ol, O, rfl⟩ := hr
    exact ⟨((st.hs.length : Int), true), Ev.bind E (Ev.pos rfl (Ev.const (by simp))), Ev.bind EI (Ev.const (by simp [resI]))⟩
theorem FnExactCountStates (S H : List Int) (a : Bool) (h0 : S.length ≤ 9223372036854775807) (_ : ∀ x ∈ S, (Lit.int .i64 x).wf = true) (h1 : H.length ≤ 9223372036854775807) (_ : ∀ x ∈ H, (Lit.int .i64 x).wf = true) : ∃ k, laws_FnExactCountStates.f k S H a = some true := by
  refine Ev.ex (f := fun k => laws_FnExactCountStates.f k S H a) ?_
  obtain ⟨r, hr, hc⟩ := szV_f S H h0 h1
  unfold laws_FnExactCountStates.f
  rw [hr]; simp only [Option.bind_some]
  rcases hc with hc | ⟨c0, c1, c2⟩
  · exact Ev.pos hc (Ev.const rfl)
  · refine Ev.neg (by omega) ?_
    obtain ⟨q, E1, E2⟩ := both S H a c1
    refine Ev.bind (toV_ev S H c1 c2) (Ev.bind E1 (Ev.bind (toV_ev S H c1 c2) (Ev.bind E2 (Ev.pos rfl (Ev.succ ?_)))))
    simp only [laws_FnExactCountStates.j0, bne_self_eq_false]
    exact Ev.neg (by decide) (Ev.bind (toV_ev S H c1 c2) (Ev.bind (eqV_ev S H c1 c2) (Ev.pos rfl (Ev.const rfl))))
end Go.Proofs.Ytigpkicbigpilaa.Pure
