/- FnExactIsReached: what the law's Go functions compute, as plain functions, and that the law holds of them at all arguments. -/
import Derived.Test.YtigpkicbigpilaaTcPuLaw
import Derived.Test.YtigpkicbigpilaaTcPuFind
import Derived.Test.YtigpkicbigpilaaTcLRx1
namespace Go.Proofs.Ytigpkicbigpilaa.Pure
open Go.RowKit Go.Proofs.Ytigpkicbigpilaa.V Go.Proofs.Ytigpkicbigpilaa Go.Proofs.Ytigpkicbigpilaa.PuB Go.Proofs.YtigpkicbigpilaaW.PrintLast Go.Proofs.YtigpkicbigpilaaW.PrintMore
open Go.Proofs.YtigpkicbigpilaaW.PrintWords hiding Ev
set_option linter.unusedVariables false
set_option linter.unusedSimpArgs false
theorem both (S H S' H' : List Int) (a : Bool) (h0 : S.length ≤ 1048576) (h1 : S'.length ≤ 1048576) : ∃ q : Bool × Bool, Ev (fun k => spec_IsReached.f k S H S' H' a) q ∧ Ev (fun k => impl_IsReached.f k S H S' H' a) q := by
  have EF := find_ev S H S' H' a h0 h1
  unfold spec_IsReached.f impl_IsReached.f
  by_cases c : (VOk S H && (VOk S' H' && decide (S = S'))) = true
  · obtain ⟨r, hr, E⟩ := all_ev S H S' H' a h0 c
    have ES := sizes_ev S H S' H' h0 h1
    rw [c] at ES
    cases e : fnd S H S' H' a with
    | none =>
      rw [e] at hr EF
      have hr' : r.2.2.2.2.2 = false := hr
      exact ⟨(false, false), Ev.bind ES (Ev.pos rfl (Ev.bind E (Ev.neg (by rw [hr']; decide) (Ev.const rfl)))), Ev.bind EF (Ev.neg (show ¬ (false = true) by decide) (Ev.const rfl))⟩
    | some st =>
      obtain ⟨⟨⟨i, G⟩, C⟩, hv, hv', hS⟩ := fnd_some e
      subst hS
      rw [e] at hr EF
      obtain ⟨ol, O, rfl⟩ := hr
      have F := VOk.facts hv
      have F2 := VOk.facts hv'
      obtain ⟨p, A, EP⟩ := place (S := S) O (fun h hh => by rw [G.ln h hh, F2.he]) (by rw [F2.he]; exact F.n1) (by rw [F2.he]) (by have := G.le; omega) st.frm st.mv st.dep
      refine ⟨(decide (H' ∈ st.hs), true), Ev.bind ES (Ev.pos rfl (Ev.bind E (Ev.pos rfl (Ev.bind EP (Ev.const rfl))))), Ev.bind EF (Ev.pos rfl (Ev.const ?_))⟩
      have key : decide (plc? st.hs H' ≥ 0) = decide (H' ∈ st.hs) := by
        rw [decide_eq_decide]
        unfold plc?
        by_cases c4 : H' ∈ st.hs
        · rw [if_pos c4]; exact ⟨fun _ => c4, fun _ => by omega⟩
        · rw [if_neg c4]; exact ⟨fun h => absurd h (by omega), fun h => absurd h c4⟩
      show some (decide (plc? st.hs H' ≥ 0), true) = _
      rw [key]
  · have ES := sizes_ev S H S' H' h0 h1
    rw [Bool.eq_false_iff.mpr c] at ES
    rw [fnd_no c] at EF
    exact ⟨(false, false), Ev.bind ES (Ev.neg (by decide) (Ev.const rfl)), Ev.bind EF (Ev.neg (show ¬ (false = true) by decide) (Ev.const rfl))⟩
theorem FnExactIsReached (S H S' H' : List Int) (a : Bool) (h0 : S.length ≤ 9223372036854775807) (_ : ∀ x ∈ S, (Lit.int .i64 x).wf = true) (h1 : H.length ≤ 9223372036854775807) (_ : ∀ x ∈ H, (Lit.int .i64 x).wf = true) (g0 : S'.length ≤ 9223372036854775807) (_ : ∀ x ∈ S', (Lit.int .i64 x).wf = true) (g1 : H'.length ≤ 9223372036854775807) (_ : ∀ x ∈ H', (Lit.int .i64 x).wf = true) : ∃ k, laws_FnExactIsReached.f k S H S' H' a = some true := by
  refine Ev.ex (f := fun k => laws_FnExactIsReached.f k S H S' H' a) ?_
  obtain ⟨r, hr, hc⟩ := szV2 S H S' H' h0 h1 g0 g1
  unfold laws_FnExactIsReached.f
  rw [hr]; simp only [Option.bind_some]
  rcases hc with hc | ⟨c0, c1, c2, q0, hq0, hc⟩
  · exact Ev.pos hc (Ev.const rfl)
  · refine Ev.neg (by omega) ?_
    rw [hq0]; simp only [Option.bind_some]
    rcases hc with hc | ⟨d0, d1, d2⟩
    · exact Ev.pos hc (Ev.const rfl)
    · refine Ev.neg (by omega) ?_
      obtain ⟨q, E1, E2⟩ := both S H S' H' a c1 d1
      have T1 := toV_ev S H c1 c2
      have T2 := toV_ev S' H' d1 d2
      refine Ev.bind T1 (Ev.bind T2 (Ev.bind E1 (Ev.bind T1 (Ev.bind T2 (Ev.bind E2 (Ev.neg (by simp) (Ev.succ ?_)))))))
      simp only [laws_FnExactIsReached.j0, bne_self_eq_false]
      exact Ev.neg (by decide) (Ev.bind T1 (Ev.bind (eqV_ev S H c1 c2) (Ev.pos rfl (Ev.bind T2 (Ev.bind (eqV_ev S' H' d1 d2) (Ev.pos rfl (Ev.const rfl)))))))
end Go.Proofs.Ytigpkicbigpilaa.Pure
