/- FnExactPlanTo: what the law's Go functions compute, as plain functions, and that the law holds of them at all arguments. -/
import Derived.Test.YtieioddimkafbaaTtPuLaw
import Derived.Test.YtieioddimkafbaaTtPuWay
import Derived.Test.YtieioddimkafbaaTtPuNd
import Derived.Test.YtieioddimkafbaaTtLTx1
namespace Go.Proofs.Ytieioddimkafbaa.Pure
open Go.RowKit Go.Proofs.Ytieioddimkafbaa.V Go.Proofs.Ytieioddimkafbaa Go.Proofs.Ytieioddimkafbaa.PuB Go.Proofs.YtieioddimkafbaaW.PrintLast Go.Proofs.YtieioddimkafbaaW.PrintMore
open Go.Proofs.YtieioddimkafbaaW.PrintWords hiding Ev
set_option linter.unusedVariables false
set_option linter.unusedSimpArgs false
theorem at_idx {hs : List (List Int)} {ol : List Nat} {v : List Int} {p : Nat} (O : PuB.Ord hs ol) (A : AtP hs ol v p) (nd : hs.Nodup) (c : v ∈ hs) : p < ol.length ∧ ol.getD p 0 = hs.idxOf v ∧ hs.idxOf v < hs.length := by
  obtain ⟨h1, h2⟩ := (atP_mem O A).1 c
  have hi : hs.idxOf v < hs.length := List.idxOf_lt_length_iff.2 c
  refine ⟨h1, ?_, hi⟩
  refine nodup_idx nd (O.ltD p h1) hi ?_
  rw [← getD_get hs _ [] (O.ltD p h1), h2]
  exact (List.getElem_idxOf hi).symm
theorem both (S H S' H' : List Int) (a : Bool) (h0 : S.length ≤ 1048576) (h1 : S'.length ≤ 1048576) : ∃ q : List Mv × Bool, q.1.length ≤ 10000 ∧ Ev (fun k => spec_PlanTo.f k S H S' H' a) q ∧ Ev (fun k => impl_PlanTo.f k S H S' H' a) q := by
  have EF := find_ev S H S' H' a h0 h1
  unfold spec_PlanTo.f impl_PlanTo.f
  by_cases c : (VOk S H && (VOk S' H' && decide (S = S'))) = true
  · obtain ⟨r, hr, E⟩ := all_ev S H S' H' a h0 c
    have ES := sizes_ev S H S' H' h0 h1
    rw [c] at ES
    cases e : fnd S H S' H' a with
    | none =>
      rw [e] at hr EF
      have hr' : r.2.2.2.2.2 = false := hr
      exact ⟨([], false), by simp, Ev.bind ES (Ev.pos rfl (Ev.bind E (Ev.neg (by rw [hr']; decide) (Ev.const rfl)))), Ev.bind EF (Ev.pos (show (-1 : Int) < 0 by decide) (Ev.const rfl))⟩
    | some st =>
      obtain ⟨⟨⟨i, G⟩, C⟩, hv, hv', hS⟩ := fnd_some e
      subst hS
      rw [e] at hr EF
      obtain ⟨ol, O, rfl⟩ := hr
      have F := VOk.facts hv
      have F2 := VOk.facts hv'
      obtain ⟨p, A, EP⟩ := place (S := S) O (fun h hh => by rw [G.ln h hh, F2.he]) (by rw [F2.he]; exact F.n1) (by rw [F2.he]) (by have := G.le; omega) st.frm st.mv st.dep
      by_cases c4 : H' ∈ st.hs
      · obtain ⟨hp, hx, hi⟩ := at_idx O A G.nd c4
        have hle := G.le
        obtain ⟨W, w1, w2, w3⟩ := way_ev G (Nat.le_refl _) (st.hs.map (vs S)) st.dep (oli ol) (st.hs.map (vs S)) (PuB.plc st.hs) st.dep (st.hs.idxOf H') hi
        have hr : rd (oli ol) (p : Int) = ((st.hs.idxOf H' : Nat) : Int) := by rw [oli_rd _ _ hp, hx]
        have hq : plc? st.hs H' = ((st.hs.idxOf H' : Nat) : Int) := by unfold plc?; rw [if_pos c4]
        refine ⟨(W.reverse, true), by simp; omega, Ev.bind ES (Ev.pos rfl (Ev.bind E (Ev.pos rfl (Ev.bind EP (Ev.pos (by show decide _ = true; rw [decide_eq_true c4]) (Ev.pos (by show 0 ≤ (p : Int); omega) (Ev.pos (by show (p : Int) < ((oli ol).length : Int); rw [oli_len]; omega) (Ev.bind (x := W.reverse) ?_ (Ev.const rfl))))))))), Ev.bind EF (Ev.neg (by show ¬ plc? st.hs H' < 0; omega) (Ev.bind (x := W.reverse) ?_ (Ev.const rfl)))⟩
        · have := w2 [] (by simp; omega)
          unfold spec_plWay.f
          show Ev (fun k => spec_plWay.l0 k (rd (oli ol) (p : Int)) _ _ _ _ _ _) _
          rw [hr]
          simpa using this
        · have := w3 [] (by simp; omega)
          unfold impl_reach_planTo.f
          show Ev (fun k => impl_reach_planTo.l0 k (plc? st.hs H') _ _ _ _ _ _) _
          rw [hq]
          simp only [List.nil_append] at this
          exact this
      · refine ⟨([], false), by simp, Ev.bind ES (Ev.pos rfl (Ev.bind E (Ev.pos rfl (Ev.bind EP (Ev.neg (by show ¬ decide _ = true; rw [decide_eq_false c4]; decide) (Ev.const rfl)))))), Ev.bind EF (Ev.pos ?_ (Ev.const rfl))⟩
        show plc? st.hs H' < 0
        unfold plc?
        rw [if_neg c4]; omega
  · have ES := sizes_ev S H S' H' h0 h1
    rw [Bool.eq_false_iff.mpr c] at ES
    rw [fnd_no c] at EF
    exact ⟨([], false), by simp, Ev.bind ES (Ev.neg (by decide) (Ev.const rfl)), Ev.bind EF (Ev.pos (show (-1 : Int) < 0 by decide) (Ev.const rfl))⟩
theorem FnExactPlanTo (S H S' H' : List Int) (a : Bool) (h0 : S.length ≤ 9223372036854775807) (_ : ∀ x ∈ S, (Lit.int .i64 x).wf = true) (h1 : H.length ≤ 9223372036854775807) (_ : ∀ x ∈ H, (Lit.int .i64 x).wf = true) (g0 : S'.length ≤ 9223372036854775807) (_ : ∀ x ∈ S', (Lit.int .i64 x).wf = true) (g1 : H'.length ≤ 9223372036854775807) (_ : ∀ x ∈ H', (Lit.int .i64 x).wf = true) : ∃ k, laws_FnExactPlanTo.f k S H S' H' a = some true := by
  refine Ev.ex (f := fun k => laws_FnExactPlanTo.f k S H S' H' a) ?_
  obtain ⟨r, hr, hc⟩ := szV2 S H S' H' h0 h1 g0 g1
  unfold laws_FnExactPlanTo.f
  rw [hr]; simp only [Option.bind_some]
  rcases hc with hc | ⟨c0, c1, c2, q0, hq0, hc⟩
  · exact Ev.pos hc (Ev.const rfl)
  · refine Ev.neg (by omega) ?_
    rw [hq0]; simp only [Option.bind_some]
    rcases hc with hc | ⟨d0, d1, d2⟩
    · exact Ev.pos hc (Ev.const rfl)
    · refine Ev.neg (by omega) ?_
      obtain ⟨q, hq, E1, E2⟩ := both S H S' H' a c1 d1
      have T1 := toV_ev S H c1 c2
      have T2 := toV_ev S' H' d1 d2
      have EQ := eqMv_ev q.1 (by omega)
      refine Ev.bind T1 (Ev.bind T2 (Ev.bind E1 (Ev.bind T1 (Ev.bind T2 (Ev.bind E2 (Ev.bind EQ (Ev.pos rfl (Ev.succ ?_))))))))
      simp only [laws_FnExactPlanTo.j0, bne_self_eq_false]
      refine Ev.neg (by decide) (Ev.bind T1 (Ev.bind (eqV_ev S H c1 c2) (Ev.pos rfl (Ev.bind T2 (Ev.bind (eqV_ev S' H' d1 d2) (Ev.pos rfl (Ev.bind (markV_ev S H c1 c2) (Ev.bind (markVa_ev S' H' _ d1 d2 (by omega) (by omega)) (Ev.neg (by show ¬ (_ : Int) < 0; omega) (Ev.bind EQ (Ev.pos rfl (Ev.succ ?_))))))))))))
      simp only [laws_FnExactPlanTo.j1]
      refine Ev.neg (by decide) (Ev.bind (markMv_ev q.1 (by omega)) (Ev.bind (heldMv_ev q.1.length (by omega)) (Ev.neg (by omega) (Ev.pos rfl (Ev.bind T1 (Ev.bind T2 (Ev.bind E2 (Ev.bind EQ (Ev.pos rfl (Ev.succ ?_))))))))))
      simp only [laws_FnExactPlanTo.j2, bne_self_eq_false]
      exact Ev.neg (by decide) (Ev.bind (heldMv_ev q.1.length (by omega)) (Ev.neg (by omega) (Ev.pos rfl (Ev.const rfl))))
end Go.Proofs.Ytieioddimkafbaa.Pure
