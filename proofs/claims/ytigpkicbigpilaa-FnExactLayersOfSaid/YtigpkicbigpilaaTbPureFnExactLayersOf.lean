/- FnExactLayersOf: what the law's Go functions compute, as plain functions, and that the law holds of them at all arguments. -/
import Derived.Test.YtigpkicbigpilaaTbPuLaw
import Derived.Test.YtigpkicbigpilaaTbPuMax
import Derived.Test.YtigpkicbigpilaaTbLLx1
namespace Go.Proofs.Ytigpkicbigpilaa.Pure
open Go.RowKit Go.Proofs.Ytigpkicbigpilaa.V Go.Proofs.Ytigpkicbigpilaa Go.Proofs.Ytigpkicbigpilaa.PuB Go.Proofs.YtigpkicbigpilaaW.PrintLast Go.Proofs.YtigpkicbigpilaaW.PrintMore
open Go.Proofs.YtigpkicbigpilaaW.PrintWords hiding Ev
set_option linter.unusedVariables false
set_option linter.unusedSimpArgs false
/-- How many there are of each number. -/
def cnt : List Int → List Int → List Int
  | acc, [] => acc
  | acc, d :: t => cnt (acc.set d.toNat (wrap64 (rd acc d + 1))) t
theorem cnt_len : ∀ (t acc : List Int), (cnt acc t).length = acc.length
  | [], acc => rfl
  | d :: t, acc => by simp only [cnt]; rw [cnt_len t]; simp
theorem lay_spec (x : List Int) (n : Nat) (hb : x.length ≤ 10000) (hx : ∀ i : Nat, i < x.length → 0 ≤ x.getD i 0 ∧ x.getD i 0 < n) : ∀ (d i : Nat) (acc : List Int), i + d = x.length → acc.length = n → Ev (fun k => spec_LayersOf.l0 k acc x (x.length : Int) (i : Int)) (cnt acc (x.drop i), true) := by
  intro d
  induction d with
  | zero =>
    intro i acc hi hn
    refine Ev.succ ?_
    simp only [spec_LayersOf.l0]
    refine Ev.neg (by omega) (Ev.const ?_)
    rw [List.drop_eq_nil_of_le (by omega)]; rfl
  | succ d ih =>
    intro i acc hi hn
    refine Ev.succ ?_
    simp only [spec_LayersOf.l0]
    have := hx i (by omega)
    rw [rd_getD]
    refine Ev.pos (by omega) (Ev.pos (by omega) (Ev.pos (by omega) (Ev.pos (by omega) (Ev.pos (by omega) ?_))))
    rw [w64 (x := (i : Int) + 1) (by omega) (by omega), drop_rd x i (by omega), rd_getD]
    simp only [cnt]
    have := ih (i + 1) (acc.set (x.getD i 0).toNat (wrap64 (rd acc (x.getD i 0) + 1))) (by omega) (by simp [hn])
    exact_mod_cast this
theorem lay_impl (x : List Int) (n : Nat) (hb : x.length ≤ 10000) (hx : ∀ i : Nat, i < x.length → 0 ≤ x.getD i 0 ∧ x.getD i 0 < n) : ∀ (d i : Nat) (acc : List Int), i + d = x.length → acc.length = n → Ev (fun k => impl_LayersOf.l0 k acc x (x.length : Int) (i : Int)) (cnt acc (x.drop i), true) := by
  intro d
  induction d with
  | zero =>
    intro i acc hi hn
    refine Ev.succ ?_
    simp only [impl_LayersOf.l0]
    refine Ev.neg (by omega) (Ev.const ?_)
    rw [List.drop_eq_nil_of_le (by omega)]; rfl
  | succ d ih =>
    intro i acc hi hn
    refine Ev.succ ?_
    simp only [impl_LayersOf.l0]
    have := hx i (by omega)
    rw [rd_getD]
    refine Ev.pos (by omega) (Ev.pos (by omega) (Ev.pos (by omega) (Ev.pos (by omega) (Ev.pos (by omega) ?_))))
    rw [w64 (x := (i : Int) + 1) (by omega) (by omega), drop_rd x i (by omega), rd_getD]
    simp only [cnt]
    have := ih (i + 1) (acc.set (x.getD i 0).toNat (wrap64 (rd acc (x.getD i 0) + 1))) (by omega) (by simp [hn])
    exact_mod_cast this
theorem both (S H : List Int) (a : Bool) (h0 : S.length ≤ 1048576) : ∃ q : List Int × Bool, q.1.length ≤ 10000 ∧ Ev (fun k => spec_LayersOf.f k S H a) q ∧ Ev (fun k => impl_LayersOf.f k S H a) q := by
  obtain ⟨r, hr, E⟩ := asked_ev S H a h0
  have EI := reach_ev S H a h0
  unfold spec_LayersOf.f impl_LayersOf.f
  cases e : got S H a with
  | none =>
    rw [e] at hr EI
    have hr' : r.2.2.2.2.2 = false := hr
    exact ⟨([], false), by simp, Ev.bind E (Ev.neg (by rw [hr']; decide) (Ev.const rfl)), Ev.bind EI (Ev.neg (show ¬ (false = true) by decide) (Ev.const rfl))⟩
  | some st =>
    obtain ⟨⟨⟨i, G⟩, C⟩, hv⟩ := got_fin e
    rw [e] at hr EI
    obtain ⟨ol, O, rfl⟩ := hr
    have hle := G.le
    have hz := G.z.2.2.2
    have h1 := G.l1
    have hlast := G.dpos (st.hs.length - 1) (by omega)
    generalize hm : st.dep.getD (st.hs.length - 1) 0 = m at hlast
    have hm' : rd st.dep (wrap64 ((st.dep.length : Int) - 1)) = m := by
      rw [w64 (by omega) (by omega), h1, show ((st.hs.length : Int) - 1) = ((st.hs.length - 1 : Nat) : Int) by omega, rd_getD, hm]
    have hw : wrap64 (m + 1) = m + 1 := w64 (by omega) (by omega)
    have hx : ∀ j : Nat, j < st.dep.length → 0 ≤ st.dep.getD j 0 ∧ st.dep.getD j 0 < ((m + 1).toNat : Int) := fun j hj => by
      have q1 := G.dpos j (by omega)
      have q2 := G.dmono j (st.hs.length - 1) (by omega) (by omega)
      omega
    refine ⟨(cnt (List.replicate (m + 1).toNat 0) st.dep, true), by rw [cnt_len]; simp; omega, ?_, ?_⟩
    · refine Ev.bind E (Ev.pos rfl ?_)
      simp only [hm', hw]
      refine Ev.pos (by rw [w64 (by omega) (by omega)]; omega) (Ev.pos (by rw [w64 (by omega) (by omega)]; omega) (Ev.pos (by omega) (Ev.pos (by omega) ?_)))
      have := lay_spec st.dep (m + 1).toNat (by omega) hx st.dep.length 0 (List.replicate (m + 1).toNat 0) (by omega) (by simp)
      exact_mod_cast this
    · refine Ev.bind EI (Ev.pos rfl ?_)
      refine Ev.bind (x := m) (by rw [← hm, ← h1]; exact max_ev st.dep (by omega) (by omega) (fun i j h1' h2' => G.dmono i j h1' (by omega))) ?_
      simp only [hw]
      refine Ev.pos (by omega) (Ev.pos (by omega) ?_)
      have := lay_impl st.dep (m + 1).toNat (by omega) hx st.dep.length 0 (List.replicate (m + 1).toNat 0) (by omega) (by simp)
      exact_mod_cast this
theorem FnExactLayersOf (S H : List Int) (a : Bool) (h0 : S.length ≤ 9223372036854775807) (_ : ∀ x ∈ S, (Lit.int .i64 x).wf = true) (h1 : H.length ≤ 9223372036854775807) (_ : ∀ x ∈ H, (Lit.int .i64 x).wf = true) : ∃ k, laws_FnExactLayersOf.f k S H a = some true := by
  refine Ev.ex (f := fun k => laws_FnExactLayersOf.f k S H a) ?_
  obtain ⟨r, hr, hc⟩ := szV_f S H h0 h1
  unfold laws_FnExactLayersOf.f
  rw [hr]; simp only [Option.bind_some]
  rcases hc with hc | ⟨c0, c1, c2⟩
  · exact Ev.pos hc (Ev.const rfl)
  · refine Ev.neg (by omega) ?_
    obtain ⟨q, hq, E1, E2⟩ := both S H a c1
    refine Ev.bind (toV_ev S H c1 c2) (Ev.bind E1 (Ev.bind (toV_ev S H c1 c2) (Ev.bind E2 (Ev.bind (eqI_ev q.1 (by omega)) (Ev.pos rfl (Ev.succ ?_))))))
    simp only [laws_FnExactLayersOf.j0, bne_self_eq_false]
    refine Ev.neg (by decide) (Ev.bind (toV_ev S H c1 c2) (Ev.bind (eqV_ev S H c1 c2) (Ev.pos rfl (Ev.bind (markV_ev S H c1 c2) (Ev.neg (by omega) (Ev.bind (eqI_ev q.1 (by omega)) (Ev.pos rfl (Ev.succ ?_))))))))
    simp only [laws_FnExactLayersOf.j1]
    refine Ev.neg (by decide) (Ev.bind (markI_ev q.1 (by omega)) (Ev.bind (heldI_ev q.1.length (by omega)) (Ev.neg (by omega) (Ev.pos rfl (Ev.bind (toV_ev S H c1 c2) (Ev.bind E2 (Ev.bind (eqI_ev q.1 (by omega)) (Ev.pos rfl (Ev.succ ?_)))))))))
    simp only [laws_FnExactLayersOf.j2, bne_self_eq_false]
    exact Ev.neg (by decide) (Ev.bind (heldI_ev q.1.length (by omega)) (Ev.neg (by omega) (Ev.pos rfl (Ev.const rfl))))
end Go.Proofs.Ytigpkicbigpilaa.Pure
