/- FnExactAmountsOf: what the law's Go functions compute, as plain functions, and that the law holds of them at all arguments. -/
import Derived.Test.YtieioddimkafbaaTbPuLaw
import Derived.Test.YtieioddimkafbaaTbPuSum
import Derived.Test.YtieioddimkafbaaTbLMx1
namespace Go.Proofs.Ytieioddimkafbaa.Pure
open Go.RowKit Go.Proofs.Ytieioddimkafbaa.V Go.Proofs.Ytieioddimkafbaa Go.Proofs.Ytieioddimkafbaa.PuB Go.Proofs.YtieioddimkafbaaW.PrintLast Go.Proofs.YtieioddimkafbaaW.PrintMore
open Go.Proofs.YtieioddimkafbaaW.PrintWords hiding Ev
set_option linter.unusedVariables false
set_option linter.unusedSimpArgs false
theorem am_l1 (X : List Vs) (L i : Int) (h : List Int) (hb : h.length ≤ 1000) (q : List Int × Bool) : ∀ (d j : Nat) (m : List Bool), j + d = h.length → (∀ x ∈ h, 0 ≤ x ∧ x < m.length) → Ev (fun k => spec_AmountsOf.l0 k (marks m (h.drop j)) X L (wrap64 (i + 1))) q → Ev (fun k => spec_AmountsOf.l1 k m X L i h (h.length : Int) (j : Int)) q := by
  intro d
  induction d with
  | zero =>
    intro j m hj hx E
    refine Ev.succ ?_
    simp only [spec_AmountsOf.l1]
    rw [List.drop_eq_nil_of_le (by omega)] at E
    exact Ev.neg (by omega) E
  | succ d ih =>
    intro j m hj hx E
    refine Ev.succ ?_
    simp only [spec_AmountsOf.l1]
    rw [drop_rd h j (by omega)] at E
    have hm : rd h (j : Int) ∈ h := by rw [rd_getD, getD_get _ _ _ (by omega)]; exact List.getElem_mem _
    have := hx _ hm
    refine Ev.pos (by omega) (Ev.pos (by omega) (Ev.pos (by omega) (Ev.pos this.1 (Ev.pos this.2 ?_))))
    rw [w64 (x := (j : Int) + 1) (by omega) (by omega)]
    have := ih (j + 1) (m.set (rd h (j : Int)).toNat true) (by omega) (fun x hx' => by rw [List.length_set]; exact hx x hx') E
    exact_mod_cast this
theorem am_l0 (S : List Int) (hs : List (List Int)) (hb : hs.length ≤ 3000) (hF : ∀ h ∈ hs, h.length ≤ 5 ∧ ∀ x ∈ h, 0 ≤ x ∧ x ≤ 60) (r : List Int) : ∀ (d i : Nat) (m : List Bool), i + d = hs.length → m.length = 61 → Ev (fun k => spec_plNumbers.f k (marks m (hs.drop i).flatten)) r → Ev (fun k => spec_AmountsOf.l0 k m (hs.map (vs S)) ((hs.map (vs S)).length : Int) (i : Int)) (r, true) := by
  intro d
  induction d with
  | zero =>
    intro i m hi hm E
    refine Ev.succ ?_
    simp only [spec_AmountsOf.l0]
    rw [List.drop_eq_nil_of_le (by omega)] at E
    exact Ev.neg (by rw [List.length_map]; omega) (Ev.bind E (Ev.const rfl))
  | succ d ih =>
    intro i m hi hm E
    have hl : (hs.map (vs S)).length = hs.length := List.length_map ..
    refine Ev.succ ?_
    simp only [spec_AmountsOf.l0]
    refine Ev.pos (by omega) (Ev.pos (by omega) (Ev.pos (by omega) ?_))
    rw [rdV S hs i (by omega)]
    obtain ⟨f1, f2⟩ := hF _ (mem_getD hs i (by omega))
    rw [drop_hs hs i (by omega), List.flatten_cons, marks_app] at E
    have ih' := ih (i + 1) (marks m (hs.getD i [])) (by omega) (by rw [marks_len]; exact hm) E
    have := am_l1 (hs.map (vs S)) ((hs.map (vs S)).length : Int) (i : Int) (hs.getD i []) (by omega) (r, true) (hs.getD i []).length 0 m (by omega) (fun x hx => by have := f2 x hx; omega) (by rw [w64 (by omega) (by omega)]; exact_mod_cast ih')
    exact_mod_cast this
theorem am_i0 (S : List Int) (hs : List (List Int)) (hb : hs.length ≤ 3000) (hF : ∀ h ∈ hs, h.length ≤ 5 ∧ ∀ x ∈ h, 0 ≤ x ∧ x ≤ 60) (r : List Int) : ∀ (d i : Nat) (acc : List Int), i + d = hs.length → acc.length ≤ 5 * i → Ev (fun k => impl_increasing.f k (acc ++ (hs.drop i).flatten)) r → Ev (fun k => impl_AmountsOf.l0 k acc (hs.map (vs S)) ((hs.map (vs S)).length : Int) (i : Int)) (r, true) := by
  intro d
  induction d with
  | zero =>
    intro i acc hi hm E
    refine Ev.succ ?_
    simp only [impl_AmountsOf.l0]
    rw [List.drop_eq_nil_of_le (by omega)] at E
    simp only [List.flatten_nil, List.append_nil] at E
    exact Ev.neg (by rw [List.length_map]; omega) (Ev.bind E (Ev.const rfl))
  | succ d ih =>
    intro i acc hi hm E
    have hl : (hs.map (vs S)).length = hs.length := List.length_map ..
    refine Ev.succ ?_
    simp only [impl_AmountsOf.l0]
    obtain ⟨f1, f2⟩ := hF _ (mem_getD hs i (by omega))
    rw [rdV S hs i (by omega)]
    rw [drop_hs hs i (by omega), List.flatten_cons, ← List.append_assoc] at E
    have ih' := ih (i + 1) (acc ++ hs.getD i []) (by omega) (by rw [List.length_append]; omega) E
    refine Ev.pos (by omega) (Ev.pos (by omega) (Ev.pos (by omega) (Ev.pos (by show acc.length + (hs.getD i []).length < _; omega) ?_)))
    rw [w64 (by omega) (by omega)]
    exact_mod_cast ih'
theorem both (S H : List Int) (a : Bool) (h0 : S.length ≤ 1048576) : ∃ q : List Int × Bool, q.1.length ≤ 10000 ∧ Ev (fun k => spec_AmountsOf.f k S H a) q ∧ Ev (fun k => impl_AmountsOf.f k S H a) q := by
  obtain ⟨r, hr, E⟩ := asked_ev S H a h0
  have EI := reach_ev S H a h0
  unfold spec_AmountsOf.f impl_AmountsOf.f
  cases e : got S H a with
  | none =>
    rw [e] at hr EI
    have hr' : r.2.2.2.2.2 = false := hr
    exact ⟨([], false), by simp, Ev.bind E (Ev.neg (by rw [hr']; decide) (Ev.const rfl)), Ev.bind EI (Ev.neg (show ¬ (false = true) by decide) (Ev.const rfl))⟩
  | some st =>
    obtain ⟨⟨⟨i, G⟩, C⟩, hv⟩ := got_fin e
    rw [e] at hr EI
    obtain ⟨ol, O, rfl⟩ := hr
    have F0 := VOk.facts hv
    have hF : ∀ h ∈ st.hs, h.length ≤ 5 ∧ ∀ x ∈ h, 0 ≤ x ∧ x ≤ 60 := fun h hh => ⟨by have := G.ln h hh; have := F0.n1; omega, held_bd (G.F h hh)⟩
    have hx : ∀ x ∈ st.hs.flatten, 0 ≤ x ∧ x < ((61 : Nat) : Int) := fun x hx => by
      obtain ⟨h, h1, h2⟩ := List.mem_flatten.1 hx
      have := (hF h h1).2 x h2; omega
    have hn : (numsM (marks (List.replicate 61 false) st.hs.flatten) 0).length ≤ 61 := by
      have := numsM_len (marks (List.replicate 61 false) st.hs.flatten) 0
      rw [marks_len, List.length_replicate] at this; exact this
    have hfl : 0 < st.hs.flatten.length := by
      have z := G.z.2.2.2
      have hm := mem_getD st.hs 0 z
      have hl := G.ln _ hm
      have := F0.n0
      obtain ⟨x, hx⟩ := List.exists_mem_of_length_pos (l := st.hs.getD 0 []) (by omega)
      exact List.length_pos_of_mem (List.mem_flatten.2 ⟨_, hm, hx⟩)
    have hfu := flat_len st.hs 5 fun h hh => (hF h hh).1
    have hle := G.le
    have M := marks_sorted 61 st.hs.flatten hx
    refine ⟨(numsM (marks (List.replicate 61 false) st.hs.flatten) 0, true), by show (numsM _ _).length ≤ _; omega, Ev.bind E (Ev.pos rfl (Ev.pos (by omega) ?_)), Ev.bind EI (Ev.pos rfl ?_)⟩
    · have := am_l0 S st.hs hle hF _ st.hs.length 0 (List.replicate 61 false) (by omega) List.length_replicate (by rw [List.drop_zero]; exact pn_ev _ (by rw [marks_len, List.length_replicate]; omega))
      exact_mod_cast this
    · have := am_i0 S st.hs hle hF (numsM (marks (List.replicate 61 false) st.hs.flatten) 0) st.hs.length 0 [] (by omega) (by simp) (by rw [List.drop_zero, List.nil_append, M]; exact inc_ev _ hfl (by omega))
      exact_mod_cast this
theorem FnExactAmountsOf (S H : List Int) (a : Bool) (h0 : S.length ≤ 9223372036854775807) (_ : ∀ x ∈ S, (Lit.int .i64 x).wf = true) (h1 : H.length ≤ 9223372036854775807) (_ : ∀ x ∈ H, (Lit.int .i64 x).wf = true) : ∃ k, laws_FnExactAmountsOf.f k S H a = some true := by
  refine Ev.ex (f := fun k => laws_FnExactAmountsOf.f k S H a) ?_
  obtain ⟨r, hr, hc⟩ := szV_f S H h0 h1
  unfold laws_FnExactAmountsOf.f
  rw [hr]; simp only [Option.bind_some]
  rcases hc with hc | ⟨c0, c1, c2⟩
  · exact Ev.pos hc (Ev.const rfl)
  · refine Ev.neg (by omega) ?_
    obtain ⟨q, hq, E1, E2⟩ := both S H a c1
    refine Ev.bind (toV_ev S H c1 c2) (Ev.bind E1 (Ev.bind (toV_ev S H c1 c2) (Ev.bind E2 (Ev.bind (eqI_ev q.1 (by omega)) (Ev.pos rfl (Ev.succ ?_))))))
    simp only [laws_FnExactAmountsOf.j0, bne_self_eq_false]
    refine Ev.neg (by decide) (Ev.bind (toV_ev S H c1 c2) (Ev.bind (eqV_ev S H c1 c2) (Ev.pos rfl (Ev.bind (markV_ev S H c1 c2) (Ev.neg (by show ¬ (_ : Int) < 0; omega) (Ev.bind (eqI_ev q.1 (by omega)) (Ev.pos rfl (Ev.succ ?_))))))))
    simp only [laws_FnExactAmountsOf.j1]
    refine Ev.neg (by decide) (Ev.bind (markI_ev q.1 (by omega)) (Ev.bind (heldI_ev q.1.length (by omega)) (Ev.neg (by omega) (Ev.pos rfl (Ev.bind (toV_ev S H c1 c2) (Ev.bind E2 (Ev.bind (eqI_ev q.1 (by omega)) (Ev.pos rfl (Ev.succ ?_)))))))))
    simp only [laws_FnExactAmountsOf.j2, bne_self_eq_false]
    exact Ev.neg (by decide) (Ev.bind (heldI_ev q.1.length (by omega)) (Ev.neg (by omega) (Ev.pos rfl (Ev.const rfl))))
end Go.Proofs.Ytieioddimkafbaa.Pure
