/- FnExactSumsOf: what the law's Go functions compute, as plain functions, and that the law holds of them at all arguments. -/
import Derived.Test.YtieioddimkafbaaTbPuLaw
import Derived.Test.YtieioddimkafbaaTbPuSum
import Derived.Test.YtieioddimkafbaaTbLSx1
namespace Go.Proofs.Ytieioddimkafbaa.Pure
open Go.RowKit Go.Proofs.Ytieioddimkafbaa.V Go.Proofs.Ytieioddimkafbaa Go.Proofs.Ytieioddimkafbaa.PuB Go.Proofs.YtieioddimkafbaaW.PrintLast Go.Proofs.YtieioddimkafbaaW.PrintMore
open Go.Proofs.YtieioddimkafbaaW.PrintWords hiding Ev
set_option linter.unusedVariables false
set_option linter.unusedSimpArgs false
theorem su_l0 (h : List Int) (hb : h.length ≤ 5) (hx : ∀ x ∈ h, 0 ≤ x ∧ x ≤ 60) : ∀ (d k j : Nat) (s : Int), j + d = h.length → d < k → 0 ≤ s → s ≤ 60 * j → spec_veSum.l0 k s h (h.length : Int) (j : Int) = some (s + (h.drop j).sum) ∧ impl_total.l0 k s h (h.length : Int) (j : Int) = some (s + (h.drop j).sum) ∧ 0 ≤ s + (h.drop j).sum ∧ s + (h.drop j).sum ≤ 300
  | 0, 0, j, s, _, hk, _, _ => by omega
  | 0, k + 1, j, s, hj, hk, h0, h1 => by
    simp only [spec_veSum.l0, impl_total.l0]
    rw [if_neg (by omega), if_neg (by omega), List.drop_eq_nil_of_le (by omega)]
    exact ⟨by simp, by simp, by simpa using h0, by simp only [List.sum_nil]; omega⟩
  | d + 1, 0, j, s, _, hk, _, _ => by omega
  | d + 1, k + 1, j, s, hj, hk, h0, h1 => by
    have hm : rd h (j : Int) ∈ h := by rw [rd_getD, getD_get _ _ _ (by omega)]; exact List.getElem_mem _
    have := hx _ hm
    simp only [spec_veSum.l0, impl_total.l0]
    rw [if_pos (by omega), if_pos (by omega), if_pos (by omega), if_pos (by omega), if_pos (by omega), if_pos (by omega), w64 (x := (j : Int) + 1) (by omega) (by omega), w64 (x := s + rd h (j : Int)) (by omega) (by omega), drop_rd h j (by omega)]
    have ih := su_l0 h hb hx d k (j + 1) (s + rd h (j : Int)) (by omega) (by omega) (by omega) (by omega)
    rw [List.sum_cons, ← Int.add_assoc]
    rw [show ((j : Int) + 1) = ((j + 1 : Nat) : Int) by omega]
    exact ih
theorem su_ev (h : List Int) (hb : h.length ≤ 5) (hx : ∀ x ∈ h, 0 ≤ x ∧ x ≤ 60) : Ev (fun k => spec_veSum.f k h) h.sum ∧ Ev (fun k => impl_total.f k h) h.sum ∧ 0 ≤ h.sum ∧ h.sum ≤ 300 := by
  have P := fun (k : Nat) (hk : 10 < k) => su_l0 h hb hx h.length k 0 0 (by omega) (by omega) (by omega) (by omega)
  refine ⟨Ev.of 10 fun k hk => ?_, Ev.of 10 fun k hk => ?_, ?_, ?_⟩
  · have := (P k hk).1; unfold spec_veSum.f; simpa using this
  · have := (P k hk).2.1; unfold impl_total.f; simpa using this
  · have := (P 11 (by omega)).2.2.1; simpa using this
  · have := (P 11 (by omega)).2.2.2; simpa using this
theorem su_s0 (S : List Int) (hs : List (List Int)) (hb : hs.length ≤ 3000) (hF : ∀ h ∈ hs, h.length ≤ 5 ∧ ∀ x ∈ h, 0 ≤ x ∧ x ≤ 60) (r : List Int) : ∀ (d i : Nat) (m : List Bool), i + d = hs.length → m.length = 301 → Ev (fun k => spec_plNumbers.f k (marks m ((hs.drop i).map List.sum))) r → Ev (fun k => spec_SumsOf.l0 k m (hs.map (vs S)) ((hs.map (vs S)).length : Int) (i : Int)) (r, true) := by
  intro d
  induction d with
  | zero =>
    intro i m hi hm E
    refine Ev.succ ?_
    simp only [spec_SumsOf.l0]
    rw [List.drop_eq_nil_of_le (by omega)] at E
    exact Ev.neg (by rw [List.length_map]; omega) (Ev.bind E (Ev.const rfl))
  | succ d ih =>
    intro i m hi hm E
    have hl : (hs.map (vs S)).length = hs.length := List.length_map ..
    refine Ev.succ ?_
    simp only [spec_SumsOf.l0]
    refine Ev.pos (by omega) (Ev.pos (by omega) (Ev.pos (by omega) ?_))
    rw [rdV S hs i (by omega)]
    obtain ⟨f1, f2⟩ := hF _ (mem_getD hs i (by omega))
    obtain ⟨e1, _, e3, e4⟩ := su_ev (hs.getD i []) f1 f2
    rw [drop_hs hs i (by omega), List.map_cons] at E
    have ih' := ih (i + 1) (m.set (hs.getD i []).sum.toNat true) (by omega) (by rw [List.length_set]; exact hm) E
    refine Ev.bind (x := (hs.getD i []).sum) e1 (Ev.pos e3 (Ev.pos (by omega) ?_))
    rw [w64 (by omega) (by omega)]
    exact_mod_cast ih'
theorem su_i0 (S : List Int) (hs : List (List Int)) (hb : hs.length ≤ 3000) (hF : ∀ h ∈ hs, h.length ≤ 5 ∧ ∀ x ∈ h, 0 ≤ x ∧ x ≤ 60) (r : List Int) : ∀ (d i : Nat) (acc : List Int), i + d = hs.length → acc.length ≤ i → Ev (fun k => impl_increasing.f k (acc ++ (hs.drop i).map List.sum)) r → Ev (fun k => impl_SumsOf.l0 k acc (hs.map (vs S)) ((hs.map (vs S)).length : Int) (i : Int)) (r, true) := by
  intro d
  induction d with
  | zero =>
    intro i acc hi hm E
    refine Ev.succ ?_
    simp only [impl_SumsOf.l0]
    rw [List.drop_eq_nil_of_le (by omega)] at E
    simp only [List.map_nil, List.append_nil] at E
    exact Ev.neg (by rw [List.length_map]; omega) (Ev.bind E (Ev.const rfl))
  | succ d ih =>
    intro i acc hi hm E
    have hl : (hs.map (vs S)).length = hs.length := List.length_map ..
    refine Ev.succ ?_
    simp only [impl_SumsOf.l0]
    obtain ⟨f1, f2⟩ := hF _ (mem_getD hs i (by omega))
    obtain ⟨_, e2, e3, e4⟩ := su_ev (hs.getD i []) f1 f2
    rw [rdV S hs i (by omega)]
    rw [drop_hs hs i (by omega), List.map_cons] at E
    have ih' := ih (i + 1) (acc ++ [(hs.getD i []).sum]) (by omega) (by rw [List.length_append, List.length_singleton]; omega) (by rw [List.append_assoc, List.singleton_append]; exact E)
    refine Ev.pos (by omega) (Ev.pos (by omega) (Ev.pos (by omega) (Ev.bind (x := (hs.getD i []).sum) e2 (Ev.pos (by omega) ?_))))
    rw [w64 (by omega) (by omega)]
    exact_mod_cast ih'
theorem both (S H : List Int) (h0 : S.length ≤ 1048576) : ∃ q : List Int × Bool, q.1.length ≤ 10000 ∧ Ev (fun k => spec_SumsOf.f k S H) q ∧ Ev (fun k => impl_SumsOf.f k S H) q := by
  obtain ⟨r, hr, E⟩ := asked_ev S H false h0
  have EI := reach_ev S H false h0
  unfold spec_SumsOf.f impl_SumsOf.f
  cases e : got S H false with
  | none =>
    rw [e] at hr EI
    have hr' : r.2.2.2.2.2 = false := hr
    exact ⟨([], false), by simp, Ev.bind E (Ev.neg (by rw [hr']; decide) (Ev.const rfl)), Ev.bind EI (Ev.neg (show ¬ (false = true) by decide) (Ev.const rfl))⟩
  | some st =>
    obtain ⟨⟨⟨i, G⟩, C⟩, hv⟩ := got_fin e
    rw [e] at hr EI
    obtain ⟨ol, O, rfl⟩ := hr
    have F0 := VOk.facts hv
    have hF : ∀ h ∈ st.hs, h.length ≤ 5 ∧ ∀ x ∈ h, 0 ≤ x ∧ x ≤ 60 := fun h hh => ⟨by have := G.ln h hh; have := F0.n1; omega, held_bd (G.F h hh)⟩
    have hx : ∀ x ∈ st.hs.map List.sum, 0 ≤ x ∧ x < ((301 : Nat) : Int) := fun x hx => by
      obtain ⟨h, h1, rfl⟩ := List.mem_map.1 hx
      obtain ⟨_, _, e3, e4⟩ := su_ev h (hF h h1).1 (hF h h1).2
      omega
    have hn : (numsM (marks (List.replicate 301 false) (st.hs.map List.sum)) 0).length ≤ 301 := by
      have := numsM_len (marks (List.replicate 301 false) (st.hs.map List.sum)) 0
      rw [marks_len, List.length_replicate] at this; exact this
    have hfl : 0 < (st.hs.map List.sum).length := by rw [List.length_map]; exact G.z.2.2.2
    have hfu : (st.hs.map List.sum).length = st.hs.length := List.length_map ..
    have hle := G.le
    have M := marks_sorted 301 (st.hs.map List.sum) hx
    refine ⟨(numsM (marks (List.replicate 301 false) (st.hs.map List.sum)) 0, true), by show (numsM _ _).length ≤ _; omega, Ev.bind E (Ev.pos rfl (Ev.pos (by omega) ?_)), Ev.bind EI (Ev.pos rfl ?_)⟩
    · have := su_s0 S st.hs hle hF _ st.hs.length 0 (List.replicate 301 false) (by omega) List.length_replicate (by rw [List.drop_zero]; exact pn_ev _ (by rw [marks_len, List.length_replicate]; omega))
      exact_mod_cast this
    · have := su_i0 S st.hs hle hF (numsM (marks (List.replicate 301 false) (st.hs.map List.sum)) 0) st.hs.length 0 [] (by omega) (by simp) (by rw [List.drop_zero, List.nil_append, M]; exact inc_ev _ hfl (by omega))
      exact_mod_cast this
theorem FnExactSumsOf (S H : List Int) (h0 : S.length ≤ 9223372036854775807) (_ : ∀ x ∈ S, (Lit.int .i64 x).wf = true) (h1 : H.length ≤ 9223372036854775807) (_ : ∀ x ∈ H, (Lit.int .i64 x).wf = true) : ∃ k, laws_FnExactSumsOf.f k S H = some true := by
  refine Ev.ex (f := fun k => laws_FnExactSumsOf.f k S H) ?_
  obtain ⟨r, hr, hc⟩ := szV_f S H h0 h1
  unfold laws_FnExactSumsOf.f
  rw [hr]; simp only [Option.bind_some]
  rcases hc with hc | ⟨c0, c1, c2⟩
  · exact Ev.pos hc (Ev.const rfl)
  · refine Ev.neg (by omega) ?_
    obtain ⟨q, hq, E1, E2⟩ := both S H c1
    refine Ev.bind (toV_ev S H c1 c2) (Ev.bind E1 (Ev.bind (toV_ev S H c1 c2) (Ev.bind E2 (Ev.bind (eqI_ev q.1 (by omega)) (Ev.pos rfl (Ev.succ ?_))))))
    simp only [laws_FnExactSumsOf.j0, bne_self_eq_false]
    refine Ev.neg (by decide) (Ev.bind (toV_ev S H c1 c2) (Ev.bind (eqV_ev S H c1 c2) (Ev.pos rfl (Ev.bind (markV_ev S H c1 c2) (Ev.neg (by show ¬ (_ : Int) < 0; omega) (Ev.bind (eqI_ev q.1 (by omega)) (Ev.pos rfl (Ev.succ ?_))))))))
    simp only [laws_FnExactSumsOf.j1]
    refine Ev.neg (by decide) (Ev.bind (markI_ev q.1 (by omega)) (Ev.bind (heldI_ev q.1.length (by omega)) (Ev.neg (by omega) (Ev.pos rfl (Ev.bind (toV_ev S H c1 c2) (Ev.bind E2 (Ev.bind (eqI_ev q.1 (by omega)) (Ev.pos rfl (Ev.succ ?_)))))))))
    simp only [laws_FnExactSumsOf.j2, bne_self_eq_false]
    exact Ev.neg (by decide) (Ev.bind (heldI_ev q.1.length (by omega)) (Ev.neg (by omega) (Ev.pos rfl (Ev.const rfl))))
end Go.Proofs.Ytieioddimkafbaa.Pure
