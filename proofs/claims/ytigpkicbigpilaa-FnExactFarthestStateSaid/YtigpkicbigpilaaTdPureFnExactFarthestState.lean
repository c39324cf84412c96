/- FnExactFarthestState: what the law's Go functions compute, as plain functions, and that the law holds of them at all arguments. -/
import Derived.Test.YtigpkicbigpilaaTdPuLaw
import Derived.Test.YtigpkicbigpilaaTdPuCmp
import Derived.Test.YtigpkicbigpilaaTdLFx1
namespace Go.Proofs.Ytigpkicbigpilaa.Pure
open Go.RowKit Go.Proofs.Ytigpkicbigpilaa.V Go.Proofs.Ytigpkicbigpilaa Go.Proofs.Ytigpkicbigpilaa.PuB Go.Proofs.YtigpkicbigpilaaW.PrintLast Go.Proofs.YtigpkicbigpilaaW.PrintMore
open Go.Proofs.YtigpkicbigpilaaW.PrintWords hiding Ev
set_option linter.unusedVariables false
set_option linter.unusedSimpArgs false
/-- The first of those that are farthest. -/
def Far (st : St) (M : Int) (b : Nat) : Prop := b < st.hs.length ∧ st.dep.getD b 0 = M ∧ ∀ x, x < st.hs.length → st.dep.getD x 0 = M → x = b ∨ lx (st.hs.getD b []) (st.hs.getD x []) = true
theorem Far.one {st : St} {M : Int} {b c : Nat} (h1 : Far st M b) (h2 : Far st M c) : b = c := by
  rcases h1.2.2 c h2.1 h2.2.1 with h | h
  · exact h.symm
  · rcases h2.2.2 b h1.1 h1.2.1 with g | g
    · exact g
    · have := lx_trans _ _ _ h g
      rw [lx_irrefl] at this; cases this
theorem far_spec {S H0 : List Int} {a : Bool} {i0 : Nat} {st : St} (G : PuB.Good S H0 a 3000 i0 st) {ol : List Nat} (O : PuB.Ord st.hs ol) (hS : S.length ≤ 5) (M : Int) (hM : st.dep.getD (st.hs.length - 1) 0 = M) : ∀ (d i p : Nat), i + d = ol.length → p < ol.length → p ≤ i → (∀ j, j < i → st.dep.getD (ol.getD j 0) 0 ≤ st.dep.getD (ol.getD p 0) 0) → (∀ j, j < p → st.dep.getD (ol.getD j 0) 0 < st.dep.getD (ol.getD p 0) 0) →
    ∃ b, Far st M b ∧ Ev (fun k => spec_FarthestState.l0 k ((ol.getD p 0 : Nat) : Int) (oli ol) ((oli ol).length : Int) (i : Int) S H0 (st.hs.map (vs S)) st.frm st.mv st.dep (oli ol)) (S, st.hs.getD b [], M, true) := by
  have hle := G.le
  have hol := O.len
  have hz := G.z.2.2.2
  intro d
  induction d with
  | zero =>
    intro i p hi hp hpi h1 h2
    have hb := O.ltD p hp
    have hmax : ∀ x, x < st.hs.length → st.dep.getD x 0 ≤ st.dep.getD (ol.getD p 0) 0 := by
      intro x hx
      obtain ⟨j, hj, hjx⟩ := List.getElem_of_mem (O.1.mem_iff.2 (List.mem_range.2 hx))
      have := h1 j (by omega)
      rw [getD_get ol j 0 hj, hjx] at this
      exact this
    have hfar : st.dep.getD (ol.getD p 0) 0 = M := by
      have q1 := hmax (st.hs.length - 1) (by omega)
      have q2 := G.dmono (ol.getD p 0) (st.hs.length - 1) (by omega) (by omega)
      omega
    refine ⟨ol.getD p 0, ⟨hb, hfar, fun x hx hxM => ?_⟩, Ev.succ ?_⟩
    · obtain ⟨j, hj, hjx⟩ := List.getElem_of_mem (O.1.mem_iff.2 (List.mem_range.2 hx))
      rcases Nat.lt_trichotomy j p with h | h | h
      · have := h2 j h
        rw [getD_get ol j 0 hj, hjx] at this
        omega
      · subst h
        rw [getD_get ol j 0 hj]
        exact .inl hjx.symm
      · right
        have := (List.pairwise_iff_getElem.1 O.2) p j hp hj h
        rw [getD_get ol p 0 hp, ← hjx]
        exact this
    · simp only [spec_FarthestState.l0]
      have hmem : st.hs.getD (ol.getD p 0) [] ∈ st.hs := by rw [getD_get _ _ _ hb]; exact List.getElem_mem hb
      refine Ev.neg (by rw [oli_len]; omega) ?_
      rw [own_spec S (by omega)]
      simp only [Option.bind_some]
      refine Ev.pos (by omega) (Ev.pos (by rw [List.length_map]; omega) ?_)
      rw [rdV S st.hs _ hb]
      simp only [vs]
      rw [own_spec _ (by rw [G.ln _ hmem]; omega)]
      simp only [Option.bind_some]
      refine Ev.pos (by rw [G.l1]; omega) (Ev.const ?_)
      rw [rd_getD, hfar]
  | succ d ih =>
    intro i p hi hp hpi h1 h2
    have hb := O.ltD p hp
    have hib := O.ltD i (by omega)
    by_cases c : st.dep.getD (ol.getD i 0) 0 > st.dep.getD (ol.getD p 0) 0
    · obtain ⟨b, hb1, E⟩ := ih (i + 1) i (by omega) (by omega) (by omega) (fun j hj => by
        by_cases e : j = i
        · rw [e]; exact Int.le_refl _
        · have := h1 j (by omega); omega) (fun j hj => by have := h1 j hj; omega)
      refine ⟨b, hb1, Ev.succ ?_⟩
      simp only [spec_FarthestState.l0]
      refine Ev.pos (by rw [oli_len]; omega) (Ev.pos (by omega) (Ev.pos (by rw [oli_len]; omega) ?_))
      rw [oli_rd ol i (by omega)]
      refine Ev.pos (by omega) (Ev.pos (by rw [G.l1]; omega) (Ev.pos (by omega) (Ev.pos (by rw [G.l1]; omega) ?_)))
      rw [rd_getD, rd_getD]
      refine Ev.pos c ?_
      rw [w64 (by omega) (by omega)]
      exact_mod_cast E
    · obtain ⟨b, hb1, E⟩ := ih (i + 1) p (by omega) (by omega) (by omega) (fun j hj => by
        by_cases e : j = i
        · rw [e]; omega
        · exact h1 j (by omega)) h2
      refine ⟨b, hb1, Ev.succ ?_⟩
      simp only [spec_FarthestState.l0]
      refine Ev.pos (by rw [oli_len]; omega) (Ev.pos (by omega) (Ev.pos (by rw [oli_len]; omega) ?_))
      rw [oli_rd ol i (by omega)]
      refine Ev.pos (by omega) (Ev.pos (by rw [G.l1]; omega) (Ev.pos (by omega) (Ev.pos (by rw [G.l1]; omega) ?_)))
      rw [rd_getD, rd_getD]
      refine Ev.neg c ?_
      rw [w64 (by omega) (by omega)]
      exact_mod_cast E
theorem far_impl {S H0 : List Int} {a : Bool} {i0 : Nat} {st : St} (G : PuB.Good S H0 a 3000 i0 st) (hS : S.length ≤ 5) (M : Int) (hM : st.dep.getD (st.hs.length - 1) 0 = M) : ∀ (d i : Nat) (b : Int), i + d = st.hs.length →
    (b = -1 ∧ (∀ j, j < i → st.dep.getD j 0 ≠ M) ∨ ∃ n : Nat, b = (n : Int) ∧ n < i ∧ st.dep.getD n 0 = M ∧ ∀ j, j < i → st.dep.getD j 0 = M → j = n ∨ lx (st.hs.getD n []) (st.hs.getD j []) = true) →
    ∃ n, Far st M n ∧ Ev (fun k => impl_FarthestState.l0 k M b (st.hs.map (vs S)) ((st.hs.map (vs S)).length : Int) (i : Int) (st.hs.map (vs S)) (plc st.hs) st.dep st.frm st.mv) (S, st.hs.getD n [], M, true) := by
  have hle := G.le
  have hz := G.z.2.2.2
  have hlm : (st.hs.map (vs S)).length = st.hs.length := List.length_map ..
  intro d
  induction d with
  | zero =>
    intro i b hi hb
    rcases hb with ⟨rfl, hb⟩ | ⟨n, rfl, hn, hnM, hb⟩
    · exact absurd hM (hb _ (by omega))
    · have hmem : st.hs.getD n [] ∈ st.hs := by rw [getD_get _ _ _ (by omega)]; exact List.getElem_mem _
      refine ⟨n, ⟨by omega, hnM, fun x hx hxM => hb x (by omega) hxM⟩, Ev.succ ?_⟩
      simp only [impl_FarthestState.l0]
      refine Ev.neg (by omega) (Ev.pos (by omega) (Ev.pos (by omega) ?_))
      rw [rdV S st.hs n (by omega)]
      simp only [vs]
      rw [own_impl S _ (by omega) (by rw [G.ln _ hmem]; omega)]
      exact Ev.const rfl
  | succ d ih =>
    intro i b hi hb
    have hmi : st.hs.getD i [] ∈ st.hs := by rw [getD_get _ _ _ (by omega)]; exact List.getElem_mem _
    by_cases c : st.dep.getD i 0 = M
    · rcases hb with ⟨rfl, hb⟩ | ⟨n, rfl, hn, hnM, hb⟩
      · obtain ⟨n, hn, E⟩ := ih (i + 1) (i : Int) (by omega) (.inr ⟨i, rfl, by omega, c, fun j hj hjM => by
          by_cases e : j = i
          · exact .inl e
          · exact absurd hjM (hb j (by omega))⟩)
        refine ⟨n, hn, Ev.succ ?_⟩
        simp only [impl_FarthestState.l0]
        refine Ev.pos (by omega) (Ev.pos (by omega) (Ev.pos (by omega) (Ev.pos (by rw [G.l1]; omega) ?_)))
        rw [rd_getD]
        refine Ev.pos c (Ev.pos (by omega) ?_)
        rw [w64 (by omega) (by omega)]
        exact_mod_cast E
      · have hmn : st.hs.getD n [] ∈ st.hs := by rw [getD_get _ _ _ (by omega)]; exact List.getElem_mem _
        obtain ⟨t, Et, ht⟩ := cmp_ev (st.hs.getD i []) (st.hs.getD n []) (by rw [G.ln _ hmi, G.ln _ hmn]) (by rw [G.ln _ hmi]; omega)
        by_cases c2 : lx (st.hs.getD i []) (st.hs.getD n []) = true
        · obtain ⟨m, hm, E⟩ := ih (i + 1) (i : Int) (by omega) (.inr ⟨i, rfl, by omega, c, fun j hj hjM => by
            by_cases e : j = i
            · exact .inl e
            · rcases hb j (by omega) hjM with h | h
              · rw [h]; exact .inr c2
              · exact .inr (lx_trans _ _ _ c2 h)⟩)
          refine ⟨m, hm, Ev.succ ?_⟩
          simp only [impl_FarthestState.l0]
          refine Ev.pos (by omega) (Ev.pos (by omega) (Ev.pos (by omega) (Ev.pos (by rw [G.l1]; omega) ?_)))
          rw [rd_getD]
          refine Ev.pos c (Ev.neg (by omega) (Ev.pos (by omega) (Ev.pos (by omega) ?_)))
          rw [rdV S st.hs i (by omega), rdV S st.hs n (by omega)]
          simp only [vs]
          refine Ev.bind Et (Ev.pos (ht.2 c2) ?_)
          rw [w64 (by omega) (by omega)]
          exact_mod_cast E
        · obtain ⟨m, hm, E⟩ := ih (i + 1) (n : Int) (by omega) (.inr ⟨n, rfl, by omega, hnM, fun j hj hjM => by
            by_cases e : j = i
            · subst e
              right
              cases h : lx (st.hs.getD n []) (st.hs.getD j []) with
              | true => rfl
              | false =>
                have := lx_tri _ _ (by rw [G.ln _ hmi, G.ln _ hmn]) (Bool.eq_false_iff.mpr c2) h
                rw [getD_get _ _ _ (by omega), getD_get _ _ _ (by omega)] at this
                have := nodup_idx G.nd _ _ this
                omega
            · exact hb j (by omega) hjM⟩)
          refine ⟨m, hm, Ev.succ ?_⟩
          simp only [impl_FarthestState.l0]
          refine Ev.pos (by omega) (Ev.pos (by omega) (Ev.pos (by omega) (Ev.pos (by rw [G.l1]; omega) ?_)))
          rw [rd_getD]
          refine Ev.pos c (Ev.neg (by omega) (Ev.pos (by omega) (Ev.pos (by omega) ?_)))
          rw [rdV S st.hs i (by omega), rdV S st.hs n (by omega)]
          simp only [vs]
          refine Ev.bind Et (Ev.neg (fun h => c2 (ht.1 h)) ?_)
          rw [w64 (by omega) (by omega)]
          exact_mod_cast E
    · obtain ⟨m, hm, E⟩ := ih (i + 1) b (by omega) (by
        rcases hb with ⟨rfl, hb⟩ | ⟨n, rfl, hn, hnM, hb⟩
        · exact .inl ⟨rfl, fun j hj => by
            by_cases e : j = i
            · rw [e]; exact c
            · exact hb j (by omega)⟩
        · exact .inr ⟨n, rfl, by omega, hnM, fun j hj hjM => by
            by_cases e : j = i
            · rw [e] at hjM; exact absurd hjM c
            · exact hb j (by omega) hjM⟩)
      refine ⟨m, hm, Ev.succ ?_⟩
      simp only [impl_FarthestState.l0]
      refine Ev.pos (by omega) (Ev.pos (by omega) (Ev.pos (by omega) (Ev.pos (by rw [G.l1]; omega) ?_)))
      rw [rd_getD]
      refine Ev.neg c ?_
      rw [w64 (by omega) (by omega)]
      exact_mod_cast E
theorem both (S H : List Int) (a : Bool) (h0 : S.length ≤ 1048576) : ∃ q : List Int × List Int × Int × Bool, q.1.length ≤ 10000 ∧ q.2.1.length ≤ 10000 ∧ Ev (fun k => spec_FarthestState.f k S H a) q ∧ Ev (fun k => impl_FarthestState.f k S H a) q := by
  obtain ⟨r, hr, E⟩ := asked_ev S H a h0
  have EI := reach_ev S H a h0
  unfold spec_FarthestState.f impl_FarthestState.f
  cases e : got S H a with
  | none =>
    rw [e] at hr EI
    have hr' : r.2.2.2.2.2 = false := hr
    exact ⟨([], [], 0, false), by simp, by simp, Ev.bind E (Ev.neg (by rw [hr']; decide) (Ev.const rfl)), Ev.bind EI (Ev.neg (show ¬ (false = true) by decide) (Ev.const rfl))⟩
  | some st =>
    obtain ⟨⟨⟨i, G⟩, C⟩, hv⟩ := got_fin e
    have F := VOk.facts hv
    rw [e] at hr EI
    obtain ⟨ol, O, rfl⟩ := hr
    have hle := G.le
    have hz := G.z.2.2.2
    have h1 := G.l1
    have hol := O.len
    have hn5 := F.n1
    obtain ⟨b, hb, EB⟩ := far_spec G O F.n1 _ rfl ol.length 0 0 (by omega) (by omega) (by omega) (fun j hj => absurd hj (Nat.not_lt_zero _)) (fun j hj => absurd hj (Nat.not_lt_zero _))
    obtain ⟨c, hc, EC⟩ := far_impl G F.n1 _ rfl st.hs.length 0 (-1) (by omega) (.inl ⟨rfl, fun j hj => absurd hj (Nat.not_lt_zero _)⟩)
    have := Far.one hb hc
    subst this
    have hmem : st.hs.getD b [] ∈ st.hs := by rw [getD_get _ _ _ hb.1]; exact List.getElem_mem hb.1
    refine ⟨(S, st.hs.getD b [], st.dep.getD (st.hs.length - 1) 0, true), ?_, ?_, ?_, ?_⟩
    rotate_left 2
    · refine Ev.bind E (Ev.pos rfl (Ev.pos (by show 0 < ((oli ol).length : Int); rw [oli_len]; omega) ?_))
      show Ev (fun k => spec_FarthestState.l0 k (rd (oli ol) 0) (oli ol) ((oli ol).length : Int) 0 S H (st.hs.map (vs S)) st.frm st.mv st.dep (oli ol)) _
      rw [show rd (oli ol) 0 = ((ol.getD 0 0 : Nat) : Int) from oli_rd ol 0 (by omega)]
      exact EB
    · refine Ev.bind EI (Ev.pos rfl ?_)
      refine Ev.bind (x := st.dep.getD (st.hs.length - 1) 0) (by rw [← h1]; exact max_ev st.dep (by omega) (by omega) (fun i j h1' h2' => G.dmono i j h1' (by omega))) ?_
      exact EC
    · show S.length ≤ 10000; omega
    · show (st.hs.getD b []).length ≤ 10000; rw [G.ln _ hmem]; omega
theorem FnExactFarthestState (S H : List Int) (a : Bool) (h0 : S.length ≤ 9223372036854775807) (_ : ∀ x ∈ S, (Lit.int .i64 x).wf = true) (h1 : H.length ≤ 9223372036854775807) (_ : ∀ x ∈ H, (Lit.int .i64 x).wf = true) : ∃ k, laws_FnExactFarthestState.f k S H a = some true := by
  refine Ev.ex (f := fun k => laws_FnExactFarthestState.f k S H a) ?_
  obtain ⟨r, hr, hc⟩ := szV_f S H h0 h1
  unfold laws_FnExactFarthestState.f
  rw [hr]; simp only [Option.bind_some]
  rcases hc with hc | ⟨c0, c1, c2⟩
  · exact Ev.pos hc (Ev.const rfl)
  · refine Ev.neg (by omega) ?_
    obtain ⟨q, hq1, hq2, E1, E2⟩ := both S H a c1
    have EQ := eqV_ev q.1 q.2.1 (by omega) (by omega)
    have EH := heldV_ev q.1.length q.2.1.length (by omega) (by omega)
    refine Ev.bind (toV_ev S H c1 c2) (Ev.bind E1 (Ev.bind (toV_ev S H c1 c2) (Ev.bind E2 (Ev.bind EQ (Ev.pos rfl (Ev.pos (by first | rfl | trivial) (Ev.succ ?_)))))))
    simp only [laws_FnExactFarthestState.j0, bne_self_eq_false]
    refine Ev.neg (by decide) (Ev.bind (toV_ev S H c1 c2) (Ev.bind (eqV_ev S H c1 c2) (Ev.pos rfl (Ev.bind (markV_ev S H c1 c2) (Ev.neg (by omega) (Ev.bind EQ (Ev.pos rfl (Ev.pos (by first | rfl | trivial) (Ev.succ ?_)))))))))
    simp only [laws_FnExactFarthestState.j1]
    refine Ev.neg (by decide) (Ev.bind (markV_ev q.1 q.2.1 (by omega) (by omega)) (Ev.bind EH (Ev.neg (by omega) (Ev.pos rfl (Ev.bind (toV_ev S H c1 c2) (Ev.bind E2 (Ev.bind EQ (Ev.pos rfl (Ev.pos (by first | rfl | trivial) (Ev.succ ?_))))))))))
    simp only [laws_FnExactFarthestState.j2, bne_self_eq_false]
    exact Ev.neg (by decide) (Ev.bind EH (Ev.neg (by omega) (Ev.pos rfl (Ev.const rfl))))
end Go.Proofs.Ytigpkicbigpilaa.Pure
