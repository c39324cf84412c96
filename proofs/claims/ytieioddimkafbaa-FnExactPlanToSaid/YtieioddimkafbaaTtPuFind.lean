/- Plain functions and what they come to. -/
import Derived.Test.YtieioddimkafbaaTtPuLaw2
import Derived.Test.YtieioddimkafbaaTtVreF
namespace Go.Proofs.Ytieioddimkafbaa.PuB
open Go.RowKit Go.Proofs.Ytieioddimkafbaa.V Go.Proofs.YtieioddimkafbaaW.PrintWords Go.Proofs.YtieioddimkafbaaW.PrintLast Go.Proofs.YtieioddimkafbaaW.PrintMore Go.Proofs.Ytieioddimkafbaa Go.Proofs.Ytieioddimkafbaa.PuB
set_option linter.unusedVariables false
set_option linter.unusedSimpArgs false
theorem sz_l0 (S S' H' : List Int) (hl : S.length = S'.length) (hb : S.length ≤ 1000) : ∀ (d i : Nat), i + d = S.length → (∀ j : Nat, j < i → rd S (j : Int) = rd S' (j : Int)) → Ev (fun k => spec_plSizes.l0 k S (S.length : Int) (i : Int) S' H') (decide (S = S')) := by
  intro d
  induction d with
  | zero =>
    intro i hi ha
    refine Ev.succ ?_
    simp only [spec_plSizes.l0]
    have : S = S' := ext_rd _ _ hl (fun j hj => ha j (by omega))
    exact Ev.neg (by omega) (Ev.const (by simp [this]))
  | succ d ih =>
    intro i hi ha
    refine Ev.succ ?_
    simp only [spec_plSizes.l0]
    refine Ev.pos (by omega) (Ev.pos (by omega) (Ev.pos (by omega) (Ev.pos (by omega) ?_)))
    by_cases e : rd S (i : Int) = rd S' (i : Int)
    · refine Ev.pos e ?_
      rw [w64 (by omega) (by omega)]
      have := ih (i + 1) (by omega) (fun j hj => by
        by_cases e2 : j = i
        · rw [e2]; exact e
        · exact ha j (by omega))
      exact_mod_cast this
    · refine Ev.neg e (Ev.const ?_)
      have : S ≠ S' := fun e2 => e (by rw [e2])
      simp [this]
theorem sizes_ev (S H S' H' : List Int) (h0 : S.length ≤ 1048576) (h1 : S'.length ≤ 1048576) : Ev (fun k => spec_plSizes.f k S H S' H') (VOk S H && (VOk S' H' && decide (S = S'))) := by
  unfold spec_plSizes.f
  have g1 : Ev (fun k => spec_veGood.f k S H) (VOk S H) := Ev.of 2000000 fun k hk => good_spec k S H (by omega) (by omega)
  have g2 : Ev (fun k => spec_veGood.f k S' H') (VOk S' H') := Ev.of 2000000 fun k hk => good_spec k S' H' (by omega) (by omega)
  refine Ev.bind g1 ?_
  by_cases c1 : VOk S H = true
  · rw [c1]
    refine Ev.pos rfl (Ev.bind g2 ?_)
    by_cases c2 : VOk S' H' = true
    · rw [c2]
      refine Ev.pos rfl (Ev.succ ?_)
      have F1 := VOk.facts c1
      have F2 := VOk.facts c2
      simp only [spec_plSizes.j0]
      by_cases e : S.length = S'.length
      · refine Ev.neg (by simp [e]) ?_
        have := sz_l0 S S' H' e (by have := F1.n1; omega) S.length 0 (by omega) (fun j hj => absurd hj (Nat.not_lt_zero _))
        simpa using this
      · refine Ev.pos (by simp; omega) (Ev.const ?_)
        have : S ≠ S' := fun h => e (by rw [h])
        simp [this]
    · rw [Bool.eq_false_iff.mpr c2]
      refine Ev.neg (by decide) (Ev.succ ?_)
      simp only [spec_plSizes.j0]
      exact Ev.pos trivial (Ev.const rfl)
  · rw [Bool.eq_false_iff.mpr c1]
    refine Ev.neg (by decide) (Ev.succ ?_)
    simp only [spec_plSizes.j0]
    exact Ev.pos trivial (Ev.const rfl)
/-- Both are vessels of the same sizes, and all that is reached from the first ones. -/
def fnd (S H S' H' : List Int) (a : Bool) : Option St := if (VOk S' H' && decide (S = S')) = true then got S H a else none
def plc? (hs : List (List Int)) (v : List Int) : Int := if v ∈ hs then ((hs.idxOf v : Nat) : Int) else -1
abbrev RFd := List Vs × List (Gv.K5 × Int) × List Int × List Int × List Mv × Int × Bool
def resF (S H' : List Int) : Option St → RFd
  | none => ([], [], [], [], [], -1, false)
  | some st => (st.hs.map (vs S), plc st.hs, st.dep, st.frm, st.mv, plc? st.hs H', true)
theorem lk_plc {hs : List (List Int)} {v : List Int} (h5 : v.length ≤ 5) (hl : ∀ h ∈ hs, h.length = v.length) (nd : hs.Nodup) (c : v ∈ hs) : Gv.lk (plc hs) (Gv.key5 v) = some ((hs.idxOf v : Nat) : Int) := by
  have hi : hs.idxOf v < hs.length := List.idxOf_lt_length_iff.2 c
  have := lk_get hs 0 (hs.idxOf v) v h5 hl nd hi (by rw [getD_get _ _ _ hi]; exact List.getElem_idxOf hi)
  rw [Nat.zero_add] at this
  exact this
theorem find_ev (S H S' H' : List Int) (a : Bool) (h0 : S.length ≤ 1048576) (h1 : S'.length ≤ 1048576) : Ev (fun k => impl_find.f k S H S' H' a) (resF S H' (fnd S H S' H' a)) := by
  have EI := reach_ev S H a h0
  have g2 : Ev (fun k => impl_AreVessels.f k S' H') (VOk S' H') := Ev.of 2000000 fun k hk => good_impl k S' H' (by omega) (by omega)
  unfold impl_find.f fnd
  cases e : got S H a with
  | none =>
    rw [e] at EI
    have : (if (VOk S' H' && decide (S = S')) = true then (none : Option St) else none) = none := by split <;> rfl
    rw [this]
    exact Ev.bind EI (Ev.neg (show ¬ (false = true) by decide) (Ev.const rfl))
  | some st =>
    obtain ⟨⟨⟨i, G⟩, C⟩, hv⟩ := got_fin e
    have F := VOk.facts hv
    rw [e] at EI
    refine Ev.bind EI (Ev.pos rfl (Ev.bind g2 ?_))
    by_cases c2 : VOk S' H' = true
    · rw [c2]
      have F2 := VOk.facts c2
      have hn := F.n1
      refine Ev.pos rfl (Ev.bind (x := decide (S = S')) (Ev.of 1000 fun k hk => sleq_f k S S' (by omega) (by omega)) ?_)
      by_cases c3 : S = S'
      · subst c3
        refine Ev.pos (by simp) (Ev.pos (wf5_of F2) ?_)
        have h5 : H'.length ≤ 5 := by rw [F2.he]; exact hn
        have hl : ∀ h ∈ st.hs, h.length = H'.length := fun h hh => by rw [G.ln h hh, F2.he]
        have hs := plc_some st.hs H' h5 hl G.nd
        simp only [Bool.true_and, decide_true, if_true]
        by_cases c4 : H' ∈ st.hs
        · refine Ev.pos (by show (Gv.lk (plc st.hs) (Gv.key5 H')).isSome = true; rw [hs]; simp [c4]) (Ev.const ?_)
          simp only [resI, resF, plc?, lk_plc h5 hl G.nd c4, if_pos c4, Option.getD_some]
        · refine Ev.neg (by show ¬ (Gv.lk (plc st.hs) (Gv.key5 H')).isSome = true; rw [hs]; simp [c4]) (Ev.const ?_)
          simp only [resI, resF, plc?, if_neg c4]
      · have : (VOk S' H' && decide (S = S')) = false := by simp [c3]
        rw [decide_eq_false c3]
        simp only [Bool.and_false]
        exact Ev.neg (by decide) (Ev.const rfl)
    · rw [Bool.eq_false_iff.mpr c2]
      exact Ev.neg (by decide) (Ev.const rfl)
/-- What the specification asks first. -/
theorem all_ev (S H S' H' : List Int) (a : Bool) (h0 : S.length ≤ 1048576) (c : (VOk S H && (VOk S' H' && decide (S = S'))) = true) : ∃ r, IsS S r (fnd S H S' H' a) ∧ Ev (fun k => spec_plAll.f k S H a) r := by
  simp only [Bool.and_eq_true] at c
  obtain ⟨r, hr, E⟩ := spec_all c.1 a
  refine ⟨r, ?_, E⟩
  unfold fnd got
  rw [if_pos (by simp only [Bool.and_eq_true]; exact c.2), if_pos c.1]
  exact hr
theorem fnd_no {S H S' H' : List Int} {a : Bool} (c : (VOk S H && (VOk S' H' && decide (S = S'))) ≠ true) : fnd S H S' H' a = none := by
  unfold fnd got
  by_cases c1 : (VOk S' H' && decide (S = S')) = true
  · rw [if_pos c1]
    by_cases c2 : VOk S H = true
    · exact absurd (by rw [c1, c2]; rfl) c
    · rw [if_neg c2]
  · rw [if_neg c1]
theorem fnd_some {S H S' H' : List Int} {a : Bool} {st : St} (h : fnd S H S' H' a = some st) : Fin S H a 3000 st ∧ VOk S H = true ∧ VOk S' H' = true ∧ S = S' := by
  unfold fnd at h
  by_cases c1 : (VOk S' H' && decide (S = S')) = true
  · rw [if_pos c1] at h
    have := got_fin h
    simp only [Bool.and_eq_true, decide_eq_true_eq] at c1
    exact ⟨this.1, this.2, c1.1, c1.2⟩
  · rw [if_neg c1] at h; cases h
theorem szV2 (S H S' H' : List Int) (h : S.length ≤ 9223372036854775807) (h' : H.length ≤ 9223372036854775807) (g : S'.length ≤ 9223372036854775807) (g' : H'.length ≤ 9223372036854775807) : ∃ r, laws_szVessels.f S H 1048576 = some r ∧ (r < 0 ∨ (0 ≤ r ∧ S.length ≤ 1048576 ∧ H.length ≤ 1048576 ∧ ∃ q, laws_szVessels.f S' H' r = some q ∧ (q < 0 ∨ (0 ≤ q ∧ S'.length ≤ 1048576 ∧ H'.length ≤ 1048576)))) := by
  have one : ∀ (S H : List Int) (a : Int), S.length ≤ 9223372036854775807 → H.length ≤ 9223372036854775807 → 0 ≤ a → a ≤ 1048576 → ∃ r, laws_szVessels.f S H a = some r ∧ (r < 0 ∨ (0 ≤ r ∧ r ≤ 1048576 ∧ S.length ≤ 1048576 ∧ H.length ≤ 1048576)) := by
    intro S H a h h' h0 h1
    unfold laws_szVessels.f
    rw [szI_f S a h h0 h1]; simp only [Option.bind_some]
    by_cases c : (S.length : Int) ≤ a
    · rw [if_pos c, if_neg (by omega), szI_f H _ h' (by omega) (by omega)]; simp only [Option.bind_some]
      by_cases c' : (H.length : Int) ≤ a - S.length
      · rw [if_pos c', if_neg (by omega)]; exact ⟨_, rfl, Or.inr ⟨by omega, by omega, by omega, by omega⟩⟩
      · rw [if_neg c']; exact ⟨_, rfl, Or.inl (by omega)⟩
    · rw [if_neg c]; exact ⟨_, rfl, Or.inl (by omega)⟩
  obtain ⟨r, hr, hc⟩ := one S H 1048576 h h' (by omega) (by omega)
  refine ⟨r, hr, ?_⟩
  rcases hc with hc | ⟨c0, c1, c2, c3⟩
  · exact .inl hc
  · obtain ⟨q, hq, hc⟩ := one S' H' r g g' c0 c1
    exact .inr ⟨c0, c2, c3, q, hq, by rcases hc with hc | hc; exact .inl hc; exact .inr ⟨hc.1, hc.2.2.1, hc.2.2.2⟩⟩
end Go.Proofs.Ytieioddimkafbaa.PuB
