/- FnExactFirstMeeting: what the law's Go functions compute, as plain functions, and that the law holds of them at all arguments. -/
import Derived.Test.YticeepbpgmidlaaQx3
namespace Go.Proofs.Yticeepbpgmidlaa.AuxFnExactFirstMeeting
open Go.RowKit Go.Proofs.Yticeepbpgmidlaa.Q Go.Proofs.YticeepbpgmidlaaW.PrintWords Go.Proofs.YticeepbpgmidlaaW.PrintLast Go.Proofs.YticeepbpgmidlaaW.PrintMore
set_option linter.unusedVariables false
set_option linter.unusedSimpArgs false
theorem w64 {x : Int} (h0 : -9223372036854775808 ≤ x) (h1 : x ≤ 9223372036854775807) : wrap64 x = x := by
  unfold wrap64; omega
theorem in_spec (a b c : Int) : spec_l1In.f a b c = some (decide (b ≤ a ∧ a ≤ c)) := by
  unfold spec_l1In.f
  by_cases h : a ≥ b
  · rw [if_pos h]; congr 1; simp [show b ≤ a from h]
  · rw [if_neg h]; congr 1; simp [show ¬ b ≤ a from h]
theorem in_impl (a b c : Int) : impl_within.f a b c = some (decide (b ≤ a ∧ a ≤ c)) := by
  unfold impl_within.f
  by_cases h : b ≤ a
  · rw [if_pos h]; congr 1; simp [h]
  · rw [if_neg h]; congr 1; simp [h]
/-- How much runs out. -/
def drp (L D : Int) : Int := (L + D - 1) / D
theorem drp_zero (D : Int) (h : 1 ≤ D) : drp 0 D = 0 := by
  unfold drp; rw [Int.ediv_eq_zero_of_lt (by omega) (by omega)]
theorem drp_pos (L D : Int) (hL : 1 ≤ L) (hD : 1 ≤ D) : 1 ≤ drp L D := by
  unfold drp
  exact (Int.le_ediv_iff_mul_le (by omega)).mpr (by omega)
theorem drp_le (L D : Int) (hL : 0 ≤ L) (hD : 1 ≤ D) : drp L D ≤ L := by
  rcases Int.lt_or_le 0 L with h | h
  · unfold drp
    apply Int.ediv_le_of_le_mul (by omega)
    have := Int.mul_nonneg (show 0 ≤ L - 1 by omega) (show 0 ≤ D - 1 by omega)
    rw [Int.sub_mul, Int.mul_sub] at this
    omega
  · obtain rfl : L = 0 := by omega
    rw [drp_zero D hD]; omega
theorem drp_nonneg (L D : Int) (hL : 0 ≤ L) (hD : 1 ≤ D) : 0 ≤ drp L D := by
  unfold drp; exact Int.ediv_nonneg (by omega) (by omega)
theorem drop_spec (L D : Int) (h0 : 0 ≤ L) (h1 : L ≤ 1000) (h2 : 1 ≤ D) (h3 : D ≤ 100) : spec_ckDrop.f L D = some (drp L D) := by
  unfold spec_ckDrop.f
  rw [if_neg (by omega), w64 (x := L + D) (by omega) (by omega), w64 (x := L + D - 1) (by omega) (by omega), Int.tdiv_eq_ediv_of_nonneg (by omega)]
  have a := drp_nonneg L D h0 h2
  have b := drp_le L D h0 h2
  unfold drp at a b
  rw [w64 (by omega) (by omega)]; rfl
theorem drop_impl (L D : Int) (h0 : 0 ≤ L) (h1 : L ≤ 1000) (h2 : 1 ≤ D) (h3 : D ≤ 100) : impl_Clock_drop.f L D = some (drp L D) := by
  unfold impl_Clock_drop.f
  rw [if_neg (by omega), w64 (x := L + D) (by omega) (by omega), w64 (x := L + D - 1) (by omega) (by omega), Int.tdiv_eq_ediv_of_nonneg (by omega)]
  have a := drp_nonneg L D h0 h2
  have b := drp_le L D h0 h2
  unfold drp at a b
  rw [w64 (by omega) (by omega)]; rfl
theorem next_impl (L D : Int) (h0 : 0 ≤ L) (h1 : L ≤ 1000) (h2 : 1 ≤ D) (h3 : D ≤ 100) : impl_Clock_next.f L D = some (L - drp L D, D) := by
  unfold impl_Clock_next.f
  rw [drop_impl L D h0 h1 h2 h3]; simp only [Option.bind_some]
  have a := drp_nonneg L D h0 h2
  have b := drp_le L D h0 h2
  rw [w64 (by omega) (by omega)]
theorem good_spec (L D : Int) : spec_ckGood.f L D = some (decide ((0 ≤ L ∧ L ≤ 1000) ∧ 1 ≤ D ∧ D ≤ 100)) := by
  unfold spec_ckGood.f
  rw [in_spec]; simp only [Option.bind_some]
  by_cases h : 0 ≤ L ∧ L ≤ 1000
  · rw [if_pos (by simpa using h), in_spec]; simp [h]
  · rw [if_neg (by simpa using h)]; simp [h]
theorem good_impl (L D : Int) : impl_IsClock.f L D = some (decide ((0 ≤ L ∧ L ≤ 1000) ∧ 1 ≤ D ∧ D ≤ 100)) := by
  unfold impl_IsClock.f
  rw [in_impl]; simp only [Option.bind_some]
  by_cases h : 0 ≤ L ∧ L ≤ 1000
  · rw [if_pos (by simpa using h), in_impl]; simp [h]
  · rw [if_neg (by simpa using h)]; simp [h]
end Go.Proofs.Yticeepbpgmidlaa.AuxFnExactFirstMeeting
namespace Go.Proofs.Yticeepbpgmidlaa.Pure
open Go.RowKit Go.Proofs.Yticeepbpgmidlaa.Q Go.Proofs.Yticeepbpgmidlaa.AuxFnExactFirstMeeting Go.Proofs.YticeepbpgmidlaaW.PrintWords Go.Proofs.YticeepbpgmidlaaW.PrintLast Go.Proofs.YticeepbpgmidlaaW.PrintMore
theorem after_one (k : Nat) (L D : Int) (h0 : 0 ≤ L) (h1 : L ≤ 1000) (h2 : 1 ≤ D) (h3 : D ≤ 100) (hk : 1 < k) : spec_ckAfter.f k L D 1 = some (L - drp L D, D) := by
  obtain ⟨k, rfl⟩ : ∃ m, k = m + 2 := ⟨k - 2, by omega⟩
  unfold spec_ckAfter.f
  simp only [spec_ckAfter.l0]
  rw [if_pos (by omega)]
  have a := drp_nonneg L D h0 h2
  have b := drp_le L D h0 h2
  by_cases h : L > 0
  · rw [if_pos h, drop_spec L D h0 h1 h2 h3]; simp only [Option.bind_some]
    rw [w64 (by omega) (by omega), w64 (by omega) (by omega), if_neg (by omega)]
  · obtain rfl : L = 0 := by omega
    rw [if_neg h, drp_zero D h2]; simp
theorem meet_both (D E : Int) (h2 : 1 ≤ D) (h3 : D ≤ 100) (h4 : 1 ≤ E) (h5 : E ≤ 100) : ∀ (n k : Nat) (t L M : Int), 0 ≤ L → L ≤ 1000 → 0 ≤ M → M ≤ 1000 → 0 ≤ t → t + n ≤ 100000 → L + M ≤ n → n + 1 < k →
    ∃ r, spec_FirstMeeting.l0 k t L D M E = some r ∧ impl_FirstMeeting.l0 k t L D M E = some r := by
  intro n
  induction n with
  | zero =>
    intro k t L M a0 a1 b0 b1 ht0 ht1 hn hk
    obtain ⟨k, rfl⟩ : ∃ m, k = m + 1 := ⟨k - 1, by omega⟩
    simp only [spec_FirstMeeting.l0, impl_FirstMeeting.l0]
    rw [if_pos (by omega), if_pos (by omega)]; exact ⟨_, rfl, rfl⟩
  | succ n ih =>
    intro k t L M a0 a1 b0 b1 ht0 ht1 hn hk
    obtain ⟨k, rfl⟩ : ∃ m, k = m + 1 := ⟨k - 1, by omega⟩
    simp only [spec_FirstMeeting.l0, impl_FirstMeeting.l0]
    by_cases h : L = M
    · rw [if_pos h, if_pos h]; exact ⟨_, rfl, rfl⟩
    · rw [if_neg h, if_neg h, after_one k L D a0 a1 h2 h3 (by omega), after_one k M E b0 b1 h4 h5 (by omega), next_impl L D a0 a1 h2 h3, next_impl M E b0 b1 h4 h5]
      simp only [Option.bind_some]
      have x0 := drp_nonneg L D a0 h2
      have x1 := drp_le L D a0 h2
      have y0 := drp_nonneg M E b0 h4
      have y1 := drp_le M E b0 h4
      have z : 1 ≤ drp L D ∨ 1 ≤ drp M E := by
        rcases Int.lt_or_le 0 L with hL | hL
        · exact Or.inl (drp_pos L D (by omega) h2)
        · exact Or.inr (drp_pos M E (by omega) h4)
      rw [w64 (by omega) (by omega)]
      exact ih k _ _ _ (by omega) (by omega) (by omega) (by omega) (by omega) (by omega) (by omega) (by omega)
theorem FnExactFirstMeeting (L D M E : Int) (_ : (Lit.int .i64 L).wf = true) (_ : (Lit.int .i64 D).wf = true) (_ : (Lit.int .i64 M).wf = true) (_ : (Lit.int .i64 E).wf = true) : ∃ k, laws_FnExactFirstMeeting.f k L D M E = some true := by
  refine ⟨2005, ?_⟩
  unfold laws_FnExactFirstMeeting.f laws_toClock.f spec_FirstMeeting.f impl_FirstMeeting.f
  simp only [Option.bind_some, good_spec, good_impl]
  by_cases h : (0 ≤ L ∧ L ≤ 1000) ∧ 1 ≤ D ∧ D ≤ 100
  · simp only [show decide ((0 ≤ L ∧ L ≤ 1000) ∧ 1 ≤ D ∧ D ≤ 100) = true by simp [h], if_true, spec_FirstMeeting.j0, impl_FirstMeeting.j0]
    obtain ⟨⟨h0, h1⟩, h2, h3⟩ := h
    by_cases g : (0 ≤ M ∧ M ≤ 1000) ∧ 1 ≤ E ∧ E ≤ 100
    · simp only [show decide ((0 ≤ M ∧ M ≤ 1000) ∧ 1 ≤ E ∧ E ≤ 100) = true by simp [g], Bool.not_true, Bool.false_eq_true, if_false]
      obtain ⟨⟨g0, g1⟩, g2, g3⟩ := g
      obtain ⟨r, e1, e2⟩ := meet_both D E h2 h3 g2 g3 2000 2004 0 L M h0 h1 g0 g1 (by omega) (by omega) (by omega) (by omega)
      rw [e1, e2]; simp
    · simp only [show decide ((0 ≤ M ∧ M ≤ 1000) ∧ 1 ≤ E ∧ E ≤ 100) = false by simpa using g, Bool.not_false, if_true]; simp
  · simp only [show decide ((0 ≤ L ∧ L ≤ 1000) ∧ 1 ≤ D ∧ D ≤ 100) = false by simpa using h, Bool.false_eq_true, if_false, spec_FirstMeeting.j0, impl_FirstMeeting.j0]; simp
end Go.Proofs.Yticeepbpgmidlaa.Pure
