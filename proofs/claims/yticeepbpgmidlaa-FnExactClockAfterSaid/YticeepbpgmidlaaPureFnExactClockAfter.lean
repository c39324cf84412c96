/- FnExactClockAfter: what the law's Go functions compute, as plain functions, and that the law holds of them at all arguments. -/
import Derived.Test.YticeepbpgmidlaaQx4
namespace Go.Proofs.Yticeepbpgmidlaa.AuxFnExactClockAfter
open Go.RowKit Go.Proofs.Yticeepbpgmidlaa.Q Go.Proofs.YticeepbpgmidlaaW.PrintWords Go.Proofs.YticeepbpgmidlaaW.PrintLast Go.Proofs.YticeepbpgmidlaaW.PrintMore
set_option linter.unusedVariables false
set_option linter.unusedSimpArgs false
theorem w64 {x : Int} (h0 : -9223372036854775808 ≤ x) (h1 : x ≤ 9223372036854775807) : wrap64 x = x := by
  unfold wrap64; omega
theorem in_spec (a b c : Int) : spec_l1In.f a b c = some (decide (b ≤ a ∧ a ≤ c)) := by
  unfold spec_l1In.f
  by_cases h : a ≥ b
  · rw [if_pos h]; congr 1; simp [show b ≤ a from h]
  · rw [if_neg h]; congr 1; simp [show ¬ b ≤ a from h]
theorem in_impl (a b c : Int) : impl_within.f a b c = some (decide (b ≤ a ∧ a ≤ c)) := by
  unfold impl_within.f
  by_cases h : b ≤ a
  · rw [if_pos h]; congr 1; simp [h]
  · rw [if_neg h]; congr 1; simp [h]
/-- How much runs out. -/
def drp (L D : Int) : Int := (L + D - 1) / D
theorem drp_zero (D : Int) (h : 1 ≤ D) : drp 0 D = 0 := by
  unfold drp; rw [Int.ediv_eq_zero_of_lt (by omega) (by omega)]
theorem drp_pos (L D : Int) (hL : 1 ≤ L) (hD : 1 ≤ D) : 1 ≤ drp L D := by
  unfold drp
  exact (Int.le_ediv_iff_mul_le (by omega)).mpr (by omega)
theorem drp_le (L D : Int) (hL : 0 ≤ L) (hD : 1 ≤ D) : drp L D ≤ L := by
  rcases Int.lt_or_le 0 L with h | h
  · unfold drp
    apply Int.ediv_le_of_le_mul (by omega)
    have := Int.mul_nonneg (show 0 ≤ L - 1 by omega) (show 0 ≤ D - 1 by omega)
    rw [Int.sub_mul, Int.mul_sub] at this
    omega
  · obtain rfl : L = 0 := by omega
    rw [drp_zero D hD]; omega
theorem drp_nonneg (L D : Int) (hL : 0 ≤ L) (hD : 1 ≤ D) : 0 ≤ drp L D := by
  unfold drp; exact Int.ediv_nonneg (by omega) (by omega)
theorem drop_spec (L D : Int) (h0 : 0 ≤ L) (h1 : L ≤ 1000) (h2 : 1 ≤ D) (h3 : D ≤ 100) : spec_ckDrop.f L D = some (drp L D) := by
  unfold spec_ckDrop.f
  rw [if_neg (by omega), w64 (x := L + D) (by omega) (by omega), w64 (x := L + D - 1) (by omega) (by omega), Int.tdiv_eq_ediv_of_nonneg (by omega)]
  have a := drp_nonneg L D h0 h2
  have b := drp_le L D h0 h2
  unfold drp at a b
  rw [w64 (by omega) (by omega)]; rfl
theorem drop_impl (L D : Int) (h0 : 0 ≤ L) (h1 : L ≤ 1000) (h2 : 1 ≤ D) (h3 : D ≤ 100) : impl_Clock_drop.f L D = some (drp L D) := by
  unfold impl_Clock_drop.f
  rw [if_neg (by omega), w64 (x := L + D) (by omega) (by omega), w64 (x := L + D - 1) (by omega) (by omega), Int.tdiv_eq_ediv_of_nonneg (by omega)]
  have a := drp_nonneg L D h0 h2
  have b := drp_le L D h0 h2
  unfold drp at a b
  rw [w64 (by omega) (by omega)]; rfl
theorem next_impl (L D : Int) (h0 : 0 ≤ L) (h1 : L ≤ 1000) (h2 : 1 ≤ D) (h3 : D ≤ 100) : impl_Clock_next.f L D = some (L - drp L D, D) := by
  unfold impl_Clock_next.f
  rw [drop_impl L D h0 h1 h2 h3]; simp only [Option.bind_some]
  have a := drp_nonneg L D h0 h2
  have b := drp_le L D h0 h2
  rw [w64 (by omega) (by omega)]
theorem good_spec (L D : Int) : spec_ckGood.f L D = some (decide ((0 ≤ L ∧ L ≤ 1000) ∧ 1 ≤ D ∧ D ≤ 100)) := by
  unfold spec_ckGood.f
  rw [in_spec]; simp only [Option.bind_some]
  by_cases h : 0 ≤ L ∧ L ≤ 1000
  · rw [if_pos (by simpa using h), in_spec]; simp [h]
  · rw [if_neg (by simpa using h)]; simp [h]
theorem good_impl (L D : Int) : impl_IsClock.f L D = some (decide ((0 ≤ L ∧ L ≤ 1000) ∧ 1 ≤ D ∧ D ≤ 100)) := by
  unfold impl_IsClock.f
  rw [in_impl]; simp only [Option.bind_some]
  by_cases h : 0 ≤ L ∧ L ≤ 1000
  · rw [if_pos (by simpa using h), in_impl]; simp [h]
  · rw [if_neg (by simpa using h)]; simp [h]
end Go.Proofs.Yticeepbpgmidlaa.AuxFnExactClockAfter
namespace Go.Proofs.Yticeepbpgmidlaa.Pure
open Go.RowKit Go.Proofs.Yticeepbpgmidlaa.Q Go.Proofs.Yticeepbpgmidlaa.AuxFnExactClockAfter Go.Proofs.YticeepbpgmidlaaW.PrintWords Go.Proofs.YticeepbpgmidlaaW.PrintLast Go.Proofs.YticeepbpgmidlaaW.PrintMore
theorem after_both (D : Int) (h2 : 1 ≤ D) (h3 : D ≤ 100) : ∀ (n k : Nat) (t L : Int), 0 ≤ L → L ≤ 1000 → 0 ≤ t → t ≤ 10000 → L ≤ n → n < k →
    ∃ r, spec_ckAfter.l0 k t L D = some (r, D) ∧ impl_Clock_after.l0 k t L D = some (r, D) := by
  intro n
  induction n with
  | zero =>
    intro k t L h0 h1 ht0 ht1 hn hk
    obtain ⟨k, rfl⟩ : ∃ m, k = m + 1 := ⟨k - 1, by omega⟩
    simp only [spec_ckAfter.l0, impl_Clock_after.l0]
    rw [if_neg (show ¬ L > 0 by omega), if_neg (show ¬ L > 0 by omega)]
    by_cases h : t > 0
    · rw [if_pos h]; exact ⟨L, rfl, rfl⟩
    · rw [if_neg h]; exact ⟨L, rfl, rfl⟩
  | succ n ih =>
    intro k t L h0 h1 ht0 ht1 hn hk
    obtain ⟨k, rfl⟩ : ∃ m, k = m + 1 := ⟨k - 1, by omega⟩
    simp only [spec_ckAfter.l0, impl_Clock_after.l0]
    by_cases h : t > 0
    · by_cases hL : L > 0
      · have a := drp_pos L D (by omega) h2
        have b := drp_le L D h0 h2
        rw [if_pos h, if_pos hL, if_pos h, if_pos hL, drop_spec L D h0 h1 h2 h3, next_impl L D h0 h1 h2 h3]; simp only [Option.bind_some]
        rw [w64 (by omega) (by omega), w64 (by omega) (by omega)]
        exact ih k _ _ (by omega) (by omega) (by omega) (by omega) (by omega) (by omega)
      · rw [if_pos h, if_neg hL, if_pos h, if_neg hL]; exact ⟨L, rfl, rfl⟩
    · rw [if_neg h, if_neg h]; exact ⟨L, rfl, rfl⟩
theorem FnExactClockAfter (L D t : Int) (_ : (Lit.int .i64 L).wf = true) (_ : (Lit.int .i64 D).wf = true) (_ : (Lit.int .i64 t).wf = true) : ∃ k, laws_FnExactClockAfter.f k L D t = some true := by
  refine ⟨1002, ?_⟩
  unfold laws_FnExactClockAfter.f laws_toClock.f spec_ClockAfter.f impl_ClockAfter.f spec_ckTime.f
  simp only [Option.bind_some, good_spec, good_impl, in_spec, in_impl]
  by_cases h : (0 ≤ L ∧ L ≤ 1000) ∧ 1 ≤ D ∧ D ≤ 100
  · obtain ⟨⟨h0, h1⟩, h2, h3⟩ := h
    have e : decide ((0 ≤ L ∧ L ≤ 1000) ∧ 1 ≤ D ∧ D ≤ 100) = true := by simp [h0, h1, h2, h3]
    rw [e]; simp only [if_true]
    by_cases ht : 0 ≤ t ∧ t ≤ 10000
    · obtain ⟨r, e1, e2⟩ := after_both D h2 h3 1000 1002 t L h0 h1 ht.1 ht.2 (by omega) (by omega)
      simp only [show decide (0 ≤ t ∧ t ≤ 10000) = true by simp [ht], if_true]
      unfold spec_ckAfter.f impl_Clock_after.f
      rw [e1, e2]; simp [laws_eqClock.f]
    · simp only [show decide (0 ≤ t ∧ t ≤ 10000) = false by simpa using ht, Bool.false_eq_true, if_false]; simp [laws_eqClock.f]
  · simp only [show decide ((0 ≤ L ∧ L ≤ 1000) ∧ 1 ≤ D ∧ D ≤ 100) = false by simpa using h, Bool.false_eq_true, if_false]; simp [laws_eqClock.f]
end Go.Proofs.Yticeepbpgmidlaa.Pure
