/- FnExactWheelAfter: what the law's Go functions compute, as plain functions, and that the law holds of them at all arguments. -/
import Derived.Test.YticeepbpgmidlaaPFnExactWheelAfterx2
namespace Go.Proofs.Yticeepbpgmidlaa.AuxFnExactWheelAfter
open Go.RowKit Go.Proofs.Yticeepbpgmidlaa.PFnExactWheelAfter Go.Proofs.YticeepbpgmidlaaW.PrintWords Go.Proofs.YticeepbpgmidlaaW.PrintLast Go.Proofs.YticeepbpgmidlaaW.PrintMore
set_option linter.unusedVariables false
set_option linter.unusedSimpArgs false
theorem w64 {x : Int} (h0 : -9223372036854775808 ≤ x) (h1 : x ≤ 9223372036854775807) : wrap64 x = x := by
  unfold wrap64; omega
theorem in_spec (a b c : Int) : spec_l1In.f a b c = some (decide (b ≤ a ∧ a ≤ c)) := by
  unfold spec_l1In.f
  by_cases h : a ≥ b
  · rw [if_pos h]; congr 1; simp [show b ≤ a from h]
  · rw [if_neg h]; congr 1; simp [show ¬ b ≤ a from h]
theorem in_impl (a b c : Int) : impl_within.f a b c = some (decide (b ≤ a ∧ a ≤ c)) := by
  unfold impl_within.f
  by_cases h : b ≤ a
  · rw [if_pos h]; congr 1; simp [h]
  · rw [if_neg h]; congr 1; simp [h]
/-- How much runs out. -/
def drp (L D : Int) : Int := (L + D - 1) / D
theorem drp_zero (D : Int) (h : 1 ≤ D) : drp 0 D = 0 := by
  unfold drp; rw [Int.ediv_eq_zero_of_lt (by omega) (by omega)]
theorem drp_pos (L D : Int) (hL : 1 ≤ L) (hD : 1 ≤ D) : 1 ≤ drp L D := by
  unfold drp
  exact (Int.le_ediv_iff_mul_le (by omega)).mpr (by omega)
theorem drp_le (L D : Int) (hL : 0 ≤ L) (hD : 1 ≤ D) : drp L D ≤ L := by
  rcases Int.lt_or_le 0 L with h | h
  · unfold drp
    apply Int.ediv_le_of_le_mul (by omega)
    have := Int.mul_nonneg (show 0 ≤ L - 1 by omega) (show 0 ≤ D - 1 by omega)
    rw [Int.sub_mul, Int.mul_sub] at this
    omega
  · obtain rfl : L = 0 := by omega
    rw [drp_zero D hD]; omega
theorem drp_nonneg (L D : Int) (hL : 0 ≤ L) (hD : 1 ≤ D) : 0 ≤ drp L D := by
  unfold drp; exact Int.ediv_nonneg (by omega) (by omega)
/-- In how many ticks a scoop is full. -/
def fill (room rate : Int) : Int := (room + rate - 1) / rate
theorem fill_bd (room rate : Int) (h0 : 1 ≤ room) (h1 : room ≤ 60) (h2 : 1 ≤ rate) (h3 : rate ≤ 60) : 1 ≤ fill room rate ∧ fill room rate ≤ 60 := by
  unfold fill
  refine ⟨(Int.le_ediv_iff_mul_le (by omega)).mpr (by omega), ?_⟩
  have : room + rate - 1 ≤ 60 * rate := by omega
  exact Int.ediv_le_of_le_mul (by omega) this
theorem fill_spec (s room rate : Int) (h0 : 1 ≤ room) (h1 : room ≤ 60) (h2 : 1 ≤ rate) (h3 : rate ≤ 60) : spec_ckFill.f s room rate = some (fill room rate) := by
  have := fill_bd room rate h0 h1 h2 h3
  unfold fill at this
  unfold spec_ckFill.f
  rw [if_neg (by omega), w64 (x := room + rate) (by omega) (by omega), w64 (x := room + rate - 1) (by omega) (by omega), Int.tdiv_eq_ediv_of_nonneg (by omega), w64 (by omega) (by omega)]; rfl
theorem fill_impl (s room rate : Int) (h0 : 1 ≤ room) (h1 : room ≤ 60) (h2 : 1 ≤ rate) (h3 : rate ≤ 60) : impl_Wheel_ticks.f s room rate = some (fill room rate) := by
  have := fill_bd room rate h0 h1 h2 h3
  unfold fill at this
  unfold impl_Wheel_ticks.f
  rw [if_neg (by omega), w64 (x := room + rate) (by omega) (by omega), w64 (x := room + rate - 1) (by omega) (by omega), Int.tdiv_eq_ediv_of_nonneg (by omega), w64 (by omega) (by omega)]; rfl
def WheelOk (s room rate : Int) : Prop := (2 ≤ s ∧ s ≤ 60) ∧ (1 ≤ room ∧ room ≤ 60) ∧ 1 ≤ rate ∧ rate ≤ 60
instance (s room rate : Int) : Decidable (WheelOk s room rate) := by unfold WheelOk; infer_instance
theorem wheel_spec (s room rate : Int) : spec_ckWheel.f s room rate = some (decide (WheelOk s room rate)) := by
  unfold spec_ckWheel.f
  simp only [in_spec, Option.bind_some]
  by_cases a : 2 ≤ s ∧ s ≤ 60
  · rw [if_pos (by simpa using a)]
    by_cases b : 1 ≤ room ∧ room ≤ 60
    · rw [if_pos (by simpa using b)]; simp [WheelOk, a, b]
    · rw [if_neg (by simpa using b)]; simp [WheelOk, b]
  · rw [if_neg (by simpa using a)]; simp [WheelOk, a]
theorem wheel_impl (s room rate : Int) : impl_IsWheel.f s room rate = some (decide (WheelOk s room rate)) := by
  unfold impl_IsWheel.f
  simp only [in_impl, Option.bind_some]
  by_cases a : 2 ≤ s ∧ s ≤ 60
  · rw [if_pos (by simpa using a)]
    by_cases b : 1 ≤ room ∧ room ≤ 60
    · rw [if_pos (by simpa using b)]; simp [WheelOk, a, b]
    · rw [if_neg (by simpa using b)]; simp [WheelOk, b]
  · rw [if_neg (by simpa using a)]; simp [WheelOk, a]
theorem turned_impl (s room rate t : Int) : impl_isTurned.f s room rate t = some (decide (WheelOk s room rate ∧ 0 ≤ t ∧ t ≤ 10000)) := by
  unfold impl_isTurned.f
  simp only [wheel_impl, in_impl, Option.bind_some]
  by_cases a : WheelOk s room rate
  · rw [if_pos (by simpa using a)]; simp [a]
  · rw [if_neg (by simpa using a)]; simp [a]
end Go.Proofs.Yticeepbpgmidlaa.AuxFnExactWheelAfter
namespace Go.Proofs.Yticeepbpgmidlaa.Pure
open Go.RowKit Go.Proofs.Yticeepbpgmidlaa.PFnExactWheelAfter Go.Proofs.Yticeepbpgmidlaa.AuxFnExactWheelAfter Go.Proofs.YticeepbpgmidlaaW.PrintWords Go.Proofs.YticeepbpgmidlaaW.PrintLast Go.Proofs.YticeepbpgmidlaaW.PrintMore
theorem FnExactWheelAfter (s room rate t : Int) (_ : (Lit.int .i64 s).wf = true) (_ : (Lit.int .i64 room).wf = true) (_ : (Lit.int .i64 rate).wf = true) (_ : (Lit.int .i64 t).wf = true) :
    ∃ k, laws_FnExactWheelAfter.f k s room rate t = some true := by
  refine ⟨1, ?_⟩
  unfold laws_FnExactWheelAfter.f laws_toWheel.f spec_WheelAfter.f impl_WheelAfter.f spec_ckTime.f
  simp only [Option.bind_some, wheel_spec, turned_impl, in_spec]
  by_cases h : WheelOk s room rate
  · rw [if_pos (by simpa using h)]
    obtain ⟨h0, h1, h2, h3⟩ := id h
    simp only [spec_WheelAfter.j0]
    by_cases ht : 0 ≤ t ∧ t ≤ 10000
    · have b := fill_bd room rate h1.1 h1.2 h2 h3
      rw [if_neg (by simpa using ht), if_pos (by simp [h, ht]), fill_spec s room rate h1.1 h1.2 h2 h3, fill_impl s room rate h1.1 h1.2 h2 h3]
      simp only [Option.bind_some]
      rw [if_neg (by omega), if_neg (by omega), if_neg (by omega)]; simp
    · rw [if_pos (by simp; omega), if_neg (by simp; omega)]; simp
  · rw [if_neg (by simpa using h), if_neg (by simp [h])]; simp [spec_WheelAfter.j0]
end Go.Proofs.Yticeepbpgmidlaa.Pure
