/- FnExactLeastLevelFor: what the law's Go functions compute, as plain functions, and that the law holds of them at all arguments. -/
import Derived.Test.YticeepbpgmidlaaPFnExactLeastLevelForx2
namespace Go.Proofs.Yticeepbpgmidlaa.AuxFnExactLeastLevelFor
open Go.RowKit Go.Proofs.Yticeepbpgmidlaa.PFnExactLeastLevelFor Go.Proofs.YticeepbpgmidlaaW.PrintWords Go.Proofs.YticeepbpgmidlaaW.PrintLast Go.Proofs.YticeepbpgmidlaaW.PrintMore
set_option linter.unusedVariables false
set_option linter.unusedSimpArgs false
theorem w64 {x : Int} (h0 : -9223372036854775808 ≤ x) (h1 : x ≤ 9223372036854775807) : wrap64 x = x := by
  unfold wrap64; omega
theorem in_spec (a b c : Int) : spec_l1In.f a b c = some (decide (b ≤ a ∧ a ≤ c)) := by
  unfold spec_l1In.f
  by_cases h : a ≥ b
  · rw [if_pos h]; congr 1; simp [show b ≤ a from h]
  · rw [if_neg h]; congr 1; simp [show ¬ b ≤ a from h]
theorem in_impl (a b c : Int) : impl_within.f a b c = some (decide (b ≤ a ∧ a ≤ c)) := by
  unfold impl_within.f
  by_cases h : b ≤ a
  · rw [if_pos h]; congr 1; simp [h]
  · rw [if_neg h]; congr 1; simp [h]
/-- How much runs out. -/
def drp (L D : Int) : Int := (L + D - 1) / D
theorem drp_zero (D : Int) (h : 1 ≤ D) : drp 0 D = 0 := by
  unfold drp; rw [Int.ediv_eq_zero_of_lt (by omega) (by omega)]
theorem drp_pos (L D : Int) (hL : 1 ≤ L) (hD : 1 ≤ D) : 1 ≤ drp L D := by
  unfold drp
  exact (Int.le_ediv_iff_mul_le (by omega)).mpr (by omega)
theorem drp_le (L D : Int) (hL : 0 ≤ L) (hD : 1 ≤ D) : drp L D ≤ L := by
  rcases Int.lt_or_le 0 L with h | h
  · unfold drp
    apply Int.ediv_le_of_le_mul (by omega)
    have := Int.mul_nonneg (show 0 ≤ L - 1 by omega) (show 0 ≤ D - 1 by omega)
    rw [Int.sub_mul, Int.mul_sub] at this
    omega
  · obtain rfl : L = 0 := by omega
    rw [drp_zero D hD]; omega
theorem drp_nonneg (L D : Int) (hL : 0 ≤ L) (hD : 1 ≤ D) : 0 ≤ drp L D := by
  unfold drp; exact Int.ediv_nonneg (by omega) (by omega)
theorem drop_spec (L D : Int) (h0 : 0 ≤ L) (h1 : L ≤ 1000) (h2 : 1 ≤ D) (h3 : D ≤ 100) : spec_ckDrop.f L D = some (drp L D) := by
  unfold spec_ckDrop.f
  rw [if_neg (by omega), w64 (x := L + D) (by omega) (by omega), w64 (x := L + D - 1) (by omega) (by omega), Int.tdiv_eq_ediv_of_nonneg (by omega)]
  have a := drp_nonneg L D h0 h2
  have b := drp_le L D h0 h2
  unfold drp at a b
  rw [w64 (by omega) (by omega)]; rfl
theorem drop_impl (L D : Int) (h0 : 0 ≤ L) (h1 : L ≤ 1000) (h2 : 1 ≤ D) (h3 : D ≤ 100) : impl_Clock_drop.f L D = some (drp L D) := by
  unfold impl_Clock_drop.f
  rw [if_neg (by omega), w64 (x := L + D) (by omega) (by omega), w64 (x := L + D - 1) (by omega) (by omega), Int.tdiv_eq_ediv_of_nonneg (by omega)]
  have a := drp_nonneg L D h0 h2
  have b := drp_le L D h0 h2
  unfold drp at a b
  rw [w64 (by omega) (by omega)]; rfl
theorem next_impl (L D : Int) (h0 : 0 ≤ L) (h1 : L ≤ 1000) (h2 : 1 ≤ D) (h3 : D ≤ 100) : impl_Clock_next.f L D = some (L - drp L D, D) := by
  unfold impl_Clock_next.f
  rw [drop_impl L D h0 h1 h2 h3]; simp only [Option.bind_some]
  have a := drp_nonneg L D h0 h2
  have b := drp_le L D h0 h2
  rw [w64 (by omega) (by omega)]
/-- The levels behind each tick, down to 0. -/
def lv : Nat → Int → Int → List Int
  | 0, _, _ => []
  | n + 1, L, D => if L > 0 then (L - drp L D) :: lv n (L - drp L D) D else []
theorem lv_len : ∀ (n : Nat) (L D : Int), (lv n L D).length ≤ n
  | 0, _, _ => by simp [lv]
  | n + 1, L, D => by
    unfold lv
    split
    · have := lv_len n (L - drp L D) D
      simp; omega
    · simp
theorem levels_l0 (D : Int) (h2 : 1 ≤ D) (h3 : D ≤ 100) : ∀ (n k : Nat) (acc : List Int) (L : Int), 0 ≤ L → L ≤ 1000 → L ≤ n → n < k → acc.length + n < 17592186044416 →
    spec_ckLevels.l0 k acc L D = some (acc ++ lv n L D) := by
  intro n
  induction n with
  | zero =>
    intro k acc L h0 h1 hn hk ha
    obtain ⟨k, rfl⟩ : ∃ m, k = m + 1 := ⟨k - 1, by omega⟩
    simp only [spec_ckLevels.l0]; rw [if_neg (by omega)]; simp [lv]
  | succ n ih =>
    intro k acc L h0 h1 hn hk ha
    obtain ⟨k, rfl⟩ : ∃ m, k = m + 1 := ⟨k - 1, by omega⟩
    simp only [spec_ckLevels.l0]
    by_cases h : L > 0
    · have a := drp_pos L D (by omega) h2
      have b := drp_le L D h0 h2
      rw [if_pos h, drop_spec L D h0 h1 h2 h3]; simp only [Option.bind_some]
      rw [if_pos (by omega), w64 (by omega) (by omega), ih k _ _ (by omega) (by omega) (by omega) (by omega) (by simp; omega)]
      simp [lv, h]
    · rw [if_neg h]; simp [lv, h]
theorem levels_f (k : Nat) (L D : Int) (h0 : 0 ≤ L) (h1 : L ≤ 1000) (h2 : 1 ≤ D) (h3 : D ≤ 100) (hk : 1000 < k) :
    spec_ckLevels.f k L D = some (L :: lv 1000 L D) := by
  unfold spec_ckLevels.f
  rw [levels_l0 D h2 h3 1000 k [L] L h0 h1 (by omega) hk (by simp)]; rfl
/-- Behind how many ticks the level is no more than x. -/
def cnt : Nat → Int → Int → Int → Int
  | 0, _, _, _ => 0
  | n + 1, x, L, D => if L > x then 1 + cnt n x (L - drp L D) D else 0
theorem cnt_bd : ∀ (n : Nat) (x L D : Int), 0 ≤ cnt n x L D ∧ cnt n x L D ≤ n
  | 0, _, _, _ => by simp [cnt]
  | n + 1, x, L, D => by
    unfold cnt
    have := cnt_bd n x (L - drp L D) D
    split <;> omega
theorem timeTo_l0 (x D : Int) (hx : 0 ≤ x) (h2 : 1 ≤ D) (h3 : D ≤ 100) : ∀ (n k : Nat) (t L : Int), 0 ≤ L → L ≤ 1000 → L ≤ n → n < k → 0 ≤ t → t + n ≤ 1000000 →
    impl_Clock_timeTo.l0 k x t L D = some (t + cnt n x L D) := by
  intro n
  induction n with
  | zero =>
    intro k t L h0 h1 hn hk ht hb
    obtain ⟨k, rfl⟩ : ∃ m, k = m + 1 := ⟨k - 1, by omega⟩
    simp only [impl_Clock_timeTo.l0]; rw [if_neg (by omega)]; simp [cnt]
  | succ n ih =>
    intro k t L h0 h1 hn hk ht hb
    obtain ⟨k, rfl⟩ : ∃ m, k = m + 1 := ⟨k - 1, by omega⟩
    simp only [impl_Clock_timeTo.l0]
    by_cases h : L > x
    · have a := drp_pos L D (by omega) h2
      have b := drp_le L D h0 h2
      rw [if_pos h, next_impl L D h0 h1 h2 h3]; simp only [Option.bind_some]
      rw [w64 (by omega) (by omega), ih k _ _ (by omega) (by omega) (by omega) (by omega) (by omega) (by omega)]
      simp only [cnt]; rw [if_pos h]; congr 1; omega
    · rw [if_neg h]; simp [cnt, h]
theorem timeTo_f (k : Nat) (x L D : Int) (hx : 0 ≤ x) (h0 : 0 ≤ L) (h1 : L ≤ 1000) (h2 : 1 ≤ D) (h3 : D ≤ 100) (hk : 1000 < k) :
    impl_Clock_timeTo.f k L D x = some (cnt 1000 x L D) := by
  unfold impl_Clock_timeTo.f
  rw [timeTo_l0 x D hx h2 h3 1000 k 0 L h0 h1 (by omega) hk (by omega) (by omega)]; simp
theorem cnt_lv : ∀ (n : Nat) (L D : Int), cnt n 0 L D = (lv n L D).length
  | 0, _, _ => by simp [cnt, lv]
  | n + 1, L, D => by
    unfold cnt lv
    have := cnt_lv n (L - drp L D) D
    split
    · simp; omega
    · simp
end Go.Proofs.Yticeepbpgmidlaa.AuxFnExactLeastLevelFor
namespace Go.Proofs.Yticeepbpgmidlaa.Pure
open Go.RowKit Go.Proofs.Yticeepbpgmidlaa.PFnExactLeastLevelFor Go.Proofs.Yticeepbpgmidlaa.AuxFnExactLeastLevelFor Go.Proofs.YticeepbpgmidlaaW.PrintWords Go.Proofs.YticeepbpgmidlaaW.PrintLast Go.Proofs.YticeepbpgmidlaaW.PrintMore
theorem empty_spec (k : Nat) (L D : Int) (h0 : 0 ≤ L) (h1 : L ≤ 1000) (h2 : 1 ≤ D) (h3 : D ≤ 100) (hk : 1000 < k) : spec_ckEmpty.f k L D = some (cnt 1000 0 L D) := by
  have hl := lv_len 1000 L D
  unfold spec_ckEmpty.f
  rw [levels_f k L D h0 h1 h2 h3 hk]; simp only [Option.bind_some]
  rw [cnt_lv, w64 (by simp <;> omega) (by simp <;> omega)]; simp
theorem least_loops (D t : Int) (h2 : 1 ≤ D) (h3 : D ≤ 100) : ∀ (n k : Nat) (L : Int), 0 ≤ L → L + n = 1001 → 1000 + n < k →
    ∃ r, spec_LeastLevelFor.l0 k D t L = some r ∧ impl_LeastLevelFor.l0 k D t L = some r := by
  intro n
  induction n with
  | zero =>
    intro k L h0 hn hk
    obtain ⟨k, rfl⟩ : ∃ m, k = m + 1 := ⟨k - 1, by omega⟩
    simp only [spec_LeastLevelFor.l0, impl_LeastLevelFor.l0]
    rw [if_neg (by omega), if_neg (by omega)]; exact ⟨_, rfl, rfl⟩
  | succ n ih =>
    intro k L h0 hn hk
    obtain ⟨k, rfl⟩ : ∃ m, k = m + 1 := ⟨k - 1, by omega⟩
    simp only [spec_LeastLevelFor.l0, impl_LeastLevelFor.l0]
    rw [if_pos (by omega), if_pos (by omega), empty_spec k L D h0 (by omega) h2 h3 (by omega), timeTo_f k 0 L D (by omega) h0 (by omega) h2 h3 (by omega)]
    simp only [Option.bind_some]
    by_cases h : cnt 1000 0 L D ≥ t
    · rw [if_pos h, if_pos h]; exact ⟨_, rfl, rfl⟩
    · rw [if_neg h, if_neg h, w64 (by omega) (by omega)]; exact ih k _ (by omega) (by omega) (by omega)
theorem FnExactLeastLevelFor : laws_FnExactLeastLevelFor.Pure := by
  intro D t _ _
  refine ⟨2003, ?_⟩
  unfold laws_FnExactLeastLevelFor.f spec_LeastLevelFor.f impl_LeastLevelFor.f spec_ckTime.f
  simp only [in_spec, in_impl, Option.bind_some]
  by_cases h : 1 ≤ D ∧ D ≤ 100
  · rw [if_pos (by simpa using h), if_pos (by simpa using h)]
    simp only [spec_LeastLevelFor.j0, impl_LeastLevelFor.j0]
    by_cases ht : 0 ≤ t ∧ t ≤ 10000
    · rw [if_neg (by simpa using ht), if_neg (by simpa using ht)]
      obtain ⟨r, e1, e2⟩ := least_loops D t h.1 h.2 1001 2002 0 (by omega) (by omega) (by omega)
      rw [e1, e2]; simp
    · rw [if_pos (by simp; omega), if_pos (by simp; omega)]; simp
  · rw [if_neg (by simpa using h), if_neg (by simpa using h)]
    simp [spec_LeastLevelFor.j0, impl_LeastLevelFor.j0]
end Go.Proofs.Yticeepbpgmidlaa.Pure
