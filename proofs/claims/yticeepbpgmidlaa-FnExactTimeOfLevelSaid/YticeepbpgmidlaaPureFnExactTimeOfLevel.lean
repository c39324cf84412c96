/- FnExactTimeOfLevel: what the law's Go functions compute, as plain functions, and that the law holds of them at all arguments. -/
import Derived.Test.YticeepbpgmidlaaPFnExactTimeOfLevelx2
namespace Go.Proofs.Yticeepbpgmidlaa.AuxFnExactTimeOfLevel
open Go.RowKit Go.Proofs.Yticeepbpgmidlaa.PFnExactTimeOfLevel Go.Proofs.YticeepbpgmidlaaW.PrintWords Go.Proofs.YticeepbpgmidlaaW.PrintLast Go.Proofs.YticeepbpgmidlaaW.PrintMore
set_option linter.unusedVariables false
set_option linter.unusedSimpArgs false
theorem w64 {x : Int} (h0 : -9223372036854775808 ≤ x) (h1 : x ≤ 9223372036854775807) : wrap64 x = x := by
  unfold wrap64; omega
theorem in_spec (a b c : Int) : spec_l1In.f a b c = some (decide (b ≤ a ∧ a ≤ c)) := by
  unfold spec_l1In.f
  by_cases h : a ≥ b
  · rw [if_pos h]; congr 1; simp [show b ≤ a from h]
  · rw [if_neg h]; congr 1; simp [show ¬ b ≤ a from h]
theorem in_impl (a b c : Int) : impl_within.f a b c = some (decide (b ≤ a ∧ a ≤ c)) := by
  unfold impl_within.f
  by_cases h : b ≤ a
  · rw [if_pos h]; congr 1; simp [h]
  · rw [if_neg h]; congr 1; simp [h]
/-- How much runs out. -/
def drp (L D : Int) : Int := (L + D - 1) / D
theorem drp_zero (D : Int) (h : 1 ≤ D) : drp 0 D = 0 := by
  unfold drp; rw [Int.ediv_eq_zero_of_lt (by omega) (by omega)]
theorem drp_pos (L D : Int) (hL : 1 ≤ L) (hD : 1 ≤ D) : 1 ≤ drp L D := by
  unfold drp
  exact (Int.le_ediv_iff_mul_le (by omega)).mpr (by omega)
theorem drp_le (L D : Int) (hL : 0 ≤ L) (hD : 1 ≤ D) : drp L D ≤ L := by
  rcases Int.lt_or_le 0 L with h | h
  · unfold drp
    apply Int.ediv_le_of_le_mul (by omega)
    have := Int.mul_nonneg (show 0 ≤ L - 1 by omega) (show 0 ≤ D - 1 by omega)
    rw [Int.sub_mul, Int.mul_sub] at this
    omega
  · obtain rfl : L = 0 := by omega
    rw [drp_zero D hD]; omega
theorem drp_nonneg (L D : Int) (hL : 0 ≤ L) (hD : 1 ≤ D) : 0 ≤ drp L D := by
  unfold drp; exact Int.ediv_nonneg (by omega) (by omega)
theorem drop_spec (L D : Int) (h0 : 0 ≤ L) (h1 : L ≤ 1000) (h2 : 1 ≤ D) (h3 : D ≤ 100) : spec_ckDrop.f L D = some (drp L D) := by
  unfold spec_ckDrop.f
  rw [if_neg (by omega), w64 (x := L + D) (by omega) (by omega), w64 (x := L + D - 1) (by omega) (by omega), Int.tdiv_eq_ediv_of_nonneg (by omega)]
  have a := drp_nonneg L D h0 h2
  have b := drp_le L D h0 h2
  unfold drp at a b
  rw [w64 (by omega) (by omega)]; rfl
theorem drop_impl (L D : Int) (h0 : 0 ≤ L) (h1 : L ≤ 1000) (h2 : 1 ≤ D) (h3 : D ≤ 100) : impl_Clock_drop.f L D = some (drp L D) := by
  unfold impl_Clock_drop.f
  rw [if_neg (by omega), w64 (x := L + D) (by omega) (by omega), w64 (x := L + D - 1) (by omega) (by omega), Int.tdiv_eq_ediv_of_nonneg (by omega)]
  have a := drp_nonneg L D h0 h2
  have b := drp_le L D h0 h2
  unfold drp at a b
  rw [w64 (by omega) (by omega)]; rfl
theorem next_impl (L D : Int) (h0 : 0 ≤ L) (h1 : L ≤ 1000) (h2 : 1 ≤ D) (h3 : D ≤ 100) : impl_Clock_next.f L D = some (L - drp L D, D) := by
  unfold impl_Clock_next.f
  rw [drop_impl L D h0 h1 h2 h3]; simp only [Option.bind_some]
  have a := drp_nonneg L D h0 h2
  have b := drp_le L D h0 h2
  rw [w64 (by omega) (by omega)]
theorem good_spec (L D : Int) : spec_ckGood.f L D = some (decide ((0 ≤ L ∧ L ≤ 1000) ∧ 1 ≤ D ∧ D ≤ 100)) := by
  unfold spec_ckGood.f
  rw [in_spec]; simp only [Option.bind_some]
  by_cases h : 0 ≤ L ∧ L ≤ 1000
  · rw [if_pos (by simpa using h), in_spec]; simp [h]
  · rw [if_neg (by simpa using h)]; simp [h]
theorem good_impl (L D : Int) : impl_IsClock.f L D = some (decide ((0 ≤ L ∧ L ≤ 1000) ∧ 1 ≤ D ∧ D ≤ 100)) := by
  unfold impl_IsClock.f
  rw [in_impl]; simp only [Option.bind_some]
  by_cases h : 0 ≤ L ∧ L ≤ 1000
  · rw [if_pos (by simpa using h), in_impl]; simp [h]
  · rw [if_neg (by simpa using h)]; simp [h]
/-- The levels behind each tick, down to 0. -/
def lv : Nat → Int → Int → List Int
  | 0, _, _ => []
  | n + 1, L, D => if L > 0 then (L - drp L D) :: lv n (L - drp L D) D else []
theorem lv_len : ∀ (n : Nat) (L D : Int), (lv n L D).length ≤ n
  | 0, _, _ => by simp [lv]
  | n + 1, L, D => by
    unfold lv
    split
    · have := lv_len n (L - drp L D) D
      simp; omega
    · simp
theorem levels_l0 (D : Int) (h2 : 1 ≤ D) (h3 : D ≤ 100) : ∀ (n k : Nat) (acc : List Int) (L : Int), 0 ≤ L → L ≤ 1000 → L ≤ n → n < k → acc.length + n < 17592186044416 →
    spec_ckLevels.l0 k acc L D = some (acc ++ lv n L D) := by
  intro n
  induction n with
  | zero =>
    intro k acc L h0 h1 hn hk ha
    obtain ⟨k, rfl⟩ : ∃ m, k = m + 1 := ⟨k - 1, by omega⟩
    simp only [spec_ckLevels.l0]; rw [if_neg (by omega)]; simp [lv]
  | succ n ih =>
    intro k acc L h0 h1 hn hk ha
    obtain ⟨k, rfl⟩ : ∃ m, k = m + 1 := ⟨k - 1, by omega⟩
    simp only [spec_ckLevels.l0]
    by_cases h : L > 0
    · have a := drp_pos L D (by omega) h2
      have b := drp_le L D h0 h2
      rw [if_pos h, drop_spec L D h0 h1 h2 h3]; simp only [Option.bind_some]
      rw [if_pos (by omega), w64 (by omega) (by omega), ih k _ _ (by omega) (by omega) (by omega) (by omega) (by simp; omega)]
      simp [lv, h]
    · rw [if_neg h]; simp [lv, h]
theorem levels_f (k : Nat) (L D : Int) (h0 : 0 ≤ L) (h1 : L ≤ 1000) (h2 : 1 ≤ D) (h3 : D ≤ 100) (hk : 1000 < k) :
    spec_ckLevels.f k L D = some (L :: lv 1000 L D) := by
  unfold spec_ckLevels.f
  rw [levels_l0 D h2 h3 1000 k [L] L h0 h1 (by omega) hk (by simp)]; rfl
/-- Behind how many ticks the level is no more than x. -/
def cnt : Nat → Int → Int → Int → Int
  | 0, _, _, _ => 0
  | n + 1, x, L, D => if L > x then 1 + cnt n x (L - drp L D) D else 0
theorem cnt_bd : ∀ (n : Nat) (x L D : Int), 0 ≤ cnt n x L D ∧ cnt n x L D ≤ n
  | 0, _, _, _ => by simp [cnt]
  | n + 1, x, L, D => by
    unfold cnt
    have := cnt_bd n x (L - drp L D) D
    split <;> omega
theorem timeTo_l0 (x D : Int) (hx : 0 ≤ x) (h2 : 1 ≤ D) (h3 : D ≤ 100) : ∀ (n k : Nat) (t L : Int), 0 ≤ L → L ≤ 1000 → L ≤ n → n < k → 0 ≤ t → t + n ≤ 1000000 →
    impl_Clock_timeTo.l0 k x t L D = some (t + cnt n x L D) := by
  intro n
  induction n with
  | zero =>
    intro k t L h0 h1 hn hk ht hb
    obtain ⟨k, rfl⟩ : ∃ m, k = m + 1 := ⟨k - 1, by omega⟩
    simp only [impl_Clock_timeTo.l0]; rw [if_neg (by omega)]; simp [cnt]
  | succ n ih =>
    intro k t L h0 h1 hn hk ht hb
    obtain ⟨k, rfl⟩ : ∃ m, k = m + 1 := ⟨k - 1, by omega⟩
    simp only [impl_Clock_timeTo.l0]
    by_cases h : L > x
    · have a := drp_pos L D (by omega) h2
      have b := drp_le L D h0 h2
      rw [if_pos h, next_impl L D h0 h1 h2 h3]; simp only [Option.bind_some]
      rw [w64 (by omega) (by omega), ih k _ _ (by omega) (by omega) (by omega) (by omega) (by omega) (by omega)]
      simp only [cnt]; rw [if_pos h]; congr 1; omega
    · rw [if_neg h]; simp [cnt, h]
theorem timeTo_f (k : Nat) (x L D : Int) (hx : 0 ≤ x) (h0 : 0 ≤ L) (h1 : L ≤ 1000) (h2 : 1 ≤ D) (h3 : D ≤ 100) (hk : 1000 < k) :
    impl_Clock_timeTo.f k L D x = some (cnt 1000 x L D) := by
  unfold impl_Clock_timeTo.f
  rw [timeTo_l0 x D hx h2 h3 1000 k 0 L h0 h1 (by omega) hk (by omega) (by omega)]; simp
end Go.Proofs.Yticeepbpgmidlaa.AuxFnExactTimeOfLevel
namespace Go.Proofs.Yticeepbpgmidlaa.Pure
open Go.RowKit Go.Proofs.Yticeepbpgmidlaa.PFnExactTimeOfLevel Go.Proofs.Yticeepbpgmidlaa.AuxFnExactTimeOfLevel Go.Proofs.YticeepbpgmidlaaW.PrintWords Go.Proofs.YticeepbpgmidlaaW.PrintLast Go.Proofs.YticeepbpgmidlaaW.PrintMore
theorem spec_time (D x : Int) (hx : 0 ≤ x) : ∀ (n : Nat) (k : Nat) (pre : List Int) (L : Int), L ≤ n → 0 ≤ L → 1 ≤ D → n + 1 < k → pre.length + n < 1000000 →
    spec_TimeOfLevel.l0 k x (pre ++ L :: lv n L D) ((pre ++ L :: lv n L D).length : Int) pre.length = some (pre.length + cnt n x L D, true) := by
  intro n
  induction n with
  | zero =>
    intro k pre L hn h0 h2 hk hp
    obtain ⟨k, rfl⟩ : ∃ m, k = m + 1 := ⟨k - 1, by omega⟩
    simp only [spec_TimeOfLevel.l0]
    have e : rd (pre ++ L :: lv 0 L D) pre.length = L := by unfold rd; simp
    rw [if_pos (by simp <;> omega), if_pos (by omega), if_pos (by simp <;> omega), e, if_pos (by omega)]; simp [cnt]
  | succ n ih =>
    intro k pre L hn h0 h2 hk hp
    obtain ⟨k, rfl⟩ : ∃ m, k = m + 1 := ⟨k - 1, by omega⟩
    simp only [spec_TimeOfLevel.l0]
    have e : rd (pre ++ L :: lv (n + 1) L D) pre.length = L := by unfold rd; simp
    rw [if_pos (by simp <;> omega), if_pos (by omega), if_pos (by simp <;> omega), e]
    by_cases h : L ≤ x
    · rw [if_pos h]; simp only [cnt]; rw [if_neg (by omega)]; simp
    · have a := drp_pos L D (by omega) h2
      have b := drp_le L D h0 h2
      have ih' := ih k (pre ++ [L]) (L - drp L D) (by omega) (by omega) h2 (by omega) (by simp; omega)
      have el : lv (n + 1) L D = (L - drp L D) :: lv n (L - drp L D) D := by simp only [lv]; rw [if_pos (by omega)]
      have ec : cnt (n + 1) x L D = 1 + cnt n x (L - drp L D) D := by simp only [cnt]; rw [if_pos (by omega)]
      rw [if_neg h, el, ec, w64 (by omega) (by omega)]
      simp only [List.append_assoc, List.cons_append, List.nil_append, List.length_append, List.length_cons, List.length_nil] at ih' ⊢
      have e1 : ((pre.length : Int) + 1) = ((pre.length + (0 + 1) : Nat) : Int) := by simp
      rw [e1, ih']; congr 2; simp; omega
theorem FnExactTimeOfLevel (L D x : Int) (_ : (Lit.int .i64 L).wf = true) (_ : (Lit.int .i64 D).wf = true) (_ : (Lit.int .i64 x).wf = true) : ∃ k, laws_FnExactTimeOfLevel.f k L D x = some true := by
  refine ⟨2002, ?_⟩
  unfold laws_FnExactTimeOfLevel.f laws_toClock.f spec_TimeOfLevel.f impl_TimeOfLevel.f
  simp only [Option.bind_some, good_spec, good_impl]
  by_cases h : (0 ≤ L ∧ L ≤ 1000) ∧ 1 ≤ D ∧ D ≤ 100
  · obtain ⟨⟨h0, h1⟩, h2, h3⟩ := h
    rw [if_pos (by simp [h0, h1, h2, h3]), if_pos (by simp [h0, h1, h2, h3])]
    by_cases hx : x < 0
    · rw [if_pos hx]; simp [spec_TimeOfLevel.j0, hx]
    · have e := spec_time D x (by omega) 1000 2001 [] L (by omega) h0 h2 (by omega) (by simp)
      have hl := lv_len 1000 L D
      rw [if_neg hx, timeTo_f 2002 x L D (by omega) h0 h1 h2 h3 (by omega)]
      simp only [spec_TimeOfLevel.j0]
      rw [if_neg (by simpa using hx), levels_f 2001 L D h0 h1 h2 h3 (by omega)]
      simp only [Option.bind_some, List.nil_append, List.length_nil] at e ⊢
      rw [show (0 : Int) = ((0 : Nat) : Int) from rfl, e]; simp
  · rw [if_neg (by simpa using h), if_neg (by simpa using h)]; simp [spec_TimeOfLevel.j0]
end Go.Proofs.Yticeepbpgmidlaa.Pure
