/- FnExactMarksOf: what the law's Go functions compute, as plain functions, and that the law holds of them at all arguments. -/
import Derived.Test.YticeepbpgmidlaaQx6
namespace Go.Proofs.Yticeepbpgmidlaa.AuxFnExactMarksOf
open Go.RowKit Go.Proofs.Yticeepbpgmidlaa.Q Go.Proofs.YticeepbpgmidlaaW.PrintWords Go.Proofs.YticeepbpgmidlaaW.PrintLast Go.Proofs.YticeepbpgmidlaaW.PrintMore
set_option linter.unusedVariables false
set_option linter.unusedSimpArgs false
theorem w64 {x : Int} (h0 : -9223372036854775808 ≤ x) (h1 : x ≤ 9223372036854775807) : wrap64 x = x := by
  unfold wrap64; omega
theorem in_spec (a b c : Int) : spec_l1In.f a b c = some (decide (b ≤ a ∧ a ≤ c)) := by
  unfold spec_l1In.f
  by_cases h : a ≥ b
  · rw [if_pos h]; congr 1; simp [show b ≤ a from h]
  · rw [if_neg h]; congr 1; simp [show ¬ b ≤ a from h]
theorem in_impl (a b c : Int) : impl_within.f a b c = some (decide (b ≤ a ∧ a ≤ c)) := by
  unfold impl_within.f
  by_cases h : b ≤ a
  · rw [if_pos h]; congr 1; simp [h]
  · rw [if_neg h]; congr 1; simp [h]
/-- How much runs out. -/
def drp (L D : Int) : Int := (L + D - 1) / D
theorem drp_zero (D : Int) (h : 1 ≤ D) : drp 0 D = 0 := by
  unfold drp; rw [Int.ediv_eq_zero_of_lt (by omega) (by omega)]
theorem drp_pos (L D : Int) (hL : 1 ≤ L) (hD : 1 ≤ D) : 1 ≤ drp L D := by
  unfold drp
  exact (Int.le_ediv_iff_mul_le (by omega)).mpr (by omega)
theorem drp_le (L D : Int) (hL : 0 ≤ L) (hD : 1 ≤ D) : drp L D ≤ L := by
  rcases Int.lt_or_le 0 L with h | h
  · unfold drp
    apply Int.ediv_le_of_le_mul (by omega)
    have := Int.mul_nonneg (show 0 ≤ L - 1 by omega) (show 0 ≤ D - 1 by omega)
    rw [Int.sub_mul, Int.mul_sub] at this
    omega
  · obtain rfl : L = 0 := by omega
    rw [drp_zero D hD]; omega
theorem drp_nonneg (L D : Int) (hL : 0 ≤ L) (hD : 1 ≤ D) : 0 ≤ drp L D := by
  unfold drp; exact Int.ediv_nonneg (by omega) (by omega)
theorem drop_spec (L D : Int) (h0 : 0 ≤ L) (h1 : L ≤ 1000) (h2 : 1 ≤ D) (h3 : D ≤ 100) : spec_ckDrop.f L D = some (drp L D) := by
  unfold spec_ckDrop.f
  rw [if_neg (by omega), w64 (x := L + D) (by omega) (by omega), w64 (x := L + D - 1) (by omega) (by omega), Int.tdiv_eq_ediv_of_nonneg (by omega)]
  have a := drp_nonneg L D h0 h2
  have b := drp_le L D h0 h2
  unfold drp at a b
  rw [w64 (by omega) (by omega)]; rfl
theorem drop_impl (L D : Int) (h0 : 0 ≤ L) (h1 : L ≤ 1000) (h2 : 1 ≤ D) (h3 : D ≤ 100) : impl_Clock_drop.f L D = some (drp L D) := by
  unfold impl_Clock_drop.f
  rw [if_neg (by omega), w64 (x := L + D) (by omega) (by omega), w64 (x := L + D - 1) (by omega) (by omega), Int.tdiv_eq_ediv_of_nonneg (by omega)]
  have a := drp_nonneg L D h0 h2
  have b := drp_le L D h0 h2
  unfold drp at a b
  rw [w64 (by omega) (by omega)]; rfl
theorem next_impl (L D : Int) (h0 : 0 ≤ L) (h1 : L ≤ 1000) (h2 : 1 ≤ D) (h3 : D ≤ 100) : impl_Clock_next.f L D = some (L - drp L D, D) := by
  unfold impl_Clock_next.f
  rw [drop_impl L D h0 h1 h2 h3]; simp only [Option.bind_some]
  have a := drp_nonneg L D h0 h2
  have b := drp_le L D h0 h2
  rw [w64 (by omega) (by omega)]
theorem good_spec (L D : Int) : spec_ckGood.f L D = some (decide ((0 ≤ L ∧ L ≤ 1000) ∧ 1 ≤ D ∧ D ≤ 100)) := by
  unfold spec_ckGood.f
  rw [in_spec]; simp only [Option.bind_some]
  by_cases h : 0 ≤ L ∧ L ≤ 1000
  · rw [if_pos (by simpa using h), in_spec]; simp [h]
  · rw [if_neg (by simpa using h)]; simp [h]
theorem good_impl (L D : Int) : impl_IsClock.f L D = some (decide ((0 ≤ L ∧ L ≤ 1000) ∧ 1 ≤ D ∧ D ≤ 100)) := by
  unfold impl_IsClock.f
  rw [in_impl]; simp only [Option.bind_some]
  by_cases h : 0 ≤ L ∧ L ≤ 1000
  · rw [if_pos (by simpa using h), in_impl]; simp [h]
  · rw [if_neg (by simpa using h)]; simp [h]
/-- The levels behind each tick, down to 0. -/
def lv : Nat → Int → Int → List Int
  | 0, _, _ => []
  | n + 1, L, D => if L > 0 then (L - drp L D) :: lv n (L - drp L D) D else []
theorem lv_len : ∀ (n : Nat) (L D : Int), (lv n L D).length ≤ n
  | 0, _, _ => by simp [lv]
  | n + 1, L, D => by
    unfold lv
    split
    · have := lv_len n (L - drp L D) D
      simp; omega
    · simp
theorem levels_l0 (D : Int) (h2 : 1 ≤ D) (h3 : D ≤ 100) : ∀ (n k : Nat) (acc : List Int) (L : Int), 0 ≤ L → L ≤ 1000 → L ≤ n → n < k → acc.length + n < 17592186044416 →
    spec_ckLevels.l0 k acc L D = some (acc ++ lv n L D) := by
  intro n
  induction n with
  | zero =>
    intro k acc L h0 h1 hn hk ha
    obtain ⟨k, rfl⟩ : ∃ m, k = m + 1 := ⟨k - 1, by omega⟩
    simp only [spec_ckLevels.l0]; rw [if_neg (by omega)]; simp [lv]
  | succ n ih =>
    intro k acc L h0 h1 hn hk ha
    obtain ⟨k, rfl⟩ : ∃ m, k = m + 1 := ⟨k - 1, by omega⟩
    simp only [spec_ckLevels.l0]
    by_cases h : L > 0
    · have a := drp_pos L D (by omega) h2
      have b := drp_le L D h0 h2
      rw [if_pos h, drop_spec L D h0 h1 h2 h3]; simp only [Option.bind_some]
      rw [if_pos (by omega), w64 (by omega) (by omega), ih k _ _ (by omega) (by omega) (by omega) (by omega) (by simp; omega)]
      simp [lv, h]
    · rw [if_neg h]; simp [lv, h]
theorem levels_f (k : Nat) (L D : Int) (h0 : 0 ≤ L) (h1 : L ≤ 1000) (h2 : 1 ≤ D) (h3 : D ≤ 100) (hk : 1000 < k) :
    spec_ckLevels.f k L D = some (L :: lv 1000 L D) := by
  unfold spec_ckLevels.f
  rw [levels_l0 D h2 h3 1000 k [L] L h0 h1 (by omega) hk (by simp)]; rfl
/-- Behind how many ticks the level is no more than x. -/
def cnt : Nat → Int → Int → Int → Int
  | 0, _, _, _ => 0
  | n + 1, x, L, D => if L > x then 1 + cnt n x (L - drp L D) D else 0
theorem cnt_bd : ∀ (n : Nat) (x L D : Int), 0 ≤ cnt n x L D ∧ cnt n x L D ≤ n
  | 0, _, _, _ => by simp [cnt]
  | n + 1, x, L, D => by
    unfold cnt
    have := cnt_bd n x (L - drp L D) D
    split <;> omega
theorem timeTo_l0 (x D : Int) (hx : 0 ≤ x) (h2 : 1 ≤ D) (h3 : D ≤ 100) : ∀ (n k : Nat) (t L : Int), 0 ≤ L → L ≤ 1000 → L ≤ n → n < k → 0 ≤ t → t + n ≤ 1000000 →
    impl_Clock_timeTo.l0 k x t L D = some (t + cnt n x L D) := by
  intro n
  induction n with
  | zero =>
    intro k t L h0 h1 hn hk ht hb
    obtain ⟨k, rfl⟩ : ∃ m, k = m + 1 := ⟨k - 1, by omega⟩
    simp only [impl_Clock_timeTo.l0]; rw [if_neg (by omega)]; simp [cnt]
  | succ n ih =>
    intro k t L h0 h1 hn hk ht hb
    obtain ⟨k, rfl⟩ : ∃ m, k = m + 1 := ⟨k - 1, by omega⟩
    simp only [impl_Clock_timeTo.l0]
    by_cases h : L > x
    · have a := drp_pos L D (by omega) h2
      have b := drp_le L D h0 h2
      rw [if_pos h, next_impl L D h0 h1 h2 h3]; simp only [Option.bind_some]
      rw [w64 (by omega) (by omega), ih k _ _ (by omega) (by omega) (by omega) (by omega) (by omega) (by omega)]
      simp only [cnt]; rw [if_pos h]; congr 1; omega
    · rw [if_neg h]; simp [cnt, h]
theorem timeTo_f (k : Nat) (x L D : Int) (hx : 0 ≤ x) (h0 : 0 ≤ L) (h1 : L ≤ 1000) (h2 : 1 ≤ D) (h3 : D ≤ 100) (hk : 1000 < k) :
    impl_Clock_timeTo.f k L D x = some (cnt 1000 x L D) := by
  unfold impl_Clock_timeTo.f
  rw [timeTo_l0 x D hx h2 h3 1000 k 0 L h0 h1 (by omega) hk (by omega) (by omega)]; simp
theorem cnt_lv : ∀ (n : Nat) (L D : Int), cnt n 0 L D = (lv n L D).length
  | 0, _, _ => by simp [cnt, lv]
  | n + 1, L, D => by
    unfold cnt lv
    have := cnt_lv n (L - drp L D) D
    split
    · simp; omega
    · simp
theorem eq_l0 (l : List Int) (hb : l.length ≤ 17592186044416) : ∀ (d k i : Nat), i + d = l.length → d < k → laws_eqIntS.l0 k l l (i : Int) = some true := by
  intro d
  induction d with
  | zero =>
    intro k i hi hk
    obtain ⟨k, rfl⟩ : ∃ m, k = m + 1 := ⟨k - 1, by omega⟩
    simp only [laws_eqIntS.l0]; rw [if_neg (by omega)]
  | succ d ih =>
    intro k i hi hk
    obtain ⟨k, rfl⟩ : ∃ m, k = m + 1 := ⟨k - 1, by omega⟩
    simp only [laws_eqIntS.l0]
    rw [if_pos (by omega), if_pos (by omega), if_pos (by omega), if_pos trivial, w64 (by omega) (by omega)]
    exact ih k (i + 1) (by omega) (by omega)
theorem eq_self (k : Nat) (l : List Int) (hb : l.length ≤ 17592186044416) (hk : l.length < k) : laws_eqIntS.f k l l = some true := by
  unfold laws_eqIntS.f
  rw [if_pos rfl]; exact eq_l0 l hb l.length k 0 (by omega) hk
/-- a, a + 1, .. -/
def upFrom : Int → Nat → List Int
  | _, 0 => []
  | a, n + 1 => a :: upFrom (a + 1) n
theorem upFrom_len : ∀ (n : Nat) (a : Int), (upFrom a n).length = n
  | 0, _ => rfl
  | n + 1, a => by simp [upFrom, upFrom_len n]
theorem mark_l0 : ∀ (d k : Nat) (ms rest : List Int) (a : Int), rest.length = d → d < k → ms.length + d ≤ 17592186044416 → 0 ≤ a → a + d ≤ 17592186044416 →
    laws_markIntS.l0 k (ms ++ rest) a (ms.length : Int) = some (a + d, ms ++ upFrom a d) := by
  intro d
  induction d with
  | zero =>
    intro k ms rest a hr hk hb h0 h1
    obtain ⟨k, rfl⟩ : ∃ m, k = m + 1 := ⟨k - 1, by omega⟩
    obtain rfl : rest = [] := List.length_eq_zero_iff.mp hr
    simp only [laws_markIntS.l0]; rw [if_neg (by simp)]; simp [upFrom]
  | succ d ih =>
    intro k ms rest a hr hk hb h0 h1
    obtain ⟨k, rfl⟩ : ∃ m, k = m + 1 := ⟨k - 1, by omega⟩
    obtain ⟨x, rest, rfl⟩ : ∃ x r, rest = x :: r := by cases rest with | nil => simp at hr | cons x r => exact ⟨x, r, rfl⟩
    simp only [laws_markIntS.l0]
    have e : (ms ++ x :: rest).set ((ms.length : Int).toNat) a = (ms ++ [a]) ++ rest := by simp
    rw [if_pos (by simp; omega), if_pos (by omega), e, w64 (by omega) (by omega), w64 (by omega) (by omega)]
    have ih' := ih k (ms ++ [a]) rest (a + 1) (by simpa using hr) (by omega) (by simp; omega) (by omega) (by omega)
    simp only [List.length_append, List.length_cons, List.length_nil] at ih'
    rw [show ((ms.length : Int) + 1) = ((ms.length + (0 + 1) : Nat) : Int) by simp, ih']
    simp only [upFrom, List.append_assoc, List.cons_append, List.nil_append]
    congr 2; simp; omega
theorem mark_f (k : Nat) (l : List Int) (hk : l.length < k) (hb : l.length ≤ 17592186044000) : laws_markIntS.f k l 1 = some (1 + (l.length : Int), upFrom 1 l.length) := by
  unfold laws_markIntS.f
  have := mark_l0 l.length k [] l 1 rfl hk (by simp; omega) (by omega) (by omega)
  simpa using this
theorem held_l0 : ∀ (d k : Nat) (ms : List Int) (a : Int), d < k → ms.length + d ≤ 17592186044416 → 0 ≤ a → a + d ≤ 17592186044416 →
    laws_heldIntS.l0 k (ms ++ upFrom a d) a (ms.length : Int) = some (a + d) := by
  intro d
  induction d with
  | zero =>
    intro k ms a hk hb h0 h1
    obtain ⟨k, rfl⟩ : ∃ m, k = m + 1 := ⟨k - 1, by omega⟩
    simp only [laws_heldIntS.l0]; rw [if_neg (by simp [upFrom])]; simp
  | succ d ih =>
    intro k ms a hk hb h0 h1
    obtain ⟨k, rfl⟩ : ∃ m, k = m + 1 := ⟨k - 1, by omega⟩
    simp only [laws_heldIntS.l0]
    have e : rd (ms ++ upFrom a (d + 1)) (ms.length : Int) = a := by unfold rd; simp [upFrom]
    rw [if_pos (by rw [List.length_append, upFrom_len]; omega), if_pos (by omega), if_pos e, w64 (by omega) (by omega), w64 (by omega) (by omega)]
    have ih' := ih k (ms ++ [a]) (a + 1) (by omega) (by simp; omega) (by omega) (by omega)
    simp only [List.length_append, List.length_cons, List.length_nil, List.append_assoc, List.cons_append, List.nil_append] at ih'
    rw [show ((ms.length : Int) + 1) = ((ms.length + (0 + 1) : Nat) : Int) by simp]
    simp only [upFrom]
    rw [ih']; congr 1; omega
theorem held_f (k n : Nat) (hk : n < k) (hb : n ≤ 17592186044000) : laws_heldIntS.f k (upFrom 1 n) 1 = some (1 + (n : Int)) := by
  unfold laws_heldIntS.f
  have := held_l0 n k [] 1 hk (by simp; omega) (by omega) (by omega)
  simpa using this
end Go.Proofs.Yticeepbpgmidlaa.AuxFnExactMarksOf
namespace Go.Proofs.Yticeepbpgmidlaa.Pure
open Go.RowKit Go.Proofs.Yticeepbpgmidlaa.Q Go.Proofs.Yticeepbpgmidlaa.AuxFnExactMarksOf Go.Proofs.YticeepbpgmidlaaW.PrintWords Go.Proofs.YticeepbpgmidlaaW.PrintLast Go.Proofs.YticeepbpgmidlaaW.PrintMore
/-- the level behind t ticks is the t-th one of all -/
theorem after_rd (D : Int) (h2 : 1 ≤ D) (h3 : D ≤ 100) : ∀ (n k t : Nat) (L : Int), 0 ≤ L → L ≤ 1000 → L ≤ n → n ≤ 100000 → n < k → t ≤ (lv n L D).length →
    impl_Clock_after.l0 k (t : Int) L D = some (rd (L :: lv n L D) (t : Int), D) := by
  intro n
  induction n with
  | zero =>
    intro k t L h0 h1 hn hb hk ht
    obtain ⟨k, rfl⟩ : ∃ m, k = m + 1 := ⟨k - 1, by omega⟩
    obtain rfl : t = 0 := by simpa [lv] using ht
    simp only [impl_Clock_after.l0]
    rw [if_neg (by omega)]; rfl
  | succ n ih =>
    intro k t L h0 h1 hn hb hk ht
    obtain ⟨k, rfl⟩ : ∃ m, k = m + 1 := ⟨k - 1, by omega⟩
    simp only [impl_Clock_after.l0]
    cases t with
    | zero => rw [if_neg (by omega)]; rfl
    | succ t =>
      by_cases hL : L > 0
      · have a := drp_pos L D (by omega) h2
        have b := drp_le L D h0 h2
        have hlen := lv_len (n + 1) L D
        have el : lv (n + 1) L D = (L - drp L D) :: lv n (L - drp L D) D := by simp only [lv]; rw [if_pos hL]
        rw [el] at ht hlen ⊢
        rw [if_pos (by omega), if_pos hL, next_impl L D h0 h1 h2 h3]; simp only [Option.bind_some]
        have hn' : (n : Int) ≤ n := by omega
        have hw : wrap64 (((t + 1 : Nat) : Int) - 1) = (t : Int) := by
          simp only [List.length_cons] at ht
          have hl2 := lv_len n (L - drp L D) D
          unfold wrap64; omega
        rw [hw, ih k t _ (by omega) (by omega) (by omega) (by omega) (by omega) (by simp at ht; omega)]
        unfold rd; congr 2
      · have : lv (n + 1) L D = [] := by simp only [lv]; rw [if_neg hL]
        rw [this] at ht; simp at ht
theorem marks_both (L D : Int) (h0 : 0 ≤ L) (h1 : L ≤ 1000) (h2 : 1 ≤ D) (h3 : D ≤ 100) (hours : Int) (q0 : 1 ≤ hours) (q1 : hours ≤ 24) :
    ∀ (n k : Nat) (acc : List Int) (x : Int), 1 ≤ x → x + n = hours + 1 → n + 1001 < k → acc.length + n ≤ 100 →
    ∃ r : List Int, r.length ≤ 100 ∧ spec_MarksOf.l0 k hours (L :: lv 1000 L D) acc x = some (r, true) ∧ impl_MarksOf.l0 k hours acc x L D = some (r, true) := by
  have hc := cnt_bd 1000 0 L D
  have hl := cnt_lv 1000 L D
  have hlen := lv_len 1000 L D
  intro n
  induction n with
  | zero =>
    intro k acc x a0 a1 hk ha
    obtain ⟨k, rfl⟩ : ∃ m, k = m + 1 := ⟨k - 1, by omega⟩
    simp only [spec_MarksOf.l0, impl_MarksOf.l0]
    rw [if_neg (by omega), if_neg (by omega)]; exact ⟨acc, by omega, rfl, rfl⟩
  | succ n ih =>
    intro k acc x a0 a1 hk ha
    obtain ⟨k, rfl⟩ : ∃ m, k = m + 1 := ⟨k - 1, by omega⟩
    simp only [spec_MarksOf.l0, impl_MarksOf.l0]
    have e1 : wrap64 (((L :: lv 1000 L D).length : Int) - 1) = cnt 1000 0 L D := by rw [hl, w64 (by simp <;> omega) (by simp <;> omega)]; simp
    have p0 : 0 ≤ x * cnt 1000 0 L D := Int.mul_nonneg (by omega) hc.1
    have p1 : x * cnt 1000 0 L D ≤ 24 * 1000 := Int.mul_le_mul (by omega) hc.2 hc.1 (by omega)
    have p2 : x * cnt 1000 0 L D ≤ hours * cnt 1000 0 L D := Int.mul_le_mul_of_nonneg_right (by omega) hc.1
    have d0 : 0 ≤ x * cnt 1000 0 L D / hours := Int.ediv_nonneg p0 (by omega)
    have d1 : x * cnt 1000 0 L D / hours ≤ cnt 1000 0 L D := Int.ediv_le_of_le_mul (by omega) (by rw [Int.mul_comm (cnt 1000 0 L D)]; exact p2)
    have e2 : wrap64 (Int.tdiv (wrap64 (x * cnt 1000 0 L D)) hours) = x * cnt 1000 0 L D / hours := by
      rw [w64 (x := x * cnt 1000 0 L D) (by omega) (by omega), Int.tdiv_eq_ediv_of_nonneg p0, w64 (by omega) (by omega)]
    rw [e1, timeTo_f k 0 L D (by omega) h0 h1 h2 h3 (by omega)]
    simp only [Option.bind_some]
    rw [e2]
    obtain ⟨m, hm⟩ := Int.eq_ofNat_of_zero_le d0
    rw [if_pos (by omega), if_neg (by omega), if_pos d0, if_pos (by simp only [List.length_cons]; omega), if_pos (by omega), if_pos (by omega), if_neg (by omega)]
    unfold impl_Clock_after.f
    rw [hm, after_rd D h2 h3 1000 k m L h0 h1 (by omega) (by omega) (by omega) (by omega)]
    simp only [Option.bind_some]
    rw [if_pos (by omega), w64 (by omega) (by omega)]
    exact ih k _ _ (by omega) (by omega) (by omega) (by simp; omega)
theorem FnExactMarksOf (L D hours : Int) (_ : (Lit.int .i64 L).wf = true) (_ : (Lit.int .i64 D).wf = true) (_ : (Lit.int .i64 hours).wf = true) : ∃ k, laws_FnExactMarksOf.f k L D hours = some true := by
  have key : ∃ r : List Int × Bool, r.1.length ≤ 100 ∧ ∀ k, 1100 < k → spec_MarksOf.f k L D hours = some r ∧ impl_MarksOf.f k L D hours = some r := by
    have no : ∀ (P : Prop), (∀ k, 1100 < k → spec_MarksOf.f k L D hours = some ([], false) ∧ impl_MarksOf.f k L D hours = some ([], false)) → ∃ r : List Int × Bool, r.1.length ≤ 100 ∧ ∀ k, 1100 < k → spec_MarksOf.f k L D hours = some r ∧ impl_MarksOf.f k L D hours = some r :=
      fun _ h => ⟨([], false), by simp, h⟩
    unfold spec_MarksOf.f impl_MarksOf.f at *
    simp only [good_spec, good_impl, in_spec, in_impl, Option.bind_some] at *
    by_cases h : (0 ≤ L ∧ L ≤ 1000) ∧ 1 ≤ D ∧ D ≤ 100
    · obtain ⟨⟨h0, h1⟩, h2, h3⟩ := id h
      simp only [show decide ((0 ≤ L ∧ L ≤ 1000) ∧ 1 ≤ D ∧ D ≤ 100) = true by simp [h], if_true] at *
      have hc := cnt_bd 1000 0 L D
      have hl := cnt_lv 1000 L D
      have hlen := lv_len 1000 L D
      by_cases q : 1 ≤ hours ∧ hours ≤ 24
      · simp only [show decide (1 ≤ hours ∧ hours ≤ 24) = true by simp [q], if_true, Bool.not_true] at *
        by_cases c : cnt 1000 0 L D < hours
        · refine no True fun k hk => ?_
          obtain ⟨k, rfl⟩ : ∃ m, k = m + 1 := ⟨k - 1, by omega⟩
          simp only [spec_MarksOf.j0, Bool.false_eq_true, if_false]
          rw [levels_f k L D h0 h1 h2 h3 (by omega), timeTo_f (k + 1) 0 L D (by omega) h0 h1 h2 h3 (by omega)]
          simp only [Option.bind_some]
          rw [if_pos (by rw [w64 (by simp <;> omega) (by simp <;> omega)]; simp only [List.length_cons]; omega)]
          simp [impl_MarksOf.j0, c]
        · obtain ⟨r, hr, _⟩ := marks_both L D h0 h1 h2 h3 hours q.1 q.2 hours.toNat 1100 [] 1 (by omega) (by omega) (by omega) (by simp; omega)
          refine ⟨(r, true), hr, fun k hk => ?_⟩
          obtain ⟨k, rfl⟩ : ∃ m, k = m + 1 := ⟨k - 1, by omega⟩
          obtain ⟨r', hr', x1, x2⟩ := marks_both L D h0 h1 h2 h3 hours q.1 q.2 hours.toNat k [] 1 (by omega) (by omega) (by omega) (by simp; omega)
          have er : r' = r := by
            rename_i x0
            have y := at_rounds (g := fun k => spec_MarksOf.l0 k hours (L :: lv 1000 L D) [] 1) (fun k => (spec_MarksOf.mono_l k).2 _ _ _ _) (show 1100 ≤ k by omega) x0.1
            rw [x1] at y; exact (Prod.mk.inj (Option.some.inj y)).1
          subst er
          simp only [spec_MarksOf.j0, Bool.false_eq_true, if_false]
          rw [levels_f k L D h0 h1 h2 h3 (by omega), timeTo_f (k + 1) 0 L D (by omega) h0 h1 h2 h3 (by omega)]
          simp only [Option.bind_some]
          rw [if_neg (by rw [w64 (by simp <;> omega) (by simp <;> omega)]; simp only [List.length_cons]; omega)]
          simp only [impl_MarksOf.j0, show decide (cnt 1000 0 L D < hours) = false by simpa using c, Bool.false_eq_true, if_false]
          exact ⟨x1, x2⟩
      · refine no True fun k hk => ?_
        obtain ⟨k, rfl⟩ : ∃ m, k = m + 1 := ⟨k - 1, by omega⟩
        simp only [show decide (1 ≤ hours ∧ hours ≤ 24) = false by simpa using q, Bool.not_false, Bool.false_eq_true, if_false]
        simp [spec_MarksOf.j0, impl_MarksOf.j0]
    · refine no True fun k hk => ?_
      obtain ⟨k, rfl⟩ : ∃ m, k = m + 1 := ⟨k - 1, by omega⟩
      simp only [show decide ((0 ≤ L ∧ L ≤ 1000) ∧ 1 ≤ D ∧ D ≤ 100) = false by simpa using h, Bool.false_eq_true, if_false]
      simp [spec_MarksOf.j0, impl_MarksOf.j0]
  obtain ⟨r, hr, key⟩ := key
  refine ⟨2002, ?_⟩
  unfold laws_FnExactMarksOf.f laws_toClock.f
  simp only [Option.bind_some]
  rw [(key 2002 (by omega)).1]
  simp only [Option.bind_some]
  rw [(key 2002 (by omega)).2]
  simp only [Option.bind_some]
  rw [eq_self 2002 r.1 (by omega) (by omega)]
  simp only [Option.bind_some, bne_self_eq_false, if_true, laws_FnExactMarksOf.j0, Bool.false_eq_true, if_false]
  rw [mark_f 2001 r.1 (by omega) (by omega)]
  simp only [Option.bind_some]
  rw [held_f 2001 r.1.length (by omega) (by omega)]
  simp only [Option.bind_some, if_true]
  unfold laws_toClock.f
  rw [if_neg (by omega)]
  simp only [Option.bind_some]
  rw [(key 2001 (by omega)).2]
  simp only [Option.bind_some]
  rw [eq_self 2001 r.1 (by omega) (by omega)]
  simp only [Option.bind_some, if_true, bne_self_eq_false, laws_FnExactMarksOf.j1, Bool.false_eq_true, if_false]
  rw [held_f 2000 r.1.length (by omega) (by omega)]
  simp only [Option.bind_some, if_true]
  rw [if_neg (by omega)]
end Go.Proofs.Yticeepbpgmidlaa.Pure
