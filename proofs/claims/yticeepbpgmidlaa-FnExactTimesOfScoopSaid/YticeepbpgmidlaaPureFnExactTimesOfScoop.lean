/- FnExactTimesOfScoop: what the law's Go functions compute, as plain functions, and that the law holds of them at all arguments. -/
import Derived.Test.YticeepbpgmidlaaPFnExactTimesOfScoopx3
namespace Go.Proofs.Yticeepbpgmidlaa.AuxFnExactTimesOfScoop
open Go.RowKit Go.Proofs.Yticeepbpgmidlaa.PFnExactTimesOfScoop Go.Proofs.YticeepbpgmidlaaW.PrintWords Go.Proofs.YticeepbpgmidlaaW.PrintLast Go.Proofs.YticeepbpgmidlaaW.PrintMore
set_option linter.unusedVariables false
set_option linter.unusedSimpArgs false
theorem w64 {x : Int} (h0 : -9223372036854775808 ≤ x) (h1 : x ≤ 9223372036854775807) : wrap64 x = x := by
  unfold wrap64; omega
theorem in_spec (a b c : Int) : spec_l1In.f a b c = some (decide (b ≤ a ∧ a ≤ c)) := by
  unfold spec_l1In.f
  by_cases h : a ≥ b
  · rw [if_pos h]; congr 1; simp [show b ≤ a from h]
  · rw [if_neg h]; congr 1; simp [show ¬ b ≤ a from h]
theorem in_impl (a b c : Int) : impl_within.f a b c = some (decide (b ≤ a ∧ a ≤ c)) := by
  unfold impl_within.f
  by_cases h : b ≤ a
  · rw [if_pos h]; congr 1; simp [h]
  · rw [if_neg h]; congr 1; simp [h]
/-- How much runs out. -/
def drp (L D : Int) : Int := (L + D - 1) / D
theorem drp_zero (D : Int) (h : 1 ≤ D) : drp 0 D = 0 := by
  unfold drp; rw [Int.ediv_eq_zero_of_lt (by omega) (by omega)]
theorem drp_pos (L D : Int) (hL : 1 ≤ L) (hD : 1 ≤ D) : 1 ≤ drp L D := by
  unfold drp
  exact (Int.le_ediv_iff_mul_le (by omega)).mpr (by omega)
theorem drp_le (L D : Int) (hL : 0 ≤ L) (hD : 1 ≤ D) : drp L D ≤ L := by
  rcases Int.lt_or_le 0 L with h | h
  · unfold drp
    apply Int.ediv_le_of_le_mul (by omega)
    have := Int.mul_nonneg (show 0 ≤ L - 1 by omega) (show 0 ≤ D - 1 by omega)
    rw [Int.sub_mul, Int.mul_sub] at this
    omega
  · obtain rfl : L = 0 := by omega
    rw [drp_zero D hD]; omega
theorem drp_nonneg (L D : Int) (hL : 0 ≤ L) (hD : 1 ≤ D) : 0 ≤ drp L D := by
  unfold drp; exact Int.ediv_nonneg (by omega) (by omega)
/-- In how many ticks a scoop is full. -/
def fill (room rate : Int) : Int := (room + rate - 1) / rate
theorem fill_bd (room rate : Int) (h0 : 1 ≤ room) (h1 : room ≤ 60) (h2 : 1 ≤ rate) (h3 : rate ≤ 60) : 1 ≤ fill room rate ∧ fill room rate ≤ 60 := by
  unfold fill
  refine ⟨(Int.le_ediv_iff_mul_le (by omega)).mpr (by omega), ?_⟩
  have : room + rate - 1 ≤ 60 * rate := by omega
  exact Int.ediv_le_of_le_mul (by omega) this
theorem fill_spec (s room rate : Int) (h0 : 1 ≤ room) (h1 : room ≤ 60) (h2 : 1 ≤ rate) (h3 : rate ≤ 60) : spec_ckFill.f s room rate = some (fill room rate) := by
  have := fill_bd room rate h0 h1 h2 h3
  unfold fill at this
  unfold spec_ckFill.f
  rw [if_neg (by omega), w64 (x := room + rate) (by omega) (by omega), w64 (x := room + rate - 1) (by omega) (by omega), Int.tdiv_eq_ediv_of_nonneg (by omega), w64 (by omega) (by omega)]; rfl
theorem fill_impl (s room rate : Int) (h0 : 1 ≤ room) (h1 : room ≤ 60) (h2 : 1 ≤ rate) (h3 : rate ≤ 60) : impl_Wheel_ticks.f s room rate = some (fill room rate) := by
  have := fill_bd room rate h0 h1 h2 h3
  unfold fill at this
  unfold impl_Wheel_ticks.f
  rw [if_neg (by omega), w64 (x := room + rate) (by omega) (by omega), w64 (x := room + rate - 1) (by omega) (by omega), Int.tdiv_eq_ediv_of_nonneg (by omega), w64 (by omega) (by omega)]; rfl
def WheelOk (s room rate : Int) : Prop := (2 ≤ s ∧ s ≤ 60) ∧ (1 ≤ room ∧ room ≤ 60) ∧ 1 ≤ rate ∧ rate ≤ 60
instance (s room rate : Int) : Decidable (WheelOk s room rate) := by unfold WheelOk; infer_instance
theorem wheel_spec (s room rate : Int) : spec_ckWheel.f s room rate = some (decide (WheelOk s room rate)) := by
  unfold spec_ckWheel.f
  simp only [in_spec, Option.bind_some]
  by_cases a : 2 ≤ s ∧ s ≤ 60
  · rw [if_pos (by simpa using a)]
    by_cases b : 1 ≤ room ∧ room ≤ 60
    · rw [if_pos (by simpa using b)]; simp [WheelOk, a, b]
    · rw [if_neg (by simpa using b)]; simp [WheelOk, b]
  · rw [if_neg (by simpa using a)]; simp [WheelOk, a]
theorem wheel_impl (s room rate : Int) : impl_IsWheel.f s room rate = some (decide (WheelOk s room rate)) := by
  unfold impl_IsWheel.f
  simp only [in_impl, Option.bind_some]
  by_cases a : 2 ≤ s ∧ s ≤ 60
  · rw [if_pos (by simpa using a)]
    by_cases b : 1 ≤ room ∧ room ≤ 60
    · rw [if_pos (by simpa using b)]; simp [WheelOk, a, b]
    · rw [if_neg (by simpa using b)]; simp [WheelOk, b]
  · rw [if_neg (by simpa using a)]; simp [WheelOk, a]
theorem turned_impl (s room rate t : Int) : impl_isTurned.f s room rate t = some (decide (WheelOk s room rate ∧ 0 ≤ t ∧ t ≤ 10000)) := by
  unfold impl_isTurned.f
  simp only [wheel_impl, in_impl, Option.bind_some]
  by_cases a : WheelOk s room rate
  · rw [if_pos (by simpa using a)]; simp [a]
  · rw [if_neg (by simpa using a)]; simp [a]
theorem eq_l0 (l : List Int) (hb : l.length ≤ 17592186044416) : ∀ (d k i : Nat), i + d = l.length → d < k → laws_eqIntS.l0 k l l (i : Int) = some true := by
  intro d
  induction d with
  | zero =>
    intro k i hi hk
    obtain ⟨k, rfl⟩ : ∃ m, k = m + 1 := ⟨k - 1, by omega⟩
    simp only [laws_eqIntS.l0]; rw [if_neg (by omega)]
  | succ d ih =>
    intro k i hi hk
    obtain ⟨k, rfl⟩ : ∃ m, k = m + 1 := ⟨k - 1, by omega⟩
    simp only [laws_eqIntS.l0]
    rw [if_pos (by omega), if_pos (by omega), if_pos (by omega), if_pos trivial, w64 (by omega) (by omega)]
    exact ih k (i + 1) (by omega) (by omega)
theorem eq_self (k : Nat) (l : List Int) (hb : l.length ≤ 17592186044416) (hk : l.length < k) : laws_eqIntS.f k l l = some true := by
  unfold laws_eqIntS.f
  rw [if_pos rfl]; exact eq_l0 l hb l.length k 0 (by omega) hk
/-- a, a + 1, .. -/
def upFrom : Int → Nat → List Int
  | _, 0 => []
  | a, n + 1 => a :: upFrom (a + 1) n
theorem upFrom_len : ∀ (n : Nat) (a : Int), (upFrom a n).length = n
  | 0, _ => rfl
  | n + 1, a => by simp [upFrom, upFrom_len n]
theorem mark_l0 : ∀ (d k : Nat) (ms rest : List Int) (a : Int), rest.length = d → d < k → ms.length + d ≤ 17592186044416 → 0 ≤ a → a + d ≤ 17592186044416 →
    laws_markIntS.l0 k (ms ++ rest) a (ms.length : Int) = some (a + d, ms ++ upFrom a d) := by
  intro d
  induction d with
  | zero =>
    intro k ms rest a hr hk hb h0 h1
    obtain ⟨k, rfl⟩ : ∃ m, k = m + 1 := ⟨k - 1, by omega⟩
    obtain rfl : rest = [] := List.length_eq_zero_iff.mp hr
    simp only [laws_markIntS.l0]; rw [if_neg (by simp)]; simp [upFrom]
  | succ d ih =>
    intro k ms rest a hr hk hb h0 h1
    obtain ⟨k, rfl⟩ : ∃ m, k = m + 1 := ⟨k - 1, by omega⟩
    obtain ⟨x, rest, rfl⟩ : ∃ x r, rest = x :: r := by cases rest with | nil => simp at hr | cons x r => exact ⟨x, r, rfl⟩
    simp only [laws_markIntS.l0]
    have e : (ms ++ x :: rest).set ((ms.length : Int).toNat) a = (ms ++ [a]) ++ rest := by simp
    rw [if_pos (by simp; omega), if_pos (by omega), e, w64 (by omega) (by omega), w64 (by omega) (by omega)]
    have ih' := ih k (ms ++ [a]) rest (a + 1) (by simpa using hr) (by omega) (by simp; omega) (by omega) (by omega)
    simp only [List.length_append, List.length_cons, List.length_nil] at ih'
    rw [show ((ms.length : Int) + 1) = ((ms.length + (0 + 1) : Nat) : Int) by simp, ih']
    simp only [upFrom, List.append_assoc, List.cons_append, List.nil_append]
    congr 2; simp; omega
theorem mark_f (k : Nat) (l : List Int) (hk : l.length < k) (hb : l.length ≤ 17592186044000) : laws_markIntS.f k l 1 = some (1 + (l.length : Int), upFrom 1 l.length) := by
  unfold laws_markIntS.f
  have := mark_l0 l.length k [] l 1 rfl hk (by simp; omega) (by omega) (by omega)
  simpa using this
theorem held_l0 : ∀ (d k : Nat) (ms : List Int) (a : Int), d < k → ms.length + d ≤ 17592186044416 → 0 ≤ a → a + d ≤ 17592186044416 →
    laws_heldIntS.l0 k (ms ++ upFrom a d) a (ms.length : Int) = some (a + d) := by
  intro d
  induction d with
  | zero =>
    intro k ms a hk hb h0 h1
    obtain ⟨k, rfl⟩ : ∃ m, k = m + 1 := ⟨k - 1, by omega⟩
    simp only [laws_heldIntS.l0]; rw [if_neg (by simp [upFrom])]; simp
  | succ d ih =>
    intro k ms a hk hb h0 h1
    obtain ⟨k, rfl⟩ : ∃ m, k = m + 1 := ⟨k - 1, by omega⟩
    simp only [laws_heldIntS.l0]
    have e : rd (ms ++ upFrom a (d + 1)) (ms.length : Int) = a := by unfold rd; simp [upFrom]
    rw [if_pos (by rw [List.length_append, upFrom_len]; omega), if_pos (by omega), if_pos e, w64 (by omega) (by omega), w64 (by omega) (by omega)]
    have ih' := ih k (ms ++ [a]) (a + 1) (by omega) (by simp; omega) (by omega) (by omega)
    simp only [List.length_append, List.length_cons, List.length_nil, List.append_assoc, List.cons_append, List.nil_append] at ih'
    rw [show ((ms.length : Int) + 1) = ((ms.length + (0 + 1) : Nat) : Int) by simp]
    simp only [upFrom]
    rw [ih']; congr 1; omega
theorem held_f (k n : Nat) (hk : n < k) (hb : n ≤ 17592186044000) : laws_heldIntS.f k (upFrom 1 n) 1 = some (1 + (n : Int)) := by
  unfold laws_heldIntS.f
  have := held_l0 n k [] 1 hk (by simp; omega) (by omega) (by omega)
  simpa using this
end Go.Proofs.Yticeepbpgmidlaa.AuxFnExactTimesOfScoop
namespace Go.Proofs.Yticeepbpgmidlaa.Pure
open Go.RowKit Go.Proofs.Yticeepbpgmidlaa.PFnExactTimesOfScoop Go.Proofs.Yticeepbpgmidlaa.AuxFnExactTimesOfScoop Go.Proofs.YticeepbpgmidlaaW.PrintWords Go.Proofs.YticeepbpgmidlaaW.PrintLast Go.Proofs.YticeepbpgmidlaaW.PrintMore
theorem scoop_loops (s room rate t : Int) (hw : WheelOk s room rate) (ht : 0 ≤ t ∧ t ≤ 10000) : ∀ (n k : Nat) (acc : List Int) (x : Int), 0 ≤ x → t < x + n → x ≤ 20000 → n < k → acc.length + n ≤ 30000 → acc.length ≤ 500 →
    ∃ r : List Int × Bool, r.1.length ≤ 500 ∧ spec_TimesOfScoop.l0 k t acc x s room rate = some r ∧ impl_TimesOfScoop.l0 k t acc x s room rate = some r := by
  obtain ⟨⟨hs0, hs1⟩, ⟨hr0, hr1⟩, hq0, hq1⟩ := hw
  have fb := fill_bd room rate hr0 hr1 hq0 hq1
  have p1 : 1 ≤ s * fill room rate := by have := Int.mul_le_mul hs0 fb.1 (by omega) (by omega); omega
  have p2 : s * fill room rate ≤ 3600 := by have := Int.mul_le_mul hs1 fb.2 (by omega) (by omega); omega
  have p3 : fill room rate * s = s * fill room rate := Int.mul_comm _ _
  -- a list that is too long stays so
  have long : ∀ (n k : Nat) (acc : List Int) (x : Int), 0 ≤ x → t < x + n → x ≤ 20000 → n < k → acc.length + n ≤ 60000 → 500 < acc.length → impl_TimesOfScoop.l0 k t acc x s room rate = some ([], false) := by
    intro n
    induction n with
    | zero =>
      intro k acc x h0 h1 h2 hk ha hb
      obtain ⟨k, rfl⟩ : ∃ m, k = m + 1 := ⟨k - 1, by omega⟩
      simp only [impl_TimesOfScoop.l0]
      rw [if_neg (by omega), if_pos (by omega)]
    | succ n ih =>
      intro k acc x h0 h1 h2 hk ha hb
      obtain ⟨k, rfl⟩ : ∃ m, k = m + 1 := ⟨k - 1, by omega⟩
      simp only [impl_TimesOfScoop.l0]
      by_cases h : x ≤ t
      · rw [if_pos h, if_pos (by omega), fill_impl s room rate hr0 hr1 hq0 hq1]; simp only [Option.bind_some]
        rw [p3, w64 (x := s * fill room rate) (by omega) (by omega), w64 (by omega) (by omega)]
        exact ih k _ _ (by omega) (by omega) (by omega) (by omega) (by simp; omega) (by simp; omega)
      · rw [if_neg h, if_pos (by omega)]
  intro n
  induction n with
  | zero =>
    intro k acc x h0 h1 h2 hk ha hb
    obtain ⟨k, rfl⟩ : ∃ m, k = m + 1 := ⟨k - 1, by omega⟩
    simp only [impl_TimesOfScoop.l0, spec_TimesOfScoop.l0]
    rw [if_neg (by omega), if_neg (by omega), if_neg (by omega)]; exact ⟨_, hb, rfl, rfl⟩
  | succ n ih =>
    intro k acc x h0 h1 h2 hk ha hb
    obtain ⟨k, rfl⟩ : ∃ m, k = m + 1 := ⟨k - 1, by omega⟩
    simp only [impl_TimesOfScoop.l0, spec_TimesOfScoop.l0]
    by_cases h : x ≤ t
    · rw [if_pos h, if_pos (by omega), if_pos h, if_pos (by omega), fill_impl s room rate hr0 hr1 hq0 hq1, fill_spec s room rate hr0 hr1 hq0 hq1]; simp only [Option.bind_some]
      rw [p3, w64 (x := s * fill room rate) (by omega) (by omega), w64 (by omega) (by omega)]
      by_cases hl : ((acc ++ [x]).length : Int) > 500
      · rw [if_pos hl, long n k _ _ (by omega) (by omega) (by omega) (by omega) (by simp; omega) (by omega)]
        exact ⟨_, by simp, rfl, rfl⟩
      · rw [if_neg hl]
        exact ih k _ _ (by omega) (by omega) (by omega) (by omega) (by simp; omega) (by omega)
    · rw [if_neg h, if_neg h, if_neg (show ¬ ((acc.length : Int) > 500) by omega)]; exact ⟨_, hb, rfl, rfl⟩
theorem FnExactTimesOfScoop (s room rate q t : Int) (_ : (Lit.int .i64 s).wf = true) (_ : (Lit.int .i64 room).wf = true) (_ : (Lit.int .i64 rate).wf = true) (_ : (Lit.int .i64 q).wf = true) (_ : (Lit.int .i64 t).wf = true) :
    ∃ k, laws_FnExactTimesOfScoop.f k s room rate q t = some true := by
  have key : ∃ r : List Int × Bool, r.1.length ≤ 500 ∧ ∀ k, 10003 < k → spec_TimesOfScoop.f k s room rate q t = some r ∧ impl_TimesOfScoop.f k s room rate q t = some r := by
    by_cases h : WheelOk s room rate
    · obtain ⟨⟨hs0, hs1⟩, ⟨hr0, hr1⟩, hq0, hq1⟩ := id h
      have fb := fill_bd room rate hr0 hr1 hq0 hq1
      have e1 : wrap64 (s - 1) = s - 1 := w64 (by omega) (by omega)
      by_cases hq : 0 ≤ q ∧ q ≤ s - 1
      · by_cases ht : 0 ≤ t ∧ t ≤ 10000
        · have b1 : 1 ≤ (q + 1) * fill room rate := by have := Int.mul_le_mul (show 1 ≤ q + 1 by omega) fb.1 (by omega) (by omega); omega
          have b2 : (q + 1) * fill room rate ≤ 3600 := by have := Int.mul_le_mul (show q + 1 ≤ 60 by omega) fb.2 (by omega) (by omega); omega
          have e2 : wrap64 (wrap64 (q + 1) * fill room rate) = (q + 1) * fill room rate := by rw [w64 (x := q + 1) (by omega) (by omega), w64 (by omega) (by omega)]
          obtain ⟨r, hr, _⟩ := scoop_loops s room rate t h ht 10001 10002 [] _ (by omega : 0 ≤ (q + 1) * fill room rate) (by omega) (by omega) (by omega) (by simp) (by simp)
          refine ⟨r, hr, fun k hk => ?_⟩
          obtain ⟨k, rfl⟩ : ∃ m, k = m + 1 := ⟨k - 1, by omega⟩
          obtain ⟨r', hr', x1, x2⟩ := scoop_loops s room rate t h ht 10001 k [] _ (by omega : 0 ≤ (q + 1) * fill room rate) (by omega) (by omega) (by omega) (by simp) (by simp)
          have er : r' = r := by
            rename_i x0
            have y := at_rounds (g := fun k => spec_TimesOfScoop.l0 k t [] ((q + 1) * fill room rate) s room rate) (fun k => (spec_TimesOfScoop.mono_l k).2 _ _ _ _ _ _) (show 10002 ≤ k by omega) x0.1
            rw [x1] at y; exact Option.some.inj y
          subst er
          unfold spec_TimesOfScoop.f impl_TimesOfScoop.f spec_ckTime.f
          simp only [wheel_spec, turned_impl, in_spec, in_impl, Option.bind_some, e1]
          rw [if_pos (by simpa using h), if_pos (by simpa using hq), if_pos (by simp [h, ht])]
          simp only [spec_TimesOfScoop.j0, impl_TimesOfScoop.j0]
          rw [if_neg (by simpa using ht), if_neg (by simpa using hq), fill_impl s room rate hr0 hr1 hq0 hq1, fill_spec s room rate hr0 hr1 hq0 hq1]; simp only [Option.bind_some]
          rw [e2]; exact ⟨x1, x2⟩
        · refine ⟨([], false), by simp, fun k hk => ?_⟩
          obtain ⟨k, rfl⟩ : ∃ m, k = m + 1 := ⟨k - 1, by omega⟩
          unfold spec_TimesOfScoop.f impl_TimesOfScoop.f spec_ckTime.f
          simp only [wheel_spec, turned_impl, in_spec, in_impl, Option.bind_some, e1]
          rw [if_pos (by simpa using h), if_pos (by simpa using hq), if_neg (by simp [ht])]
          simp only [spec_TimesOfScoop.j0, impl_TimesOfScoop.j0]
          rw [if_pos (by simp; omega)]; simp
      · refine ⟨([], false), by simp, fun k hk => ?_⟩
        obtain ⟨k, rfl⟩ : ∃ m, k = m + 1 := ⟨k - 1, by omega⟩
        unfold spec_TimesOfScoop.f impl_TimesOfScoop.f spec_ckTime.f
        simp only [wheel_spec, turned_impl, in_spec, in_impl, Option.bind_some, e1]
        rw [if_pos (by simpa using h), if_neg (by simpa using hq)]
        simp only [spec_TimesOfScoop.j0, impl_TimesOfScoop.j0, if_true]
        have e3 : (!decide (0 ≤ q ∧ q ≤ s - 1)) = true := by simp; omega
        by_cases ht : WheelOk s room rate ∧ 0 ≤ t ∧ t ≤ 10000
        · rw [if_pos (by simpa using ht), if_pos e3]; simp
        · rw [if_neg (by simpa using ht)]; simp
    · refine ⟨([], false), by simp, fun k hk => ?_⟩
      obtain ⟨k, rfl⟩ : ∃ m, k = m + 1 := ⟨k - 1, by omega⟩
      unfold spec_TimesOfScoop.f impl_TimesOfScoop.f spec_ckTime.f
      simp only [wheel_spec, turned_impl, in_spec, in_impl, Option.bind_some]
      rw [if_neg (by simpa using h), if_neg (by simp [h])]
      simp [spec_TimesOfScoop.j0, impl_TimesOfScoop.j0]
  obtain ⟨r, hr, key⟩ := key
  refine ⟨20002, ?_⟩
  unfold laws_FnExactTimesOfScoop.f laws_toWheel.f
  simp only [Option.bind_some]
  rw [(key 20002 (by omega)).1]
  simp only [Option.bind_some]
  rw [(key 20002 (by omega)).2]
  simp only [Option.bind_some]
  rw [eq_self 20002 r.1 (by omega) (by omega)]
  simp only [Option.bind_some, bne_self_eq_false, if_true, laws_FnExactTimesOfScoop.j0, Bool.false_eq_true, if_false]
  rw [mark_f 20001 r.1 (by omega) (by omega)]
  simp only [Option.bind_some]
  rw [held_f 20001 r.1.length (by omega) (by omega)]
  simp only [Option.bind_some, if_true]
  unfold laws_toWheel.f
  rw [if_neg (by omega)]
  simp only [Option.bind_some]
  rw [(key 20001 (by omega)).2]
  simp only [Option.bind_some]
  rw [eq_self 20001 r.1 (by omega) (by omega)]
  simp only [Option.bind_some, if_true, bne_self_eq_false, laws_FnExactTimesOfScoop.j1, Bool.false_eq_true, if_false]
  rw [held_f 20000 r.1.length (by omega) (by omega)]
  simp only [Option.bind_some, if_true]
  rw [if_neg (by omega)]
end Go.Proofs.Yticeepbpgmidlaa.Pure
