/- Plain functions and what they come to. -/
import Derived.Laws.BitsLemmas
import Derived.Test.YtmlkdkeocbhajaaCx0
import Derived.Test.YtmlkdkeocbhajaaCx1
import Derived.Test.YtmlkdkeocbhajaaCx2
import Derived.Test.YtmlkdkeocbhajaaCx3
namespace Go.Proofs.Ytmlkdkeocbhajaa.PuB
open Go.RowKit Go.Proofs.Ytmlkdkeocbhajaa.C Go.Proofs.YtmlkdkeocbhajaaW.PrintLast Go.Proofs.YtmlkdkeocbhajaaW.PrintMore
open Go.Proofs.YtmlkdkeocbhajaaW.PrintWords hiding Ev
set_option linter.unusedVariables false
set_option linter.unusedSimpArgs false
theorem w64 {x : Int} (h0 : -9223372036854775808 ≤ x) (h1 : x ≤ 9223372036854775807) : wrap64 x = x := by
  unfold wrap64; omega
/-- With enough rounds the answer is r. -/
def Ev {β : Type} (f : Nat → Option β) (r : β) : Prop := ∃ K, ∀ k, K < k → f k = some r
theorem Ev.of {β : Type} {f : Nat → Option β} {r : β} (K : Nat) (h : ∀ k, K < k → f k = some r) : Ev f r := ⟨K, h⟩
theorem Ev.const {β : Type} {x : Option β} {r : β} (h : x = some r) : Ev (fun _ => x) r := ⟨0, fun _ _ => h⟩
theorem Ev.succ {β : Type} {f : Nat → Option β} {r : β} (h : Ev (fun k => f (k + 1)) r) : Ev f r := by
  obtain ⟨K, h⟩ := h
  refine ⟨K + 1, fun k hk => ?_⟩
  obtain ⟨k, rfl⟩ : ∃ m, k = m + 1 := ⟨k - 1, by omega⟩
  exact h k (by omega)
theorem Ev.bind {α β : Type} {f : Nat → Option α} {g : Nat → α → Option β} {x : α} {r : β} (h1 : Ev f x) (h2 : Ev (fun k => g k x) r) : Ev (fun k => (f k).bind (g k)) r := by
  obtain ⟨K1, h1⟩ := h1
  obtain ⟨K2, h2⟩ := h2
  exact ⟨K1 + K2, fun k hk => by show (f k).bind (g k) = some r; rw [h1 k (by omega)]; exact h2 k (by omega)⟩
theorem Ev.pos {β : Type} {c : Prop} [Decidable c] {f g : Nat → Option β} {r : β} (hc : c) (h : Ev f r) : Ev (fun k => if c then f k else g k) r := by
  obtain ⟨K, h⟩ := h
  exact ⟨K, fun k hk => by show (if c then f k else g k) = some r; rw [if_pos hc]; exact h k hk⟩
theorem Ev.neg {β : Type} {c : Prop} [Decidable c] {f g : Nat → Option β} {r : β} (hc : ¬ c) (h : Ev g r) : Ev (fun k => if c then f k else g k) r := by
  obtain ⟨K, h⟩ := h
  exact ⟨K, fun k hk => by show (if c then f k else g k) = some r; rw [if_neg hc]; exact h k hk⟩
theorem Ev.ex {β : Type} {f : Nat → Option β} {r : β} (h : Ev f r) : ∃ k, f k = some r := by
  obtain ⟨K, h⟩ := h
  exact ⟨K + 1, h _ (by omega)⟩
theorem in_spec (a b c : Int) : spec_l1In.f a b c = some (decide (b ≤ a ∧ a ≤ c)) := by
  unfold spec_l1In.f
  by_cases h : a ≥ b
  · rw [if_pos h]; congr 1; simp [show b ≤ a from h]
  · rw [if_neg h]; congr 1; simp [show ¬ b ≤ a from h]
theorem in_impl (a b c : Int) : impl_within.f a b c = some (decide (b ≤ a ∧ a ≤ c)) := by
  unfold impl_within.f
  by_cases h : b ≤ a
  · rw [if_pos h]; congr 1; simp [h]
  · rw [if_neg h]; congr 1; simp [h]
theorem u64_wrap (n : Int) : IntKind.u64.wrap n = n % 18446744073709551616 := by simp [IntKind.wrap, IntKind.bits, IntKind.signed]
theorem u64_and255 (x : Int) (h0 : 0 ≤ x) (h1 : x < 18446744073709551616) : Go.bits .and .u64 x 255 = x % 256 :=
  bits_mask .u64 64 (by decide) (fun n a b => by rw [u64_wrap]; omega) 8 (by decide) x h0 h1
/-- the drawn bytes -/
def Bytes (l : List Int) : Prop := (∀ x ∈ l, 0 ≤ x ∧ x ≤ 255) ∧ l.length ≤ 140737488351232
theorem bytes_of (l : List Int) (h : l.length * 1 ≤ 140737488351232) (hw : ∀ x ∈ l, (Lit.int .u8 x).wf = true) : Bytes l := by
  refine ⟨fun x hx => ?_, by omega⟩
  have := hw x hx
  simp only [Lit.wf, IntKind.min, IntKind.max, IntKind.signed, IntKind.bits, Bool.and_eq_true, decide_eq_true_eq, Bool.false_eq_true, if_false] at this
  omega
theorem bytes_rd {l : List Int} (h : Bytes l) (i : Int) : 0 ≤ rd l i ∧ rd l i ≤ 255 := by
  unfold rd
  rw [List.getD_eq_getElem?_getD]
  cases e : l[i.toNat]? with
  | none => simp
  | some x => exact h.1 x (List.mem_of_getElem? e)
theorem next_ok {l : List Int} (h : Bytes l) (p s : Int) (h0 : 0 ≤ p) (h1 : p ≤ 1000000000000000000) : ∃ r s', spec_l1Cur_next.f l p s = some (r, p + 1, s') ∧ 0 ≤ r ∧ r ≤ 255 := by
  have hl := h.2
  unfold spec_l1Cur_next.f
  rw [w64 (x := p + 1) (by omega) (by omega)]
  by_cases c : p < (l.length : Int)
  · have hb := bytes_rd h p
    rw [if_pos c, if_pos h0, if_pos (by omega), w64 (x := rd l p) (by omega) (by omega)]
    exact ⟨_, _, rfl, hb.1, hb.2⟩
  · rw [if_neg c, if_neg (by omega)]
    refine ⟨_, _, rfl, ?_⟩
    generalize hx : IntKind.u64.wrap _ = x
    have hx0 : 0 ≤ x ∧ x < 18446744073709551616 := by rw [← hx, u64_wrap]; omega
    have hd : 0 ≤ x / 1099511627776 ∧ x / 1099511627776 < 18446744073709551616 := by omega
    rw [u64_and255 _ hd.1 hd.2, w64 (by omega) (by omega)]; omega
theorem pick_ok {l : List Int} (h : Bytes l) (p s n : Int) (h0 : 0 ≤ p) (h1 : p ≤ 100000000000000000) (hn : n ≤ 60000) :
    ∃ r p' s', spec_l1Cur_pick.f l p s n = some (r, p', s') ∧ p ≤ p' ∧ p' ≤ p + 2 ∧ 0 ≤ r ∧ (1 ≤ n → r < n) := by
  unfold spec_l1Cur_pick.f
  by_cases c : n ≤ 1
  · rw [if_pos c]; exact ⟨_, _, _, rfl, by omega, by omega, by omega, fun _ => by omega⟩
  · rw [if_neg c]
    obtain ⟨r, s1, e, r0, r1⟩ := next_ok h p s h0 (by omega)
    rw [e]; simp only [Option.bind_some]
    by_cases d : n > 200
    · rw [if_pos d]
      obtain ⟨u, s2, e2, u0, u1⟩ := next_ok h (p + 1) s1 (by omega) (by omega)
      rw [e2]; simp only [Option.bind_some]
      rw [if_neg (by omega), w64 (x := r * 256) (by omega) (by omega), w64 (by omega) (by omega)]
      refine ⟨_, _, _, rfl, by omega, by omega, ?_, fun _ => ?_⟩
      · exact Int.tmod_nonneg _ (by omega)
      · exact Int.tmod_lt_of_pos _ (by omega)
    · rw [if_neg d, if_neg (by omega)]
      refine ⟨_, _, _, rfl, by omega, by omega, ?_, fun _ => ?_⟩
      · exact Int.tmod_nonneg _ (by omega)
      · exact Int.tmod_lt_of_pos _ (by omega)
theorem among_ok {l : List Int} (h : Bytes l) (p s : Int) (xs : List Int) (h0 : 0 ≤ p) (h1 : p ≤ 100000000000000000) (hx : 1 ≤ xs.length) (hx2 : xs.length ≤ 200) :
    ∃ r p' s', spec_l1Cur_among.f l p s xs = some (r, p', s') ∧ p ≤ p' ∧ p' ≤ p + 2 ∧ r ∈ xs := by
  unfold spec_l1Cur_among.f
  obtain ⟨r, p', s', e, a, b, c, d⟩ := pick_ok h p s (xs.length : Int) h0 h1 (by omega)
  have d := d (by omega)
  rw [e]; simp only [Option.bind_some]
  rw [if_pos c, if_pos d]
  refine ⟨_, _, _, rfl, a, b, ?_⟩
  unfold rd
  rw [List.getD_eq_getElem?_getD, List.getElem?_eq_getElem (by omega)]
  exact List.getElem_mem _
/-- How much runs out. -/
def drp (L D : Int) : Int := (L + D - 1) / D
theorem drp_zero (D : Int) (h : 1 ≤ D) : drp 0 D = 0 := by
  unfold drp; rw [Int.ediv_eq_zero_of_lt (by omega) (by omega)]
theorem drp_pos (L D : Int) (hL : 1 ≤ L) (hD : 1 ≤ D) : 1 ≤ drp L D := by
  unfold drp
  exact (Int.le_ediv_iff_mul_le (by omega)).mpr (by omega)
theorem drp_le (L D : Int) (hL : 0 ≤ L) (hD : 1 ≤ D) : drp L D ≤ L := by
  rcases Int.lt_or_le 0 L with h | h
  · unfold drp
    apply Int.ediv_le_of_le_mul (by omega)
    have := Int.mul_nonneg (show 0 ≤ L - 1 by omega) (show 0 ≤ D - 1 by omega)
    rw [Int.sub_mul, Int.mul_sub] at this
    omega
  · obtain rfl : L = 0 := by omega
    rw [drp_zero D hD]; omega
theorem drp_nonneg (L D : Int) (hL : 0 ≤ L) (hD : 1 ≤ D) : 0 ≤ drp L D := by
  unfold drp; exact Int.ediv_nonneg (by omega) (by omega)
theorem drop_spec (L D : Int) (h0 : 0 ≤ L) (h1 : L ≤ 1000) (h2 : 1 ≤ D) (h3 : D ≤ 100) : spec_ckDrop.f L D = some (drp L D) := by
  unfold spec_ckDrop.f
  rw [if_neg (by omega), w64 (x := L + D) (by omega) (by omega), w64 (x := L + D - 1) (by omega) (by omega), Int.tdiv_eq_ediv_of_nonneg (by omega)]
  have a := drp_nonneg L D h0 h2
  have b := drp_le L D h0 h2
  unfold drp at a b
  rw [w64 (by omega) (by omega)]; rfl
theorem drop_impl (L D : Int) (h0 : 0 ≤ L) (h1 : L ≤ 1000) (h2 : 1 ≤ D) (h3 : D ≤ 100) : impl_Clock_drop.f L D = some (drp L D) := by
  unfold impl_Clock_drop.f
  rw [if_neg (by omega), w64 (x := L + D) (by omega) (by omega), w64 (x := L + D - 1) (by omega) (by omega), Int.tdiv_eq_ediv_of_nonneg (by omega)]
  have a := drp_nonneg L D h0 h2
  have b := drp_le L D h0 h2
  unfold drp at a b
  rw [w64 (by omega) (by omega)]; rfl
theorem next_impl (L D : Int) (h0 : 0 ≤ L) (h1 : L ≤ 1000) (h2 : 1 ≤ D) (h3 : D ≤ 100) : impl_Clock_next.f L D = some (L - drp L D, D) := by
  unfold impl_Clock_next.f
  rw [drop_impl L D h0 h1 h2 h3]; simp only [Option.bind_some]
  have a := drp_nonneg L D h0 h2
  have b := drp_le L D h0 h2
  rw [w64 (by omega) (by omega)]
/-- The levels behind each tick, down to 0. -/
def lv : Nat → Int → Int → List Int
  | 0, _, _ => []
  | n + 1, L, D => if L > 0 then (L - drp L D) :: lv n (L - drp L D) D else []
theorem lv_len : ∀ (n : Nat) (L D : Int), (lv n L D).length ≤ n
  | 0, _, _ => by simp [lv]
  | n + 1, L, D => by
    unfold lv
    split
    · have := lv_len n (L - drp L D) D
      simp; omega
    · simp
theorem levels_l0 (D : Int) (h2 : 1 ≤ D) (h3 : D ≤ 100) : ∀ (n k : Nat) (acc : List Int) (L : Int), 0 ≤ L → L ≤ 1000 → L ≤ n → n < k → acc.length + n < 17592186044416 →
    spec_ckLevels.l0 k acc L D = some (acc ++ lv n L D) := by
  intro n
  induction n with
  | zero =>
    intro k acc L h0 h1 hn hk ha
    obtain ⟨k, rfl⟩ : ∃ m, k = m + 1 := ⟨k - 1, by omega⟩
    simp only [spec_ckLevels.l0]; rw [if_neg (by omega)]; simp [lv]
  | succ n ih =>
    intro k acc L h0 h1 hn hk ha
    obtain ⟨k, rfl⟩ : ∃ m, k = m + 1 := ⟨k - 1, by omega⟩
    simp only [spec_ckLevels.l0]
    by_cases h : L > 0
    · have a := drp_pos L D (by omega) h2
      have b := drp_le L D h0 h2
      rw [if_pos h, drop_spec L D h0 h1 h2 h3]; simp only [Option.bind_some]
      rw [if_pos (by omega), w64 (by omega) (by omega), ih k _ _ (by omega) (by omega) (by omega) (by omega) (by simp; omega)]
      simp [lv, h]
    · rw [if_neg h]; simp [lv, h]
theorem levels_f (k : Nat) (L D : Int) (h0 : 0 ≤ L) (h1 : L ≤ 1000) (h2 : 1 ≤ D) (h3 : D ≤ 100) (hk : 1000 < k) :
    spec_ckLevels.f k L D = some (L :: lv 1000 L D) := by
  unfold spec_ckLevels.f
  rw [levels_l0 D h2 h3 1000 k [L] L h0 h1 (by omega) hk (by simp)]; rfl
/-- Behind how many ticks the level is no more than x. -/
def cnt : Nat → Int → Int → Int → Int
  | 0, _, _, _ => 0
  | n + 1, x, L, D => if L > x then 1 + cnt n x (L - drp L D) D else 0
theorem cnt_bd : ∀ (n : Nat) (x L D : Int), 0 ≤ cnt n x L D ∧ cnt n x L D ≤ n
  | 0, _, _, _ => by simp [cnt]
  | n + 1, x, L, D => by
    unfold cnt
    have := cnt_bd n x (L - drp L D) D
    split <;> omega
theorem timeTo_l0 (x D : Int) (hx : 0 ≤ x) (h2 : 1 ≤ D) (h3 : D ≤ 100) : ∀ (n k : Nat) (t L : Int), 0 ≤ L → L ≤ 1000 → L ≤ n → n < k → 0 ≤ t → t + n ≤ 1000000 →
    impl_Clock_timeTo.l0 k x t L D = some (t + cnt n x L D) := by
  intro n
  induction n with
  | zero =>
    intro k t L h0 h1 hn hk ht hb
    obtain ⟨k, rfl⟩ : ∃ m, k = m + 1 := ⟨k - 1, by omega⟩
    simp only [impl_Clock_timeTo.l0]; rw [if_neg (by omega)]; simp [cnt]
  | succ n ih =>
    intro k t L h0 h1 hn hk ht hb
    obtain ⟨k, rfl⟩ : ∃ m, k = m + 1 := ⟨k - 1, by omega⟩
    simp only [impl_Clock_timeTo.l0]
    by_cases h : L > x
    · have a := drp_pos L D (by omega) h2
      have b := drp_le L D h0 h2
      rw [if_pos h, next_impl L D h0 h1 h2 h3]; simp only [Option.bind_some]
      rw [w64 (by omega) (by omega), ih k _ _ (by omega) (by omega) (by omega) (by omega) (by omega) (by omega)]
      simp only [cnt]; rw [if_pos h]; congr 1; omega
    · rw [if_neg h]; simp [cnt, h]
theorem timeTo_f (k : Nat) (x L D : Int) (hx : 0 ≤ x) (h0 : 0 ≤ L) (h1 : L ≤ 1000) (h2 : 1 ≤ D) (h3 : D ≤ 100) (hk : 1000 < k) :
    impl_Clock_timeTo.f k L D x = some (cnt 1000 x L D) := by
  unfold impl_Clock_timeTo.f
  rw [timeTo_l0 x D hx h2 h3 1000 k 0 L h0 h1 (by omega) hk (by omega) (by omega)]; simp
theorem cnt_lv : ∀ (n : Nat) (L D : Int), cnt n 0 L D = (lv n L D).length
  | 0, _, _ => by simp [cnt, lv]
  | n + 1, L, D => by
    unfold cnt lv
    have := cnt_lv n (L - drp L D) D
    split
    · simp; omega
    · simp
theorem good_spec (L D : Int) : spec_ckGood.f L D = some (decide ((0 ≤ L ∧ L ≤ 1000) ∧ 1 ≤ D ∧ D ≤ 100)) := by
  unfold spec_ckGood.f
  rw [in_spec]; simp only [Option.bind_some]
  by_cases h : 0 ≤ L ∧ L ≤ 1000
  · rw [if_pos (by simpa using h), in_spec]; simp [h]
  · rw [if_neg (by simpa using h)]; simp [h]
theorem good_impl (L D : Int) : impl_IsClock.f L D = some (decide ((0 ≤ L ∧ L ≤ 1000) ∧ 1 ≤ D ∧ D ≤ 100)) := by
  unfold impl_IsClock.f
  rw [in_impl]; simp only [Option.bind_some]
  by_cases h : 0 ≤ L ∧ L ≤ 1000
  · rw [if_pos (by simpa using h), in_impl]; simp [h]
  · rw [if_neg (by simpa using h)]; simp [h]
theorem spec_time (D x : Int) (hx : 0 ≤ x) : ∀ (n : Nat) (k : Nat) (pre : List Int) (L : Int), L ≤ n → 0 ≤ L → 1 ≤ D → n + 1 < k → pre.length + n < 1000000 →
    spec_TimeOfLevel.l0 k x (pre ++ L :: lv n L D) ((pre ++ L :: lv n L D).length : Int) pre.length = some (pre.length + cnt n x L D, true) := by
  intro n
  induction n with
  | zero =>
    intro k pre L hn h0 h2 hk hp
    obtain ⟨k, rfl⟩ : ∃ m, k = m + 1 := ⟨k - 1, by omega⟩
    simp only [spec_TimeOfLevel.l0]
    have e : rd (pre ++ L :: lv 0 L D) pre.length = L := by unfold rd; simp
    rw [if_pos (by simp <;> omega), if_pos (by omega), if_pos (by simp <;> omega), e, if_pos (by omega)]; simp [cnt]
  | succ n ih =>
    intro k pre L hn h0 h2 hk hp
    obtain ⟨k, rfl⟩ : ∃ m, k = m + 1 := ⟨k - 1, by omega⟩
    simp only [spec_TimeOfLevel.l0]
    have e : rd (pre ++ L :: lv (n + 1) L D) pre.length = L := by unfold rd; simp
    rw [if_pos (by simp <;> omega), if_pos (by omega), if_pos (by simp <;> omega), e]
    by_cases h : L ≤ x
    · rw [if_pos h]; simp only [cnt]; rw [if_neg (by omega)]; simp
    · have a := drp_pos L D (by omega) h2
      have b := drp_le L D h0 h2
      have ih' := ih k (pre ++ [L]) (L - drp L D) (by omega) (by omega) h2 (by omega) (by simp; omega)
      have el : lv (n + 1) L D = (L - drp L D) :: lv n (L - drp L D) D := by simp only [lv]; rw [if_pos (by omega)]
      have ec : cnt (n + 1) x L D = 1 + cnt n x (L - drp L D) D := by simp only [cnt]; rw [if_pos (by omega)]
      rw [if_neg h, el, ec, w64 (by omega) (by omega)]
      simp only [List.append_assoc, List.cons_append, List.nil_append, List.length_append, List.length_cons, List.length_nil] at ih' ⊢
      have e1 : ((pre.length : Int) + 1) = ((pre.length + (0 + 1) : Nat) : Int) := by simp
      rw [e1, ih']; congr 2; simp; omega
end Go.Proofs.Ytmlkdkeocbhajaa.PuB
