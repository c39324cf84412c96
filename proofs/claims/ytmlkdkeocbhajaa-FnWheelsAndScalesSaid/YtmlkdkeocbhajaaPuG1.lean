/- Plain functions and what they come to. -/
import Derived.Laws.BitsLemmas
import Derived.Test.YtmlkdkeocbhajaaGx0
import Derived.Test.YtmlkdkeocbhajaaGx1
import Derived.Test.YtmlkdkeocbhajaaGx2
import Derived.Test.YtmlkdkeocbhajaaGx3
namespace Go.Proofs.Ytmlkdkeocbhajaa.PuB
open Go.RowKit Go.Proofs.Ytmlkdkeocbhajaa.G Go.Proofs.YtmlkdkeocbhajaaW.PrintLast Go.Proofs.YtmlkdkeocbhajaaW.PrintMore
open Go.Proofs.YtmlkdkeocbhajaaW.PrintWords hiding Ev
set_option linter.unusedVariables false
set_option linter.unusedSimpArgs false
theorem w64 {x : Int} (h0 : -9223372036854775808 ≤ x) (h1 : x ≤ 9223372036854775807) : wrap64 x = x := by
  unfold wrap64; omega
/-- With enough rounds the answer is r. -/
def Ev {β : Type} (f : Nat → Option β) (r : β) : Prop := ∃ K, ∀ k, K < k → f k = some r
theorem Ev.of {β : Type} {f : Nat → Option β} {r : β} (K : Nat) (h : ∀ k, K < k → f k = some r) : Ev f r := ⟨K, h⟩
theorem Ev.const {β : Type} {x : Option β} {r : β} (h : x = some r) : Ev (fun _ => x) r := ⟨0, fun _ _ => h⟩
theorem Ev.succ {β : Type} {f : Nat → Option β} {r : β} (h : Ev (fun k => f (k + 1)) r) : Ev f r := by
  obtain ⟨K, h⟩ := h
  refine ⟨K + 1, fun k hk => ?_⟩
  obtain ⟨k, rfl⟩ : ∃ m, k = m + 1 := ⟨k - 1, by omega⟩
  exact h k (by omega)
theorem Ev.bind {α β : Type} {f : Nat → Option α} {g : Nat → α → Option β} {x : α} {r : β} (h1 : Ev f x) (h2 : Ev (fun k => g k x) r) : Ev (fun k => (f k).bind (g k)) r := by
  obtain ⟨K1, h1⟩ := h1
  obtain ⟨K2, h2⟩ := h2
  exact ⟨K1 + K2, fun k hk => by show (f k).bind (g k) = some r; rw [h1 k (by omega)]; exact h2 k (by omega)⟩
theorem Ev.pos {β : Type} {c : Prop} [Decidable c] {f g : Nat → Option β} {r : β} (hc : c) (h : Ev f r) : Ev (fun k => if c then f k else g k) r := by
  obtain ⟨K, h⟩ := h
  exact ⟨K, fun k hk => by show (if c then f k else g k) = some r; rw [if_pos hc]; exact h k hk⟩
theorem Ev.neg {β : Type} {c : Prop} [Decidable c] {f g : Nat → Option β} {r : β} (hc : ¬ c) (h : Ev g r) : Ev (fun k => if c then f k else g k) r := by
  obtain ⟨K, h⟩ := h
  exact ⟨K, fun k hk => by show (if c then f k else g k) = some r; rw [if_neg hc]; exact h k hk⟩
theorem Ev.ex {β : Type} {f : Nat → Option β} {r : β} (h : Ev f r) : ∃ k, f k = some r := by
  obtain ⟨K, h⟩ := h
  exact ⟨K + 1, h _ (by omega)⟩
theorem in_spec (a b c : Int) : spec_l1In.f a b c = some (decide (b ≤ a ∧ a ≤ c)) := by
  unfold spec_l1In.f
  by_cases h : a ≥ b
  · rw [if_pos h]; congr 1; simp [show b ≤ a from h]
  · rw [if_neg h]; congr 1; simp [show ¬ b ≤ a from h]
theorem in_impl (a b c : Int) : impl_within.f a b c = some (decide (b ≤ a ∧ a ≤ c)) := by
  unfold impl_within.f
  by_cases h : b ≤ a
  · rw [if_pos h]; congr 1; simp [h]
  · rw [if_neg h]; congr 1; simp [h]
theorem u64_wrap (n : Int) : IntKind.u64.wrap n = n % 18446744073709551616 := by simp [IntKind.wrap, IntKind.bits, IntKind.signed]
theorem u64_and255 (x : Int) (h0 : 0 ≤ x) (h1 : x < 18446744073709551616) : Go.bits .and .u64 x 255 = x % 256 :=
  bits_mask .u64 64 (by decide) (fun n a b => by rw [u64_wrap]; omega) 8 (by decide) x h0 h1
/-- the drawn bytes -/
def Bytes (l : List Int) : Prop := (∀ x ∈ l, 0 ≤ x ∧ x ≤ 255) ∧ l.length ≤ 140737488351232
theorem bytes_of (l : List Int) (h : l.length * 1 ≤ 140737488351232) (hw : ∀ x ∈ l, (Lit.int .u8 x).wf = true) : Bytes l := by
  refine ⟨fun x hx => ?_, by omega⟩
  have := hw x hx
  simp only [Lit.wf, IntKind.min, IntKind.max, IntKind.signed, IntKind.bits, Bool.and_eq_true, decide_eq_true_eq, Bool.false_eq_true, if_false] at this
  omega
theorem bytes_rd {l : List Int} (h : Bytes l) (i : Int) : 0 ≤ rd l i ∧ rd l i ≤ 255 := by
  unfold rd
  rw [List.getD_eq_getElem?_getD]
  cases e : l[i.toNat]? with
  | none => simp
  | some x => exact h.1 x (List.mem_of_getElem? e)
theorem next_ok {l : List Int} (h : Bytes l) (p s : Int) (h0 : 0 ≤ p) (h1 : p ≤ 1000000000000000000) : ∃ r s', spec_l1Cur_next.f l p s = some (r, p + 1, s') ∧ 0 ≤ r ∧ r ≤ 255 := by
  have hl := h.2
  unfold spec_l1Cur_next.f
  rw [w64 (x := p + 1) (by omega) (by omega)]
  by_cases c : p < (l.length : Int)
  · have hb := bytes_rd h p
    rw [if_pos c, if_pos h0, if_pos (by omega), w64 (x := rd l p) (by omega) (by omega)]
    exact ⟨_, _, rfl, hb.1, hb.2⟩
  · rw [if_neg c, if_neg (by omega)]
    refine ⟨_, _, rfl, ?_⟩
    generalize hx : IntKind.u64.wrap _ = x
    have hx0 : 0 ≤ x ∧ x < 18446744073709551616 := by rw [← hx, u64_wrap]; omega
    have hd : 0 ≤ x / 1099511627776 ∧ x / 1099511627776 < 18446744073709551616 := by omega
    rw [u64_and255 _ hd.1 hd.2, w64 (by omega) (by omega)]; omega
theorem pick_ok {l : List Int} (h : Bytes l) (p s n : Int) (h0 : 0 ≤ p) (h1 : p ≤ 100000000000000000) (hn : n ≤ 60000) :
    ∃ r p' s', spec_l1Cur_pick.f l p s n = some (r, p', s') ∧ p ≤ p' ∧ p' ≤ p + 2 ∧ 0 ≤ r ∧ (1 ≤ n → r < n) := by
  unfold spec_l1Cur_pick.f
  by_cases c : n ≤ 1
  · rw [if_pos c]; exact ⟨_, _, _, rfl, by omega, by omega, by omega, fun _ => by omega⟩
  · rw [if_neg c]
    obtain ⟨r, s1, e, r0, r1⟩ := next_ok h p s h0 (by omega)
    rw [e]; simp only [Option.bind_some]
    by_cases d : n > 200
    · rw [if_pos d]
      obtain ⟨u, s2, e2, u0, u1⟩ := next_ok h (p + 1) s1 (by omega) (by omega)
      rw [e2]; simp only [Option.bind_some]
      rw [if_neg (by omega), w64 (x := r * 256) (by omega) (by omega), w64 (by omega) (by omega)]
      refine ⟨_, _, _, rfl, by omega, by omega, ?_, fun _ => ?_⟩
      · exact Int.tmod_nonneg _ (by omega)
      · exact Int.tmod_lt_of_pos _ (by omega)
    · rw [if_neg d, if_neg (by omega)]
      refine ⟨_, _, _, rfl, by omega, by omega, ?_, fun _ => ?_⟩
      · exact Int.tmod_nonneg _ (by omega)
      · exact Int.tmod_lt_of_pos _ (by omega)
theorem among_ok {l : List Int} (h : Bytes l) (p s : Int) (xs : List Int) (h0 : 0 ≤ p) (h1 : p ≤ 100000000000000000) (hx : 1 ≤ xs.length) (hx2 : xs.length ≤ 200) :
    ∃ r p' s', spec_l1Cur_among.f l p s xs = some (r, p', s') ∧ p ≤ p' ∧ p' ≤ p + 2 ∧ r ∈ xs := by
  unfold spec_l1Cur_among.f
  obtain ⟨r, p', s', e, a, b, c, d⟩ := pick_ok h p s (xs.length : Int) h0 h1 (by omega)
  have d := d (by omega)
  rw [e]; simp only [Option.bind_some]
  rw [if_pos c, if_pos d]
  refine ⟨_, _, _, rfl, a, b, ?_⟩
  unfold rd
  rw [List.getD_eq_getElem?_getD, List.getElem?_eq_getElem (by omega)]
  exact List.getElem_mem _
/-- In how many ticks a scoop is full. -/
def fill (room rate : Int) : Int := (room + rate - 1) / rate
theorem fill_bd (room rate : Int) (h0 : 1 ≤ room) (h1 : room ≤ 60) (h2 : 1 ≤ rate) (h3 : rate ≤ 60) : 1 ≤ fill room rate ∧ fill room rate ≤ 60 := by
  unfold fill
  refine ⟨(Int.le_ediv_iff_mul_le (by omega)).mpr (by omega), ?_⟩
  have : room + rate - 1 ≤ 60 * rate := by omega
  exact Int.ediv_le_of_le_mul (by omega) this
theorem fill_spec (s room rate : Int) (h0 : 1 ≤ room) (h1 : room ≤ 60) (h2 : 1 ≤ rate) (h3 : rate ≤ 60) : spec_ckFill.f s room rate = some (fill room rate) := by
  have := fill_bd room rate h0 h1 h2 h3
  unfold fill at this
  unfold spec_ckFill.f
  rw [if_neg (by omega), w64 (x := room + rate) (by omega) (by omega), w64 (x := room + rate - 1) (by omega) (by omega), Int.tdiv_eq_ediv_of_nonneg (by omega), w64 (by omega) (by omega)]; rfl
theorem fill_impl (s room rate : Int) (h0 : 1 ≤ room) (h1 : room ≤ 60) (h2 : 1 ≤ rate) (h3 : rate ≤ 60) : impl_Wheel_ticks.f s room rate = some (fill room rate) := by
  have := fill_bd room rate h0 h1 h2 h3
  unfold fill at this
  unfold impl_Wheel_ticks.f
  rw [if_neg (by omega), w64 (x := room + rate) (by omega) (by omega), w64 (x := room + rate - 1) (by omega) (by omega), Int.tdiv_eq_ediv_of_nonneg (by omega), w64 (by omega) (by omega)]; rfl
def WheelOk (s room rate : Int) : Prop := (2 ≤ s ∧ s ≤ 60) ∧ (1 ≤ room ∧ room ≤ 60) ∧ 1 ≤ rate ∧ rate ≤ 60
instance (s room rate : Int) : Decidable (WheelOk s room rate) := by unfold WheelOk; infer_instance
theorem wheel_spec (s room rate : Int) : spec_ckWheel.f s room rate = some (decide (WheelOk s room rate)) := by
  unfold spec_ckWheel.f
  simp only [in_spec, Option.bind_some]
  by_cases a : 2 ≤ s ∧ s ≤ 60
  · rw [if_pos (by simpa using a)]
    by_cases b : 1 ≤ room ∧ room ≤ 60
    · rw [if_pos (by simpa using b)]; simp [WheelOk, a, b]
    · rw [if_neg (by simpa using b)]; simp [WheelOk, b]
  · rw [if_neg (by simpa using a)]; simp [WheelOk, a]
theorem wheel_impl (s room rate : Int) : impl_IsWheel.f s room rate = some (decide (WheelOk s room rate)) := by
  unfold impl_IsWheel.f
  simp only [in_impl, Option.bind_some]
  by_cases a : 2 ≤ s ∧ s ≤ 60
  · rw [if_pos (by simpa using a)]
    by_cases b : 1 ≤ room ∧ room ≤ 60
    · rw [if_pos (by simpa using b)]; simp [WheelOk, a, b]
    · rw [if_neg (by simpa using b)]; simp [WheelOk, b]
  · rw [if_neg (by simpa using a)]; simp [WheelOk, a]
theorem turned_impl (s room rate t : Int) : impl_isTurned.f s room rate t = some (decide (WheelOk s room rate ∧ 0 ≤ t ∧ t ≤ 10000)) := by
  unfold impl_isTurned.f
  simp only [wheel_impl, in_impl, Option.bind_some]
  by_cases a : WheelOk s room rate
  · rw [if_pos (by simpa using a)]; simp [a]
  · rw [if_neg (by simpa using a)]; simp [a]
end Go.Proofs.Ytmlkdkeocbhajaa.PuB
