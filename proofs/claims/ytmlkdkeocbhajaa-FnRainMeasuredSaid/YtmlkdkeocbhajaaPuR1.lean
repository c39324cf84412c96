/- Plain functions and what they come to. -/
import Derived.Laws.BitsLemmas
import Derived.Test.YtmlkdkeocbhajaaRx2
namespace Go.Proofs.Ytmlkdkeocbhajaa.PuB
open Go.RowKit Go.Proofs.Ytmlkdkeocbhajaa.R Go.Proofs.YtmlkdkeocbhajaaW.PrintLast Go.Proofs.YtmlkdkeocbhajaaW.PrintMore
open Go.Proofs.YtmlkdkeocbhajaaW.PrintWords hiding Ev
set_option linter.unusedVariables false
set_option linter.unusedSimpArgs false
theorem w64 {x : Int} (h0 : -9223372036854775808 ≤ x) (h1 : x ≤ 9223372036854775807) : wrap64 x = x := by
  unfold wrap64; omega
/-- With enough rounds the answer is r. -/
def Ev {β : Type} (f : Nat → Option β) (r : β) : Prop := ∃ K, ∀ k, K < k → f k = some r
theorem Ev.of {β : Type} {f : Nat → Option β} {r : β} (K : Nat) (h : ∀ k, K < k → f k = some r) : Ev f r := ⟨K, h⟩
theorem Ev.const {β : Type} {x : Option β} {r : β} (h : x = some r) : Ev (fun _ => x) r := ⟨0, fun _ _ => h⟩
theorem Ev.succ {β : Type} {f : Nat → Option β} {r : β} (h : Ev (fun k => f (k + 1)) r) : Ev f r := by
  obtain ⟨K, h⟩ := h
  refine ⟨K + 1, fun k hk => ?_⟩
  obtain ⟨k, rfl⟩ : ∃ m, k = m + 1 := ⟨k - 1, by omega⟩
  exact h k (by omega)
theorem Ev.bind {α β : Type} {f : Nat → Option α} {g : Nat → α → Option β} {x : α} {r : β} (h1 : Ev f x) (h2 : Ev (fun k => g k x) r) : Ev (fun k => (f k).bind (g k)) r := by
  obtain ⟨K1, h1⟩ := h1
  obtain ⟨K2, h2⟩ := h2
  exact ⟨K1 + K2, fun k hk => by show (f k).bind (g k) = some r; rw [h1 k (by omega)]; exact h2 k (by omega)⟩
theorem Ev.pos {β : Type} {c : Prop} [Decidable c] {f g : Nat → Option β} {r : β} (hc : c) (h : Ev f r) : Ev (fun k => if c then f k else g k) r := by
  obtain ⟨K, h⟩ := h
  exact ⟨K, fun k hk => by show (if c then f k else g k) = some r; rw [if_pos hc]; exact h k hk⟩
theorem Ev.neg {β : Type} {c : Prop} [Decidable c] {f g : Nat → Option β} {r : β} (hc : ¬ c) (h : Ev g r) : Ev (fun k => if c then f k else g k) r := by
  obtain ⟨K, h⟩ := h
  exact ⟨K, fun k hk => by show (if c then f k else g k) = some r; rw [if_neg hc]; exact h k hk⟩
theorem Ev.ex {β : Type} {f : Nat → Option β} {r : β} (h : Ev f r) : ∃ k, f k = some r := by
  obtain ⟨K, h⟩ := h
  exact ⟨K + 1, h _ (by omega)⟩
theorem in_spec (a b c : Int) : spec_l1In.f a b c = some (decide (b ≤ a ∧ a ≤ c)) := by
  unfold spec_l1In.f
  by_cases h : a ≥ b
  · rw [if_pos h]; congr 1; simp [show b ≤ a from h]
  · rw [if_neg h]; congr 1; simp [show ¬ b ≤ a from h]
theorem in_impl (a b c : Int) : impl_within.f a b c = some (decide (b ≤ a ∧ a ≤ c)) := by
  unfold impl_within.f
  by_cases h : b ≤ a
  · rw [if_pos h]; congr 1; simp [h]
  · rw [if_neg h]; congr 1; simp [h]
theorem rd_cons_zero (x : Int) (l : List Int) : rd (x :: l) 0 = x := rfl
theorem rd_nat (l : List Int) (i : Nat) : rd l (i : Int) = l.getD i 0 := by unfold rd; simp
theorem drop_rd (l : List Int) (i : Nat) (h : i < l.length) : l.drop i = rd l (i : Int) :: l.drop (i + 1) := by
  rw [rd_nat, List.drop_eq_getElem_cons h]; simp [h]
theorem all_l0 (lo hi : Int) (l : List Int) (hb : l.length ≤ 17592186044416) : ∀ (d k i : Nat), i + d = l.length → d < k →
    spec_l1All.l0 k lo hi l (l.length : Int) (i : Int) = some ((l.drop i).all fun x => decide (lo ≤ x ∧ x ≤ hi)) := by
  intro d
  induction d with
  | zero =>
    intro k i hi hk
    obtain ⟨k, rfl⟩ : ∃ m, k = m + 1 := ⟨k - 1, by omega⟩
    simp only [spec_l1All.l0]; rw [if_neg (by omega), List.drop_of_length_le (by omega)]; rfl
  | succ d ih =>
    intro k i hi hk
    obtain ⟨k, rfl⟩ : ∃ m, k = m + 1 := ⟨k - 1, by omega⟩
    simp only [spec_l1All.l0]
    rw [if_pos (by omega), if_pos (by omega), if_pos (by omega), in_spec, drop_rd l i (by omega)]
    simp only [Option.bind_some, List.all_cons]
    have ih' := ih k (i + 1) (by omega) (by omega)
    rw [w64 (by omega) (by omega), show ((i : Int) + 1) = ((i + 1 : Nat) : Int) by simp]
    split
    · rename_i h; rw [ih', h, Bool.true_and]
    · rename_i h; rw [Bool.eq_false_iff.mpr h, Bool.false_and]
theorem all_f (k : Nat) (l : List Int) (lo hi : Int) (hb : l.length ≤ 17592186044416) (hk : l.length < k) : spec_l1All.f k l lo hi = some (l.all fun x => decide (lo ≤ x ∧ x ≤ hi)) := by
  unfold spec_l1All.f
  have := all_l0 lo hi l hb l.length k 0 (by omega) hk
  simpa using this
theorem u64_wrap (n : Int) : IntKind.u64.wrap n = n % 18446744073709551616 := by simp [IntKind.wrap, IntKind.bits, IntKind.signed]
theorem u64_and255 (x : Int) (h0 : 0 ≤ x) (h1 : x < 18446744073709551616) : Go.bits .and .u64 x 255 = x % 256 :=
  bits_mask .u64 64 (by decide) (fun n a b => by rw [u64_wrap]; omega) 8 (by decide) x h0 h1
/-- the drawn bytes -/
def Bytes (l : List Int) : Prop := (∀ x ∈ l, 0 ≤ x ∧ x ≤ 255) ∧ l.length ≤ 140737488351232
theorem bytes_of (l : List Int) (h : l.length * 1 ≤ 140737488351232) (hw : ∀ x ∈ l, (Lit.int .u8 x).wf = true) : Bytes l := by
  refine ⟨fun x hx => ?_, by omega⟩
  have := hw x hx
  simp only [Lit.wf, IntKind.min, IntKind.max, IntKind.signed, IntKind.bits, Bool.and_eq_true, decide_eq_true_eq, Bool.false_eq_true, if_false] at this
  omega
theorem bytes_rd {l : List Int} (h : Bytes l) (i : Int) : 0 ≤ rd l i ∧ rd l i ≤ 255 := by
  unfold rd
  rw [List.getD_eq_getElem?_getD]
  cases e : l[i.toNat]? with
  | none => simp
  | some x => exact h.1 x (List.mem_of_getElem? e)
theorem next_ok {l : List Int} (h : Bytes l) (p s : Int) (h0 : 0 ≤ p) (h1 : p ≤ 1000000000000000000) : ∃ r s', spec_l1Cur_next.f l p s = some (r, p + 1, s') ∧ 0 ≤ r ∧ r ≤ 255 := by
  have hl := h.2
  unfold spec_l1Cur_next.f
  rw [w64 (x := p + 1) (by omega) (by omega)]
  by_cases c : p < (l.length : Int)
  · have hb := bytes_rd h p
    rw [if_pos c, if_pos h0, if_pos (by omega), w64 (x := rd l p) (by omega) (by omega)]
    exact ⟨_, _, rfl, hb.1, hb.2⟩
  · rw [if_neg c, if_neg (by omega)]
    refine ⟨_, _, rfl, ?_⟩
    generalize hx : IntKind.u64.wrap _ = x
    have hx0 : 0 ≤ x ∧ x < 18446744073709551616 := by rw [← hx, u64_wrap]; omega
    have hd : 0 ≤ x / 1099511627776 ∧ x / 1099511627776 < 18446744073709551616 := by omega
    rw [u64_and255 _ hd.1 hd.2, w64 (by omega) (by omega)]; omega
theorem pick_ok {l : List Int} (h : Bytes l) (p s n : Int) (h0 : 0 ≤ p) (h1 : p ≤ 100000000000000000) (hn : n ≤ 60000) :
    ∃ r p' s', spec_l1Cur_pick.f l p s n = some (r, p', s') ∧ p ≤ p' ∧ p' ≤ p + 2 ∧ 0 ≤ r ∧ (1 ≤ n → r < n) := by
  unfold spec_l1Cur_pick.f
  by_cases c : n ≤ 1
  · rw [if_pos c]; exact ⟨_, _, _, rfl, by omega, by omega, by omega, fun _ => by omega⟩
  · rw [if_neg c]
    obtain ⟨r, s1, e, r0, r1⟩ := next_ok h p s h0 (by omega)
    rw [e]; simp only [Option.bind_some]
    by_cases d : n > 200
    · rw [if_pos d]
      obtain ⟨u, s2, e2, u0, u1⟩ := next_ok h (p + 1) s1 (by omega) (by omega)
      rw [e2]; simp only [Option.bind_some]
      rw [if_neg (by omega), w64 (x := r * 256) (by omega) (by omega), w64 (by omega) (by omega)]
      refine ⟨_, _, _, rfl, by omega, by omega, ?_, fun _ => ?_⟩
      · exact Int.tmod_nonneg _ (by omega)
      · exact Int.tmod_lt_of_pos _ (by omega)
    · rw [if_neg d, if_neg (by omega)]
      refine ⟨_, _, _, rfl, by omega, by omega, ?_, fun _ => ?_⟩
      · exact Int.tmod_nonneg _ (by omega)
      · exact Int.tmod_lt_of_pos _ (by omega)
theorem among_ok {l : List Int} (h : Bytes l) (p s : Int) (xs : List Int) (h0 : 0 ≤ p) (h1 : p ≤ 100000000000000000) (hx : 1 ≤ xs.length) (hx2 : xs.length ≤ 200) :
    ∃ r p' s', spec_l1Cur_among.f l p s xs = some (r, p', s') ∧ p ≤ p' ∧ p' ≤ p + 2 ∧ r ∈ xs := by
  unfold spec_l1Cur_among.f
  obtain ⟨r, p', s', e, a, b, c, d⟩ := pick_ok h p s (xs.length : Int) h0 h1 (by omega)
  have d := d (by omega)
  rw [e]; simp only [Option.bind_some]
  rw [if_pos c, if_pos d]
  refine ⟨_, _, _, rfl, a, b, ?_⟩
  unfold rd
  rw [List.getD_eq_getElem?_getD, List.getElem?_eq_getElem (by omega)]
  exact List.getElem_mem _
theorem one_ok {l : List Int} (h : Bytes l) (p s n : Int) (h0 : 0 ≤ p) (h1 : p ≤ 100000000000000000) (hn : n ≤ 60000) :
    ∃ b p' s', spec_l1Cur_one.f l p s n = some (b, p', s') ∧ p ≤ p' ∧ p' ≤ p + 2 := by
  unfold spec_l1Cur_one.f
  obtain ⟨r, p', s', e, a, b, _⟩ := pick_ok h p s n h0 h1 hn
  rw [e]; exact ⟨_, _, _, rfl, a, b⟩
/-! rain in a tipping bucket -/
def sm (l : List Int) : Int := l.foldr (fun x s => x + s) 0
def GG (r : Int) (l : List Int) : Prop := (1 ≤ r ∧ r ≤ 60) ∧ l.length ≤ 100 ∧ ∀ x ∈ l, 0 ≤ x ∧ x ≤ 10000
instance (r : Int) (l : List Int) : Decidable (GG r l) := by unfold GG; infer_instance
/-- numbers that may be summed up -/
def SmO (l : List Int) : Prop := l.length ≤ 100 ∧ ∀ x ∈ l, 0 ≤ x ∧ x ≤ 10000
theorem SmO.drop {l : List Int} (h : SmO l) (n : Nat) : SmO (l.drop n) := ⟨by have := h.1; simp; omega, fun x hx => h.2 x (List.mem_of_mem_drop hx)⟩
theorem SmO.take {l : List Int} (h : SmO l) (n : Nat) : SmO (l.take n) := ⟨by have := h.1; simp; omega, fun x hx => h.2 x (List.mem_of_mem_take hx)⟩
theorem sm_le : ∀ (l : List Int), (∀ x ∈ l, 0 ≤ x ∧ x ≤ 10000) → 0 ≤ sm l ∧ sm l ≤ 10000 * (l.length : Int)
  | [], _ => by simp [sm]
  | x :: l, h => by
    have h1 := h x (List.mem_cons_self ..)
    have h2 := sm_le l (fun y hy => h y (List.mem_cons_of_mem _ hy))
    have e : sm (x :: l) = x + sm l := rfl
    rw [e]; simp only [List.length_cons]; omega
theorem SmO.le {l : List Int} (h : SmO l) : 0 ≤ sm l ∧ sm l ≤ 1000000 := by have := sm_le l h.2; have := h.1; omega
theorem SmO.cell {l : List Int} (h : SmO l) (i : Nat) (hi : i < l.length) : 0 ≤ rd l (i : Int) ∧ rd l (i : Int) ≤ 10000 := by
  rw [rd_nat]; simp [hi]; exact h.2 _ (List.getElem_mem hi)
theorem GG.so {r : Int} {l : List Int} (h : GG r l) : SmO l := h.2
theorem gaugeI (r : Int) (l : List Int) : impl_isGauge.f r l = some (decide (GG r l)) := by
  unfold impl_isGauge.f impl_areWithin.f
  rw [in_impl]; simp only [Option.bind_some]
  by_cases a : 1 ≤ r ∧ r ≤ 60
  · rw [decide_eq_true a, if_pos rfl]
    by_cases b : (l.length : Int) ≤ 100
    · rw [if_pos b]; congr 1; refine Bool.eq_iff_iff.mpr ?_
      simp [GG, a, show l.length ≤ 100 by omega]
    · rw [if_neg b]; congr 1; symm; refine decide_eq_false fun h => b (by have := h.2.1; omega)
  · rw [decide_eq_false a, if_neg (by simp)]; congr 1; symm; exact decide_eq_false fun h => a h.1
theorem gaugeS (k : Nat) (r : Int) (l : List Int) (hk : 200 < k) : spec_tbRain.f k r l = some (decide (GG r l)) := by
  unfold spec_tbRain.f
  rw [in_spec]; simp only [Option.bind_some]
  by_cases a : 1 ≤ r ∧ r ≤ 60
  · rw [decide_eq_true a, if_pos rfl]
    by_cases b : (l.length : Int) ≤ 100
    · rw [if_pos b, all_f k l 0 10000 (by omega) (by omega)]; simp only [Option.bind_some]; congr 1; refine Bool.eq_iff_iff.mpr ?_
      simp [GG, a, show l.length ≤ 100 by omega]
    · rw [if_neg b]; congr 1; symm; refine decide_eq_false fun h => b (by have := h.2.1; omega)
  · rw [decide_eq_false a, if_neg (by simp)]; congr 1; symm; exact decide_eq_false fun h => a h.1
/-- the tips, and what is left behind them -/
def tps (r : Int) : Int → List Int → List Int
  | _, [] => []
  | h, x :: l => (h + x) / r :: tps r ((h + x) % r) l
def rst (r : Int) : Int → List Int → Int
  | h, [] => h
  | h, x :: l => rst r ((h + x) % r) l
theorem tps_len (r : Int) : ∀ (l : List Int) (h : Int), (tps r h l).length = l.length
  | [], _ => rfl
  | x :: l, h => by simp [tps, tps_len r l]
theorem tps_sum (r : Int) (hr : 1 ≤ r) : ∀ (l : List Int) (h : Int), 0 ≤ h → h < r → (∀ x ∈ l, 0 ≤ x ∧ x ≤ 10000) → sm (tps r h l) * r + rst r h l = h + sm l ∧ 0 ≤ rst r h l ∧ rst r h l < r ∧ ∀ x ∈ tps r h l, 0 ≤ x ∧ x ≤ 10000
  | [], h, h0, h1, _ => ⟨by simp [tps, rst, sm], h0, h1, by simp [tps]⟩
  | x :: l, h, h0, h1, hx => by
    have hx1 := hx x (List.mem_cons_self ..)
    have m0 := Int.emod_nonneg (h + x) (show r ≠ 0 by omega)
    have m1 := Int.emod_lt_of_pos (h + x) (show 0 < r by omega)
    have md := Int.mul_ediv_add_emod (h + x) r
    obtain ⟨ih1, ih2, ih3, ih4⟩ := tps_sum r hr l ((h + x) % r) m0 m1 (fun y hy => hx y (List.mem_cons_of_mem _ hy))
    have q0 : 0 ≤ (h + x) / r := Int.ediv_nonneg (by omega) (by omega)
    have q1 : (h + x) / r ≤ 10000 := by
      have : (h + x) / r < 10001 := Int.ediv_lt_of_lt_mul (by omega) (by
        have : 10000 * 1 ≤ 10000 * r := by omega
        omega)
      omega
    refine ⟨?_, ih2, ih3, ?_⟩
    · show ((h + x) / r + sm (tps r ((h + x) % r) l)) * r + rst r ((h + x) % r) l = h + (x + sm l)
      rw [Int.add_mul, Int.mul_comm ((h + x) / r) r]; omega
    · intro y hy
      rcases List.mem_cons.mp hy with e | e
      · subst e; exact ⟨q0, q1⟩
      · exact ih4 y e
theorem tipsI_l0 (r : Int) (hr : 1 ≤ r ∧ r ≤ 60) (l : List Int) (S : SmO l) : ∀ (d k i : Nat) (h : Int) (acc : List Int), i + d = l.length → d < k → 0 ≤ h → h < r → acc.length = i →
    impl_TipsOfRain.l0 k r acc h l (l.length : Int) (i : Int) = some (acc ++ tps r h (l.drop i), true) := by
  intro d
  induction d with
  | zero =>
    intro k i h acc hi hk h0 h1 ha
    obtain ⟨k, rfl⟩ : ∃ m, k = m + 1 := ⟨k - 1, by omega⟩
    simp only [impl_TipsOfRain.l0]; rw [if_neg (by omega), List.drop_of_length_le (by omega)]; simp [tps]
  | succ d ih =>
    intro k i h acc hi hk h0 h1 ha
    obtain ⟨k, rfl⟩ : ∃ m, k = m + 1 := ⟨k - 1, by omega⟩
    have hl := S.1
    have hc := S.cell i (by omega)
    have m0 := Int.emod_nonneg (h + rd l (i : Int)) (show r ≠ 0 by omega)
    have m1 := Int.emod_lt_of_pos (h + rd l (i : Int)) (show 0 < r by omega)
    have e1 : Int.tdiv (h + rd l (i : Int)) r = (h + rd l (i : Int)) / r := Int.tdiv_eq_ediv_of_nonneg (by omega)
    have e2 : Int.tmod (h + rd l (i : Int)) r = (h + rd l (i : Int)) % r := Int.tmod_eq_emod_of_nonneg (by omega)
    have q0 : 0 ≤ (h + rd l (i : Int)) / r := Int.ediv_nonneg (by omega) (by omega)
    have q1 : (h + rd l (i : Int)) / r ≤ h + rd l (i : Int) := Int.ediv_le_self _ (by omega)
    simp only [impl_TipsOfRain.l0]
    rw [if_pos (by omega), if_pos (by omega), if_pos (by omega), if_neg (by omega), if_pos (by omega), w64 (x := h + rd l (i : Int)) (by omega) (by omega), e1, e2, w64 (x := (h + rd l (i : Int)) / r) (by omega) (by omega), w64 (x := (i : Int) + 1) (by omega) (by omega),
      show ((i : Int) + 1) = ((i + 1 : Nat) : Int) by simp, ih k (i + 1) _ _ (by omega) (by omega) m0 m1 (by simp [ha]), drop_rd l i (by omega)]
    simp [tps]
theorem tipsS_l0 (r : Int) (hr : 1 ≤ r ∧ r ≤ 60) (l : List Int) (S : SmO l) : ∀ (d k i : Nat) (h : Int) (acc : List Int), i + d = l.length → d < k → 0 ≤ h → h < r → acc.length = i →
    spec_tbTips.l0 k r acc h l (l.length : Int) (i : Int) = some (acc ++ tps r h (l.drop i), rst r h (l.drop i)) := by
  intro d
  induction d with
  | zero =>
    intro k i h acc hi hk h0 h1 ha
    obtain ⟨k, rfl⟩ : ∃ m, k = m + 1 := ⟨k - 1, by omega⟩
    simp only [spec_tbTips.l0]; rw [if_neg (by omega), List.drop_of_length_le (by omega)]; simp [tps, rst]
  | succ d ih =>
    intro k i h acc hi hk h0 h1 ha
    obtain ⟨k, rfl⟩ : ∃ m, k = m + 1 := ⟨k - 1, by omega⟩
    have hl := S.1
    have hc := S.cell i (by omega)
    have m0 := Int.emod_nonneg (h + rd l (i : Int)) (show r ≠ 0 by omega)
    have m1 := Int.emod_lt_of_pos (h + rd l (i : Int)) (show 0 < r by omega)
    have e1 : Int.tdiv (h + rd l (i : Int)) r = (h + rd l (i : Int)) / r := Int.tdiv_eq_ediv_of_nonneg (by omega)
    have e2 : Int.tmod (h + rd l (i : Int)) r = (h + rd l (i : Int)) % r := Int.tmod_eq_emod_of_nonneg (by omega)
    have q0 : 0 ≤ (h + rd l (i : Int)) / r := Int.ediv_nonneg (by omega) (by omega)
    have q1 : (h + rd l (i : Int)) / r ≤ h + rd l (i : Int) := Int.ediv_le_self _ (by omega)
    simp only [spec_tbTips.l0]
    rw [if_pos (by omega), if_pos (by omega), if_pos (by omega), if_neg (by omega), if_pos (by omega), w64 (x := h + rd l (i : Int)) (by omega) (by omega), e1, e2, w64 (x := (h + rd l (i : Int)) / r) (by omega) (by omega), w64 (x := (i : Int) + 1) (by omega) (by omega),
      show ((i : Int) + 1) = ((i + 1 : Nat) : Int) by simp, ih k (i + 1) _ _ (by omega) (by omega) m0 m1 (by simp [ha]), drop_rd l i (by omega)]
    simp [tps, rst]
/-- what the calls answer -/
def aTips (r : Int) (l : List Int) : List Int × Bool := if GG r l then (tps r 0 l, true) else ([], false)
def aRest (r : Int) (l : List Int) : Int × Bool := if GG r l then (rst r 0 l, true) else (0, false)
def fstI (t : List Int) : Int × Bool := match t.findIdx? (fun x => decide (0 < x)) with | some j => ((j : Int) + 1, true) | none => (0, false)
def aFirst (r : Int) (l : List Int) : Int × Bool := if GG r l then fstI (tps r 0 l) else (0, false)
def aRange (r : Int) (l : List Int) : Int × Int × Bool := if GG r l then (sm l * r, sm l * r + r - 1, true) else (0, 0, false)
def aTwo (r u : Int) (l m : List Int) : Int × Int × Bool :=
  if GG r l ∧ GG u m ∧ mx (sm l * r) (sm m * u) ≤ mn (sm l * r + r - 1) (sm m * u + u - 1) then (mx (sm l * r) (sm m * u), mn (sm l * r + r - 1) (sm m * u + u - 1), true) else (0, 0, false)
def aMade (r : Int) (l : List Int) : List Int × Bool := if GG r l ∧ GG r (l.map (· * r)) then (l.map (· * r), true) else ([], false)
theorem TipsI (k : Nat) (r : Int) (l : List Int) (hk : 200 < k) : impl_TipsOfRain.f k r l = some (aTips r l) := by
  unfold impl_TipsOfRain.f aTips
  rw [gaugeI]; simp only [Option.bind_some]
  by_cases c : GG r l
  · rw [decide_eq_true c, if_pos rfl, if_pos c]
    have := tipsI_l0 r c.1 l c.so l.length k 0 0 [] (by omega) (by have := c.2.1; omega) (by omega) (by have := c.1; omega) rfl
    simpa using this
  · rw [decide_eq_false c, if_neg (by simp), if_neg c]
theorem tbTips_f (k : Nat) (r : Int) (l : List Int) (hk : 200 < k) (c : GG r l) : spec_tbTips.f k r l = some (tps r 0 l, rst r 0 l) := by
  unfold spec_tbTips.f
  have := tipsS_l0 r c.1 l c.so l.length k 0 0 [] (by omega) (by have := c.2.1; omega) (by omega) (by have := c.1; omega) rfl
  simpa using this
theorem TipsS (k : Nat) (r : Int) (l : List Int) (hk : 200 < k) : spec_TipsOfRain.f k r l = some (aTips r l) := by
  unfold spec_TipsOfRain.f aTips
  rw [gaugeS k r l hk]; simp only [Option.bind_some]
  by_cases c : GG r l
  · rw [decide_eq_true c, if_pos rfl, if_pos c, tbTips_f k r l hk c]; rfl
  · rw [decide_eq_false c, if_neg (by simp), if_neg c]
theorem sum_l0 (F : Nat → Int → List Int → Int → Int → Option Int) (hF : ∀ k s l n i, F (k + 1) s l n i = if i < n then (if 0 ≤ i then (if i < (l.length : Int) then F k (wrap64 (s + rd l i)) l n (wrap64 (i + 1)) else none) else none) else some s)
    (l : List Int) (S : SmO l) : ∀ (d k i : Nat) (s : Int), i + d = l.length → d < k → 0 ≤ s → s ≤ 10000 * (i : Int) → F k s l (l.length : Int) (i : Int) = some (s + sm (l.drop i)) := by
  intro d
  induction d with
  | zero =>
    intro k i s hi hk h0 h1
    obtain ⟨k, rfl⟩ : ∃ m, k = m + 1 := ⟨k - 1, by omega⟩
    rw [hF, if_neg (by omega), List.drop_of_length_le (by omega)]; simp [sm]
  | succ d ih =>
    intro k i s hi hk h0 h1
    obtain ⟨k, rfl⟩ : ∃ m, k = m + 1 := ⟨k - 1, by omega⟩
    have hl := S.1
    have hc := S.cell i (by omega)
    rw [hF, if_pos (by omega), if_pos (by omega), if_pos (by omega), w64 (x := s + rd l (i : Int)) (by omega) (by omega), w64 (x := (i : Int) + 1) (by omega) (by omega),
      show ((i : Int) + 1) = ((i + 1 : Nat) : Int) by simp, ih k (i + 1) _ (by omega) (by omega) (by omega) (by simp; omega), drop_rd l i (by omega)]
    congr 1
    show s + rd l (i : Int) + sm (l.drop (i + 1)) = s + (rd l (i : Int) + sm (l.drop (i + 1)))
    omega
theorem total_f (k : Nat) (l : List Int) (hk : 200 < k) (S : SmO l) : impl_total.f k l = some (sm l) := by
  unfold impl_total.f
  have := sum_l0 impl_total.l0 (fun k s l n i => by simp only [impl_total.l0]) l S l.length k 0 0 (by omega) (by have := S.1; omega) (by omega) (by omega)
  simpa using this
theorem veSum_f (k : Nat) (l : List Int) (hk : 200 < k) (S : SmO l) : spec_veSum.f k l = some (sm l) := by
  unfold spec_veSum.f
  have := sum_l0 spec_veSum.l0 (fun k s l n i => by simp only [spec_veSum.l0]) l S l.length k 0 0 (by omega) (by have := S.1; omega) (by omega) (by omega)
  simpa using this
theorem eSum_f (k : Nat) (l : List Int) (hk : 200 < k) (S : SmO l) : laws_eSum.f k l = some (sm l) := by
  unfold laws_eSum.f
  have := sum_l0 laws_eSum.l0 (fun k s l n i => by simp only [laws_eSum.l0]) l S l.length k 0 0 (by omega) (by have := S.1; omega) (by omega) (by omega)
  simpa using this
theorem GG.tips {r : Int} {l : List Int} (c : GG r l) : SmO (tps r 0 l) := ⟨by rw [tps_len]; exact c.2.1, (tps_sum r c.1.1 l 0 (by omega) (by have := c.1; omega) c.2.2).2.2.2⟩
theorem GG.tipsG {r : Int} {l : List Int} (c : GG r l) : GG r (tps r 0 l) := ⟨c.1, c.tips.1, c.tips.2⟩
theorem GG.eq {r : Int} {l : List Int} (c : GG r l) : sm (tps r 0 l) * r + rst r 0 l = sm l ∧ 0 ≤ rst r 0 l ∧ rst r 0 l < r := by
  have := tps_sum r c.1.1 l 0 (by omega) (by have := c.1; omega) c.2.2
  exact ⟨by omega, this.2.1, this.2.2.1⟩
theorem RestI (k : Nat) (r : Int) (l : List Int) (hk : 200 < k) : impl_RestOfRain.f k r l = some (aRest r l) := by
  unfold impl_RestOfRain.f aRest
  rw [gaugeI]; simp only [Option.bind_some]
  by_cases c : GG r l
  · have hr := c.1
    rw [decide_eq_true c, if_pos rfl, if_pos c, total_f k l hk c.so]; simp only [Option.bind_some]
    rw [if_neg (by omega), Int.tmod_eq_emod_of_nonneg (c.so.le).1]
    obtain ⟨e, a, b⟩ := c.eq
    have : sm l % r = rst r 0 l := by
      rw [← e, Int.add_comm, Int.add_mul_emod_self_right]; exact Int.emod_eq_of_lt a b
    rw [this]
  · rw [decide_eq_false c, if_neg (by simp), if_neg c]
theorem RestS (k : Nat) (r : Int) (l : List Int) (hk : 200 < k) : spec_RestOfRain.f k r l = some (aRest r l) := by
  unfold spec_RestOfRain.f aRest
  rw [gaugeS k r l hk]; simp only [Option.bind_some]
  by_cases c : GG r l
  · rw [decide_eq_true c, if_pos rfl, if_pos c, tbTips_f k r l hk c]; rfl
  · rw [decide_eq_false c, if_neg (by simp), if_neg c]
theorem findIdx_lt {p : Int → Bool} {l : List Int} {j : Nat} (h : l.findIdx? p = some j) : j < l.length := by
  rw [List.findIdx?_eq_some_iff_getElem] at h; exact h.1
theorem FirstI (k : Nat) (r : Int) (l : List Int) (hk : 200 < k) : impl_FirstTip.f k r l = some (aFirst r l) := by
  unfold impl_FirstTip.f aFirst
  rw [TipsI k r l hk]; simp only [Option.bind_some]
  unfold aTips
  by_cases c : GG r l
  · rw [if_pos c, if_pos c]
    unfold Gv.idxF fstI
    cases e : (tps r 0 l).findIdx? (fun x => decide (0 < x)) with
    | none => simp
    | some j =>
      have := findIdx_lt e
      rw [tps_len] at this
      have := c.2.1
      simp only []
      rw [if_neg (by omega), w64 (by omega) (by omega)]
  · rw [if_neg c, if_neg c]; simp [Gv.idxF]
theorem firstS_l0 (r : Int) (hr : 1 ≤ r ∧ r ≤ 60) (l : List Int) (S : SmO l) : ∀ (d k i : Nat) (h : Int), i + d = l.length → d < k → 0 ≤ h → h < r →
    spec_FirstTip.l0 k r h l (l.length : Int) (i : Int) = some (match (tps r h (l.drop i)).findIdx? (fun x => decide (0 < x)) with | some j => ((i : Int) + (j : Int) + 1, true) | none => (0, false)) := by
  intro d
  induction d with
  | zero =>
    intro k i h hi hk h0 h1
    obtain ⟨k, rfl⟩ : ∃ m, k = m + 1 := ⟨k - 1, by omega⟩
    simp only [spec_FirstTip.l0]; rw [if_neg (by omega), List.drop_of_length_le (by omega)]; simp [tps]
  | succ d ih =>
    intro k i h hi hk h0 h1
    obtain ⟨k, rfl⟩ : ∃ m, k = m + 1 := ⟨k - 1, by omega⟩
    have hl := S.1
    have hc := S.cell i (by omega)
    simp only [spec_FirstTip.l0]
    rw [if_pos (by omega), if_pos (by omega), if_pos (by omega), w64 (x := h + rd l (i : Int)) (by omega) (by omega), w64 (x := (i : Int) + 1) (by omega) (by omega), drop_rd l i (by omega)]
    by_cases c : h + rd l (i : Int) ≥ r
    · have : 0 < (h + rd l (i : Int)) / r := (by have := Int.le_ediv_of_mul_le (a := 1) (b := h + rd l (i : Int)) (c := r) (by omega) (by omega); omega)
      rw [if_pos c]; simp [tps, List.findIdx?_cons, this]
    · have e1 : (h + rd l (i : Int)) / r = 0 := Int.ediv_eq_zero_of_lt (by omega) (by omega)
      have e2 : (h + rd l (i : Int)) % r = h + rd l (i : Int) := Int.emod_eq_of_lt (by omega) (by omega)
      rw [if_neg c, show ((i : Int) + 1) = ((i + 1 : Nat) : Int) by simp, ih k (i + 1) _ (by omega) (by omega) (by omega) (by omega)]
      simp only [tps, List.findIdx?_cons, e1, e2]
      rw [show decide ((0 : Int) < 0) = false from rfl]
      simp only [Bool.false_eq_true, if_false]
      cases (tps r (h + rd l (i : Int)) (l.drop (i + 1))).findIdx? (fun x => decide (0 < x)) with
      | none => rfl
      | some j => simp; omega
theorem FirstS (k : Nat) (r : Int) (l : List Int) (hk : 200 < k) : spec_FirstTip.f k r l = some (aFirst r l) := by
  unfold spec_FirstTip.f aFirst
  rw [gaugeS k r l hk]; simp only [Option.bind_some]
  by_cases c : GG r l
  · rw [decide_eq_true c, if_pos rfl, if_pos c]
    have := firstS_l0 r c.1 l c.so l.length k 0 0 (by omega) (by have := c.2.1; omega) (by omega) (by have := c.1; omega)
    rw [show ((0 : Nat) : Int) = 0 from rfl] at this
    rw [this]; unfold fstI; simp
  · rw [decide_eq_false c, if_neg (by simp), if_neg c]
theorem mul_le {a r : Int} (h0 : 0 ≤ a) (h1 : a ≤ 1000000) (r0 : 1 ≤ r) (r1 : r ≤ 60) : 0 ≤ a * r ∧ a * r ≤ 60000000 := by
  refine ⟨Int.mul_nonneg h0 (by omega), ?_⟩
  have := Int.mul_le_mul h1 r1 (by omega) (by omega)
  omega
theorem RangeI (k : Nat) (r : Int) (l : List Int) (hk : 200 < k) : impl_RangeOfTips.f k r l = some (aRange r l) := by
  unfold impl_RangeOfTips.f aRange
  rw [gaugeI]; simp only [Option.bind_some]
  by_cases c : GG r l
  · rw [decide_eq_true c, if_pos rfl, if_pos c, total_f k l hk c.so]; simp only [Option.bind_some]
    have b := mul_le c.so.le.1 c.so.le.2 c.1.1 c.1.2
    have := c.1
    generalize sm l * r = q at b ⊢
    rw [w64 (x := q) (by omega) (by omega), w64 (x := q + r) (by omega) (by omega), w64 (by omega) (by omega)]
  · rw [decide_eq_false c, if_neg (by simp), if_neg c]
theorem RangeS (k : Nat) (r : Int) (l : List Int) (hk : 200 < k) : spec_RangeOfTips.f k r l = some (aRange r l) := by
  unfold spec_RangeOfTips.f aRange
  rw [gaugeS k r l hk]; simp only [Option.bind_some]
  by_cases c : GG r l
  · rw [decide_eq_true c, if_pos rfl, if_pos c, veSum_f k l hk c.so]; simp only [Option.bind_some]
    have b := mul_le c.so.le.1 c.so.le.2 c.1.1 c.1.2
    have := c.1
    rw [Int.mul_comm r]
    generalize sm l * r = q at b ⊢
    rw [w64 (x := q) (by omega) (by omega), w64 (x := q + r) (by omega) (by omega), w64 (by omega) (by omega)]
  · rw [decide_eq_false c, if_neg (by simp), if_neg c]
theorem TwoI (k : Nat) (r u : Int) (l m : List Int) (hk : 200 < k) : impl_RangeOfTwo.f k r u l m = some (aTwo r u l m) := by
  unfold impl_RangeOfTwo.f aTwo
  rw [RangeI k r l hk, RangeI k u m hk]; simp only [Option.bind_some]
  unfold aRange
  by_cases c : GG r l
  · rw [if_pos c]
    by_cases d : GG u m
    · rw [if_pos d]; simp only [if_true]
      by_cases e : mx (sm l * r) (sm m * u) > mn (sm l * r + r - 1) (sm m * u + u - 1)
      · rw [if_pos e, if_neg (fun h => by have := h.2.2; omega)]
      · rw [if_neg e, if_pos ⟨c, d, by omega⟩]
    · rw [if_neg d]; simp [d]
  · rw [if_neg c]; simp [c]
theorem TwoS (k : Nat) (r u : Int) (l m : List Int) (hk : 201 < k) : spec_RangeOfTwo.f k r u l m = some (aTwo r u l m) := by
  obtain ⟨k, rfl⟩ : ∃ m, k = m + 1 := ⟨k - 1, by omega⟩
  unfold spec_RangeOfTwo.f aTwo
  rw [gaugeS _ r l (by omega), gaugeS _ u m (by omega)]; simp only [Option.bind_some]
  by_cases c : GG r l
  · rw [decide_eq_true c, if_pos rfl]
    by_cases d : GG u m
    · rw [decide_eq_true d]
      simp only [spec_RangeOfTwo.j0, Bool.not_true, Bool.false_eq_true, if_false]
      rw [veSum_f k l (by omega) c.so, veSum_f k m (by omega) d.so]; simp only [Option.bind_some]
      have b := mul_le c.so.le.1 c.so.le.2 c.1.1 c.1.2
      have b2 := mul_le d.so.le.1 d.so.le.2 d.1.1 d.1.2
      have := c.1
      have := d.1
      rw [Int.mul_comm r, Int.mul_comm u]
      generalize sm l * r = q at b ⊢
      generalize sm m * u = p at b2 ⊢
      rw [w64 (x := q) (by omega) (by omega), w64 (x := p) (by omega) (by omega), w64 (x := q + r) (by omega) (by omega), w64 (x := p + u) (by omega) (by omega)]
      have e1 : spec_l1Most.f q p = some (mx q p) := by
        unfold spec_l1Most.f mx
        by_cases h : q > p
        · rw [if_pos h, if_neg (by omega)]
        · rw [if_neg h]; by_cases h2 : q < p
          · rw [if_pos h2]
          · rw [if_neg h2]; congr 1; omega
      have e2 : spec_l1Least.f (q + r) (p + u) = some (mn (q + r - 1) (p + u - 1) + 1) := by
        unfold spec_l1Least.f mn
        by_cases h : q + r < p + u
        · rw [if_pos h, if_neg (by omega)]; congr 1; omega
        · rw [if_neg h]; by_cases h2 : p + u - 1 < q + r - 1
          · rw [if_pos h2]; congr 1; omega
          · rw [if_neg h2]; congr 1; omega
      rw [e1, e2]; simp only [Option.bind_some]
      have bm : -1 ≤ mn (q + r - 1) (p + u - 1) ∧ mn (q + r - 1) (p + u - 1) ≤ 60000060 := by unfold mn; split <;> omega
      rw [show mn (q + r - 1) (p + u - 1) + 1 - 1 = mn (q + r - 1) (p + u - 1) by omega, w64 (x := mn (q + r - 1) (p + u - 1)) (by omega) (by omega)]
      by_cases e : mx q p > mn (q + r - 1) (p + u - 1)
      · rw [if_pos e, if_neg (fun h => by have := h.2.2; omega)]
      · rw [if_neg e, if_pos ⟨c, d, by omega⟩]
    · rw [decide_eq_false d]
      simp only [spec_RangeOfTwo.j0, Bool.not_false, if_true]
      rw [if_neg (fun h => d h.2.1)]
  · rw [decide_eq_false c, if_neg (by simp), if_neg (fun h => c h.1)]
    simp only [spec_RangeOfTwo.j0, if_true]
theorem made_l0 (F : Nat → Int → List Int → List Int → Int → Int → Option (List Int × Bool)) (E : Nat → List Int → Option (List Int × Bool)) (r : Int) (hF : ∀ k acc l n i, F (k + 1) r acc l n i = if i < n then (if 0 ≤ i then (if i < (l.length : Int) then (if acc.length < 17592186044416 then F k r (acc ++ [wrap64 (rd l i * r)]) l n (wrap64 (i + 1)) else none) else none) else none) else E k acc)
    (hr : 1 ≤ r ∧ r ≤ 60) (l : List Int) (S : SmO l) : ∀ (d k i : Nat) (acc : List Int), i + d = l.length → d < k → acc.length = i → F k r acc l (l.length : Int) (i : Int) = E (k - d - 1) (acc ++ (l.drop i).map (· * r)) := by
  intro d
  induction d with
  | zero =>
    intro k i acc hi hk ha
    obtain ⟨k, rfl⟩ : ∃ m, k = m + 1 := ⟨k - 1, by omega⟩
    rw [hF, if_neg (by omega), List.drop_of_length_le (by omega)]; simp
  | succ d ih =>
    intro k i acc hi hk ha
    obtain ⟨k, rfl⟩ : ∃ m, k = m + 1 := ⟨k - 1, by omega⟩
    have hl := S.1
    have hc := S.cell i (by omega)
    have b := mul_le hc.1 (by omega) hr.1 hr.2
    rw [hF, if_pos (by omega), if_pos (by omega), if_pos (by omega), if_pos (by omega), w64 (x := rd l (i : Int) * r) (by omega) (by omega), w64 (x := (i : Int) + 1) (by omega) (by omega),
      show ((i : Int) + 1) = ((i + 1 : Nat) : Int) by simp, ih k (i + 1) _ (by omega) (by omega) (by simp [ha]), drop_rd l i (by omega)]
    simp only [List.map_cons, List.append_assoc, List.cons_append, List.nil_append]
    congr 1; omega
theorem MadeI (k : Nat) (r : Int) (l : List Int) (hk : 200 < k) : impl_RainOfTips.f k r l = some (aMade r l) := by
  unfold impl_RainOfTips.f aMade
  rw [gaugeI]; simp only [Option.bind_some]
  by_cases c : GG r l
  · have := c.2.1
    rw [decide_eq_true c, if_pos rfl]
    have := made_l0 impl_RainOfTips.l0 (fun _ x6 => (impl_isGauge.f r x6).bind fun t228 => (if t228 = true then (some (x6, true)) else (some (([] : List Int), false)))) r (fun k acc l n i => by simp only [impl_RainOfTips.l0]) c.1 l c.so l.length k 0 [] (by omega) (by omega) rfl
    rw [show ((0 : Nat) : Int) = 0 from rfl] at this
    rw [this]; simp only [List.nil_append, List.drop_zero]
    rw [gaugeI]; simp only [Option.bind_some]
    by_cases d : GG r (l.map (· * r))
    · rw [decide_eq_true d, if_pos rfl, if_pos ⟨c, d⟩]
    · rw [decide_eq_false d, if_neg (by simp), if_neg (fun h => d h.2)]
  · rw [decide_eq_false c, if_neg (by simp), if_neg (fun h => c h.1)]
theorem MadeS (k : Nat) (r : Int) (l : List Int) (hk : 400 < k) : spec_RainOfTips.f k r l = some (aMade r l) := by
  unfold spec_RainOfTips.f aMade
  rw [gaugeS k r l (by omega)]; simp only [Option.bind_some]
  by_cases c : GG r l
  · have hl := c.2.1
    rw [decide_eq_true c, if_pos rfl]
    have := made_l0 spec_RainOfTips.l0 (fun k x6 => (spec_l1All.f k x6 0 10000).bind fun t234 => (if t234 = true then (some (x6, true)) else (some (([] : List Int), false)))) r (fun k acc l n i => by simp only [spec_RainOfTips.l0]) c.1 l c.so l.length k 0 [] (by omega) (by omega) rfl
    rw [show ((0 : Nat) : Int) = 0 from rfl] at this
    rw [this]; simp only [List.nil_append, List.drop_zero]
    rw [all_f _ _ 0 10000 (by simp; omega) (by simp; omega)]; simp only [Option.bind_some]
    by_cases d : GG r (l.map (· * r))
    · rw [if_pos (by rw [List.all_eq_true]; intro x hx; simpa using d.2.2 x hx), if_pos ⟨c, d⟩]
    · rw [if_neg (fun h => d ⟨c.1, by simpa using hl, fun x hx => by rw [List.all_eq_true] at h; simpa using h x hx⟩), if_neg (fun h => d h.2)]
  · rw [decide_eq_false c, if_neg (by simp), if_neg (fun h => c h.1)]
end Go.Proofs.Ytmlkdkeocbhajaa.PuB
