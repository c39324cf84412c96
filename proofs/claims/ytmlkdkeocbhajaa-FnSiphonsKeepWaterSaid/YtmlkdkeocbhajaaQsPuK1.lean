/- Plain functions and what they come to. -/
import Derived.Laws.BitsLemmas
import Derived.Test.YtmlkdkeocbhajaaQsKx5
namespace Go.Proofs.Ytmlkdkeocbhajaa.PuB
open Go.RowKit Go.Proofs.Ytmlkdkeocbhajaa.K Go.Proofs.YtmlkdkeocbhajaaW.PrintLast Go.Proofs.YtmlkdkeocbhajaaW.PrintMore
open Go.Proofs.YtmlkdkeocbhajaaW.PrintWords hiding Ev
set_option linter.unusedVariables false
set_option linter.unusedSimpArgs false
theorem w64 {x : Int} (h0 : -9223372036854775808 ≤ x) (h1 : x ≤ 9223372036854775807) : wrap64 x = x := by
  unfold wrap64; omega
/-- With enough rounds the answer is r. -/
def Ev {β : Type} (f : Nat → Option β) (r : β) : Prop := ∃ K, ∀ k, K < k → f k = some r
theorem Ev.succ {β : Type} {f : Nat → Option β} {r : β} (h : Ev (fun k => f (k + 1)) r) : Ev f r := by
  obtain ⟨K, h⟩ := h
  refine ⟨K + 1, fun k hk => ?_⟩
  obtain ⟨k, rfl⟩ : ∃ m, k = m + 1 := ⟨k - 1, by omega⟩
  exact h k (by omega)
theorem Ev.bind {α β : Type} {f : Nat → Option α} {g : Nat → α → Option β} {x : α} {r : β} (h1 : Ev f x) (h2 : Ev (fun k => g k x) r) : Ev (fun k => (f k).bind (g k)) r := by
  obtain ⟨K1, h1⟩ := h1
  obtain ⟨K2, h2⟩ := h2
  exact ⟨K1 + K2, fun k hk => by show (f k).bind (g k) = some r; rw [h1 k (by omega)]; exact h2 k (by omega)⟩
theorem in_spec (a b c : Int) : spec_l1In.f a b c = some (decide (b ≤ a ∧ a ≤ c)) := by
  unfold spec_l1In.f
  by_cases h : a ≥ b
  · rw [if_pos h]; congr 1; simp [show b ≤ a from h]
  · rw [if_neg h]; congr 1; simp [show ¬ b ≤ a from h]
theorem in_impl (a b c : Int) : impl_within.f a b c = some (decide (b ≤ a ∧ a ≤ c)) := by
  unfold impl_within.f
  by_cases h : b ≤ a
  · rw [if_pos h]; congr 1; simp [h]
  · rw [if_neg h]; congr 1; simp [h]
theorem rd_nat (l : List Int) (i : Nat) : rd l (i : Int) = l.getD i 0 := by unfold rd; simp
theorem drop_rd (l : List Int) (i : Nat) (h : i < l.length) : l.drop i = rd l (i : Int) :: l.drop (i + 1) := by
  rw [rd_nat, List.drop_eq_getElem_cons h]; simp [h]
theorem all_l0 (lo hi : Int) (l : List Int) (hb : l.length ≤ 17592186044416) : ∀ (d k i : Nat), i + d = l.length → d < k →
    spec_l1All.l0 k lo hi l (l.length : Int) (i : Int) = some ((l.drop i).all fun x => decide (lo ≤ x ∧ x ≤ hi)) := by
  intro d
  induction d with
  | zero =>
    intro k i hi hk
    obtain ⟨k, rfl⟩ : ∃ m, k = m + 1 := ⟨k - 1, by omega⟩
    simp only [spec_l1All.l0]; rw [if_neg (by omega), List.drop_of_length_le (by omega)]; rfl
  | succ d ih =>
    intro k i hi hk
    obtain ⟨k, rfl⟩ : ∃ m, k = m + 1 := ⟨k - 1, by omega⟩
    simp only [spec_l1All.l0]
    rw [if_pos (by omega), if_pos (by omega), if_pos (by omega), in_spec, drop_rd l i (by omega)]
    simp only [Option.bind_some, List.all_cons]
    have ih' := ih k (i + 1) (by omega) (by omega)
    rw [w64 (by omega) (by omega), show ((i : Int) + 1) = ((i + 1 : Nat) : Int) by simp]
    split
    · rename_i h; rw [ih', h, Bool.true_and]
    · rename_i h; rw [Bool.eq_false_iff.mpr h, Bool.false_and]
theorem all_f (k : Nat) (l : List Int) (lo hi : Int) (hb : l.length ≤ 17592186044416) (hk : l.length < k) : spec_l1All.f k l lo hi = some (l.all fun x => decide (lo ≤ x ∧ x ≤ hi)) := by
  unfold spec_l1All.f
  have := all_l0 lo hi l hb l.length k 0 (by omega) hk
  simpa using this
theorem u64_wrap (n : Int) : IntKind.u64.wrap n = n % 18446744073709551616 := by simp [IntKind.wrap, IntKind.bits, IntKind.signed]
theorem u64_and255 (x : Int) (h0 : 0 ≤ x) (h1 : x < 18446744073709551616) : Go.bits .and .u64 x 255 = x % 256 :=
  bits_mask .u64 64 (by decide) (fun n a b => by rw [u64_wrap]; omega) 8 (by decide) x h0 h1
/-- the drawn bytes -/
def Bytes (l : List Int) : Prop := (∀ x ∈ l, 0 ≤ x ∧ x ≤ 255) ∧ l.length ≤ 140737488351232
theorem bytes_of (l : List Int) (h : l.length * 1 ≤ 140737488351232) (hw : ∀ x ∈ l, (Lit.int .u8 x).wf = true) : Bytes l := by
  refine ⟨fun x hx => ?_, by omega⟩
  have := hw x hx
  simp only [Lit.wf, IntKind.min, IntKind.max, IntKind.signed, IntKind.bits, Bool.and_eq_true, decide_eq_true_eq, Bool.false_eq_true, if_false] at this
  omega
theorem bytes_rd {l : List Int} (h : Bytes l) (i : Int) : 0 ≤ rd l i ∧ rd l i ≤ 255 := by
  unfold rd
  rw [List.getD_eq_getElem?_getD]
  cases e : l[i.toNat]? with
  | none => simp
  | some x => exact h.1 x (List.mem_of_getElem? e)
theorem next_ok {l : List Int} (h : Bytes l) (p s : Int) (h0 : 0 ≤ p) (h1 : p ≤ 1000000000000000000) : ∃ r s', spec_l1Cur_next.f l p s = some (r, p + 1, s') ∧ 0 ≤ r ∧ r ≤ 255 := by
  have hl := h.2
  unfold spec_l1Cur_next.f
  rw [w64 (x := p + 1) (by omega) (by omega)]
  by_cases c : p < (l.length : Int)
  · have hb := bytes_rd h p
    rw [if_pos c, if_pos h0, if_pos (by omega), w64 (x := rd l p) (by omega) (by omega)]
    exact ⟨_, _, rfl, hb.1, hb.2⟩
  · rw [if_neg c, if_neg (by omega)]
    refine ⟨_, _, rfl, ?_⟩
    generalize hx : IntKind.u64.wrap _ = x
    have hx0 : 0 ≤ x ∧ x < 18446744073709551616 := by rw [← hx, u64_wrap]; omega
    have hd : 0 ≤ x / 1099511627776 ∧ x / 1099511627776 < 18446744073709551616 := by omega
    rw [u64_and255 _ hd.1 hd.2, w64 (by omega) (by omega)]; omega
theorem pick_ok {l : List Int} (h : Bytes l) (p s n : Int) (h0 : 0 ≤ p) (h1 : p ≤ 100000000000000000) (hn : n ≤ 60000) :
    ∃ r p' s', spec_l1Cur_pick.f l p s n = some (r, p', s') ∧ p ≤ p' ∧ p' ≤ p + 2 ∧ 0 ≤ r ∧ (1 ≤ n → r < n) := by
  unfold spec_l1Cur_pick.f
  by_cases c : n ≤ 1
  · rw [if_pos c]; exact ⟨_, _, _, rfl, by omega, by omega, by omega, fun _ => by omega⟩
  · rw [if_neg c]
    obtain ⟨r, s1, e, r0, r1⟩ := next_ok h p s h0 (by omega)
    rw [e]; simp only [Option.bind_some]
    by_cases d : n > 200
    · rw [if_pos d]
      obtain ⟨u, s2, e2, u0, u1⟩ := next_ok h (p + 1) s1 (by omega) (by omega)
      rw [e2]; simp only [Option.bind_some]
      rw [if_neg (by omega), w64 (x := r * 256) (by omega) (by omega), w64 (by omega) (by omega)]
      refine ⟨_, _, _, rfl, by omega, by omega, ?_, fun _ => ?_⟩
      · exact Int.tmod_nonneg _ (by omega)
      · exact Int.tmod_lt_of_pos _ (by omega)
    · rw [if_neg d, if_neg (by omega)]
      refine ⟨_, _, _, rfl, by omega, by omega, ?_, fun _ => ?_⟩
      · exact Int.tmod_nonneg _ (by omega)
      · exact Int.tmod_lt_of_pos _ (by omega)
theorem among_ok {l : List Int} (h : Bytes l) (p s : Int) (xs : List Int) (h0 : 0 ≤ p) (h1 : p ≤ 100000000000000000) (hx : 1 ≤ xs.length) (hx2 : xs.length ≤ 200) :
    ∃ r p' s', spec_l1Cur_among.f l p s xs = some (r, p', s') ∧ p ≤ p' ∧ p' ≤ p + 2 ∧ r ∈ xs := by
  unfold spec_l1Cur_among.f
  obtain ⟨r, p', s', e, a, b, c, d⟩ := pick_ok h p s (xs.length : Int) h0 h1 (by omega)
  have d := d (by omega)
  rw [e]; simp only [Option.bind_some]
  rw [if_pos c, if_pos d]
  refine ⟨_, _, _, rfl, a, b, ?_⟩
  unfold rd
  rw [List.getD_eq_getElem?_getD, List.getElem?_eq_getElem (by omega)]
  exact List.getElem_mem _
theorem one_ok {l : List Int} (h : Bytes l) (p s n : Int) (h0 : 0 ≤ p) (h1 : p ≤ 100000000000000000) (hn : n ≤ 60000) :
    ∃ b p' s', spec_l1Cur_one.f l p s n = some (b, p', s') ∧ p ≤ p' ∧ p' ≤ p + 2 := by
  unfold spec_l1Cur_one.f
  obtain ⟨r, p', s', e, a, b, _⟩ := pick_ok h p s n h0 h1 hn
  rw [e]; exact ⟨_, _, _, rfl, a, b⟩
def sm (l : List Int) : Int := l.foldr (fun x s => x + s) 0
/-- numbers that may be summed up -/
def SmO (l : List Int) : Prop := l.length ≤ 100 ∧ ∀ x ∈ l, 0 ≤ x ∧ x ≤ 10000
theorem SmO.drop {l : List Int} (h : SmO l) (n : Nat) : SmO (l.drop n) := ⟨by have := h.1; simp; omega, fun x hx => h.2 x (List.mem_of_mem_drop hx)⟩
theorem SmO.take {l : List Int} (h : SmO l) (n : Nat) : SmO (l.take n) := ⟨by have := h.1; simp; omega, fun x hx => h.2 x (List.mem_of_mem_take hx)⟩
theorem sm_le : ∀ (l : List Int), (∀ x ∈ l, 0 ≤ x ∧ x ≤ 10000) → 0 ≤ sm l ∧ sm l ≤ 10000 * (l.length : Int)
  | [], _ => by simp [sm]
  | x :: l, h => by
    have h1 := h x (List.mem_cons_self ..)
    have h2 := sm_le l (fun y hy => h y (List.mem_cons_of_mem _ hy))
    have e : sm (x :: l) = x + sm l := rfl
    rw [e]; simp only [List.length_cons]; omega
theorem SmO.le {l : List Int} (h : SmO l) : 0 ≤ sm l ∧ sm l ≤ 1000000 := by have := sm_le l h.2; have := h.1; omega
theorem SmO.cell {l : List Int} (h : SmO l) (i : Nat) (hi : i < l.length) : 0 ≤ rd l (i : Int) ∧ rd l (i : Int) ≤ 10000 := by
  rw [rd_nat]; simp [hi]; exact h.2 _ (List.getElem_mem hi)
theorem sum_l0 (F : Nat → Int → List Int → Int → Int → Option Int) (hF : ∀ k s l n i, F (k + 1) s l n i = if i < n then (if 0 ≤ i then (if i < (l.length : Int) then F k (wrap64 (s + rd l i)) l n (wrap64 (i + 1)) else none) else none) else some s)
    (l : List Int) (S : SmO l) : ∀ (d k i : Nat) (s : Int), i + d = l.length → d < k → 0 ≤ s → s ≤ 10000 * (i : Int) → F k s l (l.length : Int) (i : Int) = some (s + sm (l.drop i)) := by
  intro d
  induction d with
  | zero =>
    intro k i s hi hk h0 h1
    obtain ⟨k, rfl⟩ : ∃ m, k = m + 1 := ⟨k - 1, by omega⟩
    rw [hF, if_neg (by omega), List.drop_of_length_le (by omega)]; simp [sm]
  | succ d ih =>
    intro k i s hi hk h0 h1
    obtain ⟨k, rfl⟩ : ∃ m, k = m + 1 := ⟨k - 1, by omega⟩
    have hl := S.1
    have hc := S.cell i (by omega)
    rw [hF, if_pos (by omega), if_pos (by omega), if_pos (by omega), w64 (x := s + rd l (i : Int)) (by omega) (by omega), w64 (x := (i : Int) + 1) (by omega) (by omega),
      show ((i : Int) + 1) = ((i + 1 : Nat) : Int) by simp, ih k (i + 1) _ (by omega) (by omega) (by omega) (by simp; omega), drop_rd l i (by omega)]
    congr 1
    show s + rd l (i : Int) + sm (l.drop (i + 1)) = s + (rd l (i : Int) + sm (l.drop (i + 1)))
    omega
theorem total_f (k : Nat) (l : List Int) (hk : 200 < k) (S : SmO l) : impl_total.f k l = some (sm l) := by
  unfold impl_total.f
  have := sum_l0 impl_total.l0 (fun k s l n i => by simp only [impl_total.l0]) l S l.length k 0 0 (by omega) (by have := S.1; omega) (by omega) (by omega)
  simpa using this
theorem eSum_f (k : Nat) (l : List Int) (hk : 200 < k) (S : SmO l) : laws_eSum.f k l = some (sm l) := by
  unfold laws_eSum.f
  have := sum_l0 laws_eSum.l0 (fun k s l n i => by simp only [laws_eSum.l0]) l S l.length k 0 0 (by omega) (by have := S.1; omega) (by omega) (by omega)
  simpa using this
def SG (a b c d : Int) : Prop := (1 ≤ a ∧ a ≤ 60) ∧ 0 ≤ b ∧ b < c ∧ c ≤ a ∧ (1 ≤ d ∧ d ≤ 60)
instance (a b c d : Int) : Decidable (SG a b c d) := by unfold SG; infer_instance
def LV (a b c d h : Int) : Prop := SG a b c d ∧ 0 ≤ h ∧ h ≤ a
instance (a b c d h : Int) : Decidable (LV a b c d h) := by unfold LV; infer_instance
def InF (x : Int) : Prop := 0 ≤ x ∧ x ≤ 60
instance (x : Int) : Decidable (InF x) := by unfold InF; infer_instance
def Ins (l : List Int) : Prop := l.length ≤ 100 ∧ ∀ x ∈ l, 0 ≤ x ∧ x ≤ 60
instance (l : List Int) : Decidable (Ins l) := by unfold Ins; infer_instance
theorem sipI (a b c d : Int) : impl_IsSiphon.f a b c d = some (decide (SG a b c d)) := by
  unfold impl_IsSiphon.f
  rw [in_impl, in_impl]; simp only [Option.bind_some]
  by_cases h1 : 1 ≤ a ∧ a ≤ 60
  · rw [decide_eq_true h1, if_pos rfl]
    by_cases h2 : b ≥ 0
    · rw [if_pos h2]
      by_cases h3 : b < c
      · rw [if_pos h3]
        by_cases h4 : c ≤ a
        · rw [if_pos h4]; congr 1; refine Bool.eq_iff_iff.mpr ?_; simp [SG, h1, h3, h4, show 0 ≤ b from h2]
        · rw [if_neg h4]; congr 1; symm; exact decide_eq_false fun h => h4 h.2.2.2.1
      · rw [if_neg h3]; congr 1; symm; exact decide_eq_false fun h => h3 h.2.2.1
    · rw [if_neg h2]; congr 1; symm; exact decide_eq_false fun h => h2 h.2.1
  · rw [decide_eq_false h1, if_neg (by simp)]; congr 1; symm; exact decide_eq_false fun h => h1 h.1
theorem sipS (a b c d : Int) : spec_siGood.f a b c d = some (decide (SG a b c d)) := by
  unfold spec_siGood.f
  rw [in_spec, in_spec, in_spec, in_spec]; simp only [Option.bind_some]
  by_cases h1 : 1 ≤ a ∧ a ≤ 60
  · rw [decide_eq_true h1, if_pos rfl, w64 (x := a - 1) (by omega) (by omega)]
    by_cases h2 : 0 ≤ b ∧ b ≤ a - 1
    · rw [decide_eq_true h2, if_pos rfl, w64 (x := b + 1) (by omega) (by omega)]
      by_cases h3 : b + 1 ≤ c ∧ c ≤ a
      · rw [decide_eq_true h3, if_pos rfl]; congr 1; refine Bool.eq_iff_iff.mpr ?_; simp [SG, h1, h3, h2, show b < c by omega]
      · rw [decide_eq_false h3, if_neg (by simp)]; congr 1; symm; exact decide_eq_false fun h => h3 (by have := h.2; omega)
    · rw [decide_eq_false h2, if_neg (by simp)]; congr 1; symm; exact decide_eq_false fun h => h2 (by have := h.2; omega)
  · rw [decide_eq_false h1, if_neg (by simp)]; congr 1; symm; exact decide_eq_false fun h => h1 h.1
def aIs (a b c d h : Int) : Bool × Bool := if SG a b c d then (decide (0 ≤ h ∧ h ≤ a), true) else (false, false)
theorem isLvI (a b c d h : Int) (r : Bool) : impl_IsSiphonLevel.f a b c d h r = some (aIs a b c d h) := by
  unfold impl_IsSiphonLevel.f aIs
  rw [sipI, in_impl]; simp only [Option.bind_some]
  by_cases g : SG a b c d
  · rw [decide_eq_true g, if_pos rfl, if_pos g]
  · rw [decide_eq_false g, if_neg (by simp), if_neg g]
theorem lvI (a b c d h : Int) (r : Bool) : impl_isLevel.f a b c d h r = some (decide (LV a b c d h)) := by
  unfold impl_isLevel.f
  rw [isLvI]; simp only [Option.bind_some]; unfold aIs
  by_cases g : SG a b c d
  · rw [if_pos g]; congr 1; refine Bool.eq_iff_iff.mpr ?_; simp [LV, g]
  · rw [if_neg g]; congr 1; symm; exact decide_eq_false fun h => g h.1
theorem lvS (a b c d h : Int) (r : Bool) : spec_siLevel.f a b c d h r = some (decide (LV a b c d h)) := by
  unfold spec_siLevel.f
  rw [sipS, in_spec]; simp only [Option.bind_some]
  by_cases g : SG a b c d
  · rw [decide_eq_true g, if_pos rfl]; congr 1; refine Bool.eq_iff_iff.mpr ?_; simp [LV, g]
  · rw [decide_eq_false g, if_neg (by simp)]; congr 1; symm; exact decide_eq_false fun h => g h.1
theorem isLvS (a b c d h : Int) (r : Bool) : spec_IsSiphonLevel.f a b c d h r = some (aIs a b c d h) := by
  unfold spec_IsSiphonLevel.f aIs
  rw [sipS, lvS]; simp only [Option.bind_some]
  by_cases g : SG a b c d
  · rw [decide_eq_true g, if_pos rfl, if_pos g]; congr 2; refine Bool.eq_iff_iff.mpr ?_; simp [LV, g]
  · rw [decide_eq_false g, if_neg (by simp), if_neg g]
theorem insI (l : List Int) : impl_areInflows.f l = some (decide (Ins l)) := by
  unfold impl_areInflows.f impl_areWithin.f
  by_cases b : (l.length : Int) ≤ 100
  · rw [if_pos b]; simp only [Option.bind_some]; congr 1; refine Bool.eq_iff_iff.mpr ?_
    simp [Ins, show l.length ≤ 100 by omega]
  · rw [if_neg b]; congr 1; symm; refine decide_eq_false fun h => b (by have := h.1; omega)
theorem askS (k : Nat) (a b c d h : Int) (r : Bool) (l : List Int) (hk : 200 < k) : spec_siAsked.f k a b c d h r l = some (decide (LV a b c d h ∧ Ins l)) := by
  unfold spec_siAsked.f
  rw [lvS]; simp only [Option.bind_some]
  by_cases g : LV a b c d h
  · rw [decide_eq_true g, if_pos rfl]
    by_cases b : (l.length : Int) ≤ 100
    · rw [if_pos b, all_f k l 0 60 (by omega) (by omega)]; simp only [Option.bind_some]; congr 1; refine Bool.eq_iff_iff.mpr ?_
      simp [Ins, g, show l.length ≤ 100 by omega]
    · rw [if_neg b]; congr 1; symm; refine decide_eq_false fun h => b (by have := h.2.1; omega)
  · rw [decide_eq_false g, if_neg (by simp)]; congr 1; symm; exact decide_eq_false fun h => g h.1
/-- one tick: what is held behind it, whether it runs, what has run out, what is spilt -/
def tk2 (b c d g s : Int) (r : Bool) : Int × Bool × Int × Int := if r = true ∨ g ≥ c then (g - mn d (mx 0 (g - b)), decide (g - mn d (mx 0 (g - b)) > b), mn d (mx 0 (g - b)), s) else (g, false, 0, s)
def tk (a b c d h : Int) (r : Bool) (x : Int) : Int × Bool × Int × Int := tk2 b c d (h + x - mx 0 (h + x - a)) (mx 0 (h + x - a)) r
theorem tk_ok {a b c d h x : Int} (r : Bool) (g : LV a b c d h) (i : InF x) : (0 ≤ (tk a b c d h r x).1 ∧ (tk a b c d h r x).1 ≤ a) ∧ (0 ≤ (tk a b c d h r x).2.2.1 ∧ (tk a b c d h r x).2.2.1 ≤ d) ∧ (0 ≤ (tk a b c d h r x).2.2.2 ∧ (tk a b c d h r x).2.2.2 ≤ 60) ∧
    h + x = (tk a b c d h r x).1 + (tk a b c d h r x).2.2.1 + (tk a b c d h r x).2.2.2 ∧ ((tk a b c d h r x).2.1 = true → (tk a b c d h r x).1 > b) := by
  obtain ⟨⟨⟨a1, a2⟩, b1, c1, c2, d1, d2⟩, h1, h2⟩ := g
  obtain ⟨x1, x2⟩ := i
  unfold tk tk2
  have s0 : 0 ≤ mx 0 (h + x - a) ∧ h + x - a ≤ mx 0 (h + x - a) ∧ (mx 0 (h + x - a) = 0 ∨ mx 0 (h + x - a) = h + x - a) := by unfold mx; split <;> omega
  generalize mx 0 (h + x - a) = s at s0 ⊢
  split
  · have o0 : 0 ≤ mn d (mx 0 (h + x - s - b)) ∧ mn d (mx 0 (h + x - s - b)) ≤ d ∧ (mn d (mx 0 (h + x - s - b)) = 0 ∨ mn d (mx 0 (h + x - s - b)) ≤ h + x - s - b) := by unfold mn mx; split <;> split <;> omega
    generalize mn d (mx 0 (h + x - s - b)) = o at o0 ⊢
    refine ⟨by simp only []; omega, by simp only []; omega, by simp only []; omega, by simp only []; omega, ?_⟩
    simp
  · refine ⟨by simp only []; omega, by simp only []; omega, by simp only []; omega, by simp only []; omega, ?_⟩
    simp
theorem tickI {a b c d h x : Int} (r : Bool) (g : LV a b c d h) (i : InF x) : impl_Siphon_tick.f a b c d h r x = some (tk a b c d h r x) := by
  obtain ⟨⟨⟨a1, a2⟩, b1, c1, c2, d1, d2⟩, h1, h2⟩ := g
  obtain ⟨x1, x2⟩ := i
  have s0 : 0 ≤ mx 0 (h + x - a) ∧ mx 0 (h + x - a) ≤ 120 := by unfold mx; split <;> omega
  have o0 : 0 ≤ mn d (mx 0 (h + x - mx 0 (h + x - a) - b)) ∧ mn d (mx 0 (h + x - mx 0 (h + x - a) - b)) ≤ 60 := by unfold mn mx; split <;> split <;> omega
  unfold impl_Siphon_tick.f tk tk2
  rw [w64 (x := h + x) (by omega) (by omega), w64 (x := h + x - a) (by omega) (by omega)]
  generalize mx 0 (h + x - a) = s at s0 o0 ⊢
  rw [w64 (x := h + x - s) (by omega) (by omega), w64 (x := h + x - s - b) (by omega) (by omega)]
  generalize mn d (mx 0 (h + x - s - b)) = o at o0 ⊢
  rw [w64 (x := h + x - s - o) (by omega) (by omega)]
  cases r with
  | true => simp
  | false =>
    rw [if_neg (by simp)]
    by_cases e : h + x - s ≥ c
    · rw [if_pos e]; simp [e]
    · rw [if_neg e]; simp [e]
theorem tickS {a b c d h x : Int} (k : Nat) (r : Bool) (hk : 3 < k) (g : LV a b c d h) (i : InF x) : spec_siTick.f k a b c d h r x = some (tk a b c d h r x) := by
  obtain ⟨k, rfl⟩ : ∃ m, k = m + 2 := ⟨k - 2, by omega⟩
  obtain ⟨⟨⟨a1, a2⟩, b1, c1, c2, d1, d2⟩, h1, h2⟩ := g
  obtain ⟨x1, x2⟩ := i
  have st : ∀ (g s : Int), 0 ≤ g → g ≤ 60 → spec_siTick.j0 (k + 2) g s a b c d h r = some (tk2 b c d g s r) := by
    intro g s g0 g1
    have m1 : spec_l1Most.f (wrap64 (g - b)) 0 = some (mx 0 (g - b)) := by
      rw [w64 (by omega) (by omega)]; unfold spec_l1Most.f mx
      by_cases e : g - b > 0
      · rw [if_pos e, if_pos (by omega)]
      · rw [if_neg e, if_neg (by omega)]
    have m2 : spec_l1Least.f d (mx 0 (g - b)) = some (mn d (mx 0 (g - b))) := by
      unfold spec_l1Least.f mn
      generalize mx 0 (g - b) = q
      by_cases e : d < q
      · rw [if_pos e, if_neg (by omega)]
      · rw [if_neg e]; by_cases e2 : q < d
        · rw [if_pos e2]
        · rw [if_neg e2]; congr 1; omega
    have o0 : 0 ≤ mn d (mx 0 (g - b)) ∧ mn d (mx 0 (g - b)) ≤ 60 := by unfold mn mx; split <;> split <;> omega
    have j1 : spec_siTick.j1 (k + 1) g s true a b c d = some (g - mn d (mx 0 (g - b)), decide (g - mn d (mx 0 (g - b)) > b), mn d (mx 0 (g - b)), s) := by
      simp only [spec_siTick.j1, if_true]
      rw [m1]; simp only [Option.bind_some]
      rw [m2]; simp only [Option.bind_some]
      rw [w64 (by omega) (by omega)]
    have j2 : spec_siTick.j1 (k + 1) g s false a b c d = some (g, false, 0, s) := by
      simp only [spec_siTick.j1, Bool.false_eq_true, if_false]
    simp only [spec_siTick.j0]
    unfold tk2
    cases r with
    | true => rw [if_pos rfl, j1]; simp
    | false =>
      rw [if_neg (by simp)]
      by_cases e : g ≥ c
      · rw [decide_eq_true e, j1]; simp [e]
      · rw [decide_eq_false e, j2]; simp [e]
  unfold spec_siTick.f tk
  rw [w64 (x := h + x) (by omega) (by omega)]
  by_cases e : h + x > a
  · rw [if_pos e, w64 (by omega) (by omega), st _ _ (by omega) (by omega)]
    have : mx 0 (h + x - a) = h + x - a := by unfold mx; rw [if_pos (by omega)]
    rw [this, show h + x - (h + x - a) = a by omega]
  · rw [if_neg e, st _ _ (by omega) (by omega)]
    have : mx 0 (h + x - a) = 0 := by unfold mx; rw [if_neg (by omega)]
    rw [this, show h + x - 0 = h + x by omega]
/-- what happens tick by tick -/
def rn (a b c d : Int) : Int → Bool → List Int → List (S102 × Int × Int)
  | _, _, [] => []
  | h, r, x :: l => (⟨(tk a b c d h r x).1, (tk a b c d h r x).2.1⟩, (tk a b c d h r x).2.2.1, (tk a b c d h r x).2.2.2) :: rn a b c d (tk a b c d h r x).1 (tk a b c d h r x).2.1 l
theorem rn_len (a b c d : Int) : ∀ (l : List Int) (h : Int) (r : Bool), (rn a b c d h r l).length = l.length
  | [], _, _ => rfl
  | x :: l, h, r => by simp [rn, rn_len a b c d l]
theorem drop_in {l : List Int} (S : Ins l) (i : Nat) (h : i < l.length) : InF (rd l (i : Int)) := by
  rw [rd_nat]; simp [h]; exact S.2 _ (List.getElem_mem h)
theorem runI_l0 {a b c d : Int} (l : List Int) (S : Ins l) : ∀ (m k i : Nat) (h : Int) (r : Bool) (L : List S102) (O P : List Int), LV a b c d h → i + m = l.length → m < k → L.length = i + 1 → O.length = i → P.length = i →
    impl_Siphon_run.l0 k l (l.length : Int) (i : Int) a b c d h r L O P = some (L ++ (rn a b c d h r (l.drop i)).map (·.1), O ++ (rn a b c d h r (l.drop i)).map (·.2.1), P ++ (rn a b c d h r (l.drop i)).map (·.2.2)) := by
  intro m
  induction m with
  | zero =>
    intro k i h r L O P g hi hk e1 e2 e3
    obtain ⟨k, rfl⟩ : ∃ m, k = m + 1 := ⟨k - 1, by omega⟩
    simp only [impl_Siphon_run.l0]; rw [if_neg (by omega), List.drop_of_length_le (by omega)]; simp [rn]
  | succ m ih =>
    intro k i h r L O P g hi hk e1 e2 e3
    obtain ⟨k, rfl⟩ : ∃ m, k = m + 1 := ⟨k - 1, by omega⟩
    have hl := S.1
    have hx := drop_in S i (by omega)
    have t := tk_ok r g hx
    simp only [impl_Siphon_run.l0]
    rw [if_pos (by omega), if_pos (by omega), if_pos (by omega), tickI r g hx]; simp only [Option.bind_some, List.length_singleton]
    rw [if_pos (by omega), if_pos (by omega), if_pos (by omega), w64 (x := (i : Int) + 1) (by omega) (by omega), show ((i : Int) + 1) = ((i + 1 : Nat) : Int) by simp,
      ih k (i + 1) _ _ _ _ _ ⟨g.1, t.1⟩ (by omega) (by omega) (by simp [e1]) (by simp [e2]) (by simp [e3]), drop_rd l i (by omega)]
    simp [rn]
theorem runS_l0 {a b c d : Int} (l : List Int) (S : Ins l) : ∀ (m k i : Nat) (h : Int) (r : Bool) (L : List S102) (O : List Int) (s : Int), LV a b c d h → i + m = l.length → m + 5 < k → L.length = i + 1 → O.length = i → 0 ≤ s → s ≤ 60 * (i : Int) →
    spec_siRun.l0 k O L s l (l.length : Int) (i : Int) a b c d h r = some (O ++ (rn a b c d h r (l.drop i)).map (·.2.1), L ++ (rn a b c d h r (l.drop i)).map (·.1), s + sm ((rn a b c d h r (l.drop i)).map (·.2.2))) := by
  intro m
  induction m with
  | zero =>
    intro k i h r L O s g hi hk e1 e2 s0 s1
    obtain ⟨k, rfl⟩ : ∃ m, k = m + 1 := ⟨k - 1, by omega⟩
    simp only [spec_siRun.l0]; rw [if_neg (by omega), List.drop_of_length_le (by omega)]; simp [rn, sm]
  | succ m ih =>
    intro k i h r L O s g hi hk e1 e2 s0 s1
    obtain ⟨k, rfl⟩ : ∃ m, k = m + 1 := ⟨k - 1, by omega⟩
    have hl := S.1
    have hx := drop_in S i (by omega)
    have t := tk_ok r g hx
    simp only [spec_siRun.l0]
    rw [if_pos (by omega), if_pos (by omega), if_pos (by omega), tickS k r (by omega) g hx]; simp only [Option.bind_some]
    rw [if_pos (by omega), if_pos (by omega), w64 (x := (i : Int) + 1) (by omega) (by omega), w64 (x := s + _) (by omega) (by omega), show ((i : Int) + 1) = ((i + 1 : Nat) : Int) by simp,
      ih k (i + 1) _ _ _ _ _ ⟨g.1, t.1⟩ (by omega) (by omega) (by simp [e1]) (by simp [e2]) (by omega) (by simp; omega), drop_rd l i (by omega)]
    have e : ∀ (x : Int) (l : List Int), sm (x :: l) = x + sm l := fun _ _ => rfl
    simp [rn, e, Int.add_assoc]
end Go.Proofs.Ytmlkdkeocbhajaa.PuB
