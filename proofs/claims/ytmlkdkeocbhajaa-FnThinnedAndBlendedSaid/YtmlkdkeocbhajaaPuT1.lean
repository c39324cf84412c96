/- Plain functions and what they come to. -/
import Derived.Laws.BitsLemmas
import Derived.Test.YtmlkdkeocbhajaaTx2
namespace Go.Proofs.Ytmlkdkeocbhajaa.PuB
open Go.RowKit Go.Proofs.Ytmlkdkeocbhajaa.T Go.Proofs.YtmlkdkeocbhajaaW.PrintLast Go.Proofs.YtmlkdkeocbhajaaW.PrintMore
open Go.Proofs.YtmlkdkeocbhajaaW.PrintWords hiding Ev
set_option linter.unusedVariables false
set_option linter.unusedSimpArgs false
theorem w64 {x : Int} (h0 : -9223372036854775808 ≤ x) (h1 : x ≤ 9223372036854775807) : wrap64 x = x := by
  unfold wrap64; omega
/-- With enough rounds the answer is r. -/
def Ev {β : Type} (f : Nat → Option β) (r : β) : Prop := ∃ K, ∀ k, K < k → f k = some r
theorem Ev.of {β : Type} {f : Nat → Option β} {r : β} (K : Nat) (h : ∀ k, K < k → f k = some r) : Ev f r := ⟨K, h⟩
theorem Ev.const {β : Type} {x : Option β} {r : β} (h : x = some r) : Ev (fun _ => x) r := ⟨0, fun _ _ => h⟩
theorem Ev.succ {β : Type} {f : Nat → Option β} {r : β} (h : Ev (fun k => f (k + 1)) r) : Ev f r := by
  obtain ⟨K, h⟩ := h
  refine ⟨K + 1, fun k hk => ?_⟩
  obtain ⟨k, rfl⟩ : ∃ m, k = m + 1 := ⟨k - 1, by omega⟩
  exact h k (by omega)
theorem Ev.bind {α β : Type} {f : Nat → Option α} {g : Nat → α → Option β} {x : α} {r : β} (h1 : Ev f x) (h2 : Ev (fun k => g k x) r) : Ev (fun k => (f k).bind (g k)) r := by
  obtain ⟨K1, h1⟩ := h1
  obtain ⟨K2, h2⟩ := h2
  exact ⟨K1 + K2, fun k hk => by show (f k).bind (g k) = some r; rw [h1 k (by omega)]; exact h2 k (by omega)⟩
theorem Ev.pos {β : Type} {c : Prop} [Decidable c] {f g : Nat → Option β} {r : β} (hc : c) (h : Ev f r) : Ev (fun k => if c then f k else g k) r := by
  obtain ⟨K, h⟩ := h
  exact ⟨K, fun k hk => by show (if c then f k else g k) = some r; rw [if_pos hc]; exact h k hk⟩
theorem Ev.neg {β : Type} {c : Prop} [Decidable c] {f g : Nat → Option β} {r : β} (hc : ¬ c) (h : Ev g r) : Ev (fun k => if c then f k else g k) r := by
  obtain ⟨K, h⟩ := h
  exact ⟨K, fun k hk => by show (if c then f k else g k) = some r; rw [if_neg hc]; exact h k hk⟩
theorem Ev.ex {β : Type} {f : Nat → Option β} {r : β} (h : Ev f r) : ∃ k, f k = some r := by
  obtain ⟨K, h⟩ := h
  exact ⟨K + 1, h _ (by omega)⟩
theorem in_spec (a b c : Int) : spec_l1In.f a b c = some (decide (b ≤ a ∧ a ≤ c)) := by
  unfold spec_l1In.f
  by_cases h : a ≥ b
  · rw [if_pos h]; congr 1; simp [show b ≤ a from h]
  · rw [if_neg h]; congr 1; simp [show ¬ b ≤ a from h]
theorem in_impl (a b c : Int) : impl_within.f a b c = some (decide (b ≤ a ∧ a ≤ c)) := by
  unfold impl_within.f
  by_cases h : b ≤ a
  · rw [if_pos h]; congr 1; simp [h]
  · rw [if_neg h]; congr 1; simp [h]
theorem u64_wrap (n : Int) : IntKind.u64.wrap n = n % 18446744073709551616 := by simp [IntKind.wrap, IntKind.bits, IntKind.signed]
theorem u64_and255 (x : Int) (h0 : 0 ≤ x) (h1 : x < 18446744073709551616) : Go.bits .and .u64 x 255 = x % 256 :=
  bits_mask .u64 64 (by decide) (fun n a b => by rw [u64_wrap]; omega) 8 (by decide) x h0 h1
/-- the drawn bytes -/
def Bytes (l : List Int) : Prop := (∀ x ∈ l, 0 ≤ x ∧ x ≤ 255) ∧ l.length ≤ 140737488351232
theorem bytes_of (l : List Int) (h : l.length * 1 ≤ 140737488351232) (hw : ∀ x ∈ l, (Lit.int .u8 x).wf = true) : Bytes l := by
  refine ⟨fun x hx => ?_, by omega⟩
  have := hw x hx
  simp only [Lit.wf, IntKind.min, IntKind.max, IntKind.signed, IntKind.bits, Bool.and_eq_true, decide_eq_true_eq, Bool.false_eq_true, if_false] at this
  omega
theorem bytes_rd {l : List Int} (h : Bytes l) (i : Int) : 0 ≤ rd l i ∧ rd l i ≤ 255 := by
  unfold rd
  rw [List.getD_eq_getElem?_getD]
  cases e : l[i.toNat]? with
  | none => simp
  | some x => exact h.1 x (List.mem_of_getElem? e)
theorem next_ok {l : List Int} (h : Bytes l) (p s : Int) (h0 : 0 ≤ p) (h1 : p ≤ 1000000000000000000) : ∃ r s', spec_l1Cur_next.f l p s = some (r, p + 1, s') ∧ 0 ≤ r ∧ r ≤ 255 := by
  have hl := h.2
  unfold spec_l1Cur_next.f
  rw [w64 (x := p + 1) (by omega) (by omega)]
  by_cases c : p < (l.length : Int)
  · have hb := bytes_rd h p
    rw [if_pos c, if_pos h0, if_pos (by omega), w64 (x := rd l p) (by omega) (by omega)]
    exact ⟨_, _, rfl, hb.1, hb.2⟩
  · rw [if_neg c, if_neg (by omega)]
    refine ⟨_, _, rfl, ?_⟩
    generalize hx : IntKind.u64.wrap _ = x
    have hx0 : 0 ≤ x ∧ x < 18446744073709551616 := by rw [← hx, u64_wrap]; omega
    have hd : 0 ≤ x / 1099511627776 ∧ x / 1099511627776 < 18446744073709551616 := by omega
    rw [u64_and255 _ hd.1 hd.2, w64 (by omega) (by omega)]; omega
theorem pick_ok {l : List Int} (h : Bytes l) (p s n : Int) (h0 : 0 ≤ p) (h1 : p ≤ 100000000000000000) (hn : n ≤ 60000) :
    ∃ r p' s', spec_l1Cur_pick.f l p s n = some (r, p', s') ∧ p ≤ p' ∧ p' ≤ p + 2 ∧ 0 ≤ r ∧ (1 ≤ n → r < n) := by
  unfold spec_l1Cur_pick.f
  by_cases c : n ≤ 1
  · rw [if_pos c]; exact ⟨_, _, _, rfl, by omega, by omega, by omega, fun _ => by omega⟩
  · rw [if_neg c]
    obtain ⟨r, s1, e, r0, r1⟩ := next_ok h p s h0 (by omega)
    rw [e]; simp only [Option.bind_some]
    by_cases d : n > 200
    · rw [if_pos d]
      obtain ⟨u, s2, e2, u0, u1⟩ := next_ok h (p + 1) s1 (by omega) (by omega)
      rw [e2]; simp only [Option.bind_some]
      rw [if_neg (by omega), w64 (x := r * 256) (by omega) (by omega), w64 (by omega) (by omega)]
      refine ⟨_, _, _, rfl, by omega, by omega, ?_, fun _ => ?_⟩
      · exact Int.tmod_nonneg _ (by omega)
      · exact Int.tmod_lt_of_pos _ (by omega)
    · rw [if_neg d, if_neg (by omega)]
      refine ⟨_, _, _, rfl, by omega, by omega, ?_, fun _ => ?_⟩
      · exact Int.tmod_nonneg _ (by omega)
      · exact Int.tmod_lt_of_pos _ (by omega)
theorem among_ok {l : List Int} (h : Bytes l) (p s : Int) (xs : List Int) (h0 : 0 ≤ p) (h1 : p ≤ 100000000000000000) (hx : 1 ≤ xs.length) (hx2 : xs.length ≤ 200) :
    ∃ r p' s', spec_l1Cur_among.f l p s xs = some (r, p', s') ∧ p ≤ p' ∧ p' ≤ p + 2 ∧ r ∈ xs := by
  unfold spec_l1Cur_among.f
  obtain ⟨r, p', s', e, a, b, c, d⟩ := pick_ok h p s (xs.length : Int) h0 h1 (by omega)
  have d := d (by omega)
  rw [e]; simp only [Option.bind_some]
  rw [if_pos c, if_pos d]
  refine ⟨_, _, _, rfl, a, b, ?_⟩
  unfold rd
  rw [List.getD_eq_getElem?_getD, List.getElem?_eq_getElem (by omega)]
  exact List.getElem_mem _
theorem one_ok {l : List Int} (h : Bytes l) (p s n : Int) (h0 : 0 ≤ p) (h1 : p ≤ 100000000000000000) (hn : n ≤ 60000) :
    ∃ b p' s', spec_l1Cur_one.f l p s n = some (b, p', s') ∧ p ≤ p' ∧ p' ≤ p + 2 := by
  unfold spec_l1Cur_one.f
  obtain ⟨r, p', s', e, a, b, _⟩ := pick_ok h p s n h0 h1 hn
  rw [e]; exact ⟨_, _, _, rfl, a, b⟩
theorem gcd_impl : ∀ (n : Nat) (a b : Int), b.natAbs ≤ n → a.natAbs ≤ 9000000000000000000 → b.natAbs ≤ 9000000000000000000 → Ev (fun k => impl_gcd.l0 k a b) ((Int.gcd a b : Nat) : Int)
  | n, a, b, h, ha, hb => by
    refine Ev.succ ?_
    simp only [impl_gcd.l0]
    by_cases c : b = 0
    · subst c
      rw [Int.gcd_zero_right]
      by_cases d : a < 0
      · exact Ev.pos rfl (Ev.pos d (Ev.const (by rw [w64 (by omega) (by omega)]; congr 1; omega)))
      · exact Ev.pos rfl (Ev.neg d (Ev.const (by congr 1; omega)))
    · cases n with
      | zero => exact absurd (Int.natAbs_eq_zero.1 (by omega)) c
      | succ n =>
        have hm := Int.natAbs_tmod a b
        have hlt := Nat.mod_lt a.natAbs (Int.natAbs_pos.2 c)
        have ih := gcd_impl n b (Int.tmod a b) (by omega) hb (by omega)
        have e : Int.gcd b (Int.tmod a b) = Int.gcd a b := by
          unfold Int.gcd; rw [hm, Nat.gcd_comm, ← Nat.gcd_rec, Nat.gcd_comm]
        rw [e] at ih
        exact Ev.neg c ih
theorem gcd_spec : ∀ (n : Nat) (a b : Int), b ≤ n → 0 ≤ a → 0 ≤ b → Ev (fun k => spec_veCommon.l0 k a b) ((Int.gcd a b : Nat) : Int)
  | n, a, b, h, ha, hb => by
    refine Ev.succ ?_
    simp only [spec_veCommon.l0]
    by_cases c : b > 0
    · cases n with
      | zero => omega
      | succ n =>
        have hm := Int.natAbs_tmod a b
        have hlt := Nat.mod_lt a.natAbs (show 0 < b.natAbs by omega)
        have h0 := Int.tmod_nonneg b ha
        have ih := gcd_spec n b (Int.tmod a b) (by omega) hb h0
        have e : Int.gcd b (Int.tmod a b) = Int.gcd a b := by
          unfold Int.gcd; rw [hm, Nat.gcd_comm, ← Nat.gcd_rec, Nat.gcd_comm]
        rw [e] at ih
        exact Ev.pos c (Ev.neg (by omega) ih)
    · have : b = 0 := by omega
      subst this
      rw [Int.gcd_zero_right]
      exact Ev.neg c (Ev.const (by congr 1; omega))
theorem abs_spec (a : Int) (h0 : -9000000000000000000 ≤ a) (h1 : a ≤ 9000000000000000000) : spec_l1Abs.f a = some ((a.natAbs : Nat) : Int) := by
  unfold spec_l1Abs.f spec_l1Most.f
  rw [w64 (by omega) (by omega)]
  by_cases c : a > -a
  · rw [if_pos c]; simp only [Option.bind_some]; congr 1; omega
  · rw [if_neg c]; simp only [Option.bind_some]; congr 1; omega
theorem gcd_abs (a b : Int) : Int.gcd ((a.natAbs : Nat) : Int) b = Int.gcd a b := by unfold Int.gcd; rw [Int.natAbs_natCast]
/-- A ratio in lowest terms. -/
def RQ (a b : Int) : Prop := (-1000000000 ≤ a ∧ a ≤ 1000000000) ∧ (1 ≤ b ∧ b ≤ 1000000000) ∧ Int.gcd a b = 1
instance (a b : Int) : Decidable (RQ a b) := by unfold RQ; infer_instance
theorem isR (a b : Int) : Ev (fun k => impl_IsRatio.f k a b) (decide (RQ a b)) := by
  unfold impl_IsRatio.f impl_gcd.f
  simp only [in_impl, Option.bind_some]
  by_cases c : 1 ≤ b ∧ b ≤ 1000000000
  · by_cases d : -1000000000 ≤ a ∧ a ≤ 1000000000
    · refine Ev.pos (decide_eq_true c) (Ev.pos (decide_eq_true d) (Ev.bind (gcd_impl _ a b (Nat.le_refl _) (by omega) (by omega)) (Ev.const ?_)))
      congr 1
      by_cases e : Int.gcd a b = 1
      · rw [e, decide_eq_true (show RQ a b from ⟨d, c, e⟩)]; rfl
      · rw [decide_eq_false (fun h : RQ a b => e h.2.2)]
        exact beq_eq_false_iff_ne.2 (by omega)
    · rw [decide_eq_false (fun h : RQ a b => d h.1)]
      exact Ev.pos (decide_eq_true c) (Ev.neg (by simpa using d) (Ev.const rfl))
  · rw [decide_eq_false (fun h : RQ a b => c h.2.1)]
    exact Ev.neg (by simpa using c) (Ev.const rfl)
theorem goodR (a b : Int) : Ev (fun k => spec_saGood.f k a b) (decide (RQ a b)) := by
  unfold spec_saGood.f spec_veCommon.f
  simp only [in_spec, Option.bind_some]
  by_cases d : -1000000000 ≤ a ∧ a ≤ 1000000000
  · by_cases c : 1 ≤ b ∧ b ≤ 1000000000
    · rw [abs_spec a (by omega) (by omega)]; simp only [Option.bind_some]
      have G := gcd_spec b.toNat ((a.natAbs : Nat) : Int) b (by omega) (by omega) (by omega)
      rw [gcd_abs] at G
      refine Ev.pos (decide_eq_true d) (Ev.pos (decide_eq_true c) (Ev.bind G (Ev.const ?_)))
      congr 1
      by_cases e : Int.gcd a b = 1
      · rw [e, decide_eq_true (show RQ a b from ⟨d, c, e⟩)]; rfl
      · rw [decide_eq_false (fun h : RQ a b => e h.2.2)]
        exact beq_eq_false_iff_ne.2 (by omega)
    · rw [decide_eq_false (fun h : RQ a b => c h.2.1)]
      exact Ev.pos (decide_eq_true d) (Ev.neg (by simpa using c) (Ev.const rfl))
  · rw [decide_eq_false (fun h : RQ a b => d h.1)]
    exact Ev.neg (by simpa using d) (Ev.const rfl)
/-- A fraction in its lowest terms, and whether it is a ratio. -/
def rat (a b : Int) : Int × Int × Bool := (Int.tdiv a (Int.gcd a b), Int.tdiv b (Int.gcd a b), decide (RQ (Int.tdiv a (Int.gcd a b)) (Int.tdiv b (Int.gcd a b))))
theorem gcd_pos (a b : Int) (hb : 1 ≤ b) : 1 ≤ Int.gcd a b := by
  rcases Nat.eq_zero_or_pos (Int.gcd a b) with h | h
  · have := (Int.gcd_eq_zero_iff.1 h).2; omega
  · exact h
theorem tdiv_le (a : Int) (g : Nat) : (Int.tdiv a (g : Int)).natAbs ≤ a.natAbs := by
  rw [Int.natAbs_tdiv]; exact Nat.div_le_self _ _
theorem made_ev (a b : Int) (hb : 1 ≤ b) (h0 : a.natAbs ≤ 9000000000000000000) (h1 : b ≤ 9000000000000000000) : Ev (fun k => impl_made.f k a b) (rat a b) := by
  unfold impl_made.f impl_lowest.f impl_gcd.f
  have g := gcd_pos a b hb
  have t1 := tdiv_le a (Int.gcd a b)
  have t2 := tdiv_le b (Int.gcd a b)
  refine Ev.bind (x := (Int.tdiv a (Int.gcd a b), Int.tdiv b (Int.gcd a b))) (Ev.bind (gcd_impl _ a b (Nat.le_refl _) h0 (by omega)) ?_) (Ev.bind (isR _ _) (Ev.const rfl))
  rw [w64 (x := Int.tdiv a ((Int.gcd a b : Nat) : Int)) (by omega) (by omega), w64 (x := Int.tdiv b ((Int.gcd a b : Nat) : Int)) (by omega) (by omega)]
  exact Ev.neg (by omega) (Ev.neg (by omega) (Ev.const rfl))
theorem saRatio_ev (a b : Int) (hb : 1 ≤ b) (h0 : a.natAbs ≤ 9000000000000000000) (h1 : b ≤ 9000000000000000000) : Ev (fun k => spec_saRatio.f k a b) (rat a b) := by
  unfold spec_saRatio.f spec_veCommon.f
  have g := gcd_pos a b hb
  have t1 := tdiv_le a (Int.gcd a b)
  have t2 := tdiv_le b (Int.gcd a b)
  rw [abs_spec a (by omega) (by omega)]; simp only [Option.bind_some]
  have G := gcd_spec b.toNat ((a.natAbs : Nat) : Int) b (by omega) (by omega) (by omega)
  rw [gcd_abs] at G
  refine Ev.bind G (Ev.neg (by omega) ?_)
  rw [w64 (x := Int.tdiv a ((Int.gcd a b : Nat) : Int)) (by omega) (by omega), w64 (x := Int.tdiv b ((Int.gcd a b : Nat) : Int)) (by omega) (by omega)]
  exact Ev.bind (goodR _ _) (Ev.const rfl)
end Go.Proofs.Ytmlkdkeocbhajaa.PuB
