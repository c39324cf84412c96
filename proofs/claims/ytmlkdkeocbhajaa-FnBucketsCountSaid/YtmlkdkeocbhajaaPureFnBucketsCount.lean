/- FnBucketsCount: what the law's Go functions compute, as plain functions, and that the law holds of them at all arguments. -/
import Derived.Laws.BitsLemmas
import Derived.Test.YtmlkdkeocbhajaaBx4
namespace Go.Proofs.Ytmlkdkeocbhajaa.AuxFnBucketsCount
open Go.RowKit Go.Proofs.Ytmlkdkeocbhajaa.B Go.Proofs.YtmlkdkeocbhajaaW.PrintLast Go.Proofs.YtmlkdkeocbhajaaW.PrintMore
open Go.Proofs.YtmlkdkeocbhajaaW.PrintWords hiding Ev
set_option linter.unusedVariables false
set_option linter.unusedSimpArgs false
theorem w64 {x : Int} (h0 : -9223372036854775808 ≤ x) (h1 : x ≤ 9223372036854775807) : wrap64 x = x := by
  unfold wrap64; omega
/-- With enough rounds the answer is r. -/
def Ev {β : Type} (f : Nat → Option β) (r : β) : Prop := ∃ K, ∀ k, K < k → f k = some r
theorem Ev.of {β : Type} {f : Nat → Option β} {r : β} (K : Nat) (h : ∀ k, K < k → f k = some r) : Ev f r := ⟨K, h⟩
theorem Ev.const {β : Type} {x : Option β} {r : β} (h : x = some r) : Ev (fun _ => x) r := ⟨0, fun _ _ => h⟩
theorem Ev.succ {β : Type} {f : Nat → Option β} {r : β} (h : Ev (fun k => f (k + 1)) r) : Ev f r := by
  obtain ⟨K, h⟩ := h
  refine ⟨K + 1, fun k hk => ?_⟩
  obtain ⟨k, rfl⟩ : ∃ m, k = m + 1 := ⟨k - 1, by omega⟩
  exact h k (by omega)
theorem Ev.bind {α β : Type} {f : Nat → Option α} {g : Nat → α → Option β} {x : α} {r : β} (h1 : Ev f x) (h2 : Ev (fun k => g k x) r) : Ev (fun k => (f k).bind (g k)) r := by
  obtain ⟨K1, h1⟩ := h1
  obtain ⟨K2, h2⟩ := h2
  exact ⟨K1 + K2, fun k hk => by show (f k).bind (g k) = some r; rw [h1 k (by omega)]; exact h2 k (by omega)⟩
theorem Ev.pos {β : Type} {c : Prop} [Decidable c] {f g : Nat → Option β} {r : β} (hc : c) (h : Ev f r) : Ev (fun k => if c then f k else g k) r := by
  obtain ⟨K, h⟩ := h
  exact ⟨K, fun k hk => by show (if c then f k else g k) = some r; rw [if_pos hc]; exact h k hk⟩
theorem Ev.neg {β : Type} {c : Prop} [Decidable c] {f g : Nat → Option β} {r : β} (hc : ¬ c) (h : Ev g r) : Ev (fun k => if c then f k else g k) r := by
  obtain ⟨K, h⟩ := h
  exact ⟨K, fun k hk => by show (if c then f k else g k) = some r; rw [if_neg hc]; exact h k hk⟩
theorem Ev.ex {β : Type} {f : Nat → Option β} {r : β} (h : Ev f r) : ∃ k, f k = some r := by
  obtain ⟨K, h⟩ := h
  exact ⟨K + 1, h _ (by omega)⟩
theorem in_spec (a b c : Int) : spec_l1In.f a b c = some (decide (b ≤ a ∧ a ≤ c)) := by
  unfold spec_l1In.f
  by_cases h : a ≥ b
  · rw [if_pos h]; congr 1; simp [show b ≤ a from h]
  · rw [if_neg h]; congr 1; simp [show ¬ b ≤ a from h]
theorem in_impl (a b c : Int) : impl_within.f a b c = some (decide (b ≤ a ∧ a ≤ c)) := by
  unfold impl_within.f
  by_cases h : b ≤ a
  · rw [if_pos h]; congr 1; simp [h]
  · rw [if_neg h]; congr 1; simp [h]
theorem rd_cons_zero (x : Int) (l : List Int) : rd (x :: l) 0 = x := rfl
theorem rd_nat (l : List Int) (i : Nat) : rd l (i : Int) = l.getD i 0 := by unfold rd; simp
theorem drop_rd (l : List Int) (i : Nat) (h : i < l.length) : l.drop i = rd l (i : Int) :: l.drop (i + 1) := by
  rw [rd_nat, List.drop_eq_getElem_cons h]; simp [h]
theorem all_l0 (lo hi : Int) (l : List Int) (hb : l.length ≤ 17592186044416) : ∀ (d k i : Nat), i + d = l.length → d < k →
    spec_l1All.l0 k lo hi l (l.length : Int) (i : Int) = some ((l.drop i).all fun x => decide (lo ≤ x ∧ x ≤ hi)) := by
  intro d
  induction d with
  | zero =>
    intro k i hi hk
    obtain ⟨k, rfl⟩ : ∃ m, k = m + 1 := ⟨k - 1, by omega⟩
    simp only [spec_l1All.l0]; rw [if_neg (by omega), List.drop_of_length_le (by omega)]; rfl
  | succ d ih =>
    intro k i hi hk
    obtain ⟨k, rfl⟩ : ∃ m, k = m + 1 := ⟨k - 1, by omega⟩
    simp only [spec_l1All.l0]
    rw [if_pos (by omega), if_pos (by omega), if_pos (by omega), in_spec, drop_rd l i (by omega)]
    simp only [Option.bind_some, List.all_cons]
    have ih' := ih k (i + 1) (by omega) (by omega)
    rw [w64 (by omega) (by omega), show ((i : Int) + 1) = ((i + 1 : Nat) : Int) by simp]
    split
    · rename_i h; rw [ih', h, Bool.true_and]
    · rename_i h; rw [Bool.eq_false_iff.mpr h, Bool.false_and]
theorem all_f (k : Nat) (l : List Int) (lo hi : Int) (hb : l.length ≤ 17592186044416) (hk : l.length < k) : spec_l1All.f k l lo hi = some (l.all fun x => decide (lo ≤ x ∧ x ≤ hi)) := by
  unfold spec_l1All.f
  have := all_l0 lo hi l hb l.length k 0 (by omega) hk
  simpa using this
theorem u64_wrap (n : Int) : IntKind.u64.wrap n = n % 18446744073709551616 := by simp [IntKind.wrap, IntKind.bits, IntKind.signed]
theorem u64_and255 (x : Int) (h0 : 0 ≤ x) (h1 : x < 18446744073709551616) : Go.bits .and .u64 x 255 = x % 256 :=
  bits_mask .u64 64 (by decide) (fun n a b => by rw [u64_wrap]; omega) 8 (by decide) x h0 h1
/-- the drawn bytes -/
def Bytes (l : List Int) : Prop := (∀ x ∈ l, 0 ≤ x ∧ x ≤ 255) ∧ l.length ≤ 140737488351232
theorem bytes_of (l : List Int) (h : l.length * 1 ≤ 140737488351232) (hw : ∀ x ∈ l, (Lit.int .u8 x).wf = true) : Bytes l := by
  refine ⟨fun x hx => ?_, by omega⟩
  have := hw x hx
  simp only [Lit.wf, IntKind.min, IntKind.max, IntKind.signed, IntKind.bits, Bool.and_eq_true, decide_eq_true_eq, Bool.false_eq_true, if_false] at this
  omega
theorem bytes_rd {l : List Int} (h : Bytes l) (i : Int) : 0 ≤ rd l i ∧ rd l i ≤ 255 := by
  unfold rd
  rw [List.getD_eq_getElem?_getD]
  cases e : l[i.toNat]? with
  | none => simp
  | some x => exact h.1 x (List.mem_of_getElem? e)
theorem next_ok {l : List Int} (h : Bytes l) (p s : Int) (h0 : 0 ≤ p) (h1 : p ≤ 1000000000000000000) : ∃ r s', spec_l1Cur_next.f l p s = some (r, p + 1, s') ∧ 0 ≤ r ∧ r ≤ 255 := by
  have hl := h.2
  unfold spec_l1Cur_next.f
  rw [w64 (x := p + 1) (by omega) (by omega)]
  by_cases c : p < (l.length : Int)
  · have hb := bytes_rd h p
    rw [if_pos c, if_pos h0, if_pos (by omega), w64 (x := rd l p) (by omega) (by omega)]
    exact ⟨_, _, rfl, hb.1, hb.2⟩
  · rw [if_neg c, if_neg (by omega)]
    refine ⟨_, _, rfl, ?_⟩
    generalize hx : IntKind.u64.wrap _ = x
    have hx0 : 0 ≤ x ∧ x < 18446744073709551616 := by rw [← hx, u64_wrap]; omega
    have hd : 0 ≤ x / 1099511627776 ∧ x / 1099511627776 < 18446744073709551616 := by omega
    rw [u64_and255 _ hd.1 hd.2, w64 (by omega) (by omega)]; omega
theorem pick_ok {l : List Int} (h : Bytes l) (p s n : Int) (h0 : 0 ≤ p) (h1 : p ≤ 100000000000000000) (hn : n ≤ 60000) :
    ∃ r p' s', spec_l1Cur_pick.f l p s n = some (r, p', s') ∧ p ≤ p' ∧ p' ≤ p + 2 ∧ 0 ≤ r ∧ (1 ≤ n → r < n) := by
  unfold spec_l1Cur_pick.f
  by_cases c : n ≤ 1
  · rw [if_pos c]; exact ⟨_, _, _, rfl, by omega, by omega, by omega, fun _ => by omega⟩
  · rw [if_neg c]
    obtain ⟨r, s1, e, r0, r1⟩ := next_ok h p s h0 (by omega)
    rw [e]; simp only [Option.bind_some]
    by_cases d : n > 200
    · rw [if_pos d]
      obtain ⟨u, s2, e2, u0, u1⟩ := next_ok h (p + 1) s1 (by omega) (by omega)
      rw [e2]; simp only [Option.bind_some]
      rw [if_neg (by omega), w64 (x := r * 256) (by omega) (by omega), w64 (by omega) (by omega)]
      refine ⟨_, _, _, rfl, by omega, by omega, ?_, fun _ => ?_⟩
      · exact Int.tmod_nonneg _ (by omega)
      · exact Int.tmod_lt_of_pos _ (by omega)
    · rw [if_neg d, if_neg (by omega)]
      refine ⟨_, _, _, rfl, by omega, by omega, ?_, fun _ => ?_⟩
      · exact Int.tmod_nonneg _ (by omega)
      · exact Int.tmod_lt_of_pos _ (by omega)
theorem among_ok {l : List Int} (h : Bytes l) (p s : Int) (xs : List Int) (h0 : 0 ≤ p) (h1 : p ≤ 100000000000000000) (hx : 1 ≤ xs.length) (hx2 : xs.length ≤ 200) :
    ∃ r p' s', spec_l1Cur_among.f l p s xs = some (r, p', s') ∧ p ≤ p' ∧ p' ≤ p + 2 ∧ r ∈ xs := by
  unfold spec_l1Cur_among.f
  obtain ⟨r, p', s', e, a, b, c, d⟩ := pick_ok h p s (xs.length : Int) h0 h1 (by omega)
  have d := d (by omega)
  rw [e]; simp only [Option.bind_some]
  rw [if_pos c, if_pos d]
  refine ⟨_, _, _, rfl, a, b, ?_⟩
  unfold rd
  rw [List.getD_eq_getElem?_getD, List.getElem?_eq_getElem (by omega)]
  exact List.getElem_mem _
theorem one_ok {l : List Int} (h : Bytes l) (p s n : Int) (h0 : 0 ≤ p) (h1 : p ≤ 100000000000000000) (hn : n ≤ 60000) :
    ∃ b p' s', spec_l1Cur_one.f l p s n = some (b, p', s') ∧ p ≤ p' ∧ p' ≤ p + 2 := by
  unfold spec_l1Cur_one.f
  obtain ⟨r, p', s', e, a, b, _⟩ := pick_ok h p s n h0 h1 hn
  rw [e]; exact ⟨_, _, _, rfl, a, b⟩
theorem Ev.congr {β : Type} {f : Nat → Option β} {r s : β} (h : Ev f r) (e : r = s) : Ev f s := by rw [← e]; exact h
theorem caps_l0 {l : List Int} (h : Bytes l) : ∀ (m : Nat) (acc : List Int) (p s : Int), acc.length + m ≤ 7 → 0 < acc.length + m → 0 ≤ p → p + 2 * m ≤ 10000000000000000 → ∃ C p' s', Ev (fun k => spec_l1Cur_caps.l0 k acc (m : Int) l p s) (C, p', s') ∧ p ≤ p' ∧ p' ≤ p + 2 * m + 4 ∧ C.length ≤ 7 := by
  intro m
  induction m with
  | zero =>
    intro acc p s ha hb h0 h1
    obtain ⟨r, p1, s1, e, a, b, r0, r1⟩ := pick_ok h p s 16 h0 (by omega) (by omega)
    have K : ∀ q : List Int × Int × Int, (∀ k : Nat, spec_l1Cur_caps.l0 (k + 1) acc ((0 : Nat) : Int) l p s = some q) → Ev (fun k => spec_l1Cur_caps.l0 k acc ((0 : Nat) : Int) l p s) q := fun q hq => Ev.of 1 fun k hk => by
      obtain ⟨k, rfl⟩ : ∃ m, k = m + 1 := ⟨k - 1, by omega⟩
      exact hq k
    by_cases c0 : r = 0
    · obtain ⟨x, p2, s2, e2, a2, b2, _⟩ := among_ok h p1 s1 [1, 60, 61, (-1), 4611686018427387904] (by omega) (by omega) (by simp) (by simp)
      refine ⟨acc.set 0 x, p2, s2, K _ fun k => ?_, by omega, by omega, by simp; omega⟩
      simp only [spec_l1Cur_caps.l0]
      rw [if_neg (by omega), e]; simp only [Option.bind_some]
      rw [if_pos c0, e2]; simp only [Option.bind_some]
      rw [if_pos (by omega)]; rfl
    · by_cases c1 : r = 1
      · refine ⟨[], p1, s1, K _ fun k => ?_, by omega, by omega, by simp⟩
        simp only [spec_l1Cur_caps.l0]
        rw [if_neg (by omega), e]; simp only [Option.bind_some]
        rw [if_neg c0, if_pos c1]
      · by_cases c2 : r = 2
        · refine ⟨[60, 60, 60, 60, 60, 60], p1, s1, K _ fun k => ?_, by omega, by omega, by simp⟩
          simp only [spec_l1Cur_caps.l0]
          rw [if_neg (by omega), e]; simp only [Option.bind_some]
          rw [if_neg c0, if_neg c1, if_pos c2]
        · by_cases c3 : r = 3
          · refine ⟨[2, 2, 2, 2, 2, 2, 2], p1, s1, K _ fun k => ?_, by omega, by omega, by simp⟩
            simp only [spec_l1Cur_caps.l0]
            rw [if_neg (by omega), e]; simp only [Option.bind_some]
            rw [if_neg c0, if_neg c1, if_neg c2, if_pos c3]
          · refine ⟨acc, p1, s1, K _ fun k => ?_, by omega, by omega, by omega⟩
            simp only [spec_l1Cur_caps.l0]
            rw [if_neg (by omega), e]; simp only [Option.bind_some]
            rw [if_neg c0, if_neg c1, if_neg c2, if_neg c3]
  | succ m ih =>
    intro acc p s ha hb h0 h1
    obtain ⟨r, p1, s1, e, a, b, r0, r1⟩ := pick_ok h p s 6 h0 (by omega) (by omega)
    obtain ⟨C, p', s', E, q1, q2, q3⟩ := ih (acc ++ [wrap64 (2 + r)]) p1 s1 (by simp; omega) (by simp; omega) (by omega) (by omega)
    refine ⟨C, p', s', Ev.succ ?_, by omega, by omega, q3⟩
    simp only [spec_l1Cur_caps.l0, e, Option.bind_some]
    refine Ev.pos (by omega) (Ev.pos (by omega) ?_)
    rw [w64 (x := ((m + 1 : Nat) : Int) - 1) (by omega) (by omega), show ((m + 1 : Nat) : Int) - 1 = (m : Int) by omega]
    exact E
theorem caps_ev {l : List Int} (h : Bytes l) (p s : Int) (h0 : 0 ≤ p) (h1 : p ≤ 1000000000000000) : ∃ C p' s', Ev (fun k => spec_l1Cur_caps.f k l p s) (C, p', s') ∧ p ≤ p' ∧ p' ≤ p + 20 ∧ C.length ≤ 7 := by
  obtain ⟨r, p1, s1, e, a, b, r0, r1⟩ := pick_ok h p s 4 h0 (by omega) (by omega)
  have r1 := r1 (by omega)
  obtain ⟨m, hm⟩ : ∃ m : Nat, 1 + r = (m : Int) := ⟨(1 + r).toNat, by omega⟩
  obtain ⟨C, p', s', E, q1, q2, q3⟩ := caps_l0 h m [] p1 s1 (by simp; omega) (by simp; omega) (by omega) (by omega)
  refine ⟨C, p', s', ?_, by omega, by omega, q3⟩
  unfold spec_l1Cur_caps.f
  simp only [e, Option.bind_some]
  rw [w64 (by omega) (by omega), hm]; exact E
theorem drops_ok {l : List Int} (h : Bytes l) (p s : Int) (h0 : 0 ≤ p) (h1 : p ≤ 1000000000000000) : ∃ n p' s', spec_l1Cur_drops.f l p s = some (n, p', s') ∧ p ≤ p' ∧ p' ≤ p + 8 := by
  unfold spec_l1Cur_drops.f
  obtain ⟨r1, p1, s1, e1, a1, b1, _⟩ := pick_ok h p s 500 h0 (by omega) (by omega)
  obtain ⟨r2, p2, s2, e2, a2, b2, _⟩ := pick_ok h p1 s1 500 (by omega) (by omega) (by omega)
  obtain ⟨r3, p3, s3, e3, a3, b3, _⟩ := pick_ok h p2 s2 500 (by omega) (by omega) (by omega)
  obtain ⟨r4, p4, s4, e4, a4, b4, _⟩ := among_ok h p3 s3 [0, 1, 2, 6, 30, 100, 997, 1000000, 1000001, (-1), r1, r2, r3] (by omega) (by omega) (by simp) (by simp)
  refine ⟨r4, p4, s4, ?_, by omega, by omega⟩
  simp only [e1, e2, e3, e4, Option.bind_some]
theorem holds_l0 {l : List Int} (h : Bytes l) (C : List Int) (hb : C.length ≤ 7) : ∀ (d i : Nat) (acc : List Int) (p s : Int), i + d = C.length → acc.length = i → 0 ≤ p → p + 4 * d ≤ 10000000000000000 → ∃ H p' s', Ev (fun k => spec_l1Cur_holds.l0 k C acc C (C.length : Int) (i : Int) l p s) (C, H, p', s') ∧ p ≤ p' ∧ p' ≤ p + 4 * d + 2 ∧ H.length ≤ 8 := by
  intro d
  induction d with
  | zero =>
    intro i acc p s hi ha h0 h1
    obtain ⟨b, p1, s1, e, a1, b1⟩ := one_ok h p s 16 h0 (by omega) (by omega)
    by_cases c : b = true
    · refine ⟨acc ++ [0], p1, s1, Ev.succ ?_, by omega, by omega, by simp; omega⟩
      simp only [spec_l1Cur_holds.l0, e, Option.bind_some]
      exact Ev.neg (by omega) (Ev.pos c (Ev.pos (by omega) (Ev.const rfl)))
    · refine ⟨acc, p1, s1, Ev.succ ?_, by omega, by omega, by omega⟩
      simp only [spec_l1Cur_holds.l0, e, Option.bind_some]
      exact Ev.neg (by omega) (Ev.neg c (Ev.const rfl))
  | succ d ih =>
    intro i acc p s hi ha h0 h1
    have step : ∀ (b : Bool) (p1 s1 : Int), (b = true → rd C (i : Int) ≤ 60000) → p ≤ p1 → p1 ≤ p + 2 → ∃ H p' s', Ev (fun k => spec_l1Cur_holds.j1 k C acc (rd C (i : Int)) C (C.length : Int) (i : Int) b l p1 s1) (C, H, p', s') ∧ p ≤ p' ∧ p' ≤ p + 4 * ((d + 1 : Nat) : Int) + 2 ∧ H.length ≤ 8 := by
      intro b p1 s1 hx hp hp'
      cases b with
      | true =>
        obtain ⟨r, p2, s2, e, a2, b2, _⟩ := pick_ok h p1 s1 (rd C (i : Int)) (by omega) (by omega) (hx rfl)
        obtain ⟨H, p', s', E, q1, q2, q3⟩ := ih (i + 1) (acc ++ [r]) p2 s2 (by omega) (by simp; omega) (by omega) (by omega)
        refine ⟨H, p', s', Ev.succ ?_, by omega, by omega, q3⟩
        simp only [spec_l1Cur_holds.j1, e, Option.bind_some]
        refine Ev.pos (by first | rfl | trivial) (Ev.pos (by omega) ?_)
        rw [w64 (by omega) (by omega)]
        exact_mod_cast E
      | false =>
        obtain ⟨r, p2, s2, e, a2, b2, _⟩ := among_ok h p1 s1 [rd C (i : Int), (-1), 0] (by omega) (by omega) (by simp) (by simp)
        obtain ⟨H, p', s', E, q1, q2, q3⟩ := ih (i + 1) (acc ++ [r]) p2 s2 (by omega) (by simp; omega) (by omega) (by omega)
        refine ⟨H, p', s', Ev.succ ?_, by omega, by omega, q3⟩
        simp only [spec_l1Cur_holds.j1, e, Option.bind_some]
        refine Ev.neg (by simp) (Ev.pos (by omega) ?_)
        rw [w64 (by omega) (by omega)]
        exact_mod_cast E
    by_cases c : 1 ≤ rd C (i : Int) ∧ rd C (i : Int) ≤ 100
    · obtain ⟨b, p1, s1, e, a1, b1⟩ := one_ok h p s 16 h0 (by omega) (by omega)
      obtain ⟨H, p', s', E, q1, q2, q3⟩ := step (!b) p1 s1 (fun _ => by omega) a1 b1
      refine ⟨H, p', s', Ev.succ ?_, q1, q2, q3⟩
      simp only [spec_l1Cur_holds.l0, in_spec, decide_eq_true c, e, Option.bind_some]
      exact Ev.pos (by omega) (Ev.pos (by omega) (Ev.pos (by omega) (Ev.pos trivial E)))
    · obtain ⟨H, p', s', E, q1, q2, q3⟩ := step false p s (fun hc => by simp at hc) (by omega) (by omega)
      refine ⟨H, p', s', Ev.succ ?_, q1, q2, q3⟩
      simp only [spec_l1Cur_holds.l0, in_spec, decide_eq_false c, Option.bind_some]
      exact Ev.pos (by omega) (Ev.pos (by omega) (Ev.pos (by omega) (Ev.neg (by simp) E)))
theorem holds_ev {l : List Int} (h : Bytes l) (p s : Int) (h0 : 0 ≤ p) (h1 : p ≤ 100000000000000) : ∃ C H p' s', Ev (fun k => spec_l1Cur_holds.f k l p s) (C, H, p', s') ∧ p ≤ p' ∧ p' ≤ p + 60 ∧ C.length ≤ 7 ∧ H.length ≤ 8 := by
  obtain ⟨C, p1, s1, E, a, b, c⟩ := caps_ev h p s h0 (by omega)
  obtain ⟨H, p', s', E2, q1, q2, q3⟩ := holds_l0 h C c C.length 0 [] p1 s1 (by omega) rfl (by omega) (by omega)
  refine ⟨C, H, p', s', ?_, by omega, by omega, c, q3⟩
  unfold spec_l1Cur_holds.f
  exact Ev.bind E E2
theorem DrawHeldAfter_ev {l : List Int} (h : Bytes l) : ∃ C n, Ev (fun k => spec_DrawHeldAfter.f k l) (C, n) ∧ C.length ≤ 7 := by
  obtain ⟨C, p1, s1, E, a, b, c⟩ := caps_ev h 0 0 (by omega) (by omega)
  obtain ⟨n, p2, s2, e, _, _⟩ := drops_ok h p1 s1 (by omega) (by omega)
  refine ⟨C, n, ?_, c⟩
  unfold spec_DrawHeldAfter.f
  exact Ev.bind E (by simp only [e, Option.bind_some]; exact Ev.const rfl)
theorem DrawDropsFor_ev {l : List Int} (h : Bytes l) : ∃ C H, Ev (fun k => spec_DrawDropsFor.f k l) (C, H) ∧ C.length ≤ 7 ∧ H.length ≤ 8 := by
  obtain ⟨C, H, p, s, E, _, _, c, d⟩ := holds_ev h 0 0 (by omega) (by omega)
  refine ⟨C, H, ?_, c, d⟩
  unfold spec_DrawDropsFor.f
  exact Ev.bind E (Ev.const rfl)
theorem DrawAddDrops_ev {l : List Int} (h : Bytes l) : ∃ C H n, Ev (fun k => spec_DrawAddDrops.f k l) (C, H, n) ∧ C.length ≤ 7 ∧ H.length ≤ 8 := by
  obtain ⟨C, H, p, s, E, a, b, c, d⟩ := holds_ev h 0 0 (by omega) (by omega)
  obtain ⟨n, p2, s2, e, _, _⟩ := drops_ok h p s (by omega) (by omega)
  refine ⟨C, H, n, ?_, c, d⟩
  unfold spec_DrawAddDrops.f
  exact Ev.bind E (by simp only [e, Option.bind_some]; exact Ev.const rfl)
theorem eSame_l0 (a : List Int) (hb : a.length ≤ 1000000) : ∀ (d k i : Nat), i + d = a.length → d < k → laws_eSame.l0 k a a (a.length : Int) (i : Int) = some true
  | 0, 0, i, _, h => by omega
  | 0, k + 1, i, hi, _ => by simp only [laws_eSame.l0]; rw [if_neg (by omega)]
  | d + 1, 0, i, _, h => by omega
  | d + 1, k + 1, i, hi, hk => by
    simp only [laws_eSame.l0]
    rw [if_pos (by omega), if_pos (by omega), if_pos (by omega), if_pos (by omega), if_pos trivial, w64 (by omega) (by omega), show ((i : Int) + 1) = ((i + 1 : Nat) : Int) by omega]
    exact eSame_l0 a hb d k (i + 1) (by omega) (by omega)
theorem eSame_ev (a : List Int) (hb : a.length ≤ 1000000) : Ev (fun k => laws_eSame.f k a a) true := Ev.of 2000000 fun k hk => by
  unfold laws_eSame.f
  rw [if_pos rfl]
  exact eSame_l0 a hb a.length k 0 (by omega) (by omega)
def AllC (C : List Int) : Prop := ∀ c ∈ C, 2 ≤ c ∧ c ≤ 60
def CapsOk (C : List Int) : Prop := (1 ≤ C.length ∧ C.length ≤ 6) ∧ AllC C
instance (C : List Int) : Decidable (CapsOk C) := by unfold CapsOk AllC; infer_instance
theorem caps_impl (C : List Int) : impl_AreCaps.f C = some (decide (CapsOk C)) := by
  unfold impl_AreCaps.f impl_areWithin.f
  rw [in_impl]; simp only [Option.bind_some]
  by_cases a : (1 : Int) ≤ C.length ∧ (C.length : Int) ≤ 6
  · rw [if_pos (by simpa using a)]; congr 1
    refine Bool.eq_iff_iff.mpr ?_
    rw [List.all_eq_true, decide_eq_true_eq]
    exact ⟨fun h => ⟨⟨by omega, by omega⟩, fun x hx => by simpa using h x hx⟩, fun h x hx => by simpa using h.2 x hx⟩
  · rw [if_neg (by simpa using a)]; congr 1; symm; rw [decide_eq_false_iff_not]; intro h; exact a ⟨by have := h.1; omega, by have := h.1; omega⟩
theorem caps_spec (k : Nat) (C : List Int) (hk : 10 < k) : spec_tbCaps.f k C = some (decide (CapsOk C)) := by
  unfold spec_tbCaps.f
  rw [in_spec]; simp only [Option.bind_some]
  by_cases a : (1 : Int) ≤ C.length ∧ (C.length : Int) ≤ 6
  · rw [if_pos (by simpa using a), all_f k C 2 60 (by omega) (by omega)]; simp only [Option.bind_some]; congr 1
    refine Bool.eq_iff_iff.mpr ?_
    rw [List.all_eq_true, decide_eq_true_eq]
    exact ⟨fun h => ⟨⟨by omega, by omega⟩, fun x hx => by simpa using h x hx⟩, fun h x hx => by simpa using h.2 x hx⟩
  · rw [if_neg (by simpa using a)]; congr 1; symm; rw [decide_eq_false_iff_not]; intro h; exact a ⟨by have := h.1; omega, by have := h.1; omega⟩
def held : List Int → Int → List Int
  | [], _ => []
  | c :: C, n => n % c :: held C (n / c)
def tips : List Int → Int → List Int
  | [], _ => []
  | c :: C, n => n / c :: tips C (n / c)
def rnd : List Int → Int
  | [] => 1
  | c :: C => c * rnd C
def num : List Int → List Int → Int
  | c :: C, h :: H => h + c * num C H
  | _, _ => 0
def cnt : List Int → Int → Int
  | [], _ => 0
  | c :: C, n => if n % c = 0 then 1 + cnt C (n / c) else 0
def hOk : List Int → List Int → Bool
  | c :: C, h :: H => decide (0 ≤ h ∧ h ≤ c - 1) && hOk C H
  | _, _ => true
theorem AllC.tail {c : Int} {C : List Int} (h : AllC (c :: C)) : (2 ≤ c ∧ c ≤ 60) ∧ AllC C := ⟨h c (by simp), fun x hx => h x (by simp [hx])⟩
theorem AllC.cell {C : List Int} (h : AllC C) (i : Nat) (hi : i < C.length) : 2 ≤ rd C (i : Int) ∧ rd C (i : Int) ≤ 60 := by
  rw [rd_nat, List.getD_eq_getElem?_getD, List.getElem?_eq_getElem hi]; exact h _ (List.getElem_mem hi)
theorem held_len : ∀ (C : List Int) (n : Int), (held C n).length = C.length
  | [], _ => rfl
  | c :: C, n => by simp [held, held_len C]
theorem tips_len : ∀ (C : List Int) (n : Int), (tips C n).length = C.length
  | [], _ => rfl
  | c :: C, n => by simp [tips, tips_len C]
theorem div_bd {n c : Int} (h : 0 ≤ n) (hc : 2 ≤ c) : 0 ≤ n / c ∧ n / c ≤ n := ⟨Int.ediv_nonneg h (by omega), Int.ediv_le_self _ h⟩
theorem tmod_e {n c : Int} (h : 0 ≤ n) : Int.tmod n c = n % c := Int.tmod_eq_emod_of_nonneg h
theorem tdiv_e {n c : Int} (h : 0 ≤ n) : Int.tdiv n c = n / c := Int.tdiv_eq_ediv_of_nonneg h
theorem fallen_l0 {C : List Int} (A : AllC C) (hl : C.length ≤ 10) : ∀ (d k i : Nat) (n : Int) (a b : List Int), i + d = C.length → d < k → 0 ≤ n → n ≤ 1000000000000 → a.length ≤ 1000 + i → b.length ≤ 1000 + i →
    impl_fallen.l0 k n a b C (C.length : Int) (i : Int) = some (a ++ held (C.drop i) n, b ++ tips (C.drop i) n) := by
  intro d
  induction d with
  | zero =>
    intro k i n a b hi hk h0 h1 ha hb
    obtain ⟨k, rfl⟩ : ∃ m, k = m + 1 := ⟨k - 1, by omega⟩
    simp only [impl_fallen.l0]; rw [if_neg (by omega), List.drop_of_length_le (by omega)]; simp [held, tips]
  | succ d ih =>
    intro k i n a b hi hk h0 h1 ha hb
    obtain ⟨k, rfl⟩ : ∃ m, k = m + 1 := ⟨k - 1, by omega⟩
    have hc := A.cell i (by omega)
    have hd := div_bd h0 hc.1
    simp only [impl_fallen.l0, Option.bind_some, List.length_cons, List.length_nil]
    rw [if_pos (by omega), if_pos (by omega), if_pos (by omega), if_neg (by omega), if_pos (by omega), if_pos (by omega), tmod_e h0, tdiv_e h0, w64 (by omega) (by omega), w64 (by omega) (by omega), drop_rd C i (by omega)]
    have := ih k (i + 1) (n / rd C (i : Int)) (a ++ [n % rd C (i : Int)]) (b ++ [n / rd C (i : Int)]) (by omega) (by omega) hd.1 (by omega) (by simp; omega) (by simp; omega)
    rw [show ((i : Int) + 1) = ((i + 1 : Nat) : Int) by simp, this]
    simp [held, tips]
theorem fallen_f {C : List Int} (A : AllC C) (hl : C.length ≤ 10) (k : Nat) (n : Int) (hk : 10 < k) (h0 : 0 ≤ n) (h1 : n ≤ 1000000000000) : impl_fallen.f k C n = some (held C n, tips C n) := by
  unfold impl_fallen.f
  have := fallen_l0 A hl C.length k 0 n [] [] (by omega) (by omega) h0 h1 (by simp) (by simp)
  simpa using this
theorem tbHeld_l0 {C : List Int} (A : AllC C) (hl : C.length ≤ 10) : ∀ (d k i : Nat) (n : Int) (a : List Int), i + d = C.length → d < k → 0 ≤ n → n ≤ 1000000000000 → a.length ≤ 1000 + i →
    spec_tbHeld.l0 k n a C (C.length : Int) (i : Int) = some (a ++ held (C.drop i) n) := by
  intro d
  induction d with
  | zero =>
    intro k i n a hi hk h0 h1 ha
    obtain ⟨k, rfl⟩ : ∃ m, k = m + 1 := ⟨k - 1, by omega⟩
    simp only [spec_tbHeld.l0]; rw [if_neg (by omega), List.drop_of_length_le (by omega)]; simp [held]
  | succ d ih =>
    intro k i n a hi hk h0 h1 ha
    obtain ⟨k, rfl⟩ : ∃ m, k = m + 1 := ⟨k - 1, by omega⟩
    have hc := A.cell i (by omega)
    have hd := div_bd h0 hc.1
    simp only [spec_tbHeld.l0]
    rw [if_pos (by omega), if_pos (by omega), if_pos (by omega), if_neg (by omega), if_pos (by omega), tmod_e h0, tdiv_e h0, w64 (by omega) (by omega), w64 (by omega) (by omega), drop_rd C i (by omega)]
    have := ih k (i + 1) (n / rd C (i : Int)) (a ++ [n % rd C (i : Int)]) (by omega) (by omega) hd.1 (by omega) (by simp; omega)
    rw [show ((i : Int) + 1) = ((i + 1 : Nat) : Int) by simp, this]
    simp [held]
theorem tbHeld_f {C : List Int} (A : AllC C) (hl : C.length ≤ 10) (k : Nat) (n : Int) (hk : 10 < k) (h0 : 0 ≤ n) (h1 : n ≤ 1000000000000) : spec_tbHeld.f k C n = some (held C n) := by
  unfold spec_tbHeld.f
  have := tbHeld_l0 A hl C.length k 0 n [] (by omega) (by omega) h0 h1 (by simp)
  simpa using this
theorem tipsA_l0 {C : List Int} (A : AllC C) (hl : C.length ≤ 10) : ∀ (d k i : Nat) (n : Int) (a : List Int), i + d = C.length → d < k → 0 ≤ n → n ≤ 1000000000000 → a.length ≤ 1000 + i →
    spec_TipsAfter.l0 k n a C (C.length : Int) (i : Int) = some (a ++ tips (C.drop i) n, true) := by
  intro d
  induction d with
  | zero =>
    intro k i n a hi hk h0 h1 ha
    obtain ⟨k, rfl⟩ : ∃ m, k = m + 1 := ⟨k - 1, by omega⟩
    simp only [spec_TipsAfter.l0]; rw [if_neg (by omega), List.drop_of_length_le (by omega)]; simp [tips]
  | succ d ih =>
    intro k i n a hi hk h0 h1 ha
    obtain ⟨k, rfl⟩ : ∃ m, k = m + 1 := ⟨k - 1, by omega⟩
    have hc := A.cell i (by omega)
    have hd := div_bd h0 hc.1
    simp only [spec_TipsAfter.l0]
    rw [if_pos (by omega), if_pos (by omega), if_pos (by omega), if_neg (by omega), if_pos (by omega), tdiv_e h0, w64 (by omega) (by omega), w64 (by omega) (by omega), drop_rd C i (by omega)]
    have := ih k (i + 1) (n / rd C (i : Int)) (a ++ [n / rd C (i : Int)]) (by omega) (by omega) hd.1 (by omega) (by simp; omega)
    rw [show ((i : Int) + 1) = ((i + 1 : Nat) : Int) by simp, this]
    simp [tips]
theorem cnt_bd : ∀ (C : List Int) (n : Int), 0 ≤ cnt C n ∧ cnt C n ≤ C.length
  | [], _ => by simp [cnt]
  | c :: C, n => by
    have := cnt_bd C (n / c)
    simp only [cnt, List.length_cons]
    split <;> omega
theorem dropI_l0 {C : List Int} (A : AllC C) (hl : C.length ≤ 10) : ∀ (d k i : Nat) (n m : Int), i + d = C.length → d < k → 0 ≤ n → n ≤ 1000000000000 → 0 ≤ m → m ≤ i →
    impl_TipsAtDrop.l0 k n m C (C.length : Int) (i : Int) = some (m + cnt (C.drop i) n, true) := by
  intro d
  induction d with
  | zero =>
    intro k i n m hi hk h0 h1 ha hb
    obtain ⟨k, rfl⟩ : ∃ m, k = m + 1 := ⟨k - 1, by omega⟩
    simp only [impl_TipsAtDrop.l0]; rw [if_neg (by omega), List.drop_of_length_le (by omega)]; simp [cnt]
  | succ d ih =>
    intro k i n m hi hk h0 h1 ha hb
    obtain ⟨k, rfl⟩ : ∃ m, k = m + 1 := ⟨k - 1, by omega⟩
    have hc := A.cell i (by omega)
    have hd := div_bd h0 hc.1
    simp only [impl_TipsAtDrop.l0]
    rw [if_pos (by omega), if_pos (by omega), if_pos (by omega), if_neg (by omega), tmod_e h0, tdiv_e h0, w64 (by omega) (by omega), w64 (by omega) (by omega), w64 (by omega) (by omega), drop_rd C i (by omega)]
    simp only [cnt]
    by_cases e : n % rd C (i : Int) = 0
    · rw [if_pos e, if_pos e, show ((i : Int) + 1) = ((i + 1 : Nat) : Int) by simp, ih k (i + 1) _ (m + 1) (by omega) (by omega) hd.1 (by omega) (by omega) (by omega)]
      rw [show m + 1 + cnt (List.drop (i + 1) C) (n / rd C (i : Int)) = m + (1 + cnt (List.drop (i + 1) C) (n / rd C (i : Int))) by omega]
    · rw [if_neg e, if_neg e]; simp
theorem dropS_l0 {C : List Int} (A : AllC C) (hl : C.length ≤ 10) : ∀ (d k i : Nat) (n m : Int), i + d = C.length → d < k → 0 ≤ n → n ≤ 1000000000000 → 0 ≤ m → m ≤ i →
    spec_TipsAtDrop.l0 k n m C (C.length : Int) (i : Int) = some (m + cnt (C.drop i) n, true) := by
  intro d
  induction d with
  | zero =>
    intro k i n m hi hk h0 h1 ha hb
    obtain ⟨k, rfl⟩ : ∃ m, k = m + 1 := ⟨k - 1, by omega⟩
    simp only [spec_TipsAtDrop.l0]; rw [if_neg (by omega), List.drop_of_length_le (by omega)]; simp [cnt]
  | succ d ih =>
    intro k i n m hi hk h0 h1 ha hb
    obtain ⟨k, rfl⟩ : ∃ m, k = m + 1 := ⟨k - 1, by omega⟩
    have hc := A.cell i (by omega)
    have hd := div_bd h0 hc.1
    simp only [spec_TipsAtDrop.l0]
    rw [if_pos (by omega), if_pos (by omega), if_pos (by omega), if_neg (by omega), tmod_e h0, tdiv_e h0, w64 (by omega) (by omega), w64 (by omega) (by omega), w64 (by omega) (by omega), drop_rd C i (by omega)]
    simp only [cnt]
    by_cases e : n % rd C (i : Int) = 0
    · rw [if_pos e, if_pos e, show ((i : Int) + 1) = ((i + 1 : Nat) : Int) by simp, ih k (i + 1) _ (m + 1) (by omega) (by omega) hd.1 (by omega) (by omega) (by omega)]
      rw [show m + 1 + cnt (List.drop (i + 1) C) (n / rd C (i : Int)) = m + (1 + cnt (List.drop (i + 1) C) (n / rd C (i : Int))) by omega]
    · rw [if_neg e, if_neg e]; simp
/-! the round -/
theorem rnd_pos : ∀ {C : List Int}, AllC C → 1 ≤ rnd C
  | [], _ => by simp [rnd]
  | c :: C, h => by
    have h1 := rnd_pos h.tail.2
    have h2 : 1 * 1 ≤ c * rnd C := Int.mul_le_mul (by have := h.tail.1; omega) h1 (by omega) (by have := h.tail.1; omega)
    simpa [rnd] using h2
theorem pow60 : ∀ n : Nat, (1 : Int) ≤ 60 ^ n
  | 0 => by simp
  | n + 1 => by have := pow60 n; rw [Int.pow_succ]; omega
theorem rnd_le : ∀ (C : List Int) (n : Nat), AllC C → C.length ≤ n → rnd C ≤ 60 ^ n
  | [], n, _, _ => by simp only [rnd]; exact pow60 n
  | c :: C, n, h, hl => by
    obtain ⟨m, rfl⟩ : ∃ m, n = m + 1 := ⟨n - 1, by simp at hl; omega⟩
    have h1 := rnd_le C m h.tail.2 (by simpa using hl)
    have h2 := rnd_pos h.tail.2
    simp only [rnd, Int.pow_succ]
    rw [Int.mul_comm c]
    exact Int.mul_le_mul h1 h.tail.1.2 (by have := h.tail.1; omega) (by have := pow60 m; omega)
theorem rnd_bd {C : List Int} (A : AllC C) (hl : C.length ≤ 6) : 1 ≤ rnd C ∧ rnd C ≤ 46656000000 := ⟨rnd_pos A, by have := rnd_le C 6 A hl; simpa using this⟩
theorem AllC.drop {C : List Int} (h : AllC C) (i : Nat) : AllC (C.drop i) := fun x hx => h x (List.mem_of_mem_drop hx)
theorem round_l0 (f : Nat → Int → List Int → Int → Int → Option Int)
    (hf : ∀ k x C n i, f (k + 1) x C n i = if i < n then (if 0 ≤ i then (if i < (C.length : Int) then f k (wrap64 (x * (rd C i))) C n (wrap64 (i + 1)) else none) else none) else some x)
    {C : List Int} (A : AllC C) (hl : C.length ≤ 6) : ∀ (d k i : Nat) (x : Int), i + d = C.length → d < k → 1 ≤ x → x * rnd (C.drop i) ≤ 46656000000 →
    f k x C (C.length : Int) (i : Int) = some (x * rnd (C.drop i)) := by
  intro d
  induction d with
  | zero =>
    intro k i x hi hk h0 h1
    obtain ⟨k, rfl⟩ : ∃ m, k = m + 1 := ⟨k - 1, by omega⟩
    rw [hf, if_neg (by omega), List.drop_of_length_le (by omega)]; simp [rnd]
  | succ d ih =>
    intro k i x hi hk h0 h1
    obtain ⟨k, rfl⟩ : ∃ m, k = m + 1 := ⟨k - 1, by omega⟩
    have hc := A.cell i (by omega)
    have hr := rnd_pos (A.drop (i + 1))
    rw [drop_rd C i (by omega)] at h1 ⊢
    simp only [rnd] at h1 ⊢
    rw [← Int.mul_assoc] at h1 ⊢
    have p1 : 1 * 1 ≤ x * rd C (i : Int) := Int.mul_le_mul h0 (by omega) (by omega) (by omega)
    have p2 : x * rd C (i : Int) * 1 ≤ x * rd C (i : Int) * rnd (C.drop (i + 1)) := Int.mul_le_mul_of_nonneg_left hr (by omega)
    rw [hf, if_pos (by omega), if_pos (by omega), if_pos (by omega), w64 (by omega) (by omega), w64 (by omega) (by omega), show ((i : Int) + 1) = ((i + 1 : Nat) : Int) by simp]
    exact ih k (i + 1) _ (by omega) (by omega) (by omega) h1
theorem roundI {C : List Int} (A : AllC C) (hl : C.length ≤ 6) (k : Nat) (hk : 10 < k) : impl_round.f k C = some (rnd C) := by
  unfold impl_round.f
  have := round_l0 impl_round.l0 (fun _ _ _ _ _ => rfl) A hl C.length k 0 1 (by omega) (by omega) (by omega) (by have := rnd_bd A hl; simpa using this.2)
  simpa using this
theorem roundS {C : List Int} (A : AllC C) (hl : C.length ≤ 6) (k : Nat) (hk : 10 < k) : spec_tbRound.f k C = some (rnd C) := by
  unfold spec_tbRound.f
  have := round_l0 spec_tbRound.l0 (fun _ _ _ _ _ => rfl) A hl C.length k 0 1 (by omega) (by omega) (by omega) (by have := rnd_bd A hl; simpa using this.2)
  simpa using this
/-! numbers of drops -/
theorem num_bd : ∀ {C H : List Int}, AllC C → hOk C H = true → H.length = C.length → 0 ≤ num C H ∧ num C H < rnd C
  | [], [], _, _, _ => by simp [num, rnd]
  | [], _ :: _, _, _, h => by simp at h
  | _ :: _, [], _, _, h => by simp at h
  | c :: C, h :: H, A, ho, hl => by
    simp only [hOk, Bool.and_eq_true, decide_eq_true_eq] at ho
    have ih := num_bd A.tail.2 ho.2 (by simpa using hl)
    have hc := A.tail.1
    simp only [num, rnd]
    have h1 : c * (num C H + 1) ≤ c * rnd C := Int.mul_le_mul_of_nonneg_left (by omega) (by omega)
    rw [Int.mul_add, Int.mul_one] at h1
    have h2 : 0 ≤ c * num C H := Int.mul_nonneg (by omega) ih.1
    omega
theorem hOk_drop : ∀ (C H : List Int) (i : Nat), hOk C H = true → hOk (C.drop i) (H.drop i) = true
  | _, _, 0, h => by simpa using h
  | [], H, i + 1, _ => by simp [hOk]
  | _ :: _, [], i + 1, _ => by simp [hOk]
  | c :: C, h :: H, i + 1, ho => by
    simp only [hOk, Bool.and_eq_true] at ho
    simpa using hOk_drop C H i ho.2
theorem hOk_rd : ∀ (C H : List Int) (i : Nat), hOk C H = true → i < C.length → i < H.length → 0 ≤ rd H (i : Int) ∧ rd H (i : Int) ≤ rd C (i : Int) - 1
  | [], _, _, _, h, _ => absurd h (by simp)
  | _ :: _, [], _, _, _, h => absurd h (by simp)
  | c :: C, h :: H, 0, ho, _, _ => by simp only [hOk, Bool.and_eq_true, decide_eq_true_eq] at ho; exact ho.1
  | c :: C, h :: H, i + 1, ho, h1, h2 => by
    simp only [hOk, Bool.and_eq_true] at ho
    have := hOk_rd C H i ho.2 (by simpa using h1) (by simpa using h2)
    rw [rd_nat, rd_nat] at this ⊢
    simpa using this
theorem number_l0 (f : Nat → List Int → List Int → Int → Int → Option Int)
    (hf : ∀ k C H x i, f (k + 1) C H x i = if i ≥ 0 then (if 0 ≤ i then (if i < (C.length : Int) then (if i < (H.length : Int) then f k C H (wrap64 ((wrap64 (x * (rd C i))) + (rd H i))) (wrap64 (i - 1)) else none) else none) else none) else some x)
    {C H : List Int} (A : AllC C) (hl : C.length ≤ 6) (ho : hOk C H = true) (he : H.length = C.length) : ∀ (j k : Nat), j ≤ C.length → j < k →
    f k C H (num (C.drop j) (H.drop j)) ((j : Int) - 1) = some (num C H) := by
  intro j
  induction j with
  | zero =>
    intro k hj hk
    obtain ⟨k, rfl⟩ : ∃ m, k = m + 1 := ⟨k - 1, by omega⟩
    rw [hf, if_neg (by omega)]; simp
  | succ j ih =>
    intro k hj hk
    obtain ⟨k, rfl⟩ : ∃ m, k = m + 1 := ⟨k - 1, by omega⟩
    have hc := A.cell j (by omega)
    have hr := hOk_rd C H j ho (by omega) (by omega)
    have hb := num_bd (A.drop (j + 1)) (hOk_drop C H (j + 1) ho) (by simp [he])
    have hR := rnd_le (C.drop (j + 1)) 6 (A.drop (j + 1)) (by simp; omega)
    have hR' : rnd (C.drop (j + 1)) ≤ 46656000000 := by simpa using hR
    have p0 : 0 ≤ num (C.drop (j + 1)) (H.drop (j + 1)) * rd C (j : Int) := Int.mul_nonneg hb.1 (by omega)
    have p1 : num (C.drop (j + 1)) (H.drop (j + 1)) * rd C (j : Int) ≤ 46656000000 * 60 := Int.mul_le_mul (by omega) hc.2 (by omega) (by omega)
    rw [hf, show (((j + 1 : Nat) : Int) - 1) = (j : Int) by omega, if_pos (by omega), if_pos (by omega), if_pos (by omega), if_pos (by omega), w64 (x := num (C.drop (j + 1)) (H.drop (j + 1)) * rd C (j : Int)) (by omega) (by omega), w64 (by omega) (by omega), w64 (by omega) (by omega)]
    have := ih k (by omega) (by omega)
    rw [drop_rd C j (by omega), drop_rd H j (by omega)] at this
    simp only [num] at this
    rw [Int.add_comm, Int.mul_comm] at this
    rw [← this]
theorem numI {C H : List Int} (A : AllC C) (hl : C.length ≤ 6) (ho : hOk C H = true) (he : H.length = C.length) (k : Nat) (hk : 10 < k) : impl_dropsFor.f k C H = some (num C H) := by
  unfold impl_dropsFor.f
  rw [w64 (by omega) (by omega)]
  have := number_l0 impl_dropsFor.l0 (fun _ _ _ _ _ => rfl) A hl ho he C.length k (by omega) (by omega)
  rw [List.drop_of_length_le (by omega), List.drop_of_length_le (by omega)] at this
  exact this
theorem numS {C H : List Int} (A : AllC C) (hl : C.length ≤ 6) (ho : hOk C H = true) (he : H.length = C.length) (k : Nat) (hk : 10 < k) : spec_tbNumber.f k C H = some (num C H) := by
  unfold spec_tbNumber.f
  rw [w64 (by omega) (by omega)]
  have := number_l0 spec_tbNumber.l0 (fun _ _ _ _ _ => rfl) A hl ho he C.length k (by omega) (by omega)
  rw [List.drop_of_length_le (by omega), List.drop_of_length_le (by omega)] at this
  exact this
/-! what is held, and the numbers -/
theorem held_ok : ∀ {C : List Int} (n : Int), AllC C → hOk C (held C n) = true
  | [], _, _ => rfl
  | c :: C, n, A => by
    have hc := A.tail.1
    simp only [held, hOk, Bool.and_eq_true, decide_eq_true_eq]
    exact ⟨⟨Int.emod_nonneg _ (by omega), by have := Int.emod_lt_of_pos n (show 0 < c by omega); omega⟩, held_ok _ A.tail.2⟩
theorem held_num : ∀ {C H : List Int}, AllC C → hOk C H = true → H.length = C.length → held C (num C H) = H
  | [], [], _, _, _ => rfl
  | [], _ :: _, _, _, h => by simp at h
  | _ :: _, [], _, _, h => by simp at h
  | c :: C, h :: H, A, ho, hl => by
    simp only [hOk, Bool.and_eq_true, decide_eq_true_eq] at ho
    have hc := A.tail.1
    simp only [num, held]
    rw [Int.add_mul_emod_self_left, Int.emod_eq_of_lt ho.1.1 (by omega), Int.add_mul_ediv_left _ _ (by omega), Int.ediv_eq_zero_of_lt ho.1.1 (by omega), Int.zero_add, held_num A.tail.2 ho.2 (by simpa using hl)]
theorem held_add : ∀ {C : List Int} (n m : Int), AllC C → held C (n + rnd C * m) = held C n
  | [], _, _, _ => rfl
  | c :: C, n, m, A => by
    have hc := A.tail.1
    simp only [held, rnd]
    rw [Int.mul_assoc, Int.add_mul_emod_self_left, Int.add_mul_ediv_left _ _ (by omega), held_add _ m A.tail.2]
theorem held_mod {C : List Int} (n : Int) (A : AllC C) : held C (n % rnd C) = held C n := by
  have := held_add (n % rnd C) (n / rnd C) A
  rw [Int.emod_add_mul_ediv] at this
  exact this.symm
theorem held_cong {C : List Int} (n m : Int) (A : AllC C) (h : n % rnd C = m % rnd C) : held C n = held C m := by rw [← held_mod n A, h, held_mod m A]
theorem num_held : ∀ {C : List Int} (n : Int), AllC C → num C (held C n) = n % rnd C
  | [], n, _ => by simp [num, held, rnd, Int.emod_one]
  | c :: C, n, A => by
    have hc := A.tail.1
    have hb := num_bd A (held_ok n A) (held_len _ n)
    have h1 : num (c :: C) (held (c :: C) n) = num (c :: C) (held (c :: C) n) % rnd (c :: C) := (Int.emod_eq_of_lt hb.1 hb.2).symm
    rw [h1]
    simp only [num, held, rnd]
    rw [num_held (n / c) A.tail.2]
    have h2 : n / c % rnd C = n / c - rnd C * (n / c / rnd C) := by have := Int.emod_add_mul_ediv (n / c) (rnd C); omega
    rw [h2, Int.mul_sub, ← Int.mul_assoc]
    have h3 := Int.emod_add_mul_ediv n c
    rw [show n % c + (c * (n / c) - c * rnd C * (n / c / rnd C)) = n + c * rnd C * (-(n / c / rnd C)) by rw [Int.mul_neg]; omega, Int.add_mul_emod_self_left]
/-! tips -/
theorem tip_rel : ∀ (C : List Int) (n : Int) (i : Nat), AllC C → 0 ≤ n → i < C.length →
    (0 ≤ rd (held C n) (i : Int) ∧ rd (held C n) (i : Int) < rd C (i : Int)) ∧ rd (tips C n) (i : Int) * rd C (i : Int) + rd (held C n) (i : Int) = (if i = 0 then n else rd (tips C n) ((i : Int) - 1)) ∧ 0 ≤ rd (tips C n) (i : Int) ∧ rd (tips C n) (i : Int) ≤ n
  | [], _, _, _, _, h => absurd h (by simp)
  | c :: C, n, 0, A, h0, _ => by
    have hc := A.tail.1
    have hd := div_bd h0 hc.1
    refine ⟨⟨Int.emod_nonneg _ (by omega), Int.emod_lt_of_pos n (by omega)⟩, ?_, hd.1, hd.2⟩
    show n / c * c + n % c = n
    rw [Int.mul_comm]; have := Int.emod_add_mul_ediv n c; omega
  | c :: C, n, i + 1, A, h0, hi => by
    have hc := A.tail.1
    have hd := div_bd h0 hc.1
    have ih := tip_rel C (n / c) i A.tail.2 hd.1 (by simpa using hi)
    have e : ∀ (x : Int) (l : List Int), rd (x :: l) ((i + 1 : Nat) : Int) = rd l (i : Int) := fun x l => by rw [rd_nat, rd_nat]; rfl
    simp only [held, tips]
    rw [e, e, e]
    refine ⟨ih.1, ?_, ih.2.2.1, Int.le_trans ih.2.2.2 hd.2⟩
    rw [ih.2.1]
    cases i with
    | zero => simp only [if_true]; rfl
    | succ j =>
      rw [if_neg (by omega), if_neg (by omega)]
      have e2 : rd (n / c :: tips C (n / c)) (((j + 1 + 1 : Nat) : Int) - 1) = rd (tips C (n / c)) (j : Int) := by
        rw [show (((j + 1 + 1 : Nat) : Int) - 1) = ((j + 1 : Nat) : Int) by omega, rd_nat, rd_nat]; rfl
      rw [e2, show (((j + 1 : Nat) : Int) - 1) = (j : Int) by omega]
theorem pred_div {n c : Int} (h : 1 ≤ n) (hc : 2 ≤ c) : (n - 1) / c = if n % c = 0 then n / c - 1 else n / c := by
  have h1 := Int.emod_add_mul_ediv n c
  have h2 := Int.emod_lt_of_pos n (show 0 < c by omega)
  have h3 := Int.emod_nonneg n (show c ≠ 0 by omega)
  by_cases e : n % c = 0
  · rw [if_pos e, show n - 1 = (c - 1) + c * (n / c - 1) by rw [Int.mul_sub, Int.mul_one]; omega, Int.add_mul_ediv_left _ _ (by omega), Int.ediv_eq_zero_of_lt (by omega) (by omega), Int.zero_add]
  · rw [if_neg e, show n - 1 = (n % c - 1) + c * (n / c) by omega, Int.add_mul_ediv_left _ _ (by omega), Int.ediv_eq_zero_of_lt (by omega) (by omega), Int.zero_add]
theorem tip_diff : ∀ (C : List Int) (n : Int) (i : Nat), AllC C → 1 ≤ n → i < C.length → rd (tips C n) (i : Int) - rd (tips C (n - 1)) (i : Int) = if (i : Int) < cnt C n then 1 else 0
  | [], _, _, _, _, h => absurd h (by simp)
  | c :: C, n, 0, A, h0, _ => by
    have hc := A.tail.1
    have hb := cnt_bd C (n / c)
    show n / c - (n - 1) / c = _
    rw [pred_div h0 hc.1, show cnt (c :: C) n = if n % c = 0 then 1 + cnt C (n / c) else 0 from rfl]
    by_cases e : n % c = 0
    · rw [if_pos e, if_pos e, if_pos (by omega)]; omega
    · rw [if_neg e, if_neg e, if_neg (by omega)]; omega
  | c :: C, n, i + 1, A, h0, hi => by
    have hc := A.tail.1
    have e1 : ∀ (x : Int) (l : List Int), rd (x :: l) ((i + 1 : Nat) : Int) = rd l (i : Int) := fun x l => by rw [rd_nat, rd_nat]; rfl
    simp only [tips]
    rw [e1, e1, pred_div h0 hc.1, show cnt (c :: C) n = if n % c = 0 then 1 + cnt C (n / c) else 0 from rfl]
    by_cases e : n % c = 0
    · have h1 := Int.emod_add_mul_ediv n c
      have hq : 1 ≤ n / c := by
        have hd := div_bd (show 0 ≤ n by omega) hc.1
        by_cases z : n / c = 0
        · rw [z, e] at h1; omega
        · omega
      rw [if_pos e, if_pos e, tip_diff C (n / c) i A.tail.2 hq (by simpa using hi)]
      by_cases z : (i : Int) < cnt C (n / c)
      · rw [if_pos z, if_pos (by omega)]
      · rw [if_neg z, if_neg (by omega)]
    · rw [if_neg e, if_neg e, Int.sub_self, if_neg (by omega)]
end Go.Proofs.Ytmlkdkeocbhajaa.AuxFnBucketsCount
namespace Go.Proofs.Ytmlkdkeocbhajaa.Pure
open Go.RowKit Go.Proofs.Ytmlkdkeocbhajaa.B Go.Proofs.Ytmlkdkeocbhajaa.AuxFnBucketsCount Go.Proofs.YtmlkdkeocbhajaaW.PrintLast Go.Proofs.YtmlkdkeocbhajaaW.PrintMore
open Go.Proofs.YtmlkdkeocbhajaaW.PrintWords hiding Ev
set_option linter.unusedVariables false
def QH (C H : List Int) : Prop := CapsOk C ∧ H.length = C.length ∧ hOk C H = true
instance (C H : List Int) : Decidable (QH C H) := by unfold QH; infer_instance
def DOk (n : Int) : Prop := 0 ≤ n ∧ n ≤ 1000000
instance (n : Int) : Decidable (DOk n) := by unfold DOk; infer_instance
theorem holds_impl {C H : List Int} (hl : C.length ≤ 6) (A : AllC C) (he : H.length = C.length) : ∀ (d k i : Nat), i + d = H.length → d < k → impl_areHeld.l0 k C H (H.length : Int) (i : Int) = some (hOk (C.drop i) (H.drop i)) := by
  intro d
  induction d with
  | zero =>
    intro k i hi hk
    obtain ⟨k, rfl⟩ : ∃ m, k = m + 1 := ⟨k - 1, by omega⟩
    simp only [impl_areHeld.l0]; rw [if_neg (by omega), List.drop_of_length_le (by omega)]; rfl
  | succ d ih =>
    intro k i hi hk
    obtain ⟨k, rfl⟩ : ∃ m, k = m + 1 := ⟨k - 1, by omega⟩
    have hc := A.cell i (by omega)
    simp only [impl_areHeld.l0]
    rw [if_pos (by omega), if_pos (by omega), if_pos (by omega), if_pos (by omega), in_impl, w64 (by omega) (by omega), w64 (by omega) (by omega), drop_rd C i (by omega), drop_rd H i (by omega)]
    simp only [Option.bind_some, hOk]
    have ih' := ih k (i + 1) (by omega) (by omega)
    rw [show ((i : Int) + 1) = ((i + 1 : Nat) : Int) by simp]
    split
    · rename_i h; rw [ih', h, Bool.true_and]
    · rename_i h; rw [Bool.eq_false_iff.mpr h, Bool.false_and]
theorem holds_spec {C H : List Int} (hl : C.length ≤ 6) (A : AllC C) (he : H.length = C.length) : ∀ (d k i : Nat), i + d = H.length → d < k → spec_tbHolds.l0 k C H (H.length : Int) (i : Int) = some (hOk (C.drop i) (H.drop i)) := by
  intro d
  induction d with
  | zero =>
    intro k i hi hk
    obtain ⟨k, rfl⟩ : ∃ m, k = m + 1 := ⟨k - 1, by omega⟩
    simp only [spec_tbHolds.l0]; rw [if_neg (by omega), List.drop_of_length_le (by omega)]; rfl
  | succ d ih =>
    intro k i hi hk
    obtain ⟨k, rfl⟩ : ∃ m, k = m + 1 := ⟨k - 1, by omega⟩
    have hc := A.cell i (by omega)
    simp only [spec_tbHolds.l0]
    rw [if_pos (by omega), if_pos (by omega), if_pos (by omega), if_pos (by omega), in_spec, w64 (by omega) (by omega), w64 (by omega) (by omega), drop_rd C i (by omega), drop_rd H i (by omega)]
    simp only [Option.bind_some, hOk]
    have ih' := ih k (i + 1) (by omega) (by omega)
    rw [show ((i : Int) + 1) = ((i + 1 : Nat) : Int) by simp]
    split
    · rename_i h; rw [ih', h, Bool.true_and]
    · rename_i h; rw [Bool.eq_false_iff.mpr h, Bool.false_and]
theorem heldI (k : Nat) (C H : List Int) (hk : 20 < k) : impl_areHeld.f k C H = some (decide (QH C H)) := by
  obtain ⟨k, rfl⟩ : ∃ m, k = m + 1 := ⟨k - 1, by omega⟩
  unfold impl_areHeld.f
  rw [caps_impl]; simp only [Option.bind_some]
  by_cases c : CapsOk C
  · rw [decide_eq_true c, if_pos rfl]
    by_cases e : H.length = C.length
    · rw [show ((H.length : Int) != (C.length : Int)) = false by simp [e]]
      simp only [impl_areHeld.j0, Bool.false_eq_true, if_false]
      have := holds_impl c.1.2 c.2 e H.length k 0 (by omega) (by have := c.1.2; omega)
      simp only [List.drop_zero] at this
      rw [show ((0 : Nat) : Int) = 0 from rfl] at this
      rw [this]
      congr 1
      refine Bool.eq_iff_iff.mpr ?_
      simp [QH, c, e]
    · rw [show ((H.length : Int) != (C.length : Int)) = true by simp; omega]
      simp only [impl_areHeld.j0, if_true]
      simp [QH, e]
  · rw [decide_eq_false c, if_neg (by simp)]
    simp only [impl_areHeld.j0, if_true]
    simp [QH, c]
theorem heldS (k : Nat) (C H : List Int) (hk : 20 < k) : spec_tbHolds.f k C H = some (decide (QH C H)) := by
  obtain ⟨k, rfl⟩ : ∃ m, k = m + 1 := ⟨k - 1, by omega⟩
  unfold spec_tbHolds.f
  rw [caps_spec _ _ (by omega)]; simp only [Option.bind_some]
  by_cases c : CapsOk C
  · rw [decide_eq_true c, if_pos rfl]
    by_cases e : H.length = C.length
    · rw [show ((H.length : Int) != (C.length : Int)) = false by simp [e]]
      simp only [spec_tbHolds.j0, Bool.false_eq_true, if_false]
      have := holds_spec c.1.2 c.2 e H.length k 0 (by omega) (by have := c.1.2; omega)
      simp only [List.drop_zero] at this
      rw [show ((0 : Nat) : Int) = 0 from rfl] at this
      rw [this]
      congr 1
      refine Bool.eq_iff_iff.mpr ?_
      simp [QH, c, e]
    · rw [show ((H.length : Int) != (C.length : Int)) = true by simp; omega]
      simp only [spec_tbHolds.j0, if_true]
      simp [QH, e]
  · rw [decide_eq_false c, if_neg (by simp)]
    simp only [spec_tbHolds.j0, if_true]
    simp [QH, c]
theorem dropsI (C : List Int) (n : Int) : impl_areDrops.f C n = some (decide (CapsOk C ∧ DOk n)) := by
  unfold impl_areDrops.f
  rw [caps_impl]; simp only [Option.bind_some]
  by_cases c : CapsOk C
  · rw [decide_eq_true c, if_pos rfl, in_impl]; simp [c, DOk]
  · rw [decide_eq_false c, if_neg (by simp)]; simp [c]
theorem dropsS (n : Int) : spec_tbDrops.f n = some (decide (DOk n)) := by
  unfold spec_tbDrops.f; rw [in_spec]; simp only [Option.bind_some]; rfl
/-- what the calls answer -/
def aHeld (C : List Int) (n : Int) : List Int × Bool := if CapsOk C ∧ DOk n then (held C n, true) else ([], false)
def aTips (C : List Int) (n : Int) : List Int × Bool := if CapsOk C ∧ DOk n then (tips C n, true) else ([], false)
def aDrop (C : List Int) (n : Int) : Int × Bool := if CapsOk C ∧ 1 ≤ n ∧ n ≤ 1000000 then (cnt C n, true) else (0, false)
def aRound (C : List Int) : Int × Bool := if CapsOk C then (rnd C, true) else (0, false)
def aFor (C H : List Int) : Int × Bool := if QH C H then (num C H, true) else (0, false)
def aAdd (C H : List Int) (n : Int) : List Int × Bool := if QH C H ∧ DOk n then (held C (num C H + n), true) else ([], false)
def aBack (C H : List Int) (n : Int) : List Int × Bool := if QH C H ∧ DOk n then (held C (num C H - n), true) else ([], false)
theorem HeldAfterI (k : Nat) (C : List Int) (n : Int) (hk : 20 < k) : impl_HeldAfter.f k C n = some (aHeld C n) := by
  unfold impl_HeldAfter.f aHeld
  rw [dropsI]; simp only [Option.bind_some]
  by_cases c : CapsOk C ∧ DOk n
  · rw [decide_eq_true c, if_pos rfl, if_pos c, fallen_f c.1.2 (by have := c.1.1; omega) k n (by omega) c.2.1 (by have := c.2.2; omega)]; rfl
  · rw [decide_eq_false c, if_neg (by simp), if_neg c]
theorem TipsAfterI (k : Nat) (C : List Int) (n : Int) (hk : 20 < k) : impl_TipsAfter.f k C n = some (aTips C n) := by
  unfold impl_TipsAfter.f aTips
  rw [dropsI]; simp only [Option.bind_some]
  by_cases c : CapsOk C ∧ DOk n
  · rw [decide_eq_true c, if_pos rfl, if_pos c, fallen_f c.1.2 (by have := c.1.1; omega) k n (by omega) c.2.1 (by have := c.2.2; omega)]; rfl
  · rw [decide_eq_false c, if_neg (by simp), if_neg c]
theorem HeldAfterS (k : Nat) (C : List Int) (n : Int) (hk : 20 < k) : spec_HeldAfter.f k C n = some (aHeld C n) := by
  unfold spec_HeldAfter.f aHeld
  rw [caps_spec k C (by omega), dropsS]; simp only [Option.bind_some]
  by_cases c : CapsOk C
  · rw [decide_eq_true c, if_pos rfl]
    by_cases d : DOk n
    · rw [decide_eq_true d, if_pos rfl, if_pos ⟨c, d⟩, tbHeld_f c.2 (by have := c.1; omega) k n (by omega) d.1 (by have := d.2; omega)]; rfl
    · rw [decide_eq_false d, if_neg (by simp), if_neg (fun h => d h.2)]
  · rw [decide_eq_false c, if_neg (by simp), if_neg (fun h => c h.1)]
theorem TipsAfterS (k : Nat) (C : List Int) (n : Int) (hk : 20 < k) : spec_TipsAfter.f k C n = some (aTips C n) := by
  obtain ⟨k, rfl⟩ : ∃ m, k = m + 1 := ⟨k - 1, by omega⟩
  unfold spec_TipsAfter.f aTips
  rw [caps_spec _ C (by omega), dropsS]; simp only [Option.bind_some]
  by_cases c : CapsOk C
  · rw [decide_eq_true c, if_pos rfl]
    by_cases d : DOk n
    · rw [decide_eq_true d, if_pos ⟨c, d⟩]
      simp only [spec_TipsAfter.j0, Bool.not_true, Bool.false_eq_true, if_false]
      have := tipsA_l0 c.2 (by have := c.1; omega) C.length k 0 n [] (by omega) (by have := c.1; omega) d.1 (by have := d.2; omega) (by simp)
      simpa using this
    · rw [decide_eq_false d, if_neg (fun h => d h.2)]
      simp only [spec_TipsAfter.j0, Bool.not_false, if_true]
  · rw [decide_eq_false c, if_neg (by simp), if_neg (fun h => c h.1)]
    simp only [spec_TipsAfter.j0, if_true]
theorem TipsAtDropI (k : Nat) (C : List Int) (n : Int) (hk : 20 < k) : impl_TipsAtDrop.f k C n = some (aDrop C n) := by
  obtain ⟨k, rfl⟩ : ∃ m, k = m + 1 := ⟨k - 1, by omega⟩
  unfold impl_TipsAtDrop.f aDrop
  rw [dropsI]; simp only [Option.bind_some]
  by_cases c : CapsOk C ∧ DOk n
  · rw [decide_eq_true c, if_pos rfl]
    by_cases d : n < 1
    · rw [decide_eq_true d, if_neg (by omega)]
      simp only [impl_TipsAtDrop.j0, if_true]
    · rw [decide_eq_false d, if_pos ⟨c.1, by omega, c.2.2⟩]
      simp only [impl_TipsAtDrop.j0, Bool.false_eq_true, if_false]
      have := dropI_l0 c.1.2 (by have := c.1.1; omega) C.length k 0 n 0 (by omega) (by have := c.1.1; omega) c.2.1 (by have := c.2.2; omega) (by omega) (by omega)
      simpa using this
  · rw [decide_eq_false c, if_neg (by simp), if_neg (fun h => c ⟨h.1, by omega, h.2.2⟩)]
    simp only [impl_TipsAtDrop.j0, if_true]
theorem TipsAtDropS (k : Nat) (C : List Int) (n : Int) (hk : 20 < k) : spec_TipsAtDrop.f k C n = some (aDrop C n) := by
  obtain ⟨k, rfl⟩ : ∃ m, k = m + 1 := ⟨k - 1, by omega⟩
  unfold spec_TipsAtDrop.f aDrop
  rw [caps_spec _ C (by omega), in_spec]; simp only [Option.bind_some]
  by_cases c : CapsOk C
  · rw [decide_eq_true c, if_pos rfl]
    by_cases d : 1 ≤ n ∧ n ≤ 1000000
    · rw [decide_eq_true d, if_pos ⟨c, d⟩]
      simp only [spec_TipsAtDrop.j0, Bool.not_true, Bool.false_eq_true, if_false]
      have := dropS_l0 c.2 (by have := c.1; omega) C.length k 0 n 0 (by omega) (by have := c.1; omega) (by omega) (by omega) (by omega) (by omega)
      simpa using this
    · rw [decide_eq_false d, if_neg (fun h => d h.2)]
      simp only [spec_TipsAtDrop.j0, Bool.not_false, if_true]
  · rw [decide_eq_false c, if_neg (by simp), if_neg (fun h => c h.1)]
    simp only [spec_TipsAtDrop.j0, if_true]
theorem RoundOfI (k : Nat) (C : List Int) (hk : 20 < k) : impl_RoundOf.f k C = some (aRound C) := by
  unfold impl_RoundOf.f aRound
  rw [caps_impl]; simp only [Option.bind_some]
  by_cases c : CapsOk C
  · rw [decide_eq_true c, if_pos rfl, if_pos c, roundI c.2 c.1.2 k (by omega)]; rfl
  · rw [decide_eq_false c, if_neg (by simp), if_neg c]
theorem RoundOfS (k : Nat) (C : List Int) (hk : 20 < k) : spec_RoundOf.f k C = some (aRound C) := by
  unfold spec_RoundOf.f aRound
  rw [caps_spec k C (by omega)]; simp only [Option.bind_some]
  by_cases c : CapsOk C
  · rw [decide_eq_true c, if_pos rfl, if_pos c, roundS c.2 c.1.2 k (by omega)]; rfl
  · rw [decide_eq_false c, if_neg (by simp), if_neg c]
theorem DropsForI (k : Nat) (C H : List Int) (hk : 20 < k) : impl_DropsFor.f k C H = some (aFor C H) := by
  unfold impl_DropsFor.f aFor
  rw [heldI k C H hk]; simp only [Option.bind_some]
  by_cases c : QH C H
  · rw [decide_eq_true c, if_pos rfl, if_pos c, numI c.1.2 c.1.1.2 c.2.2 c.2.1 k (by omega)]; rfl
  · rw [decide_eq_false c, if_neg (by simp), if_neg c]
theorem DropsForS (k : Nat) (C H : List Int) (hk : 20 < k) : spec_DropsFor.f k C H = some (aFor C H) := by
  unfold spec_DropsFor.f aFor
  rw [heldS k C H hk]; simp only [Option.bind_some]
  by_cases c : QH C H
  · rw [decide_eq_true c, if_pos rfl, if_pos c, numS c.1.2 c.1.1.2 c.2.2 c.2.1 k (by omega)]; rfl
  · rw [decide_eq_false c, if_neg (by simp), if_neg c]
/-- (n rem R + R) rem R is n mod R -/
theorem tmod_wrap (n R : Int) (hR : 1 ≤ R) : Int.tmod (Int.tmod n R + R) R = n % R := by
  have h1 := Int.tmod_lt_of_pos n (show 0 < R by omega)
  have h2 : -R < Int.tmod n R := by
    have := Int.lt_tmod_of_pos n (show 0 < R by omega)
    omega
  rw [tmod_e (by omega), Int.add_emod_right]
  have h3 := Int.tmod_add_mul_tdiv n R
  have h4 : n % R = (Int.tmod n R + R * Int.tdiv n R) % R := by rw [h3]
  rw [h4, Int.add_mul_emod_self_left]
theorem movedI (k : Nat) (C H : List Int) (n : Int) (hk : 20 < k) (c : QH C H) (h0 : -1000000 ≤ n) (h1 : n ≤ 1000000) : impl_moved.f k C H n = some (held C (num C H + n)) := by
  have A := c.1.2
  have hR := rnd_bd A c.1.1.2
  have hb := num_bd A c.2.2 c.2.1
  unfold impl_moved.f
  rw [roundI A c.1.1.2 k (by omega), numI A c.1.1.2 c.2.2 c.2.1 k (by omega)]; simp only [Option.bind_some]
  have t1 := Int.tmod_lt_of_pos (num C H + n) (show 0 < rnd C by omega)
  have t2 := Int.lt_tmod_of_pos (num C H + n) (show 0 < rnd C by omega)
  rw [if_neg (by omega), w64 (x := num C H + n) (by omega) (by omega), w64 (by omega) (by omega), tmod_wrap _ _ hR.1]
  have e0 := Int.emod_nonneg (num C H + n) (show rnd C ≠ 0 by omega)
  have e1 := Int.emod_lt_of_pos (num C H + n) (show 0 < rnd C by omega)
  rw [fallen_f A (by have := c.1.1; omega) k _ (by omega) e0 (by omega), held_mod _ A]; rfl
theorem AddDropsI (k : Nat) (C H : List Int) (n : Int) (hk : 20 < k) : impl_AddDrops.f k C H n = some (aAdd C H n) := by
  unfold impl_AddDrops.f aAdd
  rw [heldI k C H hk]; simp only [Option.bind_some]
  by_cases c : QH C H
  · rw [decide_eq_true c, if_pos rfl, dropsI]; simp only [Option.bind_some]
    by_cases d : DOk n
    · rw [decide_eq_true ⟨c.1, d⟩, if_pos rfl, if_pos ⟨c, d⟩, movedI k C H n hk c (by have := d.1; omega) d.2]; rfl
    · rw [decide_eq_false (fun h => d h.2), if_neg (by simp), if_neg (fun h => d h.2)]
  · rw [decide_eq_false c, if_neg (by simp), if_neg (fun h => c h.1)]
theorem BackDropsI (k : Nat) (C H : List Int) (n : Int) (hk : 20 < k) : impl_BackDrops.f k C H n = some (aBack C H n) := by
  unfold impl_BackDrops.f aBack
  rw [heldI k C H hk]; simp only [Option.bind_some]
  by_cases c : QH C H
  · rw [decide_eq_true c, if_pos rfl, dropsI]; simp only [Option.bind_some]
    by_cases d : DOk n
    · have d0 := d.1; have d1 := d.2
      rw [decide_eq_true ⟨c.1, d⟩, if_pos rfl, if_pos ⟨c, d⟩, w64 (by omega) (by omega), movedI k C H (-n) hk c (by omega) (by omega)]; rfl
    · rw [decide_eq_false (fun h => d h.2), if_neg (by simp), if_neg (fun h => d h.2)]
  · rw [decide_eq_false c, if_neg (by simp), if_neg (fun h => c h.1)]
theorem AddDropsS (k : Nat) (C H : List Int) (n : Int) (hk : 30 < k) : spec_AddDrops.f k C H n = some (aAdd C H n) := by
  obtain ⟨k, rfl⟩ : ∃ m, k = m + 1 := ⟨k - 1, by omega⟩
  unfold spec_AddDrops.f aAdd
  rw [heldS _ C H (by omega), dropsS]; simp only [Option.bind_some]
  by_cases c : QH C H
  · rw [decide_eq_true c, if_pos rfl]
    by_cases d : DOk n
    · have d0 := d.1; have d1 := d.2
      have hR := rnd_bd c.1.2 c.1.1.2
      have hb := num_bd c.1.2 c.2.2 c.2.1
      rw [decide_eq_true d, if_pos ⟨c, d⟩]
      simp only [spec_AddDrops.j0, Bool.not_true, Bool.false_eq_true, if_false]
      rw [numS c.1.2 c.1.1.2 c.2.2 c.2.1 k (by omega)]; simp only [Option.bind_some]
      rw [w64 (by omega) (by omega), tbHeld_f c.1.2 (by have := c.1.1; omega) k _ (by omega) (by omega) (by omega)]; rfl
    · rw [decide_eq_false d, if_neg (fun h => d h.2)]
      simp only [spec_AddDrops.j0, Bool.not_false, if_true]
  · rw [decide_eq_false c, if_neg (by simp), if_neg (fun h => c h.1)]
    simp only [spec_AddDrops.j0, if_true]
theorem BackDropsS (k : Nat) (C H : List Int) (n : Int) (hk : 30 < k) : spec_BackDrops.f k C H n = some (aBack C H n) := by
  obtain ⟨k, rfl⟩ : ∃ m, k = m + 1 := ⟨k - 1, by omega⟩
  unfold spec_BackDrops.f aBack
  rw [heldS _ C H (by omega), dropsS]; simp only [Option.bind_some]
  by_cases c : QH C H
  · rw [decide_eq_true c, if_pos rfl]
    by_cases d : DOk n
    · have d0 := d.1; have d1 := d.2
      have hR := rnd_bd c.1.2 c.1.1.2
      have hb := num_bd c.1.2 c.2.2 c.2.1
      rw [decide_eq_true d, if_pos ⟨c, d⟩]
      simp only [spec_BackDrops.j0, Bool.not_true, Bool.false_eq_true, if_false]
      rw [roundS c.1.2 c.1.1.2 k (by omega), numS c.1.2 c.1.1.2 c.2.2 c.2.1 k (by omega)]; simp only [Option.bind_some]
      have t0 := Int.emod_nonneg n (show rnd C ≠ 0 by omega)
      have t1 := Int.emod_lt_of_pos n (show 0 < rnd C by omega)
      rw [if_neg (by omega), tmod_e d0, w64 (x := num C H + rnd C) (by omega) (by omega), w64 (by omega) (by omega), tbHeld_f c.1.2 (by have := c.1.1; omega) k _ (by omega) (by omega) (by omega)]
      simp only [Option.bind_some]
      congr 2
      refine held_cong _ _ c.1.2 ?_
      have h3 := Int.emod_add_mul_ediv n (rnd C)
      rw [show num C H + rnd C - n % rnd C = (num C H - n) + rnd C * (1 + n / rnd C) by rw [Int.mul_add, Int.mul_one]; omega, Int.add_mul_emod_self_left]
    · rw [decide_eq_false d, if_neg (fun h => d h.2)]
      simp only [spec_BackDrops.j0, Bool.not_false, if_true]
  · rw [decide_eq_false c, if_neg (by simp), if_neg (fun h => c h.1)]
    simp only [spec_BackDrops.j0, if_true]
theorem aHeld_len (C : List Int) (n : Int) (h : C.length ≤ 8) : (aHeld C n).1.length ≤ 1000000 := by
  unfold aHeld; split
  · show (held C n).length ≤ _; rw [held_len]; omega
  · simp
theorem aTips_len (C : List Int) (n : Int) (h : C.length ≤ 8) : (aTips C n).1.length ≤ 1000000 := by
  unfold aTips; split
  · show (tips C n).length ≤ _; rw [tips_len]; omega
  · simp
theorem aAdd_len (C H : List Int) (n : Int) (h : C.length ≤ 8) : (aAdd C H n).1.length ≤ 1000000 := by
  unfold aAdd; split
  · show (held C _).length ≤ _; rw [held_len]; omega
  · simp
theorem aBack_len (C H : List Int) (n : Int) (h : C.length ≤ 8) : (aBack C H n).1.length ≤ 1000000 := by
  unfold aBack; split
  · show (held C _).length ≤ _; rw [held_len]; omega
  · simp
theorem QH_held {C : List Int} (c : CapsOk C) (n : Int) : QH C (held C n) := ⟨c, held_len C n, held_ok n c.2⟩
theorem E20 {β : Type} {f : Nat → Option β} {r : β} (h : ∀ k, 20 < k → f k = some r) : Ev f r := Ev.of 20 h
theorem E30 {β : Type} {f : Nat → Option β} {r : β} (h : ∀ k, 30 < k → f k = some r) : Ev f r := Ev.of 30 h
theorem law_j8 (C H : List Int) (m : Int) (_ : C.length ≤ 7) (hH : H.length ≤ 8) : Ev (fun k => laws_FnBucketsCount.j8 k C H m (aAdd C H m).1 (aAdd C H m).2 (aBack C H m).1) true := by
  refine Ev.succ ?_
  simp only [laws_FnBucketsCount.j8]
  by_cases q : QH C H ∧ DOk m
  · have qA : aAdd C H m = (held C (num C H + m), true) := by unfold aAdd; rw [if_pos q]
    have qB : aBack C H m = (held C (num C H - m), true) := by unfold aBack; rw [if_pos q]
    rw [qA, qB]
    obtain ⟨⟨c, he, ho⟩, dm⟩ := q
    have hn := held_num c.2 ho he
    have e1 : aBack C (held C (num C H + m)) m = (H, true) := by
      unfold aBack
      rw [if_pos ⟨QH_held c _, dm⟩, num_held _ c.2, ← hn]
      congr 1
      rw [hn]
      refine (held_cong _ _ c.2 ?_).trans hn
      rw [Int.sub_emod, Int.emod_emod_of_dvd _ (Int.dvd_refl _), ← Int.sub_emod]
      congr 1; omega
    have e2 : aAdd C (held C (num C H - m)) m = (H, true) := by
      unfold aAdd
      rw [if_pos ⟨QH_held c _, dm⟩, num_held _ c.2]
      congr 1
      refine (held_cong _ _ c.2 ?_).trans hn
      rw [Int.emod_add_emod]
      congr 1; omega
    refine Ev.pos rfl (Ev.bind (E20 fun k hk => BackDropsI k C _ m hk) (Ev.bind (E20 fun k hk => AddDropsI k C _ m hk) ?_))
    rw [e1, e2]
    exact Ev.pos rfl (Ev.bind (eSame_ev H (by omega)) (Ev.pos rfl (Ev.pos rfl (Ev.bind (eSame_ev H (by omega)) (Ev.const rfl)))))
  · have qA : (aAdd C H m).2 = false := by unfold aAdd; rw [if_neg q]
    rw [qA]
    exact Ev.neg (by simp) (Ev.const rfl)
theorem law_j5 {l : List Int} (hb : Bytes l) : Ev (fun k => laws_FnBucketsCount.j5 k l) true := by
  obtain ⟨C, H, E1, c1, c2⟩ := DrawDropsFor_ev hb
  obtain ⟨D, G, m, E2, d1, d2⟩ := DrawAddDrops_ev hb
  refine Ev.succ ?_
  simp only [laws_FnBucketsCount.j5]
  refine Ev.bind E1 (Ev.bind (E20 fun k hk => DropsForI k C H hk) (Ev.bind (E20 fun k hk => DropsForS k C H hk) (Ev.bind E2 (Ev.bind (E20 fun k hk => AddDropsI k D G m hk) (Ev.bind (E30 fun k hk => AddDropsS k D G m hk) (Ev.bind (E20 fun k hk => BackDropsI k D G m hk) (Ev.bind (E30 fun k hk => BackDropsS k D G m hk) ?_)))))))
  refine Ev.neg (by simp) (Ev.pos rfl (Ev.neg (by simp) (Ev.bind (eSame_ev _ (aAdd_len D G m (by omega))) (Ev.pos rfl (Ev.neg (by simp) (Ev.bind (eSame_ev _ (aBack_len D G m (by omega))) (Ev.pos rfl ?_)))))))
  have e : ((aBack D G m).2 != (aAdd D G m).2) = false := by unfold aBack aAdd; split <;> rfl
  rw [e]
  refine Ev.succ ?_
  simp only [laws_FnBucketsCount.j6]
  refine Ev.neg (by simp) ?_
  by_cases q : QH C H
  · have qF : aFor C H = (num C H, true) := by unfold aFor; rw [if_pos q]
    rw [qF]
    refine Ev.pos rfl (Ev.succ ?_)
    simp only [laws_FnBucketsCount.j7]
    by_cases n : num C H ≤ 1000000
    · have nb := num_bd q.1.2 q.2.2 q.2.1
      have e1 : aHeld C (num C H) = (H, true) := by
        unfold aHeld
        rw [if_pos ⟨q.1, nb.1, n⟩, held_num q.1.2 q.2.2 q.2.1]
      refine Ev.pos (decide_eq_true n) (Ev.bind (E20 fun k hk => HeldAfterI k C _ hk) ?_)
      rw [e1]
      exact Ev.pos rfl (Ev.bind (eSame_ev H (by omega)) (Ev.pos rfl (law_j8 D G m d1 d2)))
    · exact Ev.neg (by simpa using n) (law_j8 D G m d1 d2)
  · have qF : (aFor C H).2 = false := by unfold aFor; rw [if_neg q]
    rw [qF]
    refine Ev.neg (by simp) (Ev.succ ?_)
    simp only [laws_FnBucketsCount.j7]
    exact Ev.neg (by simp) (law_j8 D G m d1 d2)
theorem law_l1 {l C : List Int} {n : Int} (hb : Bytes l) (c : CapsOk C) (hn : 1 ≤ n) (hn2 : n ≤ 1000000) : ∀ (d i : Nat), i + d = C.length → Ev (fun k => laws_FnBucketsCount.l1 k l (tips C n) (cnt C n) (tips C (n - 1)) ((tips C n).length : Int) (i : Int)) true := by
  intro d
  have hl := c.1
  have l1 : (tips C n).length = C.length := tips_len C n
  have l2 : (tips C (n - 1)).length = C.length := tips_len C (n - 1)
  induction d with
  | zero =>
    intro i hi
    refine Ev.succ ?_
    simp only [laws_FnBucketsCount.l1]
    exact Ev.neg (by omega) (law_j5 hb)
  | succ d ih =>
    intro i hi
    have t := tip_diff C n i c.2 hn (by omega)
    have E := ih (i + 1) (by omega)
    refine Ev.succ ?_
    simp only [laws_FnBucketsCount.l1]
    refine Ev.pos (by omega) (Ev.pos (by omega) (Ev.pos (by omega) (Ev.pos (by omega) ?_)))
    have w : wrap64 ((i : Int) + 1) = ((i + 1 : Nat) : Int) := by rw [w64 (by omega) (by omega)]; omega
    rw [w]
    by_cases q : (i : Int) < cnt C n
    · rw [if_pos q] at t
      rw [t, show wrap64 1 = 1 from w64 (by omega) (by omega)]
      exact Ev.pos rfl (Ev.neg (by omega) (Ev.neg (by omega) E))
    · rw [if_neg q] at t
      rw [t, show wrap64 0 = 0 from w64 (by omega) (by omega)]
      exact Ev.neg (by decide) (Ev.neg q (Ev.pos (by omega) E))
theorem law_l0 {l C : List Int} {n : Int} (hb : Bytes l) (c : CapsOk C) (dn : DOk n) (x15 : Int) (hx : 1 ≤ n → x15 = cnt C n) : ∀ (d i : Nat), i + d = C.length → Ev (fun k => laws_FnBucketsCount.l0 k l C n (held C n) (tips C n) x15 (rnd C) (if i = 0 then n else rd (tips C n) ((i : Int) - 1)) C (C.length : Int) (i : Int)) true := by
  intro d
  have hl := c.1
  have l1 : (tips C n).length = C.length := tips_len C n
  have l2 : (held C n).length = C.length := held_len C n
  have dn0 := dn.1
  have dn1 := dn.2
  induction d with
  | zero =>
    intro i hi
    refine Ev.succ ?_
    simp only [laws_FnBucketsCount.l0]
    refine Ev.neg (by omega) (Ev.bind (E20 fun k hk => DropsForI k C _ hk) ?_)
    have qF : aFor C (held C n) = (n % rnd C, true) := by unfold aFor; rw [if_pos (QH_held c n), num_held n c.2]
    have hr := rnd_bd c.2 c.1.2
    rw [qF]
    refine Ev.pos rfl (Ev.neg (by omega) ?_)
    rw [show ((n % rnd C) != Int.tmod n (rnd C)) = false by rw [tmod_e dn0]; simp]
    refine Ev.succ ?_
    simp only [laws_FnBucketsCount.j2]
    refine Ev.neg (by simp) ?_
    by_cases p : n > 0
    · have hn : 1 ≤ n := by omega
      have dm : DOk (n - 1) := ⟨by omega, by omega⟩
      rw [w64 (x := n - 1) (by omega) (by omega)]
      refine Ev.pos p (Ev.bind (E20 fun k hk => TipsAfterI k C _ hk) (Ev.bind (E20 fun k hk => HeldAfterI k C _ hk) (Ev.bind (E20 fun k hk => AddDropsI k C _ 1 hk) ?_)))
      have q1 : aTips C (n - 1) = (tips C (n - 1), true) := by unfold aTips; rw [if_pos ⟨c, dm⟩]
      have q2 : aHeld C (n - 1) = (held C (n - 1), true) := by unfold aHeld; rw [if_pos ⟨c, dm⟩]
      have q3 : aAdd C (held C (n - 1)) 1 = (held C n, true) := by
        unfold aAdd
        rw [if_pos ⟨QH_held c _, ⟨by omega, by omega⟩⟩, num_held _ c.2]
        congr 1
        refine held_cong _ _ c.2 ?_
        rw [Int.emod_add_emod]
        congr 1; omega
      rw [q1, q2, q3]
      refine Ev.pos rfl (Ev.pos rfl (Ev.pos rfl (Ev.bind (eSame_ev (held C n) (by omega)) (Ev.succ ?_))))
      simp only [laws_FnBucketsCount.j3]
      rw [hx hn]
      have := law_l1 hb c hn dn1 C.length 0 (by omega)
      exact Ev.neg (by simp) (by exact_mod_cast this)
    · exact Ev.neg p (law_j5 hb)
  | succ d ih =>
    intro i hi
    have a1 : (i : Int) < (C.length : Int) := by omega
    have a2 : (i : Int) < ((held C n).length : Int) := by omega
    have a3 : (i : Int) < ((tips C n).length : Int) := by omega
    have w : wrap64 ((i : Int) + 1) = ((i + 1 : Nat) : Int) := by rw [w64 (by omega) (by omega)]; omega
    have E := ih (i + 1) (by omega)
    rw [if_neg (by omega), show (((i + 1 : Nat) : Int) - 1) = (i : Int) by omega] at E
    have cc := c.2.cell i (by omega)
    have t := tip_rel C n i c.2 dn0 (by omega)
    obtain ⟨⟨t1, t2⟩, t3, t4, t5⟩ := t
    have hm : 0 ≤ rd (tips C n) (i : Int) * rd C (i : Int) ∧ rd (tips C n) (i : Int) * rd C (i : Int) ≤ 60000000 := by
      constructor
      · exact Int.mul_nonneg t4 (by omega)
      · exact Int.le_trans (Int.mul_le_mul_of_nonneg_left cc.2 t4) (by omega)
    have w1 : wrap64 (rd (tips C n) (i : Int) * rd C (i : Int)) = rd (tips C n) (i : Int) * rd C (i : Int) := w64 (by omega) (by omega)
    have w2 : wrap64 (rd (tips C n) (i : Int) * rd C (i : Int) + rd (held C n) (i : Int)) = rd (tips C n) (i : Int) * rd C (i : Int) + rd (held C n) (i : Int) := w64 (by omega) (by omega)
    clear hm cc
    refine Ev.succ ?_
    simp only [laws_FnBucketsCount.l0]
    rw [w, w1, w2]
    refine Ev.pos a1 ?_
    refine Ev.pos (Int.natCast_nonneg i) ?_
    refine Ev.pos a1 ?_
    refine Ev.pos a2 ?_
    refine Ev.neg (Int.not_lt.2 t1) ?_
    refine Ev.neg (Int.not_le.2 t2) ?_
    refine Ev.pos a3 ?_
    exact Ev.pos t3 E
theorem FnBucketsCount : laws_FnBucketsCount.Pure := by
  intro l0 l1 _ h0 w0 _ h1 w1
  have b0 := bytes_of l0 h0 w0
  have b1 := bytes_of l1 h1 w1
  refine Ev.ex (f := fun k => laws_FnBucketsCount.f k l0 l1) ?_
  unfold laws_FnBucketsCount.f
  have hbig : ∃ b, laws_big.f l0 l1 = some b := by unfold laws_big.f; split <;> exact ⟨_, rfl⟩
  obtain ⟨b, hbig⟩ := hbig
  rw [hbig]; simp only [Option.bind_some]
  cases b with
  | true => exact Ev.pos rfl (Ev.const rfl)
  | false =>
  refine Ev.neg (by simp) ?_
  obtain ⟨C, n, E, c7⟩ := DrawHeldAfter_ev b0
  refine Ev.bind E (Ev.bind (E20 fun k hk => HeldAfterI k C n hk) (Ev.bind (E20 fun k hk => HeldAfterS k C n hk) (Ev.bind (E20 fun k hk => TipsAfterI k C n hk) (Ev.bind (E20 fun k hk => TipsAfterS k C n hk) (Ev.bind (E20 fun k hk => TipsAtDropI k C n hk) (Ev.bind (E20 fun k hk => TipsAtDropS k C n hk) (Ev.bind (E20 fun k hk => RoundOfI k C hk) (Ev.bind (E20 fun k hk => RoundOfS k C hk) ?_))))))))
  have e1 : ((aTips C n).2 != (aHeld C n).2) = false := by unfold aTips aHeld; split <;> rfl
  have e2 : ((aRound C).2 != decide (CapsOk C)) = false := by unfold aRound; split <;> simp [*]
  refine Ev.neg (by simp) (Ev.bind (eSame_ev _ (aHeld_len C n (by omega))) (Ev.pos rfl (Ev.neg (by simp) (Ev.bind (eSame_ev _ (aTips_len C n (by omega))) (Ev.pos rfl (Ev.neg (by simp) (Ev.pos rfl (Ev.neg (by simp) (Ev.pos rfl (Ev.neg (by rw [e1]; simp) ?_))))))))))
  rw [caps_impl]; simp only [Option.bind_some]
  refine Ev.neg (by rw [e2]; simp) (Ev.bind (x := decide (CapsOk C)) (Ev.of 10 fun k hk => ?_) (Ev.neg (by simp) ?_))
  · unfold spec_AreCaps.f
    rw [caps_spec k C hk]; rfl
  by_cases q : CapsOk C ∧ DOk n
  · have qH : aHeld C n = (held C n, true) := by unfold aHeld; rw [if_pos q]
    have qT : aTips C n = (tips C n, true) := by unfold aTips; rw [if_pos q]
    have qR : aRound C = (rnd C, true) := by unfold aRound; rw [if_pos q.1]
    have dn0 := q.2.1
    have dn1 := q.2.2
    have qD : ((aDrop C n).2 != decide (n > 0)) = false := by
      unfold aDrop
      by_cases p : 1 ≤ n
      · rw [if_pos ⟨q.1, p, dn1⟩]; simp; omega
      · rw [if_neg (fun h => p h.2.1)]; simp; omega
    have qX : 1 ≤ n → (aDrop C n).1 = cnt C n := fun p => by unfold aDrop; rw [if_pos ⟨q.1, p, dn1⟩]
    rw [qH]
    refine Ev.pos (by first | rfl | trivial) ?_
    rw [qD, qT, qR]
    refine Ev.succ ?_
    simp only [laws_FnBucketsCount.j0]
    have := law_l0 b1 q.1 q.2 (aDrop C n).1 qX C.length 0 (by omega)
    rw [if_pos rfl] at this
    exact Ev.neg (by simp) (Ev.pos (by first | rfl | trivial) (by exact_mod_cast this))
  · have qH : (aHeld C n).2 = false := by unfold aHeld; rw [if_neg q]
    have qD : ((aDrop C n).2 != false) = false := by
      unfold aDrop
      rw [if_neg (fun h => q ⟨h.1, by have := h.2.1; show 0 ≤ n; omega, h.2.2⟩)]; rfl
    refine Ev.neg (by rw [qH]; simp) ?_
    rw [qD, qH]
    refine Ev.succ ?_
    simp only [laws_FnBucketsCount.j0]
    exact Ev.neg (by simp) (Ev.neg (by simp) (law_j5 b1))
end Go.Proofs.Ytmlkdkeocbhajaa.Pure
