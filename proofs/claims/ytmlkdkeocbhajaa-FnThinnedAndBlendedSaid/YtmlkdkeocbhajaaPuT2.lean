/- Plain functions and what they come to. -/
import Derived.Test.YtmlkdkeocbhajaaPuT1
import Derived.Test.YtmlkdkeocbhajaaTx3
namespace Go.Proofs.Ytmlkdkeocbhajaa.PuB
open Go.RowKit Go.Proofs.Ytmlkdkeocbhajaa.T Go.Proofs.YtmlkdkeocbhajaaW.PrintLast Go.Proofs.YtmlkdkeocbhajaaW.PrintMore
open Go.Proofs.YtmlkdkeocbhajaaW.PrintWords hiding Ev
set_option linter.unusedVariables false
set_option linter.unusedSimpArgs false
theorem nd {p : Prop} [Decidable p] (h : ¬ p) : (!decide p) = true := by rw [decide_eq_false h]; rfl
theorem nd' {p : Prop} [Decidable p] (h : p) : ¬ (!decide p) = true := by rw [decide_eq_true h]; simp
theorem nf {p : Prop} [Decidable p] (h : ¬ p) : ¬ decide p = true := by rw [decide_eq_false h]; simp
def TOk (s t : Int) : Prop := (1 ≤ s ∧ s ≤ 60) ∧ 0 ≤ t ∧ t ≤ s
instance (s t : Int) : Decidable (TOk s t) := by unfold TOk; infer_instance
theorem isThinI (s t : Int) : impl_isThin.f s t = some (decide (TOk s t)) := by
  unfold impl_isThin.f
  simp only [in_impl, Option.bind_some]
  by_cases c : 1 ≤ s ∧ s ≤ 60
  · rw [if_pos (decide_eq_true c)]; congr 1; rw [decide_eq_decide]; exact ⟨fun h => ⟨c, h⟩, fun h => h.2⟩
  · rw [if_neg (nf c)]; congr 1; symm; rw [decide_eq_false_iff_not]; exact fun h => c h.1
theorem isThinS (s t : Int) : spec_saThins.f s t = some (decide (TOk s t)) := by
  unfold spec_saThins.f
  simp only [in_spec, Option.bind_some]
  by_cases c : 1 ≤ s ∧ s ≤ 60
  · rw [if_pos (decide_eq_true c)]; congr 1; rw [decide_eq_decide]; exact ⟨fun h => ⟨c, h⟩, fun h => h.2⟩
  · rw [if_neg (nf c)]; congr 1; symm; rw [decide_eq_false_iff_not]; exact fun h => c h.1
/-- The share behind n steps. -/
def th (s t : Int) : Nat → Option (Int × Int)
  | 0 => some (1, 1)
  | n + 1 => match th s t n with
    | none => none
    | some r => if (rat (r.1 * (s - t)) (r.2 * s)).2.2 = true then some ((rat (r.1 * (s - t)) (r.2 * s)).1, (rat (r.1 * (s - t)) (r.2 * s)).2.1) else none
def thr (s t : Int) (n : Nat) : Int × Int × Bool := match th s t n with
  | none => (0, 0, false)
  | some r => (r.1, r.2, true)
theorem th_none (s t : Int) (n : Nat) (h : th s t n = none) : ∀ d, th s t (n + d) = none
  | 0 => h
  | d + 1 => by
    show (match th s t (n + d) with | none => none | some r => _) = _
    rw [th_none s t n h d]
theorem th_bd {s t : Int} : ∀ {n : Nat} {r : Int × Int}, th s t n = some r → RQ r.1 r.2
  | 0, r, h => by
    obtain rfl := Option.some.inj h
    exact ⟨by decide, by decide, by decide⟩
  | n + 1, r, h => by
    simp only [th] at h
    cases e : th s t n with
    | none => rw [e] at h; cases h
    | some q =>
      rw [e] at h
      by_cases c : (rat (q.1 * (s - t)) (q.2 * s)).2.2 = true
      · simp only [c, if_true] at h
        obtain rfl := Option.some.inj h
        exact of_decide_eq_true c
      · simp only [c] at h; cases h
theorem thin_step {s t : Int} (hs : 1 ≤ s ∧ s ≤ 60) (ht : 0 ≤ t ∧ t ≤ s) {r : Int × Int} (h : RQ r.1 r.2) : wrap64 (r.1 * wrap64 (s - t)) = r.1 * (s - t) ∧ wrap64 (r.2 * s) = r.2 * s ∧ 1 ≤ r.2 * s ∧ r.2 * s ≤ 60000000000 ∧ (r.1 * (s - t)).natAbs ≤ 60000000000 ∧ wrap64 (s - t) = s - t := by
  obtain ⟨⟨a0, a1⟩, ⟨b0, b1⟩, _⟩ := h
  have w : wrap64 (s - t) = s - t := w64 (by omega) (by omega)
  have m1 : r.2 * s ≤ 1000000000 * s := Int.mul_le_mul_of_nonneg_right b1 (by omega)
  have m2 : 1 * s ≤ r.2 * s := Int.mul_le_mul_of_nonneg_right b0 (by omega)
  have m3 : r.1 * (s - t) ≤ 1000000000 * (s - t) := Int.mul_le_mul_of_nonneg_right a1 (by omega)
  have m4 : -1000000000 * (s - t) ≤ r.1 * (s - t) := Int.mul_le_mul_of_nonneg_right a0 (by omega)
  rw [w]
  exact ⟨w64 (by omega) (by omega), w64 (by omega) (by omega), by omega, by omega, by omega, rfl⟩
theorem thin_impl {s t : Int} (hs : 1 ≤ s ∧ s ≤ 60) (ht : 0 ≤ t ∧ t ≤ s) (n : Nat) (hn : n ≤ 50) : ∀ (d i : Nat) (r : Int × Int), i + d = n → th s t i = some r → Ev (fun k => impl_ThinShare.l0 k s t (n : Int) (i : Int) r.1 r.2) (thr s t n)
  | 0, i, r, hi, h => by
    refine Ev.succ ?_
    simp only [impl_ThinShare.l0]
    refine Ev.neg (by omega) (Ev.const ?_)
    unfold thr
    rw [show n = i by omega, h]
  | d + 1, i, r, hi, h => by
    obtain ⟨w1, w2, b1, b2, b3, _⟩ := thin_step hs ht (th_bd h)
    refine Ev.succ ?_
    simp only [impl_ThinShare.l0]
    rw [w1, w2]
    refine Ev.pos (by omega) (Ev.bind (made_ev _ _ b1 (by omega) (by omega)) ?_)
    have e : th s t (i + 1) = if (rat (r.1 * (s - t)) (r.2 * s)).2.2 = true then some ((rat (r.1 * (s - t)) (r.2 * s)).1, (rat (r.1 * (s - t)) (r.2 * s)).2.1) else none := by simp only [th, h]
    by_cases c : (rat (r.1 * (s - t)) (r.2 * s)).2.2 = true
    · rw [if_pos c] at e
      refine Ev.pos c ?_
      rw [w64 (by omega) (by omega)]
      have := thin_impl hs ht n hn d (i + 1) _ (by omega) e
      exact_mod_cast this
    · rw [if_neg c] at e
      refine Ev.neg c (Ev.const ?_)
      unfold thr
      rw [show n = i + 1 + d by omega, th_none s t _ e d]
theorem thin_spec {s t : Int} (hs : 1 ≤ s ∧ s ≤ 60) (ht : 0 ≤ t ∧ t ≤ s) (n : Nat) (hn : n ≤ 50) : ∀ (d i : Nat) (r : Int × Int), i + d = n → th s t i = some r → Ev (fun k => spec_saThin.l0 k s t (d : Int) r.1 r.2) (thr s t n)
  | 0, i, r, hi, h => by
    refine Ev.succ ?_
    simp only [spec_saThin.l0]
    refine Ev.neg (by omega) (Ev.const ?_)
    unfold thr
    rw [show n = i by omega, h]
  | d + 1, i, r, hi, h => by
    obtain ⟨w1, w2, b1, b2, b3, w3⟩ := thin_step hs ht (th_bd h)
    refine Ev.succ ?_
    simp only [spec_saThin.l0, spec_saTimes.f]
    rw [w1, w2]
    refine Ev.pos (by omega) (Ev.bind (Ev.bind (saRatio_ev _ _ b1 (by omega) (by omega)) (Ev.const rfl)) ?_)
    have e : th s t (i + 1) = if (rat (r.1 * (s - t)) (r.2 * s)).2.2 = true then some ((rat (r.1 * (s - t)) (r.2 * s)).1, (rat (r.1 * (s - t)) (r.2 * s)).2.1) else none := by simp only [th, h]
    by_cases c : (rat (r.1 * (s - t)) (r.2 * s)).2.2 = true
    · rw [if_pos c] at e
      refine Ev.pos c ?_
      rw [w64 (x := ((d + 1 : Nat) : Int) - 1) (by omega) (by omega), show ((d + 1 : Nat) : Int) - 1 = (d : Int) by omega]
      exact thin_spec hs ht n hn d (i + 1) _ (by omega) e
    · rw [if_neg c] at e
      refine Ev.neg c (Ev.const ?_)
      unfold thr
      rw [show n = i + 1 + d by omega, th_none s t _ e d]
def aThin (s t n : Int) : Int × Int × Bool := if TOk s t ∧ 0 ≤ n ∧ n ≤ 50 then thr s t n.toNat else (0, 0, false)
theorem ThinI (s t n : Int) : Ev (fun k => impl_ThinShare.f k s t n) (aThin s t n) := by
  unfold impl_ThinShare.f
  simp only [isThinI, in_impl, Option.bind_some]
  by_cases c : TOk s t
  · refine Ev.pos (decide_eq_true c) (Ev.succ ?_)
    simp only [impl_ThinShare.j0]
    by_cases d : 0 ≤ n ∧ n ≤ 50
    · refine Ev.neg (nd' d) ?_
      unfold aThin
      rw [if_pos ⟨c, d⟩]
      have := thin_impl c.1 c.2 n.toNat (by omega) n.toNat 0 (1, 1) (by omega) rfl
      rw [Int.toNat_of_nonneg d.1] at this
      exact this
    · unfold aThin
      rw [if_neg (fun h => d h.2)]
      exact Ev.pos (nd d) (Ev.const rfl)
  · refine Ev.neg (nf c) (Ev.succ ?_)
    simp only [impl_ThinShare.j0]
    unfold aThin
    rw [if_neg (fun h => c h.1)]
    exact Ev.pos (by first | rfl | trivial) (Ev.const rfl)
theorem saThin_ev {s t : Int} (c : TOk s t) (n : Nat) (hn : n ≤ 50) : Ev (fun k => spec_saThin.f k s t (n : Int)) (thr s t n) := by
  unfold spec_saThin.f
  exact thin_spec c.1 c.2 n hn n 0 (1, 1) (by omega) rfl
theorem ThinS (s t n : Int) : Ev (fun k => spec_ThinShare.f k s t n) (aThin s t n) := by
  unfold spec_ThinShare.f
  simp only [isThinS, in_spec, Option.bind_some]
  by_cases c : TOk s t
  · refine Ev.pos (decide_eq_true c) ?_
    by_cases d : 0 ≤ n ∧ n ≤ 50
    · unfold aThin
      rw [if_pos ⟨c, d⟩]
      have := saThin_ev c n.toNat (by omega)
      rw [Int.toNat_of_nonneg d.1] at this
      exact Ev.pos (decide_eq_true d) (Ev.bind this (Ev.const rfl))
    · unfold aThin
      rw [if_neg (fun h => d h.2)]
      exact Ev.neg (nf d) (Ev.const rfl)
  · unfold aThin
    rw [if_neg (fun h => c h.1)]
    exact Ev.neg (nf c) (Ev.const rfl)
/-- The first time at which the share is no greater. -/
def tt (s t N D : Int) : Nat → Nat → Int × Bool
  | 0, _ => (0, false)
  | f + 1, n => match th s t n with
    | none => (0, false)
    | some r => if r.1 * D ≤ N * r.2 then ((n : Int), true) else tt s t N D f (n + 1)
theorem mul_bd {a b : Int} (ha : -1000000000 ≤ a ∧ a ≤ 1000000000) (hb : 1 ≤ b ∧ b ≤ 1000000000) : -1000000000000000000 ≤ a * b ∧ a * b ≤ 1000000000000000000 := by
  have m1 : a * b ≤ 1000000000 * b := Int.mul_le_mul_of_nonneg_right ha.2 (by omega)
  have m2 : -1000000000 * b ≤ a * b := Int.mul_le_mul_of_nonneg_right ha.1 (by omega)
  omega
theorem tt_ev {s t N D : Int} (c : TOk s t) (hR : RQ N D) : ∀ (f n : Nat), n + f = 51 → Ev (fun k => impl_TimesToThin.l0 k s t (n : Int) N D) (tt s t N D f n) ∧ Ev (fun k => spec_TimesToThin.l0 k s t (n : Int) N D) (tt s t N D f n)
  | 0, n, hn => by
    refine ⟨Ev.succ ?_, Ev.succ ?_⟩
    · simp only [impl_TimesToThin.l0]; exact Ev.neg (by omega) (Ev.const rfl)
    · simp only [spec_TimesToThin.l0]; exact Ev.neg (by omega) (Ev.const rfl)
  | f + 1, n, hn => by
    have E1 := ThinI s t (n : Int)
    have ea : aThin s t (n : Int) = thr s t n := by unfold aThin; rw [if_pos ⟨c, by omega, by omega⟩, Int.toNat_natCast]
    rw [ea] at E1
    have E2 := saThin_ev c n (by omega)
    have ih := tt_ev c hR f (n + 1) (by omega)
    have w : wrap64 ((n : Int) + 1) = ((n + 1 : Nat) : Int) := by rw [w64 (by omega) (by omega)]; omega
    refine ⟨Ev.succ ?_, Ev.succ ?_⟩
    · simp only [impl_TimesToThin.l0, impl_Ratio_isLess.f, Option.bind_some]
      refine Ev.pos (by omega) (Ev.bind E1 ?_)
      rw [w]
      simp only [tt]
      cases e : th s t n with
      | none =>
        have : thr s t n = (0, 0, false) := by unfold thr; rw [e]
        rw [this]; exact Ev.neg (by simp) (Ev.const rfl)
      | some r =>
        have : thr s t n = (r.1, r.2, true) := by unfold thr; rw [e]
        have B := th_bd e
        have m1 := mul_bd B.1 hR.2.1
        have m2 := mul_bd hR.1 B.2.1
        rw [this]
        dsimp only
        refine Ev.pos (by first | rfl | trivial) ?_
        rw [w64 (x := N * r.2) (by omega) (by omega), w64 (x := r.1 * D) (by omega) (by omega)]
        by_cases q : r.1 * D ≤ N * r.2
        · rw [if_pos q]; exact Ev.neg (nf (by omega)) (Ev.const rfl)
        · rw [if_neg q]; exact Ev.pos (decide_eq_true (by omega)) ih.1
    · simp only [spec_TimesToThin.l0]
      refine Ev.pos (by omega) (Ev.bind E2 ?_)
      rw [w]
      simp only [tt]
      cases e : th s t n with
      | none =>
        have : thr s t n = (0, 0, false) := by unfold thr; rw [e]
        rw [this]; exact Ev.neg (by simp) (Ev.const rfl)
      | some r =>
        have : thr s t n = (r.1, r.2, true) := by unfold thr; rw [e]
        have B := th_bd e
        have m1 := mul_bd B.1 hR.2.1
        have m2 := mul_bd hR.1 B.2.1
        rw [this]
        dsimp only
        refine Ev.pos (by first | rfl | trivial) ?_
        rw [w64 (x := N * r.2) (by omega) (by omega), w64 (x := r.1 * D) (by omega) (by omega)]
        by_cases q : r.1 * D ≤ N * r.2
        · rw [if_pos q]; exact Ev.pos q (Ev.const rfl)
        · rw [if_neg q]; exact Ev.neg q ih.2
def aTimes (s t N D : Int) : Int × Bool := if TOk s t ∧ RQ N D then tt s t N D 51 0 else (0, false)
theorem TimesI (s t N D : Int) : Ev (fun k => impl_TimesToThin.f k s t N D) (aTimes s t N D) := by
  unfold impl_TimesToThin.f
  simp only [isThinI, Option.bind_some]
  unfold aTimes
  by_cases c : TOk s t
  · refine Ev.pos (decide_eq_true c) (Ev.bind (isR N D) (Ev.succ ?_))
    simp only [impl_TimesToThin.j0]
    by_cases d : RQ N D
    · rw [if_pos ⟨c, d⟩]
      exact Ev.neg (nd' d) (tt_ev c d 51 0 rfl).1
    · rw [if_neg (fun h => d h.2)]
      exact Ev.pos (nd d) (Ev.const rfl)
  · refine Ev.neg (nf c) (Ev.succ ?_)
    simp only [impl_TimesToThin.j0]
    rw [if_neg (fun h => c h.1)]
    exact Ev.pos (by first | rfl | trivial) (Ev.const rfl)
theorem TimesS (s t N D : Int) : Ev (fun k => spec_TimesToThin.f k s t N D) (aTimes s t N D) := by
  unfold spec_TimesToThin.f
  simp only [isThinS, Option.bind_some]
  unfold aTimes
  by_cases c : TOk s t
  · refine Ev.pos (decide_eq_true c) (Ev.bind (goodR N D) (Ev.succ ?_))
    simp only [spec_TimesToThin.j0]
    by_cases d : RQ N D
    · rw [if_pos ⟨c, d⟩]
      exact Ev.neg (nd' d) (tt_ev c d 51 0 rfl).2
    · rw [if_neg (fun h => d h.2)]
      exact Ev.pos (nd d) (Ev.const rfl)
  · refine Ev.neg (nf c) (Ev.succ ?_)
    simp only [spec_TimesToThin.j0]
    rw [if_neg (fun h => c h.1)]
    exact Ev.pos (by first | rfl | trivial) (Ev.const rfl)
theorem tt_true {s t N D : Int} : ∀ (f n : Nat) (m : Int), n + f = 51 → tt s t N D f n = (m, true) → ∃ j : Nat, m = (j : Int) ∧ n ≤ j ∧ j ≤ 50 ∧ (∃ r, th s t j = some r ∧ r.1 * D ≤ N * r.2) ∧ (n < j → ∃ r, th s t (j - 1) = some r ∧ ¬ r.1 * D ≤ N * r.2)
  | 0, n, m, _, h => by simp [tt] at h
  | f + 1, n, m, hn, h => by
    simp only [tt] at h
    cases e : th s t n with
    | none => rw [e] at h; simp at h
    | some r =>
      rw [e] at h
      by_cases q : r.1 * D ≤ N * r.2
      · simp only [if_pos q, Prod.mk.injEq, and_true] at h
        exact ⟨n, h.symm, Nat.le_refl _, by omega, ⟨r, e, q⟩, fun h => absurd h (Nat.lt_irrefl _)⟩
      · simp only [if_neg q] at h
        obtain ⟨j, j1, j2, j3, j4, j5⟩ := tt_true f (n + 1) m (by omega) h
        refine ⟨j, j1, by omega, j3, j4, fun _ => ?_⟩
        by_cases z : j = n + 1
        · subst z; exact ⟨r, by simpa using e, q⟩
        · exact j5 (by omega)
end Go.Proofs.Ytmlkdkeocbhajaa.PuB
