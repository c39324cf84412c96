/- Plain functions and what they come to. -/
import Derived.Test.YtmlkdkeocbhajaaPuT4
namespace Go.Proofs.Ytmlkdkeocbhajaa.PuB
open Go.RowKit Go.Proofs.Ytmlkdkeocbhajaa.T Go.Proofs.YtmlkdkeocbhajaaW.PrintLast Go.Proofs.YtmlkdkeocbhajaaW.PrintMore
open Go.Proofs.YtmlkdkeocbhajaaW.PrintWords hiding Ev
set_option linter.unusedVariables false
set_option linter.unusedSimpArgs false
theorem wrap_off (a : Int) : ∃ k : Int, wrap64 a = a + 18446744073709551616 * k := ⟨(wrap64 a - a) / 18446744073709551616, by unfold wrap64; omega⟩
theorem wrap_add_mul (a k : Int) : wrap64 (a + 18446744073709551616 * k) = wrap64 a := by unfold wrap64; omega
theorem wmul (a b : Int) : wrap64 (wrap64 a * b) = wrap64 (a * b) := by
  obtain ⟨k, h⟩ := wrap_off a
  rw [h, Int.add_mul, Int.mul_assoc, wrap_add_mul]
theorem wmul' (a b : Int) : wrap64 (a * wrap64 b) = wrap64 (a * b) := by rw [Int.mul_comm, wmul, Int.mul_comm]
theorem wadd (a b : Int) : wrap64 (wrap64 a + wrap64 b) = wrap64 (a + b) := by
  obtain ⟨k, h⟩ := wrap_off a
  obtain ⟨m, g⟩ := wrap_off b
  rw [h, g, show a + 18446744073709551616 * k + (b + 18446744073709551616 * m) = a + b + 18446744073709551616 * (k + m) by omega, wrap_add_mul]
/-- What is so of the amounts that are told. -/
structure Told (pn pd qn qd gn gd x y : Int) : Prop where
  x0 : 0 ≤ x ∧ x ≤ 1000000000
  y0 : 0 ≤ y ∧ y ≤ 1000000000
  s1 : 1 ≤ x + y
  eq : (x * pn * qd + y * qn * pd) * gd = gn * (x + y) * pd * qd
  turn : ∃ u v, aBl qn qd pn pd gn gd = (u, v, true) ∧ ((pn = qn ∧ pd = qd) ∨ u = y ∧ v = x)
theorem bl_told {pn pd qn qd gn gd x y : Int} (h : aBl pn pd qn qd gn gd = (x, y, true)) : Told pn pd qn qd gn gd x y := by
  unfold aBl at h
  by_cases c : R3 pn pd qn qd gn gd
  rotate_left
  · rw [if_neg c] at h; simp at h
  rw [if_pos c] at h
  obtain ⟨hp, hq, hg⟩ := c
  have T : aBl qn qd pn pd gn gd = bl qn qd pn pd gn gd := by unfold aBl; rw [if_pos (show R3 qn qd pn pd gn gd from ⟨hq, hp, hg⟩)]
  have eu : un qn qd gn gd = -(ov qn qd gn gd) := by unfold un ov; omega
  have eo : ov pn pd gn gd = -(un pn pd gn gd) := by unfold un ov; omega
  unfold bl at h
  by_cases c1 : un pn pd gn gd = 0
  · rw [if_pos c1] at h
    simp only [Prod.mk.injEq, and_true] at h
    obtain ⟨rfl, rfl⟩ := h
    have eqp := (un_zero hp hg).1 c1
    refine ⟨by decide, by decide, by decide, ?_, ?_⟩
    · rw [eqp.1, eqp.2]; simp only [Int.one_mul, Int.zero_mul, Int.add_zero, Int.mul_one]
      rw [Int.mul_assoc, Int.mul_assoc, Int.mul_comm qd gd]
    · by_cases c2 : ov qn qd gn gd = 0
      · refine ⟨1, 0, ?_, .inl ?_⟩
        · rw [T]; unfold bl; rw [if_pos (by rw [eu, c2]; rfl)]
        · have e2 := (un_zero hg hq).1 c2
          exact ⟨by rw [eqp.1, e2.1], by rw [eqp.2, e2.2]⟩
      · refine ⟨0, 1, ?_, .inr ⟨rfl, rfl⟩⟩
        rw [T]; unfold bl; rw [if_neg (by rw [eu]; omega), if_pos (by rw [eo, c1]; rfl)]
  rw [if_neg c1] at h
  by_cases c2 : ov qn qd gn gd = 0
  · rw [if_pos c2] at h
    simp only [Prod.mk.injEq, and_true] at h
    obtain ⟨rfl, rfl⟩ := h
    have eqq := (un_zero hg hq).1 c2
    refine ⟨by decide, by decide, by decide, ?_, ⟨1, 0, ?_, .inr ⟨rfl, rfl⟩⟩⟩
    · rw [← eqq.1, ← eqq.2]; simp only [Int.one_mul, Int.zero_mul, Int.zero_add, Int.mul_one]
    · rw [T]; unfold bl; rw [if_pos (by rw [eu, c2]; rfl)]
  rw [if_neg c2] at h
  by_cases c3 : (decide (ov qn qd gn gd < 0) != decide (un pn pd gn gd < 0)) = true
  · rw [if_pos c3] at h; simp at h
  rw [if_neg c3] at h
  have sg : (ov qn qd gn gd < 0 ∧ un pn pd gn gd < 0) ∨ (0 < ov qn qd gn gd ∧ 0 < un pn pd gn gd) := by
    rcases Int.lt_or_gt_of_ne c1 with p1 | p1 <;> rcases Int.lt_or_gt_of_ne c2 with p2 | p2
    · exact .inl ⟨p2, p1⟩
    · exact absurd (by rw [decide_eq_false (by omega), decide_eq_true p1]; rfl) c3
    · exact absurd (by rw [decide_eq_true p2, decide_eq_false (by omega)]; rfl) c3
    · exact .inr ⟨p2, p1⟩
  unfold lim at h
  by_cases l : blX pn pd qn qd gn gd ≤ 1000000000 ∧ blY pn pd qn qd gn gd ≤ 1000000000
  rotate_left
  · rw [if_neg l] at h; simp at h
  rw [if_pos l] at h
  simp only [Prod.mk.injEq, and_true] at h
  obtain ⟨rfl, rfl⟩ := h
  obtain ⟨a0, rfl⟩ := Int.eq_ofNat_of_zero_le (show 0 ≤ pd by have := hp.2.1; omega)
  obtain ⟨b0, rfl⟩ := Int.eq_ofNat_of_zero_le (show 0 ≤ qd by have := hq.2.1; omega)
  have ha : 0 < a0 := by have := hp.2.1; omega
  have hb : 0 < b0 := by have := hq.2.1; omega
  have hA : 0 < (ov qn (b0 : Int) gn gd).natAbs * a0 := Nat.mul_pos (by omega) ha
  have hB : 0 < (un pn (a0 : Int) gn gd).natAbs * b0 := Nat.mul_pos (by omega) hb
  have hX : blX pn (a0 : Int) qn (b0 : Int) gn gd = (ov qn (b0 : Int) gn gd).natAbs * a0 / Nat.gcd ((ov qn (b0 : Int) gn gd).natAbs * a0) ((un pn (a0 : Int) gn gd).natAbs * b0) := rfl
  have hY : blY pn (a0 : Int) qn (b0 : Int) gn gd = (un pn (a0 : Int) gn gd).natAbs * b0 / Nat.gcd ((ov qn (b0 : Int) gn gd).natAbs * a0) ((un pn (a0 : Int) gn gd).natAbs * b0) := rfl
  have hX' : blX qn (b0 : Int) pn (a0 : Int) gn gd = blY pn (a0 : Int) qn (b0 : Int) gn gd := by
    rw [hY]
    show (ov pn (a0 : Int) gn gd).natAbs * b0 / Nat.gcd ((ov pn (a0 : Int) gn gd).natAbs * b0) ((un qn (b0 : Int) gn gd).natAbs * a0) = _
    rw [eo, eu, Int.natAbs_neg, Int.natAbs_neg, Nat.gcd_comm]
  have hY' : blY qn (b0 : Int) pn (a0 : Int) gn gd = blX pn (a0 : Int) qn (b0 : Int) gn gd := by
    rw [hX]
    show (un qn (b0 : Int) gn gd).natAbs * a0 / Nat.gcd ((ov pn (a0 : Int) gn gd).natAbs * b0) ((un qn (b0 : Int) gn gd).natAbs * a0) = _
    rw [eo, eu, Int.natAbs_neg, Int.natAbs_neg, Nat.gcd_comm]
  generalize hXg : blX pn (a0 : Int) qn (b0 : Int) gn gd = X at *
  generalize hYg : blY pn (a0 : Int) qn (b0 : Int) gn gd = Y at *
  have hg0 : 0 < Nat.gcd ((ov qn (b0 : Int) gn gd).natAbs * a0) ((un pn (a0 : Int) gn gd).natAbs * b0) := Nat.gcd_pos_of_pos_left _ hA
  have mX : Nat.gcd ((ov qn (b0 : Int) gn gd).natAbs * a0) ((un pn (a0 : Int) gn gd).natAbs * b0) * X = (ov qn (b0 : Int) gn gd).natAbs * a0 := by rw [hX]; exact Nat.mul_div_cancel' (Nat.gcd_dvd_left _ _)
  have mY : Nat.gcd ((ov qn (b0 : Int) gn gd).natAbs * a0) ((un pn (a0 : Int) gn gd).natAbs * b0) * Y = (un pn (a0 : Int) gn gd).natAbs * b0 := by rw [hY]; exact Nat.mul_div_cancel' (Nat.gcd_dvd_right _ _)
  have pX : 0 < X := Nat.pos_of_ne_zero fun z => by rw [z, Nat.mul_zero] at mX; omega
  have pY : 0 < Y := Nat.pos_of_ne_zero fun z => by rw [z, Nat.mul_zero] at mY; omega
  have rel : X * ((un pn (a0 : Int) gn gd).natAbs * b0) = Y * ((ov qn (b0 : Int) gn gd).natAbs * a0) := by
    clear hX hY
    generalize Nat.gcd ((ov qn (b0 : Int) gn gd).natAbs * a0) ((un pn (a0 : Int) gn gd).natAbs * b0) = G at mX mY
    rw [← mX, ← mY]; simp only [Nat.mul_assoc, Nat.mul_left_comm, Nat.mul_comm]
  have reli : (X : Int) * (un pn (a0 : Int) gn gd * (b0 : Int)) = (Y : Int) * (ov qn (b0 : Int) gn gd * (a0 : Int)) := by
    have r := congrArg (fun n : Nat => (n : Int)) rel
    simp only [Int.natCast_mul] at r
    rcases sg with ⟨s1, s2⟩ | ⟨s1, s2⟩
    · rw [Int.ofNat_natAbs_of_nonpos (by omega), Int.ofNat_natAbs_of_nonpos (by omega)] at r
      simp only [Int.neg_mul, Int.mul_neg] at r; omega
    · rw [Int.natAbs_of_nonneg (by omega), Int.natAbs_of_nonneg (by omega)] at r
      exact r
  refine ⟨⟨by omega, by omega⟩, ⟨by omega, by omega⟩, by omega, ?_, ⟨(Y : Int), (X : Int), ?_, .inr ⟨rfl, rfl⟩⟩⟩
  · unfold un ov at reli
    simp only [Int.mul_sub, Int.sub_mul, Int.add_mul, Int.mul_add, Int.mul_assoc, Int.mul_left_comm, Int.mul_comm] at reli ⊢
    omega
  · rw [T]; unfold bl
    rw [if_neg (by rw [eu]; omega), if_neg (by rw [eo]; omega), if_neg ?_]
    · unfold lim; rw [hX', hY', if_pos ⟨l.2, l.1⟩]
    · rw [eu, eo]
      rcases sg with ⟨s1, s2⟩ | ⟨s1, s2⟩
      · rw [decide_eq_false (by omega), decide_eq_false (by omega)]; simp
      · rw [decide_eq_true (by omega), decide_eq_true (by omega)]; simp
end Go.Proofs.Ytmlkdkeocbhajaa.PuB
