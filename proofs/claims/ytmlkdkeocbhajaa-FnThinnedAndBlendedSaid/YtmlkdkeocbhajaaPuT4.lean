/- Plain functions and what they come to. -/
import Derived.Test.YtmlkdkeocbhajaaPuT3
namespace Go.Proofs.Ytmlkdkeocbhajaa.PuB
open Go.RowKit Go.Proofs.Ytmlkdkeocbhajaa.T Go.Proofs.YtmlkdkeocbhajaaW.PrintLast Go.Proofs.YtmlkdkeocbhajaaW.PrintMore
open Go.Proofs.YtmlkdkeocbhajaaW.PrintWords hiding Ev
set_option linter.unusedVariables false
set_option linter.unusedSimpArgs false
theorem bl_form (A B x y : Nat) (hA : 0 < A) (c : Nat.Coprime x y) (h : x * B = y * A) : A / Nat.gcd A B = x ∧ B / Nat.gcd A B = y := by
  have hg : 0 < Nat.gcd A B := Nat.gcd_pos_of_pos_left _ hA
  have C : Nat.Coprime (A / Nat.gcd A B) (B / Nat.gcd A B) := Nat.coprime_div_gcd_div_gcd hg
  have eA : Nat.gcd A B * (A / Nat.gcd A B) = A := Nat.mul_div_cancel' (Nat.gcd_dvd_left A B)
  have eB : Nat.gcd A B * (B / Nat.gcd A B) = B := Nat.mul_div_cancel' (Nat.gcd_dvd_right A B)
  have h2 : x * (B / Nat.gcd A B) = y * (A / Nat.gcd A B) := by
    refine Nat.eq_of_mul_eq_mul_left hg ?_
    rw [Nat.mul_left_comm, eB, Nat.mul_left_comm, eA, h]
  obtain ⟨h3, h4⟩ := low_unique h2 c C
  exact ⟨h3.symm, h4.symm⟩
def ov (qn qd gn gd : Int) : Int := gn * qd - qn * gd
def un (pn pd gn gd : Int) : Int := pn * gd - gn * pd
/-- The amounts: lowest terms of |ov| pd over |un| qd. -/
def blX (pn pd qn qd gn gd : Int) : Nat := ((ov qn qd gn gd).natAbs * pd.toNat) / Nat.gcd ((ov qn qd gn gd).natAbs * pd.toNat) ((un pn pd gn gd).natAbs * qd.toNat)
def blY (pn pd qn qd gn gd : Int) : Nat := ((un pn pd gn gd).natAbs * qd.toNat) / Nat.gcd ((ov qn qd gn gd).natAbs * pd.toNat) ((un pn pd gn gd).natAbs * qd.toNat)
def bl (pn pd qn qd gn gd : Int) : Int × Int × Bool := if un pn pd gn gd = 0 then (1, 0, true) else if ov qn qd gn gd = 0 then (0, 1, true) else if (decide (ov qn qd gn gd < 0) != decide (un pn pd gn gd < 0)) = true then (0, 0, false) else lim (blX pn pd qn qd gn gd) (blY pn pd qn qd gn gd)
def R3 (pn pd qn qd gn gd : Int) : Prop := RQ pn pd ∧ RQ qn qd ∧ RQ gn gd
instance (pn pd qn qd gn gd : Int) : Decidable (R3 pn pd qn qd gn gd) := by unfold R3; infer_instance
def aBl (pn pd qn qd gn gd : Int) : Int × Int × Bool := if R3 pn pd qn qd gn gd then bl pn pd qn qd gn gd else (0, 0, false)
theorem mx_abs (z : Int) (h : z.natAbs ≤ 9000000000000000000) : mx z (wrap64 (-z)) = ((z.natAbs : Nat) : Int) := by
  rw [w64 (by omega) (by omega)]; unfold mx; omega
theorem diff_bd {a b c d : Int} (h1 : RQ a b) (h2 : RQ c d) : wrap64 (wrap64 (a * d) - wrap64 (c * b)) = a * d - c * b ∧ (a * d - c * b).natAbs ≤ 2000000000000000000 := by
  have m1 := mul_bd h1.1 h2.2.1
  have m2 := mul_bd h2.1 h1.2.1
  rw [w64 (x := a * d) (by omega) (by omega), w64 (x := c * b) (by omega) (by omega)]
  exact ⟨w64 (by omega) (by omega), by omega⟩
set_option maxHeartbeats 8000000 in
theorem bl_impl {pn pd qn qd gn gd : Int} (hp : RQ pn pd) (hq : RQ qn qd) (hg : RQ gn gd) : Ev (fun k => impl_BlendAmounts.j0 k false pn pd qn qd gn gd) (bl pn pd qn qd gn gd) := by
  obtain ⟨w1, n1⟩ := diff_bd hp hg
  obtain ⟨w2, n2⟩ := diff_bd hg hq
  refine Ev.succ ?_
  simp only [impl_BlendAmounts.j0]
  rw [w1, w2]
  refine Ev.neg (by simp) ?_
  unfold bl
  show Ev _ (if pn * gd - gn * pd = 0 then _ else if gn * qd - qn * gd = 0 then _ else if (decide (gn * qd - qn * gd < 0) != decide (pn * gd - gn * pd < 0)) = true then _ else _)
  by_cases c1 : pn * gd - gn * pd = 0
  · rw [if_pos c1]; exact Ev.pos c1 (Ev.const rfl)
  rw [if_neg c1]
  by_cases c2 : gn * qd - qn * gd = 0
  · rw [if_pos c2]; exact Ev.neg c1 (Ev.pos c2 (Ev.const rfl))
  rw [if_neg c2]
  by_cases c3 : (decide (gn * qd - qn * gd < 0) != decide (pn * gd - gn * pd < 0)) = true
  · rw [if_pos c3]; exact Ev.neg c1 (Ev.neg c2 (Ev.pos c3 (Ev.const rfl)))
  rw [if_neg c3, mx_abs _ (by omega), mx_abs _ (by omega)]
  have ho : (ov qn qd gn gd).natAbs = (gn * qd - qn * gd).natAbs := rfl
  have hu : (un pn pd gn gd).natAbs = (pn * gd - gn * pd).natAbs := rfl
  obtain ⟨a0, ha0⟩ := Int.eq_ofNat_of_zero_le (show 0 ≤ pd by have := hp.2.1; omega)
  obtain ⟨b0, hb0⟩ := Int.eq_ofNat_of_zero_le (show 0 ≤ qd by have := hq.2.1; omega)
  have a1 : 1 ≤ a0 ∧ a0 ≤ 1000000000 := by have := hp.2.1; omega
  have b1 : 1 ≤ b0 ∧ b0 ≤ 1000000000 := by have := hq.2.1; omega
  have o0 : 0 < (gn * qd - qn * gd).natAbs := by omega
  have u0 : 0 < (pn * gd - gn * pd).natAbs := by omega
  unfold blX blY
  rw [ho, hu]
  subst ha0 hb0
  rw [Int.toNat_natCast, Int.toNat_natCast]
  refine Ev.neg c1 (Ev.neg c2 (Ev.neg c3 ?_))
  generalize (gn * (b0 : Int) - qn * gd).natAbs = o at o0 n2 ⊢
  generalize (pn * gd - gn * (a0 : Int)).natAbs = u at u0 n1 ⊢
  clear c1 c2 c3 w1 w2 ho hu hp hq hg
  obtain ⟨d, o2, u2, pd1, qd1, eo, eu, dd1, dd2, cd, po, pu⟩ := low_step o u o0 u0
  obtain ⟨e, a, b, pe1, qe1, ea, eb, de1, de2, ce, pa, pb⟩ := low_step a0 b0 (by omega) (by omega)
  obtain ⟨d2, o3, b3, pd2, qd2, eo2, eb2, dd3, dd4, cd2, po3, pb3⟩ := low_step o2 b po pb
  obtain ⟨e2, u3, a3, pe2, qe2, eu2, ea2, de3, de4, ce2, pu3, pa3⟩ := low_step u2 a pu pa
  have lo2 : o2 ≤ o := by rw [← dd1]; exact Nat.div_le_self _ _
  have lu2 : u2 ≤ u := by rw [← dd2]; exact Nat.div_le_self _ _
  have la : a ≤ a0 := by rw [← de1]; exact Nat.div_le_self _ _
  have lb : b ≤ b0 := by rw [← de2]; exact Nat.div_le_self _ _
  have lo3 : o3 ≤ o2 := by rw [← dd3]; exact Nat.div_le_self _ _
  have lb3 : b3 ≤ b := by rw [← dd4]; exact Nat.div_le_self _ _
  have lu3 : u3 ≤ u2 := by rw [← de3]; exact Nat.div_le_self _ _
  have la3 : a3 ≤ a := by rw [← de4]; exact Nat.div_le_self _ _
  have form : o * a0 / Nat.gcd (o * a0) (u * b0) = o3 * a3 ∧ u * b0 / Nat.gcd (o * a0) (u * b0) = u3 * b3 := by
    refine bl_form _ _ _ _ (Nat.mul_pos o0 (by omega)) ?_ ?_
    · have x1 : Nat.Coprime o3 u3 := (cd.coprime_dvd_left ⟨d2, by rw [eo2, Nat.mul_comm]⟩).symm.coprime_dvd_left ⟨e2, by rw [eu2, Nat.mul_comm]⟩ |>.symm
      have x2 : Nat.Coprime a3 b3 := (ce.coprime_dvd_left ⟨e2, by rw [ea2, Nat.mul_comm]⟩).symm.coprime_dvd_left ⟨d2, by rw [eb2, Nat.mul_comm]⟩ |>.symm
      exact (x1.mul_right cd2).mul_left (ce2.symm.mul_right x2)
    · rw [eo, eu, ea, eb, eo2, eu2, ea2, eb2]; simp only [Nat.mul_assoc, Nat.mul_left_comm, Nat.mul_comm]
  clear eo eu ea eb eo2 eb2 eu2 ea2 cd ce cd2 ce2
  have bo : o ≤ 9000000000000000000 := Nat.le_trans n2 (by decide)
  have bu : u ≤ 9000000000000000000 := Nat.le_trans n1 (by decide)
  have ba : a0 ≤ 9000000000000000000 := Nat.le_trans a1.2 (by decide)
  have bb : b0 ≤ 9000000000000000000 := Nat.le_trans b1.2 (by decide)
  have G : ∀ x y : Nat, x ≤ 9000000000000000000 → y ≤ 9000000000000000000 → Ev (fun k => impl_gcd.f k (x : Int) (y : Int)) ((Nat.gcd x y : Nat) : Int) := fun x y hx hy => by
    unfold impl_gcd.f
    exact gcd_impl y (x : Int) (y : Int) (by omega) (by omega) (by omega)
  have G1 := G o u bo bu
  have G2 := G a0 b0 ba bb
  have G3 := G o2 b (Nat.le_trans lo2 bo) (Nat.le_trans lb bb)
  have G4 := G u2 a (Nat.le_trans lu2 bu) (Nat.le_trans la ba)
  rw [qd1] at G1; rw [qe1] at G2; rw [qd2] at G3; rw [qe2] at G4
  have t1 : wrap64 (Int.tdiv (o : Int) (d : Int)) = (o2 : Int) := by rw [tdiv_nat, dd1]; exact w64n _ (Nat.le_trans lo2 bo)
  have t2 : wrap64 (Int.tdiv (u : Int) (d : Int)) = (u2 : Int) := by rw [tdiv_nat, dd2]; exact w64n _ (Nat.le_trans lu2 bu)
  have t3 : wrap64 (Int.tdiv (a0 : Int) (e : Int)) = (a : Int) := by rw [tdiv_nat, de1]; exact w64n _ (Nat.le_trans la ba)
  have t4 : wrap64 (Int.tdiv (b0 : Int) (e : Int)) = (b : Int) := by rw [tdiv_nat, de2]; exact w64n _ (Nat.le_trans lb bb)
  have t5 : wrap64 (Int.tdiv (o2 : Int) (d2 : Int)) = (o3 : Int) := by rw [tdiv_nat, dd3]; exact w64n _ (Nat.le_trans lo3 (Nat.le_trans lo2 bo))
  have t6 : wrap64 (Int.tdiv (b : Int) (d2 : Int)) = (b3 : Int) := by rw [tdiv_nat, dd4]; exact w64n _ (Nat.le_trans lb3 (Nat.le_trans lb bb))
  have t7 : wrap64 (Int.tdiv (u2 : Int) (e2 : Int)) = (u3 : Int) := by rw [tdiv_nat, de3]; exact w64n _ (Nat.le_trans lu3 (Nat.le_trans lu2 bu))
  have t8 : wrap64 (Int.tdiv (a : Int) (e2 : Int)) = (a3 : Int) := by rw [tdiv_nat, de4]; exact w64n _ (Nat.le_trans la3 (Nat.le_trans la ba))
  rw [form.1, form.2]
  refine Ev.bind G1 (Ev.bind G2 (Ev.neg (fun h => Nat.ne_of_gt pd1 (Int.ofNat.inj h)) (Ev.neg (fun h => Nat.ne_of_gt pe1 (Int.ofNat.inj h)) ?_)))
  rw [t1, t2, t3, t4]
  refine Ev.bind G3 (Ev.bind G4 (Ev.neg (fun h => Nat.ne_of_gt pd2 (Int.ofNat.inj h)) (Ev.neg (fun h => Nat.ne_of_gt pe2 (Int.ofNat.inj h)) ?_)))
  rw [t5, t6, t7, t8, prod_impl o3 a3 po3 pa3, prod_impl u3 b3 pu3 pb3]
  simp only [Option.bind_some]
  unfold lim
  by_cases l1 : o3 * a3 ≤ 1000000000
  · by_cases l2 : u3 * b3 ≤ 1000000000
    · rw [if_pos l1, if_pos l2]; dsimp only; rw [if_pos (⟨l1, l2⟩ : o3 * a3 ≤ 1000000000 ∧ u3 * b3 ≤ 1000000000)]; exact Ev.pos rfl (Ev.pos rfl (Ev.const rfl))
    · rw [if_pos l1, if_neg l2]; dsimp only; rw [if_neg (fun h : o3 * a3 ≤ 1000000000 ∧ u3 * b3 ≤ 1000000000 => l2 h.2)]; exact Ev.pos rfl (Ev.neg (by simp) (Ev.const rfl))
  · rw [if_neg l1]; dsimp only; rw [if_neg (fun h : o3 * a3 ≤ 1000000000 ∧ u3 * b3 ≤ 1000000000 => l1 h.1)]; exact Ev.neg (by simp) (Ev.const rfl)
theorem BlendI (pn pd qn qd gn gd : Int) : Ev (fun k => impl_BlendAmounts.f k pn pd qn qd gn gd) (aBl pn pd qn qd gn gd) := by
  unfold impl_BlendAmounts.f aBl
  have N : ¬ R3 pn pd qn qd gn gd → Ev (fun k => impl_BlendAmounts.j0 k true pn pd qn qd gn gd) (0, 0, false) := fun _ => Ev.succ (by simp only [impl_BlendAmounts.j0]; exact Ev.pos (by first | rfl | trivial) (Ev.const rfl))
  by_cases c1 : RQ pn pd
  · by_cases c2 : RQ qn qd
    · by_cases c3 : RQ gn gd
      · rw [if_pos (show R3 pn pd qn qd gn gd from ⟨c1, c2, c3⟩)]
        refine Ev.bind (isR _ _) (Ev.pos (decide_eq_true c1) (Ev.bind (isR _ _) (Ev.pos (decide_eq_true c2) (Ev.bind (isR _ _) ?_))))
        rw [decide_eq_true c3]
        exact bl_impl c1 c2 c3
      · have n : ¬ R3 pn pd qn qd gn gd := fun h => c3 h.2.2
        rw [if_neg n]
        refine Ev.bind (isR _ _) (Ev.pos (decide_eq_true c1) (Ev.bind (isR _ _) (Ev.pos (decide_eq_true c2) (Ev.bind (isR _ _) ?_))))
        rw [decide_eq_false c3]
        exact N n
    · have n : ¬ R3 pn pd qn qd gn gd := fun h => c2 h.2.1
      rw [if_neg n]
      exact Ev.bind (isR _ _) (Ev.pos (decide_eq_true c1) (Ev.bind (isR _ _) (Ev.neg (nf c2) (N n))))
  · have n : ¬ R3 pn pd qn qd gn gd := fun h => c1 h.1
    rw [if_neg n]
    exact Ev.bind (isR _ _) (Ev.neg (nf c1) (N n))
/-- Equal ratios in lowest terms are one. -/
theorem un_zero {a b c d : Int} (h1 : RQ a b) (h2 : RQ c d) : a * d - c * b = 0 ↔ a = c ∧ b = d := by
  constructor
  · intro h
    have hb := h1.2.1
    have hd := h2.2.1
    have e : a * d = c * b := by omega
    have en : a.natAbs * d.natAbs = b.natAbs * c.natAbs := by rw [← Int.natAbs_mul, e, Int.natAbs_mul, Nat.mul_comm]
    have c1 : Nat.Coprime a.natAbs b.natAbs := h1.2.2
    have c2 : Nat.Coprime c.natAbs d.natAbs := h2.2.2
    obtain ⟨_, e2⟩ := low_unique en c1 c2
    have ebd : b = d := by omega
    subst ebd
    exact ⟨Int.eq_of_mul_eq_mul_right (by omega) e, rfl⟩
  · rintro ⟨rfl, rfl⟩; omega
theorem gap_spec {a b c d : Int} (h1 : RQ a b) (h2 : RQ c d) : spec_saGap.f a b c d = some ((if a * d - c * b > 0 then 1 else if a * d - c * b < 0 then -1 else 0), (((a * d - c * b).natAbs : Nat) : Int), b, d) := by
  obtain ⟨w1, n1⟩ := diff_bd h1 h2
  unfold spec_saGap.f spec_l1Sign.f
  rw [w1, abs_spec _ (by omega) (by omega)]
  by_cases p : a * d - c * b > 0
  · rw [if_pos p, if_pos p]; rfl
  · by_cases q : a * d - c * b < 0
    · rw [if_neg p, if_neg p, if_pos q, if_pos q]; rfl
    · rw [if_neg p, if_neg p, if_neg q, if_neg q]; rfl
set_option maxHeartbeats 8000000 in
theorem bl_spec {pn pd qn qd gn gd : Int} (hp : RQ pn pd) (hq : RQ qn qd) (hg : RQ gn gd) : Ev (fun k => spec_BlendAmounts.j0 k false pn pd qn qd gn gd) (bl pn pd qn qd gn gd) := by
  obtain ⟨_, n1⟩ := diff_bd hp hg
  obtain ⟨_, n2⟩ := diff_bd hg hq
  refine Ev.succ ?_
  simp only [spec_BlendAmounts.j0]
  rw [gap_spec hp hg, gap_spec hg hq]
  simp only [Option.bind_some]
  refine Ev.neg (by simp) ?_
  unfold bl
  show Ev _ (if pn * gd - gn * pd = 0 then _ else if gn * qd - qn * gd = 0 then _ else if (decide (gn * qd - qn * gd < 0) != decide (pn * gd - gn * pd < 0)) = true then _ else _)
  by_cases c1 : pn * gd - gn * pd = 0
  · rw [if_pos c1]
    have := (un_zero hp hg).1 c1
    exact Ev.pos (by rw [this.1, this.2]; simp) (Ev.const rfl)
  rw [if_neg c1]
  refine Ev.neg (by
    intro h
    simp only [Bool.and_eq_true, beq_iff_eq] at h
    exact c1 ((un_zero hp hg).2 h)) ?_
  by_cases c2 : gn * qd - qn * gd = 0
  · rw [if_pos c2]
    have := (un_zero hg hq).1 c2
    exact Ev.pos (by rw [this.1, this.2]; simp) (Ev.const rfl)
  rw [if_neg c2]
  refine Ev.neg (by
    intro h
    simp only [Bool.and_eq_true, beq_iff_eq] at h
    exact c2 ((un_zero hg hq).2 ⟨h.1.symm, h.2.symm⟩)) ?_
  have sgn : wrap64 ((if pn * gd - gn * pd > 0 then (1 : Int) else if pn * gd - gn * pd < 0 then -1 else 0) * (if gn * qd - qn * gd > 0 then (1 : Int) else if gn * qd - qn * gd < 0 then -1 else 0)) = if (decide (gn * qd - qn * gd < 0) != decide (pn * gd - gn * pd < 0)) = true then -1 else 1 := by
    rcases Int.lt_or_gt_of_ne c1 with p1 | p1 <;> rcases Int.lt_or_gt_of_ne c2 with p2 | p2
    · rw [if_neg (by omega), if_pos p1, if_neg (by omega), if_pos p2, if_neg (by simp [p1, p2])]; exact w64 (by decide) (by decide)
    · rw [if_neg (by omega), if_pos p1, if_pos p2, if_pos (by rw [decide_eq_true p1, decide_eq_false (by omega)]; rfl)]; exact w64 (by decide) (by decide)
    · rw [if_pos p1, if_neg (by omega), if_pos p2, if_pos (by rw [decide_eq_true p2, decide_eq_false (by omega)]; rfl)]; exact w64 (by decide) (by decide)
    · rw [if_pos p1, if_pos p2, if_neg (by rw [decide_eq_false (by omega), decide_eq_false (by omega)]; simp)]; exact w64 (by decide) (by decide)
  rw [sgn]
  by_cases c3 : (decide (gn * qd - qn * gd < 0) != decide (pn * gd - gn * pd < 0)) = true
  · rw [if_pos c3, if_pos c3]; exact Ev.pos (by decide) (Ev.const rfl)
  rw [if_neg c3, if_neg c3]
  refine Ev.neg (by decide) ?_
  have ho : (ov qn qd gn gd).natAbs = (gn * qd - qn * gd).natAbs := rfl
  have hu : (un pn pd gn gd).natAbs = (pn * gd - gn * pd).natAbs := rfl
  obtain ⟨a0, ha0⟩ := Int.eq_ofNat_of_zero_le (show 0 ≤ pd by have := hp.2.1; omega)
  obtain ⟨b0, hb0⟩ := Int.eq_ofNat_of_zero_le (show 0 ≤ qd by have := hq.2.1; omega)
  obtain ⟨g0, hg0⟩ := Int.eq_ofNat_of_zero_le (show 0 ≤ gd by have := hg.2.1; omega)
  have a1 : 1 ≤ a0 ∧ a0 ≤ 1000000000 := by have := hp.2.1; omega
  have b1 : 1 ≤ b0 ∧ b0 ≤ 1000000000 := by have := hq.2.1; omega
  have g1 : 1 ≤ g0 ∧ g0 ≤ 1000000000 := by have := hg.2.1; omega
  have o0 : 0 < (gn * qd - qn * gd).natAbs := by omega
  have u0 : 0 < (pn * gd - gn * pd).natAbs := by omega
  unfold blX blY
  rw [ho, hu]
  subst ha0 hb0 hg0
  rw [Int.toNat_natCast, Int.toNat_natCast]
  generalize (gn * (b0 : Int) - qn * (g0 : Int)).natAbs = o at o0 n2 ⊢
  generalize (pn * (g0 : Int) - gn * (a0 : Int)).natAbs = u at u0 n1 ⊢
  generalize (if pn * (g0 : Int) - gn * (a0 : Int) > 0 then (1 : Int) else if pn * (g0 : Int) - gn * (a0 : Int) < 0 then -1 else 0) = s1
  generalize (if gn * (b0 : Int) - qn * (g0 : Int) > 0 then (1 : Int) else if gn * (b0 : Int) - qn * (g0 : Int) < 0 then -1 else 0) = s2
  obtain ⟨x, y, cxy, rel, px, py, r, E, r1, r2⟩ := cross_ev s1 s2 o a0 g0 u g0 b0 o0 (by omega) (by omega) u0 (by omega) (by omega) (by omega) (by omega) (by omega) (by omega) (by omega) (by omega)
  have rel2 : x * (u * b0) = y * (o * a0) := by
    refine Nat.eq_of_mul_eq_mul_left (show 0 < g0 by omega) ?_
    have := rel
    rw [show u * g0 * b0 = g0 * (u * b0) by simp only [Nat.mul_assoc, Nat.mul_left_comm, Nat.mul_comm], show o * a0 * g0 = g0 * (o * a0) by simp only [Nat.mul_assoc, Nat.mul_left_comm, Nat.mul_comm]] at this
    rw [Nat.mul_left_comm, this, Nat.mul_left_comm]
  obtain ⟨f1, f2⟩ := bl_form (o * a0) (u * b0) x y (Nat.mul_pos o0 (by omega)) cxy rel2
  rw [f1, f2]
  refine Ev.bind E ?_
  unfold lim
  by_cases l : x ≤ 1000000000 ∧ y ≤ 1000000000
  · rw [if_pos l]
    have := r2.2 l
    rw [r1 this]
    exact Ev.pos rfl (Ev.const rfl)
  · rw [if_neg l]
    exact Ev.neg (fun h => l (r2.1 h)) (Ev.const rfl)
theorem BlendS (pn pd qn qd gn gd : Int) : Ev (fun k => spec_BlendAmounts.f k pn pd qn qd gn gd) (aBl pn pd qn qd gn gd) := by
  unfold spec_BlendAmounts.f aBl
  have N : ¬ R3 pn pd qn qd gn gd → Ev (fun k => spec_BlendAmounts.j0 k true pn pd qn qd gn gd) (0, 0, false) := fun _ => Ev.succ (by simp only [spec_BlendAmounts.j0]; exact Ev.pos (by first | rfl | trivial) (Ev.const rfl))
  by_cases c1 : RQ pn pd
  · by_cases c2 : RQ qn qd
    · by_cases c3 : RQ gn gd
      · rw [if_pos (show R3 pn pd qn qd gn gd from ⟨c1, c2, c3⟩)]
        refine Ev.bind (goodR _ _) (Ev.pos (decide_eq_true c1) (Ev.bind (goodR _ _) (Ev.pos (decide_eq_true c2) (Ev.bind (goodR _ _) ?_))))
        rw [decide_eq_true c3]
        exact bl_spec c1 c2 c3
      · have n : ¬ R3 pn pd qn qd gn gd := fun h => c3 h.2.2
        rw [if_neg n]
        refine Ev.bind (goodR _ _) (Ev.pos (decide_eq_true c1) (Ev.bind (goodR _ _) (Ev.pos (decide_eq_true c2) (Ev.bind (goodR _ _) ?_))))
        rw [decide_eq_false c3]
        exact N n
    · have n : ¬ R3 pn pd qn qd gn gd := fun h => c2 h.2.1
      rw [if_neg n]
      exact Ev.bind (goodR _ _) (Ev.pos (decide_eq_true c1) (Ev.bind (goodR _ _) (Ev.neg (nf c2) (N n))))
  · have n : ¬ R3 pn pd qn qd gn gd := fun h => c1 h.1
    rw [if_neg n]
    exact Ev.bind (goodR _ _) (Ev.neg (nf c1) (N n))
end Go.Proofs.Ytmlkdkeocbhajaa.PuB
