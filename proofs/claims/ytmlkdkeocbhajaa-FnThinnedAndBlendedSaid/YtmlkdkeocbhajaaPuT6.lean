/- Plain functions and what they come to. -/
import Derived.Test.YtmlkdkeocbhajaaPuT5
import Derived.Test.YtmlkdkeocbhajaaTz5
namespace Go.Proofs.Ytmlkdkeocbhajaa.PuB
open Go.RowKit Go.Proofs.Ytmlkdkeocbhajaa.T Go.Proofs.YtmlkdkeocbhajaaW.PrintLast Go.Proofs.YtmlkdkeocbhajaaW.PrintMore
open Go.Proofs.YtmlkdkeocbhajaaW.PrintWords hiding Ev
set_option linter.unusedVariables false
set_option linter.unusedSimpArgs false
open Go.Proofs.Ytmlkdkeocbhajaa.PuB
theorem DrawThin_ok {l : List Int} (h : Bytes l) : ∃ s t n, spec_DrawThinShare.f l = some (s, t, n) := by
  unfold spec_DrawThinShare.f
  obtain ⟨s, p1, s1, e1, a1, b1, m1⟩ := among_ok h 0 0 [1, 2, 3, 4, 10, 60, 61, 0] (by omega) (by omega) (by simp) (by simp)
  have hs : 0 ≤ s ∧ s ≤ 61 := by simp at m1; omega
  have hm : ∃ z, spec_l1Most.f s 1 = some z ∧ 0 ≤ z ∧ z ≤ 61 := by
    unfold spec_l1Most.f
    by_cases c : s > 1
    · rw [if_pos c]; exact ⟨_, rfl, by omega, by omega⟩
    · rw [if_neg c]; exact ⟨_, rfl, by omega, by omega⟩
  obtain ⟨z, ez, z0, z1⟩ := hm
  obtain ⟨t, p2, s2, e2, a2, b2, _⟩ := pick_ok h p1 s1 (wrap64 (z + 1)) (by omega) (by omega) (by rw [w64 (by omega) (by omega)]; omega)
  obtain ⟨n, p3, s3, e3, _, _, _⟩ := among_ok h p2 s2 [0, 1, 2, 3, 5, 50, 51, (-1)] (by omega) (by omega) (by simp) (by simp)
  refine ⟨s, t, n, ?_⟩
  simp only [e1, ez, e2, e3, Option.bind_some]
theorem ratio_ev {l : List Int} (h : Bytes l) (p s : Int) (h0 : 0 ≤ p) (h1 : p ≤ 1000000000) : ∃ N D p' s', Ev (fun k => spec_l1Cur_ratio.f k l p s) (N, D, p', s') ∧ p ≤ p' ∧ p' ≤ p + 20 := by
  obtain ⟨r1, p1, s1, e1, a1, b1, c1, d1⟩ := pick_ok h p s 8 h0 (by omega) (by omega)
  have d1 := d1 (by omega)
  have w1 : wrap64 (1 + r1) = 1 + r1 := w64 (by omega) (by omega)
  have w2 : wrap64 (3 * (1 + r1)) = 3 * (1 + r1) := w64 (by omega) (by omega)
  obtain ⟨r2, p2, s2, e2, a2, b2, c2, d2⟩ := pick_ok h p1 s1 (3 * (1 + r1)) (by omega) (by omega) (by omega)
  have d2 := d2 (by omega)
  have R := saRatio_ev r2 (1 + r1) (by omega) (by omega) (by omega)
  obtain ⟨r3, p3, s3, e3, a3, b3, c3, d3⟩ := pick_ok h p2 s2 18 (by omega) (by omega) (by omega)
  unfold spec_l1Cur_ratio.f
  simp only [e1, Option.bind_some, w1, w2, e2]
  by_cases z : r3 = 0
  · exact ⟨2, 4, p3, s3, Ev.bind R (by simp only [e3, Option.bind_some]; exact Ev.pos z (Ev.const rfl)), by omega, by omega⟩
  · by_cases z1 : r3 = 1
    · obtain ⟨x, p4, s4, e4, a4, b4, _⟩ := among_ok h p3 s3 [(-1), 1000000000, 1000000001, 4611686018427387904] (by omega) (by omega) (by simp) (by simp)
      obtain ⟨y, p5, s5, e5, a5, b5, _⟩ := among_ok h p4 s4 [1, 0, (-1), 999999999] (by omega) (by omega) (by simp) (by simp)
      exact ⟨x, y, p5, s5, Ev.bind R (by simp only [e3, e4, e5, Option.bind_some]; exact Ev.neg z (Ev.pos z1 (Ev.const rfl))), by omega, by omega⟩
    · exact ⟨_, _, p3, s3, Ev.bind R (by simp only [e3, Option.bind_some]; exact Ev.neg z (Ev.neg z1 (Ev.const rfl))), by omega, by omega⟩
theorem DrawTimes_ev {l : List Int} (h : Bytes l) : ∃ s t N D, Ev (fun k => spec_DrawTimesToThin.f k l) (s, t, N, D) := by
  obtain ⟨s, t, n, e0⟩ := DrawThin_ok h
  obtain ⟨r1, p1, s1, e1, a1, b1, c1, d1⟩ := pick_ok h 0 0 3 (by omega) (by omega) (by omega)
  have d1 := d1 (by omega)
  obtain ⟨r2, p2, s2, e2, a2, b2, c2, d2⟩ := pick_ok h p1 s1 9 (by omega) (by omega) (by omega)
  have d2 := d2 (by omega)
  obtain ⟨b, p3, s3, e3, a3, b3⟩ := one_ok h p2 s2 8 (by omega) (by omega) (by omega)
  have R := saRatio_ev (1 + r1) (1 + r2) (by omega) (by omega) (by omega)
  have w1 : wrap64 (1 + r1) = 1 + r1 := w64 (by omega) (by omega)
  have w2 : wrap64 (1 + r2) = 1 + r2 := w64 (by omega) (by omega)
  unfold spec_DrawTimesToThin.f
  simp only [e0, e1, e2, Option.bind_some, w1, w2]
  cases b with
  | true =>
    obtain ⟨N, D, p4, s4, E, _, _⟩ := ratio_ev h p3 s3 (by omega) (by omega)
    exact ⟨s, t, N, D, Ev.bind R (by simp only [e3, Option.bind_some]; exact Ev.pos (by first | rfl | trivial) (Ev.bind E (Ev.const rfl)))⟩
  | false => exact ⟨s, t, _, _, Ev.bind R (by simp only [e3, Option.bind_some]; exact Ev.neg (by simp) (Ev.const rfl))⟩
theorem mul3_bd {a b c m : Int} (ha : -1000000000 ≤ a ∧ a ≤ 1000000000) (hb : 1 ≤ b ∧ b ≤ 1000000000) (hm : 0 ≤ m ∧ m ≤ 8) : -8000000000000000000 ≤ m * a * b ∧ m * a * b ≤ 8000000000000000000 := by
  have h := mul_bd ha hb
  rw [Int.mul_assoc]
  generalize a * b = z at h
  have hm0 := hm.1
  have hm1 := hm.2
  have m1 : m * z ≤ m * 1000000000000000000 := Int.mul_le_mul_of_nonneg_left h.2 hm.1
  have m2 : m * (-1000000000000000000) ≤ m * z := Int.mul_le_mul_of_nonneg_left h.1 hm.1
  omega
theorem blend_j0 {l : List Int} (h : Bytes l) (p s : Int) (h0 : 0 ≤ p) (h1 : p ≤ 1000000) (b : Bool) (pn pd qn qd : Int) (hR : b = false → RQ pn pd ∧ RQ qn qd) : ∃ r, Ev (fun k => spec_DrawBlendAmounts.j0 k b l p s pn pd qn qd) r := by
  cases b with
  | true =>
    obtain ⟨N, D, p4, s4, E, _, _⟩ := ratio_ev h p s h0 (by omega)
    exact ⟨_, Ev.succ (by simp only [spec_DrawBlendAmounts.j0]; exact Ev.pos (by first | rfl | trivial) (Ev.bind E (Ev.const rfl)))⟩
  | false =>
    obtain ⟨hp, hq⟩ := hR rfl
    obtain ⟨x, p1, s1, e1, a1, b1, c1, d1⟩ := pick_ok h p s 4 h0 (by omega) (by omega)
    have d1 := d1 (by omega)
    obtain ⟨y, p2, s2, e2, a2, b2, c2, d2⟩ := pick_ok h p1 s1 4 (by omega) (by omega) (by omega)
    have d2 := d2 (by omega)
    have w1 : wrap64 (1 + y) = 1 + y := w64 (by omega) (by omega)
    have w2 : wrap64 (x + (1 + y)) = x + (1 + y) := w64 (by omega) (by omega)
    have B1 := mul3_bd (c := 0) hp.1 hq.2.1 (m := x) ⟨by omega, by omega⟩
    have B2 := mul3_bd (c := 0) hq.1 hp.2.1 (m := 1 + y) ⟨by omega, by omega⟩
    have B1' : -3000000000000000000 ≤ x * pn * qd ∧ x * pn * qd ≤ 3000000000000000000 := by
      have hz := mul_bd hp.1 hq.2.1
      rw [Int.mul_assoc]
      generalize pn * qd = z at hz
      have q1 : x * z ≤ x * 1000000000000000000 := Int.mul_le_mul_of_nonneg_left hz.2 c1
      have q2 : x * (-1000000000000000000) ≤ x * z := Int.mul_le_mul_of_nonneg_left hz.1 c1
      omega
    have B2' : -4000000000000000000 ≤ (1 + y) * qn * pd ∧ (1 + y) * qn * pd ≤ 4000000000000000000 := by
      have hz := mul_bd hq.1 hp.2.1
      rw [Int.mul_assoc]
      generalize qn * pd = z at hz
      have q1 : (1 + y) * z ≤ (1 + y) * 1000000000000000000 := Int.mul_le_mul_of_nonneg_left hz.2 (by omega)
      have q2 : (1 + y) * (-1000000000000000000) ≤ (1 + y) * z := Int.mul_le_mul_of_nonneg_left hz.1 (by omega)
      omega
    have B3 : 1 ≤ (x + (1 + y)) * pd * qd ∧ (x + (1 + y)) * pd * qd ≤ 7000000000000000000 := by
      have p0 := hp.2.1
      have q0 := hq.2.1
      have hz : 1 ≤ pd * qd ∧ pd * qd ≤ 1000000000000000000 := by
        constructor
        · have := Int.mul_pos (show 0 < pd by omega) (show 0 < qd by omega); omega
        · exact (mul_bd ⟨by omega, p0.2⟩ q0).2
      rw [Int.mul_assoc]
      generalize pd * qd = z at hz
      have q1 : (x + (1 + y)) * z ≤ (x + (1 + y)) * 1000000000000000000 := Int.mul_le_mul_of_nonneg_left hz.2 (by omega)
      have q2 : (x + (1 + y)) * 1 ≤ (x + (1 + y)) * z := Int.mul_le_mul_of_nonneg_left hz.1 (by omega)
      omega
    have e : wrap64 (wrap64 (wrap64 (x * pn) * qd) + wrap64 (wrap64 ((1 + y) * qn) * pd)) = x * pn * qd + (1 + y) * qn * pd := by
      rw [wmul, wmul, wadd]; exact w64 (by omega) (by omega)
    have e' : wrap64 (wrap64 ((x + (1 + y)) * pd) * qd) = (x + (1 + y)) * pd * qd := by rw [wmul]; exact w64 (by omega) (by omega)
    have R := saRatio_ev (x * pn * qd + (1 + y) * qn * pd) ((x + (1 + y)) * pd * qd) B3.1 (by omega) (by omega)
    cases q : (rat (x * pn * qd + (1 + y) * qn * pd) ((x + (1 + y)) * pd * qd)).2.2 with
    | true => exact ⟨_, Ev.succ (by simp only [spec_DrawBlendAmounts.j0, e1, e2, Option.bind_some, w1, w2, e, e']; exact Ev.neg (by simp) (Ev.bind R (Ev.pos q (Ev.const rfl))))⟩
    | false => exact ⟨_, Ev.succ (by simp only [spec_DrawBlendAmounts.j0, e1, e2, Option.bind_some, w1, w2, e, e']; exact Ev.neg (by simp) (Ev.bind R (Ev.neg (by rw [q]; simp) (Ev.const rfl))))⟩
theorem DrawBlend_ev {l : List Int} (h : Bytes l) : ∃ r, Ev (fun k => spec_DrawBlendAmounts.f k l) r := by
  obtain ⟨pn, pd, p1, s1, E1, a1, b1⟩ := ratio_ev h 0 0 (by omega) (by omega)
  obtain ⟨qn, qd, p2, s2, E2, a2, b2⟩ := ratio_ev h p1 s1 (by omega) (by omega)
  obtain ⟨b, p3, s3, e3, a3, b3⟩ := one_ok h p2 s2 3 (by omega) (by omega) (by omega)
  unfold spec_DrawBlendAmounts.f
  cases b with
  | true =>
    obtain ⟨r, E⟩ := blend_j0 h p3 s3 (by omega) (by omega) true pn pd qn qd (fun h => by simp at h)
    exact ⟨r, Ev.bind E1 (Ev.bind E2 (by simp only [e3, Option.bind_some]; exact Ev.pos (by first | rfl | trivial) E))⟩
  | false =>
    by_cases c1 : RQ pn pd
    · by_cases c2 : RQ qn qd
      · obtain ⟨r, E⟩ := blend_j0 h p3 s3 (by omega) (by omega) false pn pd qn qd (fun _ => ⟨c1, c2⟩)
        exact ⟨r, Ev.bind E1 (Ev.bind E2 (by simp only [e3, Option.bind_some]; exact Ev.neg (by simp) (Ev.bind (goodR _ _) (Ev.pos (decide_eq_true c1) (Ev.bind (goodR _ _) (by rw [decide_eq_true c2]; exact E))))))⟩
      · obtain ⟨r, E⟩ := blend_j0 h p3 s3 (by omega) (by omega) true pn pd qn qd (fun h => by simp at h)
        exact ⟨r, Ev.bind E1 (Ev.bind E2 (by simp only [e3, Option.bind_some]; exact Ev.neg (by simp) (Ev.bind (goodR _ _) (Ev.pos (decide_eq_true c1) (Ev.bind (goodR _ _) (by rw [decide_eq_false c2]; exact E))))))⟩
    · obtain ⟨r, E⟩ := blend_j0 h p3 s3 (by omega) (by omega) true pn pd qn qd (fun h => by simp at h)
      exact ⟨r, Ev.bind E1 (Ev.bind E2 (by simp only [e3, Option.bind_some]; exact Ev.neg (by simp) (Ev.bind (goodR _ _) (Ev.neg (nf c1) E))))⟩
theorem law_j9 {pn pd qn qd gn gd x y : Int} (T : Told pn pd qn qd gn gd x y) (b : Bool) : Ev (fun k => laws_FnThinnedAndBlended.j9 k x y b pn pd qn qd gn gd) true := by
  obtain ⟨u, v, ht, hc⟩ := T.turn
  have E := BlendI qn qd pn pd gn gd
  rw [ht] at E
  have fin : Ev (fun k : Nat => if (u, v, true).2.2 = true then (if (!(pn == qn) || (!(pd == qd))) = true then (if (u, v, true).1 = y then (if (u, v, true).2.1 = x then (some true) else (some false)) else (some false)) else (some true)) else (some false)) true := by
    refine Ev.pos rfl ?_
    rcases hc with ⟨h1, h2⟩ | ⟨h1, h2⟩
    · exact Ev.neg (by rw [h1, h2]; simp) (Ev.const rfl)
    · by_cases c : (!(pn == qn) || (!(pd == qd))) = true
      · exact Ev.pos c (Ev.pos h1 (Ev.pos h2 (Ev.const rfl)))
      · exact Ev.neg c (Ev.const rfl)
  refine Ev.succ ?_
  simp only [laws_FnThinnedAndBlended.j9]
  cases b with
  | true =>
    refine Ev.pos (by first | rfl | trivial) (Ev.pos ?_ (Ev.bind E fin))
    have eq := T.eq
    have l : wrap64 (wrap64 (wrap64 (wrap64 (x * pn) * qd) + wrap64 (wrap64 (y * qn) * pd)) * gd) = wrap64 ((x * pn * qd + y * qn * pd) * gd) := by rw [wmul (x * pn), wmul (y * qn), wadd, wmul]
    have r : wrap64 (wrap64 (wrap64 (gn * wrap64 (x + y)) * pd) * qd) = wrap64 (gn * (x + y) * pd * qd) := by rw [wmul', wmul (gn * (x + y)), wmul]
    rw [l, r, eq]
  | false => exact Ev.neg (by simp) (Ev.bind E fin)
theorem law_j6 {l : List Int} (h : Bytes l) : Ev (fun k => laws_FnThinnedAndBlended.j6 k l) true := by
  obtain ⟨⟨pn, pd, qn, qd, gn, gd⟩, E⟩ := DrawBlend_ev h
  refine Ev.succ ?_
  simp only [laws_FnThinnedAndBlended.j6]
  refine Ev.bind E (Ev.bind (BlendI _ _ _ _ _ _) (Ev.bind (BlendS _ _ _ _ _ _) (Ev.neg (by simp) (Ev.pos rfl ?_))))
  dsimp only
  generalize ha : aBl pn pd qn qd gn gd = a
  obtain ⟨x, y, ok⟩ := a
  refine Ev.succ ?_
  simp only [laws_FnThinnedAndBlended.j7]
  refine Ev.neg (by simp) ?_
  cases ok with
  | false => exact Ev.neg (by simp) (Ev.const rfl)
  | true =>
    have T := bl_told ha
    have x0 := T.x0
    have y0 := T.y0
    have s1 := T.s1
    refine Ev.pos (by first | rfl | trivial) (Ev.neg (by omega) (Ev.neg (by omega) (Ev.succ ?_)))
    simp only [laws_FnThinnedAndBlended.j8]
    refine Ev.neg (nf (by rw [w64 (by omega) (by omega)]; omega)) ?_
    have J := fun b => law_j9 T b
    have ite : ∀ (c : Prop) [Decidable c] (f g : Nat → Option Bool), Ev f true → Ev g true → Ev (fun k => if c then f k else g k) true := fun c _ f g hf hg => by
      by_cases q : c
      · exact Ev.pos q hf
      · exact Ev.neg q hg
    exact ite _ _ _ (ite _ _ _ (ite _ _ _ (ite _ _ _ (ite _ _ _ (ite _ _ _ (ite _ _ _ (ite _ _ _ (ite _ _ _ (ite _ _ _ (J _) (J _)) (J _)) (J _)) (J _)) (J _)) (J _)) (J _)) (J _)) (J _)) (J _)
theorem law_j3 {l : List Int} (h : Bytes l) : Ev (fun k => laws_FnThinnedAndBlended.j3 k l false) true := by
  obtain ⟨s, t, N, D, E⟩ := DrawTimes_ev h
  refine Ev.succ ?_
  simp only [laws_FnThinnedAndBlended.j3]
  refine Ev.neg (by simp) (Ev.bind E (Ev.bind (TimesI _ _ _ _) (Ev.bind (TimesS _ _ _ _) (Ev.neg (by simp) ?_))))
  dsimp only
  rw [bne_self_eq_false]
  refine Ev.succ ?_
  simp only [laws_FnThinnedAndBlended.j4]
  refine Ev.neg (by simp) ?_
  by_cases ok : (aTimes s t N D).2 = true
  rotate_left
  · exact Ev.neg ok (law_j6 h)
  refine Ev.pos ok ?_
  have c : TOk s t ∧ RQ N D := by
    unfold aTimes at ok
    by_cases c : TOk s t ∧ RQ N D
    · exact c
    · rw [if_neg c] at ok; simp at ok
  have hA : aTimes s t N D = tt s t N D 51 0 := by unfold aTimes; rw [if_pos c]
  rw [hA] at ok ⊢
  obtain ⟨j, j1, _, j3, ⟨r, r1, r2⟩, j5⟩ := tt_true 51 0 (tt s t N D 51 0).1 rfl (Prod.ext rfl ok)
  rw [j1]
  have A1 : aThin s t (j : Int) = (r.1, r.2, true) := by
    unfold aThin; rw [if_pos ⟨c.1, by omega, by omega⟩, Int.toNat_natCast]; unfold thr; rw [r1]
  have B := th_bd r1
  have m1 := mul_bd B.1 c.2.2.1
  have m2 := mul_bd c.2.1 B.2.1
  refine Ev.bind (ThinI _ _ _) ?_
  rw [A1]
  refine Ev.pos (by first | rfl | trivial) ?_
  dsimp only
  rw [w64 (x := r.1 * D) (by omega) (by omega), w64 (x := N * r.2) (by omega) (by omega), decide_eq_false (by omega)]
  refine Ev.succ ?_
  simp only [laws_FnThinnedAndBlended.j5]
  refine Ev.neg (by simp) ?_
  by_cases z : (j : Int) > 0
  · obtain ⟨q, q1, q2⟩ := j5 (by omega)
    have A2 : aThin s t (wrap64 ((j : Int) - 1)) = (q.1, q.2, true) := by
      rw [w64 (by omega) (by omega), show (j : Int) - 1 = ((j - 1 : Nat) : Int) by omega]
      unfold aThin; rw [if_pos ⟨c.1, by omega, by omega⟩, Int.toNat_natCast]; unfold thr; rw [q1]
    have B' := th_bd q1
    have n1 := mul_bd B'.1 c.2.2.1
    have n2 := mul_bd c.2.1 B'.2.1
    refine Ev.pos z (Ev.bind (ThinI _ _ _) ?_)
    rw [A2]
    refine Ev.pos (by first | rfl | trivial) ?_
    dsimp only
    rw [w64 (x := q.1 * D) (by omega) (by omega), w64 (x := N * q.2) (by omega) (by omega)]
    exact Ev.neg q2 (law_j6 h)
  · exact Ev.neg z (law_j6 h)
theorem th_pred {s t : Int} {m : Nat} {r : Int × Int} (c : TOk s t) (h : th s t (m + 1) = some r) : ∃ q, th s t m = some q ∧ r.1 * q.2 * s = q.1 * r.2 * (s - t) := by
  simp only [th] at h
  cases e : th s t m with
  | none => rw [e] at h; cases h
  | some q =>
    rw [e] at h
    by_cases k : (rat (q.1 * (s - t)) (q.2 * s)).2.2 = true
    rotate_left
    · simp only [k] at h; cases h
    simp only [k, if_true] at h
    obtain rfl := Option.some.inj h
    refine ⟨q, rfl, ?_⟩
    obtain ⟨_, _, b1, _, _, _⟩ := thin_step c.1 c.2 (th_bd e)
    have e1 : ((Int.gcd (q.1 * (s - t)) (q.2 * s) : Nat) : Int) * (rat (q.1 * (s - t)) (q.2 * s)).1 = q.1 * (s - t) := Int.mul_tdiv_cancel' (Int.gcd_dvd_left _ _)
    have e2 : ((Int.gcd (q.1 * (s - t)) (q.2 * s) : Nat) : Int) * (rat (q.1 * (s - t)) (q.2 * s)).2.1 = q.2 * s := Int.mul_tdiv_cancel' (Int.gcd_dvd_right _ _)
    have g := gcd_pos (q.1 * (s - t)) (q.2 * s) b1
    generalize (rat (q.1 * (s - t)) (q.2 * s)).1 = x at e1 ⊢
    generalize (rat (q.1 * (s - t)) (q.2 * s)).2.1 = y at e2 ⊢
    generalize ((Int.gcd (q.1 * (s - t)) (q.2 * s) : Nat) : Int) = G at e1 e2
    show x * q.2 * s = q.1 * y * (s - t)
    rw [Int.mul_assoc, ← e2, Int.mul_assoc q.1, Int.mul_comm y, ← Int.mul_assoc q.1, ← e1, Int.mul_left_comm, Int.mul_assoc]
theorem FnThinnedAndBlended : laws_FnThinnedAndBlended.Pure := by
  intro l0 l1 _ h0 w0 _ h1 w1
  have b0 := bytes_of l0 h0 w0
  have b1 := bytes_of l1 h1 w1
  refine Ev.ex (f := fun k => laws_FnThinnedAndBlended.f k l0 l1) ?_
  unfold laws_FnThinnedAndBlended.f
  have hbig : ∃ b, laws_big.f l0 l1 = some b := by unfold laws_big.f; split <;> exact ⟨_, rfl⟩
  obtain ⟨b, hbig⟩ := hbig
  rw [hbig]; simp only [Option.bind_some]
  cases b with
  | true => exact Ev.pos rfl (Ev.const rfl)
  | false =>
  refine Ev.neg (by simp) ?_
  obtain ⟨s, t, n, e⟩ := DrawThin_ok b0
  rw [e]; simp only [Option.bind_some]
  refine Ev.bind (ThinI s t n) (Ev.bind (ThinS s t n) (Ev.neg (by simp) ?_))
  rw [show (!((aThin s t n).1 == (aThin s t n).1) || !((aThin s t n).2.1 == (aThin s t n).2.1)) = false by simp]
  refine Ev.succ ?_
  simp only [laws_FnThinnedAndBlended.j0]
  refine Ev.neg (by simp) ?_
  have L3 := law_j3 b1
  by_cases ok : (aThin s t n).2.2 = true
  rotate_left
  · refine Ev.neg ok (Ev.succ ?_)
    simp only [laws_FnThinnedAndBlended.j1]
    refine Ev.neg (by simp) (Ev.succ ?_)
    simp only [laws_FnThinnedAndBlended.j2]
    exact Ev.neg ok L3
  have c : TOk s t ∧ 0 ≤ n ∧ n ≤ 50 := by
    unfold aThin at ok
    by_cases c : TOk s t ∧ 0 ≤ n ∧ n ≤ 50
    · exact c
    · rw [if_neg c] at ok; simp at ok
  obtain ⟨m, rfl⟩ := Int.eq_ofNat_of_zero_le c.2.1
  have hm : m ≤ 50 := by have := c.2.2; omega
  have A : aThin s t (m : Int) = thr s t m := by unfold aThin; rw [if_pos c, Int.toNat_natCast]
  rw [A] at ok ⊢
  cases e : th s t m with
  | none => unfold thr at ok; rw [e] at ok; simp at ok
  | some r =>
    have At : thr s t m = (r.1, r.2, true) := by unfold thr; rw [e]
    rw [At]
    dsimp only
    have J2 : Ev (fun k => laws_FnThinnedAndBlended.j2 k l1 (m : Int) true r.1 r.2) true := by
      refine Ev.succ ?_
      simp only [laws_FnThinnedAndBlended.j2]
      refine Ev.pos (by first | rfl | trivial) ?_
      by_cases z : (m : Int) = 0
      · have : m = 0 := by omega
        subst this
        obtain rfl := Option.some.inj e
        exact Ev.pos z L3
      · exact Ev.neg z L3
    refine Ev.pos rfl (Ev.succ ?_)
    simp only [laws_FnThinnedAndBlended.j1]
    by_cases z : (m : Int) > 0
    · obtain ⟨m, rfl⟩ : ∃ d, m = d + 1 := ⟨m - 1, by omega⟩
      obtain ⟨q, q1, q2⟩ := th_pred c.1 e
      have A2 : aThin s t (wrap64 (((m + 1 : Nat) : Int) - 1)) = (q.1, q.2, true) := by
        rw [w64 (by omega) (by omega), show ((m + 1 : Nat) : Int) - 1 = (m : Int) by omega]
        unfold aThin; rw [if_pos ⟨c.1, by omega, by omega⟩, Int.toNat_natCast]; unfold thr; rw [q1]
      refine Ev.pos (decide_eq_true z) (Ev.bind (ThinI _ _ _) ?_)
      rw [A2]
      refine Ev.pos rfl (Ev.pos ?_ J2)
      dsimp only
      rw [wmul, wmul', wmul (q.1 * r.2), q2]
    · exact Ev.neg (nf z) J2
end Go.Proofs.Ytmlkdkeocbhajaa.PuB
