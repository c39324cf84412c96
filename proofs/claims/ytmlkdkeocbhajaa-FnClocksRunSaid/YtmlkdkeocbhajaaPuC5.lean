/- Plain functions and what they come to. -/
import Derived.Test.YtmlkdkeocbhajaaPuC4
import Derived.Test.YtmlkdkeocbhajaaCz5
namespace Go.Proofs.Ytmlkdkeocbhajaa.PuB
open Go.RowKit Go.Proofs.Ytmlkdkeocbhajaa.C Go.Proofs.YtmlkdkeocbhajaaW.PrintLast Go.Proofs.YtmlkdkeocbhajaaW.PrintMore
open Go.Proofs.YtmlkdkeocbhajaaW.PrintWords hiding Ev
set_option linter.unusedVariables false
set_option linter.unusedSimpArgs false
theorem drp_is {L D : Int} (h : ClockOk L D) : wrap64 (Int.tdiv (wrap64 ((wrap64 (L + D)) - 1)) D) = drp L D := by
  have e := drop_impl L D h.1.1 h.1.2 h.2.1 h.2.2
  unfold impl_Clock_drop.f at e
  rw [if_neg (by have := h.2.1; omega)] at e
  exact Option.some.inj e
theorem aClock_nat {L D : Int} (h : ClockOk L D) (t : Nat) (ht : t ≤ 10000) : aClock L D t = (lvl L D t, D, true) := by
  unfold aClock; rw [if_pos ⟨h, by omega, by omega⟩]; rfl
theorem law_j13 {L D M E : Int} {q : Int × Bool} (hq : MeetAns L D M E q) : Ev (fun k => laws_FnClocksRun.j13 k q.1 q.2 L D M E) true := by
  refine Ev.succ ?_
  simp only [laws_FnClocksRun.j13]
  by_cases c : q.2 = true
  · obtain ⟨h, g, t, e, ht, heq, hne⟩ := hq c
    rw [e]
    refine Ev.pos c (Ev.succ ?_)
    simp only [laws_FnClocksRun.j14]
    have E1 := ClockI L D t
    have E2 := ClockI M E t
    rw [aClock_nat h t (by omega)] at E1
    rw [aClock_nat g t (by omega)] at E2
    refine Ev.pos (decide_eq_true (by omega)) (Ev.bind E1 (Ev.bind E2 (Ev.pos (by first | rfl | trivial) (Ev.pos (by first | rfl | trivial) ?_))))
    rw [show (lvl L D t != lvl M E t) = false by rw [heq]; simp]
    refine Ev.succ ?_
    simp only [laws_FnClocksRun.j15]
    refine Ev.neg (by simp) ?_
    by_cases d : 0 < t
    · rw [w64 (x := (t : Int) - 1) (by omega) (by omega), show (t : Int) - 1 = ((t - 1 : Nat) : Int) by omega]
      have F1 := ClockI L D ((t - 1 : Nat) : Int)
      have F2 := ClockI M E ((t - 1 : Nat) : Int)
      rw [aClock_nat h (t - 1) (by omega)] at F1
      rw [aClock_nat g (t - 1) (by omega)] at F2
      refine Ev.pos (by omega) (Ev.bind F1 (Ev.bind F2 (Ev.pos (by first | rfl | trivial) (Ev.pos (by first | rfl | trivial) (Ev.const ?_)))))
      exact congrArg some (bne_iff_ne.mpr (hne d))
    · exact Ev.neg (by omega) (Ev.const rfl)
  · refine Ev.neg c (Ev.succ ?_)
    simp only [laws_FnClocksRun.j14]
    exact Ev.neg (by simp) (Ev.const rfl)
theorem law_j11 {D t : Int} {q : Int × Bool} (hq : LeastAns D t q) {x : Int} {y : Bool} {L' D' M E : Int} (J : Ev (fun k => laws_FnClocksRun.j13 k x y L' D' M E) true) : Ev (fun k => laws_FnClocksRun.j11 k D t q.1 q.2 x y false L' D' M E) true := by
  refine Ev.succ ?_
  simp only [laws_FnClocksRun.j11]
  refine Ev.neg (by simp) ?_
  by_cases c : q.2 = true
  · obtain ⟨h, hge, hlo⟩ := hq c
    have E1 := EmptyI q.1 D
    have e1 : aEmpty q.1 D = (emp q.1 D, true) := by unfold aEmpty; rw [if_pos h]
    rw [e1] at E1
    refine Ev.pos c (Ev.bind E1 (Ev.pos (by first | rfl | trivial) ?_))
    rw [decide_eq_false (show ¬ emp q.1 D < t by omega)]
    refine Ev.succ ?_
    simp only [laws_FnClocksRun.j12]
    refine Ev.neg (by simp) ?_
    by_cases d : q.1 > 0
    · obtain ⟨h2, hlt⟩ := hlo d
      have hb := h.1
      have E2 := EmptyI (q.1 - 1) D
      have e2 : aEmpty (q.1 - 1) D = (emp (q.1 - 1) D, true) := by unfold aEmpty; rw [if_pos h2]
      rw [e2] at E2
      rw [w64 (x := q.1 - 1) (by omega) (by omega)]
      exact Ev.pos d (Ev.bind E2 (Ev.pos (by first | rfl | trivial) (Ev.neg (by omega) J)))
    · exact Ev.neg d J
  · exact Ev.neg c J
theorem law_j10 {l : List Int} (b : Bytes l) : Ev (fun k => laws_FnClocksRun.j10 k l) true := by
  refine Ev.succ ?_
  simp only [laws_FnClocksRun.j10]
  obtain ⟨D, t, e1⟩ := DrawLeastLevelFor_ok b
  obtain ⟨L', D', M, E, e2⟩ := DrawFirstMeeting_ok b
  obtain ⟨q, hq, i1, i2⟩ := Leasts D t
  obtain ⟨p, hp, j1, j2⟩ := Meets L' D' M E
  rw [e1, e2]; simp only [Option.bind_some]
  refine Ev.bind i1 (Ev.bind i2 (Ev.bind j1 (Ev.bind j2 (Ev.neg (by simp) (Ev.pos (by first | rfl | trivial) (Ev.neg (by simp) ?_))))))
  rw [show (p.1 != p.1) = false by simp]
  exact law_j11 hq (law_j13 hp)
theorem law_j8 {l : List Int} (b : Bytes l) (L D x : Int) : Ev (fun k => laws_FnClocksRun.j8 k l x (aTime L D x).1 (aTime L D x).2 L D) true := by
  refine Ev.succ ?_
  simp only [laws_FnClocksRun.j8]
  unfold aTime
  by_cases c : ClockOk L D ∧ 0 ≤ x
  · rw [if_pos c]
    have hb := cnt_bd 1000 x L D
    obtain ⟨c1, c2⟩ := cnt_lvl c.2 1000 L c.1 c.1.1.2
    obtain ⟨T, hT⟩ := Int.eq_ofNat_of_zero_le hb.1
    rw [hT] at c1 c2 hb ⊢
    rw [show ((T : Int)).toNat = T by omega] at c2
    have E1 := ClockI L D T
    rw [aClock_nat c.1 T (by omega)] at E1
    refine Ev.pos (by first | rfl | trivial) (Ev.bind E1 (Ev.pos (by first | rfl | trivial) ?_))
    rw [decide_eq_false (show ¬ lvl L D T > x by omega)]
    refine Ev.succ ?_
    simp only [laws_FnClocksRun.j9]
    refine Ev.neg (by simp) ?_
    by_cases d : 0 < T
    · rw [w64 (x := (T : Int) - 1) (by omega) (by omega), show (T : Int) - 1 = ((T - 1 : Nat) : Int) by omega]
      have E2 := ClockI L D ((T - 1 : Nat) : Int)
      rw [aClock_nat c.1 (T - 1) (by omega)] at E2
      have c3 := c1 (T - 1) (by omega)
      exact Ev.pos (by omega) (Ev.bind E2 (Ev.pos (by first | rfl | trivial) (Ev.neg (show ¬ lvl L D (T - 1) ≤ x by omega) (law_j10 b))))
    · exact Ev.neg (by omega) (law_j10 b)
  · rw [if_neg c]
    exact Ev.neg (by simp) (law_j10 b)
/-- The marks fall. -/
theorem mrk_lt {L D n : Int} (h : ClockOk L D) (hn : 1 ≤ n ∧ n ≤ 24) (he : n ≤ emp L D) (i : Nat) (h0 : 0 < i) (hi : (i : Int) + 1 ≤ n) : mrk L D n i < mrk L D n (i - 1) := by
  obtain ⟨_, d0, d1⟩ := mrk_bd L D hn i hi
  obtain ⟨_, d2, d3⟩ := mrk_bd L D hn (i - 1) (by omega)
  unfold mrk
  have e : ((i : Int) + 1) * emp L D = (((i - 1 : Nat) : Int) + 1) * emp L D + emp L D := by
    rw [show (i : Int) = ((i - 1 : Nat) : Int) + 1 by omega, Int.add_mul _ 1 (emp L D), Int.one_mul]
  have m1 : ((((i - 1 : Nat) : Int) + 1) * emp L D + n * 1) / n ≤ ((i : Int) + 1) * emp L D / n := by
    rw [e]; exact Int.ediv_le_ediv (by omega) (by omega)
  rw [Int.add_mul_ediv_left _ _ (show n ≠ 0 by omega)] at m1
  generalize ((i : Int) + 1) * emp L D / n = y at *
  generalize (((i - 1 : Nat) : Int) + 1) * emp L D / n = z at *
  have up := emp_up h z.toNat (by omega)
  have lt := lvl_lt h z.toNat up
  have mo := lvl_mono h (z.toNat + 1) (y.toNat - (z.toNat + 1))
  rw [show z.toNat + 1 + (y.toNat - (z.toNat + 1)) = y.toNat by omega] at mo
  omega
theorem law_l1 {l : List Int} {L D n : Int} (h : ClockOk L D) (hn : 1 ≤ n ∧ n ≤ 24) (he : n ≤ emp L D) {x y : Int} {o : Bool} {L' D' : Int} (J : Ev (fun k => laws_FnClocksRun.j8 k l x y o L' D') true) : ∀ (m i : Nat), i + m = n.toNat →
    Ev (fun k => laws_FnClocksRun.l1 k l n (mrks L D n n.toNat) x y o (emp L D) (mrks L D n n.toNat) ((mrks L D n n.toNat).length : Int) i L D L' D') true := by
  have hlen := mrks_len L D n n.toNat
  have G := mrks_get L D n n.toNat
  generalize mrks L D n n.toNat = V at hlen G ⊢
  intro m
  induction m with
  | zero =>
    intro i hi
    refine Ev.succ ?_
    simp only [laws_FnClocksRun.l1]
    exact Ev.neg (by omega) J
  | succ m ih =>
    intro i hi
    have I := ih (i + 1) (by omega)
    rw [show ((i + 1 : Nat) : Int) = (i : Int) + 1 by omega] at I
    obtain ⟨⟨p0, p1⟩, d0, d1⟩ := mrk_bd L D hn i (by omega)
    have hb := emp_bd L D
    have g := G i (by omega)
    have E1 := ClockI L D (((i : Int) + 1) * emp L D / n)
    have e1 : aClock L D (((i : Int) + 1) * emp L D / n) = (mrk L D n i, D, true) := by unfold aClock mrk; rw [if_pos ⟨h, d0, by omega⟩]
    rw [e1] at E1
    refine Ev.succ ?_
    simp only [laws_FnClocksRun.l1]
    rw [w64 (x := (i : Int) + 1) (by omega) (by omega), w64 (x := ((i : Int) + 1) * emp L D) (by omega) (by omega), Int.tdiv_eq_ediv_of_nonneg p0, w64 (x := ((i : Int) + 1) * emp L D / n) (by omega) (by omega), g]
    refine Ev.pos (by omega) (Ev.pos (by omega) (Ev.pos (by omega) (Ev.neg (by omega) (Ev.bind E1 (Ev.pos (by first | rfl | trivial) (Ev.pos (by first | rfl | trivial) ?_))))))
    by_cases d : 0 < i
    · have g2 := G (i - 1) (by omega)
      have lt := mrk_lt h hn he i d (by omega)
      rw [w64 (x := (i : Int) - 1) (by omega) (by omega), show (i : Int) - 1 = ((i - 1 : Nat) : Int) by omega, g2]
      exact Ev.pos (by omega) (Ev.pos (by omega) (Ev.pos (by omega) (Ev.neg (by omega) I)))
    · exact Ev.neg (by omega) I
theorem law_j5 {l : List Int} (L D n : Int) {x y : Int} {o : Bool} {L' D' : Int} (J : Ev (fun k => laws_FnClocksRun.j8 k l x y o L' D') true) : Ev (fun k => laws_FnClocksRun.j5 k l n (aMarks L D n).1 (aMarks L D n).2 x y o false L D L' D') true := by
  refine Ev.succ ?_
  simp only [laws_FnClocksRun.j5]
  refine Ev.neg (by simp) ?_
  unfold aMarks
  by_cases c : ClockOk L D ∧ (1 ≤ n ∧ n ≤ 24) ∧ n ≤ emp L D
  · rw [if_pos c]
    obtain ⟨h, hn, he⟩ := c
    have E1 := EmptyI L D
    have e1 : aEmpty L D = (emp L D, true) := by unfold aEmpty; rw [if_pos h]
    rw [e1] at E1
    have hlen := mrks_len L D n n.toNat
    have g := mrks_get L D n n.toNat (n.toNat - 1) (by omega)
    have g0 : mrk L D n (n.toNat - 1) = 0 := by
      unfold mrk
      rw [show ((n.toNat - 1 : Nat) : Int) + 1 = n by omega, Int.mul_ediv_cancel_left _ (by omega)]
      exact emp_at h
    refine Ev.pos (by first | rfl | trivial) (Ev.bind E1 (Ev.pos (by first | rfl | trivial) ?_))
    rw [w64 (x := n - 1) (by omega) (by omega), show n - 1 = ((n.toNat - 1 : Nat) : Int) by omega, g, g0]
    refine Ev.pos (by show ((mrks L D n n.toNat).length : Int) = n; omega) (Ev.pos (by omega) (Ev.pos (by show ((n.toNat - 1 : Nat) : Int) < ((mrks L D n n.toNat).length : Int); omega) ?_))
    rw [show ((0 : Int) != 0) = false by rfl]
    refine Ev.succ ?_
    simp only [laws_FnClocksRun.j6]
    exact Ev.neg (by simp) (law_l1 h hn he J n.toNat 0 (Nat.zero_add _))
  · rw [if_neg c]
    exact Ev.neg (by simp) J
theorem aMarks_len (L D n : Int) : (aMarks L D n).1.length ≤ 1000000 := by
  unfold aMarks
  split
  · rename_i c; rw [mrks_len]; have := c.2.1.2; omega
  · simp
theorem law_j4 {l : List Int} (b : Bytes l) : Ev (fun k => laws_FnClocksRun.j4 k l) true := by
  refine Ev.succ ?_
  simp only [laws_FnClocksRun.j4]
  obtain ⟨L, D, n, e1⟩ := DrawMarksOf_ok b
  obtain ⟨L2, D2, x, e2⟩ := DrawTimeOfLevel_ok b
  obtain ⟨L3, D3, t, e3⟩ := DrawClockAfter_ok b
  rw [e1, e2, e3]; simp only [Option.bind_some]
  refine Ev.bind (MarksI L D n) (Ev.bind (MarksS L D n) (Ev.bind (TimeI L2 D2 x) (Ev.bind (TimeS L2 D2 x) (Ev.bind (ClockI L3 D3 t) (Ev.bind (ClockS L3 D3 t) ?_)))))
  refine Ev.neg (by simp) (Ev.bind (eSame_ev _ (aMarks_len L D n)) (Ev.pos (by first | rfl | trivial) (Ev.neg (by simp) (Ev.pos (by first | rfl | trivial) (Ev.neg (by simp) ?_)))))
  rw [show (!((aClock L3 D3 t).1 == (aClock L3 D3 t).1) || (!((aClock L3 D3 t).2.1 == (aClock L3 D3 t).2.1))) = false by simp]
  exact law_j5 L D n (law_j8 b L2 D2 x)
theorem law_l0 {l : List Int} {L D : Int} (b : Bytes l) (h : ClockOk L D) : ∀ (m i : Nat), i + m = (L :: lv 1000 L D).length →
    Ev (fun k => laws_FnClocksRun.l0 k l (L :: lv 1000 L D) (L :: lv 1000 L D) ((L :: lv 1000 L D).length : Int) i L D) true := by
  have hlen : ((L :: lv 1000 L D).length : Int) = emp L D + 1 := by have := lv_emp L D; simp only [List.length_cons]; omega
  have G : ∀ i : Nat, i < (L :: lv 1000 L D).length → rd (L :: lv 1000 L D) (i : Int) = lvl L D i := fun i hi => lv_get 1000 L i (by simp only [List.length_cons] at hi; omega)
  have hb := emp_bd L D
  generalize L :: lv 1000 L D = V at hlen G ⊢
  intro m
  induction m with
  | zero =>
    intro i hi
    refine Ev.succ ?_
    simp only [laws_FnClocksRun.l0]
    exact Ev.neg (by omega) (law_j4 b)
  | succ m ih =>
    intro i hi
    have I := ih (i + 1) (by omega)
    rw [show ((i + 1 : Nat) : Int) = (i : Int) + 1 by omega] at I
    have g := G i (by omega)
    have E1 := ClockI L D i
    rw [aClock_nat h i (by omega)] at E1
    refine Ev.succ ?_
    simp only [laws_FnClocksRun.l0]
    rw [g]
    refine Ev.pos (by omega) (Ev.pos (by omega) (Ev.pos (by omega) (Ev.bind E1 (Ev.pos (by first | rfl | trivial) (Ev.pos (by first | rfl | trivial) ?_)))))
    rw [show (D != D) = false by simp]
    refine Ev.succ ?_
    simp only [laws_FnClocksRun.j3]
    rw [w64 (x := (i : Int) + 1) (by omega) (by omega)]
    refine Ev.neg (by simp) ?_
    by_cases d : 0 < i
    · have g2 := G (i - 1) (by omega)
      have up := emp_up h (i - 1) (by omega)
      have lt := lvl_lt h (i - 1) up
      have hk := ok_lvl h (i - 1)
      have es : lvl L D i = lvl L D (i - 1) - drp (lvl L D (i - 1)) D := by rw [show i = (i - 1) + 1 by omega]; rfl
      rw [show i - 1 + 1 = i by omega] at lt
      have bi := lvl_bd h i
      have bj := hk.1
      rw [w64 (x := (i : Int) - 1) (by omega) (by omega), show (i : Int) - 1 = ((i - 1 : Nat) : Int) by omega, g2, drp_is hk, w64 (x := lvl L D (i - 1) - lvl L D i) (by omega) (by omega)]
      exact Ev.pos (by omega) (Ev.pos (by omega) (Ev.pos (by omega) (Ev.neg (by have := h.2.1; omega) (Ev.pos (by omega) (Ev.neg (by omega) I)))))
    · exact Ev.neg (by omega) I
theorem law_j0ok {l : List Int} {L D : Int} (b : Bytes l) (h : ClockOk L D) : Ev (fun k => laws_FnClocksRun.j0 k l (L :: lv 1000 L D) true (emp L D) false L D) true := by
  have hlen : ((L :: lv 1000 L D).length : Int) = emp L D + 1 := by have := lv_emp L D; simp only [List.length_cons]; omega
  have hb := emp_bd L D
  have g0 : rd (L :: lv 1000 L D) 0 = L := rfl
  have g1 : rd (L :: lv 1000 L D) (emp L D) = 0 := by
    have := lv_get 1000 L (emp L D).toNat (D := D) (by simp only [List.length_cons] at hlen; omega)
    rw [Int.toNat_of_nonneg hb.1] at this
    rw [this, emp_at h]
  refine Ev.succ ?_
  simp only [laws_FnClocksRun.j0]
  rw [w64 (x := emp L D + 1) (by omega) (by omega), g1]
  refine Ev.neg (by simp) (Ev.pos (by first | rfl | trivial) (Ev.pos hlen (Ev.pos (by omega) (Ev.pos g0 (Ev.pos hb.1 (Ev.pos (by omega) ?_))))))
  rw [show ((0 : Int) != 0) = false by rfl]
  refine Ev.succ ?_
  simp only [laws_FnClocksRun.j1]
  exact Ev.neg (by simp) (law_l0 b h _ 0 (Nat.zero_add _))
theorem law_j0no {l : List Int} (b : Bytes l) (v : List Int) (x L D : Int) : Ev (fun k => laws_FnClocksRun.j0 k l v false x false L D) true := by
  refine Ev.succ ?_
  simp only [laws_FnClocksRun.j0]
  exact Ev.neg (by simp) (Ev.neg (by simp) (law_j4 b))
theorem aLevels_len (L D : Int) : (aLevels L D).1.length ≤ 1000000 := by
  unfold aLevels
  split
  · have := lv_len 1000 L D; simp; omega
  · simp
theorem FnClocksRun : laws_FnClocksRun.Pure := by
  intro l0 l1 _ h0 w0 _ h1 w1
  have b0 := bytes_of l0 h0 w0
  have b1 := bytes_of l1 h1 w1
  refine Ev.ex (f := fun k => laws_FnClocksRun.f k l0 l1) ?_
  unfold laws_FnClocksRun.f
  have hbig : ∃ b, laws_big.f l0 l1 = some b := by unfold laws_big.f; split <;> exact ⟨_, rfl⟩
  obtain ⟨b, hbig⟩ := hbig
  rw [hbig]; simp only [Option.bind_some]
  cases b with
  | true => exact Ev.pos rfl (Ev.const rfl)
  | false =>
  refine Ev.neg (by simp) ?_
  obtain ⟨L, D, e⟩ := DrawLevelsOfClock_ok b0
  have isc : spec_IsClock.f L D = some (decide (ClockOk L D)) := by unfold spec_IsClock.f; rw [goodS]; rfl
  rw [e]; simp only [Option.bind_some]
  rw [DropI, DropS, goodI, isc]; simp only [Option.bind_some]
  refine Ev.bind (LevelsI L D) (Ev.bind (LevelsS L D) (Ev.bind (EmptyI L D) (Ev.bind (EmptyS L D) ?_)))
  have e1 : ((aEmpty L D).2 != decide (ClockOk L D)) = false := by unfold aEmpty; split <;> simp [*]
  have e2 : ((aDrop L D).2 != (aEmpty L D).2) = false := by unfold aDrop aEmpty; split <;> rfl
  refine Ev.neg (by simp) (Ev.bind (eSame_ev _ (aLevels_len L D)) (Ev.pos (by first | rfl | trivial) (Ev.neg (by simp) (Ev.pos (by first | rfl | trivial) (Ev.neg (by simp) (Ev.pos (by first | rfl | trivial) (Ev.neg (by rw [e1]; simp) (Ev.neg (by simp) (Ev.neg (by rw [e2]; simp) ?_)))))))))
  by_cases c : ClockOk L D
  · have q1 : aLevels L D = (L :: lv 1000 L D, true) := by unfold aLevels; rw [if_pos c]
    have q2 : aEmpty L D = (emp L D, true) := by unfold aEmpty; rw [if_pos c]
    rw [q1, q2]
    exact Ev.pos (by first | rfl | trivial) (law_j0ok b1 c)
  · have q1 : (aLevels L D).2 = false := by unfold aLevels; rw [if_neg c]
    rw [q1]
    exact Ev.neg (by simp) (law_j0no b1 _ _ _ _)
end Go.Proofs.Ytmlkdkeocbhajaa.PuB
