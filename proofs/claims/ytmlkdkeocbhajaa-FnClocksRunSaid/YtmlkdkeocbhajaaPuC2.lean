/- Plain functions and what they come to. -/
import Derived.Test.YtmlkdkeocbhajaaPuC1
namespace Go.Proofs.Ytmlkdkeocbhajaa.PuB
open Go.RowKit Go.Proofs.Ytmlkdkeocbhajaa.C Go.Proofs.YtmlkdkeocbhajaaW.PrintLast Go.Proofs.YtmlkdkeocbhajaaW.PrintMore
open Go.Proofs.YtmlkdkeocbhajaaW.PrintWords hiding Ev
set_option linter.unusedVariables false
set_option linter.unusedSimpArgs false
theorem nd {p : Prop} [Decidable p] (h : ¬ p) : (!decide p) = true := by rw [decide_eq_false h]; rfl
theorem nf {p : Prop} [Decidable p] (h : ¬ p) : ¬ decide p = true := by rw [decide_eq_false h]; simp
theorem rd_nat (l : List Int) (i : Nat) : rd l (i : Int) = l.getD i 0 := rfl
def ClockOk (L D : Int) : Prop := (0 ≤ L ∧ L ≤ 1000) ∧ 1 ≤ D ∧ D ≤ 100
instance (L D : Int) : Decidable (ClockOk L D) := by unfold ClockOk; infer_instance
def TOk (t : Int) : Prop := 0 ≤ t ∧ t ≤ 10000
instance (t : Int) : Decidable (TOk t) := by unfold TOk; infer_instance
theorem goodI (L D : Int) : impl_IsClock.f L D = some (decide (ClockOk L D)) := good_impl L D
theorem goodS (L D : Int) : spec_ckGood.f L D = some (decide (ClockOk L D)) := good_spec L D
/-- The level behind n ticks. -/
def lvl (L D : Int) : Nat → Int
  | 0 => L
  | n + 1 => lvl L D n - drp (lvl L D n) D
theorem lvl_shift (L D : Int) : ∀ n, lvl (L - drp L D) D n = lvl L D (n + 1)
  | 0 => rfl
  | n + 1 => by
    have ih := lvl_shift L D n
    show lvl (L - drp L D) D n - drp (lvl (L - drp L D) D n) D = lvl L D (n + 1) - drp (lvl L D (n + 1)) D
    rw [ih]
theorem lvl_bd {L D : Int} (h : ClockOk L D) : ∀ n, 0 ≤ lvl L D n ∧ lvl L D n ≤ L
  | 0 => ⟨h.1.1, Int.le_refl _⟩
  | n + 1 => by
    have ih := lvl_bd h n
    have a := drp_nonneg (lvl L D n) D ih.1 h.2.1
    have b := drp_le (lvl L D n) D ih.1 h.2.1
    simp only [lvl]; omega
theorem lvl_lt {L D : Int} (h : ClockOk L D) (n : Nat) (hp : 0 < lvl L D n) : lvl L D (n + 1) < lvl L D n := by
  have a := drp_pos (lvl L D n) D (by omega) h.2.1
  simp only [lvl]; omega
theorem lvl_mono {L D : Int} (h : ClockOk L D) (n : Nat) : ∀ d, lvl L D (n + d) ≤ lvl L D n
  | 0 => Int.le_refl _
  | d + 1 => by
    have ih := lvl_mono h n d
    have b := lvl_bd h (n + d)
    have a := drp_nonneg (lvl L D (n + d)) D b.1 h.2.1
    show lvl L D (n + d) - drp (lvl L D (n + d)) D ≤ _
    omega
theorem lvl_zero {D : Int} (h : 1 ≤ D) : ∀ n, lvl 0 D n = 0
  | 0 => rfl
  | n + 1 => by simp only [lvl]; rw [lvl_zero h n, drp_zero D h]; rfl
theorem ok_next {L D : Int} (h : ClockOk L D) : ClockOk (L - drp L D) D := by
  have a := drp_nonneg L D h.1.1 h.2.1
  have b := drp_le L D h.1.1 h.2.1
  obtain ⟨⟨h0, h1⟩, h2, h3⟩ := h
  exact ⟨⟨by omega, by omega⟩, h2, h3⟩
theorem ok_lvl {L D : Int} (h : ClockOk L D) (n : Nat) : ClockOk (lvl L D n) D := by
  have b := lvl_bd h n
  obtain ⟨⟨h0, h1⟩, h2, h3⟩ := h
  exact ⟨⟨b.1, by omega⟩, h2, h3⟩
/-- The count: above x ahead of it, no more than x there. -/
theorem cnt_lvl {x D : Int} (hx : 0 ≤ x) : ∀ (n : Nat) (L : Int), ClockOk L D → L ≤ n → (∀ i : Nat, (i : Int) < cnt n x L D → lvl L D i > x) ∧ lvl L D (cnt n x L D).toNat ≤ x := by
  intro n
  induction n with
  | zero =>
    intro L h hn
    exact ⟨fun i hi => by simp only [cnt] at hi; omega, by simp only [cnt]; show L ≤ x; omega⟩
  | succ n ih =>
    intro L h hn
    simp only [cnt]
    by_cases c : L > x
    · rw [if_pos c]
      have a := drp_pos L D (by omega) h.2.1
      obtain ⟨i1, i2⟩ := ih (L - drp L D) (ok_next h) (by omega)
      have hb := cnt_bd n x (L - drp L D) D
      refine ⟨fun i hi => ?_, ?_⟩
      · cases i with
        | zero => exact c
        | succ i => rw [← lvl_shift]; exact i1 i (by omega)
      · rw [show (1 + cnt n x (L - drp L D) D).toNat = (cnt n x (L - drp L D) D).toNat + 1 by omega, ← lvl_shift]; exact i2
    · rw [if_neg c]
      exact ⟨fun i hi => by omega, by show L ≤ x; omega⟩
def emp (L D : Int) : Int := cnt 1000 0 L D
theorem emp_bd (L D : Int) : 0 ≤ emp L D ∧ emp L D ≤ 1000 := cnt_bd 1000 0 L D
theorem emp_at {L D : Int} (h : ClockOk L D) : lvl L D (emp L D).toNat = 0 := by
  have a := (cnt_lvl (x := 0) (by omega) 1000 L h h.1.2).2
  have b := lvl_bd h (emp L D).toNat
  unfold emp at *; omega
theorem emp_up {L D : Int} (h : ClockOk L D) (i : Nat) (hi : (i : Int) < emp L D) : lvl L D i > 0 := (cnt_lvl (x := 0) (by omega) 1000 L h h.1.2).1 i hi
theorem after_impl {D : Int} : ∀ (t : Nat) (L : Int), ClockOk L D → t ≤ 20000 → Ev (fun k => impl_Clock_after.l0 k t L D) (lvl L D t, D) := by
  intro t
  induction t with
  | zero =>
    intro L h _
    refine Ev.succ ?_
    simp only [impl_Clock_after.l0]
    exact Ev.neg (by omega) (Ev.const rfl)
  | succ t ih =>
    intro L h ht
    have E := ih _ (ok_next h) (by omega)
    rw [lvl_shift] at E
    refine Ev.succ ?_
    simp only [impl_Clock_after.l0]
    rw [next_impl L D h.1.1 h.1.2 h.2.1 h.2.2]; simp only [Option.bind_some]
    rw [w64 (by omega) (by omega), show ((t + 1 : Nat) : Int) - 1 = (t : Int) by omega]
    refine Ev.pos (by omega) ?_
    by_cases c : L > 0
    · exact Ev.pos c E
    · refine Ev.neg c (Ev.const ?_)
      obtain rfl : L = 0 := by have := h.1.1; omega
      rw [lvl_zero h.2.1]
theorem after_spec {D : Int} : ∀ (t : Nat) (L : Int), ClockOk L D → t ≤ 20000 → Ev (fun k => spec_ckAfter.l0 k t L D) (lvl L D t, D) := by
  intro t
  induction t with
  | zero =>
    intro L h _
    refine Ev.succ ?_
    simp only [spec_ckAfter.l0]
    exact Ev.neg (by omega) (Ev.const rfl)
  | succ t ih =>
    intro L h ht
    have E := ih _ (ok_next h) (by omega)
    rw [lvl_shift] at E
    have b := (ok_next h).1
    refine Ev.succ ?_
    simp only [spec_ckAfter.l0]
    rw [drop_spec L D h.1.1 h.1.2 h.2.1 h.2.2]; simp only [Option.bind_some]
    rw [w64 (x := ((t + 1 : Nat) : Int) - 1) (by omega) (by omega), w64 (x := L - drp L D) (by omega) (by omega), show ((t + 1 : Nat) : Int) - 1 = (t : Int) by omega]
    refine Ev.pos (by omega) ?_
    by_cases c : L > 0
    · exact Ev.pos c E
    · refine Ev.neg c (Ev.const ?_)
      obtain rfl : L = 0 := by have := h.1.1; omega
      rw [lvl_zero h.2.1]
def aClock (L D t : Int) : Int × Int × Bool := if ClockOk L D ∧ TOk t then (lvl L D t.toNat, D, true) else (0, 0, false)
theorem ClockI (L D t : Int) : Ev (fun k => impl_ClockAfter.f k L D t) (aClock L D t) := by
  unfold impl_ClockAfter.f aClock impl_Clock_after.f
  rw [goodI, in_impl]; simp only [Option.bind_some]
  by_cases h : ClockOk L D
  · refine Ev.pos (decide_eq_true h) ?_
    by_cases ht : TOk t
    · have E := after_impl t.toNat L h (by have := ht.2; omega)
      rw [Int.toNat_of_nonneg ht.1] at E
      rw [if_pos ⟨h, ht⟩]
      exact Ev.pos (decide_eq_true (show 0 ≤ t ∧ t ≤ 10000 from ht)) (Ev.bind E (Ev.const rfl))
    · rw [if_neg (fun z => ht z.2)]
      exact Ev.neg (nf (show ¬ (0 ≤ t ∧ t ≤ 10000) from ht)) (Ev.const rfl)
  · rw [if_neg (fun z => h z.1)]
    exact Ev.neg (nf h) (Ev.const rfl)
theorem ClockS (L D t : Int) : Ev (fun k => spec_ClockAfter.f k L D t) (aClock L D t) := by
  unfold spec_ClockAfter.f aClock spec_ckAfter.f spec_ckTime.f
  rw [goodS, in_spec]; simp only [Option.bind_some]
  by_cases h : ClockOk L D
  · refine Ev.pos (decide_eq_true h) ?_
    by_cases ht : TOk t
    · have E := after_spec t.toNat L h (by have := ht.2; omega)
      rw [Int.toNat_of_nonneg ht.1] at E
      rw [if_pos ⟨h, ht⟩]
      exact Ev.pos (decide_eq_true (show 0 ≤ t ∧ t ≤ 10000 from ht)) (Ev.bind E (Ev.const rfl))
    · rw [if_neg (fun z => ht z.2)]
      exact Ev.neg (nf (show ¬ (0 ≤ t ∧ t ≤ 10000) from ht)) (Ev.const rfl)
  · rw [if_neg (fun z => h z.1)]
    exact Ev.neg (nf h) (Ev.const rfl)
theorem timeTo_ev {L D x : Int} (h : ClockOk L D) (hx : 0 ≤ x) : Ev (fun k => impl_Clock_timeTo.f k L D x) (cnt 1000 x L D) := Ev.of 1000 fun k hk => timeTo_f k x L D hx h.1.1 h.1.2 h.2.1 h.2.2 hk
theorem levels_ev {L D : Int} (h : ClockOk L D) : Ev (fun k => spec_ckLevels.f k L D) (L :: lv 1000 L D) := Ev.of 1000 fun k hk => levels_f k L D h.1.1 h.1.2 h.2.1 h.2.2 hk
theorem lv_get {D : Int} : ∀ (n : Nat) (L : Int) (i : Nat), i ≤ (lv n L D).length → rd (L :: lv n L D) (i : Int) = lvl L D i
  | _, L, 0, _ => rfl
  | 0, L, i + 1, h => by simp [lv] at h
  | n + 1, L, i + 1, h => by
    simp only [lv] at h ⊢
    by_cases c : L > 0
    · rw [if_pos c] at h ⊢
      rw [← lvl_shift]
      have ih := lv_get n (L - drp L D) i (by simpa using h)
      rw [rd_nat] at ih ⊢
      simpa using ih
    · rw [if_neg c] at h; simp at h
theorem lv_emp (L D : Int) : ((lv 1000 L D).length : Int) = emp L D := (cnt_lv 1000 L D).symm
def aEmpty (L D : Int) : Int × Bool := if ClockOk L D then (emp L D, true) else (0, false)
theorem EmptyI (L D : Int) : Ev (fun k => impl_TimeToEmpty.f k L D) (aEmpty L D) := by
  unfold impl_TimeToEmpty.f aEmpty
  rw [goodI]; simp only [Option.bind_some]
  by_cases h : ClockOk L D
  · rw [if_pos h]; exact Ev.pos (decide_eq_true h) (Ev.bind (timeTo_ev h (by omega)) (Ev.const rfl))
  · rw [if_neg h]; exact Ev.neg (nf h) (Ev.const rfl)
theorem ckEmpty_ev {L D : Int} (h : ClockOk L D) : Ev (fun k => spec_ckEmpty.f k L D) (emp L D) := by
  unfold spec_ckEmpty.f
  refine Ev.bind (levels_ev h) (Ev.const ?_)
  have a := lv_emp L D
  have b := emp_bd L D
  simp only [List.length_cons]
  rw [w64 (by omega) (by omega)]; congr 1; omega
theorem EmptyS (L D : Int) : Ev (fun k => spec_TimeToEmpty.f k L D) (aEmpty L D) := by
  unfold spec_TimeToEmpty.f aEmpty
  rw [goodS]; simp only [Option.bind_some]
  by_cases h : ClockOk L D
  · rw [if_pos h]; exact Ev.pos (decide_eq_true h) (Ev.bind (ckEmpty_ev h) (Ev.const rfl))
  · rw [if_neg h]; exact Ev.neg (nf h) (Ev.const rfl)
def aDrop (L D : Int) : Int × Bool := if ClockOk L D then (drp L D, true) else (0, false)
theorem DropI (L D : Int) : impl_DropOf.f L D = some (aDrop L D) := by
  unfold impl_DropOf.f aDrop
  rw [goodI]; simp only [Option.bind_some]
  by_cases h : ClockOk L D
  · rw [if_pos h, if_pos (decide_eq_true h), drop_impl L D h.1.1 h.1.2 h.2.1 h.2.2]; rfl
  · rw [if_neg h, if_neg (nf h)]
theorem DropS (L D : Int) : spec_DropOf.f L D = some (aDrop L D) := by
  unfold spec_DropOf.f aDrop
  rw [goodS]; simp only [Option.bind_some]
  by_cases h : ClockOk L D
  · rw [if_pos h, if_pos (decide_eq_true h), drop_spec L D h.1.1 h.1.2 h.2.1 h.2.2]; rfl
  · rw [if_neg h, if_neg (nf h)]
def aLevels (L D : Int) : List Int × Bool := if ClockOk L D then (L :: lv 1000 L D, true) else ([], false)
theorem levels_impl {D : Int} : ∀ (n : Nat) (acc : List Int) (L : Int), ClockOk L D → L ≤ n → acc.length + n < 1000000 → Ev (fun k => impl_LevelsOfClock.l0 k acc L D) (acc ++ lv n L D, true) := by
  intro n
  induction n with
  | zero =>
    intro acc L h hn ha
    refine Ev.succ ?_
    simp only [impl_LevelsOfClock.l0, lv, List.append_nil]
    exact Ev.neg (by omega) (Ev.const rfl)
  | succ n ih =>
    intro acc L h hn ha
    refine Ev.succ ?_
    simp only [impl_LevelsOfClock.l0, lv]
    rw [next_impl L D h.1.1 h.1.2 h.2.1 h.2.2]; simp only [Option.bind_some]
    by_cases c : L > 0
    · have a := drp_pos L D (by omega) h.2.1
      have E := ih (acc ++ [L - drp L D]) _ (ok_next h) (by omega) (by simp; omega)
      rw [List.append_assoc, List.singleton_append] at E
      rw [if_pos c]
      exact Ev.pos c (Ev.pos (by omega) E)
    · rw [if_neg c, List.append_nil]
      exact Ev.neg c (Ev.const rfl)
theorem LevelsI (L D : Int) : Ev (fun k => impl_LevelsOfClock.f k L D) (aLevels L D) := by
  unfold impl_LevelsOfClock.f aLevels
  rw [goodI]; simp only [Option.bind_some]
  by_cases h : ClockOk L D
  · rw [if_pos h]
    refine Ev.pos (decide_eq_true h) (Ev.bind (timeTo_ev h (by omega)) (Ev.succ ?_))
    have hb := emp_bd L D
    have E := levels_impl 1000 [L] L h h.1.2 (by simp)
    simp only [impl_LevelsOfClock.j0]
    exact Ev.neg (nf (show ¬ cnt 1000 0 L D > 2000 by unfold emp at hb; omega)) E
  · rw [if_neg h]
    refine Ev.neg (nf h) (Ev.succ ?_)
    simp only [impl_LevelsOfClock.j0]
    exact Ev.pos (by first | rfl | trivial) (Ev.const rfl)
theorem LevelsS (L D : Int) : Ev (fun k => spec_LevelsOfClock.f k L D) (aLevels L D) := by
  unfold spec_LevelsOfClock.f aLevels
  rw [goodS]; simp only [Option.bind_some]
  by_cases h : ClockOk L D
  · rw [if_pos h]
    have a := lv_emp L D
    have b := emp_bd L D
    exact Ev.pos (decide_eq_true h) (Ev.bind (levels_ev h) (Ev.neg (by simp only [List.length_cons]; omega) (Ev.const rfl)))
  · rw [if_neg h]; exact Ev.neg (nf h) (Ev.const rfl)
/-- Mark number j + 1 of n. -/
def mrk (L D n : Int) (j : Nat) : Int := lvl L D (((j : Int) + 1) * emp L D / n).toNat
def mrks (L D n : Int) (m : Nat) : List Int := (List.range m).map (mrk L D n)
theorem mrks_succ (L D n : Int) (m : Nat) : mrks L D n (m + 1) = mrks L D n m ++ [mrk L D n m] := by simp [mrks, List.range_succ]
theorem mrks_len (L D n : Int) (m : Nat) : (mrks L D n m).length = m := by simp [mrks]
theorem mrks_get (L D n : Int) (m i : Nat) (h : i < m) : rd (mrks L D n m) (i : Int) = mrk L D n i := by
  rw [rd_nat, List.getD_eq_getElem?_getD]; simp [mrks, h]
theorem mrk_bd {n : Int} (L D : Int) (hn : 1 ≤ n ∧ n ≤ 24) (j : Nat) (hj : (j : Int) + 1 ≤ n) : (0 ≤ ((j : Int) + 1) * emp L D ∧ ((j : Int) + 1) * emp L D ≤ 24000) ∧ 0 ≤ ((j : Int) + 1) * emp L D / n ∧ ((j : Int) + 1) * emp L D / n ≤ emp L D := by
  have hb := emp_bd L D
  have p0 : 0 ≤ ((j : Int) + 1) * emp L D := Int.mul_nonneg (by omega) hb.1
  have p1 : ((j : Int) + 1) * emp L D ≤ 24 * 1000 := Int.mul_le_mul (by omega) hb.2 hb.1 (by omega)
  have p2 : ((j : Int) + 1) * emp L D ≤ n * emp L D := Int.mul_le_mul_of_nonneg_right hj hb.1
  exact ⟨⟨p0, by omega⟩, Int.ediv_nonneg p0 (by omega), Int.ediv_le_of_le_mul (by omega) (by rw [Int.mul_comm (emp L D)]; exact p2)⟩
theorem marks_are {L D n : Int} (h : ClockOk L D) (hn : 1 ≤ n ∧ n ≤ 24) : ∀ (m j : Nat), (j : Int) + m = n →
    Ev (fun k => impl_MarksOf.l0 k n (mrks L D n j) ((j : Int) + 1) L D) (mrks L D n n.toNat, true) ∧ Ev (fun k => spec_MarksOf.l0 k n (L :: lv 1000 L D) (mrks L D n j) ((j : Int) + 1)) (mrks L D n n.toNat, true) := by
  intro m
  induction m with
  | zero =>
    intro j hj
    obtain rfl : j = n.toNat := by omega
    refine ⟨Ev.succ ?_, Ev.succ ?_⟩
    · simp only [impl_MarksOf.l0]; exact Ev.neg (by omega) (Ev.const rfl)
    · simp only [spec_MarksOf.l0]; exact Ev.neg (by omega) (Ev.const rfl)
  | succ m ih =>
    intro j hj
    obtain ⟨i1, i2⟩ := ih (j + 1) (by omega)
    obtain ⟨⟨p0, p1⟩, d0, d1⟩ := mrk_bd L D hn j (by omega)
    have hb := emp_bd L D
    have hlen := mrks_len L D n j
    have a := lv_emp L D
    rw [mrks_succ, show ((j + 1 : Nat) : Int) = (j : Int) + 1 by omega] at i1 i2
    have E := after_impl (((j : Int) + 1) * emp L D / n).toNat L h (by omega)
    rw [Int.toNat_of_nonneg d0] at E
    have R := lv_get 1000 L (((j : Int) + 1) * emp L D / n).toNat (D := D) (by omega)
    rw [Int.toNat_of_nonneg d0] at R
    refine ⟨Ev.succ ?_, Ev.succ ?_⟩
    · simp only [impl_MarksOf.l0]
      refine Ev.pos (by omega) (Ev.bind (timeTo_ev h (by omega)) (Ev.neg (by omega) ?_))
      show Ev (fun k => (impl_Clock_after.f k L D (wrap64 (Int.tdiv (wrap64 (((j : Int) + 1) * emp L D)) n))).bind _) _
      rw [w64 (x := ((j : Int) + 1) * emp L D) (by omega) (by omega), Int.tdiv_eq_ediv_of_nonneg p0, w64 (x := ((j : Int) + 1) * emp L D / n) (by omega) (by omega), w64 (x := (j : Int) + 1 + 1) (by omega) (by omega)]
      exact Ev.bind E (Ev.pos (by omega) i1)
    · simp only [spec_MarksOf.l0]
      have el : wrap64 (((L :: lv 1000 L D).length : Int) - 1) = emp L D := by simp only [List.length_cons]; rw [w64 (by omega) (by omega)]; omega
      rw [el, w64 (x := ((j : Int) + 1) * emp L D) (by omega) (by omega), Int.tdiv_eq_ediv_of_nonneg p0, w64 (x := ((j : Int) + 1) * emp L D / n) (by omega) (by omega), w64 (x := (j : Int) + 1 + 1) (by omega) (by omega), R]
      exact Ev.pos (by omega) (Ev.neg (by omega) (Ev.pos d0 (Ev.pos (by simp only [List.length_cons]; omega) (Ev.pos (by omega) i2))))
def aMarks (L D n : Int) : List Int × Bool := if ClockOk L D ∧ (1 ≤ n ∧ n ≤ 24) ∧ n ≤ emp L D then (mrks L D n n.toNat, true) else ([], false)
theorem MarksI (L D n : Int) : Ev (fun k => impl_MarksOf.f k L D n) (aMarks L D n) := by
  unfold impl_MarksOf.f aMarks
  rw [goodI, in_impl]; simp only [Option.bind_some]
  have J : Ev (fun k => impl_MarksOf.j0 k n true L D) ([], false) := Ev.succ (by simp only [impl_MarksOf.j0]; exact Ev.pos (by first | rfl | trivial) (Ev.const rfl))
  by_cases h : ClockOk L D
  · refine Ev.pos (decide_eq_true h) ?_
    by_cases hn : 1 ≤ n ∧ n ≤ 24
    · refine Ev.pos (decide_eq_true hn) (Ev.bind (timeTo_ev h (by omega)) ?_)
      by_cases c : n ≤ emp L D
      · rw [if_pos ⟨h, hn, c⟩, decide_eq_false (show ¬ cnt 1000 0 L D < n by unfold emp at c; omega)]
        refine Ev.succ ?_
        simp only [impl_MarksOf.j0]
        exact Ev.neg (by simp) (marks_are h hn n.toNat 0 (by omega)).1
      · rw [if_neg (fun z => c z.2.2), decide_eq_true (show cnt 1000 0 L D < n by unfold emp at c; omega)]; exact J
    · rw [if_neg (fun z => hn z.2.1)]; exact Ev.neg (nf hn) J
  · rw [if_neg (fun z => h z.1)]; exact Ev.neg (nf h) J
theorem MarksS (L D n : Int) : Ev (fun k => spec_MarksOf.f k L D n) (aMarks L D n) := by
  unfold spec_MarksOf.f aMarks
  rw [goodS, in_spec]; simp only [Option.bind_some]
  have J : Ev (fun k => spec_MarksOf.j0 k n true L D) ([], false) := Ev.succ (by simp only [spec_MarksOf.j0]; exact Ev.pos (by first | rfl | trivial) (Ev.const rfl))
  have a := lv_emp L D
  have hb := emp_bd L D
  by_cases h : ClockOk L D
  · refine Ev.pos (decide_eq_true h) ?_
    by_cases hn : 1 ≤ n ∧ n ≤ 24
    · rw [decide_eq_true hn]
      refine Ev.succ ?_
      simp only [spec_MarksOf.j0]
      refine Ev.neg (by simp) (Ev.bind (levels_ev h) ?_)
      have el : wrap64 (((L :: lv 1000 L D).length : Int) - 1) = emp L D := by simp only [List.length_cons]; rw [w64 (by omega) (by omega)]; omega
      rw [el]
      by_cases c : n ≤ emp L D
      · rw [if_pos ⟨h, hn, c⟩]
        exact Ev.neg (by omega) (marks_are h hn n.toNat 0 (by omega)).2
      · rw [if_neg (fun z => c z.2.2)]
        exact Ev.pos (by omega) (Ev.const rfl)
    · rw [if_neg (fun z => hn z.2.1), decide_eq_false hn]; exact J
  · rw [if_neg (fun z => h z.1)]; exact Ev.neg (nf h) J
end Go.Proofs.Ytmlkdkeocbhajaa.PuB
