/- Plain functions and what they come to. -/
import Derived.Test.YtmlkdkeocbhajaaPuC2
namespace Go.Proofs.Ytmlkdkeocbhajaa.PuB
open Go.RowKit Go.Proofs.Ytmlkdkeocbhajaa.C Go.Proofs.YtmlkdkeocbhajaaW.PrintLast Go.Proofs.YtmlkdkeocbhajaaW.PrintMore
open Go.Proofs.YtmlkdkeocbhajaaW.PrintWords hiding Ev
set_option linter.unusedVariables false
set_option linter.unusedSimpArgs false
def aTime (L D x : Int) : Int × Bool := if ClockOk L D ∧ 0 ≤ x then (cnt 1000 x L D, true) else (0, false)
theorem TimeI (L D x : Int) : Ev (fun k => impl_TimeOfLevel.f k L D x) (aTime L D x) := by
  unfold impl_TimeOfLevel.f aTime
  rw [goodI]; simp only [Option.bind_some]
  by_cases h : ClockOk L D
  · refine Ev.pos (decide_eq_true h) ?_
    by_cases c : 0 ≤ x
    · rw [if_pos ⟨h, c⟩]; exact Ev.neg (by omega) (Ev.bind (timeTo_ev h c) (Ev.const rfl))
    · rw [if_neg (fun z => c z.2)]; exact Ev.pos (by omega) (Ev.const rfl)
  · rw [if_neg (fun z => h z.1)]; exact Ev.neg (nf h) (Ev.const rfl)
theorem TimeS (L D x : Int) : Ev (fun k => spec_TimeOfLevel.f k L D x) (aTime L D x) := by
  unfold spec_TimeOfLevel.f aTime
  rw [goodS]; simp only [Option.bind_some]
  have J : Ev (fun k => spec_TimeOfLevel.j0 k x true L D) (0, false) := Ev.succ (by simp only [spec_TimeOfLevel.j0]; exact Ev.pos (by first | rfl | trivial) (Ev.const rfl))
  by_cases h : ClockOk L D
  · refine Ev.pos (decide_eq_true h) ?_
    by_cases c : 0 ≤ x
    · rw [if_pos ⟨h, c⟩, decide_eq_false (show ¬ x < 0 by omega)]
      refine Ev.succ ?_
      simp only [spec_TimeOfLevel.j0]
      refine Ev.neg (by simp) (Ev.bind (levels_ev h) (Ev.of 1002 fun k hk => ?_))
      have E := spec_time D x c 1000 k [] L h.1.2 h.1.1 h.2.1 (by omega) (by simp)
      simpa using E
    · rw [if_neg (fun z => c z.2), decide_eq_true (show x < 0 by omega)]; exact J
  · rw [if_neg (fun z => h z.1)]; exact Ev.neg (nf h) J
/-- What is told of the least level: it runs t ticks, and the one below does not. -/
def LeastAns (D t : Int) (q : Int × Bool) : Prop := q.2 = true → ClockOk q.1 D ∧ emp q.1 D ≥ t ∧ (q.1 > 0 → ClockOk (q.1 - 1) D ∧ emp (q.1 - 1) D < t)
theorem least_are {D t : Int} (hD : 1 ≤ D ∧ D ≤ 100) : ∀ (n i : Nat), i + n = 1001 → (0 < i → emp ((i : Int) - 1) D < t) →
    ∃ q, LeastAns D t q ∧ Ev (fun k => impl_LeastLevelFor.l0 k D t i) q ∧ Ev (fun k => spec_LeastLevelFor.l0 k D t i) q := by
  intro n
  induction n with
  | zero =>
    intro i hi hp
    refine ⟨(0, false), fun h => (by cases h), Ev.succ ?_, Ev.succ ?_⟩
    · simp only [impl_LeastLevelFor.l0]; exact Ev.neg (by omega) (Ev.const rfl)
    · simp only [spec_LeastLevelFor.l0]; exact Ev.neg (by omega) (Ev.const rfl)
  | succ n ih =>
    intro i hi hp
    have h : ClockOk (i : Int) D := ⟨⟨by omega, by omega⟩, hD⟩
    by_cases c : emp (i : Int) D ≥ t
    · refine ⟨((i : Int), true), fun _ => ⟨h, c, fun z => ⟨⟨⟨by omega, by omega⟩, hD⟩, hp (by omega)⟩⟩, Ev.succ ?_, Ev.succ ?_⟩
      · simp only [impl_LeastLevelFor.l0]
        exact Ev.pos (by omega) (Ev.bind (timeTo_ev h (by omega)) (Ev.pos c (Ev.const rfl)))
      · simp only [spec_LeastLevelFor.l0]
        exact Ev.pos (by omega) (Ev.bind (ckEmpty_ev h) (Ev.pos c (Ev.const rfl)))
    · obtain ⟨q, hq, i1, i2⟩ := ih (i + 1) (by omega) (fun _ => by rw [show ((i + 1 : Nat) : Int) - 1 = (i : Int) by omega]; omega)
      rw [show ((i + 1 : Nat) : Int) = (i : Int) + 1 by omega] at i1 i2
      refine ⟨q, hq, Ev.succ ?_, Ev.succ ?_⟩
      · simp only [impl_LeastLevelFor.l0]
        rw [w64 (x := (i : Int) + 1) (by omega) (by omega)]
        exact Ev.pos (by omega) (Ev.bind (timeTo_ev h (by omega)) (Ev.neg c i1))
      · simp only [spec_LeastLevelFor.l0]
        rw [w64 (x := (i : Int) + 1) (by omega) (by omega)]
        exact Ev.pos (by omega) (Ev.bind (ckEmpty_ev h) (Ev.neg c i2))
theorem Leasts (D t : Int) : ∃ q, LeastAns D t q ∧ Ev (fun k => impl_LeastLevelFor.f k D t) q ∧ Ev (fun k => spec_LeastLevelFor.f k D t) q := by
  unfold impl_LeastLevelFor.f spec_LeastLevelFor.f spec_ckTime.f
  rw [in_impl, in_impl, in_spec, in_spec]; simp only [Option.bind_some]
  have no : LeastAns D t (0, false) := fun h => (by cases h)
  have JI : Ev (fun k => impl_LeastLevelFor.j0 k D t true) (0, false) := Ev.succ (by simp only [impl_LeastLevelFor.j0]; exact Ev.pos (by first | rfl | trivial) (Ev.const rfl))
  have JS : Ev (fun k => spec_LeastLevelFor.j0 k D t true) (0, false) := Ev.succ (by simp only [spec_LeastLevelFor.j0]; exact Ev.pos (by first | rfl | trivial) (Ev.const rfl))
  by_cases h : 1 ≤ D ∧ D ≤ 100
  · by_cases ht : 0 ≤ t ∧ t ≤ 10000
    · obtain ⟨q, hq, i1, i2⟩ := least_are (t := t) h 1001 0 (by omega) (fun z => absurd z (by omega))
      refine ⟨q, hq, Ev.pos (decide_eq_true h) ?_, Ev.pos (decide_eq_true h) ?_⟩
      · rw [decide_eq_true ht]; refine Ev.succ ?_; simp only [impl_LeastLevelFor.j0]; exact Ev.neg (by simp) i1
      · rw [decide_eq_true ht]; refine Ev.succ ?_; simp only [spec_LeastLevelFor.j0]; exact Ev.neg (by simp) i2
    · refine ⟨(0, false), no, Ev.pos (decide_eq_true h) ?_, Ev.pos (decide_eq_true h) ?_⟩
      · rw [decide_eq_false ht]; exact JI
      · rw [decide_eq_false ht]; exact JS
  · exact ⟨(0, false), no, Ev.neg (nf h) JI, Ev.neg (nf h) JS⟩
/-- What is told of the meeting: the levels are the same there, and not a tick ahead. -/
def MeetAns (L D M E : Int) (q : Int × Bool) : Prop := q.2 = true → ClockOk L D ∧ ClockOk M E ∧ ∃ t : Nat, q.1 = t ∧ t ≤ 1000 ∧ lvl L D t = lvl M E t ∧ (0 < t → lvl L D (t - 1) ≠ lvl M E (t - 1))
theorem lvl_low {L D : Int} (h : ClockOk L D) : lvl L D 1000 = 0 := by
  have hb := emp_bd L D
  have a := lvl_mono h (emp L D).toNat (1000 - (emp L D).toNat)
  rw [show (emp L D).toNat + (1000 - (emp L D).toNat) = 1000 by omega, emp_at h] at a
  have b := lvl_bd h 1000
  omega
theorem meet_are {L D M E : Int} (h : ClockOk L D) (g : ClockOk M E) : ∀ (n i : Nat), i + n = 1000 → (0 < i → lvl L D (i - 1) ≠ lvl M E (i - 1)) →
    ∃ q, MeetAns L D M E q ∧ Ev (fun k => impl_FirstMeeting.l0 k i (lvl L D i) D (lvl M E i) E) q ∧ Ev (fun k => spec_FirstMeeting.l0 k i (lvl L D i) D (lvl M E i) E) q := by
  have fin : ∀ i : Nat, i ≤ 1000 → (0 < i → lvl L D (i - 1) ≠ lvl M E (i - 1)) → lvl L D i = lvl M E i → ∃ q, MeetAns L D M E q ∧ Ev (fun k => impl_FirstMeeting.l0 k i (lvl L D i) D (lvl M E i) E) q ∧ Ev (fun k => spec_FirstMeeting.l0 k i (lvl L D i) D (lvl M E i) E) q := by
    intro i hi hp c
    refine ⟨((i : Int), true), fun _ => ⟨h, g, i, rfl, hi, c, hp⟩, Ev.succ ?_, Ev.succ ?_⟩
    · simp only [impl_FirstMeeting.l0]; exact Ev.pos c (Ev.const rfl)
    · simp only [spec_FirstMeeting.l0]; exact Ev.pos c (Ev.const rfl)
  intro n
  induction n with
  | zero =>
    intro i hi hp
    obtain rfl : i = 1000 := by omega
    exact fin 1000 (by omega) hp (by rw [lvl_low h, lvl_low g])
  | succ n ih =>
    intro i hi hp
    by_cases c : lvl L D i = lvl M E i
    · exact fin i (by omega) hp c
    · obtain ⟨q, hq, i1, i2⟩ := ih (i + 1) (by omega) (fun _ => c)
      rw [show ((i + 1 : Nat) : Int) = (i : Int) + 1 by omega] at i1 i2
      have hl := ok_lvl h i
      have gl := ok_lvl g i
      refine ⟨q, hq, Ev.succ ?_, Ev.succ ?_⟩
      · simp only [impl_FirstMeeting.l0]
        rw [next_impl _ D hl.1.1 hl.1.2 hl.2.1 hl.2.2, next_impl _ E gl.1.1 gl.1.2 gl.2.1 gl.2.2]; simp only [Option.bind_some]
        rw [w64 (x := (i : Int) + 1) (by omega) (by omega)]
        exact Ev.neg c i1
      · simp only [spec_FirstMeeting.l0]
        rw [w64 (x := (i : Int) + 1) (by omega) (by omega)]
        exact Ev.neg c (Ev.bind (after_spec 1 _ hl (by omega)) (Ev.bind (after_spec 1 _ gl (by omega)) i2))
theorem Meets (L D M E : Int) : ∃ q, MeetAns L D M E q ∧ Ev (fun k => impl_FirstMeeting.f k L D M E) q ∧ Ev (fun k => spec_FirstMeeting.f k L D M E) q := by
  unfold impl_FirstMeeting.f spec_FirstMeeting.f
  rw [goodI, goodI, goodS, goodS]; simp only [Option.bind_some]
  have no : MeetAns L D M E (0, false) := fun h => (by cases h)
  have JI : Ev (fun k => impl_FirstMeeting.j0 k true L D M E) (0, false) := Ev.succ (by simp only [impl_FirstMeeting.j0]; exact Ev.pos (by first | rfl | trivial) (Ev.const rfl))
  have JS : Ev (fun k => spec_FirstMeeting.j0 k true L D M E) (0, false) := Ev.succ (by simp only [spec_FirstMeeting.j0]; exact Ev.pos (by first | rfl | trivial) (Ev.const rfl))
  by_cases h : ClockOk L D
  · by_cases g : ClockOk M E
    · obtain ⟨q, hq, i1, i2⟩ := meet_are h g 1000 0 (by omega) (fun z => absurd z (by omega))
      refine ⟨q, hq, Ev.pos (decide_eq_true h) ?_, Ev.pos (decide_eq_true h) ?_⟩
      · rw [decide_eq_true g]; refine Ev.succ ?_; simp only [impl_FirstMeeting.j0]; exact Ev.neg (by simp) i1
      · rw [decide_eq_true g]; refine Ev.succ ?_; simp only [spec_FirstMeeting.j0]; exact Ev.neg (by simp) i2
    · refine ⟨(0, false), no, Ev.pos (decide_eq_true h) ?_, Ev.pos (decide_eq_true h) ?_⟩
      · rw [decide_eq_false g]; exact JI
      · rw [decide_eq_false g]; exact JS
  · exact ⟨(0, false), no, Ev.neg (nf h) JI, Ev.neg (nf h) JS⟩
end Go.Proofs.Ytmlkdkeocbhajaa.PuB
