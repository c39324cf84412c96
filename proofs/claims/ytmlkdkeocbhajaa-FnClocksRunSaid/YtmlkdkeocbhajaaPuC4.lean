/- Plain functions and what they come to. -/
import Derived.Test.YtmlkdkeocbhajaaPuC3
namespace Go.Proofs.Ytmlkdkeocbhajaa.PuB
open Go.RowKit Go.Proofs.Ytmlkdkeocbhajaa.C Go.Proofs.YtmlkdkeocbhajaaW.PrintLast Go.Proofs.YtmlkdkeocbhajaaW.PrintMore
open Go.Proofs.YtmlkdkeocbhajaaW.PrintWords hiding Ev
set_option linter.unusedVariables false
set_option linter.unusedSimpArgs false
theorem eSame_l0 (a : List Int) (hb : a.length ≤ 1000000) : ∀ (d k i : Nat), i + d = a.length → d < k → laws_eSame.l0 k a a (a.length : Int) (i : Int) = some true
  | 0, 0, i, _, h => by omega
  | 0, k + 1, i, hi, _ => by simp only [laws_eSame.l0]; rw [if_neg (by omega)]
  | d + 1, 0, i, _, h => by omega
  | d + 1, k + 1, i, hi, hk => by
    simp only [laws_eSame.l0]
    rw [if_pos (by omega), if_pos (by omega), if_pos (by omega), if_pos (by omega), if_pos trivial, w64 (by omega) (by omega), show ((i : Int) + 1) = ((i + 1 : Nat) : Int) by omega]
    exact eSame_l0 a hb d k (i + 1) (by omega) (by omega)
theorem eSame_ev (a : List Int) (hb : a.length ≤ 1000000) : Ev (fun k => laws_eSame.f k a a) true := Ev.of 2000000 fun k hk => by
  unfold laws_eSame.f
  rw [if_pos rfl]
  exact eSame_l0 a hb a.length k 0 (by omega) (by omega)
theorem clock_draw {l : List Int} (h : Bytes l) (p s : Int) (h0 : 0 ≤ p) (h1 : p ≤ 1000) : ∃ x y p' s', spec_l1Cur_clock.f l p s = some (x, y, p', s') ∧ 0 ≤ p' ∧ p' ≤ p + 20 := by
  unfold spec_l1Cur_clock.f
  obtain ⟨r1, p1, s1, e1, a1, b1, _⟩ := pick_ok h p s 60 h0 (by omega) (by omega)
  rw [e1]; simp only [Option.bind_some]
  obtain ⟨r2, p2, s2, e2, a2, b2, _⟩ := pick_ok h p1 s1 12 (by omega) (by omega) (by omega)
  rw [e2]; simp only [Option.bind_some]
  obtain ⟨r4, p4, s4, e4, a4, b4, _⟩ := pick_ok h p2 s2 16 (by omega) (by omega) (by omega)
  rw [e4]; simp only [Option.bind_some]
  by_cases c0 : r4 = 0
  · obtain ⟨r5, p5, s5, e5, a5, b5, _⟩ := among_ok h p4 s4 [(-1), 1000, 1001, 4611686018427387904] (by omega) (by omega) (by simp) (by simp)
    rw [if_pos c0, e5]; simp only [Option.bind_some]
    exact ⟨_, _, _, _, rfl, by omega, by omega⟩
  · rw [if_neg c0]
    by_cases c1 : r4 = 1
    · obtain ⟨r5, p5, s5, e5, a5, b5, _⟩ := among_ok h p4 s4 [0, 100, 101, (-1)] (by omega) (by omega) (by simp) (by simp)
      rw [if_pos c1, e5]; simp only [Option.bind_some]
      exact ⟨_, _, _, _, rfl, by omega, by omega⟩
    · rw [if_neg c1]
      exact ⟨_, _, _, _, rfl, by omega, by omega⟩
theorem time_draw {l : List Int} (h : Bytes l) (p s : Int) (h0 : 0 ≤ p) (h1 : p ≤ 1000) : ∃ x p' s', spec_l1Cur_time.f l p s = some (x, p', s') ∧ 0 ≤ p' ∧ p' ≤ p + 20 := by
  unfold spec_l1Cur_time.f
  obtain ⟨r1, p1, s1, e1, a1, b1, _⟩ := pick_ok h p s 60 h0 (by omega) (by omega)
  rw [e1]; simp only [Option.bind_some]
  obtain ⟨r2, p2, s2, e2, a2, b2, _⟩ := pick_ok h p1 s1 60 (by omega) (by omega) (by omega)
  rw [e2]; simp only [Option.bind_some]
  obtain ⟨r3, p3, s3, e3, a3, b3, _⟩ := pick_ok h p2 s2 200 (by omega) (by omega) (by omega)
  rw [e3]; simp only [Option.bind_some]
  obtain ⟨r5, p5, s5, e5, a5, b5, _⟩ := among_ok h p3 s3 [0, 1, 2, 5, 12, 30, 100, 1000, 10000, 10001, (-1), r1, r2, r3] (by omega) (by omega) (by simp) (by simp)
  rw [e5]; simp only [Option.bind_some]
  exact ⟨_, _, _, rfl, by omega, by omega⟩
theorem DrawLevelsOfClock_ok {l : List Int} (h : Bytes l) : ∃ L D, spec_DrawLevelsOfClock.f l = some (L, D) := by
  unfold spec_DrawLevelsOfClock.f spec_DrawIsClock.f
  obtain ⟨x, y, p1, s1, e1, a1, b1⟩ := clock_draw h 0 0 (by omega) (by omega)
  rw [e1]; exact ⟨_, _, rfl⟩
theorem DrawMarksOf_ok {l : List Int} (h : Bytes l) : ∃ L D n, spec_DrawMarksOf.f l = some (L, D, n) := by
  unfold spec_DrawMarksOf.f
  obtain ⟨x, y, p1, s1, e1, a1, b1⟩ := clock_draw h 0 0 (by omega) (by omega)
  rw [e1]; simp only [Option.bind_some]
  obtain ⟨r5, p5, s5, e5, a5, b5, _⟩ := among_ok h p1 s1 [1, 2, 3, 6, 12, 24, 25, 0, (-1)] (by omega) (by omega) (by simp) (by simp)
  rw [e5]; exact ⟨_, _, _, rfl⟩
theorem DrawTimeOfLevel_ok {l : List Int} (h : Bytes l) : ∃ L D x, spec_DrawTimeOfLevel.f l = some (L, D, x) := by
  unfold spec_DrawTimeOfLevel.f
  obtain ⟨x, y, p1, s1, e1, a1, b1⟩ := clock_draw h 0 0 (by omega) (by omega)
  rw [e1]; simp only [Option.bind_some]
  obtain ⟨r2, p2, s2, e2, a2, b2, _⟩ := pick_ok h p1 s1 60 (by omega) (by omega) (by omega)
  rw [e2]; simp only [Option.bind_some]
  obtain ⟨r5, p5, s5, e5, a5, b5, _⟩ := among_ok h p2 s2 [0, 1, 5, 20, (-1), 2000, r2] (by omega) (by omega) (by simp) (by simp)
  rw [e5]; exact ⟨_, _, _, rfl⟩
theorem DrawClockAfter_ok {l : List Int} (h : Bytes l) : ∃ L D t, spec_DrawClockAfter.f l = some (L, D, t) := by
  unfold spec_DrawClockAfter.f
  obtain ⟨x, y, p1, s1, e1, a1, b1⟩ := clock_draw h 0 0 (by omega) (by omega)
  rw [e1]; simp only [Option.bind_some]
  obtain ⟨t, p2, s2, e2, _, _⟩ := time_draw h p1 s1 (by omega) (by omega)
  rw [e2]; exact ⟨_, _, _, rfl⟩
theorem DrawLeastLevelFor_ok {l : List Int} (h : Bytes l) : ∃ D t, spec_DrawLeastLevelFor.f l = some (D, t) := by
  unfold spec_DrawLeastLevelFor.f
  obtain ⟨r5, p5, s5, e5, a5, b5, _⟩ := among_ok h 0 0 [1, 2, 4, 7, 30, 100, 101, 0] (by omega) (by omega) (by simp) (by simp)
  rw [e5]; simp only [Option.bind_some]
  obtain ⟨t, p2, s2, e2, _, _⟩ := time_draw h p5 s5 (by omega) (by omega)
  rw [e2]; exact ⟨_, _, rfl⟩
theorem DrawFirstMeeting_ok {l : List Int} (h : Bytes l) : ∃ L D M E, spec_DrawFirstMeeting.f l = some (L, D, M, E) := by
  unfold spec_DrawFirstMeeting.f
  obtain ⟨x, y, p1, s1, e1, a1, b1⟩ := clock_draw h 0 0 (by omega) (by omega)
  rw [e1]; simp only [Option.bind_some]
  obtain ⟨x2, y2, p2, s2, e2, a2, b2⟩ := clock_draw h p1 s1 (by omega) (by omega)
  rw [e2]; exact ⟨_, _, _, _, rfl⟩
end Go.Proofs.Ytmlkdkeocbhajaa.PuB
