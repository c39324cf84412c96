/- Plain functions and what they come to. -/
import Derived.Test.YtmlkdkeocbhajaaPuG3
namespace Go.Proofs.Ytmlkdkeocbhajaa.PuB
open Go.RowKit Go.Proofs.Ytmlkdkeocbhajaa.G Go.Proofs.YtmlkdkeocbhajaaW.PrintLast Go.Proofs.YtmlkdkeocbhajaaW.PrintMore
open Go.Proofs.YtmlkdkeocbhajaaW.PrintWords hiding Ev
set_option linter.unusedVariables false
set_option linter.unusedSimpArgs false
theorem eSame_l0 (a : List Int) (hb : a.length ≤ 1000000) : ∀ (d k i : Nat), i + d = a.length → d < k → laws_eSame.l0 k a a (a.length : Int) (i : Int) = some true
  | 0, 0, i, _, h => by omega
  | 0, k + 1, i, hi, _ => by simp only [laws_eSame.l0]; rw [if_neg (by omega)]
  | d + 1, 0, i, _, h => by omega
  | d + 1, k + 1, i, hi, hk => by
    simp only [laws_eSame.l0]
    rw [if_pos (by omega), if_pos (by omega), if_pos (by omega), if_pos (by omega), if_pos trivial, w64 (by omega) (by omega), show ((i : Int) + 1) = ((i + 1 : Nat) : Int) by omega]
    exact eSame_l0 a hb d k (i + 1) (by omega) (by omega)
theorem eSame_ev (a : List Int) (hb : a.length ≤ 1000000) : Ev (fun k => laws_eSame.f k a a) true := Ev.of 2000000 fun k hk => by
  unfold laws_eSame.f
  rw [if_pos rfl]
  exact eSame_l0 a hb a.length k 0 (by omega) (by omega)
theorem wheel_draw {l : List Int} (h : Bytes l) (p s : Int) (h0 : 0 ≤ p) (h1 : p ≤ 1000) : ∃ x y z p' s', spec_l1Cur_wheel.f l p s = some (x, y, z, p', s') ∧ 0 ≤ p' ∧ p' ≤ p + 20 := by
  unfold spec_l1Cur_wheel.f
  obtain ⟨r1, p1, s1, e1, a1, b1, _⟩ := pick_ok h p s 8 h0 (by omega) (by omega)
  rw [e1]; simp only [Option.bind_some]
  obtain ⟨r2, p2, s2, e2, a2, b2, _⟩ := pick_ok h p1 s1 12 (by omega) (by omega) (by omega)
  rw [e2]; simp only [Option.bind_some]
  obtain ⟨r3, p3, s3, e3, a3, b3, _⟩ := pick_ok h p2 s2 5 (by omega) (by omega) (by omega)
  rw [e3]; simp only [Option.bind_some]
  obtain ⟨r4, p4, s4, e4, a4, b4, _⟩ := pick_ok h p3 s3 16 (by omega) (by omega) (by omega)
  rw [e4]; simp only [Option.bind_some]
  by_cases c0 : r4 = 0
  · obtain ⟨r5, p5, s5, e5, a5, b5, _⟩ := among_ok h p4 s4 [1, 60, 61, (-1)] (by omega) (by omega) (by simp) (by simp)
    rw [if_pos c0, e5]; simp only [Option.bind_some]
    exact ⟨_, _, _, _, _, rfl, by omega, by omega⟩
  · rw [if_neg c0]
    by_cases c1 : r4 = 1
    · obtain ⟨r5, p5, s5, e5, a5, b5, _⟩ := among_ok h p4 s4 [0, 60, 61] (by omega) (by omega) (by simp) (by simp)
      rw [if_pos c1, e5]; simp only [Option.bind_some]
      exact ⟨_, _, _, _, _, rfl, by omega, by omega⟩
    · rw [if_neg c1]
      by_cases c2 : r4 = 2
      · obtain ⟨r5, p5, s5, e5, a5, b5, _⟩ := among_ok h p4 s4 [0, 60, 61, 4611686018427387904] (by omega) (by omega) (by simp) (by simp)
        rw [if_pos c2, e5]; simp only [Option.bind_some]
        exact ⟨_, _, _, _, _, rfl, by omega, by omega⟩
      · rw [if_neg c2]
        exact ⟨_, _, _, _, _, rfl, by omega, by omega⟩
theorem time_draw {l : List Int} (h : Bytes l) (p s : Int) (h0 : 0 ≤ p) (h1 : p ≤ 1000) : ∃ x p' s', spec_l1Cur_time.f l p s = some (x, p', s') ∧ 0 ≤ p' ∧ p' ≤ p + 20 := by
  unfold spec_l1Cur_time.f
  obtain ⟨r1, p1, s1, e1, a1, b1, _⟩ := pick_ok h p s 60 h0 (by omega) (by omega)
  rw [e1]; simp only [Option.bind_some]
  obtain ⟨r2, p2, s2, e2, a2, b2, _⟩ := pick_ok h p1 s1 60 (by omega) (by omega) (by omega)
  rw [e2]; simp only [Option.bind_some]
  obtain ⟨r3, p3, s3, e3, a3, b3, _⟩ := pick_ok h p2 s2 200 (by omega) (by omega) (by omega)
  rw [e3]; simp only [Option.bind_some]
  obtain ⟨r5, p5, s5, e5, a5, b5, _⟩ := among_ok h p3 s3 [0, 1, 2, 5, 12, 30, 100, 1000, 10000, 10001, (-1), r1, r2, r3] (by omega) (by omega) (by simp) (by simp)
  rw [e5]; simp only [Option.bind_some]
  exact ⟨_, _, _, rfl, by omega, by omega⟩
theorem scale_draw {l : List Int} (h : Bytes l) (p s : Int) (h0 : 0 ≤ p) (h1 : p ≤ 1000) : ∃ x y z p' s', spec_l1Cur_scale.f l p s = some (x, y, z, p', s') ∧ 0 ≤ p' ∧ p' ≤ p + 20 := by
  unfold spec_l1Cur_scale.f
  obtain ⟨r1, p1, s1, e1, a1, b1, _⟩ := pick_ok h p s 9 h0 (by omega) (by omega)
  rw [e1]; simp only [Option.bind_some]
  obtain ⟨r2, p2, s2, e2, a2, b2, _⟩ := pick_ok h p1 s1 9 (by omega) (by omega) (by omega)
  rw [e2]; simp only [Option.bind_some]
  obtain ⟨r3, p3, s3, e3, a3, b3, _⟩ := pick_ok h p2 s2 20 (by omega) (by omega) (by omega)
  rw [e3]; simp only [Option.bind_some]
  obtain ⟨r4, p4, s4, e4, a4, b4, _⟩ := pick_ok h p3 s3 16 (by omega) (by omega) (by omega)
  rw [e4]; simp only [Option.bind_some]
  by_cases c0 : r4 = 0
  · obtain ⟨r5, p5, s5, e5, a5, b5, _⟩ := among_ok h p4 s4 [(-1), 60, 61] (by omega) (by omega) (by simp) (by simp)
    rw [if_pos c0, e5]; simp only [Option.bind_some]
    exact ⟨_, _, _, _, _, rfl, by omega, by omega⟩
  · rw [if_neg c0]
    by_cases c1 : r4 = 1
    · obtain ⟨r5, p5, s5, e5, a5, b5, _⟩ := among_ok h p4 s4 [0, 1000, 1001, (-1)] (by omega) (by omega) (by simp) (by simp)
      rw [if_pos c1, e5]; simp only [Option.bind_some]
      exact ⟨_, _, _, _, _, rfl, by omega, by omega⟩
    · rw [if_neg c1]
      exact ⟨_, _, _, _, _, rfl, by omega, by omega⟩
theorem DrawWheelAfter_ok {l : List Int} (h : Bytes l) : ∃ s r q t, spec_DrawWheelAfter.f l = some (s, r, q, t) := by
  unfold spec_DrawWheelAfter.f
  obtain ⟨x, y, z, p1, s1, e1, a1, b1⟩ := wheel_draw h 0 0 (by omega) (by omega)
  rw [e1]; simp only [Option.bind_some]
  obtain ⟨t, p2, s2, e2, _, _⟩ := time_draw h p1 s1 (by omega) (by omega)
  rw [e2]; exact ⟨_, _, _, _, rfl⟩
theorem DrawTimesOfScoop_ok {l : List Int} (h : Bytes l) : ∃ s r q c t, spec_DrawTimesOfScoop.f l = some (s, r, q, c, t) := by
  unfold spec_DrawTimesOfScoop.f
  obtain ⟨x, y, z, p1, s1, e1, a1, b1⟩ := wheel_draw h 0 0 (by omega) (by omega)
  rw [e1]; simp only [Option.bind_some]
  obtain ⟨c, p2, s2, e2, a2, b2, _⟩ := pick_ok h p1 s1 6 (by omega) (by omega) (by omega)
  rw [e2]; simp only [Option.bind_some]
  obtain ⟨t, p3, s3, e3, _, _⟩ := time_draw h p2 s2 (by omega) (by omega)
  rw [e3]; exact ⟨_, _, _, _, _, rfl⟩
theorem DrawScaleEvents_ok {l : List Int} (h : Bytes l) : ∃ s r q t, spec_DrawScaleEvents.f l = some (s, r, q, t) := by
  unfold spec_DrawScaleEvents.f
  obtain ⟨x, y, z, p1, s1, e1, a1, b1⟩ := scale_draw h 0 0 (by omega) (by omega)
  rw [e1]; simp only [Option.bind_some]
  obtain ⟨r5, p5, s5, e5, a5, b5, _⟩ := among_ok h p1 s1 [0, 1, 10, 40, 200, 201, (-1)] (by omega) (by omega) (by simp) (by simp)
  rw [e5]; exact ⟨_, _, _, _, rfl⟩
theorem DrawPeriodOfScale_ok {l : List Int} (h : Bytes l) : ∃ s r q, spec_DrawPeriodOfScale.f l = some (s, r, q) := by
  unfold spec_DrawPeriodOfScale.f
  obtain ⟨x, y, z, p1, s1, e1, a1, b1⟩ := scale_draw h 0 0 (by omega) (by omega)
  rw [e1]; exact ⟨_, _, _, rfl⟩
end Go.Proofs.Ytmlkdkeocbhajaa.PuB
