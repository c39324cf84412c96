/- Plain functions and what they come to. -/
import Derived.Test.YtmlkdkeocbhajaaPuG5
namespace Go.Proofs.Ytmlkdkeocbhajaa.PuB
open Go.RowKit Go.Proofs.Ytmlkdkeocbhajaa.G Go.Proofs.YtmlkdkeocbhajaaW.PrintLast Go.Proofs.YtmlkdkeocbhajaaW.PrintMore
open Go.Proofs.YtmlkdkeocbhajaaW.PrintWords hiding Ev
set_option linter.unusedVariables false
set_option linter.unusedSimpArgs false
theorem WheelS_ev (s room rate t : Int) : Ev (fun k => spec_WheelAfter.f k s room rate t) (aWheel s room rate t) := Ev.succ ⟨0, fun k _ => WheelS k s room rate t⟩
theorem SpiltS_ev (s room rate t : Int) : Ev (fun k => spec_SpiltByWheel.f k s room rate t) (aSpilt s room rate t) := Ev.succ ⟨0, fun k _ => SpiltS k s room rate t⟩
/-- A time at which scoop c is full: the wheel carries nothing, and the next scoop stands there. -/
theorem wheel_at {s room rate c v : Int} (h : WheelOk s room rate) (hc : 0 ≤ c) (i : Nat) (hv : v = (c + 1) * fill room rate + (i : Int) * (s * fill room rate)) (ht : TOk v) : aWheel s room rate v = ((c + 1) % s, 0, true) := by
  obtain ⟨hs, hr, hq⟩ := id h
  have fb := fill_bd room rate hr.1 hr.2 hq.1 hq.2
  have e : v = fill room rate * (c + 1 + (i : Int) * s) := by
    rw [hv, Int.mul_add, Int.mul_comm (fill room rate) (c + 1), Int.mul_comm (fill room rate) ((i : Int) * s), Int.mul_assoc]
  unfold aWheel
  rw [if_pos ⟨h, ht⟩, e, Int.mul_ediv_cancel_left _ (by omega), Int.mul_emod_right, Int.zero_mul, Int.add_mul_emod_self_right]
theorem law_l0 {l : List Int} {s room rate t c : Int} (b : Bytes l) (h : WheelOk s room rate) (ht : TOk t) (hc : 0 ≤ c ∧ c ≤ s - 1) : ∀ (n i : Nat), i + n = (tl t (s * fill room rate) 10001 ((c + 1) * fill room rate)).length → Ev (fun k => laws_FnWheelsAndScales.l0 k l t c (s * fill room rate) (tl t (s * fill room rate) 10001 ((c + 1) * fill room rate)) (tl t (s * fill room rate) 10001 ((c + 1) * fill room rate)) ((tl t (s * fill room rate) 10001 ((c + 1) * fill room rate)).length : Int) i s room rate) true := by
  have hlen := tl_len t (s * fill room rate) 10001 ((c + 1) * fill room rate)
  have G := tl_get t (s * fill room rate) 10001 ((c + 1) * fill room rate)
  obtain ⟨hs, hr, hq⟩ := id h
  have fb := fill_bd room rate hr.1 hr.2 hq.1 hq.2
  have tb := turn_bd h
  have x0 := Int.mul_nonneg (show 0 ≤ c + 1 by omega) (show 0 ≤ fill room rate by omega)
  generalize tl t (s * fill room rate) 10001 ((c + 1) * fill room rate) = L at hlen G ⊢
  intro n
  induction n with
  | zero =>
    intro i hi
    refine Ev.succ ?_
    simp only [laws_FnWheelsAndScales.l0]
    exact Ev.neg (by omega) (law_j5 b)
  | succ n ih =>
    intro i hi
    refine Ev.succ ?_
    have E := ih (i + 1) (by omega)
    obtain ⟨g1, g2⟩ := G i (by omega)
    have y0 := Int.mul_nonneg (show 0 ≤ (i : Int) by omega) (show 0 ≤ s * fill room rate by omega)
    have htt := ht.2
    have hv : TOk (rd L i) := ⟨by omega, by omega⟩
    have W := wheel_at h hc.1 i g1 hv
    simp only [laws_FnWheelsAndScales.l0]
    rw [WheelI, W]; simp only [Option.bind_some]
    rw [w64 (x := c + 1) (by omega) (by omega), w64 (x := (i : Int) + 1) (by omega) (by omega), Int.tmod_eq_emod_of_nonneg (by omega)]
    refine Ev.pos (by omega) (Ev.pos (by omega) (Ev.pos (by omega) (Ev.pos (by first | rfl | trivial) (Ev.neg (by omega) (Ev.pos (by first | rfl | trivial) (Ev.neg (by omega) (Ev.pos (by first | rfl | trivial) ?_)))))))
    by_cases d : (i : Int) > 0
    · obtain ⟨g3, g4⟩ := G (i - 1) (by omega)
      have y1 := Int.mul_nonneg (show 0 ≤ ((i - 1 : Nat) : Int) by omega) (show 0 ≤ s * fill room rate by omega)
      have ed : (i : Int) * (s * fill room rate) = ((i - 1 : Nat) : Int) * (s * fill room rate) + s * fill room rate := by
        rw [show (i : Int) = ((i - 1 : Nat) : Int) + 1 by omega, Int.add_mul, Int.one_mul]
      rw [w64 (x := (i : Int) - 1) (by omega) (by omega), show (i : Int) - 1 = ((i - 1 : Nat) : Int) by omega, w64 (x := rd L i - rd L ((i - 1 : Nat) : Int)) (by omega) (by omega)]
      exact Ev.pos d (Ev.pos (by omega) (Ev.pos (by omega) (Ev.pos (by omega) E)))
    · exact Ev.neg d E
theorem law_j0ok {l : List Int} {s room rate t : Int} (b : Bytes l) (h : WheelOk s room rate) (ht : TOk t) : Ev (fun k => laws_FnWheelsAndScales.j0 k l t ((t / fill room rate) % s) ((t % fill room rate) * rate) true ((t / fill room rate) * (fill room rate * rate - room)) (s * fill room rate) false s room rate) true := by
  obtain ⟨hs, hr, hq⟩ := id h
  obtain ⟨fb, db, mb, pb, eb, qb⟩ := wheel_bd h ht
  have tb := turn_bd h
  have ht0 := ht.1
  have ht1 := ht.2
  have c0 := Int.emod_nonneg (t / fill room rate) (show s ≠ 0 by omega)
  have c1 := Int.emod_lt_of_pos (t / fill room rate) (show 0 < s by omega)
  have id1 := law_id (fill room rate) (t / fill room rate) (t % fill room rate) room rate
  rw [Int.emod_add_mul_ediv] at id1
  have r0 := Int.mul_nonneg ht0 (show 0 ≤ rate by omega)
  have d0 := Int.mul_nonneg db.1 (show 0 ≤ room by omega)
  have r1 := Int.mul_le_mul ht1 hq.2 (by omega) (by omega)
  have ef : Int.tdiv (s * fill room rate) s = fill room rate := by
    rw [Int.tdiv_eq_ediv_of_nonneg (by omega), Int.mul_ediv_cancel_left _ (by omega)]
  refine Ev.succ ?_
  simp only [laws_FnWheelsAndScales.j0]
  refine Ev.neg (by simp) (Ev.pos (by first | rfl | trivial) (Ev.neg (by omega) (Ev.neg (by omega) (Ev.neg (by omega) (Ev.neg (by omega) ?_)))))
  rw [decide_eq_false (show ¬ (t / fill room rate) * (fill room rate * rate - room) < 0 by omega)]
  refine Ev.succ ?_
  simp only [laws_FnWheelsAndScales.j1]
  rw [ef, w64 (x := fill room rate) (by omega) (by omega), Int.tdiv_eq_ediv_of_nonneg ht0, w64 (x := t / fill room rate) (by omega) (by omega), Int.tmod_eq_emod_of_nonneg db.1, w64 (x := t * rate) (by omega) (by omega), w64 (x := (t / fill room rate) * room) (by omega) (by omega), w64 (x := (t / fill room rate) * room + (t / fill room rate) * (fill room rate * rate - room)) (by omega) (by omega), w64 (x := (t / fill room rate) * room + (t / fill room rate) * (fill room rate * rate - room) + (t % fill room rate) * rate) (by omega) (by omega)]
  refine Ev.neg (by simp) (Ev.neg (by omega) (Ev.neg (by omega) (Ev.pos (by omega) ?_)))
  rw [show ((t / fill room rate) % s != (t / fill room rate) % s) = false by simp]
  refine Ev.succ ?_
  simp only [laws_FnWheelsAndScales.j2]
  rw [w64 (x := t + s * fill room rate) (by omega) (by omega)]
  have J3 : Ev (fun k => laws_FnWheelsAndScales.j3 k l t ((t / fill room rate) % s) (s * fill room rate) s room rate) true := by
    refine Ev.succ ?_
    simp only [laws_FnWheelsAndScales.j3]
    refine Ev.bind (TimesI s room rate ((t / fill room rate) % s) t) ?_
    have ea : aTimes s room rate ((t / fill room rate) % s) t = lim500 (tl t (s * fill room rate) 10001 (((t / fill room rate) % s + 1) * fill room rate)) := by
      unfold aTimes; rw [if_pos ⟨h, ⟨c0, by omega⟩, ht⟩]
    rw [ea]
    unfold lim500
    by_cases d : (tl t (s * fill room rate) 10001 (((t / fill room rate) % s + 1) * fill room rate)).length > 500
    · rw [if_pos d]; exact Ev.neg (by simp) (law_j5 b)
    · rw [if_neg d]
      exact Ev.pos (by first | rfl | trivial) (law_l0 b h ht ⟨c0, by omega⟩ _ 0 (Nat.zero_add _))
  refine Ev.neg (by simp) ?_
  by_cases d : t + s * fill room rate ≤ 10000
  · have ew : aWheel s room rate (t + s * fill room rate) = ((t / fill room rate) % s, (t % fill room rate) * rate, true) := by
      unfold aWheel
      rw [if_pos ⟨h, by omega, d⟩, Int.add_mul_ediv_right _ _ (show fill room rate ≠ 0 by omega), Int.add_mul_emod_self_right, Int.add_emod_right]
    rw [WheelI, ew]; simp only [Option.bind_some]
    exact Ev.pos d (Ev.pos (by first | rfl | trivial) (Ev.pos (by first | rfl | trivial) (Ev.pos (by first | rfl | trivial) J3)))
  · exact Ev.neg d J3
theorem law_j0no {l : List Int} (b : Bytes l) (t x y u v s room rate : Int) : Ev (fun k => laws_FnWheelsAndScales.j0 k l t x y false u v false s room rate) true := by
  refine Ev.succ ?_
  simp only [laws_FnWheelsAndScales.j0]
  exact Ev.neg (by simp) (Ev.neg (by simp) (law_j5 b))
theorem FnWheelsAndScales : laws_FnWheelsAndScales.Pure := by
  intro l0 l1 _ h0 w0 _ h1 w1
  have b0 := bytes_of l0 h0 w0
  have b1 := bytes_of l1 h1 w1
  refine Ev.ex (f := fun k => laws_FnWheelsAndScales.f k l0 l1) ?_
  unfold laws_FnWheelsAndScales.f
  have hbig : ∃ b, laws_big.f l0 l1 = some b := by unfold laws_big.f; split <;> exact ⟨_, rfl⟩
  obtain ⟨b, hbig⟩ := hbig
  rw [hbig]; simp only [Option.bind_some]
  cases b with
  | true => exact Ev.pos (by first | rfl | trivial) (Ev.const rfl)
  | false =>
  refine Ev.neg (by simp) ?_
  obtain ⟨s, r, q, t, e⟩ := DrawWheelAfter_ok b0
  have isw : spec_IsWheel.f s r q = some (decide (WheelOk s r q)) := by unfold spec_IsWheel.f; rw [wheel_spec]; rfl
  rw [e]; simp only [Option.bind_some]
  rw [WheelI, SpiltI, TurnI, TurnS, wheel_impl, isw]; simp only [Option.bind_some]
  refine Ev.bind (WheelS_ev s r q t) (Ev.bind (SpiltS_ev s r q t) ?_)
  have e1 : ((aSpilt s r q t).2 != (aWheel s r q t).2.2) = false := by unfold aSpilt aWheel; split <;> rfl
  have e2 : ((aTurn s r q).2 != decide (WheelOk s r q)) = false := by unfold aTurn; split <;> simp [*]
  refine Ev.neg (by simp) (Ev.pos (by first | rfl | trivial) (Ev.pos (by first | rfl | trivial) (Ev.neg (by simp) (Ev.pos (by first | rfl | trivial) (Ev.neg (by simp) (Ev.pos (by first | rfl | trivial) (Ev.neg (by rw [e1]; simp) (Ev.neg (by rw [e2]; simp) (Ev.neg (by simp) ?_)))))))))
  by_cases c : WheelOk s r q ∧ TOk t
  · have q1 : aWheel s r q t = ((t / fill r q) % s, (t % fill r q) * q, true) := by unfold aWheel; rw [if_pos c]
    have q2 : aSpilt s r q t = ((t / fill r q) * (fill r q * q - r), true) := by unfold aSpilt; rw [if_pos c]
    have q3 : aTurn s r q = (s * fill r q, true) := by unfold aTurn; rw [if_pos c.1]
    rw [q1, q2, q3]
    exact Ev.pos (by first | rfl | trivial) (law_j0ok b1 c.1 c.2)
  · have q1 : (aWheel s r q t).2.2 = false := by unfold aWheel; rw [if_neg c]
    rw [q1]
    exact Ev.neg (by simp) (law_j0no b1 _ _ _ _ _ _ _ _)
end Go.Proofs.Ytmlkdkeocbhajaa.PuB
