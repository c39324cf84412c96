/- Plain functions and what they come to. -/
import Derived.Test.YtmlkdkeocbhajaaPuG1
namespace Go.Proofs.Ytmlkdkeocbhajaa.PuB
open Go.RowKit Go.Proofs.Ytmlkdkeocbhajaa.G Go.Proofs.YtmlkdkeocbhajaaW.PrintLast Go.Proofs.YtmlkdkeocbhajaaW.PrintMore
open Go.Proofs.YtmlkdkeocbhajaaW.PrintWords hiding Ev
set_option linter.unusedVariables false
set_option linter.unusedSimpArgs false
theorem fill_rate (room rate : Int) (h0 : 1 ≤ room) (h2 : 1 ≤ rate) : room ≤ fill room rate * rate ∧ fill room rate * rate ≤ room + rate - 1 := by
  unfold fill
  have h1 := Int.emod_add_mul_ediv (room + rate - 1) rate
  have h3 := Int.emod_lt_of_pos (room + rate - 1) (show 0 < rate by omega)
  have h4 := Int.emod_nonneg (room + rate - 1) (show rate ≠ 0 by omega)
  rw [Int.mul_comm]
  generalize rate * ((room + rate - 1) / rate) = z at h1 ⊢
  omega
def TOk (t : Int) : Prop := 0 ≤ t ∧ t ≤ 10000
instance (t : Int) : Decidable (TOk t) := by unfold TOk; infer_instance
def aWheel (s room rate t : Int) : Int × Int × Bool := if WheelOk s room rate ∧ TOk t then ((t / fill room rate) % s, (t % fill room rate) * rate, true) else (0, 0, false)
def aSpilt (s room rate t : Int) : Int × Bool := if WheelOk s room rate ∧ TOk t then ((t / fill room rate) * (fill room rate * rate - room), true) else (0, false)
def aTurn (s room rate : Int) : Int × Bool := if WheelOk s room rate then (s * fill room rate, true) else (0, false)
theorem nd {p : Prop} [Decidable p] (h : ¬ p) : (!decide p) = true := by rw [decide_eq_false h]; rfl
theorem nd' {p : Prop} [Decidable p] (h : p) : ¬ (!decide p) = true := by rw [decide_eq_true h]; simp
theorem nf {p : Prop} [Decidable p] (h : ¬ p) : ¬ decide p = true := by rw [decide_eq_false h]; simp
/-- The bounds of what is reckoned. -/
theorem wheel_bd {s room rate t : Int} (h : WheelOk s room rate) (ht : TOk t) : (1 ≤ fill room rate ∧ fill room rate ≤ 60) ∧ (0 ≤ t / fill room rate ∧ t / fill room rate ≤ t) ∧ (0 ≤ t % fill room rate ∧ t % fill room rate < fill room rate) ∧ (0 ≤ (t % fill room rate) * rate ∧ (t % fill room rate) * rate < room) ∧ (0 ≤ fill room rate * rate - room ∧ fill room rate * rate - room ≤ 3600) ∧ (0 ≤ (t / fill room rate) * (fill room rate * rate - room) ∧ (t / fill room rate) * (fill room rate * rate - room) ≤ 36000000) := by
  obtain ⟨hs, hr, hq⟩ := h
  have fb := fill_bd room rate hr.1 hr.2 hq.1 hq.2
  have fr := fill_rate room rate hr.1 hq.1
  have d0 : 0 ≤ t / fill room rate := Int.ediv_nonneg ht.1 (by omega)
  have d1 : t / fill room rate ≤ t := Int.ediv_le_self _ ht.1
  have m0 := Int.emod_nonneg t (show fill room rate ≠ 0 by omega)
  have m1 := Int.emod_lt_of_pos t (show 0 < fill room rate by omega)
  have ht0 := ht.1
  have ht1 := ht.2
  have p0 : 0 ≤ (t % fill room rate) * rate := Int.mul_nonneg m0 (by omega)
  have p1 : (t % fill room rate) * rate ≤ (fill room rate - 1) * rate := Int.mul_le_mul_of_nonneg_right (by omega) (by omega)
  rw [Int.sub_mul, Int.one_mul] at p1
  have e0 : 0 ≤ fill room rate * rate - room := by omega
  have e1 : fill room rate * rate - room ≤ 60 := by omega
  have q0 : 0 ≤ (t / fill room rate) * (fill room rate * rate - room) := Int.mul_nonneg d0 e0
  have q1 : (t / fill room rate) * (fill room rate * rate - room) ≤ (t / fill room rate) * 60 := Int.mul_le_mul_of_nonneg_left e1 d0
  exact ⟨fb, ⟨d0, d1⟩, ⟨m0, m1⟩, ⟨p0, by omega⟩, ⟨e0, by omega⟩, ⟨q0, by omega⟩⟩
theorem WheelI (s room rate t : Int) : impl_WheelAfter.f s room rate t = some (aWheel s room rate t) := by
  unfold impl_WheelAfter.f aWheel
  rw [turned_impl]; simp only [Option.bind_some]
  by_cases h : WheelOk s room rate ∧ TOk t
  · obtain ⟨fb, db, mb, pb, _, _⟩ := wheel_bd h.1 h.2
    have hs := h.1.1
    have ht := h.2
    rw [if_pos (decide_eq_true (show WheelOk s room rate ∧ 0 ≤ t ∧ t ≤ 10000 from h)), if_pos h, fill_impl s room rate h.1.2.1.1 h.1.2.1.2 h.1.2.2.1 h.1.2.2.2]
    simp only [Option.bind_some]
    rw [if_neg (by omega), if_neg (by omega), if_neg (by omega), Int.tdiv_eq_ediv_of_nonneg ht.1, Int.tmod_eq_emod_of_nonneg ht.1, w64 (x := t / fill room rate) (by omega) (by have := ht.2; omega), Int.tmod_eq_emod_of_nonneg db.1, w64 (by omega) (by have := h.1.2.1; omega)]
  · rw [if_neg (nf (show ¬ (WheelOk s room rate ∧ 0 ≤ t ∧ t ≤ 10000) from h)), if_neg h]
theorem WheelS (k : Nat) (s room rate t : Int) : spec_WheelAfter.f (k + 1) s room rate t = some (aWheel s room rate t) := by
  unfold spec_WheelAfter.f aWheel spec_ckTime.f
  rw [wheel_spec, in_spec]; simp only [Option.bind_some]
  by_cases hw : WheelOk s room rate
  · rw [if_pos (decide_eq_true hw)]
    simp only [spec_WheelAfter.j0]
    by_cases ht : TOk t
    · obtain ⟨fb, db, mb, pb, _, _⟩ := wheel_bd hw ht
      have hs := hw.1
      rw [if_neg (nd' (show 0 ≤ t ∧ t ≤ 10000 from ht)), if_pos ⟨hw, ht⟩, fill_spec s room rate hw.2.1.1 hw.2.1.2 hw.2.2.1 hw.2.2.2]
      simp only [Option.bind_some]
      rw [if_neg (by omega), if_neg (by omega), if_neg (by omega), Int.tdiv_eq_ediv_of_nonneg ht.1, Int.tmod_eq_emod_of_nonneg ht.1, w64 (x := t / fill room rate) (by omega) (by have := ht.2; omega), Int.tmod_eq_emod_of_nonneg db.1, w64 (by omega) (by have := hw.2.1; omega)]
    · rw [if_pos (nd (show ¬ (0 ≤ t ∧ t ≤ 10000) from ht)), if_neg (fun q => ht q.2)]
  · rw [if_neg (nf hw), if_neg (fun q => hw q.1)]
    simp only [spec_WheelAfter.j0, if_true]
theorem SpiltI (s room rate t : Int) : impl_SpiltByWheel.f s room rate t = some (aSpilt s room rate t) := by
  unfold impl_SpiltByWheel.f aSpilt
  rw [turned_impl]; simp only [Option.bind_some]
  by_cases h : WheelOk s room rate ∧ TOk t
  · obtain ⟨fb, db, mb, pb, eb, qb⟩ := wheel_bd h.1 h.2
    have ht := h.2
    have hr := h.1.2.1
    rw [if_pos (decide_eq_true (show WheelOk s room rate ∧ 0 ≤ t ∧ t ≤ 10000 from h)), if_pos h, fill_impl s room rate h.1.2.1.1 h.1.2.1.2 h.1.2.2.1 h.1.2.2.2]
    simp only [Option.bind_some]
    rw [if_neg (by omega), Int.tdiv_eq_ediv_of_nonneg ht.1, w64 (x := t / fill room rate) (by omega) (by have := ht.2; omega), w64 (x := fill room rate * rate) (by omega) (by omega), w64 (x := fill room rate * rate - room) (by omega) (by omega), w64 (by omega) (by omega)]
  · rw [if_neg (nf (show ¬ (WheelOk s room rate ∧ 0 ≤ t ∧ t ≤ 10000) from h)), if_neg h]
theorem SpiltS (k : Nat) (s room rate t : Int) : spec_SpiltByWheel.f (k + 1) s room rate t = some (aSpilt s room rate t) := by
  unfold spec_SpiltByWheel.f aSpilt spec_ckTime.f
  rw [wheel_spec, in_spec]; simp only [Option.bind_some]
  by_cases hw : WheelOk s room rate
  · rw [if_pos (decide_eq_true hw)]
    simp only [spec_SpiltByWheel.j0]
    by_cases ht : TOk t
    · obtain ⟨fb, db, mb, pb, eb, qb⟩ := wheel_bd hw ht
      have hr := hw.2.1
      rw [if_neg (nd' (show 0 ≤ t ∧ t ≤ 10000 from ht)), if_pos ⟨hw, ht⟩, fill_spec s room rate hw.2.1.1 hw.2.1.2 hw.2.2.1 hw.2.2.2]
      simp only [Option.bind_some]
      rw [if_neg (by omega), Int.tdiv_eq_ediv_of_nonneg ht.1, w64 (x := t / fill room rate) (by omega) (by have := ht.2; omega), w64 (x := fill room rate * rate) (by omega) (by omega), w64 (x := fill room rate * rate - room) (by omega) (by omega), w64 (by omega) (by omega)]
    · rw [if_pos (nd (show ¬ (0 ≤ t ∧ t ≤ 10000) from ht)), if_neg (fun q => ht q.2)]
  · rw [if_neg (nf hw), if_neg (fun q => hw q.1)]
    simp only [spec_SpiltByWheel.j0, if_true]
theorem turn_bd {s room rate : Int} (h : WheelOk s room rate) : 2 ≤ s * fill room rate ∧ s * fill room rate ≤ 3600 := by
  obtain ⟨hs, hr, hq⟩ := h
  have fb := fill_bd room rate hr.1 hr.2 hq.1 hq.2
  have p1 := Int.mul_le_mul hs.1 fb.1 (by omega) (by omega)
  have p2 := Int.mul_le_mul hs.2 fb.2 (by omega) (by omega)
  omega
theorem TurnI (s room rate : Int) : impl_TurnTime.f s room rate = some (aTurn s room rate) := by
  unfold impl_TurnTime.f aTurn
  rw [wheel_impl]; simp only [Option.bind_some]
  by_cases h : WheelOk s room rate
  · have tb := turn_bd h
    rw [if_pos (decide_eq_true h), if_pos h, fill_impl s room rate h.2.1.1 h.2.1.2 h.2.2.1 h.2.2.2]
    simp only [Option.bind_some]
    rw [Int.mul_comm, w64 (by omega) (by omega)]
  · rw [if_neg (nf h), if_neg h]
theorem TurnS (s room rate : Int) : spec_TurnTime.f s room rate = some (aTurn s room rate) := by
  unfold spec_TurnTime.f aTurn
  rw [wheel_spec]; simp only [Option.bind_some]
  by_cases h : WheelOk s room rate
  · have tb := turn_bd h
    rw [if_pos (decide_eq_true h), if_pos h, fill_spec s room rate h.2.1.1 h.2.1.2 h.2.2.1 h.2.2.2]
    simp only [Option.bind_some]
    rw [w64 (by omega) (by omega)]
  · rw [if_neg (nf h), if_neg h]
/-- The times from x on, p apart, up to t. -/
def tl (t p : Int) : Nat → Int → List Int
  | 0, _ => []
  | n + 1, x => if x ≤ t then x :: tl t p n (x + p) else []
theorem tl_len (t p : Int) : ∀ (n : Nat) (x : Int), (tl t p n x).length ≤ n
  | 0, _ => Nat.le_refl _
  | n + 1, x => by
    simp only [tl]
    split
    · have := tl_len t p n (x + p); simp; omega
    · simp
def lim500 (l : List Int) : List Int × Bool := if l.length > 500 then ([], false) else (l, true)
theorem times_ev {s room rate t : Int} (hw : WheelOk s room rate) (ht : TOk t) : ∀ (n : Nat) (acc : List Int) (x : Int), 0 ≤ x → t < x + n → x ≤ 20000 → acc.length + n ≤ 60000 →
    Ev (fun k => impl_TimesOfScoop.l0 k t acc x s room rate) (lim500 (acc ++ tl t (s * fill room rate) n x)) ∧ (acc.length ≤ 500 → Ev (fun k => spec_TimesOfScoop.l0 k t acc x s room rate) (lim500 (acc ++ tl t (s * fill room rate) n x))) := by
  have tb := turn_bd hw
  obtain ⟨hs, hr, hq⟩ := id hw
  intro n
  induction n with
  | zero =>
    intro acc x h0 h1 h2 ha
    simp only [tl, List.append_nil]
    refine ⟨Ev.succ ?_, fun hl => Ev.succ ?_⟩
    · simp only [impl_TimesOfScoop.l0]
      refine Ev.neg (by omega) ?_
      unfold lim500
      by_cases c : acc.length > 500
      · rw [if_pos c]; exact Ev.pos (by omega) (Ev.const rfl)
      · rw [if_neg c]; exact Ev.neg (by omega) (Ev.const rfl)
    · simp only [spec_TimesOfScoop.l0]
      refine Ev.neg (by omega) (Ev.const ?_)
      unfold lim500; rw [if_neg (by omega)]
  | succ n ih =>
    intro acc x h0 h1 h2 ha
    simp only [tl]
    by_cases c : x ≤ t
    · have ht1 := ht.2
      obtain ⟨i1, i2⟩ := ih (acc ++ [x]) (x + s * fill room rate) (by omega) (by omega) (by omega) (by simp; omega)
      rw [if_pos c]
      rw [List.append_assoc, List.singleton_append] at i1 i2
      refine ⟨Ev.succ ?_, fun hl => Ev.succ ?_⟩
      · simp only [impl_TimesOfScoop.l0]
        rw [fill_impl s room rate hr.1 hr.2 hq.1 hq.2]; simp only [Option.bind_some]
        rw [Int.mul_comm (fill room rate) s, w64 (x := s * fill room rate) (by omega) (by omega), w64 (by omega) (by omega)]
        exact Ev.pos c (Ev.pos (by omega) i1)
      · simp only [spec_TimesOfScoop.l0]
        rw [fill_spec s room rate hr.1 hr.2 hq.1 hq.2]; simp only [Option.bind_some]
        rw [w64 (x := s * fill room rate) (by omega) (by omega), w64 (x := x + s * fill room rate) (by omega) (by omega)]
        refine Ev.pos c (Ev.pos (by omega) ?_)
        by_cases l : acc.length = 500
        · refine Ev.pos (by simp; omega) (Ev.const ?_)
          unfold lim500; rw [if_pos (by simp; omega)]
        · exact Ev.neg (by simp; omega) (i2 (by simp; omega))
    · rw [if_neg c, List.append_nil]
      refine ⟨Ev.succ ?_, fun hl => Ev.succ ?_⟩
      · simp only [impl_TimesOfScoop.l0]
        refine Ev.neg c ?_
        unfold lim500
        by_cases c : acc.length > 500
        · rw [if_pos c]; exact Ev.pos (by omega) (Ev.const rfl)
        · rw [if_neg c]; exact Ev.neg (by omega) (Ev.const rfl)
      · simp only [spec_TimesOfScoop.l0]
        refine Ev.neg c (Ev.const ?_)
        unfold lim500; rw [if_neg (by omega)]
def aTimes (s room rate q t : Int) : List Int × Bool := if WheelOk s room rate ∧ (0 ≤ q ∧ q ≤ s - 1) ∧ TOk t then lim500 (tl t (s * fill room rate) 10001 ((q + 1) * fill room rate)) else ([], false)
theorem TimesI (s room rate q t : Int) : Ev (fun k => impl_TimesOfScoop.f k s room rate q t) (aTimes s room rate q t) := by
  unfold impl_TimesOfScoop.f aTimes
  rw [turned_impl]; simp only [Option.bind_some]
  by_cases h : WheelOk s room rate ∧ TOk t
  · have hs := h.1.1
    rw [w64 (x := s - 1) (by omega) (by omega), in_impl]; simp only [Option.bind_some]
    refine Ev.pos (decide_eq_true (show WheelOk s room rate ∧ 0 ≤ t ∧ t ≤ 10000 from h)) (Ev.succ ?_)
    simp only [impl_TimesOfScoop.j0]
    by_cases hq : 0 ≤ q ∧ q ≤ s - 1
    · rw [if_pos ⟨h.1, hq, h.2⟩, fill_impl s room rate h.1.2.1.1 h.1.2.1.2 h.1.2.2.1 h.1.2.2.2]
      simp only [Option.bind_some]
      have fb := fill_bd room rate h.1.2.1.1 h.1.2.1.2 h.1.2.2.1 h.1.2.2.2
      have b1 := Int.mul_le_mul (show 1 ≤ q + 1 by omega) fb.1 (by omega) (by omega)
      have b2 := Int.mul_le_mul (show q + 1 ≤ 60 by omega) fb.2 (by omega) (by omega)
      rw [w64 (x := q + 1) (by omega) (by omega), w64 (by omega) (by omega)]
      have ht1 := h.2.2
      exact Ev.neg (nd' hq) (times_ev h.1 h.2 10001 [] _ (by omega) (by omega) (by omega) (by simp)).1
    · rw [if_neg (fun z => hq z.2.1)]
      exact Ev.pos (nd hq) (Ev.const rfl)
  · rw [if_neg (fun z => h ⟨z.1, z.2.2⟩)]
    refine Ev.neg (nf (show ¬ (WheelOk s room rate ∧ 0 ≤ t ∧ t ≤ 10000) from h)) (Ev.succ ?_)
    simp only [impl_TimesOfScoop.j0]
    exact Ev.pos (by first | rfl | trivial) (Ev.const rfl)
theorem TimesS (s room rate q t : Int) : Ev (fun k => spec_TimesOfScoop.f k s room rate q t) (aTimes s room rate q t) := by
  unfold spec_TimesOfScoop.f aTimes spec_ckTime.f
  rw [wheel_spec]; simp only [Option.bind_some]
  have J : Ev (fun k => spec_TimesOfScoop.j0 k q t true s room rate) ([], false) := Ev.succ (by simp only [spec_TimesOfScoop.j0]; exact Ev.pos (by first | rfl | trivial) (Ev.const rfl))
  by_cases hw : WheelOk s room rate
  · have hs := hw.1
    rw [w64 (x := s - 1) (by omega) (by omega), in_spec]; simp only [Option.bind_some]
    refine Ev.pos (decide_eq_true hw) ?_
    by_cases hq : 0 ≤ q ∧ q ≤ s - 1
    · rw [in_spec]; simp only [Option.bind_some]
      refine Ev.pos (decide_eq_true hq) ?_
      by_cases ht : TOk t
      · rw [if_pos ⟨hw, hq, ht⟩, decide_eq_true (show 0 ≤ t ∧ t ≤ 10000 from ht)]
        refine Ev.succ ?_
        simp only [spec_TimesOfScoop.j0]
        rw [fill_spec s room rate hw.2.1.1 hw.2.1.2 hw.2.2.1 hw.2.2.2]
        simp only [Option.bind_some]
        have fb := fill_bd room rate hw.2.1.1 hw.2.1.2 hw.2.2.1 hw.2.2.2
        have b1 := Int.mul_le_mul (show 1 ≤ q + 1 by omega) fb.1 (by omega) (by omega)
        have b2 := Int.mul_le_mul (show q + 1 ≤ 60 by omega) fb.2 (by omega) (by omega)
        rw [w64 (x := q + 1) (by omega) (by omega), w64 (x := (q + 1) * fill room rate) (by omega) (by omega)]
        have ht1 := ht.2
        exact Ev.neg (by simp) ((times_ev hw ht 10001 [] _ (by omega) (by omega) (by omega) (by simp)).2 (by simp))
      · rw [if_neg (fun z => ht z.2.2), decide_eq_false (show ¬ (0 ≤ t ∧ t ≤ 10000) from fun z => ht z)]
        exact J
    · rw [if_neg (fun z => hq z.2.1)]
      exact Ev.neg (nf hq) J
  · rw [if_neg (fun z => hw z.1)]
    exact Ev.neg (nf hw) J
theorem rd_nat (l : List Int) (i : Nat) : rd l (i : Int) = l.getD i 0 := rfl
theorem tl_get (t p : Int) : ∀ (n : Nat) (x : Int) (i : Nat), i < (tl t p n x).length → rd (tl t p n x) (i : Int) = x + i * p ∧ x + i * p ≤ t
  | 0, x, i, h => by simp [tl] at h
  | n + 1, x, i, h => by
    simp only [tl] at h ⊢
    by_cases c : x ≤ t
    · rw [if_pos c] at h ⊢
      cases i with
      | zero => simp [rd, c]
      | succ i =>
        have ih := tl_get t p n (x + p) i (by simpa using h)
        rw [rd_nat] at ih ⊢
        simp only [List.getD_cons_succ]
        rw [ih.1]
        have e : x + p + (i : Int) * p = x + ((i + 1 : Nat) : Int) * p := by rw [show ((i + 1 : Nat) : Int) = (i : Int) + 1 by omega, Int.add_mul, Int.one_mul]; omega
        rw [← e]; exact ⟨rfl, ih.2⟩
    · rw [if_neg c] at h; simp at h
end Go.Proofs.Ytmlkdkeocbhajaa.PuB
