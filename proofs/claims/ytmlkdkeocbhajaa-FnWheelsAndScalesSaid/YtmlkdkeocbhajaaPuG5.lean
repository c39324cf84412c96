/- Plain functions and what they come to. -/
import Derived.Test.YtmlkdkeocbhajaaPuG4
import Derived.Test.YtmlkdkeocbhajaaGy4
namespace Go.Proofs.Ytmlkdkeocbhajaa.PuB
open Go.RowKit Go.Proofs.Ytmlkdkeocbhajaa.G Go.Proofs.YtmlkdkeocbhajaaW.PrintLast Go.Proofs.YtmlkdkeocbhajaaW.PrintMore
open Go.Proofs.YtmlkdkeocbhajaaW.PrintWords hiding Ev
set_option linter.unusedVariables false
set_option linter.unusedSimpArgs false
theorem law_id (f d e room rate : Int) : (e + f * d) * rate = d * room + d * (f * rate - room) + e * rate := by
  rw [Int.add_mul, Int.mul_sub, Int.mul_comm f d, Int.mul_assoc]; omega
theorem bt_evl (l r m : Int) (n i : Nat) (h : i < n) : bt (strOfNums (evl l r m n)) (i : Int) = ((UInt8.ofNat (evn l r m i).toNat).toNat : Int) := by
  rw [← rd_bytesOf]
  unfold bytesOf
  rw [strOfNums_data, rd_nat, List.getD_eq_getElem?_getD]
  simp [evl, h]
theorem ex_evl (l r m : Int) (n i : Nat) (h : i < n) : ((strOfNums (evl l r m n)).extract (i : Int).toNat ((i : Int) + 1).toNat).toList = [UInt8.ofNat (evn l r m i).toNat] := by
  rw [Go.Lib.extract_toList, strOfNums_data]
  rw [show ((i : Int) + 1).toNat = i + 1 by omega, show (i : Int).toNat = i by omega, show i + 1 - i = 1 by omega]
  rw [List.drop_eq_getElem_cons (by simp [evl]; omega)]
  simp [evl]
theorem size_evl (l r m : Int) (n : Nat) : ((strOfNums (evl l r m n)).size : Int) = n := by rw [strOfNums_size, evl_len]
/-- Behind the period every tick says what the tick a period before it said. -/
theorem law_l2 {l r m : Int} {p v N : Nat} (hv : v < p) (hp : st l r m p = st l r m v) (hN : N ≤ 200) : ∀ (n i : Nat), i + n = N → p ≤ i → Ev (fun k => laws_FnWheelsAndScales.l2 k p v (strOfNums (evl l r m N)) i) true := by
  intro n
  induction n with
  | zero =>
    intro i hi hq
    refine Ev.succ ?_
    simp only [laws_FnWheelsAndScales.l2]
    exact Ev.neg (by rw [size_evl]; omega) (Ev.const rfl)
  | succ n ih =>
    intro i hi hq
    refine Ev.succ ?_
    simp only [laws_FnWheelsAndScales.l2]
    have E := ih (i + 1) (by omega) (by omega)
    rw [w64 (x := (p : Int) - v) (by omega) (by omega), w64 (x := (i : Int) - ((p : Int) - v)) (by omega) (by omega), w64 (x := (i : Int) + 1) (by omega) (by omega)]
    rw [show (i : Int) - ((p : Int) - v) = ((i - (p - v) : Nat) : Int) by omega]
    have hs : st l r m i = st l r m (i - (p - v)) := by
      have := st_per hp (i - p)
      rw [show p + (i - p) = i by omega, show v + (i - p) = i - (p - v) by omega] at this
      exact this
    have he : evn l r m i = evn l r m (i - (p - v)) := by unfold evn; rw [hs]
    refine Ev.pos (by rw [size_evl]; omega) (Ev.pos (by omega) (Ev.pos (by omega) (Ev.pos (by rw [size_evl]; omega) (Ev.pos ?_ E))))
    rw [bt_evl _ _ _ _ _ (by omega), bt_evl _ _ _ _ _ (by omega), he]
theorem law_j8 {l r m : Int} {q : Int × Int × Bool} (hs : q.2.2 = true → ScaleOk l r m) (hq : PerAns l r m q) : Ev (fun k => laws_FnWheelsAndScales.j8 k q.1 q.2.1 q.2.2 l r m) true := by
  refine Ev.succ ?_
  simp only [laws_FnWheelsAndScales.j8]
  by_cases c : q.2.2 = true
  · obtain ⟨p, v, e, hv, hp, hst⟩ := hq c
    have h := hs c
    subst e
    refine Ev.pos rfl (Ev.succ ?_)
    simp only [laws_FnWheelsAndScales.j9]
    rw [w64 (x := (p : Int) - v) (by omega) (by omega), w64 (x := 2 * ((p : Int) - v)) (by omega) (by omega), w64 (x := (p : Int) + 2 * ((p : Int) - v)) (by omega) (by omega)]
    by_cases d : (p : Int) + 2 * ((p : Int) - v) ≤ 200
    · refine Ev.pos (decide_eq_true d) (Ev.bind (EventsI l r m _) ?_)
      have ea : aEvents l r m ((p : Int) + 2 * ((p : Int) - v)) = (strOfNums (evl l r m (p + 2 * (p - v))), true) := by
        unfold aEvents; rw [if_pos ⟨h, by omega, d⟩, show ((p : Int) + 2 * ((p : Int) - v)).toNat = p + 2 * (p - v) by omega]
      rw [ea]
      exact Ev.pos rfl (law_l2 hv hst (by omega) (2 * (p - v)) p (by omega) (by omega))
    · exact Ev.neg (nf d) (Ev.const rfl)
  · refine Ev.neg c (Ev.succ ?_)
    simp only [laws_FnWheelsAndScales.j9]
    exact Ev.neg (by simp) (Ev.const rfl)
theorem law_l1 {l r m : Int} (h : ScaleOk l r m) (T : Nat) (hT : T ≤ 200) {p v : Int} {ok : Bool} {l' r' m' : Int} (J : Ev (fun k => laws_FnWheelsAndScales.j8 k p v ok l' r' m') true) : ∀ (n i : Nat), i + n = T → Ev (fun k => laws_FnWheelsAndScales.l1 k (strOfNums (evl l r m T)) p v ok (st l r m i).1 (st l r m i).2 i l r m l' r' m') true := by
  intro n
  induction n with
  | zero =>
    intro i hi
    refine Ev.succ ?_
    simp only [laws_FnWheelsAndScales.l1]
    exact Ev.neg (by rw [size_evl]; omega) J
  | succ n ih =>
    intro i hi
    refine Ev.succ ?_
    have E := ih (i + 1) (by omega)
    have sb := st_bd h i
    have X := ex_evl l r m T i (by omega)
    have Z := size_evl l r m T
    obtain ⟨⟨h1, h2⟩, ⟨h3, h4⟩, h5, h6⟩ := h
    simp only [laws_FnWheelsAndScales.l1]
    rw [w64 (x := (st l r m i).1 + l) (by omega) (by omega), w64 (x := (st l r m i).2 + r) (by omega) (by omega), w64 (x := (st l r m i).2 + r + m) (by omega) (by omega), w64 (x := (st l r m i).1 + l + m) (by omega) (by omega), w64 (x := (i : Int) + 1) (by omega) (by omega)]
    simp only [st, tk] at E
    unfold evn tk at X
    refine Ev.pos (by omega) ?_
    by_cases c : (st l r m i).1 + l ≥ (st l r m i).2 + r + m
    · rw [if_pos c] at E X
      exact Ev.pos c (Ev.pos (by omega) (Ev.pos (by omega) (Ev.pos (by omega) (Ev.pos (by rw [X]; rfl) E))))
    · refine Ev.neg c ?_
      rw [if_neg c] at E X
      by_cases d : (st l r m i).2 + r ≥ (st l r m i).1 + l + m
      · rw [if_pos d] at E X
        exact Ev.pos d (Ev.pos (by omega) (Ev.pos (by omega) (Ev.pos (by omega) (Ev.pos (by rw [X]; rfl) E))))
      · rw [if_neg d] at E X
        exact Ev.neg d (Ev.pos (by omega) (Ev.pos (by omega) (Ev.pos (by omega) (Ev.pos (by rw [X]; rfl) E))))
theorem law_j6 (l r m t : Int) {p v : Int} {ok : Bool} {l' r' m' : Int} (J : Ev (fun k => laws_FnWheelsAndScales.j8 k p v ok l' r' m') true) : Ev (fun k => laws_FnWheelsAndScales.j6 k t (aEvents l r m t).1 (aEvents l r m t).2 p v ok false l r m l' r' m') true := by
  refine Ev.succ ?_
  simp only [laws_FnWheelsAndScales.j6]
  refine Ev.neg (by simp) ?_
  unfold aEvents
  by_cases c : ScaleOk l r m ∧ 0 ≤ t ∧ t ≤ 200
  · rw [if_pos c]
    refine Ev.pos rfl (Ev.pos (by show ((strOfNums (evl l r m t.toNat)).size : Int) = t; rw [size_evl]; omega) ?_)
    exact law_l1 c.1 t.toNat (by omega) J t.toNat 0 (by omega)
  · rw [if_neg c]
    exact Ev.neg (by simp) J
theorem aTimes_len (s room rate q t : Int) : (aTimes s room rate q t).1.length ≤ 1000000 := by
  unfold aTimes lim500
  split
  · split <;> simp; omega
  · simp
theorem law_j5 {l : List Int} (b : Bytes l) : Ev (fun k => laws_FnWheelsAndScales.j5 k l) true := by
  refine Ev.succ ?_
  simp only [laws_FnWheelsAndScales.j5]
  obtain ⟨s, r, q, c, t, e1⟩ := DrawTimesOfScoop_ok b
  obtain ⟨l1, r1, m1, t1, e2⟩ := DrawScaleEvents_ok b
  obtain ⟨l2, r2, m2, e3⟩ := DrawPeriodOfScale_ok b
  obtain ⟨Q, ⟨hs, hq⟩, P1, P2⟩ := Periods l2 r2 m2
  rw [e1, e2, e3]; simp only [Option.bind_some]
  refine Ev.bind (TimesI s r q c t) (Ev.bind (TimesS s r q c t) (Ev.bind (EventsI l1 r1 m1 t1) (Ev.bind (EventsS l1 r1 m1 t1) (Ev.bind P2 (Ev.bind P1 ?_)))))
  refine Ev.neg (by simp) (Ev.bind (eSame_ev _ (aTimes_len s r q c t)) (Ev.pos rfl (Ev.neg (by simp) (Ev.pos rfl (Ev.neg (by simp) (Ev.pos rfl (Ev.pos rfl ?_)))))))
  have J := law_j8 hs hq
  by_cases c : Q.2.2 = true
  · obtain ⟨p, v, e, hv, hp, hst⟩ := hq c
    have d : decide (Q.2.1 ≥ Q.1) = false := by rw [e]; simp; omega
    rw [d]
    exact Ev.pos c (Ev.neg (by rw [e]; simp) (law_j6 l1 r1 m1 t1 J))
  · exact Ev.neg c (law_j6 l1 r1 m1 t1 J)
end Go.Proofs.Ytmlkdkeocbhajaa.PuB
