/- Plain functions and what they come to. -/
import Derived.Test.YtmlkdkeocbhajaaPuR1
namespace Go.Proofs.Ytmlkdkeocbhajaa.PuB
open Go.RowKit Go.Proofs.Ytmlkdkeocbhajaa.R Go.Proofs.YtmlkdkeocbhajaaW.PrintLast Go.Proofs.YtmlkdkeocbhajaaW.PrintMore
open Go.Proofs.YtmlkdkeocbhajaaW.PrintWords hiding Ev
set_option linter.unusedVariables false
set_option linter.unusedSimpArgs false
theorem eSame_l0 (a : List Int) (hb : a.length ≤ 1000000) : ∀ (d k i : Nat), i + d = a.length → d < k → laws_eSame.l0 k a a (a.length : Int) (i : Int) = some true
  | 0, 0, i, _, h => by omega
  | 0, k + 1, i, hi, _ => by simp only [laws_eSame.l0]; rw [if_neg (by omega)]
  | d + 1, 0, i, _, h => by omega
  | d + 1, k + 1, i, hi, hk => by
    simp only [laws_eSame.l0]
    rw [if_pos (by omega), if_pos (by omega), if_pos (by omega), if_pos (by omega), if_pos trivial, w64 (by omega) (by omega), show ((i : Int) + 1) = ((i + 1 : Nat) : Int) by omega]
    exact eSame_l0 a hb d k (i + 1) (by omega) (by omega)
theorem eSame_ev (a : List Int) (hb : a.length ≤ 1000000) : Ev (fun k => laws_eSame.f k a a) true := Ev.of 2000000 fun k hk => by
  unfold laws_eSame.f
  rw [if_pos rfl]
  exact eSame_l0 a hb a.length k 0 (by omega) (by omega)
theorem E500 {β : Type} {f : Nat → Option β} {r : β} (h : ∀ k, 500 < k → f k = some r) : Ev f r := Ev.of 500 h
theorem rain_l0 {l : List Int} (h : Bytes l) (x4 : Int) : ∀ (m : Nat) (acc : List Int) (p s : Int), acc.length + m ≤ 20 → 0 ≤ p → p + 2 * m ≤ 10000000000000000 → ∃ q C p' s', (∀ k, m < k → spec_l1Cur_rain.l0 k x4 acc (m : Int) l p s = some (q, C, p', s')) ∧ p ≤ p' ∧ p' ≤ p + 2 * m + 4
  | 0, acc, p, s, ha, h0, h1 => by
    obtain ⟨r, p1, s1, e, a, b, r0, r1⟩ := pick_ok h p s 16 h0 (by omega) (by omega)
    by_cases c0 : r = 0
    · obtain ⟨x, p2, s2, e2, a2, b2, _⟩ := among_ok h p1 s1 [0, 60, 61, (-1)] (by omega) (by omega) (by simp) (by simp)
      refine ⟨x, acc, p2, s2, fun k hk => ?_, by omega, by omega⟩
      obtain ⟨k, rfl⟩ : ∃ m, k = m + 1 := ⟨k - 1, by omega⟩
      simp only [spec_l1Cur_rain.l0]
      rw [if_neg (by omega), e]; simp only [Option.bind_some]
      rw [if_pos c0, e2]; rfl
    · by_cases c1 : r = 1
      · obtain ⟨x, p2, s2, e2, a2, b2, _⟩ := among_ok h p1 s1 [(-1), 10000, 10001] (by omega) (by omega) (by simp) (by simp)
        refine ⟨x4, acc ++ [x], p2, s2, fun k hk => ?_, by omega, by omega⟩
        obtain ⟨k, rfl⟩ : ∃ m, k = m + 1 := ⟨k - 1, by omega⟩
        simp only [spec_l1Cur_rain.l0]
        rw [if_neg (by omega), e]; simp only [Option.bind_some]
        rw [if_neg c0, if_pos c1, e2]; simp only [Option.bind_some]
        rw [if_pos (by omega)]
      · by_cases c2 : r = 2
        · obtain ⟨x, p2, s2, e2, a2, b2, x0, x1⟩ := pick_ok h p1 s1 2 (by omega) (by omega) (by omega)
          have x1 := x1 (by omega)
          refine ⟨x4, List.replicate (100 + x).toNat 0, p2, s2, fun k hk => ?_, by omega, by omega⟩
          obtain ⟨k, rfl⟩ : ∃ m, k = m + 1 := ⟨k - 1, by omega⟩
          simp only [spec_l1Cur_rain.l0]
          rw [if_neg (by omega), e]; simp only [Option.bind_some]
          rw [if_neg c0, if_neg c1, if_pos c2, e2]; simp only [Option.bind_some]
          rw [w64 (x := 100 + x) (by omega) (by omega), if_pos (by omega), if_pos (by omega)]
        · refine ⟨x4, acc, p1, s1, fun k hk => ?_, by omega, by omega⟩
          obtain ⟨k, rfl⟩ : ∃ m, k = m + 1 := ⟨k - 1, by omega⟩
          simp only [spec_l1Cur_rain.l0]
          rw [if_neg (by omega), e]; simp only [Option.bind_some]
          rw [if_neg c0, if_neg c1, if_neg c2]
  | m + 1, acc, p, s, ha, h0, h1 => by
    obtain ⟨r, p1, s1, e, a, b, r0, r1⟩ := pick_ok h p s 20 h0 (by omega) (by omega)
    obtain ⟨q, C, p', s', E, q1, q2⟩ := rain_l0 h x4 m (acc ++ [r]) p1 s1 (by simp; omega) (by omega) (by omega)
    refine ⟨q, C, p', s', fun k hk => ?_, by omega, by omega⟩
    obtain ⟨k, rfl⟩ : ∃ m, k = m + 1 := ⟨k - 1, by omega⟩
    simp only [spec_l1Cur_rain.l0]
    rw [if_pos (by omega), e]; simp only [Option.bind_some]
    rw [if_pos (by omega), w64 (by omega) (by omega), show (((m + 1 : Nat) : Int) - 1) = (m : Int) by omega]
    exact E k (by omega)
theorem rain_ok {l : List Int} (h : Bytes l) (p s : Int) (h0 : 0 ≤ p) (h1 : p ≤ 1000000000) : ∃ q C p' s', (∀ k, 500 < k → spec_l1Cur_rain.f k l p s = some (q, C, p', s')) ∧ p ≤ p' ∧ p' ≤ p + 100 := by
  obtain ⟨r, p1, s1, e, a, b, r0, r1⟩ := pick_ok h p s 12 h0 (by omega) (by omega)
  obtain ⟨u, p2, s2, e2, a2, b2, u0, u1⟩ := pick_ok h p1 s1 10 (by omega) (by omega) (by omega)
  have u1 := u1 (by omega)
  obtain ⟨q, C, p', s', E, q1, q2⟩ := rain_l0 h (wrap64 (1 + r)) u.toNat [] p2 s2 (by simp; omega) (by omega) (by omega)
  refine ⟨q, C, p', s', fun k hk => ?_, by omega, by omega⟩
  unfold spec_l1Cur_rain.f
  rw [e]; simp only [Option.bind_some]
  rw [e2]; simp only [Option.bind_some]
  have := E k (by omega)
  rw [show ((u.toNat : Nat) : Int) = u by omega] at this
  exact this
theorem DrawTips_ok {l : List Int} (h : Bytes l) : ∃ q C, ∀ k, 500 < k → spec_DrawTipsOfRain.f k l = some (q, C) := by
  obtain ⟨q, C, p', s', E, _⟩ := rain_ok h 0 0 (by omega) (by omega)
  exact ⟨q, C, fun k hk => by unfold spec_DrawTipsOfRain.f; rw [E k hk]; rfl⟩
theorem DrawRange_ok {l : List Int} (h : Bytes l) : ∃ q C, ∀ k, 500 < k → spec_DrawRangeOfTips.f k l = some (q, C) := by
  obtain ⟨q, C, p', s', E, a, b⟩ := rain_ok h 0 0 (by omega) (by omega)
  obtain ⟨o, p2, s2, e2, _⟩ := one_ok h p' s' 4 (by omega) (by omega) (by omega)
  by_cases c : (aTips q C).2 = true
  · cases o with
    | true => exact ⟨q, C, fun k hk => by unfold spec_DrawRangeOfTips.f; rw [E k hk]; simp only [Option.bind_some]; rw [TipsS k q C (by omega)]; simp only [Option.bind_some]; rw [if_pos c, e2]; rfl⟩
    | false => exact ⟨q, (aTips q C).1, fun k hk => by unfold spec_DrawRangeOfTips.f; rw [E k hk]; simp only [Option.bind_some]; rw [TipsS k q C (by omega)]; simp only [Option.bind_some]; rw [if_pos c, e2]; rfl⟩
  · exact ⟨q, C, fun k hk => by unfold spec_DrawRangeOfTips.f; rw [E k hk]; simp only [Option.bind_some]; rw [TipsS k q C (by omega)]; simp only [Option.bind_some]; rw [if_neg c]⟩
theorem DrawMade_ok {l : List Int} (h : Bytes l) : ∃ q C, ∀ k, 500 < k → spec_DrawRainOfTips.f k l = some (q, C) := by
  obtain ⟨q, C, E⟩ := DrawRange_ok h
  exact ⟨q, C, fun k hk => by unfold spec_DrawRainOfTips.f; rw [E k hk]; rfl⟩
theorem DrawTwo_ok {l : List Int} (h : Bytes l) : ∃ q u C D, ∀ k, 500 < k → spec_DrawRangeOfTwo.f k l = some (q, u, C, D) := by
  obtain ⟨q, C, p1, s1, E, a, b⟩ := rain_ok h 0 0 (by omega) (by omega)
  obtain ⟨u, p2, s2, e2, a2, b2, _⟩ := among_ok h p1 s1 [1, 3, 5, 7, 12, 60, 61, 0] (by omega) (by omega) (by simp) (by simp)
  obtain ⟨o, p3, s3, e3, a3, b3⟩ := one_ok h p2 s2 5 (by omega) (by omega) (by omega)
  obtain ⟨q4, C4, p4, s4, E4, _⟩ := rain_ok h p3 s3 (by omega) (by omega)
  obtain ⟨q5, C5, p5, s5, E5, _⟩ := rain_ok h p2 s2 (by omega) (by omega)
  have st : ∀ k, 500 < k → spec_DrawRangeOfTwo.f k l = (if (aTips q C).2 = true then (if (aTips u C).2 = true then (if o = true then some (q, u, C, C4) else some (q, u, (aTips q C).1, (aTips u C).1)) else some (q, u, C, C5)) else some (q, u, C, C5)) := fun k hk => by
    unfold spec_DrawRangeOfTwo.f
    rw [E k hk]; simp only [Option.bind_some]
    rw [e2]; simp only [Option.bind_some]
    rw [TipsS k q C (by omega)]; simp only [Option.bind_some]
    rw [TipsS k u C (by omega)]; simp only [Option.bind_some]
    rw [e3]; simp only [Option.bind_some]
    rw [E4 k hk, E5 k hk]; simp only [Option.bind_some]
  by_cases c1 : (aTips q C).2 = true
  · by_cases c2 : (aTips u C).2 = true
    · cases o with
      | true => exact ⟨_, _, _, _, fun k hk => by rw [st k hk, if_pos c1, if_pos c2, if_pos rfl]⟩
      | false => exact ⟨_, _, _, _, fun k hk => by rw [st k hk, if_pos c1, if_pos c2, if_neg (by simp)]⟩
    · exact ⟨_, _, _, _, fun k hk => by rw [st k hk, if_pos c1, if_neg c2]⟩
  · exact ⟨_, _, _, _, fun k hk => by rw [st k hk, if_neg c1]⟩
theorem made_sum (r : Int) : ∀ l : List Int, sm (l.map (· * r)) = sm l * r
  | [] => by simp [sm]
  | x :: l => by
    show x * r + sm (l.map (· * r)) = (x + sm l) * r
    rw [made_sum r l, Int.add_mul]
theorem made_tips (r : Int) (hr : 1 ≤ r) : ∀ l : List Int, tps r 0 (l.map (· * r)) = l
  | [] => rfl
  | x :: l => by
    show (0 + x * r) / r :: tps r ((0 + x * r) % r) (l.map (· * r)) = x :: l
    rw [Int.zero_add, Int.mul_ediv_cancel _ (by omega), Int.mul_emod_left, made_tips r hr l]
theorem aTips_len (r : Int) (l : List Int) : (aTips r l).1.length ≤ 100 := by
  unfold aTips; split
  · rename_i c; rw [tps_len]; exact c.2.1
  · simp
theorem aMade_len (r : Int) (l : List Int) : (aMade r l).1.length ≤ 100 := by
  unfold aMade; split
  · rename_i c; simpa using c.1.2.1
  · simp
theorem eS (a : List Int) (hb : a.length ≤ 100) (k : Nat) (hk : 500 < k) : laws_eSame.f k a a = some true := by
  unfold laws_eSame.f
  rw [if_pos rfl]
  exact eSame_l0 a (by omega) a.length k 0 (by omega) (by omega)
theorem law_j4 (k : Nat) (hk : 600 < k) (r : Int) (l : List Int) : laws_FnRainMeasured.j4 k r l (aMade r l).1 (aMade r l).2 (aRange r l).1 false = some true := by
  obtain ⟨k, rfl⟩ : ∃ m, k = m + 1 := ⟨k - 1, by omega⟩
  simp only [laws_FnRainMeasured.j4, Bool.false_eq_true, if_false]
  unfold aMade
  by_cases c : GG r l ∧ GG r (l.map (· * r))
  · rw [if_pos c]; simp only [if_true]
    rw [TipsI k r _ (by omega)]; simp only [Option.bind_some]
    unfold aTips aRange
    rw [if_pos c.2, if_pos c.1]; simp only [if_true]
    rw [made_tips r c.1.1.1, eS l c.1.2.1 k (by omega)]; simp only [Option.bind_some, if_true]
    rw [eSum_f k _ (by omega) c.2.so]; simp only [Option.bind_some]
    rw [made_sum]; simp
  · rw [if_neg c]; simp
theorem law_j3 (k : Nat) (hk : 700 < k) (l : List Int) (h : Bytes l) : laws_FnRainMeasured.j3 k l = some true := by
  obtain ⟨k, rfl⟩ : ∃ m, k = m + 1 := ⟨k - 1, by omega⟩
  obtain ⟨r, C, D1⟩ := DrawMade_ok h
  obtain ⟨q, u, A, B, D2⟩ := DrawTwo_ok h
  simp only [laws_FnRainMeasured.j3]
  rw [D1 k (by omega)]; simp only [Option.bind_some]
  rw [MadeI k r C (by omega), MadeS k r C (by omega), RangeI k r C (by omega), RangeS k r C (by omega), D2 k (by omega)]; simp only [Option.bind_some]
  rw [TwoI k q u A B (by omega), TwoS k q u A B (by omega), eS _ (aMade_len r C) k (by omega)]; simp only [Option.bind_some]
  simp only [bne_self_eq_false, Bool.false_eq_true, if_false, if_true]
  have j := law_j4 k (by omega) r C
  have m1 : (aMade r C).2 = true → (aRange r C).2.2 = true := by
    unfold aMade aRange; split
    · rename_i c; rw [if_pos c.1]; simp
    · simp
  have t1 : (aTwo q u A B).2.2 = true → ¬ (aTwo q u A B).1 > (aTwo q u A B).2.1 := by
    unfold aTwo; split
    · rename_i c; intro _; have := c.2.2; simp only [gt_iff_lt, Int.not_lt]; exact this
    · simp
  by_cases c1 : (aMade r C).2 = true
  · rw [if_pos c1, if_pos (m1 c1)]
    by_cases c2 : (aTwo q u A B).2.2 = true
    · rw [if_pos c2, decide_eq_false (t1 c2)]; exact j
    · rw [if_neg c2]; exact j
  · rw [if_neg c1]
    by_cases c2 : (aTwo q u A B).2.2 = true
    · rw [if_pos c2, decide_eq_false (t1 c2)]; exact j
    · rw [if_neg c2]; exact j
theorem law_j2 (k : Nat) (hk : 800 < k) (l : List Int) (h : Bytes l) (r : Int) (R : List Int) (c : GG r R) :
    laws_FnRainMeasured.j2 k l r R (tps r 0 R) (aRange r (tps r 0 R)).1 (aRange r (tps r 0 R)).2.1 (sm R) false = some true := by
  obtain ⟨k, rfl⟩ : ∃ m, k = m + 1 := ⟨k - 1, by omega⟩
  simp only [laws_FnRainMeasured.j2, Bool.false_eq_true, if_false]
  have c7 : GG 7 R := ⟨by omega, c.2⟩
  rw [TipsI k 7 R (by omega)]; simp only [Option.bind_some]
  have e7 : aTips 7 R = (tps 7 0 R, true) := by unfold aTips; rw [if_pos c7]
  rw [e7]; simp only []
  rw [TwoI k r 7 _ _ (by omega)]; simp only [Option.bind_some, if_true]
  obtain ⟨a1, a2, a3⟩ := c.eq
  obtain ⟨b1, b2, b3⟩ := c7.eq
  have eR : aRange r (tps r 0 R) = (sm (tps r 0 R) * r, sm (tps r 0 R) * r + r - 1, true) := by unfold aRange; rw [if_pos c.tipsG]
  have eT : ∃ x y, aTwo r 7 (tps r 0 R) (tps 7 0 R) = (x, y, true) ∧ sm (tps r 0 R) * r ≤ x ∧ x ≤ sm R ∧ sm R ≤ y ∧ y ≤ sm (tps r 0 R) * r + r - 1 := by
    unfold aTwo
    have g1 := c.tipsG
    have g2 := c7.tipsG
    generalize tps r 0 R = t1 at *
    generalize tps 7 0 R = t2 at *
    generalize sm t1 * r = X at *
    generalize sm t2 * 7 = Y at *
    have lo : X ≤ mx X Y ∧ mx X Y ≤ sm R := by unfold mx; split <;> omega
    have hi : mn (X + r - 1) (Y + 7 - 1) ≤ X + r - 1 ∧ sm R ≤ mn (X + r - 1) (Y + 7 - 1) := by unfold mn; split <;> omega
    rw [if_pos ⟨g1, g2, by omega⟩]
    exact ⟨_, _, rfl, lo.1, lo.2, hi.2, hi.1⟩
  obtain ⟨x, y, eT, x1, x2, x3, x4⟩ := eT
  rw [eT, eR]; simp only [if_true]
  rw [if_neg (by omega), if_neg (by omega), if_neg (by omega), if_neg (by omega)]
  exact law_j3 k (by omega) l h
theorem fstI_some {t : List Int} (T : SmO t) (h : (fstI t).2 = true) : ∃ j : Nat, (fstI t).1 = (j : Int) + 1 ∧ j < t.length ∧ 0 < rd t (j : Int) ∧ sm (t.take j) = 0 := by
  unfold fstI at h ⊢
  cases e : t.findIdx? (fun x => decide (0 < x)) with
  | none => rw [e] at h; simp at h
  | some j =>
    rw [List.findIdx?_eq_some_iff_getElem] at e
    obtain ⟨hj, hp, hb⟩ := e
    refine ⟨j, rfl, hj, by rw [rd_nat]; simpa [hj] using hp, ?_⟩
    have z : ∀ x ∈ t.take j, x = 0 := by
      intro x hx
      obtain ⟨i, hi, rfl⟩ := List.getElem_of_mem hx
      have hi' : i < j := by simp at hi; omega
      have a := hb i hi'
      have b := T.2 (t[i]'(by omega)) (List.getElem_mem _)
      simp only [List.getElem_take]
      simp at a
      omega
    generalize t.take j = m at z
    induction m with
    | nil => rfl
    | cons x m ih =>
      show x + sm m = 0
      rw [z x (List.mem_cons_self ..), ih (fun y hy => z y (List.mem_cons_of_mem _ hy))]; rfl
theorem sm_pos : ∀ {t : List Int}, (∀ x ∈ t, 0 ≤ x ∧ x ≤ 10000) → ((fstI t).2 = decide (sm t > 0))
  | [], _ => by simp [fstI, sm]
  | x :: t, h => by
    have h1 := h x (List.mem_cons_self ..)
    have h2 := sm_le t (fun y hy => h y (List.mem_cons_of_mem _ hy))
    have ih := sm_pos (t := t) (fun y hy => h y (List.mem_cons_of_mem _ hy))
    unfold fstI at ih ⊢
    rw [List.findIdx?_cons]
    have e : sm (x :: t) = x + sm t := rfl
    rw [e]
    by_cases c : 0 < x
    · simp only [decide_eq_true c, if_true]; symm; exact decide_eq_true (by omega)
    · have : x = 0 := by omega
      subst this
      rw [Int.zero_add, ← ih]
      simp only [show decide ((0 : Int) < 0) = false from rfl, Bool.false_eq_true, if_false]
      cases t.findIdx? (fun x => decide (0 < x)) <;> rfl
theorem law_j1 (k : Nat) (hk : 900 < k) (l : List Int) (h : Bytes l) (r : Int) (R : List Int) (c : GG r R) :
    laws_FnRainMeasured.j1 k l r R (tps r 0 R) (fstI (tps r 0 R)).1 (fstI (tps r 0 R)).2 (aRange r (tps r 0 R)).1 (aRange r (tps r 0 R)).2.1 (sm R) false = some true := by
  obtain ⟨k, rfl⟩ : ∃ m, k = m + 1 := ⟨k - 1, by omega⟩
  simp only [laws_FnRainMeasured.j1, Bool.false_eq_true, if_false]
  have j := law_j2 k (by omega) l h r R c
  have hl := c.tips.1
  by_cases d : (fstI (tps r 0 R)).2 = true
  · obtain ⟨n, e1, e2, e3, e4⟩ := fstI_some c.tips d
    rw [if_pos d, e1, show (n : Int) + 1 - 1 = (n : Int) by omega, w64 (x := (n : Int)) (by omega) (by omega), if_pos (by omega), if_pos (by omega), if_neg (by omega), if_pos (by omega)]
    rw [Int.toNat_natCast, eSum_f k _ (by omega) (c.tips.take n)]; simp only [Option.bind_some]
    rw [e4]; exact j
  · rw [if_neg d]; exact j
theorem law_j0 (k : Nat) (hk : 1000 < k) (l : List Int) (h : Bytes l) (r : Int) (R : List Int) :
    laws_FnRainMeasured.j0 k l r R (aTips r R).1 (aTips r R).2 (aRest r R).1 (aFirst r R).1 (aFirst r R).2 false = some true := by
  obtain ⟨k, rfl⟩ : ∃ m, k = m + 1 := ⟨k - 1, by omega⟩
  simp only [laws_FnRainMeasured.j0, Bool.false_eq_true, if_false]
  by_cases c : GG r R
  · have e1 : aTips r R = (tps r 0 R, true) := by unfold aTips; rw [if_pos c]
    have e2 : aRest r R = (rst r 0 R, true) := by unfold aRest; rw [if_pos c]
    have e3 : aFirst r R = fstI (tps r 0 R) := by unfold aFirst; rw [if_pos c]
    have e4 : aRange r (tps r 0 R) = (sm (tps r 0 R) * r, sm (tps r 0 R) * r + r - 1, true) := by unfold aRange; rw [if_pos c.tipsG]
    rw [e1, e2, e3]; simp only [if_true]
    rw [RangeI k r _ (by omega), eSum_f k R (by omega) c.so, eSum_f k (tps r 0 R) (by omega) c.tips]; simp only [Option.bind_some]
    have j := law_j1 k (by omega) l h r R c
    obtain ⟨a1, a2, a3⟩ := c.eq
    have b := mul_le c.tips.le.1 c.tips.le.2 c.1.1 c.1.2
    have hr := c.1
    rw [if_pos (by rw [tps_len])]
    rw [e4] at j ⊢
    simp only [if_true] at j ⊢
    generalize sm (tps r 0 R) * r = X at *
    rw [w64 (x := X) (by omega) (by omega), w64 (x := X + rst r 0 R) (by omega) (by omega), if_pos a1, if_neg (by omega), if_neg (by omega), if_neg (by omega), if_neg (by omega),
      show X + r - 1 - X = r - 1 by omega, bne_self_eq_false]
    exact j
  · have e1 : aTips r R = ([], false) := by unfold aTips; rw [if_neg c]
    rw [e1]; simp only [Bool.false_eq_true, if_false]
    exact law_j3 k (by omega) l h
theorem law_rain (l0 l1 : List Int) (b0 : Bytes l0) (b1 : Bytes l1) : ∃ k, laws_FnRainMeasured.f k l0 l1 = some true := by
  refine ⟨2000, ?_⟩
  unfold laws_FnRainMeasured.f
  have hbig : ∃ b, laws_big.f l0 l1 = some b := by unfold laws_big.f; split <;> exact ⟨_, rfl⟩
  obtain ⟨b, hbig⟩ := hbig
  rw [hbig]; simp only [Option.bind_some]
  cases b with
  | true => rfl
  | false =>
  rw [if_neg (by simp)]
  obtain ⟨r, R, D⟩ := DrawTips_ok b0
  rw [D 2000 (by omega)]; simp only [Option.bind_some]
  rw [TipsI 2000 r R (by omega), TipsS 2000 r R (by omega), RestI 2000 r R (by omega), RestS 2000 r R (by omega), FirstI 2000 r R (by omega), FirstS 2000 r R (by omega)]; simp only [Option.bind_some]
  rw [eS _ (aTips_len r R) 2000 (by omega)]; simp only [Option.bind_some, bne_self_eq_false, Bool.false_eq_true, if_false, if_true]
  have j := law_j0 2000 (by omega) l1 b1 r R
  have e : ((aRest r R).2 != (aTips r R).2) = false := by unfold aRest aTips; split <;> rfl
  rw [e]; simp only [Bool.false_eq_true, if_false]
  by_cases c : GG r R
  · have e1 : aTips r R = (tps r 0 R, true) := by unfold aTips; rw [if_pos c]
    have e3 : aFirst r R = fstI (tps r 0 R) := by unfold aFirst; rw [if_pos c]
    rw [e1] at j ⊢
    simp only [if_true]
    rw [eSum_f 2000 _ (by omega) c.tips]; simp only [Option.bind_some]
    rw [e3] at j ⊢
    rw [sm_pos c.tips.2, bne_self_eq_false, ← sm_pos c.tips.2]; exact j
  · have e1 : aTips r R = ([], false) := by unfold aTips; rw [if_neg c]
    have e3 : aFirst r R = (0, false) := by unfold aFirst; rw [if_neg c]
    rw [e1, e3] at j ⊢
    simpa using j
end Go.Proofs.Ytmlkdkeocbhajaa.PuB
