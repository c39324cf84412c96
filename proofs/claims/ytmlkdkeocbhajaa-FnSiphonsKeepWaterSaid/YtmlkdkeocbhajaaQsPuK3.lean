/- Plain functions and what they come to. -/
import Derived.Test.YtmlkdkeocbhajaaQsPuK2
namespace Go.Proofs.Ytmlkdkeocbhajaa.PuB
open Go.RowKit Go.Proofs.Ytmlkdkeocbhajaa.K Go.Proofs.YtmlkdkeocbhajaaW.PrintLast Go.Proofs.YtmlkdkeocbhajaaW.PrintMore
open Go.Proofs.YtmlkdkeocbhajaaW.PrintWords hiding Ev
set_option linter.unusedVariables false
set_option linter.unusedSimpArgs false
theorem siphon_ok {l : List Int} (H : Bytes l) (p s : Int) (h0 : 0 ≤ p) (h1 : p ≤ 1000000000) : ∃ a b c d p' s', spec_l1Cur_siphon.f l p s = some (a, b, c, d, p', s') ∧ p ≤ p' ∧ p' ≤ p + 20 := by
  obtain ⟨r1, p1, s1, e1, a1, b1, u1, v1⟩ := pick_ok H p s 12 h0 (by omega) (by omega)
  have v1 := v1 (by omega)
  obtain ⟨r2, p2, s2, e2, a2, b2, u2, v2⟩ := pick_ok H p1 s1 (1 + r1) (by omega) (by omega) (by omega)
  have v2 := v2 (by omega)
  obtain ⟨r3, p3, s3, e3, a3, b3, u3, v3⟩ := pick_ok H p2 s2 (1 + r1 - r2) (by omega) (by omega) (by omega)
  obtain ⟨r4, p4, s4, e4, a4, b4, u4, v4⟩ := pick_ok H p3 s3 8 (by omega) (by omega) (by omega)
  obtain ⟨r5, p5, s5, e5, a5, b5, u5, v5⟩ := pick_ok H p4 s4 16 (by omega) (by omega) (by omega)
  unfold spec_l1Cur_siphon.f
  rw [e1]; simp only [Option.bind_some]
  rw [w64 (x := 1 + r1) (by omega) (by omega), e2]; simp only [Option.bind_some]
  rw [w64 (x := 1 + r1 - r2) (by omega) (by omega), e3]; simp only [Option.bind_some]
  rw [e4]; simp only [Option.bind_some]
  rw [e5]; simp only [Option.bind_some]
  by_cases c0 : r5 = 0
  · obtain ⟨x, q, t, e, qa, qb, _⟩ := among_ok H p5 s5 [0, 60, 61, (-1)] (by omega) (by omega) (by simp) (by simp)
    rw [if_pos c0, e]; simp only [Option.bind_some]; exact ⟨_, _, _, _, _, _, rfl, by omega, by omega⟩
  · rw [if_neg c0]
    by_cases c1 : r5 = 1
    · obtain ⟨x, q, t, e, qa, qb, _⟩ := among_ok H p5 s5 [(-1), wrap64 ((wrap64 (r2 + 1)) + r3), 1 + r1, 4611686018427387904] (by omega) (by omega) (by simp) (by simp)
      rw [if_pos c1, e]; simp only [Option.bind_some]; exact ⟨_, _, _, _, _, _, rfl, by omega, by omega⟩
    · rw [if_neg c1]
      by_cases c2 : r5 = 2
      · obtain ⟨x, q, t, e, qa, qb, _⟩ := among_ok H p5 s5 [r2, wrap64 (1 + r1 + 1), (-1), 1 + r1] (by omega) (by omega) (by simp) (by simp)
        rw [if_pos c2, e]; simp only [Option.bind_some]; exact ⟨_, _, _, _, _, _, rfl, by omega, by omega⟩
      · rw [if_neg c2]
        by_cases c3 : r5 = 3
        · obtain ⟨x, q, t, e, qa, qb, _⟩ := among_ok H p5 s5 [0, 60, 61, (-1)] (by omega) (by omega) (by simp) (by simp)
          rw [if_pos c3, e]; simp only [Option.bind_some]; exact ⟨_, _, _, _, _, _, rfl, by omega, by omega⟩
        · rw [if_neg c3]; exact ⟨_, _, _, _, _, _, rfl, by omega, by omega⟩
theorem level_j0 {l : List Int} (H : Bytes l) (f : Bool) (p s a b c d : Int) (h0 : 0 ≤ p) (h1 : p ≤ 1000000000) (hf : f = false → 1 ≤ a ∧ a ≤ 60) : ∃ h r p' s', (∀ k, 0 < k → spec_l1Cur_level.j0 k f l p s a b c d = some (h, r, p', s')) ∧ p ≤ p' ∧ p' ≤ p + 4 := by
  cases f with
  | true =>
    obtain ⟨x, q, t, e, qa, qb, _⟩ := among_ok H p s [(-1), 0, a, 61] (by omega) (by omega) (by simp) (by simp)
    obtain ⟨o, p3, s3, e3, a3, b3⟩ := one_ok H q t 2 (by omega) (by omega) (by omega)
    refine ⟨x, o, p3, s3, fun k hk => ?_, by omega, by omega⟩
    obtain ⟨k, rfl⟩ : ∃ m, k = m + 1 := ⟨k - 1, by omega⟩
    simp only [spec_l1Cur_level.j0, if_true]
    rw [e]; simp only [Option.bind_some]
    rw [e3]; rfl
  | false =>
    have hf := hf rfl
    obtain ⟨x, q, t, e, qa, qb, _⟩ := pick_ok H p s (a + 1) (by omega) (by omega) (by omega)
    obtain ⟨o, p3, s3, e3, a3, b3⟩ := one_ok H q t 3 (by omega) (by omega) (by omega)
    refine ⟨x, o, p3, s3, fun k hk => ?_, by omega, by omega⟩
    obtain ⟨k, rfl⟩ : ∃ m, k = m + 1 := ⟨k - 1, by omega⟩
    simp only [spec_l1Cur_level.j0, Bool.false_eq_true, if_false]
    rw [w64 (by omega) (by omega), e]; simp only [Option.bind_some]
    rw [e3]; rfl
theorem level_ok {l : List Int} (H : Bytes l) (p s a b c d : Int) (h0 : 0 ≤ p) (h1 : p ≤ 100000000) : ∃ h r p' s', (∀ k, 0 < k → spec_l1Cur_level.f k l p s a b c d = some (h, r, p', s')) ∧ p ≤ p' ∧ p' ≤ p + 6 := by
  by_cases c1 : a < 1
  · obtain ⟨h, r, p', s', E, x, y⟩ := level_j0 H true p s a b c d h0 (by omega) (by simp)
    exact ⟨h, r, p', s', fun k hk => by unfold spec_l1Cur_level.f; rw [if_pos c1]; exact E k hk, by omega, by omega⟩
  · by_cases c2 : a > 60
    · obtain ⟨h, r, p', s', E, x, y⟩ := level_j0 H true p s a b c d h0 (by omega) (by simp)
      exact ⟨h, r, p', s', fun k hk => by unfold spec_l1Cur_level.f; rw [if_neg c1, if_pos c2]; exact E k hk, by omega, by omega⟩
    · obtain ⟨o, p3, s3, e3, a3, b3⟩ := one_ok H p s 14 (by omega) (by omega) (by omega)
      obtain ⟨h, r, p', s', E, x, y⟩ := level_j0 H o p3 s3 a b c d (by omega) (by omega) (fun _ => by omega)
      exact ⟨h, r, p', s', fun k hk => by unfold spec_l1Cur_level.f; rw [if_neg c1, if_neg c2, e3]; exact E k hk, by omega, by omega⟩
theorem inflow_ok {l : List Int} (H : Bytes l) (p s : Int) (h0 : 0 ≤ p) (h1 : p ≤ 100000000000) : ∃ x p' s', spec_l1Cur_inflow.f l p s = some (x, p', s') ∧ p ≤ p' ∧ p' ≤ p + 4 := by
  unfold spec_l1Cur_inflow.f
  obtain ⟨o, p3, s3, e3, a3, b3⟩ := one_ok H p s 14 (by omega) (by omega) (by omega)
  rw [e3]; simp only [Option.bind_some]
  cases o with
  | true =>
    obtain ⟨x, q, t, e, qa, qb, _⟩ := among_ok H p3 s3 [(-1), 60, 61, 4611686018427387904] (by omega) (by omega) (by simp) (by simp)
    rw [if_pos rfl, e]; simp only [Option.bind_some]; exact ⟨_, _, _, rfl, by omega, by omega⟩
  | false =>
    obtain ⟨x, q, t, e, qa, qb, _⟩ := pick_ok H p3 s3 9 (by omega) (by omega) (by omega)
    rw [if_neg (by simp), e]; simp only [Option.bind_some]; exact ⟨_, _, _, rfl, by omega, by omega⟩
theorem inflows_l0 {l : List Int} (h : Bytes l) : ∀ (m : Nat) (acc : List Int) (p s : Int), acc.length + m ≤ 20 → 0 ≤ p → p + 10 * m ≤ 10000000000 → ∃ C p' s', (∀ k, m < k → spec_l1Cur_inflows.l0 k acc (m : Int) l p s = some (C, p', s')) ∧ p ≤ p' ∧ p' ≤ p + 10 * m + 10
  | 0, acc, p, s, ha, h0, h1 => by
    obtain ⟨r, p1, s1, e, a, b, r0, r1⟩ := pick_ok h p s 18 h0 (by omega) (by omega)
    by_cases c0 : r = 0
    · obtain ⟨x, p2, s2, e2, a2, b2⟩ := inflow_ok h p1 s1 (by omega) (by omega)
      refine ⟨acc ++ [x], p2, s2, fun k hk => ?_, by omega, by omega⟩
      obtain ⟨k, rfl⟩ : ∃ m, k = m + 1 := ⟨k - 1, by omega⟩
      simp only [spec_l1Cur_inflows.l0]
      rw [if_neg (by omega), e]; simp only [Option.bind_some]
      rw [if_pos c0, e2]; simp only [Option.bind_some]
      rw [if_pos (by omega)]
    · by_cases c1 : r = 1
      · obtain ⟨x, p2, s2, e2, a2, b2, x0, x1⟩ := pick_ok h p1 s1 2 (by omega) (by omega) (by omega)
        have x1 := x1 (by omega)
        refine ⟨List.replicate (100 + x).toNat 0, p2, s2, fun k hk => ?_, by omega, by omega⟩
        obtain ⟨k, rfl⟩ : ∃ m, k = m + 1 := ⟨k - 1, by omega⟩
        simp only [spec_l1Cur_inflows.l0]
        rw [if_neg (by omega), e]; simp only [Option.bind_some]
        rw [if_neg c0, if_pos c1, e2]; simp only [Option.bind_some]
        rw [w64 (x := 100 + x) (by omega) (by omega), if_pos (by omega), if_pos (by omega)]
      · refine ⟨acc, p1, s1, fun k hk => ?_, by omega, by omega⟩
        obtain ⟨k, rfl⟩ : ∃ m, k = m + 1 := ⟨k - 1, by omega⟩
        simp only [spec_l1Cur_inflows.l0]
        rw [if_neg (by omega), e]; simp only [Option.bind_some]
        rw [if_neg c0, if_neg c1]
  | m + 1, acc, p, s, ha, h0, h1 => by
    obtain ⟨o, p1, s1, e, a, b⟩ := one_ok h p s 4 h0 (by omega) (by omega)
    cases o with
    | true =>
      obtain ⟨C, p', s', E, q1, q2⟩ := inflows_l0 h m (acc ++ [0]) p1 s1 (by simp; omega) (by omega) (by omega)
      refine ⟨C, p', s', fun k hk => ?_, by omega, by omega⟩
      obtain ⟨k, rfl⟩ : ∃ m, k = m + 1 := ⟨k - 1, by omega⟩
      simp only [spec_l1Cur_inflows.l0]
      rw [if_pos (by omega), e]; simp only [Option.bind_some]
      rw [if_pos trivial, if_pos (by omega), w64 (by omega) (by omega), show (((m + 1 : Nat) : Int) - 1) = (m : Int) by omega]
      exact E k (by omega)
    | false =>
      obtain ⟨r, p2, s2, e2, a2, b2, _⟩ := pick_ok h p1 s1 7 (by omega) (by omega) (by omega)
      obtain ⟨C, p', s', E, q1, q2⟩ := inflows_l0 h m (acc ++ [r]) p2 s2 (by simp; omega) (by omega) (by omega)
      refine ⟨C, p', s', fun k hk => ?_, by omega, by omega⟩
      obtain ⟨k, rfl⟩ : ∃ m, k = m + 1 := ⟨k - 1, by omega⟩
      simp only [spec_l1Cur_inflows.l0]
      rw [if_pos (by omega), e]; simp only [Option.bind_some, Bool.false_eq_true, if_false]
      rw [e2]; simp only [Option.bind_some]
      rw [if_pos (by omega), w64 (by omega) (by omega), show (((m + 1 : Nat) : Int) - 1) = (m : Int) by omega]
      exact E k (by omega)
theorem inflows_ok {l : List Int} (h : Bytes l) (p s : Int) (h0 : 0 ≤ p) (h1 : p ≤ 1000000000) : ∃ C p' s', (∀ k, 500 < k → spec_l1Cur_inflows.f k l p s = some (C, p', s')) := by
  obtain ⟨r, p1, s1, e, a, b, r0, r1⟩ := pick_ok h p s 14 h0 (by omega) (by omega)
  have r1 := r1 (by omega)
  obtain ⟨C, p', s', E, q1, q2⟩ := inflows_l0 h r.toNat [] p1 s1 (by simp; omega) (by omega) (by omega)
  refine ⟨C, p', s', fun k hk => ?_⟩
  unfold spec_l1Cur_inflows.f
  rw [e]; simp only [Option.bind_some]
  have := E k (by omega)
  rw [show ((r.toNat : Nat) : Int) = r by omega] at this
  exact this
theorem DrawOuts_ok {l : List Int} (h : Bytes l) : ∃ a b c d x r C, ∀ k, 500 < k → spec_DrawOutsOf.f k l = some (a, b, c, d, x, r, C) := by
  obtain ⟨a, b, c, d, p1, s1, e1, a1, b1⟩ := siphon_ok h 0 0 (by omega) (by omega)
  obtain ⟨x, r, p2, s2, E2, a2, b2⟩ := level_ok h p1 s1 a b c d (by omega) (by omega)
  obtain ⟨C, p3, s3, E3⟩ := inflows_ok h p2 s2 (by omega) (by omega)
  exact ⟨a, b, c, d, x, r, C, fun k hk => by unfold spec_DrawOutsOf.f; rw [e1]; simp only [Option.bind_some]; rw [E2 k (by omega)]; simp only [Option.bind_some]; rw [E3 k hk]; rfl⟩
theorem DrawTick_ok {l : List Int} (h : Bytes l) : ∃ a b c d x r y, ∀ k, 500 < k → spec_DrawTickSiphon.f k l = some (a, b, c, d, x, r, y) := by
  obtain ⟨a, b, c, d, p1, s1, e1, a1, b1⟩ := siphon_ok h 0 0 (by omega) (by omega)
  obtain ⟨x, r, p2, s2, E2, a2, b2⟩ := level_ok h p1 s1 a b c d (by omega) (by omega)
  obtain ⟨y, p3, s3, e3, _⟩ := inflow_ok h p2 s2 (by omega) (by omega)
  exact ⟨a, b, c, d, x, r, y, fun k hk => by unfold spec_DrawTickSiphon.f; rw [e1]; simp only [Option.bind_some]; rw [E2 k (by omega)]; simp only [Option.bind_some]; rw [e3]; rfl⟩
theorem DrawIs_ok {l : List Int} (h : Bytes l) : ∃ a b c d x r, ∀ k, 500 < k → spec_DrawIsSiphonLevel.f k l = some (a, b, c, d, x, r) := by
  obtain ⟨a, b, c, d, p1, s1, e1, a1, b1⟩ := siphon_ok h 0 0 (by omega) (by omega)
  obtain ⟨x, r, p2, s2, E2, a2, b2⟩ := level_ok h p1 s1 a b c d (by omega) (by omega)
  exact ⟨a, b, c, d, x, r, fun k hk => by unfold spec_DrawIsSiphonLevel.f; rw [e1]; simp only [Option.bind_some]; rw [E2 k (by omega)]; rfl⟩
theorem law_j4 (k : Nat) (hk : 600 < k) (a b c d : Int) : laws_FnSiphonsKeepWater.j4 k (aCap a b c d).1 (aCap a b c d).2 false a b c d = some true := by
  obtain ⟨k, rfl⟩ : ∃ m, k = m + 1 := ⟨k - 1, by omega⟩
  simp only [laws_FnSiphonsKeepWater.j4, Bool.false_eq_true, if_false]
  unfold aCap
  by_cases g : SG a b c d
  · rw [if_pos g]; simp only [if_true, Option.bind_some, List.length_replicate]
    rw [if_pos (by omega), if_pos (by omega), OutsI k _ _ _ _ _ _ _ (by omega)]; simp only [Option.bind_some]
    have e : (List.replicate 61 (0 : Int)).set (0 : Int).toNat c = c :: List.replicate 60 0 := rfl
    rw [e]
    have q : LV a b c d 0 ∧ Ins (c :: List.replicate 60 0) := by
      refine ⟨⟨g, by have := g.1; omega⟩, by simp, fun x hx => ?_⟩
      rcases List.mem_cons.mp hx with e | e
      · subst e; have := g.1; have := g.2; omega
      · have := List.eq_of_mem_replicate e; omega
    have eo : aOuts a b c d 0 false (c :: List.replicate 60 0) = ((rn a b c d 0 false (c :: List.replicate 60 0)).map (·.2.1), true) := by unfold aOuts; rw [if_pos q]
    rw [eo]; simp only [if_true]
    rw [eSum_f k _ (by omega) (rn_outs q.2 q.1 false), cap_sum g]; simp
  · rw [if_neg g]; simp
theorem law_j3 (k : Nat) (hk : 700 < k) (l : List Int) (h : Bytes l) : laws_FnSiphonsKeepWater.j3 k l = some true := by
  obtain ⟨k, rfl⟩ : ∃ m, k = m + 1 := ⟨k - 1, by omega⟩
  obtain ⟨a, b, c, d, x, r, y, D1⟩ := DrawTick_ok h
  obtain ⟨a', b', c', d', x', r', D2⟩ := DrawIs_ok h
  simp only [laws_FnSiphonsKeepWater.j3]
  rw [D1 k (by omega)]; simp only [Option.bind_some]
  rw [TickI, TickS k _ _ _ _ _ _ _ (by omega), D2 k (by omega)]; simp only [Option.bind_some]
  unfold spec_IsSiphon.f
  rw [isLvI, isLvS, CapI, CapS, sipI, sipS]; simp only [Option.bind_some, bne_self_eq_false, beq_self_eq_true, Bool.not_true, Bool.or_self, Bool.false_eq_true, if_false, if_true]
  have e1 : ((aIs a' b' c' d' x').2 != decide (SG a' b' c' d')) = false := by unfold aIs; split <;> simp [*]
  have e2 : ((aCap a' b' c' d').2 != (aIs a' b' c' d' x').2) = false := by unfold aIs aCap; split <;> simp [*]
  rw [e1, e2]; simp only [Bool.false_eq_true, if_false]
  exact law_j4 k (by omega) a' b' c' d'
theorem rd_cons (y : S102) (L : List S102) (n : Nat) : rd_T102 (y :: L) ((n + 1 : Nat) : Int) = rd_T102 L (n : Int) := by unfold rd_T102; simp
theorem rn_drop {a b c d : Int} : ∀ (l : List Int) (h : Int) (r : Bool) (i : Nat), i < l.length → LV a b c d h → Ins l →
    ∃ z : S102, rd_T102 (⟨h, r⟩ :: (rn a b c d h r l).map (·.1)) (i : Int) = z ∧ LV a b c d z.f0 ∧
      rd_T102 (⟨h, r⟩ :: (rn a b c d h r l).map (·.1)) ((i + 1 : Nat) : Int) = ⟨(tk a b c d z.f0 z.f1 (rd l (i : Int))).1, (tk a b c d z.f0 z.f1 (rd l (i : Int))).2.1⟩ ∧
      rd ((rn a b c d h r l).map (·.2.1)) (i : Int) = (tk a b c d z.f0 z.f1 (rd l (i : Int))).2.2.1 ∧ rd ((rn a b c d h r l).map (·.2.2)) (i : Int) = (tk a b c d z.f0 z.f1 (rd l (i : Int))).2.2.2
  | [], h, r, i, hi, _, _ => by simp at hi
  | x :: l, h, r, 0, hi, g, S => by
    refine ⟨⟨h, r⟩, by unfold rd_T102; rfl, g, ?_, rfl, rfl⟩
    rw [rd_cons]; unfold rd_T102; rfl
  | x :: l, h, r, i + 1, hi, g, S => by
    have t := tk_ok r g (S.2 x (List.mem_cons_self ..))
    obtain ⟨z, z1, z2, z3, z4, z5⟩ := rn_drop l (tk a b c d h r x).1 (tk a b c d h r x).2.1 i (by simpa using hi) ⟨g.1, t.1⟩ ⟨by have := S.1; simp at this; omega, fun y hy => S.2 y (List.mem_cons_of_mem _ hy)⟩
    refine ⟨z, ?_, z2, ?_, ?_, ?_⟩
    · rw [rd_cons]; exact z1
    · rw [rd_cons]; rw [rd_nat] at z3 ⊢; simpa [rn] using z3
    · rw [rd_nat, rd_nat] at z4 ⊢; simpa [rn] using z4
    · rw [rd_nat, rd_nat] at z5 ⊢; simpa [rn] using z5
theorem law_l0 (l1 : List Int) (H1 : Bytes l1) (a b c d h : Int) (r : Bool) (l : List Int) (g : LV a b c d h) (S : Ins l) :
    ∀ (m k i : Nat) (s : Int), i + m = l.length → m + 800 < k → s + sm (((rn a b c d h r l).map (·.2.2)).drop i) = sm ((rn a b c d h r l).map (·.2.2)) → 0 ≤ s → s ≤ 60 * (i : Int) →
    laws_FnSiphonsKeepWater.l0 k l1 ((rn a b c d h r l).map (·.2.1)) (⟨h, r⟩ :: (rn a b c d h r l).map (·.1)) (sm ((rn a b c d h r l).map (·.2.2))) s l (l.length : Int) (i : Int) a b c d = some true := by
  intro m
  induction m with
  | zero =>
    intro k i s hi hk hs s0 s1
    obtain ⟨k, rfl⟩ : ∃ m, k = m + 1 := ⟨k - 1, by omega⟩
    rw [List.drop_of_length_le (by rw [List.length_map, rn_len]; omega)] at hs
    simp only [laws_FnSiphonsKeepWater.l0]
    rw [if_neg (by omega), if_pos (by have : sm [] = 0 := rfl; omega)]
    exact law_j3 k (by omega) l1 H1
  | succ m ih =>
    intro k i s hi hk hs s0 s1
    obtain ⟨k, rfl⟩ : ∃ m, k = m + 1 := ⟨k - 1, by omega⟩
    have hl := S.1
    have hx := drop_in S i (by omega)
    obtain ⟨z, z1, z2, z3, z4, z5⟩ := rn_drop l h r i (by omega) g S
    have t := tk_ok z.f1 z2 hx
    obtain ⟨u1, u2, u3, u4, ht⟩ : ∃ u1 u2 u3 u4, tk a b c d z.f0 z.f1 (rd l (i : Int)) = (u1, u2, u3, u4) := ⟨_, _, _, _, rfl⟩
    have et : aTick a b c d z.f0 z.f1 (rd l (i : Int)) = (u1, u2, u3, u4, true) := by unfold aTick; rw [if_pos ⟨z2, hx⟩, ht]
    rw [ht] at t z3 z4 z5
    simp only [] at t z3 z4 z5
    clear ht
    have dr := drop_rd ((rn a b c d h r l).map (·.2.2)) i (by rw [List.length_map, rn_len]; omega)
    have e : ∀ (x : Int) (l : List Int), sm (x :: l) = x + sm l := fun _ _ => rfl
    rw [dr, e, z5] at hs
    have n := ih k (i + 1) (s + u4) (by omega) (by omega) (by rw [← hs]; omega) (by omega) (by simp; omega)
    have ei : aIs a b c d u1 = (true, true) := by unfold aIs; rw [if_pos g.1, decide_eq_true t.1]
    have el : ((⟨h, r⟩ :: (rn a b c d h r l).map (·.1) : List S102)).length = l.length + 1 := by rw [List.length_cons, List.length_map, rn_len]
    have eo : ((rn a b c d h r l).map (·.2.1)).length = l.length := by rw [List.length_map, rn_len]
    generalize (⟨h, r⟩ :: (rn a b c d h r l).map (·.1) : List S102) = L at *
    generalize (rn a b c d h r l).map (·.2.1) = O at *
    generalize sm ((rn a b c d h r l).map (·.2.2)) = P at *
    simp only [laws_FnSiphonsKeepWater.l0]
    have lv : impl_IsSiphonLevel.f a b c d u1 u2 = some (true, true) := by rw [isLvI, ei]
    rw [el, eo, if_pos (by omega), if_pos (by omega), if_pos (by omega), if_pos (by omega), z1, TickI, et, Option.bind_some, lv, Option.bind_some, if_pos rfl]
    rw [w64 (x := (i : Int) + 1) (by omega) (by omega), show ((i : Int) + 1) = ((i + 1 : Nat) : Int) by simp, z3, z4, w64 (x := s + u4) (by omega) (by omega)]
    rw [if_pos (by omega), if_pos (by omega), if_neg (by simp), if_pos (by omega), if_pos rfl, if_neg (by show ¬ u3 > d; omega), if_pos rfl, if_pos rfl]
    by_cases q : u2 = true
    · rw [if_pos q, if_neg (by have := t.2.2.2.2 q; omega)]; exact n
    · rw [if_neg q]; exact n
theorem law_j0 (k : Nat) (hk : 2000 < k) (l1 : List Int) (H1 : Bytes l1) (a b c d h : Int) (r : Bool) (l : List Int) :
    laws_FnSiphonsKeepWater.j0 k l1 l (aOuts a b c d h r l).1 (aOuts a b c d h r l).2 (aLevs a b c d h r l).1 (aSpilt a b c d h r l).1 false a b c d h r = some true := by
  obtain ⟨k, rfl⟩ : ∃ m, k = m + 2 := ⟨k - 2, by omega⟩
  simp only [laws_FnSiphonsKeepWater.j0, Bool.false_eq_true, if_false]
  unfold aOuts aLevs aSpilt
  by_cases q : LV a b c d h ∧ Ins l
  · rw [if_pos q, if_pos q, if_pos q]; simp only [if_true, List.length_cons, List.length_map, rn_len]
    have hl := q.2.1
    have w := rn_sum l h r q.1 q.2.2
    have so := (rn_outs q.2 q.1 r).le
    have sp := (rn_spilt q.2 q.1 r).le
    have si := q.2.so.le
    have gh := q.1.2
    have ga := q.1.1.1
    rw [w64 (x := (l.length : Int) + 1) (by omega) (by omega), if_pos (by omega), if_pos (by omega)]
    have e0 : rd_T102 (⟨h, r⟩ :: (rn a b c d h r l).map (·.1)) 0 = ⟨h, r⟩ := by unfold rd_T102; rfl
    rw [e0]; simp only [beq_self_eq_true, Bool.not_true, Bool.or_self, Bool.false_eq_true, if_false]
    rw [eSum_f _ _ (by omega) q.2.so, eSum_f _ _ (by omega) (rn_outs q.2 q.1 r)]; simp only [Option.bind_some]
    rw [if_pos (by omega), if_pos (by omega)]
    generalize hz : (rd_T102 (⟨h, r⟩ :: (rn a b c d h r l).map (·.1)) (l.length : Int)).f0 = z at w ⊢
    rw [w64 (x := sm ((rn a b c d h r l).map (·.2.1)) + sm ((rn a b c d h r l).map (·.2.2))) (by omega) (by omega), w64 (x := _ + z) (by omega) (by omega), w64 (by omega) (by omega), ← w, bne_self_eq_false]
    simp only [laws_FnSiphonsKeepWater.j1, Bool.false_eq_true, if_false]
    exact law_l0 l1 H1 a b c d h r l q.1 q.2 l.length k 0 0 (by omega) (by omega) (by simp) (by omega) (by omega)
  · rw [if_neg q, if_neg q, if_neg q]; simp only [Bool.false_eq_true, if_false]
    exact law_j3 _ (by omega) l1 H1
theorem law_sip (l0 l1 : List Int) (b0 : Bytes l0) (b1 : Bytes l1) : ∃ k, laws_FnSiphonsKeepWater.f k l0 l1 = some true := by
  refine ⟨5000, ?_⟩
  unfold laws_FnSiphonsKeepWater.f
  have hbig : ∃ b, laws_big.f l0 l1 = some b := by unfold laws_big.f; split <;> exact ⟨_, rfl⟩
  obtain ⟨b, hbig⟩ := hbig
  rw [hbig]; simp only [Option.bind_some]
  cases b with
  | true => rfl
  | false =>
  rw [if_neg (by simp)]
  obtain ⟨a, b, c, d, h, r, C, D⟩ := DrawOuts_ok b0
  rw [D 5000 (by omega)]; simp only [Option.bind_some]
  rw [OutsI 5000 _ _ _ _ _ _ _ (by omega), OutsS 5000 _ _ _ _ _ _ _ (by omega), LevsI 5000 _ _ _ _ _ _ _ (by omega), LevsS 5000 _ _ _ _ _ _ _ (by omega), SpiltI 5000 _ _ _ _ _ _ _ (by omega), SpiltS 5000 _ _ _ _ _ _ _ (by omega)]; simp only [Option.bind_some]
  have lo : (aOuts a b c d h r C).1.length ≤ 100 := by
    unfold aOuts; split
    · rename_i q; rw [List.length_map, rn_len]; exact q.2.1
    · simp
  have ll : (aLevs a b c d h r C).1.length ≤ 101 := by
    unfold aLevs; split
    · rename_i q; rw [List.length_cons, List.length_map, rn_len]; have := q.2.1; omega
    · simp
  have e1 : ((aLevs a b c d h r C).2 != (aOuts a b c d h r C).2) = false := by unfold aLevs aOuts; split <;> rfl
  have e2 : ((aSpilt a b c d h r C).2 != (aOuts a b c d h r C).2) = false := by unfold aSpilt aOuts; split <;> rfl
  rw [eS _ lo 5000 (by omega), eL _ ll 5000 (by omega)]; simp only [Option.bind_some, bne_self_eq_false, Bool.false_eq_true, if_false, if_true]
  rw [e1, e2]; simp only [Bool.false_eq_true, if_false]
  exact law_j0 5000 (by omega) l1 b1 a b c d h r C
end Go.Proofs.Ytmlkdkeocbhajaa.PuB
