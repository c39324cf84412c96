/- Plain functions and what they come to. -/
import Derived.Test.YtmlkdkeocbhajaaQsPuK1
namespace Go.Proofs.Ytmlkdkeocbhajaa.PuB
open Go.RowKit Go.Proofs.Ytmlkdkeocbhajaa.K Go.Proofs.YtmlkdkeocbhajaaW.PrintLast Go.Proofs.YtmlkdkeocbhajaaW.PrintMore
open Go.Proofs.YtmlkdkeocbhajaaW.PrintWords hiding Ev
set_option linter.unusedVariables false
set_option linter.unusedSimpArgs false
theorem eSame_l0 (a : List Int) (hb : a.length ≤ 1000000) : ∀ (d k i : Nat), i + d = a.length → d < k → laws_eSame.l0 k a a (a.length : Int) (i : Int) = some true
  | 0, 0, i, _, h => by omega
  | 0, k + 1, i, hi, _ => by simp only [laws_eSame.l0]; rw [if_neg (by omega)]
  | d + 1, 0, i, _, h => by omega
  | d + 1, k + 1, i, hi, hk => by
    simp only [laws_eSame.l0]
    rw [if_pos (by omega), if_pos (by omega), if_pos (by omega), if_pos (by omega), if_pos trivial, w64 (by omega) (by omega), show ((i : Int) + 1) = ((i + 1 : Nat) : Int) by omega]
    exact eSame_l0 a hb d k (i + 1) (by omega) (by omega)
theorem runI_f {a b c d h : Int} {l : List Int} (S : Ins l) (g : LV a b c d h) (r : Bool) (k : Nat) (hk : 200 < k) :
    impl_Siphon_run.f k a b c d h r l = some (⟨h, r⟩ :: (rn a b c d h r l).map (·.1), (rn a b c d h r l).map (·.2.1), (rn a b c d h r l).map (·.2.2)) := by
  unfold impl_Siphon_run.f
  have := runI_l0 l S l.length k 0 h r [⟨h, r⟩] [] [] g (by omega) (by have := S.1; omega) rfl rfl rfl
  simpa using this
theorem runS_f {a b c d h : Int} {l : List Int} (S : Ins l) (g : LV a b c d h) (r : Bool) (k : Nat) (hk : 200 < k) :
    spec_siRun.f k a b c d h r l = some ((rn a b c d h r l).map (·.2.1), ⟨h, r⟩ :: (rn a b c d h r l).map (·.1), sm ((rn a b c d h r l).map (·.2.2))) := by
  unfold spec_siRun.f
  have := runS_l0 l S l.length k 0 h r [⟨h, r⟩] [] 0 g (by omega) (by have := S.1; omega) rfl rfl (by omega) (by omega)
  simpa using this
def aOuts (a b c d h : Int) (r : Bool) (l : List Int) : List Int × Bool := if LV a b c d h ∧ Ins l then ((rn a b c d h r l).map (·.2.1), true) else ([], false)
def aLevs (a b c d h : Int) (r : Bool) (l : List Int) : List S102 × Bool := if LV a b c d h ∧ Ins l then (⟨h, r⟩ :: (rn a b c d h r l).map (·.1), true) else ([], false)
def aSpilt (a b c d h : Int) (r : Bool) (l : List Int) : Int × Bool := if LV a b c d h ∧ Ins l then (sm ((rn a b c d h r l).map (·.2.2)), true) else (0, false)
def aTick (a b c d h : Int) (r : Bool) (x : Int) : Int × Bool × Int × Int × Bool := if LV a b c d h ∧ InF x then ((tk a b c d h r x).1, (tk a b c d h r x).2.1, (tk a b c d h r x).2.2.1, (tk a b c d h r x).2.2.2, true) else (0, false, 0, 0, false)
def aCap (a b c d : Int) : Int × Bool := if SG a b c d then (c - b, true) else (0, false)
theorem rn_all {a b c d : Int} : ∀ (l : List Int) (h : Int) (r : Bool), LV a b c d h → (∀ x ∈ l, 0 ≤ x ∧ x ≤ 60) → ∀ y ∈ rn a b c d h r l, (0 ≤ y.2.1 ∧ y.2.1 ≤ d) ∧ (0 ≤ y.2.2 ∧ y.2.2 ≤ 60) ∧ LV a b c d y.1.f0
  | [], _, _, _, _ => by simp [rn]
  | x :: l, h, r, g, hx => by
    have t := tk_ok r g (hx x (List.mem_cons_self ..))
    intro y hy
    rcases List.mem_cons.mp hy with e | e
    · subst e; exact ⟨t.2.1, t.2.2.1, g.1, t.1⟩
    · exact rn_all l _ _ ⟨g.1, t.1⟩ (fun y hy => hx y (List.mem_cons_of_mem _ hy)) y e
theorem rn_outs {a b c d h : Int} {l : List Int} (S : Ins l) (g : LV a b c d h) (r : Bool) : SmO ((rn a b c d h r l).map (·.2.1)) := by
  refine ⟨by rw [List.length_map, rn_len]; exact S.1, fun x hx => ?_⟩
  obtain ⟨y, hy, rfl⟩ := List.mem_map.mp hx
  have := rn_all l h r g S.2 y hy
  have := g.1.2.2.2.2
  omega
theorem rn_spilt {a b c d h : Int} {l : List Int} (S : Ins l) (g : LV a b c d h) (r : Bool) : SmO ((rn a b c d h r l).map (·.2.2)) := by
  refine ⟨by rw [List.length_map, rn_len]; exact S.1, fun x hx => ?_⟩
  obtain ⟨y, hy, rfl⟩ := List.mem_map.mp hx
  have := rn_all l h r g S.2 y hy
  omega
theorem Ins.so {l : List Int} (S : Ins l) : SmO l := ⟨S.1, fun x hx => by have := S.2 x hx; omega⟩
theorem OutsI (k : Nat) (a b c d h : Int) (r : Bool) (l : List Int) (hk : 200 < k) : impl_OutsOf.f k a b c d h r l = some (aOuts a b c d h r l) := by
  unfold impl_OutsOf.f aOuts
  rw [lvI, insI]; simp only [Option.bind_some]
  by_cases g : LV a b c d h
  · rw [decide_eq_true g, if_pos rfl]
    by_cases i : Ins l
    · rw [decide_eq_true i, if_pos rfl, runI_f i g r k hk, if_pos ⟨g, i⟩]; rfl
    · rw [decide_eq_false i, if_neg (by simp), if_neg (fun h => i h.2)]
  · rw [decide_eq_false g, if_neg (by simp), if_neg (fun h => g h.1)]
theorem LevsI (k : Nat) (a b c d h : Int) (r : Bool) (l : List Int) (hk : 200 < k) : impl_LevelsOf.f k a b c d h r l = some (aLevs a b c d h r l) := by
  unfold impl_LevelsOf.f aLevs
  rw [lvI, insI]; simp only [Option.bind_some]
  by_cases g : LV a b c d h
  · rw [decide_eq_true g, if_pos rfl]
    by_cases i : Ins l
    · rw [decide_eq_true i, if_pos rfl, runI_f i g r k hk, if_pos ⟨g, i⟩]; rfl
    · rw [decide_eq_false i, if_neg (by simp), if_neg (fun h => i h.2)]
  · rw [decide_eq_false g, if_neg (by simp), if_neg (fun h => g h.1)]
theorem SpiltI (k : Nat) (a b c d h : Int) (r : Bool) (l : List Int) (hk : 300 < k) : impl_SpiltOf.f k a b c d h r l = some (aSpilt a b c d h r l) := by
  obtain ⟨k, rfl⟩ : ∃ m, k = m + 1 := ⟨k - 1, by omega⟩
  unfold impl_SpiltOf.f aSpilt
  rw [lvI, insI]; simp only [Option.bind_some]
  by_cases g : LV a b c d h
  · rw [decide_eq_true g, if_pos rfl]
    by_cases i : Ins l
    · rw [decide_eq_true i]
      simp only [impl_SpiltOf.j0, Bool.not_true, Bool.false_eq_true, if_false]
      rw [runI_f i g r k (by omega)]; simp only [Option.bind_some]
      rw [total_f k _ (by omega) (rn_spilt i g r), if_pos ⟨g, i⟩]; rfl
    · rw [decide_eq_false i]
      simp only [impl_SpiltOf.j0, Bool.not_false, if_true]
      rw [if_neg (fun h => i h.2)]
  · rw [decide_eq_false g, if_neg (by simp), if_neg (fun h => g h.1)]
    simp only [impl_SpiltOf.j0, if_true]
theorem OutsS (k : Nat) (a b c d h : Int) (r : Bool) (l : List Int) (hk : 200 < k) : spec_OutsOf.f k a b c d h r l = some (aOuts a b c d h r l) := by
  unfold spec_OutsOf.f aOuts
  rw [askS k _ _ _ _ _ _ _ hk]; simp only [Option.bind_some]
  by_cases q : LV a b c d h ∧ Ins l
  · rw [decide_eq_true q, if_pos rfl, runS_f q.2 q.1 r k hk, if_pos q]; rfl
  · rw [decide_eq_false q, if_neg (by simp), if_neg q]
theorem LevsS (k : Nat) (a b c d h : Int) (r : Bool) (l : List Int) (hk : 200 < k) : spec_LevelsOf.f k a b c d h r l = some (aLevs a b c d h r l) := by
  unfold spec_LevelsOf.f aLevs
  rw [askS k _ _ _ _ _ _ _ hk]; simp only [Option.bind_some]
  by_cases q : LV a b c d h ∧ Ins l
  · rw [decide_eq_true q, if_pos rfl, runS_f q.2 q.1 r k hk, if_pos q]; rfl
  · rw [decide_eq_false q, if_neg (by simp), if_neg q]
theorem SpiltS (k : Nat) (a b c d h : Int) (r : Bool) (l : List Int) (hk : 200 < k) : spec_SpiltOf.f k a b c d h r l = some (aSpilt a b c d h r l) := by
  unfold spec_SpiltOf.f aSpilt
  rw [askS k _ _ _ _ _ _ _ hk]; simp only [Option.bind_some]
  by_cases q : LV a b c d h ∧ Ins l
  · rw [decide_eq_true q, if_pos rfl, runS_f q.2 q.1 r k hk, if_pos q]; rfl
  · rw [decide_eq_false q, if_neg (by simp), if_neg q]
theorem TickI (a b c d h : Int) (r : Bool) (x : Int) : impl_TickSiphon.f a b c d h r x = some (aTick a b c d h r x) := by
  unfold impl_TickSiphon.f aTick impl_isInflow.f
  rw [lvI, in_impl]; simp only [Option.bind_some]
  by_cases g : LV a b c d h
  · rw [decide_eq_true g, if_pos rfl]
    by_cases i : InF x
    · rw [decide_eq_true (show 0 ≤ x ∧ x ≤ 60 from i), if_pos rfl, tickI r g i, if_pos ⟨g, i⟩]; rfl
    · rw [decide_eq_false (show ¬ (0 ≤ x ∧ x ≤ 60) from i), if_neg (by simp), if_neg (fun h => i h.2)]
  · rw [decide_eq_false g, if_neg (by simp), if_neg (fun h => g h.1)]
theorem TickS (k : Nat) (a b c d h : Int) (r : Bool) (x : Int) (hk : 3 < k) : spec_TickSiphon.f k a b c d h r x = some (aTick a b c d h r x) := by
  unfold spec_TickSiphon.f aTick spec_siInflow.f
  rw [lvS, in_spec]; simp only [Option.bind_some]
  by_cases g : LV a b c d h
  · rw [decide_eq_true g, if_pos rfl]
    by_cases i : InF x
    · rw [decide_eq_true (show 0 ≤ x ∧ x ≤ 60 from i), if_pos rfl, tickS k r hk g i, if_pos ⟨g, i⟩]; rfl
    · rw [decide_eq_false (show ¬ (0 ≤ x ∧ x ≤ 60) from i), if_neg (by simp), if_neg (fun h => i h.2)]
  · rw [decide_eq_false g, if_neg (by simp), if_neg (fun h => g h.1)]
theorem CapI (a b c d : Int) : impl_CapacityOf.f a b c d = some (aCap a b c d) := by
  unfold impl_CapacityOf.f aCap
  rw [sipI]; simp only [Option.bind_some]
  by_cases g : SG a b c d
  · have g' := g
    obtain ⟨a1, b1, c1, c2, d1⟩ := g'
    rw [decide_eq_true g, if_pos rfl, if_pos g, w64 (by omega) (by omega)]
  · rw [decide_eq_false g, if_neg (by simp), if_neg g]
theorem CapS (a b c d : Int) : spec_CapacityOf.f a b c d = some (aCap a b c d) := by
  unfold spec_CapacityOf.f aCap
  rw [sipS]; simp only [Option.bind_some]
  by_cases g : SG a b c d
  · have g' := g
    obtain ⟨a1, b1, c1, c2, d1⟩ := g'
    rw [decide_eq_true g, if_pos rfl, if_pos g, w64 (by omega) (by omega)]
  · rw [decide_eq_false g, if_neg (by simp), if_neg g]
theorem eS (a : List Int) (hb : a.length ≤ 100) (k : Nat) (hk : 500 < k) : laws_eSame.f k a a = some true := by
  unfold laws_eSame.f
  rw [if_pos rfl]
  exact eSame_l0 a (by omega) a.length k 0 (by omega) (by omega)
theorem eL_l0 (a : List S102) (hb : a.length ≤ 101) : ∀ (d k i : Nat), i + d = a.length → d < k → laws_eLevels.l0 k a a (a.length : Int) (i : Int) = some true
  | 0, 0, i, _, h => by omega
  | 0, k + 1, i, hi, _ => by simp only [laws_eLevels.l0]; rw [if_neg (by omega)]
  | d + 1, 0, i, _, h => by omega
  | d + 1, k + 1, i, hi, hk => by
    simp only [laws_eLevels.l0]
    rw [if_pos (by omega), if_pos (by omega), if_pos (by omega), if_pos (by omega), if_neg (by simp), w64 (by omega) (by omega), show ((i : Int) + 1) = ((i + 1 : Nat) : Int) by omega]
    exact eL_l0 a hb d k (i + 1) (by omega) (by omega)
theorem eL (a : List S102) (hb : a.length ≤ 101) (k : Nat) (hk : 500 < k) : laws_eLevels.f k a a = some true := by
  unfold laws_eLevels.f
  rw [if_pos rfl]
  exact eL_l0 a (by omega) a.length k 0 (by omega) (by omega)
/-- the water in all -/
theorem rn_sum {a b c d : Int} : ∀ (l : List Int) (h : Int) (r : Bool), LV a b c d h → (∀ x ∈ l, 0 ≤ x ∧ x ≤ 60) →
    sm l = sm ((rn a b c d h r l).map (·.2.1)) + sm ((rn a b c d h r l).map (·.2.2)) + (rd_T102 (⟨h, r⟩ :: (rn a b c d h r l).map (·.1)) (l.length : Int)).f0 - h
  | [], h, r, _, _ => by simp [rn, sm, rd_T102]
  | x :: l, h, r, g, hx => by
    have t := tk_ok r g (hx x (List.mem_cons_self ..))
    have ih := rn_sum l (tk a b c d h r x).1 (tk a b c d h r x).2.1 ⟨g.1, t.1⟩ (fun y hy => hx y (List.mem_cons_of_mem _ hy))
    have e : ∀ (x : Int) (l : List Int), sm (x :: l) = x + sm l := fun _ _ => rfl
    have e2 : ∀ (y : S102) (L : List S102) (n : Nat), rd_T102 (y :: L) ((n + 1 : Nat) : Int) = rd_T102 L (n : Int) := fun y L n => by unfold rd_T102; simp
    simp only [rn, List.map_cons, List.length_cons, e2, e]
    omega
/-- with no water in, all above the lower end runs out -/
theorem rn_dry {a b c d : Int} : ∀ (n : Nat) (h : Int) (r : Bool), LV a b c d h → b ≤ h → (h > b → r = true) → h - b ≤ n → sm ((rn a b c d h r (List.replicate n 0)).map (·.2.1)) = h - b
  | 0, h, r, g, h0, hr, hn => by simp [rn, sm]; omega
  | n + 1, h, r, g, h0, hr, hn => by
    obtain ⟨⟨⟨a1, a2⟩, b1, c1, c2, d1, d2⟩, h1, h2⟩ := g
    have s0 : mx 0 (h + 0 - a) = 0 := by unfold mx; rw [if_neg (by omega)]
    have e : ∀ (x : Int) (l : List Int), sm (x :: l) = x + sm l := fun _ _ => rfl
    rw [List.replicate_succ]
    simp only [rn, List.map_cons, e]
    by_cases q : h > b
    · have o0 : 1 ≤ mn d (mx 0 (h - b)) ∧ mn d (mx 0 (h - b)) ≤ h - b := by unfold mn mx; split <;> split <;> omega
      have t : tk a b c d h r 0 = (h - mn d (mx 0 (h - b)), decide (h - mn d (mx 0 (h - b)) > b), mn d (mx 0 (h - b)), 0) := by
        unfold tk tk2; rw [s0, if_pos (Or.inl (hr q))]; simp
      generalize mn d (mx 0 (h - b)) = o at o0 t
      rw [t]; simp only []
      rw [rn_dry n (h - o) (decide (h - o > b)) ⟨⟨⟨a1, a2⟩, b1, c1, c2, d1, d2⟩, by omega, by omega⟩ (by omega) (fun q => decide_eq_true q) (by omega)]
      omega
    · have : h = b := by omega
      subst this
      have t : ∃ r', tk a h c d h r 0 = (h, r', 0, 0) ∧ (h > h → r' = true) := by
        unfold tk tk2; rw [s0]
        by_cases q2 : r = true ∨ h + 0 - 0 ≥ c
        · rw [if_pos q2]
          have : mn d (mx 0 (h + 0 - 0 - h)) = 0 := by unfold mn mx; split <;> split <;> omega
          rw [this]; exact ⟨false, by simp, fun z => by omega⟩
        · rw [if_neg q2]; exact ⟨false, by simp, fun z => by omega⟩
      obtain ⟨r', t, hr'⟩ := t
      rw [t]; simp only []
      rw [rn_dry n h r' ⟨⟨⟨a1, a2⟩, b1, c1, c2, d1, d2⟩, by omega, by omega⟩ (by omega) hr' (by omega)]
      omega
theorem cap_sum {a b c d : Int} (g : SG a b c d) : sm ((rn a b c d 0 false (c :: List.replicate 60 0)).map (·.2.1)) = c - b := by
  obtain ⟨⟨a1, a2⟩, b1, c1, c2, d1, d2⟩ := g
  have e : ∀ (x : Int) (l : List Int), sm (x :: l) = x + sm l := fun _ _ => rfl
  have s0 : mx 0 (0 + c - a) = 0 := by unfold mx; rw [if_neg (by omega)]
  have o0 : 1 ≤ mn d (mx 0 (c - b)) ∧ mn d (mx 0 (c - b)) ≤ c - b := by unfold mn mx; split <;> split <;> omega
  have t : tk a b c d 0 false c = (c - mn d (mx 0 (c - b)), decide (c - mn d (mx 0 (c - b)) > b), mn d (mx 0 (c - b)), 0) := by
    unfold tk tk2; rw [s0, if_pos (Or.inr (by omega))]; simp
  generalize mn d (mx 0 (c - b)) = o at o0 t
  simp only [rn, List.map_cons, e]
  rw [t]; simp only []
  rw [rn_dry 60 (c - o) (decide (c - o > b)) ⟨⟨⟨a1, a2⟩, b1, c1, c2, d1, d2⟩, by omega, by omega⟩ (by omega) (fun q => decide_eq_true q) (by omega)]
  omega
end Go.Proofs.Ytmlkdkeocbhajaa.PuB
