/- Plain functions and what they come to. -/
import Derived.Test.YtigpkicbigpilaaTdPuMax
namespace Go.Proofs.Ytigpkicbigpilaa.PuB
open Go.RowKit Go.Proofs.Ytigpkicbigpilaa.V Go.Proofs.YtigpkicbigpilaaW.PrintWords Go.Proofs.YtigpkicbigpilaaW.PrintLast Go.Proofs.YtigpkicbigpilaaW.PrintMore Go.Proofs.Ytigpkicbigpilaa Go.Proofs.Ytigpkicbigpilaa.PuB
set_option linter.unusedVariables false
set_option linter.unusedSimpArgs false
theorem cmp_f (a b : Int) : cmp_Compare_int.f a b = some (if a < b then -1 else if a > b then 1 else 0) := by
  unfold cmp_Compare_int.f cmp_isNaN_int.f
  simp only [Option.bind_some, bne_self_eq_false]
  rw [if_neg (by decide), if_neg (by decide)]
  split
  · rfl
  · split <;> rfl
theorem cmp_l0 (a b : List Int) (hl : a.length = b.length) (hb : a.length ≤ 1000) : ∀ (d i : Nat), i + d = a.length → ∃ t, Ev (fun k => slices_Compare_int_int.l0 k a b a (a.length : Int) (i : Int)) t ∧ (t < 0 ↔ lx (a.drop i) (b.drop i) = true) := by
  intro d
  induction d with
  | zero =>
    intro i hi
    refine ⟨0, Ev.succ ?_, ?_⟩
    · simp only [slices_Compare_int_int.l0]
      exact Ev.neg (by omega) (Ev.neg (by omega) (Ev.const rfl))
    · rw [List.drop_eq_nil_of_le (by omega)]
      simp [lx]
  | succ d ih =>
    intro i hi
    obtain ⟨t, E, ht⟩ := ih (i + 1) (by omega)
    rw [drop_rd a i (by omega), drop_rd b i (by omega)]
    by_cases e : rd a (i : Int) = rd b (i : Int)
    · refine ⟨t, Ev.succ ?_, by simp only [lx]; rw [if_pos e]; exact ht⟩
      simp only [slices_Compare_int_int.l0]
      refine Ev.pos (by omega) (Ev.pos (by omega) (Ev.pos (by omega) (Ev.neg (by omega) (Ev.pos (by omega) ?_))))
      rw [cmp_f, e, if_neg (by omega), if_neg (by omega)]
      simp only [Option.bind_some, if_true]
      rw [w64 (by omega) (by omega)]
      exact_mod_cast E
    · refine ⟨if rd a (i : Int) < rd b (i : Int) then -1 else 1, Ev.succ ?_, ?_⟩
      · simp only [slices_Compare_int_int.l0]
        refine Ev.pos (by omega) (Ev.pos (by omega) (Ev.pos (by omega) (Ev.neg (by omega) (Ev.pos (by omega) ?_))))
        rw [cmp_f]
        simp only [Option.bind_some]
        by_cases c : rd a (i : Int) < rd b (i : Int)
        · rw [if_pos c]
          exact Ev.neg (by omega) (Ev.const (by rw [if_pos c]))
        · rw [if_neg c, if_pos (by omega)]
          exact Ev.neg (by omega) (Ev.const (by rw [if_neg c]))
      · simp only [lx]
        rw [if_neg e]
        by_cases c : rd a (i : Int) < rd b (i : Int)
        · rw [if_pos c]; simp [c]
        · rw [if_neg c]; simp [c]
theorem cmp_ev (a b : List Int) (hl : a.length = b.length) (hb : a.length ≤ 1000) : ∃ t, Ev (fun k => slices_Compare_int_int.f k a b) t ∧ (t < 0 ↔ lx a b = true) := by
  unfold slices_Compare_int_int.f
  exact cmp_l0 a b hl hb a.length 0 (by omega)
theorem nodup_idx {α : Type} {l : List α} (h : l.Nodup) {i j : Nat} (hi : i < l.length) (hj : j < l.length) (e : l[i] = l[j]) : i = j := by
  rcases Nat.lt_trichotomy i j with c | c | c
  · exact absurd e ((List.pairwise_iff_getElem.1 h) i j hi hj c)
  · exact c
  · exact absurd e.symm ((List.pairwise_iff_getElem.1 h) j i hj hi c)
end Go.Proofs.Ytigpkicbigpilaa.PuB
