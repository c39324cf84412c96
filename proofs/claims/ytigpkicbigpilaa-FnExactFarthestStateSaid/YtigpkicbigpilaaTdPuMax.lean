/- Plain functions and what they come to. -/
import Derived.Test.YtigpkicbigpilaaTdPuLaw2
import Derived.Test.YtigpkicbigpilaaTdViM
namespace Go.Proofs.Ytigpkicbigpilaa.PuB
open Go.RowKit Go.Proofs.Ytigpkicbigpilaa.V Go.Proofs.YtigpkicbigpilaaW.PrintWords Go.Proofs.YtigpkicbigpilaaW.PrintLast Go.Proofs.YtigpkicbigpilaaW.PrintMore Go.Proofs.Ytigpkicbigpilaa Go.Proofs.Ytigpkicbigpilaa.PuB
set_option linter.unusedVariables false
set_option linter.unusedSimpArgs false
/-- The greatest of a list that does not fall is its last. -/
theorem max_l0 (x : List Int) (hb : x.length ≤ 10000) (hm : ∀ i j : Nat, i ≤ j → j < x.length → x.getD i 0 ≤ x.getD j 0) : ∀ (d i : Nat), i + d = x.length → 1 ≤ i → Ev (fun k => slices_Max_int_int.l0 k x (x.getD (i - 1) 0) (i : Int)) (x.getD (x.length - 1) 0) := by
  intro d
  induction d with
  | zero =>
    intro i hi h1
    refine Ev.succ ?_
    simp only [slices_Max_int_int.l0]
    refine Ev.neg (by omega) (Ev.const ?_)
    rw [show i = x.length by omega]
  | succ d ih =>
    intro i hi h1
    refine Ev.succ ?_
    simp only [slices_Max_int_int.l0]
    refine Ev.pos (by omega) (Ev.pos (by omega) ?_)
    have e : mx (x.getD (i - 1) 0) (rd x (i : Int)) = x.getD (i + 1 - 1) 0 := by
      have := hm (i - 1) i (by omega) (by omega)
      rw [rd_getD]
      unfold mx
      rw [show i + 1 - 1 = i by omega]
      split <;> omega
    rw [e, w64 (by omega) (by omega)]
    have := ih (i + 1) (by omega) (by omega)
    exact_mod_cast this
theorem max_ev (x : List Int) (h0 : 0 < x.length) (hb : x.length ≤ 10000) (hm : ∀ i j : Nat, i ≤ j → j < x.length → x.getD i 0 ≤ x.getD j 0) : Ev (fun k => slices_Max_int_int.f k x) (x.getD (x.length - 1) 0) := by
  unfold slices_Max_int_int.f
  refine Ev.neg (by omega) (Ev.succ ?_)
  simp only [slices_Max_int_int.j0]
  refine Ev.pos (by omega) ?_
  have := max_l0 x hb hm (x.length - 1) 1 (by omega) (by omega)
  rw [show rd x 0 = x.getD (1 - 1) 0 from rd_getD x 0]
  exact this
end Go.Proofs.Ytigpkicbigpilaa.PuB
