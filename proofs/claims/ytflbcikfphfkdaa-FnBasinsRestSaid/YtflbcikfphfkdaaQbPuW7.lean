/- Plain functions and what they come to. -/
import Derived.Test.YtflbcikfphfkdaaQbPuW5
import Derived.Test.YtflbcikfphfkdaaQbPuW6
namespace Go.Proofs.Ytflbcikfphfkdaa.PuB
open Go.RowKit Go.Proofs.Ytflbcikfphfkdaa.R Go.Proofs.YtflbcikfphfkdaaW.PrintLast Go.Proofs.YtflbcikfphfkdaaW.PrintMore
open Go.Proofs.YtflbcikfphfkdaaW.PrintWords hiding Ev
set_option linter.unusedVariables false
set_option linter.unusedSimpArgs false
theorem hSame_l0 (a : List Int) (hb : a.length ≤ 1000) : ∀ (d k i : Nat), i + d = a.length → d < k → laws_hSame.l0 k a a (a.length : Int) (i : Int) = some true
  | 0, 0, i, _, h => by omega
  | 0, k + 1, i, hi, _ => by simp only [laws_hSame.l0]; rw [if_neg (by omega)]
  | d + 1, 0, i, _, h => by omega
  | d + 1, k + 1, i, hi, hk => by
    simp only [laws_hSame.l0]
    rw [if_pos (by omega), if_pos (by omega), if_pos (by omega), if_pos (by omega), if_pos trivial, nx1 i (by omega)]
    exact hSame_l0 a hb d k (i + 1) (by omega) (by omega)
theorem hSame_f (k : Nat) (a : List Int) (hb : a.length ≤ 1000) (hk : 1000 < k) : laws_hSame.f k a a = some true := by
  unfold laws_hSame.f
  rw [if_pos rfl]
  exact hSame_l0 a hb a.length k 0 (by omega) (by omega)
theorem hBas_l0 (a : List S30) (hb : a.length ≤ 1000) : ∀ (d k i : Nat), i + d = a.length → d < k → laws_hBasins.l0 k a a (a.length : Int) (i : Int) = some true
  | 0, 0, i, _, h => by omega
  | 0, k + 1, i, hi, _ => by simp only [laws_hBasins.l0]; rw [if_neg (by omega)]
  | d + 1, 0, i, _, h => by omega
  | d + 1, k + 1, i, hi, hk => by
    simp only [laws_hBasins.l0]
    rw [if_pos (by omega), if_pos (by omega), if_pos (by omega), if_pos (by omega), if_neg (by simp), nx1 i (by omega)]
    exact hBas_l0 a hb d k (i + 1) (by omega) (by omega)
theorem hBas_f (k : Nat) (a : List S30) (hb : a.length ≤ 1000) (hk : 1000 < k) : laws_hBasins.f k a a = some true := by
  unfold laws_hBasins.f
  rw [if_pos rfl]
  exact hBas_l0 a hb a.length k 0 (by omega) (by omega)
end Go.Proofs.Ytflbcikfphfkdaa.PuB
