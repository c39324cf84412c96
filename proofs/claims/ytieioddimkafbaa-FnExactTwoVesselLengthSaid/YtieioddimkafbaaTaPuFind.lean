/- Plain functions and what they come to. -/
import Derived.Test.YtieioddimkafbaaTaPuLaw2
import Derived.Test.YtieioddimkafbaaTaVreF
namespace Go.Proofs.Ytieioddimkafbaa.PuB
open Go.RowKit Go.Proofs.Ytieioddimkafbaa.V Go.Proofs.YtieioddimkafbaaW.PrintWords Go.Proofs.YtieioddimkafbaaW.PrintLast Go.Proofs.YtieioddimkafbaaW.PrintMore Go.Proofs.Ytieioddimkafbaa Go.Proofs.Ytieioddimkafbaa.PuB
set_option linter.unusedVariables false
set_option linter.unusedSimpArgs false
theorem szV2 (S H S' H' : List Int) (h : S.length ≤ 9223372036854775807) (h' : H.length ≤ 9223372036854775807) (g : S'.length ≤ 9223372036854775807) (g' : H'.length ≤ 9223372036854775807) : ∃ r, laws_szVessels.f S H 1048576 = some r ∧ (r < 0 ∨ (0 ≤ r ∧ S.length ≤ 1048576 ∧ H.length ≤ 1048576 ∧ ∃ q, laws_szVessels.f S' H' r = some q ∧ (q < 0 ∨ (0 ≤ q ∧ S'.length ≤ 1048576 ∧ H'.length ≤ 1048576)))) := by
  have one : ∀ (S H : List Int) (a : Int), S.length ≤ 9223372036854775807 → H.length ≤ 9223372036854775807 → 0 ≤ a → a ≤ 1048576 → ∃ r, laws_szVessels.f S H a = some r ∧ (r < 0 ∨ (0 ≤ r ∧ r ≤ 1048576 ∧ S.length ≤ 1048576 ∧ H.length ≤ 1048576)) := by
    intro S H a h h' h0 h1
    unfold laws_szVessels.f
    rw [szI_f S a h h0 h1]; simp only [Option.bind_some]
    by_cases c : (S.length : Int) ≤ a
    · rw [if_pos c, if_neg (by omega), szI_f H _ h' (by omega) (by omega)]; simp only [Option.bind_some]
      by_cases c' : (H.length : Int) ≤ a - S.length
      · rw [if_pos c', if_neg (by omega)]; exact ⟨_, rfl, Or.inr ⟨by omega, by omega, by omega, by omega⟩⟩
      · rw [if_neg c']; exact ⟨_, rfl, Or.inl (by omega)⟩
    · rw [if_neg c]; exact ⟨_, rfl, Or.inl (by omega)⟩
  obtain ⟨r, hr, hc⟩ := one S H 1048576 h h' (by omega) (by omega)
  refine ⟨r, hr, ?_⟩
  rcases hc with hc | ⟨c0, c1, c2, c3⟩
  · exact .inl hc
  · obtain ⟨q, hq, hc⟩ := one S' H' r g g' c0 c1
    exact .inr ⟨c0, c2, c3, q, hq, by rcases hc with hc | hc; exact .inl hc; exact .inr ⟨hc.1, hc.2.2.1, hc.2.2.2⟩⟩
end Go.Proofs.Ytieioddimkafbaa.PuB
