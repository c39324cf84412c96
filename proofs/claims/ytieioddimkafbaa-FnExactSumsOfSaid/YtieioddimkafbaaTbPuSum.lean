/- Plain functions and what they come to. -/
import Derived.Test.YtieioddimkafbaaTbPuNums
namespace Go.Proofs.Ytieioddimkafbaa.PuB
open Go.RowKit Go.Proofs.Ytieioddimkafbaa.V Go.Proofs.YtieioddimkafbaaW.PrintWords Go.Proofs.YtieioddimkafbaaW.PrintLast Go.Proofs.YtieioddimkafbaaW.PrintMore Go.Proofs.Ytieioddimkafbaa Go.Proofs.Ytieioddimkafbaa.PuB
set_option linter.unusedVariables false
set_option linter.unusedSimpArgs false
theorem held_bd {S h : List Int} (F : VFacts S h) : ∀ x ∈ h, 0 ≤ x ∧ x ≤ 60 := by
  intro x hx
  obtain ⟨j, hj, rfl⟩ := List.getElem_of_mem hx
  have he := F.he
  have h1 := F.sz j (by omega)
  have h2 := F.ht j (by omega)
  have : rd h (j : Int) = h[j] := by rw [rd_getD, getD_get _ _ _ hj]
  rw [this] at h2
  omega
theorem drop_hs (hs : List (List Int)) (i : Nat) (h : i < hs.length) : hs.drop i = hs.getD i [] :: hs.drop (i + 1) := by
  rw [getD_get _ _ _ h]; exact List.drop_eq_getElem_cons h
theorem mem_getD (hs : List (List Int)) (i : Nat) (h : i < hs.length) : hs.getD i [] ∈ hs := by rw [getD_get _ _ _ h]; exact List.getElem_mem h
theorem flat_len : ∀ (hs : List (List Int)) (n : Nat), (∀ h ∈ hs, h.length ≤ n) → hs.flatten.length ≤ hs.length * n
  | [], n, _ => by simp
  | h :: t, n, H => by
    have := flat_len t n fun x hx => H x (List.mem_cons_of_mem _ hx)
    have := H h (List.mem_cons_self ..)
    rw [List.flatten_cons, List.length_append, List.length_cons, Nat.add_mul]; omega
end Go.Proofs.Ytieioddimkafbaa.PuB
