/- Plain functions and what they come to. -/
import Derived.Test.YtflbcikfphfkdaaQbPuW4
namespace Go.Proofs.Ytflbcikfphfkdaa.PuB
open Go.RowKit Go.Proofs.Ytflbcikfphfkdaa.R Go.Proofs.YtflbcikfphfkdaaW.PrintLast Go.Proofs.YtflbcikfphfkdaaW.PrintMore
open Go.Proofs.YtflbcikfphfkdaaW.PrintWords hiding Ev
set_option linter.unusedVariables false
set_option linter.unusedSimpArgs false
theorem along_l0 (L : List (List S30)) (x : Nat) (hL : L.length ≤ 1000) : ∀ (r : List (List S30)) (a : List Int) (i k : Nat), L.drop i = r → a.length ≤ i → (∀ s ∈ r, x < s.length) → r.length < k →
    impl_HeldAlong.l0 k (x : Int) a L (L.length : Int) (i : Int) = some (a ++ r.map (fun t => (rd_T30 t (x : Int)).f2), true)
  | r, a, i, 0, _, _, _, hk => by omega
  | [], a, i, k + 1, e, _, _, _ => by
    have := dropn e
    simp only [impl_HeldAlong.l0]; rw [if_neg (by omega)]; simp
  | s :: r, a, i, k + 1, e, ha, hs, hk => by
    obtain ⟨e1, e2, e3⟩ := dropc e
    have q := hs s (List.mem_cons_self ..)
    simp only [impl_HeldAlong.l0]
    rw [if_pos (by omega), if_pos (by omega), if_pos (by omega), rd3_nat, e2, if_pos (by omega), if_pos (by omega), if_pos (by omega), nx1 i (by omega), along_l0 L x hL r _ (i + 1) k e3 (by simp; omega) (fun z hz => hs z (List.mem_cons_of_mem _ hz)) (by simpa using hk)]
    simp
theorem AlongI (k : Nat) (row : List S30) (i : Int) (l : List Int) (hr : row.length ≤ 1000) (hk : 2000 < k) : impl_HeldAlong.f k row i l = some (aAlong row i l) := by
  unfold impl_HeldAlong.f impl_isBasinOf.f aAlong
  rw [row_impl, Option.bind_some]
  by_cases h : ROk row
  · rw [if_pos (decide_eq_true h), fl_impl, Option.bind_some]
    by_cases g : FOk l
    · rw [if_pos (decide_eq_true g), w64 (by omega) (by omega), in_impl, Option.bind_some, Option.bind_some]
      by_cases q : 0 ≤ i ∧ i ≤ (row.length : Int) - 1
      · obtain ⟨j, rfl⟩ : ∃ j : Nat, i = (j : Int) := ⟨i.toNat, by omega⟩
        have h60 := g.1
        rw [if_pos (decide_eq_true q), run_impl k h g hk, Option.bind_some, if_pos (show 1 ≤ (((row :: (rnR row l).map (·.1)).length : Nat) : Int) by simp; omega), Option.bind_some, if_pos (show (ROk row ∧ FOk l) ∧ (0 ≤ (j : Int) ∧ (j : Int) ≤ (row.length : Int) - 1) from ⟨⟨h, g⟩, q⟩)]
        have := along_l0 ((rnR row l).map (·.1)) j (by simp [rnR_len]; omega) ((rnR row l).map (·.1)) [] 0 k rfl (by simp) (fun s hs => by
          obtain ⟨t, ht, rfl⟩ := List.mem_map.mp hs
          rw [(rnR_all l row h.2 h.1.2 g.2 t ht).2.1]; omega) (by simp [rnR_len]; omega)
        simp only [List.nil_append, List.map_map] at this
        exact this
      · rw [if_neg (by simp only [decide_eq_true_eq]; exact q), if_neg (fun z => q z.2)]
    · rw [if_neg (by simp only [decide_eq_true_eq]; exact g), Option.bind_some, if_neg (by simp), if_neg (fun q => g q.1.2)]
  · rw [if_neg (by simp only [decide_eq_true_eq]; exact h), Option.bind_some, if_neg (by simp), if_neg (fun q => h q.1.1)]
end Go.Proofs.Ytflbcikfphfkdaa.PuB
