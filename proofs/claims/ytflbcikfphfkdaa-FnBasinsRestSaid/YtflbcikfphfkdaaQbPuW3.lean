/- Plain functions and what they come to. -/
import Derived.Test.YtflbcikfphfkdaaQbPuW2
namespace Go.Proofs.Ytflbcikfphfkdaa.PuB
open Go.RowKit Go.Proofs.Ytflbcikfphfkdaa.R Go.Proofs.YtflbcikfphfkdaaW.PrintLast Go.Proofs.YtflbcikfphfkdaaW.PrintMore
open Go.Proofs.YtflbcikfphfkdaaW.PrintWords hiding Ev
set_option linter.unusedVariables false
set_option linter.unusedSimpArgs false
theorem FOk.dropm {l : List Int} (h : FOk l) {r : List Int} {i : Nat} (e : l.drop i = r) : ∀ x ∈ r, 0 ≤ x ∧ x ≤ 1000 := fun x hx => h.2 x (List.mem_of_mem_drop (e ▸ hx))
theorem hldb {row : List S30} (h : AllB row) (hn : row.length ≤ 6) : 0 ≤ hld row ∧ hld row ≤ 6000 := by have := hld_le row h; omega
theorem run_l0 (l : List Int) (hl : FOk l) : ∀ (r : List Int) (row : List S30) (A : List (List S30)) (B : List (List Int)) (C : List Int) (i k : Nat), l.drop i = r → AllB row → row.length ≤ 6 → A.length ≤ i + 1 → B.length ≤ i → C.length ≤ i → r.length + 1500 < k →
    impl_runRow.l0 k l (l.length : Int) (i : Int) row A B C = some (A ++ (rnR row r).map (·.1), B ++ (rnR row r).map (·.2.1), C ++ (rnR row r).map (·.2.2))
  | r, row, A, B, C, i, 0, _, _, _, _, _, _, hk => by omega
  | [], row, A, B, C, i, k + 1, e, _, _, _, _, _, _ => by
    have := dropn e
    simp only [impl_runRow.l0]; rw [if_neg (by omega)]; simp [rnR]
  | f :: r, row, A, B, C, i, k + 1, e, h, hn, hA, hB, hC, hk => by
    obtain ⟨e1, e2, e3⟩ := dropc e
    have hf := hl.dropm e f (List.mem_cons_self ..)
    have h60 := hl.1
    have hh := hldb h hn
    have t := tkR_ok row f h hf.1
    simp only [List.length_cons] at hk
    simp only [impl_runRow.l0]
    rw [if_pos (by omega), if_pos (by omega), if_pos (by omega), rd_nat, e2, tick_impl k row f (by omega) h hf.1 (by omega) (by omega), Option.bind_some]
    unfold impl_Basin_63.f
    rw [if_pos (by rw [t.2.1]; omega), Option.bind_some, Option.bind_some, if_pos (by simp; omega), Option.bind_some, if_pos (by simp; omega), Option.bind_some, if_pos (by simp; omega), nx1 i (by omega),
      run_l0 l hl r _ _ _ _ (i + 1) k e3 t.1 (by rw [t.2.1]; exact hn) (by simp; omega) (by simp; omega) (by simp; omega) (by omega)]
    simp [rnR]
theorem run_impl (k : Nat) {row : List S30} {l : List Int} (h : ROk row) (hl : FOk l) (hk : 2000 < k) : impl_runRow.f k row l = some (row :: (rnR row l).map (·.1), (rnR row l).map (·.2.1), (rnR row l).map (·.2.2)) := by
  have h60 := hl.1
  have h6 := h.1.2
  unfold impl_runRow.f impl_Basin_63.f
  rw [if_pos (by omega), Option.bind_some, Option.bind_some]
  have := run_l0 l hl l row [row] [] [] 0 k rfl h.2 h6 (by simp) (by simp) (by simp) (by omega)
  simpa using this
theorem go_l0 (l : List Int) (hl : FOk l) : ∀ (r : List Int) (row : List S30) (A : List Int) (B : List (List Int)) (C : List (List S30)) (i k : Nat), l.drop i = r → AllB row → row.length ≤ 6 → A.length ≤ i → B.length ≤ i → C.length ≤ i → r.length + 1500 < k →
    spec_weGo.l0 k l (l.length : Int) (i : Int) A row B C = some (A ++ (rnR row r).map (·.2.2), endR row r, B ++ (rnR row r).map (·.2.1), C ++ (rnR row r).map (·.1))
  | r, row, A, B, C, i, 0, _, _, _, _, _, _, hk => by omega
  | [], row, A, B, C, i, k + 1, e, _, _, _, _, _, _ => by
    have := dropn e
    simp only [spec_weGo.l0]; rw [if_neg (by omega)]; simp [rnR, endR]
  | f :: r, row, A, B, C, i, k + 1, e, h, hn, hA, hB, hC, hk => by
    obtain ⟨e1, e2, e3⟩ := dropc e
    have hf := hl.dropm e f (List.mem_cons_self ..)
    have h60 := hl.1
    have hh := hldb h hn
    have t := tkR_ok row f h hf.1
    simp only [List.length_cons] at hk
    simp only [spec_weGo.l0]
    rw [if_pos (by omega), if_pos (by omega), if_pos (by omega), rd_nat, e2, tick_spec k row f (by omega) h hf.1 (by omega) (by omega), Option.bind_some]
    unfold impl_Basin_63.f
    rw [if_pos (by rw [t.2.1]; omega), Option.bind_some, if_pos (by omega), if_pos (by omega), if_pos (by omega), nx1 i (by omega),
      go_l0 l hl r _ _ _ _ (i + 1) k e3 t.1 (by rw [t.2.1]; exact hn) (by simp; omega) (by simp; omega) (by simp; omega) (by omega)]
    simp [rnR, endR]
theorem go_spec (k : Nat) {row : List S30} {l : List Int} (h : ROk row) (hl : FOk l) (hk : 2000 < k) : spec_weGo.f k row l = some ((rnR row l).map (·.2.2), endR row l, (rnR row l).map (·.2.1), (rnR row l).map (·.1)) := by
  have h60 := hl.1
  have h6 := h.1.2
  unfold spec_weGo.f
  rw [Option.bind_some, if_pos (by simp; omega)]
  have := go_l0 l hl l row [] [] [] 0 k rfl h.2 h6 (by simp) (by simp) (by simp) (by omega)
  simpa using this
def aEnd (row : List S30) (l : List Int) : List S30 × Bool := if ROk row ∧ FOk l then (endR row l, true) else ([], false)
def aSpl (row : List S30) (l : List Int) : List Int × Bool := if ROk row ∧ FOk l then (splA (List.replicate row.length 0) ((rnR row l).map (·.2.1)), true) else ([], false)
def aHeld (row : List S30) : Int × Bool := if ROk row then (hld row, true) else (0, false)
def aTick (row : List S30) (f : Int) : List S30 × Int × Bool := if ROk row ∧ (0 ≤ f ∧ f ≤ 1000) then ((tkR row f).1, (tkR row f).2.2, true) else ([], 0, false)
def aAlong (row : List S30) (i : Int) (l : List Int) : List Int × Bool := if (ROk row ∧ FOk l) ∧ (0 ≤ i ∧ i ≤ (row.length : Int) - 1) then ((rnR row l).map (fun t => (rd_T30 t.1 i).f2), true) else ([], false)
theorem rows_last (row : List S30) (l : List Int) : (row :: (rnR row l).map (·.1)).getD l.length [] = endR row l := by
  induction l generalizing row with
  | nil => rfl
  | cons f l ih =>
    simp only [rnR, List.map_cons, List.length_cons, List.getD_cons_succ, endR]
    exact ih _
theorem EndI (k : Nat) (row : List S30) (l : List Int) (hk : 2000 < k) : impl_RowAfter.f k row l = some (aEnd row l) := by
  unfold impl_RowAfter.f aEnd
  rw [row_impl, Option.bind_some]
  by_cases h : ROk row
  · rw [if_pos (decide_eq_true h), fl_impl, Option.bind_some]
    by_cases g : FOk l
    · rw [if_pos (decide_eq_true g), run_impl k h g hk, Option.bind_some, if_pos (show ROk row ∧ FOk l from ⟨h, g⟩), if_pos (show (0 : Int) ≤ (l.length : Int) by omega), if_pos (show (l.length : Int) < ((row :: (rnR row l).map (·.1)).length : Int) by rw [List.length_cons, List.length_map, rnR_len]; omega), rd3_nat, rows_last]
    · rw [if_neg (by simp only [decide_eq_true_eq]; exact g), if_neg (fun q => g q.2)]
  · rw [if_neg (by simp only [decide_eq_true_eq]; exact h), if_neg (fun q => h q.1)]
theorem held_l0 (F : Nat → Int → List S30 → Int → Int → Option Int) (hF : ∀ k s l n i, F (k + 1) s l n i = if i < n then (if 0 ≤ i then (if i < (l.length : Int) then F k (wrap64 (s + (rd_T30 l i).f2)) l n (wrap64 (i + 1)) else none) else none) else some s)
    (l : List S30) (hl : l.length ≤ 1000) : ∀ (r : List S30) (s : Int) (i k : Nat), l.drop i = r → AllB r → 0 ≤ s → s + hld r ≤ 1000000 → r.length < k → F k s l (l.length : Int) (i : Int) = some (s + hld r)
  | r, s, i, 0, _, _, _, _, hk => by omega
  | [], s, i, k + 1, e, _, _, _, _ => by
    have := dropn e
    rw [hF, if_neg (by omega)]; simp
  | b :: r, s, i, k + 1, e, h, h0, h1, hk => by
    obtain ⟨e1, e2, e3⟩ := dropc e
    have hb := (h b (List.mem_cons_self ..)).2.2
    have hr : AllB r := fun y hy => h y (List.mem_cons_of_mem _ hy)
    have hl' := (hld_le r hr).1
    simp only [hld_cons] at h1
    rw [hF, if_pos (by omega), if_pos (by omega), if_pos (by omega), rdT_nat, e2, w64 (x := s + b.f2) (by omega) (by omega), nx1 i (by omega), held_l0 F hF l hl r _ (i + 1) k e3 hr (by omega) (by omega) (by simpa using hk)]
    congr 1; simp only [hld_cons]; omega
theorem heldI (k : Nat) {row : List S30} (h : AllB row) (hn : row.length ≤ 6) (hk : 1000 < k) : impl_heldIn.f k row = some (hld row) := by
  have := hldb h hn
  unfold impl_heldIn.f
  have q := held_l0 impl_heldIn.l0 (fun k s l n i => by simp only [impl_heldIn.l0]) row (by omega) row 0 0 k rfl h (by omega) (by omega) (by omega)
  simpa using q
theorem heldS (k : Nat) {row : List S30} (h : AllB row) (hn : row.length ≤ 6) (hk : 1000 < k) : spec_weHeld.f k row = some (hld row) := by
  have := hldb h hn
  unfold spec_weHeld.f
  have q := held_l0 spec_weHeld.l0 (fun k s l n i => by simp only [spec_weHeld.l0]) row (by omega) row 0 0 k rfl h (by omega) (by omega) (by omega)
  simpa using q
theorem HeldI (k : Nat) (row : List S30) (hk : 1000 < k) : impl_HeldInRow.f k row = some (aHeld row) := by
  unfold impl_HeldInRow.f aHeld
  rw [row_impl, Option.bind_some]
  by_cases h : ROk row
  · rw [if_pos (decide_eq_true h), heldI k h.2 h.1.2 hk, Option.bind_some, if_pos h]
  · rw [if_neg (by simp only [decide_eq_true_eq]; exact h), if_neg h]
theorem TickI (k : Nat) (row : List S30) (f : Int) (hk : 1000 < k) : impl_TickRow.f k row f = some (aTick row f) := by
  unfold impl_TickRow.f aTick
  rw [row_impl, Option.bind_some]
  by_cases h : ROk row
  · rw [if_pos (decide_eq_true h), in_impl, Option.bind_some]
    by_cases g : 0 ≤ f ∧ f ≤ 1000
    · have := hldb h.2 h.1.2
      have := h.1.2
      rw [if_pos (decide_eq_true g), tick_impl k row f (by omega) h.2 g.1 (by omega) hk, Option.bind_some, if_pos ⟨h, g⟩]
    · rw [if_neg (by simp only [decide_eq_true_eq]; exact g), if_neg (fun q => g q.2)]
  · rw [if_neg (by simp only [decide_eq_true_eq]; exact h), if_neg (fun q => h q.1)]
end Go.Proofs.Ytflbcikfphfkdaa.PuB
