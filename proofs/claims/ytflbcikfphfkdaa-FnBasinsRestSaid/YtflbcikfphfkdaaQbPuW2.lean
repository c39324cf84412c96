/- Plain functions and what they come to. -/
import Derived.Test.YtflbcikfphfkdaaQbPuW1
namespace Go.Proofs.Ytflbcikfphfkdaa.PuB
open Go.RowKit Go.Proofs.Ytflbcikfphfkdaa.R Go.Proofs.YtflbcikfphfkdaaW.PrintLast Go.Proofs.YtflbcikfphfkdaaW.PrintMore
open Go.Proofs.YtflbcikfphfkdaaW.PrintWords hiding Ev
set_option linter.unusedVariables false
set_option linter.unusedSimpArgs false
theorem dropc {α : Type} {l : List α} {i : Nat} {x : α} {r : List α} (h : l.drop i = x :: r) : i < l.length ∧ (∀ z, l.getD i z = x) ∧ l.drop (i + 1) = r := by
  have hi : i < l.length := by
    rcases Nat.lt_or_ge i l.length with h' | h'
    · exact h'
    · rw [List.drop_of_length_le h'] at h; cases h
  rw [List.drop_eq_getElem_cons hi] at h
  injection h with h1 h2
  refine ⟨hi, fun z => ?_, h2⟩
  rw [List.getD_eq_getElem?_getD, List.getElem?_eq_getElem hi, ← h1]; rfl
theorem dropn {α : Type} {l : List α} {i : Nat} (h : l.drop i = []) : l.length ≤ i := by
  rcases Nat.lt_or_ge i l.length with h' | h'
  · rw [List.drop_eq_getElem_cons h'] at h; cases h
  · exact h'
theorem rdT_nat (l : List S30) (i : Nat) : rd_T30 l (i : Int) = l.getD i z30 := by unfold rd_T30; simp
theorem rd3_nat (l : List (List S30)) (i : Nat) : rd_L3 l (i : Int) = l.getD i [] := by unfold rd_L3; simp
theorem rd4_nat (l : List (List Int)) (i : Nat) : rd_L4 l (i : Int) = l.getD i [] := by unfold rd_L4; simp
theorem nx1 (i : Nat) (h : i ≤ 100000000) : wrap64 ((i : Int) + 1) = ((i + 1 : Nat) : Int) := by rw [w64 (by omega) (by omega)]; simp
theorem getA {α : Type} (a : List α) (x : α) (b : List α) (z : α) : (a ++ x :: b).getD a.length z = x := by simp
theorem setA {α : Type} (a : List α) (x y : α) (b : List α) : (a ++ x :: b).set a.length y = a ++ y :: b := by simp
theorem bas_impl (a b c : Int) : impl_isBasin.f a b c = some (decide (BOk ⟨a, b, c⟩)) := by
  unfold impl_isBasin.f
  rw [in_impl, Option.bind_some]
  by_cases h1 : 1 ≤ a ∧ a ≤ 1000
  · rw [if_pos (decide_eq_true h1), in_impl, Option.bind_some]
    by_cases h2 : 0 ≤ b ∧ b ≤ 1000
    · rw [if_pos (decide_eq_true h2), in_impl, Option.bind_some]
      congr 1
      exact decide_eq_decide.mpr ⟨fun h => ⟨h1, h2, h⟩, fun h => h.2.2⟩
    · rw [if_neg (by simp only [decide_eq_true_eq]; exact h2)]; congr 1; exact (decide_eq_false (fun h => h2 h.2.1)).symm
  · rw [if_neg (by simp only [decide_eq_true_eq]; exact h1)]; congr 1; exact (decide_eq_false (fun h => h1 h.1)).symm
theorem bas_spec (a b c : Int) : spec_weBasin.f a b c = some (decide (BOk ⟨a, b, c⟩)) := by
  unfold spec_weBasin.f
  rw [in_spec, Option.bind_some]
  by_cases h1 : 1 ≤ a ∧ a ≤ 1000
  · rw [if_pos (decide_eq_true h1), in_spec, Option.bind_some]
    by_cases h2 : 0 ≤ b ∧ b ≤ 1000
    · rw [if_pos (decide_eq_true h2), in_spec, Option.bind_some]
      congr 1
      exact decide_eq_decide.mpr ⟨fun h => ⟨h1, h2, h⟩, fun h => h.2.2⟩
    · rw [if_neg (by simp only [decide_eq_true_eq]; exact h2)]; congr 1; exact (decide_eq_false (fun h => h2 h.2.1)).symm
  · rw [if_neg (by simp only [decide_eq_true_eq]; exact h1)]; congr 1; exact (decide_eq_false (fun h => h1 h.1)).symm
theorem row_impl (l : List S30) : impl_IsRow.f l = some (decide (ROk l)) := by
  unfold impl_IsRow.f
  rw [in_impl, Option.bind_some]
  by_cases h1 : 1 ≤ (l.length : Int) ∧ (l.length : Int) ≤ 6
  · rw [if_pos (decide_eq_true h1), if_pos (List.all_eq_true.mpr fun x _ => by rw [bas_impl]; rfl)]
    congr 1
    refine Bool.eq_iff_iff.mpr ?_
    rw [List.all_eq_true, decide_eq_true_eq]
    have e : ∀ x : S30, impl_IsRow.P x = true ↔ BOk x := fun x => by
      unfold impl_IsRow.P; rw [bas_impl]; (try simp)
    exact ⟨fun h => ⟨⟨by omega, by omega⟩, fun b hb => (e b).mp (h b hb)⟩, fun h b hb => (e b).mpr (h.2 b hb)⟩
  · rw [if_neg (by simp only [decide_eq_true_eq]; exact h1)]; congr 1; exact (decide_eq_false (fun h => h1 ⟨by have := h.1.1; omega, by have := h.1.2; omega⟩)).symm
theorem row_l0 (l : List S30) (hl : l.length ≤ 1000) : ∀ (r : List S30) (i k : Nat), l.drop i = r → r.length < k → spec_weRow.l0 k l (l.length : Int) (i : Int) = some (decide (AllB r))
  | r, i, 0, _, h => by omega
  | [], i, k + 1, e, _ => by
    have := dropn e
    simp only [spec_weRow.l0]; rw [if_neg (by omega)]; exact congrArg some (decide_eq_true (fun b hb => by cases hb)).symm
  | x :: r, i, k + 1, e, hk => by
    obtain ⟨h1, h2, h3⟩ := dropc e
    simp only [spec_weRow.l0]
    rw [if_pos (by omega), if_pos (by omega), if_pos (by omega), rdT_nat, h2, bas_spec, Option.bind_some, nx1 i (by omega), row_l0 l hl r (i + 1) k h3 (by simpa using hk)]
    by_cases c : BOk x
    · rw [if_pos (decide_eq_true c)]; congr 1
      exact decide_eq_decide.mpr ⟨fun h b hb => by rcases List.mem_cons.mp hb with q | q; exact q ▸ c; exact h b q, fun h b hb => h b (List.mem_cons_of_mem _ hb)⟩
    · rw [if_neg (by simp only [decide_eq_true_eq]; exact c)]; congr 1; exact (decide_eq_false (fun h => c (h x (List.mem_cons_self ..)))).symm
theorem row_spec (k : Nat) (l : List S30) (hl : l.length ≤ 1000) (hk : 1000 < k) : spec_weRow.f k l = some (decide (ROk l)) := by
  unfold spec_weRow.f
  rw [in_spec, Option.bind_some]
  by_cases h1 : 1 ≤ (l.length : Int) ∧ (l.length : Int) ≤ 6
  · have := row_l0 l hl l 0 k rfl (by omega)
    rw [if_pos (decide_eq_true h1)]
    refine Eq.trans this ?_; congr 1
    exact decide_eq_decide.mpr ⟨fun h => ⟨⟨by omega, by omega⟩, h⟩, fun h => h.2⟩
  · rw [if_neg (by simp only [decide_eq_true_eq]; exact h1)]; congr 1; exact (decide_eq_false (fun h => h1 ⟨by have := h.1.1; omega, by have := h.1.2; omega⟩)).symm
theorem fl_impl (l : List Int) : impl_AreFlows.f l = some (decide (FOk l)) := by
  unfold impl_AreFlows.f impl_areWithin.f
  by_cases h : (l.length : Int) ≤ 60
  · rw [if_pos h, Option.bind_some]; congr 1
    refine Bool.eq_iff_iff.mpr ?_
    rw [List.all_eq_true, decide_eq_true_eq]
    exact ⟨fun q => ⟨by omega, fun x hx => by simpa using q x hx⟩, fun q x hx => by simpa using q.2 x hx⟩
  · rw [if_neg h]; congr 1; exact (decide_eq_false (fun q => h (by have := q.1; omega))).symm
theorem fl_spec (k : Nat) (l : List Int) (hl : l.length ≤ 1000) (hk : 1000 < k) : spec_weFlows.f k l = some (decide (FOk l)) := by
  unfold spec_weFlows.f
  by_cases h : (l.length : Int) ≤ 60
  · rw [if_pos h, all_f k l 0 1000 (by omega) (by omega), Option.bind_some]; congr 1
    refine Bool.eq_iff_iff.mpr ?_
    rw [List.all_eq_true, decide_eq_true_eq]
    exact ⟨fun q => ⟨by omega, fun x hx => by simpa using q x hx⟩, fun q x hx => by simpa using q.2 x hx⟩
  · rw [if_neg h]; congr 1; exact (decide_eq_false (fun q => h (by have := q.1; omega))).symm
theorem ask_spec (k : Nat) (row : List S30) (l : List Int) (hr : row.length ≤ 1000) (hl : l.length ≤ 1000) (hk : 1000 < k) : spec_weAsked.f k row l = some (decide (ROk row ∧ FOk l)) := by
  unfold spec_weAsked.f
  rw [row_spec k row hr hk, Option.bind_some]
  by_cases h : ROk row
  · rw [if_pos (decide_eq_true h), fl_spec k l hl hk, Option.bind_some]; congr 1
    exact decide_eq_decide.mpr ⟨fun q => ⟨h, q⟩, fun q => q.2⟩
  · rw [if_neg (by simp only [decide_eq_true_eq]; exact h)]; congr 1; exact (decide_eq_false (fun q => h q.1)).symm
/-- a tick of the program -/
theorem spB_mx (b : S30) (f : Int) : mx 0 (b.f2 + f - b.f0) = spB b f := by unfold mx spB; split <;> rfl
theorem rnB_mn (b : S30) (f : Int) : mn b.f1 (b.f2 + f - spB b f) = rnB b f := by unfold mn rnB; split <;> rfl
theorem tick_l0 (n : Nat) (hn : n ≤ 100) : ∀ (r d : List S30) (sp : List Int) (f : Int) (k : Nat), (d ++ r).length = n → AllB r → 0 ≤ f → f + hld r ≤ 1000000 → sp.length = d.length → r.length < k →
    impl_tickRow.l0 k f (d ++ r) sp (n : Int) (d.length : Int) = some (d ++ (tkR r f).1, sp ++ (tkR r f).2.1, (tkR r f).2.2)
  | r, d, sp, f, 0, _, _, _, _, _, hk => by omega
  | [], d, sp, f, k + 1, e, _, _, _, _, _ => by
    simp only [List.append_nil] at e
    simp only [impl_tickRow.l0]; rw [if_neg (by omega)]; simp [tkR]
  | b :: r, d, sp, f, k + 1, e, h, h0, h1, hs, hk => by
    have hb := h b (List.mem_cons_self ..)
    have hr : AllB r := fun y hy => h y (List.mem_cons_of_mem _ hy)
    have s := spB_ok hb h0
    have q := rnB_ok hb h0
    have hl := (hld_le r hr).1
    obtain ⟨a1, a2, a3⟩ := hb
    have e' : d.length + (r.length + 1) = n := by simpa using e
    simp only [hld_cons] at h1
    simp only [impl_tickRow.l0]
    rw [if_pos (by omega), if_pos (by omega), if_pos (by simp; omega), Int.toNat_natCast, rdT_nat, getA, setA, Option.bind_some, rdT_nat, getA, setA]
    simp only []
    rw [w64 (x := b.f2 + f) (by omega) (by omega), w64 (x := b.f2 + f - b.f0) (by omega) (by omega), spB_mx, w64 (x := b.f2 + f - spB b f) (by omega) (by omega), Option.bind_some, rdT_nat, getA, setA]
    simp only []
    rw [rnB_mn, if_pos (by omega), w64 (x := spB b f + rnB b f) (by omega) (by omega), w64 (x := b.f2 + f - spB b f - rnB b f) (by omega) (by omega), nx1 d.length (by omega)]
    have ih := tick_l0 n hn r (d ++ [nxB b f]) (sp ++ [spB b f]) (spB b f + rnB b f) k (by simp; omega) hr (by omega) (by omega) (by simp [hs]) (by simpa using hk)
    simp only [List.append_assoc, List.singleton_append, List.length_append, List.length_singleton] at ih
    rw [show (⟨b.f0, b.f1, b.f2 + f - spB b f - rnB b f⟩ : S30) = nxB b f from rfl, ih]
    simp [tkR]
theorem tick_impl (k : Nat) (row : List S30) (f : Int) (hn : row.length ≤ 100) (h : AllB row) (h0 : 0 ≤ f) (h1 : f + hld row ≤ 1000000) (hk : 1000 < k) : impl_tickRow.f k row f = some (tkR row f) := by
  unfold impl_tickRow.f impl_Basin_63.f
  rw [if_pos (by omega), Option.bind_some]
  have := tick_l0 row.length hn row [] [] f k rfl h h0 h1 rfl (by omega)
  simpa using this
theorem tickS_l0 (l : List S30) (hn : l.length ≤ 100) : ∀ (r d : List S30) (sp : List Int) (f : Int) (i k : Nat), l.drop i = r → AllB r → 0 ≤ f → f + hld r ≤ 1000000 → sp.length = i → d.length = i → r.length < k →
    spec_weTick.l0 k f d sp l (l.length : Int) (i : Int) = some (d ++ (tkR r f).1, (tkR r f).2.2, sp ++ (tkR r f).2.1)
  | r, d, sp, f, i, 0, _, _, _, _, _, _, hk => by omega
  | [], d, sp, f, i, k + 1, e, _, _, _, _, _, _ => by
    have := dropn e
    simp only [spec_weTick.l0]; rw [if_neg (by omega)]; simp [tkR]
  | b :: r, d, sp, f, i, k + 1, e, h, h0, h1, hs, hd, hk => by
    obtain ⟨e1, e2, e3⟩ := dropc e
    have hb := h b (List.mem_cons_self ..)
    have hr : AllB r := fun y hy => h y (List.mem_cons_of_mem _ hy)
    have s := spB_ok hb h0
    have q := rnB_ok hb h0
    have hl := (hld_le r hr).1
    obtain ⟨a1, a2, a3⟩ := hb
    simp only [hld_cons] at h1
    have m1 : spec_l1Most.f 0 (b.f2 + f - b.f0) = some (spB b f) := by unfold spec_l1Most.f spB; split <;> split <;> first | rfl | (congr 1; omega) | omega
    have m2 : spec_l1Least.f (b.f2 + f - spB b f) b.f1 = some (rnB b f) := by unfold spec_l1Least.f rnB; split <;> rfl
    simp only [spec_weTick.l0]
    rw [if_pos (by omega), if_pos (by omega), if_pos (by omega), rdT_nat, e2, w64 (x := b.f2 + f) (by omega) (by omega), w64 (x := b.f2 + f - b.f0) (by omega) (by omega), m1, Option.bind_some, w64 (x := b.f2 + f - spB b f) (by omega) (by omega), m2, Option.bind_some,
      if_pos (by omega), if_pos (by omega), w64 (x := spB b f + rnB b f) (by omega) (by omega), w64 (x := b.f2 + f - spB b f - rnB b f) (by omega) (by omega), nx1 i (by omega),
      tickS_l0 l hn r _ _ _ (i + 1) k e3 hr (by omega) (by omega) (by simp [hs]) (by simp [hd]) (by simpa using hk)]
    simp [tkR, nxB]
theorem tick_spec (k : Nat) (row : List S30) (f : Int) (hn : row.length ≤ 100) (h : AllB row) (h0 : 0 ≤ f) (h1 : f + hld row ≤ 1000000) (hk : 1000 < k) : spec_weTick.f k row f = some ((tkR row f).1, (tkR row f).2.2, (tkR row f).2.1) := by
  unfold spec_weTick.f
  have := tickS_l0 row hn row [] [] f 0 k rfl h h0 h1 rfl rfl (by omega)
  simpa using this
end Go.Proofs.Ytflbcikfphfkdaa.PuB
