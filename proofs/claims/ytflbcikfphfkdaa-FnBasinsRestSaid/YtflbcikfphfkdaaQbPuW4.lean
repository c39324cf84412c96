/- Plain functions and what they come to. -/
import Derived.Test.YtflbcikfphfkdaaQbPuW3
namespace Go.Proofs.Ytflbcikfphfkdaa.PuB
open Go.RowKit Go.Proofs.Ytflbcikfphfkdaa.R Go.Proofs.YtflbcikfphfkdaaW.PrintLast Go.Proofs.YtflbcikfphfkdaaW.PrintMore
open Go.Proofs.YtflbcikfphfkdaaW.PrintWords hiding Ev
set_option linter.unusedVariables false
set_option linter.unusedSimpArgs false
theorem sp_in {row : List S30} {l : List Int} (h : ROk row) (g : FOk l) : ∀ s ∈ (rnR row l).map (·.2.1), s.length = row.length ∧ ∀ x ∈ s, 0 ≤ x ∧ x ≤ 7000 := by
  intro s hs
  obtain ⟨t, ht, rfl⟩ := List.mem_map.mp hs
  have := rnR_all l row h.2 h.1.2 g.2 t ht
  exact ⟨this.2.2.1, this.2.2.2.1⟩
/-- one row of spills added: F tells the inner loop, G what comes behind it -/
theorem add_l1 {β : Type} (F : Nat → List Int → List Int → Int → Option β) (G : Nat → List Int → Option β) (s : List Int) (hF : ∀ k a i, F (k + 1) a s i = if i < (s.length : Int) then (if 0 ≤ i then (if i < (s.length : Int) then (if i < (a.length : Int) then F k (a.set i.toNat (wrap64 (rd a i + rd s i))) s (wrap64 (i + 1)) else none) else none) else none) else G k a)
    (B : Int) (hB : B ≤ 1000000000) (hn : s.length ≤ 100) : ∀ (r a d : List Int) (i k : Nat), s.drop i = r → d.length = i → a.length = r.length → (∀ x ∈ a, 0 ≤ x ∧ x ≤ B) → (∀ x ∈ r, 0 ≤ x ∧ x ≤ 7000) → r.length < k →
    F k (d ++ a) s (i : Int) = G (k - r.length - 1) (d ++ addL a r)
  | r, a, d, i, 0, _, _, _, _, _, hk => by omega
  | [], a, d, i, k + 1, e, _, ha, _, _, _ => by
    have := dropn e
    have : a = [] := List.length_eq_zero_iff.mp ha
    subst this
    rw [hF, if_neg (by omega)]; simp [addL]
  | y :: r, [], d, i, k + 1, e, _, ha, _, _, _ => by simp at ha
  | y :: r, x :: a, d, i, k + 1, e, hd, ha, hx, hr, hk => by
    obtain ⟨e1, e2, e3⟩ := dropc e
    have q := hx x (List.mem_cons_self ..)
    have q2 := hr y (List.mem_cons_self ..)
    subst hd
    rw [hF, if_pos (by omega), if_pos (by omega), if_pos (by omega), if_pos (by simp; omega), Int.toNat_natCast, rd_nat, getA, rd_nat, e2, setA, w64 (x := x + y) (by omega) (by omega), nx1 d.length (by omega)]
    have ih := add_l1 F G s hF B hB hn r a (d ++ [x + y]) (d.length + 1) k e3 (by simp) (by simpa using ha) (fun z hz => hx z (List.mem_cons_of_mem _ hz)) (fun z hz => hr z (List.mem_cons_of_mem _ hz)) (by simpa using hk)
    simp only [List.append_assoc, List.singleton_append] at ih
    rw [ih]
    simp only [addL, List.length_cons]
    rw [show k + 1 - (r.length + 1) - 1 = k - r.length - 1 by omega]
theorem addL_in {B C : Int} : ∀ (a r : List Int), (∀ x ∈ a, 0 ≤ x ∧ x ≤ B) → (∀ x ∈ r, 0 ≤ x ∧ x ≤ C) → 0 ≤ C → ∀ x ∈ addL a r, 0 ≤ x ∧ x ≤ B + C
  | [], [], _, _, _ => by simp [addL]
  | [], _ :: _, _, _, _ => by simp [addL]
  | x :: a, [], ha, _, hC => by
    intro z hz
    have := ha z (by simpa [addL] using hz)
    omega
  | x :: a, y :: r, ha, hr, hC => by
    have q := ha x (List.mem_cons_self ..)
    have q2 := hr y (List.mem_cons_self ..)
    intro z hz
    simp only [addL] at hz
    rcases List.mem_cons.mp hz with e | e
    · subst e; omega
    · exact addL_in a r (fun z hz => ha z (List.mem_cons_of_mem _ hz)) (fun z hz => hr z (List.mem_cons_of_mem _ hz)) hC z e
theorem SplI_l0 (L : List (List Int)) (n : Nat) (hn : n ≤ 100) (hL : L.length ≤ 1000) : ∀ (r : List (List Int)) (a : List Int) (i k : Nat), L.drop i = r → a.length = n → (∀ s ∈ r, s.length = n ∧ ∀ x ∈ s, 0 ≤ x ∧ x ≤ 7000) → (∀ x ∈ a, 0 ≤ x ∧ x ≤ 7000 * (i : Int)) → (n + 2) * r.length < k →
    impl_SpillsOf.l0 k a L (L.length : Int) (i : Int) = some (splA a r, true)
  | r, a, i, 0, _, _, _, _, hk => by omega
  | [], a, i, k + 1, e, _, _, _, _ => by
    have := dropn e
    simp only [impl_SpillsOf.l0]; rw [if_neg (by omega)]; rfl
  | s :: r, a, i, k + 1, e, ha, hs, hx, hk => by
    obtain ⟨e1, e2, e3⟩ := dropc e
    have q := hs s (List.mem_cons_self ..)
    simp only [List.length_cons] at hk
    have hk' : (n + 2) * r.length + n + 2 < k + 1 := by rw [Nat.mul_add, Nat.mul_one] at hk; omega
    simp only [impl_SpillsOf.l0]
    rw [if_pos (by omega), if_pos (by omega), if_pos (by omega), rd4_nat, e2]
    have st := add_l1 (fun k a s j => impl_SpillsOf.l1 k a L (L.length : Int) (i : Int) s (s.length : Int) j) (fun k a => impl_SpillsOf.l0 k a L (L.length : Int) (wrap64 ((i : Int) + 1))) s (fun k a j => by simp only [impl_SpillsOf.l1]) (7000 * (i : Int)) (by omega) (by omega) s a [] 0 k rfl rfl (by omega) hx q.2 (by omega)
    simp only [List.nil_append] at st
    refine st.trans ?_
    rw [nx1 i (by omega), SplI_l0 L n hn hL r _ (i + 1) _ e3 (by rw [addL_len]; exact ha) (fun z hz => hs z (List.mem_cons_of_mem _ hz)) (fun z hz => by have := addL_in a s hx q.2 (by omega) z hz; simp; omega) (by omega)]
    rfl
theorem zeros_in (n : Nat) : ∀ x ∈ List.replicate n (0 : Int), 0 ≤ x ∧ x ≤ 7000 * ((0 : Nat) : Int) := fun x hx => by rw [List.eq_of_mem_replicate hx]; simp
theorem SplI (k : Nat) (row : List S30) (l : List Int) (hk : 3000 < k) : impl_SpillsOf.f k row l = some (aSpl row l) := by
  obtain ⟨k, rfl⟩ : ∃ m, k = m + 1 := ⟨k - 1, by omega⟩
  unfold impl_SpillsOf.f aSpl
  rw [row_impl, Option.bind_some]
  by_cases h : ROk row
  · rw [if_pos (decide_eq_true h), fl_impl, Option.bind_some]
    by_cases g : FOk l
    · have h6 := h.1.2
      have h60 := g.1
      rw [decide_eq_true g]
      simp only [impl_SpillsOf.j0, Bool.not_true, Bool.false_eq_true, if_false]
      rw [if_pos (by omega), if_pos (by omega), run_impl k h g (by omega), Option.bind_some, if_pos (show ROk row ∧ FOk l from ⟨h, g⟩), Int.toNat_natCast]
      have := SplI_l0 ((rnR row l).map (·.2.1)) row.length (by omega) (by simp [rnR_len]; omega) ((rnR row l).map (·.2.1)) (List.replicate row.length 0) 0 k rfl (by simp) (sp_in h g) (zeros_in _) (by
        rw [List.length_map, rnR_len]
        have := Nat.mul_le_mul (show row.length + 2 ≤ 8 by omega) h60
        omega)
      exact this
    · rw [decide_eq_false g, if_neg (fun q => g q.2)]
      simp only [impl_SpillsOf.j0, Bool.not_false, if_true]
  · rw [if_neg (by simp only [decide_eq_true_eq]; exact h), if_neg (fun q => h q.1)]
    simp only [impl_SpillsOf.j0, if_true]
end Go.Proofs.Ytflbcikfphfkdaa.PuB
