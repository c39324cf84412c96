/- Plain functions and what they come to. -/
import Derived.Test.YtieioddimkafbaaTbPuLaw2
import Derived.Test.YtieioddimkafbaaTbVx
import Derived.Test.YtieioddimkafbaaTbVinc
namespace Go.Proofs.Ytieioddimkafbaa.PuB
open Go.RowKit Go.Proofs.Ytieioddimkafbaa.V Go.Proofs.YtieioddimkafbaaW.PrintWords Go.Proofs.YtieioddimkafbaaW.PrintLast Go.Proofs.YtieioddimkafbaaW.PrintMore Go.Proofs.Ytieioddimkafbaa Go.Proofs.Ytieioddimkafbaa.PuB
set_option linter.unusedVariables false
set_option linter.unusedSimpArgs false
theorem held_l0 : ∀ (d k : Nat) (ms : List Int) (a : Int), d < k → ms.length + d ≤ 17592186044416 → 0 ≤ a → a + d ≤ 17592186044416 →
    laws_heldIntS.l0 k (ms ++ upFrom a d) a (ms.length : Int) = some (a + d) := by
  intro d
  induction d with
  | zero =>
    intro k ms a hk hb h0 h1
    obtain ⟨k, rfl⟩ : ∃ m, k = m + 1 := ⟨k - 1, by omega⟩
    simp only [laws_heldIntS.l0]; rw [if_neg (by simp [upFrom])]; simp
  | succ d ih =>
    intro k ms a hk hb h0 h1
    obtain ⟨k, rfl⟩ : ∃ m, k = m + 1 := ⟨k - 1, by omega⟩
    simp only [laws_heldIntS.l0]
    have e : rd (ms ++ upFrom a (d + 1)) (ms.length : Int) = a := by unfold rd; simp [upFrom]
    rw [if_pos (by rw [List.length_append, upFrom_len]; omega), if_pos (by omega), if_pos e, w64 (by omega) (by omega), w64 (by omega) (by omega)]
    have ih' := ih k (ms ++ [a]) (a + 1) (by omega) (by simp; omega) (by omega) (by omega)
    simp only [List.length_append, List.length_cons, List.length_nil, List.append_assoc, List.cons_append, List.nil_append] at ih'
    rw [show ((ms.length : Int) + 1) = ((ms.length + (0 + 1) : Nat) : Int) by simp]
    simp only [upFrom]
    rw [ih']; congr 1; omega
theorem held_any (k n : Nat) (a : Int) (hk : n < k) (h0 : 0 ≤ a) (h1 : a ≤ 10000000) (hb : n ≤ 10000000) : laws_heldIntS.f k (upFrom a n) a = some (a + (n : Int)) := by
  unfold laws_heldIntS.f
  have := held_l0 n k [] a hk (by simp; omega) h0 (by omega)
  simpa using this
theorem heldI_ev (n : Nat) (h : n ≤ 1048576) : Ev (fun k => laws_heldIntS.f k (upFrom 1 n) 1) (1 + (n : Int)) := Ev.of 20000000 fun k hk => held_any k n 1 (by omega) (by omega) (by omega) (by omega)
/-- Two increasing lists of the same numbers are one. -/
theorem inc_ext : ∀ {l m : List Int}, l.Pairwise (· < ·) → m.Pairwise (· < ·) → (∀ x, x ∈ l ↔ x ∈ m) → l = m
  | [], [], _, _, _ => rfl
  | [], b :: m, _, _, h => absurd ((h b).2 (List.mem_cons_self ..)) (by simp)
  | a :: l, [], _, _, h => absurd ((h a).1 (List.mem_cons_self ..)) (by simp)
  | a :: l, b :: m, h1, h2, h => by
    rw [List.pairwise_cons] at h1 h2
    have e : a = b := by
      rcases List.mem_cons.1 ((h a).1 (List.mem_cons_self ..)) with e | e
      · exact e
      · rcases List.mem_cons.1 ((h b).2 (List.mem_cons_self ..)) with e' | e'
        · exact e'.symm
        · have := h2.1 a e
          have := h1.1 b e'
          omega
    subst e
    rw [inc_ext h1.2 h2.2 fun x => ⟨fun hx => by
      rcases List.mem_cons.1 ((h x).1 (List.mem_cons_of_mem _ hx)) with e | e
      · have := h1.1 x hx; omega
      · exact e, fun hx => by
      rcases List.mem_cons.1 ((h x).2 (List.mem_cons_of_mem _ hx)) with e | e
      · have := h2.1 x hx; omega
      · exact e⟩]
theorem getB (zs : List Int) (i : Nat) (h : i < zs.length) : zs.toArray[i]! = zs[i] := by
  rw [getElem!_pos zs.toArray i (by simpa using h)]; simp
theorem compact_inc (zs : List Int) (h : zs.Pairwise (· ≤ ·)) : (Lib.compact zs).Pairwise (· < ·) := by
  unfold Lib.compact Lib.compactUpTo
  rw [List.pairwise_map]
  have hr : ((List.range zs.length).filter (Lib.keeps zs.toArray)).Pairwise (· < ·) := List.Pairwise.filter _ List.pairwise_lt_range
  refine hr.imp_of_mem ?_
  intro i j hi hj hij
  obtain ⟨hi1, _⟩ := List.mem_filter.1 hi
  obtain ⟨hj1, hj2⟩ := List.mem_filter.1 hj
  rw [List.mem_range] at hi1 hj1
  have hk : zs.toArray[j]! ≠ zs.toArray[j - 1]! := by
    simp only [Lib.keeps, decide_eq_true_eq] at hj2
    rcases hj2 with e | e
    · omega
    · exact e
  rw [getB zs j hj1, getB zs (j - 1) (by omega)] at hk
  rw [getB zs i hi1, getB zs j hj1]
  have p := List.pairwise_iff_getElem.1 h
  have h1 : zs[i] ≤ zs[j - 1] := by
    rcases Nat.lt_or_ge i (j - 1) with c | c
    · exact p i (j - 1) _ _ c
    · have : i = j - 1 := by omega
      subst this; exact Int.le_refl _
  have h2 := p (j - 1) j (by omega) hj1 (by omega)
  omega
theorem compact_mem (zs : List Int) (x : Int) : x ∈ Lib.compact zs ↔ x ∈ zs := by
  unfold Lib.compact Lib.compactUpTo
  rw [List.mem_map]
  constructor
  · rintro ⟨i, hi, rfl⟩
    obtain ⟨hi, _⟩ := List.mem_filter.1 hi
    rw [List.mem_range] at hi
    rw [getB zs i hi]; exact List.getElem_mem hi
  · intro hx
    obtain ⟨i, hi, rfl⟩ := List.getElem_of_mem hx
    induction i with
    | zero => exact ⟨0, List.mem_filter.2 ⟨List.mem_range.2 hi, by simp [Lib.keeps]⟩, getB zs 0 hi⟩
    | succ i ih =>
      by_cases e : zs[i + 1] = zs[i]'(by omega)
      · obtain ⟨j, h1, h2⟩ := ih (by omega) (List.getElem_mem _)
        exact ⟨j, h1, by rw [h2, e]⟩
      · refine ⟨i + 1, List.mem_filter.2 ⟨List.mem_range.2 hi, ?_⟩, getB zs _ hi⟩
        simp only [Lib.keeps, decide_eq_true_eq]
        right
        rw [getB zs (i + 1) hi, Nat.add_sub_cancel, getB zs i (by omega)]
        exact e
theorem sorted_ms (l : List Int) : (l.mergeSort fun x y => decide (x ≤ y)).Pairwise (· ≤ ·) := by
  have := List.pairwise_mergeSort (le := fun x y : Int => decide (x ≤ y)) (fun a b c h1 h2 => by simp at *; omega) (fun a b => by simp; omega) l
  exact this.imp fun h => by simpa using h
/-- The numbers that are marked, from place i on. -/
def numsM : List Bool → Nat → List Int
  | [], _ => []
  | b :: t, i => if b then (i : Int) :: numsM t (i + 1) else numsM t (i + 1)
theorem numsM_len : ∀ (t : List Bool) (i : Nat), (numsM t i).length ≤ t.length
  | [], i => Nat.le_refl _
  | b :: t, i => by
    have := numsM_len t (i + 1)
    simp only [numsM]
    split <;> simp <;> omega
theorem numsM_lo : ∀ (t : List Bool) (i : Nat) (x : Int), x ∈ numsM t i → (i : Int) ≤ x
  | [], i, x, h => by simp [numsM] at h
  | b :: t, i, x, h => by
    simp only [numsM] at h
    have ih := numsM_lo t (i + 1) x
    split at h
    · rcases List.mem_cons.1 h with e | e
      · omega
      · have := ih e; omega
    · have := ih h; omega
theorem numsM_inc : ∀ (t : List Bool) (i : Nat), (numsM t i).Pairwise (· < ·)
  | [], i => List.Pairwise.nil
  | b :: t, i => by
    simp only [numsM]
    split
    · exact List.Pairwise.cons (fun x hx => by have := numsM_lo t (i + 1) x hx; omega) (numsM_inc t (i + 1))
    · exact numsM_inc t (i + 1)
theorem numsM_mem : ∀ (t : List Bool) (i : Nat) (x : Int), x ∈ numsM t i ↔ ∃ j, j < t.length ∧ t.getD j false = true ∧ x = ((i + j : Nat) : Int)
  | [], i, x => by simp [numsM]
  | b :: t, i, x => by
    have ih := numsM_mem t (i + 1) x
    have e : x ∈ numsM (b :: t) i ↔ (b = true ∧ x = (i : Int)) ∨ x ∈ numsM t (i + 1) := by
      simp only [numsM]
      cases b <;> simp
    rw [e, ih]
    constructor
    · rintro (⟨rfl, rfl⟩ | ⟨j, h1, h2, h3⟩)
      · exact ⟨0, by simp, by simp, by simp⟩
      · exact ⟨j + 1, by simpa using h1, by simpa using h2, by rw [h3]; congr 1; omega⟩
    · rintro ⟨j, h1, h2, h3⟩
      cases j with
      | zero => left; exact ⟨by simpa using h2, by simpa using h3⟩
      | succ j => right; exact ⟨j, by simpa using h1, by simpa using h2, by rw [h3]; congr 1; omega⟩
/-- Numbers are marked. -/
def marks (m : List Bool) (xs : List Int) : List Bool := xs.foldl (fun m x => m.set x.toNat true) m
theorem marks_len : ∀ (xs : List Int) (m : List Bool), (marks m xs).length = m.length
  | [], m => rfl
  | x :: xs, m => by
    show (marks (m.set x.toNat true) xs).length = _
    rw [marks_len xs]; simp
theorem marks_get : ∀ (xs : List Int) (m : List Bool) (j : Nat), j < m.length → ((marks m xs).getD j false = true ↔ m.getD j false = true ∨ ∃ x ∈ xs, x.toNat = j)
  | [], m, j, h => by simp [marks]
  | x :: xs, m, j, h => by
    show (marks (m.set x.toNat true) xs).getD j false = true ↔ _
    rw [marks_get xs _ j (by simpa using h)]
    have : (m.set x.toNat true).getD j false = true ↔ x.toNat = j ∨ m.getD j false = true := by
      rw [List.getD_eq_getElem?_getD, List.getD_eq_getElem?_getD, List.getElem?_set]
      by_cases e : x.toNat = j
      · subst e; simp [h]
      · simp [e]
    rw [this]
    constructor
    · rintro ((h1 | h1) | ⟨y, h1, h2⟩)
      · exact .inr ⟨x, List.mem_cons_self .., h1⟩
      · exact .inl h1
      · exact .inr ⟨y, List.mem_cons_of_mem _ h1, h2⟩
    · rintro (h1 | ⟨y, h1, h2⟩)
      · exact .inl (.inr h1)
      · rcases List.mem_cons.1 h1 with rfl | h1
        · exact .inl (.inl h2)
        · exact .inr ⟨y, h1, h2⟩
theorem marks_app (m : List Bool) (xs ys : List Int) : marks m (xs ++ ys) = marks (marks m xs) ys := List.foldl_append ..
/-- What is marked is what is left of the sorted list. -/
theorem marks_sorted (n : Nat) (xs : List Int) (h : ∀ x ∈ xs, 0 ≤ x ∧ x < n) : numsM (marks (List.replicate n false) xs) 0 = Lib.compact (xs.mergeSort fun x y => decide (x ≤ y)) := by
  refine inc_ext (numsM_inc _ _) (compact_inc _ (sorted_ms xs)) fun x => ?_
  rw [compact_mem, List.mem_mergeSort, numsM_mem]
  have hl : (marks (List.replicate n false) xs).length = n := by rw [marks_len]; simp
  constructor
  · rintro ⟨j, h1, h2, h3⟩
    rw [hl] at h1
    rw [marks_get xs _ j (by simpa using h1)] at h2
    rcases h2 with h2 | ⟨y, h2, h4⟩
    · simp [List.getD_eq_getElem?_getD, h1] at h2
    · have := h y h2
      have : x = y := by omega
      rw [this]; exact h2
  · intro hx
    have := h x hx
    refine ⟨x.toNat, by rw [hl]; omega, ?_, by omega⟩
    rw [marks_get xs _ _ (by simp; omega)]
    exact .inr ⟨x, hx, rfl⟩
theorem pn_l0 (m : List Bool) (hb : m.length ≤ 1000) : ∀ (d k i : Nat) (acc : List Int), i + d = m.length → d < k → acc.length ≤ i → spec_plNumbers.l0 k acc m (m.length : Int) (i : Int) = some (acc ++ numsM (m.drop i) i)
  | 0, 0, i, acc, _, h, _ => by omega
  | 0, k + 1, i, acc, hi, _, _ => by
    simp only [spec_plNumbers.l0]
    rw [if_neg (by omega), List.drop_eq_nil_of_le (by omega)]
    simp [numsM]
  | d + 1, 0, i, acc, _, h, _ => by omega
  | d + 1, k + 1, i, acc, hi, hk, ha => by
    simp only [spec_plNumbers.l0]
    rw [if_pos (by omega), if_pos (by omega), if_pos (by omega), w64 (by omega) (by omega)]
    have hg : rdOf false m (i : Int) = m[i]'(by omega) := by
      unfold rdOf
      rw [Int.toNat_natCast, List.getD_eq_getElem?_getD, List.getElem?_eq_getElem (by omega)]; rfl
    have hd : m.drop i = m[i]'(by omega) :: m.drop (i + 1) := List.drop_eq_getElem_cons (by omega)
    rw [hg, hd]
    simp only [numsM]
    by_cases c : m[i]'(by omega) = true
    · rw [if_pos c, if_pos (by omega), if_pos c]
      have := pn_l0 m hb d k (i + 1) (acc ++ [(i : Int)]) (by omega) (by omega) (by simp; omega)
      rw [show ((i : Int) + 1) = ((i + 1 : Nat) : Int) by omega, this]
      simp
    · rw [if_neg c, if_neg c]
      have := pn_l0 m hb d k (i + 1) acc (by omega) (by omega) (by omega)
      rw [show ((i : Int) + 1) = ((i + 1 : Nat) : Int) by omega, this]
theorem pn_ev (m : List Bool) (hb : m.length ≤ 1000) : Ev (fun k => spec_plNumbers.f k m) (numsM m 0) := Ev.of 2000 fun k hk => by
  unfold spec_plNumbers.f
  have := pn_l0 m hb m.length k 0 [] (by omega) (by omega) (by simp)
  simpa using this
theorem inc_ev (l : List Int) (h0 : 0 < l.length) (h1 : l.length ≤ 1000000) : Ev (fun k => impl_increasing.f k l) (Lib.compact (l.mergeSort fun x y => decide (x ≤ y))) := Ev.of 0 fun k hk => by
  unfold impl_increasing.f
  rw [if_pos ⟨h0, by omega⟩]
end Go.Proofs.Ytieioddimkafbaa.PuB
