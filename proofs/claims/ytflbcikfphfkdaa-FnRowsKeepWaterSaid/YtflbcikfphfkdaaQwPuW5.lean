/- Plain functions and what they come to. -/
import Derived.Test.YtflbcikfphfkdaaQwPuW4
namespace Go.Proofs.Ytflbcikfphfkdaa.PuB
open Go.RowKit Go.Proofs.Ytflbcikfphfkdaa.R Go.Proofs.YtflbcikfphfkdaaW.PrintLast Go.Proofs.YtflbcikfphfkdaaW.PrintMore
open Go.Proofs.YtflbcikfphfkdaaW.PrintWords hiding Ev
set_option linter.unusedVariables false
set_option linter.unusedSimpArgs false
theorem pk_append : ∀ (a b : List Int) (m : Int), pk m (a ++ b) = pk (pk m a) b
  | [], b, m => rfl
  | x :: a, b, m => pk_append a b _
theorem max_l0 (x : List Int) (hx : x.length ≤ 1000) : ∀ (r : List Int) (m : Int) (i k : Nat), x.drop i = r → r.length < k → slices_Max_int_int.l0 k x m (i : Int) = some (pk m r)
  | r, m, i, 0, _, hk => by omega
  | [], m, i, k + 1, e, _ => by
    have := dropn e
    simp only [slices_Max_int_int.l0]; rw [if_neg (by omega)]; rfl
  | y :: r, m, i, k + 1, e, hk => by
    obtain ⟨e1, e2, e3⟩ := dropc e
    simp only [slices_Max_int_int.l0]
    rw [if_pos (by omega), if_pos (by omega), rd_nat, e2, nx1 i (by omega), max_l0 x hx r _ (i + 1) k e3 (by simpa using hk)]
    rfl
theorem max_f (k : Nat) (y : Int) (r : List Int) (hr : r.length ≤ 900) (hk : 1000 < k) : slices_Max_int_int.f k (y :: r) = some (pk y r) := by
  obtain ⟨k, rfl⟩ : ∃ m, k = m + 1 := ⟨k - 1, by omega⟩
  unfold slices_Max_int_int.f
  rw [if_neg (by simp; omega)]
  simp only [slices_Max_int_int.j0]
  rw [if_pos (by simp only [List.length_cons]; omega), show rd (y :: r) 0 = y from rfl]
  exact max_l0 (y :: r) (by simp; omega) r y 1 k rfl (by omega)
theorem pk_zero : ∀ (l : List Int) (m : Int), 0 ≤ m → (∀ x ∈ l, 0 ≤ x) → pk (pk m l) [0] = pk m l := fun l m h _ => by
  have := pk_le l m
  simp only [pk]; rw [if_neg (by omega)]
theorem PeakI (k : Nat) (row : List S30) (l : List Int) (hk : 2000 < k) : impl_PeakOut.f k row l = some (aPeak row l) := by
  unfold impl_PeakOut.f aPeak
  rw [RunI k row l hk, Option.bind_some]
  unfold aRun
  by_cases h : ROk row ∧ FOk l
  · have h60 := h.2.1
    rw [if_pos h, if_pos h]
    simp only []
    rw [if_pos (by simp [rnR_len]; omega)]
    have hp : ∀ x ∈ (rnR row l).map (·.2.2), 0 ≤ x := fun x hx => by
      obtain ⟨t, ht, rfl⟩ := List.mem_map.mp hx
      exact (rnR_all l row h.1.2 h.1.1.2 h.2.2 t ht).2.2.2.2
    have hlen : ((rnR row l).map (·.2.2)).length ≤ 60 := by rw [List.length_map, rnR_len]; exact h60
    generalize (rnR row l).map (·.2.2) = g at hp hlen
    cases g with
    | nil => rw [List.nil_append, max_f k 0 [] (by simp) (by omega)]; rfl
    | cons y r =>
      have hy := hp y (List.mem_cons_self ..)
      rw [List.cons_append, max_f k y (r ++ [0]) (by simp at hlen ⊢; omega) (by omega), Option.bind_some, pk_append, pk_zero r y hy (fun x hx => hp x (List.mem_cons_of_mem _ hx))]
      congr 2
      simp only [pk]
      by_cases c : 0 < y
      · rw [if_pos c]
      · rw [if_neg c, show y = 0 by omega]
  · rw [if_neg h, if_neg h]
    simp only []
    rw [if_pos (by simp), List.nil_append, max_f k 0 [] (by simp) (by omega)]; rfl
theorem peak_l0 (x : List Int) (hx : x.length ≤ 1000) : ∀ (r : List Int) (m : Int) (i k : Nat), x.drop i = r → r.length < k → spec_PeakOut.l0 k m x (x.length : Int) (i : Int) = some (pk m r, true)
  | r, m, i, 0, _, hk => by omega
  | [], m, i, k + 1, e, _ => by
    have := dropn e
    simp only [spec_PeakOut.l0]; rw [if_neg (by omega)]; rfl
  | y :: r, m, i, k + 1, e, hk => by
    obtain ⟨e1, e2, e3⟩ := dropc e
    simp only [spec_PeakOut.l0]
    have hm : spec_l1Most.f m y = some (if m < y then y else m) := by unfold spec_l1Most.f; split <;> split <;> first | rfl | (congr 1; omega)
    rw [if_pos (by omega), if_pos (by omega), if_pos (by omega), rd_nat, e2, hm, Option.bind_some, nx1 i (by omega), peak_l0 x hx r _ (i + 1) k e3 (by simpa using hk)]
    rfl
theorem PeakS (k : Nat) (row : List S30) (l : List Int) (hr : row.length ≤ 1000) (hl : l.length ≤ 1000) (hk : 2000 < k) : spec_PeakOut.f k row l = some (aPeak row l) := by
  unfold spec_PeakOut.f aPeak
  rw [ask_spec k row l hr hl (by omega), Option.bind_some]
  by_cases h : ROk row ∧ FOk l
  · have h60 := h.2.1
    rw [if_pos (decide_eq_true h), go_spec k h.1 h.2 hk, Option.bind_some, if_pos h]
    exact peak_l0 ((rnR row l).map (·.2.2)) (by simp [rnR_len]; omega) ((rnR row l).map (·.2.2)) 0 0 k rfl (by simp [rnR_len]; omega)
  · rw [if_neg (by simp only [decide_eq_true_eq]; exact h), if_neg h]
theorem sm_take_succ {l : List Int} {i : Nat} {x : Int} {r : List Int} (e : l.drop i = x :: r) : sm (l.take (i + 1)) = sm (l.take i) + x := by
  obtain ⟨e1, e2, e3⟩ := dropc e
  have h : l.take (i + 1) = l.take i ++ [x] := by
    rw [List.take_add_one, List.getElem?_eq_getElem e1]
    have := e2 0
    rw [List.getD_eq_getElem?_getD, List.getElem?_eq_getElem e1] at this
    simp at this; simp [this]
  rw [h, sm_append]; simp
theorem sm_bd (B : Int) : ∀ (l : List Int), (∀ x ∈ l, 0 ≤ x ∧ x ≤ B) → 0 ≤ sm l ∧ sm l ≤ B * (l.length : Int)
  | [], _ => by simp
  | x :: l, h => by
    have h1 := h x (List.mem_cons_self ..)
    have h2 := sm_bd B l (fun y hy => h y (List.mem_cons_of_mem _ hy))
    simp only [sm_cons, List.length_cons]
    have : B * ((l.length + 1 : Nat) : Int) = B * (l.length : Int) + B := by simp [Int.mul_add]
    omega
theorem give_in {row : List S30} {l : List Int} (h : ROk row) (g : FOk l) : ∀ x ∈ (rnR row l).map (·.2.2), 0 ≤ x := fun x hx => by
  obtain ⟨t, ht, rfl⟩ := List.mem_map.mp hx
  exact (rnR_all l row h.2 h.1.2 g.2 t ht).2.2.2.2
theorem take_nn {l : List Int} (h : ∀ x ∈ l, 0 ≤ x) (i : Nat) : 0 ≤ sm (l.take i) := sm_nonneg _ (fun x hx => h x (List.mem_of_mem_take hx))
theorem fl_take {l : List Int} (g : FOk l) (i : Nat) : 0 ≤ sm (l.take i) ∧ sm (l.take i) ≤ 60000 := by
  have := sm_bd 1000 (l.take i) (fun x hx => g.2 x (List.mem_of_mem_take hx))
  have := g.1
  have : (l.take i).length ≤ 60 := by rw [List.length_take]; omega
  omega
theorem backI_l0 (G l : List Int) (c : Int) (hc : 0 ≤ c ∧ c ≤ 6000) (hl : FOk l) (hG : G.length = l.length) (hp : ∀ x ∈ G, 0 ≤ x) (hb : ∀ i, sm (G.take i) ≤ c + sm (l.take i)) : ∀ (r : List Int) (i k : Nat), l.drop i = r → r.length < k →
    impl_IsHeldBack.l0 k G (c + sm (l.take i)) (sm (G.take i)) l (l.length : Int) (i : Int) = some (true, true)
  | r, i, 0, _, hk => by omega
  | [], i, k + 1, e, _ => by
    have := dropn e
    simp only [impl_IsHeldBack.l0]; rw [if_neg (by omega)]
  | x :: r, i, k + 1, e, hk => by
    obtain ⟨e1, e2, e3⟩ := dropc e
    have h60 := hl.1
    have s1 := sm_take_succ e
    have f1 := fl_take hl (i + 1)
    have f0 := fl_take hl i
    obtain ⟨y, r2, e'⟩ : ∃ y r2, G.drop i = y :: r2 := ⟨G[i]'(by omega), G.drop (i + 1), List.drop_eq_getElem_cons (by omega)⟩
    obtain ⟨d1, d2, d3⟩ := dropc e'
    have s2 := sm_take_succ e'
    have g1 := take_nn hp (i + 1)
    have g0 := take_nn hp i
    have b1 := hb (i + 1)
    have b0 := hb i
    simp only [impl_IsHeldBack.l0]
    rw [if_pos (by omega), if_pos (by omega), if_pos (by omega), if_pos (by omega), rd_nat, rd_nat, e2, d2, w64 (x := sm (G.take i) + y) (by omega) (by omega), w64 (x := c + sm (l.take i) + x) (by omega) (by omega), if_neg (by omega), nx1 i (by omega)]
    have ih := backI_l0 G l c hc hl hG hp hb r (i + 1) k e3 (by simpa using hk)
    rw [show c + sm (l.take i) + x = c + sm (l.take (i + 1)) by omega, show sm (G.take i) + y = sm (G.take (i + 1)) by omega]
    exact ih
theorem BackI (k : Nat) (row : List S30) (l : List Int) (hk : 2000 < k) : impl_IsHeldBack.f k row l = some (aBack row l) := by
  unfold impl_IsHeldBack.f aBack
  rw [RunI k row l hk, Option.bind_some]
  unfold aRun
  by_cases h : ROk row ∧ FOk l
  · have hh := hldb h.1.2 h.1.1.2
    have h60 := h.2.1
    rw [if_pos h, if_pos h]
    simp only [if_true]
    rw [heldI k h.1.2 h.1.1.2 (by omega), Option.bind_some]
    have := backI_l0 ((rnR row l).map (·.2.2)) l (hld row) hh h.2 (by rw [List.length_map, rnR_len]) (give_in h.1 h.2) (fun i => rnR_back l row i h.1.2 h.2.2) l 0 k rfl (by omega)
    simpa using this
  · rw [if_neg h, if_neg h]
    simp
theorem backS_l0 (G l : List Int) (c : Int) (hc : 0 ≤ c ∧ c ≤ 6000) (hl : FOk l) (hG : G.length = l.length) (hp : ∀ x ∈ G, 0 ≤ x) (hb : ∀ i, sm (G.take i) ≤ c + sm (l.take i)) : ∀ (r : List Int) (i k : Nat), G.drop i = r → r.length < k →
    spec_IsHeldBack.l0 k l (c + sm (l.take i) - sm (G.take i)) G (G.length : Int) (i : Int) = some (true, true)
  | r, i, 0, _, hk => by omega
  | [], i, k + 1, e, _ => by
    have := dropn e
    simp only [spec_IsHeldBack.l0]; rw [if_neg (by omega)]
  | y :: r, i, k + 1, e', hk => by
    obtain ⟨d1, d2, d3⟩ := dropc e'
    have h60 := hl.1
    obtain ⟨x, r2, e⟩ : ∃ x r2, l.drop i = x :: r2 := ⟨l[i]'(by omega), l.drop (i + 1), List.drop_eq_getElem_cons (by omega)⟩
    obtain ⟨e1, e2, e3⟩ := dropc e
    have s1 := sm_take_succ e
    have f1 := fl_take hl (i + 1)
    have f0 := fl_take hl i
    have s2 := sm_take_succ e'
    have g1 := take_nn hp (i + 1)
    have g0 := take_nn hp i
    have b1 := hb (i + 1)
    have b0 := hb i
    simp only [spec_IsHeldBack.l0]
    rw [if_pos (by omega), if_pos (by omega), if_pos (by omega), if_pos (by omega), rd_nat, rd_nat, e2, d2, w64 (x := x - y) (by omega) (by omega), w64 (x := c + sm (l.take i) - sm (G.take i) + (x - y)) (by omega) (by omega), if_neg (by omega), nx1 i (by omega)]
    have ih := backS_l0 G l c hc hl hG hp hb r (i + 1) k d3 (by simpa using hk)
    rw [show c + sm (l.take i) - sm (G.take i) + (x - y) = c + sm (l.take (i + 1)) - sm (G.take (i + 1)) by omega]
    exact ih
theorem BackS (k : Nat) (row : List S30) (l : List Int) (hr : row.length ≤ 1000) (hl : l.length ≤ 1000) (hk : 2000 < k) : spec_IsHeldBack.f k row l = some (aBack row l) := by
  unfold spec_IsHeldBack.f aBack
  rw [ask_spec k row l hr hl (by omega), Option.bind_some]
  by_cases h : ROk row ∧ FOk l
  · have hh := hldb h.1.2 h.1.1.2
    have h60 := h.2.1
    rw [if_pos (decide_eq_true h), heldS k h.1.2 h.1.1.2 (by omega), Option.bind_some, go_spec k h.1 h.2 hk, Option.bind_some, if_pos h]
    have := backS_l0 ((rnR row l).map (·.2.2)) l (hld row) hh h.2 (by rw [List.length_map, rnR_len]) (give_in h.1 h.2) (fun i => rnR_back l row i h.1.2 h.2.2) _ 0 k rfl (by simp [rnR_len]; omega)
    simpa using this
  · rw [if_neg (by simp only [decide_eq_true_eq]; exact h), if_neg h]
theorem along_l0 (L : List (List S30)) (x : Nat) (hL : L.length ≤ 1000) : ∀ (r : List (List S30)) (a : List Int) (i k : Nat), L.drop i = r → a.length ≤ i → (∀ s ∈ r, x < s.length) → r.length < k →
    impl_HeldAlong.l0 k (x : Int) a L (L.length : Int) (i : Int) = some (a ++ r.map (fun t => (rd_T30 t (x : Int)).f2), true)
  | r, a, i, 0, _, _, _, hk => by omega
  | [], a, i, k + 1, e, _, _, _ => by
    have := dropn e
    simp only [impl_HeldAlong.l0]; rw [if_neg (by omega)]; simp
  | s :: r, a, i, k + 1, e, ha, hs, hk => by
    obtain ⟨e1, e2, e3⟩ := dropc e
    have q := hs s (List.mem_cons_self ..)
    simp only [impl_HeldAlong.l0]
    rw [if_pos (by omega), if_pos (by omega), if_pos (by omega), rd3_nat, e2, if_pos (by omega), if_pos (by omega), if_pos (by omega), nx1 i (by omega), along_l0 L x hL r _ (i + 1) k e3 (by simp; omega) (fun z hz => hs z (List.mem_cons_of_mem _ hz)) (by simpa using hk)]
    simp
theorem AlongI (k : Nat) (row : List S30) (i : Int) (l : List Int) (hr : row.length ≤ 1000) (hk : 2000 < k) : impl_HeldAlong.f k row i l = some (aAlong row i l) := by
  unfold impl_HeldAlong.f impl_isBasinOf.f aAlong
  rw [row_impl, Option.bind_some]
  by_cases h : ROk row
  · rw [if_pos (decide_eq_true h), fl_impl, Option.bind_some]
    by_cases g : FOk l
    · rw [if_pos (decide_eq_true g), w64 (by omega) (by omega), in_impl, Option.bind_some, Option.bind_some]
      by_cases q : 0 ≤ i ∧ i ≤ (row.length : Int) - 1
      · obtain ⟨j, rfl⟩ : ∃ j : Nat, i = (j : Int) := ⟨i.toNat, by omega⟩
        have h60 := g.1
        rw [if_pos (decide_eq_true q), run_impl k h g hk, Option.bind_some, if_pos (show 1 ≤ (((row :: (rnR row l).map (·.1)).length : Nat) : Int) by simp; omega), Option.bind_some, if_pos (show (ROk row ∧ FOk l) ∧ (0 ≤ (j : Int) ∧ (j : Int) ≤ (row.length : Int) - 1) from ⟨⟨h, g⟩, q⟩)]
        have := along_l0 ((rnR row l).map (·.1)) j (by simp [rnR_len]; omega) ((rnR row l).map (·.1)) [] 0 k rfl (by simp) (fun s hs => by
          obtain ⟨t, ht, rfl⟩ := List.mem_map.mp hs
          rw [(rnR_all l row h.2 h.1.2 g.2 t ht).2.1]; omega) (by simp [rnR_len]; omega)
        simp only [List.nil_append, List.map_map] at this
        exact this
      · rw [if_neg (by simp only [decide_eq_true_eq]; exact q), if_neg (fun z => q z.2)]
    · rw [if_neg (by simp only [decide_eq_true_eq]; exact g), Option.bind_some, if_neg (by simp), if_neg (fun q => g q.1.2)]
  · rw [if_neg (by simp only [decide_eq_true_eq]; exact h), Option.bind_some, if_neg (by simp), if_neg (fun q => h q.1.1)]
end Go.Proofs.Ytflbcikfphfkdaa.PuB
