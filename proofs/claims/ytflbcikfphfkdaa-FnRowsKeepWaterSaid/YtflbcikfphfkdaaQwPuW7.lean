/- Plain functions and what they come to. -/
import Derived.Test.YtflbcikfphfkdaaQwPuW5
import Derived.Test.YtflbcikfphfkdaaQwPuW6
namespace Go.Proofs.Ytflbcikfphfkdaa.PuB
open Go.RowKit Go.Proofs.Ytflbcikfphfkdaa.R Go.Proofs.YtflbcikfphfkdaaW.PrintLast Go.Proofs.YtflbcikfphfkdaaW.PrintMore
open Go.Proofs.YtflbcikfphfkdaaW.PrintWords hiding Ev
set_option linter.unusedVariables false
set_option linter.unusedSimpArgs false
theorem hSame_l0 (a : List Int) (hb : a.length ≤ 1000) : ∀ (d k i : Nat), i + d = a.length → d < k → laws_hSame.l0 k a a (a.length : Int) (i : Int) = some true
  | 0, 0, i, _, h => by omega
  | 0, k + 1, i, hi, _ => by simp only [laws_hSame.l0]; rw [if_neg (by omega)]
  | d + 1, 0, i, _, h => by omega
  | d + 1, k + 1, i, hi, hk => by
    simp only [laws_hSame.l0]
    rw [if_pos (by omega), if_pos (by omega), if_pos (by omega), if_pos (by omega), if_pos trivial, nx1 i (by omega)]
    exact hSame_l0 a hb d k (i + 1) (by omega) (by omega)
theorem hSame_f (k : Nat) (a : List Int) (hb : a.length ≤ 1000) (hk : 1000 < k) : laws_hSame.f k a a = some true := by
  unfold laws_hSame.f
  rw [if_pos rfl]
  exact hSame_l0 a hb a.length k 0 (by omega) (by omega)
theorem hBas_l0 (a : List S30) (hb : a.length ≤ 1000) : ∀ (d k i : Nat), i + d = a.length → d < k → laws_hBasins.l0 k a a (a.length : Int) (i : Int) = some true
  | 0, 0, i, _, h => by omega
  | 0, k + 1, i, hi, _ => by simp only [laws_hBasins.l0]; rw [if_neg (by omega)]
  | d + 1, 0, i, _, h => by omega
  | d + 1, k + 1, i, hi, hk => by
    simp only [laws_hBasins.l0]
    rw [if_pos (by omega), if_pos (by omega), if_pos (by omega), if_pos (by omega), if_neg (by simp), nx1 i (by omega)]
    exact hBas_l0 a hb d k (i + 1) (by omega) (by omega)
theorem hBas_f (k : Nat) (a : List S30) (hb : a.length ≤ 1000) (hk : 1000 < k) : laws_hBasins.f k a a = some true := by
  unfold laws_hBasins.f
  rw [if_pos rfl]
  exact hBas_l0 a hb a.length k 0 (by omega) (by omega)
theorem hSum_l0 (l : List Int) (B : Int) (hB : 0 ≤ B ∧ B ≤ 1000000000) (hn : l.length ≤ 100) (hx : ∀ x ∈ l, 0 ≤ x ∧ x ≤ B) : ∀ (r : List Int) (i k : Nat), l.drop i = r → r.length < k → laws_hSum.l0 k (sm (l.take i)) l (l.length : Int) (i : Int) = some (sm l)
  | r, i, 0, _, hk => by omega
  | [], i, k + 1, e, _ => by
    have := dropn e
    simp only [laws_hSum.l0]; rw [if_neg (by omega), List.take_of_length_le this]
  | x :: r, i, k + 1, e, hk => by
    obtain ⟨e1, e2, e3⟩ := dropc e
    have s1 := sm_take_succ e
    have b1 := sm_bd B (l.take (i + 1)) (fun x hx' => hx x (List.mem_of_mem_take hx'))
    have q : (l.take (i + 1)).length ≤ 100 := by rw [List.length_take]; omega
    have q2 : B * ((l.take (i + 1)).length : Int) ≤ B * 100 := Int.mul_le_mul_of_nonneg_left (by omega) hB.1
    simp only [laws_hSum.l0]
    rw [if_pos (by omega), if_pos (by omega), if_pos (by omega), rd_nat, e2, w64 (x := sm (l.take i) + x) (by omega) (by omega), nx1 i (by omega), ← s1]
    exact hSum_l0 l B hB hn hx r (i + 1) k e3 (by simpa using hk)
theorem hSum_f (k : Nat) (l : List Int) (B : Int) (hB : 0 ≤ B ∧ B ≤ 1000000000) (hn : l.length ≤ 100) (hx : ∀ x ∈ l, 0 ≤ x ∧ x ≤ B) (hk : 1000 < k) : laws_hSum.f k l = some (sm l) := by
  unfold laws_hSum.f
  have := hSum_l0 l B hB hn hx l 0 k rfl (by omega)
  simpa using this
/-- sums up to each place -/
def tot : Int → List Int → List Int
  | _, [] => []
  | s, x :: l => (s + x) :: tot (s + x) l
theorem tot_len : ∀ (l : List Int) (s : Int), (tot s l).length = l.length
  | [], _ => rfl
  | x :: l, s => by simp [tot, tot_len l]
theorem tot_last : ∀ (l : List Int) (s : Int), l ≠ [] → (tot s l).getLast? = some (s + sm l)
  | [], _, h => absurd rfl h
  | [x], s, _ => by simp [tot]
  | x :: y :: l, s, _ => by
    have := tot_last (y :: l) (s + x) (by simp)
    simp only [tot, sm_cons] at this ⊢
    rw [List.getLast?_cons_cons, this]; congr 1; omega
def aTot (l : List Int) : List Int × Bool := if FOk l then (tot 0 l, true) else ([], false)
theorem tot_l0 (F : Nat → List Int → Int → List Int → Int → Int → Option (List Int × Bool)) (hF : ∀ k a s l n i, F (k + 1) a s l n i = if i < n then (if 0 ≤ i then (if i < (l.length : Int) then (if a.length < 17592186044416 then F k (a ++ [wrap64 (s + rd l i)]) (wrap64 (s + rd l i)) l n (wrap64 (i + 1)) else none) else none) else none) else some (a, true))
    (l : List Int) (hl : FOk l) : ∀ (r a : List Int) (i k : Nat), l.drop i = r → a.length ≤ i → r.length < k → F k a (sm (l.take i)) l (l.length : Int) (i : Int) = some (a ++ tot (sm (l.take i)) r, true)
  | r, a, i, 0, _, _, hk => by omega
  | [], a, i, k + 1, e, _, _ => by
    have := dropn e
    rw [hF, if_neg (by omega)]; simp [tot]
  | x :: r, a, i, k + 1, e, ha, hk => by
    obtain ⟨e1, e2, e3⟩ := dropc e
    have s1 := sm_take_succ e
    have f1 := fl_take hl (i + 1)
    have h60 := hl.1
    rw [hF, if_pos (by omega), if_pos (by omega), if_pos (by omega), if_pos (by omega), rd_nat, e2, w64 (x := sm (l.take i) + x) (by omega) (by omega), nx1 i (by omega), ← s1, tot_l0 F hF l hl r _ (i + 1) k e3 (by simp; omega) (by simpa using hk)]
    simp [tot, s1]
theorem TotI (k : Nat) (l : List Int) (hk : 1000 < k) : impl_RunningTotals.f k l = some (aTot l) := by
  unfold impl_RunningTotals.f aTot
  rw [fl_impl, Option.bind_some]
  by_cases h : FOk l
  · have h60 := h.1
    rw [if_pos (decide_eq_true h), if_pos h]
    have := tot_l0 impl_RunningTotals.l0 (fun k a s l n i => by simp only [impl_RunningTotals.l0]) l h l [] 0 k rfl (by simp) (by omega)
    simpa using this
  · rw [if_neg (by simp only [decide_eq_true_eq]; exact h), if_neg h]
theorem TotS (k : Nat) (l : List Int) (hl : l.length ≤ 1000) (hk : 1000 < k) : spec_RunningTotals.f k l = some (aTot l) := by
  unfold spec_RunningTotals.f aTot
  rw [fl_spec k l hl hk, Option.bind_some]
  by_cases h : FOk l
  · have h60 := h.1
    rw [if_pos (decide_eq_true h), if_pos h]
    have := tot_l0 spec_RunningTotals.l0 (fun k a s l n i => by simp only [spec_RunningTotals.l0]) l h l [] 0 k rfl (by simp) (by omega)
    simpa using this
  · rw [if_neg (by simp only [decide_eq_true_eq]; exact h), if_neg h]
theorem FlS (k : Nat) (l : List Int) (hl : l.length ≤ 1000) (hk : 1000 < k) : spec_AreFlows.f k l = some (decide (FOk l)) := by
  unfold spec_AreFlows.f
  rw [fl_spec k l hl hk, Option.bind_some]
theorem cat_f (k : Nat) (a b : List S30) (ha : a.length ≤ 6) (hb : b.length ≤ 6) (hk : 1000 < k) : impl_Basin_74.f k [a, b] = some (a ++ b) := by
  obtain ⟨k, rfl⟩ : ∃ m, k = m + 6 := ⟨k - 6, by omega⟩
  unfold impl_Basin_74.f
  have w1 : wrap64 (0 + (a.length : Int)) = (a.length : Int) := by rw [w64 (by omega) (by omega)]; omega
  have w2 : wrap64 ((a.length : Int) + (b.length : Int)) = (a.length : Int) + (b.length : Int) := w64 (by omega) (by omega)
  have r0 : rd_L3 [a, b] 0 = a := rfl
  have r1 : rd_L3 [a, b] 1 = b := rfl
  have n0 : wrap64 (0 + 1) = 1 := by unfold wrap64; omega
  have n1 : wrap64 (1 + 1) = 2 := by unfold wrap64; omega
  have hlen : (([a, b] : List (List S30)).length : Int) = 2 := rfl
  rw [hlen]
  rw [show k + 6 = (k + 5) + 1 from rfl, impl_Basin_74.l0, if_pos (by omega), if_pos (by omega), if_pos (by rw [hlen]; omega), r0, w1, if_neg (by omega), n0,
    show k + 5 = (k + 4) + 1 from rfl, impl_Basin_74.l0, if_pos (by omega), if_pos (by omega), if_pos (by rw [hlen]; omega), r1, w2, if_neg (by omega), n1,
    show k + 4 = (k + 3) + 1 from rfl, impl_Basin_74.l0, if_neg (by omega), if_pos (by omega), if_pos (by omega), hlen,
    show k + 3 = (k + 2) + 1 from rfl, impl_Basin_74.l1, if_pos (by omega), if_pos (by omega), if_pos (by rw [hlen]; omega), r0, if_pos (by simp; omega), n0,
    show k + 2 = (k + 1) + 1 from rfl, impl_Basin_74.l1, if_pos (by omega), if_pos (by omega), if_pos (by rw [hlen]; omega), r1, if_pos (by simp; omega), n1, impl_Basin_74.l1, if_neg (by omega)]
  simp
theorem JoinI (k : Nat) (a b : List S30) (hk : 1000 < k) : impl_JoinRows.f k a b = some (aJoin a b) := by
  unfold impl_JoinRows.f aJoin
  rw [row_impl, Option.bind_some]
  by_cases h : ROk a
  · rw [if_pos (decide_eq_true h), row_impl, Option.bind_some]
    by_cases g : ROk b
    · have := h.1.2
      have := g.1.2
      rw [if_pos (decide_eq_true g), w64 (by omega) (by omega)]
      by_cases q : a.length + b.length ≤ 6
      · rw [if_neg (by omega), cat_f k a b h.1.2 g.1.2 hk, Option.bind_some, if_pos ⟨⟨h, g⟩, q⟩]
      · rw [if_pos (by omega), if_neg (fun z => q z.2)]
    · rw [if_neg (by simp only [decide_eq_true_eq]; exact g), if_neg (fun q => g q.1.2)]
  · rw [if_neg (by simp only [decide_eq_true_eq]; exact h), if_neg (fun q => h q.1.1)]
theorem JoinS (k : Nat) (a b : List S30) (ha : a.length ≤ 1000) (hb : b.length ≤ 1000) (hk : 1000 < k) : spec_JoinRows.f k a b = some (aJoin a b) := by
  unfold spec_JoinRows.f aJoin
  rw [row_spec k a ha hk, Option.bind_some]
  by_cases h : ROk a
  · rw [if_pos (decide_eq_true h), row_spec k b hb hk, Option.bind_some]
    by_cases g : ROk b
    · have := h.1.2
      have := g.1.2
      rw [if_pos (decide_eq_true g), w64 (by omega) (by omega)]
      by_cases q : a.length + b.length ≤ 6
      · rw [if_neg (by omega), Option.bind_some, if_pos (by simp; omega), Option.bind_some, if_pos (by simp; omega), if_pos (show (ROk a ∧ ROk b) ∧ a.length + b.length ≤ 6 from ⟨⟨h, g⟩, q⟩), List.nil_append]
      · rw [if_pos (by omega), if_neg (fun z => q z.2)]
    · rw [if_neg (by simp only [decide_eq_true_eq]; exact g), if_neg (fun q => g q.1.2)]
  · rw [if_neg (by simp only [decide_eq_true_eq]; exact h), if_neg (fun q => h q.1.1)]
end Go.Proofs.Ytflbcikfphfkdaa.PuB
