/- Plain functions and what they come to. -/
import Derived.Test.YtieioddimkafbaaTbVx
namespace Go.Proofs.Ytieioddimkafbaa.PuB
open Go.RowKit Go.Proofs.Ytieioddimkafbaa.V Go.Proofs.YtieioddimkafbaaW.PrintWords Go.Proofs.YtieioddimkafbaaW.PrintLast Go.Proofs.YtieioddimkafbaaW.PrintMore Go.Proofs.Ytieioddimkafbaa
set_option linter.unusedVariables false
set_option linter.unusedSimpArgs false
theorem w64 {x : Int} (h0 : -9223372036854775808 ≤ x) (h1 : x ≤ 9223372036854775807) : wrap64 x = x := by
  unfold wrap64; omega
theorem in_spec (a b c : Int) : spec_l1In.f a b c = some (decide (b ≤ a ∧ a ≤ c)) := by
  unfold spec_l1In.f
  by_cases h : a ≥ b
  · rw [if_pos h]; congr 1; simp [show b ≤ a from h]
  · rw [if_neg h]; congr 1; simp [show ¬ b ≤ a from h]
theorem in_impl (a b c : Int) : impl_within.f a b c = some (decide (b ≤ a ∧ a ≤ c)) := by
  unfold impl_within.f
  by_cases h : b ≤ a
  · rw [if_pos h]; congr 1; simp [h]
  · rw [if_neg h]; congr 1; simp [h]
theorem rd_nat (l : List Int) (i : Nat) : rd l (i : Int) = l.getD i 0 := by unfold rd; simp
theorem drop_rd (l : List Int) (i : Nat) (h : i < l.length) : l.drop i = rd l (i : Int) :: l.drop (i + 1) := by
  rw [rd_nat, List.drop_eq_getElem_cons h]; simp [h]
theorem all_l0 (lo hi : Int) (l : List Int) (hb : l.length ≤ 17592186044416) : ∀ (d k i : Nat), i + d = l.length → d < k →
    spec_l1All.l0 k lo hi l (l.length : Int) (i : Int) = some ((l.drop i).all fun x => decide (lo ≤ x ∧ x ≤ hi)) := by
  intro d
  induction d with
  | zero =>
    intro k i hi hk
    obtain ⟨k, rfl⟩ : ∃ m, k = m + 1 := ⟨k - 1, by omega⟩
    simp only [spec_l1All.l0]; rw [if_neg (by omega), List.drop_of_length_le (by omega)]; rfl
  | succ d ih =>
    intro k i hi hk
    obtain ⟨k, rfl⟩ : ∃ m, k = m + 1 := ⟨k - 1, by omega⟩
    simp only [spec_l1All.l0]
    rw [if_pos (by omega), if_pos (by omega), if_pos (by omega), in_spec, drop_rd l i (by omega)]
    simp only [Option.bind_some, List.all_cons]
    have ih' := ih k (i + 1) (by omega) (by omega)
    rw [w64 (by omega) (by omega), show ((i : Int) + 1) = ((i + 1 : Nat) : Int) by simp]
    split
    · rename_i h; rw [ih', h, Bool.true_and]
    · rename_i h; rw [Bool.eq_false_iff.mpr h, Bool.false_and]
theorem all_f (k : Nat) (l : List Int) (lo hi : Int) (hb : l.length ≤ 17592186044416) (hk : l.length < k) : spec_l1All.f k l lo hi = some (l.all fun x => decide (lo ≤ x ∧ x ≤ hi)) := by
  unfold spec_l1All.f
  have := all_l0 lo hi l hb l.length k 0 (by omega) hk
  simpa using this
/-- each amount lies between 0 and its size -/
def fits : List Int → List Int → Bool
  | s :: S, h :: H => decide (0 ≤ h ∧ h ≤ s) && fits S H
  | _, _ => true
theorem fits_spec (S H : List Int) (hb : S.length ≤ 17592186044416) (he : H.length = S.length) : ∀ (d k i : Nat), i + d = S.length → d < k →
    spec_veGood.l0 k H (H.length : Int) (i : Int) S H = some (fits (S.drop i) (H.drop i)) := by
  intro d
  induction d with
  | zero =>
    intro k i hi hk
    obtain ⟨k, rfl⟩ : ∃ m, k = m + 1 := ⟨k - 1, by omega⟩
    simp only [spec_veGood.l0]; rw [if_neg (by omega), List.drop_of_length_le (by omega)]; rfl
  | succ d ih =>
    intro k i hi hk
    obtain ⟨k, rfl⟩ : ∃ m, k = m + 1 := ⟨k - 1, by omega⟩
    simp only [spec_veGood.l0]
    rw [if_pos (by omega), if_pos (by omega), if_pos (by omega), if_pos (by omega), in_spec, drop_rd S i (by omega), drop_rd H i (by omega)]
    simp only [Option.bind_some, fits]
    have ih' := ih k (i + 1) (by omega) (by omega)
    rw [w64 (by omega) (by omega), show ((i : Int) + 1) = ((i + 1 : Nat) : Int) by simp]
    split
    · rename_i h; rw [ih', h, Bool.true_and]
    · rename_i h; rw [Bool.eq_false_iff.mpr h, Bool.false_and]
theorem fits_impl (S H : List Int) (hb : S.length ≤ 17592186044416) (he : H.length = S.length) : ∀ (d k i : Nat), i + d = S.length → d < k →
    impl_AreVessels.l0 k H (H.length : Int) (i : Int) S H = some (fits (S.drop i) (H.drop i)) := by
  intro d
  induction d with
  | zero =>
    intro k i hi hk
    obtain ⟨k, rfl⟩ : ∃ m, k = m + 1 := ⟨k - 1, by omega⟩
    simp only [impl_AreVessels.l0]; rw [if_neg (by omega), List.drop_of_length_le (by omega)]; rfl
  | succ d ih =>
    intro k i hi hk
    obtain ⟨k, rfl⟩ : ∃ m, k = m + 1 := ⟨k - 1, by omega⟩
    simp only [impl_AreVessels.l0]
    rw [if_pos (by omega), if_pos (by omega), if_pos (by omega), if_pos (by omega), in_impl, drop_rd S i (by omega), drop_rd H i (by omega)]
    simp only [Option.bind_some, fits]
    have ih' := ih k (i + 1) (by omega) (by omega)
    rw [w64 (by omega) (by omega), show ((i : Int) + 1) = ((i + 1 : Nat) : Int) by simp]
    split
    · rename_i h; rw [ih', h, Bool.true_and]
    · rename_i h; rw [Bool.eq_false_iff.mpr h, Bool.false_and]
/-- These are vessels. -/
def VOk (S H : List Int) : Bool := decide (1 ≤ S.length ∧ S.length ≤ 5) && (decide (H.length = S.length) && ((S.all fun x => decide (1 ≤ x ∧ x ≤ 60)) && fits S H))
theorem good_spec (k : Nat) (S H : List Int) (hb : S.length ≤ 17592186044416) (hk : S.length + 1 < k) : spec_veGood.f k S H = some (VOk S H) := by
  obtain ⟨k, rfl⟩ : ∃ m, k = m + 1 := ⟨k - 1, by omega⟩
  unfold spec_veGood.f VOk
  rw [in_spec]; simp only [Option.bind_some]
  by_cases h1 : 1 ≤ S.length ∧ S.length ≤ 5
  · rw [if_pos (by simp; omega)]
    by_cases h2 : H.length = S.length
    · rw [if_pos (by omega), all_f (k + 1) S 1 60 hb (by omega)]
      simp only [Option.bind_some, spec_veGood.j0]
      by_cases h3 : (S.all fun x => decide (1 ≤ x ∧ x ≤ 60)) = true
      · have := fits_spec S H hb h2 S.length k 0 (by omega) (by omega)
        rw [h3]; simp only [Bool.not_true, Bool.false_eq_true, if_false]
        simp only [List.drop_zero] at this
        rw [show (0 : Int) = ((0 : Nat) : Int) from rfl, this]; simp [h1, h2]
      · rw [Bool.eq_false_iff.mpr h3]; simp [h1, h2]
    · rw [if_neg (by omega)]; simp [spec_veGood.j0, h2]
  · rw [if_neg (by simp; omega)]; simp [spec_veGood.j0]; omega
theorem good_impl (k : Nat) (S H : List Int) (hb : S.length ≤ 17592186044416) (hk : S.length + 1 < k) : impl_AreVessels.f k S H = some (VOk S H) := by
  obtain ⟨k, rfl⟩ : ∃ m, k = m + 1 := ⟨k - 1, by omega⟩
  unfold impl_AreVessels.f VOk impl_areWithin.f
  rw [in_impl]; simp only [Option.bind_some]
  by_cases h1 : 1 ≤ S.length ∧ S.length ≤ 5
  · rw [if_pos (by simp; omega)]
    by_cases h2 : H.length = S.length
    · rw [if_pos (by omega)]
      simp only [impl_AreVessels.j0]
      by_cases h3 : (S.all fun x => decide (1 ≤ x ∧ x ≤ 60)) = true
      · have := fits_impl S H hb h2 S.length k 0 (by omega) (by omega)
        rw [h3]; simp only [Bool.not_true, Bool.false_eq_true, if_false]
        simp only [List.drop_zero] at this
        rw [show (0 : Int) = ((0 : Nat) : Int) from rfl, this]; simp [h1, h2]
      · rw [Bool.eq_false_iff.mpr h3]; simp [h1, h2]
    · rw [if_neg (by omega)]; simp [impl_AreVessels.j0, h2]
  · rw [if_neg (by simp; omega)]; simp [impl_AreVessels.j0]; omega
abbrev Mv := S55
abbrev rdMv (l : List Mv) (i : Int) : Mv := l.getD i.toNat z55
theorem rdMvEq (l : List Mv) (i : Int) : rd_T55 l i = rdMv l i := rfl
theorem fits_len : ∀ (S H : List Int), fits S H = true → ∀ i, i < S.length → i < H.length → 0 ≤ rd H (i : Int) ∧ rd H (i : Int) ≤ rd S (i : Int)
  | [], _, _, i, h, _ => absurd h (Nat.not_lt_zero _)
  | _ :: _, [], _, i, _, h => absurd h (Nat.not_lt_zero _)
  | s :: S, h :: H, hf, 0, _, _ => by simp [fits] at hf; exact hf.1
  | s :: S, h :: H, hf, i + 1, h0, h1 => by
    simp only [fits, Bool.and_eq_true] at hf
    have := fits_len S H hf.2 i (by simpa using h0) (by simpa using h1)
    rw [rd_nat, rd_nat] at this ⊢
    simpa using this
/-- what vessels are, spelled out -/
structure VFacts (S H : List Int) : Prop where
  n0 : 1 ≤ S.length
  n1 : S.length ≤ 5
  he : H.length = S.length
  sz : ∀ i, i < S.length → 1 ≤ rd S (i : Int) ∧ rd S (i : Int) ≤ 60
  ht : ∀ i, i < S.length → 0 ≤ rd H (i : Int) ∧ rd H (i : Int) ≤ rd S (i : Int)
theorem VOk.facts {S H : List Int} (h : VOk S H = true) : VFacts S H := by
  simp only [VOk, Bool.and_eq_true, decide_eq_true_eq] at h
  obtain ⟨⟨n0, n1⟩, he, ha, hf⟩ := h
  refine ⟨n0, n1, he, fun i hi => ?_, fun i hi => fits_len S H hf i hi (by omega)⟩
  have := List.all_eq_true.mp ha (S.getD i 0) (by rw [List.getD_eq_getElem?_getD, List.getElem?_eq_getElem hi]; exact List.getElem_mem hi)
  rw [rd_nat]; simpa using this
theorem VFacts.szI {S H : List Int} (F : VFacts S H) (i : Int) (h0 : 0 ≤ i) (h1 : i < S.length) : 1 ≤ rd S i ∧ rd S i ≤ 60 := by
  obtain ⟨j, rfl⟩ := Int.eq_ofNat_of_zero_le h0; exact F.sz j (by omega)
theorem VFacts.htI {S H : List Int} (F : VFacts S H) (i : Int) (h0 : 0 ≤ i) (h1 : i < S.length) : 0 ≤ rd H i ∧ rd H i ≤ rd S i := by
  obtain ⟨j, rfl⟩ := Int.eq_ofNat_of_zero_le h0; exact F.ht j (by omega)
/-- The amount of a move. -/
def amt (S H : List Int) (f t : Int) : Int := if f < 0 then rd S t - rd H t else if t < 0 then rd H f else min (rd H f) (rd S t - rd H t)
/-- a move of so many vessels -/
def mvOk (n : Nat) (f t : Int) : Prop := (-1 ≤ f ∧ f ≤ n - 1) ∧ (-1 ≤ t ∧ t ≤ n - 1) ∧ f ≠ t
instance (n : Nat) (f t : Int) : Decidable (mvOk n f t) := by unfold mvOk; infer_instance
theorem amt_bd {S H : List Int} (F : VFacts S H) (f t : Int) (h : mvOk S.length f t) : 0 ≤ amt S H f t ∧ amt S H f t ≤ 60 := by
  obtain ⟨⟨a0, a1⟩, ⟨b0, b1⟩, ne⟩ := h
  unfold amt
  by_cases hf : f < 0
  · rw [if_pos hf]; have := F.szI t (by omega) (by omega); have := F.htI t (by omega) (by omega); omega
  · rw [if_neg hf]
    have := F.szI f (by omega) (by omega); have := F.htI f (by omega) (by omega)
    by_cases hg : t < 0
    · rw [if_pos hg]; omega
    · rw [if_neg hg]; have := F.szI t (by omega) (by omega); have := F.htI t (by omega) (by omega); omega
theorem amt_spec {S H : List Int} (F : VFacts S H) (f t : Int) (h : mvOk S.length f t) : spec_veAmount.f S H f t = some (amt S H f t) := by
  obtain ⟨⟨a0, a1⟩, ⟨b0, b1⟩, ne⟩ := h
  have he := F.he
  unfold spec_veAmount.f amt spec_l1Least.f
  by_cases hf : f < 0
  · have := F.szI t (by omega) (by omega); have := F.htI t (by omega) (by omega)
    rw [if_neg (by omega), if_pos (by omega), if_pos (by omega), if_pos (by omega), if_pos (by omega), if_pos hf, w64 (by omega) (by omega)]
    by_cases c : 60 < rd S t - rd H t
    · omega
    · rw [if_neg c]; rfl
  · have := F.szI f (by omega) (by omega); have := F.htI f (by omega) (by omega)
    rw [if_pos (by omega), if_pos (by omega), if_pos (by omega), if_neg hf]
    by_cases hg : t < 0
    · rw [if_neg (by omega), if_pos hg]
    · have := F.szI t (by omega) (by omega); have := F.htI t (by omega) (by omega)
      rw [if_pos (by omega), if_pos (by omega), if_pos (by omega), if_pos (by omega), if_neg hg, w64 (by omega) (by omega)]
      by_cases c : rd H f < rd S t - rd H t
      · rw [if_pos c]; simp only [Option.bind_some]; congr 1; omega
      · rw [if_neg c]; simp only [Option.bind_some]; congr 1; omega
theorem amt_impl {S H : List Int} (F : VFacts S H) (f t : Int) (h : mvOk S.length f t) : impl_Vessels_amount.f S H f t = some (amt S H f t) := by
  obtain ⟨⟨a0, a1⟩, ⟨b0, b1⟩, ne⟩ := h
  have he := F.he
  unfold impl_Vessels_amount.f impl_Vessels_room.f amt
  by_cases hf : f < 0
  · have := F.szI t (by omega) (by omega); have := F.htI t (by omega) (by omega)
    rw [if_pos hf, if_pos (by omega), if_pos (by omega), if_pos (by omega), if_pos hf, w64 (by omega) (by omega)]; rfl
  · have := F.szI f (by omega) (by omega); have := F.htI f (by omega) (by omega)
    rw [if_neg hf, if_neg hf]
    by_cases hg : t < 0
    · rw [if_pos hg, if_pos (by omega), if_pos (by omega), if_pos hg]
    · have := F.szI t (by omega) (by omega); have := F.htI t (by omega) (by omega)
      rw [if_neg hg, if_pos (by omega), if_pos (by omega), if_pos (by omega), if_pos (by omega), if_pos (by omega), if_neg hg, w64 (by omega) (by omega)]
      simp only [Option.bind_some]; congr 1; unfold mn; omega
theorem mv_spec (n : Nat) (f t : Int) (h : n ≤ 5) : spec_veMove.f (n : Int) f t = some (decide (mvOk n f t)) := by
  unfold spec_veMove.f
  rw [w64 (by omega) (by omega), in_spec]; simp only [Option.bind_some]
  by_cases a : -1 ≤ f ∧ f ≤ n - 1
  · rw [if_pos (by simpa using a), in_spec]; simp only [Option.bind_some]
    by_cases b : -1 ≤ t ∧ t ≤ n - 1
    · rw [if_pos (by simpa using b)]; congr 1; simp only [mvOk, a, b, bne, true_and]
      by_cases e : f = t
      · simp [e]
      · simp [e]
    · rw [if_neg (by simpa using b)]; congr 1; symm; simp only [decide_eq_false_iff_not]; intro h; exact b h.2.1
  · rw [if_neg (by simpa using a)]; congr 1; symm; simp only [decide_eq_false_iff_not]; intro h; exact a h.1
/-- the moves from f to t, t + 1, .. (so many) -/
def seg (S H : List Int) (closed : Bool) (f : Int) : Nat → Int → List (Mv)
  | 0, _ => []
  | d + 1, t => (if f ≠ t ∧ ¬ (closed = true ∧ (f < 0 ∨ t < 0)) ∧ amt S H f t ≠ 0 then [(⟨f, t⟩ : Mv)] else []) ++ seg S H closed f d (t + 1)
def rows (S H : List Int) (closed : Bool) : Nat → Int → List (Mv)
  | 0, _ => []
  | d + 1, f => seg S H closed f (S.length + 1) (-1) ++ rows S H closed d (f + 1)
/-- All moves with an amount, in order. -/
def mvs (S H : List Int) (closed : Bool) : List (Mv) := rows S H closed (S.length + 1) (-1)
theorem seg_len (S H : List Int) (closed : Bool) (f : Int) : ∀ d t, (seg S H closed f d t).length ≤ d
  | 0, _ => by simp [seg]
  | d + 1, t => by
    have := seg_len S H closed f d (t + 1)
    simp only [seg, List.length_append]
    split <;> simp <;> omega
theorem rows_len (S H : List Int) (closed : Bool) : ∀ d f, (rows S H closed d f).length ≤ d * (S.length + 1)
  | 0, _ => by simp [rows]
  | d + 1, f => by
    have := rows_len S H closed d (f + 1)
    have := seg_len S H closed f (S.length + 1) (-1)
    simp only [rows, List.length_append]
    rw [Nat.add_mul]; omega
theorem mvs_len {S H : List Int} (F : VFacts S H) (closed : Bool) : (mvs S H closed).length ≤ 36 := by
  have := rows_len S H closed (S.length + 1) (-1)
  have h6 : S.length + 1 ≤ 6 := by have := F.n1; omega
  have : (S.length + 1) * (S.length + 1) ≤ 6 * 6 := Nat.mul_le_mul h6 h6
  unfold mvs; omega
theorem on_l1 {S H : List Int} (F : VFacts S H) (closed : Bool) (f : Int) (hf : -1 ≤ f ∧ f < S.length) : ∀ (d k : Nat) (acc : List (Mv)) (t : Int), -1 ≤ t → t + d = S.length → d < k → acc.length + d ≤ 1000 →
    ∃ k', k' + d + 1 = k ∧ spec_veOn.l1 k closed acc f t S H = spec_veOn.l0 k' closed (acc ++ seg S H closed f d t) (f + 1) S H := by
  have n1 := F.n1
  intro d
  induction d with
  | zero =>
    intro k acc t ht hd hk ha
    obtain ⟨k, rfl⟩ : ∃ m, k = m + 1 := ⟨k - 1, by omega⟩
    refine ⟨k, by omega, ?_⟩
    simp only [spec_veOn.l1]; rw [if_neg (by omega), w64 (by omega) (by omega)]; simp [seg]
  | succ d ih =>
    intro k acc t ht hd hk ha
    obtain ⟨k, rfl⟩ : ∃ m, k = m + 1 := ⟨k - 1, by omega⟩
    simp only [spec_veOn.l1]
    rw [if_pos (by omega), mv_spec S.length f t n1, w64 (x := t + 1) (by omega) (by omega)]; simp only [Option.bind_some]
    by_cases e : f = t
    · rw [if_neg (by simp [mvOk, e])]
      obtain ⟨k', hk', h⟩ := ih k acc (t + 1) (by omega) (by omega) (by omega) (by omega)
      refine ⟨k', by omega, ?_⟩
      rw [h]; simp [seg, e]
    · have ok : mvOk S.length f t := ⟨by omega, by omega, e⟩
      rw [if_pos (by simpa using ok), amt_spec F f t ok]; simp only [Option.bind_some]
      by_cases z : amt S H f t = 0
      · obtain ⟨k', hk', h⟩ := ih k acc (t + 1) (by omega) (by omega) (by omega) (by omega)
        refine ⟨k', by omega, ?_⟩
        rw [if_pos z]
        cases closed with
        | false => simp only [Bool.false_eq_true, if_false]; rw [h]; simp [seg, z]
        | true =>
          simp only [if_true]
          by_cases f0 : f < 0
          · rw [if_pos f0, h]; simp [seg, z]
          · rw [if_neg f0]
            by_cases t0 : t < 0
            · rw [if_pos t0, h]; simp [seg, z]
            · rw [if_neg t0, h]; simp [seg, z]
      · rw [if_neg z, if_pos (show acc.length < 8796093022208 by omega)]
        have add : ∀ (hn : ¬ (closed = true ∧ (f < 0 ∨ t < 0))), seg S H closed f (d + 1) t = (⟨f, t⟩ : Mv) :: seg S H closed f d (t + 1) := fun hn => by
          simp only [seg]; rw [if_pos ⟨e, hn, z⟩]; rfl
        have skip : ∀ (hn : closed = true ∧ (f < 0 ∨ t < 0)), seg S H closed f (d + 1) t = seg S H closed f d (t + 1) := fun hn => by
          simp only [seg]; rw [if_neg (fun h => h.2.1 hn)]; rfl
        by_cases hn : closed = true ∧ (f < 0 ∨ t < 0)
        · obtain ⟨k', hk', h⟩ := ih k acc (t + 1) (by omega) (by omega) (by omega) (by omega)
          refine ⟨k', by omega, ?_⟩
          rw [skip hn, ← h]
          obtain ⟨rfl, c⟩ := hn
          simp only [if_true]
          by_cases f0 : f < 0
          · rw [if_pos f0]
          · rw [if_neg f0, if_pos (by omega)]
        · obtain ⟨k', hk', h⟩ := ih k (acc ++ [⟨f, t⟩]) (t + 1) (by omega) (by omega) (by omega) (by simp; omega)
          refine ⟨k', by omega, ?_⟩
          rw [add hn]
          have e2 : acc ++ (⟨f, t⟩ : Mv) :: seg S H closed f d (t + 1) = (acc ++ [⟨f, t⟩]) ++ seg S H closed f d (t + 1) := by simp
          rw [e2, ← h]
          cases closed with
          | false => simp
          | true => simp only [if_true]; rw [if_neg (by simp at hn; omega), if_neg (by simp at hn; omega)]
theorem on_l0 {S H : List Int} (F : VFacts S H) (closed : Bool) : ∀ (d k : Nat) (acc : List (Mv)) (f : Int), -1 ≤ f → f + d = S.length → d * 8 < k → acc.length + d * 6 ≤ 500 →
    spec_veOn.l0 k closed acc f S H = some (acc ++ rows S H closed d f) := by
  have n1 := F.n1
  intro d
  induction d with
  | zero =>
    intro k acc f hf hd hk ha
    obtain ⟨k, rfl⟩ : ∃ m, k = m + 1 := ⟨k - 1, by omega⟩
    simp only [spec_veOn.l0]; rw [if_neg (by omega)]; simp [rows]
  | succ d ih =>
    intro k acc f hf hd hk ha
    obtain ⟨k, rfl⟩ : ∃ m, k = m + 1 := ⟨k - 1, by omega⟩
    simp only [spec_veOn.l0]
    rw [if_pos (by omega)]
    obtain ⟨k', hk', h⟩ := on_l1 F closed f ⟨hf, by omega⟩ (S.length + 1) k acc (-1) (by omega) (by omega) (by omega) (by omega)
    have hs := seg_len S H closed f (S.length + 1) (-1)
    rw [h, ih k' _ (f + 1) (by omega) (by omega) (by omega) (by simp; omega)]
    simp [rows]
theorem on_f {S H : List Int} (F : VFacts S H) (closed : Bool) (k : Nat) (hk : 100 < k) : spec_veOn.f k S H closed = some (mvs S H closed) := by
  have n1 := F.n1
  unfold spec_veOn.f mvs
  rw [on_l0 F closed (S.length + 1) k [] (-1) (by omega) (by omega) (by omega) (by simp; omega)]; rfl
theorem mo_l1 {S H : List Int} (F : VFacts S H) (closed : Bool) (x f : Int) (hx : x = if closed = true then 0 else -1) (hf : x ≤ f ∧ f < S.length) : ∀ (d k : Nat) (acc : List (Mv)) (t : Int), x ≤ t → t + d = S.length → d < k → acc.length + d ≤ 1000 →
    ∃ k', k' + d + 1 = k ∧ impl_Vessels_moves.l1 k x acc f t S H = impl_Vessels_moves.l0 k' x (acc ++ seg S H closed f d t) (f + 1) S H := by
  have n1 := F.n1
  have x1 : -1 ≤ x := by rw [hx]; split <;> omega
  intro d
  induction d with
  | zero =>
    intro k acc t ht hd hk ha
    obtain ⟨k, rfl⟩ : ∃ m, k = m + 1 := ⟨k - 1, by omega⟩
    refine ⟨k, by omega, ?_⟩
    simp only [impl_Vessels_moves.l1]; rw [if_neg (by omega), w64 (by omega) (by omega)]; simp [seg]
  | succ d ih =>
    intro k acc t ht hd hk ha
    obtain ⟨k, rfl⟩ : ∃ m, k = m + 1 := ⟨k - 1, by omega⟩
    simp only [impl_Vessels_moves.l1]
    rw [if_pos (by omega), w64 (x := t + 1) (by omega) (by omega)]
    have hn : ¬ (closed = true ∧ (f < 0 ∨ t < 0)) := by rintro ⟨rfl, c⟩; simp at hx; omega
    by_cases e : f = t
    · rw [if_pos e]
      obtain ⟨k', hk', h⟩ := ih k acc (t + 1) (by omega) (by omega) (by omega) (by omega)
      refine ⟨k', by omega, ?_⟩
      rw [h]; simp [seg, e]
    · have ok : mvOk S.length f t := ⟨by omega, by omega, e⟩
      have ab := amt_bd F f t ok
      rw [if_neg e, amt_impl F f t ok]; simp only [Option.bind_some]
      by_cases z : amt S H f t > 0
      · rw [if_pos z, if_pos (by omega)]
        obtain ⟨k', hk', h⟩ := ih k (acc ++ [⟨f, t⟩]) (t + 1) (by omega) (by omega) (by omega) (by simp; omega)
        refine ⟨k', by omega, ?_⟩
        rw [h]
        have : seg S H closed f (d + 1) t = (⟨f, t⟩ : Mv) :: seg S H closed f d (t + 1) := by simp only [seg]; rw [if_pos ⟨e, hn, by omega⟩]; rfl
        rw [this]; simp
      · rw [if_neg z]
        obtain ⟨k', hk', h⟩ := ih k acc (t + 1) (by omega) (by omega) (by omega) (by omega)
        refine ⟨k', by omega, ?_⟩
        have : seg S H closed f (d + 1) t = seg S H closed f d (t + 1) := by simp only [seg]; rw [if_neg (fun h => h.2.2 (by omega))]; rfl
        rw [h, this]
theorem seg_closed (S H : List Int) (f : Int) (n : Nat) : seg S H true f (n + 1) (-1) = seg S H true f n 0 := by
  simp [seg]
theorem seg_none (S H : List Int) : ∀ (d : Nat) (t : Int), seg S H true (-1) d t = []
  | 0, _ => rfl
  | d + 1, t => by simp only [seg]; rw [if_neg (by simp), seg_none S H d (t + 1)]; rfl
theorem mo_l0 {S H : List Int} (F : VFacts S H) (closed : Bool) (x : Int) (hx : x = if closed = true then 0 else -1) : ∀ (d k : Nat) (acc : List (Mv)) (f : Int), x ≤ f → f + d = S.length → d * 8 < k → acc.length + d * 6 ≤ 500 →
    impl_Vessels_moves.l0 k x acc f S H = some (acc ++ rows S H closed d f) := by
  have n1 := F.n1
  intro d
  induction d with
  | zero =>
    intro k acc f hf hd hk ha
    obtain ⟨k, rfl⟩ : ∃ m, k = m + 1 := ⟨k - 1, by omega⟩
    simp only [impl_Vessels_moves.l0]; rw [if_neg (by omega)]; simp [rows]
  | succ d ih =>
    intro k acc f hf hd hk ha
    obtain ⟨k, rfl⟩ : ∃ m, k = m + 1 := ⟨k - 1, by omega⟩
    simp only [impl_Vessels_moves.l0]
    rw [if_pos (by omega)]
    cases closed with
    | false =>
      simp at hx
      obtain ⟨k', hk', h⟩ := mo_l1 F false x f (by simpa using hx) ⟨hf, by omega⟩ (S.length + 1) k acc x (by omega) (by omega) (by omega) (by omega)
      have hs := seg_len S H false f (S.length + 1) (-1)
      subst hx
      rw [h, ih k' _ (f + 1) (by omega) (by omega) (by omega) (by simp; omega)]
      simp [rows]
    | true =>
      simp at hx
      obtain ⟨k', hk', h⟩ := mo_l1 F true x f (by simpa using hx) ⟨hf, by omega⟩ S.length k acc x (by omega) (by omega) (by omega) (by omega)
      have hs := seg_len S H true f S.length 0
      subst hx
      rw [h, ih k' _ (f + 1) (by omega) (by omega) (by omega) (by simp; omega)]
      simp [rows, seg_closed]
theorem mo_f {S H : List Int} (F : VFacts S H) (closed : Bool) (k : Nat) (hk : 100 < k) : impl_Vessels_moves.f k S H closed = some (mvs S H closed) := by
  have n1 := F.n1
  obtain ⟨k, rfl⟩ : ∃ m, k = m + 1 := ⟨k - 1, by omega⟩
  unfold impl_Vessels_moves.f mvs
  cases closed with
  | false =>
    simp only [Bool.false_eq_true, if_false, impl_Vessels_moves.j0]
    rw [mo_l0 F false (-1) rfl (S.length + 1) k [] (-1) (by omega) (by omega) (by omega) (by simp; omega)]; rfl
  | true =>
    simp only [if_true, impl_Vessels_moves.j0]
    rw [mo_l0 F true 0 rfl S.length k [] 0 (by omega) (by omega) (by omega) (by simp; omega)]
    simp [rows, seg_none]
theorem rd_set (l : List Int) (i j : Nat) (x : Int) (h : i < l.length) : rd (l.set i x) (j : Int) = if i = j then x else rd l (j : Int) := by
  rw [rd_nat, rd_nat, List.getD_eq_getElem?_getD, List.getD_eq_getElem?_getD, List.getElem?_set]
  by_cases e : i = j
  · subst e; rw [if_pos rfl, if_pos rfl, if_pos h]; rfl
  · rw [if_neg e, if_neg e]
theorem ext_rd (a b : List Int) (hl : a.length = b.length) (h : ∀ i : Nat, i < a.length → rd a (i : Int) = rd b (i : Int)) : a = b := by
  refine List.ext_getElem hl (fun i h1 h2 => ?_)
  have := h i h1
  rw [rd_nat, rd_nat, List.getD_eq_getElem?_getD, List.getD_eq_getElem?_getD, List.getElem?_eq_getElem h1, List.getElem?_eq_getElem h2] at this
  exact this
/-- What is held behind a move. -/
def mk1 (H : List Int) (f a : Int) : List Int := if f ≥ 0 then H.set f.toNat (rd H f - a) else H
def mk2 (H : List Int) (t a : Int) : List Int := if t ≥ 0 then H.set t.toNat (rd H t + a) else H
def nxt (S H : List Int) (f t : Int) : List Int := mk2 (mk1 H f (amt S H f t)) t (amt S H f t)
theorem mk1_len (H : List Int) (f a : Int) : (mk1 H f a).length = H.length := by unfold mk1; split <;> simp
theorem mk2_len (H : List Int) (t a : Int) : (mk2 H t a).length = H.length := by unfold mk2; split <;> simp
theorem nxt_len (S H : List Int) (f t : Int) : (nxt S H f t).length = H.length := by unfold nxt; rw [mk2_len, mk1_len]
theorem mk1_rd (H : List Int) (f a : Int) (hf : f < H.length) (j : Nat) : rd (mk1 H f a) (j : Int) = rd H (j : Int) - (if f = (j : Int) then a else 0) := by
  unfold mk1
  by_cases c : f ≥ 0
  · rw [if_pos c]
    obtain ⟨i, rfl⟩ := Int.eq_ofNat_of_zero_le c
    rw [Int.toNat_natCast, rd_set _ _ _ _ (by omega)]
    by_cases e : i = j
    · subst e; rw [if_pos rfl, if_pos rfl]
    · rw [if_neg e, if_neg (by omega)]; omega
  · rw [if_neg c, if_neg (by omega)]; omega
theorem mk2_rd (H : List Int) (t a : Int) (hf : t < H.length) (j : Nat) : rd (mk2 H t a) (j : Int) = rd H (j : Int) + (if t = (j : Int) then a else 0) := by
  unfold mk2
  by_cases c : t ≥ 0
  · rw [if_pos c]
    obtain ⟨i, rfl⟩ := Int.eq_ofNat_of_zero_le c
    rw [Int.toNat_natCast, rd_set _ _ _ _ (by omega)]
    by_cases e : i = j
    · subst e; rw [if_pos rfl, if_pos rfl]
    · rw [if_neg e, if_neg (by omega)]; omega
  · rw [if_neg c, if_neg (by omega)]; omega
theorem nxt_rd (S H : List Int) (f t : Int) (hf : f < H.length) (ht : t < H.length) (j : Nat) : rd (nxt S H f t) (j : Int) = rd H (j : Int) - (if f = (j : Int) then amt S H f t else 0) + (if t = (j : Int) then amt S H f t else 0) := by
  unfold nxt; rw [mk2_rd _ _ _ (by rw [mk1_len]; exact ht), mk1_rd _ _ _ hf]
theorem amt_le {S H : List Int} (F : VFacts S H) (f t : Int) (h : mvOk S.length f t) : (f ≥ 0 → amt S H f t ≤ rd H f) ∧ (t ≥ 0 → amt S H f t ≤ rd S t - rd H t) := by
  obtain ⟨⟨a0, a1⟩, ⟨b0, b1⟩, ne⟩ := h
  unfold amt
  by_cases hf : f < 0
  · rw [if_pos hf]; omega
  · rw [if_neg hf]
    by_cases hg : t < 0
    · rw [if_pos hg]; omega
    · rw [if_neg hg]; omega
theorem nxt_facts {S H : List Int} (F : VFacts S H) (f t : Int) (h : mvOk S.length f t) : VFacts S (nxt S H f t) := by
  have hb := amt_bd F f t h
  obtain ⟨l1, l2⟩ := amt_le F f t h
  obtain ⟨⟨a0, a1⟩, ⟨b0, b1⟩, ne⟩ := h
  have he := F.he
  refine ⟨F.n0, F.n1, by rw [nxt_len]; exact he, F.sz, fun i hi => ?_⟩
  rw [nxt_rd S H f t (by omega) (by omega)]
  have h1 := F.ht i hi
  by_cases e1 : f = (i : Int)
  · rw [if_pos e1, if_neg (by omega)]; have := l1 (by omega); rw [e1] at this hb ⊢; omega
  · rw [if_neg e1]
    by_cases e2 : t = (i : Int)
    · rw [if_pos e2]; have := l2 (by omega); rw [e2] at this hb ⊢; omega
    · rw [if_neg e2]; omega
theorem own_spec (l : List Int) (h : l.length < 17592186044416) : spec_l1Own.f l = some l := by
  unfold spec_l1Own.f; simp only [Option.bind_some, List.length_nil, Nat.zero_add, List.nil_append]; rw [if_pos h]
theorem make_spec {S H : List Int} (F : VFacts S H) (f t : Int) (h : mvOk S.length f t) : spec_veMake.f S H f t = some (S, nxt S H f t) := by
  have hb := amt_bd F f t h
  obtain ⟨l1, l2⟩ := amt_le F f t h
  unfold spec_veMake.f
  rw [amt_spec F f t h]
  obtain ⟨⟨a0, a1⟩, ⟨b0, b1⟩, ne⟩ := h
  have he := F.he; have n1 := F.n1
  simp only [Option.bind_some]
  rw [own_spec S (by omega), own_spec H (by omega)]; simp only [Option.bind_some]
  unfold nxt mk2
  by_cases c : f ≥ 0
  · have := F.htI f (by omega) (by omega); have := F.szI f (by omega) (by omega)
    have em : mk1 H f (amt S H f t) = H.set f.toNat (rd H f - amt S H f t) := by unfold mk1; rw [if_pos c]
    rw [if_pos c, if_pos c, if_pos (by omega), w64 (by omega) (by omega), em]
    by_cases d : t ≥ 0
    · have := F.htI t (by omega) (by omega); have := F.szI t (by omega) (by omega)
      have er : rd (H.set f.toNat (rd H f - amt S H f t)) t = rd H t := by
        rw [← em]; obtain ⟨j, rfl⟩ := Int.eq_ofNat_of_zero_le d; rw [mk1_rd _ _ _ (by omega), if_neg (by omega)]; omega
      simp only [if_pos d, er]
      rw [if_pos (by omega), w64 (by omega) (by omega)]
    · simp only [if_neg d]
  · rw [if_neg c]
    have em : mk1 H f (amt S H f t) = H := by unfold mk1; rw [if_neg c]
    rw [em]
    by_cases d : t ≥ 0
    · have := F.htI t (by omega) (by omega); have := F.szI t (by omega) (by omega)
      rw [if_pos d, if_pos d, if_pos (by omega), if_pos d, w64 (by omega) (by omega)]
    · rw [if_neg d, if_neg d]
theorem own_impl (S H : List Int) (h : S.length < 17592186044416) (h2 : H.length < 17592186044416) : impl_Vessels_own.f S H = some (S, H) := by
  unfold impl_Vessels_own.f slices_Clone_int_int.f
  rw [if_pos h, if_pos h2]; rfl
theorem make_impl {S H : List Int} (F : VFacts S H) (f t : Int) (h : mvOk S.length f t) : impl_Vessels_behind.f S H f t = some (S, nxt S H f t) := by
  have hb := amt_bd F f t h
  obtain ⟨l1, l2⟩ := amt_le F f t h
  unfold impl_Vessels_behind.f
  rw [amt_impl F f t h]
  obtain ⟨⟨a0, a1⟩, ⟨b0, b1⟩, ne⟩ := h
  have he := F.he; have n1 := F.n1
  rw [own_impl S H (by omega) (by omega)]; simp only [Option.bind_some]
  unfold nxt mk2
  by_cases c : f ≥ 0
  · have := F.htI f (by omega) (by omega); have := F.szI f (by omega) (by omega)
    have em : mk1 H f (amt S H f t) = H.set f.toNat (rd H f - amt S H f t) := by unfold mk1; rw [if_pos c]
    rw [if_pos c, if_pos c, if_pos (by omega), w64 (by omega) (by omega), em]
    by_cases d : t ≥ 0
    · have := F.htI t (by omega) (by omega); have := F.szI t (by omega) (by omega)
      have er : rd (H.set f.toNat (rd H f - amt S H f t)) t = rd H t := by
        rw [← em]; obtain ⟨j, rfl⟩ := Int.eq_ofNat_of_zero_le d; rw [mk1_rd _ _ _ (by omega), if_neg (by omega)]; omega
      simp only [if_pos d, er]
      rw [if_pos (by omega), w64 (by omega) (by omega)]
    · simp only [if_neg d]
  · rw [if_neg c]
    have em : mk1 H f (amt S H f t) = H := by unfold mk1; rw [if_neg c]
    rw [em]
    by_cases d : t ≥ 0
    · have := F.htI t (by omega) (by omega); have := F.szI t (by omega) (by omega)
      rw [if_pos d, if_pos d, if_pos (by omega), if_pos d, w64 (by omega) (by omega)]
    · rw [if_neg d, if_neg d]
theorem same_l0 (H : List Int) (S' H' : List Int) (hl : H.length = H'.length) (hb : H.length ≤ 1000000) : ∀ (d k i : Nat), i + d = H.length → d < k → (∀ j : Nat, j < i → rd H (j : Int) = rd H' (j : Int)) → spec_veSame.l0 k H (H.length : Int) (i : Int) S' H' = some (decide (H = H')) := by
  intro d
  induction d with
  | zero =>
    intro k i hi hk ha
    obtain ⟨k, rfl⟩ : ∃ m, k = m + 1 := ⟨k - 1, by omega⟩
    simp only [spec_veSame.l0]
    rw [if_neg (by omega)]
    have : H = H' := ext_rd _ _ hl (fun j hj => ha j (by omega))
    simp [this]
  | succ d ih =>
    intro k i hi hk ha
    obtain ⟨k, rfl⟩ : ∃ m, k = m + 1 := ⟨k - 1, by omega⟩
    simp only [spec_veSame.l0]
    rw [if_pos (by omega), if_pos (by omega), if_pos (by omega), if_pos (by omega)]
    by_cases e : rd H (i : Int) = rd H' (i : Int)
    · rw [if_pos e, w64 (by omega) (by omega)]
      refine ih k (i + 1) (by omega) (by omega) (fun j hj => ?_)
      by_cases e2 : j = i
      · rw [e2]; exact e
      · exact ha j (by omega)
    · rw [if_neg e]
      have : H ≠ H' := fun e2 => e (by rw [e2])
      simp [this]
theorem same_spec (k : Nat) (S H S' H' : List Int) (hl : H.length = H'.length) (hb : H.length ≤ 1000000) (hk : H.length < k) : spec_veSame.f k S H S' H' = some (decide (H = H')) := by
  unfold spec_veSame.f
  exact same_l0 H S' H' hl hb H.length k 0 (by omega) hk (fun j hj => absurd hj (Nat.not_lt_zero _))
theorem seg_mem (S H : List Int) (closed : Bool) (f : Int) : ∀ (d : Nat) (t : Int) (m : Mv), m ∈ seg S H closed f d t → m.f0 = f ∧ t ≤ m.f1 ∧ m.f1 < t + d ∧ f ≠ m.f1 ∧ amt S H f m.f1 ≠ 0
  | 0, _, _, h => by simp [seg] at h
  | d + 1, t, m, h => by
    simp only [seg, List.mem_append] at h
    rcases h with h | h
    · split at h
      · rename_i c
        obtain rfl := List.mem_singleton.mp h
        exact ⟨rfl, by simp only; omega, by simp only; omega, c.1, c.2.2⟩
      · cases h
    · obtain ⟨e1, e2, e3, e4, e5⟩ := seg_mem S H closed f d (t + 1) m h
      exact ⟨e1, by omega, by omega, e4, e5⟩
theorem rows_mem (S H : List Int) (closed : Bool) : ∀ (d : Nat) (f : Int) (m : Mv), m ∈ rows S H closed d f → (f ≤ m.f0 ∧ m.f0 < f + d) ∧ (-1 ≤ m.f1 ∧ m.f1 ≤ S.length - 1) ∧ m.f0 ≠ m.f1 ∧ amt S H m.f0 m.f1 ≠ 0
  | 0, _, _, h => by simp [rows] at h
  | d + 1, f, m, h => by
    simp only [rows, List.mem_append] at h
    rcases h with h | h
    · obtain ⟨e1, e2, e3, e4, e5⟩ := seg_mem S H closed f _ _ m h
      rw [e1]; exact ⟨by omega, by omega, e4, e5⟩
    · obtain ⟨e1, e2, e3, e4⟩ := rows_mem S H closed d (f + 1) m h
      exact ⟨by omega, e2, e3, e4⟩
theorem mvs_mem (S H : List Int) (closed : Bool) (m : Mv) (h : m ∈ mvs S H closed) : mvOk S.length m.f0 m.f1 ∧ amt S H m.f0 m.f1 ≠ 0 := by
  obtain ⟨e1, e2, e3, e4⟩ := rows_mem S H closed _ _ m h
  exact ⟨⟨by omega, by omega, e3⟩, e4⟩
/-- With enough rounds the answer is r. -/
def Ev {β : Type} (f : Nat → Option β) (r : β) : Prop := ∃ K, ∀ k, K < k → f k = some r
theorem Ev.of {β : Type} {f : Nat → Option β} {r : β} (K : Nat) (h : ∀ k, K < k → f k = some r) : Ev f r := ⟨K, h⟩
theorem Ev.const {β : Type} {x : Option β} {r : β} (h : x = some r) : Ev (fun _ => x) r := ⟨0, fun _ _ => h⟩
theorem Ev.succ {β : Type} {f : Nat → Option β} {r : β} (h : Ev (fun k => f (k + 1)) r) : Ev f r := by
  obtain ⟨K, h⟩ := h
  refine ⟨K + 1, fun k hk => ?_⟩
  obtain ⟨k, rfl⟩ : ∃ m, k = m + 1 := ⟨k - 1, by omega⟩
  exact h k (by omega)
theorem Ev.bind {α β : Type} {f : Nat → Option α} {g : Nat → α → Option β} {x : α} {r : β} (h1 : Ev f x) (h2 : Ev (fun k => g k x) r) : Ev (fun k => (f k).bind (g k)) r := by
  obtain ⟨K1, h1⟩ := h1
  obtain ⟨K2, h2⟩ := h2
  exact ⟨K1 + K2, fun k hk => by show (f k).bind (g k) = some r; rw [h1 k (by omega)]; exact h2 k (by omega)⟩
theorem Ev.pos {β : Type} {c : Prop} [Decidable c] {f g : Nat → Option β} {r : β} (hc : c) (h : Ev f r) : Ev (fun k => if c then f k else g k) r := by
  obtain ⟨K, h⟩ := h
  exact ⟨K, fun k hk => by show (if c then f k else g k) = some r; rw [if_pos hc]; exact h k hk⟩
theorem Ev.neg {β : Type} {c : Prop} [Decidable c] {f g : Nat → Option β} {r : β} (hc : ¬ c) (h : Ev g r) : Ev (fun k => if c then f k else g k) r := by
  obtain ⟨K, h⟩ := h
  exact ⟨K, fun k hk => by show (if c then f k else g k) = some r; rw [if_neg hc]; exact h k hk⟩
theorem Ev.ex {β : Type} {f : Nat → Option β} {r : β} (h : Ev f r) : ∃ k, f k = some r := by
  obtain ⟨K, h⟩ := h
  exact ⟨K + 1, h _ (by omega)⟩
/-- Less, read from the left. -/
def lx : List Int → List Int → Bool
  | a :: l, b :: m => if a = b then lx l m else decide (a < b)
  | _, _ => false
theorem lx_irrefl : ∀ l, lx l l = false
  | [] => rfl
  | a :: l => by simp only [lx, if_true]; exact lx_irrefl l
theorem lx_trans : ∀ a b c, lx a b = true → lx b c = true → lx a c = true
  | [], b, c, h, _ => by simp [lx] at h
  | _ :: _, [], c, h, _ => by simp [lx] at h
  | _ :: _, _ :: _, [], _, h => by simp [lx] at h
  | x :: a, y :: b, z :: c, h1, h2 => by
    simp only [lx] at h1 h2 ⊢
    by_cases e1 : x = y
    · subst e1
      rw [if_pos rfl] at h1
      by_cases e2 : x = z
      · subst e2
        rw [if_pos rfl] at h2 ⊢
        exact lx_trans a b c h1 h2
      · rw [if_neg e2] at h2 ⊢
        exact h2
    · rw [if_neg e1] at h1
      have l1 := of_decide_eq_true h1
      by_cases e2 : y = z
      · subst e2
        rw [if_neg e1]
        exact h1
      · rw [if_neg e2] at h2
        have l2 := of_decide_eq_true h2
        rw [if_neg (by omega)]
        exact decide_eq_true (by omega)
theorem lx_tri : ∀ a b, a.length = b.length → lx a b = false → lx b a = false → a = b
  | [], [], _, _, _ => rfl
  | [], _ :: _, h, _, _ => by simp at h
  | _ :: _, [], h, _, _ => by simp at h
  | x :: a, y :: b, h, h1, h2 => by
    simp only [lx] at h1 h2
    by_cases e : x = y
    · subst e
      rw [if_pos rfl] at h1 h2
      rw [lx_tri a b (by simpa using h) h1 h2]
    · rw [if_neg e] at h1
      rw [if_neg (Ne.symm e)] at h2
      have := of_decide_eq_false h1
      have := of_decide_eq_false h2
      omega
/-- The numbers of all, in the order of what they hold. -/
def Ord (hs : List (List Int)) (ol : List Nat) : Prop := ol.Perm (List.range hs.length) ∧ ol.Pairwise (fun a b => lx (hs.getD a []) (hs.getD b []) = true)
def AtP (hs : List (List Int)) (ol : List Nat) (v : List Int) (p : Nat) : Prop := p ≤ ol.length ∧ (∀ j, j < p → lx (hs.getD (ol.getD j 0) []) v = true) ∧ (∀ j, p ≤ j → j < ol.length → lx (hs.getD (ol.getD j 0) []) v = false)
theorem Ord.len {hs : List (List Int)} {ol : List Nat} (O : Ord hs ol) : ol.length = hs.length := by rw [O.1.length_eq, List.length_range]
theorem Ord.lt {hs : List (List Int)} {ol : List Nat} (O : Ord hs ol) (x : Nat) (h : x ∈ ol) : x < hs.length := List.mem_range.1 (O.1.mem_iff.1 h)
theorem Ord.ltD {hs : List (List Int)} {ol : List Nat} (O : Ord hs ol) (j : Nat) (h : j < ol.length) : ol.getD j 0 < hs.length := by
  rw [List.getD_eq_getElem?_getD, List.getElem?_eq_getElem h]
  exact O.lt _ (List.getElem_mem h)
theorem getD_get {α : Type} (l : List α) (i : Nat) (d : α) (h : i < l.length) : l.getD i d = l[i] := by
  rw [List.getD_eq_getElem?_getD, List.getElem?_eq_getElem h]; rfl
theorem atP_mem {hs : List (List Int)} {ol : List Nat} {v : List Int} {p : Nat} (O : Ord hs ol) (A : AtP hs ol v p) : v ∈ hs ↔ p < ol.length ∧ hs.getD (ol.getD p 0) [] = v := by
  obtain ⟨hp, hlo, hhi⟩ := A
  constructor
  · intro hv
    obtain ⟨i, hi, rfl⟩ := List.getElem_of_mem hv
    have hm : i ∈ ol := O.1.mem_iff.2 (List.mem_range.2 hi)
    obtain ⟨j, hj, hji⟩ := List.getElem_of_mem hm
    have e1 : hs.getD (ol.getD j 0) [] = hs[i] := by rw [getD_get ol j 0 hj, hji, getD_get hs i [] hi]
    rcases Nat.lt_trichotomy j p with h | h | h
    · have := hlo j h
      rw [e1, lx_irrefl] at this
      cases this
    · subst h
      exact ⟨hj, e1⟩
    · have h1 := hhi p (Nat.le_refl _) (by omega)
      have h2 := (List.pairwise_iff_getElem.1 O.2) p j (by omega) hj h
      rw [getD_get ol p 0 (by omega)] at h1
      rw [← getD_get ol j 0 hj, e1, h1] at h2
      cases h2
  · rintro ⟨h1, rfl⟩
    have := O.ltD p h1
    rw [getD_get hs _ [] this]
    exact List.getElem_mem this
theorem getD_app1 {α : Type} (l : List α) (x : α) (i : Nat) (d : α) (h : i < l.length) : (l ++ [x]).getD i d = l.getD i d := by
  rw [getD_get _ _ _ (by simp; omega), getD_get _ _ _ h, List.getElem_append_left h]
theorem getD_app2 {α : Type} (l : List α) (x : α) (d : α) : (l ++ [x]).getD l.length d = x := by
  rw [getD_get _ _ _ (by simp)]; simp
theorem ord_ins {hs : List (List Int)} {ol : List Nat} {v : List Int} {p : Nat} (O : Ord hs ol) (A : AtP hs ol v p) (hv : v ∉ hs) (hl : ∀ h ∈ hs, h.length = v.length) : Ord (hs ++ [v]) (ol.take p ++ hs.length :: ol.drop p) := by
  obtain ⟨hp, hlo, hhi⟩ := A
  have hin : ∀ x, x < hs.length → (hs ++ [v]).getD x [] = hs.getD x [] := fun x hx => getD_app1 hs v x [] hx
  have hnew : (hs ++ [v]).getD hs.length [] = v := getD_app2 hs v []
  constructor
  · refine List.perm_middle.trans ?_
    rw [List.take_append_drop, List.length_append, List.length_singleton, List.range_succ]
    exact (List.Perm.cons _ O.1).trans (List.perm_append_singleton _ _).symm
  · have hP : ol.Pairwise (fun a b => lx ((hs ++ [v]).getD a []) ((hs ++ [v]).getD b []) = true) := by
      refine O.2.imp_of_mem (fun {a b} ha hb h => ?_)
      rw [hin a (O.lt a ha), hin b (O.lt b hb)]
      exact h
    have hP2 := hP
    rw [← List.take_append_drop p ol, List.pairwise_append] at hP2
    obtain ⟨q1, q2, q3⟩ := hP2
    have below : ∀ a ∈ ol.take p, lx ((hs ++ [v]).getD a []) v = true := by
      intro a ha
      obtain ⟨j, hj, rfl⟩ := List.getElem_of_mem ha
      have hj2 : j < p ∧ j < ol.length := by simpa [Nat.lt_min] using hj
      rw [List.getElem_take, hin _ (O.lt _ (List.getElem_mem hj2.2)), ← getD_get ol j 0 hj2.2]
      exact hlo j hj2.1
    have above : ∀ b ∈ ol.drop p, lx v ((hs ++ [v]).getD b []) = true := by
      intro b hb
      obtain ⟨j, hj, rfl⟩ := List.getElem_of_mem hb
      have hj2 : p + j < ol.length := by simp at hj; omega
      have hlt := O.lt _ (List.getElem_mem hj2)
      rw [List.getElem_drop, hin _ hlt]
      have h1 := hhi (p + j) (by omega) hj2
      rw [getD_get ol _ 0 hj2] at h1
      have hm : hs.getD ol[p + j] [] ∈ hs := by rw [getD_get hs _ [] hlt]; exact List.getElem_mem hlt
      cases h2 : lx v (hs.getD ol[p + j] []) with
      | true => rfl
      | false =>
        have := lx_tri _ _ (hl _ hm) h1 h2
        rw [this] at hm
        exact absurd hm hv
    rw [List.pairwise_append, List.pairwise_cons]
    refine ⟨q1, ⟨fun b hb => ?_, q2⟩, fun a ha b hb => ?_⟩
    · rw [hnew]; exact above b hb
    · rcases List.mem_cons.1 hb with rfl | hb
      · rw [hnew]; exact below a ha
      · exact q3 a ha b hb
/-- What is reached: what is held, how far, from which, by which move. -/
structure St where
  hs : List (List Int)
  dep : List Int
  frm : List Int
  mv : List Mv
def St.add (st : St) (i : Nat) (m : Mv) (h : List Int) : St := ⟨st.hs ++ [h], st.dep ++ [rd st.dep (i : Int) + 1], st.frm ++ [(i : Int)], st.mv ++ [m]⟩
def inn (S : List Int) (q i : Nat) (H : List Int) : List Mv → St → Option St
  | [], st => some st
  | m :: ms, st => if nxt S H m.f0 m.f1 ∈ st.hs then inn S q i H ms st else if st.hs.length = q then none else inn S q i H ms (st.add i m (nxt S H m.f0 m.f1))
def out (S : List Int) (a : Bool) (q : Nat) : Nat → Nat → St → Option (Option St)
  | 0, _, _ => none
  | n + 1, i, st => if i < st.hs.length then (match inn S q i (st.hs.getD i []) (mvs S (st.hs.getD i []) a) st with | none => some none | some st' => out S a q n (i + 1) st') else some (some st)
def ini (H : List Int) : St := ⟨[H], [0], [-1], [⟨0, 0⟩]⟩
def bfs (S H : List Int) (a : Bool) (q : Nat) : Option St := (out S a q (q + 2) 0 (ini H)).getD none
/-- What is so of all that is reached at each step; i: the one whose moves are made. -/
structure Good (S H0 : List Int) (a : Bool) (q i : Nat) (st : St) : Prop where
  nd : st.hs.Nodup
  F : ∀ h ∈ st.hs, VFacts S h
  ln : ∀ h ∈ st.hs, h.length = S.length
  l1 : st.dep.length = st.hs.length
  l2 : st.frm.length = st.hs.length
  l3 : st.mv.length = st.hs.length
  le : st.hs.length ≤ q
  z : st.hs.getD 0 [] = H0 ∧ st.dep.getD 0 0 = 0 ∧ st.frm.getD 0 0 = -1 ∧ 0 < st.hs.length
  dmono : ∀ x y : Nat, x ≤ y → y < st.hs.length → st.dep.getD x 0 ≤ st.dep.getD y 0
  dup : ∀ x : Nat, x < st.hs.length → st.dep.getD x 0 ≤ st.dep.getD i 0 + 1
  dpos : ∀ x : Nat, x < st.hs.length → 0 ≤ st.dep.getD x 0 ∧ st.dep.getD x 0 ≤ x
  way : ∀ x : Nat, 0 < x → x < st.hs.length → ∃ y : Nat, st.frm.getD x 0 = (y : Int) ∧ y < x ∧ st.mv.getD x ⟨0, 0⟩ ∈ mvs S (st.hs.getD y []) a ∧ st.hs.getD x [] = nxt S (st.hs.getD y []) (st.mv.getD x ⟨0, 0⟩).f0 (st.mv.getD x ⟨0, 0⟩).f1 ∧ st.dep.getD x 0 = st.dep.getD y 0 + 1
def Closed (S : List Int) (a : Bool) (i : Nat) (st : St) : Prop := ∀ j : Nat, j < i → ∀ m ∈ mvs S (st.hs.getD j []) a, nxt S (st.hs.getD j []) m.f0 m.f1 ∈ st.hs
/-- The later one begins as the earlier one does. -/
def Pre (st st' : St) : Prop := ∃ b, st'.hs = st.hs ++ b
theorem Pre.refl (st : St) : Pre st st := ⟨[], by simp⟩
theorem Pre.trans {a b c : St} (h1 : Pre a b) (h2 : Pre b c) : Pre a c := by
  obtain ⟨x, h1⟩ := h1
  obtain ⟨y, h2⟩ := h2
  exact ⟨x ++ y, by rw [h2, h1, List.append_assoc]⟩
theorem Pre.add (st : St) (i : Nat) (m : Mv) (h : List Int) : Pre st (st.add i m h) := ⟨[h], rfl⟩
theorem Pre.mem {st st' : St} (h : Pre st st') {x : List Int} (hx : x ∈ st.hs) : x ∈ st'.hs := by
  obtain ⟨b, h⟩ := h
  rw [h]; exact List.mem_append_left _ hx
theorem Pre.get {st st' : St} (h : Pre st st') (i : Nat) (hi : i < st.hs.length) : st'.hs.getD i [] = st.hs.getD i [] := by
  obtain ⟨b, h⟩ := h
  rw [h, getD_get _ _ _ (by simp; omega), getD_get _ _ _ hi, List.getElem_append_left hi]
theorem Pre.le {st st' : St} (h : Pre st st') : st.hs.length ≤ st'.hs.length := by
  obtain ⟨b, h⟩ := h
  rw [h]; simp
theorem getD_lt {α : Type} (l : List α) (x : α) (i : Nat) (d : α) (n : Nat) (hn : l.length = n) (h : i < n) : (l ++ [x]).getD i d = l.getD i d := getD_app1 l x i d (by omega)
theorem getD_eq {α : Type} (l : List α) (x : α) (i : Nat) (d : α) (n : Nat) (hn : l.length = n) (h : i = n) : (l ++ [x]).getD i d = x := by
  subst h; rw [← hn]; exact getD_app2 l x d
theorem rd_getD (l : List Int) (i : Nat) : rd l (i : Int) = l.getD i 0 := rd_nat l i
theorem good_add {S H0 : List Int} {a : Bool} {q i : Nat} {st : St} (G : Good S H0 a q i st) (hi : i < st.hs.length) (m : Mv) (hm : m ∈ mvs S (st.hs.getD i []) a) (hn : nxt S (st.hs.getD i []) m.f0 m.f1 ∉ st.hs) (hq : st.hs.length ≠ q) : Good S H0 a q i (st.add i m (nxt S (st.hs.getD i []) m.f0 m.f1)) := by
  obtain ⟨nd, F, ln, l1, l2, l3, le, ⟨z1, z2, z3, z4⟩, dmono, dup, dpos, way⟩ := G
  have hmem : st.hs.getD i [] ∈ st.hs := by rw [getD_get _ _ _ hi]; exact List.getElem_mem hi
  have Fi := F _ hmem
  have hd : rd st.dep (i : Int) = st.dep.getD i 0 := rd_getD _ _
  have hmo := (mvs_mem S _ a m hm).1
  refine ⟨?_, ?_, ?_, ?_, ?_, ?_, ?_, ⟨?_, ?_, ?_, ?_⟩, ?_, ?_, ?_, ?_⟩ <;> simp only [St.add]
  · rw [List.nodup_append]
    refine ⟨nd, by simp, fun x hx y hy => ?_⟩
    rw [List.mem_singleton] at hy
    subst hy
    rintro rfl
    exact hn hx
  · intro h hh
    rcases List.mem_append.1 hh with hh | hh
    · exact F h hh
    · rw [List.mem_singleton] at hh
      subst hh
      exact nxt_facts Fi _ _ hmo
  · intro h hh
    rcases List.mem_append.1 hh with hh | hh
    · exact ln h hh
    · rw [List.mem_singleton] at hh
      subst hh
      rw [nxt_len]; exact ln _ hmem
  · simp [l1]
  · simp [l2]
  · simp [l3]
  · simp; omega
  · rw [getD_lt _ _ _ _ _ rfl z4]; exact z1
  · rw [getD_lt _ _ _ _ _ l1 z4]; exact z2
  · rw [getD_lt _ _ _ _ _ l2 z4]; exact z3
  · simp
  · intro x y hxy hy
    rw [List.length_append, List.length_singleton] at hy
    rcases Nat.lt_or_ge y st.hs.length with h | h
    · rw [getD_lt _ _ _ _ _ l1 (by omega), getD_lt _ _ _ _ _ l1 h]
      exact dmono x y hxy h
    · have ey : y = st.hs.length := by omega
      rcases Nat.lt_or_ge x st.hs.length with h2 | h2
      · rw [getD_lt _ _ _ _ _ l1 h2, getD_eq _ _ _ _ _ l1 ey, hd]
        exact dup x h2
      · rw [show x = y by omega]; exact Int.le_refl _
  · intro x hx
    rw [List.length_append, List.length_singleton] at hx
    rw [getD_lt _ _ i _ _ l1 hi]
    rcases Nat.lt_or_ge x st.hs.length with h | h
    · rw [getD_lt _ _ _ _ _ l1 h]; exact dup x h
    · rw [getD_eq _ _ _ _ _ l1 (by omega), hd]; exact Int.le_refl _
  · intro x hx
    rw [List.length_append, List.length_singleton] at hx
    rcases Nat.lt_or_ge x st.hs.length with h | h
    · rw [getD_lt _ _ _ _ _ l1 h]; exact dpos x h
    · rw [getD_eq _ _ _ _ _ l1 (by omega), hd]
      have := dpos i hi
      omega
  · intro x h0 hx
    rw [List.length_append, List.length_singleton] at hx
    rcases Nat.lt_or_ge x st.hs.length with h | h
    · obtain ⟨y, y1, y2, y3, y4, y5⟩ := way x h0 h
      refine ⟨y, ?_⟩
      rw [getD_lt _ _ _ _ _ l2 h, getD_lt _ _ _ _ _ l3 h, getD_lt _ _ x _ _ rfl h, getD_lt _ _ y _ _ rfl (by omega), getD_lt _ _ x _ _ l1 h, getD_lt _ _ y _ _ l1 (by omega)]
      exact ⟨y1, y2, y3, y4, y5⟩
    · refine ⟨i, ?_⟩
      rw [getD_eq _ _ x _ _ l2 (by omega), getD_eq _ _ x _ _ l3 (by omega), getD_eq _ _ x _ _ rfl (by omega), getD_lt _ _ i _ _ rfl hi, getD_eq _ _ x _ _ l1 (by omega), getD_lt _ _ i _ _ l1 hi, hd]
      exact ⟨rfl, by omega, hm, rfl, rfl⟩
theorem good_inn {S H0 : List Int} {a : Bool} {q i : Nat} (H : List Int) : ∀ (ms : List Mv) (st st' : St), Good S H0 a q i st → i < st.hs.length → st.hs.getD i [] = H → (∀ m ∈ ms, m ∈ mvs S H a) → inn S q i H ms st = some st' → Good S H0 a q i st' ∧ Pre st st' ∧ ∀ m ∈ ms, nxt S H m.f0 m.f1 ∈ st'.hs
  | [], st, st', G, hi, hH, hms, h => by
    obtain rfl := Option.some.inj h
    exact ⟨G, Pre.refl _, fun m hm => by simp at hm⟩
  | m :: ms, st, st', G, hi, hH, hms, h => by
    simp only [inn] at h
    by_cases c : nxt S H m.f0 m.f1 ∈ st.hs
    · rw [if_pos c] at h
      obtain ⟨g1, g2, g3⟩ := good_inn H ms st st' G hi hH (fun m hm => hms m (List.mem_cons_of_mem _ hm)) h
      refine ⟨g1, g2, fun m' hm' => ?_⟩
      rcases List.mem_cons.1 hm' with rfl | hm'
      · exact g2.mem c
      · exact g3 m' hm'
    · rw [if_neg c] at h
      by_cases c2 : st.hs.length = q
      · rw [if_pos c2] at h; cases h
      · rw [if_neg c2] at h
        have hm := hms m (List.mem_cons_self ..)
        subst hH
        have G2 := good_add G hi m hm c c2
        have P2 := Pre.add st i m (nxt S (st.hs.getD i []) m.f0 m.f1)
        obtain ⟨g1, g2, g3⟩ := good_inn (st.hs.getD i []) ms _ st' G2 (Nat.lt_of_lt_of_le hi P2.le) (P2.get i hi) (fun m hm => hms m (List.mem_cons_of_mem _ hm)) h
        refine ⟨g1, P2.trans g2, fun m' hm' => ?_⟩
        rcases List.mem_cons.1 hm' with rfl | hm'
        · exact g2.mem (by simp [St.add])
        · exact g3 m' hm'
theorem Good.up {S H0 : List Int} {a : Bool} {q i : Nat} {st : St} (G : Good S H0 a q i st) (h : i + 1 < st.hs.length) : Good S H0 a q (i + 1) st :=
  { G with dup := fun x hx => Int.le_trans (G.dup x hx) (by have := G.dmono i (i + 1) (by omega) h; omega) }
theorem closed_up {S H0 : List Int} {a : Bool} {q i : Nat} {st st' : St} (G : Good S H0 a q i st) (hi : i < st.hs.length) (C : Closed S a i st) (P : Pre st st') (h : ∀ m ∈ mvs S (st.hs.getD i []) a, nxt S (st.hs.getD i []) m.f0 m.f1 ∈ st'.hs) : Closed S a (i + 1) st' := by
  intro j hj m hm
  rw [P.get j (by omega)] at hm ⊢
  rcases Nat.lt_or_ge j i with h2 | h2
  · exact P.mem (C j h2 m hm)
  · have : j = i := by omega
    subst this
    exact h m hm
/-- What is so at the end. -/
structure Fin (S H0 : List Int) (a : Bool) (q : Nat) (st : St) : Prop where
  g : ∃ i, Good S H0 a q i st
  c : Closed S a st.hs.length st
theorem fin_out {S H0 : List Int} {a : Bool} {q : Nat} : ∀ (n i : Nat) (st st' : St), (Good S H0 a q i st ∨ ∃ j, Good S H0 a q j st ∧ st.hs.length ≤ i) → i ≤ st.hs.length → Closed S a i st → out S a q n i st = some (some st') → Fin S H0 a q st'
  | 0, i, st, st', _, _, _, h => by simp [out] at h
  | n + 1, i, st, st', G, hi, C, h => by
    simp only [out] at h
    by_cases c : i < st.hs.length
    · rw [if_pos c] at h
      have G1 : Good S H0 a q i st := by
        rcases G with G | ⟨j, G, hle⟩
        · exact G
        · omega
      cases e : inn S q i (st.hs.getD i []) (mvs S (st.hs.getD i []) a) st with
      | none => rw [e] at h; simp at h
      | some st2 =>
        rw [e] at h
        obtain ⟨g1, g2, g3⟩ := good_inn _ _ _ _ G1 c rfl (fun m hm => hm) e
        refine fin_out n (i + 1) st2 st' ?_ (Nat.lt_of_lt_of_le c g2.le) (closed_up G1 c C g2 g3) h
        rcases Nat.lt_or_ge (i + 1) st2.hs.length with h2 | h2
        · exact .inl (g1.up h2)
        · exact .inr ⟨i, g1, h2⟩
    · rw [if_neg c] at h
      simp only [Option.some.injEq] at h
      subst h
      have e : i = st.hs.length := by omega
      subst e
      refine ⟨?_, C⟩
      rcases G with G | ⟨j, G, _⟩
      · exact ⟨_, G⟩
      · exact ⟨j, G⟩
theorem inn_le {S : List Int} {q i : Nat} (H : List Int) : ∀ (ms : List Mv) (st st' : St), st.hs.length ≤ q → inn S q i H ms st = some st' → st.hs.length ≤ st'.hs.length ∧ st'.hs.length ≤ q
  | [], st, st', hq, h => by obtain rfl := Option.some.inj h; exact ⟨Nat.le_refl _, hq⟩
  | m :: ms, st, st', hq, h => by
    simp only [inn] at h
    by_cases c : nxt S H m.f0 m.f1 ∈ st.hs
    · rw [if_pos c] at h; exact inn_le H ms st st' hq h
    · rw [if_neg c] at h
      by_cases c2 : st.hs.length = q
      · rw [if_pos c2] at h; cases h
      · rw [if_neg c2] at h
        have := inn_le H ms _ st' (by simp [St.add]; omega) h
        simp [St.add] at this
        omega
theorem out_some {S : List Int} {a : Bool} {q : Nat} : ∀ (n i : Nat) (st : St), st.hs.length ≤ q → i ≤ st.hs.length → q + 1 < n + i → ∃ r, out S a q n i st = some r
  | 0, i, st, hq, hi, hn => by omega
  | n + 1, i, st, hq, hi, hn => by
    simp only [out]
    by_cases c : i < st.hs.length
    · rw [if_pos c]
      cases e : inn S q i (st.hs.getD i []) (mvs S (st.hs.getD i []) a) st with
      | none => exact ⟨none, rfl⟩
      | some st2 =>
        have := inn_le _ _ _ _ hq e
        exact out_some n (i + 1) st2 this.2 (by omega) (by omega)
    · rw [if_neg c]; exact ⟨_, rfl⟩
theorem bfs_out {S H : List Int} {a : Bool} {q : Nat} (hq : 1 ≤ q) : out S a q (q + 2) 0 (ini H) = some (bfs S H a q) := by
  obtain ⟨r, h⟩ := out_some (S := S) (a := a) (q := q) (q + 2) 0 (ini H) (by simp [ini]; omega) (by simp) (by omega)
  unfold bfs
  rw [h]; rfl
theorem good_ini {S H : List Int} {a : Bool} {q : Nat} (F : VFacts S H) (hq : 1 ≤ q) : Good S H a q 0 (ini H) := by
  refine ⟨by simp [ini], ?_, ?_, rfl, rfl, rfl, by simp [ini]; omega, ⟨rfl, rfl, rfl, by simp [ini]⟩, ?_, ?_, ?_, ?_⟩
  · intro h hh
    simp only [ini, List.mem_singleton] at hh
    subst hh; exact F
  · intro h hh
    simp only [ini, List.mem_singleton] at hh
    subst hh; exact F.he
  · intro x y hxy hy
    simp only [ini, List.length_singleton] at hy
    rw [show x = 0 by omega, show y = 0 by omega]; exact Int.le_refl _
  · intro x hx
    simp only [ini, List.length_singleton] at hx
    rw [show x = 0 by omega]; simp [ini]
  · intro x hx
    simp only [ini, List.length_singleton] at hx
    rw [show x = 0 by omega]; simp [ini]
  · intro x h0 hx
    simp only [ini, List.length_singleton] at hx
    omega
theorem bfs_fin {S H : List Int} {a : Bool} {q : Nat} (F : VFacts S H) (hq : 1 ≤ q) {st : St} (h : bfs S H a q = some st) : Fin S H a q st :=
  fin_out _ 0 (ini H) st (.inl (good_ini F hq)) (Nat.zero_le _) (fun j hj => absurd hj (Nat.not_lt_zero _)) (by rw [bfs_out hq, h])
theorem less_l0 (S' : List Int) : ∀ (d k i : Nat) (a b : List Int), i + d = a.length → a.length = b.length → a.length ≤ 1000 → d < k → spec_plLess.l0 k a (a.length : Int) (i : Int) S' b = some (lx (a.drop i) (b.drop i)) := by
  intro d
  induction d with
  | zero =>
    intro k i a b hi hl hb hk
    obtain ⟨k, rfl⟩ : ∃ m, k = m + 1 := ⟨k - 1, by omega⟩
    simp only [spec_plLess.l0]
    rw [if_neg (by omega), List.drop_eq_nil_of_le (by omega)]
    simp [lx]
  | succ d ih =>
    intro k i a b hi hl hb hk
    obtain ⟨k, rfl⟩ : ∃ m, k = m + 1 := ⟨k - 1, by omega⟩
    simp only [spec_plLess.l0]
    rw [if_pos (by omega), if_pos (by omega), if_pos (by omega), if_pos (by omega), drop_rd a i (by omega), drop_rd b i (by omega)]
    simp only [lx]
    by_cases e : rd a (i : Int) = rd b (i : Int)
    · rw [if_pos e, if_pos e, w64 (by omega) (by omega)]
      have := ih k (i + 1) a b (by omega) hl hb (by omega)
      exact_mod_cast this
    · rw [if_neg e, if_neg e]
theorem less_spec (S a S' b : List Int) (hl : a.length = b.length) (hb : a.length ≤ 1000) : Ev (fun k => spec_plLess.f k S a S' b) (lx a b) := by
  refine Ev.of 1000 fun k hk => ?_
  unfold spec_plLess.f
  have := less_l0 S' a.length k 0 a b (by omega) hl hb (by omega)
  simpa using this
abbrev Vs := S35
def vs (S h : List Int) : Vs := ⟨S, h⟩
theorem rdV (S : List Int) (hs : List (List Int)) (i : Nat) (h : i < hs.length) : rd_T35 (hs.map (vs S)) (i : Int) = vs S (hs.getD i []) := by
  have h2 : i < (hs.map (vs S)).length := by simpa using h
  show (hs.map (vs S)).getD ((i : Int).toNat) _ = _
  rw [Int.toNat_natCast, getD_get _ _ _ h2, getD_get _ _ _ h, List.getElem_map]
theorem rdM (ms : List Mv) (i : Nat) (h : i < ms.length) : rd_T55 ms (i : Int) = ms[i] := by
  rw [rdMvEq]; unfold rdMv
  rw [Int.toNat_natCast, getD_get _ _ _ h]
end Go.Proofs.Ytieioddimkafbaa.PuB
