/- FnExactIsUndone: what the law's Go functions compute, as plain functions, and that the law holds of them at all arguments. -/
import Derived.Test.YtigpkicbigpilaaUx10
namespace Go.Proofs.Ytigpkicbigpilaa.AuxFnExactIsUndone
open Go.RowKit Go.Proofs.Ytigpkicbigpilaa.U Go.Proofs.YtigpkicbigpilaaW.PrintWords Go.Proofs.YtigpkicbigpilaaW.PrintLast Go.Proofs.YtigpkicbigpilaaW.PrintMore
set_option linter.unusedVariables false
set_option linter.unusedSimpArgs false
theorem w64 {x : Int} (h0 : -9223372036854775808 ≤ x) (h1 : x ≤ 9223372036854775807) : wrap64 x = x := by
  unfold wrap64; omega
theorem in_spec (a b c : Int) : spec_l1In.f a b c = some (decide (b ≤ a ∧ a ≤ c)) := by
  unfold spec_l1In.f
  by_cases h : a ≥ b
  · rw [if_pos h]; congr 1; simp [show b ≤ a from h]
  · rw [if_neg h]; congr 1; simp [show ¬ b ≤ a from h]
theorem in_impl (a b c : Int) : impl_within.f a b c = some (decide (b ≤ a ∧ a ≤ c)) := by
  unfold impl_within.f
  by_cases h : b ≤ a
  · rw [if_pos h]; congr 1; simp [h]
  · rw [if_neg h]; congr 1; simp [h]
theorem rd_cons_zero (x : Int) (l : List Int) : rd (x :: l) 0 = x := rfl
theorem rd_nat (l : List Int) (i : Nat) : rd l (i : Int) = l.getD i 0 := by unfold rd; simp
theorem drop_rd (l : List Int) (i : Nat) (h : i < l.length) : l.drop i = rd l (i : Int) :: l.drop (i + 1) := by
  rw [rd_nat, List.drop_eq_getElem_cons h]; simp [h]
theorem all_l0 (lo hi : Int) (l : List Int) (hb : l.length ≤ 17592186044416) : ∀ (d k i : Nat), i + d = l.length → d < k →
    spec_l1All.l0 k lo hi l (l.length : Int) (i : Int) = some ((l.drop i).all fun x => decide (lo ≤ x ∧ x ≤ hi)) := by
  intro d
  induction d with
  | zero =>
    intro k i hi hk
    obtain ⟨k, rfl⟩ : ∃ m, k = m + 1 := ⟨k - 1, by omega⟩
    simp only [spec_l1All.l0]; rw [if_neg (by omega), List.drop_of_length_le (by omega)]; rfl
  | succ d ih =>
    intro k i hi hk
    obtain ⟨k, rfl⟩ : ∃ m, k = m + 1 := ⟨k - 1, by omega⟩
    simp only [spec_l1All.l0]
    rw [if_pos (by omega), if_pos (by omega), if_pos (by omega), in_spec, drop_rd l i (by omega)]
    simp only [Option.bind_some, List.all_cons]
    have ih' := ih k (i + 1) (by omega) (by omega)
    rw [w64 (by omega) (by omega), show ((i : Int) + 1) = ((i + 1 : Nat) : Int) by simp]
    split
    · rename_i h; rw [ih', h, Bool.true_and]
    · rename_i h; rw [Bool.eq_false_iff.mpr h, Bool.false_and]
theorem all_f (k : Nat) (l : List Int) (lo hi : Int) (hb : l.length ≤ 17592186044416) (hk : l.length < k) : spec_l1All.f k l lo hi = some (l.all fun x => decide (lo ≤ x ∧ x ≤ hi)) := by
  unfold spec_l1All.f
  have := all_l0 lo hi l hb l.length k 0 (by omega) hk
  simpa using this
/-- each amount lies between 0 and its size -/
def fits : List Int → List Int → Bool
  | s :: S, h :: H => decide (0 ≤ h ∧ h ≤ s) && fits S H
  | _, _ => true
theorem fits_spec (S H : List Int) (hb : S.length ≤ 17592186044416) (he : H.length = S.length) : ∀ (d k i : Nat), i + d = S.length → d < k →
    spec_veGood.l0 k H (H.length : Int) (i : Int) S H = some (fits (S.drop i) (H.drop i)) := by
  intro d
  induction d with
  | zero =>
    intro k i hi hk
    obtain ⟨k, rfl⟩ : ∃ m, k = m + 1 := ⟨k - 1, by omega⟩
    simp only [spec_veGood.l0]; rw [if_neg (by omega), List.drop_of_length_le (by omega)]; rfl
  | succ d ih =>
    intro k i hi hk
    obtain ⟨k, rfl⟩ : ∃ m, k = m + 1 := ⟨k - 1, by omega⟩
    simp only [spec_veGood.l0]
    rw [if_pos (by omega), if_pos (by omega), if_pos (by omega), if_pos (by omega), in_spec, drop_rd S i (by omega), drop_rd H i (by omega)]
    simp only [Option.bind_some, fits]
    have ih' := ih k (i + 1) (by omega) (by omega)
    rw [w64 (by omega) (by omega), show ((i : Int) + 1) = ((i + 1 : Nat) : Int) by simp]
    split
    · rename_i h; rw [ih', h, Bool.true_and]
    · rename_i h; rw [Bool.eq_false_iff.mpr h, Bool.false_and]
theorem fits_impl (S H : List Int) (hb : S.length ≤ 17592186044416) (he : H.length = S.length) : ∀ (d k i : Nat), i + d = S.length → d < k →
    impl_AreVessels.l0 k H (H.length : Int) (i : Int) S H = some (fits (S.drop i) (H.drop i)) := by
  intro d
  induction d with
  | zero =>
    intro k i hi hk
    obtain ⟨k, rfl⟩ : ∃ m, k = m + 1 := ⟨k - 1, by omega⟩
    simp only [impl_AreVessels.l0]; rw [if_neg (by omega), List.drop_of_length_le (by omega)]; rfl
  | succ d ih =>
    intro k i hi hk
    obtain ⟨k, rfl⟩ : ∃ m, k = m + 1 := ⟨k - 1, by omega⟩
    simp only [impl_AreVessels.l0]
    rw [if_pos (by omega), if_pos (by omega), if_pos (by omega), if_pos (by omega), in_impl, drop_rd S i (by omega), drop_rd H i (by omega)]
    simp only [Option.bind_some, fits]
    have ih' := ih k (i + 1) (by omega) (by omega)
    rw [w64 (by omega) (by omega), show ((i : Int) + 1) = ((i + 1 : Nat) : Int) by simp]
    split
    · rename_i h; rw [ih', h, Bool.true_and]
    · rename_i h; rw [Bool.eq_false_iff.mpr h, Bool.false_and]
/-- These are vessels. -/
def VOk (S H : List Int) : Bool := decide (1 ≤ S.length ∧ S.length ≤ 5) && (decide (H.length = S.length) && ((S.all fun x => decide (1 ≤ x ∧ x ≤ 60)) && fits S H))
theorem good_spec (k : Nat) (S H : List Int) (hb : S.length ≤ 17592186044416) (hk : S.length + 1 < k) : spec_veGood.f k S H = some (VOk S H) := by
  obtain ⟨k, rfl⟩ : ∃ m, k = m + 1 := ⟨k - 1, by omega⟩
  unfold spec_veGood.f VOk
  rw [in_spec]; simp only [Option.bind_some]
  by_cases h1 : 1 ≤ S.length ∧ S.length ≤ 5
  · rw [if_pos (by simp; omega)]
    by_cases h2 : H.length = S.length
    · rw [if_pos (by omega), all_f (k + 1) S 1 60 hb (by omega)]
      simp only [Option.bind_some, spec_veGood.j0]
      by_cases h3 : (S.all fun x => decide (1 ≤ x ∧ x ≤ 60)) = true
      · have := fits_spec S H hb h2 S.length k 0 (by omega) (by omega)
        rw [h3]; simp only [Bool.not_true, Bool.false_eq_true, if_false]
        simp only [List.drop_zero] at this
        rw [show (0 : Int) = ((0 : Nat) : Int) from rfl, this]; simp [h1, h2]
      · rw [Bool.eq_false_iff.mpr h3]; simp [h1, h2]
    · rw [if_neg (by omega)]; simp [spec_veGood.j0, h2]
  · rw [if_neg (by simp; omega)]; simp [spec_veGood.j0]; omega
theorem good_impl (k : Nat) (S H : List Int) (hb : S.length ≤ 17592186044416) (hk : S.length + 1 < k) : impl_AreVessels.f k S H = some (VOk S H) := by
  obtain ⟨k, rfl⟩ : ∃ m, k = m + 1 := ⟨k - 1, by omega⟩
  unfold impl_AreVessels.f VOk impl_areWithin.f
  rw [in_impl]; simp only [Option.bind_some]
  by_cases h1 : 1 ≤ S.length ∧ S.length ≤ 5
  · rw [if_pos (by simp; omega)]
    by_cases h2 : H.length = S.length
    · rw [if_pos (by omega)]
      simp only [impl_AreVessels.j0]
      by_cases h3 : (S.all fun x => decide (1 ≤ x ∧ x ≤ 60)) = true
      · have := fits_impl S H hb h2 S.length k 0 (by omega) (by omega)
        rw [h3]; simp only [Bool.not_true, Bool.false_eq_true, if_false]
        simp only [List.drop_zero] at this
        rw [show (0 : Int) = ((0 : Nat) : Int) from rfl, this]; simp [h1, h2]
      · rw [Bool.eq_false_iff.mpr h3]; simp [h1, h2]
    · rw [if_neg (by omega)]; simp [impl_AreVessels.j0, h2]
  · rw [if_neg (by simp; omega)]; simp [impl_AreVessels.j0]; omega
theorem eq_l0 (l : List Int) (hb : l.length ≤ 17592186044416) : ∀ (d k i : Nat), i + d = l.length → d < k → laws_eqIntS.l0 k l l (i : Int) = some true := by
  intro d
  induction d with
  | zero =>
    intro k i hi hk
    obtain ⟨k, rfl⟩ : ∃ m, k = m + 1 := ⟨k - 1, by omega⟩
    simp only [laws_eqIntS.l0]; rw [if_neg (by omega)]
  | succ d ih =>
    intro k i hi hk
    obtain ⟨k, rfl⟩ : ∃ m, k = m + 1 := ⟨k - 1, by omega⟩
    simp only [laws_eqIntS.l0]
    rw [if_pos (by omega), if_pos (by omega), if_pos (by omega), if_pos trivial, w64 (by omega) (by omega)]
    exact ih k (i + 1) (by omega) (by omega)
theorem eq_self (k : Nat) (l : List Int) (hb : l.length ≤ 17592186044416) (hk : l.length < k) : laws_eqIntS.f k l l = some true := by
  unfold laws_eqIntS.f
  rw [if_pos rfl]; exact eq_l0 l hb l.length k 0 (by omega) hk
theorem toInt_l0 (l : List Int) (hb : l.length ≤ 17592186044416) : ∀ (d k i : Nat), i + d = l.length → d < k →
    laws_toIntS.l0 k l (l.take i ++ List.replicate d 0) (i : Int) = some l := by
  intro d
  induction d with
  | zero =>
    intro k i hi hk
    obtain ⟨k, rfl⟩ : ∃ m, k = m + 1 := ⟨k - 1, by omega⟩
    simp only [laws_toIntS.l0]; rw [if_neg (by omega), List.take_of_length_le (by omega)]; simp
  | succ d ih =>
    intro k i hi hk
    obtain ⟨k, rfl⟩ : ∃ m, k = m + 1 := ⟨k - 1, by omega⟩
    simp only [laws_toIntS.l0]
    have e : (l.take i ++ List.replicate (d + 1) 0).set ((i : Int).toNat) (rd l (i : Int)) = l.take (i + 1) ++ List.replicate d 0 := by
      have hl : (l.take i).length = i := by simp; omega
      rw [Int.toNat_natCast, List.set_append_right _ _ (by omega), hl, Nat.sub_self, List.replicate_succ, List.set_cons_zero, List.take_succ_eq_append_getElem (by omega), List.append_assoc]
      unfold rd; simp [show i < l.length by omega]
    rw [if_pos (by omega), if_pos (by omega), if_pos (by simp; omega), e, w64 (by omega) (by omega), show ((i : Int) + 1) = ((i + 1 : Nat) : Int) by simp]
    exact ih k (i + 1) (by omega) (by omega)
theorem toInt_f (k : Nat) (l : List Int) (hb : l.length ≤ 17592186044416) (hk : l.length < k) : laws_toIntS.f k l = some l := by
  unfold laws_toIntS.f
  rw [if_pos (by omega), if_pos (by omega)]
  have := toInt_l0 l hb l.length k 0 (by omega) hk
  simpa using this
theorem toV_f (k : Nat) (S H : List Int) (h0 : S.length ≤ 17592186044416) (h1 : H.length ≤ 17592186044416) (hk : S.length < k) (hk' : H.length < k) : laws_toVessels.f k S H = some (S, H) := by
  unfold laws_toVessels.f
  rw [toInt_f k S h0 hk, toInt_f k H h1 hk']; rfl
theorem szI_f (l : List Int) (a : Int) (h : l.length ≤ 9223372036854775807) (h0 : 0 ≤ a) (h1 : a ≤ 1048576) : laws_szIntS.f l a = some (if (l.length : Int) ≤ a then a - l.length else -1) := by
  unfold laws_szIntS.f
  rw [w64 (by omega) (by omega)]
  by_cases c : (l.length : Int) ≤ a
  · rw [if_neg (by omega), if_pos c]
  · rw [if_pos (by omega), if_neg c]
theorem szV_f (S H : List Int) (h : S.length ≤ 9223372036854775807) (h' : H.length ≤ 9223372036854775807) :
    ∃ r, laws_szVessels.f S H 1048576 = some r ∧ (r < 0 ∨ (0 ≤ r ∧ S.length ≤ 1048576 ∧ H.length ≤ 1048576)) := by
  unfold laws_szVessels.f
  rw [szI_f S _ h (by omega) (by omega)]; simp only [Option.bind_some]
  by_cases c : (S.length : Int) ≤ 1048576
  · rw [if_pos c, if_neg (by omega), szI_f H _ h' (by omega) (by omega)]; simp only [Option.bind_some]
    by_cases c' : (H.length : Int) ≤ 1048576 - S.length
    · rw [if_pos c', if_neg (by omega)]; exact ⟨_, rfl, Or.inr ⟨by omega, by omega, by omega⟩⟩
    · rw [if_neg c']; exact ⟨_, rfl, Or.inl (by omega)⟩
  · rw [if_neg c]; exact ⟨_, rfl, Or.inl (by omega)⟩
abbrev Mv := S49
abbrev rdMv (l : List Mv) (i : Int) : Mv := l.getD i.toNat z49
theorem rdMvEq (l : List Mv) (i : Int) : rd_T49 l i = rdMv l i := rfl
theorem fits_len : ∀ (S H : List Int), fits S H = true → ∀ i, i < S.length → i < H.length → 0 ≤ rd H (i : Int) ∧ rd H (i : Int) ≤ rd S (i : Int)
  | [], _, _, i, h, _ => absurd h (Nat.not_lt_zero _)
  | _ :: _, [], _, i, _, h => absurd h (Nat.not_lt_zero _)
  | s :: S, h :: H, hf, 0, _, _ => by simp [fits] at hf; exact hf.1
  | s :: S, h :: H, hf, i + 1, h0, h1 => by
    simp only [fits, Bool.and_eq_true] at hf
    have := fits_len S H hf.2 i (by simpa using h0) (by simpa using h1)
    rw [rd_nat, rd_nat] at this ⊢
    simpa using this
/-- what vessels are, spelled out -/
structure VFacts (S H : List Int) : Prop where
  n0 : 1 ≤ S.length
  n1 : S.length ≤ 5
  he : H.length = S.length
  sz : ∀ i, i < S.length → 1 ≤ rd S (i : Int) ∧ rd S (i : Int) ≤ 60
  ht : ∀ i, i < S.length → 0 ≤ rd H (i : Int) ∧ rd H (i : Int) ≤ rd S (i : Int)
theorem VOk.facts {S H : List Int} (h : VOk S H = true) : VFacts S H := by
  simp only [VOk, Bool.and_eq_true, decide_eq_true_eq] at h
  obtain ⟨⟨n0, n1⟩, he, ha, hf⟩ := h
  refine ⟨n0, n1, he, fun i hi => ?_, fun i hi => fits_len S H hf i hi (by omega)⟩
  have := List.all_eq_true.mp ha (S.getD i 0) (by rw [List.getD_eq_getElem?_getD, List.getElem?_eq_getElem hi]; exact List.getElem_mem hi)
  rw [rd_nat]; simpa using this
theorem VFacts.szI {S H : List Int} (F : VFacts S H) (i : Int) (h0 : 0 ≤ i) (h1 : i < S.length) : 1 ≤ rd S i ∧ rd S i ≤ 60 := by
  obtain ⟨j, rfl⟩ := Int.eq_ofNat_of_zero_le h0; exact F.sz j (by omega)
theorem VFacts.htI {S H : List Int} (F : VFacts S H) (i : Int) (h0 : 0 ≤ i) (h1 : i < S.length) : 0 ≤ rd H i ∧ rd H i ≤ rd S i := by
  obtain ⟨j, rfl⟩ := Int.eq_ofNat_of_zero_le h0; exact F.ht j (by omega)
/-- The amount of a move. -/
def amt (S H : List Int) (f t : Int) : Int := if f < 0 then rd S t - rd H t else if t < 0 then rd H f else min (rd H f) (rd S t - rd H t)
/-- a move of so many vessels -/
def mvOk (n : Nat) (f t : Int) : Prop := (-1 ≤ f ∧ f ≤ n - 1) ∧ (-1 ≤ t ∧ t ≤ n - 1) ∧ f ≠ t
instance (n : Nat) (f t : Int) : Decidable (mvOk n f t) := by unfold mvOk; infer_instance
theorem amt_bd {S H : List Int} (F : VFacts S H) (f t : Int) (h : mvOk S.length f t) : 0 ≤ amt S H f t ∧ amt S H f t ≤ 60 := by
  obtain ⟨⟨a0, a1⟩, ⟨b0, b1⟩, ne⟩ := h
  unfold amt
  by_cases hf : f < 0
  · rw [if_pos hf]; have := F.szI t (by omega) (by omega); have := F.htI t (by omega) (by omega); omega
  · rw [if_neg hf]
    have := F.szI f (by omega) (by omega); have := F.htI f (by omega) (by omega)
    by_cases hg : t < 0
    · rw [if_pos hg]; omega
    · rw [if_neg hg]; have := F.szI t (by omega) (by omega); have := F.htI t (by omega) (by omega); omega
theorem amt_spec {S H : List Int} (F : VFacts S H) (f t : Int) (h : mvOk S.length f t) : spec_veAmount.f S H f t = some (amt S H f t) := by
  obtain ⟨⟨a0, a1⟩, ⟨b0, b1⟩, ne⟩ := h
  have he := F.he
  unfold spec_veAmount.f amt spec_l1Least.f
  by_cases hf : f < 0
  · have := F.szI t (by omega) (by omega); have := F.htI t (by omega) (by omega)
    rw [if_neg (by omega), if_pos (by omega), if_pos (by omega), if_pos (by omega), if_pos (by omega), if_pos hf, w64 (by omega) (by omega)]
    by_cases c : 60 < rd S t - rd H t
    · omega
    · rw [if_neg c]; rfl
  · have := F.szI f (by omega) (by omega); have := F.htI f (by omega) (by omega)
    rw [if_pos (by omega), if_pos (by omega), if_pos (by omega), if_neg hf]
    by_cases hg : t < 0
    · rw [if_neg (by omega), if_pos hg]
    · have := F.szI t (by omega) (by omega); have := F.htI t (by omega) (by omega)
      rw [if_pos (by omega), if_pos (by omega), if_pos (by omega), if_pos (by omega), if_neg hg, w64 (by omega) (by omega)]
      by_cases c : rd H f < rd S t - rd H t
      · rw [if_pos c]; simp only [Option.bind_some]; congr 1; omega
      · rw [if_neg c]; simp only [Option.bind_some]; congr 1; omega
theorem amt_impl {S H : List Int} (F : VFacts S H) (f t : Int) (h : mvOk S.length f t) : impl_Vessels_amount.f S H f t = some (amt S H f t) := by
  obtain ⟨⟨a0, a1⟩, ⟨b0, b1⟩, ne⟩ := h
  have he := F.he
  unfold impl_Vessels_amount.f impl_Vessels_room.f amt
  by_cases hf : f < 0
  · have := F.szI t (by omega) (by omega); have := F.htI t (by omega) (by omega)
    rw [if_pos hf, if_pos (by omega), if_pos (by omega), if_pos (by omega), if_pos hf, w64 (by omega) (by omega)]; rfl
  · have := F.szI f (by omega) (by omega); have := F.htI f (by omega) (by omega)
    rw [if_neg hf, if_neg hf]
    by_cases hg : t < 0
    · rw [if_pos hg, if_pos (by omega), if_pos (by omega), if_pos hg]
    · have := F.szI t (by omega) (by omega); have := F.htI t (by omega) (by omega)
      rw [if_neg hg, if_pos (by omega), if_pos (by omega), if_pos (by omega), if_pos (by omega), if_pos (by omega), if_neg hg, w64 (by omega) (by omega)]
      simp only [Option.bind_some]; congr 1; unfold mn; omega
theorem mv_spec (n : Nat) (f t : Int) (h : n ≤ 5) : spec_veMove.f (n : Int) f t = some (decide (mvOk n f t)) := by
  unfold spec_veMove.f
  rw [w64 (by omega) (by omega), in_spec]; simp only [Option.bind_some]
  by_cases a : -1 ≤ f ∧ f ≤ n - 1
  · rw [if_pos (by simpa using a), in_spec]; simp only [Option.bind_some]
    by_cases b : -1 ≤ t ∧ t ≤ n - 1
    · rw [if_pos (by simpa using b)]; congr 1; simp only [mvOk, a, b, bne, true_and]
      by_cases e : f = t
      · simp [e]
      · simp [e]
    · rw [if_neg (by simpa using b)]; congr 1; symm; simp only [decide_eq_false_iff_not]; intro h; exact b h.2.1
  · rw [if_neg (by simpa using a)]; congr 1; symm; simp only [decide_eq_false_iff_not]; intro h; exact a h.1
/-- the moves from f to t, t + 1, .. (so many) -/
def seg (S H : List Int) (closed : Bool) (f : Int) : Nat → Int → List (Mv)
  | 0, _ => []
  | d + 1, t => (if f ≠ t ∧ ¬ (closed = true ∧ (f < 0 ∨ t < 0)) ∧ amt S H f t ≠ 0 then [(⟨f, t⟩ : Mv)] else []) ++ seg S H closed f d (t + 1)
def rows (S H : List Int) (closed : Bool) : Nat → Int → List (Mv)
  | 0, _ => []
  | d + 1, f => seg S H closed f (S.length + 1) (-1) ++ rows S H closed d (f + 1)
/-- All moves with an amount, in order. -/
def mvs (S H : List Int) (closed : Bool) : List (Mv) := rows S H closed (S.length + 1) (-1)
theorem seg_len (S H : List Int) (closed : Bool) (f : Int) : ∀ d t, (seg S H closed f d t).length ≤ d
  | 0, _ => by simp [seg]
  | d + 1, t => by
    have := seg_len S H closed f d (t + 1)
    simp only [seg, List.length_append]
    split <;> simp <;> omega
theorem rows_len (S H : List Int) (closed : Bool) : ∀ d f, (rows S H closed d f).length ≤ d * (S.length + 1)
  | 0, _ => by simp [rows]
  | d + 1, f => by
    have := rows_len S H closed d (f + 1)
    have := seg_len S H closed f (S.length + 1) (-1)
    simp only [rows, List.length_append]
    rw [Nat.add_mul]; omega
theorem mvs_len {S H : List Int} (F : VFacts S H) (closed : Bool) : (mvs S H closed).length ≤ 36 := by
  have := rows_len S H closed (S.length + 1) (-1)
  have h6 : S.length + 1 ≤ 6 := by have := F.n1; omega
  have : (S.length + 1) * (S.length + 1) ≤ 6 * 6 := Nat.mul_le_mul h6 h6
  unfold mvs; omega
theorem on_l1 {S H : List Int} (F : VFacts S H) (closed : Bool) (f : Int) (hf : -1 ≤ f ∧ f < S.length) : ∀ (d k : Nat) (acc : List (Mv)) (t : Int), -1 ≤ t → t + d = S.length → d < k → acc.length + d ≤ 1000 →
    ∃ k', k' + d + 1 = k ∧ spec_veOn.l1 k closed acc f t S H = spec_veOn.l0 k' closed (acc ++ seg S H closed f d t) (f + 1) S H := by
  have n1 := F.n1
  intro d
  induction d with
  | zero =>
    intro k acc t ht hd hk ha
    obtain ⟨k, rfl⟩ : ∃ m, k = m + 1 := ⟨k - 1, by omega⟩
    refine ⟨k, by omega, ?_⟩
    simp only [spec_veOn.l1]; rw [if_neg (by omega), w64 (by omega) (by omega)]; simp [seg]
  | succ d ih =>
    intro k acc t ht hd hk ha
    obtain ⟨k, rfl⟩ : ∃ m, k = m + 1 := ⟨k - 1, by omega⟩
    simp only [spec_veOn.l1]
    rw [if_pos (by omega), mv_spec S.length f t n1, w64 (x := t + 1) (by omega) (by omega)]; simp only [Option.bind_some]
    by_cases e : f = t
    · rw [if_neg (by simp [mvOk, e])]
      obtain ⟨k', hk', h⟩ := ih k acc (t + 1) (by omega) (by omega) (by omega) (by omega)
      refine ⟨k', by omega, ?_⟩
      rw [h]; simp [seg, e]
    · have ok : mvOk S.length f t := ⟨by omega, by omega, e⟩
      rw [if_pos (by simpa using ok), amt_spec F f t ok]; simp only [Option.bind_some]
      by_cases z : amt S H f t = 0
      · obtain ⟨k', hk', h⟩ := ih k acc (t + 1) (by omega) (by omega) (by omega) (by omega)
        refine ⟨k', by omega, ?_⟩
        rw [if_pos z]
        cases closed with
        | false => simp only [Bool.false_eq_true, if_false]; rw [h]; simp [seg, z]
        | true =>
          simp only [if_true]
          by_cases f0 : f < 0
          · rw [if_pos f0, h]; simp [seg, z]
          · rw [if_neg f0]
            by_cases t0 : t < 0
            · rw [if_pos t0, h]; simp [seg, z]
            · rw [if_neg t0, h]; simp [seg, z]
      · rw [if_neg z, if_pos (show acc.length < 8796093022208 by omega)]
        have add : ∀ (hn : ¬ (closed = true ∧ (f < 0 ∨ t < 0))), seg S H closed f (d + 1) t = (⟨f, t⟩ : Mv) :: seg S H closed f d (t + 1) := fun hn => by
          simp only [seg]; rw [if_pos ⟨e, hn, z⟩]; rfl
        have skip : ∀ (hn : closed = true ∧ (f < 0 ∨ t < 0)), seg S H closed f (d + 1) t = seg S H closed f d (t + 1) := fun hn => by
          simp only [seg]; rw [if_neg (fun h => h.2.1 hn)]; rfl
        by_cases hn : closed = true ∧ (f < 0 ∨ t < 0)
        · obtain ⟨k', hk', h⟩ := ih k acc (t + 1) (by omega) (by omega) (by omega) (by omega)
          refine ⟨k', by omega, ?_⟩
          rw [skip hn, ← h]
          obtain ⟨rfl, c⟩ := hn
          simp only [if_true]
          by_cases f0 : f < 0
          · rw [if_pos f0]
          · rw [if_neg f0, if_pos (by omega)]
        · obtain ⟨k', hk', h⟩ := ih k (acc ++ [⟨f, t⟩]) (t + 1) (by omega) (by omega) (by omega) (by simp; omega)
          refine ⟨k', by omega, ?_⟩
          rw [add hn]
          have e2 : acc ++ (⟨f, t⟩ : Mv) :: seg S H closed f d (t + 1) = (acc ++ [⟨f, t⟩]) ++ seg S H closed f d (t + 1) := by simp
          rw [e2, ← h]
          cases closed with
          | false => simp
          | true => simp only [if_true]; rw [if_neg (by simp at hn; omega), if_neg (by simp at hn; omega)]
theorem on_l0 {S H : List Int} (F : VFacts S H) (closed : Bool) : ∀ (d k : Nat) (acc : List (Mv)) (f : Int), -1 ≤ f → f + d = S.length → d * 8 < k → acc.length + d * 6 ≤ 500 →
    spec_veOn.l0 k closed acc f S H = some (acc ++ rows S H closed d f) := by
  have n1 := F.n1
  intro d
  induction d with
  | zero =>
    intro k acc f hf hd hk ha
    obtain ⟨k, rfl⟩ : ∃ m, k = m + 1 := ⟨k - 1, by omega⟩
    simp only [spec_veOn.l0]; rw [if_neg (by omega)]; simp [rows]
  | succ d ih =>
    intro k acc f hf hd hk ha
    obtain ⟨k, rfl⟩ : ∃ m, k = m + 1 := ⟨k - 1, by omega⟩
    simp only [spec_veOn.l0]
    rw [if_pos (by omega)]
    obtain ⟨k', hk', h⟩ := on_l1 F closed f ⟨hf, by omega⟩ (S.length + 1) k acc (-1) (by omega) (by omega) (by omega) (by omega)
    have hs := seg_len S H closed f (S.length + 1) (-1)
    rw [h, ih k' _ (f + 1) (by omega) (by omega) (by omega) (by simp; omega)]
    simp [rows]
theorem on_f {S H : List Int} (F : VFacts S H) (closed : Bool) (k : Nat) (hk : 100 < k) : spec_veOn.f k S H closed = some (mvs S H closed) := by
  have n1 := F.n1
  unfold spec_veOn.f mvs
  rw [on_l0 F closed (S.length + 1) k [] (-1) (by omega) (by omega) (by omega) (by simp; omega)]; rfl
theorem mo_l1 {S H : List Int} (F : VFacts S H) (closed : Bool) (x f : Int) (hx : x = if closed = true then 0 else -1) (hf : x ≤ f ∧ f < S.length) : ∀ (d k : Nat) (acc : List (Mv)) (t : Int), x ≤ t → t + d = S.length → d < k → acc.length + d ≤ 1000 →
    ∃ k', k' + d + 1 = k ∧ impl_Vessels_moves.l1 k x acc f t S H = impl_Vessels_moves.l0 k' x (acc ++ seg S H closed f d t) (f + 1) S H := by
  have n1 := F.n1
  have x1 : -1 ≤ x := by rw [hx]; split <;> omega
  intro d
  induction d with
  | zero =>
    intro k acc t ht hd hk ha
    obtain ⟨k, rfl⟩ : ∃ m, k = m + 1 := ⟨k - 1, by omega⟩
    refine ⟨k, by omega, ?_⟩
    simp only [impl_Vessels_moves.l1]; rw [if_neg (by omega), w64 (by omega) (by omega)]; simp [seg]
  | succ d ih =>
    intro k acc t ht hd hk ha
    obtain ⟨k, rfl⟩ : ∃ m, k = m + 1 := ⟨k - 1, by omega⟩
    simp only [impl_Vessels_moves.l1]
    rw [if_pos (by omega), w64 (x := t + 1) (by omega) (by omega)]
    have hn : ¬ (closed = true ∧ (f < 0 ∨ t < 0)) := by rintro ⟨rfl, c⟩; simp at hx; omega
    by_cases e : f = t
    · rw [if_pos e]
      obtain ⟨k', hk', h⟩ := ih k acc (t + 1) (by omega) (by omega) (by omega) (by omega)
      refine ⟨k', by omega, ?_⟩
      rw [h]; simp [seg, e]
    · have ok : mvOk S.length f t := ⟨by omega, by omega, e⟩
      have ab := amt_bd F f t ok
      rw [if_neg e, amt_impl F f t ok]; simp only [Option.bind_some]
      by_cases z : amt S H f t > 0
      · rw [if_pos z, if_pos (by omega)]
        obtain ⟨k', hk', h⟩ := ih k (acc ++ [⟨f, t⟩]) (t + 1) (by omega) (by omega) (by omega) (by simp; omega)
        refine ⟨k', by omega, ?_⟩
        rw [h]
        have : seg S H closed f (d + 1) t = (⟨f, t⟩ : Mv) :: seg S H closed f d (t + 1) := by simp only [seg]; rw [if_pos ⟨e, hn, by omega⟩]; rfl
        rw [this]; simp
      · rw [if_neg z]
        obtain ⟨k', hk', h⟩ := ih k acc (t + 1) (by omega) (by omega) (by omega) (by omega)
        refine ⟨k', by omega, ?_⟩
        have : seg S H closed f (d + 1) t = seg S H closed f d (t + 1) := by simp only [seg]; rw [if_neg (fun h => h.2.2 (by omega))]; rfl
        rw [h, this]
theorem seg_closed (S H : List Int) (f : Int) (n : Nat) : seg S H true f (n + 1) (-1) = seg S H true f n 0 := by
  simp [seg]
theorem seg_none (S H : List Int) : ∀ (d : Nat) (t : Int), seg S H true (-1) d t = []
  | 0, _ => rfl
  | d + 1, t => by simp only [seg]; rw [if_neg (by simp), seg_none S H d (t + 1)]; rfl
theorem mo_l0 {S H : List Int} (F : VFacts S H) (closed : Bool) (x : Int) (hx : x = if closed = true then 0 else -1) : ∀ (d k : Nat) (acc : List (Mv)) (f : Int), x ≤ f → f + d = S.length → d * 8 < k → acc.length + d * 6 ≤ 500 →
    impl_Vessels_moves.l0 k x acc f S H = some (acc ++ rows S H closed d f) := by
  have n1 := F.n1
  intro d
  induction d with
  | zero =>
    intro k acc f hf hd hk ha
    obtain ⟨k, rfl⟩ : ∃ m, k = m + 1 := ⟨k - 1, by omega⟩
    simp only [impl_Vessels_moves.l0]; rw [if_neg (by omega)]; simp [rows]
  | succ d ih =>
    intro k acc f hf hd hk ha
    obtain ⟨k, rfl⟩ : ∃ m, k = m + 1 := ⟨k - 1, by omega⟩
    simp only [impl_Vessels_moves.l0]
    rw [if_pos (by omega)]
    cases closed with
    | false =>
      simp at hx
      obtain ⟨k', hk', h⟩ := mo_l1 F false x f (by simpa using hx) ⟨hf, by omega⟩ (S.length + 1) k acc x (by omega) (by omega) (by omega) (by omega)
      have hs := seg_len S H false f (S.length + 1) (-1)
      subst hx
      rw [h, ih k' _ (f + 1) (by omega) (by omega) (by omega) (by simp; omega)]
      simp [rows]
    | true =>
      simp at hx
      obtain ⟨k', hk', h⟩ := mo_l1 F true x f (by simpa using hx) ⟨hf, by omega⟩ S.length k acc x (by omega) (by omega) (by omega) (by omega)
      have hs := seg_len S H true f S.length 0
      subst hx
      rw [h, ih k' _ (f + 1) (by omega) (by omega) (by omega) (by simp; omega)]
      simp [rows, seg_closed]
theorem mo_f {S H : List Int} (F : VFacts S H) (closed : Bool) (k : Nat) (hk : 100 < k) : impl_Vessels_moves.f k S H closed = some (mvs S H closed) := by
  have n1 := F.n1
  obtain ⟨k, rfl⟩ : ∃ m, k = m + 1 := ⟨k - 1, by omega⟩
  unfold impl_Vessels_moves.f mvs
  cases closed with
  | false =>
    simp only [Bool.false_eq_true, if_false, impl_Vessels_moves.j0]
    rw [mo_l0 F false (-1) rfl (S.length + 1) k [] (-1) (by omega) (by omega) (by omega) (by simp; omega)]; rfl
  | true =>
    simp only [if_true, impl_Vessels_moves.j0]
    rw [mo_l0 F true 0 rfl S.length k [] 0 (by omega) (by omega) (by omega) (by simp; omega)]
    simp [rows, seg_none]
theorem rd_set (l : List Int) (i j : Nat) (x : Int) (h : i < l.length) : rd (l.set i x) (j : Int) = if i = j then x else rd l (j : Int) := by
  rw [rd_nat, rd_nat, List.getD_eq_getElem?_getD, List.getD_eq_getElem?_getD, List.getElem?_set]
  by_cases e : i = j
  · subst e; rw [if_pos rfl, if_pos rfl, if_pos h]; rfl
  · rw [if_neg e, if_neg e]
theorem ext_rd (a b : List Int) (hl : a.length = b.length) (h : ∀ i : Nat, i < a.length → rd a (i : Int) = rd b (i : Int)) : a = b := by
  refine List.ext_getElem hl (fun i h1 h2 => ?_)
  have := h i h1
  rw [rd_nat, rd_nat, List.getD_eq_getElem?_getD, List.getD_eq_getElem?_getD, List.getElem?_eq_getElem h1, List.getElem?_eq_getElem h2] at this
  exact this
/-- What is held behind a move. -/
def mk1 (H : List Int) (f a : Int) : List Int := if f ≥ 0 then H.set f.toNat (rd H f - a) else H
def mk2 (H : List Int) (t a : Int) : List Int := if t ≥ 0 then H.set t.toNat (rd H t + a) else H
def nxt (S H : List Int) (f t : Int) : List Int := mk2 (mk1 H f (amt S H f t)) t (amt S H f t)
theorem mk1_len (H : List Int) (f a : Int) : (mk1 H f a).length = H.length := by unfold mk1; split <;> simp
theorem mk2_len (H : List Int) (t a : Int) : (mk2 H t a).length = H.length := by unfold mk2; split <;> simp
theorem nxt_len (S H : List Int) (f t : Int) : (nxt S H f t).length = H.length := by unfold nxt; rw [mk2_len, mk1_len]
theorem mk1_rd (H : List Int) (f a : Int) (hf : f < H.length) (j : Nat) : rd (mk1 H f a) (j : Int) = rd H (j : Int) - (if f = (j : Int) then a else 0) := by
  unfold mk1
  by_cases c : f ≥ 0
  · rw [if_pos c]
    obtain ⟨i, rfl⟩ := Int.eq_ofNat_of_zero_le c
    rw [Int.toNat_natCast, rd_set _ _ _ _ (by omega)]
    by_cases e : i = j
    · subst e; rw [if_pos rfl, if_pos rfl]
    · rw [if_neg e, if_neg (by omega)]; omega
  · rw [if_neg c, if_neg (by omega)]; omega
theorem mk2_rd (H : List Int) (t a : Int) (hf : t < H.length) (j : Nat) : rd (mk2 H t a) (j : Int) = rd H (j : Int) + (if t = (j : Int) then a else 0) := by
  unfold mk2
  by_cases c : t ≥ 0
  · rw [if_pos c]
    obtain ⟨i, rfl⟩ := Int.eq_ofNat_of_zero_le c
    rw [Int.toNat_natCast, rd_set _ _ _ _ (by omega)]
    by_cases e : i = j
    · subst e; rw [if_pos rfl, if_pos rfl]
    · rw [if_neg e, if_neg (by omega)]; omega
  · rw [if_neg c, if_neg (by omega)]; omega
theorem nxt_rd (S H : List Int) (f t : Int) (hf : f < H.length) (ht : t < H.length) (j : Nat) : rd (nxt S H f t) (j : Int) = rd H (j : Int) - (if f = (j : Int) then amt S H f t else 0) + (if t = (j : Int) then amt S H f t else 0) := by
  unfold nxt; rw [mk2_rd _ _ _ (by rw [mk1_len]; exact ht), mk1_rd _ _ _ hf]
theorem amt_le {S H : List Int} (F : VFacts S H) (f t : Int) (h : mvOk S.length f t) : (f ≥ 0 → amt S H f t ≤ rd H f) ∧ (t ≥ 0 → amt S H f t ≤ rd S t - rd H t) := by
  obtain ⟨⟨a0, a1⟩, ⟨b0, b1⟩, ne⟩ := h
  unfold amt
  by_cases hf : f < 0
  · rw [if_pos hf]; omega
  · rw [if_neg hf]
    by_cases hg : t < 0
    · rw [if_pos hg]; omega
    · rw [if_neg hg]; omega
theorem nxt_facts {S H : List Int} (F : VFacts S H) (f t : Int) (h : mvOk S.length f t) : VFacts S (nxt S H f t) := by
  have hb := amt_bd F f t h
  obtain ⟨l1, l2⟩ := amt_le F f t h
  obtain ⟨⟨a0, a1⟩, ⟨b0, b1⟩, ne⟩ := h
  have he := F.he
  refine ⟨F.n0, F.n1, by rw [nxt_len]; exact he, F.sz, fun i hi => ?_⟩
  rw [nxt_rd S H f t (by omega) (by omega)]
  have h1 := F.ht i hi
  by_cases e1 : f = (i : Int)
  · rw [if_pos e1, if_neg (by omega)]; have := l1 (by omega); rw [e1] at this hb ⊢; omega
  · rw [if_neg e1]
    by_cases e2 : t = (i : Int)
    · rw [if_pos e2]; have := l2 (by omega); rw [e2] at this hb ⊢; omega
    · rw [if_neg e2]; omega
theorem own_spec (l : List Int) (h : l.length < 17592186044416) : spec_l1Own.f l = some l := by
  unfold spec_l1Own.f; simp only [Option.bind_some, List.length_nil, Nat.zero_add, List.nil_append]; rw [if_pos h]
theorem make_spec {S H : List Int} (F : VFacts S H) (f t : Int) (h : mvOk S.length f t) : spec_veMake.f S H f t = some (S, nxt S H f t) := by
  have hb := amt_bd F f t h
  obtain ⟨l1, l2⟩ := amt_le F f t h
  unfold spec_veMake.f
  rw [amt_spec F f t h]
  obtain ⟨⟨a0, a1⟩, ⟨b0, b1⟩, ne⟩ := h
  have he := F.he; have n1 := F.n1
  simp only [Option.bind_some]
  rw [own_spec S (by omega), own_spec H (by omega)]; simp only [Option.bind_some]
  unfold nxt mk2
  by_cases c : f ≥ 0
  · have := F.htI f (by omega) (by omega); have := F.szI f (by omega) (by omega)
    have em : mk1 H f (amt S H f t) = H.set f.toNat (rd H f - amt S H f t) := by unfold mk1; rw [if_pos c]
    rw [if_pos c, if_pos c, if_pos (by omega), w64 (by omega) (by omega), em]
    by_cases d : t ≥ 0
    · have := F.htI t (by omega) (by omega); have := F.szI t (by omega) (by omega)
      have er : rd (H.set f.toNat (rd H f - amt S H f t)) t = rd H t := by
        rw [← em]; obtain ⟨j, rfl⟩ := Int.eq_ofNat_of_zero_le d; rw [mk1_rd _ _ _ (by omega), if_neg (by omega)]; omega
      simp only [if_pos d, er]
      rw [if_pos (by omega), w64 (by omega) (by omega)]
    · simp only [if_neg d]
  · rw [if_neg c]
    have em : mk1 H f (amt S H f t) = H := by unfold mk1; rw [if_neg c]
    rw [em]
    by_cases d : t ≥ 0
    · have := F.htI t (by omega) (by omega); have := F.szI t (by omega) (by omega)
      rw [if_pos d, if_pos d, if_pos (by omega), if_pos d, w64 (by omega) (by omega)]
    · rw [if_neg d, if_neg d]
theorem own_impl (S H : List Int) (h : S.length < 17592186044416) (h2 : H.length < 17592186044416) : impl_Vessels_own.f S H = some (S, H) := by
  unfold impl_Vessels_own.f slices_Clone_int_int.f
  rw [if_pos h, if_pos h2]; rfl
theorem make_impl {S H : List Int} (F : VFacts S H) (f t : Int) (h : mvOk S.length f t) : impl_Vessels_behind.f S H f t = some (S, nxt S H f t) := by
  have hb := amt_bd F f t h
  obtain ⟨l1, l2⟩ := amt_le F f t h
  unfold impl_Vessels_behind.f
  rw [amt_impl F f t h]
  obtain ⟨⟨a0, a1⟩, ⟨b0, b1⟩, ne⟩ := h
  have he := F.he; have n1 := F.n1
  rw [own_impl S H (by omega) (by omega)]; simp only [Option.bind_some]
  unfold nxt mk2
  by_cases c : f ≥ 0
  · have := F.htI f (by omega) (by omega); have := F.szI f (by omega) (by omega)
    have em : mk1 H f (amt S H f t) = H.set f.toNat (rd H f - amt S H f t) := by unfold mk1; rw [if_pos c]
    rw [if_pos c, if_pos c, if_pos (by omega), w64 (by omega) (by omega), em]
    by_cases d : t ≥ 0
    · have := F.htI t (by omega) (by omega); have := F.szI t (by omega) (by omega)
      have er : rd (H.set f.toNat (rd H f - amt S H f t)) t = rd H t := by
        rw [← em]; obtain ⟨j, rfl⟩ := Int.eq_ofNat_of_zero_le d; rw [mk1_rd _ _ _ (by omega), if_neg (by omega)]; omega
      simp only [if_pos d, er]
      rw [if_pos (by omega), w64 (by omega) (by omega)]
    · simp only [if_neg d]
  · rw [if_neg c]
    have em : mk1 H f (amt S H f t) = H := by unfold mk1; rw [if_neg c]
    rw [em]
    by_cases d : t ≥ 0
    · have := F.htI t (by omega) (by omega); have := F.szI t (by omega) (by omega)
      rw [if_pos d, if_pos d, if_pos (by omega), if_pos d, w64 (by omega) (by omega)]
    · rw [if_neg d, if_neg d]
theorem nxt_self {S H : List Int} (F : VFacts S H) (f t : Int) (h : mvOk S.length f t) : nxt S H f t = H ↔ amt S H f t = 0 := by
  obtain ⟨⟨a0, a1⟩, ⟨b0, b1⟩, ne⟩ := h
  have he := F.he
  constructor
  · intro e
    by_cases c : f ≥ 0
    · obtain ⟨j, rfl⟩ := Int.eq_ofNat_of_zero_le c
      have := nxt_rd S H j t (by omega) (by omega) j
      rw [e, if_pos rfl, if_neg (by omega)] at this; omega
    · have c2 : t ≥ 0 := by omega
      obtain ⟨j, rfl⟩ := Int.eq_ofNat_of_zero_le c2
      have := nxt_rd S H f j (by omega) (by omega) j
      rw [e, if_pos rfl, if_neg (by omega)] at this; omega
  · intro e
    refine ext_rd _ _ (nxt_len S H f t) (fun i hi => ?_)
    rw [nxt_rd S H f t (by omega) (by omega), e]
    split <;> split <;> omega
theorem same_l0 (H : List Int) (S' H' : List Int) (hl : H.length = H'.length) (hb : H.length ≤ 1000000) : ∀ (d k i : Nat), i + d = H.length → d < k → (∀ j : Nat, j < i → rd H (j : Int) = rd H' (j : Int)) → spec_veSame.l0 k H (H.length : Int) (i : Int) S' H' = some (decide (H = H')) := by
  intro d
  induction d with
  | zero =>
    intro k i hi hk ha
    obtain ⟨k, rfl⟩ : ∃ m, k = m + 1 := ⟨k - 1, by omega⟩
    simp only [spec_veSame.l0]
    rw [if_neg (by omega)]
    have : H = H' := ext_rd _ _ hl (fun j hj => ha j (by omega))
    simp [this]
  | succ d ih =>
    intro k i hi hk ha
    obtain ⟨k, rfl⟩ : ∃ m, k = m + 1 := ⟨k - 1, by omega⟩
    simp only [spec_veSame.l0]
    rw [if_pos (by omega), if_pos (by omega), if_pos (by omega), if_pos (by omega)]
    by_cases e : rd H (i : Int) = rd H' (i : Int)
    · rw [if_pos e, w64 (by omega) (by omega)]
      refine ih k (i + 1) (by omega) (by omega) (fun j hj => ?_)
      by_cases e2 : j = i
      · rw [e2]; exact e
      · exact ha j (by omega)
    · rw [if_neg e]
      have : H ≠ H' := fun e2 => e (by rw [e2])
      simp [this]
theorem same_spec (k : Nat) (S H S' H' : List Int) (hl : H.length = H'.length) (hb : H.length ≤ 1000000) (hk : H.length < k) : spec_veSame.f k S H S' H' = some (decide (H = H')) := by
  unfold spec_veSame.f
  exact same_l0 H S' H' hl hb H.length k 0 (by omega) hk (fun j hj => absurd hj (Nat.not_lt_zero _))
theorem seg_mem (S H : List Int) (closed : Bool) (f : Int) : ∀ (d : Nat) (t : Int) (m : Mv), m ∈ seg S H closed f d t → m.f0 = f ∧ t ≤ m.f1 ∧ m.f1 < t + d ∧ f ≠ m.f1 ∧ amt S H f m.f1 ≠ 0
  | 0, _, _, h => by simp [seg] at h
  | d + 1, t, m, h => by
    simp only [seg, List.mem_append] at h
    rcases h with h | h
    · split at h
      · rename_i c
        obtain rfl := List.mem_singleton.mp h
        exact ⟨rfl, by simp only; omega, by simp only; omega, c.1, c.2.2⟩
      · cases h
    · obtain ⟨e1, e2, e3, e4, e5⟩ := seg_mem S H closed f d (t + 1) m h
      exact ⟨e1, by omega, by omega, e4, e5⟩
theorem rows_mem (S H : List Int) (closed : Bool) : ∀ (d : Nat) (f : Int) (m : Mv), m ∈ rows S H closed d f → (f ≤ m.f0 ∧ m.f0 < f + d) ∧ (-1 ≤ m.f1 ∧ m.f1 ≤ S.length - 1) ∧ m.f0 ≠ m.f1 ∧ amt S H m.f0 m.f1 ≠ 0
  | 0, _, _, h => by simp [rows] at h
  | d + 1, f, m, h => by
    simp only [rows, List.mem_append] at h
    rcases h with h | h
    · obtain ⟨e1, e2, e3, e4, e5⟩ := seg_mem S H closed f _ _ m h
      rw [e1]; exact ⟨by omega, by omega, e4, e5⟩
    · obtain ⟨e1, e2, e3, e4⟩ := rows_mem S H closed d (f + 1) m h
      exact ⟨by omega, e2, e3, e4⟩
theorem mvs_mem (S H : List Int) (closed : Bool) (m : Mv) (h : m ∈ mvs S H closed) : mvOk S.length m.f0 m.f1 ∧ amt S H m.f0 m.f1 ≠ 0 := by
  obtain ⟨e1, e2, e3, e4⟩ := rows_mem S H closed _ _ m h
  exact ⟨⟨by omega, by omega, e3⟩, e4⟩
theorem mv_impl (n : Nat) (f t : Int) (h : n ≤ 5) : impl_Move_isMove.f f t (n : Int) = some (decide (mvOk n f t)) := by
  unfold impl_Move_isMove.f
  rw [w64 (by omega) (by omega), in_impl]; simp only [Option.bind_some]
  by_cases a : -1 ≤ f ∧ f ≤ n - 1
  · rw [if_pos (by simpa using a), in_impl]; simp only [Option.bind_some]
    by_cases b : -1 ≤ t ∧ t ≤ n - 1
    · rw [if_pos (by simpa using b)]; congr 1; simp only [mvOk, a, b, bne, true_and]
      by_cases e : f = t
      · simp [e]
      · simp [e]
    · rw [if_neg (by simpa using b)]; congr 1; symm; simp only [decide_eq_false_iff_not]; intro h; exact b h.2.1
  · rw [if_neg (by simpa using a)]; congr 1; symm; simp only [decide_eq_false_iff_not]; intro h; exact a h.1
theorem sleq_l0 (a b : List Int) (hl : a.length = b.length) (hb : a.length ≤ 1000000) : ∀ (d k i : Nat), i + d = a.length → d < k → (∀ j : Nat, j < i → rd a (j : Int) = rd b (j : Int)) → slices_Equal_int_int.l0 k a b (a.length : Int) (i : Int) = some (decide (a = b)) := by
  intro d
  induction d with
  | zero =>
    intro k i hi hk ha
    obtain ⟨k, rfl⟩ : ∃ m, k = m + 1 := ⟨k - 1, by omega⟩
    simp only [slices_Equal_int_int.l0]
    rw [if_neg (by omega)]
    have : a = b := ext_rd _ _ hl (fun j hj => ha j (by omega))
    simp [this]
  | succ d ih =>
    intro k i hi hk ha
    obtain ⟨k, rfl⟩ : ∃ m, k = m + 1 := ⟨k - 1, by omega⟩
    simp only [slices_Equal_int_int.l0]
    rw [if_pos (by omega), if_pos (by omega), if_pos (by omega), if_pos (by omega)]
    by_cases e : rd a (i : Int) = rd b (i : Int)
    · rw [if_pos e, w64 (by omega) (by omega)]
      refine ih k (i + 1) (by omega) (by omega) (fun j hj => ?_)
      by_cases e2 : j = i
      · rw [e2]; exact e
      · exact ha j (by omega)
    · rw [if_neg e]
      have : a ≠ b := fun e2 => e (by rw [e2])
      simp [this]
theorem sleq_f (k : Nat) (a b : List Int) (hb : a.length ≤ 1000000) (hk : a.length < k) : slices_Equal_int_int.f k a b = some (decide (a = b)) := by
  unfold slices_Equal_int_int.f
  by_cases c : (a.length : Int) = b.length
  · rw [if_pos c]; exact sleq_l0 a b (by omega) hb a.length k 0 (by omega) hk (fun j hj => absurd hj (Nat.not_lt_zero _))
  · rw [if_neg c]
    have : a ≠ b := fun e => c (by rw [e])
    simp [this]
end Go.Proofs.Ytigpkicbigpilaa.AuxFnExactIsUndone
namespace Go.Proofs.Ytigpkicbigpilaa.Pure
open Go.RowKit Go.Proofs.Ytigpkicbigpilaa.U Go.Proofs.Ytigpkicbigpilaa.AuxFnExactIsUndone Go.Proofs.YtigpkicbigpilaaW.PrintWords Go.Proofs.YtigpkicbigpilaaW.PrintLast Go.Proofs.YtigpkicbigpilaaW.PrintMore
theorem undo_spec {S H N : List Int} (F : VFacts S N) (he : N.length = H.length) (l : List Mv) (hl : l.length ≤ 1000) (hm : ∀ m ∈ l, mvOk S.length m.f0 m.f1) : ∀ (d k i : Nat), i + d = l.length → d + 20 < k →
    spec_IsUndone.l0 k l (l.length : Int) (i : Int) S H S N = some ((l.drop i).any (fun m => decide (nxt S N m.f0 m.f1 = H)), true) := by
  intro d
  induction d with
  | zero =>
    intro k i hi hk
    obtain ⟨k, rfl⟩ : ∃ m, k = m + 1 := ⟨k - 1, by omega⟩
    simp only [spec_IsUndone.l0]
    rw [if_neg (by omega), List.drop_eq_nil_of_le (by omega)]; rfl
  | succ d ih =>
    intro k i hi hk
    obtain ⟨k, rfl⟩ : ∃ m, k = m + 1 := ⟨k - 1, by omega⟩
    have hlt : i < l.length := by omega
    have hr : rd_T49 l (i : Int) = l[i] := by simp [rd_T49, List.getD, hlt]
    have hn := F.n1; have hh := F.he
    simp only [spec_IsUndone.l0]
    rw [if_pos (by omega), if_pos (by omega), if_pos (by omega), hr, make_spec F _ _ (hm _ (List.getElem_mem hlt))]
    simp only [Option.bind_some]
    rw [same_spec k S _ S H (by rw [nxt_len]; exact he) (by rw [nxt_len]; omega) (by rw [nxt_len]; omega), List.drop_eq_getElem_cons hlt, w64 (by omega) (by omega)]
    simp only [Option.bind_some, List.any_cons]
    by_cases e : nxt S N l[i].f0 l[i].f1 = H
    · simp [e]
    · simp only [decide_eq_false e, Bool.false_eq_true, if_false, Bool.false_or]
      have := ih k (i + 1) (by omega) (by omega)
      exact_mod_cast this
theorem undo_impl {S H N : List Int} (F : VFacts S N) (k : Nat) (hk : 20 < k) (l : List Mv) (hm : ∀ m ∈ l, mvOk S.length m.f0 m.f1) :
    anyO (fun m => impl_IsUndone_1.f k m.f0 m.f1 S N S H) l = some (l.any (fun m => decide (nxt S N m.f0 m.f1 = H))) := by
  have hn := F.n1; have hh := F.he
  have h1 : ∀ m ∈ l, impl_IsUndone_1.f k m.f0 m.f1 S N S H = some (decide (nxt S N m.f0 m.f1 = H)) := fun m h => by
    unfold impl_IsUndone_1.f
    rw [make_impl F _ _ (hm m h)]; simp only [Option.bind_some]
    rw [sleq_f k _ H (by rw [nxt_len]; omega) (by rw [nxt_len]; omega)]; rfl
  unfold anyO
  rw [if_pos (List.all_eq_true.mpr fun m h => by simp only [h1 m h, Option.isSome_some])]
  congr 1
  refine Bool.eq_iff_iff.mpr ?_
  simp only [List.any_eq_true]
  constructor
  · rintro ⟨m, h, e⟩; rw [h1 m h] at e; exact ⟨m, h, by simpa using e⟩
  · rintro ⟨m, h, e⟩; exact ⟨m, h, by rw [h1 m h]; simpa using e⟩
theorem FnExactIsUndone (S H : List Int) (f t : Int) (h0 : S.length ≤ 9223372036854775807) (_ : ∀ x ∈ S, (Lit.int .i64 x).wf = true) (h1 : H.length ≤ 9223372036854775807) (_ : ∀ x ∈ H, (Lit.int .i64 x).wf = true) (_ : (Lit.int .i64 f).wf = true) (_ : (Lit.int .i64 t).wf = true) : ∃ k, laws_FnExactIsUndone.f k S H f t = some true := by
  refine ⟨2000000, ?_⟩
  obtain ⟨r, hr, hc⟩ := szV_f S H h0 h1
  unfold laws_FnExactIsUndone.f laws_toMove.f
  rw [hr]; simp only [Option.bind_some]
  rcases hc with hc | ⟨c0, c1, c2⟩
  · rw [if_pos hc]
  · rw [if_neg (by omega)]
    have key : ∃ q : Bool × Bool, ∀ k, 1500000 < k → spec_IsUndone.f k S H f t = some q ∧ impl_IsUndone.f k S H f t = some q := by
      by_cases c : VOk S H = true
      · have F := VOk.facts c
        have hn := F.n1; have he := F.he
        by_cases hm : mvOk S.length f t
        · have F2 := nxt_facts F f t hm
          by_cases z : amt S H f t = 0
          · refine ⟨(true, true), fun k hk => ?_⟩
            unfold spec_IsUndone.f impl_IsUndone.f spec_veAsked.f impl_IsMove.f
            rw [good_spec k S H (by omega) (by omega), good_impl k S H (by omega) (by omega), c]
            simp only [Option.bind_some, if_true]
            rw [mv_spec S.length f t hn, mv_impl S.length f t hn]
            simp only [Option.bind_some, decide_eq_true hm, if_true]
            rw [make_spec F f t hm, amt_impl F f t hm, (nxt_self F f t hm).mpr z]
            simp only [Option.bind_some]
            rw [same_spec k S H S H rfl (by omega) (by omega), if_pos z]
            simp
          · refine ⟨((mvs S (nxt S H f t) false).any (fun m => decide (nxt S (nxt S H f t) m.f0 m.f1 = H)), true), fun k hk => ?_⟩
            have hmv := fun m h => (mvs_mem S (nxt S H f t) false m h).1
            have hlen := mvs_len F2 false
            unfold spec_IsUndone.f impl_IsUndone.f spec_veAsked.f impl_IsMove.f
            rw [good_spec k S H (by omega) (by omega), good_impl k S H (by omega) (by omega), c]
            simp only [Option.bind_some, if_true]
            rw [mv_spec S.length f t hn, mv_impl S.length f t hn]
            simp only [Option.bind_some, decide_eq_true hm, if_true]
            rw [make_spec F f t hm, amt_impl F f t hm, make_impl F f t hm]
            simp only [Option.bind_some]
            rw [same_spec k S _ S H (nxt_len S H f t) (by rw [nxt_len]; omega) (by rw [nxt_len]; omega), if_neg z, decide_eq_false (fun e => z ((nxt_self F f t hm).mp e))]
            simp only [Option.bind_some, Bool.false_eq_true, if_false]
            rw [on_f F2 false k (by omega), mo_f F2 false k (by omega)]
            simp only [Option.bind_some]
            rw [undo_impl F2 k (by omega) _ hmv]
            have := undo_spec (H := H) F2 (nxt_len S H f t) (mvs S (nxt S H f t) false) (by omega) hmv (mvs S (nxt S H f t) false).length k 0 (by omega) (by omega)
            exact ⟨by simpa using this, rfl⟩
        · refine ⟨(false, false), fun k hk => ?_⟩
          unfold spec_IsUndone.f impl_IsUndone.f spec_veAsked.f impl_IsMove.f
          rw [good_spec k S H (by omega) (by omega), good_impl k S H (by omega) (by omega), c]
          simp only [Option.bind_some, if_true]
          rw [mv_spec S.length f t hn, mv_impl S.length f t hn]
          simp [hm]
      · refine ⟨(false, false), fun k hk => ?_⟩
        unfold spec_IsUndone.f impl_IsUndone.f spec_veAsked.f impl_IsMove.f
        rw [good_spec k S H (by omega) (by omega), good_impl k S H (by omega) (by omega), Bool.eq_false_iff.mpr c]
        exact ⟨rfl, rfl⟩
    obtain ⟨q, key⟩ := key
    rw [toV_f 2000000 S H (by omega) (by omega) (by omega) (by omega)]
    simp only [Option.bind_some]
    rw [(key 2000000 (by omega)).1]
    simp only [Option.bind_some]
    rw [(key 2000000 (by omega)).2]
    simp only [Option.bind_some, bne_self_eq_false, Bool.false_eq_true, if_false]
    rw [show (2000000 : Nat) = 1999999 + 1 from rfl]
    simp only [laws_FnExactIsUndone.j0, Bool.false_eq_true, if_false]
    rw [toV_f 1999999 S H (by omega) (by omega) (by omega) (by omega)]
    simp only [Option.bind_some]
    unfold laws_eqVessels.f
    rw [eq_self 1999999 S (by omega) (by omega), eq_self 1999999 H (by omega) (by omega)]
    simp only [Option.bind_some, if_true]
end Go.Proofs.Ytigpkicbigpilaa.Pure
