/- FnExactIsDesk: what the law's Go functions compute, as plain functions, and that the law holds of them at all arguments. -/
import Derived.Test.YtigpkicbigpilaaQx3
namespace Go.Proofs.Ytigpkicbigpilaa.AuxFnExactIsDesk
open Go.RowKit Go.Proofs.Ytigpkicbigpilaa.Q Go.Proofs.YtigpkicbigpilaaW.PrintWords Go.Proofs.YtigpkicbigpilaaW.PrintLast Go.Proofs.YtigpkicbigpilaaW.PrintMore
set_option linter.unusedVariables false
set_option linter.unusedSimpArgs false
theorem w64 {x : Int} (h0 : -9223372036854775808 ≤ x) (h1 : x ≤ 9223372036854775807) : wrap64 x = x := by
  unfold wrap64; omega
theorem in_spec (a b c : Int) : spec_l1In.f a b c = some (decide (b ≤ a ∧ a ≤ c)) := by
  unfold spec_l1In.f
  by_cases h : a ≥ b
  · rw [if_pos h]; congr 1; simp [show b ≤ a from h]
  · rw [if_neg h]; congr 1; simp [show ¬ b ≤ a from h]
theorem in_impl (a b c : Int) : impl_within.f a b c = some (decide (b ≤ a ∧ a ≤ c)) := by
  unfold impl_within.f
  by_cases h : b ≤ a
  · rw [if_pos h]; congr 1; simp [h]
  · rw [if_neg h]; congr 1; simp [h]
theorem rd_cons_zero (x : Int) (l : List Int) : rd (x :: l) 0 = x := rfl
theorem rd_nat (l : List Int) (i : Nat) : rd l (i : Int) = l.getD i 0 := by unfold rd; simp
theorem drop_rd (l : List Int) (i : Nat) (h : i < l.length) : l.drop i = rd l (i : Int) :: l.drop (i + 1) := by
  rw [rd_nat, List.drop_eq_getElem_cons h]; simp [h]
theorem all_l0 (lo hi : Int) (l : List Int) (hb : l.length ≤ 17592186044416) : ∀ (d k i : Nat), i + d = l.length → d < k →
    spec_l1All.l0 k lo hi l (l.length : Int) (i : Int) = some ((l.drop i).all fun x => decide (lo ≤ x ∧ x ≤ hi)) := by
  intro d
  induction d with
  | zero =>
    intro k i hi hk
    obtain ⟨k, rfl⟩ : ∃ m, k = m + 1 := ⟨k - 1, by omega⟩
    simp only [spec_l1All.l0]; rw [if_neg (by omega), List.drop_of_length_le (by omega)]; rfl
  | succ d ih =>
    intro k i hi hk
    obtain ⟨k, rfl⟩ : ∃ m, k = m + 1 := ⟨k - 1, by omega⟩
    simp only [spec_l1All.l0]
    rw [if_pos (by omega), if_pos (by omega), if_pos (by omega), in_spec, drop_rd l i (by omega)]
    simp only [Option.bind_some, List.all_cons]
    have ih' := ih k (i + 1) (by omega) (by omega)
    rw [w64 (by omega) (by omega), show ((i : Int) + 1) = ((i + 1 : Nat) : Int) by simp]
    split
    · rename_i h; rw [ih', h, Bool.true_and]
    · rename_i h; rw [Bool.eq_false_iff.mpr h, Bool.false_and]
theorem all_f (k : Nat) (l : List Int) (lo hi : Int) (hb : l.length ≤ 17592186044416) (hk : l.length < k) : spec_l1All.f k l lo hi = some (l.all fun x => decide (lo ≤ x ∧ x ≤ hi)) := by
  unfold spec_l1All.f
  have := all_l0 lo hi l hb l.length k 0 (by omega) hk
  simpa using this
/-- each amount lies between 0 and its size -/
def fits : List Int → List Int → Bool
  | s :: S, h :: H => decide (0 ≤ h ∧ h ≤ s) && fits S H
  | _, _ => true
theorem fits_spec (S H : List Int) (hb : S.length ≤ 17592186044416) (he : H.length = S.length) : ∀ (d k i : Nat), i + d = S.length → d < k →
    spec_veGood.l0 k H (H.length : Int) (i : Int) S H = some (fits (S.drop i) (H.drop i)) := by
  intro d
  induction d with
  | zero =>
    intro k i hi hk
    obtain ⟨k, rfl⟩ : ∃ m, k = m + 1 := ⟨k - 1, by omega⟩
    simp only [spec_veGood.l0]; rw [if_neg (by omega), List.drop_of_length_le (by omega)]; rfl
  | succ d ih =>
    intro k i hi hk
    obtain ⟨k, rfl⟩ : ∃ m, k = m + 1 := ⟨k - 1, by omega⟩
    simp only [spec_veGood.l0]
    rw [if_pos (by omega), if_pos (by omega), if_pos (by omega), if_pos (by omega), in_spec, drop_rd S i (by omega), drop_rd H i (by omega)]
    simp only [Option.bind_some, fits]
    have ih' := ih k (i + 1) (by omega) (by omega)
    rw [w64 (by omega) (by omega), show ((i : Int) + 1) = ((i + 1 : Nat) : Int) by simp]
    split
    · rename_i h; rw [ih', h, Bool.true_and]
    · rename_i h; rw [Bool.eq_false_iff.mpr h, Bool.false_and]
theorem fits_impl (S H : List Int) (hb : S.length ≤ 17592186044416) (he : H.length = S.length) : ∀ (d k i : Nat), i + d = S.length → d < k →
    impl_AreVessels.l0 k H (H.length : Int) (i : Int) S H = some (fits (S.drop i) (H.drop i)) := by
  intro d
  induction d with
  | zero =>
    intro k i hi hk
    obtain ⟨k, rfl⟩ : ∃ m, k = m + 1 := ⟨k - 1, by omega⟩
    simp only [impl_AreVessels.l0]; rw [if_neg (by omega), List.drop_of_length_le (by omega)]; rfl
  | succ d ih =>
    intro k i hi hk
    obtain ⟨k, rfl⟩ : ∃ m, k = m + 1 := ⟨k - 1, by omega⟩
    simp only [impl_AreVessels.l0]
    rw [if_pos (by omega), if_pos (by omega), if_pos (by omega), if_pos (by omega), in_impl, drop_rd S i (by omega), drop_rd H i (by omega)]
    simp only [Option.bind_some, fits]
    have ih' := ih k (i + 1) (by omega) (by omega)
    rw [w64 (by omega) (by omega), show ((i : Int) + 1) = ((i + 1 : Nat) : Int) by simp]
    split
    · rename_i h; rw [ih', h, Bool.true_and]
    · rename_i h; rw [Bool.eq_false_iff.mpr h, Bool.false_and]
/-- These are vessels. -/
def VOk (S H : List Int) : Bool := decide (1 ≤ S.length ∧ S.length ≤ 5) && (decide (H.length = S.length) && ((S.all fun x => decide (1 ≤ x ∧ x ≤ 60)) && fits S H))
theorem good_spec (k : Nat) (S H : List Int) (hb : S.length ≤ 17592186044416) (hk : S.length + 1 < k) : spec_veGood.f k S H = some (VOk S H) := by
  obtain ⟨k, rfl⟩ : ∃ m, k = m + 1 := ⟨k - 1, by omega⟩
  unfold spec_veGood.f VOk
  rw [in_spec]; simp only [Option.bind_some]
  by_cases h1 : 1 ≤ S.length ∧ S.length ≤ 5
  · rw [if_pos (by simp; omega)]
    by_cases h2 : H.length = S.length
    · rw [if_pos (by omega), all_f (k + 1) S 1 60 hb (by omega)]
      simp only [Option.bind_some, spec_veGood.j0]
      by_cases h3 : (S.all fun x => decide (1 ≤ x ∧ x ≤ 60)) = true
      · have := fits_spec S H hb h2 S.length k 0 (by omega) (by omega)
        rw [h3]; simp only [Bool.not_true, Bool.false_eq_true, if_false]
        simp only [List.drop_zero] at this
        rw [show (0 : Int) = ((0 : Nat) : Int) from rfl, this]; simp [h1, h2]
      · rw [Bool.eq_false_iff.mpr h3]; simp [h1, h2]
    · rw [if_neg (by omega)]; simp [spec_veGood.j0, h2]
  · rw [if_neg (by simp; omega)]; simp [spec_veGood.j0]; omega
theorem good_impl (k : Nat) (S H : List Int) (hb : S.length ≤ 17592186044416) (hk : S.length + 1 < k) : impl_AreVessels.f k S H = some (VOk S H) := by
  obtain ⟨k, rfl⟩ : ∃ m, k = m + 1 := ⟨k - 1, by omega⟩
  unfold impl_AreVessels.f VOk impl_areWithin.f
  rw [in_impl]; simp only [Option.bind_some]
  by_cases h1 : 1 ≤ S.length ∧ S.length ≤ 5
  · rw [if_pos (by simp; omega)]
    by_cases h2 : H.length = S.length
    · rw [if_pos (by omega)]
      simp only [impl_AreVessels.j0]
      by_cases h3 : (S.all fun x => decide (1 ≤ x ∧ x ≤ 60)) = true
      · have := fits_impl S H hb h2 S.length k 0 (by omega) (by omega)
        rw [h3]; simp only [Bool.not_true, Bool.false_eq_true, if_false]
        simp only [List.drop_zero] at this
        rw [show (0 : Int) = ((0 : Nat) : Int) from rfl, this]; simp [h1, h2]
      · rw [Bool.eq_false_iff.mpr h3]; simp [h1, h2]
    · rw [if_neg (by omega)]; simp [impl_AreVessels.j0, h2]
  · rw [if_neg (by simp; omega)]; simp [impl_AreVessels.j0]; omega
theorem eq_l0 (l : List Int) (hb : l.length ≤ 17592186044416) : ∀ (d k i : Nat), i + d = l.length → d < k → laws_eqIntS.l0 k l l (i : Int) = some true := by
  intro d
  induction d with
  | zero =>
    intro k i hi hk
    obtain ⟨k, rfl⟩ : ∃ m, k = m + 1 := ⟨k - 1, by omega⟩
    simp only [laws_eqIntS.l0]; rw [if_neg (by omega)]
  | succ d ih =>
    intro k i hi hk
    obtain ⟨k, rfl⟩ : ∃ m, k = m + 1 := ⟨k - 1, by omega⟩
    simp only [laws_eqIntS.l0]
    rw [if_pos (by omega), if_pos (by omega), if_pos (by omega), if_pos trivial, w64 (by omega) (by omega)]
    exact ih k (i + 1) (by omega) (by omega)
theorem eq_self (k : Nat) (l : List Int) (hb : l.length ≤ 17592186044416) (hk : l.length < k) : laws_eqIntS.f k l l = some true := by
  unfold laws_eqIntS.f
  rw [if_pos rfl]; exact eq_l0 l hb l.length k 0 (by omega) hk
theorem toInt_l0 (l : List Int) (hb : l.length ≤ 17592186044416) : ∀ (d k i : Nat), i + d = l.length → d < k →
    laws_toIntS.l0 k l (l.take i ++ List.replicate d 0) (i : Int) = some l := by
  intro d
  induction d with
  | zero =>
    intro k i hi hk
    obtain ⟨k, rfl⟩ : ∃ m, k = m + 1 := ⟨k - 1, by omega⟩
    simp only [laws_toIntS.l0]; rw [if_neg (by omega), List.take_of_length_le (by omega)]; simp
  | succ d ih =>
    intro k i hi hk
    obtain ⟨k, rfl⟩ : ∃ m, k = m + 1 := ⟨k - 1, by omega⟩
    simp only [laws_toIntS.l0]
    have e : (l.take i ++ List.replicate (d + 1) 0).set ((i : Int).toNat) (rd l (i : Int)) = l.take (i + 1) ++ List.replicate d 0 := by
      have hl : (l.take i).length = i := by simp; omega
      rw [Int.toNat_natCast, List.set_append_right _ _ (by omega), hl, Nat.sub_self, List.replicate_succ, List.set_cons_zero, List.take_succ_eq_append_getElem (by omega), List.append_assoc]
      unfold rd; simp [show i < l.length by omega]
    rw [if_pos (by omega), if_pos (by omega), if_pos (by simp; omega), e, w64 (by omega) (by omega), show ((i : Int) + 1) = ((i + 1 : Nat) : Int) by simp]
    exact ih k (i + 1) (by omega) (by omega)
theorem toInt_f (k : Nat) (l : List Int) (hb : l.length ≤ 17592186044416) (hk : l.length < k) : laws_toIntS.f k l = some l := by
  unfold laws_toIntS.f
  rw [if_pos (by omega), if_pos (by omega)]
  have := toInt_l0 l hb l.length k 0 (by omega) hk
  simpa using this
theorem toV_f (k : Nat) (S H : List Int) (h0 : S.length ≤ 17592186044416) (h1 : H.length ≤ 17592186044416) (hk : S.length < k) (hk' : H.length < k) : laws_toVessels.f k S H = some (S, H) := by
  unfold laws_toVessels.f
  rw [toInt_f k S h0 hk, toInt_f k H h1 hk']; rfl
theorem szI_f (l : List Int) (a : Int) (h : l.length ≤ 9223372036854775807) (h0 : 0 ≤ a) (h1 : a ≤ 1048576) : laws_szIntS.f l a = some (if (l.length : Int) ≤ a then a - l.length else -1) := by
  unfold laws_szIntS.f
  rw [w64 (by omega) (by omega)]
  by_cases c : (l.length : Int) ≤ a
  · rw [if_neg (by omega), if_pos c]
  · rw [if_pos (by omega), if_neg c]
theorem szV_f (S H : List Int) (h : S.length ≤ 9223372036854775807) (h' : H.length ≤ 9223372036854775807) :
    ∃ r, laws_szVessels.f S H 1048576 = some r ∧ (r < 0 ∨ (0 ≤ r ∧ S.length ≤ 1048576 ∧ H.length ≤ 1048576)) := by
  unfold laws_szVessels.f
  rw [szI_f S _ h (by omega) (by omega)]; simp only [Option.bind_some]
  by_cases c : (S.length : Int) ≤ 1048576
  · rw [if_pos c, if_neg (by omega), szI_f H _ h' (by omega) (by omega)]; simp only [Option.bind_some]
    by_cases c' : (H.length : Int) ≤ 1048576 - S.length
    · rw [if_pos c', if_neg (by omega)]; exact ⟨_, rfl, Or.inr ⟨by omega, by omega, by omega⟩⟩
    · rw [if_neg c']; exact ⟨_, rfl, Or.inl (by omega)⟩
  · rw [if_neg c]; exact ⟨_, rfl, Or.inl (by omega)⟩
end Go.Proofs.Ytigpkicbigpilaa.AuxFnExactIsDesk
namespace Go.Proofs.Ytigpkicbigpilaa.Pure
open Go.RowKit Go.Proofs.Ytigpkicbigpilaa.Q Go.Proofs.Ytigpkicbigpilaa.AuxFnExactIsDesk Go.Proofs.YtigpkicbigpilaaW.PrintWords Go.Proofs.YtigpkicbigpilaaW.PrintLast Go.Proofs.YtigpkicbigpilaaW.PrintMore
theorem FnExactIsDesk (S H : List Int) (t : Int) (h0 : S.length ≤ 9223372036854775807) (_ : ∀ x ∈ S, (Lit.int .i64 x).wf = true) (h1 : H.length ≤ 9223372036854775807) (_ : ∀ x ∈ H, (Lit.int .i64 x).wf = true) (_ : (Lit.int .i64 t).wf = true) : ∃ k, laws_FnExactIsDesk.f k S H t = some true := by
  refine ⟨2000000, ?_⟩
  obtain ⟨r, hr, hc⟩ := szV_f S H h0 h1
  unfold laws_FnExactIsDesk.f laws_szDesk.f
  rw [hr]; simp only [Option.bind_some]
  rcases hc with hc | ⟨c0, c1, c2⟩
  · rw [if_pos hc]; simp
  · rw [if_neg (by omega)]; simp only [Option.bind_some]
    rw [if_neg (by omega)]
    unfold laws_toDesk.f spec_IsDesk.f spec_coGood.f impl_IsDesk.f laws_eqDesk.f laws_eqVessels.f
    rw [toV_f 2000000 S H (by omega) (by omega) (by omega) (by omega)]
    simp only [Option.bind_some]
    rw [good_spec 2000000 S H (by omega) (by omega), good_impl 2000000 S H (by omega) (by omega)]
    simp only [Option.bind_some, in_spec, in_impl]
    rw [eq_self 2000000 S (by omega) (by omega), eq_self 2000000 H (by omega) (by omega)]
    by_cases c : VOk S H = true
    · rw [c]; simp
    · rw [Bool.eq_false_iff.mpr c]; simp
end Go.Proofs.Ytigpkicbigpilaa.Pure
