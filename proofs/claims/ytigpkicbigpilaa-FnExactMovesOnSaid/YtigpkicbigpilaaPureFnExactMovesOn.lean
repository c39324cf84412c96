/- FnExactMovesOn: what the law's Go functions compute, as plain functions, and that the law holds of them at all arguments. -/
import Derived.Test.YtigpkicbigpilaaQx6
namespace Go.Proofs.Ytigpkicbigpilaa.AuxFnExactMovesOn
open Go.RowKit Go.Proofs.Ytigpkicbigpilaa.Q Go.Proofs.YtigpkicbigpilaaW.PrintWords Go.Proofs.YtigpkicbigpilaaW.PrintLast Go.Proofs.YtigpkicbigpilaaW.PrintMore
set_option linter.unusedVariables false
set_option linter.unusedSimpArgs false
theorem w64 {x : Int} (h0 : -9223372036854775808 ≤ x) (h1 : x ≤ 9223372036854775807) : wrap64 x = x := by
  unfold wrap64; omega
theorem in_spec (a b c : Int) : spec_l1In.f a b c = some (decide (b ≤ a ∧ a ≤ c)) := by
  unfold spec_l1In.f
  by_cases h : a ≥ b
  · rw [if_pos h]; congr 1; simp [show b ≤ a from h]
  · rw [if_neg h]; congr 1; simp [show ¬ b ≤ a from h]
theorem in_impl (a b c : Int) : impl_within.f a b c = some (decide (b ≤ a ∧ a ≤ c)) := by
  unfold impl_within.f
  by_cases h : b ≤ a
  · rw [if_pos h]; congr 1; simp [h]
  · rw [if_neg h]; congr 1; simp [h]
theorem rd_cons_zero (x : Int) (l : List Int) : rd (x :: l) 0 = x := rfl
theorem rd_nat (l : List Int) (i : Nat) : rd l (i : Int) = l.getD i 0 := by unfold rd; simp
theorem drop_rd (l : List Int) (i : Nat) (h : i < l.length) : l.drop i = rd l (i : Int) :: l.drop (i + 1) := by
  rw [rd_nat, List.drop_eq_getElem_cons h]; simp [h]
theorem all_l0 (lo hi : Int) (l : List Int) (hb : l.length ≤ 17592186044416) : ∀ (d k i : Nat), i + d = l.length → d < k →
    spec_l1All.l0 k lo hi l (l.length : Int) (i : Int) = some ((l.drop i).all fun x => decide (lo ≤ x ∧ x ≤ hi)) := by
  intro d
  induction d with
  | zero =>
    intro k i hi hk
    obtain ⟨k, rfl⟩ : ∃ m, k = m + 1 := ⟨k - 1, by omega⟩
    simp only [spec_l1All.l0]; rw [if_neg (by omega), List.drop_of_length_le (by omega)]; rfl
  | succ d ih =>
    intro k i hi hk
    obtain ⟨k, rfl⟩ : ∃ m, k = m + 1 := ⟨k - 1, by omega⟩
    simp only [spec_l1All.l0]
    rw [if_pos (by omega), if_pos (by omega), if_pos (by omega), in_spec, drop_rd l i (by omega)]
    simp only [Option.bind_some, List.all_cons]
    have ih' := ih k (i + 1) (by omega) (by omega)
    rw [w64 (by omega) (by omega), show ((i : Int) + 1) = ((i + 1 : Nat) : Int) by simp]
    split
    · rename_i h; rw [ih', h, Bool.true_and]
    · rename_i h; rw [Bool.eq_false_iff.mpr h, Bool.false_and]
theorem all_f (k : Nat) (l : List Int) (lo hi : Int) (hb : l.length ≤ 17592186044416) (hk : l.length < k) : spec_l1All.f k l lo hi = some (l.all fun x => decide (lo ≤ x ∧ x ≤ hi)) := by
  unfold spec_l1All.f
  have := all_l0 lo hi l hb l.length k 0 (by omega) hk
  simpa using this
/-- each amount lies between 0 and its size -/
def fits : List Int → List Int → Bool
  | s :: S, h :: H => decide (0 ≤ h ∧ h ≤ s) && fits S H
  | _, _ => true
theorem fits_spec (S H : List Int) (hb : S.length ≤ 17592186044416) (he : H.length = S.length) : ∀ (d k i : Nat), i + d = S.length → d < k →
    spec_veGood.l0 k H (H.length : Int) (i : Int) S H = some (fits (S.drop i) (H.drop i)) := by
  intro d
  induction d with
  | zero =>
    intro k i hi hk
    obtain ⟨k, rfl⟩ : ∃ m, k = m + 1 := ⟨k - 1, by omega⟩
    simp only [spec_veGood.l0]; rw [if_neg (by omega), List.drop_of_length_le (by omega)]; rfl
  | succ d ih =>
    intro k i hi hk
    obtain ⟨k, rfl⟩ : ∃ m, k = m + 1 := ⟨k - 1, by omega⟩
    simp only [spec_veGood.l0]
    rw [if_pos (by omega), if_pos (by omega), if_pos (by omega), if_pos (by omega), in_spec, drop_rd S i (by omega), drop_rd H i (by omega)]
    simp only [Option.bind_some, fits]
    have ih' := ih k (i + 1) (by omega) (by omega)
    rw [w64 (by omega) (by omega), show ((i : Int) + 1) = ((i + 1 : Nat) : Int) by simp]
    split
    · rename_i h; rw [ih', h, Bool.true_and]
    · rename_i h; rw [Bool.eq_false_iff.mpr h, Bool.false_and]
theorem fits_impl (S H : List Int) (hb : S.length ≤ 17592186044416) (he : H.length = S.length) : ∀ (d k i : Nat), i + d = S.length → d < k →
    impl_AreVessels.l0 k H (H.length : Int) (i : Int) S H = some (fits (S.drop i) (H.drop i)) := by
  intro d
  induction d with
  | zero =>
    intro k i hi hk
    obtain ⟨k, rfl⟩ : ∃ m, k = m + 1 := ⟨k - 1, by omega⟩
    simp only [impl_AreVessels.l0]; rw [if_neg (by omega), List.drop_of_length_le (by omega)]; rfl
  | succ d ih =>
    intro k i hi hk
    obtain ⟨k, rfl⟩ : ∃ m, k = m + 1 := ⟨k - 1, by omega⟩
    simp only [impl_AreVessels.l0]
    rw [if_pos (by omega), if_pos (by omega), if_pos (by omega), if_pos (by omega), in_impl, drop_rd S i (by omega), drop_rd H i (by omega)]
    simp only [Option.bind_some, fits]
    have ih' := ih k (i + 1) (by omega) (by omega)
    rw [w64 (by omega) (by omega), show ((i : Int) + 1) = ((i + 1 : Nat) : Int) by simp]
    split
    · rename_i h; rw [ih', h, Bool.true_and]
    · rename_i h; rw [Bool.eq_false_iff.mpr h, Bool.false_and]
/-- These are vessels. -/
def VOk (S H : List Int) : Bool := decide (1 ≤ S.length ∧ S.length ≤ 5) && (decide (H.length = S.length) && ((S.all fun x => decide (1 ≤ x ∧ x ≤ 60)) && fits S H))
theorem good_spec (k : Nat) (S H : List Int) (hb : S.length ≤ 17592186044416) (hk : S.length + 1 < k) : spec_veGood.f k S H = some (VOk S H) := by
  obtain ⟨k, rfl⟩ : ∃ m, k = m + 1 := ⟨k - 1, by omega⟩
  unfold spec_veGood.f VOk
  rw [in_spec]; simp only [Option.bind_some]
  by_cases h1 : 1 ≤ S.length ∧ S.length ≤ 5
  · rw [if_pos (by simp; omega)]
    by_cases h2 : H.length = S.length
    · rw [if_pos (by omega), all_f (k + 1) S 1 60 hb (by omega)]
      simp only [Option.bind_some, spec_veGood.j0]
      by_cases h3 : (S.all fun x => decide (1 ≤ x ∧ x ≤ 60)) = true
      · have := fits_spec S H hb h2 S.length k 0 (by omega) (by omega)
        rw [h3]; simp only [Bool.not_true, Bool.false_eq_true, if_false]
        simp only [List.drop_zero] at this
        rw [show (0 : Int) = ((0 : Nat) : Int) from rfl, this]; simp [h1, h2]
      · rw [Bool.eq_false_iff.mpr h3]; simp [h1, h2]
    · rw [if_neg (by omega)]; simp [spec_veGood.j0, h2]
  · rw [if_neg (by simp; omega)]; simp [spec_veGood.j0]; omega
theorem good_impl (k : Nat) (S H : List Int) (hb : S.length ≤ 17592186044416) (hk : S.length + 1 < k) : impl_AreVessels.f k S H = some (VOk S H) := by
  obtain ⟨k, rfl⟩ : ∃ m, k = m + 1 := ⟨k - 1, by omega⟩
  unfold impl_AreVessels.f VOk impl_areWithin.f
  rw [in_impl]; simp only [Option.bind_some]
  by_cases h1 : 1 ≤ S.length ∧ S.length ≤ 5
  · rw [if_pos (by simp; omega)]
    by_cases h2 : H.length = S.length
    · rw [if_pos (by omega)]
      simp only [impl_AreVessels.j0]
      by_cases h3 : (S.all fun x => decide (1 ≤ x ∧ x ≤ 60)) = true
      · have := fits_impl S H hb h2 S.length k 0 (by omega) (by omega)
        rw [h3]; simp only [Bool.not_true, Bool.false_eq_true, if_false]
        simp only [List.drop_zero] at this
        rw [show (0 : Int) = ((0 : Nat) : Int) from rfl, this]; simp [h1, h2]
      · rw [Bool.eq_false_iff.mpr h3]; simp [h1, h2]
    · rw [if_neg (by omega)]; simp [impl_AreVessels.j0, h2]
  · rw [if_neg (by simp; omega)]; simp [impl_AreVessels.j0]; omega
theorem eq_l0 (l : List Int) (hb : l.length ≤ 17592186044416) : ∀ (d k i : Nat), i + d = l.length → d < k → laws_eqIntS.l0 k l l (i : Int) = some true := by
  intro d
  induction d with
  | zero =>
    intro k i hi hk
    obtain ⟨k, rfl⟩ : ∃ m, k = m + 1 := ⟨k - 1, by omega⟩
    simp only [laws_eqIntS.l0]; rw [if_neg (by omega)]
  | succ d ih =>
    intro k i hi hk
    obtain ⟨k, rfl⟩ : ∃ m, k = m + 1 := ⟨k - 1, by omega⟩
    simp only [laws_eqIntS.l0]
    rw [if_pos (by omega), if_pos (by omega), if_pos (by omega), if_pos trivial, w64 (by omega) (by omega)]
    exact ih k (i + 1) (by omega) (by omega)
theorem eq_self (k : Nat) (l : List Int) (hb : l.length ≤ 17592186044416) (hk : l.length < k) : laws_eqIntS.f k l l = some true := by
  unfold laws_eqIntS.f
  rw [if_pos rfl]; exact eq_l0 l hb l.length k 0 (by omega) hk
/-- a, a + 1, .. -/
def upFrom : Int → Nat → List Int
  | _, 0 => []
  | a, n + 1 => a :: upFrom (a + 1) n
theorem upFrom_len : ∀ (n : Nat) (a : Int), (upFrom a n).length = n
  | 0, _ => rfl
  | n + 1, a => by simp [upFrom, upFrom_len n]
theorem mark_l0 : ∀ (d k : Nat) (ms rest : List Int) (a : Int), rest.length = d → d < k → ms.length + d ≤ 17592186044416 → 0 ≤ a → a + d ≤ 17592186044416 →
    laws_markIntS.l0 k (ms ++ rest) a (ms.length : Int) = some (a + d, ms ++ upFrom a d) := by
  intro d
  induction d with
  | zero =>
    intro k ms rest a hr hk hb h0 h1
    obtain ⟨k, rfl⟩ : ∃ m, k = m + 1 := ⟨k - 1, by omega⟩
    obtain rfl : rest = [] := List.length_eq_zero_iff.mp hr
    simp only [laws_markIntS.l0]; rw [if_neg (by simp)]; simp [upFrom]
  | succ d ih =>
    intro k ms rest a hr hk hb h0 h1
    obtain ⟨k, rfl⟩ : ∃ m, k = m + 1 := ⟨k - 1, by omega⟩
    obtain ⟨x, rest, rfl⟩ : ∃ x r, rest = x :: r := by cases rest with | nil => simp at hr | cons x r => exact ⟨x, r, rfl⟩
    simp only [laws_markIntS.l0]
    have e : (ms ++ x :: rest).set ((ms.length : Int).toNat) a = (ms ++ [a]) ++ rest := by simp
    rw [if_pos (by simp; omega), if_pos (by omega), e, w64 (by omega) (by omega), w64 (by omega) (by omega)]
    have ih' := ih k (ms ++ [a]) rest (a + 1) (by simpa using hr) (by omega) (by simp; omega) (by omega) (by omega)
    simp only [List.length_append, List.length_cons, List.length_nil] at ih'
    rw [show ((ms.length : Int) + 1) = ((ms.length + (0 + 1) : Nat) : Int) by simp, ih']
    simp only [upFrom, List.append_assoc, List.cons_append, List.nil_append]
    congr 2; simp; omega
theorem mark_f (k : Nat) (l : List Int) (hk : l.length < k) (hb : l.length ≤ 17592186044000) : laws_markIntS.f k l 1 = some (1 + (l.length : Int), upFrom 1 l.length) := by
  unfold laws_markIntS.f
  have := mark_l0 l.length k [] l 1 rfl hk (by simp; omega) (by omega) (by omega)
  simpa using this
theorem mark_any (k : Nat) (l : List Int) (a : Int) (hk : l.length < k) (h0 : 0 ≤ a) (h1 : a ≤ 10000000) (hb : l.length ≤ 10000000) : ∃ r, r = a + (l.length : Int) ∧ laws_markIntS.f k l a = some (r, upFrom a l.length) := by
  unfold laws_markIntS.f
  have := mark_l0 l.length k [] l a rfl hk (by simp; omega) h0 (by omega)
  exact ⟨_, rfl, by simpa using this⟩
theorem toInt_l0 (l : List Int) (hb : l.length ≤ 17592186044416) : ∀ (d k i : Nat), i + d = l.length → d < k →
    laws_toIntS.l0 k l (l.take i ++ List.replicate d 0) (i : Int) = some l := by
  intro d
  induction d with
  | zero =>
    intro k i hi hk
    obtain ⟨k, rfl⟩ : ∃ m, k = m + 1 := ⟨k - 1, by omega⟩
    simp only [laws_toIntS.l0]; rw [if_neg (by omega), List.take_of_length_le (by omega)]; simp
  | succ d ih =>
    intro k i hi hk
    obtain ⟨k, rfl⟩ : ∃ m, k = m + 1 := ⟨k - 1, by omega⟩
    simp only [laws_toIntS.l0]
    have e : (l.take i ++ List.replicate (d + 1) 0).set ((i : Int).toNat) (rd l (i : Int)) = l.take (i + 1) ++ List.replicate d 0 := by
      have hl : (l.take i).length = i := by simp; omega
      rw [Int.toNat_natCast, List.set_append_right _ _ (by omega), hl, Nat.sub_self, List.replicate_succ, List.set_cons_zero, List.take_succ_eq_append_getElem (by omega), List.append_assoc]
      unfold rd; simp [show i < l.length by omega]
    rw [if_pos (by omega), if_pos (by omega), if_pos (by simp; omega), e, w64 (by omega) (by omega), show ((i : Int) + 1) = ((i + 1 : Nat) : Int) by simp]
    exact ih k (i + 1) (by omega) (by omega)
theorem toInt_f (k : Nat) (l : List Int) (hb : l.length ≤ 17592186044416) (hk : l.length < k) : laws_toIntS.f k l = some l := by
  unfold laws_toIntS.f
  rw [if_pos (by omega), if_pos (by omega)]
  have := toInt_l0 l hb l.length k 0 (by omega) hk
  simpa using this
theorem toV_f (k : Nat) (S H : List Int) (h0 : S.length ≤ 17592186044416) (h1 : H.length ≤ 17592186044416) (hk : S.length < k) (hk' : H.length < k) : laws_toVessels.f k S H = some (S, H) := by
  unfold laws_toVessels.f
  rw [toInt_f k S h0 hk, toInt_f k H h1 hk']; rfl
theorem szI_f (l : List Int) (a : Int) (h : l.length ≤ 9223372036854775807) (h0 : 0 ≤ a) (h1 : a ≤ 1048576) : laws_szIntS.f l a = some (if (l.length : Int) ≤ a then a - l.length else -1) := by
  unfold laws_szIntS.f
  rw [w64 (by omega) (by omega)]
  by_cases c : (l.length : Int) ≤ a
  · rw [if_neg (by omega), if_pos c]
  · rw [if_pos (by omega), if_neg c]
theorem szV_f (S H : List Int) (h : S.length ≤ 9223372036854775807) (h' : H.length ≤ 9223372036854775807) :
    ∃ r, laws_szVessels.f S H 1048576 = some r ∧ (r < 0 ∨ (0 ≤ r ∧ S.length ≤ 1048576 ∧ H.length ≤ 1048576)) := by
  unfold laws_szVessels.f
  rw [szI_f S _ h (by omega) (by omega)]; simp only [Option.bind_some]
  by_cases c : (S.length : Int) ≤ 1048576
  · rw [if_pos c, if_neg (by omega), szI_f H _ h' (by omega) (by omega)]; simp only [Option.bind_some]
    by_cases c' : (H.length : Int) ≤ 1048576 - S.length
    · rw [if_pos c', if_neg (by omega)]; exact ⟨_, rfl, Or.inr ⟨by omega, by omega, by omega⟩⟩
    · rw [if_neg c']; exact ⟨_, rfl, Or.inl (by omega)⟩
  · rw [if_neg c]; exact ⟨_, rfl, Or.inl (by omega)⟩
abbrev Mv := S49
abbrev rdMv (l : List Mv) (i : Int) : Mv := l.getD i.toNat z49
theorem rdMvEq (l : List Mv) (i : Int) : rd_T49 l i = rdMv l i := rfl
theorem fits_len : ∀ (S H : List Int), fits S H = true → ∀ i, i < S.length → i < H.length → 0 ≤ rd H (i : Int) ∧ rd H (i : Int) ≤ rd S (i : Int)
  | [], _, _, i, h, _ => absurd h (Nat.not_lt_zero _)
  | _ :: _, [], _, i, _, h => absurd h (Nat.not_lt_zero _)
  | s :: S, h :: H, hf, 0, _, _ => by simp [fits] at hf; exact hf.1
  | s :: S, h :: H, hf, i + 1, h0, h1 => by
    simp only [fits, Bool.and_eq_true] at hf
    have := fits_len S H hf.2 i (by simpa using h0) (by simpa using h1)
    rw [rd_nat, rd_nat] at this ⊢
    simpa using this
/-- what vessels are, spelled out -/
structure VFacts (S H : List Int) : Prop where
  n0 : 1 ≤ S.length
  n1 : S.length ≤ 5
  he : H.length = S.length
  sz : ∀ i, i < S.length → 1 ≤ rd S (i : Int) ∧ rd S (i : Int) ≤ 60
  ht : ∀ i, i < S.length → 0 ≤ rd H (i : Int) ∧ rd H (i : Int) ≤ rd S (i : Int)
theorem VOk.facts {S H : List Int} (h : VOk S H = true) : VFacts S H := by
  simp only [VOk, Bool.and_eq_true, decide_eq_true_eq] at h
  obtain ⟨⟨n0, n1⟩, he, ha, hf⟩ := h
  refine ⟨n0, n1, he, fun i hi => ?_, fun i hi => fits_len S H hf i hi (by omega)⟩
  have := List.all_eq_true.mp ha (S.getD i 0) (by rw [List.getD_eq_getElem?_getD, List.getElem?_eq_getElem hi]; exact List.getElem_mem hi)
  rw [rd_nat]; simpa using this
theorem VFacts.szI {S H : List Int} (F : VFacts S H) (i : Int) (h0 : 0 ≤ i) (h1 : i < S.length) : 1 ≤ rd S i ∧ rd S i ≤ 60 := by
  obtain ⟨j, rfl⟩ := Int.eq_ofNat_of_zero_le h0; exact F.sz j (by omega)
theorem VFacts.htI {S H : List Int} (F : VFacts S H) (i : Int) (h0 : 0 ≤ i) (h1 : i < S.length) : 0 ≤ rd H i ∧ rd H i ≤ rd S i := by
  obtain ⟨j, rfl⟩ := Int.eq_ofNat_of_zero_le h0; exact F.ht j (by omega)
/-- The amount of a move. -/
def amt (S H : List Int) (f t : Int) : Int := if f < 0 then rd S t - rd H t else if t < 0 then rd H f else min (rd H f) (rd S t - rd H t)
/-- a move of so many vessels -/
def mvOk (n : Nat) (f t : Int) : Prop := (-1 ≤ f ∧ f ≤ n - 1) ∧ (-1 ≤ t ∧ t ≤ n - 1) ∧ f ≠ t
instance (n : Nat) (f t : Int) : Decidable (mvOk n f t) := by unfold mvOk; infer_instance
theorem amt_bd {S H : List Int} (F : VFacts S H) (f t : Int) (h : mvOk S.length f t) : 0 ≤ amt S H f t ∧ amt S H f t ≤ 60 := by
  obtain ⟨⟨a0, a1⟩, ⟨b0, b1⟩, ne⟩ := h
  unfold amt
  by_cases hf : f < 0
  · rw [if_pos hf]; have := F.szI t (by omega) (by omega); have := F.htI t (by omega) (by omega); omega
  · rw [if_neg hf]
    have := F.szI f (by omega) (by omega); have := F.htI f (by omega) (by omega)
    by_cases hg : t < 0
    · rw [if_pos hg]; omega
    · rw [if_neg hg]; have := F.szI t (by omega) (by omega); have := F.htI t (by omega) (by omega); omega
theorem amt_spec {S H : List Int} (F : VFacts S H) (f t : Int) (h : mvOk S.length f t) : spec_veAmount.f S H f t = some (amt S H f t) := by
  obtain ⟨⟨a0, a1⟩, ⟨b0, b1⟩, ne⟩ := h
  have he := F.he
  unfold spec_veAmount.f amt spec_l1Least.f
  by_cases hf : f < 0
  · have := F.szI t (by omega) (by omega); have := F.htI t (by omega) (by omega)
    rw [if_neg (by omega), if_pos (by omega), if_pos (by omega), if_pos (by omega), if_pos (by omega), if_pos hf, w64 (by omega) (by omega)]
    by_cases c : 60 < rd S t - rd H t
    · omega
    · rw [if_neg c]; rfl
  · have := F.szI f (by omega) (by omega); have := F.htI f (by omega) (by omega)
    rw [if_pos (by omega), if_pos (by omega), if_pos (by omega), if_neg hf]
    by_cases hg : t < 0
    · rw [if_neg (by omega), if_pos hg]
    · have := F.szI t (by omega) (by omega); have := F.htI t (by omega) (by omega)
      rw [if_pos (by omega), if_pos (by omega), if_pos (by omega), if_pos (by omega), if_neg hg, w64 (by omega) (by omega)]
      by_cases c : rd H f < rd S t - rd H t
      · rw [if_pos c]; simp only [Option.bind_some]; congr 1; omega
      · rw [if_neg c]; simp only [Option.bind_some]; congr 1; omega
theorem amt_impl {S H : List Int} (F : VFacts S H) (f t : Int) (h : mvOk S.length f t) : impl_Vessels_amount.f S H f t = some (amt S H f t) := by
  obtain ⟨⟨a0, a1⟩, ⟨b0, b1⟩, ne⟩ := h
  have he := F.he
  unfold impl_Vessels_amount.f impl_Vessels_room.f amt
  by_cases hf : f < 0
  · have := F.szI t (by omega) (by omega); have := F.htI t (by omega) (by omega)
    rw [if_pos hf, if_pos (by omega), if_pos (by omega), if_pos (by omega), if_pos hf, w64 (by omega) (by omega)]; rfl
  · have := F.szI f (by omega) (by omega); have := F.htI f (by omega) (by omega)
    rw [if_neg hf, if_neg hf]
    by_cases hg : t < 0
    · rw [if_pos hg, if_pos (by omega), if_pos (by omega), if_pos hg]
    · have := F.szI t (by omega) (by omega); have := F.htI t (by omega) (by omega)
      rw [if_neg hg, if_pos (by omega), if_pos (by omega), if_pos (by omega), if_pos (by omega), if_pos (by omega), if_neg hg, w64 (by omega) (by omega)]
      simp only [Option.bind_some]; congr 1; unfold mn; omega
theorem mv_spec (n : Nat) (f t : Int) (h : n ≤ 5) : spec_veMove.f (n : Int) f t = some (decide (mvOk n f t)) := by
  unfold spec_veMove.f
  rw [w64 (by omega) (by omega), in_spec]; simp only [Option.bind_some]
  by_cases a : -1 ≤ f ∧ f ≤ n - 1
  · rw [if_pos (by simpa using a), in_spec]; simp only [Option.bind_some]
    by_cases b : -1 ≤ t ∧ t ≤ n - 1
    · rw [if_pos (by simpa using b)]; congr 1; simp only [mvOk, a, b, bne, true_and]
      by_cases e : f = t
      · simp [e]
      · simp [e]
    · rw [if_neg (by simpa using b)]; congr 1; symm; simp only [decide_eq_false_iff_not]; intro h; exact b h.2.1
  · rw [if_neg (by simpa using a)]; congr 1; symm; simp only [decide_eq_false_iff_not]; intro h; exact a h.1
/-- the moves from f to t, t + 1, .. (so many) -/
def seg (S H : List Int) (closed : Bool) (f : Int) : Nat → Int → List (Mv)
  | 0, _ => []
  | d + 1, t => (if f ≠ t ∧ ¬ (closed = true ∧ (f < 0 ∨ t < 0)) ∧ amt S H f t ≠ 0 then [(⟨f, t⟩ : Mv)] else []) ++ seg S H closed f d (t + 1)
def rows (S H : List Int) (closed : Bool) : Nat → Int → List (Mv)
  | 0, _ => []
  | d + 1, f => seg S H closed f (S.length + 1) (-1) ++ rows S H closed d (f + 1)
/-- All moves with an amount, in order. -/
def mvs (S H : List Int) (closed : Bool) : List (Mv) := rows S H closed (S.length + 1) (-1)
theorem seg_len (S H : List Int) (closed : Bool) (f : Int) : ∀ d t, (seg S H closed f d t).length ≤ d
  | 0, _ => by simp [seg]
  | d + 1, t => by
    have := seg_len S H closed f d (t + 1)
    simp only [seg, List.length_append]
    split <;> simp <;> omega
theorem rows_len (S H : List Int) (closed : Bool) : ∀ d f, (rows S H closed d f).length ≤ d * (S.length + 1)
  | 0, _ => by simp [rows]
  | d + 1, f => by
    have := rows_len S H closed d (f + 1)
    have := seg_len S H closed f (S.length + 1) (-1)
    simp only [rows, List.length_append]
    rw [Nat.add_mul]; omega
theorem mvs_len {S H : List Int} (F : VFacts S H) (closed : Bool) : (mvs S H closed).length ≤ 36 := by
  have := rows_len S H closed (S.length + 1) (-1)
  have h6 : S.length + 1 ≤ 6 := by have := F.n1; omega
  have : (S.length + 1) * (S.length + 1) ≤ 6 * 6 := Nat.mul_le_mul h6 h6
  unfold mvs; omega
theorem on_l1 {S H : List Int} (F : VFacts S H) (closed : Bool) (f : Int) (hf : -1 ≤ f ∧ f < S.length) : ∀ (d k : Nat) (acc : List (Mv)) (t : Int), -1 ≤ t → t + d = S.length → d < k → acc.length + d ≤ 1000 →
    ∃ k', k' + d + 1 = k ∧ spec_veOn.l1 k closed acc f t S H = spec_veOn.l0 k' closed (acc ++ seg S H closed f d t) (f + 1) S H := by
  have n1 := F.n1
  intro d
  induction d with
  | zero =>
    intro k acc t ht hd hk ha
    obtain ⟨k, rfl⟩ : ∃ m, k = m + 1 := ⟨k - 1, by omega⟩
    refine ⟨k, by omega, ?_⟩
    simp only [spec_veOn.l1]; rw [if_neg (by omega), w64 (by omega) (by omega)]; simp [seg]
  | succ d ih =>
    intro k acc t ht hd hk ha
    obtain ⟨k, rfl⟩ : ∃ m, k = m + 1 := ⟨k - 1, by omega⟩
    simp only [spec_veOn.l1]
    rw [if_pos (by omega), mv_spec S.length f t n1, w64 (x := t + 1) (by omega) (by omega)]; simp only [Option.bind_some]
    by_cases e : f = t
    · rw [if_neg (by simp [mvOk, e])]
      obtain ⟨k', hk', h⟩ := ih k acc (t + 1) (by omega) (by omega) (by omega) (by omega)
      refine ⟨k', by omega, ?_⟩
      rw [h]; simp [seg, e]
    · have ok : mvOk S.length f t := ⟨by omega, by omega, e⟩
      rw [if_pos (by simpa using ok), amt_spec F f t ok]; simp only [Option.bind_some]
      by_cases z : amt S H f t = 0
      · obtain ⟨k', hk', h⟩ := ih k acc (t + 1) (by omega) (by omega) (by omega) (by omega)
        refine ⟨k', by omega, ?_⟩
        rw [if_pos z]
        cases closed with
        | false => simp only [Bool.false_eq_true, if_false]; rw [h]; simp [seg, z]
        | true =>
          simp only [if_true]
          by_cases f0 : f < 0
          · rw [if_pos f0, h]; simp [seg, z]
          · rw [if_neg f0]
            by_cases t0 : t < 0
            · rw [if_pos t0, h]; simp [seg, z]
            · rw [if_neg t0, h]; simp [seg, z]
      · rw [if_neg z, if_pos (show acc.length < 8796093022208 by omega)]
        have add : ∀ (hn : ¬ (closed = true ∧ (f < 0 ∨ t < 0))), seg S H closed f (d + 1) t = (⟨f, t⟩ : Mv) :: seg S H closed f d (t + 1) := fun hn => by
          simp only [seg]; rw [if_pos ⟨e, hn, z⟩]; rfl
        have skip : ∀ (hn : closed = true ∧ (f < 0 ∨ t < 0)), seg S H closed f (d + 1) t = seg S H closed f d (t + 1) := fun hn => by
          simp only [seg]; rw [if_neg (fun h => h.2.1 hn)]; rfl
        by_cases hn : closed = true ∧ (f < 0 ∨ t < 0)
        · obtain ⟨k', hk', h⟩ := ih k acc (t + 1) (by omega) (by omega) (by omega) (by omega)
          refine ⟨k', by omega, ?_⟩
          rw [skip hn, ← h]
          obtain ⟨rfl, c⟩ := hn
          simp only [if_true]
          by_cases f0 : f < 0
          · rw [if_pos f0]
          · rw [if_neg f0, if_pos (by omega)]
        · obtain ⟨k', hk', h⟩ := ih k (acc ++ [⟨f, t⟩]) (t + 1) (by omega) (by omega) (by omega) (by simp; omega)
          refine ⟨k', by omega, ?_⟩
          rw [add hn]
          have e2 : acc ++ (⟨f, t⟩ : Mv) :: seg S H closed f d (t + 1) = (acc ++ [⟨f, t⟩]) ++ seg S H closed f d (t + 1) := by simp
          rw [e2, ← h]
          cases closed with
          | false => simp
          | true => simp only [if_true]; rw [if_neg (by simp at hn; omega), if_neg (by simp at hn; omega)]
theorem on_l0 {S H : List Int} (F : VFacts S H) (closed : Bool) : ∀ (d k : Nat) (acc : List (Mv)) (f : Int), -1 ≤ f → f + d = S.length → d * 8 < k → acc.length + d * 6 ≤ 500 →
    spec_veOn.l0 k closed acc f S H = some (acc ++ rows S H closed d f) := by
  have n1 := F.n1
  intro d
  induction d with
  | zero =>
    intro k acc f hf hd hk ha
    obtain ⟨k, rfl⟩ : ∃ m, k = m + 1 := ⟨k - 1, by omega⟩
    simp only [spec_veOn.l0]; rw [if_neg (by omega)]; simp [rows]
  | succ d ih =>
    intro k acc f hf hd hk ha
    obtain ⟨k, rfl⟩ : ∃ m, k = m + 1 := ⟨k - 1, by omega⟩
    simp only [spec_veOn.l0]
    rw [if_pos (by omega)]
    obtain ⟨k', hk', h⟩ := on_l1 F closed f ⟨hf, by omega⟩ (S.length + 1) k acc (-1) (by omega) (by omega) (by omega) (by omega)
    have hs := seg_len S H closed f (S.length + 1) (-1)
    rw [h, ih k' _ (f + 1) (by omega) (by omega) (by omega) (by simp; omega)]
    simp [rows]
theorem on_f {S H : List Int} (F : VFacts S H) (closed : Bool) (k : Nat) (hk : 100 < k) : spec_veOn.f k S H closed = some (mvs S H closed) := by
  have n1 := F.n1
  unfold spec_veOn.f mvs
  rw [on_l0 F closed (S.length + 1) k [] (-1) (by omega) (by omega) (by omega) (by simp; omega)]; rfl
theorem mo_l1 {S H : List Int} (F : VFacts S H) (closed : Bool) (x f : Int) (hx : x = if closed = true then 0 else -1) (hf : x ≤ f ∧ f < S.length) : ∀ (d k : Nat) (acc : List (Mv)) (t : Int), x ≤ t → t + d = S.length → d < k → acc.length + d ≤ 1000 →
    ∃ k', k' + d + 1 = k ∧ impl_Vessels_moves.l1 k x acc f t S H = impl_Vessels_moves.l0 k' x (acc ++ seg S H closed f d t) (f + 1) S H := by
  have n1 := F.n1
  have x1 : -1 ≤ x := by rw [hx]; split <;> omega
  intro d
  induction d with
  | zero =>
    intro k acc t ht hd hk ha
    obtain ⟨k, rfl⟩ : ∃ m, k = m + 1 := ⟨k - 1, by omega⟩
    refine ⟨k, by omega, ?_⟩
    simp only [impl_Vessels_moves.l1]; rw [if_neg (by omega), w64 (by omega) (by omega)]; simp [seg]
  | succ d ih =>
    intro k acc t ht hd hk ha
    obtain ⟨k, rfl⟩ : ∃ m, k = m + 1 := ⟨k - 1, by omega⟩
    simp only [impl_Vessels_moves.l1]
    rw [if_pos (by omega), w64 (x := t + 1) (by omega) (by omega)]
    have hn : ¬ (closed = true ∧ (f < 0 ∨ t < 0)) := by rintro ⟨rfl, c⟩; simp at hx; omega
    by_cases e : f = t
    · rw [if_pos e]
      obtain ⟨k', hk', h⟩ := ih k acc (t + 1) (by omega) (by omega) (by omega) (by omega)
      refine ⟨k', by omega, ?_⟩
      rw [h]; simp [seg, e]
    · have ok : mvOk S.length f t := ⟨by omega, by omega, e⟩
      have ab := amt_bd F f t ok
      rw [if_neg e, amt_impl F f t ok]; simp only [Option.bind_some]
      by_cases z : amt S H f t > 0
      · rw [if_pos z, if_pos (by omega)]
        obtain ⟨k', hk', h⟩ := ih k (acc ++ [⟨f, t⟩]) (t + 1) (by omega) (by omega) (by omega) (by simp; omega)
        refine ⟨k', by omega, ?_⟩
        rw [h]
        have : seg S H closed f (d + 1) t = (⟨f, t⟩ : Mv) :: seg S H closed f d (t + 1) := by simp only [seg]; rw [if_pos ⟨e, hn, by omega⟩]; rfl
        rw [this]; simp
      · rw [if_neg z]
        obtain ⟨k', hk', h⟩ := ih k acc (t + 1) (by omega) (by omega) (by omega) (by omega)
        refine ⟨k', by omega, ?_⟩
        have : seg S H closed f (d + 1) t = seg S H closed f d (t + 1) := by simp only [seg]; rw [if_neg (fun h => h.2.2 (by omega))]; rfl
        rw [h, this]
theorem seg_closed (S H : List Int) (f : Int) (n : Nat) : seg S H true f (n + 1) (-1) = seg S H true f n 0 := by
  simp [seg]
theorem seg_none (S H : List Int) : ∀ (d : Nat) (t : Int), seg S H true (-1) d t = []
  | 0, _ => rfl
  | d + 1, t => by simp only [seg]; rw [if_neg (by simp), seg_none S H d (t + 1)]; rfl
theorem mo_l0 {S H : List Int} (F : VFacts S H) (closed : Bool) (x : Int) (hx : x = if closed = true then 0 else -1) : ∀ (d k : Nat) (acc : List (Mv)) (f : Int), x ≤ f → f + d = S.length → d * 8 < k → acc.length + d * 6 ≤ 500 →
    impl_Vessels_moves.l0 k x acc f S H = some (acc ++ rows S H closed d f) := by
  have n1 := F.n1
  intro d
  induction d with
  | zero =>
    intro k acc f hf hd hk ha
    obtain ⟨k, rfl⟩ : ∃ m, k = m + 1 := ⟨k - 1, by omega⟩
    simp only [impl_Vessels_moves.l0]; rw [if_neg (by omega)]; simp [rows]
  | succ d ih =>
    intro k acc f hf hd hk ha
    obtain ⟨k, rfl⟩ : ∃ m, k = m + 1 := ⟨k - 1, by omega⟩
    simp only [impl_Vessels_moves.l0]
    rw [if_pos (by omega)]
    cases closed with
    | false =>
      simp at hx
      obtain ⟨k', hk', h⟩ := mo_l1 F false x f (by simpa using hx) ⟨hf, by omega⟩ (S.length + 1) k acc x (by omega) (by omega) (by omega) (by omega)
      have hs := seg_len S H false f (S.length + 1) (-1)
      subst hx
      rw [h, ih k' _ (f + 1) (by omega) (by omega) (by omega) (by simp; omega)]
      simp [rows]
    | true =>
      simp at hx
      obtain ⟨k', hk', h⟩ := mo_l1 F true x f (by simpa using hx) ⟨hf, by omega⟩ S.length k acc x (by omega) (by omega) (by omega) (by omega)
      have hs := seg_len S H true f S.length 0
      subst hx
      rw [h, ih k' _ (f + 1) (by omega) (by omega) (by omega) (by simp; omega)]
      simp [rows, seg_closed]
theorem mo_f {S H : List Int} (F : VFacts S H) (closed : Bool) (k : Nat) (hk : 100 < k) : impl_Vessels_moves.f k S H closed = some (mvs S H closed) := by
  have n1 := F.n1
  obtain ⟨k, rfl⟩ : ∃ m, k = m + 1 := ⟨k - 1, by omega⟩
  unfold impl_Vessels_moves.f mvs
  cases closed with
  | false =>
    simp only [Bool.false_eq_true, if_false, impl_Vessels_moves.j0]
    rw [mo_l0 F false (-1) rfl (S.length + 1) k [] (-1) (by omega) (by omega) (by omega) (by simp; omega)]; rfl
  | true =>
    simp only [if_true, impl_Vessels_moves.j0]
    rw [mo_l0 F true 0 rfl S.length k [] 0 (by omega) (by omega) (by omega) (by simp; omega)]
    simp [rows, seg_none]
theorem eqMv_l0 (l : List (Mv)) (hb : l.length ≤ 17592186044416) : ∀ (d k i : Nat), i + d = l.length → d < k → laws_eqMoveS.l0 k l l (i : Int) = some true := by
  intro d
  induction d with
  | zero =>
    intro k i hi hk
    obtain ⟨k, rfl⟩ : ∃ m, k = m + 1 := ⟨k - 1, by omega⟩
    simp only [laws_eqMoveS.l0]; rw [if_neg (by omega)]
  | succ d ih =>
    intro k i hi hk
    obtain ⟨k, rfl⟩ : ∃ m, k = m + 1 := ⟨k - 1, by omega⟩
    simp only [laws_eqMoveS.l0, laws_eqMove.f]
    rw [if_pos (by omega), if_pos (by omega), if_pos (by omega), if_pos trivial, if_pos trivial]; simp only [Option.bind_some, if_true]
    rw [w64 (by omega) (by omega)]
    exact ih k (i + 1) (by omega) (by omega)
theorem eqMv_self (k : Nat) (l : List (Mv)) (hb : l.length ≤ 17592186044416) (hk : l.length < k) : laws_eqMoveS.f k l l = some true := by
  unfold laws_eqMoveS.f
  rw [if_pos rfl]; exact eqMv_l0 l hb l.length k 0 (by omega) hk
def upMv : Int → Nat → List (Mv)
  | _, 0 => []
  | a, n + 1 => ⟨a, a + 1⟩ :: upMv (a + 2) n
theorem upMv_len : ∀ (n : Nat) (a : Int), (upMv a n).length = n
  | 0, _ => rfl
  | n + 1, a => by simp [upMv, upMv_len n]
theorem rdMv_mid (ms : List (Mv)) (x : Mv) (rest : List (Mv)) : rdMv (ms ++ x :: rest) (ms.length : Int) = x := by unfold rdMv; simp
theorem markMv_l0 : ∀ (d k : Nat) (ms rest : List (Mv)) (a : Int), rest.length = d → d < k → ms.length + d ≤ 1000000000 → 0 ≤ a → a + 2 * d ≤ 1000000000 →
    laws_markMoveS.l0 k (ms ++ rest) a (ms.length : Int) = some (a + 2 * d, ms ++ upMv a d) := by
  intro d
  induction d with
  | zero =>
    intro k ms rest a hr hk hb h0 h1
    obtain ⟨k, rfl⟩ : ∃ m, k = m + 1 := ⟨k - 1, by omega⟩
    obtain rfl : rest = [] := List.length_eq_zero_iff.mp hr
    simp only [laws_markMoveS.l0]; rw [if_neg (by simp)]; simp [upMv]
  | succ d ih =>
    intro k ms rest a hr hk hb h0 h1
    obtain ⟨k, rfl⟩ : ∃ m, k = m + 1 := ⟨k - 1, by omega⟩
    obtain ⟨x, rest, rfl⟩ : ∃ x r, rest = x :: r := by cases rest with | nil => simp at hr | cons x r => exact ⟨x, r, rfl⟩
    simp only [laws_markMoveS.l0]
    have e1 : ∀ y z : Mv, (ms ++ z :: rest).set ((ms.length : Int).toNat) y = ms ++ y :: rest := fun y z => by simp
    rw [if_pos (by simp; omega), if_pos (by omega)]
    simp only [Option.bind_some, e1, rdMvEq, rdMv_mid]
    rw [w64 (x := a + 1) (by omega) (by omega), w64 (by omega) (by omega), w64 (by omega) (by omega)]
    have ih' := ih k (ms ++ [⟨a, a + 1⟩]) rest (a + 2) (by simpa using hr) (by omega) (by simp; omega) (by omega) (by omega)
    simp only [List.length_append, List.length_cons, List.length_nil, List.append_assoc, List.cons_append, List.nil_append] at ih'
    rw [show ((ms.length : Int) + 1) = ((ms.length + (0 + 1) : Nat) : Int) by simp, show a + 1 + 1 = a + 2 by omega, ih']
    simp only [upMv]; congr 2; omega
theorem markMv_f (k : Nat) (l : List (Mv)) (hk : l.length < k) (hb : l.length ≤ 1000000) : laws_markMoveS.f k l 1 = some (1 + 2 * (l.length : Int), upMv 1 l.length) := by
  unfold laws_markMoveS.f
  have := markMv_l0 l.length k [] l 1 rfl hk (by simp; omega) (by omega) (by omega)
  simpa using this
theorem heldMv_l0 : ∀ (d k : Nat) (ms : List (Mv)) (a : Int), d < k → ms.length + d ≤ 1000000000 → 0 ≤ a → a + 2 * d ≤ 1000000000 →
    laws_heldMoveS.l0 k (ms ++ upMv a d) a (ms.length : Int) = some (a + 2 * d) := by
  intro d
  induction d with
  | zero =>
    intro k ms a hk hb h0 h1
    obtain ⟨k, rfl⟩ : ∃ m, k = m + 1 := ⟨k - 1, by omega⟩
    simp only [laws_heldMoveS.l0]; rw [if_neg (by simp [upMv])]; simp
  | succ d ih =>
    intro k ms a hk hb h0 h1
    obtain ⟨k, rfl⟩ : ∃ m, k = m + 1 := ⟨k - 1, by omega⟩
    simp only [laws_heldMoveS.l0, upMv, rdMvEq, rdMv_mid]
    rw [if_pos (by simp; omega), if_pos (by omega), if_pos trivial, w64 (x := a + 1) (by omega) (by omega), if_pos rfl, w64 (by omega) (by omega), w64 (by omega) (by omega)]
    have ih' := ih k (ms ++ [⟨a, a + 1⟩]) (a + 2) (by omega) (by simp; omega) (by omega) (by omega)
    simp only [List.length_append, List.length_cons, List.length_nil, List.append_assoc, List.cons_append, List.nil_append] at ih'
    rw [show ((ms.length : Int) + 1) = ((ms.length + (0 + 1) : Nat) : Int) by simp, show a + 1 + 1 = a + 2 by omega, ih']
    congr 1; omega
theorem heldMv_f (k n : Nat) (hk : n < k) (hb : n ≤ 1000000) : laws_heldMoveS.f k (upMv 1 n) 1 = some (1 + 2 * (n : Int)) := by
  unfold laws_heldMoveS.f
  have := heldMv_l0 n k [] 1 hk (by simp; omega) (by omega) (by omega)
  simpa using this
end Go.Proofs.Ytigpkicbigpilaa.AuxFnExactMovesOn
namespace Go.Proofs.Ytigpkicbigpilaa.Pure
open Go.RowKit Go.Proofs.Ytigpkicbigpilaa.Q Go.Proofs.Ytigpkicbigpilaa.AuxFnExactMovesOn Go.Proofs.YtigpkicbigpilaaW.PrintWords Go.Proofs.YtigpkicbigpilaaW.PrintLast Go.Proofs.YtigpkicbigpilaaW.PrintMore
theorem FnExactMovesOn (S H : List Int) (closed : Bool) (h0 : S.length ≤ 9223372036854775807) (_ : ∀ x ∈ S, (Lit.int .i64 x).wf = true) (h1 : H.length ≤ 9223372036854775807) (_ : ∀ x ∈ H, (Lit.int .i64 x).wf = true) : ∃ k, laws_FnExactMovesOn.f k S H closed = some true := by
  refine ⟨2000000, ?_⟩
  obtain ⟨r, hr, hc⟩ := szV_f S H h0 h1
  unfold laws_FnExactMovesOn.f
  rw [hr]; simp only [Option.bind_some]
  rcases hc with hc | ⟨c0, c1, c2⟩
  · rw [if_pos hc]
  · rw [if_neg (by omega)]
    have key : ∃ q : List Mv × Bool, q.1.length ≤ 36 ∧ ∀ k, 1500000 < k → spec_MovesOn.f k S H closed = some q ∧ impl_MovesOn.f k S H closed = some q := by
      by_cases c : VOk S H = true
      · have F := VOk.facts c
        refine ⟨(mvs S H closed, true), mvs_len F closed, fun k hk => ?_⟩
        unfold spec_MovesOn.f impl_MovesOn.f
        rw [good_spec k S H (by omega) (by omega), good_impl k S H (by omega) (by omega), c]
        simp only [Option.bind_some, if_true]
        rw [on_f F closed k (by omega), mo_f F closed k (by omega)]; exact ⟨rfl, rfl⟩
      · refine ⟨([], false), by simp, fun k hk => ?_⟩
        unfold spec_MovesOn.f impl_MovesOn.f
        rw [good_spec k S H (by omega) (by omega), good_impl k S H (by omega) (by omega), Bool.eq_false_iff.mpr c]
        exact ⟨rfl, rfl⟩
    obtain ⟨q, hq, key⟩ := key
    rw [toV_f 2000000 S H (by omega) (by omega) (by omega) (by omega)]
    simp only [Option.bind_some]
    rw [(key 2000000 (by omega)).1]
    simp only [Option.bind_some]
    rw [(key 2000000 (by omega)).2]
    simp only [Option.bind_some]
    rw [eqMv_self 2000000 q.1 (by omega) (by omega)]
    simp only [Option.bind_some, if_true, bne_self_eq_false]
    have j0 : ∀ k, laws_FnExactMovesOn.j0 (k + 1) = laws_FnExactMovesOn.j0 (k + 1) := fun _ => rfl
    rw [show (2000000 : Nat) = 1999999 + 1 from rfl]
    simp only [laws_FnExactMovesOn.j0, Bool.false_eq_true, if_false]
    rw [toV_f 1999999 S H (by omega) (by omega) (by omega) (by omega)]
    simp only [Option.bind_some]
    unfold laws_eqVessels.f
    rw [eq_self 1999999 S (by omega) (by omega), eq_self 1999999 H (by omega) (by omega)]
    simp only [Option.bind_some, if_true]
    unfold laws_markVessels.f
    rw [mark_f 1999999 S (by omega) (by omega)]
    simp only [Option.bind_some]
    obtain ⟨q2, hq2, e2⟩ := mark_any 1999999 H (1 + (S.length : Int)) (by omega) (by omega) (by omega) (by omega)
    rw [e2]
    simp only [Option.bind_some]
    rw [if_neg (by omega), eqMv_self 1999999 q.1 (by omega) (by omega)]
    simp only [Option.bind_some, if_true, bne_self_eq_false]
    rw [show (1999999 : Nat) = 1999998 + 1 from rfl]
    simp only [laws_FnExactMovesOn.j1, Bool.false_eq_true, if_false]
    rw [markMv_f 1999998 q.1 (by omega) (by omega)]
    simp only [Option.bind_some]
    rw [heldMv_f 1999998 q.1.length (by omega) (by omega)]
    simp only [Option.bind_some, if_true]
    rw [if_neg (by omega), toV_f 1999998 S H (by omega) (by omega) (by omega) (by omega)]
    simp only [Option.bind_some]
    rw [(key 1999998 (by omega)).2]
    simp only [Option.bind_some]
    rw [eqMv_self 1999998 q.1 (by omega) (by omega)]
    simp only [Option.bind_some, if_true, bne_self_eq_false]
    rw [show (1999998 : Nat) = 1999997 + 1 from rfl]
    simp only [laws_FnExactMovesOn.j2, Bool.false_eq_true, if_false]
    rw [heldMv_f 1999997 q.1.length (by omega) (by omega)]
    simp only [Option.bind_some, if_true]
    rw [if_neg (by omega)]
end Go.Proofs.Ytigpkicbigpilaa.Pure
