/- Plain functions and what they come to. -/
import Derived.Test.YtieioddimkafbaaTbPuSpec
import Derived.Test.YtieioddimkafbaaTbPuImpl
import Derived.Test.YtieioddimkafbaaTbVplQ
namespace Go.Proofs.Ytieioddimkafbaa.PuB
open Go.RowKit Go.Proofs.Ytieioddimkafbaa.V Go.Proofs.YtieioddimkafbaaW.PrintWords Go.Proofs.YtieioddimkafbaaW.PrintLast Go.Proofs.YtieioddimkafbaaW.PrintMore Go.Proofs.Ytieioddimkafbaa Go.Proofs.Ytieioddimkafbaa.PuB
set_option linter.unusedVariables false
set_option linter.unusedSimpArgs false
theorem eq_l0 (l : List Int) (hb : l.length ≤ 17592186044416) : ∀ (d k i : Nat), i + d = l.length → d < k → laws_eqIntS.l0 k l l (i : Int) = some true := by
  intro d
  induction d with
  | zero =>
    intro k i hi hk
    obtain ⟨k, rfl⟩ : ∃ m, k = m + 1 := ⟨k - 1, by omega⟩
    simp only [laws_eqIntS.l0]; rw [if_neg (by omega)]
  | succ d ih =>
    intro k i hi hk
    obtain ⟨k, rfl⟩ : ∃ m, k = m + 1 := ⟨k - 1, by omega⟩
    simp only [laws_eqIntS.l0]
    rw [if_pos (by omega), if_pos (by omega), if_pos (by omega), if_pos trivial, w64 (by omega) (by omega)]
    exact ih k (i + 1) (by omega) (by omega)
theorem eq_self (k : Nat) (l : List Int) (hb : l.length ≤ 17592186044416) (hk : l.length < k) : laws_eqIntS.f k l l = some true := by
  unfold laws_eqIntS.f
  rw [if_pos rfl]; exact eq_l0 l hb l.length k 0 (by omega) hk
theorem toInt_l0 (l : List Int) (hb : l.length ≤ 17592186044416) : ∀ (d k i : Nat), i + d = l.length → d < k →
    laws_toIntS.l0 k l (l.take i ++ List.replicate d 0) (i : Int) = some l := by
  intro d
  induction d with
  | zero =>
    intro k i hi hk
    obtain ⟨k, rfl⟩ : ∃ m, k = m + 1 := ⟨k - 1, by omega⟩
    simp only [laws_toIntS.l0]; rw [if_neg (by omega), List.take_of_length_le (by omega)]; simp
  | succ d ih =>
    intro k i hi hk
    obtain ⟨k, rfl⟩ : ∃ m, k = m + 1 := ⟨k - 1, by omega⟩
    simp only [laws_toIntS.l0]
    have e : (l.take i ++ List.replicate (d + 1) 0).set ((i : Int).toNat) (rd l (i : Int)) = l.take (i + 1) ++ List.replicate d 0 := by
      have hl : (l.take i).length = i := by simp; omega
      rw [Int.toNat_natCast, List.set_append_right _ _ (by omega), hl, Nat.sub_self, List.replicate_succ, List.set_cons_zero, List.take_succ_eq_append_getElem (by omega), List.append_assoc]
      unfold rd; simp [show i < l.length by omega]
    rw [if_pos (by omega), if_pos (by omega), if_pos (by simp; omega), e, w64 (by omega) (by omega), show ((i : Int) + 1) = ((i + 1 : Nat) : Int) by simp]
    exact ih k (i + 1) (by omega) (by omega)
theorem toInt_f (k : Nat) (l : List Int) (hb : l.length ≤ 17592186044416) (hk : l.length < k) : laws_toIntS.f k l = some l := by
  unfold laws_toIntS.f
  rw [if_pos (by omega), if_pos (by omega)]
  have := toInt_l0 l hb l.length k 0 (by omega) hk
  simpa using this
theorem toV_f (k : Nat) (S H : List Int) (h0 : S.length ≤ 17592186044416) (h1 : H.length ≤ 17592186044416) (hk : S.length < k) (hk' : H.length < k) : laws_toVessels.f k S H = some (S, H) := by
  unfold laws_toVessels.f
  rw [toInt_f k S h0 hk, toInt_f k H h1 hk']; rfl
theorem szI_f (l : List Int) (a : Int) (h : l.length ≤ 9223372036854775807) (h0 : 0 ≤ a) (h1 : a ≤ 1048576) : laws_szIntS.f l a = some (if (l.length : Int) ≤ a then a - l.length else -1) := by
  unfold laws_szIntS.f
  rw [w64 (by omega) (by omega)]
  by_cases c : (l.length : Int) ≤ a
  · rw [if_neg (by omega), if_pos c]
  · rw [if_pos (by omega), if_neg c]
theorem szV_f (S H : List Int) (h : S.length ≤ 9223372036854775807) (h' : H.length ≤ 9223372036854775807) :
    ∃ r, laws_szVessels.f S H 1048576 = some r ∧ (r < 0 ∨ (0 ≤ r ∧ S.length ≤ 1048576 ∧ H.length ≤ 1048576)) := by
  unfold laws_szVessels.f
  rw [szI_f S _ h (by omega) (by omega)]; simp only [Option.bind_some]
  by_cases c : (S.length : Int) ≤ 1048576
  · rw [if_pos c, if_neg (by omega), szI_f H _ h' (by omega) (by omega)]; simp only [Option.bind_some]
    by_cases c' : (H.length : Int) ≤ 1048576 - S.length
    · rw [if_pos c', if_neg (by omega)]; exact ⟨_, rfl, Or.inr ⟨by omega, by omega, by omega⟩⟩
    · rw [if_neg c']; exact ⟨_, rfl, Or.inl (by omega)⟩
  · rw [if_neg c]; exact ⟨_, rfl, Or.inl (by omega)⟩
theorem toV_ev (S H : List Int) (h0 : S.length ≤ 1048576) (h1 : H.length ≤ 1048576) : Ev (fun k => laws_toVessels.f k S H) (S, H) := Ev.of 2000000 fun k hk => toV_f k S H (by omega) (by omega) (by omega) (by omega)
theorem eqV_ev (S H : List Int) (h0 : S.length ≤ 1048576) (h1 : H.length ≤ 1048576) : Ev (fun k => laws_eqVessels.f k S H S H) true := by
  refine Ev.of 2000000 fun k hk => ?_
  unfold laws_eqVessels.f
  rw [eq_self k S (by omega) (by omega), eq_self k H (by omega) (by omega)]
  simp
/-- All that is reached, if it can be told. -/
def got (S H : List Int) (a : Bool) : Option St := if VOk S H = true then bfs S H a 3000 else none
theorem got_fin {S H : List Int} {a : Bool} {st : St} (h : got S H a = some st) : Fin S H a 3000 st ∧ VOk S H = true := by
  unfold got at h
  by_cases c : VOk S H = true
  · rw [if_pos c] at h; exact ⟨bfs_fin (VOk.facts c) (by omega) h, c⟩
  · rw [if_neg c] at h; cases h
theorem asked_ev (S H : List Int) (a : Bool) (h0 : S.length ≤ 1048576) : ∃ r, IsS S r (got S H a) ∧ Ev (fun k => spec_plAsked.f k S H a) r := by
  unfold spec_plAsked.f got
  by_cases c : VOk S H = true
  · rw [if_pos c]
    obtain ⟨r, hr, E⟩ := spec_all c a
    exact ⟨r, hr, Ev.bind (x := true) (Ev.of 2000000 fun k hk => by rw [good_spec k S H (by omega) (by omega), c]) (Ev.pos rfl E)⟩
  · rw [if_neg c]
    exact ⟨([], [], [], [], [], false), rfl, Ev.bind (x := false) (Ev.of 2000000 fun k hk => by rw [good_spec k S H (by omega) (by omega), Bool.eq_false_iff.mpr c]) (Ev.neg (by decide) (Ev.const rfl))⟩
theorem reach_ev (S H : List Int) (a : Bool) (h0 : S.length ≤ 1048576) : Ev (fun k => impl_reachOf.f k S H a 3000) (resI S (got S H a)) := by
  unfold got
  by_cases c : VOk S H = true
  · rw [if_pos c]; exact impl_reach c a 3000 (by omega) (by omega)
  · rw [if_neg c]; exact impl_reach_no h0 (Bool.eq_false_iff.mpr c) a 3000
end Go.Proofs.Ytieioddimkafbaa.PuB
