/- Plain functions and what they come to. -/
import Derived.Test.YtieioddimkafbaaTbPuLaw
import Derived.Test.YtieioddimkafbaaTbVx
namespace Go.Proofs.Ytieioddimkafbaa.PuB
open Go.RowKit Go.Proofs.Ytieioddimkafbaa.V Go.Proofs.YtieioddimkafbaaW.PrintWords Go.Proofs.YtieioddimkafbaaW.PrintLast Go.Proofs.YtieioddimkafbaaW.PrintMore Go.Proofs.Ytieioddimkafbaa Go.Proofs.Ytieioddimkafbaa.PuB
set_option linter.unusedVariables false
set_option linter.unusedSimpArgs false
/-- a, a + 1, .. -/
def upFrom : Int → Nat → List Int
  | _, 0 => []
  | a, n + 1 => a :: upFrom (a + 1) n
theorem upFrom_len : ∀ (n : Nat) (a : Int), (upFrom a n).length = n
  | 0, _ => rfl
  | n + 1, a => by simp [upFrom, upFrom_len n]
theorem mark_l0 : ∀ (d k : Nat) (ms rest : List Int) (a : Int), rest.length = d → d < k → ms.length + d ≤ 17592186044416 → 0 ≤ a → a + d ≤ 17592186044416 →
    laws_markIntS.l0 k (ms ++ rest) a (ms.length : Int) = some (a + d, ms ++ upFrom a d) := by
  intro d
  induction d with
  | zero =>
    intro k ms rest a hr hk hb h0 h1
    obtain ⟨k, rfl⟩ : ∃ m, k = m + 1 := ⟨k - 1, by omega⟩
    obtain rfl : rest = [] := List.length_eq_zero_iff.mp hr
    simp only [laws_markIntS.l0]; rw [if_neg (by simp)]; simp [upFrom]
  | succ d ih =>
    intro k ms rest a hr hk hb h0 h1
    obtain ⟨k, rfl⟩ : ∃ m, k = m + 1 := ⟨k - 1, by omega⟩
    obtain ⟨x, rest, rfl⟩ : ∃ x r, rest = x :: r := by cases rest with | nil => simp at hr | cons x r => exact ⟨x, r, rfl⟩
    simp only [laws_markIntS.l0]
    have e : (ms ++ x :: rest).set ((ms.length : Int).toNat) a = (ms ++ [a]) ++ rest := by simp
    rw [if_pos (by simp; omega), if_pos (by omega), e, w64 (by omega) (by omega), w64 (by omega) (by omega)]
    have ih' := ih k (ms ++ [a]) rest (a + 1) (by simpa using hr) (by omega) (by simp; omega) (by omega) (by omega)
    simp only [List.length_append, List.length_cons, List.length_nil] at ih'
    rw [show ((ms.length : Int) + 1) = ((ms.length + (0 + 1) : Nat) : Int) by simp, ih']
    simp only [upFrom, List.append_assoc, List.cons_append, List.nil_append]
    congr 2; simp; omega
theorem eqI_ev (l : List Int) (h : l.length ≤ 10000000) : Ev (fun k => laws_eqIntS.f k l l) true := Ev.of 20000000 fun k hk => eq_self k l (by omega) (by omega)
theorem mark_any' (k : Nat) (l : List Int) (a : Int) (hk : l.length < k) (h0 : 0 ≤ a) (h1 : a ≤ 10000000) (hb : l.length ≤ 10000000) : laws_markIntS.f k l a = some (a + (l.length : Int), upFrom a l.length) := by
  unfold laws_markIntS.f
  have := mark_l0 l.length k [] l a rfl hk (by simp; omega) h0 (by omega)
  simpa using this
theorem markI_ev (l : List Int) (h : l.length ≤ 1048576) : Ev (fun k => laws_markIntS.f k l 1) (1 + (l.length : Int), upFrom 1 l.length) := Ev.of 20000000 fun k hk => mark_any' k l 1 (by omega) (by omega) (by omega) (by omega)
theorem markV_ev (S H : List Int) (h0 : S.length ≤ 1048576) (h1 : H.length ≤ 1048576) : Ev (fun k => laws_markVessels.f k S H 1) (1 + (S.length : Int) + (H.length : Int), upFrom 1 S.length, upFrom (1 + (S.length : Int)) H.length) := by
  refine Ev.of 20000000 fun k hk => ?_
  unfold laws_markVessels.f
  rw [mark_any' k S 1 (by omega) (by omega) (by omega) (by omega)]
  simp only [Option.bind_some]
  rw [mark_any' k H _ (by omega) (by omega) (by omega) (by omega)]
  rfl
end Go.Proofs.Ytieioddimkafbaa.PuB
