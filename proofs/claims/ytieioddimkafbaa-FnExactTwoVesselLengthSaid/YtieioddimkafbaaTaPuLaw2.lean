/- Plain functions and what they come to. -/
import Derived.Test.YtieioddimkafbaaTaPuLaw
import Derived.Test.YtieioddimkafbaaTaVx
namespace Go.Proofs.Ytieioddimkafbaa.PuB
open Go.RowKit Go.Proofs.Ytieioddimkafbaa.V Go.Proofs.YtieioddimkafbaaW.PrintWords Go.Proofs.YtieioddimkafbaaW.PrintLast Go.Proofs.YtieioddimkafbaaW.PrintMore Go.Proofs.Ytieioddimkafbaa Go.Proofs.Ytieioddimkafbaa.PuB
set_option linter.unusedVariables false
set_option linter.unusedSimpArgs false
/-- a, a + 1, .. -/
def upFrom : Int → Nat → List Int
  | _, 0 => []
  | a, n + 1 => a :: upFrom (a + 1) n
theorem mark_l0 : ∀ (d k : Nat) (ms rest : List Int) (a : Int), rest.length = d → d < k → ms.length + d ≤ 17592186044416 → 0 ≤ a → a + d ≤ 17592186044416 →
    laws_markIntS.l0 k (ms ++ rest) a (ms.length : Int) = some (a + d, ms ++ upFrom a d) := by
  intro d
  induction d with
  | zero =>
    intro k ms rest a hr hk hb h0 h1
    obtain ⟨k, rfl⟩ : ∃ m, k = m + 1 := ⟨k - 1, by omega⟩
    obtain rfl : rest = [] := List.length_eq_zero_iff.mp hr
    simp only [laws_markIntS.l0]; rw [if_neg (by simp)]; simp [upFrom]
  | succ d ih =>
    intro k ms rest a hr hk hb h0 h1
    obtain ⟨k, rfl⟩ : ∃ m, k = m + 1 := ⟨k - 1, by omega⟩
    obtain ⟨x, rest, rfl⟩ : ∃ x r, rest = x :: r := by cases rest with | nil => simp at hr | cons x r => exact ⟨x, r, rfl⟩
    simp only [laws_markIntS.l0]
    have e : (ms ++ x :: rest).set ((ms.length : Int).toNat) a = (ms ++ [a]) ++ rest := by simp
    rw [if_pos (by simp; omega), if_pos (by omega), e, w64 (by omega) (by omega), w64 (by omega) (by omega)]
    have ih' := ih k (ms ++ [a]) rest (a + 1) (by simpa using hr) (by omega) (by simp; omega) (by omega) (by omega)
    simp only [List.length_append, List.length_cons, List.length_nil] at ih'
    rw [show ((ms.length : Int) + 1) = ((ms.length + (0 + 1) : Nat) : Int) by simp, ih']
    simp only [upFrom, List.append_assoc, List.cons_append, List.nil_append]
    congr 2; simp; omega
theorem eqMv_l0 (l : List (Mv)) (hb : l.length ≤ 17592186044416) : ∀ (d k i : Nat), i + d = l.length → d < k → laws_eqMoveS.l0 k l l (i : Int) = some true := by
  intro d
  induction d with
  | zero =>
    intro k i hi hk
    obtain ⟨k, rfl⟩ : ∃ m, k = m + 1 := ⟨k - 1, by omega⟩
    simp only [laws_eqMoveS.l0]; rw [if_neg (by omega)]
  | succ d ih =>
    intro k i hi hk
    obtain ⟨k, rfl⟩ : ∃ m, k = m + 1 := ⟨k - 1, by omega⟩
    simp only [laws_eqMoveS.l0, laws_eqMove.f]
    rw [if_pos (by omega), if_pos (by omega), if_pos (by omega), if_pos trivial, if_pos trivial]; simp only [Option.bind_some, if_true]
    rw [w64 (by omega) (by omega)]
    exact ih k (i + 1) (by omega) (by omega)
theorem eqMv_self (k : Nat) (l : List (Mv)) (hb : l.length ≤ 17592186044416) (hk : l.length < k) : laws_eqMoveS.f k l l = some true := by
  unfold laws_eqMoveS.f
  rw [if_pos rfl]; exact eqMv_l0 l hb l.length k 0 (by omega) hk
def upMv : Int → Nat → List (Mv)
  | _, 0 => []
  | a, n + 1 => ⟨a, a + 1⟩ :: upMv (a + 2) n
theorem rdMv_mid (ms : List (Mv)) (x : Mv) (rest : List (Mv)) : rdMv (ms ++ x :: rest) (ms.length : Int) = x := by unfold rdMv; simp
theorem markMv_l0 : ∀ (d k : Nat) (ms rest : List (Mv)) (a : Int), rest.length = d → d < k → ms.length + d ≤ 1000000000 → 0 ≤ a → a + 2 * d ≤ 1000000000 →
    laws_markMoveS.l0 k (ms ++ rest) a (ms.length : Int) = some (a + 2 * d, ms ++ upMv a d) := by
  intro d
  induction d with
  | zero =>
    intro k ms rest a hr hk hb h0 h1
    obtain ⟨k, rfl⟩ : ∃ m, k = m + 1 := ⟨k - 1, by omega⟩
    obtain rfl : rest = [] := List.length_eq_zero_iff.mp hr
    simp only [laws_markMoveS.l0]; rw [if_neg (by simp)]; simp [upMv]
  | succ d ih =>
    intro k ms rest a hr hk hb h0 h1
    obtain ⟨k, rfl⟩ : ∃ m, k = m + 1 := ⟨k - 1, by omega⟩
    obtain ⟨x, rest, rfl⟩ : ∃ x r, rest = x :: r := by cases rest with | nil => simp at hr | cons x r => exact ⟨x, r, rfl⟩
    simp only [laws_markMoveS.l0]
    have e1 : ∀ y z : Mv, (ms ++ z :: rest).set ((ms.length : Int).toNat) y = ms ++ y :: rest := fun y z => by simp
    rw [if_pos (by simp; omega), if_pos (by omega)]
    simp only [Option.bind_some, e1, rdMvEq, rdMv_mid]
    rw [w64 (x := a + 1) (by omega) (by omega), w64 (by omega) (by omega), w64 (by omega) (by omega)]
    have ih' := ih k (ms ++ [⟨a, a + 1⟩]) rest (a + 2) (by simpa using hr) (by omega) (by simp; omega) (by omega) (by omega)
    simp only [List.length_append, List.length_cons, List.length_nil, List.append_assoc, List.cons_append, List.nil_append] at ih'
    rw [show ((ms.length : Int) + 1) = ((ms.length + (0 + 1) : Nat) : Int) by simp, show a + 1 + 1 = a + 2 by omega, ih']
    simp only [upMv]; congr 2; omega
theorem markMv_f (k : Nat) (l : List (Mv)) (hk : l.length < k) (hb : l.length ≤ 1000000) : laws_markMoveS.f k l 1 = some (1 + 2 * (l.length : Int), upMv 1 l.length) := by
  unfold laws_markMoveS.f
  have := markMv_l0 l.length k [] l 1 rfl hk (by simp; omega) (by omega) (by omega)
  simpa using this
theorem heldMv_l0 : ∀ (d k : Nat) (ms : List (Mv)) (a : Int), d < k → ms.length + d ≤ 1000000000 → 0 ≤ a → a + 2 * d ≤ 1000000000 →
    laws_heldMoveS.l0 k (ms ++ upMv a d) a (ms.length : Int) = some (a + 2 * d) := by
  intro d
  induction d with
  | zero =>
    intro k ms a hk hb h0 h1
    obtain ⟨k, rfl⟩ : ∃ m, k = m + 1 := ⟨k - 1, by omega⟩
    simp only [laws_heldMoveS.l0]; rw [if_neg (by simp [upMv])]; simp
  | succ d ih =>
    intro k ms a hk hb h0 h1
    obtain ⟨k, rfl⟩ : ∃ m, k = m + 1 := ⟨k - 1, by omega⟩
    simp only [laws_heldMoveS.l0, upMv, rdMvEq, rdMv_mid]
    rw [if_pos (by simp; omega), if_pos (by omega), if_pos trivial, w64 (x := a + 1) (by omega) (by omega), if_pos rfl, w64 (by omega) (by omega), w64 (by omega) (by omega)]
    have ih' := ih k (ms ++ [⟨a, a + 1⟩]) (a + 2) (by omega) (by simp; omega) (by omega) (by omega)
    simp only [List.length_append, List.length_cons, List.length_nil, List.append_assoc, List.cons_append, List.nil_append] at ih'
    rw [show ((ms.length : Int) + 1) = ((ms.length + (0 + 1) : Nat) : Int) by simp, show a + 1 + 1 = a + 2 by omega, ih']
    congr 1; omega
theorem heldMv_f (k n : Nat) (hk : n < k) (hb : n ≤ 1000000) : laws_heldMoveS.f k (upMv 1 n) 1 = some (1 + 2 * (n : Int)) := by
  unfold laws_heldMoveS.f
  have := heldMv_l0 n k [] 1 hk (by simp; omega) (by omega) (by omega)
  simpa using this
theorem mark_any' (k : Nat) (l : List Int) (a : Int) (hk : l.length < k) (h0 : 0 ≤ a) (h1 : a ≤ 10000000) (hb : l.length ≤ 10000000) : laws_markIntS.f k l a = some (a + (l.length : Int), upFrom a l.length) := by
  unfold laws_markIntS.f
  have := mark_l0 l.length k [] l a rfl hk (by simp; omega) h0 (by omega)
  simpa using this
theorem markV_ev (S H : List Int) (h0 : S.length ≤ 1048576) (h1 : H.length ≤ 1048576) : Ev (fun k => laws_markVessels.f k S H 1) (1 + (S.length : Int) + (H.length : Int), upFrom 1 S.length, upFrom (1 + (S.length : Int)) H.length) := by
  refine Ev.of 20000000 fun k hk => ?_
  unfold laws_markVessels.f
  rw [mark_any' k S 1 (by omega) (by omega) (by omega) (by omega)]
  simp only [Option.bind_some]
  rw [mark_any' k H _ (by omega) (by omega) (by omega) (by omega)]
  rfl
theorem eqMv_ev (l : List Mv) (h : l.length ≤ 1000000) : Ev (fun k => laws_eqMoveS.f k l l) true := Ev.of 2000000 fun k hk => eqMv_self k l (by omega) (by omega)
theorem markMv_ev (l : List Mv) (h : l.length ≤ 1000000) : Ev (fun k => laws_markMoveS.f k l 1) (1 + 2 * (l.length : Int), upMv 1 l.length) := Ev.of 2000000 fun k hk => markMv_f k l (by omega) (by omega)
theorem heldMv_ev (n : Nat) (h : n ≤ 1000000) : Ev (fun k => laws_heldMoveS.f k (upMv 1 n) 1) (1 + 2 * (n : Int)) := Ev.of 2000000 fun k hk => heldMv_f k n (by omega) (by omega)
end Go.Proofs.Ytieioddimkafbaa.PuB
