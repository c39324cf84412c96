/- Plain functions and what they come to. -/
import Derived.Test.YtflbcikfphfkdaaQbPuW1
namespace Go.Proofs.Ytflbcikfphfkdaa.PuB
open Go.RowKit Go.Proofs.Ytflbcikfphfkdaa.R Go.Proofs.YtflbcikfphfkdaaW.PrintLast Go.Proofs.YtflbcikfphfkdaaW.PrintMore
open Go.Proofs.YtflbcikfphfkdaaW.PrintWords hiding Ev
set_option linter.unusedVariables false
set_option linter.unusedSimpArgs false
theorem wrow_l1 {l : List Int} (hb : Bytes l) : ∀ (d : Nat) (xs : List S30) (p s : Int) (k : Nat), xs.length + d = 8 → 1 ≤ xs.length → 0 ≤ p → p ≤ 1000000000000 - 3 * (d : Int) → d + 1 < k →
    ∃ r p' s', spec_l1Cur_row.l1 k xs l p s = some (r, p', s') ∧ 1 ≤ r.length ∧ r.length ≤ 8 ∧ 0 ≤ p' ∧ p' ≤ p + 3 * (d : Int) + 10
  | d, xs, p, s, 0, _, _, _, _, hk => by omega
  | d, xs, p, s, k + 1, e, h1, h0, hp, hk => by
    obtain ⟨r, p', s', q, a, b, c, dd⟩ := pick_ok hb p s 2 h0 (by omega) (by omega)
    have dd := dd (by omega)
    simp only [spec_l1Cur_row.l1]
    rw [q, Option.bind_some]
    simp only []
    rw [w64 (x := 6 + r) (by omega) (by omega)]
    by_cases z : (xs.length : Int) < 6 + r
    · rw [if_pos z, if_pos (by omega), if_pos (by omega)]
      obtain ⟨d, rfl⟩ : ∃ m, d = m + 1 := ⟨d - 1, by omega⟩
      obtain ⟨r3, p3, s3, w1, w2, w3, w4, w5⟩ := wrow_l1 hb d (xs ++ [(⟨(rd_T30 xs 0).f0, (rd_T30 xs 0).f1, (rd_T30 xs 0).f2⟩ : S30)]) p' s' k (by simp; omega) (by simp) (by omega) (by omega) (by omega)
      exact ⟨r3, p3, s3, w1, w2, w3, w4, by omega⟩
    · rw [if_neg z]; exact ⟨_, _, _, rfl, h1, by omega, by omega, by omega⟩
set_option maxRecDepth 100000 in
theorem wrow_l0 {l : List Int} (hb : Bytes l) : ∀ (d : Nat) (xs : List S30) (p s : Int) (k : Nat), xs.length + d ≤ 5 → (d = 0 → 1 ≤ xs.length) → 0 ≤ p → p ≤ 1000000000 - 10 * (d : Int) → d + 20 < k →
    ∃ r p' s', spec_l1Cur_row.l0 k xs (d : Int) l p s = some (r, p', s') ∧ 1 ≤ r.length ∧ r.length ≤ 8 ∧ 0 ≤ p' ∧ p' ≤ p + 10 * (d : Int) + 60 := by
  intro d
  induction d with
  | zero =>
    intro xs p s k e h1 h0 hp hk
    obtain ⟨k, rfl⟩ : ∃ m, k = m + 1 := ⟨k - 1, by omega⟩
    simp only [Int.natCast_zero, Int.ofNat_zero] at *
    have h1 := h1 trivial
    obtain ⟨r, p', s', q, a, b, c, dd⟩ := pick_ok hb p s 16 h0 (by omega) (by omega)
    simp only [spec_l1Cur_row.l0]
    rw [if_neg (by omega), q, Option.bind_some]
    simp only []
    by_cases c0 : r = 0
    · rw [if_pos c0, if_pos (by omega)]
      obtain ⟨x, p2, s2, q2, a2, b2, _⟩ := among_ok hb p' s' [(-1), wrap64 (((rd_T30 xs 0).f0) + 1)] (by omega) (by omega) (by simp) (by simp)
      rw [q2, Option.bind_some]
      exact ⟨_, _, _, rfl, by simpa using h1, by simp; omega, by (try simp only []); omega, by (try simp only []); omega⟩
    · rw [if_neg c0]
      by_cases c1 : r = 1
      · rw [if_pos c1]
        obtain ⟨x, p2, s2, q2, a2, b2, _⟩ := among_ok hb p' s' [0, 1000, 1001] (by omega) (by omega) (by simp) (by simp)
        rw [q2, Option.bind_some, if_pos (by omega)]
        exact ⟨_, _, _, rfl, by simpa using h1, by simp; omega, by (try simp only []); omega, by (try simp only []); omega⟩
      · rw [if_neg c1]
        by_cases c2 : r = 2
        · rw [if_pos c2]
          obtain ⟨x, p2, s2, q2, a2, b2, _⟩ := among_ok hb p' s' [(-1), 1000, 1001] (by omega) (by omega) (by simp) (by simp)
          rw [q2, Option.bind_some, if_pos (by omega)]
          exact ⟨_, _, _, rfl, by simpa using h1, by simp; omega, by (try simp only []); omega, by (try simp only []); omega⟩
        · rw [if_neg c2]
          by_cases c3 : r = 3
          · rw [if_pos c3]
            obtain ⟨r3, p3, s3, w1, w2, w3, w4, w5⟩ := wrow_l1 hb (8 - xs.length) xs p' s' k (by omega) h1 (by omega) (by omega) (by omega)
            exact ⟨r3, p3, s3, w1, w2, w3, w4, by omega⟩
          · rw [if_neg c3]; exact ⟨_, _, _, rfl, h1, by omega, by (try simp only []); omega, by (try simp only []); omega⟩
  | succ d ih =>
    intro xs p s k e h1 h0 hp hk
    obtain ⟨k, rfl⟩ : ∃ m, k = m + 1 := ⟨k - 1, by omega⟩
    obtain ⟨r, p1, s1, q, a, b, c, dd⟩ := pick_ok hb p s 12 h0 (by omega) (by omega)
    have dd := dd (by omega)
    obtain ⟨r2, p2, s2, q2, a2, b2, c2, _⟩ := pick_ok hb p1 s1 5 (by omega) (by omega) (by omega)
    obtain ⟨r3, p3, s3, q3, a3, b3, c3, _⟩ := pick_ok hb p2 s2 (1 + r + 1) (by omega) (by omega) (by omega)
    simp only [spec_l1Cur_row.l0]
    rw [if_pos (by omega), q, Option.bind_some]
    simp only []
    rw [q2, Option.bind_some]
    simp only []
    rw [w64 (x := 1 + r) (by omega) (by omega), w64 (x := 1 + r + 1) (by omega) (by omega), q3, Option.bind_some, if_pos (by omega), w64 (x := ((d + 1 : Nat) : Int) - 1) (by omega) (by omega), show ((d + 1 : Nat) : Int) - 1 = (d : Int) by omega]
    obtain ⟨r4, p4, s4, w1, w2, w3, w4, w5⟩ := ih (xs ++ [(⟨1 + r, r2, r3⟩ : S30)]) p3 s3 k (by simp; omega) (fun _ => by simp) (by omega) (by omega) (by omega)
    exact ⟨r4, p4, s4, w1, w2, w3, w4, by omega⟩
theorem wrow_ok {l : List Int} (hb : Bytes l) (p s n : Int) (h0 : 0 ≤ p) (hp : p ≤ 100000000) (hn : 1 ≤ n ∧ n ≤ 4) (k : Nat) (hk : 1000 < k) :
    ∃ r p' s', spec_l1Cur_row.f k l p s n = some (r, p', s') ∧ 1 ≤ r.length ∧ r.length ≤ 8 ∧ 0 ≤ p' ∧ p' ≤ p + 200 := by
  unfold spec_l1Cur_row.f
  obtain ⟨r, p1, s1, q, a, b, c, dd⟩ := pick_ok hb p s n h0 (by omega) (by omega)
  have dd := dd (by omega)
  rw [q, Option.bind_some]
  simp only []
  rw [w64 (x := 1 + r) (by omega) (by omega)]
  obtain ⟨d, hd⟩ : ∃ d : Nat, 1 + r = (d : Int) := ⟨(1 + r).toNat, by omega⟩
  rw [hd]
  obtain ⟨r4, p4, s4, w1, w2, w3, w4, w5⟩ := wrow_l0 hb d [] p1 s1 k (by simp; omega) (fun z => by omega) (by omega) (by omega) (by omega)
  exact ⟨r4, p4, s4, w1, w2, w3, w4, by omega⟩
set_option maxRecDepth 100000 in
theorem wfl_l0 {l : List Int} (hb : Bytes l) (hi : Int) (hh : 1 ≤ hi ∧ hi ≤ 20) : ∀ (d : Nat) (xs : List Int) (p s : Int) (k : Nat), xs.length + d ≤ 20 → 0 ≤ p → p ≤ 100000000 - 10 * (d : Int) → d < k →
    ∃ r p' s', spec_l1Cur_flows.l0 k xs hi (d : Int) l p s = some (r, p', s') ∧ r.length ≤ 62 ∧ 0 ≤ p' := by
  intro d
  induction d with
  | zero =>
    intro xs p s k e h0 hp hk
    obtain ⟨k, rfl⟩ : ∃ m, k = m + 1 := ⟨k - 1, by omega⟩
    simp only [Int.natCast_zero, Int.ofNat_zero] at *
    obtain ⟨r, p', s', q, a, b, c, dd⟩ := pick_ok hb p s 16 h0 (by omega) (by omega)
    simp only [spec_l1Cur_flows.l0]
    rw [if_neg (by omega), q, Option.bind_some]
    simp only []
    by_cases c0 : r = 0
    · rw [if_pos c0]
      obtain ⟨x, p2, s2, q2, a2, b2, _⟩ := among_ok hb p' s' [(-1), 1000, 1001, 4611686018427387904] (by omega) (by omega) (by simp) (by simp)
      rw [q2, Option.bind_some, if_pos (by omega)]
      exact ⟨_, _, _, rfl, by simp; omega, by (try simp only []); omega⟩
    · rw [if_neg c0]
      by_cases c1 : r = 1
      · rw [if_pos c1]
        obtain ⟨x, p2, s2, q2, a2, b2, c2, d2⟩ := pick_ok hb p' s' 2 (by omega) (by omega) (by omega)
        have d2 := d2 (by omega)
        rw [q2, Option.bind_some]
        simp only []
        rw [w64 (x := 60 + x) (by omega) (by omega), if_pos (by omega), if_pos (by omega)]
        exact ⟨_, _, _, rfl, by simp; omega, by (try simp only []); omega⟩
      · rw [if_neg c1]; exact ⟨_, _, _, rfl, by omega, by (try simp only []); omega⟩
  | succ d ih =>
    intro xs p s k e h0 hp hk
    obtain ⟨k, rfl⟩ : ∃ m, k = m + 1 := ⟨k - 1, by omega⟩
    obtain ⟨b1, p1, s1, q, a, b⟩ := one_ok hb p s 3 h0 (by omega) (by omega)
    simp only [spec_l1Cur_flows.l0]
    rw [if_pos (by omega), q, Option.bind_some, w64 (x := ((d + 1 : Nat) : Int) - 1) (by omega) (by omega), show ((d + 1 : Nat) : Int) - 1 = (d : Int) by omega]
    simp only []
    cases b1 with
    | true =>
      rw [if_pos rfl, if_pos (by omega)]
      exact ih _ _ _ k (by simp; omega) (by omega) (by omega) (by omega)
    | false =>
      rw [if_neg (by simp), w64 (x := hi + 1) (by omega) (by omega)]
      obtain ⟨x, p2, s2, q2, a2, b2, _⟩ := pick_ok hb p1 s1 (hi + 1) (by omega) (by omega) (by omega)
      rw [q2, Option.bind_some, if_pos (by omega)]
      exact ih _ _ _ k (by simp; omega) (by (try simp only []); omega) (by (try simp only []); omega) (by omega)
theorem wfl_ok {l : List Int} (hb : Bytes l) (p s : Int) (h0 : 0 ≤ p) (hp : p ≤ 20000000) (k : Nat) (hk : 1000 < k) : ∃ r p' s', spec_l1Cur_flows.f k l p s = some (r, p', s') ∧ r.length ≤ 62 ∧ 0 ≤ p' := by
  unfold spec_l1Cur_flows.f
  obtain ⟨r, p1, s1, q, a, b, c, dd⟩ := pick_ok hb p s 9 h0 (by omega) (by omega)
  have dd := dd (by omega)
  rw [q, Option.bind_some]
  simp only []
  obtain ⟨r2, p2, s2, q2, a2, b2, c2, d2⟩ := pick_ok hb p1 s1 12 (by omega) (by omega) (by omega)
  have d2 := d2 (by omega)
  rw [q2, Option.bind_some, w64 (x := 1 + r) (by omega) (by omega)]
  simp only []
  obtain ⟨d, rfl⟩ : ∃ d : Nat, r2 = (d : Int) := ⟨r2.toNat, by omega⟩
  exact wfl_l0 hb (1 + r) (by omega) d [] p2 s2 k (by simp; omega) (by omega) (by omega) (by omega)
end Go.Proofs.Ytflbcikfphfkdaa.PuB
