/- Plain functions and what they come to. -/
import Derived.Test.YtflbcikfphfkdaaQbPuWB
namespace Go.Proofs.Ytflbcikfphfkdaa.PuB
open Go.RowKit Go.Proofs.Ytflbcikfphfkdaa.R Go.Proofs.YtflbcikfphfkdaaW.PrintLast Go.Proofs.YtflbcikfphfkdaaW.PrintMore
open Go.Proofs.YtflbcikfphfkdaaW.PrintWords hiding Ev
set_option linter.unusedVariables false
set_option linter.unusedSimpArgs false
theorem eqB (a b : List S30) (ha : a.length ≤ 1000) : ∀ (r : List S30) (i k : Nat), a.length = b.length → a.drop i = r → r.length < k → impl_Basin_59.l0 k a b (a.length : Int) (i : Int) = some (decide (r = b.drop i))
  | r, i, 0, _, _, hk => by omega
  | [], i, k + 1, hl, e, _ => by
    have q := dropn e
    have : b.drop i = [] := List.drop_of_length_le (by omega)
    simp only [impl_Basin_59.l0]; rw [if_neg (by omega), this]; simp
  | x :: r, i, k + 1, hl, e, hk => by
    obtain ⟨e1, e2, e3⟩ := dropc e
    have e' : b.drop i = b[i]'(by omega) :: b.drop (i + 1) := List.drop_eq_getElem_cons (by omega)
    obtain ⟨d1, d2, d3⟩ := dropc e'
    simp only [impl_Basin_59.l0]
    rw [if_pos (by omega), if_pos (by omega), if_pos (by omega), if_pos (by omega), rdT_nat, rdT_nat, e2, d2, nx1 i (by omega), eqB a b ha r (i + 1) k hl e3 (by simpa using hk), e']
    generalize b[i] = c
    obtain ⟨b0, b1, b2⟩ := x
    obtain ⟨c0, c1, c2⟩ := c
    by_cases q : b0 = c0 ∧ b1 = c1 ∧ b2 = c2
    · obtain ⟨rfl, rfl, rfl⟩ := q
      rw [if_neg (by simp)]; congr 1
      exact decide_eq_decide.mpr ⟨fun h => by rw [h], fun h => by injection h⟩
    · rw [if_pos (by
        simp only [Bool.or_eq_true, Bool.not_eq_true', beq_eq_false_iff_ne, ne_eq]
        by_cases q0 : b0 = c0
        · by_cases q1 : b1 = c1
          · exact .inr (.inr (fun q2 => q ⟨q0, q1, q2⟩))
          · exact .inr (.inl q1)
        · exact .inl q0)]
      congr 1
      exact (decide_eq_false (fun h => by injection h with h1 _; injection h1 with a b c; exact q ⟨a, b, c⟩)).symm
theorem eqB_f (k : Nat) (a b : List S30) (ha : a.length ≤ 1000) (hl : a.length = b.length) (hk : 1000 < k) : impl_Basin_59.f k a b = some (decide (a = b)) := by
  unfold impl_Basin_59.f
  rw [if_pos (by omega)]
  have := eqB a b ha a 0 k hl rfl (by omega)
  simpa using this
theorem heldsI (row : List S30) (hr : row.length ≤ 1000) : ∀ (r : List S30) (a : List Int) (i k : Nat), row.drop i = r → a.length ≤ i → r.length < k → impl_SteadyHeld.l1 k a row (row.length : Int) (i : Int) = some (a ++ r.map (·.f2), true)
  | r, a, i, 0, _, _, hk => by omega
  | [], a, i, k + 1, e, _, _ => by
    have := dropn e
    simp only [impl_SteadyHeld.l1]; rw [if_neg (by omega)]; simp
  | b :: r, a, i, k + 1, e, ha, hk => by
    obtain ⟨e1, e2, e3⟩ := dropc e
    simp only [impl_SteadyHeld.l1]
    rw [if_pos (by omega), if_pos (by omega), if_pos (by omega), if_pos (by omega), rdT_nat, e2, nx1 i (by omega), heldsI row hr r _ (i + 1) k e3 (by simp; omega) (by simpa using hk)]
    simp
theorem heldsS (row : List S30) (hr : row.length ≤ 1000) : ∀ (r : List S30) (a : List Int) (i k : Nat), row.drop i = r → a.length ≤ i → r.length < k → spec_SteadyHeld.l2 k a row (row.length : Int) (i : Int) = some (a ++ r.map (·.f2), true)
  | r, a, i, 0, _, _, hk => by omega
  | [], a, i, k + 1, e, _, _ => by
    have := dropn e
    simp only [spec_SteadyHeld.l2]; rw [if_neg (by omega)]; simp
  | b :: r, a, i, k + 1, e, ha, hk => by
    obtain ⟨e1, e2, e3⟩ := dropc e
    simp only [spec_SteadyHeld.l2]
    rw [if_pos (by omega), if_pos (by omega), if_pos (by omega), if_pos (by omega), rdT_nat, e2, nx1 i (by omega), heldsS row hr r _ (i + 1) k e3 (by simp; omega) (by simpa using hk)]
    simp
theorem chgS (row : List S30) (f : Int) (nx : List S30) (hl : nx.length ≤ 1000) (hr : row.length = nx.length) : ∀ (r : List S30) (s v : Bool) (i k : Nat), (s || !(decide (r = row.drop i))) = v → nx.drop i = r → r.length < k → spec_SteadyHeld.l1 k row f s nx nx (nx.length : Int) (i : Int) = spec_SteadyHeld.l0 (k - r.length - 1) nx f v
  | r, s, v, i, 0, _, _, hk => by omega
  | [], s, v, i, k + 1, hv, e, _ => by
    have q := dropn e
    have : row.drop i = [] := List.drop_of_length_le (by omega)
    rw [this] at hv
    simp only [spec_SteadyHeld.l1]; rw [if_neg (by omega), ← hv]; simp
  | b :: r, s, v, i, k + 1, hv, e, hk => by
    obtain ⟨e1, e2, e3⟩ := dropc e
    have e' : row.drop i = row[i]'(by omega) :: row.drop (i + 1) := List.drop_eq_getElem_cons (by omega)
    obtain ⟨d1, d2, d3⟩ := dropc e'
    have ih := fun s hv => chgS row f nx hl hr r s v (i + 1) k hv e3 (by simpa using hk)
    have ek : k + 1 - (b :: r).length - 1 = k - r.length - 1 := by simp
    simp only [spec_SteadyHeld.l1]
    rw [if_pos (by omega), if_pos (by omega), if_pos (by omega), nx1 i (by omega), ek]
    cases s with
    | true => rw [if_pos rfl]; exact ih true (by rw [← hv]; simp)
    | false =>
      rw [if_neg (by simp), if_pos (by omega), rdT_nat, rdT_nat, e2, d2]
      refine ih _ ?_
      rw [← hv, e']
      generalize row[i] = c
      obtain ⟨b0, b1, b2⟩ := b
      obtain ⟨c0, c1, c2⟩ := c
      have : decide ((⟨b0, b1, b2⟩ : S30) :: r = ⟨c0, c1, c2⟩ :: row.drop (i + 1)) = (b0 == c0 && (b1 == c1 && (b2 == c2)) && decide (r = row.drop (i + 1))) := by
        refine Bool.eq_iff_iff.mpr ?_
        simp only [Bool.and_eq_true, beq_iff_eq, decide_eq_true_eq, List.cons.injEq, S30.mk.injEq]
      rw [this]
      simp only [Bool.not_and, Bool.false_or]
/-- behind n ticks, and no fewer, the row R rests -/
def Rst (f : Int) : Nat → List S30 → List S30 → Prop
  | 0, row, R => (tkR row f).1 = row ∧ R = row
  | n + 1, row, R => (tkR row f).1 ≠ row ∧ Rst f n (tkR row f).1 R
theorem rst_ex (f : Int) : ∀ (N : Nat) (row : List S30), (tkR (endR row (List.replicate N f)) f).1 = endR row (List.replicate N f) → ∃ n R, Rst f n row R
  | N, row, e => by
    by_cases q : (tkR row f).1 = row
    · exact ⟨0, row, q, rfl⟩
    · match N with
      | 0 => exact absurd e q
      | N + 1 =>
        rw [List.replicate_succ] at e
        obtain ⟨n, R, h⟩ := rst_ex f N _ e
        exact ⟨n + 1, R, q, h⟩
theorem rst_ok (f : Int) (h0 : 0 ≤ f) : ∀ (n : Nat) (row R : List S30), ROk row → Rst f n row R → ROk R ∧ (tkR R f).1 = R ∧ R.length = row.length ∧ R.map (fun b => (b.f0, b.f1)) = row.map (fun b => (b.f0, b.f1))
  | 0, row, R, h, e => by obtain ⟨e1, rfl⟩ := e; exact ⟨h, e1, rfl, rfl⟩
  | n + 1, row, R, h, e => by
    have t := tkR_ok row f h.2 h0
    obtain ⟨a, b, c, d⟩ := rst_ok f h0 n _ R (tick_row h h0) e.2
    refine ⟨a, b, by rw [c, t.2.1], ?_⟩
    rw [d]
    have : ∀ (r : List S30) (g : Int), (tkR r g).1.map (fun b => (b.f0, b.f1)) = r.map (fun b => (b.f0, b.f1)) := by
      intro r
      induction r with
      | nil => intro g; rfl
      | cons b r ih => intro g; simp only [tkR, List.map_cons, ih]; rfl
    exact this row f
theorem steadyI (f : Int) (hf : 0 ≤ f ∧ f ≤ 1000) : ∀ (n : Nat) (row R : List S30) (k : Nat), ROk row → Rst f n row R → n + 1500 < k → impl_SteadyHeld.l0 k row f = some (R.map (·.f2), true)
  | n, row, R, 0, _, _, hk => by omega
  | n, row, R, k + 1, h, e, hk => by
    have hh := hldb h.2 h.1.2
    have h6 := h.1.2
    have t := tkR_ok row f h.2 hf.1
    simp only [impl_SteadyHeld.l0]
    rw [tick_impl k row f (by omega) h.2 hf.1 (by omega) (by omega), Option.bind_some, eqB_f k _ row (by rw [t.2.1]; omega) t.2.1 (by omega), Option.bind_some]
    match n, e with
    | 0, e =>
      obtain ⟨e1, rfl⟩ := e
      rw [if_pos (decide_eq_true e1)]
      have := heldsI R (by omega) R [] 0 k rfl (by simp) (by omega)
      simpa using this
    | n + 1, e =>
      rw [if_neg (by simp only [decide_eq_true_eq]; exact e.1)]
      exact steadyI f hf n _ R k (tick_row h hf.1) e.2 (by omega)
theorem steadyS (f : Int) (hf : 0 ≤ f ∧ f ≤ 1000) : ∀ (n : Nat) (row R : List S30) (k : Nat), ROk row → Rst f n row R → 10 * n + 1500 < k → spec_SteadyHeld.l0 k row f true = some (R.map (·.f2), true)
  | n, row, R, 0, _, _, hk => by omega
  | n, row, R, k + 1, h, e, hk => by
    have hh := hldb h.2 h.1.2
    have h6 := h.1.2
    have t := tkR_ok row f h.2 hf.1
    simp only [spec_SteadyHeld.l0]
    rw [if_pos trivial, tick_spec k row f (by omega) h.2 hf.1 (by omega) (by omega), Option.bind_some]
    refine (chgS row f (tkR row f).1 (by rw [t.2.1]; omega) t.2.1.symm (tkR row f).1 false (!(decide ((tkR row f).1 = row))) 0 k (by simp) rfl (by rw [t.2.1]; omega)).trans ?_
    have ek : ∃ m, k - (tkR row f).1.length - 1 = m + 1 ∧ 1400 + 10 * (n - 1) < m := ⟨k - (tkR row f).1.length - 2, by rw [t.2.1]; omega, by rw [t.2.1]; omega⟩
    match n, e with
    | 0, e =>
      obtain ⟨e1, rfl⟩ := e
      obtain ⟨m, em, hm⟩ := ek
      rw [em, e1, decide_eq_true rfl]
      simp only [spec_SteadyHeld.l0, Bool.not_true, Bool.false_eq_true, if_false]
      have := heldsS R (by omega) R [] 0 m rfl (by simp) (by omega)
      simpa using this
    | n + 1, e =>
      rw [decide_eq_false e.1]
      exact steadyS f hf n _ R _ (tick_row h hf.1) e.2 (by rw [t.2.1]; omega)
/-- what the resting amounts are -/
def Std (row : List S30) (f : Int) (n : Nat) (r : List Int × Bool) : Prop := (¬ (ROk row ∧ (0 ≤ f ∧ f ≤ 1000)) ∧ r = ([], false)) ∨ (ROk row ∧ (0 ≤ f ∧ f ≤ 1000) ∧ ∃ R, Rst f n row R ∧ r = (R.map (·.f2), true))
theorem std_ex (row : List S30) (f : Int) : ∃ n r, Std row f n r := by
  by_cases h : ROk row ∧ (0 ≤ f ∧ f ≤ 1000)
  · obtain ⟨N, e⟩ := rest_row row.length row f rfl h.1.2 h.2.1
    obtain ⟨n, R, q⟩ := rst_ex f N row e
    exact ⟨n, _, .inr ⟨h.1, h.2, R, q, rfl⟩⟩
  · exact ⟨0, _, .inl ⟨h, rfl⟩⟩
theorem StdI {row : List S30} {f : Int} {n : Nat} {r : List Int × Bool} (t : Std row f n r) (k : Nat) (hk : n + 2000 < k) : impl_SteadyHeld.f k row f = some r := by
  obtain ⟨k, rfl⟩ : ∃ m, k = m + 1 := ⟨k - 1, by omega⟩
  unfold impl_SteadyHeld.f
  rw [row_impl, Option.bind_some]
  rcases t with ⟨h, rfl⟩ | ⟨h, g, R, q, rfl⟩
  · by_cases h1 : ROk row
    · rw [if_pos (decide_eq_true h1), in_impl, Option.bind_some, decide_eq_false (fun g => h ⟨h1, g⟩)]
      simp only [impl_SteadyHeld.j0, Bool.not_false, if_true]
    · rw [if_neg (by simp only [decide_eq_true_eq]; exact h1)]
      simp only [impl_SteadyHeld.j0, if_true]
  · rw [if_pos (decide_eq_true h), in_impl, Option.bind_some, decide_eq_true g]
    simp only [impl_SteadyHeld.j0, Bool.not_true, Bool.false_eq_true, if_false]
    exact steadyI f g n row R k h q (by omega)
theorem StdS {row : List S30} {f : Int} {n : Nat} {r : List Int × Bool} (t : Std row f n r) (hr : row.length ≤ 1000) (k : Nat) (hk : 10 * n + 2000 < k) : spec_SteadyHeld.f k row f = some r := by
  obtain ⟨k, rfl⟩ : ∃ m, k = m + 1 := ⟨k - 1, by omega⟩
  unfold spec_SteadyHeld.f
  rw [row_spec (k + 1) row hr (by omega), Option.bind_some]
  rcases t with ⟨h, rfl⟩ | ⟨h, g, R, q, rfl⟩
  · by_cases h1 : ROk row
    · rw [if_pos (decide_eq_true h1), in_spec, Option.bind_some, decide_eq_false (fun g => h ⟨h1, g⟩)]
      simp only [spec_SteadyHeld.j0, Bool.not_false, if_true]
    · rw [if_neg (by simp only [decide_eq_true_eq]; exact h1)]
      simp only [spec_SteadyHeld.j0, if_true]
  · rw [if_pos (decide_eq_true h), in_spec, Option.bind_some, decide_eq_true g]
    simp only [spec_SteadyHeld.j0, Bool.not_true, Bool.false_eq_true, if_false]
    exact steadyS f g n row R k h q (by omega)
end Go.Proofs.Ytflbcikfphfkdaa.PuB
