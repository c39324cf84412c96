/- Plain functions and what they come to. -/
import Derived.Test.YtflbcikfphfkdaaQbPuWA
import Derived.Test.YtflbcikfphfkdaaQbRx8
import Derived.Test.YtflbcikfphfkdaaQbRx9
namespace Go.Proofs.Ytflbcikfphfkdaa.PuB
open Go.RowKit Go.Proofs.Ytflbcikfphfkdaa.R Go.Proofs.YtflbcikfphfkdaaW.PrintLast Go.Proofs.YtflbcikfphfkdaaW.PrintMore
open Go.Proofs.YtflbcikfphfkdaaW.PrintWords hiding Ev
set_option linter.unusedVariables false
set_option linter.unusedSimpArgs false
theorem HeldS' (k : Nat) (row : List S30) (hr : row.length ≤ 1000) (hk : 1000 < k) : spec_HeldInRow.f k row = some (aHeld row) := by
  unfold spec_HeldInRow.f aHeld
  rw [row_spec k row hr hk, Option.bind_some]
  by_cases h : ROk row
  · rw [if_pos (decide_eq_true h), heldS k h.2 h.1.2 hk, Option.bind_some, if_pos h]
  · rw [if_neg (by simp only [decide_eq_true_eq]; exact h), if_neg h]
theorem RowS' (k : Nat) (row : List S30) (hr : row.length ≤ 1000) (hk : 1000 < k) : spec_IsRow.f k row = some (decide (ROk row)) := by
  unfold spec_IsRow.f
  rw [row_spec k row hr hk, Option.bind_some]
theorem TickS' (k : Nat) (row : List S30) (f : Int) (hr : row.length ≤ 1000) (hk : 1000 < k) : spec_TickRow.f k row f = some (aTick row f) := by
  unfold spec_TickRow.f aTick
  rw [row_spec k row hr hk, Option.bind_some]
  by_cases h : ROk row
  · rw [if_pos (decide_eq_true h), in_spec, Option.bind_some]
    by_cases g : 0 ≤ f ∧ f ≤ 1000
    · have := hldb h.2 h.1.2
      have := h.1.2
      rw [if_pos (decide_eq_true g), tick_spec k row f (by omega) h.2 g.1 (by omega) hk, Option.bind_some, if_pos ⟨h, g⟩]
    · rw [if_neg (by simp only [decide_eq_true_eq]; exact g), if_neg (fun q => g q.2)]
  · rw [if_neg (by simp only [decide_eq_true_eq]; exact h), if_neg (fun q => h q.1)]
/-- n ticks without flow, and no fewer, until all is empty -/
def Emp : List S30 → Nat → Prop
  | row, 0 => hld row = 0
  | row, n + 1 => hld row > 0 ∧ Emp (tkR row 0).1 n
theorem tick_row {row : List S30} {f : Int} (h : ROk row) (h0 : 0 ≤ f) : ROk (tkR row f).1 := by
  have t := tkR_ok row f h.2 h0
  exact ⟨by rw [t.2.1]; exact h.1, t.1⟩
theorem ptb {row : List S30} (h : ROk row) : pt row ≤ 60000 := by
  have : ∀ (r : List S30), AllB r → r.length ≤ 6 → pt r ≤ 10000 * (r.length : Int) := by
    intro r
    induction r with
    | nil => intro _ _; simp [pt]
    | cons b r ih =>
      intro hb hn
      have q := hb b (List.mem_cons_self ..)
      have i := ih (fun y hy => hb y (List.mem_cons_of_mem _ hy)) (by simp at hn; omega)
      simp only [pt, List.length_cons] at hn ⊢
      have m := Int.mul_le_mul (show b.f2 ≤ 1000 by have := q.1; have := q.2.2; omega) (show (r.length : Int) + 1 ≤ 6 by omega) (by omega) (by omega)
      have : ((r.length + 1 : Nat) : Int) = (r.length : Int) + 1 := by simp
      omega
  have q := this row h.2 h.1.2
  have := h.1.2
  omega
theorem emp_ex : ∀ (N : Nat) (row : List S30), ROk row → ns false row = true → pt row ≤ (N : Int) → ∃ n, n ≤ N ∧ Emp row n
  | N, row, h, hn, hp => by
    have hh := (hldb h.2 h.1.2).1
    by_cases z : hld row = 0
    · exact ⟨0, Nat.zero_le _, z⟩
    · have o := outs_pos row false h.2 hn (by omega)
      have p := pt_tick row 0 h.2 (by omega)
      have p0 := pt_nonneg _ (tick_row h (Int.le_refl 0)).2
      match N with
      | 0 => omega
      | N + 1 =>
        obtain ⟨n, hn1, hn2⟩ := emp_ex N (tkR row 0).1 (tick_row h (Int.le_refl 0)) (ns_tick row false 0 h.2 (by omega) (fun q => by omega) hn) (by omega)
        exact ⟨n + 1, by omega, by omega, hn2⟩
theorem emp_run : ∀ (n : Nat) (row : List S30), Emp row n → hld (endR row (List.replicate n 0)) = 0 ∧ (∀ m, m < n → hld (endR row (List.replicate m 0)) > 0)
  | 0, row, h => ⟨h, fun m hm => by omega⟩
  | n + 1, row, h => by
    have i := emp_run n _ h.2
    refine ⟨by rw [List.replicate_succ]; exact i.1, fun m hm => ?_⟩
    match m with
    | 0 => exact h.1
    | m + 1 => rw [List.replicate_succ]; exact i.2 m (by omega)
theorem empI : ∀ (n : Nat) (row : List S30) (x : Int) (k : Nat), ROk row → Emp row n → 0 ≤ x → x + n ≤ 1000000 → n + 1500 < k → impl_TicksToEmpty.l1 k row x = some (x + n, true)
  | n, row, x, 0, _, _, _, _, hk => by omega
  | 0, row, x, k + 1, h, e, h0, h1, hk => by
    have e : hld row = 0 := e
    simp only [impl_TicksToEmpty.l1]
    rw [heldI k h.2 h.1.2 (by omega), Option.bind_some, if_neg (by omega)]; simp
  | n + 1, row, x, k + 1, h, e, h0, h1, hk => by
    have hh := hldb h.2 h.1.2
    have h6 := h.1.2
    simp only [impl_TicksToEmpty.l1]
    rw [heldI k h.2 h.1.2 (by omega), Option.bind_some, if_pos e.1, tick_impl k row 0 (by omega) h.2 (by omega) (by omega) (by omega), Option.bind_some, w64 (x := x + 1) (by omega) (by omega), empI n _ (x + 1) k (tick_row h (Int.le_refl 0)) e.2 (by omega) (by omega) (by omega)]
    congr 2; omega
theorem stuckI (row0 : List S30) (l : List S30) (hl : l.length ≤ 1000) : ∀ (r : List S30) (w v : Bool) (i k : Nat), ns w r = v → l.drop i = r → AllB r → r.length < k → impl_TicksToEmpty.l0 k row0 w l (l.length : Int) (i : Int) = if v = true then impl_TicksToEmpty.l1 (k - r.length - 1) row0 0 else some (0, false)
  | r, w, v, i, 0, _, _, _, hk => by omega
  | [], w, v, i, k + 1, hv, e, _, _ => by
    have := dropn e
    have : v = true := hv.symm
    subst this
    simp only [impl_TicksToEmpty.l0]; rw [if_neg (by omega)]; simp
  | b :: r, w, v, i, k + 1, hv, e, h, hk => by
    obtain ⟨e1, e2, e3⟩ := dropc e
    have ih := fun w hv => stuckI row0 l hl r w v (i + 1) k hv e3 (fun y hy => h y (List.mem_cons_of_mem _ hy)) (by simpa using hk)
    have ek : k + 1 - (b :: r).length - 1 = k - r.length - 1 := by simp
    simp only [impl_TicksToEmpty.l0]
    rw [if_pos (by omega), if_pos (by omega), if_pos (by omega), rdT_nat, e2, nx1 i (by omega), ek]
    simp only [ns] at hv
    cases w with
    | true =>
      rw [if_pos rfl]
      by_cases c : b.f1 = 0
      · have : v = false := by rw [← hv]; simp [c]
        rw [if_pos c, this, if_neg (by simp)]
      · rw [if_neg c]; exact ih true (by rw [← hv]; simp [c])
    | false =>
      rw [if_neg (by simp)]
      by_cases d : b.f2 > 0
      · rw [if_pos d]
        by_cases c : b.f1 = 0
        · have : v = false := by rw [← hv]; simp [c, d]
          rw [if_pos c, this, if_neg (by simp)]
        · rw [if_neg c, decide_eq_true d]; exact ih true (by rw [← hv]; simp [c, d])
      · rw [if_neg d, decide_eq_false d]; exact ih false (by rw [← hv]; simp [d])
/-- what the number of ticks is -/
def Tks (row : List S30) (r : Int × Bool) : Prop := (¬ ROk row ∧ r = (0, false)) ∨ (ROk row ∧ ns false row = false ∧ r = (0, false)) ∨ (ROk row ∧ ns false row = true ∧ ∃ n : Nat, n ≤ 60000 ∧ Emp row n ∧ r = ((n : Int), true))
theorem tks_ex (row : List S30) : ∃ r, Tks row r := by
  by_cases h : ROk row
  · cases q : ns false row with
    | false => exact ⟨_, .inr (.inl ⟨h, q, rfl⟩)⟩
    | true =>
      obtain ⟨n, hn, he⟩ := emp_ex 60000 row h q (by have := ptb h; omega)
      exact ⟨_, .inr (.inr ⟨h, q, n, hn, he, rfl⟩)⟩
  · exact ⟨_, .inl ⟨h, rfl⟩⟩
theorem TksI {row : List S30} {r : Int × Bool} (t : Tks row r) (hr : row.length ≤ 1000) (k : Nat) (hk : 100000 < k) : impl_TicksToEmpty.f k row = some r := by
  unfold impl_TicksToEmpty.f
  rw [row_impl, Option.bind_some]
  rcases t with ⟨h, rfl⟩ | ⟨h, q, rfl⟩ | ⟨h, q, n, hn, he, rfl⟩
  · rw [if_neg (by simp only [decide_eq_true_eq]; exact h)]
  · rw [if_pos (decide_eq_true h)]
    refine (stuckI row row hr row false false 0 k q rfl h.2 (by omega)).trans ?_
    rw [if_neg (by simp)]
  · rw [if_pos (decide_eq_true h)]
    refine (stuckI row row hr row false true 0 k q rfl h.2 (by omega)).trans ?_
    rw [if_pos rfl, empI n row 0 _ h he (by omega) (by omega) (by omega)]; simp
instance : DecidableEq S30 := fun a b =>
  if h : a.f0 = b.f0 ∧ a.f1 = b.f1 ∧ a.f2 = b.f2 then isTrue (by obtain ⟨a0, a1, a2⟩ := a; obtain ⟨b0, b1, b2⟩ := b; obtain ⟨h0, h1, h2⟩ := h; simp only [] at h0 h1 h2; subst h0; subst h1; subst h2; rfl)
  else isFalse (fun e => h (by subst e; exact ⟨rfl, rfl, rfl⟩))
theorem cmpS (row : List S30) (x : Int) (nx : List S30) (hl : nx.length ≤ 1000) (hr : row.length = nx.length) : ∀ (r : List S30) (s : Bool) (i k : Nat), nx.drop i = r → r.length < k → spec_TicksToEmpty.l1 k row x nx s nx (nx.length : Int) (i : Int) = if (s && decide (r = row.drop i)) = true then some (0, false) else spec_TicksToEmpty.l0 (k - r.length - 1) nx (wrap64 (x + 1))
  | r, s, i, 0, _, hk => by omega
  | [], s, i, k + 1, e, _ => by
    have q := dropn e
    have : row.drop i = [] := List.drop_of_length_le (by omega)
    simp only [spec_TicksToEmpty.l1]; rw [if_neg (by omega), this]; simp
  | b :: r, s, i, k + 1, e, hk => by
    obtain ⟨e1, e2, e3⟩ := dropc e
    have e' : row.drop i = row[i]'(by omega) :: row.drop (i + 1) := List.drop_eq_getElem_cons (by omega)
    obtain ⟨d1, d2, d3⟩ := dropc e'
    have ih := fun s => cmpS row x nx hl hr r s (i + 1) k e3 (by simpa using hk)
    have ek : k + 1 - (b :: r).length - 1 = k - r.length - 1 := by simp
    simp only [spec_TicksToEmpty.l1]
    rw [if_pos (by omega), if_pos (by omega), if_pos (by omega), nx1 i (by omega), ek]
    cases s with
    | false => rw [if_neg (by simp), ih false]; simp
    | true =>
      rw [if_pos rfl, if_pos (by omega), rdT_nat, rdT_nat, e2, d2, ih, e']
      generalize row[i] = c
      obtain ⟨b0, b1, b2⟩ := b
      obtain ⟨c0, c1, c2⟩ := c
      have : (b0 == c0 && (b1 == c1 && b2 == c2) && decide (r = row.drop (i + 1))) = (true && decide ((⟨b0, b1, b2⟩ : S30) :: r = ⟨c0, c1, c2⟩ :: row.drop (i + 1))) := by
        refine Bool.eq_iff_iff.mpr ?_
        simp only [Bool.and_eq_true, beq_iff_eq, decide_eq_true_eq, Bool.true_and, List.cons.injEq, S30.mk.injEq]
      simp only [this]
theorem empS : ∀ (n : Nat) (row : List S30) (x : Int) (k : Nat), ROk row → ns false row = true → Emp row n → 0 ≤ x → x + n ≤ 1000000 → 10 * n + 1500 < k → spec_TicksToEmpty.l0 k row x = some (x + n, true)
  | n, row, x, 0, _, _, _, _, _, hk => by omega
  | 0, row, x, k + 1, h, hn, e, h0, h1, hk => by
    have e : hld row = 0 := e
    simp only [spec_TicksToEmpty.l0]
    rw [heldS k h.2 h.1.2 (by omega), Option.bind_some, if_pos e]; simp
  | n + 1, row, x, k + 1, h, hn, e, h0, h1, hk => by
    have hh := hldb h.2 h.1.2
    have h6 := h.1.2
    have t := tkR_ok row 0 h.2 (Int.le_refl 0)
    have o := outs_pos row false h.2 hn e.1
    have p := pt_tick row 0 h.2 (by omega)
    simp only [spec_TicksToEmpty.l0]
    rw [heldS k h.2 h.1.2 (by omega), Option.bind_some, if_neg (by have := e.1; omega), tick_spec k row 0 (by omega) h.2 (by omega) (by omega) (by omega), Option.bind_some]
    refine (cmpS row x (tkR row 0).1 (by rw [t.2.1]; omega) t.2.1.symm _ true 0 k rfl (by simp [t.2.1]; omega)).trans ?_
    rw [if_neg (by
      simp only [List.drop_zero, Bool.true_and, decide_eq_true_eq]
      intro q; rw [q] at p; simp at p; omega), w64 (x := x + 1) (by omega) (by omega), empS n _ (x + 1) _ (tick_row h (Int.le_refl 0)) (ns_tick row false 0 h.2 (by omega) (fun q => by omega) hn) e.2 (by omega) (by omega) (by simp [t.2.1]; omega)]
    congr 2; omega
theorem stuckS : ∀ (N : Nat) (row : List S30) (x : Int) (k : Nat), ROk row → ns false row = false → (tkR (endR row (List.replicate N 0)) 0).1 = endR row (List.replicate N 0) → 10 * N + 1500 < k → spec_TicksToEmpty.l0 k row x = some (0, false)
  | N, row, x, 0, _, _, _, hk => by omega
  | N, row, x, k + 1, h, hn, e, hk => by
    have hh := hldb h.2 h.1.2
    have h6 := h.1.2
    have t := tkR_ok row 0 h.2 (Int.le_refl 0)
    have hz : hld row ≠ 0 := fun q => by rw [ns_zero row h.2 q] at hn; cases hn
    simp only [spec_TicksToEmpty.l0]
    rw [heldS k h.2 h.1.2 (by omega), Option.bind_some, if_neg hz, tick_spec k row 0 (by omega) h.2 (by omega) (by omega) (by omega), Option.bind_some]
    refine (cmpS row x (tkR row 0).1 (by rw [t.2.1]; omega) t.2.1.symm _ true 0 k rfl (by simp [t.2.1]; omega)).trans ?_
    by_cases q : (tkR row 0).1 = row
    · rw [if_pos (by simp [q])]
    · rw [if_neg (by simpa using q)]
      match N with
      | 0 => exact absurd e q
      | N + 1 =>
        rw [List.replicate_succ] at e
        exact stuckS N _ _ _ (tick_row h (Int.le_refl 0)) (by rw [ns_iff h.2]; exact hn) e (by simp [t.2.1]; omega)
theorem TksS {row : List S30} {r : Int × Bool} (t : Tks row r) (hr : row.length ≤ 1000) : ∃ K, ∀ k, K < k → spec_TicksToEmpty.f k row = some r := by
  rcases t with ⟨h, rfl⟩ | ⟨h, q, rfl⟩ | ⟨h, q, n, hn, he, rfl⟩
  · refine ⟨2000, fun k hk => ?_⟩
    unfold spec_TicksToEmpty.f
    rw [row_spec k row hr (by omega), Option.bind_some, if_neg (by simp only [decide_eq_true_eq]; exact h)]
  · obtain ⟨N, e⟩ := rest_row row.length row 0 rfl h.2 (Int.le_refl 0)
    refine ⟨10 * N + 2000, fun k hk => ?_⟩
    unfold spec_TicksToEmpty.f
    rw [row_spec k row hr (by omega), Option.bind_some, if_pos (decide_eq_true h)]
    exact stuckS N row 0 k h q e (by omega)
  · refine ⟨10 * n + 2000, fun k hk => ?_⟩
    unfold spec_TicksToEmpty.f
    rw [row_spec k row hr (by omega), Option.bind_some, if_pos (decide_eq_true h), empS n row 0 k h q he (by omega) (by omega) (by omega)]; simp
end Go.Proofs.Ytflbcikfphfkdaa.PuB
