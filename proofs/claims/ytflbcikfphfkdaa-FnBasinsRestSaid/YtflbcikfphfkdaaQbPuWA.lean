/- Plain functions and what they come to. -/
import Derived.Test.YtflbcikfphfkdaaQbPuW7
namespace Go.Proofs.Ytflbcikfphfkdaa.PuB
open Go.RowKit Go.Proofs.Ytflbcikfphfkdaa.R Go.Proofs.YtflbcikfphfkdaaW.PrintLast Go.Proofs.YtflbcikfphfkdaaW.PrintMore
open Go.Proofs.YtflbcikfphfkdaaW.PrintWords hiding Ev
set_option linter.unusedVariables false
set_option linter.unusedSimpArgs false
/-- no basin without an outlet stands at water, or behind it -/
def ns : Bool → List S30 → Bool
  | _, [] => true
  | w, b :: row => !((w || decide (b.f2 > 0)) && decide (b.f1 = 0)) && ns (w || decide (b.f2 > 0)) row
theorem ns_mono : ∀ row : List S30, ns true row = true → ns false row = true
  | [], _ => rfl
  | b :: row, h => by
    simp only [ns, Bool.true_or, Bool.true_and, Bool.and_eq_true, Bool.not_eq_true', decide_eq_false_iff_not, Bool.false_or] at h ⊢
    refine ⟨by simp [h.1], ?_⟩
    by_cases c : b.f2 > 0
    · rw [decide_eq_true c]; exact h.2
    · rw [decide_eq_false c]; exact ns_mono row h.2
theorem ns_any {row : List S30} (w : Bool) (h : ns true row = true) : ns w row = true := by
  cases w
  · exact ns_mono row h
  · exact h
/-- what leaves a basin is nothing only if nothing is there or nothing can leave -/
theorem out_pos {b : S30} {f : Int} (h : BOk b) (h0 : 0 ≤ f) (hp : b.f2 + f > 0) (ho : b.f1 ≠ 0) : spB b f + rnB b f > 0 := by
  obtain ⟨a, c, d⟩ := h
  unfold rnB spB; split <;> split <;> omega
theorem stay_pos {b : S30} {f : Int} (h : BOk b) (h0 : 0 ≤ f) (hp : b.f2 + f > 0) (ho : b.f1 = 0) : (nxB b f).f2 > 0 := by
  obtain ⟨a, c, d⟩ := h
  show b.f2 + f - spB b f - rnB b f > 0
  unfold rnB spB; split <;> split <;> omega
theorem dry {b : S30} (h : BOk b) (hp : b.f2 = 0) : spB b 0 = 0 ∧ rnB b 0 = 0 ∧ (nxB b 0).f2 = 0 := by
  obtain ⟨a, c, d⟩ := h
  have s : spB b 0 = 0 := by unfold spB; split <;> omega
  have r : rnB b 0 = 0 := by unfold rnB; rw [s]; split <;> omega
  refine ⟨s, r, ?_⟩
  show b.f2 + 0 - spB b 0 - rnB b 0 = 0
  omega
theorem ns_of_tick : ∀ (row : List S30) (f : Int), AllB row → 0 ≤ f → ns false (tkR row f).1 = true → ns (decide (f > 0)) row = true
  | [], f, _, _, _ => rfl
  | b :: row, f, h, h0, hn => by
    have hb := h b (List.mem_cons_self ..)
    have s := spB_ok hb h0
    have r := rnB_ok hb h0
    have hr : AllB row := fun y hy => h y (List.mem_cons_of_mem _ hy)
    have q := hb.2.2
    simp only [tkR, ns, Bool.false_or, Bool.and_eq_true, Bool.not_eq_true'] at hn
    have e1 : (nxB b f).f1 = b.f1 := rfl
    rw [e1] at hn
    simp only [ns, Bool.and_eq_true, Bool.not_eq_true']
    by_cases c : b.f2 + f > 0
    · have w : (decide (f > 0) || decide (b.f2 > 0)) = true := by
        by_cases c1 : f > 0
        · simp [c1]
        · simp; omega
      rw [w]
      have ho : b.f1 ≠ 0 := by
        intro ho
        have := stay_pos hb h0 c ho
        simp [this, ho] at hn
      refine ⟨by simp [ho], ?_⟩
      have op := out_pos hb h0 c ho
      have i := ns_of_tick row (spB b f + rnB b f) hr (by omega) (by
        by_cases c2 : (nxB b f).f2 > 0
        · rw [decide_eq_true c2] at hn; exact ns_mono _ hn.2
        · rw [decide_eq_false c2] at hn; exact hn.2)
      rw [decide_eq_true op] at i; exact i
    · have hf : f = 0 := by omega
      have hh : b.f2 = 0 := by omega
      subst hf
      have d := dry hb hh
      have i := ns_of_tick row (spB b 0 + rnB b 0) hr (by omega) (by rw [d.2.2] at hn; simpa using hn.2)
      rw [d.1, d.2.1] at i
      rw [hh]; simpa using i
theorem ns_tick : ∀ (row : List S30) (w : Bool) (f : Int), AllB row → 0 ≤ f → (f > 0 → w = true) → ns w row = true → ns w (tkR row f).1 = true
  | [], _, _, _, _, _, _ => rfl
  | b :: row, w, f, h, h0, hw, hn => by
    have hb := h b (List.mem_cons_self ..)
    have s := spB_ok hb h0
    have r := rnB_ok hb h0
    have hr : AllB row := fun y hy => h y (List.mem_cons_of_mem _ hy)
    have q := hb.2.2
    simp only [tkR, ns, Bool.and_eq_true, Bool.not_eq_true'] at hn ⊢
    have e1 : (nxB b f).f1 = b.f1 := rfl
    rw [e1]
    by_cases c : (w || decide (b.f2 > 0)) = true
    · rw [c] at hn
      have ho : b.f1 ≠ 0 := by simpa using hn.1
      refine ⟨by simp [ho], ?_⟩
      exact ns_any _ (ns_tick row true _ hr (by omega) (fun _ => rfl) hn.2)
    · have c' : w = false ∧ ¬ b.f2 > 0 := by simpa using c
      obtain ⟨c1, c2⟩ := c'
      subst c1
      have hf : f = 0 := by
        by_cases z : f > 0
        · exact absurd (hw z) (by simp)
        · omega
      have hh : b.f2 = 0 := by omega
      subst hf
      have d := dry hb hh
      rw [hh] at hn
      rw [d.2.2, d.1, d.2.1]
      refine ⟨by simp, ?_⟩
      have := ns_tick row false (0 + 0) hr (by omega) (fun z => by omega) (by simpa using hn.2)
      simpa using this
theorem ns_iff {row : List S30} (h : AllB row) : ns false (tkR row 0).1 = ns false row := by
  refine Bool.eq_iff_iff.mpr ⟨fun q => by simpa using ns_of_tick row 0 h (by omega) q, fun q => ns_tick row false 0 h (by omega) (fun z => by omega) q⟩
theorem ns_zero : ∀ (row : List S30), AllB row → hld row = 0 → ns false row = true
  | [], _, _ => rfl
  | b :: row, h, h0 => by
    have hb := h b (List.mem_cons_self ..)
    have hr : AllB row := fun y hy => h y (List.mem_cons_of_mem _ hy)
    have l := hld_le row hr
    have q := hb.2.2
    simp only [hld_cons] at h0
    have hh : b.f2 = 0 := by omega
    have i := ns_zero row hr (by omega)
    simp [ns, hh, i]
/-- how far the water is from the end -/
def pt : List S30 → Int
  | [] => 0
  | b :: row => b.f2 * ((row.length : Int) + 1) + pt row
/-- what leaves all basins in a tick -/
def outs : List S30 → Int → Int
  | [], _ => 0
  | b :: row, f => spB b f + rnB b f + outs row (spB b f + rnB b f)
theorem outs_nonneg : ∀ (row : List S30) (f : Int), AllB row → 0 ≤ f → 0 ≤ outs row f
  | [], _, _, _ => Int.le_refl 0
  | b :: row, f, h, h0 => by
    have hb := h b (List.mem_cons_self ..)
    have s := spB_ok hb h0
    have r := rnB_ok hb h0
    have i := outs_nonneg row (spB b f + rnB b f) (fun y hy => h y (List.mem_cons_of_mem _ hy)) (by omega)
    simp only [outs]; omega
theorem pt_nonneg : ∀ (row : List S30), AllB row → 0 ≤ pt row
  | [], _ => Int.le_refl 0
  | b :: row, h => by
    have hb := h b (List.mem_cons_self ..)
    have i := pt_nonneg row (fun y hy => h y (List.mem_cons_of_mem _ hy))
    have m := Int.mul_nonneg hb.2.2.1 (show 0 ≤ (row.length : Int) + 1 by omega)
    simp only [pt]; omega
theorem pt_tick : ∀ (row : List S30) (f : Int), AllB row → 0 ≤ f → pt (tkR row f).1 ≤ pt row + f * (row.length : Int) - outs row f
  | [], f, _, _ => by simp [tkR, pt, outs]
  | b :: row, f, h, h0 => by
    have hb := h b (List.mem_cons_self ..)
    have hr : AllB row := fun y hy => h y (List.mem_cons_of_mem _ hy)
    have s := spB_ok hb h0
    have r := rnB_ok hb h0
    have i := pt_tick row (spB b f + rnB b f) hr (by omega)
    have t := tkR_ok row (spB b f + rnB b f) hr (by omega)
    simp only [tkR, pt, outs, t.2.1, List.length_cons]
    rw [show ((row.length + 1 : Nat) : Int) = (row.length : Int) + 1 by omega]
    show (b.f2 + f - spB b f - rnB b f) * ((row.length : Int) + 1) + _ ≤ _
    generalize spB b f = x at *
    generalize rnB b f = y at *
    generalize (row.length : Int) = m at *
    generalize pt (tkR row (x + y)).1 = p at *
    generalize outs row (x + y) = o at *
    have e1 : (b.f2 + f - x - y) * (m + 1) = b.f2 * (m + 1) + f * (m + 1) - (x + y) * m - (x + y) := by
      simp only [Int.sub_mul, Int.add_mul, Int.mul_add, Int.mul_one]; omega
    rw [e1]
    clear t s r
    omega
/-- in a row that can run empty some water leaves a basin, as long as there is any -/
theorem outs_pos : ∀ (row : List S30) (w : Bool), AllB row → ns w row = true → hld row > 0 → outs row 0 > 0
  | [], _, _, _, h => by simp at h
  | b :: row, w, h, hn, h0 => by
    have hb := h b (List.mem_cons_self ..)
    have hr : AllB row := fun y hy => h y (List.mem_cons_of_mem _ hy)
    have s := spB_ok hb (Int.le_refl 0)
    have r := rnB_ok hb (Int.le_refl 0)
    have o := outs_nonneg row (spB b 0 + rnB b 0) hr (by omega)
    have q := hb.2.2
    simp only [ns, Bool.and_eq_true, Bool.not_eq_true'] at hn
    simp only [outs]
    by_cases c : b.f2 > 0
    · rw [decide_eq_true c] at hn
      have ho : b.f1 ≠ 0 := by simpa using hn.1
      have := out_pos hb (Int.le_refl 0) (by omega) ho
      omega
    · have hh : b.f2 = 0 := by omega
      have d := dry hb hh
      simp only [hld_cons] at h0
      have i := outs_pos row _ hr hn.2 (by omega)
      rw [d.1, d.2.1]; simpa using i
theorem nxB_up {S O f h1 h2 : Int} (h0 : 0 ≤ f) (hS : 1 ≤ S) (hO : 0 ≤ O) (a : 0 ≤ h1) (b : h1 ≤ h2) (c : h2 ≤ S) : (nxB ⟨S, O, h1⟩ f).f2 ≤ (nxB ⟨S, O, h2⟩ f).f2 := by
  show h1 + f - spB ⟨S, O, h1⟩ f - rnB ⟨S, O, h1⟩ f ≤ h2 + f - spB ⟨S, O, h2⟩ f - rnB ⟨S, O, h2⟩ f
  unfold rnB spB
  simp only []
  split <;> split <;> split <;> split <;> omega
theorem up_fix {φ : Int → Int} {S : Int} (mono : ∀ x y, 0 ≤ x → x ≤ y → y ≤ S → φ x ≤ φ y) (bd : ∀ x, 0 ≤ x → x ≤ S → 0 ≤ φ x ∧ φ x ≤ S) : ∀ (n : Nat) (h : Int), 0 ≤ h → h ≤ S → h ≤ φ h → S - h ≤ n → ∃ N, φ (Nat.repeat φ N h) = Nat.repeat φ N h
  | n, h, a, b, c, d => by
    by_cases e : φ h = h
    · exact ⟨0, e⟩
    · have := bd h a b
      match n with
      | 0 => omega
      | n + 1 =>
        obtain ⟨N, hN⟩ := up_fix mono bd n (φ h) (by omega) (by omega) (mono h (φ h) a c (by omega)) (by omega)
        have e2 : ∀ m x, Nat.repeat φ m (φ x) = Nat.repeat φ (m + 1) x := by
          intro m x
          induction m with
          | zero => rfl
          | succ m ih => show φ (Nat.repeat φ m (φ x)) = φ (Nat.repeat φ (m + 1) x); rw [ih]
        exact ⟨N + 1, by rw [← e2]; exact hN⟩
theorem down_fix {φ : Int → Int} {S : Int} (mono : ∀ x y, 0 ≤ x → x ≤ y → y ≤ S → φ x ≤ φ y) (bd : ∀ x, 0 ≤ x → x ≤ S → 0 ≤ φ x ∧ φ x ≤ S) : ∀ (n : Nat) (h : Int), 0 ≤ h → h ≤ S → φ h ≤ h → h ≤ n → ∃ N, φ (Nat.repeat φ N h) = Nat.repeat φ N h
  | n, h, a, b, c, d => by
    by_cases e : φ h = h
    · exact ⟨0, e⟩
    · have := bd h a b
      match n with
      | 0 => omega
      | n + 1 =>
        obtain ⟨N, hN⟩ := down_fix mono bd n (φ h) (by omega) (by omega) (mono (φ h) h (by omega) c b) (by omega)
        have e2 : ∀ m x, Nat.repeat φ m (φ x) = Nat.repeat φ (m + 1) x := by
          intro m x
          induction m with
          | zero => rfl
          | succ m ih => show φ (Nat.repeat φ m (φ x)) = φ (Nat.repeat φ (m + 1) x); rw [ih]
        exact ⟨N + 1, by rw [← e2]; exact hN⟩
theorem rep_tick (S O f : Int) : ∀ (n : Nat) (h : Int), endR [⟨S, O, h⟩] (List.replicate n f) = [⟨S, O, Nat.repeat (fun x => (nxB ⟨S, O, x⟩ f).f2) n h⟩] := by
  have st : ∀ h, (tkR [(⟨S, O, h⟩ : S30)] f).1 = [⟨S, O, (nxB ⟨S, O, h⟩ f).f2⟩] := fun h => rfl
  intro n
  induction n with
  | zero => intro h; rfl
  | succ n ih =>
    intro h
    rw [List.replicate_succ']
    rw [endR_append, ih h]
    rfl
theorem rest1 (b : S30) (f : Int) (h : BOk b) (h0 : 0 ≤ f) : ∃ N, (tkR (endR [b] (List.replicate N f)) f).1 = endR [b] (List.replicate N f) := by
  obtain ⟨S, O, x⟩ := b
  obtain ⟨a, c, d⟩ := h
  simp only [] at a c d
  have mono : ∀ u v, 0 ≤ u → u ≤ v → v ≤ S → (fun x => (nxB ⟨S, O, x⟩ f).f2) u ≤ (fun x => (nxB ⟨S, O, x⟩ f).f2) v := fun u v a1 b1 c1 => nxB_up h0 a.1 c.1 a1 b1 c1
  have bd : ∀ u, 0 ≤ u → u ≤ S → 0 ≤ (fun x => (nxB ⟨S, O, x⟩ f).f2) u ∧ (fun x => (nxB ⟨S, O, x⟩ f).f2) u ≤ S := fun u a1 b1 => (nxB_ok (b := ⟨S, O, u⟩) ⟨a, c, a1, b1⟩ h0).2.2
  have fx : ∃ N, (fun x => (nxB ⟨S, O, x⟩ f).f2) (Nat.repeat (fun x => (nxB ⟨S, O, x⟩ f).f2) N x) = Nat.repeat (fun x => (nxB ⟨S, O, x⟩ f).f2) N x := by
    by_cases q : x ≤ (fun x => (nxB ⟨S, O, x⟩ f).f2) x
    · exact up_fix mono bd S.toNat x d.1 d.2 q (by omega)
    · exact down_fix mono bd x.toNat x d.1 d.2 (Int.le_of_lt (Int.not_le.mp q)) (by omega)
  obtain ⟨N, hN⟩ := fx
  refine ⟨N, ?_⟩
  rw [rep_tick]
  show [(⟨S, O, (nxB ⟨S, O, _⟩ f).f2⟩ : S30)] = _
  exact congrArg (fun z => [(⟨S, O, z⟩ : S30)]) hN
theorem fixed_run : ∀ (n : Nat) (row : List S30) (f : Int), (tkR row f).1 = row → endR row (List.replicate n f) = row ∧ (rnR row (List.replicate n f)).map (·.2.2) = List.replicate n (tkR row f).2.2
  | 0, row, f, _ => ⟨rfl, rfl⟩
  | n + 1, row, f, h => by
    have i := fixed_run n row f h
    rw [List.replicate_succ]
    simp only [endR, rnR, h, List.map_cons]
    exact ⟨i.1, by rw [i.2, List.replicate_succ]⟩
theorem fixed_given {row : List S30} {f : Int} (h : AllB row) (h0 : 0 ≤ f) (e : (tkR row f).1 = row) : (tkR row f).2.2 = f := by
  have t := (tkR_ok row f h h0).2.2.2.2.2
  rw [e] at t; omega
theorem given_all : ∀ (l : List Int) (row : List S30), AllB row → (∀ x ∈ l, 0 ≤ x) → AllB (endR row l) ∧ ∀ x ∈ (rnR row l).map (·.2.2), 0 ≤ x
  | [], row, h, _ => ⟨h, by simp [rnR]⟩
  | f :: l, row, h, hl => by
    have t := tkR_ok row f h (hl f (List.mem_cons_self ..))
    have i := given_all l _ t.1 (fun x hx => hl x (List.mem_cons_of_mem _ hx))
    refine ⟨i.1, fun x hx => ?_⟩
    simp only [rnR, List.map_cons] at hx
    rcases List.mem_cons.mp hx with e | e
    · subst e; exact t.2.2.2.2.1
    · exact i.2 x e
theorem endR_len : ∀ (l : List Int) (row : List S30), AllB row → (∀ x ∈ l, 0 ≤ x) → (endR row l).length = row.length
  | [], _, _, _ => rfl
  | f :: l, row, h, hl => by
    have t := tkR_ok row f h (hl f (List.mem_cons_self ..))
    have i := endR_len l _ t.1 (fun x hx => hl x (List.mem_cons_of_mem _ hx))
    simp only [endR]; rw [i, t.2.1]
theorem rest_row : ∀ (n : Nat) (row : List S30) (f : Int), row.length = n → AllB row → 0 ≤ f → ∃ N, (tkR (endR row (List.replicate N f)) f).1 = endR row (List.replicate N f)
  | 0, row, f, hn, _, _ => ⟨0, by have : row = [] := List.length_eq_zero_iff.mp hn; subst this; rfl⟩
  | n + 1, [], f, hn, _, _ => by simp at hn
  | n + 1, b :: row, f, hn, h, h0 => by
    have hb := h b (List.mem_cons_self ..)
    have hr : AllB row := fun y hy => h y (List.mem_cons_of_mem _ hy)
    have h1 : AllB [b] := fun y hy => by rw [List.mem_singleton.mp hy]; exact hb
    obtain ⟨N1, e1⟩ := rest1 b f hb h0
    have rep0 : ∀ n : Nat, ∀ x ∈ List.replicate n f, 0 ≤ x := fun n x hx => by rw [List.eq_of_mem_replicate hx]; exact h0
    have g1 := given_all (List.replicate N1 f) [b] h1 (rep0 N1)
    have g2 := given_all ((rnR [b] (List.replicate N1 f)).map (·.2.2)) row hr g1.2
    have l2 := endR_len ((rnR [b] (List.replicate N1 f)).map (·.2.2)) row hr g1.2
    have j1 := endR_join (List.replicate N1 f) [b] row
    generalize endR [b] (List.replicate N1 f) = B at e1 g1 j1
    generalize (rnR [b] (List.replicate N1 f)).map (·.2.2) = G at g1 g2 l2 j1
    have fg := fixed_given g1.1 h0 e1
    obtain ⟨N2, e2⟩ := rest_row n (endR row G) f (by rw [l2]; simpa using hn) g2.1 h0
    have fx := fixed_run N2 B f e1
    refine ⟨N1 + N2, ?_⟩
    have e3 : endR (b :: row) (List.replicate (N1 + N2) f) = B ++ endR (endR row G) (List.replicate N2 f) := by
      rw [← List.replicate_append_replicate, endR_append]
      rw [show (b :: row) = [b] ++ row from rfl, j1, endR_join, fx.1, fx.2, fg]
    rw [e3, tkR_append, e1, fg, e2]
def nd (O : Int) : Int → Int → List Int → Int
  | m, _, [] => m
  | m, h, x :: l => nd O (if m < h + x then h + x else m) (if 0 < h + x - O then h + x - O else 0) l
def nsp (O s : Int) : Int → List Int → Prop
  | _, [] => True
  | h, x :: l => h + x ≤ s ∧ nsp O s (if 0 < h + x - O then h + x - O else 0) l
theorem nd_le (O s : Int) : ∀ (l : List Int) (m h : Int), nd O m h l ≤ s ↔ m ≤ s ∧ nsp O s h l
  | [], m, h => by simp [nd, nsp]
  | x :: l, m, h => by
    simp only [nd, nsp]
    rw [nd_le O s l]
    constructor
    · rintro ⟨a, b⟩; refine ⟨?_, ?_, b⟩ <;> (split at a <;> omega)
    · rintro ⟨a, b, c⟩; exact ⟨by split <;> omega, c⟩
theorem nd_ge (O : Int) (l : List Int) (m h : Int) : m ≤ nd O m h l := ((nd_le O (nd O m h l) l m h).mp (Int.le_refl _)).1
/-- what spills of the basin behind the row a -/
theorem sp_at : ∀ (l : List Int) (a : List S30) (b : S30) (c : List S30), (∀ x ∈ l, 0 ≤ x) → AllB a →
    (rnR (a ++ b :: c) l).map (fun t => t.2.1.getD a.length 0) = (rnR [b] ((rnR a l).map (·.2.2))).map (fun t => t.2.1.getD 0 0)
  | [], a, b, c, _, _ => by simp [rnR]
  | f :: l, a, b, c, hl, ha => by
    have t := tkR_ok a f ha (hl f (List.mem_cons_self ..))
    have e : (tkR (a ++ b :: c) f).1 = (tkR a f).1 ++ nxB b (tkR a f).2.2 :: (tkR c (spB b (tkR a f).2.2 + rnB b (tkR a f).2.2)).1 := by rw [tkR_append]; rfl
    have e2 : (tkR (a ++ b :: c) f).2.1 = (tkR a f).2.1 ++ spB b (tkR a f).2.2 :: (tkR c (spB b (tkR a f).2.2 + rnB b (tkR a f).2.2)).2.1 := by rw [tkR_append]; rfl
    simp only [rnR, List.map_cons]
    rw [e, e2]
    have i := sp_at l (tkR a f).1 (nxB b (tkR a f).2.2) (tkR c (spB b (tkR a f).2.2 + rnB b (tkR a f).2.2)).1 (fun x hx => hl x (List.mem_cons_of_mem _ hx)) t.1
    rw [t.2.1] at i
    rw [i]
    congr 1
    rw [List.getD_eq_getElem?_getD, List.getElem?_append_right (by rw [t.2.2.1]; exact Nat.le_refl _), t.2.2.1]
    simp [tkR]
theorem sp_none : ∀ (l : List Int) (s O h : Int), 1 ≤ s → 0 ≤ O → 0 ≤ h → h ≤ s → (∀ x ∈ l, 0 ≤ x) →
    ((∀ x ∈ (rnR [(⟨s, O, h⟩ : S30)] l).map (fun t => t.2.1.getD 0 0), x = 0) ↔ nsp O s h l)
  | [], s, O, h, _, _, _, _, _ => by simp [rnR, nsp]
  | f :: l, s, O, h, hs, hO, h0, h1, hl => by
    have hf := hl f (List.mem_cons_self ..)
    have e : (tkR [(⟨s, O, h⟩ : S30)] f) = ([nxB ⟨s, O, h⟩ f], [spB ⟨s, O, h⟩ f], spB ⟨s, O, h⟩ f + rnB ⟨s, O, h⟩ f) := rfl
    simp only [rnR, List.map_cons, e, List.getD_cons_zero, List.forall_mem_cons, nsp]
    by_cases c : h + f ≤ s
    · have s0 : spB (⟨s, O, h⟩ : S30) f = 0 := by unfold spB; simp only []; rw [if_neg (by omega)]
      have nx : nxB (⟨s, O, h⟩ : S30) f = ⟨s, O, if 0 < h + f - O then h + f - O else 0⟩ := by
        unfold nxB rnB; rw [s0]; simp only []
        congr 1
        split <;> split <;> omega
      rw [nx]
      have i := sp_none l s O (if 0 < h + f - O then h + f - O else 0) hs hO (by split <;> omega) (by split <;> omega) (fun x hx => hl x (List.mem_cons_of_mem _ hx))
      rw [i]
      exact ⟨fun q => ⟨c, q.2⟩, fun q => ⟨s0, q.2⟩⟩
    · have s1 : spB (⟨s, O, h⟩ : S30) f ≠ 0 := by unfold spB; simp only []; rw [if_pos (by omega)]; omega
      exact ⟨fun q => absurd q.1 s1, fun q => absurd q.1 c⟩
end Go.Proofs.Ytflbcikfphfkdaa.PuB
