/- FnExactPeriodOfScale: what the law's Go functions compute, as plain functions, and that the law holds of them at all arguments. -/
import Derived.Test.YticeepbpgmidlaaYx2
namespace Go.Proofs.Yticeepbpgmidlaa.AuxFnExactPeriodOfScale
open Go.RowKit Go.Proofs.Yticeepbpgmidlaa.Y Go.Proofs.YticeepbpgmidlaaW.PrintWords Go.Proofs.YticeepbpgmidlaaW.PrintLast Go.Proofs.YticeepbpgmidlaaW.PrintMore
set_option linter.unusedVariables false
set_option linter.unusedSimpArgs false
theorem w64 {x : Int} (h0 : -9223372036854775808 ≤ x) (h1 : x ≤ 9223372036854775807) : wrap64 x = x := by
  unfold wrap64; omega
theorem in_spec (a b c : Int) : spec_l1In.f a b c = some (decide (b ≤ a ∧ a ≤ c)) := by
  unfold spec_l1In.f
  by_cases h : a ≥ b
  · rw [if_pos h]; congr 1; simp [show b ≤ a from h]
  · rw [if_neg h]; congr 1; simp [show ¬ b ≤ a from h]
theorem in_impl (a b c : Int) : impl_within.f a b c = some (decide (b ≤ a ∧ a ≤ c)) := by
  unfold impl_within.f
  by_cases h : b ≤ a
  · rw [if_pos h]; congr 1; simp [h]
  · rw [if_neg h]; congr 1; simp [h]
def ScaleOk (l r m : Int) : Prop := (0 ≤ l ∧ l ≤ 60) ∧ (0 ≤ r ∧ r ≤ 60) ∧ 1 ≤ m ∧ m ≤ 1000
instance (l r m : Int) : Decidable (ScaleOk l r m) := by unfold ScaleOk; infer_instance
theorem scale_spec (l r m : Int) : spec_ckScale.f l r m = some (decide (ScaleOk l r m)) := by
  unfold spec_ckScale.f
  simp only [in_spec, Option.bind_some]
  by_cases a : 0 ≤ l ∧ l ≤ 60
  · rw [if_pos (by simpa using a)]
    by_cases b : 0 ≤ r ∧ r ≤ 60
    · rw [if_pos (by simpa using b)]; simp [ScaleOk, a, b]
    · rw [if_neg (by simpa using b)]; simp [ScaleOk, b]
  · rw [if_neg (by simpa using a)]; simp [ScaleOk, a]
theorem scale_impl (l r m : Int) : impl_isScale.f l r m = some (decide (ScaleOk l r m)) := by
  unfold impl_isScale.f
  simp only [in_impl, Option.bind_some]
  by_cases a : 0 ≤ l ∧ l ≤ 60
  · rw [if_pos (by simpa using a)]
    by_cases b : 0 ≤ r ∧ r ≤ 60
    · rw [if_pos (by simpa using b)]; simp [ScaleOk, a, b]
    · rw [if_neg (by simpa using b)]; simp [ScaleOk, b]
  · rw [if_neg (by simpa using a)]; simp [ScaleOk, a]
/-- both pans and the event behind a tick -/
def tk (l r m a b : Int) : Int × Int × Int :=
  if a + l ≥ b + r + m then (0, b + r, 108) else if b + r ≥ a + l + m then (a + l, 0, 114) else (a + l, b + r, 45)
theorem tk_bd (l r m a b B : Int) (h : ScaleOk l r m) (a0 : 0 ≤ a) (a1 : a ≤ B) (b0 : 0 ≤ b) (b1 : b ≤ B) :
    (0 ≤ (tk l r m a b).1 ∧ (tk l r m a b).1 ≤ B + 60) ∧ (0 ≤ (tk l r m a b).2.1 ∧ (tk l r m a b).2.1 ≤ B + 60) := by
  obtain ⟨⟨_, _⟩, ⟨_, _⟩, _, _⟩ := h
  unfold tk
  split
  · simp only; omega
  · split <;> simp only <;> omega
def chOf (e : Int) : ByteArray := if e = 108 then ⟨#[108]⟩ else if e = 114 then ⟨#[114]⟩ else ⟨#[45]⟩
theorem tick_spec (l r m a b : Int) (h : ScaleOk l r m) (a0 : 0 ≤ a) (a1 : a ≤ 1000000) (b0 : 0 ≤ b) (b1 : b ≤ 1000000) :
    spec_ckPans_tick.f a b l r m = some ((tk l r m a b).1, (tk l r m a b).2.1, chOf (tk l r m a b).2.2) := by
  obtain ⟨⟨_, _⟩, ⟨_, _⟩, _, _⟩ := h
  unfold spec_ckPans_tick.f tk
  rw [w64 (x := a + l) (by omega) (by omega), w64 (x := b + r) (by omega) (by omega), w64 (x := b + r + m) (by omega) (by omega), w64 (x := a + l + m) (by omega) (by omega)]
  by_cases c : a + l ≥ b + r + m
  · rw [if_pos c, if_pos c]; rfl
  · rw [if_neg c, if_neg c]
    by_cases d : b + r ≥ a + l + m
    · rw [if_pos d, if_pos d]; rfl
    · rw [if_neg d, if_neg d]; rfl
theorem tip_impl (l r m a b : Int) (h : ScaleOk l r m) (a0 : 0 ≤ a) (a1 : a ≤ 1000000) (b0 : 0 ≤ b) (b1 : b ≤ 1000000) :
    impl_Scale_tip.f l r m a b = some (tk l r m a b) := by
  obtain ⟨⟨_, _⟩, ⟨_, _⟩, _, _⟩ := h
  unfold impl_Scale_tip.f tk
  rw [w64 (x := a + l) (by omega) (by omega), w64 (x := b + r) (by omega) (by omega), w64 (x := a + l - (b + r)) (by omega) (by omega), w64 (x := b + r - (a + l)) (by omega) (by omega)]
  by_cases c : a + l ≥ b + r + m
  · rw [if_pos (by omega), if_pos c]
  · rw [if_neg (by omega), if_neg c]
    by_cases d : b + r ≥ a + l + m
    · rw [if_pos (by omega), if_pos d]
    · rw [if_neg (by omega), if_neg d]
theorem tk_ev (l r m a b : Int) : (tk l r m a b).2.2 = 108 ∨ (tk l r m a b).2.2 = 114 ∨ (tk l r m a b).2.2 = 45 := by
  unfold tk
  split
  · exact Or.inl rfl
  · split
    · exact Or.inr (Or.inl rfl)
    · exact Or.inr (Or.inr rfl)
end Go.Proofs.Yticeepbpgmidlaa.AuxFnExactPeriodOfScale
namespace Go.Proofs.Yticeepbpgmidlaa.Pure
open Go.RowKit Go.Proofs.Yticeepbpgmidlaa.Y Go.Proofs.Yticeepbpgmidlaa.AuxFnExactPeriodOfScale Go.Proofs.YticeepbpgmidlaaW.PrintWords Go.Proofs.YticeepbpgmidlaaW.PrintLast Go.Proofs.YticeepbpgmidlaaW.PrintMore
open Gv in
def mkM : List S85 → Int → List ((Int × Int) × Int)
  | [], _ => []
  | s :: xs, i => ((s.f0, s.f1), i) :: mkM xs (i + 1)
theorem mkM_len : ∀ (xs : List S85) (i : Int), (mkM xs i).length = xs.length
  | [], _ => rfl
  | s :: xs, i => by simp [mkM, mkM_len xs]
theorem mkM_snoc (s : S85) : ∀ (xs : List S85) (i : Int), mkM (xs ++ [s]) i = mkM xs i ++ [((s.f0, s.f1), i + xs.length)]
  | [], i => by simp [mkM]
  | x :: xs, i => by
    simp only [List.cons_append, mkM, mkM_snoc s xs (i + 1), List.length_cons]
    congr 4; omega
/-- What the spec's search answers, said of the map. -/
def ans (o : Option Int) : Int := o.getD (-1)
theorem seen_l (a b : Int) (xs : List S85) (hx : xs.length ≤ 100000) : ∀ (n k : Nat) (i : Nat), i + n = xs.length → n < k → spec_ckSeen.l0 k xs (xs.length : Int) (i : Int) a b = some (ans (Gv.lk (mkM (xs.drop i) i) (a, b))) := by
  intro n
  induction n with
  | zero =>
    intro k i hi hk
    obtain ⟨k, rfl⟩ : ∃ m, k = m + 1 := ⟨k - 1, by omega⟩
    simp only [spec_ckSeen.l0]
    rw [if_neg (by omega), List.drop_eq_nil_of_le (by omega)]; rfl
  | succ n ih =>
    intro k i hi hk
    obtain ⟨k, rfl⟩ : ∃ m, k = m + 1 := ⟨k - 1, by omega⟩
    have hlt : i < xs.length := by omega
    have hr : rd_T85 xs (i : Int) = xs[i] := by simp [rd_T85, List.getD, hlt]
    simp only [spec_ckSeen.l0]
    rw [if_pos (by omega), if_pos (by omega), if_pos (by omega), hr, List.drop_eq_getElem_cons hlt, w64 (by omega) (by omega)]
    simp only [mkM, Gv.lk]
    by_cases e : (xs[i].f0, xs[i].f1) = (a, b)
    · rw [if_pos e, if_pos (by injection e with e1 e2; simp [e1, e2])]; rfl
    · rw [if_neg e, if_neg (by intro h; simp only [Bool.and_eq_true, beq_iff_eq] at h; exact e (by rw [h.1, h.2]))]
      have := ih k (i + 1) (by omega) (by omega)
      exact_mod_cast this
theorem seen_f (a b : Int) (xs : List S85) (hx : xs.length ≤ 100000) (k : Nat) (hk : xs.length < k) : spec_ckSeen.f k xs a b = some (ans (Gv.lk (mkM xs 0) (a, b))) := by
  have := seen_l a b xs hx xs.length k 0 (by omega) hk
  simpa [spec_ckSeen.f] using this
theorem lk_mem (x : Int × Int) (v : Int) : ∀ (xs : List S85) (i : Int), Gv.lk (mkM xs i) x = some v → i ≤ v
  | [], i, h => by simp [mkM, Gv.lk] at h
  | s :: xs, i, h => by
    simp only [mkM, Gv.lk] at h
    split at h
    · injection h with h; omega
    · have := lk_mem x v xs (i + 1) h; omega
theorem wf_of (x : Int) (h : 0 ≤ x) (h2 : x ≤ 1000000) : (Lit.int .i64 x).wf = true := by
  simp only [Lit.wf, IntKind.min, IntKind.max, IntKind.signed, IntKind.bits, Bool.and_eq_true, decide_eq_true_eq, if_true]
  omega
theorem period_both (l r m : Int) (h : ScaleOk l r m) : ∀ (n k : Nat) (xs : List S85) (t a b : Int), 1 ≤ t → t + n = 2001 → n + 2010 ≤ k → xs.length = t.toNat → 0 ≤ a → a ≤ 60 * t → 0 ≤ b → b ≤ 60 * t →
    ∃ q, spec_PeriodOfScale.l0 k xs t l r m a b = some q ∧ impl_PeriodOfScale.l0 k (mkM xs 0) t l r m a b = some q := by
  intro n
  induction n with
  | zero =>
    intro k xs t a b h0 hn hk hx a0 a1 b0 b1
    obtain ⟨k, rfl⟩ : ∃ m, k = m + 1 := ⟨k - 1, by omega⟩
    simp only [spec_PeriodOfScale.l0, impl_PeriodOfScale.l0]
    rw [if_neg (by omega), if_neg (by omega)]; exact ⟨_, rfl, rfl⟩
  | succ n ih =>
    intro k xs t a b h0 hn hk hx a0 a1 b0 b1
    obtain ⟨k, rfl⟩ : ∃ m, k = m + 1 := ⟨k - 1, by omega⟩
    have hb := tk_bd l r m a b (60 * t) h a0 a1 b0 b1
    simp only [spec_PeriodOfScale.l0, impl_PeriodOfScale.l0]
    rw [if_pos (by omega), if_pos (by omega), tick_spec l r m a b h a0 (by omega) b0 (by omega), tip_impl l r m a b h a0 (by omega) b0 (by omega)]
    simp only [Option.bind_some]
    generalize (tk l r m a b).1 = p at *
    generalize (tk l r m a b).2.1 = q at *
    rw [if_pos (wf_of p (by omega) (by omega)), if_pos (wf_of q (by omega) (by omega)), seen_f p q xs (by omega) k (by omega)]
    simp only [Option.bind_some]
    cases hl : Gv.lk (mkM xs 0) (p, q) with
    | some v =>
      have := lk_mem _ _ _ _ hl
      rw [if_pos (show ans (some v) ≥ 0 from this)]
      exact ⟨(t, v, true), rfl, rfl⟩
    | none =>
      rw [if_neg (show ¬ ans none ≥ 0 by decide), if_pos (by omega), if_neg (by simp), w64 (by omega) (by omega)]
      have := ih k (xs ++ [⟨p, q⟩]) (t + 1) p q (by omega) (by omega) (by omega) (by simp; omega) (by omega) (by omega) (by omega) (by omega)
      rw [mkM_snoc, show (0 : Int) + (xs.length : Int) = t by omega] at this
      exact this
theorem FnExactPeriodOfScale (l r m : Int) (_ : (Lit.int .i64 l).wf = true) (_ : (Lit.int .i64 r).wf = true) (_ : (Lit.int .i64 m).wf = true) : ∃ k, laws_FnExactPeriodOfScale.f k l r m = some true := by
  refine ⟨5000, ?_⟩
  unfold laws_FnExactPeriodOfScale.f laws_toScale.f spec_PeriodOfScale.f impl_PeriodOfScale.f
  simp only [Option.bind_some, scale_spec, scale_impl]
  by_cases h : ScaleOk l r m
  · simp only [show decide (ScaleOk l r m) = true by simpa using h, if_true]
    obtain ⟨q, e1, e2⟩ := period_both l r m h 2000 5000 [⟨0, 0⟩] 1 0 0 (by omega) (by omega) (by omega) (by simp) (by omega) (by omega) (by omega) (by omega)
    rw [e1, show ([((0, 0), 0)] : List ((Int × Int) × Int)) = mkM [⟨0, 0⟩] 0 from rfl, e2]; simp
  · simp only [show decide (ScaleOk l r m) = false by simpa using h, Bool.false_eq_true, if_false]; simp
end Go.Proofs.Yticeepbpgmidlaa.Pure
