/- FnExactScaleEvents: what the law's Go functions compute, as plain functions, and that the law holds of them at all arguments. -/
import Derived.Test.YticeepbpgmidlaaZx2
namespace Go.Proofs.Yticeepbpgmidlaa.AuxFnExactScaleEvents
open Go.RowKit Go.Proofs.Yticeepbpgmidlaa.Z Go.Proofs.YticeepbpgmidlaaW.PrintWords Go.Proofs.YticeepbpgmidlaaW.PrintLast Go.Proofs.YticeepbpgmidlaaW.PrintMore
set_option linter.unusedVariables false
set_option linter.unusedSimpArgs false
theorem w64 {x : Int} (h0 : -9223372036854775808 ≤ x) (h1 : x ≤ 9223372036854775807) : wrap64 x = x := by
  unfold wrap64; omega
theorem in_spec (a b c : Int) : spec_l1In.f a b c = some (decide (b ≤ a ∧ a ≤ c)) := by
  unfold spec_l1In.f
  by_cases h : a ≥ b
  · rw [if_pos h]; congr 1; simp [show b ≤ a from h]
  · rw [if_neg h]; congr 1; simp [show ¬ b ≤ a from h]
theorem in_impl (a b c : Int) : impl_within.f a b c = some (decide (b ≤ a ∧ a ≤ c)) := by
  unfold impl_within.f
  by_cases h : b ≤ a
  · rw [if_pos h]; congr 1; simp [h]
  · rw [if_neg h]; congr 1; simp [h]
def ScaleOk (l r m : Int) : Prop := (0 ≤ l ∧ l ≤ 60) ∧ (0 ≤ r ∧ r ≤ 60) ∧ 1 ≤ m ∧ m ≤ 1000
instance (l r m : Int) : Decidable (ScaleOk l r m) := by unfold ScaleOk; infer_instance
theorem scale_spec (l r m : Int) : spec_ckScale.f l r m = some (decide (ScaleOk l r m)) := by
  unfold spec_ckScale.f
  simp only [in_spec, Option.bind_some]
  by_cases a : 0 ≤ l ∧ l ≤ 60
  · rw [if_pos (by simpa using a)]
    by_cases b : 0 ≤ r ∧ r ≤ 60
    · rw [if_pos (by simpa using b)]; simp [ScaleOk, a, b]
    · rw [if_neg (by simpa using b)]; simp [ScaleOk, b]
  · rw [if_neg (by simpa using a)]; simp [ScaleOk, a]
theorem scale_impl (l r m : Int) : impl_isScale.f l r m = some (decide (ScaleOk l r m)) := by
  unfold impl_isScale.f
  simp only [in_impl, Option.bind_some]
  by_cases a : 0 ≤ l ∧ l ≤ 60
  · rw [if_pos (by simpa using a)]
    by_cases b : 0 ≤ r ∧ r ≤ 60
    · rw [if_pos (by simpa using b)]; simp [ScaleOk, a, b]
    · rw [if_neg (by simpa using b)]; simp [ScaleOk, b]
  · rw [if_neg (by simpa using a)]; simp [ScaleOk, a]
/-- both pans and the event behind a tick -/
def tk (l r m a b : Int) : Int × Int × Int :=
  if a + l ≥ b + r + m then (0, b + r, 108) else if b + r ≥ a + l + m then (a + l, 0, 114) else (a + l, b + r, 45)
theorem tk_bd (l r m a b B : Int) (h : ScaleOk l r m) (a0 : 0 ≤ a) (a1 : a ≤ B) (b0 : 0 ≤ b) (b1 : b ≤ B) :
    (0 ≤ (tk l r m a b).1 ∧ (tk l r m a b).1 ≤ B + 60) ∧ (0 ≤ (tk l r m a b).2.1 ∧ (tk l r m a b).2.1 ≤ B + 60) := by
  obtain ⟨⟨_, _⟩, ⟨_, _⟩, _, _⟩ := h
  unfold tk
  split
  · simp only; omega
  · split <;> simp only <;> omega
def chOf (e : Int) : ByteArray := if e = 108 then ⟨#[108]⟩ else if e = 114 then ⟨#[114]⟩ else ⟨#[45]⟩
theorem tick_spec (l r m a b : Int) (h : ScaleOk l r m) (a0 : 0 ≤ a) (a1 : a ≤ 1000000) (b0 : 0 ≤ b) (b1 : b ≤ 1000000) :
    spec_ckPans_tick.f a b l r m = some ((tk l r m a b).1, (tk l r m a b).2.1, chOf (tk l r m a b).2.2) := by
  obtain ⟨⟨_, _⟩, ⟨_, _⟩, _, _⟩ := h
  unfold spec_ckPans_tick.f tk
  rw [w64 (x := a + l) (by omega) (by omega), w64 (x := b + r) (by omega) (by omega), w64 (x := b + r + m) (by omega) (by omega), w64 (x := a + l + m) (by omega) (by omega)]
  by_cases c : a + l ≥ b + r + m
  · rw [if_pos c, if_pos c]; rfl
  · rw [if_neg c, if_neg c]
    by_cases d : b + r ≥ a + l + m
    · rw [if_pos d, if_pos d]; rfl
    · rw [if_neg d, if_neg d]; rfl
theorem tip_impl (l r m a b : Int) (h : ScaleOk l r m) (a0 : 0 ≤ a) (a1 : a ≤ 1000000) (b0 : 0 ≤ b) (b1 : b ≤ 1000000) :
    impl_Scale_tip.f l r m a b = some (tk l r m a b) := by
  obtain ⟨⟨_, _⟩, ⟨_, _⟩, _, _⟩ := h
  unfold impl_Scale_tip.f tk
  rw [w64 (x := a + l) (by omega) (by omega), w64 (x := b + r) (by omega) (by omega), w64 (x := a + l - (b + r)) (by omega) (by omega), w64 (x := b + r - (a + l)) (by omega) (by omega)]
  by_cases c : a + l ≥ b + r + m
  · rw [if_pos (by omega), if_pos c]
  · rw [if_neg (by omega), if_neg c]
    by_cases d : b + r ≥ a + l + m
    · rw [if_pos (by omega), if_pos d]
    · rw [if_neg (by omega), if_neg d]
theorem tk_ev (l r m a b : Int) : (tk l r m a b).2.2 = 108 ∨ (tk l r m a b).2.2 = 114 ∨ (tk l r m a b).2.2 = 45 := by
  unfold tk
  split
  · exact Or.inl rfl
  · split
    · exact Or.inr (Or.inl rfl)
    · exact Or.inr (Or.inr rfl)
end Go.Proofs.Yticeepbpgmidlaa.AuxFnExactScaleEvents
namespace Go.Proofs.Yticeepbpgmidlaa.Pure
open Go.RowKit Go.Proofs.Yticeepbpgmidlaa.Z Go.Proofs.Yticeepbpgmidlaa.AuxFnExactScaleEvents Go.Proofs.YticeepbpgmidlaaW.PrintWords Go.Proofs.YticeepbpgmidlaaW.PrintLast Go.Proofs.YticeepbpgmidlaaW.PrintMore
theorem str_snoc (xs : List Int) (e : Int) (h : e = 108 ∨ e = 114 ∨ e = 45) : strOfNums (xs ++ [e]) = strOfNums xs ++ chOf e := by
  have he : chOf e = strOfNums [e] := by rcases h with rfl | rfl | rfl <;> decide +kernel
  rw [he]
  apply ByteArray.ext
  simp [strOfNums]
theorem events_both (l r m : Int) (h : ScaleOk l r m) (t : Int) (ht : 0 ≤ t ∧ t ≤ 200) : ∀ (n k : Nat) (xs : List Int) (i a b : Int), 0 ≤ i → i + n = t → n < k → xs.length = i.toNat → 0 ≤ a → a ≤ 60 * i → 0 ≤ b → b ≤ 60 * i →
    ∃ q, spec_ScaleEvents.l0 k (t - i) (strOfNums xs) l r m a b = some (strOfNums q, true) ∧ impl_ScaleEvents.l0 k xs t i l r m a b = some (strOfNums q, true) := by
  intro n
  induction n with
  | zero =>
    intro k xs i a b h0 hn hk hx a0 a1 b0 b1
    obtain ⟨k, rfl⟩ : ∃ m, k = m + 1 := ⟨k - 1, by omega⟩
    simp only [spec_ScaleEvents.l0, impl_ScaleEvents.l0]
    rw [if_neg (by omega), if_neg (by omega)]; exact ⟨xs, rfl, rfl⟩
  | succ n ih =>
    intro k xs i a b h0 hn hk hx a0 a1 b0 b1
    obtain ⟨k, rfl⟩ : ∃ m, k = m + 1 := ⟨k - 1, by omega⟩
    simp only [spec_ScaleEvents.l0, impl_ScaleEvents.l0]
    rw [if_pos (by omega), if_pos (by omega), tick_spec l r m a b h a0 (by omega) b0 (by omega), tip_impl l r m a b h a0 (by omega) b0 (by omega)]
    simp only [Option.bind_some]
    have hb := tk_bd l r m a b (60 * i) h a0 a1 b0 b1
    have he := tk_ev l r m a b
    have hs : (strOfNums xs).size ≤ 1000 := by rw [strOfNums_size]; omega
    have hc : (chOf (tk l r m a b).2.2).size = 1 := by rcases he with e | e | e <;> rw [e] <;> rfl
    rw [if_pos (by omega), if_pos (by omega), w64 (by omega) (by omega), w64 (by omega) (by omega), ← str_snoc xs _ he]
    have := ih k (xs ++ [(tk l r m a b).2.2]) (i + 1) (tk l r m a b).1 (tk l r m a b).2.1 (by omega) (by omega) (by omega) (by simp; omega) (by omega) (by omega) (by omega) (by omega)
    rw [show t - (i + 1) = t - i - 1 by omega] at this
    exact this
theorem FnExactScaleEvents (l r m t : Int) (_ : (Lit.int .i64 l).wf = true) (_ : (Lit.int .i64 r).wf = true) (_ : (Lit.int .i64 m).wf = true) (_ : (Lit.int .i64 t).wf = true) : ∃ k, laws_FnExactScaleEvents.f k l r m t = some true := by
  refine ⟨205, ?_⟩
  unfold laws_FnExactScaleEvents.f laws_toScale.f spec_ScaleEvents.f impl_ScaleEvents.f
  simp only [Option.bind_some, scale_spec, scale_impl, in_spec, in_impl]
  by_cases h : ScaleOk l r m
  · simp only [show decide (ScaleOk l r m) = true by simpa using h, if_true, spec_ScaleEvents.j0, impl_ScaleEvents.j0]
    by_cases ht : 0 ≤ t ∧ t ≤ 200
    · simp only [show decide (0 ≤ t ∧ t ≤ 200) = true by simpa using ht, Bool.not_true, Bool.false_eq_true, if_false]
      obtain ⟨q, e1, e2⟩ := events_both l r m h t ht t.toNat 204 [] 0 0 0 (by omega) (by omega) (by omega) (by simp) (by omega) (by omega) (by omega) (by omega)
      rw [show (⟨#[]⟩ : ByteArray) = strOfNums [] from rfl, show t = t - 0 by omega] at *
      simp only [Int.sub_zero] at e1 e2 ⊢
      rw [e1, e2]; simp
    · simp only [show decide (0 ≤ t ∧ t ≤ 200) = false by simpa using ht, Bool.not_false, if_true]; simp
  · simp only [show decide (ScaleOk l r m) = false by simpa using h, Bool.false_eq_true, if_false, spec_ScaleEvents.j0, impl_ScaleEvents.j0]; simp
end Go.Proofs.Yticeepbpgmidlaa.Pure
