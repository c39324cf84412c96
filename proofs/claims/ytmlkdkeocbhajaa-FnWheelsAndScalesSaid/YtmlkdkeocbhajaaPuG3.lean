/- Plain functions and what they come to. -/
import Derived.Test.YtmlkdkeocbhajaaPuG2
import Derived.Lib.Bytes
namespace Go.Proofs.Ytmlkdkeocbhajaa.PuB
open Go.RowKit Go.Proofs.Ytmlkdkeocbhajaa.G Go.Proofs.YtmlkdkeocbhajaaW.PrintLast Go.Proofs.YtmlkdkeocbhajaaW.PrintMore
open Go.Proofs.YtmlkdkeocbhajaaW.PrintWords hiding Ev
set_option linter.unusedVariables false
set_option linter.unusedSimpArgs false
def ScaleOk (l r m : Int) : Prop := (0 ≤ l ∧ l ≤ 60) ∧ (0 ≤ r ∧ r ≤ 60) ∧ 1 ≤ m ∧ m ≤ 1000
instance (l r m : Int) : Decidable (ScaleOk l r m) := by unfold ScaleOk; infer_instance
theorem scale_spec (l r m : Int) : spec_ckScale.f l r m = some (decide (ScaleOk l r m)) := by
  unfold spec_ckScale.f
  simp only [in_spec, Option.bind_some]
  by_cases a : 0 ≤ l ∧ l ≤ 60
  · rw [if_pos (by simpa using a)]
    by_cases b : 0 ≤ r ∧ r ≤ 60
    · rw [if_pos (by simpa using b)]; simp [ScaleOk, a, b]
    · rw [if_neg (by simpa using b)]; simp [ScaleOk, b]
  · rw [if_neg (by simpa using a)]; simp [ScaleOk, a]
theorem scale_impl (l r m : Int) : impl_isScale.f l r m = some (decide (ScaleOk l r m)) := by
  unfold impl_isScale.f
  simp only [in_impl, Option.bind_some]
  by_cases a : 0 ≤ l ∧ l ≤ 60
  · rw [if_pos (by simpa using a)]
    by_cases b : 0 ≤ r ∧ r ≤ 60
    · rw [if_pos (by simpa using b)]; simp [ScaleOk, a, b]
    · rw [if_neg (by simpa using b)]; simp [ScaleOk, b]
  · rw [if_neg (by simpa using a)]; simp [ScaleOk, a]
/-- both pans and the event behind a tick -/
def tk (l r m a b : Int) : Int × Int × Int :=
  if a + l ≥ b + r + m then (0, b + r, 108) else if b + r ≥ a + l + m then (a + l, 0, 114) else (a + l, b + r, 45)
theorem tk_bd (l r m a b B : Int) (h : ScaleOk l r m) (a0 : 0 ≤ a) (a1 : a ≤ B) (b0 : 0 ≤ b) (b1 : b ≤ B) :
    (0 ≤ (tk l r m a b).1 ∧ (tk l r m a b).1 ≤ B + 60) ∧ (0 ≤ (tk l r m a b).2.1 ∧ (tk l r m a b).2.1 ≤ B + 60) := by
  obtain ⟨⟨_, _⟩, ⟨_, _⟩, _, _⟩ := h
  unfold tk
  split
  · simp only; omega
  · split <;> simp only <;> omega
def chOf (e : Int) : ByteArray := if e = 108 then ⟨#[108]⟩ else if e = 114 then ⟨#[114]⟩ else ⟨#[45]⟩
theorem tick_spec (l r m a b : Int) (h : ScaleOk l r m) (a0 : 0 ≤ a) (a1 : a ≤ 1000000) (b0 : 0 ≤ b) (b1 : b ≤ 1000000) :
    spec_ckPans_tick.f a b l r m = some ((tk l r m a b).1, (tk l r m a b).2.1, chOf (tk l r m a b).2.2) := by
  obtain ⟨⟨_, _⟩, ⟨_, _⟩, _, _⟩ := h
  unfold spec_ckPans_tick.f tk
  rw [w64 (x := a + l) (by omega) (by omega), w64 (x := b + r) (by omega) (by omega), w64 (x := b + r + m) (by omega) (by omega), w64 (x := a + l + m) (by omega) (by omega)]
  by_cases c : a + l ≥ b + r + m
  · rw [if_pos c, if_pos c]; rfl
  · rw [if_neg c, if_neg c]
    by_cases d : b + r ≥ a + l + m
    · rw [if_pos d, if_pos d]; rfl
    · rw [if_neg d, if_neg d]; rfl
theorem tip_impl (l r m a b : Int) (h : ScaleOk l r m) (a0 : 0 ≤ a) (a1 : a ≤ 1000000) (b0 : 0 ≤ b) (b1 : b ≤ 1000000) :
    impl_Scale_tip.f l r m a b = some (tk l r m a b) := by
  obtain ⟨⟨_, _⟩, ⟨_, _⟩, _, _⟩ := h
  unfold impl_Scale_tip.f tk
  rw [w64 (x := a + l) (by omega) (by omega), w64 (x := b + r) (by omega) (by omega), w64 (x := a + l - (b + r)) (by omega) (by omega), w64 (x := b + r - (a + l)) (by omega) (by omega)]
  by_cases c : a + l ≥ b + r + m
  · rw [if_pos (by omega), if_pos c]
  · rw [if_neg (by omega), if_neg c]
    by_cases d : b + r ≥ a + l + m
    · rw [if_pos (by omega), if_pos d]
    · rw [if_neg (by omega), if_neg d]
theorem tk_ev (l r m a b : Int) : (tk l r m a b).2.2 = 108 ∨ (tk l r m a b).2.2 = 114 ∨ (tk l r m a b).2.2 = 45 := by
  unfold tk
  split
  · exact Or.inl rfl
  · split
    · exact Or.inr (Or.inl rfl)
    · exact Or.inr (Or.inr rfl)
theorem str_snoc (xs : List Int) (e : Int) (h : e = 108 ∨ e = 114 ∨ e = 45) : strOfNums (xs ++ [e]) = strOfNums xs ++ chOf e := by
  have he : chOf e = strOfNums [e] := by rcases h with rfl | rfl | rfl <;> decide +kernel
  rw [he]
  apply ByteArray.ext
  simp [strOfNums]
/-- Both pans behind n ticks, and what tick n says. -/
def st (l r m : Int) : Nat → Int × Int
  | 0 => (0, 0)
  | n + 1 => ((tk l r m (st l r m n).1 (st l r m n).2).1, (tk l r m (st l r m n).1 (st l r m n).2).2.1)
def evn (l r m : Int) (n : Nat) : Int := (tk l r m (st l r m n).1 (st l r m n).2).2.2
def evl (l r m : Int) (n : Nat) : List Int := (List.range n).map (evn l r m)
theorem evl_succ (l r m : Int) (n : Nat) : evl l r m (n + 1) = evl l r m n ++ [evn l r m n] := by simp [evl, List.range_succ]
theorem evl_len (l r m : Int) (n : Nat) : (evl l r m n).length = n := by simp [evl]
theorem st_bd {l r m : Int} (h : ScaleOk l r m) : ∀ n : Nat, (0 ≤ (st l r m n).1 ∧ (st l r m n).1 ≤ 60 * n) ∧ (0 ≤ (st l r m n).2 ∧ (st l r m n).2 ≤ 60 * n)
  | 0 => by simp [st]
  | n + 1 => by
    have ih := st_bd h n
    have := tk_bd l r m (st l r m n).1 (st l r m n).2 (60 * n) h ih.1.1 ih.1.2 ih.2.1 ih.2.2
    simp only [st]
    omega
theorem st_per {l r m : Int} {p v : Nat} (h : st l r m p = st l r m v) : ∀ j, st l r m (p + j) = st l r m (v + j)
  | 0 => h
  | j + 1 => by
    have ih := st_per h j
    rw [← Nat.add_assoc, ← Nat.add_assoc]
    simp only [st, ih]
theorem events_are {l r m : Int} (h : ScaleOk l r m) (t : Nat) (ht : t ≤ 200) : ∀ (n i : Nat), i + n = t →
    Ev (fun k => spec_ScaleEvents.l0 k ((t : Int) - i) (strOfNums (evl l r m i)) l r m (st l r m i).1 (st l r m i).2) (strOfNums (evl l r m t), true) ∧ Ev (fun k => impl_ScaleEvents.l0 k (evl l r m i) t i l r m (st l r m i).1 (st l r m i).2) (strOfNums (evl l r m t), true) := by
  intro n
  induction n with
  | zero =>
    intro i hi
    obtain rfl : i = t := by omega
    refine ⟨Ev.succ ?_, Ev.succ ?_⟩
    · simp only [spec_ScaleEvents.l0]; exact Ev.neg (by omega) (Ev.const rfl)
    · simp only [impl_ScaleEvents.l0]; exact Ev.neg (by omega) (Ev.const rfl)
  | succ n ih =>
    intro i hi
    have sb := st_bd h i
    obtain ⟨i1, i2⟩ := ih (i + 1) (by omega)
    have he := tk_ev l r m (st l r m i).1 (st l r m i).2
    have hs : (strOfNums (evl l r m i)).size ≤ 1000 := by rw [strOfNums_size, evl_len]; omega
    have hc : (chOf (evn l r m i)).size = 1 := by unfold evn; rcases he with e | e | e <;> rw [e] <;> rfl
    rw [evl_succ] at i1 i2
    refine ⟨Ev.succ ?_, Ev.succ ?_⟩
    · simp only [spec_ScaleEvents.l0]
      rw [tick_spec l r m _ _ h sb.1.1 (by omega) sb.2.1 (by omega)]
      simp only [Option.bind_some]
      rw [w64 (by omega) (by omega)]
      rw [str_snoc (evl l r m i) (evn l r m i) he] at i1
      rw [show (t : Int) - ((i + 1 : Nat) : Int) = t - i - 1 by omega] at i1
      exact Ev.pos (by omega) (Ev.pos (by show _ + (chOf (evn l r m i)).size ≤ _; omega) i1)
    · simp only [impl_ScaleEvents.l0]
      rw [tip_impl l r m _ _ h sb.1.1 (by omega) sb.2.1 (by omega)]
      simp only [Option.bind_some]
      rw [w64 (by omega) (by omega)]
      exact Ev.pos (by omega) (Ev.pos (by rw [evl_len]; omega) i2)
def aEvents (l r m t : Int) : ByteArray × Bool := if ScaleOk l r m ∧ 0 ≤ t ∧ t ≤ 200 then (strOfNums (evl l r m t.toNat), true) else (⟨#[]⟩, false)
theorem EventsI (l r m t : Int) : Ev (fun k => impl_ScaleEvents.f k l r m t) (aEvents l r m t) := by
  unfold impl_ScaleEvents.f aEvents
  rw [scale_impl, in_impl]; simp only [Option.bind_some]
  have J : Ev (fun k => impl_ScaleEvents.j0 k t true l r m) (⟨#[]⟩, false) := Ev.succ (by simp only [impl_ScaleEvents.j0]; exact Ev.pos (by first | rfl | trivial) (Ev.const rfl))
  by_cases h : ScaleOk l r m
  · refine Ev.pos (decide_eq_true h) ?_
    by_cases ht : 0 ≤ t ∧ t ≤ 200
    · rw [if_pos ⟨h, ht⟩, decide_eq_true ht]
      refine Ev.succ ?_
      simp only [impl_ScaleEvents.j0]
      have := (events_are h t.toNat (by omega) t.toNat 0 (by omega)).2
      rw [Int.toNat_of_nonneg ht.1] at this
      exact Ev.neg (by simp) this
    · rw [if_neg (fun z => ht z.2), decide_eq_false ht]; exact J
  · rw [if_neg (fun z => h z.1)]
    exact Ev.neg (nf h) J
theorem EventsS (l r m t : Int) : Ev (fun k => spec_ScaleEvents.f k l r m t) (aEvents l r m t) := by
  unfold spec_ScaleEvents.f aEvents
  rw [scale_spec, in_spec]; simp only [Option.bind_some]
  have J : Ev (fun k => spec_ScaleEvents.j0 k t true l r m) (⟨#[]⟩, false) := Ev.succ (by simp only [spec_ScaleEvents.j0]; exact Ev.pos (by first | rfl | trivial) (Ev.const rfl))
  by_cases h : ScaleOk l r m
  · refine Ev.pos (decide_eq_true h) ?_
    by_cases ht : 0 ≤ t ∧ t ≤ 200
    · rw [if_pos ⟨h, ht⟩, decide_eq_true ht]
      refine Ev.succ ?_
      simp only [spec_ScaleEvents.j0]
      have := (events_are h t.toNat (by omega) t.toNat 0 (by omega)).1
      rw [Int.toNat_of_nonneg ht.1, show t - ((0 : Nat) : Int) = t by omega] at this
      exact Ev.neg (by simp) this
    · rw [if_neg (fun z => ht z.2), decide_eq_false ht]; exact J
  · rw [if_neg (fun z => h z.1)]
    exact Ev.neg (nf h) J
def mkM : List S154 → Int → List ((Int × Int) × Int)
  | [], _ => []
  | s :: xs, i => ((s.f0, s.f1), i) :: mkM xs (i + 1)
theorem mkM_len : ∀ (xs : List S154) (i : Int), (mkM xs i).length = xs.length
  | [], _ => rfl
  | s :: xs, i => by simp [mkM, mkM_len xs]
theorem mkM_snoc (s : S154) : ∀ (xs : List S154) (i : Int), mkM (xs ++ [s]) i = mkM xs i ++ [((s.f0, s.f1), i + xs.length)]
  | [], i => by simp [mkM]
  | x :: xs, i => by
    simp only [List.cons_append, mkM, mkM_snoc s xs (i + 1), List.length_cons]
    congr 4; omega
/-- What the spec's search answers, said of the map. -/
def ans (o : Option Int) : Int := o.getD (-1)
theorem seen_l (a b : Int) (xs : List S154) (hx : xs.length ≤ 100000) : ∀ (n k : Nat) (i : Nat), i + n = xs.length → n < k → spec_ckSeen.l0 k xs (xs.length : Int) (i : Int) a b = some (ans (Gv.lk (mkM (xs.drop i) i) (a, b))) := by
  intro n
  induction n with
  | zero =>
    intro k i hi hk
    obtain ⟨k, rfl⟩ : ∃ m, k = m + 1 := ⟨k - 1, by omega⟩
    simp only [spec_ckSeen.l0]
    rw [if_neg (by omega), List.drop_eq_nil_of_le (by omega)]; rfl
  | succ n ih =>
    intro k i hi hk
    obtain ⟨k, rfl⟩ : ∃ m, k = m + 1 := ⟨k - 1, by omega⟩
    have hlt : i < xs.length := by omega
    have hr : rd_T154 xs (i : Int) = xs[i] := by simp [rd_T154, List.getD, hlt]
    simp only [spec_ckSeen.l0]
    rw [if_pos (by omega), if_pos (by omega), if_pos (by omega), hr, List.drop_eq_getElem_cons hlt, w64 (by omega) (by omega)]
    simp only [mkM, Gv.lk]
    by_cases e : (xs[i].f0, xs[i].f1) = (a, b)
    · rw [if_pos e, if_pos (by injection e with e1 e2; simp [e1, e2])]; rfl
    · rw [if_neg e, if_neg (by intro h; simp only [Bool.and_eq_true, beq_iff_eq] at h; exact e (by rw [h.1, h.2]))]
      have := ih k (i + 1) (by omega) (by omega)
      exact_mod_cast this
theorem seen_f (a b : Int) (xs : List S154) (hx : xs.length ≤ 100000) (k : Nat) (hk : xs.length < k) : spec_ckSeen.f k xs a b = some (ans (Gv.lk (mkM xs 0) (a, b))) := by
  have := seen_l a b xs hx xs.length k 0 (by omega) hk
  simpa [spec_ckSeen.f] using this
theorem lk_at (x : Int × Int) (v : Int) : ∀ (xs : List S154) (i : Int), Gv.lk (mkM xs i) x = some v → ∃ j : Nat, ∃ h : j < xs.length, v = i + j ∧ (xs[j].f0, xs[j].f1) = x
  | [], i, h => by simp [mkM, Gv.lk] at h
  | s :: xs, i, h => by
    simp only [mkM, Gv.lk] at h
    split at h
    · rename_i e
      injection h with h
      exact ⟨0, by simp, by omega, e⟩
    · obtain ⟨j, hj, e, f⟩ := lk_at x v xs (i + 1) h
      exact ⟨j + 1, by simp; omega, by omega, by simpa using f⟩
theorem wf_of (x : Int) (h : 0 ≤ x) (h2 : x ≤ 1000000) : (Lit.int .i64 x).wf = true := by
  simp only [Lit.wf, IntKind.min, IntKind.max, IntKind.signed, IntKind.bits, Bool.and_eq_true, decide_eq_true_eq, if_true]
  omega
def PerAns (l r m : Int) (q : Int × Int × Bool) : Prop := q.2.2 = true → ∃ p v : Nat, q = ((p : Int), (v : Int), true) ∧ v < p ∧ p ≤ 2000 ∧ st l r m p = st l r m v
def stl (l r m : Int) (n : Nat) : List S154 := (List.range n).map fun i => ⟨(st l r m i).1, (st l r m i).2⟩
theorem stl_succ (l r m : Int) (n : Nat) : stl l r m (n + 1) = stl l r m n ++ [⟨(st l r m n).1, (st l r m n).2⟩] := by simp [stl, List.range_succ]
theorem stl_len (l r m : Int) (n : Nat) : (stl l r m n).length = n := by simp [stl]
theorem period_are {l r m : Int} (h : ScaleOk l r m) : ∀ (n i : Nat), i + n = 2000 →
    ∃ q, PerAns l r m q ∧ Ev (fun k => spec_PeriodOfScale.l0 k (stl l r m (i + 1)) ((i : Int) + 1) l r m (st l r m i).1 (st l r m i).2) q ∧ Ev (fun k => impl_PeriodOfScale.l0 k (mkM (stl l r m (i + 1)) 0) ((i : Int) + 1) l r m (st l r m i).1 (st l r m i).2) q := by
  intro n
  induction n with
  | zero =>
    intro i hi
    refine ⟨(0, 0, false), fun h => (by cases h), Ev.succ ?_, Ev.succ ?_⟩
    · simp only [spec_PeriodOfScale.l0]; exact Ev.neg (by omega) (Ev.const rfl)
    · simp only [impl_PeriodOfScale.l0]; exact Ev.neg (by omega) (Ev.const rfl)
  | succ n ih =>
    intro i hi
    have sb := st_bd h i
    have sb' := st_bd h (i + 1)
    have e1 : (tk l r m (st l r m i).1 (st l r m i).2).1 = (st l r m (i + 1)).1 := rfl
    have e2 : (tk l r m (st l r m i).1 (st l r m i).2).2.1 = (st l r m (i + 1)).2 := rfl
    have hlen := stl_len l r m (i + 1)
    cases hl : Gv.lk (mkM (stl l r m (i + 1)) 0) ((st l r m (i + 1)).1, (st l r m (i + 1)).2) with
    | some v =>
      obtain ⟨j, hj, ev, ej⟩ := lk_at _ _ _ _ hl
      have hst : st l r m (i + 1) = st l r m j := by
        have : (stl l r m (i + 1))[j] = ⟨(st l r m j).1, (st l r m j).2⟩ := by simp [stl]
        rw [this] at ej
        exact ej.symm
      refine ⟨((i : Int) + 1, v, true), fun _ => ⟨i + 1, j, by rw [ev]; simp, by omega, by omega, hst⟩, Ev.succ ?_, Ev.succ ?_⟩
      · simp only [spec_PeriodOfScale.l0]
        rw [tick_spec l r m _ _ h sb.1.1 (by omega) sb.2.1 (by omega)]
        simp only [Option.bind_some]
        rw [e1, e2]
        refine Ev.pos (by omega) (Ev.bind (Ev.of (stl l r m (i + 1)).length fun k hk => seen_f _ _ _ (by omega) k hk) ?_)
        rw [hl]
        exact Ev.pos (by show ans (some v) ≥ 0; unfold ans; simp; omega) (Ev.const rfl)
      · simp only [impl_PeriodOfScale.l0]
        rw [tip_impl l r m _ _ h sb.1.1 (by omega) sb.2.1 (by omega)]
        simp only [Option.bind_some]
        rw [e1, e2, hl]
        exact Ev.pos (by omega) (Ev.pos (wf_of _ sb'.1.1 (by omega)) (Ev.pos (wf_of _ sb'.2.1 (by omega)) (Ev.pos rfl (Ev.const rfl))))
    | none =>
      obtain ⟨q, hq, i1, i2⟩ := ih (i + 1) (by omega)
      rw [stl_succ l r m (i + 1)] at i1 i2
      rw [mkM_snoc, hlen] at i2
      have ec : ((i + 1 : Nat) : Int) = (i : Int) + 1 := by omega
      rw [ec] at i1 i2
      refine ⟨q, hq, Ev.succ ?_, Ev.succ ?_⟩
      · simp only [spec_PeriodOfScale.l0]
        rw [tick_spec l r m _ _ h sb.1.1 (by omega) sb.2.1 (by omega)]
        simp only [Option.bind_some]
        rw [e1, e2, w64 (x := (i : Int) + 1 + 1) (by omega) (by omega)]
        refine Ev.pos (by omega) (Ev.bind (Ev.of (stl l r m (i + 1)).length fun k hk => seen_f _ _ _ (by omega) k hk) ?_)
        rw [hl]
        exact Ev.neg (by show ¬ ans none ≥ 0; decide) (Ev.pos (by omega) i1)
      · simp only [impl_PeriodOfScale.l0]
        rw [tip_impl l r m _ _ h sb.1.1 (by omega) sb.2.1 (by omega)]
        simp only [Option.bind_some]
        rw [e1, e2, hl, w64 (x := (i : Int) + 1 + 1) (by omega) (by omega)]
        rw [show (0 : Int) + ((i : Int) + 1) = (i : Int) + 1 by omega] at i2
        exact Ev.pos (by omega) (Ev.pos (wf_of _ sb'.1.1 (by omega)) (Ev.pos (wf_of _ sb'.2.1 (by omega)) (Ev.neg (by simp) i2)))
theorem Periods (l r m : Int) : ∃ q, ((q.2.2 = true → ScaleOk l r m) ∧ PerAns l r m q) ∧ Ev (fun k => spec_PeriodOfScale.f k l r m) q ∧ Ev (fun k => impl_PeriodOfScale.f k l r m) q := by
  unfold spec_PeriodOfScale.f impl_PeriodOfScale.f
  rw [scale_impl, scale_spec]; simp only [Option.bind_some]
  by_cases h : ScaleOk l r m
  · obtain ⟨q, hq, i1, i2⟩ := period_are h 2000 0 (by omega)
    exact ⟨q, ⟨fun _ => h, hq⟩, Ev.pos (decide_eq_true h) i1, Ev.pos (decide_eq_true h) i2⟩
  · exact ⟨(0, 0, false), ⟨fun h => (by cases h), fun h => (by cases h)⟩, Ev.neg (nf h) (Ev.const rfl), Ev.neg (nf h) (Ev.const rfl)⟩
end Go.Proofs.Ytmlkdkeocbhajaa.PuB
