/- Plain functions and what they come to. -/
import Derived.Test.YtieioddimkafbaaTaPuWay
import Derived.Test.YtieioddimkafbaaTaPuBase
import Derived.Test.YtieioddimkafbaaTaVsA
import Derived.Test.YtieioddimkafbaaTaViA
namespace Go.Proofs.Ytieioddimkafbaa.PuB
open Go.RowKit Go.Proofs.Ytieioddimkafbaa.V Go.Proofs.YtieioddimkafbaaW.PrintWords Go.Proofs.YtieioddimkafbaaW.PrintLast Go.Proofs.YtieioddimkafbaaW.PrintMore Go.Proofs.Ytieioddimkafbaa Go.Proofs.Ytieioddimkafbaa.PuB
set_option linter.unusedVariables false
set_option linter.unusedSimpArgs false
theorem has_l0 (l : List Int) (a : Int) (hb : l.length ≤ 1000) : ∀ (d k i : Nat), i + d = l.length → d < k → spec_l1Has.l0 k a l (l.length : Int) (i : Int) = some (decide (a ∈ l.drop i))
  | 0, 0, i, _, h => by omega
  | 0, k + 1, i, hi, _ => by
    simp only [spec_l1Has.l0]
    rw [if_neg (by omega), List.drop_eq_nil_of_le (by omega)]
    simp
  | d + 1, 0, i, _, h => by omega
  | d + 1, k + 1, i, hi, hk => by
    simp only [spec_l1Has.l0]
    rw [if_pos (by omega), if_pos (by omega), if_pos (by omega), drop_rd l i (by omega)]
    by_cases e : rd l (i : Int) = a
    · rw [if_pos e]; simp [e]
    · rw [if_neg e, w64 (by omega) (by omega)]
      have := has_l0 l a hb d k (i + 1) (by omega) (by omega)
      rw [show ((i : Int) + 1) = ((i + 1 : Nat) : Int) by omega, this]
      simp only [List.mem_cons]
      congr 1
      rw [decide_eq_decide]
      exact ⟨fun h => .inr h, fun h => h.resolve_left (fun h => e h.symm)⟩
theorem has_ev (l : List Int) (a : Int) (hb : l.length ≤ 1000) : Ev (fun k => spec_l1Has.f k l a) (decide (a ∈ l)) := Ev.of 2000 fun k hk => by
  unfold spec_l1Has.f
  have := has_l0 l a hb l.length k 0 (by omega) (by omega)
  simpa using this
theorem idx_l0 (l : List Int) (a : Int) (hb : l.length ≤ 1000) : ∀ (d k i : Nat), i + d = l.length → d < k → ∃ r, slices_Index_int_int.l0 k l a (l.length : Int) (i : Int) = some r ∧ decide (r ≥ 0) = decide (a ∈ l.drop i)
  | 0, 0, i, _, h => by omega
  | 0, k + 1, i, hi, _ => by
    simp only [slices_Index_int_int.l0]
    rw [if_neg (by omega), List.drop_eq_nil_of_le (by omega)]
    exact ⟨-1, rfl, by simp⟩
  | d + 1, 0, i, _, h => by omega
  | d + 1, k + 1, i, hi, hk => by
    simp only [slices_Index_int_int.l0]
    rw [if_pos (by omega), if_pos (by omega), if_pos (by omega), drop_rd l i (by omega)]
    by_cases e : a = rd l (i : Int)
    · rw [if_pos e]; exact ⟨_, rfl, by simp [e]⟩
    · rw [if_neg e, w64 (by omega) (by omega)]
      obtain ⟨r, h1, h2⟩ := idx_l0 l a hb d k (i + 1) (by omega) (by omega)
      refine ⟨r, by rw [show ((i : Int) + 1) = ((i + 1 : Nat) : Int) by omega]; exact h1, ?_⟩
      rw [h2, decide_eq_decide, List.mem_cons]
      exact ⟨fun h => .inr h, fun h => h.resolve_left e⟩
theorem meas_f (S l : List Int) (a : Int) (hb : l.length ≤ 1000) (k : Nat) (hk : 2000 < k) : impl_measures.f k S l a = some (decide (a ∈ l)) := by
  unfold impl_measures.f slices_Contains_int_int.f slices_Index_int_int.f
  obtain ⟨r, h1, h2⟩ := idx_l0 l a hb l.length k 0 (by omega) (by omega)
  rw [show ((0 : Int)) = ((0 : Nat) : Int) from rfl, h1]
  simp only [Option.bind_some]
  rw [show ((0 : Nat) : Int) = (0 : Int) from rfl, h2]
  simp
theorem held_ev (S : List Int) (hs : List (List Int)) (a : Int) (hb : ∀ h ∈ hs, h.length ≤ 1000) : Ev (fun k => impl_idxHeld.f k (hs.map (vs S)) a) (Gv.idxF (fun x : Vs => decide (a ∈ x.f1)) (hs.map (vs S))) := Ev.of 2000 fun k hk => by
  unfold impl_idxHeld.f idxO
  have e : ∀ x ∈ hs.map (vs S), impl_measures.f k x.f0 x.f1 a = some (decide (a ∈ x.f1)) := by
    intro x hx
    obtain ⟨h, hh, rfl⟩ := List.mem_map.1 hx
    exact meas_f S h a (hb h hh) k hk
  rw [if_pos (List.all_eq_true.mpr fun x hx => by show (impl_measures.f k x.f0 x.f1 a).isSome = true; rw [e x hx]; rfl)]
  congr 1
  unfold Gv.idxF
  rw [idxHeld_ext (f := fun x : Vs => impl_measures.f k x.f0 x.f1 a == some true) (g := fun x : Vs => decide (a ∈ x.f1)) _ (fun x hx => by
    show (impl_measures.f k x.f0 x.f1 a == some true) = _
    rw [e x hx]; cases decide (a ∈ x.f1) <;> rfl)]
theorem least (P : Nat → Prop) [DecidablePred P] : ∀ n : Nat, (∀ j, j < n → ¬ P j) ∨ ∃ i, i < n ∧ P i ∧ ∀ j, j < i → ¬ P j
  | 0 => .inl fun j hj => absurd hj (Nat.not_lt_zero _)
  | n + 1 => by
    rcases least P n with h | ⟨i, h1, h2, h3⟩
    · by_cases c : P n
      · exact .inr ⟨n, Nat.lt_succ_self n, c, h⟩
      · exact .inl fun j hj => by
          by_cases e : j = n
          · rw [e]; exact c
          · exact h j (by omega)
    · exact .inr ⟨i, by omega, h2, h3⟩
theorem amt_l0 {S H0 : List Int} {a : Bool} {i0 : Nat} {st : St} (G : Good S H0 a 3000 i0 st) (hS : S.length ≤ 5) (x : Int) (s2 : List Int) (s3 : List Mv) (s4 s5 : List Int) (n : Nat) (hn : n ≤ st.hs.length) (hb : ∀ j, j < n → ¬ x ∈ st.hs.getD j []) (q : List Mv × Bool)
    (fin : Ev (fun k => spec_PlanToAmount.l0 k x (st.hs.map (vs S)) ((st.hs.map (vs S)).length : Int) (n : Int) (st.hs.map (vs S)) s2 s3 s4 s5) q) : ∀ (d i : Nat), i + d = n → Ev (fun k => spec_PlanToAmount.l0 k x (st.hs.map (vs S)) ((st.hs.map (vs S)).length : Int) (i : Int) (st.hs.map (vs S)) s2 s3 s4 s5) q
  | 0, i, hi => by rw [show i = n by omega]; exact fin
  | d + 1, i, hi => by
    have hle := G.le
    have hl : (st.hs.map (vs S)).length = st.hs.length := List.length_map ..
    refine Ev.succ ?_
    simp only [spec_PlanToAmount.l0]
    have hm : st.hs.getD i [] ∈ st.hs := by rw [getD_get _ _ _ (by omega)]; exact List.getElem_mem _
    have hh : Ev (fun k => spec_l1Has.f k (rd_T35 (st.hs.map (vs S)) (i : Int)).f1 x) (decide (x ∈ st.hs.getD i [])) := by
      rw [rdV S st.hs i (by omega)]
      exact has_ev _ x (by rw [show (vs S (st.hs.getD i [])).f1 = st.hs.getD i [] from rfl, G.ln _ hm]; omega)
    rw [decide_eq_false (hb i (by omega))] at hh
    refine Ev.pos (by omega) (Ev.pos (by omega) (Ev.pos (by omega) (Ev.bind hh (Ev.neg (by decide) ?_))))
    rw [w64 (by omega) (by omega)]
    have := amt_l0 G hS x s2 s3 s4 s5 n hn hb q fin d (i + 1) (by omega)
    exact_mod_cast this
theorem amt_both (S H : List Int) (x : Int) (a : Bool) (h0 : S.length ≤ 1048576) : ∃ q : List Mv × Bool, q.1.length ≤ 10000 ∧ (q.2 = false → q.1 = []) ∧ Ev (fun k => spec_PlanToAmount.f k S H x a) q ∧ Ev (fun k => impl_PlanToAmount.f k S H x a) q := by
  obtain ⟨r, hr, E⟩ := asked_ev S H a h0
  have EI := reach_ev S H a h0
  have P1 : Ev (fun _ => spec_plAmount.f x) (decide (0 ≤ x ∧ x ≤ 60)) := by
    unfold spec_plAmount.f
    rw [in_spec]; exact Ev.const rfl
  have P2 : Ev (fun _ => impl_within.f x 0 60) (decide (0 ≤ x ∧ x ≤ 60)) := Ev.const (in_impl x 0 60)
  unfold spec_PlanToAmount.f impl_PlanToAmount.f
  cases e : got S H a with
  | none =>
    rw [e] at hr EI
    have hr' : r.2.2.2.2.2 = false := hr
    refine ⟨([], false), by simp, fun _ => rfl, Ev.bind E (Ev.neg (by rw [hr']; decide) (Ev.succ ?_)), Ev.bind EI (Ev.neg (show ¬ (false = true) by decide) (Ev.succ ?_))⟩
    · simp only [spec_PlanToAmount.j0]; exact Ev.pos trivial (Ev.const rfl)
    · simp only [impl_PlanToAmount.j0]; exact Ev.pos trivial (Ev.const rfl)
  | some st =>
    obtain ⟨⟨⟨i, G⟩, C⟩, hv⟩ := got_fin e
    rw [e] at hr EI
    obtain ⟨ol, O, rfl⟩ := hr
    have F := VOk.facts hv
    have hS : S.length ≤ 5 := F.n1
    have hle := G.le
    have hl : (st.hs.map (vs S)).length = st.hs.length := List.length_map ..
    by_cases c : 0 ≤ x ∧ x ≤ 60
    · rw [decide_eq_true c] at P1 P2
      have HH := held_ev S st.hs x (fun h hh => by rw [G.ln h hh]; omega)
      rcases least (fun j => x ∈ st.hs.getD j []) st.hs.length with hno | ⟨n, n1, n2, n3⟩
      · have hi : Gv.idxF (fun y : Vs => decide (x ∈ y.f1)) (st.hs.map (vs S)) = -1 := Gv.idxF_miss _ _ (fun j hj => by
          rw [List.getElem_map]
          rw [hl] at hj
          have := hno j hj
          rw [getD_get _ _ _ hj] at this
          exact decide_eq_false this)
        rw [hi] at HH
        refine ⟨([], false), by simp, fun _ => rfl, Ev.bind E (Ev.pos rfl (Ev.bind P1 (Ev.succ ?_))), Ev.bind EI (Ev.pos rfl (Ev.bind P2 (Ev.succ ?_)))⟩
        · simp only [spec_PlanToAmount.j0]
          refine Ev.neg (by decide) ?_
          refine amt_l0 G hS x st.frm st.mv st.dep (oli ol) st.hs.length (Nat.le_refl _) hno _ (Ev.succ ?_) st.hs.length 0 (by omega)
          simp only [spec_PlanToAmount.l0]
          exact Ev.neg (by omega) (Ev.const rfl)
        · simp only [impl_PlanToAmount.j0]
          exact Ev.neg (by decide) (Ev.bind HH (Ev.pos (by omega) (Ev.const rfl)))
      · have hi : Gv.idxF (fun y : Vs => decide (x ∈ y.f1)) (st.hs.map (vs S)) = (n : Int) := Gv.idxF_hit _ _ n (by omega) (by
          rw [List.getElem_map]
          rw [getD_get _ _ _ n1] at n2
          exact decide_eq_true n2) (fun j hj => by
          rw [List.getElem_map]
          have := n3 j hj
          rw [getD_get _ _ _ (by omega)] at this
          exact decide_eq_false this)
        rw [hi] at HH
        obtain ⟨W, w1, w2, w3⟩ := way_ev G (Nat.le_refl _) (st.hs.map (vs S)) st.dep (oli ol) (st.hs.map (vs S)) (plc st.hs) st.dep n n1
        refine ⟨(W.reverse, true), by simp; omega, fun h => by simp at h, Ev.bind E (Ev.pos rfl (Ev.bind P1 (Ev.succ ?_))), Ev.bind EI (Ev.pos rfl (Ev.bind P2 (Ev.succ ?_)))⟩
        · simp only [spec_PlanToAmount.j0]
          refine Ev.neg (by decide) ?_
          refine amt_l0 G hS x st.frm st.mv st.dep (oli ol) n (by omega) n3 _ (Ev.succ ?_) n 0 (by omega)
          simp only [spec_PlanToAmount.l0]
          have hm : st.hs.getD n [] ∈ st.hs := by rw [getD_get _ _ _ n1]; exact List.getElem_mem _
          have hh : Ev (fun k => spec_l1Has.f k (rd_T35 (st.hs.map (vs S)) (n : Int)).f1 x) (decide (x ∈ st.hs.getD n [])) := by
            rw [rdV S st.hs n n1]
            exact has_ev _ x (by rw [show (vs S (st.hs.getD n [])).f1 = st.hs.getD n [] from rfl, G.ln _ hm]; omega)
          rw [decide_eq_true n2] at hh
          refine Ev.pos (by omega) (Ev.pos (by omega) (Ev.pos (by omega) (Ev.bind hh (Ev.pos rfl (Ev.bind (x := W.reverse) ?_ (Ev.const rfl))))))
          have := w2 [] (by simp; omega)
          unfold spec_plWay.f
          simp only [List.append_nil] at this
          exact this
        · simp only [impl_PlanToAmount.j0]
          refine Ev.neg (by decide) (Ev.bind HH (Ev.neg (by omega) (Ev.bind (x := W.reverse) ?_ (Ev.const rfl))))
          have := w3 [] (by simp; omega)
          unfold impl_reach_planTo.f
          simp only [List.nil_append] at this
          exact this
    · rw [decide_eq_false c] at P1 P2
      refine ⟨([], false), by simp, fun _ => rfl, Ev.bind E (Ev.pos rfl (Ev.bind P1 (Ev.succ ?_))), Ev.bind EI (Ev.pos rfl (Ev.bind P2 (Ev.succ ?_)))⟩
      · simp only [spec_PlanToAmount.j0]; exact Ev.pos (by decide) (Ev.const rfl)
      · simp only [impl_PlanToAmount.j0]; exact Ev.pos (by decide) (Ev.const rfl)
end Go.Proofs.Ytieioddimkafbaa.PuB
